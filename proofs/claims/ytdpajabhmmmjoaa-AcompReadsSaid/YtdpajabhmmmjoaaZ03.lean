import Derived.KernelRfl
import Derived.Test.YtdpajabhmmmjoaaZ02
noncomputable section
namespace Go.AM
set_option autoImplicit false
set_option linter.unusedSimpArgs false
set_option linter.unusedVariables false
section
variable{P:Program}
def acb:Option (List V×List V)→V→V
 |none,h=>h
 |some (p,q),h=>.tup (p++h::q)
def aqf:Option (List V×List V)→Bool
 |none=>true
 |some (p,q)=>p.all V.flat&&q.all V.flat
def adQ(P:Program)(f:FuncId)(vs:List V)(o:Option (List V×List V))(k:EK)(xs:List (Ty k)):Prop:=
 iX P f vs [] (acb o (.sw k 0 xs.length)) [some [.rw k xs],none]
theorem adQ.dim{f:FuncId}{vs us:List V}{o:Option (List V×List V)}{k:EK}{xs:List (Ty k)}(h:adQ P f us o k xs)(e:vs.map V.dim=us):adQ P f vs o k xs:=iX.dim h e
theorem azN{I I':Nat→Nat→Prop}{ρ ρ':Nat→Nat}{N N':Nat}{w:World}{o:Option (List V×List V)}{h h':V}{cv:Value}(ho:aqf o=true)(hr:VRel I ρ N w (acb o h) cv)
  (hh:∀cv,VRel I ρ N w h cv→VRel I' ρ' N' w h' cv) (hf:∀v cv,v.flat=true→VRel I ρ N w v cv→VRel I' ρ' N' w v cv):VRel I' ρ' N' w (acb o h') cv:=by
 cases o with
 |none=>exact hh cv hr
 |some pq=>
  obtain⟨p,q⟩:=pq
  simp only[aqf,Bool.and_eq_true] at ho
  simp only[acb] at hr ⊢
  cases hr with
  |tup _ vs hl hv=>
  refine .tup _ vs (by simpa using hl) ?_
  intro i c cv hc hcv
  rcases Nat.lt_trichotomy i p.length with hi|hi|hi
  ·rw[List.getElem?_append_left hi] at hc
   exact hf c cv (List.all_eq_true.1 ho.1 c (List.mem_of_getElem? hc)) (hv i c cv (by rw[List.getElem?_append_left hi];exact hc) hcv)
  ·subst hi
   rw[List.getElem?_append_right (Nat.le_refl _),Nat.sub_self] at hc
   simp only[List.getElem?_cons_zero,Option.some.injEq] at hc
   subst hc
   exact hh cv (hv _ h cv (by rw[List.getElem?_append_right (Nat.le_refl _),Nat.sub_self];rfl) hcv)
  ·rw[List.getElem?_append_right (by omega),show i-p.length=(i-p.length-1)+1 by omega,List.getElem?_cons_succ] at hc
   exact hf c cv (List.all_eq_true.1 ho.2 c (List.mem_of_getElem? hc)) (hv i c cv (by rw[List.getElem?_append_right (by omega),show i-p.length=(i-p.length-1)+1 by omega,List.getElem?_cons_succ];exact hc) hcv)
theorem azO{g:Gh}{w:World}{occ:Occ}{o:Option (List V×List V)}{k:EK}{id n:Nat}{cv:Value}:aT g w occ (acb o (.sw k id n)) cv:=by
 cases o with
 |none=>simp[acb,aT]
 |some pq=>simp[acb,aT]
theorem adQ.frame{f:FuncId}{vs:List V}{o:Option (List V×List V)}{k:EK}{xs:List (Ty k)}(h:adQ P f vs o k xs)(hf:vs.all V.flat=true)(ho:aqf o=true)(hp:List aK):
  iX P f vs hp (acb o (.sw k hp.length xs.length)) (hp++[some [.rw k xs],none]):=by
 intro w g cargs hβ hhr hlen hbare hrel
 let g₀:Gh:={I:=g.I,ρ:=g.ρ,O:=fun _=>none,β:=g.β}
 have h0:HR g₀ [] w:=⟨by simp,by simp,by simp,by simp,hhr.exI,by simp[g₀]⟩
 refine(h w g₀ cargs hβ h0 hlen hbare (fun i x cv hx hcv=>(hrel i x cv hx hcv).flat (List.all_eq_true.1 hf x (List.mem_of_getElem? hx)))).mono ?_
 rintro e w' ⟨cv,g₁,rfl,q1,q2,q3,q4⟩
 have blk:∀b,b<w.heap.size→w'.heap[b]? =w.heap[b]?:=fun b hb=>q2.block b hb (by simp) rfl
 have isame:∀b j,b<w.heap.size→g₁.I b j→g.I b j:=fun b j hb hi=>q2.iSame b j hb (by simp) rfl hi
 have osame:∀b,b<w.heap.size→g₁.O b=none:=fun b hb=>q2.oSame b hb (by simp) rfl
 have hnew:w.heap.size≤g₁.ρ 0:=by
  rcases q2.live 0 [.rw k xs] rfl with⟨_,h⟩|⟨_,h|h|⟨_,_,h,_⟩⟩
  ·simp at h
  ·exact h
  ·simp[g₀] at h
  ·simp at h
 let g₂:Gh:={I:=g₁.I,ρ:=fun i=>if i=hp.length then g₁.ρ 0 else if i=hp.length+1 then g₁.ρ 1 else g.ρ i,β:=g.β,O:=fun b=>if b<w.heap.size then g.O b else (match g₁.O b with
  |some .res=>some .res
  |_=>none)}
 have rold:∀i,i<hp.length→g₂.ρ i=g.ρ i:=by
  intro i hi
  simp only[g₂]
  rw[if_neg (by omega),if_neg (by omega)]
 have rnew:g₂.ρ hp.length=g₁.ρ 0:=by simp[g₂]
 have rcap:g₂.ρ (hp.length+1)=g₁.ρ 1:=by simp[g₂]
 have up:Up g.I g.ρ hp.length w g₂.I g₂.ρ (hp++[some [V.rw k xs],none]).length w':=⟨q2.up.mono,q2.up.cell,rold,by simp⟩
 have olt:∀(id:Nat) cs,hp[id]? =some (some cs)→g.ρ id<w.heap.size:=by
  intro id cs hid
  obtain⟨ob,h1⟩:=(hhr.obj id cs hid).block
  exact(Array.getElem?_eq_some_iff.1 h1).1
 have lt_of:∀(id:Nat) cs,hp[id]? =some (some cs)→id<hp.length:=fun id cs hid=>(List.getElem?_eq_some_iff.1 hid).1
 have key:∀(id:Nat) c,(hp++[some [V.rw k xs],none])[id]? =some (some c)→(id=hp.length∧c=[V.rw k xs])∨hp[id]? =some (some c):=by
  intro id c hid
  rcases Nat.lt_or_ge id hp.length with hl|hl
  ·rw[List.getElem?_append_left hl] at hid
   exact .inr hid
  ·rw[List.getElem?_append_right hl] at hid
   match hq:id-hp.length,hid with
   |0,hid=>simp at hid;exact .inl ⟨by omega,hid.symm⟩
   |1,hid=>simp at hid
   |n+2,hid=>simp at hid
 have okeep:∀id j v cv,id<hp.length→aT g w (.cell id j) v cv→aT g₂ w' (.cell id j) v cv:=by
  intro id j v cv hid ho
  refine dU ho rfl (fun b j hi=>⟨q2.up.mono b j hi,q2.up.cell b j hi⟩) ?_
  intro b hb
  have hlt:=hhr.oLt b _ hb
  exact⟨by simp[g₂,hlt,hb],blk b hlt,fun j hj=>isame b j hlt hj⟩
 refine⟨cv,g₂,rfl,⟨?_,?_,?_,?_,q1.exI,?_⟩,⟨rfl,q2.os,q2.tape,q2.output,q2.size,fun b hb _ _=>blk b hb,up,fun b j hb _ _ hi=>isame b j hb hi,?_,?_⟩,?_,azO⟩
 ·intro id c hid
  rcases key id c hid with⟨rfl,rfl⟩|hid
  ·refine(q1.obj 0 _ rfl).keep (by rw[rnew]) fun arr e fz a1 a2=>?_
   refine⟨a2.len,a2.plain,?_,a2.cold,a2.one,?_,?_,?_⟩
   ·intro k2 ys hz
    obtain⟨t1,t2,t3,t4⟩:=a2.typed k2 ys hz
    refine⟨t1,?_,by simp,fun hk=>(t4 hk).trans q2.beta⟩
    rw[rcap]
    exact t2
   ·intro j c cv hc hcv
    have hc':=hc
    simp only[cellsOf] at hc'
    obtain⟨y,hy,hc'⟩:=ga _ j _ hc'
    exact zB hc' (a2.rel j c cv hc hcv)
   ·intro j c cv hc hcv
    have hm:=List.mem_of_getElem? hc
    simp only[cellsOf,List.mem_flatMap] at hm
    obtain⟨y,_,hm⟩:=hm
    exact oO (abB k y c hm) _ _ _ _
   ·intro j E n hc
    simp only[cellsOf] at hc
    obtain⟨y,_,hc⟩:=ga _ j _ hc
    exact absurd hc (aei k y _ E n)
  ·have hl:=lt_of id c hid
   refine(hhr.obj id c hid).keep (by rw[rold id hl];exact blk _ (olt id c hid)) fun arr e fz h1 h2=>?_
   exact⟨h2.len,h2.plain,h2.typedUp rfl rold (by simp) rfl,h2.cold,h2.one,fun j c cv hc hcv=>(h2.rel j c cv hc hcv).up up,fun j c cv hc hcv=>okeep _ _ _ _ hl (h2.own j c cv hc hcv),fun j E n hj=>by rw[rold id hl];exact h2.bn j E n hj⟩
 ·intro id id' c c' hid hid' hne
  rcases key id c hid with⟨rfl,rfl⟩|h1
  ·rcases key id' c' hid' with⟨rfl,rfl⟩|h2
   ·exact absurd rfl hne
   ·rw[rnew,rold id' (lt_of id' c' h2)]
    have:=olt id' c' h2
    omega
  ·rcases key id' c' hid' with⟨rfl,rfl⟩|h2
   ·rw[rnew,rold id (lt_of id c h1)]
    have:=olt id c h1
    omega
   ·rw[rold id (lt_of id c h1),rold id' (lt_of id' c' h2)]
    exact hhr.apart _ _ _ _ h1 h2 hne
 ·intro id c hid j hj
  rcases key id c hid with⟨rfl,rfl⟩|hid
  ·rw[rnew] at hj
   exact q1.notI 0 _ rfl j hj
  ·rw[rold id (lt_of id c hid)] at hj
   exact hhr.notI id c hid j (isame _ j (olt id c hid) hj)
 ·intro id c hid
  rcases key id c hid with⟨rfl,rfl⟩|hid
  ·rw[rnew]
   have h1:=q1.notO 0 _ rfl
   have h2:¬g₁.ρ 0<w.heap.size:=by omega
   simp[g₂,h1,h2]
  ·rw[rold id (lt_of id c hid)]
   have:=olt id c hid
   simp[g₂,this,hhr.notO id c hid]
 ·intro b o hb
  simp only[g₂] at hb
  split at hb
  ·rename_i hlt
   exact Nat.lt_of_lt_of_le hlt q2.size
  ·split at hb
   ·rename_i hres
    exact q1.oLt b _ hres
   ·simp at hb
 ·intro b hb _ hO
  simp[g₂,hb,hO]
 ·intro id c hid
  rcases key id c hid with⟨rfl,rfl⟩|hid
  ·exact .inr ⟨Nat.le_refl _,.inl (by rw[rnew];exact hnew)⟩
  ·exact .inl ⟨c,hid⟩
 ·refine azN ho q3 ?_ ?_
  ·intro cv hr
   cases hr with
   |sw _ _ _ hN hc hm=>
   rw[Nat.zero_add] at hc hm
   have:=VRel.sw (I:=g₂.I) (ρ:=g₂.ρ) (N:=(hp++[some [V.rw k xs],none]).length) (w:=w') k hp.length xs.length (by simp) (by rw[rcap];exact hc) (by rw[rcap];exact hm)
   rw[rcap,rnew] at this
   exact this
  ·intro v cv hv hr
   exact(hr.up (I':=g₂.I) (ρ':=g₁.ρ) (N':=2) ⟨fun _ _ hi=>hi,fun _ _ _=>rfl,fun _ _=>rfl,Nat.le_refl _⟩).flat hv
abbrev avh:=Nat→List V→Option (Bool×Option (List V×List V)×((k:EK)×List (Ty k)))
def af4(G:avh)(Γ:aN):aN:=fun f vs hp=>
 match G f vs with
 |some (c,o,⟨k,xs⟩)=>cond (vs.all V.flat&&aqf o) (some (c,acb o (.sw k hp.length xs.length),hp++[some [.rw k xs],none])) none
 |none=>Γ f vs hp
theorem aAS{G:avh}{Γ:aN}(hG:∀f vs o k xs,G f vs=some (true,o,⟨k,xs⟩)→adQ P f vs o k xs)(hΓ:dR P Γ):dR P (af4 G Γ):=by
 intro f vs hp v hp' h
 unfold af4 at h
 split at h
 ·rename_i c o k xs hg
  cases hst:(vs.all V.flat&&aqf o) with
  |false=>rw[hst] at h;simp at h
  |true=>
   rw[hst] at h
   simp only[cond_true,Option.some.injEq,Prod.mk.injEq] at h
   obtain⟨rfl,rfl,rfl⟩:=h
   simp only[Bool.and_eq_true] at hst
   exact(hG f vs o k xs hg).frame hst.1 hst.2 hp
 ·exact hΓ _ _ _ _ _ h
theorem ayW{G:avh}{Γ:aN}{imp:List Nat}(hG:∀f vs,imp.contains f=false→G f vs=none)(hG':∀f vs,imp.contains (f+2000000)=true→G f vs=none)(hΓ:ep Γ imp):ep (af4 G Γ) imp:=by
 refine⟨?_,?_⟩
 ·intro f vs hp hf
  have e:∀hp,af4 G Γ f vs hp=Γ f vs hp:=by
   intro hp
   unfold af4
   rw[hG f vs hf]
  rw[e,e]
  exact hΓ.pure f vs hp hf
 ·intro f vs hp c v hp' hf h
  have e:∀hp,af4 G Γ f vs hp=Γ f vs hp:=by
   intro hp
   unfold af4
   rw[hG' f vs hf]
  rw[e] at h
  obtain⟨q,q1,q2,q3⟩:=hΓ.loc _ _ _ _ _ _ hf h
  exact⟨q,q1,q2,fun hp2 hl hh=>by rw[e];exact q3 hp2 hl hh⟩
def av3(P:Program)(f:FuncId)(p q:List V)(k:EK)(xs:List (Ty k))(v:V)(ys:List (Ty k)):Prop:=
 ∃rest,iX P f (p++.sw k 0 xs.length::q) [some [.rw k xs],none] v (some [.rw k ys]::none::rest)
theorem wY.rowTo{g g':Gh}{N N':Nat}{w:World}{id id':Nat}{k:EK}{xs:List (Ty k)}{arr:Array Value}{e:TypeId}{fz:Nat×Nat}(h:wY g N w id [.rw k xs] arr e fz)
  (hI:g'.I=g.I) (hβ:g'.β=g.β) (hr:g'.ρ (id'+1)=g.ρ (id+1)) (hn:id'+1<N'):wY g' N' w id' [.rw k xs] arr e fz:=by
 refine⟨h.len,h.plain,?_,h.cold,h.one,?_,?_,?_⟩
 ·intro k2 ys hz
  obtain⟨t1,t2,t3,t4⟩:=h.typed k2 ys hz
  exact⟨t1,by rw[hr];exact t2,hn,fun hk=>(t4 hk).trans hβ.symm⟩
 ·intro j c cv hc hcv
  have hc':=hc
  simp only[cellsOf] at hc'
  obtain⟨y,hy,hc'⟩:=ga _ j _ hc'
  rw[hI]
  exact zB hc' (h.rel j c cv hc hcv)
 ·intro j c cv hc hcv
  have hm:=List.mem_of_getElem? hc
  simp only[cellsOf,List.mem_flatMap] at hm
  obtain⟨y,_,hm⟩:=hm
  exact oO (abB k y c hm) _ _ _ _
 ·intro j E n hc
  simp only[cellsOf] at hc
  obtain⟨y,_,hc⟩:=ga _ j _ hc
  exact absurd hc (aei k y _ E n)
theorem av3.frame{f:FuncId}{p q:List V}{k:EK}{xs ys:List (Ty k)}{v:V}(h:av3 P f p q k xs v ys)(hp1:p.all V.flat=true)(hq1:q.all V.flat=true)(hv:v.flat=true)
  {hp:List aK} {id:Nat} (hid:hp[id]? =some (some [.rw k xs])):iX P f (p++.sw k id xs.length::q) hp v (hp.set id (some [.rw k ys])):=by
 obtain⟨rest,h⟩:=h
 have hidl:id<hp.length:=(List.getElem?_eq_some_iff.1 hid).1
 intro w g cargs hβ hhr hlen hbare hrel
 obtain⟨arr,e,fz,a1,a2⟩:=(hhr.obj id _ hid).row rfl
 obtain⟨t1,t2,t3,t4⟩:=a2.typed k xs rfl
 let g₀:Gh:={I:=g.I,ρ:=fun i=>if i=0 then g.ρ id else g.ρ (id+1),O:=fun _=>none,β:=g.β}
 have z0:∀(i:Nat) cs,([some [V.rw k xs],none]:List aK)[i]? =some (some cs)→i=0∧cs=[.rw k xs]:=by
  intro i cs hi
  match i,hi with
  |0,hi=>simp at hi;exact⟨rfl,hi.symm⟩
  |1,hi=>simp at hi
  |n+2,hi=>simp at hi
 have h0:HR g₀ [some [.rw k xs],none] w:=by
  refine⟨?_,?_,?_,?_,hhr.exI,by simp[g₀]⟩
  ·intro i cs hi
   obtain⟨rfl,rfl⟩:=z0 i cs hi
   exact lu.ofRow a1 (a2.rowTo rfl rfl rfl (by simp)) rfl
  ·intro i i' cs cs' hi hi' hne
   obtain⟨rfl,_⟩:=z0 i cs hi
   obtain⟨rfl,_⟩:=z0 i' cs' hi'
   exact absurd rfl hne
  ·intro i cs hi
   obtain⟨rfl,_⟩:=z0 i cs hi
   exact hhr.notI id _ hid
  ·intro i cs hi
   rfl
 have hargs:∀(i:Nat) x cv,(p++.sw k 0 xs.length::q)[i]? =some x→cargs[i]? =some cv→VRel g₀.I g₀.ρ ([some [V.rw k xs],none]:List aK).length w x cv:=by
  intro i x cv hx hcv
  rcases Nat.lt_trichotomy i p.length with hi|hi|hi
  ·rw[List.getElem?_append_left hi] at hx
   exact(hrel i x cv (by rw[List.getElem?_append_left hi];exact hx) hcv).flat (List.all_eq_true.1 hp1 x (List.mem_of_getElem? hx))
  ·subst hi
   rw[List.getElem?_append_right (Nat.le_refl _),Nat.sub_self] at hx
   simp only[List.getElem?_cons_zero,Option.some.injEq] at hx
   subst hx
   have r:=hrel p.length (.sw k id xs.length) cv (by rw[List.getElem?_append_right (Nat.le_refl _),Nat.sub_self];rfl) hcv
   cases r with
   |sw _ _ _ hN hc hm=>exact VRel.sw (I:=g₀.I) (ρ:=g₀.ρ) (N:=([some [V.rw k xs],none]:List aK).length) (w:=w) k 0 xs.length (by simp) hc hm
  ·rw[List.getElem?_append_right (by omega),show i-p.length=(i-p.length-1)+1 by omega,List.getElem?_cons_succ] at hx
   exact(hrel i x cv (by rw[List.getElem?_append_right (by omega),show i-p.length=(i-p.length-1)+1 by omega,List.getElem?_cons_succ];exact hx) hcv).flat (List.all_eq_true.1 hq1 x (List.mem_of_getElem? hx))
 refine(h w g₀ cargs hβ h0 (by simpa using hlen) (by
  intro x hx
  rcases List.mem_append.1 hx with hx|hx
  ·exact hbare x (List.mem_append_left _ hx)
  ·rcases List.mem_cons.1 hx with rfl|hx
   ·rfl
   ·exact hbare x (List.mem_append_right _ (List.mem_cons_of_mem _ hx))) hargs).mono ?_
 rintro ex w' ⟨cv,g₁,rfl,q1,q2,q3,q4⟩
 have r0:g₁.ρ 0=g.ρ id:=q2.up.rho 0 (by simp)
 have r1:g₁.ρ (0+1)=g.ρ (id+1):=q2.up.rho 1 (by simp)
 have noO:∀b,g.ρ id≠b→∀(i:Nat) cs,([some [V.rw k xs],none]:List aK)[i]? =some (some cs)→g₀.ρ i≠b:=by
  intro b hb i cs hi
  obtain⟨rfl,_⟩:=z0 i cs hi
  exact hb
 have blk:∀b,b<w.heap.size→g.ρ id≠b→w'.heap[b]? =w.heap[b]?:=fun b hb hne=>q2.block b hb (noO b hne) rfl
 have isame:∀b j,b<w.heap.size→g.ρ id≠b→g₁.I b j→g.I b j:=fun b j hb hne hi=>q2.iSame b j hb (noO b hne) rfl hi
 have osame:∀b,b<w.heap.size→g.ρ id≠b→g₁.O b=none:=fun b hb hne=>q2.oSame b hb (noO b hne) rfl
 have n0:=q1.notO 0 [.rw k ys] rfl
 rw[r0] at n0
 let g₂:Gh:={I:=g₁.I,ρ:=g.ρ,O:=fun b=>match g₁.O b with
  |some .res=>some .res
  |some _=>none
  |none=>if b<w.heap.size then g.O b else none,β:=g.β}
 have up:Up g.I g.ρ hp.length w g₂.I g₂.ρ (hp.set id (some [V.rw k ys])).length w':=⟨q2.up.mono,q2.up.cell,fun _ _=>rfl,by simp⟩
 have olt:∀(i:Nat) c,hp[i]? =some (some c)→g.ρ i<w.heap.size:=by
  intro i c hi
  obtain⟨ob,h1⟩:=(hhr.obj i c hi).block
  exact(Array.getElem?_eq_some_iff.1 h1).1
 have key:∀(i:Nat) c,(hp.set id (some [V.rw k ys]))[i]? =some (some c)→(i=id∧c=[.rw k ys])∨(i≠id∧hp[i]? =some (some c)):=by
  intro i c hi
  rw[List.getElem?_set] at hi
  split at hi
  ·rename_i e'
   simp[hidl] at hi
   exact .inl ⟨e'.symm,hi.symm⟩
  ·rename_i e'
   exact .inr ⟨fun h=>e' h.symm,hi⟩
 have live₀:∀(i:Nat) c,(hp.set id (some [V.rw k ys]))[i]? =some (some c)→∃c₀,hp[i]? =some (some c₀):=by
  intro i c hi
  rcases key i c hi with⟨rfl,_⟩|⟨_,h⟩
  ·exact⟨_,hid⟩
  ·exact⟨c,h⟩
 have apartR:∀(i:Nat) c,i≠id→hp[i]? =some (some c)→g.ρ id≠g.ρ i:=fun i c hne hi=>hhr.apart _ _ _ _ hid hi hne.symm
 have ownBlk:∀b o,g.O b=some o→g.ρ id≠b:=by
  intro b o hb e'
  rw[←e',hhr.notO _ _ hid] at hb
  cases hb
 have g2same:∀b,b<w.heap.size→g₂.O b=g.O b:=by
  intro b hb
  by_cases hne:g.ρ id=b
  ·subst hne
   simp only[g₂,n0]
   rw[if_pos hb]
  ·simp only[g₂,osame b hb hne]
   rw[if_pos hb]
 refine⟨cv,g₂,rfl,⟨?_,?_,?_,?_,q1.exI,?_⟩,⟨rfl,q2.os,q2.tape,q2.output,q2.size,?_,up,?_,?_,?_⟩,?_,?_⟩
 ·intro i c hi
  rcases key i c hi with⟨rfl,rfl⟩|⟨hne,hi⟩
  ·obtain⟨arr',e',fz',b1,b2⟩:=(q1.obj 0 _ rfl).row rfl
   rw[r0] at b1
   exact lu.ofRow b1 (b2.rowTo rfl q2.beta.symm r1.symm (by simpa using t3)) rfl
  ·refine(hhr.obj i c hi).keep (blk _ (olt i c hi) (apartR i c hne hi)) fun arr' e' fz' b1 b2=>?_
   refine⟨b2.len,b2.plain,b2.typedUp rfl (fun _ _=>rfl) up.num rfl,b2.cold,b2.one,fun j c cv hj hcv=>(b2.rel j c cv hj hcv).up up,?_,b2.bn⟩
   intro j c' cv hj hcv
   refine dU (b2.own j c' cv hj hcv) rfl (fun b j hi=>⟨up.mono b j hi,up.cell b j hi⟩) ?_
   intro b hb
   have hlt:=hhr.oLt b _ hb
   have hbne:=ownBlk b _ hb
   exact⟨(g2same b hlt).trans hb,blk b hlt hbne,fun j hj=>isame b j hlt hbne hj⟩
 ·intro i i' c c' hi hi' hne
  obtain⟨c₀,m1⟩:=live₀ i c hi
  obtain⟨c₁,m2⟩:=live₀ i' c' hi'
  exact hhr.apart _ _ _ _ m1 m2 hne
 ·intro i c hi j hj
  rcases key i c hi with⟨rfl,rfl⟩|⟨hne,hi⟩
  ·have:=q1.notI 0 _ rfl j
   rw[r0] at this
   exact this hj
  ·exact hhr.notI i c hi j (isame _ j (olt i c hi) (apartR i c hne hi) hj)
 ·intro i c hi
  obtain⟨c₀,m1⟩:=live₀ i c hi
  exact(g2same _ (olt i c₀ m1)).trans (hhr.notO i c₀ m1)
 ·intro b o hb
  simp only[g₂] at hb
  split at hb
  ·rename_i hq;exact q1.oLt b _ hq
  ·simp at hb
  ·split at hb
   ·rename_i hq;exact Nat.lt_of_lt_of_le hq q2.size
   ·simp at hb
 ·intro b hb ho hO
  exact blk b hb (ho id _ hid)
 ·intro b j hb ho hO hi
  exact isame b j hb (ho id _ hid) hi
 ·intro b hb ho hO
  exact(g2same b hb).trans hO
 ·intro i c hi
  exact .inl (live₀ i c hi)
 ·exact q3.flat hv
 ·exact q4.reloc q2.beta.symm rfl fun b hb=>by simp[g₂,hb]
def adR(G Γ:aN):aN:=fun f vs hp=>match G f vs hp with|some r=>some r|none=>Γ f vs hp
theorem aiZ{G Γ:aN}(hG:∀f vs hp v hp',G f vs hp=some (true,v,hp')→iX P f vs hp v hp')(hΓ:dR P Γ):dR P (adR G Γ):=by
 intro f vs hp v hp' h
 unfold adR at h
 split at h
 ·rename_i r hg
  cases h
  exact hG _ _ _ _ _ hg
 ·exact hΓ _ _ _ _ _ h
theorem adS{G Γ:aN}{imp:List Nat}(hG:∀f vs hp,imp.contains f=false→G f vs hp=none)(hG':∀f vs hp,imp.contains (f+2000000)=true→G f vs hp=none)(hΓ:ep Γ imp):ep (adR G Γ) imp:=by
 have e:∀f,(∀vs hp,G f vs hp=none)→∀vs hp,adR G Γ f vs hp=Γ f vs hp:=by
  intro f hf vs hp
  unfold adR
  rw[hf]
 refine⟨?_,?_⟩
 ·intro f vs hp hf
  rw[e f (fun vs hp=>hG f vs hp hf),e f (fun vs hp=>hG f vs hp hf)]
  exact hΓ.pure f vs hp hf
 ·intro f vs hp c v hp' hf h
  rw[e f (fun vs hp=>hG' f vs hp hf)] at h
  obtain⟨q,q1,q2,q3⟩:=hΓ.loc _ _ _ _ _ _ hf h
  exact⟨q,q1,q2,fun hp2 hl hh=>by rw[e f (fun vs hp=>hG' f vs hp hf)];exact q3 hp2 hl hh⟩
end
end Go.AM
end
noncomputable section
namespace Go.AM
set_option autoImplicit false
section
variable{P:Program}{Γ:aN}{imp:List Nat}{n:Nat}{f:FuncId}{fn:Func}{ir:IR}{rs:List RV}{x:Ro}
theorem av3.dim{p q p' q':List V}{k:EK}{xs ys:List (Ty k)}{v:V}(h:av3 P f p q k xs v ys)(e1:p'.map V.dim=p)(e2:q'.map V.dim=q):av3 P f p' q' k xs v ys:=by
 obtain⟨rest,h⟩:=h
 refine⟨rest,h.dim ?_⟩
 rw[List.map_append,List.map_cons,e1,e2]
 rfl
end
end Go.AM
end
noncomputable section
namespace Go.Proofs.Ytdpajabhmmmjoaa
open Go.AM
set_option autoImplicit false
set_option linter.unusedVariables false
set_option maxRecDepth 100000
abbrev ql:FuncId:=75
def wg:Nat→List V→Option (Bool×V):=fun _ _=>none
def jj:aN:=(w7 wg)
theorem abG:ep jj []:=(sH _ _)
theorem aco:dR Try.prog jj:=by
 intro f vs hp v hp' h
 obtain⟨h, -⟩:=afU h
 simp[wg] at h
def uK:IR:=Rs [Pp (.mov 2 (.c (.ul (.num .i64) ([]:List Int))))] (Sq (Rs [Mv 3 0,Pp (.snil 4 (.t 3))] (Cn 4 (Rs [Pp (.mov 2 (.c (.ul (.num .i64) ([]:List Int))))] .ret) .skip)) (Rs [Pp (.blu 5 (.num .i64)),Mv 6 0,Pp (.apu 7 (.num .i64) (.tk 5) 6),Pp (.mov 2 (.tk 7))] (.gh (.opn (.slot 2)) .ret)))
def uL:List RV:=[.t 2]
theorem acU:(dD Try.prog [] 0 uK (Try.f75.body.getD .skip)&&aaa Try.prog uL Try.f75.results.toList)=true:=by kernel_rfl
theorem acp:Try.f75.body=some (Try.f75.body.getD .skip):=by kernel_rfl
def uM(N:Nat)(a:List Int):Ro:=
 chk (decide (0<List.length a)) (
 chk (decide ((List.length ([]:List Int)+List.length a)*8≤140737488355328)) (
 chk (decide (0<List.length (([]:List Int)++a))) (
 some (.sw (.num .i64) 0 (List.length (([]:List Int)++a)),[some [.rw (.num .i64) (([]:List Int)++a)],none]))))
def nT(N:Nat)(a:List Int):Ro:=uM N a
theorem acV(N:Nat)(a:List Int):nO jj N 8 uL uK [.sl (.num .i64) (.may false) a] []=nT N a:=by kernel_rfl
theorem adT(hΓ:dR Try.prog jj)(N:Nat)(a:List Int){o:Option (List V×List V)}{k:EK}{xs:List (Ty k)}(h:nT N a=some (acb o (.sw k 0 xs.length),[some [.rw k xs],none])):adQ Try.prog ql [.sl (.num .i64) (.may false) a] o k xs:=by
 have hc:=acU
 simp only[Bool.and_eq_true] at hc
 exact ayh hΓ abG Try.func75 acp hc.1 hc.2 (by decide) ((acV N a).trans h)
theorem azP(xs:List Int)(h:decide (0<List.length xs)=true)(hm:xs.length≤1000):adQ Try.prog ql [.sl (.num .i64) (.may false) xs] none (.num .i64) xs:=by
 refine adT aco 0 xs ?_
 have h1:=of_decide_eq_true h
 have e1:decide (0<(([]:List Int)++xs).length)=true:=h
 have e2:decide (((([]:List Int).length+xs.length)*8)≤140737488355328)=true:=decide_eq_true (by simp;omega)
 unfold nT uM
 rw[h,e1,e2]
 rfl
end Go.Proofs.Ytdpajabhmmmjoaa
end
noncomputable section
namespace Go.Proofs.Ytdpajabhmmmjoaa
open Go.AM
set_option autoImplicit false
set_option linter.unusedVariables false
set_option maxRecDepth 100000
abbrev ajQ:FuncId:=78
abbrev aob:FuncId:=76
abbrev al1:FuncId:=42
abbrev av4:=List Int
noncomputable def rA(a:List aA)(r:av4):Prop:=aV Try.prog al1 [.agg [.sl .atype (.may false) a]] (.sl (.num .i64) (.may false) r)∧uJ a r
noncomputable def av5:bA Try.prog:=.mk 42 fun us=>match us with
 | [.agg [.sl .atype (.may _) a]]=>let r:=pick (rA a);some (can (rA a),.sl (.num .i64) (.may false) r)
 |_=>none
abbrev axF:=Int
noncomputable def yl(a:aA)(b:List Int)(r:axF):Prop:=aV Try.prog aob [.agg (enc .atype a),.sl (.num .i64) (.may false) b] (.int .i64 r)∧abF a b r
noncomputable def axG:bA Try.prog:=.mk 76 fun us=>match us with
 | [.agg [.int .i64 a,.str b,.sl .str (.may _) c,.int .i64 d,.sl .str (.may _) e,.bool f,.str g,.int .i64 h,.sl .afield (.may _) i,.sl (.num .i64) (.may _) j],.sl (.num .i64) (.may _) k]=>let r:=pick (yl (⟨a,b,c,d,e,f,g,h,i,j⟩) k);some (can (yl (⟨a,b,c,d,e,f,g,h,i,j⟩) k),.int .i64 r)
 |_=>none
abbrev atU:=Int
noncomputable def tN(a:aA)(b:List Int)(r:atU):Prop:=aV Try.prog ajQ [.agg (enc .atype a),.sl (.num .i64) (.may false) b] (.int .i64 r)∧ze a b r
noncomputable def atV:bA Try.prog:=.mk 78 fun us=>match us with
 | [.agg [.int .i64 a,.str b,.sl .str (.may _) c,.int .i64 d,.sl .str (.may _) e,.bool f,.str g,.int .i64 h,.sl .afield (.may _) i,.sl (.num .i64) (.may _) j],.sl (.num .i64) (.may _) k]=>let r:=pick (tN (⟨a,b,c,d,e,f,g,h,i,j⟩) k);some (can (tN (⟨a,b,c,d,e,f,g,h,i,j⟩) k),.int .i64 r)
 |_=>none
theorem ayX(xs:List Int)(h:(decide (0<List.length xs)&&decide (List.length xs≤1000))=true):adQ Try.prog ql [.sl (.num .i64) (.may false) xs] none (.num .i64) xs:=by
 simp only[Bool.and_eq_true] at h
 exact azP xs h.1 (of_decide_eq_true h.2)
end Go.Proofs.Ytdpajabhmmmjoaa
end
noncomputable section
namespace Go.Proofs.Ytdpajabhmmmjoaa
open Go.AM
set_option autoImplicit false
set_option linter.unusedVariables false
def rkB(ts:List aA):List Int:=pick (rA ts)
def ajR(ts:List aA)(l:List Bool):Prop:=l=(rkB ts).map fun q=>decide (0≤q)
end Go.Proofs.Ytdpajabhmmmjoaa
end
noncomputable section
namespace Go.Proofs.Ytdpajabhmmmjoaa
open Go.AM
set_option autoImplicit false
set_option linter.unusedVariables false
def pO(s:List UInt8)(c:Int):Nat→Int
 |0=>-1
 |n+1=>if ((s.getD n 0).toNat:Int)=c then n else pO s c n
def fh(s:List UInt8):List UInt8:=s.drop (pO s 46 s.length+1).toNat
def cG{α:Type}(p:α→Bool):List α→Nat→Int
 | [],_=>-1
 |x::l,i=>if p x then (i:Int) else cG p l (i+1)
def tO(a b:aA):Bool:=decide (fh b.name=fh a.name)||b.aliases.any fun s=>decide (fh s=fh a.name)
def aam(a b:aA):Bool:=
 if a.kind=9∨a.kind=10 then a.kind==b.kind&&tO a b else
 if a.kind=11 then a.kind==b.kind&&(tO a b&&a.size==b.size) else
 if a.kind=3∨a.kind=4∨a.kind=5 then decide (a.kind≤b.kind)&&decide (b.kind≤6) else
 if a.kind=8 then b.kind==8||b.kind==7 else !(a.kind==14)&&a.kind==b.kind
def dl(w r:List aA)(t q:Int):Bool:=isT w t&&(isT r q&&aam (w.getD t.toNat (aB .atype)) (r.getD q.toNat (aB .atype)))
def agI(l:List aM)(n:List UInt8):Int:=cG (fun f:aM=>decide (f.name=n)) l 0
def lA(l:List aM):List (List UInt8)→Int
 | []=>-1
 |s::r=>if 0≤agI l s then agI l s else lA l r
def rB(w r:List aA)(t q:Int):Int:=cG (fun b=>dl w r t b) (r.getD q.toNat (aB .atype)).branches 0
abbrev af5:Type:=List ((Int×Int)×Bool)
def noS(m:af5)(p:Int×Int):Bool:=abA (k:=.pb) m p
def tP(N:Int×Int→Bool)(a:aA)(f:aM):Bool:=
 !((decide (lA a.fields (f.name::f.aliases)<0)&& !f.hasdef)||(decide (0≤lA a.fields (f.name::f.aliases))&&N ((a.fields.getD (lA a.fields (f.name::f.aliases)).toNat (aB .afield)).typ,f.typ)))
def gw(N:Int×Int→Bool)(w r:List aA)(t q:Int)(a b:aA):Bool:=
 if a.kind=14 then a.branches.all fun c=> !N (c,q) else
 if b.kind=14 then decide (0≤rB w r t q)&& !N (t,b.branches.getD (rB w r t q).toNat 0) else
 if dl w r t q=false then false else
 if a.kind=12∨a.kind=13 then !N (a.items,b.items) else
 if a.kind=10 then b.hasdef||a.syms.all fun s=>decide (s∈b.syms) else
 if a.kind=9 then b.fields.all (tP N a) else true
def acq(has:List Bool)(N:Int×Int→Bool)(w r:List aA)(t q:Int):Bool:=
 !(has.getD t.toNat false)||gw N w r t q (w.getD t.toNat (aB .atype)) (r.getD q.toNat (aB .atype))
def inL(L:List (Int×Int))(p:Int×Int):Bool:=decide (p∈L)
def fM(has:List Bool)(w r:List aA)(L:List (Int×Int))(p:Int×Int):List (Int×Int):=if inL L p||acq has (inL L) w r p.1 p.2 then L else L++[p]
def al3(i m:Nat):List (Int×Int):=(List.range m).map fun(k:Nat)=>((i:Int),(k:Int))
def iz(n m:Nat):List (Int×Int):=(List.range n).flatMap fun i=>al3 i m
def pP(has:List Bool)(w r:List aA)(L:List (Int×Int)):List (Int×Int):=(iz w.length r.length).foldl (fM has w r) L
def oG(has:List Bool)(w r:List aA):Nat→List (Int×Int)→List (Int×Int)
 |0,L=>L
 |n+1,L=>if (pP has w r L).length=L.length then L else oG has w r n (pP has w r L)
def nu(has:List Bool)(w r:List aA)(t q:Int):Bool:=isT w t&&(isT r q&& !inL (oG has w r (w.length*r.length+1) []) (t,q))
def iY(s:List UInt8)(c r:Int):Prop:=r=pO s c s.length
def tQ(s:List UInt8)(c r:Int):Prop:=r=pO s c s.length
def af6(s r:List UInt8):Prop:=r=fh s
def ajS(ts:List aA)(t:Int)(r:Bool):Prop:=r=isT ts t
def aan(s w:List UInt8)(r:Bool):Prop:=r=decide (fh s=w)
def fC(l:List (List UInt8))(w:List UInt8)(r:Int):Prop:=r=cG (fun s=>decide (fh s=w)) l 0
def eQ(l:List (List UInt8))(w:List UInt8)(r:Bool):Prop:=r=l.any fun s=>decide (fh s=w)
def adk(a b:aA)(r:Bool):Prop:=r=tO a b
def zf(w r:List aA)(t q:Int)(x:Bool):Prop:=x=dl w r t q
def acr(f:aM)(n:List UInt8)(r:Bool):Prop:=r=decide (f.name=n)
def eh(l:List aM)(n:List UInt8)(r:Int):Prop:=r=agI l n
def aao(a:aA)(f:aM)(r:Int):Prop:=r=lA a.fields (f.name::f.aliases)
def aap(b:Int)(w r:List aA)(t:Int)(x:Bool):Prop:=x=dl w r t b
def gJ(l:List Int)(w r:List aA)(t x:Int):Prop:=x=cG (fun b=>dl w r t b) l 0
def adl(w r:List aA)(t q x:Int):Prop:=x=rB w r t q
def px(l:List (List UInt8))(s:List UInt8)(r:Int):Prop:=r=cG (fun x=>decide (x=s)) l 0
def nv(l:List (List UInt8))(s:List UInt8)(r:Bool):Prop:=r=decide (s∈l)
def sB(s:List UInt8)(k0:Int)(k1:List UInt8)(k2:List (List UInt8))(k3:Int)(k4:List (List UInt8))(k5:Bool)(k6:List UInt8)(k7:Int)(k8:List aM)(k9:List Int)(r:Bool):Prop:=r= !decide (s∈k4)
def d7(l:List (List UInt8))(k0:Int)(k1:List UInt8)(k2:List (List UInt8))(k3:Int)(k4:List (List UInt8))(k5:Bool)(k6:List UInt8)(k7:Int)(k8:List aM)(k9:List Int)(r:Int):Prop:=r=cG (fun s=> !decide (s∈k4)) l 0
def dQ(l:List (List UInt8))(k0:Int)(k1:List UInt8)(k2:List (List UInt8))(k3:Int)(k4:List (List UInt8))(k5:Bool)(k6:List UInt8)(k7:Int)(k8:List aM)(k9:List Int)(r:Bool):Prop:=r=l.any fun s=> !decide (s∈k4)
def sC(m:af5)(w r:List aA)(has:List Bool)(t q:Int)(x:Bool):Prop:=x=noS m (t,q)
def fj(m:af5)(w r:List aA)(has:List Bool)(l:List Int)(q x:Int):Prop:=x=cG (fun t=>noS m (t,q)) l 0
def eK(m:af5)(w r:List aA)(has:List Bool)(l:List Int)(q:Int)(x:Bool):Prop:=x=l.any fun t=>noS m (t,q)
def nU(m:af5)(w r:List aA)(has:List Bool)(a b:aA)(x:Bool):Prop:=x=b.fields.all (tP (noS m) a)
def jk(m:af5)(w r:List aA)(has:List Bool)(t q:Int)(x:Bool):Prop:=x=acq has (noS m) w r t q
def sM(ts:List aA):List Bool:=(rkB ts).map fun q=>decide (0≤q)
def zg(w r:List aA)(t q:Int)(x:Bool):Prop:=x=nu (sM w) w r t q
def aex(s r:List UInt8):Prop:=r=fh s
def aey(a b:aA)(r:Bool):Prop:=r=tO a b
def zh(w r:List aA)(t q:Int)(x:Bool):Prop:=x=dl w r t q
def aaq(a:aA)(f:aM)(r:Int):Prop:=r=lA a.fields (f.name::f.aliases)
def adm(w r:List aA)(t q x:Int):Prop:=x=rB w r t q
def adn(a:aA)(s:List UInt8)(r:Int):Prop:=r=cG (fun x=>decide (x=s)) a.syms 0
def rC(a:List UInt8)(n:Int)(c:aD)(r:aD×List UInt8×Int):Prop:=bp r.1∧r.1.l.length=c.l.length∧r.2.1=a∧eA a r.2.2
def fS(a:List UInt8)(n:Int)(c:aD)(r:aD×List UInt8×Int):Prop:=bp r.1∧r.1.l.length≤c.l.length∧r.2.1=a∧eA a r.2.2
def abc(a:List UInt8)(n:Int)(r:List aA×List aA×Bool×List UInt8×Int):Prop:=r.2.2.1=true→cw r.1∧cw r.2.1∧rt r.2.1
def aez(r:Bool):Prop:=r=true
end Go.Proofs.Ytdpajabhmmmjoaa
end
noncomputable section
namespace Go.Proofs.Ytdpajabhmmmjoaa
open Go.AM
set_option autoImplicit false
set_option linter.unusedVariables false
def acW(w r:List aA):List (Int×Int):=oG (sM w) w r (w.length*r.length+1) []
def pQ(w r:List aA)(t q:Int)(v:aH)(x:aH×Int):Prop:=inL (acW w r) (t,q)=false→rt r→x.2=0
def ado(w r:List aA)(a b:aA)(v:aH)(x:aH×Int):Prop:=
 (∀f∈b.fields,tP (inL (acW w r)) a f=true)→b∈r→rt r→x.2=0
def wh(w r:List aA)(t q:Int)(v:aH)(x:aH×Int):Prop:=bm w t v=true→nu (sM w) w r t q=true→rt r→x.2=0
def zJ(p q:List UInt8)(r:Bool):Prop:=r=true
end Go.Proofs.Ytdpajabhmmmjoaa
end
noncomputable section
namespace Go.Proofs.Ytdpajabhmmmjoaa
open Go.AM
set_option autoImplicit false
set_option linter.unusedVariables false
set_option maxRecDepth 100000
abbrev zK:FuncId:=66
abbrev wi:FuncId:=94
abbrev wj:FuncId:=96
abbrev ym:FuncId:=98
abbrev acs:FuncId:=62
abbrev aeA:FuncId:=29
abbrev acu:FuncId:=88
abbrev kM:FuncId:=151
abbrev aht:FuncId:=95
abbrev adp:FuncId:=128
abbrev ajT:FuncId:=32
abbrev al4:FuncId:=130
abbrev af7:FuncId:=153
abbrev ajU:FuncId:=30
abbrev ahu:FuncId:=64
abbrev adq:FuncId:=91
abbrev aqg:FuncId:=63
abbrev al5:FuncId:=89
abbrev ajV:FuncId:=28
abbrev ajW:FuncId:=92
abbrev ahv:FuncId:=99
abbrev al6:FuncId:=101
abbrev ajX:FuncId:=31
abbrev ajY:FuncId:=65
abbrev ahw:FuncId:=100
abbrev fk:FuncId:=93
abbrev d8:FuncId:=90
abbrev fD:FuncId:=90
abbrev py:FuncId:=97
abbrev fT:FuncId:=127
abbrev iG:FuncId:=127
abbrev eR:FuncId:=152
abbrev eL:FuncId:=126
abbrev gc:FuncId:=126
abbrev rD:FuncId:=129
abbrev xJ:FuncId:=125
abbrev atW:=Bool
noncomputable def tR(r:atW):Prop:=aV Try.prog ajV [] (.bool r)∧aez  r
noncomputable def atX:bA Try.prog:=.mk 28 fun us=>match us with
 | []=>let r:=pick tR;some (can tR,.bool r)
 |_=>none
abbrev aoK:=List aA×List aA×Bool×Bs×Int
noncomputable def oV(o0_0:Bs)(o0_1:Int)(r:aoK):Prop:=b7 Try.prog aeA [.ptr 0 0] [[.sl .u8 (.may false) o0_0,.int .i64 o0_1]] (.tup [.agg [.sl .atype (.may false) r.1],.agg [.sl .atype (.may false) r.2.1],.bool r.2.2.1]) [[.sl .u8 (.may false) r.2.2.2.1,.int .i64 r.2.2.2.2]]∧abc o0_0 o0_1 r
noncomputable def aoL:gp Try.prog:=.mk 29 fun us css=>match us,css with
 | [.ptr 0 0],[[.sl .u8 (.may false) o0_0,.int .i64 o0_1]]=>let r:=pick (oV o0_0 o0_1);some (can (oV o0_0 o0_1),.tup [.agg [.sl .atype (.may false) r.1],.agg [.sl .atype (.may false) r.2.1],.bool r.2.2.1],[[.sl .u8 (.may false) r.2.2.2.1,.int .i64 r.2.2.2.2]])
 |_,_=>none
abbrev atY:=Bool
noncomputable def jT(a0_0 a1_0:List aA)(a2 a3:Int)(r:atY):Prop:=aV Try.prog ajU [.agg [.sl .atype (.may false) a0_0],.agg [.sl .atype (.may false) a1_0],.int .i64 a2,.int .i64 a3] (.bool r)∧zf a0_0 a1_0 a2 a3 r
noncomputable def acX:bA Try.prog:=.mk 30 fun us=>match us with
 | [.agg [.sl .atype (.may _) a0_0],.agg [.sl .atype (.may _) a1_0],.int .i64 a2,.int .i64 a3]=>let r:=pick (jT a0_0 a1_0 a2 a3);some (can (jT a0_0 a1_0 a2 a3),.bool r)
 |_=>none
abbrev atZ:=Bool
noncomputable def pL(a0_0 a1_0:List aA)(a2 a3:Int)(r:atZ):Prop:=aV Try.prog ajX [.agg [.sl .atype (.may false) a0_0],.agg [.sl .atype (.may false) a1_0],.int .i64 a2,.int .i64 a3] (.bool r)∧zh a0_0 a1_0 a2 a3 r
noncomputable def ajZ:bA Try.prog:=.mk 31 fun us=>match us with
 | [.agg [.sl .atype (.may _) a0_0],.agg [.sl .atype (.may _) a1_0],.int .i64 a2,.int .i64 a3]=>let r:=pick (pL a0_0 a1_0 a2 a3);some (can (pL a0_0 a1_0 a2 a3),.bool r)
 |_=>none
abbrev at0:=Bool
noncomputable def jU(a0_0 a1_0:List aA)(a2 a3:Int)(r:at0):Prop:=aV Try.prog ajT [.agg [.sl .atype (.may false) a0_0],.agg [.sl .atype (.may false) a1_0],.int .i64 a2,.int .i64 a3] (.bool r)∧zg a0_0 a1_0 a2 a3 r
noncomputable def aj0:bA Try.prog:=.mk 32 fun us=>match us with
 | [.agg [.sl .atype (.may _) a0_0],.agg [.sl .atype (.may _) a1_0],.int .i64 a2,.int .i64 a3]=>let r:=pick (jU a0_0 a1_0 a2 a3);some (can (jU a0_0 a1_0 a2 a3),.bool r)
 |_=>none
abbrev al7:=aD×Bs×Int
noncomputable def dB(o0_0:Bs)(o0_1:Int)(a1:aD)(r:al7):Prop:=b7 Try.prog acs [.ptr 0 0,.agg (enc .jnode a1)] [[.sl .u8 (.may false) o0_0,.int .i64 o0_1]] (.agg (enc .jnode r.1)) [[.sl .u8 (.may false) r.2.1,.int .i64 r.2.2]]∧fS o0_0 o0_1 a1 r
noncomputable def acv:gp Try.prog:=.mk 62 fun us css=>match us,css with
 | [.ptr 0 0,.agg [.int .i64 a1_0,.int .i64 a1_1,.str a1_2,.sl .jnode (.may _) a1_3,.sl .str (.may _) a1_4]],[[.sl .u8 (.may false) o0_0,.int .i64 o0_1]]=>let r:=pick (dB o0_0 o0_1 (⟨a1_0,a1_1,a1_2,a1_3,a1_4⟩));some (can (dB o0_0 o0_1 (⟨a1_0,a1_1,a1_2,a1_3,a1_4⟩)),.agg (enc .jnode r.1),[[.sl .u8 (.may false) r.2.1,.int .i64 r.2.2]])
 |_,_=>none
abbrev ayY:=Bool
noncomputable def pR(a0_0:List aA)(a1:Int)(r:ayY):Prop:=aV Try.prog aqg [.agg [.sl .atype (.may false) a0_0],.int .i64 a1] (.bool r)∧ajS a0_0 a1 r
noncomputable def aqh:bA Try.prog:=.mk 63 fun us=>match us with
 | [.agg [.sl .atype (.may _) a0_0],.int .i64 a1]=>let r:=pick (pR a0_0 a1);some (can (pR a0_0 a1),.bool r)
 |_=>none
abbrev arS:=Bool
noncomputable def lj(a0 a1:aA)(r:arS):Prop:=aV Try.prog ahu [.agg (enc .atype a0),.agg (enc .atype a1)] (.bool r)∧adk a0 a1 r
noncomputable def arT:bA Try.prog:=.mk 64 fun us=>match us with
 | [.agg [.int .i64 a0_0,.str a0_1,.sl .str (.may _) a0_2,.int .i64 a0_3,.sl .str (.may _) a0_4,.bool a0_5,.str a0_6,.int .i64 a0_7,.sl .afield (.may _) a0_8,.sl (.num .i64) (.may _) a0_9],.agg [.int .i64 a1_0,.str a1_1,.sl .str (.may _) a1_2,.int .i64 a1_3,.sl .str (.may _) a1_4,.bool a1_5,.str a1_6,.int .i64 a1_7,.sl .afield (.may _) a1_8,.sl (.num .i64) (.may _) a1_9]]=>let r:=pick (lj (⟨a0_0,a0_1,a0_2,a0_3,a0_4,a0_5,a0_6,a0_7,a0_8,a0_9⟩) (⟨a1_0,a1_1,a1_2,a1_3,a1_4,a1_5,a1_6,a1_7,a1_8,a1_9⟩));some (can (lj (⟨a0_0,a0_1,a0_2,a0_3,a0_4,a0_5,a0_6,a0_7,a0_8,a0_9⟩) (⟨a1_0,a1_1,a1_2,a1_3,a1_4,a1_5,a1_6,a1_7,a1_8,a1_9⟩)),.bool r)
 |_=>none
abbrev at1:=Bool
noncomputable def ni(a0 a1:aA)(r:at1):Prop:=aV Try.prog ajY [.agg (enc .atype a0),.agg (enc .atype a1)] (.bool r)∧aey a0 a1 r
noncomputable def at2:bA Try.prog:=.mk 65 fun us=>match us with
 | [.agg [.int .i64 a0_0,.str a0_1,.sl .str (.may _) a0_2,.int .i64 a0_3,.sl .str (.may _) a0_4,.bool a0_5,.str a0_6,.int .i64 a0_7,.sl .afield (.may _) a0_8,.sl (.num .i64) (.may _) a0_9],.agg [.int .i64 a1_0,.str a1_1,.sl .str (.may _) a1_2,.int .i64 a1_3,.sl .str (.may _) a1_4,.bool a1_5,.str a1_6,.int .i64 a1_7,.sl .afield (.may _) a1_8,.sl (.num .i64) (.may _) a1_9]]=>let r:=pick (ni (⟨a0_0,a0_1,a0_2,a0_3,a0_4,a0_5,a0_6,a0_7,a0_8,a0_9⟩) (⟨a1_0,a1_1,a1_2,a1_3,a1_4,a1_5,a1_6,a1_7,a1_8,a1_9⟩));some (can (ni (⟨a0_0,a0_1,a0_2,a0_3,a0_4,a0_5,a0_6,a0_7,a0_8,a0_9⟩) (⟨a1_0,a1_1,a1_2,a1_3,a1_4,a1_5,a1_6,a1_7,a1_8,a1_9⟩)),.bool r)
 |_=>none
abbrev ahx:=Bool
noncomputable def iH(o0_0:List ((Int×Int)×Bool))(o1_0 o1_1:List aA)(o1_2:List Bool)(a1 a2:Int)(r:ahx):Prop:=iX Try.prog zK [.ptr 1 0,.int .i64 a1,.int .i64 a2] [some [.mp .pb o0_0],some [.sl .atype (.may false) o1_0,.sl .atype (.may false) o1_1,.sl .bool (.may false) o1_2,.mr 0]] (.bool r) [some [.mp .pb o0_0],some [.sl .atype (.may false) o1_0,.sl .atype (.may false) o1_1,.sl .bool (.may false) o1_2,.mr 0]]∧jk o0_0 o1_0 o1_1 o1_2 a1 a2 r
abbrev al8:=aD×Bs×Int
noncomputable def mf(o0_0:Bs)(o0_1:Int)(a1:aD)(r:al8):Prop:=b7 Try.prog acu [.ptr 0 0,.agg (enc .jnode a1)] [[.sl .u8 (.may false) o0_0,.int .i64 o0_1]] (.agg (enc .jnode r.1)) [[.sl .u8 (.may false) r.2.1,.int .i64 r.2.2]]∧rC o0_0 o0_1 a1 r
noncomputable def al9:gp Try.prog:=.mk 88 fun us css=>match us,css with
 | [.ptr 0 0,.agg [.int .i64 a1_0,.int .i64 a1_1,.str a1_2,.sl .jnode (.may _) a1_3,.sl .str (.may _) a1_4]],[[.sl .u8 (.may false) o0_0,.int .i64 o0_1]]=>let r:=pick (mf o0_0 o0_1 (⟨a1_0,a1_1,a1_2,a1_3,a1_4⟩));some (can (mf o0_0 o0_1 (⟨a1_0,a1_1,a1_2,a1_3,a1_4⟩)),.agg (enc .jnode r.1),[[.sl .u8 (.may false) r.2.1,.int .i64 r.2.2]])
 |_,_=>none
abbrev av6:=Bs
noncomputable def oW(a0:Bs)(r:av6):Prop:=aV Try.prog al5 [.str a0] (.str r)∧af6 a0 r
noncomputable def ama:bA Try.prog:=.mk 89 fun us=>match us with
 | [.str a0]=>let r:=pick (oW a0);some (can (oW a0),.str r)
 |_=>none
abbrev jZ:=Bool
noncomputable def bq(a0:Bss)(a1_0_0:Int)(a1_0_1:Bs)(a1_0_2:Bss)(a1_0_3:Int)(a1_0_4:Bss)(a1_0_5:Bool)(a1_0_6:Bs)(a1_0_7:Int)(a1_0_8:List aM)(a1_0_9:List Int)(r:jZ):Prop:=aV Try.prog d8 [.sl .str (.may false) a0,.fn 96 [.ea [.int .i64 a1_0_0,.str a1_0_1,.sl .str (.may false) a1_0_2,.int .i64 a1_0_3,.sl .str (.may false) a1_0_4,.bool a1_0_5,.str a1_0_6,.int .i64 a1_0_7,.sl .afield (.may false) a1_0_8,.sl (.num .i64) (.may false) a1_0_9]]] (.bool r)∧dQ a0 a1_0_0 a1_0_1 a1_0_2 a1_0_3 a1_0_4 a1_0_5 a1_0_6 a1_0_7 a1_0_8 a1_0_9 r
noncomputable def j0:bA Try.prog:=.mk 90 fun us=>match us with
 | [.sl .str (.may _) a0,.fn 96 [.ea [.int .i64 a1_0_0,.str a1_0_1,.sl .str (.may false) a1_0_2,.int .i64 a1_0_3,.sl .str (.may false) a1_0_4,.bool a1_0_5,.str a1_0_6,.int .i64 a1_0_7,.sl .afield (.may false) a1_0_8,.sl (.num .i64) (.may false) a1_0_9]]]=>let r:=pick (bq a0 a1_0_0 a1_0_1 a1_0_2 a1_0_3 a1_0_4 a1_0_5 a1_0_6 a1_0_7 a1_0_8 a1_0_9);some (can (bq a0 a1_0_0 a1_0_1 a1_0_2 a1_0_3 a1_0_4 a1_0_5 a1_0_6 a1_0_7 a1_0_8 a1_0_9),.bool r)
 |_=>none
abbrev nw:=Bool
noncomputable def bE(a0:Bss)(a1_0_0:Bs)(r:nw):Prop:=aV Try.prog fD [.sl .str (.may false) a0,.fn 91 [.ea [.str a1_0_0]]] (.bool r)∧eQ a0 a1_0_0 r
noncomputable def ny:bA Try.prog:=.mk 90 fun us=>match us with
 | [.sl .str (.may _) a0,.fn 91 [.ea [.str a1_0_0]]]=>let r:=pick (bE a0 a1_0_0);some (can (bE a0 a1_0_0),.bool r)
 |_=>none
abbrev anl:=Bool
noncomputable def nA(a0 ac0_0:Bs)(r:anl):Prop:=aV Try.prog adq [.str a0,.ea [.str ac0_0]] (.bool r)∧aan a0 ac0_0 r
noncomputable def anm:bA Try.prog:=.mk 91 fun us=>match us with
 | [.str a0,.ea [.str ac0_0]]=>let r:=pick (nA a0 ac0_0);some (can (nA a0 ac0_0),.bool r)
 |_=>none
abbrev at3:=Bs
noncomputable def jV(a0:Bs)(r:at3):Prop:=aV Try.prog ajW [.str a0] (.str r)∧aex a0 r
noncomputable def at4:bA Try.prog:=.mk 92 fun us=>match us with
 | [.str a0]=>let r:=pick (jV a0);some (can (jV a0),.str r)
 |_=>none
abbrev nj:=Bool
noncomputable def bB(o0_0:List ((Int×Int)×Bool))(o1_0 o1_1:List aA)(o1_2:List Bool)(a0:List Int)(a1_1_0:Int)(r:nj):Prop:=iX Try.prog fk [.sl (.num .i64) (.may false) a0,.fn 94 [.ea [.ptr 1 0],.ea [.int .i64 a1_1_0]]] [some [.mp .pb o0_0],some [.sl .atype (.may false) o1_0,.sl .atype (.may false) o1_1,.sl .bool (.may false) o1_2,.mr 0]] (.bool r) [some [.mp .pb o0_0],some [.sl .atype (.may false) o1_0,.sl .atype (.may false) o1_1,.sl .bool (.may false) o1_2,.mr 0]]∧eK o0_0 o1_0 o1_1 o1_2 a0 a1_1_0 r
abbrev aeB:=Bool
noncomputable def ge(o0_0:List ((Int×Int)×Bool))(o1_0 o1_1:List aA)(o1_2:List Bool)(a0 ac1_0:Int)(r:aeB):Prop:=iX Try.prog wi [.int .i64 a0,.ea [.ptr 1 0],.ea [.int .i64 ac1_0]] [some [.mp .pb o0_0],some [.sl .atype (.may false) o1_0,.sl .atype (.may false) o1_1,.sl .bool (.may false) o1_2,.mr 0]] (.bool r) [some [.mp .pb o0_0],some [.sl .atype (.may false) o1_0,.sl .atype (.may false) o1_1,.sl .bool (.may false) o1_2,.mr 0]]∧sC o0_0 o1_0 o1_1 o1_2 a0 ac1_0 r
abbrev arU:=Int
noncomputable def rE(a0_0 a1_0:List aA)(a2 a3:Int)(r:arU):Prop:=aV Try.prog aht [.agg [.sl .atype (.may false) a0_0],.agg [.sl .atype (.may false) a1_0],.int .i64 a2,.int .i64 a3] (.int .i64 r)∧adl a0_0 a1_0 a2 a3 r
noncomputable def arV:bA Try.prog:=.mk 95 fun us=>match us with
 | [.agg [.sl .atype (.may _) a0_0],.agg [.sl .atype (.may _) a1_0],.int .i64 a2,.int .i64 a3]=>let r:=pick (rE a0_0 a1_0 a2 a3);some (can (rE a0_0 a1_0 a2 a3),.int .i64 r)
 |_=>none
abbrev aeC:=Bool
noncomputable def gf(a0:Bs)(ac0_0:Int)(ac0_1:Bs)(ac0_2:Bss)(ac0_3:Int)(ac0_4:Bss)(ac0_5:Bool)(ac0_6:Bs)(ac0_7:Int)(ac0_8:List aM)(ac0_9:List Int)(r:aeC):Prop:=aV Try.prog wj [.str a0,.ea [.int .i64 ac0_0,.str ac0_1,.sl .str (.may false) ac0_2,.int .i64 ac0_3,.sl .str (.may false) ac0_4,.bool ac0_5,.str ac0_6,.int .i64 ac0_7,.sl .afield (.may false) ac0_8,.sl (.num .i64) (.may false) ac0_9]] (.bool r)∧sB a0 ac0_0 ac0_1 ac0_2 ac0_3 ac0_4 ac0_5 ac0_6 ac0_7 ac0_8 ac0_9 r
noncomputable def aeD:bA Try.prog:=.mk 96 fun us=>match us with
 | [.str a0,.ea [.int .i64 ac0_0,.str ac0_1,.sl .str (.may false) ac0_2,.int .i64 ac0_3,.sl .str (.may false) ac0_4,.bool ac0_5,.str ac0_6,.int .i64 ac0_7,.sl .afield (.may false) ac0_8,.sl (.num .i64) (.may false) ac0_9]]=>let r:=pick (gf a0 ac0_0 ac0_1 ac0_2 ac0_3 ac0_4 ac0_5 ac0_6 ac0_7 ac0_8 ac0_9);some (can (gf a0 ac0_0 ac0_1 ac0_2 ac0_3 ac0_4 ac0_5 ac0_6 ac0_7 ac0_8 ac0_9),.bool r)
 |_=>none
abbrev zX:=Bool
noncomputable def dO(a0:Bss)(a1:Bs)(r:zX):Prop:=aV Try.prog py [.sl .str (.may false) a0,.str a1] (.bool r)∧nv a0 a1 r
noncomputable def zY:bA Try.prog:=.mk 97 fun us=>match us with
 | [.sl .str (.may _) a0,.str a1]=>let r:=pick (dO a0 a1);some (can (dO a0 a1),.bool r)
 |_=>none
abbrev agJ:=Bool
noncomputable def gW(o0_0:List ((Int×Int)×Bool))(o1_0 o1_1:List aA)(o1_2:List Bool)(a1 a2:aA)(r:agJ):Prop:=iX Try.prog ym [.ptr 1 0,.agg (enc .atype a1),.agg (enc .atype a2)] [some [.mp .pb o0_0],some [.sl .atype (.may false) o1_0,.sl .atype (.may false) o1_1,.sl .bool (.may false) o1_2,.mr 0]] (.bool r) [some [.mp .pb o0_0],some [.sl .atype (.may false) o1_0,.sl .atype (.may false) o1_1,.sl .bool (.may false) o1_2,.mr 0]]∧nU o0_0 o1_0 o1_1 o1_2 a1 a2 r
abbrev arW:=Int
noncomputable def rF(a0_0 a1_0:List aA)(a2 a3:Int)(r:arW):Prop:=aV Try.prog ahv [.agg [.sl .atype (.may false) a0_0],.agg [.sl .atype (.may false) a1_0],.int .i64 a2,.int .i64 a3] (.int .i64 r)∧adm a0_0 a1_0 a2 a3 r
noncomputable def arX:bA Try.prog:=.mk 99 fun us=>match us with
 | [.agg [.sl .atype (.may _) a0_0],.agg [.sl .atype (.may _) a1_0],.int .i64 a2,.int .i64 a3]=>let r:=pick (rF a0_0 a1_0 a2 a3);some (can (rF a0_0 a1_0 a2 a3),.int .i64 r)
 |_=>none
abbrev arY:=Int
noncomputable def oH(a0:aA)(a1:Bs)(r:arY):Prop:=aV Try.prog ahw [.agg (enc .atype a0),.str a1] (.int .i64 r)∧adn a0 a1 r
noncomputable def arZ:bA Try.prog:=.mk 100 fun us=>match us with
 | [.agg [.int .i64 a0_0,.str a0_1,.sl .str (.may _) a0_2,.int .i64 a0_3,.sl .str (.may _) a0_4,.bool a0_5,.str a0_6,.int .i64 a0_7,.sl .afield (.may _) a0_8,.sl (.num .i64) (.may _) a0_9],.str a1]=>let r:=pick (oH (⟨a0_0,a0_1,a0_2,a0_3,a0_4,a0_5,a0_6,a0_7,a0_8,a0_9⟩) a1);some (can (oH (⟨a0_0,a0_1,a0_2,a0_3,a0_4,a0_5,a0_6,a0_7,a0_8,a0_9⟩) a1),.int .i64 r)
 |_=>none
abbrev av7:=Int
noncomputable def wl(a0:aA)(a1:aM)(r:av7):Prop:=aV Try.prog al6 [.agg (enc .atype a0),.agg (enc .afield a1)] (.int .i64 r)∧aaq a0 a1 r
noncomputable def av8:bA Try.prog:=.mk 101 fun us=>match us with
 | [.agg [.int .i64 a0_0,.str a0_1,.sl .str (.may _) a0_2,.int .i64 a0_3,.sl .str (.may _) a0_4,.bool a0_5,.str a0_6,.int .i64 a0_7,.sl .afield (.may _) a0_8,.sl (.num .i64) (.may _) a0_9],.agg [.str a1_0,.sl .str (.may _) a1_1,.int .i64 a1_2,.bool a1_3,.int .i64 a1_4,.int .i64 a1_5,.str a1_6,.sl .jnode (.may _) a1_7,.sl .str (.may _) a1_8]]=>let r:=pick (wl (⟨a0_0,a0_1,a0_2,a0_3,a0_4,a0_5,a0_6,a0_7,a0_8,a0_9⟩) (⟨a1_0,a1_1,a1_2,a1_3,⟨a1_4,a1_5,a1_6,a1_7,a1_8⟩⟩));some (can (wl (⟨a0_0,a0_1,a0_2,a0_3,a0_4,a0_5,a0_6,a0_7,a0_8,a0_9⟩) (⟨a1_0,a1_1,a1_2,a1_3,⟨a1_4,a1_5,a1_6,a1_7,a1_8⟩⟩)),.int .i64 r)
 |_=>none
abbrev afs:=Int
noncomputable def gz(a0:Bs)(a1:Int)(r:afs):Prop:=aV Try.prog xJ [.str a0,.int .u8 a1] (.int .i64 r)∧tQ a0 a1 r
noncomputable def afu:bA Try.prog:=.mk 125 fun us=>match us with
 | [.str a0,.int .u8 a1]=>let r:=pick (gz a0 a1);some (can (gz a0 a1),.int .i64 r)
 |_=>none
abbrev lB:=Int
noncomputable def bu(a0:Bss)(a1_0_0:Int)(a1_0_1:Bs)(a1_0_2:Bss)(a1_0_3:Int)(a1_0_4:Bss)(a1_0_5:Bool)(a1_0_6:Bs)(a1_0_7:Int)(a1_0_8:List aM)(a1_0_9:List Int)(r:lB):Prop:=aV Try.prog eL [.sl .str (.may false) a0,.fn 96 [.ea [.int .i64 a1_0_0,.str a1_0_1,.sl .str (.may false) a1_0_2,.int .i64 a1_0_3,.sl .str (.may false) a1_0_4,.bool a1_0_5,.str a1_0_6,.int .i64 a1_0_7,.sl .afield (.may false) a1_0_8,.sl (.num .i64) (.may false) a1_0_9]]] (.int .i64 r)∧d7 a0 a1_0_0 a1_0_1 a1_0_2 a1_0_3 a1_0_4 a1_0_5 a1_0_6 a1_0_7 a1_0_8 a1_0_9 r
noncomputable def lC:bA Try.prog:=.mk 126 fun us=>match us with
 | [.sl .str (.may _) a0,.fn 96 [.ea [.int .i64 a1_0_0,.str a1_0_1,.sl .str (.may false) a1_0_2,.int .i64 a1_0_3,.sl .str (.may false) a1_0_4,.bool a1_0_5,.str a1_0_6,.int .i64 a1_0_7,.sl .afield (.may false) a1_0_8,.sl (.num .i64) (.may false) a1_0_9]]]=>let r:=pick (bu a0 a1_0_0 a1_0_1 a1_0_2 a1_0_3 a1_0_4 a1_0_5 a1_0_6 a1_0_7 a1_0_8 a1_0_9);some (can (bu a0 a1_0_0 a1_0_1 a1_0_2 a1_0_3 a1_0_4 a1_0_5 a1_0_6 a1_0_7 a1_0_8 a1_0_9),.int .i64 r)
 |_=>none
abbrev oX:=Int
noncomputable def bL(a0:Bss)(a1_0_0:Bs)(r:oX):Prop:=aV Try.prog gc [.sl .str (.may false) a0,.fn 91 [.ea [.str a1_0_0]]] (.int .i64 r)∧fC a0 a1_0_0 r
noncomputable def oY:bA Try.prog:=.mk 126 fun us=>match us with
 | [.sl .str (.may _) a0,.fn 91 [.ea [.str a1_0_0]]]=>let r:=pick (bL a0 a1_0_0);some (can (bL a0 a1_0_0),.int .i64 r)
 |_=>none
abbrev oJ:=Int
noncomputable def bI(o0_0:List ((Int×Int)×Bool))(o1_0 o1_1:List aA)(o1_2:List Bool)(a0:List Int)(a1_1_0:Int)(r:oJ):Prop:=iX Try.prog fT [.sl (.num .i64) (.may false) a0,.fn 94 [.ea [.ptr 1 0],.ea [.int .i64 a1_1_0]]] [some [.mp .pb o0_0],some [.sl .atype (.may false) o1_0,.sl .atype (.may false) o1_1,.sl .bool (.may false) o1_2,.mr 0]] (.int .i64 r) [some [.mp .pb o0_0],some [.sl .atype (.may false) o1_0,.sl .atype (.may false) o1_1,.sl .bool (.may false) o1_2,.mr 0]]∧fj o0_0 o1_0 o1_1 o1_2 a0 a1_1_0 r
abbrev rG:=Int
noncomputable def cj(a0:List Int)(a1_0_0 a1_1_0:List aA)(a1_2_0:Int)(r:rG):Prop:=aV Try.prog iG [.sl (.num .i64) (.may false) a0,.fn 128 [.ea [.sl .atype (.may false) a1_0_0],.ea [.sl .atype (.may false) a1_1_0],.ea [.int .i64 a1_2_0]]] (.int .i64 r)∧gJ a0 a1_0_0 a1_1_0 a1_2_0 r
noncomputable def rH:bA Try.prog:=.mk 127 fun us=>match us with
 | [.sl (.num .i64) (.may _) a0,.fn 128 [.ea [.sl .atype (.may false) a1_0_0],.ea [.sl .atype (.may false) a1_1_0],.ea [.int .i64 a1_2_0]]]=>let r:=pick (cj a0 a1_0_0 a1_1_0 a1_2_0);some (can (cj a0 a1_0_0 a1_1_0 a1_2_0),.int .i64 r)
 |_=>none
abbrev ann:=Bool
noncomputable def nB(a0:Int)(ac0_0 ac1_0:List aA)(ac2_0:Int)(r:ann):Prop:=aV Try.prog adp [.int .i64 a0,.ea [.sl .atype (.may false) ac0_0],.ea [.sl .atype (.may false) ac1_0],.ea [.int .i64 ac2_0]] (.bool r)∧aap a0 ac0_0 ac1_0 ac2_0 r
noncomputable def ano:bA Try.prog:=.mk 128 fun us=>match us with
 | [.int .i64 a0,.ea [.sl .atype (.may false) ac0_0],.ea [.sl .atype (.may false) ac1_0],.ea [.int .i64 ac2_0]]=>let r:=pick (nB a0 ac0_0 ac1_0 ac2_0);some (can (nB a0 ac0_0 ac1_0 ac2_0),.bool r)
 |_=>none
abbrev abH:=Int
noncomputable def eD(a0:Bss)(a1:Bs)(r:abH):Prop:=aV Try.prog rD [.sl .str (.may false) a0,.str a1] (.int .i64 r)∧px a0 a1 r
noncomputable def abI:bA Try.prog:=.mk 129 fun us=>match us with
 | [.sl .str (.may _) a0,.str a1]=>let r:=pick (eD a0 a1);some (can (eD a0 a1),.int .i64 r)
 |_=>none
abbrev av9:=Int
noncomputable def wm(a0:aA)(a1:aM)(r:av9):Prop:=aV Try.prog al4 [.agg (enc .atype a0),.agg (enc .afield a1)] (.int .i64 r)∧aao a0 a1 r
noncomputable def awa:bA Try.prog:=.mk 130 fun us=>match us with
 | [.agg [.int .i64 a0_0,.str a0_1,.sl .str (.may _) a0_2,.int .i64 a0_3,.sl .str (.may _) a0_4,.bool a0_5,.str a0_6,.int .i64 a0_7,.sl .afield (.may _) a0_8,.sl (.num .i64) (.may _) a0_9],.agg [.str a1_0,.sl .str (.may _) a1_1,.int .i64 a1_2,.bool a1_3,.int .i64 a1_4,.int .i64 a1_5,.str a1_6,.sl .jnode (.may _) a1_7,.sl .str (.may _) a1_8]]=>let r:=pick (wm (⟨a0_0,a0_1,a0_2,a0_3,a0_4,a0_5,a0_6,a0_7,a0_8,a0_9⟩) (⟨a1_0,a1_1,a1_2,a1_3,⟨a1_4,a1_5,a1_6,a1_7,a1_8⟩⟩));some (can (wm (⟨a0_0,a0_1,a0_2,a0_3,a0_4,a0_5,a0_6,a0_7,a0_8,a0_9⟩) (⟨a1_0,a1_1,a1_2,a1_3,⟨a1_4,a1_5,a1_6,a1_7,a1_8⟩⟩)),.int .i64 r)
 |_=>none
abbrev ur:=Int
noncomputable def cH(a0:Bs)(a1:Int)(r:ur):Prop:=aV Try.prog kM [.str a0,.int .u8 a1] (.int .i64 r)∧iY a0 a1 r
noncomputable def uu:bA Try.prog:=.mk 151 fun us=>match us with
 | [.str a0,.int .u8 a1]=>let r:=pick (cH a0 a1);some (can (cH a0 a1),.int .i64 r)
 |_=>none
abbrev mg:=Int
noncomputable def bw(a0:List aM)(a1_0_0:Bs)(r:mg):Prop:=aV Try.prog eR [.sl .afield (.may false) a0,.fn 153 [.ea [.str a1_0_0]]] (.int .i64 r)∧eh a0 a1_0_0 r
noncomputable def mh:bA Try.prog:=.mk 152 fun us=>match us with
 | [.sl .afield (.may _) a0,.fn 153 [.ea [.str a1_0_0]]]=>let r:=pick (bw a0 a1_0_0);some (can (bw a0 a1_0_0),.int .i64 r)
 |_=>none
abbrev aqi:=Bool
noncomputable def pS(a0:aM)(ac0_0:Bs)(r:aqi):Prop:=aV Try.prog af7 [.agg (enc .afield a0),.ea [.str ac0_0]] (.bool r)∧acr a0 ac0_0 r
noncomputable def aqj:bA Try.prog:=.mk 153 fun us=>match us with
 | [.agg [.str a0_0,.sl .str (.may _) a0_1,.int .i64 a0_2,.bool a0_3,.int .i64 a0_4,.int .i64 a0_5,.str a0_6,.sl .jnode (.may _) a0_7,.sl .str (.may _) a0_8],.ea [.str ac0_0]]=>let r:=pick (pS (⟨a0_0,a0_1,a0_2,a0_3,⟨a0_4,a0_5,a0_6,a0_7,a0_8⟩⟩) ac0_0);some (can (pS (⟨a0_0,a0_1,a0_2,a0_3,⟨a0_4,a0_5,a0_6,a0_7,a0_8⟩⟩) ac0_0),.bool r)
 |_=>none
end Go.Proofs.Ytdpajabhmmmjoaa
end
noncomputable section
namespace Go.Proofs.Ytdpajabhmmmjoaa
open Go.AM
set_option autoImplicit false
set_option linter.unusedVariables false
set_option maxRecDepth 100000
abbrev wo:FuncId:=8
abbrev amb:FuncId:=131
abbrev af8:FuncId:=34
abbrev aeE:FuncId:=102
abbrev ahy:FuncId:=103
abbrev af9:FuncId:=69
abbrev amc:=Bool
noncomputable def acw(a0 a1:Bs)(r:amc):Prop:=aV Try.prog wo [.sl .u8 (.may false) a0,.sl .u8 (.may false) a1] (.bool r)∧zJ a0 a1 r
abbrev aqk:=aH×Int
noncomputable def pT(a0_0 a1_0:List aA)(a2 a3:Int)(a4:aH)(r:aqk):Prop:=aV Try.prog af8 [.agg [.sl .atype (.may false) a0_0],.agg [.sl .atype (.may false) a1_0],.int .i64 a2,.int .i64 a3,.agg (enc .aval a4)] (.tup [.agg (enc .aval r.1),.int .i64 r.2])∧wh a0_0 a1_0 a2 a3 a4 r
noncomputable def aql:bA Try.prog:=.mk 34 fun us=>match us with
 | [.agg [.sl .atype (.may _) a0_0],.agg [.sl .atype (.may _) a1_0],.int .i64 a2,.int .i64 a3,.agg [.int .u64 a4_0,.str a4_1,.sl .aval (.may _) a4_2,.sl .str (.may _) a4_3,.int .i64 a4_4]]=>let r:=pick (pT a0_0 a1_0 a2 a3 (⟨a4_0,a4_1,a4_2,a4_3,a4_4⟩));some (can (pT a0_0 a1_0 a2 a3 (⟨a4_0,a4_1,a4_2,a4_3,a4_4⟩)),.tup [.agg (enc .aval r.1),.int .i64 r.2])
 |_=>none
abbrev aqm:=aH×Int
noncomputable def fN(a0_0 a1_0:List aA)(a2 a3:Int)(a4:aH)(r:aqm):Prop:=aV Try.prog af9 [.agg [.sl .atype (.may false) a0_0],.agg [.sl .atype (.may false) a1_0],.int .i64 a2,.int .i64 a3,.agg (enc .aval a4)] (.tup [.agg (enc .aval r.1),.int .i64 r.2])∧pQ a0_0 a1_0 a2 a3 a4 r
noncomputable def aar:bA Try.prog:=.mk 69 fun us=>match us with
 | [.agg [.sl .atype (.may _) a0_0],.agg [.sl .atype (.may _) a1_0],.int .i64 a2,.int .i64 a3,.agg [.int .u64 a4_0,.str a4_1,.sl .aval (.may _) a4_2,.sl .str (.may _) a4_3,.int .i64 a4_4]]=>let r:=pick (fN a0_0 a1_0 a2 a3 (⟨a4_0,a4_1,a4_2,a4_3,a4_4⟩));some (can (fN a0_0 a1_0 a2 a3 (⟨a4_0,a4_1,a4_2,a4_3,a4_4⟩)),.tup [.agg (enc .aval r.1),.int .i64 r.2])
 |_=>none
abbrev aoM:=Int
noncomputable def iA(a0 a1 a2:Int)(r:aoM):Prop:=aV Try.prog aeE [.int .i64 a0,.int .i64 a1,.int .u64 a2] (.int .u64 r)
noncomputable def aoN:bA Try.prog:=.mk 102 fun us=>match us with
 | [.int .i64 a0,.int .i64 a1,.int .u64 a2]=>let r:=pick (iA a0 a1 a2);some (can (iA a0 a1 a2),.int .u64 r)
 |_=>none
abbrev ar0:=aH×Int
noncomputable def rI(a0_0 a1_0:List aA)(a2 a3:aA)(a4:aH)(r:ar0):Prop:=aV Try.prog ahy [.agg [.sl .atype (.may false) a0_0],.agg [.sl .atype (.may false) a1_0],.agg (enc .atype a2),.agg (enc .atype a3),.agg (enc .aval a4)] (.tup [.agg (enc .aval r.1),.int .i64 r.2])∧ado a0_0 a1_0 a2 a3 a4 r
noncomputable def ar1:bA Try.prog:=.mk 103 fun us=>match us with
 | [.agg [.sl .atype (.may _) a0_0],.agg [.sl .atype (.may _) a1_0],.agg [.int .i64 a2_0,.str a2_1,.sl .str (.may _) a2_2,.int .i64 a2_3,.sl .str (.may _) a2_4,.bool a2_5,.str a2_6,.int .i64 a2_7,.sl .afield (.may _) a2_8,.sl (.num .i64) (.may _) a2_9],.agg [.int .i64 a3_0,.str a3_1,.sl .str (.may _) a3_2,.int .i64 a3_3,.sl .str (.may _) a3_4,.bool a3_5,.str a3_6,.int .i64 a3_7,.sl .afield (.may _) a3_8,.sl (.num .i64) (.may _) a3_9],.agg [.int .u64 a4_0,.str a4_1,.sl .aval (.may _) a4_2,.sl .str (.may _) a4_3,.int .i64 a4_4]]=>let r:=pick (rI a0_0 a1_0 (⟨a2_0,a2_1,a2_2,a2_3,a2_4,a2_5,a2_6,a2_7,a2_8,a2_9⟩) (⟨a3_0,a3_1,a3_2,a3_3,a3_4,a3_5,a3_6,a3_7,a3_8,a3_9⟩) (⟨a4_0,a4_1,a4_2,a4_3,a4_4⟩));some (can (rI a0_0 a1_0 (⟨a2_0,a2_1,a2_2,a2_3,a2_4,a2_5,a2_6,a2_7,a2_8,a2_9⟩) (⟨a3_0,a3_1,a3_2,a3_3,a3_4,a3_5,a3_6,a3_7,a3_8,a3_9⟩) (⟨a4_0,a4_1,a4_2,a4_3,a4_4⟩)),.tup [.agg (enc .aval r.1),.int .i64 r.2])
 |_=>none
abbrev awb:=Int
noncomputable def wq(a0:Int)(r:awb):Prop:=aV Try.prog amb [.int .u32 a0] (.int .u64 r)
noncomputable def awc:bA Try.prog:=.mk 131 fun us=>match us with
 | [.int .u32 a0]=>let r:=pick (wq a0);some (can (wq a0),.int .u64 r)
 |_=>none
end Go.Proofs.Ytdpajabhmmmjoaa
end
noncomputable section
namespace Go.Proofs.Ytdpajabhmmmjoaa
open Go.AM
set_option autoImplicit false
set_option linter.unusedVariables false
set_option maxRecDepth 100000
abbrev adr:FuncId:=26
abbrev aj1:FuncId:=58
abbrev aj2:FuncId:=85
abbrev anp:=aH×Bool×Bs×Int
noncomputable def dm(a:Bs)(b:Int)(c:List aA)(d e:Int)(r:anp):Prop:=b7 Try.prog adr [.ptr 0 0,.agg [.sl .atype (.may false) c],.int .i64 d,.int .i64 e] [[.sl .u8 (.may false) a,.int .i64 b]] (.tup [.agg (enc .aval r.1),.bool r.2.1]) [[.sl .u8 (.may false) r.2.2.1,.int .i64 r.2.2.2]]∧dr a b c d e r
noncomputable def ads:gp Try.prog:=.mk 26 fun us css=>match us,css with
 | [.ptr 0 0,.agg [.sl .atype (.may _) a],.int .i64 d,.int .i64 e],[[.sl .u8 (.may false) b,.int .i64 c]]=>let r:=pick (dm b c a d e);some (can (dm b c a d e),.tup [.agg (enc .aval r.1),.bool r.2.1],[[.sl .u8 (.may false) r.2.2.1,.int .i64 r.2.2.2]])
 |_,_=>none
abbrev at5:=Int×Bs×Bool×List aH×Bool×Bss×Int×Bool
noncomputable def tS(a:List aA)(b:Int)(r:at5):Prop:=aV Try.prog aj1 [.agg [.sl .atype (.may false) a],.int .i64 b] (.tup [.agg [.int .u64 r.1,.str r.2.1,.sl .aval (.may r.2.2.1) r.2.2.2.1,.sl .str (.may r.2.2.2.2.1) r.2.2.2.2.2.1,.int .i64 r.2.2.2.2.2.2.1],.bool r.2.2.2.2.2.2.2])∧aev a b r
noncomputable def at6:bA Try.prog:=.mk 58 fun us=>match us with
 | [.agg [.sl .atype (.may _) a],.int .i64 b]=>let r:=pick (tS a b);some (can (tS a b),.tup [.agg [.int .u64 r.1,.str r.2.1,.sl .aval (.may r.2.2.1) r.2.2.2.1,.sl .str (.may r.2.2.2.2.1) r.2.2.2.2.2.1,.int .i64 r.2.2.2.2.2.2.1],.bool r.2.2.2.2.2.2.2])
 |_=>none
abbrev at7:=Int×Bs×Bool×List aH×Bool×Bss×Int
noncomputable def jW(a:List aA)(b:Int)(c:List Int)(r:at7):Prop:=aV Try.prog aj2 [.agg [.sl .atype (.may false) a],.int .i64 b,.sl (.num .i64) (.may false) c] (.agg [.int .u64 r.1,.str r.2.1,.sl .aval (.may r.2.2.1) r.2.2.2.1,.sl .str (.may r.2.2.2.2.1) r.2.2.2.2.2.1,.int .i64 r.2.2.2.2.2.2])∧aeu a b c r
noncomputable def aj3:bA Try.prog:=.mk 85 fun us=>match us with
 | [.agg [.sl .atype (.may _) a],.int .i64 b,.sl (.num .i64) (.may _) c]=>let r:=pick (jW a b c);some (can (jW a b c),.agg [.int .u64 r.1,.str r.2.1,.sl .aval (.may r.2.2.1) r.2.2.2.1,.sl .str (.may r.2.2.2.2.1) r.2.2.2.2.2.1,.int .i64 r.2.2.2.2.2.2])
 |_=>none
end Go.Proofs.Ytdpajabhmmmjoaa
end
noncomputable section
namespace Go.Proofs.Ytdpajabhmmmjoaa
open Go.AM
set_option autoImplicit false
set_option linter.unusedVariables false
set_option maxRecDepth 100000
noncomputable def ws:aN:=tab (P:=Try.prog) [axu] [ads,aoL] [] [atX,aj0,aql]
def yn:IR:=Sq (Rs [Mv 32 8,Fa 33 0 5,Lq 34 33,Ll 35 34,Bi 36 .lss 32 35] (Cn 36 .skip (.exit 0))) (Sq (.block 1 (Sq (.reg [Mv 40 1,Ca 41 14 [40],Ld 42 1 true 5,Mv 43 8,Fo [] [1] (.call 44 26 [41,42,43,kI 0]),Mv 39 44,Ex_ 45 0 39,Ex_ 46 1 39,Pp (.alr 9 5),Fz 9 5 45,Mv 10 46] [[],[0],[],[],rg 0 3,rg 0 4,rg 0 5,rg 0 5,[],rg 0 6++[8],rg 0 9]) (Sq (Rs [Mv 47 10,Un 48 47] (Cn 48 (.exit 1) .skip)) (Rs [Ld 50 1 true 5,Ld 51 1 true 6,Mv 52 8,Ld 53 5 true 9,Ca 54 34 [50,51,52,kI 0,53],Mv 49 54,Ex_ 55 0 49,Ex_ 56 1 49,Pp (.alr 11 5),Fz 11 5 55,Mv 12 56] (Rs [Ld 57 1 true 5,Ld 58 1 true 6,Mv 59 8,Ca 60 32 [57,58,59,kI 0],Mv 61 60,Gt 61 (.mov 62 12),Gt 61 (.bin 63 .neq 62 (kI 0)),Pa 64 61 63] (Cn 64 (Rs [Mb 4 false] .ret) .skip)))))) (Rg [Mv 37 8,Bc 38 .add 37 1,Mv 8 38]))
def yo:IR:=Rs [Mb 4 true] .ret
def akO:IR:=Rs [Mb 4 false] (Sq (Rs [Ca 13 28 [],Un 14 13] (Cn 14 (Rs [Mb 4 false] .ret) .skip)) (Sq (Rs [Mv 15 0,Ll 16 15,Bc 17 .gtr 16 150,Mv 18 17,Gf 18 (.mov 19 1),Gf 18 (.lenl 20 19),Gf 18 (.bin 21 .gtr 20 (kI 60)),Po 22 18 21] (Cn 22 (Rs [Mb 4 true] .ret) .skip)) (Rs [Mv 24 0,Ca 25 14 [24],Ca 26 29 [25],Mv 23 26,Ex_ 27 0 23,Ex_ 28 1 23,Ex_ 29 2 23,Pp (.alr 5 1),Pp (.alr 6 1),Fz 5 1 27,Fz 6 1 28,Mv 7 29] (Sq (Rs [Mv 30 7,Un 31 30] (Cn 31 (Rs [Mb 4 true] .ret) .skip)) (Sq (Rs [Mi 8 0] (.block 0 (.loop [1,5,6,8,1000000] 1 yn))) yo)))))
def abd:List RV:=[.t 4]
theorem akP:FnC Try.prog ws [14,26,29,2000026,2000029] 0 wo Try.f8 akO abd:=fnC Try.func8
def ai0(R:IR→(Ex→St→Ro)→St→Ro)(again0:St→Ro):Ex→St→Ro:=(bj again0 [1,5,6,8,1000000] 1 (aP 0 (bg (R yo) (fin abd))))
abbrev nV:Type:=(Bs×List aA×List aA×Int×Bs×Int)
def mC(x:nV):St:={env:=(.undef::.sl .u8 (.may false) x.1::(U 3 (.ea [.sl .atype (.may false) x.2.1]::.ea [.sl .atype (.may false) x.2.2.1]::.undef::.int .i64 x.2.2.2.1::(U 56 [])))),hp:=[some [.sl .u8 (.may false) x.2.2.2.2.1,.int .i64 x.2.2.2.2.2]]}
def sN(N:Nat):(St→Ro)→St→Ro:=fun again0 s=>run ws N yn (ai0 (run ws N) again0) s
def nW(N:Nat)(again0:nV→Ro)(x:nV):Ro:=
 let v1:Bs:=x.1
 let v5_0:List aA:=x.2.1
 let v6_0:List aA:=x.2.2.1
 let v8:Int:=x.2.2.2.1
 let o0_0:Bs:=x.2.2.2.2.1
 let o0_1:Int:=x.2.2.2.2.2
 let x3:=(↑(List.length v5_0):Int)
 cond (decide (v8<x3)) (
  aG (uk v1) (fun r4=>
   aG (dm r4.1 r4.2 v5_0 v8 0) (fun r5=>
    cond (!r5.2.1) (
     let x4:=(IntKind.wrap .i64 (v8+1))
     again0 (v1,v5_0,v6_0,x4,o0_0,o0_1)) (
     aG (pT v5_0 v6_0 v8 0 (reA r5.1)) (fun r6=>
      aG (jU v5_0 v6_0 v8 0) (fun(r7:Bool)=>
       cond r7 (
        cond (!(r6.2==0)) (
         some (.bool false,[some [.sl .u8 (.may false) o0_0,.int .i64 o0_1],some [.sl .u8 (.may false) r5.2.2.1,.int .i64 r5.2.2.2]])) (
         let x5:=(IntKind.wrap .i64 (v8+1))
         again0 (v1,v5_0,v6_0,x5,o0_0,o0_1))) (
        let x6:=(IntKind.wrap .i64 (v8+1))
        again0 (v1,v5_0,v6_0,x6,o0_0,o0_1)))))))) (
  some (.bool true,[some [.sl .u8 (.may false) o0_0,.int .i64 o0_1]]))
theorem ahz(N:Nat):LB (sN N) mC (nW N):=fun _ _=>by kernel_rfl
def kN(N:Nat)(p0 p1:Bs)(q0:nV→Ro):Ro:=
 aG (tR) (fun(r1:Bool)=>
  cond (!r1) (
   some (.bool false,[])) (
   let x1:=(↑(List.length p0):Int)
   cond (decide (150<x1)) (
    some (.bool true,[])) (
    let x2:=(↑(List.length p1):Int)
    cond (decide (60<x2)) (
     some (.bool true,[])) (
     aG (uk p0) (fun r2=>
      aG (oV r2.1 r2.2) (fun r3=>
       cond (!r3.2.2.1) (
        some (.bool true,[some [.sl .u8 (.may false) r3.2.2.2.1,.int .i64 r3.2.2.2.2]])) (
        q0 (p1,r3.1,r3.2.1,0,r3.2.2.2.1,r3.2.2.2.2))))))))
def abe(N:Nat)(p0 p1:Bs):Ro:=kN N p0 p1 (fun z=>aR N (nW N) z)
theorem ai1(N:Nat)(p0 p1:Bs)(h:Tot (abe N p0 p1) (fun z=>∃(y0:Bool)(rest:List aK),z.1.dimR=.bool y0∧z.2=rest∧zJ p0 p1 (y0))):∃r,acw p0 p1 r:=akP.finP (N:=N) ((bo _ (by kernel_rfl) rfl (fun C=>kN N p0 p1 (fun z=>C 1000000 (mC z))) (fun C=>by kernel_rfl)).trans (Eq.trans (b:=kN N p0 p1 (fun z=>aX N (sN N) (mC z))) (by kernel_rfl) (congrArg (kN N p0 p1) (funext fun z=>aW (mC) (sN N) (nW N) (ahz N) N z)))) h fun _ ⟨y0,_,e,_,q⟩=>⟨(y0),e,q⟩
end Go.Proofs.Ytdpajabhmmmjoaa
end
noncomputable section
namespace Go.Proofs.Ytdpajabhmmmjoaa
open Go.AM
set_option autoImplicit false
set_option linter.unusedVariables false
set_option maxRecDepth 100000
noncomputable def aeF:aN:=tab (P:=Try.prog) [] [] [] []
def aga:IR:=Sq (Rs [Mv 37 5,Mv 38 6,Bi 39 .shr 37 38,Pp (.bin 40 .eql 39 (kU 0))] (Cn 40 .skip (.exit 1))) (.block 2 (Rg [Mv 41 6,Bc 42 .sub 41 1,Mv 6 42]))
def agb:IR:=Rs [Mv 43 3,Mv 44 6,Bc 45 .sub 44 149,Bc 46 .add 45 1023,Pp (.cvi 47 .u64 46),Pp (.bin 48 .shl 47 (kU 52)),Bi 49 .or 43 48,Mv 50 5,Mv 51 6,Pp (.bin 52 .sub (kI 52) 51),Bi 53 .shl 50 52,Pp (.bin 54 .sub 53 (kU 4503599627370496)),Bi 55 .or 49 54,Mv 2 55] .ret
def aeG:IR:=Rs [Mv 56 3,Mv 57 4,Bc 58 .sub 57 127,Bc 59 .add 58 1023,Pp (.cvi 60 .u64 59),Pp (.bin 61 .shl 60 (kU 52)),Bi 62 .or 56 61,Mv 63 5,Pp (.bin 64 .shl 63 (kU 29)),Bi 65 .or 62 64,Mv 2 65] .ret
def at8:IR:=Rs [Pp (.mov 2 (kU 0))] (Rs [Mv 7 0,Pp (.bin 8 .shr 7 (kU 31)),Pp (.cvi 9 .u64 8),Pp (.bin 10 .shl 9 (kU 63)),Mv 3 10] (Rs [Mv 11 0,Pp (.bin 12 .shr 11 (kU 23)),Pp (.bin 13 .and 12 (.c (.int .u32 255))),Pp (.cvi 14 .i64 13),Mv 4 14] (Rs [Mv 15 0,Pp (.bin 16 .and 15 (.c (.int .u32 8388607))),Pp (.cvi 17 .u64 16),Mv 5 17] (Sq (.block 0 (Rs [Mv 19 4,Bc 20 .eql 19 255,Mv 18 20] (Cn 18 (Rs [Mv 21 3,Pp (.bin 22 .or 21 (kU 9218868437227405312)),Mv 23 5,Pp (.bin 24 .shl 23 (kU 29)),Bi 25 .or 22 24,Mv 2 25] .ret) (Rs [Mv 27 4,Bc 28 .eql 27 0,Mv 29 28,Gt 29 (.mov 30 5),Gt 29 (.bin 31 .eql 30 (kU 0)),Pa 32 29 31,Mv 26 32] (Cn 26 (Rs [Mv 33 3,Mv 2 33] .ret) (Rs [Mv 35 4,Bc 36 .eql 35 0,Mv 34 36] (Cn 34 (Rs [Mi 6 22] (Sq (.block 1 (.loop [3,5,6,1000000] 0 aga)) agb)) .skip))))))) aeG))))
def aj4:List RV:=[.t 2]
theorem at9:FnC Try.prog aeF [] 0 amb Try.f131 at8 aj4:=fnC Try.func131
def ar2(R:IR→(Ex→St→Ro)→St→Ro)(again0:St→Ro):Ex→St→Ro:=(bj again0 [3,5,6,1000000] 0 (aP 1 (bg (R agb) (aP 0 (bg (R aeG) (fin aj4))))))
abbrev xc:Type:=(Int×Int×Int)
def uN(x:xc):St:={env:=(U 3 (.int .u64 x.1::.undef::.int .u64 x.2.1::.int .i64 x.2.2::(U 59 []))),hp:=[]}
def abJ(N:Nat):(St→Ro)→St→Ro:=fun again0 s=>run aeF N aga (ar2 (run aeF N) again0) s
def rJ(N:Nat)(again0:xc→Ro)(x:xc):Ro:=
 let v3:Int:=x.1
 let v5:Int:=x.2.1
 let v6:Int:=x.2.2
 chk (decide (0≤v6)) (
  cond ((nM .u64 v5 v6)==0) (
   let x10:=(IntKind.wrap .i64 (v6-1))
   again0 (v3,v5,x10)) (
   let x11:=(IntKind.wrap .i64 (v6-149))
   let x12:=(IntKind.wrap .i64 (x11+1023))
   let x13:=(f5 .u64 (IntKind.wrap .u64 x12) 52)
   let x14:=(IntKind.wrap .i64 (52-v6))
   chk (decide (0≤x14)) (
    let x15:=(IntKind.wrap .u64 ((f5 .u64 v5 x14)-4503599627370496))
    let x16:=(eY .or .u64 (eY .or .u64 v3 x13) x15)
    some (.int .u64 x16,[]))))
theorem aqn(N:Nat):LB (abJ N) uN (rJ N):=fun _ _=>by kernel_rfl
def tT(N:Nat)(p0:Int)(q0:xc→Ro):Ro:=
 let x1:=(IntKind.wrap .u64 (nM .u32 p0 31))
 let x2:=(eY .and .u32 (nM .u32 p0 23) 255)
 let x3:=(eY .and .u32 p0 8388607)
 let x4:=((IntKind.wrap .i64 x2)==255)
 let z0:=q0 ((f5 .u64 x1 63),(IntKind.wrap .u64 x3),22)
 cond x4 (
  let x5:=(eY .or .u64 (f5 .u64 x1 63) 9218868437227405312)
  let x6:=(f5 .u64 (IntKind.wrap .u64 x3) 29)
  some (.int .u64 (eY .or .u64 x5 x6),[])) (
  let x7:=((IntKind.wrap .i64 x2)==0)
  cond x7 (
   let x8:=((IntKind.wrap .u64 x3)==0)
   cond x8 (
    some (.int .u64 (f5 .u64 x1 63),[])) (
    let x9:=((IntKind.wrap .i64 x2)==0)
    cond x9 (
     z0) (
     let x17:=(IntKind.wrap .i64 ((IntKind.wrap .i64 x2)-127))
     let x18:=(IntKind.wrap .i64 (x17+1023))
     let x19:=(f5 .u64 (IntKind.wrap .u64 x18) 52)
     let x20:=(eY .or .u64 (f5 .u64 x1 63) x19)
     let x21:=(f5 .u64 (IntKind.wrap .u64 x3) 29)
     some (.int .u64 (eY .or .u64 x20 x21),[])))) (
   let x22:=((IntKind.wrap .i64 x2)==0)
   cond x22 (
    z0) (
    let x23:=(IntKind.wrap .i64 ((IntKind.wrap .i64 x2)-127))
    let x24:=(IntKind.wrap .i64 (x23+1023))
    let x25:=(f5 .u64 (IntKind.wrap .u64 x24) 52)
    let x26:=(eY .or .u64 (f5 .u64 x1 63) x25)
    let x27:=(f5 .u64 (IntKind.wrap .u64 x3) 29)
    some (.int .u64 (eY .or .u64 x26 x27),[]))))
def aj5(N:Nat)(p0:Int):Ro:=tT N p0 (fun z=>aR N (rJ N) z)
theorem ar3(N:Nat)(p0:Int)(h:Tot (aj5 N p0) (fun z=>∃(y0:Int)(rest:List aK),z.1.dimR=.int .u64 y0∧z.2=rest)):∃r,wq p0 r:=at9.finP0 (N:=N) ((bo _ (by kernel_rfl) rfl (fun C=>tT N p0 (fun z=>C 1000000 (uN z))) (fun C=>by kernel_rfl)).trans (Eq.trans (b:=tT N p0 (fun z=>aX N (abJ N) (uN z))) (by kernel_rfl) (congrArg (tT N p0) (funext fun z=>aW (uN) (abJ N) (rJ N) (aqn N) N z)))) h fun _ ⟨y0,_,e,_⟩=>⟨(y0),e⟩
noncomputable def aoO:aN:=tab (P:=Try.prog) [] [] [] [awc,alW,ajO]
def anq:IR:=Rs [Pp (.mov 6 (kU 0))] (Sq (.block 0 (Rs [Mv 8 0,Mv 9 1,Bi 10 .eql 8 9,Mv 11 10,Gf 11 (.mov 12 1),Gf 11 (.bin 13 .eql 12 (kI 4)),Po 14 11 13,Mv 7 14] (Cn 7 (Rs [Mv 15 2,Mv 6 15] .ret) (Rs [Mv 17 0,Bc 18 .eql 17 5,Mv 16 18] (Cn 16 (Rs [Mv 19 2,Pp (.cvi 20 .u32 19),Ca 21 131 [20],Mv 6 21] .ret) (Rs [Mv 23 1,Bc 24 .eql 23 5,Mv 22 24] (Cn 22 (Rs [Mv 25 2,Pp (.cvi 26 .i64 25),Ca 27 132 [26],Pp (.cvi 28 .u64 27),Mv 6 28] .ret) .skip))))))) (Rs [Mv 29 2,Pp (.cvi 30 .i64 29),Ca 31 133 [30],Mv 6 31] .ret))
def anr:List RV:=[.t 6]
theorem ans:FnC Try.prog aoO [] 0 aeE Try.f102 anq anr:=fnC Try.func102
def adt(N:Nat)(p0 p1 p2:Int):Ro:=
 let z0:=fun g0=>(some (.int .u64 g0,[]):Ro)
 cond (p0==p1) (
  z0 p2) (
  cond (p1==4) (
   z0 p2) (
   cond (p0==5) (
    aG (wq (IntKind.wrap .u32 p2)) (fun(r1:Int)=>
     z0 r1)) (
    cond (p1==5) (
     aG (rx (IntKind.wrap .i64 p2)) (fun(r2:Int)=>
      z0 (IntKind.wrap .u64 r2))) (
     aG (ng (IntKind.wrap .i64 p2)) (fun(r3:Int)=>
      z0 r3)))))
def adu(N:Nat)(p0 p1 p2:Int):Ro:=adt N p0 p1 p2
theorem amd(N:Nat)(p0 p1 p2:Int)(h:Tot (adu N p0 p1 p2) (fun z=>∃(y0:Int)(rest:List aK),z.1.dimR=.int .u64 y0∧z.2=rest)):∃r,iA p0 p1 p2 r:=ans.finP0 (N:=N) (by kernel_rfl) h fun _ ⟨y0,_,e,_⟩=>⟨(y0),e⟩
noncomputable def abK:aN:=tab (P:=Try.prog) [] [] [] [aar,ajN,av8]
def acx:IR:=Sq (Rs [Mv 19 13,Fa 20 8 8,Lq 21 20,Ll 22 21,Bi 23 .lss 19 22] (Cn 23 .skip (.exit 0))) (Sq (.block 1 (Rs [Fa 26 8 8,Lq 27 26,Mv 28 13,Ix 29 .afield 27 28,Ld 30 9 true 29,Pp (.alr 14 9),Fz 14 9 30] (Rs [Ld 31 10 true 7,Ld 32 9 true 14,Ca 33 101 [31,32],Mv 15 33] (Rs [Pp (.new 16 [vU 0,vS,nl .aval,nl .str,vI 0])] (Rs [Mi 17 8] (Sq (Rs [Mv 34 15,Bc 35 .geq 34 0] (Cn 35 (.reg [Ld 37 1 true 5,Ld 38 1 true 6,Fa 39 8 7,Lq 40 39,Mv 41 15,Ix 42 .afield 40 41,Fa 43 2 42,Fo [] [] (.ld 44 1 false false 43),Fa 45 2 14,Lq 46 45,Fa 47 2 9,Lq 48 47,Mv 49 15,Ix 50 .aval 48 49,Ld 51 5 true 50,Ca 52 69 [37,38,44,46,51],Mv 36 52,Ex_ 53 0 36,Ex_ 54 1 36,Fo [] [2] (.st none 5 16 53),Mv 17 54] [[],[],[],[2],[],[2,3,4],rg 2 5,rg 2 6,[],[8],[],[10],[],[10,11,12],rg 10 13,rg 0 14,rg 0 15,rg 0 16,rg 0 16,rg 0 17,rg 0 19]) (Rs [Fa 55 3 14,Lq 56 55] (Cn 56 (Rg [Ld 58 1 true 6,Fa 59 2 14,Lq 60 59,Fa 61 4 14,Ld 62 5 true 61,Ca 63 74 [58,60,62],Mv 57 63,Ex_ 64 0 57,Ex_ 65 1 57,Sv 5 16 64,Mv 17 65]) .skip)))) (Sq (Rs [Mv 66 17,Bc 67 .neq 66 0] (Cn 67 (Rs [Pp (.bld 68 [vU 0,vS,fu .aval true,fu .str true,vI 0] []),Mv 69 17,Sv 5 10 68,Mv 11 69] .ret) .skip)) (Rg [Fa 70 2 12,Pp (.ld 71 1 false true 70),Pp (.ld 72 5 true false 16),Pp (.bsl 73 .aval [72] true),Pp (.app 74 .aval (.tk 71) 73),Fa 75 2 12,Sk 1 75 74])))))))) (Rg [Mv 24 13,Bc 25 .add 24 1,Mv 13 25]))
def acy:IR:=Rs [Pp (.ld 76 5 true false 12),Sv 5 10 76,Mi 11 0] .ret
def aqo:IR:=Rs [Bx 5 0,Bx 6 1,Bx 7 2,Bx 8 3,Bx 9 4,Pp (.new 10 [vU 0,vS,nl .aval,nl .str,vI 0]),Mi 11 0] (Rs [Pp (.bld 18 [vU 0,vS,nl .aval,nl .str,vI 0] []),Pp (.new 12 [vU 0,vS,nl .aval,nl .str,vI 0]),Sv 5 12 18] (Sq (Rs [Mi 13 0] (.block 0 (.loop [5,6,7,8,9,10,12,13,1000000] 2 acx))) acy))
def agc:List RV:=[.cell 10 5 true,.t 11]
theorem aqp:FnC Try.prog abK [] 0 ahy Try.f103 aqo agc:=fnC Try.func103
def aoP(R:IR→(Ex→St→Ro)→St→Ro)(again0:St→Ro):Ex→St→Ro:=(bj again0 [5,6,7,8,9,10,12,13,1000000] 2 (aP 0 (bg (R acy) (fin agc))))
abbrev sO:Type:=(List aA×List aA×aA×aA×aH×Int×Int×Bs×List aH×Bss×Int×Int×Bs×List aH×Bss×Int)
def qP(x:sO):St:={env:=(U 5 (.ea [.sl .atype (.may false) x.1]::.ea [.sl .atype (.may false) x.2.1]::.ea (enc .atype x.2.2.1)::.ea (enc .atype x.2.2.2.1)::.ea (enc .aval x.2.2.2.2.1)::.ptr 0 0::.undef::.ptr 1 0::.int .i64 x.2.2.2.2.2.1::(U 63 []))),hp:=[some [.int .u64 x.2.2.2.2.2.2.1,.str x.2.2.2.2.2.2.2.1,.sl .aval .own x.2.2.2.2.2.2.2.2.1,.sl .str .own x.2.2.2.2.2.2.2.2.2.1,.int .i64 x.2.2.2.2.2.2.2.2.2.2.1],some [.int .u64 x.2.2.2.2.2.2.2.2.2.2.2.1,.str x.2.2.2.2.2.2.2.2.2.2.2.2.1,.sl .aval .own x.2.2.2.2.2.2.2.2.2.2.2.2.2.1,.sl .str .own x.2.2.2.2.2.2.2.2.2.2.2.2.2.2.1,.int .i64 x.2.2.2.2.2.2.2.2.2.2.2.2.2.2.2]]}
def zi(N:Nat):(St→Ro)→St→Ro:=fun again0 s=>run abK N acx (aoP (run abK N) again0) s
def sP(N:Nat)(again0:sO→Ro)(x:sO):Ro:=
 let v5_0:List aA:=x.1
 let v6_0:List aA:=x.2.1
 let v7:aA:=x.2.2.1
 let v8:aA:=x.2.2.2.1
 let v9:aH:=x.2.2.2.2.1
 let v13:Int:=x.2.2.2.2.2.1
 let o0_0:Int:=x.2.2.2.2.2.2.1
 let o0_1:Bs:=x.2.2.2.2.2.2.2.1
 let o0_2:List aH:=x.2.2.2.2.2.2.2.2.1
 let o0_3:Bss:=x.2.2.2.2.2.2.2.2.2.1
 let o0_4:Int:=x.2.2.2.2.2.2.2.2.2.2.1
 let o1_0:Int:=x.2.2.2.2.2.2.2.2.2.2.2.1
 let o1_1:Bs:=x.2.2.2.2.2.2.2.2.2.2.2.2.1
 let o1_2:List aH:=x.2.2.2.2.2.2.2.2.2.2.2.2.2.1
 let o1_3:Bss:=x.2.2.2.2.2.2.2.2.2.2.2.2.2.2.1
 let o1_4:Int:=x.2.2.2.2.2.2.2.2.2.2.2.2.2.2.2
 let x1:=(↑(List.length v8.fields):Int)
 let z0:=fun g0 g1 g2 g3 g4 g5=>(some (.tup [.agg [.int .u64 0,.str ([]:Bs),.sl .aval (.may true) ([]:List aH),.sl .str (.may true) ([]:Bss),.int .i64 0],.int .i64 g0],[some [.int .u64 0,.str ([]:Bs),.sl .aval (.may true) ([]:List aH),.sl .str (.may true) ([]:Bss),.int .i64 0],some [.int .u64 o1_0,.str o1_1,.sl .aval .own o1_2,.sl .str .own o1_3,.int .i64 o1_4],some [.int .u64 g1,.str g2,g3,g4,.int .i64 g5]]):Ro)
 let z1:=fun g0 g1=>again0 (v5_0,v6_0,v7,v8,v9,g0,o0_0,o0_1,o0_2,o0_3,o0_4,o1_0,o1_1,g1,o1_3,o1_4)
 cond (decide (v13<x1)) (
  chk (ixl v13 v8.fields) (
   let x2:=(List.getD v8.fields (Int.toNat v13) (aB .afield))
   aG (wl v7 (reF x2)) (fun(r1:Int)=>
    cond (decide (0≤r1)) (
     chk (ixl r1 v7.fields) (
      let x3:=(List.getD v7.fields (Int.toNat r1) (aB .afield))
      chk (ixl r1 v9.l) (
       let x4:=(List.getD v9.l (Int.toNat r1) (aB .aval))
       aG (fN v5_0 v6_0 x3.typ x2.typ (reA x4)) (fun r2=>
        cond (!(r2.2==0)) (
         z0 r2.2 r2.1.n r2.1.s (.sl .aval (.may false) r2.1.l) (.sl .str (.may false) r2.1.keys) r2.1.branch) (
         chk (decide ((List.length o1_2+List.length ([(reA r2.1)]:List aH))*80≤140737488355328)) (
          let x5:=(o1_2++([(reA r2.1)]:List aH))
          let x6:=(IntKind.wrap .i64 (v13+1))
          z1 x6 x5)))))) (
     cond x2.hasdef (
      aG (pJ v6_0 x2.typ x2.df.kind x2.df.n x2.df.s x2.df.l x2.df.names) (fun r3=>
       cond (!(r3.2.2.2.2.2==0)) (
        z0 r3.2.2.2.2.2 r3.1 r3.2.1 (.sl .aval (.may false) r3.2.2.1) (.sl .str (.may false) r3.2.2.2.1) r3.2.2.2.2.1) (
        chk (decide ((List.length o1_2+List.length ([⟨r3.1,r3.2.1,r3.2.2.1,r3.2.2.2.1,r3.2.2.2.2.1⟩]:List aH))*80≤140737488355328)) (
         let x7:=(o1_2++([⟨r3.1,r3.2.1,r3.2.2.1,r3.2.2.2.1,r3.2.2.2.2.1⟩]:List aH))
         let x8:=(IntKind.wrap .i64 (v13+1))
         z1 x8 x7)))) (
      cond (!(8==0)) (
       z0 8 0 ([]:Bs) (.sl .aval .own ([]:List aH)) (.sl .str .own ([]:Bss)) 0) (
       chk (decide ((List.length o1_2+List.length ([⟨0,([]:Bs),([]:List aH),([]:Bss),0⟩]:List aH))*80≤140737488355328)) (
        let x9:=(o1_2++([⟨0,([]:Bs),([]:List aH),([]:Bss),0⟩]:List aH))
        let x10:=(IntKind.wrap .i64 (v13+1))
        z1 x10 x9))))))) (
  some (.tup [.agg [.int .u64 o1_0,.str o1_1,.sl .aval (.may false) o1_2,.sl .str (.may false) o1_3,.int .i64 o1_4],.int .i64 0],[some [.int .u64 o1_0,.str o1_1,.sl .aval (.may false) o1_2,.sl .str (.may false) o1_3,.int .i64 o1_4],some [.int .u64 o1_0,.str o1_1,.sl .aval .own o1_2,.sl .str .own o1_3,.int .i64 o1_4]]))
theorem ant(N:Nat):LB (zi N) qP (sP N):=fun _ _=>by kernel_rfl
def pU(N:Nat)(p0_0 p1_0:List aA)(p2 p3:aA)(p4:aH)(q0:sO→Ro):Ro:=
 q0 (p0_0,p1_0,p2,p3,p4,0,0,([]:Bs),([]:List aH),([]:Bss),0,0,([]:Bs),([]:List aH),([]:Bss),0)
def agd(N:Nat)(p0_0 p1_0:List aA)(p2 p3:aA)(p4:aH):Ro:=pU N p0_0 p1_0 p2 p3 p4 (fun z=>aR N (sP N) z)
theorem aoQ(N:Nat)(p0_0 p1_0:List aA)(p2 p3:aA)(p4:aH)(h:Tot (agd N p0_0 p1_0 p2 p3 p4) (fun z=>∃(y0:aH)(y1:Int)(rest:List aK),z.1.dimR=.tup [.agg (enc .aval y0),.int .i64 y1]∧z.2=rest∧ado p0_0 p1_0 p2 p3 p4 (y0,y1))):∃r,rI p0_0 p1_0 p2 p3 p4 r:=aqp.finP (N:=N) ((bo _ (by kernel_rfl) rfl (fun C=>pU N p0_0 p1_0 p2 p3 p4 (fun z=>C 1000000 (qP z))) (fun C=>by kernel_rfl)).trans (Eq.trans (b:=pU N p0_0 p1_0 p2 p3 p4 (fun z=>aX N (zi N) (qP z))) (by kernel_rfl) (congrArg (pU N p0_0 p1_0 p2 p3 p4) (funext fun z=>aW (qP) (zi N) (sP N) (ant N) N z)))) h fun _ ⟨y0,y1,_,e,_,q⟩=>⟨(y0,y1),e,q⟩
noncomputable def aas:aN:=tab (P:=Try.prog) [] [] [] [ajZ,aar,arX,arZ,aoN,ar1]
def abf:IR:=Sq (Rs [Mv 134 19,Fa 135 2 9,Lq 136 135,Ll 137 136,Bi 138 .lss 134 137] (Cn 138 .skip (.exit 1))) (Sq (.block 2 (Sq (.reg [Ld 142 1 true 5,Ld 143 1 true 6,Fa 144 3 12,Lq 145 144,Fa 146 3 13,Lq 147 146,Fa 148 2 9,Lq 149 148,Mv 150 19,Ix 151 .aval 149 150,Ld 152 5 true 151,Ca 153 69 [142,143,145,147,152],Mv 141 153,Ex_ 154 0 141,Ex_ 155 1 141,Pp (.alr 20 5),Fz 20 5 154,Mv 21 155] [[],[],[],[2],[],[4],[],[6],[],[6,7,8],rg 6 9,rg 0 10,rg 0 11,rg 0 12,rg 0 12,[],rg 0 13++[15],rg 0 16]) (Sq (Rs [Mv 156 21,Bc 157 .neq 156 0] (Cn 157 (Rs [Pp (.bld 158 [vU 0,vS,fu .aval true,fu .str true,vI 0] []),Mv 159 21,Sv 5 10 158,Mv 11 159] .ret) .skip)) (Rg [Fa 160 2 18,Pp (.ld 161 1 false true 160),Ld 162 5 true 20,Pp (.bsl 163 .aval [162] true),Pp (.app 164 .aval (.tk 161) 163),Fa 165 2 18,Sk 1 165 164])))) (Rg [Mv 139 19,Bc 140 .add 139 1,Mv 19 140]))
def abg:IR:=Rs [Pp (.ld 166 5 true false 18),Sv 5 10 166,Mi 11 0] .ret
def abh:IR:=Rs [Fa 177 0 9,Lq 178 177,Fa 179 1 9,Lq 180 179,Pp (.bld 181 [vU 0,vS,fu .aval true,fu .str true,vI 0] [(0,1,178),(1,1,180)]),Sv 5 10 181,Mi 11 0] .ret
def aoR:IR:=Rs [Bx 5 0,Bx 6 1,Bx 9 4,Pp (.new 10 [vU 0,vS,nl .aval,nl .str,vI 0]),Mi 11 0] (Sq (.reg [Fa 22 0 5,Lq 23 22,Mv 24 2,Ix 25 .atype 23 24,Ld 26 10 true 25,Fa 27 0 6,Lq 28 27,Mv 29 3,Ix 30 .atype 28 29,Ld 31 10 true 30,Pp (.alr 12 10),Pp (.alr 13 10),Fz 12 10 26,Fz 13 10 31] [[],[0],[],[0,1,2],rg 0 3,[],[5],[],[5,6,7],rg 5 8,[],[],rg 0 4++[10,11],rg 0 12]) (Sq (Rs [Fa 32 0 12,Lq 33 32,Bc 34 .eql 33 14] (Cn 34 (Sq (.reg [Ld 35 1 true 5,Ld 36 1 true 6,Fa 37 9 12,Lq 38 37,Fa 39 4 9,Lq 40 39,Ix 41 (.num .i64) 38 40,Lq 42 41,Mv 43 3,Fa 44 2 9,Lq 45 44,Pp (.ixa 46 .aval 45 (kI 0)),Ld 47 5 true 46,Ca 48 69 [35,36,42,43,47],Ex_ 49 0 48,Ex_ 50 1 48,Fo [] [0] (.st none 5 10 49),Mv 11 50] [[],[],[],[2],[],[4],rg 2 5,rg 2 6,[],[],[9],[9,10],[9,10,11],rg 0 12,rg 0 13,rg 0 13,rg 0 15,rg 0 16]) .ret) .skip)) (Sq (Rs [Fa 51 0 13,Lq 52 51,Bc 53 .eql 52 14] (Cn 53 (Rs [Ld 54 1 true 5,Ld 55 1 true 6,Mv 56 2,Mv 57 3,Ca 58 99 [54,55,56,57],Mv 14 58] (Sq (Rs [Mv 59 14,Bc 60 .lss 59 0] (Cn 60 (Rs [Pp (.bld 61 [vU 0,vS,fu .aval true,fu .str true,vI 0] []),Sv 5 10 61,Mi 11 8] .ret) .skip)) (Sq (.reg [Ld 63 1 true 5,Ld 64 1 true 6,Mv 65 2,Fa 66 9 13,Lq 67 66,Mv 68 14,Ix 69 (.num .i64) 67 68,Lq 70 69,Ld 71 5 true 9,Ca 72 69 [63,64,65,70,71],Mv 62 72,Ex_ 73 0 62,Ex_ 74 1 62,Pp (.alr 15 5),Fz 15 5 73,Mv 16 74] [[],[],[],[],[3],[],[3,4,5],rg 3 6,[],rg 0 8,rg 0 9,rg 0 10,rg 0 10,[],rg 0 11++[13],rg 0 14]) (Sq (Rs [Mv 75 16,Bc 76 .neq 75 0] (Cn 76 (Rs [Pp (.bld 77 [vU 0,vS,fu .aval true,fu .str true,vI 0] []),Mv 78 16,Sv 5 10 77,Mv 11 78] .ret) .skip)) (Rs [Mv 79 14,Ld 80 5 true 15,Pp (.bsl 81 .aval [80] true),Pp (.bld 82 [vU 0,vS,fu .aval true,fu .str true,vI 0] [(4,1,79),(2,1,81)]),Sv 5 10 82,Mi 11 0] .ret))))) .skip)) (Sq (Rs [Ld 83 1 true 5,Ld 84 1 true 6,Mv 85 2,Mv 86 3,Ca 87 31 [83,84,85,86],Un 88 87] (Cn 88 (Rs [Pp (.bld 89 [vU 0,vS,fu .aval true,fu .str true,vI 0] []),Sv 5 10 89,Mi 11 8] .ret) .skip)) (Sq (Rs [Fa 90 0 12,Lq 91 90] (.block 0 (Sq (Rs [Bc 93 .eql 91 3,Mv 92 93] (Cn 92 .skip (Rs [Bc 94 .eql 91 4,Mv 92 94] (Cn 92 .skip (Rg [Bc 95 .eql 91 5,Mv 92 95]))))) (Cn 92 (Rs [Fa 96 0 12,Lq 97 96,Fa 98 0 13,Lq 99 98,Fa 100 0 9,Lq 101 100,Ca 102 102 [97,99,101],Pp (.bld 103 [vU 0,vS,fu .aval true,fu .str true,vI 0] [(0,1,102)]),Sv 5 10 103,Mi 11 0] .ret) (Rs [Bc 105 .eql 91 10,Mv 104 105] (Cn 104 (Sq (.reg [Ld 106 10 true 13,Fa 107 4 12,Lq 108 107,Fa 109 0 9,Lq 110 109,Ix 111 .str 108 110,Lq 112 111,Ca 113 100 [106,112],Mv 17 113] [[],[],[1],[],[3],rg 1 4,rg 1 5,rg 0 6,rg 0 7]) (Sq (Rs [Mv 114 17,Bc 115 .lss 114 0] (Cn 115 (Rg [Ld 116 10 true 13,Fa 117 6 13,Lq 118 117,Ca 119 100 [116,118],Mv 17 119]) .skip)) (Sq (Rs [Mv 120 17,Bc 121 .lss 120 0] (Cn 121 (Rs [Pp (.bld 122 [vU 0,vS,fu .aval true,fu .str true,vI 0] []),Sv 5 10 122,Mi 11 8] .ret) .skip)) (Rs [Mv 123 17,Pp (.cvi 124 .u64 123),Pp (.bld 125 [vU 0,vS,fu .aval true,fu .str true,vI 0] [(0,1,124)]),Sv 5 10 125,Mi 11 0] .ret)))) (Sq (Rs [Bc 127 .eql 91 12,Mv 126 127] (Cn 126 .skip (Rg [Bc 128 .eql 91 13,Mv 126 128]))) (Cn 126 (Rs [Pp (.bsl 129 .str [] false),Fa 130 3 9,Lq 131 130,Pp (.app 132 .str (.tk 129) 131),Pp (.bld 133 [vU 0,vS,nl .aval,nl .str,vI 0] [(3,1,132)]),Pp (.new 18 [vU 0,vS,nl .aval,nl .str,vI 0]),Sv 5 18 133] (Sq (Rs [Mi 19 0] (.block 1 (.loop [5,6,9,10,12,13,18,19,1000000] 2 abf))) abg)) (Rs [Bc 168 .eql 91 9,Mv 167 168] (Cn 167 (Rs [Ld 169 1 true 5,Ld 170 1 true 6,Ld 171 10 true 12,Ld 172 10 true 13,Ld 173 5 true 9,Ca 174 103 [169,170,171,172,173],Ex_ 175 0 174,Ex_ 176 1 174,Sv 5 10 175,Mv 11 176] .ret) .skip)))))))))) abh)))))
def aeH:List RV:=[.cell 10 5 true,.t 11]
theorem aoS:FnC Try.prog aas [] 0 af9 Try.f69 aoR aeH:=fnC Try.func69
def anu(R:IR→(Ex→St→Ro)→St→Ro)(again0:St→Ro):Ex→St→Ro:=(bj again0 [5,6,9,10,12,13,18,19,1000000] 2 (aP 1 (bg (R abg) (aP 0 (bg (R abh) (fin aeH))))))
abbrev qQ:Type:=(List aA×List aA×aH×aA×aA×Int×Int×Bs×List aH×Bss×Int×Int×Bs×List aH×Bss×Int)
def pV(x:qQ):St:={env:=(U 5 (.ea [.sl .atype (.may false) x.1]::.ea [.sl .atype (.may false) x.2.1]::.undef::.undef::.ea (enc .aval x.2.2.1)::.ptr 0 0::.undef::.ea (enc .atype x.2.2.2.1)::.ea (enc .atype x.2.2.2.2.1)::(U 4 (.ptr 1 0::.int .i64 x.2.2.2.2.2.1::(U 162 []))))),hp:=[some [.int .u64 x.2.2.2.2.2.2.1,.str x.2.2.2.2.2.2.2.1,.sl .aval .own x.2.2.2.2.2.2.2.2.1,.sl .str .own x.2.2.2.2.2.2.2.2.2.1,.int .i64 x.2.2.2.2.2.2.2.2.2.2.1],some [.int .u64 x.2.2.2.2.2.2.2.2.2.2.2.1,.str x.2.2.2.2.2.2.2.2.2.2.2.2.1,.sl .aval .own x.2.2.2.2.2.2.2.2.2.2.2.2.2.1,.sl .str (.may false) x.2.2.2.2.2.2.2.2.2.2.2.2.2.2.1,.int .i64 x.2.2.2.2.2.2.2.2.2.2.2.2.2.2.2]]}
def xT(N:Nat):(St→Ro)→St→Ro:=fun again0 s=>run aas N abf (anu (run aas N) again0) s
def nC(N:Nat)(again0:qQ→Ro)(x:qQ):Ro:=
 let v5_0:List aA:=x.1
 let v6_0:List aA:=x.2.1
 let v9:aH:=x.2.2.1
 let v12:aA:=x.2.2.2.1
 let v13:aA:=x.2.2.2.2.1
 let v19:Int:=x.2.2.2.2.2.1
 let o0_0:Int:=x.2.2.2.2.2.2.1
 let o0_1:Bs:=x.2.2.2.2.2.2.2.1
 let o0_2:List aH:=x.2.2.2.2.2.2.2.2.1
 let o0_3:Bss:=x.2.2.2.2.2.2.2.2.2.1
 let o0_4:Int:=x.2.2.2.2.2.2.2.2.2.2.1
 let o1_0:Int:=x.2.2.2.2.2.2.2.2.2.2.2.1
 let o1_1:Bs:=x.2.2.2.2.2.2.2.2.2.2.2.2.1
 let o1_2:List aH:=x.2.2.2.2.2.2.2.2.2.2.2.2.2.1
 let o1_3:Bss:=x.2.2.2.2.2.2.2.2.2.2.2.2.2.2.1
 let o1_4:Int:=x.2.2.2.2.2.2.2.2.2.2.2.2.2.2.2
 let x8:=(↑(List.length v9.l):Int)
 let z0:=fun g0 g1 g2 g3 g4 g5 g6=>(some (.tup [.agg [.int .u64 g0,.str g1,.sl .aval (.may g2) g3,.sl .str (.may g2) g4,.int .i64 g5],.int .i64 g6],[some [.int .u64 g0,.str g1,.sl .aval (.may g2) g3,.sl .str (.may g2) g4,.int .i64 g5],some [.int .u64 o1_0,.str o1_1,.sl .aval .own o1_2,.sl .str (.may false) o1_3,.int .i64 o1_4]]):Ro)
 cond (decide (v19<x8)) (
  chk (ixl v19 v9.l) (
   let x9:=(List.getD v9.l (Int.toNat v19) (aB .aval))
   aG (fN v5_0 v6_0 v12.items v13.items (reA x9)) (fun r10=>
    cond (!(r10.2==0)) (
     z0 0 ([]:Bs) true ([]:List aH) ([]:Bss) 0 r10.2) (
     chk (decide ((List.length o1_2+List.length ([(reA r10.1)]:List aH))*80≤140737488355328)) (
      let x10:=(o1_2++([(reA r10.1)]:List aH))
      let x11:=(IntKind.wrap .i64 (v19+1))
      again0 (v5_0,v6_0,v9,v12,v13,x11,o0_0,o0_1,o0_2,o0_3,o0_4,o1_0,o1_1,x10,o1_3,o1_4)))))) (
  z0 o1_0 o1_1 false o1_2 o1_3 o1_4 0)
theorem ame(N:Nat):LB (xT N) pV (nC N):=fun _ _=>by kernel_rfl
def oZ(N:Nat)(p0_0 p1_0:List aA)(p2 p3:Int)(p4:aH)(q0:qQ→Ro):Ro:=
 let z0:=fun g0 g1 g2 g3 g4 g5 g6=>(some (.tup [.agg [.int .u64 g0,.str g1,.sl .aval (.may g2) g3,.sl .str (.may g2) g4,.int .i64 g5],.int .i64 g6],[some [.int .u64 g0,.str g1,.sl .aval (.may g2) g3,.sl .str (.may g2) g4,.int .i64 g5]]):Ro)
 let z1:=fun g0 g1 g2=>q0 (p0_0,p1_0,p4,g0,g1,0,0,([]:Bs),([]:List aH),([]:Bss),0,0,([]:Bs),([]:List aH),g2,0)
 chk (ixl p2 p0_0) (
  let x1:=(List.getD p0_0 (Int.toNat p2) (aB .atype))
  chk (ixl p3 p1_0) (
   let x2:=(List.getD p1_0 (Int.toNat p3) (aB .atype))
   cond (x1.kind==14) (
    chk (ixl p4.branch x1.branches) (
     let x3:=List.getD x1.branches (Int.toNat p4.branch) (aB (.num .i64))
     chk (decide ((0:Int)<↑(List.length p4.l))) (
      let x4:=(List.getD p4.l (Int.toNat 0) (aB .aval))
      aG (fN p0_0 p1_0 x3 p3 (reA x4)) (fun r1=>
       z0 r1.1.n r1.1.s false r1.1.l r1.1.keys r1.1.branch r1.2)))) (
    cond (x2.kind==14) (
     aG (rF p0_0 p1_0 p2 p3) (fun(r2:Int)=>
      cond (decide (r2<0)) (
       z0 0 ([]:Bs) true ([]:List aH) ([]:Bss) 0 8) (
       chk (ixl r2 x2.branches) (
        let x5:=List.getD x2.branches (Int.toNat r2) (aB (.num .i64))
        aG (fN p0_0 p1_0 p2 x5 (reA p4)) (fun r3=>
         cond (!(r3.2==0)) (
          z0 0 ([]:Bs) true ([]:List aH) ([]:Bss) 0 r3.2) (
          z0 0 ([]:Bs) true ([(reA r3.1)]:List aH) ([]:Bss) r2 0)))))) (
     aG (pL p0_0 p1_0 p2 p3) (fun(r4:Bool)=>
      cond (!r4) (
       z0 0 ([]:Bs) true ([]:List aH) ([]:Bss) 0 8) (
       cond (x1.kind==3) (
        aG (iA x1.kind x2.kind p4.n) (fun(r5:Int)=>
         z0 r5 ([]:Bs) true ([]:List aH) ([]:Bss) 0 0)) (
        cond (x1.kind==4) (
         aG (iA x1.kind x2.kind p4.n) (fun(r6:Int)=>
          z0 r6 ([]:Bs) true ([]:List aH) ([]:Bss) 0 0)) (
         cond (x1.kind==5) (
          aG (iA x1.kind x2.kind p4.n) (fun(r7:Int)=>
           z0 r7 ([]:Bs) true ([]:List aH) ([]:Bss) 0 0)) (
          cond (x1.kind==10) (
           chk (ixl p4.n x1.syms) (
            let x6:=List.getD x1.syms (Int.toNat p4.n) (aB .str)
            aG (oH x2 x6) (fun(r8:Int)=>
             cond (decide (r8<0)) (
              aG (oH x2 x2.df) (fun(r9:Int)=>
               cond (decide (r9<0)) (
                z0 0 ([]:Bs) true ([]:List aH) ([]:Bss) 0 8) (
                z0 (IntKind.wrap .u64 r9) ([]:Bs) true ([]:List aH) ([]:Bss) 0 0))) (
              cond (decide (r8<0)) (
               z0 0 ([]:Bs) true ([]:List aH) ([]:Bss) 0 8) (
               z0 (IntKind.wrap .u64 r8) ([]:Bs) true ([]:List aH) ([]:Bss) 0 0))))) (
           cond (x1.kind==12) (
            chk (decide ((List.length ([]:Bss)+List.length p4.keys)*16≤140737488355328)) (
             let x7:=(([]:Bss)++p4.keys)
             z1 x1 x2 x7)) (
            cond (x1.kind==13) (
             chk (decide ((List.length ([]:Bss)+List.length p4.keys)*16≤140737488355328)) (
              let x12:=(([]:Bss)++p4.keys)
              z1 x1 x2 x12)) (
             cond (x1.kind==9) (
              aG (rI p0_0 p1_0 x1 x2 (reA p4)) (fun r11=>
               z0 r11.1.n r11.1.s false r11.1.l r11.1.keys r11.1.branch r11.2)) (
              z0 p4.n p4.s true ([]:List aH) ([]:Bss) 0 0)))))))))))))
def aeI(N:Nat)(p0_0 p1_0:List aA)(p2 p3:Int)(p4:aH):Ro:=oZ N p0_0 p1_0 p2 p3 p4 (fun z=>aR N (nC N) z)
theorem anv(N:Nat)(p0_0 p1_0:List aA)(p2 p3:Int)(p4:aH)(h:Tot (aeI N p0_0 p1_0 p2 p3 p4) (fun z=>∃(y0:aH)(y1:Int)(rest:List aK),z.1.dimR=.tup [.agg (enc .aval y0),.int .i64 y1]∧z.2=rest∧pQ p0_0 p1_0 p2 p3 p4 (y0,y1))):∃r,fN p0_0 p1_0 p2 p3 p4 r:=aoS.finP (N:=N) ((bo _ (by kernel_rfl) rfl (fun C=>oZ N p0_0 p1_0 p2 p3 p4 (fun z=>C 1000000 (pV z))) (fun C=>by kernel_rfl)).trans (Eq.trans (b:=oZ N p0_0 p1_0 p2 p3 p4 (fun z=>aX N (xT N) (pV z))) (by kernel_rfl) (congrArg (oZ N p0_0 p1_0 p2 p3 p4) (funext fun z=>aW (pV) (xT N) (nC N) (ame N) N z)))) h fun _ ⟨y0,y1,_,e,_,q⟩=>⟨(y0,y1),e,q⟩
noncomputable def aqq:aN:=tab (P:=Try.prog) [] [] [] [alO,aal,aar]
def aoT:IR:=Rs [Bx 5 0,Bx 6 1,Bx 9 4,Pp (.new 10 [vU 0,vS,nl .aval,nl .str,vI 0]),Mi 11 0] (Sq (Rs [Ld 12 1 true 5,Mv 13 2,Ca 14 45 [12,13],Un 15 14,Mv 16 15,Gf 16 (.lde 17 1 true 6),Gf 16 (.mov 18 3),Gf 16 (.call 19 45 [17,18]),Gf 16 (.un 20 .not 19),Po 21 16 20] (Cn 21 (Rs [Pp (.bld 22 [vU 0,vS,fu .aval true,fu .str true,vI 0] []),Sv 5 10 22,Mi 11 1] .ret) .skip)) (Sq (Rs [Ld 23 1 true 5,Mv 24 2,Ld 25 5 true 9,Ca 26 18 [23,24,25],Un 27 26] (Cn 27 (Rs [Pp (.bld 28 [vU 0,vS,fu .aval true,fu .str true,vI 0] []),Sv 5 10 28,Mi 11 7] .ret) .skip)) (Rs [Ld 29 1 true 5,Ld 30 1 true 6,Mv 31 2,Mv 32 3,Ld 33 5 true 9,Ca 34 69 [29,30,31,32,33],Ex_ 35 0 34,Ex_ 36 1 34,Sv 5 10 35,Mv 11 36] .ret)))
def aoU:List RV:=[.cell 10 5 true,.t 11]
theorem aoV:FnC Try.prog aqq [] 0 af8 Try.f34 aoT aoU:=fnC Try.func34
def aeJ(N:Nat)(p0_0 p1_0:List aA)(p2 p3:Int)(p4:aH):Ro:=
 let z0:=fun g0 g1 g2 g3 g4 g5 g6=>(some (.tup [.agg [.int .u64 g0,.str g1,.sl .aval (.may g2) g3,.sl .str (.may g2) g4,.int .i64 g5],.int .i64 g6],[some [.int .u64 g0,.str g1,.sl .aval (.may g2) g3,.sl .str (.may g2) g4,.int .i64 g5]]):Ro)
 aG (iv p0_0 p2) (fun(r1:Bool)=>
  cond (!r1) (
   z0 0 ([]:Bs) true ([]:List aH) ([]:Bss) 0 1) (
   aG (iv p1_0 p3) (fun(r2:Bool)=>
    cond (!r2) (
     z0 0 ([]:Bs) true ([]:List aH) ([]:Bss) 0 1) (
     aG (gb p0_0 p2 p4.n p4.s p4.l p4.keys p4.branch) (fun(r3:Bool)=>
      cond (!r3) (
       z0 0 ([]:Bs) true ([]:List aH) ([]:Bss) 0 7) (
       aG (fN p0_0 p1_0 p2 p3 (reA p4)) (fun r4=>
        z0 r4.1.n r4.1.s false r4.1.l r4.1.keys r4.1.branch r4.2)))))))
def aeK(N:Nat)(p0_0 p1_0:List aA)(p2 p3:Int)(p4:aH):Ro:=aeJ N p0_0 p1_0 p2 p3 p4
theorem anw(N:Nat)(p0_0 p1_0:List aA)(p2 p3:Int)(p4:aH)(h:Tot (aeK N p0_0 p1_0 p2 p3 p4) (fun z=>∃(y0:aH)(y1:Int)(rest:List aK),z.1.dimR=.tup [.agg (enc .aval y0),.int .i64 y1]∧z.2=rest∧wh p0_0 p1_0 p2 p3 p4 (y0,y1))):∃r,pT p0_0 p1_0 p2 p3 p4 r:=aoV.finP (N:=N) (by kernel_rfl) h fun _ ⟨y0,y1,_,e,_,q⟩=>⟨(y0,y1),e,q⟩
end Go.Proofs.Ytdpajabhmmmjoaa
end
noncomputable section
namespace Go.Proofs.Ytdpajabhmmmjoaa
open Go.AM
set_option autoImplicit false
set_option linter.unusedVariables false
set_option maxRecDepth 100000
noncomputable def fI:aN:=tab (P:=Try.prog) [] [] [] []
def iZ:IR:=Sq (Rs [Mv 9 5,Bc 10 .geq 9 0] (Cn 10 .skip (.exit 0))) (Sq (.block 1 (Rs [Mv 13 0,Mv 14 5,Pp (.idx 15 13 14),Mv 16 1,Bi 17 .eql 15 16] (Cn 17 (Rs [Mv 18 5,Mv 4 18] .ret) .skip))) (Rg [Mv 11 5,Bc 12 .sub 11 1,Mv 5 12]))
def ja:IR:=Rs [Mi 4 (-1)] .ret
def tU:IR:=Rs [Mi 4 0] (Sq (Rs [Mv 6 0,Pp (.lens 7 6),Bc 8 .sub 7 1,Mv 5 8] (.block 0 (.loop [0,1,5,1000000] 0 iZ))) ja)
def jX:List RV:=[.t 4]
theorem tV:FnC Try.prog fI [] 0 kM Try.f151 tU jX:=fnC Try.func151
def sQ(R:IR→(Ex→St→Ro)→St→Ro)(again0:St→Ro):Ex→St→Ro:=(bj again0 [0,1,5,1000000] 0 (aP 0 (bg (R ja) (fin jX))))
abbrev du:Type:=(Bs×Int×Int)
def dk(x:du):St:={env:=(.str x.1::.int .u8 x.2.1::(U 3 (.int .i64 x.2.2::(U 13 [])))),hp:=[]}
def e8(N:Nat):(St→Ro)→St→Ro:=fun again0 s=>run fI N iZ (sQ (run fI N) again0) s
def dv(N:Nat)(again0:du→Ro)(x:du):Ro:=
 let v0:Bs:=x.1
 let v1:Int:=x.2.1
 let v5:Int:=x.2.2
 cond (decide (0≤v5)) (
  chk (ixl v5 v0) (
   let x3:=(↑(UInt8.toNat (List.getD v0 (Int.toNat v5) 0)):Int)
   cond (x3==v1) (
    some (.int .i64 v5,[])) (
    let x4:=(IntKind.wrap .i64 (v5-1))
    again0 (v0,v1,x4)))) (
  some (.int .i64 (-1),[]))
theorem sv(N:Nat):LB (e8 N) dk (dv N):=fun _ _=>by kernel_rfl
def cz(N:Nat)(p0:Bs)(p1:Int)(q0:du→Ro):Ro:=
 let x1:=(↑(List.length p0):Int)
 let x2:=(IntKind.wrap .i64 (x1-1))
 q0 (p0,p1,x2)
def jY(N:Nat)(p0:Bs)(p1:Int):Ro:=cz N p0 p1 (fun z=>aR N (dv N) z)
theorem sR(N:Nat)(p0:Bs)(p1:Int)(h:Tot (jY N p0 p1) (fun z=>∃(y0:Int)(rest:List aK),z.1.dimR=.int .i64 y0∧z.2=rest∧iY p0 p1 (y0))):∃r,cH p0 p1 r:=tV.finP (N:=N) ((bo _ (by kernel_rfl) rfl (fun C=>cz N p0 p1 (fun z=>C 1000000 (dk z))) (fun C=>by kernel_rfl)).trans (Eq.trans (b:=cz N p0 p1 (fun z=>aX N (e8 N) (dk z))) (by kernel_rfl) (congrArg (cz N p0 p1) (funext fun z=>aW (dk) (e8 N) (dv N) (sv N) N z)))) h fun _ ⟨y0,_,e,_,q⟩=>⟨(y0),e,q⟩
noncomputable def afv:aN:=tab (P:=Try.prog) [] [] [] [uu]
def aeL:IR:=Rs [Mi 4 0] (Rs [Mv 5 0,Mv 6 1,Ca 7 151 [5,6],Mv 4 7] .ret)
def aeM:List RV:=[.t 4]
theorem aeN:FnC Try.prog afv [] 0 xJ Try.f125 aeL aeM:=fnC Try.func125
def wt(N:Nat)(p0:Bs)(p1:Int):Ro:=
 aG (cH p0 p1) (fun(r1:Int)=>
  some (.int .i64 r1,[]))
def wu(N:Nat)(p0:Bs)(p1:Int):Ro:=wt N p0 p1
theorem adU(N:Nat)(p0:Bs)(p1:Int)(h:Tot (wu N p0 p1) (fun z=>∃(y0:Int)(rest:List aK),z.1.dimR=.int .i64 y0∧z.2=rest∧tQ p0 p1 (y0))):∃r,gz p0 p1 r:=aeN.finP (N:=N) (by kernel_rfl) h fun _ ⟨y0,_,e,_,q⟩=>⟨(y0),e,q⟩
noncomputable def awd:aN:=tab (P:=Try.prog) [] [] [] [afu]
def aua:IR:=Rs [Ms 2 []] (Rs [Mv 3 0,Mv 4 0,Ca 5 125 [4,.c (.int .u8 46)],Bc 6 .add 5 1,Pp (.subs 7 3 (some 6) none),Mv 2 7] .ret)
def aub:List RV:=[.t 2]
theorem auc:FnC Try.prog awd [] 0 al5 Try.f89 aua aub:=fnC Try.func89
def aj6(N:Nat)(p0:Bs):Ro:=
 aG (gz p0 46) (fun(r1:Int)=>
  let x1:=(IntKind.wrap .i64 (r1+1))
  chk ((decide (0≤x1)&&decide (x1≤(↑(List.length p0):Int)))) (
   let x2:=(List.drop (Int.toNat x1) (List.take (List.length p0) p0))
   some (.str x2,[])))
def aj7(N:Nat)(p0:Bs):Ro:=aj6 N p0
theorem ar4(N:Nat)(p0:Bs)(h:Tot (aj7 N p0) (fun z=>∃(y0:Bs)(rest:List aK),z.1.dimR=.str y0∧z.2=rest∧af6 p0 (y0))):∃r,oW p0 r:=auc.finP (N:=N) (by kernel_rfl) h fun _ ⟨y0,_,e,_,q⟩=>⟨(y0),e,q⟩
noncomputable def ayZ:aN:=tab (P:=Try.prog) [] [] [] []
def axH:IR:=Rs [Bx 2 0,Mb 4 false] (Rs [Mv 5 1,Bc 6 .geq 5 0,Mv 7 6,Gt 7 (.mov 8 1),Gt 7 (.fad 9 0 2),Gt 7 (.lde 10 1 false 9),Gt 7 (.lenl 11 10),Gt 7 (.bin 12 .lss 8 11),Pa 13 7 12,Mv 4 13] .ret)
def axI:List RV:=[.t 4]
theorem axJ:FnC Try.prog ayZ [] 0 aqg Try.f63 axH axI:=fnC Try.func63
def aoc(N:Nat)(p0_0:List aA)(p1:Int):Ro:=
 cond (decide (0≤p1)) (
  let x1:=(↑(List.length p0_0):Int)
  some (.bool (decide (p1<x1)),[])) (
  some (.bool false,[]))
def aod(N:Nat)(p0_0:List aA)(p1:Int):Ro:=aoc N p0_0 p1
theorem awe(N:Nat)(p0_0:List aA)(p1:Int)(h:Tot (aod N p0_0 p1) (fun z=>∃(y0:Bool)(rest:List aK),z.1.dimR=.bool y0∧z.2=rest∧ajS p0_0 p1 (y0))):∃r,pR p0_0 p1 r:=axJ.finP (N:=N) (by kernel_rfl) h fun _ ⟨y0,_,e,_,q⟩=>⟨(y0),e,q⟩
noncomputable def anx:aN:=tab (P:=Try.prog) [] [] [] [ama]
def amf:IR:=Rs [Mb 3 false] (Sq (.reg [Mv 4 0,Ca 5 89 [4],Lq 6 1,Bi 7 .eql 5 6,Mv 3 7] [[],[0],[],[0,1,2],rg 0 3]) .ret)
def amg:List RV:=[.t 3]
theorem amh:FnC Try.prog anx [] 0 adq Try.f91 amf amg:=fnC Try.func91
def acz(N:Nat)(p0 pc0_0:Bs):Ro:=
 aG (oW p0) (fun(r1:Bs)=>
  some (.bool (decide (r1=pc0_0)),[]))
def acA(N:Nat)(p0 pc0_0:Bs):Ro:=acz N p0 pc0_0
theorem akQ(N:Nat)(p0 pc0_0:Bs)(h:Tot (acA N p0 pc0_0) (fun z=>∃(y0:Bool)(rest:List aK),z.1.dimR=.bool y0∧z.2=rest∧aan p0 pc0_0 (y0))):∃r,nA p0 pc0_0 r:=amh.finP (N:=N) (by kernel_rfl) h fun _ ⟨y0,_,e,_,q⟩=>⟨(y0),e,q⟩
noncomputable def dH:aN:=tab (P:=Try.prog) [] [] [] [anm]
def fE:IR:=Rs [Bi 9 .lss 8 7] (Sq (Cn 9 .skip (.exit 0)) (Sq (.block 1 (Rs [Mv 10 8,Mv 5 10] (Rs [Mv 11 1,Mv 12 0,Mv 13 5,Ix 14 .str 12 13,Lq 15 14,Pp (.dcall (some 16) 91 (.t 11) [.t 15])] (Cn 16 (Rs [Mv 17 5,Mv 4 17] .ret) .skip)))) (Rg [Bc 18 .add 8 1,Mv 8 18])))
def fF:IR:=Rs [Mi 4 (-1)] .ret
def oK:IR:=Rs [Mi 4 0] (Sq (Rs [Mv 6 0,Ll 7 6,Mi 8 0] (.block 0 (.loop [0,1,7,8,1000000] 0 fE))) fF)
def fU:List RV:=[.t 4]
theorem oL:FnC Try.prog dH [] 0 gc Try.f126 oK fU:=fnC Try.func126
def nX(R:IR→(Ex→St→Ro)→St→Ro)(again0:St→Ro):Ex→St→Ro:=(bj again0 [0,1,7,8,1000000] 0 (aP 0 (bg (R fF) (fin fU))))
abbrev cl:Type:=(Bss×Bs×Int×Int)
def cd(x:cl):St:={env:=(.sl .str (.may false) x.1::.fn 91 [.ea [.str x.2.1]]::(U 5 (.int .i64 x.2.2.1::.int .i64 x.2.2.2::(U 10 [])))),hp:=[]}
def dw(N:Nat):(St→Ro)→St→Ro:=fun again0 s=>run dH N fE (nX (run dH N) again0) s
def cm(N:Nat)(again0:cl→Ro)(x:cl):Ro:=
 let v0:Bss:=x.1
 let v1_0_0:Bs:=x.2.1
 let v7:Int:=x.2.2.1
 let v8:Int:=x.2.2.2
 cond (decide (v8<v7)) (
  chk (ixl v8 v0) (
   let x2:=List.getD v0 (Int.toNat v8) (aB .str)
   aG (nA x2 v1_0_0) (fun(r1:Bool)=>
    cond r1 (
     some (.int .i64 v8,[])) (
     let x3:=(IntKind.wrap .i64 (v8+1))
     again0 (v0,v1_0_0,v7,x3))))) (
  some (.int .i64 (-1),[]))
theorem nD(N:Nat):LB (dw N) cd (cm N):=fun _ _=>by kernel_rfl
def bJ(N:Nat)(p0:Bss)(p1_0_0:Bs)(q0:cl→Ro):Ro:=
 let x1:=(↑(List.length p0):Int)
 q0 (p0,p1_0_0,x1,0)
def fV(N:Nat)(p0:Bss)(p1_0_0:Bs):Ro:=bJ N p0 p1_0_0 (fun z=>aR N (cm N) z)
theorem nY(N:Nat)(p0:Bss)(p1_0_0:Bs)(h:Tot (fV N p0 p1_0_0) (fun z=>∃(y0:Int)(rest:List aK),z.1.dimR=.int .i64 y0∧z.2=rest∧fC p0 p1_0_0 (y0))):∃r,bL p0 p1_0_0 r:=oL.finP (N:=N) ((bo _ (by kernel_rfl) rfl (fun C=>bJ N p0 p1_0_0 (fun z=>C 1000000 (cd z))) (fun C=>by kernel_rfl)).trans (Eq.trans (b:=bJ N p0 p1_0_0 (fun z=>aX N (dw N) (cd z))) (by kernel_rfl) (congrArg (bJ N p0 p1_0_0) (funext fun z=>aW (cd) (dw N) (cm N) (nD N) N z)))) h fun _ ⟨y0,_,e,_,q⟩=>⟨(y0),e,q⟩
noncomputable def nE:aN:=tab (P:=Try.prog) [] [] [] [oY]
def nk:IR:=Rs [Mb 4 false] (Rs [Mv 5 0,Mv 6 1,Ca 7 126 [5,6],Bc 8 .geq 7 0,Mv 4 8] .ret)
def no:List RV:=[.t 4]
theorem np:FnC Try.prog nE [] 0 fD Try.f90 nk no:=fnC Try.func90
def fm(N:Nat)(p0:Bss)(p1_0_0:Bs):Ro:=
 aG (bL p0 p1_0_0) (fun(r1:Int)=>
  some (.bool (decide (0≤r1)),[]))
def fo(N:Nat)(p0:Bss)(p1_0_0:Bs):Ro:=fm N p0 p1_0_0
theorem mu(N:Nat)(p0:Bss)(p1_0_0:Bs)(h:Tot (fo N p0 p1_0_0) (fun z=>∃(y0:Bool)(rest:List aK),z.1.dimR=.bool y0∧z.2=rest∧eQ p0 p1_0_0 (y0))):∃r,bE p0 p1_0_0 r:=np.finP (N:=N) (by kernel_rfl) h fun _ ⟨y0,_,e,_,q⟩=>⟨(y0),e,q⟩
noncomputable def ar5:aN:=tab (P:=Try.prog) [] [] [] [ama,ny]
def aqr:IR:=Rs [Bx 2 0,Bx 3 1,Mb 4 false] (Rs [Fa 6 1 2,Lq 7 6,Ca 8 89 [7],Pp (.alr 5 1),Fz 5 1 8] (Sq (.reg [Fa 9 1 3,Lq 10 9,Ca 11 89 [10],Lq 12 5,Bi 13 .eql 11 12,Mv 14 13,Gf 14 (.fad 15 2 3),Gf 14 (.lde 16 1 false 15),Gf 14 (.mkf 17 91 [.t 5]),Gf 14 (.call 18 90 [16,17]),Po 19 14 18,Mv 4 19] [[],[0],[0,1],[],rg 0 3,rg 0 4,rg 0 5,rg 0 6,rg 0 5,rg 0 8,rg 0 9,rg 0 10]) .ret))
def aqs:List RV:=[.t 4]
theorem aqt:FnC Try.prog ar5 [] 0 ahu Try.f64 aqr aqs:=fnC Try.func64
def age(N:Nat)(p0 p1:aA):Ro:=
 aG (oW p0.name) (fun(r1:Bs)=>
  aG (oW p1.name) (fun(r2:Bs)=>
   cond (decide (r2=r1)) (
    some (.bool true,[])) (
    aG (bE p1.aliases r1) (fun(r3:Bool)=>
     some (.bool r3,[])))))
def agf(N:Nat)(p0 p1:aA):Ro:=age N p0 p1
theorem aoW(N:Nat)(p0 p1:aA)(h:Tot (agf N p0 p1) (fun z=>∃(y0:Bool)(rest:List aK),z.1.dimR=.bool y0∧z.2=rest∧adk p0 p1 (y0))):∃r,lj p0 p1 r:=aqt.finP (N:=N) (by kernel_rfl) h fun _ ⟨y0,_,e,_,q⟩=>⟨(y0),e,q⟩
noncomputable def aud:aN:=tab (P:=Try.prog) [] [] [] [aqh,arT]
def ar6:IR:=Rs [Bx 4 0,Bx 5 1,Mb 8 false] (Sq (Rs [Ld 11 1 true 4,Mv 12 2,Ca 13 63 [11,12],Un 14 13,Mv 15 14,Gf 15 (.lde 16 1 true 5),Gf 15 (.mov 17 3),Gf 15 (.call 18 63 [16,17]),Gf 15 (.un 19 .not 18),Po 20 15 19] (Cn 20 (Rs [Mb 8 false] .ret) .skip)) (Sq (.reg [Fa 21 0 4,Lq 22 21,Mv 23 2,Ix 24 .atype 22 23,Ld 25 10 true 24,Fa 26 0 5,Lq 27 26,Mv 28 3,Ix 29 .atype 27 28,Ld 30 10 true 29,Pp (.alr 9 10),Pp (.alr 10 10),Fz 9 10 25,Fz 10 10 30] [[],[0],[],[0,1,2],rg 0 3,[],[5],[],[5,6,7],rg 5 8,[],[],rg 0 4++[10,11],rg 0 12]) (Sq (Rs [Fa 31 0 9,Lq 32 31] (.block 0 (Rs [Bc 34 .eql 32 14,Mv 33 34] (Cn 33 (Rs [Mb 8 false] .ret) (Sq (Rs [Bc 36 .eql 32 9,Mv 35 36] (Cn 35 .skip (Rg [Bc 37 .eql 32 10,Mv 35 37]))) (Cn 35 (Rs [Fa 38 0 9,Lq 39 38,Fa 40 0 10,Lq 41 40,Bi 42 .eql 39 41,Mv 43 42,Gt 43 (.lde 44 10 true 9),Gt 43 (.lde 45 10 true 10),Gt 43 (.call 46 64 [44,45]),Pa 47 43 46,Mv 8 47] .ret) (Rs [Bc 49 .eql 32 11,Mv 48 49] (Cn 48 (Rs [Fa 50 0 9,Lq 51 50,Fa 52 0 10,Lq 53 52,Bi 54 .eql 51 53,Mv 55 54,Gt 55 (.lde 56 10 true 9),Gt 55 (.lde 57 10 true 10),Gt 55 (.call 58 64 [56,57]),Pa 59 55 58,Mv 60 59,Gt 60 (.fad 61 7 9),Gt 60 (.lde 62 1 false 61),Gt 60 (.fad 63 7 10),Gt 60 (.lde 64 1 false 63),Gt 60 (.bin 65 .eql 62 64),Pa 66 60 65,Mv 8 66] .ret) (Sq (Rs [Bc 68 .eql 32 3,Mv 67 68] (Cn 67 .skip (Rs [Bc 69 .eql 32 4,Mv 67 69] (Cn 67 .skip (Rg [Bc 70 .eql 32 5,Mv 67 70]))))) (Cn 67 (Rs [Fa 71 0 10,Lq 72 71,Fa 73 0 9,Lq 74 73,Bi 75 .geq 72 74,Mv 76 75,Gt 76 (.fad 77 0 10),Gt 76 (.lde 78 1 false 77),Gt 76 (.bin 79 .leq 78 (kI 6)),Pa 80 76 79,Mv 8 80] .ret) (Rs [Bc 82 .eql 32 8,Mv 81 82] (Cn 81 (Rs [Fa 83 0 10,Lq 84 83,Bc 85 .eql 84 8,Mv 86 85,Gf 86 (.fad 87 0 10),Gf 86 (.lde 88 1 false 87),Gf 86 (.bin 89 .eql 88 (kI 7)),Po 90 86 89,Mv 8 90] .ret) .skip)))))))))))) (Rs [Fa 91 0 9,Lq 92 91,Fa 93 0 10,Lq 94 93,Bi 95 .eql 92 94,Mv 8 95] .ret))))
def ar7:List RV:=[.t 8]
theorem ar8:FnC Try.prog aud [] 0 ajU Try.f30 ar6 ar7:=fnC Try.func30
def ahA(N:Nat)(p0_0 p1_0:List aA)(p2 p3:Int):Ro:=
 aG (pR p0_0 p2) (fun(r1:Bool)=>
  cond (!r1) (
   some (.bool false,[])) (
   aG (pR p1_0 p3) (fun(r2:Bool)=>
    cond (!r2) (
     some (.bool false,[])) (
     chk (ixl p2 p0_0) (
      let x1:=(List.getD p0_0 (Int.toNat p2) (aB .atype))
      chk (ixl p3 p1_0) (
       let x2:=(List.getD p1_0 (Int.toNat p3) (aB .atype))
       cond (x1.kind==14) (
        some (.bool false,[])) (
        cond (x1.kind==9) (
         cond (x1.kind==x2.kind) (
          aG (lj x1 x2) (fun(r3:Bool)=>
           some (.bool r3,[]))) (
          some (.bool false,[]))) (
         cond (x1.kind==10) (
          cond (x1.kind==x2.kind) (
           aG (lj x1 x2) (fun(r4:Bool)=>
            some (.bool r4,[]))) (
           some (.bool false,[]))) (
          cond (x1.kind==11) (
           cond (x1.kind==x2.kind) (
            aG (lj x1 x2) (fun(r5:Bool)=>
             cond r5 (
              some (.bool (x1.size==x2.size),[])) (
              some (.bool false,[])))) (
            some (.bool false,[]))) (
           cond (x1.kind==3) (
            let x3:=decide (x1.kind≤x2.kind)
            cond x3 (
             some (.bool (decide (x2.kind≤6)),[])) (
             some (.bool false,[]))) (
            cond (x1.kind==4) (
             let x4:=decide (x1.kind≤x2.kind)
             cond x4 (
              some (.bool (decide (x2.kind≤6)),[])) (
              some (.bool false,[]))) (
             cond (x1.kind==5) (
              let x5:=decide (x1.kind≤x2.kind)
              cond x5 (
               some (.bool (decide (x2.kind≤6)),[])) (
               some (.bool false,[]))) (
              cond (x1.kind==8) (
               cond (x2.kind==8) (
                some (.bool true,[])) (
                some (.bool (x2.kind==7),[]))) (
               some (.bool (x1.kind==x2.kind),[])))))))))))))))
def ahB(N:Nat)(p0_0 p1_0:List aA)(p2 p3:Int):Ro:=ahA N p0_0 p1_0 p2 p3
theorem aqu(N:Nat)(p0_0 p1_0:List aA)(p2 p3:Int)(h:Tot (ahB N p0_0 p1_0 p2 p3) (fun z=>∃(y0:Bool)(rest:List aK),z.1.dimR=.bool y0∧z.2=rest∧zf p0_0 p1_0 p2 p3 (y0))):∃r,jT p0_0 p1_0 p2 p3 r:=ar8.finP (N:=N) (by kernel_rfl) h fun _ ⟨y0,_,e,_,q⟩=>⟨(y0),e,q⟩
noncomputable def aqv:aN:=tab (P:=Try.prog) [] [] [] []
def aoX:IR:=Rs [Bx 2 0,Mb 3 false] (Rs [Fa 4 0 2,Lq 5 4,Lq 6 1,Bi 7 .eql 5 6,Mv 3 7] .ret)
def aoY:List RV:=[.t 3]
theorem aoZ:FnC Try.prog aqv [] 0 af7 Try.f153 aoX aoY:=fnC Try.func153
def aeO(N:Nat)(p0:aM)(pc0_0:Bs):Ro:=
 some (.bool (decide (p0.name=pc0_0)),[])
def aeP(N:Nat)(p0:aM)(pc0_0:Bs):Ro:=aeO N p0 pc0_0
theorem anz(N:Nat)(p0:aM)(pc0_0:Bs)(h:Tot (aeP N p0 pc0_0) (fun z=>∃(y0:Bool)(rest:List aK),z.1.dimR=.bool y0∧z.2=rest∧acr p0 pc0_0 (y0))):∃r,pS p0 pc0_0 r:=aoZ.finP (N:=N) (by kernel_rfl) h fun _ ⟨y0,_,e,_,q⟩=>⟨(y0),e,q⟩
noncomputable def cY:aN:=tab (P:=Try.prog) [] [] [] [aqj]
def el:IR:=Rs [Bi 9 .lss 8 7] (Sq (Cn 9 .skip (.exit 0)) (Sq (.block 1 (Rs [Mv 10 8,Mv 5 10] (Rs [Mv 11 1,Mv 12 0,Mv 13 5,Ix 14 .afield 12 13,Ld 15 9 true 14,Pp (.dcall (some 16) 153 (.t 11) [.t 15])] (Cn 16 (Rs [Mv 17 5,Mv 4 17] .ret) .skip)))) (Rg [Bc 18 .add 8 1,Mv 8 18])))
def eo:IR:=Rs [Mi 4 (-1)] .ret
def lD:IR:=Rs [Mi 4 0] (Sq (Rs [Mv 6 0,Ll 7 6,Mi 8 0] (.block 0 (.loop [0,1,7,8,1000000] 0 el))) eo)
def eM:List RV:=[.t 4]
theorem lE:FnC Try.prog cY [] 0 eR Try.f152 lD eM:=fnC Try.func152
def lk(R:IR→(Ex→St→Ro)→St→Ro)(again0:St→Ro):Ex→St→Ro:=(bj again0 [0,1,7,8,1000000] 0 (aP 0 (bg (R eo) (fin eM))))
abbrev bT:Type:=(List aM×Bs×Int×Int)
def bO(x:bT):St:={env:=(.sl .afield (.may false) x.1::.fn 153 [.ea [.str x.2.1]]::(U 5 (.int .i64 x.2.2.1::.int .i64 x.2.2.2::(U 10 [])))),hp:=[]}
def cL(N:Nat):(St→Ro)→St→Ro:=fun again0 s=>run cY N el (lk (run cY N) again0) s
def bU(N:Nat)(again0:bT→Ro)(x:bT):Ro:=
 let v0:List aM:=x.1
 let v1_0_0:Bs:=x.2.1
 let v7:Int:=x.2.2.1
 let v8:Int:=x.2.2.2
 cond (decide (v8<v7)) (
  chk (ixl v8 v0) (
   let x2:=(List.getD v0 (Int.toNat v8) (aB .afield))
   aG (pS (reF x2) v1_0_0) (fun(r1:Bool)=>
    cond r1 (
     some (.int .i64 v8,[])) (
     let x3:=(IntKind.wrap .i64 (v8+1))
     again0 (v0,v1_0_0,v7,x3))))) (
  some (.int .i64 (-1),[]))
theorem kO(N:Nat):LB (cL N) bO (bU N):=fun _ _=>by kernel_rfl
def bv(N:Nat)(p0:List aM)(p1_0_0:Bs)(q0:bT→Ro):Ro:=
 let x1:=(↑(List.length p0):Int)
 q0 (p0,p1_0_0,x1,0)
def eN(N:Nat)(p0:List aM)(p1_0_0:Bs):Ro:=bv N p0 p1_0_0 (fun z=>aR N (bU N) z)
theorem ll(N:Nat)(p0:List aM)(p1_0_0:Bs)(h:Tot (eN N p0 p1_0_0) (fun z=>∃(y0:Int)(rest:List aK),z.1.dimR=.int .i64 y0∧z.2=rest∧eh p0 p1_0_0 (y0))):∃r,bw p0 p1_0_0 r:=lE.finP (N:=N) ((bo _ (by kernel_rfl) rfl (fun C=>bv N p0 p1_0_0 (fun z=>C 1000000 (bO z))) (fun C=>by kernel_rfl)).trans (Eq.trans (b:=bv N p0 p1_0_0 (fun z=>aX N (cL N) (bO z))) (by kernel_rfl) (congrArg (bv N p0 p1_0_0) (funext fun z=>aW (bO) (cL N) (bU N) (kO N) N z)))) h fun _ ⟨y0,_,e,_,q⟩=>⟨(y0),e,q⟩
noncomputable def aeQ:aN:=tab (P:=Try.prog) [] [] [] [mh]
def agh:IR:=Rs [Bi 16 .lss 15 14] (Sq (Cn 16 .skip (.exit 0)) (Sq (.block 1 (Rs [Ix 17 .str 13 15,Lq 18 17,Pp (.alr 6 1),Fz 6 1 18] (Rs [Fa 19 8 2,Lq 20 19,Pp (.mkf 21 153 [.t 6]),Ca 22 152 [20,21],Mv 7 22] (Rs [Mv 23 7,Bc 24 .geq 23 0] (Cn 24 (Rs [Mv 25 7,Mv 4 25] .ret) .skip))))) (Rg [Bc 26 .add 15 1,Mv 15 26])))
def aeR:IR:=Rs [Mi 4 (-1)] .ret
def aue:IR:=Rs [Bx 2 0,Bx 3 1,Mi 4 0] (Sq (Rs [Fa 8 0 3,Lq 9 8,Pp (.bsl 10 .str [9] false),Fa 11 1 3,Lq 12 11,Pp (.app 13 .str (.tk 10) 12),Ll 14 13,Mi 15 0] (.block 0 (.loop [2,13,14,15,1000000] 0 agh))) aeR)
def aj8:List RV:=[.t 4]
theorem auf:FnC Try.prog aeQ [] 0 al4 Try.f130 aue aj8:=fnC Try.func130
def ar9(R:IR→(Ex→St→Ro)→St→Ro)(again0:St→Ro):Ex→St→Ro:=(bj again0 [2,13,14,15,1000000] 0 (aP 0 (bg (R aeR) (fin aj8))))
abbrev xd:Type:=(aA×Bss×Int×Int)
def uO(x:xd):St:={env:=(.undef::.undef::.ea (enc .atype x.1)::(U 10 (.sl .str .own x.2.1::.int .i64 x.2.2.1::.int .i64 x.2.2.2::(U 11 [])))),hp:=[]}
def abL(N:Nat):(St→Ro)→St→Ro:=fun again0 s=>run aeQ N agh (ar9 (run aeQ N) again0) s
def xf(N:Nat)(again0:xd→Ro)(x:xd):Ro:=
 let v2:aA:=x.1
 let v13:Bss:=x.2.1
 let v14:Int:=x.2.2.1
 let v15:Int:=x.2.2.2
 cond (decide (v15<v14)) (
  chk (ixl v15 v13) (
   let x3:=List.getD v13 (Int.toNat v15) (aB .str)
   aG (bw v2.fields x3) (fun(r1:Int)=>
    cond (decide (0≤r1)) (
     some (.int .i64 r1,[])) (
     let x4:=(IntKind.wrap .i64 (v15+1))
     again0 (v2,v13,v14,x4))))) (
  some (.int .i64 (-1),[]))
theorem aqw(N:Nat):LB (abL N) uO (xf N):=fun _ _=>by kernel_rfl
def tW(N:Nat)(p0:aA)(p1:aM)(q0:xd→Ro):Ro:=
 chk (decide ((List.length ([p1.name]:Bss)+List.length p1.aliases)*16≤140737488355328)) (
  let x1:=(([p1.name]:Bss)++p1.aliases)
  let x2:=(↑(List.length x1):Int)
  q0 (p0,x1,x2,0))
def aj9(N:Nat)(p0:aA)(p1:aM):Ro:=tW N p0 p1 (fun z=>aR N (xf N) z)
theorem asa(N:Nat)(p0:aA)(p1:aM)(h:Tot (aj9 N p0 p1) (fun z=>∃(y0:Int)(rest:List aK),z.1.dimR=.int .i64 y0∧z.2=rest∧aao p0 p1 (y0))):∃r,wm p0 p1 r:=auf.finP (N:=N) ((bo _ (by kernel_rfl) rfl (fun C=>tW N p0 p1 (fun z=>C 1000000 (uO z))) (fun C=>by kernel_rfl)).trans (Eq.trans (b:=tW N p0 p1 (fun z=>aX N (abL N) (uO z))) (by kernel_rfl) (congrArg (tW N p0 p1) (funext fun z=>aW (uO) (abL N) (xf N) (aqw N) N z)))) h fun _ ⟨y0,_,e,_,q⟩=>⟨(y0),e,q⟩
noncomputable def anA:aN:=tab (P:=Try.prog) [] [] [] [acX]
def ami:IR:=Rs [Mb 5 false] (Rs [Ld 6 1 true 1,Ld 7 1 true 2,Lq 8 3,Mv 9 0,Ca 10 30 [6,7,8,9],Mv 5 10] .ret)
def amj:List RV:=[.t 5]
theorem amk:FnC Try.prog anA [] 0 adp Try.f128 ami amj:=fnC Try.func128
def acB(N:Nat)(p0:Int)(pc0_0 pc1_0:List aA)(pc2_0:Int):Ro:=
 aG (jT pc0_0 pc1_0 pc2_0 p0) (fun(r1:Bool)=>
  some (.bool r1,[]))
def acC(N:Nat)(p0:Int)(pc0_0 pc1_0:List aA)(pc2_0:Int):Ro:=acB N p0 pc0_0 pc1_0 pc2_0
theorem akR(N:Nat)(p0:Int)(pc0_0 pc1_0:List aA)(pc2_0:Int)(h:Tot (acC N p0 pc0_0 pc1_0 pc2_0) (fun z=>∃(y0:Bool)(rest:List aK),z.1.dimR=.bool y0∧z.2=rest∧aap p0 pc0_0 pc1_0 pc2_0 (y0))):∃r,nB p0 pc0_0 pc1_0 pc2_0 r:=amk.finP (N:=N) (by kernel_rfl) h fun _ ⟨y0,_,e,_,q⟩=>⟨(y0),e,q⟩
noncomputable def eE:aN:=tab (P:=Try.prog) [] [] [] [ano]
def gK:IR:=Rs [Bi 9 .lss 8 7] (Sq (Cn 9 .skip (.exit 0)) (Sq (.block 1 (Rs [Mv 10 8,Mv 5 10] (Rs [Mv 11 1,Mv 12 0,Mv 13 5,Ix 14 (.num .i64) 12 13,Lq 15 14,Pp (.dcall (some 16) 128 (.t 11) [.t 15])] (Cn 16 (Rs [Mv 17 5,Mv 4 17] .ret) .skip)))) (Rg [Bc 18 .add 8 1,Mv 8 18])))
def gL:IR:=Rs [Mi 4 (-1)] .ret
def qL:IR:=Rs [Mi 4 0] (Sq (Rs [Mv 6 0,Ll 7 6,Mi 8 0] (.block 0 (.loop [0,1,7,8,1000000] 0 gK))) gL)
def iw:List RV:=[.t 4]
theorem qM:FnC Try.prog eE [] 0 iG Try.f127 qL iw:=fnC Try.func127
def qm(R:IR→(Ex→St→Ro)→St→Ro)(again0:St→Ro):Ex→St→Ro:=(bj again0 [0,1,7,8,1000000] 0 (aP 0 (bg (R gL) (fin iw))))
abbrev cR:Type:=(List Int×List aA×List aA×Int×Int×Int)
def cK(x:cR):St:={env:=(.sl (.num .i64) (.may false) x.1::.fn 128 [.ea [.sl .atype (.may false) x.2.1],.ea [.sl .atype (.may false) x.2.2.1],.ea [.int .i64 x.2.2.2.1]]::(U 5 (.int .i64 x.2.2.2.2.1::.int .i64 x.2.2.2.2.2::(U 10 [])))),hp:=[]}
def dW(N:Nat):(St→Ro)→St→Ro:=fun again0 s=>run eE N gK (qm (run eE N) again0) s
def cS(N:Nat)(again0:cR→Ro)(x:cR):Ro:=
 let v0:List Int:=x.1
 let v1_0_0:List aA:=x.2.1
 let v1_1_0:List aA:=x.2.2.1
 let v1_2_0:Int:=x.2.2.2.1
 let v7:Int:=x.2.2.2.2.1
 let v8:Int:=x.2.2.2.2.2
 cond (decide (v8<v7)) (
  chk (ixl v8 v0) (
   let x2:=List.getD v0 (Int.toNat v8) (aB (.num .i64))
   aG (nB x2 v1_0_0 v1_1_0 v1_2_0) (fun(r1:Bool)=>
    cond r1 (
     some (.int .i64 v8,[])) (
     let x3:=(IntKind.wrap .i64 (v8+1))
     again0 (v0,v1_0_0,v1_1_0,v1_2_0,v7,x3))))) (
  some (.int .i64 (-1),[]))
theorem pW(N:Nat):LB (dW N) cK (cS N):=fun _ _=>by kernel_rfl
def cb(N:Nat)(p0:List Int)(p1_0_0 p1_1_0:List aA)(p1_2_0:Int)(q0:cR→Ro):Ro:=
 let x1:=(↑(List.length p0):Int)
 q0 (p0,p1_0_0,p1_1_0,p1_2_0,x1,0)
def ix(N:Nat)(p0:List Int)(p1_0_0 p1_1_0:List aA)(p1_2_0:Int):Ro:=cb N p0 p1_0_0 p1_1_0 p1_2_0 (fun z=>aR N (cS N) z)
theorem qn(N:Nat)(p0:List Int)(p1_0_0 p1_1_0:List aA)(p1_2_0:Int)(h:Tot (ix N p0 p1_0_0 p1_1_0 p1_2_0) (fun z=>∃(y0:Int)(rest:List aK),z.1.dimR=.int .i64 y0∧z.2=rest∧gJ p0 p1_0_0 p1_1_0 p1_2_0 (y0))):∃r,cj p0 p1_0_0 p1_1_0 p1_2_0 r:=qM.finP (N:=N) ((bo _ (by kernel_rfl) rfl (fun C=>cb N p0 p1_0_0 p1_1_0 p1_2_0 (fun z=>C 1000000 (cK z))) (fun C=>by kernel_rfl)).trans (Eq.trans (b:=cb N p0 p1_0_0 p1_1_0 p1_2_0 (fun z=>aX N (dW N) (cK z))) (by kernel_rfl) (congrArg (cb N p0 p1_0_0 p1_1_0 p1_2_0) (funext fun z=>aW (cK) (dW N) (cS N) (pW N) N z)))) h fun _ ⟨y0,_,e,_,q⟩=>⟨(y0),e,q⟩
noncomputable def asb:aN:=tab (P:=Try.prog) [] [] [] [rH]
def aqx:IR:=Rs [Bx 4 0,Bx 5 1,Bx 6 2,Mi 8 0] (Rs [Fa 9 0 5,Lq 10 9,Mv 11 3,Ix 12 .atype 10 11,Fa 13 9 12,Lo 14 13,Pp (.mkf 15 128 [.t 4,.t 5,.t 6]),Ca 16 127 [14,15],Mv 8 16] .ret)
def aqy:List RV:=[.t 8]
theorem aqz:FnC Try.prog asb [] 0 aht Try.f95 aqx aqy:=fnC Try.func95
def agi(N:Nat)(p0_0 p1_0:List aA)(p2 p3:Int):Ro:=
 chk (ixl p3 p1_0) (
  let x1:=(List.getD p1_0 (Int.toNat p3) (aB .atype))
  aG (cj x1.branches p0_0 p1_0 p2) (fun(r1:Int)=>
   some (.int .i64 r1,[])))
def agj(N:Nat)(p0_0 p1_0:List aA)(p2 p3:Int):Ro:=agi N p0_0 p1_0 p2 p3
theorem ao0(N:Nat)(p0_0 p1_0:List aA)(p2 p3:Int)(h:Tot (agj N p0_0 p1_0 p2 p3) (fun z=>∃(y0:Int)(rest:List aK),z.1.dimR=.int .i64 y0∧z.2=rest∧adl p0_0 p1_0 p2 p3 (y0))):∃r,rE p0_0 p1_0 p2 p3 r:=aqz.finP (N:=N) (by kernel_rfl) h fun _ ⟨y0,_,e,_,q⟩=>⟨(y0),e,q⟩
noncomputable def aeS:aN:=tab (P:=Try.prog) [] [] [] [zY]
def adV:IR:=Rs [Mb 3 false] (Rs [Fa 4 4 1,Lq 5 4,Mv 6 0,Ca 7 97 [5,6],Un 8 7,Mv 3 8] .ret)
def adW:List RV:=[.t 3]
theorem adX:FnC Try.prog aeS [] 0 wj Try.f96 adV adW:=fnC Try.func96
def uP(N:Nat)(p0:Bs)(pc0_0:Int)(pc0_1:Bs)(pc0_2:Bss)(pc0_3:Int)(pc0_4:Bss)(pc0_5:Bool)(pc0_6:Bs)(pc0_7:Int)(pc0_8:List aM)(pc0_9:List Int):Ro:=
 aG (dO pc0_4 p0) (fun(r1:Bool)=>
  some (.bool (!r1),[]))
def uQ(N:Nat)(p0:Bs)(pc0_0:Int)(pc0_1:Bs)(pc0_2:Bss)(pc0_3:Int)(pc0_4:Bss)(pc0_5:Bool)(pc0_6:Bs)(pc0_7:Int)(pc0_8:List aM)(pc0_9:List Int):Ro:=uP N p0 pc0_0 pc0_1 pc0_2 pc0_3 pc0_4 pc0_5 pc0_6 pc0_7 pc0_8 pc0_9
theorem acY(N:Nat)(p0:Bs)(pc0_0:Int)(pc0_1:Bs)(pc0_2:Bss)(pc0_3:Int)(pc0_4:Bss)(pc0_5:Bool)(pc0_6:Bs)(pc0_7:Int)(pc0_8:List aM)(pc0_9:List Int)(h:Tot (uQ N p0 pc0_0 pc0_1 pc0_2 pc0_3 pc0_4 pc0_5 pc0_6 pc0_7 pc0_8 pc0_9) (fun z=>∃(y0:Bool)(rest:List aK),z.1.dimR=.bool y0∧z.2=rest∧sB p0 pc0_0 pc0_1 pc0_2 pc0_3 pc0_4 pc0_5 pc0_6 pc0_7 pc0_8 pc0_9 (y0))):∃r,gf p0 pc0_0 pc0_1 pc0_2 pc0_3 pc0_4 pc0_5 pc0_6 pc0_7 pc0_8 pc0_9 r:=adX.finP (N:=N) (by kernel_rfl) h fun _ ⟨y0,_,e,_,q⟩=>⟨(y0),e,q⟩
noncomputable def cT:aN:=tab (P:=Try.prog) [] [] [] [aeD]
def d9:IR:=Rs [Bi 9 .lss 8 7] (Sq (Cn 9 .skip (.exit 0)) (Sq (.block 1 (Rs [Mv 10 8,Mv 5 10] (Rs [Mv 11 1,Mv 12 0,Mv 13 5,Ix 14 .str 12 13,Lq 15 14,Pp (.dcall (some 16) 96 (.t 11) [.t 15])] (Cn 16 (Rs [Mv 17 5,Mv 4 17] .ret) .skip)))) (Rg [Bc 18 .add 8 1,Mv 8 18])))
def ee:IR:=Rs [Mi 4 (-1)] .ret
def lm:IR:=Rs [Mi 4 0] (Sq (Rs [Mv 6 0,Ll 7 6,Mi 8 0] (.block 0 (.loop [0,1,7,8,1000000] 0 d9))) ee)
def eF:List RV:=[.t 4]
theorem ln:FnC Try.prog cT [] 0 eL Try.f126 lm eF:=fnC Try.func126
def kP(R:IR→(Ex→St→Ro)→St→Ro)(again0:St→Ro):Ex→St→Ro:=(bj again0 [0,1,7,8,1000000] 0 (aP 0 (bg (R ee) (fin eF))))
abbrev bP:Type:=(Bss×Int×Bs×Bss×Int×Bss×Bool×Bs×Int×List aM×List Int×Int×Int)
def bK(x:bP):St:={env:=(.sl .str (.may false) x.1::.fn 96 [.ea [.int .i64 x.2.1,.str x.2.2.1,.sl .str (.may false) x.2.2.2.1,.int .i64 x.2.2.2.2.1,.sl .str (.may false) x.2.2.2.2.2.1,.bool x.2.2.2.2.2.2.1,.str x.2.2.2.2.2.2.2.1,.int .i64 x.2.2.2.2.2.2.2.2.1,.sl .afield (.may false) x.2.2.2.2.2.2.2.2.2.1,.sl (.num .i64) (.may false) x.2.2.2.2.2.2.2.2.2.2.1]]::(U 5 (.int .i64 x.2.2.2.2.2.2.2.2.2.2.2.1::.int .i64 x.2.2.2.2.2.2.2.2.2.2.2.2::(U 10 [])))),hp:=[]}
def cI(N:Nat):(St→Ro)→St→Ro:=fun again0 s=>run cT N d9 (kP (run cT N) again0) s
def bQ(N:Nat)(again0:bP→Ro)(x:bP):Ro:=
 let v0:Bss:=x.1
 let v1_0_0:Int:=x.2.1
 let v1_0_1:Bs:=x.2.2.1
 let v1_0_2:Bss:=x.2.2.2.1
 let v1_0_3:Int:=x.2.2.2.2.1
 let v1_0_4:Bss:=x.2.2.2.2.2.1
 let v1_0_5:Bool:=x.2.2.2.2.2.2.1
 let v1_0_6:Bs:=x.2.2.2.2.2.2.2.1
 let v1_0_7:Int:=x.2.2.2.2.2.2.2.2.1
 let v1_0_8:List aM:=x.2.2.2.2.2.2.2.2.2.1
 let v1_0_9:List Int:=x.2.2.2.2.2.2.2.2.2.2.1
 let v7:Int:=x.2.2.2.2.2.2.2.2.2.2.2.1
 let v8:Int:=x.2.2.2.2.2.2.2.2.2.2.2.2
 cond (decide (v8<v7)) (
  chk (ixl v8 v0) (
   let x2:=List.getD v0 (Int.toNat v8) (aB .str)
   aG (gf x2 v1_0_0 v1_0_1 v1_0_2 v1_0_3 v1_0_4 v1_0_5 v1_0_6 v1_0_7 v1_0_8 v1_0_9) (fun(r1:Bool)=>
    cond r1 (
     some (.int .i64 v8,[])) (
     let x3:=(IntKind.wrap .i64 (v8+1))
     again0 (v0,v1_0_0,v1_0_1,v1_0_2,v1_0_3,v1_0_4,v1_0_5,v1_0_6,v1_0_7,v1_0_8,v1_0_9,v7,x3))))) (
  some (.int .i64 (-1),[]))
theorem j8(N:Nat):LB (cI N) bK (bQ N):=fun _ _=>by kernel_rfl
def br(N:Nat)(p0:Bss)(p1_0_0:Int)(p1_0_1:Bs)(p1_0_2:Bss)(p1_0_3:Int)(p1_0_4:Bss)(p1_0_5:Bool)(p1_0_6:Bs)(p1_0_7:Int)(p1_0_8:List aM)(p1_0_9:List Int)(q0:bP→Ro):Ro:=
 let x1:=(↑(List.length p0):Int)
 q0 (p0,p1_0_0,p1_0_1,p1_0_2,p1_0_3,p1_0_4,p1_0_5,p1_0_6,p1_0_7,p1_0_8,p1_0_9,x1,0)
def eG(N:Nat)(p0:Bss)(p1_0_0:Int)(p1_0_1:Bs)(p1_0_2:Bss)(p1_0_3:Int)(p1_0_4:Bss)(p1_0_5:Bool)(p1_0_6:Bs)(p1_0_7:Int)(p1_0_8:List aM)(p1_0_9:List Int):Ro:=br N p0 p1_0_0 p1_0_1 p1_0_2 p1_0_3 p1_0_4 p1_0_5 p1_0_6 p1_0_7 p1_0_8 p1_0_9 (fun z=>aR N (bQ N) z)
theorem kQ(N:Nat)(p0:Bss)(p1_0_0:Int)(p1_0_1:Bs)(p1_0_2:Bss)(p1_0_3:Int)(p1_0_4:Bss)(p1_0_5:Bool)(p1_0_6:Bs)(p1_0_7:Int)(p1_0_8:List aM)(p1_0_9:List Int)(h:Tot (eG N p0 p1_0_0 p1_0_1 p1_0_2 p1_0_3 p1_0_4 p1_0_5 p1_0_6 p1_0_7 p1_0_8 p1_0_9) (fun z=>∃(y0:Int)(rest:List aK),z.1.dimR=.int .i64 y0∧z.2=rest∧d7 p0 p1_0_0 p1_0_1 p1_0_2 p1_0_3 p1_0_4 p1_0_5 p1_0_6 p1_0_7 p1_0_8 p1_0_9 (y0))):∃r,bu p0 p1_0_0 p1_0_1 p1_0_2 p1_0_3 p1_0_4 p1_0_5 p1_0_6 p1_0_7 p1_0_8 p1_0_9 r:=ln.finP (N:=N) ((bo _ (by kernel_rfl) rfl (fun C=>br N p0 p1_0_0 p1_0_1 p1_0_2 p1_0_3 p1_0_4 p1_0_5 p1_0_6 p1_0_7 p1_0_8 p1_0_9 (fun z=>C 1000000 (bK z))) (fun C=>by kernel_rfl)).trans (Eq.trans (b:=br N p0 p1_0_0 p1_0_1 p1_0_2 p1_0_3 p1_0_4 p1_0_5 p1_0_6 p1_0_7 p1_0_8 p1_0_9 (fun z=>aX N (cI N) (bK z))) (by kernel_rfl) (congrArg (br N p0 p1_0_0 p1_0_1 p1_0_2 p1_0_3 p1_0_4 p1_0_5 p1_0_6 p1_0_7 p1_0_8 p1_0_9) (funext fun z=>aW (bK) (cI N) (bQ N) (j8 N) N z)))) h fun _ ⟨y0,_,e,_,q⟩=>⟨(y0),e,q⟩
noncomputable def j9:aN:=tab (P:=Try.prog) [] [] [] [lC]
def jP:IR:=Rs [Mb 4 false] (Rs [Mv 5 0,Mv 6 1,Ca 7 126 [5,6],Bc 8 .geq 7 0,Mv 4 8] .ret)
def jQ:List RV:=[.t 4]
theorem jR:FnC Try.prog j9 [] 0 d8 Try.f90 jP jQ:=fnC Try.func90
def dS(N:Nat)(p0:Bss)(p1_0_0:Int)(p1_0_1:Bs)(p1_0_2:Bss)(p1_0_3:Int)(p1_0_4:Bss)(p1_0_5:Bool)(p1_0_6:Bs)(p1_0_7:Int)(p1_0_8:List aM)(p1_0_9:List Int):Ro:=
 aG (bu p0 p1_0_0 p1_0_1 p1_0_2 p1_0_3 p1_0_4 p1_0_5 p1_0_6 p1_0_7 p1_0_8 p1_0_9) (fun(r1:Int)=>
  some (.bool (decide (0≤r1)),[]))
def dT(N:Nat)(p0:Bss)(p1_0_0:Int)(p1_0_1:Bs)(p1_0_2:Bss)(p1_0_3:Int)(p1_0_4:Bss)(p1_0_5:Bool)(p1_0_6:Bs)(p1_0_7:Int)(p1_0_8:List aM)(p1_0_9:List Int):Ro:=dS N p0 p1_0_0 p1_0_1 p1_0_2 p1_0_3 p1_0_4 p1_0_5 p1_0_6 p1_0_7 p1_0_8 p1_0_9
theorem jm(N:Nat)(p0:Bss)(p1_0_0:Int)(p1_0_1:Bs)(p1_0_2:Bss)(p1_0_3:Int)(p1_0_4:Bss)(p1_0_5:Bool)(p1_0_6:Bs)(p1_0_7:Int)(p1_0_8:List aM)(p1_0_9:List Int)(h:Tot (dT N p0 p1_0_0 p1_0_1 p1_0_2 p1_0_3 p1_0_4 p1_0_5 p1_0_6 p1_0_7 p1_0_8 p1_0_9) (fun z=>∃(y0:Bool)(rest:List aK),z.1.dimR=.bool y0∧z.2=rest∧dQ p0 p1_0_0 p1_0_1 p1_0_2 p1_0_3 p1_0_4 p1_0_5 p1_0_6 p1_0_7 p1_0_8 p1_0_9 (y0))):∃r,bq p0 p1_0_0 p1_0_1 p1_0_2 p1_0_3 p1_0_4 p1_0_5 p1_0_6 p1_0_7 p1_0_8 p1_0_9 r:=jR.finP (N:=N) (by kernel_rfl) h fun _ ⟨y0,_,e,_,q⟩=>⟨(y0),e,q⟩
noncomputable def lp:aN:=tab (P:=Try.prog) [] [] [] []
def pz:IR:=Rs [Bi 9 .lss 8 7] (Sq (Cn 9 .skip (.exit 0)) (Sq (.block 1 (Rs [Mv 10 8,Mv 5 10] (Rs [Mv 11 1,Mv 12 0,Mv 13 5,Ix 14 .str 12 13,Lq 15 14,Bi 16 .eql 11 15] (Cn 16 (Rs [Mv 17 5,Mv 4 17] .ret) .skip)))) (Rg [Bc 18 .add 8 1,Mv 8 18])))
def pA:IR:=Rs [Mi 4 (-1)] .ret
def aa2:IR:=Rs [Mi 4 0] (Sq (Rs [Mv 6 0,Ll 7 6,Mi 8 0] (.block 0 (.loop [0,1,7,8,1000000] 0 pz))) pA)
def qJ:List RV:=[.t 4]
theorem aa3:FnC Try.prog lp [] 0 rD Try.f129 aa2 qJ:=fnC Try.func129
def aat(R:IR→(Ex→St→Ro)→St→Ro)(again0:St→Ro):Ex→St→Ro:=(bj again0 [0,1,7,8,1000000] 0 (aP 0 (bg (R pA) (fin qJ))))
abbrev fO:Type:=(Bss×Bs×Int×Int)
def fv(x:fO):St:={env:=(.sl .str (.may false) x.1::.str x.2.1::(U 5 (.int .i64 x.2.2.1::.int .i64 x.2.2.2::(U 10 [])))),hp:=[]}
def jn(N:Nat):(St→Ro)→St→Ro:=fun again0 s=>run lp N pz (aat (run lp N) again0) s
def fP(N:Nat)(again0:fO→Ro)(x:fO):Ro:=
 let v0:Bss:=x.1
 let v1:Bs:=x.2.1
 let v7:Int:=x.2.2.1
 let v8:Int:=x.2.2.2
 cond (decide (v8<v7)) (
  chk (ixl v8 v0) (
   let x2:=List.getD v0 (Int.toNat v8) (aB .str)
   cond (decide (v1=x2)) (
    some (.int .i64 v8,[])) (
    let x3:=(IntKind.wrap .i64 (v8+1))
    again0 (v0,v1,v7,x3)))) (
  some (.int .i64 (-1),[]))
theorem zZ(N:Nat):LB (jn N) fv (fP N):=fun _ _=>by kernel_rfl
def ef(N:Nat)(p0:Bss)(p1:Bs)(q0:fO→Ro):Ro:=
 let x1:=(↑(List.length p0):Int)
 q0 (p0,p1,x1,0)
def qK(N:Nat)(p0:Bss)(p1:Bs):Ro:=ef N p0 p1 (fun z=>aR N (fP N) z)
theorem aau(N:Nat)(p0:Bss)(p1:Bs)(h:Tot (qK N p0 p1) (fun z=>∃(y0:Int)(rest:List aK),z.1.dimR=.int .i64 y0∧z.2=rest∧px p0 p1 (y0))):∃r,eD p0 p1 r:=aa3.finP (N:=N) ((bo _ (by kernel_rfl) rfl (fun C=>ef N p0 p1 (fun z=>C 1000000 (fv z))) (fun C=>by kernel_rfl)).trans (Eq.trans (b:=ef N p0 p1 (fun z=>aX N (jn N) (fv z))) (by kernel_rfl) (congrArg (ef N p0 p1) (funext fun z=>aW (fv) (jn N) (fP N) (zZ N) N z)))) h fun _ ⟨y0,_,e,_,q⟩=>⟨(y0),e,q⟩
noncomputable def z3:aN:=tab (P:=Try.prog) [] [] [] [abI]
def zj:IR:=Rs [Mb 4 false] (Rs [Mv 5 0,Mv 6 1,Ca 7 129 [5,6],Bc 8 .geq 7 0,Mv 4 8] .ret)
def zk:List RV:=[.t 4]
theorem zl:FnC Try.prog z3 [] 0 py Try.f97 zj zk:=fnC Try.func97
def pa(N:Nat)(p0:Bss)(p1:Bs):Ro:=
 aG (eD p0 p1) (fun(r1:Int)=>
  some (.bool (decide (0≤r1)),[]))
def pc(N:Nat)(p0:Bss)(p1:Bs):Ro:=pa N p0 p1
theorem yp(N:Nat)(p0:Bss)(p1:Bs)(h:Tot (pc N p0 p1) (fun z=>∃(y0:Bool)(rest:List aK),z.1.dimR=.bool y0∧z.2=rest∧nv p0 p1 (y0))):∃r,dO p0 p1 r:=zl.finP (N:=N) (by kernel_rfl) h fun _ ⟨y0,_,e,_,q⟩=>⟨(y0),e,q⟩
end Go.Proofs.Ytdpajabhmmmjoaa
end
noncomputable section
namespace Go.Proofs.Ytdpajabhmmmjoaa
open Go.AM
set_option autoImplicit false
set_option linter.unusedVariables false
set_option maxRecDepth 100000
noncomputable def acZ:aN:=tab (P:=Try.prog) [] [] [] []
def aeT:IR:=Sq (Rs [Mv 7 3,Bc 8 .geq 7 0] (Cn 8 .skip (.exit 0))) (Sq (.block 1 (Rs [Mv 11 0,Mv 12 3,Pp (.idx 13 11 12),Pp (.bin 14 .eql 13 (.c (.int .u8 46)))] (Cn 14 (Rs [Mv 15 0,Mv 16 3,Bc 17 .add 16 1,Pp (.subs 18 15 (some 17) none),Mv 2 18] .ret) .skip))) (Rg [Mv 9 3,Bc 10 .sub 9 1,Mv 3 10]))
def aeU:IR:=Rs [Mv 19 0,Mv 2 19] .ret
def asc:IR:=Rs [Ms 2 []] (Sq (Rs [Mv 4 0,Pp (.lens 5 4),Bc 6 .sub 5 1,Mv 3 6] (.block 0 (.loop [0,3,1000000] 0 aeT))) aeU)
def ahC:List RV:=[.t 2]
theorem asd:FnC Try.prog acZ [] 0 ajW Try.f92 asc ahC:=fnC Try.func92
def aqA(R:IR→(Ex→St→Ro)→St→Ro)(again0:St→Ro):Ex→St→Ro:=(bj again0 [0,3,1000000] 0 (aP 0 (bg (R aeU) (fin ahC))))
abbrev uR:Type:=(Bs×Int)
def sS(x:uR):St:={env:=(.str x.1::.undef::.undef::.int .i64 x.2::(U 16 [])),hp:=[]}
def aav(N:Nat):(St→Ro)→St→Ro:=fun again0 s=>run acZ N aeT (aqA (run acZ N) again0) s
def uS(N:Nat)(again0:uR→Ro)(x:uR):Ro:=
 let v0:Bs:=x.1
 let v3:Int:=x.2
 cond (decide (0≤v3)) (
  chk (ixl v3 v0) (
   let x3:=(↑(UInt8.toNat (List.getD v0 (Int.toNat v3) 0)):Int)
   cond (x3==46) (
    let x4:=(IntKind.wrap .i64 (v3+1))
    chk ((decide (0≤x4)&&decide (x4≤(↑(List.length v0):Int)))) (
     let x5:=(List.drop (Int.toNat x4) (List.take (List.length v0) v0))
     some (.str x5,[]))) (
    let x6:=(IntKind.wrap .i64 (v3-1))
    again0 (v0,x6)))) (
  some (.str v0,[]))
theorem ao1(N:Nat):LB (aav N) sS (uS N):=fun _ _=>by kernel_rfl
def rK(N:Nat)(p0:Bs)(q0:uR→Ro):Ro:=
 let x1:=(↑(List.length p0):Int)
 let x2:=(IntKind.wrap .i64 (x1-1))
 q0 (p0,x2)
def ahD(N:Nat)(p0:Bs):Ro:=rK N p0 (fun z=>aR N (uS N) z)
theorem aqB(N:Nat)(p0:Bs)(h:Tot (ahD N p0) (fun z=>∃(y0:Bs)(rest:List aK),z.1.dimR=.str y0∧z.2=rest∧aex p0 (y0))):∃r,jV p0 r:=asd.finP (N:=N) ((bo _ (by kernel_rfl) rfl (fun C=>rK N p0 (fun z=>C 1000000 (sS z))) (fun C=>by kernel_rfl)).trans (Eq.trans (b:=rK N p0 (fun z=>aX N (aav N) (sS z))) (by kernel_rfl) (congrArg (rK N p0) (funext fun z=>aW (sS) (aav N) (uS N) (ao1 N) N z)))) h fun _ ⟨y0,_,e,_,q⟩=>⟨(y0),e,q⟩
noncomputable def ac0:aN:=tab (P:=Try.prog) [] [] [] [at4]
def aeV:IR:=Sq (Rs [Mv 14 6,Fa 15 2 3,Lq 16 15,Ll 17 16,Bi 18 .lss 14 17] (Cn 18 .skip (.exit 0))) (Sq (.block 1 (.reg [Mv 21 5,Mv 22 21,Gf 22 (.fad 23 2 3),Gf 22 (.lde 24 1 false 23),Gf 22 (.mov 25 6),Gf 22 (.ixa 26 .str 24 25),Gf 22 (.lde 27 1 false 26),Gf 22 (.call 28 92 [27]),Gf 22 (.fad 29 1 2),Gf 22 (.lde 30 1 false 29),Gf 22 (.call 31 92 [30]),Gf 22 (.bin 32 .eql 28 31),Po 33 22 32,Mv 5 33] [[],[0],[0,1],[0,1,2],[0,1],rg 0 4,rg 0 5,rg 0 6,[0,1],[0,1,8],rg 0 9,rg 0 10,rg 0 11,rg 0 12])) (Rg [Mv 19 6,Bc 20 .add 19 1,Mv 6 20]))
def aeW:IR:=Rs [Mv 34 5,Mv 4 34] .ret
def ase:IR:=Rs [Bx 2 0,Bx 3 1,Mb 4 false] (Sq (.reg [Fa 7 1 3,Lq 8 7,Ca 9 92 [8],Fa 10 1 2,Lq 11 10,Ca 12 92 [11],Bi 13 .eql 9 12,Mv 5 13] [[],[0],[0,1],[],[3],rg 0 4,rg 0 5,rg 0 6]) (Sq (Rs [Mi 6 0] (.block 0 (.loop [2,3,5,6,1000000] 0 aeV))) aeW))
def ahE:List RV:=[.t 4]
theorem asf:FnC Try.prog ac0 [] 0 ajY Try.f65 ase ahE:=fnC Try.func65
def aqC(R:IR→(Ex→St→Ro)→St→Ro)(again0:St→Ro):Ex→St→Ro:=(bj again0 [2,3,5,6,1000000] 0 (aP 0 (bg (R aeW) (fin ahE))))
abbrev uT:Type:=(aA×aA×Bool×Int)
def sT(x:uT):St:={env:=(.undef::.undef::.ea (enc .atype x.1)::.ea (enc .atype x.2.1)::.undef::.bool x.2.2.1::.int .i64 x.2.2.2::(U 28 [])),hp:=[]}
def aaw(N:Nat):(St→Ro)→St→Ro:=fun again0 s=>run ac0 N aeV (aqC (run ac0 N) again0) s
def uU(N:Nat)(again0:uT→Ro)(x:uT):Ro:=
 let v2:aA:=x.1
 let v3:aA:=x.2.1
 let v5:Bool:=x.2.2.1
 let v6:Int:=x.2.2.2
 let x1:=(↑(List.length v3.aliases):Int)
 cond (decide (v6<x1)) (
  cond v5 (
   let x2:=(IntKind.wrap .i64 (v6+1))
   again0 (v2,v3,true,x2)) (
   chk (ixl v6 v3.aliases) (
    let x3:=List.getD v3.aliases (Int.toNat v6) (aB .str)
    aG (jV x3) (fun(r3:Bs)=>
     aG (jV v2.name) (fun(r4:Bs)=>
      let x4:=(IntKind.wrap .i64 (v6+1))
      again0 (v2,v3,decide (r3=r4),x4)))))) (
  some (.bool v5,[]))
theorem ao2(N:Nat):LB (aaw N) sT (uU N):=fun _ _=>by kernel_rfl
def rL(N:Nat)(p0 p1:aA)(q0:uT→Ro):Ro:=
 aG (jV p1.name) (fun(r1:Bs)=>
  aG (jV p0.name) (fun(r2:Bs)=>
   q0 (p0,p1,decide (r1=r2),0)))
def ahF(N:Nat)(p0 p1:aA):Ro:=rL N p0 p1 (fun z=>aR N (uU N) z)
theorem aqD(N:Nat)(p0 p1:aA)(h:Tot (ahF N p0 p1) (fun z=>∃(y0:Bool)(rest:List aK),z.1.dimR=.bool y0∧z.2=rest∧aey p0 p1 (y0))):∃r,ni p0 p1 r:=asf.finP (N:=N) ((bo _ (by kernel_rfl) rfl (fun C=>rL N p0 p1 (fun z=>C 1000000 (sT z))) (fun C=>by kernel_rfl)).trans (Eq.trans (b:=rL N p0 p1 (fun z=>aX N (aaw N) (sT z))) (by kernel_rfl) (congrArg (rL N p0 p1) (funext fun z=>aW (sT) (aaw N) (uU N) (ao2 N) N z)))) h fun _ ⟨y0,_,e,_,q⟩=>⟨(y0),e,q⟩
noncomputable def aug:aN:=tab (P:=Try.prog) [] [] [] [aal,at2]
def asg:IR:=Rs [Bx 4 0,Bx 5 1,Mb 8 false] (Sq (Rs [Ld 11 1 true 4,Mv 12 2,Ca 13 45 [11,12],Un 14 13,Mv 15 14,Gf 15 (.lde 16 1 true 5),Gf 15 (.mov 17 3),Gf 15 (.call 18 45 [16,17]),Gf 15 (.un 19 .not 18),Po 20 15 19] (Cn 20 (Rs [Mb 8 false] .ret) .skip)) (Sq (.reg [Fa 21 0 4,Lq 22 21,Mv 23 2,Ix 24 .atype 22 23,Ld 25 10 true 24,Fa 26 0 5,Lq 27 26,Mv 28 3,Ix 29 .atype 27 28,Ld 30 10 true 29,Pp (.alr 9 10),Pp (.alr 10 10),Fz 9 10 25,Fz 10 10 30] [[],[0],[],[0,1,2],rg 0 3,[],[5],[],[5,6,7],rg 5 8,[],[],rg 0 4++[10,11],rg 0 12]) (Sq (Rs [Fa 31 0 9,Lq 32 31,Bc 33 .eql 32 14,Mv 34 33,Gf 34 (.fad 35 0 10),Gf 34 (.lde 36 1 false 35),Gf 34 (.bin 37 .eql 36 (kI 14)),Po 38 34 37] (Cn 38 (Rs [Mb 8 false] .ret) .skip)) (Sq (Rs [Fa 39 0 9,Lq 40 39] (.block 0 (Sq (Rs [Bc 42 .eql 40 9,Mv 41 42] (Cn 41 .skip (Rs [Bc 43 .eql 40 10,Mv 41 43] (Cn 41 .skip (Rg [Bc 44 .eql 40 11,Mv 41 44]))))) (Cn 41 (Rs [Fa 45 0 10,Lq 46 45,Fa 47 0 9,Lq 48 47,Bi 49 .eql 46 48,Mv 50 49,Gt 50 (.lde 51 10 true 9),Gt 50 (.lde 52 10 true 10),Gt 50 (.call 53 65 [51,52]),Pa 54 50 53,Mv 55 54,Gt 55 (.fad 56 0 9),Gt 55 (.lde 57 1 false 56),Gt 55 (.bin 58 .neq 57 (kI 11)),Gt 55 (.mov 59 58),Gf 59 (.fad 60 7 9),Gf 59 (.lde 61 1 false 60),Gf 59 (.fad 62 7 10),Gf 59 (.lde 63 1 false 62),Gf 59 (.bin 64 .eql 61 63),Gt 55 (.pick 65 59 (kB true) 64),Pa 66 55 65,Mv 8 66] .ret) (Sq (Rs [Bc 68 .eql 40 3,Mv 67 68] (Cn 67 .skip (Rs [Bc 69 .eql 40 4,Mv 67 69] (Cn 67 .skip (Rg [Bc 70 .eql 40 5,Mv 67 70]))))) (Cn 67 (Rs [Fa 71 0 10,Lq 72 71,Fa 73 0 9,Lq 74 73,Bi 75 .geq 72 74,Mv 76 75,Gt 76 (.fad 77 0 10),Gt 76 (.lde 78 1 false 77),Gt 76 (.bin 79 .leq 78 (kI 6)),Pa 80 76 79,Mv 8 80] .ret) (Sq (Rs [Bc 82 .eql 40 7,Mv 81 82] (Cn 81 .skip (Rg [Bc 83 .eql 40 8,Mv 81 83]))) (Cn 81 (Rs [Fa 84 0 10,Lq 85 84,Fa 86 0 9,Lq 87 86,Bi 88 .eql 85 87,Mv 89 88,Gf 89 (.fad 90 0 9),Gf 89 (.lde 91 1 false 90),Gf 89 (.bin 92 .eql 91 (kI 8)),Gf 89 (.mov 93 92),Gt 93 (.fad 94 0 10),Gt 93 (.lde 95 1 false 94),Gt 93 (.bin 96 .eql 95 (kI 7)),Gf 89 (.pick 97 93 96 (kB false)),Po 98 89 97,Mv 8 98] .ret) .skip)))))))) (Rs [Fa 99 0 9,Lq 100 99,Fa 101 0 10,Lq 102 101,Bi 103 .eql 100 102,Mv 8 103] .ret)))))
def ash:List RV:=[.t 8]
theorem asi:FnC Try.prog aug [] 0 ajX Try.f31 asg ash:=fnC Try.func31
def ahG(N:Nat)(p0_0 p1_0:List aA)(p2 p3:Int):Ro:=
 aG (iv p0_0 p2) (fun(r1:Bool)=>
  cond (!r1) (
   some (.bool false,[])) (
   aG (iv p1_0 p3) (fun(r2:Bool)=>
    cond (!r2) (
     some (.bool false,[])) (
     chk (ixl p2 p0_0) (
      let x1:=(List.getD p0_0 (Int.toNat p2) (aB .atype))
      chk (ixl p3 p1_0) (
       let x2:=(List.getD p1_0 (Int.toNat p3) (aB .atype))
       cond (x1.kind==14) (
        some (.bool false,[])) (
        cond (x2.kind==14) (
         some (.bool false,[])) (
         cond (x1.kind==9) (
          cond (x2.kind==x1.kind) (
           aG (ni x1 x2) (fun(r3:Bool)=>
            cond r3 (
             cond (!(x1.kind==11)) (
              some (.bool true,[])) (
              some (.bool (x1.size==x2.size),[]))) (
             some (.bool false,[])))) (
           some (.bool false,[]))) (
          cond (x1.kind==10) (
           cond (x2.kind==x1.kind) (
            aG (ni x1 x2) (fun(r4:Bool)=>
             cond r4 (
              cond (!(x1.kind==11)) (
               some (.bool true,[])) (
               some (.bool (x1.size==x2.size),[]))) (
              some (.bool false,[])))) (
            some (.bool false,[]))) (
           cond (x1.kind==11) (
            cond (x2.kind==x1.kind) (
             aG (ni x1 x2) (fun(r5:Bool)=>
              cond r5 (
               cond (!(x1.kind==11)) (
                some (.bool true,[])) (
                some (.bool (x1.size==x2.size),[]))) (
               some (.bool false,[])))) (
             some (.bool false,[]))) (
            cond (x1.kind==3) (
             let x3:=decide (x1.kind≤x2.kind)
             cond x3 (
              some (.bool (decide (x2.kind≤6)),[])) (
              some (.bool false,[]))) (
             cond (x1.kind==4) (
              let x4:=decide (x1.kind≤x2.kind)
              cond x4 (
               some (.bool (decide (x2.kind≤6)),[])) (
               some (.bool false,[]))) (
              cond (x1.kind==5) (
               let x5:=decide (x1.kind≤x2.kind)
               cond x5 (
                some (.bool (decide (x2.kind≤6)),[])) (
                some (.bool false,[]))) (
               cond (x1.kind==7) (
                cond (x2.kind==x1.kind) (
                 some (.bool true,[])) (
                 cond (x1.kind==8) (
                  some (.bool (x2.kind==7),[])) (
                  some (.bool false,[])))) (
                cond (x1.kind==8) (
                 cond (x2.kind==x1.kind) (
                  some (.bool true,[])) (
                  cond (x1.kind==8) (
                   some (.bool (x2.kind==7),[])) (
                   some (.bool false,[])))) (
                 some (.bool (x1.kind==x2.kind),[])))))))))))))))))
def ahH(N:Nat)(p0_0 p1_0:List aA)(p2 p3:Int):Ro:=ahG N p0_0 p1_0 p2 p3
theorem aqE(N:Nat)(p0_0 p1_0:List aA)(p2 p3:Int)(h:Tot (ahH N p0_0 p1_0 p2 p3) (fun z=>∃(y0:Bool)(rest:List aK),z.1.dimR=.bool y0∧z.2=rest∧zh p0_0 p1_0 p2 p3 (y0))):∃r,pL p0_0 p1_0 p2 p3 r:=asi.finP (N:=N) (by kernel_rfl) h fun _ ⟨y0,_,e,_,q⟩=>⟨(y0),e,q⟩
noncomputable def gX:aN:=tab (P:=Try.prog) [] [] [] []
def agk:IR:=Sq (Rs [Mv 20 7,Fa 21 8 2,Lq 22 21,Ll 23 22,Bi 24 .lss 20 23] (Cn 24 .skip (.exit 2))) (Sq (.block 3 (Sq (.reg [Fa 27 8 2,Lq 28 27,Mv 29 7,Ix 30 .afield 28 29,Fa 31 0 30,Fo [] [] (.ld 32 1 false false 31),Mv 33 5,Mv 34 6,Ix 35 .str 33 34,Lq 36 35,Bi 37 .eql 32 36] [[],[0],[],[0,1,2],rg 0 3,rg 0 4,[],[],[6,7],[6,7,8],rg 0 9]) (Cn 37 (Rs [Mv 38 7,Mv 4 38] .ret) .skip))) (Rg [Mv 25 7,Bc 26 .add 25 1,Mv 7 26]))
def agl:IR:=Rg [Mv 18 6,Bc 19 .add 18 1,Mv 6 19]
def sU:IR:=Sq (Rs [Mv 14 6,Mv 15 5,Ll 16 15,Bi 17 .lss 14 16] (Cn 17 .skip (.exit 0))) (Sq (.block 1 (Rs [Mi 7 0] (.block 2 (.loop [2,5,6,7,1000000] 0 agk)))) agl)
def zm:IR:=Rs [Mi 4 (-1)] .ret
def auh:IR:=Rs [Bx 2 0,Bx 3 1,Mi 4 0] (Rs [Fa 8 0 3,Lq 9 8,Pp (.bsl 10 .str [9] false),Fa 11 1 3,Lq 12 11,Pp (.app 13 .str (.tk 10) 12),Mv 5 13] (Sq (Rs [Mi 6 0] (.block 0 (.loop [2,5,6,1000001] 0 sU))) zm))
def ac1:List RV:=[.t 4]
theorem aui:FnC Try.prog gX [] 0 al6 Try.f101 auh ac1:=fnC Try.func101
def xg(R:IR→(Ex→St→Ro)→St→Ro)(again0:St→Ro):Ex→St→Ro:=(bj again0 [2,5,6,1000001] 0 (aP 0 (bg (R zm) (fin ac1))))
abbrev iI:Type:=(aA×Bss×Int)
def dF(x:iI):St:={env:=(.undef::.undef::.ea (enc .atype x.1)::.undef::.undef::.sl .str (.may false) x.2.1::.int .i64 x.2.2::(U 32 [])),hp:=[]}
def asj(R:IR→(Ex→St→Ro)→St→Ro)(again0 again1:St→Ro):Ex→St→Ro:=(bj again1 [2,5,6,7,1000000] 0 (aP 2 (aP 1 (bg (R agl) (xg R again0)))))
abbrev xh:Type:=(aA×Bss×Int×Int)
def pX(x:xh):St:={env:=(.undef::.undef::.ea (enc .atype x.1)::.undef::.undef::.sl .str (.may false) x.2.1::.int .i64 x.2.2.1::.int .i64 x.2.2.2::(U 31 [])),hp:=[]}
def xi(N:Nat)(again0:St→Ro):(St→Ro)→St→Ro:=fun again1 s=>run gX N agk (asj (run gX N) again0 again1) s
def rM(N:Nat)(again0:iI→Ro)(again1:xh→Ro)(x:xh):Ro:=
 let v2:aA:=x.1
 let v5:Bss:=x.2.1
 let v6:Int:=x.2.2.1
 let v7:Int:=x.2.2.2
 let x3:=(↑(List.length v2.fields):Int)
 cond (decide (v7<x3)) (
  chk (ixl v7 v2.fields) (
   let x4:=(List.getD v2.fields (Int.toNat v7) (aB .afield))
   chk (ixl v6 v5) (
    let x5:=List.getD v5 (Int.toNat v6) (aB .str)
    cond (decide (x4.name=x5)) (
     some (.int .i64 v7,[])) (
     let x6:=(IntKind.wrap .i64 (v7+1))
     again1 (v2,v5,v6,x6))))) (
  let x7:=(IntKind.wrap .i64 (v6+1))
  again0 (v2,v5,x7))
theorem aqF(N:Nat)(again0:St→Ro):LB (xi N again0) pX (rM N (fun y=>again0 (dF y))):=fun _ _=>by kernel_rfl
def xj(N:Nat):(St→Ro)→St→Ro:=fun again0 s=>run gX N sU (xg (run gX N) again0) s
def uV(N:Nat)(again0:iI→Ro)(q1:xh→Ro)(x:iI):Ro:=
 let v2:aA:=x.1
 let v5:Bss:=x.2.1
 let v6:Int:=x.2.2
 let x2:=(↑(List.length v5):Int)
 cond (decide (v6<x2)) (
  q1 (v2,v5,v6,0)) (
  some (.int .i64 (-1),[]))
def xk(N:Nat)(again0:iI→Ro)(x:iI):Ro:=uV N again0 (fun z=>aR N (rM N again0) z) x
def abM(N:Nat)(again0:St→Ro):List (Nat×(St→Ro)):=(bR gX N sU (xg (run gX N) again0)++(bR gX N zm (fin ac1)++[]))
theorem aqG(N:Nat):∀(again0:St→Ro)(x:iI),xj N again0 (dF x)=xk N (fun y=>again0 (dF y)) x:=by
 intro again0 x
 have hX:∀C:Nat→St→Ro,bY C gX N sU (xg (bY C gX N) again0) (dF x)=uV N (fun y=>again0 (dF y)) (fun z=>C 1000000 (pX z)) x:=by
  intro C
  kernel_rfl
 have h:xj N again0 (dF x)=uV N (fun y=>again0 (dF y)) (fun z=>aX N (xi N again0) (pX z)) x:=(cW (C:=eZ (abM N again0)) (bS (aY (l:=(abM N again0)) (by kernel_rfl))) (jd (cD (fL (bS (dP (aY (l:=(abM N again0)) (by kernel_rfl)))) rfl))) _).trans ((hX _).trans (by kernel_rfl))
 have e1:(fun z=>aX N (xi N again0) (pX z))=(fun z=>aR N (rM N (fun y=>again0 (dF y))) z):=funext fun z=>aW (pX) (xi N again0) (rM N (fun y=>again0 (dF y))) (aqF N again0) N z
 rw[h,e1]
 rfl
def tX(N:Nat)(p0:aA)(p1:aM)(q0:iI→Ro):Ro:=
 chk (decide ((List.length ([p1.name]:Bss)+List.length p1.aliases)*16≤140737488355328)) (
  let x1:=(([p1.name]:Bss)++p1.aliases)
  q0 (p0,x1,0))
def aka(N:Nat)(p0:aA)(p1:aM):Ro:=tX N p0 p1 (fun z=>aR N (xk N) z)
theorem ask(N:Nat)(p0:aA)(p1:aM)(h:Tot (aka N p0 p1) (fun z=>∃(y0:Int)(rest:List aK),z.1.dimR=.int .i64 y0∧z.2=rest∧aaq p0 p1 (y0))):∃r,wl p0 p1 r:=aui.finP (N:=N) ((bo _ (by kernel_rfl) rfl (fun C=>tX N p0 p1 (fun z=>C 1000001 (dF z))) (fun C=>by kernel_rfl)).trans (Eq.trans (b:=tX N p0 p1 (fun z=>aX N (xj N) (dF z))) (by kernel_rfl) (congrArg (tX N p0 p1) (funext fun z=>aW (dF) (xj N) (xk N) (aqG N) N z)))) h fun _ ⟨y0,_,e,_,q⟩=>⟨(y0),e,q⟩
noncomputable def abN:aN:=tab (P:=Try.prog) [] [] [] [ajZ]
def adv:IR:=Sq (Rs [Mv 10 9,Fa 11 0 5,Lq 12 11,Mv 13 3,Ix 14 .atype 12 13,Fa 15 9 14,Lo 16 15,Ll 17 16,Bi 18 .lss 10 17] (Cn 18 .skip (.exit 0))) (Sq (.block 1 (Sq (.reg [Ld 21 1 true 4,Ld 22 1 true 5,Mv 23 2,Fa 24 0 5,Lq 25 24,Mv 26 3,Ix 27 .atype 25 26,Fa 28 9 27,Fo [] [] (.ld 29 1 false false 28),Mv 30 9,Ix 31 (.num .i64) 29 30,Lq 32 31,Ca 33 31 [21,22,23,32]] [[],[],[],[],[3],[],[3,4,5],rg 3 6,rg 3 7,[],rg 3 9,rg 3 10,rg 0 11]) (Cn 33 (Rs [Mv 34 9,Mv 8 34] .ret) .skip))) (Rg [Mv 19 9,Bc 20 .add 19 1,Mv 9 20]))
def adw:IR:=Rs [Mi 8 (-1)] .ret
def aqH:IR:=Rs [Bx 4 0,Bx 5 1,Mi 8 0] (Sq (Rs [Mi 9 0] (.block 0 (.loop [2,3,4,5,9,1000000] 0 adv))) adw)
def agm:List RV:=[.t 8]
theorem aqI:FnC Try.prog abN [] 0 ahv Try.f99 aqH agm:=fnC Try.func99
def ao3(R:IR→(Ex→St→Ro)→St→Ro)(again0:St→Ro):Ex→St→Ro:=(bj again0 [2,3,4,5,9,1000000] 0 (aP 0 (bg (R adw) (fin agm))))
abbrev sV:Type:=(Int×Int×List aA×List aA×Int)
def qR(x:sV):St:={env:=(.undef::.undef::.int .i64 x.1::.int .i64 x.2.1::.ea [.sl .atype (.may false) x.2.2.1]::.ea [.sl .atype (.may false) x.2.2.2.1]::(U 3 (.int .i64 x.2.2.2.2::(U 25 [])))),hp:=[]}
def zn(N:Nat):(St→Ro)→St→Ro:=fun again0 s=>run abN N adv (ao3 (run abN N) again0) s
def sW(N:Nat)(again0:sV→Ro)(x:sV):Ro:=
 let v2:Int:=x.1
 let v3:Int:=x.2.1
 let v4_0:List aA:=x.2.2.1
 let v5_0:List aA:=x.2.2.2.1
 let v9:Int:=x.2.2.2.2
 chk (ixl v3 v5_0) (
  let x1:=(List.getD v5_0 (Int.toNat v3) (aB .atype))
  let x2:=(↑(List.length x1.branches):Int)
  cond (decide (v9<x2)) (
   chk (ixl v3 v5_0) (
    let x3:=(List.getD v5_0 (Int.toNat v3) (aB .atype))
    chk (ixl v9 x3.branches) (
     let x4:=List.getD x3.branches (Int.toNat v9) (aB (.num .i64))
     aG (pL v4_0 v5_0 v2 x4) (fun(r1:Bool)=>
      cond r1 (
       some (.int .i64 v9,[])) (
       let x5:=(IntKind.wrap .i64 (v9+1))
       again0 (v2,v3,v4_0,v5_0,x5)))))) (
   some (.int .i64 (-1),[])))
theorem anB(N:Nat):LB (zn N) qR (sW N):=fun _ _=>by kernel_rfl
def pY(N:Nat)(p0_0 p1_0:List aA)(p2 p3:Int)(q0:sV→Ro):Ro:=
 q0 (p2,p3,p0_0,p1_0,0)
def agn(N:Nat)(p0_0 p1_0:List aA)(p2 p3:Int):Ro:=pY N p0_0 p1_0 p2 p3 (fun z=>aR N (sW N) z)
theorem ao4(N:Nat)(p0_0 p1_0:List aA)(p2 p3:Int)(h:Tot (agn N p0_0 p1_0 p2 p3) (fun z=>∃(y0:Int)(rest:List aK),z.1.dimR=.int .i64 y0∧z.2=rest∧adm p0_0 p1_0 p2 p3 (y0))):∃r,rF p0_0 p1_0 p2 p3 r:=aqI.finP (N:=N) ((bo _ (by kernel_rfl) rfl (fun C=>pY N p0_0 p1_0 p2 p3 (fun z=>C 1000000 (qR z))) (fun C=>by kernel_rfl)).trans (Eq.trans (b:=pY N p0_0 p1_0 p2 p3 (fun z=>aX N (zn N) (qR z))) (by kernel_rfl) (congrArg (pY N p0_0 p1_0 p2 p3) (funext fun z=>aW (qR) (zn N) (sW N) (anB N) N z)))) h fun _ ⟨y0,_,e,_,q⟩=>⟨(y0),e,q⟩
noncomputable def abO:aN:=tab (P:=Try.prog) [] [] [] []
def adx:IR:=Sq (Rs [Mv 6 5,Fa 7 4 2,Lq 8 7,Ll 9 8,Bi 10 .lss 6 9] (Cn 10 .skip (.exit 0))) (Sq (.block 1 (Rs [Fa 13 4 2,Lq 14 13,Mv 15 5,Ix 16 .str 14 15,Lq 17 16,Mv 18 1,Bi 19 .eql 17 18] (Cn 19 (Rs [Mv 20 5,Mv 4 20] .ret) .skip))) (Rg [Mv 11 5,Bc 12 .add 11 1,Mv 5 12]))
def ady:IR:=Rs [Mi 4 (-1)] .ret
def aqJ:IR:=Rs [Bx 2 0,Mi 4 0] (Sq (Rs [Mi 5 0] (.block 0 (.loop [1,2,5,1000000] 0 adx))) ady)
def ago:List RV:=[.t 4]
theorem aqK:FnC Try.prog abO [] 0 ahw Try.f100 aqJ ago:=fnC Try.func100
def ao5(R:IR→(Ex→St→Ro)→St→Ro)(again0:St→Ro):Ex→St→Ro:=(bj again0 [1,2,5,1000000] 0 (aP 0 (bg (R ady) (fin ago))))
abbrev sX:Type:=(Bs×aA×Int)
def qS(x:sX):St:={env:=(.undef::.str x.1::.ea (enc .atype x.2.1)::.undef::.undef::.int .i64 x.2.2::(U 15 [])),hp:=[]}
def zo(N:Nat):(St→Ro)→St→Ro:=fun again0 s=>run abO N adx (ao5 (run abO N) again0) s
def sY(N:Nat)(again0:sX→Ro)(x:sX):Ro:=
 let v1:Bs:=x.1
 let v2:aA:=x.2.1
 let v5:Int:=x.2.2
 let x1:=(↑(List.length v2.syms):Int)
 cond (decide (v5<x1)) (
  chk (ixl v5 v2.syms) (
   let x2:=List.getD v2.syms (Int.toNat v5) (aB .str)
   cond (decide (x2=v1)) (
    some (.int .i64 v5,[])) (
    let x3:=(IntKind.wrap .i64 (v5+1))
    again0 (v1,v2,x3)))) (
  some (.int .i64 (-1),[]))
theorem anC(N:Nat):LB (zo N) qS (sY N):=fun _ _=>by kernel_rfl
def pZ(N:Nat)(p0:aA)(p1:Bs)(q0:sX→Ro):Ro:=
 q0 (p1,p0,0)
def agp(N:Nat)(p0:aA)(p1:Bs):Ro:=pZ N p0 p1 (fun z=>aR N (sY N) z)
theorem ao6(N:Nat)(p0:aA)(p1:Bs)(h:Tot (agp N p0 p1) (fun z=>∃(y0:Int)(rest:List aK),z.1.dimR=.int .i64 y0∧z.2=rest∧adn p0 p1 (y0))):∃r,oH p0 p1 r:=aqK.finP (N:=N) ((bo _ (by kernel_rfl) rfl (fun C=>pZ N p0 p1 (fun z=>C 1000000 (qS z))) (fun C=>by kernel_rfl)).trans (Eq.trans (b:=pZ N p0 p1 (fun z=>aX N (zo N) (qS z))) (by kernel_rfl) (congrArg (pZ N p0 p1) (funext fun z=>aW (qS) (zo N) (sY N) (anC N) N z)))) h fun _ ⟨y0,_,e,_,q⟩=>⟨(y0),e,q⟩
end Go.Proofs.Ytdpajabhmmmjoaa
end
noncomputable section
namespace Go.Proofs.Ytdpajabhmmmjoaa
open Go.AM
set_option autoImplicit false
set_option linter.unusedVariables false
set_option maxRecDepth 100000
noncomputable def ao7:aN:=tab (P:=Try.prog) [] [] [] []
def anD:IR:=Rs [Mi 4 0] (Sq (Sq (.reg [Mv 5 0,Nk 6 5,Fa 7 1 6,Fo [0] [] (.ld 8 1 false false 7),Mv 9 0,Nk 10 9,Fa 11 0 10,Fo [0] [] (.ld 12 1 false false 11),Ll 13 12,Bi 14 .geq 8 13] [[],[0],[0,1],[0,1,2],[],[4],[4,5],[4,5,6],rg 4 7,rg 0 8]) (Cn 14 (Rs [Mi 4 0] .ret) .skip)) (Rs [Mv 15 0,Nk 16 15,Fa 17 1 16,Lo 18 17,Bc 19 .add 18 1,Nk 20 15,Fa 21 1 20,Sv 1 21 19] (Sq (.reg [Mv 22 0,Nk 23 22,Fa 24 0 23,Fo [0] [] (.ld 25 1 false false 24),Mv 26 0,Nk 27 26,Fa 28 1 27,Fo [0] [] (.ld 29 1 false false 28),Bc 30 .sub 29 1,Ix 31 .u8 25 30,Lq 32 31,Pp (.cvi 33 .i64 32),Mv 34 1,Bi 35 .rem 33 34,Mv 4 35] [[],[0],[0,1],[0,1,2],[],[4],[4,5],[4,5,6],rg 4 7,rg 0 8,rg 0 9,rg 0 10,[],rg 0 12,rg 0 13]) .ret)))
def anE:List RV:=[.t 4]
theorem anF:FnC Try.prog ao7 [] 1 aer Try.f60 anD anE:=fnC Try.func60
def adz(N:Nat)(a:Bs)(b c:Int):Ro:=
 let g:=(↑(List.length a):Int)
 let d:=fun h i=>(some (.int .i64 h,[some [.sl .u8 (.may false) a,.int .i64 i]]):Ro)
 cond (decide (g≤b)) (
 d 0 b) (
 let e:=(IntKind.wrap .i64 (b+1))
 let f:=(IntKind.wrap .i64 (e-1))
 chk (ixl f a) (
 let j:=(List.getD a (Int.toNat f) (aB .u8)).toNat
 chk (!(c==0)) (
 let k:=(Int.tmod (IntKind.wrap .i64 j) c)
 d k e)))
def adA(N:Nat)(a:Bs)(b c:Int):Ro:=adz N a b c
theorem aml(N:Nat)(a:Bs)(b i:Int)(h:Tot (adA N a b i) (fun z=>∃(c:Int)(d:Bs)(g:Int)(rest:List aK),z.1.dimR=.int .i64 c∧z.2=some [.sl .u8 (.may false) d,.int .i64 g]::rest∧aa4 a b i (c,d,g))):∃r,aQ a b i r:=FnC.finO (css:=[[.sl .u8 (.may false) a,.int .i64 b]]) anF (N:=N) (by kernel_rfl) h fun _ ⟨c,d,g,_,e,f,q⟩=>⟨(c,d,g),e,⟨_,f⟩,q⟩
noncomputable def anG:aN:=tab (P:=Try.prog) [] [] [] []
def amm:IR:=Rs [Mb 2 false] (Sq (.reg [Mv 3 0,Nk 4 3,Fa 5 1 4,Fo [0] [] (.ld 6 1 false false 5),Mv 7 0,Nk 8 7,Fa 9 0 8,Fo [0] [] (.ld 10 1 false false 9),Ll 11 10,Bi 12 .geq 6 11,Mv 2 12] [[],[0],[0,1],[0,1,2],[],[4],[4,5],[4,5,6],rg 4 7,rg 0 8,rg 0 9]) .ret)
def amn:List RV:=[.t 2]
theorem amo:FnC Try.prog anG [] 1 adf Try.f59 amm amn:=fnC Try.func59
def acD(N:Nat)(a:Bs)(b:Int):Ro:=
 let c:=(↑(List.length a):Int)
 some (.bool (decide (c≤b)),[some [.sl .u8 (.may false) a,.int .i64 b]])
def acE(N:Nat)(a:Bs)(b:Int):Ro:=acD N a b
theorem akS(N:Nat)(a:Bs)(b:Int)(h:Tot (acE N a b) (fun z=>∃(c:Bool)(d:Bs)(g:Int)(rest:List aK),z.1.dimR=.bool c∧z.2=some [.sl .u8 (.may false) d,.int .i64 g]::rest∧aae a b (c,d,g))):∃r,jN a b r:=FnC.finO (css:=[[.sl .u8 (.may false) a,.int .i64 b]]) amo (N:=N) (by kernel_rfl) h fun _ ⟨c,d,g,_,e,f,q⟩=>⟨(c,d,g),e,⟨_,f⟩,q⟩
noncomputable def aoe:aN:=tab (P:=Try.prog) [] [] [] []
def amp:IR:=Rs [Pp (.mov 2 (.c .nilp))] (Rs [Mv 3 0,Pp (.bld 4 [fu .u8 true,vI 0] [(0,1,3)]),Pp (.box 5 4),Mv 2 5] .ret)
def amq:List RV:=[.t 2]
theorem awf:FnC Try.prog aoe [] 0 an1 Try.f14 amp amq:=fnC Try.func14
def amr(N:Nat)(a:Bs):Ro:=
 some (.ptr 0 0,[some [.sl .u8 (.may false) a,.int .i64 0]])
def aeX(N:Nat)(a:Bs):Ro:=amr N a
theorem auj(N:Nat)(a:Bs):nO aoe N 6 amq amp [.sl .u8 (.may false) a] []=aeX N a:=by kernel_rfl
theorem auk(N:Nat)(a:Bs)(h:Tot (aeX N a) (fun z=>∃(b:Bs)(c:Int)(rest:List aK),z=(.ptr 0 0,[some [.sl .u8 (.may false) b,.int .i64 c]])∧ahh a (b,c))):∃r,uk a r:=by
 obtain⟨z,hz,b,c,rest,rfl,hq⟩:=h
 exact⟨(b,c),awf.newFn (auj N a) hz,hq⟩
noncomputable def axK:aN:=tab (P:=Try.prog) [] [] [] []
def awg:IR:=Rs [Pp (.new 2 [vI 0,vI 0,vS,nl .jnode,nl .str])] (Rs [Mv 3 0,Pp (.bld 4 [vI 0,vI 0,vS,nl .jnode,nl .str] [(0,1,kI 4),(2,1,3)]),Sv 5 2 4] .ret)
def awh:List RV:=[.cell 2 5 true]
theorem awi:FnC Try.prog axK [] 0 an2 Try.f86 awg awh:=fnC Try.func86
def ams(N:Nat)(a:Bs):Ro:=
 some (.agg [.int .i64 4,.int .i64 0,.str a,.sl .jnode (.may false) ([]:List aD),.sl .str (.may false) ([]:Bss)],[some [.int .i64 4,.int .i64 0,.str a,.sl .jnode .own ([]:List aD),.sl .str .own ([]:Bss)]])
def amt(N:Nat)(a:Bs):Ro:=ams N a
theorem aul(N:Nat)(g:Bs)(h:Tot (amt N g) (fun z=>∃(a:Int)(b:Int)(c:Bs)(d:List aD)(f:Bss)(rest:List aK),z.1.dimR=.agg [.int .i64 a,.int .i64 b,.str c,.sl .jnode (.may false) d,.sl .str (.may false) f]∧z.2=rest∧ahi g (a,b,c,d,f))):∃r,bk g r:=awi.finP (N:=N) (by kernel_rfl) h fun _ ⟨a,b,c,d,f,_,e,_,q⟩=>⟨(a,b,c,d,f),e,q⟩
noncomputable def amu:aN:=tab (P:=Try.prog) [] [] [] []
def akb:IR:=Rs [Pp (.new 4 [vI 0,vI 0,vS,nl .jnode,nl .str])] (Rs [Mv 5 0,Mv 6 1,Pp (.bld 7 [vI 0,vI 0,vS,nl .jnode,nl .str] [(0,1,kI 6),(4,1,5),(3,1,6)]),Sv 5 4 7] .ret)
def akc:List RV:=[.cell 4 5 true]
theorem aum:FnC Try.prog amu [] 0 alD Try.f118 akb akc:=fnC Try.func118
def akd(N:Nat)(a:Bool)(c:Bss)(b:Bool)(d:List aD):Ro:=
 some (.agg [.int .i64 6,.int .i64 0,.str ([]:Bs),.sl .jnode (.may b) d,.sl .str (.may a) c],[some [.int .i64 6,.int .i64 0,.str ([]:Bs),.sl .jnode (.may b) d,.sl .str (.may a) c]])
def ac2(N:Nat)(a:Bool)(c:Bss)(b:Bool)(d:List aD):Ro:=akd N a c b d
theorem asl(N:Nat)(a:Bool)(c:Bss)(b:Bool)(d:List aD):nO amu N 8 akc akb [.sl .str (.may a) c,.sl .jnode (.may b) d] []=ac2 N a c b d:=by kernel_rfl
theorem asm(N:Nat)(a:Bool)(c:Bss)(b:Bool)(d:List aD)(h:Tot (ac2 N a c b d) (fun z=>∃(e:Int)(f:Int)(g:Bs)(i:Bool)(j:List aD)(k:Bool)(l:Bss)(rest:List aK),z.1=.agg [.int .i64 e,.int .i64 f,.str g,.sl .jnode (.may i) j,.sl .str (.may k) l]∧z.2=rest∧afX a c b d (e,f,g,i,j,k,l))):∃r,eC a c b d r:=by
 obtain⟨⟨v,hp⟩,hz,e,f,g,i,j,k,l,rest,e1,e2,hq⟩:=h
 simp only at e1 e2
 subst e2
 subst e1
 exact⟨(e,f,g,i,j,k,l),aum.pure (asl N a c b d) hz,hq⟩
noncomputable def ai2:aN:=tab (P:=Try.prog) [] [] [] []
def ake:IR:=Sq (Rs [Mv 7 6,Fa 8 4 2,Lq 9 8,Ll 10 9,Bi 11 .lss 7 10] (Cn 11 .skip (.exit 0))) (Sq (.block 1 (Rs [Fa 14 4 2,Lq 15 14,Mv 16 6,Ix 17 .str 15 16,Lq 18 17,Mv 19 1,Bi 20 .eql 18 19] (Cn 20 (Rs [Fa 21 3 2,Lq 22 21,Mv 23 6,Ix 24 .jnode 22 23,Ld 25 5 true 24,Sv 5 4 25,Mb 5 true] .ret) .skip))) (Rg [Mv 12 6,Bc 13 .add 12 1,Mv 6 13]))
def akf:IR:=Rs [Pp (.bld 26 [vI 0,vI 0,vS,nl .jnode,nl .str] []),Sv 5 4 26,Mb 5 false] .ret
def axL:IR:=Rs [Bx 2 0,Pp (.new 4 [vI 0,vI 0,vS,nl .jnode,nl .str]),Mb 5 false] (Sq (Rs [Mi 6 0] (.block 0 (.loop [1,2,4,6,1000000] 1 ake))) akf)
def aof:List RV:=[.cell 4 5 true,.t 5]
theorem axM:FnC Try.prog ai2 [] 0 ap8 Try.f87 axL aof:=fnC Try.func87
def awj(R:IR→(Ex→St→Ro)→St→Ro)(a:St→Ro):Ex→St→Ro:=(bj a [1,2,4,6,1000000] 1 (aP 0 (bg (R akf) (fin aof))))
abbrev aax:Type:=(Bs×Int×Int×Bs×List aD×Bss×Int×Int×Int×Bs×List aD×Bss)
def yP:aax→St:=fun(c,d,e,f,g,h,i,j,k,l,a,b)=>{env:=(.undef::.str c::.ea [.int .i64 d,.int .i64 e,.str f,.sl .jnode (.may false) g,.sl .str (.may false) h]::.undef::.ptr 0 0::.undef::.int .i64 i::(U 20 [])),hp:=[some [.int .i64 j,.int .i64 k,.str l,.sl .jnode .own a,.sl .str .own b]]}
def aeY(N:Nat):(St→Ro)→St→Ro:=fun a s=>run ai2 N ake (awj (run ai2 N) a) s
def aay(N:Nat)(c:aax→Ro):aax→Ro:=fun(p,f,g,h,b,a,e,i,j,k,m,o)=>
 let v:=(↑(List.length a):Int)
 let q:=fun r t u w x y z g7=>(some (.tup [.agg [.int .i64 r,.int .i64 t,.str u,.sl .jnode (.may false) w,.sl .str (.may false) x],.bool y],[some [.int .i64 r,.int .i64 t,.str u,z,g7]]):Ro)
 cond (decide (e<v)) (
 chk (ixl e a) (
 let x2:=List.getD a (Int.toNat e) (aB .str)
 cond (decide (x2=p)) (
 chk (ixl e b) (
 let d:=(List.getD b (Int.toNat e) (aB .jnode))
 q d.kind d.n d.s d.l d.names true (.sl .jnode (.may false) d.l) (.sl .str (.may false) d.names))) (
 let x4:=(IntKind.wrap .i64 (e+1))
 c (p,f,g,h,b,a,x4,i,j,k,m,o)))) (
 q 0 0 ([]:Bs) ([]:List aD) ([]:Bss) false (.sl .jnode .own ([]:List aD)) (.sl .str .own ([]:Bss)))
theorem aun(N:Nat):LB (aeY N) yP (aay N):=fun _ _=>by kernel_rfl
def yq(N:Nat)(a b:Int)(c:Bs)(d:List aD)(e:Bss)(f:Bs)(g:aax→Ro):Ro:=
 g (f,a,b,c,d,e,0,0,0,([]:Bs),([]:List aD),([]:Bss))
def aog(N:Nat)(a b:Int)(c:Bs)(d:List aD)(e:Bss)(f:Bs):Ro:=yq N a b c d e f (fun z=>aR N (aay N) z)
theorem awk(N:Nat)(a c:Int)(d:Bs)(f:List aD)(g:Bss)(i:Bs)(h:Tot (aog N a c d f g i) (fun z=>∃(j:Int)(k:Int)(l:Bs)(m:List aD)(n:Bss)(o:Bool)(rest:List aK),z.1.dimR=.tup [.agg [.int .i64 j,.int .i64 k,.str l,.sl .jnode (.may false) m,.sl .str (.may false) n],.bool o]∧z.2=rest∧yN a c d f g i (j,k,l,m,n,o))):∃r,sK a c d f g i r:=axM.finP (N:=N) ((bo _ (by kernel_rfl) rfl (fun C=>yq N a c d f g i (fun z=>C 1000000 (yP z))) (fun C=>by kernel_rfl)).trans (Eq.trans (b:=yq N a c d f g i (fun z=>aX N (aeY N) (yP z))) (by kernel_rfl) (congrArg (yq N a c d f g i) (funext fun z=>aW (yP) (aeY N) (aay N) (aun N) N z)))) h fun _ ⟨j,k,l,m,n,o,_,e,_,q⟩=>⟨(j,k,l,m,n,o),e,q⟩
noncomputable def ay0:aN:=tab (P:=Try.prog) [] [] [] []
def axN:IR:=Rs [Bx 2 0,Mb 4 false] (Rs [Mv 5 1,Bc 6 .geq 5 0,Mv 7 6,Gt 7 (.mov 8 1),Gt 7 (.fad 9 0 2),Gt 7 (.lde 10 1 false 9),Gt 7 (.lenl 11 10),Gt 7 (.bin 12 .lss 8 11),Pa 13 7 12,Mv 4 13] .ret)
def axO:List RV:=[.t 4]
theorem axP:FnC Try.prog ay0 [] 0 ap9 Try.f45 axN axO:=fnC Try.func45
def aoh(N:Nat)(a:List aA)(b:Int):Ro:=
 cond (decide (0≤b)) (
 let c:=(↑(List.length a):Int)
 some (.bool (decide (b<c)),[])) (
 some (.bool false,[]))
def aoi(N:Nat)(a:List aA)(b:Int):Ro:=aoh N a b
theorem awl(N:Nat)(a:List aA)(c:Int)(h:Tot (aoi N a c) (fun z=>∃(b:Bool)(rest:List aK),z.1.dimR=.bool b∧z.2=rest∧yO a c (b))):∃r,iv a c r:=axP.finP (N:=N) (by kernel_rfl) h fun _ ⟨b,_,e,_,q⟩=>⟨(b),e,q⟩
noncomputable def aeZ:aN:=tab (P:=Try.prog) [] [] [] []
def agq:IR:=Sq (Rs [Mv 6 4,Mv 7 3,Ll 8 7,Bi 9 .lss 6 8] (Cn 9 .skip (.exit 0))) (Sq (.block 1 (Rs [Mv 12 3,Mv 13 4,Ix 14 .str 12 13,Lq 15 14,Mv 16 0,Bi 17 .eql 15 16] (Cn 17 (Rs [Mv 18 4,Bc 19 .add 18 1,Mv 2 19] .ret) .skip))) (Rg [Mv 10 4,Bc 11 .add 10 1,Mv 4 11]))
def agr:IR:=Rs [Mi 2 0] .ret
def auo:IR:=Rs [Mi 2 0] (Rs [Pp (.bsl 5 .str [kS [110,117,108,108],kS [98,111,111,108,101,97,110],kS [105,110,116],kS [108,111,110,103],kS [102,108,111,97,116],kS [100,111,117,98,108,101],kS [98,121,116,101,115],kS [115,116,114,105,110,103],kS [114,101,99,111,114,100],kS [101,110,117,109],kS [102,105,120,101,100],kS [97,114,114,97,121],kS [109,97,112],kS [117,110,105,111,110]] true),Mv 3 5] (Sq (Rs [Mi 4 0] (.block 0 (.loop [0,3,4,1000000] 0 agq))) agr))
def akg:List RV:=[.t 2]
theorem aup:FnC Try.prog aeZ [] 0 alK Try.f115 auo akg:=fnC Try.func115
def asn(R:IR→(Ex→St→Ro)→St→Ro)(a:St→Ro):Ex→St→Ro:=(bj a [0,3,4,1000000] 0 (aP 0 (bg (R agr) (fin akg))))
abbrev xl:Type:=(Bs×Bool×Bss×Int)
def uW:xl→St:=fun(a,b,c,d)=>{env:=(.str a::.undef::.undef::.sl .str (.may b) c::.int .i64 d::(U 15 [])),hp:=[]}
def abP(N:Nat):(St→Ro)→St→Ro:=fun a s=>run aeZ N agq (asn (run aeZ N) a) s
def xm(N:Nat)(a:xl→Ro):xl→Ro:=fun(e,b,d,c)=>
 let f:=(↑(List.length d):Int)
 cond (decide (c<f)) (
 chk (ixl c d) (
 let g:=List.getD d (Int.toNat c) (aB .str)
 cond (decide (g=e)) (
 let h:=(IntKind.wrap .i64 (c+1))
 some (.int .i64 h,[])) (
 let i:=(IntKind.wrap .i64 (c+1))
 a (e,b,d,i)))) (
 some (.int .i64 0,[]))
theorem aqL(N:Nat):LB (abP N) uW (xm N):=fun _ _=>by kernel_rfl
def tY(N:Nat)(a:Bs)(b:xl→Ro):Ro:=
 b (a,true,([([110,117,108,108]:Bs),([98,111,111,108,101,97,110]:Bs),([105,110,116]:Bs),([108,111,110,103]:Bs),([102,108,111,97,116]:Bs),([100,111,117,98,108,101]:Bs),([98,121,116,101,115]:Bs),([115,116,114,105,110,103]:Bs),([114,101,99,111,114,100]:Bs),([101,110,117,109]:Bs),([102,105,120,101,100]:Bs),([97,114,114,97,121]:Bs),([109,97,112]:Bs),([117,110,105,111,110]:Bs)]:Bss),0)
def akh(N:Nat)(a:Bs):Ro:=tY N a (fun z=>aR N (xm N) z)
theorem aso(N:Nat)(a:Bs)(h:Tot (akh N a) (fun z=>∃(c:Int)(rest:List aK),z.1.dimR=.int .i64 c∧z.2=rest∧afY a (c))):∃r,oT a r:=aup.finP (N:=N) ((bo _ (by kernel_rfl) rfl (fun C=>tY N a (fun z=>C 1000000 (uW z))) (fun C=>by kernel_rfl)).trans (Eq.trans (b:=tY N a (fun z=>aX N (abP N) (uW z))) (by kernel_rfl) (congrArg (tY N a) (funext fun z=>aW (uW) (abP N) (xm N) (aqL N) N z)))) h fun _ ⟨c,_,e,_,q⟩=>⟨(c),e,q⟩
noncomputable def awm:aN:=tab (P:=Try.prog) [] [] [] []
def auq:IR:=Rs [Ms 2 []] (Rs [Pp (.bsl 4 .str [kS [],kS [110,117,108,108],kS [98,111,111,108,101,97,110],kS [105,110,116],kS [108,111,110,103],kS [102,108,111,97,116],kS [100,111,117,98,108,101],kS [98,121,116,101,115],kS [115,116,114,105,110,103],kS [114,101,99,111,114,100],kS [101,110,117,109],kS [102,105,120,101,100],kS [97,114,114,97,121],kS [109,97,112],kS [117,110,105,111,110]] true),Mv 3 4] (Sq (Rs [Mv 5 0,Bc 6 .lss 5 1,Mv 7 6,Gf 7 (.mov 8 0),Gf 7 (.bin 9 .gtr 8 (kI 14)),Po 10 7 9] (Cn 10 (Rs [Ms 2 []] .ret) .skip)) (Rs [Mv 11 3,Mv 12 0,Ix 13 .str 11 12,Lq 14 13,Mv 2 14] .ret)))
def aur:List RV:=[.t 2]
theorem aus:FnC Try.prog awm [] 0 alJ Try.f158 auq aur:=fnC Try.func158
def aki(N:Nat)(a:Int):Ro:=
 cond (decide (a<1)) (
 some (.str ([]:Bs),[])) (
 cond (decide (14<a)) (
 some (.str ([]:Bs),[])) (
 chk (ixl a ([([]:Bs),([110,117,108,108]:Bs),([98,111,111,108,101,97,110]:Bs),([105,110,116]:Bs),([108,111,110,103]:Bs),([102,108,111,97,116]:Bs),([100,111,117,98,108,101]:Bs),([98,121,116,101,115]:Bs),([115,116,114,105,110,103]:Bs),([114,101,99,111,114,100]:Bs),([101,110,117,109]:Bs),([102,105,120,101,100]:Bs),([97,114,114,97,121]:Bs),([109,97,112]:Bs),([117,110,105,111,110]:Bs)]:Bss)) (
 let b:=List.getD ([([]:Bs),([110,117,108,108]:Bs),([98,111,111,108,101,97,110]:Bs),([105,110,116]:Bs),([108,111,110,103]:Bs),([102,108,111,97,116]:Bs),([100,111,117,98,108,101]:Bs),([98,121,116,101,115]:Bs),([115,116,114,105,110,103]:Bs),([114,101,99,111,114,100]:Bs),([101,110,117,109]:Bs),([102,105,120,101,100]:Bs),([97,114,114,97,121]:Bs),([109,97,112]:Bs),([117,110,105,111,110]:Bs)]:Bss) (Int.toNat a) (aB .str)
 some (.str b,[]))))
def akj(N:Nat)(a:Int):Ro:=aki N a
theorem asp(N:Nat)(b:Int)(h:Tot (akj N b) (fun z=>∃(a:Bs)(rest:List aK),z.1.dimR=.str a∧z.2=rest)):∃r,vZ b r:=aus.finP0 (N:=N) (by kernel_rfl) h fun _ ⟨a,_,e,_⟩=>⟨(a),e⟩
noncomputable def agK:aN:=tab (P:=Try.prog) [] [] [] []
def ahI:IR:=Sq (Rs [Mv 8 7,Fa 9 3 3,Lo 10 9,Ll 11 10,Bi 12 .lss 8 11,Mv 13 12,Gt 13 (.fad 14 3 3),Gt 13 (.ld 15 1 false false 14),Gt 13 (.mov 16 7),Gt 13 (.ixa 17 .str 15 16),Gt 13 (.lde 18 1 false 17),Gt 13 (.mov 19 1),Gt 13 (.bin 20 .lss 18 19),Pa 21 13 20] (Cn 21 .skip (.exit 0))) (.block 1 (Rg [Mv 22 7,Bc 23 .add 22 1,Mv 7 23]))
def ags:IR:=Sq (Rs [Mv 24 7,Fa 25 3 3,Lo 26 25,Ll 27 26,Bi 28 .lss 24 27,Mv 29 28,Gt 29 (.fad 30 3 3),Gt 29 (.ld 31 1 false false 30),Gt 29 (.mov 32 7),Gt 29 (.ixa 33 .str 31 32),Gt 29 (.lde 34 1 false 33),Gt 29 (.mov 35 1),Gt 29 (.bin 36 .eql 34 35),Pa 37 29 36] (Cn 37 (Rs [Pp (.blu 38 .aval),Fa 39 2 3,Lo 40 39,Pp (.apu 41 .aval (.tk 38) 40),Fa 42 2 3,Sk 1 42 41] (Sq (.gh (.opn (.cell 0 2)) (.ghp (.cls (.cell 0 2)) (Rg [Fa 43 2 3,Lo 44 43,Mv 45 7,Ld 46 5 true 5,Pp (.ixw 47 .aval 44 45),Pp (.stw none 5 47 46)]))) (Sq (.gh (.fz (.cell 0 2)) (Rg [Pp (.ld 48 5 true false 3),Sv 5 6 48])) .ret))) .skip)) (Sq (.reg [Pp (.bsl 49 .str [] false),Fa 50 3 3,Fo [0] [] (.ld 51 1 false false 50),Mv 52 7,Pp (.subl 53 .str 51 none (some 52)),Pp (.app 54 .str (.tk 49) 53),Mv 55 1,Pp (.bsl 56 .str [55] true),Pp (.app 57 .str (.tk 54) 56),Fa 58 3 3,Fo [0] [] (.ld 59 1 false false 58),Mv 60 7,Pp (.subl 61 .str 59 (some 60) none),Pp (.app 62 .str (.tk 57) 61),Fa 63 3 3,Fo [] [0] (.st none 1 63 (.tk 62))] [[],[],[1],[],[1,2,3],rg 0 4,[],[6],rg 0 7,[],[9],[],[9,10,11],rg 0 12,rg 0 13,rg 0 14]) (Sq (.reg [Pp (.blu 64 .aval),Fa 65 2 3,Fo [0] [] (.ld 66 1 false false 65),Mv 67 7,Pp (.subl 68 .aval 66 none (some 67)),Pp (.apu 69 .aval (.tk 64) 68),Ld 70 5 true 5,Pp (.bsl 71 .aval [70] true),Pp (.apu 72 .aval (.tk 69) 71),Fa 73 2 3,Fo [0] [] (.ld 74 1 false false 73),Mv 75 7,Pp (.subl 76 .aval 74 (some 75) none),Pp (.apu 77 .aval (.tk 72) 76),Fa 78 2 3,Fo [] [0] (.st none 1 78 (.tk 77))] [[],[],[1],[],[1,2,3],rg 0 4,[],[6],rg 0 7,[],[9],[],[9,10,11],rg 0 12,rg 0 13,rg 0 14]) (Sq (.gh (.fz (.cell 0 2)) (Rg [Pp (.ld 79 5 true false 3),Sv 5 6 79])) .ret)))
def awn:IR:=Rs [Pp (.box 3 0),Bx 5 2,Pp (.new 6 [vU 0,vS,nl .aval,nl .str,vI 0])] (Rs [Mi 7 0] (Sq (.block 0 (.loop [1,3,5,6,7,1000000] 2 ahI)) ags))
def amv:List RV:=[.cell 6 5 true]
theorem awo:FnC Try.prog agK [] 0 an4 Try.f61 awn amv:=fnC Try.func61
def aut(R:IR→(Ex→St→Ro)→St→Ro)(a:St→Ro):Ex→St→Ro:=(bj a [1,3,5,6,7,1000000] 2 (aP 0 (bg (R ags) (fin amv))))
abbrev yQ:Type:=(Bs×Int×Bs×List aH×Bss×Int×Int×Int×Bs×List aH×Bss×Int×Int×Bs×List aH×Bss×Int)
def xn:yQ→St:=fun(h,i,j,k,l,m,n,o,p,q,a,b,c,d,e,f,g)=>{env:=(.undef::.str h::.undef::.ptr 0 0::.undef::.ea [.int .u64 i,.str j,.sl .aval (.may false) k,.sl .str (.may false) l,.int .i64 m]::.ptr 1 0::.int .i64 n::(U 72 [])),hp:=[some [.int .u64 o,.str p,.sl .aval (.may false) q,.sl .str (.may false) a,.int .i64 b],some [.int .u64 c,.str d,.sl .aval .own e,.sl .str .own f,.int .i64 g]]}
def ac3(N:Nat):(St→Ro)→St→Ro:=fun a s=>run agK N ahI (aut (run agK N) a) s
def yR(N:Nat)(n:yQ→Ro):yQ→Ro:=fun(l,g,h,i,j,k,c,d,e,b,a,f,ag,ah,ai,aj,ak)=>
 let x1:=(↑(List.length a):Int)
 let z0:=fun g0 g1 g2=>(some (.agg [.int .u64 d,.str e,.sl .aval (.may false) g0,.sl .str (.may false) g1,.int .i64 f],g2):Ro)
 cond (decide (c<x1)) (
 chk (ixl c a) (
 let x2:=List.getD a (Int.toNat c) (aB .str)
 cond (Op.bytesLess x2 l) (
 let x3:=(IntKind.wrap .i64 (c+1))
 n (l,g,h,i,j,k,x3,d,e,b,a,f,ag,ah,ai,aj,ak)) (
 let x4:=(↑(List.length a):Int)
 cond (decide (c<x4)) (
 chk (ixl c a) (
 let x5:=List.getD a (Int.toNat c) (aB .str)
 cond (decide (x5=l)) (
 chk (decide ((List.length ([]:List aH)+List.length b)*80≤140737488355328)) (
 let x6:=(([]:List aH)++b)
 chk (decide (0<List.length x6)) (
 chk (decide (0≤c)&&decide (c<↑(List.length x6))) (
 chk (decide ((Int.toNat c)<List.length x6)) (
 let x7:=(List.set x6 (Int.toNat c) ⟨g,h,i,j,k⟩)
 chk (Nat.beq (List.length x6) (List.length x7)) (
 z0 x7 a [some [.int .u64 d,.str e,.sl .aval .own x7,.sl .str (.may false) a,.int .i64 f],some [.int .u64 d,.str e,.sl .aval (.may false) x7,.sl .str (.may false) a,.int .i64 f],none,none])))))) (
 chk (decide (0≤c)&&decide (c≤(↑(List.length a):Int))) (
 let x8:=(List.drop 0 (List.take (Int.toNat c) a))
 chk (decide ((List.length ([]:Bss)+List.length x8)*16≤140737488355328)) (
 let x9:=(([]:Bss)++x8)
 chk (decide ((List.length x9+List.length ([l]:Bss))*16≤140737488355328)) (
 let o:=(x9++([l]:Bss))
 chk (decide (0≤c)&&decide (c≤(↑(List.length a):Int))) (
 let p:=(List.drop (Int.toNat c) (List.take (List.length a) a))
 chk (decide ((List.length o+List.length p)*16≤140737488355328)) (
 chk (decide (0≤c)&&decide (c≤(↑(List.length b):Int))) (
 let am:=(List.drop 0 (List.take (Int.toNat c) b))
 chk (decide ((List.length ([]:List aH)+List.length am)*80≤140737488355328)) (
 let an:=(([]:List aH)++am)
 chk (decide ((List.length an+List.length ([⟨g,h,i,j,k⟩]:List aH))*80≤140737488355328)) (
 let q:=(an++([⟨g,h,i,j,k⟩]:List aH))
 chk (decide (0≤c)&&decide (c≤(↑(List.length b):Int))) (
 let r:=(List.drop (Int.toNat c) (List.take (List.length b) b))
 chk (decide ((List.length q+List.length r)*80≤140737488355328)) (
 z0 (q++r) (o++p) [some [.int .u64 d,.str e,.sl .aval .own (q++r),.sl .str .own (o++p),.int .i64 f],some [.int .u64 d,.str e,.sl .aval (.may false) (q++r),.sl .str (.may false) (o++p),.int .i64 f]]))))))))))))) (
 chk (decide (0≤c)&&decide (c≤(↑(List.length a):Int))) (
 let ao:=(List.drop 0 (List.take (Int.toNat c) a))
 chk (decide ((List.length ([]:Bss)+List.length ao)*16≤140737488355328)) (
 let ap:=(([]:Bss)++ao)
 chk (decide ((List.length ap+List.length ([l]:Bss))*16≤140737488355328)) (
 let s:=(ap++([l]:Bss))
 chk (decide (0≤c)&&decide (c≤(↑(List.length a):Int))) (
 let t:=(List.drop (Int.toNat c) (List.take (List.length a) a))
 chk (decide ((List.length s+List.length t)*16≤140737488355328)) (
 chk (decide (0≤c)&&decide (c≤(↑(List.length b):Int))) (
 let aq:=(List.drop 0 (List.take (Int.toNat c) b))
 chk (decide ((List.length ([]:List aH)+List.length aq)*80≤140737488355328)) (
 let ar:=(([]:List aH)++aq)
 chk (decide ((List.length ar+List.length ([⟨g,h,i,j,k⟩]:List aH))*80≤140737488355328)) (
 let u:=(ar++([⟨g,h,i,j,k⟩]:List aH))
 chk (decide (0≤c)&&decide (c≤(↑(List.length b):Int))) (
 let v:=(List.drop (Int.toNat c) (List.take (List.length b) b))
 chk (decide ((List.length u+List.length v)*80≤140737488355328)) (
 z0 (u++v) (s++t) [some [.int .u64 d,.str e,.sl .aval .own (u++v),.sl .str .own (s++t),.int .i64 f],some [.int .u64 d,.str e,.sl .aval (.may false) (u++v),.sl .str (.may false) (s++t),.int .i64 f]])))))))))))))) (
 let a3:=(↑(List.length a):Int)
 cond (decide (c<a3)) (
 chk (ixl c a) (
 let a4:=List.getD a (Int.toNat c) (aB .str)
 cond (decide (a4=l)) (
 chk (decide ((List.length ([]:List aH)+List.length b)*80≤140737488355328)) (
 let m:=(([]:List aH)++b)
 chk (decide (0<List.length m)) (
 chk (decide (0≤c)&&decide (c<↑(List.length m))) (
 chk (decide ((Int.toNat c)<List.length m)) (
 let w:=(List.set m (Int.toNat c) ⟨g,h,i,j,k⟩)
 chk (Nat.beq (List.length m) (List.length w)) (
 z0 w a [some [.int .u64 d,.str e,.sl .aval .own w,.sl .str (.may false) a,.int .i64 f],some [.int .u64 d,.str e,.sl .aval (.may false) w,.sl .str (.may false) a,.int .i64 f],none,none])))))) (
 chk (decide (0≤c)&&decide (c≤(↑(List.length a):Int))) (
 let au:=(List.drop 0 (List.take (Int.toNat c) a))
 chk (decide ((List.length ([]:Bss)+List.length au)*16≤140737488355328)) (
 let av:=(([]:Bss)++au)
 chk (decide ((List.length av+List.length ([l]:Bss))*16≤140737488355328)) (
 let x:=(av++([l]:Bss))
 chk (decide (0≤c)&&decide (c≤(↑(List.length a):Int))) (
 let y:=(List.drop (Int.toNat c) (List.take (List.length a) a))
 chk (decide ((List.length x+List.length y)*16≤140737488355328)) (
 chk (decide (0≤c)&&decide (c≤(↑(List.length b):Int))) (
 let aw:=(List.drop 0 (List.take (Int.toNat c) b))
 chk (decide ((List.length ([]:List aH)+List.length aw)*80≤140737488355328)) (
 let ax:=(([]:List aH)++aw)
 chk (decide ((List.length ax+List.length ([⟨g,h,i,j,k⟩]:List aH))*80≤140737488355328)) (
 let z:=(ax++([⟨g,h,i,j,k⟩]:List aH))
 chk (decide (0≤c)&&decide (c≤(↑(List.length b):Int))) (
 let aa:=(List.drop (Int.toNat c) (List.take (List.length b) b))
 chk (decide ((List.length z+List.length aa)*80≤140737488355328)) (
 z0 (z++aa) (x++y) [some [.int .u64 d,.str e,.sl .aval .own (z++aa),.sl .str .own (x++y),.int .i64 f],some [.int .u64 d,.str e,.sl .aval (.may false) (z++aa),.sl .str (.may false) (x++y),.int .i64 f]]))))))))))))) (
 chk (decide (0≤c)&&decide (c≤(↑(List.length a):Int))) (
 let ay:=(List.drop 0 (List.take (Int.toNat c) a))
 chk (decide ((List.length ([]:Bss)+List.length ay)*16≤140737488355328)) (
 let az:=(([]:Bss)++ay)
 chk (decide ((List.length az+List.length ([l]:Bss))*16≤140737488355328)) (
 let ab:=(az++([l]:Bss))
 chk (decide (0≤c)&&decide (c≤(↑(List.length a):Int))) (
 let ac:=(List.drop (Int.toNat c) (List.take (List.length a) a))
 chk (decide ((List.length ab+List.length ac)*16≤140737488355328)) (
 chk (decide (0≤c)&&decide (c≤(↑(List.length b):Int))) (
 let a0:=(List.drop 0 (List.take (Int.toNat c) b))
 chk (decide ((List.length ([]:List aH)+List.length a0)*80≤140737488355328)) (
 let a1:=(([]:List aH)++a0)
 chk (decide ((List.length a1+List.length ([⟨g,h,i,j,k⟩]:List aH))*80≤140737488355328)) (
 let ad:=(a1++([⟨g,h,i,j,k⟩]:List aH))
 chk (decide (0≤c)&&decide (c≤(↑(List.length b):Int))) (
 let ae:=(List.drop (Int.toNat c) (List.take (List.length b) b))
 chk (decide ((List.length ad+List.length ae)*80≤140737488355328)) (
 z0 (ad++ae) (ab++ac) [some [.int .u64 d,.str e,.sl .aval .own (ad++ae),.sl .str .own (ab++ac),.int .i64 f],some [.int .u64 d,.str e,.sl .aval (.may false) (ad++ae),.sl .str (.may false) (ab++ac),.int .i64 f]]))))))))))))
theorem asq(N:Nat):LB (ac3 N) xn (yR N):=fun _ _=>by kernel_rfl
def wv(N:Nat)(a:Int)(b:Bs)(c:List aH)(d:Bss)(e:Int)(k:Bs)(f:Int)(g:Bs)(h:List aH)(i:Bss)(j:Int)(l:yQ→Ro):Ro:=
 l (k,f,g,h,i,j,0,a,b,c,d,e,0,([]:Bs),([]:List aH),([]:Bss),0)
def amw(N:Nat)(a:Int)(b:Bs)(c:List aH)(d:Bss)(e:Int)(k:Bs)(f:Int)(g:Bs)(h:List aH)(i:Bss)(j:Int):Ro:=wv N a b c d e k f g h i j (fun z=>aR N (yR N) z)
theorem auu(N:Nat)(a:Int)(c:Bs)(d:List aH)(f:Bss)(g:Int)(n:Bs)(i:Int)(j:Bs)(k:List aH)(l:Bss)(m:Int)(h:Tot (amw N a c d f g n i j k l m) (fun z=>∃(o:Int)(p:Bs)(s:List aH)(t:Bss)(u:Int)(rest:List aK),z.1.dimR=.agg [.int .u64 o,.str p,.sl .aval (.may false) s,.sl .str (.may false) t,.int .i64 u]∧z.2=rest∧ahj a c d f g n i j k l m (o,p,s,t,u))):∃r,lw a c d f g n i j k l m r:=awo.finP (N:=N) ((bo _ (by kernel_rfl) rfl (fun C=>wv N a c d f g n i j k l m (fun z=>C 1000000 (xn z))) (fun C=>by kernel_rfl)).trans (Eq.trans (b:=wv N a c d f g n i j k l m (fun z=>aX N (ac3 N) (xn z))) (by kernel_rfl) (congrArg (wv N a c d f g n i j k l m) (funext fun z=>aW (xn) (ac3 N) (yR N) (asq N) N z)))) h fun _ ⟨o,p,s,t,u,_,e,_,q⟩=>⟨(o,p,s,t,u),e,q⟩
noncomputable def amx:aN:=tab (P:=Try.prog) [] [] [] []
def akT:IR:=Rs [Mi 4 0] (Sq (Rs [Mv 5 0,Nk 6 5,Fa 7 1 6,Lo 8 7,Bc 9 .eql 8 0] (Cn 9 (Rg [Mv 10 0,Mv 11 1,Nk 12 10,Fa 13 1 12,Sv 1 13 11]) .skip)) (Rs [Mi 4 0] .ret))
def akU:List RV:=[.t 4]
theorem akV:FnC Try.prog amx [] 1 aci Try.f110 akT akU:=fnC Try.func110
def abi(N:Nat)(b:List aA)(a d:Int):Ro:=
 let c:=fun e=>(some (.int .i64 0,[some [.ul .atype b,.int .i64 e]]):Ro)
 cond (a==0) (
 c d) (
 c a)
def abj(N:Nat)(a:List aA)(b c:Int):Ro:=abi N a b c
theorem ai3(N:Nat)(a:List aA)(b i:Int)(h:Tot (abj N a b i) (fun z=>∃(c:Int)(d:List aA)(g:Int)(rest:List aK),z.1.dimR=.int .i64 c∧z.2=some [.ul .atype d,.int .i64 g]::rest∧mB a b i (c,d,g))):∃r,aL a b i r:=FnC.finO (css:=[[.ul .atype a,.int .i64 b]]) akV (N:=N) (by kernel_rfl) h fun _ ⟨c,d,g,_,e,f,q⟩=>⟨(c,d,g),e,⟨_,f⟩,q⟩
noncomputable def anH:aN:=tab (P:=Try.prog) [] [dz] [] []
def amy:IR:=Rs [Bx 3 1,Mi 4 0] (Sq (Rs [Mv 5 0,Nk 6 5,Fa 7 0 6,Fa 8 0 7,Lo 9 8,Pp (.lnw 10 9),Bc 11 .geq 10 60] (Cn 11 (Rs [Mv 12 0,Ca 13 110 [12,kI 3],Mv 4 13] .ret) .skip)) (Sq (.reg [Mv 14 0,Mv 15 0,Nk 16 15,Fa 17 0 16,Fa 18 0 17,Fo [] [0] (.ld 19 1 false true 18),Ld 20 10 true 3,Pp (.bsl 21 .atype [20] true),Pp (.apu 22 .atype (.tk 19) 21),Nk 23 14,Fa 24 0 23,Fa 25 0 24,Fo [] [0] (.st none 1 25 (.tk 22))] [[],[],[1],[1,2],[1,2,3],rg 1 4,[],[6],rg 1 7,rg 0 8,rg 0 9,rg 0 10,rg 0 11]) (Rs [Mv 26 0,Nk 27 26,Fa 28 0 27,Fa 29 0 28,Lo 30 29,Pp (.lnw 31 30),Bc 32 .sub 31 1,Mv 4 32] .ret)))
def amz:List RV:=[.t 4]
theorem amA:FnC Try.prog anH [110,2000110] 1 adh Try.f116 amy amz:=fnC Try.func116
def acF(N:Nat)(a:List aA)(b c:Int)(d:Bs)(e:Bss)(f:Int)(g:Bss)(h:Bool)(i:Bs)(j:Int)(k:List aM)(l:List Int):Ro:=
 let o:=(↑(List.length a):Int)
 cond (decide (60≤o)) (
 aG (aL a b 3) (fun m=>
 some (.int .i64 m.1,[some [.ul .atype m.2.1,.int .i64 m.2.2]]))) (
 chk (decide ((List.length a+List.length ([⟨c,d,e,f,g,h,i,j,k,l⟩]:List aA))*160≤140737488355328)) (
 let n:=(a++([⟨c,d,e,f,g,h,i,j,k,l⟩]:List aA))
 let p:=(↑(List.length n):Int)
 let q:=(IntKind.wrap .i64 (p-1))
 some (.int .i64 q,[some [.ul .atype n,.int .i64 b]])))
def acG(N:Nat)(a:List aA)(b c:Int)(d:Bs)(e:Bss)(f:Int)(g:Bss)(h:Bool)(i:Bs)(j:Int)(k:List aM)(l:List Int):Ro:=acF N a b c d e f g h i j k l
theorem akW(N:Nat)(a:List aA)(b c:Int)(d:Bs)(g:Bss)(i:Int)(j:Bss)(k:Bool)(l:Bs)(m:Int)(n:List aM)(o:List Int)(h:Tot (acG N a b c d g i j k l m n o) (fun z=>∃(p:Int)(s:List aA)(t:Int)(rest:List aK),z.1.dimR=.int .i64 p∧z.2=some [.ul .atype s,.int .i64 t]::rest∧nR a b c d g i j k l m n o (p,s,t))):∃r,fB a b c d g i j k l m n o r:=FnC.finO (css:=[[.ul .atype a,.int .i64 b]]) amA (N:=N) (by kernel_rfl) h fun _ ⟨p,s,t,_,e,f,q⟩=>⟨(p,s,t),e,⟨_,f⟩,q⟩
noncomputable def ww:aN:=tab (P:=Try.prog) [] [] [] []
def zL:IR:=Sq (Rs [Mv 8 6,Mv 9 0,Nk 10 9,Fa 11 0 10,Fa 12 0 11,Lo 13 12,Pp (.lnw 14 13),Bi 15 .lss 8 14] (Cn 15 .skip (.exit 0))) (Sq (.block 1 (Sq (.gh (.opn (.cell 0 0)) (.ghp (.cls (.cell 0 0)) (Rg [Mv 18 0,Nk 19 18,Fa 20 0 19,Fa 21 0 20,Lo 22 21,Mv 23 6,Pp (.ixw 24 .atype 22 23),Pp (.ldw 25 10 true 24),Pp (.alr 7 10),Fz 7 10 25]))) (Rs [Fa 26 1 7,Lq 27 26,Mv 28 1,Bi 29 .eql 27 28,Mv 30 29,Gt 30 (.fad 31 0 7),Gt 30 (.lde 32 1 false 31),Gt 30 (.bin 33 .geq 32 (kI 9)),Pa 34 30 33,Mv 35 34,Gt 35 (.fad 36 0 7),Gt 35 (.lde 37 1 false 36),Gt 35 (.bin 38 .leq 37 (kI 11)),Pa 39 35 38] (Cn 39 (Rs [Mv 40 6,Mv 4 40,Mb 5 true] .ret) .skip)))) (Rg [Mv 16 6,Bc 17 .add 16 1,Mv 6 17]))
def zM:IR:=Rs [Mi 4 0,Mb 5 false] .ret
def akX:IR:=Rs [Mi 4 0,Mb 5 false] (Sq (Rs [Mi 6 0] (.block 0 (.loop [0,1,6,1000000] 1 zL))) zM)
def abk:List RV:=[.t 4,.t 5]
theorem akY:FnC Try.prog ww [] 1 acj Try.f138 akX abk:=fnC Try.func138
def ai4(R:IR→(Ex→St→Ro)→St→Ro)(a:St→Ro):Ex→St→Ro:=(bj a [0,1,6,1000000] 1 (aP 0 (bg (R zM) (fin abk))))
abbrev nZ:Type:=(Bs×Int×List aA×Int)
def mD:nZ→St:=fun(a,b,c,d)=>{env:=(.ptr 0 0::.str a::(U 4 (.int .i64 b::(U 34 [])))),hp:=[some [.ul .atype c,.int .i64 d]]}
def sZ(N:Nat):(St→Ro)→St→Ro:=fun a s=>run ww N zL (ai4 (run ww N) a) s
def n7(N:Nat)(b:nZ→Ro):nZ→Ro:=fun(e,d,a,c)=>
 let g:=(↑(List.length a):Int)
 cond (decide (d<g)) (
 chk (decide (0<List.length a)) (
 chk (decide (0≤d)&&decide (d<↑(List.length a))) (
 chk (decide ((Int.toNat d)<List.length a)) (
 let f:=(List.getD a (Int.toNat d) (aB .atype))
 chk (Nat.beq (List.length a) (List.length a)) (
 cond (decide (f.name=e)) (
 cond (decide (9≤f.kind)) (
 cond (decide (f.kind≤11)) (
 some (.tup [.int .i64 d,.bool true],[some [.ul .atype a,.int .i64 c],none,none])) (
 let h:=(IntKind.wrap .i64 (d+1))
 b (e,h,a,c))) (
 let i:=(IntKind.wrap .i64 (d+1))
 b (e,i,a,c))) (
 let j:=(IntKind.wrap .i64 (d+1))
 b (e,j,a,c))))))) (
 some (.tup [.int .i64 0,.bool false],[some [.ul .atype a,.int .i64 c]]))
theorem ahJ(N:Nat):LB (sZ N) mD (n7 N):=fun _ _=>by kernel_rfl
def kR(N:Nat)(a:List aA)(b:Int)(c:Bs)(d:nZ→Ro):Ro:=
 d (c,0,a,b)
def abl(N:Nat)(a:List aA)(b:Int)(c:Bs):Ro:=kR N a b c (fun z=>aR N (n7 N) z)
theorem ai5(N:Nat)(a:List aA)(c:Int)(d:Bs)(h:Tot (abl N a c d) (fun z=>∃(g:Int)(i:Bool)(j:List aA)(k:Int)(rest:List aK),z.1.dimR=.tup [.int .i64 g,.bool i]∧z.2=some [.ul .atype j,.int .i64 k]::rest∧zE a c d (g,i,j,k))):∃r,dA a c d r:=FnC.finO (css:=[[.ul .atype a,.int .i64 c]]) akY (N:=N) ((bo _ (by kernel_rfl) rfl (fun C=>kR N a c d (fun z=>C 1000000 (mD z))) (fun C=>by kernel_rfl)).trans (Eq.trans (b:=kR N a c d (fun z=>aX N (sZ N) (mD z))) (by kernel_rfl) (congrArg (kR N a c d) (funext fun z=>aW (mD) (sZ N) (n7 N) (ahJ N) N z)))) h fun _ ⟨g,i,j,k,_,e,f,q⟩=>⟨(g,i,j,k),e,⟨_,f⟩,q⟩
noncomputable def akZ:aN:=tab (P:=Try.prog) [] [abb] [] []
def ai6:IR:=Rs [Pp (.new 2 [vI 0,vI 0,vS,nl .jnode,nl .str])] (Rs [Pp (.bsl 4 .str [kS [84,111,112]] false),Pp (.new 3 [nl .str]),Sk 1 3 4] (Rs [Mv 5 0,Ca 6 73 [5,kS [84,111,112],kI 0,3],Sv 5 2 6] .ret))
def ai7:List RV:=[.cell 2 5 true]
theorem ai8:FnC Try.prog akZ [73,2000073] 1 aa5 Try.f40 ai6 ai7:=fnC Try.func40
def aaz(N:Nat)(b:Bs)(c:Int):Ro:=
 aG (gS b c ([([84,111,112]:Bs)]:Bss) ([84,111,112]:Bs) 0) (fun a=>
 some (.agg [.int .i64 a.1,.int .i64 a.2.1,.str a.2.2.1,.sl .jnode (.may false) a.2.2.2.1,.sl .str (.may false) a.2.2.2.2.1],[some [.sl .u8 (.may false) a.2.2.2.2.2.1,.int .i64 a.2.2.2.2.2.2.1],some [.int .i64 a.1,.int .i64 a.2.1,.str a.2.2.1,.sl .jnode (.may false) a.2.2.2.1,.sl .str (.may false) a.2.2.2.2.1],some [.sl .str .own a.2.2.2.2.2.2.2]]))
def aaA(N:Nat)(a:Bs)(b:Int):Ro:=aaz N a b
theorem ahK(N:Nat)(a:Bs)(b:Int)(h:Tot (aaA N a b) (fun z=>∃(c:Int)(d:Int)(g:Bs)(i:List aD)(j:Bss)(k:Bs)(l:Int)(rest:List aK),z.1.dimR=.agg [.int .i64 c,.int .i64 d,.str g,.sl .jnode (.may false) i,.sl .str (.may false) j]∧z.2=some [.sl .u8 (.may false) k,.int .i64 l]::rest∧yg a b (c,d,g,i,j,k,l))):∃r,kJ a b r:=FnC.finO (css:=[[.sl .u8 (.may false) a,.int .i64 b]]) ai8 (N:=N) (by kernel_rfl) h fun _ ⟨c,d,g,i,j,k,l,_,e,f,q⟩=>⟨(c,d,g,i,j,k,l),e,⟨_,f⟩,q⟩
end Go.Proofs.Ytdpajabhmmmjoaa
end
noncomputable section
namespace Go.Proofs.Ytdpajabhmmmjoaa
open Go.AM
set_option autoImplicit false
set_option linter.unusedVariables false
set_option linter.unusedSimpArgs false
set_option maxRecDepth 100000
theorem awp(l:List UInt8)(n m:Int)(h:eA l n)(hm:0<m):∃r,aQ l n m r:=by
 obtain⟨h1,h2,h3⟩:=h
 apply aml 1
 unfold adA adz
 dsimp only
 repeat' (first|(with_reducible refine aC ?_ ?_<;>(intro hb;(try simp only[bnl] at hb);(try revert hb;intro _)))|with_reducible refine aJ ?_ ?_|with_reducible refine aF ?_|fail)
 ·exact⟨_,_,_,_,rfl,rfl,by simp,by simpa using hm,rfl,h1,h2,h3⟩
 ·simp(disch:=omega) only[kd,bnl]
 ·simp only[bnl];omega
 ·refine⟨_,_,_,_,rfl,rfl,?_,?_,rfl,?_,?_,h3⟩
  ·simp only
   have:=UInt8.toNat_lt (l.getD (IntKind.i64.wrap (IntKind.i64.wrap (n+1)-1)).toNat (aB .u8))
   rw[aI _ (by omega)]
   exact Int.tmod_nonneg _ (by omega)
  ·simp only
   exact Int.tmod_lt_of_pos _ hm
  ·simp only;rw[aI _ (by omega)];omega
  ·simp only;rw[aI _ (by omega)];omega
theorem db(l:List UInt8)(n m:Int)(h:eA l n)(hm:0<m)(hm2:m≤1000):∃r,aQ l n m r:=awp l n m h hm
theorem awq(l:List UInt8)(n:Int):∃r,jN l n r:=by
 apply akS 1
 unfold acE acD
 dsimp only
 repeat' (first|(with_reducible refine aC ?_ ?_<;>(intro hb;(try simp only[bnl] at hb);(try revert hb;intro _)))|with_reducible refine aJ ?_ ?_|with_reducible refine aF ?_|fail)
 exact⟨_,_,_,_,rfl,rfl,rfl,rfl⟩
theorem awr(l:List UInt8):∃r,uk l r:=by
 apply auk 1
 unfold aeX amr
 repeat' (first|(with_reducible refine aC ?_ ?_<;>(intro hb;(try simp only[bnl] at hb);(try revert hb;intro _)))|with_reducible refine aJ ?_ ?_|with_reducible refine aF ?_|fail)
 exact⟨_,_,[],rfl,rfl⟩
theorem cC(s:List UInt8):∃r,bk s r:=by
 apply aul 1
 unfold amt ams
 repeat' (first|(with_reducible refine aC ?_ ?_<;>(intro hb;(try simp only[bnl] at hb);(try revert hb;intro _)))|with_reducible refine aJ ?_ ?_|with_reducible refine aF ?_|fail)
 exact⟨_,_,_,_,_,_,rfl,rfl,rfl⟩
theorem wz(f0:Bool)(names:List (List UInt8))(f1:Bool)(l:List aD):∃r,eC f0 names f1 l r:=by
 apply asm 1
 unfold ac2 akd
 repeat' (first|(with_reducible refine aC ?_ ?_<;>(intro hb;(try simp only[bnl] at hb);(try revert hb;intro _)))|with_reducible refine aJ ?_ ?_|with_reducible refine aF ?_|fail)
 exact⟨_,_,_,_,_,_,_,_,rfl,rfl,rfl⟩
theorem asr:∀(names:List (List UInt8))(l:List aD)(name:List UInt8)(i:Nat),(∀j,j<i→names.getD j []≠name)→oR names l name=oR (names.drop i) (l.drop i) name
 |names,l,name,0,_=>rfl
 | [],l,name,i+1,h=>by simp[oR]
 |x::ns,[],name,i+1,h=>by
  have:∀ns:List (List UInt8),oR ns [] name=none:=fun ns=>by cases ns<;>rfl
  simp[oR,this]
 |x::ns,c::l,name,i+1,h=>by
  have h0:=h 0 (by omega)
  simp only[List.getD_cons_zero] at h0
  simp only[oR,if_neg h0,List.drop_succ_cons]
  exact asr ns l name i fun j hj=>by simpa using h (j+1) (by omega)
theorem aws{names:List (List UInt8)}{l:List aD}{name:List UInt8}{i:Nat}(h1:i<names.length)(h2:i<l.length)(h:∀j,j<i→names.getD j []≠name)(he:names.getD i []=name):
  oR names l name=some (l.getD i (aB .jnode)):=by
 rw[asr names l name i h,List.drop_eq_getElem_cons h1,List.drop_eq_getElem_cons h2]
 simp only[oR]
 rw[List.getD_eq_getElem?_getD,List.getElem?_eq_getElem h1,Option.getD_some] at he
 rw[if_pos he,List.getD_eq_getElem?_getD,List.getElem?_eq_getElem h2,Option.getD_some]
theorem amB{names:List (List UInt8)}{l:List aD}{name:List UInt8}{i:Nat}(h:∀j,j<i→names.getD j []≠name)(hi:names.length≤i∨l.length≤i):oR names l name=none:=by
 rw[asr names l name i h]
 rcases hi with hi|hi
 ·rw[List.drop_eq_nil_of_le hi];rfl
 ·rw[List.drop_of_length_le (l:=l) hi]
  cases names.drop i<;>rfl
theorem ass(k n:Int)(s:List UInt8)(l:List aD)(names:List (List UInt8))(name:List UInt8)(h:names.length≤l.length)(hl:names.length≤1000):∃r,sK k n s l names name r:=by
 apply awk 2000
 unfold aog yq
 refine aU (fun x=>x.1=name∧x.2.2.2.2.1=l∧x.2.2.2.2.2.1=names∧0≤x.2.2.2.2.2.2.1∧x.2.2.2.2.2.2.1≤(names.length:Int)∧∀j:Nat,(j:Int)<x.2.2.2.2.2.2.1→names.getD j []≠name)
  (fun x=>((names.length:Int)-x.2.2.2.2.2.2.1).toNat) ?_ _ _ ⟨rfl,rfl,rfl,by simp,by simp,fun j hj=>by simp at hj;omega⟩ (by simp;omega)
 rintro again ⟨a0,a1,a2,a3,a4,a5,i,b0,b1,b2,b3,b4⟩ ⟨rfl,rfl,rfl,i1,i2,i3⟩ ih
 simp only at i1 i2 i3 ih h hl ⊢
 unfold aay
 dsimp only
 repeat' (first|(with_reducible refine aC ?_ ?_<;>(intro hb;(try simp only[bnl] at hb);(try revert hb;intro _)))|with_reducible refine aJ ?_ ?_|with_reducible refine aF ?_|fail)
 ·simp only[bnl];omega
 ·simp only[bnl];omega
 ·rename_i hb hb2
  have e:=aws (names:=a5) (l:=a4) (name:=a0) (i:=i.toNat) (by omega) (by omega) (fun j hj=>i3 j (by omega)) hb2
  refine⟨_,_,_,_,_,_,_,rfl,rfl,?_⟩
  simp only[yN]
  rw[e];rfl
 ·rename_i hb hb2
  have ew:=aI (i+1) (by omega)
  refine ih _ ⟨rfl,rfl,rfl,?_,?_,?_⟩ ?_
  ·simp only[ew];omega
  ·simp only[ew];omega
  ·simp only[ew]
   intro j hj
   by_cases e:(j:Int)=i
   ·have:i.toNat=j:=by omega
    rw[this] at hb2
    exact hb2
   ·exact i3 j (by omega)
  ·simp only[ew];omega
 ·rename_i hb
  refine⟨_,_,_,_,_,_,_,rfl,rfl,?_⟩
  simp only[yN]
  rw[amB (i:=i.toNat) (fun j hj=>i3 j (by omega)) (.inl (by omega))]
  rfl
theorem cZ(ts:List aA)(e c:Int):∃r,aL ts e c r:=by
 apply ai3 1
 unfold abj abi
 dsimp only
 repeat' (first|(with_reducible refine aC ?_ ?_<;>(intro hb;(try simp only[bnl] at hb);(try revert hb;intro _)))|with_reducible refine aJ ?_ ?_|with_reducible refine aF ?_|fail)
 ·rename_i hb;exact⟨_,_,_,_,rfl,rfl,by simp[mB,hb]⟩
 ·rename_i hb;exact⟨_,_,_,_,rfl,rfl,by simp[mB,hb]⟩
end Go.Proofs.Ytdpajabhmmmjoaa
end
noncomputable section
namespace Go.Proofs.Ytdpajabhmmmjoaa
open Go.AM
set_option autoImplicit false
set_option linter.unusedSimpArgs false
theorem adY:∀(a b:List UInt8),(Op.bytesLess a b||decide (a=b))= !Op.bytesLess b a
 | [],[]=>by simp[Op.bytesLess]
 | [],b::y=>by simp[Op.bytesLess]
 |a::x,[]=>by simp[Op.bytesLess]
 |a::x,b::y=>by
  have ih:=adY x y
  simp only[Op.bytesLess]
  by_cases h1:a<b
  ·have h2:¬b<a:=fun h=>absurd (UInt8.lt_trans h1 h) (UInt8.lt_irrefl a)
   have h3:¬b=a:=fun h=>by subst h;exact UInt8.lt_irrefl _ h1
   simp[h1,h2,h3]
  ·by_cases h2:b<a
   ·have h3:¬a=b:=fun h=>by subst h;exact UInt8.lt_irrefl _ h2
    simp[h1,h2,h3]
   ·have h3:a=b:=by
     have:=UInt8.le_antisymm (UInt8.not_lt.1 h2) (UInt8.not_lt.1 h1)
     exact this
    subst h3
    simp only[h1,decide_false,Bool.false_or,beq_self_eq_true,Bool.true_and,List.cons.injEq,true_and]
    exact ih
end Go.Proofs.Ytdpajabhmmmjoaa
end
noncomputable section
namespace Go.Proofs.Ytdpajabhmmmjoaa
open Go.AM
set_option autoImplicit false
set_option linter.unusedVariables false
theorem gu.mono{m m':Nat}{t:aA}(h:gu m t)(hm:m≤m'):gu m' t:=
 ⟨⟨h.items.1,by have:=h.items.2;omega⟩,fun f hf=>⟨(h.fields f hf).1,by have:=(h.fields f hf).2.1;omega,(h.fields f hf).2.2⟩,h.nf,
   fun b hb=>⟨(h.branches b hb).1,by have:=(h.branches b hb).2;omega⟩,h.nb,h.ns,h.size,h.done,h.kind,h.enum,h.only,h.na,h.fal,h.edef⟩
theorem bF.refl{ts:List aA}{e:Int}(h:ts.length≤60):bF ts e ts e:=
 ⟨Nat.le_refl _,h,fun h=>h,fun _ _ _=>rfl,fun _ i t hi ht=>by
  have:=(List.getElem?_eq_some_iff.1 ht).1;omega⟩
theorem bF.bad{ts:List aA}{e e':Int}(h:ts.length≤60)(he:e'≠0):bF ts e ts e':=
 ⟨Nat.le_refl _,h,fun h=>absurd h he,fun h=>absurd h he,fun h=>absurd h he⟩
theorem bF.fail{ts ts':List aA}{e e':Int}(h:bF ts e ts' e')(c:Int)(hc:c≠0):bF ts e ts' (if e'=0 then c else e'):=by
 have:(if e'=0 then c else e')≠0:=by split<;>assumption
 exact⟨h.len,h.cap,fun h=>absurd h this,fun h=>absurd h this,fun h=>absurd h this⟩
theorem bF.trans{ts ts1 ts2:List aA}{e e1 e2:Int}(h:bF ts e ts1 e1)(h':bF ts1 e1 ts2 e2):bF ts e ts2 e2 where
 len:=Nat.le_trans h.len h'.len
 cap:=h'.cap
 err:=fun he=>h.err (h'.err he)
 old:=fun he i hi=>by
  have:=h.len
  rw[h'.old he i (by omega),h.old (h'.err he) i hi]
 new:=fun he i t hi ht=>by
  rcases Nat.lt_or_ge i ts1.length with hl|hl
  ·rw[h'.old he i hl] at ht
   exact(h.new (h'.err he) i t hi ht).mono h'.len
  ·exact h'.new he i t hl ht
theorem bF.weak{ts ts':List aA}{e e1 e':Int}(h:bF ts e1 ts' e')(he:e1=0→e=0):bF ts e ts' e':=
 ⟨h.len,h.cap,fun h'=>he (h.err h'),h.old,h.new⟩
theorem bF.push{ts:List aA}{e:Int}(h:ts.length<60)(t:aA)(ht:gu (ts.length+1) t):bF ts e (ts++[t]) e where
 len:=by simp
 cap:=by simp;omega
 err:=fun h=>h
 old:=fun _ i hi=>by rw[List.getElem?_append_left hi]
 new:=fun _ i t' hi ht'=>by
  rw[List.getElem?_append_right hi] at ht'
  have hl:=(List.getElem?_eq_some_iff.1 ht').1
  simp only[List.length_singleton] at hl
  have:i-ts.length=0:=by omega
  rw[this] at ht'
  simp only[List.getElem?_cons_zero,Option.some.injEq] at ht'
  subst ht'
  simpa using ht
theorem bF.close{ts ts2:List aA}{e e2:Int}{t0 t:aA}(h:bF (ts++[t0]) e ts2 e2)(ht:gu ts2.length t):bF ts e (ts2.set ts.length t) e2 where
 len:=by have:=h.len;simp at this ⊢;omega
 cap:=by simpa using h.cap
 err:=h.err
 old:=fun he i hi=>by
  rw[List.getElem?_set_ne (by omega),h.old he i (by simp;omega),List.getElem?_append_left hi]
 new:=fun he i t' hi ht'=>by
  have hlen:=h.len
  simp only[List.length_append,List.length_singleton] at hlen
  simp only[List.length_set] at ht' ⊢
  rcases Nat.lt_or_eq_of_le hi with hl|hl
  ·rw[List.getElem?_set_ne (by omega)] at ht'
   exact h.new he i t' (by simp;omega) ht'
  ·subst hl
   rw[List.getElem?_set_self (by omega)] at ht'
   cases ht'
   exact ht
theorem bF.at_open{ts ts2:List aA}{e e2:Int}{t0:aA}(h:bF (ts++[t0]) e ts2 e2)(he:e2=0):ts2[ts.length]? =some t0:=by
 rw[h.old he ts.length (by simp),List.getElem?_append_right (Nat.le_refl _)]
 simp
theorem bF.sch{ts:List aA}(h:bF [] 0 ts 0)(h0:0<ts.length):cw ts:=by
 refine⟨⟨h0,h.cap⟩,fun t ht=>?_⟩
 obtain⟨i,hi,rfl⟩:=List.mem_iff_getElem.1 ht
 exact h.new rfl i _ (by simp) (List.getElem?_eq_getElem hi)
theorem dq.kids{b:Nat}{k n:Int}{s:List UInt8}{l:List aD}{names:List (List UInt8)}(h:dq b (.mk k n s l names)):
  s.length≤100∧l.length≤b∧names.length≤l.length∧(∀x∈names,x.length≤100)∧(k=6→names.length=l.length)∧∀c∈l,dq b c:=by
 cases h with
 |mk _ _ _ _ _ h1 h2 h3 h4 h5 h6=>exact⟨h1,h2,h3,h4,h5,h6⟩
theorem dq.eta{b:Nat}{c:aD}:dq b (.mk c.kind c.n c.s c.l c.names)↔dq b c:=by
 cases c;exact Iff.rfl
theorem dq.zero{b:Nat}:dq b (.mk 0 0 [] [] []):=.mk _ _ _ _ _ (by simp) (by simp) (by simp) (by simp) (by simp) (by simp)
theorem dq.getD{b:Nat}{l:List aD}(h:∀c∈l,dq b c)(i:Nat):dq b (l.getD i (aB .jnode)):=by
 rw[List.getD_eq_getElem?_getD]
 cases hi:l[i]? with
 |none=>exact dq.zero
 |some c=>exact h c (List.mem_of_getElem? hi)
theorem dq.up{b b':Nat}(hb:b≤b'):∀{c:aD},dq b c→dq b' c:=by
 intro c h
 induction h with
 |mk k n s l names h1 h2 h3 h4 h5 _ ih=>exact .mk k n s l names h1 (Nat.le_trans h2 hb) h3 h4 h5 ih
theorem bp.kids{k n:Int}{s:List UInt8}{l:List aD}{names:List (List UInt8)}(h:bp (.mk k n s l names)):
  s.length≤100∧l.length≤8∧names.length≤l.length∧(∀x∈names,x.length≤100)∧(k=6→names.length=l.length)∧∀c∈l,bp c:=dq.kids h
theorem bp.eta{c:aD}:bp (.mk c.kind c.n c.s c.l c.names)↔bp c:=dq.eta
theorem bp.zero:bp (.mk 0 0 [] [] []):=dq.zero
theorem bp.getD{l:List aD}(h:∀c∈l,bp c)(i:Nat):bp (l.getD i (aB .jnode)):=dq.getD h i
theorem awt:∀{names:List (List UInt8)}{l:List aD}{name:List UInt8}{c:aD},oR names l name=some c→c∈l
 | [],l,_,_,h=>by simp[oR] at h
 |x::ns,[],_,_,h=>by simp[oR] at h
 |x::ns,d::l,name,c,h=>by
  simp only[oR] at h
  split at h
  ·simp at h;simp[h]
  ·exact List.mem_cons_of_mem _ (awt h)
theorem aBz{b:Nat}{o:Option aD}{l:List aD}(h:∀c∈l,dq b c)(ho:∀c,o=some c→c∈l):dq b (.mk (aaf o).1 (aaf o).2.1 (aaf o).2.2.1 (aaf o).2.2.2.1 (aaf o).2.2.2.2.1):=by
 cases o with
 |none=>exact dq.zero
 |some c=>exact dq.eta.2 (h c (ho c rfl))
theorem xo{b:Nat}{k:Int}{names:List (List UInt8)}{l:List aD}{name:List UInt8}(h:∀c∈l,dq b c):
  dq b (.mk (aaf (if k=6 then oR names l name else none)).1 (aaf (if k=6 then oR names l name else none)).2.1 (aaf (if k=6 then oR names l name else none)).2.2.1 (aaf (if k=6 then oR names l name else none)).2.2.2.1 (aaf (if k=6 then oR names l name else none)).2.2.2.2.1):=
 aBz h fun c hc=>by
  split at hc
  ·exact awt hc
  ·cases hc
end Go.Proofs.Ytdpajabhmmmjoaa
end
noncomputable section
namespace Go.Proofs.Ytdpajabhmmmjoaa
open Go.AM
set_option autoImplicit false
set_option linter.unusedVariables false
set_option linter.unusedSimpArgs false
set_option maxRecDepth 100000
theorem ae0(ts:List aA)(t:Int):∃r,iv ts t r:=by
 apply awl 1
 unfold aoi aoh
 dsimp only
 repeat' (first|(with_reducible refine aC ?_ ?_<;>(intro hb;(try simp only[bnl] at hb);(try revert hb;intro _)))|with_reducible refine aJ ?_ ?_|with_reducible refine aF ?_|fail)
 all_goals rename_i h
 ·exact⟨_,_,rfl,rfl,by simp[yO,isT,h]⟩
 ·exact⟨_,_,rfl,rfl,by simp only[yO,isT];rw[decide_eq_false (by omega)];rfl⟩
theorem ao8(s:List UInt8):∃r,oT s r:=by
 apply aso 100
 unfold akh tY
 refine aU (fun x=>match x with|(a,f,w,i)=>a=s∧w=ap7∧0≤i∧i≤14∧∀j:Nat,(j:Int)<i→ap7.getD j []≠s) (fun x=>(14-x.2.2.2).toNat) ?_ _ _ ⟨rfl,rfl,by simp,by simp,fun j hj=>by omega⟩ (by simp)
 rintro again ⟨a,f,w,i⟩ ⟨rfl,rfl,i1,i2,i3⟩ ih
 dsimp only at ih
 have e:=aI (i+1) (by omega)
 unfold xm
 dsimp only
 have hw:ap7.length=14:=rfl
 rw[hw]
 repeat' (first|(with_reducible refine aC ?_ ?_<;>(intro hb;(try simp only[bnl] at hb);(try revert hb;intro _)))|with_reducible refine aJ ?_ ?_|with_reducible refine aF ?_|fail)
 ·simp only[bnl];omega
 ·rename_i h1 h2
  refine⟨_,_,rfl,rfl,?_,?_,?_,?_,?_⟩
  ·simp only[e];omega
  ·simp only[e];omega
  ·simp only[e]
   intro h3
   have:i=13:=by omega
   subst this
   rw[←h2];rfl
  ·simp only[e]
   intro h3;omega
  ·simp only[e]
   intro h3
   have:i=9:=by omega
   subst this
   rw[←h2];rfl
 ·rename_i h1 h2
  refine ih (a,f,ap7,_) ?_ ?_
  ·simp only[e]
   refine⟨trivial,trivial,by omega,by omega,fun j hj=>?_⟩
   by_cases hji:(j:Int)=i
   ·have:i.toNat=j:=by omega
    rw[this] at h2
    exact h2
   ·exact i3 j (by omega)
  ·simp only[e];omega
 ·rename_i h1
  exact⟨_,_,rfl,rfl,by simp,by simp,by simp,fun _ j hj=>i3 j (by omega),by simp⟩
theorem aAT(k:Int):∃r,vZ k r:=by
 apply asp 1
 unfold akj aki
 dsimp only
 repeat' (first|(with_reducible refine aC ?_ ?_<;>(intro hb;(try simp only[bnl] at hb);(try revert hb;intro _)))|with_reducible refine aJ ?_ ?_|with_reducible refine aF ?_|fail)
 ·exact⟨_,_,rfl,rfl⟩
 ·exact⟨_,_,rfl,rfl⟩
 ·simp only[bnl,List.length_cons,List.length_nil];omega
 ·exact⟨_,_,rfl,rfl⟩
theorem ane(ts:List aA)(e a0:Int)(a1:List UInt8)(a2:List (List UInt8))(a3:Int)(a4:List (List UInt8))(a5:Bool)(a6:List UInt8)(a7:Int)(a8:List aM)(a9:List Int)(h:ts.length≤60):
  ∃r,fB ts e a0 a1 a2 a3 a4 a5 a6 a7 a8 a9 r:=by
 apply akW 1
 unfold acG acF
 dsimp only
 repeat' (first|(with_reducible refine aC ?_ ?_<;>(intro hb;(try simp only[bnl] at hb);(try revert hb;intro _)))|with_reducible refine aJ ?_ ?_|with_reducible refine aF ?_|(refine aE (cZ _ _ _) ?_;rintro _ ⟨-,rfl⟩;try dsimp only)|fail)
 ·rename_i hb
  refine⟨_,_,_,_,rfl,rfl,?_⟩
  simp only[nR]
  simp only[if_pos (show 60≤ts.length by omega)]
 ·first|(simp only[bnl,lnl];done)|(simp only[bnl,lnl];omega)
 ·rename_i hb
  refine⟨_,_,_,_,rfl,rfl,?_⟩
  simp only[nR,List.length_append,List.length_cons,List.length_nil]
  rw[if_neg (by omega),aI _ (by omega)]
  simp
theorem awu(ts:List aA)(e:Int)(s:List UInt8)(h:ts.length≤60):∃r,dA ts e s r:=by
 apply ai5 100
 unfold abl kR
 refine aU (fun x=>x.1=s∧x.2.2.1=ts∧x.2.2.2=e∧0≤x.2.1∧x.2.1≤(ts.length:Int)) (fun x=>((ts.length:Int)-x.2.1).toNat) ?_ _ _ ⟨rfl,rfl,rfl,by simp,by simp⟩ (by simp;omega)
 rintro again ⟨s,i,ts,e⟩ ⟨rfl,rfl,rfl,i1,i2⟩ ih
 simp only at i1 i2 ih h ⊢
 unfold n7
 dsimp only
 have next:i<ts.length→Tot (again (s,IntKind.i64.wrap (i+1),ts,e)) _:=fun hl=>ih (s,IntKind.i64.wrap (i+1),ts,e) (by simp only[aI (i+1) (by omega)];exact⟨trivial,trivial,trivial,by omega,by omega⟩) (by simp only[aI (i+1) (by omega)];omega)
 repeat' (first|(with_reducible refine aC ?_ ?_<;>(intro hb;(try simp only[bnl] at hb);(try revert hb;intro _)))|with_reducible refine aJ ?_ ?_|with_reducible refine aF ?_|(exact next (by omega))|fail)
 all_goals first|(first|(simp only[bnl,lnl];done)|(simp only[bnl,lnl];omega))|(refine⟨_,_,_,_,_,rfl,rfl,rfl,?_⟩;simp;try omega)
theorem azQ{a b:List UInt8}(h1:Op.bytesLess a b=false)(h2:¬a=b):Op.bytesLess b a=true:=by
 have h:=adY a b
 rw[h1,decide_eq_false h2] at h
 simpa using h.symm
theorem awv{a b:List UInt8}(h:Op.bytesLess a b=true):Op.bytesLess b a=false:=by
 have h2:=adY a b
 rw[h,Bool.true_or] at h2
 simpa using h2.symm
theorem atq:∀(i:Nat)(ks:List (List UInt8))(p key:List UInt8),sI p ks=true→Op.bytesLess p key=true→iB key=true→(∀j,j<i→j<ks.length→Op.bytesLess (ks.getD j []) key=true)→
  (∀_:i<ks.length,Op.bytesLess key (ks.getD i [])=true)→sI p (ks.take i++(key::ks.drop i))=true
 |0,[],p,key,h,hp,hv,_,_=>by simp[sI,hv,hp]
 |0,k::ks,p,key,h,hp,hv,_,hl=>by
  have:=hl (by simp)
  simp only[sI,Bool.and_eq_true] at h
  simp only[List.getD_cons_zero] at this
  simp[sI,hv,hp,h.1,h.2.2,this]
 |i+1,[],p,key,h,hp,hv,_,_=>by simp[sI,hv,hp]
 |i+1,k::ks,p,key,h,hp,hv,hb,hl=>by
  simp only[sI,Bool.and_eq_true] at h
  have ih:=atq i ks k key h.2.2 (by have:=hb 0 (by omega) (by simp);simpa using this) hv
   (fun j h1 h2=>by have:=hb (j+1) (by omega) (by simp;omega);simpa using this) (fun h1=>by have:=hl (by simp;omega);simpa using this)
  simp[sI,h.1,h.2.1,ih]
theorem azR(i:Nat)(ks:List (List UInt8))(key:List UInt8)(h:je ks=true)(hv:iB key=true)(hb:∀j,j<i→j<ks.length→Op.bytesLess (ks.getD j []) key=true)
  (hl:∀_:i<ks.length,Op.bytesLess key (ks.getD i [])=true):je (ks.take i++(key::ks.drop i))=true:=by
 match i,ks,h,hb,hl with
 |0,[],h,hb,hl=>simp[je,sI,hv]
 |0,k::ks,h,hb,hl=>
  have:=hl (by simp)
  simp only[je,Bool.and_eq_true] at h
  simp only[List.getD_cons_zero] at this
  simp[je,sI,hv,h.1,h.2,this]
 |i+1,[],h,hb,hl=>simp[je,sI,hv]
 |i+1,k::ks,h,hb,hl=>
  simp only[je,Bool.and_eq_true] at h
  have:=atq i ks k key h.2 (by have:=hb 0 (by omega) (by simp);simpa using this) hv
   (fun j h1 h2=>by have:=hb (j+1) (by omega) (by simp;omega);simpa using this) (fun h1=>by have:=hl (by simp;omega);simpa using this)
  simp[je,h.1,this]
theorem agt(ts:List aA)(t:Int):∀l m:List aH,bV ts t (l++m)=(bV ts t l&&bV ts t m)
 | [],m=>by simp[bV]
 |v::l,m=>by simp[bV,agt ts t l m,Bool.and_assoc]
theorem ahL:∀l m:List aH,wL (l++m)=wL l+wL m
 | [],m=>by simp[wL]
 |v::l,m=>by simp[wL,ahL l m];omega
theorem ao9:∀l m:List (List UInt8),rp (l++m)=rp l+rp m
 | [],m=>by simp[rp]
 |v::l,m=>by simp[rp,ao9 l m];omega
theorem atr(ts:List aA)(t:Int)(w:aH)(hw:bm ts t w=true):∀(l:List aH)(i:Nat),bV ts t l=true→bV ts t (l.set i w)=true
 | [],i,h=>by simp[bV]
 |v::l,0,h=>by simp only[bV,Bool.and_eq_true] at h;simp[bV,hw,h.2]
 |v::l,i+1,h=>by simp only[bV,Bool.and_eq_true] at h;simp[bV,h.1,atr ts t w hw l i h.2]
theorem azS(w:aH):∀(l:List aH)(i:Nat),wL (l.set i w)≤wL l+wV w
 | [],i=>by simp[wL]
 |v::l,0=>by simp[wL];omega
 |v::l,i+1=>by have:=azS w l i;simp only[List.set_cons_succ,wL];omega
theorem anf(n:Int)(s:List UInt8)(l:List aH)(ks:List (List UInt8))(b:Int)(key:List UInt8)(w0:Int)(w1:List UInt8)(w2:List aH)(w3:List (List UInt8))(w4:Int)(h:ks.length=l.length)(hl:l.length≤10000):
  ∃r,lw n s l ks b key w0 w1 w2 w3 w4 r:=by
 apply auu 20000
 unfold amw wv
 refine aU (fun x=>match x with
  |(c0,c1,c2,c3,c4,c5,i,c6,c7,l',ks',c8,c9,c10,c11,c12,c13)=>c0=key∧(c1,c2,c3,c4,c5)=(w0,w1,w2,w3,w4)∧(c6,c7,c8)=(n,s,b)∧0≤i∧i≤(l.length:Int)∧ks'=ks∧l'=l∧∀j:Nat,(j:Int)<i→Op.bytesLess (ks.getD j []) key=true)
  (fun x=>((l.length:Int)-x.2.2.2.2.2.2.1).toNat) ?_ _ _ ⟨rfl,rfl,rfl,by simp,by simp,rfl,rfl,fun j hj=>by omega⟩ (by simp;omega)
 rintro again ⟨c0,c1,c2,c3,c4,c5,i,c6,c7,l,ks,c8,c9,c10,c11,c12,c13⟩ ⟨rfl,e1,e2,i1,i2,rfl,rfl,i3⟩ ih
 simp only[Prod.mk.injEq] at e1 e2
 obtain⟨rfl,rfl,rfl,rfl,rfl⟩:=e1
 obtain⟨rfl,rfl,rfl⟩:=e2
 simp only at i1 i2 ih h hl ⊢
 unfold yR
 dsimp only
 have next:i<l.length→Op.bytesLess (ks.getD i.toNat []) c0=true→Tot (again (c0,c1,c2,c3,c4,c5,IntKind.i64.wrap (i+1),c6,c7,l,ks,c8,c9,c10,c11,c12,c13)) _:=fun hl hb=>ih (c0,c1,c2,c3,c4,c5,IntKind.i64.wrap (i+1),c6,c7,l,ks,c8,c9,c10,c11,c12,c13)
  (by
   simp only[aI (i+1) (by omega)]
   refine⟨trivial,trivial,trivial,by omega,by omega,trivial,trivial,fun j hj=>?_⟩
   by_cases hji:(j:Int)<i
   ·exact i3 j hji
   ·have:j=i.toNat:=by omega
    rw[this];exact hb) (by simp only[aI (i+1) (by omega)];omega)
 have i4:∀j,j<i.toNat→j<ks.length→Op.bytesLess (ks.getD j []) c0=true:=fun j hj _=>i3 j (by omega)
 have ins:(∀_:i.toNat<ks.length,Op.bytesLess c0 (ks.getD i.toNat [])=true)→aAR c6 c7 l ks c8 c0 (.mk c1 c2 c3 c4 c5) (c6,c7,l.take i.toNat++((.mk c1 c2 c3 c4 c5)::l.drop i.toNat),ks.take i.toNat++(c0::ks.drop i.toNat),c8):=fun hlt=>by
  refine⟨rfl,rfl,rfl,?_,?_,fun h1 h2=>azR _ _ _ h1 h2 i4 hlt,fun ts t h1 h2=>?_,fun h1 h2=>?_⟩
  ·simp only[ahL]
   have:=ahL (l.take i.toNat) (l.drop i.toNat)
   rw[List.take_append_drop] at this
   simp only[wL];omega
  ·simp only[ao9]
   have:=ao9 (ks.take i.toNat) (ks.drop i.toNat)
   rw[List.take_append_drop] at this
   simp only[rp];omega
  ·have:=agt ts t (l.take i.toNat) (l.drop i.toNat)
   rw[List.take_append_drop,h1] at this
   have this:=(Bool.and_eq_true _ _▸this.symm:_∧_)
   simp[agt,bV,this.1,this.2,h2]
  ·by_cases hi:i.toNat<ks.length
   ·have h3:=h1 (ks.getD i.toNat []) (by simp[List.getD,hi])
    rw[awv h3] at hlt
    simp at hlt;omega
   ·rw[List.take_of_length_le (by omega),List.drop_eq_nil_of_le (by omega),List.take_of_length_le (by omega),List.drop_eq_nil_of_le (by omega)]
    exact⟨rfl,rfl⟩
 have same:(i.toNat<ks.length∧ks.getD i.toNat []=c0)→aAR c6 c7 l ks c8 c0 (.mk c1 c2 c3 c4 c5) (c6,c7,l.set i.toNat (.mk c1 c2 c3 c4 c5),ks,c8):=fun hsame=>by
  refine⟨rfl,rfl,rfl,azS _ _ _,by simp only;omega,fun h1 _=>h1,fun ts t h1 h2=>atr ts t _ h2 _ _ h1,fun h1 _=>?_⟩
  have h3:=h1 (ks.getD i.toNat []) (by simp[List.getD,hsame.1])
  rw[hsame.2] at h3
  have h4:=awv h3
  rw[h3] at h4;cases h4
 repeat' (first|(with_reducible refine aC ?_ ?_<;>(intro hb;(try simp only[bnl] at hb);(try revert hb;intro _)))|with_reducible refine aJ ?_ ?_|with_reducible refine aF ?_|(exact next (by omega) (by assumption))|fail)
 all_goals first|(first|(simp only[bnl,lnl];done)|(simp only[bnl,lnl];omega))|skip
 all_goals
  refine⟨_,_,_,_,_,_,rfl,rfl,?_,?_,?_⟩
  ·simp only[List.length_append,List.length_cons,List.length_nil,List.length_drop,List.length_take,List.length_set];omega
  ·simp only[List.length_append,List.length_cons,List.length_nil,List.length_drop,List.length_take,List.length_set];omega
 ·exact same ⟨by omega,by assumption⟩
 ·simpa using ins fun _=>azQ (by assumption) (by assumption)
 ·simpa using ins fun hh=>by omega
end Go.Proofs.Ytdpajabhmmmjoaa
end
