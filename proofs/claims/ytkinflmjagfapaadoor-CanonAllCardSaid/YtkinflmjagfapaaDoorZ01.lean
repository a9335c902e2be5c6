import Derived.Orders
import Derived.MapKept
import Derived.WideKeyRuns
import Derived.WalkSpells
import Derived.Test.YtkinflmjagfapaaDoorZ00
noncomputable section
namespace Go.AM
set_option autoImplicit false
set_option linter.unusedSimpArgs false
set_option linter.unusedVariables false
def j8(P:Program)(o:IOp)(m:Oper):Bool:=
 match o with
 | .blu d k=>(m.dst==some d)&&(match m.op with| .buildSlice t n qs=>fF P t k&&(n==0&&qs.isEmpty)|_=>false)
 | .apu d k x y=>(m.dst==some d)&&(match rj m.op with|some (.append,[x',y'],[t,u])=>fF P t k&&(fF P u k&&(aI x x'&&aI y y'))|_=>false)
 | .slw d k x lo hi=>(m.dst==some d)&&(match m.op with| .slice t x' lo' hi' none=>fF P t k&&(aI x x'&&(gm lo lo'&&gm hi hi'))|_=>false)
 | .apx d k x y=>(m.dst==some d)&&(match rj m.op with|some (.append,[x',y'],[t,u])=>fF P t k&&(fF P u k&&(aI x x'&&aI y y'))|_=>false)
 | .lnw d x=>(m.dst==some d)&&(match rj m.op with|some (.len,[x'],[t])=>(match P.underlying t with|some (.slice _)=>true|_=>false)&&aI x x'|_=>false)
 | .ixw d k x i=>(m.dst==some d)&&(match m.op with| .indexAddr t x' i'=>fF P t k&&(aI x x'&&aI i i')|_=>false)
 | .fdw d off x=>aU P (.fad d off x) m
 | .ldw d n agg x=>aU P (.ld d n agg false x) m
 | .stw d n x v=>(m.dst==d)&&(match m.op with| .store t x' v'=>(dM P t==some n)&&(aI x x'&&aI v v')|_=>false)
 |_=>false
section
variable{w w':World}{g g':Gh}{s s':St}{a:Act}{P:Program}{Γ:az}{m:Oper}{next:Act→World→Prop}{Q:Exit→Act→World→Prop}
theorem sR{i j n z:Nat}(hi:i<n)(hj:j<z):i*z+j<n*z:=by
 calc i*z+j<i*z+z:=by omega
  _=(i+1)*z:=by rw[Nat.add_mul,Nat.one_mul]
  _≤n*z:=Nat.mul_le_mul_right _ hi
theorem qP{I:Nat→Nat→Prop}{ρ:Nat→Nat}{N:Nat}{k:EK}{x:Ty k}{j:Nat}{v:V}{u:Value}(hv:(enc k x)[j]? =some v)(h:VRel I ρ N w v u){ρ':Nat→Nat}{N':Nat}:VRel I ρ' N' w v u:=
 h.flat1 (abT k x v (List.mem_of_getElem? hv))
theorem SR.newUL(h:SR g s w a)(k:EK)(xs:List (Ty k))(cap d:Nat)(arr:Array Value)(e:TypeId)
  (hsz:w'.heap.size=w.heap.size+1) (hold:∀b,b<w.heap.size→w'.heap[b]? =w.heap[b]?) {fz:Nat×Nat} (hnew:w'.heap[w.heap.size]? =some (.cells arr e fz))
  (hos:w'.os=w.os) (htp:w'.tape=w.tape) (hout:w'.output=w.output)
  (hle:xs.length≤cap) (hm:cap≤cb) (hroom:cap*k.sz≤arr.size) (heβ:k=.u8→e=g.β) (hfz:zp fz arr.size)
  (hv:∀(i:Nat) x j v,xs[i]? =some x→(enc k x)[j]? =some v→∃cv,arr[i*k.sz+j]? =some cv∧VRel g.I (fun _=>0) 0 w v cv):
  ∃g',SR g' (s.set d (.ul k xs)) w' (a.put (some d) (.slice (some ⟨w.heap.size,0,none⟩) xs.length cap))∧FR g s.hp w g' s.hp w':=by
 let g':Gh:={g with O:=fun b=>if b=w.heap.size then some (.slot d) else g.O b}
 have ilt:∀b j,g.I b j→b<w.heap.size:=by
  intro b j hi
  obtain⟨v,hv⟩:=Option.isSome_iff_exists.1 (h.hr.exI b j hi)
  exact World.block_lt_of_cell? _ _ hv
 have cello:∀b j,b<w.heap.size→w'.cell? ⟨b,j,none⟩=w.cell? ⟨b,j,none⟩:=by
  intro b j hb
  simp[World.cell?,hold b hb]
 have u:Up g.I g.ρ s.hp.length w g'.I g'.ρ s.hp.length w':=⟨fun b j hi=>hi,fun b j hi=>cello b j (ilt b j hi),fun _ _=>rfl,Nat.le_refl _⟩
 have hs:SR g' s w' a:=by
  refine h.keep none trivial rfl u ?_ ?_ ?_ ?_
  ·intro occ b hb _
   have hlt:=h.hr.oLt b occ hb
   exact⟨by simp[g',Nat.ne_of_lt hlt,hb],hold b hlt,fun j hj=>hj⟩
  ·intro id cs hid
   have hlt:=(h.hr.obj id cs hid).lt
   exact⟨hold _ hlt,by simp[g',Nat.ne_of_lt hlt,h.hr.notO id cs hid],fun j hj=>hj⟩
  ·intro b j hj
   rw[cello b j (ilt b j hj)];exact h.hr.exI b j hj
  ·intro b o hb
   simp only[g'] at hb
   split at hb
   ·omega
   ·have:=h.hr.oLt b o hb;omega
 refine⟨g',hs.set d (.ul k xs _ _ (by omega)) (.inr ⟨w.heap.size,cap,arr,e,fz,hfz,rfl,hle,hm,by simp[g'],hnew,hroom,heβ,?_,?_⟩),⟨rfl,hos,htp,hout,by omega,fun b hb _ _=>hold b hb,u,fun _ _ _ _ _ hi=>hi,?_,fun _ cs h=>.inl ⟨cs,h⟩⟩⟩
 ·intro j hi
  exact absurd (ilt _ _ hi) (Nat.lt_irrefl _)
 ·intro i x j v cv h1 h2 h3
  obtain⟨cv',e1,e2⟩:=hv i x j v h1 h2
  rw[e1] at h3
  obtain rfl:=Option.some.inj h3
  exact e2.up ⟨fun _ _ hi=>hi,fun b j hi=>cello b j (ilt b j hi),fun _ _=>rfl,Nat.le_refl _⟩
 ·intro b hb _ hO
  simp[g',Nat.ne_of_lt hb,hO]
theorem SR.inPlaceU(h:SR g s w a){p:Occ}(hp:pu (some p) s)(k:EK)(xs ys:List (Ty k))(b cap d:Nat)(news:List Value){arr:Array Value}{e:TypeId}{fz:Nat×Nat}(o0:zp fz arr.size)
  (o1:g.O b=some p) (o2:w.heap[b]? =some (.cells arr e fz)) (o3:cap*k.sz≤arr.size) (oβ:k=.u8→e=g.β) (oI:∀j,¬g.I b j)
  (oc:∀(i:Nat) x (j:Nat) v u,xs[i]? =some x→(enc k x)[j]? =some v→arr[i*k.sz+j]? =some u→VRel g.I (fun _=>0) 0 w v u) (hcm:cap≤cb)
  (hroom:xs.length+ys.length≤cap) (hl:news.length=ys.length*k.sz)
  (hv:∀(i:Nat) x (j:Nat) v,ys[i]? =some x→(enc k x)[j]? =some v→∃u,news[i*k.sz+j]? =some u∧VRel g.I (fun _=>0) 0 w v u):
  ∃g',SR g' (s.set d (.ul k (xs++ys))) (w.setCells b (xs.length*k.sz) news) (a.put (some d) (.slice (some ⟨b,0,none⟩) (xs.length+ys.length) cap))∧
   FR g s.hp w g' s.hp (w.setCells b (xs.length*k.sz) news):=by
 have hend:xs.length*k.sz+news.length≤arr.size:=by
  have:(xs.length+ys.length)*k.sz≤cap*k.sz:=Nat.mul_le_mul_right _ hroom
  rw[Nat.add_mul] at this
  omega
 obtain⟨⟨arr',q1,q2⟩,q3,q4,q5,q6,q7⟩:=gY b news (xs.length*k.sz) w arr e fz o2
 let w':=w.setCells b (xs.length*k.sz) news
 let g':Gh:={g with O:=fun b'=>if b'=b then some (.slot d) else g.O b'}
 have cello:∀b' j,g.I b' j→w'.cell? ⟨b',j,none⟩=w.cell? ⟨b',j,none⟩:=by
  intro b' j hi
  exact World.cell?_setCells_out b news _ w _ (by rintro rfl _;exact absurd hi (oI j))
 have hbo:∀(id:Nat) cs,s.hp[id]? =some (some cs)→g.ρ id≠b:=by
  intro id cs hid e'
  have:=h.hr.notO id cs hid
  rw[e',o1] at this
  simp at this
 have u:Up g.I g.ρ s.hp.length w g'.I g'.ρ s.hp.length w':=⟨fun b j hi=>hi,cello,fun _ _=>rfl,Nat.le_refl _⟩
 have hs:SR g' s w' a:=by
  refine h.keep (some p) hp rfl u ?_ ?_ ?_ ?_
  ·intro occ b' hb' hne
   have hbb:b'≠b:=by
    rintro rfl
    rw[o1] at hb'
    exact hne hb'
   exact⟨by simp[g',hbb,hb'],q3 b' hbb,fun j hj=>hj⟩
  ·intro id cs hid
   have hbb:=hbo id cs hid
   exact⟨q3 _ hbb,by simp[g',hbb,h.hr.notO id cs hid],fun j hj=>hj⟩
  ·intro b' j hj
   rw[cello b' j hj];exact h.hr.exI b' j hj
  ·intro b' o hb'
   simp only[g'] at hb'
   rw[q4]
   split at hb'
   ·rename_i e';subst e';exact h.hr.oLt _ _ o1
   ·exact h.hr.oLt _ _ hb'
 have harr:∀j,arr'[j]? =if xs.length*k.sz≤j∧j<xs.length*k.sz+news.length then news[j-xs.length*k.sz]? else arr[j]?:=by
  intro j
  rw[←aD q1 j]
  split
  ·rename_i hj
   have:=World.cell?_setCells_in b news (xs.length*k.sz) w (fun j' hj'=>by rw[aD o2,Array.getElem?_eq_getElem (by omega)];rfl) (j-xs.length*k.sz) (by omega)
   rw[show xs.length*k.sz+(j-xs.length*k.sz)=j by omega] at this
   rw[List.getElem?_eq_getElem (by omega)]
   exact this
  ·rename_i hj
   rw[World.cell?_setCells_out _ _ _ w _ (fun _ _=>by simp only;omega),aD o2]
 have ue:Up g.I (fun _=>0) 0 w g.I (fun _=>0) 0 w':=⟨fun _ _ hi=>hi,cello,fun _ _=>rfl,Nat.le_refl _⟩
 have hk0:∀x:Ty k,∀j v,(enc k x)[j]? =some v→j<k.sz:=by
  intro x j v hv
  have:=(List.getElem?_eq_some_iff.1 hv).1
  rwa [bV] at this
 refine⟨g',hs.set d ?_ (.inr ⟨b,cap,arr',e,fz,by rw[q2];exact o0,by simp,by simpa using hroom,hcm,by simp[g'],q1,by rw[q2];exact o3,oβ,oI,?_⟩),⟨rfl,q5,q6,q7,by rw[q4];exact Nat.le_refl _,fun b' hb' _ hO=>?_,u,fun _ _ _ _ _ hi=>hi,?_,fun _ cs h=>.inl ⟨cs,h⟩⟩⟩
 ·have:=VRel.ul (I:=g'.I) (ρ:=g'.ρ) (N:=s.hp.length) (w:=w') k (xs++ys) (some ⟨b,0,none⟩) cap (by simp;omega)
  simpa using this
 ·intro i x j v cv h1 h2 h3
  have hj:=hk0 x j v h2
  rw[harr] at h3
  rcases Nat.lt_or_ge i xs.length with hi|hi
  ·rw[List.getElem?_append_left hi] at h1
   have:=sR hi hj
   rw[if_neg (by omega)] at h3
   exact(oc i x j v cv h1 h2 h3).up ue
  ·rw[List.getElem?_append_right hi] at h1
   obtain⟨u',e1,e2⟩:=hv _ x j v h1 h2
   have hlt:=(List.getElem?_eq_some_iff.1 e1).1
   have hp':i*k.sz=xs.length*k.sz+(i-xs.length)*k.sz:=by rw[←Nat.add_mul];congr 1;omega
   rw[if_pos (by omega),show i*k.sz+j-xs.length*k.sz=(i-xs.length)*k.sz+j by omega,e1] at h3
   obtain rfl:=Option.some.inj h3
   exact e2.up ue
 ·have hbb:b'≠b:=by rintro rfl;rw[o1] at hO;simp at hO
  exact q3 b' hbb
 ·intro b' hb' _ hO
  have hbb:b'≠b:=by rintro rfl;rw[o1] at hO;simp at hO
  simp[g',hbb,hO]
theorem alF{x:ASrc}{x':Operand}{k:EK}{xs:List (Ty k)}(h:SR g s w a)(hx:aI x x'=true)(hxe:x.ev s=.ul k xs):
  ∃p,pu (some p) (x.after s)∧zq g w p k xs (a.eval x'):=by
 unfold aI at hx
 split at hx
 ·rename_i n k'
  obtain rfl:=by simpa using hx
  simp only[ASrc.ev] at hxe
  exfalso
  cases hg:s.get n<;>rw[hg] at hxe<;>simp[disown] at hxe
 ·rename_i n k'
  obtain rfl:=by simpa using hx
  refine⟨.slot n,rl n s,?_⟩
  have:=h.er.getOwn n
  rw[show s.get n=.ul k xs from hxe] at this
  exact this
 ·rename_i v cv
  simp only[ASrc.ev] at hxe
  subst hxe
  exact⟨.res,trivial,ri hx _⟩
 ·rename_i f hf
  simp only[ASrc.ev] at hxe
  cases hxe
 ·simp at hx
theorem ajZ{p:Occ}{k:EK}{xs:List (Ty k)}{cv:Value}(h:zq g w p k xs cv):
  ∃L:List Value,L.length=xs.length*k.sz∧(∀(i:Nat) x (j:Nat) v,xs[i]? =some x→(enc k x)[j]? =some v→∃u,L[i*k.sz+j]? =some u∧VRel g.I (fun _=>0) 0 w v u)∧
   ((xs=[]∧cv=.slice none 0 0)∨∃b cap arr e fz,zp fz arr.size∧cv=.slice (some ⟨b,0,none⟩) xs.length cap∧xs.length≤cap∧w.heap[b]? =some (.cells arr e fz)∧cap*k.sz≤arr.size∧∀j v,L[j]? =some v→w.cell? ⟨b,j,none⟩=some v):=by
 rcases h with⟨rfl,rfl⟩|⟨b,cap,arr,e,fz,h0,h1,h2,h3,h4,h5,h6,h7,h8,h9⟩
 ·exact⟨[],by simp,by simp,.inl ⟨rfl,rfl⟩⟩
 ·have hle:xs.length*k.sz≤arr.size:=Nat.le_trans (Nat.mul_le_mul_right _ h2) h6
  refine⟨arr.toList.take (xs.length*k.sz),by simp;omega,?_,.inr ⟨b,cap,arr,e,fz,h0,h1,h2,h5,h6,?_⟩⟩
  ·intro i x j v hx hv
   have hj:j<k.sz:=by
    have:=(List.getElem?_eq_some_iff.1 hv).1
    rwa [bV] at this
   have hlt:=sR (List.getElem?_eq_some_iff.1 hx).1 hj
   have ha:arr[i*k.sz+j]? =some (arr[i*k.sz+j]'(by omega)):=Array.getElem?_eq_getElem _
   refine⟨_,?_,h9 i x j v _ hx hv ha⟩
   rw[List.getElem?_take,if_pos hlt,Array.getElem?_toList]
   exact ha
  ·intro j v hj
   rw[List.getElem?_take] at hj
   split at hj
   ·rw[Array.getElem?_toList] at hj
    rw[aD h5];exact hj
   ·simp at hj
theorem ajh(hβ:g.β=iW P){d:Nat}{k:EK}{x:ASrc}{x' y':Operand}{xs ys:List (Ty k)}{ty t u e:TypeId}{pos:String}{aft:Array Edge}{gd:Option (Nat×Bool)}(h:SR g s w a)
  (hx:aI x x'=true) (hxe:x.ev s=.ul k xs) (ut:P.underlying t=some (.slice e)) (he:rq P e k=true) (news:List Value)
  (hs:_root_.Go.Src P k.sz u (a.eval y') ys.length news w) (hv:∀(i:Nat) x (j:Nat) v,ys[i]? =some x→(enc k x)[j]? =some v→∃u,news[i*k.sz+j]? =some u∧VRel g.I (fun _=>0) 0 w v u)
  (hfit:(xs.length+ys.length)*k.bytes≤mN)
  (hn:bH g s w a ((x.after s).set d (.ul k (xs++ys))) next):
  (⟨some d,.call ⟨.builtin .append,⟨[x',y']⟩,⟨[t,u]⟩⟩,ty,pos,aft,gd⟩:Oper).wp P a w next Q:=by
 obtain⟨inf,z,i1,i2,i3,i4,i5,i6,i7⟩:=d8 he
 have hkb:0<k.bytes:=by cases k<;>simp[EK.bytes];rename_i kk;cases kk<;>simp[abS]
 have hlen:xs.length+ys.length≤mN:=Nat.le_trans (Nat.le_mul_of_pos_right _ hkb) hfit
 obtain⟨p,hp,ho⟩:=alF h hx hxe
 have h1:=h.after x
 obtain⟨L,l1,l3,l4⟩:=ajZ ho
 have hrun:∀cv w',(Builtin.append_ #[t,u] ty #[a.eval x',a.eval y']).run P w=.ok cv w'→(execOp a.eval ⟨some d,.call ⟨.builtin .append,⟨[x',y']⟩,⟨[t,u]⟩⟩,ty,pos,aft,gd⟩).run P w=.ok (.value cv) w':=by
  intro cv w' hr
  simp[execOp,resolve,invoke,builtin,hr]
 have hhp:(x.after s).hp=s.hp:=kH x s
 have grow:∀(base:Option Addr)(cap:Nat),a.eval x'=.slice base xs.length cap→cap<xs.length+ys.length→
   (Builtin.firstCells k.sz xs.length (.slice base xs.length cap)).run P w.drew=.ok L.toArray w.drew→
   (⟨some d,.call ⟨.builtin .append,⟨[x',y']⟩,⟨[t,u]⟩⟩,ty,pos,aft,gd⟩:Oper).wp P a w next Q:=by
  intro base cap hb hcap hold
  have hr:=run_append_grow_src w t u ty e inf z ut i1 i4 base xs.length cap L (by rw[i2];exact hold) (a.eval y') ys.length news (by rw[i2];exact hs) hcap (by unfold mN at hlen;omega)
   (growslice_fits hcap (by rw[i3];exact hfit))
  have hcapn:xs.length+ys.length≤grownCap w (xs.length+ys.length) cap e:=by
   unfold grownCap Question.cut
   exact Nat.le_add_right _ _
  have hcm:grownCap w (xs.length+ys.length) cap e≤cb:=by
   have:=grownCap_le_maxLen w (xs.length+ys.length) cap e (by unfold maxLen;unfold mN at hlen;omega)
   simpa [maxLen,cb] using this
  let arr:Array Value:=(L++news).toArray++Builtin.zeroCells z.cells (grownCap w (xs.length+ys.length) cap e-(xs.length+ys.length))
  have hnl:=hs.newsLen
  have harr:arr.size=grownCap w (xs.length+ys.length) cap e*k.sz:=by
   simp only[arr,Array.size_append,List.size_toArray,List.length_append,l1,hnl,size_zeroCells,i7]
   rw[←Nat.add_mul,←Nat.add_mul]
   congr 1
   omega
  have f:=fQ w.drew (.cells arr e)
  obtain⟨g',q1,q2⟩:=h1.newUL (w':=w.drew.alloc (.cells arr e)) k (xs++ys) (grownCap w (xs.length+ys.length) cap e) d arr e f.1 f.2.1 f.2.2 rfl rfl rfl (by simpa using hcapn) hcm (by rw[harr];exact Nat.le_refl _) (fun hk=>by rw[hβ];exact rk he hk) (akN _) (by
   intro i x j v hx hv'
   have hj:j<k.sz:=by
    have:=(List.getElem?_eq_some_iff.1 hv').1
    rwa [bV] at this
   have hleft:∀(q:Nat) u,(L++news)[q]? =some u→arr[q]? =some u:=by
    intro q u hq
    have hlt:=(List.getElem?_eq_some_iff.1 hq).1
    simp only[arr]
    rw[Array.getElem?_append_left (by simpa using hlt)]
    simpa using hq
   rcases Nat.lt_or_ge i xs.length with hi|hi
   ·rw[List.getElem?_append_left hi] at hx
    obtain⟨u,e1,e2⟩:=l3 i x j v hx hv'
    refine⟨u,hleft _ _ ?_,e2⟩
    rw[List.getElem?_append_left (List.getElem?_eq_some_iff.1 e1).1]
    exact e1
   ·rw[List.getElem?_append_right hi] at hx
    obtain⟨u,e1,e2⟩:=hv _ x j v hx hv'
    refine⟨u,hleft _ _ ?_,e2⟩
    have:i*k.sz=xs.length*k.sz+(i-xs.length)*k.sz:=by rw[←Nat.add_mul];congr 1;omega
    rw[List.getElem?_append_right (by rw[l1];omega),l1,←e1]
    congr 1
    omega)
  have hgoal:(execOp a.eval ⟨some d,.call ⟨.builtin .append,⟨[x',y']⟩,⟨[t,u]⟩⟩,ty,pos,aft,gd⟩).run P w=.ok (.value (.slice (some ⟨w.heap.size,0,none⟩) (xs++ys).length (grownCap w (xs.length+ys.length) cap e))) (w.drew.alloc (.cells arr e)):=by
   refine hrun _ _ ?_
   rw[hb,hr]
   simp[arr]
  refine cN rfl hgoal ⟨g',q1,?_⟩ hn
  rw[hhp] at q2
  show FR g s.hp w g' (x.after s).hp _
  rw[hhp]
  exact q2
 rcases l4 with⟨rfl,hcv⟩|⟨b,cap,arr,e',fz,hfz,hcv,hcap,hb,hsz,hcells⟩
 ·by_cases h0:ys.length=0
  ·have hy0:ys=[]:=List.eq_nil_of_length_eq_zero h0
   subst hy0
   have hr:(Builtin.append_ #[t,u] ty #[a.eval x',a.eval y']).run P w=.ok (.slice none 0 0) w:=by
    have hnews:news=[]:=by have:=hs.newsLen;simpa using this
    have hc:=hs.cells
    rw[hcv]
    rcases hs.kind with⟨e',hk⟩|hk<;>simp[Builtin.append_,run_underlying ut,run_underlying hk,sizeOf,typeInfo,i1,i2,hs.len] at* <;>simp[hc]
   refine cN rfl (hrun _ _ hr) ⟨g,?_,?_⟩ hn
   ·exact h1.set d (by simpa using VRel.ul (I:=g.I) (ρ:=g.ρ) (N:=(x.after s).hp.length) (w:=w) k ([]:List (Ty k)) none 0 (by simp)) (.inl ⟨by simp,rfl⟩)
   ·have:=FR.refl g s.hp w
    simpa [St.set,hhp] using this
  ·exact grow none 0 (by simpa using hcv) (by simp;omega) (by
    have hL:L=[]:=by simpa using l1
    subst hL
    simpa using run_firstCells_none (P:=P) w.drew k.sz 0 0 0)
 ·by_cases hroom:xs.length+ys.length≤cap
  ·rcases ho with⟨rfl,ho⟩|⟨b2,cap2,arr2,e2,fz2,m0,m1,m2,m3,m4,m5,m6,m7,m8,m9⟩
   ·rw[hcv] at ho;cases ho
   ·rw[hcv] at m1
    cases m1
    rw[hb] at m5
    cases m5
    have hend:xs.length*k.sz+news.length≤cap*k.sz:=by
     have:(xs.length+ys.length)*k.sz≤cap*k.sz:=Nat.mul_le_mul_right _ hroom
     rw[Nat.add_mul] at this
     rw[hs.newsLen]
     omega
    have hr:=run_append_room_src w t u ty e inf ut i1 b 0 xs.length cap (a.eval y') ys.length news (by rw[i2];exact hs) hroom (by
     intro j hj
     rw[i2,aD hb,Array.getElem?_eq_getElem (by omega)]
     rfl) (by
     intro j hj
     rw[i2]
     have hc:=hfz (0+xs.length*k.sz+j) (by omega)
     simp only[World.frozen?,hb,Bool.and_eq_false_iff,decide_eq_false_iff_not]
     omega)
    rw[i2,Nat.zero_add] at hr
    have q:=h1.inPlaceU hp k xs ys b cap d news m0 m4 hb m6 m7 m8 m9 m3 hroom hs.newsLen hv
    rw[hhp] at q
    refine cN rfl (hrun _ _ (by rw[hcv];exact hr)) ?_ hn
    obtain⟨g',q1,q2⟩:=q
    exact⟨g',q1,by simpa [St.set,hhp] using q2⟩
  ·exact grow _ cap hcv (by omega) (run_firstCells_some w.drew k.sz xs.length ⟨b,0,none⟩ xs.length cap L (by simpa using l1) (by
    intro j v hj
    rw[Addr.add_lit,Nat.zero_add]
    exact hcells j v hj))
theorem alG{d:Nat}{k:EK}{x y:ASrc}(hβ:g.β=iW P)(hc:j8 P (.apu d k x y) m=true)(hs:step Γ (.apu d k x y) s=some (true,s'))(h:SR g s w a)(hn:bH g s w a s' next):m.wp P a w next Q:=by
 obtain⟨dst,op,ty,pos,aft,gd⟩:=m
 simp only[j8,Bool.and_eq_true,beq_iff_eq] at hc
 obtain⟨rfl,hc⟩:=hc
 split at hc
 ·rename_i x' y' t u hop
  obtain rfl:=hJ hop
  simp only[Bool.and_eq_true] at hc
  obtain⟨h1,h2,h3,h4⟩:=hc
  obtain⟨e,u1,e1⟩:=b9 h1
  obtain⟨e',u2,e2⟩:=b9 h2
  simp only[step] at hs
  split at hs
  ·rename_i k' l k'' o mm hx hy
   split at hs
   ·rename_i hk
    subst hk
    split at hs
    ·rename_i hkk
     simp only[Option.some.injEq,Prod.mk.injEq,decide_eq_true_eq] at hs
     obtain⟨hfit,rfl⟩:=hs
     have r2:=aK h4 h.er
     rw[hy] at r2
     have r2:=ah7 hkk r2
     obtain⟨L,l1,l2,l3,l4⟩:=acC r2
     refine ajh hβ h h3 hx u1 e1 L (ys:=hkk▸mm) ?_ (fun i x j v hx hv=>by
      obtain⟨u,q1,q2⟩:=l3 i x j v hx hv
      exact⟨u,q1,qP hv q2⟩) (by rw[abY];exact hfit) hn
     rcases l4 with⟨hnil,ad,hcv, -⟩|⟨b,off,cap,hcv,hcap,hcm,hcells⟩
     ·rw[hcv,hnil]
      have hL:L=[]:=by rw[hnil] at l1;simpa using l1
      rw[hL]
      cases ad with
      |none=>exact _root_.Go.Src.ofNil w u2 0
      |some ad=>exact _root_.Go.Src.ofSlice w u2 _ _ _ _ (by simp) (by intro j v hj;simp at hj) (by simp)
     ·rw[hcv]
      exact _root_.Go.Src.ofSlice w u2 _ _ _ _ l1 (by intro j v hj;rw[Addr.add_lit];exact hcells j v hj) l2
    ·simp at hs
   ·simp at hs
  ·simp at hs
 ·simp at hc
theorem alH{d:Nat}{k:EK}(hβ:g.β=iW P)(hc:j8 P (.blu d k) m=true)(hs:step Γ (.blu d k) s=some (true,s'))(h:SR g s w a)(hn:bH g s w a s' next):m.wp P a w next Q:=by
 obtain⟨dst,op,ty,pos,aft,gd⟩:=m
 simp only[j8,Bool.and_eq_true,beq_iff_eq] at hc
 obtain⟨rfl,hc⟩:=hc
 split at hc
 ·rename_i t n qs
  simp only[Bool.and_eq_true,beq_iff_eq] at hc
  obtain⟨h1,rfl,h2⟩:=hc
  obtain rfl:_=s':=by simpa [step] using hs
  obtain⟨e,u1,h1⟩:=b9 h1
  obtain⟨inf,z,i1,i2,i3,i4,i5,i6,i7⟩:=d8 h1
  have hq:qs= #[]:=by simpa using h2
  have f:=fQ w (.cells (#[]:Array Value) e)
  obtain⟨g',q1,q2⟩:=h.newUL (w':=w.alloc (.cells (#[]:Array Value) e)) k [] 0 d #[] e f.1 f.2.1 f.2.2 rfl rfl rfl (by simp) (by unfold cb;omega) (by simp) (fun hk=>by rw[hβ];exact rk h1 hk) (akN _) (by simp)
  refine cN rfl (cv:=.slice (some ⟨w.heap.size,0,none⟩) 0 0) ?_ ⟨g',q1,q2⟩ hn
  simp[execOp,Instr.buildSlice,run_underlying u1,sizeOf,typeInfo,i1,i2,hq,Instr.fill,newRow]
  rw[show Array.range 0= #[] from Array.eq_empty_of_size_eq_zero (by simp),Array.map_empty]
 ·simp at hc
theorem alI{d:Nat}{x:ASrc}(hc:j8 P (.lnw d x) m=true)(hs:step Γ (.lnw d x) s=some (true,s'))(h:SR g s w a)(hn:bH g s w a s' next):m.wp P a w next Q:=by
 obtain⟨dst,op,ty,pos,aft,gd⟩:=m
 simp only[j8,Bool.and_eq_true,beq_iff_eq] at hc
 obtain⟨rfl,hc⟩:=hc
 split at hc
 ·rename_i x' t hop
  obtain rfl:=hJ hop
  simp only[Bool.and_eq_true] at hc
  obtain⟨h1,h3⟩:=hc
  have r1:=aK h3 h.er
  split at h1
  ·rename_i e u1
   simp only[step] at hs
   split at hs
   ·rename_i n hx
    obtain rfl:_=s':=by simpa using hs
    rw[hx] at r1
    generalize hcv:a.eval x'=cv at r1
    cases r1 with
    |hd _ ad cap hm=>
     refine aH h rfl (cv:=.int .i64 n) (by simp[execOp,resolve,hcv,invoke,builtin,Builtin.len_,run_underlying u1,goInt]) ?_ rfl hn
     exact .int _ _ (by simp[IntKind.min,IntKind.max,IntKind.signed,IntKind.bits,cb] at *;omega)
   ·rename_i k id n hx
    obtain rfl:_=s':=by simpa using hs
    rw[hx] at r1
    generalize hcv:a.eval x'=cv at r1
    cases r1 with
    |sw _ _ _ hid hcap hm=>
     refine aH h rfl (cv:=.int .i64 n) (by simp[execOp,resolve,hcv,invoke,builtin,Builtin.len_,run_underlying u1,goInt]) ?_ rfl hn
     exact .int _ _ (by simp[IntKind.min,IntKind.max,IntKind.signed,IntKind.bits,cb] at *;omega)
   ·simp at hs
  ·simp at h1
 ·simp at hc
theorem alJ{d:Nat}{k:EK}{x i:ASrc}(hc:j8 P (.ixw d k x i) m=true)(hs:step Γ (.ixw d k x i) s=some (true,s'))(h:SR g s w a)(hn:bH g s w a s' next):m.wp P a w next Q:=by
 obtain⟨dst,op,ty,pos,aft,gd⟩:=m
 simp only[j8,Bool.and_eq_true,beq_iff_eq] at hc
 obtain⟨rfl,hc⟩:=hc
 split at hc
 ·rename_i t x' i'
  simp only[Bool.and_eq_true] at hc
  obtain⟨h1,h2,h3⟩:=hc
  have r1:=aK h2 h.er
  have r2:=aK h3 h.er
  simp only[step] at hs
  split at hs
  ·rename_i k' id len ki n hx hi
   split at hs
   ·rename_i hk
    subst hk
    simp only[Option.some.injEq,Prod.mk.injEq,Bool.and_eq_true,decide_eq_true_eq] at hs
    obtain⟨⟨g1,g2⟩,rfl⟩:=hs
    rw[hx] at r1
    rw[hi] at r2
    obtain⟨e,u1,h1⟩:=b9 h1
    obtain⟨inf,z,i1,i2,i3,i4,i5,_⟩:=d8 h1
    generalize hcv:a.eval x'=cv at r1
    generalize hci:a.eval i'=ci at r2
    cases r2
    cases r1 with
    |sw _ _ _ hid hcap hm=>
     have hsz:∀w':World,(sizeOf e).run P w'=.ok k'.sz w':=fun w'=>by simp[sizeOf,typeInfo,i1,i2]
     refine aH h rfl (cv:=.pointer (some ⟨g.ρ id,n.toNat*k'.sz+0,none⟩)) ?_ (.wp _ _ _ _ hid) rfl hn
     simp[execOp,hcv,hci,Instr.indexAt,asIntOf,run_underlying u1,g1,g2,hsz,Addr.add_lit]
   ·simp at hs
  ·simp at hs
 ·simp at hc
theorem alK{d off:Nat}{x:ASrc}(hc:j8 P (.fdw d off x) m=true)(hs:step Γ (.fdw d off x) s=some (true,s'))(h:SR g s w a)(hn:bH g s w a s' next):m.wp P a w next Q:=by
 obtain⟨dst,op,ty,pos,aft,gd⟩:=m
 simp only[j8,aU,Bool.and_eq_true,beq_iff_eq] at hc
 obtain⟨rfl,hc⟩:=hc
 split at hc
 ·rename_i t x' fi
  simp only[Bool.and_eq_true] at hc
  obtain⟨h1,h2⟩:=hc
  have r1:=aK h2 h.er
  split at h1
  ·rename_i fs u1
   split at h1
   ·rename_i fd hfd
    simp only[Bool.and_eq_true,beq_iff_eq] at h1
    obtain⟨h0,h1⟩:=h1
    have hsz:∀w':World,∃n,n≠0∧(sizeOf fd.type).run P w'=.ok n w':=by
     intro w'
     unfold abV dM at h1
     split at h1
     ·rename_i n hn'
      exact⟨n,by simpa using h1,mj (by simpa [dM] using hn') w'⟩
     ·simp at h1
    obtain⟨n,hn0,hsz⟩:=hsz w
    simp only[step] at hs
    split at hs
    ·rename_i id k i o hx
     obtain rfl:_=s':=by simpa using hs
     rw[hx] at r1
     generalize hcv:a.eval x'=cv at r1
     cases r1 with
     |wp _ _ _ _ hid=>
      refine aH h rfl (cv:=.pointer (some ⟨g.ρ id,i*k.sz+(o+off),none⟩)) ?_ (.wp _ _ _ _ hid) rfl hn
      simp[execOp,hcv,Instr.fieldAt,run_underlying u1,hfd,Instr.sureAddr,fieldPlace,hsz,hn0,h0,Addr.add_lit,Nat.add_assoc]
    ·simp at hs
   ·simp at h1
  ·simp at h1
 ·simp at hc
theorem ww{id:Nat}{k:EK}{xs:List (Ty k)}(ho:s.rowW id=some ⟨k,xs⟩):s.hp[id]? =some (some [.rw k xs]):=by
 unfold St.rowW at ho
 simp only[List.getD] at ho
 cases hh:s.hp[id]? with
 |none=>rw[hh] at ho;simp at ho
 |some x=>
  rw[hh] at ho
  simp only[Option.getD_some] at ho
  split at ho
  ·simp only[Option.some.injEq] at ho
   cases ho
   rfl
  ·cases ho
theorem wz{k:EK}:∀(xs:List (Ty k))(i j:Nat)(x:Ty k)(v:V),xs[i]? =some x→(enc k x)[j]? =some v→(xs.flatMap (enc k))[i*k.sz+j]? =some v
 | [],i,j,x,v,h1,_=>by simp at h1
 |y::xs,0,j,x,v,h1,h2=>by
  simp at h1
  subst h1
  have hj:=(List.getElem?_eq_some_iff.1 h2).1
  simp only[List.flatMap_cons,Nat.zero_mul,Nat.zero_add]
  rw[List.getElem?_append_left hj]
  exact h2
 |y::xs,i+1,j,x,v,h1,h2=>by
  have ih:=wz xs i j x v (by simpa using h1) h2
  simp only[List.flatMap_cons]
  have hl:=bV k y
  rw[List.getElem?_append_right (by rw[hl,Nat.add_mul];omega),hl,←ih]
  congr 1
  rw[Nat.add_mul]
  omega
theorem br{k:EK}:∀(xs:List (Ty k)),(xs.flatMap (enc k)).length=xs.length*k.sz
 | []=>by simp
 |x::xs=>by simp[List.flatMap_cons,br xs,bV,Nat.add_mul];omega
theorem c5{k:EK}(xs:List (Ty k))(q:Nat)(v:V)(h:(xs.flatMap (enc k))[q]? =some v):∃x,xs[q / k.sz]? =some x∧(enc k x)[q%k.sz]? =some v:=by
 have hlt:=(List.getElem?_eq_some_iff.1 h).1
 rw[br] at hlt
 have hk0:0<k.sz:=by cases k<;>simp[EK.sz]
 have hi:q / k.sz<xs.length:=Nat.div_lt_of_lt_mul (by rw[Nat.mul_comm];exact hlt)
 have hr:q%k.sz<k.sz:=Nat.mod_lt _ hk0
 have hx:xs[q / k.sz]? =some xs[q / k.sz]:=List.getElem?_eq_getElem hi
 have hlen:q%k.sz<(enc k xs[q / k.sz]).length:=by rw[bV];exact hr
 refine⟨_,hx,?_⟩
 have:=wz xs _ _ _ _ hx (List.getElem?_eq_getElem hlen)
 rw[show q / k.sz*k.sz+q%k.sz=q by rw[Nat.mul_comm];exact Nat.div_add_mod q k.sz,h] at this
 rw[List.getElem?_eq_getElem hlen,←this]
theorem kJ{id:Nat}{k:EK}{xs:List (Ty k)}(h:SR g s w a)(ho:s.rowW id=some ⟨k,xs⟩):∃arr e fz,w.heap[g.ρ id]? =some (.cells arr e fz)∧xs.length*k.sz≤arr.size∧
  mO g s.hp.length w id [.rw k xs] arr e fz∧∀(i:Nat) x (j:Nat) v u,xs[i]? =some x→(enc k x)[j]? =some v→arr[i*k.sz+j]? =some u→VRel g.I g.ρ s.hp.length w v u:=by
 obtain⟨arr,e,fz,h1,h2⟩:=(h.hr.obj id _ (ww ho)).row rfl
 obtain⟨t1,t2,t3,t4⟩:=h2.typed k xs rfl
 have hl:xs.length*k.sz≤arr.size:=by
  have:=h2.len
  simp only[cellsOf] at this
  rwa [br] at this
 refine⟨arr,e,fz,h1,hl,h2,?_⟩
 intro i x j v u hx hv hu
 exact h2.rel (i*k.sz+j) v u (by simp only[cellsOf];exact wz xs i j x v hx hv) hu
theorem alL{d n:Nat}{agg:Bool}{x:ASrc}(hc:j8 P (.ldw d n agg x) m=true)(hs:step Γ (.ldw d n agg x) s=some (true,s'))(h:SR g s w a)(hn:bH g s w a s' next):m.wp P a w next Q:=by
 obtain⟨dst,op,ty,pos,aft,gd⟩:=m
 simp only[j8,aU,Bool.and_eq_true,beq_iff_eq] at hc
 obtain⟨rfl,hc⟩:=hc
 split at hc
 ·rename_i t x'
  simp only[Bool.and_eq_true,beq_iff_eq,Bool.or_eq_true] at hc
  obtain⟨h1,h2,h3,h4⟩:=hc
  have r1:=aK h4 h.er
  simp only[step] at hs
  split at hs
  ·rename_i id k i o hx
   split at hs
   ·rename_i k' xs ho
    split at hs
    ·rename_i hk
     obtain⟨rfl,hle⟩:=hk
     simp only[Option.some.injEq,Prod.mk.injEq,decide_eq_true_eq] at hs
     obtain⟨hi,rfl⟩:=hs
     rw[hx] at r1
     generalize hcv:a.eval x'=cv at r1
     cases r1 with
     |wp _ _ _ _ hid=>
      obtain⟨arr,e,fz,hb,hsz,hok,hrel⟩:=kJ h ho
      have hxi:xs[i]? =some xs[i]:=List.getElem?_eq_getElem hi
      have hd:xs.getD i (av k')=xs[i]:=by simp[List.getD,hxi]
      rw[hd] at hn
      have hel:=bV k' xs[i]
      have hend:i*k'.sz+k'.sz≤arr.size:=by
       have:(i+1)*k'.sz≤xs.length*k'.sz:=Nat.mul_le_mul_right _ hi
       rw[Nat.add_mul,Nat.one_mul] at this
       omega
      have hl:=pr (agg:=agg) (cs:=((enc k' xs[i]).drop o).take n) (vs:=(arr.toList.drop (i*k'.sz+o)).take n) (w:=w) (I:=g.I) (ρ:=g.ρ) (N:=s.hp.length)
       (fun c hcm=>qM k' _ c (List.mem_of_mem_drop (List.mem_of_mem_take hcm))) (by simp;omega) (by
        rcases h3 with h3|h3
        ·exact .inl h3
        ·right;simp;omega)
       (fun j c cv hc hcv=>by
        simp only[List.getElem?_take,List.getElem?_drop] at hc hcv
        split at hc
        ·rename_i hj
         simp only[hj,if_true] at hcv
         exact hrel i _ (o+j) c cv hxi hc (by rw[←Array.getElem?_toList,←Nat.add_assoc];exact hcv)
        ·simp at hc)
      refine aH h rfl (cv:=if agg then .agg ((arr.toList.drop (i*k'.sz+o)).take n).toArray else ((arr.toList.drop (i*k'.sz+o)).take n).headD undef) ?_ hl.disown (dz _) hn
      have:=ml (P:=P) (w:=w) (b:=g.ρ id) (o:=i*k'.sz+o) (vs:=(arr.toList.drop (i*k'.sz+o)).take n) h1 h2 h3 (by simp;omega) (fun j v hj=>by
       rw[aD hb]
       simp only[List.getElem?_take,List.getElem?_drop] at hj
       split at hj
       ·simpa using hj
       ·simp at hj)
      simp[execOp,hcv,this]
    ·simp at hs
   ·simp at hs
  ·simp at hs
 ·simp at hc
theorem aeR(v:V):disown (disown v)=disown v:=by
 cases v with
 |sl k o xs=>cases o<;>rfl
 |_=>rfl
theorem aji(v:V):v.weak.weak=v.weak:=by cases v<;>rfl
theorem af5{v:V}(h:v.inRange):v.weak.inRange:=by
 cases v<;>first|exact h|trivial
theorem aiu{k:EK}{x x':Ty k}{o:Nat}{vs:List V}(h:zo k x o vs=some x')(hx:∀c∈enc k x,c.inRange)(hr:∀c∈vs,c.inRange):
  enc k x'=((enc k x).take o++vs.map V.weak)++(enc k x).drop (o+vs.length):=by
 unfold zo at h
 rw[ah6 h ?_]
 ·rw[List.map_append,List.map_append,List.map_map,List.map_take,List.map_drop,ajV]
  congr 2
  exact List.map_congr_left fun c _=>aji c
 ·intro c hc
  rcases List.mem_append.1 hc with hc|hc
  ·rcases List.mem_append.1 hc with hc|hc
   ·exact hx c (List.mem_of_mem_take hc)
   ·obtain⟨v,hv,rfl⟩:=List.mem_map.1 hc
    exact af5 (hr v hv)
  ·exact hx c (List.mem_of_mem_drop hc)
theorem sS(k:EK)(x:Ty k)(j E n:Nat):(enc k x)[j]?≠some (.bn E n):=by
 intro h
 have:=abT k x _ (List.mem_of_getElem? h)
 simp[V.flat1] at this
theorem SR.putElt(h:SR g s w a){id i o:Nat}{k:EK}{xs:List (Ty k)}(ho:s.rowW id=some ⟨k,xs⟩)(hi:i<xs.length){x':Ty k}{vs:List V}{us:List Value}(hl:vs.length=us.length)(hle:o+vs.length≤k.sz)
  (he:enc k x'=((enc k xs[i]).take o++vs.map V.weak)++(enc k xs[i]).drop (o+vs.length))
  (hv:∀(j:Nat) c cv,vs[j]? =some c→us[j]? =some cv→VRel g.I g.ρ s.hp.length w c cv):
  SR g (s.setObj id [.rw k (xs.set i x')]) (w.setCells (g.ρ id) (i*k.sz+o) us) a∧FR g s.hp w g (s.hp.set id (some [.rw k (xs.set i x')])) (w.setCells (g.ρ id) (i*k.sz+o) us):=by
 have hid:=ww ho
 obtain⟨arr,e,fz,hb,hsz,hok,hrel⟩:=kJ h ho
 obtain⟨t1,t2,t3,t4⟩:=hok.typed k xs rfl
 obtain⟨⟨arr',q1,q2⟩,q3,q4,q5,q6,q7⟩:=gY (g.ρ id) us (i*k.sz+o) w arr e fz hb
 let w':=w.setCells (g.ρ id) (i*k.sz+o) us
 have hend:i*k.sz+k.sz≤arr.size:=by
  have:(i+1)*k.sz≤xs.length*k.sz:=Nat.mul_le_mul_right _ hi
  rw[Nat.add_mul,Nat.one_mul] at this
  omega
 have ilt:∀b j,g.I b j→b≠g.ρ id:=by
  rintro b j hi rfl
  exact h.hr.notI id _ hid j hi
 have cello:∀b j,g.I b j→w'.cell? ⟨b,j,none⟩=w.cell? ⟨b,j,none⟩:=by
  intro b j hi
  exact World.cell?_setCells_out _ _ _ w _ (fun e=>absurd e (ilt b j hi))
 have u:Up g.I g.ρ s.hp.length w g.I g.ρ s.hp.length w':=⟨fun _ _ h=>h,cello,fun _ _=>rfl,Nat.le_refl _⟩
 have okeep:∀occ v cv,ax g w occ v cv→ax g w' occ v cv:=by
  intro occ v cv hoo
  refine bK hoo rfl (fun b j hi=>⟨u.mono b j hi,u.cell b j hi⟩) ?_
  intro b hbo
  refine⟨hbo,q3 b ?_,fun j hj=>hj⟩
  rintro rfl
  rw[h.hr.notO id _ hid] at hbo
  simp at hbo
 have harr:∀j,arr'[j]? =if i*k.sz+o≤j∧j<i*k.sz+o+us.length then us[j-(i*k.sz+o)]? else arr[j]?:=by
  intro j
  rw[←aD q1 j]
  split
  ·rename_i hj
   have:=World.cell?_setCells_in (g.ρ id) us (i*k.sz+o) w (fun j' hj'=>by rw[aD hb,Array.getElem?_eq_getElem (by omega)];rfl) (j-(i*k.sz+o)) (by omega)
   rw[show i*k.sz+o+(j-(i*k.sz+o))=j by omega] at this
   rw[List.getElem?_eq_getElem (by omega)]
   exact this
  ·rename_i hj
   rw[World.cell?_setCells_out _ _ _ w _ (fun _ _=>by simp only;omega),aD hb]
 have hll:id<s.hp.length:=(List.getElem?_eq_some_iff.1 hid).1
 have split:∀(id':Nat) o',(s.hp.set id (some [V.rw k (xs.set i x')]))[id']? =some (some o')→(id'=id∧o'=[V.rw k (xs.set i x')])∨(id'≠id∧s.hp[id']? =some (some o')):=by
  intro id' o' hq
  rw[List.getElem?_set] at hq
  split at hq
  ·rename_i e
   simp[hll] at hq
   exact .inl ⟨e.symm,hq.symm⟩
  ·rename_i e
   exact .inr ⟨fun e'=>e e'.symm,hq⟩
 have old:∀(id':Nat) o',(s.hp.set id (some [V.rw k (xs.set i x')]))[id']? =some (some o')→∃o'',s.hp[id']? =some (some o''):=by
  intro id' o' hq
  rcases split id' o' hq with⟨rfl,_⟩|⟨_,hq⟩
  ·exact⟨_,hid⟩
  ·exact⟨_,hq⟩
 have hk0:0<k.sz:=by cases k<;>simp[EK.sz]
 have hxi:xs[i]? =some xs[i]:=List.getElem?_eq_getElem hi
 have hnew:∀(q:Nat) c cv,(cellsOf [V.rw k (xs.set i x')])[q]? =some c→arr'[q]? =some cv→VRel g.I g.ρ s.hp.length w' c cv:=by
  intro q c cv hc hcv
  simp only[cellsOf] at hc
  obtain⟨y,hy,hc⟩:=c5 _ q c hc
  have hq:q / k.sz*k.sz+q%k.sz=q:=by rw[Nat.mul_comm];exact Nat.div_add_mod q k.sz
  have hr:q%k.sz<k.sz:=Nat.mod_lt _ hk0
  rw[harr] at hcv
  rw[List.getElem?_set] at hy
  split at hy
  ·rename_i e1
   rw[←e1] at hq
   simp only[hi,if_true,Option.some.injEq] at hy
   subst hy
   have hel:=bV k xs[i]
   have hg:=abZ (enc k xs[i]) (vs.map V.weak) o (by simp only[List.length_map];omega) (q%k.sz)
   simp only[List.length_map] at hg
   rw[he,hg] at hc
   split at hc
   ·rename_i hj
    rw[if_pos (by omega)] at hcv
    rw[List.getElem?_map,Option.map_eq_some_iff] at hc
    obtain⟨v,hv',rfl⟩:=hc
    rw[show q-(i*k.sz+o)=q%k.sz-o by omega] at hcv
    exact((hv _ v cv hv' hcv).weak).up u
   ·rename_i hj
    rw[if_neg (by omega)] at hcv
    exact(hrel i _ (q%k.sz) c cv hxi hc (by rw[hq];exact hcv)).up u
  ·rename_i e1
   rw[if_neg ?_] at hcv
   ·exact(hrel _ y (q%k.sz) c cv hy hc (by rw[hq];exact hcv)).up u
   ·intro hh
    rcases Nat.lt_or_ge (q / k.sz) i with h1|h1
    ·have:=sR h1 hr
     omega
    ·have h2:i<q / k.sz:=by omega
     have:(i+1)*k.sz≤q / k.sz*k.sz:=Nat.mul_le_mul_right _ h2
     rw[Nat.add_mul,Nat.one_mul] at this
     omega
 refine⟨⟨⟨?_,?_,?_,?_,?_,?_⟩,⟨h.er.size,?_,?_⟩⟩,⟨rfl,q5,q6,q7,by rw[q4];exact Nat.le_refl _,?_,?_,fun _ _ _ _ _ hi=>hi,fun _ _ _ hO=>hO,?_⟩⟩
 ·intro id' o' hq
  simp only[St.setObj,List.length_set]
  rcases split id' o' hq with⟨rfl,rfl⟩|⟨hne,hq⟩
  ·refine fP.ofRow (e:=e) q1 ⟨?_,(by intro hf;cases hf),?_,(fun j hj=>t1 j (Nat.lt_of_lt_of_le hj (by simp only[cellsOf,br,List.length_set];exact hsz))),?_,hnew,?_,?_⟩ rfl
   ·simp only[cellsOf,br,List.length_set,q2]
    exact hsz
   ·intro k2 ys hz
    simp only[List.cons.injEq,and_true] at hz
    cases hz
    exact⟨by rw[q2];exact t1,by rw[q2];exact t2,t3,t4⟩
   ·intro c hc
    simp only[cellsOf,List.mem_flatMap] at hc
    obtain⟨y,_,hc⟩:=hc
    exact qM k y c hc
   ·intro j c cv hc hcv
    have hm:=List.mem_of_getElem? hc
    simp only[cellsOf,List.mem_flatMap] at hm
    obtain⟨y,_,hm⟩:=hm
    exact iI (qO k y c hm) _ _ _ _
   ·intro j E n hc
    simp only[cellsOf] at hc
    obtain⟨y,_,hc⟩:=c5 _ j _ hc
    exact absurd hc (sS k y _ E n)
  ·refine(h.hr.obj id' o' hq).keep ?_ fun arr2 e2 fz2 k1 k2=>⟨k2.len,k2.plain,k2.typedUp rfl u.rho u.num rfl,k2.cold,k2.one,fun j c cv hc hcv=>(k2.rel j c cv hc hcv).up u,fun j c cv hc hcv=>okeep _ _ _ (k2.own j c cv hc hcv),k2.bn⟩
   rw[q3 _ (h.hr.apart id' id o' _ hq hid hne)]
 ·intro id1 id2 c1 c2 k1 k2 hne
  obtain⟨_,k1⟩:=old id1 c1 k1
  obtain⟨_,k2⟩:=old id2 c2 k2
  exact h.hr.apart _ _ _ _ k1 k2 hne
 ·intro id1 c1 k1
  obtain⟨_,k1⟩:=old id1 c1 k1
  exact h.hr.notI _ _ k1
 ·intro id1 c1 k1
  obtain⟨_,k1⟩:=old id1 c1 k1
  exact h.hr.notO _ _ k1
 ·intro b j hi
  rw[cello b j hi]
  exact h.hr.exI b j hi
 ·intro b oc hbo
  rw[q4]
  exact h.hr.oLt b oc hbo
 ·intro n v cv hq hcv
  simp only[St.setObj,List.length_set]
  exact(h.er.rel n v cv hq hcv).up u
 ·intro n v cv hq hcv
  exact okeep _ _ _ (h.er.own n v cv hq hcv)
 ·intro b _ hno _
  exact q3 b (fun e=>hno id _ hid e.symm)
 ·simp only[List.length_set]
  exact u
 ·intro id' o' hq
  obtain⟨o'',hq⟩:=old id' o' hq
  exact .inl ⟨o'',hq⟩
theorem SR.setRow(h:SR g s w a){id p:Nat}{k:EK}{xs ys:List (Ty k)}(ho:s.rowW id=some ⟨k,xs⟩){us:List Value}(hp:p+us.length≤xs.length*k.sz)(hys:ys.length≤xs.length)
  (hv:∀(q:Nat) c cv,(ys.flatMap (enc k))[q]? =some c→(if p≤q∧q<p+us.length then us[q-p]? else w.cell? ⟨g.ρ id,q,none⟩)=some cv→VRel g.I g.ρ s.hp.length w c cv):
  SR g (s.setObj id [.rw k ys]) (w.setCells (g.ρ id) p us) a∧FR g s.hp w g (s.hp.set id (some [.rw k ys])) (w.setCells (g.ρ id) p us):=by
 have hid:=ww ho
 obtain⟨arr,e,fz,hb,hsz,hok,hrel⟩:=kJ h ho
 obtain⟨t1,t2,t3,t4⟩:=hok.typed k xs rfl
 obtain⟨⟨arr',q1,q2⟩,q3,q4,q5,q6,q7⟩:=gY (g.ρ id) us (p) w arr e fz hb
 let w':=w.setCells (g.ρ id) (p) us
 have hyz:ys.length*k.sz≤xs.length*k.sz:=Nat.mul_le_mul_right _ hys
 have ilt:∀b j,g.I b j→b≠g.ρ id:=by
  rintro b j hi rfl
  exact h.hr.notI id _ hid j hi
 have cello:∀b j,g.I b j→w'.cell? ⟨b,j,none⟩=w.cell? ⟨b,j,none⟩:=by
  intro b j hi
  exact World.cell?_setCells_out _ _ _ w _ (fun e=>absurd e (ilt b j hi))
 have u:Up g.I g.ρ s.hp.length w g.I g.ρ s.hp.length w':=⟨fun _ _ h=>h,cello,fun _ _=>rfl,Nat.le_refl _⟩
 have okeep:∀occ v cv,ax g w occ v cv→ax g w' occ v cv:=by
  intro occ v cv hoo
  refine bK hoo rfl (fun b j hi=>⟨u.mono b j hi,u.cell b j hi⟩) ?_
  intro b hbo
  refine⟨hbo,q3 b ?_,fun j hj=>hj⟩
  rintro rfl
  rw[h.hr.notO id _ hid] at hbo
  simp at hbo
 have harr:∀j,arr'[j]? =if p≤j∧j<p+us.length then us[j-(p)]? else arr[j]?:=by
  intro j
  rw[←aD q1 j]
  split
  ·rename_i hj
   have:=World.cell?_setCells_in (g.ρ id) us (p) w (fun j' hj'=>by rw[aD hb,Array.getElem?_eq_getElem (by omega)];rfl) (j-(p)) (by omega)
   rw[show p+(j-(p))=j by omega] at this
   rw[List.getElem?_eq_getElem (by omega)]
   exact this
  ·rename_i hj
   rw[World.cell?_setCells_out _ _ _ w _ (fun _ _=>by simp only;omega),aD hb]
 have hll:id<s.hp.length:=(List.getElem?_eq_some_iff.1 hid).1
 have split:∀(id':Nat) o',(s.hp.set id (some [V.rw k (ys)]))[id']? =some (some o')→(id'=id∧o'=[V.rw k (ys)])∨(id'≠id∧s.hp[id']? =some (some o')):=by
  intro id' o' hq
  rw[List.getElem?_set] at hq
  split at hq
  ·rename_i e
   simp[hll] at hq
   exact .inl ⟨e.symm,hq.symm⟩
  ·rename_i e
   exact .inr ⟨fun e'=>e e'.symm,hq⟩
 have old:∀(id':Nat) o',(s.hp.set id (some [V.rw k (ys)]))[id']? =some (some o')→∃o'',s.hp[id']? =some (some o''):=by
  intro id' o' hq
  rcases split id' o' hq with⟨rfl,_⟩|⟨_,hq⟩
  ·exact⟨_,hid⟩
  ·exact⟨_,hq⟩
 have hnew:∀(q:Nat) c cv,(cellsOf [V.rw k ys])[q]? =some c→arr'[q]? =some cv→VRel g.I g.ρ s.hp.length w' c cv:=by
  intro q c cv hc hcv
  simp only[cellsOf] at hc
  rw[harr] at hcv
  refine(hv q c cv hc ?_).up u
  split
  ·rename_i hj;rw[if_pos hj] at hcv;exact hcv
  ·rename_i hj;rw[if_neg hj] at hcv;rw[aD hb];exact hcv
 refine⟨⟨⟨?_,?_,?_,?_,?_,?_⟩,⟨h.er.size,?_,?_⟩⟩,⟨rfl,q5,q6,q7,by rw[q4];exact Nat.le_refl _,?_,?_,fun _ _ _ _ _ hi=>hi,fun _ _ _ hO=>hO,?_⟩⟩
 ·intro id' o' hq
  simp only[St.setObj,List.length_set]
  rcases split id' o' hq with⟨rfl,rfl⟩|⟨hne,hq⟩
  ·refine fP.ofRow (e:=e) q1 ⟨?_,(by intro hf;cases hf),?_,(fun j hj=>t1 j (Nat.lt_of_lt_of_le hj (by simp only[cellsOf,br];omega))),?_,hnew,?_,?_⟩ rfl
   ·simp only[cellsOf,br,q2]
    omega
   ·intro k2 ys hz
    simp only[List.cons.injEq,and_true] at hz
    cases hz
    exact⟨by rw[q2];exact t1,by rw[q2];exact t2,t3,t4⟩
   ·intro c hc
    simp only[cellsOf,List.mem_flatMap] at hc
    obtain⟨y,_,hc⟩:=hc
    exact qM k y c hc
   ·intro j c cv hc hcv
    have hm:=List.mem_of_getElem? hc
    simp only[cellsOf,List.mem_flatMap] at hm
    obtain⟨y,_,hm⟩:=hm
    exact iI (qO k y c hm) _ _ _ _
   ·intro j E n hc
    simp only[cellsOf] at hc
    obtain⟨y,_,hc⟩:=c5 _ j _ hc
    exact absurd hc (sS k y _ E n)
  ·refine(h.hr.obj id' o' hq).keep ?_ fun arr2 e2 fz2 k1 k2=>⟨k2.len,k2.plain,k2.typedUp rfl u.rho u.num rfl,k2.cold,k2.one,fun j c cv hc hcv=>(k2.rel j c cv hc hcv).up u,fun j c cv hc hcv=>okeep _ _ _ (k2.own j c cv hc hcv),k2.bn⟩
   rw[q3 _ (h.hr.apart id' id o' _ hq hid hne)]
 ·intro id1 id2 c1 c2 k1 k2 hne
  obtain⟨_,k1⟩:=old id1 c1 k1
  obtain⟨_,k2⟩:=old id2 c2 k2
  exact h.hr.apart _ _ _ _ k1 k2 hne
 ·intro id1 c1 k1
  obtain⟨_,k1⟩:=old id1 c1 k1
  exact h.hr.notI _ _ k1
 ·intro id1 c1 k1
  obtain⟨_,k1⟩:=old id1 c1 k1
  exact h.hr.notO _ _ k1
 ·intro b j hi
  rw[cello b j hi]
  exact h.hr.exI b j hi
 ·intro b oc hbo
  rw[q4]
  exact h.hr.oLt b oc hbo
 ·intro n v cv hq hcv
  simp only[St.setObj,List.length_set]
  exact(h.er.rel n v cv hq hcv).up u
 ·intro n v cv hq hcv
  exact okeep _ _ _ (h.er.own n v cv hq hcv)
 ·intro b _ hno _
  exact q3 b (fun e=>hno id _ hid e.symm)
 ·simp only[List.length_set]
  exact u
 ·intro id' o' hq
  obtain⟨o'',hq⟩:=old id' o' hq
  exact .inl ⟨o'',hq⟩
theorem aj0(h:SR g s w a){id:Nat}{k:EK}{xs:List (Ty k)}(ho:s.rowW id=some ⟨k,xs⟩)(o n:Nat)(hn:o+n≤xs.length):∃news:List Value,news.length=n*k.sz∧
  (∀j u,news[j]? =some u→w.cell? ⟨g.ρ id,o*k.sz+j,none⟩=some u)∧(∀u∈news,u.oneCell'=true)∧
  ∀(q:Nat) c cv,(((xs.drop o).take n).flatMap (enc k))[q]? =some c→news[q]? =some cv→VRel g.I g.ρ s.hp.length w c cv:=by
 obtain⟨arr,e,fz,hb,hsz,hok,hrel⟩:=kJ h ho
 have hk0:0<k.sz:=by cases k<;>simp[EK.sz]
 have hle:o*k.sz+n*k.sz≤arr.size:=by
  have:(o+n)*k.sz≤xs.length*k.sz:=Nat.mul_le_mul_right _ hn
  rw[Nat.add_mul] at this
  omega
 have hget:∀q u,((arr.toList.drop (o*k.sz)).take (n*k.sz))[q]? =some u→q<n*k.sz∧arr[o*k.sz+q]? =some u:=by
  intro q u hq
  rw[List.getElem?_take] at hq
  split at hq
  ·rename_i hlt
   rw[List.getElem?_drop,Array.getElem?_toList] at hq
   exact⟨hlt,hq⟩
  ·cases hq
 have rel:∀(q:Nat) c cv,(((xs.drop o).take n).flatMap (enc k))[q]? =some c→((arr.toList.drop (o*k.sz)).take (n*k.sz))[q]? =some cv→VRel g.I g.ρ s.hp.length w c cv:=by
  intro q c cv hc hcv
  obtain⟨h1,h2⟩:=hget q cv hcv
  obtain⟨x,hx,hj⟩:=c5 _ q c hc
  have hx':xs[o+q / k.sz]? =some x:=by
   rw[List.getElem?_take] at hx
   split at hx
   ·rwa [List.getElem?_drop] at hx
   ·cases hx
  refine hrel _ x _ c cv hx' hj ?_
  rw[Nat.add_mul,Nat.add_assoc,show q / k.sz*k.sz+q%k.sz=q by rw[Nat.mul_comm];exact Nat.div_add_mod q k.sz]
  exact h2
 refine⟨(arr.toList.drop (o*k.sz)).take (n*k.sz),by simp;omega,fun j u hj=>?_,fun u hu=>?_,rel⟩
 ·rw[aD hb];exact(hget j u hj).2
 ·obtain⟨j,hj,rfl⟩:=List.mem_iff_getElem.1 hu
  have hjl:j<n*k.sz:=by simp at hj;omega
  have hfl:(((xs.drop o).take n).flatMap (enc k)).length=n*k.sz:=by rw[br,List.length_take,List.length_drop];congr 1;omega
  have hc:=List.getElem?_eq_getElem (l:=((xs.drop o).take n).flatMap (enc k)) (i:=j) (by rw[hfl];exact hjl)
  refine(rel j _ _ hc (List.getElem?_eq_getElem hj)).oneCell ?_
  obtain⟨x,_,hm⟩:=List.mem_flatMap.1 (List.getElem_mem (l:=((xs.drop o).take n).flatMap (enc k)) (n:=j) (by rw[hfl];exact hjl))
  exact qM k x _ hm
theorem alM{d:Nat}{k:EK}{x:ASrc}{lo hi:Option ASrc}(hc:j8 P (.slw d k x lo hi) m=true)(hs:step Γ (.slw d k x lo hi) s=some (true,s'))(h:SR g s w a)(hn:bH g s w a s' next):m.wp P a w next Q:=by
 obtain⟨dst,op,ty,pos,aft,gd⟩:=m
 simp only[j8,Bool.and_eq_true,beq_iff_eq] at hc
 obtain⟨rfl,hc⟩:=hc
 split at hc
 ·rename_i t x' lo' hi'
  simp only[Bool.and_eq_true] at hc
  obtain⟨h1,h2,h3,h4⟩:=hc
  have r1:=aK h2 h.er
  simp only[step,ajU] at hs
  split at hs
  ·rename_i k' id n hx
   split at hs
   ·rename_i hk
    subst hk
    simp only[Option.map_map,Option.map_eq_some_iff,Function.comp] at hs
    obtain⟨⟨c,p,q⟩,hv,hs⟩:=hs
    simp only[Prod.mk.injEq] at hs
    obtain⟨rfl,rfl⟩:=hs
    rw[hx] at r1
    obtain⟨e,u1,h1⟩:=b9 h1
    obtain⟨inf,z,i1,i2,i3,i4,i5,_⟩:=d8 h1
    have hsz:∀w':World,(sizeOf e).run P w'=.ok k'.sz w':=fun w'=>by simp[sizeOf,typeInfo,i1,i2]
    generalize hcv:a.eval x'=cv at r1
    cases r1 with
    |sw _ _ _ hid hcap hmax=>
     obtain⟨e1,e2,e3⟩:=sO (P:=P) (isS:=true) hcap h3 h4 hv h
     have hrun:(execOp a.eval ⟨some d,.slice t x' lo' hi' none,ty,pos,aft,gd⟩).run P w=.ok (.value (.slice (some ⟨g.ρ id,if g.ρ (id+1)=p then 0 else p*k'.sz,none⟩) (q-p) (g.ρ (id+1)-p))) w:=by
      by_cases hcp:g.ρ (id+1)=p
      ·rw[hcp] at e1
       simp[execOp,hcv,Instr.sliceAt,Instr.slice,run_underlying u1,e1,hsz,hcp]
      ·simp[execOp,hcv,Instr.sliceAt,Instr.slice,run_underlying u1,e1,hsz,hcp,Addr.add_lit]
     refine aH h rfl hrun ?_ (by cases lo<;>rfl) hn
     cases lo with
     |none=>
      have hp0:p=0:=by
       cases hi with
       |none=>simp[cR,rN] at hv;omega
       |some y=>
        simp only[cR] at hv
        cases hy:y.ev s<;>rw[hy] at hv<;>simp[rN] at hv
        omega
      subst hp0
      simp only[cR,Nat.zero_mul,ite_self,Nat.sub_zero]
      exact .sw k' id q hid (by omega) hmax
     |some y=>
      simp only[cR]
      refine .sx k' id p (q-p) _ _ hid (by omega) hmax (by omega) (fun h0=>?_)
      rw[if_neg (by omega)]
   ·simp at hs
  ·simp at hs
 ·simp at hc
theorem alN{d:Nat}{k:EK}{x y:ASrc}(hc:j8 P (.apx d k x y) m=true)(hs:step Γ (.apx d k x y) s=some (true,s'))(h:SR g s w a)(hn:bH g s w a s' next):m.wp P a w next Q:=by
 obtain⟨dst,op,ty,pos,aft,gd⟩:=m
 simp only[j8,Bool.and_eq_true,beq_iff_eq] at hc
 obtain⟨rfl,hc⟩:=hc
 split at hc
 ·rename_i x' y' t u hop
  obtain rfl:=hJ hop
  simp only[Bool.and_eq_true] at hc
  obtain⟨h1,h2,h3,h4⟩:=hc
  obtain⟨e,u1,e1⟩:=b9 h1
  obtain⟨e',u2,e2⟩:=b9 h2
  simp only[step,adr] at hs
  split at hs
  ·rename_i k1 id n k2 id2 o b hx hy
   split at hs
   ·rename_i k' xs hrow
    have hrow:s.rowW id=some ⟨k',xs⟩:=hrow
    split at hs
    ·rename_i hk
     obtain⟨rfl,rfl,rfl,he⟩:=hk
     obtain rfl:=he.symm
     simp only[Option.map_some,Option.some.injEq,Prod.mk.injEq,Bool.and_eq_true,decide_eq_true_eq] at hs
     obtain⟨⟨l1,l2⟩,rfl⟩:=hs
     have r1:=aK h3 h.er
     have r2:=aK h4 h.er
     rw[hx] at r1
     rw[hy] at r2
     generalize hcx:a.eval x'=cx at r1
     generalize hcy:a.eval y'=cy at r2
     obtain⟨inf,z,i1,i2,i3,i4,i5,i6,i7⟩:=d8 e1
     obtain⟨news,n1,n2,n3,n4⟩:=aj0 h hrow o b l2
     obtain⟨arr,er,fz,hb,hsz,hok,hrel⟩:=kJ h hrow
     have hend:n*k.sz+b*k.sz≤xs.length*k.sz:=by
      rw[←Nat.add_mul];exact Nat.mul_le_mul_right _ (by omega)
     have hk0:0<k.sz:=by cases k<;>simp[EK.sz]
     cases r1 with
     |sw _ _ _ hid hcap hmax=>
     cases r2 with
     |sx _ _ _ _ ad cap hid2 hc2 hm2 hl2 ha2=>
      have hsrc:_root_.Go.Src P k.sz u (.slice (some ⟨g.ρ id,ad,none⟩) b cap) b news w:=by
       refine _root_.Go.Src.ofSlice w u2 _ _ _ _ n1 (fun j v hj=>?_) n3
       rw[Addr.add_lit]
       have hb0:0<b:=by
        have:=(List.getElem?_eq_some_iff.1 hj).1
        rw[n1] at this
        rcases Nat.eq_zero_or_pos b with h0|h0
        ·rw[h0] at this;omega
        ·exact h0
       rw[ha2 hb0]
       exact n2 j v hj
      have hcapl:n+b≤g.ρ (id+1):=by omega
      have hr:=run_append_room_src w t u ty e inf u1 i1 (g.ρ id) 0 n (g.ρ (id+1)) _ b news (by rw[i2];exact hsrc) hcapl (by
       intro j hj
       rw[i2,aD hb,Array.getElem?_eq_getElem (by omega)]
       rfl) (by
       intro j hj
       rw[i2]
       have hc:=(hok.typed k xs rfl).1 (0+n*k.sz+j) (by omega)
       simp only[World.frozen?,hb,Bool.and_eq_false_iff,decide_eq_false_iff_not]
       omega)
      rw[i2,Nat.zero_add] at hr
      have hrun:(execOp a.eval ⟨some d,.call ⟨.builtin .append,⟨[x',y']⟩,⟨[t,u]⟩⟩,ty,pos,aft,gd⟩).run P w=.ok (.value (.slice (some ⟨g.ρ id,0,none⟩) (n+b) (g.ρ (id+1)))) (w.setCells (g.ρ id) (n*k.sz) news):=by
       simp[execOp,resolve,invoke,builtin,hcx,hcy,hr]
      obtain⟨p1,p2⟩:=h.setRow (p:=n*k.sz) (us:=news) (ys:=xs.take n++(xs.drop o).take b) hrow (by omega) (by simp;omega) (by
       intro q c cv hc hcv
       rw[List.flatMap_append] at hc
       have ht:((xs.take n).flatMap (enc k)).length=n*k.sz:=by rw[br,List.length_take];congr 1;omega
       by_cases hq:q<n*k.sz
       ·rw[if_neg (by omega),aD hb] at hcv
        rw[List.getElem?_append_left (by omega)] at hc
        obtain⟨y,hy,hj⟩:=c5 _ q c hc
        rw[List.getElem?_take] at hy
        split at hy
        ·refine hrel _ y _ c cv hy hj ?_
         rw[show q / k.sz*k.sz+q%k.sz=q by rw[Nat.mul_comm];exact Nat.div_add_mod q k.sz]
         exact hcv
        ·cases hy
       ·rw[List.getElem?_append_right (by omega),ht] at hc
        have hlt:=(List.getElem?_eq_some_iff.1 hc).1
        rw[br,List.length_take,List.length_drop] at hlt
        have hle:min b (xs.length-o)*k.sz≤b*k.sz:=Nat.mul_le_mul_right _ (Nat.min_le_left _ _)
        rw[if_pos (by omega)] at hcv
        exact n4 _ c cv hc hcv)
      refine cN rfl hrun ⟨g,?_,?_⟩ hn
      ·have hl:(s.setObj id [V.rw k (xs.take n++(xs.drop o).take b)]).hp.length=s.hp.length:=by simp[St.setObj]
       refine p1.set d ?_ (iI rfl _ _ _ _)
       rw[hl]
       exact .sw k id (n+b) hid hcapl hmax
      ·exact p2
    ·simp at hs
   ·simp at hs
  ·simp at hs
 ·simp at hc
theorem alO{d:Option Nat}{n:Nat}{x v:ASrc}(hc:j8 P (.stw d n x v) m=true)(hs:step Γ (.stw d n x v) s=some (true,s'))(h:SR g s w a)(hn:bH g s w a s' next):m.wp P a w next Q:=by
 obtain⟨dst,op,ty,pos,aft,gd⟩:=m
 simp only[j8,Bool.and_eq_true,beq_iff_eq] at hc
 obtain⟨rfl,hc⟩:=hc
 split at hc
 ·rename_i t x' v'
  simp only[Bool.and_eq_true,beq_iff_eq] at hc
  obtain⟨h1,h2,h3⟩:=hc
  have r1:=aK h2 h.er
  have r2:=aK h3 h.er
  simp only[step] at hs
  split at hs
  ·rename_i id k i o hx
   split at hs
   ·rename_i k' xs ho
    split at hs
    ·rename_i hcond
     obtain⟨rfl,hle,hcond⟩:=hcond
     simp only[Bool.and_eq_true,beq_iff_eq] at hcond
     obtain⟨hln,hone⟩:=hcond
     split at hs
     ·rename_i x2 hel
      simp only[Option.some.injEq,Prod.mk.injEq,decide_eq_true_eq] at hs
      obtain⟨hi,rfl⟩:=hs
      have hd:xs.getD i (av k')=xs[i]:=by simp[List.getD,List.getElem?_eq_getElem hi]
      rw[hd] at hel
      rw[hx] at r1
      generalize hcx:a.eval x'=cx at r1
      cases r1 with
      |wp _ _ _ _ hid=>
       obtain⟨arr,e,fz,hb,hsz,hok,hrel⟩:=kJ h ho
       obtain⟨c1,c2,c3⟩:=tV r2 hone
       have hsz2:(a.eval v').cells.size=n:=by rw[←c1];exact hln
       have hend:i*k'.sz+k'.sz≤arr.size:=by
        have:(i+1)*k'.sz≤xs.length*k'.sz:=Nat.mul_le_mul_right _ hi
        rw[Nat.add_mul,Nat.one_mul] at this
        omega
       have hrun:(execOp a.eval ⟨dst,.store t x' v',ty,pos,aft,gd⟩).run P w=.ok .skip (w.setCells (g.ρ id) (i*k'.sz+o) (a.eval v').cells.toList):=by
        have:=run_storeCells_cells (P:=P) (g.ρ id) (i*k'.sz+o) (a.eval v').cells.toList 0 w
         (fun j hj=>by rw[aD hb,Array.getElem?_eq_getElem (by simp at hj;omega)];rfl)
         (fun j hj=>by
          have hc:=(hok.typed k' xs rfl).1 (i*k'.sz+o+j) (by simp at hj;omega)
          simp[World.frozen?,hb]
          omega)
         (fun u hu=>by
          obtain⟨j,hj,rfl⟩:=List.mem_iff_getElem.1 hu
          have hj':j<(v.ev s).cells.length:=by rw[c1];simpa using hj
          exact(c3 j _ _ (List.getElem?_eq_getElem hj') (by simp)).oneCell (c2 _ (List.getElem_mem hj')))
        simp[execOp,hcx,Instr.storeAt,Instr.sureAddr,storeVar,mj h1,hsz2,this]
       have hxr:∀c∈enc k' xs[i],c.inRange:=by
        intro c hc
        obtain⟨j,hj,rfl⟩:=List.mem_iff_getElem.1 hc
        have hj':j<k'.sz:=by rwa [bV] at hj
        exact(hrel i _ j _ _ (List.getElem?_eq_getElem hi) (List.getElem?_eq_getElem hj) (Array.getElem?_eq_getElem (show i*k'.sz+j<arr.size by omega))).inRange
       have hvr:∀c∈(v.ev s).cells,c.inRange:=by
        intro c hc
        obtain⟨j,hj,rfl⟩:=List.mem_iff_getElem.1 hc
        exact(c3 j _ _ (List.getElem?_eq_getElem hj) (Array.getElem?_eq_getElem (show j<(a.eval v').cells.size by omega))).inRange
       obtain⟨p1,p2⟩:=h.putElt (o:=o) (us:=(a.eval v').cells.toList) ho hi (by simpa using c1) (by omega) (aiu hel hxr hvr) (fun j c cv hc hcv=>c3 j c cv hc (by simpa using hcv))
       unfold Oper.wp Oper.upon
       rw[hrun]
       cases dst with
       |none=>exact hn _ _ g p1 p2 rfl
       |some d=>exact hn _ _ g (p1.set d (.undef _) (by simp[ax])) p2 rfl
     ·simp at hs
    ·simp at hs
   ·simp at hs
  ·simp at hs
 ·simp at hc
end
end Go.AM
end
noncomputable section
namespace Go.AM
set_option autoImplicit false
set_option linter.unusedSimpArgs false
set_option linter.unusedVariables false
section
variable{w:World}{g g':Gh}{s s':St}{a:Act}
theorem SR.fillSlot(h:SR g s w a)(n:Nat){v:V}(hv:VRel g.I g.ρ s.hp.length w v (a.tmps.getD n undef))(ho:ax g w (.slot n) v (a.tmps.getD n undef)):SR g (s.set n v) w a:=
 ⟨h.hr,h.er.put' n hv ho⟩
theorem SR.fillCell(h:SR g s w a){id o:Nat}{cs:List V}(ho:s.obj id=some cs)(hlo:o<cs.length){arr:Array Value}{e:TypeId}(hb:w.heap[g.ρ id]? =some (.cells arr e (0,0))){v:V}{cv:Value}
  (hcv:arr[o]? =some cv) (h1:v.one=true) (hnb:noBn v=true) (hv:VRel g.I g.ρ s.hp.length w v cv) (hown:ax g w (.cell id o) v cv):
  SR g (s.setObj id (cs.set o v)) w a∧FR g s.hp w g (s.hp.set id (some (cs.set o v))) w:=by
 obtain⟨hid,hrow⟩:=fG ho
 have hlt:id<s.hp.length:=(List.getElem?_eq_some_iff.1 hid).1
 let cs':=cs.set o v
 have split:∀(id':Nat) o',(s.hp.set id (some cs'))[id']? =some (some o')→(id'=id∧o'=cs')∨(id'≠id∧s.hp[id']? =some (some o')):=by
  intro id' o' hq
  rw[List.getElem?_set] at hq
  split at hq
  ·rename_i e
   simp[hlt] at hq
   exact .inl ⟨e.symm,hq.symm⟩
  ·rename_i e
   exact .inr ⟨fun e'=>e e'.symm,hq⟩
 have old:∀(id':Nat) o',(s.hp.set id (some cs'))[id']? =some (some o')→∃o'',s.hp[id']? =some (some o''):=by
  intro id' o' hq
  rcases split id' o' hq with⟨rfl,_⟩|⟨_,hq⟩
  ·exact⟨cs,hid⟩
  ·exact⟨_,hq⟩
 have hget:∀(j:Nat) c,cs'[j]? =some c→(j=o∧c=v)∨(j≠o∧cs[j]? =some c):=by
  intro j c hc
  simp only[cs',List.getElem?_set] at hc
  split at hc
  ·rename_i e
   simp only[hlo,if_true,Option.some.injEq] at hc
   exact .inl ⟨e.symm,hc.symm⟩
  ·rename_i e
   exact .inr ⟨fun e'=>e e'.symm,hc⟩
 refine⟨⟨⟨?_,?_,?_,?_,h.hr.exI,h.hr.oLt⟩,⟨h.er.size,?_,h.er.own⟩⟩,⟨rfl,rfl,rfl,rfl,Nat.le_refl _,fun _ _ _ _=>rfl,?_,fun _ _ _ _ _ hi=>hi,fun _ _ _ hO=>hO,?_⟩⟩
 ·intro id' o' hq
  simp only[St.setObj,List.length_set]
  rcases split id' o' hq with⟨rfl,rfl⟩|⟨hne,hq⟩
  ·obtain⟨arr2,e2,hb2,hok⟩:=oP h.hr ho
   rw[hb] at hb2
   cases hb2
   refine fP.ofRow0 hb ⟨by simp[cs',hok.len],?_,?_,?_,?_⟩
   ·intro c hc
    obtain⟨j,hj,rfl⟩:=List.mem_iff_getElem.1 hc
    rcases hget j _ (List.getElem?_eq_getElem hj) with⟨_,k2⟩|⟨_,k2⟩
    ·rw[k2];exact h1
    ·exact hok.one _ (List.mem_of_getElem? k2)
   ·intro j c cv' hc hcv'
    rcases hget j _ hc with⟨rfl,rfl⟩|⟨_,k2⟩
    ·rw[hcv] at hcv'
     obtain rfl:=Option.some.inj hcv'
     exact hv
    ·exact hok.rel j c cv' k2 hcv'
   ·intro j c cv' hc hcv'
    rcases hget j _ hc with⟨rfl,rfl⟩|⟨_,k2⟩
    ·rw[hcv] at hcv'
     obtain rfl:=Option.some.inj hcv'
     exact hown
    ·exact hok.own j c cv' k2 hcv'
   ·intro j E n hc
    rcases hget j _ hc with⟨rfl,k2⟩|⟨_,k2⟩
    ·rw[←k2] at hnb
     simp[noBn] at hnb
    ·exact hok.bn j E n k2
  ·exact h.hr.obj id' o' hq
 ·intro id1 id2 c1 c2 k1 k2 hne
  obtain⟨_,k1⟩:=old id1 c1 k1
  obtain⟨_,k2⟩:=old id2 c2 k2
  exact h.hr.apart _ _ _ _ k1 k2 hne
 ·intro id1 c1 k1
  obtain⟨_,k1⟩:=old id1 c1 k1
  exact h.hr.notI _ _ k1
 ·intro id1 c1 k1
  obtain⟨_,k1⟩:=old id1 c1 k1
  exact h.hr.notO _ _ k1
 ·intro n v cv hq hcv
  simp only[St.setObj,List.length_set]
  exact h.er.rel n v cv hq hcv
 ·simp only[List.length_set]
  exact Up.refl _ _ _ _
 ·intro id' o' hq
  obtain⟨o'',hq⟩:=old id' o' hq
  exact .inl ⟨o'',hq⟩
def mo(g:Gh)(s:St)(w:World)(a:Act)(o:Occ)(cv:Value):Prop:=
 match o with
 | .slot n=>a.tmps.getD n undef=cv
 | .cell id j=>∃cs arr e,s.obj id=some cs∧j<cs.length∧w.heap[g.ρ id]? =some (.cells arr e (0,0))∧arr[j]? =some cv
 | .res=>False
theorem adt(h:SR g s w a){o:Occ}{v:V}(hat:s.at? o=v)(hne:v≠.undef):∃cv,mo g s w a o cv∧VRel g.I g.ρ s.hp.length w v cv∧ax g w o v cv:=by
 cases o with
 |slot n=>
  simp only[St.at?] at hat
  subst hat
  exact⟨_,rfl,h.er.get n,h.er.getOwn n⟩
 |cell id j=>
  simp only[St.at?] at hat
  cases ho:s.obj id with
  |none=>rw[ho] at hat;exact absurd hat.symm hne
  |some cs=>
   rw[ho] at hat
   simp only at hat
   obtain⟨arr,e,hb,hok⟩:=oP h.hr ho
   have hj:j<cs.length:=by
    rcases Nat.lt_or_ge j cs.length with hj|hj
    ·exact hj
    ·rw[List.getD,List.getElem?_eq_none hj] at hat
     exact absurd hat.symm hne
   have hc:cs[j]? =some v:=by
    rw[←hat,List.getD,List.getElem?_eq_getElem hj]
    rfl
   have hlen:=hok.len
   have ha:arr[j]? =some (arr[j]'(by omega)):=Array.getElem?_eq_getElem _
   exact⟨_,⟨cs,arr,e,ho,hj,hb,ha⟩,hok.rel j v _ hc ha,hok.own j v _ hc ha⟩
 |res=>
  simp only[St.at?] at hat
  exact absurd hat.symm hne
theorem SR.fill(h:SR g s w a){o:Occ}{cv:Value}(hl:mo g s w a o cv){v:V}(h1:v.one=true)(hnb:noBn v=true)(hv:VRel g.I g.ρ s.hp.length w v cv)(hown:ax g w o v cv):
  SR g (s.put? o v) w a∧FR g s.hp w g (s.put? o v).hp w∧(s.put? o v).hp.length=s.hp.length∧mo g (s.put? o v) w a o cv:=by
 cases o with
 |slot n=>
  simp only[mo] at hl
  subst hl
  exact⟨h.fillSlot n hv hown,FR.refl _ _ _,rfl,rfl⟩
 |cell id j=>
  obtain⟨cs,arr,e,ho,hj,hb,ha⟩:=hl
  obtain⟨p1,p2⟩:=h.fillCell ho hj hb ha h1 hnb hv hown
  have he:s.put? (.cell id j) v=s.setObj id (cs.set j v):=by simp only[St.put?,ho]
  rw[he]
  refine⟨p1,p2,by simp[St.setObj],cs.set j v,arr,e,?_,by simpa using hj,hb,ha⟩
  obtain⟨hid,hrow⟩:=fG ho
  have hlt:id<s.hp.length:=(List.getElem?_eq_some_iff.1 hid).1
  have hmm:hH (cs.set j v)=false:=by
   cases hm:hH (cs.set j v) with
   |false=>rfl
   |true=>
    obtain⟨k,es,he⟩:=sN hm
    match cs,hj with
    | [c],hj=>
      have:j=0:=by simpa using hj
      subst this
      simp only[List.set,List.cons.injEq,and_true] at he
      subst he
      simp[V.one] at h1
    |c::c'::cs,hj=>
     have:=congrArg List.length he
     simp at this
  obtain⟨arr2,e2,fz2,hb2,hok2⟩:=(p1.hr.obj id (cs.set j v) (by simp[St.setObj,hlt])).row hmm
  have hr:bU (cs.set j v)=false:=by
   unfold bU at hrow ⊢
   match cs,hj,hrow with
   | [c],hj,hrow=>
     have:j=0:=by simpa using hj
     subst this
     simp only[List.set]
     split
     ·rename_i heq;cases heq;simp[V.one] at h1
     ·rename_i heq;cases heq;simp[V.one] at h1
     ·rfl
   |c::c'::cs,hj,hrow=>
    split
    ·rename_i heq
     cases j with
     |zero=>simp at heq
     |succ j=>cases j<;>simp at heq
    ·rename_i heq
     cases j with
     |zero=>simp at heq
     |succ j=>cases j<;>simp at heq
    ·rfl
  unfold St.obj
  simp only[St.setObj,List.getD,List.getElem?_set,hlt,if_true,Option.getD_some]
  unfold bU at hr
  split<;>rename_i heq
  ·simp only[Option.some.injEq] at heq;rw[heq] at hr;simp at hr
  ·simp only[Option.some.injEq] at heq;rw[heq] at hr;simp at hr
  ·simp only[Option.some.injEq] at heq;rw[heq] at hmm;simp[hH] at hmm
  ·rfl
 |res=>exact absurd hl (by simp[mo])
theorem ajj{o:Occ}{cv:Value}{v:V}(hl:mo g s w a o cv)(h1:v.one=true)(hb:v.bare=true):pu (some o) (s.put? o v):=by
 cases o with
 |slot n=>
  intro u hu
  simp only[St.put?,St.set,List.getElem?_set,if_true] at hu
  split at hu
  ·cases Option.some.inj hu;exact hb
  ·simp at hu
 |cell id j=>
  obtain⟨cs,arr,e,ho,hj,_,_⟩:=hl
  obtain⟨hid,hrow⟩:=fG ho
  have hlt:id<s.hp.length:=(List.getElem?_eq_some_iff.1 hid).1
  intro cs2 u h2 hu
  simp only[St.put?,ho,St.setObj,List.getElem?_set,hlt,if_true,Option.some.injEq] at h2
  subst h2
  simp only[List.getElem?_set,hj,if_true,Option.some.injEq] at hu
  subst hu;exact hb
 |res=>trivial
theorem acD{s:St}{id:Nat}{cs:List V}(ho:s.obj id=some cs)(l:List aq):({s with hp:=s.hp++l}:St).obj id=some cs:=by
 obtain⟨hid,_⟩:=fG ho
 have hlt:id<s.hp.length:=(List.getElem?_eq_some_iff.1 hid).1
 unfold St.obj at ho ⊢
 simp only[List.getD] at ho ⊢
 rw[List.getElem?_append_left hlt]
 exact ho
theorem SR.addRow(h:SR g s w a){k:EK}{xs:List (Ty k)}{b cap:Nat}{arr:Array Value}{e:TypeId}{fz:Nat×Nat}(h0:zp fz arr.size)(h2:xs.length≤cap)(h5:w.heap[b]? =some (.cells arr e fz))(h6:cap*k.sz≤arr.size)(h7:k=.u8→e=g.β)
  (h8:∀j,¬g.I b j) (h4:g.O b=none) (hno:∀(id:Nat) cs,s.hp[id]? =some (some cs)→g.ρ id≠b)
  (h9:∀(i:Nat) x (j:Nat) v u,xs[i]? =some x→(enc k x)[j]? =some v→arr[i*k.sz+j]? =some u→VRel g.I (fun _=>0) 0 w v u):
  SR {g with ρ:=fun id=>if id=s.hp.length then b else if id=s.hp.length+1 then cap else g.ρ id} {s with hp:=s.hp++[some [.rw k xs],none]} w a:=by
 let g':Gh:={g with ρ:=fun id=>if id=s.hp.length then b else if id=s.hp.length+1 then cap else g.ρ id}
 have rhoOld:∀id,id<s.hp.length→g'.ρ id=g.ρ id:=fun id hid=>by
  simp only[g']
  rw[if_neg (by omega),if_neg (by omega)]
 have rhoNew:g'.ρ s.hp.length=b:=by simp[g']
 have rhoCap:g'.ρ (s.hp.length+1)=cap:=by simp[g']
 have u:Up g.I g.ρ s.hp.length w g'.I g'.ρ (s.hp++[some [V.rw k xs],none]).length w:=⟨fun _ _ hi=>hi,fun _ _ _=>rfl,rhoOld,by simp⟩
 have okeep:∀occ v cv,ax g w occ v cv→ax g' w occ v cv:=fun occ v cv ho=>bK ho rfl (fun b j hi=>⟨hi,rfl⟩) (fun b hb=>⟨hb,rfl,fun j hj=>hj⟩)
 have split:∀(id:Nat) o,(s.hp++[some [V.rw k xs],none])[id]? =some (some o)→(id<s.hp.length∧s.hp[id]? =some (some o))∨(id=s.hp.length∧o=[V.rw k xs]):=by
  intro id o hid
  rcases Nat.lt_or_ge id s.hp.length with hi|hi
  ·rw[List.getElem?_append_left hi] at hid
   exact .inl ⟨hi,hid⟩
  ·rw[List.getElem?_append_right hi] at hid
   match hq:id-s.hp.length,hid with
   |0,hid=>simp at hid;exact .inr ⟨by omega,hid.symm⟩
   |1,hid=>simp at hid
   |n+2,hid=>simp at hid
 have hlen:xs.length*k.sz≤arr.size:=Nat.le_trans (Nat.mul_le_mul_right _ h2) h6
 refine⟨⟨?_,?_,?_,?_,h.hr.exI,h.hr.oLt⟩,⟨h.er.size,fun n v cv hv hcv=>(h.er.rel n v cv hv hcv).up u,fun n v cv hv hcv=>okeep _ _ _ (h.er.own n v cv hv hcv)⟩⟩
 ·intro id o hid
  rcases split id o hid with⟨hi,hid⟩|⟨rfl,rfl⟩
  ·refine(h.hr.obj id o hid).keep (by rw[rhoOld id hi]) fun arr' e' fz k1 k2=>?_
   refine⟨k2.len,k2.plain,k2.typedUp rfl u.rho u.num rfl,k2.cold,k2.one,fun j c cv hc hcv=>(k2.rel j c cv hc hcv).up u,fun j c cv hc hcv=>okeep _ _ _ (k2.own j c cv hc hcv),by rw[rhoOld id hi];exact k2.bn⟩
  ·refine fP.ofRow (e:=e) (by rw[rhoNew];exact h5) ⟨by simp only[cellsOf,br];exact hlen,(by intro hf;cases hf),?_,(fun j hj=>h0 j (Nat.lt_of_lt_of_le hj (by simp only[cellsOf,br];exact hlen))),?_,?_,?_,?_⟩ rfl
   ·intro k2 ys hz
    simp only[List.cons.injEq,and_true] at hz
    cases hz
    exact⟨h0,by rw[rhoCap];exact h6,by simp,h7⟩
   ·intro c hc
    simp only[cellsOf,List.mem_flatMap] at hc
    obtain⟨y,_,hc⟩:=hc
    exact qM k y c hc
   ·intro j c cv hc hcv
    simp only[cellsOf] at hc
    obtain⟨y,hy,hc⟩:=c5 _ j _ hc
    exact qP hc (h9 _ y _ c cv hy hc (by rw[show j / k.sz*k.sz+j%k.sz=j by rw[Nat.mul_comm];exact Nat.div_add_mod j k.sz];exact hcv))
   ·intro j c cv hc hcv
    have hm:=List.mem_of_getElem? hc
    simp only[cellsOf,List.mem_flatMap] at hm
    obtain⟨y,_,hm⟩:=hm
    exact iI (qO k y c hm) _ _ _ _
   ·intro j E n hc
    simp only[cellsOf] at hc
    obtain⟨y,_,hc⟩:=c5 _ j _ hc
    exact absurd hc (sS k y _ E n)
 ·intro id id' o o' k1 k2 hne
  rcases split id o k1 with⟨hi,m1⟩|⟨e1, -⟩<;>rcases split id' o' k2 with⟨hi',m2⟩|⟨e2, -⟩
  ·rw[rhoOld _ hi,rhoOld _ hi']
   exact h.hr.apart id id' o o' m1 m2 hne
  ·rw[rhoOld _ hi,e2,rhoNew]
   exact hno id o m1
  ·rw[rhoOld _ hi',e1,rhoNew]
   exact(hno id' o' m2).symm
  ·exact absurd (e1.trans e2.symm) hne
 ·intro id o hid j hi
  rcases split id o hid with⟨hlt,hid⟩|⟨rfl,rfl⟩
  ·rw[rhoOld _ hlt] at hi
   exact h.hr.notI id o hid j hi
  ·rw[rhoNew] at hi
   exact h8 j hi
 ·intro id o hid
  rcases split id o hid with⟨hlt,hid⟩|⟨rfl,rfl⟩
  ·rw[rhoOld _ hlt]
   exact h.hr.notO id o hid
  ·rw[rhoNew]
   exact h4
theorem aiv{s:St}{o:Occ}{cv:Value}(hl:mo g s w a o cv)(v:V)(l:List aq):({s with hp:=s.hp++l}:St).put? o v={s.put? o v with hp:=(s.put? o v).hp++l}:=by
 cases o with
 |slot n=>rfl
 |cell id j=>
  obtain⟨cs,arr,e,ho,hj,_,_⟩:=hl
  obtain⟨hid,_⟩:=fG ho
  have hlt:id<s.hp.length:=(List.getElem?_eq_some_iff.1 hid).1
  simp only[St.put?,ho,acD ho l,St.setObj]
  rw[List.set_append_left _ _ hlt]
 |res=>rfl
theorem ah8{s:St}{o:Occ}{cv:Value}(hl:mo g s w a o cv){u:V}(h1:u.one=true)(hl':mo g (s.put? o u) w a o cv)(v:V):(s.put? o u).put? o v=s.put? o v:=by
 cases o with
 |slot n=>simp[St.put?,St.set]
 |cell id j=>
  obtain⟨cs,arr,e,ho,hj,_,_⟩:=hl
  obtain⟨cs2,arr2,e2,ho2,hj2,_,_⟩:=hl'
  obtain⟨hid,_⟩:=fG ho
  have hlt:id<s.hp.length:=(List.getElem?_eq_some_iff.1 hid).1
  have he:s.put? (.cell id j) u=s.setObj id (cs.set j u):=by simp only[St.put?,ho]
  rw[he] at ho2 ⊢
  obtain⟨h3,_⟩:=fG ho2
  simp only[St.setObj,List.getElem?_set,hlt,if_true,Option.some.injEq] at h3
  subst h3
  simp only[St.put?]
  rw[ho2,ho]
  simp only[St.setObj,List.set_set]
 |res=>rfl
theorem mo.append{s:St}{o:Occ}{cv:Value}(hl:mo g s w a o cv)(h:∀id,id<s.hp.length→g'.ρ id=g.ρ id)(l:List aq):mo g' {s with hp:=s.hp++l} w a o cv:=by
 cases o with
 |slot n=>exact hl
 |cell id j=>
  obtain⟨cs,arr,e,ho,hj,hb,ha⟩:=hl
  obtain⟨hid,_⟩:=fG ho
  have hlt:id<s.hp.length:=(List.getElem?_eq_some_iff.1 hid).1
  exact⟨cs,arr,e,acD ho l,hj,by rw[h id hlt];exact hb,ha⟩
 |res=>exact hl
theorem ajk(h:SR g s w a){o:Occ}(hs:(po.opn o).step s=some (true,s')):∃g',SR g' s' w a∧FR g s.hp w g' s'.hp w:=by
 simp only[po.step] at hs
 split at hs
 ·rename_i k xs hat
  simp only[Option.some.injEq,Prod.mk.injEq,decide_eq_true_eq] at hs
  obtain⟨hpos,rfl⟩:=hs
  obtain⟨cv,hl,hv,ho⟩:=adt h hat (by simp)
  rcases ho with⟨rfl,_⟩|⟨b,cap,arr,e,fz,h0,rfl,h2,h3,h4,h5,h6,h7,h8,h9⟩
  ·simp at hpos
  ·have hmax:xs.length≤cb:=Nat.le_trans h2 h3
   obtain⟨p1,p2,p3,p4⟩:=h.fill hl (v:=.hd xs.length) rfl rfl (.hd _ _ _ hmax) (by simp[ax])
   have hbar:pu (some o) (s.put? o (.hd xs.length)):=ajj hl rfl rfl
   let s1:=s.put? o (.hd xs.length)
   let g1:Gh:={g with O:=fun b'=>if b'=b then none else g.O b'}
   have hno:∀(id:Nat) cs,s1.hp[id]? =some (some cs)→g.ρ id≠b:=by
    intro id cs hid e'
    have:=p1.hr.notO id cs hid
    rw[e',h4] at this
    simp at this
   have k1:SR g1 s1 w a:=by
    refine p1.keep (some o) hbar rfl (Up.refl _ _ _ _) ?_ ?_ h.hr.exI ?_
    ·intro occ b' hb' hne
     have hbb:b'≠b:=by
      rintro rfl
      rw[h4] at hb'
      exact hne hb'
     exact⟨by simp[g1,hbb,hb'],rfl,fun j hj=>hj⟩
    ·intro id cs hid
     exact⟨rfl,by simp[g1,hno id cs hid,p1.hr.notO id cs hid],fun j hj=>hj⟩
    ·intro b' o' hb'
     simp only[g1] at hb'
     split at hb'
     ·simp at hb'
     ·exact h.hr.oLt _ _ hb'
   have k2:=k1.addRow (b:=b) (cap:=cap) h0 h2 h5 h6 h7 h8 (by simp[g1]) hno h9
   let g2:Gh:={g1 with ρ:=fun id=>if id=s1.hp.length then b else if id=s1.hp.length+1 then cap else g1.ρ id}
   let s2:St:={s1 with hp:=s1.hp++[some [.rw k xs],none]}
   have hrho:∀id,id<s1.hp.length→g2.ρ id=g.ρ id:=fun id hid=>by
    simp only[g2]
    rw[if_neg (by omega),if_neg (by omega)]
   have hl2:mo g2 s2 w a o (.slice (some ⟨b,0,none⟩) xs.length cap):=mo.append (g:=g) p4 hrho _
   have hsw:VRel g2.I g2.ρ s2.hp.length w (.sw k s1.hp.length xs.length) (.slice (some ⟨b,0,none⟩) xs.length cap):=by
    have hr1:g2.ρ (s1.hp.length+1)=cap:=by simp[g2]
    have hr0:g2.ρ s1.hp.length=b:=by simp[g2]
    have:=VRel.sw (I:=g2.I) (ρ:=g2.ρ) (N:=s2.hp.length) (w:=w) k s1.hp.length xs.length (by simp[s2]) (by rw[hr1];exact h2) (by rw[hr1];exact h3)
    rw[hr1,hr0] at this
    exact this
   obtain⟨q1,q2,q3,q4⟩:=SR.fill (g:=g2) (s:=s2) k2 hl2 (v:=.sw k s1.hp.length xs.length) rfl rfl hsw (by simp[ax])
   have hlen:s1.hp.length=s.hp.length:=p3
   have hput:s2.put? o (.sw k s1.hp.length xs.length)={s.put? o (.sw k s.hp.length xs.length) with hp:=(s.put? o (.sw k s.hp.length xs.length)).hp++[some [.rw k xs],none]}:=by
    have e1:=aiv (g:=g) (w:=w) (a:=a) p4 (.sw k s1.hp.length xs.length) [some [.rw k xs],none]
    rw[ah8 hl rfl p4] at e1
    rw[hlen] at e1
    show ({s1 with hp:=s1.hp++[some [.rw k xs],none]}:St).put? o (.sw k s1.hp.length xs.length)=_
    rw[hlen]
    exact e1
   rw[hput] at q1 q2
   refine⟨g2,q1,?_⟩
   refine p2.trans (FR.trans (g₁:=g2) (hp₁:=s2.hp) (w₁:=w) ?_ q2)
   refine⟨rfl,rfl,rfl,rfl,Nat.le_refl _,fun _ _ _ _=>rfl,⟨fun _ _ hi=>hi,fun _ _ _=>rfl,hrho,by simp[s2,s1]⟩,fun _ _ _ _ _ hi=>hi,?_,?_⟩
   ·intro b' _ _ hO
    show (if b'=b then none else g.O b')=none
    split
    ·rfl
    ·exact hO
   ·intro id cs hid
    rcases Nat.lt_or_ge id s1.hp.length with hi|hi
    ·left
     have:s2.hp[id]? =s1.hp[id]?:=by simp only[s2];rw[List.getElem?_append_left hi]
     rw[this] at hid
     exact⟨cs,hid⟩
    ·right
     refine⟨hi,.inr (.inl ?_)⟩
     have hid':id=s1.hp.length:=by
      simp only[s2] at hid
      rw[List.getElem?_append_right hi] at hid
      match hq:id-s1.hp.length,hid with
      |0,_=>omega
      |1,hid=>simp at hid
      |n+2,hid=>simp at hid
     subst hid'
     have:g2.ρ s1.hp.length=b:=by simp[g2]
     rw[this,h4]
     simp
 ·obtain rfl:s=s':=by simpa using hs
  exact⟨g,h,FR.refl _ _ _⟩
theorem ajl(h:SR g s w a){o:Occ}(hs:(po.cls o).step s=some (true,s')):∃g',SR g' s' w a∧FR g s.hp w g' s'.hp w:=by
 simp only[po.step] at hs
 split at hs
 ·rename_i k id n hat
  split at hs
  ·rename_i k' xs ho
   split at hs
   ·rename_i hk
    subst hk
    simp only[Option.some.injEq,Prod.mk.injEq] at hs
    obtain⟨hn,rfl⟩:=hs
    obtain rfl:=Nat.eq_of_beq_eq_true hn
    obtain⟨cv,hl,hv, -⟩:=adt h hat (by simp)
    obtain⟨arr,e,fz,hb,hsz,hok,hrel⟩:=kJ h ho
    obtain⟨t1,t2,t3,t4⟩:=hok.typed k' xs rfl
    have hid:=ww ho
    cases hv with
    |sw _ _ _ hN hc hm=>
    obtain⟨p1,p2,p3,p4⟩:=h.fill hl (v:=.hd xs.length) rfl rfl (.hd _ _ _ (Nat.le_trans hc hm)) (by simp[ax])
    let s1:=s.put? o (.hd xs.length)
    have hid1:s1.hp[id]? =some (some [.rw k' xs]):=by
     cases o with
     |slot n=>exact hid
     |cell id' j=>
      obtain⟨cs,arr',e',ho',hj,_,_⟩:=hl
      have hne:id'≠id:=by
       rintro rfl
       obtain⟨h1,h2⟩:=fG ho'
       rw[hid] at h1
       cases h1
       simp[bU] at h2
      simp only[s1,St.put?,ho',St.setObj]
      rw[List.getElem?_set_ne hne]
      exact hid
     |res=>exact absurd hl (by simp[mo])
    let g1:Gh:={g with O:=fun b'=>if b'=g.ρ id then some o else g.O b'}
    let s2:St:={s1 with hp:=s1.hp.set id none}
    have sub:∀(i:Nat) cs,s2.hp[i]? =some (some cs)→i≠id∧s1.hp[i]? =some (some cs):=by
     intro i cs hi
     simp only[s2,List.getElem?_set] at hi
     split at hi
     ·split at hi<;>simp at hi
     ·rename_i hne;exact⟨fun e=>hne e.symm,hi⟩
    have hbO:g.O (g.ρ id)=none:=p1.hr.notO id _ hid1
    have okeep:∀occ v cv,ax g w occ v cv→ax g1 w occ v cv:=by
     intro occ v cv hoo
     refine bK hoo rfl (fun b j hi=>⟨hi,rfl⟩) ?_
     intro b hb'
     refine⟨?_,rfl,fun j hj=>hj⟩
     have:b≠g.ρ id:=by rintro rfl;rw[hbO] at hb';simp at hb'
     simp[g1,this,hb']
    have hlen:s2.hp.length=s1.hp.length:=by simp[s2]
    have k1:SR g1 s2 w a:=by
     refine⟨⟨?_,?_,?_,?_,p1.hr.exI,?_⟩,⟨p1.er.size,fun m v cv hv hcv=>by rw[hlen];exact p1.er.rel m v cv hv hcv,fun m v cv hv hcv=>okeep _ _ _ (p1.er.own m v cv hv hcv)⟩⟩
     ·intro i cs hi
      obtain⟨hne,hi⟩:=sub i cs hi
      refine(p1.hr.obj i cs hi).keep rfl fun arr' e' fz m1 m2=>?_
      rw[hlen]
      exact⟨m2.len,m2.plain,m2.typed,m2.cold,m2.one,m2.rel,fun j c cv hc hcv=>okeep _ _ _ (m2.own j c cv hc hcv),m2.bn⟩
     ·intro i i' cs cs' h1 h2 hne
      exact p1.hr.apart i i' cs cs' (sub i cs h1).2 (sub i' cs' h2).2 hne
     ·intro i cs hi
      exact p1.hr.notI i cs (sub i cs hi).2
     ·intro i cs hi
      obtain⟨hne,hi⟩:=sub i cs hi
      have:g.ρ i≠g.ρ id:=p1.hr.apart i id cs _ hi hid1 hne
      show (if g.ρ i=g.ρ id then some o else g.O (g.ρ i))=none
      rw[if_neg this]
      exact p1.hr.notO i cs hi
     ·intro b' o' hb'
      simp only[g1] at hb'
      split at hb'
      ·rename_i e';subst e'
       rcases Nat.lt_or_ge (g.ρ id) w.heap.size with hlt|hlt
       ·exact hlt
       ·simp[Array.getElem?_eq_none hlt] at hb
      ·exact h.hr.oLt _ _ hb'
    have hl2:mo g1 s2 w a o (.slice (some ⟨g.ρ id,0,none⟩) xs.length (g.ρ (id+1))):=by
     cases o with
     |slot n=>exact p4
     |cell id' j=>
      obtain⟨cs,arr',e',ho',hj,hb',ha⟩:=p4
      refine⟨cs,arr',e',?_,hj,hb',ha⟩
      have hne:id≠id':=by
       rintro rfl
       obtain⟨h1,h2⟩:=fG ho'
       rw[show (s.put? (.cell id j) (.hd xs.length)).hp[id]? =some (some [.rw k' xs]) from hid1] at h1
       cases h1
       simp[bU] at h2
      unfold St.obj at ho' ⊢
      simp only[s2,List.getD] at ho' ⊢
      rw[List.getElem?_set_ne hne]
      exact ho'
     |res=>exact p4
    have hul:zq g1 w o k' xs (.slice (some ⟨g.ρ id,0,none⟩) xs.length (g.ρ (id+1))):=
     .inr ⟨g.ρ id,g.ρ (id+1),arr,e,fz,t1,rfl,hc,hm,by simp[g1],hb,t2,t4,fun j=>p1.hr.notI id _ hid1 j,fun i x j v u h1 h2 h3=>qP h2 (hrel i x j v u h1 h2 h3)⟩
    obtain⟨q1,q2,q3,q4⟩:=SR.fill (g:=g1) (s:=s2) k1 hl2 (v:=.ul k' xs) rfl rfl (.ul _ _ _ _ (Nat.le_trans hc hm)) hul
    have hput:s2.put? o (.ul k' xs)={s.put? o (.ul k' xs) with hp:=(s.put? o (.ul k' xs)).hp.set id none}:=by
     cases o with
     |slot n=>simp[s2,s1,St.put?,St.set]
     |cell id' j=>
      obtain⟨cs,arr',e',ho',hj,_,_⟩:=hl
      obtain⟨cs2,arr2,e2,ho2,hj2,_,_⟩:=hl2
      obtain⟨h1,h2⟩:=fG ho'
      have hlt:id'<s.hp.length:=(List.getElem?_eq_some_iff.1 h1).1
      have hne:id'≠id:=by
       rintro rfl
       rw[hid] at h1
       cases h1
       simp[bU] at h2
      have he:s1=s.setObj id' (cs.set j (.hd xs.length)):=by simp only[s1,St.put?,ho']
      obtain⟨h3,_⟩:=fG ho2
      simp only[s2] at h3
      rw[List.getElem?_set_ne (Ne.symm hne),he] at h3
      simp only[St.setObj,List.getElem?_set,hlt,if_true,Option.some.injEq] at h3
      subst h3
      simp only[St.put?]
      rw[ho2,ho']
      simp only[s2,he,St.setObj,List.set_set]
      rw[List.set_comm _ _ hne,List.set_set]
      rw[List.set_comm _ _ (Ne.symm hne)]
     |res=>rfl
    rw[hput] at q1 q2
    refine⟨g1,q1,p2.trans (FR.trans (g₁:=g1) (hp₁:=s2.hp) (w₁:=w) ?_ q2)⟩
    refine⟨rfl,rfl,rfl,rfl,Nat.le_refl _,fun _ _ _ _=>rfl,⟨fun _ _ hi=>hi,fun _ _ _=>rfl,fun _ _=>rfl,by rw[hlen];exact Nat.le_refl _⟩,fun _ _ _ _ _ hi=>hi,?_,fun i cs hi=>.inl ⟨cs,(sub i cs hi).2⟩⟩
    intro b' _ hno hO
    show (if b'=g.ρ id then some o else g.O b')=none
    rw[if_neg (fun e=>hno id _ hid1 e.symm)]
    exact hO
   ·simp at hs
  ·simp at hs
 ·obtain rfl:s=s':=by simpa using hs
  exact⟨g,h,FR.refl _ _ _⟩
theorem af6(h:SR g s w a){o:Occ}(hs:(po.fz o).step s=some (true,s')):∃g',SR g' s' w a∧FR g s.hp w g' s'.hp w:=by
 simp only[po.step] at hs
 split at hs
 ·rename_i k xs hat
  obtain rfl:_=s':=by simpa using hs
  obtain⟨cv,hl,hv,ho⟩:=adt h hat (by simp)
  rcases ho with⟨rfl,rfl⟩|⟨b,cap,arr,e,fz,h0,rfl,h2,h3,h4,h5,h6,h7,h8,h9⟩
  ·obtain⟨p1,p2,p3,p4⟩:=h.fill hl (v:=.sl k .own []) rfl rfl (.sln _ _) (by simp[ax])
   exact⟨g,p1,p2⟩
  ·have hmax:xs.length≤cb:=Nat.le_trans h2 h3
   obtain⟨p1,p2,p3,p4⟩:=h.fill hl (v:=.hd xs.length) rfl rfl (.hd _ _ _ hmax) (by simp[ax])
   have hbar:pu (some o) (s.put? o (.hd xs.length)):=ajj hl rfl rfl
   let s1:=s.put? o (.hd xs.length)
   let g1:Gh:={g with I:=fun b' j=>g.I b' j∨(b'=b∧j<xs.length*k.sz)}
   have hlen:xs.length*k.sz≤arr.size:=Nat.le_trans (Nat.mul_le_mul_right _ h2) h6
   have hno:∀(id:Nat) cs,s1.hp[id]? =some (some cs)→g.ρ id≠b:=by
    intro id cs hid e'
    have:=p1.hr.notO id cs hid
    rw[e',h4] at this
    simp at this
   have u:Up g.I g.ρ s1.hp.length w g1.I g1.ρ s1.hp.length w:=⟨fun _ _ hi=>.inl hi,fun _ _ _=>rfl,fun _ _=>rfl,Nat.le_refl _⟩
   have k1:SR g1 s1 w a:=by
    refine p1.keep (some o) hbar rfl u ?_ ?_ ?_ h.hr.oLt
    ·intro occ b' hb' hne
     have hbb:b'≠b:=by
      rintro rfl
      rw[h4] at hb'
      exact hne hb'
     refine⟨hb',rfl,?_⟩
     rintro j (hj|⟨hj,_⟩)
     ·exact hj
     ·exact absurd hj hbb
    ·intro id cs hid
     refine⟨rfl,p1.hr.notO id cs hid,?_⟩
     rintro j (hj|⟨hj,_⟩)
     ·exact hj
     ·exact absurd hj (hno id cs hid)
    ·rintro b' j (hj|⟨rfl,hj⟩)
     ·exact h.hr.exI b' j hj
     ·rw[aD h5,Array.getElem?_eq_getElem (by omega)];rfl
   have hl2:mo g1 s1 w a o (.slice (some ⟨b,0,none⟩) xs.length cap):=p4
   have hk0:∀x:Ty k,∀j,j<(enc k x).length→j<k.sz:=fun x j hj=>by rwa [bV] at hj
   have hrel:VRel g1.I g1.ρ s1.hp.length w (.sl k .own xs) (.slice (some ⟨b,0,none⟩) xs.length cap):=by
    refine .sl k .own xs _ _ _ _ rfl h2 h3 (by simp) (fun i j=>arr[i*k.sz+j]?.getD undef) ?_ ?_ ?_
    ·intro i x j hx hj
     exact .inr ⟨rfl,by have:=sR (List.getElem?_eq_some_iff.1 hx).1 (hk0 x j hj);omega⟩
    ·intro i x j hx hj
     have:=sR (List.getElem?_eq_some_iff.1 hx).1 (hk0 x j hj)
     rw[Nat.zero_add,aD h5,Array.getElem?_eq_getElem (by omega)]
     rfl
    ·intro i x j v hx hj
     have hjl:=(List.getElem?_eq_some_iff.1 hj).1
     have:=sR (List.getElem?_eq_some_iff.1 hx).1 (hk0 x j hjl)
     have ha:arr[i*k.sz+j]? =some (arr[i*k.sz+j]'(by omega)):=Array.getElem?_eq_getElem _
     rw[ha]
     exact(qP (ρ':=g.ρ) (N':=s1.hp.length) hj (h9 i x j v _ hx hj ha)).up u
   have hown:ax g1 w o (.sl k .own xs) (.slice (some ⟨b,0,none⟩) xs.length cap):=by
    refine⟨h4,⟨arr,e,fz,h5,by simpa using h6,h7⟩,?_⟩
    intro j j1 j2
    simp only[Nat.zero_add] at j1 j2
    refine⟨?_,by
     have:=h0 j (by omega)
     simp only[World.frozen?,h5,Bool.and_eq_false_iff,decide_eq_false_iff_not]
     omega⟩
    rintro(hi|⟨_,hi⟩)
    ·exact h8 j hi
    ·omega
   obtain⟨q1,q2,q3,q4⟩:=SR.fill (g:=g1) (s:=s1) k1 hl2 (v:=.sl k .own xs) rfl rfl hrel hown
   rw[ah8 hl rfl p4] at q1 q2
   refine⟨g1,q1,p2.trans (FR.trans (g₁:=g1) (hp₁:=s1.hp) (w₁:=w) ?_ q2)⟩
   refine⟨rfl,rfl,rfl,rfl,Nat.le_refl _,fun _ _ _ _=>rfl,u,?_,fun _ _ _ hO=>hO,fun _ cs h=>.inl ⟨cs,h⟩⟩
   rintro b' j _ _ hO (hj|⟨rfl,_⟩)
   ·exact hj
   ·rw[h4] at hO;simp at hO
 ·obtain rfl:s=s':=by simpa using hs
  exact⟨g,h,FR.refl _ _ _⟩
theorem abp(h:SR g s w a){x:po}(hs:x.step s=some (true,s')):∃g',SR g' s' w a∧FR g s.hp w g' s'.hp w:=by
 cases x with
 |opn o=>exact ajk h hs
 |cls o=>exact ajl h hs
 |fz o=>exact af6 h hs
variable{w':World}{P:Program}{Γ:az}{m:Oper}{next:Act→World→Prop}{Q:Exit→Act→World→Prop}
end
end Go.AM
end
noncomputable section
namespace Go.AM
set_option autoImplicit false
set_option linter.unusedSimpArgs false
set_option linter.unusedVariables false
def ASrc.slots:ASrc→List Nat
 | .t n| .tk n=>[n]
 | .c _=>[]
def ASrc.takes:ASrc→List Nat
 | .tk n=>[n]
 |_=>[]
def zu:Option ASrc→List Nat
 |some x=>x.slots
 |none=>[]
def IOp.rd:IOp→List Nat
 | .mov _ x| .un _ _ x| .cvi _ _ x| .b2s _ x| .lens _ x| .lenl _ x| .box _ x| .fad _ _ x| .ld _ _ _ _ x| .ext _ _ x| .nck _ x| .boxe _ x| .lde _ _ _ x=>x.slots
 | .frz _ r _ v=>r::v.slots
 | .pick _ c x y=>c.slots++(x.slots++y.slots)
 | .bin _ _ x y| .idx _ x y| .ixa _ _ x y| .st _ _ x y| .app _ _ x y| .apps _ x y| .mx _ _ x y=>x.slots++y.slots
 | .subs _ x lo hi| .subl _ _ x lo hi| .slw _ _ x lo hi=>x.slots++(zu lo++zu hi)
 | .bsl _ _ ps _=>ps.flatMap ASrc.slots
 | .bld _ _ ps=>ps.flatMap fun p=>p.2.2.slots
 | .new _ _| .newb _ _| .alr _ _=>[]
 | .call _ _ avs| .callz _ _ avs=>avs.flatMap ASrc.slots
 | .lnw _ x| .fdw _ _ x| .ldw _ _ _ x=>x.slots
 | .apu _ _ x y| .apx _ _ x y| .ixw _ _ x y| .stw _ _ x y=>x.slots++y.slots
 | .blu _ _=>[]
 | .mkm _ _=>[]
 | .mget _ _ _ x y=>x.slots++y.slots
 | .mput _ _ x y z=>x.slots++(y.slots++z.slots)
def IOp.wr(o:IOp):List Nat:=
 o.dst.toList++(match o with| .mov _ x| .app _ _ x _| .apps _ x _| .st _ _ _ x=>x.takes| .frz _ r _ _=>[r]| .apu _ _ x _=>x.takes|_=>[])
def IOp.cls(imp:List Nat):IOp→Nat
 | .ld _ _ _ false _| .ldw .. | .mget .. =>1
 | .ld _ _ _ true _| .st .. | .new .. | .callz .. | .box .. | .newb .. | .stw .. | .apx .. | .mkm .. | .mput ..=>2
 | .call _ f _=>if imp.contains f then 2 else 0
 |_=>0
def zv(hp:List aq)(q:List (Nat×aq)):List aq:=q.foldl (fun h p=>h.set p.1 p.2) hp
structure b7(Γ:az)(imp:List Nat):Prop where
 pure:∀f avs hp,imp.contains f=false→Γ f avs hp=(Γ f avs []).map fun x=>(x.1,x.2.1,hp)
 loc:∀f vs hp c v hp',imp.contains (f+2000000)=true→Γ f vs hp=some (c,v,hp')→∃q:List (Nat×aq),(∀p∈q,p.1∈rh (co vs))∧hp'=zv hp q∧
  ∀hp2:List aq,hp2.length=hp.length→(∀i∈rh (j0 vs),hp2[i]? =hp[i]?)→Γ f vs hp2=some (c,v,zv hp2 q)
theorem abq(q:List (Nat×aq)):∀hp:List aq,(zv hp q).length=hp.length:=by
 induction q with
 |nil=>intro hp;rfl
 |cons p q ih=>intro hp;show (zv (hp.set p.1 p.2) q).length=_;rw[ih];simp
theorem af7{q:List (Nat×aq)}{i:Nat}:∀{hp:List aq},(∀p∈q,p.1≠i)→(zv hp q)[i]? =hp[i]?:=by
 induction q with
 |nil=>intro hp _;rfl
 |cons p q ih=>
  intro hp h
  show (zv (hp.set p.1 p.2) q)[i]? =_
  rw[ih (fun x hx=>h x (List.mem_cons_of_mem _ hx)),List.getElem?_set_ne (h p (List.mem_cons_self ..))]
theorem tW{hp hp2:List aq}{i:Nat}(h:hp2[i]? =hp[i]?):hp2.getD i none=hp.getD i none:=by
 rw[List.getD_eq_getElem?_getD,List.getD_eq_getElem?_getD,h]
theorem tX{l:List Nat}{i:Nat}(h:i∈l):i∈rh l:=List.mem_flatMap.2 ⟨i,h,List.mem_range.2 (Nat.lt_succ_self i)⟩
theorem zw{l:List Nat}{i j:Nat}(h:i∈l)(hj:j≤i):j∈rh l:=List.mem_flatMap.2 ⟨i,h,List.mem_range.2 (Nat.lt_succ_of_le hj)⟩
theorem sD:∀{vs:List V}{i:Nat},i∈co vs→i∈j0 vs
 | [],_,h=>by simp[co] at h
 |v::vs,i,h=>by
  have e:j0 (v::vs)=v.cellsA.flatMap V.id1++j0 vs:=by simp[j0]
  rw[e,List.mem_append]
  unfold co at h
  split at h
  ·rename_i e';cases e'
  ·rename_i e'
   cases e'
   rcases List.mem_cons.1 h with rfl|h
   ·left;simp[V.cellsA,V.id1]
   ·exact .inr (sD h)
  ·rename_i e'
   cases e'
   exact .inr (sD h)
def St.upd(s:St)(l:List (Nat×V)):St:={s with env:=l.foldl (fun e p=>e.set p.1 p.2) s.env}
section
variable{Γ:az}{imp:List Nat}
theorem bh{s t:St}{x:ASrc}(h:∀n∈x.slots,t.get n=s.get n):x.ev t=x.ev s:=by
 cases x with
 |t n=>simp only[ASrc.ev];rw[h n (by simp[ASrc.slots])]
 |tk n=>exact h n (by simp[ASrc.slots])
 |c v=>rfl
theorem ajm{s t:St}{x:Option ASrc}(h:∀n∈zu x,t.get n=s.get n):cR t x=cR s x:=by
 cases x with
 |none=>rfl
 |some x=>simp only[cR];rw[bh h]
theorem bT(s:St)(d:Option Nat)(v:V):s.setO d v=s.upd (d.toList.map fun d=>(d,v)):=by cases d<;>rfl
theorem eS(s:St)(x:ASrc):x.after s=s.upd (x.takes.map fun n=>(n,disown (s.get n))):=by cases x<;>rfl
theorem gr(s:St)(l m:List (Nat×V)):(s.upd l).upd m=s.upd (l++m):=by simp[St.upd,List.foldl_append]
theorem aaT{s:St}:∀{l:List (Nat×V)}{n:Nat},(∀p∈l,p.1≠n)→(s.upd l).get n=s.get n:=by
 intro l
 induction l generalizing s with
 |nil=>intro n h;rfl
 |cons p l ih=>
  intro n h
  have:s.upd (p::l)=(s.set p.1 p.2).upd l:=rfl
  rw[this,ih (fun q hq=>h q (List.mem_cons_of_mem _ hq))]
  simp[St.get,St.set,List.getD,List.getElem?_set,h p (List.mem_cons_self ..)]
def akP(Γ:az)(imp:List Nat)(o:IOp)(s:St)(c:Bool)(s':St):Prop:=
 ∃u:List (Nat×V),(∀p∈u,p.1∈o.wr)∧s'=s.upd u∧∀t:St,(∀n∈o.rd,t.get n=s.get n)→(o.cls imp=1→t.hp=s.hp)→step Γ o t=some (c,t.upd u)
theorem ba{o:IOp}{s s':St}{c:Bool}(E:Option (Bool×V))(hE:∀t:St,(∀n∈o.rd,t.get n=s.get n)→(o.cls imp=1→t.hp=s.hp)→step Γ o t=E.map fun p=>(p.1,t.setO o.dst p.2))
  (h:step Γ o s=some (c,s')):akP Γ imp o s c s':=by
 rw[hE s (fun _ _=>rfl) (fun _=>rfl)] at h
 cases E with
 |none=>simp at h
 |some p=>
  simp only[Option.map_some,Option.some.injEq,Prod.mk.injEq] at h
  obtain⟨rfl,rfl⟩:=h
  refine⟨o.dst.toList.map fun d=>(d,p.2),?_,bT _ _ _,?_⟩
  ·intro q hq
   simp only[List.mem_map] at hq
   obtain⟨d,hd,rfl⟩:=hq
   simp[IOp.wr,hd]
  ·intro t ht hh
   rw[hE t ht hh,←bT]
   rfl
theorem aiw(hP:b7 Γ imp){o:IOp}(hw:o.cls imp≤1){s:St}{c:Bool}{s':St}(h:step Γ o s=some (c,s')):
  akP Γ imp o s c s':=by
 have s1:∀{x:ASrc}{l:List Nat}{t:St},(∀n∈l,t.get n=s.get n)→(∀n∈x.slots,n∈l)→x.ev t=x.ev s:=fun h1 h2=>bh fun n hn=>h1 n (h2 n hn)
 have s2:∀{x:Option ASrc}{l:List Nat}{t:St},(∀n∈l,t.get n=s.get n)→(∀n∈zu x,n∈l)→cR t x=cR s x:=fun h1 h2=>ajm fun n hn=>h1 n (h2 n hn)
 cases o with
 |mov d x=>
  obtain⟨rfl,rfl⟩:true=c∧_=s':=by simpa [step] using h
  refine⟨x.takes.map (fun n=>(n,disown (s.get n)))++[(d,x.ev s)],?_,?_,?_⟩
  ·intro p hp
   simp only[List.mem_append,List.mem_map,List.mem_singleton] at hp
   rcases hp with⟨n,hn,rfl⟩|rfl
   ·simp[IOp.wr,IOp.dst,hn]
   ·simp[IOp.wr,IOp.dst]
  ·rw[←gr,←eS];rfl
  ·intro t ht _
   have e:=bh (x:=x) ht
   have e2:x.takes.map (fun n=>(n,disown (t.get n)))=x.takes.map (fun n=>(n,disown (s.get n))):=by
    cases x with
    |tk n=>simp only[ASrc.takes,List.map];rw[ht n (by simp[IOp.rd,ASrc.slots])]
    |_=>rfl
   simp only[step,e]
   rw[eS,e2,←gr];rfl
 |app d k x y=>
  simp only[step] at h
  split at h
  ·rename_i k' ox l k'' ow m hx hy
   split at h
   ·rename_i hk
    split at h
    ·rename_i hkk
     simp only[Option.some.injEq,Prod.mk.injEq] at h
     obtain⟨rfl,rfl⟩:=h
     refine⟨x.takes.map (fun n=>(n,disown (s.get n)))++[(d,.sl k' .own (l++(hkk▸m)))],?_,?_,?_⟩
     ·intro p hp
      simp only[List.mem_append,List.mem_map,List.mem_singleton] at hp
      rcases hp with⟨n,hn,rfl⟩|rfl
      ·simp[IOp.wr,IOp.dst,hn]
      ·simp[IOp.wr,IOp.dst]
     ·rw[←gr,←eS];rfl
     ·intro t ht _
      have e1:=bh (x:=x) (fun n hn=>ht n (by simp[IOp.rd,hn]))
      have e3:=bh (x:=y) (fun n hn=>ht n (by simp[IOp.rd,hn]))
      have e2:x.takes.map (fun n=>(n,disown (t.get n)))=x.takes.map (fun n=>(n,disown (s.get n))):=by
       cases x with
       |tk n=>simp only[ASrc.takes,List.map];rw[ht n (by simp[IOp.rd,ASrc.slots])]
       |_=>rfl
      simp only[step,e1,e3,hx,hy,hk,hkk,dif_pos,if_true]
      rw[eS,e2,←gr];rfl
    ·simp at h
   ·simp at h
  ·simp at h
 |apu d k x y=>
  simp only[step] at h
  split at h
  ·rename_i k' l k'' ow m hx hy
   split at h
   ·rename_i hk
    split at h
    ·rename_i hkk
     simp only[Option.some.injEq,Prod.mk.injEq] at h
     obtain⟨rfl,rfl⟩:=h
     refine⟨x.takes.map (fun n=>(n,disown (s.get n)))++[(d,.ul k' (l++(hkk▸m)))],?_,?_,?_⟩
     ·intro p hp
      simp only[List.mem_append,List.mem_map,List.mem_singleton] at hp
      rcases hp with⟨n,hn,rfl⟩|rfl
      ·simp[IOp.wr,IOp.dst,hn]
      ·simp[IOp.wr,IOp.dst]
     ·rw[←gr,←eS];rfl
     ·intro t ht _
      have e1:=bh (x:=x) (fun n hn=>ht n (by simp[IOp.rd,hn]))
      have e3:=bh (x:=y) (fun n hn=>ht n (by simp[IOp.rd,hn]))
      have e2:x.takes.map (fun n=>(n,disown (t.get n)))=x.takes.map (fun n=>(n,disown (s.get n))):=by
       cases x with
       |tk n=>simp only[ASrc.takes,List.map];rw[ht n (by simp[IOp.rd,ASrc.slots])]
       |_=>rfl
      simp only[step,e1,e3,hx,hy,hk,hkk,dif_pos,if_true]
      rw[eS,e2,←gr];rfl
    ·simp at h
   ·simp at h
  ·simp at h
 |mkm=>simp[IOp.cls] at hw
 |mput=>simp[IOp.cls] at hw
 |mget d k ok x y=>
  refine ba (match x.ev s with
   | .nilm=>(k.dkey (y.ev s)).map fun _=>(true,zn k ok none)
   | .mr id=>(match s.mapO id with
     |some ⟨k',es⟩=>if k'=k then (k'.dkey (y.ev s)).map fun key=>(true,zn k' ok (dL es key)) else none
     |none=>none)
   |_=>none) (fun t ht hh=>?_) h
  have e0:x.ev t=x.ev s:=s1 ht (by simp+contextual [IOp.rd])
  have e1:y.ev t=y.ev s:=s1 ht (by simp+contextual [IOp.rd])
  have e2:∀id,t.mapO id=s.mapO id:=fun id=>by simp only[St.mapO];rw[hh rfl]
  simp only[step,e0,e1,e2,IOp.dst,St.setO]
  generalize x.ev s=xe
  cases xe with
  |nilm=>simp only[Option.map_map];rfl
  |mr id=>
   simp only[]
   cases s.mapO id with
   |none=>rfl
   |some p=>
    obtain⟨k',es⟩:=p
    simp only[]
    split
    ·simp only[Option.map_map];rfl
    ·rfl
  |_=>rfl
 |blu d k=>
  refine ba (some (true,.ul k [])) (fun t ht _=>?_) h
  simp only[step,IOp.dst,St.setO,Option.map_some]
 |slw d k x lo hi=>
  refine ba (ajU k (x.ev s) (cR s lo) (cR s hi)) (fun t ht _=>?_) h
  have e0:x.ev t=x.ev s:=s1 ht (by simp+contextual [IOp.rd])
  have e1:∀o:Option ASrc,(∀n∈zu o,n∈(IOp.slw d k x lo hi).rd)→cR t o=cR s o:=fun o ho=>by
   cases o with
   |none=>rfl
   |some y=>exact congrArg some (s1 (x:=y) ht ho)
  simp only[step,e0,e1 lo (by simp+contextual [IOp.rd]),e1 hi (by simp+contextual [IOp.rd]),IOp.dst,St.setO]
 |lnw d x=>
  refine ba (match x.ev s with| .hd n=>some (true,.int .i64 n)| .sw _ _ n=>some (true,.int .i64 n)|_=>none) (fun t ht _=>?_) h
  have e0:x.ev t=x.ev s:=s1 ht (by simp+contextual [IOp.rd])
  simp only[step,e0,IOp.dst,St.setO]
  split<;>first|rfl|(simp_all;done)
 |ixw d k x i=>
  refine ba (match x.ev s,i.ev s with| .sw k' id n,.int _ i=>if k'=k then some (decide (0≤i)&&decide (i<n),.wp id k' i.toNat 0) else none|_,_=>none) (fun t ht _=>?_) h
  have e0:x.ev t=x.ev s:=s1 ht (by simp+contextual [IOp.rd])
  have e1:i.ev t=i.ev s:=s1 ht (by simp+contextual [IOp.rd])
  simp only[step,e0,e1,IOp.dst,St.setO]
  split
  ·split<;>first|rfl|(simp_all;done)
  ·first|rfl|(simp_all;done)
 |fdw d off x=>
  refine ba (match x.ev s with| .wp id k i o=>some (true,.wp id k i (o+off))|_=>none) (fun t ht _=>?_) h
  have e0:x.ev t=x.ev s:=s1 ht (by simp+contextual [IOp.rd])
  simp only[step,e0,IOp.dst,St.setO]
  split<;>first|rfl|(simp_all;done)
 |ldw d n agg x=>
  refine ba (match x.ev s with
   | .wp id k i o=>(match s.rowW id with
     |some ⟨k',xs⟩=>if k'=k∧o+n≤k'.sz then some (decide (i<xs.length),disown (loaded agg (((enc k' (xs.getD i (av k'))).drop o).take n))) else none
     |none=>none)
   |_=>none) (fun t ht hh=>?_) h
  have e0:x.ev t=x.ev s:=s1 ht (by simp+contextual [IOp.rd])
  have e1:∀id,t.rowW id=s.rowW id:=fun id=>by simp only[St.rowW];rw[hh rfl]
  simp only[step,e0,e1,IOp.dst,St.setO]
  split
  ·rename_i id k i o hx
   simp only[hx]
   cases hr:s.rowW id with
   |none=>rfl
   |some p=>
    obtain⟨k',xs⟩:=p
    simp only
    split<;>rfl
  ·rename_i hx
   split
   ·rename_i heq;exact absurd heq (hx _ _ _ _)
   ·rfl
 |apps d x y=>
  simp only[step] at h
  split at h
  ·rename_i l m hx hy
   simp only[Option.some.injEq,Prod.mk.injEq] at h
   obtain⟨rfl,rfl⟩:=h
   refine⟨x.takes.map (fun n=>(n,disown (s.get n)))++[(d,.sl .u8 .own (l++m))],?_,?_,?_⟩
   ·intro p hp
    simp only[List.mem_append,List.mem_map,List.mem_singleton] at hp
    rcases hp with⟨n,hn,rfl⟩|rfl
    ·simp[IOp.wr,IOp.dst,hn]
    ·simp[IOp.wr,IOp.dst]
   ·rw[←gr,←eS];rfl
   ·intro t ht _
    have e1:=bh (x:=x) (fun n hn=>ht n (by simp[IOp.rd,hn]))
    have e3:=bh (x:=y) (fun n hn=>ht n (by simp[IOp.rd,hn]))
    have e2:x.takes.map (fun n=>(n,disown (t.get n)))=x.takes.map (fun n=>(n,disown (s.get n))):=by
     cases x with
     |tk n=>simp only[ASrc.takes,List.map];rw[ht n (by simp[IOp.rd,ASrc.slots])]
     |_=>rfl
    simp only[step,e1,e3,hx,hy]
    rw[eS,e2,←gr];rfl
  ·simp at h
 |new=>simp[IOp.cls] at hw
 |callz=>simp[IOp.cls] at hw
 |box=>simp[IOp.cls] at hw
 |newb=>simp[IOp.cls] at hw
 |st=>simp[IOp.cls] at hw
 |stw d n x v=>simp[IOp.cls] at hw
 |apx=>simp[IOp.cls] at hw
 |alr d n=>
  refine ba (some (true,.raw n)) (fun t ht _=>?_) h
  simp only[step,IOp.dst,St.setO,Option.map_some]
 |lde d n agg x=>
  refine ba (match x.ev s with| .ea cs=>if n≤cs.length then some (true,disown (loaded agg (cs.take n))) else none|_=>none) (fun t ht _=>?_) h
  have e0:x.ev t=x.ev s:=s1 ht (by simp+contextual [IOp.rd])
  simp only[step,e0,IOp.dst,St.setO]
  split
  ·split<;>first|rfl|(simp_all;done)
  ·first|rfl|(simp_all;done)
 |frz d r n v=>
  simp only[step] at h
  split at h
  ·rename_i m hr
   split at h
   ·rename_i hc
    simp only[Option.some.injEq,Prod.mk.injEq] at h
    obtain⟨rfl,rfl⟩:=h
    refine⟨[(r,.ea ((v.ev s).cells.map disown))]++(d.toList.map fun d=>(d,.undef)),?_,?_,?_⟩
    ·intro p hp
     simp only[List.mem_append,List.mem_map,List.mem_singleton] at hp
     rcases hp with rfl|⟨m,hm,rfl⟩
     ·simp[IOp.wr]
     ·simp[IOp.wr,IOp.dst,hm]
    ·rw[←gr,←bT];rfl
    ·intro t ht _
     have e1:=bh (x:=v) (fun n hn=>ht n (by simp[IOp.rd,hn]))
     have e2:t.get r=s.get r:=ht r (by simp[IOp.rd])
     simp only[step,e1,e2,hr,hc,if_true]
     rw[←gr,←bT];rfl
   ·simp at h
  ·simp at h
 |boxe d x=>
  refine ba (match x.ev s with| .agg cs=>some (true,.ea (cs.map disown))|v=>if v.one then some (true,.ea [disown v]) else none) (fun t ht _=>?_) h
  have e0:x.ev t=x.ev s:=s1 ht (by simp+contextual [IOp.rd])
  simp only[step,e0,IOp.dst,St.setO]
  split
  ·first|rfl|(simp_all;done)
  ·split<;>first|rfl|(simp_all;done)
 |pick d cc x y=>
  refine ba (match cc.ev s with| .bool t=>some (true,afT t (disown (x.ev s)) (disown (y.ev s)))|_=>none) (fun t ht _=>?_) h
  have e0:cc.ev t=cc.ev s:=s1 ht (by simp+contextual [IOp.rd])
  have e1:x.ev t=x.ev s:=s1 ht (by simp+contextual [IOp.rd])
  have e2:y.ev t=y.ev s:=s1 ht (by simp+contextual [IOp.rd])
  simp only[step,e0,e1,e2,IOp.dst,St.setO]
  split<;>first|rfl|(simp_all;done)
 |bin d o x y=>
  refine ba (ajS o (x.ev s) (y.ev s)) (fun t ht _=>?_) h
  have e0:x.ev t=x.ev s:=s1 ht (by simp+contextual [IOp.rd])
  have e1:y.ev t=y.ev s:=s1 ht (by simp+contextual [IOp.rd])
  simp only[step,e0,e1,IOp.dst,St.setO]
 |un d o x=>
  refine ba ((unV o (x.ev s)).map fun v=>(true,v)) (fun t ht _=>?_) h
  have e0:x.ev t=x.ev s:=s1 ht (by simp+contextual [IOp.rd])
  simp only[step,e0,IOp.dst,St.setO]
  cases unV o (x.ev s)<;>rfl
 |cvi d k x=>
  refine ba (match x.ev s with| .int _ n=>some (true,.int k (k.wrap n))|_=>none) (fun t ht _=>?_) h
  have e0:x.ev t=x.ev s:=s1 ht (by simp+contextual [IOp.rd])
  simp only[step,e0,IOp.dst,St.setO]
  split<;>first|rfl|(simp_all;done)
 |b2s d x=>
  refine ba (match x.ev s with| .sl .u8 _ l=>some (true,.str l)|_=>none) (fun t ht _=>?_) h
  have e0:x.ev t=x.ev s:=s1 ht (by simp+contextual [IOp.rd])
  simp only[step,e0,IOp.dst,St.setO]
  split<;>first|rfl|(simp_all;done)
 |lens d x=>
  refine ba (match x.ev s with| .str l=>some (true,.int .i64 l.length)|_=>none) (fun t ht _=>?_) h
  have e0:x.ev t=x.ev s:=s1 ht (by simp+contextual [IOp.rd])
  simp only[step,e0,IOp.dst,St.setO]
  split<;>first|rfl|(simp_all;done)
 |lenl d x=>
  refine ba (match x.ev s with| .sl _ _ l=>some (true,.int .i64 l.length)|_=>none) (fun t ht _=>?_) h
  have e0:x.ev t=x.ev s:=s1 ht (by simp+contextual [IOp.rd])
  simp only[step,e0,IOp.dst,St.setO]
  split<;>first|rfl|(simp_all;done)
 |idx d x i=>
  refine ba (match x.ev s,i.ev s with| .str l,.int _ i=>some (decide (0≤i)&&decide (i<l.length),.int .u8 (l.getD i.toNat 0).toNat)|_,_=>none) (fun t ht _=>?_) h
  have e0:x.ev t=x.ev s:=s1 ht (by simp+contextual [IOp.rd])
  have e1:i.ev t=i.ev s:=s1 ht (by simp+contextual [IOp.rd])
  simp only[step,e0,e1,IOp.dst,St.setO]
  split<;>first|rfl|(simp_all;done)
 |ixa d k x i=>
  refine ba (match x.ev s,i.ev s with| .sl k' _ l,.int _ i=>if k'=k then some (decide (0≤i)&&decide (i<l.length),.ea (enc k' (l.getD i.toNat (av k')))) else none|_,_=>none) (fun t ht _=>?_) h
  have e0:x.ev t=x.ev s:=s1 ht (by simp+contextual [IOp.rd])
  have e1:i.ev t=i.ev s:=s1 ht (by simp+contextual [IOp.rd])
  simp only[step,e0,e1,IOp.dst,St.setO]
  split
  ·split<;>first|rfl|(simp_all;done)
  ·first|rfl|(simp_all;done)
 |subs d x lo hi=>
  refine ba (match x.ev s with| .str l=>(rN l.length (cR s lo) (cR s hi)).map fun(c,a,b)=>(c,.str ((l.take b).drop a))|_=>none) (fun t ht _=>?_) h
  have e0:x.ev t=x.ev s:=s1 ht (by simp+contextual [IOp.rd])
  have f0:cR t lo=cR s lo:=s2 ht (by simp+contextual [IOp.rd])
  have f1:cR t hi=cR s hi:=s2 ht (by simp+contextual [IOp.rd])
  simp only[step,e0,f0,f1,IOp.dst,St.setO]
  split
  ·rename_i l hl;simp only[hl,Option.map_map];rfl
  ·first|rfl|(simp_all;done)
 |subl d k x lo hi=>
  refine ba (match x.ev s with| .sl k' _ l=>if k'=k then (rN l.length (cR s lo) (cR s hi)).map fun(c,a,b)=>(c,.sl k' (.may false) ((l.take b).drop a)) else none|_=>none) (fun t ht _=>?_) h
  have e0:x.ev t=x.ev s:=s1 ht (by simp+contextual [IOp.rd])
  have f0:cR t lo=cR s lo:=s2 ht (by simp+contextual [IOp.rd])
  have f1:cR t hi=cR s hi:=s2 ht (by simp+contextual [IOp.rd])
  simp only[step,e0,f0,f1,IOp.dst,St.setO]
  split
  ·rename_i l hl
   simp only[hl]
   split
   ·simp only[Option.map_map];rfl
   ·rfl
  ·first|rfl|(simp_all;done)
 |bsl d k ps u=>
  refine ba ((decAll k (ps.map (·.ev s))).map fun l=>(true,.sl k (cond u (.may true) .own) l)) (fun t ht _=>?_) h
  have e:ps.map (·.ev t)=ps.map (·.ev s):=List.map_congr_left fun x hx=>s1 ht (fun n hn=>by simp only[IOp.rd,List.mem_flatMap];exact⟨x,hx,hn⟩)
  simp only[step,e,IOp.dst,St.setO,Option.map_map]
  rfl
 |bld d zero ps=>
  refine ba ((lay zero (ps.map fun(off,n,x)=>(off,n,x.ev s))).map fun cs=>(true,.agg cs)) (fun t ht _=>?_) h
  have e:(ps.map fun(off,n,x)=>(off,n,x.ev t))=ps.map fun(off,n,x)=>(off,n,x.ev s):=List.map_congr_left fun x hx=>by
   have:=s1 (x:=x.2.2) ht (fun n hn=>by simp only[IOp.rd,List.mem_flatMap];exact⟨x,hx,hn⟩)
   show (x.1,x.2.1,_)=(x.1,x.2.1,_)
   rw[this]
  simp only[step,e,IOp.dst,St.setO,Option.map_map]
  rfl
 |fad d off x=>
  refine ba (match x.ev s with| .ea cs=>some (true,.ea (cs.drop off))| .ptr id o=>some (true,.ptr id (o+off))|_=>none) (fun t ht _=>?_) h
  have e0:x.ev t=x.ev s:=s1 ht (by simp+contextual [IOp.rd])
  simp only[step,e0,IOp.dst,St.setO]
  split<;>first|rfl|(simp_all;done)
 |ld d n agg take x=>
  cases take with
  |true=>simp[IOp.cls] at hw
  |false=>
   refine ba (match x.ev s with| .ea cs=>if n≤cs.length then some (true,disown (loaded agg (cs.take n))) else none| .ptr id o=>(match s.obj id with|some cs=>if o+n≤cs.length then some (true,disown (loaded agg ((cs.drop o).take n))) else none|none=>none)|_=>none) (fun t ht hh=>?_) h
   have e0:x.ev t=x.ev s:=s1 ht (by simp+contextual [IOp.rd])
   have e1:∀id,t.obj id=s.obj id:=fun id=>by simp only[St.obj];rw[hh rfl]
   simp only[step,e0,e1,IOp.dst,St.setO]
   split
   ·split<;>first|rfl|(simp_all;done)
   ·split
    ·split<;>first|rfl|(simp_all;done)
    ·first|rfl|(simp_all;done)
   ·first|rfl|(simp_all;done)
 |ext d i x=>
  refine ba (match x.ev s with| .tup vs=>if i<vs.length then some (true,disown (vs.getD i .undef)) else none|_=>none) (fun t ht _=>?_) h
  have e0:x.ev t=x.ev s:=s1 ht (by simp+contextual [IOp.rd])
  simp only[step,e0,IOp.dst,St.setO]
  split
  ·split<;>first|rfl|(simp_all;done)
  ·first|rfl|(simp_all;done)
 |nck d x=>
  refine ba (match x.ev s with| .ptr id o=>some (true,.ptr id o)| .ea cs=>some (true,.ea cs)|_=>none) (fun t ht _=>?_) h
  have e0:x.ev t=x.ev s:=s1 ht (by simp+contextual [IOp.rd])
  simp only[step,e0,IOp.dst]
  split<;>first|rfl|(simp_all;done)
 |mx d mn x y=>
  refine ba (match x.ev s,y.ev s with| .int k a,.int k' b=>if k=k' then some (true,.int k (if mn then (if b<a then b else a) else (if a<b then b else a))) else none|_,_=>none) (fun t ht _=>?_) h
  have e0:x.ev t=x.ev s:=s1 ht (by simp+contextual [IOp.rd])
  have e1:y.ev t=y.ev s:=s1 ht (by simp+contextual [IOp.rd])
  simp only[step,e0,e1,IOp.dst,St.setO]
  split
  ·split<;>first|rfl|(simp_all;done)
  ·first|rfl|(simp_all;done)
 |call d f avs=>
  have hf:imp.contains f=false:=by
   simp only[IOp.cls] at hw
   split at hw
   ·omega
   ·rename_i hf;simpa using hf
  refine ba ((Γ f (avs.map fun x=>disown (x.ev s)) []).map fun x=>(x.1,x.2.1)) (fun t ht _=>?_) h
  have e:(avs.map fun x=>disown (x.ev t))=avs.map fun x=>disown (x.ev s):=List.map_congr_left fun x hx=>by
   rw[s1 (x:=x) ht (fun n hn=>by simp only[IOp.rd,List.mem_flatMap];exact⟨x,hx,hn⟩)]
  simp only[step,e,IOp.dst]
  rw[hP.pure _ _ _ hf]
  cases Γ f (avs.map fun x=>disown (x.ev s)) [] with
  |none=>rfl
  |some p=>rfl
def St.put(s:St)(u:List (Nat×V))(q:Option (List aq)):St:={s.upd u with hp:=q.getD s.hp}
theorem ahw(hP:b7 Γ imp){o:IOp}{s:St}{c:Bool}{s':St}(h:step Γ o s=some (c,s')):
  ∃(u:List (Nat×V))(q:Option (List aq)),(∀p∈u,p.1∈o.wr)∧(o.cls imp≤1→q=none)∧s'=s.put u q∧
   ∀t:St,(∀n∈o.rd,t.get n=s.get n)→(1≤o.cls imp→t.hp=s.hp)→step Γ o t=some (c,t.put u q):=by
 have s1:∀{x:ASrc}{l:List Nat}{t:St},(∀n∈l,t.get n=s.get n)→(∀n∈x.slots,n∈l)→x.ev t=x.ev s:=fun h1 h2=>bh fun n hn=>h1 n (h2 n hn)
 by_cases hw:o.cls imp≤1
 ·obtain⟨u,h1,h2,h3⟩:=aiw hP hw h
  exact⟨u,none,h1,fun _=>rfl,h2,fun t ht hh=>h3 t ht (fun e=>hh (by omega))⟩
 ·have hno:∀{q:Option (List aq)},o.cls imp≤1→q=none:=fun h=>absurd h hw
  cases o with
  |new d zero=>
   obtain⟨rfl,rfl⟩:true=c∧_=s':=by simpa [step] using h
   refine⟨[(d,.ptr s.hp.length 0)],some (s.hp++[some zero]),by simp[IOp.wr,IOp.dst],hno,rfl,fun t ht hh=>?_⟩
   have e:=hh (by simp[IOp.cls])
   simp only[step,e]
   rfl
  |newb d zero=>
   obtain⟨rfl,rfl⟩:true=c∧_=s':=by simpa [step] using h
   refine⟨[(d,.ptr s.hp.length 0)],some (s.hp++[some zero]),by simp[IOp.wr,IOp.dst],hno,rfl,fun t ht hh=>?_⟩
   have e:=hh (by simp[IOp.cls])
   simp only[step,e]
   rfl
  |apx d k x y=>
   simp only[step,Option.map_eq_some_iff] at h
   obtain⟨⟨c2,v2,id2,r2⟩,hv,h⟩:=h
   simp only[Prod.mk.injEq] at h
   obtain⟨rfl,rfl⟩:=h
   refine⟨[(d,v2)],some (s.hp.set id2 (some [r2])),by simp[IOp.wr,IOp.dst],hno,rfl,fun t ht hh=>?_⟩
   have e:=hh (by simp[IOp.cls])
   have e0:x.ev t=x.ev s:=s1 ht (by simp+contextual [IOp.rd])
   have e1:y.ev t=y.ev s:=s1 ht (by simp+contextual [IOp.rd])
   simp only[step,e0,e1,e,hv,Option.map_some,St.setObj]
   rfl
  |stw d n x v=>
   simp only[step] at h
   split at h
   ·rename_i id k i o hx
    cases ho:s.rowW id with
    |none=>rw[ho] at h;simp at h
    |some p=>
     obtain⟨k',xs⟩:=p
     rw[ho] at h
     simp only at h
     split at h
     ·rename_i hcond
      cases he:zo k' (xs.getD i (av k')) o (v.ev s).cells with
      |none=>rw[he] at h;simp at h
      |some x2=>
       rw[he] at h
       simp only[Option.some.injEq,Prod.mk.injEq] at h
       obtain⟨rfl,rfl⟩:=h
       refine⟨d.toList.map (fun d=>(d,V.undef)),some (s.hp.set id (some [.rw k' (xs.set i x2)])),?_,hno,?_,?_⟩
       ·intro p hp
        simp only[List.mem_map] at hp
        obtain⟨m,hm,rfl⟩:=hp
        simp[IOp.wr,IOp.dst,hm]
       ·simp only[St.put,←bT]
        cases d<;>rfl
       ·intro t ht hh
        have e:=hh (by simp[IOp.cls])
        have e0:x.ev t=x.ev s:=s1 ht (by simp+contextual [IOp.rd])
        have e1:v.ev t=v.ev s:=s1 ht (by simp+contextual [IOp.rd])
        have e3:t.rowW id=some ⟨k',xs⟩:=by rw[←ho];simp only[St.rowW];rw[e]
        simp only[step,e0,e1,hx,e3]
        rw[if_pos hcond,he,←e]
        simp only[St.put,←bT]
        cases d<;>rfl
     ·simp at h
   ·simp at h
  |mkm d k=>
   obtain⟨rfl,rfl⟩:true=c∧_=s':=by simpa [step] using h
   refine⟨[(d,.mr s.hp.length)],some (s.hp++[some [.mp k []]]),by simp[IOp.wr,IOp.dst],hno,rfl,fun t ht hh=>?_⟩
   have e:=hh (by simp[IOp.cls])
   simp only[step,e]
   rfl
  |mput d k x y z=>
   simp only[step] at h
   split at h
   ·rename_i id hx
    split at h
    ·rename_i k' es ho
     split at h
     ·rename_i hkk
      split at h
      ·rename_i key v hy hz
       simp only[Option.some.injEq,Prod.mk.injEq] at h
       obtain⟨rfl,rfl⟩:=h
       refine⟨d.toList.map (fun d=>(d,V.undef)),some (s.hp.set id (some [.mp k' (eV es key v)])),?_,hno,?_,?_⟩
       ·intro p hp
        simp only[List.mem_map] at hp
        obtain⟨m,hm,rfl⟩:=hp
        simp[IOp.wr,IOp.dst,hm]
       ·simp only[St.put,←bT]
        cases d<;>rfl
       ·intro t ht hh
        have e:=hh (by simp[IOp.cls])
        have e0:x.ev t=x.ev s:=s1 ht (by simp+contextual [IOp.rd])
        have e1:y.ev t=y.ev s:=s1 ht (by simp+contextual [IOp.rd])
        have e2:z.ev t=z.ev s:=s1 ht (by simp+contextual [IOp.rd])
        have e3:t.mapO id=s.mapO id:=by simp only[St.mapO];rw[e]
        simp only[step,e0,e1,e2,e3,hx,ho,hy,hz]
        rw[if_pos hkk,←e]
        simp only[St.put,←bT]
        cases d<;>rfl
      ·simp at h
     ·simp at h
    ·simp at h
   ·simp at h
  |box d x=>
   have e0:∀t:St,(∀n∈(IOp.box d x).rd,t.get n=s.get n)→x.ev t=x.ev s:=fun t ht=>s1 ht (by simp+contextual [IOp.rd])
   simp only[step] at h
   split at h
   ·rename_i cs hx
    simp only[Option.some.injEq,Prod.mk.injEq] at h
    obtain⟨rfl,rfl⟩:=h
    refine⟨[(d,.ptr s.hp.length 0)],some (s.hp++[some cs]),by simp[IOp.wr,IOp.dst],hno,rfl,fun t ht hh=>?_⟩
    have e:=hh (by simp[IOp.cls])
    simp only[step,e0 t ht,hx,e]
    rfl
   ·rename_i hx
    split at h
    ·rename_i hone
     simp only[Option.some.injEq,Prod.mk.injEq] at h
     obtain⟨rfl,rfl⟩:=h
     refine⟨[(d,.ptr s.hp.length 0)],some (s.hp++[some [disown (x.ev s)]]),by simp[IOp.wr,IOp.dst],hno,rfl,fun t ht hh=>?_⟩
     have e:=hh (by simp[IOp.cls])
     simp only[step,e0 t ht,e]
     rw[if_pos hone];rfl
    ·simp at h
  |st d n x v=>
   simp only[step] at h
   split at h
   ·rename_i id o hx
    split at h
    ·rename_i cs ho
     split at h
     ·rename_i hcond
      simp only[Option.some.injEq,Prod.mk.injEq] at h
      obtain⟨rfl,rfl⟩:=h
      refine⟨v.takes.map (fun n=>(n,disown (s.get n)))++d.toList.map (fun d=>(d,V.undef)),some (s.hp.set id (some (cs.take o++(v.ev s).cells++cs.drop (o+n)))),?_,hno,?_,?_⟩
      ·intro p hp
       simp only[List.mem_append,List.mem_map] at hp
       rcases hp with⟨m,hm,rfl⟩|⟨m,hm,rfl⟩
       ·simp[IOp.wr,IOp.dst,hm]
       ·simp[IOp.wr,IOp.dst,hm]
      ·simp only[St.put,←gr,←eS,←bT]
       cases d<;>cases v<;>rfl
      ·intro t ht hh
       have e:=hh (by simp[IOp.cls])
       have e0:x.ev t=x.ev s:=s1 ht (by simp+contextual [IOp.rd])
       have e1:v.ev t=v.ev s:=s1 ht (by simp+contextual [IOp.rd])
       have e3:t.obj id=s.obj id:=by simp only[St.obj];rw[e]
       have e2:v.takes.map (fun n=>(n,disown (t.get n)))=v.takes.map (fun n=>(n,disown (s.get n))):=by
        cases v with
        |tk n=>simp only[ASrc.takes,List.map];rw[ht n (by simp[IOp.rd,ASrc.slots])]
        |_=>rfl
       simp only[step,e0,e1,e3,hx,ho]
       rw[if_pos hcond,←e2,←e]
       simp only[St.put,←gr,←eS,←bT]
       cases d<;>cases v<;>rfl
     ·simp at h
    ·simp at h
   ·simp at h
  |ld d n agg take x=>
   cases take with
   |false=>simp[IOp.cls] at hw
   |true=>
    have e0:∀t:St,(∀m∈(IOp.ld d n agg true x).rd,t.get m=s.get m)→x.ev t=x.ev s:=fun t ht=>s1 ht (by simp+contextual [IOp.rd])
    simp only[step] at h
    split at h
    ·rename_i cs hx
     split at h
     ·rename_i hle
      simp only[Option.some.injEq,Prod.mk.injEq] at h
      obtain⟨rfl,rfl⟩:=h
      refine⟨[(d,_)],none,by simp[IOp.wr,IOp.dst],hno,rfl,fun t ht hh=>?_⟩
      simp only[step,e0 t ht,hx]
      rw[if_pos hle];rfl
     ·simp at h
    ·rename_i id o hx
     split at h
     ·rename_i cs ho
      split at h
      ·rename_i hle
       simp only[if_true] at h
       cases hnb:noBn (cs.getD o .undef) with
       |false=>rw[hnb] at h;simp at h
       |true=>
       rw[hnb] at h
       simp only[if_true,Option.some.injEq,Prod.mk.injEq] at h
       obtain⟨rfl,rfl⟩:=h
       refine⟨[(d,loaded agg ((cs.drop o).take n))],some (s.hp.set id (some (cs.set o (disown (cs.getD o .undef))))),by simp[IOp.wr,IOp.dst],hno,rfl,fun t ht hh=>?_⟩
       have e:=hh (by simp[IOp.cls])
       have e3:t.obj id=s.obj id:=by simp only[St.obj];rw[e]
       simp only[step,e0 t ht,hx,e3,ho]
       rw[if_pos hle,hnb,←e];rfl
      ·simp at h
     ·simp at h
    ·simp at h
  |callz d f avs=>
   have e0:∀t:St,(∀n∈(IOp.callz d f avs).rd,t.get n=s.get n)→(avs.map fun x=>disown (x.ev t))=avs.map fun x=>disown (x.ev s):=fun t ht=>List.map_congr_left fun x hx=>by
    rw[s1 (x:=x) ht (fun n hn=>by simp only[IOp.rd,List.mem_flatMap];exact⟨x,hx,hn⟩)]
   simp only[step] at h
   split at h
   ·rename_i c' v hp' hg
    simp only[Option.some.injEq,Prod.mk.injEq] at h
    obtain⟨rfl,rfl⟩:=h
    refine⟨[(d,v.laid)],some hp',by simp[IOp.wr,IOp.dst],hno,rfl,fun t ht hh=>?_⟩
    have e:=hh (by simp[IOp.cls])
    simp only[step,e0 t ht,e,hg]
    rfl
   ·simp at h
  |call d f avs=>
   have e0:∀t:St,(∀n∈(IOp.call d f avs).rd,t.get n=s.get n)→(avs.map fun x=>disown (x.ev t))=avs.map fun x=>disown (x.ev s):=fun t ht=>List.map_congr_left fun x hx=>by
    rw[s1 (x:=x) ht (fun n hn=>by simp only[IOp.rd,List.mem_flatMap];exact⟨x,hx,hn⟩)]
   simp only[step] at h
   split at h
   ·rename_i c' v hp' hg
    simp only[Option.some.injEq,Prod.mk.injEq] at h
    obtain⟨rfl,rfl⟩:=h
    refine⟨d.toList.map (fun d=>(d,v)),some hp',?_,hno,?_,fun t ht hh=>?_⟩
    ·intro p hp
     simp only[List.mem_map] at hp
     obtain⟨m,hm,rfl⟩:=hp
     simp[IOp.wr,IOp.dst,hm]
    ·simp only[St.put,←bT]
     cases d<;>rfl
    ·have e:=hh (by omega)
     simp only[step,e0 t ht,e,hg]
     simp only[St.put,←bT]
     cases d<;>rfl
   ·simp at h
  |_=>simp[IOp.cls] at hw
def cB(Γ:az)(x:GOp)(s:St):Option St:=
 match x.g with
 |none=>match stepO Γ x.ob x.o s with|some (c,s')=>chk c (some s')|none=>none
 |some (g,w)=>match s.get g with
  | .bool b=>match b==w with
    |true=>match stepO Γ x.ob x.o s with|some (c,s')=>chk c (some s')|none=>none
    |false=>some (s.setO x.o.dst (.tup []))
  | .tup []=>some (s.setO x.o.dst (.tup []))
  |_=>none
theorem ak5(s:St)(n:Nat){v:V}(h:s.get n=v):s.set n v=s:=by
 subst h
 simp only[St.set,St.get,List.getD]
 congr 1
 apply List.ext_getElem?
 intro m
 rw[List.getElem?_set]
 split
 ·rename_i e
  subst e
  split
  ·rename_i hlt;simp[List.getElem?_eq_getElem hlt]
  ·rename_i hlt;simp[List.getElem?_eq_none (Nat.le_of_not_lt hlt)]
 ·rfl
theorem sT{R:Type}(x:GOp)(l:List GOp)(K:St→Option R)(s:St):runOps Γ (x::l) K s=(cB Γ x s).bind (runOps Γ l K):=by
 obtain⟨g,o,ob⟩:=x
 have go:∀s,(match stepO Γ ob o s with|some (c,s')=>chk c (runOps Γ l K s')|none=>none)=(match stepO Γ ob o s with|some (c,s')=>chk c (some s')|none=>none).bind (runOps Γ l K):=by
  intro s
  split
  ·rename_i c s' _;cases c<;>rfl
  ·rfl
 cases g with
 |none=>simp only[runOps,cB];exact go s
 |some g=>
  obtain⟨g,w⟩:=g
  simp only[runOps,cB]
  split
  ·rename_i b hb
   rw[hb]
   cases b<;>cases w<;>simp only[cond_true,cond_false,ak5 s g hb]<;>first|exact go s|rfl
  ·rename_i hb
   rw[hb]
   rfl
  ·rename_i hno hno2
   split
   ·rename_i b hb;exact absurd hb (hno b)
   ·rename_i hb;exact absurd hb hno2
   ·rfl
theorem ajn{o:IOp}{s t:St}(h:∀n∈o.rd,t.get n=s.get n):o.foot t=o.foot s:=by
 cases o with
 |ld d n agg take x=>simp only[IOp.foot];rw[bh (x:=x) h]
 |st d n x v=>simp only[IOp.foot];rw[bh (x:=x) fun n hn=>h n (by simp[IOp.rd,hn])]
 |call d f avs=>
  have e:avs.map (fun x=>disown (x.ev t))=avs.map (fun x=>disown (x.ev s)):=List.map_congr_left fun x hx=>by rw[bh fun n hn=>h n (by simp only[IOp.rd,List.mem_flatMap];exact⟨x,hx,hn⟩)]
  simp only[IOp.foot,e]
 |ldw d n agg x=>simp only[IOp.foot];rw[bh (x:=x) h]
 |stw d n x v=>simp only[IOp.foot];rw[bh (x:=x) fun n hn=>h n (by simp[IOp.rd,hn])]
 |apx d k x y=>simp only[IOp.foot];rw[bh (x:=x) fun n hn=>h n (by simp[IOp.rd,hn])]
 |_=>rfl
theorem mP{ob:Option (List Nat×List Nat)}{o:IOp}{s t:St}{p q:Bool×St}(h:stepO Γ ob o s=some p)(ht:∀n∈o.rd,t.get n=s.get n)(hq:step Γ o t=some q):stepO Γ ob o t=some q:=by
 cases ob with
 |none=>exact hq
 |some l=>
  simp only[stepO] at h ⊢
  have e:o.within l t=o.within l s:=by simp only[IOp.within,ajn ht]
  rw[e]
  cases hw:o.within l s with
  |true=>exact hq
  |false=>rw[hw] at h;simp at h
def GOp.rd(x:GOp):List Nat:=(match x.g with|some (g,_)=>[g]|none=>[])++x.o.rd
theorem zx(hP:b7 Γ imp){x:GOp}{s s':St}(h:cB Γ x s=some s'):
  ∃(u:List (Nat×V))(q:Option (List aq)),(∀p∈u,p.1∈x.o.wr)∧(x.o.cls imp≤1→q=none)∧s'=s.put u q∧
   ∀t:St,(∀n∈x.rd,t.get n=s.get n)→(1≤x.o.cls imp→t.hp=s.hp)→cB Γ x t=some (t.put u q):=by
 obtain⟨g,o,ob⟩:=x
 have go:(match stepO Γ ob o s with|some (c,s')=>chk c (some s')|none=>none)=some s'→∃(u:List (Nat×V))(q:Option (List aq)),(∀p∈u,p.1∈o.wr)∧(o.cls imp≤1→q=none)∧s'=s.put u q∧
   ∀t:St,(∀n∈o.rd,t.get n=s.get n)→(1≤o.cls imp→t.hp=s.hp)→(match stepO Γ ob o t with|some (c,s')=>chk c (some s')|none=>none)=some (t.put u q):=by
  intro h
  split at h
  ·rename_i c s₁ hst
   cases c with
   |false=>simp[chk] at h
   |true=>
    obtain rfl:s₁=s':=by simpa [chk] using h
    obtain⟨u,q,h1,h2,h3,h4⟩:=ahw hP (jm hst)
    exact⟨u,q,h1,h2,h3,fun t ht hh=>by rw[mP hst ht (h4 t ht hh)];rfl⟩
  ·simp at h
 cases g with
 |none=>
  obtain⟨u,q,h1,h2,h3,h4⟩:=go h
  exact⟨u,q,h1,h2,h3,fun t ht hh=>h4 t (fun n hn=>ht n (by simp[GOp.rd,hn])) hh⟩
 |some g=>
  obtain⟨g,w⟩:=g
  simp only[cB] at h
  split at h
  ·rename_i b hb
   split at h
   ·rename_i hbw
    obtain⟨u,q,h1,h2,h3,h4⟩:=go h
    refine⟨u,q,h1,h2,h3,fun t ht hh=>?_⟩
    have e:=ht g (by simp[GOp.rd])
    simp only[cB,e,hb,hbw]
    exact h4 t (fun n hn=>ht n (by simp[GOp.rd,hn])) hh
   ·rename_i hbw
    obtain rfl:_=s':=by simpa using h
    refine⟨o.dst.toList.map (fun d=>(d,V.tup [])),none,?_,fun _=>rfl,by rw[bT];rfl,fun t ht hh=>?_⟩
    ·intro p hp
     simp only[List.mem_map] at hp
     obtain⟨m,hm,rfl⟩:=hp
     simp[IOp.wr,hm]
    ·have e:=ht g (by simp[GOp.rd])
     simp only[cB,e,hb,hbw]
     rw[bT];rfl
  ·rename_i hb
   obtain rfl:_=s':=by simpa using h
   refine⟨o.dst.toList.map (fun d=>(d,V.tup [])),none,?_,fun _=>rfl,by rw[bT];rfl,fun t ht hh=>?_⟩
   ·intro p hp
    simp only[List.mem_map] at hp
    obtain⟨m,hm,rfl⟩:=hp
    simp[IOp.wr,hm]
   ·have e:=ht g (by simp[GOp.rd])
    simp only[cB,e,hb]
    rw[bT];rfl
  ·simp at h
def ab1(a b:List Nat):Bool:=a.all fun n=> !b.contains n
def IOp.obable(imp:List Nat):IOp→Bool
 | .ld .. | .st .. | .ldw .. | .stw .. | .apx .. =>true
 | .call _ f _=>imp.contains (f+2000000)
 |_=>false
def apart(imp:List Nat)(x y:GOp):Bool:=(x.o.obable imp&&y.o.obable imp)&&(match x.ob,y.ob with
 |some (r,w),some (r',w')=>ab1 w r'&&(ab1 w w'&&ab1 w' r)
 |_,_=>false)
def ajo(x y:GOp):Bool:=match x.g,y.g,x.o,y.o with
 |none,none,.ld _ _ _ true _,.ld _ _ _ false _=>true
 |none,none,.ld _ _ _ false _,.ld _ _ _ true _=>true
 |_,_,_,_=>false
def acE(imp:List Nat)(x y:GOp):Bool:=
 ab1 x.o.wr y.rd&&(ab1 y.o.wr x.rd&&(ab1 x.o.wr y.o.wr&&(((Nat.ble (x.o.cls imp) 1||Nat.beq (y.o.cls imp) 0)&&(Nat.ble (y.o.cls imp) 1||Nat.beq (x.o.cls imp) 0))||(apart imp x y||ajo x y))))
def St.putH(s:St)(u:List (Nat×V))(q:List (Nat×aq)):St:={s.upd u with hp:=zv s.hp q}
theorem ab2{s t:St}{i:Nat}(h:t.hp[i]? =s.hp[i]?):t.obj i=s.obj i:=by
 unfold St.obj
 rw[tW h]
theorem zy{s t:St}{i:Nat}(h:t.hp[i]? =s.hp[i]?):t.rowW i=s.rowW i:=by
 unfold St.rowW
 rw[tW h]
theorem ajp(hP:b7 Γ imp){o:IOp}(ho:o.obable imp=true){s:St}{c:Bool}{s':St}{r w:List Nat}(hf:o.foot s=some (r,w))(h:step Γ o s=some (c,s')):
  ∃(u:List (Nat×V))(q:List (Nat×aq)),(∀p∈u,p.1∈o.wr)∧(∀p∈q,p.1∈w)∧s'=s.putH u q∧
   ∀t:St,(∀n∈o.rd,t.get n=s.get n)→t.hp.length=s.hp.length→(∀i,i∈r∨i∈w→t.hp[i]? =s.hp[i]?)→step Γ o t=some (c,t.putH u q):=by
 cases o with
 |ld d n agg take x=>
  have ex:∀t:St,(∀n∈(IOp.ld d n agg take x).rd,t.get n=s.get n)→x.ev t=x.ev s:=fun t ht=>bh ht
  cases hx:x.ev s with
  |ea cs=>
   simp only[step,hx] at h
   split at h
   ·rename_i hn
    simp only[Option.some.injEq,Prod.mk.injEq] at h
    obtain⟨rfl,rfl⟩:=h
    refine⟨[(d,disown (loaded agg (cs.take n)))],[],by simp[IOp.wr,IOp.dst],by simp,rfl,fun t ht _ _=>?_⟩
    simp only[step,ex t ht,hx,if_pos hn]
    rfl
   ·simp at h
  |ptr id o=>
   simp only[IOp.foot,hx,Option.some.injEq] at hf
   simp only[step,hx] at h
   cases hob:s.obj id with
   |none=>rw[hob] at h;simp at h
   |some cs=>
    rw[hob] at h
    simp only at h
    split at h
    ·rename_i hn
     cases take with
     |false=>
      simp only[cond_false,Prod.mk.injEq] at hf
      obtain⟨rfl,rfl⟩:=hf
      simp only[Bool.false_eq_true,if_false,Option.some.injEq,Prod.mk.injEq] at h
      obtain⟨rfl,rfl⟩:=h
      refine⟨[(d,disown (loaded agg ((cs.drop o).take n)))],[],by simp[IOp.wr,IOp.dst],by simp,rfl,fun t ht _ hh=>?_⟩
      have e:=ab2 (hh id (.inl (by simp)))
      simp only[step,ex t ht,hx,e,hob,if_pos hn]
      rfl
     |true=>
      simp only[cond_true,Prod.mk.injEq] at hf
      obtain⟨rfl,rfl⟩:=hf
      simp only[if_true] at h
      split at h
      ·rename_i hb
       simp only[Option.some.injEq,Prod.mk.injEq] at h
       obtain⟨rfl,rfl⟩:=h
       refine⟨[(d,loaded agg ((cs.drop o).take n))],[(id,some (cs.set o (disown (cs.getD o .undef))))],by simp[IOp.wr,IOp.dst],by simp,rfl,fun t ht _ hh=>?_⟩
       have e:=ab2 (hh id (.inr (by simp)))
       simp only[step,ex t ht,hx,e,hob,if_pos hn,if_true,if_pos hb]
       rfl
      ·simp at h
    ·simp at h
  |_=>simp[IOp.foot,hx] at hf
 |st d n x v=>
  have ex:∀t:St,(∀n∈(IOp.st d n x v).rd,t.get n=s.get n)→x.ev t=x.ev s:=fun t ht=>bh fun n hn=>ht n (by simp[IOp.rd,hn])
  have ev:∀t:St,(∀n∈(IOp.st d n x v).rd,t.get n=s.get n)→v.ev t=v.ev s:=fun t ht=>bh fun n hn=>ht n (by simp[IOp.rd,hn])
  have ea:∀t:St,(∀n∈(IOp.st d n x v).rd,t.get n=s.get n)→v.takes.map (fun n=>(n,disown (t.get n)))=v.takes.map (fun n=>(n,disown (s.get n))):=by
   intro t ht
   cases v with
   |tk m=>simp only[ASrc.takes,List.map];rw[ht m (by simp[IOp.rd,ASrc.slots])]
   |_=>rfl
  cases hx:x.ev s with
  |ptr id o=>
   simp only[IOp.foot,hx,Option.some.injEq,Prod.mk.injEq] at hf
   obtain⟨rfl,rfl⟩:=hf
   simp only[step,hx] at h
   cases hob:s.obj id with
   |none=>rw[hob] at h;simp at h
   |some cs=>
    rw[hob] at h
    simp only at h
    split at h
    ·rename_i hn
     simp only[Option.some.injEq,Prod.mk.injEq] at h
     obtain⟨rfl,rfl⟩:=h
     refine⟨v.takes.map (fun n=>(n,disown (s.get n)))++d.toList.map (fun d=>(d,V.undef)),[(id,some (cs.take o++(v.ev s).cells++cs.drop (o+n)))],?_,by simp,?_,fun t ht _ hh=>?_⟩
     ·intro p hp
      simp only[List.mem_append,List.mem_map] at hp
      rcases hp with⟨m,hm,rfl⟩|⟨m,hm,rfl⟩
      ·simp[IOp.wr,IOp.dst,hm]
      ·simp only[Option.mem_toList] at hm
       simp[IOp.wr,IOp.dst,hm]
     ·rw[eS,bT]
      simp only[St.putH,←gr]
      rfl
     ·have e:=ab2 (hh id (.inr (by simp)))
      simp only[step,ex t ht,ev t ht,hx,e,hob,if_pos hn]
      rw[eS,bT,ea t ht]
      simp only[St.putH,←gr]
      rfl
    ·simp at h
  |_=>simp[IOp.foot,hx] at hf
 |call d f avs=>
  have e:∀t:St,(∀n∈(IOp.call d f avs).rd,t.get n=s.get n)→avs.map (fun x=>disown (x.ev t))=avs.map (fun x=>disown (x.ev s)):=fun t ht=>List.map_congr_left fun x hx=>by rw[bh fun n hn=>ht n (by simp only[IOp.rd,List.mem_flatMap];exact⟨x,hx,hn⟩)]
  simp only[IOp.foot,Option.some.injEq,Prod.mk.injEq] at hf
  obtain⟨rfl,rfl⟩:=hf
  simp only[step] at h
  split at h
  ·rename_i c' v' hp' hg
   simp only[Option.some.injEq,Prod.mk.injEq] at h
   obtain⟨rfl,rfl⟩:=h
   obtain⟨q,q1,rfl,q3⟩:=hP.loc f _ _ _ _ _ ho hg
   refine⟨d.toList.map (fun d=>(d,v')),q,?_,q1,?_,fun t ht hl hh=>?_⟩
   ·intro p hp
    simp only[List.mem_map,Option.mem_toList] at hp
    obtain⟨m,hm,rfl⟩:=hp
    simp[IOp.wr,IOp.dst,hm]
   ·rw[bT];rfl
   ·have:=q3 t.hp hl (fun i hi=>hh i (.inl hi))
    simp only[step,e t ht,this]
    rw[bT];rfl
  ·simp at h
 |ldw d n agg x=>
  have ex:∀t:St,(∀n∈(IOp.ldw d n agg x).rd,t.get n=s.get n)→x.ev t=x.ev s:=fun t ht=>bh ht
  cases hx:x.ev s with
  |wp id k i o=>
   simp only[IOp.foot,hx,Option.some.injEq,Prod.mk.injEq] at hf
   obtain⟨rfl,rfl⟩:=hf
   simp only[step,hx] at h
   cases hob:s.rowW id with
   |none=>rw[hob] at h;simp at h
   |some p=>
    obtain⟨k',xs⟩:=p
    rw[hob] at h
    simp only at h
    split at h
    ·rename_i hn
     simp only[Option.some.injEq,Prod.mk.injEq] at h
     obtain⟨rfl,rfl⟩:=h
     refine⟨[(d,disown (loaded agg (((enc k' (xs.getD i (av k'))).drop o).take n)))],[],by simp[IOp.wr,IOp.dst],by simp,rfl,fun t ht _ hh=>?_⟩
     have e:=zy (hh id (.inl (by simp)))
     simp only[step,ex t ht,hx,e,hob,if_pos hn]
     rfl
    ·simp at h
  |_=>simp[IOp.foot,hx] at hf
 |stw d n x v=>
  have ex:∀t:St,(∀n∈(IOp.stw d n x v).rd,t.get n=s.get n)→x.ev t=x.ev s:=fun t ht=>bh fun n hn=>ht n (by simp[IOp.rd,hn])
  have ev:∀t:St,(∀n∈(IOp.stw d n x v).rd,t.get n=s.get n)→v.ev t=v.ev s:=fun t ht=>bh fun n hn=>ht n (by simp[IOp.rd,hn])
  cases hx:x.ev s with
  |wp id k i o=>
   simp only[IOp.foot,hx,Option.some.injEq,Prod.mk.injEq] at hf
   obtain⟨rfl,rfl⟩:=hf
   simp only[step,hx] at h
   cases hob:s.rowW id with
   |none=>rw[hob] at h;simp at h
   |some p=>
    obtain⟨k',xs⟩:=p
    rw[hob] at h
    simp only at h
    split at h
    ·rename_i hn
     cases he:zo k' (xs.getD i (av k')) o (v.ev s).cells with
     |none=>rw[he] at h;simp at h
     |some x2=>
      rw[he] at h
      simp only[Option.some.injEq,Prod.mk.injEq] at h
      obtain⟨rfl,rfl⟩:=h
      refine⟨d.toList.map (fun d=>(d,V.undef)),[(id,some [.rw k' (xs.set i x2)])],?_,by simp,?_,fun t ht _ hh=>?_⟩
      ·intro p hp
       simp only[List.mem_map,Option.mem_toList] at hp
       obtain⟨m,hm,rfl⟩:=hp
       simp[IOp.wr,IOp.dst,hm]
      ·rw[bT];rfl
      ·have e:=zy (hh id (.inr (by simp)))
       simp only[step,ex t ht,ev t ht,hx,e,hob,if_pos hn,he]
       rw[bT];rfl
    ·simp at h
  |_=>simp[IOp.foot,hx] at hf
 |apx d k x y=>
  have ex:∀t:St,(∀n∈(IOp.apx d k x y).rd,t.get n=s.get n)→x.ev t=x.ev s:=fun t ht=>bh fun n hn=>ht n (by simp[IOp.rd,hn])
  have ey:∀t:St,(∀n∈(IOp.apx d k x y).rd,t.get n=s.get n)→y.ev t=y.ev s:=fun t ht=>bh fun n hn=>ht n (by simp[IOp.rd,hn])
  cases hx:x.ev s with
  |sw k1 id n=>
   simp only[IOp.foot,hx,Option.some.injEq,Prod.mk.injEq] at hf
   obtain⟨rfl,rfl⟩:=hf
   simp only[step,Option.map_eq_some_iff] at h
   obtain⟨⟨c2,v2,id2,r2⟩,hv,h⟩:=h
   simp only[Prod.mk.injEq] at h
   obtain⟨rfl,rfl⟩:=h
   have hid:id2=id:=by
    rw[hx] at hv
    unfold adr at hv
    split at hv
    ·rename_i e1 e2
     cases e1
     split at hv
     ·split at hv
      ·simp only[Option.some.injEq,Prod.mk.injEq] at hv
       exact hv.2.2.1.symm
      ·simp at hv
     ·simp at hv
    ·simp at hv
   subst hid
   refine⟨[(d,v2)],[(id2,some [r2])],by simp[IOp.wr,IOp.dst],by simp,rfl,fun t ht _ hh=>?_⟩
   have e:adr t.hp k (x.ev t) (y.ev t)=adr s.hp k (x.ev s) (y.ev s):=by
    rw[ex t ht,ey t ht,hx]
    unfold adr
    have e3:St.rowW ⟨[],t.hp⟩ id2=St.rowW ⟨[],s.hp⟩ id2:=zy (s:=⟨[],s.hp⟩) (t:=⟨[],t.hp⟩) (hh id2 (.inr (by simp)))
    cases y.ev s<;>first|rfl|simp only[e3]
   simp only[step,e,hv,Option.map_some]
   rfl
  |_=>simp[IOp.foot,hx] at hf
 |_=>simp[IOp.obable] at ho
theorem ahx{o:IOp}{R W:List Nat}{s:St}(h:o.within (R,W) s=true):∃r w,o.foot s=some (r,w)∧(∀i∈r,i∈R∨i∈W)∧∀i∈w,i∈W:=by
 unfold IOp.within at h
 split at h
 ·rename_i r w hf
  simp only[Bool.and_eq_true,List.all_eq_true,Bool.or_eq_true,List.any_eq_true] at h
  refine⟨r,w,hf,?_,?_⟩
  ·intro i hi
   rcases h.1 i hi with⟨j,hj,e⟩|⟨j,hj,e⟩
   ·left;rw[Nat.eq_of_beq_eq_true e];exact hj
   ·right;rw[Nat.eq_of_beq_eq_true e];exact hj
  ·intro i hi
   obtain⟨j,hj,e⟩:=h.2 i hi
   rw[Nat.eq_of_beq_eq_true e];exact hj
 ·simp at h
theorem acF(hP:b7 Γ imp){x:GOp}{R W:List Nat}(ho:x.o.obable imp=true)(hob:x.ob=some (R,W)){s s':St}(h:cB Γ x s=some s'):
  ∃(u:List (Nat×V))(q:List (Nat×aq)),(∀p∈u,p.1∈x.o.wr)∧(∀p∈q,p.1∈W)∧s'=s.putH u q∧
   ∀t:St,(∀n∈x.rd,t.get n=s.get n)→t.hp.length=s.hp.length→(∀i,i∈R∨i∈W→t.hp[i]? =s.hp[i]?)→cB Γ x t=some (t.putH u q):=by
 obtain⟨g,o,ob⟩:=x
 obtain rfl:ob=some (R,W):=hob
 have go:(match stepO Γ (some (R,W)) o s with|some (c,s')=>chk c (some s')|none=>none)=some s'→∃(u:List (Nat×V))(q:List (Nat×aq)),(∀p∈u,p.1∈o.wr)∧(∀p∈q,p.1∈W)∧s'=s.putH u q∧
   ∀t:St,(∀n∈o.rd,t.get n=s.get n)→t.hp.length=s.hp.length→(∀i,i∈R∨i∈W→t.hp[i]? =s.hp[i]?)→(match stepO Γ (some (R,W)) o t with|some (c,s')=>chk c (some s')|none=>none)=some (t.putH u q):=by
  intro h
  split at h
  ·rename_i c s₁ hst
   cases c with
   |false=>simp[chk] at h
   |true=>
    obtain rfl:s₁=s':=by simpa [chk] using h
    have hw:o.within (R,W) s=true:=by
     cases hw:o.within (R,W) s with
     |true=>rfl
     |false=>simp[stepO,hw] at hst
    obtain⟨r,w,hf,hr,hwW⟩:=ahx hw
    obtain⟨u,q,h1,h2,h3,h4⟩:=ajp hP ho hf (jm hst)
    exact⟨u,q,h1,fun p hp=>hwW _ (h2 p hp),h3,fun t ht hl hh=>by
     rw[mP hst ht (h4 t ht hl (fun i hi=>hi.elim (fun hi=>hh i (hr i hi)) (fun hi=>hh i (.inr (hwW i hi)))))];rfl⟩
  ·simp at h
 have off:∀s:St,s.setO o.dst (.tup [])=s.putH (o.dst.toList.map fun d=>(d,V.tup [])) []:=fun s=>by rw[bT];rfl
 have offw:∀p∈o.dst.toList.map fun d=>(d,V.tup []),p.1∈o.wr:=by
  intro p hp
  simp only[List.mem_map] at hp
  obtain⟨m,hm,rfl⟩:=hp
  simp[IOp.wr,hm]
 cases g with
 |none=>
  obtain⟨u,q,h1,h2,h3,h4⟩:=go h
  exact⟨u,q,h1,h2,h3,fun t ht=>h4 t (fun n hn=>ht n (by simp[GOp.rd,hn]))⟩
 |some g=>
  obtain⟨g,w⟩:=g
  simp only[cB] at h
  split at h
  ·rename_i b hb
   split at h
   ·rename_i hbw
    obtain⟨u,q,h1,h2,h3,h4⟩:=go h
    refine⟨u,q,h1,h2,h3,fun t ht hl hh=>?_⟩
    have e:=ht g (by simp[GOp.rd])
    simp only[cB,e,hb,hbw]
    exact h4 t (fun n hn=>ht n (by simp[GOp.rd,hn])) hl hh
   ·rename_i hbw
    obtain rfl:_=s':=by simpa using h
    refine⟨_,[],offw,by simp,off s,fun t ht hl hh=>?_⟩
    have e:=ht g (by simp[GOp.rd])
    simp only[cB,e,hb,hbw]
    rw[off]
  ·rename_i hb
   obtain rfl:_=s':=by simpa using h
   refine⟨_,[],offw,by simp,off s,fun t ht hl hh=>?_⟩
   have e:=ht g (by simp[GOp.rd])
   simp only[cB,e,hb]
   rw[off]
  ·simp at h
theorem oQ{a b:List Nat}(h:ab1 a b=true):∀n∈a,n ∉ b:=by
 intro n hn
 have:=List.all_eq_true.1 h n hn
 simpa using this
theorem adu{α:Type}(u:List (Nat×α)):∀(e:List α)(n:Nat)(v:α),(∀p∈u,p.1≠n)→u.foldl (fun e p=>e.set p.1 p.2) (e.set n v)=(u.foldl (fun e p=>e.set p.1 p.2) e).set n v:=by
 induction u with
 |nil=>intro e n v _;rfl
 |cons p u ih=>
  intro e n v h
  simp only[List.foldl_cons]
  rw[List.set_comm _ _ (Ne.symm (h p (List.mem_cons_self ..))),ih _ _ _ (fun q hq=>h q (List.mem_cons_of_mem _ hq))]
theorem oG{α:Type}(v:List (Nat×α)):∀(u:List (Nat×α))(e:List α),(∀p∈u,∀q∈v,p.1≠q.1)→
  v.foldl (fun e p=>e.set p.1 p.2) (u.foldl (fun e p=>e.set p.1 p.2) e)=u.foldl (fun e p=>e.set p.1 p.2) (v.foldl (fun e p=>e.set p.1 p.2) e):=by
 induction v with
 |nil=>intro u e _;rfl
 |cons q v ih=>
  intro u e h
  simp only[List.foldl_cons]
  rw[←adu u e q.1 q.2 (fun p hp=>h p hp q (List.mem_cons_self ..)),ih u _ (fun p hp r hr=>h p hp r (List.mem_cons_of_mem _ hr))]
theorem ak6{s:St}{id:Nat}{cs:List V}(h:s.obj id=some cs)(i:Nat):(s.setObj id (cs.set i (disown (cs.getD i .undef)))).obj id=some (cs.set i (disown (cs.getD i .undef))):=by
 have hl:id<s.hp.length:=by
  rcases Nat.lt_or_ge id s.hp.length with hl|hl
  ·exact hl
  ·unfold St.obj at h
   rw[List.getD_eq_getElem?_getD,List.getElem?_eq_none hl] at h
   simp at h
 have hg:s.hp.getD id none=some cs∧(∀xs,cs≠[.rb xs])∧(∀k xs,cs≠[.rw k xs])∧(∀k xs,cs≠[.mp k xs]):=by
  unfold St.obj at h
  split at h
  ·simp at h
  ·simp at h
  ·simp at h
  ·rename_i n1 n2 n3
   refine⟨h,fun xs e=>?_,fun k xs e=>?_,fun k xs e=>?_⟩
   ·subst e;exact n1 _ h
   ·subst e;exact n2 _ _ h
   ·subst e;exact n3 _ _ h
 obtain⟨g0,g1,g2,g3⟩:=hg
 have e0:(s.setObj id (cs.set i (disown (cs.getD i .undef)))).hp.getD id none=some (cs.set i (disown (cs.getD i .undef))):=by
  simp[St.setObj,List.getD_eq_getElem?_getD,hl]
 unfold St.obj
 rw[e0]
 match cs,i with
 | [],i=>rfl
 | [c],0=>
   simp only[List.getD_cons_zero,List.set_cons_zero]
   cases c with
   |rb xs=>exact absurd rfl (g1 xs)
   |rw k xs=>exact absurd rfl (g2 k xs)
   |mp k xs=>exact absurd rfl (g3 k xs)
   |sl k o xs=>cases o<;>rfl
   |_=>rfl
 | [c],i+1=>
   simp only[List.set_cons_succ,List.set_nil]
   cases c with
   |rb xs=>exact absurd rfl (g1 xs)
   |rw k xs=>exact absurd rfl (g2 k xs)
   |mp k xs=>exact absurd rfl (g3 k xs)
   |_=>rfl
 |c::c2::r,0=>
  simp only[List.set_cons_zero]
  split<;>first|rfl|(rename_i e;simp at e)
 |c::c2::r,1=>
  simp only[List.set_cons_succ,List.set_cons_zero]
 |c::c2::r,i+2=>
  simp only[List.set_cons_succ]
theorem adv(cs:List V)(i:Nat):(cs.set i (disown (cs.getD i .undef))).map disown=cs.map disown:=by
 rw[List.map_set,aeR]
 apply List.ext_getElem?
 intro m
 rw[List.getElem?_set]
 by_cases h:i=m
 ·subst h
  simp only[if_true,List.length_map]
  split
  ·rename_i hl;simp[List.getD_eq_getElem?_getD,List.getElem?_eq_getElem hl]
  ·rename_i hl;simp[List.getElem?_eq_none (Nat.le_of_not_lt hl)]
 ·simp[h]
theorem xL(agg:Bool)(cs:List V):disown (loaded agg cs)=if agg then .agg (cs.map disown) else (cs.map disown).headD .undef:=by
 cases agg with
 |true=>rfl
 |false=>cases cs<;>rfl
theorem aix(agg:Bool)(cs:List V)(i o n:Nat):disown (loaded agg (((cs.set i (disown (cs.getD i .undef))).drop o).take n))=disown (loaded agg ((cs.drop o).take n)):=by
 rw[xL,xL,List.map_take,List.map_drop,adv,List.map_take,List.map_drop]
def rdV(p:V)(s:St)(n:Nat)(a:Bool):Option V:=match p with
 | .ea cs=>if n≤cs.length then some (disown (loaded a (cs.take n))) else none
 | .ptr id o=>match s.obj id with
   |some cs=>if o+n≤cs.length then some (disown (loaded a ((cs.drop o).take n))) else none
   |none=>none
 |_=>none
theorem acG(d n:Nat)(a:Bool)(x:ASrc)(s:St):step Γ (.ld d n a false x) s=(rdV (x.ev s) s n a).map fun v=>(true,s.set d v):=by
 cases hx:x.ev s with
 |ea cs=>
  simp only[step,rdV,hx]
  split<;>rfl
 |ptr id o=>
  simp only[step,rdV,hx]
  cases s.obj id with
  |none=>rfl
  |some cs=>
   simp only[Bool.false_eq_true,if_false]
   split<;>rfl
 |_=>simp only[step,rdV,hx];rfl
def tkV(p:V)(s:St)(n:Nat)(a:Bool):Option (V×Option (Nat×List V)):=match p with
 | .ea cs=>if n≤cs.length then some (disown (loaded a (cs.take n)),none) else none
 | .ptr id o=>match s.obj id with
   |some cs=>if o+n≤cs.length then (if noBn (cs.getD o .undef) then some (loaded a ((cs.drop o).take n),some (id,cs.set o (disown (cs.getD o .undef)))) else none) else none
   |none=>none
 |_=>none
def St.turn(s:St):Option (Nat×List V)→St
 |none=>s
 |some (id,cs)=>s.setObj id cs
theorem acH(d n:Nat)(a:Bool)(x:ASrc)(s:St):step Γ (.ld d n a true x) s=(tkV (x.ev s) s n a).map fun q=>(true,(s.turn q.2).set d q.1):=by
 cases hx:x.ev s with
 |ea cs=>
  simp only[step,tkV,hx]
  split<;>rfl
 |ptr id o=>
  simp only[step,tkV,hx]
  cases s.obj id with
  |none=>rfl
  |some cs=>
   simp only[if_true]
   split
   ·split<;>rfl
   ·rfl
 |_=>simp only[step,tkV,hx];rfl
theorem ajq{s:St}{id id2:Nat}{cs:List V}(h:id≠id2):(s.setObj id cs).obj id2=s.obj id2:=by
 unfold St.obj St.setObj
 simp[List.getD_eq_getElem?_getD,List.getElem?_set,h]
theorem af8{p p2:V}{s:St}{n n2:Nat}{a a2:Bool}{q:V×Option (Nat×List V)}(h:tkV p s n a=some q)(d:Nat)(v:V):rdV p2 ((s.turn q.2).set d v) n2 a2=rdV p2 s n2 a2:=by
 unfold tkV at h
 split at h
 ·split at h
  ·cases h;rfl
  ·cases h
 ·rename_i id o
  split at h
  ·rename_i cs hcs
   split at h
   ·split at h
    ·cases h
     have e:∀id2,((s.turn (some (id,cs.set o (disown (cs.getD o .undef))))).set d v).obj id2=(s.setObj id (cs.set o (disown (cs.getD o .undef)))).obj id2:=fun _=>rfl
     cases p2 with
     |ptr id2 o2=>
      simp only[rdV,e]
      by_cases hid:id=id2
      ·subst hid
       rw[ak6 hcs,hcs]
       simp only[List.length_set,aix]
      ·rw[ajq hid]
     |_=>rfl
    ·cases h
   ·cases h
  ·cases h
 ·cases h
theorem ah9(p:V)(s:St)(n:Nat)(a:Bool)(d:Nat)(v:V):tkV p (s.set d v) n a=tkV p s n a:=rfl
theorem af9(s:St)(q:Option (Nat×List V))(d:Nat)(v:V):(s.set d v).turn q=(s.turn q).set d v:=by cases q<;>rfl
theorem aga(s:St){d d2:Nat}(v v2:V)(h:d≠d2):(s.set d v).set d2 v2=(s.set d2 v2).set d v:=by
 simp only[St.set]
 rw[List.set_comm _ _ h]
theorem agb(s:St)(q:Option (Nat×List V))(n:Nat):(s.turn q).get n=s.get n:=by cases q<;>rfl
theorem aiy{o:IOp}{ob:Option (List Nat×List Nat)}{s s':St}:cB Γ ⟨none,o,ob⟩ s=some s'↔stepO Γ ob o s=some (true,s'):=by
 simp only[cB]
 cases stepO Γ ob o s with
 |none=>simp
 |some p=>obtain⟨c,t⟩:=p;cases c<;>simp[chk]
theorem sE(s:St){d n:Nat}(v:V)(h:d≠n):(s.set d v).get n=s.get n:=by
 simp[St.get,St.set,List.getD,List.getElem?_set,h]
theorem akQ{bx bY:Option (List Nat×List Nat)}{d n d2 n2:Nat}{a a2:Bool}{x x2:ASrc}(hd:d≠d2)(h2x:∀m∈x.slots,m≠d2)(h1x:∀m∈x2.slots,m≠d){s s1 s2:St}:
  (cB Γ ⟨none,.ld d n a true x,bY⟩ s=some s1→cB Γ ⟨none,.ld d2 n2 a2 false x2,bx⟩ s1=some s2→∃s1',cB Γ ⟨none,.ld d2 n2 a2 false x2,bx⟩ s=some s1'∧cB Γ ⟨none,.ld d n a true x,bY⟩ s1'=some s2)∧
  (cB Γ ⟨none,.ld d2 n2 a2 false x2,bx⟩ s=some s1→cB Γ ⟨none,.ld d n a true x,bY⟩ s1=some s2→∃s1',cB Γ ⟨none,.ld d n a true x,bY⟩ s=some s1'∧cB Γ ⟨none,.ld d2 n2 a2 false x2,bx⟩ s1'=some s2):=by
 simp only[aiy]
 have r1:(IOp.ld d n a true x).rd=x.slots:=rfl
 have r2:(IOp.ld d2 n2 a2 false x2).rd=x2.slots:=rfl
 constructor
 ·intro h1 h2
  have k1:=jm h1
  have k2:=jm h2
  rw[acH,Option.map_eq_some_iff] at k1
  obtain⟨q,hq,e⟩:=k1
  simp only[Prod.mk.injEq,true_and] at e
  subst e
  have g2:∀m∈x2.slots,((s.turn q.2).set d q.1).get m=s.get m:=fun m hm=>by rw[sE _ _ (Ne.symm (h1x m hm)),agb]
  rw[acG,bh g2,af8 hq,Option.map_eq_some_iff] at k2
  obtain⟨v2,hv2,e⟩:=k2
  simp only[Prod.mk.injEq,true_and] at e
  subst e
  refine⟨s.set d2 v2,mP h2 (by rw[r2];exact fun m hm=>(g2 m hm).symm) (by rw[acG,hv2];rfl),?_⟩
  have g1:∀m∈x.slots,(s.set d2 v2).get m=s.get m:=fun m hm=>sE _ _ (Ne.symm (h2x m hm))
  refine mP h1 (by rw[r1];exact g1) ?_
  rw[acH,bh g1,ah9,hq]
  simp only[Option.map_some,af9]
  rw[aga _ _ _ hd]
 ·intro h1 h2
  have k1:=jm h1
  have k2:=jm h2
  rw[acG,Option.map_eq_some_iff] at k1
  obtain⟨v2,hv2,e⟩:=k1
  simp only[Prod.mk.injEq,true_and] at e
  subst e
  have g1:∀m∈x.slots,(s.set d2 v2).get m=s.get m:=fun m hm=>sE _ _ (Ne.symm (h2x m hm))
  rw[acH,bh g1,ah9,Option.map_eq_some_iff] at k2
  obtain⟨q,hq,e⟩:=k2
  simp only[Prod.mk.injEq,true_and] at e
  subst e
  have g2:∀m∈x2.slots,((s.turn q.2).set d q.1).get m=s.get m:=fun m hm=>by rw[sE _ _ (Ne.symm (h1x m hm)),agb]
  refine⟨(s.turn q.2).set d q.1,mP h2 (by rw[r1];exact fun m hm=>(g1 m hm).symm) (by rw[acH,hq];rfl),?_⟩
  refine mP h1 (by rw[r2];exact g2) ?_
  rw[acG,bh g2,af8 hq,hv2]
  simp only[Option.map_some,af9]
  rw[aga _ _ _ hd]
theorem ame(hP:b7 Γ imp){x y:GOp}(hi:acE imp y x=true){s s1 s2:St}(h1:cB Γ y s=some s1)(h2:cB Γ x s1=some s2):
  ∃s1',cB Γ x s=some s1'∧cB Γ y s1'=some s2:=by
 simp only[acE,Bool.and_eq_true,Bool.or_eq_true,Nat.ble_eq] at hi
 obtain⟨d1,d2,d3,hi⟩:=hi
 have d1:=oQ d1
 have d2:=oQ d2
 have d3:=oQ d3
 rcases hi with⟨c1,c2⟩|ha|hL
 case inr.inr=>
  obtain⟨gx,ox,bx⟩:=x
  obtain⟨gy,oy,bY⟩:=y
  unfold ajo at hL
  split at hL
  ·rename_i e n a xa f n2 a2 xb e1 e2 e3 e4
   simp only at e1 e2 e3 e4
   subst e1 e2 e3 e4
   have m1:∀m∈xb.slots,m≠e:=fun m hm h=>d1 e (by simp[IOp.wr,IOp.dst]) (by subst h;simpa [GOp.rd,IOp.rd] using hm)
   have m2:∀m∈xa.slots,m≠f:=fun m hm h=>d2 f (by simp[IOp.wr,IOp.dst]) (by subst h;simpa [GOp.rd,IOp.rd] using hm)
   have m3:e≠f:=fun h=>d3 e (by simp[IOp.wr,IOp.dst]) (by subst h;simp[IOp.wr,IOp.dst])
   exact(akQ m3 m2 m1).1 h1 h2
  ·rename_i f n2 a2 xb e n a xa e1 e2 e3 e4
   simp only at e1 e2 e3 e4
   subst e1 e2 e3 e4
   have m1:∀m∈xb.slots,m≠e:=fun m hm h=>d2 e (by simp[IOp.wr,IOp.dst]) (by subst h;simpa [GOp.rd,IOp.rd] using hm)
   have m2:∀m∈xa.slots,m≠f:=fun m hm h=>d1 f (by simp[IOp.wr,IOp.dst]) (by subst h;simpa [GOp.rd,IOp.rd] using hm)
   have m3:e≠f:=fun h=>d3 f (by simp[IOp.wr,IOp.dst]) (by subst h;simp[IOp.wr,IOp.dst])
   exact(akQ m3 m2 m1).2 h1 h2
  ·cases hL
 case inr.inl=>
  simp only[apart,Bool.and_eq_true] at ha
  obtain⟨⟨oy,ox⟩,ha⟩:=ha
  split at ha
  ·rename_i Ry Wy Rx Wx hby hbx
   simp only[Bool.and_eq_true] at ha
   obtain⟨a1,a2,a3⟩:=ha
   have a1:=oQ a1
   have a2:=oQ a2
   have a3:=oQ a3
   obtain⟨uy,qy,wy,ky,rfl,ly⟩:=acF hP oy hby h1
   obtain⟨ux,qx,wx,kx,rfl,lx⟩:=acF hP ox hbx h2
   have gy:∀t:St,∀n∈x.rd,(t.putH uy qy).get n=t.get n:=fun t n hn=>aaT (s:=t) (l:=uy) (fun p hp e=>d1 p.1 (wy p hp) (e▸hn))
   have gx:∀t:St,∀n∈y.rd,(t.putH ux qx).get n=t.get n:=fun t n hn=>aaT (s:=t) (l:=ux) (fun p hp e=>d2 p.1 (wx p hp) (e▸hn))
   have hx:=lx s (fun n hn=>(gy s n hn).symm) (abq qy s.hp).symm (fun i hi=>(af7 (fun p hp e=>by
    subst e
    rcases hi with hi|hi
    ·exact a1 _ (ky p hp) hi
    ·exact a2 _ (ky p hp) hi)).symm)
   have hy:=ly (s.putH ux qx) (fun n hn=>gx s n hn) (abq qx s.hp) (fun i hi=>af7 (fun p hp e=>by
    subst e
    rcases hi with hi|hi
    ·exact a3 _ (kx p hp) hi
    ·exact a2 _ hi (kx p hp)))
   refine⟨_,hx,hy.trans ?_⟩
   congr 1
   have e1:=oG uy ux s.env (fun p hp q hq e=>d3 q.1 (wy q hq) (e▸wx p hp))
   have e2:=oG qy qx s.hp (fun p hp q hq e=>a2 q.1 (ky q hq) (e▸kx p hp))
   simp only[St.putH,St.upd,St.mk.injEq]
   exact⟨e1,e2⟩
  ·simp at ha
 have c1:y.o.cls imp≤1∨x.o.cls imp=0:=c1.imp id Nat.eq_of_beq_eq_true
 have c2:x.o.cls imp≤1∨y.o.cls imp=0:=c2.imp id Nat.eq_of_beq_eq_true
 obtain⟨uy,qy,wy,ky,rfl,ly⟩:=zx hP h1
 obtain⟨ux,qx,wx,kx,rfl,lx⟩:=zx hP h2
 have gy:∀t:St,∀n∈x.rd,(t.put uy qy).get n=t.get n:=fun t n hn=>aaT (s:=t) (l:=uy) (fun p hp e=>d1 p.1 (wy p hp) (e▸hn))
 have gx:∀t:St,∀n∈y.rd,(t.put ux qx).get n=t.get n:=fun t n hn=>aaT (s:=t) (l:=ux) (fun p hp e=>d2 p.1 (wx p hp) (e▸hn))
 have hx:=lx s (fun n hn=>(gy s n hn).symm) (fun hc=>by
  rcases c1 with c1|c1
  ·rw[ky c1];rfl
  ·omega)
 have hy:=ly (s.put ux qx) (fun n hn=>gx s n hn) (fun hc=>by
  rcases c2 with c2|c2
  ·rw[kx c2];rfl
  ·omega)
 refine⟨_,hx,hy.trans ?_⟩
 congr 1
 have e1:=oG uy ux s.env (fun p hp q hq e=>d3 q.1 (wy q hq) (e▸wx p hp))
 simp only[St.put,St.upd,St.mk.injEq]
 refine⟨e1,?_⟩
 rcases c1 with c1|c1
 ·rw[ky c1];rfl
 ·rw[kx (by omega)];rfl
theorem akR(hP:b7 Γ imp){R:Type}{K:St→Option R}{r:R}{x:GOp}{B:List GOp}:∀(A:List GOp)(s:St),(∀y∈A,acE imp y x=true)→
  runOps Γ (A++x::B) K s=some r→∃s',cB Γ x s=some s'∧runOps Γ (A++B) K s'=some r
 | [],s,_,h=>by
   rw[List.nil_append,sT] at h
   exact Option.bind_eq_some_iff.1 h
 |y::A,s,hA,h=>by
  rw[List.cons_append,sT] at h
  obtain⟨s1,h1,h2⟩:=Option.bind_eq_some_iff.1 h
  obtain⟨s2,h3,h4⟩:=akR hP A s1 (fun y hy=>hA y (List.mem_cons_of_mem _ hy)) h2
  obtain⟨s1',h5,h6⟩:=ame hP (hA y (List.mem_cons_self ..)) h1 h3
  refine⟨s1',h5,?_⟩
  rw[List.cons_append,sT,h6]
  exact h4
end
def kK(G:Nat→List V→Option (Bool×V)):az:=fun f vs hp=>match G f vs with|some x=>some (x.1,x.2,hp)|none=>none
theorem hU(G:Nat→List V→Option (Bool×V))(imp:List Nat):b7 (kK G) imp:=by
 refine⟨?_,?_⟩
 ·intro f avs hp _
  unfold kK
  cases G f avs<;>rfl
 ·intro f vs hp c v hp' _ h
  unfold kK at h ⊢
  cases hg:G f vs with
  |none=>rw[hg] at h;simp at h
  |some x=>
   rw[hg] at h
   simp only[Option.some.injEq,Prod.mk.injEq] at h
   obtain⟨rfl,rfl,rfl⟩:=h
   exact⟨[],by simp,rfl,fun hp2 _ _=>rfl⟩
theorem tY{G:Nat→List V→Option (Bool×V)}{f:Nat}{vs:List V}{hp hp':List aq}{c:Bool}{v:V}(h:kK G f vs hp=some (c,v,hp')):G f vs=some (c,v)∧hp'=hp:=by
 unfold kK at h
 cases hg:G f vs with
 |none=>rw[hg] at h;simp at h
 |some x=>
  rw[hg] at h
  simp only[Option.some.injEq,Prod.mk.injEq] at h
  obtain⟨rfl,rfl,rfl⟩:=h
  exact⟨rfl,rfl⟩
end Go.AM
end
noncomputable section
namespace Go.AM
set_option autoImplicit false
set_option linter.unusedSimpArgs false
set_option linter.unusedVariables false
def aia(P:Program)(o:IOp)(m:Oper):Bool:=
 match o with
 |_=>false
section
variable{w w':World}{g g':Gh}{s s':St}{a:Act}{P:Program}{Γ:az}{m:Oper}{next:Act→World→Prop}{Q:Exit→Act→World→Prop}
end
end Go.AM
end
noncomputable section
namespace Go.AM
open Go.MapKept
set_option autoImplicit false
set_option linter.unusedSimpArgs false
set_option linter.unusedVariables false
def jV(P:Program)(t:TypeId)(k:MK):Bool:=match k,P.underlying t with
 | .pb,some (.array 2 e)=>(dM P e==some 1)&&ads P e .i64
 | .bs,some (.int .u8)=>true
 | .bn,some (.int .u8)=>true
 | .ib,some (.int .i64)=>true
 | .sn,some .string=>true
 |_,_=>false
def akS(P:Program)(e:TypeId)(k:MK):Bool:=match P.info? e with|some i=>(match i.zero with|some z=>mh (k.val k.zero) z|none=>false)|none=>false
def wA(P:Program)(t:TypeId)(k:MK):Bool:=match P.underlying t with|some (.map kt e)=>jV P kt k&&akS P e k|_=>false
def rt(P:Program)(o:IOp)(m:Oper):Bool:=
 match o with
 | .mkm d k=>(m.dst==some d)&&(match m.op with| .makeMap t none=>wA P t k|_=>false)
 | .mget d k ok x y=>(m.dst==some d)&&(match m.op with| .lookup t x' y' ok'=>wA P t k&&((ok==ok')&&(aI x x'&&aI y y'))|_=>false)
 | .mput d k x y z=>(m.dst==d)&&(match m.op with
   | .mapUpdate t x' y' z'=>wA P t k&&(aI x x'&&(aI y y'&&aI z z'))
   | .insert t x' y' z'=>wA P t k&&(aI x x'&&(aI y y'&&aI z z'))
   |_=>false)
 |_=>false
section
variable{w w':World}{g g':Gh}{s s':St}{a:Act}{P:Program}{Γ:az}{m:Oper}{next:Act→World→Prop}{Q:Exit→Act→World→Prop}
theorem abr{t:TypeId}{k:MK}(h:wA P t k=true):∃kt e,P.underlying t=some (.map kt e)∧jV P kt k=true∧(∀w:World,(zeroValue e).run P w=.ok (k.valV k.zero) w):=by
 unfold wA at h
 split at h
 ·rename_i kt e hu
  simp only[Bool.and_eq_true] at h
  refine⟨kt,e,hu,h.1,?_⟩
  have h2:=h.2
  unfold akS at h2
  split at h2
  ·rename_i i hi
   split at h2
   ·rename_i z hz
    intro w
    have e2:z=k.valV k.zero:=by
     cases k<;>cases z<;>simp[mh,MK.val,MK.zero] at h2<;>simp[MK.valV,MK.zero]
     ·exact h2
     ·rename_i s
      obtain⟨⟨l⟩⟩:=s
      simp at h2
      rw[h2.1]
     ·exact⟨h2.1.symm,h2.2.1.symm⟩
     ·exact h2
     ·exact⟨h2.1.symm,h2.2.1.symm⟩
    simp[zeroValue,typeInfo,hi,hz,e2]
   ·simp at h2
  ·simp at h2
 ·simp at h
theorem aj1{I:Nat→Nat→Prop}{ρ:Nat→Nat}{N:Nat}(k:MK)(x:k.T)(h:k.okT x):VRel I ρ N w (k.val x) (k.valV x):=by
 cases k
 ·exact .bool _
 ·exact .str _ _ rfl (by have h:List.length x≤cb:=h;simpa [ByteArray.size] using h)
 ·exact .int _ _ h
 ·exact .bool _
 ·exact .int _ _ h
theorem aj2(k:MK):k.okT k.zero:=by
 cases k<;>simp[MK.okT,MK.zero]<;>decide
theorem aiz{v:V}{x:Int×Int}(h:ain v=some x):v=.agg [.int .i64 x.1,.int .i64 x.2]:=by
 unfold ain at h;split at h<;>first|contradiction|(cases h;rfl)
theorem agc{v:V}{x:Int}(h:u8V v=some x):v=.int .u8 x:=by
 unfold u8V at h;split at h<;>first|contradiction|(cases h;rfl)
theorem zz{v:V}{x:Int}(h:afX v=some x):v=.int .i64 x:=by
 unfold afX at h;split at h<;>first|contradiction|(cases h;rfl)
theorem aet{v:V}{x:List UInt8}(h:aio v=some x):v=.str x:=by
 unfold aio at h;split at h<;>first|contradiction|(cases h;rfl)
theorem acI{v:V}{x:Bool}(h:afS v=some x):v=.bool x:=by
 unfold afS at h;split at h<;>first|contradiction|(cases h;rfl)
theorem aib{I:Nat→Nat→Prop}{ρ:Nat→Nat}{N:Nat}{l:List UInt8}{cv:Value}(h:VRel I ρ N w (.str l) cv):cv=.string ⟨l.toArray⟩∧l.length≤cb:=by
 cases h with
 |str _ s hl hb=>subst hl;exact⟨rfl,by rw[Array.length_toList];exact hb⟩
theorem qQ{I:Nat→Nat→Prop}{ρ:Nat→Nat}{N:Nat}{k:IntKind}{n:Int}{cv:Value}(h:VRel I ρ N w (.int k n) cv):cv=.int k n∧k.min≤n∧n≤k.max:=by
 cases h;exact⟨rfl,by assumption⟩
theorem agd{I:Nat→Nat→Prop}{ρ:Nat→Nat}{N:Nat}{b:Bool}{cv:Value}(h:VRel I ρ N w (.bool b) cv):cv=.bool b:=by
 cases h;rfl
theorem aj3{I:Nat→Nat→Prop}{ρ:Nat→Nat}{N:Nat}{k:MK}{v:V}{x:k.T}{cv:Value}(h:k.dval v=some x)(hr:VRel I ρ N w v cv):cv=k.valV x∧k.okT x:=by
 cases k with
 |pb=>rw[acI h] at hr;exact⟨agd hr,trivial⟩
 |ib=>rw[acI h] at hr;exact⟨agd hr,trivial⟩
 |bs=>rw[aet h] at hr;exact aib hr
 |bn=>rw[zz h] at hr;exact qQ hr
 |sn=>rw[zz h] at hr;exact qQ hr
theorem ab3{I:Nat→Nat→Prop}{ρ:Nat→Nat}{N:Nat}{k:MK}{v:V}{x:k.K}{cv:Value}(h:k.dkey v=some x)(hr:VRel I ρ N w v cv):cv=k.keyV x:=by
 cases k with
 |pb=>
  rw[aiz h] at hr
  cases hr with
  |agg _ vs hl _ _ hv=>
   obtain⟨l⟩:=vs
   match l,hl,hv with
   | [u,u'],_,hv=>
     rw[(qQ (hv 0 _ u rfl rfl)).1,(qQ (hv 1 _ u' rfl rfl)).1]
     rfl
 |bs=>rw[agc h] at hr;exact(qQ hr).1
 |bn=>rw[agc h] at hr;exact(qQ hr).1
 |ib=>rw[zz h] at hr;exact(qQ hr).1
 |sn=>rw[aet h] at hr;exact(aib hr).1
theorem adw{kt:TypeId}{k:MK}(h:jV P kt k=true)(hk:k≠.pb)(x y:k.K):∃d,P.underlying kt=some d∧Instr.sameNow d (k.keyV x) (k.keyV y)=some (decide (x=y)):=by
 have num:∀(k:IntKind)(x y:Int)(_:Decidable (x=y)),Instr.sameNow (.int k) (.int k x) (.int k y)=some (decide (x=y)):=fun k x y _=>by
  simp only[Instr.sameNow,if_true,Option.some.injEq]
  rw[Bool.eq_iff_iff,decide_eq_true_iff,beq_iff_eq]
 cases k with
 |pb=>exact absurd rfl hk
 |sn=>
  unfold jV at h
  split at h<;>first|contradiction|skip
  rename_i e
  refine⟨_,e,?_⟩
  simp only[MK.keyV,Instr.sameNow,Option.some.injEq]
  rw[Bool.eq_iff_iff,decide_eq_true_iff,bytes_beq]
  constructor
  ·intro h
   simpa using h
  ·rintro rfl
   rfl
 |bs=>unfold jV at h;split at h<;>first|contradiction|skip
      rename_i e;exact⟨_,e,num _ _ _ _⟩
 |bn=>unfold jV at h;split at h<;>first|contradiction|skip
      rename_i e;exact⟨_,e,num _ _ _ _⟩
 |ib=>unfold jV at h;split at h<;>first|contradiction|skip
      rename_i e;exact⟨_,e,num _ _ _ _⟩
theorem jF{e:Nat}(he:j6 P e=some false){xs:Array Value}{j:Nat}{u:Value}(hu:xs[j]? =some u)(w:World):(part e xs j).run P w=.ok u w:=by
 simp[part,wv he,hu]
theorem akT{kt:TypeId}(h:jV P kt .pb=true):∃e,P.underlying kt=some (.array 2 e)∧P.underlying e=some (.int .i64)∧dM P e=some 1∧j6 P e=some false:=by
 unfold jV at h
 split at h<;>first|contradiction|skip
 rename_i e _ hu
 simp only[Bool.and_eq_true,beq_iff_eq] at h
 obtain⟨hs,he⟩:=h
 have hk:P.underlying e=some (.int .i64):=by
  unfold ads at he
  split at he
  ·rename_i k' hk'
   rw[hk',of_decide_eq_true he]
  ·simp at he
 exact⟨e,hu,hk,hs,by simp[j6,hk]⟩
theorem aiA{e:TypeId}(hk:P.underlying e=some (.int .i64))(hag:j6 P e=some false)(q:Nat)(a b c d:Int){xs ys:Array Value}(h1:xs[0]? =some (.int .i64 a))(h2:xs[1]? =some (.int .i64 b))(h3:ys[0]? =some (.int .i64 c))(h4:ys[1]? =some (.int .i64 d))(w:World):(Op.eqItems (q+1) e 1 xs ys [0,1]).run P w=.ok (decide ((a,b)=(c,d))) w:=by
 have head:∀(p q':Int)(w:World),(Op.equalIn (q+1) e (.int .i64 p) (.int .i64 q')).run P w=.ok (p==q') w:=by
  intro p q' w
  simp[Op.equalIn,run_underlying hk]
 simp only[Op.eqItems,Sem.run_bind,Nat.mul_one,jF hag h1,jF hag h2,jF hag h3,jF hag h4,Result.andThen_ok,head]
 by_cases e1:a=c
 ·subst e1
  by_cases e2:b=d
  ·subst e2
   simp[jF hag h2,jF hag h4,head]
  ·simp[e2,jF hag h2,jF hag h4,head]
 ·simp[e1]
theorem aiB{kt:TypeId}(h:jV P kt .pb=true)(x y:MK.K .pb)(w:World):(Op.equal kt (MK.keyV .pb x) (MK.keyV .pb y)).run P w=.ok (decide (x=y)) w:=by
 obtain⟨e,hu,hk,hs,hag⟩:=akT h
 obtain⟨inf,hi,h1⟩:∃i,P.info? e=some i∧i.size=1:=by
  unfold dM at hs
  obtain⟨i,hi,h⟩:=Option.map_eq_some_iff.1 hs
  exact⟨i,hi,h⟩
 have hco:P.cellsOf e=1:=by simp[Program.cellsOf,hi,h1]
 obtain⟨a,b⟩:=x
 obtain⟨c,d⟩:=y
 show (Op.equalIn (9999+1) kt (.agg #[.int .i64 a,.int .i64 b]) (.agg #[.int .i64 c,.int .i64 d])).run P w=_
 rw[run_equalIn_array w 9999 _ _ hu hi,hco]
 exact aiA hk hag 9998 a b c d rfl rfl rfl rfl w
def nI{k:MK}(es:List (k.K×k.T))(x:k.K)(i:Nat):Option (Nat×Value):=match dL es x with
 |some v=>some (i+kF es x,k.valV v)
 |none=>none
theorem abt{k:MK}(e:k.K×k.T)(es:List (k.K×k.T))(x:k.K)(i:Nat):nI (e::es) x i=if e.1=x then some (i,k.valV e.2) else nI es x (i+1):=by
 unfold nI
 by_cases h:e.1=x
 ·simp[dL,kF,h]
 ·simp only[dL,kF,h,if_false]
  split
  ·congr 2;omega
  ·rfl
theorem uz{kt:TypeId}{k:MK}(h:jV P kt k=true){es:List (k.K×k.T)}{ents:Array MapEntry}{clock:Nat}(hm:oj es ents clock)(x:k.K):(Instr.findKey kt (k.keyV x) ents.toList).run P w=.ok (nI es x 0) w:=by
 have hr:∀(i:Nat) e en,es[i]? =some e→ents.toList[i]? =some en→en.key=k.keyV e.1∧en.val=k.valV e.2:=fun i e en h1 h2=>by
  obtain⟨-,a,b, -⟩:=hm.2.2 i e en h1 (by simpa using h2)
  exact⟨a,b⟩
 have hl:es.length=ents.toList.length:=by simpa using hm.1
 generalize ents.toList=l at hl hr
 by_cases hk:k=.pb
 ·subst hk
  rw[run_findKey_eq w ?_ (MK.keyV .pb x) l]
  ·clear hm
   generalize 0=i
   induction es generalizing l i with
   |nil=>
    have:l=[]:=List.eq_nil_of_length_eq_zero hl.symm
    subst this
    simp[Instr.findAsking,nI,dL]
   |cons e es ih=>
    cases l with
    |nil=>simp at hl
    |cons en l=>
     obtain⟨r1,r2⟩:=hr 0 e en rfl rfl
     rw[Instr.findAsking,r1,r2,abt]
     simp only[Sem.run_bind,aiB h,Result.andThen_ok]
     by_cases hx:e.1=x
     ·simp[hx]
     ·rw[if_neg hx,if_neg (by simpa using fun e=>hx e.symm)]
      exact ih l (by simpa using hl) (fun j e en h1 h2=>hr (j+1) e en (by simpa using h1) (by simpa using h2)) (i+1)
  ·unfold jV at h
   split at h<;>first|contradiction|skip
   rename_i e _ hu
   rw[hu]
 ·obtain⟨d,hd, -⟩:=adw h hk x x
  refine Go.MapKept.run_findKey hd ?_
  clear hm
  generalize 0=i
  induction es generalizing l i with
  |nil=>
   have:l=[]:=List.eq_nil_of_length_eq_zero hl.symm
   subst this
   simp[Instr.findNow,nI,dL]
  |cons e es ih=>
   cases l with
   |nil=>simp at hl
   |cons en l=>
    obtain⟨r1,r2⟩:=hr 0 e en rfl rfl
    obtain⟨d',hd',hs⟩:=adw h hk x e.1
    rw[hd] at hd'
    obtain rfl:=Option.some.inj hd'
    rw[Instr.findNow,r1,r2,abt,hs]
    by_cases hx:e.1=x
    ·simp[hx]
    ·rw[if_neg hx,decide_eq_false (fun e=>hx e.symm)]
     exact ih l (by simpa using hl) (fun j e en h1 h2=>hr (j+1) e en (by simpa using h1) (by simpa using h2)) (i+1)
theorem ahy{e:Nat}(hk:P.underlying e=some (.int .i64))(hag:j6 P e=some false)(hs:dM P e=some 1)(em:Bool)(q:Nat)(a b:Int){xs:Array Value}(h1:xs[0]? =some (.int .i64 a))(h2:xs[1]? =some (.int .i64 b)):
  (forIn [0,1] PUnit.unit fun i r=>do Instr.checkKey em (q+1) e (←part e xs (i*(←sizeOf e)));pure (ForInStep.yield PUnit.unit):Sem PUnit).run P w=.ok PUnit.unit w:=by
 have c:∀(p:Int)(w:World),(Instr.checkKey em (q+1) e (.int .i64 p)).run P w=.ok () w:=by
  intro p w
  simp[Instr.checkKey,run_underlying hk]
 simp only[List.forIn_cons,List.forIn_nil,Sem.run_bind,mj hs,Result.andThen_ok,Nat.mul_one,jF hag h1,jF hag h2,c,Sem.run_pure]
theorem aiC{kt:TypeId}(h:jV P kt .pb=true)(a b:Int)(em:Bool)(q:Nat):(Instr.checkKey em (q+2) kt (.agg #[.int .i64 a,.int .i64 b])).run P w=.ok () w:=by
 obtain⟨e,hu,hk,hs,hag⟩:=akT h
 have:=ahy (w:=w) hk hag hs em q a b (xs:= #[.int .i64 a,.int .i64 b]) rfl rfl
 rw[Instr.checkKey]
 simp only[Sem.run_bind,run_underlying hu,Result.andThen_ok]
 simp only[Std.Legacy.Range.forIn_eq_forIn_range',Std.Legacy.Range.size,Nat.sub_zero,Nat.add_one_sub_one,Nat.div_one]
 have r:List.range' 0 2 1=[0,1]:=rfl
 rw[r]
 simp at this ⊢
 rw[this]
 rfl
theorem ajr{kt:TypeId}{k:MK}(h:jV P kt k=true)(hk:k≠.pb)(x:k.K)(em:Bool)(q:Nat):(Instr.checkKey em (q+1) kt (k.keyV x)).run P w=.ok () w:=by
 obtain⟨d,hd,hn⟩:=adw h hk x x
 cases k<;>first|exact absurd rfl hk|skip
 all_goals
  unfold jV at h
  split at h<;>first|contradiction|skip
  rename_i e
  simp[Instr.checkKey,run_underlying e,MK.keyV]
theorem sU{kt:TypeId}{k:MK}(h:jV P kt k=true)(x:k.K)(em:Bool):(Instr.checkKey em 10000 kt (k.keyV x)).run P w=.ok () w:=by
 by_cases hk:k=.pb
 ·subst hk
  exact aiC h x.1 x.2 em 9998
 ·exact ajr h hk x em 9999
theorem aj4(k:MK)(x:k.K)(q:Nat):Instr.sameBits (q+2) (k.keyV x) (k.keyV x)=true:=by
 cases k with
 |pb=>simp[MK.keyV,Instr.sameBits]
 |sn=>exact(bytes_beq _ _).2 rfl
 |_=>simp[MK.keyV,Instr.sameBits]
theorem ajs(k:MK)(x:k.K):Instr.sameBits 10000 (k.keyV x) (k.keyV x)=true:=aj4 k x 9998
theorem ajt{k:MK}{es:List (k.K×k.T)}{x:k.K}{v:k.T}(h:dL es x=some v):es[kF es x]? =some (x,v):=by
 induction es with
 |nil=>simp[dL] at h
 |cons e es ih=>
  simp only[dL] at h
  by_cases hx:e.1=x
  ·rw[if_pos hx] at h
   obtain rfl:=Option.some.inj h
   subst hx
   simp[kF]
  ·rw[if_neg hx] at h
   simp only[kF,if_neg hx]
   simpa using ih h
theorem aj5{k:MK}{es:List (k.K×k.T)}{x:k.K}{v u:k.T}(h:dL es x=some v):eV es x u=es.set (kF es x) (x,u):=by
 induction es with
 |nil=>simp[dL] at h
 |cons e es ih=>
  simp only[dL] at h
  by_cases hx:e.1=x
  ·simp[eV,kF,hx]
  ·rw[if_neg hx] at h
   simp[eV,kF,hx,ih h]
theorem aju{k:MK}{es:List (k.K×k.T)}{x:k.K}{u:k.T}(h:dL es x=none):eV es x u=es++[(x,u)]∧kF es x=es.length:=by
 induction es with
 |nil=>simp[eV,kF]
 |cons e es ih=>
  simp only[dL] at h
  by_cases hx:e.1=x
  ·simp[hx] at h
  ·rw[if_neg hx] at h
   obtain⟨h1,h2⟩:=ih h
   simp[eV,kF,hx,h1,h2]
theorem oj.set{k:MK}{es:List (k.K×k.T)}{ents:Array MapEntry}{clock:Nat}(h:oj es ents clock){i:Nat}{x:k.K}{v:k.T}(hv:k.okT v):
  oj (es.set i (x,v)) (ents.modify i fun e=>{e with key:=k.keyV x,val:=k.valV v}) clock:=by
 refine⟨by simp[h.1],by simp[h.2.1],?_⟩
 intro j e en h1 h2
 rw[List.getElem?_set] at h1
 rw[Array.getElem?_modify] at h2
 by_cases hj:i=j
 ·subst hj
  rw[if_pos rfl] at h1 h2
  split at h1
  ·cases h1
   rw[Option.map_eq_some_iff] at h2
   obtain⟨en',h3,rfl⟩:=h2
   rename_i hlt
   exact⟨(h.2.2 _ _ _ (List.getElem?_eq_getElem hlt) h3).1,rfl,rfl,hv⟩
  ·simp at h1
 ·rw[if_neg hj] at h1 h2
  exact h.2.2 j e en h1 h2
theorem oj.push{k:MK}{es:List (k.K×k.T)}{ents:Array MapEntry}{clock:Nat}(h:oj es ents clock){x:k.K}{v:k.T}(hv:k.okT v):
  oj (es++[(x,v)]) (ents.push {key:=k.keyV x,val:=k.valV v,born:=clock}) (clock+1):=by
 refine⟨by simp[h.1],by simp[h.2.1],?_⟩
 intro j e en h1 h2
 rcases Nat.lt_or_ge j es.length with hj|hj
 ·rw[List.getElem?_append_left hj] at h1
  rw[Array.getElem?_push,if_neg (by rw[←h.1];omega)] at h2
  exact h.2.2 j e en h1 h2
 ·rw[List.getElem?_append_right hj] at h1
  have h0:j-es.length=0:=by
   have:=(List.getElem?_eq_some_iff.1 h1).1
   simp at this;omega
  rw[h0] at h1
  simp at h1
  subst h1
  have hj':j=ents.size:=by rw[←h.1];omega
  rw[Array.getElem?_push,if_pos hj'] at h2
  obtain rfl:=Option.some.inj h2
  exact⟨by rw[h.2.1];exact hj'.symm,rfl,rfl,hv⟩
theorem age{id:Nat}{k:MK}{es:List (k.K×k.T)}(ho:s.mapO id=some ⟨k,es⟩):s.hp[id]? =some (some [.mp k es]):=by
 unfold St.mapO at ho
 split at ho
 ·rename_i k' es' hg
  cases ho
  rw[List.getD_eq_getElem?_getD] at hg
  cases hx:s.hp[id]? with
  |none=>rw[hx] at hg;simp at hg
  |some x=>rw[hx] at hg;simp at hg;rw[hg]
 ·simp at ho
theorem SR.putMap(h:SR g s w a){id:Nat}{k:MK}{es es':List (k.K×k.T)}(ho:s.mapO id=some ⟨k,es⟩){ents ents':Array MapEntry}{clock clock':Nat}(hb:w.heap[g.ρ id]? =some (.map ents clock))(hm:oj es' ents' clock'):
  SR g (s.setObj id [.mp k es']) {w with heap:=w.heap.setIfInBounds (g.ρ id) (.map ents' clock')} a∧FR g s.hp w g (s.hp.set id (some [.mp k es'])) {w with heap:=w.heap.setIfInBounds (g.ρ id) (.map ents' clock')}:=by
 have hid:=age ho
 obtain⟨q1,q3⟩:=Go.MapKept.heap_set (o':=.map ents' clock') hb
 let w':World:={w with heap:=w.heap.setIfInBounds (g.ρ id) (.map ents' clock')}
 have q4:w'.heap.size=w.heap.size:=by simp[w']
 have ilt:∀b j,g.I b j→b≠g.ρ id:=by
  rintro b j hi rfl
  exact h.hr.notI id _ hid j hi
 have cello:∀b j,g.I b j→w'.cell? ⟨b,j,none⟩=w.cell? ⟨b,j,none⟩:=by
  intro b j hi
  simp only[w',World.cell?,q3 b (ilt b j hi)]
 have u:Up g.I g.ρ s.hp.length w g.I g.ρ s.hp.length w':=⟨fun _ _ h=>h,cello,fun _ _=>rfl,Nat.le_refl _⟩
 have okeep:∀occ v cv,ax g w occ v cv→ax g w' occ v cv:=by
  intro occ v cv hoo
  refine bK hoo rfl (fun b j hi=>⟨u.mono b j hi,u.cell b j hi⟩) ?_
  intro b hbo
  refine⟨hbo,q3 b ?_,fun j hj=>hj⟩
  rintro rfl
  rw[h.hr.notO id _ hid] at hbo
  simp at hbo
 have hl:id<s.hp.length:=(List.getElem?_eq_some_iff.1 hid).1
 have split:∀(id':Nat) o',(s.hp.set id (some [V.mp k es']))[id']? =some (some o')→(id'=id∧o'=[V.mp k es'])∨(id'≠id∧s.hp[id']? =some (some o')):=by
  intro id' o' hq
  rw[List.getElem?_set] at hq
  split at hq
  ·rename_i e
   simp[hl] at hq
   exact .inl ⟨e.symm,hq.symm⟩
  ·rename_i e
   exact .inr ⟨fun e'=>e e'.symm,hq⟩
 have old:∀(id':Nat) o',(s.hp.set id (some [V.mp k es']))[id']? =some (some o')→∃o'',s.hp[id']? =some (some o''):=by
  intro id' o' hq
  rcases split id' o' hq with⟨rfl,_⟩|⟨_,hq⟩
  ·exact⟨_,hid⟩
  ·exact⟨_,hq⟩
 refine⟨⟨⟨?_,?_,?_,?_,?_,?_⟩,⟨h.er.size,?_,?_⟩⟩,⟨rfl,rfl,rfl,rfl,by rw[q4];exact Nat.le_refl _,?_,?_,fun _ _ _ _ _ hi=>hi,fun _ _ _ hO=>hO,?_⟩⟩
 ·intro id' o' hq
  simp only[St.setObj,List.length_set]
  rcases split id' o' hq with⟨rfl,rfl⟩|⟨hne,hq⟩
  ·exact⟨by simp[hH],fun k2 es2 hc=>by cases hc;exact⟨ents',clock',q1,hm⟩⟩
  ·refine(h.hr.obj id' o' hq).keep ?_ fun arr2 e2 fz2 k1 k2=>⟨k2.len,k2.plain,k2.typedUp rfl u.rho u.num rfl,k2.cold,k2.one,fun j c cv hc hcv=>(k2.rel j c cv hc hcv).up u,fun j c cv hc hcv=>okeep _ _ _ (k2.own j c cv hc hcv),k2.bn⟩
   exact q3 _ (h.hr.apart id' id o' _ hq hid hne)
 ·intro id1 id2 c1 c2 k1 k2 hne
  obtain⟨_,k1⟩:=old id1 c1 k1
  obtain⟨_,k2⟩:=old id2 c2 k2
  exact h.hr.apart _ _ _ _ k1 k2 hne
 ·intro id1 c1 k1
  obtain⟨_,k1⟩:=old id1 c1 k1
  exact h.hr.notI _ _ k1
 ·intro id1 c1 k1
  obtain⟨_,k1⟩:=old id1 c1 k1
  exact h.hr.notO _ _ k1
 ·intro b j hi
  have:=cello b j hi
  rw[this]
  exact h.hr.exI b j hi
 ·intro b oc hbo
  rw[q4]
  exact h.hr.oLt b oc hbo
 ·intro n v cv hq hcv
  simp only[St.setObj,List.length_set]
  exact(h.er.rel n v cv hq hcv).up u
 ·intro n v cv hq hcv
  exact okeep _ _ _ (h.er.own n v cv hq hcv)
 ·intro b _ hno _
  exact q3 b (fun e=>hno id _ hid e.symm)
 ·simp only[List.length_set]
  exact u
 ·intro id' o' hq
  obtain⟨o'',hq⟩:=old id' o' hq
  exact .inl ⟨o'',hq⟩
theorem SR.newMap(h:SR g s w a)(k:MK)(d:Nat):
  ∃g',SR g' {s.set d (.mr s.hp.length) with hp:=s.hp++[some [.mp k []]]} (w.alloc (.map #[] 0)) (a.put (some d) (.map (some w.heap.size)))∧
   FR g s.hp w g' (s.hp++[some [.mp k []]]) (w.alloc (.map #[] 0)):=by
 obtain⟨f1,f2,f3⟩:=fQ w (.map #[] 0)
 let w':=w.alloc (.map #[] 0)
 let g':Gh:={g with ρ:=fun id=>if id=s.hp.length then w.heap.size else g.ρ id}
 have ilt:∀b j,g.I b j→b<w.heap.size:=by
  intro b j hi
  obtain⟨v,hv⟩:=Option.isSome_iff_exists.1 (h.hr.exI b j hi)
  exact World.block_lt_of_cell? _ _ hv
 have cello:∀b j,b<w.heap.size→w'.cell? ⟨b,j,none⟩=w.cell? ⟨b,j,none⟩:=by
  intro b j hb
  simp only[w',World.cell?,f2 b hb]
 have u:Up g.I g.ρ s.hp.length w g'.I g'.ρ (s.hp++[some [V.mp k []]]).length w':=
  ⟨fun b j hi=>hi,fun b j hi=>cello b j (ilt b j hi),fun id hid=>by simp[g',Nat.ne_of_lt hid],by simp⟩
 have olt:∀(id:Nat) cs,s.hp[id]? =some (some cs)→g.ρ id<w.heap.size:=by
  intro id cs hid
  exact(h.hr.obj id cs hid).lt
 have okeep:∀occ v cv,ax g w occ v cv→ax g' w' occ v cv:=by
  intro occ v cv ho
  refine bK ho rfl (fun b j hi=>⟨u.mono b j hi,u.cell b j hi⟩) ?_
  intro b hb
  exact⟨hb,f2 b (h.hr.oLt b occ hb),fun j hj=>hj⟩
 have split:∀(id:Nat) o,(s.hp++[some [V.mp k []]])[id]? =some (some o)→(id<s.hp.length∧s.hp[id]? =some (some o))∨(id=s.hp.length∧o=[V.mp k []]):=by
  intro id o hid
  rcases Nat.lt_or_ge id s.hp.length with hi|hi
  ·rw[List.getElem?_append_left hi] at hid
   exact .inl ⟨hi,hid⟩
  ·rw[List.getElem?_append_right hi] at hid
   have h0:id-s.hp.length=0:=by
    rcases Nat.eq_zero_or_pos (id-s.hp.length) with h0|h0
    ·exact h0
    ·rw[List.getElem?_eq_none (by simp;omega)] at hid
     simp at hid
   rw[h0] at hid
   simp at hid
   exact .inr ⟨by omega,hid.symm⟩
 have rhoNew:g'.ρ s.hp.length=w.heap.size:=by simp[g']
 have rhoOld:∀id,id<s.hp.length→g'.ρ id=g.ρ id:=fun id hid=>by simp[g',Nat.ne_of_lt hid]
 have hs:SR g' {s with hp:=s.hp++[some [V.mp k []]]} w' a:=by
  refine⟨⟨?_,?_,?_,?_,?_,?_⟩,⟨h.er.size,?_,?_⟩⟩
  ·intro id o hid
   rcases split id o hid with⟨hi,hid⟩|⟨rfl,rfl⟩
   ·refine(h.hr.obj id o hid).keep ?_ fun arr' e' fz k1 k2=>⟨k2.len,k2.plain,k2.typedUp rfl u.rho u.num rfl,k2.cold,k2.one,fun j c cv hc hcv=>(k2.rel j c cv hc hcv).up u,fun j c cv hc hcv=>okeep _ _ _ (k2.own j c cv hc hcv),by rw[rhoOld id hi];exact k2.bn⟩
    rw[rhoOld id hi]
    exact f2 _ (olt id o hid)
   ·refine⟨by simp[hH],fun k2 es2 hc=>?_⟩
    cases hc
    exact⟨#[],0,by rw[rhoNew];exact f3,rfl,rfl,by simp⟩
  ·intro id id' o o' k1 k2 hne
   rcases split id o k1 with⟨hi,m1⟩|⟨e1, -⟩<;>rcases split id' o' k2 with⟨hi',m2⟩|⟨e2, -⟩
   ·rw[rhoOld _ hi,rhoOld _ hi']
    exact h.hr.apart id id' o o' m1 m2 hne
   ·rw[rhoOld _ hi,e2,rhoNew]
    exact Nat.ne_of_lt (olt id o m1)
   ·rw[rhoOld _ hi',e1,rhoNew]
    exact(Nat.ne_of_lt (olt id' o' m2)).symm
   ·exact absurd (e1.trans e2.symm) hne
  ·intro id o hid j hi
   rcases split id o hid with⟨hlt,hid⟩|⟨rfl,rfl⟩
   ·rw[rhoOld _ hlt] at hi
    exact h.hr.notI id o hid j hi
   ·rw[rhoNew] at hi
    have:=ilt _ _ hi
    omega
  ·intro id o hid
   rcases split id o hid with⟨hlt,hid⟩|⟨rfl,rfl⟩
   ·rw[rhoOld _ hlt]
    exact h.hr.notO id o hid
   ·rw[rhoNew]
    cases hO:g.O w.heap.size with
    |none=>rfl
    |some oc=>
     have:=h.hr.oLt _ _ hO
     omega
  ·intro b j hi
   rw[cello b j (ilt b j hi)]
   exact h.hr.exI b j hi
  ·intro b oc hb
   have:=h.hr.oLt b oc hb
   show b<w'.heap.size
   rw[f1]
   omega
  ·intro n v cv hv' hcv
   exact(h.er.rel n v cv hv' hcv).up u
  ·intro n v cv hv' hcv
   exact okeep _ _ _ (h.er.own n v cv hv' hcv)
 refine⟨g',?_,rfl,rfl,rfl,rfl,by rw[f1];omega,fun b hb _ _=>f2 b hb,u,fun b j _ _ _ hi=>hi,fun b _ _ hO=>hO,?_⟩
 ·have:=hs.set d (v:=.mr s.hp.length) (cv:=.map (some w.heap.size)) (by
   rw[←rhoNew]
   exact .mr _ (by simp)) (by simp[ax])
  exact this
 ·intro id o hid
  rcases split id o hid with⟨hlt,hid⟩|⟨rfl,rfl⟩
  ·exact .inl ⟨o,hid⟩
  ·exact .inr ⟨Nat.le_refl _,.inl (by rw[rhoNew];exact Nat.le_refl _)⟩
theorem alP{d:Nat}{k:MK}(hc:rt P (.mkm d k) m=true)(hs:step Γ (.mkm d k) s=some (true,s'))(h:SR g s w a)(hn:bH g s w a s' next):m.wp P a w next Q:=by
 obtain⟨dst,op,ty,pos,aft,gd⟩:=m
 simp only[rt,Bool.and_eq_true,beq_iff_eq] at hc
 obtain⟨rfl,hc⟩:=hc
 split at hc
 ·obtain rfl:_=s':=by simpa [step] using hs
  exact cN rfl (w':=w.alloc (.map #[] 0)) (cv:=.map (some w.heap.size)) (by simp[execOp,Instr.makeMap]) (h.newMap k d) hn
 ·simp at hc
theorem aeu(h:SR g s w a){id:Nat}{k:MK}{es:List (k.K×k.T)}(ho:s.mapO id=some ⟨k,es⟩):∃ents clock,w.heap[g.ρ id]? =some (.map ents clock)∧oj es ents clock:=(h.hr.obj id _ (age ho)).map k es rfl
theorem agf{I:Nat→Nat→Prop}{ρ:Nat→Nat}{N:Nat}(k:MK)(ok:Bool)(r:Option k.T)(h:∀v,r=some v→k.okT v):VRel I ρ N w (zn k ok r) (if ok then .tuple #[k.valV (r.getD k.zero),.bool r.isSome] else k.valV (r.getD k.zero)):=by
 have hv:VRel I ρ N w (k.val (r.getD k.zero)) (k.valV (r.getD k.zero)):=aj1 k _ (by
  cases r with
  |none=>exact aj2 k
  |some v=>exact h v rfl)
 cases ok with
 |false=>exact hv
 |true=>
  refine .tup _ _ rfl ?_
  intro i c cv hc hcv
  match i with
  |0=>simp at hc hcv;subst hc hcv;exact hv
  |1=>simp at hc hcv;subst hc hcv;exact .bool _
  |i+2=>simp at hc
theorem agh(g:Gh)(w:World)(occ:Occ)(k:MK)(ok:Bool)(r:Option k.T)(cv:Value):ax g w occ (zn k ok r) cv:=by
 cases ok
 ·cases k<;>simp[zn,MK.val,ax]
 ·simp[zn,ax]
theorem aic{k:MK}{es:List (k.K×k.T)}{ents:Array MapEntry}{clock:Nat}(hm:oj es ents clock){x:k.K}{v:k.T}(h:dL es x=some v):kF es x<es.length∧k.okT v∧∃en,ents[kF es x]? =some en∧en.key=k.keyV x∧en.val=k.valV v∧en.born=kF es x:=by
 have h1:=ajt h
 have hl:=(List.getElem?_eq_some_iff.1 h1).1
 have he:ents[kF es x]? =some (ents[kF es x]'(by rw[←hm.1];exact hl)):=Array.getElem?_eq_getElem _
 obtain⟨a,b,c,d⟩:=hm.2.2 _ _ _ h1 he
 exact⟨hl,d,_,he,b,c,a⟩
theorem ak7{d:Nat}{k:MK}{ok:Bool}{x y:ASrc}(hc:rt P (.mget d k ok x y) m=true)(hs:step Γ (.mget d k ok x y) s=some (true,s'))(h:SR g s w a)(hn:bH g s w a s' next):m.wp P a w next Q:=by
 obtain⟨dst,op,ty,pos,aft,gd⟩:=m
 simp only[rt,Bool.and_eq_true,beq_iff_eq] at hc
 obtain⟨rfl,hc⟩:=hc
 split at hc
 ·rename_i t x' y' ok'
  simp only[Bool.and_eq_true,beq_iff_eq] at hc
  obtain⟨h1,rfl,h2,h3⟩:=hc
  obtain⟨kt,e,hu,ht,hz⟩:=abr h1
  have r1:=aK h2 h.er
  have r2:=aK h3 h.er
  generalize hcx:a.eval x'=cx at r1
  simp only[step] at hs
  split at hs
  ·rename_i hx
   rw[hx] at r1
   cases r1
   simp only[Option.map_eq_some_iff] at hs
   obtain⟨key,hk,hs⟩:=hs
   obtain rfl:_=s':=by simpa using hs
   have hcy:=ab3 hk r2
   have hchk:=sU (w:=w) ht key true
   have hf:=uz (P:=P) (w:=w) ht (k:=k) (es:=[]) (ents:= #[]) (clock:=0) ⟨rfl,rfl,by simp⟩ key
   refine cN rfl (w':=w) (cv:=if ok then .tuple #[k.valV k.zero,.bool false] else k.valV k.zero) ?_ ⟨g,h.set d (agf k ok none (by simp)) (agh _ _ _ _ _ _ _),FR.refl _ _ _⟩ hn
   simp[execOp,Instr.lookup,run_underlying hu,hcx,hcy,hchk,nI,dL,hz w] at hf ⊢
   rw[hf]
   simp[hz w]
  ·rename_i id hx
   rw[hx] at r1
   cases r1
   split at hs
   ·rename_i k' es ho
    split at hs
    ·rename_i hkk
     subst hkk
     simp only[Option.map_eq_some_iff] at hs
     obtain⟨key,hk,hs⟩:=hs
     obtain rfl:_=s':=by simpa using hs
     have hcy:=ab3 hk r2
     obtain⟨ents,clock,hb,hm⟩:=aeu h ho
     have hchk:=sU (w:=w) ht key ents.isEmpty
     have hf:=uz (P:=P) (w:=w) ht hm key
     refine cN rfl (w':=w) (cv:=if ok then .tuple #[k'.valV ((dL es key).getD k'.zero),.bool (dL es key).isSome] else k'.valV ((dL es key).getD k'.zero)) ?_ ⟨g,h.set d (agf k' ok _ (fun v hv=>(aic hm hv).2.1)) (agh _ _ _ _ _ _ _),FR.refl _ _ _⟩ hn
     simp only[execOp,Instr.lookup,hcx,hcy,Sem.run_bind,run_underlying hu,Go.MapKept.run_getObj_map hb,Result.andThen_ok,Sem.run_pure,hchk,hf]
     unfold nI
     cases hmf:dL es key with
     |none=>simp[hz w]
     |some v=>simp
    ·simp at hs
   ·simp at hs
  ·simp at hs
 ·simp at hc
theorem keeps{old new:Value}(h:Instr.sameBits 10000 old new=true)(w:World):(Instr.keyThatStays old new).run P w=.ok new w:=by
 simp[Instr.keyThatStays,h]
theorem ak8{d:Option Nat}{k:MK}{x y z:ASrc}(hc:rt P (.mput d k x y z) m=true)(hs:step Γ (.mput d k x y z) s=some (true,s'))(h:SR g s w a)(hn:bH g s w a s' next):m.wp P a w next Q:=by
 obtain⟨dst,op,ty,pos,aft,gd⟩:=m
 simp only[rt,Bool.and_eq_true,beq_iff_eq] at hc
 obtain⟨rfl,hc⟩:=hc
 have main:∀t x' y' z',(∀ρ:Operand→Value,execOp ρ ⟨dst,op,ty,pos,aft,gd⟩=(do Instr.mapUpdate t (ρ x') (ρ y') (ρ z');pure .skip))→wA P t k=true→aI x x'=true→aI y y'=true→aI z z'=true→(⟨dst,op,ty,pos,aft,gd⟩:Oper).wp P a w next Q:=by
  intro t x' y' z' hx0 h1 h2 h3 h4
  obtain⟨kt,e,hu,ht,hz⟩:=abr h1
  have r1:=aK h2 h.er
  have r2:=aK h3 h.er
  have r3:=aK h4 h.er
  generalize hcx:a.eval x'=cx at r1
  simp only[step] at hs
  split at hs
  ·rename_i id hx
   rw[hx] at r1
   cases r1
   split at hs
   ·rename_i k' es ho
    split at hs
    ·rename_i hkk
     subst hkk
     split at hs
     ·rename_i key v hk hv
      obtain rfl:_=s':=by simpa using hs
      have hcy:=ab3 hk r2
      obtain⟨hcz,hov⟩:=aj3 hv r3
      obtain⟨ents,clock,hb,hm⟩:=aeu h ho
      have hchk:=sU (w:=w) ht key false
      have hf:=uz (P:=P) (w:=w) ht hm key
      have fin:∀ents' clock' es',oj es' ents' clock'→es'=eV es key v→(Instr.mapUpdate t (.map (some (g.ρ id))) (k'.keyV key) (k'.valV v)).run P w=.ok () {w with heap:=w.heap.setIfInBounds (g.ρ id) (.map ents' clock')}→(⟨dst,op,ty,pos,aft,gd⟩:Oper).wp P a w next Q:=by
       rintro ents' clock' es' hm' rfl hr
       obtain⟨p1,p2⟩:=h.putMap ho hb hm'
       unfold Oper.wp Oper.upon
       rw[hx0,hcx,hcy,hcz]
       simp only[Sem.run_bind,hr,Result.andThen_ok,Sem.run_pure]
       cases dst with
       |none=>exact hn _ _ g p1 p2 rfl
       |some d=>exact hn _ _ g (p1.set d (.undef _) (by simp[ax])) p2 rfl
      cases hmf:dL es key with
      |some v0=>
       obtain⟨b1,b2,en,b3,b4,b5,b6⟩:=aic hm hmf
       refine fin _ _ _ (hm.set (i:=kF es key) (x:=key) hov) (aj5 hmf).symm ?_
       simp[Instr.mapUpdate,run_underlying hu,Go.MapKept.run_getObj_map hb,hchk,hf,nI,hmf,b3,b4,keeps (ajs k' key),Go.MapKept.run_setObj_map _ hb]
      |none=>
       refine fin _ _ _ (hm.push (x:=key) hov) (aju hmf).1.symm ?_
       simp[Instr.mapUpdate,run_underlying hu,Go.MapKept.run_getObj_map hb,hchk,hf,nI,hmf,Go.MapKept.run_setObj_map _ hb]
     ·simp at hs
    ·simp at hs
   ·simp at hs
  ·simp at hs
 split at hc
 ·rename_i t x' y' z'
  simp only[Bool.and_eq_true] at hc
  exact main t x' y' z' (fun ρ=>by simp[execOp]) hc.1 hc.2.1 hc.2.2.1 hc.2.2.2
 ·rename_i t x' y' z'
  simp only[Bool.and_eq_true] at hc
  exact main t x' y' z' (fun ρ=>by simp[execOp]) hc.1 hc.2.1 hc.2.2.1 hc.2.2.2
 ·simp at hc
end
end Go.AM
end
