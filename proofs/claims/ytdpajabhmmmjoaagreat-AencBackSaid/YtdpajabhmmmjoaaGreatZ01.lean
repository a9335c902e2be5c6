import Derived.Orders
import Derived.MapKept
import Derived.WideKeyRuns
import Derived.WalkSpells
import Derived.Test.YtdpajabhmmmjoaaGreatZ00
noncomputable section
namespace Go.AM
set_option autoImplicit false
set_option linter.unusedSimpArgs false
set_option linter.unusedVariables false
def pT(P:Program)(o:IOp)(m:Oper):Bool:=
 match o with
 | .mku d k x=>(m.dst==some d)&&(match m.op with| .makeSlice t x' y'=>jF P t k&&(bG x x'&&bG x y')|_=>false)
 | .blu d k=>(m.dst==some d)&&(match m.op with| .buildSlice t n qs=>jF P t k&&(n==0&&qs.isEmpty)|_=>false)
 | .apu d k x y=>(m.dst==some d)&&(match acU m.op with|some (.append,[x',y'],[t,u])=>jF P t k&&(jF P u k&&(bG x x'&&bG y y'))|_=>false)
 | .apw d k x y=>(m.dst==some d)&&(match acU m.op with|some (.append,[x',y'],[t,u])=>jF P t k&&(jF P u k&&(bG x x'&&bG y y'))|_=>false)
 | .lnw d x=>(m.dst==some d)&&(match acU m.op with|some (.len,[x'],[t])=>(match P.underlying t with|some (.slice _)=>true|_=>false)&&bG x x'|_=>false)
 | .ixw d k x i=>(m.dst==some d)&&(match m.op with| .indexAddr t x' i'=>jF P t k&&(bG x x'&&bG i i')|_=>false)
 | .fdw d off x=>bV P (.fad d off x) m
 | .ldw d n agg x=>bV P (.ld d n agg false x) m
 | .stw d n x v=>(m.dst==d)&&(match m.op with| .store t x' v'=>(kJ P t==some n)&&(bG x x'&&bG v v')|_=>false)
 |_=>false
section
variable{w w':World}{g g':Gh}{s s':St}{a:Act}{P:Program}{Γ:aN}{m:Oper}{next:Act→World→Prop}{Q:Exit→Act→World→Prop}
theorem yC{i j n z:Nat}(hi:i<n)(hj:j<z):i*z+j<n*z:=by
 calc i*z+j<i*z+z:=by omega
  _=(i+1)*z:=by rw[Nat.add_mul,Nat.one_mul]
  _≤n*z:=Nat.mul_le_mul_right _ hi
theorem ac5{I:Nat→Nat→Prop}{ρ:Nat→Nat}{N:Nat}{k:EK}{x:Ty k}{j:Nat}{v:V}{u:Value}(hv:(enc k x)[j]? =some v)(h:VRel I ρ N w v u){ρ':Nat→Nat}{N':Nat}:VRel I ρ' N' w v u:=
 h.flat1 (aoA k x v (List.mem_of_getElem? hv))
theorem SR.newUL(h:SR g s w a)(k:EK)(xs:List (Ty k))(cap d:Nat)(arr:Array Value)(e:TypeId)
  (hsz:w'.heap.size=w.heap.size+1) (hold:∀b,b<w.heap.size→w'.heap[b]? =w.heap[b]?) {fz:Nat×Nat} (hnew:w'.heap[w.heap.size]? =some (.cells arr e fz))
  (hos:w'.os=w.os) (htp:w'.tape=w.tape) (hout:w'.output=w.output)
  (hle:xs.length≤cap) (hm:cap≤eu) (hroom:cap*k.sz≤arr.size) (heβ:k=.u8→e=g.β) (hfz:akP fz arr.size)
  (hv:∀(i:Nat) x j v,xs[i]? =some x→(enc k x)[j]? =some v→∃cv,arr[i*k.sz+j]? =some cv∧VRel g.I (fun _=>0) 0 w v cv):
  ∃g',SR g' (s.set d (.ul k xs)) w' (a.put (some d) (.slice (some ⟨w.heap.size,0,none⟩) xs.length cap))∧FR g s.hp w g' s.hp w':=by
 let g':Gh:={g with O:=fun b=>if b=w.heap.size then some (.slot d) else g.O b}
 have ilt:∀b j,g.I b j→b<w.heap.size:=by
  intro b j hi
  obtain⟨v,hv⟩:=Option.isSome_iff_exists.1 (h.hr.exI b j hi)
  exact World.block_lt_of_cell? _ _ hv
 have cello:∀b j,b<w.heap.size→w'.cell? ⟨b,j,none⟩=w.cell? ⟨b,j,none⟩:=by
  intro b j hb
  simp[World.cell?,hold b hb]
 have u:Up g.I g.ρ s.hp.length w g'.I g'.ρ s.hp.length w':=⟨fun b j hi=>hi,fun b j hi=>cello b j (ilt b j hi),fun _ _=>rfl,Nat.le_refl _⟩
 have hs:SR g' s w' a:=by
  refine h.keep none trivial rfl u ?_ ?_ ?_ ?_
  ·intro occ b hb _
   have hlt:=h.hr.oLt b occ hb
   exact⟨by simp[g',Nat.ne_of_lt hlt,hb],hold b hlt,fun j hj=>hj⟩
  ·intro id cs hid
   have hlt:=(h.hr.obj id cs hid).lt
   exact⟨hold _ hlt,by simp[g',Nat.ne_of_lt hlt,h.hr.notO id cs hid],fun j hj=>hj⟩
  ·intro b j hj
   rw[cello b j (ilt b j hj)];exact h.hr.exI b j hj
  ·intro b o hb
   simp only[g'] at hb
   split at hb
   ·omega
   ·have:=h.hr.oLt b o hb;omega
 refine⟨g',hs.set d (.ul k xs _ _ (by omega)) (.inr ⟨w.heap.size,cap,arr,e,fz,hfz,rfl,hle,hm,by simp[g'],hnew,hroom,heβ,?_,?_⟩),⟨rfl,hos,htp,hout,by omega,fun b hb _ _=>hold b hb,u,fun _ _ _ _ _ hi=>hi,?_,fun _ cs h=>.inl ⟨cs,h⟩⟩⟩
 ·intro j hi
  exact absurd (ilt _ _ hi) (Nat.lt_irrefl _)
 ·intro i x j v cv h1 h2 h3
  obtain⟨cv',e1,e2⟩:=hv i x j v h1 h2
  rw[e1] at h3
  obtain rfl:=Option.some.inj h3
  exact e2.up ⟨fun _ _ hi=>hi,fun b j hi=>cello b j (ilt b j hi),fun _ _=>rfl,Nat.le_refl _⟩
 ·intro b hb _ hO
  simp[g',Nat.ne_of_lt hb,hO]
theorem SR.inPlaceU(h:SR g s w a){p:Occ}(hp:yA (some p) s)(k:EK)(xs ys:List (Ty k))(b cap d:Nat)(news:List Value){arr:Array Value}{e:TypeId}{fz:Nat×Nat}(o0:akP fz arr.size)
  (o1:g.O b=some p) (o2:w.heap[b]? =some (.cells arr e fz)) (o3:cap*k.sz≤arr.size) (oβ:k=.u8→e=g.β) (oI:∀j,¬g.I b j)
  (oc:∀(i:Nat) x (j:Nat) v u,xs[i]? =some x→(enc k x)[j]? =some v→arr[i*k.sz+j]? =some u→VRel g.I (fun _=>0) 0 w v u) (hcm:cap≤eu)
  (hroom:xs.length+ys.length≤cap) (hl:news.length=ys.length*k.sz)
  (hv:∀(i:Nat) x (j:Nat) v,ys[i]? =some x→(enc k x)[j]? =some v→∃u,news[i*k.sz+j]? =some u∧VRel g.I (fun _=>0) 0 w v u):
  ∃g',SR g' (s.set d (.ul k (xs++ys))) (w.setCells b (xs.length*k.sz) news) (a.put (some d) (.slice (some ⟨b,0,none⟩) (xs.length+ys.length) cap))∧
   FR g s.hp w g' s.hp (w.setCells b (xs.length*k.sz) news):=by
 have hend:xs.length*k.sz+news.length≤arr.size:=by
  have:(xs.length+ys.length)*k.sz≤cap*k.sz:=Nat.mul_le_mul_right _ hroom
  rw[Nat.add_mul] at this
  omega
 obtain⟨⟨arr',q1,q2⟩,q3,q4,q5,q6,q7⟩:=ot b news (xs.length*k.sz) w arr e fz o2
 let w':=w.setCells b (xs.length*k.sz) news
 let g':Gh:={g with O:=fun b'=>if b'=b then some (.slot d) else g.O b'}
 have cello:∀b' j,g.I b' j→w'.cell? ⟨b',j,none⟩=w.cell? ⟨b',j,none⟩:=by
  intro b' j hi
  exact World.cell?_setCells_out b news _ w _ (by rintro rfl _;exact absurd hi (oI j))
 have hbo:∀(id:Nat) cs,s.hp[id]? =some (some cs)→g.ρ id≠b:=by
  intro id cs hid e'
  have:=h.hr.notO id cs hid
  rw[e',o1] at this
  simp at this
 have u:Up g.I g.ρ s.hp.length w g'.I g'.ρ s.hp.length w':=⟨fun b j hi=>hi,cello,fun _ _=>rfl,Nat.le_refl _⟩
 have hs:SR g' s w' a:=by
  refine h.keep (some p) hp rfl u ?_ ?_ ?_ ?_
  ·intro occ b' hb' hne
   have hbb:b'≠b:=by
    rintro rfl
    rw[o1] at hb'
    exact hne hb'
   exact⟨by simp[g',hbb,hb'],q3 b' hbb,fun j hj=>hj⟩
  ·intro id cs hid
   have hbb:=hbo id cs hid
   exact⟨q3 _ hbb,by simp[g',hbb,h.hr.notO id cs hid],fun j hj=>hj⟩
  ·intro b' j hj
   rw[cello b' j hj];exact h.hr.exI b' j hj
  ·intro b' o hb'
   simp only[g'] at hb'
   rw[q4]
   split at hb'
   ·rename_i e';subst e';exact h.hr.oLt _ _ o1
   ·exact h.hr.oLt _ _ hb'
 have harr:∀j,arr'[j]? =if xs.length*k.sz≤j∧j<xs.length*k.sz+news.length then news[j-xs.length*k.sz]? else arr[j]?:=by
  intro j
  rw[←bI q1 j]
  split
  ·rename_i hj
   have:=World.cell?_setCells_in b news (xs.length*k.sz) w (fun j' hj'=>by rw[bI o2,Array.getElem?_eq_getElem (by omega)];rfl) (j-xs.length*k.sz) (by omega)
   rw[show xs.length*k.sz+(j-xs.length*k.sz)=j by omega] at this
   rw[List.getElem?_eq_getElem (by omega)]
   exact this
  ·rename_i hj
   rw[World.cell?_setCells_out _ _ _ w _ (fun _ _=>by simp only;omega),bI o2]
 have ue:Up g.I (fun _=>0) 0 w g.I (fun _=>0) 0 w':=⟨fun _ _ hi=>hi,cello,fun _ _=>rfl,Nat.le_refl _⟩
 have hk0:∀x:Ty k,∀j v,(enc k x)[j]? =some v→j<k.sz:=by
  intro x j v hv
  have:=(List.getElem?_eq_some_iff.1 hv).1
  rwa [dk] at this
 refine⟨g',hs.set d ?_ (.inr ⟨b,cap,arr',e,fz,by rw[q2];exact o0,by simp,by simpa using hroom,hcm,by simp[g'],q1,by rw[q2];exact o3,oβ,oI,?_⟩),⟨rfl,q5,q6,q7,by rw[q4];exact Nat.le_refl _,fun b' hb' _ hO=>?_,u,fun _ _ _ _ _ hi=>hi,?_,fun _ cs h=>.inl ⟨cs,h⟩⟩⟩
 ·have:=VRel.ul (I:=g'.I) (ρ:=g'.ρ) (N:=s.hp.length) (w:=w') k (xs++ys) (some ⟨b,0,none⟩) cap (by simp;omega)
  simpa using this
 ·intro i x j v cv h1 h2 h3
  have hj:=hk0 x j v h2
  rw[harr] at h3
  rcases Nat.lt_or_ge i xs.length with hi|hi
  ·rw[List.getElem?_append_left hi] at h1
   have:=yC hi hj
   rw[if_neg (by omega)] at h3
   exact(oc i x j v cv h1 h2 h3).up ue
  ·rw[List.getElem?_append_right hi] at h1
   obtain⟨u',e1,e2⟩:=hv _ x j v h1 h2
   have hlt:=(List.getElem?_eq_some_iff.1 e1).1
   have hp':i*k.sz=xs.length*k.sz+(i-xs.length)*k.sz:=by rw[←Nat.add_mul];congr 1;omega
   rw[if_pos (by omega),show i*k.sz+j-xs.length*k.sz=(i-xs.length)*k.sz+j by omega,e1] at h3
   obtain rfl:=Option.some.inj h3
   exact e2.up ue
 ·have hbb:b'≠b:=by rintro rfl;rw[o1] at hO;simp at hO
  exact q3 b' hbb
 ·intro b' hb' _ hO
  have hbb:b'≠b:=by rintro rfl;rw[o1] at hO;simp at hO
  simp[g',hbb,hO]
theorem aDR{x:aR}{x':Operand}{k:EK}{xs:List (Ty k)}(h:SR g s w a)(hx:bG x x'=true)(hxe:x.ev s=.ul k xs):
  ∃p,yA (some p) (x.after s)∧akQ g w p k xs (a.eval x'):=by
 unfold bG at hx
 split at hx
 ·rename_i n k'
  obtain rfl:=by simpa using hx
  simp only[aR.ev] at hxe
  exfalso
  cases hg:s.get n<;>rw[hg] at hxe<;>simp[disown] at hxe
 ·rename_i n k'
  obtain rfl:=by simpa using hx
  refine⟨.slot n,aaW n s,?_⟩
  have:=h.er.getOwn n
  rw[show s.get n=.ul k xs from hxe] at this
  exact this
 ·rename_i v cv
  simp only[aR.ev] at hxe
  subst hxe
  exact⟨.res,trivial,aaV hx _⟩
 ·rename_i f hf
  simp only[aR.ev] at hxe
  cases hxe
 ·simp at hx
theorem aB8{p:Occ}{k:EK}{xs:List (Ty k)}{cv:Value}(h:akQ g w p k xs cv):
  ∃L:List Value,L.length=xs.length*k.sz∧(∀(i:Nat) x (j:Nat) v,xs[i]? =some x→(enc k x)[j]? =some v→∃u,L[i*k.sz+j]? =some u∧VRel g.I (fun _=>0) 0 w v u)∧
   ((xs=[]∧cv=.slice none 0 0)∨∃b cap arr e fz,akP fz arr.size∧cv=.slice (some ⟨b,0,none⟩) xs.length cap∧xs.length≤cap∧w.heap[b]? =some (.cells arr e fz)∧cap*k.sz≤arr.size∧∀j v,L[j]? =some v→w.cell? ⟨b,j,none⟩=some v):=by
 rcases h with⟨rfl,rfl⟩|⟨b,cap,arr,e,fz,h0,h1,h2,h3,h4,h5,h6,h7,h8,h9⟩
 ·exact⟨[],by simp,by simp,.inl ⟨rfl,rfl⟩⟩
 ·have hle:xs.length*k.sz≤arr.size:=Nat.le_trans (Nat.mul_le_mul_right _ h2) h6
  refine⟨arr.toList.take (xs.length*k.sz),by simp;omega,?_,.inr ⟨b,cap,arr,e,fz,h0,h1,h2,h5,h6,?_⟩⟩
  ·intro i x j v hx hv
   have hj:j<k.sz:=by
    have:=(List.getElem?_eq_some_iff.1 hv).1
    rwa [dk] at this
   have hlt:=yC (List.getElem?_eq_some_iff.1 hx).1 hj
   have ha:arr[i*k.sz+j]? =some (arr[i*k.sz+j]'(by omega)):=Array.getElem?_eq_getElem _
   refine⟨_,?_,h9 i x j v _ hx hv ha⟩
   rw[List.getElem?_take,if_pos hlt,Array.getElem?_toList]
   exact ha
  ·intro j v hj
   rw[List.getElem?_take] at hj
   split at hj
   ·rw[Array.getElem?_toList] at hj
    rw[bI h5];exact hj
   ·simp at hj
theorem atY(hβ:g.β=jM P){d:Nat}{k:EK}{x:aR}{x' y':Operand}{xs ys:List (Ty k)}{ty t u e:TypeId}{pos:String}{aft:Array Edge}{gd:Option (Nat×Bool)}(h:SR g s w a)
  (hx:bG x x'=true) (hxe:x.ev s=.ul k xs) (ut:P.underlying t=some (.slice e)) (he:aa9 P e k=true) (news:List Value)
  (hs:_root_.Go.Src P k.sz u (a.eval y') ys.length news w) (hv:∀(i:Nat) x (j:Nat) v,ys[i]? =some x→(enc k x)[j]? =some v→∃u,news[i*k.sz+j]? =some u∧VRel g.I (fun _=>0) 0 w v u)
  (hfit:(xs.length+ys.length)*k.bytes≤qS)
  (hn:dR g s w a ((x.after s).set d (.ul k (xs++ys))) next):
  (⟨some d,.call ⟨.builtin .append,⟨[x',y']⟩,⟨[t,u]⟩⟩,ty,pos,aft,gd⟩:Oper).wp P a w next Q:=by
 obtain⟨inf,z,i1,i2,i3,i4,i5,i6,i7⟩:=iP he
 have hkb:0<k.bytes:=by cases k<;>simp[EK.bytes];rename_i kk;cases kk<;>simp[ac9]
 have hlen:xs.length+ys.length≤qS:=Nat.le_trans (Nat.le_mul_of_pos_right _ hkb) hfit
 obtain⟨p,hp,ho⟩:=aDR h hx hxe
 have h1:=h.after x
 obtain⟨L,l1,l3,l4⟩:=aB8 ho
 have hrun:∀cv w',(Builtin.append_ #[t,u] ty #[a.eval x',a.eval y']).run P w=.ok cv w'→(execOp a.eval ⟨some d,.call ⟨.builtin .append,⟨[x',y']⟩,⟨[t,u]⟩⟩,ty,pos,aft,gd⟩).run P w=.ok (.value cv) w':=by
  intro cv w' hr
  simp[execOp,resolve,invoke,builtin,hr]
 have hhp:(x.after s).hp=s.hp:=qV x s
 have grow:∀(base:Option Addr)(cap:Nat),a.eval x'=.slice base xs.length cap→cap<xs.length+ys.length→
   (Builtin.firstCells k.sz xs.length (.slice base xs.length cap)).run P w.drew=.ok L.toArray w.drew→
   (⟨some d,.call ⟨.builtin .append,⟨[x',y']⟩,⟨[t,u]⟩⟩,ty,pos,aft,gd⟩:Oper).wp P a w next Q:=by
  intro base cap hb hcap hold
  have hr:=run_append_grow_src w t u ty e inf z ut i1 i4 base xs.length cap L (by rw[i2];exact hold) (a.eval y') ys.length news (by rw[i2];exact hs) hcap (by unfold qS at hlen;omega)
   (growslice_fits hcap (by rw[i3];exact hfit))
  have hcapn:xs.length+ys.length≤grownCap w (xs.length+ys.length) cap e:=by
   unfold grownCap Question.cut
   exact Nat.le_add_right _ _
  have hcm:grownCap w (xs.length+ys.length) cap e≤eu:=by
   have:=grownCap_le_maxLen w (xs.length+ys.length) cap e (by unfold maxLen;unfold qS at hlen;omega)
   simpa [maxLen,eu] using this
  let arr:Array Value:=(L++news).toArray++Builtin.zeroCells z.cells (grownCap w (xs.length+ys.length) cap e-(xs.length+ys.length))
  have hnl:=hs.newsLen
  have harr:arr.size=grownCap w (xs.length+ys.length) cap e*k.sz:=by
   simp only[arr,Array.size_append,List.size_toArray,List.length_append,l1,hnl,size_zeroCells,i7]
   rw[←Nat.add_mul,←Nat.add_mul]
   congr 1
   omega
  have f:=kK w.drew (.cells arr e)
  obtain⟨g',q1,q2⟩:=h1.newUL (w':=w.drew.alloc (.cells arr e)) k (xs++ys) (grownCap w (xs.length+ys.length) cap e) d arr e f.1 f.2.1 f.2.2 rfl rfl rfl (by simpa using hcapn) hcm (by rw[harr];exact Nat.le_refl _) (fun hk=>by rw[hβ];exact oY he hk) (azX _) (by
   intro i x j v hx hv'
   have hj:j<k.sz:=by
    have:=(List.getElem?_eq_some_iff.1 hv').1
    rwa [dk] at this
   have hleft:∀(q:Nat) u,(L++news)[q]? =some u→arr[q]? =some u:=by
    intro q u hq
    have hlt:=(List.getElem?_eq_some_iff.1 hq).1
    simp only[arr]
    rw[Array.getElem?_append_left (by simpa using hlt)]
    simpa using hq
   rcases Nat.lt_or_ge i xs.length with hi|hi
   ·rw[List.getElem?_append_left hi] at hx
    obtain⟨u,e1,e2⟩:=l3 i x j v hx hv'
    refine⟨u,hleft _ _ ?_,e2⟩
    rw[List.getElem?_append_left (List.getElem?_eq_some_iff.1 e1).1]
    exact e1
   ·rw[List.getElem?_append_right hi] at hx
    obtain⟨u,e1,e2⟩:=hv _ x j v hx hv'
    refine⟨u,hleft _ _ ?_,e2⟩
    have:i*k.sz=xs.length*k.sz+(i-xs.length)*k.sz:=by rw[←Nat.add_mul];congr 1;omega
    rw[List.getElem?_append_right (by rw[l1];omega),l1,←e1]
    congr 1
    omega)
  have hgoal:(execOp a.eval ⟨some d,.call ⟨.builtin .append,⟨[x',y']⟩,⟨[t,u]⟩⟩,ty,pos,aft,gd⟩).run P w=.ok (.value (.slice (some ⟨w.heap.size,0,none⟩) (xs++ys).length (grownCap w (xs.length+ys.length) cap e))) (w.drew.alloc (.cells arr e)):=by
   refine hrun _ _ ?_
   rw[hb,hr]
   simp[arr]
  refine gi rfl hgoal ⟨g',q1,?_⟩ hn
  rw[hhp] at q2
  show FR g s.hp w g' (x.after s).hp _
  rw[hhp]
  exact q2
 rcases l4 with⟨rfl,hcv⟩|⟨b,cap,arr,e',fz,hfz,hcv,hcap,hb,hsz,hcells⟩
 ·by_cases h0:ys.length=0
  ·have hy0:ys=[]:=List.eq_nil_of_length_eq_zero h0
   subst hy0
   have hr:(Builtin.append_ #[t,u] ty #[a.eval x',a.eval y']).run P w=.ok (.slice none 0 0) w:=by
    have hnews:news=[]:=by have:=hs.newsLen;simpa using this
    have hc:=hs.cells
    rw[hcv]
    rcases hs.kind with⟨e',hk⟩|hk<;>simp[Builtin.append_,run_underlying ut,run_underlying hk,sizeOf,typeInfo,i1,i2,hs.len] at* <;>simp[hc]
   refine gi rfl (hrun _ _ hr) ⟨g,?_,?_⟩ hn
   ·exact h1.set d (by simpa using VRel.ul (I:=g.I) (ρ:=g.ρ) (N:=(x.after s).hp.length) (w:=w) k ([]:List (Ty k)) none 0 (by simp)) (.inl ⟨by simp,rfl⟩)
   ·have:=FR.refl g s.hp w
    simpa [St.set,hhp] using this
  ·exact grow none 0 (by simpa using hcv) (by simp;omega) (by
    have hL:L=[]:=by simpa using l1
    subst hL
    simpa using run_firstCells_none (P:=P) w.drew k.sz 0 0 0)
 ·by_cases hroom:xs.length+ys.length≤cap
  ·rcases ho with⟨rfl,ho⟩|⟨b2,cap2,arr2,e2,fz2,m0,m1,m2,m3,m4,m5,m6,m7,m8,m9⟩
   ·rw[hcv] at ho;cases ho
   ·rw[hcv] at m1
    cases m1
    rw[hb] at m5
    cases m5
    have hend:xs.length*k.sz+news.length≤cap*k.sz:=by
     have:(xs.length+ys.length)*k.sz≤cap*k.sz:=Nat.mul_le_mul_right _ hroom
     rw[Nat.add_mul] at this
     rw[hs.newsLen]
     omega
    have hr:=run_append_room_src w t u ty e inf ut i1 b 0 xs.length cap (a.eval y') ys.length news (by rw[i2];exact hs) hroom (by
     intro j hj
     rw[i2,bI hb,Array.getElem?_eq_getElem (by omega)]
     rfl) (by
     intro j hj
     rw[i2]
     have hc:=hfz (0+xs.length*k.sz+j) (by omega)
     simp only[World.frozen?,hb,Bool.and_eq_false_iff,decide_eq_false_iff_not]
     omega)
    rw[i2,Nat.zero_add] at hr
    have q:=h1.inPlaceU hp k xs ys b cap d news m0 m4 hb m6 m7 m8 m9 m3 hroom hs.newsLen hv
    rw[hhp] at q
    refine gi rfl (hrun _ _ (by rw[hcv];exact hr)) ?_ hn
    obtain⟨g',q1,q2⟩:=q
    exact⟨g',q1,by simpa [St.set,hhp] using q2⟩
  ·exact grow _ cap hcv (by omega) (run_firstCells_some w.drew k.sz xs.length ⟨b,0,none⟩ xs.length cap L (by simpa using l1) (by
    intro j v hj
    rw[Addr.add_lit,Nat.zero_add]
    exact hcells j v hj))
theorem aDS{d:Nat}{k:EK}{x y:aR}(hβ:g.β=jM P)(hc:pT P (.apu d k x y) m=true)(hs:step Γ (.apu d k x y) s=some (true,s'))(h:SR g s w a)(hn:dR g s w a s' next):m.wp P a w next Q:=by
 obtain⟨dst,op,ty,pos,aft,gd⟩:=m
 simp only[pT,Bool.and_eq_true,beq_iff_eq] at hc
 obtain⟨rfl,hc⟩:=hc
 split at hc
 ·rename_i x' y' t u hop
  obtain rfl:=oB hop
  simp only[Bool.and_eq_true] at hc
  obtain⟨h1,h2,h3,h4⟩:=hc
  obtain⟨e,u1,e1⟩:=dT h1
  obtain⟨e',u2,e2⟩:=dT h2
  simp only[step] at hs
  split at hs
  ·rename_i k' l k'' o mm hx hy
   split at hs
   ·rename_i hk
    subst hk
    split at hs
    ·rename_i hkk
     simp only[Option.some.injEq,Prod.mk.injEq,decide_eq_true_eq] at hs
     obtain⟨hfit,rfl⟩:=hs
     have r2:=bE h4 h.er
     rw[hy] at r2
     have r2:=azw hkk r2
     obtain⟨L,l1,l2,l3,l4⟩:=ap3 r2
     refine atY hβ h h3 hx u1 e1 L (ys:=hkk▸mm) ?_ (fun i x j v hx hv=>by
      obtain⟨u,q1,q2⟩:=l3 i x j v hx hv
      exact⟨u,q1,ac5 hv q2⟩) (by rw[aoG];exact hfit) hn
     rcases l4 with⟨hnil,ad,hcv, -⟩|⟨b,off,cap,hcv,hcap,hcm,hcells⟩
     ·rw[hcv,hnil]
      have hL:L=[]:=by rw[hnil] at l1;simpa using l1
      rw[hL]
      cases ad with
      |none=>exact _root_.Go.Src.ofNil w u2 0
      |some ad=>exact _root_.Go.Src.ofSlice w u2 _ _ _ _ (by simp) (by intro j v hj;simp at hj) (by simp)
     ·rw[hcv]
      exact _root_.Go.Src.ofSlice w u2 _ _ _ _ l1 (by intro j v hj;rw[Addr.add_lit];exact hcells j v hj) l2
    ·simp at hs
   ·simp at hs
  ·simp at hs
 ·simp at hc
theorem aDT{d:Nat}{k:EK}{x:aR}(hβ:g.β=jM P)(hc:pT P (.mku d k x) m=true)(hs:step Γ (.mku d k x) s=some (true,s'))(h:SR g s w a)(hn:dR g s w a s' next):m.wp P a w next Q:=by
 obtain⟨dst,op,ty,pos,aft,gd⟩:=m
 simp only[pT,Bool.and_eq_true,beq_iff_eq] at hc
 obtain⟨rfl,hc⟩:=hc
 split at hc
 ·rename_i t x' y'
  simp only[Bool.and_eq_true] at hc
  obtain⟨h1,h2,h3⟩:=hc
  have r1:=bE h2 h.er
  have r2:=bE h3 h.er
  obtain⟨e,u1,h1⟩:=dT h1
  obtain⟨inf,z,i1,i2,i3,i4,i5,i6,i7⟩:=iP h1
  simp only[step] at hs
  split at hs
  ·rename_i ki n hx
   simp only[Option.some.injEq,Prod.mk.injEq,Bool.and_eq_true,decide_eq_true_eq] at hs
   obtain⟨⟨g1,g2⟩,rfl⟩:=hs
   rw[hx] at r1 r2
   generalize hcx:a.eval x'=cx at r1
   generalize hcy:a.eval y'=cy at r2
   cases r1
   cases r2
   have hk0:0<k.sz:=by cases k<;>simp[EK.sz]
   have hb0:1≤k.bytes:=by
    cases k with
    |num k=>cases k<;>simp[EK.bytes,ac9]
    |_=>simp[EK.bytes]
   have g3:n*k.bytes≤140737488355328:=g2
   have hnle:n≤140737488355328:=by
    have:n*1≤n*(k.bytes:Int):=Int.mul_le_mul_of_nonneg_left (by omega) g1
    omega
   have hb:(inf.bytes:Int)*n≤281474976710656:=by
    rw[i3,Int.mul_comm];omega
   have hrun:=run_make (P:=P) w t e inf z u1 i1 i4 ki ki n n g1 (Int.le_refl _) hb (by omega)
   have hzs:z.cells.size=k.sz:=i7
   obtain⟨m1,m2,m3⟩:=nt (I:=g.I) (ρ:=fun _=>0) (N:=0) (w:=w) i6
   rw[i2] at hrun
   have f:=kK w (.cells (madeCells z.cells (n.toNat*k.sz)) e)
   obtain⟨g',q1,q2⟩:=h.newUL (w':=w.alloc (.cells (madeCells z.cells (n.toNat*k.sz)) e)) k (List.replicate n.toNat (aC k)) n.toNat d (madeCells z.cells (n.toNat*k.sz)) e f.1 f.2.1 f.2.2 rfl rfl rfl (by simp) (by unfold eu;omega)
    (by rw[size_madeCells];exact Nat.le_refl _) (fun hk=>by rw[hβ];exact oY h1 hk) (azX _) (by
     intro i x j v hx hv
     rw[List.getElem?_replicate] at hx
     split at hx
     ·rename_i hi
      simp only[Option.some.injEq] at hx
      subst hx
      have hj:j<k.sz:=by
       have:=(List.getElem?_eq_some_iff.1 hv).1
       rwa [dk] at this
      have hlt:i*k.sz+j<n.toNat*k.sz:=yC hi hj
      have hmod:(i*k.sz+j)%z.cells.size=j:=by rw[hzs,Nat.add_comm,Nat.add_mul_mod_self_right,Nat.mod_eq_of_lt hj]
      have hz':z.cells[j]? =some (z.cells[j]'(by omega)):=Array.getElem?_eq_getElem _
      refine⟨z.cells[j]'(by omega),?_,m3 j v _ hv (by rw[Array.getElem?_toList];exact hz')⟩
      simp only[madeCells]
      rw[Array.getElem?_map,Array.getElem?_range,if_pos hlt,Option.map_some,hmod,getElem!_pos z.cells j (by omega)]
     ·simp at hx)
   simp only[List.length_replicate] at q1
   exact gi rfl (by simp[execOp,hcx,hcy,hrun]) ⟨g',q1,q2⟩ hn
  ·simp at hs
 ·simp at hc
theorem aDU{d:Nat}{k:EK}(hβ:g.β=jM P)(hc:pT P (.blu d k) m=true)(hs:step Γ (.blu d k) s=some (true,s'))(h:SR g s w a)(hn:dR g s w a s' next):m.wp P a w next Q:=by
 obtain⟨dst,op,ty,pos,aft,gd⟩:=m
 simp only[pT,Bool.and_eq_true,beq_iff_eq] at hc
 obtain⟨rfl,hc⟩:=hc
 split at hc
 ·rename_i t n qs
  simp only[Bool.and_eq_true,beq_iff_eq] at hc
  obtain⟨h1,rfl,h2⟩:=hc
  obtain rfl:_=s':=by simpa [step] using hs
  obtain⟨e,u1,h1⟩:=dT h1
  obtain⟨inf,z,i1,i2,i3,i4,i5,i6,i7⟩:=iP h1
  have hq:qs= #[]:=by simpa using h2
  have f:=kK w (.cells (#[]:Array Value) e)
  obtain⟨g',q1,q2⟩:=h.newUL (w':=w.alloc (.cells (#[]:Array Value) e)) k [] 0 d #[] e f.1 f.2.1 f.2.2 rfl rfl rfl (by simp) (by unfold eu;omega) (by simp) (fun hk=>by rw[hβ];exact oY h1 hk) (azX _) (by simp)
  refine gi rfl (cv:=.slice (some ⟨w.heap.size,0,none⟩) 0 0) ?_ ⟨g',q1,q2⟩ hn
  simp[execOp,Instr.buildSlice,run_underlying u1,sizeOf,typeInfo,i1,i2,hq,Instr.fill,newRow]
  rw[show Array.range 0= #[] from Array.eq_empty_of_size_eq_zero (by simp),Array.map_empty]
 ·simp at hc
theorem aDV{d:Nat}{x:aR}(hc:pT P (.lnw d x) m=true)(hs:step Γ (.lnw d x) s=some (true,s'))(h:SR g s w a)(hn:dR g s w a s' next):m.wp P a w next Q:=by
 obtain⟨dst,op,ty,pos,aft,gd⟩:=m
 simp only[pT,Bool.and_eq_true,beq_iff_eq] at hc
 obtain⟨rfl,hc⟩:=hc
 split at hc
 ·rename_i x' t hop
  obtain rfl:=oB hop
  simp only[Bool.and_eq_true] at hc
  obtain⟨h1,h3⟩:=hc
  have r1:=bE h3 h.er
  split at h1
  ·rename_i e u1
   simp only[step] at hs
   split at hs
   ·rename_i n hx
    obtain rfl:_=s':=by simpa using hs
    rw[hx] at r1
    generalize hcv:a.eval x'=cv at r1
    cases r1 with
    |hd _ ad cap hm=>
     refine bw h rfl (cv:=.int .i64 n) (by simp[execOp,resolve,hcv,invoke,builtin,Builtin.len_,run_underlying u1,goInt]) ?_ rfl hn
     exact .int _ _ (by simp[IntKind.min,IntKind.max,IntKind.signed,IntKind.bits,eu] at *;omega)
   ·rename_i k id n hx
    obtain rfl:_=s':=by simpa using hs
    rw[hx] at r1
    generalize hcv:a.eval x'=cv at r1
    cases r1 with
    |sw _ _ _ hid hcap hm=>
     refine bw h rfl (cv:=.int .i64 n) (by simp[execOp,resolve,hcv,invoke,builtin,Builtin.len_,run_underlying u1,goInt]) ?_ rfl hn
     exact .int _ _ (by simp[IntKind.min,IntKind.max,IntKind.signed,IntKind.bits,eu] at *;omega)
   ·simp at hs
  ·simp at h1
 ·simp at hc
theorem aDW{d:Nat}{k:EK}{x i:aR}(hc:pT P (.ixw d k x i) m=true)(hs:step Γ (.ixw d k x i) s=some (true,s'))(h:SR g s w a)(hn:dR g s w a s' next):m.wp P a w next Q:=by
 obtain⟨dst,op,ty,pos,aft,gd⟩:=m
 simp only[pT,Bool.and_eq_true,beq_iff_eq] at hc
 obtain⟨rfl,hc⟩:=hc
 split at hc
 ·rename_i t x' i'
  simp only[Bool.and_eq_true] at hc
  obtain⟨h1,h2,h3⟩:=hc
  have r1:=bE h2 h.er
  have r2:=bE h3 h.er
  simp only[step] at hs
  split at hs
  ·rename_i k' id len ki n hx hi
   split at hs
   ·rename_i hk
    subst hk
    simp only[Option.some.injEq,Prod.mk.injEq,Bool.and_eq_true,decide_eq_true_eq] at hs
    obtain⟨⟨g1,g2⟩,rfl⟩:=hs
    rw[hx] at r1
    rw[hi] at r2
    obtain⟨e,u1,h1⟩:=dT h1
    obtain⟨inf,z,i1,i2,i3,i4,i5,_⟩:=iP h1
    generalize hcv:a.eval x'=cv at r1
    generalize hci:a.eval i'=ci at r2
    cases r2
    cases r1 with
    |sw _ _ _ hid hcap hm=>
     have hsz:∀w':World,(sizeOf e).run P w'=.ok k'.sz w':=fun w'=>by simp[sizeOf,typeInfo,i1,i2]
     refine bw h rfl (cv:=.pointer (some ⟨g.ρ id,n.toNat*k'.sz+0,none⟩)) ?_ (.wp _ _ _ _ hid) rfl hn
     simp[execOp,hcv,hci,Instr.indexAt,asIntOf,run_underlying u1,g1,g2,hsz,Addr.add_lit]
   ·simp at hs
  ·simp at hs
 ·simp at hc
theorem aDX{d off:Nat}{x:aR}(hc:pT P (.fdw d off x) m=true)(hs:step Γ (.fdw d off x) s=some (true,s'))(h:SR g s w a)(hn:dR g s w a s' next):m.wp P a w next Q:=by
 obtain⟨dst,op,ty,pos,aft,gd⟩:=m
 simp only[pT,bV,Bool.and_eq_true,beq_iff_eq] at hc
 obtain⟨rfl,hc⟩:=hc
 split at hc
 ·rename_i t x' fi
  simp only[Bool.and_eq_true] at hc
  obtain⟨h1,h2⟩:=hc
  have r1:=bE h2 h.er
  split at h1
  ·rename_i fs u1
   split at h1
   ·rename_i fd hfd
    simp only[Bool.and_eq_true,beq_iff_eq] at h1
    obtain⟨h0,h1⟩:=h1
    have hsz:∀w':World,∃n,n≠0∧(sizeOf fd.type).run P w'=.ok n w':=by
     intro w'
     unfold aoC kJ at h1
     split at h1
     ·rename_i n hn'
      exact⟨n,by simpa using h1,xR (by simpa [kJ] using hn') w'⟩
     ·simp at h1
    obtain⟨n,hn0,hsz⟩:=hsz w
    simp only[step] at hs
    split at hs
    ·rename_i id k i o hx
     obtain rfl:_=s':=by simpa using hs
     rw[hx] at r1
     generalize hcv:a.eval x'=cv at r1
     cases r1 with
     |wp _ _ _ _ hid=>
      refine bw h rfl (cv:=.pointer (some ⟨g.ρ id,i*k.sz+(o+off),none⟩)) ?_ (.wp _ _ _ _ hid) rfl hn
      simp[execOp,hcv,Instr.fieldAt,run_underlying u1,hfd,Instr.sureAddr,fieldPlace,hsz,hn0,h0,Addr.add_lit,Nat.add_assoc]
    ·simp at hs
   ·simp at h1
  ·simp at h1
 ·simp at hc
theorem aoJ{id:Nat}{k:EK}{xs:List (Ty k)}(ho:s.rowW id=some ⟨k,xs⟩):s.hp[id]? =some (some [.rw k xs]):=by
 unfold St.rowW at ho
 simp only[List.getD] at ho
 cases hh:s.hp[id]? with
 |none=>rw[hh] at ho;simp at ho
 |some x=>
  rw[hh] at ho
  simp only[Option.getD_some] at ho
  split at ho
  ·simp only[Option.some.injEq] at ho
   cases ho
   rfl
  ·cases ho
theorem ah1{k:EK}:∀(xs:List (Ty k))(i j:Nat)(x:Ty k)(v:V),xs[i]? =some x→(enc k x)[j]? =some v→(xs.flatMap (enc k))[i*k.sz+j]? =some v
 | [],i,j,x,v,h1,_=>by simp at h1
 |y::xs,0,j,x,v,h1,h2=>by
  simp at h1
  subst h1
  have hj:=(List.getElem?_eq_some_iff.1 h2).1
  simp only[List.flatMap_cons,Nat.zero_mul,Nat.zero_add]
  rw[List.getElem?_append_left hj]
  exact h2
 |y::xs,i+1,j,x,v,h1,h2=>by
  have ih:=ah1 xs i j x v (by simpa using h1) h2
  simp only[List.flatMap_cons]
  have hl:=dk k y
  rw[List.getElem?_append_right (by rw[hl,Nat.add_mul];omega),hl,←ih]
  congr 1
  rw[Nat.add_mul]
  omega
theorem fK{k:EK}:∀(xs:List (Ty k)),(xs.flatMap (enc k)).length=xs.length*k.sz
 | []=>by simp
 |x::xs=>by simp[List.flatMap_cons,fK xs,dk,Nat.add_mul];omega
theorem yD{k:EK}(xs:List (Ty k))(q:Nat)(v:V)(h:(xs.flatMap (enc k))[q]? =some v):∃x,xs[q / k.sz]? =some x∧(enc k x)[q%k.sz]? =some v:=by
 have hlt:=(List.getElem?_eq_some_iff.1 h).1
 rw[fK] at hlt
 have hk0:0<k.sz:=by cases k<;>simp[EK.sz]
 have hi:q / k.sz<xs.length:=Nat.div_lt_of_lt_mul (by rw[Nat.mul_comm];exact hlt)
 have hr:q%k.sz<k.sz:=Nat.mod_lt _ hk0
 have hx:xs[q / k.sz]? =some xs[q / k.sz]:=List.getElem?_eq_getElem hi
 have hlen:q%k.sz<(enc k xs[q / k.sz]).length:=by rw[dk];exact hr
 refine⟨_,hx,?_⟩
 have:=ah1 xs _ _ _ _ hx (List.getElem?_eq_getElem hlen)
 rw[show q / k.sz*k.sz+q%k.sz=q by rw[Nat.mul_comm];exact Nat.div_add_mod q k.sz,h] at this
 rw[List.getElem?_eq_getElem hlen,←this]
theorem yE{id:Nat}{k:EK}{xs:List (Ty k)}(h:SR g s w a)(ho:s.rowW id=some ⟨k,xs⟩):∃arr e fz,w.heap[g.ρ id]? =some (.cells arr e fz)∧xs.length*k.sz≤arr.size∧
  aaU g s.hp.length w id [.rw k xs] arr e fz∧∀(i:Nat) x (j:Nat) v u,xs[i]? =some x→(enc k x)[j]? =some v→arr[i*k.sz+j]? =some u→VRel g.I g.ρ s.hp.length w v u:=by
 obtain⟨arr,e,fz,h1,h2⟩:=(h.hr.obj id _ (aoJ ho)).row rfl
 obtain⟨t1,t2,t3,t4⟩:=h2.typed k xs rfl
 have hl:xs.length*k.sz≤arr.size:=by
  have:=h2.len
  simp only[cellsOf] at this
  rwa [fK] at this
 refine⟨arr,e,fz,h1,hl,h2,?_⟩
 intro i x j v u hx hv hu
 exact h2.rel (i*k.sz+j) v u (by simp only[cellsOf];exact ah1 xs i j x v hx hv) hu
theorem aDY{d n:Nat}{agg:Bool}{x:aR}(hc:pT P (.ldw d n agg x) m=true)(hs:step Γ (.ldw d n agg x) s=some (true,s'))(h:SR g s w a)(hn:dR g s w a s' next):m.wp P a w next Q:=by
 obtain⟨dst,op,ty,pos,aft,gd⟩:=m
 simp only[pT,bV,Bool.and_eq_true,beq_iff_eq] at hc
 obtain⟨rfl,hc⟩:=hc
 split at hc
 ·rename_i t x'
  simp only[Bool.and_eq_true,beq_iff_eq,Bool.or_eq_true] at hc
  obtain⟨h1,h2,h3,h4⟩:=hc
  have r1:=bE h4 h.er
  simp only[step] at hs
  split at hs
  ·rename_i id k i o hx
   split at hs
   ·rename_i k' xs ho
    split at hs
    ·rename_i hk
     obtain⟨rfl,hle⟩:=hk
     simp only[Option.some.injEq,Prod.mk.injEq,decide_eq_true_eq] at hs
     obtain⟨hi,rfl⟩:=hs
     rw[hx] at r1
     generalize hcv:a.eval x'=cv at r1
     cases r1 with
     |wp _ _ _ _ hid=>
      obtain⟨arr,e,fz,hb,hsz,hok,hrel⟩:=yE h ho
      have hxi:xs[i]? =some xs[i]:=List.getElem?_eq_getElem hi
      have hd:xs.getD i (aC k')=xs[i]:=by simp[List.getD,hxi]
      rw[hd] at hn
      have hel:=dk k' xs[i]
      have hend:i*k'.sz+k'.sz≤arr.size:=by
       have:(i+1)*k'.sz≤xs.length*k'.sz:=Nat.mul_le_mul_right _ hi
       rw[Nat.add_mul,Nat.one_mul] at this
       omega
      have hl:=yz (agg:=agg) (cs:=((enc k' xs[i]).drop o).take n) (vs:=(arr.toList.drop (i*k'.sz+o)).take n) (w:=w) (I:=g.I) (ρ:=g.ρ) (N:=s.hp.length)
       (fun c hcm=>ac4 k' _ c (List.mem_of_mem_drop (List.mem_of_mem_take hcm))) (by simp;omega) (by
        rcases h3 with h3|h3
        ·exact .inl h3
        ·right;simp;omega)
       (fun j c cv hc hcv=>by
        simp only[List.getElem?_take,List.getElem?_drop] at hc hcv
        split at hc
        ·rename_i hj
         simp only[hj,if_true] at hcv
         exact hrel i _ (o+j) c cv hxi hc (by rw[←Array.getElem?_toList,←Nat.add_assoc];exact hcv)
        ·simp at hc)
      refine bw h rfl (cv:=if agg then .agg ((arr.toList.drop (i*k'.sz+o)).take n).toArray else ((arr.toList.drop (i*k'.sz+o)).take n).headD undef) ?_ hl.disown (fx _) hn
      have:=tS (P:=P) (w:=w) (b:=g.ρ id) (o:=i*k'.sz+o) (vs:=(arr.toList.drop (i*k'.sz+o)).take n) h1 h2 h3 (by simp;omega) (fun j v hj=>by
       rw[bI hb]
       simp only[List.getElem?_take,List.getElem?_drop] at hj
       split at hj
       ·simpa using hj
       ·simp at hj)
      simp[execOp,hcv,this]
    ·simp at hs
   ·simp at hs
  ·simp at hs
 ·simp at hc
theorem aA0(v:V):v.weak.weak=v.weak:=by cases v<;>rfl
theorem aww{v:V}(h:v.inRange):v.weak.inRange:=by
 cases v<;>first|exact h|trivial
theorem az4{k:EK}{x x':Ty k}{o:Nat}{vs:List V}(h:akO k x o vs=some x')(hx:∀c∈enc k x,c.inRange)(hr:∀c∈vs,c.inRange):
  enc k x'=((enc k x).take o++vs.map V.weak)++(enc k x).drop (o+vs.length):=by
 unfold akO at h
 rw[azv h ?_]
 ·rw[List.map_append,List.map_append,List.map_map,List.map_take,List.map_drop,aB4]
  congr 2
  exact List.map_congr_left fun c _=>aA0 c
 ·intro c hc
  rcases List.mem_append.1 hc with hc|hc
  ·rcases List.mem_append.1 hc with hc|hc
   ·exact hx c (List.mem_of_mem_take hc)
   ·obtain⟨v,hv,rfl⟩:=List.mem_map.1 hc
    exact aww (hr v hv)
  ·exact hx c (List.mem_of_mem_drop hc)
theorem awx(k:EK)(x:Ty k)(j E n:Nat):(enc k x)[j]?≠some (.bn E n):=by
 intro h
 have:=aoA k x _ (List.mem_of_getElem? h)
 simp[V.flat1] at this
theorem SR.putElt(h:SR g s w a){id i o:Nat}{k:EK}{xs:List (Ty k)}(ho:s.rowW id=some ⟨k,xs⟩)(hi:i<xs.length){x':Ty k}{vs:List V}{us:List Value}(hl:vs.length=us.length)(hle:o+vs.length≤k.sz)
  (he:enc k x'=((enc k xs[i]).take o++vs.map V.weak)++(enc k xs[i]).drop (o+vs.length))
  (hv:∀(j:Nat) c cv,vs[j]? =some c→us[j]? =some cv→VRel g.I g.ρ s.hp.length w c cv):
  SR g (s.setObj id [.rw k (xs.set i x')]) (w.setCells (g.ρ id) (i*k.sz+o) us) a∧FR g s.hp w g (s.hp.set id (some [.rw k (xs.set i x')])) (w.setCells (g.ρ id) (i*k.sz+o) us):=by
 have hid:=aoJ ho
 obtain⟨arr,e,fz,hb,hsz,hok,hrel⟩:=yE h ho
 obtain⟨t1,t2,t3,t4⟩:=hok.typed k xs rfl
 obtain⟨⟨arr',q1,q2⟩,q3,q4,q5,q6,q7⟩:=ot (g.ρ id) us (i*k.sz+o) w arr e fz hb
 let w':=w.setCells (g.ρ id) (i*k.sz+o) us
 have hend:i*k.sz+k.sz≤arr.size:=by
  have:(i+1)*k.sz≤xs.length*k.sz:=Nat.mul_le_mul_right _ hi
  rw[Nat.add_mul,Nat.one_mul] at this
  omega
 have ilt:∀b j,g.I b j→b≠g.ρ id:=by
  rintro b j hi rfl
  exact h.hr.notI id _ hid j hi
 have cello:∀b j,g.I b j→w'.cell? ⟨b,j,none⟩=w.cell? ⟨b,j,none⟩:=by
  intro b j hi
  exact World.cell?_setCells_out _ _ _ w _ (fun e=>absurd e (ilt b j hi))
 have u:Up g.I g.ρ s.hp.length w g.I g.ρ s.hp.length w':=⟨fun _ _ h=>h,cello,fun _ _=>rfl,Nat.le_refl _⟩
 have okeep:∀occ v cv,aW g w occ v cv→aW g w' occ v cv:=by
  intro occ v cv hoo
  refine gE hoo rfl (fun b j hi=>⟨u.mono b j hi,u.cell b j hi⟩) ?_
  intro b hbo
  refine⟨hbo,q3 b ?_,fun j hj=>hj⟩
  rintro rfl
  rw[h.hr.notO id _ hid] at hbo
  simp at hbo
 have harr:∀j,arr'[j]? =if i*k.sz+o≤j∧j<i*k.sz+o+us.length then us[j-(i*k.sz+o)]? else arr[j]?:=by
  intro j
  rw[←bI q1 j]
  split
  ·rename_i hj
   have:=World.cell?_setCells_in (g.ρ id) us (i*k.sz+o) w (fun j' hj'=>by rw[bI hb,Array.getElem?_eq_getElem (by omega)];rfl) (j-(i*k.sz+o)) (by omega)
   rw[show i*k.sz+o+(j-(i*k.sz+o))=j by omega] at this
   rw[List.getElem?_eq_getElem (by omega)]
   exact this
  ·rename_i hj
   rw[World.cell?_setCells_out _ _ _ w _ (fun _ _=>by simp only;omega),bI hb]
 have hll:id<s.hp.length:=(List.getElem?_eq_some_iff.1 hid).1
 have split:∀(id':Nat) o',(s.hp.set id (some [V.rw k (xs.set i x')]))[id']? =some (some o')→(id'=id∧o'=[V.rw k (xs.set i x')])∨(id'≠id∧s.hp[id']? =some (some o')):=by
  intro id' o' hq
  rw[List.getElem?_set] at hq
  split at hq
  ·rename_i e
   simp[hll] at hq
   exact .inl ⟨e.symm,hq.symm⟩
  ·rename_i e
   exact .inr ⟨fun e'=>e e'.symm,hq⟩
 have old:∀(id':Nat) o',(s.hp.set id (some [V.rw k (xs.set i x')]))[id']? =some (some o')→∃o'',s.hp[id']? =some (some o''):=by
  intro id' o' hq
  rcases split id' o' hq with⟨rfl,_⟩|⟨_,hq⟩
  ·exact⟨_,hid⟩
  ·exact⟨_,hq⟩
 have hk0:0<k.sz:=by cases k<;>simp[EK.sz]
 have hxi:xs[i]? =some xs[i]:=List.getElem?_eq_getElem hi
 have hnew:∀(q:Nat) c cv,(cellsOf [V.rw k (xs.set i x')])[q]? =some c→arr'[q]? =some cv→VRel g.I g.ρ s.hp.length w' c cv:=by
  intro q c cv hc hcv
  simp only[cellsOf] at hc
  obtain⟨y,hy,hc⟩:=yD _ q c hc
  have hq:q / k.sz*k.sz+q%k.sz=q:=by rw[Nat.mul_comm];exact Nat.div_add_mod q k.sz
  have hr:q%k.sz<k.sz:=Nat.mod_lt _ hk0
  rw[harr] at hcv
  rw[List.getElem?_set] at hy
  split at hy
  ·rename_i e1
   rw[←e1] at hq
   simp only[hi,if_true,Option.some.injEq] at hy
   subst hy
   have hel:=dk k xs[i]
   have hg:=aoH (enc k xs[i]) (vs.map V.weak) o (by simp only[List.length_map];omega) (q%k.sz)
   simp only[List.length_map] at hg
   rw[he,hg] at hc
   split at hc
   ·rename_i hj
    rw[if_pos (by omega)] at hcv
    rw[List.getElem?_map,Option.map_eq_some_iff] at hc
    obtain⟨v,hv',rfl⟩:=hc
    rw[show q-(i*k.sz+o)=q%k.sz-o by omega] at hcv
    exact((hv _ v cv hv' hcv).weak).up u
   ·rename_i hj
    rw[if_neg (by omega)] at hcv
    exact(hrel i _ (q%k.sz) c cv hxi hc (by rw[hq];exact hcv)).up u
  ·rename_i e1
   rw[if_neg ?_] at hcv
   ·exact(hrel _ y (q%k.sz) c cv hy hc (by rw[hq];exact hcv)).up u
   ·intro hh
    rcases Nat.lt_or_ge (q / k.sz) i with h1|h1
    ·have:=yC h1 hr
     omega
    ·have h2:i<q / k.sz:=by omega
     have:(i+1)*k.sz≤q / k.sz*k.sz:=Nat.mul_le_mul_right _ h2
     rw[Nat.add_mul,Nat.one_mul] at this
     omega
 refine⟨⟨⟨?_,?_,?_,?_,?_,?_⟩,⟨h.er.size,?_,?_⟩⟩,⟨rfl,q5,q6,q7,by rw[q4];exact Nat.le_refl _,?_,?_,fun _ _ _ _ _ hi=>hi,fun _ _ _ hO=>hO,?_⟩⟩
 ·intro id' o' hq
  simp only[St.setObj,List.length_set]
  rcases split id' o' hq with⟨rfl,rfl⟩|⟨hne,hq⟩
  ·refine fv.ofRow (e:=e) q1 ⟨?_,(by intro hf;cases hf),?_,(fun j hj=>t1 j (Nat.lt_of_lt_of_le hj (by simp only[cellsOf,fK,List.length_set];exact hsz))),?_,hnew,?_,?_⟩ rfl
   ·simp only[cellsOf,fK,List.length_set,q2]
    exact hsz
   ·intro k2 ys hz
    simp only[List.cons.injEq,and_true] at hz
    cases hz
    exact⟨by rw[q2];exact t1,by rw[q2];exact t2,t3,t4⟩
   ·intro c hc
    simp only[cellsOf,List.mem_flatMap] at hc
    obtain⟨y,_,hc⟩:=hc
    exact ac4 k y c hc
   ·intro j c cv hc hcv
    have hm:=List.mem_of_getElem? hc
    simp only[cellsOf,List.mem_flatMap] at hm
    obtain⟨y,_,hm⟩:=hm
    exact xA (aoE k y c hm) _ _ _ _
   ·intro j E n hc
    simp only[cellsOf] at hc
    obtain⟨y,_,hc⟩:=yD _ j _ hc
    exact absurd hc (awx k y _ E n)
  ·refine(h.hr.obj id' o' hq).keep ?_ fun arr2 e2 fz2 k1 k2=>⟨k2.len,k2.plain,k2.typedUp rfl u.rho u.num rfl,k2.cold,k2.one,fun j c cv hc hcv=>(k2.rel j c cv hc hcv).up u,fun j c cv hc hcv=>okeep _ _ _ (k2.own j c cv hc hcv),k2.bn⟩
   rw[q3 _ (h.hr.apart id' id o' _ hq hid hne)]
 ·intro id1 id2 c1 c2 k1 k2 hne
  obtain⟨_,k1⟩:=old id1 c1 k1
  obtain⟨_,k2⟩:=old id2 c2 k2
  exact h.hr.apart _ _ _ _ k1 k2 hne
 ·intro id1 c1 k1
  obtain⟨_,k1⟩:=old id1 c1 k1
  exact h.hr.notI _ _ k1
 ·intro id1 c1 k1
  obtain⟨_,k1⟩:=old id1 c1 k1
  exact h.hr.notO _ _ k1
 ·intro b j hi
  rw[cello b j hi]
  exact h.hr.exI b j hi
 ·intro b oc hbo
  rw[q4]
  exact h.hr.oLt b oc hbo
 ·intro n v cv hq hcv
  simp only[St.setObj,List.length_set]
  exact(h.er.rel n v cv hq hcv).up u
 ·intro n v cv hq hcv
  exact okeep _ _ _ (h.er.own n v cv hq hcv)
 ·intro b _ hno _
  exact q3 b (fun e=>hno id _ hid e.symm)
 ·simp only[List.length_set]
  exact u
 ·intro id' o' hq
  obtain⟨o'',hq⟩:=old id' o' hq
  exact .inl ⟨o'',hq⟩
theorem aDZ{d:Nat}{k:EK}{x y:aR}(hβ:g.β=jM P)(hc:pT P (.apw d k x y) m=true)(hs:step Γ (.apw d k x y) s=some (true,s'))(h:SR g s w a)(hn:dR g s w a s' next):m.wp P a w next Q:=by
 obtain⟨dst,op,ty,pos,aft,gd⟩:=m
 simp only[pT,Bool.and_eq_true,beq_iff_eq] at hc
 obtain⟨rfl,hc⟩:=hc
 split at hc
 ·rename_i x' y' t u hop
  obtain rfl:=oB hop
  simp only[Bool.and_eq_true] at hc
  obtain⟨h1,h2,h3,h4⟩:=hc
  obtain⟨e,u1,e1⟩:=dT h1
  obtain⟨e',u2,e2⟩:=dT h2
  simp only[step] at hs
  split at hs
  ·rename_i k' l k0 id n hx hy
   split at hs
   ·rename_i k'' mm hrow
    split at hs
    ·rename_i hk
     subst hk
     split at hs
     ·rename_i hkk
      subst hkk
      simp only[Option.some.injEq,Prod.mk.injEq,Bool.and_eq_true,decide_eq_true_eq] at hs
      obtain⟨⟨hn',hfit⟩,rfl⟩:=hs
      obtain rfl:=Nat.eq_of_beq_eq_true hn'
      have r2:=bE h4 h.er
      rw[hy] at r2
      generalize hcy:a.eval y'=cy at r2
      obtain⟨arr,er,fz,hb,hsz,hok,hrel⟩:=yE h hrow
      have l1:(arr.toList.take (mm.length*k''.sz)).length=mm.length*k''.sz:=by simp;omega
      have l3:∀(i:Nat) x (j:Nat) v,mm[i]? =some x→(enc k'' x)[j]? =some v→∃u,(arr.toList.take (mm.length*k''.sz))[i*k''.sz+j]? =some u∧VRel g.I (fun _=>0) 0 w v u:=by
       intro i x j v hx hv
       have hj:j<k''.sz:=by
        have:=(List.getElem?_eq_some_iff.1 hv).1
        rwa [dk] at this
       have hlt:=yC (List.getElem?_eq_some_iff.1 hx).1 hj
       have ha:arr[i*k''.sz+j]? =some (arr[i*k''.sz+j]'(by omega)):=Array.getElem?_eq_getElem _
       refine⟨_,?_,ac5 hv (hrel i x j v _ hx hv ha)⟩
       rw[List.getElem?_take,if_pos hlt,Array.getElem?_toList]
       exact ha
      refine atY hβ h h3 hx u1 e1 (arr.toList.take (mm.length*k''.sz)) (ys:=mm) ?_ l3 hfit hn
      rw[hcy]
      cases r2 with
      |sw _ _ _ hid hcap hmax=>
       have hone:∀v∈arr.toList.take (mm.length*k''.sz),v.oneCell'=true:=by
        intro v hv
        obtain⟨j,hj,rfl⟩:=List.mem_iff_getElem.1 hv
        have hk0:0<k''.sz:=by cases k''<;>simp[EK.sz]
        have hjl:j<mm.length*k''.sz:=by rw[←l1];exact hj
        have hi:j / k''.sz<mm.length:=Nat.div_lt_of_lt_mul (by rw[Nat.mul_comm];exact hjl)
        have hr:j%k''.sz<k''.sz:=Nat.mod_lt _ hk0
        have hx:mm[j / k''.sz]? =some mm[j / k''.sz]:=List.getElem?_eq_getElem hi
        have hlen:j%k''.sz<(enc k'' mm[j / k''.sz]).length:=by rw[dk];exact hr
        obtain⟨u,q1,q2⟩:=l3 _ _ (j%k''.sz) _ hx (List.getElem?_eq_getElem hlen)
        rw[show j / k''.sz*k''.sz+j%k''.sz=j by rw[Nat.mul_comm];exact Nat.div_add_mod j k''.sz,List.getElem?_eq_getElem hj] at q1
        obtain rfl:=Option.some.inj q1
        exact q2.oneCell (ac4 _ _ _ (List.getElem_mem hlen))
       exact _root_.Go.Src.ofSlice w u2 _ _ _ _ l1 (by
        intro j v hj
        rw[Addr.add_lit,Nat.zero_add,bI hb]
        rw[List.getElem?_take] at hj
        split at hj
        ·simpa using hj
        ·simp at hj) hone
     ·simp at hs
    ·simp at hs
   ·simp at hs
  ·simp at hs
 ·simp at hc
theorem aD0{d:Option Nat}{n:Nat}{x v:aR}(hc:pT P (.stw d n x v) m=true)(hs:step Γ (.stw d n x v) s=some (true,s'))(h:SR g s w a)(hn:dR g s w a s' next):m.wp P a w next Q:=by
 obtain⟨dst,op,ty,pos,aft,gd⟩:=m
 simp only[pT,Bool.and_eq_true,beq_iff_eq] at hc
 obtain⟨rfl,hc⟩:=hc
 split at hc
 ·rename_i t x' v'
  simp only[Bool.and_eq_true,beq_iff_eq] at hc
  obtain⟨h1,h2,h3⟩:=hc
  have r1:=bE h2 h.er
  have r2:=bE h3 h.er
  simp only[step] at hs
  split at hs
  ·rename_i id k i o hx
   split at hs
   ·rename_i k' xs ho
    split at hs
    ·rename_i hcond
     obtain⟨rfl,hle,hcond⟩:=hcond
     simp only[Bool.and_eq_true,beq_iff_eq] at hcond
     obtain⟨hln,hone⟩:=hcond
     split at hs
     ·rename_i x2 hel
      simp only[Option.some.injEq,Prod.mk.injEq,decide_eq_true_eq] at hs
      obtain⟨hi,rfl⟩:=hs
      have hd:xs.getD i (aC k')=xs[i]:=by simp[List.getD,List.getElem?_eq_getElem hi]
      rw[hd] at hel
      rw[hx] at r1
      generalize hcx:a.eval x'=cx at r1
      cases r1 with
      |wp _ _ _ _ hid=>
       obtain⟨arr,e,fz,hb,hsz,hok,hrel⟩:=yE h ho
       obtain⟨c1,c2,c3⟩:=aeD r2 hone
       have hsz2:(a.eval v').cells.size=n:=by rw[←c1];exact hln
       have hend:i*k'.sz+k'.sz≤arr.size:=by
        have:(i+1)*k'.sz≤xs.length*k'.sz:=Nat.mul_le_mul_right _ hi
        rw[Nat.add_mul,Nat.one_mul] at this
        omega
       have hrun:(execOp a.eval ⟨dst,.store t x' v',ty,pos,aft,gd⟩).run P w=.ok .skip (w.setCells (g.ρ id) (i*k'.sz+o) (a.eval v').cells.toList):=by
        have:=run_storeCells_cells (P:=P) (g.ρ id) (i*k'.sz+o) (a.eval v').cells.toList 0 w
         (fun j hj=>by rw[bI hb,Array.getElem?_eq_getElem (by simp at hj;omega)];rfl)
         (fun j hj=>by
          have hc:=(hok.typed k' xs rfl).1 (i*k'.sz+o+j) (by simp at hj;omega)
          simp[World.frozen?,hb]
          omega)
         (fun u hu=>by
          obtain⟨j,hj,rfl⟩:=List.mem_iff_getElem.1 hu
          have hj':j<(v.ev s).cells.length:=by rw[c1];simpa using hj
          exact(c3 j _ _ (List.getElem?_eq_getElem hj') (by simp)).oneCell (c2 _ (List.getElem_mem hj')))
        simp[execOp,hcx,Instr.storeAt,Instr.sureAddr,storeVar,xR h1,hsz2,this]
       have hxr:∀c∈enc k' xs[i],c.inRange:=by
        intro c hc
        obtain⟨j,hj,rfl⟩:=List.mem_iff_getElem.1 hc
        have hj':j<k'.sz:=by rwa [dk] at hj
        exact(hrel i _ j _ _ (List.getElem?_eq_getElem hi) (List.getElem?_eq_getElem hj) (Array.getElem?_eq_getElem (show i*k'.sz+j<arr.size by omega))).inRange
       have hvr:∀c∈(v.ev s).cells,c.inRange:=by
        intro c hc
        obtain⟨j,hj,rfl⟩:=List.mem_iff_getElem.1 hc
        exact(c3 j _ _ (List.getElem?_eq_getElem hj) (Array.getElem?_eq_getElem (show j<(a.eval v').cells.size by omega))).inRange
       obtain⟨p1,p2⟩:=h.putElt (o:=o) (us:=(a.eval v').cells.toList) ho hi (by simpa using c1) (by omega) (az4 hel hxr hvr) (fun j c cv hc hcv=>c3 j c cv hc (by simpa using hcv))
       unfold Oper.wp Oper.upon
       rw[hrun]
       cases dst with
       |none=>exact hn _ _ g p1 p2 rfl
       |some d=>exact hn _ _ g (p1.set d (.undef _) (by simp[aW])) p2 rfl
     ·simp at hs
    ·simp at hs
   ·simp at hs
  ·simp at hs
 ·simp at hc
end
end Go.AM
end
noncomputable section
namespace Go.AM
set_option autoImplicit false
set_option linter.unusedSimpArgs false
set_option linter.unusedVariables false
section
variable{w:World}{g g':Gh}{s s':St}{a:Act}
theorem SR.fillSlot(h:SR g s w a)(n:Nat){v:V}(hv:VRel g.I g.ρ s.hp.length w v (a.tmps.getD n undef))(ho:aW g w (.slot n) v (a.tmps.getD n undef)):SR g (s.set n v) w a:=
 ⟨h.hr,h.er.put' n hv ho⟩
theorem SR.fillCell(h:SR g s w a){id o:Nat}{cs:List V}(ho:s.obj id=some cs)(hlo:o<cs.length){arr:Array Value}{e:TypeId}(hb:w.heap[g.ρ id]? =some (.cells arr e (0,0))){v:V}{cv:Value}
  (hcv:arr[o]? =some cv) (h1:v.one=true) (hnb:ada v=true) (hv:VRel g.I g.ρ s.hp.length w v cv) (hown:aW g w (.cell id o) v cv):
  SR g (s.setObj id (cs.set o v)) w a∧FR g s.hp w g (s.hp.set id (some (cs.set o v))) w:=by
 obtain⟨hid,hrow⟩:=kD ho
 have hlt:id<s.hp.length:=(List.getElem?_eq_some_iff.1 hid).1
 let cs':=cs.set o v
 have split:∀(id':Nat) o',(s.hp.set id (some cs'))[id']? =some (some o')→(id'=id∧o'=cs')∨(id'≠id∧s.hp[id']? =some (some o')):=by
  intro id' o' hq
  rw[List.getElem?_set] at hq
  split at hq
  ·rename_i e
   simp[hlt] at hq
   exact .inl ⟨e.symm,hq.symm⟩
  ·rename_i e
   exact .inr ⟨fun e'=>e e'.symm,hq⟩
 have old:∀(id':Nat) o',(s.hp.set id (some cs'))[id']? =some (some o')→∃o'',s.hp[id']? =some (some o''):=by
  intro id' o' hq
  rcases split id' o' hq with⟨rfl,_⟩|⟨_,hq⟩
  ·exact⟨cs,hid⟩
  ·exact⟨_,hq⟩
 have hget:∀(j:Nat) c,cs'[j]? =some c→(j=o∧c=v)∨(j≠o∧cs[j]? =some c):=by
  intro j c hc
  simp only[cs',List.getElem?_set] at hc
  split at hc
  ·rename_i e
   simp only[hlo,if_true,Option.some.injEq] at hc
   exact .inl ⟨e.symm,hc.symm⟩
  ·rename_i e
   exact .inr ⟨fun e'=>e e'.symm,hc⟩
 refine⟨⟨⟨?_,?_,?_,?_,h.hr.exI,h.hr.oLt⟩,⟨h.er.size,?_,h.er.own⟩⟩,⟨rfl,rfl,rfl,rfl,Nat.le_refl _,fun _ _ _ _=>rfl,?_,fun _ _ _ _ _ hi=>hi,fun _ _ _ hO=>hO,?_⟩⟩
 ·intro id' o' hq
  simp only[St.setObj,List.length_set]
  rcases split id' o' hq with⟨rfl,rfl⟩|⟨hne,hq⟩
  ·obtain⟨arr2,e2,hb2,hok⟩:=xS h.hr ho
   rw[hb] at hb2
   cases hb2
   refine fv.ofRow0 hb ⟨by simp[cs',hok.len],?_,?_,?_,?_⟩
   ·intro c hc
    obtain⟨j,hj,rfl⟩:=List.mem_iff_getElem.1 hc
    rcases hget j _ (List.getElem?_eq_getElem hj) with⟨_,k2⟩|⟨_,k2⟩
    ·rw[k2];exact h1
    ·exact hok.one _ (List.mem_of_getElem? k2)
   ·intro j c cv' hc hcv'
    rcases hget j _ hc with⟨rfl,rfl⟩|⟨_,k2⟩
    ·rw[hcv] at hcv'
     obtain rfl:=Option.some.inj hcv'
     exact hv
    ·exact hok.rel j c cv' k2 hcv'
   ·intro j c cv' hc hcv'
    rcases hget j _ hc with⟨rfl,rfl⟩|⟨_,k2⟩
    ·rw[hcv] at hcv'
     obtain rfl:=Option.some.inj hcv'
     exact hown
    ·exact hok.own j c cv' k2 hcv'
   ·intro j E n hc
    rcases hget j _ hc with⟨rfl,k2⟩|⟨_,k2⟩
    ·rw[←k2] at hnb
     simp[ada] at hnb
    ·exact hok.bn j E n k2
  ·exact h.hr.obj id' o' hq
 ·intro id1 id2 c1 c2 k1 k2 hne
  obtain⟨_,k1⟩:=old id1 c1 k1
  obtain⟨_,k2⟩:=old id2 c2 k2
  exact h.hr.apart _ _ _ _ k1 k2 hne
 ·intro id1 c1 k1
  obtain⟨_,k1⟩:=old id1 c1 k1
  exact h.hr.notI _ _ k1
 ·intro id1 c1 k1
  obtain⟨_,k1⟩:=old id1 c1 k1
  exact h.hr.notO _ _ k1
 ·intro n v cv hq hcv
  simp only[St.setObj,List.length_set]
  exact h.er.rel n v cv hq hcv
 ·simp only[List.length_set]
  exact Up.refl _ _ _ _
 ·intro id' o' hq
  obtain⟨o'',hq⟩:=old id' o' hq
  exact .inl ⟨o'',hq⟩
def tT(g:Gh)(s:St)(w:World)(a:Act)(o:Occ)(cv:Value):Prop:=
 match o with
 | .slot n=>a.tmps.getD n undef=cv
 | .cell id j=>∃cs arr e,s.obj id=some cs∧j<cs.length∧w.heap[g.ρ id]? =some (.cells arr e (0,0))∧arr[j]? =some cv
 | .res=>False
theorem ar3(h:SR g s w a){o:Occ}{v:V}(hat:s.at? o=v)(hne:v≠.undef):∃cv,tT g s w a o cv∧VRel g.I g.ρ s.hp.length w v cv∧aW g w o v cv:=by
 cases o with
 |slot n=>
  simp only[St.at?] at hat
  subst hat
  exact⟨_,rfl,h.er.get n,h.er.getOwn n⟩
 |cell id j=>
  simp only[St.at?] at hat
  cases ho:s.obj id with
  |none=>rw[ho] at hat;exact absurd hat.symm hne
  |some cs=>
   rw[ho] at hat
   simp only at hat
   obtain⟨arr,e,hb,hok⟩:=xS h.hr ho
   have hj:j<cs.length:=by
    rcases Nat.lt_or_ge j cs.length with hj|hj
    ·exact hj
    ·rw[List.getD,List.getElem?_eq_none hj] at hat
     exact absurd hat.symm hne
   have hc:cs[j]? =some v:=by
    rw[←hat,List.getD,List.getElem?_eq_getElem hj]
    rfl
   have hlen:=hok.len
   have ha:arr[j]? =some (arr[j]'(by omega)):=Array.getElem?_eq_getElem _
   exact⟨_,⟨cs,arr,e,ho,hj,hb,ha⟩,hok.rel j v _ hc ha,hok.own j v _ hc ha⟩
 |res=>
  simp only[St.at?] at hat
  exact absurd hat.symm hne
theorem SR.fill(h:SR g s w a){o:Occ}{cv:Value}(hl:tT g s w a o cv){v:V}(h1:v.one=true)(hnb:ada v=true)(hv:VRel g.I g.ρ s.hp.length w v cv)(hown:aW g w o v cv):
  SR g (s.put? o v) w a∧FR g s.hp w g (s.put? o v).hp w∧(s.put? o v).hp.length=s.hp.length∧tT g (s.put? o v) w a o cv:=by
 cases o with
 |slot n=>
  simp only[tT] at hl
  subst hl
  exact⟨h.fillSlot n hv hown,FR.refl _ _ _,rfl,rfl⟩
 |cell id j=>
  obtain⟨cs,arr,e,ho,hj,hb,ha⟩:=hl
  obtain⟨p1,p2⟩:=h.fillCell ho hj hb ha h1 hnb hv hown
  have he:s.put? (.cell id j) v=s.setObj id (cs.set j v):=by simp only[St.put?,ho]
  rw[he]
  refine⟨p1,p2,by simp[St.setObj],cs.set j v,arr,e,?_,by simpa using hj,hb,ha⟩
  obtain⟨hid,hrow⟩:=kD ho
  have hlt:id<s.hp.length:=(List.getElem?_eq_some_iff.1 hid).1
  have hmm:uK (cs.set j v)=false:=by
   cases hm:uK (cs.set j v) with
   |false=>rfl
   |true=>
    obtain⟨k,es,he⟩:=ahZ hm
    match cs,hj with
    | [c],hj=>
      have:j=0:=by simpa using hj
      subst this
      simp only[List.set,List.cons.injEq,and_true] at he
      subst he
      simp[V.one] at h1
    |c::c'::cs,hj=>
     have:=congrArg List.length he
     simp at this
  obtain⟨arr2,e2,fz2,hb2,hok2⟩:=(p1.hr.obj id (cs.set j v) (by simp[St.setObj,hlt])).row hmm
  have hr:gf (cs.set j v)=false:=by
   unfold gf at hrow ⊢
   match cs,hj,hrow with
   | [c],hj,hrow=>
     have:j=0:=by simpa using hj
     subst this
     simp only[List.set]
     split
     ·rename_i heq;cases heq;simp[V.one] at h1
     ·rename_i heq;cases heq;simp[V.one] at h1
     ·rfl
   |c::c'::cs,hj,hrow=>
    split
    ·rename_i heq
     cases j with
     |zero=>simp at heq
     |succ j=>cases j<;>simp at heq
    ·rename_i heq
     cases j with
     |zero=>simp at heq
     |succ j=>cases j<;>simp at heq
    ·rfl
  unfold St.obj
  simp only[St.setObj,List.getD,List.getElem?_set,hlt,if_true,Option.getD_some]
  unfold gf at hr
  split<;>rename_i heq
  ·simp only[Option.some.injEq] at heq;rw[heq] at hr;simp at hr
  ·simp only[Option.some.injEq] at heq;rw[heq] at hr;simp at hr
  ·simp only[Option.some.injEq] at heq;rw[heq] at hmm;simp[uK] at hmm
  ·rfl
 |res=>exact absurd hl (by simp[tT])
theorem aA1{o:Occ}{cv:Value}{v:V}(hl:tT g s w a o cv)(h1:v.one=true)(hb:v.bare=true):yA (some o) (s.put? o v):=by
 cases o with
 |slot n=>
  intro u hu
  simp only[St.put?,St.set,List.getElem?_set,if_true] at hu
  split at hu
  ·cases Option.some.inj hu;exact hb
  ·simp at hu
 |cell id j=>
  obtain⟨cs,arr,e,ho,hj,_,_⟩:=hl
  obtain⟨hid,hrow⟩:=kD ho
  have hlt:id<s.hp.length:=(List.getElem?_eq_some_iff.1 hid).1
  intro cs2 u h2 hu
  simp only[St.put?,ho,St.setObj,List.getElem?_set,hlt,if_true,Option.some.injEq] at h2
  subst h2
  simp only[List.getElem?_set,hj,if_true,Option.some.injEq] at hu
  subst hu;exact hb
 |res=>trivial
theorem ap4{s:St}{id:Nat}{cs:List V}(ho:s.obj id=some cs)(l:List aJ):({s with hp:=s.hp++l}:St).obj id=some cs:=by
 obtain⟨hid,_⟩:=kD ho
 have hlt:id<s.hp.length:=(List.getElem?_eq_some_iff.1 hid).1
 unfold St.obj at ho ⊢
 simp only[List.getD] at ho ⊢
 rw[List.getElem?_append_left hlt]
 exact ho
theorem SR.addRow(h:SR g s w a){k:EK}{xs:List (Ty k)}{b cap:Nat}{arr:Array Value}{e:TypeId}{fz:Nat×Nat}(h0:akP fz arr.size)(h2:xs.length≤cap)(h5:w.heap[b]? =some (.cells arr e fz))(h6:cap*k.sz≤arr.size)(h7:k=.u8→e=g.β)
  (h8:∀j,¬g.I b j) (h4:g.O b=none) (hno:∀(id:Nat) cs,s.hp[id]? =some (some cs)→g.ρ id≠b)
  (h9:∀(i:Nat) x (j:Nat) v u,xs[i]? =some x→(enc k x)[j]? =some v→arr[i*k.sz+j]? =some u→VRel g.I (fun _=>0) 0 w v u):
  SR {g with ρ:=fun id=>if id=s.hp.length then b else if id=s.hp.length+1 then cap else g.ρ id} {s with hp:=s.hp++[some [.rw k xs],none]} w a:=by
 let g':Gh:={g with ρ:=fun id=>if id=s.hp.length then b else if id=s.hp.length+1 then cap else g.ρ id}
 have rhoOld:∀id,id<s.hp.length→g'.ρ id=g.ρ id:=fun id hid=>by
  simp only[g']
  rw[if_neg (by omega),if_neg (by omega)]
 have rhoNew:g'.ρ s.hp.length=b:=by simp[g']
 have rhoCap:g'.ρ (s.hp.length+1)=cap:=by simp[g']
 have u:Up g.I g.ρ s.hp.length w g'.I g'.ρ (s.hp++[some [V.rw k xs],none]).length w:=⟨fun _ _ hi=>hi,fun _ _ _=>rfl,rhoOld,by simp⟩
 have okeep:∀occ v cv,aW g w occ v cv→aW g' w occ v cv:=fun occ v cv ho=>gE ho rfl (fun b j hi=>⟨hi,rfl⟩) (fun b hb=>⟨hb,rfl,fun j hj=>hj⟩)
 have split:∀(id:Nat) o,(s.hp++[some [V.rw k xs],none])[id]? =some (some o)→(id<s.hp.length∧s.hp[id]? =some (some o))∨(id=s.hp.length∧o=[V.rw k xs]):=by
  intro id o hid
  rcases Nat.lt_or_ge id s.hp.length with hi|hi
  ·rw[List.getElem?_append_left hi] at hid
   exact .inl ⟨hi,hid⟩
  ·rw[List.getElem?_append_right hi] at hid
   match hq:id-s.hp.length,hid with
   |0,hid=>simp at hid;exact .inr ⟨by omega,hid.symm⟩
   |1,hid=>simp at hid
   |n+2,hid=>simp at hid
 have hlen:xs.length*k.sz≤arr.size:=Nat.le_trans (Nat.mul_le_mul_right _ h2) h6
 refine⟨⟨?_,?_,?_,?_,h.hr.exI,h.hr.oLt⟩,⟨h.er.size,fun n v cv hv hcv=>(h.er.rel n v cv hv hcv).up u,fun n v cv hv hcv=>okeep _ _ _ (h.er.own n v cv hv hcv)⟩⟩
 ·intro id o hid
  rcases split id o hid with⟨hi,hid⟩|⟨rfl,rfl⟩
  ·refine(h.hr.obj id o hid).keep (by rw[rhoOld id hi]) fun arr' e' fz k1 k2=>?_
   refine⟨k2.len,k2.plain,k2.typedUp rfl u.rho u.num rfl,k2.cold,k2.one,fun j c cv hc hcv=>(k2.rel j c cv hc hcv).up u,fun j c cv hc hcv=>okeep _ _ _ (k2.own j c cv hc hcv),by rw[rhoOld id hi];exact k2.bn⟩
  ·refine fv.ofRow (e:=e) (by rw[rhoNew];exact h5) ⟨by simp only[cellsOf,fK];exact hlen,(by intro hf;cases hf),?_,(fun j hj=>h0 j (Nat.lt_of_lt_of_le hj (by simp only[cellsOf,fK];exact hlen))),?_,?_,?_,?_⟩ rfl
   ·intro k2 ys hz
    simp only[List.cons.injEq,and_true] at hz
    cases hz
    exact⟨h0,by rw[rhoCap];exact h6,by simp,h7⟩
   ·intro c hc
    simp only[cellsOf,List.mem_flatMap] at hc
    obtain⟨y,_,hc⟩:=hc
    exact ac4 k y c hc
   ·intro j c cv hc hcv
    simp only[cellsOf] at hc
    obtain⟨y,hy,hc⟩:=yD _ j _ hc
    exact ac5 hc (h9 _ y _ c cv hy hc (by rw[show j / k.sz*k.sz+j%k.sz=j by rw[Nat.mul_comm];exact Nat.div_add_mod j k.sz];exact hcv))
   ·intro j c cv hc hcv
    have hm:=List.mem_of_getElem? hc
    simp only[cellsOf,List.mem_flatMap] at hm
    obtain⟨y,_,hm⟩:=hm
    exact xA (aoE k y c hm) _ _ _ _
   ·intro j E n hc
    simp only[cellsOf] at hc
    obtain⟨y,_,hc⟩:=yD _ j _ hc
    exact absurd hc (awx k y _ E n)
 ·intro id id' o o' k1 k2 hne
  rcases split id o k1 with⟨hi,m1⟩|⟨e1, -⟩<;>rcases split id' o' k2 with⟨hi',m2⟩|⟨e2, -⟩
  ·rw[rhoOld _ hi,rhoOld _ hi']
   exact h.hr.apart id id' o o' m1 m2 hne
  ·rw[rhoOld _ hi,e2,rhoNew]
   exact hno id o m1
  ·rw[rhoOld _ hi',e1,rhoNew]
   exact(hno id' o' m2).symm
  ·exact absurd (e1.trans e2.symm) hne
 ·intro id o hid j hi
  rcases split id o hid with⟨hlt,hid⟩|⟨rfl,rfl⟩
  ·rw[rhoOld _ hlt] at hi
   exact h.hr.notI id o hid j hi
  ·rw[rhoNew] at hi
   exact h8 j hi
 ·intro id o hid
  rcases split id o hid with⟨hlt,hid⟩|⟨rfl,rfl⟩
  ·rw[rhoOld _ hlt]
   exact h.hr.notO id o hid
  ·rw[rhoNew]
   exact h4
theorem az5{s:St}{o:Occ}{cv:Value}(hl:tT g s w a o cv)(v:V)(l:List aJ):({s with hp:=s.hp++l}:St).put? o v={s.put? o v with hp:=(s.put? o v).hp++l}:=by
 cases o with
 |slot n=>rfl
 |cell id j=>
  obtain⟨cs,arr,e,ho,hj,_,_⟩:=hl
  obtain⟨hid,_⟩:=kD ho
  have hlt:id<s.hp.length:=(List.getElem?_eq_some_iff.1 hid).1
  simp only[St.put?,ho,ap4 ho l,St.setObj]
  rw[List.set_append_left _ _ hlt]
 |res=>rfl
theorem azy{s:St}{o:Occ}{cv:Value}(hl:tT g s w a o cv){u:V}(h1:u.one=true)(hl':tT g (s.put? o u) w a o cv)(v:V):(s.put? o u).put? o v=s.put? o v:=by
 cases o with
 |slot n=>simp[St.put?,St.set]
 |cell id j=>
  obtain⟨cs,arr,e,ho,hj,_,_⟩:=hl
  obtain⟨cs2,arr2,e2,ho2,hj2,_,_⟩:=hl'
  obtain⟨hid,_⟩:=kD ho
  have hlt:id<s.hp.length:=(List.getElem?_eq_some_iff.1 hid).1
  have he:s.put? (.cell id j) u=s.setObj id (cs.set j u):=by simp only[St.put?,ho]
  rw[he] at ho2 ⊢
  obtain⟨h3,_⟩:=kD ho2
  simp only[St.setObj,List.getElem?_set,hlt,if_true,Option.some.injEq] at h3
  subst h3
  simp only[St.put?]
  rw[ho2,ho]
  simp only[St.setObj,List.set_set]
 |res=>rfl
theorem tT.append{s:St}{o:Occ}{cv:Value}(hl:tT g s w a o cv)(h:∀id,id<s.hp.length→g'.ρ id=g.ρ id)(l:List aJ):tT g' {s with hp:=s.hp++l} w a o cv:=by
 cases o with
 |slot n=>exact hl
 |cell id j=>
  obtain⟨cs,arr,e,ho,hj,hb,ha⟩:=hl
  obtain⟨hid,_⟩:=kD ho
  have hlt:id<s.hp.length:=(List.getElem?_eq_some_iff.1 hid).1
  exact⟨cs,arr,e,ap4 ho l,hj,by rw[h id hlt];exact hb,ha⟩
 |res=>exact hl
theorem aA2(h:SR g s w a){o:Occ}(hs:(abM.opn o).step s=some (true,s')):∃g',SR g' s' w a∧FR g s.hp w g' s'.hp w:=by
 simp only[abM.step] at hs
 split at hs
 ·rename_i k xs hat
  simp only[Option.some.injEq,Prod.mk.injEq,decide_eq_true_eq] at hs
  obtain⟨hpos,rfl⟩:=hs
  obtain⟨cv,hl,hv,ho⟩:=ar3 h hat (by simp)
  rcases ho with⟨rfl,_⟩|⟨b,cap,arr,e,fz,h0,rfl,h2,h3,h4,h5,h6,h7,h8,h9⟩
  ·simp at hpos
  ·have hmax:xs.length≤eu:=Nat.le_trans h2 h3
   obtain⟨p1,p2,p3,p4⟩:=h.fill hl (v:=.hd xs.length) rfl rfl (.hd _ _ _ hmax) (by simp[aW])
   have hbar:yA (some o) (s.put? o (.hd xs.length)):=aA1 hl rfl rfl
   let s1:=s.put? o (.hd xs.length)
   let g1:Gh:={g with O:=fun b'=>if b'=b then none else g.O b'}
   have hno:∀(id:Nat) cs,s1.hp[id]? =some (some cs)→g.ρ id≠b:=by
    intro id cs hid e'
    have:=p1.hr.notO id cs hid
    rw[e',h4] at this
    simp at this
   have k1:SR g1 s1 w a:=by
    refine p1.keep (some o) hbar rfl (Up.refl _ _ _ _) ?_ ?_ h.hr.exI ?_
    ·intro occ b' hb' hne
     have hbb:b'≠b:=by
      rintro rfl
      rw[h4] at hb'
      exact hne hb'
     exact⟨by simp[g1,hbb,hb'],rfl,fun j hj=>hj⟩
    ·intro id cs hid
     exact⟨rfl,by simp[g1,hno id cs hid,p1.hr.notO id cs hid],fun j hj=>hj⟩
    ·intro b' o' hb'
     simp only[g1] at hb'
     split at hb'
     ·simp at hb'
     ·exact h.hr.oLt _ _ hb'
   have k2:=k1.addRow (b:=b) (cap:=cap) h0 h2 h5 h6 h7 h8 (by simp[g1]) hno h9
   let g2:Gh:={g1 with ρ:=fun id=>if id=s1.hp.length then b else if id=s1.hp.length+1 then cap else g1.ρ id}
   let s2:St:={s1 with hp:=s1.hp++[some [.rw k xs],none]}
   have hrho:∀id,id<s1.hp.length→g2.ρ id=g.ρ id:=fun id hid=>by
    simp only[g2]
    rw[if_neg (by omega),if_neg (by omega)]
   have hl2:tT g2 s2 w a o (.slice (some ⟨b,0,none⟩) xs.length cap):=tT.append (g:=g) p4 hrho _
   have hsw:VRel g2.I g2.ρ s2.hp.length w (.sw k s1.hp.length xs.length) (.slice (some ⟨b,0,none⟩) xs.length cap):=by
    have hr1:g2.ρ (s1.hp.length+1)=cap:=by simp[g2]
    have hr0:g2.ρ s1.hp.length=b:=by simp[g2]
    have:=VRel.sw (I:=g2.I) (ρ:=g2.ρ) (N:=s2.hp.length) (w:=w) k s1.hp.length xs.length (by simp[s2]) (by rw[hr1];exact h2) (by rw[hr1];exact h3)
    rw[hr1,hr0] at this
    exact this
   obtain⟨q1,q2,q3,q4⟩:=SR.fill (g:=g2) (s:=s2) k2 hl2 (v:=.sw k s1.hp.length xs.length) rfl rfl hsw (by simp[aW])
   have hlen:s1.hp.length=s.hp.length:=p3
   have hput:s2.put? o (.sw k s1.hp.length xs.length)={s.put? o (.sw k s.hp.length xs.length) with hp:=(s.put? o (.sw k s.hp.length xs.length)).hp++[some [.rw k xs],none]}:=by
    have e1:=az5 (g:=g) (w:=w) (a:=a) p4 (.sw k s1.hp.length xs.length) [some [.rw k xs],none]
    rw[azy hl rfl p4] at e1
    rw[hlen] at e1
    show ({s1 with hp:=s1.hp++[some [.rw k xs],none]}:St).put? o (.sw k s1.hp.length xs.length)=_
    rw[hlen]
    exact e1
   rw[hput] at q1 q2
   refine⟨g2,q1,?_⟩
   refine p2.trans (FR.trans (g₁:=g2) (hp₁:=s2.hp) (w₁:=w) ?_ q2)
   refine⟨rfl,rfl,rfl,rfl,Nat.le_refl _,fun _ _ _ _=>rfl,⟨fun _ _ hi=>hi,fun _ _ _=>rfl,hrho,by simp[s2,s1]⟩,fun _ _ _ _ _ hi=>hi,?_,?_⟩
   ·intro b' _ _ hO
    show (if b'=b then none else g.O b')=none
    split
    ·rfl
    ·exact hO
   ·intro id cs hid
    rcases Nat.lt_or_ge id s1.hp.length with hi|hi
    ·left
     have:s2.hp[id]? =s1.hp[id]?:=by simp only[s2];rw[List.getElem?_append_left hi]
     rw[this] at hid
     exact⟨cs,hid⟩
    ·right
     refine⟨hi,.inr (.inl ?_)⟩
     have hid':id=s1.hp.length:=by
      simp only[s2] at hid
      rw[List.getElem?_append_right hi] at hid
      match hq:id-s1.hp.length,hid with
      |0,_=>omega
      |1,hid=>simp at hid
      |n+2,hid=>simp at hid
     subst hid'
     have:g2.ρ s1.hp.length=b:=by simp[g2]
     rw[this,h4]
     simp
 ·obtain rfl:s=s':=by simpa using hs
  exact⟨g,h,FR.refl _ _ _⟩
theorem aA3(h:SR g s w a){o:Occ}(hs:(abM.cls o).step s=some (true,s')):∃g',SR g' s' w a∧FR g s.hp w g' s'.hp w:=by
 simp only[abM.step] at hs
 split at hs
 ·rename_i k id n hat
  split at hs
  ·rename_i k' xs ho
   split at hs
   ·rename_i hk
    subst hk
    simp only[Option.some.injEq,Prod.mk.injEq] at hs
    obtain⟨hn,rfl⟩:=hs
    obtain rfl:=Nat.eq_of_beq_eq_true hn
    obtain⟨cv,hl,hv, -⟩:=ar3 h hat (by simp)
    obtain⟨arr,e,fz,hb,hsz,hok,hrel⟩:=yE h ho
    obtain⟨t1,t2,t3,t4⟩:=hok.typed k' xs rfl
    have hid:=aoJ ho
    cases hv with
    |sw _ _ _ hN hc hm=>
    obtain⟨p1,p2,p3,p4⟩:=h.fill hl (v:=.hd xs.length) rfl rfl (.hd _ _ _ (Nat.le_trans hc hm)) (by simp[aW])
    let s1:=s.put? o (.hd xs.length)
    have hid1:s1.hp[id]? =some (some [.rw k' xs]):=by
     cases o with
     |slot n=>exact hid
     |cell id' j=>
      obtain⟨cs,arr',e',ho',hj,_,_⟩:=hl
      have hne:id'≠id:=by
       rintro rfl
       obtain⟨h1,h2⟩:=kD ho'
       rw[hid] at h1
       cases h1
       simp[gf] at h2
      simp only[s1,St.put?,ho',St.setObj]
      rw[List.getElem?_set_ne hne]
      exact hid
     |res=>exact absurd hl (by simp[tT])
    let g1:Gh:={g with O:=fun b'=>if b'=g.ρ id then some o else g.O b'}
    let s2:St:={s1 with hp:=s1.hp.set id none}
    have sub:∀(i:Nat) cs,s2.hp[i]? =some (some cs)→i≠id∧s1.hp[i]? =some (some cs):=by
     intro i cs hi
     simp only[s2,List.getElem?_set] at hi
     split at hi
     ·split at hi<;>simp at hi
     ·rename_i hne;exact⟨fun e=>hne e.symm,hi⟩
    have hbO:g.O (g.ρ id)=none:=p1.hr.notO id _ hid1
    have okeep:∀occ v cv,aW g w occ v cv→aW g1 w occ v cv:=by
     intro occ v cv hoo
     refine gE hoo rfl (fun b j hi=>⟨hi,rfl⟩) ?_
     intro b hb'
     refine⟨?_,rfl,fun j hj=>hj⟩
     have:b≠g.ρ id:=by rintro rfl;rw[hbO] at hb';simp at hb'
     simp[g1,this,hb']
    have hlen:s2.hp.length=s1.hp.length:=by simp[s2]
    have k1:SR g1 s2 w a:=by
     refine⟨⟨?_,?_,?_,?_,p1.hr.exI,?_⟩,⟨p1.er.size,fun m v cv hv hcv=>by rw[hlen];exact p1.er.rel m v cv hv hcv,fun m v cv hv hcv=>okeep _ _ _ (p1.er.own m v cv hv hcv)⟩⟩
     ·intro i cs hi
      obtain⟨hne,hi⟩:=sub i cs hi
      refine(p1.hr.obj i cs hi).keep rfl fun arr' e' fz m1 m2=>?_
      rw[hlen]
      exact⟨m2.len,m2.plain,m2.typed,m2.cold,m2.one,m2.rel,fun j c cv hc hcv=>okeep _ _ _ (m2.own j c cv hc hcv),m2.bn⟩
     ·intro i i' cs cs' h1 h2 hne
      exact p1.hr.apart i i' cs cs' (sub i cs h1).2 (sub i' cs' h2).2 hne
     ·intro i cs hi
      exact p1.hr.notI i cs (sub i cs hi).2
     ·intro i cs hi
      obtain⟨hne,hi⟩:=sub i cs hi
      have:g.ρ i≠g.ρ id:=p1.hr.apart i id cs _ hi hid1 hne
      show (if g.ρ i=g.ρ id then some o else g.O (g.ρ i))=none
      rw[if_neg this]
      exact p1.hr.notO i cs hi
     ·intro b' o' hb'
      simp only[g1] at hb'
      split at hb'
      ·rename_i e';subst e'
       rcases Nat.lt_or_ge (g.ρ id) w.heap.size with hlt|hlt
       ·exact hlt
       ·simp[Array.getElem?_eq_none hlt] at hb
      ·exact h.hr.oLt _ _ hb'
    have hl2:tT g1 s2 w a o (.slice (some ⟨g.ρ id,0,none⟩) xs.length (g.ρ (id+1))):=by
     cases o with
     |slot n=>exact p4
     |cell id' j=>
      obtain⟨cs,arr',e',ho',hj,hb',ha⟩:=p4
      refine⟨cs,arr',e',?_,hj,hb',ha⟩
      have hne:id≠id':=by
       rintro rfl
       obtain⟨h1,h2⟩:=kD ho'
       rw[show (s.put? (.cell id j) (.hd xs.length)).hp[id]? =some (some [.rw k' xs]) from hid1] at h1
       cases h1
       simp[gf] at h2
      unfold St.obj at ho' ⊢
      simp only[s2,List.getD] at ho' ⊢
      rw[List.getElem?_set_ne hne]
      exact ho'
     |res=>exact p4
    have hul:akQ g1 w o k' xs (.slice (some ⟨g.ρ id,0,none⟩) xs.length (g.ρ (id+1))):=
     .inr ⟨g.ρ id,g.ρ (id+1),arr,e,fz,t1,rfl,hc,hm,by simp[g1],hb,t2,t4,fun j=>p1.hr.notI id _ hid1 j,fun i x j v u h1 h2 h3=>ac5 h2 (hrel i x j v u h1 h2 h3)⟩
    obtain⟨q1,q2,q3,q4⟩:=SR.fill (g:=g1) (s:=s2) k1 hl2 (v:=.ul k' xs) rfl rfl (.ul _ _ _ _ (Nat.le_trans hc hm)) hul
    have hput:s2.put? o (.ul k' xs)={s.put? o (.ul k' xs) with hp:=(s.put? o (.ul k' xs)).hp.set id none}:=by
     cases o with
     |slot n=>simp[s2,s1,St.put?,St.set]
     |cell id' j=>
      obtain⟨cs,arr',e',ho',hj,_,_⟩:=hl
      obtain⟨cs2,arr2,e2,ho2,hj2,_,_⟩:=hl2
      obtain⟨h1,h2⟩:=kD ho'
      have hlt:id'<s.hp.length:=(List.getElem?_eq_some_iff.1 h1).1
      have hne:id'≠id:=by
       rintro rfl
       rw[hid] at h1
       cases h1
       simp[gf] at h2
      have he:s1=s.setObj id' (cs.set j (.hd xs.length)):=by simp only[s1,St.put?,ho']
      obtain⟨h3,_⟩:=kD ho2
      simp only[s2] at h3
      rw[List.getElem?_set_ne (Ne.symm hne),he] at h3
      simp only[St.setObj,List.getElem?_set,hlt,if_true,Option.some.injEq] at h3
      subst h3
      simp only[St.put?]
      rw[ho2,ho']
      simp only[s2,he,St.setObj,List.set_set]
      rw[List.set_comm _ _ hne,List.set_set]
      rw[List.set_comm _ _ (Ne.symm hne)]
     |res=>rfl
    rw[hput] at q1 q2
    refine⟨g1,q1,p2.trans (FR.trans (g₁:=g1) (hp₁:=s2.hp) (w₁:=w) ?_ q2)⟩
    refine⟨rfl,rfl,rfl,rfl,Nat.le_refl _,fun _ _ _ _=>rfl,⟨fun _ _ hi=>hi,fun _ _ _=>rfl,fun _ _=>rfl,by rw[hlen];exact Nat.le_refl _⟩,fun _ _ _ _ _ hi=>hi,?_,fun i cs hi=>.inl ⟨cs,(sub i cs hi).2⟩⟩
    intro b' _ hno hO
    show (if b'=g.ρ id then some o else g.O b')=none
    rw[if_neg (fun e=>hno id _ hid1 e.symm)]
    exact hO
   ·simp at hs
  ·simp at hs
 ·obtain rfl:s=s':=by simpa using hs
  exact⟨g,h,FR.refl _ _ _⟩
theorem aB9(h:SR g s w a){o:Occ}(hs:(abM.fz o).step s=some (true,s')):∃g',SR g' s' w a∧FR g s.hp w g' s'.hp w:=by
 simp only[abM.step] at hs
 split at hs
 ·rename_i k xs hat
  obtain rfl:_=s':=by simpa using hs
  obtain⟨cv,hl,hv,ho⟩:=ar3 h hat (by simp)
  rcases ho with⟨rfl,rfl⟩|⟨b,cap,arr,e,fz,h0,rfl,h2,h3,h4,h5,h6,h7,h8,h9⟩
  ·obtain⟨p1,p2,p3,p4⟩:=h.fill hl (v:=.sl k .own []) rfl rfl (.sln _ _) (by simp[aW])
   exact⟨g,p1,p2⟩
  ·have hmax:xs.length≤eu:=Nat.le_trans h2 h3
   obtain⟨p1,p2,p3,p4⟩:=h.fill hl (v:=.hd xs.length) rfl rfl (.hd _ _ _ hmax) (by simp[aW])
   have hbar:yA (some o) (s.put? o (.hd xs.length)):=aA1 hl rfl rfl
   let s1:=s.put? o (.hd xs.length)
   let g1:Gh:={g with I:=fun b' j=>g.I b' j∨(b'=b∧j<xs.length*k.sz)}
   have hlen:xs.length*k.sz≤arr.size:=Nat.le_trans (Nat.mul_le_mul_right _ h2) h6
   have hno:∀(id:Nat) cs,s1.hp[id]? =some (some cs)→g.ρ id≠b:=by
    intro id cs hid e'
    have:=p1.hr.notO id cs hid
    rw[e',h4] at this
    simp at this
   have u:Up g.I g.ρ s1.hp.length w g1.I g1.ρ s1.hp.length w:=⟨fun _ _ hi=>.inl hi,fun _ _ _=>rfl,fun _ _=>rfl,Nat.le_refl _⟩
   have k1:SR g1 s1 w a:=by
    refine p1.keep (some o) hbar rfl u ?_ ?_ ?_ h.hr.oLt
    ·intro occ b' hb' hne
     have hbb:b'≠b:=by
      rintro rfl
      rw[h4] at hb'
      exact hne hb'
     refine⟨hb',rfl,?_⟩
     rintro j (hj|⟨hj,_⟩)
     ·exact hj
     ·exact absurd hj hbb
    ·intro id cs hid
     refine⟨rfl,p1.hr.notO id cs hid,?_⟩
     rintro j (hj|⟨hj,_⟩)
     ·exact hj
     ·exact absurd hj (hno id cs hid)
    ·rintro b' j (hj|⟨rfl,hj⟩)
     ·exact h.hr.exI b' j hj
     ·rw[bI h5,Array.getElem?_eq_getElem (by omega)];rfl
   have hl2:tT g1 s1 w a o (.slice (some ⟨b,0,none⟩) xs.length cap):=p4
   have hk0:∀x:Ty k,∀j,j<(enc k x).length→j<k.sz:=fun x j hj=>by rwa [dk] at hj
   have hrel:VRel g1.I g1.ρ s1.hp.length w (.sl k .own xs) (.slice (some ⟨b,0,none⟩) xs.length cap):=by
    refine .sl k .own xs _ _ _ _ rfl h2 h3 (by simp) (fun i j=>arr[i*k.sz+j]?.getD undef) ?_ ?_ ?_
    ·intro i x j hx hj
     exact .inr ⟨rfl,by have:=yC (List.getElem?_eq_some_iff.1 hx).1 (hk0 x j hj);omega⟩
    ·intro i x j hx hj
     have:=yC (List.getElem?_eq_some_iff.1 hx).1 (hk0 x j hj)
     rw[Nat.zero_add,bI h5,Array.getElem?_eq_getElem (by omega)]
     rfl
    ·intro i x j v hx hj
     have hjl:=(List.getElem?_eq_some_iff.1 hj).1
     have:=yC (List.getElem?_eq_some_iff.1 hx).1 (hk0 x j hjl)
     have ha:arr[i*k.sz+j]? =some (arr[i*k.sz+j]'(by omega)):=Array.getElem?_eq_getElem _
     rw[ha]
     exact(ac5 (ρ':=g.ρ) (N':=s1.hp.length) hj (h9 i x j v _ hx hj ha)).up u
   have hown:aW g1 w o (.sl k .own xs) (.slice (some ⟨b,0,none⟩) xs.length cap):=by
    refine⟨h4,⟨arr,e,fz,h5,by simpa using h6,h7⟩,?_⟩
    intro j j1 j2
    simp only[Nat.zero_add] at j1 j2
    refine⟨?_,by
     have:=h0 j (by omega)
     simp only[World.frozen?,h5,Bool.and_eq_false_iff,decide_eq_false_iff_not]
     omega⟩
    rintro(hi|⟨_,hi⟩)
    ·exact h8 j hi
    ·omega
   obtain⟨q1,q2,q3,q4⟩:=SR.fill (g:=g1) (s:=s1) k1 hl2 (v:=.sl k .own xs) rfl rfl hrel hown
   rw[azy hl rfl p4] at q1 q2
   refine⟨g1,q1,p2.trans (FR.trans (g₁:=g1) (hp₁:=s1.hp) (w₁:=w) ?_ q2)⟩
   refine⟨rfl,rfl,rfl,rfl,Nat.le_refl _,fun _ _ _ _=>rfl,u,?_,fun _ _ _ hO=>hO,fun _ cs h=>.inl ⟨cs,h⟩⟩
   rintro b' j _ _ hO (hj|⟨rfl,_⟩)
   ·exact hj
   ·rw[h4] at hO;simp at hO
 ·obtain rfl:s=s':=by simpa using hs
  exact⟨g,h,FR.refl _ _ _⟩
theorem anP(h:SR g s w a){x:abM}(hs:x.step s=some (true,s')):∃g',SR g' s' w a∧FR g s.hp w g' s'.hp w:=by
 cases x with
 |opn o=>exact aA2 h hs
 |cls o=>exact aA3 h hs
 |fz o=>exact aB9 h hs
variable{w':World}{P:Program}{Γ:aN}{m:Oper}{next:Act→World→Prop}{Q:Exit→Act→World→Prop}
end
end Go.AM
end
noncomputable section
namespace Go.AM
set_option autoImplicit false
set_option linter.unusedSimpArgs false
set_option linter.unusedVariables false
def aR.slots:aR→List Nat
 | .t n| .tk n=>[n]
 | .c _=>[]
def aR.takes:aR→List Nat
 | .tk n=>[n]
 |_=>[]
def ap5:Option aR→List Nat
 |some x=>x.slots
 |none=>[]
def IOp.rd:IOp→List Nat
 | .mov _ x| .un _ _ x| .cvi _ _ x| .s2b _ x| .b2s _ x| .lens _ x| .lenl _ x| .box _ x| .fad _ _ x| .ld _ _ _ _ x| .mks _ _ x| .ext _ _ x| .nck _ x| .boxe _ x| .lde _ _ _ x=>x.slots
 | .frz _ r _ v=>r::v.slots
 | .pick _ c x y=>c.slots++(x.slots++y.slots)
 | .bin _ _ x y| .idx _ x y| .ixa _ _ x y| .st _ _ x y| .app _ _ x y| .mx _ _ x y=>x.slots++y.slots
 | .subs _ x lo hi| .subl _ _ x lo hi=>x.slots++(ap5 lo++ap5 hi)
 | .bsl _ _ ps _=>ps.flatMap aR.slots
 | .bld _ _ ps=>ps.flatMap fun p=>p.2.2.slots
 | .new _ _| .alr _ _=>[]
 | .call _ _ avs| .mkf _ _ avs=>avs.flatMap aR.slots
 | .dcall _ _ x avs=>x.slots++avs.flatMap aR.slots
 | .mku _ _ x| .lnw _ x| .fdw _ _ x| .ldw _ _ _ x=>x.slots
 | .apu _ _ x y| .apw _ _ x y| .ixw _ _ x y| .stw _ _ x y=>x.slots++y.slots
 | .blu _ _=>[]
def IOp.wr(o:IOp):List Nat:=
 o.dst.toList++(match o with| .mov _ x| .app _ _ x _| .st _ _ _ x=>x.takes| .frz _ r _ _=>[r]| .apu _ _ x _| .apw _ _ x _=>x.takes|_=>[])
def IOp.cls(imp:List Nat):IOp→Nat
 | .ld _ _ _ false _| .ldw .. | .apw ..=>1
 | .ld _ _ _ true _| .st .. | .new .. | .box .. | .dcall .. | .stw ..=>2
 | .call _ f _=>if imp.contains f then 2 else 0
 |_=>0
def akT(hp:List aJ)(q:List (Nat×aJ)):List aJ:=q.foldl (fun h p=>h.set p.1 p.2) hp
structure dU(Γ:aN)(imp:List Nat):Prop where
 pure:∀f avs hp,imp.contains f=false→Γ f avs hp=(Γ f avs []).map fun x=>(x.1,x.2.1,hp)
 loc:∀f vs hp c v hp',imp.contains (f+2000000)=true→Γ f vs hp=some (c,v,hp')→∃q:List (Nat×aJ),(∀p∈q,p.1∈fU vs)∧hp'=akT hp q∧
  ∀hp2:List aJ,hp2.length=hp.length→(∀i∈tP vs,hp2[i]? =hp[i]?)→Γ f vs hp2=some (c,v,akT hp2 q)
theorem anQ(q:List (Nat×aJ)):∀hp:List aJ,(akT hp q).length=hp.length:=by
 induction q with
 |nil=>intro hp;rfl
 |cons p q ih=>intro hp;show (akT (hp.set p.1 p.2) q).length=_;rw[ih];simp
theorem awy{q:List (Nat×aJ)}{i:Nat}:∀{hp:List aJ},(∀p∈q,p.1≠i)→(akT hp q)[i]? =hp[i]?:=by
 induction q with
 |nil=>intro hp _;rfl
 |cons p q ih=>
  intro hp h
  show (akT (hp.set p.1 p.2) q)[i]? =_
  rw[ih (fun x hx=>h x (List.mem_cons_of_mem _ hx)),List.getElem?_set_ne (h p (List.mem_cons_self ..))]
theorem aeE{hp hp2:List aJ}{i:Nat}(h:hp2[i]? =hp[i]?):hp2.getD i none=hp.getD i none:=by
 rw[List.getD_eq_getElem?_getD,List.getD_eq_getElem?_getD,h]
theorem ah2:∀{vs:List V}{i:Nat},i∈fU vs→i∈tP vs
 | [],_,h=>by simp[fU] at h
 |v::vs,i,h=>by
  have e:tP (v::vs)=v.cellsA.flatMap V.id1++tP vs:=by simp[tP]
  rw[e,List.mem_append]
  unfold fU at h
  split at h
  ·rename_i e';cases e'
  ·rename_i e'
   cases e'
   rcases List.mem_cons.1 h with rfl|h
   ·left;simp[V.cellsA,V.id1]
   ·exact .inr (ah2 h)
  ·rename_i e'
   cases e'
   exact .inr (ah2 h)
def St.upd(s:St)(l:List (Nat×V)):St:={s with env:=l.foldl (fun e p=>e.set p.1 p.2) s.env}
section
variable{Γ:aN}{imp:List Nat}
theorem dV{s t:St}{x:aR}(h:∀n∈x.slots,t.get n=s.get n):x.ev t=x.ev s:=by
 cases x with
 |t n=>simp only[aR.ev];rw[h n (by simp[aR.slots])]
 |tk n=>exact h n (by simp[aR.slots])
 |c v=>rfl
theorem aA4{s t:St}{x:Option aR}(h:∀n∈ap5 x,t.get n=s.get n):kA t x=kA s x:=by
 cases x with
 |none=>rfl
 |some x=>simp only[kA];rw[dV h]
theorem dW(s:St)(d:Option Nat)(v:V):s.setO d v=s.upd (d.toList.map fun d=>(d,v)):=by cases d<;>rfl
theorem jJ(s:St)(x:aR):x.after s=s.upd (x.takes.map fun n=>(n,disown (s.get n))):=by cases x<;>rfl
theorem lM(s:St)(l m:List (Nat×V)):(s.upd l).upd m=s.upd (l++m):=by simp[St.upd,List.foldl_append]
theorem am0{s:St}:∀{l:List (Nat×V)}{n:Nat},(∀p∈l,p.1≠n)→(s.upd l).get n=s.get n:=by
 intro l
 induction l generalizing s with
 |nil=>intro n h;rfl
 |cons p l ih=>
  intro n h
  have:s.upd (p::l)=(s.set p.1 p.2).upd l:=rfl
  rw[this,ih (fun q hq=>h q (List.mem_cons_of_mem _ hq))]
  simp[St.get,St.set,List.getD,List.getElem?_set,h p (List.mem_cons_self ..)]
def aCQ(Γ:aN)(imp:List Nat)(o:IOp)(s:St)(c:Bool)(s':St):Prop:=
 ∃u:List (Nat×V),(∀p∈u,p.1∈o.wr)∧s'=s.upd u∧∀t:St,(∀n∈o.rd,t.get n=s.get n)→(o.cls imp=1→t.hp=s.hp)→step Γ o t=some (c,t.upd u)
theorem cD{o:IOp}{s s':St}{c:Bool}(E:Option (Bool×V))(hE:∀t:St,(∀n∈o.rd,t.get n=s.get n)→(o.cls imp=1→t.hp=s.hp)→step Γ o t=E.map fun p=>(p.1,t.setO o.dst p.2))
  (h:step Γ o s=some (c,s')):aCQ Γ imp o s c s':=by
 rw[hE s (fun _ _=>rfl) (fun _=>rfl)] at h
 cases E with
 |none=>simp at h
 |some p=>
  simp only[Option.map_some,Option.some.injEq,Prod.mk.injEq] at h
  obtain⟨rfl,rfl⟩:=h
  refine⟨o.dst.toList.map fun d=>(d,p.2),?_,dW _ _ _,?_⟩
  ·intro q hq
   simp only[List.mem_map] at hq
   obtain⟨d,hd,rfl⟩:=hq
   simp[IOp.wr,hd]
  ·intro t ht hh
   rw[hE t ht hh,←dW]
   rfl
theorem az6(hP:dU Γ imp){o:IOp}(hw:o.cls imp≤1){s:St}{c:Bool}{s':St}(h:step Γ o s=some (c,s')):
  aCQ Γ imp o s c s':=by
 have s1:∀{x:aR}{l:List Nat}{t:St},(∀n∈l,t.get n=s.get n)→(∀n∈x.slots,n∈l)→x.ev t=x.ev s:=fun h1 h2=>dV fun n hn=>h1 n (h2 n hn)
 have s2:∀{x:Option aR}{l:List Nat}{t:St},(∀n∈l,t.get n=s.get n)→(∀n∈ap5 x,n∈l)→kA t x=kA s x:=fun h1 h2=>aA4 fun n hn=>h1 n (h2 n hn)
 cases o with
 |mov d x=>
  obtain⟨rfl,rfl⟩:true=c∧_=s':=by simpa [step] using h
  refine⟨x.takes.map (fun n=>(n,disown (s.get n)))++[(d,x.ev s)],?_,?_,?_⟩
  ·intro p hp
   simp only[List.mem_append,List.mem_map,List.mem_singleton] at hp
   rcases hp with⟨n,hn,rfl⟩|rfl
   ·simp[IOp.wr,IOp.dst,hn]
   ·simp[IOp.wr,IOp.dst]
  ·rw[←lM,←jJ];rfl
  ·intro t ht _
   have e:=dV (x:=x) ht
   have e2:x.takes.map (fun n=>(n,disown (t.get n)))=x.takes.map (fun n=>(n,disown (s.get n))):=by
    cases x with
    |tk n=>simp only[aR.takes,List.map];rw[ht n (by simp[IOp.rd,aR.slots])]
    |_=>rfl
   simp only[step,e]
   rw[jJ,e2,←lM];rfl
 |app d k x y=>
  simp only[step] at h
  split at h
  ·rename_i k' ox l k'' ow m hx hy
   split at h
   ·rename_i hk
    split at h
    ·rename_i hkk
     simp only[Option.some.injEq,Prod.mk.injEq] at h
     obtain⟨rfl,rfl⟩:=h
     refine⟨x.takes.map (fun n=>(n,disown (s.get n)))++[(d,.sl k' .own (l++(hkk▸m)))],?_,?_,?_⟩
     ·intro p hp
      simp only[List.mem_append,List.mem_map,List.mem_singleton] at hp
      rcases hp with⟨n,hn,rfl⟩|rfl
      ·simp[IOp.wr,IOp.dst,hn]
      ·simp[IOp.wr,IOp.dst]
     ·rw[←lM,←jJ];rfl
     ·intro t ht _
      have e1:=dV (x:=x) (fun n hn=>ht n (by simp[IOp.rd,hn]))
      have e3:=dV (x:=y) (fun n hn=>ht n (by simp[IOp.rd,hn]))
      have e2:x.takes.map (fun n=>(n,disown (t.get n)))=x.takes.map (fun n=>(n,disown (s.get n))):=by
       cases x with
       |tk n=>simp only[aR.takes,List.map];rw[ht n (by simp[IOp.rd,aR.slots])]
       |_=>rfl
      simp only[step,e1,e3,hx,hy,hk,hkk,dif_pos,if_true]
      rw[jJ,e2,←lM];rfl
    ·simp at h
   ·simp at h
  ·simp at h
 |apu d k x y=>
  simp only[step] at h
  split at h
  ·rename_i k' l k'' ow m hx hy
   split at h
   ·rename_i hk
    split at h
    ·rename_i hkk
     simp only[Option.some.injEq,Prod.mk.injEq] at h
     obtain⟨rfl,rfl⟩:=h
     refine⟨x.takes.map (fun n=>(n,disown (s.get n)))++[(d,.ul k' (l++(hkk▸m)))],?_,?_,?_⟩
     ·intro p hp
      simp only[List.mem_append,List.mem_map,List.mem_singleton] at hp
      rcases hp with⟨n,hn,rfl⟩|rfl
      ·simp[IOp.wr,IOp.dst,hn]
      ·simp[IOp.wr,IOp.dst]
     ·rw[←lM,←jJ];rfl
     ·intro t ht _
      have e1:=dV (x:=x) (fun n hn=>ht n (by simp[IOp.rd,hn]))
      have e3:=dV (x:=y) (fun n hn=>ht n (by simp[IOp.rd,hn]))
      have e2:x.takes.map (fun n=>(n,disown (t.get n)))=x.takes.map (fun n=>(n,disown (s.get n))):=by
       cases x with
       |tk n=>simp only[aR.takes,List.map];rw[ht n (by simp[IOp.rd,aR.slots])]
       |_=>rfl
      simp only[step,e1,e3,hx,hy,hk,hkk,dif_pos,if_true]
      rw[jJ,e2,←lM];rfl
    ·simp at h
   ·simp at h
  ·simp at h
 |apw d k x y=>
  simp only[step] at h
  split at h
  ·rename_i k' l k0 id q hx hy
   split at h
   ·rename_i k'' m hrow
    split at h
    ·rename_i hk
     split at h
     ·rename_i hkk
      simp only[Option.some.injEq,Prod.mk.injEq] at h
      obtain⟨rfl,rfl⟩:=h
      refine⟨x.takes.map (fun n=>(n,disown (s.get n)))++[(d,.ul k' (l++(hkk▸m)))],?_,?_,?_⟩
      ·intro p hp
       simp only[List.mem_append,List.mem_map,List.mem_singleton] at hp
       rcases hp with⟨n,hn,rfl⟩|rfl
       ·simp[IOp.wr,IOp.dst,hn]
       ·simp[IOp.wr,IOp.dst]
      ·rw[←lM,←jJ];rfl
      ·intro t ht hh
       have e1:=dV (x:=x) (fun n hn=>ht n (by simp[IOp.rd,hn]))
       have e3:=dV (x:=y) (fun n hn=>ht n (by simp[IOp.rd,hn]))
       have e4:t.rowW id=s.rowW id:=by simp only[St.rowW];rw[hh rfl]
       have e2:x.takes.map (fun n=>(n,disown (t.get n)))=x.takes.map (fun n=>(n,disown (s.get n))):=by
        cases x with
        |tk n=>simp only[aR.takes,List.map];rw[ht n (by simp[IOp.rd,aR.slots])]
        |_=>rfl
       simp only[step,e1,e3,hx,hy,e4,hrow,hk,hkk,dif_pos,if_true]
       rw[jJ,e2,←lM];rfl
     ·simp at h
    ·simp at h
   ·simp at h
  ·simp at h
 |blu d k=>
  refine cD (some (true,.ul k [])) (fun t ht _=>?_) h
  simp only[step,IOp.dst,St.setO,Option.map_some]
 |mku d k x=>
  refine cD (match x.ev s with| .int _ n=>some (decide (0≤n)&&decide (n*k.bytes≤qS),.ul k (List.replicate n.toNat (aC k)))|_=>none) (fun t ht _=>?_) h
  have e0:x.ev t=x.ev s:=s1 ht (by simp+contextual [IOp.rd])
  simp only[step,e0,IOp.dst,St.setO]
  split<;>first|rfl|(simp_all;done)
 |lnw d x=>
  refine cD (match x.ev s with| .hd n=>some (true,.int .i64 n)| .sw _ _ n=>some (true,.int .i64 n)|_=>none) (fun t ht _=>?_) h
  have e0:x.ev t=x.ev s:=s1 ht (by simp+contextual [IOp.rd])
  simp only[step,e0,IOp.dst,St.setO]
  split<;>first|rfl|(simp_all;done)
 |ixw d k x i=>
  refine cD (match x.ev s,i.ev s with| .sw k' id n,.int _ i=>if k'=k then some (decide (0≤i)&&decide (i<n),.wp id k' i.toNat 0) else none|_,_=>none) (fun t ht _=>?_) h
  have e0:x.ev t=x.ev s:=s1 ht (by simp+contextual [IOp.rd])
  have e1:i.ev t=i.ev s:=s1 ht (by simp+contextual [IOp.rd])
  simp only[step,e0,e1,IOp.dst,St.setO]
  split
  ·split<;>first|rfl|(simp_all;done)
  ·first|rfl|(simp_all;done)
 |fdw d off x=>
  refine cD (match x.ev s with| .wp id k i o=>some (true,.wp id k i (o+off))|_=>none) (fun t ht _=>?_) h
  have e0:x.ev t=x.ev s:=s1 ht (by simp+contextual [IOp.rd])
  simp only[step,e0,IOp.dst,St.setO]
  split<;>first|rfl|(simp_all;done)
 |ldw d n agg x=>
  refine cD (match x.ev s with
   | .wp id k i o=>(match s.rowW id with
     |some ⟨k',xs⟩=>if k'=k∧o+n≤k'.sz then some (decide (i<xs.length),disown (iO agg (((enc k' (xs.getD i (aC k'))).drop o).take n))) else none
     |none=>none)
   |_=>none) (fun t ht hh=>?_) h
  have e0:x.ev t=x.ev s:=s1 ht (by simp+contextual [IOp.rd])
  have e1:∀id,t.rowW id=s.rowW id:=fun id=>by simp only[St.rowW];rw[hh rfl]
  simp only[step,e0,e1,IOp.dst,St.setO]
  split
  ·rename_i id k i o hx
   simp only[hx]
   cases hr:s.rowW id with
   |none=>rfl
   |some p=>
    obtain⟨k',xs⟩:=p
    simp only
    split<;>rfl
  ·rename_i hx
   split
   ·rename_i heq;exact absurd heq (hx _ _ _ _)
   ·rfl
 |new=>simp[IOp.cls] at hw
 |box=>simp[IOp.cls] at hw
 |st=>simp[IOp.cls] at hw
 |stw d n x v=>simp[IOp.cls] at hw
 |dcall=>simp[IOp.cls] at hw
 |alr d n=>
  refine cD (some (true,.raw n)) (fun t ht _=>?_) h
  simp only[step,IOp.dst,St.setO,Option.map_some]
 |lde d n agg x=>
  refine cD (match x.ev s with| .ea cs=>if n≤cs.length then some (true,disown (iO agg (cs.take n))) else none|_=>none) (fun t ht _=>?_) h
  have e0:x.ev t=x.ev s:=s1 ht (by simp+contextual [IOp.rd])
  simp only[step,e0,IOp.dst,St.setO]
  split
  ·split<;>first|rfl|(simp_all;done)
  ·first|rfl|(simp_all;done)
 |frz d r n v=>
  simp only[step] at h
  split at h
  ·rename_i m hr
   split at h
   ·rename_i hc
    simp only[Option.some.injEq,Prod.mk.injEq] at h
    obtain⟨rfl,rfl⟩:=h
    refine⟨[(r,.ea ((v.ev s).cells.map disown))]++(d.toList.map fun d=>(d,.undef)),?_,?_,?_⟩
    ·intro p hp
     simp only[List.mem_append,List.mem_map,List.mem_singleton] at hp
     rcases hp with rfl|⟨m,hm,rfl⟩
     ·simp[IOp.wr]
     ·simp[IOp.wr,IOp.dst,hm]
    ·rw[←lM,←dW];rfl
    ·intro t ht _
     have e1:=dV (x:=v) (fun n hn=>ht n (by simp[IOp.rd,hn]))
     have e2:t.get r=s.get r:=ht r (by simp[IOp.rd])
     simp only[step,e1,e2,hr,hc,if_true]
     rw[←lM,←dW];rfl
   ·simp at h
  ·simp at h
 |boxe d x=>
  refine cD (match x.ev s with| .agg cs=>some (true,.ea (cs.map disown))|v=>if v.one then some (true,.ea [disown v]) else none) (fun t ht _=>?_) h
  have e0:x.ev t=x.ev s:=s1 ht (by simp+contextual [IOp.rd])
  simp only[step,e0,IOp.dst,St.setO]
  split
  ·first|rfl|(simp_all;done)
  ·split<;>first|rfl|(simp_all;done)
 |mkf d f ps=>
  refine cD (some (true,.fn f (ps.map fun x=>disown (x.ev s)))) (fun t ht _=>?_) h
  have e:(ps.map fun x=>disown (x.ev t))=ps.map fun x=>disown (x.ev s):=List.map_congr_left fun x hx=>congrArg disown (s1 ht (fun n hn=>by simp only[IOp.rd,List.mem_flatMap];exact⟨x,hx,hn⟩))
  simp only[step,e,IOp.dst,St.setO,Option.map_some]
 |pick d cc x y=>
  refine cD (match cc.ev s with| .bool t=>some (true,awj t (disown (x.ev s)) (disown (y.ev s)))|_=>none) (fun t ht _=>?_) h
  have e0:cc.ev t=cc.ev s:=s1 ht (by simp+contextual [IOp.rd])
  have e1:x.ev t=x.ev s:=s1 ht (by simp+contextual [IOp.rd])
  have e2:y.ev t=y.ev s:=s1 ht (by simp+contextual [IOp.rd])
  simp only[step,e0,e1,e2,IOp.dst,St.setO]
  split<;>first|rfl|(simp_all;done)
 |bin d o x y=>
  refine cD (aB2 o (x.ev s) (y.ev s)) (fun t ht _=>?_) h
  have e0:x.ev t=x.ev s:=s1 ht (by simp+contextual [IOp.rd])
  have e1:y.ev t=y.ev s:=s1 ht (by simp+contextual [IOp.rd])
  simp only[step,e0,e1,IOp.dst,St.setO]
 |un d o x=>
  refine cD ((unV o (x.ev s)).map fun v=>(true,v)) (fun t ht _=>?_) h
  have e0:x.ev t=x.ev s:=s1 ht (by simp+contextual [IOp.rd])
  simp only[step,e0,IOp.dst,St.setO]
  cases unV o (x.ev s)<;>rfl
 |cvi d k x=>
  refine cD (match x.ev s with| .int _ n=>some (true,.int k (k.wrap n))|_=>none) (fun t ht _=>?_) h
  have e0:x.ev t=x.ev s:=s1 ht (by simp+contextual [IOp.rd])
  simp only[step,e0,IOp.dst,St.setO]
  split<;>first|rfl|(simp_all;done)
 |s2b d x=>
  refine cD (match x.ev s with| .str l=>some (true,.sl .u8 .own l)|_=>none) (fun t ht _=>?_) h
  have e0:x.ev t=x.ev s:=s1 ht (by simp+contextual [IOp.rd])
  simp only[step,e0,IOp.dst,St.setO]
  split<;>first|rfl|(simp_all;done)
 |b2s d x=>
  refine cD (match x.ev s with| .sl .u8 _ l=>some (true,.str l)|_=>none) (fun t ht _=>?_) h
  have e0:x.ev t=x.ev s:=s1 ht (by simp+contextual [IOp.rd])
  simp only[step,e0,IOp.dst,St.setO]
  split<;>first|rfl|(simp_all;done)
 |lens d x=>
  refine cD (match x.ev s with| .str l=>some (true,.int .i64 l.length)|_=>none) (fun t ht _=>?_) h
  have e0:x.ev t=x.ev s:=s1 ht (by simp+contextual [IOp.rd])
  simp only[step,e0,IOp.dst,St.setO]
  split<;>first|rfl|(simp_all;done)
 |lenl d x=>
  refine cD (match x.ev s with| .sl _ _ l=>some (true,.int .i64 l.length)|_=>none) (fun t ht _=>?_) h
  have e0:x.ev t=x.ev s:=s1 ht (by simp+contextual [IOp.rd])
  simp only[step,e0,IOp.dst,St.setO]
  split<;>first|rfl|(simp_all;done)
 |idx d x i=>
  refine cD (match x.ev s,i.ev s with| .str l,.int _ i=>some (decide (0≤i)&&decide (i<l.length),.int .u8 (l.getD i.toNat 0).toNat)|_,_=>none) (fun t ht _=>?_) h
  have e0:x.ev t=x.ev s:=s1 ht (by simp+contextual [IOp.rd])
  have e1:i.ev t=i.ev s:=s1 ht (by simp+contextual [IOp.rd])
  simp only[step,e0,e1,IOp.dst,St.setO]
  split<;>first|rfl|(simp_all;done)
 |ixa d k x i=>
  refine cD (match x.ev s,i.ev s with| .sl k' _ l,.int _ i=>if k'=k then some (decide (0≤i)&&decide (i<l.length),.ea (enc k' (l.getD i.toNat (aC k')))) else none|_,_=>none) (fun t ht _=>?_) h
  have e0:x.ev t=x.ev s:=s1 ht (by simp+contextual [IOp.rd])
  have e1:i.ev t=i.ev s:=s1 ht (by simp+contextual [IOp.rd])
  simp only[step,e0,e1,IOp.dst,St.setO]
  split
  ·split<;>first|rfl|(simp_all;done)
  ·first|rfl|(simp_all;done)
 |subs d x lo hi=>
  refine cD (match x.ev s with| .str l=>(ahV l.length (kA s lo) (kA s hi)).map fun(c,a,b)=>(c,.str ((l.take b).drop a))|_=>none) (fun t ht _=>?_) h
  have e0:x.ev t=x.ev s:=s1 ht (by simp+contextual [IOp.rd])
  have f0:kA t lo=kA s lo:=s2 ht (by simp+contextual [IOp.rd])
  have f1:kA t hi=kA s hi:=s2 ht (by simp+contextual [IOp.rd])
  simp only[step,e0,f0,f1,IOp.dst,St.setO]
  split
  ·rename_i l hl;simp only[hl,Option.map_map];rfl
  ·first|rfl|(simp_all;done)
 |subl d k x lo hi=>
  refine cD (match x.ev s with| .sl k' _ l=>if k'=k then (ahV l.length (kA s lo) (kA s hi)).map fun(c,a,b)=>(c,.sl k' (.may false) ((l.take b).drop a)) else none|_=>none) (fun t ht _=>?_) h
  have e0:x.ev t=x.ev s:=s1 ht (by simp+contextual [IOp.rd])
  have f0:kA t lo=kA s lo:=s2 ht (by simp+contextual [IOp.rd])
  have f1:kA t hi=kA s hi:=s2 ht (by simp+contextual [IOp.rd])
  simp only[step,e0,f0,f1,IOp.dst,St.setO]
  split
  ·rename_i l hl
   simp only[hl]
   split
   ·simp only[Option.map_map];rfl
   ·rfl
  ·first|rfl|(simp_all;done)
 |bsl d k ps u=>
  refine cD ((age k (ps.map (·.ev s))).map fun l=>(true,.sl k (cond u (.may true) .own) l)) (fun t ht _=>?_) h
  have e:ps.map (·.ev t)=ps.map (·.ev s):=List.map_congr_left fun x hx=>s1 ht (fun n hn=>by simp only[IOp.rd,List.mem_flatMap];exact⟨x,hx,hn⟩)
  simp only[step,e,IOp.dst,St.setO,Option.map_map]
  rfl
 |bld d zero ps=>
  refine cD ((lay zero (ps.map fun(off,n,x)=>(off,n,x.ev s))).map fun cs=>(true,.agg cs)) (fun t ht _=>?_) h
  have e:(ps.map fun(off,n,x)=>(off,n,x.ev t))=ps.map fun(off,n,x)=>(off,n,x.ev s):=List.map_congr_left fun x hx=>by
   have:=s1 (x:=x.2.2) ht (fun n hn=>by simp only[IOp.rd,List.mem_flatMap];exact⟨x,hx,hn⟩)
   show (x.1,x.2.1,_)=(x.1,x.2.1,_)
   rw[this]
  simp only[step,e,IOp.dst,St.setO,Option.map_map]
  rfl
 |fad d off x=>
  refine cD (match x.ev s with| .ea cs=>some (true,.ea (cs.drop off))| .ptr id o=>some (true,.ptr id (o+off))|_=>none) (fun t ht _=>?_) h
  have e0:x.ev t=x.ev s:=s1 ht (by simp+contextual [IOp.rd])
  simp only[step,e0,IOp.dst,St.setO]
  split<;>first|rfl|(simp_all;done)
 |ld d n agg take x=>
  cases take with
  |true=>simp[IOp.cls] at hw
  |false=>
   refine cD (match x.ev s with| .ea cs=>if n≤cs.length then some (true,disown (iO agg (cs.take n))) else none| .ptr id o=>(match s.obj id with|some cs=>if o+n≤cs.length then some (true,disown (iO agg ((cs.drop o).take n))) else none|none=>none)|_=>none) (fun t ht hh=>?_) h
   have e0:x.ev t=x.ev s:=s1 ht (by simp+contextual [IOp.rd])
   have e1:∀id,t.obj id=s.obj id:=fun id=>by simp only[St.obj];rw[hh rfl]
   simp only[step,e0,e1,IOp.dst,St.setO]
   split
   ·split<;>first|rfl|(simp_all;done)
   ·split
    ·split<;>first|rfl|(simp_all;done)
    ·first|rfl|(simp_all;done)
   ·first|rfl|(simp_all;done)
 |mks d k x=>
  refine cD (match x.ev s with| .int _ n=>some (decide (0≤n)&&decide (n*k.bytes≤qS),.sl k .own (List.replicate n.toNat (aC k)))|_=>none) (fun t ht _=>?_) h
  have e0:x.ev t=x.ev s:=s1 ht (by simp+contextual [IOp.rd])
  simp only[step,e0,IOp.dst,St.setO]
  split<;>first|rfl|(simp_all;done)
 |ext d i x=>
  refine cD (match x.ev s with| .tup vs=>if i<vs.length then some (true,disown (vs.getD i .undef)) else none|_=>none) (fun t ht _=>?_) h
  have e0:x.ev t=x.ev s:=s1 ht (by simp+contextual [IOp.rd])
  simp only[step,e0,IOp.dst,St.setO]
  split
  ·split<;>first|rfl|(simp_all;done)
  ·first|rfl|(simp_all;done)
 |nck d x=>
  refine cD (match x.ev s with| .ptr id o=>some (true,.ptr id o)| .ea cs=>some (true,.ea cs)|_=>none) (fun t ht _=>?_) h
  have e0:x.ev t=x.ev s:=s1 ht (by simp+contextual [IOp.rd])
  simp only[step,e0,IOp.dst]
  split<;>first|rfl|(simp_all;done)
 |mx d mn x y=>
  refine cD (match x.ev s,y.ev s with| .int k a,.int k' b=>if k=k' then some (true,.int k (if mn then (if b<a then b else a) else (if a<b then b else a))) else none|_,_=>none) (fun t ht _=>?_) h
  have e0:x.ev t=x.ev s:=s1 ht (by simp+contextual [IOp.rd])
  have e1:y.ev t=y.ev s:=s1 ht (by simp+contextual [IOp.rd])
  simp only[step,e0,e1,IOp.dst,St.setO]
  split
  ·split<;>first|rfl|(simp_all;done)
  ·first|rfl|(simp_all;done)
 |call d f avs=>
  have hf:imp.contains f=false:=by
   simp only[IOp.cls] at hw
   split at hw
   ·omega
   ·rename_i hf;simpa using hf
  refine cD ((Γ f (avs.map fun x=>disown (x.ev s)) []).map fun x=>(x.1,x.2.1)) (fun t ht _=>?_) h
  have e:(avs.map fun x=>disown (x.ev t))=avs.map fun x=>disown (x.ev s):=List.map_congr_left fun x hx=>by
   rw[s1 (x:=x) ht (fun n hn=>by simp only[IOp.rd,List.mem_flatMap];exact⟨x,hx,hn⟩)]
  simp only[step,e,IOp.dst]
  rw[hP.pure _ _ _ hf]
  cases Γ f (avs.map fun x=>disown (x.ev s)) [] with
  |none=>rfl
  |some p=>rfl
def St.put(s:St)(u:List (Nat×V))(q:Option (List aJ)):St:={s.upd u with hp:=q.getD s.hp}
theorem ayt(hP:dU Γ imp){o:IOp}{s:St}{c:Bool}{s':St}(h:step Γ o s=some (c,s')):
  ∃(u:List (Nat×V))(q:Option (List aJ)),(∀p∈u,p.1∈o.wr)∧(o.cls imp≤1→q=none)∧s'=s.put u q∧
   ∀t:St,(∀n∈o.rd,t.get n=s.get n)→(1≤o.cls imp→t.hp=s.hp)→step Γ o t=some (c,t.put u q):=by
 have s1:∀{x:aR}{l:List Nat}{t:St},(∀n∈l,t.get n=s.get n)→(∀n∈x.slots,n∈l)→x.ev t=x.ev s:=fun h1 h2=>dV fun n hn=>h1 n (h2 n hn)
 by_cases hw:o.cls imp≤1
 ·obtain⟨u,h1,h2,h3⟩:=az6 hP hw h
  exact⟨u,none,h1,fun _=>rfl,h2,fun t ht hh=>h3 t ht (fun e=>hh (by omega))⟩
 ·have hno:∀{q:Option (List aJ)},o.cls imp≤1→q=none:=fun h=>absurd h hw
  cases o with
  |new d zero=>
   obtain⟨rfl,rfl⟩:true=c∧_=s':=by simpa [step] using h
   refine⟨[(d,.ptr s.hp.length 0)],some (s.hp++[some zero]),by simp[IOp.wr,IOp.dst],hno,rfl,fun t ht hh=>?_⟩
   have e:=hh (by simp[IOp.cls])
   simp only[step,e]
   rfl
  |stw d n x v=>
   simp only[step] at h
   split at h
   ·rename_i id k i o hx
    cases ho:s.rowW id with
    |none=>rw[ho] at h;simp at h
    |some p=>
     obtain⟨k',xs⟩:=p
     rw[ho] at h
     simp only at h
     split at h
     ·rename_i hcond
      cases he:akO k' (xs.getD i (aC k')) o (v.ev s).cells with
      |none=>rw[he] at h;simp at h
      |some x2=>
       rw[he] at h
       simp only[Option.some.injEq,Prod.mk.injEq] at h
       obtain⟨rfl,rfl⟩:=h
       refine⟨d.toList.map (fun d=>(d,V.undef)),some (s.hp.set id (some [.rw k' (xs.set i x2)])),?_,hno,?_,?_⟩
       ·intro p hp
        simp only[List.mem_map] at hp
        obtain⟨m,hm,rfl⟩:=hp
        simp[IOp.wr,IOp.dst,hm]
       ·simp only[St.put,←dW]
        cases d<;>rfl
       ·intro t ht hh
        have e:=hh (by simp[IOp.cls])
        have e0:x.ev t=x.ev s:=s1 ht (by simp+contextual [IOp.rd])
        have e1:v.ev t=v.ev s:=s1 ht (by simp+contextual [IOp.rd])
        have e3:t.rowW id=some ⟨k',xs⟩:=by rw[←ho];simp only[St.rowW];rw[e]
        simp only[step,e0,e1,hx,e3]
        rw[if_pos hcond,he,←e]
        simp only[St.put,←dW]
        cases d<;>rfl
     ·simp at h
   ·simp at h
  |box d x=>
   have e0:∀t:St,(∀n∈(IOp.box d x).rd,t.get n=s.get n)→x.ev t=x.ev s:=fun t ht=>s1 ht (by simp+contextual [IOp.rd])
   simp only[step] at h
   split at h
   ·rename_i cs hx
    simp only[Option.some.injEq,Prod.mk.injEq] at h
    obtain⟨rfl,rfl⟩:=h
    refine⟨[(d,.ptr s.hp.length 0)],some (s.hp++[some cs]),by simp[IOp.wr,IOp.dst],hno,rfl,fun t ht hh=>?_⟩
    have e:=hh (by simp[IOp.cls])
    simp only[step,e0 t ht,hx,e]
    rfl
   ·rename_i hx
    split at h
    ·rename_i hone
     simp only[Option.some.injEq,Prod.mk.injEq] at h
     obtain⟨rfl,rfl⟩:=h
     refine⟨[(d,.ptr s.hp.length 0)],some (s.hp++[some [disown (x.ev s)]]),by simp[IOp.wr,IOp.dst],hno,rfl,fun t ht hh=>?_⟩
     have e:=hh (by simp[IOp.cls])
     simp only[step,e0 t ht,e]
     rw[if_pos hone];rfl
    ·simp at h
  |st d n x v=>
   simp only[step] at h
   split at h
   ·rename_i id o hx
    split at h
    ·rename_i cs ho
     split at h
     ·rename_i hcond
      simp only[Option.some.injEq,Prod.mk.injEq] at h
      obtain⟨rfl,rfl⟩:=h
      refine⟨v.takes.map (fun n=>(n,disown (s.get n)))++d.toList.map (fun d=>(d,V.undef)),some (s.hp.set id (some (cs.take o++(v.ev s).cells++cs.drop (o+n)))),?_,hno,?_,?_⟩
      ·intro p hp
       simp only[List.mem_append,List.mem_map] at hp
       rcases hp with⟨m,hm,rfl⟩|⟨m,hm,rfl⟩
       ·simp[IOp.wr,IOp.dst,hm]
       ·simp[IOp.wr,IOp.dst,hm]
      ·simp only[St.put,←lM,←jJ,←dW]
       cases d<;>cases v<;>rfl
      ·intro t ht hh
       have e:=hh (by simp[IOp.cls])
       have e0:x.ev t=x.ev s:=s1 ht (by simp+contextual [IOp.rd])
       have e1:v.ev t=v.ev s:=s1 ht (by simp+contextual [IOp.rd])
       have e3:t.obj id=s.obj id:=by simp only[St.obj];rw[e]
       have e2:v.takes.map (fun n=>(n,disown (t.get n)))=v.takes.map (fun n=>(n,disown (s.get n))):=by
        cases v with
        |tk n=>simp only[aR.takes,List.map];rw[ht n (by simp[IOp.rd,aR.slots])]
        |_=>rfl
       simp only[step,e0,e1,e3,hx,ho]
       rw[if_pos hcond,←e2,←e]
       simp only[St.put,←lM,←jJ,←dW]
       cases d<;>cases v<;>rfl
     ·simp at h
    ·simp at h
   ·simp at h
  |ld d n agg take x=>
   cases take with
   |false=>simp[IOp.cls] at hw
   |true=>
    have e0:∀t:St,(∀m∈(IOp.ld d n agg true x).rd,t.get m=s.get m)→x.ev t=x.ev s:=fun t ht=>s1 ht (by simp+contextual [IOp.rd])
    simp only[step] at h
    split at h
    ·rename_i cs hx
     split at h
     ·rename_i hle
      simp only[Option.some.injEq,Prod.mk.injEq] at h
      obtain⟨rfl,rfl⟩:=h
      refine⟨[(d,_)],none,by simp[IOp.wr,IOp.dst],hno,rfl,fun t ht hh=>?_⟩
      simp only[step,e0 t ht,hx]
      rw[if_pos hle];rfl
     ·simp at h
    ·rename_i id o hx
     split at h
     ·rename_i cs ho
      split at h
      ·rename_i hle
       simp only[if_true] at h
       cases hnb:ada (cs.getD o .undef) with
       |false=>rw[hnb] at h;simp at h
       |true=>
       rw[hnb] at h
       simp only[if_true,Option.some.injEq,Prod.mk.injEq] at h
       obtain⟨rfl,rfl⟩:=h
       refine⟨[(d,iO agg ((cs.drop o).take n))],some (s.hp.set id (some (cs.set o (disown (cs.getD o .undef))))),by simp[IOp.wr,IOp.dst],hno,rfl,fun t ht hh=>?_⟩
       have e:=hh (by simp[IOp.cls])
       have e3:t.obj id=s.obj id:=by simp only[St.obj];rw[e]
       simp only[step,e0 t ht,hx,e3,ho]
       rw[if_pos hle,hnb,←e];rfl
      ·simp at h
     ·simp at h
    ·simp at h
  |call d f avs=>
   have e0:∀t:St,(∀n∈(IOp.call d f avs).rd,t.get n=s.get n)→(avs.map fun x=>disown (x.ev t))=avs.map fun x=>disown (x.ev s):=fun t ht=>List.map_congr_left fun x hx=>by
    rw[s1 (x:=x) ht (fun n hn=>by simp only[IOp.rd,List.mem_flatMap];exact⟨x,hx,hn⟩)]
   simp only[step] at h
   split at h
   ·rename_i c' v hp' hg
    simp only[Option.some.injEq,Prod.mk.injEq] at h
    obtain⟨rfl,rfl⟩:=h
    refine⟨d.toList.map (fun d=>(d,v)),some hp',?_,hno,?_,fun t ht hh=>?_⟩
    ·intro p hp
     simp only[List.mem_map] at hp
     obtain⟨m,hm,rfl⟩:=hp
     simp[IOp.wr,IOp.dst,hm]
    ·simp only[St.put,←dW]
     cases d<;>rfl
    ·have e:=hh (by omega)
     simp only[step,e0 t ht,e,hg]
     simp only[St.put,←dW]
     cases d<;>rfl
   ·simp at h
  |dcall d f x avs=>
   have ex:∀t:St,(∀n∈(IOp.dcall d f x avs).rd,t.get n=s.get n)→x.ev t=x.ev s:=fun t ht=>s1 (x:=x) ht (fun n hn=>by simp only[IOp.rd,List.mem_append];exact .inl hn)
   have e0:∀t:St,(∀n∈(IOp.dcall d f x avs).rd,t.get n=s.get n)→(avs.map fun x=>disown (x.ev t))=avs.map fun x=>disown (x.ev s):=fun t ht=>List.map_congr_left fun y hy=>by
    rw[s1 (x:=y) ht (fun n hn=>by simp only[IOp.rd,List.mem_append,List.mem_flatMap];exact .inr ⟨y,hy,hn⟩)]
   simp only[step] at h
   split at h
   ·rename_i f' aan hx
    split at h
    ·rename_i c' v hp' hg
     simp only[Option.some.injEq,Prod.mk.injEq] at h
     obtain⟨rfl,rfl⟩:=h
     refine⟨d.toList.map (fun d=>(d,v)),some hp',?_,hno,?_,fun t ht hh=>?_⟩
     ·intro p hp
      simp only[List.mem_map] at hp
      obtain⟨m,hm,rfl⟩:=hp
      simp[IOp.wr,IOp.dst,hm]
     ·simp only[St.put,←dW]
      cases d<;>rfl
     ·have e:=hh (by omega)
      simp only[step,e0 t ht,ex t ht,hx,e,hg]
      simp only[St.put,←dW]
      cases d<;>rfl
    ·simp at h
   ·simp at h
  |_=>simp[IOp.cls] at hw
def jN(Γ:aN)(x:GOp)(s:St):Option St:=
 match x.g with
 |none=>match mS Γ x.ob x.o s with|some (c,s')=>chk c (some s')|none=>none
 |some (g,w)=>match s.get g with
  | .bool b=>match b==w with
    |true=>match mS Γ x.ob x.o s with|some (c,s')=>chk c (some s')|none=>none
    |false=>some (s.setO x.o.dst (.tup []))
  | .tup []=>some (s.setO x.o.dst (.tup []))
  |_=>none
theorem aC3(s:St)(n:Nat){v:V}(h:s.get n=v):s.set n v=s:=by
 subst h
 simp only[St.set,St.get,List.getD]
 congr 1
 apply List.ext_getElem?
 intro m
 rw[List.getElem?_set]
 split
 ·rename_i e
  subst e
  split
  ·rename_i hlt;simp[List.getElem?_eq_getElem hlt]
  ·rename_i hlt;simp[List.getElem?_eq_none (Nat.le_of_not_lt hlt)]
 ·rfl
theorem adf{R:Type}(x:GOp)(l:List GOp)(K:St→Option R)(s:St):fV Γ (x::l) K s=(jN Γ x s).bind (fV Γ l K):=by
 obtain⟨g,o,ob⟩:=x
 have go:∀s,(match mS Γ ob o s with|some (c,s')=>chk c (fV Γ l K s')|none=>none)=(match mS Γ ob o s with|some (c,s')=>chk c (some s')|none=>none).bind (fV Γ l K):=by
  intro s
  split
  ·rename_i c s' _;cases c<;>rfl
  ·rfl
 cases g with
 |none=>simp only[fV,jN];exact go s
 |some g=>
  obtain⟨g,w⟩:=g
  simp only[fV,jN]
  split
  ·rename_i b hb
   rw[hb]
   cases b<;>cases w<;>simp only[cond_true,cond_false,aC3 s g hb]<;>first|exact go s|rfl
  ·rename_i hb
   rw[hb]
   rfl
  ·rename_i hno hno2
   split
   ·rename_i b hb;exact absurd hb (hno b)
   ·rename_i hb;exact absurd hb hno2
   ·rfl
theorem aA5{o:IOp}{s t:St}(h:∀n∈o.rd,t.get n=s.get n):o.foot t=o.foot s:=by
 cases o with
 |ld d n agg take x=>simp only[IOp.foot];rw[dV (x:=x) h]
 |st d n x v=>simp only[IOp.foot];rw[dV (x:=x) fun n hn=>h n (by simp[IOp.rd,hn])]
 |call d f avs=>
  have e:avs.map (fun x=>disown (x.ev t))=avs.map (fun x=>disown (x.ev s)):=List.map_congr_left fun x hx=>by rw[dV fun n hn=>h n (by simp only[IOp.rd,List.mem_flatMap];exact⟨x,hx,hn⟩)]
  simp only[IOp.foot,e]
 |ldw d n agg x=>simp only[IOp.foot];rw[dV (x:=x) h]
 |stw d n x v=>simp only[IOp.foot];rw[dV (x:=x) fun n hn=>h n (by simp[IOp.rd,hn])]
 |_=>rfl
theorem ap6{ob:Option (List Nat×List Nat)}{o:IOp}{s t:St}{p q:Bool×St}(h:mS Γ ob o s=some p)(ht:∀n∈o.rd,t.get n=s.get n)(hq:step Γ o t=some q):mS Γ ob o t=some q:=by
 cases ob with
 |none=>exact hq
 |some l=>
  simp only[mS] at h ⊢
  have e:o.within l t=o.within l s:=by simp only[IOp.within,aA5 ht]
  rw[e]
  cases hw:o.within l s with
  |true=>exact hq
  |false=>rw[hw] at h;simp at h
def GOp.rd(x:GOp):List Nat:=(match x.g with|some (g,_)=>[g]|none=>[])++x.o.rd
theorem akU(hP:dU Γ imp){x:GOp}{s s':St}(h:jN Γ x s=some s'):
  ∃(u:List (Nat×V))(q:Option (List aJ)),(∀p∈u,p.1∈x.o.wr)∧(x.o.cls imp≤1→q=none)∧s'=s.put u q∧
   ∀t:St,(∀n∈x.rd,t.get n=s.get n)→(1≤x.o.cls imp→t.hp=s.hp)→jN Γ x t=some (t.put u q):=by
 obtain⟨g,o,ob⟩:=x
 have go:(match mS Γ ob o s with|some (c,s')=>chk c (some s')|none=>none)=some s'→∃(u:List (Nat×V))(q:Option (List aJ)),(∀p∈u,p.1∈o.wr)∧(o.cls imp≤1→q=none)∧s'=s.put u q∧
   ∀t:St,(∀n∈o.rd,t.get n=s.get n)→(1≤o.cls imp→t.hp=s.hp)→(match mS Γ ob o t with|some (c,s')=>chk c (some s')|none=>none)=some (t.put u q):=by
  intro h
  split at h
  ·rename_i c s₁ hst
   cases c with
   |false=>simp[chk] at h
   |true=>
    obtain rfl:s₁=s':=by simpa [chk] using h
    obtain⟨u,q,h1,h2,h3,h4⟩:=ayt hP (acT hst)
    exact⟨u,q,h1,h2,h3,fun t ht hh=>by rw[ap6 hst ht (h4 t ht hh)];rfl⟩
  ·simp at h
 cases g with
 |none=>
  obtain⟨u,q,h1,h2,h3,h4⟩:=go h
  exact⟨u,q,h1,h2,h3,fun t ht hh=>h4 t (fun n hn=>ht n (by simp[GOp.rd,hn])) hh⟩
 |some g=>
  obtain⟨g,w⟩:=g
  simp only[jN] at h
  split at h
  ·rename_i b hb
   split at h
   ·rename_i hbw
    obtain⟨u,q,h1,h2,h3,h4⟩:=go h
    refine⟨u,q,h1,h2,h3,fun t ht hh=>?_⟩
    have e:=ht g (by simp[GOp.rd])
    simp only[jN,e,hb,hbw]
    exact h4 t (fun n hn=>ht n (by simp[GOp.rd,hn])) hh
   ·rename_i hbw
    obtain rfl:_=s':=by simpa using h
    refine⟨o.dst.toList.map (fun d=>(d,V.tup [])),none,?_,fun _=>rfl,by rw[dW];rfl,fun t ht hh=>?_⟩
    ·intro p hp
     simp only[List.mem_map] at hp
     obtain⟨m,hm,rfl⟩:=hp
     simp[IOp.wr,hm]
    ·have e:=ht g (by simp[GOp.rd])
     simp only[jN,e,hb,hbw]
     rw[dW];rfl
  ·rename_i hb
   obtain rfl:_=s':=by simpa using h
   refine⟨o.dst.toList.map (fun d=>(d,V.tup [])),none,?_,fun _=>rfl,by rw[dW];rfl,fun t ht hh=>?_⟩
   ·intro p hp
    simp only[List.mem_map] at hp
    obtain⟨m,hm,rfl⟩:=hp
    simp[IOp.wr,hm]
   ·have e:=ht g (by simp[GOp.rd])
    simp only[jN,e,hb]
    rw[dW];rfl
  ·simp at h
def aoK(a b:List Nat):Bool:=a.all fun n=> !b.contains n
def IOp.obable(imp:List Nat):IOp→Bool
 | .ld .. | .st .. | .ldw .. | .stw .. =>true
 | .call _ f _=>imp.contains (f+2000000)
 |_=>false
def apart(imp:List Nat)(x y:GOp):Bool:=(x.o.obable imp&&y.o.obable imp)&&(match x.ob,y.ob with
 |some (r,w),some (r',w')=>aoK w r'&&(aoK w w'&&aoK w' r)
 |_,_=>false)
def ap7(imp:List Nat)(x y:GOp):Bool:=
 aoK x.o.wr y.rd&&(aoK y.o.wr x.rd&&(aoK x.o.wr y.o.wr&&(((Nat.ble (x.o.cls imp) 1||Nat.beq (y.o.cls imp) 0)&&(Nat.ble (y.o.cls imp) 1||Nat.beq (x.o.cls imp) 0))||apart imp x y)))
def St.putH(s:St)(u:List (Nat×V))(q:List (Nat×aJ)):St:={s.upd u with hp:=akT s.hp q}
theorem aoL{s t:St}{i:Nat}(h:t.hp[i]? =s.hp[i]?):t.obj i=s.obj i:=by
 unfold St.obj
 rw[aeE h]
theorem atZ{s t:St}{i:Nat}(h:t.hp[i]? =s.hp[i]?):t.rowW i=s.rowW i:=by
 unfold St.rowW
 rw[aeE h]
theorem aA6(hP:dU Γ imp){o:IOp}(ho:o.obable imp=true){s:St}{c:Bool}{s':St}{r w:List Nat}(hf:o.foot s=some (r,w))(h:step Γ o s=some (c,s')):
  ∃(u:List (Nat×V))(q:List (Nat×aJ)),(∀p∈u,p.1∈o.wr)∧(∀p∈q,p.1∈w)∧s'=s.putH u q∧
   ∀t:St,(∀n∈o.rd,t.get n=s.get n)→t.hp.length=s.hp.length→(∀i,i∈r∨i∈w→t.hp[i]? =s.hp[i]?)→step Γ o t=some (c,t.putH u q):=by
 cases o with
 |ld d n agg take x=>
  have ex:∀t:St,(∀n∈(IOp.ld d n agg take x).rd,t.get n=s.get n)→x.ev t=x.ev s:=fun t ht=>dV ht
  cases hx:x.ev s with
  |ea cs=>
   simp only[step,hx] at h
   split at h
   ·rename_i hn
    simp only[Option.some.injEq,Prod.mk.injEq] at h
    obtain⟨rfl,rfl⟩:=h
    refine⟨[(d,disown (iO agg (cs.take n)))],[],by simp[IOp.wr,IOp.dst],by simp,rfl,fun t ht _ _=>?_⟩
    simp only[step,ex t ht,hx,if_pos hn]
    rfl
   ·simp at h
  |ptr id o=>
   simp only[IOp.foot,hx,Option.some.injEq] at hf
   simp only[step,hx] at h
   cases hob:s.obj id with
   |none=>rw[hob] at h;simp at h
   |some cs=>
    rw[hob] at h
    simp only at h
    split at h
    ·rename_i hn
     cases take with
     |false=>
      simp only[cond_false,Prod.mk.injEq] at hf
      obtain⟨rfl,rfl⟩:=hf
      simp only[Bool.false_eq_true,if_false,Option.some.injEq,Prod.mk.injEq] at h
      obtain⟨rfl,rfl⟩:=h
      refine⟨[(d,disown (iO agg ((cs.drop o).take n)))],[],by simp[IOp.wr,IOp.dst],by simp,rfl,fun t ht _ hh=>?_⟩
      have e:=aoL (hh id (.inl (by simp)))
      simp only[step,ex t ht,hx,e,hob,if_pos hn]
      rfl
     |true=>
      simp only[cond_true,Prod.mk.injEq] at hf
      obtain⟨rfl,rfl⟩:=hf
      simp only[if_true] at h
      split at h
      ·rename_i hb
       simp only[Option.some.injEq,Prod.mk.injEq] at h
       obtain⟨rfl,rfl⟩:=h
       refine⟨[(d,iO agg ((cs.drop o).take n))],[(id,some (cs.set o (disown (cs.getD o .undef))))],by simp[IOp.wr,IOp.dst],by simp,rfl,fun t ht _ hh=>?_⟩
       have e:=aoL (hh id (.inr (by simp)))
       simp only[step,ex t ht,hx,e,hob,if_pos hn,if_true,if_pos hb]
       rfl
      ·simp at h
    ·simp at h
  |_=>simp[IOp.foot,hx] at hf
 |st d n x v=>
  have ex:∀t:St,(∀n∈(IOp.st d n x v).rd,t.get n=s.get n)→x.ev t=x.ev s:=fun t ht=>dV fun n hn=>ht n (by simp[IOp.rd,hn])
  have ev:∀t:St,(∀n∈(IOp.st d n x v).rd,t.get n=s.get n)→v.ev t=v.ev s:=fun t ht=>dV fun n hn=>ht n (by simp[IOp.rd,hn])
  have ea:∀t:St,(∀n∈(IOp.st d n x v).rd,t.get n=s.get n)→v.takes.map (fun n=>(n,disown (t.get n)))=v.takes.map (fun n=>(n,disown (s.get n))):=by
   intro t ht
   cases v with
   |tk m=>simp only[aR.takes,List.map];rw[ht m (by simp[IOp.rd,aR.slots])]
   |_=>rfl
  cases hx:x.ev s with
  |ptr id o=>
   simp only[IOp.foot,hx,Option.some.injEq,Prod.mk.injEq] at hf
   obtain⟨rfl,rfl⟩:=hf
   simp only[step,hx] at h
   cases hob:s.obj id with
   |none=>rw[hob] at h;simp at h
   |some cs=>
    rw[hob] at h
    simp only at h
    split at h
    ·rename_i hn
     simp only[Option.some.injEq,Prod.mk.injEq] at h
     obtain⟨rfl,rfl⟩:=h
     refine⟨v.takes.map (fun n=>(n,disown (s.get n)))++d.toList.map (fun d=>(d,V.undef)),[(id,some (cs.take o++(v.ev s).cells++cs.drop (o+n)))],?_,by simp,?_,fun t ht _ hh=>?_⟩
     ·intro p hp
      simp only[List.mem_append,List.mem_map] at hp
      rcases hp with⟨m,hm,rfl⟩|⟨m,hm,rfl⟩
      ·simp[IOp.wr,IOp.dst,hm]
      ·simp only[Option.mem_toList] at hm
       simp[IOp.wr,IOp.dst,hm]
     ·rw[jJ,dW]
      simp only[St.putH,←lM]
      rfl
     ·have e:=aoL (hh id (.inr (by simp)))
      simp only[step,ex t ht,ev t ht,hx,e,hob,if_pos hn]
      rw[jJ,dW,ea t ht]
      simp only[St.putH,←lM]
      rfl
    ·simp at h
  |_=>simp[IOp.foot,hx] at hf
 |call d f avs=>
  have e:∀t:St,(∀n∈(IOp.call d f avs).rd,t.get n=s.get n)→avs.map (fun x=>disown (x.ev t))=avs.map (fun x=>disown (x.ev s)):=fun t ht=>List.map_congr_left fun x hx=>by rw[dV fun n hn=>ht n (by simp only[IOp.rd,List.mem_flatMap];exact⟨x,hx,hn⟩)]
  simp only[IOp.foot,Option.some.injEq,Prod.mk.injEq] at hf
  obtain⟨rfl,rfl⟩:=hf
  simp only[step] at h
  split at h
  ·rename_i c' v' hp' hg
   simp only[Option.some.injEq,Prod.mk.injEq] at h
   obtain⟨rfl,rfl⟩:=h
   obtain⟨q,q1,rfl,q3⟩:=hP.loc f _ _ _ _ _ ho hg
   refine⟨d.toList.map (fun d=>(d,v')),q,?_,q1,?_,fun t ht hl hh=>?_⟩
   ·intro p hp
    simp only[List.mem_map,Option.mem_toList] at hp
    obtain⟨m,hm,rfl⟩:=hp
    simp[IOp.wr,IOp.dst,hm]
   ·rw[dW];rfl
   ·have:=q3 t.hp hl (fun i hi=>hh i (.inl hi))
    simp only[step,e t ht,this]
    rw[dW];rfl
  ·simp at h
 |ldw d n agg x=>
  have ex:∀t:St,(∀n∈(IOp.ldw d n agg x).rd,t.get n=s.get n)→x.ev t=x.ev s:=fun t ht=>dV ht
  cases hx:x.ev s with
  |wp id k i o=>
   simp only[IOp.foot,hx,Option.some.injEq,Prod.mk.injEq] at hf
   obtain⟨rfl,rfl⟩:=hf
   simp only[step,hx] at h
   cases hob:s.rowW id with
   |none=>rw[hob] at h;simp at h
   |some p=>
    obtain⟨k',xs⟩:=p
    rw[hob] at h
    simp only at h
    split at h
    ·rename_i hn
     simp only[Option.some.injEq,Prod.mk.injEq] at h
     obtain⟨rfl,rfl⟩:=h
     refine⟨[(d,disown (iO agg (((enc k' (xs.getD i (aC k'))).drop o).take n)))],[],by simp[IOp.wr,IOp.dst],by simp,rfl,fun t ht _ hh=>?_⟩
     have e:=atZ (hh id (.inl (by simp)))
     simp only[step,ex t ht,hx,e,hob,if_pos hn]
     rfl
    ·simp at h
  |_=>simp[IOp.foot,hx] at hf
 |stw d n x v=>
  have ex:∀t:St,(∀n∈(IOp.stw d n x v).rd,t.get n=s.get n)→x.ev t=x.ev s:=fun t ht=>dV fun n hn=>ht n (by simp[IOp.rd,hn])
  have ev:∀t:St,(∀n∈(IOp.stw d n x v).rd,t.get n=s.get n)→v.ev t=v.ev s:=fun t ht=>dV fun n hn=>ht n (by simp[IOp.rd,hn])
  cases hx:x.ev s with
  |wp id k i o=>
   simp only[IOp.foot,hx,Option.some.injEq,Prod.mk.injEq] at hf
   obtain⟨rfl,rfl⟩:=hf
   simp only[step,hx] at h
   cases hob:s.rowW id with
   |none=>rw[hob] at h;simp at h
   |some p=>
    obtain⟨k',xs⟩:=p
    rw[hob] at h
    simp only at h
    split at h
    ·rename_i hn
     cases he:akO k' (xs.getD i (aC k')) o (v.ev s).cells with
     |none=>rw[he] at h;simp at h
     |some x2=>
      rw[he] at h
      simp only[Option.some.injEq,Prod.mk.injEq] at h
      obtain⟨rfl,rfl⟩:=h
      refine⟨d.toList.map (fun d=>(d,V.undef)),[(id,some [.rw k' (xs.set i x2)])],?_,by simp,?_,fun t ht _ hh=>?_⟩
      ·intro p hp
       simp only[List.mem_map,Option.mem_toList] at hp
       obtain⟨m,hm,rfl⟩:=hp
       simp[IOp.wr,IOp.dst,hm]
      ·rw[dW];rfl
      ·have e:=atZ (hh id (.inr (by simp)))
       simp only[step,ex t ht,ev t ht,hx,e,hob,if_pos hn,he]
       rw[dW];rfl
    ·simp at h
  |_=>simp[IOp.foot,hx] at hf
 |_=>simp[IOp.obable] at ho
theorem ayu{o:IOp}{R W:List Nat}{s:St}(h:o.within (R,W) s=true):∃r w,o.foot s=some (r,w)∧(∀i∈r,i∈R∨i∈W)∧∀i∈w,i∈W:=by
 unfold IOp.within at h
 split at h
 ·rename_i r w hf
  simp only[Bool.and_eq_true,List.all_eq_true,Bool.or_eq_true,List.any_eq_true] at h
  refine⟨r,w,hf,?_,?_⟩
  ·intro i hi
   rcases h.1 i hi with⟨j,hj,e⟩|⟨j,hj,e⟩
   ·left;rw[Nat.eq_of_beq_eq_true e];exact hj
   ·right;rw[Nat.eq_of_beq_eq_true e];exact hj
  ·intro i hi
   obtain⟨j,hj,e⟩:=h.2 i hi
   rw[Nat.eq_of_beq_eq_true e];exact hj
 ·simp at h
theorem ap8(hP:dU Γ imp){x:GOp}{R W:List Nat}(ho:x.o.obable imp=true)(hob:x.ob=some (R,W)){s s':St}(h:jN Γ x s=some s'):
  ∃(u:List (Nat×V))(q:List (Nat×aJ)),(∀p∈u,p.1∈x.o.wr)∧(∀p∈q,p.1∈W)∧s'=s.putH u q∧
   ∀t:St,(∀n∈x.rd,t.get n=s.get n)→t.hp.length=s.hp.length→(∀i,i∈R∨i∈W→t.hp[i]? =s.hp[i]?)→jN Γ x t=some (t.putH u q):=by
 obtain⟨g,o,ob⟩:=x
 obtain rfl:ob=some (R,W):=hob
 have go:(match mS Γ (some (R,W)) o s with|some (c,s')=>chk c (some s')|none=>none)=some s'→∃(u:List (Nat×V))(q:List (Nat×aJ)),(∀p∈u,p.1∈o.wr)∧(∀p∈q,p.1∈W)∧s'=s.putH u q∧
   ∀t:St,(∀n∈o.rd,t.get n=s.get n)→t.hp.length=s.hp.length→(∀i,i∈R∨i∈W→t.hp[i]? =s.hp[i]?)→(match mS Γ (some (R,W)) o t with|some (c,s')=>chk c (some s')|none=>none)=some (t.putH u q):=by
  intro h
  split at h
  ·rename_i c s₁ hst
   cases c with
   |false=>simp[chk] at h
   |true=>
    obtain rfl:s₁=s':=by simpa [chk] using h
    have hw:o.within (R,W) s=true:=by
     cases hw:o.within (R,W) s with
     |true=>rfl
     |false=>simp[mS,hw] at hst
    obtain⟨r,w,hf,hr,hwW⟩:=ayu hw
    obtain⟨u,q,h1,h2,h3,h4⟩:=aA6 hP ho hf (acT hst)
    exact⟨u,q,h1,fun p hp=>hwW _ (h2 p hp),h3,fun t ht hl hh=>by
     rw[ap6 hst ht (h4 t ht hl (fun i hi=>hi.elim (fun hi=>hh i (hr i hi)) (fun hi=>hh i (.inr (hwW i hi)))))];rfl⟩
  ·simp at h
 have off:∀s:St,s.setO o.dst (.tup [])=s.putH (o.dst.toList.map fun d=>(d,V.tup [])) []:=fun s=>by rw[dW];rfl
 have offw:∀p∈o.dst.toList.map fun d=>(d,V.tup []),p.1∈o.wr:=by
  intro p hp
  simp only[List.mem_map] at hp
  obtain⟨m,hm,rfl⟩:=hp
  simp[IOp.wr,hm]
 cases g with
 |none=>
  obtain⟨u,q,h1,h2,h3,h4⟩:=go h
  exact⟨u,q,h1,h2,h3,fun t ht=>h4 t (fun n hn=>ht n (by simp[GOp.rd,hn]))⟩
 |some g=>
  obtain⟨g,w⟩:=g
  simp only[jN] at h
  split at h
  ·rename_i b hb
   split at h
   ·rename_i hbw
    obtain⟨u,q,h1,h2,h3,h4⟩:=go h
    refine⟨u,q,h1,h2,h3,fun t ht hl hh=>?_⟩
    have e:=ht g (by simp[GOp.rd])
    simp only[jN,e,hb,hbw]
    exact h4 t (fun n hn=>ht n (by simp[GOp.rd,hn])) hl hh
   ·rename_i hbw
    obtain rfl:_=s':=by simpa using h
    refine⟨_,[],offw,by simp,off s,fun t ht hl hh=>?_⟩
    have e:=ht g (by simp[GOp.rd])
    simp only[jN,e,hb,hbw]
    rw[off]
  ·rename_i hb
   obtain rfl:_=s':=by simpa using h
   refine⟨_,[],offw,by simp,off s,fun t ht hl hh=>?_⟩
   have e:=ht g (by simp[GOp.rd])
   simp only[jN,e,hb]
   rw[off]
  ·simp at h
theorem xT{a b:List Nat}(h:aoK a b=true):∀n∈a,n ∉ b:=by
 intro n hn
 have:=List.all_eq_true.1 h n hn
 simpa using this
theorem ar4{α:Type}(u:List (Nat×α)):∀(e:List α)(n:Nat)(v:α),(∀p∈u,p.1≠n)→u.foldl (fun e p=>e.set p.1 p.2) (e.set n v)=(u.foldl (fun e p=>e.set p.1 p.2) e).set n v:=by
 induction u with
 |nil=>intro e n v _;rfl
 |cons p u ih=>
  intro e n v h
  simp only[List.foldl_cons]
  rw[List.set_comm _ _ (Ne.symm (h p (List.mem_cons_self ..))),ih _ _ _ (fun q hq=>h q (List.mem_cons_of_mem _ hq))]
theorem xB{α:Type}(v:List (Nat×α)):∀(u:List (Nat×α))(e:List α),(∀p∈u,∀q∈v,p.1≠q.1)→
  v.foldl (fun e p=>e.set p.1 p.2) (u.foldl (fun e p=>e.set p.1 p.2) e)=u.foldl (fun e p=>e.set p.1 p.2) (v.foldl (fun e p=>e.set p.1 p.2) e):=by
 induction v with
 |nil=>intro u e _;rfl
 |cons q v ih=>
  intro u e h
  simp only[List.foldl_cons]
  rw[←ar4 u e q.1 q.2 (fun p hp=>h p hp q (List.mem_cons_self ..)),ih u _ (fun p hp r hr=>h p hp r (List.mem_cons_of_mem _ hr))]
theorem aEr(hP:dU Γ imp){x y:GOp}(hi:ap7 imp y x=true){s s1 s2:St}(h1:jN Γ y s=some s1)(h2:jN Γ x s1=some s2):
  ∃s1',jN Γ x s=some s1'∧jN Γ y s1'=some s2:=by
 simp only[ap7,Bool.and_eq_true,Bool.or_eq_true,Nat.ble_eq] at hi
 obtain⟨d1,d2,d3,hi⟩:=hi
 have d1:=xT d1
 have d2:=xT d2
 have d3:=xT d3
 rcases hi with⟨c1,c2⟩|ha
 case inr=>
  simp only[apart,Bool.and_eq_true] at ha
  obtain⟨⟨oy,ox⟩,ha⟩:=ha
  split at ha
  ·rename_i Ry Wy Rx Wx hby hbx
   simp only[Bool.and_eq_true] at ha
   obtain⟨a1,a2,a3⟩:=ha
   have a1:=xT a1
   have a2:=xT a2
   have a3:=xT a3
   obtain⟨uy,qy,wy,ky,rfl,ly⟩:=ap8 hP oy hby h1
   obtain⟨ux,qx,wx,kx,rfl,lx⟩:=ap8 hP ox hbx h2
   have gy:∀t:St,∀n∈x.rd,(t.putH uy qy).get n=t.get n:=fun t n hn=>am0 (s:=t) (l:=uy) (fun p hp e=>d1 p.1 (wy p hp) (e▸hn))
   have gx:∀t:St,∀n∈y.rd,(t.putH ux qx).get n=t.get n:=fun t n hn=>am0 (s:=t) (l:=ux) (fun p hp e=>d2 p.1 (wx p hp) (e▸hn))
   have hx:=lx s (fun n hn=>(gy s n hn).symm) (anQ qy s.hp).symm (fun i hi=>(awy (fun p hp e=>by
    subst e
    rcases hi with hi|hi
    ·exact a1 _ (ky p hp) hi
    ·exact a2 _ (ky p hp) hi)).symm)
   have hy:=ly (s.putH ux qx) (fun n hn=>gx s n hn) (anQ qx s.hp) (fun i hi=>awy (fun p hp e=>by
    subst e
    rcases hi with hi|hi
    ·exact a3 _ (kx p hp) hi
    ·exact a2 _ hi (kx p hp)))
   refine⟨_,hx,hy.trans ?_⟩
   congr 1
   have e1:=xB uy ux s.env (fun p hp q hq e=>d3 q.1 (wy q hq) (e▸wx p hp))
   have e2:=xB qy qx s.hp (fun p hp q hq e=>a2 q.1 (ky q hq) (e▸kx p hp))
   simp only[St.putH,St.upd,St.mk.injEq]
   exact⟨e1,e2⟩
  ·simp at ha
 have c1:y.o.cls imp≤1∨x.o.cls imp=0:=c1.imp id Nat.eq_of_beq_eq_true
 have c2:x.o.cls imp≤1∨y.o.cls imp=0:=c2.imp id Nat.eq_of_beq_eq_true
 obtain⟨uy,qy,wy,ky,rfl,ly⟩:=akU hP h1
 obtain⟨ux,qx,wx,kx,rfl,lx⟩:=akU hP h2
 have gy:∀t:St,∀n∈x.rd,(t.put uy qy).get n=t.get n:=fun t n hn=>am0 (s:=t) (l:=uy) (fun p hp e=>d1 p.1 (wy p hp) (e▸hn))
 have gx:∀t:St,∀n∈y.rd,(t.put ux qx).get n=t.get n:=fun t n hn=>am0 (s:=t) (l:=ux) (fun p hp e=>d2 p.1 (wx p hp) (e▸hn))
 have hx:=lx s (fun n hn=>(gy s n hn).symm) (fun hc=>by
  rcases c1 with c1|c1
  ·rw[ky c1];rfl
  ·omega)
 have hy:=ly (s.put ux qx) (fun n hn=>gx s n hn) (fun hc=>by
  rcases c2 with c2|c2
  ·rw[kx c2];rfl
  ·omega)
 refine⟨_,hx,hy.trans ?_⟩
 congr 1
 have e1:=xB uy ux s.env (fun p hp q hq e=>d3 q.1 (wy q hq) (e▸wx p hp))
 simp only[St.put,St.upd,St.mk.injEq]
 refine⟨e1,?_⟩
 rcases c1 with c1|c1
 ·rw[ky c1];rfl
 ·rw[kx (by omega)];rfl
theorem aCR(hP:dU Γ imp){R:Type}{K:St→Option R}{r:R}{x:GOp}{B:List GOp}:∀(A:List GOp)(s:St),(∀y∈A,ap7 imp y x=true)→
  fV Γ (A++x::B) K s=some r→∃s',jN Γ x s=some s'∧fV Γ (A++B) K s'=some r
 | [],s,_,h=>by
   rw[List.nil_append,adf] at h
   exact Option.bind_eq_some_iff.1 h
 |y::A,s,hA,h=>by
  rw[List.cons_append,adf] at h
  obtain⟨s1,h1,h2⟩:=Option.bind_eq_some_iff.1 h
  obtain⟨s2,h3,h4⟩:=aCR hP A s1 (fun y hy=>hA y (List.mem_cons_of_mem _ hy)) h2
  obtain⟨s1',h5,h6⟩:=aEr hP (hA y (List.mem_cons_self ..)) h1 h3
  refine⟨s1',h5,?_⟩
  rw[List.cons_append,adf,h6]
  exact h4
end
def jO(G:Nat→List V→Option (Bool×V)):aN:=fun f vs hp=>match G f vs with|some x=>some (x.1,x.2,hp)|none=>none
theorem eI(G:Nat→List V→Option (Bool×V))(imp:List Nat):dU (jO G) imp:=by
 refine⟨?_,?_⟩
 ·intro f avs hp _
  unfold jO
  cases G f avs<;>rfl
 ·intro f vs hp c v hp' _ h
  unfold jO at h ⊢
  cases hg:G f vs with
  |none=>rw[hg] at h;simp at h
  |some x=>
   rw[hg] at h
   simp only[Option.some.injEq,Prod.mk.injEq] at h
   obtain⟨rfl,rfl,rfl⟩:=h
   exact⟨[],by simp,rfl,fun hp2 _ _=>rfl⟩
theorem fE{G:Nat→List V→Option (Bool×V)}{f:Nat}{vs:List V}{hp hp':List aJ}{c:Bool}{v:V}(h:jO G f vs hp=some (c,v,hp')):G f vs=some (c,v)∧hp'=hp:=by
 unfold jO at h
 cases hg:G f vs with
 |none=>rw[hg] at h;simp at h
 |some x=>
  rw[hg] at h
  simp only[Option.some.injEq,Prod.mk.injEq] at h
  obtain⟨rfl,rfl,rfl⟩:=h
  exact⟨rfl,rfl⟩
end Go.AM
end
noncomputable section
namespace Go.AM
set_option autoImplicit false
set_option linter.unusedSimpArgs false
set_option linter.unusedVariables false
def azz(P:Program)(o:IOp)(m:Oper):Bool:=
 match o with
 |_=>false
section
variable{w w':World}{g g':Gh}{s s':St}{a:Act}{P:Program}{Γ:aN}{m:Oper}{next:Act→World→Prop}{Q:Exit→Act→World→Prop}
end
end Go.AM
end
noncomputable section
namespace Go.AM
open Go.MapKept
set_option autoImplicit false
set_option linter.unusedSimpArgs false
set_option linter.unusedVariables false
def aA7(P:Program)(o:IOp)(m:Oper):Bool:=
 match o with
 |_=>false
section
variable{w w':World}{g g':Gh}{s s':St}{a:Act}{P:Program}{Γ:aN}{m:Oper}{next:Act→World→Prop}{Q:Exit→Act→World→Prop}
theorem ahY.set{k:MK}{es:List (k.K×k.T)}{ents:Array MapEntry}{clock:Nat}(h:ahY es ents clock){i:Nat}{x:k.K}{v:k.T}(hv:k.okT v):
  ahY (es.set i (x,v)) (ents.modify i fun e=>{e with key:=k.keyV x,val:=k.valV v}) clock:=by
 refine⟨by simp[h.1],by simp[h.2.1],?_⟩
 intro j e en h1 h2
 rw[List.getElem?_set] at h1
 rw[Array.getElem?_modify] at h2
 by_cases hj:i=j
 ·subst hj
  rw[if_pos rfl] at h1 h2
  split at h1
  ·cases h1
   rw[Option.map_eq_some_iff] at h2
   obtain⟨en',h3,rfl⟩:=h2
   rename_i hlt
   exact⟨(h.2.2 _ _ _ (List.getElem?_eq_getElem hlt) h3).1,rfl,rfl,hv⟩
  ·simp at h1
 ·rw[if_neg hj] at h1 h2
  exact h.2.2 j e en h1 h2
theorem ahY.push{k:MK}{es:List (k.K×k.T)}{ents:Array MapEntry}{clock:Nat}(h:ahY es ents clock){x:k.K}{v:k.T}(hv:k.okT v):
  ahY (es++[(x,v)]) (ents.push {key:=k.keyV x,val:=k.valV v,born:=clock}) (clock+1):=by
 refine⟨by simp[h.1],by simp[h.2.1],?_⟩
 intro j e en h1 h2
 rcases Nat.lt_or_ge j es.length with hj|hj
 ·rw[List.getElem?_append_left hj] at h1
  rw[Array.getElem?_push,if_neg (by rw[←h.1];omega)] at h2
  exact h.2.2 j e en h1 h2
 ·rw[List.getElem?_append_right hj] at h1
  have h0:j-es.length=0:=by
   have:=(List.getElem?_eq_some_iff.1 h1).1
   simp at this;omega
  rw[h0] at h1
  simp at h1
  subst h1
  have hj':j=ents.size:=by rw[←h.1];omega
  rw[Array.getElem?_push,if_pos hj'] at h2
  obtain rfl:=Option.some.inj h2
  exact⟨by rw[h.2.1];exact hj'.symm,rfl,rfl,hv⟩
theorem keeps{old new:Value}(h:Instr.sameBits 10000 old new=true)(w:World):(Instr.keyThatStays old new).run P w=.ok new w:=by
 simp[Instr.keyThatStays,h]
end
end Go.AM
end
noncomputable section
namespace Go.AM
set_option autoImplicit false
set_option linter.unusedSimpArgs false
set_option linter.unusedVariables false
def adg:List aR→List Operand→Bool
 | [],[]=>true
 |x::xs,y::ys=>bG x y&&adg xs ys
 |_,_=>false
def awz:Op→Option (FuncId×List Operand)
 | .call c=>match c.callee with| .value (.func f)=>some (f,c.args.toList)|_=>none
 |_=>none
def awA:Op→Option (Operand×List Operand)
 | .call c=>match c.callee with| .value (.tmp n)=>some (.tmp n,c.args.toList)|_=>none
 |_=>none
def ap9(P:Program)(f:FuncId):Bool:=match P.funcs[f]? with|some fn=>fn.body.isSome&&fn.name !="runtime.NumGoroutine"|none=>false
def ac6(P:Program)(o:IOp)(m:Oper):Bool:=
 match o with
 | .call d f avs=>(m.dst==d)&&(match awz m.op with|some (f',as')=>(f==f')&&(adg avs as'&&ap9 P f)|none=>false)
 | .dcall d f x avs=>(m.dst==d)&&(match awA m.op with|some (x',as')=>bG x x'&&(adg avs as'&&ap9 P f)|none=>false)
 |_=>false
def az7(P:Program)(o:IOp)(m:Oper):Bool:=bV P o m||wi P o m||ac6 P o m||nG P o m||azx P o m||azz P o m||yB P o m||pT P o m||aA7 P o m
def ar5(P:Program)(ops:Array Oper)(x:GOp)(m:Oper):Bool:=
 az7 P x.o m&&(x.o.dst==m.dst)&&(match x.g,m.guard with
  |none,none=>true
  |some (n,b),some (j,b')=>(b==b')&&((ops[j]?).bind (·.dst)==some n)
  |_,_=>false)
def aaX(P:Program)(ops:Array Oper):Nat→List GOp→Bool
 |i,[]=>i==ops.size
 |i,x::l=>(match ops[i]? with|some m=>ar5 P ops x m|none=>false)&&aaX P ops (i+1) l
def ac7(P:Program)(imp:List Nat)(ops:Array Oper)(l:List GOp)(pre:List (List Nat)):Bool:=
 (P.follows .mixedOrders&&aaX P ops 0 l)&&((List.range l.length).all fun j=>
  (match ops[j]? with
   |some m=>m.after.toList.all (fun e=> !Region.binds .any e||decide (e.on<j))&&(pre.getD j []).all (fun i=>m.after.toList.any fun e=>Region.binds .any e&&(e.on==i||(pre.getD e.on []).contains i))
   |none=>false)&&
  (match l[j]? with
   |some x=>(List.range j).all fun i=>(pre.getD j []).contains i||(match l[i]? with|some y=>ap7 imp y x|none=>false)
   |none=>false))
def cB(P:Program)(imp:List Nat)(base:Nat):IR→Code→Bool
 | .bad,_=>true
 | .skip,.skip=>true
 | .skip,.label _=>true
 | .reg l _,.region _ ops false=>aaX P ops 0 l
 | .reg l pre,.region _ ops true=>ac7 P imp ops l pre
 | .seq x y,.seq c d=>cB P imp base x c&&cB P imp base y d
 | .cond v x y,.cond u c d=>bG v u&&(cB P imp base x c&&cB P imp base y d)
 | .block i x,.block j c=>i==j&&cB P imp base x c
 | .loop _ n x,.loop c=>Nat.ble base n&&cB P imp base x c
 | .cut _ n x,c=>Nat.ble base n&&cB P imp base x c
 | .gh _ x,c=>cB P imp base x c
 | .ghp _ x,c=>cB P imp base x c
 | .exit i,.exit j=>i==j
 | .ret,.ret=>true
 |_,_=>false
def qW(P:Program)(f:FuncId)(vs:List V)(hp:List aJ)(v:V)(hp':List aJ):Prop:=
 ∀(w:World)(g:Gh)(cargs:Array Value),g.β=jM P→HR g hp w→vs.length=cargs.size→(∀x∈vs,x.bare=true)→
  (∀(i:Nat) x cv,vs[i]? =some x→cargs[i]? =some cv→VRel g.I g.ρ hp.length w x cv)→
  Calls P f cargs w fun e w'=>∃cv g',e=.returned cv∧HR g' hp' w'∧FR g hp w g' hp' w'∧VRel g'.I g'.ρ hp'.length w' v cv∧aW g' w' .res v cv
def cC(P:Program)(Γ:aN):Prop:=∀f vs hp v hp',Γ f vs hp=some (true,v,hp')→qW P f vs hp v hp'
section
variable{w:World}{g:Gh}{s s':St}{a:Act}{P:Program}{Γ:aN}{m:Oper}{next:Act→World→Prop}{Q:Exit→Act→World→Prop}
theorem aoM(h:ER g s.hp.length w s.env a.tmps):∀(xs:List aR)(ys:List Operand),adg xs ys=true→xs.length=ys.length∧
  ∀(i:Nat) v cv,(xs.map fun x=>disown (x.ev s))[i]? =some v→(ys.map a.eval)[i]? =some cv→VRel g.I g.ρ s.hp.length w v cv
 | [],[],_=>⟨rfl,by simp⟩
 |x::xs,y::ys,hp=>by
  simp only[adg,Bool.and_eq_true] at hp
  obtain⟨k1,k2⟩:=aoM h xs ys hp.2
  refine⟨by simp[k1],?_⟩
  intro i v cv hv hcv
  cases i with
  |zero=>
   simp at hv hcv
   subst hv hcv
   exact(bE hp.1 h).disown
  |succ i=>exact k2 i v cv (by simpa using hv) (by simpa using hcv)
 | [],_::_,hp=>by simp[adg] at hp
 |_::_,[],hp=>by simp[adg] at hp
theorem ayv{o:Op}{f:FuncId}{avs:List Operand}(h:awz o=some (f,avs)):∃ts,o=.call ⟨.value (.func f),⟨avs⟩,ts⟩:=by
 unfold awz at h
 split at h
 ·rename_i c
  obtain⟨callee,⟨args⟩,ats⟩:=c
  simp only at h
  split at h
  ·simp only[Option.some.injEq,Prod.mk.injEq] at h
   obtain⟨rfl,rfl⟩:=h
   exact⟨_,rfl⟩
  ·simp at h
 ·simp at h
def Gh.hide(g:Gh):Gh:={g with O:=fun b=>match g.O b with|some (.slot _)=>none|o=>o}
theorem HR.hide{hp:List aJ}(h:HR g hp w):HR g.hide hp w:=by
 refine⟨?_,h.apart,h.notI,?_,h.exI,?_⟩
 ·intro id cs hid
  refine(h.obj id cs hid).keep rfl fun arr e fz h1 h2=>?_
  refine⟨h2.len,h2.plain,h2.typed,h2.cold,h2.one,h2.rel,?_,h2.bn⟩
  intro j c cv hc hcv
  have:=h2.own j c cv hc hcv
  refine gE this rfl (fun b j hi=>⟨hi,rfl⟩) ?_
  intro b hb
  exact⟨by simp[Gh.hide,hb],rfl,fun j hj=>hj⟩
 ·intro id cs hid
  simp[Gh.hide,h.notO id cs hid]
 ·intro b o hb
  cases hO:g.O b with
  |none=>simp[Gh.hide,hO] at hb
  |some o'=>exact h.oLt b o' hO
def Gh.back(g g':Gh)(dst:Option Nat):Gh:={I:=g'.I,ρ:=g'.ρ,β:=g'.β,O:=fun b=>match g.O b with
 |some (.slot n)=>some (.slot n)
 |_=>match g'.O b with
  |some .res=>dst.map .slot
  |some (.slot _)=>none
  |o=>o}
theorem Gh.back_else{g g':Gh}{dst:Option Nat}{b:Nat}(h:∀n,g.O b≠some (.slot n)):(g.back g' dst).O b=(match g'.O b with
  |some .res=>dst.map .slot
  |some (.slot _)=>none
  |o=>o):=by
 cases hO:g.O b with
 |none=>simp only[Gh.back,hO]
 |some o=>
  cases o with
  |slot n=>exact absurd hO (h n)
  |cell i j=>simp only[Gh.back,hO]
  |res=>simp only[Gh.back,hO]
theorem at0{hp':List aJ}{w':World}{g':Gh}{dst:Option Nat}{v:V}{cv:Value}(h:SR g s w a)(q1:HR g' hp' w')(q2:FR g.hide s.hp w g' hp' w')
  (q3:VRel g'.I g'.ρ hp'.length w' v cv) (q4:aW g' w' .res v cv):
  SR (g.back g' dst) (St.setO {s with hp:=hp'} dst v) w' (a.put dst cv)∧FR g s.hp w (g.back g' dst) hp' w':=by
 have hidden:∀b n,g.O b=some (.slot n)→g.hide.O b=none:=fun b n hb=>by simp[Gh.hide,hb]
 have nonObj:∀b n,g.O b=some (.slot n)→∀(id:Nat) cs,s.hp[id]? =some (some cs)→g.hide.ρ id≠b:=by
  intro b n hb id cs hid e
  have:=h.hr.notO id cs hid
  rw[show g.ρ id=b from e,hb] at this
  simp at this
 have unslot:∀b o,g'.O b=some o→∀n,g.O b≠some (.slot n):=by
  intro b o hb n hn
  have:=q2.oSame b (h.hr.oLt _ _ hn) (nonObj b n hn) (hidden b n hn)
  rw[this] at hb
  simp at hb
 have backO:∀b o,g'.O b=some o→(∀n,o≠.slot n)→o≠.res→(g.back g' dst).O b=some o:=by
  intro b o hb h1 h2
  rw[Gh.back_else (unslot b o hb),hb]
  cases o with
  |slot n=>exact absurd rfl (h1 n)
  |cell i j=>rfl
  |res=>exact absurd rfl h2
 have blk:∀b n,g.O b=some (.slot n)→w'.heap[b]? =w.heap[b]?∧∀j,g'.I b j→g.I b j:=by
  intro b n hb
  have hlt:=h.hr.oLt _ _ hb
  exact⟨q2.block b hlt (nonObj b n hb) (hidden b n hb),fun j hj=>q2.iSame b j hlt (nonObj b n hb) (hidden b n hb) hj⟩
 have up:Up g.I g.ρ s.hp.length w g'.I g'.ρ hp'.length w':=q2.up
 have hs:SR (g.back g' dst) {s with hp:=hp'} w' a:=by
  refine⟨⟨?_,q1.apart,q1.notI,?_,q1.exI,?_⟩,⟨h.er.size,?_,?_⟩⟩
  ·intro id cs hid
   refine(q1.obj id cs hid).keep rfl fun arr e fz h1 h2=>?_
   refine⟨h2.len,h2.plain,h2.typed,h2.cold,h2.one,h2.rel,?_,h2.bn⟩
   intro j c cv hc hcv
   refine gE (h2.own j c cv hc hcv) rfl (fun b j hi=>⟨hi,rfl⟩) ?_
   intro b hb
   exact⟨backO b _ hb (by simp) (by simp),rfl,fun j hj=>hj⟩
  ·intro id cs hid
   have h0:=q1.notO id cs hid
   show (g.back g' dst).O (g'.ρ id)=none
   by_cases hsl:∃n,g.O (g'.ρ id)=some (.slot n)
   ·obtain⟨n,hn⟩:=hsl
    exfalso
    rcases q2.live id cs hid with⟨cs₀,hl⟩|⟨_,hl|hl|⟨id',cs',h5,h6⟩⟩
    ·have hlt:id<s.hp.length:=(List.getElem?_eq_some_iff.1 hl).1
     rw[show g'.ρ id=g.ρ id from q2.up.rho id hlt,h.hr.notO id cs₀ hl] at hn
     simp at hn
    ·have:=h.hr.oLt _ _ hn
     omega
    ·exact hl (hidden _ n hn)
    ·exact nonObj _ n hn id' cs' h5 h6
   ·rw[Gh.back_else (fun n hn=>hsl ⟨n,hn⟩),h0]
  ·intro b o hb
   by_cases hsl:∃n,g.O b=some (.slot n)
   ·obtain⟨n,hn⟩:=hsl
    have:=h.hr.oLt _ _ hn
    exact Nat.lt_of_lt_of_le this q2.size
   ·rw[Gh.back_else (fun n hn=>hsl ⟨n,hn⟩)] at hb
    cases hO:g'.O b with
    |none=>rw[hO] at hb;simp at hb
    |some o'=>exact q1.oLt b o' hO
  ·intro n v cv hv hcv
   exact(h.er.rel n v cv hv hcv).up up
  ·intro n v cv hv hcv
   refine gE (h.er.own n v cv hv hcv) q2.beta (fun b j hi=>⟨up.mono b j hi,up.cell b j hi⟩) ?_
   intro b hb
   obtain⟨b1,b2⟩:=blk b n hb
   exact⟨by simp[Gh.back,hb],b1,b2⟩
 have fr:FR g s.hp w (g.back g' dst) hp' w':=by
  refine⟨q2.beta,q2.os,q2.tape,q2.output,q2.size,?_,up,?_,?_,?_⟩
  ·intro b hb ho hO
   exact q2.block b hb ho (by simp[Gh.hide,hO])
  ·intro b j hb ho hO hj
   exact q2.iSame b j hb ho (by simp[Gh.hide,hO]) hj
  ·intro b hb ho hO
   have:=q2.oSame b hb ho (by simp[Gh.hide,hO])
   rw[Gh.back_else (by simp[hO]),this]
  ·intro id cs hid
   rcases q2.live id cs hid with hl|⟨h1,h2|h2|h2⟩
   ·exact .inl hl
   ·exact .inr ⟨h1,.inl h2⟩
   ·refine .inr ⟨h1,.inr (.inl fun h3=>h2 ?_)⟩
    show (match g.O (g'.ρ id) with|some (.slot _)=>none|o=>o)=none
    rw[show g.O (g'.ρ id)=none from h3]
   ·exact .inr ⟨h1,.inr (.inr h2)⟩
 refine⟨?_,fr⟩
 cases dst with
 |none=>exact hs
 |some d=>
  refine hs.set d q3 ?_
  cases v with
  |sl k o xs=>
   cases o with
   |may u=>simp[aW]
   |own=>
    cases cv with
    |slice ad len cap=>
     cases ad with
     |none=>simp[aW]
     |some ad=>
      obtain⟨o1,o2,o3⟩:=q4
      refine⟨?_,o2,o3⟩
      rw[Gh.back_else (unslot _ _ o1),o1]
      rfl
    |_=>simp[aW]
  |raw n=>
   cases cv with
   |pointer ad=>
    cases ad with
    |none=>simp[aW]
    |some ad=>
     obtain⟨o1,o2,o3⟩:=q4
     refine⟨?_,o2,o3⟩
     rw[Gh.back_else (unslot _ _ o1),o1]
     rfl
   |_=>simp[aW]
  |ul k xs=>
   rcases q4 with q4|⟨b,cap,arr,e,fz,m0,m1,m2,m3,m4,m5,m6,m7,m8,m9⟩
   ·exact .inl q4
   ·refine .inr ⟨b,cap,arr,e,fz,m0,m1,m2,m3,?_,m5,m6,m7,m8,m9⟩
    rw[Gh.back_else (unslot _ _ m4),m4]
    rfl
  |_=>simp[aW]
theorem aC4(hΓ:cC P Γ)(hβ:g.β=jM P){d:Option Nat}{f:Nat}{avs:List aR}(hc:ac6 P (.call d f avs) m=true)(hs:step Γ (.call d f avs) s=some (true,s'))(h:SR g s w a)(hn:dR g s w a s' next):m.wp P a w next Q:=by
 obtain⟨dst,op,ty,pos,aft,gd⟩:=m
 simp only[ac6,Bool.and_eq_true,beq_iff_eq] at hc
 obtain⟨rfl,hc⟩:=hc
 split at hc
 ·rename_i f' as' hop
  obtain⟨ts,rfl⟩:=ayv hop
  simp only[Bool.and_eq_true,beq_iff_eq] at hc
  obtain⟨rfl,h1,h2⟩:=hc
  simp only[step] at hs
  split at hs
  ·rename_i c v hp' hg
   simp only[Option.some.injEq,Prod.mk.injEq] at hs
   obtain⟨rfl,rfl⟩:=hs
   obtain⟨k1,k2⟩:=aoM h.er avs as' h1
   have hfn:=hΓ _ _ _ _ _ hg
   unfold ap9 at h2
   split at h2
   ·rename_i fn hfn'
    simp only[Bool.and_eq_true,bne_iff_ne,ne_eq] at h2
    obtain⟨h3,h4⟩:=h2
    have hnone:fn.body.isNone=false:=by cases hb:fn.body<;>simp_all
    have hrun:(execOp a.eval ⟨dst,.call ⟨.value (.func f),⟨as'⟩,ts⟩,ty,pos,aft,gd⟩).run P w=.ok (.enter f (as'.map a.eval).toArray) w:=by
     simp[execOp,resolve,Act.eval,Deferred.ofValue,invoke,callFunc,hfn',h4,hnone]
     intro hb0
     rw[hb0] at h3
     simp at h3
    unfold Oper.wp
    rw[hrun,Oper.upon_enter]
    refine(hfn w g.hide (as'.map a.eval).toArray hβ h.hr.hide (by simp[k1]) (by
     intro x hx
     obtain⟨y,_,rfl⟩:=List.mem_map.1 hx
     exact fx _) (fun i x cv hx hcv=>k2 i x cv hx (by simpa using hcv))).mono ?_
    rintro e w' ⟨cv,g',rfl,q1,q2,q3,q4⟩
    simp only
    obtain⟨r1,r2⟩:=at0 (dst:=dst) h q1 q2 q3 q4
    refine hn _ _ _ r1 ?_ (by cases dst<;>rfl)
    cases dst<;>exact r2
   ·simp at h2
  ·simp at hs
 ·simp at hc
theorem ayw{o:Op}{x:Operand}{avs:List Operand}(h:awA o=some (x,avs)):∃ts,o=.call ⟨.value x,⟨avs⟩,ts⟩:=by
 unfold awA at h
 split at h
 ·rename_i c
  obtain⟨callee,⟨args⟩,ats⟩:=c
  simp only at h
  split at h
  ·simp only[Option.some.injEq,Prod.mk.injEq] at h
   obtain⟨rfl,rfl⟩:=h
   exact⟨_,rfl⟩
  ·simp at h
 ·simp at h
theorem aCa(hΓ:cC P Γ)(hβ:g.β=jM P){d:Option Nat}{f:Nat}{x:aR}{avs:List aR}(hc:ac6 P (.dcall d f x avs) m=true)(hs:step Γ (.dcall d f x avs) s=some (true,s'))(h:SR g s w a)(hn:dR g s w a s' next):m.wp P a w next Q:=by
 obtain⟨dst,op,ty,pos,aft,gd⟩:=m
 simp only[ac6,Bool.and_eq_true,beq_iff_eq] at hc
 obtain⟨rfl,hc⟩:=hc
 split at hc
 ·rename_i x' as' hop
  obtain⟨ts,rfl⟩:=ayw hop
  simp only[Bool.and_eq_true,beq_iff_eq] at hc
  obtain⟨h0,h1,h2⟩:=hc
  have r0:=bE h0 h.er
  simp only[step] at hs
  split at hs
  ·rename_i f' aan hx
   rw[hx] at r0
   split at hs
   ·rename_i c v hp' hg
    simp only[Option.some.injEq,Prod.mk.injEq,Bool.and_eq_true] at hs
    obtain⟨⟨hff,rfl⟩,rfl⟩:=hs
    obtain rfl:=Nat.eq_of_beq_eq_true hff
    generalize hcv:a.eval x'=cv0 at r0
    cases r0 with
    |fn _ _ vs hl hv=>
    obtain⟨k1,k2⟩:=aoM h.er avs as' h1
    have hfn:=hΓ _ _ _ _ _ hg
    unfold ap9 at h2
    split at h2
    ·rename_i fn hfn'
     simp only[Bool.and_eq_true,bne_iff_ne,ne_eq] at h2
     obtain⟨h3,h4⟩:=h2
     have hnone:fn.body.isNone=false:=by cases hb:fn.body<;>simp_all
     have hrun:(execOp a.eval ⟨dst,.call ⟨.value x',⟨as'⟩,ts⟩,ty,pos,aft,gd⟩).run P w=.ok (.enter f' ((as'.map a.eval).toArray++vs)) w:=by
      simp[execOp,resolve,hcv,Deferred.ofValue,invoke,callFunc,hfn',h4,hnone]
      intro hb0
      rw[hb0] at h3
      simp at h3
     unfold Oper.wp
     rw[hrun,Oper.upon_enter]
     refine(hfn w g.hide ((as'.map a.eval).toArray++vs) hβ h.hr.hide (by simp[k1,hl]) (by
      intro x hx
      rcases List.mem_append.1 hx with hx|hx
      ·obtain⟨y,_,rfl⟩:=List.mem_map.1 hx
       exact fx _
      ·obtain⟨y,_,rfl⟩:=List.mem_map.1 hx
       exact fx _) (fun i x cv hx hcv=>by
       have hla:(avs.map fun y=>disown (y.ev s)).length=(as'.map a.eval).length:=by simp[k1]
       rcases Nat.lt_or_ge i (as'.map a.eval).length with hi|hi
       ·rw[List.getElem?_append_left (by rw[hla];exact hi)] at hx
        rw[Array.getElem?_append_left (by simpa using hi)] at hcv
        exact k2 i x cv hx (by simpa using hcv)
       ·rw[List.getElem?_append_right (by rw[hla];exact hi),List.getElem?_map,Option.map_eq_some_iff] at hx
        obtain⟨y,hy,rfl⟩:=hx
        rw[Array.getElem?_append_right (by simpa using hi)] at hcv
        refine(hv _ y cv hy ?_).disown
        rw[hla]
        simpa using hcv)).mono ?_
     rintro e w' ⟨cv,g',rfl,q1,q2,q3,q4⟩
     simp only
     obtain⟨r1,r2⟩:=at0 (dst:=dst) h q1 q2 q3 q4
     refine hn _ _ _ r1 ?_ (by cases dst<;>rfl)
     cases dst<;>exact r2
    ·simp at h2
   ·simp at hs
  ·simp at hs
 ·simp at hc
theorem awB(hΓ:cC P Γ)(hβ:g.β=jM P){o:IOp}(hc:az7 P o m=true)(hs:step Γ o s=some (true,s'))(h:SR g s w a)(hn:dR g s w a s' next):m.wp P a w next Q:=by
 unfold az7 at hc
 simp only[Bool.or_eq_true] at hc
 rcases hc with(((((((hc|hc)|hc)|hc)|hc)|hc)|hc)|hc)|hc
 ·cases o with
  |pick=>exact aCX hc hs h hn
  |bin=>exact aDA hc hs h hn
  |un=>exact aEf hc hs h hn
  |cvi=>exact aDx hc hs h hn
  |b2s=>exact aDy hc hs h hn
  |lens=>exact aCY hc hs h hn
  |lenl=>exact aCZ hc hs h hn
  |idx=>exact aDz hc hs h hn
  |ixa=>exact aDB hc hs h hn
  |subs=>exact aC0 hc hs h hn
  |subl=>exact aC1 hc hs h hn
  |fad=>exact aDC hc hs h hn
  |ext=>exact aDD hc hs h hn
  |nck=>exact aDE hc hs h hn
  |mx=>exact aEg hc hs h hn
  |ld d n agg take x=>
   cases take with
   |false=>exact az3 hc hs h hn
   |true=>simp[bV] at hc
  |_=>simp[bV] at hc
 ·cases o with
  |mov=>exact aDF hc hs h hn
  |bsl=>exact aDG hβ hc hs h hn
  |s2b=>exact aDI hβ hc hs h hn
  |app=>exact aDH hβ hc hs h hn
  |_=>simp[wi] at hc
 ·cases o with
  |call=>exact aC4 hΓ hβ hc hs h hn
  |dcall=>exact aCa hΓ hβ hc hs h hn
  |_=>simp[ac6] at hc
 ·cases o with
  |new=>exact aDJ hc hs h hn
  |box=>exact aDK hc hs h hn
  |st=>exact aEh hc hs h hn
  |ld d n agg take x=>
   cases take with
   |true=>exact aAY hc hs h hn
   |false=>simp[nG] at hc
  |bld=>exact aDL hc hs h hn
  |mks=>exact aDM hβ hc hs h hn
  |_=>simp[nG] at hc
 ·cases o with
  |_=>simp[azx] at hc
 ·cases o with
  |_=>simp[azz] at hc
 ·cases o with
  |boxe=>exact aC2 hc hs h hn
  |alr=>exact aDO hc hs h hn
  |frz=>exact aDP hc hs h hn
  |lde=>exact aDN hc hs h hn
  |mkf=>exact aDQ hc hs h hn
  |_=>simp[yB] at hc
 ·cases o with
  |mku=>exact aDT hβ hc hs h hn
  |apu=>exact aDS hβ hc hs h hn
  |apw=>exact aDZ hβ hc hs h hn
  |blu=>exact aDU hβ hc hs h hn
  |lnw=>exact aDV hc hs h hn
  |ixw=>exact aDW hc hs h hn
  |fdw=>exact aDX hc hs h hn
  |ldw=>exact aDY hc hs h hn
  |stw=>exact aD0 hc hs h hn
  |_=>simp[pT] at hc
 ·cases o with
  |_=>simp[aA7] at hc
structure Inv(g₀:Gh)(hp₀:List aJ)(w₀:World)(df:List Deferred)(g:Gh)(s:St)(w:World)(a:Act):Prop where
 sr:SR g s w a
 fr:FR g₀ hp₀ w₀ g s.hp w
 df:a.defers=df
theorem SR.renew(h:SR g s w a)(n:Nat)(b:Bool)(hv:s.get n=.bool b):SR g (s.set n (.bool b)) w a:=by
 have:=h.bare n
 rw[hv] at this
 exact this
theorem at1(h:SR g s w a){o:Oper}{ops:Array Oper}{j n:Nat}{b b':Bool}(hj:(ops[j]?).bind (·.dst)=some n)(hg:o.guard=some (j,b'))(hv:s.get n=.bool b):
  Region.wanted o (yielded ops a.tmps)=(b==b'):=by
 have hn:n<s.env.length:=by
  rcases Nat.lt_or_ge n s.env.length with h1|h1
  ·exact h1
  ·simp[St.get,List.getD,List.getElem?_eq_none h1] at hv
 have hn':n<a.tmps.size:=by rw[←h.er.size];exact hn
 have r:=h.er.get n
 rw[hv] at r
 have ht:a.tmps[n]? =some (a.tmps.getD n undef):=by simp[Array.getD,hn',Array.getElem?_eq_getElem hn']
 generalize a.tmps.getD n undef=cv at r ht
 cases r
 simp[Region.wanted,hg,yielded,hj,ht]
theorem at2(h:SR g s w a){o:Oper}{ops:Array Oper}{j n:Nat}{b':Bool}(hj:(ops[j]?).bind (·.dst)=some n)(hg:o.guard=some (j,b'))(hv:s.get n=.tup []):
  Region.wanted o (yielded ops a.tmps)=false:=by
 have hn:n<s.env.length:=by
  rcases Nat.lt_or_ge n s.env.length with h1|h1
  ·exact h1
  ·simp[St.get,List.getD,List.getElem?_eq_none h1] at hv
 have hn':n<a.tmps.size:=by rw[←h.er.size];exact hn
 have r:=h.er.get n
 rw[hv] at r
 have ht:a.tmps[n]? =some (a.tmps.getD n undef):=by simp[Array.getD,hn',Array.getElem?_eq_getElem hn']
 generalize a.tmps.getD n undef=cv at r ht
 cases r
 simp[Region.wanted,hg,yielded,hj,ht]
theorem akV(h:SR g s w a)(d:Option Nat):SR g (s.setO d (.tup [])) w (a.put d undef):=by
 cases d with
 |none=>exact h
 |some d=>exact h.set d (.tup [] #[] rfl (by simp)) (by simp[aW])
theorem ar6(s:St)(d:Option Nat)(v:V):(s.setO d v).hp=s.hp:=by cases d<;>rfl
theorem awC(a:Act)(d:Option Nat)(v:Value):(a.put d v).defers=a.defers:=by cases d<;>rfl
theorem awD{R:Type}{c:Bool}{x:Option R}{r:R}(h:chk c x=some r):c=true∧x=some r:=by
 cases c with
 |true=>exact⟨rfl,h⟩
 |false=>simp[chk] at h
theorem adh(hΓ:cC P Γ){g₀:Gh}(hβ:g₀.β=jM P){R:Type}{K:St→Option R}{r:R}{ops:Array Oper}{hp₀:List aJ}{w₀:World}{df:List Deferred}{Q:Exit→Act→World→Prop}
  (hQ:∀s g w a,K s=some r→Inv g₀ hp₀ w₀ df g s w a→Q .normal a w):∀(l:List GOp)(i:Nat),aaX P ops i l=true→∀(s:St)(g:Gh)(w:World)(a:Act),
   fV Γ l K s=some r→Inv g₀ hp₀ w₀ df g s w a→wpOps P ops Q (List.range' i (ops.size-i)) a w
 | [],i,hc,s,g,w,a,hr,h=>by
   simp only[aaX,beq_iff_eq] at hc
   subst hc
   simp only[Nat.sub_self,List.range'_zero,wpOps]
   exact hQ s g w a hr h
 |⟨gd,o,ob⟩::l,i,hc,s,g,w,a,hr,h=>by
  simp only[aaX,Bool.and_eq_true] at hc
  obtain⟨hc,hl⟩:=hc
  split at hc
  ·rename_i m hm
   have hi:i<ops.size:=by
    rcases Nat.lt_or_ge i ops.size with h1|h1
    ·exact h1
    ·simp[Array.getElem?_eq_none h1] at hm
   rw[show ops.size-i=(ops.size-(i+1))+1 by omega,List.range'_succ]
   simp only[ar5,Bool.and_eq_true,beq_iff_eq] at hc
   obtain⟨⟨h1,h2⟩,h3⟩:=hc
   have doit:∀s₁,SR g s₁ w a→s₁.hp=s.hp→∀c s',mS Γ ob o s₁=some (c,s')→chk c (fV Γ l K s')=some r→m.wp P a w (wpOps P ops Q (List.range' (i+1) (ops.size-(i+1)))) Q:=by
    intro s₁ hs₁ hhp c s' hst hch
    obtain⟨rfl,hch⟩:=awD hch
    refine awB hΓ (h.fr.beta.trans hβ) h1 (acT hst) hs₁ ?_
    intro a' w' g' hs' hf hd
    refine adh hΓ hβ hQ l (i+1) hl s' g' w' a' hch ⟨hs',?_,hd.trans h.df⟩
    rw[hhp] at hf
    exact h.fr.trans hf
   have skip:∀s₁,SR g s₁ w a→s₁.hp=s.hp→fV Γ l K (s₁.setO o.dst (.tup []))=some r→wpOps P ops Q (List.range' (i+1) (ops.size-(i+1))) (a.put m.dst undef) w:=by
    intro s₁ hs₁ hhp hr'
    rw[h2] at hr'
    refine adh hΓ hβ hQ l (i+1) hl _ g w _ hr' ⟨akV hs₁ _,?_,(awC _ _ _).trans h.df⟩
    rw[ar6,hhp]
    exact h.fr
   simp only[wpOps,hm]
   match gd,h3,hr with
   |none,h3,hr=>
    cases hmg:m.guard with
    |some p=>rw[hmg] at h3;simp at h3
    |none=>
    rw[if_pos (by simp[Region.wanted,hmg])]
    left
    simp only[fV] at hr
    split at hr
    ·rename_i c s' hst
     exact doit s h.sr rfl c s' hst hr
    ·simp at hr
   |some (n,b),h3,hr=>
    cases hmg:m.guard with
    |none=>rw[hmg] at h3;simp at h3
    |some p=>
    obtain⟨j,b'⟩:=p
    rw[hmg] at h3
    simp only[Bool.and_eq_true,beq_iff_eq] at h3
    obtain⟨rfl,hj⟩:=h3
    simp only[fV] at hr
    split at hr
    ·rename_i t ht
     rw[at1 h.sr hj hmg ht]
     have hs₁:=h.sr.renew n t ht
     cases t with
     |true=>
      simp only[cond_true] at hr
      cases b with
      |true=>
       simp only at hr
       rw[if_pos (by rfl)]
       left
       split at hr
       ·rename_i c s' hst
        exact doit _ hs₁ rfl c s' hst hr
       ·simp at hr
      |false=>
       rw[if_neg (by simp)]
       exact skip _ hs₁ rfl hr
     |false=>
      simp only[cond_false] at hr
      cases b with
      |false=>
       simp only at hr
       rw[if_pos (by rfl)]
       left
       split at hr
       ·rename_i c s' hst
        exact doit _ hs₁ rfl c s' hst hr
       ·simp at hr
      |true=>
       rw[if_neg (by simp)]
       exact skip _ hs₁ rfl hr
    ·rename_i ht
     rw[at2 h.sr hj hmg ht,if_neg (by simp)]
     exact skip _ h.sr rfl hr
    ·simp at hr
  ·simp at hc
theorem akW{ops:Array Oper}:∀(l:List GOp)(i:Nat),aaX P ops i l=true→ops.size=i+l.length∧∀(k:Nat) x,l[k]? =some x→∃m,ops[i+k]? =some m∧ar5 P ops x m=true
 | [],i,h=>by
   simp only[aaX,beq_iff_eq] at h
   exact⟨by simp[h],by simp⟩
 |x::l,i,h=>by
  simp only[aaX,Bool.and_eq_true] at h
  obtain⟨h1,h2⟩:=h
  obtain⟨k1,k2⟩:=akW l (i+1) h2
  refine⟨by simp[k1];omega,?_⟩
  intro k y hy
  cases k with
  |zero=>
   simp at hy
   subst hy
   split at h1
   ·rename_i m hm
    exact⟨m,hm,h1⟩
   ·simp at h1
  |succ k=>
   obtain⟨m,hm,hc⟩:=k2 k y (by simpa using hy)
   exact⟨m,by rw[←hm];congr 1;omega,hc⟩
theorem aA8(hΓ:cC P Γ){g₀:Gh}(hβ:g₀.β=jM P){ops:Array Oper}{i:Nat}{m:Oper}{x:GOp}(hm:ops[i]? =some m)(hc:ar5 P ops x m=true){hp₀:List aJ}{w₀:World}{df:List Deferred}{Q:Exit→Act→World→Prop}{K:Act→World→Prop}
  (hs:jN Γ x s=some s') (h:Inv g₀ hp₀ w₀ df g s w a) (hK:∀g' w' a',Inv g₀ hp₀ w₀ df g' s' w' a'→K a' w'):wpOp P ops Q i K a w:=by
 obtain⟨gd,o,ob⟩:=x
 simp only[ar5,Bool.and_eq_true,beq_iff_eq] at hc
 obtain⟨⟨h1,h2⟩,h3⟩:=hc
 have doit:(match mS Γ ob o s with|some (c,s')=>chk c (some s')|none=>none)=some s'→m.wp P a w K Q:=by
  intro hst
  split at hst
  ·rename_i c s₁ hst'
   obtain⟨rfl,hch⟩:=awD hst
   obtain rfl:s₁=s':=by simpa using hch
   refine awB hΓ (h.fr.beta.trans hβ) h1 (acT hst') h.sr ?_
   intro a' w' g' hs' hf hd
   exact hK g' w' a' ⟨hs',h.fr.trans hf,hd.trans h.df⟩
  ·simp at hst
 unfold wpOp
 simp only[hm]
 match gd,h3,hs with
 |none,h3,hs=>
  cases hmg:m.guard with
  |some p=>rw[hmg] at h3;simp at h3
  |none=>
  rw[if_pos (by simp[Region.wanted,hmg])]
  exact .inl (doit hs)
 |some (n,b),h3,hs=>
  cases hmg:m.guard with
  |none=>rw[hmg] at h3;simp at h3
  |some p=>
  obtain⟨j,b'⟩:=p
  rw[hmg] at h3
  simp only[Bool.and_eq_true,beq_iff_eq] at h3
  obtain⟨rfl,hj⟩:=h3
  simp only[jN] at hs
  split at hs
  ·rename_i t ht
   rw[at1 h.sr hj hmg ht]
   split at hs
   ·rename_i hb
    rw[if_pos hb]
    exact .inl (doit hs)
   ·rename_i hb
    rw[if_neg (by simp[hb])]
    obtain rfl:_=s':=by simpa using hs
    rw[←h2]
    exact hK g w _ ⟨akV h.sr _,by rw[ar6];exact h.fr,(awC _ _ _).trans h.df⟩
  ·rename_i ht
   rw[at2 h.sr hj hmg ht,if_neg (by simp)]
   obtain rfl:_=s':=by simpa using hs
   rw[←h2]
   exact hK g w _ ⟨akV h.sr _,by rw[ar6];exact h.fr,(awC _ _ _).trans h.df⟩
  ·simp at hs
theorem aA9(hΓ:cC P Γ){g₀:Gh}(hβ:g₀.β=jM P){imp:List Nat}(hP:dU Γ imp){R:Type}{K:St→Option R}{r:R}{ops:Array Oper}{l:List GOp}{pre:List (List Nat)}(hc:ac7 P imp ops l pre=true){hp₀:List aJ}{w₀:World}{df:List Deferred}{Q:Exit→Act→World→Prop}
  (hQ:∀s g w a,K s=some r→Inv g₀ hp₀ w₀ df g s w a→Q .normal a w):∀(fuel:Nat)(rs:List Nat)(listed:Array Bool)(s:St)(g:Gh)(w:World)(a:Act),
   rs.length=fuel→rs.Pairwise (·<·)→(∀i,i∈rs↔i<l.length∧listed.getD i true=false)→listed.size=l.length→(∀j,j<l.length→j ∉ rs→∀i∈pre.getD j [],i ∉ rs)→
   fV Γ (rs.filterMap fun i=>l[i]?) K s=some r→Inv g₀ hp₀ w₀ df g s w a→wpAny P .any ops Q fuel listed a w:=by
 simp only[ac7,Bool.and_eq_true] at hc
 obtain⟨⟨-,hgs⟩,hall⟩:=hc
 obtain⟨hsize,hget⟩:=akW l 0 hgs
 simp only[Nat.zero_add] at hsize hget
 have hj:∀j,j<l.length→∃m x,ops[j]? =some m∧l[j]? =some x∧ar5 P ops x m=true∧(∀e∈m.after,Region.binds .any e=true→e.on<j)∧
   (∀i∈pre.getD j [],∃e∈m.after,Region.binds .any e=true∧(e.on=i∨i∈pre.getD e.on []))∧(∀i,i<j→i∈pre.getD j []∨∃y,l[i]? =some y∧ap7 imp y x=true):=by
  intro j hlt
  have h0:=List.all_eq_true.1 hall j (List.mem_range.2 hlt)
  simp only[Bool.and_eq_true] at h0
  obtain⟨h1,h2⟩:=h0
  have hx:l[j]? =some l[j]:=List.getElem?_eq_getElem hlt
  obtain⟨m,hm,hcg⟩:=hget j _ hx
  rw[hm] at h1
  rw[hx] at h2
  simp only[Bool.and_eq_true] at h1
  refine⟨m,l[j],hm,hx,hcg,?_,?_,?_⟩
  ·intro e he hb
   have:=List.all_eq_true.1 h1.1 e (by simpa using he)
   simpa [hb] using this
  ·intro i hi
   have:=List.all_eq_true.1 h1.2 i hi
   obtain⟨e,he,hb⟩:=List.any_eq_true.1 this
   simp only[Bool.and_eq_true,Bool.or_eq_true,beq_iff_eq,List.contains_iff_mem] at hb
   exact⟨e,by simpa using he,hb.1,hb.2⟩
  ·intro i hi
   have:=List.all_eq_true.1 h2 i (List.mem_range.2 hi)
   simp only[Bool.or_eq_true,List.contains_iff_mem] at this
   rcases this with h3|h3
   ·exact .inl h3
   ·right
    split at h3
    ·rename_i y hy;exact⟨y,hy,h3⟩
    ·simp at h3
 have ready:∀(rs:List Nat)(listed:Array Bool),(∀i,i∈rs↔i<l.length∧listed.getD i true=false)→listed.size=l.length→∀j m,ops[j]? =some m→(j∈Region.ready .any ops listed↔j∈rs∧∀e∈m.after,Region.binds .any e=true→e.on<l.length∧e.on ∉ rs):=by
  intro rs listed hrs hls j m hm
  have hlt:j<l.length:=by rw[←hsize];exact(Array.getElem?_eq_some_iff.1 hm).1
  have key:∀i,listed.getD i false=true↔i<l.length∧i ∉ rs:=by
   intro i
   rw[hrs i]
   rcases Nat.lt_or_ge i listed.size with h1|h1
   ·have h2:i<l.length:=by omega
    simp[Array.getD,h1,h2]
   ·have h2:¬i<l.length:=by omega
    have h3:¬i<listed.size:=by omega
    simp[Array.getD,h3,h2]
  rw[mem_ready,hrs j]
  constructor
  ·rintro⟨h1,o,ho,h2⟩
   rw[hm] at ho
   cases ho
   exact⟨⟨hlt,h1⟩,fun e he hb=>(key _).1 (h2 e he hb)⟩
  ·rintro⟨⟨_,h1⟩,h2⟩
   exact⟨h1,m,hm,fun e he hb=>(key _).2 (h2 e he hb)⟩
 intro fuel
 induction fuel with
 |zero=>
  intro rs listed s g w a hlen hpw hrs hls hpre hr h
  have:rs=[]:=List.eq_nil_of_length_eq_zero hlen
  subst this
  simp only[wpAny]
  refine⟨?_,hQ s g w a hr h⟩
  rw[List.eq_nil_iff_forall_not_mem]
  intro j hjr
  have:=mem_ready.1 hjr
  obtain⟨hu,o,ho,_⟩:=this
  exact absurd ((ready [] listed hrs hls j o ho).1 hjr).1 (by simp)
 |succ fuel ih=>
  intro rs listed s g w a hlen hpw hrs hls hpre hr h
  simp only[wpAny]
  refine⟨?_,?_⟩
  ·intro hno
   exfalso
   cases rs with
   |nil=>simp at hlen
   |cons j rs=>
    have hjl:=((hrs j).1 (List.mem_cons_self ..)).1
    obtain⟨m,x,hm,hx,hcg,he,hp,hi⟩:=hj j hjl
    have:j∈Region.ready .any ops listed:=by
     refine(ready _ listed hrs hls j m hm).2 ⟨List.mem_cons_self ..,fun e hee hb=>?_⟩
     have hlt:=he e hee hb
     refine⟨by omega,?_⟩
     intro hmem
     rcases List.mem_cons.1 hmem with h1|h1
     ·omega
     ·have:=(List.pairwise_cons.1 hpw).1 _ h1
      omega
    rw[hno] at this
    simp at this
  ·intro j hjr
   obtain⟨hu,o,ho,_⟩:=mem_ready.1 hjr
   obtain⟨hjm,hdeps⟩:=(ready rs listed hrs hls j o ho).1 hjr
   have hjl:=((hrs j).1 hjm).1
   obtain⟨m,x,hm,hx,hcg,he,hp,hi⟩:=hj j hjl
   rw[hm] at ho
   cases ho
   have hpj:∀i∈pre.getD j [],i ∉ rs:=by
    intro i hii
    obtain⟨e,hee,hb,hor⟩:=hp i hii
    obtain⟨d1,d2⟩:=hdeps e hee hb
    rcases hor with rfl|hor
    ·exact d2
    ·exact hpre _ d1 d2 i hor
   obtain⟨A,B,rfl⟩:=List.append_of_mem hjm
   have hA:∀i∈A,i<j:=by
    intro i hiA
    exact(List.pairwise_append.1 hpw).2.2 i hiA j (List.mem_cons_self ..)
   have hB:∀i∈B,j<i:=by
    intro i hiB
    exact(List.pairwise_cons.1 (List.pairwise_append.1 hpw).2.1).1 i hiB
   rw[List.filterMap_append,List.filterMap_cons_some hx] at hr
   obtain⟨s',hg,hr'⟩:=aCR hP _ s (by
    intro y hy
    obtain⟨i,hiA,hiy⟩:=List.mem_filterMap.1 hy
    rcases hi i (hA i hiA) with h1|⟨y',h1,h2⟩
    ·exact absurd (List.mem_append_left _ hiA) (hpj i h1)
    ·rw[hiy] at h1
     cases h1
     exact h2) hr
   rw[←List.filterMap_append] at hr'
   refine aA8 hΓ hβ hm hcg hg h ?_
   intro g' w' a' hinv
   have hmem:∀i,i∈A++B↔i∈A++j::B∧i≠j:=by
    intro i
    simp only[List.mem_append,List.mem_cons]
    constructor
    ·rintro(h1|h1)
     ·exact⟨.inl h1,by have:=hA i h1;omega⟩
     ·exact⟨.inr (.inr h1),by have:=hB i h1;omega⟩
    ·rintro⟨h1|h1|h1,h2⟩
     ·exact .inl h1
     ·exact absurd h1 h2
     ·exact .inr h1
   refine ih (A++B) (listed.setIfInBounds j true) s' g' w' a' ?_ ?_ ?_ (by simp[hls]) ?_ hr' hinv
   ·simp only[List.length_append,List.length_cons] at hlen ⊢
    omega
   ·exact hpw.sublist (List.Sublist.append_left (List.sublist_cons_self ..) _)
   ·intro i
    rw[hmem,hrs]
    by_cases hij:i=j
    ·subst hij
     have hsz:i<listed.size:=by omega
     simp[Array.getD,hsz]
    ·rw[getD_set_ne true (fun e=>hij e.symm)]
     simp[hij]
   ·intro j' hj' hnot i hii hmi
    obtain⟨h1,h2⟩:=(hmem i).1 hmi
    by_cases hjj:j'=j
    ·subst hjj
     exact hpj i hii h1
    ·exact hpre j' hj' (fun hm'=>hnot ((hmem j').2 ⟨hm',hjj⟩)) i hii h1
theorem aeF{α:Type}:∀(l:List α),((List.range l.length).filterMap fun i=>l[i]?)=l
 | []=>rfl
 |x::l=>by
  rw[List.length_cons,List.range_succ_eq_map,List.filterMap_cons_some (b:=x) (by simp),List.filterMap_map]
  have:=aeF l
  simp only[Function.comp_def,Nat.succ_eq_add_one,List.getElem?_cons_succ]
  rw[this]
theorem Inv.drew{g₀:Gh}{hp₀:List aJ}{w₀:World}{df:List Deferred}(h:Inv g₀ hp₀ w₀ df g s w a):Inv g₀ hp₀ w₀ df g s w.drew a:=by
 have u:Up g.I g.ρ s.hp.length w g.I g.ρ s.hp.length w.drew:=⟨fun _ _ h=>h,fun _ _ _=>rfl,fun _ _=>rfl,Nat.le_refl _⟩
 refine⟨⟨h.sr.hr.drew,⟨h.sr.er.size,fun n v cv h1 h2=>(h.sr.er.rel n v cv h1 h2).up u,fun n v cv h1 h2=>gE (h.sr.er.own n v cv h1 h2) rfl (fun b j hi=>⟨hi,rfl⟩) (fun b hb=>⟨hb,rfl,fun j hj=>hj⟩)⟩⟩,?_,h.df⟩
 exact⟨h.fr.beta,h.fr.os,h.fr.tape,h.fr.output,h.fr.size,h.fr.block,h.fr.up.trans u,h.fr.iSame,h.fr.oSame,h.fr.live⟩
theorem az8(hΓ:cC P Γ){g₀:Gh}(hβ:g₀.β=jM P){imp:List Nat}(hP:dU Γ imp){R:Type}{K:St→Option R}{r:R}{id:Nat}{ops:Array Oper}{l:List GOp}{pre:List (List Nat)}(hc:ac7 P imp ops l pre=true){hp₀:List aJ}{w₀:World}{df:List Deferred}{Q:Exit→Act→World→Prop}
  (hQ:∀s g w a,K s=some r→Inv g₀ hp₀ w₀ df g s w a→Q .normal a w) (hr:fV Γ l K s=some r) (h:Inv g₀ hp₀ w₀ df g s w a):(Code.region id ops true).wp P Q a w:=by
 have hc':=hc
 simp only[ac7,Bool.and_eq_true] at hc'
 have hsize:ops.size=l.length:=by simpa using (akW l 0 hc'.1.2).1
 refine wp_region_any hc'.1.1 ?_
 rw[hsize]
 refine aA9 hΓ hβ hP hc hQ l.length (List.range l.length) _ s g _ a (by simp) List.pairwise_lt_range ?_ (by simp) ?_ (by rw[aeF];exact hr) h.drew
 ·intro i
  by_cases hi:i<l.length<;>simp[Array.getD,hi]
 ·intro j hj hnot
  exact absurd (List.mem_range.2 hj) hnot
theorem tU(live:List Nat)(m:Nat):∀(env:List V)(i n:Nat)(v:V),(tQ live m i env)[n]? =some v→v=.undef∨(v.lower m=true∧env[n]? =some v)
 | [],i,n,v,h=>by simp[tQ] at h
 |x::env,i,n,v,h=>by
  simp only[tQ] at h
  cases n with
  |zero=>
   simp only[List.getElem?_cons_zero,Option.some.injEq] at h
   split at h
   ·rename_i hc
    simp only[Bool.and_eq_true] at hc
    right;subst h;exact⟨hc.2,by simp⟩
   ·left;exact h.symm
  |succ n=>
   simp only[List.getElem?_cons_succ] at h ⊢
   exact tU live m env (i+1) n v h
theorem yF(live:List Nat)(m:Nat):∀(env:List V)(i:Nat),(tQ live m i env).length=env.length
 | [],i=>rfl
 |x::env,i=>by simp[tQ,yF live m env (i+1)]
theorem uL{n:Nat}:∀{cs:List V},V.lowers n cs=true→∀(i:Nat) c,cs[i]? =some c→c.lower n=true
 | [],_,i,c,hc=>by simp at hc
 |x::cs,h,i,c,hc=>by
  simp only[V.lowers,Bool.and_eq_true] at h
  cases i with
  |zero=>simp at hc;subst hc;exact h.1
  |succ i=>exact uL h.2 i c (by simpa using hc)
theorem ayx{n:Nat}{cs:List V}(h:V.lowers n cs=true)(j:Nat)(c:V)(hc:(cellsOf cs)[j]? =some c):c.lower n=true:=by
 cases hr:gf cs with
 |false=>rw[qU hr] at hc;exact uL h j c hc
 |true=>
  unfold gf at hr
  split at hr
  ·simp only[cellsOf,List.getElem?_map,Option.map_eq_some_iff] at hc
   obtain⟨_,_,rfl⟩:=hc
   rfl
  ·simp[V.lowers,V.lower] at h
  ·cases hr
theorem VRel.fewer{I:Nat→Nat→Prop}{ρ:Nat→Nat}{N n:Nat}{v:V}{cv:Value}(h:VRel I ρ N w v cv)(hb:v.lower n=true)(hn:n≤N):VRel I ρ n w v cv:=by
 induction h with
 |undef cv=>exact .undef cv
 |bool b=>exact .bool b
 |int k n h=>exact .int k n h
 |str l s hl h=>exact .str l s hl h
 |sln k o=>exact .sln k o
 |sle k o ad ho=>exact .sle k o ad ho
 |sl k o xs b off len cap hl hc hm hf f hI hw hv ih=>
  refine .sl k o xs b off len cap hl hc hm hf f hI hw (fun i x j v h1 h2=>ih i x j v h1 h2 ?_)
  have:v∈enc k x:=List.mem_of_getElem? h2
  cases k<;>simp[enc] at this<;>(first|(rcases this with rfl|rfl|rfl|rfl|rfl|rfl|rfl|rfl|rfl|rfl)|(rcases this with rfl|rfl|rfl|rfl|rfl|rfl|rfl|rfl|rfl)|(rcases this with rfl|rfl|rfl|rfl|rfl)|subst this)<;>rfl
 |agg cs vs hl h1 hb' hv ih=>exact .agg cs vs hl h1 hb' (fun i c cv hc hcv=>ih i c cv hc hcv (uL (by simpa [V.lower] using hb) i c hc))
 |tup cs vs hl hv ih=>exact .tup cs vs hl (fun i c cv hc hcv=>ih i c cv hc hcv (uL (by simpa [V.lower] using hb) i c hc))
 |ea cs b off f h1 hI hw hv ih=>exact .ea cs b off f h1 hI hw (fun j c hc=>ih j c hc (uL (by simpa [V.lower] using hb) j c hc))
 |ptr id off h=>exact .ptr id off (by simpa [V.lower,Nat.blt_eq] using hb)
 |nilp=>exact .nilp
 |fn f cs vs hl hv ih=>exact .fn f cs vs hl (fun i c cv hc hcv=>ih i c cv hc hcv (uL (by simpa [V.lower] using hb) i c hc))
 |nilif=>exact .nilif
 |bn E n p=>exact .bn E n p
 |junk cv h=>exact .junk cv h
 |so id m cap h hc hm=>exact .so id m cap (by simpa [V.lower,Nat.blt_eq] using hb) hc hm
 |raw n b=>exact .raw n b
 |ul k xs ad cap hm=>exact .ul k xs ad cap hm
 |hd n ad cap hm=>exact .hd n ad cap hm
 |sw k id m h hc hm=>exact .sw k id m (by simpa [V.lower,Nat.blt_eq] using hb) hc hm
 |wp id k i o h=>exact .wp id k i o (by simpa [V.lower,Nat.blt_eq] using hb)
 |mr id h=>exact .mr id (by simpa [V.lower,Nat.blt_eq] using hb)
 |nilm=>exact .nilm
theorem abN{n:Nat}:∀{hp:List aJ},tR n hp=true→∀(id:Nat) cs,hp[id]? =some (some cs)→V.lowers n cs=true
 | [],_,id,cs,h=>by simp at h
 |none::hp,h0,id,cs,h=>by
  cases id with
  |zero=>simp at h
  |succ id=>exact abN (hp:=hp) (by simpa [tR] using h0) id cs (by simpa using h)
 |some x::hp,h0,id,cs,h=>by
  simp only[tR,Bool.and_eq_true] at h0
  cases id with
  |zero=>simp at h;subst h;exact h0.1
  |succ id=>exact abN h0.2 id cs (by simpa using h)
theorem SR.keepEnv(h:SR g s w a)(live:List Nat)(n:Nat):SR g {s with env:=tQ live n 0 s.env} w a:=by
 refine⟨h.hr,⟨by simp[yF,h.er.size],?_,?_⟩⟩
 ·intro m v cv hv hcv
  rcases tU live n s.env 0 m v hv with rfl|⟨_,hv⟩
  ·exact .undef _
  ·exact h.er.rel m v cv hv hcv
 ·intro m v cv hv hcv
  rcases tU live n s.env 0 m v hv with rfl|⟨_,hv⟩
  ·simp[aW]
  ·exact h.er.own m v cv hv hcv
theorem Inv.keeps{g₀:Gh}{hp₀:List aJ}{w₀:World}{df:List Deferred}(h:Inv g₀ hp₀ w₀ df g s w a)(live:List Nat){n:Nat}(hn:hp₀.length≤n):Inv g₀ hp₀ w₀ df g (s.keep live n) w a:=by
 unfold St.keep
 cases hob:tR n (s.hp.take n) with
 |false=>exact⟨h.sr.keepEnv live n,h.fr,h.df⟩
 |true=>
  simp only[cond_true]
  rcases Nat.lt_or_ge n s.hp.length with hlt|hge
  ·have hlen:(s.hp.take n).length=n:=by simp;omega
   have old:∀(id:Nat) cs,(s.hp.take n)[id]? =some (some cs)→s.hp[id]? =some (some cs):=by
    intro id cs hid
    rw[List.getElem?_take] at hid
    split at hid
    ·exact hid
    ·simp at hid
   have hb:=abN hob
   refine⟨⟨⟨?_,?_,?_,?_,h.sr.hr.exI,h.sr.hr.oLt⟩,⟨by simp[yF,h.sr.er.size],?_,?_⟩⟩,?_,h.df⟩
   ·intro id cs hid
    refine(h.sr.hr.obj id cs (old id cs hid)).keep rfl fun arr e fz h1 h2=>?_
    refine⟨h2.len,h2.plain,?_,h2.cold,h2.one,?_,h2.own,h2.bn⟩
    ·rintro k xs rfl
     have:=hb id _ hid
     simp[V.lowers,V.lower] at this
    intro j c cv hc hcv
    rw[hlen]
    exact(h2.rel j c cv hc hcv).fewer (ayx (hb id cs hid) j c hc) (by omega)
   ·intro id id' cs cs' h1 h2 hne
    exact h.sr.hr.apart id id' cs cs' (old _ _ h1) (old _ _ h2) hne
   ·intro id cs hid
    exact h.sr.hr.notI id cs (old _ _ hid)
   ·intro id cs hid
    exact h.sr.hr.notO id cs (old _ _ hid)
   ·intro m v cv hv hcv
    rw[hlen]
    rcases tU live n s.env 0 m v hv with rfl|⟨hbv,hv⟩
    ·exact .undef _
    ·exact(h.sr.er.rel m v cv hv hcv).fewer hbv (by omega)
   ·intro m v cv hv hcv
    rcases tU live n s.env 0 m v hv with rfl|⟨_,hv⟩
    ·simp[aW]
    ·exact h.sr.er.own m v cv hv hcv
   ·refine⟨h.fr.beta,h.fr.os,h.fr.tape,h.fr.output,h.fr.size,h.fr.block,⟨h.fr.up.mono,h.fr.up.cell,h.fr.up.rho,by rw[hlen];exact hn⟩,h.fr.iSame,h.fr.oSame,?_⟩
    intro id cs hid
    exact h.fr.live id cs (old _ _ hid)
  ·rw[List.take_of_length_le hge]
   exact⟨h.sr.keepEnv live n,h.fr,h.df⟩
def abO:Ex→Exit→Prop
 | .normal,.normal=>True
 | .exit i,.exit j=>i=j
 | .ret,.ret=>True
 |_,_=>False
def az9{R:Type}(g₀:Gh)(hp₀:List aJ)(w₀:World)(df:List Deferred)(K:Ex→St→Option R)(r:R)(e:Exit)(a:Act)(w:World):Prop:=
 ∃x s g,abO x e∧K x s=some r∧Inv g₀ hp₀ w₀ df g s w a
theorem nv(hΓ:cC P Γ){g₀:Gh}(hβ:g₀.β=jM P){imp:List Nat}(hP:dU Γ imp)(n:Nat){R:Type}{hp₀:List aJ}{base:Nat}(hbase:hp₀.length≤base){w₀:World}{df:List Deferred}{r:R}:∀(ir:IR)(c:Code),cB P imp base ir c=true→∀(K:Ex→St→Option R)(s:St)(a:Act)(w:World)(g:Gh),
  run Γ n ir K s=some r→Inv g₀ hp₀ w₀ df g s w a→c.wp P (az9 g₀ hp₀ w₀ df K r) a w
 | .bad,c,hc,K,s,a,w,g,hr,h=>by simp[run] at hr
 | .skip,c,hc,K,s,a,w,g,hr,h=>by
   cases c<;>simp[cB] at hc
   ·exact wp_skip ⟨.normal,s,g,trivial,hr,h⟩
   ·exact wp_label ⟨.normal,s,g,trivial,hr,h⟩
 | .reg l pre,c,hc,K,s,a,w,g,hr,h=>by
   cases c with
   |region id ops draw=>
    cases draw with
    |true=>
     have hc:ac7 P imp ops l pre=true:=by simpa only[cB] using hc
     exact az8 (Q:=az9 g₀ hp₀ w₀ df K r) hΓ hβ hP hc (K:=K .normal) (r:=r) (fun s g w a hk hi=>⟨.normal,s,g,trivial,hk,hi⟩) hr h
    |false=>
     have hc:aaX P ops 0 l=true:=by simpa only[cB] using hc
     refine wp_region ?_
     have:=adh (Q:=az9 g₀ hp₀ w₀ df K r) hΓ hβ (K:=K .normal) (r:=r) (fun s g w a hk hi=>⟨.normal,s,g,trivial,hk,hi⟩) l 0 hc s g w a hr h
     rwa [Nat.sub_zero,←List.range_eq_range'] at this
   |_=>simp[cB] at hc
 | .seq x y,c,hc,K,s,a,w,g,hr,h=>by
   cases c<;>simp[cB] at hc
   rename_i c d
   refine wp_seq (wp_mono (nv hΓ hβ hP n hbase x c hc.1 _ s a w g hr h) ?_)
   rintro e a' w' ⟨ex,s',g',he,hk,hi⟩
   cases ex with
   |normal=>
    cases e<;>simp only[abO] at he
    exact nv hΓ hβ hP n hbase y d hc.2 K s' a' w' g' hk hi
   |exit i=>
    cases e<;>simp only[abO] at he
    exact⟨.exit i,s',g',he,hk,hi⟩
   |ret=>
    cases e<;>simp only[abO] at he
    exact⟨.ret,s',g',trivial,hk,hi⟩
 | .cond v x y,c,hc,K,s,a,w,g,hr,h=>by
   cases c<;>simp[cB] at hc
   rename_i u c d
   simp only[run] at hr
   split at hr
   ·rename_i t ht
    have rr:=bE hc.1 h.sr.er
    rw[ht] at rr
    generalize hcv:a.eval u=cv at rr
    cases rr
    refine wp_cond hcv ?_
    cases t with
    |true=>
     rw[aR.fix_eq ht] at hr
     exact nv hΓ hβ hP n hbase x c hc.2.1 K s a w g hr h
    |false=>
     simp only[cond_false] at hr
     rw[aR.fix_eq ht] at hr
     exact nv hΓ hβ hP n hbase y d hc.2.2 K s a w g hr h
   ·simp at hr
 | .block i x,c,hc,K,s,a,w,g,hr,h=>by
   cases c<;>simp[cB] at hc
   rename_i j c
   obtain⟨rfl,hc⟩:=hc
   refine wp_block (wp_mono (nv hΓ hβ hP n hbase x c hc _ s a w g hr h) ?_)
   rintro e a' w' ⟨ex,s',g',he,hk,hi⟩
   cases ex with
   |normal=>
    cases e<;>simp only[abO] at he
    exact⟨.normal,s',g',trivial,hk,hi⟩
   |exit k=>
    cases e<;>simp only[abO] at he
    subst he
    simp only[Exit.inBlock]
    by_cases hki:k=i
    ·subst hki
     simp only[if_true]
     simp only[aQ,Nat.beq_refl,cond_true] at hk
     exact⟨.normal,s',g',trivial,hk,hi⟩
    ·simp only[hki,if_false]
     have hb:Nat.beq k i=false:=by
      cases hb:Nat.beq k i with
      |true=>exact absurd (Nat.eq_of_beq_eq_true hb) hki
      |false=>rfl
     simp only[aQ,hb,cond_false] at hk
     exact⟨.exit k,s',g',rfl,hk,hi⟩
   |ret=>
    cases e<;>simp only[abO] at he
    exact⟨.ret,s',g',trivial,hk,hi⟩
 | .loop live q x,c,hc,K,s,a,w,g,hr,h=>by
   cases c<;>simp[cB] at hc
   rename_i c
   obtain⟨hq,hc⟩:=hc
   have hq:hp₀.length≤q:=Nat.le_trans hbase hq
   simp only[run] at hr
   have key:∀(m:Nat)(s:St)(a:Act)(w:World)(g:Gh),bo m (fun again s=>run Γ n x (bF again live q K) s) s=some r→Inv g₀ hp₀ w₀ df g s w a→
     Code.rounds P c (az9 g₀ hp₀ w₀ df K r) m a w:=by
    intro m
    induction m with
    |zero=>intro s a w g hr h;simp[bo] at hr
    |succ m ih=>
     intro s a w g hr h
     simp only[bo] at hr
     rw[rounds_succ]
     refine wp_mono (nv hΓ hβ hP n hbase x c hc _ s a w g hr h) ?_
     rintro e a' w' ⟨ex,s',g',he,hk,hi⟩
     cases ex with
     |normal=>
      cases e<;>simp only[abO] at he
      exact ih _ a' w' g' hk (hi.keeps live hq)
     |exit k=>
      cases e<;>simp only[abO] at he
      exact⟨.exit k,s',g',he,hk,hi⟩
     |ret=>
      cases e<;>simp only[abO] at he
      exact⟨.ret,s',g',trivial,hk,hi⟩
   exact wp_loop_rounds n (key n _ a w g hr (h.keeps live hq))
 | .cut live q x,c,hc,K,s,a,w,g,hr,h=>by
   simp only[cB,Bool.and_eq_true] at hc
   obtain⟨hq,hc⟩:=hc
   simp only[run] at hr
   exact nv hΓ hβ hP n hbase x c hc K _ a w g hr (h.keeps live (Nat.le_trans hbase (Nat.le_of_ble_eq_true hq)))
 | .gh x y,c,hc,K,s,a,w,g,hr,h=>by
   simp only[cB] at hc
   simp only[run] at hr
   split at hr
   ·rename_i t s' hs
    cases t with
    |false=>simp[chk] at hr
    |true=>
     obtain⟨g',h1,h2⟩:=anP h.sr hs
     exact nv hΓ hβ hP n hbase y c hc K s' a w g' hr ⟨h1,h.fr.trans h2,h.df⟩
   ·simp at hr
 | .ghp x y,c,hc,K,s,a,w,g,hr,h=>by
   simp only[cB] at hc
   simp only[run] at hr
   refine wp_mono (nv hΓ hβ hP n hbase y c hc _ s a w g hr h) ?_
   rintro e a' w' ⟨ex,s',g',he,hk,hi⟩
   cases ex with
   |normal=>
    simp only[awk] at hk
    split at hk
    ·rename_i t s2 hs
     cases t with
     |false=>simp[chk] at hk
     |true=>
      obtain⟨g2,h1,h2⟩:=anP hi.sr hs
      exact⟨.normal,s2,g2,he,hk,⟨h1,hi.fr.trans h2,hi.df⟩⟩
    ·simp at hk
   |exit i=>exact⟨.exit i,s',g',he,hk,hi⟩
   |ret=>exact⟨.ret,s',g',he,hk,hi⟩
 | .exit i,c,hc,K,s,a,w,g,hr,h=>by
   cases c<;>simp[cB] at hc
   subst hc
   exact wp_exit ⟨.exit i,s,g,rfl,hr,h⟩
 | .ret,c,hc,K,s,a,w,g,hr,h=>by
   cases c<;>simp[cB] at hc
   exact wp_ret ⟨.ret,s,g,trivial,hr,h⟩
end
end Go.AM
end
noncomputable section
namespace Go.AM
set_option autoImplicit false
set_option linter.unusedSimpArgs false
set_option linter.unusedVariables false
def am1(P:Program):RV→ResultVar→Bool
 | .t n,.tmp m=>n==m
 | .cell n size agg,.cell m t=>(n==m)&&((kJ P t==some size)&&((aa8 P t==some agg)&&(agg||size==1)))
 |_,_=>false
def fW(P:Program):List RV→List ResultVar→Bool
 | [],[]=>true
 |x::xs,y::ys=>am1 P x y&&fW P xs ys
 |_,_=>false
section
variable{w:World}{g:Gh}{s s':St}{a:Act}{P:Program}{Γ:aN}
def aAa(g:Gh)(w:World)(x:RV)(v:V)(cv:Value):Prop:=match x with| .t n=>aW g w (.slot n) v cv| .cell .. =>v.bare=true
def ah3(tmps:Array Value):ResultVar→Sem Value
 | .tmp t=>pure (tmps.getD t undef)
 | .cell a t=>do loadVar t (←asAddr (tmps.getD a undef))
theorem aD1(h:SR g s w a){x:RV}{y:ResultVar}(hc:am1 P x y=true){v:V}(hv:x.ev s=some v):
  ∃cv,(ah3 a.tmps y).run P w=.ok cv w∧VRel g.I g.ρ s.hp.length w v cv∧aAa g w x v cv:=by
 cases x with
 |t n=>
  cases y with
  |tmp m=>
   obtain rfl:n=m:=by simpa [am1] using hc
   simp only[RV.ev,Option.some.injEq] at hv
   subst hv
   exact⟨_,by simp[ah3],h.er.get n,h.er.getOwn n⟩
  |cell m t=>simp[am1] at hc
 |cell n size agg=>
  cases y with
  |tmp m=>simp[am1] at hc
  |cell m t=>
   simp only[am1,Bool.and_eq_true,beq_iff_eq,Bool.or_eq_true] at hc
   obtain⟨rfl,h1,h2,h3⟩:=hc
   have r1:=h.er.get n
   simp only[RV.ev] at hv
   have fin:∀b o (vs:List Value),a.tmps.getD n undef=.pointer (some ⟨b,o,none⟩)→vs.length=size→(∀(j:Nat) v,vs[j]? =some v→w.cell? ⟨b,o+j,none⟩=some v)→
     (ah3 a.tmps (.cell n t)).run P w=.ok (if agg then .agg vs.toArray else vs.headD undef) w:=by
    intro b o vs hp hl hw
    have:=tS (P:=P) (w:=w) (b:=b) (o:=o) (vs:=vs) h1 h2 h3 hl hw
    simp only[Instr.loadAt,Instr.sureAddr] at this
    simp[ah3,hp,asAddr]
    simpa using this
   split at hv
   ·rename_i id o hx
    rw[hx] at r1
    generalize hcv:a.tmps.getD n undef=cv at r1 fin
    cases r1 with
    |ptr _ _ hid=>
    split at hv
    ·rename_i cs ho
     split at hv
     ·rename_i hle
      obtain rfl:=Option.some.inj hv
      obtain⟨arr,e,hb,hok⟩:=xS h.hr ho
      have hlen:=hok.len
      have hrel:=yz (agg:=agg) (cs:=(cs.drop o).take size) (vs:=(arr.toList.drop o).take size) (w:=w) (I:=g.I) (ρ:=g.ρ) (N:=s.hp.length)
       (fun c hcm=>hok.one c (List.mem_of_mem_drop (List.mem_of_mem_take hcm))) (by simp;omega) (by
        rcases h3 with h3|h3
        ·exact .inl h3
        ·right;simp;omega)
       (fun i c cv hc hcv=>by
        simp only[List.getElem?_take,List.getElem?_drop] at hc hcv
        split at hc
        ·rename_i hi
         simp only[hi,if_true] at hcv
         exact hok.rel _ _ _ hc (by simpa using hcv)
        ·simp at hc)
      refine⟨_,fin _ _ ((arr.toList.drop o).take size) rfl (by simp;omega) (fun j v hj=>?_),hrel.disown,fx _⟩
      rw[bI hb]
      simp only[List.getElem?_take,List.getElem?_drop] at hj
      split at hj
      ·simpa using hj
      ·simp at hj
     ·simp at hv
    ·simp at hv
   ·rename_i cs hx
    rw[hx] at r1
    generalize hcv:a.tmps.getD n undef=cv at r1 fin
    cases r1 with
    |ea _ b o f e1 hI hw hv'=>
    split at hv
    ·rename_i hle
     obtain rfl:=Option.some.inj hv
     have hrel:=yz (agg:=agg) (cs:=cs.take size) (vs:=(List.range size).map f) (w:=w) (I:=g.I) (ρ:=g.ρ) (N:=s.hp.length)
      (fun c hcm=>e1 c (List.mem_of_mem_take hcm)) (by simp;omega) (by
       rcases h3 with h3|h3
       ·exact .inl h3
       ·right;simp;omega)
      (fun i c cv hc hcv=>by
       simp only[List.getElem?_take] at hc
       split at hc
       ·rename_i hi
        simp[hi] at hcv
        subst hcv
        exact hv' _ _ hc
       ·simp at hc)
     refine⟨_,fin _ _ ((List.range size).map f) rfl (by simp) (fun j v hj=>?_),hrel.disown,fx _⟩
     rw[List.getElem?_map,Option.map_eq_some_iff] at hj
     obtain⟨j',hj',rfl⟩:=hj
     obtain⟨hlt,rfl⟩:=List.getElem?_eq_some_iff.1 hj'
     simp only[List.length_range] at hlt
     simpa using hw j (by omega)
    ·simp at hv
   ·simp at hv
theorem azA(h:SR g s w a):∀{xs:List RV}{ys:List ResultVar}{vs:List V},fW P xs ys=true→rvs s xs=some vs→
  ∃cvs:List Value,cvs.length=vs.length∧xs.length=vs.length∧ys.length=vs.length∧(∀(i:Nat) y,ys[i]? =some y→∃cv,cvs[i]? =some cv∧(ah3 a.tmps y).run P w=.ok cv w)∧
   (∀(i:Nat) v cv,vs[i]? =some v→cvs[i]? =some cv→VRel g.I g.ρ s.hp.length w v cv)∧
   (∀(i:Nat) x v cv,xs[i]? =some x→vs[i]? =some v→cvs[i]? =some cv→aAa g w x v cv)
 | [],[],vs,_,hv=>by
   simp only[rvs,Option.some.injEq] at hv
   subst hv
   exact⟨[],rfl,rfl,rfl,by simp,by simp,by simp⟩
 |x::xs,y::ys,vs,hc,hv=>by
  simp only[fW,Bool.and_eq_true] at hc
  simp only[rvs] at hv
  split at hv
  ·rename_i v vs' h1 h2
   obtain rfl:=Option.some.inj hv
   obtain⟨cv,k1,k2,k3⟩:=aD1 h hc.1 h1
   obtain⟨cvs,l1,l2,l3,l4,l5,l6⟩:=azA h hc.2 h2
   refine⟨cv::cvs,by simp[l1],by simp[l2],by simp[l3],?_,?_,?_⟩
   ·intro i y' hy
    cases i with
    |zero=>simp at hy;subst hy;exact⟨cv,rfl,k1⟩
    |succ i=>simpa using l4 i y' (by simpa using hy)
   ·intro i v' cv' hv' hcv'
    cases i with
    |zero=>simp at hv' hcv';subst hv' hcv';exact k2
    |succ i=>exact l5 i v' cv' (by simpa using hv') (by simpa using hcv')
   ·intro i x' v' cv' hx' hv' hcv'
    cases i with
    |zero=>simp at hx' hv' hcv';subst hx' hv' hcv';exact k3
    |succ i=>exact l6 i x' v' cv' (by simpa using hx') (by simpa using hv') (by simpa using hcv')
  ·simp at hv
 | [],_::_,_,hc,_=>by simp[fW] at hc
 |_::_,[],_,hc,_=>by simp[fW] at hc
def Gh.hand(g:Gh)(r:Option Nat):Gh:={g with O:=fun b=>match g.O b with|some (.slot m)=>(if some m=r then some .res else none)|some .res=>none|o=>o}
theorem HR.hand{hp:List aJ}(h:HR g hp w)(r:Option Nat):HR (g.hand r) hp w:=by
 refine⟨?_,h.apart,h.notI,?_,h.exI,?_⟩
 ·intro id cs hid
  refine(h.obj id cs hid).keep rfl fun arr e fz h1 h2=>?_
  refine⟨h2.len,h2.plain,h2.typed,h2.cold,h2.one,h2.rel,?_,h2.bn⟩
  intro j c cv hc hcv
  refine gE (h2.own j c cv hc hcv) rfl (fun b j hi=>⟨hi,rfl⟩) ?_
  intro b hb
  exact⟨by simp[Gh.hand,hb],rfl,fun j hj=>hj⟩
 ·intro id cs hid
  simp[Gh.hand,h.notO id cs hid]
 ·intro b o hb
  cases hO:g.O b with
  |none=>simp[Gh.hand,hO] at hb
  |some o'=>exact h.oLt b o' hO
theorem FR.hand{g₀:Gh}{hp₀ hp:List aJ}{w₀:World}(h:FR g₀ hp₀ w₀ g hp w)(r:Option Nat):FR g₀ hp₀ w₀ (g.hand r) hp w:=
 ⟨h.beta,h.os,h.tape,h.output,h.size,h.block,h.up,h.iSame,fun b hb ho hO=>by simp[Gh.hand,h.oSame b hb ho hO],h.live⟩
def ah4:List Value→Value
 | [v]=>v
 |vs=>.tuple vs.toArray
theorem ayy{fn:Func}{l:List ResultVar}{cvs:List Value}(hl:fn.results.toList=l)(hlen:l.length=cvs.length)(h5:l.length≤5)
  (h:∀(i:Nat) y,l[i]? =some y→∃cv,cvs[i]? =some cv∧(ah3 a.tmps y).run P w=.ok cv w):
  (results fn a.tmps).run P w=.ok (ah4 cvs) w:=by
 have e:fn.results=l.toArray:=by rw[←hl]
 have hr:results fn a.tmps=(do let vs ←fn.results.mapM (ah3 a.tmps);pure (if h:vs.size=1 then vs[0] else .tuple vs)):=rfl
 rw[hr,e]
 match l,cvs,hlen,h5,h with
 | [],[],_,_,_=>simp[ah4]
 | [y0],[c0],_,_,h=>
   obtain⟨_,q0,r0⟩:=h 0 y0 rfl
   simp at q0;subst q0
   simp[r0,ah4]
 | [y0,y1],[c0,c1],_,_,h=>
   obtain⟨_,q0,r0⟩:=h 0 y0 rfl
   obtain⟨_,q1,r1⟩:=h 1 y1 rfl
   simp at q0 q1;subst q0 q1
   simp[r0,r1,ah4]
 | [y0,y1,y2],[c0,c1,c2],_,_,h=>
   obtain⟨_,q0,r0⟩:=h 0 y0 rfl
   obtain⟨_,q1,r1⟩:=h 1 y1 rfl
   obtain⟨_,q2,r2⟩:=h 2 y2 rfl
   simp at q0 q1 q2;subst q0 q1 q2
   simp[r0,r1,r2,ah4]
 | [y0,y1,y2,y3],[c0,c1,c2,c3],_,_,h=>
   obtain⟨_,q0,r0⟩:=h 0 y0 rfl
   obtain⟨_,q1,r1⟩:=h 1 y1 rfl
   obtain⟨_,q2,r2⟩:=h 2 y2 rfl
   obtain⟨_,q3,r3⟩:=h 3 y3 rfl
   simp at q0 q1 q2 q3;subst q0 q1 q2 q3
   simp[r0,r1,r2,r3,ah4]
 | [y0,y1,y2,y3,y4],[c0,c1,c2,c3,c4],_,_,h=>
   obtain⟨_,q0,r0⟩:=h 0 y0 rfl
   obtain⟨_,q1,r1⟩:=h 1 y1 rfl
   obtain⟨_,q2,r2⟩:=h 2 y2 rfl
   obtain⟨_,q3,r3⟩:=h 3 y3 rfl
   obtain⟨_,q4,r4⟩:=h 4 y4 rfl
   simp at q0 q1 q2 q3 q4;subst q0 q1 q2 q3 q4
   simp[r0,r1,r2,r3,r4,ah4]
theorem jG(hΓ:cC P Γ){imp:List Nat}(hP:dU Γ imp){f:FuncId}{fn:Func}{code:Code}{ir:IR}{rs:List RV}{n:Nat}{vs:List V}{hp hp':List aJ}{v:V}
  (hf:P.funcs[f]? =some fn) (hb:fn.body=some code) (hc:cB P imp hp.length ir code=true) (hrs:fW P rs fn.results.toList=true) (h5:fn.results.toList.length≤5)
  (hrun:fT Γ n fn.ntmps rs ir vs hp=some (v,hp')):qW P f vs hp v hp':=by
 intro w g cargs hβ hhr hlen hbare hrel
 refine calls_of_wp hf hb ?_
 let act:Act:={tmps:=cargs++Array.replicate (fn.ntmps-cargs.size) undef,defers:=[]}
 have hsr:SR g (start fn.ntmps vs hp) w act:=by
  refine⟨hhr,⟨by simp[start,act,hlen],?_,?_⟩⟩
  ·intro n v cv hv hcv
   simp only[start,act] at hv hcv
   rcases Nat.lt_or_ge n vs.length with hn|hn
   ·rw[List.getElem?_append_left hn] at hv
    rw[Array.getElem?_append_left (by omega)] at hcv
    exact hrel n v cv hv hcv
   ·rw[List.getElem?_append_right hn,List.getElem?_replicate] at hv
    split at hv
    ·obtain rfl:=Option.some.inj hv
     exact .undef _
    ·simp at hv
  ·intro n v cv hv hcv
   simp only[start] at hv
   rcases Nat.lt_or_ge n vs.length with hn|hn
   ·rw[List.getElem?_append_left hn] at hv
    exact xA (hbare v (List.mem_of_getElem? hv)) _ _ _ _
   ·rw[List.getElem?_append_right hn,List.getElem?_replicate] at hv
    split at hv
    ·obtain rfl:=Option.some.inj hv
     simp[aW]
    ·simp at hv
 have hend:=nv (df:=[]) hΓ hβ hP n (Nat.le_refl _) ir code hc (fin rs) (start fn.ntmps vs hp) act w g hrun ⟨hsr,FR.refl _ _ _,rfl⟩
 refine wp_mono hend ?_
 rintro e a' w' ⟨ex,s',g',he,hk,hi⟩
 have main:∀v hp',(ahW s' rs).map (fun v=>(v,s'.hp))=some (v,hp')→a'.defers=[]∧∃cv,(results fn a'.tmps).run P w'=.ok cv w'∧
   (∃cv' g'',Ending.returned cv=.returned cv'∧HR g'' hp' w'∧FR g hp w g'' hp' w'∧VRel g''.I g''.ρ hp'.length w' v cv'∧aW g'' w' .res v cv'):=by
  intro v hp' hres
  refine⟨hi.df,?_⟩
  obtain⟨v',hv',hpe⟩:=Option.map_eq_some_iff.1 hres
  simp only[Prod.mk.injEq] at hpe
  obtain⟨rfl,rfl⟩:=hpe
  have hex:∃vs',rvs s' rs=some vs':=by
   unfold ahW at hv'
   cases hh:rvs s' rs with
   |none=>rw[hh] at hv';simp at hv'
   |some vs'=>exact⟨vs',rfl⟩
  obtain⟨vs',hvs⟩:=hex
  obtain⟨cvs,l1,l2,l3,l4,l5,l6⟩:=azA hi.sr hrs hvs
  have hr:=ayy (fn:=fn) (a:=a') (P:=P) (w:=w') rfl (by rw[l3,l1]) h5 l4
  unfold ahW at hv'
  rw[hvs] at hv'
  clear hvs l3 l4 hres
  match rs,vs',cvs,l1,l2,l5,l6,hr,hv' with
  | [x],[v0],[c0],_,_,l5,l6,hr,hv'=>
    simp only[Option.some.injEq] at hv'
    subst hv'
    have ho:=l6 0 x v0 c0 rfl rfl rfl
    have hvr:=l5 0 v0 c0 rfl rfl
    cases x with
    |t n=>
     simp only[aAa] at ho
     refine⟨c0,hr,c0,g'.hand (some n),rfl,hi.sr.hr.hand _,hi.fr.hand _,hvr,?_⟩
     unfold aW at ho ⊢
     split
     ·rename_i k xs ad len cap
      obtain⟨o1,o2,o3⟩:=ho
      exact⟨by simp[Gh.hand,o1],o2,o3⟩
     ·obtain⟨o1,o2,o3⟩:=ho
      exact⟨by simp[Gh.hand,o1],o2,o3⟩
     ·rcases ho with ho|⟨b,cap,arr,e,fz,m0,m1,m2,m3,m4,m5⟩
      ·exact .inl ho
      ·exact .inr ⟨b,cap,arr,e,fz,m0,m1,m2,m3,by simp[Gh.hand,m4],m5⟩
     ·trivial
    |cell n size agg=>
     exact⟨c0,hr,c0,g'.hand none,rfl,hi.sr.hr.hand _,hi.fr.hand _,hvr,xA ho _ _ _ _⟩
  | [],[],[],_,_,l5,l6,hr,hv'=>
    simp only[Option.some.injEq] at hv'
    subst hv'
    exact⟨_,hr,_,g'.hand none,rfl,hi.sr.hr.hand _,hi.fr.hand _,.tup [] #[] rfl (by simp),by simp[aW]⟩
  |x::y::rs,v0::v1::vs',c0::c1::cvs,l1,_,l5,l6,hr,hv'=>
   simp only[Option.some.injEq] at hv'
   subst hv'
   refine⟨_,hr,_,g'.hand none,rfl,hi.sr.hr.hand _,hi.fr.hand _,.tup _ _ (by simpa using l1.symm) ?_,by simp[aW]⟩
   intro i c cv hc hcv
   rw[List.getElem?_map,Option.map_eq_some_iff] at hc
   obtain⟨c',hc',rfl⟩:=hc
   exact(l5 i c' cv hc' (by simpa using hcv)).disown
 cases ex with
 |normal=>
  cases e<;>simp only[abO] at he
  exact main _ _ hk
 |exit i=>simp[fin] at hk
 |ret=>
  cases e<;>simp only[abO] at he
  exact main _ _ hk
end
end Go.AM
end
noncomputable section
namespace Go.AM
set_option autoImplicit false
set_option linter.unusedSimpArgs false
set_option linter.unusedVariables false
def V.flatE:V→Bool
 | .ea cs=>cs.all V.flat1
 |v=>v.flat1
def V.flat2:V→Bool
 | .agg cs=>cs.all V.flat1
 | .ea cs=>cs.all V.flat1
 | .fn _ cs=>cs.all V.flatE
 |v=>v.flat1
def V.flat:V→Bool
 | .tup cs=>cs.all V.flat2
 |v=>v.flat2
section
variable{I:Nat→Nat→Prop}{ρ ρ':Nat→Nat}{N N':Nat}{w:World}{P:Program}
theorem VRel.flatE{v:V}{cv:Value}(h:VRel I ρ N w v cv)(hf:v.flatE=true):VRel I ρ' N' w v cv:=by
 cases h with
 |ea cs b off f h1 hI hw hv=>
  simp only[V.flatE,List.all_eq_true] at hf
  exact .ea cs b off f h1 hI hw (fun j c hc=>(hv j c hc).flat1 (hf c (List.mem_of_getElem? hc)))
 |bool b=>exact .bool b
 |int k n h=>exact .int k n h
 |str l s hl h=>exact .str l s hl h
 |sln k o=>exact .sln k o
 |sle k o ad ho=>exact .sle k o ad ho
 |sl k o xs b off len cap hl hc hm hfl f hI hw hv=>exact(VRel.sl k o xs b off len cap hl hc hm hfl f hI hw hv).flat1 rfl
 |nilp=>exact .nilp
 |nilif=>exact .nilif
 |fn f cs vs hl hv=>
  cases cs with
  |nil=>exact .fn f [] vs hl (by simp)
  |cons c cs=>simp[V.flatE,V.flat1] at hf
 |_=>simp[V.flatE,V.flat1] at hf
theorem VRel.flat2{v:V}{cv:Value}(h:VRel I ρ N w v cv)(hf:v.flat2=true):VRel I ρ' N' w v cv:=by
 cases h with
 |ea cs b off f h1 hI hw hv=>exact(VRel.ea cs b off f h1 hI hw hv).flatE hf
 |agg cs vs hl h1 hb hv=>
  simp only[V.flat2,List.all_eq_true] at hf
  exact .agg cs vs hl h1 hb (fun i c cv hc hcv=>(hv i c cv hc hcv).flat1 (hf c (List.mem_of_getElem? hc)))
 |bool b=>exact .bool b
 |int k n h=>exact .int k n h
 |str l s hl h=>exact .str l s hl h
 |sln k o=>exact .sln k o
 |sle k o ad ho=>exact .sle k o ad ho
 |sl k o xs b off len cap hl hc hm hfl f hI hw hv=>exact(VRel.sl k o xs b off len cap hl hc hm hfl f hI hw hv).flat1 rfl
 |nilp=>exact .nilp
 |nilif=>exact .nilif
 |fn f cs vs hl hv=>
  simp only[V.flat2,List.all_eq_true] at hf
  exact .fn f cs vs hl (fun i c cv hc hcv=>(hv i c cv hc hcv).flatE (hf c (List.mem_of_getElem? hc)))
 |_=>simp[V.flat2,V.flat1] at hf
theorem VRel.flat{v:V}{cv:Value}(h:VRel I ρ N w v cv)(hf:v.flat=true):VRel I ρ' N' w v cv:=by
 cases h with
 |tup cs vs hl hv=>
  simp only[V.flat,List.all_eq_true] at hf
  exact .tup cs vs hl (fun i c cv hc hcv=>(hv i c cv hc hcv).flat2 (hf c (List.mem_of_getElem? hc)))
 |agg cs vs hl h1 hb hv=>exact(VRel.agg cs vs hl h1 hb hv).flat2 hf
 |bool b=>exact .bool b
 |int k n h=>exact .int k n h
 |str l s hl h=>exact .str l s hl h
 |sln k o=>exact .sln k o
 |sle k o ad ho=>exact .sle k o ad ho
 |sl k o xs b off len cap hl hc hm hfl f hI hw hv=>exact(VRel.sl k o xs b off len cap hl hc hm hfl f hI hw hv).flat1 rfl
 |nilp=>exact .nilp
 |nilif=>exact .nilif
 |fn f cs vs hl hv=>exact(VRel.fn f cs vs hl hv).flat2 hf
 |ea cs b off f h1 hI hw hv=>exact(VRel.ea cs b off f h1 hI hw hv).flat2 hf
 |_=>simp[V.flat,V.flat2,V.flat1] at hf
def aL(P:Program)(f:FuncId)(vs:List V)(v:V):Prop:=∃hp',qW P f vs [] v hp'
theorem aL.frame{f:FuncId}{vs:List V}{v:V}(h:aL P f vs v)(hf:vs.all V.flat=true)(hv:v.flat=true)(hp:List aJ):qW P f vs hp v hp:=by
 obtain⟨hp',h⟩:=h
 intro w g cargs hβ hhr hlen hbare hrel
 let g₀:Gh:={I:=g.I,ρ:=g.ρ,O:=fun _=>none,β:=g.β}
 have h0:HR g₀ [] w:=⟨by simp,by simp,by simp,by simp,hhr.exI,by simp[g₀]⟩
 refine(h w g₀ cargs hβ h0 hlen hbare (fun i x cv hx hcv=>(hrel i x cv hx hcv).flat (List.all_eq_true.1 hf x (List.mem_of_getElem? hx)))).mono ?_
 rintro e w' ⟨cv,g₁,rfl,q1,q2,q3,q4⟩
 have blk:∀b,b<w.heap.size→w'.heap[b]? =w.heap[b]?:=fun b hb=>q2.block b hb (by simp) rfl
 have isame:∀b j,b<w.heap.size→g₁.I b j→g.I b j:=fun b j hb hi=>q2.iSame b j hb (by simp) rfl hi
 have osame:∀b,b<w.heap.size→g₁.O b=none:=fun b hb=>q2.oSame b hb (by simp) rfl
 let g₂:Gh:={I:=g₁.I,ρ:=g.ρ,O:=fun b=>if b<w.heap.size then g.O b else (if g₁.O b=some .res then some .res else none),β:=g.β}
 have up:Up g.I g.ρ hp.length w g₂.I g₂.ρ hp.length w':=⟨q2.up.mono,q2.up.cell,fun _ _=>rfl,Nat.le_refl _⟩
 have olt:∀(id:Nat) cs,hp[id]? =some (some cs)→g.ρ id<w.heap.size:=by
  intro id cs hid
  exact(hhr.obj id cs hid).lt
 have okeep:∀occ v cv,aW g w occ v cv→aW g₂ w' occ v cv:=by
  intro occ v cv ho
  refine gE ho rfl (fun b j hi=>⟨up.mono b j hi,up.cell b j hi⟩) ?_
  intro b hb
  have hlt:=hhr.oLt b occ hb
  exact⟨by simp[g₂,hlt,hb],blk b hlt,fun j hj=>isame b j hlt hj⟩
 refine⟨cv,g₂,rfl,⟨?_,hhr.apart,?_,?_,q1.exI,?_⟩,⟨rfl,q2.os,q2.tape,q2.output,q2.size,fun b hb _ _=>blk b hb,up,fun b j hb _ _ hi=>isame b j hb hi,?_,fun _ cs h=>.inl ⟨cs,h⟩⟩,?_,?_⟩
 ·intro id cs hid
  refine(hhr.obj id cs hid).keep (blk _ (olt id cs hid)) fun arr e fz h1 h2=>?_
  exact⟨h2.len,h2.plain,h2.typedUp rfl up.rho up.num rfl,h2.cold,h2.one,fun j c cv hc hcv=>(h2.rel j c cv hc hcv).up up,fun j c cv hc hcv=>okeep _ _ _ (h2.own j c cv hc hcv),h2.bn⟩
 ·intro id cs hid j hi
  exact hhr.notI id cs hid j (isame _ j (olt id cs hid) hi)
 ·intro id cs hid
  have:=olt id cs hid
  simp[g₂,this,hhr.notO id cs hid]
 ·intro b o hb
  simp only[g₂] at hb
  split at hb
  ·rename_i hlt
   exact Nat.lt_of_lt_of_le hlt q2.size
  ·split at hb
   ·rename_i hres
    exact q1.oLt b _ hres
   ·simp at hb
 ·intro b hb _ hO
  simp[g₂,hb,hO]
 ·exact q3.flat hv
 ·unfold aW at q4 ⊢
  split
  ·rename_i k xs ad len cap
   obtain⟨o1,o2,o3⟩:=q4
   refine⟨?_,(by obtain⟨arr,e,fz,a1,a2,a3⟩:=o2;exact⟨arr,e,fz,a1,a2,fun hk=>(a3 hk).trans q2.beta⟩),o3⟩
   have:¬ad.block<w.heap.size:=by
    intro hlt
    rw[osame _ hlt] at o1
    simp at o1
   simp[g₂,this,o1]
  ·simp[V.flat,V.flat2,V.flat1] at hv
  ·simp[V.flat,V.flat2,V.flat1] at hv
  ·trivial
def V.fits:V→Prop
 | .int k n=>k.min≤n∧n≤k.max
 | .str l=>l.length≤eu
 | .sl _ _ xs=>xs.length≤eu
 | .agg cs=>∀c∈cs,match c with
   | .int k n=>k.min≤n∧n≤k.max
   | .str l=>l.length≤eu
   | .sl _ _ xs=>xs.length≤eu
   |_=>True
 |_=>True
theorem VRel.fits{v:V}{cv:Value}(h:VRel I ρ N w v cv):v.fits:=by
 cases h with
 |int k n h=>exact h
 |str l s hl h=>subst hl;simpa [V.fits,nu] using h
 |sln=>simp[V.fits]
 |sle=>simp[V.fits]
 |sl k o xs b off len cap hl hc hm hf f hI hw hv=>simp only[V.fits];omega
 |agg cs vs hl h1 hb hv=>
  intro c hc
  obtain⟨i,hi,rfl⟩:=List.mem_iff_getElem.1 hc
  have hr:=hv i _ _ (List.getElem?_eq_getElem hi) (Array.getElem?_eq_getElem (by omega))
  generalize cs[i]=c at hr
  generalize vs[i]'(by omega)=cv at hr
  cases hr with
  |int k n h=>exact h
  |str l s hl h=>subst hl;simpa [nu] using h
  |sln=>simp
  |sle=>simp
  |sl k o xs b off len cap hl hc hm hf f hI hw hv=>simp only;omega
  |_=>trivial
 |_=>trivial
theorem aL.fits{f:FuncId}{vs:List V}{v:V}(h:(∀x∈vs,x.fits)→aL P f vs v):aL P f vs v:=by
 by_cases hf:∀x∈vs,x.fits
 ·exact h hf
 ·refine⟨[],?_⟩
  intro w g cargs hβ hhr hlen hbare hrel
  refine absurd ?_ hf
  intro x hx
  obtain⟨i,hi,rfl⟩:=List.mem_iff_getElem.1 hx
  exact(hrel i _ _ (List.getElem?_eq_getElem hi) (Array.getElem?_eq_getElem (by omega))).fits
end
end Go.AM
end
