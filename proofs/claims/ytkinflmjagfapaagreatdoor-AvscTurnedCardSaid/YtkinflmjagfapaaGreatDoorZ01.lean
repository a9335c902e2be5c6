import Derived.Orders
import Derived.MapKept
import Derived.WideKeyRuns
import Derived.WalkSpells
import Derived.Test.YtkinflmjagfapaaGreatDoorZ00
open Array renaming getElem?_eq_getElem→Ao,getElem?_eq_some_iff→AP,getD→A9,length_toList→BM,getElem?_append_left→B8,getElem?_toList→CA,getElem?_push→CM,getElem?_eq_none→C4,getElem?_modify→De,eq_empty_of_size_eq_zero→Dj
open Bool renaming and_eq_true→Ac,or_eq_true→Ba,and_eq_false_iff→BI,false_eq_true→B3,eq_iff_iff→B5
open Function renaming comp→Dy,comp_def→DE
open Go.Addr renaming add_lit→BD
open Go.Builtin renaming append_→Cv,len_→CS
open Go.Deferred renaming ofValue→Da
open Go.Instr renaming sureAddr→BQ,checkKey→BY,sliceAt→Cp,fill→Cs,slice→CK,sameBits→CZ,mapUpdate→Dl,sameNow→DA,storeAt→DC
open Go.IntKind renaming signed→Bb,bits→Bo,max→BT,min→B2
open Go.Op renaming equalIn→C0
open Go.Oper renaming wp→CF,upon→Df
open Go.Region renaming binds→BN,wanted→BX,ready→CY
open Go.Result renaming andThen_ok→B9
open Go.Sem renaming run_bind→CW
open Go.World renaming cell?_setCells_out→A2,cell?→By,frozen?→BA,cell?_setCells_in→BB
open List renaming length→Aa,getElem?_eq_getElem→Ab,getElem?_eq_some_iff→Ad,getD_eq_getElem?_getD→Af,mem_of_getElem?→Ai,getD→Ak,all_eq_true→Al,getElem?_append_right→Aq,getElem?_append_left→Ar,length_cons→Av,mem_append→Aw,getElem?_map→Ay,mem_singleton→Az,getElem?_set→AB,length_append→AD,mem_map→AE,length_set→AF,mem_flatMap→AG,set→AJ,getElem_mem→AK,getElem?_take→AO,mem_cons→AQ,mem_iff_getElem→AS,mem_cons_of_mem→AT,mem_cons_self→AU,getElem?_cons_succ→AV,getElem?_set_ne→AW,mem_append_left→AX,getElem?_eq_none→AZ,map_congr_left→A0,getElem?_cons_zero→A4,getElem?_drop→A6,eq_nil_of_length_eq_zero→A7,range→A8,mem_of_mem_take→Be,range'→Bf,length_singleton→Bh,mem_range→Bm,cons_append→Bp,length_map→Bt,take_of_length_le→Bv,length_take→Bw,mem_of_mem_drop→BC,getElem?_set_self→BG,length_drop→BJ,map_append→BL,contains_iff_mem→BP,mem_append_right→BR,flatMap_cons→Cb,getElem?_of_mem→Cc,any_eq_true→Cg,map_map→Ch,range'_succ→Ck,getD_cons_zero→Cm,set_cons_succ→Cq,nil_append→Cr,size_toArray→Cz,filterMap_append→CD,pairwise_append→CH,foldl_cons→CP,set_cons_zero→CT,filterMap_cons_some→CU,pairwise_cons→CV,ext_getElem?→C3,eq_nil_iff_forall_not_mem→Dg,set_set→Di,range_eq_range'→Do,range'_append→Dw,map_take→Dz,map_drop→DB,set_comm→DD
open List.Sublist renaming append_left→DK
open Nat renaming le_refl→Am,beq→As,eq_of_beq_eq_true→Ax,lt_of_lt_of_le→AC,le_trans→AH,lt_or_ge→AI,add_mul→AL,mul_le_mul_right→AN,zero_add→A1,ne_of_lt→Bj,beq_refl→BF,ble→BV,mul_comm→B4,blt_eq→Cd,add_zero→Cl,div_add_mod→Ct,one_mul→Cw,sub_self→CE,eq_zero_or_pos→CX,le_mul_of_pos_right→C1,add_assoc→C5,le_add_right→C8,le_of_not_lt→C9,le_of_ble_eq_true→Dd,mul_one→Du
open Option renaming map_eq_some_iff→An,getD_some→Bd,map_some→Bg,bind_eq_some_iff→BK,map_map→Cf,mem_toList→DG
open Option.some renaming injEq→Ah,inj→Au
open Prod.mk renaming injEq→Ap
set_option linter.all false
noncomputable section
namespace Go.AM
def mb(P:Program)(o:IOp)(m:Oper):Bool:=
 match o with
 | .blu d k=>(m.dst==some d)&&(match m.op with| .buildSlice t n A=>kz P t k&&(n==0&&A.isEmpty)|_=>false)
 | .apu d k x y=>(m.dst==some d)&&(match ye m.op with|some (.append,[b,f],[t,u])=>kz P t k&&(kz P u k&&(aJ x b&&aJ y f))|_=>false)
 | .slw d k x j q=>(m.dst==some d)&&(match m.op with| .slice t b h e none=>kz P t k&&(aJ x b&&(ke j h&&ke q e))|_=>false)
 | .apx d k x y=>(m.dst==some d)&&(match ye m.op with|some (.append,[b,f],[t,u])=>kz P t k&&(kz P u k&&(aJ x b&&aJ y f))|_=>false)
 | .lnw d x=>(m.dst==some d)&&(match ye m.op with|some (.len,[b],[t])=>(match P.underlying t with|some (.slice _)=>true|_=>false)&&aJ x b|_=>false)
 | .ixw d k x i=>(m.dst==some d)&&(match m.op with| .indexAddr t b p=>kz P t k&&(aJ x b&&aJ i p)|_=>false)
 | .fdw d c x=>a7 P (.fad d c x) m
 | .ldw d n agg x=>a7 P (.ld d n agg false x) m
 | .stw d n x v=>(m.dst==d)&&(match m.op with| .store t b r=>(fR P t==some n)&&(aJ x b&&aJ v r)|_=>false)
 |_=>false
section
variable{w w':World}{g g':Gh}{s s':St}{a:Act}{P:Program}{Γ:av}{m:Oper}{next:Act->World->Prop}{Q:Exit->Act->World->Prop}
theorem pd{i j n z:Nat}(b:i<n)(c:j<z):i*z+j<n*z:=by
 calc i*z+j<i*z+z:=by omega
  _=(i+1)*z:=by rw[AL,Cw]
  _<=n*z:=AN _ b
theorem tb{I:Nat->Nat->Prop}{ρ:Nat->Nat}{N:Nat}{k:EK}{x:Ty k}{j:Nat}{v:V}{u:Value}(b:(enc k x)[j]? =some v)(h:VRel I ρ N w v u){ρ':Nat->Nat}{N':Nat}:VRel I ρ' N' w v u:=
 h.flat1 (acw k x v (Ai b))
theorem SR.newUL(h:SR g s w a)(k:EK)(xs:List (Ty k))(cap d:Nat)(q:Array Value)(e:TypeId)
  (ae:w'.heap.size=w.heap.size+1) (c:∀b,b<w.heap.size->w'.heap[b]? =w.heap[b]?) {F:Nat×Nat} (E:w'.heap[w.heap.size]? =some (.cells q e F))
  (J:w'.os=w.os) (M:w'.tape=w.tape) (D:w'.output=w.output)
  (L:xs.length<=cap) (hm:cap<=dl) (A:cap*k.sz<=q.size) (C:k=.u8->e=g.β) (H:aeO F q.size)
  (W:∀(i:Nat) x j v,xs[i]? =some x->(enc k x)[j]? =some v->∃cv,q[i*k.sz+j]? =some cv∧VRel g.I (λ_=>0) 0 w v cv):
  ∃g',SR g' (s.set d (.ul k xs)) w' (a.put (some d) (.slice (some ⟨w.heap.size,0,none⟩) xs.length cap))∧FR g s.hp w g' s.hp w':=by
 let g':Gh:={g with O:=λb=>if b=w.heap.size then some (.slot d) else g.O b}
 have r:∀b j,g.I b j->b<w.heap.size:=by intro b j f;exact(h.hr.exI b j f).lt
 have t:∀b j,b<w.heap.size->w'.cell? ⟨b,j,none⟩=w.cell? ⟨b,j,none⟩:=by intro b j p;simp[By,c b p]
 have u:Up g.I g.ρ s.hp.length w g'.I g'.ρ s.hp.length w':=⟨λb j f=>f,λb j f=>t b j (r b j f),λ_ _=>rfl,Am _⟩
 have hs:SR g' s w' a:=by
  refine h.keep none trivial rfl u ?_ ?_ ?_ ?_;·intro G b p _;have y:=h.hr.oLt b G p;exact⟨by simp[g',Bj y,p],c b y,λj B=>B⟩
  ·intro id cs hid;have y:=(h.hr.obj id cs hid).lt;exact⟨c _ y,by simp[g',Bj y,h.hr.notO id cs hid],λj B=>B⟩
  ·intro b j B;exact(h.hr.exI b j B).blk (by first|exact c b (r b j B)|exact f2 b (r b j B))
  ·intro b o p;simp only[g'] at p;split at p;·omega
   ·have:=h.hr.oLt b o p;omega
 refine⟨g',hs.set d (.ul k xs _ _ (by omega)) (.inr ⟨w.heap.size,cap,q,e,F,H,rfl,L,hm,by simp[g'],E,A,C,?_,?_⟩),⟨rfl,J,M,D,by omega,λb p _ _=>c b p,u,λ_ _ _ _ _ f=>f,?_,λ_ cs h=>.inl ⟨cs,h⟩⟩⟩;·intro j f;exact absurd (r _ _ f) (Nat.lt_irrefl _)
 ·intro i x j v cv Y Z N;obtain⟨ad,R,X⟩:=W i x j v Y Z;rw[R] at N;obtain rfl:=Au N;exact X.up ⟨λ_ _ f=>f,λb j f=>t b j (r b j f),λ_ _=>rfl,Am _⟩
 ·intro b p _ S;simp[g',Bj p,S]
theorem SR.inPlaceU(h:SR g s w a){p:Occ}(hp:tY (some p) s)(k:EK)(xs ys:List (Ty k))(b cap d:Nat)(news:List Value){r:Array Value}{e:TypeId}{H:Nat×Nat}(o0:aeO H r.size)
  (E:g.O b=some p) (M:w.heap[b]? =some (.cells r e H)) (o3:cap*k.sz<=r.size) (ad:k=.u8->e=g.β) (oI:∀j,¬g.I b j)
  (oc:∀(i:Nat) x (j:Nat) v u,xs[i]? =some x->(enc k x)[j]? =some v->r[i*k.sz+j]? =some u->VRel g.I (λ_=>0) 0 w v u) (Y:cap<=dl)
  (A:xs.length+ys.length<=cap) (hl:news.length=ys.length*k.sz)
  (R:∀(i:Nat) x (j:Nat) v,ys[i]? =some x->(enc k x)[j]? =some v->∃u,news[i*k.sz+j]? =some u∧VRel g.I (λ_=>0) 0 w v u):
  ∃g',SR g' (s.set d (.ul k (xs++ys))) (w.setCells b (xs.length*k.sz) news) (a.put (some d) (.slice (some ⟨b,0,none⟩) (xs.length+ys.length) cap))∧
   FR g s.hp w g' s.hp (w.setCells b (xs.length*k.sz) news):=by
 have ar:xs.length*k.sz+news.length<=r.size:=by have:(xs.length+ys.length)*k.sz<=cap*k.sz:=AN _ A;rw[AL] at this;omega
 obtain⟨⟨C,W,q2⟩,L,q4,q5,q6,q7⟩:=i9 b news (xs.length*k.sz) w r e H M;let w':=w.setCells b (xs.length*k.sz) news;let g':Gh:={g with O:=λq=>if q=b then some (.slot d) else g.O q}
 have t:∀q j,g.I q j->w'.cell? ⟨q,j,none⟩=w.cell? ⟨q,j,none⟩:=by intro q j y;exact A2 b news _ w _ (by rintro rfl _;exact absurd y (oI j))
 have S:∀(id:Nat) cs,s.hp[id]? =some (some cs)->g.ρ id≠b:=by intro id cs hid e';have:=h.hr.notO id cs hid;rw[e',E] at this;simp at this
 have u:Up g.I g.ρ s.hp.length w g'.I g'.ρ s.hp.length w':=⟨λb j y=>y,t,λ_ _=>rfl,Am _⟩
 have hs:SR g' s w' a:=by
  refine h.keep (some p) hp rfl u ?_ ?_ ?_ ?_
  ·intro a9 q c al;have f:q≠b:=by
    rintro rfl;rw[E] at c;exact al c
   exact⟨by simp[g',f,c],L q f,λj B=>B⟩
  ·intro id cs hid;have f:=S id cs hid;exact⟨L _ f,by simp[g',f,h.hr.notO id cs hid],λj B=>B⟩
  ·intro q j B;exact(h.hr.exI q j B).set (t q j B) M W L
  ·intro q o c;simp only[g'] at c;rw[q4];split at c;·rename_i e';subst e';exact h.hr.oLt _ _ E
   ·exact h.hr.oLt _ _ c
 have F:∀j,C[j]? =if xs.length*k.sz<=j∧j<xs.length*k.sz+news.length then news[j-xs.length*k.sz]? else r[j]?:=by
  intro j;rw[<-aM W j];split;·rename_i B;have:=BB b news (xs.length*k.sz) w (λj' a5=>by rw[aM M,Ao (by omega)];rfl) (j-xs.length*k.sz) (by omega);rw[show xs.length*k.sz+(j-xs.length*k.sz)=j by omega] at this;rw[Ab (by omega)];exact this
  ·rename_i B;rw[A2 _ _ _ w _ (λ_ _=>by simp only;omega),aM M]
 have ue:Up g.I (λ_=>0) 0 w g.I (λ_=>0) 0 w':=⟨λ_ _ y=>y,t,λ_ _=>rfl,Am _⟩
 have X:∀x:Ty k,∀j v,(enc k x)[j]? =some v->j<k.sz:=by
  intro x j v R;have:=(Ad.1 R).1
  rwa [bT] at this
 refine⟨g',hs.set d ?_ (.inr ⟨b,cap,C,e,H,by rw[q2];exact o0,by simp,by simpa using A,Y,by simp[g'],W,by rw[q2];exact o3,ad,oI,?_⟩),⟨rfl,q5,q6,q7,by rw[q4];exact Am _,λq c _ D=>?_,u,λ_ _ _ _ _ y=>y,?_,λ_ cs h=>.inl ⟨cs,h⟩⟩⟩;·have:=VRel.ul (I:=g'.I) (ρ:=g'.ρ) (N:=s.hp.length) (w:=w') k (xs++ys) (some ⟨b,0,none⟩) cap (by simp;omega);simpa using this
 ·intro i x j v cv J Z G;have B:=X x j v Z;rw[F] at G;rcases AI i xs.length with y|y;·rw[Ar y] at J;have:=pd y B;rw[if_neg (by omega)] at G;exact(oc i x j v cv J Z G).up ue
  ·rw[Aq y] at J;obtain⟨u',e1,e2⟩:=R _ x j v J Z;have bx:=(Ad.1 e1).1;have hp':i*k.sz=xs.length*k.sz+(i-xs.length)*k.sz:=by rw[<-AL];congr 1;omega
   rw[if_pos (by omega),show i*k.sz+j-xs.length*k.sz=(i-xs.length)*k.sz+j by omega,e1] at G;obtain rfl:=Au G;exact e2.up ue
 ·have f:q≠b:=by rintro rfl;rw[E] at D;simp at D
  exact L q f
 ·intro q c _ D;have f:q≠b:=by rintro rfl;rw[E] at D;simp at D
  simp[g',f,D]
theorem atz{x:aw}{d:Operand}{k:EK}{xs:List (Ty k)}(h:SR g s w a)(c:aJ x d=true)(b:x.ev s=.ul k xs):
  ∃p,tY (some p) (x.after s)∧aax g w p k xs (a.eval d):=by
 unfold aJ at c;split at c
 ·rename_i n k';obtain rfl:=by simpa using c
  simp only[aw.ev] at b;exfalso;cases e:s.get n<;>rw[e] at b<;>simp[disown] at b
 ·rename_i n k';obtain rfl:=by simpa using c
  refine⟨.slot n,ww n s,?_⟩;have:=h.er.getOwn n;rw[show s.get n=.ul k xs from b] at this;exact this
 ·rename_i v cv;simp only[aw.ev] at b;subst b;exact⟨.res,trivial,wu c _⟩
 ·rename_i f i;simp only[aw.ev] at b;cases b
 ·simp at c
theorem arN{p:Occ}{k:EK}{xs:List (Ty k)}{cv:Value}(h:aax g w p k xs cv):
  ∃L:List Value,L.length=xs.length*k.sz∧(∀(i:Nat) x (j:Nat) v,xs[i]? =some x->(enc k x)[j]? =some v->∃u,L[i*k.sz+j]? =some u∧VRel g.I (λ_=>0) 0 w v u)∧
   ((xs=[]∧cv=.slice none 0 0)∨∃b cap c e f,aeO f c.size∧cv=.slice (some ⟨b,0,none⟩) xs.length cap∧xs.length<=cap∧w.heap[b]? =some (.cells c e f)∧cap*k.sz<=c.size∧∀j v,L[j]? =some v->w.cell? ⟨b,j,none⟩=some v):=by
 rcases h with⟨rfl,rfl⟩|⟨b,cap,c,e,f,D,E,t,H,J,q,y,G,M,C⟩
 ·exact⟨[],by simp,by simp,.inl ⟨rfl,rfl⟩⟩
 ·have F:xs.length*k.sz<=c.size:=AH (AN _ t) y;refine⟨c.toList.take (xs.length*k.sz),by simp;omega,?_,.inr ⟨b,cap,c,e,f,D,E,t,q,y,?_⟩⟩
  ·intro i x j v A r;have d:j<k.sz:=by
    have:=(Ad.1 r).1
    rwa [bT] at this
   have o:=pd (Ad.1 A).1 d;have B:c[i*k.sz+j]? =some (c[i*k.sz+j]'(by omega)):=Ao _;refine⟨_,?_,C i x j v _ A r B⟩;rw[AO,if_pos o,CA];exact B
  ·intro j v d;rw[AO] at d;split at d;·rw[CA] at d;rw[aM q];exact d
   ·simp at d
theorem aqO(br:g.β=nk P){d:Nat}{k:EK}{x:aw}{M E:Operand}{xs ys:List (Ty k)}{ty t u e:TypeId}{pos:String}{D:Array Edge}{gd:Option (Nat×Bool)}(h:SR g s w a)
  (Y:aJ x M=true) (cc:x.ev s=.ul k xs) (ut:P.underlying t=some (.slice e)) (he:wE P e k=true) (news:List Value)
  (G:_root_.Go.Src P k.sz u (a.eval E) ys.length news w) (hv:∀(i:Nat) x (j:Nat) v,ys[i]? =some x->(enc k x)[j]? =some v->∃u,news[i*k.sz+j]? =some u∧VRel g.I (λ_=>0) 0 w v u)
  (O:(xs.length+ys.length)*k.bytes<=tT)
  (hn:cF g s w a ((x.after s).set d (.ul k (xs++ys))) next):
  (⟨some d,.call ⟨.builtin .append,⟨[M,E]⟩,⟨[t,u]⟩⟩,ty,pos,D,gd⟩:Oper).wp P a w next Q:=by
 obtain⟨inf,z,i1,X,i3,i4,i5,i6,i7⟩:=im he;have b1:0<k.bytes:=by cases k<;>simp[EK.bytes];rename_i kk;cases kk<;>simp[ahC]
 have H:xs.length+ys.length<=tT:=AH (C1 _ b1) O;obtain⟨p,hp,ho⟩:=atz h Y cc;have h1:=h.after x;obtain⟨L,l1,l3,l4⟩:=arN ho;have y:∀cv w',(Cv #[t,u] ty #[a.eval M,a.eval E]).run P w=.ok cv w'->(execOp a.eval ⟨some d,.call ⟨.builtin .append,⟨[M,E]⟩,⟨[t,u]⟩⟩,ty,pos,D,gd⟩).run P w=.ok (.value cv) w':=by intro cv w' J;simp[execOp,resolve,invoke,builtin,J]
 have A:(x.after s).hp=s.hp:=oE x s
 have grow:∀(base:Option Addr)(cap:Nat),a.eval M=.slice base xs.length cap->cap<xs.length+ys.length->
   (Builtin.firstCells k.sz xs.length (.slice base xs.length cap)).run P w.drew=.ok L.toArray w.drew->
   (⟨some d,.call ⟨.builtin .append,⟨[M,E]⟩,⟨[t,u]⟩⟩,ty,pos,D,gd⟩:Oper).wp P a w next Q:=by
  intro base cap Z C an
  have J:=run_append_grow_src w t u ty e inf z ut i1 i4 base xs.length cap L (by rw[X];exact an) (a.eval E) ys.length news (by rw[X];exact G) C (by unfold tT at H;omega)
   (growslice_fits C (by rw[i3];exact O))
  have R:xs.length+ys.length<=grownCap w (xs.length+ys.length) cap e:=by unfold grownCap Question.cut;exact C8 _ _
  have b0:grownCap w (xs.length+ys.length) cap e<=dl:=by have:=grownCap_le_maxLen w (xs.length+ys.length) cap e (by unfold maxLen;unfold tT at H;omega);simpa [maxLen,dl] using this
  let c:Array Value:=(L++news).toArray++Builtin.zeroCells z.cells (grownCap w (xs.length+ys.length) cap e-(xs.length+ys.length));have b4:=G.newsLen;have ae:c.size=grownCap w (xs.length+ys.length) cap e*k.sz:=by
   simp only[c,Array.size_append,Cz,AD,l1,b4,size_zeroCells,i7];rw[<-AL,<-AL]
   congr 1
   omega
  have f:=lD w.drew (.cells c e);obtain⟨g',q1,q2⟩:=h1.newUL (w':=w.drew.alloc (.cells c e)) k (xs++ys) (grownCap w (xs.length+ys.length) cap e) d c e f.1 f.2.1 f.2.2 rfl rfl rfl (by simpa using R) b0 (by rw[ae];exact Am _) (λhk=>by rw[br];exact wv he hk) (asI _) (by
   intro i x j v Y S;have hj:j<k.sz:=by
    have:=(Ad.1 S).1
    rwa [bT] at this
   have B:∀(q:Nat) u,(L++news)[q]? =some u->c[q]? =some u:=by intro q u hq;have bn:=(Ad.1 hq).1;simp only[c];rw[B8 (by simpa using bn)];simpa using hq
   rcases AI i xs.length with hi|hi;·rw[Ar hi] at Y;obtain⟨u,e1,e2⟩:=l3 i x j v Y S;refine⟨u,B _ _ ?_,e2⟩;rw[Ar (Ad.1 e1).1];exact e1
   ·rw[Aq hi] at Y;obtain⟨u,e1,e2⟩:=hv _ x j v Y S;refine⟨u,B _ _ ?_,e2⟩;have:i*k.sz=xs.length*k.sz+(i-xs.length)*k.sz:=by rw[<-AL];congr 1;omega
    rw[Aq (by rw[l1];omega),l1,<-e1]
    congr 1
    omega)
  have W:(execOp a.eval ⟨some d,.call ⟨.builtin .append,⟨[M,E]⟩,⟨[t,u]⟩⟩,ty,pos,D,gd⟩).run P w=.ok (.value (.slice (some ⟨w.heap.size,0,none⟩) (xs++ys).length (grownCap w (xs.length+ys.length) cap e))) (w.drew.alloc (.cells c e)):=by refine y _ _ ?_;rw[Z,J];simp[c]
  refine eX rfl W ⟨g',q1,?_⟩ hn;rw[A] at q2;show FR g s.hp w g' (x.after s).hp _;rw[A];exact q2
 rcases l4 with⟨rfl,r⟩|⟨b,cap,c,e',fz,bx,r,C,Z,ei,F⟩
 ·by_cases h0:ys.length=0
  ·have b3:ys=[]:=A7 h0;subst b3;have J:(Cv #[t,u] ty #[a.eval M,a.eval E]).run P w=.ok (.slice none 0 0) w:=by
    have bs:news=[]:=by have:=G.newsLen;simpa using this
    have hc:=G.cells;rw[r];rcases G.kind with⟨e',hk⟩|hk<;>simp[Cv,run_underlying ut,run_underlying hk,sizeOf,typeInfo,i1,X,G.len] at* <;>simp[hc]
   refine eX rfl (y _ _ J) ⟨g,?_,?_⟩ hn;·exact h1.set d (by simpa using VRel.ul (I:=g.I) (ρ:=g.ρ) (N:=(x.after s).hp.length) (w:=w) k ([]:List (Ty k)) none 0 (by simp)) (.inl ⟨by simp,rfl⟩)
   ·have:=FR.refl g s.hp w;simpa [St.set,A] using this
  ·exact grow none 0 (by simpa using r) (by simp;omega) (by
    have hL:L=[]:=by simpa using l1
    subst hL;simpa using run_firstCells_none (P:=P) w.drew k.sz 0 0 0)
 ·by_cases o:xs.length+ys.length<=cap
  ·rcases ho with⟨rfl,ho⟩|⟨b2,c0,cx,e2,ds,m0,m1,m2,m3,m4,m5,m6,m7,m8,m9⟩
   ·rw[r] at ho;cases ho
   ·rw[r] at m1;cases m1;rw[Z] at m5;cases m5;have cs:xs.length*k.sz+news.length<=cap*k.sz:=by
     have:(xs.length+ys.length)*k.sz<=cap*k.sz:=AN _ o;rw[AL] at this;rw[G.newsLen];omega
    have J:=run_append_room_src w t u ty e inf ut i1 b 0 xs.length cap (a.eval E) ys.length news (by rw[X];exact G) o (by
     intro j hj;rw[X,aM Z,Ao (by omega)];rfl) (by
     intro j hj;rw[X];have hc:=bx (0+xs.length*k.sz+j) (by omega);simp only[BA,Z,BI,decide_eq_false_iff_not];omega)
    rw[X,A1] at J;have q:=h1.inPlaceU hp k xs ys b cap d news m0 m4 Z m6 m7 m8 m9 m3 o G.newsLen hv;rw[A] at q;refine eX rfl (y _ _ (by rw[r];exact J)) ?_ hn;obtain⟨g',q1,q2⟩:=q;exact⟨g',q1,by simpa [St.set,A] using q2⟩
  ·exact grow _ cap r (by omega) (run_firstCells_some w.drew k.sz xs.length ⟨b,0,none⟩ xs.length cap L (by simpa using l1) (by intro j v hj;rw[BD,A1];exact F j v hj))
theorem aqP{d:Nat}{k:EK}{x y:aw}(G:g.β=nk P)(q:mb P (.apu d k x y) m=true)(f:step Γ (.apu d k x y) s=some (true,s'))(h:SR g s w a)(O:cF g s w a s' next):m.wp P a w next Q:=by
 obtain⟨dst,op,ty,pos,S,gd⟩:=m;simp only[mb,Ac,beq_iff_eq] at q;obtain⟨rfl,q⟩:=q;split at q
 ·rename_i x' y' t u D;obtain rfl:=mv D;simp only[Ac] at q;obtain⟨W,h2,Z,h4⟩:=q;obtain⟨e,u1,e1⟩:=dG W;obtain⟨e',I,e2⟩:=dG h2;simp only[step] at f;split at f
  ·rename_i k' l a1 o Y H hy;split at f
   ·rename_i hk;subst hk;split at f
    ·rename_i A;simp only[Ah,Ap,decide_eq_true_eq] at f;obtain⟨B,rfl⟩:=f;have C:=aI h4 h.er;rw[hy] at C;have C:=aoT A C;obtain⟨L,E,l2,l3,l4⟩:=aiF C;refine aqO G h Z H u1 e1 L (ys:=A▸Y) ?_ (λi x j v H M=>by
      obtain⟨u,X,q2⟩:=l3 i x j v H M;exact⟨u,X,tb M q2⟩) (by rw[ahH];exact B) O
     rcases l4 with⟨p,J,r, -⟩|⟨b,R,cap,r,N,ae,c⟩
     ·rw[r,p];have hL:L=[]:=by rw[p] at E;simpa using E
      rw[hL];cases J with
      |none=>exact _root_.Go.Src.ofNil w I 0
      |some J=>exact _root_.Go.Src.ofSlice w I _ _ _ _ (by simp) (by intro j v F;simp at F) (by simp)
     ·rw[r];exact _root_.Go.Src.ofSlice w I _ _ _ _ E (by intro j v F;rw[BD];exact c j v F) l2
    ·simp at f
   ·simp at f
  ·simp at f
 ·simp at q
theorem atA{d:Nat}{k:EK}(i:g.β=nk P)(b:mb P (.blu d k) m=true)(x:step Γ (.blu d k) s=some (true,s'))(h:SR g s w a)(j:cF g s w a s' next):m.wp P a w next Q:=by
 obtain⟨dst,H,ty,pos,p,E⟩:=m;simp only[mb,Ac,beq_iff_eq] at b;obtain⟨rfl,b⟩:=b;split at b
 ·rename_i t n C;simp only[Ac,beq_iff_eq] at b;obtain⟨c,rfl,r⟩:=b;obtain rfl:_=s':=by simpa [step] using x
  obtain⟨e,B,c⟩:=dG c;obtain⟨inf,z,A,u,D,G,I,F,J⟩:=im c;have o:C= #[]:=by simpa using r
  have f:=lD w (.cells (#[]:Array Value) e);obtain⟨g',q,y⟩:=h.newUL (w':=w.alloc (.cells (#[]:Array Value) e)) k [] 0 d #[] e f.1 f.2.1 f.2.2 rfl rfl rfl (by simp) (by unfold dl;omega) (by simp) (λv=>by rw[i];exact wv c v) (asI _) (by simp);refine eX rfl (cv:=.slice (some ⟨w.heap.size,0,none⟩) 0 0) ?_ ⟨g',q,y⟩ j;simp[execOp,Instr.buildSlice,run_underlying B,sizeOf,typeInfo,A,u,o,Cs,newRow];rw[show Array.range 0= #[] from Dj (by simp),Array.map_empty]
 ·simp at b
theorem atB{d:Nat}{x:aw}(b:mb P (.lnw d x) m=true)(i:step Γ (.lnw d x) s=some (true,s'))(h:SR g s w a)(p:cF g s w a s' next):m.wp P a w next Q:=by
 obtain⟨dst,E,ty,pos,y,D⟩:=m;simp only[mb,Ac,beq_iff_eq] at b;obtain⟨rfl,b⟩:=b;split at b
 ·rename_i r t j;obtain rfl:=mv j;simp only[Ac] at b;obtain⟨q,A⟩:=b;have f:=aI A h.er;split at q
  ·rename_i e v;simp only[step] at i;split at i
   ·rename_i n o;obtain rfl:_=s':=by simpa using i
    rw[o] at f;generalize c:a.eval r=cv at f;cases f with
    |hd _ C cap B=>refine aH h rfl (cv:=.int .i64 n) (by simp[execOp,resolve,c,invoke,builtin,CS,run_underlying v,goInt]) ?_ rfl p;exact .int _ _ (by simp[B2,BT,Bb,Bo,dl] at *;omega)
   ·rename_i k id n o;obtain rfl:_=s':=by simpa using i
    rw[o] at f;generalize c:a.eval r=cv at f;cases f with
    |sw _ _ _ hid u B=>refine aH h rfl (cv:=.int .i64 n) (by simp[execOp,resolve,c,invoke,builtin,CS,run_underlying v,goInt]) ?_ rfl p;exact .int _ _ (by simp[B2,BT,Bb,Bo,dl] at *;omega)
   ·simp at i
  ·simp at q
 ·simp at b
theorem atC{d:Nat}{k:EK}{x i:aw}(b:mb P (.ixw d k x i) m=true)(c:step Γ (.ixw d k x i) s=some (true,s'))(h:SR g s w a)(v:cF g s w a s' next):m.wp P a w next Q:=by
 obtain⟨dst,X,ty,pos,A,R⟩:=m;simp only[mb,Ac,beq_iff_eq] at b;obtain⟨rfl,b⟩:=b;split at b
 ·rename_i t D C;simp only[Ac] at b;obtain⟨p,G,B⟩:=b;have o:=aI G h.er;have j:=aI B h.er;simp only[step] at c;split at c
  ·rename_i k' id E S n M y;split at c
   ·rename_i J;subst J;simp only[Ah,Ap,Ac,decide_eq_true_eq] at c;obtain⟨⟨H,F⟩,rfl⟩:=c;rw[M] at o;rw[y] at j;obtain⟨e,N,p⟩:=dG p;obtain⟨inf,z,L,I,O,W,Y,_⟩:=im p;generalize q:a.eval D=cv at o;generalize f:a.eval C=Z at j;cases j;cases o with
    |sw _ _ _ hid u hm=>
     have r:∀w':World,(sizeOf e).run P w'=.ok k'.sz w':=λw'=>by simp[sizeOf,typeInfo,L,I]
     refine aH h rfl (cv:=.pointer (some ⟨g.ρ id,n.toNat*k'.sz+0,none⟩)) ?_ (.wp _ _ _ _ hid) rfl v;simp[execOp,q,f,Instr.indexAt,asIntOf,run_underlying N,H,F,r,BD]
   ·simp at c
  ·simp at c
 ·simp at b
theorem atD{d c:Nat}{x:aw}(e:mb P (.fdw d c x) m=true)(j:step Γ (.fdw d c x) s=some (true,s'))(h:SR g s w a)(y:cF g s w a s' next):m.wp P a w next Q:=by
 obtain⟨dst,I,ty,pos,A,H⟩:=m;simp only[mb,a7,Ac,beq_iff_eq] at e;obtain⟨rfl,e⟩:=e;split at e
 ·rename_i t C J;simp only[Ac] at e;obtain⟨b,D⟩:=e;have q:=aI D h.er;split at b
  ·rename_i fs G;split at b
   ·rename_i E r;simp only[Ac,beq_iff_eq] at b;obtain⟨B,b⟩:=b;have f:∀w':World,∃n,n≠0∧(sizeOf E.type).run P w'=.ok n w':=by
     intro w';unfold ahE fR at b;split at b;·rename_i n p;exact⟨n,by simpa using b,oq (by simpa [fR] using p) w'⟩
     ·simp at b
    obtain⟨n,u,f⟩:=f w;simp only[step] at j;split at j
    ·rename_i id k i o F;obtain rfl:_=s':=by simpa using j
     rw[F] at q;generalize v:a.eval C=cv at q;cases q with
     |wp _ _ _ _ hid=>refine aH h rfl (cv:=.pointer (some ⟨g.ρ id,i*k.sz+(o+c),none⟩)) ?_ (.wp _ _ _ _ hid) rfl y;simp[execOp,v,Instr.fieldAt,run_underlying G,r,BQ,fieldPlace,f,u,B,BD,C5]
    ·simp at j
   ·simp at b
  ·simp at b
 ·simp at e
theorem yC{id:Nat}{k:EK}{xs:List (Ty k)}(b:s.rowW id=some ⟨k,xs⟩):s.hp[id]? =some (some [.rw k xs]):=by
 unfold St.rowW at b;simp only[Ak] at b;cases c:s.hp[id]? with
 |none=>rw[c] at b;simp at b
 |some x=>
  rw[c] at b;simp only[Bd] at b;split at b;·simp only[Ah] at b;cases b;rfl
  ·cases b
theorem sR{k:EK}:∀(xs:List (Ty k))(i j:Nat)(x:Ty k)(v:V),xs[i]? =some x->(enc k x)[j]? =some v->(xs.flatMap (enc k))[i*k.sz+j]? =some v
 | [],i,j,x,v,b,_=>by simp at b
 |y::xs,0,j,x,v,b,c=>by simp at b;subst b;have e:=(Ad.1 c).1;simp only[Cb,Nat.zero_mul,A1];rw[Ar e];exact c
 |y::xs,i+1,j,x,v,b,c=>by
  have f:=sR xs i j x v (by simpa using b) c;simp only[Cb];have d:=bT k y;rw[Aq (by rw[d,AL];omega),d,<-f]
  congr 1
  rw[AL];omega
theorem bC{k:EK}:∀(xs:List (Ty k)),(xs.flatMap (enc k)).length=xs.length*k.sz
 | []=>by simp
 |x::xs=>by simp[Cb,bC xs,bT,AL];omega
theorem cX{k:EK}(xs:List (Ty k))(q:Nat)(v:V)(h:(xs.flatMap (enc k))[q]? =some v):∃x,xs[q / k.sz]? =some x∧(enc k x)[q%k.sz]? =some v:=by
 have c:=(Ad.1 h).1;rw[bC] at c;have d:0<k.sz:=by cases k<;>simp[EK.sz]
 have i:q / k.sz<xs.length:=Nat.div_lt_of_lt_mul (by rw[B4];exact c);have f:q%k.sz<k.sz:=Nat.mod_lt _ d;have e:xs[q / k.sz]? =some xs[q / k.sz]:=Ab i;have b:q%k.sz<(enc k xs[q / k.sz]).length:=by rw[bT];exact f
 refine⟨_,e,?_⟩;have:=sR xs _ _ _ _ e (Ab b);rw[show q / k.sz*k.sz+q%k.sz=q by rw[B4];exact Ct q k.sz,h] at this;rw[Ab b,<-this]
theorem mw{id:Nat}{k:EK}{xs:List (Ty k)}(h:SR g s w a)(o:s.rowW id=some ⟨k,xs⟩):∃b e c,w.heap[g.ρ id]? =some (.cells b e c)∧xs.length*k.sz<=b.size∧
  pL g s.hp.length w id [.rw k xs] b e c∧∀(i:Nat) x (j:Nat) v u,xs[i]? =some x->(enc k x)[j]? =some v->b[i*k.sz+j]? =some u->VRel g.I g.ρ s.hp.length w v u:=by
 obtain⟨b,e,c,f,d⟩:=(h.hr.obj id _ (yC o)).row rfl;obtain⟨B,C,A,y⟩:=d.typed k xs rfl;have t:xs.length*k.sz<=b.size:=by
  have:=d.len;simp only[cellsOf] at this
  rwa [bC] at this
 refine⟨b,e,c,f,t,d,?_⟩;intro i x j v u p q r;exact d.rel (i*k.sz+j) v u (by simp only[cellsOf];exact sR xs i j x v p q) r
theorem atE{d n:Nat}{agg:Bool}{x:aw}(f:mb P (.ldw d n agg x) m=true)(r:step Γ (.ldw d n agg x) s=some (true,s'))(h:SR g s w a)(E:cF g s w a s' next):m.wp P a w next Q:=by
 obtain⟨dst,op,ty,pos,J,gd⟩:=m;simp only[mb,a7,Ac,beq_iff_eq] at f;obtain⟨rfl,f⟩:=f;split at f
 ·rename_i t M;simp only[Ac,beq_iff_eq,Ba] at f;obtain⟨L,R,y,W⟩:=f;have C:=aI W h.er;simp only[step] at r;split at r
  ·rename_i id k i o hx;split at r
   ·rename_i k' xs H;split at r
    ·rename_i Z;obtain⟨rfl,O⟩:=Z;simp only[Ah,Ap,decide_eq_true_eq] at r;obtain⟨F,rfl⟩:=r;rw[hx] at C;generalize q:a.eval M=cv at C;cases C with
     |wp _ _ _ _ hid=>
      obtain⟨p,e,fz,S,ae,al,A⟩:=mw h H;have B:xs[i]? =some xs[i]:=Ab F;have Y:xs.getD i (am k')=xs[i]:=by simp[Ak,B]
      rw[Y] at E;have X:=bT k' xs[i];have G:i*k'.sz+k'.sz<=p.size:=by have:(i+1)*k'.sz<=xs.length*k'.sz:=AN _ F;rw[AL,Cw] at this;omega
      have hl:=tX (agg:=agg) (cs:=((enc k' xs[i]).drop o).take n) (vs:=(p.toList.drop (i*k'.sz+o)).take n) (w:=w) (I:=g.I) (ρ:=g.ρ) (N:=s.hp.length)
       (λc D=>s9 k' _ c (BC (Be D))) (by simp;omega) (by
        rcases y with y|y;·exact .inl y
        ·right;simp;omega)
       (λj c cv f q=>by
        simp only[AO,A6] at f q;split at f;·rename_i u;simp only[u,if_true] at q;exact A i _ (o+j) c cv B f (by rw[<-CA,<-C5];exact q)
        ·simp at f)
      refine aH h rfl (cv:=if agg then .agg ((p.toList.drop (i*k'.sz+o)).take n).toArray else ((p.toList.drop (i*k'.sz+o)).take n).headD undef) ?_ hl.disown (dV _) E;have:=qj (P:=P) (w:=w) (b:=g.ρ id) (o:=i*k'.sz+o) (vs:=(p.toList.drop (i*k'.sz+o)).take n) L R y (by simp;omega) (λj v u=>by
       rw[aM S];simp only[AO,A6] at u;split at u;·simpa using u
       ·simp at u)
      simp[execOp,q,this]
    ·simp at r
   ·simp at r
  ·simp at r
 ·simp at f
theorem alO(v:V):disown (disown v)=disown v:=by
 cases v with
 |sl k o xs=>cases o<;>rfl
 |_=>rfl
theorem ale(v:V):v.weak.weak=v.weak:=by cases v<;>rfl
theorem aeR{v:V}(h:v.inRange):v.weak.inRange:=by cases v<;>first|exact h|trivial
theorem apz{k:EK}{x e:Ty k}{o:Nat}{vs:List V}(h:wD k x o vs=some e)(d:∀c∈enc k x,c.inRange)(f:∀c∈vs,c.inRange):
  enc k e=((enc k x).take o++vs.map V.weak)++(enc k x).drop (o+vs.length):=by
 unfold wD at h;rw[aj3 h ?_]
 ·rw[BL,BL,Ch,Dz,DB,amy]
  congr 2
  exact A0 λc _=>ale c
 ·intro c b;rcases Aw.1 b with b|b
  ·rcases Aw.1 b with b|b;·exact d c (Be b)
   ·obtain⟨v,i,rfl⟩:=AE.1 b;exact aeR (f v i)
  ·exact d c (BC b)
theorem sS(k:EK)(x:Ty k)(j E n:Nat):(enc k x)[j]?≠some (.bn E n):=by intro h;have:=acw k x _ (Ai h);simp[V.flat1] at this
theorem SR.putElt(h:SR g s w a){id i o:Nat}{k:EK}{xs:List (Ty k)}(ho:s.rowW id=some ⟨k,xs⟩)(t:i<xs.length){N:Ty k}{vs:List V}{us:List Value}(hl:vs.length=us.length)(cs:o+vs.length<=k.sz)
  (he:enc k N=((enc k xs[i]).take o++vs.map V.weak)++(enc k xs[i]).drop (o+vs.length))
  (hv:∀(j:Nat) c cv,vs[j]? =some c->us[j]? =some cv->VRel g.I g.ρ s.hp.length w c cv):
  SR g (s.setObj id [.rw k (xs.set i N)]) (w.setCells (g.ρ id) (i*k.sz+o) us) a∧FR g s.hp w g (s.hp.set id (some [.rw k (xs.set i N)])) (w.setCells (g.ρ id) (i*k.sz+o) us):=by
 have hid:=yC ho;obtain⟨L,e,fz,hb,X,br,G⟩:=mw h ho;obtain⟨t1,t2,t3,t4⟩:=br.typed k xs rfl;obtain⟨⟨H,q1,q2⟩,q3,q4,q5,q6,q7⟩:=i9 (g.ρ id) us (i*k.sz+o) w L e fz hb;let w':=w.setCells (g.ρ id) (i*k.sz+o) us;have b1:i*k.sz+k.sz<=L.size:=by have:(i+1)*k.sz<=xs.length*k.sz:=AN _ t;rw[AL,Cw] at this;omega
 have a2:∀b j,g.I b j->b≠g.ρ id:=by rintro b j t rfl;exact h.hr.notI id _ hid j t
 have D:∀b j,g.I b j->w'.cell? ⟨b,j,none⟩=w.cell? ⟨b,j,none⟩:=by intro b j t;exact A2 _ _ _ w _ (λe=>absurd e (a2 b j t))
 have u:Up g.I g.ρ s.hp.length w g.I g.ρ s.hp.length w':=⟨λ_ _ h=>h,D,λ_ _=>rfl,Am _⟩
 have C:∀M v cv,au g w M v cv->au g w' M v cv:=by intro M v cv a4;refine b7 a4 rfl (λb j t=>⟨u.mono b j t,u.cell b j t⟩) ?_;intro b F;refine⟨F,q3 b ?_,λj R=>R⟩;rintro rfl;rw[h.hr.notO id _ hid] at F;simp at F
 have W:∀j,H[j]? =if i*k.sz+o<=j∧j<i*k.sz+o+us.length then us[j-(i*k.sz+o)]? else L[j]?:=by
  intro j;rw[<-aM q1 j];split;·rename_i R;have:=BB (g.ρ id) us (i*k.sz+o) w (λj' cc=>by rw[aM hb,Ao (by omega)];rfl) (j-(i*k.sz+o)) (by omega);rw[show i*k.sz+o+(j-(i*k.sz+o))=j by omega] at this;rw[Ab (by omega)];exact this
  ·rename_i R;rw[A2 _ _ _ w _ (λ_ _=>by simp only;omega),aM hb]
 have a5:id<s.hp.length:=(Ad.1 hid).1;have split:∀(f:Nat) o',(s.hp.set id (some [V.rw k (xs.set i N)]))[f]? =some (some o')->(f=id∧o'=[V.rw k (xs.set i N)])∨(f≠id∧s.hp[f]? =some (some o')):=by
  intro f o' p;rw[AB] at p;split at p;·rename_i e;simp[a5] at p;exact .inl ⟨e.symm,p.symm⟩
  ·rename_i e;exact .inr ⟨λe'=>e e'.symm,p⟩
 have B:∀(f:Nat) o',(s.hp.set id (some [V.rw k (xs.set i N)]))[f]? =some (some o')->∃O,s.hp[f]? =some (some O):=by
  intro f o' p;rcases split f o' p with⟨rfl,_⟩|⟨_,p⟩
  ·exact⟨_,hid⟩
  ·exact⟨_,p⟩
 have a3:0<k.sz:=by cases k<;>simp[EK.sz]
 have bl:xs[i]? =some xs[i]:=Ab t;have Z:∀(q:Nat) c cv,(cellsOf [V.rw k (xs.set i N)])[q]? =some c->H[q]? =some cv->VRel g.I g.ρ s.hp.length w' c cv:=by
  intro q c cv r d;simp only[cellsOf] at r;obtain⟨y,S,r⟩:=cX _ q c r;have p:q / k.sz*k.sz+q%k.sz=q:=by rw[B4];exact Ct q k.sz
  have hr:q%k.sz<k.sz:=Nat.mod_lt _ a3;rw[W] at d;rw[AB] at S;split at S
  ·rename_i e1;rw[<-e1] at p;simp only[t,if_true,Ah] at S;subst S;have dp:=bT k xs[i];have hg:=acA (enc k xs[i]) (vs.map V.weak) o (by simp only[Bt];omega) (q%k.sz);simp only[Bt] at hg;rw[he,hg] at r;split at r;·rename_i R;rw[if_pos (by omega)] at d;rw[Ay,An] at r;obtain⟨v,ar,rfl⟩:=r;rw[show q-(i*k.sz+o)=q%k.sz-o by omega] at d;exact((hv _ v cv ar d).weak).up u
   ·rename_i R;rw[if_neg (by omega)] at d;exact(G i _ (q%k.sz) c cv bl r (by rw[p];exact d)).up u
  ·rename_i e1;rw[if_neg ?_] at d;·exact(G _ y (q%k.sz) c cv S r (by rw[p];exact d)).up u
   ·intro hh;rcases AI (q / k.sz) i with h1|h1;·have:=pd h1 hr;omega
    ·have h2:i<q / k.sz:=by omega
     have:(i+1)*k.sz<=q / k.sz*k.sz:=AN _ h2;rw[AL,Cw] at this;omega
 refine⟨⟨⟨?_,?_,?_,?_,?_,?_⟩,⟨h.er.size,?_,?_⟩⟩,⟨rfl,q5,q6,q7,by rw[q4];exact Am _,?_,?_,λ_ _ _ _ _ t=>t,λ_ _ _ hO=>hO,?_⟩⟩
 ·intro f o' p;simp only[St.setObj,AF];rcases split f o' p with⟨rfl,rfl⟩|⟨J,p⟩
  ·refine jg.ofRow (e:=e) q1 ⟨?_,(by intro hf;cases hf),?_,(λj R=>t1 j (AC R (by simp only[cellsOf,bC,AF];exact X))),?_,Z,?_,?_⟩ rfl;·simp only[cellsOf,bC,AF,q2];exact X
   ·intro x ys hz;have hz:some _=some _:=hz;cases hz;exact⟨by rw[q2];exact t1,by rw[q2];exact t2,t3,t4⟩
   ·intro c r;simp only[cellsOf,AG] at r;obtain⟨y,_,r⟩:=r;exact s9 k y c r
   ·intro j c cv r d;have hm:=Ai r;simp only[cellsOf,AG] at hm;obtain⟨y,_,hm⟩:=hm;exact il (oD k y c hm) _ _ _ _
   ·intro j E n r;simp only[cellsOf] at r;obtain⟨y,_,r⟩:=cX _ j _ r;exact absurd r (sS k y _ E n)
  ·refine(h.hr.obj f o' p).keep ?_ λb4 e2 cy A x=>⟨x.len,x.plain,x.typedUp rfl u.rho u.num rfl,x.cold,x.one,λj c cv r d=>(x.rel j c cv r d).up u,λj c cv r d=>C _ _ _ (x.own j c cv r d),x.bn⟩
   rw[q3 _ (h.hr.apart f id o' _ p hid J)]
 ·intro id1 a1 Y c2 A x J;obtain⟨_,A⟩:=B id1 Y A;obtain⟨_,x⟩:=B a1 c2 x;exact h.hr.apart _ _ _ _ A x J
 ·intro id1 Y A;obtain⟨_,A⟩:=B id1 Y A;exact h.hr.notI _ _ A
 ·intro id1 Y A;obtain⟨_,A⟩:=B id1 Y A;exact h.hr.notO _ _ A
 ·intro b j t;exact(h.hr.exI b j t).set (D b j t) hb q1 q3
 ·intro b oc F;rw[q4];exact h.hr.oLt b oc F
 ·intro n v cv p d;simp only[St.setObj,AF];exact(h.er.rel n v cv p d).up u
 ·intro n v cv p d;exact C _ _ _ (h.er.own n v cv p d)
 ·intro b _ a9 _;exact q3 b (λe=>a9 id _ hid e.symm)
 ·simp only[AF];exact u
 ·intro f o' p;obtain⟨O,p⟩:=B f o' p;exact .inl ⟨O,p⟩
theorem SR.setRow(h:SR g s w a){id p:Nat}{k:EK}{xs ys:List (Ty k)}(ho:s.rowW id=some ⟨k,xs⟩){us:List Value}(hp:p+us.length<=xs.length*k.sz)(ad:ys.length<=xs.length)
  (hv:∀(q:Nat) c cv,(ys.flatMap (enc k))[q]? =some c->(if p<=q∧q<p+us.length then us[q-p]? else w.cell? ⟨g.ρ id,q,none⟩)=some cv->VRel g.I g.ρ s.hp.length w c cv):
  SR g (s.setObj id [.rw k ys]) (w.setCells (g.ρ id) p us) a∧FR g s.hp w g (s.hp.set id (some [.rw k ys])) (w.setCells (g.ρ id) p us):=by
 have hid:=yC ho;obtain⟨M,e,fz,R,cy,a1,a4⟩:=mw h ho;obtain⟨t1,t2,t3,t4⟩:=a1.typed k xs rfl;obtain⟨⟨G,q1,q2⟩,W,q4,q5,q6,q7⟩:=i9 (g.ρ id) us (p) w M e fz R;let w':=w.setCells (g.ρ id) (p) us;have b3:ys.length*k.sz<=xs.length*k.sz:=AN _ ad;have Z:∀b j,g.I b j->b≠g.ρ id:=by rintro b j A rfl;exact h.hr.notI id _ hid j A
 have B:∀b j,g.I b j->w'.cell? ⟨b,j,none⟩=w.cell? ⟨b,j,none⟩:=by intro b j A;exact A2 _ _ _ w _ (λe=>absurd e (Z b j A))
 have u:Up g.I g.ρ s.hp.length w g.I g.ρ s.hp.length w':=⟨λ_ _ h=>h,B,λ_ _=>rfl,Am _⟩
 have D:∀H v cv,au g w H v cv->au g w' H v cv:=by intro H v cv an;refine b7 an rfl (λb j A=>⟨u.mono b j A,u.cell b j A⟩) ?_;intro b C;refine⟨C,W b ?_,λj F=>F⟩;rintro rfl;rw[h.hr.notO id _ hid] at C;simp at C
 have N:∀j,G[j]? =if p<=j∧j<p+us.length then us[j-(p)]? else M[j]?:=by
  intro j;rw[<-aM q1 j];split;·rename_i F;have:=BB (g.ρ id) us (p) w (λj' bY=>by rw[aM R,Ao (by omega)];rfl) (j-(p)) (by omega);rw[show p+(j-(p))=j by omega] at this;rw[Ab (by omega)];exact this
  ·rename_i F;rw[A2 _ _ _ w _ (λ_ _=>by simp only;omega),aM R]
 have ar:id<s.hp.length:=(Ad.1 hid).1;have split:∀(d:Nat) o',(s.hp.set id (some [V.rw k (ys)]))[d]? =some (some o')->(d=id∧o'=[V.rw k (ys)])∨(d≠id∧s.hp[d]? =some (some o')):=by
  intro d o' i;rw[AB] at i;split at i;·rename_i e;simp[ar] at i;exact .inl ⟨e.symm,i.symm⟩
  ·rename_i e;exact .inr ⟨λe'=>e e'.symm,i⟩
 have x:∀(d:Nat) o',(s.hp.set id (some [V.rw k (ys)]))[d]? =some (some o')->∃J,s.hp[d]? =some (some J):=by
  intro d o' i;rcases split d o' i with⟨rfl,_⟩|⟨_,i⟩
  ·exact⟨_,hid⟩
  ·exact⟨_,i⟩
 have S:∀(q:Nat) c cv,(cellsOf [V.rw k ys])[q]? =some c->G[q]? =some cv->VRel g.I g.ρ s.hp.length w' c cv:=by
  intro q c cv o f;simp only[cellsOf] at o;rw[N] at f;refine(hv q c cv o ?_).up u;split;·rename_i F;rw[if_pos F] at f;exact f
  ·rename_i F;rw[if_neg F] at f;rw[aM R];exact f
 refine⟨⟨⟨?_,?_,?_,?_,?_,?_⟩,⟨h.er.size,?_,?_⟩⟩,⟨rfl,q5,q6,q7,by rw[q4];exact Am _,?_,?_,λ_ _ _ _ _ A=>A,λ_ _ _ hO=>hO,?_⟩⟩
 ·intro d o' i;simp only[St.setObj,AF];rcases split d o' i with⟨rfl,rfl⟩|⟨L,i⟩
  ·refine jg.ofRow (e:=e) q1 ⟨?_,(by intro hf;cases hf),?_,(λj F=>t1 j (AC F (by simp only[cellsOf,bC];omega))),?_,S,?_,?_⟩ rfl;·simp only[cellsOf,bC,q2];omega
   ·intro r ys hz;have hz:some _=some _:=hz;cases hz;exact⟨by rw[q2];exact t1,by rw[q2];exact t2,t3,t4⟩
   ·intro c o;simp only[cellsOf,AG] at o;obtain⟨y,_,o⟩:=o;exact s9 k y c o
   ·intro j c cv o f;have X:=Ai o;simp only[cellsOf,AG] at X;obtain⟨y,_,X⟩:=X;exact il (oD k y c X) _ _ _ _
   ·intro j E n o;simp only[cellsOf] at o;obtain⟨y,_,o⟩:=cX _ j _ o;exact absurd o (sS k y _ E n)
  ·refine(h.hr.obj d o' i).keep ?_ λbl e2 bs t r=>⟨r.len,r.plain,r.typedUp rfl u.rho u.num rfl,r.cold,r.one,λj c cv o f=>(r.rel j c cv o f).up u,λj c cv o f=>D _ _ _ (r.own j c cv o f),r.bn⟩
   rw[W _ (h.hr.apart d id o' _ i hid L)]
 ·intro id1 Y O c2 t r L;obtain⟨_,t⟩:=x id1 O t;obtain⟨_,r⟩:=x Y c2 r;exact h.hr.apart _ _ _ _ t r L
 ·intro id1 O t;obtain⟨_,t⟩:=x id1 O t;exact h.hr.notI _ _ t
 ·intro id1 O t;obtain⟨_,t⟩:=x id1 O t;exact h.hr.notO _ _ t
 ·intro b j A;exact(h.hr.exI b j A).set (B b j A) R q1 W
 ·intro b oc C;rw[q4];exact h.hr.oLt b oc C
 ·intro n v cv i f;simp only[St.setObj,AF];exact(h.er.rel n v cv i f).up u
 ·intro n v cv i f;exact D _ _ _ (h.er.own n v cv i f)
 ·intro b _ al _;exact W b (λe=>al id _ hid e.symm)
 ·simp only[AF];exact u
 ·intro d o' i;obtain⟨J,i⟩:=x d o' i;exact .inl ⟨J,i⟩
theorem arO(h:SR g s w a){id:Nat}{k:EK}{xs:List (Ty k)}(G:s.rowW id=some ⟨k,xs⟩)(o n:Nat)(F:o+n<=xs.length):∃news:List Value,news.length=n*k.sz∧
  (∀j u,news[j]? =some u->w.cell? ⟨g.ρ id,o*k.sz+j,none⟩=some u)∧(∀u∈news,u.oneCell'=true)∧
  ∀(q:Nat) c cv,(((xs.drop o).take n).flatMap (enc k))[q]? =some c->news[q]? =some cv->VRel g.I g.ρ s.hp.length w c cv:=by
 obtain⟨b,e,W,N,O,R,y⟩:=mw h G;have H:0<k.sz:=by cases k<;>simp[EK.sz]
 have J:o*k.sz+n*k.sz<=b.size:=by have:(o+n)*k.sz<=xs.length*k.sz:=AN _ F;rw[AL] at this;omega
 have d:∀q u,((b.toList.drop (o*k.sz)).take (n*k.sz))[q]? =some u->q<n*k.sz∧b[o*k.sz+q]? =some u:=by
  intro q u p;rw[AO] at p;split at p;·rename_i E;rw[A6,CA] at p;exact⟨E,p⟩
  ·cases p
 have r:∀(q:Nat) c cv,(((xs.drop o).take n).flatMap (enc k))[q]? =some c->((b.toList.drop (o*k.sz)).take (n*k.sz))[q]? =some cv->VRel g.I g.ρ s.hp.length w c cv:=by
  intro q c cv B D;obtain⟨X,L⟩:=d q cv D;obtain⟨x,A,f⟩:=cX _ q c B;have C:xs[o+q / k.sz]? =some x:=by
   rw[AO] at A;split at A
   ·rwa [A6] at A
   ·cases A
  refine y _ x _ c cv C f ?_;rw[AL,C5,show q / k.sz*k.sz+q%k.sz=q by rw[B4];exact Ct q k.sz];exact L
 refine⟨(b.toList.drop (o*k.sz)).take (n*k.sz),by simp;omega,λj u f=>?_,λu M=>?_,r⟩;·rw[aM N];exact(d j u f).2
 ·obtain⟨j,f,rfl⟩:=AS.1 M;have v:j<n*k.sz:=by simp at f;omega
  have t:(((xs.drop o).take n).flatMap (enc k)).length=n*k.sz:=by rw[bC,Bw,BJ];congr 1;omega
  have B:=Ab (l:=((xs.drop o).take n).flatMap (enc k)) (i:=j) (by rw[t];exact v);refine(r j _ _ B (Ab f)).oneCell ?_;obtain⟨x,_,S⟩:=AG.1 (AK (l:=((xs.drop o).take n).flatMap (enc k)) (n:=j) (by rw[t];exact v));exact s9 k x _ S
theorem atF{d:Nat}{k:EK}{x:aw}{B D:Option aw}(i:mb P (.slw d k x B D) m=true)(b:step Γ (.slw d k x B D) s=some (true,s'))(h:SR g s w a)(N:cF g s w a s' next):m.wp P a w next Q:=by
 obtain⟨dst,op,ty,pos,E,O⟩:=m;simp only[mb,Ac,beq_iff_eq] at i;obtain⟨rfl,i⟩:=i;split at i
 ·rename_i t L H C;simp only[Ac] at i;obtain⟨G,S,R,W⟩:=i;have F:=aI S h.er;simp only[step,arJ] at b;split at b
  ·rename_i k' id n hx;split at b
   ·rename_i Y;subst Y;simp only[Cf,An,Dy] at b;obtain⟨⟨c,p,q⟩,o,b⟩:=b;simp only[Ap] at b;obtain⟨rfl,rfl⟩:=b;rw[hx] at F;obtain⟨e,M,G⟩:=dG G;obtain⟨inf,z,Z,X,i3,i4,i5,_⟩:=im G;have A:∀w':World,(sizeOf e).run P w'=.ok k'.sz w':=λw'=>by simp[sizeOf,typeInfo,Z,X]
    generalize r:a.eval L=cv at F;cases F with
    |sw _ _ _ hid v f=>
     obtain⟨J,e2,e3⟩:=yz (P:=P) (isS:=true) v R W o h;have u:(execOp a.eval ⟨some d,.slice t L H C none,ty,pos,E,O⟩).run P w=.ok (.value (.slice (some ⟨g.ρ id,if g.ρ (id+1)=p then 0 else p*k'.sz,none⟩) (q-p) (g.ρ (id+1)-p))) w:=by
      by_cases j:g.ρ (id+1)=p;·rw[j] at J;simp[execOp,r,Cp,CK,run_underlying M,J,A,j]
      ·simp[execOp,r,Cp,CK,run_underlying M,J,A,j,BD]
     refine aH h rfl u ?_ (by cases B<;>rfl) N;cases B with
     |none=>
      have I:p=0:=by
       cases D with
       |none=>simp[eK,xk] at o;omega
       |some y=>simp only[eK] at o;cases hy:y.ev s<;>rw[hy] at o<;>simp[xk] at o;omega
      subst I;simp only[eK,Nat.zero_mul,ite_self,Nat.sub_zero];exact .sw k' id q hid (by omega) f
     |some y=>simp only[eK];refine .sx k' id p (q-p) _ _ hid (by omega) f (by omega) (λh0=>?_);rw[if_neg (by omega)]
   ·simp at b
  ·simp at b
 ·simp at i
theorem atG{d:Nat}{k:EK}{x y:aw}(i:mb P (.apx d k x y) m=true)(B:step Γ (.apx d k x y) s=some (true,s'))(h:SR g s w a)(hn:cF g s w a s' next):m.wp P a w next Q:=by
 obtain⟨dst,op,ty,pos,J,gd⟩:=m;simp only[mb,Ac,beq_iff_eq] at i;obtain⟨rfl,i⟩:=i;split at i
 ·rename_i x' y' t u R;obtain rfl:=mv R;simp only[Ac] at i;obtain⟨h1,h2,h3,h4⟩:=i;obtain⟨e,u1,e1⟩:=dG h1;obtain⟨e',u2,e2⟩:=dG h2;simp only[step,aj2] at B;split at B
  ·rename_i k1 id n k2 bY o b hx C;split at B
   ·rename_i k' xs f;have f:s.rowW id=some ⟨k',xs⟩:=f;split at B
    ·rename_i hk;obtain⟨rfl,rfl,rfl,he⟩:=hk;obtain rfl:=he.symm;simp only[Bg,Ah,Ap,Ac,decide_eq_true_eq] at B;obtain⟨⟨l1,l2⟩,rfl⟩:=B;have O:=aI h3 h.er;have N:=aI h4 h.er;rw[hx] at O;rw[C] at N;generalize ae:a.eval x'=cx at O;generalize L:a.eval y'=cy at N;obtain⟨inf,z,i1,I,i3,i4,i5,i6,i7⟩:=im e1;obtain⟨news,n1,n2,n3,n4⟩:=arO h f o b l2;obtain⟨bx,er,fz,W,c2,Y,E⟩:=mw h f;have al:n*k.sz+b*k.sz<=xs.length*k.sz:=by
      rw[<-AL];exact AN _ (by omega)
     have b0:0<k.sz:=by cases k<;>simp[EK.sz]
     cases O with
     |sw _ _ _ hid a1 H=>
     cases N with
     |sx _ _ _ _ ad cap a3 d0 cc br X=>
      have G:_root_.Go.Src P k.sz u (.slice (some ⟨g.ρ id,ad,none⟩) b cap) b news w:=by
       refine _root_.Go.Src.ofSlice w u2 _ _ _ _ n1 (λj v D=>?_) n3;rw[BD];have S:0<b:=by
        have:=(Ad.1 D).1;rw[n1] at this;rcases CX b with Z|Z;·rw[Z] at this;omega
        ·exact Z
       rw[X S];exact n2 j v D
      have r:n+b<=g.ρ (id+1):=by omega
      have hr:=run_append_room_src w t u ty e inf u1 i1 (g.ρ id) 0 n (g.ρ (id+1)) _ b news (by rw[I];exact G) r (by
       intro j D;rw[I,aM W,Ao (by omega)];rfl) (by
       intro j D;rw[I];have i:=(Y.typed k xs rfl).1 (0+n*k.sz+j) (by omega);simp only[BA,W,BI,decide_eq_false_iff_not];omega)
      rw[I,A1] at hr;have F:(execOp a.eval ⟨some d,.call ⟨.builtin .append,⟨[x',y']⟩,⟨[t,u]⟩⟩,ty,pos,J,gd⟩).run P w=.ok (.value (.slice (some ⟨g.ρ id,0,none⟩) (n+b) (g.ρ (id+1)))) (w.setCells (g.ρ id) (n*k.sz) news):=by simp[execOp,resolve,invoke,builtin,ae,L,hr]
      obtain⟨p1,p2⟩:=h.setRow (p:=n*k.sz) (us:=news) (ys:=xs.take n++(xs.drop o).take b) f (by omega) (by simp;omega) (by
       intro q c cv i A;rw[List.flatMap_append] at i;have ht:((xs.take n).flatMap (enc k)).length=n*k.sz:=by rw[bC,Bw];congr 1;omega
       by_cases hq:q<n*k.sz
       ·rw[if_neg (by omega),aM W] at A;rw[Ar (by omega)] at i;obtain⟨y,C,D⟩:=cX _ q c i;rw[AO] at C;split at C;·refine E _ y _ c cv C D ?_;rw[show q / k.sz*k.sz+q%k.sz=q by rw[B4];exact Ct q k.sz];exact A
        ·cases C
       ·rw[Aq (by omega),ht] at i;have M:=(Ad.1 i).1;rw[bC,Bw,BJ] at M;have bn:min b (xs.length-o)*k.sz<=b*k.sz:=AN _ (Nat.min_le_left _ _);rw[if_pos (by omega)] at A;exact n4 _ c cv i A)
      refine eX rfl F ⟨g,?_,?_⟩ hn
      ·have hl:(s.setObj id [V.rw k (xs.take n++(xs.drop o).take b)]).hp.length=s.hp.length:=by simp[St.setObj]
       refine p1.set d ?_ (il rfl _ _ _ _);rw[hl];exact .sw k id (n+b) hid r H
      ·exact p2
    ·simp at B
   ·simp at B
  ·simp at B
 ·simp at i
theorem atH{d:Option Nat}{n:Nat}{x v:aw}(f:mb P (.stw d n x v) m=true)(p:step Γ (.stw d n x v) s=some (true,s'))(h:SR g s w a)(X:cF g s w a s' next):m.wp P a w next Q:=by
 obtain⟨dst,op,ty,pos,H,gd⟩:=m;simp only[mb,Ac,beq_iff_eq] at f;obtain⟨rfl,f⟩:=f;split at f
 ·rename_i t x' y;simp only[Ac,beq_iff_eq] at f;obtain⟨h1,h2,h3⟩:=f;have L:=aI h2 h.er;have r2:=aI h3 h.er;simp only[step] at p;split at p
  ·rename_i id k i o hx;split at p
   ·rename_i k' xs Z;split at p
    ·rename_i b;obtain⟨rfl,a3,b⟩:=b;simp only[Ac,beq_iff_eq] at b;obtain⟨S,E⟩:=b;split at p
     ·rename_i x2 D;simp only[Ah,Ap,decide_eq_true_eq] at p;obtain⟨G,rfl⟩:=p;have hd:xs.getD i (am k')=xs[i]:=by simp[Ak,Ab G]
      rw[hd] at D;rw[hx] at L;generalize M:a.eval x'=cx at L;cases L with
      |wp _ _ _ _ hid=>
       obtain⟨B,e,fz,hb,br,W,C⟩:=mw h Z;obtain⟨I,c2,J⟩:=wG r2 E;have A:(a.eval y).cells.size=n:=by rw[<-I];exact S
       have ad:i*k'.sz+k'.sz<=B.size:=by have:(i+1)*k'.sz<=xs.length*k'.sz:=AN _ G;rw[AL,Cw] at this;omega
       have F:(execOp a.eval ⟨dst,.store t x' y,ty,pos,H,gd⟩).run P w=.ok .skip (w.setCells (g.ρ id) (i*k'.sz+o) (a.eval y).cells.toList):=by
        have:=run_storeCells_cells (P:=P) (g.ρ id) (i*k'.sz+o) (a.eval y).cells.toList 0 w
         (λj q=>by rw[aM hb,Ao (by simp at q;omega)];rfl)
         (λj q=>by have f:=(W.typed k' xs rfl).1 (i*k'.sz+o+j) (by simp at q;omega);simp[BA,hb];omega)
         (λu hu=>by
          obtain⟨j,q,rfl⟩:=AS.1 hu;have r:j<(v.ev s).cells.length:=by rw[I];simpa using q
          exact(J j _ _ (Ab r) (by simp)).oneCell (c2 _ (AK r)))
        simp[execOp,M,DC,BQ,storeVar,oq h1,A,this]
       have R:∀c∈enc k' xs[i],c.inRange:=by
        intro c f;obtain⟨j,q,rfl⟩:=AS.1 f;have r:j<k'.sz:=by rwa [bT] at q
        exact(C i _ j _ _ (Ab G) (Ab q) (Ao (show i*k'.sz+j<B.size by omega))).inRange
       have O:∀c∈(v.ev s).cells,c.inRange:=by intro c f;obtain⟨j,q,rfl⟩:=AS.1 f;exact(J j _ _ (Ab q) (Ao (show j<(a.eval y).cells.size by omega))).inRange
       obtain⟨p1,Y⟩:=h.putElt (o:=o) (us:=(a.eval y).cells.toList) Z G (by simpa using I) (by omega) (apz D R O) (λj c cv f N=>J j c cv f (by simpa using N));unfold CF Df;rw[F];cases dst with
       |none=>exact X _ _ g p1 Y rfl
       |some d=>exact X _ _ g (p1.set d (.undef _) (by simp[au])) Y rfl
     ·simp at p
    ·simp at p
   ·simp at p
  ·simp at p
 ·simp at f
end
def atI(P:Program)(o:IOp)(m:Oper):Bool:=
 match o with
 |_=>false
section
variable{w w':World}{g g':Gh}{s s':St}{a:Act}{P:Program}{Γ:av}{m:Oper}{next:Act->World->Prop}{Q:Exit->Act->World->Prop}
theorem asX{k:EK}{xs:List (Ty k)}{q:Nat}{c:V}(d:(xs.flatMap (enc k))[q]? =some c):∃x,c∈enc k x:=by have b:=Ai d;simp only[AG] at b;obtain⟨y,_,b⟩:=b;exact⟨y,b⟩
theorem amF{id:Nat}{c:Hol}(b:s.rowH id=some c):∃f e,s.hp[id]? =some (some [.tup [.rw c.k c.xs,.sw c.k2 c.id2 c.n2,.wp f e c.i c.o]]):=by
 unfold St.rowH at b;simp only[Ak] at b;cases d:s.hp[id]? with
 |none=>rw[d] at b;simp at b
 |some x=>
  rw[d] at b;simp only[Bd] at b;split at b;·simp only[Ah] at b;subst b;exact⟨_,_,rfl⟩
  ·cases b
theorem apA{id:Nat}{b:Hol}(h:SR g s w a)(q:s.rowH id=some b):∃c e d,w.heap[g.ρ id]? =some (.cells c e d)∧b.xs.length*b.k.sz<=c.size∧
  (∃cs,s.hp[id]? =some (some cs)∧agx cs=some ⟨b.k,b.xs⟩∧cellsOf cs=(b.xs.flatMap (enc b.k)).set (b.i*b.k.sz+b.o) (.sw b.k2 b.id2 b.n2)∧pL g s.hp.length w id cs c e d):=by
 obtain⟨t,r,j⟩:=amF q;obtain⟨c,e,d,p,f⟩:=(h.hr.obj id _ j).row rfl;refine⟨c,e,d,p,?_,_,j,rfl,rfl,f⟩;have:=f.len;simp only[cellsOf,AF] at this
 rwa [bC] at this
theorem aob{k:EK}{x f:Ty k}{o:Nat}{v:V}(h:wD k x o [v]=some f)(e:∀(j:Nat) c,j≠o->(enc k x)[j]? =some c->c.inRange)(p:v.inRange):
  enc k f=((enc k x).take o++[v.weak])++(enc k x).drop (o+1):=by
 unfold wD at h;rw[aj3 h ?_];·rw[BL,BL,Ch,Dz,DB,amy];simp[ale]
 ·intro c b;rcases Aw.1 b with b|b
  ·rcases Aw.1 b with b|b
   ·obtain⟨j,d⟩:=Cc b;rw[AO] at d;split at d;·exact e j c (by omega) d
    ·simp at d
   ·obtain⟨u,i,rfl⟩:=AE.1 b;simp only[Az] at i;subst i;exact aeR p
  ·obtain⟨j,d⟩:=Cc b;rw[A6] at d;exact e _ c (by simp;omega) d
theorem aqQ(h:SR g s w a){n:Nat}(G:(eV.hol n).step s=some (true,s')):∃g',SR g' s' w a∧FR g s.hp w g' s'.hp w:=by
 simp only[eV.step] at G;split at G
 ·rename_i k0 id n0 fi;split at G
  ·rename_i hh b1;split at G
   ·rename_i O ys ae;split at G
    ·rename_i hk;split at G
     ·rename_i x' an;simp only[Ah,Ap,Ac,decide_eq_true_eq] at G;obtain⟨⟨cc,D⟩,rfl⟩:=G;have cy:=Ax cc;clear cc;obtain⟨k,xs,k2,t,n2,i,o⟩:=hh;simp only at hk an cy D ae ⊢;subst hk;obtain⟨Z,e,fz,hb,a0,cs,hm,b4,a5,a3⟩:=apA h b1;simp only at a0 b4 a5;obtain⟨t1,t2,t3,t4⟩:=a3.typed k xs b4;obtain⟨J,e2,e4,bs,es,W,ar⟩:=mw h ae;obtain⟨s1,s2,s3,s4⟩:=W.typed O ys rfl;have A:=yC ae;have bx:id≠t:=by
       rintro rfl;obtain⟨a1,a2,N⟩:=amF b1;rw[A] at N;cases N
      have hd:xs.getD i (am k)=xs[i]:=by simp[Ak,Ab D]
      rw[hd] at an;have et:g.ρ id≠g.ρ t:=h.hr.apart _ _ _ _ hm A bx;have e7:id<s.hp.length:=(Ad.1 hm).1;have eD:t<s.hp.length:=(Ad.1 A).1;have b2:0<k.sz:=by cases k<;>simp[EK.sz]
      have al:∀cv,o<k.sz->Z[i*k.sz+o]? =some cv->VRel g.I g.ρ s.hp.length w (.sw O t n2) cv:=by intro cv ho p;refine a3.rel (i*k.sz+o) _ cv ?_ p;rw[a5,BG (by rw[bC];exact pd D ho)]
      have B:∀(q:Nat) c cv,q≠i*k.sz+o->(xs.flatMap (enc k))[q]? =some c->Z[q]? =some cv->VRel g.I g.ρ s.hp.length w c cv:=by intro q c cv L r p;refine a3.rel q c cv ?_ p;rw[a5,AW (Ne.symm L)];exact r
      let R:Gh:={g with I:=λb j=>g.I b j∨(b=g.ρ t∧j<ys.length*O.sz)}
      let C:=(s.hp.set id (some [V.rw k (xs.set i x')])).set t none;have S:C.length=s.hp.length:=by simp[C]
      have u:Up g.I g.ρ s.hp.length w R.I R.ρ C.length w:=⟨λ_ _ hi=>.inl hi,λ_ _ _=>rfl,λ_ _=>rfl,by rw[S];exact Am _⟩
      have u1:Up g.I g.ρ s.hp.length w R.I R.ρ s.hp.length w:=⟨λ_ _ hi=>.inl hi,λ_ _ _=>rfl,λ_ _=>rfl,Am _⟩
      have sub:∀(j:Nat) f,C[j]? =some (some f)->(j=id∧f=[V.rw k (xs.set i x')])∨(j≠id∧j≠t∧s.hp[j]? =some (some f)):=by
       intro j f d;simp only[C,AB] at d;split at d;·split at d<;>simp at d
       ·rename_i dp;split at d;·rename_i a9;simp only[Ah] at d;exact .inl ⟨a9.symm,d.symm⟩
        ·rename_i a9;exact .inr ⟨λe=>a9 e.symm,λe=>dp e.symm,d⟩
      have F:∀(j:Nat) f,C[j]? =some (some f)->j≠t∧∃b3,s.hp[j]? =some (some b3):=by
       intro j f d;rcases sub j f d with⟨rfl,_⟩|⟨_,h2,h3⟩
       ·exact⟨bx,_,hm⟩
       ·exact⟨h2,_,h3⟩
      have H:∀ad v cv,au g w ad v cv->au R w ad v cv:=by
       intro ad v cv dw;refine b7 dw rfl (λb j hi=>⟨.inl hi,rfl⟩) ?_;intro b a4;refine⟨a4,rfl,?_⟩;rintro j (d|⟨rfl,_⟩);·exact d
       ·rw[h.hr.notO t _ A] at a4;simp at a4
      have ea:∀(j:Nat) c,j≠o->(enc k xs[i])[j]? =some c->c.inRange:=by
       intro j c d r;have M:j<k.sz:=by
        have:=(Ad.1 r).1
        rwa [bT] at this
       have eT:=pd D M;exact(B (i*k.sz+j) c _ (by omega) (sR xs i j _ c (Ab D) r) (Ao (by omega))).inRange
      have Y:=aob an ea trivial;have b5:o<k.sz:=by have h1:=congrArg Aa Y;simp only[AD,Bw,BJ,bT,Bh] at h1;omega
      have c0:∀(q:Nat) c cv,(cellsOf [V.rw k (xs.set i x')])[q]? =some c->Z[q]? =some cv->VRel R.I R.ρ C.length w c cv:=by
       intro q c cv r p;simp only[cellsOf] at r;obtain⟨y,hy,r⟩:=cX _ q c r;have L:q / k.sz*k.sz+q%k.sz=q:=by rw[B4];exact Ct q k.sz
       have hr:q%k.sz<k.sz:=Nat.mod_lt _ b2;rw[AB] at hy;split at hy
       ·rename_i e1;rw[<-e1] at L;simp only[D,if_true,Ah] at hy;subst hy;have hg:=acA (enc k xs[i]) [(V.sl O (.may false) ys).weak] o (by simp only[Bh,bT];omega) (q%k.sz);simp only[Bh] at hg;rw[Y,hg] at r;split at r
        ·rename_i d;have e3:q%k.sz=o:=by omega
         rw[e3,CE] at r;simp only[A4,Ah] at r;subst r;have dk:=al cv b5 (by rw[<-e3,L];exact p);cases dk with
         |sw _ _ _ hN ei N=>
         subst cy;simp only[V.weak];refine .sl O (.may false) ys (g.ρ t) 0 ys.length _ rfl ei N (by simp) (λi j=>J[i*O.sz+j]?.getD undef) ?_ ?_ ?_;·intro i' x j hx d;rw[bT] at d;exact .inr ⟨rfl,by have:=pd (Ad.1 hx).1 d;omega⟩
         ·intro i' x j hx d;rw[bT] at d;have:=pd (Ad.1 hx).1 d;rw[A1,aM bs,Ao (by omega)];rfl
         ·intro i' x j v hx d;have M:=(Ad.1 d).1;rw[bT] at M;have:=pd (Ad.1 hx).1 M;have ha:J[i'*O.sz+j]? =some (J[i'*O.sz+j]'(by omega)):=Ao _;rw[ha];exact(ar i' x j v _ hx d ha).up u
        ·rename_i d;exact(B q c cv (by omega) (by rw[<-L];exact sR xs i _ _ c (Ab D) r) p).up u
       ·rename_i e1;refine(B q c cv ?_ (by rw[<-L];exact sR xs _ _ _ c hy r) p).up u;intro c1;have:q / k.sz=i:=by
         rw[c1,B4,Nat.mul_add_div b2,Nat.div_eq_of_lt b5,Cl]
        exact e1 this.symm
      refine⟨R,⟨⟨?_,?_,?_,?_,?_,h.hr.oLt⟩,⟨h.er.size,λm v cv hv p=>(h.er.rel m v cv hv p).up u,λm v cv hv p=>H _ _ _ (h.er.own m v cv hv p)⟩⟩,⟨rfl,rfl,rfl,rfl,Am _,λ_ _ _ _=>rfl,u,?_,λ_ _ _ hO=>hO,λj f d=>.inl (F j f d).2⟩⟩
      ·intro j f d;rcases sub j f d with⟨rfl,rfl⟩|⟨n1,e0,d⟩
       ·refine jg.ofRow (e:=e) hb ⟨?_,(by intro hf;cases hf),?_,(λj d=>t1 j (AC d (by simp only[cellsOf,bC,AF];exact a0))),?_,c0,?_,?_⟩ rfl;·simp only[cellsOf,bC,AF];exact a0
        ·intro k' zs hz;have hz:some _=some _:=hz;cases hz;exact⟨t1,t2,by rw[S];exact t3,t4⟩
        ·intro c r;simp only[cellsOf,AG] at r;obtain⟨y,_,r⟩:=r;exact s9 k y c r
        ·intro j c cv r p;obtain⟨y,c3⟩:=asX r;exact il (oD k y c c3) _ _ _ _
        ·intro j E n r;simp only[cellsOf] at r;obtain⟨y,_,r⟩:=cX _ j _ r;exact absurd r (sS k y _ E n)
       ·exact(h.hr.obj j f d).keep rfl λem e3 e5 m1 X=>⟨X.len,X.plain,X.typedUp rfl u.rho u.num rfl,X.cold,X.one,λj c cv r p=>(X.rel j c cv r p).up u,λj c cv r p=>H _ _ _ (X.own j c cv r p),X.bn⟩
      ·intro j j' ed d1 h1 h2 c4;obtain⟨_,_,h1⟩:=F j ed h1;obtain⟨_,_,h2⟩:=F j' d1 h2;exact h.hr.apart _ _ _ _ h1 h2 c4
      ·rintro j f d q (L|⟨L,_⟩);·obtain⟨_,_,d⟩:=F j f d;exact h.hr.notI _ _ d q L
       ·obtain⟨d4,_,d⟩:=F j f d;exact h.hr.apart _ _ _ _ d A d4 L
      ·intro j f d;obtain⟨_,_,d⟩:=F j f d;exact h.hr.notO _ _ d
      ·rintro b j (d|⟨rfl,d⟩);·exact h.hr.exI b j d
       ·exact .row bs (by omega) (λ_ hz=>absurd hz ((W.typed _ _ rfl).1 j (by omega)))
      ·rintro b j _ d0 _ (d|⟨rfl,_⟩);·exact d
       ·exact absurd rfl (d0 t _ A)
     ·simp at G
    ·simp at G
   ·simp at G
  ·simp at G
 ·simp at G
end
section
variable{w:World}{g g':Gh}{s s':St}{a:Act}
theorem SR.fillSlot(h:SR g s w a)(n:Nat){v:V}(b:VRel g.I g.ρ s.hp.length w v (a.tmps.getD n undef))(c:au g w (.slot n) v (a.tmps.getD n undef)):SR g (s.set n v) w a:=
 ⟨h.hr,h.er.put' n b c⟩
theorem SR.fillCell(h:SR g s w a){id o:Nat}{cs:List V}(R:s.obj id=some cs)(J:o<cs.length){B:Array Value}{e:TypeId}(S:w.heap[g.ρ id]? =some (.cells B e (0,0))){v:V}{cv:Value}
  (x:B[o]? =some cv) (h1:v.one=true) (G:xj v=true) (Z:VRel g.I g.ρ s.hp.length w v cv) (D:au g w (.cell id o) v cv):
  SR g (s.setObj id (cs.set o v)) w a∧FR g s.hp w g (s.hp.set id (some (cs.set o v))) w:=by
 obtain⟨hid,O⟩:=jK R;have N:id<s.hp.length:=(Ad.1 hid).1;let q:=cs.set o v;have split:∀(b:Nat) o',(s.hp.set id (some q))[b]? =some (some o')->(b=id∧o'=q)∨(b≠id∧s.hp[b]? =some (some o')):=by
  intro b o' f;rw[AB] at f;split at f;·rename_i e;simp[N] at f;exact .inl ⟨e.symm,f.symm⟩
  ·rename_i e;exact .inr ⟨λM=>e M.symm,f⟩
 have r:∀(b:Nat) o',(s.hp.set id (some q))[b]? =some (some o')->∃y,s.hp[b]? =some (some y):=by
  intro b o' f;rcases split b o' f with⟨rfl,_⟩|⟨_,f⟩
  ·exact⟨cs,hid⟩
  ·exact⟨_,f⟩
 have k:∀(j:Nat) c,q[j]? =some c->(j=o∧c=v)∨(j≠o∧cs[j]? =some c):=by
  intro j c p;simp only[q,AB] at p;split at p;·rename_i e;simp only[J,if_true,Ah] at p;exact .inl ⟨e.symm,p.symm⟩
  ·rename_i e;exact .inr ⟨λM=>e M.symm,p⟩
 refine⟨⟨⟨?_,?_,?_,?_,h.hr.exI,h.hr.oLt⟩,⟨h.er.size,?_,h.er.own⟩⟩,⟨rfl,rfl,rfl,rfl,Am _,λ_ _ _ _=>rfl,?_,λ_ _ _ _ _ X=>X,λ_ _ _ Y=>Y,?_⟩⟩
 ·intro b o' f;simp only[St.setObj,AF];rcases split b o' f with⟨rfl,rfl⟩|⟨H,f⟩
  ·obtain⟨W,e2,F,u⟩:=ta h.hr R;rw[S] at F;cases F;refine jg.ofRow0 S ⟨by simp[q,u.len],?_,?_,?_,?_⟩
   ·intro c p;obtain⟨j,hj,rfl⟩:=AS.1 p;rcases k j _ (Ab hj) with⟨_,i⟩|⟨_,i⟩
    ·rw[i];exact h1
    ·exact u.one _ (Ai i)
   ·intro j c A p d;rcases k j _ p with⟨rfl,rfl⟩|⟨_,i⟩
    ·rw[x] at d;obtain rfl:=Au d;exact Z
    ·exact u.rel j c A i d
   ·intro j c A p d;rcases k j _ p with⟨rfl,rfl⟩|⟨_,i⟩
    ·rw[x] at d;obtain rfl:=Au d;exact D
    ·exact u.own j c A i d
   ·intro j E n p;rcases k j _ p with⟨rfl,i⟩|⟨_,i⟩
    ·rw[<-i] at G;simp[xj] at G
    ·exact u.bn j E n i
  ·exact h.hr.obj b o' f
 ·intro id1 L C c2 t i H;obtain⟨_,t⟩:=r id1 C t;obtain⟨_,i⟩:=r L c2 i;exact h.hr.apart _ _ _ _ t i H
 ·intro id1 C t;obtain⟨_,t⟩:=r id1 C t;exact h.hr.notI _ _ t
 ·intro id1 C t;obtain⟨_,t⟩:=r id1 C t;exact h.hr.notO _ _ t
 ·intro n v cv f x;simp only[St.setObj,AF];exact h.er.rel n v cv f x
 ·simp only[AF];exact Up.refl _ _ _ _
 ·intro b o' f;obtain⟨y,f⟩:=r b o' f;exact .inl ⟨y,f⟩
def qk(g:Gh)(s:St)(w:World)(a:Act)(o:Occ)(cv:Value):Prop:=
 match o with
 | .slot n=>a.tmps.getD n undef=cv
 | .cell id j=>∃cs b e,s.obj id=some cs∧j<cs.length∧w.heap[g.ρ id]? =some (.cells b e (0,0))∧b[j]? =some cv
 | .res=>False
theorem aj6(h:SR g s w a){o:Occ}{v:V}(b:s.at? o=v)(d:v≠.undef):∃cv,qk g s w a o cv∧VRel g.I g.ρ s.hp.length w v cv∧au g w o v cv:=by
 cases o with
 |slot n=>simp only[St.at?] at b;subst b;exact⟨_,rfl,h.er.get n,h.er.getOwn n⟩
 |cell id j=>
  simp only[St.at?] at b;cases k:s.obj id with
  |none=>rw[k] at b;exact absurd b.symm d
  |some cs=>
   rw[k] at b;simp only at b;obtain⟨c,e,t,f⟩:=ta h.hr k;have i:j<cs.length:=by
    rcases AI j cs.length with i|i;·exact i
    ·rw[Ak,AZ i] at b;exact absurd b.symm d
   have r:cs[j]? =some v:=by rw[<-b,Ak,Ab i];rfl
   have q:=f.len;have p:c[j]? =some (c[j]'(by omega)):=Ao _;exact⟨_,⟨cs,c,e,k,i,t,p⟩,f.rel j v _ r p,f.own j v _ r p⟩
 |res=>simp only[St.at?] at b;exact absurd b.symm d
theorem SR.fill(h:SR g s w a){o:Occ}{cv:Value}(x:qk g s w a o cv){v:V}(r:v.one=true)(B:xj v=true)(C:VRel g.I g.ρ s.hp.length w v cv)(i:au g w o v cv):
  SR g (s.put? o v) w a∧FR g s.hp w g (s.put? o v).hp w∧(s.put? o v).hp.length=s.hp.length∧qk g (s.put? o v) w a o cv:=by
 cases o with
 |slot n=>simp only[qk] at x;subst x;exact⟨h.fillSlot n C i,FR.refl _ _ _,rfl,rfl⟩
 |cell id j=>
  obtain⟨cs,y,e,A,f,E,G⟩:=x;obtain⟨D,L⟩:=h.fillCell A f E G r B C i;have t:s.put? (.cell id j) v=s.setObj id (cs.set j v):=by simp only[St.put?,A]
  rw[t];refine⟨D,L,by simp[St.setObj],cs.set j v,y,e,?_,by simpa using f,E,G⟩;obtain⟨hid,d⟩:=jK A;have u:id<s.hp.length:=(Ad.1 hid).1;have p:oC (cs.set j v)=false:=by
   cases O:oC (cs.set j v) with
   |false=>rfl
   |true=>
    obtain⟨k,es,t⟩:=acx O;match cs,f with
    | [c],f=>
      have:j=0:=by simpa using f
      subst this;simp only[AJ,List.cons.injEq,and_true] at t;subst t;simp[V.one] at r
    |c::J::cs,f=>have:=congrArg Aa t;simp at this
  obtain⟨H,R,M,N,F⟩:=(D.hr.obj id (cs.set j v) (by simp[St.setObj,u])).row p;have q:dm (cs.set j v)=false:=by
   unfold dm at d ⊢;match cs,f,d with
   | [c],f,d=>
     have:j=0:=by simpa using f
     subst this;simp only[AJ];split;·rename_i b;cases b;simp[V.one] at r
     ·rename_i b;cases b;simp[V.one] at r
     ·rename_i b;cases b;simp[V.one] at r
     ·rfl
   |c::J::cs,f,d=>
    split
    ·rename_i b;cases j with
     |zero=>simp at b
     |succ j=>cases j<;>simp at b
    ·rename_i b;cases j with
     |zero=>simp at b
     |succ j=>cases j<;>simp at b
    ·rename_i b;cases j with
     |zero=>simp at b
     |succ j=>cases j<;>simp at b
    ·rfl
  unfold St.obj;simp only[St.setObj,Ak,AB,u,if_true,Bd];unfold dm at q;split<;>rename_i b;·simp only[Ah] at b;rw[b] at q;simp at q
  ·simp only[Ah] at b;rw[b] at q;simp at q
  ·simp only[Ah] at b;rw[b] at p;simp[oC] at p
  ·simp only[Ah] at b;rw[b] at q;simp at q
  ·rfl
 |res=>exact absurd x (by simp[qk])
theorem aqR{o:Occ}{cv:Value}{v:V}(r:qk g s w a o cv)(t:v.one=true)(i:v.bare=true):tY (some o) (s.put? o v):=by
 cases o with
 |slot n=>
  intro u b;simp only[St.put?,St.set,AB,if_true] at b;split at b;·cases Au b;exact i
  ·simp at b
 |cell id j=>obtain⟨cs,p,e,f,k,_,_⟩:=r;obtain⟨hid,d⟩:=jK f;have c:id<s.hp.length:=(Ad.1 hid).1;intro q u h b;simp only[St.put?,f,St.setObj,AB,c,if_true,Ah] at h;subst h;simp only[AB,k,if_true,Ah] at b;subst b;exact i
 |res=>trivial
theorem aiG{s:St}{id:Nat}{cs:List V}(b:s.obj id=some cs)(l:List ai):({s with hp:=s.hp++l}:St).obj id=some cs:=by obtain⟨hid,_⟩:=jK b;have c:id<s.hp.length:=(Ad.1 hid).1;unfold St.obj at b ⊢;simp only[Ak] at b ⊢;rw[Ar c];exact b
theorem SR.addRow(h:SR g s w a){k:EK}{xs:List (Ty k)}{b cap:Nat}{t:Array Value}{e:TypeId}{R:Nat×Nat}(Z:aeO R t.size)(h2:xs.length<=cap)(h5:w.heap[b]? =some (.cells t e R))(h6:cap*k.sz<=t.size)(h7:k=.u8->e=g.β)
  (h8:∀j,¬g.I b j) (h4:g.O b=none) (L:∀(id:Nat) cs,s.hp[id]? =some (some cs)->g.ρ id≠b)
  (h9:∀(i:Nat) x (j:Nat) v u,xs[i]? =some x->(enc k x)[j]? =some v->t[i*k.sz+j]? =some u->VRel g.I (λ_=>0) 0 w v u):
  SR {g with ρ:=λid=>if id=s.hp.length then b else if id=s.hp.length+1 then cap else g.ρ id} {s with hp:=s.hp++[some [.rw k xs],none]} w a:=by
 let g':Gh:={g with ρ:=λid=>if id=s.hp.length then b else if id=s.hp.length+1 then cap else g.ρ id}
 have d:∀id,id<s.hp.length->g'.ρ id=g.ρ id:=λid hid=>by simp only[g'];rw[if_neg (by omega),if_neg (by omega)]
 have f:g'.ρ s.hp.length=b:=by simp[g']
 have C:g'.ρ (s.hp.length+1)=cap:=by simp[g']
 have u:Up g.I g.ρ s.hp.length w g'.I g'.ρ (s.hp++[some [V.rw k xs],none]).length w:=⟨λ_ _ r=>r,λ_ _ _=>rfl,d,by simp⟩
 have B:∀F v cv,au g w F v cv->au g' w F v cv:=λF v cv ho=>b7 ho rfl (λb j r=>⟨r,rfl⟩) (λb hb=>⟨hb,rfl,λj W=>W⟩)
 have split:∀(id:Nat) o,(s.hp++[some [V.rw k xs],none])[id]? =some (some o)->(id<s.hp.length∧s.hp[id]? =some (some o))∨(id=s.hp.length∧o=[V.rw k xs]):=by
  intro id o hid;rcases AI id s.hp.length with r|r;·rw[Ar r] at hid;exact .inl ⟨r,hid⟩
  ·rw[Aq r] at hid;match hq:id-s.hp.length,hid with
   |0,hid=>simp at hid;exact .inr ⟨by omega,hid.symm⟩
   |1,hid=>simp at hid
   |n+2,hid=>simp at hid
 have D:xs.length*k.sz<=t.size:=AH (AN _ h2) h6;refine⟨⟨?_,?_,?_,?_,h.hr.exI,h.hr.oLt⟩,⟨h.er.size,λn v cv S q=>(h.er.rel n v cv S q).up u,λn v cv S q=>B _ _ _ (h.er.own n v cv S q)⟩⟩
 ·intro id o hid;rcases split id o hid with⟨r,hid⟩|⟨rfl,rfl⟩
  ·refine(h.hr.obj id o hid).keep (by rw[d id r]) λa0 e' R k1 A=>?_
   refine⟨A.len,A.plain,A.typedUp rfl u.rho u.num rfl,A.cold,A.one,λj c cv p q=>(A.rel j c cv p q).up u,λj c cv p q=>B _ _ _ (A.own j c cv p q),by rw[d id r];exact A.bn⟩
  ·refine jg.ofRow (e:=e) (by rw[f];exact h5) ⟨by simp only[cellsOf,bC];exact D,(by intro hf;cases hf),?_,(λj W=>Z j (AC W (by simp only[cellsOf,bC];exact D))),?_,?_,?_,?_⟩ rfl;·intro A ys X;have X:some _=some _:=X;cases X;exact⟨Z,by rw[C];exact h6,by simp,h7⟩
   ·intro c p;simp only[cellsOf,AG] at p;obtain⟨y,_,p⟩:=p;exact s9 k y c p
   ·intro j c cv p q;simp only[cellsOf] at p;obtain⟨y,hy,p⟩:=cX _ j _ p;exact tb p (h9 _ y _ c cv hy p (by rw[show j / k.sz*k.sz+j%k.sz=j by rw[B4];exact Ct j k.sz];exact q))
   ·intro j c cv p q;have N:=Ai p;simp only[cellsOf,AG] at N;obtain⟨y,_,N⟩:=N;exact il (oD k y c N) _ _ _ _
   ·intro j E n p;simp only[cellsOf] at p;obtain⟨y,_,p⟩:=cX _ j _ p;exact absurd p (sS k y _ E n)
 ·intro id G o o' k1 A M;rcases split id o k1 with⟨r,m1⟩|⟨Y, -⟩<;>rcases split G o' A with⟨J,m2⟩|⟨e2, -⟩
  ·rw[d _ r,d _ J];exact h.hr.apart id G o o' m1 m2 M
  ·rw[d _ r,e2,f];exact L id o m1
  ·rw[d _ J,Y,f];exact(L G o' m2).symm
  ·exact absurd (Y.trans e2.symm) M
 ·intro id o hid j r;rcases split id o hid with⟨H,hid⟩|⟨rfl,rfl⟩
  ·rw[d _ H] at r;exact h.hr.notI id o hid j r
  ·rw[f] at r;exact h8 j r
 ·intro id o hid;rcases split id o hid with⟨H,hid⟩|⟨rfl,rfl⟩
  ·rw[d _ H];exact h.hr.notO id o hid
  ·rw[f];exact h4
theorem apB{s:St}{o:Occ}{cv:Value}(f:qk g s w a o cv)(v:V)(l:List ai):({s with hp:=s.hp++l}:St).put? o v={s.put? o v with hp:=(s.put? o v).hp++l}:=by
 cases o with
 |slot n=>rfl
 |cell id j=>obtain⟨cs,d,e,b,h,_,_⟩:=f;obtain⟨hid,_⟩:=jK b;have c:id<s.hp.length:=(Ad.1 hid).1;simp only[St.put?,b,aiG b l,St.setObj];rw[List.set_append_left _ _ c]
 |res=>rfl
theorem aoV{s:St}{o:Occ}{cv:Value}(t:qk g s w a o cv){u:V}(x:u.one=true)(c:qk g (s.put? o u) w a o cv)(v:V):(s.put? o u).put? o v=s.put? o v:=by
 cases o with
 |slot n=>simp[St.put?,St.set]
 |cell id j=>
  obtain⟨cs,q,e,d,y,_,_⟩:=t;obtain⟨r,i,A,b,p,_,_⟩:=c;obtain⟨hid,_⟩:=jK d;have f:id<s.hp.length:=(Ad.1 hid).1;have k:s.put? (.cell id j) u=s.setObj id (cs.set j u):=by simp only[St.put?,d]
  rw[k] at b ⊢;obtain⟨h,_⟩:=jK b;simp only[St.setObj,AB,f,if_true,Ah] at h;subst h;simp only[St.put?];rw[b,d];simp only[St.setObj,Di]
 |res=>rfl
theorem qk.append{s:St}{o:Occ}{cv:Value}(d:qk g s w a o cv)(h:∀id,id<s.hp.length->g'.ρ id=g.ρ id)(l:List ai):qk g' {s with hp:=s.hp++l} w a o cv:=by
 cases o with
 |slot n=>exact d
 |cell id j=>obtain⟨cs,b,e,f,i,p,k⟩:=d;obtain⟨hid,_⟩:=jK f;have c:id<s.hp.length:=(Ad.1 hid).1;exact⟨cs,b,e,aiG f l,i,by rw[h id c];exact p,k⟩
 |res=>exact d
theorem alf(h:SR g s w a){o:Occ}(F:(eV.opn o).step s=some (true,s')):∃g',SR g' s' w a∧FR g s.hp w g' s'.hp w:=by
 simp only[eV.step] at F;split at F
 ·rename_i k xs H;simp only[Ah,Ap,decide_eq_true_eq] at F;obtain⟨E,rfl⟩:=F;obtain⟨cv,hl,hv,ho⟩:=aj6 h H (by simp);rcases ho with⟨rfl,_⟩|⟨b,cap,a0,e,fz,h0,rfl,M,h3,S,h5,h6,h7,h8,h9⟩
  ·simp at E
  ·have D:xs.length<=dl:=AH M h3;obtain⟨R,p2,p3,Z⟩:=h.fill hl (v:=.hd xs.length) rfl rfl (.hd _ _ _ D) (by simp[au]);have A:tY (some o) (s.put? o (.hd xs.length)):=aqR hl rfl rfl;let c:=s.put? o (.hd xs.length);let u:Gh:={g with O:=λt=>if t=b then none else g.O t}
   have B:∀(id:Nat) cs,c.hp[id]? =some (some cs)->g.ρ id≠b:=by intro id cs hid e';have:=R.hr.notO id cs hid;rw[e',S] at this;simp at this
   have k1:SR u c w a:=by
    refine R.keep (some o) A rfl (Up.refl _ _ _ _) ?_ ?_ h.hr.exI ?_
    ·intro bn t d ad;have L:t≠b:=by
      rintro rfl;rw[S] at d;exact ad d
     exact⟨by simp[u,L,d],rfl,λj W=>W⟩
    ·intro id cs hid;exact⟨rfl,by simp[u,B id cs hid,R.hr.notO id cs hid],λj W=>W⟩
    ·intro t o' d;simp only[u] at d;split at d;·simp at d
     ·exact h.hr.oLt _ _ d
   have k2:=k1.addRow (b:=b) (cap:=cap) h0 M h5 h6 h7 h8 (by simp[u]) B h9;let f:Gh:={u with ρ:=λid=>if id=c.hp.length then b else if id=c.hp.length+1 then cap else u.ρ id}
   let i:St:={c with hp:=c.hp++[some [.rw k xs],none]}
   have q:∀id,id<c.hp.length->f.ρ id=g.ρ id:=λid hid=>by simp only[f];rw[if_neg (by omega),if_neg (by omega)]
   have Y:qk f i w a o (.slice (some ⟨b,0,none⟩) xs.length cap):=qk.append (g:=g) Z q _;have G:VRel f.I f.ρ i.hp.length w (.sw k c.hp.length xs.length) (.slice (some ⟨b,0,none⟩) xs.length cap):=by
    have x:f.ρ (c.hp.length+1)=cap:=by simp[f]
    have X:f.ρ c.hp.length=b:=by simp[f]
    have:=VRel.sw (I:=f.I) (ρ:=f.ρ) (N:=i.hp.length) (w:=w) k c.hp.length xs.length (by simp[i]) (by rw[x];exact M) (by rw[x];exact h3);rw[x,X] at this;exact this
   obtain⟨q1,q2,q3,q4⟩:=SR.fill (g:=f) (s:=i) k2 Y (v:=.sw k c.hp.length xs.length) rfl rfl G (by simp[au]);have r:c.hp.length=s.hp.length:=p3;have y:i.put? o (.sw k c.hp.length xs.length)={s.put? o (.sw k s.hp.length xs.length) with hp:=(s.put? o (.sw k s.hp.length xs.length)).hp++[some [.rw k xs],none]}:=by have J:=apB (g:=g) (w:=w) (a:=a) Z (.sw k c.hp.length xs.length) [some [.rw k xs],none];rw[aoV hl rfl Z] at J;rw[r] at J;show ({c with hp:=c.hp++[some [.rw k xs],none]}:St).put? o (.sw k c.hp.length xs.length)=_;rw[r];exact J
   rw[y] at q1 q2;refine⟨f,q1,?_⟩;refine p2.trans (FR.trans (g₁:=f) (hp₁:=i.hp) (w₁:=w) ?_ q2);refine⟨rfl,rfl,rfl,rfl,Am _,λ_ _ _ _=>rfl,⟨λ_ _ p=>p,λ_ _ _=>rfl,q,by simp[i,c]⟩,λ_ _ _ _ _ p=>p,?_,?_⟩
   ·intro t _ _ hO;show (if t=b then none else g.O t)=none;split;·rfl
    ·exact hO
   ·intro id cs hid;rcases AI id c.hp.length with p|p
    ·left;have:i.hp[id]? =c.hp[id]?:=by simp only[i];rw[Ar p]
     rw[this] at hid;exact⟨cs,hid⟩
    ·right;refine⟨p,.inr (.inl ?_)⟩;have C:id=c.hp.length:=by
      simp only[i] at hid;rw[Aq p] at hid;match hq:id-c.hp.length,hid with
      |0,_=>omega
      |1,hid=>simp at hid
      |n+2,hid=>simp at hid
     subst C;have:f.ρ c.hp.length=b:=by simp[f]
     rw[this,S];simp
 ·obtain rfl:s=s':=by simpa using F
  exact⟨g,h,FR.refl _ _ _⟩
theorem alg(h:SR g s w a){o:Occ}(L:(eV.cls o).step s=some (true,s')):∃g',SR g' s' w a∧FR g s.hp w g' s'.hp w:=by
 simp only[eV.step] at L;split at L
 ·rename_i k id n a2;split at L
  ·rename_i k' xs ho;split at L
   ·rename_i hk;subst hk;simp only[Ah,Ap] at L;obtain⟨hn,rfl⟩:=L;obtain rfl:=Ax hn;obtain⟨cv,hl,Y, -⟩:=aj6 h a2 (by simp);obtain⟨a1,e,fz,hb,dp,bs,ad⟩:=mw h ho;obtain⟨t1,t2,t3,t4⟩:=bs.typed k' xs rfl;have hid:=yC ho;cases Y with
    |sw _ _ _ hN Z hm=>
    obtain⟨D,p2,p3,p4⟩:=h.fill hl (v:=.hd xs.length) rfl rfl (.hd _ _ _ (AH Z hm)) (by simp[au]);let J:=s.put? o (.hd xs.length);have r:J.hp[id]? =some (some [.rw k' xs]):=by
     cases o with
     |slot n=>exact hid
     |cell t j=>
      obtain⟨cs,y,S,p,hj,_,_⟩:=hl;have d:t≠id:=by rintro rfl;obtain⟨A,H⟩:=jK p;rw[hid] at A;cases A;simp[dm] at H
      simp only[J,St.put?,p,St.setObj];rw[AW d];exact hid
     |res=>exact absurd hl (by simp[qk])
    let I:Gh:={g with O:=λW=>if W=g.ρ id then some o else g.O W}
    let B:St:={J with hp:=J.hp.set id none}
    have sub:∀(i:Nat) cs,B.hp[i]? =some (some cs)->i≠id∧J.hp[i]? =some (some cs):=by
     intro i cs f;simp only[B,AB] at f;split at f;·split at f<;>simp at f
     ·rename_i d;exact⟨λe=>d e.symm,f⟩
    have bl:g.O (g.ρ id)=none:=D.hr.notO id _ r;have C:∀N v cv,au g w N v cv->au I w N v cv:=by
     intro N v cv a4;refine b7 a4 rfl (λb j f=>⟨f,rfl⟩) ?_;intro b q;refine⟨?_,rfl,λj hj=>hj⟩;have:b≠g.ρ id:=by rintro rfl;rw[bl] at q;simp at q
     simp[I,this,q]
    have F:B.hp.length=J.hp.length:=by simp[B]
    have k1:SR I B w a:=by
     refine⟨⟨?_,?_,?_,?_,D.hr.exI,?_⟩,⟨D.er.size,λm v cv Y E=>by rw[F];exact D.er.rel m v cv Y E,λm v cv Y E=>C _ _ _ (D.er.own m v cv Y E)⟩⟩
     ·intro i cs f;obtain⟨d,f⟩:=sub i cs f;refine(D.hr.obj i cs f).keep rfl λy S fz m1 M=>?_
      rw[F];exact⟨M.len,M.plain,M.typed,M.cold,M.one,M.rel,λj c cv Z E=>C _ _ _ (M.own j c cv Z E),M.bn⟩
     ·intro i i' cs ar A H d;exact D.hr.apart i i' cs ar (sub i cs A).2 (sub i' ar H).2 d
     ·intro i cs f;exact D.hr.notI i cs (sub i cs f).2
     ·intro i cs f;obtain⟨d,f⟩:=sub i cs f;have:g.ρ i≠g.ρ id:=D.hr.apart i id cs _ f r d;show (if g.ρ i=g.ρ id then some o else g.O (g.ρ i))=none;rw[if_neg this];exact D.hr.notO i cs f
     ·intro W o' q;simp only[I] at q;split at q
      ·rename_i S;subst S;rcases AI (g.ρ id) w.heap.size with G|G;·exact G
       ·simp[C4 G] at hb
      ·exact h.hr.oLt _ _ q
    have al:qk I B w a o (.slice (some ⟨g.ρ id,0,none⟩) xs.length (g.ρ (id+1))):=by
     cases o with
     |slot n=>exact p4
     |cell t j=>
      obtain⟨cs,y,S,p,hj,q,ha⟩:=p4;refine⟨cs,y,S,?_,hj,q,ha⟩;have d:id≠t:=by rintro rfl;obtain⟨A,H⟩:=jK p;rw[show (s.put? (.cell id j) (.hd xs.length)).hp[id]? =some (some [.rw k' xs]) from r] at A;cases A;simp[dm] at H
      unfold St.obj at p ⊢;simp only[B,Ak] at p ⊢;rw[AW d];exact p
     |res=>exact p4
    have a9:aax I w o k' xs (.slice (some ⟨g.ρ id,0,none⟩) xs.length (g.ρ (id+1))):=
     .inr ⟨g.ρ id,g.ρ (id+1),a1,e,fz,t1,rfl,Z,hm,by simp[I],hb,t2,t4,λj=>D.hr.notI id _ r j,λi x j v u A H R=>tb H (ad i x j v u A H R)⟩
    obtain⟨q1,q2,q3,q4⟩:=SR.fill (g:=I) (s:=B) k1 al (v:=.ul k' xs) rfl rfl (.ul _ _ _ _ (AH Z hm)) a9;have X:B.put? o (.ul k' xs)={s.put? o (.ul k' xs) with hp:=(s.put? o (.ul k' xs)).hp.set id none}:=by
     cases o with
     |slot n=>simp[B,J,St.put?,St.set]
     |cell t j=>
      obtain⟨cs,y,S,p,hj,_,_⟩:=hl;obtain⟨c2,b5,e2,an,c1,_,_⟩:=al;obtain⟨A,H⟩:=jK p;have G:t<s.hp.length:=(Ad.1 A).1;have d:t≠id:=by rintro rfl;rw[hid] at A;cases A;simp[dm] at H
      have he:J=s.setObj t (cs.set j (.hd xs.length)):=by simp only[J,St.put?,p]
      obtain⟨R,_⟩:=jK an;simp only[B] at R;rw[AW (Ne.symm d),he] at R;simp only[St.setObj,AB,G,if_true,Ah] at R;subst R;simp only[St.put?];rw[an,p];simp only[B,he,St.setObj,Di];rw[DD _ _ d,Di];rw[DD _ _ (Ne.symm d)]
     |res=>rfl
    rw[X] at q1 q2;refine⟨I,q1,p2.trans (FR.trans (g₁:=I) (hp₁:=B.hp) (w₁:=w) ?_ q2)⟩;refine⟨rfl,rfl,rfl,rfl,Am _,λ_ _ _ _=>rfl,⟨λ_ _ f=>f,λ_ _ _=>rfl,λ_ _=>rfl,by rw[F];exact Am _⟩,λ_ _ _ _ _ f=>f,?_,λi cs f=>.inl ⟨cs,(sub i cs f).2⟩⟩;intro W _ a3 hO;show (if W=g.ρ id then some o else g.O W)=none;rw[if_neg (λe=>a3 id _ r e.symm)];exact hO
   ·simp at L
  ·simp at L
 ·obtain rfl:s=s':=by simpa using L
  exact⟨g,h,FR.refl _ _ _⟩
theorem amG(h:SR g s w a){o:Occ}(L:(eV.fz o).step s=some (true,s')):∃g',SR g' s' w a∧FR g s.hp w g' s'.hp w:=by
 simp only[eV.step] at L;split at L
 ·rename_i k xs O;obtain rfl:_=s':=by simpa using L
  obtain⟨cv,M,hv,ho⟩:=aj6 h O (by simp);rcases ho with⟨rfl,rfl⟩|⟨b,cap,d,e,fz,h0,rfl,W,h3,J,F,h6,h7,h8,h9⟩
  ·obtain⟨D,N,p3,Z⟩:=h.fill M (v:=.sl k .own []) rfl rfl (.sln _ _) (by simp[au]);exact⟨g,D,N⟩
  ·have C:xs.length<=dl:=AH W h3;obtain⟨D,N,p3,Z⟩:=h.fill M (v:=.hd xs.length) rfl rfl (.hd _ _ _ C) (by simp[au]);have A:tY (some o) (s.put? o (.hd xs.length)):=aqR M rfl rfl;let p:=s.put? o (.hd xs.length);let f:Gh:={g with I:=λt j=>g.I t j∨(t=b∧j<xs.length*k.sz)}
   have a2:xs.length*k.sz<=d.size:=AH (AN _ W) h6;have R:∀(id:Nat) cs,p.hp[id]? =some (some cs)->g.ρ id≠b:=by intro id cs hid e';have:=D.hr.notO id cs hid;rw[e',J] at this;simp at this
   have u:Up g.I g.ρ p.hp.length w f.I f.ρ p.hp.length w:=⟨λ_ _ G=>.inl G,λ_ _ _=>rfl,λ_ _=>rfl,Am _⟩
   have k1:SR f p w a:=by
    refine D.keep (some o) A rfl u ?_ ?_ ?_ h.hr.oLt
    ·intro bl t q ad;have S:t≠b:=by
      rintro rfl;rw[J] at q;exact ad q
     refine⟨q,rfl,?_⟩;rintro j (c|⟨c,_⟩);·exact c
     ·exact absurd c S
    ·intro id cs hid;refine⟨rfl,D.hr.notO id cs hid,?_⟩;rintro j (c|⟨c,_⟩);·exact c
     ·exact absurd c (R id cs hid)
    ·rintro t j (c|⟨rfl,c⟩);·exact h.hr.exI t j c
     ·exact .row F (by omega) (λ_ hz=>absurd hz (h0 j (by omega)))
   have Y:qk f p w a o (.slice (some ⟨b,0,none⟩) xs.length cap):=Z;have r:∀x:Ty k,∀j,j<(enc k x).length->j<k.sz:=λx j c=>by rwa [bT] at c
   have E:VRel f.I f.ρ p.hp.length w (.sl k .own xs) (.slice (some ⟨b,0,none⟩) xs.length cap):=by
    refine .sl k .own xs _ _ _ _ rfl W h3 (by simp) (λi j=>d[i*k.sz+j]?.getD undef) ?_ ?_ ?_;·intro i x j y c;exact .inr ⟨rfl,by have:=pd (Ad.1 y).1 (r x j c);omega⟩
    ·intro i x j y c;have:=pd (Ad.1 y).1 (r x j c);rw[A1,aM F,Ao (by omega)];rfl
    ·intro i x j v y c;have X:=(Ad.1 c).1;have:=pd (Ad.1 y).1 (r x j X);have ha:d[i*k.sz+j]? =some (d[i*k.sz+j]'(by omega)):=Ao _;rw[ha];exact(tb (ρ':=g.ρ) (N':=p.hp.length) c (h9 i x j v _ y c ha)).up u
   have B:au f w o (.sl k .own xs) (.slice (some ⟨b,0,none⟩) xs.length cap):=by
    refine⟨J,⟨d,e,fz,F,by simpa using h6,h7⟩,?_⟩;intro j j1 j2;simp only[A1] at j1 j2;refine⟨?_,by have:=h0 j (by omega);simp only[BA,F,BI,decide_eq_false_iff_not];omega⟩;rintro(G|⟨_,G⟩);·exact h8 j G
    ·omega
   obtain⟨q1,q2,q3,q4⟩:=SR.fill (g:=f) (s:=p) k1 Y (v:=.sl k .own xs) rfl rfl E B;rw[aoV M rfl Z] at q1 q2;refine⟨f,q1,N.trans (FR.trans (g₁:=f) (hp₁:=p.hp) (w₁:=w) ?_ q2)⟩;refine⟨rfl,rfl,rfl,rfl,Am _,λ_ _ _ _=>rfl,u,?_,λ_ _ _ H=>H,λ_ cs h=>.inl ⟨cs,h⟩⟩;rintro t j _ _ H (c|⟨rfl,_⟩);·exact c
   ·rw[J] at H;simp at H
 ·obtain rfl:s=s':=by simpa using L
  exact⟨g,h,FR.refl _ _ _⟩
theorem mM(h:SR g s w a){x:eV}(b:x.step s=some (true,s')):∃g',SR g' s' w a∧FR g s.hp w g' s'.hp w:=by
 cases x with
 |opn o=>exact alf h b
 |cls o=>exact alg h b
 |fz o=>exact amG h b
 |hol n=>exact aqQ h b
 |isf d q cs=>
  simp only[eV.step] at b;split at b;·simp only[Ah,Ap] at b;obtain⟨_,rfl⟩:=b;exact⟨g,h,FR.refl _ _ _⟩
  ·simp at b
variable{w':World}{P:Program}{Γ:av}{m:Oper}{next:Act->World->Prop}{Q:Exit->Act->World->Prop}
end
def aw.slots:aw->List Nat
 | .t n| .tk n=>[n]
 | .c _=>[]
def aw.takes:aw->List Nat
 | .tk n=>[n]
 |_=>[]
def aeS:Option aw->List Nat
 |some x=>x.slots
 |none=>[]
def IOp.rd:IOp->List Nat
 | .mov _ x| .un _ _ x| .cvi _ _ x| .b2s _ x| .lens _ x| .lenl _ x| .box _ x| .fad _ _ x| .ld _ _ _ _ x| .ext _ _ x| .nck _ x| .boxe _ x| .lde _ _ _ x=>x.slots
 | .frz _ r _ v=>r::v.slots
 | .pick _ c x y=>c.slots++(x.slots++y.slots)
 | .bin _ _ x y| .idx _ x y| .ixa _ _ x y| .apo _ _ x y| .st _ _ x y| .app _ _ x y| .mx _ _ x y| .beq _ _ x y=>x.slots++y.slots
 | .subs _ x a d| .subl _ _ x a d| .slw _ _ x a d=>x.slots++(aeS a++aeS d)
 | .bsl _ _ b _=>b.flatMap aw.slots
 | .bld _ _ b=>b.flatMap λp=>p.2.2.slots
 | .new _ _| .alr _ _=>[]
 | .call _ _ avs| .mkf _ _ avs=>avs.flatMap aw.slots
 | .dcall _ _ x avs=>x.slots++avs.flatMap aw.slots
 | .snil _ x| .lnw _ x| .fdw _ _ x| .ldw _ _ _ x=>x.slots
 | .apu _ _ x y| .apx _ _ x y| .ixw _ _ x y| .stw _ _ x y=>x.slots++y.slots
 | .blu _ _=>[]
 | .mkm _ _=>[]
 | .mget _ _ _ x y=>x.slots++y.slots
 | .mput _ _ x y z=>x.slots++(y.slots++z.slots)
def IOp.wr(o:IOp):List Nat:=
 o.dst.toList++(match o with| .mov _ x| .app _ _ x _| .st _ _ _ x=>x.takes| .frz _ r _ _=>[r]| .apu _ _ x _| .apo _ _ x _=>x.takes|_=>[])
def IOp.cls(imp:List Nat):IOp->Nat
 | .ld _ _ _ false _| .ldw .. | .mget ..=>1
 | .ld _ _ _ true _| .st .. | .new .. | .box .. | .dcall .. | .stw .. | .apx .. | .apo .. | .mkm .. | .mput ..=>2
 | .call _ f _=>if imp.contains f then 2 else 0
 |_=>0
def aeT(hp:List ai)(q:List (Nat×ai)):List ai:=q.foldl (λh p=>h.set p.1 p.2) hp
structure dx(Γ:av)(imp:List Nat):Prop where
 pure:∀f avs hp,imp.contains f=false->Γ f avs hp=(Γ f avs []).map λx=>(x.1,x.2.1,hp)
 loc:∀f vs hp c v hp',imp.contains (f+2000000)=true->Γ f vs hp=some (c,v,hp')->∃q:List (Nat×ai),(∀p∈q,p.1∈tU vs)∧hp'=aeT hp q∧
  ∀hp2:List ai,hp2.length=hp.length->(∀i∈abf vs,hp2[i]? =hp[i]?)->Γ f vs hp2=some (c,v,aeT hp2 q)
theorem ag8(q:List (Nat×ai)):∀hp:List ai,(aeT hp q).length=hp.length:=by
 induction q with
 |nil=>intro hp;rfl
 |cons p q a=>intro hp;show (aeT (hp.set p.1 p.2) q).length=_;rw[a];simp
theorem amH{q:List (Nat×ai)}{i:Nat}:∀{hp:List ai},(∀p∈q,p.1≠i)->(aeT hp q)[i]? =hp[i]?:=by
 induction q with
 |nil=>intro hp _;rfl
 |cons p q a=>intro hp h;show (aeT (hp.set p.1 p.2) q)[i]? =_;rw[a (λx b=>h x (AT _ b)),AW (h p (AU ..))]
theorem zU{hp a:List ai}{i:Nat}(h:a[i]? =hp[i]?):a.getD i none=hp.getD i none:=by rw[Af,Af,h]
theorem alh{l:List Nat}{i:Nat}(h:i∈l):i∈apk l:=AG.2 ⟨i,h,Bm.2 (Nat.lt_succ_self i)⟩
theorem apC{vs:List V}{i:Nat}(h:i∈eZ vs):i∈tU vs:=AX _ (alh (AX _ h))
theorem acB{vs:List V}{i:Nat}(h:i∈rJ vs):i∈abf vs:=AX _ (alh (AX _ h))
theorem yf:∀{vs:List V}{i:Nat},i∈eZ vs->i∈rJ vs
 | [],_,h=>by simp[eZ] at h
 |v::vs,i,h=>by
  have e:rJ (v::vs)=v.cellsA.flatMap V.id1++rJ vs:=by simp[rJ]
  rw[e,Aw];unfold eZ at h;split at h;·rename_i a;cases a
  ·rename_i a;cases a;rcases AQ.1 h with rfl|h;·left;simp[V.cellsA,V.id1]
   ·exact .inr (yf h)
  ·rename_i a;cases a;exact .inr (yf h)
theorem arP{vs:List V}{i:Nat}(h:i∈tU vs):i∈abf vs:=by
 rcases Aw.1 h with h|h
 ·obtain⟨j,a,b⟩:=AG.1 h;rcases Aw.1 a with a|a;·exact AX _ (AG.2 ⟨j,AX _ (yf a),b⟩)
  ·exact AX _ (AG.2 ⟨j,BR _ a,b⟩)
 ·exact BR _ h
def St.upd(s:St)(l:List (Nat×V)):St:={s with env:=l.foldl (λe p=>e.set p.1 p.2) s.env}
section
variable{Γ:av}{imp:List Nat}
theorem bU{s t:St}{x:aw}(h:∀n∈x.slots,t.get n=s.get n):x.ev t=x.ev s:=by
 cases x with
 |t n=>simp only[aw.ev];rw[h n (by simp[aw.slots])]
 |tk n=>exact h n (by simp[aw.slots])
 |c v=>rfl
theorem aqS{s t:St}{x:Option aw}(h:∀n∈aeS x,t.get n=s.get n):eK t x=eK s x:=by
 cases x with
 |none=>rfl
 |some x=>simp only[eK];rw[bU h]
theorem cK(s:St)(d:Option Nat)(v:V):s.setO d v=s.upd (d.toList.map λd=>(d,v)):=by cases d<;>rfl
theorem ja(s:St)(x:aw):x.after s=s.upd (x.takes.map λn=>(n,disown (s.get n))):=by cases x<;>rfl
theorem mj(s:St)(l m:List (Nat×V)):(s.upd l).upd m=s.upd (l++m):=by simp[St.upd,List.foldl_append]
theorem agy{s:St}:∀{l:List (Nat×V)}{n:Nat},(∀p∈l,p.1≠n)->(s.upd l).get n=s.get n:=by
 intro l;induction l generalizing s with
 |nil=>intro n h;rfl
 |cons p l b=>intro n h;have:s.upd (p::l)=(s.set p.1 p.2).upd l:=rfl;rw[this,b (λq a=>h q (AT _ a))];simp[St.get,St.set,Ak,AB,h p (AU ..)]
def asJ(Γ:av)(imp:List Nat)(o:IOp)(s:St)(c:Bool)(s':St):Prop:=
 ∃u:List (Nat×V),(∀p∈u,p.1∈o.wr)∧s'=s.upd u∧∀t:St,(∀n∈o.rd,t.get n=s.get n)->(o.cls imp=1->t.hp=s.hp)->step Γ o t=some (c,t.upd u)
theorem bv{o:IOp}{s s':St}{c:Bool}(E:Option (Bool×V))(b:∀t:St,(∀n∈o.rd,t.get n=s.get n)->(o.cls imp=1->t.hp=s.hp)->step Γ o t=E.map λp=>(p.1,t.setO o.dst p.2))
  (h:step Γ o s=some (c,s')):asJ Γ imp o s c s':=by
 rw[b s (λ_ _=>rfl) (λ_=>rfl)] at h;cases E with
 |none=>simp at h
 |some p=>
  simp only[Bg,Ah,Ap] at h;obtain⟨rfl,rfl⟩:=h;refine⟨o.dst.toList.map λd=>(d,p.2),?_,cK _ _ _,?_⟩;·intro q a;simp only[AE] at a;obtain⟨d,g,rfl⟩:=a;simp[IOp.wr,g]
  ·intro t e f;rw[b t e f,<-cK];rfl
theorem apD(hP:dx Γ imp){o:IOp}(E:o.cls imp<=1){s:St}{c:Bool}{s':St}(h:step Γ o s=some (c,s')):
  asJ Γ imp o s c s':=by
 have w:∀{x:aw}{l:List Nat}{t:St},(∀n∈l,t.get n=s.get n)->(∀n∈x.slots,n∈l)->x.ev t=x.ev s:=λP S=>bU λn B=>P n (S n B)
 have N:∀{x:Option aw}{l:List Nat}{t:St},(∀n∈l,t.get n=s.get n)->(∀n∈aeS x,n∈l)->eK t x=eK s x:=λP S=>aqS λn B=>P n (S n B)
 cases o with
 |mov d x=>
  obtain⟨rfl,rfl⟩:true=c∧_=s':=by simpa [step] using h
  refine⟨x.takes.map (λn=>(n,disown (s.get n)))++[(d,x.ev s)],?_,?_,?_⟩
  ·intro p hp;simp only[Aw,AE,Az] at hp;rcases hp with⟨n,B,rfl⟩|rfl;·simp[IOp.wr,IOp.dst,B]
   ·simp[IOp.wr,IOp.dst]
  ·rw[<-mj,<-ja];rfl
  ·intro t g _;have e:=bU (x:=x) g;have G:x.takes.map (λn=>(n,disown (t.get n)))=x.takes.map (λn=>(n,disown (s.get n))):=by
    cases x with
    |tk n=>simp only[aw.takes,List.map];rw[g n (by simp[IOp.rd,aw.slots])]
    |_=>rfl
   simp only[step,e];rw[ja,G,<-mj];rfl
 |app d k x y=>
  simp only[step] at h;split at h
  ·rename_i k' ox l Y ow m D hy;split at h
   ·rename_i hk;split at h
    ·rename_i I;simp only[Ah,Ap] at h;obtain⟨rfl,rfl⟩:=h;refine⟨x.takes.map (λn=>(n,disown (s.get n)))++[(d,.sl k' .own (l++(I▸m)))],?_,?_,?_⟩
     ·intro p hp;simp only[Aw,AE,Az] at hp;rcases hp with⟨n,B,rfl⟩|rfl;·simp[IOp.wr,IOp.dst,B]
      ·simp[IOp.wr,IOp.dst]
     ·rw[<-mj,<-ja];rfl
     ·intro t g _;have A:=bU (x:=x) (λn B=>g n (by simp[IOp.rd,B]));have O:=bU (x:=y) (λn B=>g n (by simp[IOp.rd,B]));have G:x.takes.map (λn=>(n,disown (t.get n)))=x.takes.map (λn=>(n,disown (s.get n))):=by
       cases x with
       |tk n=>simp only[aw.takes,List.map];rw[g n (by simp[IOp.rd,aw.slots])]
       |_=>rfl
      simp only[step,A,O,D,hy,hk,I,dif_pos,if_true];rw[ja,G,<-mj];rfl
    ·simp at h
   ·simp at h
  ·simp at h
 |apu d k x y=>
  simp only[step] at h;split at h
  ·rename_i k' l Y ow m D hy;split at h
   ·rename_i hk;split at h
    ·rename_i I;simp only[Ah,Ap] at h;obtain⟨rfl,rfl⟩:=h;refine⟨x.takes.map (λn=>(n,disown (s.get n)))++[(d,.ul k' (l++(I▸m)))],?_,?_,?_⟩
     ·intro p hp;simp only[Aw,AE,Az] at hp;rcases hp with⟨n,B,rfl⟩|rfl;·simp[IOp.wr,IOp.dst,B]
      ·simp[IOp.wr,IOp.dst]
     ·rw[<-mj,<-ja];rfl
     ·intro t g _;have A:=bU (x:=x) (λn B=>g n (by simp[IOp.rd,B]));have O:=bU (x:=y) (λn B=>g n (by simp[IOp.rd,B]));have G:x.takes.map (λn=>(n,disown (t.get n)))=x.takes.map (λn=>(n,disown (s.get n))):=by
       cases x with
       |tk n=>simp only[aw.takes,List.map];rw[g n (by simp[IOp.rd,aw.slots])]
       |_=>rfl
      simp only[step,A,O,D,hy,hk,I,dif_pos,if_true];rw[ja,G,<-mj];rfl
    ·simp at h
   ·simp at h
  ·simp at h
 |apo=>simp[IOp.cls] at E
 |mkm=>simp[IOp.cls] at E
 |mput=>simp[IOp.cls] at E
 |mget d k ok x y=>
  refine bv (match x.ev s with
   | .nilm=>(k.dkey (y.ev s)).map λ_=>(true,aeN k ok none)
   | .mr id=>(match s.mapO id with
     |some ⟨k',es⟩=>if k'=k then (k'.dkey (y.ev s)).map λkey=>(true,aeN k' ok (aX es key)) else none
     |none=>none)
   |_=>none) (λt g L=>?_) h
  have j:x.ev t=x.ev s:=w g (by simp+contextual [IOp.rd]);have A:y.ev t=y.ev s:=w g (by simp+contextual [IOp.rd]);have G:∀id,t.mapO id=s.mapO id:=λid=>by simp only[St.mapO];rw[L rfl]
  simp only[step,j,A,G,IOp.dst,St.setO];generalize x.ev s=xe;cases xe with
  |nilm=>simp only[Cf];rfl
  |mr id=>
   simp only[];cases s.mapO id with
   |none=>rfl
   |some p=>
    obtain⟨k',es⟩:=p;simp only[];split;·simp only[Cf];rfl
    ·rfl
  |_=>rfl
 |snil d x=>refine bv (match x.ev s with| .sl _ _ xs=>some (decide (0<xs.length),.bool false)|_=>none) (λt g _=>?_) h;have j:x.ev t=x.ev s:=w g (by simp+contextual [IOp.rd]);simp only[step,j,IOp.dst,St.setO];split<;>first|rfl|(simp_all;done)
 |blu d k=>refine bv (some (true,.ul k [])) (λt g _=>?_) h;simp only[step,IOp.dst,St.setO,Bg]
 |slw d k x H F=>
  refine bv (arJ k (x.ev s) (eK s H) (eK s F)) (λt g _=>?_) h;have j:x.ev t=x.ev s:=w g (by simp+contextual [IOp.rd]);have A:∀o:Option aw,(∀n∈aeS o,n∈(IOp.slw d k x H F).rd)->eK t o=eK s o:=λo ho=>by
   cases o with
   |none=>rfl
   |some y=>exact congrArg some (w (x:=y) g ho)
  simp only[step,j,A H (by simp+contextual [IOp.rd]),A F (by simp+contextual [IOp.rd]),IOp.dst,St.setO]
 |lnw d x=>refine bv (match x.ev s with| .hd n=>some (true,.int .i64 n)| .sw _ _ n=>some (true,.int .i64 n)|_=>none) (λt g _=>?_) h;have j:x.ev t=x.ev s:=w g (by simp+contextual [IOp.rd]);simp only[step,j,IOp.dst,St.setO];split<;>first|rfl|(simp_all;done)
 |ixw d k x i=>
  refine bv (match x.ev s,i.ev s with| .sw k' id n,.int _ i=>if k'=k then some (decide (0<=i)&&decide (i<n),.wp id k' i.toNat 0) else none|_,_=>none) (λt g _=>?_) h;have j:x.ev t=x.ev s:=w g (by simp+contextual [IOp.rd]);have A:i.ev t=i.ev s:=w g (by simp+contextual [IOp.rd]);simp only[step,j,A,IOp.dst,St.setO];split;·split<;>first|rfl|(simp_all;done)
  ·first|rfl|(simp_all;done)
 |fdw d C x=>refine bv (match x.ev s with| .wp id k i o=>some (true,.wp id k i (o+C))|_=>none) (λt g _=>?_) h;have j:x.ev t=x.ev s:=w g (by simp+contextual [IOp.rd]);simp only[step,j,IOp.dst,St.setO];split<;>first|rfl|(simp_all;done)
 |ldw d n agg x=>
  refine bv (match x.ev s with
   | .wp id k i o=>(match s.rowW id with
     |some ⟨k',xs⟩=>if k'=k∧o+n<=k'.sz then some (decide (i<xs.length),disown (d6 agg (((enc k' (xs.getD i (am k'))).drop o).take n))) else none
     |none=>none)
   |_=>none) (λt g L=>?_) h
  have j:x.ev t=x.ev s:=w g (by simp+contextual [IOp.rd]);have A:∀id,t.rowW id=s.rowW id:=λid=>by simp only[St.rowW];rw[L rfl]
  simp only[step,j,A,IOp.dst,St.setO];split
  ·rename_i id k i o D;simp only[D];cases hr:s.rowW id with
   |none=>rfl
   |some p=>obtain⟨k',xs⟩:=p;simp only;split<;>rfl
  ·rename_i D;split;·rename_i al;exact absurd al (D _ _ _ _)
   ·rfl
 |new=>simp[IOp.cls] at E
 |box=>simp[IOp.cls] at E
 |st=>simp[IOp.cls] at E
 |stw d n x v=>simp[IOp.cls] at E
 |apx=>simp[IOp.cls] at E
 |dcall=>simp[IOp.cls] at E
 |alr d n=>refine bv (some (true,.raw n)) (λt g _=>?_) h;simp only[step,IOp.dst,St.setO,Bg]
 |lde d n agg x=>
  refine bv (match x.ev s with| .ea cs=>if n<=cs.length then some (true,disown (d6 agg (cs.take n))) else none|_=>none) (λt g _=>?_) h;have j:x.ev t=x.ev s:=w g (by simp+contextual [IOp.rd]);simp only[step,j,IOp.dst,St.setO];split;·split<;>first|rfl|(simp_all;done)
  ·first|rfl|(simp_all;done)
 |frz d r n v=>
  simp only[step] at h;split at h
  ·rename_i m hr;split at h
   ·rename_i hc;simp only[Ah,Ap] at h;obtain⟨rfl,rfl⟩:=h;refine⟨[(r,.ea ((v.ev s).cells.map disown))]++(d.toList.map λd=>(d,.undef)),?_,?_,?_⟩
    ·intro p hp;simp only[Aw,AE,Az] at hp;rcases hp with rfl|⟨m,hm,rfl⟩
     ·simp[IOp.wr]
     ·simp[IOp.wr,IOp.dst,hm]
    ·rw[<-mj,<-cK];rfl
    ·intro t g _;have A:=bU (x:=v) (λn B=>g n (by simp[IOp.rd,B]));have G:t.get r=s.get r:=g r (by simp[IOp.rd]);simp only[step,A,G,hr,hc,if_true];rw[<-mj,<-cK];rfl
   ·simp at h
  ·simp at h
 |boxe d x=>
  refine bv (match x.ev s with| .agg cs=>some (true,.ea (cs.map disown))|v=>if v.one then some (true,.ea [disown v]) else none) (λt g _=>?_) h;have j:x.ev t=x.ev s:=w g (by simp+contextual [IOp.rd]);simp only[step,j,IOp.dst,St.setO];split;·first|rfl|(simp_all;done)
  ·split<;>first|rfl|(simp_all;done)
 |mkf d f J=>
  refine bv (some (true,.fn f (J.map λx=>disown (x.ev s)))) (λt g _=>?_) h;have e:(J.map λx=>disown (x.ev t))=J.map λx=>disown (x.ev s):=A0 λx D=>congrArg disown (w g (λn B=>by simp only[IOp.rd,AG];exact⟨x,D,B⟩))
  simp only[step,e,IOp.dst,St.setO,Bg]
 |pick d W x y=>refine bv (match W.ev s with| .bool t=>some (true,amr t (disown (x.ev s)) (disown (y.ev s)))|_=>none) (λt g _=>?_) h;have j:W.ev t=W.ev s:=w g (by simp+contextual [IOp.rd]);have A:x.ev t=x.ev s:=w g (by simp+contextual [IOp.rd]);have G:y.ev t=y.ev s:=w g (by simp+contextual [IOp.rd]);simp only[step,j,A,G,IOp.dst,St.setO];split<;>first|rfl|(simp_all;done)
 |bin d o x y=>refine bv (arH o (x.ev s) (y.ev s)) (λt g _=>?_) h;have j:x.ev t=x.ev s:=w g (by simp+contextual [IOp.rd]);have A:y.ev t=y.ev s:=w g (by simp+contextual [IOp.rd]);simp only[step,j,A,IOp.dst,St.setO]
 |un d o x=>refine bv ((unV o (x.ev s)).map λv=>(true,v)) (λt g _=>?_) h;have j:x.ev t=x.ev s:=w g (by simp+contextual [IOp.rd]);simp only[step,j,IOp.dst,St.setO];cases unV o (x.ev s)<;>rfl
 |cvi d k x=>refine bv (match x.ev s with| .int _ n=>some (true,.int k (k.wrap n))|_=>none) (λt g _=>?_) h;have j:x.ev t=x.ev s:=w g (by simp+contextual [IOp.rd]);simp only[step,j,IOp.dst,St.setO];split<;>first|rfl|(simp_all;done)
 |b2s d x=>refine bv (match x.ev s with| .sl .u8 _ l=>some (true,.str l)|_=>none) (λt g _=>?_) h;have j:x.ev t=x.ev s:=w g (by simp+contextual [IOp.rd]);simp only[step,j,IOp.dst,St.setO];split<;>first|rfl|(simp_all;done)
 |lens d x=>refine bv (match x.ev s with| .str l=>some (true,.int .i64 l.length)|_=>none) (λt g _=>?_) h;have j:x.ev t=x.ev s:=w g (by simp+contextual [IOp.rd]);simp only[step,j,IOp.dst,St.setO];split<;>first|rfl|(simp_all;done)
 |lenl d x=>refine bv (match x.ev s with| .sl _ _ l=>some (true,.int .i64 l.length)|_=>none) (λt g _=>?_) h;have j:x.ev t=x.ev s:=w g (by simp+contextual [IOp.rd]);simp only[step,j,IOp.dst,St.setO];split<;>first|rfl|(simp_all;done)
 |idx d x i=>refine bv (match x.ev s,i.ev s with| .str l,.int _ i=>some (decide (0<=i)&&decide (i<l.length),.int .u8 (l.getD i.toNat 0).toNat)|_,_=>none) (λt g _=>?_) h;have j:x.ev t=x.ev s:=w g (by simp+contextual [IOp.rd]);have A:i.ev t=i.ev s:=w g (by simp+contextual [IOp.rd]);simp only[step,j,A,IOp.dst,St.setO];split<;>first|rfl|(simp_all;done)
 |ixa d k x i=>
  refine bv (match x.ev s,i.ev s with| .sl k' _ l,.int _ i=>if k'=k then some (decide (0<=i)&&decide (i<l.length),.ea (enc k' (l.getD i.toNat (am k')))) else none|_,_=>none) (λt g _=>?_) h;have j:x.ev t=x.ev s:=w g (by simp+contextual [IOp.rd]);have A:i.ev t=i.ev s:=w g (by simp+contextual [IOp.rd]);simp only[step,j,A,IOp.dst,St.setO];split;·split<;>first|rfl|(simp_all;done)
  ·first|rfl|(simp_all;done)
 |subs d x H F=>
  refine bv (match x.ev s with| .str l=>(xk l.length (eK s H) (eK s F)).map λ(c,a,b)=>(c,.str ((l.take b).drop a))|_=>none) (λt g _=>?_) h;have j:x.ev t=x.ev s:=w g (by simp+contextual [IOp.rd]);have f0:eK t H=eK s H:=N g (by simp+contextual [IOp.rd]);have X:eK t F=eK s F:=N g (by simp+contextual [IOp.rd]);simp only[step,j,f0,X,IOp.dst,St.setO];split;·rename_i l Q;simp only[Q,Cf];rfl
  ·first|rfl|(simp_all;done)
 |subl d k x H F=>
  refine bv (match x.ev s with| .sl k' _ l=>if k'=k then (xk l.length (eK s H) (eK s F)).map λ(c,a,b)=>(c,.sl k' (.may false) ((l.take b).drop a)) else none|_=>none) (λt g _=>?_) h;have j:x.ev t=x.ev s:=w g (by simp+contextual [IOp.rd]);have f0:eK t H=eK s H:=N g (by simp+contextual [IOp.rd]);have X:eK t F=eK s F:=N g (by simp+contextual [IOp.rd]);simp only[step,j,f0,X,IOp.dst,St.setO];split
  ·rename_i l Q;simp only[Q];split;·simp only[Cf];rfl
   ·rfl
  ·first|rfl|(simp_all;done)
 |bsl d k J u=>
  refine bv ((abe k (J.map (·.ev s))).map λl=>(true,.sl k (cond u (.may true) .own) l)) (λt g _=>?_) h;have e:J.map (·.ev t)=J.map (·.ev s):=A0 λx D=>w g (λn B=>by simp only[IOp.rd,AG];exact⟨x,D,B⟩)
  simp only[step,e,IOp.dst,St.setO,Cf];rfl
 |bld d zero J=>
  refine bv ((lay zero (J.map λ(C,n,x)=>(C,n,x.ev s))).map λcs=>(true,.agg cs)) (λt g _=>?_) h;have e:(J.map λ(C,n,x)=>(C,n,x.ev t))=J.map λ(C,n,x)=>(C,n,x.ev s):=A0 λx D=>by
   have:=w (x:=x.2.2) g (λn B=>by simp only[IOp.rd,AG];exact⟨x,D,B⟩);show (x.1,x.2.1,_)=(x.1,x.2.1,_)
   rw[this]
  simp only[step,e,IOp.dst,St.setO,Cf];rfl
 |fad d C x=>refine bv (match x.ev s with| .ea cs=>some (true,.ea (cs.drop C))| .ptr id o=>some (true,.ptr id (o+C))|_=>none) (λt g _=>?_) h;have j:x.ev t=x.ev s:=w g (by simp+contextual [IOp.rd]);simp only[step,j,IOp.dst,St.setO];split<;>first|rfl|(simp_all;done)
 |ld d n agg M x=>
  cases M with
  |true=>simp[IOp.cls] at E
  |false=>
   refine bv (match x.ev s with| .ea cs=>if n<=cs.length then some (true,disown (d6 agg (cs.take n))) else none| .ptr id o=>(match s.obj id with|some cs=>if o+n<=cs.length then some (true,disown (d6 agg ((cs.drop o).take n))) else none|none=>none)|_=>none) (λt g L=>?_) h;have j:x.ev t=x.ev s:=w g (by simp+contextual [IOp.rd]);have A:∀id,t.obj id=s.obj id:=λid=>by simp only[St.obj];rw[L rfl]
   simp only[step,j,A,IOp.dst,St.setO];split;·split<;>first|rfl|(simp_all;done)
   ·split;·split<;>first|rfl|(simp_all;done)
    ·first|rfl|(simp_all;done)
   ·first|rfl|(simp_all;done)
 |ext d i x=>
  refine bv (match x.ev s with| .tup vs=>if i<vs.length then some (true,disown (vs.getD i .undef)) else none|_=>none) (λt g _=>?_) h;have j:x.ev t=x.ev s:=w g (by simp+contextual [IOp.rd]);simp only[step,j,IOp.dst,St.setO];split;·split<;>first|rfl|(simp_all;done)
  ·first|rfl|(simp_all;done)
 |nck d x=>refine bv (match x.ev s with| .ptr id o=>some (true,.ptr id o)| .ea cs=>some (true,.ea cs)| .wp id k i o=>some (true,.wp id k i o)|_=>none) (λt g _=>?_) h;have j:x.ev t=x.ev s:=w g (by simp+contextual [IOp.rd]);simp only[step,j,IOp.dst];split<;>first|rfl|(simp_all;done)
 |beq d R x y=>refine bv (match x.ev s,y.ev s with| .bool p,.bool q=>some (true,.bool (cond R (!(p==q)) (p==q)))|_,_=>none) (λt g _=>?_) h;have j:x.ev t=x.ev s:=w g (by simp+contextual [IOp.rd]);have A:y.ev t=y.ev s:=w g (by simp+contextual [IOp.rd]);simp only[step,j,A,IOp.dst,St.setO];split<;>first|rfl|(simp_all;done)
 |mx d mn x y=>
  refine bv (match x.ev s,y.ev s with| .int k a,.int k' b=>if k=k' then some (true,.int k (if mn then (if b<a then b else a) else (if a<b then b else a))) else none|_,_=>none) (λt g _=>?_) h;have j:x.ev t=x.ev s:=w g (by simp+contextual [IOp.rd]);have A:y.ev t=y.ev s:=w g (by simp+contextual [IOp.rd]);simp only[step,j,A,IOp.dst,St.setO];split;·split<;>first|rfl|(simp_all;done)
  ·first|rfl|(simp_all;done)
 |call d f avs=>
  have Z:imp.contains f=false:=by
   simp only[IOp.cls] at E;split at E;·omega
   ·rename_i Z;simpa using Z
  refine bv ((Γ f (avs.map λx=>disown (x.ev s)) []).map λx=>(x.1,x.2.1)) (λt g _=>?_) h;have e:(avs.map λx=>disown (x.ev t))=avs.map λx=>disown (x.ev s):=A0 λx D=>by rw[w (x:=x) g (λn B=>by simp only[IOp.rd,AG];exact⟨x,D,B⟩)]
  simp only[step,e,IOp.dst];rw[hP.pure _ _ _ Z];cases Γ f (avs.map λx=>disown (x.ev s)) [] with
  |none=>rfl
  |some p=>rfl
def St.put(s:St)(u:List (Nat×V))(q:Option (List ai)):St:={s.upd u with hp:=q.getD s.hp}
theorem amI(hP:dx Γ imp){o:IOp}(M:∀d k x y,o≠.apo d k x y){s:St}{c:Bool}{s':St}(h:step Γ o s=some (c,s')):
  ∃(u:List (Nat×V))(q:Option (List ai)),(∀p∈u,p.1∈o.wr)∧(o.cls imp<=1->q=none)∧s'=s.put u q∧
   ∀t:St,(∀n∈o.rd,t.get n=s.get n)->(1<=o.cls imp->t.hp=s.hp)->step Γ o t=some (c,t.put u q):=by
 have A:∀{x:aw}{l:List Nat}{t:St},(∀n∈l,t.get n=s.get n)->(∀n∈x.slots,n∈l)->x.ev t=x.ev s:=λQ S=>bU λn D=>Q n (S n D)
 by_cases L:o.cls imp<=1;·obtain⟨u,Q,S,h3⟩:=apD hP L h;exact⟨u,none,Q,λ_=>rfl,S,λt a g=>h3 t a (λe=>g (by omega))⟩
 ·have b:∀{q:Option (List ai)},o.cls imp<=1->q=none:=λh=>absurd h L
  cases o with
  |new d zero=>
   obtain⟨rfl,rfl⟩:true=c∧_=s':=by simpa [step] using h
   refine⟨[(d,.ptr s.hp.length 0)],some (s.hp++[some zero]),by simp[IOp.wr,IOp.dst],b,rfl,λt a g=>?_⟩;have e:=g (by simp[IOp.cls]);simp only[step,e];rfl
  |apo d k x y=>exact absurd rfl (M d k x y)
  |apx d k x y=>simp only[step,An] at h;obtain⟨⟨c2,v2,N,Z⟩,hv,h⟩:=h;simp only[Ap] at h;obtain⟨rfl,rfl⟩:=h;refine⟨[(d,v2)],some (s.hp.set N (some [Z])),by simp[IOp.wr,IOp.dst],b,rfl,λt a g=>?_⟩;have e:=g (by simp[IOp.cls]);have j:x.ev t=x.ev s:=A a (by simp+contextual [IOp.rd]);have H:y.ev t=y.ev s:=A a (by simp+contextual [IOp.rd]);simp only[step,j,H,e,hv,Bg,St.setObj];rfl
  |stw d n x v=>
   simp only[step] at h;split at h
   ·rename_i id k i o r;cases C:s.rowW id with
    |none=>rw[C] at h;simp at h
    |some p=>
     obtain⟨k',xs⟩:=p;rw[C] at h;simp only at h;split at h
     ·rename_i w;cases W:wD k' (xs.getD i (am k')) o (v.ev s).cells with
      |none=>rw[W] at h;simp at h
      |some x2=>
       rw[W] at h;simp only[Ah,Ap] at h;obtain⟨rfl,rfl⟩:=h;refine⟨d.toList.map (λd=>(d,V.undef)),some (s.hp.set id (some [.rw k' (xs.set i x2)])),?_,b,?_,?_⟩;·intro p hp;simp only[AE] at hp;obtain⟨m,B,rfl⟩:=hp;simp[IOp.wr,IOp.dst,B]
       ·simp only[St.put,<-cK];cases d<;>rfl
       ·intro t a g;have e:=g (by simp[IOp.cls]);have j:x.ev t=x.ev s:=A a (by simp+contextual [IOp.rd]);have H:v.ev t=v.ev s:=A a (by simp+contextual [IOp.rd]);have E:t.rowW id=some ⟨k',xs⟩:=by rw[<-C];simp only[St.rowW];rw[e]
        simp only[step,j,H,r,E];rw[if_pos w,W,<-e];simp only[St.put,<-cK];cases d<;>rfl
     ·simp at h
   ·simp at h
  |mkm d k=>
   obtain⟨rfl,rfl⟩:true=c∧_=s':=by simpa [step] using h
   refine⟨[(d,.mr s.hp.length)],some (s.hp++[some [.mp k []]]),by simp[IOp.wr,IOp.dst],b,rfl,λt a g=>?_⟩;have e:=g (by simp[IOp.cls]);simp only[step,e];rfl
  |mput d k x y z=>
   simp only[step] at h;split at h
   ·rename_i id r;split at h
    ·rename_i k' es C;split at h
     ·rename_i R;split at h
      ·rename_i key v X hz;simp only[Ah,Ap] at h;obtain⟨rfl,rfl⟩:=h;refine⟨d.toList.map (λd=>(d,V.undef)),some (s.hp.set id (some [.mp k' (cm es key v)])),?_,b,?_,?_⟩;·intro p hp;simp only[AE] at hp;obtain⟨m,B,rfl⟩:=hp;simp[IOp.wr,IOp.dst,B]
       ·simp only[St.put,<-cK];cases d<;>rfl
       ·intro t a g;have e:=g (by simp[IOp.cls]);have j:x.ev t=x.ev s:=A a (by simp+contextual [IOp.rd]);have H:y.ev t=y.ev s:=A a (by simp+contextual [IOp.rd]);have P:z.ev t=z.ev s:=A a (by simp+contextual [IOp.rd]);have E:t.mapO id=s.mapO id:=by simp only[St.mapO];rw[e]
        simp only[step,j,H,P,E,r,C,X,hz];rw[if_pos R,<-e];simp only[St.put,<-cK];cases d<;>rfl
      ·simp at h
     ·simp at h
    ·simp at h
   ·simp at h
  |box d x=>
   have j:∀t:St,(∀n∈(IOp.box d x).rd,t.get n=s.get n)->x.ev t=x.ev s:=λt a=>A a (by simp+contextual [IOp.rd])
   simp only[step] at h;split at h;·rename_i cs r;simp only[Ah,Ap] at h;obtain⟨rfl,rfl⟩:=h;refine⟨[(d,.ptr s.hp.length 0)],some (s.hp++[some cs]),by simp[IOp.wr,IOp.dst],b,rfl,λt a g=>?_⟩;have e:=g (by simp[IOp.cls]);simp only[step,j t a,r,e];rfl
   ·rename_i r;split at h;·rename_i I;simp only[Ah,Ap] at h;obtain⟨rfl,rfl⟩:=h;refine⟨[(d,.ptr s.hp.length 0)],some (s.hp++[some [disown (x.ev s)]]),by simp[IOp.wr,IOp.dst],b,rfl,λt a g=>?_⟩;have e:=g (by simp[IOp.cls]);simp only[step,j t a,e];rw[if_pos I];rfl
    ·simp at h
  |st d n x v=>
   simp only[step] at h;split at h
   ·rename_i id o r;split at h
    ·rename_i cs C;split at h
     ·rename_i w;simp only[Ah,Ap] at h;obtain⟨rfl,rfl⟩:=h;refine⟨v.takes.map (λn=>(n,disown (s.get n)))++d.toList.map (λd=>(d,V.undef)),some (s.hp.set id (some (cs.take o++(v.ev s).cells++cs.drop (o+n)))),?_,b,?_,?_⟩
      ·intro p hp;simp only[Aw,AE] at hp;rcases hp with⟨m,B,rfl⟩|⟨m,B,rfl⟩
       ·simp[IOp.wr,IOp.dst,B]
       ·simp[IOp.wr,IOp.dst,B]
      ·simp only[St.put,<-mj,<-ja,<-cK];cases d<;>cases v<;>rfl
      ·intro t a g;have e:=g (by simp[IOp.cls]);have j:x.ev t=x.ev s:=A a (by simp+contextual [IOp.rd]);have H:v.ev t=v.ev s:=A a (by simp+contextual [IOp.rd]);have E:t.obj id=s.obj id:=by simp only[St.obj];rw[e]
       have P:v.takes.map (λn=>(n,disown (t.get n)))=v.takes.map (λn=>(n,disown (s.get n))):=by
        cases v with
        |tk n=>simp only[aw.takes,List.map];rw[a n (by simp[IOp.rd,aw.slots])]
        |_=>rfl
       simp only[step,j,H,E,r,C];rw[if_pos w,<-P,<-e];simp only[St.put,<-mj,<-ja,<-cK];cases d<;>cases v<;>rfl
     ·simp at h
    ·simp at h
   ·simp at h
  |ld d n agg J x=>
   cases J with
   |false=>simp[IOp.cls] at L
   |true=>
    have j:∀t:St,(∀m∈(IOp.ld d n agg true x).rd,t.get m=s.get m)->x.ev t=x.ev s:=λt a=>A a (by simp+contextual [IOp.rd])
    simp only[step] at h;split at h
    ·rename_i cs r;split at h;·rename_i F;simp only[Ah,Ap] at h;obtain⟨rfl,rfl⟩:=h;refine⟨[(d,_)],none,by simp[IOp.wr,IOp.dst],b,rfl,λt a g=>?_⟩;simp only[step,j t a,r];rw[if_pos F];rfl
     ·simp at h
    ·rename_i id o r;split at h
     ·rename_i cs C;split at h
      ·rename_i F;simp only[if_true] at h;cases G:xj (cs.getD o .undef) with
       |false=>rw[G] at h;simp at h
       |true=>
       rw[G] at h;simp only[if_true,Ah,Ap] at h;obtain⟨rfl,rfl⟩:=h;refine⟨[(d,d6 agg ((cs.drop o).take n))],some (s.hp.set id (some (cs.set o (disown (cs.getD o .undef))))),by simp[IOp.wr,IOp.dst],b,rfl,λt a g=>?_⟩;have e:=g (by simp[IOp.cls]);have E:t.obj id=s.obj id:=by simp only[St.obj];rw[e]
       simp only[step,j t a,r,E,C];rw[if_pos F,G,<-e];rfl
      ·simp at h
     ·simp at h
    ·simp at h
  |call d f avs=>
   have j:∀t:St,(∀n∈(IOp.call d f avs).rd,t.get n=s.get n)->(avs.map λx=>disown (x.ev t))=avs.map λx=>disown (x.ev s):=λt a=>A0 λx r=>by rw[A (x:=x) a (λn D=>by simp only[IOp.rd,AG];exact⟨x,r,D⟩)]
   simp only[step] at h;split at h
   ·rename_i Y v hp' O;simp only[Ah,Ap] at h;obtain⟨rfl,rfl⟩:=h;refine⟨d.toList.map (λd=>(d,v)),some hp',?_,b,?_,λt a g=>?_⟩;·intro p hp;simp only[AE] at hp;obtain⟨m,B,rfl⟩:=hp;simp[IOp.wr,IOp.dst,B]
    ·simp only[St.put,<-cK];cases d<;>rfl
    ·have e:=g (by omega);simp only[step,j t a,e,O];simp only[St.put,<-cK];cases d<;>rfl
   ·simp at h
  |dcall d f x avs=>
   have ex:∀t:St,(∀n∈(IOp.dcall d f x avs).rd,t.get n=s.get n)->x.ev t=x.ev s:=λt a=>A (x:=x) a (λn D=>by simp only[IOp.rd,Aw];exact .inl D)
   have j:∀t:St,(∀n∈(IOp.dcall d f x avs).rd,t.get n=s.get n)->(avs.map λx=>disown (x.ev t))=avs.map λx=>disown (x.ev s):=λt a=>A0 λy X=>by rw[A (x:=y) a (λn D=>by simp only[IOp.rd,Aw,AG];exact .inr ⟨y,X,D⟩)]
   simp only[step] at h;split at h
   ·rename_i f' lc r;split at h
    ·rename_i Y v hp' O;simp only[Ah,Ap] at h;obtain⟨rfl,rfl⟩:=h;refine⟨d.toList.map (λd=>(d,v)),some hp',?_,b,?_,λt a g=>?_⟩;·intro p hp;simp only[AE] at hp;obtain⟨m,B,rfl⟩:=hp;simp[IOp.wr,IOp.dst,B]
     ·simp only[St.put,<-cK];cases d<;>rfl
     ·have e:=g (by omega);simp only[step,j t a,ex t a,r,e,O];simp only[St.put,<-cK];cases d<;>rfl
    ·simp at h
   ·simp at h
  |_=>simp[IOp.cls] at L
theorem abi(s:St)(u:List (Nat×V)):(s.upd u).env.length=s.env.length:=by
 have:∀(u:List (Nat×V))(e:List V),(u.foldl (λe p=>e.set p.1 p.2) e).length=e.length:=by
  intro u;induction u with
  |nil=>intro e;rfl
  |cons p u a=>intro e;rw[CP,a,AF]
 exact this u s.env
theorem aoc(J:dx Γ imp){o:IOp}{s:St}{c:Bool}{s':St}(h:step Γ o s=some (c,s')):
  ∃(u:List (Nat×V))(q:Option (List ai)),(∀p∈u,p.1∈o.wr)∧(o.cls imp<=1->q=none)∧s'=s.put u q∧
   ∀t:St,(∀n∈o.rd,t.get n=s.get n)->(1<=o.cls imp->t.hp=s.hp∧t.env.length=s.env.length)->step Γ o t=some (c,t.put u q):=by
 by_cases v:∃d k x y,o=.apo d k x y
 ·obtain⟨d,k,x,y,rfl⟩:=v;have i:∀{t:St},(∀f∈(IOp.apo d k x y).rd,t.get f=s.get f)->x.ev t=x.ev s:=λa=>bU λn b=>a n (by simp[IOp.rd,b])
  have g:∀{t:St},(∀f∈(IOp.apo d k x y).rd,t.get f=s.get f)->y.ev t=y.ev s:=λa=>bU λn b=>a n (by simp[IOp.rd,b])
  simp only[step] at h;split at h
  ·rename_i w l M O A I L;split at h
   ·rename_i C;split at h
    ·rename_i j;split at h
     ·rename_i P;simp only[Ah,Ap] at h;obtain⟨rfl,rfl⟩:=h;refine⟨(x.takes.map λn=>(n,disown (s.get n)))++[(d,.sw w s.hp.length (l++(j▸A)).length)],some (s.hp++[some [.rw w (l++(j▸A))],none]),?_,λB=>by simp[IOp.cls] at B,?_,λt a r=>?_⟩
      ·intro p hp;simp only[Aw,AE,Az] at hp;rcases hp with⟨n,b,rfl⟩|rfl;·simp[IOp.wr,IOp.dst,b]
       ·simp[IOp.wr,IOp.dst]
      ·rw[ja];simp[St.put,St.upd,St.set]
      ·obtain⟨e,N⟩:=r (by simp[IOp.cls]);have m:d<t.env.length:=by omega
       simp only[step,i a,g a,I,L,dif_pos j,if_pos C,if_pos m,e];have G:(x.takes.map λn=>(n,disown (t.get n)))=x.takes.map λn=>(n,disown (s.get n)):=A0 λn b=>by rw[a n (by cases x<;>simp[aw.takes] at b<;>subst b<;>simp[IOp.rd,aw.slots])]
       rw[ja,G];simp[St.put,St.upd,St.set]
     ·cases h
    ·cases h
   ·cases h
  ·cases h
 ·obtain⟨u,q,D,F,E,H⟩:=amI J (λd k x y e=>v ⟨d,k,x,y,e⟩) h;exact⟨u,q,D,F,E,λt a r=>H t a (λe=>(r e).1)⟩
def dg(Γ:av)(x:GOp)(s:St):Option St:=
 match x.g with
 |none=>match jf Γ x.ob x.o s with|some (c,s')=>chk c (some s')|none=>none
 |some (g,w)=>match s.get g with
  | .bool b=>match b==w with
    |true=>match jf Γ x.ob x.o s with|some (c,s')=>chk c (some s')|none=>none
    |false=>some (s.setO x.o.dst (.tup []))
  | .tup []=>some (s.setO x.o.dst (.tup []))
  |_=>none
theorem asY(s:St)(n:Nat){v:V}(h:s.get n=v):s.set n v=s:=by
 subst h;simp only[St.set,St.get,Ak]
 congr 1
 apply C3;intro m;rw[AB];split
 ·rename_i e;subst e;split;·rename_i a;simp[Ab a]
  ·rename_i a;simp[AZ (C9 a)]
 ·rfl
theorem nA{R:Type}(x:GOp)(l:List GOp)(K:St->Option R)(s:St):cq Γ (x::l) K s=(dg Γ x s).bind (cq Γ l K):=by
 obtain⟨g,o,f⟩:=x;have h:∀s,(match jf Γ f o s with|some (c,s')=>chk c (cq Γ l K s')|none=>none)=(match jf Γ f o s with|some (c,s')=>chk c (some s')|none=>none).bind (cq Γ l K):=by
  intro s;split;·rename_i c s' _;cases c<;>rfl
  ·rfl
 cases g with
 |none=>simp only[cq,dg];exact h s
 |some g=>
  obtain⟨g,w⟩:=g;simp only[cq,dg];split;·rename_i b a;rw[a];cases b<;>cases w<;>simp only[cond_true,cond_false,asY s g a]<;>first|exact h s|rfl
  ·rename_i a;rw[a];rfl
  ·rename_i e d;split;·rename_i b a;exact absurd a (e b)
   ·rename_i a;exact absurd a d
   ·rfl
theorem aqT{o:IOp}{s t:St}(h:∀n∈o.rd,t.get n=s.get n):o.foot t=o.foot s:=by
 cases o with
 |ld d n agg b x=>simp only[IOp.foot];rw[bU (x:=x) h]
 |st d n x v=>simp only[IOp.foot];rw[bU (x:=x) λn a=>h n (by simp[IOp.rd,a])]
 |call d f avs=>
  have e:avs.map (λx=>disown (x.ev t))=avs.map (λx=>disown (x.ev s)):=A0 λx c=>by rw[bU λn a=>h n (by simp only[IOp.rd,AG];exact⟨x,c,a⟩)]
  simp only[IOp.foot,e]
 |ldw d n agg x=>simp only[IOp.foot];rw[bU (x:=x) h]
 |stw d n x v=>simp only[IOp.foot];rw[bU (x:=x) λn a=>h n (by simp[IOp.rd,a])]
 |apx d k x y=>simp only[IOp.foot];rw[bU (x:=x) λn a=>h n (by simp[IOp.rd,a])]
 |_=>rfl
theorem qW{a:Option (List Nat×List Nat)}{o:IOp}{s t:St}{p q:Bool×St}(h:jf Γ a o s=some p)(c:∀n∈o.rd,t.get n=s.get n)(b:step Γ o t=some q):jf Γ a o t=some q:=by
 cases a with
 |none=>exact b
 |some l=>
  simp only[jf] at h ⊢;have e:o.within l t=o.within l s:=by simp only[IOp.within,aqT c]
  rw[e];cases d:o.within l s with
  |true=>exact b
  |false=>rw[d] at h;simp at h
def GOp.rd(x:GOp):List Nat:=(match x.g with|some (g,_)=>[g]|none=>[])++x.o.rd
theorem aeU(G:dx Γ imp){x:GOp}{s s':St}(h:dg Γ x s=some s'):
  ∃(u:List (Nat×V))(q:Option (List ai)),(∀p∈u,p.1∈x.o.wr)∧(x.o.cls imp<=1->q=none)∧s'=s.put u q∧
   ∀t:St,(∀n∈x.rd,t.get n=s.get n)->(1<=x.o.cls imp->t.hp=s.hp∧t.env.length=s.env.length)->dg Γ x t=some (t.put u q):=by
 obtain⟨g,o,E⟩:=x
 have F:(match jf Γ E o s with|some (c,s')=>chk c (some s')|none=>none)=some s'->∃(u:List (Nat×V))(q:Option (List ai)),(∀p∈u,p.1∈o.wr)∧(o.cls imp<=1->q=none)∧s'=s.put u q∧
   ∀t:St,(∀n∈o.rd,t.get n=s.get n)->(1<=o.cls imp->t.hp=s.hp∧t.env.length=s.env.length)->(match jf Γ E o t with|some (c,s')=>chk c (some s')|none=>none)=some (t.put u q):=by
  intro h;split at h
  ·rename_i c A y;cases c with
   |false=>simp[chk] at h
   |true=>
    obtain rfl:A=s':=by simpa [chk] using h
    obtain⟨u,q,j,r,v,k⟩:=aoc G (mt y);exact⟨u,q,j,r,v,λt a i=>by rw[qW y a (k t a i)];rfl⟩
  ·simp at h
 cases g with
 |none=>obtain⟨u,q,j,r,v,k⟩:=F h;exact⟨u,q,j,r,v,λt a i=>k t (λn C=>a n (by simp[GOp.rd,C])) i⟩
 |some g=>
  obtain⟨g,w⟩:=g;simp only[dg] at h;split at h
  ·rename_i b B;split at h;·rename_i f;obtain⟨u,q,j,r,v,k⟩:=F h;refine⟨u,q,j,r,v,λt a i=>?_⟩;have e:=a g (by simp[GOp.rd]);simp only[dg,e,B,f];exact k t (λn C=>a n (by simp[GOp.rd,C])) i
   ·rename_i f;obtain rfl:_=s':=by simpa using h
    refine⟨o.dst.toList.map (λd=>(d,V.tup [])),none,?_,λ_=>rfl,by rw[cK];rfl,λt a i=>?_⟩;·intro p hp;simp only[AE] at hp;obtain⟨m,D,rfl⟩:=hp;simp[IOp.wr,D]
    ·have e:=a g (by simp[GOp.rd]);simp only[dg,e,B,f];rw[cK];rfl
  ·rename_i B;obtain rfl:_=s':=by simpa using h
   refine⟨o.dst.toList.map (λd=>(d,V.tup [])),none,?_,λ_=>rfl,by rw[cK];rfl,λt a i=>?_⟩;·intro p hp;simp only[AE] at hp;obtain⟨m,D,rfl⟩:=hp;simp[IOp.wr,D]
   ·have e:=a g (by simp[GOp.rd]);simp only[dg,e,B];rw[cK];rfl
  ·simp at h
def ahJ(a b:List Nat):Bool:=a.all λn=> !b.contains n
def IOp.obable(imp:List Nat):IOp->Bool
 | .ld .. | .st .. | .ldw .. | .stw .. | .apx ..=>true
 | .call _ f _=>imp.contains (f+2000000)
 |_=>false
def apart(imp:List Nat)(x y:GOp):Bool:=(x.o.obable imp&&y.o.obable imp)&&(match x.ob,y.ob with
 |some (r,w),some (a,w')=>ahJ w a&&(ahJ w w'&&ahJ w' r)
 |_,_=>false)
def aqU(x y:GOp):Bool:=match x.g,y.g,x.o,y.o with
 |none,none,.ld _ _ _ true _,.ld _ _ _ false _=>true
 |none,none,.ld _ _ _ false _,.ld _ _ _ true _=>true
 |_,_,_,_=>false
def acC(imp:List Nat)(x y:GOp):Bool:=
 ahJ x.o.wr y.rd&&(ahJ y.o.wr x.rd&&(ahJ x.o.wr y.o.wr&&(((BV (x.o.cls imp) 1||As (y.o.cls imp) 0)&&(BV (y.o.cls imp) 1||As (x.o.cls imp) 0))||(apart imp x y||aqU x y))))
def St.putH(s:St)(u:List (Nat×V))(q:List (Nat×ai)):St:={s.upd u with hp:=aeT s.hp q}
theorem ahK{s t:St}{i:Nat}(h:t.hp[i]? =s.hp[i]?):t.obj i=s.obj i:=by unfold St.obj;rw[zU h]
theorem aeV{s t:St}{i:Nat}(h:t.hp[i]? =s.hp[i]?):t.rowW i=s.rowW i:=by unfold St.rowW;rw[zU h]
theorem aqV(Z:dx Γ imp){o:IOp}(I:o.obable imp=true){s:St}{c:Bool}{s':St}{r w:List Nat}(A:o.foot s=some (r,w))(h:step Γ o s=some (c,s')):
  ∃(u:List (Nat×V))(q:List (Nat×ai)),(∀p∈u,p.1∈o.wr)∧(∀p∈q,p.1∈w)∧s'=s.putH u q∧
   ∀t:St,(∀n∈o.rd,t.get n=s.get n)->t.hp.length=s.hp.length->(∀i,i∈r∨i∈w->t.hp[i]? =s.hp[i]?)->step Γ o t=some (c,t.putH u q):=by
 cases o with
 |ld d n agg G x=>
  have E:∀t:St,(∀n∈(IOp.ld d n agg G x).rd,t.get n=s.get n)->x.ev t=x.ev s:=λt a=>bU a
  cases g:x.ev s with
  |ea cs=>
   simp only[step,g] at h;split at h;·rename_i j;simp only[Ah,Ap] at h;obtain⟨rfl,rfl⟩:=h;refine⟨[(d,disown (d6 agg (cs.take n)))],[],by simp[IOp.wr,IOp.dst],by simp,rfl,λt a _ _=>?_⟩;simp only[step,E t a,g,if_pos j];rfl
   ·simp at h
  |ptr id o=>
   simp only[IOp.foot,g,Ah] at A;simp only[step,g] at h;cases b:s.obj id with
   |none=>rw[b] at h;simp at h
   |some cs=>
    rw[b] at h;simp only at h;split at h
    ·rename_i j;cases G with
     |false=>simp only[cond_false,Ap] at A;obtain⟨rfl,rfl⟩:=A;simp only[B3,if_false,Ah,Ap] at h;obtain⟨rfl,rfl⟩:=h;refine⟨[(d,disown (d6 agg ((cs.drop o).take n)))],[],by simp[IOp.wr,IOp.dst],by simp,rfl,λt a _ B=>?_⟩;have e:=ahK (B id (.inl (by simp)));simp only[step,E t a,g,e,b,if_pos j];rfl
     |true=>
      simp only[cond_true,Ap] at A;obtain⟨rfl,rfl⟩:=A;simp only[if_true] at h;split at h;·rename_i S;simp only[Ah,Ap] at h;obtain⟨rfl,rfl⟩:=h;refine⟨[(d,d6 agg ((cs.drop o).take n))],[(id,some (cs.set o (disown (cs.getD o .undef))))],by simp[IOp.wr,IOp.dst],by simp,rfl,λt a _ B=>?_⟩;have e:=ahK (B id (.inr (by simp)));simp only[step,E t a,g,e,b,if_pos j,if_true,if_pos S];rfl
      ·simp at h
    ·simp at h
  |_=>simp[IOp.foot,g] at A
 |st d n x v=>
  have E:∀t:St,(∀n∈(IOp.st d n x v).rd,t.get n=s.get n)->x.ev t=x.ev s:=λt a=>bU λn j=>a n (by simp[IOp.rd,j])
  have ev:∀t:St,(∀n∈(IOp.st d n x v).rd,t.get n=s.get n)->v.ev t=v.ev s:=λt a=>bU λn j=>a n (by simp[IOp.rd,j])
  have ea:∀t:St,(∀n∈(IOp.st d n x v).rd,t.get n=s.get n)->v.takes.map (λn=>(n,disown (t.get n)))=v.takes.map (λn=>(n,disown (s.get n))):=by
   intro t a;cases v with
   |tk m=>simp only[aw.takes,List.map];rw[a m (by simp[IOp.rd,aw.slots])]
   |_=>rfl
  cases g:x.ev s with
  |ptr id o=>
   simp only[IOp.foot,g,Ah,Ap] at A;obtain⟨rfl,rfl⟩:=A;simp only[step,g] at h;cases b:s.obj id with
   |none=>rw[b] at h;simp at h
   |some cs=>
    rw[b] at h;simp only at h;split at h
    ·rename_i j;simp only[Ah,Ap] at h;obtain⟨rfl,rfl⟩:=h;refine⟨v.takes.map (λn=>(n,disown (s.get n)))++d.toList.map (λd=>(d,V.undef)),[(id,some (cs.take o++(v.ev s).cells++cs.drop (o+n)))],?_,by simp,?_,λt a _ B=>?_⟩
     ·intro p hp;simp only[Aw,AE] at hp;rcases hp with⟨m,F,rfl⟩|⟨m,F,rfl⟩
      ·simp[IOp.wr,IOp.dst,F]
      ·simp only[DG] at F;simp[IOp.wr,IOp.dst,F]
     ·rw[ja,cK];simp only[St.putH,<-mj];rfl
     ·have e:=ahK (B id (.inr (by simp)));simp only[step,E t a,ev t a,g,e,b,if_pos j];rw[ja,cK,ea t a];simp only[St.putH,<-mj];rfl
    ·simp at h
  |_=>simp[IOp.foot,g] at A
 |call d f avs=>
  have e:∀t:St,(∀n∈(IOp.call d f avs).rd,t.get n=s.get n)->avs.map (λx=>disown (x.ev t))=avs.map (λx=>disown (x.ev s)):=λt a=>A0 λx g=>by rw[bU λn j=>a n (by simp only[IOp.rd,AG];exact⟨x,g,j⟩)]
  simp only[IOp.foot,Ah,Ap] at A;obtain⟨rfl,rfl⟩:=A;simp only[step] at h;split at h
  ·rename_i c' Y hp' O;simp only[Ah,Ap] at h;obtain⟨rfl,rfl⟩:=h;obtain⟨q,Q,rfl,X⟩:=Z.loc f _ _ _ _ _ I O;refine⟨d.toList.map (λd=>(d,Y)),q,?_,Q,?_,λt a hl B=>?_⟩;·intro p hp;simp only[AE,DG] at hp;obtain⟨m,F,rfl⟩:=hp;simp[IOp.wr,IOp.dst,F]
   ·rw[cK];rfl
   ·have:=X t.hp hl (λi N=>B i (.inl N));simp only[step,e t a,this];rw[cK];rfl
  ·simp at h
 |ldw d n agg x=>
  have E:∀t:St,(∀n∈(IOp.ldw d n agg x).rd,t.get n=s.get n)->x.ev t=x.ev s:=λt a=>bU a
  cases g:x.ev s with
  |wp id k i o=>
   simp only[IOp.foot,g,Ah,Ap] at A;obtain⟨rfl,rfl⟩:=A;simp only[step,g] at h;cases b:s.rowW id with
   |none=>rw[b] at h;simp at h
   |some p=>
    obtain⟨k',xs⟩:=p;rw[b] at h;simp only at h;split at h;·rename_i j;simp only[Ah,Ap] at h;obtain⟨rfl,rfl⟩:=h;refine⟨[(d,disown (d6 agg (((enc k' (xs.getD i (am k'))).drop o).take n)))],[],by simp[IOp.wr,IOp.dst],by simp,rfl,λt a _ B=>?_⟩;have e:=aeV (B id (.inl (by simp)));simp only[step,E t a,g,e,b,if_pos j];rfl
    ·simp at h
  |_=>simp[IOp.foot,g] at A
 |stw d n x v=>
  have E:∀t:St,(∀n∈(IOp.stw d n x v).rd,t.get n=s.get n)->x.ev t=x.ev s:=λt a=>bU λn j=>a n (by simp[IOp.rd,j])
  have ev:∀t:St,(∀n∈(IOp.stw d n x v).rd,t.get n=s.get n)->v.ev t=v.ev s:=λt a=>bU λn j=>a n (by simp[IOp.rd,j])
  cases g:x.ev s with
  |wp id k i o=>
   simp only[IOp.foot,g,Ah,Ap] at A;obtain⟨rfl,rfl⟩:=A;simp only[step,g] at h;cases b:s.rowW id with
   |none=>rw[b] at h;simp at h
   |some p=>
    obtain⟨k',xs⟩:=p;rw[b] at h;simp only at h;split at h
    ·rename_i j;cases H:wD k' (xs.getD i (am k')) o (v.ev s).cells with
     |none=>rw[H] at h;simp at h
     |some R=>
      rw[H] at h;simp only[Ah,Ap] at h;obtain⟨rfl,rfl⟩:=h;refine⟨d.toList.map (λd=>(d,V.undef)),[(id,some [.rw k' (xs.set i R)])],?_,by simp,?_,λt a _ B=>?_⟩;·intro p hp;simp only[AE,DG] at hp;obtain⟨m,F,rfl⟩:=hp;simp[IOp.wr,IOp.dst,F]
      ·rw[cK];rfl
      ·have e:=aeV (B id (.inr (by simp)));simp only[step,E t a,ev t a,g,e,b,if_pos j,H];rw[cK];rfl
    ·simp at h
  |_=>simp[IOp.foot,g] at A
 |apx d k x y=>
  have E:∀t:St,(∀n∈(IOp.apx d k x y).rd,t.get n=s.get n)->x.ev t=x.ev s:=λt a=>bU λn j=>a n (by simp[IOp.rd,j])
  have W:∀t:St,(∀n∈(IOp.apx d k x y).rd,t.get n=s.get n)->y.ev t=y.ev s:=λt a=>bU λn j=>a n (by simp[IOp.rd,j])
  cases g:x.ev s with
  |sw k1 id n=>
   simp only[IOp.foot,g,Ah,Ap] at A;obtain⟨rfl,rfl⟩:=A;simp only[step,An] at h;obtain⟨⟨c2,M,C,J⟩,D,h⟩:=h;simp only[Ap] at h;obtain⟨rfl,rfl⟩:=h;have hid:C=id:=by
    rw[g] at D;unfold aj2 at D;split at D
    ·rename_i L e2;cases L;split at D
     ·split at D;·simp only[Ah,Ap] at D;exact D.2.2.1.symm
      ·simp at D
     ·simp at D
    ·simp at D
   subst hid;refine⟨[(d,M)],[(C,some [J])],by simp[IOp.wr,IOp.dst],by simp,rfl,λt a _ B=>?_⟩;have e:aj2 t.hp k (x.ev t) (y.ev t)=aj2 s.hp k (x.ev s) (y.ev s):=by rw[E t a,W t a,g];unfold aj2;have P:St.rowW ⟨[],t.hp⟩ C=St.rowW ⟨[],s.hp⟩ C:=aeV (s:=⟨[],s.hp⟩) (t:=⟨[],t.hp⟩) (B C (.inr (by simp)));cases y.ev s<;>first|rfl|simp only[P]
   simp only[step,e,D,Bg];rfl
  |_=>simp[IOp.foot,g] at A
 |_=>simp[IOp.obable] at I
theorem aod{o:IOp}{R W:List Nat}{s:St}(h:o.within (R,W) s=true):∃r w,o.foot s=some (r,w)∧(∀i∈r,i∈R∨i∈W)∧∀i∈w,i∈W:=by
 unfold IOp.within at h;split at h
 ·rename_i r w c;simp only[Ac,Al,Ba,Cg] at h;refine⟨r,w,c,?_,?_⟩
  ·intro i b;rcases h.1 i b with⟨j,a,e⟩|⟨j,a,e⟩
   ·left;rw[Ax e];exact a
   ·right;rw[Ax e];exact a
  ·intro i b;obtain⟨j,a,e⟩:=h.2 i b;rw[Ax e];exact a
 ·simp at h
theorem aiH(Y:dx Γ imp){x:GOp}{R W:List Nat}(O:x.o.obable imp=true)(M:x.ob=some (R,W)){s s':St}(h:dg Γ x s=some s'):
  ∃(u:List (Nat×V))(q:List (Nat×ai)),(∀p∈u,p.1∈x.o.wr)∧(∀p∈q,p.1∈W)∧s'=s.putH u q∧
   ∀t:St,(∀n∈x.rd,t.get n=s.get n)->t.hp.length=s.hp.length->(∀i,i∈R∨i∈W->t.hp[i]? =s.hp[i]?)->dg Γ x t=some (t.putH u q):=by
 obtain⟨g,o,S⟩:=x;obtain rfl:S=some (R,W):=M
 have N:(match jf Γ (some (R,W)) o s with|some (c,s')=>chk c (some s')|none=>none)=some s'->∃(u:List (Nat×V))(q:List (Nat×ai)),(∀p∈u,p.1∈o.wr)∧(∀p∈q,p.1∈W)∧s'=s.putH u q∧
   ∀t:St,(∀n∈o.rd,t.get n=s.get n)->t.hp.length=s.hp.length->(∀i,i∈R∨i∈W->t.hp[i]? =s.hp[i]?)->(match jf Γ (some (R,W)) o t with|some (c,s')=>chk c (some s')|none=>none)=some (t.putH u q):=by
  intro h;split at h
  ·rename_i c B v;cases c with
   |false=>simp[chk] at h
   |true=>
    obtain rfl:B=s':=by simpa [chk] using h
    have L:o.within (R,W) s=true:=by
     cases L:o.within (R,W) s with
     |true=>rfl
     |false=>simp[jf,L] at v
    obtain⟨r,w,X,P,C⟩:=aod L;obtain⟨u,q,D,G,E,H⟩:=aqV Y O X (mt v);exact⟨u,q,D,λp hp=>C _ (G p hp),E,λt a F y=>by rw[qW v a (H t a F (λi A=>A.elim (λA=>y i (P i A)) (λA=>y i (.inr (C i A)))))];rfl⟩
  ·simp at h
 have f:∀s:St,s.setO o.dst (.tup [])=s.putH (o.dst.toList.map λd=>(d,V.tup [])) []:=λs=>by rw[cK];rfl
 have j:∀p∈o.dst.toList.map λd=>(d,V.tup []),p.1∈o.wr:=by intro p hp;simp only[AE] at hp;obtain⟨m,Q,rfl⟩:=hp;simp[IOp.wr,Q]
 cases g with
 |none=>obtain⟨u,q,D,G,E,H⟩:=N h;exact⟨u,q,D,G,E,λt a=>H t (λn J=>a n (by simp[GOp.rd,J]))⟩
 |some g=>
  obtain⟨g,w⟩:=g;simp only[dg] at h;split at h
  ·rename_i b I;split at h;·rename_i k;obtain⟨u,q,D,G,E,H⟩:=N h;refine⟨u,q,D,G,E,λt a F y=>?_⟩;have e:=a g (by simp[GOp.rd]);simp only[dg,e,I,k];exact H t (λn J=>a n (by simp[GOp.rd,J])) F y
   ·rename_i k;obtain rfl:_=s':=by simpa using h
    refine⟨_,[],j,by simp,f s,λt a F y=>?_⟩;have e:=a g (by simp[GOp.rd]);simp only[dg,e,I,k];rw[f]
  ·rename_i I;obtain rfl:_=s':=by simpa using h
   refine⟨_,[],j,by simp,f s,λt a F y=>?_⟩;have e:=a g (by simp[GOp.rd]);simp only[dg,e,I];rw[f]
  ·simp at h
theorem tc{a b:List Nat}(h:ahJ a b=true):∀n∈a,n ∉ b:=by intro n c;have:=Al.1 h n c;simpa using this
theorem aj7{α:Type}(u:List (Nat×α)):∀(e:List α)(n:Nat)(v:α),(∀p∈u,p.1≠n)->u.foldl (λe p=>e.set p.1 p.2) (e.set n v)=(u.foldl (λe p=>e.set p.1 p.2) e).set n v:=by
 induction u with
 |nil=>intro e n v _;rfl
 |cons p u b=>intro e n v h;simp only[CP];rw[DD _ _ (Ne.symm (h p (AU ..))),b _ _ _ (λq a=>h q (AT _ a))]
theorem sT{α:Type}(v:List (Nat×α)):∀(u:List (Nat×α))(e:List α),(∀p∈u,∀q∈v,p.1≠q.1)->
  v.foldl (λe p=>e.set p.1 p.2) (u.foldl (λe p=>e.set p.1 p.2) e)=u.foldl (λe p=>e.set p.1 p.2) (v.foldl (λe p=>e.set p.1 p.2) e):=by
 induction v with
 |nil=>intro u e _;rfl
 |cons q v b=>intro u e h;simp only[CP];rw[<-aj7 u e q.1 q.2 (λp hp=>h p hp q (AU ..)),b u _ (λp hp r a=>h p hp r (AT _ a))]
theorem asZ{s:St}{id:Nat}{cs:List V}(h:s.obj id=some cs)(i:Nat):(s.setObj id (cs.set i (disown (cs.getD i .undef)))).obj id=some (cs.set i (disown (cs.getD i .undef))):=by
 have a:id<s.hp.length:=by
  rcases AI id s.hp.length with a|a;·exact a
  ·unfold St.obj at h;rw[Af,AZ a] at h;simp at h
 have u:s.hp.getD id none=some cs∧(∀xs,cs≠[.rb xs])∧(∀k xs,cs≠[.rw k xs])∧(∀k xs,cs≠[.mp k xs])∧(∀xs,cs≠[.tup xs]):=by
  unfold St.obj at h;split at h;·simp at h
  ·simp at h
  ·simp at h
  ·simp at h
  ·rename_i p m v q;refine⟨h,λxs e=>?_,λk xs e=>?_,λk xs e=>?_,λxs e=>?_⟩;·subst e;exact p _ h
   ·subst e;exact m _ _ h
   ·subst e;exact v _ _ h
   ·subst e;exact q _ h
 obtain⟨w,j,d,b,g⟩:=u;have t:(s.setObj id (cs.set i (disown (cs.getD i .undef)))).hp.getD id none=some (cs.set i (disown (cs.getD i .undef))):=by simp[St.setObj,Af,a]
 unfold St.obj;rw[t];match cs,i with
 | [],i=>rfl
 | [c],0=>
   simp only[Cm,CT];cases c with
   |rb xs=>exact absurd rfl (j xs)
   |rw k xs=>exact absurd rfl (d k xs)
   |mp k xs=>exact absurd rfl (b k xs)
   |tup xs=>exact absurd rfl (g xs)
   |sl k o xs=>cases o<;>rfl
   |_=>rfl
 | [c],i+1=>
   simp only[Cq,List.set_nil];cases c with
   |rb xs=>exact absurd rfl (j xs)
   |rw k xs=>exact absurd rfl (d k xs)
   |mp k xs=>exact absurd rfl (b k xs)
   |tup xs=>exact absurd rfl (g xs)
   |_=>rfl
 |c::f::r,0=>simp only[CT];split<;>first|rfl|(rename_i e;simp at e)
 |c::f::r,1=>simp only[Cq,CT]
 |c::f::r,i+2=>simp only[Cq]
theorem aj8(cs:List V)(i:Nat):(cs.set i (disown (cs.getD i .undef))).map disown=cs.map disown:=by
 rw[List.map_set,alO];apply C3;intro m;rw[AB];by_cases h:i=m
 ·subst h;simp only[if_true,Bt];split;·rename_i a;simp[Af,Ab a]
  ·rename_i a;simp[AZ (C9 a)]
 ·simp[h]
theorem adG(agg:Bool)(cs:List V):disown (d6 agg cs)=if agg then .agg (cs.map disown) else (cs.map disown).headD .undef:=by
 cases agg with
 |true=>rfl
 |false=>cases cs<;>rfl
theorem apE(agg:Bool)(cs:List V)(i o n:Nat):disown (d6 agg (((cs.set i (disown (cs.getD i .undef))).drop o).take n))=disown (d6 agg ((cs.drop o).take n)):=by rw[adG,adG,Dz,DB,aj8,Dz,DB]
def rdV(p:V)(s:St)(n:Nat)(a:Bool):Option V:=match p with
 | .ea cs=>if n<=cs.length then some (disown (d6 a (cs.take n))) else none
 | .ptr id o=>match s.obj id with
   |some cs=>if o+n<=cs.length then some (disown (d6 a ((cs.drop o).take n))) else none
   |none=>none
 |_=>none
theorem aiI(d n:Nat)(a:Bool)(x:aw)(s:St):step Γ (.ld d n a false x) s=(rdV (x.ev s) s n a).map λv=>(true,s.set d v):=by
 cases b:x.ev s with
 |ea cs=>simp only[step,rdV,b];split<;>rfl
 |ptr id o=>
  simp only[step,rdV,b];cases s.obj id with
  |none=>rfl
  |some cs=>simp only[B3,if_false];split<;>rfl
 |_=>simp only[step,rdV,b];rfl
def tkV(p:V)(s:St)(n:Nat)(a:Bool):Option (V×Option (Nat×List V)):=match p with
 | .ea cs=>if n<=cs.length then some (disown (d6 a (cs.take n)),none) else none
 | .ptr id o=>match s.obj id with
   |some cs=>if o+n<=cs.length then (if xj (cs.getD o .undef) then some (d6 a ((cs.drop o).take n),some (id,cs.set o (disown (cs.getD o .undef)))) else none) else none
   |none=>none
 |_=>none
def St.turn(s:St):Option (Nat×List V)->St
 |none=>s
 |some (id,cs)=>s.setObj id cs
theorem aiJ(d n:Nat)(a:Bool)(x:aw)(s:St):step Γ (.ld d n a true x) s=(tkV (x.ev s) s n a).map λq=>(true,(s.turn q.2).set d q.1):=by
 cases b:x.ev s with
 |ea cs=>simp only[step,tkV,b];split<;>rfl
 |ptr id o=>
  simp only[step,tkV,b];cases s.obj id with
  |none=>rfl
  |some cs=>
   simp only[if_true];split;·split<;>rfl
   ·rfl
 |_=>simp only[step,tkV,b];rfl
theorem aqW{s:St}{id a:Nat}{cs:List V}(h:id≠a):(s.setObj id cs).obj a=s.obj a:=by unfold St.obj St.setObj;simp[Af,AB,h]
theorem amJ{p f:V}{s:St}{n g:Nat}{a i:Bool}{q:V×Option (Nat×List V)}(h:tkV p s n a=some q)(d:Nat)(v:V):rdV f ((s.turn q.2).set d v) g i=rdV f s g i:=by
 unfold tkV at h;split at h
 ·split at h;·cases h;rfl
  ·cases h
 ·rename_i id o;split at h
  ·rename_i cs c;split at h
   ·split at h
    ·cases h;have e:∀b,((s.turn (some (id,cs.set o (disown (cs.getD o .undef))))).set d v).obj b=(s.setObj id (cs.set o (disown (cs.getD o .undef)))).obj b:=λ_=>rfl
     cases f with
     |ptr b j=>
      simp only[rdV,e];by_cases hid:id=b;·subst hid;rw[asZ c,c];simp only[AF,apE]
      ·rw[aqW hid]
     |_=>rfl
    ·cases h
   ·cases h
  ·cases h
 ·cases h
theorem aoW(p:V)(s:St)(n:Nat)(a:Bool)(d:Nat)(v:V):tkV p (s.set d v) n a=tkV p s n a:=rfl
theorem amK(s:St)(q:Option (Nat×List V))(d:Nat)(v:V):(s.set d v).turn q=(s.turn q).set d v:=by cases q<;>rfl
theorem amL(s:St){d a:Nat}(v b:V)(h:d≠a):(s.set d v).set a b=(s.set a b).set d v:=by simp only[St.set];rw[DD _ _ h]
theorem amM(s:St)(q:Option (Nat×List V))(n:Nat):(s.turn q).get n=s.get n:=by cases q<;>rfl
theorem apF{o:IOp}{a:Option (List Nat×List Nat)}{s s':St}:dg Γ ⟨none,o,a⟩ s=some s'↔jf Γ a o s=some (true,s'):=by
 simp only[dg];cases jf Γ a o s with
 |none=>simp
 |some p=>obtain⟨c,t⟩:=p;cases c<;>simp[chk]
theorem yg(s:St){d n:Nat}(v:V)(h:d≠n):(s.set d v).get n=s.get n:=by simp[St.get,St.set,Ak,AB,h]
theorem asK{C E:Option (List Nat×List Nat)}{d n f i:Nat}{a y:Bool}{x g:aw}(H:d≠f)(o:∀m∈x.slots,m≠f)(w:∀m∈g.slots,m≠d){s B D:St}:
  (dg Γ ⟨none,.ld d n a true x,E⟩ s=some B->dg Γ ⟨none,.ld f i y false g,C⟩ B=some D->∃b,dg Γ ⟨none,.ld f i y false g,C⟩ s=some b∧dg Γ ⟨none,.ld d n a true x,E⟩ b=some D)∧
  (dg Γ ⟨none,.ld f i y false g,C⟩ s=some B->dg Γ ⟨none,.ld d n a true x,E⟩ B=some D->∃b,dg Γ ⟨none,.ld d n a true x,E⟩ s=some b∧dg Γ ⟨none,.ld f i y false g,C⟩ b=some D):=by
 simp only[apF];have G:(IOp.ld d n a true x).rd=x.slots:=rfl;have F:(IOp.ld f i y false g).rd=g.slots:=rfl;constructor
 ·intro p u;have k:=mt p;have r:=mt u;rw[aiJ,An] at k;obtain⟨q,j,e⟩:=k;simp only[Ap,true_and] at e;subst e;have t:∀m∈g.slots,((s.turn q.2).set d q.1).get m=s.get m:=λm c=>by rw[yg _ _ (Ne.symm (w m c)),amM]
  rw[aiI,bU t,amJ j,An] at r;obtain⟨A,h,e⟩:=r;simp only[Ap,true_and] at e;subst e;refine⟨s.set f A,qW u (by rw[F];exactλm c=>(t m c).symm) (by rw[aiI,h];rfl),?_⟩;have v:∀m∈x.slots,(s.set f A).get m=s.get m:=λm c=>yg _ _ (Ne.symm (o m c))
  refine qW p (by rw[G];exact v) ?_;rw[aiJ,bU v,aoW,j];simp only[Bg,amK];rw[amL _ _ _ H]
 ·intro p u;have k:=mt p;have r:=mt u;rw[aiI,An] at k;obtain⟨A,h,e⟩:=k;simp only[Ap,true_and] at e;subst e;have v:∀m∈x.slots,(s.set f A).get m=s.get m:=λm c=>yg _ _ (Ne.symm (o m c))
  rw[aiJ,bU v,aoW,An] at r;obtain⟨q,j,e⟩:=r;simp only[Ap,true_and] at e;subst e;have t:∀m∈g.slots,((s.turn q.2).set d q.1).get m=s.get m:=λm c=>by rw[yg _ _ (Ne.symm (w m c)),amM]
  refine⟨(s.turn q.2).set d q.1,qW u (by rw[G];exactλm c=>(v m c).symm) (by rw[aiJ,j];rfl),?_⟩;refine qW p (by rw[F];exact t) ?_;rw[aiI,bU t,amJ j,h];simp only[Bg,amK];rw[amL _ _ _ H]
theorem at3(P:dx Γ imp){x y:GOp}(b:acC imp y x=true){s s1 s2:St}(R:dg Γ y s=some s1)(W:dg Γ x s1=some s2):
  ∃O,dg Γ x s=some O∧dg Γ y O=some s2:=by
 simp only[acC,Ac,Ba,Nat.ble_eq] at b;obtain⟨G,F,B,b⟩:=b;have G:=tc G;have F:=tc F;have B:=tc B;rcases b with⟨d,C⟩|A|hL
 case inr.inr=>
  obtain⟨S,ox,bx⟩:=x;obtain⟨Q,oy,bY⟩:=y;unfold aqU at hL;split at hL
  ·rename_i e n a xa f n2 w xb j r J M;simp only at j r J M;subst j r J M;have m1:∀m∈xb.slots,m≠e:=λm v h=>G e (by simp[IOp.wr,IOp.dst]) (by subst h;simpa [GOp.rd,IOp.rd] using v)
   have m2:∀m∈xa.slots,m≠f:=λm v h=>F f (by simp[IOp.wr,IOp.dst]) (by subst h;simpa [GOp.rd,IOp.rd] using v)
   have m3:e≠f:=λh=>B e (by simp[IOp.wr,IOp.dst]) (by subst h;simp[IOp.wr,IOp.dst])
   exact(asK m3 m2 m1).1 R W
  ·rename_i f n2 w xb e n a xa j r J M;simp only at j r J M;subst j r J M;have m1:∀m∈xb.slots,m≠e:=λm v h=>F e (by simp[IOp.wr,IOp.dst]) (by subst h;simpa [GOp.rd,IOp.rd] using v)
   have m2:∀m∈xa.slots,m≠f:=λm v h=>G f (by simp[IOp.wr,IOp.dst]) (by subst h;simpa [GOp.rd,IOp.rd] using v)
   have m3:e≠f:=λh=>B f (by simp[IOp.wr,IOp.dst]) (by subst h;simp[IOp.wr,IOp.dst])
   exact(asK m3 m2 m1).2 R W
  ·cases hL
 case inr.inl=>
  simp only[apart,Ac] at A;obtain⟨⟨oy,ox⟩,A⟩:=A;split at A
  ·rename_i Ry Wy Rx Wx a5 an;simp only[Ac] at A;obtain⟨Y,w,a3⟩:=A;have Y:=tc Y;have w:=tc w;have a3:=tc a3;obtain⟨k,L,I,E,rfl,Z⟩:=aiH P oy a5 R;obtain⟨g,u,N,D,rfl,X⟩:=aiH P ox an W;have Q:∀t:St,∀n∈x.rd,(t.putH k L).get n=t.get n:=λt n c=>agy (s:=t) (l:=k) (λp hp e=>G p.1 (I p hp) (e▸c))
   have S:∀t:St,∀n∈y.rd,(t.putH g u).get n=t.get n:=λt n c=>agy (s:=t) (l:=g) (λp hp e=>F p.1 (N p hp) (e▸c))
   have hx:=X s (λn c=>(Q s n c).symm) (ag8 L s.hp).symm (λi b=>(amH (λp hp e=>by
    subst e;rcases b with b|b;·exact Y _ (E p hp) b
    ·exact w _ (E p hp) b)).symm)
   have hy:=Z (s.putH g u) (λn c=>S s n c) (ag8 u s.hp) (λi b=>amH (λp hp e=>by
    subst e;rcases b with b|b;·exact a3 _ (D p hp) b
    ·exact w _ b (D p hp)))
   refine⟨_,hx,hy.trans ?_⟩
   congr 1
   have j:=sT k g s.env (λp hp q H e=>B q.1 (I q H) (e▸N p hp));have r:=sT L u s.hp (λp hp q H e=>w q.1 (E q H) (e▸D p hp));simp only[St.putH,St.upd,St.mk.injEq];exact⟨j,r⟩
  ·simp at A
 have d:y.o.cls imp<=1∨x.o.cls imp=0:=d.imp id Ax;have C:x.o.cls imp<=1∨y.o.cls imp=0:=C.imp id Ax;obtain⟨k,L,I,E,rfl,Z⟩:=aeU P R;obtain⟨g,u,N,D,rfl,X⟩:=aeU P W;have Q:∀t:St,∀n∈x.rd,(t.put k L).get n=t.get n:=λt n c=>agy (s:=t) (l:=k) (λp hp e=>G p.1 (I p hp) (e▸c))
 have S:∀t:St,∀n∈y.rd,(t.put g u).get n=t.get n:=λt n c=>agy (s:=t) (l:=g) (λp hp e=>F p.1 (N p hp) (e▸c))
 have hx:=X s (λn c=>(Q s n c).symm) (λhc=>by
  rcases d with d|d;·exact⟨by rw[E d];rfl,(abi s k).symm⟩
  ·omega)
 have hy:=Z (s.put g u) (λn c=>S s n c) (λhc=>by
  rcases C with C|C;·exact⟨by rw[D C];rfl,abi s g⟩
  ·omega)
 refine⟨_,hx,hy.trans ?_⟩
 congr 1
 have j:=sT k g s.env (λp hp q H e=>B q.1 (I q H) (e▸N p hp));simp only[St.put,St.upd,St.mk.injEq];refine⟨j,?_⟩;rcases d with d|d;·rw[E d];rfl
 ·rw[D (by omega)];rfl
theorem apG(c:dx Γ imp){R:Type}{K:St->Option R}{r:R}{x:GOp}{B:List GOp}:∀(A:List GOp)(s:St),(∀y∈A,acC imp y x=true)->
  cq Γ (A++x::B) K s=some r->∃s',dg Γ x s=some s'∧cq Γ (A++B) K s'=some r
 | [],s,_,h=>by rw[Cr,nA] at h;exact BK.1 h
 |y::A,s,b,h=>by rw[Bp,nA] at h;obtain⟨i,e,j⟩:=BK.1 h;obtain⟨o,f,d⟩:=apG c A i (λy k=>b y (AT _ k)) j;obtain⟨a,g,m⟩:=at3 c (b y (AU ..)) e f;refine⟨a,g,?_⟩;rw[Bp,nA,m];exact d
end
def acD(G:Nat->List V->Option (Bool×V)):av:=λf vs hp=>match G f vs with|some x=>some (x.1,x.2,hp)|none=>none
theorem apH(G:Nat->List V->Option (Bool×V))(imp:List Nat):dx (acD G) imp:=by
 refine⟨?_,?_⟩;·intro f avs hp _;unfold acD;cases G f avs<;>rfl
 ·intro f vs hp c v hp' _ h;unfold acD at h ⊢;cases a:G f vs with
  |none=>rw[a] at h;simp at h
  |some x=>rw[a] at h;simp only[Ah,Ap] at h;obtain⟨rfl,rfl,rfl⟩:=h;exact⟨[],by simp,rfl,λb _ _=>rfl⟩
theorem aqX{G:Nat->List V->Option (Bool×V)}{f:Nat}{vs:List V}{hp hp':List ai}{c:Bool}{v:V}(h:acD G f vs hp=some (c,v,hp')):G f vs=some (c,v)∧hp'=hp:=by
 unfold acD at h;cases a:G f vs with
 |none=>rw[a] at h;simp at h
 |some x=>rw[a] at h;simp only[Ah,Ap] at h;obtain⟨rfl,rfl,rfl⟩:=h;exact⟨rfl,rfl⟩
def aoX(P:Program)(o:IOp)(m:Oper):Bool:=
 match o with
 |_=>false
section
variable{w w':World}{g g':Gh}{s s':St}{a:Act}{P:Program}{Γ:av}{m:Oper}{next:Act->World->Prop}{Q:Exit->Act->World->Prop}
end
section
open Go.MapKept
def nn(P:Program)(t:TypeId)(k:MK):Bool:=match k,P.underlying t with
 | .pb,some (.array 2 e)=>(fR P e==some 1)&&aj4 P e .i64
 | .bs,some (.int .u8)=>true
 | .bn,some (.int .u8)=>true
 | .ib,some (.int .i64)=>true
 | .sn,some .string=>true
 | .sb,some .string=>true
 |_,_=>false
def asL(P:Program)(e:TypeId)(k:MK):Bool:=match P.info? e with|some i=>(match i.zero with|some z=>tW (k.val k.zero) z|none=>false)|none=>false
def acE(P:Program)(t:TypeId)(k:MK):Bool:=match P.underlying t with|some (.map b e)=>nn P b k&&asL P e k|_=>false
def wH(P:Program)(o:IOp)(m:Oper):Bool:=
 match o with
 | .mkm d k=>(m.dst==some d)&&(match m.op with| .makeMap t none=>acE P t k|_=>false)
 | .mget d k h x y=>(m.dst==some d)&&(match m.op with| .lookup t b c e=>acE P t k&&((h==e)&&(aJ x b&&aJ y c))|_=>false)
 | .mput d k x y z=>(m.dst==d)&&(match m.op with
   | .mapUpdate t b c f=>acE P t k&&(aJ x b&&(aJ y c&&aJ z f))
   | .insert t b c f=>acE P t k&&(aJ x b&&(aJ y c&&aJ z f))
   |_=>false)
 |_=>false
section
variable{w w':World}{g g':Gh}{s s':St}{a:Act}{P:Program}{Γ:av}{m:Oper}{next:Act->World->Prop}{Q:Exit->Act->World->Prop}
theorem ag9{t:TypeId}{k:MK}(h:acE P t k=true):∃c e,P.underlying t=some (.map c e)∧nn P c k=true∧(∀w:World,(zeroValue e).run P w=.ok (k.valV k.zero) w):=by
 unfold acE at h;split at h
 ·rename_i c e f;simp only[Ac] at h;refine⟨c,e,f,h.1,?_⟩;have b:=h.2;unfold asL at b;split at b
  ·rename_i i d;split at b
   ·rename_i z j;intro w;have o:z=k.valV k.zero:=by
     cases k<;>cases z<;>simp[tW,MK.val,MK.zero] at b<;>simp[MK.valV,MK.zero];·exact b
     ·rename_i s;obtain⟨⟨l⟩⟩:=s;simp at b;rw[b.1]
     ·exact⟨b.1.symm,b.2.1.symm⟩
     ·exact b
     ·exact⟨b.1.symm,b.2.1.symm⟩
     ·exact b
    simp[zeroValue,typeInfo,d,j,o]
   ·simp at b
  ·simp at b
 ·simp at h
theorem arQ{I:Nat->Nat->Prop}{ρ:Nat->Nat}{N:Nat}(k:MK)(x:k.T)(h:k.okT x):VRel I ρ N w (k.val x) (k.valV x):=by
 cases k;·exact .bool _
 ·exact .str _ _ rfl (by have h:Aa x<=dl:=h;simpa [ByteArray.size] using h)
 ·exact .int _ _ h
 ·exact .bool _
 ·exact .int _ _ h
 ·exact .bool _
theorem arR(k:MK):k.okT k.zero:=by cases k<;>simp[MK.okT,MK.zero]<;>decide
theorem apI{v:V}{x:Int×Int}(h:api v=some x):v=.agg [.int .i64 x.1,.int .i64 x.2]:=by unfold api at h;split at h<;>first|contradiction|(cases h;rfl)
theorem amN{v:V}{x:Int}(h:u8V v=some x):v=.int .u8 x:=by unfold u8V at h;split at h<;>first|contradiction|(cases h;rfl)
theorem aeW{v:V}{x:Int}(h:amv v=some x):v=.int .i64 x:=by unfold amv at h;split at h<;>first|contradiction|(cases h;rfl)
theorem aeX{v:V}{x:List UInt8}(h:apj v=some x):v=.str x:=by unfold apj at h;split at h<;>first|contradiction|(cases h;rfl)
theorem acF{v:V}{x:Bool}(h:aiy v=some x):v=.bool x:=by unfold aiy at h;split at h<;>first|contradiction|(cases h;rfl)
theorem aj9{I:Nat->Nat->Prop}{ρ:Nat->Nat}{N:Nat}{l:List UInt8}{cv:Value}(h:VRel I ρ N w (.str l) cv):cv=.string ⟨l.toArray⟩∧l.length<=dl:=by
 cases h with
 |str _ s c b=>subst c;exact⟨rfl,by rw[BM];exact b⟩
theorem wb{I:Nat->Nat->Prop}{ρ:Nat->Nat}{N:Nat}{k:IntKind}{n:Int}{cv:Value}(h:VRel I ρ N w (.int k n) cv):cv=.int k n∧k.min<=n∧n<=k.max:=by cases h;exact⟨rfl,by assumption⟩
theorem ahL{I:Nat->Nat->Prop}{ρ:Nat->Nat}{N:Nat}{b:Bool}{cv:Value}(h:VRel I ρ N w (.bool b) cv):cv=.bool b:=by cases h;rfl
theorem arS{I:Nat->Nat->Prop}{ρ:Nat->Nat}{N:Nat}{k:MK}{v:V}{x:k.T}{cv:Value}(h:k.dval v=some x)(b:VRel I ρ N w v cv):cv=k.valV x∧k.okT x:=by
 cases k with
 |pb=>rw[acF h] at b;exact⟨ahL b,trivial⟩
 |ib=>rw[acF h] at b;exact⟨ahL b,trivial⟩
 |bs=>rw[aeX h] at b;exact aj9 b
 |bn=>rw[aeW h] at b;exact wb b
 |sn=>rw[aeW h] at b;exact wb b
 |sb=>rw[acF h] at b;exact⟨ahL b,trivial⟩
theorem ahM{I:Nat->Nat->Prop}{ρ:Nat->Nat}{N:Nat}{k:MK}{v:V}{x:k.K}{cv:Value}(h:k.dkey v=some x)(b:VRel I ρ N w v cv):cv=k.keyV x:=by
 cases k with
 |pb=>
  rw[apI h] at b;cases b with
  |agg _ vs e _ _ c=>
   obtain⟨l⟩:=vs;match l,e,c with
   | [u,d],_,c=>rw[(wb (c 0 _ u rfl rfl)).1,(wb (c 1 _ d rfl rfl)).1];rfl
 |bs=>rw[amN h] at b;exact(wb b).1
 |bn=>rw[amN h] at b;exact(wb b).1
 |ib=>rw[aeW h] at b;exact(wb b).1
 |sn=>rw[aeX h] at b;exact(aj9 b).1
 |sb=>rw[aeX h] at b;exact(aj9 b).1
theorem aka{c:TypeId}{k:MK}(h:nn P c k=true)(f:k≠.pb)(x y:k.K):∃d,P.underlying c=some d∧DA d (k.keyV x) (k.keyV y)=some (decide (x=y)):=by
 have b:∀(k:IntKind)(x y:Int)(_:Decidable (x=y)),DA (.int k) (.int k x) (.int k y)=some (decide (x=y)):=λk x y _=>by simp only[DA,if_true,Ah];rw[B5,decide_eq_true_iff,beq_iff_eq]
 cases k with
 |pb=>exact absurd rfl f
 |sn|sb=>
  unfold nn at h;split at h<;>first|contradiction|skip
  rename_i e;refine⟨_,e,?_⟩;simp only[MK.keyV,DA,Ah];rw[B5,decide_eq_true_iff,bytes_beq];constructor;·intro h;simpa using h
  ·rintro rfl;rfl
 |bs=>
     unfold nn at h;split at h<;>first|contradiction|skip
     rename_i e;exact⟨_,e,b _ _ _ _⟩
 |bn=>
     unfold nn at h;split at h<;>first|contradiction|skip
     rename_i e;exact⟨_,e,b _ _ _ _⟩
 |ib=>
     unfold nn at h;split at h<;>first|contradiction|skip
     rename_i e;exact⟨_,e,b _ _ _ _⟩
theorem mN{e:Nat}(b:nx P e=some false){xs:Array Value}{j:Nat}{u:Value}(c:xs[j]? =some u)(w:World):(part e xs j).run P w=.ok u w:=by simp[part,acz b,c]
theorem asM{d:TypeId}(h:nn P d .pb=true):∃e,P.underlying d=some (.array 2 e)∧P.underlying e=some (.int .i64)∧fR P e=some 1∧nx P e=some false:=by
 unfold nn at h;split at h<;>first|contradiction|skip
 rename_i e _ j;simp only[Ac,beq_iff_eq] at h;obtain⟨i,b⟩:=h;have f:P.underlying e=some (.int .i64):=by
  unfold aj4 at b;split at b;·rename_i k' c;rw[c,of_decide_eq_true b]
  ·simp at b
 exact⟨e,j,f,i,by simp[nx,f]⟩
theorem apJ{e:TypeId}(v:P.underlying e=some (.int .i64))(f:nx P e=some false)(q:Nat)(a b c d:Int){xs ys:Array Value}(t:xs[0]? =some (.int .i64 a))(k:xs[1]? =some (.int .i64 b))(u:ys[0]? =some (.int .i64 c))(i:ys[1]? =some (.int .i64 d))(w:World):(Op.eqItems (q+1) e 1 xs ys [0,1]).run P w=.ok (decide ((a,b)=(c,d))) w:=by
 have h:∀(p j:Int)(w:World),(C0 (q+1) e (.int .i64 p) (.int .i64 j)).run P w=.ok (p==j) w:=by intro p j w;simp[C0,run_underlying v]
 simp only[Op.eqItems,CW,Du,mN f t,mN f k,mN f u,mN f i,B9,h];by_cases r:a=c
 ·subst r;by_cases o:b=d;·subst o;simp[mN f k,mN f i,h]
  ·simp[o,mN f k,mN f i,h]
 ·simp[r]
theorem apK{j:TypeId}(h:nn P j .pb=true)(x y:MK.K .pb)(w:World):(Op.equal j (MK.keyV .pb x) (MK.keyV .pb y)).run P w=.ok (decide (x=y)) w:=by
 obtain⟨e,t,r,p,k⟩:=asM h;obtain⟨inf,f,q⟩:∃i,P.info? e=some i∧i.size=1:=by unfold fR at p;obtain⟨i,f,h⟩:=An.1 p;exact⟨i,f,h⟩
 have o:P.cellsOf e=1:=by simp[Program.cellsOf,f,q]
 obtain⟨a,b⟩:=x;obtain⟨c,d⟩:=y;show (C0 (9999+1) j (.agg #[.int .i64 a,.int .i64 b]) (.agg #[.int .i64 c,.int .i64 d])).run P w=_;rw[run_equalIn_array w 9999 _ _ t f,o];exact apJ r k 9998 a b c d rfl rfl rfl rfl w
def rK{k:MK}(es:List (k.K×k.T))(x:k.K)(i:Nat):Option (Nat×Value):=match aX es x with
 |some v=>some (i+oA es x,k.valV v)
 |none=>none
theorem aha{k:MK}(e:k.K×k.T)(es:List (k.K×k.T))(x:k.K)(i:Nat):rK (e::es) x i=if e.1=x then some (i,k.valV e.2) else rK es x (i+1):=by
 unfold rK;by_cases h:e.1=x;·simp[aX,oA,h]
 ·simp only[aX,oA,h,if_false];split
  ·congr 2;omega
  ·rfl
theorem aaz{C:TypeId}{k:MK}(h:nn P C k=true){es:List (k.K×k.T)}{ents:Array MapEntry}{clock:Nat}(u:fQ es ents clock)(x:k.K):(Instr.findKey C (k.keyV x) ents.toList).run P w=.ok (rK es x 0) w:=by
 have q:∀(i:Nat) e c,es[i]? =some e->ents.toList[i]? =some c->c.key=k.keyV e.1∧c.val=k.valV e.2:=λi e c p r=>by obtain⟨-,a,b, -⟩:=u.2.2 i e c p (by simpa using r);exact⟨a,b⟩
 have o:es.length=ents.toList.length:=by simpa using u.1
 generalize ents.toList=l at o q;by_cases A:k=.pb
 ·subst A;rw[run_findKey_eq w ?_ (MK.keyV .pb x) l]
  ·clear u;generalize 0=i;induction es generalizing l i with
   |nil=>have:l=[]:=A7 o.symm;subst this;simp[Instr.findAsking,rK,aX]
   |cons e es B=>
    cases l with
    |nil=>simp at o
    |cons c l=>
     obtain⟨y,v⟩:=q 0 e c rfl rfl;rw[Instr.findAsking,y,v,aha];simp only[CW,apK h,B9];by_cases f:e.1=x;·simp[f]
     ·rw[if_neg f,if_neg (by simpa using λe=>f e.symm)];exact B l (by simpa using o) (λj e c p r=>q (j+1) e c (by simpa using p) (by simpa using r)) (i+1)
  ·unfold nn at h;split at h<;>first|contradiction|skip
   rename_i e _ E;rw[E]
 ·obtain⟨d,D, -⟩:=aka h A x x;refine Go.MapKept.run_findKey D ?_;clear u;generalize 0=i;induction es generalizing l i with
  |nil=>have:l=[]:=A7 o.symm;subst this;simp[Instr.findNow,rK,aX]
  |cons e es B=>
   cases l with
   |nil=>simp at o
   |cons c l=>
    obtain⟨y,v⟩:=q 0 e c rfl rfl;obtain⟨G,t,F⟩:=aka h A x e.1;rw[D] at t;obtain rfl:=Au t;rw[Instr.findNow,y,v,aha,F];by_cases f:e.1=x;·simp[f]
    ·rw[if_neg f,decide_eq_false (λe=>f e.symm)];exact B l (by simpa using o) (λj e c p r=>q (j+1) e c (by simpa using p) (by simpa using r)) (i+1)
theorem aoe{e:Nat}(j:P.underlying e=some (.int .i64))(d:nx P e=some false)(o:fR P e=some 1)(f:Bool)(q:Nat)(a b:Int){xs:Array Value}(h:xs[0]? =some (.int .i64 a))(k:xs[1]? =some (.int .i64 b)):
  (forIn [0,1] PUnit.unit λi r=>do BY f (q+1) e (<-part e xs (i*(<-sizeOf e)));pure (ForInStep.yield PUnit.unit):Sem PUnit).run P w=.ok PUnit.unit w:=by
 have c:∀(p:Int)(w:World),(BY f (q+1) e (.int .i64 p)).run P w=.ok () w:=by intro p w;simp[BY,run_underlying j]
 simp only[List.forIn_cons,List.forIn_nil,CW,oq o,B9,Du,mN d h,mN d k,c,Sem.run_pure]
theorem apL{d:TypeId}(h:nn P d .pb=true)(a b:Int)(f:Bool)(q:Nat):(BY f (q+2) d (.agg #[.int .i64 a,.int .i64 b])).run P w=.ok () w:=by obtain⟨e,k,i,j,c⟩:=asM h;have:=aoe (w:=w) i c j f q a b (xs:= #[.int .i64 a,.int .i64 b]) rfl rfl;rw[BY];simp only[CW,run_underlying k,B9];simp only[Std.Legacy.Range.forIn_eq_forIn_range',Std.Legacy.Range.size,Nat.sub_zero,Nat.add_one_sub_one,Nat.div_one];have r:Bf 0 2 1=[0,1]:=rfl;rw[r];simp at this ⊢;rw[this];rfl
theorem aqY{b:TypeId}{k:MK}(h:nn P b k=true)(c:k≠.pb)(x:k.K)(f:Bool)(q:Nat):(BY f (q+1) b (k.keyV x)).run P w=.ok () w:=by
 obtain⟨d,j,i⟩:=aka h c x x;cases k<;>first|exact absurd rfl c|skip
 all_goals
  unfold nn at h;split at h<;>first|contradiction|skip
  rename_i e;simp[BY,run_underlying e,MK.keyV]
theorem yD{c:TypeId}{k:MK}(h:nn P c k=true)(x:k.K)(b:Bool):(BY b 10000 c (k.keyV x)).run P w=.ok () w:=by
 by_cases d:k=.pb;·subst d;exact apL h x.1 x.2 b 9998
 ·exact aqY h d x b 9999
theorem arT(k:MK)(x:k.K)(q:Nat):CZ (q+2) (k.keyV x) (k.keyV x)=true:=by
 cases k with
 |pb=>simp[MK.keyV,CZ]
 |sn|sb=>exact(bytes_beq _ _).2 rfl
 |_=>simp[MK.keyV,CZ]
theorem aqZ(k:MK)(x:k.K):CZ 10000 (k.keyV x) (k.keyV x)=true:=arT k x 9998
theorem aq0{k:MK}{es:List (k.K×k.T)}{x:k.K}{v:k.T}(h:aX es x=some v):es[oA es x]? =some (x,v):=by
 induction es with
 |nil=>simp[aX] at h
 |cons e es c=>
  simp only[aX] at h;by_cases b:e.1=x;·rw[if_pos b] at h;obtain rfl:=Au h;subst b;simp[oA]
  ·rw[if_neg b] at h;simp only[oA,if_neg b];simpa using c h
theorem arU{k:MK}{es:List (k.K×k.T)}{x:k.K}{v u:k.T}(h:aX es x=some v):cm es x u=es.set (oA es x) (x,u):=by
 induction es with
 |nil=>simp[aX] at h
 |cons e es c=>
  simp only[aX] at h;by_cases b:e.1=x;·simp[cm,oA,b]
  ·rw[if_neg b] at h;simp[cm,oA,b,c h]
theorem aq1{k:MK}{es:List (k.K×k.T)}{x:k.K}{u:k.T}(h:aX es x=none):cm es x u=es++[(x,u)]∧oA es x=es.length:=by
 induction es with
 |nil=>simp[cm,oA]
 |cons e es d=>
  simp only[aX] at h;by_cases b:e.1=x;·simp[b] at h
  ·rw[if_neg b] at h;obtain⟨c,f⟩:=d h;simp[cm,oA,b,c,f]
theorem fQ.set{k:MK}{es:List (k.K×k.T)}{ents:Array MapEntry}{clock:Nat}(h:fQ es ents clock){i:Nat}{x:k.K}{v:k.T}(q:k.okT v):
  fQ (es.set i (x,v)) (ents.modify i λe=>{e with key:=k.keyV x,val:=k.valV v}) clock:=by
 refine⟨by simp[h.1],by simp[h.2.1],?_⟩;intro j e r b c;rw[AB] at b;rw[De] at c;by_cases f:i=j
 ·subst f;rw[if_pos rfl] at b c;split at b;·cases b;rw[An] at c;obtain⟨o,p,rfl⟩:=c;rename_i d;exact⟨(h.2.2 _ _ _ (Ab d) p).1,rfl,rfl,q⟩
  ·simp at b
 ·rw[if_neg f] at b c;exact h.2.2 j e r b c
theorem fQ.push{k:MK}{es:List (k.K×k.T)}{ents:Array MapEntry}{clock:Nat}(h:fQ es ents clock){x:k.K}{v:k.T}(o:k.okT v):
  fQ (es++[(x,v)]) (ents.push {key:=k.keyV x,val:=k.valV v,born:=clock}) (clock+1):=by
 refine⟨by simp[h.1],by simp[h.2.1],?_⟩;intro j e p b d;rcases AI j es.length with f|f;·rw[Ar f] at b;rw[CM,if_neg (by rw[<-h.1];omega)] at d;exact h.2.2 j e p b d
 ·rw[Aq f] at b;have i:j-es.length=0:=by
   have:=(Ad.1 b).1;simp at this;omega
  rw[i] at b;simp at b;subst b;have c:j=ents.size:=by rw[<-h.1];omega
  rw[CM,if_pos c] at d;obtain rfl:=Au d;exact⟨by rw[h.2.1];exact c.symm,rfl,rfl,o⟩
theorem amO{id:Nat}{k:MK}{es:List (k.K×k.T)}(c:s.mapO id=some ⟨k,es⟩):s.hp[id]? =some (some [.mp k es]):=by
 unfold St.mapO at c;split at c
 ·rename_i k' e b;cases c;rw[Af] at b;cases d:s.hp[id]? with
  |none=>rw[d] at b;simp at b
  |some x=>rw[d] at b;simp at b;rw[b]
 ·simp at c
theorem SR.putMap(h:SR g s w a){id:Nat}{k:MK}{es r:List (k.K×k.T)}(X:s.mapO id=some ⟨k,es⟩){ents i:Array MapEntry}{clock d:Nat}(hb:w.heap[g.ρ id]? =some (.map ents clock))(hm:fQ r i d):
  SR g (s.setObj id [.mp k r]) {w with heap:=w.heap.setIfInBounds (g.ρ id) (.map i d)} a∧FR g s.hp w g (s.hp.set id (some [.mp k r])) {w with heap:=w.heap.setIfInBounds (g.ρ id) (.map i d)}:=by
 have hid:=amO X;obtain⟨Z,L⟩:=Go.MapKept.heap_set (o':=.map i d) hb;let w':World:={w with heap:=w.heap.setIfInBounds (g.ρ id) (.map i d)}
 have R:w'.heap.size=w.heap.size:=by simp[w']
 have G:∀b j,g.I b j->b≠g.ρ id:=by rintro b j y rfl;exact h.hr.notI id _ hid j y
 have D:∀b j,g.I b j->w'.cell? ⟨b,j,none⟩=w.cell? ⟨b,j,none⟩:=by intro b j y;simp only[w',By,L b (G b j y)]
 have u:Up g.I g.ρ s.hp.length w g.I g.ρ s.hp.length w':=⟨λ_ _ h=>h,D,λ_ _=>rfl,Am _⟩
 have B:∀C v cv,au g w C v cv->au g w' C v cv:=by intro C v cv O;refine b7 O rfl (λb j y=>⟨u.mono b j y,u.cell b j y⟩) ?_;intro b A;refine⟨A,L b ?_,λj hj=>hj⟩;rintro rfl;rw[h.hr.notO id _ hid] at A;simp at A
 have hl:id<s.hp.length:=(Ad.1 hid).1;have split:∀(f:Nat) o',(s.hp.set id (some [V.mp k r]))[f]? =some (some o')->(f=id∧o'=[V.mp k r])∨(f≠id∧s.hp[f]? =some (some o')):=by
  intro f o' o;rw[AB] at o;split at o;·rename_i e;simp[hl] at o;exact .inl ⟨e.symm,o.symm⟩
  ·rename_i e;exact .inr ⟨λe'=>e e'.symm,o⟩
 have x:∀(f:Nat) o',(s.hp.set id (some [V.mp k r]))[f]? =some (some o')->∃E,s.hp[f]? =some (some E):=by
  intro f o' o;rcases split f o' o with⟨rfl,_⟩|⟨_,o⟩
  ·exact⟨_,hid⟩
  ·exact⟨_,o⟩
 refine⟨⟨⟨?_,?_,?_,?_,?_,?_⟩,⟨h.er.size,?_,?_⟩⟩,⟨rfl,rfl,rfl,rfl,by rw[R];exact Am _,?_,?_,λ_ _ _ _ _ y=>y,λ_ _ _ Y=>Y,?_⟩⟩
 ·intro f o' o;simp only[St.setObj,AF];rcases split f o' o with⟨rfl,rfl⟩|⟨F,o⟩
  ·exact⟨by simp[oC],λq ae J=>by cases J;exact⟨i,d,Z,hm⟩⟩
  ·refine(h.hr.obj f o' o).keep ?_ λS e2 W t q=>⟨q.len,q.plain,q.typedUp rfl u.rho u.num rfl,q.cold,q.one,λj c cv J p=>(q.rel j c cv J p).up u,λj c cv J p=>B _ _ _ (q.own j c cv J p),q.bn⟩
   exact L _ (h.hr.apart f id o' _ o hid F)
 ·intro id1 M H c2 t q F;obtain⟨_,t⟩:=x id1 H t;obtain⟨_,q⟩:=x M c2 q;exact h.hr.apart _ _ _ _ t q F
 ·intro id1 H t;obtain⟨_,t⟩:=x id1 H t;exact h.hr.notI _ _ t
 ·intro id1 H t;obtain⟨_,t⟩:=x id1 H t;exact h.hr.notO _ _ t
 ·intro b j y;exact(h.hr.exI b j y).blk (L b (G b j y))
 ·intro b oc A;rw[R];exact h.hr.oLt b oc A
 ·intro n v cv o p;simp only[St.setObj,AF];exact(h.er.rel n v cv o p).up u
 ·intro n v cv o p;exact B _ _ _ (h.er.own n v cv o p)
 ·intro b _ N _;exact L b (λe=>N id _ hid e.symm)
 ·simp only[AF];exact u
 ·intro f o' o;obtain⟨E,o⟩:=x f o' o;exact .inl ⟨E,o⟩
theorem SR.newMap(h:SR g s w a)(k:MK)(d:Nat):
  ∃g',SR g' {s.set d (.mr s.hp.length) with hp:=s.hp++[some [.mp k []]]} (w.alloc (.map #[] 0)) (a.put (some d) (.map (some w.heap.size)))∧
   FR g s.hp w g' (s.hp++[some [.mp k []]]) (w.alloc (.map #[] 0)):=by
 obtain⟨X,H,f3⟩:=lD w (.map #[] 0);let w':=w.alloc (.map #[] 0);let g':Gh:={g with ρ:=λid=>if id=s.hp.length then w.heap.size else g.ρ id}
 have t:∀b j,g.I b j->b<w.heap.size:=by intro b j i;exact(h.hr.exI b j i).lt
 have B:∀b j,b<w.heap.size->w'.cell? ⟨b,j,none⟩=w.cell? ⟨b,j,none⟩:=by intro b j A;simp only[w',By,H b A]
 have u:Up g.I g.ρ s.hp.length w g'.I g'.ρ (s.hp++[some [V.mp k []]]).length w':=
  ⟨λb j i=>i,λb j i=>B b j (t b j i),λid hid=>by simp[g',Bj hid],by simp⟩
 have D:∀(id:Nat) cs,s.hp[id]? =some (some cs)->g.ρ id<w.heap.size:=by intro id cs hid;exact(h.hr.obj id cs hid).lt
 have r:∀x v cv,au g w x v cv->au g' w' x v cv:=by intro x v cv ho;refine b7 ho rfl (λb j i=>⟨u.mono b j i,u.cell b j i⟩) ?_;intro b A;exact⟨A,H b (h.hr.oLt b x A),λj hj=>hj⟩
 have split:∀(id:Nat) o,(s.hp++[some [V.mp k []]])[id]? =some (some o)->(id<s.hp.length∧s.hp[id]? =some (some o))∨(id=s.hp.length∧o=[V.mp k []]):=by
  intro id o hid;rcases AI id s.hp.length with i|i;·rw[Ar i] at hid;exact .inl ⟨i,hid⟩
  ·rw[Aq i] at hid;have L:id-s.hp.length=0:=by
    rcases CX (id-s.hp.length) with L|L;·exact L
    ·rw[AZ (by simp;omega)] at hid;simp at hid
   rw[L] at hid;simp at hid;exact .inr ⟨by omega,hid.symm⟩
 have f:g'.ρ s.hp.length=w.heap.size:=by simp[g']
 have e:∀id,id<s.hp.length->g'.ρ id=g.ρ id:=λid hid=>by simp[g',Bj hid]
 have hs:SR g' {s with hp:=s.hp++[some [V.mp k []]]} w' a:=by
  refine⟨⟨?_,?_,?_,?_,?_,?_⟩,⟨h.er.size,?_,?_⟩⟩
  ·intro id o hid;rcases split id o hid with⟨i,hid⟩|⟨rfl,rfl⟩
   ·refine(h.hr.obj id o hid).keep ?_ λZ e' fz N q=>⟨q.len,q.plain,q.typedUp rfl u.rho u.num rfl,q.cold,q.one,λj c cv G p=>(q.rel j c cv G p).up u,λj c cv G p=>r _ _ _ (q.own j c cv G p),by rw[e id i];exact q.bn⟩
    rw[e id i];exact H _ (D id o hid)
   ·refine⟨by simp[oC],λq al G=>?_⟩;cases G;exact⟨#[],0,by rw[f];exact f3,rfl,rfl,by simp⟩
  ·intro id C o o' N q J;rcases split id o N with⟨i,S⟩|⟨e1, -⟩<;>rcases split C o' q with⟨F,Y⟩|⟨R, -⟩
   ·rw[e _ i,e _ F];exact h.hr.apart id C o o' S Y J
   ·rw[e _ i,R,f];exact Bj (D id o S)
   ·rw[e _ F,e1,f];exact(Bj (D C o' Y)).symm
   ·exact absurd (e1.trans R.symm) J
  ·intro id o hid j i;rcases split id o hid with⟨y,hid⟩|⟨rfl,rfl⟩
   ·rw[e _ y] at i;exact h.hr.notI id o hid j i
   ·rw[f] at i;have:=t _ _ i;omega
  ·intro id o hid;rcases split id o hid with⟨y,hid⟩|⟨rfl,rfl⟩
   ·rw[e _ y];exact h.hr.notO id o hid
   ·rw[f];cases M:g.O w.heap.size with
    |none=>rfl
    |some W=>have:=h.hr.oLt _ _ M;omega
  ·intro b j i;exact(h.hr.exI b j i).blk (by first|exact hold b (t b j i)|exact H b (t b j i))
  ·intro b W A;have:=h.hr.oLt b W A;show b<w'.heap.size;rw[X];omega
  ·intro n v cv E p;exact(h.er.rel n v cv E p).up u
  ·intro n v cv E p;exact r _ _ _ (h.er.own n v cv E p)
 refine⟨g',?_,rfl,rfl,rfl,rfl,by rw[X];omega,λb A _ _=>H b A,u,λb j _ _ _ i=>i,λb _ _ M=>M,?_⟩
 ·have:=hs.set d (v:=.mr s.hp.length) (cv:=.map (some w.heap.size)) (by
   rw[<-f];exact .mr _ (by simp)) (by simp[au])
  exact this
 ·intro id o hid;rcases split id o hid with⟨y,hid⟩|⟨rfl,rfl⟩
  ·exact .inl ⟨o,hid⟩
  ·exact .inr ⟨Am _,.inl (by rw[f];exact Am _)⟩
theorem atJ{d:Nat}{k:MK}(b:wH P (.mkm d k) m=true)(f:step Γ (.mkm d k) s=some (true,s'))(h:SR g s w a)(c:cF g s w a s' next):m.wp P a w next Q:=by
 obtain⟨dst,i,ty,pos,e,j⟩:=m;simp only[wH,Ac,beq_iff_eq] at b;obtain⟨rfl,b⟩:=b;split at b
 ·obtain rfl:_=s':=by simpa [step] using f
  exact eX rfl (w':=w.alloc (.map #[] 0)) (cv:=.map (some w.heap.size)) (by simp[execOp,Instr.makeMap]) (h.newMap k d) c
 ·simp at b
theorem ali(h:SR g s w a){id:Nat}{k:MK}{es:List (k.K×k.T)}(b:s.mapO id=some ⟨k,es⟩):∃ents clock,w.heap[g.ρ id]? =some (.map ents clock)∧fQ es ents clock:=(h.hr.obj id _ (amO b)).map k es rfl
theorem amP{I:Nat->Nat->Prop}{ρ:Nat->Nat}{N:Nat}(k:MK)(e:Bool)(r:Option k.T)(h:∀v,r=some v->k.okT v):VRel I ρ N w (aeN k e r) (if e then .tuple #[k.valV (r.getD k.zero),.bool r.isSome] else k.valV (r.getD k.zero)):=by
 have f:VRel I ρ N w (k.val (r.getD k.zero)) (k.valV (r.getD k.zero)):=arQ k _ (by
  cases r with
  |none=>exact arR k
  |some v=>exact h v rfl)
 cases e with
 |false=>exact f
 |true=>
  refine .tup _ _ rfl ?_;intro i c cv d b;match i with
  |0=>simp at d b;subst d b;exact f
  |1=>simp at d b;subst d b;exact .bool _
  |i+2=>simp at d
theorem amQ(g:Gh)(w:World)(b:Occ)(k:MK)(c:Bool)(r:Option k.T)(cv:Value):au g w b (aeN k c r) cv:=by
 cases c;·cases k<;>simp[aeN,MK.val,au]
 ·simp[aeN,au]
theorem aoY{k:MK}{es:List (k.K×k.T)}{ents:Array MapEntry}{clock:Nat}(o:fQ es ents clock){x:k.K}{v:k.T}(h:aX es x=some v):oA es x<es.length∧k.okT v∧∃e,ents[oA es x]? =some e∧e.key=k.keyV x∧e.val=k.valV v∧e.born=oA es x:=by have i:=aq0 h;have j:=(Ad.1 i).1;have f:ents[oA es x]? =some (ents[oA es x]'(by rw[<-o.1];exact j)):=Ao _;obtain⟨a,b,c,d⟩:=o.2.2 _ _ _ i f;exact⟨j,d,_,f,b,c,a⟩
theorem as0{d:Nat}{k:MK}{j:Bool}{x y:aw}(f:wH P (.mget d k j x y) m=true)(b:step Γ (.mget d k j x y) s=some (true,s'))(h:SR g s w a)(D:cF g s w a s' next):m.wp P a w next Q:=by
 obtain⟨dst,op,ty,pos,I,Y⟩:=m;simp only[wH,Ac,beq_iff_eq] at f;obtain⟨rfl,f⟩:=f;split at f
 ·rename_i t O y' W;simp only[Ac,beq_iff_eq] at f;obtain⟨M,rfl,R,N⟩:=f;obtain⟨Z,e,F,q,C⟩:=ag9 M;have p:=aI R h.er;have E:=aI N h.er;generalize o:a.eval O=X at p;simp only[step] at b;split at b
  ·rename_i B;rw[B] at p;cases p;simp only[An] at b;obtain⟨key,A,b⟩:=b;obtain rfl:_=s':=by simpa using b
   have i:=ahM A E;have c:=yD (w:=w) q key true;have r:=aaz (P:=P) (w:=w) q (k:=k) (es:=[]) (ents:= #[]) (clock:=0) ⟨rfl,rfl,by simp⟩ key;refine eX rfl (w':=w) (cv:=if j then .tuple #[k.valV k.zero,.bool false] else k.valV k.zero) ?_ ⟨g,h.set d (amP k j none (by simp)) (amQ _ _ _ _ _ _ _),FR.refl _ _ _⟩ D;simp[execOp,Instr.lookup,run_underlying F,o,i,c,rK,aX,C w] at r ⊢;rw[r];simp[C w]
  ·rename_i id B;rw[B] at p;cases p;split at b
   ·rename_i k' es H;split at b
    ·rename_i u;subst u;simp only[An] at b;obtain⟨key,A,b⟩:=b;obtain rfl:_=s':=by simpa using b
     have i:=ahM A E;obtain⟨ents,clock,S,G⟩:=ali h H;have c:=yD (w:=w) q key ents.isEmpty;have r:=aaz (P:=P) (w:=w) q G key;refine eX rfl (w':=w) (cv:=if j then .tuple #[k'.valV ((aX es key).getD k'.zero),.bool (aX es key).isSome] else k'.valV ((aX es key).getD k'.zero)) ?_ ⟨g,h.set d (amP k' j _ (λv L=>(aoY G L).2.1)) (amQ _ _ _ _ _ _ _),FR.refl _ _ _⟩ D;simp only[execOp,Instr.lookup,o,i,CW,run_underlying F,Go.MapKept.run_getObj_map S,B9,Sem.run_pure,c,r];unfold rK;cases J:aX es key with
     |none=>simp[C w]
     |some v=>simp
    ·simp at b
   ·simp at b
  ·simp at b
 ·simp at f
theorem keeps{c b:Value}(h:CZ 10000 c b=true)(w:World):(Instr.keyThatStays c b).run P w=.ok b w:=by simp[Instr.keyThatStays,h]
theorem as1{d:Option Nat}{k:MK}{x y z:aw}(c:wH P (.mput d k x y z) m=true)(o:step Γ (.mput d k x y z) s=some (true,s'))(h:SR g s w a)(S:cF g s w a s' next):m.wp P a w next Q:=by
 obtain⟨dst,N,ty,pos,u,G⟩:=m;simp only[wH,Ac,beq_iff_eq] at c;obtain⟨rfl,c⟩:=c;have q:∀t p B A,(∀ρ:Operand->Value,execOp ρ ⟨dst,N,ty,pos,u,G⟩=(do Dl t (ρ p) (ρ B) (ρ A);pure .skip))->acE P t k=true->aJ x p=true->aJ y B=true->aJ z A=true->(⟨dst,N,ty,pos,u,G⟩:Oper).wp P a w next Q:=by
  intro t p B A H h1 h2 h3 h4;obtain⟨kt,e,hu,Y,hz⟩:=ag9 h1;have J:=aI h2 h.er;have r2:=aI h3 h.er;have r3:=aI h4 h.er;generalize I:a.eval p=cx at J;simp only[step] at o;split at o
  ·rename_i id hx;rw[hx] at J;cases J;split at o
   ·rename_i k' es X;split at o
    ·rename_i M;subst M;split at o
     ·rename_i key v hk hv;obtain rfl:_=s':=by simpa using o
      have R:=ahM hk r2;obtain⟨O,D⟩:=arS hv r3;obtain⟨ents,clock,E,F⟩:=ali h X;have r:=yD (w:=w) Y key false;have hf:=aaz (P:=P) (w:=w) Y F key;have fin:∀f b C,fQ C f b->C=cm es key v->(Dl t (.map (some (g.ρ id))) (k'.keyV key) (k'.valV v)).run P w=.ok () {w with heap:=w.heap.setIfInBounds (g.ρ id) (.map f b)}->(⟨dst,N,ty,pos,u,G⟩:Oper).wp P a w next Q:=by
       rintro f b C L rfl hr;obtain⟨Z,W⟩:=h.putMap X E L;unfold CF Df;rw[H,I,R,O];simp only[CW,hr,B9,Sem.run_pure];cases dst with
       |none=>exact S _ _ g Z W rfl
       |some d=>exact S _ _ g (Z.set d (.undef _) (by simp[au])) W rfl
      cases j:aX es key with
      |some v0=>obtain⟨b1,b2,en,b3,b4,b5,b6⟩:=aoY F j;refine fin _ _ _ (F.set (i:=oA es key) (x:=key) D) (arU j).symm ?_;simp[Dl,run_underlying hu,Go.MapKept.run_getObj_map E,r,hf,rK,j,b3,b4,keeps (aqZ k' key),Go.MapKept.run_setObj_map _ E]
      |none=>refine fin _ _ _ (F.push (x:=key) D) (aq1 j).1.symm ?_;simp[Dl,run_underlying hu,Go.MapKept.run_getObj_map E,r,hf,rK,j,Go.MapKept.run_setObj_map _ E]
     ·simp at o
    ·simp at o
   ·simp at o
  ·simp at o
 split at c;·rename_i t p B A;simp only[Ac] at c;exact q t p B A (λρ=>by simp[execOp]) c.1 c.2.1 c.2.2.1 c.2.2.2
 ·rename_i t p B A;simp only[Ac] at c;exact q t p B A (λρ=>by simp[execOp]) c.1 c.2.1 c.2.2.1 c.2.2.2
 ·simp at c
end
end
def arV(P:Program)(o:IOp)(m:Oper):Bool:=
 match o with
 | .apo d k x y=>mb P (.apu d k x y) m
 |_=>false
section
variable{w w':World}{g g':Gh}{s s':St}{a:Act}{P:Program}{Γ:av}{m:Oper}{next:Act->World->Prop}{Q:Exit->Act->World->Prop}
theorem atK{d:Nat}{k:EK}{x y:aw}(o:g.β=nk P)(f:arV P (.apo d k x y) m=true)(b:step Γ (.apo d k x y) s=some (true,s'))(h:SR g s w a)(r:cF g s w a s' next):m.wp P a w next Q:=by
 have f:mb P (.apu d k x y) m=true:=f;simp only[step] at b;split at b
 ·rename_i N l e O c J L;split at b
  ·rename_i M;split at b
   ·rename_i A;subst M A;split at b;case isFalse=>cases b
    rename_i H;simp only[Ah,Ap,Ac,decide_eq_true_eq] at b;obtain⟨⟨E,D⟩,rfl⟩:=b;have q:(x.after s).hp=s.hp:=by cases x<;>rfl
    have i:(x.after s).env.length=s.env.length:=by cases x<;>simp[aw.after,St.set]
    refine aqP (s':=(x.after s).set d (.ul e (l++c))) (Γ:=Γ) o f ?_ h ?_;·simp only[step,J,L];simp[E]
    ·intro F w' g' C I G;have u:(eV.opn (.slot d)).step ((x.after s).set d (.ul e (l++c)))=some (true,{(x.after s).set d (.sw e s.hp.length (l++c).length) with hp:=s.hp++[some [.rw e (l++c)],none]}):=by
      have v:((x.after s).set d (.ul e (l++c))).get d=.ul e (l++c):=by simp[St.get,St.set,Af,i,H]
      have p:((x.after s).set d (.ul e (l++c))).hp=s.hp:=q;simp only[eV.step,St.at?,v,St.put?,p];have:0<(l++c).length:=D;simp only[this,decide_true,St.set,Di,q]
     obtain⟨j,B,t⟩:=alf C u;exact r F w' j B (I.trans t) G
   ·simp at b
  ·simp at b
 ·simp at b
end
def wI:List aw->List Operand->Bool
 | [],[]=>true
 |x::xs,y::ys=>aJ x y&&wI xs ys
 |_,_=>false
def aiK:Op->Option (FuncId×List Operand)
 | .call c=>match c.callee with| .value (.func f)=>some (f,c.args.toList)|_=>none
 |_=>none
def amR:Op->Option (Operand×List Operand)
 | .call c=>match c.callee with| .value (.tmp n)=>some (.tmp n,c.args.toList)|_=>none
 |_=>none
def ql(P:Program)(f:FuncId):Bool:=match P.funcs[f]? with|some fn=>fn.body.isSome&&fn.name !="runtime.NumGoroutine"|none=>false
def yu(P:Program)(o:IOp)(m:Oper):Bool:=
 match o with
 | .call d f avs=>(m.dst==d)&&(match aiK m.op with|some (c,b)=>(f==c)&&(wI avs b&&ql P f)|none=>false)
 | .dcall d f x avs=>(m.dst==d)&&(match amR m.op with|some (e,b)=>aJ x e&&(wI avs b&&ql P f)|none=>false)
 |_=>false
def aiL(P:Program)(o:IOp)(m:Oper):Bool:=a7 P o m||wF P o m||yu P o m||ny P o m||aoU P o m||aoX P o m||tZ P o m||mb P o m||wH P o m||arV P o m||atI P o m
def acG(P:Program)(c:Array Oper)(x:GOp)(m:Oper):Bool:=
 aiL P x.o m&&(x.o.dst==m.dst)&&(match x.g,m.guard with
  |none,none=>true
  |some (n,b),some (j,d)=>(b==d)&&((c[j]?).bind (·.dst)==some n)
  |_,_=>false)
def wz(P:Program)(b:Array Oper):Nat->List GOp->Bool
 |i,[]=>i==b.size
 |i,x::l=>(match b[i]? with|some m=>acG P b x m|none=>false)&&wz P b (i+1) l
def yv(P:Program)(imp:List Nat)(c:Array Oper)(l:List GOp)(b:List (List Nat)):Bool:=
 (P.follows .mixedOrders&&wz P c 0 l)&&((A8 l.length).all λj=>
  (match c[j]? with
   |some m=>m.after.toList.all (λe=> !Region.binds .any e||decide (e.on<j))&&(b.getD j []).all (λi=>m.after.toList.any λe=>BN .any e&&(e.on==i||(b.getD e.on []).contains i))
   |none=>false)&&
  (match l[j]? with
   |some x=>(A8 j).all λi=>(b.getD j []).contains i||(match l[i]? with|some y=>acC imp y x|none=>false)
   |none=>false))
def rL(P:Program)(b:Array Oper):Nat->List GOp->Bool
 |_,[]=>true
 |i,x::l=>(match b[i]? with|some m=>acG P b x m|none=>false)&&rL P b (i+1) l
def qX(P:Program)(b:Array Oper):Nat->List (List eV×List GOp)->Bool
 |i,[]=>i==b.size
 |i,x::l=>rL P b i x.2&&qX P b (i+x.2.length) l
def ba(P:Program)(imp:List Nat)(base:Nat):IR->Code->Bool
 | .bad,_=>true
 | .skip,.skip=>true
 | .skip,.label _=>true
 | .reg l _,.region _ b false=>wz P b 0 l
 | .reg l e,.region _ b true=>yv P imp b l e
 | .rgs l,.region _ b false=>qX P b 0 l
 | .seq x y,.seq c d=>ba P imp base x c&&ba P imp base y d
 | .cond v x y,.cond u c d=>aJ v u&&(ba P imp base x c&&ba P imp base y d)
 | .block i x,.block j c=>i==j&&ba P imp base x c
 | .loop _ n x,.loop c=>BV base n&&ba P imp base x c
 | .cut _ n x,c=>BV base n&&ba P imp base x c
 | .gh _ x,c=>ba P imp base x c
 | .ope _ x,c=>ba P imp base x c
 | .ghp _ x,c=>ba P imp base x c
 | .exit i,.exit j=>i==j
 | .ret,.ret=>true
 |_,_=>false
def ua(P:Program)(g:Gh)(w:World):Prop:=g.β=nk P∧(aay≠[]->g.I acy 0∧g.O acy=none∧acy<w.heap.size∧∃t,w.heap[acy]? =some (.cells aay.toArray t (0,0)))
structure qY(P:Program)(g:Gh)(hp:List ai)(w:World):Prop where
 base:ua P g w
 notI:∀(id:Nat) cs,hp[id]? =some (some cs)->∀j,¬g.I (g.ρ id) j
theorem qY.on{P:Program}{g₀ g:Gh}{hp₀ hp:List ai}{w₀ w:World}(h:qY P g₀ hp₀ w₀)(f:FR g₀ hp₀ w₀ g hp w):ua P g w:=by
 refine⟨f.beta.trans h.base.1,λc=>?_⟩;obtain⟨d,j,b,t,k⟩:=h.base.2 c;have i:∀(id:Nat) cs,hp₀[id]? =some (some cs)->g₀.ρ id≠acy:=λid cs hid e=>h.notI id cs hid 0 (e▸d)
 exact⟨f.up.mono _ _ d,f.oSame _ b i j,AC b f.size,t,(f.block _ b i j).trans k⟩
theorem ua.sub{P:Program}{g b:Gh}{w:World}(h:ua P g w)(f:b.β=g.β)(d:g.I acy 0->b.I acy 0)(e:g.O acy=none->b.O acy=none):ua P b w:=
 ⟨f.trans h.1,λc=>have k:=h.2 c;⟨d k.1,e k.2.1,k.2.2⟩⟩
def io(P:Program)(f:FuncId)(vs:List V)(hp:List ai)(v:V)(hp':List ai):Prop:=
 ∀(w:World)(g:Gh)(b:Array Value),ua P g w->HR g hp w->vs.length=b.size->(∀x∈vs,x.bare=true)->
  (∀(i:Nat) x cv,vs[i]? =some x->b[i]? =some cv->VRel g.I g.ρ hp.length w x cv)->
  Calls P f b w λe w'=>∃cv c,e=.returned cv∧HR c hp' w'∧FR g hp w c hp' w'∧VRel c.I c.ρ hp'.length w' v cv∧au c w' .res v cv
def cY(P:Program)(Γ:av):Prop:=∀f vs hp v hp',Γ f vs hp=some (true,v,hp')->io P f vs hp v hp'
section
variable{w:World}{g:Gh}{s s':St}{a:Act}{P:Program}{Γ:av}{m:Oper}{next:Act->World->Prop}{Q:Exit->Act->World->Prop}
theorem acH(h:ER g s.hp.length w s.env a.tmps):∀(xs:List aw)(ys:List Operand),wI xs ys=true->xs.length=ys.length∧
  ∀(i:Nat) v cv,(xs.map λx=>disown (x.ev s))[i]? =some v->(ys.map a.eval)[i]? =some cv->VRel g.I g.ρ s.hp.length w v cv
 | [],[],_=>⟨rfl,by simp⟩
 |x::xs,y::ys,hp=>by
  simp only[wI,Ac] at hp;obtain⟨e,d⟩:=acH h xs ys hp.2;refine⟨by simp[e],?_⟩;intro i v cv c b;cases i with
  |zero=>simp at c b;subst c b;exact(aI hp.1 h).disown
  |succ i=>exact d i v cv (by simpa using c) (by simpa using b)
 | [],_::_,hp=>by simp[wI] at hp
 |_::_,[],hp=>by simp[wI] at hp
theorem ahb{o:Op}{f:FuncId}{avs:List Operand}(h:aiK o=some (f,avs)):∃i,o=.call ⟨.value (.func f),⟨avs⟩,i⟩:=by
 unfold aiK at h;split at h
 ·rename_i c;obtain⟨b,⟨d⟩,e⟩:=c;simp only at h;split at h;·simp only[Ah,Ap] at h;obtain⟨rfl,rfl⟩:=h;exact⟨_,rfl⟩
  ·simp at h
 ·simp at h
def Gh.hide(g:Gh):Gh:={g with O:=λb=>match g.O b with|some (.slot _)=>none|o=>o}
theorem HR.hide{hp:List ai}(h:HR g hp w):HR g.hide hp w:=by
 refine⟨?_,h.apart,h.notI,?_,h.exI,?_⟩
 ·intro id cs hid;refine(h.obj id cs hid).keep rfl λq e v u d=>?_
  refine⟨d.len,d.plain,d.typed,d.cold,d.one,d.rel,?_,d.bn⟩;intro j c cv t f;have:=d.own j c cv t f;refine b7 this rfl (λb j r=>⟨r,rfl⟩) ?_;intro b i;exact⟨by simp[Gh.hide,i],rfl,λj p=>p⟩
 ·intro id cs hid;simp[Gh.hide,h.notO id cs hid]
 ·intro b o i;cases k:g.O b with
  |none=>simp[Gh.hide,k] at i
  |some o'=>exact h.oLt b o' k
def Gh.back(g c:Gh)(dst:Option Nat):Gh:={I:=c.I,ρ:=c.ρ,β:=c.β,O:=λb=>match g.O b with
 |some (.slot n)=>some (.slot n)
 |_=>match c.O b with
  |some .res=>dst.map .slot
  |some (.slot _)=>none
  |o=>o}
theorem Gh.back_else{g d:Gh}{dst:Option Nat}{b:Nat}(h:∀n,g.O b≠some (.slot n)):(g.back d dst).O b=(match d.O b with
  |some .res=>dst.map .slot
  |some (.slot _)=>none
  |o=>o):=by
 cases c:g.O b with
 |none=>simp only[Gh.back,c]
 |some o=>
  cases o with
  |slot n=>exact absurd c (h n)
  |cell i j=>simp only[Gh.back,c]
  |res=>simp only[Gh.back,c]
theorem aeY{hp':List ai}{w':World}{t:Gh}{dst:Option Nat}{v:V}{cv:Value}(h:SR g s w a)(L:HR t hp' w')(x:FR g.hide s.hp w t hp' w')
  (q3:VRel t.I t.ρ hp'.length w' v cv) (X:au t w' .res v cv):
  SR (g.back t dst) (St.setO {s with hp:=hp'} dst v) w' (a.put dst cv)∧FR g s.hp w (g.back t dst) hp' w':=by
 have p:∀b n,g.O b=some (.slot n)->g.hide.O b=none:=λb n f=>by simp[Gh.hide,f]
 have q:∀b n,g.O b=some (.slot n)->∀(id:Nat) cs,s.hp[id]? =some (some cs)->g.hide.ρ id≠b:=by intro b n f id cs hid e;have:=h.hr.notO id cs hid;rw[show g.ρ id=b from e,f] at this;simp at this
 have r:∀b o,t.O b=some o->∀n,g.O b≠some (.slot n):=by intro b o f n A;have:=x.oSame b (h.hr.oLt _ _ A) (q b n A) (p b n A);rw[this] at f;simp at f
 have G:∀b o,t.O b=some o->(∀n,o≠.slot n)->o≠.res->(g.back t dst).O b=some o:=by
  intro b o f J y;rw[Gh.back_else (r b o f),f];cases o with
  |slot n=>exact absurd rfl (J n)
  |cell i j=>rfl
  |res=>exact absurd rfl y
 have blk:∀b n,g.O b=some (.slot n)->w'.heap[b]? =w.heap[b]?∧∀j,t.I b j->g.I b j:=by intro b n f;have E:=h.hr.oLt _ _ f;exact⟨x.block b E (q b n f) (p b n f),λj W=>x.iSame b j E (q b n f) (p b n f) W⟩
 have up:Up g.I g.ρ s.hp.length w t.I t.ρ hp'.length w':=x.up;have hs:SR (g.back t dst) {s with hp:=hp'} w' a:=by
  refine⟨⟨?_,L.apart,L.notI,?_,L.exI,?_⟩,⟨h.er.size,?_,?_⟩⟩
  ·intro id cs hid;refine(L.obj id cs hid).keep rfl λM e fz J y=>?_
   refine⟨y.len,y.plain,y.typed,y.cold,y.one,y.rel,?_,y.bn⟩;intro j c cv hc C;refine b7 (y.own j c cv hc C) rfl (λb j Y=>⟨Y,rfl⟩) ?_;intro b f;exact⟨G b _ f (by simp) (by simp),rfl,λj W=>W⟩
  ·intro id cs hid;have h0:=L.notO id cs hid;show (g.back t dst).O (t.ρ id)=none;by_cases B:∃n,g.O (t.ρ id)=some (.slot n)
   ·obtain⟨n,A⟩:=B;exfalso;rcases x.live id cs hid with⟨H,F⟩|⟨_,F|F|⟨al,ar,h5,h6⟩⟩
    ·have E:id<s.hp.length:=(Ad.1 F).1;rw[show t.ρ id=g.ρ id from x.up.rho id E,h.hr.notO id H F] at A;simp at A
    ·have:=h.hr.oLt _ _ A;omega
    ·exact F (p _ n A)
    ·exact q _ n A al ar h5 h6
   ·rw[Gh.back_else (λn A=>B ⟨n,A⟩),h0]
  ·intro b o f;by_cases B:∃n,g.O b=some (.slot n);·obtain⟨n,A⟩:=B;have:=h.hr.oLt _ _ A;exact AC this x.size
   ·rw[Gh.back_else (λn A=>B ⟨n,A⟩)] at f;cases D:t.O b with
    |none=>rw[D] at f;simp at f
    |some o'=>exact L.oLt b o' D
  ·intro n v cv hv C;exact(h.er.rel n v cv hv C).up up
  ·intro n v cv hv C;refine b7 (h.er.own n v cv hv C) x.beta (λb j Y=>⟨up.mono b j Y,up.cell b j Y⟩) ?_;intro b f;obtain⟨b1,b2⟩:=blk b n f;exact⟨by simp[Gh.back,f],b1,b2⟩
 have fr:FR g s.hp w (g.back t dst) hp' w':=by
  refine⟨x.beta,x.os,x.tape,x.output,x.size,?_,up,?_,?_,?_⟩;·intro b f R D;exact x.block b f R (by simp[Gh.hide,D])
  ·intro b j f R D W;exact x.iSame b j f R (by simp[Gh.hide,D]) W
  ·intro b f R D;have:=x.oSame b f R (by simp[Gh.hide,D]);rw[Gh.back_else (by simp[D]),this]
  ·intro id cs hid;rcases x.live id cs hid with F|⟨J,y|y|y⟩
   ·exact .inl F
   ·exact .inr ⟨J,.inl y⟩
   ·refine .inr ⟨J,.inr (.inl λh3=>y ?_)⟩;show (match g.O (t.ρ id) with|some (.slot _)=>none|o=>o)=none;rw[show g.O (t.ρ id)=none from h3]
   ·exact .inr ⟨J,.inr (.inr y)⟩
 refine⟨?_,fr⟩;cases dst with
 |none=>exact hs
 |some d=>
  refine hs.set d q3 ?_;cases v with
  |sl k o xs=>
   cases o with
   |may u=>simp[au]
   |own=>
    cases cv with
    |slice N b3 cap=>
     cases N with
     |none=>simp[au]
     |some N=>obtain⟨S,o2,Z⟩:=X;refine⟨?_,o2,Z⟩;rw[Gh.back_else (r _ _ S),S];rfl
    |_=>simp[au]
  |raw n=>
   cases cv with
   |pointer N=>
    cases N with
    |none=>simp[au]
    |some N=>obtain⟨S,o2,Z⟩:=X;refine⟨?_,o2,Z⟩;rw[Gh.back_else (r _ _ S),S];rfl
   |_=>simp[au]
  |ul k xs=>
   rcases X with X|⟨b,cap,M,e,fz,m0,m1,m2,m3,m4,m5,m6,m7,m8,m9⟩
   ·exact .inl X
   ·refine .inr ⟨b,cap,M,e,fz,m0,m1,m2,m3,?_,m5,m6,m7,m8,m9⟩;rw[Gh.back_else (r _ _ m4),m4];rfl
  |_=>simp[au]
theorem as2(A:cY P Γ)(C:ua P g w){d:Option Nat}{f:Nat}{avs:List aw}(j:yu P (.call d f avs) m=true)(r:step Γ (.call d f avs) s=some (true,s'))(h:SR g s w a)(H:cF g s w a s' next):m.wp P a w next Q:=by
 obtain⟨dst,op,ty,pos,t,N⟩:=m;simp only[yu,Ac,beq_iff_eq] at j;obtain⟨rfl,j⟩:=j;split at j
 ·rename_i f' b u;obtain⟨L,rfl⟩:=ahb u;simp only[Ac,beq_iff_eq] at j;obtain⟨rfl,R,o⟩:=j;simp only[step] at r;split at r
  ·rename_i c v hp' J;simp only[Ah,Ap] at r;obtain⟨rfl,rfl⟩:=r;obtain⟨M,W⟩:=acH h.er avs b R;have D:=A _ _ _ _ _ J;unfold ql at o;split at o
   ·rename_i fn p;simp only[Ac,bne_iff_ne,ne_eq] at o;obtain⟨G,X⟩:=o;have k:fn.body.isNone=false:=by cases hb:fn.body<;>simp_all
    have q:(execOp a.eval ⟨dst,.call ⟨.value (.func f),⟨b⟩,L⟩,ty,pos,t,N⟩).run P w=.ok (.enter f (b.map a.eval).toArray) w:=by simp[execOp,resolve,Act.eval,Da,invoke,callFunc,p,X,k];intro E;rw[E] at G;simp at G
    unfold CF;rw[q,Oper.upon_enter];refine(D w g.hide (b.map a.eval).toArray (C.sub rfl (λh=>h) (λh=>by simp[Gh.hide,h])) h.hr.hide (by simp[M]) (by intro x F;obtain⟨y,_,rfl⟩:=AE.1 F;exact dV _) (λi x cv F B=>W i x cv F (by simpa using B))).mono ?_;rintro e w' ⟨cv,g',rfl,S,q2,Y,Z⟩;simp only;obtain⟨O,I⟩:=aeY (dst:=dst) h S q2 Y Z;refine H _ _ _ O ?_ (by cases dst<;>rfl);cases dst<;>exact I
   ·simp at o
  ·simp at r
 ·simp at j
theorem aof{o:Op}{x:Operand}{avs:List Operand}(h:amR o=some (x,avs)):∃f,o=.call ⟨.value x,⟨avs⟩,f⟩:=by
 unfold amR at h;split at h
 ·rename_i c;obtain⟨b,⟨d⟩,e⟩:=c;simp only at h;split at h;·simp only[Ah,Ap] at h;obtain⟨rfl,rfl⟩:=h;exact⟨_,rfl⟩
  ·simp at h
 ·simp at h
theorem arW(F:cY P Γ)(G:ua P g w){d:Option Nat}{f:Nat}{x:aw}{avs:List aw}(o:yu P (.dcall d f x avs) m=true)(r:step Γ (.dcall d f x avs) s=some (true,s'))(h:SR g s w a)(O:cF g s w a s' next):m.wp P a w next Q:=by
 obtain⟨dst,op,ty,pos,C,Z⟩:=m;simp only[yu,Ac,beq_iff_eq] at o;obtain⟨rfl,o⟩:=o;split at o
 ·rename_i N b E;obtain⟨Y,rfl⟩:=aof E;simp only[Ac,beq_iff_eq] at o;obtain⟨X,h1,u⟩:=o;have H:=aI X h.er;simp only[step] at r;split at r
  ·rename_i f' lc k;rw[k] at H;split at r
   ·rename_i c v hp' W;simp only[Ah,Ap,Ac] at r;obtain⟨⟨D,rfl⟩,rfl⟩:=r;obtain rfl:=Ax D;generalize j:a.eval N=S at H;cases H with
    |fn _ _ vs hl hv=>
    obtain⟨L,k2⟩:=acH h.er avs b h1;have I:=F _ _ _ _ _ W;unfold ql at u;split at u
    ·rename_i fn A;simp only[Ac,bne_iff_ne,ne_eq] at u;obtain⟨M,h4⟩:=u;have q:fn.body.isNone=false:=by cases hb:fn.body<;>simp_all
     have B:(execOp a.eval ⟨dst,.call ⟨.value N,⟨b⟩,Y⟩,ty,pos,C,Z⟩).run P w=.ok (.enter f' ((b.map a.eval).toArray++vs)) w:=by simp[execOp,resolve,j,Da,invoke,callFunc,A,h4,q];intro J;rw[J] at M;simp at M
     unfold CF;rw[B,Oper.upon_enter];refine(I w g.hide ((b.map a.eval).toArray++vs) (G.sub rfl (λh=>h) (λh=>by simp[Gh.hide,h])) h.hr.hide (by simp[L,hl]) (by
      intro x k;rcases Aw.1 k with k|k;·obtain⟨y,_,rfl⟩:=AE.1 k;exact dV _
      ·obtain⟨y,_,rfl⟩:=AE.1 k;exact dV _) (λi x cv k j=>by
       have p:(avs.map λy=>disown (y.ev s)).length=(b.map a.eval).length:=by simp[L]
       rcases AI i (b.map a.eval).length with t|t;·rw[Ar (by rw[p];exact t)] at k;rw[B8 (by simpa using t)] at j;exact k2 i x cv k (by simpa using j)
       ·rw[Aq (by rw[p];exact t),Ay,An] at k;obtain⟨y,hy,rfl⟩:=k;rw[Array.getElem?_append_right (by simpa using t)] at j;refine(hv _ y cv hy ?_).disown;rw[p];simpa using j)).mono ?_
     rintro e w' ⟨cv,g',rfl,q1,q2,q3,q4⟩;simp only;obtain⟨r1,R⟩:=aeY (dst:=dst) h q1 q2 q3 q4;refine O _ _ _ r1 ?_ (by cases dst<;>rfl);cases dst<;>exact R
    ·simp at u
   ·simp at r
  ·simp at r
 ·simp at o
theorem ahN(j:cY P Γ)(f:ua P g w){o:IOp}(b:aiL P o m=true)(e:step Γ o s=some (true,s'))(h:SR g s w a)(c:cF g s w a s' next):m.wp P a w next Q:=by
 unfold aiL at b;simp only[Ba] at b;rcases b with(((((((((b|b)|b)|b)|b)|b)|b)|b)|b)|b)|b
 ·cases o with
  |pick=>exact asQ b e h c
  |bin=>exact ati b e h c
  |un=>exact atW b e h c
  |cvi=>exact atf b e h c
  |b2s=>exact atg b e h c
  |lens=>exact asR b e h c
  |lenl=>exact asS b e h c
  |idx=>exact ath b e h c
  |ixa=>exact atj b e h c
  |subs=>exact asT b e h c
  |subl=>exact asU b e h c
  |fad=>exact atk b e h c
  |ext=>exact atl b e h c
  |nck=>exact atm b e h c
  |mx=>exact atX b e h c
  |beq=>exact atn b e h c
  |snil=>exact asV b e h c
  |ld d n agg i x=>
   cases i with
   |false=>exact apy b e h c
   |true=>simp[a7] at b
  |_=>simp[a7] at b
 ·cases o with
  |mov=>exact ato b e h c
  |bsl=>exact atp f.1 b e h c
  |app=>exact atq f.1 b e h c
  |_=>simp[wF] at b
 ·cases o with
  |call=>exact as2 j f b e h c
  |dcall=>exact arW j f b e h c
  |_=>simp[yu] at b
 ·cases o with
  |new=>exact atr b e h c
  |box=>exact att b e h c
  |st=>exact atY b e h c
  |ld d n agg i x=>
   cases i with
   |true=>exact aqM b e h c
   |false=>simp[ny] at b
  |bld=>exact atu b e h c
  |_=>simp[ny] at b
 ·cases o with
  |_=>simp[aoU] at b
 ·cases o with
  |_=>simp[aoX] at b
 ·cases o with
  |boxe=>exact asW b e h c
  |alr=>exact atw b e h c
  |frz=>exact atx b e h c
  |lde=>exact atv b e h c
  |mkf=>exact aty b e h c
  |_=>simp[tZ] at b
 ·cases o with
  |apu=>exact aqP f.1 b e h c
  |slw=>exact atF b e h c
  |apx=>exact atG b e h c
  |blu=>exact atA f.1 b e h c
  |lnw=>exact atB b e h c
  |ixw=>exact atC b e h c
  |fdw=>exact atD b e h c
  |ldw=>exact atE b e h c
  |stw=>exact atH b e h c
  |_=>simp[mb] at b
 ·cases o with
  |mkm=>exact atJ b e h c
  |mget=>exact as0 b e h c
  |mput=>exact as1 b e h c
  |_=>simp[wH] at b
 ·cases o with
  |apo=>exact atK f.1 b e h c
  |_=>simp[arV] at b
 ·cases o with
  |_=>simp[atI] at b
structure Inv(g₀:Gh)(hp₀:List ai)(w₀:World)(df:List Deferred)(g:Gh)(s:St)(w:World)(a:Act):Prop where
 sr:SR g s w a
 fr:FR g₀ hp₀ w₀ g s.hp w
 df:a.defers=df
theorem SR.renew(h:SR g s w a)(n:Nat)(b:Bool)(c:s.get n=.bool b):SR g (s.set n (.bool b)) w a:=by have:=h.bare n;rw[c] at this;exact this
theorem alj(h:SR g s w a){o:Oper}{d:Array Oper}{j n:Nat}{b f:Bool}(q:(d[j]?).bind (·.dst)=some n)(t:o.guard=some (j,f))(k:s.get n=.bool b):
  BX o (yielded d a.tmps)=(b==f):=by
 have p:n<s.env.length:=by
  rcases AI n s.env.length with e|e;·exact e
  ·simp[St.get,Ak,AZ e] at k
 have c:n<a.tmps.size:=by rw[<-h.er.size];exact p
 have r:=h.er.get n;rw[k] at r;have i:a.tmps[n]? =some (a.tmps.getD n undef):=by simp[A9,c,Ao c]
 generalize a.tmps.getD n undef=cv at r i;cases r;simp[BX,t,yielded,q,i]
theorem alk(h:SR g s w a){o:Oper}{c:Array Oper}{j n:Nat}{k:Bool}(p:(c[j]?).bind (·.dst)=some n)(q:o.guard=some (j,k))(f:s.get n=.tup []):
  BX o (yielded c a.tmps)=false:=by
 have i:n<s.env.length:=by
  rcases AI n s.env.length with d|d;·exact d
  ·simp[St.get,Ak,AZ d] at f
 have b:n<a.tmps.size:=by rw[<-h.er.size];exact i
 have r:=h.er.get n;rw[f] at r;have e:a.tmps[n]? =some (a.tmps.getD n undef):=by simp[A9,b,Ao b]
 generalize a.tmps.getD n undef=cv at r e;cases r;simp[BX,q,yielded,p,e]
theorem aeZ(h:SR g s w a)(d:Option Nat):SR g (s.setO d (.tup [])) w (a.put d undef):=by
 cases d with
 |none=>exact h
 |some d=>exact h.set d (.tup [] #[] rfl (by simp)) (by simp[au])
theorem akb(s:St)(d:Option Nat)(v:V):(s.setO d v).hp=s.hp:=by cases d<;>rfl
theorem amS(a:Act)(d:Option Nat)(v:Value):(a.put d v).defers=a.defers:=by cases d<;>rfl
theorem yE{R:Type}{c:Bool}{x:Option R}{r:R}(h:chk c x=some r):c=true∧x=some r:=by
 cases c with
 |true=>exact⟨rfl,h⟩
 |false=>simp[chk] at h
theorem yF(A:cY P Γ){g₀:Gh}{hp₀:List ai}{w₀:World}(C:qY P g₀ hp₀ w₀){R:Type}{K:St->Option R}{r:R}{k:Array Oper}{df:List Deferred}{Q:Exit->Act->World->Prop}
  (I:∀s g w a,K s=some r->Inv g₀ hp₀ w₀ df g s w a->Q .normal a w):∀(l:List GOp)(i:Nat),wz P k i l=true->∀(s:St)(g:Gh)(w:World)(a:Act),
   cq Γ l K s=some r->Inv g₀ hp₀ w₀ df g s w a->wpOps P k Q (Bf i (k.size-i)) a w
 | [],i,x,s,g,w,a,f,h=>by simp only[wz,beq_iff_eq] at x;subst x;simp only[CE,List.range'_zero,wpOps];exact I s g w a f h
 |⟨O,o,W⟩::l,i,x,s,g,w,a,f,h=>by
  simp only[wz,Ac] at x;obtain⟨x,J⟩:=x;split at x
  ·rename_i m N;have hi:i<k.size:=by
    rcases AI i k.size with E|E;·exact E
    ·simp[C4 E] at N
   rw[show k.size-i=(k.size-(i+1))+1 by omega,Ck];simp only[acG,Ac,beq_iff_eq] at x;obtain⟨⟨E,S⟩,y⟩:=x;have v:∀e,SR g e w a->e.hp=s.hp->∀c s',jf Γ W o e=some (c,s')->chk c (cq Γ l K s')=some r->m.wp P a w (wpOps P k Q (Bf (i+1) (k.size-(i+1)))) Q:=by intro e d D c s' u B;obtain⟨rfl,B⟩:=yE B;refine ahN A (C.on h.fr) E (mt u) d ?_;intro X w' Z H M Y;refine yF A C I l (i+1) J s' Z w' X B ⟨H,?_,Y.trans h.df⟩;rw[D] at M;exact h.fr.trans M
   have skip:∀e,SR g e w a->e.hp=s.hp->cq Γ l K (e.setO o.dst (.tup []))=some r->wpOps P k Q (Bf (i+1) (k.size-(i+1))) (a.put m.dst undef) w:=by intro e d D F;rw[S] at F;refine yF A C I l (i+1) J _ g w _ F ⟨aeZ d _,?_,(amS _ _ _).trans h.df⟩;rw[akb,D];exact h.fr
   simp only[wpOps,N];match O,y,f with
   |none,y,f=>
    cases q:m.guard with
    |some p=>rw[q] at y;simp at y
    |none=>
    rw[if_pos (by simp[BX,q])];left;simp only[cq] at f;split at f;·rename_i c s' u;exact v s h.sr rfl c s' u f
    ·simp at f
   |some (n,b),y,f=>
    cases q:m.guard with
    |none=>rw[q] at y;simp at y
    |some p=>
    obtain⟨j,b'⟩:=p;rw[q] at y;simp only[Ac,beq_iff_eq] at y;obtain⟨rfl,L⟩:=y;simp only[cq] at f;split at f
    ·rename_i t G;rw[alj h.sr L q G];have d:=h.sr.renew n t G;cases t with
     |true=>
      simp only[cond_true] at f;cases b with
      |true=>
       simp only at f;rw[if_pos (by rfl)];left;split at f;·rename_i c s' u;exact v _ d rfl c s' u f
       ·simp at f
      |false=>rw[if_neg (by simp)];exact skip _ d rfl f
     |false=>
      simp only[cond_false] at f;cases b with
      |false=>
       simp only at f;rw[if_pos (by rfl)];left;split at f;·rename_i c s' u;exact v _ d rfl c s' u f
       ·simp at f
      |true=>rw[if_neg (by simp)];exact skip _ d rfl f
    ·rename_i G;rw[alk h.sr L q G,if_neg (by simp)];exact skip _ h.sr rfl f
    ·simp at f
  ·simp at x
theorem ae0{b:Array Oper}:∀(l:List GOp)(i:Nat),wz P b i l=true->b.size=i+l.length∧∀(k:Nat) x,l[k]? =some x->∃m,b[i+k]? =some m∧acG P b x m=true
 | [],i,h=>by simp only[wz,beq_iff_eq] at h;exact⟨by simp[h],by simp⟩
 |x::l,i,h=>by
  simp only[wz,Ac] at h;obtain⟨c,o⟩:=h;obtain⟨j,f⟩:=ae0 l (i+1) o;refine⟨by simp[j];omega,?_⟩;intro k y d;cases k with
  |zero=>
   simp at d;subst d;split at c;·rename_i m e;exact⟨m,e,c⟩
   ·simp at c
  |succ k=>obtain⟨m,e,p⟩:=f k y (by simpa using d);exact⟨m,by rw[<-e];congr 1;omega,p⟩
theorem ae1(D:cY P Γ){g₀:Gh}{hp₀:List ai}{w₀:World}(G:qY P g₀ hp₀ w₀){q:Array Oper}{i:Nat}{m:Oper}{x:GOp}(W:q[i]? =some m)(I:acG P q x m=true){df:List Deferred}{Q:Exit->Act->World->Prop}{K:Act->World->Prop}
  (e:dg Γ x s=some s') (h:Inv g₀ hp₀ w₀ df g s w a) (B:∀H w' y,Inv g₀ hp₀ w₀ df H s' w' y->K y w'):wpOp P q Q i K a w:=by
 obtain⟨M,o,O⟩:=x;simp only[acG,Ac,beq_iff_eq] at I;obtain⟨⟨N,J⟩,f⟩:=I;have k:(match jf Γ O o s with|some (c,s')=>chk c (some s')|none=>none)=some s'->m.wp P a w K Q:=by
  intro r;split at r
  ·rename_i c v u;obtain⟨rfl,F⟩:=yE r;obtain rfl:v=s':=by simpa using F
   refine ahN D (G.on h.fr) N (mt u) h.sr ?_;intro y w' H A R S;exact B H w' y ⟨A,h.fr.trans R,S.trans h.df⟩
  ·simp at r
 unfold wpOp;simp only[W];match M,f,e with
 |none,f,e=>
  cases d:m.guard with
  |some p=>rw[d] at f;simp at f
  |none=>
  rw[if_pos (by simp[BX,d])];exact .inl (k e)
 |some (n,b),f,e=>
  cases d:m.guard with
  |none=>rw[d] at f;simp at f
  |some p=>
  obtain⟨j,X⟩:=p;rw[d] at f;simp only[Ac,beq_iff_eq] at f;obtain⟨rfl,L⟩:=f;simp only[dg] at e;split at e
  ·rename_i t C;rw[alj h.sr L d C];split at e;·rename_i E;rw[if_pos E];exact .inl (k e)
   ·rename_i E;rw[if_neg (by simp[E])];obtain rfl:_=s':=by simpa using e
    rw[<-J];exact B g w _ ⟨aeZ h.sr _,by rw[akb];exact h.fr,(amS _ _ _).trans h.df⟩
  ·rename_i C;rw[alk h.sr L d C,if_neg (by simp)];obtain rfl:_=s':=by simpa using e
   rw[<-J];exact B g w _ ⟨aeZ h.sr _,by rw[akb];exact h.fr,(amS _ _ _).trans h.df⟩
  ·simp at e
theorem aq2(b0:cY P Γ){g₀:Gh}{hp₀:List ai}{w₀:World}(b1:qY P g₀ hp₀ w₀){imp:List Nat}(hP:dx Γ imp){R:Type}{K:St->Option R}{r:R}{u:Array Oper}{l:List GOp}{C:List (List Nat)}(hc:yv P imp u l C=true){df:List Deferred}{Q:Exit->Act->World->Prop}
  (hQ:∀s g w a,K s=some r->Inv g₀ hp₀ w₀ df g s w a->Q .normal a w):∀(k:Nat)(f:List Nat)(b:Array Bool)(s:St)(g:Gh)(w:World)(a:Act),
   f.length=k->f.Pairwise (·<·)->(∀i,i∈f↔i<l.length∧b.getD i true=false)->b.size=l.length->(∀j,j<l.length->j ∉ f->∀i∈C.getD j [],i ∉ f)->
   cq Γ (f.filterMap λi=>l[i]?) K s=some r->Inv g₀ hp₀ w₀ df g s w a->wpAny P .any u Q k b a w:=by
 simp only[yv,Ac] at hc;obtain⟨⟨-,br⟩,a1⟩:=hc;obtain⟨F,X⟩:=ae0 l 0 br;simp only[A1] at F X
 have hj:∀j,j<l.length->∃m x,u[j]? =some m∧l[j]? =some x∧acG P u x m=true∧(∀e∈m.after,BN .any e=true->e.on<j)∧
   (∀i∈C.getD j [],∃e∈m.after,BN .any e=true∧(e.on=i∨i∈C.getD e.on []))∧(∀i,i<j->i∈C.getD j []∨∃y,l[i]? =some y∧acC imp y x=true):=by
  intro j J;have h0:=Al.1 a1 j (Bm.2 J);simp only[Ac] at h0;obtain⟨c,t⟩:=h0;have hx:l[j]? =some l[j]:=Ab J;obtain⟨m,L,S⟩:=X j _ hx;rw[L] at c;rw[hx] at t;simp only[Ac] at c;refine⟨m,l[j],L,hx,S,?_,?_,?_⟩;·intro e M D;have:=Al.1 c.1 e (by simpa using M);simpa [D] using this
  ·intro i hi;have:=Al.1 c.2 i hi;obtain⟨e,M,D⟩:=Cg.1 this;simp only[Ac,Ba,beq_iff_eq,BP] at D;exact⟨e,by simpa using M,D.1,D.2⟩
  ·intro i hi;have:=Al.1 t i (Bm.2 hi);simp only[Ba,BP] at this;rcases this with Y|Y;·exact .inl Y
   ·right;split at Y;·rename_i y hy;exact⟨y,hy,Y⟩
    ·simp at Y
 have q:∀(f:List Nat)(b:Array Bool),(∀i,i∈f↔i<l.length∧b.getD i true=false)->b.size=l.length->∀j m,u[j]? =some m->(j∈CY .any u b↔j∈f∧∀e∈m.after,BN .any e=true->e.on<l.length∧e.on ∉ f):=by
  intro f b d E j m L;have J:j<l.length:=by rw[<-F];exact(AP.1 L).1
  have key:∀i,b.getD i false=true↔i<l.length∧i ∉ f:=by
   intro i;rw[d i];rcases AI i b.size with c|c
   ·have t:i<l.length:=by omega
    simp[A9,c,t]
   ·have t:¬i<l.length:=by omega
    have Y:¬i<b.size:=by omega
    simp[A9,Y,t]
  rw[mem_ready,d j];constructor;·rintro⟨c,o,W,t⟩;rw[L] at W;cases W;exact⟨⟨J,c⟩,λe M D=>(key _).1 (t e M D)⟩
  ·rintro⟨⟨_,c⟩,t⟩;exact⟨c,m,L,λe M D=>(key _).2 (t e M D)⟩
 intro k;induction k with
 |zero=>intro f b s g w a v G d E H hr h;have:f=[]:=A7 v;subst this;simp only[wpAny];refine⟨?_,hQ s g w a hr h⟩;rw[Dg];intro j I;have:=mem_ready.1 I;obtain⟨hu,o,W,_⟩:=this;exact absurd ((q [] b d E j o W).1 I).1 (by simp)
 |succ k ih=>
  intro f b s g w a v G d E H hr h;simp only[wpAny];refine⟨?_,?_⟩
  ·intro bY;exfalso;cases f with
   |nil=>simp at v
   |cons j f=>
    have ad:=((d j).1 (AU ..)).1;obtain⟨m,x,L,hx,S,M,hp,hi⟩:=hj j ad;have:j∈CY .any u b:=by
     refine(q _ b d E j m L).2 ⟨AU ..,λe an D=>?_⟩;have J:=M e an D;refine⟨by omega,?_⟩;intro p;rcases AQ.1 p with c|c;·omega
     ·have:=(CV.1 G).1 _ c;omega
    rw[bY] at this;simp at this
  ·intro j I;obtain⟨hu,o,W,_⟩:=mem_ready.1 I;obtain⟨a4,al⟩:=(q f b d E j o W).1 I;have ad:=((d j).1 a4).1;obtain⟨m,x,L,hx,S,M,hp,hi⟩:=hj j ad;rw[L] at W;cases W;have a2:∀i∈C.getD j [],i ∉ f:=by
    intro i O;obtain⟨e,an,D,Z⟩:=hp i O;obtain⟨d1,d2⟩:=al e an D;rcases Z with rfl|Z;·exact d2
    ·exact H _ d1 d2 i Z
   obtain⟨A,B,rfl⟩:=List.append_of_mem a4;have hA:∀i∈A,i<j:=by intro i N;exact(CH.1 G).2.2 i N j (AU ..)
   have hB:∀i∈B,j<i:=by intro i b2;exact(CV.1 (CH.1 G).2.1).1 i b2
   rw[CD,CU hx] at hr;obtain⟨s',hg,a3⟩:=apG hP _ s (by
    intro y hy;obtain⟨i,N,b6⟩:=List.mem_filterMap.1 hy;rcases hi i (hA i N) with c|⟨y',c,t⟩
    ·exact absurd (AX _ N) (a2 i c)
    ·rw[b6] at c;cases c;exact t) hr
   rw[<-CD] at a3;refine ae1 b0 b1 L S hg h ?_;intro g' w' a' bl;have p:∀i,i∈A++B↔i∈A++j::B∧i≠j:=by
    intro i;simp only[Aw,AQ];constructor
    ·rintro(c|c);·exact⟨.inl c,by have:=hA i c;omega⟩
     ·exact⟨.inr (.inr c),by have:=hB i c;omega⟩
    ·rintro⟨c|c|c,t⟩;·exact .inl c
     ·exact absurd c t
     ·exact .inr c
   refine ih (A++B) (b.setIfInBounds j true) s' g' w' a' ?_ ?_ ?_ (by simp[E]) ?_ a3 bl;·simp only[AD,Av] at v ⊢;omega
   ·exact G.sublist (DK (List.sublist_cons_self ..) _)
   ·intro i;rw[p,d];by_cases ae:i=j
    ·subst ae;have b5:i<b.size:=by omega
     simp[A9,b5]
    ·rw[getD_set_ne true (λe=>ae e.symm)];simp[ae]
   ·intro j' bs a5 i O b4;obtain⟨c,t⟩:=(p i).1 b4;by_cases a9:j'=j;·subst a9;exact a2 i O c
    ·exact H j' bs (λbx=>a5 ((p j').2 ⟨bx,a9⟩)) i O c
theorem ub{α:Type}:∀(l:List α),((A8 l.length).filterMap λi=>l[i]?)=l
 | []=>rfl
 |x::l=>by rw[Av,List.range_succ_eq_map,CU (b:=x) (by simp),List.filterMap_map];have:=ub l;simp only[DE,Nat.succ_eq_add_one,AV];rw[this]
theorem Inv.drew{g₀:Gh}{hp₀:List ai}{w₀:World}{df:List Deferred}(h:Inv g₀ hp₀ w₀ df g s w a):Inv g₀ hp₀ w₀ df g s w.drew a:=by
 have u:Up g.I g.ρ s.hp.length w g.I g.ρ s.hp.length w.drew:=⟨λ_ _ h=>h,λ_ _ _=>rfl,λ_ _=>rfl,Am _⟩
 refine⟨⟨h.sr.hr.drew,⟨h.sr.er.size,λn v cv c d=>(h.sr.er.rel n v cv c d).up u,λn v cv c d=>b7 (h.sr.er.own n v cv c d) rfl (λb j f=>⟨f,rfl⟩) (λb i=>⟨i,rfl,λj e=>e⟩)⟩⟩,?_,h.df⟩;exact⟨h.fr.beta,h.fr.os,h.fr.tape,h.fr.output,h.fr.size,h.fr.block,h.fr.up.trans u,h.fr.iSame,h.fr.oSame,h.fr.live⟩
theorem apM(k:cY P Γ){g₀:Gh}{hp₀:List ai}{w₀:World}(o:qY P g₀ hp₀ w₀){imp:List Nat}(x:dx Γ imp){R:Type}{K:St->Option R}{r:R}{id:Nat}{b:Array Oper}{l:List GOp}{f:List (List Nat)}(p:yv P imp b l f=true){df:List Deferred}{Q:Exit->Act->World->Prop}
  (v:∀s g w a,K s=some r->Inv g₀ hp₀ w₀ df g s w a->Q .normal a w) (q:cq Γ l K s=some r) (h:Inv g₀ hp₀ w₀ df g s w a):(Code.region id b true).wp P Q a w:=by
 have c:=p;simp only[yv,Ac] at c;have d:b.size=l.length:=by simpa using (ae0 l 0 c.1.2).1
 refine wp_region_any c.1.1 ?_;rw[d];refine aq2 k o x p v l.length (A8 l.length) _ s g _ a (by simp) List.pairwise_lt_range ?_ (by simp) ?_ (by rw[ub];exact q) h.drew;·intro i;by_cases u:i<l.length<;>simp[A9,u]
 ·intro j t e;exact absurd (Bm.2 t) e
theorem qm(c:List Nat)(m:Nat):∀(b:List V)(i n:Nat)(v:V),(qi c m i b)[n]? =some v->v=.undef∨(v.lower m=true∧b[n]? =some v)
 | [],i,n,v,h=>by simp[qi] at h
 |x::b,i,n,v,h=>by
  simp only[qi] at h;cases n with
  |zero=>
   simp only[A4,Ah] at h;split at h;·rename_i d;simp only[Ac] at d;right;subst h;exact⟨d.2,by simp⟩
   ·left;exact h.symm
  |succ n=>simp only[AV] at h ⊢;exact qm c m b (i+1) n v h
theorem uc(c:List Nat)(m:Nat):∀(b:List V)(i:Nat),(qi c m i b).length=b.length
 | [],i=>rfl
 |x::b,i=>by simp[qi,uc c m b (i+1)]
theorem oF{n:Nat}:∀{cs:List V},V.lowers n cs=true->∀(i:Nat) c,cs[i]? =some c->c.lower n=true
 | [],_,i,c,b=>by simp at b
 |x::cs,h,i,c,b=>by
  simp only[V.lowers,Ac] at h;cases i with
  |zero=>simp at b;subst b;exact h.1
  |succ i=>exact oF h.2 i c (by simpa using b)
theorem aog{n:Nat}{cs:List V}(h:V.lowers n cs=true)(j:Nat)(c:V)(b:(cellsOf cs)[j]? =some c):c.lower n=true:=by
 cases d:dm cs with
 |false=>rw[eN d] at b;exact oF h j c b
 |true=>
  unfold dm at d;split at d;·simp only[cellsOf,Ay,An] at b;obtain⟨_,_,rfl⟩:=b;rfl
  ·simp[V.lowers,V.lower] at h
  ·unfold cellsOf at b;split at b;·rename_i e;cases e
   ·rename_i e;cases e
   ·rename_i e;cases e;simp[V.lowers,V.lower] at h
   ·exact oF h j c b
  ·cases d
theorem aoh{v:V}{n:Nat}(h:v.flat1=true):v.lower n=true:=by unfold V.flat1 at h;split at h<;>first|rfl|cases h
theorem VRel.fewer{I:Nat->Nat->Prop}{ρ:Nat->Nat}{N n:Nat}{v:V}{cv:Value}(h:VRel I ρ N w v cv)(u:v.lower n=true)(R:n<=N):VRel I ρ n w v cv:=by
 induction h with
 |undef cv=>exact .undef cv
 |bool b=>exact .bool b
 |int k n h=>exact .int k n h
 |str l s t h=>exact .str l s t h
 |sln k o=>exact .sln k o
 |sle k o A L=>exact .sle k o A L
 |sl k o xs b e G cap t d q M f D H C y=>refine .sl k o xs b e G cap t d q M f D H (λi x j v B J=>y i x j v B J ?_);exact aoh (acw k x v (Ai J))
 |agg cs vs t B F C y=>exact .agg cs vs t B F (λi c cv d r=>y i c cv d r (oF (by simpa [V.lower] using u) i c d))
 |tup cs vs t C y=>exact .tup cs vs t (λi c cv d r=>y i c cv d r (oF (by simpa [V.lower] using u) i c d))
 |ea cs b e f B D H C y=>exact .ea cs b e f B D H (λj c d=>y j c d (oF (by simpa [V.lower] using u) j c d))
 |ptr id e h=>exact .ptr id e (by simpa [V.lower,Cd] using u)
 |nilp=>exact .nilp
 |fn f cs vs t C y=>exact .fn f cs vs t (λi c cv d r=>y i c cv d r (oF (by simpa [V.lower] using u) i c d))
 |nilif=>exact .nilif
 |bn E n p=>exact .bn E n p
 |junk cv h=>exact .junk cv h
 |so id m cap h d q=>exact .so id m cap (by simpa [V.lower,Cd] using u) d q
 |raw n b=>exact .raw n b
 |ul k xs A cap q=>exact .ul k xs A cap q
 |hd n A cap q=>exact .hd n A cap q
 |sw k id m h d q=>exact .sw k id m (by simpa [V.lower,Cd] using u) d q
 |sx k id e m A cap h d q t O=>exact .sx k id e m A cap (by simpa [V.lower,Cd] using u) d q t O
 |wp id k i o h=>exact .wp id k i o (by simpa [V.lower,Cd] using u)
 |mr id h=>exact .mr id (by simpa [V.lower,Cd] using u)
 |nilm=>exact .nilm
theorem xl{n:Nat}:∀{hp:List ai},ol n hp=true->∀(id:Nat) cs,hp[id]? =some (some cs)->V.lowers n cs=true
 | [],_,id,cs,h=>by simp at h
 |none::hp,b,id,cs,h=>by
  cases id with
  |zero=>simp at h
  |succ id=>exact xl (hp:=hp) (by simpa [ol] using b) id cs (by simpa using h)
 |some x::hp,b,id,cs,h=>by
  simp only[ol,Ac] at b;cases id with
  |zero=>simp at h;subst h;exact b.1
  |succ id=>exact xl b.2 id cs (by simpa using h)
theorem SR.keepEnv(h:SR g s w a)(b:List Nat)(n:Nat):SR g {s with env:=qi b n 0 s.env} w a:=by
 refine⟨h.hr,⟨by simp[uc,h.er.size],?_,?_⟩⟩
 ·intro m v cv d c;rcases qm b n s.env 0 m v d with rfl|⟨_,d⟩
  ·exact .undef _
  ·exact h.er.rel m v cv d c
 ·intro m v cv d c;rcases qm b n s.env 0 m v d with rfl|⟨_,d⟩
  ·simp[au]
  ·exact h.er.own m v cv d c
theorem aoZ(s:St)(b:List Nat)(n:Nat):(s.keep b n).hp=s.hp∨n<s.hp.length∧(s.keep b n).hp=s.hp.take n:=by
 unfold St.keep;cases e:ol n (s.hp.take n) with
 |false=>exact .inl rfl
 |true=>
  rcases AI n s.hp.length with c|d;·exact .inr ⟨c,rfl⟩
  ·exact .inl (Bv d)
theorem amT{s:St}{b:List Nat}{n id:Nat}{cs:List V}(h:(s.keep b n).hp[id]? =some (some cs)):s.hp[id]? =some (some cs):=by
 rcases aoZ s b n with e|⟨_,e⟩
 ·rwa [e] at h
 ·rw[e,AO] at h;split at h;·exact h
  ·simp at h
theorem amU{s:St}{b:List Nat}{n m:Nat}(f:m<=n)(d:m<=s.hp.length):m<=(s.keep b n).hp.length:=by
 rcases aoZ s b n with e|⟨c,e⟩
 ·rwa [e]
 ·rw[e];simp;omega
theorem SR.keeps(h:SR g s w a)(b:List Nat)(n:Nat):SR g (s.keep b n) w a:=by
 unfold St.keep;cases t:ol n (s.hp.take n) with
 |false=>exact h.keepEnv b n
 |true=>
  simp only[cond_true];rcases AI n s.hp.length with F|r
  ·have o:(s.hp.take n).length=n:=by simp;omega
   have d:∀(id:Nat) cs,(s.hp.take n)[id]? =some (some cs)->s.hp[id]? =some (some cs):=by
    intro id cs hid;rw[AO] at hid;split at hid;·exact hid
    ·simp at hid
   have D:=xl t;refine⟨⟨?_,?_,?_,?_,h.hr.exI,h.hr.oLt⟩,⟨by simp[uc,h.er.size],?_,?_⟩⟩
   ·intro id cs hid;refine(h.hr.obj id cs (d id cs hid)).keep rfl λE e G C i=>?_
    refine⟨i.len,i.plain,?_,i.cold,i.one,?_,i.own,i.bn⟩
    ·intro k xs y;have:=D id _ hid;unfold agx at y;split at y;·simp[V.lowers,V.lower] at this
     ·simp[V.lowers,V.lower] at this
     ·cases y
    intro j c cv B f;rw[o];exact(i.rel j c cv B f).fewer (aog (D id cs hid) j c B) (by omega)
   ·intro id q cs A C i x;exact h.hr.apart id q cs A (d _ _ C) (d _ _ i) x
   ·intro id cs hid;exact h.hr.notI id cs (d _ _ hid)
   ·intro id cs hid;exact h.hr.notO id cs (d _ _ hid)
   ·intro m v cv p f;rw[o];rcases qm b n s.env 0 m v p with rfl|⟨u,p⟩
    ·exact .undef _
    ·exact(h.er.rel m v cv p f).fewer u (by omega)
   ·intro m v cv p f;rcases qm b n s.env 0 m v p with rfl|⟨_,p⟩
    ·simp[au]
    ·exact h.er.own m v cv p f
  ·rw[Bv r];exact h.keepEnv b n
theorem Inv.keeps{g₀:Gh}{hp₀:List ai}{w₀:World}{df:List Deferred}(h:Inv g₀ hp₀ w₀ df g s w a)(b:List Nat){n:Nat}(c:hp₀.length<=n):Inv g₀ hp₀ w₀ df g (s.keep b n) w a:=
 ⟨h.sr.keeps b n,⟨h.fr.beta,h.fr.os,h.fr.tape,h.fr.output,h.fr.size,h.fr.block,⟨h.fr.up.mono,h.fr.up.cell,h.fr.up.rho,amU c h.fr.up.num⟩,h.fr.iSame,h.fr.oSame,λid cs hid=>h.fr.live id cs (amT hid)⟩,h.df⟩
theorem wJ(d:cY P Γ){g₀:Gh}{hp₀:List ai}{w₀:World}(e:qY P g₀ hp₀ w₀){R:Type}{K:St->Option R}{r:R}{df:List Deferred}{b:Array Oper}{Q:Exit->Act->World->Prop}{rest:List Nat}
  (k:∀s g w a,K s=some r->Inv g₀ hp₀ w₀ df g s w a->wpOps P b Q rest a w):∀(l:List GOp)(i:Nat),rL P b i l=true->∀(s:St)(g:Gh)(w:World)(a:Act),
   cq Γ l K s=some r->Inv g₀ hp₀ w₀ df g s w a->wpOps P b Q (Bf i l.length++rest) a w
 | [],i,_,s,g,w,a,c,h=>by simpa using k s g w a c h
 |x::l,i,j,s,g,w,a,c,h=>by
  simp only[rL,Ac] at j;obtain⟨f,u⟩:=j;split at f;·rename_i m t;rw[nA] at c;obtain⟨s',v,c⟩:=BK.1 c;rw[Av,Ck,Bp,wpOps_cons];exact ae1 d e t f v h λo w' p q=>wJ d e k l (i+1) u s' o w' p c q
  ·cases f
theorem aiM{R:Type}{K:St->Option R}{r:R}{g₀:Gh}{hp₀:List ai}{w₀:World}{df:List Deferred}{Q:Prop}(d:∀s g,K s=some r->Inv g₀ hp₀ w₀ df g s w a->Q):∀(l:List eV)(s:St)(g:Gh),agw l K s=some r->Inv g₀ hp₀ w₀ df g s w a->Q
 | [],s,g,b,h=>d s g b h
 |x::l,s,g,b,h=>by
  simp only[agw] at b;split at b;·rename_i c s' j;obtain⟨rfl,b⟩:=yE b;obtain⟨f,e,i⟩:=mM h.sr j;exact aiM d l s' f b ⟨e,h.fr.trans i,h.df⟩
  ·cases b
theorem aiN{b:Array Oper}:∀(l:List (List eV×List GOp))(i:Nat),qX P b i l=true->i<=b.size
 | [],i,h=>by simp only[qX,beq_iff_eq] at h;omega
 |x::l,i,h=>by simp only[qX,Ac] at h;have:=aiN l _ h.2;omega
theorem aiO(d:cY P Γ){g₀:Gh}{hp₀:List ai}{w₀:World}(f:qY P g₀ hp₀ w₀){R:Type}{K:St->Option R}{r:R}{df:List Deferred}{b:Array Oper}{Q:Exit->Act->World->Prop}
  (p:∀s g w a,K s=some r->Inv g₀ hp₀ w₀ df g s w a->Q .normal a w):∀(l:List (List eV×List GOp))(i:Nat),qX P b i l=true->∀(s:St)(g:Gh)(w:World)(a:Act),
   abg Γ l K s=some r->Inv g₀ hp₀ w₀ df g s w a->wpOps P b Q (Bf i (b.size-i)) a w
 | [],i,c,s,g,w,a,j,h=>by simp only[qX,beq_iff_eq] at c;subst c;simp only[CE,List.range'_zero,wpOps];exact p s g w a j h
 |x::l,i,c,s,g,w,a,j,h=>by
  simp only[qX,Ac] at c;have y:=aiN l _ c.2;simp only[abg] at j;refine aiM (λs' u B v=>?_) x.1 s g j h;have e:Bf i (b.size-i)=Bf i x.2.length++Bf (i+x.2.length) (b.size-(i+x.2.length)):=by rw[show b.size-i=x.2.length+(b.size-(i+x.2.length)) by omega,<-Dw];simp
  rw[e];exact wJ d f (λq C A t k o=>aiO d f p l _ c.2 q C A t k o) x.2 i c.1 s' u w a B v
def jL:Ex->Exit->Prop
 | .normal,.normal=>True
 | .exit i,.exit j=>i=j
 | .ret,.ret=>True
 |_,_=>False
def amV{R:Type}(g₀:Gh)(hp₀:List ai)(w₀:World)(df:List Deferred)(K:Ex->St->Option R)(r:R)(e:Exit)(a:Act)(w:World):Prop:=
 ∃x s g,jL x e∧K x s=some r∧Inv g₀ hp₀ w₀ df g s w a
theorem fS(A:cY P Γ){g₀:Gh}{hp₀:List ai}{w₀:World}(B:qY P g₀ hp₀ w₀){imp:List Nat}(H:dx Γ imp)(n:Nat){R:Type}{base:Nat}(o:hp₀.length<=base){df:List Deferred}{r:R}:∀(ir:IR)(c:Code),ba P imp base ir c=true->∀(K:Ex->St->Option R)(s:St)(a:Act)(w:World)(g:Gh),
  run Γ n ir K s=some r->Inv g₀ hp₀ w₀ df g s w a->c.wp P (amV g₀ hp₀ w₀ df K r) a w
 | .bad,c,f,K,s,a,w,g,b,h=>by simp[run] at b
 | .wk ..,c,f,K,s,a,w,g,b,h=>by cases c<;>simp[ba] at f
 | .rgs l,c,f,K,s,a,w,g,b,h=>by
   cases c with
   |region id I G=>
    cases G with
    |true=>simp[ba] at f
    |false=>
     have f:qX P I 0 l=true:=by simpa only[ba] using f
     refine wp_region ?_;have:=aiO (Q:=amV g₀ hp₀ w₀ df K r) A B (K:=K .normal) (r:=r) (λs g w a p D=>⟨.normal,s,g,trivial,p,D⟩) l 0 f s g w a b h
     rwa [Nat.sub_zero,<-Do] at this
   |_=>simp[ba] at f
 | .skip,c,f,K,s,a,w,g,b,h=>by
   cases c<;>simp[ba] at f;·exact wp_skip ⟨.normal,s,g,trivial,b,h⟩
   ·exact wp_label ⟨.normal,s,g,trivial,b,h⟩
 | .reg l ad,c,f,K,s,a,w,g,b,h=>by
   cases c with
   |region id I G=>
    cases G with
    |true=>
     have f:yv P imp I l ad=true:=by simpa only[ba] using f
     exact apM (Q:=amV g₀ hp₀ w₀ df K r) A B H f (K:=K .normal) (r:=r) (λs g w a p D=>⟨.normal,s,g,trivial,p,D⟩) b h
    |false=>
     have f:wz P I 0 l=true:=by simpa only[ba] using f
     refine wp_region ?_;have:=yF (Q:=amV g₀ hp₀ w₀ df K r) A B (K:=K .normal) (r:=r) (λs g w a p D=>⟨.normal,s,g,trivial,p,D⟩) l 0 f s g w a b h
     rwa [Nat.sub_zero,<-Do] at this
   |_=>simp[ba] at f
 | .seq x y,c,f,K,s,a,w,g,b,h=>by
   cases c<;>simp[ba] at f;rename_i c d;refine wp_seq (wp_mono (fS A B H n o x c f.1 _ s a w g b h) ?_);rintro e X w' ⟨N,s',C,E,p,D⟩;cases N with
   |normal=>cases e<;>simp only[jL] at E;exact fS A B H n o y d f.2 K s' X w' C p D
   |exit i=>cases e<;>simp only[jL] at E;exact⟨.exit i,s',C,E,p,D⟩
   |ret=>cases e<;>simp only[jL] at E;exact⟨.ret,s',C,trivial,p,D⟩
 | .cond v x y,c,f,K,s,a,w,g,b,h=>by
   cases c<;>simp[ba] at f;rename_i u c d;simp only[run] at b;split at b
   ·rename_i t Z;have rr:=aI f.1 h.sr.er;rw[Z] at rr;generalize ae:a.eval u=cv at rr;cases rr;refine wp_cond ae ?_;cases t with
    |true=>rw[aw.fix_eq Z] at b;exact fS A B H n o x c f.2.1 K s a w g b h
    |false=>simp only[cond_false] at b;rw[aw.fix_eq Z] at b;exact fS A B H n o y d f.2.2 K s a w g b h
   ·simp at b
 | .block i x,c,f,K,s,a,w,g,b,h=>by
   cases c<;>simp[ba] at f;rename_i j c;obtain⟨rfl,f⟩:=f;refine wp_block (wp_mono (fS A B H n o x c f _ s a w g b h) ?_);rintro e X w' ⟨N,s',C,E,p,D⟩;cases N with
   |normal=>cases e<;>simp only[jL] at E;exact⟨.normal,s',C,trivial,p,D⟩
   |exit k=>
    cases e<;>simp only[jL] at E;subst E;simp only[Exit.inBlock];by_cases J:k=i;·subst J;simp only[if_true];simp only[aG,BF,cond_true] at p;exact⟨.normal,s',C,trivial,p,D⟩
    ·simp only[J,if_false];have W:As k i=false:=by
      cases W:As k i with
      |true=>exact absurd (Ax W) J
      |false=>rfl
     simp only[aG,W,cond_false] at p;exact⟨.exit k,s',C,rfl,p,D⟩
   |ret=>cases e<;>simp only[jL] at E;exact⟨.ret,s',C,trivial,p,D⟩
 | .loop F q x,c,f,K,s,a,w,g,b,h=>by
   cases c<;>simp[ba] at f;rename_i c;obtain⟨S,f⟩:=f;have S:hp₀.length<=q:=AH o S;simp only[run] at b
   have key:∀(m:Nat)(s:St)(a:Act)(w:World)(g:Gh),bg m (λO s=>run Γ n x (ce O F q K) s) s=some r->Inv g₀ hp₀ w₀ df g s w a->
     Code.rounds P c (amV g₀ hp₀ w₀ df K r) m a w:=by
    intro m;induction m with
    |zero=>intro s a w g b h;simp[bg] at b
    |succ m ih=>
     intro s a w g b h;simp only[bg] at b;rw[rounds_succ];refine wp_mono (fS A B H n o x c f _ s a w g b h) ?_;rintro e X w' ⟨N,s',C,E,p,D⟩;cases N with
     |normal=>cases e<;>simp only[jL] at E;exact ih _ X w' C p (D.keeps F S)
     |exit k=>cases e<;>simp only[jL] at E;exact⟨.exit k,s',C,E,p,D⟩
     |ret=>cases e<;>simp only[jL] at E;exact⟨.ret,s',C,trivial,p,D⟩
   exact wp_loop_rounds n (key n _ a w g b (h.keeps F S))
 | .cut F q x,c,f,K,s,a,w,g,b,h=>by simp only[ba,Ac] at f;obtain⟨S,f⟩:=f;simp only[run] at b;exact fS A B H n o x c f K _ a w g b (h.keeps F (AH o (Dd S)))
 | .gh x y,c,f,K,s,a,w,g,b,h=>by
   simp only[ba] at f;simp only[run] at b;split at b
   ·rename_i t s' Y;cases t with
    |false=>simp[chk] at b
    |true=>obtain⟨C,L,M⟩:=mM h.sr Y;exact fS A B H n o y c f K s' a w C b ⟨L,h.fr.trans M,h.df⟩
   ·simp at b
 | .ope x y,c,f,K,s,a,w,g,b,h=>by
   simp only[ba] at f;simp only[run] at b;have go:∀q:eV,(match q.step s with|some (c,s')=>chk c (run Γ n y K s')|none=>none)=some r->∃s' C,run Γ n y K s'=some r∧SR C s' w a∧FR g s.hp w C s'.hp w:=λq b=>by
    split at b
    ·rename_i t s' Y;cases t with
     |false=>simp[chk] at b
     |true=>obtain⟨C,L,M⟩:=mM h.sr Y;exact⟨s',C,b,L,M⟩
    ·simp at b
   have al:∃s' C,run Γ n y K s'=some r∧SR C s' w a∧FR g s.hp w C s'.hp w:=by
    cases W:apl s x with
    |true=>rw[W] at b;exact go _ b
    |false=>rw[W] at b;exact go _ b
   obtain⟨s',C,b,L,M⟩:=al;exact fS A B H n o y c f K s' a w C b ⟨L,h.fr.trans M,h.df⟩
 | .ghp x y,c,f,K,s,a,w,g,b,h=>by
   simp only[ba] at f;simp only[run] at b;refine wp_mono (fS A B H n o y c f _ s a w g b h) ?_;rintro e X w' ⟨N,s',C,E,p,D⟩;cases N with
   |normal=>
    simp only[tV] at p;split at p
    ·rename_i t s2 Y;cases t with
     |false=>simp[chk] at p
     |true=>obtain⟨g2,L,M⟩:=mM D.sr Y;exact⟨.normal,s2,g2,E,p,⟨L,D.fr.trans M,D.df⟩⟩
    ·simp at p
   |exit i=>exact⟨.exit i,s',C,E,p,D⟩
   |ret=>exact⟨.ret,s',C,E,p,D⟩
 | .exit i,c,f,K,s,a,w,g,b,h=>by cases c<;>simp[ba] at f;subst f;exact wp_exit ⟨.exit i,s,g,rfl,b,h⟩
 | .ret,c,f,K,s,a,w,g,b,h=>by cases c<;>simp[ba] at f;exact wp_ret ⟨.ret,s,g,trivial,b,h⟩
end
end Go.AM
end
