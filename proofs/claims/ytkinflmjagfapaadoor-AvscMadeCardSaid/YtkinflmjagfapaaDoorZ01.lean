import Derived.Orders
import Derived.MapKept
import Derived.WideKeyRuns
import Derived.WalkSpells
import Derived.Test.YtkinflmjagfapaaDoorZ00
open Array renaming getElem?_eq_getElem→Am,getElem?_eq_some_iff→AK,getD→A3,length_toList→BD,getElem?_append_left→BU,getElem?_toList→Cv,getElem?_push→CE,getElem?_eq_none→CT,getElem?_modify→CY,eq_empty_of_size_eq_zero→C6
open Bool renaming and_eq_true→Ab,or_eq_true→Be,and_eq_false_iff→BJ,false_eq_true→CJ
open Function renaming comp→Dq,comp_def→Du
open Go.Addr renaming add_lit→Bw
open Go.Builtin renaming append_→Cj,len_→C5
open Go.Deferred renaming ofValue→CW
open Go.Instr renaming sureAddr→BH,checkKey→BQ,sliceAt→Ce,fill→Ch,slice→CD,sameBits→CQ,mapUpdate→Db,storeAt→Dm,sameNow→Dn
open Go.IntKind renaming signed→Bb,bits→Br,max→B2,min→Cm
open Go.Op renaming equalIn→CP
open Go.Oper renaming wp→Cw,upon→CZ
open Go.Region renaming binds→BF,wanted→BO,ready→CH
open Go.Result renaming andThen_ok→BX
open Go.Sem renaming run_bind→CM
open Go.World renaming cell?_setCells_out→AX,cell?→Bn,frozen?→Bq,cell?_setCells_in→Bt
open List renaming length→Aa,getElem?_eq_getElem→Ac,getElem?_eq_some_iff→Ad,mem_of_getElem?→Af,getD_eq_getElem?_getD→Ah,all_eq_true→Ai,getElem?_append_right→An,getElem?_append_left→Ap,getD→Aq,getElem?_map→Au,getElem?_set→Aw,mem_append→Ay,mem_singleton→Az,mem_map→AA,length_set→AB,mem_flatMap→AC,length_cons→AD,length_append→AG,getElem?_take→AJ,mem_cons→AL,mem_cons_self→AN,getElem_mem→AO,mem_iff_getElem→AP,getElem?_cons_succ→AR,mem_cons_of_mem→AS,mem_append_left→AT,getElem?_eq_none→AU,map_congr_left→AV,getElem?_set_ne→AY,getElem?_cons_zero→AZ,getElem?_drop→A0,eq_nil_of_length_eq_zero→A1,range→A2,range'→A6,mem_of_mem_take→A7,mem_range→Bd,set→Bg,length_singleton→Bh,length_map→Bm,cons_append→Bo,mem_of_mem_drop→Bu,length_take→Bv,length_drop→BA,getElem?_set_self→BE,mem_append_right→BI,contains_iff_mem→BS,map_append→BT,flatMap_cons→BY,range'_succ→B6,any_eq_true→B8,map_map→B9,getD_cons_zero→Cb,nil_append→Cf,set_cons_succ→Cg,take_of_length_le→Cp,size_toArray→Cr,filterMap_append→Ct,pairwise_append→CA,foldl_cons→CG,set_cons_zero→CI,pairwise_cons→CK,filterMap_cons_some→CL,ext_getElem?→CS,eq_nil_iff_forall_not_mem→C4,range_eq_range'→C9,range'_append→Dj,set_comm→Dl,map_take→Do,map_drop→Dp
open List.Sublist renaming append_left→Dy
open Nat renaming le_refl→Aj,eq_of_beq_eq_true→As,beq→Av,lt_of_lt_of_le→Ax,lt_or_ge→AE,le_trans→AF,add_mul→AH,mul_le_mul_right→AI,zero_add→AW,ne_of_lt→Ba,beq_refl→BL,ble→BM,mul_comm→BR,blt_eq→B0,div_add_mod→Ck,one_mul→Cl,add_zero→Cu,sub_self→Cx,eq_zero_or_pos→CN,le_mul_of_pos_right→CR,add_assoc→CU,le_of_not_lt→CV,le_add_right→CX,le_of_ble_eq_true→C1,mul_one→Di
open Option renaming map_eq_some_iff→Ak,getD_some→A5,map_some→A9,bind_eq_some_iff→BC,map_map→B3,mem_toList→Ds
open Option.some renaming injEq→Ae,inj→Ar
open Prod.mk renaming injEq→Al
set_option linter.all false
noncomputable section
namespace Go.AM
def iQ(P:Program)(o:IOp)(m:Oper):Bool:=
 match o with
 | .blu d k=>(m.dst==some d)&&(match m.op with| .buildSlice t n z=>gG P t k&&(n==0&&z.isEmpty)|_=>false)
 | .apu d k x y=>(m.dst==some d)&&(match sk m.op with|some (.append,[b,e],[t,u])=>gG P t k&&(gG P u k&&(ay x b&&ay y e))|_=>false)
 | .slw d k x p q=>(m.dst==some d)&&(match m.op with| .slice t b f c none=>gG P t k&&(ay x b&&(ga p f&&ga q c))|_=>false)
 | .apx d k x y=>(m.dst==some d)&&(match sk m.op with|some (.append,[b,e],[t,u])=>gG P t k&&(gG P u k&&(ay x b&&ay y e))|_=>false)
 | .lnw d x=>(m.dst==some d)&&(match sk m.op with|some (.len,[b],[t])=>(match P.underlying t with|some (.slice _)=>true|_=>false)&&ay x b|_=>false)
 | .ixw d k x i=>(m.dst==some d)&&(match m.op with| .indexAddr t b r=>gG P t k&&(ay x b&&ay i r)|_=>false)
 | .fdw d h x=>aM P (.fad d h x) m
 | .ldw d n agg x=>aM P (.ld d n agg false x) m
 | .stw d n x v=>(m.dst==d)&&(match m.op with| .store t b j=>(dM P t==some n)&&(ay x b&&ay v j)|_=>false)
 |_=>false
section
variable{w w':World}{g g':Gh}{s s':St}{a:Act}{P:Program}{Γ:am}{m:Oper}{next:Act->World->Prop}{Q:Exit->Act->World->Prop}
theorem kE{i j n z:Nat}(b:i<n)(c:j<z):i*z+j<n*z:=by
 calc i*z+j<i*z+z:=by omega
  _=(i+1)*z:=by rw[AH,Cl]
  _<=n*z:=AI _ b
theorem ny{I:Nat->Nat->Prop}{ρ:Nat->Nat}{N:Nat}{k:EK}{x:Ty k}{j:Nat}{v:V}{u:Value}(b:(enc k x)[j]? =some v)(h:VRel I ρ N w v u){ρ':Nat->Nat}{N':Nat}:VRel I ρ' N' w v u:=
 h.flat1 (tY k x v (Af b))
theorem SR.newUL(h:SR g s w a)(k:EK)(xs:List (Ty k))(cap d:Nat)(r:Array Value)(e:TypeId)
  (N:w'.heap.size=w.heap.size+1) (c:∀b,b<w.heap.size->w'.heap[b]? =w.heap[b]?) {G:Nat×Nat} (C:w'.heap[w.heap.size]? =some (.cells r e G))
  (F:w'.os=w.os) (E:w'.tape=w.tape) (B:w'.output=w.output)
  (L:xs.length<=cap) (W:cap<=cR) (A:cap*k.sz<=r.size) (D:k=.u8->e=g.β) (J:wH G r.size)
  (Y:∀(i:Nat) x j v,xs[i]? =some x->(enc k x)[j]? =some v->∃cv,r[i*k.sz+j]? =some cv∧VRel g.I (λ_=>0) 0 w v cv):
  ∃g',SR g' (s.set d (.ul k xs)) w' (a.put (some d) (.slice (some ⟨w.heap.size,0,none⟩) xs.length cap))∧FR g s.hp w g' s.hp w':=by
 let g':Gh:={g with O:=λb=>if b=w.heap.size then some (.slot d) else g.O b}
 have t:∀b j,g.I b j->b<w.heap.size:=by intro b j f;exact(h.hr.exI b j f).lt
 have y:∀b j,b<w.heap.size->w'.cell? ⟨b,j,none⟩=w.cell? ⟨b,j,none⟩:=by intro b j p;simp[Bn,c b p]
 have u:Up g.I g.ρ s.hp.length w g'.I g'.ρ s.hp.length w':=⟨λb j f=>f,λb j f=>y b j (t b j f),λ_ _=>rfl,Aj _⟩
 have Z:SR g' s w' a:=by
  refine h.keep none trivial rfl u ?_ ?_ ?_ ?_;·intro H b p _;have q:=h.hr.oLt b H p;exact⟨by simp[g',Ba q,p],c b q,λj z=>z⟩
  ·intro id cs hid;have q:=(h.hr.obj id cs hid).lt;exact⟨c _ q,by simp[g',Ba q,h.hr.notO id cs hid],λj z=>z⟩
  ·intro b j z;exact(h.hr.exI b j z).blk (by first|exact c b (t b j z)|exact f2 b (t b j z))
  ·intro b o p;simp only[g'] at p;split at p;·omega
   ·have:=h.hr.oLt b o p;omega
 refine⟨g',Z.set d (.ul k xs _ _ (by omega)) (.inr ⟨w.heap.size,cap,r,e,G,J,rfl,L,W,by simp[g'],C,A,D,?_,?_⟩),⟨rfl,F,E,B,by omega,λb p _ _=>c b p,u,λ_ _ _ _ _ f=>f,?_,λ_ cs h=>.inl ⟨cs,h⟩⟩⟩;·intro j f;exact absurd (t _ _ f) (Nat.lt_irrefl _)
 ·intro i x j v cv h1 S M;obtain⟨ar,e1,X⟩:=Y i x j v h1 S;rw[e1] at M;obtain rfl:=Ar M;exact X.up ⟨λ_ _ f=>f,λb j f=>y b j (t b j f),λ_ _=>rfl,Aj _⟩
 ·intro b p _ R;simp[g',Ba p,R]
theorem SR.inPlaceU(h:SR g s w a){p:Occ}(hp:n8 (some p) s)(k:EK)(xs ys:List (Ty k))(b cap d:Nat)(news:List Value){r:Array Value}{e:TypeId}{H:Nat×Nat}(o0:wH H r.size)
  (F:g.O b=some p) (J:w.heap[b]? =some (.cells r e H)) (o3:cap*k.sz<=r.size) (ad:k=.u8->e=g.β) (oI:∀j,¬g.I b j)
  (oc:∀(i:Nat) x (j:Nat) v u,xs[i]? =some x->(enc k x)[j]? =some v->r[i*k.sz+j]? =some u->VRel g.I (λ_=>0) 0 w v u) (Y:cap<=cR)
  (z:xs.length+ys.length<=cap) (hl:news.length=ys.length*k.sz)
  (X:∀(i:Nat) x (j:Nat) v,ys[i]? =some x->(enc k x)[j]? =some v->∃u,news[i*k.sz+j]? =some u∧VRel g.I (λ_=>0) 0 w v u):
  ∃g',SR g' (s.set d (.ul k (xs++ys))) (w.setCells b (xs.length*k.sz) news) (a.put (some d) (.slice (some ⟨b,0,none⟩) (xs.length+ys.length) cap))∧
   FR g s.hp w g' s.hp (w.setCells b (xs.length*k.sz) news):=by
 have ar:xs.length*k.sz+news.length<=r.size:=by have:(xs.length+ys.length)*k.sz<=cap*k.sz:=AI _ z;rw[AH] at this;omega
 obtain⟨⟨B,M,q2⟩,G,q4,q5,q6,q7⟩:=eU b news (xs.length*k.sz) w r e H J;let w':=w.setCells b (xs.length*k.sz) news;let g':Gh:={g with O:=λc=>if c=b then some (.slot d) else g.O c}
 have t:∀c j,g.I c j->w'.cell? ⟨c,j,none⟩=w.cell? ⟨c,j,none⟩:=by intro c j y;exact AX b news _ w _ (by rintro rfl _;exact absurd y (oI j))
 have R:∀(id:Nat) cs,s.hp[id]? =some (some cs)->g.ρ id≠b:=by intro id cs hid Z;have:=h.hr.notO id cs hid;rw[Z,F] at this;simp at this
 have u:Up g.I g.ρ s.hp.length w g'.I g'.ρ s.hp.length w':=⟨λb j y=>y,t,λ_ _=>rfl,Aj _⟩
 have hs:SR g' s w' a:=by
  refine h.keep (some p) hp rfl u ?_ ?_ ?_ ?_
  ·intro b1 c f al;have q:c≠b:=by
    rintro rfl;rw[F] at f;exact al f
   exact⟨by simp[g',q,f],G c q,λj A=>A⟩
  ·intro id cs hid;have q:=R id cs hid;exact⟨G _ q,by simp[g',q,h.hr.notO id cs hid],λj A=>A⟩
  ·intro c j A;exact(h.hr.exI c j A).set (t c j A) J M G
  ·intro c o f;simp only[g'] at f;rw[q4];split at f;·rename_i Z;subst Z;exact h.hr.oLt _ _ F
   ·exact h.hr.oLt _ _ f
 have E:∀j,B[j]? =if xs.length*k.sz<=j∧j<xs.length*k.sz+news.length then news[j-xs.length*k.sz]? else r[j]?:=by
  intro j;rw[<-aA M j];split;·rename_i A;have:=Bt b news (xs.length*k.sz) w (λj' bl=>by rw[aA J,Am (by omega)];rfl) (j-xs.length*k.sz) (by omega);rw[show xs.length*k.sz+(j-xs.length*k.sz)=j by omega] at this;rw[Ac (by omega)];exact this
  ·rename_i A;rw[AX _ _ _ w _ (λ_ _=>by simp only;omega),aA J]
 have ue:Up g.I (λ_=>0) 0 w g.I (λ_=>0) 0 w':=⟨λ_ _ y=>y,t,λ_ _=>rfl,Aj _⟩
 have W:∀x:Ty k,∀j v,(enc k x)[j]? =some v->j<k.sz:=by
  intro x j v X;have:=(Ad.1 X).1
  rwa [ba] at this
 refine⟨g',hs.set d ?_ (.inr ⟨b,cap,B,e,H,by rw[q2];exact o0,by simp,by simpa using z,Y,by simp[g'],M,by rw[q2];exact o3,ad,oI,?_⟩),⟨rfl,q5,q6,q7,by rw[q4];exact Aj _,λc f _ C=>?_,u,λ_ _ _ _ _ y=>y,?_,λ_ cs h=>.inl ⟨cs,h⟩⟩⟩;·have:=VRel.ul (I:=g'.I) (ρ:=g'.ρ) (N:=s.hp.length) (w:=w') k (xs++ys) (some ⟨b,0,none⟩) cap (by simp;omega);simpa using this
 ·intro i x j v cv L S D;have A:=W x j v S;rw[E] at D;rcases AE i xs.length with y|y;·rw[Ap y] at L;have:=kE y A;rw[if_neg (by omega)] at D;exact(oc i x j v cv L S D).up ue
  ·rw[An y] at L;obtain⟨u',e1,e2⟩:=X _ x j v L S;have a5:=(Ad.1 e1).1;have hp':i*k.sz=xs.length*k.sz+(i-xs.length)*k.sz:=by rw[<-AH];congr 1;omega
   rw[if_pos (by omega),show i*k.sz+j-xs.length*k.sz=(i-xs.length)*k.sz+j by omega,e1] at D;obtain rfl:=Ar D;exact e2.up ue
 ·have q:c≠b:=by rintro rfl;rw[F] at C;simp at C
  exact G c q
 ·intro c f _ C;have q:c≠b:=by rintro rfl;rw[F] at C;simp at C
  simp[g',q,C]
theorem ajj{x:aj}{d:Operand}{k:EK}{xs:List (Ty k)}(h:SR g s w a)(c:ay x d=true)(b:x.ev s=.ul k xs):
  ∃p,n8 (some p) (x.after s)∧sL g w p k xs (a.eval d):=by
 unfold ay at c;split at c
 ·rename_i n k';obtain rfl:=by simpa using c
  simp only[aj.ev] at b;exfalso;cases e:s.get n<;>rw[e] at b<;>simp[disown] at b
 ·rename_i n k';obtain rfl:=by simpa using c
  refine⟨.slot n,pO n s,?_⟩;have:=h.er.getOwn n;rw[show s.get n=.ul k xs from b] at this;exact this
 ·rename_i v cv;simp only[aj.ev] at b;subst b;exact⟨.res,trivial,pM c _⟩
 ·rename_i f i;simp only[aj.ev] at b;cases b
 ·simp at c
theorem ahI{p:Occ}{k:EK}{xs:List (Ty k)}{cv:Value}(h:sL g w p k xs cv):
  ∃L:List Value,L.length=xs.length*k.sz∧(∀(i:Nat) x (j:Nat) v,xs[i]? =some x->(enc k x)[j]? =some v->∃u,L[i*k.sz+j]? =some u∧VRel g.I (λ_=>0) 0 w v u)∧
   ((xs=[]∧cv=.slice none 0 0)∨∃b cap c e f,wH f c.size∧cv=.slice (some ⟨b,0,none⟩) xs.length cap∧xs.length<=cap∧w.heap[b]? =some (.cells c e f)∧cap*k.sz<=c.size∧∀j v,L[j]? =some v->w.cell? ⟨b,j,none⟩=some v):=by
 rcases h with⟨rfl,rfl⟩|⟨b,cap,c,e,f,B,D,t,G,H,q,y,F,J,C⟩
 ·exact⟨[],by simp,by simp,.inl ⟨rfl,rfl⟩⟩
 ·have E:xs.length*k.sz<=c.size:=AF (AI _ t) y;refine⟨c.toList.take (xs.length*k.sz),by simp;omega,?_,.inr ⟨b,cap,c,e,f,B,D,t,q,y,?_⟩⟩
  ·intro i x j v r z;have d:j<k.sz:=by
    have:=(Ad.1 z).1
    rwa [ba] at this
   have o:=kE (Ad.1 r).1 d;have A:c[i*k.sz+j]? =some (c[i*k.sz+j]'(by omega)):=Am _;refine⟨_,?_,C i x j v _ r z A⟩;rw[AJ,if_pos o,Cv];exact A
  ·intro j v d;rw[AJ] at d;split at d;·rw[Cv] at d;rw[aA q];exact d
   ·simp at d
theorem agT(bl:g.β=jz P){d:Nat}{k:EK}{x:aj}{J G:Operand}{xs ys:List (Ty k)}{ty t u e:TypeId}{pos:String}{D:Array Edge}{gd:Option (Nat×Bool)}(h:SR g s w a)
  (Y:ay x J=true) (cc:x.ev s=.ul k xs) (ut:P.underlying t=some (.slice e)) (he:pV P e k=true) (news:List Value)
  (E:_root_.Go.Src P k.sz u (a.eval G) ys.length news w) (hv:∀(i:Nat) x (j:Nat) v,ys[i]? =some x->(enc k x)[j]? =some v->∃u,news[i*k.sz+j]? =some u∧VRel g.I (λ_=>0) 0 w v u)
  (M:(xs.length+ys.length)*k.bytes<=nW)
  (hn:bI g s w a ((x.after s).set d (.ul k (xs++ys))) next):
  (⟨some d,.call ⟨.builtin .append,⟨[J,G]⟩,⟨[t,u]⟩⟩,ty,pos,D,gd⟩:Oper).wp P a w next Q:=by
 obtain⟨inf,z,i1,R,i3,i4,i5,i6,i7⟩:=eB he;have ci:0<k.bytes:=by cases k<;>simp[EK.bytes];rename_i kk;cases kk<;>simp[zE]
 have O:xs.length+ys.length<=nW:=AF (CR _ ci) M;obtain⟨p,hp,ho⟩:=ajj h Y cc;have h1:=h.after x;obtain⟨L,l1,l3,l4⟩:=ahI ho;have y:∀cv w',(Cj #[t,u] ty #[a.eval J,a.eval G]).run P w=.ok cv w'->(execOp a.eval ⟨some d,.call ⟨.builtin .append,⟨[J,G]⟩,⟨[t,u]⟩⟩,ty,pos,D,gd⟩).run P w=.ok (.value cv) w':=by intro cv w' H;simp[execOp,resolve,invoke,builtin,H]
 have A:(x.after s).hp=s.hp:=kg x s
 have grow:∀(base:Option Addr)(cap:Nat),a.eval J=.slice base xs.length cap->cap<xs.length+ys.length->
   (Builtin.firstCells k.sz xs.length (.slice base xs.length cap)).run P w.drew=.ok L.toArray w.drew->
   (⟨some d,.call ⟨.builtin .append,⟨[J,G]⟩,⟨[t,u]⟩⟩,ty,pos,D,gd⟩:Oper).wp P a w next Q:=by
  intro base cap Z B a0
  have H:=run_append_grow_src w t u ty e inf z ut i1 i4 base xs.length cap L (by rw[R];exact a0) (a.eval G) ys.length news (by rw[R];exact E) B (by unfold nW at O;omega)
   (growslice_fits B (by rw[i3];exact M))
  have X:xs.length+ys.length<=grownCap w (xs.length+ys.length) cap e:=by unfold grownCap Question.cut;exact CX _ _
  have br:grownCap w (xs.length+ys.length) cap e<=cR:=by have:=grownCap_le_maxLen w (xs.length+ys.length) cap e (by unfold maxLen;unfold nW at O;omega);simpa [maxLen,cR] using this
  let c:Array Value:=(L++news).toArray++Builtin.zeroCells z.cells (grownCap w (xs.length+ys.length) cap e-(xs.length+ys.length));have b3:=E.newsLen;have ar:c.size=grownCap w (xs.length+ys.length) cap e*k.sz:=by
   simp only[c,Array.size_append,Cr,AG,l1,b3,size_zeroCells,i7];rw[<-AH,<-AH]
   congr 1
   omega
  have f:=iv w.drew (.cells c e);obtain⟨g',q1,q2⟩:=h1.newUL (w':=w.drew.alloc (.cells c e)) k (xs++ys) (grownCap w (xs.length+ys.length) cap e) d c e f.1 f.2.1 f.2.2 rfl rfl rfl (by simpa using X) br (by rw[ar];exact Aj _) (λhk=>by rw[bl];exact pN he hk) (aiv _) (by
   intro i x j v Y W;have hj:j<k.sz:=by
    have:=(Ad.1 W).1
    rwa [ba] at this
   have C:∀(q:Nat) u,(L++news)[q]? =some u->c[q]? =some u:=by intro q u hq;have bY:=(Ad.1 hq).1;simp only[c];rw[BU (by simpa using bY)];simpa using hq
   rcases AE i xs.length with hi|hi;·rw[Ap hi] at Y;obtain⟨u,e1,e2⟩:=l3 i x j v Y W;refine⟨u,C _ _ ?_,e2⟩;rw[Ap (Ad.1 e1).1];exact e1
   ·rw[An hi] at Y;obtain⟨u,e1,e2⟩:=hv _ x j v Y W;refine⟨u,C _ _ ?_,e2⟩;have:i*k.sz=xs.length*k.sz+(i-xs.length)*k.sz:=by rw[<-AH];congr 1;omega
    rw[An (by rw[l1];omega),l1,<-e1]
    congr 1
    omega)
  have S:(execOp a.eval ⟨some d,.call ⟨.builtin .append,⟨[J,G]⟩,⟨[t,u]⟩⟩,ty,pos,D,gd⟩).run P w=.ok (.value (.slice (some ⟨w.heap.size,0,none⟩) (xs++ys).length (grownCap w (xs.length+ys.length) cap e))) (w.drew.alloc (.cells c e)):=by refine y _ _ ?_;rw[Z,H];simp[c]
  refine dg rfl S ⟨g',q1,?_⟩ hn;rw[A] at q2;show FR g s.hp w g' (x.after s).hp _;rw[A];exact q2
 rcases l4 with⟨rfl,o⟩|⟨b,cap,c,e',fz,cs,o,B,Z,d0,F⟩
 ·by_cases h0:ys.length=0
  ·have b6:ys=[]:=A1 h0;subst b6;have H:(Cj #[t,u] ty #[a.eval J,a.eval G]).run P w=.ok (.slice none 0 0) w:=by
    have bs:news=[]:=by have:=E.newsLen;simpa using this
    have hc:=E.cells;rw[o];rcases E.kind with⟨e',hk⟩|hk<;>simp[Cj,run_underlying ut,run_underlying hk,sizeOf,typeInfo,i1,R,E.len] at* <;>simp[hc]
   refine dg rfl (y _ _ H) ⟨g,?_,?_⟩ hn;·exact h1.set d (by simpa using VRel.ul (I:=g.I) (ρ:=g.ρ) (N:=(x.after s).hp.length) (w:=w) k ([]:List (Ty k)) none 0 (by simp)) (.inl ⟨by simp,rfl⟩)
   ·have:=FR.refl g s.hp w;simpa [St.set,A] using this
  ·exact grow none 0 (by simpa using o) (by simp;omega) (by
    have hL:L=[]:=by simpa using l1
    subst hL;simpa using run_firstCells_none (P:=P) w.drew k.sz 0 0 0)
 ·by_cases r:xs.length+ys.length<=cap
  ·rcases ho with⟨rfl,ho⟩|⟨b2,dp,c4,e2,d2,m0,m1,m2,m3,m4,m5,m6,m7,m8,m9⟩
   ·rw[o] at ho;cases ho
   ·rw[o] at m1;cases m1;rw[Z] at m5;cases m5;have cy:xs.length*k.sz+news.length<=cap*k.sz:=by
     have:(xs.length+ys.length)*k.sz<=cap*k.sz:=AI _ r;rw[AH] at this;rw[E.newsLen];omega
    have H:=run_append_room_src w t u ty e inf ut i1 b 0 xs.length cap (a.eval G) ys.length news (by rw[R];exact E) r (by
     intro j hj;rw[R,aA Z,Am (by omega)];rfl) (by
     intro j hj;rw[R];have hc:=cs (0+xs.length*k.sz+j) (by omega);simp only[Bq,Z,BJ,decide_eq_false_iff_not];omega)
    rw[R,AW] at H;have q:=h1.inPlaceU hp k xs ys b cap d news m0 m4 Z m6 m7 m8 m9 m3 r E.newsLen hv;rw[A] at q;refine dg rfl (y _ _ (by rw[o];exact H)) ?_ hn;obtain⟨g',q1,q2⟩:=q;exact⟨g',q1,by simpa [St.set,A] using q2⟩
  ·exact grow _ cap o (by omega) (run_firstCells_some w.drew k.sz xs.length ⟨b,0,none⟩ xs.length cap L (by simpa using l1) (by intro j v hj;rw[Bw,AW];exact F j v hj))
theorem agU{d:Nat}{k:EK}{x y:aj}(C:g.β=jz P)(q:iQ P (.apu d k x y) m=true)(c:step Γ (.apu d k x y) s=some (true,s'))(h:SR g s w a)(hn:bI g s w a s' next):m.wp P a w next Q:=by
 obtain⟨dst,op,ty,pos,ar,gd⟩:=m;simp only[iQ,Ab,beq_iff_eq] at q;obtain⟨rfl,q⟩:=q;split at q
 ·rename_i x' y' t u F;obtain rfl:=ke F;simp only[Ab] at q;obtain⟨h1,X,Y,h4⟩:=q;obtain⟨e,u1,e1⟩:=cm h1;obtain⟨e',G,e2⟩:=cm X;simp only[step] at c;split at c
  ·rename_i k' l al o mm E S;split at c
   ·rename_i hk;subst hk;split at c
    ·rename_i z;simp only[Ae,Al,decide_eq_true_eq] at c;obtain⟨A,rfl⟩:=c;have B:=aB h4 h.er;rw[S] at B;have B:=afg z B;obtain⟨L,H,l2,R,O⟩:=aas B;refine agT C h Y E u1 e1 L (ys:=z▸mm) ?_ (λi x j v E J=>by
      obtain⟨u,N,W⟩:=R i x j v E J;exact⟨u,N,ny J W⟩) (by rw[zJ];exact A) hn
     rcases O with⟨p,I,r, -⟩|⟨b,Z,cap,r,M,a1,f⟩
     ·rw[r,p];have hL:L=[]:=by rw[p] at H;simpa using H
      rw[hL];cases I with
      |none=>exact _root_.Go.Src.ofNil w G 0
      |some I=>exact _root_.Go.Src.ofSlice w G _ _ _ _ (by simp) (by intro j v D;simp at D) (by simp)
     ·rw[r];exact _root_.Go.Src.ofSlice w G _ _ _ _ H (by intro j v D;rw[Bw];exact f j v D) l2
    ·simp at c
   ·simp at c
  ·simp at c
 ·simp at q
theorem ajk{d:Nat}{k:EK}(i:g.β=jz P)(b:iQ P (.blu d k) m=true)(v:step Γ (.blu d k) s=some (true,s'))(h:SR g s w a)(C:bI g s w a s' next):m.wp P a w next Q:=by
 obtain⟨dst,I,ty,pos,r,H⟩:=m;simp only[iQ,Ab,beq_iff_eq] at b;obtain⟨rfl,b⟩:=b;split at b
 ·rename_i t n B;simp only[Ab,beq_iff_eq] at b;obtain⟨c,rfl,q⟩:=b;obtain rfl:_=s':=by simpa [step] using v
  obtain⟨e,x,c⟩:=cm c;obtain⟨inf,z,y,o,D,E,G,F,J⟩:=eB c;have A:B= #[]:=by simpa using q
  have f:=iv w (.cells (#[]:Array Value) e);obtain⟨g',j,p⟩:=h.newUL (w':=w.alloc (.cells (#[]:Array Value) e)) k [] 0 d #[] e f.1 f.2.1 f.2.2 rfl rfl rfl (by simp) (by unfold cR;omega) (by simp) (λu=>by rw[i];exact pN c u) (aiv _) (by simp);refine dg rfl (cv:=.slice (some ⟨w.heap.size,0,none⟩) 0 0) ?_ ⟨g',j,p⟩ C;simp[execOp,Instr.buildSlice,run_underlying x,sizeOf,typeInfo,y,o,A,Ch,newRow];rw[show Array.range 0= #[] from C6 (by simp),Array.map_empty]
 ·simp at b
theorem ajl{d:Nat}{x:aj}(b:iQ P (.lnw d x) m=true)(i:step Γ (.lnw d x) s=some (true,s'))(h:SR g s w a)(v:bI g s w a s' next):m.wp P a w next Q:=by
 obtain⟨dst,D,ty,pos,A,C⟩:=m;simp only[iQ,Ab,beq_iff_eq] at b;obtain⟨rfl,b⟩:=b;split at b
 ·rename_i p t o;obtain rfl:=ke o;simp only[Ab] at b;obtain⟨u,z⟩:=b;have f:=aB z h.er;split at u
  ·rename_i e r;simp only[step] at i;split at i
   ·rename_i n j;obtain rfl:_=s':=by simpa using i
    rw[j] at f;generalize c:a.eval p=cv at f;cases f with
    |hd _ B cap y=>refine az h rfl (cv:=.int .i64 n) (by simp[execOp,resolve,c,invoke,builtin,C5,run_underlying r,goInt]) ?_ rfl v;exact .int _ _ (by simp[Cm,B2,Bb,Br,cR] at *;omega)
   ·rename_i k id n j;obtain rfl:_=s':=by simpa using i
    rw[j] at f;generalize c:a.eval p=cv at f;cases f with
    |sw _ _ _ hid q y=>refine az h rfl (cv:=.int .i64 n) (by simp[execOp,resolve,c,invoke,builtin,C5,run_underlying r,goInt]) ?_ rfl v;exact .int _ _ (by simp[Cm,B2,Bb,Br,cR] at *;omega)
   ·simp at i
  ·simp at u
 ·simp at b
theorem ajm{d:Nat}{k:EK}{x i:aj}(b:iQ P (.ixw d k x i) m=true)(c:step Γ (.ixw d k x i) s=some (true,s'))(h:SR g s w a)(N:bI g s w a s' next):m.wp P a w next Q:=by
 obtain⟨dst,op,ty,pos,F,X⟩:=m;simp only[iQ,Ab,beq_iff_eq] at b;obtain⟨rfl,b⟩:=b;split at b
 ·rename_i t D H;simp only[Ab] at b;obtain⟨q,B,C⟩:=b;have j:=aB B h.er;have r:=aB C h.er;simp only[step] at c;split at c
  ·rename_i k' id L Z n A y;split at c
   ·rename_i I;subst I;simp only[Ae,Al,Ab,decide_eq_true_eq] at c;obtain⟨⟨E,G⟩,rfl⟩:=c;rw[A] at j;rw[y] at r;obtain⟨e,J,q⟩:=cm q;obtain⟨inf,z,M,v,O,R,S,_⟩:=eB q;generalize o:a.eval D=cv at j;generalize p:a.eval H=Y at r;cases r;cases j with
    |sw _ _ _ hid u W=>
     have f:∀w':World,(sizeOf e).run P w'=.ok k'.sz w':=λw'=>by simp[sizeOf,typeInfo,M,v]
     refine az h rfl (cv:=.pointer (some ⟨g.ρ id,n.toNat*k'.sz+0,none⟩)) ?_ (.wp _ _ _ _ hid) rfl N;simp[execOp,o,p,Instr.indexAt,asIntOf,run_underlying J,E,G,f,Bw]
   ·simp at c
  ·simp at c
 ·simp at b
theorem ajn{d f:Nat}{x:aj}(e:iQ P (.fdw d f x) m=true)(j:step Γ (.fdw d f x) s=some (true,s'))(h:SR g s w a)(F:bI g s w a s' next):m.wp P a w next Q:=by
 obtain⟨dst,I,ty,pos,C,H⟩:=m;simp only[iQ,aM,Ab,beq_iff_eq] at e;obtain⟨rfl,e⟩:=e;split at e
 ·rename_i t B G;simp only[Ab] at e;obtain⟨b,A⟩:=e;have q:=aB A h.er;split at b
  ·rename_i fs E;split at b
   ·rename_i D p;simp only[Ab,beq_iff_eq] at b;obtain⟨y,b⟩:=b;have c:∀w':World,∃n,n≠0∧(sizeOf D.type).run P w'=.ok n w':=by
     intro w';unfold zG dM at b;split at b;·rename_i n r;exact⟨n,by simpa using b,j9 (by simpa [dM] using r) w'⟩
     ·simp at b
    obtain⟨n,u,c⟩:=c w;simp only[step] at j;split at j
    ·rename_i id k i o z;obtain rfl:_=s':=by simpa using j
     rw[z] at q;generalize v:a.eval B=cv at q;cases q with
     |wp _ _ _ _ hid=>refine az h rfl (cv:=.pointer (some ⟨g.ρ id,i*k.sz+(o+f),none⟩)) ?_ (.wp _ _ _ _ hid) rfl F;simp[execOp,v,Instr.fieldAt,run_underlying E,p,BH,fieldPlace,c,u,y,Bw,CU]
    ·simp at j
   ·simp at b
  ·simp at b
 ·simp at e
theorem ry{id:Nat}{k:EK}{xs:List (Ty k)}(b:s.rowW id=some ⟨k,xs⟩):s.hp[id]? =some (some [.rw k xs]):=by
 unfold St.rowW at b;simp only[Aq] at b;cases c:s.hp[id]? with
 |none=>rw[c] at b;simp at b
 |some x=>
  rw[c] at b;simp only[A5] at b;split at b;·simp only[Ae] at b;cases b;rfl
  ·cases b
theorem ng{k:EK}:∀(xs:List (Ty k))(i j:Nat)(x:Ty k)(v:V),xs[i]? =some x->(enc k x)[j]? =some v->(xs.flatMap (enc k))[i*k.sz+j]? =some v
 | [],i,j,x,v,b,_=>by simp at b
 |y::xs,0,j,x,v,b,c=>by simp at b;subst b;have f:=(Ad.1 c).1;simp only[BY,Nat.zero_mul,AW];rw[Ap f];exact c
 |y::xs,i+1,j,x,v,b,c=>by
  have e:=ng xs i j x v (by simpa using b) c;simp only[BY];have d:=ba k y;rw[An (by rw[d,AH];omega),d,<-e]
  congr 1
  rw[AH];omega
theorem aR{k:EK}:∀(xs:List (Ty k)),(xs.flatMap (enc k)).length=xs.length*k.sz
 | []=>by simp
 |x::xs=>by simp[BY,aR xs,ba,AH];omega
theorem bQ{k:EK}(xs:List (Ty k))(q:Nat)(v:V)(h:(xs.flatMap (enc k))[q]? =some v):∃x,xs[q / k.sz]? =some x∧(enc k x)[q%k.sz]? =some v:=by
 have c:=(Ad.1 h).1;rw[aR] at c;have d:0<k.sz:=by cases k<;>simp[EK.sz]
 have f:q / k.sz<xs.length:=Nat.div_lt_of_lt_mul (by rw[BR];exact c);have i:q%k.sz<k.sz:=Nat.mod_lt _ d;have e:xs[q / k.sz]? =some xs[q / k.sz]:=Ac f;have b:q%k.sz<(enc k xs[q / k.sz]).length:=by rw[ba];exact i
 refine⟨_,e,?_⟩;have:=ng xs _ _ _ _ e (Ac b);rw[show q / k.sz*k.sz+q%k.sz=q by rw[BR];exact Ck q k.sz,h] at this;rw[Ac b,<-this]
theorem iX{id:Nat}{k:EK}{xs:List (Ty k)}(h:SR g s w a)(o:s.rowW id=some ⟨k,xs⟩):∃b e c,w.heap[g.ρ id]? =some (.cells b e c)∧xs.length*k.sz<=b.size∧
  lc g s.hp.length w id [.rw k xs] b e c∧∀(i:Nat) x (j:Nat) v u,xs[i]? =some x->(enc k x)[j]? =some v->b[i*k.sz+j]? =some u->VRel g.I g.ρ s.hp.length w v u:=by
 obtain⟨b,e,c,f,d⟩:=(h.hr.obj id _ (ry o)).row rfl;obtain⟨B,A,y,z⟩:=d.typed k xs rfl;have t:xs.length*k.sz<=b.size:=by
  have:=d.len;simp only[cellsOf] at this
  rwa [aR] at this
 refine⟨b,e,c,f,t,d,?_⟩;intro i x j v u r p q;exact d.rel (i*k.sz+j) v u (by simp only[cellsOf];exact ng xs i j x v r p) q
theorem ajo{d n:Nat}{agg:Bool}{x:aj}(f:iQ P (.ldw d n agg x) m=true)(r:step Γ (.ldw d n agg x) s=some (true,s'))(h:SR g s w a)(F:bI g s w a s' next):m.wp P a w next Q:=by
 obtain⟨dst,op,ty,pos,S,gd⟩:=m;simp only[iQ,aM,Ab,beq_iff_eq] at f;obtain⟨rfl,f⟩:=f;split at f
 ·rename_i t R;simp only[Ab,beq_iff_eq,Be] at f;obtain⟨h1,O,y,Z⟩:=f;have B:=aB Z h.er;simp only[step] at r;split at r
  ·rename_i id k i o M;split at r
   ·rename_i k' xs L;split at r
    ·rename_i X;obtain⟨rfl,al⟩:=X;simp only[Ae,Al,decide_eq_true_eq] at r;obtain⟨E,rfl⟩:=r;rw[M] at B;generalize q:a.eval R=cv at B;cases B with
     |wp _ _ _ _ hid=>
      obtain⟨p,e,fz,W,G,J,A⟩:=iX h L;have z:xs[i]? =some xs[i]:=Ac E;have Y:xs.getD i (ao k')=xs[i]:=by simp[Aq,z]
      rw[Y] at F;have H:=ba k' xs[i];have D:i*k'.sz+k'.sz<=p.size:=by have:(i+1)*k'.sz<=xs.length*k'.sz:=AI _ E;rw[AH,Cl] at this;omega
      have hl:=n7 (agg:=agg) (cs:=((enc k' xs[i]).drop o).take n) (vs:=(p.toList.drop (i*k'.sz+o)).take n) (w:=w) (I:=g.I) (ρ:=g.ρ) (N:=s.hp.length)
       (λc C=>nw k' _ c (Bu (A7 C))) (by simp;omega) (by
        rcases y with y|y;·exact .inl y
        ·right;simp;omega)
       (λj c cv f q=>by
        simp only[AJ,A0] at f q;split at f;·rename_i u;simp only[u,if_true] at q;exact A i _ (o+j) c cv z f (by rw[<-Cv,<-CU];exact q)
        ·simp at f)
      refine az h rfl (cv:=if agg then .agg ((p.toList.drop (i*k'.sz+o)).take n).toArray else ((p.toList.drop (i*k'.sz+o)).take n).headD undef) ?_ hl.disown (cA _) F;have:=lz (P:=P) (w:=w) (b:=g.ρ id) (o:=i*k'.sz+o) (vs:=(p.toList.drop (i*k'.sz+o)).take n) h1 O y (by simp;omega) (λj v u=>by
       rw[aA W];simp only[AJ,A0] at u;split at u;·simpa using u
       ·simp at u)
      simp[execOp,q,this]
    ·simp at r
   ·simp at r
  ·simp at r
 ·simp at f
theorem acx(v:V):disown (disown v)=disown v:=by
 cases v with
 |sl k o xs=>cases o<;>rfl
 |_=>rfl
theorem ab9(v:V):v.weak.weak=v.weak:=by cases v<;>rfl
theorem wL{v:V}(h:v.inRange):v.weak.inRange:=by cases v<;>first|exact h|trivial
theorem afP{k:EK}{x e:Ty k}{o:Nat}{vs:List V}(h:pU k x o vs=some e)(d:∀c∈enc k x,c.inRange)(i:∀c∈vs,c.inRange):
  enc k e=((enc k x).take o++vs.map V.weak)++(enc k x).drop (o+vs.length):=by
 unfold pU at h;rw[abn h ?_]
 ·rw[BT,BT,B9,Do,Dp,ac5]
  congr 2
  exact AV λc _=>ab9 c
 ·intro c b;rcases Ay.1 b with b|b
  ·rcases Ay.1 b with b|b;·exact d c (A7 b)
   ·obtain⟨v,f,rfl⟩:=AA.1 b;exact wL (i v f)
  ·exact d c (Bu b)
theorem ni(k:EK)(x:Ty k)(j E n:Nat):(enc k x)[j]?≠some (.bn E n):=by intro h;have:=tY k x _ (Af h);simp[V.flat1] at this
theorem SR.putElt(h:SR g s w a){id i o:Nat}{k:EK}{xs:List (Ty k)}(ho:s.rowW id=some ⟨k,xs⟩)(t:i<xs.length){M:Ty k}{vs:List V}{us:List Value}(hl:vs.length=us.length)(el:o+vs.length<=k.sz)
  (he:enc k M=((enc k xs[i]).take o++vs.map V.weak)++(enc k xs[i]).drop (o+vs.length))
  (hv:∀(j:Nat) c cv,vs[j]? =some c->us[j]? =some cv->VRel g.I g.ρ s.hp.length w c cv):
  SR g (s.setObj id [.rw k (xs.set i M)]) (w.setCells (g.ρ id) (i*k.sz+o) us) a∧FR g s.hp w g (s.hp.set id (some [.rw k (xs.set i M)])) (w.setCells (g.ρ id) (i*k.sz+o) us):=by
 have hid:=ry ho;obtain⟨L,e,fz,Z,R,br,G⟩:=iX h ho;obtain⟨t1,t2,t3,t4⟩:=br.typed k xs rfl;obtain⟨⟨F,q1,q2⟩,q3,q4,q5,q6,q7⟩:=eU (g.ρ id) us (i*k.sz+o) w L e fz Z;let w':=w.setCells (g.ρ id) (i*k.sz+o) us;have bY:i*k.sz+k.sz<=L.size:=by have:(i+1)*k.sz<=xs.length*k.sz:=AI _ t;rw[AH,Cl] at this;omega
 have a2:∀b j,g.I b j->b≠g.ρ id:=by rintro b j t rfl;exact h.hr.notI id _ hid j t
 have A:∀b j,g.I b j->w'.cell? ⟨b,j,none⟩=w.cell? ⟨b,j,none⟩:=by intro b j t;exact AX _ _ _ w _ (λe=>absurd e (a2 b j t))
 have u:Up g.I g.ρ s.hp.length w g.I g.ρ s.hp.length w':=⟨λ_ _ h=>h,A,λ_ _=>rfl,Aj _⟩
 have C:∀J v cv,ai g w J v cv->ai g w' J v cv:=by intro J v cv a9;refine bd a9 rfl (λb j t=>⟨u.mono b j t,u.cell b j t⟩) ?_;intro b D;refine⟨D,q3 b ?_,λj H=>H⟩;rintro rfl;rw[h.hr.notO id _ hid] at D;simp at D
 have X:∀j,F[j]? =if i*k.sz+o<=j∧j<i*k.sz+o+us.length then us[j-(i*k.sz+o)]? else L[j]?:=by
  intro j;rw[<-aA q1 j];split;·rename_i H;have:=Bt (g.ρ id) us (i*k.sz+o) w (λj' ci=>by rw[aA Z,Am (by omega)];rfl) (j-(i*k.sz+o)) (by omega);rw[show i*k.sz+o+(j-(i*k.sz+o))=j by omega] at this;rw[Ac (by omega)];exact this
  ·rename_i H;rw[AX _ _ _ w _ (λ_ _=>by simp only;omega),aA Z]
 have a4:id<s.hp.length:=(Ad.1 hid).1;have split:∀(f:Nat) o',(s.hp.set id (some [V.rw k (xs.set i M)]))[f]? =some (some o')->(f=id∧o'=[V.rw k (xs.set i M)])∨(f≠id∧s.hp[f]? =some (some o')):=by
  intro f o' p;rw[Aw] at p;split at p;·rename_i e;simp[a4] at p;exact .inl ⟨e.symm,p.symm⟩
  ·rename_i e;exact .inr ⟨λe'=>e e'.symm,p⟩
 have B:∀(f:Nat) o',(s.hp.set id (some [V.rw k (xs.set i M)]))[f]? =some (some o')->∃N,s.hp[f]? =some (some N):=by
  intro f o' p;rcases split f o' p with⟨rfl,_⟩|⟨_,p⟩
  ·exact⟨_,hid⟩
  ·exact⟨_,p⟩
 have a5:0<k.sz:=by cases k<;>simp[EK.sz]
 have bs:xs[i]? =some xs[i]:=Ac t;have W:∀(q:Nat) c cv,(cellsOf [V.rw k (xs.set i M)])[q]? =some c->F[q]? =some cv->VRel g.I g.ρ s.hp.length w' c cv:=by
  intro q c cv r d;simp only[cellsOf] at r;obtain⟨y,S,r⟩:=bQ _ q c r;have p:q / k.sz*k.sz+q%k.sz=q:=by rw[BR];exact Ck q k.sz
  have hr:q%k.sz<k.sz:=Nat.mod_lt _ a5;rw[X] at d;rw[Aw] at S;split at S
  ·rename_i e1;rw[<-e1] at p;simp only[t,if_true,Ae] at S;subst S;have d2:=ba k xs[i];have hg:=uc (enc k xs[i]) (vs.map V.weak) o (by simp only[Bm];omega) (q%k.sz);simp only[Bm] at hg;rw[he,hg] at r;split at r;·rename_i H;rw[if_pos (by omega)] at d;rw[Au,Ak] at r;obtain⟨v,bl,rfl⟩:=r;rw[show q-(i*k.sz+o)=q%k.sz-o by omega] at d;exact((hv _ v cv bl d).weak).up u
   ·rename_i H;rw[if_neg (by omega)] at d;exact(G i _ (q%k.sz) c cv bs r (by rw[p];exact d)).up u
  ·rename_i e1;rw[if_neg ?_] at d;·exact(G _ y (q%k.sz) c cv S r (by rw[p];exact d)).up u
   ·intro hh;rcases AE (q / k.sz) i with h1|h1;·have:=kE h1 hr;omega
    ·have h2:i<q / k.sz:=by omega
     have:(i+1)*k.sz<=q / k.sz*k.sz:=AI _ h2;rw[AH,Cl] at this;omega
 refine⟨⟨⟨?_,?_,?_,?_,?_,?_⟩,⟨h.er.size,?_,?_⟩⟩,⟨rfl,q5,q6,q7,by rw[q4];exact Aj _,?_,?_,λ_ _ _ _ _ t=>t,λ_ _ _ hO=>hO,?_⟩⟩
 ·intro f o' p;simp only[St.setObj,AB];rcases split f o' p with⟨rfl,rfl⟩|⟨O,p⟩
  ·refine fa.ofRow (e:=e) q1 ⟨?_,(by intro hf;cases hf),?_,(λj H=>t1 j (Ax H (by simp only[cellsOf,aR,AB];exact R))),?_,W,?_,?_⟩ rfl;·simp only[cellsOf,aR,AB,q2];exact R
   ·intro x ys hz;have hz:some _=some _:=hz;cases hz;exact⟨by rw[q2];exact t1,by rw[q2];exact t2,t3,t4⟩
   ·intro c r;simp only[cellsOf,AC] at r;obtain⟨y,_,r⟩:=r;exact nw k y c r
   ·intro j c cv r d;have hm:=Af r;simp only[cellsOf,AC] at hm;obtain⟨y,_,hm⟩:=hm;exact eA (kf k y c hm) _ _ _ _
   ·intro j E n r;simp only[cellsOf] at r;obtain⟨y,_,r⟩:=bQ _ j _ r;exact absurd r (ni k y _ E n)
  ·refine(h.hr.obj f o' p).keep ?_ λb4 e2 c3 z x=>⟨x.len,x.plain,x.typedUp rfl u.rho u.num rfl,x.cold,x.one,λj c cv r d=>(x.rel j c cv r d).up u,λj c cv r d=>C _ _ _ (x.own j c cv r d),x.bn⟩
   rw[q3 _ (h.hr.apart f id o' _ p hid O)]
 ·intro id1 bx Y c2 z x O;obtain⟨_,z⟩:=B id1 Y z;obtain⟨_,x⟩:=B bx c2 x;exact h.hr.apart _ _ _ _ z x O
 ·intro id1 Y z;obtain⟨_,z⟩:=B id1 Y z;exact h.hr.notI _ _ z
 ·intro id1 Y z;obtain⟨_,z⟩:=B id1 Y z;exact h.hr.notO _ _ z
 ·intro b j t;exact(h.hr.exI b j t).set (A b j t) Z q1 q3
 ·intro b oc D;rw[q4];exact h.hr.oLt b oc D
 ·intro n v cv p d;simp only[St.setObj,AB];exact(h.er.rel n v cv p d).up u
 ·intro n v cv p d;exact C _ _ _ (h.er.own n v cv p d)
 ·intro b _ a0 _;exact q3 b (λe=>a0 id _ hid e.symm)
 ·simp only[AB];exact u
 ·intro f o' p;obtain⟨N,p⟩:=B f o' p;exact .inl ⟨N,p⟩
theorem SR.setRow(h:SR g s w a){id p:Nat}{k:EK}{xs ys:List (Ty k)}(ho:s.rowW id=some ⟨k,xs⟩){us:List Value}(hp:p+us.length<=xs.length*k.sz)(ar:ys.length<=xs.length)
  (hv:∀(q:Nat) c cv,(ys.flatMap (enc k))[q]? =some c->(if p<=q∧q<p+us.length then us[q-p]? else w.cell? ⟨g.ρ id,q,none⟩)=some cv->VRel g.I g.ρ s.hp.length w c cv):
  SR g (s.setObj id [.rw k ys]) (w.setCells (g.ρ id) p us) a∧FR g s.hp w g (s.hp.set id (some [.rw k ys])) (w.setCells (g.ρ id) p us):=by
 have hid:=ry ho;obtain⟨L,e,fz,N,bs,Y,a9⟩:=iX h ho;obtain⟨t1,t2,t3,t4⟩:=Y.typed k xs rfl;obtain⟨⟨F,X,q2⟩,S,q4,q5,q6,q7⟩:=eU (g.ρ id) us (p) w L e fz N;let w':=w.setCells (g.ρ id) (p) us;have c0:ys.length*k.sz<=xs.length*k.sz:=AI _ ar;have a1:∀b j,g.I b j->b≠g.ρ id:=by rintro b j A rfl;exact h.hr.notI id _ hid j A
 have B:∀b j,g.I b j->w'.cell? ⟨b,j,none⟩=w.cell? ⟨b,j,none⟩:=by intro b j A;exact AX _ _ _ w _ (λe=>absurd e (a1 b j A))
 have u:Up g.I g.ρ s.hp.length w g.I g.ρ s.hp.length w':=⟨λ_ _ h=>h,B,λ_ _=>rfl,Aj _⟩
 have x:∀H v cv,ai g w H v cv->ai g w' H v cv:=by intro H v cv a2;refine bd a2 rfl (λb j A=>⟨u.mono b j A,u.cell b j A⟩) ?_;intro b z;refine⟨z,S b ?_,λj D=>D⟩;rintro rfl;rw[h.hr.notO id _ hid] at z;simp at z
 have O:∀j,F[j]? =if p<=j∧j<p+us.length then us[j-(p)]? else L[j]?:=by
  intro j;rw[<-aA X j];split;·rename_i D;have:=Bt (g.ρ id) us (p) w (λj' bY=>by rw[aA N,Am (by omega)];rfl) (j-(p)) (by omega);rw[show p+(j-(p))=j by omega] at this;rw[Ac (by omega)];exact this
  ·rename_i D;rw[AX _ _ _ w _ (λ_ _=>by simp only;omega),aA N]
 have Z:id<s.hp.length:=(Ad.1 hid).1;have split:∀(d:Nat) o',(s.hp.set id (some [V.rw k (ys)]))[d]? =some (some o')->(d=id∧o'=[V.rw k (ys)])∨(d≠id∧s.hp[d]? =some (some o')):=by
  intro d o' i;rw[Aw] at i;split at i;·rename_i e;simp[Z] at i;exact .inl ⟨e.symm,i.symm⟩
  ·rename_i e;exact .inr ⟨λe'=>e e'.symm,i⟩
 have C:∀(d:Nat) o',(s.hp.set id (some [V.rw k (ys)]))[d]? =some (some o')->∃G,s.hp[d]? =some (some G):=by
  intro d o' i;rcases split d o' i with⟨rfl,_⟩|⟨_,i⟩
  ·exact⟨_,hid⟩
  ·exact⟨_,i⟩
 have M:∀(q:Nat) c cv,(cellsOf [V.rw k ys])[q]? =some c->F[q]? =some cv->VRel g.I g.ρ s.hp.length w' c cv:=by
  intro q c cv o f;simp only[cellsOf] at o;rw[O] at f;refine(hv q c cv o ?_).up u;split;·rename_i D;rw[if_pos D] at f;exact f
  ·rename_i D;rw[if_neg D] at f;rw[aA N];exact f
 refine⟨⟨⟨?_,?_,?_,?_,?_,?_⟩,⟨h.er.size,?_,?_⟩⟩,⟨rfl,q5,q6,q7,by rw[q4];exact Aj _,?_,?_,λ_ _ _ _ _ A=>A,λ_ _ _ hO=>hO,?_⟩⟩
 ·intro d o' i;simp only[St.setObj,AB];rcases split d o' i with⟨rfl,rfl⟩|⟨J,i⟩
  ·refine fa.ofRow (e:=e) X ⟨?_,(by intro hf;cases hf),?_,(λj D=>t1 j (Ax D (by simp only[cellsOf,aR];omega))),?_,M,?_,?_⟩ rfl;·simp only[cellsOf,aR,q2];omega
   ·intro r ys hz;have hz:some _=some _:=hz;cases hz;exact⟨by rw[q2];exact t1,by rw[q2];exact t2,t3,t4⟩
   ·intro c o;simp only[cellsOf,AC] at o;obtain⟨y,_,o⟩:=o;exact nw k y c o
   ·intro j c cv o f;have W:=Af o;simp only[cellsOf,AC] at W;obtain⟨y,_,W⟩:=W;exact eA (kf k y c W) _ _ _ _
   ·intro j E n o;simp only[cellsOf] at o;obtain⟨y,_,o⟩:=bQ _ j _ o;exact absurd o (ni k y _ E n)
  ·refine(h.hr.obj d o' i).keep ?_ λa4 e2 ci t r=>⟨r.len,r.plain,r.typedUp rfl u.rho u.num rfl,r.cold,r.one,λj c cv o f=>(r.rel j c cv o f).up u,λj c cv o f=>x _ _ _ (r.own j c cv o f),r.bn⟩
   rw[S _ (h.hr.apart d id o' _ i hid J)]
 ·intro id1 a3 R c2 t r J;obtain⟨_,t⟩:=C id1 R t;obtain⟨_,r⟩:=C a3 c2 r;exact h.hr.apart _ _ _ _ t r J
 ·intro id1 R t;obtain⟨_,t⟩:=C id1 R t;exact h.hr.notI _ _ t
 ·intro id1 R t;obtain⟨_,t⟩:=C id1 R t;exact h.hr.notO _ _ t
 ·intro b j A;exact(h.hr.exI b j A).set (B b j A) N X S
 ·intro b oc z;rw[q4];exact h.hr.oLt b oc z
 ·intro n v cv i f;simp only[St.setObj,AB];exact(h.er.rel n v cv i f).up u
 ·intro n v cv i f;exact x _ _ _ (h.er.own n v cv i f)
 ·intro b _ a0 _;exact S b (λe=>a0 id _ hid e.symm)
 ·simp only[AB];exact u
 ·intro d o' i;obtain⟨G,i⟩:=C d o' i;exact .inl ⟨G,i⟩
theorem ahJ(h:SR g s w a){id:Nat}{k:EK}{xs:List (Ty k)}(H:s.rowW id=some ⟨k,xs⟩)(o n:Nat)(R:o+n<=xs.length):∃news:List Value,news.length=n*k.sz∧
  (∀j u,news[j]? =some u->w.cell? ⟨g.ρ id,o*k.sz+j,none⟩=some u)∧(∀u∈news,u.oneCell'=true)∧
  ∀(q:Nat) c cv,(((xs.drop o).take n).flatMap (enc k))[q]? =some c->news[q]? =some cv->VRel g.I g.ρ s.hp.length w c cv:=by
 obtain⟨b,e,S,N,E,G,t⟩:=iX h H;have M:0<k.sz:=by cases k<;>simp[EK.sz]
 have O:o*k.sz+n*k.sz<=b.size:=by have:(o+n)*k.sz<=xs.length*k.sz:=AI _ R;rw[AH] at this;omega
 have d:∀q u,((b.toList.drop (o*k.sz)).take (n*k.sz))[q]? =some u->q<n*k.sz∧b[o*k.sz+q]? =some u:=by
  intro q u y;rw[AJ] at y;split at y;·rename_i A;rw[A0,Cv] at y;exact⟨A,y⟩
  ·cases y
 have v:∀(q:Nat) c cv,(((xs.drop o).take n).flatMap (enc k))[q]? =some c->((b.toList.drop (o*k.sz)).take (n*k.sz))[q]? =some cv->VRel g.I g.ρ s.hp.length w c cv:=by
  intro q c cv B D;obtain⟨W,J⟩:=d q cv D;obtain⟨x,z,f⟩:=bQ _ q c B;have C:xs[o+q / k.sz]? =some x:=by
   rw[AJ] at z;split at z
   ·rwa [A0] at z
   ·cases z
  refine t _ x _ c cv C f ?_;rw[AH,CU,show q / k.sz*k.sz+q%k.sz=q by rw[BR];exact Ck q k.sz];exact J
 refine⟨(b.toList.drop (o*k.sz)).take (n*k.sz),by simp;omega,λj u f=>?_,λu F=>?_,v⟩;·rw[aA N];exact(d j u f).2
 ·obtain⟨j,f,rfl⟩:=AP.1 F;have p:j<n*k.sz:=by simp at f;omega
  have r:(((xs.drop o).take n).flatMap (enc k)).length=n*k.sz:=by rw[aR,Bv,BA];congr 1;omega
  have B:=Ac (l:=((xs.drop o).take n).flatMap (enc k)) (i:=j) (by rw[r];exact p);refine(v j _ _ B (Ac f)).oneCell ?_;obtain⟨x,_,L⟩:=AC.1 (AO (l:=((xs.drop o).take n).flatMap (enc k)) (n:=j) (by rw[r];exact p));exact nw k x _ L
theorem ajp{d:Nat}{k:EK}{x:aj}{B F:Option aj}(i:iQ P (.slw d k x B F) m=true)(b:step Γ (.slw d k x B F) s=some (true,s'))(h:SR g s w a)(hn:bI g s w a s' next):m.wp P a w next Q:=by
 obtain⟨dst,op,ty,pos,H,X⟩:=m;simp only[iQ,Ab,beq_iff_eq] at i;obtain⟨rfl,i⟩:=i;split at i
 ·rename_i t L E D;simp only[Ab] at i;obtain⟨I,S,W,Z⟩:=i;have C:=aB S h.er;simp only[step,ahE] at b;split at b
  ·rename_i k' id n R;split at b
   ·rename_i Y;subst Y;simp only[B3,Ak,Dq] at b;obtain⟨⟨c,p,q⟩,v,b⟩:=b;simp only[Al] at b;obtain⟨rfl,rfl⟩:=b;rw[R] at C;obtain⟨e,M,I⟩:=cm I;obtain⟨inf,z,i1,N,i3,i4,i5,_⟩:=eB I;have r:∀w':World,(sizeOf e).run P w'=.ok k'.sz w':=λw'=>by simp[sizeOf,typeInfo,i1,N]
    generalize u:a.eval L=cv at C;cases C with
    |sw _ _ _ hid A f=>
     obtain⟨J,e2,e3⟩:=rt (P:=P) (isS:=true) A W Z v h;have o:(execOp a.eval ⟨some d,.slice t L E D none,ty,pos,H,X⟩).run P w=.ok (.value (.slice (some ⟨g.ρ id,if g.ρ (id+1)=p then 0 else p*k'.sz,none⟩) (q-p) (g.ρ (id+1)-p))) w:=by
      by_cases j:g.ρ (id+1)=p;·rw[j] at J;simp[execOp,u,Ce,CD,run_underlying M,J,r,j]
      ·simp[execOp,u,Ce,CD,run_underlying M,J,r,j,Bw]
     refine az h rfl o ?_ (by cases B<;>rfl) hn;cases B with
     |none=>
      have G:p=0:=by
       cases F with
       |none=>simp[c5,qu] at v;omega
       |some y=>simp only[c5] at v;cases O:y.ev s<;>rw[O] at v<;>simp[qu] at v;omega
      subst G;simp only[c5,Nat.zero_mul,ite_self,Nat.sub_zero];exact .sw k' id q hid (by omega) f
     |some y=>simp only[c5];refine .sx k' id p (q-p) _ _ hid (by omega) f (by omega) (λh0=>?_);rw[if_neg (by omega)]
   ·simp at b
  ·simp at b
 ·simp at i
theorem ajq{d:Nat}{k:EK}{x y:aj}(i:iQ P (.apx d k x y) m=true)(B:step Γ (.apx d k x y) s=some (true,s'))(h:SR g s w a)(hn:bI g s w a s' next):m.wp P a w next Q:=by
 obtain⟨dst,op,ty,pos,S,gd⟩:=m;simp only[iQ,Ab,beq_iff_eq] at i;obtain⟨rfl,i⟩:=i;split at i
 ·rename_i x' y' t u W;obtain rfl:=ke W;simp only[Ab] at i;obtain⟨h1,h2,h3,h4⟩:=i;obtain⟨e,u1,e1⟩:=cm h1;obtain⟨e',u2,e2⟩:=cm h2;simp only[step,abm] at B;split at B
  ·rename_i k1 id n k2 d3 o b hx D;split at B
   ·rename_i k' xs f;have f:s.rowW id=some ⟨k',xs⟩:=f;split at B
    ·rename_i hk;obtain⟨rfl,rfl,rfl,he⟩:=hk;obtain rfl:=he.symm;simp only[A9,Ae,Al,Ab,decide_eq_true_eq] at B;obtain⟨⟨l1,l2⟩,rfl⟩:=B;have O:=aB h3 h.er;have M:=aB h4 h.er;rw[hx] at O;rw[D] at M;generalize al:a.eval x'=cx at O;generalize X:a.eval y'=cy at M;obtain⟨inf,z,i1,I,i3,i4,i5,i6,i7⟩:=eB e1;obtain⟨news,n1,n2,n3,n4⟩:=ahJ h f o b l2;obtain⟨ci,er,fz,L,a9,Z,G⟩:=iX h f;have a1:n*k.sz+b*k.sz<=xs.length*k.sz:=by
      rw[<-AH];exact AI _ (by omega)
     have c0:0<k.sz:=by cases k<;>simp[EK.sz]
     cases O with
     |sw _ _ _ hid a4 H=>
     cases M with
     |sx _ _ _ _ ad cap a2 b5 cc bl J=>
      have F:_root_.Go.Src P k.sz u (.slice (some ⟨g.ρ id,ad,none⟩) b cap) b news w:=by
       refine _root_.Go.Src.ofSlice w u2 _ _ _ _ n1 (λj v C=>?_) n3;rw[Bw];have N:0<b:=by
        have:=(Ad.1 C).1;rw[n1] at this;rcases CN b with Y|Y;·rw[Y] at this;omega
        ·exact Y
       rw[J N];exact n2 j v C
      have r:n+b<=g.ρ (id+1):=by omega
      have hr:=run_append_room_src w t u ty e inf u1 i1 (g.ρ id) 0 n (g.ρ (id+1)) _ b news (by rw[I];exact F) r (by
       intro j C;rw[I,aA L,Am (by omega)];rfl) (by
       intro j C;rw[I];have i:=(Z.typed k xs rfl).1 (0+n*k.sz+j) (by omega);simp only[Bq,L,BJ,decide_eq_false_iff_not];omega)
      rw[I,AW] at hr;have E:(execOp a.eval ⟨some d,.call ⟨.builtin .append,⟨[x',y']⟩,⟨[t,u]⟩⟩,ty,pos,S,gd⟩).run P w=.ok (.value (.slice (some ⟨g.ρ id,0,none⟩) (n+b) (g.ρ (id+1)))) (w.setCells (g.ρ id) (n*k.sz) news):=by simp[execOp,resolve,invoke,builtin,al,X,hr]
      obtain⟨p1,p2⟩:=h.setRow (p:=n*k.sz) (us:=news) (ys:=xs.take n++(xs.drop o).take b) f (by omega) (by simp;omega) (by
       intro q c cv i A;rw[List.flatMap_append] at i;have ht:((xs.take n).flatMap (enc k)).length=n*k.sz:=by rw[aR,Bv];congr 1;omega
       by_cases hq:q<n*k.sz
       ·rw[if_neg (by omega),aA L] at A;rw[Ap (by omega)] at i;obtain⟨y,D,C⟩:=bQ _ q c i;rw[AJ] at D;split at D;·refine G _ y _ c cv D C ?_;rw[show q / k.sz*k.sz+q%k.sz=q by rw[BR];exact Ck q k.sz];exact A
        ·cases D
       ·rw[An (by omega),ht] at i;have R:=(Ad.1 i).1;rw[aR,Bv,BA] at R;have d4:min b (xs.length-o)*k.sz<=b*k.sz:=AI _ (Nat.min_le_left _ _);rw[if_pos (by omega)] at A;exact n4 _ c cv i A)
      refine dg rfl E ⟨g,?_,?_⟩ hn
      ·have hl:(s.setObj id [V.rw k (xs.take n++(xs.drop o).take b)]).hp.length=s.hp.length:=by simp[St.setObj]
       refine p1.set d ?_ (eA rfl _ _ _ _);rw[hl];exact .sw k id (n+b) hid r H
      ·exact p2
    ·simp at B
   ·simp at B
  ·simp at B
 ·simp at i
theorem ajr{d:Option Nat}{n:Nat}{x v:aj}(f:iQ P (.stw d n x v) m=true)(p:step Γ (.stw d n x v) s=some (true,s'))(h:SR g s w a)(hn:bI g s w a s' next):m.wp P a w next Q:=by
 obtain⟨dst,op,ty,pos,J,gd⟩:=m;simp only[iQ,Ab,beq_iff_eq] at f;obtain⟨rfl,f⟩:=f;split at f
 ·rename_i t Z y;simp only[Ab,beq_iff_eq] at f;obtain⟨h1,h2,h3⟩:=f;have G:=aB h2 h.er;have r2:=aB h3 h.er;simp only[step] at p;split at p
  ·rename_i id k i o hx;split at p
   ·rename_i k' xs Y;split at p
    ·rename_i b;obtain⟨rfl,bs,b⟩:=b;simp only[Ab,beq_iff_eq] at b;obtain⟨O,D⟩:=b;split at p
     ·rename_i x2 B;simp only[Ae,Al,decide_eq_true_eq] at p;obtain⟨F,rfl⟩:=p;have hd:xs.getD i (ao k')=xs[i]:=by simp[Aq,Ac F]
      rw[hd] at B;rw[hx] at G;generalize I:a.eval Z=cx at G;cases G with
      |wp _ _ _ _ hid=>
       obtain⟨C,e,fz,hb,a0,H,E⟩:=iX h Y;obtain⟨S,c2,N⟩:=pX r2 D;have A:(a.eval y).cells.size=n:=by rw[<-S];exact O
       have X:i*k'.sz+k'.sz<=C.size:=by have:(i+1)*k'.sz<=xs.length*k'.sz:=AI _ F;rw[AH,Cl] at this;omega
       have z:(execOp a.eval ⟨dst,.store t Z y,ty,pos,J,gd⟩).run P w=.ok .skip (w.setCells (g.ρ id) (i*k'.sz+o) (a.eval y).cells.toList):=by
        have:=run_storeCells_cells (P:=P) (g.ρ id) (i*k'.sz+o) (a.eval y).cells.toList 0 w
         (λj q=>by rw[aA hb,Am (by simp at q;omega)];rfl)
         (λj q=>by have f:=(H.typed k' xs rfl).1 (i*k'.sz+o+j) (by simp at q;omega);simp[Bq,hb];omega)
         (λu hu=>by
          obtain⟨j,q,rfl⟩:=AP.1 hu;have r:j<(v.ev s).cells.length:=by rw[S];simpa using q
          exact(N j _ _ (Ac r) (by simp)).oneCell (c2 _ (AO r)))
        simp[execOp,I,Dm,BH,storeVar,j9 h1,A,this]
       have R:∀c∈enc k' xs[i],c.inRange:=by
        intro c f;obtain⟨j,q,rfl⟩:=AP.1 f;have r:j<k'.sz:=by rwa [ba] at q
        exact(E i _ j _ _ (Ac F) (Ac q) (Am (show i*k'.sz+j<C.size by omega))).inRange
       have M:∀c∈(v.ev s).cells,c.inRange:=by intro c f;obtain⟨j,q,rfl⟩:=AP.1 f;exact(N j _ _ (Ac q) (Am (show j<(a.eval y).cells.size by omega))).inRange
       obtain⟨p1,W⟩:=h.putElt (o:=o) (us:=(a.eval y).cells.toList) Y F (by simpa using S) (by omega) (afP B R M) (λj c cv f L=>N j c cv f (by simpa using L));unfold Cw CZ;rw[z];cases dst with
       |none=>exact hn _ _ g p1 W rfl
       |some d=>exact hn _ _ g (p1.set d (.undef _) (by simp[ai])) W rfl
     ·simp at p
    ·simp at p
   ·simp at p
  ·simp at p
 ·simp at f
end
def ajs(P:Program)(o:IOp)(m:Oper):Bool:=
 match o with
 |_=>false
section
variable{w w':World}{g g':Gh}{s s':St}{a:Act}{P:Program}{Γ:am}{m:Oper}{next:Act->World->Prop}{Q:Exit->Act->World->Prop}
theorem aiK{k:EK}{xs:List (Ty k)}{q:Nat}{c:V}(d:(xs.flatMap (enc k))[q]? =some c):∃x,c∈enc k x:=by have b:=Af d;simp only[AC] at b;obtain⟨y,_,b⟩:=b;exact⟨y,b⟩
theorem adc{id:Nat}{c:Hol}(b:s.rowH id=some c):∃f e,s.hp[id]? =some (some [.tup [.rw c.k c.xs,.sw c.k2 c.id2 c.n2,.wp f e c.i c.o]]):=by
 unfold St.rowH at b;simp only[Aq] at b;cases d:s.hp[id]? with
 |none=>rw[d] at b;simp at b
 |some x=>
  rw[d] at b;simp only[A5] at b;split at b;·simp only[Ae] at b;subst b;exact⟨_,_,rfl⟩
  ·cases b
theorem afQ{id:Nat}{b:Hol}(h:SR g s w a)(q:s.rowH id=some b):∃c e d,w.heap[g.ρ id]? =some (.cells c e d)∧b.xs.length*b.k.sz<=c.size∧
  (∃cs,s.hp[id]? =some (some cs)∧yz cs=some ⟨b.k,b.xs⟩∧cellsOf cs=(b.xs.flatMap (enc b.k)).set (b.i*b.k.sz+b.o) (.sw b.k2 b.id2 b.n2)∧lc g s.hp.length w id cs c e d):=by
 obtain⟨t,r,j⟩:=adc q;obtain⟨c,e,d,p,f⟩:=(h.hr.obj id _ j).row rfl;refine⟨c,e,d,p,?_,_,j,rfl,rfl,f⟩;have:=f.len;simp only[cellsOf,AB] at this
 rwa [aR] at this
theorem aeA{k:EK}{x i:Ty k}{o:Nat}{v:V}(h:pU k x o [v]=some i)(e:∀(j:Nat) c,j≠o->(enc k x)[j]? =some c->c.inRange)(p:v.inRange):
  enc k i=((enc k x).take o++[v.weak])++(enc k x).drop (o+1):=by
 unfold pU at h;rw[abn h ?_];·rw[BT,BT,B9,Do,Dp,ac5];simp[ab9]
 ·intro c b;rcases Ay.1 b with b|b
  ·rcases Ay.1 b with b|b
   ·obtain⟨j,d⟩:=List.getElem?_of_mem b;rw[AJ] at d;split at d;·exact e j c (by omega) d
    ·simp at d
   ·obtain⟨u,f,rfl⟩:=AA.1 b;simp only[Az] at f;subst f;exact wL p
  ·obtain⟨j,d⟩:=List.getElem?_of_mem b;rw[A0] at d;exact e _ c (by simp;omega) d
theorem agV(h:SR g s w a){n:Nat}(F:(dc.hol n).step s=some (true,s')):∃g',SR g' s' w a∧FR g s.hp w g' s'.hp w:=by
 simp only[dc.step] at F;split at F
 ·rename_i k0 id n0 fq;split at F
  ·rename_i hh b2;split at F
   ·rename_i N ys Z;split at F
    ·rename_i hk;split at F
     ·rename_i x' a0;simp only[Ae,Al,Ab,decide_eq_true_eq] at F;obtain⟨⟨c1,C⟩,rfl⟩:=F;have b4:=As c1;clear c1;obtain⟨k,xs,k2,t,n2,i,o⟩:=hh;simp only at hk a0 b4 C Z ⊢;subst hk;obtain⟨a4,e,fz,hb,Y,cs,hm,cc,a5,a9⟩:=afQ h b2;simp only at Y cc a5;obtain⟨t1,t2,t3,t4⟩:=a9.typed k xs cc;obtain⟨H,e2,e9,cx,ex,O,ad⟩:=iX h Z;obtain⟨s1,s2,s3,s4⟩:=O.typed N ys rfl;have z:=ry Z;have cy:id≠t:=by
       rintro rfl;obtain⟨a1,a2,L⟩:=adc b2;rw[z] at L;cases L
      have hd:xs.getD i (ao k)=xs[i]:=by simp[Aq,Ac C]
      rw[hd] at a0;have e4:g.ρ id≠g.ρ t:=h.hr.apart _ _ _ _ hm z cy;have f2:id<s.hp.length:=(Ad.1 hm).1;have e6:t<s.hp.length:=(Ad.1 z).1;have b6:0<k.sz:=by cases k<;>simp[EK.sz]
      have ar:∀cv,o<k.sz->a4[i*k.sz+o]? =some cv->VRel g.I g.ρ s.hp.length w (.sw N t n2) cv:=by intro cv ho p;refine a9.rel (i*k.sz+o) _ cv ?_ p;rw[a5,BE (by rw[aR];exact kE C ho)]
      have A:∀(q:Nat) c cv,q≠i*k.sz+o->(xs.flatMap (enc k))[q]? =some c->a4[q]? =some cv->VRel g.I g.ρ s.hp.length w c cv:=by intro q c cv J r p;refine a9.rel q c cv ?_ p;rw[a5,AY (Ne.symm J)];exact r
      let R:Gh:={g with I:=λb j=>g.I b j∨(b=g.ρ t∧j<ys.length*N.sz)}
      let B:=(s.hp.set id (some [V.rw k (xs.set i x')])).set t none;have X:B.length=s.hp.length:=by simp[B]
      have u:Up g.I g.ρ s.hp.length w R.I R.ρ B.length w:=⟨λ_ _ hi=>.inl hi,λ_ _ _=>rfl,λ_ _=>rfl,by rw[X];exact Aj _⟩
      have u1:Up g.I g.ρ s.hp.length w R.I R.ρ s.hp.length w:=⟨λ_ _ hi=>.inl hi,λ_ _ _=>rfl,λ_ _=>rfl,Aj _⟩
      have sub:∀(j:Nat) f,B[j]? =some (some f)->(j=id∧f=[V.rw k (xs.set i x')])∨(j≠id∧j≠t∧s.hp[j]? =some (some f)):=by
       intro j f d;simp only[B,Aw] at d;split at d;·split at d<;>simp at d
       ·rename_i d0;split at d;·rename_i bl;simp only[Ae] at d;exact .inl ⟨bl.symm,d.symm⟩
        ·rename_i bl;exact .inr ⟨λe=>bl e.symm,λe=>d0 e.symm,d⟩
      have D:∀(j:Nat) f,B[j]? =some (some f)->j≠t∧∃c0,s.hp[j]? =some (some c0):=by
       intro j f d;rcases sub j f d with⟨rfl,_⟩|⟨_,h2,h3⟩
       ·exact⟨cy,_,hm⟩
       ·exact⟨h2,_,h3⟩
      have G:∀al v cv,ai g w al v cv->ai R w al v cv:=by
       intro al v cv ei;refine bd ei rfl (λb j hi=>⟨.inl hi,rfl⟩) ?_;intro b a3;refine⟨a3,rfl,?_⟩;rintro j (d|⟨rfl,_⟩);·exact d
       ·rw[h.hr.notO t _ z] at a3;simp at a3
      have el:∀(j:Nat) c,j≠o->(enc k xs[i])[j]? =some c->c.inRange:=by
       intro j c d r;have M:j<k.sz:=by
        have:=(Ad.1 r).1
        rwa [ba] at this
       have fw:=kE C M;exact(A (i*k.sz+j) c _ (by omega) (ng xs i j _ c (Ac C) r) (Am (by omega))).inRange
      have W:=aeA a0 el trivial;have bx:o<k.sz:=by have h1:=congrArg Aa W;simp only[AG,Bv,BA,ba,Bh] at h1;omega
      have b3:∀(q:Nat) c cv,(cellsOf [V.rw k (xs.set i x')])[q]? =some c->a4[q]? =some cv->VRel R.I R.ρ B.length w c cv:=by
       intro q c cv r p;simp only[cellsOf] at r;obtain⟨y,hy,r⟩:=bQ _ q c r;have J:q / k.sz*k.sz+q%k.sz=q:=by rw[BR];exact Ck q k.sz
       have hr:q%k.sz<k.sz:=Nat.mod_lt _ b6;rw[Aw] at hy;split at hy
       ·rename_i e1;rw[<-e1] at J;simp only[C,if_true,Ae] at hy;subst hy;have hg:=uc (enc k xs[i]) [(V.sl N (.may false) ys).weak] o (by simp only[Bh,ba];omega) (q%k.sz);simp only[Bh] at hg;rw[W,hg] at r;split at r
        ·rename_i d;have e3:q%k.sz=o:=by omega
         rw[e3,Cx] at r;simp only[AZ,Ae] at r;subst r;have d3:=ar cv bx (by rw[<-e3,J];exact p);cases d3 with
         |sw _ _ _ hN d2 L=>
         subst b4;simp only[V.weak];refine .sl N (.may false) ys (g.ρ t) 0 ys.length _ rfl d2 L (by simp) (λi j=>H[i*N.sz+j]?.getD undef) ?_ ?_ ?_;·intro i' x j hx d;rw[ba] at d;exact .inr ⟨rfl,by have:=kE (Ad.1 hx).1 d;omega⟩
         ·intro i' x j hx d;rw[ba] at d;have:=kE (Ad.1 hx).1 d;rw[AW,aA cx,Am (by omega)];rfl
         ·intro i' x j v hx d;have M:=(Ad.1 d).1;rw[ba] at M;have:=kE (Ad.1 hx).1 M;have ha:H[i'*N.sz+j]? =some (H[i'*N.sz+j]'(by omega)):=Am _;rw[ha];exact(ad i' x j v _ hx d ha).up u
        ·rename_i d;exact(A q c cv (by omega) (by rw[<-J];exact ng xs i _ _ c (Ac C) r) p).up u
       ·rename_i e1;refine(A q c cv ?_ (by rw[<-J];exact ng xs _ _ _ c hy r) p).up u;intro dk;have:q / k.sz=i:=by
         rw[dk,BR,Nat.mul_add_div b6,Nat.div_eq_of_lt bx,Cu]
        exact e1 this.symm
      refine⟨R,⟨⟨?_,?_,?_,?_,?_,h.hr.oLt⟩,⟨h.er.size,λm v cv hv p=>(h.er.rel m v cv hv p).up u,λm v cv hv p=>G _ _ _ (h.er.own m v cv hv p)⟩⟩,⟨rfl,rfl,rfl,rfl,Aj _,λ_ _ _ _=>rfl,u,?_,λ_ _ _ hO=>hO,λj f d=>.inl (D j f d).2⟩⟩
      ·intro j f d;rcases sub j f d with⟨rfl,rfl⟩|⟨n1,fd,d⟩
       ·refine fa.ofRow (e:=e) hb ⟨?_,(by intro hf;cases hf),?_,(λj d=>t1 j (Ax d (by simp only[cellsOf,aR,AB];exact Y))),?_,b3,?_,?_⟩ rfl;·simp only[cellsOf,aR,AB];exact Y
        ·intro k' zs hz;have hz:some _=some _:=hz;cases hz;exact⟨t1,t2,by rw[X];exact t3,t4⟩
        ·intro c r;simp only[cellsOf,AC] at r;obtain⟨y,_,r⟩:=r;exact nw k y c r
        ·intro j c cv r p;obtain⟨y,ds⟩:=aiK r;exact eA (kf k y c ds) _ _ _ _
        ·intro j E n r;simp only[cellsOf] at r;obtain⟨y,_,r⟩:=bQ _ j _ r;exact absurd r (ni k y _ E n)
       ·exact(h.hr.obj j f d).keep rfl λe0 e3 fr m1 S=>⟨S.len,S.plain,S.typedUp rfl u.rho u.num rfl,S.cold,S.one,λj c cv r p=>(S.rel j c cv r p).up u,λj c cv r p=>G _ _ _ (S.own j c cv r p),S.bn⟩
      ·intro j j' d4 d1 h1 h2 c2;obtain⟨_,_,h1⟩:=D j d4 h1;obtain⟨_,_,h2⟩:=D j' d1 h2;exact h.hr.apart _ _ _ _ h1 h2 c2
      ·rintro j f d q (J|⟨J,_⟩);·obtain⟨_,_,d⟩:=D j f d;exact h.hr.notI _ _ d q J
       ·obtain⟨em,_,d⟩:=D j f d;exact h.hr.apart _ _ _ _ d z em J
      ·intro j f d;obtain⟨_,_,d⟩:=D j f d;exact h.hr.notO _ _ d
      ·rintro b j (d|⟨rfl,d⟩);·exact h.hr.exI b j d
       ·exact .row cx (by omega) (λ_ hz=>absurd hz ((O.typed _ _ rfl).1 j (by omega)))
      ·rintro b j _ c3 _ (d|⟨rfl,_⟩);·exact d
       ·exact absurd rfl (c3 t _ z)
     ·simp at F
    ·simp at F
   ·simp at F
  ·simp at F
 ·simp at F
end
section
variable{w:World}{g g':Gh}{s s':St}{a:Act}
theorem SR.fillSlot(h:SR g s w a)(n:Nat){v:V}(c:VRel g.I g.ρ s.hp.length w v (a.tmps.getD n undef))(b:ai g w (.slot n) v (a.tmps.getD n undef)):SR g (s.set n v) w a:=
 ⟨h.hr,h.er.put' n c b⟩
theorem SR.fillCell(h:SR g s w a){id o:Nat}{cs:List V}(O:s.obj id=some cs)(L:o<cs.length){A:Array Value}{e:TypeId}(S:w.heap[g.ρ id]? =some (.cells A e (0,0))){v:V}{cv:Value}
  (x:A[o]? =some cv) (h1:v.one=true) (C:qt v=true) (hv:VRel g.I g.ρ s.hp.length w v cv) (D:ai g w (.cell id o) v cv):
  SR g (s.setObj id (cs.set o v)) w a∧FR g s.hp w g (s.hp.set id (some (cs.set o v))) w:=by
 obtain⟨hid,R⟩:=fI O;have H:id<s.hp.length:=(Ad.1 hid).1;let q:=cs.set o v;have split:∀(b:Nat) o',(s.hp.set id (some q))[b]? =some (some o')->(b=id∧o'=q)∨(b≠id∧s.hp[b]? =some (some o')):=by
  intro b o' f;rw[Aw] at f;split at f;·rename_i e;simp[H] at f;exact .inl ⟨e.symm,f.symm⟩
  ·rename_i e;exact .inr ⟨λJ=>e J.symm,f⟩
 have u:∀(b:Nat) o',(s.hp.set id (some q))[b]? =some (some o')->∃y,s.hp[b]? =some (some y):=by
  intro b o' f;rcases split b o' f with⟨rfl,_⟩|⟨_,f⟩
  ·exact⟨cs,hid⟩
  ·exact⟨_,f⟩
 have k:∀(j:Nat) c,q[j]? =some c->(j=o∧c=v)∨(j≠o∧cs[j]? =some c):=by
  intro j c p;simp only[q,Aw] at p;split at p;·rename_i e;simp only[L,if_true,Ae] at p;exact .inl ⟨e.symm,p.symm⟩
  ·rename_i e;exact .inr ⟨λJ=>e J.symm,p⟩
 refine⟨⟨⟨?_,?_,?_,?_,h.hr.exI,h.hr.oLt⟩,⟨h.er.size,?_,h.er.own⟩⟩,⟨rfl,rfl,rfl,rfl,Aj _,λ_ _ _ _=>rfl,?_,λ_ _ _ _ _ Y=>Y,λ_ _ _ Z=>Z,?_⟩⟩
 ·intro b o' f;simp only[St.setObj,AB];rcases split b o' f with⟨rfl,rfl⟩|⟨G,f⟩
  ·obtain⟨N,e2,B,t⟩:=nx h.hr O;rw[S] at B;cases B;refine fa.ofRow0 S ⟨by simp[q,t.len],?_,?_,?_,?_⟩
   ·intro c p;obtain⟨j,W,rfl⟩:=AP.1 p;rcases k j _ (Ac W) with⟨_,i⟩|⟨_,i⟩
    ·rw[i];exact h1
    ·exact t.one _ (Af i)
   ·intro j c z p d;rcases k j _ p with⟨rfl,rfl⟩|⟨_,i⟩
    ·rw[x] at d;obtain rfl:=Ar d;exact hv
    ·exact t.rel j c z i d
   ·intro j c z p d;rcases k j _ p with⟨rfl,rfl⟩|⟨_,i⟩
    ·rw[x] at d;obtain rfl:=Ar d;exact D
    ·exact t.own j c z i d
   ·intro j E n p;rcases k j _ p with⟨rfl,i⟩|⟨_,i⟩
    ·rw[<-i] at C;simp[qt] at C
    ·exact t.bn j E n i
  ·exact h.hr.obj b o' f
 ·intro id1 M F X r i G;obtain⟨_,r⟩:=u id1 F r;obtain⟨_,i⟩:=u M X i;exact h.hr.apart _ _ _ _ r i G
 ·intro id1 F r;obtain⟨_,r⟩:=u id1 F r;exact h.hr.notI _ _ r
 ·intro id1 F r;obtain⟨_,r⟩:=u id1 F r;exact h.hr.notO _ _ r
 ·intro n v cv f x;simp only[St.setObj,AB];exact h.er.rel n v cv f x
 ·simp only[AB];exact Up.refl _ _ _ _
 ·intro b o' f;obtain⟨y,f⟩:=u b o' f;exact .inl ⟨y,f⟩
def lA(g:Gh)(s:St)(w:World)(a:Act)(o:Occ)(cv:Value):Prop:=
 match o with
 | .slot n=>a.tmps.getD n undef=cv
 | .cell id j=>∃cs b e,s.obj id=some cs∧j<cs.length∧w.heap[g.ρ id]? =some (.cells b e (0,0))∧b[j]? =some cv
 | .res=>False
theorem abq(h:SR g s w a){o:Occ}{v:V}(b:s.at? o=v)(f:v≠.undef):∃cv,lA g s w a o cv∧VRel g.I g.ρ s.hp.length w v cv∧ai g w o v cv:=by
 cases o with
 |slot n=>simp only[St.at?] at b;subst b;exact⟨_,rfl,h.er.get n,h.er.getOwn n⟩
 |cell id j=>
  simp only[St.at?] at b;cases k:s.obj id with
  |none=>rw[k] at b;exact absurd b.symm f
  |some cs=>
   rw[k] at b;simp only at b;obtain⟨d,e,t,c⟩:=nx h.hr k;have i:j<cs.length:=by
    rcases AE j cs.length with i|i;·exact i
    ·rw[Aq,AU i] at b;exact absurd b.symm f
   have q:cs[j]? =some v:=by rw[<-b,Aq,Ac i];rfl
   have r:=c.len;have p:d[j]? =some (d[j]'(by omega)):=Am _;exact⟨_,⟨cs,d,e,k,i,t,p⟩,c.rel j v _ q p,c.own j v _ q p⟩
 |res=>simp only[St.at?] at b;exact absurd b.symm f
theorem SR.fill(h:SR g s w a){o:Occ}{cv:Value}(x:lA g s w a o cv){v:V}(u:v.one=true)(A:qt v=true)(E:VRel g.I g.ρ s.hp.length w v cv)(i:ai g w o v cv):
  SR g (s.put? o v) w a∧FR g s.hp w g (s.put? o v).hp w∧(s.put? o v).hp.length=s.hp.length∧lA g (s.put? o v) w a o cv:=by
 cases o with
 |slot n=>simp only[lA] at x;subst x;exact⟨h.fillSlot n E i,FR.refl _ _ _,rfl,rfl⟩
 |cell id j=>
  obtain⟨cs,z,e,y,f,D,F⟩:=x;obtain⟨G,H⟩:=h.fillCell y f D F u A E i;have t:s.put? (.cell id j) v=s.setObj id (cs.set j v):=by simp only[St.put?,y]
  rw[t];refine⟨G,H,by simp[St.setObj],cs.set j v,z,e,?_,by simpa using f,D,F⟩;obtain⟨hid,d⟩:=fI y;have r:id<s.hp.length:=(Ad.1 hid).1;have q:kd (cs.set j v)=false:=by
   cases L:kd (cs.set j v) with
   |false=>rfl
   |true=>
    obtain⟨k,es,t⟩:=tZ L;match cs,f with
    | [c],f=>
      have:j=0:=by simpa using f
      subst this;simp only[Bg,List.cons.injEq,and_true] at t;subst t;simp[V.one] at u
    |c::J::cs,f=>have:=congrArg Aa t;simp at this
  obtain⟨B,O,M,N,C⟩:=(G.hr.obj id (cs.set j v) (by simp[St.setObj,r])).row q;have p:b7 (cs.set j v)=false:=by
   unfold b7 at d ⊢;match cs,f,d with
   | [c],f,d=>
     have:j=0:=by simpa using f
     subst this;simp only[Bg];split;·rename_i b;cases b;simp[V.one] at u
     ·rename_i b;cases b;simp[V.one] at u
     ·rename_i b;cases b;simp[V.one] at u
     ·rfl
   |c::J::cs,f,d=>
    split
    ·rename_i b;cases j with
     |zero=>simp at b
     |succ j=>cases j<;>simp at b
    ·rename_i b;cases j with
     |zero=>simp at b
     |succ j=>cases j<;>simp at b
    ·rename_i b;cases j with
     |zero=>simp at b
     |succ j=>cases j<;>simp at b
    ·rfl
  unfold St.obj;simp only[St.setObj,Aq,Aw,r,if_true,A5];unfold b7 at p;split<;>rename_i b;·simp only[Ae] at b;rw[b] at p;simp at p
  ·simp only[Ae] at b;rw[b] at p;simp at p
  ·simp only[Ae] at b;rw[b] at q;simp[kd] at q
  ·simp only[Ae] at b;rw[b] at p;simp at p
  ·rfl
 |res=>exact absurd x (by simp[lA])
theorem agW{o:Occ}{cv:Value}{v:V}(r:lA g s w a o cv)(t:v.one=true)(d:v.bare=true):n8 (some o) (s.put? o v):=by
 cases o with
 |slot n=>
  intro u b;simp only[St.put?,St.set,Aw,if_true] at b;split at b;·cases Ar b;exact d
  ·simp at b
 |cell id j=>obtain⟨cs,q,e,f,p,_,_⟩:=r;obtain⟨hid,i⟩:=fI f;have c:id<s.hp.length:=(Ad.1 hid).1;intro k u h b;simp only[St.put?,f,St.setObj,Aw,c,if_true,Ae] at h;subst h;simp only[Aw,p,if_true,Ae] at b;subst b;exact d
 |res=>trivial
theorem aat{s:St}{id:Nat}{cs:List V}(b:s.obj id=some cs)(l:List ah):({s with hp:=s.hp++l}:St).obj id=some cs:=by obtain⟨hid,_⟩:=fI b;have c:id<s.hp.length:=(Ad.1 hid).1;unfold St.obj at b ⊢;simp only[Aq] at b ⊢;rw[Ap c];exact b
theorem SR.addRow(h:SR g s w a){k:EK}{xs:List (Ty k)}{b cap:Nat}{z:Array Value}{e:TypeId}{R:Nat×Nat}(Y:wH R z.size)(h2:xs.length<=cap)(h5:w.heap[b]? =some (.cells z e R))(h6:cap*k.sz<=z.size)(h7:k=.u8->e=g.β)
  (h8:∀j,¬g.I b j) (h4:g.O b=none) (J:∀(id:Nat) cs,s.hp[id]? =some (some cs)->g.ρ id≠b)
  (h9:∀(i:Nat) x (j:Nat) v u,xs[i]? =some x->(enc k x)[j]? =some v->z[i*k.sz+j]? =some u->VRel g.I (λ_=>0) 0 w v u):
  SR {g with ρ:=λid=>if id=s.hp.length then b else if id=s.hp.length+1 then cap else g.ρ id} {s with hp:=s.hp++[some [.rw k xs],none]} w a:=by
 let g':Gh:={g with ρ:=λid=>if id=s.hp.length then b else if id=s.hp.length+1 then cap else g.ρ id}
 have d:∀id,id<s.hp.length->g'.ρ id=g.ρ id:=λid hid=>by simp only[g'];rw[if_neg (by omega),if_neg (by omega)]
 have f:g'.ρ s.hp.length=b:=by simp[g']
 have B:g'.ρ (s.hp.length+1)=cap:=by simp[g']
 have u:Up g.I g.ρ s.hp.length w g'.I g'.ρ (s.hp++[some [V.rw k xs],none]).length w:=⟨λ_ _ r=>r,λ_ _ _=>rfl,d,by simp⟩
 have t:∀G v cv,ai g w G v cv->ai g' w G v cv:=λG v cv ho=>bd ho rfl (λb j r=>⟨r,rfl⟩) (λb hb=>⟨hb,rfl,λj N=>N⟩)
 have split:∀(id:Nat) o,(s.hp++[some [V.rw k xs],none])[id]? =some (some o)->(id<s.hp.length∧s.hp[id]? =some (some o))∨(id=s.hp.length∧o=[V.rw k xs]):=by
  intro id o hid;rcases AE id s.hp.length with r|r;·rw[Ap r] at hid;exact .inl ⟨r,hid⟩
  ·rw[An r] at hid;match hq:id-s.hp.length,hid with
   |0,hid=>simp at hid;exact .inr ⟨by omega,hid.symm⟩
   |1,hid=>simp at hid
   |n+2,hid=>simp at hid
 have C:xs.length*k.sz<=z.size:=AF (AI _ h2) h6;refine⟨⟨?_,?_,?_,?_,h.hr.exI,h.hr.oLt⟩,⟨h.er.size,λn v cv W q=>(h.er.rel n v cv W q).up u,λn v cv W q=>t _ _ _ (h.er.own n v cv W q)⟩⟩
 ·intro id o hid;rcases split id o hid with⟨r,hid⟩|⟨rfl,rfl⟩
  ·refine(h.hr.obj id o hid).keep (by rw[d id r]) λar e' R X A=>?_
   refine⟨A.len,A.plain,A.typedUp rfl u.rho u.num rfl,A.cold,A.one,λj c cv p q=>(A.rel j c cv p q).up u,λj c cv p q=>t _ _ _ (A.own j c cv p q),by rw[d id r];exact A.bn⟩
  ·refine fa.ofRow (e:=e) (by rw[f];exact h5) ⟨by simp only[cellsOf,aR];exact C,(by intro hf;cases hf),?_,(λj N=>Y j (Ax N (by simp only[cellsOf,aR];exact C))),?_,?_,?_,?_⟩ rfl;·intro A ys S;have S:some _=some _:=S;cases S;exact⟨Y,by rw[B];exact h6,by simp,h7⟩
   ·intro c p;simp only[cellsOf,AC] at p;obtain⟨y,_,p⟩:=p;exact nw k y c p
   ·intro j c cv p q;simp only[cellsOf] at p;obtain⟨y,hy,p⟩:=bQ _ j _ p;exact ny p (h9 _ y _ c cv hy p (by rw[show j / k.sz*k.sz+j%k.sz=j by rw[BR];exact Ck j k.sz];exact q))
   ·intro j c cv p q;have M:=Af p;simp only[cellsOf,AC] at M;obtain⟨y,_,M⟩:=M;exact eA (kf k y c M) _ _ _ _
   ·intro j E n p;simp only[cellsOf] at p;obtain⟨y,_,p⟩:=bQ _ j _ p;exact absurd p (ni k y _ E n)
 ·intro id F o o' X A L;rcases split id o X with⟨r,m1⟩|⟨e1, -⟩<;>rcases split F o' A with⟨H,Z⟩|⟨e2, -⟩
  ·rw[d _ r,d _ H];exact h.hr.apart id F o o' m1 Z L
  ·rw[d _ r,e2,f];exact J id o m1
  ·rw[d _ H,e1,f];exact(J F o' Z).symm
  ·exact absurd (e1.trans e2.symm) L
 ·intro id o hid j r;rcases split id o hid with⟨D,hid⟩|⟨rfl,rfl⟩
  ·rw[d _ D] at r;exact h.hr.notI id o hid j r
  ·rw[f] at r;exact h8 j r
 ·intro id o hid;rcases split id o hid with⟨D,hid⟩|⟨rfl,rfl⟩
  ·rw[d _ D];exact h.hr.notO id o hid
  ·rw[f];exact h4
theorem afR{s:St}{o:Occ}{cv:Value}(f:lA g s w a o cv)(v:V)(l:List ah):({s with hp:=s.hp++l}:St).put? o v={s.put? o v with hp:=(s.put? o v).hp++l}:=by
 cases o with
 |slot n=>rfl
 |cell id j=>obtain⟨cs,d,e,b,h,_,_⟩:=f;obtain⟨hid,_⟩:=fI b;have c:id<s.hp.length:=(Ad.1 hid).1;simp only[St.put?,b,aat b l,St.setObj];rw[List.set_append_left _ _ c]
 |res=>rfl
theorem afi{s:St}{o:Occ}{cv:Value}(r:lA g s w a o cv){u:V}(x:u.one=true)(c:lA g (s.put? o u) w a o cv)(v:V):(s.put? o u).put? o v=s.put? o v:=by
 cases o with
 |slot n=>simp[St.put?,St.set]
 |cell id j=>
  obtain⟨cs,p,e,d,y,_,_⟩:=r;obtain⟨q,i,z,b,k,_,_⟩:=c;obtain⟨hid,_⟩:=fI d;have f:id<s.hp.length:=(Ad.1 hid).1;have t:s.put? (.cell id j) u=s.setObj id (cs.set j u):=by simp only[St.put?,d]
  rw[t] at b ⊢;obtain⟨h,_⟩:=fI b;simp only[St.setObj,Aw,f,if_true,Ae] at h;subst h;simp only[St.put?];rw[b,d];simp only[St.setObj,List.set_set]
 |res=>rfl
theorem lA.append{s:St}{o:Occ}{cv:Value}(d:lA g s w a o cv)(h:∀id,id<s.hp.length->g'.ρ id=g.ρ id)(l:List ah):lA g' {s with hp:=s.hp++l} w a o cv:=by
 cases o with
 |slot n=>exact d
 |cell id j=>obtain⟨cs,c,e,f,p,i,k⟩:=d;obtain⟨hid,_⟩:=fI f;have b:id<s.hp.length:=(Ad.1 hid).1;exact⟨cs,c,e,aat f l,p,by rw[h id b];exact i,k⟩
 |res=>exact d
theorem aca(h:SR g s w a){o:Occ}(C:(dc.opn o).step s=some (true,s')):∃g',SR g' s' w a∧FR g s.hp w g' s'.hp w:=by
 simp only[dc.step] at C;split at C
 ·rename_i k xs L;simp only[Ae,Al,decide_eq_true_eq] at C;obtain⟨y,rfl⟩:=C;obtain⟨cv,Z,hv,ho⟩:=abq h L (by simp);rcases ho with⟨rfl,_⟩|⟨b,cap,br,e,fz,h0,rfl,J,h3,R,h5,h6,h7,h8,h9⟩
  ·simp at y
  ·have D:xs.length<=cR:=AF J h3;obtain⟨M,p2,p3,S⟩:=h.fill Z (v:=.hd xs.length) rfl rfl (.hd _ _ _ D) (by simp[ai]);have z:n8 (some o) (s.put? o (.hd xs.length)):=agW Z rfl rfl;let c:=s.put? o (.hd xs.length);let x:Gh:={g with O:=λp=>if p=b then none else g.O p}
   have A:∀(id:Nat) cs,c.hp[id]? =some (some cs)->g.ρ id≠b:=by intro id cs hid e';have:=M.hr.notO id cs hid;rw[e',R] at this;simp at this
   have k1:SR x c w a:=by
    refine M.keep (some o) z rfl (Up.refl _ _ _ _) ?_ ?_ h.hr.exI ?_
    ·intro b1 p d ad;have X:p≠b:=by
      rintro rfl;rw[R] at d;exact ad d
     exact⟨by simp[x,X,d],rfl,λj H=>H⟩
    ·intro id cs hid;exact⟨rfl,by simp[x,A id cs hid,M.hr.notO id cs hid],λj H=>H⟩
    ·intro p o' d;simp only[x] at d;split at d;·simp at d
     ·exact h.hr.oLt _ _ d
   have k2:=k1.addRow (b:=b) (cap:=cap) h0 J h5 h6 h7 h8 (by simp[x]) A h9;let f:Gh:={x with ρ:=λid=>if id=c.hp.length then b else if id=c.hp.length+1 then cap else x.ρ id}
   let i:St:={c with hp:=c.hp++[some [.rw k xs],none]}
   have t:∀id,id<c.hp.length->f.ρ id=g.ρ id:=λid hid=>by simp only[f];rw[if_neg (by omega),if_neg (by omega)]
   have F:lA f i w a o (.slice (some ⟨b,0,none⟩) xs.length cap):=lA.append (g:=g) S t _;have G:VRel f.I f.ρ i.hp.length w (.sw k c.hp.length xs.length) (.slice (some ⟨b,0,none⟩) xs.length cap):=by
    have u:f.ρ (c.hp.length+1)=cap:=by simp[f]
    have Y:f.ρ c.hp.length=b:=by simp[f]
    have:=VRel.sw (I:=f.I) (ρ:=f.ρ) (N:=i.hp.length) (w:=w) k c.hp.length xs.length (by simp[i]) (by rw[u];exact J) (by rw[u];exact h3);rw[u,Y] at this;exact this
   obtain⟨q1,q2,q3,q4⟩:=SR.fill (g:=f) (s:=i) k2 F (v:=.sw k c.hp.length xs.length) rfl rfl G (by simp[ai]);have r:c.hp.length=s.hp.length:=p3;have E:i.put? o (.sw k c.hp.length xs.length)={s.put? o (.sw k s.hp.length xs.length) with hp:=(s.put? o (.sw k s.hp.length xs.length)).hp++[some [.rw k xs],none]}:=by have W:=afR (g:=g) (w:=w) (a:=a) S (.sw k c.hp.length xs.length) [some [.rw k xs],none];rw[afi Z rfl S] at W;rw[r] at W;show ({c with hp:=c.hp++[some [.rw k xs],none]}:St).put? o (.sw k c.hp.length xs.length)=_;rw[r];exact W
   rw[E] at q1 q2;refine⟨f,q1,?_⟩;refine p2.trans (FR.trans (g₁:=f) (hp₁:=i.hp) (w₁:=w) ?_ q2);refine⟨rfl,rfl,rfl,rfl,Aj _,λ_ _ _ _=>rfl,⟨λ_ _ q=>q,λ_ _ _=>rfl,t,by simp[i,c]⟩,λ_ _ _ _ _ q=>q,?_,?_⟩
   ·intro p _ _ hO;show (if p=b then none else g.O p)=none;split;·rfl
    ·exact hO
   ·intro id cs hid;rcases AE id c.hp.length with q|q
    ·left;have:i.hp[id]? =c.hp[id]?:=by simp only[i];rw[Ap q]
     rw[this] at hid;exact⟨cs,hid⟩
    ·right;refine⟨q,.inr (.inl ?_)⟩;have B:id=c.hp.length:=by
      simp only[i] at hid;rw[An q] at hid;match hq:id-c.hp.length,hid with
      |0,_=>omega
      |1,hid=>simp at hid
      |n+2,hid=>simp at hid
     subst B;have:f.ρ c.hp.length=b:=by simp[f]
     rw[this,R];simp
 ·obtain rfl:s=s':=by simpa using C
  exact⟨g,h,FR.refl _ _ _⟩
theorem acb(h:SR g s w a){o:Occ}(J:(dc.cls o).step s=some (true,s')):∃g',SR g' s' w a∧FR g s.hp w g' s'.hp w:=by
 simp only[dc.step] at J;split at J
 ·rename_i k id n bl;split at J
  ·rename_i k' xs ho;split at J
   ·rename_i hk;subst hk;simp only[Ae,Al] at J;obtain⟨hn,rfl⟩:=J;obtain rfl:=As hn;obtain⟨cv,hl,hv, -⟩:=abq h bl (by simp);obtain⟨a4,e,fz,hb,ci,a2,al⟩:=iX h ho;obtain⟨t1,t2,t3,t4⟩:=a2.typed k' xs rfl;have hid:=ry ho;cases hv with
    |sw _ _ _ hN Z hm=>
    obtain⟨E,p2,p3,p4⟩:=h.fill hl (v:=.hd xs.length) rfl rfl (.hd _ _ _ (AF Z hm)) (by simp[ai]);let I:=s.put? o (.hd xs.length);have r:I.hp[id]? =some (some [.rw k' xs]):=by
     cases o with
     |slot n=>exact hid
     |cell t j=>
      obtain⟨cs,y,S,p,X,_,_⟩:=hl;have d:t≠id:=by rintro rfl;obtain⟨A,G⟩:=fI p;rw[hid] at A;cases A;simp[b7] at G
      simp only[I,St.put?,p,St.setObj];rw[AY d];exact hid
     |res=>exact absurd hl (by simp[lA])
    let H:Gh:={g with O:=λN=>if N=g.ρ id then some o else g.O N}
    let z:St:={I with hp:=I.hp.set id none}
    have sub:∀(i:Nat) cs,z.hp[i]? =some (some cs)->i≠id∧I.hp[i]? =some (some cs):=by
     intro i cs f;simp only[z,Aw] at f;split at f;·split at f<;>simp at f
     ·rename_i d;exact⟨λe=>d e.symm,f⟩
    have a9:g.O (g.ρ id)=none:=E.hr.notO id _ r;have B:∀M v cv,ai g w M v cv->ai H w M v cv:=by
     intro M v cv bs;refine bd bs rfl (λb j f=>⟨f,rfl⟩) ?_;intro b q;refine⟨?_,rfl,λj X=>X⟩;have:b≠g.ρ id:=by rintro rfl;rw[a9] at q;simp at q
     simp[H,this,q]
    have F:z.hp.length=I.hp.length:=by simp[z]
    have k1:SR H z w a:=by
     refine⟨⟨?_,?_,?_,?_,E.hr.exI,?_⟩,⟨E.er.size,λm v cv hv D=>by rw[F];exact E.er.rel m v cv hv D,λm v cv hv D=>B _ _ _ (E.er.own m v cv hv D)⟩⟩
     ·intro i cs f;obtain⟨d,f⟩:=sub i cs f;refine(E.hr.obj i cs f).keep rfl λy S fz m1 L=>?_
      rw[F];exact⟨L.len,L.plain,L.typed,L.cold,L.one,L.rel,λj c cv Z D=>B _ _ _ (L.own j c cv Z D),L.bn⟩
     ·intro i i' cs ar A G d;exact E.hr.apart i i' cs ar (sub i cs A).2 (sub i' ar G).2 d
     ·intro i cs f;exact E.hr.notI i cs (sub i cs f).2
     ·intro i cs f;obtain⟨d,f⟩:=sub i cs f;have:g.ρ i≠g.ρ id:=E.hr.apart i id cs _ f r d;show (if g.ρ i=g.ρ id then some o else g.O (g.ρ i))=none;rw[if_neg this];exact E.hr.notO i cs f
     ·intro N o' q;simp only[H] at q;split at q
      ·rename_i S;subst S;rcases AE (g.ρ id) w.heap.size with C|C;·exact C
       ·simp[CT C] at hb
      ·exact h.hr.oLt _ _ q
    have W:lA H z w a o (.slice (some ⟨g.ρ id,0,none⟩) xs.length (g.ρ (id+1))):=by
     cases o with
     |slot n=>exact p4
     |cell t j=>
      obtain⟨cs,y,S,p,X,q,ha⟩:=p4;refine⟨cs,y,S,?_,X,q,ha⟩;have d:id≠t:=by rintro rfl;obtain⟨A,G⟩:=fI p;rw[show (s.put? (.cell id j) (.hd xs.length)).hp[id]? =some (some [.rw k' xs]) from r] at A;cases A;simp[b7] at G
      unfold St.obj at p ⊢;simp only[z,Aq] at p ⊢;rw[AY d];exact p
     |res=>exact p4
    have br:sL H w o k' xs (.slice (some ⟨g.ρ id,0,none⟩) xs.length (g.ρ (id+1))):=
     .inr ⟨g.ρ id,g.ρ (id+1),a4,e,fz,t1,rfl,Z,hm,by simp[H],hb,t2,t4,λj=>E.hr.notI id _ r j,λi x j v u A G R=>ny G (al i x j v u A G R)⟩
    obtain⟨q1,q2,q3,q4⟩:=SR.fill (g:=H) (s:=z) k1 W (v:=.ul k' xs) rfl rfl (.ul _ _ _ _ (AF Z hm)) br;have a0:z.put? o (.ul k' xs)={s.put? o (.ul k' xs) with hp:=(s.put? o (.ul k' xs)).hp.set id none}:=by
     cases o with
     |slot n=>simp[z,I,St.put?,St.set]
     |cell t j=>
      obtain⟨cs,y,S,p,X,_,_⟩:=hl;obtain⟨c4,b0,e2,Y,cc,_,_⟩:=W;obtain⟨A,G⟩:=fI p;have C:t<s.hp.length:=(Ad.1 A).1;have d:t≠id:=by rintro rfl;rw[hid] at A;cases A;simp[b7] at G
      have he:I=s.setObj t (cs.set j (.hd xs.length)):=by simp only[I,St.put?,p]
      obtain⟨R,_⟩:=fI Y;simp only[z] at R;rw[AY (Ne.symm d),he] at R;simp only[St.setObj,Aw,C,if_true,Ae] at R;subst R;simp only[St.put?];rw[Y,p];simp only[z,he,St.setObj,List.set_set];rw[Dl _ _ d,List.set_set];rw[Dl _ _ (Ne.symm d)]
     |res=>rfl
    rw[a0] at q1 q2;refine⟨H,q1,p2.trans (FR.trans (g₁:=H) (hp₁:=z.hp) (w₁:=w) ?_ q2)⟩;refine⟨rfl,rfl,rfl,rfl,Aj _,λ_ _ _ _=>rfl,⟨λ_ _ f=>f,λ_ _ _=>rfl,λ_ _=>rfl,by rw[F];exact Aj _⟩,λ_ _ _ _ _ f=>f,?_,λi cs f=>.inl ⟨cs,(sub i cs f).2⟩⟩;intro N _ a5 hO;show (if N=g.ρ id then some o else g.O N)=none;rw[if_neg (λe=>a5 id _ r e.symm)];exact hO
   ·simp at J
  ·simp at J
 ·obtain rfl:s=s':=by simpa using J
  exact⟨g,h,FR.refl _ _ _⟩
theorem ade(h:SR g s w a){o:Occ}(H:(dc.fz o).step s=some (true,s')):∃g',SR g' s' w a∧FR g s.hp w g' s'.hp w:=by
 simp only[dc.step] at H;split at H
 ·rename_i k xs W;obtain rfl:_=s':=by simpa using H
  obtain⟨cv,L,hv,ho⟩:=abq h W (by simp);rcases ho with⟨rfl,rfl⟩|⟨b,cap,d,e,fz,h0,rfl,R,h3,J,E,h6,h7,h8,h9⟩
  ·obtain⟨B,M,p3,X⟩:=h.fill L (v:=.sl k .own []) rfl rfl (.sln _ _) (by simp[ai]);exact⟨g,B,M⟩
  ·have C:xs.length<=cR:=AF R h3;obtain⟨B,M,p3,X⟩:=h.fill L (v:=.hd xs.length) rfl rfl (.hd _ _ _ C) (by simp[ai]);have z:n8 (some o) (s.put? o (.hd xs.length)):=agW L rfl rfl;let p:=s.put? o (.hd xs.length);let f:Gh:={g with I:=λq j=>g.I q j∨(q=b∧j<xs.length*k.sz)}
   have a3:xs.length*k.sz<=d.size:=AF (AI _ R) h6;have S:∀(id:Nat) cs,p.hp[id]? =some (some cs)->g.ρ id≠b:=by intro id cs hid e';have:=B.hr.notO id cs hid;rw[e',J] at this;simp at this
   have u:Up g.I g.ρ p.hp.length w f.I f.ρ p.hp.length w:=⟨λ_ _ F=>.inl F,λ_ _ _=>rfl,λ_ _=>rfl,Aj _⟩
   have k1:SR f p w a:=by
    refine B.keep (some o) z rfl u ?_ ?_ ?_ h.hr.oLt
    ·intro b0 q t Z;have Y:q≠b:=by
      rintro rfl;rw[J] at t;exact Z t
     refine⟨t,rfl,?_⟩;rintro j (c|⟨c,_⟩);·exact c
     ·exact absurd c Y
    ·intro id cs hid;refine⟨rfl,B.hr.notO id cs hid,?_⟩;rintro j (c|⟨c,_⟩);·exact c
     ·exact absurd c (S id cs hid)
    ·rintro q j (c|⟨rfl,c⟩);·exact h.hr.exI q j c
     ·exact .row E (by omega) (λ_ hz=>absurd hz (h0 j (by omega)))
   have N:lA f p w a o (.slice (some ⟨b,0,none⟩) xs.length cap):=X;have r:∀x:Ty k,∀j,j<(enc k x).length->j<k.sz:=λx j c=>by rwa [ba] at c
   have A:VRel f.I f.ρ p.hp.length w (.sl k .own xs) (.slice (some ⟨b,0,none⟩) xs.length cap):=by
    refine .sl k .own xs _ _ _ _ rfl R h3 (by simp) (λi j=>d[i*k.sz+j]?.getD undef) ?_ ?_ ?_;·intro i x j y c;exact .inr ⟨rfl,by have:=kE (Ad.1 y).1 (r x j c);omega⟩
    ·intro i x j y c;have:=kE (Ad.1 y).1 (r x j c);rw[AW,aA E,Am (by omega)];rfl
    ·intro i x j v y c;have O:=(Ad.1 c).1;have:=kE (Ad.1 y).1 (r x j O);have ha:d[i*k.sz+j]? =some (d[i*k.sz+j]'(by omega)):=Am _;rw[ha];exact(ny (ρ':=g.ρ) (N':=p.hp.length) c (h9 i x j v _ y c ha)).up u
   have D:ai f w o (.sl k .own xs) (.slice (some ⟨b,0,none⟩) xs.length cap):=by
    refine⟨J,⟨d,e,fz,E,by simpa using h6,h7⟩,?_⟩;intro j j1 j2;simp only[AW] at j1 j2;refine⟨?_,by have:=h0 j (by omega);simp only[Bq,E,BJ,decide_eq_false_iff_not];omega⟩;rintro(F|⟨_,F⟩);·exact h8 j F
    ·omega
   obtain⟨q1,q2,q3,q4⟩:=SR.fill (g:=f) (s:=p) k1 N (v:=.sl k .own xs) rfl rfl A D;rw[afi L rfl X] at q1 q2;refine⟨f,q1,M.trans (FR.trans (g₁:=f) (hp₁:=p.hp) (w₁:=w) ?_ q2)⟩;refine⟨rfl,rfl,rfl,rfl,Aj _,λ_ _ _ _=>rfl,u,?_,λ_ _ _ G=>G,λ_ cs h=>.inl ⟨cs,h⟩⟩;rintro q j _ _ G (c|⟨rfl,_⟩);·exact c
   ·rw[J] at G;simp at G
 ·obtain rfl:s=s':=by simpa using H
  exact⟨g,h,FR.refl _ _ _⟩
theorem ji(h:SR g s w a){x:dc}(b:x.step s=some (true,s')):∃g',SR g' s' w a∧FR g s.hp w g' s'.hp w:=by
 cases x with
 |opn o=>exact aca h b
 |cls o=>exact acb h b
 |fz o=>exact ade h b
 |hol n=>exact agV h b
 |isf d q cs=>
  simp only[dc.step] at b;split at b;·simp only[Ae,Al] at b;obtain⟨_,rfl⟩:=b;exact⟨g,h,FR.refl _ _ _⟩
  ·simp at b
variable{w':World}{P:Program}{Γ:am}{m:Oper}{next:Act->World->Prop}{Q:Exit->Act->World->Prop}
end
def aj.slots:aj->List Nat
 | .t n| .tk n=>[n]
 | .c _=>[]
def aj.takes:aj->List Nat
 | .tk n=>[n]
 |_=>[]
def wM:Option aj->List Nat
 |some x=>x.slots
 |none=>[]
def IOp.rd:IOp->List Nat
 | .mov _ x| .un _ _ x| .cvi _ _ x| .b2s _ x| .lenl _ x| .box _ x| .fad _ _ x| .ld _ _ _ _ x| .ext _ _ x| .nck _ x| .boxe _ x| .lde _ _ _ x=>x.slots
 | .frz _ r _ v=>r::v.slots
 | .pick _ c x y=>c.slots++(x.slots++y.slots)
 | .bin _ _ x y| .ixa _ _ x y| .apo _ _ x y| .st _ _ x y| .app _ _ x y| .mx _ _ x y| .beq _ _ x y=>x.slots++y.slots
 | .subs _ x a b| .subl _ _ x a b| .slw _ _ x a b=>x.slots++(wM a++wM b)
 | .bsl _ _ d _=>d.flatMap aj.slots
 | .bld _ _ d=>d.flatMap λp=>p.2.2.slots
 | .new _ _| .alr _ _=>[]
 | .call _ _ avs| .mkf _ _ avs=>avs.flatMap aj.slots
 | .dcall _ _ x avs=>x.slots++avs.flatMap aj.slots
 | .snil _ x| .lnw _ x| .fdw _ _ x| .ldw _ _ _ x=>x.slots
 | .apu _ _ x y| .apx _ _ x y| .ixw _ _ x y| .stw _ _ x y=>x.slots++y.slots
 | .blu _ _=>[]
 | .mkm _ _=>[]
 | .mget _ _ _ x y=>x.slots++y.slots
 | .mput _ _ x y z=>x.slots++(y.slots++z.slots)
def IOp.wr(o:IOp):List Nat:=
 o.dst.toList++(match o with| .mov _ x| .app _ _ x _| .st _ _ _ x=>x.takes| .frz _ r _ _=>[r]| .apu _ _ x _| .apo _ _ x _=>x.takes|_=>[])
def IOp.cls(imp:List Nat):IOp->Nat
 | .ld _ _ _ false _| .ldw .. | .mget ..=>1
 | .ld _ _ _ true _| .st .. | .new .. | .box .. | .dcall .. | .stw .. | .apx .. | .apo .. | .mkm .. | .mput ..=>2
 | .call _ f _=>if imp.contains f then 2 else 0
 |_=>0
def wN(hp:List ah)(q:List (Nat×ah)):List ah:=q.foldl (λh p=>h.set p.1 p.2) hp
structure cd(Γ:am)(imp:List Nat):Prop where
 pure:∀f avs hp,imp.contains f=false->Γ f avs hp=(Γ f avs []).map λx=>(x.1,x.2.1,hp)
 loc:∀f vs hp c v hp',imp.contains (f+2000000)=true->Γ f vs hp=some (c,v,hp')->∃q:List (Nat×ah),(∀p∈q,p.1∈nX vs)∧hp'=wN hp q∧
  ∀hp2:List ah,hp2.length=hp.length->(∀i∈te vs,hp2[i]? =hp[i]?)->Γ f vs hp2=some (c,v,wN hp2 q)
theorem zd(q:List (Nat×ah)):∀hp:List ah,(wN hp q).length=hp.length:=by
 induction q with
 |nil=>intro hp;rfl
 |cons p q a=>intro hp;show (wN (hp.set p.1 p.2) q).length=_;rw[a];simp
theorem adf{q:List (Nat×ah)}{i:Nat}:∀{hp:List ah},(∀p∈q,p.1≠i)->(wN hp q)[i]? =hp[i]?:=by
 induction q with
 |nil=>intro hp _;rfl
 |cons p q a=>intro hp h;show (wN (hp.set p.1 p.2) q)[i]? =_;rw[a (λx b=>h x (AS _ b)),AY (h p (AN ..))]
theorem sq{hp a:List ah}{i:Nat}(h:a[i]? =hp[i]?):a.getD i none=hp.getD i none:=by rw[Ah,Ah,h]
theorem acc{l:List Nat}{i:Nat}(h:i∈l):i∈afF l:=AC.2 ⟨i,h,Bd.2 (Nat.lt_succ_self i)⟩
theorem afS{vs:List V}{i:Nat}(h:i∈dh vs):i∈nX vs:=AT _ (acc (AT _ h))
theorem ud{vs:List V}{i:Nat}(h:i∈mz vs):i∈te vs:=AT _ (acc (AT _ h))
theorem ra:∀{vs:List V}{i:Nat},i∈dh vs->i∈mz vs
 | [],_,h=>by simp[dh] at h
 |v::vs,i,h=>by
  have e:mz (v::vs)=v.cellsA.flatMap V.id1++mz vs:=by simp[mz]
  rw[e,Ay];unfold dh at h;split at h;·rename_i a;cases a
  ·rename_i a;cases a;rcases AL.1 h with rfl|h;·left;simp[V.cellsA,V.id1]
   ·exact .inr (ra h)
  ·rename_i a;cases a;exact .inr (ra h)
theorem ahK{vs:List V}{i:Nat}(h:i∈nX vs):i∈te vs:=by
 rcases Ay.1 h with h|h
 ·obtain⟨j,a,b⟩:=AC.1 h;rcases Ay.1 a with a|a;·exact AT _ (AC.2 ⟨j,AT _ (ra a),b⟩)
  ·exact AT _ (AC.2 ⟨j,BI _ a,b⟩)
 ·exact BI _ h
def St.upd(s:St)(l:List (Nat×V)):St:={s with env:=l.foldl (λe p=>e.set p.1 p.2) s.env}
section
variable{Γ:am}{imp:List Nat}
theorem bb{s t:St}{x:aj}(h:∀n∈x.slots,t.get n=s.get n):x.ev t=x.ev s:=by
 cases x with
 |t n=>simp only[aj.ev];rw[h n (by simp[aj.slots])]
 |tk n=>exact h n (by simp[aj.slots])
 |c v=>rfl
theorem agX{s t:St}{x:Option aj}(h:∀n∈wM x,t.get n=s.get n):c5 t x=c5 s x:=by
 cases x with
 |none=>rfl
 |some x=>simp only[c5];rw[bb h]
theorem bE(s:St)(d:Option Nat)(v:V):s.setO d v=s.upd (d.toList.map λd=>(d,v)):=by cases d<;>rfl
theorem eV(s:St)(x:aj):x.after s=s.upd (x.takes.map λn=>(n,disown (s.get n))):=by cases x<;>rfl
theorem iT(s:St)(l m:List (Nat×V)):(s.upd l).upd m=s.upd (l++m):=by simp[St.upd,List.foldl_append]
theorem yA{s:St}:∀{l:List (Nat×V)}{n:Nat},(∀p∈l,p.1≠n)->(s.upd l).get n=s.get n:=by
 intro l;induction l generalizing s with
 |nil=>intro n h;rfl
 |cons p l a=>intro n h;have:s.upd (p::l)=(s.set p.1 p.2).upd l:=rfl;rw[this,a (λq b=>h q (AS _ b))];simp[St.get,St.set,Aq,Aw,h p (AN ..)]
def aiw(Γ:am)(imp:List Nat)(o:IOp)(s:St)(c:Bool)(s':St):Prop:=
 ∃u:List (Nat×V),(∀p∈u,p.1∈o.wr)∧s'=s.upd u∧∀t:St,(∀n∈o.rd,t.get n=s.get n)->(o.cls imp=1->t.hp=s.hp)->step Γ o t=some (c,t.upd u)
theorem aT{o:IOp}{s s':St}{c:Bool}(E:Option (Bool×V))(b:∀t:St,(∀n∈o.rd,t.get n=s.get n)->(o.cls imp=1->t.hp=s.hp)->step Γ o t=E.map λp=>(p.1,t.setO o.dst p.2))
  (h:step Γ o s=some (c,s')):aiw Γ imp o s c s':=by
 rw[b s (λ_ _=>rfl) (λ_=>rfl)] at h;cases E with
 |none=>simp at h
 |some p=>
  simp only[A9,Ae,Al] at h;obtain⟨rfl,rfl⟩:=h;refine⟨o.dst.toList.map λd=>(d,p.2),?_,bE _ _ _,?_⟩;·intro q a;simp only[AA] at a;obtain⟨d,f,rfl⟩:=a;simp[IOp.wr,f]
  ·intro t g e;rw[b t g e,<-bE];rfl
theorem afT(hP:cd Γ imp){o:IOp}(D:o.cls imp<=1){s:St}{c:Bool}{s':St}(h:step Γ o s=some (c,s')):
  aiw Γ imp o s c s':=by
 have w:∀{x:aj}{l:List Nat}{t:St},(∀n∈l,t.get n=s.get n)->(∀n∈x.slots,n∈l)->x.ev t=x.ev s:=λh1 S=>bb λn z=>h1 n (S n z)
 have M:∀{x:Option aj}{l:List Nat}{t:St},(∀n∈l,t.get n=s.get n)->(∀n∈wM x,n∈l)->c5 t x=c5 s x:=λh1 S=>agX λn z=>h1 n (S n z)
 cases o with
 |mov d x=>
  obtain⟨rfl,rfl⟩:true=c∧_=s':=by simpa [step] using h
  refine⟨x.takes.map (λn=>(n,disown (s.get n)))++[(d,x.ev s)],?_,?_,?_⟩
  ·intro p hp;simp only[Ay,AA,Az] at hp;rcases hp with⟨n,z,rfl⟩|rfl;·simp[IOp.wr,IOp.dst,z]
   ·simp[IOp.wr,IOp.dst]
  ·rw[<-iT,<-eV];rfl
  ·intro t g _;have e:=bb (x:=x) g;have F:x.takes.map (λn=>(n,disown (t.get n)))=x.takes.map (λn=>(n,disown (s.get n))):=by
    cases x with
    |tk n=>simp only[aj.takes,List.map];rw[g n (by simp[IOp.rd,aj.slots])]
    |_=>rfl
   simp only[step,e];rw[eV,F,<-iT];rfl
 |app d k x y=>
  simp only[step] at h;split at h
  ·rename_i k' ox l W ow m C P;split at h
   ·rename_i Y;split at h
    ·rename_i G;simp only[Ae,Al] at h;obtain⟨rfl,rfl⟩:=h;refine⟨x.takes.map (λn=>(n,disown (s.get n)))++[(d,.sl k' .own (l++(G▸m)))],?_,?_,?_⟩
     ·intro p hp;simp only[Ay,AA,Az] at hp;rcases hp with⟨n,z,rfl⟩|rfl;·simp[IOp.wr,IOp.dst,z]
      ·simp[IOp.wr,IOp.dst]
     ·rw[<-iT,<-eV];rfl
     ·intro t g _;have A:=bb (x:=x) (λn z=>g n (by simp[IOp.rd,z]));have N:=bb (x:=y) (λn z=>g n (by simp[IOp.rd,z]));have F:x.takes.map (λn=>(n,disown (t.get n)))=x.takes.map (λn=>(n,disown (s.get n))):=by
       cases x with
       |tk n=>simp only[aj.takes,List.map];rw[g n (by simp[IOp.rd,aj.slots])]
       |_=>rfl
      simp only[step,A,N,C,P,Y,G,dif_pos,if_true];rw[eV,F,<-iT];rfl
    ·simp at h
   ·simp at h
  ·simp at h
 |apu d k x y=>
  simp only[step] at h;split at h
  ·rename_i k' l W ow m C P;split at h
   ·rename_i Y;split at h
    ·rename_i G;simp only[Ae,Al] at h;obtain⟨rfl,rfl⟩:=h;refine⟨x.takes.map (λn=>(n,disown (s.get n)))++[(d,.ul k' (l++(G▸m)))],?_,?_,?_⟩
     ·intro p hp;simp only[Ay,AA,Az] at hp;rcases hp with⟨n,z,rfl⟩|rfl;·simp[IOp.wr,IOp.dst,z]
      ·simp[IOp.wr,IOp.dst]
     ·rw[<-iT,<-eV];rfl
     ·intro t g _;have A:=bb (x:=x) (λn z=>g n (by simp[IOp.rd,z]));have N:=bb (x:=y) (λn z=>g n (by simp[IOp.rd,z]));have F:x.takes.map (λn=>(n,disown (t.get n)))=x.takes.map (λn=>(n,disown (s.get n))):=by
       cases x with
       |tk n=>simp only[aj.takes,List.map];rw[g n (by simp[IOp.rd,aj.slots])]
       |_=>rfl
      simp only[step,A,N,C,P,Y,G,dif_pos,if_true];rw[eV,F,<-iT];rfl
    ·simp at h
   ·simp at h
  ·simp at h
 |apo=>simp[IOp.cls] at D
 |mkm=>simp[IOp.cls] at D
 |mput=>simp[IOp.cls] at D
 |mget d k ok x y=>
  refine aT (match x.ev s with
   | .nilm=>(k.dkey (y.ev s)).map λ_=>(true,wG k ok none)
   | .mr id=>(match s.mapO id with
     |some ⟨k',es⟩=>if k'=k then (k'.dkey (y.ev s)).map λkey=>(true,wG k' ok (aU es key)) else none
     |none=>none)
   |_=>none) (λt g J=>?_) h
  have j:x.ev t=x.ev s:=w g (by simp+contextual [IOp.rd]);have A:y.ev t=y.ev s:=w g (by simp+contextual [IOp.rd]);have F:∀id,t.mapO id=s.mapO id:=λid=>by simp only[St.mapO];rw[J rfl]
  simp only[step,j,A,F,IOp.dst,St.setO];generalize x.ev s=xe;cases xe with
  |nilm=>simp only[B3];rfl
  |mr id=>
   simp only[];cases s.mapO id with
   |none=>rfl
   |some p=>
    obtain⟨k',es⟩:=p;simp only[];split;·simp only[B3];rfl
    ·rfl
  |_=>rfl
 |snil d x=>refine aT (match x.ev s with| .sl _ _ xs=>some (decide (0<xs.length),.bool false)|_=>none) (λt g _=>?_) h;have j:x.ev t=x.ev s:=w g (by simp+contextual [IOp.rd]);simp only[step,j,IOp.dst,St.setO];split<;>first|rfl|(simp_all;done)
 |blu d k=>refine aT (some (true,.ul k [])) (λt g _=>?_) h;simp only[step,IOp.dst,St.setO,A9]
 |slw d k x H E=>
  refine aT (ahE k (x.ev s) (c5 s H) (c5 s E)) (λt g _=>?_) h;have j:x.ev t=x.ev s:=w g (by simp+contextual [IOp.rd]);have A:∀o:Option aj,(∀n∈wM o,n∈(IOp.slw d k x H E).rd)->c5 t o=c5 s o:=λo ho=>by
   cases o with
   |none=>rfl
   |some y=>exact congrArg some (w (x:=y) g ho)
  simp only[step,j,A H (by simp+contextual [IOp.rd]),A E (by simp+contextual [IOp.rd]),IOp.dst,St.setO]
 |lnw d x=>refine aT (match x.ev s with| .hd n=>some (true,.int .i64 n)| .sw _ _ n=>some (true,.int .i64 n)|_=>none) (λt g _=>?_) h;have j:x.ev t=x.ev s:=w g (by simp+contextual [IOp.rd]);simp only[step,j,IOp.dst,St.setO];split<;>first|rfl|(simp_all;done)
 |ixw d k x i=>
  refine aT (match x.ev s,i.ev s with| .sw k' id n,.int _ i=>if k'=k then some (decide (0<=i)&&decide (i<n),.wp id k' i.toNat 0) else none|_,_=>none) (λt g _=>?_) h;have j:x.ev t=x.ev s:=w g (by simp+contextual [IOp.rd]);have A:i.ev t=i.ev s:=w g (by simp+contextual [IOp.rd]);simp only[step,j,A,IOp.dst,St.setO];split;·split<;>first|rfl|(simp_all;done)
  ·first|rfl|(simp_all;done)
 |fdw d B x=>refine aT (match x.ev s with| .wp id k i o=>some (true,.wp id k i (o+B))|_=>none) (λt g _=>?_) h;have j:x.ev t=x.ev s:=w g (by simp+contextual [IOp.rd]);simp only[step,j,IOp.dst,St.setO];split<;>first|rfl|(simp_all;done)
 |ldw d n agg x=>
  refine aT (match x.ev s with
   | .wp id k i o=>(match s.rowW id with
     |some ⟨k',xs⟩=>if k'=k∧o+n<=k'.sz then some (decide (i<xs.length),disown (cG agg (((enc k' (xs.getD i (ao k'))).drop o).take n))) else none
     |none=>none)
   |_=>none) (λt g J=>?_) h
  have j:x.ev t=x.ev s:=w g (by simp+contextual [IOp.rd]);have A:∀id,t.rowW id=s.rowW id:=λid=>by simp only[St.rowW];rw[J rfl]
  simp only[step,j,A,IOp.dst,St.setO];split
  ·rename_i id k i o C;simp only[C];cases hr:s.rowW id with
   |none=>rfl
   |some p=>obtain⟨k',xs⟩:=p;simp only;split<;>rfl
  ·rename_i C;split;·rename_i R;exact absurd R (C _ _ _ _)
   ·rfl
 |new=>simp[IOp.cls] at D
 |box=>simp[IOp.cls] at D
 |st=>simp[IOp.cls] at D
 |stw d n x v=>simp[IOp.cls] at D
 |apx=>simp[IOp.cls] at D
 |dcall=>simp[IOp.cls] at D
 |alr d n=>refine aT (some (true,.raw n)) (λt g _=>?_) h;simp only[step,IOp.dst,St.setO,A9]
 |lde d n agg x=>
  refine aT (match x.ev s with| .ea cs=>if n<=cs.length then some (true,disown (cG agg (cs.take n))) else none|_=>none) (λt g _=>?_) h;have j:x.ev t=x.ev s:=w g (by simp+contextual [IOp.rd]);simp only[step,j,IOp.dst,St.setO];split;·split<;>first|rfl|(simp_all;done)
  ·first|rfl|(simp_all;done)
 |frz d r n v=>
  simp only[step] at h;split at h
  ·rename_i m hr;split at h
   ·rename_i hc;simp only[Ae,Al] at h;obtain⟨rfl,rfl⟩:=h;refine⟨[(r,.ea ((v.ev s).cells.map disown))]++(d.toList.map λd=>(d,.undef)),?_,?_,?_⟩
    ·intro p hp;simp only[Ay,AA,Az] at hp;rcases hp with rfl|⟨m,hm,rfl⟩
     ·simp[IOp.wr]
     ·simp[IOp.wr,IOp.dst,hm]
    ·rw[<-iT,<-bE];rfl
    ·intro t g _;have A:=bb (x:=v) (λn z=>g n (by simp[IOp.rd,z]));have F:t.get r=s.get r:=g r (by simp[IOp.rd]);simp only[step,A,F,hr,hc,if_true];rw[<-iT,<-bE];rfl
   ·simp at h
  ·simp at h
 |boxe d x=>
  refine aT (match x.ev s with| .agg cs=>some (true,.ea (cs.map disown))|v=>if v.one then some (true,.ea [disown v]) else none) (λt g _=>?_) h;have j:x.ev t=x.ev s:=w g (by simp+contextual [IOp.rd]);simp only[step,j,IOp.dst,St.setO];split;·first|rfl|(simp_all;done)
  ·split<;>first|rfl|(simp_all;done)
 |mkf d f I=>
  refine aT (some (true,.fn f (I.map λx=>disown (x.ev s)))) (λt g _=>?_) h;have e:(I.map λx=>disown (x.ev t))=I.map λx=>disown (x.ev s):=AV λx C=>congrArg disown (w g (λn z=>by simp only[IOp.rd,AC];exact⟨x,C,z⟩))
  simp only[step,e,IOp.dst,St.setO,A9]
 |pick d X x y=>refine aT (match X.ev s with| .bool t=>some (true,acY t (disown (x.ev s)) (disown (y.ev s)))|_=>none) (λt g _=>?_) h;have j:X.ev t=X.ev s:=w g (by simp+contextual [IOp.rd]);have A:x.ev t=x.ev s:=w g (by simp+contextual [IOp.rd]);have F:y.ev t=y.ev s:=w g (by simp+contextual [IOp.rd]);simp only[step,j,A,F,IOp.dst,St.setO];split<;>first|rfl|(simp_all;done)
 |bin d o x y=>refine aT (ahC o (x.ev s) (y.ev s)) (λt g _=>?_) h;have j:x.ev t=x.ev s:=w g (by simp+contextual [IOp.rd]);have A:y.ev t=y.ev s:=w g (by simp+contextual [IOp.rd]);simp only[step,j,A,IOp.dst,St.setO]
 |un d o x=>refine aT ((unV o (x.ev s)).map λv=>(true,v)) (λt g _=>?_) h;have j:x.ev t=x.ev s:=w g (by simp+contextual [IOp.rd]);simp only[step,j,IOp.dst,St.setO];cases unV o (x.ev s)<;>rfl
 |cvi d k x=>refine aT (match x.ev s with| .int _ n=>some (true,.int k (k.wrap n))|_=>none) (λt g _=>?_) h;have j:x.ev t=x.ev s:=w g (by simp+contextual [IOp.rd]);simp only[step,j,IOp.dst,St.setO];split<;>first|rfl|(simp_all;done)
 |b2s d x=>refine aT (match x.ev s with| .sl .u8 _ l=>some (true,.str l)|_=>none) (λt g _=>?_) h;have j:x.ev t=x.ev s:=w g (by simp+contextual [IOp.rd]);simp only[step,j,IOp.dst,St.setO];split<;>first|rfl|(simp_all;done)
 |lenl d x=>refine aT (match x.ev s with| .sl _ _ l=>some (true,.int .i64 l.length)|_=>none) (λt g _=>?_) h;have j:x.ev t=x.ev s:=w g (by simp+contextual [IOp.rd]);simp only[step,j,IOp.dst,St.setO];split<;>first|rfl|(simp_all;done)
 |ixa d k x i=>
  refine aT (match x.ev s,i.ev s with| .sl k' _ l,.int _ i=>if k'=k then some (decide (0<=i)&&decide (i<l.length),.ea (enc k' (l.getD i.toNat (ao k')))) else none|_,_=>none) (λt g _=>?_) h;have j:x.ev t=x.ev s:=w g (by simp+contextual [IOp.rd]);have A:i.ev t=i.ev s:=w g (by simp+contextual [IOp.rd]);simp only[step,j,A,IOp.dst,St.setO];split;·split<;>first|rfl|(simp_all;done)
  ·first|rfl|(simp_all;done)
 |subs d x H E=>
  refine aT (match x.ev s with| .str l=>(qu l.length (c5 s H) (c5 s E)).map λ(c,a,b)=>(c,.str ((l.take b).drop a))|_=>none) (λt g _=>?_) h;have j:x.ev t=x.ev s:=w g (by simp+contextual [IOp.rd]);have f0:c5 t H=c5 s H:=M g (by simp+contextual [IOp.rd]);have O:c5 t E=c5 s E:=M g (by simp+contextual [IOp.rd]);simp only[step,j,f0,O,IOp.dst,St.setO];split;·rename_i l hl;simp only[hl,B3];rfl
  ·first|rfl|(simp_all;done)
 |subl d k x H E=>
  refine aT (match x.ev s with| .sl k' _ l=>if k'=k then (qu l.length (c5 s H) (c5 s E)).map λ(c,a,b)=>(c,.sl k' (.may false) ((l.take b).drop a)) else none|_=>none) (λt g _=>?_) h;have j:x.ev t=x.ev s:=w g (by simp+contextual [IOp.rd]);have f0:c5 t H=c5 s H:=M g (by simp+contextual [IOp.rd]);have O:c5 t E=c5 s E:=M g (by simp+contextual [IOp.rd]);simp only[step,j,f0,O,IOp.dst,St.setO];split
  ·rename_i l hl;simp only[hl];split;·simp only[B3];rfl
   ·rfl
  ·first|rfl|(simp_all;done)
 |bsl d k I u=>
  refine aT ((td k (I.map (·.ev s))).map λl=>(true,.sl k (cond u (.may true) .own) l)) (λt g _=>?_) h;have e:I.map (·.ev t)=I.map (·.ev s):=AV λx C=>w g (λn z=>by simp only[IOp.rd,AC];exact⟨x,C,z⟩)
  simp only[step,e,IOp.dst,St.setO,B3];rfl
 |bld d zero I=>
  refine aT ((lay zero (I.map λ(B,n,x)=>(B,n,x.ev s))).map λcs=>(true,.agg cs)) (λt g _=>?_) h;have e:(I.map λ(B,n,x)=>(B,n,x.ev t))=I.map λ(B,n,x)=>(B,n,x.ev s):=AV λx C=>by
   have:=w (x:=x.2.2) g (λn z=>by simp only[IOp.rd,AC];exact⟨x,C,z⟩);show (x.1,x.2.1,_)=(x.1,x.2.1,_)
   rw[this]
  simp only[step,e,IOp.dst,St.setO,B3];rfl
 |fad d B x=>refine aT (match x.ev s with| .ea cs=>some (true,.ea (cs.drop B))| .ptr id o=>some (true,.ptr id (o+B))|_=>none) (λt g _=>?_) h;have j:x.ev t=x.ev s:=w g (by simp+contextual [IOp.rd]);simp only[step,j,IOp.dst,St.setO];split<;>first|rfl|(simp_all;done)
 |ld d n agg L x=>
  cases L with
  |true=>simp[IOp.cls] at D
  |false=>
   refine aT (match x.ev s with| .ea cs=>if n<=cs.length then some (true,disown (cG agg (cs.take n))) else none| .ptr id o=>(match s.obj id with|some cs=>if o+n<=cs.length then some (true,disown (cG agg ((cs.drop o).take n))) else none|none=>none)|_=>none) (λt g J=>?_) h;have j:x.ev t=x.ev s:=w g (by simp+contextual [IOp.rd]);have A:∀id,t.obj id=s.obj id:=λid=>by simp only[St.obj];rw[J rfl]
   simp only[step,j,A,IOp.dst,St.setO];split;·split<;>first|rfl|(simp_all;done)
   ·split;·split<;>first|rfl|(simp_all;done)
    ·first|rfl|(simp_all;done)
   ·first|rfl|(simp_all;done)
 |ext d i x=>
  refine aT (match x.ev s with| .tup vs=>if i<vs.length then some (true,disown (vs.getD i .undef)) else none|_=>none) (λt g _=>?_) h;have j:x.ev t=x.ev s:=w g (by simp+contextual [IOp.rd]);simp only[step,j,IOp.dst,St.setO];split;·split<;>first|rfl|(simp_all;done)
  ·first|rfl|(simp_all;done)
 |nck d x=>refine aT (match x.ev s with| .ptr id o=>some (true,.ptr id o)| .ea cs=>some (true,.ea cs)| .wp id k i o=>some (true,.wp id k i o)|_=>none) (λt g _=>?_) h;have j:x.ev t=x.ev s:=w g (by simp+contextual [IOp.rd]);simp only[step,j,IOp.dst];split<;>first|rfl|(simp_all;done)
 |beq d Z x y=>refine aT (match x.ev s,y.ev s with| .bool p,.bool q=>some (true,.bool (cond Z (!(p==q)) (p==q)))|_,_=>none) (λt g _=>?_) h;have j:x.ev t=x.ev s:=w g (by simp+contextual [IOp.rd]);have A:y.ev t=y.ev s:=w g (by simp+contextual [IOp.rd]);simp only[step,j,A,IOp.dst,St.setO];split<;>first|rfl|(simp_all;done)
 |mx d mn x y=>
  refine aT (match x.ev s,y.ev s with| .int k a,.int k' b=>if k=k' then some (true,.int k (if mn then (if b<a then b else a) else (if a<b then b else a))) else none|_,_=>none) (λt g _=>?_) h;have j:x.ev t=x.ev s:=w g (by simp+contextual [IOp.rd]);have A:y.ev t=y.ev s:=w g (by simp+contextual [IOp.rd]);simp only[step,j,A,IOp.dst,St.setO];split;·split<;>first|rfl|(simp_all;done)
  ·first|rfl|(simp_all;done)
 |call d f avs=>
  have Q:imp.contains f=false:=by
   simp only[IOp.cls] at D;split at D;·omega
   ·rename_i Q;simpa using Q
  refine aT ((Γ f (avs.map λx=>disown (x.ev s)) []).map λx=>(x.1,x.2.1)) (λt g _=>?_) h;have e:(avs.map λx=>disown (x.ev t))=avs.map λx=>disown (x.ev s):=AV λx C=>by rw[w (x:=x) g (λn z=>by simp only[IOp.rd,AC];exact⟨x,C,z⟩)]
  simp only[step,e,IOp.dst];rw[hP.pure _ _ _ Q];cases Γ f (avs.map λx=>disown (x.ev s)) [] with
  |none=>rfl
  |some p=>rfl
def St.put(s:St)(u:List (Nat×V))(q:Option (List ah)):St:={s.upd u with hp:=q.getD s.hp}
theorem adg(hP:cd Γ imp){o:IOp}(R:∀d k x y,o≠.apo d k x y){s:St}{c:Bool}{s':St}(h:step Γ o s=some (c,s')):
  ∃(u:List (Nat×V))(q:Option (List ah)),(∀p∈u,p.1∈o.wr)∧(o.cls imp<=1->q=none)∧s'=s.put u q∧
   ∀t:St,(∀n∈o.rd,t.get n=s.get n)->(1<=o.cls imp->t.hp=s.hp)->step Γ o t=some (c,t.put u q):=by
 have A:∀{x:aj}{l:List Nat}{t:St},(∀n∈l,t.get n=s.get n)->(∀n∈x.slots,n∈l)->x.ev t=x.ev s:=λS N=>bb λn H=>S n (N n H)
 by_cases L:o.cls imp<=1;·obtain⟨u,S,N,h3⟩:=afT hP L h;exact⟨u,none,S,λ_=>rfl,N,λt a g=>h3 t a (λe=>g (by omega))⟩
 ·have b:∀{q:Option (List ah)},o.cls imp<=1->q=none:=λh=>absurd h L
  cases o with
  |new d zero=>
   obtain⟨rfl,rfl⟩:true=c∧_=s':=by simpa [step] using h
   refine⟨[(d,.ptr s.hp.length 0)],some (s.hp++[some zero]),by simp[IOp.wr,IOp.dst],b,rfl,λt a g=>?_⟩;have e:=g (by simp[IOp.cls]);simp only[step,e];rfl
  |apo d k x y=>exact absurd rfl (R d k x y)
  |apx d k x y=>simp only[step,Ak] at h;obtain⟨⟨c2,v2,X,r2⟩,hv,h⟩:=h;simp only[Al] at h;obtain⟨rfl,rfl⟩:=h;refine⟨[(d,v2)],some (s.hp.set X (some [r2])),by simp[IOp.wr,IOp.dst],b,rfl,λt a g=>?_⟩;have e:=g (by simp[IOp.cls]);have j:x.ev t=x.ev s:=A a (by simp+contextual [IOp.rd]);have F:y.ev t=y.ev s:=A a (by simp+contextual [IOp.rd]);simp only[step,j,F,e,hv,A9,St.setObj];rfl
  |stw d n x v=>
   simp only[step] at h;split at h
   ·rename_i id k i o r;cases C:s.rowW id with
    |none=>rw[C] at h;simp at h
    |some p=>
     obtain⟨k',xs⟩:=p;rw[C] at h;simp only at h;split at h
     ·rename_i w;cases P:pU k' (xs.getD i (ao k')) o (v.ev s).cells with
      |none=>rw[P] at h;simp at h
      |some Z=>
       rw[P] at h;simp only[Ae,Al] at h;obtain⟨rfl,rfl⟩:=h;refine⟨d.toList.map (λd=>(d,V.undef)),some (s.hp.set id (some [.rw k' (xs.set i Z)])),?_,b,?_,?_⟩;·intro p hp;simp only[AA] at hp;obtain⟨m,B,rfl⟩:=hp;simp[IOp.wr,IOp.dst,B]
       ·simp only[St.put,<-bE];cases d<;>rfl
       ·intro t a g;have e:=g (by simp[IOp.cls]);have j:x.ev t=x.ev s:=A a (by simp+contextual [IOp.rd]);have F:v.ev t=v.ev s:=A a (by simp+contextual [IOp.rd]);have D:t.rowW id=some ⟨k',xs⟩:=by rw[<-C];simp only[St.rowW];rw[e]
        simp only[step,j,F,r,D];rw[if_pos w,P,<-e];simp only[St.put,<-bE];cases d<;>rfl
     ·simp at h
   ·simp at h
  |mkm d k=>
   obtain⟨rfl,rfl⟩:true=c∧_=s':=by simpa [step] using h
   refine⟨[(d,.mr s.hp.length)],some (s.hp++[some [.mp k []]]),by simp[IOp.wr,IOp.dst],b,rfl,λt a g=>?_⟩;have e:=g (by simp[IOp.cls]);simp only[step,e];rfl
  |mput d k x y z=>
   simp only[step] at h;split at h
   ·rename_i id r;split at h
    ·rename_i k' es C;split at h
     ·rename_i Q;split at h
      ·rename_i key v M hz;simp only[Ae,Al] at h;obtain⟨rfl,rfl⟩:=h;refine⟨d.toList.map (λd=>(d,V.undef)),some (s.hp.set id (some [.mp k' (bz es key v)])),?_,b,?_,?_⟩;·intro p hp;simp only[AA] at hp;obtain⟨m,B,rfl⟩:=hp;simp[IOp.wr,IOp.dst,B]
       ·simp only[St.put,<-bE];cases d<;>rfl
       ·intro t a g;have e:=g (by simp[IOp.cls]);have j:x.ev t=x.ev s:=A a (by simp+contextual [IOp.rd]);have F:y.ev t=y.ev s:=A a (by simp+contextual [IOp.rd]);have O:z.ev t=z.ev s:=A a (by simp+contextual [IOp.rd]);have D:t.mapO id=s.mapO id:=by simp only[St.mapO];rw[e]
        simp only[step,j,F,O,D,r,C,M,hz];rw[if_pos Q,<-e];simp only[St.put,<-bE];cases d<;>rfl
      ·simp at h
     ·simp at h
    ·simp at h
   ·simp at h
  |box d x=>
   have j:∀t:St,(∀n∈(IOp.box d x).rd,t.get n=s.get n)->x.ev t=x.ev s:=λt a=>A a (by simp+contextual [IOp.rd])
   simp only[step] at h;split at h;·rename_i cs r;simp only[Ae,Al] at h;obtain⟨rfl,rfl⟩:=h;refine⟨[(d,.ptr s.hp.length 0)],some (s.hp++[some cs]),by simp[IOp.wr,IOp.dst],b,rfl,λt a g=>?_⟩;have e:=g (by simp[IOp.cls]);simp only[step,j t a,r,e];rfl
   ·rename_i r;split at h;·rename_i I;simp only[Ae,Al] at h;obtain⟨rfl,rfl⟩:=h;refine⟨[(d,.ptr s.hp.length 0)],some (s.hp++[some [disown (x.ev s)]]),by simp[IOp.wr,IOp.dst],b,rfl,λt a g=>?_⟩;have e:=g (by simp[IOp.cls]);simp only[step,j t a,e];rw[if_pos I];rfl
    ·simp at h
  |st d n x v=>
   simp only[step] at h;split at h
   ·rename_i id o r;split at h
    ·rename_i cs C;split at h
     ·rename_i w;simp only[Ae,Al] at h;obtain⟨rfl,rfl⟩:=h;refine⟨v.takes.map (λn=>(n,disown (s.get n)))++d.toList.map (λd=>(d,V.undef)),some (s.hp.set id (some (cs.take o++(v.ev s).cells++cs.drop (o+n)))),?_,b,?_,?_⟩
      ·intro p hp;simp only[Ay,AA] at hp;rcases hp with⟨m,B,rfl⟩|⟨m,B,rfl⟩
       ·simp[IOp.wr,IOp.dst,B]
       ·simp[IOp.wr,IOp.dst,B]
      ·simp only[St.put,<-iT,<-eV,<-bE];cases d<;>cases v<;>rfl
      ·intro t a g;have e:=g (by simp[IOp.cls]);have j:x.ev t=x.ev s:=A a (by simp+contextual [IOp.rd]);have F:v.ev t=v.ev s:=A a (by simp+contextual [IOp.rd]);have D:t.obj id=s.obj id:=by simp only[St.obj];rw[e]
       have O:v.takes.map (λn=>(n,disown (t.get n)))=v.takes.map (λn=>(n,disown (s.get n))):=by
        cases v with
        |tk n=>simp only[aj.takes,List.map];rw[a n (by simp[IOp.rd,aj.slots])]
        |_=>rfl
       simp only[step,j,F,D,r,C];rw[if_pos w,<-O,<-e];simp only[St.put,<-iT,<-eV,<-bE];cases d<;>cases v<;>rfl
     ·simp at h
    ·simp at h
   ·simp at h
  |ld d n agg J x=>
   cases J with
   |false=>simp[IOp.cls] at L
   |true=>
    have j:∀t:St,(∀m∈(IOp.ld d n agg true x).rd,t.get m=s.get m)->x.ev t=x.ev s:=λt a=>A a (by simp+contextual [IOp.rd])
    simp only[step] at h;split at h
    ·rename_i cs r;split at h;·rename_i G;simp only[Ae,Al] at h;obtain⟨rfl,rfl⟩:=h;refine⟨[(d,_)],none,by simp[IOp.wr,IOp.dst],b,rfl,λt a g=>?_⟩;simp only[step,j t a,r];rw[if_pos G];rfl
     ·simp at h
    ·rename_i id o r;split at h
     ·rename_i cs C;split at h
      ·rename_i G;simp only[if_true] at h;cases E:qt (cs.getD o .undef) with
       |false=>rw[E] at h;simp at h
       |true=>
       rw[E] at h;simp only[if_true,Ae,Al] at h;obtain⟨rfl,rfl⟩:=h;refine⟨[(d,cG agg ((cs.drop o).take n))],some (s.hp.set id (some (cs.set o (disown (cs.getD o .undef))))),by simp[IOp.wr,IOp.dst],b,rfl,λt a g=>?_⟩;have e:=g (by simp[IOp.cls]);have D:t.obj id=s.obj id:=by simp only[St.obj];rw[e]
       simp only[step,j t a,r,D,C];rw[if_pos G,E,<-e];rfl
      ·simp at h
     ·simp at h
    ·simp at h
  |call d f avs=>
   have j:∀t:St,(∀n∈(IOp.call d f avs).rd,t.get n=s.get n)->(avs.map λx=>disown (x.ev t))=avs.map λx=>disown (x.ev s):=λt a=>AV λx r=>by rw[A (x:=x) a (λn H=>by simp only[IOp.rd,AC];exact⟨x,r,H⟩)]
   simp only[step] at h;split at h
   ·rename_i Y v hp' W;simp only[Ae,Al] at h;obtain⟨rfl,rfl⟩:=h;refine⟨d.toList.map (λd=>(d,v)),some hp',?_,b,?_,λt a g=>?_⟩;·intro p hp;simp only[AA] at hp;obtain⟨m,B,rfl⟩:=hp;simp[IOp.wr,IOp.dst,B]
    ·simp only[St.put,<-bE];cases d<;>rfl
    ·have e:=g (by omega);simp only[step,j t a,e,W];simp only[St.put,<-bE];cases d<;>rfl
   ·simp at h
  |dcall d f x avs=>
   have ex:∀t:St,(∀n∈(IOp.dcall d f x avs).rd,t.get n=s.get n)->x.ev t=x.ev s:=λt a=>A (x:=x) a (λn H=>by simp only[IOp.rd,Ay];exact .inl H)
   have j:∀t:St,(∀n∈(IOp.dcall d f x avs).rd,t.get n=s.get n)->(avs.map λx=>disown (x.ev t))=avs.map λx=>disown (x.ev s):=λt a=>AV λy M=>by rw[A (x:=y) a (λn H=>by simp only[IOp.rd,Ay,AC];exact .inr ⟨y,M,H⟩)]
   simp only[step] at h;split at h
   ·rename_i f' hJ r;split at h
    ·rename_i Y v hp' W;simp only[Ae,Al] at h;obtain⟨rfl,rfl⟩:=h;refine⟨d.toList.map (λd=>(d,v)),some hp',?_,b,?_,λt a g=>?_⟩;·intro p hp;simp only[AA] at hp;obtain⟨m,B,rfl⟩:=hp;simp[IOp.wr,IOp.dst,B]
     ·simp only[St.put,<-bE];cases d<;>rfl
     ·have e:=g (by omega);simp only[step,j t a,ex t a,r,e,W];simp only[St.put,<-bE];cases d<;>rfl
    ·simp at h
   ·simp at h
  |_=>simp[IOp.cls] at L
theorem th(s:St)(u:List (Nat×V)):(s.upd u).env.length=s.env.length:=by
 have:∀(u:List (Nat×V))(e:List V),(u.foldl (λe p=>e.set p.1 p.2) e).length=e.length:=by
  intro u;induction u with
  |nil=>intro e;rfl
  |cons p u a=>intro e;rw[CG,a,AB]
 exact this u s.env
theorem aeB(H:cd Γ imp){o:IOp}{s:St}{c:Bool}{s':St}(h:step Γ o s=some (c,s')):
  ∃(u:List (Nat×V))(q:Option (List ah)),(∀p∈u,p.1∈o.wr)∧(o.cls imp<=1->q=none)∧s'=s.put u q∧
   ∀t:St,(∀n∈o.rd,t.get n=s.get n)->(1<=o.cls imp->t.hp=s.hp∧t.env.length=s.env.length)->step Γ o t=some (c,t.put u q):=by
 by_cases w:∃d k x y,o=.apo d k x y
 ·obtain⟨d,k,x,y,rfl⟩:=w;have m:∀{t:St},(∀f∈(IOp.apo d k x y).rd,t.get f=s.get f)->x.ev t=x.ev s:=λa=>bb λn b=>a n (by simp[IOp.rd,b])
  have i:∀{t:St},(∀f∈(IOp.apo d k x y).rd,t.get f=s.get f)->y.ev t=y.ev s:=λa=>bb λn b=>a n (by simp[IOp.rd,b])
  simp only[step] at h;split at h
  ·rename_i v l M N z D B;split at h
   ·rename_i F;split at h
    ·rename_i g;split at h
     ·rename_i O;simp only[Ae,Al] at h;obtain⟨rfl,rfl⟩:=h;refine⟨(x.takes.map λn=>(n,disown (s.get n)))++[(d,.sw v s.hp.length (l++(g▸z)).length)],some (s.hp++[some [.rw v (l++(g▸z))],none]),?_,λC=>by simp[IOp.cls] at C,?_,λt a j=>?_⟩
      ·intro p hp;simp only[Ay,AA,Az] at hp;rcases hp with⟨n,b,rfl⟩|rfl;·simp[IOp.wr,IOp.dst,b]
       ·simp[IOp.wr,IOp.dst]
      ·rw[eV];simp[St.put,St.upd,St.set]
      ·obtain⟨e,L⟩:=j (by simp[IOp.cls]);have r:d<t.env.length:=by omega
       simp only[step,m a,i a,D,B,dif_pos g,if_pos F,if_pos r,e];have A:(x.takes.map λn=>(n,disown (t.get n)))=x.takes.map λn=>(n,disown (s.get n)):=AV λn b=>by rw[a n (by cases x<;>simp[aj.takes] at b<;>subst b<;>simp[IOp.rd,aj.slots])]
       rw[eV,A];simp[St.put,St.upd,St.set]
     ·cases h
    ·cases h
   ·cases h
  ·cases h
 ·obtain⟨u,q,J,E,G,I⟩:=adg H (λd k x y e=>w ⟨d,k,x,y,e⟩) h;exact⟨u,q,J,E,G,λt a j=>I t a (λe=>(j e).1)⟩
def bW(Γ:am)(x:GOp)(s:St):Option St:=
 match x.g with
 |none=>match eZ Γ x.ob x.o s with|some (c,s')=>chk c (some s')|none=>none
 |some (g,w)=>match s.get g with
  | .bool b=>match b==w with
    |true=>match eZ Γ x.ob x.o s with|some (c,s')=>chk c (some s')|none=>none
    |false=>some (s.setO x.o.dst (.tup []))
  | .tup []=>some (s.setO x.o.dst (.tup []))
  |_=>none
theorem aiL(s:St)(n:Nat){v:V}(h:s.get n=v):s.set n v=s:=by
 subst h;simp only[St.set,St.get,Aq]
 congr 1
 apply CS;intro m;rw[Aw];split
 ·rename_i e;subst e;split;·rename_i a;simp[Ac a]
  ·rename_i a;simp[AU (CV a)]
 ·rfl
theorem jF{R:Type}(x:GOp)(l:List GOp)(K:St->Option R)(s:St):bk Γ (x::l) K s=(bW Γ x s).bind (bk Γ l K):=by
 obtain⟨g,o,f⟩:=x;have h:∀s,(match eZ Γ f o s with|some (c,s')=>chk c (bk Γ l K s')|none=>none)=(match eZ Γ f o s with|some (c,s')=>chk c (some s')|none=>none).bind (bk Γ l K):=by
  intro s;split;·rename_i c s' _;cases c<;>rfl
  ·rfl
 cases g with
 |none=>simp only[bk,bW];exact h s
 |some g=>
  obtain⟨g,w⟩:=g;simp only[bk,bW];split;·rename_i b a;rw[a];cases b<;>cases w<;>simp only[cond_true,cond_false,aiL s g a]<;>first|exact h s|rfl
  ·rename_i a;rw[a];rfl
  ·rename_i e d;split;·rename_i b a;exact absurd a (e b)
   ·rename_i a;exact absurd a d
   ·rfl
theorem agY{o:IOp}{s t:St}(h:∀n∈o.rd,t.get n=s.get n):o.foot t=o.foot s:=by
 cases o with
 |ld d n agg b x=>simp only[IOp.foot];rw[bb (x:=x) h]
 |st d n x v=>simp only[IOp.foot];rw[bb (x:=x) λn a=>h n (by simp[IOp.rd,a])]
 |call d f avs=>
  have e:avs.map (λx=>disown (x.ev t))=avs.map (λx=>disown (x.ev s)):=AV λx c=>by rw[bb λn a=>h n (by simp only[IOp.rd,AC];exact⟨x,c,a⟩)]
  simp only[IOp.foot,e]
 |ldw d n agg x=>simp only[IOp.foot];rw[bb (x:=x) h]
 |stw d n x v=>simp only[IOp.foot];rw[bb (x:=x) λn a=>h n (by simp[IOp.rd,a])]
 |apx d k x y=>simp only[IOp.foot];rw[bb (x:=x) λn a=>h n (by simp[IOp.rd,a])]
 |_=>rfl
theorem lY{a:Option (List Nat×List Nat)}{o:IOp}{s t:St}{p q:Bool×St}(h:eZ Γ a o s=some p)(d:∀n∈o.rd,t.get n=s.get n)(b:step Γ o t=some q):eZ Γ a o t=some q:=by
 cases a with
 |none=>exact b
 |some l=>
  simp only[eZ] at h ⊢;have e:o.within l t=o.within l s:=by simp only[IOp.within,agY d]
  rw[e];cases c:o.within l s with
  |true=>exact b
  |false=>rw[c] at h;simp at h
def GOp.rd(x:GOp):List Nat:=(match x.g with|some (g,_)=>[g]|none=>[])++x.o.rd
theorem wO(F:cd Γ imp){x:GOp}{s s':St}(h:bW Γ x s=some s'):
  ∃(u:List (Nat×V))(q:Option (List ah)),(∀p∈u,p.1∈x.o.wr)∧(x.o.cls imp<=1->q=none)∧s'=s.put u q∧
   ∀t:St,(∀n∈x.rd,t.get n=s.get n)->(1<=x.o.cls imp->t.hp=s.hp∧t.env.length=s.env.length)->bW Γ x t=some (t.put u q):=by
 obtain⟨g,o,D⟩:=x
 have E:(match eZ Γ D o s with|some (c,s')=>chk c (some s')|none=>none)=some s'->∃(u:List (Nat×V))(q:Option (List ah)),(∀p∈u,p.1∈o.wr)∧(o.cls imp<=1->q=none)∧s'=s.put u q∧
   ∀t:St,(∀n∈o.rd,t.get n=s.get n)->(1<=o.cls imp->t.hp=s.hp∧t.env.length=s.env.length)->(match eZ Γ D o t with|some (c,s')=>chk c (some s')|none=>none)=some (t.put u q):=by
  intro h;split at h
  ·rename_i c r y;cases c with
   |false=>simp[chk] at h
   |true=>
    obtain rfl:r=s':=by simpa [chk] using h
    obtain⟨u,q,j,v,z,k⟩:=aeB F (iV y);exact⟨u,q,j,v,z,λt a i=>by rw[lY y a (k t a i)];rfl⟩
  ·simp at h
 cases g with
 |none=>obtain⟨u,q,j,v,z,k⟩:=E h;exact⟨u,q,j,v,z,λt a i=>k t (λn B=>a n (by simp[GOp.rd,B])) i⟩
 |some g=>
  obtain⟨g,w⟩:=g;simp only[bW] at h;split at h
  ·rename_i b A;split at h;·rename_i f;obtain⟨u,q,j,v,z,k⟩:=E h;refine⟨u,q,j,v,z,λt a i=>?_⟩;have e:=a g (by simp[GOp.rd]);simp only[bW,e,A,f];exact k t (λn B=>a n (by simp[GOp.rd,B])) i
   ·rename_i f;obtain rfl:_=s':=by simpa using h
    refine⟨o.dst.toList.map (λd=>(d,V.tup [])),none,?_,λ_=>rfl,by rw[bE];rfl,λt a i=>?_⟩;·intro p hp;simp only[AA] at hp;obtain⟨m,C,rfl⟩:=hp;simp[IOp.wr,C]
    ·have e:=a g (by simp[GOp.rd]);simp only[bW,e,A,f];rw[bE];rfl
  ·rename_i A;obtain rfl:_=s':=by simpa using h
   refine⟨o.dst.toList.map (λd=>(d,V.tup [])),none,?_,λ_=>rfl,by rw[bE];rfl,λt a i=>?_⟩;·intro p hp;simp only[AA] at hp;obtain⟨m,C,rfl⟩:=hp;simp[IOp.wr,C]
   ·have e:=a g (by simp[GOp.rd]);simp only[bW,e,A];rw[bE];rfl
  ·simp at h
def zL(a b:List Nat):Bool:=a.all λn=> !b.contains n
def IOp.obable(imp:List Nat):IOp->Bool
 | .ld .. | .st .. | .ldw .. | .stw .. | .apx ..=>true
 | .call _ f _=>imp.contains (f+2000000)
 |_=>false
def apart(imp:List Nat)(x y:GOp):Bool:=(x.o.obable imp&&y.o.obable imp)&&(match x.ob,y.ob with
 |some (r,w),some (a,w')=>zL w a&&(zL w w'&&zL w' r)
 |_,_=>false)
def agZ(x y:GOp):Bool:=match x.g,y.g,x.o,y.o with
 |none,none,.ld _ _ _ true _,.ld _ _ _ false _=>true
 |none,none,.ld _ _ _ false _,.ld _ _ _ true _=>true
 |_,_,_,_=>false
def uf(imp:List Nat)(x y:GOp):Bool:=
 zL x.o.wr y.rd&&(zL y.o.wr x.rd&&(zL x.o.wr y.o.wr&&(((BM (x.o.cls imp) 1||Av (y.o.cls imp) 0)&&(BM (y.o.cls imp) 1||Av (x.o.cls imp) 0))||(apart imp x y||agZ x y))))
def St.putH(s:St)(u:List (Nat×V))(q:List (Nat×ah)):St:={s.upd u with hp:=wN s.hp q}
theorem zM{s t:St}{i:Nat}(h:t.hp[i]? =s.hp[i]?):t.obj i=s.obj i:=by unfold St.obj;rw[sq h]
theorem wP{s t:St}{i:Nat}(h:t.hp[i]? =s.hp[i]?):t.rowW i=s.rowW i:=by unfold St.rowW;rw[sq h]
theorem ag0(O:cd Γ imp){o:IOp}(H:o.obable imp=true){s:St}{c:Bool}{s':St}{r w:List Nat}(z:o.foot s=some (r,w))(h:step Γ o s=some (c,s')):
  ∃(u:List (Nat×V))(q:List (Nat×ah)),(∀p∈u,p.1∈o.wr)∧(∀p∈q,p.1∈w)∧s'=s.putH u q∧
   ∀t:St,(∀n∈o.rd,t.get n=s.get n)->t.hp.length=s.hp.length->(∀i,i∈r∨i∈w->t.hp[i]? =s.hp[i]?)->step Γ o t=some (c,t.putH u q):=by
 cases o with
 |ld d n agg F x=>
  have B:∀t:St,(∀n∈(IOp.ld d n agg F x).rd,t.get n=s.get n)->x.ev t=x.ev s:=λt a=>bb a
  cases g:x.ev s with
  |ea cs=>
   simp only[step,g] at h;split at h;·rename_i j;simp only[Ae,Al] at h;obtain⟨rfl,rfl⟩:=h;refine⟨[(d,disown (cG agg (cs.take n)))],[],by simp[IOp.wr,IOp.dst],by simp,rfl,λt a _ _=>?_⟩;simp only[step,B t a,g,if_pos j];rfl
   ·simp at h
  |ptr id o=>
   simp only[IOp.foot,g,Ae] at z;simp only[step,g] at h;cases b:s.obj id with
   |none=>rw[b] at h;simp at h
   |some cs=>
    rw[b] at h;simp only at h;split at h
    ·rename_i j;cases F with
     |false=>simp only[cond_false,Al] at z;obtain⟨rfl,rfl⟩:=z;simp only[CJ,if_false,Ae,Al] at h;obtain⟨rfl,rfl⟩:=h;refine⟨[(d,disown (cG agg ((cs.drop o).take n)))],[],by simp[IOp.wr,IOp.dst],by simp,rfl,λt a _ A=>?_⟩;have e:=zM (A id (.inl (by simp)));simp only[step,B t a,g,e,b,if_pos j];rfl
     |true=>
      simp only[cond_true,Al] at z;obtain⟨rfl,rfl⟩:=z;simp only[if_true] at h;split at h;·rename_i P;simp only[Ae,Al] at h;obtain⟨rfl,rfl⟩:=h;refine⟨[(d,cG agg ((cs.drop o).take n))],[(id,some (cs.set o (disown (cs.getD o .undef))))],by simp[IOp.wr,IOp.dst],by simp,rfl,λt a _ A=>?_⟩;have e:=zM (A id (.inr (by simp)));simp only[step,B t a,g,e,b,if_pos j,if_true,if_pos P];rfl
      ·simp at h
    ·simp at h
  |_=>simp[IOp.foot,g] at z
 |st d n x v=>
  have B:∀t:St,(∀n∈(IOp.st d n x v).rd,t.get n=s.get n)->x.ev t=x.ev s:=λt a=>bb λn j=>a n (by simp[IOp.rd,j])
  have ev:∀t:St,(∀n∈(IOp.st d n x v).rd,t.get n=s.get n)->v.ev t=v.ev s:=λt a=>bb λn j=>a n (by simp[IOp.rd,j])
  have ea:∀t:St,(∀n∈(IOp.st d n x v).rd,t.get n=s.get n)->v.takes.map (λn=>(n,disown (t.get n)))=v.takes.map (λn=>(n,disown (s.get n))):=by
   intro t a;cases v with
   |tk m=>simp only[aj.takes,List.map];rw[a m (by simp[IOp.rd,aj.slots])]
   |_=>rfl
  cases g:x.ev s with
  |ptr id o=>
   simp only[IOp.foot,g,Ae,Al] at z;obtain⟨rfl,rfl⟩:=z;simp only[step,g] at h;cases b:s.obj id with
   |none=>rw[b] at h;simp at h
   |some cs=>
    rw[b] at h;simp only at h;split at h
    ·rename_i j;simp only[Ae,Al] at h;obtain⟨rfl,rfl⟩:=h;refine⟨v.takes.map (λn=>(n,disown (s.get n)))++d.toList.map (λd=>(d,V.undef)),[(id,some (cs.take o++(v.ev s).cells++cs.drop (o+n)))],?_,by simp,?_,λt a _ A=>?_⟩
     ·intro p hp;simp only[Ay,AA] at hp;rcases hp with⟨m,E,rfl⟩|⟨m,E,rfl⟩
      ·simp[IOp.wr,IOp.dst,E]
      ·simp only[Ds] at E;simp[IOp.wr,IOp.dst,E]
     ·rw[eV,bE];simp only[St.putH,<-iT];rfl
     ·have e:=zM (A id (.inr (by simp)));simp only[step,B t a,ev t a,g,e,b,if_pos j];rw[eV,bE,ea t a];simp only[St.putH,<-iT];rfl
    ·simp at h
  |_=>simp[IOp.foot,g] at z
 |call d f avs=>
  have e:∀t:St,(∀n∈(IOp.call d f avs).rd,t.get n=s.get n)->avs.map (λx=>disown (x.ev t))=avs.map (λx=>disown (x.ev s)):=λt a=>AV λx g=>by rw[bb λn j=>a n (by simp only[IOp.rd,AC];exact⟨x,g,j⟩)]
  simp only[IOp.foot,Ae,Al] at z;obtain⟨rfl,rfl⟩:=z;simp only[step] at h;split at h
  ·rename_i c' S hp' W;simp only[Ae,Al] at h;obtain⟨rfl,rfl⟩:=h;obtain⟨q,L,rfl,J⟩:=O.loc f _ _ _ _ _ H W;refine⟨d.toList.map (λd=>(d,S)),q,?_,L,?_,λt a Z A=>?_⟩;·intro p hp;simp only[AA,Ds] at hp;obtain⟨m,E,rfl⟩:=hp;simp[IOp.wr,IOp.dst,E]
   ·rw[bE];rfl
   ·have:=J t.hp Z (λi N=>A i (.inl N));simp only[step,e t a,this];rw[bE];rfl
  ·simp at h
 |ldw d n agg x=>
  have B:∀t:St,(∀n∈(IOp.ldw d n agg x).rd,t.get n=s.get n)->x.ev t=x.ev s:=λt a=>bb a
  cases g:x.ev s with
  |wp id k i o=>
   simp only[IOp.foot,g,Ae,Al] at z;obtain⟨rfl,rfl⟩:=z;simp only[step,g] at h;cases b:s.rowW id with
   |none=>rw[b] at h;simp at h
   |some p=>
    obtain⟨k',xs⟩:=p;rw[b] at h;simp only at h;split at h;·rename_i j;simp only[Ae,Al] at h;obtain⟨rfl,rfl⟩:=h;refine⟨[(d,disown (cG agg (((enc k' (xs.getD i (ao k'))).drop o).take n)))],[],by simp[IOp.wr,IOp.dst],by simp,rfl,λt a _ A=>?_⟩;have e:=wP (A id (.inl (by simp)));simp only[step,B t a,g,e,b,if_pos j];rfl
    ·simp at h
  |_=>simp[IOp.foot,g] at z
 |stw d n x v=>
  have B:∀t:St,(∀n∈(IOp.stw d n x v).rd,t.get n=s.get n)->x.ev t=x.ev s:=λt a=>bb λn j=>a n (by simp[IOp.rd,j])
  have ev:∀t:St,(∀n∈(IOp.stw d n x v).rd,t.get n=s.get n)->v.ev t=v.ev s:=λt a=>bb λn j=>a n (by simp[IOp.rd,j])
  cases g:x.ev s with
  |wp id k i o=>
   simp only[IOp.foot,g,Ae,Al] at z;obtain⟨rfl,rfl⟩:=z;simp only[step,g] at h;cases b:s.rowW id with
   |none=>rw[b] at h;simp at h
   |some p=>
    obtain⟨k',xs⟩:=p;rw[b] at h;simp only at h;split at h
    ·rename_i j;cases G:pU k' (xs.getD i (ao k')) o (v.ev s).cells with
     |none=>rw[G] at h;simp at h
     |some M=>
      rw[G] at h;simp only[Ae,Al] at h;obtain⟨rfl,rfl⟩:=h;refine⟨d.toList.map (λd=>(d,V.undef)),[(id,some [.rw k' (xs.set i M)])],?_,by simp,?_,λt a _ A=>?_⟩;·intro p hp;simp only[AA,Ds] at hp;obtain⟨m,E,rfl⟩:=hp;simp[IOp.wr,IOp.dst,E]
      ·rw[bE];rfl
      ·have e:=wP (A id (.inr (by simp)));simp only[step,B t a,ev t a,g,e,b,if_pos j,G];rw[bE];rfl
    ·simp at h
  |_=>simp[IOp.foot,g] at z
 |apx d k x y=>
  have B:∀t:St,(∀n∈(IOp.apx d k x y).rd,t.get n=s.get n)->x.ev t=x.ev s:=λt a=>bb λn j=>a n (by simp[IOp.rd,j])
  have Q:∀t:St,(∀n∈(IOp.apx d k x y).rd,t.get n=s.get n)->y.ev t=y.ev s:=λt a=>bb λn j=>a n (by simp[IOp.rd,j])
  cases g:x.ev s with
  |sw k1 id n=>
   simp only[IOp.foot,g,Ae,Al] at z;obtain⟨rfl,rfl⟩:=z;simp only[step,Ak] at h;obtain⟨⟨c2,Y,D,R⟩,C,h⟩:=h;simp only[Al] at h;obtain⟨rfl,rfl⟩:=h;have hid:D=id:=by
    rw[g] at C;unfold abm at C;split at C
    ·rename_i X e2;cases X;split at C
     ·split at C;·simp only[Ae,Al] at C;exact C.2.2.1.symm
      ·simp at C
     ·simp at C
    ·simp at C
   subst hid;refine⟨[(d,Y)],[(D,some [R])],by simp[IOp.wr,IOp.dst],by simp,rfl,λt a _ A=>?_⟩;have e:abm t.hp k (x.ev t) (y.ev t)=abm s.hp k (x.ev s) (y.ev s):=by rw[B t a,Q t a,g];unfold abm;have I:St.rowW ⟨[],t.hp⟩ D=St.rowW ⟨[],s.hp⟩ D:=wP (s:=⟨[],s.hp⟩) (t:=⟨[],t.hp⟩) (A D (.inr (by simp)));cases y.ev s<;>first|rfl|simp only[I]
   simp only[step,e,C,A9];rfl
  |_=>simp[IOp.foot,g] at z
 |_=>simp[IOp.obable] at H
theorem aeC{o:IOp}{R W:List Nat}{s:St}(h:o.within (R,W) s=true):∃r w,o.foot s=some (r,w)∧(∀i∈r,i∈R∨i∈W)∧∀i∈w,i∈W:=by
 unfold IOp.within at h;split at h
 ·rename_i r w c;simp only[Ab,Ai,Be,B8] at h;refine⟨r,w,c,?_,?_⟩
  ·intro i b;rcases h.1 i b with⟨j,a,e⟩|⟨j,a,e⟩
   ·left;rw[As e];exact a
   ·right;rw[As e];exact a
  ·intro i b;obtain⟨j,a,e⟩:=h.2 i b;rw[As e];exact a
 ·simp at h
theorem aau(Q:cd Γ imp){x:GOp}{R W:List Nat}(O:x.o.obable imp=true)(J:x.ob=some (R,W)){s s':St}(h:bW Γ x s=some s'):
  ∃(u:List (Nat×V))(q:List (Nat×ah)),(∀p∈u,p.1∈x.o.wr)∧(∀p∈q,p.1∈W)∧s'=s.putH u q∧
   ∀t:St,(∀n∈x.rd,t.get n=s.get n)->t.hp.length=s.hp.length->(∀i,i∈R∨i∈W->t.hp[i]? =s.hp[i]?)->bW Γ x t=some (t.putH u q):=by
 obtain⟨g,o,X⟩:=x;obtain rfl:X=some (R,W):=J
 have M:(match eZ Γ (some (R,W)) o s with|some (c,s')=>chk c (some s')|none=>none)=some s'->∃(u:List (Nat×V))(q:List (Nat×ah)),(∀p∈u,p.1∈o.wr)∧(∀p∈q,p.1∈W)∧s'=s.putH u q∧
   ∀t:St,(∀n∈o.rd,t.get n=s.get n)->t.hp.length=s.hp.length->(∀i,i∈R∨i∈W->t.hp[i]? =s.hp[i]?)->(match eZ Γ (some (R,W)) o t with|some (c,s')=>chk c (some s')|none=>none)=some (t.putH u q):=by
  intro h;split at h
  ·rename_i c A k;cases c with
   |false=>simp[chk] at h
   |true=>
    obtain rfl:A=s':=by simpa [chk] using h
    have I:o.within (R,W) s=true:=by
     cases I:o.within (R,W) s with
     |true=>rfl
     |false=>simp[eZ,I] at k
    obtain⟨r,w,N,S,E⟩:=aeC I;obtain⟨u,q,F,B,C,D⟩:=ag0 Q O N (iV k);exact⟨u,q,F,λp hp=>E _ (B p hp),C,λt a G y=>by rw[lY k a (D t a G (λi z=>z.elim (λz=>y i (S i z)) (λz=>y i (.inr (E i z)))))];rfl⟩
  ·simp at h
 have f:∀s:St,s.setO o.dst (.tup [])=s.putH (o.dst.toList.map λd=>(d,V.tup [])) []:=λs=>by rw[bE];rfl
 have j:∀p∈o.dst.toList.map λd=>(d,V.tup []),p.1∈o.wr:=by intro p hp;simp only[AA] at hp;obtain⟨m,P,rfl⟩:=hp;simp[IOp.wr,P]
 cases g with
 |none=>obtain⟨u,q,F,B,C,D⟩:=M h;exact⟨u,q,F,B,C,λt a=>D t (λn L=>a n (by simp[GOp.rd,L]))⟩
 |some g=>
  obtain⟨g,w⟩:=g;simp only[bW] at h;split at h
  ·rename_i b H;split at h;·rename_i v;obtain⟨u,q,F,B,C,D⟩:=M h;refine⟨u,q,F,B,C,λt a G y=>?_⟩;have e:=a g (by simp[GOp.rd]);simp only[bW,e,H,v];exact D t (λn L=>a n (by simp[GOp.rd,L])) G y
   ·rename_i v;obtain rfl:_=s':=by simpa using h
    refine⟨_,[],j,by simp,f s,λt a G y=>?_⟩;have e:=a g (by simp[GOp.rd]);simp only[bW,e,H,v];rw[f]
  ·rename_i H;obtain rfl:_=s':=by simpa using h
   refine⟨_,[],j,by simp,f s,λt a G y=>?_⟩;have e:=a g (by simp[GOp.rd]);simp only[bW,e,H];rw[f]
  ·simp at h
theorem nA{a b:List Nat}(h:zL a b=true):∀n∈a,n ∉ b:=by intro n c;have:=Ai.1 h n c;simpa using this
theorem abr{α:Type}(u:List (Nat×α)):∀(e:List α)(n:Nat)(v:α),(∀p∈u,p.1≠n)->u.foldl (λe p=>e.set p.1 p.2) (e.set n v)=(u.foldl (λe p=>e.set p.1 p.2) e).set n v:=by
 induction u with
 |nil=>intro e n v _;rfl
 |cons p u b=>intro e n v h;simp only[CG];rw[Dl _ _ (Ne.symm (h p (AN ..))),b _ _ _ (λq a=>h q (AS _ a))]
theorem nj{α:Type}(v:List (Nat×α)):∀(u:List (Nat×α))(e:List α),(∀p∈u,∀q∈v,p.1≠q.1)->
  v.foldl (λe p=>e.set p.1 p.2) (u.foldl (λe p=>e.set p.1 p.2) e)=u.foldl (λe p=>e.set p.1 p.2) (v.foldl (λe p=>e.set p.1 p.2) e):=by
 induction v with
 |nil=>intro u e _;rfl
 |cons q v b=>intro u e h;simp only[CG];rw[<-abr u e q.1 q.2 (λp hp=>h p hp q (AN ..)),b u _ (λp hp r a=>h p hp r (AS _ a))]
theorem aiM{s:St}{id:Nat}{cs:List V}(h:s.obj id=some cs)(i:Nat):(s.setObj id (cs.set i (disown (cs.getD i .undef)))).obj id=some (cs.set i (disown (cs.getD i .undef))):=by
 have a:id<s.hp.length:=by
  rcases AE id s.hp.length with a|a;·exact a
  ·unfold St.obj at h;rw[Ah,AU a] at h;simp at h
 have p:s.hp.getD id none=some cs∧(∀xs,cs≠[.rb xs])∧(∀k xs,cs≠[.rw k xs])∧(∀k xs,cs≠[.mp k xs])∧(∀xs,cs≠[.tup xs]):=by
  unfold St.obj at h;split at h;·simp at h
  ·simp at h
  ·simp at h
  ·simp at h
  ·rename_i q t v u;refine⟨h,λxs e=>?_,λk xs e=>?_,λk xs e=>?_,λxs e=>?_⟩;·subst e;exact q _ h
   ·subst e;exact t _ _ h
   ·subst e;exact v _ _ h
   ·subst e;exact u _ h
 obtain⟨w,b,d,f,g⟩:=p;have m:(s.setObj id (cs.set i (disown (cs.getD i .undef)))).hp.getD id none=some (cs.set i (disown (cs.getD i .undef))):=by simp[St.setObj,Ah,a]
 unfold St.obj;rw[m];match cs,i with
 | [],i=>rfl
 | [c],0=>
   simp only[Cb,CI];cases c with
   |rb xs=>exact absurd rfl (b xs)
   |rw k xs=>exact absurd rfl (d k xs)
   |mp k xs=>exact absurd rfl (f k xs)
   |tup xs=>exact absurd rfl (g xs)
   |sl k o xs=>cases o<;>rfl
   |_=>rfl
 | [c],i+1=>
   simp only[Cg,List.set_nil];cases c with
   |rb xs=>exact absurd rfl (b xs)
   |rw k xs=>exact absurd rfl (d k xs)
   |mp k xs=>exact absurd rfl (f k xs)
   |tup xs=>exact absurd rfl (g xs)
   |_=>rfl
 |c::j::r,0=>simp only[CI];split<;>first|rfl|(rename_i e;simp at e)
 |c::j::r,1=>simp only[Cg,CI]
 |c::j::r,i+2=>simp only[Cg]
theorem abt(cs:List V)(i:Nat):(cs.set i (disown (cs.getD i .undef))).map disown=cs.map disown:=by
 rw[List.map_set,acx];apply CS;intro m;rw[Aw];by_cases h:i=m
 ·subst h;simp only[if_true,Bm];split;·rename_i a;simp[Ah,Ac a]
  ·rename_i a;simp[AU (CV a)]
 ·simp[h]
theorem vi(agg:Bool)(cs:List V):disown (cG agg cs)=if agg then .agg (cs.map disown) else (cs.map disown).headD .undef:=by
 cases agg with
 |true=>rfl
 |false=>cases cs<;>rfl
theorem afU(agg:Bool)(cs:List V)(i o n:Nat):disown (cG agg (((cs.set i (disown (cs.getD i .undef))).drop o).take n))=disown (cG agg ((cs.drop o).take n)):=by rw[vi,vi,Do,Dp,abt,Do,Dp]
def rdV(p:V)(s:St)(n:Nat)(a:Bool):Option V:=match p with
 | .ea cs=>if n<=cs.length then some (disown (cG a (cs.take n))) else none
 | .ptr id o=>match s.obj id with
   |some cs=>if o+n<=cs.length then some (disown (cG a ((cs.drop o).take n))) else none
   |none=>none
 |_=>none
theorem aav(d n:Nat)(a:Bool)(x:aj)(s:St):step Γ (.ld d n a false x) s=(rdV (x.ev s) s n a).map λv=>(true,s.set d v):=by
 cases b:x.ev s with
 |ea cs=>simp only[step,rdV,b];split<;>rfl
 |ptr id o=>
  simp only[step,rdV,b];cases s.obj id with
  |none=>rfl
  |some cs=>simp only[CJ,if_false];split<;>rfl
 |_=>simp only[step,rdV,b];rfl
def tkV(p:V)(s:St)(n:Nat)(a:Bool):Option (V×Option (Nat×List V)):=match p with
 | .ea cs=>if n<=cs.length then some (disown (cG a (cs.take n)),none) else none
 | .ptr id o=>match s.obj id with
   |some cs=>if o+n<=cs.length then (if qt (cs.getD o .undef) then some (cG a ((cs.drop o).take n),some (id,cs.set o (disown (cs.getD o .undef)))) else none) else none
   |none=>none
 |_=>none
def St.turn(s:St):Option (Nat×List V)->St
 |none=>s
 |some (id,cs)=>s.setObj id cs
theorem aaw(d n:Nat)(a:Bool)(x:aj)(s:St):step Γ (.ld d n a true x) s=(tkV (x.ev s) s n a).map λq=>(true,(s.turn q.2).set d q.1):=by
 cases b:x.ev s with
 |ea cs=>simp only[step,tkV,b];split<;>rfl
 |ptr id o=>
  simp only[step,tkV,b];cases s.obj id with
  |none=>rfl
  |some cs=>
   simp only[if_true];split;·split<;>rfl
   ·rfl
 |_=>simp only[step,tkV,b];rfl
theorem ag1{s:St}{id a:Nat}{cs:List V}(h:id≠a):(s.setObj id cs).obj a=s.obj a:=by unfold St.obj St.setObj;simp[Ah,Aw,h]
theorem adh{p f:V}{s:St}{n i:Nat}{a g:Bool}{q:V×Option (Nat×List V)}(h:tkV p s n a=some q)(d:Nat)(v:V):rdV f ((s.turn q.2).set d v) i g=rdV f s i g:=by
 unfold tkV at h;split at h
 ·split at h;·cases h;rfl
  ·cases h
 ·rename_i id o;split at h
  ·rename_i cs c;split at h
   ·split at h
    ·cases h;have e:∀b,((s.turn (some (id,cs.set o (disown (cs.getD o .undef))))).set d v).obj b=(s.setObj id (cs.set o (disown (cs.getD o .undef)))).obj b:=λ_=>rfl
     cases f with
     |ptr b j=>
      simp only[rdV,e];by_cases hid:id=b;·subst hid;rw[aiM c,c];simp only[AB,afU]
      ·rw[ag1 hid]
     |_=>rfl
    ·cases h
   ·cases h
  ·cases h
 ·cases h
theorem afj(p:V)(s:St)(n:Nat)(a:Bool)(d:Nat)(v:V):tkV p (s.set d v) n a=tkV p s n a:=rfl
theorem adi(s:St)(q:Option (Nat×List V))(d:Nat)(v:V):(s.set d v).turn q=(s.turn q).set d v:=by cases q<;>rfl
theorem adj(s:St){d a:Nat}(v b:V)(h:d≠a):(s.set d v).set a b=(s.set a b).set d v:=by simp only[St.set];rw[Dl _ _ h]
theorem adk(s:St)(q:Option (Nat×List V))(n:Nat):(s.turn q).get n=s.get n:=by cases q<;>rfl
theorem afV{o:IOp}{a:Option (List Nat×List Nat)}{s s':St}:bW Γ ⟨none,o,a⟩ s=some s'↔eZ Γ a o s=some (true,s'):=by
 simp only[bW];cases eZ Γ a o s with
 |none=>simp
 |some p=>obtain⟨c,t⟩:=p;cases c<;>simp[chk]
theorem rc(s:St){d n:Nat}(v:V)(h:d≠n):(s.set d v).get n=s.get n:=by simp[St.get,St.set,Aq,Aw,h]
theorem aix{C B:Option (List Nat×List Nat)}{d n f p:Nat}{a k:Bool}{x g:aj}(F:d≠f)(j:∀m∈x.slots,m≠f)(v:∀m∈g.slots,m≠d){s z A:St}:
  (bW Γ ⟨none,.ld d n a true x,B⟩ s=some z->bW Γ ⟨none,.ld f p k false g,C⟩ z=some A->∃c,bW Γ ⟨none,.ld f p k false g,C⟩ s=some c∧bW Γ ⟨none,.ld d n a true x,B⟩ c=some A)∧
  (bW Γ ⟨none,.ld f p k false g,C⟩ s=some z->bW Γ ⟨none,.ld d n a true x,B⟩ z=some A->∃c,bW Γ ⟨none,.ld d n a true x,B⟩ s=some c∧bW Γ ⟨none,.ld f p k false g,C⟩ c=some A):=by
 simp only[afV];have E:(IOp.ld d n a true x).rd=x.slots:=rfl;have G:(IOp.ld f p k false g).rd=g.slots:=rfl;constructor
 ·intro w o;have i:=iV w;have u:=iV o;rw[aaw,Ak] at i;obtain⟨q,y,e⟩:=i;simp only[Al,true_and] at e;subst e;have t:∀m∈g.slots,((s.turn q.2).set d q.1).get m=s.get m:=λm b=>by rw[rc _ _ (Ne.symm (v m b)),adk]
  rw[aav,bb t,adh y,Ak] at u;obtain⟨D,h,e⟩:=u;simp only[Al,true_and] at e;subst e;refine⟨s.set f D,lY o (by rw[G];exactλm b=>(t m b).symm) (by rw[aav,h];rfl),?_⟩;have r:∀m∈x.slots,(s.set f D).get m=s.get m:=λm b=>rc _ _ (Ne.symm (j m b))
  refine lY w (by rw[E];exact r) ?_;rw[aaw,bb r,afj,y];simp only[A9,adi];rw[adj _ _ _ F]
 ·intro w o;have i:=iV w;have u:=iV o;rw[aav,Ak] at i;obtain⟨D,h,e⟩:=i;simp only[Al,true_and] at e;subst e;have r:∀m∈x.slots,(s.set f D).get m=s.get m:=λm b=>rc _ _ (Ne.symm (j m b))
  rw[aaw,bb r,afj,Ak] at u;obtain⟨q,y,e⟩:=u;simp only[Al,true_and] at e;subst e;have t:∀m∈g.slots,((s.turn q.2).set d q.1).get m=s.get m:=λm b=>by rw[rc _ _ (Ne.symm (v m b)),adk]
  refine⟨(s.turn q.2).set d q.1,lY o (by rw[E];exactλm b=>(r m b).symm) (by rw[aaw,y];rfl),?_⟩;refine lY w (by rw[G];exact t) ?_;rw[aav,bb t,adh y,h];simp only[A9,adi];rw[adj _ _ _ F]
theorem ajL(R:cd Γ imp){x y:GOp}(b:uf imp y x=true){s s1 s2:St}(S:bW Γ y s=some s1)(P:bW Γ x s1=some s2):
  ∃J,bW Γ x s=some J∧bW Γ y J=some s2:=by
 simp only[uf,Ab,Be,Nat.ble_eq] at b;obtain⟨E,A,D,b⟩:=b;have E:=nA E;have A:=nA A;have D:=nA D;rcases b with⟨g,B⟩|w|hL
 case inr.inr=>
  obtain⟨O,ox,bx⟩:=x;obtain⟨Q,oy,bY⟩:=y;unfold agZ at hL;split at hL
  ·rename_i e n a xa f n2 r W j v G I;simp only at j v G I;subst j v G I;have m1:∀m∈W.slots,m≠e:=λm u h=>E e (by simp[IOp.wr,IOp.dst]) (by subst h;simpa [GOp.rd,IOp.rd] using u)
   have Y:∀m∈xa.slots,m≠f:=λm u h=>A f (by simp[IOp.wr,IOp.dst]) (by subst h;simpa [GOp.rd,IOp.rd] using u)
   have m3:e≠f:=λh=>D e (by simp[IOp.wr,IOp.dst]) (by subst h;simp[IOp.wr,IOp.dst])
   exact(aix m3 Y m1).1 S P
  ·rename_i f n2 r W e n a xa j v G I;simp only at j v G I;subst j v G I;have m1:∀m∈W.slots,m≠e:=λm u h=>A e (by simp[IOp.wr,IOp.dst]) (by subst h;simpa [GOp.rd,IOp.rd] using u)
   have Y:∀m∈xa.slots,m≠f:=λm u h=>E f (by simp[IOp.wr,IOp.dst]) (by subst h;simpa [GOp.rd,IOp.rd] using u)
   have m3:e≠f:=λh=>D f (by simp[IOp.wr,IOp.dst]) (by subst h;simp[IOp.wr,IOp.dst])
   exact(aix m3 Y m1).2 S P
  ·cases hL
 case inr.inl=>
  simp only[apart,Ab] at w;obtain⟨⟨oy,ox⟩,w⟩:=w;split at w
  ·rename_i Ry Wy Rx Wx bl X;simp only[Ab] at w;obtain⟨a1,r,a3⟩:=w;have a1:=nA a1;have r:=nA r;have a3:=nA a3;obtain⟨k,H,L,C,rfl,ly⟩:=aau R oy bl S;obtain⟨d,z,M,F,rfl,lx⟩:=aau R ox X P;have Q:∀t:St,∀n∈x.rd,(t.putH k H).get n=t.get n:=λt n c=>yA (s:=t) (l:=k) (λp hp e=>E p.1 (L p hp) (e▸c))
   have O:∀t:St,∀n∈y.rd,(t.putH d z).get n=t.get n:=λt n c=>yA (s:=t) (l:=d) (λp hp e=>A p.1 (M p hp) (e▸c))
   have hx:=lx s (λn c=>(Q s n c).symm) (zd H s.hp).symm (λi b=>(adf (λp hp e=>by
    subst e;rcases b with b|b;·exact a1 _ (C p hp) b
    ·exact r _ (C p hp) b)).symm)
   have Z:=ly (s.putH d z) (λn c=>O s n c) (zd z s.hp) (λi b=>adf (λp hp e=>by
    subst e;rcases b with b|b;·exact a3 _ (F p hp) b
    ·exact r _ b (F p hp)))
   refine⟨_,hx,Z.trans ?_⟩
   congr 1
   have j:=nj k d s.env (λp hp q N e=>D q.1 (L q N) (e▸M p hp));have v:=nj H z s.hp (λp hp q N e=>r q.1 (C q N) (e▸F p hp));simp only[St.putH,St.upd,St.mk.injEq];exact⟨j,v⟩
  ·simp at w
 have g:y.o.cls imp<=1∨x.o.cls imp=0:=g.imp id As;have B:x.o.cls imp<=1∨y.o.cls imp=0:=B.imp id As;obtain⟨k,H,L,C,rfl,ly⟩:=wO R S;obtain⟨d,z,M,F,rfl,lx⟩:=wO R P;have Q:∀t:St,∀n∈x.rd,(t.put k H).get n=t.get n:=λt n c=>yA (s:=t) (l:=k) (λp hp e=>E p.1 (L p hp) (e▸c))
 have O:∀t:St,∀n∈y.rd,(t.put d z).get n=t.get n:=λt n c=>yA (s:=t) (l:=d) (λp hp e=>A p.1 (M p hp) (e▸c))
 have hx:=lx s (λn c=>(Q s n c).symm) (λhc=>by
  rcases g with g|g;·exact⟨by rw[C g];rfl,(th s k).symm⟩
  ·omega)
 have Z:=ly (s.put d z) (λn c=>O s n c) (λhc=>by
  rcases B with B|B;·exact⟨by rw[F B];rfl,th s d⟩
  ·omega)
 refine⟨_,hx,Z.trans ?_⟩
 congr 1
 have j:=nj k d s.env (λp hp q N e=>D q.1 (L q N) (e▸M p hp));simp only[St.put,St.upd,St.mk.injEq];refine⟨j,?_⟩;rcases g with g|g;·rw[C g];rfl
 ·rw[F (by omega)];rfl
theorem afW(b:cd Γ imp){R:Type}{K:St->Option R}{r:R}{x:GOp}{B:List GOp}:∀(A:List GOp)(s:St),(∀y∈A,uf imp y x=true)->
  bk Γ (A++x::B) K s=some r->∃s',bW Γ x s=some s'∧bk Γ (A++B) K s'=some r
 | [],s,_,h=>by rw[Cf,jF] at h;exact BC.1 h
 |y::A,s,c,h=>by rw[Bo,jF] at h;obtain⟨f,e,j⟩:=BC.1 h;obtain⟨o,k,g⟩:=afW b A f (λy d=>c y (AS _ d)) j;obtain⟨a,i,m⟩:=ajL b (c y (AN ..)) e k;refine⟨a,i,?_⟩;rw[Bo,jF,m];exact g
end
def ug(G:Nat->List V->Option (Bool×V)):am:=λf vs hp=>match G f vs with|some x=>some (x.1,x.2,hp)|none=>none
theorem afX(G:Nat->List V->Option (Bool×V))(imp:List Nat):cd (ug G) imp:=by
 refine⟨?_,?_⟩;·intro f avs hp _;unfold ug;cases G f avs<;>rfl
 ·intro f vs hp c v hp' _ h;unfold ug at h ⊢;cases a:G f vs with
  |none=>rw[a] at h;simp at h
  |some x=>rw[a] at h;simp only[Ae,Al] at h;obtain⟨rfl,rfl,rfl⟩:=h;exact⟨[],by simp,rfl,λb _ _=>rfl⟩
theorem ag2{G:Nat->List V->Option (Bool×V)}{f:Nat}{vs:List V}{hp hp':List ah}{c:Bool}{v:V}(h:ug G f vs hp=some (c,v,hp')):G f vs=some (c,v)∧hp'=hp:=by
 unfold ug at h;cases a:G f vs with
 |none=>rw[a] at h;simp at h
 |some x=>rw[a] at h;simp only[Ae,Al] at h;obtain⟨rfl,rfl,rfl⟩:=h;exact⟨rfl,rfl⟩
def afk(P:Program)(o:IOp)(m:Oper):Bool:=
 match o with
 |_=>false
section
variable{w w':World}{g g':Gh}{s s':St}{a:Act}{P:Program}{Γ:am}{m:Oper}{next:Act->World->Prop}{Q:Exit->Act->World->Prop}
end
section
open Go.MapKept
def jA(P:Program)(t:TypeId)(k:MK):Bool:=match k,P.underlying t with
 | .pb,some (.array 2 e)=>(dM P e==some 1)&&abo P e .i64
 | .bs,some (.int .u8)=>true
 | .bn,some (.int .u8)=>true
 | .ib,some (.int .i64)=>true
 | .sn,some .string=>true
 | .sb,some .string=>true
 |_,_=>false
def aiy(P:Program)(e:TypeId)(k:MK):Bool:=match P.info? e with|some i=>(match i.zero with|some z=>nZ (k.val k.zero) z|none=>false)|none=>false
def uh(P:Program)(t:TypeId)(k:MK):Bool:=match P.underlying t with|some (.map b e)=>jA P b k&&aiy P e k|_=>false
def pY(P:Program)(o:IOp)(m:Oper):Bool:=
 match o with
 | .mkm d k=>(m.dst==some d)&&(match m.op with| .makeMap t none=>uh P t k|_=>false)
 | .mget d k h x y=>(m.dst==some d)&&(match m.op with| .lookup t c b e=>uh P t k&&((h==e)&&(ay x c&&ay y b))|_=>false)
 | .mput d k x y z=>(m.dst==d)&&(match m.op with
   | .mapUpdate t c b f=>uh P t k&&(ay x c&&(ay y b&&ay z f))
   | .insert t c b f=>uh P t k&&(ay x c&&(ay y b&&ay z f))
   |_=>false)
 |_=>false
section
variable{w w':World}{g g':Gh}{s s':St}{a:Act}{P:Program}{Γ:am}{m:Oper}{next:Act->World->Prop}{Q:Exit->Act->World->Prop}
theorem ze{t:TypeId}{k:MK}(h:uh P t k=true):∃c e,P.underlying t=some (.map c e)∧jA P c k=true∧(∀w:World,(zeroValue e).run P w=.ok (k.valV k.zero) w):=by
 unfold uh at h;split at h
 ·rename_i c e f;simp only[Ab] at h;refine⟨c,e,f,h.1,?_⟩;have b:=h.2;unfold aiy at b;split at b
  ·rename_i i d;split at b
   ·rename_i z j;intro w;have o:z=k.valV k.zero:=by
     cases k<;>cases z<;>simp[nZ,MK.val,MK.zero] at b<;>simp[MK.valV,MK.zero];·exact b
     ·rename_i s;obtain⟨⟨l⟩⟩:=s;simp at b;rw[b.1]
     ·exact⟨b.1.symm,b.2.1.symm⟩
     ·exact b
     ·exact⟨b.1.symm,b.2.1.symm⟩
     ·exact b
    simp[zeroValue,typeInfo,d,j,o]
   ·simp at b
  ·simp at b
 ·simp at h
theorem ahL{I:Nat->Nat->Prop}{ρ:Nat->Nat}{N:Nat}(k:MK)(x:k.T)(h:k.okT x):VRel I ρ N w (k.val x) (k.valV x):=by
 cases k;·exact .bool _
 ·exact .str _ _ rfl (by have h:Aa x<=cR:=h;simpa [ByteArray.size] using h)
 ·exact .int _ _ h
 ·exact .bool _
 ·exact .int _ _ h
 ·exact .bool _
theorem ahM(k:MK):k.okT k.zero:=by cases k<;>simp[MK.okT,MK.zero]<;>decide
theorem afY{v:V}{x:Int×Int}(h:afD v=some x):v=.agg [.int .i64 x.1,.int .i64 x.2]:=by unfold afD at h;split at h<;>first|contradiction|(cases h;rfl)
theorem adl{v:V}{x:Int}(h:u8V v=some x):v=.int .u8 x:=by unfold u8V at h;split at h<;>first|contradiction|(cases h;rfl)
theorem wQ{v:V}{x:Int}(h:ac2 v=some x):v=.int .i64 x:=by unfold ac2 at h;split at h<;>first|contradiction|(cases h;rfl)
theorem wR{v:V}{x:List UInt8}(h:afE v=some x):v=.str x:=by unfold afE at h;split at h<;>first|contradiction|(cases h;rfl)
theorem ui{v:V}{x:Bool}(h:aal v=some x):v=.bool x:=by unfold aal at h;split at h<;>first|contradiction|(cases h;rfl)
theorem abu{I:Nat->Nat->Prop}{ρ:Nat->Nat}{N:Nat}{l:List UInt8}{cv:Value}(h:VRel I ρ N w (.str l) cv):cv=.string ⟨l.toArray⟩∧l.length<=cR:=by
 cases h with
 |str _ s b c=>subst b;exact⟨rfl,by rw[BD];exact c⟩
theorem pF{I:Nat->Nat->Prop}{ρ:Nat->Nat}{N:Nat}{k:IntKind}{n:Int}{cv:Value}(h:VRel I ρ N w (.int k n) cv):cv=.int k n∧k.min<=n∧n<=k.max:=by cases h;exact⟨rfl,by assumption⟩
theorem zN{I:Nat->Nat->Prop}{ρ:Nat->Nat}{N:Nat}{b:Bool}{cv:Value}(h:VRel I ρ N w (.bool b) cv):cv=.bool b:=by cases h;rfl
theorem ahN{I:Nat->Nat->Prop}{ρ:Nat->Nat}{N:Nat}{k:MK}{v:V}{x:k.T}{cv:Value}(h:k.dval v=some x)(b:VRel I ρ N w v cv):cv=k.valV x∧k.okT x:=by
 cases k with
 |pb=>rw[ui h] at b;exact⟨zN b,trivial⟩
 |ib=>rw[ui h] at b;exact⟨zN b,trivial⟩
 |bs=>rw[wR h] at b;exact abu b
 |bn=>rw[wQ h] at b;exact pF b
 |sn=>rw[wQ h] at b;exact pF b
 |sb=>rw[ui h] at b;exact⟨zN b,trivial⟩
theorem zO{I:Nat->Nat->Prop}{ρ:Nat->Nat}{N:Nat}{k:MK}{v:V}{x:k.K}{cv:Value}(h:k.dkey v=some x)(b:VRel I ρ N w v cv):cv=k.keyV x:=by
 cases k with
 |pb=>
  rw[afY h] at b;cases b with
  |agg _ vs e _ _ c=>
   obtain⟨l⟩:=vs;match l,e,c with
   | [u,d],_,c=>rw[(pF (c 0 _ u rfl rfl)).1,(pF (c 1 _ d rfl rfl)).1];rfl
 |bs=>rw[adl h] at b;exact(pF b).1
 |bn=>rw[adl h] at b;exact(pF b).1
 |ib=>rw[wQ h] at b;exact(pF b).1
 |sn=>rw[wR h] at b;exact(abu b).1
 |sb=>rw[wR h] at b;exact(abu b).1
theorem abv{c:TypeId}{k:MK}(h:jA P c k=true)(f:k≠.pb)(x y:k.K):∃d,P.underlying c=some d∧Dn d (k.keyV x) (k.keyV y)=some (decide (x=y)):=by
 have b:∀(k:IntKind)(x y:Int)(_:Decidable (x=y)),Dn (.int k) (.int k x) (.int k y)=some (decide (x=y)):=λk x y _=>by simp only[Dn,if_true,Ae];rw[Bool.eq_iff_iff,decide_eq_true_iff,beq_iff_eq]
 cases k with
 |pb=>exact absurd rfl f
 |sn|sb=>
  unfold jA at h;split at h<;>first|contradiction|skip
  rename_i e;refine⟨_,e,?_⟩;simp only[MK.keyV,Dn,Ae];rw[Bool.eq_iff_iff,decide_eq_true_iff,bytes_beq];constructor;·intro h;simpa using h
  ·rintro rfl;rfl
 |bs=>
     unfold jA at h;split at h<;>first|contradiction|skip
     rename_i e;exact⟨_,e,b _ _ _ _⟩
 |bn=>
     unfold jA at h;split at h<;>first|contradiction|skip
     rename_i e;exact⟨_,e,b _ _ _ _⟩
 |ib=>
     unfold jA at h;split at h<;>first|contradiction|skip
     rename_i e;exact⟨_,e,b _ _ _ _⟩
theorem jj{e:Nat}(b:jD P e=some false){xs:Array Value}{j:Nat}{u:Value}(c:xs[j]? =some u)(w:World):(part e xs j).run P w=.ok u w:=by simp[part,ub b,c]
theorem aiz{f:TypeId}(h:jA P f .pb=true):∃e,P.underlying f=some (.array 2 e)∧P.underlying e=some (.int .i64)∧dM P e=some 1∧jD P e=some false:=by
 unfold jA at h;split at h<;>first|contradiction|skip
 rename_i e _ i;simp only[Ab,beq_iff_eq] at h;obtain⟨j,b⟩:=h;have d:P.underlying e=some (.int .i64):=by
  unfold abo at b;split at b;·rename_i k' c;rw[c,of_decide_eq_true b]
  ·simp at b
 exact⟨e,i,d,j,by simp[jD,d]⟩
theorem afZ{e:TypeId}(u:P.underlying e=some (.int .i64))(f:jD P e=some false)(q:Nat)(a b c d:Int){xs ys:Array Value}(t:xs[0]? =some (.int .i64 a))(i:xs[1]? =some (.int .i64 b))(v:ys[0]? =some (.int .i64 c))(k:ys[1]? =some (.int .i64 d))(w:World):(Op.eqItems (q+1) e 1 xs ys [0,1]).run P w=.ok (decide ((a,b)=(c,d))) w:=by
 have h:∀(p j:Int)(w:World),(CP (q+1) e (.int .i64 p) (.int .i64 j)).run P w=.ok (p==j) w:=by intro p j w;simp[CP,run_underlying u]
 simp only[Op.eqItems,CM,Di,jj f t,jj f i,jj f v,jj f k,BX,h];by_cases o:a=c
 ·subst o;by_cases r:b=d;·subst r;simp[jj f i,jj f k,h]
  ·simp[r,jj f i,jj f k,h]
 ·simp[o]
theorem af0{o:TypeId}(h:jA P o .pb=true)(x y:MK.K .pb)(w:World):(Op.equal o (MK.keyV .pb x) (MK.keyV .pb y)).run P w=.ok (decide (x=y)) w:=by
 obtain⟨e,t,r,p,j⟩:=aiz h;obtain⟨inf,f,q⟩:∃i,P.info? e=some i∧i.size=1:=by unfold dM at p;obtain⟨i,f,h⟩:=Ak.1 p;exact⟨i,f,h⟩
 have k:P.cellsOf e=1:=by simp[Program.cellsOf,f,q]
 obtain⟨a,b⟩:=x;obtain⟨c,d⟩:=y;show (CP (9999+1) o (.agg #[.int .i64 a,.int .i64 b]) (.agg #[.int .i64 c,.int .i64 d])).run P w=_;rw[run_equalIn_array w 9999 _ _ t f,k];exact afZ r j 9998 a b c d rfl rfl rfl rfl w
def mA{k:MK}(es:List (k.K×k.T))(x:k.K)(i:Nat):Option (Nat×Value):=match aU es x with
 |some v=>some (i+kb es x,k.valV v)
 |none=>none
theorem zf{k:MK}(e:k.K×k.T)(es:List (k.K×k.T))(x:k.K)(i:Nat):mA (e::es) x i=if e.1=x then some (i,k.valV e.2) else mA es x (i+1):=by
 unfold mA;by_cases h:e.1=x;·simp[aU,kb,h]
 ·simp only[aU,kb,h,if_false];split
  ·congr 2;omega
  ·rfl
theorem sN{C:TypeId}{k:MK}(h:jA P C k=true){es:List (k.K×k.T)}{ents:Array MapEntry}{clock:Nat}(u:dL es ents clock)(x:k.K):(Instr.findKey C (k.keyV x) ents.toList).run P w=.ok (mA es x 0) w:=by
 have r:∀(i:Nat) e c,es[i]? =some e->ents.toList[i]? =some c->c.key=k.keyV e.1∧c.val=k.valV e.2:=λi e c t p=>by obtain⟨-,a,b, -⟩:=u.2.2 i e c t (by simpa using p);exact⟨a,b⟩
 have o:es.length=ents.toList.length:=by simpa using u.1
 generalize ents.toList=l at o r;by_cases z:k=.pb
 ·subst z;rw[run_findKey_eq w ?_ (MK.keyV .pb x) l]
  ·clear u;generalize 0=i;induction es generalizing l i with
   |nil=>have:l=[]:=A1 o.symm;subst this;simp[Instr.findAsking,mA,aU]
   |cons e es v=>
    cases l with
    |nil=>simp at o
    |cons c l=>
     obtain⟨y,A⟩:=r 0 e c rfl rfl;rw[Instr.findAsking,y,A,zf];simp only[CM,af0 h,BX];by_cases f:e.1=x;·simp[f]
     ·rw[if_neg f,if_neg (by simpa using λe=>f e.symm)];exact v l (by simpa using o) (λj e c t p=>r (j+1) e c (by simpa using t) (by simpa using p)) (i+1)
  ·unfold jA at h;split at h<;>first|contradiction|skip
   rename_i e _ D;rw[D]
 ·obtain⟨d,B, -⟩:=abv h z x x;refine Go.MapKept.run_findKey B ?_;clear u;generalize 0=i;induction es generalizing l i with
  |nil=>have:l=[]:=A1 o.symm;subst this;simp[Instr.findNow,mA,aU]
  |cons e es v=>
   cases l with
   |nil=>simp at o
   |cons c l=>
    obtain⟨y,A⟩:=r 0 e c rfl rfl;obtain⟨F,q,E⟩:=abv h z x e.1;rw[B] at q;obtain rfl:=Ar q;rw[Instr.findNow,y,A,zf,E];by_cases f:e.1=x;·simp[f]
    ·rw[if_neg f,decide_eq_false (λe=>f e.symm)];exact v l (by simpa using o) (λj e c t p=>r (j+1) e c (by simpa using t) (by simpa using p)) (i+1)
theorem aeD{e:Nat}(j:P.underlying e=some (.int .i64))(d:jD P e=some false)(o:dM P e=some 1)(f:Bool)(q:Nat)(a b:Int){xs:Array Value}(h:xs[0]? =some (.int .i64 a))(k:xs[1]? =some (.int .i64 b)):
  (forIn [0,1] PUnit.unit λi r=>do BQ f (q+1) e (<-part e xs (i*(<-sizeOf e)));pure (ForInStep.yield PUnit.unit):Sem PUnit).run P w=.ok PUnit.unit w:=by
 have c:∀(p:Int)(w:World),(BQ f (q+1) e (.int .i64 p)).run P w=.ok () w:=by intro p w;simp[BQ,run_underlying j]
 simp only[List.forIn_cons,List.forIn_nil,CM,j9 o,BX,Di,jj d h,jj d k,c,Sem.run_pure]
theorem af1{d:TypeId}(h:jA P d .pb=true)(a b:Int)(f:Bool)(q:Nat):(BQ f (q+2) d (.agg #[.int .i64 a,.int .i64 b])).run P w=.ok () w:=by obtain⟨e,j,i,k,c⟩:=aiz h;have:=aeD (w:=w) i c k f q a b (xs:= #[.int .i64 a,.int .i64 b]) rfl rfl;rw[BQ];simp only[CM,run_underlying j,BX];simp only[Std.Legacy.Range.forIn_eq_forIn_range',Std.Legacy.Range.size,Nat.sub_zero,Nat.add_one_sub_one,Nat.div_one];have r:A6 0 2 1=[0,1]:=rfl;rw[r];simp at this ⊢;rw[this];rfl
theorem ag3{c:TypeId}{k:MK}(h:jA P c k=true)(b:k≠.pb)(x:k.K)(f:Bool)(q:Nat):(BQ f (q+1) c (k.keyV x)).run P w=.ok () w:=by
 obtain⟨d,i,j⟩:=abv h b x x;cases k<;>first|exact absurd rfl b|skip
 all_goals
  unfold jA at h;split at h<;>first|contradiction|skip
  rename_i e;simp[BQ,run_underlying e,MK.keyV]
theorem rz{c:TypeId}{k:MK}(h:jA P c k=true)(x:k.K)(b:Bool):(BQ b 10000 c (k.keyV x)).run P w=.ok () w:=by
 by_cases d:k=.pb;·subst d;exact af1 h x.1 x.2 b 9998
 ·exact ag3 h d x b 9999
theorem ahO(k:MK)(x:k.K)(q:Nat):CQ (q+2) (k.keyV x) (k.keyV x)=true:=by
 cases k with
 |pb=>simp[MK.keyV,CQ]
 |sn|sb=>exact(bytes_beq _ _).2 rfl
 |_=>simp[MK.keyV,CQ]
theorem ag4(k:MK)(x:k.K):CQ 10000 (k.keyV x) (k.keyV x)=true:=ahO k x 9998
theorem ag5{k:MK}{es:List (k.K×k.T)}{x:k.K}{v:k.T}(h:aU es x=some v):es[kb es x]? =some (x,v):=by
 induction es with
 |nil=>simp[aU] at h
 |cons e es c=>
  simp only[aU] at h;by_cases b:e.1=x;·rw[if_pos b] at h;obtain rfl:=Ar h;subst b;simp[kb]
  ·rw[if_neg b] at h;simp only[kb,if_neg b];simpa using c h
theorem ahP{k:MK}{es:List (k.K×k.T)}{x:k.K}{v u:k.T}(h:aU es x=some v):bz es x u=es.set (kb es x) (x,u):=by
 induction es with
 |nil=>simp[aU] at h
 |cons e es c=>
  simp only[aU] at h;by_cases b:e.1=x;·simp[bz,kb,b]
  ·rw[if_neg b] at h;simp[bz,kb,b,c h]
theorem ag6{k:MK}{es:List (k.K×k.T)}{x:k.K}{u:k.T}(h:aU es x=none):bz es x u=es++[(x,u)]∧kb es x=es.length:=by
 induction es with
 |nil=>simp[bz,kb]
 |cons e es d=>
  simp only[aU] at h;by_cases b:e.1=x;·simp[b] at h
  ·rw[if_neg b] at h;obtain⟨c,f⟩:=d h;simp[bz,kb,b,c,f]
theorem dL.set{k:MK}{es:List (k.K×k.T)}{ents:Array MapEntry}{clock:Nat}(h:dL es ents clock){i:Nat}{x:k.K}{v:k.T}(o:k.okT v):
  dL (es.set i (x,v)) (ents.modify i λe=>{e with key:=k.keyV x,val:=k.valV v}) clock:=by
 refine⟨by simp[h.1],by simp[h.2.1],?_⟩;intro j e q b c;rw[Aw] at b;rw[CY] at c;by_cases f:i=j
 ·subst f;rw[if_pos rfl] at b c;split at b;·cases b;rw[Ak] at c;obtain⟨p,r,rfl⟩:=c;rename_i d;exact⟨(h.2.2 _ _ _ (Ac d) r).1,rfl,rfl,o⟩
  ·simp at b
 ·rw[if_neg f] at b c;exact h.2.2 j e q b c
theorem dL.push{k:MK}{es:List (k.K×k.T)}{ents:Array MapEntry}{clock:Nat}(h:dL es ents clock){x:k.K}{v:k.T}(i:k.okT v):
  dL (es++[(x,v)]) (ents.push {key:=k.keyV x,val:=k.valV v,born:=clock}) (clock+1):=by
 refine⟨by simp[h.1],by simp[h.2.1],?_⟩;intro j e p b d;rcases AE j es.length with f|f;·rw[Ap f] at b;rw[CE,if_neg (by rw[<-h.1];omega)] at d;exact h.2.2 j e p b d
 ·rw[An f] at b;have o:j-es.length=0:=by
   have:=(Ad.1 b).1;simp at this;omega
  rw[o] at b;simp at b;subst b;have c:j=ents.size:=by rw[<-h.1];omega
  rw[CE,if_pos c] at d;obtain rfl:=Ar d;exact⟨by rw[h.2.1];exact c.symm,rfl,rfl,i⟩
theorem adm{id:Nat}{k:MK}{es:List (k.K×k.T)}(c:s.mapO id=some ⟨k,es⟩):s.hp[id]? =some (some [.mp k es]):=by
 unfold St.mapO at c;split at c
 ·rename_i k' e b;cases c;rw[Ah] at b;cases d:s.hp[id]? with
  |none=>rw[d] at b;simp at b
  |some x=>rw[d] at b;simp at b;rw[b]
 ·simp at c
theorem SR.putMap(h:SR g s w a){id:Nat}{k:MK}{es r:List (k.K×k.T)}(Y:s.mapO id=some ⟨k,es⟩){ents i:Array MapEntry}{clock d:Nat}(hb:w.heap[g.ρ id]? =some (.map ents clock))(hm:dL r i d):
  SR g (s.setObj id [.mp k r]) {w with heap:=w.heap.setIfInBounds (g.ρ id) (.map i d)} a∧FR g s.hp w g (s.hp.set id (some [.mp k r])) {w with heap:=w.heap.setIfInBounds (g.ρ id) (.map i d)}:=by
 have hid:=adm Y;obtain⟨S,F⟩:=Go.MapKept.heap_set (o':=.map i d) hb;let w':World:={w with heap:=w.heap.setIfInBounds (g.ρ id) (.map i d)}
 have R:w'.heap.size=w.heap.size:=by simp[w']
 have H:∀b j,g.I b j->b≠g.ρ id:=by rintro b j z rfl;exact h.hr.notI id _ hid j z
 have D:∀b j,g.I b j->w'.cell? ⟨b,j,none⟩=w.cell? ⟨b,j,none⟩:=by intro b j z;simp only[w',Bn,F b (H b j z)]
 have u:Up g.I g.ρ s.hp.length w g.I g.ρ s.hp.length w':=⟨λ_ _ h=>h,D,λ_ _=>rfl,Aj _⟩
 have x:∀C v cv,ai g w C v cv->ai g w' C v cv:=by intro C v cv M;refine bd M rfl (λb j z=>⟨u.mono b j z,u.cell b j z⟩) ?_;intro b y;refine⟨y,F b ?_,λj W=>W⟩;rintro rfl;rw[h.hr.notO id _ hid] at y;simp at y
 have hl:id<s.hp.length:=(Ad.1 hid).1;have split:∀(f:Nat) o',(s.hp.set id (some [V.mp k r]))[f]? =some (some o')->(f=id∧o'=[V.mp k r])∨(f≠id∧s.hp[f]? =some (some o')):=by
  intro f o' o;rw[Aw] at o;split at o;·rename_i e;simp[hl] at o;exact .inl ⟨e.symm,o.symm⟩
  ·rename_i e;exact .inr ⟨λe'=>e e'.symm,o⟩
 have A:∀(f:Nat) o',(s.hp.set id (some [V.mp k r]))[f]? =some (some o')->∃B,s.hp[f]? =some (some B):=by
  intro f o' o;rcases split f o' o with⟨rfl,_⟩|⟨_,o⟩
  ·exact⟨_,hid⟩
  ·exact⟨_,o⟩
 refine⟨⟨⟨?_,?_,?_,?_,?_,?_⟩,⟨h.er.size,?_,?_⟩⟩,⟨rfl,rfl,rfl,rfl,by rw[R];exact Aj _,?_,?_,λ_ _ _ _ _ z=>z,λ_ _ _ Z=>Z,?_⟩⟩
 ·intro f o' o;simp only[St.setObj,AB];rcases split f o' o with⟨rfl,rfl⟩|⟨E,o⟩
  ·exact⟨by simp[kd],λq a2 G=>by cases G;exact⟨i,d,S,hm⟩⟩
  ·refine(h.hr.obj f o' o).keep ?_ λO e2 ar t q=>⟨q.len,q.plain,q.typedUp rfl u.rho u.num rfl,q.cold,q.one,λj c cv G p=>(q.rel j c cv G p).up u,λj c cv G p=>x _ _ _ (q.own j c cv G p),q.bn⟩
   exact F _ (h.hr.apart f id o' _ o hid E)
 ·intro id1 N J X t q E;obtain⟨_,t⟩:=A id1 J t;obtain⟨_,q⟩:=A N X q;exact h.hr.apart _ _ _ _ t q E
 ·intro id1 J t;obtain⟨_,t⟩:=A id1 J t;exact h.hr.notI _ _ t
 ·intro id1 J t;obtain⟨_,t⟩:=A id1 J t;exact h.hr.notO _ _ t
 ·intro b j z;exact(h.hr.exI b j z).blk (F b (H b j z))
 ·intro b oc y;rw[R];exact h.hr.oLt b oc y
 ·intro n v cv o p;simp only[St.setObj,AB];exact(h.er.rel n v cv o p).up u
 ·intro n v cv o p;exact x _ _ _ (h.er.own n v cv o p)
 ·intro b _ L _;exact F b (λe=>L id _ hid e.symm)
 ·simp only[AB];exact u
 ·intro f o' o;obtain⟨B,o⟩:=A f o' o;exact .inl ⟨B,o⟩
theorem SR.newMap(h:SR g s w a)(k:MK)(d:Nat):
  ∃g',SR g' {s.set d (.mr s.hp.length) with hp:=s.hp++[some [.mp k []]]} (w.alloc (.map #[] 0)) (a.put (some d) (.map (some w.heap.size)))∧
   FR g s.hp w g' (s.hp++[some [.mp k []]]) (w.alloc (.map #[] 0)):=by
 obtain⟨M,E,f3⟩:=iv w (.map #[] 0);let w':=w.alloc (.map #[] 0);let g':Gh:={g with ρ:=λid=>if id=s.hp.length then w.heap.size else g.ρ id}
 have x:∀b j,g.I b j->b<w.heap.size:=by intro b j i;exact(h.hr.exI b j i).lt
 have C:∀b j,b<w.heap.size->w'.cell? ⟨b,j,none⟩=w.cell? ⟨b,j,none⟩:=by intro b j z;simp only[w',Bn,E b z]
 have u:Up g.I g.ρ s.hp.length w g'.I g'.ρ (s.hp++[some [V.mp k []]]).length w':=
  ⟨λb j i=>i,λb j i=>C b j (x b j i),λid hid=>by simp[g',Ba hid],by simp⟩
 have A:∀(id:Nat) cs,s.hp[id]? =some (some cs)->g.ρ id<w.heap.size:=by intro id cs hid;exact(h.hr.obj id cs hid).lt
 have q:∀y v cv,ai g w y v cv->ai g' w' y v cv:=by intro y v cv ho;refine bd ho rfl (λb j i=>⟨u.mono b j i,u.cell b j i⟩) ?_;intro b z;exact⟨z,E b (h.hr.oLt b y z),λj hj=>hj⟩
 have split:∀(id:Nat) o,(s.hp++[some [V.mp k []]])[id]? =some (some o)->(id<s.hp.length∧s.hp[id]? =some (some o))∨(id=s.hp.length∧o=[V.mp k []]):=by
  intro id o hid;rcases AE id s.hp.length with i|i;·rw[Ap i] at hid;exact .inl ⟨i,hid⟩
  ·rw[An i] at hid;have J:id-s.hp.length=0:=by
    rcases CN (id-s.hp.length) with J|J;·exact J
    ·rw[AU (by simp;omega)] at hid;simp at hid
   rw[J] at hid;simp at hid;exact .inr ⟨by omega,hid.symm⟩
 have f:g'.ρ s.hp.length=w.heap.size:=by simp[g']
 have e:∀id,id<s.hp.length->g'.ρ id=g.ρ id:=λid hid=>by simp[g',Ba hid]
 have hs:SR g' {s with hp:=s.hp++[some [V.mp k []]]} w' a:=by
  refine⟨⟨?_,?_,?_,?_,?_,?_⟩,⟨h.er.size,?_,?_⟩⟩
  ·intro id o hid;rcases split id o hid with⟨i,hid⟩|⟨rfl,rfl⟩
   ·refine(h.hr.obj id o hid).keep ?_ λW e' fz N r=>⟨r.len,r.plain,r.typedUp rfl u.rho u.num rfl,r.cold,r.one,λj c cv G p=>(r.rel j c cv G p).up u,λj c cv G p=>q _ _ _ (r.own j c cv G p),by rw[e id i];exact r.bn⟩
    rw[e id i];exact E _ (A id o hid)
   ·refine⟨by simp[kd],λr a1 G=>?_⟩;cases G;exact⟨#[],0,by rw[f];exact f3,rfl,rfl,by simp⟩
  ·intro id B o o' N r H;rcases split id o N with⟨i,Z⟩|⟨Y, -⟩<;>rcases split B o' r with⟨F,R⟩|⟨S, -⟩
   ·rw[e _ i,e _ F];exact h.hr.apart id B o o' Z R H
   ·rw[e _ i,S,f];exact Ba (A id o Z)
   ·rw[e _ F,Y,f];exact(Ba (A B o' R)).symm
   ·exact absurd (Y.trans S.symm) H
  ·intro id o hid j i;rcases split id o hid with⟨t,hid⟩|⟨rfl,rfl⟩
   ·rw[e _ t] at i;exact h.hr.notI id o hid j i
   ·rw[f] at i;have:=x _ _ i;omega
  ·intro id o hid;rcases split id o hid with⟨t,hid⟩|⟨rfl,rfl⟩
   ·rw[e _ t];exact h.hr.notO id o hid
   ·rw[f];cases L:g.O w.heap.size with
    |none=>rfl
    |some X=>have:=h.hr.oLt _ _ L;omega
  ·intro b j i;exact(h.hr.exI b j i).blk (by first|exact hold b (x b j i)|exact E b (x b j i))
  ·intro b X z;have:=h.hr.oLt b X z;show b<w'.heap.size;rw[M];omega
  ·intro n v cv D p;exact(h.er.rel n v cv D p).up u
  ·intro n v cv D p;exact q _ _ _ (h.er.own n v cv D p)
 refine⟨g',?_,rfl,rfl,rfl,rfl,by rw[M];omega,λb z _ _=>E b z,u,λb j _ _ _ i=>i,λb _ _ L=>L,?_⟩
 ·have:=hs.set d (v:=.mr s.hp.length) (cv:=.map (some w.heap.size)) (by
   rw[<-f];exact .mr _ (by simp)) (by simp[ai])
  exact this
 ·intro id o hid;rcases split id o hid with⟨t,hid⟩|⟨rfl,rfl⟩
  ·exact .inl ⟨o,hid⟩
  ·exact .inr ⟨Aj _,.inl (by rw[f];exact Aj _)⟩
theorem ajt{d:Nat}{k:MK}(b:pY P (.mkm d k) m=true)(c:step Γ (.mkm d k) s=some (true,s'))(h:SR g s w a)(f:bI g s w a s' next):m.wp P a w next Q:=by
 obtain⟨dst,i,ty,pos,e,j⟩:=m;simp only[pY,Ab,beq_iff_eq] at b;obtain⟨rfl,b⟩:=b;split at b
 ·obtain rfl:_=s':=by simpa [step] using c
  exact dg rfl (w':=w.alloc (.map #[] 0)) (cv:=.map (some w.heap.size)) (by simp[execOp,Instr.makeMap]) (h.newMap k d) f
 ·simp at b
theorem acd(h:SR g s w a){id:Nat}{k:MK}{es:List (k.K×k.T)}(b:s.mapO id=some ⟨k,es⟩):∃ents clock,w.heap[g.ρ id]? =some (.map ents clock)∧dL es ents clock:=(h.hr.obj id _ (adm b)).map k es rfl
theorem adn{I:Nat->Nat->Prop}{ρ:Nat->Nat}{N:Nat}(k:MK)(e:Bool)(r:Option k.T)(h:∀v,r=some v->k.okT v):VRel I ρ N w (wG k e r) (if e then .tuple #[k.valV (r.getD k.zero),.bool r.isSome] else k.valV (r.getD k.zero)):=by
 have f:VRel I ρ N w (k.val (r.getD k.zero)) (k.valV (r.getD k.zero)):=ahL k _ (by
  cases r with
  |none=>exact ahM k
  |some v=>exact h v rfl)
 cases e with
 |false=>exact f
 |true=>
  refine .tup _ _ rfl ?_;intro i c cv d b;match i with
  |0=>simp at d b;subst d b;exact f
  |1=>simp at d b;subst d b;exact .bool _
  |i+2=>simp at d
theorem ado(g:Gh)(w:World)(b:Occ)(k:MK)(c:Bool)(r:Option k.T)(cv:Value):ai g w b (wG k c r) cv:=by
 cases c;·cases k<;>simp[wG,MK.val,ai]
 ·simp[wG,ai]
theorem afl{k:MK}{es:List (k.K×k.T)}{ents:Array MapEntry}{clock:Nat}(i:dL es ents clock){x:k.K}{v:k.T}(h:aU es x=some v):kb es x<es.length∧k.okT v∧∃e,ents[kb es x]? =some e∧e.key=k.keyV x∧e.val=k.valV v∧e.born=kb es x:=by have f:=ag5 h;have j:=(Ad.1 f).1;have o:ents[kb es x]? =some (ents[kb es x]'(by rw[<-i.1];exact j)):=Am _;obtain⟨a,b,c,d⟩:=i.2.2 _ _ _ f o;exact⟨j,d,_,o,b,c,a⟩
theorem aiN{d:Nat}{k:MK}{j:Bool}{x y:aj}(f:pY P (.mget d k j x y) m=true)(b:step Γ (.mget d k j x y) s=some (true,s'))(h:SR g s w a)(F:bI g s w a s' next):m.wp P a w next Q:=by
 obtain⟨dst,Y,ty,pos,M,W⟩:=m;simp only[pY,Ab,beq_iff_eq] at f;obtain⟨rfl,f⟩:=f;split at f
 ·rename_i t J y' L;simp only[Ab,beq_iff_eq] at f;obtain⟨S,rfl,H,I⟩:=f;obtain⟨Z,e,C,q,z⟩:=ze S;have o:=aB H h.er;have E:=aB I h.er;generalize p:a.eval J=X at o;simp only[step] at b;split at b
  ·rename_i u;rw[u] at o;cases o;simp only[Ak] at b;obtain⟨key,B,b⟩:=b;obtain rfl:_=s':=by simpa using b
   have i:=zO B E;have c:=rz (w:=w) q key true;have r:=sN (P:=P) (w:=w) q (k:=k) (es:=[]) (ents:= #[]) (clock:=0) ⟨rfl,rfl,by simp⟩ key;refine dg rfl (w':=w) (cv:=if j then .tuple #[k.valV k.zero,.bool false] else k.valV k.zero) ?_ ⟨g,h.set d (adn k j none (by simp)) (ado _ _ _ _ _ _ _),FR.refl _ _ _⟩ F;simp[execOp,Instr.lookup,run_underlying C,p,i,c,mA,aU,z w] at r ⊢;rw[r];simp[z w]
  ·rename_i id u;rw[u] at o;cases o;split at b
   ·rename_i k' es G;split at b
    ·rename_i A;subst A;simp only[Ak] at b;obtain⟨key,B,b⟩:=b;obtain rfl:_=s':=by simpa using b
     have i:=zO B E;obtain⟨ents,clock,N,D⟩:=acd h G;have c:=rz (w:=w) q key ents.isEmpty;have r:=sN (P:=P) (w:=w) q D key;refine dg rfl (w':=w) (cv:=if j then .tuple #[k'.valV ((aU es key).getD k'.zero),.bool (aU es key).isSome] else k'.valV ((aU es key).getD k'.zero)) ?_ ⟨g,h.set d (adn k' j _ (λv O=>(afl D O).2.1)) (ado _ _ _ _ _ _ _),FR.refl _ _ _⟩ F;simp only[execOp,Instr.lookup,p,i,CM,run_underlying C,Go.MapKept.run_getObj_map N,BX,Sem.run_pure,c,r];unfold mA;cases R:aU es key with
     |none=>simp[z w]
     |some v=>simp
    ·simp at b
   ·simp at b
  ·simp at b
 ·simp at f
theorem keeps{c b:Value}(h:CQ 10000 c b=true)(w:World):(Instr.keyThatStays c b).run P w=.ok b w:=by simp[Instr.keyThatStays,h]
theorem aiO{d:Option Nat}{k:MK}{x y z:aj}(c:pY P (.mput d k x y z) m=true)(o:step Γ (.mput d k x y z) s=some (true,s'))(h:SR g s w a)(hn:bI g s w a s' next):m.wp P a w next Q:=by
 obtain⟨dst,R,ty,pos,u,J⟩:=m;simp only[pY,Ab,beq_iff_eq] at c;obtain⟨rfl,c⟩:=c;have q:∀t r B A,(∀ρ:Operand->Value,execOp ρ ⟨dst,R,ty,pos,u,J⟩=(do Db t (ρ r) (ρ B) (ρ A);pure .skip))->uh P t k=true->ay x r=true->ay y B=true->ay z A=true->(⟨dst,R,ty,pos,u,J⟩:Oper).wp P a w next Q:=by
  intro t r B A L h1 h2 h3 h4;obtain⟨kt,e,W,X,hz⟩:=ze h1;have G:=aB h2 h.er;have r2:=aB h3 h.er;have r3:=aB h4 h.er;generalize H:a.eval r=cx at G;simp only[step] at o;split at o
  ·rename_i id hx;rw[hx] at G;cases G;split at o
   ·rename_i k' es Z;split at o
    ·rename_i M;subst M;split at o
     ·rename_i key v hk hv;obtain rfl:_=s':=by simpa using o
      have N:=zO hk r2;obtain⟨O,E⟩:=ahN hv r3;obtain⟨ents,clock,D,F⟩:=acd h Z;have p:=rz (w:=w) X key false;have Y:=sN (P:=P) (w:=w) X F key;have fin:∀f b C,dL C f b->C=bz es key v->(Db t (.map (some (g.ρ id))) (k'.keyV key) (k'.valV v)).run P w=.ok () {w with heap:=w.heap.setIfInBounds (g.ρ id) (.map f b)}->(⟨dst,R,ty,pos,u,J⟩:Oper).wp P a w next Q:=by
       rintro f b C I rfl hr;obtain⟨p1,S⟩:=h.putMap Z D I;unfold Cw CZ;rw[L,H,N,O];simp only[CM,hr,BX,Sem.run_pure];cases dst with
       |none=>exact hn _ _ g p1 S rfl
       |some d=>exact hn _ _ g (p1.set d (.undef _) (by simp[ai])) S rfl
      cases j:aU es key with
      |some v0=>obtain⟨b1,b2,en,b3,b4,b5,b6⟩:=afl F j;refine fin _ _ _ (F.set (i:=kb es key) (x:=key) E) (ahP j).symm ?_;simp[Db,run_underlying W,Go.MapKept.run_getObj_map D,p,Y,mA,j,b3,b4,keeps (ag4 k' key),Go.MapKept.run_setObj_map _ D]
      |none=>refine fin _ _ _ (F.push (x:=key) E) (ag6 j).1.symm ?_;simp[Db,run_underlying W,Go.MapKept.run_getObj_map D,p,Y,mA,j,Go.MapKept.run_setObj_map _ D]
     ·simp at o
    ·simp at o
   ·simp at o
  ·simp at o
 split at c;·rename_i t r B A;simp only[Ab] at c;exact q t r B A (λρ=>by simp[execOp]) c.1 c.2.1 c.2.2.1 c.2.2.2
 ·rename_i t r B A;simp only[Ab] at c;exact q t r B A (λρ=>by simp[execOp]) c.1 c.2.1 c.2.2.1 c.2.2.2
 ·simp at c
end
end
def ahQ(P:Program)(o:IOp)(m:Oper):Bool:=
 match o with
 | .apo d k x y=>iQ P (.apu d k x y) m
 |_=>false
section
variable{w w':World}{g g':Gh}{s s':St}{a:Act}{P:Program}{Γ:am}{m:Oper}{next:Act->World->Prop}{Q:Exit->Act->World->Prop}
theorem aju{d:Nat}{k:EK}{x y:aj}(i:g.β=jz P)(j:ahQ P (.apo d k x y) m=true)(b:step Γ (.apo d k x y) s=some (true,s'))(h:SR g s w a)(L:bI g s w a s' next):m.wp P a w next Q:=by
 have j:iQ P (.apu d k x y) m=true:=j;simp only[step] at b;split at b
 ·rename_i M l e N c C z;split at b
  ·rename_i J;split at b
   ·rename_i D;subst J D;split at b;case isFalse=>cases b
    rename_i G;simp only[Ae,Al,Ab,decide_eq_true_eq] at b;obtain⟨⟨E,F⟩,rfl⟩:=b;have q:(x.after s).hp=s.hp:=by cases x<;>rfl
    have p:(x.after s).env.length=s.env.length:=by cases x<;>simp[aj.after,St.set]
    refine agU (s':=(x.after s).set d (.ul e (l++c))) (Γ:=Γ) i j ?_ h ?_;·simp only[step,C,z];simp[E]
    ·intro t w' g' u A r;have B:(dc.opn (.slot d)).step ((x.after s).set d (.ul e (l++c)))=some (true,{(x.after s).set d (.sw e s.hp.length (l++c).length) with hp:=s.hp++[some [.rw e (l++c)],none]}):=by
      have I:((x.after s).set d (.ul e (l++c))).get d=.ul e (l++c):=by simp[St.get,St.set,Ah,p,G]
      have f:((x.after s).set d (.ul e (l++c))).hp=s.hp:=q;simp only[dc.step,St.at?,I,St.put?,f];have:0<(l++c).length:=F;simp only[this,decide_true,St.set,List.set_set,q]
     obtain⟨o,v,H⟩:=aca u B;exact L t w' o v (A.trans H) r
   ·simp at b
  ·simp at b
 ·simp at b
end
def pZ:List aj->List Operand->Bool
 | [],[]=>true
 |x::xs,y::ys=>ay x y&&pZ xs ys
 |_,_=>false
def aax:Op->Option (FuncId×List Operand)
 | .call c=>match c.callee with| .value (.func f)=>some (f,c.args.toList)|_=>none
 |_=>none
def adp:Op->Option (Operand×List Operand)
 | .call c=>match c.callee with| .value (.tmp n)=>some (.tmp n,c.args.toList)|_=>none
 |_=>none
def lB(P:Program)(f:FuncId):Bool:=match P.funcs[f]? with|some fn=>fn.body.isSome&&fn.name !="runtime.NumGoroutine"|none=>false
def rk(P:Program)(o:IOp)(m:Oper):Bool:=
 match o with
 | .call d f avs=>(m.dst==d)&&(match aax m.op with|some (e,b)=>(f==e)&&(pZ avs b&&lB P f)|none=>false)
 | .dcall d f x avs=>(m.dst==d)&&(match adp m.op with|some (c,b)=>ay x c&&(pZ avs b&&lB P f)|none=>false)
 |_=>false
def aay(P:Program)(o:IOp)(m:Oper):Bool:=aM P o m||pW P o m||rk P o m||jE P o m||afh P o m||afk P o m||n9 P o m||iQ P o m||pY P o m||ahQ P o m||ajs P o m
def uj(P:Program)(c:Array Oper)(x:GOp)(m:Oper):Bool:=
 aay P x.o m&&(x.o.dst==m.dst)&&(match x.g,m.guard with
  |none,none=>true
  |some (n,b),some (j,d)=>(b==d)&&((c[j]?).bind (·.dst)==some n)
  |_,_=>false)
def pP(P:Program)(b:Array Oper):Nat->List GOp->Bool
 |i,[]=>i==b.size
 |i,x::l=>(match b[i]? with|some m=>uj P b x m|none=>false)&&pP P b (i+1) l
def rl(P:Program)(imp:List Nat)(c:Array Oper)(l:List GOp)(b:List (List Nat)):Bool:=
 (P.follows .mixedOrders&&pP P c 0 l)&&((A2 l.length).all λj=>
  (match c[j]? with
   |some m=>m.after.toList.all (λe=> !Region.binds .any e||decide (e.on<j))&&(b.getD j []).all (λi=>m.after.toList.any λe=>BF .any e&&(e.on==i||(b.getD e.on []).contains i))
   |none=>false)&&
  (match l[j]? with
   |some x=>(A2 j).all λi=>(b.getD j []).contains i||(match l[i]? with|some y=>uf imp y x|none=>false)
   |none=>false))
def mB(P:Program)(b:Array Oper):Nat->List GOp->Bool
 |_,[]=>true
 |i,x::l=>(match b[i]? with|some m=>uj P b x m|none=>false)&&mB P b (i+1) l
def lZ(P:Program)(b:Array Oper):Nat->List (List dc×List GOp)->Bool
 |i,[]=>i==b.size
 |i,x::l=>mB P b i x.2&&lZ P b (i+x.2.length) l
def aF(P:Program)(imp:List Nat)(base:Nat):IR->Code->Bool
 | .bad,_=>true
 | .skip,.skip=>true
 | .skip,.label _=>true
 | .reg l _,.region _ b false=>pP P b 0 l
 | .reg l e,.region _ b true=>rl P imp b l e
 | .rgs l,.region _ b false=>lZ P b 0 l
 | .seq x y,.seq c d=>aF P imp base x c&&aF P imp base y d
 | .cond v x y,.cond u c d=>ay v u&&(aF P imp base x c&&aF P imp base y d)
 | .block i x,.block j c=>i==j&&aF P imp base x c
 | .loop _ n x,.loop c=>BM base n&&aF P imp base x c
 | .cut _ n x,c=>BM base n&&aF P imp base x c
 | .gh _ x,c=>aF P imp base x c
 | .ope _ x,c=>aF P imp base x c
 | .ghp _ x,c=>aF P imp base x c
 | .exit i,.exit j=>i==j
 | .ret,.ret=>true
 |_,_=>false
def oa(P:Program)(g:Gh)(w:World):Prop:=g.β=jz P∧(sM≠[]->g.I ua 0∧g.O ua=none∧ua<w.heap.size∧∃t,w.heap[ua]? =some (.cells sM.toArray t (0,0)))
structure l7(P:Program)(g:Gh)(hp:List ah)(w:World):Prop where
 base:oa P g w
 notI:∀(id:Nat) cs,hp[id]? =some (some cs)->∀j,¬g.I (g.ρ id) j
theorem l7.on{P:Program}{g₀ g:Gh}{hp₀ hp:List ah}{w₀ w:World}(h:l7 P g₀ hp₀ w₀)(f:FR g₀ hp₀ w₀ g hp w):oa P g w:=by
 refine⟨f.beta.trans h.base.1,λc=>?_⟩;obtain⟨d,i,b,t,k⟩:=h.base.2 c;have j:∀(id:Nat) cs,hp₀[id]? =some (some cs)->g₀.ρ id≠ua:=λid cs hid e=>h.notI id cs hid 0 (e▸d)
 exact⟨f.up.mono _ _ d,f.oSame _ b j i,Ax b f.size,t,(f.block _ b j i).trans k⟩
theorem oa.sub{P:Program}{g b:Gh}{w:World}(h:oa P g w)(d:b.β=g.β)(e:g.I ua 0->b.I ua 0)(f:g.O ua=none->b.O ua=none):oa P b w:=
 ⟨d.trans h.1,λc=>have k:=h.2 c;⟨e k.1,f k.2.1,k.2.2⟩⟩
def eC(P:Program)(f:FuncId)(vs:List V)(hp:List ah)(v:V)(hp':List ah):Prop:=
 ∀(w:World)(g:Gh)(b:Array Value),oa P g w->HR g hp w->vs.length=b.size->(∀x∈vs,x.bare=true)->
  (∀(i:Nat) x cv,vs[i]? =some x->b[i]? =some cv->VRel g.I g.ρ hp.length w x cv)->
  Calls P f b w λe w'=>∃cv c,e=.returned cv∧HR c hp' w'∧FR g hp w c hp' w'∧VRel c.I c.ρ hp'.length w' v cv∧ai c w' .res v cv
def bR(P:Program)(Γ:am):Prop:=∀f vs hp v hp',Γ f vs hp=some (true,v,hp')->eC P f vs hp v hp'
section
variable{w:World}{g:Gh}{s s':St}{a:Act}{P:Program}{Γ:am}{m:Oper}{next:Act->World->Prop}{Q:Exit->Act->World->Prop}
theorem uk(h:ER g s.hp.length w s.env a.tmps):∀(xs:List aj)(ys:List Operand),pZ xs ys=true->xs.length=ys.length∧
  ∀(i:Nat) v cv,(xs.map λx=>disown (x.ev s))[i]? =some v->(ys.map a.eval)[i]? =some cv->VRel g.I g.ρ s.hp.length w v cv
 | [],[],_=>⟨rfl,by simp⟩
 |x::xs,y::ys,hp=>by
  simp only[pZ,Ab] at hp;obtain⟨e,d⟩:=uk h xs ys hp.2;refine⟨by simp[e],?_⟩;intro i v cv c b;cases i with
  |zero=>simp at c b;subst c b;exact(aB hp.1 h).disown
  |succ i=>exact d i v cv (by simpa using c) (by simpa using b)
 | [],_::_,hp=>by simp[pZ] at hp
 |_::_,[],hp=>by simp[pZ] at hp
theorem zg{o:Op}{f:FuncId}{avs:List Operand}(h:aax o=some (f,avs)):∃e,o=.call ⟨.value (.func f),⟨avs⟩,e⟩:=by
 unfold aax at h;split at h
 ·rename_i c;obtain⟨b,⟨d⟩,i⟩:=c;simp only at h;split at h;·simp only[Ae,Al] at h;obtain⟨rfl,rfl⟩:=h;exact⟨_,rfl⟩
  ·simp at h
 ·simp at h
def Gh.hide(g:Gh):Gh:={g with O:=λb=>match g.O b with|some (.slot _)=>none|o=>o}
theorem HR.hide{hp:List ah}(h:HR g hp w):HR g.hide hp w:=by
 refine⟨?_,h.apart,h.notI,?_,h.exI,?_⟩
 ·intro id cs hid;refine(h.obj id cs hid).keep rfl λt e v u d=>?_
  refine⟨d.len,d.plain,d.typed,d.cold,d.one,d.rel,?_,d.bn⟩;intro j c cv q i;have:=d.own j c cv q i;refine bd this rfl (λb j p=>⟨p,rfl⟩) ?_;intro b f;exact⟨by simp[Gh.hide,f],rfl,λj r=>r⟩
 ·intro id cs hid;simp[Gh.hide,h.notO id cs hid]
 ·intro b o f;cases k:g.O b with
  |none=>simp[Gh.hide,k] at f
  |some o'=>exact h.oLt b o' k
def Gh.back(g c:Gh)(dst:Option Nat):Gh:={I:=c.I,ρ:=c.ρ,β:=c.β,O:=λb=>match g.O b with
 |some (.slot n)=>some (.slot n)
 |_=>match c.O b with
  |some .res=>dst.map .slot
  |some (.slot _)=>none
  |o=>o}
theorem Gh.back_else{g d:Gh}{dst:Option Nat}{b:Nat}(h:∀n,g.O b≠some (.slot n)):(g.back d dst).O b=(match d.O b with
  |some .res=>dst.map .slot
  |some (.slot _)=>none
  |o=>o):=by
 cases c:g.O b with
 |none=>simp only[Gh.back,c]
 |some o=>
  cases o with
  |slot n=>exact absurd c (h n)
  |cell i j=>simp only[Gh.back,c]
  |res=>simp only[Gh.back,c]
theorem wS{hp':List ah}{w':World}{t:Gh}{dst:Option Nat}{v:V}{cv:Value}(h:SR g s w a)(H:HR t hp' w')(x:FR g.hide s.hp w t hp' w')
  (q3:VRel t.I t.ρ hp'.length w' v cv) (W:ai t w' .res v cv):
  SR (g.back t dst) (St.setO {s with hp:=hp'} dst v) w' (a.put dst cv)∧FR g s.hp w (g.back t dst) hp' w':=by
 have q:∀b n,g.O b=some (.slot n)->g.hide.O b=none:=λb n f=>by simp[Gh.hide,f]
 have r:∀b n,g.O b=some (.slot n)->∀(id:Nat) cs,s.hp[id]? =some (some cs)->g.hide.ρ id≠b:=by intro b n f id cs hid e;have:=h.hr.notO id cs hid;rw[show g.ρ id=b from e,f] at this;simp at this
 have p:∀b o,t.O b=some o->∀n,g.O b≠some (.slot n):=by intro b o f n z;have:=x.oSame b (h.hr.oLt _ _ z) (r b n z) (q b n z);rw[this] at f;simp at f
 have E:∀b o,t.O b=some o->(∀n,o≠.slot n)->o≠.res->(g.back t dst).O b=some o:=by
  intro b o f J y;rw[Gh.back_else (p b o f),f];cases o with
  |slot n=>exact absurd rfl (J n)
  |cell i j=>rfl
  |res=>exact absurd rfl y
 have blk:∀b n,g.O b=some (.slot n)->w'.heap[b]? =w.heap[b]?∧∀j,t.I b j->g.I b j:=by intro b n f;have C:=h.hr.oLt _ _ f;exact⟨x.block b C (r b n f) (q b n f),λj L=>x.iSame b j C (r b n f) (q b n f) L⟩
 have up:Up g.I g.ρ s.hp.length w t.I t.ρ hp'.length w':=x.up;have hs:SR (g.back t dst) {s with hp:=hp'} w' a:=by
  refine⟨⟨?_,H.apart,H.notI,?_,H.exI,?_⟩,⟨h.er.size,?_,?_⟩⟩
  ·intro id cs hid;refine(H.obj id cs hid).keep rfl λR e fz J y=>?_
   refine⟨y.len,y.plain,y.typed,y.cold,y.one,y.rel,?_,y.bn⟩;intro j c cv hc A;refine bd (y.own j c cv hc A) rfl (λb j X=>⟨X,rfl⟩) ?_;intro b f;exact⟨E b _ f (by simp) (by simp),rfl,λj L=>L⟩
  ·intro id cs hid;have h0:=H.notO id cs hid;show (g.back t dst).O (t.ρ id)=none;by_cases B:∃n,g.O (t.ρ id)=some (.slot n)
   ·obtain⟨n,z⟩:=B;exfalso;rcases x.live id cs hid with⟨F,G⟩|⟨_,G|G|⟨al,a0,h5,h6⟩⟩
    ·have C:id<s.hp.length:=(Ad.1 G).1;rw[show t.ρ id=g.ρ id from x.up.rho id C,h.hr.notO id F G] at z;simp at z
    ·have:=h.hr.oLt _ _ z;omega
    ·exact G (q _ n z)
    ·exact r _ n z al a0 h5 h6
   ·rw[Gh.back_else (λn z=>B ⟨n,z⟩),h0]
  ·intro b o f;by_cases B:∃n,g.O b=some (.slot n);·obtain⟨n,z⟩:=B;have:=h.hr.oLt _ _ z;exact Ax this x.size
   ·rw[Gh.back_else (λn z=>B ⟨n,z⟩)] at f;cases D:t.O b with
    |none=>rw[D] at f;simp at f
    |some o'=>exact H.oLt b o' D
  ·intro n v cv Z A;exact(h.er.rel n v cv Z A).up up
  ·intro n v cv Z A;refine bd (h.er.own n v cv Z A) x.beta (λb j X=>⟨up.mono b j X,up.cell b j X⟩) ?_;intro b f;obtain⟨b1,b2⟩:=blk b n f;exact⟨by simp[Gh.back,f],b1,b2⟩
 have fr:FR g s.hp w (g.back t dst) hp' w':=by
  refine⟨x.beta,x.os,x.tape,x.output,x.size,?_,up,?_,?_,?_⟩;·intro b f M D;exact x.block b f M (by simp[Gh.hide,D])
  ·intro b j f M D L;exact x.iSame b j f M (by simp[Gh.hide,D]) L
  ·intro b f M D;have:=x.oSame b f M (by simp[Gh.hide,D]);rw[Gh.back_else (by simp[D]),this]
  ·intro id cs hid;rcases x.live id cs hid with G|⟨J,y|y|y⟩
   ·exact .inl G
   ·exact .inr ⟨J,.inl y⟩
   ·refine .inr ⟨J,.inr (.inl λh3=>y ?_)⟩;show (match g.O (t.ρ id) with|some (.slot _)=>none|o=>o)=none;rw[show g.O (t.ρ id)=none from h3]
   ·exact .inr ⟨J,.inr (.inr y)⟩
 refine⟨?_,fr⟩;cases dst with
 |none=>exact hs
 |some d=>
  refine hs.set d q3 ?_;cases v with
  |sl k o xs=>
   cases o with
   |may u=>simp[ai]
   |own=>
    cases cv with
    |slice N cx cap=>
     cases N with
     |none=>simp[ai]
     |some N=>obtain⟨S,Y,o3⟩:=W;refine⟨?_,Y,o3⟩;rw[Gh.back_else (p _ _ S),S];rfl
    |_=>simp[ai]
  |raw n=>
   cases cv with
   |pointer N=>
    cases N with
    |none=>simp[ai]
    |some N=>obtain⟨S,Y,o3⟩:=W;refine⟨?_,Y,o3⟩;rw[Gh.back_else (p _ _ S),S];rfl
   |_=>simp[ai]
  |ul k xs=>
   rcases W with W|⟨b,cap,R,e,fz,m0,m1,m2,m3,m4,m5,m6,m7,m8,m9⟩
   ·exact .inl W
   ·refine .inr ⟨b,cap,R,e,fz,m0,m1,m2,m3,?_,m5,m6,m7,m8,m9⟩;rw[Gh.back_else (p _ _ m4),m4];rfl
  |_=>simp[ai]
theorem aiP(u:bR P Γ)(t:oa P g w){d:Option Nat}{f:Nat}{avs:List aj}(j:rk P (.call d f avs) m=true)(q:step Γ (.call d f avs) s=some (true,s'))(h:SR g s w a)(Z:bI g s w a s' next):m.wp P a w next Q:=by
 obtain⟨dst,op,ty,pos,B,N⟩:=m;simp only[rk,Ab,beq_iff_eq] at j;obtain⟨rfl,j⟩:=j;split at j
 ·rename_i f' b D;obtain⟨M,rfl⟩:=zg D;simp only[Ab,beq_iff_eq] at j;obtain⟨rfl,S,p⟩:=j;simp only[step] at q;split at q
  ·rename_i c v hp' X;simp only[Ae,Al] at q;obtain⟨rfl,rfl⟩:=q;obtain⟨J,O⟩:=uk h.er avs b S;have z:=u _ _ _ _ _ X;unfold lB at p;split at p
   ·rename_i fn r;simp only[Ab,bne_iff_ne,ne_eq] at p;obtain⟨F,R⟩:=p;have k:fn.body.isNone=false:=by cases hb:fn.body<;>simp_all
    have o:(execOp a.eval ⟨dst,.call ⟨.value (.func f),⟨b⟩,M⟩,ty,pos,B,N⟩).run P w=.ok (.enter f (b.map a.eval).toArray) w:=by simp[execOp,resolve,Act.eval,CW,invoke,callFunc,r,R,k];intro E;rw[E] at F;simp at F
    unfold Cw;rw[o,Oper.upon_enter];refine(z w g.hide (b.map a.eval).toArray (t.sub rfl (λh=>h) (λh=>by simp[Gh.hide,h])) h.hr.hide (by simp[J]) (by intro x A;obtain⟨y,_,rfl⟩:=AA.1 A;exact cA _) (λi x cv A C=>O i x cv A (by simpa using C))).mono ?_;rintro e w' ⟨cv,g',rfl,H,L,G,Y⟩;simp only;obtain⟨I,W⟩:=wS (dst:=dst) h H L G Y;refine Z _ _ _ I ?_ (by cases dst<;>rfl);cases dst<;>exact W
   ·simp at p
  ·simp at q
 ·simp at j
theorem aeE{o:Op}{x:Operand}{avs:List Operand}(h:adp o=some (x,avs)):∃e,o=.call ⟨.value x,⟨avs⟩,e⟩:=by
 unfold adp at h;split at h
 ·rename_i c;obtain⟨b,⟨d⟩,f⟩:=c;simp only at h;split at h;·simp only[Ae,Al] at h;obtain⟨rfl,rfl⟩:=h;exact⟨_,rfl⟩
  ·simp at h
 ·simp at h
theorem ahR(C:bR P Γ)(B:oa P g w){d:Option Nat}{f:Nat}{x:aj}{avs:List aj}(o:rk P (.dcall d f x avs) m=true)(p:step Γ (.dcall d f x avs) s=some (true,s'))(h:SR g s w a)(hn:bI g s w a s' next):m.wp P a w next Q:=by
 obtain⟨dst,op,ty,pos,F,Z⟩:=m;simp only[rk,Ab,beq_iff_eq] at o;obtain⟨rfl,o⟩:=o;split at o
 ·rename_i M j G;obtain⟨Y,rfl⟩:=aeE G;simp only[Ab,beq_iff_eq] at o;obtain⟨R,h1,z⟩:=o;have H:=aB R h.er;simp only[step] at p;split at p
  ·rename_i f' hJ k;rw[k] at H;split at p
   ·rename_i c v hp' hg;simp only[Ae,Al,Ab] at p;obtain⟨⟨E,rfl⟩,rfl⟩:=p;obtain rfl:=As E;generalize b:a.eval M=a4 at H;cases H with
    |fn _ _ vs hl hv=>
    obtain⟨J,k2⟩:=uk h.er avs j h1;have D:=C _ _ _ _ _ hg;unfold lB at z;split at z
    ·rename_i fn A;simp only[Ab,bne_iff_ne,ne_eq] at z;obtain⟨L,h4⟩:=z;have q:fn.body.isNone=false:=by cases hb:fn.body<;>simp_all
     have t:(execOp a.eval ⟨dst,.call ⟨.value M,⟨j⟩,Y⟩,ty,pos,F,Z⟩).run P w=.ok (.enter f' ((j.map a.eval).toArray++vs)) w:=by simp[execOp,resolve,b,CW,invoke,callFunc,A,h4,q];intro I;rw[I] at L;simp at L
     unfold Cw;rw[t,Oper.upon_enter];refine(D w g.hide ((j.map a.eval).toArray++vs) (B.sub rfl (λh=>h) (λh=>by simp[Gh.hide,h])) h.hr.hide (by simp[J,hl]) (by
      intro x k;rcases Ay.1 k with k|k;·obtain⟨y,_,rfl⟩:=AA.1 k;exact cA _
      ·obtain⟨y,_,rfl⟩:=AA.1 k;exact cA _) (λi x cv k b=>by
       have r:(avs.map λy=>disown (y.ev s)).length=(j.map a.eval).length:=by simp[J]
       rcases AE i (j.map a.eval).length with u|u;·rw[Ap (by rw[r];exact u)] at k;rw[BU (by simpa using u)] at b;exact k2 i x cv k (by simpa using b)
       ·rw[An (by rw[r];exact u),Au,Ak] at k;obtain⟨y,X,rfl⟩:=k;rw[Array.getElem?_append_right (by simpa using u)] at b;refine(hv _ y cv X ?_).disown;rw[r];simpa using b)).mono ?_
     rintro e w' ⟨cv,g',rfl,O,W,N,q4⟩;simp only;obtain⟨S,r2⟩:=wS (dst:=dst) h O W N q4;refine hn _ _ _ S ?_ (by cases dst<;>rfl);cases dst<;>exact r2
    ·simp at z
   ·simp at p
  ·simp at p
 ·simp at o
theorem zP(j:bR P Γ)(f:oa P g w){o:IOp}(b:aay P o m=true)(c:step Γ o s=some (true,s'))(h:SR g s w a)(e:bI g s w a s' next):m.wp P a w next Q:=by
 unfold aay at b;simp only[Be] at b;rcases b with(((((((((b|b)|b)|b)|b)|b)|b)|b)|b)|b)|b
 ·cases o with
  |pick=>exact aiE b c h e
  |bin=>exact ai3 b c h e
  |un=>exact ajE b c h e
  |cvi=>exact ai1 b c h e
  |b2s=>exact ai2 b c h e
  |lenl=>exact aiF b c h e
  |ixa=>exact ai4 b c h e
  |subs=>exact aiG b c h e
  |subl=>exact aiH b c h e
  |fad=>exact ai5 b c h e
  |ext=>exact ai6 b c h e
  |nck=>exact ai7 b c h e
  |mx=>exact ajF b c h e
  |beq=>exact ai8 b c h e
  |snil=>exact aiI b c h e
  |ld d n agg i x=>
   cases i with
   |false=>exact afO b c h e
   |true=>simp[aM] at b
  |_=>simp[aM] at b
 ·cases o with
  |mov=>exact ai9 b c h e
  |bsl=>exact aja f.1 b c h e
  |app=>exact ajb f.1 b c h e
  |_=>simp[pW] at b
 ·cases o with
  |call=>exact aiP j f b c h e
  |dcall=>exact ahR j f b c h e
  |_=>simp[rk] at b
 ·cases o with
  |new=>exact ajc b c h e
  |box=>exact ajd b c h e
  |st=>exact ajG b c h e
  |ld d n agg i x=>
   cases i with
   |true=>exact agR b c h e
   |false=>simp[jE] at b
  |bld=>exact aje b c h e
  |_=>simp[jE] at b
 ·cases o with
  |_=>simp[afh] at b
 ·cases o with
  |_=>simp[afk] at b
 ·cases o with
  |boxe=>exact aiJ b c h e
  |alr=>exact ajg b c h e
  |frz=>exact ajh b c h e
  |lde=>exact ajf b c h e
  |mkf=>exact aji b c h e
  |_=>simp[n9] at b
 ·cases o with
  |apu=>exact agU f.1 b c h e
  |slw=>exact ajp b c h e
  |apx=>exact ajq b c h e
  |blu=>exact ajk f.1 b c h e
  |lnw=>exact ajl b c h e
  |ixw=>exact ajm b c h e
  |fdw=>exact ajn b c h e
  |ldw=>exact ajo b c h e
  |stw=>exact ajr b c h e
  |_=>simp[iQ] at b
 ·cases o with
  |mkm=>exact ajt b c h e
  |mget=>exact aiN b c h e
  |mput=>exact aiO b c h e
  |_=>simp[pY] at b
 ·cases o with
  |apo=>exact aju f.1 b c h e
  |_=>simp[ahQ] at b
 ·cases o with
  |_=>simp[ajs] at b
structure Inv(g₀:Gh)(hp₀:List ah)(w₀:World)(df:List Deferred)(g:Gh)(s:St)(w:World)(a:Act):Prop where
 sr:SR g s w a
 fr:FR g₀ hp₀ w₀ g s.hp w
 df:a.defers=df
theorem SR.renew(h:SR g s w a)(n:Nat)(b:Bool)(c:s.get n=.bool b):SR g (s.set n (.bool b)) w a:=by have:=h.bare n;rw[c] at this;exact this
theorem ace(h:SR g s w a){o:Oper}{c:Array Oper}{j n:Nat}{b i:Bool}(q:(c[j]?).bind (·.dst)=some n)(p:o.guard=some (j,i))(f:s.get n=.bool b):
  BO o (yielded c a.tmps)=(b==i):=by
 have t:n<s.env.length:=by
  rcases AE n s.env.length with e|e;·exact e
  ·simp[St.get,Aq,AU e] at f
 have d:n<a.tmps.size:=by rw[<-h.er.size];exact t
 have r:=h.er.get n;rw[f] at r;have k:a.tmps[n]? =some (a.tmps.getD n undef):=by simp[A3,d,Am d]
 generalize a.tmps.getD n undef=cv at r k;cases r;simp[BO,p,yielded,q,k]
theorem acf(h:SR g s w a){o:Oper}{b:Array Oper}{j n:Nat}{k:Bool}(p:(b[j]?).bind (·.dst)=some n)(i:o.guard=some (j,k))(e:s.get n=.tup []):
  BO o (yielded b a.tmps)=false:=by
 have q:n<s.env.length:=by
  rcases AE n s.env.length with d|d;·exact d
  ·simp[St.get,Aq,AU d] at e
 have c:n<a.tmps.size:=by rw[<-h.er.size];exact q
 have r:=h.er.get n;rw[e] at r;have f:a.tmps[n]? =some (a.tmps.getD n undef):=by simp[A3,c,Am c]
 generalize a.tmps.getD n undef=cv at r f;cases r;simp[BO,i,yielded,p,f]
theorem wT(h:SR g s w a)(d:Option Nat):SR g (s.setO d (.tup [])) w (a.put d undef):=by
 cases d with
 |none=>exact h
 |some d=>exact h.set d (.tup [] #[] rfl (by simp)) (by simp[ai])
theorem abw(s:St)(d:Option Nat)(v:V):(s.setO d v).hp=s.hp:=by cases d<;>rfl
theorem adq(a:Act)(d:Option Nat)(v:Value):(a.put d v).defers=a.defers:=by cases d<;>rfl
theorem rA{R:Type}{c:Bool}{x:Option R}{r:R}(h:chk c x=some r):c=true∧x=some r:=by
 cases c with
 |true=>exact⟨rfl,h⟩
 |false=>simp[chk] at h
theorem rB(A:bR P Γ){g₀:Gh}{hp₀:List ah}{w₀:World}(z:l7 P g₀ hp₀ w₀){R:Type}{K:St->Option R}{r:R}{k:Array Oper}{df:List Deferred}{Q:Exit->Act->World->Prop}
  (G:∀s g w a,K s=some r->Inv g₀ hp₀ w₀ df g s w a->Q .normal a w):∀(l:List GOp)(i:Nat),pP P k i l=true->∀(s:St)(g:Gh)(w:World)(a:Act),
   bk Γ l K s=some r->Inv g₀ hp₀ w₀ df g s w a->wpOps P k Q (A6 i (k.size-i)) a w
 | [],i,x,s,g,w,a,f,h=>by simp only[pP,beq_iff_eq] at x;subst x;simp only[Cx,List.range'_zero,wpOps];exact G s g w a f h
 |⟨W,o,Y⟩::l,i,x,s,g,w,a,f,h=>by
  simp only[pP,Ab] at x;obtain⟨x,M⟩:=x;split at x
  ·rename_i m L;have hi:i<k.size:=by
    rcases AE i k.size with E|E;·exact E
    ·simp[CT E] at L
   rw[show k.size-i=(k.size-(i+1))+1 by omega,B6];simp only[uj,Ab,beq_iff_eq] at x;obtain⟨⟨E,S⟩,y⟩:=x;have v:∀e,SR g e w a->e.hp=s.hp->∀c s',eZ Γ Y o e=some (c,s')->chk c (bk Γ l K s')=some r->m.wp P a w (wpOps P k Q (A6 (i+1) (k.size-(i+1)))) Q:=by intro e d B c s' u C;obtain⟨rfl,C⟩:=rA C;refine zP A (z.on h.fr) E (iV u) d ?_;intro N w' O H J X;refine rB A z G l (i+1) M s' O w' N C ⟨H,?_,X.trans h.df⟩;rw[B] at J;exact h.fr.trans J
   have skip:∀e,SR g e w a->e.hp=s.hp->bk Γ l K (e.setO o.dst (.tup []))=some r->wpOps P k Q (A6 (i+1) (k.size-(i+1))) (a.put m.dst undef) w:=by intro e d B D;rw[S] at D;refine rB A z G l (i+1) M _ g w _ D ⟨wT d _,?_,(adq _ _ _).trans h.df⟩;rw[abw,B];exact h.fr
   simp only[wpOps,L];match W,y,f with
   |none,y,f=>
    cases q:m.guard with
    |some p=>rw[q] at y;simp at y
    |none=>
    rw[if_pos (by simp[BO,q])];left;simp only[bk] at f;split at f;·rename_i c s' u;exact v s h.sr rfl c s' u f
    ·simp at f
   |some (n,b),y,f=>
    cases q:m.guard with
    |none=>rw[q] at y;simp at y
    |some p=>
    obtain⟨j,Z⟩:=p;rw[q] at y;simp only[Ab,beq_iff_eq] at y;obtain⟨rfl,I⟩:=y;simp only[bk] at f;split at f
    ·rename_i t F;rw[ace h.sr I q F];have d:=h.sr.renew n t F;cases t with
     |true=>
      simp only[cond_true] at f;cases b with
      |true=>
       simp only at f;rw[if_pos (by rfl)];left;split at f;·rename_i c s' u;exact v _ d rfl c s' u f
       ·simp at f
      |false=>rw[if_neg (by simp)];exact skip _ d rfl f
     |false=>
      simp only[cond_false] at f;cases b with
      |false=>
       simp only at f;rw[if_pos (by rfl)];left;split at f;·rename_i c s' u;exact v _ d rfl c s' u f
       ·simp at f
      |true=>rw[if_neg (by simp)];exact skip _ d rfl f
    ·rename_i F;rw[acf h.sr I q F,if_neg (by simp)];exact skip _ h.sr rfl f
    ·simp at f
  ·simp at x
theorem wU{b:Array Oper}:∀(l:List GOp)(i:Nat),pP P b i l=true->b.size=i+l.length∧∀(k:Nat) x,l[k]? =some x->∃m,b[i+k]? =some m∧uj P b x m=true
 | [],i,h=>by simp only[pP,beq_iff_eq] at h;exact⟨by simp[h],by simp⟩
 |x::l,i,h=>by
  simp only[pP,Ab] at h;obtain⟨d,p⟩:=h;obtain⟨o,f⟩:=wU l (i+1) p;refine⟨by simp[o];omega,?_⟩;intro k y c;cases k with
  |zero=>
   simp at c;subst c;split at d;·rename_i m e;exact⟨m,e,d⟩
   ·simp at d
  |succ k=>obtain⟨m,e,j⟩:=f k y (by simpa using c);exact⟨m,by rw[<-e];congr 1;omega,j⟩
theorem wV(B:bR P Γ){g₀:Gh}{hp₀:List ah}{w₀:World}(A:l7 P g₀ hp₀ w₀){q:Array Oper}{i:Nat}{m:Oper}{x:GOp}(M:q[i]? =some m)(I:uj P q x m=true){df:List Deferred}{Q:Exit->Act->World->Prop}{K:Act->World->Prop}
  (e:bW Γ x s=some s') (h:Inv g₀ hp₀ w₀ df g s w a) (E:∀z w' y,Inv g₀ hp₀ w₀ df z s' w' y->K y w'):wpOp P q Q i K a w:=by
 obtain⟨N,o,S⟩:=x;simp only[uj,Ab,beq_iff_eq] at I;obtain⟨⟨R,J⟩,f⟩:=I;have k:(match eZ Γ S o s with|some (c,s')=>chk c (some s')|none=>none)=some s'->m.wp P a w K Q:=by
  intro r;split at r
  ·rename_i c u v;obtain⟨rfl,F⟩:=rA r;obtain rfl:u=s':=by simpa using F
   refine zP B (A.on h.fr) R (iV v) h.sr ?_;intro y w' z G L O;exact E z w' y ⟨G,h.fr.trans L,O.trans h.df⟩
  ·simp at r
 unfold wpOp;simp only[M];match N,f,e with
 |none,f,e=>
  cases d:m.guard with
  |some p=>rw[d] at f;simp at f
  |none=>
  rw[if_pos (by simp[BO,d])];exact .inl (k e)
 |some (n,b),f,e=>
  cases d:m.guard with
  |none=>rw[d] at f;simp at f
  |some p=>
  obtain⟨j,W⟩:=p;rw[d] at f;simp only[Ab,beq_iff_eq] at f;obtain⟨rfl,H⟩:=f;simp only[bW] at e;split at e
  ·rename_i t C;rw[ace h.sr H d C];split at e;·rename_i D;rw[if_pos D];exact .inl (k e)
   ·rename_i D;rw[if_neg (by simp[D])];obtain rfl:_=s':=by simpa using e
    rw[<-J];exact E g w _ ⟨wT h.sr _,by rw[abw];exact h.fr,(adq _ _ _).trans h.df⟩
  ·rename_i C;rw[acf h.sr H d C,if_neg (by simp)];obtain rfl:_=s':=by simpa using e
   rw[<-J];exact E g w _ ⟨wT h.sr _,by rw[abw];exact h.fr,(adq _ _ _).trans h.df⟩
  ·simp at e
theorem ag7(b2:bR P Γ){g₀:Gh}{hp₀:List ah}{w₀:World}(bY:l7 P g₀ hp₀ w₀){imp:List Nat}(hP:cd Γ imp){R:Type}{K:St->Option R}{r:R}{q:Array Oper}{l:List GOp}{D:List (List Nat)}(hc:rl P imp q l D=true){df:List Deferred}{Q:Exit->Act->World->Prop}
  (hQ:∀s g w a,K s=some r->Inv g₀ hp₀ w₀ df g s w a->Q .normal a w):∀(k:Nat)(f:List Nat)(b:Array Bool)(s:St)(g:Gh)(w:World)(a:Act),
   f.length=k->f.Pairwise (·<·)->(∀i,i∈f↔i<l.length∧b.getD i true=false)->b.size=l.length->(∀j,j<l.length->j ∉ f->∀i∈D.getD j [],i ∉ f)->
   bk Γ (f.filterMap λi=>l[i]?) K s=some r->Inv g₀ hp₀ w₀ df g s w a->wpAny P .any q Q k b a w:=by
 simp only[rl,Ab] at hc;obtain⟨⟨-,b0⟩,bn⟩:=hc;obtain⟨J,W⟩:=wU l 0 b0;simp only[AW] at J W
 have hj:∀j,j<l.length->∃m x,q[j]? =some m∧l[j]? =some x∧uj P q x m=true∧(∀e∈m.after,BF .any e=true->e.on<j)∧
   (∀i∈D.getD j [],∃e∈m.after,BF .any e=true∧(e.on=i∨i∈D.getD e.on []))∧(∀i,i<j->i∈D.getD j []∨∃y,l[i]? =some y∧uf imp y x=true):=by
  intro j F;have h0:=Ai.1 bn j (Bd.2 F);simp only[Ab] at h0;obtain⟨c,t⟩:=h0;have hx:l[j]? =some l[j]:=Ac F;obtain⟨m,I,O⟩:=W j _ hx;rw[I] at c;rw[hx] at t;simp only[Ab] at c;refine⟨m,l[j],I,hx,O,?_,?_,?_⟩;·intro e L C;have:=Ai.1 c.1 e (by simpa using L);simpa [C] using this
  ·intro i hi;have:=Ai.1 c.2 i hi;obtain⟨e,L,C⟩:=B8.1 this;simp only[Ab,Be,beq_iff_eq,BS] at C;exact⟨e,by simpa using L,C.1,C.2⟩
  ·intro i hi;have:=Ai.1 t i (Bd.2 hi);simp only[Be,BS] at this;rcases this with Z|Z;·exact .inl Z
   ·right;split at Z;·rename_i y hy;exact⟨y,hy,Z⟩
    ·simp at Z
 have u:∀(f:List Nat)(b:Array Bool),(∀i,i∈f↔i<l.length∧b.getD i true=false)->b.size=l.length->∀j m,q[j]? =some m->(j∈CH .any q b↔j∈f∧∀e∈m.after,BF .any e=true->e.on<l.length∧e.on ∉ f):=by
  intro f b d z j m I;have F:j<l.length:=by rw[<-J];exact(AK.1 I).1
  have key:∀i,b.getD i false=true↔i<l.length∧i ∉ f:=by
   intro i;rw[d i];rcases AE i b.size with c|c
   ·have t:i<l.length:=by omega
    simp[A3,c,t]
   ·have t:¬i<l.length:=by omega
    have Z:¬i<b.size:=by omega
    simp[A3,Z,t]
  rw[mem_ready,d j];constructor;·rintro⟨c,o,S,t⟩;rw[I] at S;cases S;exact⟨⟨F,c⟩,λe L C=>(key _).1 (t e L C)⟩
  ·rintro⟨⟨_,c⟩,t⟩;exact⟨c,m,I,λe L C=>(key _).2 (t e L C)⟩
 intro k;induction k with
 |zero=>intro f b s g w a v H d z G hr h;have:f=[]:=A1 v;subst this;simp only[wpAny];refine⟨?_,hQ s g w a hr h⟩;rw[C4];intro j E;have:=mem_ready.1 E;obtain⟨hu,o,S,_⟩:=this;exact absurd ((u [] b d z j o S).1 E).1 (by simp)
 |succ k ih=>
  intro f b s g w a v H d z G hr h;simp only[wpAny];refine⟨?_,?_⟩
  ·intro b6;exfalso;cases f with
   |nil=>simp at v
   |cons j f=>
    have X:=((d j).1 (AN ..)).1;obtain⟨m,x,I,hx,O,L,hp,hi⟩:=hj j X;have:j∈CH .any q b:=by
     refine(u _ b d z j m I).2 ⟨AN ..,λe ar C=>?_⟩;have F:=L e ar C;refine⟨by omega,?_⟩;intro p;rcases AL.1 p with c|c;·omega
     ·have:=(CK.1 H).1 _ c;omega
    rw[b6] at this;simp at this
  ·intro j E;obtain⟨hu,o,S,_⟩:=mem_ready.1 E;obtain⟨a3,al⟩:=(u f b d z j o S).1 E;have X:=((d j).1 a3).1;obtain⟨m,x,I,hx,O,L,hp,hi⟩:=hj j X;rw[I] at S;cases S;have bl:∀i∈D.getD j [],i ∉ f:=by
    intro i M;obtain⟨e,ar,C,ad⟩:=hp i M;obtain⟨d1,d2⟩:=al e ar C;rcases ad with rfl|ad;·exact d2
    ·exact G _ d1 d2 i ad
   obtain⟨A,B,rfl⟩:=List.append_of_mem a3;have hA:∀i∈A,i<j:=by intro i N;exact(CA.1 H).2.2 i N j (AN ..)
   have hB:∀i∈B,j<i:=by intro i ci;exact(CK.1 (CA.1 H).2.1).1 i ci
   rw[Ct,CL hx] at hr;obtain⟨s',hg,a2⟩:=afW hP _ s (by
    intro y hy;obtain⟨i,N,b3⟩:=List.mem_filterMap.1 hy;rcases hi i (hA i N) with c|⟨y',c,t⟩
    ·exact absurd (AT _ N) (bl i c)
    ·rw[b3] at c;cases c;exact t) hr
   rw[<-Ct] at a2;refine wV b2 bY I O hg h ?_;intro g' w' a' a9;have p:∀i,i∈A++B↔i∈A++j::B∧i≠j:=by
    intro i;simp only[Ay,AL];constructor
    ·rintro(c|c);·exact⟨.inl c,by have:=hA i c;omega⟩
     ·exact⟨.inr (.inr c),by have:=hB i c;omega⟩
    ·rintro⟨c|c|c,t⟩;·exact .inl c
     ·exact absurd c t
     ·exact .inr c
   refine ih (A++B) (b.setIfInBounds j true) s' g' w' a' ?_ ?_ ?_ (by simp[z]) ?_ a2 a9;·simp only[AG,AD] at v ⊢;omega
   ·exact H.sublist (Dy (List.sublist_cons_self ..) _)
   ·intro i;rw[p,d];by_cases Y:i=j
    ·subst Y;have bx:i<b.size:=by omega
     simp[A3,bx]
    ·rw[getD_set_ne true (λe=>Y e.symm)];simp[Y]
   ·intro j' b1 a4 i M cc;obtain⟨c,t⟩:=(p i).1 cc;by_cases a5:j'=j;·subst a5;exact bl i M c
    ·exact G j' b1 (λb5=>a4 ((p j').2 ⟨b5,a5⟩)) i M c
theorem od{α:Type}:∀(l:List α),((A2 l.length).filterMap λi=>l[i]?)=l
 | []=>rfl
 |x::l=>by rw[AD,List.range_succ_eq_map,CL (b:=x) (by simp),List.filterMap_map];have:=od l;simp only[Du,Nat.succ_eq_add_one,AR];rw[this]
theorem Inv.drew{g₀:Gh}{hp₀:List ah}{w₀:World}{df:List Deferred}(h:Inv g₀ hp₀ w₀ df g s w a):Inv g₀ hp₀ w₀ df g s w.drew a:=by
 have u:Up g.I g.ρ s.hp.length w g.I g.ρ s.hp.length w.drew:=⟨λ_ _ h=>h,λ_ _ _=>rfl,λ_ _=>rfl,Aj _⟩
 refine⟨⟨h.sr.hr.drew,⟨h.sr.er.size,λn v cv c d=>(h.sr.er.rel n v cv c d).up u,λn v cv c d=>bd (h.sr.er.own n v cv c d) rfl (λb j f=>⟨f,rfl⟩) (λb e=>⟨e,rfl,λj i=>i⟩)⟩⟩,?_,h.df⟩;exact⟨h.fr.beta,h.fr.os,h.fr.tape,h.fr.output,h.fr.size,h.fr.block,h.fr.up.trans u,h.fr.iSame,h.fr.oSame,h.fr.live⟩
theorem af2(k:bR P Γ){g₀:Gh}{hp₀:List ah}{w₀:World}(f:l7 P g₀ hp₀ w₀){imp:List Nat}(q:cd Γ imp){R:Type}{K:St->Option R}{r:R}{id:Nat}{b:Array Oper}{l:List GOp}{o:List (List Nat)}(p:rl P imp b l o=true){df:List Deferred}{Q:Exit->Act->World->Prop}
  (x:∀s g w a,K s=some r->Inv g₀ hp₀ w₀ df g s w a->Q .normal a w) (u:bk Γ l K s=some r) (h:Inv g₀ hp₀ w₀ df g s w a):(Code.region id b true).wp P Q a w:=by
 have d:=p;simp only[rl,Ab] at d;have c:b.size=l.length:=by simpa using (wU l 0 d.1.2).1
 refine wp_region_any d.1.1 ?_;rw[c];refine ag7 k f q p x l.length (A2 l.length) _ s g _ a (by simp) List.pairwise_lt_range ?_ (by simp) ?_ (by rw[od];exact u) h.drew;·intro i;by_cases t:i<l.length<;>simp[A3,t]
 ·intro j v e;exact absurd (Bd.2 v) e
theorem lC(c:List Nat)(m:Nat):∀(b:List V)(i n:Nat)(v:V),(lv c m i b)[n]? =some v->v=.undef∨(v.lower m=true∧b[n]? =some v)
 | [],i,n,v,h=>by simp[lv] at h
 |x::b,i,n,v,h=>by
  simp only[lv] at h;cases n with
  |zero=>
   simp only[AZ,Ae] at h;split at h;·rename_i d;simp only[Ab] at d;right;subst h;exact⟨d.2,by simp⟩
   ·left;exact h.symm
  |succ n=>simp only[AR] at h ⊢;exact lC c m b (i+1) n v h
theorem oe(c:List Nat)(m:Nat):∀(b:List V)(i:Nat),(lv c m i b).length=b.length
 | [],i=>rfl
 |x::b,i=>by simp[lv,oe c m b (i+1)]
theorem kh{n:Nat}:∀{cs:List V},V.lowers n cs=true->∀(i:Nat) c,cs[i]? =some c->c.lower n=true
 | [],_,i,c,b=>by simp at b
 |x::cs,h,i,c,b=>by
  simp only[V.lowers,Ab] at h;cases i with
  |zero=>simp at b;subst b;exact h.1
  |succ i=>exact kh h.2 i c (by simpa using b)
theorem aeF{n:Nat}{cs:List V}(h:V.lowers n cs=true)(j:Nat)(c:V)(b:(cellsOf cs)[j]? =some c):c.lower n=true:=by
 cases d:b7 cs with
 |false=>rw[c7 d] at b;exact kh h j c b
 |true=>
  unfold b7 at d;split at d;·simp only[cellsOf,Au,Ak] at b;obtain⟨_,_,rfl⟩:=b;rfl
  ·simp[V.lowers,V.lower] at h
  ·unfold cellsOf at b;split at b;·rename_i e;cases e
   ·rename_i e;cases e
   ·rename_i e;cases e;simp[V.lowers,V.lower] at h
   ·exact kh h j c b
  ·cases d
theorem aeG{v:V}{n:Nat}(h:v.flat1=true):v.lower n=true:=by unfold V.flat1 at h;split at h<;>first|rfl|cases h
theorem VRel.fewer{I:Nat->Nat->Prop}{ρ:Nat->Nat}{N n:Nat}{v:V}{cv:Value}(h:VRel I ρ N w v cv)(u:v.lower n=true)(O:n<=N):VRel I ρ n w v cv:=by
 induction h with
 |undef cv=>exact .undef cv
 |bool b=>exact .bool b
 |int k n h=>exact .int k n h
 |str l s t h=>exact .str l s t h
 |sln k o=>exact .sln k o
 |sle k o z L=>exact .sle k o z L
 |sl k o xs b e F cap t d q J f G C B y=>refine .sl k o xs b e F cap t d q J f G C (λi x j v A H=>y i x j v A H ?_);exact aeG (tY k x v (Af H))
 |agg cs vs t A D B y=>exact .agg cs vs t A D (λi c cv d r=>y i c cv d r (kh (by simpa [V.lower] using u) i c d))
 |tup cs vs t B y=>exact .tup cs vs t (λi c cv d r=>y i c cv d r (kh (by simpa [V.lower] using u) i c d))
 |ea cs b e f A G C B y=>exact .ea cs b e f A G C (λj c d=>y j c d (kh (by simpa [V.lower] using u) j c d))
 |ptr id e h=>exact .ptr id e (by simpa [V.lower,B0] using u)
 |nilp=>exact .nilp
 |fn f cs vs t B y=>exact .fn f cs vs t (λi c cv d r=>y i c cv d r (kh (by simpa [V.lower] using u) i c d))
 |nilif=>exact .nilif
 |bn E n p=>exact .bn E n p
 |junk cv h=>exact .junk cv h
 |so id m cap h d q=>exact .so id m cap (by simpa [V.lower,B0] using u) d q
 |raw n b=>exact .raw n b
 |ul k xs z cap q=>exact .ul k xs z cap q
 |hd n z cap q=>exact .hd n z cap q
 |sw k id m h d q=>exact .sw k id m (by simpa [V.lower,B0] using u) d q
 |sx k id e m z cap h d q t M=>exact .sx k id e m z cap (by simpa [V.lower,B0] using u) d q t M
 |wp id k i o h=>exact .wp id k i o (by simpa [V.lower,B0] using u)
 |mr id h=>exact .mr id (by simpa [V.lower,B0] using u)
 |nilm=>exact .nilm
theorem qv{n:Nat}:∀{hp:List ah},j8 n hp=true->∀(id:Nat) cs,hp[id]? =some (some cs)->V.lowers n cs=true
 | [],_,id,cs,h=>by simp at h
 |none::hp,b,id,cs,h=>by
  cases id with
  |zero=>simp at h
  |succ id=>exact qv (hp:=hp) (by simpa [j8] using b) id cs (by simpa using h)
 |some x::hp,b,id,cs,h=>by
  simp only[j8,Ab] at b;cases id with
  |zero=>simp at h;subst h;exact b.1
  |succ id=>exact qv b.2 id cs (by simpa using h)
theorem SR.keepEnv(h:SR g s w a)(b:List Nat)(n:Nat):SR g {s with env:=lv b n 0 s.env} w a:=by
 refine⟨h.hr,⟨by simp[oe,h.er.size],?_,?_⟩⟩
 ·intro m v cv d c;rcases lC b n s.env 0 m v d with rfl|⟨_,d⟩
  ·exact .undef _
  ·exact h.er.rel m v cv d c
 ·intro m v cv d c;rcases lC b n s.env 0 m v d with rfl|⟨_,d⟩
  ·simp[ai]
  ·exact h.er.own m v cv d c
theorem afm(s:St)(b:List Nat)(n:Nat):(s.keep b n).hp=s.hp∨n<s.hp.length∧(s.keep b n).hp=s.hp.take n:=by
 unfold St.keep;cases e:j8 n (s.hp.take n) with
 |false=>exact .inl rfl
 |true=>
  rcases AE n s.hp.length with d|c;·exact .inr ⟨d,rfl⟩
  ·exact .inl (Cp c)
theorem adr{s:St}{b:List Nat}{n id:Nat}{cs:List V}(h:(s.keep b n).hp[id]? =some (some cs)):s.hp[id]? =some (some cs):=by
 rcases afm s b n with e|⟨_,e⟩
 ·rwa [e] at h
 ·rw[e,AJ] at h;split at h;·exact h
  ·simp at h
theorem ads{s:St}{b:List Nat}{n m:Nat}(d:m<=n)(f:m<=s.hp.length):m<=(s.keep b n).hp.length:=by
 rcases afm s b n with e|⟨c,e⟩
 ·rwa [e]
 ·rw[e];simp;omega
theorem SR.keeps(h:SR g s w a)(b:List Nat)(n:Nat):SR g (s.keep b n) w a:=by
 unfold St.keep;cases u:j8 n (s.hp.take n) with
 |false=>exact h.keepEnv b n
 |true=>
  simp only[cond_true];rcases AE n s.hp.length with D|r
  ·have o:(s.hp.take n).length=n:=by simp;omega
   have f:∀(id:Nat) cs,(s.hp.take n)[id]? =some (some cs)->s.hp[id]? =some (some cs):=by
    intro id cs hid;rw[AJ] at hid;split at hid;·exact hid
    ·simp at hid
   have B:=qv u;refine⟨⟨?_,?_,?_,?_,h.hr.exI,h.hr.oLt⟩,⟨by simp[oe,h.er.size],?_,?_⟩⟩
   ·intro id cs hid;refine(h.hr.obj id cs (f id cs hid)).keep rfl λE e F C i=>?_
    refine⟨i.len,i.plain,?_,i.cold,i.one,?_,i.own,i.bn⟩
    ·intro k xs q;have:=B id _ hid;unfold yz at q;split at q;·simp[V.lowers,V.lower] at this
     ·simp[V.lowers,V.lower] at this
     ·cases q
    intro j c cv A d;rw[o];exact(i.rel j c cv A d).fewer (aeF (B id cs hid) j c A) (by omega)
   ·intro id t cs y C i z;exact h.hr.apart id t cs y (f _ _ C) (f _ _ i) z
   ·intro id cs hid;exact h.hr.notI id cs (f _ _ hid)
   ·intro id cs hid;exact h.hr.notO id cs (f _ _ hid)
   ·intro m v cv p d;rw[o];rcases lC b n s.env 0 m v p with rfl|⟨x,p⟩
    ·exact .undef _
    ·exact(h.er.rel m v cv p d).fewer x (by omega)
   ·intro m v cv p d;rcases lC b n s.env 0 m v p with rfl|⟨_,p⟩
    ·simp[ai]
    ·exact h.er.own m v cv p d
  ·rw[Cp r];exact h.keepEnv b n
theorem Inv.keeps{g₀:Gh}{hp₀:List ah}{w₀:World}{df:List Deferred}(h:Inv g₀ hp₀ w₀ df g s w a)(b:List Nat){n:Nat}(c:hp₀.length<=n):Inv g₀ hp₀ w₀ df g (s.keep b n) w a:=
 ⟨h.sr.keeps b n,⟨h.fr.beta,h.fr.os,h.fr.tape,h.fr.output,h.fr.size,h.fr.block,⟨h.fr.up.mono,h.fr.up.cell,h.fr.up.rho,ads c h.fr.up.num⟩,h.fr.iSame,h.fr.oSame,λid cs hid=>h.fr.live id cs (adr hid)⟩,h.df⟩
theorem p5(e:bR P Γ){g₀:Gh}{hp₀:List ah}{w₀:World}(d:l7 P g₀ hp₀ w₀){R:Type}{K:St->Option R}{r:R}{df:List Deferred}{b:Array Oper}{Q:Exit->Act->World->Prop}{rest:List Nat}
  (j:∀s g w a,K s=some r->Inv g₀ hp₀ w₀ df g s w a->wpOps P b Q rest a w):∀(l:List GOp)(i:Nat),mB P b i l=true->∀(s:St)(g:Gh)(w:World)(a:Act),
   bk Γ l K s=some r->Inv g₀ hp₀ w₀ df g s w a->wpOps P b Q (A6 i l.length++rest) a w
 | [],i,_,s,g,w,a,c,h=>by simpa using j s g w a c h
 |x::l,i,k,s,g,w,a,c,h=>by
  simp only[mB,Ab] at k;obtain⟨f,t⟩:=k;split at f;·rename_i m u;rw[jF] at c;obtain⟨s',v,c⟩:=BC.1 c;rw[AD,B6,Bo,wpOps_cons];exact wV e d u f v h λq w' o p=>p5 e d j l (i+1) t s' q w' o c p
  ·cases f
theorem aaz{R:Type}{K:St->Option R}{r:R}{g₀:Gh}{hp₀:List ah}{w₀:World}{df:List Deferred}{Q:Prop}(d:∀s g,K s=some r->Inv g₀ hp₀ w₀ df g s w a->Q):∀(l:List dc)(s:St)(g:Gh),yy l K s=some r->Inv g₀ hp₀ w₀ df g s w a->Q
 | [],s,g,b,h=>d s g b h
 |x::l,s,g,b,h=>by
  simp only[yy] at b;split at b;·rename_i c s' i;obtain⟨rfl,b⟩:=rA b;obtain⟨f,e,j⟩:=ji h.sr i;exact aaz d l s' f b ⟨e,h.fr.trans j,h.df⟩
  ·cases b
theorem aaA{b:Array Oper}:∀(l:List (List dc×List GOp))(i:Nat),lZ P b i l=true->i<=b.size
 | [],i,h=>by simp only[lZ,beq_iff_eq] at h;omega
 |x::l,i,h=>by simp only[lZ,Ab] at h;have:=aaA l _ h.2;omega
theorem aaB(f:bR P Γ){g₀:Gh}{hp₀:List ah}{w₀:World}(d:l7 P g₀ hp₀ w₀){R:Type}{K:St->Option R}{r:R}{df:List Deferred}{b:Array Oper}{Q:Exit->Act->World->Prop}
  (p:∀s g w a,K s=some r->Inv g₀ hp₀ w₀ df g s w a->Q .normal a w):∀(l:List (List dc×List GOp))(i:Nat),lZ P b i l=true->∀(s:St)(g:Gh)(w:World)(a:Act),
   tf Γ l K s=some r->Inv g₀ hp₀ w₀ df g s w a->wpOps P b Q (A6 i (b.size-i)) a w
 | [],i,c,s,g,w,a,j,h=>by simp only[lZ,beq_iff_eq] at c;subst c;simp only[Cx,List.range'_zero,wpOps];exact p s g w a j h
 |x::l,i,c,s,g,w,a,j,h=>by
  simp only[lZ,Ab] at c;have z:=aaA l _ c.2;simp only[tf] at j;refine aaz (λs' y u t=>?_) x.1 s g j h;have e:A6 i (b.size-i)=A6 i x.2.length++A6 (i+x.2.length) (b.size-(i+x.2.length)):=by rw[show b.size-i=x.2.length+(b.size-(i+x.2.length)) by omega,<-Dj];simp
  rw[e];exact p5 f d (λA B v q o k=>aaB f d p l _ c.2 A B v q o k) x.2 i c.1 s' y w a u t
def fJ:Ex->Exit->Prop
 | .normal,.normal=>True
 | .exit i,.exit j=>i=j
 | .ret,.ret=>True
 |_,_=>False
def adt{R:Type}(g₀:Gh)(hp₀:List ah)(w₀:World)(df:List Deferred)(K:Ex->St->Option R)(r:R)(e:Exit)(a:Act)(w:World):Prop:=
 ∃x s g,fJ x e∧K x s=some r∧Inv g₀ hp₀ w₀ df g s w a
theorem dN(B:bR P Γ){g₀:Gh}{hp₀:List ah}{w₀:World}(A:l7 P g₀ hp₀ w₀){imp:List Nat}(F:cd Γ imp)(n:Nat){R:Type}{base:Nat}(o:hp₀.length<=base){df:List Deferred}{r:R}:∀(ir:IR)(c:Code),aF P imp base ir c=true->∀(K:Ex->St->Option R)(s:St)(a:Act)(w:World)(g:Gh),
  run Γ n ir K s=some r->Inv g₀ hp₀ w₀ df g s w a->c.wp P (adt g₀ hp₀ w₀ df K r) a w
 | .bad,c,f,K,s,a,w,g,b,h=>by simp[run] at b
 | .wk ..,c,f,K,s,a,w,g,b,h=>by cases c<;>simp[aF] at f
 | .rgs l,c,f,K,s,a,w,g,b,h=>by
   cases c with
   |region id H G=>
    cases G with
    |true=>simp[aF] at f
    |false=>
     have f:lZ P H 0 l=true:=by simpa only[aF] using f
     refine wp_region ?_;have:=aaB (Q:=adt g₀ hp₀ w₀ df K r) B A (K:=K .normal) (r:=r) (λs g w a p C=>⟨.normal,s,g,trivial,p,C⟩) l 0 f s g w a b h
     rwa [Nat.sub_zero,<-C9] at this
   |_=>simp[aF] at f
 | .skip,c,f,K,s,a,w,g,b,h=>by
   cases c<;>simp[aF] at f;·exact wp_skip ⟨.normal,s,g,trivial,b,h⟩
   ·exact wp_label ⟨.normal,s,g,trivial,b,h⟩
 | .reg l ar,c,f,K,s,a,w,g,b,h=>by
   cases c with
   |region id H G=>
    cases G with
    |true=>
     have f:rl P imp H l ar=true:=by simpa only[aF] using f
     exact af2 (Q:=adt g₀ hp₀ w₀ df K r) B A F f (K:=K .normal) (r:=r) (λs g w a p C=>⟨.normal,s,g,trivial,p,C⟩) b h
    |false=>
     have f:pP P H 0 l=true:=by simpa only[aF] using f
     refine wp_region ?_;have:=rB (Q:=adt g₀ hp₀ w₀ df K r) B A (K:=K .normal) (r:=r) (λs g w a p C=>⟨.normal,s,g,trivial,p,C⟩) l 0 f s g w a b h
     rwa [Nat.sub_zero,<-C9] at this
   |_=>simp[aF] at f
 | .seq x y,c,f,K,s,a,w,g,b,h=>by
   cases c<;>simp[aF] at f;rename_i c d;refine wp_seq (wp_mono (dN B A F n o x c f.1 _ s a w g b h) ?_);rintro e W w' ⟨J,s',z,D,p,C⟩;cases J with
   |normal=>cases e<;>simp only[fJ] at D;exact dN B A F n o y d f.2 K s' W w' z p C
   |exit i=>cases e<;>simp only[fJ] at D;exact⟨.exit i,s',z,D,p,C⟩
   |ret=>cases e<;>simp only[fJ] at D;exact⟨.ret,s',z,trivial,p,C⟩
 | .cond v x y,c,f,K,s,a,w,g,b,h=>by
   cases c<;>simp[aF] at f;rename_i u c d;simp only[run] at b;split at b
   ·rename_i t Z;have rr:=aB f.1 h.sr.er;rw[Z] at rr;generalize al:a.eval u=cv at rr;cases rr;refine wp_cond al ?_;cases t with
    |true=>rw[aj.fix_eq Z] at b;exact dN B A F n o x c f.2.1 K s a w g b h
    |false=>simp only[cond_false] at b;rw[aj.fix_eq Z] at b;exact dN B A F n o y d f.2.2 K s a w g b h
   ·simp at b
 | .block i x,c,f,K,s,a,w,g,b,h=>by
   cases c<;>simp[aF] at f;rename_i j c;obtain⟨rfl,f⟩:=f;refine wp_block (wp_mono (dN B A F n o x c f _ s a w g b h) ?_);rintro e W w' ⟨J,s',z,D,p,C⟩;cases J with
   |normal=>cases e<;>simp only[fJ] at D;exact⟨.normal,s',z,trivial,p,C⟩
   |exit k=>
    cases e<;>simp only[fJ] at D;subst D;simp only[Exit.inBlock];by_cases M:k=i;·subst M;simp only[if_true];simp only[aQ,BL,cond_true] at p;exact⟨.normal,s',z,trivial,p,C⟩
    ·simp only[M,if_false];have O:Av k i=false:=by
      cases O:Av k i with
      |true=>exact absurd (As O) M
      |false=>rfl
     simp only[aQ,O,cond_false] at p;exact⟨.exit k,s',z,rfl,p,C⟩
   |ret=>cases e<;>simp only[fJ] at D;exact⟨.ret,s',z,trivial,p,C⟩
 | .loop E q x,c,f,K,s,a,w,g,b,h=>by
   cases c<;>simp[aF] at f;rename_i c;obtain⟨S,f⟩:=f;have S:hp₀.length<=q:=AF o S;simp only[run] at b
   have key:∀(m:Nat)(s:St)(a:Act)(w:World)(g:Gh),bP m (λI s=>run Γ n x (dv I E q K) s) s=some r->Inv g₀ hp₀ w₀ df g s w a->
     Code.rounds P c (adt g₀ hp₀ w₀ df K r) m a w:=by
    intro m;induction m with
    |zero=>intro s a w g b h;simp[bP] at b
    |succ m ih=>
     intro s a w g b h;simp only[bP] at b;rw[rounds_succ];refine wp_mono (dN B A F n o x c f _ s a w g b h) ?_;rintro e W w' ⟨J,s',z,D,p,C⟩;cases J with
     |normal=>cases e<;>simp only[fJ] at D;exact ih _ W w' z p (C.keeps E S)
     |exit k=>cases e<;>simp only[fJ] at D;exact⟨.exit k,s',z,D,p,C⟩
     |ret=>cases e<;>simp only[fJ] at D;exact⟨.ret,s',z,trivial,p,C⟩
   exact wp_loop_rounds n (key n _ a w g b (h.keeps E S))
 | .cut E q x,c,f,K,s,a,w,g,b,h=>by simp only[aF,Ab] at f;obtain⟨S,f⟩:=f;simp only[run] at b;exact dN B A F n o x c f K _ a w g b (h.keeps E (AF o (C1 S)))
 | .gh x y,c,f,K,s,a,w,g,b,h=>by
   simp only[aF] at f;simp only[run] at b;split at b
   ·rename_i t s' X;cases t with
    |false=>simp[chk] at b
    |true=>obtain⟨z,N,L⟩:=ji h.sr X;exact dN B A F n o y c f K s' a w z b ⟨N,h.fr.trans L,h.df⟩
   ·simp at b
 | .ope x y,c,f,K,s,a,w,g,b,h=>by
   simp only[aF] at f;simp only[run] at b;have go:∀q:dc,(match q.step s with|some (c,s')=>chk c (run Γ n y K s')|none=>none)=some r->∃s' z,run Γ n y K s'=some r∧SR z s' w a∧FR g s.hp w z s'.hp w:=λq b=>by
    split at b
    ·rename_i t s' X;cases t with
     |false=>simp[chk] at b
     |true=>obtain⟨z,N,L⟩:=ji h.sr X;exact⟨s',z,b,N,L⟩
    ·simp at b
   have Y:∃s' z,run Γ n y K s'=some r∧SR z s' w a∧FR g s.hp w z s'.hp w:=by
    cases O:afG s x with
    |true=>rw[O] at b;exact go _ b
    |false=>rw[O] at b;exact go _ b
   obtain⟨s',z,b,N,L⟩:=Y;exact dN B A F n o y c f K s' a w z b ⟨N,h.fr.trans L,h.df⟩
 | .ghp x y,c,f,K,s,a,w,g,b,h=>by
   simp only[aF] at f;simp only[run] at b;refine wp_mono (dN B A F n o y c f _ s a w g b h) ?_;rintro e W w' ⟨J,s',z,D,p,C⟩;cases J with
   |normal=>
    simp only[nY] at p;split at p
    ·rename_i t s2 X;cases t with
     |false=>simp[chk] at p
     |true=>obtain⟨g2,N,L⟩:=ji C.sr X;exact⟨.normal,s2,g2,D,p,⟨N,C.fr.trans L,C.df⟩⟩
    ·simp at p
   |exit i=>exact⟨.exit i,s',z,D,p,C⟩
   |ret=>exact⟨.ret,s',z,D,p,C⟩
 | .exit i,c,f,K,s,a,w,g,b,h=>by cases c<;>simp[aF] at f;subst f;exact wp_exit ⟨.exit i,s,g,rfl,b,h⟩
 | .ret,c,f,K,s,a,w,g,b,h=>by cases c<;>simp[aF] at f;exact wp_ret ⟨.ret,s,g,trivial,b,h⟩
end
end Go.AM
end
