import Derived.Orders
import Derived.MapKept
import Derived.WideKeyRuns
import Derived.WalkSpells
import Derived.Test.YtkinflmjagfapaaDoorZ00
open Array renaming getElem?_eq_getElem→As,getElem?_eq_some_iff→AQ,getD→Bg,length_toList→BT,getElem?_eq_none→Cd,getElem?_modify→Cj,getElem?_append_left→CQ,getElem?_toList→Dl,getElem?_push→DD
open Bool renaming and_eq_true→Ac,or_eq_true→A7,and_eq_false_iff→B2,eq_iff_iff→Ch,false_eq_true→CD
open Function renaming comp_def→D4
open Go.Addr renaming add_lit→BV
open Go.Builtin renaming append_→CB,len_→CZ
open Go.Instr renaming sureAddr→BZ,checkKey→Cb,sameBits→C6,loadAt→Dw,mapUpdate→Dx,sameNow→DS,storeAt→DW
open Go.IntKind renaming signed→Bj,bits→BA,max→Cr,min→CF
open Go.Oper renaming wp→C7,upon→Di
open Go.Region renaming binds→BU,wanted→Cz,ready→C2
open Go.Result renaming andThen_ok→Co
open Go.Sem renaming run_bind→C0
open Go.World renaming cell?_setCells_out→Bp,cell?→Bv,frozen?→BD,cell?_setCells_in→BQ
open List renaming length→Aa,getElem?_eq_getElem→Ab,getElem?_eq_some_iff→Ad,length_cons→Af,length_append→Aj,getD_eq_getElem?_getD→Al,mem_of_getElem?→Am,getD→An,all_eq_true→Ap,mem_singleton→Au,getElem?_append_right→Av,getElem?_append_left→Aw,getElem?_set→Ay,mem_append→Az,getElem?_map→AA,mem_cons→AB,mem_map→AG,cons_append→AI,mem_cons_of_mem→AL,mem_append_left→AN,length_set→AO,eq_nil_of_length_eq_zero→AT,range→AU,nil_append→AW,mem_flatMap→AX,mem_cons_self→AY,mem_range→AZ,mem_iff_getElem→A0,getElem?_take→A3,getElem?_set_ne→A5,length_map→A6,getElem?_cons_succ→A9,getElem?_eq_none→Ba,set→Bb,getElem_mem→Bf,map_congr_left→Bh,take_of_length_le→Bl,range'→Bm,mem_of_mem_take→Bn,getElem?_drop→Bo,getElem?_cons_zero→Bq,getElem?_set_self→Bw,flatMap_cons→BC,map_append→BF,length_drop→BH,length_take→BI,mem_of_mem_drop→BN,getElem?_of_mem→BO,foldl_cons→BS,contains_iff_mem→B1,map_map→Cg,any_eq_true→Cu,range'_succ→Cv,getD_cons_zero→Cw,set_cons_zero→CA,length_singleton→CL,filterMap_append→CM,pairwise_append→CO,filterMap_cons_some→CY,set_cons_succ→C1,pairwise_cons→C5,foldl_append→Da,ext_getElem?→Db,set_set→Dp,range_eq_range'→Dq,eq_nil_iff_forall_not_mem→Dt,range'_append→DN,map_take→DQ,map_drop→DT,set_comm→DV,length_range→DY,size_toArray→D0,set_eq_of_length_le→D7,getElem?_replicate→Ea
open List.Sublist renaming append_left→D8
open Nat renaming le_refl→Ar,beq→AD,lt_of_lt_of_le→AE,lt_or_ge→AH,add_mul→AP,le_trans→AR,eq_of_beq_eq_true→AS,mul_le_mul_right→A1,zero_add→Be,ne_of_lt→Bu,one_mul→B4,add_zero→B5,sub_self→Cf,blt_eq→Cp,ble→Cs,mul_comm→CJ,mul_one→CS,le_mul_of_pos_right→C9,le_add_right→Dg,le_of_not_lt→Dh,beq_refl→Do,div_add_mod→Dv,eq_zero_or_pos→DK,add_assoc→DU
open Ne renaming symm→Ci
open Option renaming map_eq_some_iff→Aq,getD_some→Bk,map_some→BE,bind_eq_some_iff→BP,map_map→CK,mem_toList→DZ
open Option.some renaming injEq→Ai,inj→Ax
open Prod.mk renaming injEq→Ao
set_option linter.all false
noncomputable section
namespace Go.AM
def rx(P:Program)(o:IOp)(m:Oper):Bool:=
 match o with
 | .apu d k x y=>(m.dst==some d)&&(match xS m.op with|some (.append,[b,j],[t,u])=>mW P t k&&(mW P u k&&(aH x b&&aH y j))|_=>false)
 | .lnw d x=>(m.dst==some d)&&(match xS m.op with|some (.len,[b],[t])=>(match P.underlying t with|some (.slice _)=>true|_=>false)&&aH x b|_=>false)
 | .ixw d k x i=>(m.dst==some d)&&(match m.op with| .indexAddr t b h=>mW P t k&&(aH x b&&aH i h)|_=>false)
 | .fdw d e x=>bo P (.fad d e x) m
 | .ldw d n agg x=>bo P (.ld d n agg false x) m
 | .stw d n x v=>(m.dst==d)&&(match m.op with| .store t b f=>(fe P t==some n)&&(aH x b&&aH v f)|_=>false)
 |_=>false
section
variable{w w':World}{g g':Gh}{s s':St}{a:Act}{P:Program}{Γ:aq}{m:Oper}{next:Act->World->Prop}{Q:Exit->Act->World->Prop}
theorem oG{i j n z:Nat}(b:i<n)(d:j<z):i*z+j<n*z:=by
 calc i*z+j<i*z+z:=by omega
  _=(i+1)*z:=by rw[AP,B4]
  _<=n*z:=A1 _ b
theorem vx{I:Nat->Nat->Prop}{ρ:Nat->Nat}{N:Nat}{k:EK}{x:Ty k}{j:Nat}{v:V}{u:Value}(b:(enc k x)[j]? =some v)(h:VRel I ρ N w v u){ρ':Nat->Nat}{N':Nat}:VRel I ρ' N' w v u:=
 h.flat1 (acU k x v (Am b))
theorem SR.newUL(h:SR g s w a)(k:EK)(xs:List (Ty k))(cap d:Nat)(A:Array Value)(e:TypeId)
  (a1:w'.heap.size=w.heap.size+1) (f:∀b,b<w.heap.size->w'.heap[b]? =w.heap[b]?) {R:Nat×Nat} (H:w'.heap[w.heap.size]? =some (.cells A e R))
  (M:w'.os=w.os) (J:w'.tape=w.tape) (E:w'.output=w.output)
  (N:xs.length<=cap) (hm:cap<=dc) (D:cap*k.sz<=A.size) (F:k=.u8->e=g.β) (S:afm R A.size)
  (hv:∀(i:Nat) x j v,xs[i]? =some x->(enc k x)[j]? =some v->∃cv,A[i*k.sz+j]? =some cv∧VRel g.I (λ_=>0) 0 w v cv):
  ∃g',SR g' (s.set d (.ul k xs)) w' (a.put (some d) (.slice (some ⟨w.heap.size,0,none⟩) xs.length cap))∧FR g s.hp w g' s.hp w':=by
 let g':Gh:={g with O:=λb=>if b=w.heap.size then some (.slot d) else g.O b}
 have y:∀b j,g.I b j->b<w.heap.size:=by intro b j p;exact(h.hr.exI b j p).lt
 have t:∀b j,b<w.heap.size->w'.cell? ⟨b,j,none⟩=w.cell? ⟨b,j,none⟩:=by intro b j q;simp[Bv,f b q]
 have u:Up g.I g.ρ s.hp.length w g'.I g'.ρ s.hp.length w':=⟨λb j p=>p,λb j p=>t b j (y b j p),λ_ _=>rfl,Ar _⟩
 have hs:SR g' s w' a:=by
  refine h.keep none trivial rfl u ?_ ?_ ?_ ?_;·intro L b q _;have B:=h.hr.oLt b L q;exact⟨by simp[g',Bu B,q],f b B,λj C=>C⟩
  ·intro id cs G;have B:=(h.hr.obj id cs G).lt;exact⟨f _ B,by simp[g',Bu B,h.hr.notO id cs G],λj C=>C⟩
  ·intro b j C;exact(h.hr.exI b j C).blk (by first|exact f b (y b j C)|exact f2 b (y b j C))
  ·intro b o q;simp only[g'] at q;split at q;·omega
   ·have:=h.hr.oLt b o q;omega
 refine⟨g',hs.set d (.ul k xs _ _ (by omega)) (.inr ⟨w.heap.size,cap,A,e,R,S,rfl,N,hm,by simp[g'],H,D,F,?_,?_⟩),⟨rfl,M,J,E,by omega,λb q _ _=>f b q,u,λ_ _ _ _ _ p=>p,?_,λ_ cs h=>.inl ⟨cs,h⟩⟩⟩;·intro j p;exact absurd (y _ _ p) (Nat.lt_irrefl _)
 ·intro i x j v cv h1 h2 W;obtain⟨Y,Z,X⟩:=hv i x j v h1 h2;rw[Z] at W;obtain rfl:=Ax W;exact X.up ⟨λ_ _ p=>p,λb j p=>t b j (y b j p),λ_ _=>rfl,Ar _⟩
 ·intro b q _ hO;simp[g',Bu q,hO]
theorem SR.inPlaceU(h:SR g s w a){p:Occ}(hp:tT (some p) s)(k:EK)(xs ys:List (Ty k))(b cap d:Nat)(news:List Value){A:Array Value}{e:TypeId}{W:Nat×Nat}(o0:afm W A.size)
  (H:g.O b=some p) (R:w.heap[b]? =some (.cells A e W)) (o3:cap*k.sz<=A.size) (an:k=.u8->e=g.β) (oI:∀j,¬g.I b j)
  (oc:∀(i:Nat) x (j:Nat) v u,xs[i]? =some x->(enc k x)[j]? =some v->A[i*k.sz+j]? =some u->VRel g.I (λ_=>0) 0 w v u) (ae:cap<=dc)
  (C:xs.length+ys.length<=cap) (hl:news.length=ys.length*k.sz)
  (hv:∀(i:Nat) x (j:Nat) v,ys[i]? =some x->(enc k x)[j]? =some v->∃u,news[i*k.sz+j]? =some u∧VRel g.I (λ_=>0) 0 w v u):
  ∃g',SR g' (s.set d (.ul k (xs++ys))) (w.setCells b (xs.length*k.sz) news) (a.put (some d) (.slice (some ⟨b,0,none⟩) (xs.length+ys.length) cap))∧
   FR g s.hp w g' s.hp (w.setCells b (xs.length*k.sz) news):=by
 have a9:xs.length*k.sz+news.length<=A.size:=by have:(xs.length+ys.length)*k.sz<=cap*k.sz:=A1 _ C;rw[AP] at this;omega
 obtain⟨⟨F,Z,q2⟩,M,q4,q5,q6,q7⟩:=kc b news (xs.length*k.sz) w A e W R;let w':=w.setCells b (xs.length*k.sz) news;let g':Gh:={g with O:=λf=>if f=b then some (.slot d) else g.O f}
 have y:∀f j,g.I f j->w'.cell? ⟨f,j,none⟩=w.cell? ⟨f,j,none⟩:=by intro f j B;exact Bp b news _ w _ (by rintro rfl _;exact absurd B (oI j))
 have X:∀(id:Nat) cs,s.hp[id]? =some (some cs)->g.ρ id≠b:=by intro id cs E Y;have:=h.hr.notO id cs E;rw[Y,H] at this;simp at this
 have u:Up g.I g.ρ s.hp.length w g'.I g'.ρ s.hp.length w':=⟨λb j B=>B,y,λ_ _=>rfl,Ar _⟩
 have hs:SR g' s w' a:=by
  refine h.keep (some p) hp rfl u ?_ ?_ ?_ ?_
  ·intro bx f q a0;have t:f≠b:=by
    rintro rfl;rw[H] at q;exact a0 q
   exact⟨by simp[g',t,q],M f t,λj D=>D⟩
  ·intro id cs E;have t:=X id cs E;exact⟨M _ t,by simp[g',t,h.hr.notO id cs E],λj D=>D⟩
  ·intro f j D;exact(h.hr.exI f j D).set (y f j D) R Z M
  ·intro f o q;simp only[g'] at q;rw[q4];split at q;·rename_i Y;subst Y;exact h.hr.oLt _ _ H
   ·exact h.hr.oLt _ _ q
 have J:∀j,F[j]? =if xs.length*k.sz<=j∧j<xs.length*k.sz+news.length then news[j-xs.length*k.sz]? else A[j]?:=by
  intro j;rw[<-aT Z j];split;·rename_i D;have:=BQ b news (xs.length*k.sz) w (λj' b1=>by rw[aT R,As (by omega)];rfl) (j-xs.length*k.sz) (by omega);rw[show xs.length*k.sz+(j-xs.length*k.sz)=j by omega] at this;rw[Ab (by omega)];exact this
  ·rename_i D;rw[Bp _ _ _ w _ (λ_ _=>by simp only;omega),aT R]
 have ue:Up g.I (λ_=>0) 0 w g.I (λ_=>0) 0 w':=⟨λ_ _ B=>B,y,λ_ _=>rfl,Ar _⟩
 have al:∀x:Ty k,∀j v,(enc k x)[j]? =some v->j<k.sz:=by
  intro x j v hv;have:=(Ad.1 hv).1
  rwa [bT] at this
 refine⟨g',hs.set d ?_ (.inr ⟨b,cap,F,e,W,by rw[q2];exact o0,by simp,by simpa using C,ae,by simp[g'],Z,by rw[q2];exact o3,an,oI,?_⟩),⟨rfl,q5,q6,q7,by rw[q4];exact Ar _,λf q _ G=>?_,u,λ_ _ _ _ _ B=>B,?_,λ_ cs h=>.inl ⟨cs,h⟩⟩⟩;·have:=VRel.ul (I:=g'.I) (ρ:=g'.ρ) (N:=s.hp.length) (w:=w') k (xs++ys) (some ⟨b,0,none⟩) cap (by simp;omega);simpa using this
 ·intro i x j v cv S h2 L;have D:=al x j v h2;rw[J] at L;rcases AH i xs.length with B|B;·rw[Aw B] at S;have:=oG B D;rw[if_neg (by omega)] at L;exact(oc i x j v cv S h2 L).up ue
  ·rw[Av B] at S;obtain⟨u',e1,e2⟩:=hv _ x j v S h2;have b4:=(Ad.1 e1).1;have hp':i*k.sz=xs.length*k.sz+(i-xs.length)*k.sz:=by rw[<-AP];congr 1;omega
   rw[if_pos (by omega),show i*k.sz+j-xs.length*k.sz=(i-xs.length)*k.sz+j by omega,e1] at L;obtain rfl:=Ax L;exact e2.up ue
 ·have t:f≠b:=by rintro rfl;rw[H] at G;simp at G
  exact M f t
 ·intro f q _ G;have t:f≠b:=by rintro rfl;rw[H] at G;simp at G
  simp[g',t,G]
theorem au9{x:ASrc}{e:Operand}{k:EK}{xs:List (Ty k)}(h:SR g s w a)(d:aH x e=true)(b:x.ev s=.ul k xs):
  ∃p,tT (some p) (x.after s)∧aaN g w p k xs (a.eval e):=by
 unfold aH at d;split at d
 ·rename_i n k';obtain rfl:=by simpa using d
  simp only[ASrc.ev] at b;exfalso;cases i:s.get n<;>rw[i] at b<;>simp[disown] at b
 ·rename_i n k';obtain rfl:=by simpa using d
  refine⟨.slot n,wl n s,?_⟩;have:=h.er.getOwn n;rw[show s.get n=.ul k xs from b] at this;exact this
 ·rename_i v cv;simp only[ASrc.ev] at b;subst b;exact⟨.res,trivial,wj d _⟩
 ·rename_i f j;simp only[ASrc.ev] at b;cases b
 ·simp at d
theorem as7{p:Occ}{k:EK}{xs:List (Ty k)}{cv:Value}(h:aaN g w p k xs cv):
  ∃L:List Value,L.length=xs.length*k.sz∧(∀(i:Nat) x (j:Nat) v,xs[i]? =some x->(enc k x)[j]? =some v->∃u,L[i*k.sz+j]? =some u∧VRel g.I (λ_=>0) 0 w v u)∧
   ((xs=[]∧cv=.slice none 0 0)∨∃b cap d e o,afm o d.size∧cv=.slice (some ⟨b,0,none⟩) xs.length cap∧xs.length<=cap∧w.heap[b]? =some (.cells d e o)∧cap*k.sz<=d.size∧∀j v,L[j]? =some v->w.cell? ⟨b,j,none⟩=some v):=by
 rcases h with⟨rfl,rfl⟩|⟨b,cap,d,e,o,E,F,B,M,J,A,t,N,O,G⟩
 ·exact⟨[],by simp,by simp,.inl ⟨rfl,rfl⟩⟩
 ·have H:xs.length*k.sz<=d.size:=AR (A1 _ B) t;refine⟨d.toList.take (xs.length*k.sz),by simp;omega,?_,.inr ⟨b,cap,d,e,o,E,F,B,A,t,?_⟩⟩
  ·intro i x j v y D;have f:j<k.sz:=by
    have:=(Ad.1 D).1
    rwa [bT] at this
   have q:=oG (Ad.1 y).1 f;have C:d[i*k.sz+j]? =some (d[i*k.sz+j]'(by omega)):=As _;refine⟨_,?_,G i x j v _ y D C⟩;rw[A3,if_pos q,Dl];exact C
  ·intro j v f;rw[A3] at f;split at f;·rw[Dl] at f;rw[aT A];exact f
   ·simp at f
theorem arY(b3:g.β=gM P){d:Nat}{k:EK}{x:ASrc}{R H:Operand}{xs ys:List (Ty k)}{ty t u e:TypeId}{pos:String}{G:Array Edge}{gd:Option (Nat×Bool)}(h:SR g s w a)
  (hx:aH x R=true) (cc:x.ev s=.ul k xs) (ut:P.underlying t=some (.slice e)) (he:wu P e k=true) (news:List Value)
  (J:_root_.Go.Src P k.sz u (a.eval H) ys.length news w) (hv:∀(i:Nat) x (j:Nat) v,ys[i]? =some x->(enc k x)[j]? =some v->∃u,news[i*k.sz+j]? =some u∧VRel g.I (λ_=>0) 0 w v u)
  (M:(xs.length+ys.length)*k.bytes<=pu)
  (hn:cL g s w a ((x.after s).set d (.ul k (xs++ys))) next):
  (⟨some d,.call ⟨.builtin .append,⟨[R,H]⟩,⟨[t,u]⟩⟩,ty,pos,G,gd⟩:Oper).wp P a w next Q:=by
 obtain⟨inf,z,i1,X,i3,i4,i5,i6,i7⟩:=mX he;have ci:0<k.bytes:=by cases k<;>simp[EK.bytes];rename_i kk;cases kk<;>simp[ahP]
 have O:xs.length+ys.length<=pu:=AR (C9 _ ci) M;obtain⟨p,hp,ho⟩:=au9 h hx cc;have h1:=h.after x;obtain⟨L,l1,l3,l4⟩:=as7 ho;have B:∀cv w',(CB #[t,u] ty #[a.eval R,a.eval H]).run P w=.ok cv w'->(execOp a.eval ⟨some d,.call ⟨.builtin .append,⟨[R,H]⟩,⟨[t,u]⟩⟩,ty,pos,G,gd⟩).run P w=.ok (.value cv) w':=by intro cv w' S;simp[execOp,resolve,invoke,builtin,S]
 have E:(x.after s).hp=s.hp:=nS x s
 have W:∀(base:Option Addr)(cap:Nat),a.eval R=.slice base xs.length cap->cap<xs.length+ys.length->
   (Builtin.firstCells k.sz xs.length (.slice base xs.length cap)).run P w.drew=.ok L.toArray w.drew->
   (⟨some d,.call ⟨.builtin .append,⟨[R,H]⟩,⟨[t,u]⟩⟩,ty,pos,G,gd⟩:Oper).wp P a w next Q:=by
  intro base cap hb D ar
  have S:=run_append_grow_src w t u ty e inf z ut i1 i4 base xs.length cap L (by rw[X];exact ar) (a.eval H) ys.length news (by rw[X];exact J) D (by unfold pu at O;omega)
   (growslice_fits D (by rw[i3];exact M))
  have Y:xs.length+ys.length<=grownCap w (xs.length+ys.length) cap e:=by unfold grownCap Question.cut;exact Dg _ _
  have bx:grownCap w (xs.length+ys.length) cap e<=dc:=by have:=grownCap_le_maxLen w (xs.length+ys.length) cap e (by unfold maxLen;unfold pu at O;omega);simpa [maxLen,dc] using this
  let o:Array Value:=(L++news).toArray++Builtin.zeroCells z.cells (grownCap w (xs.length+ys.length) cap e-(xs.length+ys.length));have b0:=J.newsLen;have a0:o.size=grownCap w (xs.length+ys.length) cap e*k.sz:=by
   simp only[o,Array.size_append,D0,Aj,l1,b0,size_zeroCells,i7];rw[<-AP,<-AP]
   congr 1
   omega
  have f:=kG w.drew (.cells o e);obtain⟨g',q1,q2⟩:=h1.newUL (w':=w.drew.alloc (.cells o e)) k (xs++ys) (grownCap w (xs.length+ys.length) cap e) d o e f.1 f.2.1 f.2.2 rfl rfl rfl (by simpa using Y) bx (by rw[a0];exact Ar _) (λhk=>by rw[b3];exact aaO he hk) (avE _) (by
   intro i x j v hx ad;have hj:j<k.sz:=by
    have:=(Ad.1 ad).1
    rwa [bT] at this
   have C:∀(q:Nat) u,(L++news)[q]? =some u->o[q]? =some u:=by intro q u hq;have br:=(Ad.1 hq).1;simp only[o];rw[CQ (by simpa using br)];simpa using hq
   rcases AH i xs.length with hi|hi;·rw[Aw hi] at hx;obtain⟨u,e1,e2⟩:=l3 i x j v hx ad;refine⟨u,C _ _ ?_,e2⟩;rw[Aw (Ad.1 e1).1];exact e1
   ·rw[Av hi] at hx;obtain⟨u,e1,e2⟩:=hv _ x j v hx ad;refine⟨u,C _ _ ?_,e2⟩;have:i*k.sz=xs.length*k.sz+(i-xs.length)*k.sz:=by rw[<-AP];congr 1;omega
    rw[Av (by rw[l1];omega),l1,<-e1]
    congr 1
    omega)
  have Z:(execOp a.eval ⟨some d,.call ⟨.builtin .append,⟨[R,H]⟩,⟨[t,u]⟩⟩,ty,pos,G,gd⟩).run P w=.ok (.value (.slice (some ⟨w.heap.size,0,none⟩) (xs++ys).length (grownCap w (xs.length+ys.length) cap e))) (w.drew.alloc (.cells o e)):=by refine B _ _ ?_;rw[hb,S];simp[o]
  refine eN rfl Z ⟨g',q1,?_⟩ hn;rw[E] at q2;show FR g s.hp w g' (x.after s).hp _;rw[E];exact q2
 rcases l4 with⟨rfl,A⟩|⟨b,cap,o,e',fz,b5,A,D,hb,dw,F⟩
 ·by_cases h0:ys.length=0
  ·have b1:ys=[]:=AT h0;subst b1;have S:(CB #[t,u] ty #[a.eval R,a.eval H]).run P w=.ok (.slice none 0 0) w:=by
    have cs:news=[]:=by have:=J.newsLen;simpa using this
    have hc:=J.cells;rw[A];rcases J.kind with⟨e',hk⟩|hk<;>simp[CB,run_underlying ut,run_underlying hk,sizeOf,typeInfo,i1,X,J.len] at* <;>simp[hc]
   refine eN rfl (B _ _ S) ⟨g,?_,?_⟩ hn;·exact h1.set d (by simpa using VRel.ul (I:=g.I) (ρ:=g.ρ) (N:=(x.after s).hp.length) (w:=w) k ([]:List (Ty k)) none 0 (by simp)) (.inl ⟨by simp,rfl⟩)
   ·have:=FR.refl g s.hp w;simpa [St.set,E] using this
  ·exact W none 0 (by simpa using A) (by simp;omega) (by
    have hL:L=[]:=by simpa using l1
    subst hL;simpa using run_firstCells_none (P:=P) w.drew k.sz 0 0 0)
 ·by_cases y:xs.length+ys.length<=cap
  ·rcases ho with⟨rfl,ho⟩|⟨b2,c4,c2,e2,ed,m0,m1,m2,m3,m4,m5,m6,m7,m8,m9⟩
   ·rw[A] at ho;cases ho
   ·rw[A] at m1;cases m1;rw[hb] at m5;cases m5;have c3:xs.length*k.sz+news.length<=cap*k.sz:=by
     have:(xs.length+ys.length)*k.sz<=cap*k.sz:=A1 _ y;rw[AP] at this;rw[J.newsLen];omega
    have S:=run_append_room_src w t u ty e inf ut i1 b 0 xs.length cap (a.eval H) ys.length news (by rw[X];exact J) y (by
     intro j hj;rw[X,aT hb,As (by omega)];rfl) (by
     intro j hj;rw[X];have hc:=b5 (0+xs.length*k.sz+j) (by omega);simp only[BD,hb,B2,decide_eq_false_iff_not];omega)
    rw[X,Be] at S;have q:=h1.inPlaceU hp k xs ys b cap d news m0 m4 hb m6 m7 m8 m9 m3 y J.newsLen hv;rw[E] at q;refine eN rfl (B _ _ (by rw[A];exact S)) ?_ hn;obtain⟨g',q1,q2⟩:=q;exact⟨g',q1,by simpa [St.set,E] using q2⟩
  ·exact W _ cap A (by omega) (run_firstCells_some w.drew k.sz xs.length ⟨b,0,none⟩ xs.length cap L (by simpa using l1) (by intro j v hj;rw[BV,Be];exact F j v hj))
theorem arZ{d:Nat}{k:EK}{x y:ASrc}(H:g.β=gM P)(B:rx P (.apu d k x y) m=true)(p:step Γ (.apu d k x y) s=some (true,s'))(h:SR g s w a)(S:cL g s w a s' next):m.wp P a w next Q:=by
 obtain⟨dst,op,ty,pos,a3,gd⟩:=m;simp only[rx,Ac,beq_iff_eq] at B;obtain⟨rfl,B⟩:=B;split at B
 ·rename_i x' y' t u J;obtain rfl:=lP J;simp only[Ac] at B;obtain⟨h1,h2,h3,Z⟩:=B;obtain⟨e,u1,e1⟩:=fT h1;obtain⟨e',I,e2⟩:=fT h2;simp only[step] at p;split at p
  ·rename_i k' l X o mm F hy;split at p
   ·rename_i W;subst W;split at p
    ·rename_i D;simp only[Ai,Ao,decide_eq_true_eq] at p;obtain⟨C,rfl⟩:=p;have E:=aP Z h.er;rw[hy] at E;have E:=ap5 D E;obtain⟨L,M,l2,l3,l4⟩:=aiP E;refine arY H h h3 F u1 e1 L (ys:=D▸mm) ?_ (λi x j v F O=>by
      obtain⟨u,q1,q2⟩:=l3 i x j v F O;exact⟨u,q1,vx O q2⟩) (by rw[ahU];exact C) S
     rcases l4 with⟨q,N,A, -⟩|⟨b,a2,cap,A,R,bn,f⟩
     ·rw[A,q];have Y:L=[]:=by rw[q] at M;simpa using M
      rw[Y];cases N with
      |none=>exact _root_.Go.Src.ofNil w I 0
      |some N=>exact _root_.Go.Src.ofSlice w I _ _ _ _ (by simp) (by intro j v G;simp at G) (by simp)
     ·rw[A];exact _root_.Go.Src.ofSlice w I _ _ _ _ M (by intro j v G;rw[BV];exact f j v G) l2
    ·simp at p
   ·simp at p
  ·simp at p
 ·simp at B
theorem ava{d:Nat}{x:ASrc}(b:rx P (.lnw d x) m=true)(j:step Γ (.lnw d x) s=some (true,s'))(h:SR g s w a)(q:cL g s w a s' next):m.wp P a w next Q:=by
 obtain⟨dst,H,ty,pos,D,F⟩:=m;simp only[rx,Ac,beq_iff_eq] at b;obtain⟨rfl,b⟩:=b;split at b
 ·rename_i u t p;obtain rfl:=lP p;simp only[Ac] at b;obtain⟨y,B⟩:=b;have i:=aP B h.er;split at y
  ·rename_i e v;simp only[step] at j;split at j
   ·rename_i n o;obtain rfl:_=s':=by simpa using j
    rw[o] at i;generalize f:a.eval u=cv at i;cases i with
    |hd _ G cap E=>refine aM h rfl (cv:=.int .i64 n) (by simp[execOp,resolve,f,invoke,builtin,CZ,run_underlying v,goInt]) ?_ rfl q;exact .int _ _ (by simp[CF,Cr,Bj,BA,dc] at *;omega)
   ·rename_i k id n o;obtain rfl:_=s':=by simpa using j
    rw[o] at i;generalize f:a.eval u=cv at i;cases i with
    |sw _ _ _ C A E=>refine aM h rfl (cv:=.int .i64 n) (by simp[execOp,resolve,f,invoke,builtin,CZ,run_underlying v,goInt]) ?_ rfl q;exact .int _ _ (by simp[CF,Cr,Bj,BA,dc] at *;omega)
   ·simp at j
  ·simp at y
 ·simp at b
theorem avb{d:Nat}{k:EK}{x i:ASrc}(f:rx P (.ixw d k x i) m=true)(b:step Γ (.ixw d k x i) s=some (true,s'))(h:SR g s w a)(B:cL g s w a s' next):m.wp P a w next Q:=by
 obtain⟨dst,op,ty,pos,G,Y⟩:=m;simp only[rx,Ac,beq_iff_eq] at f;obtain⟨rfl,f⟩:=f;split at f
 ·rename_i t F N;simp only[Ac] at f;obtain⟨q,I,E⟩:=f;have o:=aP I h.er;have v:=aP E h.er;simp only[step] at b;split at b
  ·rename_i k' id len S n D L;split at b
   ·rename_i C;subst C;simp only[Ai,Ao,Ac,decide_eq_true_eq] at b;obtain⟨⟨H,M⟩,rfl⟩:=b;rw[D] at o;rw[L] at v;obtain⟨e,J,q⟩:=fT q;obtain⟨inf,z,R,O,i3,X,W,_⟩:=mX q;generalize u:a.eval F=cv at o;generalize j:a.eval N=Z at v;cases v;cases o with
    |sw _ _ _ p A hm=>
     have y:∀w':World,(sizeOf e).run P w'=.ok k'.sz w':=λw'=>by simp[sizeOf,typeInfo,R,O]
     refine aM h rfl (cv:=.pointer (some ⟨g.ρ id,n.toNat*k'.sz+0,none⟩)) ?_ (.wp _ _ _ _ p) rfl B;simp[execOp,u,j,Instr.indexAt,asIntOf,run_underlying J,H,M,y,BV]
   ·simp at b
  ·simp at b
 ·simp at f
theorem avc{d e:Nat}{x:ASrc}(f:rx P (.fdw d e x) m=true)(p:step Γ (.fdw d e x) s=some (true,s'))(h:SR g s w a)(C:cL g s w a s' next):m.wp P a w next Q:=by
 obtain⟨dst,N,ty,pos,G,L⟩:=m;simp only[rx,bo,Ac,beq_iff_eq] at f;obtain⟨rfl,f⟩:=f;split at f
 ·rename_i t F M;simp only[Ac] at f;obtain⟨b,H⟩:=f;have u:=aP H h.er;split at b
  ·rename_i fs I;split at b
   ·rename_i J A;simp only[Ac,beq_iff_eq] at b;obtain⟨D,b⟩:=b;have j:∀w':World,∃n,n≠0∧(sizeOf J.type).run P w'=.ok n w':=by
     intro w';unfold ahR fe at b;split at b;·rename_i n B;exact⟨n,by simpa using b,nL (by simpa [fe] using B) w'⟩
     ·simp at b
    obtain⟨n,q,j⟩:=j w;simp only[step] at p;split at p
    ·rename_i id k i o E;obtain rfl:_=s':=by simpa using p
     rw[E] at u;generalize y:a.eval F=cv at u;cases u with
     |wp _ _ _ _ v=>refine aM h rfl (cv:=.pointer (some ⟨g.ρ id,i*k.sz+(o+e),none⟩)) ?_ (.wp _ _ _ _ v) rfl C;simp[execOp,y,Instr.fieldAt,run_underlying I,A,BZ,fieldPlace,j,q,D,BV,DU]
    ·simp at p
   ·simp at b
  ·simp at b
 ·simp at f
theorem acZ{id:Nat}{k:EK}{xs:List (Ty k)}(b:s.rowW id=some ⟨k,xs⟩):s.hp[id]? =some (some [.rw k xs]):=by
 unfold St.rowW at b;simp only[An] at b;cases d:s.hp[id]? with
 |none=>rw[d] at b;simp at b
 |some x=>
  rw[d] at b;simp only[Bk] at b;split at b;·simp only[Ai] at b;cases b;rfl
  ·cases b
theorem sM{k:EK}:∀(xs:List (Ty k))(i j:Nat)(x:Ty k)(v:V),xs[i]? =some x->(enc k x)[j]? =some v->(xs.flatMap (enc k))[i*k.sz+j]? =some v
 | [],i,j,x,v,b,_=>by simp at b
 |y::xs,0,j,x,v,b,d=>by simp at b;subst b;have f:=(Ad.1 d).1;simp only[BC,Nat.zero_mul,Be];rw[Aw f];exact d
 |y::xs,i+1,j,x,v,b,d=>by
  have h:=sM xs i j x v (by simpa using b) d;simp only[BC];have e:=bT k y;rw[Av (by rw[e,AP];omega),e,<-h]
  congr 1
  rw[AP];omega
theorem cw{k:EK}:∀(xs:List (Ty k)),(xs.flatMap (enc k)).length=xs.length*k.sz
 | []=>by simp
 |x::xs=>by simp[BC,cw xs,bT,AP];omega
theorem ft{k:EK}(xs:List (Ty k))(q:Nat)(v:V)(h:(xs.flatMap (enc k))[q]? =some v):∃x,xs[q / k.sz]? =some x∧(enc k x)[q%k.sz]? =some v:=by
 have d:=(Ad.1 h).1;rw[cw] at d;have e:0<k.sz:=by cases k<;>simp[EK.sz]
 have i:q / k.sz<xs.length:=Nat.div_lt_of_lt_mul (by rw[CJ];exact d);have j:q%k.sz<k.sz:=Nat.mod_lt _ e;have f:xs[q / k.sz]? =some xs[q / k.sz]:=Ab i;have b:q%k.sz<(enc k xs[q / k.sz]).length:=by rw[bT];exact j
 refine⟨_,f,?_⟩;have:=sM xs _ _ _ _ f (Ab b);rw[show q / k.sz*k.sz+q%k.sz=q by rw[CJ];exact Dv q k.sz,h] at this;rw[Ab b,<-this]
theorem tU{id:Nat}{k:EK}{xs:List (Ty k)}(h:SR g s w a)(p:s.rowW id=some ⟨k,xs⟩):∃b e d,w.heap[g.ρ id]? =some (.cells b e d)∧xs.length*k.sz<=b.size∧
  pv g s.hp.length w id [.rw k xs] b e d∧∀(i:Nat) x (j:Nat) v u,xs[i]? =some x->(enc k x)[j]? =some v->b[i*k.sz+j]? =some u->VRel g.I g.ρ s.hp.length w v u:=by
 obtain⟨b,e,d,A,f⟩:=(h.hr.obj id _ (acZ p)).row rfl;obtain⟨C,D,E,B⟩:=f.typed k xs rfl;have o:xs.length*k.sz<=b.size:=by
  have:=f.len;simp only[cellsOf] at this
  rwa [cw] at this
 refine⟨b,e,d,A,o,f,?_⟩;intro i x j v u t y q;exact f.rel (i*k.sz+j) v u (by simp only[cellsOf];exact sM xs i j x v t y) q
theorem avd{d n:Nat}{agg:Bool}{x:ASrc}(f:rx P (.ldw d n agg x) m=true)(u:step Γ (.ldw d n agg x) s=some (true,s'))(h:SR g s w a)(F:cL g s w a s' next):m.wp P a w next Q:=by
 obtain⟨dst,op,ty,pos,ae,gd⟩:=m;simp only[rx,bo,Ac,beq_iff_eq] at f;obtain⟨rfl,f⟩:=f;split at f
 ·rename_i t X;simp only[Ac,beq_iff_eq,A7] at f;obtain⟨Z,h2,A,S⟩:=f;have D:=aP S h.er;simp only[step] at u;split at u
  ·rename_i id k i o R;split at u
   ·rename_i k' xs L;split at u
    ·rename_i O;obtain⟨rfl,an⟩:=O;simp only[Ai,Ao,decide_eq_true_eq] at u;obtain⟨H,rfl⟩:=u;rw[R] at D;generalize q:a.eval X=cv at D;cases D with
     |wp _ _ _ _ ad=>
      obtain⟨p,e,fz,J,ar,M,C⟩:=tU h L;have B:xs[i]? =some xs[i]:=Ab H;have hd:xs.getD i (ao k')=xs[i]:=by simp[An,B]
      rw[hd] at F;have Y:=bT k' xs[i];have G:i*k'.sz+k'.sz<=p.size:=by have:(i+1)*k'.sz<=xs.length*k'.sz:=A1 _ H;rw[AP,B4] at this;omega
      have W:=tS (agg:=agg) (cs:=((enc k' xs[i]).drop o).take n) (vs:=(p.toList.drop (i*k'.sz+o)).take n) (w:=w) (I:=g.I) (ρ:=g.ρ) (N:=s.hp.length)
       (λc E=>yo k' _ c (BN (Bn E))) (by simp;omega) (by
        rcases A with A|A;·exact .inl A
        ·right;simp;omega)
       (λj c cv f q=>by
        simp only[A3,Bo] at f q;split at f;·rename_i y;simp only[y,if_true] at q;exact C i _ (o+j) c cv B f (by rw[<-Dl,<-DU];exact q)
        ·simp at f)
      refine aM h rfl (cv:=if agg then .agg ((p.toList.drop (i*k'.sz+o)).take n).toArray else ((p.toList.drop (i*k'.sz+o)).take n).headD undef) ?_ W.disown (eH _) F;have:=qa (P:=P) (w:=w) (b:=g.ρ id) (o:=i*k'.sz+o) (vs:=(p.toList.drop (i*k'.sz+o)).take n) Z h2 A (by simp;omega) (λj v y=>by
       rw[aT J];simp only[A3,Bo] at y;split at y;·simpa using y
       ·simp at y)
      simp[execOp,q,this]
    ·simp at u
   ·simp at u
  ·simp at u
 ·simp at f
theorem amw(v:V):disown (disown v)=disown v:=by
 cases v with
 |sl k o xs=>cases o<;>rfl
 |_=>rfl
theorem alL(v:V):v.weak.weak=v.weak:=by cases v<;>rfl
theorem afp{v:V}(h:v.inRange):v.weak.inRange:=by cases v<;>first|exact h|trivial
theorem aqH{k:EK}{x d:Ty k}{o:Nat}{vs:List V}(h:wt k x o vs=some d)(e:∀c∈enc k x,c.inRange)(f:∀c∈vs,c.inRange):
  enc k d=((enc k x).take o++vs.map V.weak)++(enc k x).drop (o+vs.length):=by
 unfold wt at h;rw[akh h ?_]
 ·rw[BF,BF,Cg,DQ,DT,anJ]
  congr 2
  exact Bh λc _=>alL c
 ·intro c b;rcases Az.1 b with b|b
  ·rcases Az.1 b with b|b;·exact e c (Bn b)
   ·obtain⟨v,i,rfl⟩:=AG.1 b;exact afp (f v i)
  ·exact e c (BN b)
theorem yz(k:EK)(x:Ty k)(j E n:Nat):(enc k x)[j]?≠some (.bn E n):=by intro h;have:=acU k x _ (Am h);simp[V.flat1] at this
theorem SR.putElt(h:SR g s w a){id i o:Nat}{k:EK}{xs:List (Ty k)}(ho:s.rowW id=some ⟨k,xs⟩)(x:i<xs.length){S:Ty k}{vs:List V}{us:List Value}(hl:vs.length=us.length)(ed:o+vs.length<=k.sz)
  (he:enc k S=((enc k xs[i]).take o++vs.map V.weak)++(enc k xs[i]).drop (o+vs.length))
  (hv:∀(j:Nat) c cv,vs[j]? =some c->us[j]? =some cv->VRel g.I g.ρ s.hp.length w c cv):
  SR g (s.setObj id [.rw k (xs.set i S)]) (w.setCells (g.ρ id) (i*k.sz+o) us) a∧FR g s.hp w g (s.hp.set id (some [.rw k (xs.set i S)])) (w.setCells (g.ρ id) (i*k.sz+o) us):=by
 have B:=acZ ho;obtain⟨W,e,fz,hb,X,a0,J⟩:=tU h ho;obtain⟨t1,t2,t3,t4⟩:=a0.typed k xs rfl;obtain⟨⟨L,q1,q2⟩,q3,q4,q5,q6,q7⟩:=kc (g.ρ id) us (i*k.sz+o) w W e fz hb;let w':=w.setCells (g.ρ id) (i*k.sz+o) us;have b5:i*k.sz+k.sz<=W.size:=by have:(i+1)*k.sz<=xs.length*k.sz:=A1 _ x;rw[AP,B4] at this;omega
 have bY:∀b j,g.I b j->b≠g.ρ id:=by rintro b j x rfl;exact h.hr.notI id _ B j x
 have G:∀b j,g.I b j->w'.cell? ⟨b,j,none⟩=w.cell? ⟨b,j,none⟩:=by intro b j x;exact Bp _ _ _ w _ (λe=>absurd e (bY b j x))
 have u:Up g.I g.ρ s.hp.length w g.I g.ρ s.hp.length w':=⟨λ_ _ h=>h,G,λ_ _=>rfl,Ar _⟩
 have H:∀N v cv,ap g w N v cv->ap g w' N v cv:=by intro N v cv bx;refine cH bx rfl (λb j x=>⟨u.mono b j x,u.cell b j x⟩) ?_;intro b D;refine⟨D,q3 b ?_,λj M=>M⟩;rintro rfl;rw[h.hr.notO id _ B] at D;simp at D
 have ae:∀j,L[j]? =if i*k.sz+o<=j∧j<i*k.sz+o+us.length then us[j-(i*k.sz+o)]? else W[j]?:=by
  intro j;rw[<-aT q1 j];split;·rename_i M;have:=BQ (g.ρ id) us (i*k.sz+o) w (λj' ds=>by rw[aT hb,As (by omega)];rfl) (j-(i*k.sz+o)) (by omega);rw[show i*k.sz+o+(j-(i*k.sz+o))=j by omega] at this;rw[Ab (by omega)];exact this
  ·rename_i M;rw[Bp _ _ _ w _ (λ_ _=>by simp only;omega),aT hb]
 have a9:id<s.hp.length:=(Ad.1 B).1;have split:∀(f:Nat) o',(s.hp.set id (some [V.rw k (xs.set i S)]))[f]? =some (some o')->(f=id∧o'=[V.rw k (xs.set i S)])∨(f≠id∧s.hp[f]? =some (some o')):=by
  intro f o' p;rw[Ay] at p;split at p;·rename_i e;simp[a9] at p;exact .inl ⟨e.symm,p.symm⟩
  ·rename_i e;exact .inr ⟨λe'=>e e'.symm,p⟩
 have F:∀(f:Nat) o',(s.hp.set id (some [V.rw k (xs.set i S)]))[f]? =some (some o')->∃R,s.hp[f]? =some (some R):=by
  intro f o' p;rcases split f o' p with⟨rfl,_⟩|⟨_,p⟩
  ·exact⟨_,B⟩
  ·exact⟨_,p⟩
 have a2:0<k.sz:=by cases k<;>simp[EK.sz]
 have a5:xs[i]? =some xs[i]:=Ab x;have Z:∀(q:Nat) c cv,(cellsOf [V.rw k (xs.set i S)])[q]? =some c->L[q]? =some cv->VRel g.I g.ρ s.hp.length w' c cv:=by
  intro q c cv t d;simp only[cellsOf] at t;obtain⟨y,Y,t⟩:=ft _ q c t;have p:q / k.sz*k.sz+q%k.sz=q:=by rw[CJ];exact Dv q k.sz
  have hr:q%k.sz<k.sz:=Nat.mod_lt _ a2;rw[ae] at d;rw[Ay] at Y;split at Y
  ·rename_i e1;rw[<-e1] at p;simp only[x,if_true,Ai] at Y;subst Y;have ci:=bT k xs[i];have hg:=acY (enc k xs[i]) (vs.map V.weak) o (by simp only[A6];omega) (q%k.sz);simp only[A6] at hg;rw[he,hg] at t;split at t;·rename_i M;rw[if_pos (by omega)] at d;rw[AA,Aq] at t;obtain⟨v,bl,rfl⟩:=t;rw[show q-(i*k.sz+o)=q%k.sz-o by omega] at d;exact((hv _ v cv bl d).weak).up u
   ·rename_i M;rw[if_neg (by omega)] at d;exact(J i _ (q%k.sz) c cv a5 t (by rw[p];exact d)).up u
  ·rename_i e1;rw[if_neg ?_] at d;·exact(J _ y (q%k.sz) c cv Y t (by rw[p];exact d)).up u
   ·intro hh;rcases AH (q / k.sz) i with h1|h1;·have:=oG h1 hr;omega
    ·have h2:i<q / k.sz:=by omega
     have:(i+1)*k.sz<=q / k.sz*k.sz:=A1 _ h2;rw[AP,B4] at this;omega
 refine⟨⟨⟨?_,?_,?_,?_,?_,?_⟩,⟨h.er.size,?_,?_⟩⟩,⟨rfl,q5,q6,q7,by rw[q4];exact Ar _,?_,?_,λ_ _ _ _ _ x=>x,λ_ _ _ hO=>hO,?_⟩⟩
 ·intro f o' p;simp only[St.setObj,AO];rcases split f o' p with⟨rfl,rfl⟩|⟨O,p⟩
  ·refine jw.ofRow (e:=e) q1 ⟨?_,(by intro hf;cases hf),?_,(λj M=>t1 j (AE M (by simp only[cellsOf,cw,AO];exact X))),?_,Z,?_,?_⟩ rfl;·simp only[cellsOf,cw,AO,q2];exact X
   ·intro A ys hz;have hz:some _=some _:=hz;cases hz;exact⟨by rw[q2];exact t1,by rw[q2];exact t2,t3,t4⟩
   ·intro c t;simp only[cellsOf,AX] at t;obtain⟨y,_,t⟩:=t;exact yo k y c t
   ·intro j c cv t d;have hm:=Am t;simp only[cellsOf,AX] at hm;obtain⟨y,_,hm⟩:=hm;exact kP (sL k y c hm) _ _ _ _
   ·intro j E n t;simp only[cellsOf] at t;obtain⟨y,_,t⟩:=ft _ j _ t;exact absurd t (yz k y _ E n)
  ·refine(h.hr.obj f o' p).keep ?_ λb4 e2 d1 C A=>⟨A.len,A.plain,A.typedUp rfl u.rho u.num rfl,A.cold,A.one,λj c cv t d=>(A.rel j c cv t d).up u,λj c cv t d=>H _ _ _ (A.own j c cv t d),A.bn⟩
   rw[q3 _ (h.hr.apart f id o' _ p B O)]
 ·intro id1 bs c1 c2 C A O;obtain⟨_,C⟩:=F id1 c1 C;obtain⟨_,A⟩:=F bs c2 A;exact h.hr.apart _ _ _ _ C A O
 ·intro id1 c1 C;obtain⟨_,C⟩:=F id1 c1 C;exact h.hr.notI _ _ C
 ·intro id1 c1 C;obtain⟨_,C⟩:=F id1 c1 C;exact h.hr.notO _ _ C
 ·intro b j x;exact(h.hr.exI b j x).set (G b j x) hb q1 q3
 ·intro b oc D;rw[q4];exact h.hr.oLt b oc D
 ·intro n v cv p d;simp only[St.setObj,AO];exact(h.er.rel n v cv p d).up u
 ·intro n v cv p d;exact H _ _ _ (h.er.own n v cv p d)
 ·intro b _ br _;exact q3 b (λe=>br id _ B e.symm)
 ·simp only[AO];exact u
 ·intro f o' p;obtain⟨R,p⟩:=F f o' p;exact .inl ⟨R,p⟩
theorem ave{d:Option Nat}{n:Nat}{x v:ASrc}(f:rx P (.stw d n x v) m=true)(p:step Γ (.stw d n x v) s=some (true,s'))(h:SR g s w a)(hn:cL g s w a s' next):m.wp P a w next Q:=by
 obtain⟨dst,op,ty,pos,M,gd⟩:=m;simp only[rx,Ac,beq_iff_eq] at f;obtain⟨rfl,f⟩:=f;split at f
 ·rename_i t x' A;simp only[Ac,beq_iff_eq] at f;obtain⟨h1,h2,h3⟩:=f;have J:=aP h2 h.er;have r2:=aP h3 h.er;simp only[step] at p;split at p
  ·rename_i id k i o hx;split at p
   ·rename_i k' xs Z;split at p
    ·rename_i b;obtain⟨rfl,bn,b⟩:=b;simp only[Ac,beq_iff_eq] at b;obtain⟨R,G⟩:=b;split at p
     ·rename_i x2 C;simp only[Ai,Ao,decide_eq_true_eq] at p;obtain⟨H,rfl⟩:=p;have hd:xs.getD i (ao k')=xs[i]:=by simp[An,Ab H]
      rw[hd] at C;rw[hx] at J;generalize W:a.eval x'=cx at J;cases J with
      |wp _ _ _ _ a4=>
       obtain⟨B,e,fz,Y,bs,I,E⟩:=tU h Z;obtain⟨X,c2,O⟩:=wv r2 G;have D:(a.eval A).cells.size=n:=by rw[<-X];exact R
       have an:i*k'.sz+k'.sz<=B.size:=by have:(i+1)*k'.sz<=xs.length*k'.sz:=A1 _ H;rw[AP,B4] at this;omega
       have F:(execOp a.eval ⟨dst,.store t x' A,ty,pos,M,gd⟩).run P w=.ok .skip (w.setCells (g.ρ id) (i*k'.sz+o) (a.eval A).cells.toList):=by
        have:=run_storeCells_cells (P:=P) (g.ρ id) (i*k'.sz+o) (a.eval A).cells.toList 0 w
         (λj q=>by rw[aT Y,As (by simp at q;omega)];rfl)
         (λj q=>by have f:=(I.typed k' xs rfl).1 (i*k'.sz+o+j) (by simp at q;omega);simp[BD,Y];omega)
         (λu hu=>by
          obtain⟨j,q,rfl⟩:=A0.1 hu;have y:j<(v.ev s).cells.length:=by rw[X];simpa using q
          exact(O j _ _ (Ab y) (by simp)).oneCell (c2 _ (Bf y)))
        simp[execOp,W,DW,BZ,storeVar,nL h1,D,this]
       have S:∀c∈enc k' xs[i],c.inRange:=by
        intro c f;obtain⟨j,q,rfl⟩:=A0.1 f;have y:j<k'.sz:=by rwa [bT] at q
        exact(E i _ j _ _ (Ab H) (Ab q) (As (show i*k'.sz+j<B.size by omega))).inRange
       have N:∀c∈(v.ev s).cells,c.inRange:=by intro c f;obtain⟨j,q,rfl⟩:=A0.1 f;exact(O j _ _ (Ab q) (As (show j<(a.eval A).cells.size by omega))).inRange
       obtain⟨p1,p2⟩:=h.putElt (o:=o) (us:=(a.eval A).cells.toList) Z H (by simpa using X) (by omega) (aqH C S N) (λj c cv f L=>O j c cv f (by simpa using L));unfold C7 Di;rw[F];cases dst with
       |none=>exact hn _ _ g p1 p2 rfl
       |some d=>exact hn _ _ g (p1.set d (.undef _) (by simp[ap])) p2 rfl
     ·simp at p
    ·simp at p
   ·simp at p
  ·simp at p
 ·simp at f
end
def avf(P:Program)(o:IOp)(m:Oper):Bool:=
 match o with
 |_=>false
section
variable{w w':World}{g g':Gh}{s s':St}{a:Act}{P:Program}{Γ:aq}{m:Oper}{next:Act->World->Prop}{Q:Exit->Act->World->Prop}
theorem aut{k:EK}{xs:List (Ty k)}{q:Nat}{c:V}(d:(xs.flatMap (enc k))[q]? =some c):∃x,c∈enc k x:=by have b:=Am d;simp only[AX] at b;obtain⟨y,_,b⟩:=b;exact⟨y,b⟩
theorem anP{id:Nat}{d:Hol}(b:s.rowH id=some d):∃f h,s.hp[id]? =some (some [.tup [.rw d.k d.xs,.sw d.k2 d.id2 d.n2,.wp f h d.i d.o]]):=by
 unfold St.rowH at b;simp only[An] at b;cases e:s.hp[id]? with
 |none=>rw[e] at b;simp at b
 |some x=>
  rw[e] at b;simp only[Bk] at b;split at b;·simp only[Ai] at b;subst b;exact⟨_,_,rfl⟩
  ·cases b
theorem aqI{id:Nat}{b:Hol}(h:SR g s w a)(q:s.rowH id=some b):∃d e f,w.heap[g.ρ id]? =some (.cells d e f)∧b.xs.length*b.k.sz<=d.size∧
  (∃cs,s.hp[id]? =some (some cs)∧agP cs=some ⟨b.k,b.xs⟩∧cellsOf cs=(b.xs.flatMap (enc b.k)).set (b.i*b.k.sz+b.o) (.sw b.k2 b.id2 b.n2)∧pv g s.hp.length w id cs d e f):=by
 obtain⟨v,u,j⟩:=anP q;obtain⟨d,e,f,t,p⟩:=(h.hr.obj id _ j).row rfl;refine⟨d,e,f,t,?_,_,j,rfl,rfl,p⟩;have:=p.len;simp only[cellsOf,AO] at this
 rwa [cw] at this
theorem apv{k:EK}{x e:Ty k}{o:Nat}{v:V}(h:wt k x o [v]=some e)(i:∀(j:Nat) c,j≠o->(enc k x)[j]? =some c->c.inRange)(p:v.inRange):
  enc k e=((enc k x).take o++[v.weak])++(enc k x).drop (o+1):=by
 unfold wt at h;rw[akh h ?_];·rw[BF,BF,Cg,DQ,DT,anJ];simp[alL]
 ·intro c b;rcases Az.1 b with b|b
  ·rcases Az.1 b with b|b
   ·obtain⟨j,d⟩:=BO b;rw[A3] at d;split at d;·exact i j c (by omega) d
    ·simp at d
   ·obtain⟨u,f,rfl⟩:=AG.1 b;simp only[Au] at f;subst f;exact afp p
  ·obtain⟨j,d⟩:=BO b;rw[Bo] at d;exact i _ c (by simp;omega) d
theorem ar0(h:SR g s w a){n:Nat}(H:(eL.hol n).step s=some (true,s')):∃g',SR g' s' w a∧FR g s.hp w g' s'.hp w:=by
 simp only[eL.step] at H;split at H
 ·rename_i k0 id n0 ff;split at H
  ·rename_i hh c0;split at H
   ·rename_i Z ys a9;split at H
    ·rename_i hk;split at H
     ·rename_i x' ae;simp only[Ai,Ao,Ac,decide_eq_true_eq] at H;obtain⟨⟨b6,F⟩,rfl⟩:=H;have cy:=AS b6;clear b6;obtain⟨k,xs,k2,A,n2,i,o⟩:=hh;simp only at hk ae cy F a9 ⊢;subst hk;obtain⟨bl,e,fz,hb,an,cs,hm,ci,al,ad⟩:=aqI h c0;simp only at an ci al;obtain⟨t1,t2,t3,t4⟩:=ad.typed k xs ci;obtain⟨J,e2,e7,bs,en,S,a5⟩:=tU h a9;obtain⟨s1,s2,s3,s4⟩:=S.typed Z ys rfl;have B:=acZ a9;have b5:id≠A:=by
       rintro rfl;obtain⟨a1,a2,N⟩:=anP c0;rw[B] at N;cases N
      have hd:xs.getD i (ao k)=xs[i]:=by simp[An,Ab F]
      rw[hd] at ae;have ej:g.ρ id≠g.ρ A:=h.hr.apart _ _ _ _ hm B b5;have ex:id<s.hp.length:=(Ad.1 hm).1;have e9:A<s.hp.length:=(Ad.1 B).1;have b3:0<k.sz:=by cases k<;>simp[EK.sz]
      have a3:∀cv,o<k.sz->bl[i*k.sz+o]? =some cv->VRel g.I g.ρ s.hp.length w (.sw Z A n2) cv:=by intro cv ho p;refine ad.rel (i*k.sz+o) _ cv ?_ p;rw[al,Bw (by rw[cw];exact oG F ho)]
      have C:∀(q:Nat) c cv,q≠i*k.sz+o->(xs.flatMap (enc k))[q]? =some c->bl[q]? =some cv->VRel g.I g.ρ s.hp.length w c cv:=by intro q c cv M t p;refine ad.rel q c cv ?_ p;rw[al,A5 (Ci M)];exact t
      let R:Gh:={g with I:=λb j=>g.I b j∨(b=g.ρ A∧j<ys.length*Z.sz)}
      let D:=(s.hp.set id (some [V.rw k (xs.set i x')])).set A none;have X:D.length=s.hp.length:=by simp[D]
      have u:Up g.I g.ρ s.hp.length w R.I R.ρ D.length w:=⟨λ_ _ hi=>.inl hi,λ_ _ _=>rfl,λ_ _=>rfl,by rw[X];exact Ar _⟩
      have u1:Up g.I g.ρ s.hp.length w R.I R.ρ s.hp.length w:=⟨λ_ _ hi=>.inl hi,λ_ _ _=>rfl,λ_ _=>rfl,Ar _⟩
      have sub:∀(j:Nat) f,D[j]? =some (some f)->(j=id∧f=[V.rw k (xs.set i x')])∨(j≠id∧j≠A∧s.hp[j]? =some (some f)):=by
       intro j f d;simp only[D,Ay] at d;split at d;·split at d<;>simp at d
       ·rename_i d2;split at d;·rename_i a4;simp only[Ai] at d;exact .inl ⟨a4.symm,d.symm⟩
        ·rename_i a4;exact .inr ⟨λe=>a4 e.symm,λe=>d2 e.symm,d⟩
      have G:∀(j:Nat) f,D[j]? =some (some f)->j≠A∧∃bx,s.hp[j]? =some (some bx):=by
       intro j f d;rcases sub j f d with⟨rfl,_⟩|⟨_,h2,h3⟩
       ·exact⟨b5,_,hm⟩
       ·exact⟨h2,_,h3⟩
      have L:∀a0 v cv,ap g w a0 v cv->ap R w a0 v cv:=by
       intro a0 v cv ed;refine cH ed rfl (λb j hi=>⟨.inl hi,rfl⟩) ?_;intro b ar;refine⟨ar,rfl,?_⟩;rintro j (d|⟨rfl,_⟩);·exact d
       ·rw[h.hr.notO A _ B] at ar;simp at ar
      have c4:∀(j:Nat) c,j≠o->(enc k xs[i])[j]? =some c->c.inRange:=by
       intro j c d t;have O:j<k.sz:=by
        have:=(Ad.1 t).1
        rwa [bT] at this
       have eJ:=oG F O;exact(C (i*k.sz+j) c _ (by omega) (sM xs i j _ c (Ab F) t) (As (by omega))).inRange
      have W:=apv ae c4 trivial;have b0:o<k.sz:=by have h1:=congrArg Aa W;simp only[Aj,BI,BH,bT,CL] at h1;omega
      have cd:∀(q:Nat) c cv,(cellsOf [V.rw k (xs.set i x')])[q]? =some c->bl[q]? =some cv->VRel R.I R.ρ D.length w c cv:=by
       intro q c cv t p;simp only[cellsOf] at t;obtain⟨y,hy,t⟩:=ft _ q c t;have M:q / k.sz*k.sz+q%k.sz=q:=by rw[CJ];exact Dv q k.sz
       have hr:q%k.sz<k.sz:=Nat.mod_lt _ b3;rw[Ay] at hy;split at hy
       ·rename_i e1;rw[<-e1] at M;simp only[F,if_true,Ai] at hy;subst hy;have hg:=acY (enc k xs[i]) [(V.sl Z (.may false) ys).weak] o (by simp only[CL,bT];omega) (q%k.sz);simp only[CL] at hg;rw[W,hg] at t;split at t
        ·rename_i d;have e3:q%k.sz=o:=by omega
         rw[e3,Cf] at t;simp only[Bq,Ai] at t;subst t;have c3:=a3 cv b0 (by rw[<-e3,M];exact p);cases c3 with
         |sw _ _ _ hN d0 N=>
         subst cy;simp only[V.weak];refine .sl Z (.may false) ys (g.ρ A) 0 ys.length _ rfl d0 N (by simp) (λi j=>J[i*Z.sz+j]?.getD undef) ?_ ?_ ?_;·intro i' x j hx d;rw[bT] at d;exact .inr ⟨rfl,by have:=oG (Ad.1 hx).1 d;omega⟩
         ·intro i' x j hx d;rw[bT] at d;have:=oG (Ad.1 hx).1 d;rw[Be,aT bs,As (by omega)];rfl
         ·intro i' x j v hx d;have O:=(Ad.1 d).1;rw[bT] at O;have:=oG (Ad.1 hx).1 O;have ha:J[i'*Z.sz+j]? =some (J[i'*Z.sz+j]'(by omega)):=As _;rw[ha];exact(a5 i' x j v _ hx d ha).up u
        ·rename_i d;exact(C q c cv (by omega) (by rw[<-M];exact sM xs i _ _ c (Ab F) t) p).up u
       ·rename_i e1;refine(C q c cv ?_ (by rw[<-M];exact sM xs _ _ _ c hy t) p).up u;intro c5;have:q / k.sz=i:=by
         rw[c5,CJ,Nat.mul_add_div b3,Nat.div_eq_of_lt b0,B5]
        exact e1 this.symm
      refine⟨R,⟨⟨?_,?_,?_,?_,?_,h.hr.oLt⟩,⟨h.er.size,λm v cv hv p=>(h.er.rel m v cv hv p).up u,λm v cv hv p=>L _ _ _ (h.er.own m v cv hv p)⟩⟩,⟨rfl,rfl,rfl,rfl,Ar _,λ_ _ _ _=>rfl,u,?_,λ_ _ _ hO=>hO,λj f d=>.inl (G j f d).2⟩⟩
      ·intro j f d;rcases sub j f d with⟨rfl,rfl⟩|⟨n1,eC,d⟩
       ·refine jw.ofRow (e:=e) hb ⟨?_,(by intro hf;cases hf),?_,(λj d=>t1 j (AE d (by simp only[cellsOf,cw,AO];exact an))),?_,cd,?_,?_⟩ rfl;·simp only[cellsOf,cw,AO];exact an
        ·intro k' zs hz;have hz:some _=some _:=hz;cases hz;exact⟨t1,t2,by rw[X];exact t3,t4⟩
        ·intro c t;simp only[cellsOf,AX] at t;obtain⟨y,_,t⟩:=t;exact yo k y c t
        ·intro j c cv t p;obtain⟨y,c2⟩:=aut t;exact kP (sL k y c c2) _ _ _ _
        ·intro j E n t;simp only[cellsOf] at t;obtain⟨y,_,t⟩:=ft _ j _ t;exact absurd t (yz k y _ E n)
       ·exact(h.hr.obj j f d).keep rfl λei e3 fd m1 Y=>⟨Y.len,Y.plain,Y.typedUp rfl u.rho u.num rfl,Y.cold,Y.one,λj c cv t p=>(Y.rel j c cv t p).up u,λj c cv t p=>L _ _ _ (Y.own j c cv t p),Y.bn⟩
      ·intro j j' dw d3 h1 h2 ef;obtain⟨_,_,h1⟩:=G j dw h1;obtain⟨_,_,h2⟩:=G j' d3 h2;exact h.hr.apart _ _ _ _ h1 h2 ef
      ·rintro j f d q (M|⟨M,_⟩);·obtain⟨_,_,d⟩:=G j f d;exact h.hr.notI _ _ d q M
       ·obtain⟨ea,_,d⟩:=G j f d;exact h.hr.apart _ _ _ _ d B ea M
      ·intro j f d;obtain⟨_,_,d⟩:=G j f d;exact h.hr.notO _ _ d
      ·rintro b j (d|⟨rfl,d⟩);·exact h.hr.exI b j d
       ·exact .row bs (by omega) (λ_ hz=>absurd hz ((S.typed _ _ rfl).1 j (by omega)))
      ·rintro b j _ d4 _ (d|⟨rfl,_⟩);·exact d
       ·exact absurd rfl (d4 A _ B)
     ·simp at H
    ·simp at H
   ·simp at H
  ·simp at H
 ·simp at H
end
section
variable{w:World}{g g':Gh}{s s':St}{a:Act}
theorem SR.fillSlot(h:SR g s w a)(n:Nat){v:V}(d:VRel g.I g.ρ s.hp.length w v (a.tmps.getD n undef))(b:ap g w (.slot n) v (a.tmps.getD n undef)):SR g (s.set n v) w a:=
 ⟨h.hr,h.er.put' n d b⟩
theorem SR.fillCell(h:SR g s w a){id o:Nat}{cs:List V}(X:s.obj id=some cs)(O:o<cs.length){D:Array Value}{e:TypeId}(S:w.heap[g.ρ id]? =some (.cells D e (0,0))){v:V}{cv:Value}
  (y:D[o]? =some cv) (h1:v.one=true) (C:noBn v=true) (hv:VRel g.I g.ρ s.hp.length w v cv) (G:ap g w (.cell id o) v cv):
  SR g (s.setObj id (cs.set o v)) w a∧FR g s.hp w g (s.hp.set id (some (cs.set o v))) w:=by
 obtain⟨F,Y⟩:=jq X;have R:id<s.hp.length:=(Ad.1 F).1;let p:=cs.set o v;have split:∀(b:Nat) o',(s.hp.set id (some p))[b]? =some (some o')->(b=id∧o'=p)∨(b≠id∧s.hp[b]? =some (some o')):=by
  intro b o' f;rw[Ay] at f;split at f;·rename_i e;simp[R] at f;exact .inl ⟨e.symm,f.symm⟩
  ·rename_i e;exact .inr ⟨λM=>e M.symm,f⟩
 have x:∀(b:Nat) o',(s.hp.set id (some p))[b]? =some (some o')->∃A,s.hp[b]? =some (some A):=by
  intro b o' f;rcases split b o' f with⟨rfl,_⟩|⟨_,f⟩
  ·exact⟨cs,F⟩
  ·exact⟨_,f⟩
 have k:∀(j:Nat) c,p[j]? =some c->(j=o∧c=v)∨(j≠o∧cs[j]? =some c):=by
  intro j c q;simp only[p,Ay] at q;split at q;·rename_i e;simp only[O,if_true,Ai] at q;exact .inl ⟨e.symm,q.symm⟩
  ·rename_i e;exact .inr ⟨λM=>e M.symm,q⟩
 refine⟨⟨⟨?_,?_,?_,?_,h.hr.exI,h.hr.oLt⟩,⟨h.er.size,?_,h.er.own⟩⟩,⟨rfl,rfl,rfl,rfl,Ar _,λ_ _ _ _=>rfl,?_,λ_ _ _ _ _ hi=>hi,λ_ _ _ hO=>hO,?_⟩⟩
 ·intro b o' f;simp only[St.setObj,AO];rcases split b o' f with⟨rfl,rfl⟩|⟨L,f⟩
  ·obtain⟨W,e2,H,t⟩:=s7 h.hr X;rw[S] at H;cases H;refine jw.ofRow0 S ⟨by simp[p,t.len],?_,?_,?_,?_⟩
   ·intro c q;obtain⟨j,Z,rfl⟩:=A0.1 q;rcases k j _ (Ab Z) with⟨_,i⟩|⟨_,i⟩
    ·rw[i];exact h1
    ·exact t.one _ (Am i)
   ·intro j c B q d;rcases k j _ q with⟨rfl,rfl⟩|⟨_,i⟩
    ·rw[y] at d;obtain rfl:=Ax d;exact hv
    ·exact t.rel j c B i d
   ·intro j c B q d;rcases k j _ q with⟨rfl,rfl⟩|⟨_,i⟩
    ·rw[y] at d;obtain rfl:=Ax d;exact G
    ·exact t.own j c B i d
   ·intro j E n q;rcases k j _ q with⟨rfl,i⟩|⟨_,i⟩
    ·rw[<-i] at C;simp[noBn] at C
    ·exact t.bn j E n i
  ·exact h.hr.obj b o' f
 ·intro id1 N J c2 u i L;obtain⟨_,u⟩:=x id1 J u;obtain⟨_,i⟩:=x N c2 i;exact h.hr.apart _ _ _ _ u i L
 ·intro id1 J u;obtain⟨_,u⟩:=x id1 J u;exact h.hr.notI _ _ u
 ·intro id1 J u;obtain⟨_,u⟩:=x id1 J u;exact h.hr.notO _ _ u
 ·intro n v cv f y;simp only[St.setObj,AO];exact h.er.rel n v cv f y
 ·simp only[AO];exact Up.refl _ _ _ _
 ·intro b o' f;obtain⟨A,f⟩:=x b o' f;exact .inl ⟨A,f⟩
def qb(g:Gh)(s:St)(w:World)(a:Act)(o:Occ)(cv:Value):Prop:=
 match o with
 | .slot n=>a.tmps.getD n undef=cv
 | .cell id j=>∃cs b e,s.obj id=some cs∧j<cs.length∧w.heap[g.ρ id]? =some (.cells b e (0,0))∧b[j]? =some cv
 | .res=>False
theorem akj(h:SR g s w a){o:Occ}{v:V}(b:s.at? o=v)(i:v≠.undef):∃cv,qb g s w a o cv∧VRel g.I g.ρ s.hp.length w v cv∧ap g w o v cv:=by
 cases o with
 |slot n=>simp only[St.at?] at b;subst b;exact⟨_,rfl,h.er.get n,h.er.getOwn n⟩
 |cell id j=>
  simp only[St.at?] at b;cases p:s.obj id with
  |none=>rw[p] at b;exact absurd b.symm i
  |some cs=>
   rw[p] at b;simp only at b;obtain⟨d,e,x,f⟩:=s7 h.hr p;have k:j<cs.length:=by
    rcases AH j cs.length with k|k;·exact k
    ·rw[An,Ba k] at b;exact absurd b.symm i
   have u:cs[j]? =some v:=by rw[<-b,An,Ab k];rfl
   have t:=f.len;have q:d[j]? =some (d[j]'(by omega)):=As _;exact⟨_,⟨cs,d,e,p,k,x,q⟩,f.rel j v _ u q,f.own j v _ u q⟩
 |res=>simp only[St.at?] at b;exact absurd b.symm i
theorem SR.fill(h:SR g s w a){o:Occ}{cv:Value}(y:qb g s w a o cv){v:V}(u:v.one=true)(B:noBn v=true)(L:VRel g.I g.ρ s.hp.length w v cv)(i:ap g w o v cv):
  SR g (s.put? o v) w a∧FR g s.hp w g (s.put? o v).hp w∧(s.put? o v).hp.length=s.hp.length∧qb g (s.put? o v) w a o cv:=by
 cases o with
 |slot n=>simp only[qb] at y;subst y;exact⟨h.fillSlot n L i,FR.refl _ _ _,rfl,rfl⟩
 |cell id j=>
  obtain⟨cs,D,e,A,f,E,J⟩:=y;obtain⟨H,R⟩:=h.fillCell A f E J u B L i;have t:s.put? (.cell id j) v=s.setObj id (cs.set j v):=by simp only[St.put?,A]
  rw[t];refine⟨H,R,by simp[St.setObj],cs.set j v,D,e,?_,by simpa using f,E,J⟩;obtain⟨C,d⟩:=jq A;have x:id<s.hp.length:=(Ad.1 C).1;have q:kj (cs.set j v)=false:=by
   cases N:kj (cs.set j v) with
   |false=>rfl
   |true=>
    obtain⟨k,es,t⟩:=yw N;match cs,f with
    | [c],f=>
      have:j=0:=by simpa using f
      subst this;simp only[Bb,List.cons.injEq,and_true] at t;subst t;simp[V.one] at u
    |c::M::cs,f=>have:=congrArg Aa t;simp at this
  obtain⟨F,W,S,O,G⟩:=(H.hr.obj id (cs.set j v) (by simp[St.setObj,x])).row q;have p:cF (cs.set j v)=false:=by
   unfold cF at d ⊢;match cs,f,d with
   | [c],f,d=>
     have:j=0:=by simpa using f
     subst this;simp only[Bb];split;·rename_i b;cases b;simp[V.one] at u
     ·rename_i b;cases b;simp[V.one] at u
     ·rename_i b;cases b;simp[V.one] at u
     ·rfl
   |c::M::cs,f,d=>
    split
    ·rename_i b;cases j with
     |zero=>simp at b
     |succ j=>cases j<;>simp at b
    ·rename_i b;cases j with
     |zero=>simp at b
     |succ j=>cases j<;>simp at b
    ·rename_i b;cases j with
     |zero=>simp at b
     |succ j=>cases j<;>simp at b
    ·rfl
  unfold St.obj;simp only[St.setObj,An,Ay,x,if_true,Bk];unfold cF at p;split<;>rename_i b;·simp only[Ai] at b;rw[b] at p;simp at p
  ·simp only[Ai] at b;rw[b] at p;simp at p
  ·simp only[Ai] at b;rw[b] at q;simp[kj] at q
  ·simp only[Ai] at b;rw[b] at p;simp at p
  ·rfl
 |res=>exact absurd y (by simp[qb])
theorem ar1{o:Occ}{cv:Value}{v:V}(q:qb g s w a o cv)(A:v.one=true)(h:v.bare=true):tT (some o) (s.put? o v):=by
 cases o with
 |slot n=>
  intro u b;simp only[St.put?,St.set,Ay,if_true] at b;split at b;·cases Ax b;exact h
  ·simp at b
 |cell id j=>obtain⟨cs,x,e,i,t,_,_⟩:=q;obtain⟨d,k⟩:=jq i;have f:id<s.hp.length:=(Ad.1 d).1;intro y u p b;simp only[St.put?,i,St.setObj,Ay,f,if_true,Ai] at p;subst p;simp only[Ay,t,if_true,Ai] at b;subst b;exact h
 |res=>trivial
theorem aiQ{s:St}{id:Nat}{cs:List V}(b:s.obj id=some cs)(l:List ai):({s with hp:=s.hp++l}:St).obj id=some cs:=by obtain⟨d,_⟩:=jq b;have e:id<s.hp.length:=(Ad.1 d).1;unfold St.obj at b ⊢;simp only[An] at b ⊢;rw[Aw e];exact b
theorem SR.addRow(h:SR g s w a){k:EK}{xs:List (Ty k)}{b cap:Nat}{D:Array Value}{e:TypeId}{Y:Nat×Nat}(h0:afm Y D.size)(h2:xs.length<=cap)(h5:w.heap[b]? =some (.cells D e Y))(h6:cap*k.sz<=D.size)(h7:k=.u8->e=g.β)
  (h8:∀j,¬g.I b j) (h4:g.O b=none) (N:∀(id:Nat) cs,s.hp[id]? =some (some cs)->g.ρ id≠b)
  (h9:∀(i:Nat) x (j:Nat) v u,xs[i]? =some x->(enc k x)[j]? =some v->D[i*k.sz+j]? =some u->VRel g.I (λ_=>0) 0 w v u):
  SR {g with ρ:=λid=>if id=s.hp.length then b else if id=s.hp.length+1 then cap else g.ρ id} {s with hp:=s.hp++[some [.rw k xs],none]} w a:=by
 let g':Gh:={g with ρ:=λid=>if id=s.hp.length then b else if id=s.hp.length+1 then cap else g.ρ id}
 have d:∀id,id<s.hp.length->g'.ρ id=g.ρ id:=λid f=>by simp only[g'];rw[if_neg (by omega),if_neg (by omega)]
 have p:g'.ρ s.hp.length=b:=by simp[g']
 have F:g'.ρ (s.hp.length+1)=cap:=by simp[g']
 have u:Up g.I g.ρ s.hp.length w g'.I g'.ρ (s.hp++[some [V.rw k xs],none]).length w:=⟨λ_ _ A=>A,λ_ _ _=>rfl,d,by simp⟩
 have B:∀H v cv,ap g w H v cv->ap g' w H v cv:=λH v cv ho=>cH ho rfl (λb j A=>⟨A,rfl⟩) (λb hb=>⟨hb,rfl,λj X=>X⟩)
 have split:∀(id:Nat) o,(s.hp++[some [V.rw k xs],none])[id]? =some (some o)->(id<s.hp.length∧s.hp[id]? =some (some o))∨(id=s.hp.length∧o=[V.rw k xs]):=by
  intro id o f;rcases AH id s.hp.length with A|A;·rw[Aw A] at f;exact .inl ⟨A,f⟩
  ·rw[Av A] at f;match hq:id-s.hp.length,f with
   |0,f=>simp at f;exact .inr ⟨by omega,f.symm⟩
   |1,f=>simp at f
   |n+2,f=>simp at f
 have G:xs.length*k.sz<=D.size:=AR (A1 _ h2) h6;refine⟨⟨?_,?_,?_,?_,h.hr.exI,h.hr.oLt⟩,⟨h.er.size,λn v cv Z t=>(h.er.rel n v cv Z t).up u,λn v cv Z t=>B _ _ _ (h.er.own n v cv Z t)⟩⟩
 ·intro id o f;rcases split id o f with⟨A,f⟩|⟨rfl,rfl⟩
  ·refine(h.hr.obj id o f).keep (by rw[d id A]) λa2 e' Y k1 C=>?_
   refine⟨C.len,C.plain,C.typedUp rfl u.rho u.num rfl,C.cold,C.one,λj c cv q t=>(C.rel j c cv q t).up u,λj c cv q t=>B _ _ _ (C.own j c cv q t),by rw[d id A];exact C.bn⟩
  ·refine jw.ofRow (e:=e) (by rw[p];exact h5) ⟨by simp only[cellsOf,cw];exact G,(by intro hf;cases hf),?_,(λj X=>h0 j (AE X (by simp only[cellsOf,cw];exact G))),?_,?_,?_,?_⟩ rfl;·intro C ys W;have W:some _=some _:=W;cases W;exact⟨h0,by rw[F];exact h6,by simp,h7⟩
   ·intro c q;simp only[cellsOf,AX] at q;obtain⟨y,_,q⟩:=q;exact yo k y c q
   ·intro j c cv q t;simp only[cellsOf] at q;obtain⟨y,hy,q⟩:=ft _ j _ q;exact vx q (h9 _ y _ c cv hy q (by rw[show j / k.sz*k.sz+j%k.sz=j by rw[CJ];exact Dv j k.sz];exact t))
   ·intro j c cv q t;have S:=Am q;simp only[cellsOf,AX] at S;obtain⟨y,_,S⟩:=S;exact kP (sL k y c S) _ _ _ _
   ·intro j E n q;simp only[cellsOf] at q;obtain⟨y,_,q⟩:=ft _ j _ q;exact absurd q (yz k y _ E n)
 ·intro id J o o' k1 C R;rcases split id o k1 with⟨A,m1⟩|⟨e1, -⟩<;>rcases split J o' C with⟨M,m2⟩|⟨e2, -⟩
  ·rw[d _ A,d _ M];exact h.hr.apart id J o o' m1 m2 R
  ·rw[d _ A,e2,p];exact N id o m1
  ·rw[d _ M,e1,p];exact(N J o' m2).symm
  ·exact absurd (e1.trans e2.symm) R
 ·intro id o f j A;rcases split id o f with⟨L,f⟩|⟨rfl,rfl⟩
  ·rw[d _ L] at A;exact h.hr.notI id o f j A
  ·rw[p] at A;exact h8 j A
 ·intro id o f;rcases split id o f with⟨L,f⟩|⟨rfl,rfl⟩
  ·rw[d _ L];exact h.hr.notO id o f
  ·rw[p];exact h4
theorem aqJ{s:St}{o:Occ}{cv:Value}(h:qb g s w a o cv)(v:V)(l:List ai):({s with hp:=s.hp++l}:St).put? o v={s.put? o v with hp:=(s.put? o v).hp++l}:=by
 cases o with
 |slot n=>rfl
 |cell id j=>obtain⟨cs,i,e,b,k,_,_⟩:=h;obtain⟨d,_⟩:=jq b;have f:id<s.hp.length:=(Ad.1 d).1;simp only[St.put?,b,aiQ b l,St.setObj];rw[List.set_append_left _ _ f]
 |res=>rfl
theorem ap6{s:St}{o:Occ}{cv:Value}(q:qb g s w a o cv){u:V}(C:u.one=true)(f:qb g (s.put? o u) w a o cv)(v:V):(s.put? o u).put? o v=s.put? o v:=by
 cases o with
 |slot n=>simp[St.put?,St.set]
 |cell id j=>
  obtain⟨cs,t,e,d,B,_,_⟩:=q;obtain⟨A,k,D,b,x,_,_⟩:=f;obtain⟨h,_⟩:=jq d;have i:id<s.hp.length:=(Ad.1 h).1;have y:s.put? (.cell id j) u=s.setObj id (cs.set j u):=by simp only[St.put?,d]
  rw[y] at b ⊢;obtain⟨p,_⟩:=jq b;simp only[St.setObj,Ay,i,if_true,Ai] at p;subst p;simp only[St.put?];rw[b,d];simp only[St.setObj,Dp]
 |res=>rfl
theorem qb.append{s:St}{o:Occ}{cv:Value}(b:qb g s w a o cv)(h:∀id,id<s.hp.length->g'.ρ id=g.ρ id)(l:List ai):qb g' {s with hp:=s.hp++l} w a o cv:=by
 cases o with
 |slot n=>exact b
 |cell id j=>obtain⟨cs,f,e,k,p,q,t⟩:=b;obtain⟨d,_⟩:=jq k;have i:id<s.hp.length:=(Ad.1 d).1;exact⟨cs,f,e,aiQ k l,p,by rw[h id i];exact q,t⟩
 |res=>exact b
theorem alM(h:SR g s w a){o:Occ}(J:(eL.opn o).step s=some (true,s')):∃g',SR g' s' w a∧FR g s.hp w g' s'.hp w:=by
 simp only[eL.step] at J;split at J
 ·rename_i k xs L;simp only[Ai,Ao,decide_eq_true_eq] at J;obtain⟨H,rfl⟩:=J;obtain⟨cv,S,hv,ho⟩:=akj h L (by simp);rcases ho with⟨rfl,_⟩|⟨b,cap,bl,e,fz,h0,rfl,h2,h3,R,h5,h6,h7,h8,h9⟩
  ·simp at H
  ·have C:xs.length<=dc:=AR h2 h3;obtain⟨M,p2,p3,p4⟩:=h.fill S (v:=.hd xs.length) rfl rfl (.hd _ _ _ C) (by simp[ap]);have D:tT (some o) (s.put? o (.hd xs.length)):=ar1 S rfl rfl;let f:=s.put? o (.hd xs.length);let A:Gh:={g with O:=λu=>if u=b then none else g.O u}
   have G:∀(id:Nat) cs,f.hp[id]? =some (some cs)->g.ρ id≠b:=by intro id cs d e';have:=M.hr.notO id cs d;rw[e',R] at this;simp at this
   have k1:SR A f w a:=by
    refine M.keep (some o) D rfl (Up.refl _ _ _ _) ?_ ?_ h.hr.exI ?_
    ·intro bn u i ar;have an:u≠b:=by
      rintro rfl;rw[R] at i;exact ar i
     exact⟨by simp[A,an,i],rfl,λj W=>W⟩
    ·intro id cs d;exact⟨rfl,by simp[A,G id cs d,M.hr.notO id cs d],λj W=>W⟩
    ·intro u o' i;simp only[A] at i;split at i;·simp at i
     ·exact h.hr.oLt _ _ i
   have k2:=k1.addRow (b:=b) (cap:=cap) h0 h2 h5 h6 h7 h8 (by simp[A]) G h9;let p:Gh:={A with ρ:=λid=>if id=f.hp.length then b else if id=f.hp.length+1 then cap else A.ρ id}
   let q:St:={f with hp:=f.hp++[some [.rw k xs],none]}
   have x:∀id,id<f.hp.length->p.ρ id=g.ρ id:=λid d=>by simp only[p];rw[if_neg (by omega),if_neg (by omega)]
   have Z:qb p q w a o (.slice (some ⟨b,0,none⟩) xs.length cap):=qb.append (g:=g) p4 x _;have Y:VRel p.I p.ρ q.hp.length w (.sw k f.hp.length xs.length) (.slice (some ⟨b,0,none⟩) xs.length cap):=by
    have B:p.ρ (f.hp.length+1)=cap:=by simp[p]
    have al:p.ρ f.hp.length=b:=by simp[p]
    have:=VRel.sw (I:=p.I) (ρ:=p.ρ) (N:=q.hp.length) (w:=w) k f.hp.length xs.length (by simp[q]) (by rw[B];exact h2) (by rw[B];exact h3);rw[B,al] at this;exact this
   obtain⟨q1,q2,q3,q4⟩:=SR.fill (g:=p) (s:=q) k2 Z (v:=.sw k f.hp.length xs.length) rfl rfl Y (by simp[ap]);have t:f.hp.length=s.hp.length:=p3;have F:q.put? o (.sw k f.hp.length xs.length)={s.put? o (.sw k s.hp.length xs.length) with hp:=(s.put? o (.sw k s.hp.length xs.length)).hp++[some [.rw k xs],none]}:=by have X:=aqJ (g:=g) (w:=w) (a:=a) p4 (.sw k f.hp.length xs.length) [some [.rw k xs],none];rw[ap6 S rfl p4] at X;rw[t] at X;show ({f with hp:=f.hp++[some [.rw k xs],none]}:St).put? o (.sw k f.hp.length xs.length)=_;rw[t];exact X
   rw[F] at q1 q2;refine⟨p,q1,?_⟩;refine p2.trans (FR.trans (g₁:=p) (hp₁:=q.hp) (w₁:=w) ?_ q2);refine⟨rfl,rfl,rfl,rfl,Ar _,λ_ _ _ _=>rfl,⟨λ_ _ y=>y,λ_ _ _=>rfl,x,by simp[q,f]⟩,λ_ _ _ _ _ y=>y,?_,?_⟩
   ·intro u _ _ hO;show (if u=b then none else g.O u)=none;split;·rfl
    ·exact hO
   ·intro id cs d;rcases AH id f.hp.length with y|y
    ·left;have:q.hp[id]? =f.hp[id]?:=by simp only[q];rw[Aw y]
     rw[this] at d;exact⟨cs,d⟩
    ·right;refine⟨y,.inr (.inl ?_)⟩;have E:id=f.hp.length:=by
      simp only[q] at d;rw[Av y] at d;match hq:id-f.hp.length,d with
      |0,_=>omega
      |1,d=>simp at d
      |n+2,d=>simp at d
     subst E;have:p.ρ f.hp.length=b:=by simp[p]
     rw[this,R];simp
 ·obtain rfl:s=s':=by simpa using J
  exact⟨g,h,FR.refl _ _ _⟩
theorem ar2(h:SR g s w a){o:Occ}(N:(eL.cls o).step s=some (true,s')):∃g',SR g' s' w a∧FR g s.hp w g' s'.hp w:=by
 simp only[eL.step] at N;split at N
 ·rename_i k id n a4;split at N
  ·rename_i k' xs ho;split at N
   ·rename_i hk;subst hk;simp only[Ai,Ao] at N;obtain⟨hn,rfl⟩:=N;obtain rfl:=AS hn;obtain⟨cv,hl,hv, -⟩:=akj h a4 (by simp);obtain⟨a9,e,fz,hb,dp,a3,an⟩:=tU h ho;obtain⟨t1,t2,t3,t4⟩:=a3.typed k' xs rfl;have M:=acZ ho;cases hv with
    |sw _ _ _ hN hc hm=>
    obtain⟨D,p2,p3,p4⟩:=h.fill hl (v:=.hd xs.length) rfl rfl (.hd _ _ _ (AR hc hm)) (by simp[ap]);let L:=s.put? o (.hd xs.length);have t:L.hp[id]? =some (some [.rw k' xs]):=by
     cases o with
     |slot n=>exact M
     |cell y j=>
      obtain⟨cs,A,W,p,hj,_,_⟩:=hl;have d:y≠id:=by rintro rfl;obtain⟨C,J⟩:=jq p;rw[M] at C;cases C;simp[cF] at J
      simp only[L,St.put?,p,St.setObj];rw[A5 d];exact M
     |res=>exact absurd hl (by simp[qb])
    let I:Gh:={g with O:=λY=>if Y=g.ρ id then some o else g.O Y}
    let B:St:={L with hp:=L.hp.set id none}
    have sub:∀(i:Nat) cs,B.hp[i]? =some (some cs)->i≠id∧L.hp[i]? =some (some cs):=by
     intro i cs f;simp only[B,Ay] at f;split at f;·split at f<;>simp at f
     ·rename_i d;exact⟨λe=>d e.symm,f⟩
    have bY:g.O (g.ρ id)=none:=D.hr.notO id _ t;have F:∀S v cv,ap g w S v cv->ap I w S v cv:=by
     intro S v cv bs;refine cH bs rfl (λb j f=>⟨f,rfl⟩) ?_;intro b q;refine⟨?_,rfl,λj hj=>hj⟩;have:b≠g.ρ id:=by rintro rfl;rw[bY] at q;simp at q
     simp[I,this,q]
    have E:B.hp.length=L.hp.length:=by simp[B]
    have k1:SR I B w a:=by
     refine⟨⟨?_,?_,?_,?_,D.hr.exI,?_⟩,⟨D.er.size,λm v cv hv G=>by rw[E];exact D.er.rel m v cv hv G,λm v cv hv G=>F _ _ _ (D.er.own m v cv hv G)⟩⟩
     ·intro i cs f;obtain⟨d,f⟩:=sub i cs f;refine(D.hr.obj i cs f).keep rfl λA W fz m1 R=>?_
      rw[E];exact⟨R.len,R.plain,R.typed,R.cold,R.one,R.rel,λj c cv hc G=>F _ _ _ (R.own j c cv hc G),R.bn⟩
     ·intro i i' cs ae C J d;exact D.hr.apart i i' cs ae (sub i cs C).2 (sub i' ae J).2 d
     ·intro i cs f;exact D.hr.notI i cs (sub i cs f).2
     ·intro i cs f;obtain⟨d,f⟩:=sub i cs f;have:g.ρ i≠g.ρ id:=D.hr.apart i id cs _ f t d;show (if g.ρ i=g.ρ id then some o else g.O (g.ρ i))=none;rw[if_neg this];exact D.hr.notO i cs f
     ·intro Y o' q;simp only[I] at q;split at q
      ·rename_i W;subst W;rcases AH (g.ρ id) w.heap.size with H|H;·exact H
       ·simp[Cd H] at hb
      ·exact h.hr.oLt _ _ q
    have al:qb I B w a o (.slice (some ⟨g.ρ id,0,none⟩) xs.length (g.ρ (id+1))):=by
     cases o with
     |slot n=>exact p4
     |cell y j=>
      obtain⟨cs,A,W,p,hj,q,ha⟩:=p4;refine⟨cs,A,W,?_,hj,q,ha⟩;have d:id≠y:=by rintro rfl;obtain⟨C,J⟩:=jq p;rw[show (s.put? (.cell id j) (.hd xs.length)).hp[id]? =some (some [.rw k' xs]) from t] at C;cases C;simp[cF] at J
      unfold St.obj at p ⊢;simp only[B,An] at p ⊢;rw[A5 d];exact p
     |res=>exact p4
    have bl:aaN I w o k' xs (.slice (some ⟨g.ρ id,0,none⟩) xs.length (g.ρ (id+1))):=
     .inr ⟨g.ρ id,g.ρ (id+1),a9,e,fz,t1,rfl,hc,hm,by simp[I],hb,t2,t4,λj=>D.hr.notI id _ t j,λi x j v u C J X=>vx J (an i x j v u C J X)⟩
    obtain⟨q1,q2,q3,q4⟩:=SR.fill (g:=I) (s:=B) k1 al (v:=.ul k' xs) rfl rfl (.ul _ _ _ _ (AR hc hm)) bl;have Z:B.put? o (.ul k' xs)={s.put? o (.ul k' xs) with hp:=(s.put? o (.ul k' xs)).hp.set id none}:=by
     cases o with
     |slot n=>simp[B,L,St.put?,St.set]
     |cell y j=>
      obtain⟨cs,A,W,p,hj,_,_⟩:=hl;obtain⟨c1,b1,e2,ar,c2,_,_⟩:=al;obtain⟨C,J⟩:=jq p;have H:y<s.hp.length:=(Ad.1 C).1;have d:y≠id:=by rintro rfl;rw[M] at C;cases C;simp[cF] at J
      have he:L=s.setObj y (cs.set j (.hd xs.length)):=by simp only[L,St.put?,p]
      obtain⟨X,_⟩:=jq ar;simp only[B] at X;rw[A5 (Ci d),he] at X;simp only[St.setObj,Ay,H,if_true,Ai] at X;subst X;simp only[St.put?];rw[ar,p];simp only[B,he,St.setObj,Dp];rw[DV _ _ d,Dp];rw[DV _ _ (Ci d)]
     |res=>rfl
    rw[Z] at q1 q2;refine⟨I,q1,p2.trans (FR.trans (g₁:=I) (hp₁:=B.hp) (w₁:=w) ?_ q2)⟩;refine⟨rfl,rfl,rfl,rfl,Ar _,λ_ _ _ _=>rfl,⟨λ_ _ f=>f,λ_ _ _=>rfl,λ_ _=>rfl,by rw[E];exact Ar _⟩,λ_ _ _ _ _ f=>f,?_,λi cs f=>.inl ⟨cs,(sub i cs f).2⟩⟩;intro Y _ a5 hO;show (if Y=g.ρ id then some o else g.O Y)=none;rw[if_neg (λe=>a5 id _ t e.symm)];exact hO
   ·simp at N
  ·simp at N
 ·obtain rfl:s=s':=by simpa using N
  exact⟨g,h,FR.refl _ _ _⟩
theorem anQ(h:SR g s w a){o:Occ}(R:(eL.fz o).step s=some (true,s')):∃g',SR g' s' w a∧FR g s.hp w g' s'.hp w:=by
 simp only[eL.step] at R;split at R
 ·rename_i k xs S;obtain rfl:_=s':=by simpa using R
  obtain⟨cv,L,hv,ho⟩:=akj h S (by simp);rcases ho with⟨rfl,rfl⟩|⟨b,cap,f,e,fz,h0,rfl,Z,h3,J,M,h6,h7,h8,h9⟩
  ·obtain⟨F,p2,p3,Y⟩:=h.fill L (v:=.sl k .own []) rfl rfl (.sln _ _) (by simp[ap]);exact⟨g,F,p2⟩
  ·have D:xs.length<=dc:=AR Z h3;obtain⟨F,p2,p3,Y⟩:=h.fill L (v:=.hd xs.length) rfl rfl (.hd _ _ _ D) (by simp[ap]);have E:tT (some o) (s.put? o (.hd xs.length)):=ar1 L rfl rfl;let q:=s.put? o (.hd xs.length);let p:Gh:={g with I:=λy j=>g.I y j∨(y=b∧j<xs.length*k.sz)}
   have a3:xs.length*k.sz<=f.size:=AR (A1 _ Z) h6;have W:∀(id:Nat) cs,q.hp[id]? =some (some cs)->g.ρ id≠b:=by intro id cs t e';have:=F.hr.notO id cs t;rw[e',J] at this;simp at this
   have u:Up g.I g.ρ q.hp.length w p.I p.ρ q.hp.length w:=⟨λ_ _ O=>.inl O,λ_ _ _=>rfl,λ_ _=>rfl,Ar _⟩
   have k1:SR p q w a:=by
    refine F.keep (some o) E rfl u ?_ ?_ ?_ h.hr.oLt
    ·intro bs y A an;have al:y≠b:=by
      rintro rfl;rw[J] at A;exact an A
     refine⟨A,rfl,?_⟩;rintro j (d|⟨d,_⟩);·exact d
     ·exact absurd d al
    ·intro id cs t;refine⟨rfl,F.hr.notO id cs t,?_⟩;rintro j (d|⟨d,_⟩);·exact d
     ·exact absurd d (W id cs t)
    ·rintro y j (d|⟨rfl,d⟩);·exact h.hr.exI y j d
     ·exact .row M (by omega) (λ_ hz=>absurd hz (h0 j (by omega)))
   have X:qb p q w a o (.slice (some ⟨b,0,none⟩) xs.length cap):=Y;have B:∀x:Ty k,∀j,j<(enc k x).length->j<k.sz:=λx j d=>by rwa [bT] at d
   have H:VRel p.I p.ρ q.hp.length w (.sl k .own xs) (.slice (some ⟨b,0,none⟩) xs.length cap):=by
    refine .sl k .own xs _ _ _ _ rfl Z h3 (by simp) (λi j=>f[i*k.sz+j]?.getD undef) ?_ ?_ ?_;·intro i x j C d;exact .inr ⟨rfl,by have:=oG (Ad.1 C).1 (B x j d);omega⟩
    ·intro i x j C d;have:=oG (Ad.1 C).1 (B x j d);rw[Be,aT M,As (by omega)];rfl
    ·intro i x j v C d;have ad:=(Ad.1 d).1;have:=oG (Ad.1 C).1 (B x j ad);have ha:f[i*k.sz+j]? =some (f[i*k.sz+j]'(by omega)):=As _;rw[ha];exact(vx (ρ':=g.ρ) (N':=q.hp.length) d (h9 i x j v _ C d ha)).up u
   have G:ap p w o (.sl k .own xs) (.slice (some ⟨b,0,none⟩) xs.length cap):=by
    refine⟨J,⟨f,e,fz,M,by simpa using h6,h7⟩,?_⟩;intro j j1 j2;simp only[Be] at j1 j2;refine⟨?_,by have:=h0 j (by omega);simp only[BD,M,B2,decide_eq_false_iff_not];omega⟩;rintro(O|⟨_,O⟩);·exact h8 j O
    ·omega
   obtain⟨q1,q2,q3,q4⟩:=SR.fill (g:=p) (s:=q) k1 X (v:=.sl k .own xs) rfl rfl H G;rw[ap6 L rfl Y] at q1 q2;refine⟨p,q1,p2.trans (FR.trans (g₁:=p) (hp₁:=q.hp) (w₁:=w) ?_ q2)⟩;refine⟨rfl,rfl,rfl,rfl,Ar _,λ_ _ _ _=>rfl,u,?_,λ_ _ _ N=>N,λ_ cs h=>.inl ⟨cs,h⟩⟩;rintro y j _ _ N (d|⟨rfl,_⟩);·exact d
   ·rw[J] at N;simp at N
 ·obtain rfl:s=s':=by simpa using R
  exact⟨g,h,FR.refl _ _ _⟩
theorem mj(h:SR g s w a){x:eL}(b:x.step s=some (true,s')):∃g',SR g' s' w a∧FR g s.hp w g' s'.hp w:=by
 cases x with
 |opn o=>exact alM h b
 |cls o=>exact ar2 h b
 |fz o=>exact anQ h b
 |hol n=>exact ar0 h b
 |isf d q cs=>
  simp only[eL.step] at b;split at b;·simp only[Ai,Ao] at b;obtain⟨_,rfl⟩:=b;exact⟨g,h,FR.refl _ _ _⟩
  ·simp at b
variable{w':World}{P:Program}{Γ:aq}{m:Oper}{next:Act->World->Prop}{Q:Exit->Act->World->Prop}
end
def ASrc.slots:ASrc->List Nat
 | .t n| .tk n=>[n]
 | .c _=>[]
def ASrc.takes:ASrc->List Nat
 | .tk n=>[n]
 |_=>[]
def aiR:Option ASrc->List Nat
 |some x=>x.slots
 |none=>[]
def IOp.rd:IOp->List Nat
 | .mov _ x| .un _ _ x| .cvi _ _ x| .b2s _ x| .lens _ x| .lenl _ x| .box _ x| .fad _ _ x| .ld _ _ _ _ x| .ext _ _ x| .nck _ x| .boxe _ x| .lde _ _ _ x=>x.slots
 | .frz _ r _ v=>r::v.slots
 | .pick _ c x y=>c.slots++(x.slots++y.slots)
 | .bin _ _ x y| .idx _ x y| .ixa _ _ x y| .apo _ _ x y| .st _ _ x y| .app _ _ x y| .apps _ x y| .mx _ _ x y=>x.slots++y.slots
 | .subs _ x d b| .subl _ _ x d b=>x.slots++(aiR d++aiR b)
 | .bsl _ _ a _=>a.flatMap ASrc.slots
 | .bld _ _ a=>a.flatMap λp=>p.2.2.slots
 | .new _ _| .newb _ _| .alr _ _=>[]
 | .call _ _ avs| .callz _ _ avs=>avs.flatMap ASrc.slots
 | .lnw _ x| .fdw _ _ x| .ldw _ _ _ x=>x.slots
 | .apu _ _ x y| .ixw _ _ x y| .stw _ _ x y=>x.slots++y.slots
 | .mkm _ _=>[]
 | .mget _ _ _ x y=>x.slots++y.slots
 | .mput _ _ x y z=>x.slots++(y.slots++z.slots)
def IOp.wr(o:IOp):List Nat:=
 o.dst.toList++(match o with| .mov _ x| .app _ _ x _| .apps _ x _| .st _ _ _ x=>x.takes| .frz _ r _ _=>[r]| .apu _ _ x _| .apo _ _ x _=>x.takes|_=>[])
def IOp.cls(imp:List Nat):IOp->Nat
 | .ld _ _ _ false _| .ldw .. | .mget ..=>1
 | .ld _ _ _ true _| .st .. | .new .. | .callz .. | .box .. | .newb .. | .stw .. | .apo .. | .mkm .. | .mput ..=>2
 | .call _ f _=>if imp.contains f then 2 else 0
 |_=>0
def afq(hp:List ai)(q:List (Nat×ai)):List ai:=q.foldl (λh p=>h.set p.1 p.2) hp
structure cI(Γ:aq)(imp:List Nat):Prop where
 pure:∀f avs hp,imp.contains f=false->Γ f avs hp=(Γ f avs []).map λx=>(x.1,x.2.1,hp)
 loc:∀f vs hp c v hp',imp.contains (f+2000000)=true->Γ f vs hp=some (c,v,hp')->∃q:List (Nat×ai),(∀p∈q,p.1∈afl vs)∧hp'=afq hp q∧
  ∀hp2:List ai,hp2.length=hp.length->(∀i∈yv vs,hp2[i]? =hp[i]?)->Γ f vs hp2=some (c,v,afq hp2 q)
theorem ahs(q:List (Nat×ai)):∀hp:List ai,(afq hp q).length=hp.length:=by
 induction q with
 |nil=>intro hp;rfl
 |cons p q a=>intro hp;show (afq (hp.set p.1 p.2) q).length=_;rw[a];simp
theorem anR{q:List (Nat×ai)}{i:Nat}:∀{hp:List ai},(∀p∈q,p.1≠i)->(afq hp q)[i]? =hp[i]?:=by
 induction q with
 |nil=>intro hp _;rfl
 |cons p q a=>intro hp h;show (afq (hp.set p.1 p.2) q)[i]? =_;rw[a (λx b=>h x (AL _ b)),A5 (h p (AY ..))]
theorem aad{hp a:List ai}{i:Nat}(h:a[i]? =hp[i]?):a.getD i none=hp.getD i none:=by rw[Al,Al,h]
theorem alN{l:List Nat}{i:Nat}(h:i∈l):i∈anB l:=AX.2 ⟨i,h,AZ.2 (Nat.lt_succ_self i)⟩
theorem afr{l:List Nat}{i j:Nat}(h:i∈l)(a:j<=i):j∈anB l:=AX.2 ⟨i,h,AZ.2 (Nat.lt_succ_of_le a)⟩
theorem aqK{vs:List V}{i:Nat}(h:i∈di vs):i∈afl vs:=AN _ (alN (AN _ h))
theorem ac0{vs:List V}{i:Nat}(h:i∈pY vs):i∈yv vs:=AN _ (alN (AN _ h))
theorem amx{vs:List V}{i j:Nat}(h:i∈di vs)(a:j<=i):j∈afl vs:=AN _ (afr (AN _ h) a)
theorem amy{vs:List V}{i j:Nat}(h:i∈pY vs)(a:j<=i):j∈yv vs:=AN _ (afr (AN _ h) a)
theorem xU:∀{vs:List V}{i:Nat},i∈di vs->i∈pY vs
 | [],_,h=>by simp[di] at h
 |v::vs,i,h=>by
  have e:pY (v::vs)=v.cellsA.flatMap V.id1++pY vs:=by simp[pY]
  rw[e,Az];unfold di at h;split at h;·rename_i a;cases a
  ·rename_i a;cases a;rcases AB.1 h with rfl|h;·left;simp[V.cellsA,V.id1]
   ·exact .inr (xU h)
  ·rename_i a;cases a;exact .inr (xU h)
def St.upd(s:St)(l:List (Nat×V)):St:={s with env:=l.foldl (λe p=>e.set p.1 p.2) s.env}
section
variable{Γ:aq}{imp:List Nat}
theorem b8{s t:St}{x:ASrc}(h:∀n∈x.slots,t.get n=s.get n):x.ev t=x.ev s:=by
 cases x with
 |t n=>simp only[ASrc.ev];rw[h n (by simp[ASrc.slots])]
 |tk n=>exact h n (by simp[ASrc.slots])
 |c v=>rfl
theorem ar3{s t:St}{x:Option ASrc}(h:∀n∈aiR x,t.get n=s.get n):jo t x=jo s x:=by
 cases x with
 |none=>rfl
 |some x=>simp only[jo];rw[b8 h]
theorem cM(s:St)(d:Option Nat)(v:V):s.setO d v=s.upd (d.toList.map λd=>(d,v)):=by cases d<;>rfl
theorem fg(s:St)(x:ASrc):x.after s=s.upd (x.takes.map λn=>(n,disown (s.get n))):=by cases x<;>rfl
theorem jU(s:St)(l m:List (Nat×V)):(s.upd l).upd m=s.upd (l++m):=by simp[St.upd,Da]
theorem agR{s:St}:∀{l:List (Nat×V)}{n:Nat},(∀p∈l,p.1≠n)->(s.upd l).get n=s.get n:=by
 intro l;induction l generalizing s with
 |nil=>intro n h;rfl
 |cons p l b=>intro n h;have:s.upd (p::l)=(s.set p.1 p.2).upd l:=rfl;rw[this,b (λq a=>h q (AL _ a))];simp[St.get,St.set,An,Ay,h p (AY ..)]
def aud(Γ:aq)(imp:List Nat)(o:IOp)(s:St)(c:Bool)(s':St):Prop:=
 ∃u:List (Nat×V),(∀p∈u,p.1∈o.wr)∧s'=s.upd u∧∀t:St,(∀n∈o.rd,t.get n=s.get n)->(o.cls imp=1->t.hp=s.hp)->step Γ o t=some (c,t.upd u)
theorem bQ{o:IOp}{s s':St}{c:Bool}(E:Option (Bool×V))(a:∀t:St,(∀n∈o.rd,t.get n=s.get n)->(o.cls imp=1->t.hp=s.hp)->step Γ o t=E.map λp=>(p.1,t.setO o.dst p.2))
  (h:step Γ o s=some (c,s')):aud Γ imp o s c s':=by
 rw[a s (λ_ _=>rfl) (λ_=>rfl)] at h;cases E with
 |none=>simp at h
 |some p=>
  simp only[BE,Ai,Ao] at h;obtain⟨rfl,rfl⟩:=h;refine⟨o.dst.toList.map λd=>(d,p.2),?_,cM _ _ _,?_⟩;·intro q b;simp only[AG] at b;obtain⟨d,hd,rfl⟩:=b;simp[IOp.wr,hd]
  ·intro t f e;rw[a t f e,<-cM];rfl
theorem aqL(hP:cI Γ imp){o:IOp}(E:o.cls imp<=1){s:St}{c:Bool}{s':St}(h:step Γ o s=some (c,s')):
  aud Γ imp o s c s':=by
 have q:∀{x:ASrc}{l:List Nat}{t:St},(∀n∈l,t.get n=s.get n)->(∀n∈x.slots,n∈l)->x.ev t=x.ev s:=λh1 X=>b8 λn w=>h1 n (X n w)
 have O:∀{x:Option ASrc}{l:List Nat}{t:St},(∀n∈l,t.get n=s.get n)->(∀n∈aiR x,n∈l)->jo t x=jo s x:=λh1 X=>ar3 λn w=>h1 n (X n w)
 cases o with
 |mov d x=>
  obtain⟨rfl,rfl⟩:true=c∧_=s':=by simpa [step] using h
  refine⟨x.takes.map (λn=>(n,disown (s.get n)))++[(d,x.ev s)],?_,?_,?_⟩
  ·intro p hp;simp only[Az,AG,Au] at hp;rcases hp with⟨n,w,rfl⟩|rfl;·simp[IOp.wr,IOp.dst,w]
   ·simp[IOp.wr,IOp.dst]
  ·rw[<-jU,<-fg];rfl
  ·intro t g _;have e:=b8 (x:=x) g;have D:x.takes.map (λn=>(n,disown (t.get n)))=x.takes.map (λn=>(n,disown (s.get n))):=by
    cases x with
    |tk n=>simp only[ASrc.takes,List.map];rw[g n (by simp[IOp.rd,ASrc.slots])]
    |_=>rfl
   simp only[step,e];rw[fg,D,<-jU];rfl
 |app d k x y=>
  simp only[step] at h;split at h
  ·rename_i k' ox l Q ow m C J;split at h
   ·rename_i P;split at h
    ·rename_i F;simp only[Ai,Ao] at h;obtain⟨rfl,rfl⟩:=h;refine⟨x.takes.map (λn=>(n,disown (s.get n)))++[(d,.sl k' .own (l++(F▸m)))],?_,?_,?_⟩
     ·intro p hp;simp only[Az,AG,Au] at hp;rcases hp with⟨n,w,rfl⟩|rfl;·simp[IOp.wr,IOp.dst,w]
      ·simp[IOp.wr,IOp.dst]
     ·rw[<-jU,<-fg];rfl
     ·intro t g _;have A:=b8 (x:=x) (λn w=>g n (by simp[IOp.rd,w]));have L:=b8 (x:=y) (λn w=>g n (by simp[IOp.rd,w]));have D:x.takes.map (λn=>(n,disown (t.get n)))=x.takes.map (λn=>(n,disown (s.get n))):=by
       cases x with
       |tk n=>simp only[ASrc.takes,List.map];rw[g n (by simp[IOp.rd,ASrc.slots])]
       |_=>rfl
      simp only[step,A,L,C,J,P,F,dif_pos,if_true];rw[fg,D,<-jU];rfl
    ·simp at h
   ·simp at h
  ·simp at h
 |apu d k x y=>
  simp only[step] at h;split at h
  ·rename_i k' l Q ow m C J;split at h
   ·rename_i P;split at h
    ·rename_i F;simp only[Ai,Ao] at h;obtain⟨rfl,rfl⟩:=h;refine⟨x.takes.map (λn=>(n,disown (s.get n)))++[(d,.ul k' (l++(F▸m)))],?_,?_,?_⟩
     ·intro p hp;simp only[Az,AG,Au] at hp;rcases hp with⟨n,w,rfl⟩|rfl;·simp[IOp.wr,IOp.dst,w]
      ·simp[IOp.wr,IOp.dst]
     ·rw[<-jU,<-fg];rfl
     ·intro t g _;have A:=b8 (x:=x) (λn w=>g n (by simp[IOp.rd,w]));have L:=b8 (x:=y) (λn w=>g n (by simp[IOp.rd,w]));have D:x.takes.map (λn=>(n,disown (t.get n)))=x.takes.map (λn=>(n,disown (s.get n))):=by
       cases x with
       |tk n=>simp only[ASrc.takes,List.map];rw[g n (by simp[IOp.rd,ASrc.slots])]
       |_=>rfl
      simp only[step,A,L,C,J,P,F,dif_pos,if_true];rw[fg,D,<-jU];rfl
    ·simp at h
   ·simp at h
  ·simp at h
 |apo=>simp[IOp.cls] at E
 |mkm=>simp[IOp.cls] at E
 |mput=>simp[IOp.cls] at E
 |mget d k ok x y=>
  refine bQ (match x.ev s with
   | .nilm=>(k.dkey (y.ev s)).map λ_=>(true,afk k ok none)
   | .mr id=>(match s.mapO id with
     |some ⟨k',es⟩=>if k'=k then (k'.dkey (y.ev s)).map λkey=>(true,afk k' ok (aY es key)) else none
     |none=>none)
   |_=>none) (λt g M=>?_) h
  have j:x.ev t=x.ev s:=q g (by simp+contextual [IOp.rd]);have A:y.ev t=y.ev s:=q g (by simp+contextual [IOp.rd]);have D:∀id,t.mapO id=s.mapO id:=λid=>by simp only[St.mapO];rw[M rfl]
  simp only[step,j,A,D,IOp.dst,St.setO];generalize x.ev s=xe;cases xe with
  |nilm=>simp only[CK];rfl
  |mr id=>
   simp only[];cases s.mapO id with
   |none=>rfl
   |some p=>
    obtain⟨k',es⟩:=p;simp only[];split;·simp only[CK];rfl
    ·rfl
  |_=>rfl
 |lnw d x=>refine bQ (match x.ev s with| .hd n=>some (true,.int .i64 n)| .sw _ _ n=>some (true,.int .i64 n)|_=>none) (λt g _=>?_) h;have j:x.ev t=x.ev s:=q g (by simp+contextual [IOp.rd]);simp only[step,j,IOp.dst,St.setO];split<;>first|rfl|(simp_all;done)
 |ixw d k x i=>
  refine bQ (match x.ev s,i.ev s with| .sw k' id n,.int _ i=>if k'=k then some (decide (0<=i)&&decide (i<n),.wp id k' i.toNat 0) else none|_,_=>none) (λt g _=>?_) h;have j:x.ev t=x.ev s:=q g (by simp+contextual [IOp.rd]);have A:i.ev t=i.ev s:=q g (by simp+contextual [IOp.rd]);simp only[step,j,A,IOp.dst,St.setO];split;·split<;>first|rfl|(simp_all;done)
  ·first|rfl|(simp_all;done)
 |fdw d B x=>refine bQ (match x.ev s with| .wp id k i o=>some (true,.wp id k i (o+B))|_=>none) (λt g _=>?_) h;have j:x.ev t=x.ev s:=q g (by simp+contextual [IOp.rd]);simp only[step,j,IOp.dst,St.setO];split<;>first|rfl|(simp_all;done)
 |ldw d n agg x=>
  refine bQ (match x.ev s with
   | .wp id k i o=>(match s.rowW id with
     |some ⟨k',xs⟩=>if k'=k∧o+n<=k'.sz then some (decide (i<xs.length),disown (loaded agg (((enc k' (xs.getD i (ao k'))).drop o).take n))) else none
     |none=>none)
   |_=>none) (λt g M=>?_) h
  have j:x.ev t=x.ev s:=q g (by simp+contextual [IOp.rd]);have A:∀id,t.rowW id=s.rowW id:=λid=>by simp only[St.rowW];rw[M rfl]
  simp only[step,j,A,IOp.dst,St.setO];split
  ·rename_i id k i o C;simp only[C];cases hr:s.rowW id with
   |none=>rfl
   |some p=>obtain⟨k',xs⟩:=p;simp only;split<;>rfl
  ·rename_i C;split;·rename_i S;exact absurd S (C _ _ _ _)
   ·rfl
 |apps d x y=>
  simp only[step] at h;split at h
  ·rename_i l m C J;simp only[Ai,Ao] at h;obtain⟨rfl,rfl⟩:=h;refine⟨x.takes.map (λn=>(n,disown (s.get n)))++[(d,.sl .u8 .own (l++m))],?_,?_,?_⟩
   ·intro p hp;simp only[Az,AG,Au] at hp;rcases hp with⟨n,w,rfl⟩|rfl;·simp[IOp.wr,IOp.dst,w]
    ·simp[IOp.wr,IOp.dst]
   ·rw[<-jU,<-fg];rfl
   ·intro t g _;have A:=b8 (x:=x) (λn w=>g n (by simp[IOp.rd,w]));have L:=b8 (x:=y) (λn w=>g n (by simp[IOp.rd,w]));have D:x.takes.map (λn=>(n,disown (t.get n)))=x.takes.map (λn=>(n,disown (s.get n))):=by
     cases x with
     |tk n=>simp only[ASrc.takes,List.map];rw[g n (by simp[IOp.rd,ASrc.slots])]
     |_=>rfl
    simp only[step,A,L,C,J];rw[fg,D,<-jU];rfl
  ·simp at h
 |new=>simp[IOp.cls] at E
 |callz=>simp[IOp.cls] at E
 |box=>simp[IOp.cls] at E
 |newb=>simp[IOp.cls] at E
 |st=>simp[IOp.cls] at E
 |stw d n x v=>simp[IOp.cls] at E
 |alr d n=>refine bQ (some (true,.raw n)) (λt g _=>?_) h;simp only[step,IOp.dst,St.setO,BE]
 |lde d n agg x=>
  refine bQ (match x.ev s with| .ea cs=>if n<=cs.length then some (true,disown (loaded agg (cs.take n))) else none|_=>none) (λt g _=>?_) h;have j:x.ev t=x.ev s:=q g (by simp+contextual [IOp.rd]);simp only[step,j,IOp.dst,St.setO];split;·split<;>first|rfl|(simp_all;done)
  ·first|rfl|(simp_all;done)
 |frz d r n v=>
  simp only[step] at h;split at h
  ·rename_i m hr;split at h
   ·rename_i hc;simp only[Ai,Ao] at h;obtain⟨rfl,rfl⟩:=h;refine⟨[(r,.ea ((v.ev s).cells.map disown))]++(d.toList.map λd=>(d,.undef)),?_,?_,?_⟩
    ·intro p hp;simp only[Az,AG,Au] at hp;rcases hp with rfl|⟨m,hm,rfl⟩
     ·simp[IOp.wr]
     ·simp[IOp.wr,IOp.dst,hm]
    ·rw[<-jU,<-cM];rfl
    ·intro t g _;have A:=b8 (x:=v) (λn w=>g n (by simp[IOp.rd,w]));have D:t.get r=s.get r:=g r (by simp[IOp.rd]);simp only[step,A,D,hr,hc,if_true];rw[<-jU,<-cM];rfl
   ·simp at h
  ·simp at h
 |boxe d x=>
  refine bQ (match x.ev s with| .agg cs=>some (true,.ea (cs.map disown))|v=>if v.one then some (true,.ea [disown v]) else none) (λt g _=>?_) h;have j:x.ev t=x.ev s:=q g (by simp+contextual [IOp.rd]);simp only[step,j,IOp.dst,St.setO];split;·first|rfl|(simp_all;done)
  ·split<;>first|rfl|(simp_all;done)
 |pick d cc x y=>refine bQ (match cc.ev s with| .bool t=>some (true,anA t (disown (x.ev s)) (disown (y.ev s)))|_=>none) (λt g _=>?_) h;have j:cc.ev t=cc.ev s:=q g (by simp+contextual [IOp.rd]);have A:x.ev t=x.ev s:=q g (by simp+contextual [IOp.rd]);have D:y.ev t=y.ev s:=q g (by simp+contextual [IOp.rd]);simp only[step,j,A,D,IOp.dst,St.setO];split<;>first|rfl|(simp_all;done)
 |bin d o x y=>refine bQ (as1 o (x.ev s) (y.ev s)) (λt g _=>?_) h;have j:x.ev t=x.ev s:=q g (by simp+contextual [IOp.rd]);have A:y.ev t=y.ev s:=q g (by simp+contextual [IOp.rd]);simp only[step,j,A,IOp.dst,St.setO]
 |un d o x=>refine bQ ((unV o (x.ev s)).map λv=>(true,v)) (λt g _=>?_) h;have j:x.ev t=x.ev s:=q g (by simp+contextual [IOp.rd]);simp only[step,j,IOp.dst,St.setO];cases unV o (x.ev s)<;>rfl
 |cvi d k x=>refine bQ (match x.ev s with| .int _ n=>some (true,.int k (k.wrap n))|_=>none) (λt g _=>?_) h;have j:x.ev t=x.ev s:=q g (by simp+contextual [IOp.rd]);simp only[step,j,IOp.dst,St.setO];split<;>first|rfl|(simp_all;done)
 |b2s d x=>refine bQ (match x.ev s with| .sl .u8 _ l=>some (true,.str l)|_=>none) (λt g _=>?_) h;have j:x.ev t=x.ev s:=q g (by simp+contextual [IOp.rd]);simp only[step,j,IOp.dst,St.setO];split<;>first|rfl|(simp_all;done)
 |lens d x=>refine bQ (match x.ev s with| .str l=>some (true,.int .i64 l.length)|_=>none) (λt g _=>?_) h;have j:x.ev t=x.ev s:=q g (by simp+contextual [IOp.rd]);simp only[step,j,IOp.dst,St.setO];split<;>first|rfl|(simp_all;done)
 |lenl d x=>refine bQ (match x.ev s with| .sl _ _ l=>some (true,.int .i64 l.length)|_=>none) (λt g _=>?_) h;have j:x.ev t=x.ev s:=q g (by simp+contextual [IOp.rd]);simp only[step,j,IOp.dst,St.setO];split<;>first|rfl|(simp_all;done)
 |idx d x i=>refine bQ (match x.ev s,i.ev s with| .str l,.int _ i=>some (decide (0<=i)&&decide (i<l.length),.int .u8 (l.getD i.toNat 0).toNat)|_,_=>none) (λt g _=>?_) h;have j:x.ev t=x.ev s:=q g (by simp+contextual [IOp.rd]);have A:i.ev t=i.ev s:=q g (by simp+contextual [IOp.rd]);simp only[step,j,A,IOp.dst,St.setO];split<;>first|rfl|(simp_all;done)
 |ixa d k x i=>
  refine bQ (match x.ev s,i.ev s with| .sl k' _ l,.int _ i=>if k'=k then some (decide (0<=i)&&decide (i<l.length),.ea (enc k' (l.getD i.toNat (ao k')))) else none|_,_=>none) (λt g _=>?_) h;have j:x.ev t=x.ev s:=q g (by simp+contextual [IOp.rd]);have A:i.ev t=i.ev s:=q g (by simp+contextual [IOp.rd]);simp only[step,j,A,IOp.dst,St.setO];split;·split<;>first|rfl|(simp_all;done)
  ·first|rfl|(simp_all;done)
 |subs d x G I=>
  refine bQ (match x.ev s with| .str l=>(acS l.length (jo s G) (jo s I)).map λ(c,a,b)=>(c,.str ((l.take b).drop a))|_=>none) (λt g _=>?_) h;have j:x.ev t=x.ev s:=q g (by simp+contextual [IOp.rd]);have W:jo t G=jo s G:=O g (by simp+contextual [IOp.rd]);have Z:jo t I=jo s I:=O g (by simp+contextual [IOp.rd]);simp only[step,j,W,Z,IOp.dst,St.setO];split;·rename_i l R;simp only[R,CK];rfl
  ·first|rfl|(simp_all;done)
 |subl d k x G I=>
  refine bQ (match x.ev s with| .sl k' _ l=>if k'=k then (acS l.length (jo s G) (jo s I)).map λ(c,a,b)=>(c,.sl k' (.may false) ((l.take b).drop a)) else none|_=>none) (λt g _=>?_) h;have j:x.ev t=x.ev s:=q g (by simp+contextual [IOp.rd]);have W:jo t G=jo s G:=O g (by simp+contextual [IOp.rd]);have Z:jo t I=jo s I:=O g (by simp+contextual [IOp.rd]);simp only[step,j,W,Z,IOp.dst,St.setO];split
  ·rename_i l R;simp only[R];split;·simp only[CK];rfl
   ·rfl
  ·first|rfl|(simp_all;done)
 |bsl d k H u=>
  refine bQ ((decAll k (H.map (·.ev s))).map λl=>(true,.sl k (cond u (.may true) .own) l)) (λt g _=>?_) h;have e:H.map (·.ev t)=H.map (·.ev s):=Bh λx C=>q g (λn w=>by simp only[IOp.rd,AX];exact⟨x,C,w⟩)
  simp only[step,e,IOp.dst,St.setO,CK];rfl
 |bld d zero H=>
  refine bQ ((lay zero (H.map λ(B,n,x)=>(B,n,x.ev s))).map λcs=>(true,.agg cs)) (λt g _=>?_) h;have e:(H.map λ(B,n,x)=>(B,n,x.ev t))=H.map λ(B,n,x)=>(B,n,x.ev s):=Bh λx C=>by
   have:=q (x:=x.2.2) g (λn w=>by simp only[IOp.rd,AX];exact⟨x,C,w⟩);show (x.1,x.2.1,_)=(x.1,x.2.1,_)
   rw[this]
  simp only[step,e,IOp.dst,St.setO,CK];rfl
 |fad d B x=>refine bQ (match x.ev s with| .ea cs=>some (true,.ea (cs.drop B))| .ptr id o=>some (true,.ptr id (o+B))|_=>none) (λt g _=>?_) h;have j:x.ev t=x.ev s:=q g (by simp+contextual [IOp.rd]);simp only[step,j,IOp.dst,St.setO];split<;>first|rfl|(simp_all;done)
 |ld d n agg N x=>
  cases N with
  |true=>simp[IOp.cls] at E
  |false=>
   refine bQ (match x.ev s with| .ea cs=>if n<=cs.length then some (true,disown (loaded agg (cs.take n))) else none| .ptr id o=>(match s.obj id with|some cs=>if o+n<=cs.length then some (true,disown (loaded agg ((cs.drop o).take n))) else none|none=>none)|_=>none) (λt g M=>?_) h;have j:x.ev t=x.ev s:=q g (by simp+contextual [IOp.rd]);have A:∀id,t.obj id=s.obj id:=λid=>by simp only[St.obj];rw[M rfl]
   simp only[step,j,A,IOp.dst,St.setO];split;·split<;>first|rfl|(simp_all;done)
   ·split;·split<;>first|rfl|(simp_all;done)
    ·first|rfl|(simp_all;done)
   ·first|rfl|(simp_all;done)
 |ext d i x=>
  refine bQ (match x.ev s with| .tup vs=>if i<vs.length then some (true,disown (vs.getD i .undef)) else none|_=>none) (λt g _=>?_) h;have j:x.ev t=x.ev s:=q g (by simp+contextual [IOp.rd]);simp only[step,j,IOp.dst,St.setO];split;·split<;>first|rfl|(simp_all;done)
  ·first|rfl|(simp_all;done)
 |nck d x=>refine bQ (match x.ev s with| .ptr id o=>some (true,.ptr id o)| .ea cs=>some (true,.ea cs)| .wp id k i o=>some (true,.wp id k i o)|_=>none) (λt g _=>?_) h;have j:x.ev t=x.ev s:=q g (by simp+contextual [IOp.rd]);simp only[step,j,IOp.dst];split<;>first|rfl|(simp_all;done)
 |mx d mn x y=>
  refine bQ (match x.ev s,y.ev s with| .int k a,.int k' b=>if k=k' then some (true,.int k (if mn then (if b<a then b else a) else (if a<b then b else a))) else none|_,_=>none) (λt g _=>?_) h;have j:x.ev t=x.ev s:=q g (by simp+contextual [IOp.rd]);have A:y.ev t=y.ev s:=q g (by simp+contextual [IOp.rd]);simp only[step,j,A,IOp.dst,St.setO];split;·split<;>first|rfl|(simp_all;done)
  ·first|rfl|(simp_all;done)
 |call d f avs=>
  have Y:imp.contains f=false:=by
   simp only[IOp.cls] at E;split at E;·omega
   ·rename_i Y;simpa using Y
  refine bQ ((Γ f (avs.map λx=>disown (x.ev s)) []).map λx=>(x.1,x.2.1)) (λt g _=>?_) h;have e:(avs.map λx=>disown (x.ev t))=avs.map λx=>disown (x.ev s):=Bh λx C=>by rw[q (x:=x) g (λn w=>by simp only[IOp.rd,AX];exact⟨x,C,w⟩)]
  simp only[step,e,IOp.dst];rw[hP.pure _ _ _ Y];cases Γ f (avs.map λx=>disown (x.ev s)) [] with
  |none=>rfl
  |some p=>rfl
def St.put(s:St)(u:List (Nat×V))(q:Option (List ai)):St:={s.upd u with hp:=q.getD s.hp}
theorem anS(Y:cI Γ imp){o:IOp}(W:∀d k x y,o≠.apo d k x y){s:St}{c:Bool}{s':St}(h:step Γ o s=some (c,s')):
  ∃(u:List (Nat×V))(q:Option (List ai)),(∀p∈u,p.1∈o.wr)∧(o.cls imp<=1->q=none)∧s'=s.put u q∧
   ∀t:St,(∀n∈o.rd,t.get n=s.get n)->(1<=o.cls imp->t.hp=s.hp)->step Γ o t=some (c,t.put u q):=by
 have B:∀{x:ASrc}{l:List Nat}{t:St},(∀n∈l,t.get n=s.get n)->(∀n∈x.slots,n∈l)->x.ev t=x.ev s:=λS R=>b8 λn H=>S n (R n H)
 by_cases M:o.cls imp<=1;·obtain⟨u,S,R,Z⟩:=aqL Y M h;exact⟨u,none,S,λ_=>rfl,R,λt a g=>Z t a (λe=>g (by omega))⟩
 ·have b:∀{q:Option (List ai)},o.cls imp<=1->q=none:=λh=>absurd h M
  cases o with
  |new d zero=>
   obtain⟨rfl,rfl⟩:true=c∧_=s':=by simpa [step] using h
   refine⟨[(d,.ptr s.hp.length 0)],some (s.hp++[some zero]),by simp[IOp.wr,IOp.dst],b,rfl,λt a g=>?_⟩;have e:=g (by simp[IOp.cls]);simp only[step,e];rfl
  |newb d zero=>
   obtain⟨rfl,rfl⟩:true=c∧_=s':=by simpa [step] using h
   refine⟨[(d,.ptr s.hp.length 0)],some (s.hp++[some zero]),by simp[IOp.wr,IOp.dst],b,rfl,λt a g=>?_⟩;have e:=g (by simp[IOp.cls]);simp only[step,e];rfl
  |apo d k x y=>exact absurd rfl (W d k x y)
  |stw d n x v=>
   simp only[step] at h;split at h
   ·rename_i id k i o j;cases C:s.rowW id with
    |none=>rw[C] at h;simp at h
    |some p=>
     obtain⟨k',xs⟩:=p;rw[C] at h;simp only at h;split at h
     ·rename_i A;cases P:wt k' (xs.getD i (ao k')) o (v.ev s).cells with
      |none=>rw[P] at h;simp at h
      |some x2=>
       rw[P] at h;simp only[Ai,Ao] at h;obtain⟨rfl,rfl⟩:=h;refine⟨d.toList.map (λd=>(d,V.undef)),some (s.hp.set id (some [.rw k' (xs.set i x2)])),?_,b,?_,?_⟩;·intro p hp;simp only[AG] at hp;obtain⟨m,D,rfl⟩:=hp;simp[IOp.wr,IOp.dst,D]
       ·simp only[St.put,<-cM];cases d<;>rfl
       ·intro t a g;have e:=g (by simp[IOp.cls]);have w:x.ev t=x.ev s:=B a (by simp+contextual [IOp.rd]);have I:v.ev t=v.ev s:=B a (by simp+contextual [IOp.rd]);have F:t.rowW id=some ⟨k',xs⟩:=by rw[<-C];simp only[St.rowW];rw[e]
        simp only[step,w,I,j,F];rw[if_pos A,P,<-e];simp only[St.put,<-cM];cases d<;>rfl
     ·simp at h
   ·simp at h
  |mkm d k=>
   obtain⟨rfl,rfl⟩:true=c∧_=s':=by simpa [step] using h
   refine⟨[(d,.mr s.hp.length)],some (s.hp++[some [.mp k []]]),by simp[IOp.wr,IOp.dst],b,rfl,λt a g=>?_⟩;have e:=g (by simp[IOp.cls]);simp only[step,e];rfl
  |mput d k x y z=>
   simp only[step] at h;split at h
   ·rename_i id j;split at h
    ·rename_i k' es C;split at h
     ·rename_i Q;split at h
      ·rename_i key v hy X;simp only[Ai,Ao] at h;obtain⟨rfl,rfl⟩:=h;refine⟨d.toList.map (λd=>(d,V.undef)),some (s.hp.set id (some [.mp k' (cE es key v)])),?_,b,?_,?_⟩;·intro p hp;simp only[AG] at hp;obtain⟨m,D,rfl⟩:=hp;simp[IOp.wr,IOp.dst,D]
       ·simp only[St.put,<-cM];cases d<;>rfl
       ·intro t a g;have e:=g (by simp[IOp.cls]);have w:x.ev t=x.ev s:=B a (by simp+contextual [IOp.rd]);have I:y.ev t=y.ev s:=B a (by simp+contextual [IOp.rd]);have N:z.ev t=z.ev s:=B a (by simp+contextual [IOp.rd]);have F:t.mapO id=s.mapO id:=by simp only[St.mapO];rw[e]
        simp only[step,w,I,N,F,j,C,hy,X];rw[if_pos Q,<-e];simp only[St.put,<-cM];cases d<;>rfl
      ·simp at h
     ·simp at h
    ·simp at h
   ·simp at h
  |box d x=>
   have w:∀t:St,(∀n∈(IOp.box d x).rd,t.get n=s.get n)->x.ev t=x.ev s:=λt a=>B a (by simp+contextual [IOp.rd])
   simp only[step] at h;split at h;·rename_i cs j;simp only[Ai,Ao] at h;obtain⟨rfl,rfl⟩:=h;refine⟨[(d,.ptr s.hp.length 0)],some (s.hp++[some cs]),by simp[IOp.wr,IOp.dst],b,rfl,λt a g=>?_⟩;have e:=g (by simp[IOp.cls]);simp only[step,w t a,j,e];rfl
   ·rename_i j;split at h;·rename_i J;simp only[Ai,Ao] at h;obtain⟨rfl,rfl⟩:=h;refine⟨[(d,.ptr s.hp.length 0)],some (s.hp++[some [disown (x.ev s)]]),by simp[IOp.wr,IOp.dst],b,rfl,λt a g=>?_⟩;have e:=g (by simp[IOp.cls]);simp only[step,w t a,e];rw[if_pos J];rfl
    ·simp at h
  |st d n x v=>
   simp only[step] at h;split at h
   ·rename_i id o j;split at h
    ·rename_i cs C;split at h
     ·rename_i A;simp only[Ai,Ao] at h;obtain⟨rfl,rfl⟩:=h;refine⟨v.takes.map (λn=>(n,disown (s.get n)))++d.toList.map (λd=>(d,V.undef)),some (s.hp.set id (some (cs.take o++(v.ev s).cells++cs.drop (o+n)))),?_,b,?_,?_⟩
      ·intro p hp;simp only[Az,AG] at hp;rcases hp with⟨m,D,rfl⟩|⟨m,D,rfl⟩
       ·simp[IOp.wr,IOp.dst,D]
       ·simp[IOp.wr,IOp.dst,D]
      ·simp only[St.put,<-jU,<-fg,<-cM];cases d<;>cases v<;>rfl
      ·intro t a g;have e:=g (by simp[IOp.cls]);have w:x.ev t=x.ev s:=B a (by simp+contextual [IOp.rd]);have I:v.ev t=v.ev s:=B a (by simp+contextual [IOp.rd]);have F:t.obj id=s.obj id:=by simp only[St.obj];rw[e]
       have N:v.takes.map (λn=>(n,disown (t.get n)))=v.takes.map (λn=>(n,disown (s.get n))):=by
        cases v with
        |tk n=>simp only[ASrc.takes,List.map];rw[a n (by simp[IOp.rd,ASrc.slots])]
        |_=>rfl
       simp only[step,w,I,F,j,C];rw[if_pos A,<-N,<-e];simp only[St.put,<-jU,<-fg,<-cM];cases d<;>cases v<;>rfl
     ·simp at h
    ·simp at h
   ·simp at h
  |ld d n agg L x=>
   cases L with
   |false=>simp[IOp.cls] at M
   |true=>
    have w:∀t:St,(∀m∈(IOp.ld d n agg true x).rd,t.get m=s.get m)->x.ev t=x.ev s:=λt a=>B a (by simp+contextual [IOp.rd])
    simp only[step] at h;split at h
    ·rename_i cs j;split at h;·rename_i G;simp only[Ai,Ao] at h;obtain⟨rfl,rfl⟩:=h;refine⟨[(d,_)],none,by simp[IOp.wr,IOp.dst],b,rfl,λt a g=>?_⟩;simp only[step,w t a,j];rw[if_pos G];rfl
     ·simp at h
    ·rename_i id o j;split at h
     ·rename_i cs C;split at h
      ·rename_i G;simp only[if_true] at h;cases E:noBn (cs.getD o .undef) with
       |false=>rw[E] at h;simp at h
       |true=>
       rw[E] at h;simp only[if_true,Ai,Ao] at h;obtain⟨rfl,rfl⟩:=h;refine⟨[(d,loaded agg ((cs.drop o).take n))],some (s.hp.set id (some (cs.set o (disown (cs.getD o .undef))))),by simp[IOp.wr,IOp.dst],b,rfl,λt a g=>?_⟩;have e:=g (by simp[IOp.cls]);have F:t.obj id=s.obj id:=by simp only[St.obj];rw[e]
       simp only[step,w t a,j,F,C];rw[if_pos G,E,<-e];rfl
      ·simp at h
     ·simp at h
    ·simp at h
  |callz d f avs=>
   have w:∀t:St,(∀n∈(IOp.callz d f avs).rd,t.get n=s.get n)->(avs.map λx=>disown (x.ev t))=avs.map λx=>disown (x.ev s):=λt a=>Bh λx j=>by rw[B (x:=x) a (λn H=>by simp only[IOp.rd,AX];exact⟨x,j,H⟩)]
   simp only[step] at h;split at h;·rename_i c' v hp' O;simp only[Ai,Ao] at h;obtain⟨rfl,rfl⟩:=h;refine⟨[(d,v.laid)],some hp',by simp[IOp.wr,IOp.dst],b,rfl,λt a g=>?_⟩;have e:=g (by simp[IOp.cls]);simp only[step,w t a,e,O];rfl
   ·simp at h
  |call d f avs=>
   have w:∀t:St,(∀n∈(IOp.call d f avs).rd,t.get n=s.get n)->(avs.map λx=>disown (x.ev t))=avs.map λx=>disown (x.ev s):=λt a=>Bh λx j=>by rw[B (x:=x) a (λn H=>by simp only[IOp.rd,AX];exact⟨x,j,H⟩)]
   simp only[step] at h;split at h
   ·rename_i c' v hp' O;simp only[Ai,Ao] at h;obtain⟨rfl,rfl⟩:=h;refine⟨d.toList.map (λd=>(d,v)),some hp',?_,b,?_,λt a g=>?_⟩;·intro p hp;simp only[AG] at hp;obtain⟨m,D,rfl⟩:=hp;simp[IOp.wr,IOp.dst,D]
    ·simp only[St.put,<-cM];cases d<;>rfl
    ·have e:=g (by omega);simp only[step,w t a,e,O];simp only[St.put,<-cM];cases d<;>rfl
   ·simp at h
  |_=>simp[IOp.cls] at M
theorem abB(s:St)(u:List (Nat×V)):(s.upd u).env.length=s.env.length:=by
 have:∀(u:List (Nat×V))(e:List V),(u.foldl (λe p=>e.set p.1 p.2) e).length=e.length:=by
  intro u;induction u with
  |nil=>intro e;rfl
  |cons p u a=>intro e;rw[BS,a,AO]
 exact this u s.env
theorem apw(D:cI Γ imp){o:IOp}{s:St}{c:Bool}{s':St}(h:step Γ o s=some (c,s')):
  ∃(u:List (Nat×V))(q:Option (List ai)),(∀p∈u,p.1∈o.wr)∧(o.cls imp<=1->q=none)∧s'=s.put u q∧
   ∀t:St,(∀n∈o.rd,t.get n=s.get n)->(1<=o.cls imp->t.hp=s.hp∧t.env.length=s.env.length)->step Γ o t=some (c,t.put u q):=by
 by_cases w:∃d k x y,o=.apo d k x y
 ·obtain⟨d,k,x,y,rfl⟩:=w;have m:∀{t:St},(∀n'∈(IOp.apo d k x y).rd,t.get n'=s.get n')->x.ev t=x.ev s:=λa=>b8 λn b=>a n (by simp[IOp.rd,b])
  have f:∀{t:St},(∀n'∈(IOp.apo d k x y).rd,t.get n'=s.get n')->y.ev t=y.ev s:=λa=>b8 λn b=>a n (by simp[IOp.rd,b])
  simp only[step] at h;split at h
  ·rename_i v l M O A E I;split at h
   ·rename_i B;split at h
    ·rename_i i;split at h
     ·rename_i hd;simp only[Ai,Ao] at h;obtain⟨rfl,rfl⟩:=h;refine⟨(x.takes.map λn=>(n,disown (s.get n)))++[(d,.sw v s.hp.length (l++(i▸A)).length)],some (s.hp++[some [.rw v (l++(i▸A))],none]),?_,λL=>by simp[IOp.cls] at L,?_,λt a j=>?_⟩
      ·intro p hp;simp only[Az,AG,Au] at hp;rcases hp with⟨n,b,rfl⟩|rfl;·simp[IOp.wr,IOp.dst,b]
       ·simp[IOp.wr,IOp.dst]
      ·rw[fg];simp[St.put,St.upd,St.set]
      ·obtain⟨e,N⟩:=j (by simp[IOp.cls]);have g:d<t.env.length:=by omega
       simp only[step,m a,f a,E,I,dif_pos i,if_pos B,if_pos g,e];have C:(x.takes.map λn=>(n,disown (t.get n)))=x.takes.map λn=>(n,disown (s.get n)):=Bh λn b=>by rw[a n (by cases x<;>simp[ASrc.takes] at b<;>subst b<;>simp[IOp.rd,ASrc.slots])]
       rw[fg,C];simp[St.put,St.upd,St.set]
     ·cases h
    ·cases h
   ·cases h
  ·cases h
 ·obtain⟨u,q,H,J,G,F⟩:=anS D (λd k x y e=>w ⟨d,k,x,y,e⟩) h;exact⟨u,q,H,J,G,λt a j=>F t a (λe=>(j e).1)⟩
def cX(Γ:aq)(x:GOp)(s:St):Option St:=
 match x.g with
 |none=>match stepO Γ x.ob x.o s with|some (c,s')=>chk c (some s')|none=>none
 |some (g,w)=>match s.get g with
  | .bool b=>match b==w with
    |true=>match stepO Γ x.ob x.o s with|some (c,s')=>chk c (some s')|none=>none
    |false=>some (s.setO x.o.dst (.tup []))
  | .tup []=>some (s.setO x.o.dst (.tup []))
  |_=>none
theorem auu(s:St)(n:Nat){v:V}(h:s.get n=v):s.set n v=s:=by
 subst h;simp only[St.set,St.get,An]
 congr 1
 apply Db;intro m;rw[Ay];split
 ·rename_i e;subst e;split;·rename_i a;simp[Ab a]
  ·rename_i a;simp[Ba (Dh a)]
 ·rfl
theorem mZ{R:Type}(x:GOp)(l:List GOp)(K:St->Option R)(s:St):runOps Γ (x::l) K s=(cX Γ x s).bind (runOps Γ l K):=by
 obtain⟨g,o,h⟩:=x;have f:∀s,(match stepO Γ h o s with|some (c,s')=>chk c (runOps Γ l K s')|none=>none)=(match stepO Γ h o s with|some (c,s')=>chk c (some s')|none=>none).bind (runOps Γ l K):=by
  intro s;split;·rename_i c s' _;cases c<;>rfl
  ·rfl
 cases g with
 |none=>simp only[runOps,cX];exact f s
 |some g=>
  obtain⟨g,w⟩:=g;simp only[runOps,cX];split;·rename_i b a;rw[a];cases b<;>cases w<;>simp only[cond_true,cond_false,auu s g a]<;>first|exact f s|rfl
  ·rename_i a;rw[a];rfl
  ·rename_i e d;split;·rename_i b a;exact absurd a (e b)
   ·rename_i a;exact absurd a d
   ·rfl
theorem ar4{o:IOp}{s t:St}(h:∀n∈o.rd,t.get n=s.get n):o.foot t=o.foot s:=by
 cases o with
 |ld d n agg b x=>simp only[IOp.foot];rw[b8 (x:=x) h]
 |st d n x v=>simp only[IOp.foot];rw[b8 (x:=x) λn a=>h n (by simp[IOp.rd,a])]
 |call d f avs=>
  have e:avs.map (λx=>disown (x.ev t))=avs.map (λx=>disown (x.ev s)):=Bh λx g=>by rw[b8 λn a=>h n (by simp only[IOp.rd,AX];exact⟨x,g,a⟩)]
  simp only[IOp.foot,e]
 |ldw d n agg x=>simp only[IOp.foot];rw[b8 (x:=x) h]
 |stw d n x v=>simp only[IOp.foot];rw[b8 (x:=x) λn a=>h n (by simp[IOp.rd,a])]
 |_=>rfl
theorem qE{a:Option (List Nat×List Nat)}{o:IOp}{s t:St}{p q:Bool×St}(h:stepO Γ a o s=some p)(f:∀n∈o.rd,t.get n=s.get n)(b:step Γ o t=some q):stepO Γ a o t=some q:=by
 cases a with
 |none=>exact b
 |some l=>
  simp only[stepO] at h ⊢;have e:o.within l t=o.within l s:=by simp only[IOp.within,ar4 f]
  rw[e];cases d:o.within l s with
  |true=>exact b
  |false=>rw[d] at h;simp at h
def GOp.rd(x:GOp):List Nat:=(match x.g with|some (g,_)=>[g]|none=>[])++x.o.rd
theorem afs(H:cI Γ imp){x:GOp}{s s':St}(h:cX Γ x s=some s'):
  ∃(u:List (Nat×V))(q:Option (List ai)),(∀p∈u,p.1∈x.o.wr)∧(x.o.cls imp<=1->q=none)∧s'=s.put u q∧
   ∀t:St,(∀n∈x.rd,t.get n=s.get n)->(1<=x.o.cls imp->t.hp=s.hp∧t.env.length=s.env.length)->cX Γ x t=some (t.put u q):=by
 obtain⟨g,o,G⟩:=x
 have F:(match stepO Γ G o s with|some (c,s')=>chk c (some s')|none=>none)=some s'->∃(u:List (Nat×V))(q:Option (List ai)),(∀p∈u,p.1∈o.wr)∧(o.cls imp<=1->q=none)∧s'=s.put u q∧
   ∀t:St,(∀n∈o.rd,t.get n=s.get n)->(1<=o.cls imp->t.hp=s.hp∧t.env.length=s.env.length)->(match stepO Γ G o t with|some (c,s')=>chk c (some s')|none=>none)=some (t.put u q):=by
  intro h;split at h
  ·rename_i c k v;cases c with
   |false=>simp[chk] at h
   |true=>
    obtain rfl:k=s':=by simpa [chk] using h
    obtain⟨u,q,B,A,y,j⟩:=apw H (lN v);exact⟨u,q,B,A,y,λt a f=>by rw[qE v a (j t a f)];rfl⟩
  ·simp at h
 cases g with
 |none=>obtain⟨u,q,B,A,y,j⟩:=F h;exact⟨u,q,B,A,y,λt a f=>j t (λn E=>a n (by simp[GOp.rd,E])) f⟩
 |some g=>
  obtain⟨g,w⟩:=g;simp only[cX] at h;split at h
  ·rename_i b C;split at h;·rename_i i;obtain⟨u,q,B,A,y,j⟩:=F h;refine⟨u,q,B,A,y,λt a f=>?_⟩;have e:=a g (by simp[GOp.rd]);simp only[cX,e,C,i];exact j t (λn E=>a n (by simp[GOp.rd,E])) f
   ·rename_i i;obtain rfl:_=s':=by simpa using h
    refine⟨o.dst.toList.map (λd=>(d,V.tup [])),none,?_,λ_=>rfl,by rw[cM];rfl,λt a f=>?_⟩;·intro p hp;simp only[AG] at hp;obtain⟨m,D,rfl⟩:=hp;simp[IOp.wr,D]
    ·have e:=a g (by simp[GOp.rd]);simp only[cX,e,C,i];rw[cM];rfl
  ·rename_i C;obtain rfl:_=s':=by simpa using h
   refine⟨o.dst.toList.map (λd=>(d,V.tup [])),none,?_,λ_=>rfl,by rw[cM];rfl,λt a f=>?_⟩;·intro p hp;simp only[AG] at hp;obtain⟨m,D,rfl⟩:=hp;simp[IOp.wr,D]
   ·have e:=a g (by simp[GOp.rd]);simp only[cX,e,C];rw[cM];rfl
  ·simp at h
def ahW(a b:List Nat):Bool:=a.all λn=> !b.contains n
def IOp.obable(imp:List Nat):IOp->Bool
 | .ld .. | .st .. | .ldw .. | .stw ..=>true
 | .call _ f _=>imp.contains (f+2000000)
 |_=>false
def apart(imp:List Nat)(x y:GOp):Bool:=(x.o.obable imp&&y.o.obable imp)&&(match x.ob,y.ob with
 |some (r,w),some (a,w')=>ahW w a&&(ahW w w'&&ahW w' r)
 |_,_=>false)
def ar5(x y:GOp):Bool:=match x.g,y.g,x.o,y.o with
 |none,none,.ld _ _ _ true _,.ld _ _ _ false _=>true
 |none,none,.ld _ _ _ false _,.ld _ _ _ true _=>true
 |_,_,_,_=>false
def ac1(imp:List Nat)(x y:GOp):Bool:=
 ahW x.o.wr y.rd&&(ahW y.o.wr x.rd&&(ahW x.o.wr y.o.wr&&(((Cs (x.o.cls imp) 1||AD (y.o.cls imp) 0)&&(Cs (y.o.cls imp) 1||AD (x.o.cls imp) 0))||(apart imp x y||ar5 x y))))
def St.putH(s:St)(u:List (Nat×V))(q:List (Nat×ai)):St:={s.upd u with hp:=afq s.hp q}
theorem ahX{s t:St}{i:Nat}(h:t.hp[i]? =s.hp[i]?):t.obj i=s.obj i:=by unfold St.obj;rw[aad h]
theorem alO{s t:St}{i:Nat}(h:t.hp[i]? =s.hp[i]?):t.rowW i=s.rowW i:=by unfold St.rowW;rw[aad h]
theorem ar6(J:cI Γ imp){o:IOp}(F:o.obable imp=true){s:St}{c:Bool}{s':St}{r w:List Nat}(y:o.foot s=some (r,w))(h:step Γ o s=some (c,s')):
  ∃(u:List (Nat×V))(q:List (Nat×ai)),(∀p∈u,p.1∈o.wr)∧(∀p∈q,p.1∈w)∧s'=s.putH u q∧
   ∀t:St,(∀n∈o.rd,t.get n=s.get n)->t.hp.length=s.hp.length->(∀i,i∈r∨i∈w->t.hp[i]? =s.hp[i]?)->step Γ o t=some (c,t.putH u q):=by
 cases o with
 |ld d n agg D x=>
  have B:∀t:St,(∀n∈(IOp.ld d n agg D x).rd,t.get n=s.get n)->x.ev t=x.ev s:=λt b=>b8 b
  cases g:x.ev s with
  |ea cs=>
   simp only[step,g] at h;split at h;·rename_i j;simp only[Ai,Ao] at h;obtain⟨rfl,rfl⟩:=h;refine⟨[(d,disown (loaded agg (cs.take n)))],[],by simp[IOp.wr,IOp.dst],by simp,rfl,λt b _ _=>?_⟩;simp only[step,B t b,g,if_pos j];rfl
   ·simp at h
  |ptr id o=>
   simp only[IOp.foot,g,Ai] at y;simp only[step,g] at h;cases a:s.obj id with
   |none=>rw[a] at h;simp at h
   |some cs=>
    rw[a] at h;simp only at h;split at h
    ·rename_i j;cases D with
     |false=>simp only[cond_false,Ao] at y;obtain⟨rfl,rfl⟩:=y;simp only[CD,if_false,Ai,Ao] at h;obtain⟨rfl,rfl⟩:=h;refine⟨[(d,disown (loaded agg ((cs.drop o).take n)))],[],by simp[IOp.wr,IOp.dst],by simp,rfl,λt b _ A=>?_⟩;have e:=ahX (A id (.inl (by simp)));simp only[step,B t b,g,e,a,if_pos j];rfl
     |true=>
      simp only[cond_true,Ao] at y;obtain⟨rfl,rfl⟩:=y;simp only[if_true] at h;split at h;·rename_i H;simp only[Ai,Ao] at h;obtain⟨rfl,rfl⟩:=h;refine⟨[(d,loaded agg ((cs.drop o).take n))],[(id,some (cs.set o (disown (cs.getD o .undef))))],by simp[IOp.wr,IOp.dst],by simp,rfl,λt b _ A=>?_⟩;have e:=ahX (A id (.inr (by simp)));simp only[step,B t b,g,e,a,if_pos j,if_true,if_pos H];rfl
      ·simp at h
    ·simp at h
  |_=>simp[IOp.foot,g] at y
 |st d n x v=>
  have B:∀t:St,(∀n∈(IOp.st d n x v).rd,t.get n=s.get n)->x.ev t=x.ev s:=λt b=>b8 λn j=>b n (by simp[IOp.rd,j])
  have ev:∀t:St,(∀n∈(IOp.st d n x v).rd,t.get n=s.get n)->v.ev t=v.ev s:=λt b=>b8 λn j=>b n (by simp[IOp.rd,j])
  have ea:∀t:St,(∀n∈(IOp.st d n x v).rd,t.get n=s.get n)->v.takes.map (λn=>(n,disown (t.get n)))=v.takes.map (λn=>(n,disown (s.get n))):=by
   intro t b;cases v with
   |tk m=>simp only[ASrc.takes,List.map];rw[b m (by simp[IOp.rd,ASrc.slots])]
   |_=>rfl
  cases g:x.ev s with
  |ptr id o=>
   simp only[IOp.foot,g,Ai,Ao] at y;obtain⟨rfl,rfl⟩:=y;simp only[step,g] at h;cases a:s.obj id with
   |none=>rw[a] at h;simp at h
   |some cs=>
    rw[a] at h;simp only at h;split at h
    ·rename_i j;simp only[Ai,Ao] at h;obtain⟨rfl,rfl⟩:=h;refine⟨v.takes.map (λn=>(n,disown (s.get n)))++d.toList.map (λd=>(d,V.undef)),[(id,some (cs.take o++(v.ev s).cells++cs.drop (o+n)))],?_,by simp,?_,λt b _ A=>?_⟩
     ·intro p hp;simp only[Az,AG] at hp;rcases hp with⟨m,C,rfl⟩|⟨m,C,rfl⟩
      ·simp[IOp.wr,IOp.dst,C]
      ·simp only[DZ] at C;simp[IOp.wr,IOp.dst,C]
     ·rw[fg,cM];simp only[St.putH,<-jU];rfl
     ·have e:=ahX (A id (.inr (by simp)));simp only[step,B t b,ev t b,g,e,a,if_pos j];rw[fg,cM,ea t b];simp only[St.putH,<-jU];rfl
    ·simp at h
  |_=>simp[IOp.foot,g] at y
 |call d f avs=>
  have e:∀t:St,(∀n∈(IOp.call d f avs).rd,t.get n=s.get n)->avs.map (λx=>disown (x.ev t))=avs.map (λx=>disown (x.ev s)):=λt b=>Bh λx g=>by rw[b8 λn j=>b n (by simp only[IOp.rd,AX];exact⟨x,g,j⟩)]
  simp only[IOp.foot,Ai,Ao] at y;obtain⟨rfl,rfl⟩:=y;simp only[step] at h;split at h
  ·rename_i Q I hp' M;simp only[Ai,Ao] at h;obtain⟨rfl,rfl⟩:=h;obtain⟨q,N,rfl,G⟩:=J.loc f _ _ _ _ _ F M;refine⟨d.toList.map (λd=>(d,I)),q,?_,N,?_,λt b L A=>?_⟩;·intro p hp;simp only[AG,DZ] at hp;obtain⟨m,C,rfl⟩:=hp;simp[IOp.wr,IOp.dst,C]
   ·rw[cM];rfl
   ·have:=G t.hp L (λi P=>A i (.inl P));simp only[step,e t b,this];rw[cM];rfl
  ·simp at h
 |ldw d n agg x=>
  have B:∀t:St,(∀n∈(IOp.ldw d n agg x).rd,t.get n=s.get n)->x.ev t=x.ev s:=λt b=>b8 b
  cases g:x.ev s with
  |wp id k i o=>
   simp only[IOp.foot,g,Ai,Ao] at y;obtain⟨rfl,rfl⟩:=y;simp only[step,g] at h;cases a:s.rowW id with
   |none=>rw[a] at h;simp at h
   |some p=>
    obtain⟨k',xs⟩:=p;rw[a] at h;simp only at h;split at h;·rename_i j;simp only[Ai,Ao] at h;obtain⟨rfl,rfl⟩:=h;refine⟨[(d,disown (loaded agg (((enc k' (xs.getD i (ao k'))).drop o).take n)))],[],by simp[IOp.wr,IOp.dst],by simp,rfl,λt b _ A=>?_⟩;have e:=alO (A id (.inl (by simp)));simp only[step,B t b,g,e,a,if_pos j];rfl
    ·simp at h
  |_=>simp[IOp.foot,g] at y
 |stw d n x v=>
  have B:∀t:St,(∀n∈(IOp.stw d n x v).rd,t.get n=s.get n)->x.ev t=x.ev s:=λt b=>b8 λn j=>b n (by simp[IOp.rd,j])
  have ev:∀t:St,(∀n∈(IOp.stw d n x v).rd,t.get n=s.get n)->v.ev t=v.ev s:=λt b=>b8 λn j=>b n (by simp[IOp.rd,j])
  cases g:x.ev s with
  |wp id k i o=>
   simp only[IOp.foot,g,Ai,Ao] at y;obtain⟨rfl,rfl⟩:=y;simp only[step,g] at h;cases a:s.rowW id with
   |none=>rw[a] at h;simp at h
   |some p=>
    obtain⟨k',xs⟩:=p;rw[a] at h;simp only at h;split at h
    ·rename_i j;cases E:wt k' (xs.getD i (ao k')) o (v.ev s).cells with
     |none=>rw[E] at h;simp at h
     |some O=>
      rw[E] at h;simp only[Ai,Ao] at h;obtain⟨rfl,rfl⟩:=h;refine⟨d.toList.map (λd=>(d,V.undef)),[(id,some [.rw k' (xs.set i O)])],?_,by simp,?_,λt b _ A=>?_⟩;·intro p hp;simp only[AG,DZ] at hp;obtain⟨m,C,rfl⟩:=hp;simp[IOp.wr,IOp.dst,C]
      ·rw[cM];rfl
      ·have e:=alO (A id (.inr (by simp)));simp only[step,B t b,ev t b,g,e,a,if_pos j,E];rw[cM];rfl
    ·simp at h
  |_=>simp[IOp.foot,g] at y
 |_=>simp[IOp.obable] at F
theorem apx{o:IOp}{R W:List Nat}{s:St}(h:o.within (R,W) s=true):∃r w,o.foot s=some (r,w)∧(∀i∈r,i∈R∨i∈W)∧∀i∈w,i∈W:=by
 unfold IOp.within at h;split at h
 ·rename_i r w d;simp only[Ac,Ap,A7,Cu] at h;refine⟨r,w,d,?_,?_⟩
  ·intro i b;rcases h.1 i b with⟨j,a,e⟩|⟨j,a,e⟩
   ·left;rw[AS e];exact a
   ·right;rw[AS e];exact a
  ·intro i b;obtain⟨j,a,e⟩:=h.2 i b;rw[AS e];exact a
 ·simp at h
theorem aiS(P:cI Γ imp){x:GOp}{R W:List Nat}(O:x.o.obable imp=true)(M:x.ob=some (R,W)){s s':St}(h:cX Γ x s=some s'):
  ∃(u:List (Nat×V))(q:List (Nat×ai)),(∀p∈u,p.1∈x.o.wr)∧(∀p∈q,p.1∈W)∧s'=s.putH u q∧
   ∀t:St,(∀n∈x.rd,t.get n=s.get n)->t.hp.length=s.hp.length->(∀i,i∈R∨i∈W->t.hp[i]? =s.hp[i]?)->cX Γ x t=some (t.putH u q):=by
 obtain⟨g,o,X⟩:=x;obtain rfl:X=some (R,W):=M
 have N:(match stepO Γ (some (R,W)) o s with|some (c,s')=>chk c (some s')|none=>none)=some s'->∃(u:List (Nat×V))(q:List (Nat×ai)),(∀p∈u,p.1∈o.wr)∧(∀p∈q,p.1∈W)∧s'=s.putH u q∧
   ∀t:St,(∀n∈o.rd,t.get n=s.get n)->t.hp.length=s.hp.length->(∀i,i∈R∨i∈W->t.hp[i]? =s.hp[i]?)->(match stepO Γ (some (R,W)) o t with|some (c,s')=>chk c (some s')|none=>none)=some (t.putH u q):=by
  intro h;split at h
  ·rename_i c E v;cases c with
   |false=>simp[chk] at h
   |true=>
    obtain rfl:E=s':=by simpa [chk] using h
    have J:o.within (R,W) s=true:=by
     cases J:o.within (R,W) s with
     |true=>rfl
     |false=>simp[stepO,J] at v
    obtain⟨r,w,Y,S,G⟩:=apx J;obtain⟨u,q,H,D,C,A⟩:=ar6 P O Y (lN v);exact⟨u,q,H,λp hp=>G _ (D p hp),C,λt a B y=>by rw[qE v a (A t a B (λi F=>F.elim (λF=>y i (S i F)) (λF=>y i (.inr (G i F)))))];rfl⟩
  ·simp at h
 have f:∀s:St,s.setO o.dst (.tup [])=s.putH (o.dst.toList.map λd=>(d,V.tup [])) []:=λs=>by rw[cM];rfl
 have j:∀p∈o.dst.toList.map λd=>(d,V.tup []),p.1∈o.wr:=by intro p hp;simp only[AG] at hp;obtain⟨m,Q,rfl⟩:=hp;simp[IOp.wr,Q]
 cases g with
 |none=>obtain⟨u,q,H,D,C,A⟩:=N h;exact⟨u,q,H,D,C,λt a=>A t (λn L=>a n (by simp[GOp.rd,L]))⟩
 |some g=>
  obtain⟨g,w⟩:=g;simp only[cX] at h;split at h
  ·rename_i b I;split at h;·rename_i k;obtain⟨u,q,H,D,C,A⟩:=N h;refine⟨u,q,H,D,C,λt a B y=>?_⟩;have e:=a g (by simp[GOp.rd]);simp only[cX,e,I,k];exact A t (λn L=>a n (by simp[GOp.rd,L])) B y
   ·rename_i k;obtain rfl:_=s':=by simpa using h
    refine⟨_,[],j,by simp,f s,λt a B y=>?_⟩;have e:=a g (by simp[GOp.rd]);simp only[cX,e,I,k];rw[f]
  ·rename_i I;obtain rfl:_=s':=by simpa using h
   refine⟨_,[],j,by simp,f s,λt a B y=>?_⟩;have e:=a g (by simp[GOp.rd]);simp only[cX,e,I];rw[f]
  ·simp at h
theorem s8{a b:List Nat}(h:ahW a b=true):∀n∈a,n ∉ b:=by intro n d;have:=Ap.1 h n d;simpa using this
theorem akk{α:Type}(u:List (Nat×α)):∀(e:List α)(n:Nat)(v:α),(∀p∈u,p.1≠n)->u.foldl (λe p=>e.set p.1 p.2) (e.set n v)=(u.foldl (λe p=>e.set p.1 p.2) e).set n v:=by
 induction u with
 |nil=>intro e n v _;rfl
 |cons p u a=>intro e n v h;simp only[BS];rw[DV _ _ (Ci (h p (AY ..))),a _ _ _ (λq b=>h q (AL _ b))]
theorem sN{α:Type}(v:List (Nat×α)):∀(u:List (Nat×α))(e:List α),(∀p∈u,∀q∈v,p.1≠q.1)->
  v.foldl (λe p=>e.set p.1 p.2) (u.foldl (λe p=>e.set p.1 p.2) e)=u.foldl (λe p=>e.set p.1 p.2) (v.foldl (λe p=>e.set p.1 p.2) e):=by
 induction v with
 |nil=>intro u e _;rfl
 |cons q v b=>intro u e h;simp only[BS];rw[<-akk u e q.1 q.2 (λp hp=>h p hp q (AY ..)),b u _ (λp hp r a=>h p hp r (AL _ a))]
theorem auv{s:St}{id:Nat}{cs:List V}(h:s.obj id=some cs)(i:Nat):(s.setObj id (cs.set i (disown (cs.getD i .undef)))).obj id=some (cs.set i (disown (cs.getD i .undef))):=by
 have a:id<s.hp.length:=by
  rcases AH id s.hp.length with a|a;·exact a
  ·unfold St.obj at h;rw[Al,Ba a] at h;simp at h
 have t:s.hp.getD id none=some cs∧(∀xs,cs≠[.rb xs])∧(∀k xs,cs≠[.rw k xs])∧(∀k xs,cs≠[.mp k xs])∧(∀xs,cs≠[.tup xs]):=by
  unfold St.obj at h;split at h;·simp at h
  ·simp at h
  ·simp at h
  ·simp at h
  ·rename_i p v u m;refine⟨h,λxs e=>?_,λk xs e=>?_,λk xs e=>?_,λxs e=>?_⟩;·subst e;exact p _ h
   ·subst e;exact v _ _ h
   ·subst e;exact u _ _ h
   ·subst e;exact m _ h
 obtain⟨w,f,b,d,g⟩:=t;have q:(s.setObj id (cs.set i (disown (cs.getD i .undef)))).hp.getD id none=some (cs.set i (disown (cs.getD i .undef))):=by simp[St.setObj,Al,a]
 unfold St.obj;rw[q];match cs,i with
 | [],i=>rfl
 | [c],0=>
   simp only[Cw,CA];cases c with
   |rb xs=>exact absurd rfl (f xs)
   |rw k xs=>exact absurd rfl (b k xs)
   |mp k xs=>exact absurd rfl (d k xs)
   |tup xs=>exact absurd rfl (g xs)
   |sl k o xs=>cases o<;>rfl
   |_=>rfl
 | [c],i+1=>
   simp only[C1,List.set_nil];cases c with
   |rb xs=>exact absurd rfl (f xs)
   |rw k xs=>exact absurd rfl (b k xs)
   |mp k xs=>exact absurd rfl (d k xs)
   |tup xs=>exact absurd rfl (g xs)
   |_=>rfl
 |c::j::r,0=>simp only[CA];split<;>first|rfl|(rename_i e;simp at e)
 |c::j::r,1=>simp only[C1,CA]
 |c::j::r,i+2=>simp only[C1]
theorem akl(cs:List V)(i:Nat):(cs.set i (disown (cs.getD i .undef))).map disown=cs.map disown:=by
 rw[List.map_set,amw];apply Db;intro m;rw[Ay];by_cases h:i=m
 ·subst h;simp only[if_true,A6];split;·rename_i a;simp[Al,Ab a]
  ·rename_i a;simp[Ba (Dh a)]
 ·simp[h]
theorem aef(agg:Bool)(cs:List V):disown (loaded agg cs)=if agg then .agg (cs.map disown) else (cs.map disown).headD .undef:=by
 cases agg with
 |true=>rfl
 |false=>cases cs<;>rfl
theorem aqM(agg:Bool)(cs:List V)(i o n:Nat):disown (loaded agg (((cs.set i (disown (cs.getD i .undef))).drop o).take n))=disown (loaded agg ((cs.drop o).take n)):=by rw[aef,aef,DQ,DT,akl,DQ,DT]
def rdV(p:V)(s:St)(n:Nat)(a:Bool):Option V:=match p with
 | .ea cs=>if n<=cs.length then some (disown (loaded a (cs.take n))) else none
 | .ptr id o=>match s.obj id with
   |some cs=>if o+n<=cs.length then some (disown (loaded a ((cs.drop o).take n))) else none
   |none=>none
 |_=>none
theorem aiT(d n:Nat)(a:Bool)(x:ASrc)(s:St):step Γ (.ld d n a false x) s=(rdV (x.ev s) s n a).map λv=>(true,s.set d v):=by
 cases b:x.ev s with
 |ea cs=>simp only[step,rdV,b];split<;>rfl
 |ptr id o=>
  simp only[step,rdV,b];cases s.obj id with
  |none=>rfl
  |some cs=>simp only[CD,if_false];split<;>rfl
 |_=>simp only[step,rdV,b];rfl
def tkV(p:V)(s:St)(n:Nat)(a:Bool):Option (V×Option (Nat×List V)):=match p with
 | .ea cs=>if n<=cs.length then some (disown (loaded a (cs.take n)),none) else none
 | .ptr id o=>match s.obj id with
   |some cs=>if o+n<=cs.length then (if noBn (cs.getD o .undef) then some (loaded a ((cs.drop o).take n),some (id,cs.set o (disown (cs.getD o .undef)))) else none) else none
   |none=>none
 |_=>none
def St.turn(s:St):Option (Nat×List V)->St
 |none=>s
 |some (id,cs)=>s.setObj id cs
theorem aiU(d n:Nat)(a:Bool)(x:ASrc)(s:St):step Γ (.ld d n a true x) s=(tkV (x.ev s) s n a).map λq=>(true,(s.turn q.2).set d q.1):=by
 cases b:x.ev s with
 |ea cs=>simp only[step,tkV,b];split<;>rfl
 |ptr id o=>
  simp only[step,tkV,b];cases s.obj id with
  |none=>rfl
  |some cs=>
   simp only[if_true];split;·split<;>rfl
   ·rfl
 |_=>simp only[step,tkV,b];rfl
theorem ar7{s:St}{id a:Nat}{cs:List V}(h:id≠a):(s.setObj id cs).obj a=s.obj a:=by unfold St.obj St.setObj;simp[Al,Ay,h]
theorem anT{p i:V}{s:St}{n k:Nat}{a j:Bool}{q:V×Option (Nat×List V)}(h:tkV p s n a=some q)(d:Nat)(v:V):rdV i ((s.turn q.2).set d v) k j=rdV i s k j:=by
 unfold tkV at h;split at h
 ·split at h;·cases h;rfl
  ·cases h
 ·rename_i id o;split at h
  ·rename_i cs g;split at h
   ·split at h
    ·cases h;have e:∀b,((s.turn (some (id,cs.set o (disown (cs.getD o .undef))))).set d v).obj b=(s.setObj id (cs.set o (disown (cs.getD o .undef)))).obj b:=λ_=>rfl
     cases i with
     |ptr b m=>
      simp only[rdV,e];by_cases f:id=b;·subst f;rw[auv g,g];simp only[AO,aqM]
      ·rw[ar7 f]
     |_=>rfl
    ·cases h
   ·cases h
  ·cases h
 ·cases h
theorem ap7(p:V)(s:St)(n:Nat)(a:Bool)(d:Nat)(v:V):tkV p (s.set d v) n a=tkV p s n a:=rfl
theorem anU(s:St)(q:Option (Nat×List V))(d:Nat)(v:V):(s.set d v).turn q=(s.turn q).set d v:=by cases q<;>rfl
theorem anV(s:St){d a:Nat}(v b:V)(h:d≠a):(s.set d v).set a b=(s.set a b).set d v:=by simp only[St.set];rw[DV _ _ h]
theorem anW(s:St)(q:Option (Nat×List V))(n:Nat):(s.turn q).get n=s.get n:=by cases q<;>rfl
theorem aqN{o:IOp}{a:Option (List Nat×List Nat)}{s s':St}:cX Γ ⟨none,o,a⟩ s=some s'↔stepO Γ a o s=some (true,s'):=by
 simp only[cX];cases stepO Γ a o s with
 |none=>simp
 |some p=>obtain⟨c,t⟩:=p;cases c<;>simp[chk]
theorem xV(s:St){d n:Nat}(v:V)(h:d≠n):(s.set d v).get n=s.get n:=by simp[St.get,St.set,An,Ay,h]
theorem aue{C D:Option (List Nat×List Nat)}{d n g t:Nat}{a p:Bool}{x h:ASrc}(hd:d≠g)(j:∀m∈x.slots,m≠g)(o:∀m∈h.slots,m≠d){s E F:St}:
  (cX Γ ⟨none,.ld d n a true x,D⟩ s=some E->cX Γ ⟨none,.ld g t p false h,C⟩ E=some F->∃b,cX Γ ⟨none,.ld g t p false h,C⟩ s=some b∧cX Γ ⟨none,.ld d n a true x,D⟩ b=some F)∧
  (cX Γ ⟨none,.ld g t p false h,C⟩ s=some E->cX Γ ⟨none,.ld d n a true x,D⟩ E=some F->∃b,cX Γ ⟨none,.ld d n a true x,D⟩ s=some b∧cX Γ ⟨none,.ld g t p false h,C⟩ b=some F):=by
 simp only[aqN];have H:(IOp.ld d n a true x).rd=x.slots:=rfl;have I:(IOp.ld g t p false h).rd=h.slots:=rfl;constructor
 ·intro A w;have k:=lN A;have u:=lN w;rw[aiU,Aq] at k;obtain⟨q,B,e⟩:=k;simp only[Ao,true_and] at e;subst e;have y:∀m∈h.slots,((s.turn q.2).set d q.1).get m=s.get m:=λm f=>by rw[xV _ _ (Ci (o m f)),anW]
  rw[aiT,b8 y,anT B,Aq] at u;obtain⟨G,i,e⟩:=u;simp only[Ao,true_and] at e;subst e;refine⟨s.set g G,qE w (by rw[I];exactλm f=>(y m f).symm) (by rw[aiT,i];rfl),?_⟩;have v:∀m∈x.slots,(s.set g G).get m=s.get m:=λm f=>xV _ _ (Ci (j m f))
  refine qE A (by rw[H];exact v) ?_;rw[aiU,b8 v,ap7,B];simp only[BE,anU];rw[anV _ _ _ hd]
 ·intro A w;have k:=lN A;have u:=lN w;rw[aiT,Aq] at k;obtain⟨G,i,e⟩:=k;simp only[Ao,true_and] at e;subst e;have v:∀m∈x.slots,(s.set g G).get m=s.get m:=λm f=>xV _ _ (Ci (j m f))
  rw[aiU,b8 v,ap7,Aq] at u;obtain⟨q,B,e⟩:=u;simp only[Ao,true_and] at e;subst e;have y:∀m∈h.slots,((s.turn q.2).set d q.1).get m=s.get m:=λm f=>by rw[xV _ _ (Ci (o m f)),anW]
  refine⟨(s.turn q.2).set d q.1,qE w (by rw[H];exactλm f=>(v m f).symm) (by rw[aiU,B];rfl),?_⟩;refine qE A (by rw[I];exact y) ?_;rw[aiT,b8 y,anT B,i];simp only[BE,anU];rw[anV _ _ _ hd]
theorem avQ(W:cI Γ imp){x y:GOp}(b:ac1 imp y x=true){s s1 s2:St}(X:cX Γ y s=some s1)(Y:cX Γ x s1=some s2):
  ∃L,cX Γ x s=some L∧cX Γ y L=some s2:=by
 simp only[ac1,Ac,A7,Nat.ble_eq] at b;obtain⟨D,G,H,b⟩:=b;have D:=s8 D;have G:=s8 G;have H:=s8 H;rcases b with⟨j,F⟩|C|hL
 case inr.inr=>
  obtain⟨R,ox,bx⟩:=x;obtain⟨S,oy,bY⟩:=y;unfold ar5 at hL;split at hL
  ·rename_i e n a xa f n2 A xb k w N J;simp only at k w N J;subst k w N J;have m1:∀m∈xb.slots,m≠e:=λm B h=>D e (by simp[IOp.wr,IOp.dst]) (by subst h;simpa [GOp.rd,IOp.rd] using B)
   have m2:∀m∈xa.slots,m≠f:=λm B h=>G f (by simp[IOp.wr,IOp.dst]) (by subst h;simpa [GOp.rd,IOp.rd] using B)
   have m3:e≠f:=λh=>H e (by simp[IOp.wr,IOp.dst]) (by subst h;simp[IOp.wr,IOp.dst])
   exact(aue m3 m2 m1).1 X Y
  ·rename_i f n2 A xb e n a xa k w N J;simp only at k w N J;subst k w N J;have m1:∀m∈xb.slots,m≠e:=λm B h=>G e (by simp[IOp.wr,IOp.dst]) (by subst h;simpa [GOp.rd,IOp.rd] using B)
   have m2:∀m∈xa.slots,m≠f:=λm B h=>D f (by simp[IOp.wr,IOp.dst]) (by subst h;simpa [GOp.rd,IOp.rd] using B)
   have m3:e≠f:=λh=>H f (by simp[IOp.wr,IOp.dst]) (by subst h;simp[IOp.wr,IOp.dst])
   exact(aue m3 m2 m1).2 X Y
  ·cases hL
 case inr.inl=>
  simp only[apart,Ac] at C;obtain⟨⟨oy,ox⟩,C⟩:=C;split at C
  ·rename_i Ry Wy Rx Wx Z a9;simp only[Ac] at C;obtain⟨a1,A,a3⟩:=C;have a1:=s8 a1;have A:=s8 A;have a3:=s8 a3;obtain⟨u,M,O,I,rfl,ly⟩:=aiS W oy Z X;obtain⟨g,v,P,E,rfl,lx⟩:=aiS W ox a9 Y;have S:∀t:St,∀n∈x.rd,(t.putH u M).get n=t.get n:=λt n d=>agR (s:=t) (l:=u) (λp hp e=>D p.1 (O p hp) (e▸d))
   have R:∀t:St,∀n∈y.rd,(t.putH g v).get n=t.get n:=λt n d=>agR (s:=t) (l:=g) (λp hp e=>G p.1 (P p hp) (e▸d))
   have hx:=lx s (λn d=>(S s n d).symm) (ahs M s.hp).symm (λi b=>(anR (λp hp e=>by
    subst e;rcases b with b|b;·exact a1 _ (I p hp) b
    ·exact A _ (I p hp) b)).symm)
   have hy:=ly (s.putH g v) (λn d=>R s n d) (ahs v s.hp) (λi b=>anR (λp hp e=>by
    subst e;rcases b with b|b;·exact a3 _ (E p hp) b
    ·exact A _ b (E p hp)))
   refine⟨_,hx,hy.trans ?_⟩
   congr 1
   have k:=sN u g s.env (λp hp q Q e=>H q.1 (O q Q) (e▸P p hp));have w:=sN M v s.hp (λp hp q Q e=>A q.1 (I q Q) (e▸E p hp));simp only[St.putH,St.upd,St.mk.injEq];exact⟨k,w⟩
  ·simp at C
 have j:y.o.cls imp<=1∨x.o.cls imp=0:=j.imp id AS;have F:x.o.cls imp<=1∨y.o.cls imp=0:=F.imp id AS;obtain⟨u,M,O,I,rfl,ly⟩:=afs W X;obtain⟨g,v,P,E,rfl,lx⟩:=afs W Y;have S:∀t:St,∀n∈x.rd,(t.put u M).get n=t.get n:=λt n d=>agR (s:=t) (l:=u) (λp hp e=>D p.1 (O p hp) (e▸d))
 have R:∀t:St,∀n∈y.rd,(t.put g v).get n=t.get n:=λt n d=>agR (s:=t) (l:=g) (λp hp e=>G p.1 (P p hp) (e▸d))
 have hx:=lx s (λn d=>(S s n d).symm) (λhc=>by
  rcases j with j|j;·exact⟨by rw[I j];rfl,(abB s u).symm⟩
  ·omega)
 have hy:=ly (s.put g v) (λn d=>R s n d) (λhc=>by
  rcases F with F|F;·exact⟨by rw[E F];rfl,abB s g⟩
  ·omega)
 refine⟨_,hx,hy.trans ?_⟩
 congr 1
 have k:=sN u g s.env (λp hp q Q e=>H q.1 (O q Q) (e▸P p hp));simp only[St.put,St.upd,St.mk.injEq];refine⟨k,?_⟩;rcases j with j|j;·rw[I j];rfl
 ·rw[E (by omega)];rfl
theorem aqO(d:cI Γ imp){R:Type}{K:St->Option R}{r:R}{x:GOp}{B:List GOp}:∀(A:List GOp)(s:St),(∀y∈A,ac1 imp y x=true)->
  runOps Γ (A++x::B) K s=some r->∃s',cX Γ x s=some s'∧runOps Γ (A++B) K s'=some r
 | [],s,_,h=>by rw[AW,mZ] at h;exact BP.1 h
 |y::A,s,b,h=>by rw[AI,mZ] at h;obtain⟨g,k,m⟩:=BP.1 h;obtain⟨p,i,e⟩:=aqO d A g (λy j=>b y (AL _ j)) m;obtain⟨a,f,o⟩:=avQ d (b y (AY ..)) k i;refine⟨a,f,?_⟩;rw[AI,mZ,o];exact e
end
def su(G:Nat->List V->Option (Bool×V)):aq:=λf vs hp=>match G f vs with|some x=>some (x.1,x.2,hp)|none=>none
theorem qF(G:Nat->List V->Option (Bool×V))(imp:List Nat):cI (su G) imp:=by
 refine⟨?_,?_⟩;·intro f avs hp _;unfold su;cases G f avs<;>rfl
 ·intro f vs hp c v hp' _ h;unfold su at h ⊢;cases a:G f vs with
  |none=>rw[a] at h;simp at h
  |some x=>rw[a] at h;simp only[Ai,Ao] at h;obtain⟨rfl,rfl,rfl⟩:=h;exact⟨[],by simp,rfl,λb _ _=>rfl⟩
theorem afu{G:Nat->List V->Option (Bool×V)}{f:Nat}{vs:List V}{hp hp':List ai}{c:Bool}{v:V}(h:su G f vs hp=some (c,v,hp')):G f vs=some (c,v)∧hp'=hp:=by
 unfold su at h;cases a:G f vs with
 |none=>rw[a] at h;simp at h
 |some x=>rw[a] at h;simp only[Ai,Ao] at h;obtain⟨rfl,rfl,rfl⟩:=h;exact⟨rfl,rfl⟩
def ap8(P:Program)(o:IOp)(m:Oper):Bool:=
 match o with
 |_=>false
section
variable{w w':World}{g g':Gh}{s s':St}{a:Act}{P:Program}{Γ:aq}{m:Oper}{next:Act->World->Prop}{Q:Exit->Act->World->Prop}
end
section
open Go.MapKept
def mM(P:Program)(t:TypeId)(k:MK):Bool:=match k,P.underlying t with
 | .pb,some (.array 2 e)=>(fe P e==some 1)&&aki P e .i64
 | .bs,some (.int .u8)=>true
 | .bn,some (.int .u8)=>true
 | .ib,some (.int .i64)=>true
 | .sn,some .string=>true
 | .sb,some .string=>true
 |_,_=>false
def auf(P:Program)(e:TypeId)(k:MK):Bool:=match P.info? e with|some i=>(match i.zero with|some z=>p8 (k.val k.zero) z|none=>false)|none=>false
def ac2(P:Program)(t:TypeId)(k:MK):Bool:=match P.underlying t with|some (.map b e)=>mM P b k&&auf P e k|_=>false
def ww(P:Program)(o:IOp)(m:Oper):Bool:=
 match o with
 | .mkm d k=>(m.dst==some d)&&(match m.op with| .makeMap t none=>ac2 P t k|_=>false)
 | .mget d k ok x y=>(m.dst==some d)&&(match m.op with| .lookup t b e f=>ac2 P t k&&((ok==f)&&(aH x b&&aH y e))|_=>false)
 | .mput d k x y z=>(m.dst==d)&&(match m.op with
   | .mapUpdate t b e h=>ac2 P t k&&(aH x b&&(aH y e&&aH z h))
   | .insert t b e h=>ac2 P t k&&(aH x b&&(aH y e&&aH z h))
   |_=>false)
 |_=>false
section
variable{w w':World}{g g':Gh}{s s':St}{a:Act}{P:Program}{Γ:aq}{m:Oper}{next:Act->World->Prop}{Q:Exit->Act->World->Prop}
theorem aht{t:TypeId}{k:MK}(h:ac2 P t k=true):∃d e,P.underlying t=some (.map d e)∧mM P d k=true∧(∀w:World,(zeroValue e).run P w=.ok (k.valV k.zero) w):=by
 unfold ac2 at h;split at h
 ·rename_i d e o;simp only[Ac] at h;refine⟨d,e,o,h.1,?_⟩;have b:=h.2;unfold auf at b;split at b
  ·rename_i i j;split at b
   ·rename_i z f;intro w;have p:z=k.valV k.zero:=by
     cases k<;>cases z<;>simp[p8,MK.val,MK.zero] at b<;>simp[MK.valV,MK.zero];·exact b
     ·rename_i s;obtain⟨⟨l⟩⟩:=s;simp at b;rw[b.1]
     ·exact⟨b.1.symm,b.2.1.symm⟩
     ·exact b
     ·exact⟨b.1.symm,b.2.1.symm⟩
     ·exact b
    simp[zeroValue,typeInfo,j,f,p]
   ·simp at b
  ·simp at b
 ·simp at h
theorem as8{I:Nat->Nat->Prop}{ρ:Nat->Nat}{N:Nat}(k:MK)(x:k.T)(h:k.okT x):VRel I ρ N w (k.val x) (k.valV x):=by
 cases k;·exact .bool _
 ·exact .str _ _ rfl (by have h:Aa x<=dc:=h;simpa [ByteArray.size] using h)
 ·exact .int _ _ h
 ·exact .bool _
 ·exact .int _ _ h
 ·exact .bool _
theorem as9(k:MK):k.okT k.zero:=by cases k<;>simp[MK.okT,MK.zero]<;>decide
theorem aqP{v:V}{x:Int×Int}(h:aqx v=some x):v=.agg [.int .i64 x.1,.int .i64 x.2]:=by unfold aqx at h;split at h<;>first|contradiction|(cases h;rfl)
theorem anX{v:V}{x:Int}(h:u8V v=some x):v=.int .u8 x:=by unfold u8V at h;split at h<;>first|contradiction|(cases h;rfl)
theorem afv{v:V}{x:Int}(h:anF v=some x):v=.int .i64 x:=by unfold anF at h;split at h<;>first|contradiction|(cases h;rfl)
theorem afw{v:V}{x:List UInt8}(h:aqy v=some x):v=.str x:=by unfold aqy at h;split at h<;>first|contradiction|(cases h;rfl)
theorem ac3{v:V}{x:Bool}(h:aiH v=some x):v=.bool x:=by unfold aiH at h;split at h<;>first|contradiction|(cases h;rfl)
theorem akm{I:Nat->Nat->Prop}{ρ:Nat->Nat}{N:Nat}{l:List UInt8}{cv:Value}(h:VRel I ρ N w (.str l) cv):cv=.string ⟨l.toArray⟩∧l.length<=dc:=by
 cases h with
 |str _ s b d=>subst b;exact⟨rfl,by rw[BT];exact d⟩
theorem vy{I:Nat->Nat->Prop}{ρ:Nat->Nat}{N:Nat}{k:IntKind}{n:Int}{cv:Value}(h:VRel I ρ N w (.int k n) cv):cv=.int k n∧k.min<=n∧n<=k.max:=by cases h;exact⟨rfl,by assumption⟩
theorem ahY{I:Nat->Nat->Prop}{ρ:Nat->Nat}{N:Nat}{b:Bool}{cv:Value}(h:VRel I ρ N w (.bool b) cv):cv=.bool b:=by cases h;rfl
theorem ata{I:Nat->Nat->Prop}{ρ:Nat->Nat}{N:Nat}{k:MK}{v:V}{x:k.T}{cv:Value}(h:k.dval v=some x)(b:VRel I ρ N w v cv):cv=k.valV x∧k.okT x:=by
 cases k with
 |pb=>rw[ac3 h] at b;exact⟨ahY b,trivial⟩
 |ib=>rw[ac3 h] at b;exact⟨ahY b,trivial⟩
 |bs=>rw[afw h] at b;exact akm b
 |bn=>rw[afv h] at b;exact vy b
 |sn=>rw[afv h] at b;exact vy b
 |sb=>rw[ac3 h] at b;exact⟨ahY b,trivial⟩
theorem ahZ{I:Nat->Nat->Prop}{ρ:Nat->Nat}{N:Nat}{k:MK}{v:V}{x:k.K}{cv:Value}(h:k.dkey v=some x)(b:VRel I ρ N w v cv):cv=k.keyV x:=by
 cases k with
 |pb=>
  rw[aqP h] at b;cases b with
  |agg _ vs e _ _ d=>
   obtain⟨l⟩:=vs;match l,e,d with
   | [u,u'],_,d=>rw[(vy (d 0 _ u rfl rfl)).1,(vy (d 1 _ u' rfl rfl)).1];rfl
 |bs=>rw[anX h] at b;exact(vy b).1
 |bn=>rw[anX h] at b;exact(vy b).1
 |ib=>rw[afv h] at b;exact(vy b).1
 |sn=>rw[afw h] at b;exact(akm b).1
 |sb=>rw[afw h] at b;exact(akm b).1
theorem akn{f:TypeId}{k:MK}(h:mM P f k=true)(i:k≠.pb)(x y:k.K):∃d,P.underlying f=some d∧DS d (k.keyV x) (k.keyV y)=some (decide (x=y)):=by
 have b:∀(k:IntKind)(x y:Int)(_:Decidable (x=y)),DS (.int k) (.int k x) (.int k y)=some (decide (x=y)):=λk x y _=>by simp only[DS,if_true,Ai];rw[Ch,decide_eq_true_iff,beq_iff_eq]
 cases k with
 |pb=>exact absurd rfl i
 |sn|sb=>
  unfold mM at h;split at h<;>first|contradiction|skip
  rename_i e;refine⟨_,e,?_⟩;simp only[MK.keyV,DS,Ai];rw[Ch,decide_eq_true_iff,bytes_beq];constructor;·intro h;simpa using h
  ·rintro rfl;rfl
 |bs=>
     unfold mM at h;split at h<;>first|contradiction|skip
     rename_i e;exact⟨_,e,b _ _ _ _⟩
 |bn=>
     unfold mM at h;split at h<;>first|contradiction|skip
     rename_i e;exact⟨_,e,b _ _ _ _⟩
 |ib=>
     unfold mM at h;split at h<;>first|contradiction|skip
     rename_i e;exact⟨_,e,b _ _ _ _⟩
theorem ml{e:Nat}(b:mV P e=some false){xs:Array Value}{j:Nat}{u:Value}(d:xs[j]? =some u)(w:World):(part e xs j).run P w=.ok u w:=by simp[part,acW b,d]
theorem aug{f:TypeId}(h:mM P f .pb=true):∃e,P.underlying f=some (.array 2 e)∧P.underlying e=some (.int .i64)∧fe P e=some 1∧mV P e=some false:=by
 unfold mM at h;split at h<;>first|contradiction|skip
 rename_i e _ j;simp only[Ac,beq_iff_eq] at h;obtain⟨k,b⟩:=h;have i:P.underlying e=some (.int .i64):=by
  unfold aki at b;split at b;·rename_i k' d;rw[d,of_decide_eq_true b]
  ·simp at b
 exact⟨e,j,i,k,by simp[mV,i]⟩
theorem aqQ{e:TypeId}(u:P.underlying e=some (.int .i64))(f:mV P e=some false)(q:Nat)(a b c d:Int){xs ys:Array Value}(v:xs[0]? =some (.int .i64 a))(j:xs[1]? =some (.int .i64 b))(t:ys[0]? =some (.int .i64 c))(h:ys[1]? =some (.int .i64 d))(w:World):(Op.eqItems (q+1) e 1 xs ys [0,1]).run P w=.ok (decide ((a,b)=(c,d))) w:=by
 have head:∀(p i:Int)(w:World),(Op.equalIn (q+1) e (.int .i64 p) (.int .i64 i)).run P w=.ok (p==i) w:=by intro p i w;simp[Op.equalIn,run_underlying u]
 simp only[Op.eqItems,C0,CS,ml f v,ml f j,ml f t,ml f h,Co,head];by_cases o:a=c
 ·subst o;by_cases k:b=d;·subst k;simp[ml f j,ml f h,head]
  ·simp[k,ml f j,ml f h,head]
 ·simp[o]
theorem aqR{k:TypeId}(h:mM P k .pb=true)(x y:MK.K .pb)(w:World):(Op.equal k (MK.keyV .pb x) (MK.keyV .pb y)).run P w=.ok (decide (x=y)) w:=by
 obtain⟨e,q,t,p,j⟩:=aug h;obtain⟨inf,f,u⟩:∃i,P.info? e=some i∧i.size=1:=by unfold fe at p;obtain⟨i,f,h⟩:=Aq.1 p;exact⟨i,f,h⟩
 have o:P.cellsOf e=1:=by simp[Program.cellsOf,f,u]
 obtain⟨a,b⟩:=x;obtain⟨c,d⟩:=y;show (Op.equalIn (9999+1) k (.agg #[.int .i64 a,.int .i64 b]) (.agg #[.int .i64 c,.int .i64 d])).run P w=_;rw[run_equalIn_array w 9999 _ _ q f,o];exact aqQ t j 9998 a b c d rfl rfl rfl rfl w
def rE{k:MK}(es:List (k.K×k.T))(x:k.K)(i:Nat):Option (Nat×Value):=match aY es x with
 |some v=>some (i+nQ es x,k.valV v)
 |none=>none
theorem ahu{k:MK}(e:k.K×k.T)(es:List (k.K×k.T))(x:k.K)(i:Nat):rE (e::es) x i=if e.1=x then some (i,k.valV e.2) else rE es x (i+1):=by
 unfold rE;by_cases h:e.1=x;·simp[aY,nQ,h]
 ·simp only[aY,nQ,h,if_false];split
  ·congr 2;omega
  ·rfl
theorem aaP{E:TypeId}{k:MK}(h:mM P E k=true){es:List (k.K×k.T)}{ents:Array MapEntry}{clock:Nat}(y:fR es ents clock)(x:k.K):(Instr.findKey E (k.keyV x) ents.toList).run P w=.ok (rE es x 0) w:=by
 have t:∀(i:Nat) e f,es[i]? =some e->ents.toList[i]? =some f->f.key=k.keyV e.1∧f.val=k.valV e.2:=λi e f v u=>by obtain⟨-,a,b, -⟩:=y.2.2 i e f v (by simpa using u);exact⟨a,b⟩
 have p:es.length=ents.toList.length:=by simpa using y.1
 generalize ents.toList=l at p t;by_cases A:k=.pb
 ·subst A;rw[run_findKey_eq w ?_ (MK.keyV .pb x) l]
  ·clear y;generalize 0=i;induction es generalizing l i with
   |nil=>have:l=[]:=AT p.symm;subst this;simp[Instr.findAsking,rE,aY]
   |cons e es B=>
    cases l with
    |nil=>simp at p
    |cons f l=>
     obtain⟨C,D⟩:=t 0 e f rfl rfl;rw[Instr.findAsking,C,D,ahu];simp only[C0,aqR h,Co];by_cases o:e.1=x;·simp[o]
     ·rw[if_neg o,if_neg (by simpa using λe=>o e.symm)];exact B l (by simpa using p) (λj e f v u=>t (j+1) e f (by simpa using v) (by simpa using u)) (i+1)
  ·unfold mM at h;split at h<;>first|contradiction|skip
   rename_i e _ F;rw[F]
 ·obtain⟨d,hd, -⟩:=akn h A x x;refine Go.MapKept.run_findKey hd ?_;clear y;generalize 0=i;induction es generalizing l i with
  |nil=>have:l=[]:=AT p.symm;subst this;simp[Instr.findNow,rE,aY]
  |cons e es B=>
   cases l with
   |nil=>simp at p
   |cons f l=>
    obtain⟨C,D⟩:=t 0 e f rfl rfl;obtain⟨H,q,G⟩:=akn h A x e.1;rw[hd] at q;obtain rfl:=Ax q;rw[Instr.findNow,C,D,ahu,G];by_cases o:e.1=x;·simp[o]
    ·rw[if_neg o,decide_eq_false (λe=>o e.symm)];exact B l (by simpa using p) (λj e f v u=>t (j+1) e f (by simpa using v) (by simpa using u)) (i+1)
theorem apy{e:Nat}(j:P.underlying e=some (.int .i64))(d:mV P e=some false)(h:fe P e=some 1)(f:Bool)(q:Nat)(a b:Int){xs:Array Value}(o:xs[0]? =some (.int .i64 a))(k:xs[1]? =some (.int .i64 b)):
  (forIn [0,1] PUnit.unit λi r=>do Cb f (q+1) e (<-part e xs (i*(<-sizeOf e)));pure (ForInStep.yield PUnit.unit):Sem PUnit).run P w=.ok PUnit.unit w:=by
 have c:∀(p:Int)(w:World),(Cb f (q+1) e (.int .i64 p)).run P w=.ok () w:=by intro p w;simp[Cb,run_underlying j]
 simp only[List.forIn_cons,List.forIn_nil,C0,nL h,Co,CS,ml d o,ml d k,c,Sem.run_pure]
theorem aqS{i:TypeId}(h:mM P i .pb=true)(a b:Int)(f:Bool)(q:Nat):(Cb f (q+2) i (.agg #[.int .i64 a,.int .i64 b])).run P w=.ok () w:=by obtain⟨e,j,o,k,d⟩:=aug h;have:=apy (w:=w) o d k f q a b (xs:= #[.int .i64 a,.int .i64 b]) rfl rfl;rw[Cb];simp only[C0,run_underlying j,Co];simp only[Std.Legacy.Range.forIn_eq_forIn_range',Std.Legacy.Range.size,Nat.sub_zero,Nat.add_one_sub_one,Nat.div_one];have r:Bm 0 2 1=[0,1]:=rfl;rw[r];simp at this ⊢;rw[this];rfl
theorem ar8{b:TypeId}{k:MK}(h:mM P b k=true)(f:k≠.pb)(x:k.K)(i:Bool)(q:Nat):(Cb i (q+1) b (k.keyV x)).run P w=.ok () w:=by
 obtain⟨d,hd,j⟩:=akn h f x x;cases k<;>first|exact absurd rfl f|skip
 all_goals
  unfold mM at h;split at h<;>first|contradiction|skip
  rename_i e;simp[Cb,run_underlying e,MK.keyV]
theorem yA{d:TypeId}{k:MK}(h:mM P d k=true)(x:k.K)(b:Bool):(Cb b 10000 d (k.keyV x)).run P w=.ok () w:=by
 by_cases e:k=.pb;·subst e;exact aqS h x.1 x.2 b 9998
 ·exact ar8 h e x b 9999
theorem atb(k:MK)(x:k.K)(q:Nat):C6 (q+2) (k.keyV x) (k.keyV x)=true:=by
 cases k with
 |pb=>simp[MK.keyV,C6]
 |sn|sb=>exact(bytes_beq _ _).2 rfl
 |_=>simp[MK.keyV,C6]
theorem ar9(k:MK)(x:k.K):C6 10000 (k.keyV x) (k.keyV x)=true:=atb k x 9998
theorem asa{k:MK}{es:List (k.K×k.T)}{x:k.K}{v:k.T}(h:aY es x=some v):es[nQ es x]? =some (x,v):=by
 induction es with
 |nil=>simp[aY] at h
 |cons e es d=>
  simp only[aY] at h;by_cases b:e.1=x;·rw[if_pos b] at h;obtain rfl:=Ax h;subst b;simp[nQ]
  ·rw[if_neg b] at h;simp only[nQ,if_neg b];simpa using d h
theorem atc{k:MK}{es:List (k.K×k.T)}{x:k.K}{v u:k.T}(h:aY es x=some v):cE es x u=es.set (nQ es x) (x,u):=by
 induction es with
 |nil=>simp[aY] at h
 |cons e es d=>
  simp only[aY] at h;by_cases b:e.1=x;·simp[cE,nQ,b]
  ·rw[if_neg b] at h;simp[cE,nQ,b,d h]
theorem asb{k:MK}{es:List (k.K×k.T)}{x:k.K}{u:k.T}(h:aY es x=none):cE es x u=es++[(x,u)]∧nQ es x=es.length:=by
 induction es with
 |nil=>simp[cE,nQ]
 |cons e es d=>
  simp only[aY] at h;by_cases b:e.1=x;·simp[b] at h
  ·rw[if_neg b] at h;obtain⟨f,i⟩:=d h;simp[cE,nQ,b,f,i]
theorem fR.set{k:MK}{es:List (k.K×k.T)}{ents:Array MapEntry}{clock:Nat}(h:fR es ents clock){i:Nat}{x:k.K}{v:k.T}(t:k.okT v):
  fR (es.set i (x,v)) (ents.modify i λe=>{e with key:=k.keyV x,val:=k.valV v}) clock:=by
 refine⟨by simp[h.1],by simp[h.2.1],?_⟩;intro j e u b d;rw[Ay] at b;rw[Cj] at d;by_cases o:i=j
 ·subst o;rw[if_pos rfl] at b d;split at b;·cases b;rw[Aq] at d;obtain⟨p,q,rfl⟩:=d;rename_i f;exact⟨(h.2.2 _ _ _ (Ab f) q).1,rfl,rfl,t⟩
  ·simp at b
 ·rw[if_neg o] at b d;exact h.2.2 j e u b d
theorem fR.push{k:MK}{es:List (k.K×k.T)}{ents:Array MapEntry}{clock:Nat}(h:fR es ents clock){x:k.K}{v:k.T}(p:k.okT v):
  fR (es++[(x,v)]) (ents.push {key:=k.keyV x,val:=k.valV v,born:=clock}) (clock+1):=by
 refine⟨by simp[h.1],by simp[h.2.1],?_⟩;intro j e q b f;rcases AH j es.length with i|i;·rw[Aw i] at b;rw[DD,if_neg (by rw[<-h.1];omega)] at f;exact h.2.2 j e q b f
 ·rw[Av i] at b;have o:j-es.length=0:=by
   have:=(Ad.1 b).1;simp at this;omega
  rw[o] at b;simp at b;subst b;have d:j=ents.size:=by rw[<-h.1];omega
  rw[DD,if_pos d] at f;obtain rfl:=Ax f;exact⟨by rw[h.2.1];exact d.symm,rfl,rfl,p⟩
theorem anY{id:Nat}{k:MK}{es:List (k.K×k.T)}(d:s.mapO id=some ⟨k,es⟩):s.hp[id]? =some (some [.mp k es]):=by
 unfold St.mapO at d;split at d
 ·rename_i k' f b;cases d;rw[Al] at b;cases e:s.hp[id]? with
  |none=>rw[e] at b;simp at b
  |some x=>rw[e] at b;simp at b;rw[b]
 ·simp at d
theorem SR.putMap(h:SR g s w a){id:Nat}{k:MK}{es x:List (k.K×k.T)}(ho:s.mapO id=some ⟨k,es⟩){ents i:Array MapEntry}{clock d:Nat}(Z:w.heap[g.ρ id]? =some (.map ents clock))(hm:fR x i d):
  SR g (s.setObj id [.mp k x]) {w with heap:=w.heap.setIfInBounds (g.ρ id) (.map i d)} a∧FR g s.hp w g (s.hp.set id (some [.mp k x])) {w with heap:=w.heap.setIfInBounds (g.ρ id) (.map i d)}:=by
 have t:=anY ho;obtain⟨q1,J⟩:=Go.MapKept.heap_set (o':=.map i d) Z;let w':World:={w with heap:=w.heap.setIfInBounds (g.ρ id) (.map i d)}
 have X:w'.heap.size=w.heap.size:=by simp[w']
 have L:∀b j,g.I b j->b≠g.ρ id:=by rintro b j D rfl;exact h.hr.notI id _ t j D
 have E:∀b j,g.I b j->w'.cell? ⟨b,j,none⟩=w.cell? ⟨b,j,none⟩:=by intro b j D;simp only[w',Bv,J b (L b j D)]
 have u:Up g.I g.ρ s.hp.length w g.I g.ρ s.hp.length w':=⟨λ_ _ h=>h,E,λ_ _=>rfl,Ar _⟩
 have C:∀G v cv,ap g w G v cv->ap g w' G v cv:=by intro G v cv S;refine cH S rfl (λb j D=>⟨u.mono b j D,u.cell b j D⟩) ?_;intro b A;refine⟨A,J b ?_,λj hj=>hj⟩;rintro rfl;rw[h.hr.notO id _ t] at A;simp at A
 have hl:id<s.hp.length:=(Ad.1 t).1;have split:∀(f:Nat) o',(s.hp.set id (some [V.mp k x]))[f]? =some (some o')->(f=id∧o'=[V.mp k x])∨(f≠id∧s.hp[f]? =some (some o')):=by
  intro f o' o;rw[Ay] at o;split at o;·rename_i e;simp[hl] at o;exact .inl ⟨e.symm,o.symm⟩
  ·rename_i e;exact .inr ⟨λe'=>e e'.symm,o⟩
 have B:∀(f:Nat) o',(s.hp.set id (some [V.mp k x]))[f]? =some (some o')->∃F,s.hp[f]? =some (some F):=by
  intro f o' o;rcases split f o' o with⟨rfl,_⟩|⟨_,o⟩
  ·exact⟨_,t⟩
  ·exact⟨_,o⟩
 refine⟨⟨⟨?_,?_,?_,?_,?_,?_⟩,⟨h.er.size,?_,?_⟩⟩,⟨rfl,rfl,rfl,rfl,by rw[X];exact Ar _,?_,?_,λ_ _ _ _ _ D=>D,λ_ _ _ hO=>hO,?_⟩⟩
 ·intro f o' o;simp only[St.setObj,AO];rcases split f o' o with⟨rfl,rfl⟩|⟨H,o⟩
  ·exact⟨by simp[kj],λq an N=>by cases N;exact⟨i,d,q1,hm⟩⟩
  ·refine(h.hr.obj f o' o).keep ?_ λW e2 a4 y q=>⟨q.len,q.plain,q.typedUp rfl u.rho u.num rfl,q.cold,q.one,λj c cv N p=>(q.rel j c cv N p).up u,λj c cv N p=>C _ _ _ (q.own j c cv N p),q.bn⟩
   exact J _ (h.hr.apart f id o' _ o t H)
 ·intro id1 R M c2 y q H;obtain⟨_,y⟩:=B id1 M y;obtain⟨_,q⟩:=B R c2 q;exact h.hr.apart _ _ _ _ y q H
 ·intro id1 M y;obtain⟨_,y⟩:=B id1 M y;exact h.hr.notI _ _ y
 ·intro id1 M y;obtain⟨_,y⟩:=B id1 M y;exact h.hr.notO _ _ y
 ·intro b j D;exact(h.hr.exI b j D).blk (J b (L b j D))
 ·intro b Y A;rw[X];exact h.hr.oLt b Y A
 ·intro n v cv o p;simp only[St.setObj,AO];exact(h.er.rel n v cv o p).up u
 ·intro n v cv o p;exact C _ _ _ (h.er.own n v cv o p)
 ·intro b _ O _;exact J b (λe=>O id _ t e.symm)
 ·simp only[AO];exact u
 ·intro f o' o;obtain⟨F,o⟩:=B f o' o;exact .inl ⟨F,o⟩
theorem SR.newMap(h:SR g s w a)(k:MK)(d:Nat):
  ∃g',SR g' {s.set d (.mr s.hp.length) with hp:=s.hp++[some [.mp k []]]} (w.alloc (.map #[] 0)) (a.put (some d) (.map (some w.heap.size)))∧
   FR g s.hp w g' (s.hp++[some [.mp k []]]) (w.alloc (.map #[] 0)):=by
 obtain⟨f1,M,f3⟩:=kG w (.map #[] 0);let w':=w.alloc (.map #[] 0);let g':Gh:={g with ρ:=λid=>if id=s.hp.length then w.heap.size else g.ρ id}
 have A:∀b j,g.I b j->b<w.heap.size:=by intro b j p;exact(h.hr.exI b j p).lt
 have D:∀b j,b<w.heap.size->w'.cell? ⟨b,j,none⟩=w.cell? ⟨b,j,none⟩:=by intro b j C;simp only[w',Bv,M b C]
 have u:Up g.I g.ρ s.hp.length w g'.I g'.ρ (s.hp++[some [V.mp k []]]).length w':=
  ⟨λb j p=>p,λb j p=>D b j (A b j p),λid e=>by simp[g',Bu e],by simp⟩
 have G:∀(id:Nat) cs,s.hp[id]? =some (some cs)->g.ρ id<w.heap.size:=by intro id cs e;exact(h.hr.obj id cs e).lt
 have t:∀y v cv,ap g w y v cv->ap g' w' y v cv:=by intro y v cv ho;refine cH ho rfl (λb j p=>⟨u.mono b j p,u.cell b j p⟩) ?_;intro b C;exact⟨C,M b (h.hr.oLt b y C),λj hj=>hj⟩
 have split:∀(id:Nat) o,(s.hp++[some [V.mp k []]])[id]? =some (some o)->(id<s.hp.length∧s.hp[id]? =some (some o))∨(id=s.hp.length∧o=[V.mp k []]):=by
  intro id o e;rcases AH id s.hp.length with p|p;·rw[Aw p] at e;exact .inl ⟨p,e⟩
  ·rw[Av p] at e;have N:id-s.hp.length=0:=by
    rcases DK (id-s.hp.length) with N|N;·exact N
    ·rw[Ba (by simp;omega)] at e;simp at e
   rw[N] at e;simp at e;exact .inr ⟨by omega,e.symm⟩
 have i:g'.ρ s.hp.length=w.heap.size:=by simp[g']
 have f:∀id,id<s.hp.length->g'.ρ id=g.ρ id:=λid e=>by simp[g',Bu e]
 have hs:SR g' {s with hp:=s.hp++[some [V.mp k []]]} w' a:=by
  refine⟨⟨?_,?_,?_,?_,?_,?_⟩,⟨h.er.size,?_,?_⟩⟩
  ·intro id o e;rcases split id o e with⟨p,e⟩|⟨rfl,rfl⟩
   ·refine(h.hr.obj id o e).keep ?_ λae e' fz W x=>⟨x.len,x.plain,x.typedUp rfl u.rho u.num rfl,x.cold,x.one,λj c cv J q=>(x.rel j c cv J q).up u,λj c cv J q=>t _ _ _ (x.own j c cv J q),by rw[f id p];exact x.bn⟩
    rw[f id p];exact M _ (G id o e)
   ·refine⟨by simp[kj],λx a0 J=>?_⟩;cases J;exact⟨#[],0,by rw[i];exact f3,rfl,rfl,by simp⟩
  ·intro id E o o' W x L;rcases split id o W with⟨p,m1⟩|⟨Y, -⟩<;>rcases split E o' x with⟨H,Z⟩|⟨X, -⟩
   ·rw[f _ p,f _ H];exact h.hr.apart id E o o' m1 Z L
   ·rw[f _ p,X,i];exact Bu (G id o m1)
   ·rw[f _ H,Y,i];exact(Bu (G E o' Z)).symm
   ·exact absurd (Y.trans X.symm) L
  ·intro id o e j p;rcases split id o e with⟨B,e⟩|⟨rfl,rfl⟩
   ·rw[f _ B] at p;exact h.hr.notI id o e j p
   ·rw[i] at p;have:=A _ _ p;omega
  ·intro id o e;rcases split id o e with⟨B,e⟩|⟨rfl,rfl⟩
   ·rw[f _ B];exact h.hr.notO id o e
   ·rw[i];cases R:g.O w.heap.size with
    |none=>rfl
    |some S=>have:=h.hr.oLt _ _ R;omega
  ·intro b j p;exact(h.hr.exI b j p).blk (by first|exact hold b (A b j p)|exact M b (A b j p))
  ·intro b S C;have:=h.hr.oLt b S C;show b<w'.heap.size;rw[f1];omega
  ·intro n v cv F q;exact(h.er.rel n v cv F q).up u
  ·intro n v cv F q;exact t _ _ _ (h.er.own n v cv F q)
 refine⟨g',?_,rfl,rfl,rfl,rfl,by rw[f1];omega,λb C _ _=>M b C,u,λb j _ _ _ p=>p,λb _ _ R=>R,?_⟩
 ·have:=hs.set d (v:=.mr s.hp.length) (cv:=.map (some w.heap.size)) (by
   rw[<-i];exact .mr _ (by simp)) (by simp[ap])
  exact this
 ·intro id o e;rcases split id o e with⟨B,e⟩|⟨rfl,rfl⟩
  ·exact .inl ⟨o,e⟩
  ·exact .inr ⟨Ar _,.inl (by rw[i];exact Ar _)⟩
theorem avg{d:Nat}{k:MK}(b:ww P (.mkm d k) m=true)(i:step Γ (.mkm d k) s=some (true,s'))(h:SR g s w a)(f:cL g s w a s' next):m.wp P a w next Q:=by
 obtain⟨dst,o,ty,pos,e,j⟩:=m;simp only[ww,Ac,beq_iff_eq] at b;obtain⟨rfl,b⟩:=b;split at b
 ·obtain rfl:_=s':=by simpa [step] using i
  exact eN rfl (w':=w.alloc (.map #[] 0)) (cv:=.map (some w.heap.size)) (by simp[execOp,Instr.makeMap]) (h.newMap k d) f
 ·simp at b
theorem alP(h:SR g s w a){id:Nat}{k:MK}{es:List (k.K×k.T)}(b:s.mapO id=some ⟨k,es⟩):∃ents clock,w.heap[g.ρ id]? =some (.map ents clock)∧fR es ents clock:=(h.hr.obj id _ (anY b)).map k es rfl
theorem anZ{I:Nat->Nat->Prop}{ρ:Nat->Nat}{N:Nat}(k:MK)(ok:Bool)(r:Option k.T)(h:∀v,r=some v->k.okT v):VRel I ρ N w (afk k ok r) (if ok then .tuple #[k.valV (r.getD k.zero),.bool r.isSome] else k.valV (r.getD k.zero)):=by
 have e:VRel I ρ N w (k.val (r.getD k.zero)) (k.valV (r.getD k.zero)):=as8 k _ (by
  cases r with
  |none=>exact as9 k
  |some v=>exact h v rfl)
 cases ok with
 |false=>exact e
 |true=>
  refine .tup _ _ rfl ?_;intro i c cv d b;match i with
  |0=>simp at d b;subst d b;exact e
  |1=>simp at d b;subst d b;exact .bool _
  |i+2=>simp at d
theorem an0(g:Gh)(w:World)(b:Occ)(k:MK)(ok:Bool)(r:Option k.T)(cv:Value):ap g w b (afk k ok r) cv:=by
 cases ok;·cases k<;>simp[afk,MK.val,ap]
 ·simp[afk,ap]
theorem ap9{k:MK}{es:List (k.K×k.T)}{ents:Array MapEntry}{clock:Nat}(i:fR es ents clock){x:k.K}{v:k.T}(h:aY es x=some v):nQ es x<es.length∧k.okT v∧∃e,ents[nQ es x]? =some e∧e.key=k.keyV x∧e.val=k.valV v∧e.born=nQ es x:=by have o:=asa h;have f:=(Ad.1 o).1;have j:ents[nQ es x]? =some (ents[nQ es x]'(by rw[<-i.1];exact f)):=As _;obtain⟨a,b,c,d⟩:=i.2.2 _ _ _ o j;exact⟨f,d,_,j,b,c,a⟩
theorem auw{d:Nat}{k:MK}{ok:Bool}{x y:ASrc}(j:ww P (.mget d k ok x y) m=true)(b:step Γ (.mget d k ok x y) s=some (true,s'))(h:SR g s w a)(E:cL g s w a s' next):m.wp P a w next Q:=by
 obtain⟨dst,op,ty,pos,O,Z⟩:=m;simp only[ww,Ac,beq_iff_eq] at j;obtain⟨rfl,j⟩:=j;split at j
 ·rename_i t M y' W;simp only[Ac,beq_iff_eq] at j;obtain⟨N,rfl,R,L⟩:=j;obtain⟨Y,e,H,q,A⟩:=aht N;have o:=aP R h.er;have G:=aP L h.er;generalize p:a.eval M=cx at o;simp only[step] at b;split at b
  ·rename_i C;rw[C] at o;cases o;simp only[Aq] at b;obtain⟨key,B,b⟩:=b;obtain rfl:_=s':=by simpa using b
   have i:=ahZ B G;have f:=yA (w:=w) q key true;have u:=aaP (P:=P) (w:=w) q (k:=k) (es:=[]) (ents:= #[]) (clock:=0) ⟨rfl,rfl,by simp⟩ key;refine eN rfl (w':=w) (cv:=if ok then .tuple #[k.valV k.zero,.bool false] else k.valV k.zero) ?_ ⟨g,h.set d (anZ k ok none (by simp)) (an0 _ _ _ _ _ _ _),FR.refl _ _ _⟩ E;simp[execOp,Instr.lookup,run_underlying H,p,i,f,rE,aY,A w] at u ⊢;rw[u];simp[A w]
  ·rename_i id C;rw[C] at o;cases o;split at b
   ·rename_i k' es J;split at b
    ·rename_i D;subst D;simp only[Aq] at b;obtain⟨key,B,b⟩:=b;obtain rfl:_=s':=by simpa using b
     have i:=ahZ B G;obtain⟨ents,clock,I,F⟩:=alP h J;have f:=yA (w:=w) q key ents.isEmpty;have u:=aaP (P:=P) (w:=w) q F key;refine eN rfl (w':=w) (cv:=if ok then .tuple #[k'.valV ((aY es key).getD k'.zero),.bool (aY es key).isSome] else k'.valV ((aY es key).getD k'.zero)) ?_ ⟨g,h.set d (anZ k' ok _ (λv X=>(ap9 F X).2.1)) (an0 _ _ _ _ _ _ _),FR.refl _ _ _⟩ E;simp only[execOp,Instr.lookup,p,i,C0,run_underlying H,Go.MapKept.run_getObj_map I,Co,Sem.run_pure,f,u];unfold rE;cases S:aY es key with
     |none=>simp[A w]
     |some v=>simp
    ·simp at b
   ·simp at b
  ·simp at b
 ·simp at j
theorem keeps{d b:Value}(h:C6 10000 d b=true)(w:World):(Instr.keyThatStays d b).run P w=.ok b w:=by simp[Instr.keyThatStays,h]
theorem aux{d:Option Nat}{k:MK}{x y z:ASrc}(f:ww P (.mput d k x y z) m=true)(p:step Γ (.mput d k x y z) s=some (true,s'))(h:SR g s w a)(Y:cL g s w a s' next):m.wp P a w next Q:=by
 obtain⟨dst,W,ty,pos,B,J⟩:=m;simp only[ww,Ac,beq_iff_eq] at f;obtain⟨rfl,f⟩:=f;have A:∀t u C D,(∀ρ:Operand->Value,execOp ρ ⟨dst,W,ty,pos,B,J⟩=(do Dx t (ρ u) (ρ C) (ρ D);pure .skip))->ac2 P t k=true->aH x u=true->aH y C=true->aH z D=true->(⟨dst,W,ty,pos,B,J⟩:Oper).wp P a w next Q:=by
  intro t u C D S h1 h2 h3 h4;obtain⟨kt,e,hu,ht,hz⟩:=aht h1;have M:=aP h2 h.er;have r2:=aP h3 h.er;have r3:=aP h4 h.er;generalize R:a.eval u=cx at M;simp only[step] at p;split at p
  ·rename_i id hx;rw[hx] at M;cases M;split at p
   ·rename_i k' es X;split at p
    ·rename_i N;subst N;split at p
     ·rename_i key v hk hv;obtain rfl:_=s':=by simpa using p
      have I:=ahZ hk r2;obtain⟨O,G⟩:=ata hv r3;obtain⟨ents,clock,F,H⟩:=alP h X;have q:=yA (w:=w) ht key false;have hf:=aaP (P:=P) (w:=w) ht H key;have fin:∀j b E,fR E j b->E=cE es key v->(Dx t (.map (some (g.ρ id))) (k'.keyV key) (k'.valV v)).run P w=.ok () {w with heap:=w.heap.setIfInBounds (g.ρ id) (.map j b)}->(⟨dst,W,ty,pos,B,J⟩:Oper).wp P a w next Q:=by
       rintro j b E L rfl hr;obtain⟨Z,p2⟩:=h.putMap X F L;unfold C7 Di;rw[S,R,I,O];simp only[C0,hr,Co,Sem.run_pure];cases dst with
       |none=>exact Y _ _ g Z p2 rfl
       |some d=>exact Y _ _ g (Z.set d (.undef _) (by simp[ap])) p2 rfl
      cases o:aY es key with
      |some v0=>obtain⟨b1,b2,en,b3,b4,b5,b6⟩:=ap9 H o;refine fin _ _ _ (H.set (i:=nQ es key) (x:=key) G) (atc o).symm ?_;simp[Dx,run_underlying hu,Go.MapKept.run_getObj_map F,q,hf,rE,o,b3,b4,keeps (ar9 k' key),Go.MapKept.run_setObj_map _ F]
      |none=>refine fin _ _ _ (H.push (x:=key) G) (asb o).1.symm ?_;simp[Dx,run_underlying hu,Go.MapKept.run_getObj_map F,q,hf,rE,o,Go.MapKept.run_setObj_map _ F]
     ·simp at p
    ·simp at p
   ·simp at p
  ·simp at p
 split at f;·rename_i t u C D;simp only[Ac] at f;exact A t u C D (λρ=>by simp[execOp]) f.1 f.2.1 f.2.2.1 f.2.2.2
 ·rename_i t u C D;simp only[Ac] at f;exact A t u C D (λρ=>by simp[execOp]) f.1 f.2.1 f.2.2.1 f.2.2.2
 ·simp at f
end
end
def atd(P:Program)(o:IOp)(m:Oper):Bool:=
 match o with
 | .apo d k x y=>rx P (.apu d k x y) m
 |_=>false
section
variable{w w':World}{g g':Gh}{s s':St}{a:Act}{P:Program}{Γ:aq}{m:Oper}{next:Act->World->Prop}{Q:Exit->Act->World->Prop}
theorem avh{d:Nat}{k:EK}{x y:ASrc}(i:g.β=gM P)(q:atd P (.apo d k x y) m=true)(b:step Γ (.apo d k x y) s=some (true,s'))(h:SR g s w a)(A:cL g s w a s' next):m.wp P a w next Q:=by
 have q:rx P (.apu d k x y) m=true:=q;simp only[step] at b;split at b
 ·rename_i N l f O e C I;split at b
  ·rename_i F;split at b
   ·rename_i B;subst F B;split at b;case isFalse=>cases b
    rename_i hd;simp only[Ai,Ao,Ac,decide_eq_true_eq] at b;obtain⟨⟨J,M⟩,rfl⟩:=b;have t:(x.after s).hp=s.hp:=by cases x<;>rfl
    have o:(x.after s).env.length=s.env.length:=by cases x<;>simp[ASrc.after,St.set]
    refine arZ (s':=(x.after s).set d (.ul f (l++e))) (Γ:=Γ) i q ?_ h ?_;·simp only[step,C,I];simp[J]
    ·intro a' w' g' H D u;have v:(eL.opn (.slot d)).step ((x.after s).set d (.ul f (l++e)))=some (true,{(x.after s).set d (.sw f s.hp.length (l++e).length) with hp:=s.hp++[some [.rw f (l++e)],none]}):=by
      have E:((x.after s).set d (.ul f (l++e))).get d=.ul f (l++e):=by simp[St.get,St.set,Al,o,hd]
      have j:((x.after s).set d (.ul f (l++e))).hp=s.hp:=t;simp only[eL.step,St.at?,E,St.put?,j];have:0<(l++e).length:=M;simp only[this,decide_true,St.set,Dp,t]
     obtain⟨p,G,L⟩:=alM H v;exact A a' w' p G (D.trans L) u
   ·simp at b
  ·simp at b
 ·simp at b
end
def wz:List ASrc->List Operand->Bool
 | [],[]=>true
 |x::xs,y::ys=>aH x y&&wz xs ys
 |_,_=>false
def afx:Op->Option (FuncId×List Operand)
 | .call c=>match c.callee with| .value (.func f)=>some (f,c.args.toList)|_=>none
 |_=>none
def yB(P:Program)(f:FuncId):Bool:=match P.funcs[f]? with|some fn=>fn.body.isSome&&fn.name !="runtime.NumGoroutine"|none=>false
def abC(P:Program)(o:IOp)(m:Oper):Bool:=
 match o with
 | .callz d f avs=>(m.dst==some d)&&(match afx m.op with|some (e,b)=>(f==e)&&(wz avs b&&yB P f)|none=>false)
 | .call d f avs=>(m.dst==d)&&(match afx m.op with|some (e,b)=>(f==e)&&(wz avs b&&yB P f)|none=>false)
 |_=>false
def aqT(P:Program)(o:IOp)(m:Oper):Bool:=bo P o m||rD P o m||abC P o m||mY P o m||agQ P o m||ap8 P o m||xT P o m||rx P o m||ww P o m||atd P o m||avf P o m
def ac4(P:Program)(d:Array Oper)(x:GOp)(m:Oper):Bool:=
 aqT P x.o m&&(x.o.dst==m.dst)&&(match x.g,m.guard with
  |none,none=>true
  |some (n,b),some (j,e)=>(b==e)&&((d[j]?).bind (·.dst)==some n)
  |_,_=>false)
def wo(P:Program)(b:Array Oper):Nat->List GOp->Bool
 |i,[]=>i==b.size
 |i,x::l=>(match b[i]? with|some m=>ac4 P b x m|none=>false)&&wo P b (i+1) l
def yq(P:Program)(d:List Nat)(b:Array Oper)(l:List GOp)(pre:List (List Nat)):Bool:=
 (P.follows .mixedOrders&&wo P b 0 l)&&((AU l.length).all λj=>
  (match b[j]? with
   |some m=>m.after.toList.all (λe=> !Region.binds .any e||decide (e.on<j))&&(pre.getD j []).all (λi=>m.after.toList.any λe=>BU .any e&&(e.on==i||(pre.getD e.on []).contains i))
   |none=>false)&&
  (match l[j]? with
   |some x=>(AU j).all λi=>(pre.getD j []).contains i||(match l[i]? with|some y=>ac1 d y x|none=>false)
   |none=>false))
def rF(P:Program)(b:Array Oper):Nat->List GOp->Bool
 |_,[]=>true
 |i,x::l=>(match b[i]? with|some m=>ac4 P b x m|none=>false)&&rF P b (i+1) l
def qG(P:Program)(b:Array Oper):Nat->List (List eL×List GOp)->Bool
 |i,[]=>i==b.size
 |i,x::l=>rF P b i x.2&&qG P b (i+x.2.length) l
def bd(P:Program)(b:List Nat)(base:Nat):IR->Code->Bool
 | .bad,_=>true
 | .skip,.skip=>true
 | .skip,.label _=>true
 | .reg l _,.region _ e false=>wo P e 0 l
 | .reg l pre,.region _ e true=>yq P b e l pre
 | .rgs l,.region _ e false=>qG P e 0 l
 | .seq x y,.seq c d=>bd P b base x c&&bd P b base y d
 | .cond v x y,.cond u c d=>aH v u&&(bd P b base x c&&bd P b base y d)
 | .block i x,.block j c=>i==j&&bd P b base x c
 | .loop _ n x,.loop c=>Cs base n&&bd P b base x c
 | .cut _ n x,c=>Cs base n&&bd P b base x c
 | .gh _ x,c=>bd P b base x c
 | .ope _ x,c=>bd P b base x c
 | .ghp _ x,c=>bd P b base x c
 | .exit i,.exit j=>i==j
 | .ret,.ret=>true
 |_,_=>false
def tV(P:Program)(g:Gh)(w:World):Prop:=g.β=gM P∧(nR≠[]->g.I tR 0∧g.O tR=none∧tR<w.heap.size∧∃t,w.heap[tR]? =some (.cells nR.toArray t (0,0)))
structure tW(P:Program)(g:Gh)(hp:List ai)(w:World):Prop where
 base:tV P g w
 notI:∀(id:Nat) cs,hp[id]? =some (some cs)->∀j,¬g.I (g.ρ id) j
theorem tW.on{P:Program}{g₀ g:Gh}{hp₀ hp:List ai}{w₀ w:World}(h:tW P g₀ hp₀ w₀)(f:FR g₀ hp₀ w₀ g hp w):tV P g w:=by
 refine⟨f.beta.trans h.base.1,λi=>?_⟩;obtain⟨j,k,b,t,p⟩:=h.base.2 i;have o:∀(id:Nat) cs,hp₀[id]? =some (some cs)->g₀.ρ id≠tR:=λid cs d e=>h.notI id cs d 0 (e▸j)
 exact⟨f.up.mono _ _ j,f.oSame _ b o k,AE b f.size,t,(f.block _ b o k).trans p⟩
theorem tV.sub{P:Program}{g b:Gh}{w:World}(h:tV P g w)(e:b.β=g.β)(f:g.I tR 0->b.I tR 0)(i:g.O tR=none->b.O tR=none):tV P b w:=
 ⟨e.trans h.1,λd=>have k:=h.2 d;⟨f k.1,i k.2.1,k.2.2⟩⟩
def eO(P:Program)(f:FuncId)(vs:List V)(hp:List ai)(v:V)(hp':List ai):Prop:=
 ∀(w:World)(g:Gh)(b:Array Value),tV P g w->HR g hp w->vs.length=b.size->(∀x∈vs,x.bare=true)->
  (∀(i:Nat) x cv,vs[i]? =some x->b[i]? =some cv->VRel g.I g.ρ hp.length w x cv)->
  Calls P f b w λe w'=>∃cv d,e=.returned cv∧HR d hp' w'∧FR g hp w d hp' w'∧VRel d.I d.ρ hp'.length w' v cv∧ap d w' .res v cv
def ca(P:Program)(Γ:aq):Prop:=∀f vs hp v hp',Γ f vs hp=some (true,v,hp')->eO P f vs hp v hp'
section
variable{w:World}{g:Gh}{s s':St}{a:Act}{P:Program}{Γ:aq}{m:Oper}{next:Act->World->Prop}{Q:Exit->Act->World->Prop}
theorem ah0(h:ER g s.hp.length w s.env a.tmps):∀(xs:List ASrc)(ys:List Operand),wz xs ys=true->xs.length=ys.length∧
  ∀(i:Nat) v cv,(xs.map λx=>disown (x.ev s))[i]? =some v->(ys.map a.eval)[i]? =some cv->VRel g.I g.ρ s.hp.length w v cv
 | [],[],_=>⟨rfl,by simp⟩
 |x::xs,y::ys,hp=>by
  simp only[wz,Ac] at hp;obtain⟨e,f⟩:=ah0 h xs ys hp.2;refine⟨by simp[e],?_⟩;intro i v cv d b;cases i with
  |zero=>simp at d b;subst d b;exact(aP hp.1 h).disown
  |succ i=>exact f i v cv (by simpa using d) (by simpa using b)
 | [],_::_,hp=>by simp[wz] at hp
 |_::_,[],hp=>by simp[wz] at hp
theorem ahv{o:Op}{f:FuncId}{avs:List Operand}(h:afx o=some (f,avs)):∃ts,o=.call ⟨.value (.func f),⟨avs⟩,ts⟩:=by
 unfold afx at h;split at h
 ·rename_i c;obtain⟨b,⟨d⟩,e⟩:=c;simp only at h;split at h;·simp only[Ai,Ao] at h;obtain⟨rfl,rfl⟩:=h;exact⟨_,rfl⟩
  ·simp at h
 ·simp at h
def Gh.hide(g:Gh):Gh:={g with O:=λb=>match g.O b with|some (.slot _)=>none|o=>o}
theorem HR.hide{hp:List ai}(h:HR g hp w):HR g.hide hp w:=by
 refine⟨?_,h.apart,h.notI,?_,h.exI,?_⟩
 ·intro id cs f;refine(h.obj id cs f).keep rfl λu e x y d=>?_
  refine⟨d.len,d.plain,d.typed,d.cold,d.one,d.rel,?_,d.bn⟩;intro j c cv v i;have:=d.own j c cv v i;refine cH this rfl (λb j q=>⟨q,rfl⟩) ?_;intro b k;exact⟨by simp[Gh.hide,k],rfl,λj t=>t⟩
 ·intro id cs f;simp[Gh.hide,h.notO id cs f]
 ·intro b o k;cases p:g.O b with
  |none=>simp[Gh.hide,p] at k
  |some o'=>exact h.oLt b o' p
def Gh.back(g d:Gh)(dst:Option Nat):Gh:={I:=d.I,ρ:=d.ρ,β:=d.β,O:=λb=>match g.O b with
 |some (.slot n)=>some (.slot n)
 |_=>match d.O b with
  |some .res=>dst.map .slot
  |some (.slot _)=>none
  |o=>o}
theorem Gh.back_else{g e:Gh}{dst:Option Nat}{b:Nat}(h:∀n,g.O b≠some (.slot n)):(g.back e dst).O b=(match e.O b with
  |some .res=>dst.map .slot
  |some (.slot _)=>none
  |o=>o):=by
 cases d:g.O b with
 |none=>simp only[Gh.back,d]
 |some o=>
  cases o with
  |slot n=>exact absurd d (h n)
  |cell i j=>simp only[Gh.back,d]
  |res=>simp only[Gh.back,d]
theorem asc{hp':List ai}{w':World}{x:Gh}{dst:Option Nat}{v:V}{cv:Value}(h:SR g s w a)(N:HR x hp' w')(y:FR g.hide s.hp w x hp' w')
  (q3:VRel x.I x.ρ hp'.length w' v cv) (X:ap x w' .res v cv):
  SR (g.back x dst) (St.setO {s with hp:=hp'} dst v) w' (a.put dst cv)∧FR g s.hp w (g.back x dst) hp' w':=by
 have t:∀b n,g.O b=some (.slot n)->g.hide.O b=none:=λb n f=>by simp[Gh.hide,f]
 have q:∀b n,g.O b=some (.slot n)->∀(id:Nat) cs,s.hp[id]? =some (some cs)->g.hide.ρ id≠b:=by intro b n f id cs A e;have:=h.hr.notO id cs A;rw[show g.ρ id=b from e,f] at this;simp at this
 have p:∀b o,x.O b=some o->∀n,g.O b≠some (.slot n):=by intro b o f n C;have:=y.oSame b (h.hr.oLt _ _ C) (q b n C) (t b n C);rw[this] at f;simp at f
 have L:∀b o,x.O b=some o->(∀n,o≠.slot n)->o≠.res->(g.back x dst).O b=some o:=by
  intro b o f M B;rw[Gh.back_else (p b o f),f];cases o with
  |slot n=>exact absurd rfl (M n)
  |cell i j=>rfl
  |res=>exact absurd rfl B
 have blk:∀b n,g.O b=some (.slot n)->w'.heap[b]? =w.heap[b]?∧∀j,x.I b j->g.I b j:=by intro b n f;have G:=h.hr.oLt _ _ f;exact⟨y.block b G (q b n f) (t b n f),λj W=>y.iSame b j G (q b n f) (t b n f) W⟩
 have up:Up g.I g.ρ s.hp.length w x.I x.ρ hp'.length w':=y.up;have hs:SR (g.back x dst) {s with hp:=hp'} w' a:=by
  refine⟨⟨?_,N.apart,N.notI,?_,N.exI,?_⟩,⟨h.er.size,?_,?_⟩⟩
  ·intro id cs A;refine(N.obj id cs A).keep rfl λZ e fz M B=>?_
   refine⟨B.len,B.plain,B.typed,B.cold,B.one,B.rel,?_,B.bn⟩;intro j c cv hc D;refine cH (B.own j c cv hc D) rfl (λb j hi=>⟨hi,rfl⟩) ?_;intro b f;exact⟨L b _ f (by simp) (by simp),rfl,λj W=>W⟩
  ·intro id cs A;have h0:=N.notO id cs A;show (g.back x dst).O (x.ρ id)=none;by_cases E:∃n,g.O (x.ρ id)=some (.slot n)
   ·obtain⟨n,C⟩:=E;exfalso;rcases y.live id cs A with⟨H,J⟩|⟨_,J|J|⟨an,ar,h5,h6⟩⟩
    ·have G:id<s.hp.length:=(Ad.1 J).1;rw[show x.ρ id=g.ρ id from y.up.rho id G,h.hr.notO id H J] at C;simp at C
    ·have:=h.hr.oLt _ _ C;omega
    ·exact J (t _ n C)
    ·exact q _ n C an ar h5 h6
   ·rw[Gh.back_else (λn C=>E ⟨n,C⟩),h0]
  ·intro b o f;by_cases E:∃n,g.O b=some (.slot n);·obtain⟨n,C⟩:=E;have:=h.hr.oLt _ _ C;exact AE this y.size
   ·rw[Gh.back_else (λn C=>E ⟨n,C⟩)] at f;cases F:x.O b with
    |none=>rw[F] at f;simp at f
    |some o'=>exact N.oLt b o' F
  ·intro n v cv hv D;exact(h.er.rel n v cv hv D).up up
  ·intro n v cv hv D;refine cH (h.er.own n v cv hv D) y.beta (λb j hi=>⟨up.mono b j hi,up.cell b j hi⟩) ?_;intro b f;obtain⟨b1,b2⟩:=blk b n f;exact⟨by simp[Gh.back,f],b1,b2⟩
 have fr:FR g s.hp w (g.back x dst) hp' w':=by
  refine⟨y.beta,y.os,y.tape,y.output,y.size,?_,up,?_,?_,?_⟩;·intro b f S F;exact y.block b f S (by simp[Gh.hide,F])
  ·intro b j f S F W;exact y.iSame b j f S (by simp[Gh.hide,F]) W
  ·intro b f S F;have:=y.oSame b f S (by simp[Gh.hide,F]);rw[Gh.back_else (by simp[F]),this]
  ·intro id cs A;rcases y.live id cs A with J|⟨M,B|B|B⟩
   ·exact .inl J
   ·exact .inr ⟨M,.inl B⟩
   ·refine .inr ⟨M,.inr (.inl λh3=>B ?_)⟩;show (match g.O (x.ρ id) with|some (.slot _)=>none|o=>o)=none;rw[show g.O (x.ρ id)=none from h3]
   ·exact .inr ⟨M,.inr (.inr B)⟩
 refine⟨?_,fr⟩;cases dst with
 |none=>exact hs
 |some d=>
  refine hs.set d q3 ?_;cases v with
  |sl k o xs=>
   cases o with
   |may u=>simp[ap]
   |own=>
    cases cv with
    |slice Y len cap=>
     cases Y with
     |none=>simp[ap]
     |some Y=>obtain⟨R,o2,o3⟩:=X;refine⟨?_,o2,o3⟩;rw[Gh.back_else (p _ _ R),R];rfl
    |_=>simp[ap]
  |raw n=>
   cases cv with
   |pointer Y=>
    cases Y with
    |none=>simp[ap]
    |some Y=>obtain⟨R,o2,o3⟩:=X;refine⟨?_,o2,o3⟩;rw[Gh.back_else (p _ _ R),R];rfl
   |_=>simp[ap]
  |ul k xs=>
   rcases X with X|⟨b,cap,Z,e,fz,m0,m1,m2,m3,m4,m5,m6,m7,m8,m9⟩
   ·exact .inl X
   ·refine .inr ⟨b,cap,Z,e,fz,m0,m1,m2,m3,?_,m5,m6,m7,m8,m9⟩;rw[Gh.back_else (p _ _ m4),m4];rfl
  |_=>simp[ap]
theorem aqa(A:ca P Γ)(C:tV P g w){d:Option Nat}{f:Nat}{avs:List ASrc}(k:abC P (.call d f avs) m=true)(q:step Γ (.call d f avs) s=some (true,s'))(h:SR g s w a)(J:cL g s w a s' next):m.wp P a w next Q:=by
 obtain⟨dst,op,ty,pos,E,O⟩:=m;simp only[abC,Ac,beq_iff_eq] at k;obtain⟨rfl,k⟩:=k;split at k
 ·rename_i f' b G;obtain⟨ts,rfl⟩:=ahv G;simp only[Ac,beq_iff_eq] at k;obtain⟨rfl,Y,p⟩:=k;simp only[step] at q;split at q
  ·rename_i c v hp' R;simp only[Ai,Ao] at q;obtain⟨rfl,rfl⟩:=q;obtain⟨L,X⟩:=ah0 h.er avs b Y;have B:=A _ _ _ _ _ R;unfold yB at p;split at p
   ·rename_i fn t;simp only[Ac,bne_iff_ne,ne_eq] at p;obtain⟨H,M⟩:=p;have j:fn.body.isNone=false:=by cases hb:fn.body<;>simp_all
    have o:(execOp a.eval ⟨dst,.call ⟨.value (.func f),⟨b⟩,ts⟩,ty,pos,E,O⟩).run P w=.ok (.enter f (b.map a.eval).toArray) w:=by simp[execOp,resolve,Act.eval,Deferred.ofValue,invoke,callFunc,t,M,j];intro F;rw[F] at H;simp at H
    unfold C7;rw[o,Oper.upon_enter];refine(B w g.hide (b.map a.eval).toArray (C.sub rfl (λh=>h) (λh=>by simp[Gh.hide,h])) h.hr.hide (by simp[L]) (by intro x u;obtain⟨y,_,rfl⟩:=AG.1 u;exact eH _) (λi x cv u D=>X i x cv u (by simpa using D))).mono ?_;rintro e w' ⟨cv,g',rfl,Z,N,I,S⟩;simp only;obtain⟨W,r2⟩:=asc (dst:=dst) h Z N I S;refine J _ _ _ W ?_ (by cases dst<;>rfl);cases dst<;>exact r2
   ·simp at p
  ·simp at q
 ·simp at k
theorem ate(o:ca P Γ)(q:tV P g w){d f:Nat}{avs:List ASrc}(G:abC P (.callz d f avs) m=true)(i:step Γ (.callz d f avs) s=some (true,s'))(h:SR g s w a)(b:cL g s w a s' next):m.wp P a w next Q:=by
 simp only[step] at i;split at i
 ·rename_i c v hp' C;simp only[Ai,Ao] at i;obtain⟨rfl,rfl⟩:=i;have x:step Γ (.call (some d) f avs) s=some (true,({s with hp:=hp'}:St).set d v):=by simp only[step,C];rfl
  refine aqa o q (d:=some d) G x h ?_;intro a' w' y t u p;by_cases A:∃k xs,v=.ul k xs
  ·obtain⟨k,xs,rfl⟩:=A;rcases AH d s.env.length with hd|hd
   ·have j:(({s with hp:=hp'}:St).set d (.ul k xs)).at? (.slot d)=.ul k xs:=by
     simp[St.at?,St.get,St.set,An,hd]
    have E:(eL.fz (.slot d)).step (({s with hp:=hp'}:St).set d (.ul k xs))=some (true,({s with hp:=hp'}:St).set d (V.laid (.ul k xs))):=by simp only[eL.step,j];simp[St.put?,St.set,V.laid]
    obtain⟨F,B,D⟩:=anQ t E;exact b a' w' F B (u.trans D) p
   ·have e:({s with hp:=hp'}:St).set d (V.laid (.ul k xs))=({s with hp:=hp'}:St).set d (.ul k xs):=by
     simp only[St.set];rw[D7 (by simpa using hd),D7 (by simpa using hd)]
    rw[e] at b;exact b a' w' y t u p
  ·have e:v.laid=v:=by
    cases v<;>first|rfl|exact absurd ⟨_,_,rfl⟩ A
   rw[e] at b;exact b a' w' y t u p
 ·simp at i
theorem an1(k:ca P Γ)(i:tV P g w){o:IOp}(b:aqT P o m=true)(f:step Γ o s=some (true,s'))(h:SR g s w a)(e:cL g s w a s' next):m.wp P a w next Q:=by
 unfold aqT at b;simp only[A7] at b;rcases b with(((((((((b|b)|b)|b)|b)|b)|b)|b)|b)|b)|b
 ·cases o with
  |pick=>exact aul b f h e
  |bin=>exact auV b f h e
  |un=>exact avF b f h e
  |cvi=>exact auS b f h e
  |b2s=>exact auT b f h e
  |lens=>exact aum b f h e
  |lenl=>exact aun b f h e
  |idx=>exact auU b f h e
  |ixa=>exact auW b f h e
  |subs=>exact auo b f h e
  |subl=>exact aup b f h e
  |fad=>exact auX b f h e
  |ext=>exact auY b f h e
  |nck=>exact auZ b f h e
  |mx=>exact avG b f h e
  |ld d n agg j x=>
   cases j with
   |false=>exact aqG b f h e
   |true=>simp[bo] at b
  |_=>simp[bo] at b
 ·cases o with
  |mov=>exact au0 b f h e
  |bsl=>exact au1 i.1 b f h e
  |app=>exact au2 i.1 b f h e
  |apps=>exact auq i.1 b f h e
  |_=>simp[rD] at b
 ·cases o with
  |call=>exact aqa k i b f h e
  |callz=>exact ate k i b f h e
  |_=>simp[abC] at b
 ·cases o with
  |new=>exact au3 b f h e
  |box=>exact au4 b f h e
  |st=>exact avH b f h e
  |ld d n agg j x=>
   cases j with
   |true=>exact arW b f h e
   |false=>simp[mY] at b
  |bld=>exact au5 b f h e
  |_=>simp[mY] at b
 ·cases o with
  |newb=>exact aur b f h e
  |_=>simp[agQ] at b
 ·cases o with
  |_=>simp[ap8] at b
 ·cases o with
  |boxe=>exact aus b f h e
  |alr=>exact au7 b f h e
  |frz=>exact au8 b f h e
  |lde=>exact au6 b f h e
  |_=>simp[xT] at b
 ·cases o with
  |apu=>exact arZ i.1 b f h e
  |lnw=>exact ava b f h e
  |ixw=>exact avb b f h e
  |fdw=>exact avc b f h e
  |ldw=>exact avd b f h e
  |stw=>exact ave b f h e
  |_=>simp[rx] at b
 ·cases o with
  |mkm=>exact avg b f h e
  |mget=>exact auw b f h e
  |mput=>exact aux b f h e
  |_=>simp[ww] at b
 ·cases o with
  |apo=>exact avh i.1 b f h e
  |_=>simp[atd] at b
 ·cases o with
  |_=>simp[avf] at b
structure Inv(g₀:Gh)(hp₀:List ai)(w₀:World)(df:List Deferred)(g:Gh)(s:St)(w:World)(a:Act):Prop where
 sr:SR g s w a
 fr:FR g₀ hp₀ w₀ g s.hp w
 df:a.defers=df
theorem SR.renew(h:SR g s w a)(n:Nat)(b:Bool)(d:s.get n=.bool b):SR g (s.set n (.bool b)) w a:=by have:=h.bare n;rw[d] at this;exact this
theorem alQ(h:SR g s w a){o:Oper}{d:Array Oper}{j n:Nat}{b i:Bool}(q:(d[j]?).bind (·.dst)=some n)(t:o.guard=some (j,i))(k:s.get n=.bool b):
  Cz o (yielded d a.tmps)=(b==i):=by
 have u:n<s.env.length:=by
  rcases AH n s.env.length with f|f;·exact f
  ·simp[St.get,An,Ba f] at k
 have e:n<a.tmps.size:=by rw[<-h.er.size];exact u
 have r:=h.er.get n;rw[k] at r;have p:a.tmps[n]? =some (a.tmps.getD n undef):=by simp[Bg,e,As e]
 generalize a.tmps.getD n undef=cv at r p;cases r;simp[Cz,t,yielded,q,p]
theorem alR(h:SR g s w a){o:Oper}{b:Array Oper}{j n:Nat}{t:Bool}(k:(b[j]?).bind (·.dst)=some n)(p:o.guard=some (j,t))(f:s.get n=.tup []):
  Cz o (yielded b a.tmps)=false:=by
 have q:n<s.env.length:=by
  rcases AH n s.env.length with e|e;·exact e
  ·simp[St.get,An,Ba e] at f
 have d:n<a.tmps.size:=by rw[<-h.er.size];exact q
 have r:=h.er.get n;rw[f] at r;have i:a.tmps[n]? =some (a.tmps.getD n undef):=by simp[Bg,d,As d]
 generalize a.tmps.getD n undef=cv at r i;cases r;simp[Cz,p,yielded,k,i]
theorem afy(h:SR g s w a)(d:Option Nat):SR g (s.setO d (.tup [])) w (a.put d undef):=by
 cases d with
 |none=>exact h
 |some d=>exact h.set d (.tup [] #[] rfl (by simp)) (by simp[ap])
theorem ako(s:St)(d:Option Nat)(v:V):(s.setO d v).hp=s.hp:=by cases d<;>rfl
theorem an2(a:Act)(d:Option Nat)(v:Value):(a.put d v).defers=a.defers:=by cases d<;>rfl
theorem ac5{R:Type}{c:Bool}{x:Option R}{r:R}(h:chk c x=some r):c=true∧x=some r:=by
 cases c with
 |true=>exact⟨rfl,h⟩
 |false=>simp[chk] at h
theorem yC(A:ca P Γ){g₀:Gh}{hp₀:List ai}{w₀:World}(B:tW P g₀ hp₀ w₀){R:Type}{K:St->Option R}{r:R}{k:Array Oper}{df:List Deferred}{Q:Exit->Act->World->Prop}
  (H:∀s g w a,K s=some r->Inv g₀ hp₀ w₀ df g s w a->Q .normal a w):∀(l:List GOp)(i:Nat),wo P k i l=true->∀(s:St)(g:Gh)(w:World)(a:Act),
   runOps Γ l K s=some r->Inv g₀ hp₀ w₀ df g s w a->wpOps P k Q (Bm i (k.size-i)) a w
 | [],i,y,s,g,w,a,f,h=>by simp only[wo,beq_iff_eq] at y;subst y;simp only[Cf,List.range'_zero,wpOps];exact H s g w a f h
 |⟨S,o,W⟩::l,i,y,s,g,w,a,f,h=>by
  simp only[wo,Ac] at y;obtain⟨y,J⟩:=y;split at y
  ·rename_i m M;have Z:i<k.size:=by
    rcases AH i k.size with F|F;·exact F
    ·simp[Cd F] at M
   rw[show k.size-i=(k.size-(i+1))+1 by omega,Cv];simp only[ac4,Ac,beq_iff_eq] at y;obtain⟨⟨F,X⟩,x⟩:=y;have v:∀e,SR g e w a->e.hp=s.hp->∀c s',stepO Γ W o e=some (c,s')->chk c (runOps Γ l K s')=some r->m.wp P a w (wpOps P k Q (Bm (i+1) (k.size-(i+1)))) Q:=by intro e d D c s' u C;obtain⟨rfl,C⟩:=ac5 C;refine an1 A (B.on h.fr) F (lN u) d ?_;intro a' w' O I N hd;refine yC A B H l (i+1) J s' O w' a' C ⟨I,?_,hd.trans h.df⟩;rw[D] at N;exact h.fr.trans N
   have skip:∀e,SR g e w a->e.hp=s.hp->runOps Γ l K (e.setO o.dst (.tup []))=some r->wpOps P k Q (Bm (i+1) (k.size-(i+1))) (a.put m.dst undef) w:=by intro e d D E;rw[X] at E;refine yC A B H l (i+1) J _ g w _ E ⟨afy d _,?_,(an2 _ _ _).trans h.df⟩;rw[ako,D];exact h.fr
   simp only[wpOps,M];match S,x,f with
   |none,x,f=>
    cases q:m.guard with
    |some p=>rw[q] at x;simp at x
    |none=>
    rw[if_pos (by simp[Cz,q])];left;simp only[runOps] at f;split at f;·rename_i c s' u;exact v s h.sr rfl c s' u f
    ·simp at f
   |some (n,b),x,f=>
    cases q:m.guard with
    |none=>rw[q] at x;simp at x
    |some p=>
    obtain⟨j,Y⟩:=p;rw[q] at x;simp only[Ac,beq_iff_eq] at x;obtain⟨rfl,L⟩:=x;simp only[runOps] at f;split at f
    ·rename_i t G;rw[alQ h.sr L q G];have d:=h.sr.renew n t G;cases t with
     |true=>
      simp only[cond_true] at f;cases b with
      |true=>
       simp only at f;rw[if_pos (by rfl)];left;split at f;·rename_i c s' u;exact v _ d rfl c s' u f
       ·simp at f
      |false=>rw[if_neg (by simp)];exact skip _ d rfl f
     |false=>
      simp only[cond_false] at f;cases b with
      |false=>
       simp only at f;rw[if_pos (by rfl)];left;split at f;·rename_i c s' u;exact v _ d rfl c s' u f
       ·simp at f
      |true=>rw[if_neg (by simp)];exact skip _ d rfl f
    ·rename_i G;rw[alR h.sr L q G,if_neg (by simp)];exact skip _ h.sr rfl f
    ·simp at f
  ·simp at y
theorem afz{b:Array Oper}:∀(l:List GOp)(i:Nat),wo P b i l=true->b.size=i+l.length∧∀(k:Nat) x,l[k]? =some x->∃m,b[i+k]? =some m∧ac4 P b x m=true
 | [],i,h=>by simp only[wo,beq_iff_eq] at h;exact⟨by simp[h],by simp⟩
 |x::l,i,h=>by
  simp only[wo,Ac] at h;obtain⟨f,q⟩:=h;obtain⟨o,j⟩:=afz l (i+1) q;refine⟨by simp[o];omega,?_⟩;intro k y e;cases k with
  |zero=>
   simp at e;subst e;split at f;·rename_i m d;exact⟨m,d,f⟩
   ·simp at f
  |succ k=>obtain⟨m,d,p⟩:=j k y (by simpa using e);exact⟨m,by rw[<-d];congr 1;omega,p⟩
theorem afA(D:ca P Γ){g₀:Gh}{hp₀:List ai}{w₀:World}(E:tW P g₀ hp₀ w₀){q:Array Oper}{i:Nat}{m:Oper}{x:GOp}(O:q[i]? =some m)(L:ac4 P q x m=true){df:List Deferred}{Q:Exit->Act->World->Prop}{K:Act->World->Prop}
  (e:cX Γ x s=some s') (h:Inv g₀ hp₀ w₀ df g s w a) (H:∀B w' a',Inv g₀ hp₀ w₀ df B s' w' a'->K a' w'):wpOp P q Q i K a w:=by
 obtain⟨M,o,R⟩:=x;simp only[ac4,Ac,beq_iff_eq] at L;obtain⟨⟨N,J⟩,f⟩:=L;have k:(match stepO Γ R o s with|some (c,s')=>chk c (some s')|none=>none)=some s'->m.wp P a w K Q:=by
  intro u;split at u
  ·rename_i c v y;obtain⟨rfl,F⟩:=ac5 u;obtain rfl:v=s':=by simpa using F
   refine an1 D (E.on h.fr) N (lN y) h.sr ?_;intro a' w' B G S hd;exact H B w' a' ⟨G,h.fr.trans S,hd.trans h.df⟩
  ·simp at u
 unfold wpOp;simp only[O];match M,f,e with
 |none,f,e=>
  cases d:m.guard with
  |some p=>rw[d] at f;simp at f
  |none=>
  rw[if_pos (by simp[Cz,d])];exact .inl (k e)
 |some (n,b),f,e=>
  cases d:m.guard with
  |none=>rw[d] at f;simp at f
  |some p=>
  obtain⟨j,W⟩:=p;rw[d] at f;simp only[Ac,beq_iff_eq] at f;obtain⟨rfl,I⟩:=f;simp only[cX] at e;split at e
  ·rename_i t C;rw[alQ h.sr I d C];split at e;·rename_i A;rw[if_pos A];exact .inl (k e)
   ·rename_i A;rw[if_neg (by simp[A])];obtain rfl:_=s':=by simpa using e
    rw[<-J];exact H g w _ ⟨afy h.sr _,by rw[ako];exact h.fr,(an2 _ _ _).trans h.df⟩
  ·rename_i C;rw[alR h.sr I d C,if_neg (by simp)];obtain rfl:_=s':=by simpa using e
   rw[<-J];exact H g w _ ⟨afy h.sr _,by rw[ako];exact h.fr,(an2 _ _ _).trans h.df⟩
  ·simp at e
theorem asd(b1:ca P Γ){g₀:Gh}{hp₀:List ai}{w₀:World}(b2:tW P g₀ hp₀ w₀){ad:List Nat}(hP:cI Γ ad){R:Type}{K:St->Option R}{r:R}{t:Array Oper}{l:List GOp}{pre:List (List Nat)}(hc:yq P ad t l pre=true){df:List Deferred}{Q:Exit->Act->World->Prop}
  (hQ:∀s g w a,K s=some r->Inv g₀ hp₀ w₀ df g s w a->Q .normal a w):∀(p:Nat)(k:List Nat)(b:Array Bool)(s:St)(g:Gh)(w:World)(a:Act),
   k.length=p->k.Pairwise (·<·)->(∀i,i∈k↔i<l.length∧b.getD i true=false)->b.size=l.length->(∀j,j<l.length->j ∉ k->∀i∈pre.getD j [],i ∉ k)->
   runOps Γ (k.filterMap λi=>l[i]?) K s=some r->Inv g₀ hp₀ w₀ df g s w a->wpAny P .any t Q p b a w:=by
 simp only[yq,Ac] at hc;obtain⟨⟨-,bs⟩,a9⟩:=hc;obtain⟨J,X⟩:=afz l 0 bs;simp only[Be] at J X
 have hj:∀j,j<l.length->∃m x,t[j]? =some m∧l[j]? =some x∧ac4 P t x m=true∧(∀e∈m.after,BU .any e=true->e.on<j)∧
   (∀i∈pre.getD j [],∃e∈m.after,BU .any e=true∧(e.on=i∨i∈pre.getD e.on []))∧(∀i,i<j->i∈pre.getD j []∨∃y,l[i]? =some y∧ac1 ad y x=true):=by
  intro j L;have h0:=Ap.1 a9 j (AZ.2 L);simp only[Ac] at h0;obtain⟨d,v⟩:=h0;have hx:l[j]? =some l[j]:=Ab L;obtain⟨m,H,S⟩:=X j _ hx;rw[H] at d;rw[hx] at v;simp only[Ac] at d;refine⟨m,l[j],H,hx,S,?_,?_,?_⟩;·intro e M D;have:=Ap.1 d.1 e (by simpa using M);simpa [D] using this
  ·intro i hi;have:=Ap.1 d.2 i hi;obtain⟨e,M,D⟩:=Cu.1 this;simp only[Ac,A7,beq_iff_eq,B1] at D;exact⟨e,by simpa using M,D.1,D.2⟩
  ·intro i hi;have:=Ap.1 v i (AZ.2 hi);simp only[A7,B1] at this;rcases this with Y|Y;·exact .inl Y
   ·right;split at Y;·rename_i y hy;exact⟨y,hy,Y⟩
    ·simp at Y
 have u:∀(k:List Nat)(b:Array Bool),(∀i,i∈k↔i<l.length∧b.getD i true=false)->b.size=l.length->∀j m,t[j]? =some m->(j∈C2 .any t b↔j∈k∧∀e∈m.after,BU .any e=true->e.on<l.length∧e.on ∉ k):=by
  intro k b f E j m H;have L:j<l.length:=by rw[<-J];exact(AQ.1 H).1
  have key:∀i,b.getD i false=true↔i<l.length∧i ∉ k:=by
   intro i;rw[f i];rcases AH i b.size with d|d
   ·have v:i<l.length:=by omega
    simp[Bg,d,v]
   ·have v:¬i<l.length:=by omega
    have Y:¬i<b.size:=by omega
    simp[Bg,Y,v]
  rw[mem_ready,f j];constructor;·rintro⟨d,o,W,v⟩;rw[H] at W;cases W;exact⟨⟨L,d⟩,λe M D=>(key _).1 (v e M D)⟩
  ·rintro⟨⟨_,d⟩,v⟩;exact⟨d,m,H,λe M D=>(key _).2 (v e M D)⟩
 intro p;induction p with
 |zero=>intro k b s g w a C I f E G hr h;have:k=[]:=AT C;subst this;simp only[wpAny];refine⟨?_,hQ s g w a hr h⟩;rw[Dt];intro j F;have:=mem_ready.1 F;obtain⟨hu,o,W,_⟩:=this;exact absurd ((u [] b f E j o W).1 F).1 (by simp)
 |succ p ih=>
  intro k b s g w a C I f E G hr h;simp only[wpAny];refine⟨?_,?_⟩
  ·intro bY;exfalso;cases k with
   |nil=>simp at C
   |cons j k=>
    have an:=((f j).1 (AY ..)).1;obtain⟨m,x,H,hx,S,M,hp,hi⟩:=hj j an;have:j∈C2 .any t b:=by
     refine(u _ b f E j m H).2 ⟨AY ..,λe Z D=>?_⟩;have L:=M e Z D;refine⟨by omega,?_⟩;intro q;rcases AB.1 q with d|d;·omega
     ·have:=(C5.1 I).1 _ d;omega
    rw[bY] at this;simp at this
  ·intro j F;obtain⟨hu,o,W,_⟩:=mem_ready.1 F;obtain⟨bn,al⟩:=(u k b f E j o W).1 F;have an:=((f j).1 bn).1;obtain⟨m,x,H,hx,S,M,hp,hi⟩:=hj j an;rw[H] at W;cases W;have a2:∀i∈pre.getD j [],i ∉ k:=by
    intro i O;obtain⟨e,Z,D,ae⟩:=hp i O;obtain⟨d1,d2⟩:=al e Z D;rcases ae with rfl|ae;·exact d2
    ·exact G _ d1 d2 i ae
   obtain⟨A,B,rfl⟩:=List.append_of_mem bn;have hA:∀i∈A,i<j:=by intro i N;exact(CO.1 I).2.2 i N j (AY ..)
   have hB:∀i∈B,j<i:=by intro i bx;exact(C5.1 (CO.1 I).2.1).1 i bx
   rw[CM,CY hx] at hr;obtain⟨s',hg,bl⟩:=aqO hP _ s (by
    intro y hy;obtain⟨i,N,b0⟩:=List.mem_filterMap.1 hy;rcases hi i (hA i N) with d|⟨y',d,v⟩
    ·exact absurd (AN _ N) (a2 i d)
    ·rw[b0] at d;cases d;exact v) hr
   rw[<-CM] at bl;refine afA b1 b2 H S hg h ?_;intro g' w' a' a4;have q:∀i,i∈A++B↔i∈A++j::B∧i≠j:=by
    intro i;simp only[Az,AB];constructor
    ·rintro(d|d);·exact⟨.inl d,by have:=hA i d;omega⟩
     ·exact⟨.inr (.inr d),by have:=hB i d;omega⟩
    ·rintro⟨d|d|d,v⟩;·exact .inl d
     ·exact absurd d v
     ·exact .inr d
   refine ih (A++B) (b.setIfInBounds j true) s' g' w' a' ?_ ?_ ?_ (by simp[E]) ?_ bl a4;·simp only[Aj,Af] at C ⊢;omega
   ·exact I.sublist (D8 (List.sublist_cons_self ..) _)
   ·intro i;rw[q,f];by_cases ar:i=j
    ·subst ar;have cd:i<b.size:=by omega
     simp[Bg,cd]
    ·rw[getD_set_ne true (λe=>ar e.symm)];simp[ar]
   ·intro j' cc a3 i O b6;obtain⟨d,v⟩:=(q i).1 b6;by_cases a5:j'=j;·subst a5;exact a2 i O d
    ·exact G j' cc (λb3=>a3 ((q j').2 ⟨b3,a5⟩)) i O d
theorem tX{α:Type}:∀(l:List α),((AU l.length).filterMap λi=>l[i]?)=l
 | []=>rfl
 |x::l=>by rw[Af,List.range_succ_eq_map,CY (b:=x) (by simp),List.filterMap_map];have:=tX l;simp only[D4,Nat.succ_eq_add_one,A9];rw[this]
theorem Inv.drew{g₀:Gh}{hp₀:List ai}{w₀:World}{df:List Deferred}(h:Inv g₀ hp₀ w₀ df g s w a):Inv g₀ hp₀ w₀ df g s w.drew a:=by
 have u:Up g.I g.ρ s.hp.length w g.I g.ρ s.hp.length w.drew:=⟨λ_ _ h=>h,λ_ _ _=>rfl,λ_ _=>rfl,Ar _⟩
 refine⟨⟨h.sr.hr.drew,⟨h.sr.er.size,λn v cv d e=>(h.sr.er.rel n v cv d e).up u,λn v cv d e=>cH (h.sr.er.own n v cv d e) rfl (λb j f=>⟨f,rfl⟩) (λb k=>⟨k,rfl,λj i=>i⟩)⟩⟩,?_,h.df⟩;exact⟨h.fr.beta,h.fr.os,h.fr.tape,h.fr.output,h.fr.size,h.fr.block,h.fr.up.trans u,h.fr.iSame,h.fr.oSame,h.fr.live⟩
theorem aqU(o:ca P Γ){g₀:Gh}{hp₀:List ai}{w₀:World}(p:tW P g₀ hp₀ w₀){f:List Nat}(x:cI Γ f){R:Type}{K:St->Option R}{r:R}{id:Nat}{e:Array Oper}{l:List GOp}{pre:List (List Nat)}(q:yq P f e l pre=true){df:List Deferred}{Q:Exit->Act->World->Prop}
  (y:∀s g w a,K s=some r->Inv g₀ hp₀ w₀ df g s w a->Q .normal a w) (v:runOps Γ l K s=some r) (h:Inv g₀ hp₀ w₀ df g s w a):(Code.region id e true).wp P Q a w:=by
 have b:=q;simp only[yq,Ac] at b;have d:e.size=l.length:=by simpa using (afz l 0 b.1.2).1
 refine wp_region_any b.1.1 ?_;rw[d];refine asd o p x q y l.length (AU l.length) _ s g _ a (by simp) List.pairwise_lt_range ?_ (by simp) ?_ (by rw[tX];exact v) h.drew;·intro i;by_cases t:i<l.length<;>simp[Bg,t]
 ·intro j u k;exact absurd (AZ.2 u) k
theorem qc(d:List Nat)(m:Nat):∀(b:List V)(i n:Nat)(v:V),(pZ d m i b)[n]? =some v->v=.undef∨(v.lower m=true∧b[n]? =some v)
 | [],i,n,v,h=>by simp[pZ] at h
 |x::b,i,n,v,h=>by
  simp only[pZ] at h;cases n with
  |zero=>
   simp only[Bq,Ai] at h;split at h;·rename_i e;simp only[Ac] at e;right;subst h;exact⟨e.2,by simp⟩
   ·left;exact h.symm
  |succ n=>simp only[A9] at h ⊢;exact qc d m b (i+1) n v h
theorem tY(d:List Nat)(m:Nat):∀(b:List V)(i:Nat),(pZ d m i b).length=b.length
 | [],i=>rfl
 |x::b,i=>by simp[pZ,tY d m b (i+1)]
theorem nT{n:Nat}:∀{cs:List V},V.lowers n cs=true->∀(i:Nat) c,cs[i]? =some c->c.lower n=true
 | [],_,i,c,b=>by simp at b
 |x::cs,h,i,c,b=>by
  simp only[V.lowers,Ac] at h;cases i with
  |zero=>simp at b;subst b;exact h.1
  |succ i=>exact nT h.2 i c (by simpa using b)
theorem apz{n:Nat}{cs:List V}(h:V.lowers n cs=true)(j:Nat)(c:V)(b:(cellsOf cs)[j]? =some c):c.lower n=true:=by
 cases d:cF cs with
 |false=>rw[eM d] at b;exact nT h j c b
 |true=>
  unfold cF at d;split at d;·simp only[cellsOf,AA,Aq] at b;obtain⟨_,_,rfl⟩:=b;rfl
  ·simp[V.lowers,V.lower] at h
  ·unfold cellsOf at b;split at b;·rename_i e;cases e
   ·rename_i e;cases e
   ·rename_i e;cases e;simp[V.lowers,V.lower] at h
   ·exact nT h j c b
  ·cases d
theorem apA{v:V}{n:Nat}(h:v.flat1=true):v.lower n=true:=by unfold V.flat1 at h;split at h<;>first|rfl|cases h
theorem VRel.fewer{I:Nat->Nat->Prop}{ρ:Nat->Nat}{N n:Nat}{v:V}{cv:Value}(h:VRel I ρ N w v cv)(y:v.lower n=true)(R:n<=N):VRel I ρ n w v cv:=by
 induction h with
 |undef cv=>exact .undef cv
 |bool b=>exact .bool b
 |int k n h=>exact .int k n h
 |str l s q h=>exact .str l s q h
 |sln k o=>exact .sln k o
 |sle k o B L=>exact .sle k o B L
 |sl k o xs b e len cap q d u M f G F D A=>refine .sl k o xs b e len cap q d u M f G F (λi x j v C J=>A i x j v C J ?_);exact apA (acU k x v (Am J))
 |agg cs vs q C H D A=>exact .agg cs vs q C H (λi c cv d t=>A i c cv d t (nT (by simpa [V.lower] using y) i c d))
 |tup cs vs q D A=>exact .tup cs vs q (λi c cv d t=>A i c cv d t (nT (by simpa [V.lower] using y) i c d))
 |ea cs b e f C G F D A=>exact .ea cs b e f C G F (λj c d=>A j c d (nT (by simpa [V.lower] using y) j c d))
 |ptr id e h=>exact .ptr id e (by simpa [V.lower,Cp] using y)
 |nilp=>exact .nilp
 |fn f cs vs q D A=>exact .fn f cs vs q (λi c cv d t=>A i c cv d t (nT (by simpa [V.lower] using y) i c d))
 |nilif=>exact .nilif
 |bn E n p=>exact .bn E n p
 |junk cv h=>exact .junk cv h
 |so id m cap h d u=>exact .so id m cap (by simpa [V.lower,Cp] using y) d u
 |raw n b=>exact .raw n b
 |ul k xs B cap u=>exact .ul k xs B cap u
 |hd n B cap u=>exact .hd n B cap u
 |sw k id m h d u=>exact .sw k id m (by simpa [V.lower,Cp] using y) d u
 |sx k id e m B cap h d u q O=>exact .sx k id e m B cap (by simpa [V.lower,Cp] using y) d u q O
 |wp id k i o h=>exact .wp id k i o (by simpa [V.lower,Cp] using y)
 |mr id h=>exact .mr id (by simpa [V.lower,Cp] using y)
 |nilm=>exact .nilm
theorem xd{n:Nat}:∀{hp:List ai},nK n hp=true->∀(id:Nat) cs,hp[id]? =some (some cs)->V.lowers n cs=true
 | [],_,id,cs,h=>by simp at h
 |none::hp,b,id,cs,h=>by
  cases id with
  |zero=>simp at h
  |succ id=>exact xd (hp:=hp) (by simpa [nK] using b) id cs (by simpa using h)
 |some x::hp,b,id,cs,h=>by
  simp only[nK,Ac] at b;cases id with
  |zero=>simp at h;subst h;exact b.1
  |succ id=>exact xd b.2 id cs (by simpa using h)
theorem SR.keepEnv(h:SR g s w a)(b:List Nat)(n:Nat):SR g {s with env:=pZ b n 0 s.env} w a:=by
 refine⟨h.hr,⟨by simp[tY,h.er.size],?_,?_⟩⟩
 ·intro m v cv e d;rcases qc b n s.env 0 m v e with rfl|⟨_,e⟩
  ·exact .undef _
  ·exact h.er.rel m v cv e d
 ·intro m v cv e d;rcases qc b n s.env 0 m v e with rfl|⟨_,e⟩
  ·simp[ap]
  ·exact h.er.own m v cv e d
theorem aqb(s:St)(b:List Nat)(n:Nat):(s.keep b n).hp=s.hp∨n<s.hp.length∧(s.keep b n).hp=s.hp.take n:=by
 unfold St.keep;cases f:nK n (s.hp.take n) with
 |false=>exact .inl rfl
 |true=>
  rcases AH n s.hp.length with e|d;·exact .inr ⟨e,rfl⟩
  ·exact .inl (Bl d)
theorem an3{s:St}{b:List Nat}{n id:Nat}{cs:List V}(h:(s.keep b n).hp[id]? =some (some cs)):s.hp[id]? =some (some cs):=by
 rcases aqb s b n with e|⟨_,e⟩
 ·rwa [e] at h
 ·rw[e,A3] at h;split at h;·exact h
  ·simp at h
theorem an4{s:St}{b:List Nat}{n m:Nat}(h:m<=n)(f:m<=s.hp.length):m<=(s.keep b n).hp.length:=by
 rcases aqb s b n with e|⟨d,e⟩
 ·rwa [e]
 ·rw[e];simp;omega
theorem SR.keeps(h:SR g s w a)(d:List Nat)(n:Nat):SR g (s.keep d n) w a:=by
 unfold St.keep;cases x:nK n (s.hp.take n) with
 |false=>exact h.keepEnv d n
 |true=>
  simp only[cond_true];rcases AH n s.hp.length with H|B
  ·have p:(s.hp.take n).length=n:=by simp;omega
   have f:∀(id:Nat) cs,(s.hp.take n)[id]? =some (some cs)->s.hp[id]? =some (some cs):=by
    intro id cs b;rw[A3] at b;split at b;·exact b
    ·simp at b
   have D:=xd x;refine⟨⟨?_,?_,?_,?_,h.hr.exI,h.hr.oLt⟩,⟨by simp[tY,h.er.size],?_,?_⟩⟩
   ·intro id cs b;refine(h.hr.obj id cs (f id cs b)).keep rfl λG e I E o=>?_
    refine⟨o.len,o.plain,?_,o.cold,o.one,?_,o.own,o.bn⟩
    ·intro k xs t;have:=D id _ b;unfold agP at t;split at t;·simp[V.lowers,V.lower] at this
     ·simp[V.lowers,V.lower] at this
     ·cases t
    intro j c cv F i;rw[p];exact(o.rel j c cv F i).fewer (apz (D id cs b) j c F) (by omega)
   ·intro id y cs A E o C;exact h.hr.apart id y cs A (f _ _ E) (f _ _ o) C
   ·intro id cs b;exact h.hr.notI id cs (f _ _ b)
   ·intro id cs b;exact h.hr.notO id cs (f _ _ b)
   ·intro m v cv q i;rw[p];rcases qc d n s.env 0 m v q with rfl|⟨u,q⟩
    ·exact .undef _
    ·exact(h.er.rel m v cv q i).fewer u (by omega)
   ·intro m v cv q i;rcases qc d n s.env 0 m v q with rfl|⟨_,q⟩
    ·simp[ap]
    ·exact h.er.own m v cv q i
  ·rw[Bl B];exact h.keepEnv d n
theorem Inv.keeps{g₀:Gh}{hp₀:List ai}{w₀:World}{df:List Deferred}(h:Inv g₀ hp₀ w₀ df g s w a)(b:List Nat){n:Nat}(e:hp₀.length<=n):Inv g₀ hp₀ w₀ df g (s.keep b n) w a:=
 ⟨h.sr.keeps b n,⟨h.fr.beta,h.fr.os,h.fr.tape,h.fr.output,h.fr.size,h.fr.block,⟨h.fr.up.mono,h.fr.up.cell,h.fr.up.rho,an4 e h.fr.up.num⟩,h.fr.iSame,h.fr.oSame,λid cs d=>h.fr.live id cs (an3 d)⟩,h.df⟩
theorem wA(e:ca P Γ){g₀:Gh}{hp₀:List ai}{w₀:World}(f:tW P g₀ hp₀ w₀){R:Type}{K:St->Option R}{r:R}{df:List Deferred}{b:Array Oper}{Q:Exit->Act->World->Prop}{rest:List Nat}
  (k:∀s g w a,K s=some r->Inv g₀ hp₀ w₀ df g s w a->wpOps P b Q rest a w):∀(l:List GOp)(i:Nat),rF P b i l=true->∀(s:St)(g:Gh)(w:World)(a:Act),
   runOps Γ l K s=some r->Inv g₀ hp₀ w₀ df g s w a->wpOps P b Q (Bm i l.length++rest) a w
 | [],i,_,s,g,w,a,d,h=>by simpa using k s g w a d h
 |x::l,i,o,s,g,w,a,d,h=>by
  simp only[rF,Ac] at o;obtain⟨j,v⟩:=o;split at j;·rename_i m q;rw[mZ] at d;obtain⟨s',u,d⟩:=BP.1 d;rw[Af,Cv,AI,wpOps_cons];exact afA e f q j u h λt w' a' p=>wA e f k l (i+1) v s' t w' a' d p
  ·cases j
theorem aiV{R:Type}{K:St->Option R}{r:R}{g₀:Gh}{hp₀:List ai}{w₀:World}{df:List Deferred}{Q:Prop}(d:∀s g,K s=some r->Inv g₀ hp₀ w₀ df g s w a->Q):∀(l:List eL)(s:St)(g:Gh),agO l K s=some r->Inv g₀ hp₀ w₀ df g s w a->Q
 | [],s,g,b,h=>d s g b h
 |x::l,s,g,b,h=>by
  simp only[agO] at b;split at b;·rename_i c s' f;obtain⟨rfl,b⟩:=ac5 b;obtain⟨e,i,j⟩:=mj h.sr f;exact aiV d l s' e b ⟨i,h.fr.trans j,h.df⟩
  ·cases b
theorem aiW{b:Array Oper}:∀(l:List (List eL×List GOp))(i:Nat),qG P b i l=true->i<=b.size
 | [],i,h=>by simp only[qG,beq_iff_eq] at h;omega
 |x::l,i,h=>by simp only[qG,Ac] at h;have:=aiW l _ h.2;omega
theorem aiX(f:ca P Γ){g₀:Gh}{hp₀:List ai}{w₀:World}(j:tW P g₀ hp₀ w₀){R:Type}{K:St->Option R}{r:R}{df:List Deferred}{b:Array Oper}{Q:Exit->Act->World->Prop}
  (q:∀s g w a,K s=some r->Inv g₀ hp₀ w₀ df g s w a->Q .normal a w):∀(l:List (List eL×List GOp))(i:Nat),qG P b i l=true->∀(s:St)(g:Gh)(w:World)(a:Act),
   abz Γ l K s=some r->Inv g₀ hp₀ w₀ df g s w a->wpOps P b Q (Bm i (b.size-i)) a w
 | [],i,d,s,g,w,a,k,h=>by simp only[qG,beq_iff_eq] at d;subst d;simp only[Cf,List.range'_zero,wpOps];exact q s g w a k h
 |x::l,i,d,s,g,w,a,k,h=>by
  simp only[qG,Ac] at d;have t:=aiW l _ d.2;simp only[abz] at k;refine aiV (λs' y D u=>?_) x.1 s g k h;have e:Bm i (b.size-i)=Bm i x.2.length++Bm (i+x.2.length) (b.size-(i+x.2.length)):=by rw[show b.size-i=x.2.length+(b.size-(i+x.2.length)) by omega,<-DN];simp
  rw[e];exact wA f j (λA v C B p o=>aiX f j q l _ d.2 A v C B p o) x.2 i d.1 s' y w a D u
def km:Ex->Exit->Prop
 | .normal,.normal=>True
 | .exit i,.exit j=>i=j
 | .ret,.ret=>True
 |_,_=>False
def an5{R:Type}(g₀:Gh)(hp₀:List ai)(w₀:World)(df:List Deferred)(K:Ex->St->Option R)(r:R)(e:Exit)(a:Act)(w:World):Prop:=
 ∃x s g,km x e∧K x s=some r∧Inv g₀ hp₀ w₀ df g s w a
theorem iB(B:ca P Γ){g₀:Gh}{hp₀:List ai}{w₀:World}(C:tW P g₀ hp₀ w₀){L:List Nat}(G:cI Γ L)(n:Nat){R:Type}{base:Nat}(o:hp₀.length<=base){df:List Deferred}{r:R}:∀(ir:IR)(c:Code),bd P L base ir c=true->∀(K:Ex->St->Option R)(s:St)(a:Act)(w:World)(g:Gh),
  run Γ n ir K s=some r->Inv g₀ hp₀ w₀ df g s w a->c.wp P (an5 g₀ hp₀ w₀ df K r) a w
 | .bad,c,f,K,s,a,w,g,b,h=>by simp[run] at b
 | .wk ..,c,f,K,s,a,w,g,b,h=>by cases c<;>simp[bd] at f
 | .rgs l,c,f,K,s,a,w,g,b,h=>by
   cases c with
   |region id I H=>
    cases H with
    |true=>simp[bd] at f
    |false=>
     have f:qG P I 0 l=true:=by simpa only[bd] using f
     refine wp_region ?_;have:=aiX (Q:=an5 g₀ hp₀ w₀ df K r) B C (K:=K .normal) (r:=r) (λs g w a p D=>⟨.normal,s,g,trivial,p,D⟩) l 0 f s g w a b h
     rwa [Nat.sub_zero,<-Dq] at this
   |_=>simp[bd] at f
 | .skip,c,f,K,s,a,w,g,b,h=>by
   cases c<;>simp[bd] at f;·exact wp_skip ⟨.normal,s,g,trivial,b,h⟩
   ·exact wp_label ⟨.normal,s,g,trivial,b,h⟩
 | .reg l pre,c,f,K,s,a,w,g,b,h=>by
   cases c with
   |region id I H=>
    cases H with
    |true=>
     have f:yq P L I l pre=true:=by simpa only[bd] using f
     exact aqU (Q:=an5 g₀ hp₀ w₀ df K r) B C G f (K:=K .normal) (r:=r) (λs g w a p D=>⟨.normal,s,g,trivial,p,D⟩) b h
    |false=>
     have f:wo P I 0 l=true:=by simpa only[bd] using f
     refine wp_region ?_;have:=yC (Q:=an5 g₀ hp₀ w₀ df K r) B C (K:=K .normal) (r:=r) (λs g w a p D=>⟨.normal,s,g,trivial,p,D⟩) l 0 f s g w a b h
     rwa [Nat.sub_zero,<-Dq] at this
   |_=>simp[bd] at f
 | .seq x y,c,f,K,s,a,w,g,b,h=>by
   cases c<;>simp[bd] at f;rename_i c d;refine wp_seq (wp_mono (iB B C G n o x c f.1 _ s a w g b h) ?_);rintro e a' w' ⟨S,s',A,E,p,D⟩;cases S with
   |normal=>cases e<;>simp only[km] at E;exact iB B C G n o y d f.2 K s' a' w' A p D
   |exit i=>cases e<;>simp only[km] at E;exact⟨.exit i,s',A,E,p,D⟩
   |ret=>cases e<;>simp only[km] at E;exact⟨.ret,s',A,trivial,p,D⟩
 | .cond v x y,c,f,K,s,a,w,g,b,h=>by
   cases c<;>simp[bd] at f;rename_i u c d;simp only[run] at b;split at b
   ·rename_i t ht;have Z:=aP f.1 h.sr.er;rw[ht] at Z;generalize ae:a.eval u=cv at Z;cases Z;refine wp_cond ae ?_;cases t with
    |true=>rw[ASrc.fix_eq ht] at b;exact iB B C G n o x c f.2.1 K s a w g b h
    |false=>simp only[cond_false] at b;rw[ASrc.fix_eq ht] at b;exact iB B C G n o y d f.2.2 K s a w g b h
   ·simp at b
 | .block i x,c,f,K,s,a,w,g,b,h=>by
   cases c<;>simp[bd] at f;rename_i j c;obtain⟨rfl,f⟩:=f;refine wp_block (wp_mono (iB B C G n o x c f _ s a w g b h) ?_);rintro e a' w' ⟨S,s',A,E,p,D⟩;cases S with
   |normal=>cases e<;>simp only[km] at E;exact⟨.normal,s',A,trivial,p,D⟩
   |exit k=>
    cases e<;>simp only[km] at E;subst E;simp only[Exit.inBlock];by_cases M:k=i;·subst M;simp only[if_true];simp only[aJ,Do,cond_true] at p;exact⟨.normal,s',A,trivial,p,D⟩
    ·simp only[M,if_false];have W:AD k i=false:=by
      cases W:AD k i with
      |true=>exact absurd (AS W) M
      |false=>rfl
     simp only[aJ,W,cond_false] at p;exact⟨.exit k,s',A,rfl,p,D⟩
   |ret=>cases e<;>simp only[km] at E;exact⟨.ret,s',A,trivial,p,D⟩
 | .loop F q x,c,f,K,s,a,w,g,b,h=>by
   cases c<;>simp[bd] at f;rename_i c;obtain⟨X,f⟩:=f;have X:hp₀.length<=q:=AR o X;simp only[run] at b
   have key:∀(m:Nat)(s:St)(a:Act)(w:World)(g:Gh),bi m (λO s=>run Γ n x (b7 O F q K) s) s=some r->Inv g₀ hp₀ w₀ df g s w a->
     Code.rounds P c (an5 g₀ hp₀ w₀ df K r) m a w:=by
    intro m;induction m with
    |zero=>intro s a w g b h;simp[bi] at b
    |succ m ih=>
     intro s a w g b h;simp only[bi] at b;rw[rounds_succ];refine wp_mono (iB B C G n o x c f _ s a w g b h) ?_;rintro e a' w' ⟨S,s',A,E,p,D⟩;cases S with
     |normal=>cases e<;>simp only[km] at E;exact ih _ a' w' A p (D.keeps F X)
     |exit k=>cases e<;>simp only[km] at E;exact⟨.exit k,s',A,E,p,D⟩
     |ret=>cases e<;>simp only[km] at E;exact⟨.ret,s',A,trivial,p,D⟩
   exact wp_loop_rounds n (key n _ a w g b (h.keeps F X))
 | .cut F q x,c,f,K,s,a,w,g,b,h=>by simp only[bd,Ac] at f;obtain⟨X,f⟩:=f;simp only[run] at b;exact iB B C G n o x c f K _ a w g b (h.keeps F (AR o (Nat.le_of_ble_eq_true X)))
 | .gh x y,c,f,K,s,a,w,g,b,h=>by
   simp only[bd] at f;simp only[run] at b;split at b
   ·rename_i t s' Y;cases t with
    |false=>simp[chk] at b
    |true=>obtain⟨A,J,N⟩:=mj h.sr Y;exact iB B C G n o y c f K s' a w A b ⟨J,h.fr.trans N,h.df⟩
   ·simp at b
 | .ope x y,c,f,K,s,a,w,g,b,h=>by
   simp only[bd] at f;simp only[run] at b;have go:∀q:eL,(match q.step s with|some (c,s')=>chk c (run Γ n y K s')|none=>none)=some r->∃s' A,run Γ n y K s'=some r∧SR A s' w a∧FR g s.hp w A s'.hp w:=λq b=>by
    split at b
    ·rename_i t s' Y;cases t with
     |false=>simp[chk] at b
     |true=>obtain⟨A,J,N⟩:=mj h.sr Y;exact⟨s',A,b,J,N⟩
    ·simp at b
   have al:∃s' A,run Γ n y K s'=some r∧SR A s' w a∧FR g s.hp w A s'.hp w:=by
    cases W:aqz s x with
    |true=>rw[W] at b;exact go _ b
    |false=>rw[W] at b;exact go _ b
   obtain⟨s',A,b,J,N⟩:=al;exact iB B C G n o y c f K s' a w A b ⟨J,h.fr.trans N,h.df⟩
 | .ghp x y,c,f,K,s,a,w,g,b,h=>by
   simp only[bd] at f;simp only[run] at b;refine wp_mono (iB B C G n o y c f _ s a w g b h) ?_;rintro e a' w' ⟨S,s',A,E,p,D⟩;cases S with
   |normal=>
    simp only[aiI] at p;split at p
    ·rename_i t s2 Y;cases t with
     |false=>simp[chk] at p
     |true=>obtain⟨g2,J,N⟩:=mj D.sr Y;exact⟨.normal,s2,g2,E,p,⟨J,D.fr.trans N,D.df⟩⟩
    ·simp at p
   |exit i=>exact⟨.exit i,s',A,E,p,D⟩
   |ret=>exact⟨.ret,s',A,E,p,D⟩
 | .exit i,c,f,K,s,a,w,g,b,h=>by cases c<;>simp[bd] at f;subst f;exact wp_exit ⟨.exit i,s,g,rfl,b,h⟩
 | .ret,c,f,K,s,a,w,g,b,h=>by cases c<;>simp[bd] at f;exact wp_ret ⟨.ret,s,g,trivial,b,h⟩
end
def agS(P:Program):RV->ResultVar->Bool
 | .t n,.tmp m=>n==m
 | .cell n b agg,.cell m t=>(n==m)&&((fe P t==some b)&&((mV P t==some agg)&&(agg||b==1)))
 |_,_=>false
def jQ(P:Program):List RV->List ResultVar->Bool
 | [],[]=>true
 |x::xs,y::ys=>agS P x y&&jQ P xs ys
 |_,_=>false
section
variable{w:World}{g:Gh}{s s':St}{a:Act}{P:Program}{Γ:aq}
def aqV(g:Gh)(w:World)(x:RV)(v:V)(cv:Value):Prop:=match x with| .t n=>ap g w (.slot n) v cv| .cell .. =>v.bare=true
def ac6(b:Array Value):ResultVar->Sem Value
 | .tmp t=>pure (b.getD t undef)
 | .cell a t=>do loadVar t (<-asAddr (b.getD a undef))
theorem avi(h:SR g s w a){x:RV}{y:ResultVar}(p:agS P x y=true){v:V}(q:x.ev s=some v):
  ∃cv,(ac6 a.tmps y).run P w=.ok cv w∧VRel g.I g.ρ s.hp.length w v cv∧aqV g w x v cv:=by
 cases x with
 |t n=>
  cases y with
  |tmp m=>
   obtain rfl:n=m:=by simpa [agS] using p
   simp only[RV.ev,Ai] at q;subst q;exact⟨_,by simp[ac6],h.er.get n,h.er.getOwn n⟩
  |cell m t=>simp[agS] at p
 |cell n d agg=>
  cases y with
  |tmp m=>simp[agS] at p
  |cell m t=>
   simp only[agS,Ac,beq_iff_eq,A7] at p;obtain⟨rfl,h1,h2,A⟩:=p;have E:=h.er.get n;simp only[RV.ev] at q
   have fin:∀b o (vs:List Value),a.tmps.getD n undef=.pointer (some ⟨b,o,none⟩)->vs.length=d->(∀(j:Nat) v,vs[j]? =some v->w.cell? ⟨b,o+j,none⟩=some v)->
     (ac6 a.tmps (.cell n t)).run P w=.ok (if agg then .agg vs.toArray else vs.headD undef) w:=by
    intro b o vs hp X G;have:=qa (P:=P) (w:=w) (b:=b) (o:=o) (vs:=vs) h1 h2 A X G;simp only[Dw,BZ] at this;simp[ac6,hp,asAddr];simpa using this
   split at q
   ·rename_i id o H;rw[H] at E;generalize k:a.tmps.getD n undef=cv at E fin;cases E with
    |ptr _ _ Z=>
    split at q
    ·rename_i cs W;split at q
     ·rename_i J;obtain rfl:=Ax q;obtain⟨F,e,S,B⟩:=s7 h.hr W;have R:=B.len
      have u:=tS (agg:=agg) (cs:=(cs.drop o).take d) (vs:=(F.toList.drop o).take d) (w:=w) (I:=g.I) (ρ:=g.ρ) (N:=s.hp.length)
       (λc D=>B.one c (BN (Bn D))) (by simp;omega) (by
        rcases A with A|A;·exact .inl A
        ·right;simp;omega)
       (λi c cv p k=>by
        simp only[A3,Bo] at p k;split at p;·rename_i L;simp only[L,if_true] at k;exact B.rel _ _ _ p (by simpa using k)
        ·simp at p)
      refine⟨_,fin _ _ ((F.toList.drop o).take d) rfl (by simp;omega) (λj v C=>?_),u.disown,eH _⟩;rw[aT S];simp only[A3,Bo] at C;split at C;·simpa using C
      ·simp at C
     ·simp at q
    ·simp at q
   ·rename_i cs H;rw[H] at E;generalize k:a.tmps.getD n undef=cv at E fin;cases E with
    |ea _ b o f Y hI G M=>
    split at q
    ·rename_i J;obtain rfl:=Ax q
     have u:=tS (agg:=agg) (cs:=cs.take d) (vs:=(AU d).map f) (w:=w) (I:=g.I) (ρ:=g.ρ) (N:=s.hp.length)
      (λc D=>Y c (Bn D)) (by simp;omega) (by
       rcases A with A|A;·exact .inl A
       ·right;simp;omega)
      (λi c cv p k=>by
       simp only[A3] at p;split at p;·rename_i L;simp[L] at k;subst k;exact M _ _ p
       ·simp at p)
     refine⟨_,fin _ _ ((AU d).map f) rfl (by simp) (λj v C=>?_),u.disown,eH _⟩;rw[AA,Aq] at C;obtain⟨j',O,rfl⟩:=C;obtain⟨Q,rfl⟩:=Ad.1 O;simp only[DY] at Q;simpa using G j (by omega)
    ·simp at q
   ·simp at q
theorem aqc(h:SR g s w a):∀{xs:List RV}{ys:List ResultVar}{vs:List V},jQ P xs ys=true->rvs s xs=some vs->
  ∃cvs:List Value,cvs.length=vs.length∧xs.length=vs.length∧ys.length=vs.length∧(∀(i:Nat) y,ys[i]? =some y->∃cv,cvs[i]? =some cv∧(ac6 a.tmps y).run P w=.ok cv w)∧
   (∀(i:Nat) v cv,vs[i]? =some v->cvs[i]? =some cv->VRel g.I g.ρ s.hp.length w v cv)∧
   (∀(i:Nat) x v cv,xs[i]? =some x->vs[i]? =some v->cvs[i]? =some cv->aqV g w x v cv)
 | [],[],vs,_,k=>by simp only[rvs,Ai] at k;subst k;exact⟨[],rfl,rfl,rfl,by simp,by simp,by simp⟩
 |x::xs,y::ys,vs,e,k=>by
  simp only[jQ,Ac] at e;simp only[rvs] at k;split at k
  ·rename_i v C J F;obtain rfl:=Ax k;obtain⟨cv,p,u,q⟩:=avi h e.1 J;obtain⟨cvs,H,A,E,L,D,B⟩:=aqc h e.2 F;refine⟨cv::cvs,by simp[H],by simp[A],by simp[E],?_,?_,?_⟩
   ·intro i G o;cases i with
    |zero=>simp at o;subst o;exact⟨cv,rfl,p⟩
    |succ i=>simpa using L i G (by simpa using o)
   ·intro i m j d b;cases i with
    |zero=>simp at d b;subst d b;exact u
    |succ i=>exact D i m j (by simpa using d) (by simpa using b)
   ·intro i t m j f d b;cases i with
    |zero=>simp at f d b;subst f d b;exact q
    |succ i=>exact B i t m j (by simpa using f) (by simpa using d) (by simpa using b)
  ·simp at k
 | [],_::_,_,e,_=>by simp[jQ] at e
 |_::_,[],_,e,_=>by simp[jQ] at e
def Gh.hand(g:Gh)(r:Option Nat):Gh:={g with O:=λb=>match g.O b with|some (.slot m)=>(if some m=r then some .res else none)|some .res=>none|o=>o}
theorem HR.hand{hp:List ai}(h:HR g hp w)(r:Option Nat):HR (g.hand r) hp w:=by
 refine⟨?_,h.apart,h.notI,?_,h.exI,?_⟩
 ·intro id cs f;refine(h.obj id cs f).keep rfl λt e v x d=>?_
  refine⟨d.len,d.plain,d.typed,d.cold,d.one,d.rel,?_,d.bn⟩;intro j c cv u i;refine cH (d.own j c cv u i) rfl (λb j p=>⟨p,rfl⟩) ?_;intro b k;exact⟨by simp[Gh.hand,k],rfl,λj q=>q⟩
 ·intro id cs f;simp[Gh.hand,h.notO id cs f]
 ·intro b o k;cases m:g.O b with
  |none=>simp[Gh.hand,m] at k
  |some o'=>exact h.oLt b o' m
theorem FR.hand{g₀:Gh}{hp₀ hp:List ai}{w₀:World}(h:FR g₀ hp₀ w₀ g hp w)(r:Option Nat):FR g₀ hp₀ w₀ (g.hand r) hp w:=
 ⟨h.beta,h.os,h.tape,h.output,h.size,h.block,h.up,h.iSame,λb e d f=>by simp[Gh.hand,h.oSame b e d f],h.live⟩
def ac7:List Value->Value
 | [v]=>v
 |vs=>.tuple vs.toArray
theorem apB{fn:Func}{l:List ResultVar}{cvs:List Value}(F:fn.results.toList=l)(q:l.length=cvs.length)(H:l.length<=5)
  (h:∀(i:Nat) y,l[i]? =some y->∃cv,cvs[i]? =some cv∧(ac6 a.tmps y).run P w=.ok cv w):
  (results fn a.tmps).run P w=.ok (ac7 cvs) w:=by
 have e:fn.results=l.toArray:=by rw[<-F]
 have I:results fn a.tmps=(do let vs <-fn.results.mapM (ac6 a.tmps);pure (if h:vs.size=1 then vs[0] else .tuple vs)):=rfl;rw[I,e];match l,cvs,q,H,h with
 | [],[],_,_,_=>simp[ac7]
 | [f],[v],_,_,h=>obtain⟨_,b,j⟩:=h 0 f rfl;simp at b;subst b;simp[j,ac7]
 | [f,m],[v,B],_,_,h=>obtain⟨_,b,j⟩:=h 0 f rfl;obtain⟨_,d,o⟩:=h 1 m rfl;simp at b d;subst b d;simp[j,o,ac7]
 | [f,m,u],[v,B,D],_,_,h=>obtain⟨_,b,j⟩:=h 0 f rfl;obtain⟨_,d,o⟩:=h 1 m rfl;obtain⟨_,k,t⟩:=h 2 u rfl;simp at b d k;subst b d k;simp[j,o,t,ac7]
 | [f,m,u,x],[v,B,D,J],_,_,h=>obtain⟨_,b,j⟩:=h 0 f rfl;obtain⟨_,d,o⟩:=h 1 m rfl;obtain⟨_,k,t⟩:=h 2 u rfl;obtain⟨_,p,A⟩:=h 3 x rfl;simp at b d k p;subst b d k p;simp[j,o,t,A,ac7]
 | [f,m,u,x,E],[v,B,D,J,L],_,_,h=>obtain⟨_,b,j⟩:=h 0 f rfl;obtain⟨_,d,o⟩:=h 1 m rfl;obtain⟨_,k,t⟩:=h 2 u rfl;obtain⟨_,p,A⟩:=h 3 x rfl;obtain⟨_,C,G⟩:=h 4 E rfl;simp at b d k p C;subst b d k p C;simp[j,o,t,A,G,ac7]
theorem an6{o:Nat}{vs:List V}{hp:List ai}{b:Array Value}(m:HR g hp w)(j:vs.length=b.size)(h:∀x∈vs,x.bare=true)
  (k:∀(i:Nat) x cv,vs[i]? =some x->b[i]? =some cv->VRel g.I g.ρ hp.length w x cv):SR g (start o vs hp) w {tmps:=b++Array.replicate (o-b.size) undef,defers:=[]}:=by
 refine⟨m,⟨by simp[start,j],?_,?_⟩⟩
 ·intro n v cv d e;simp only[start] at d e;rcases AH n vs.length with f|f;·rw[Aw f] at d;rw[CQ (by omega)] at e;exact k n v cv d e
  ·rw[Av f,Ea] at d;split at d;·obtain rfl:=Ax d;exact .undef _
   ·simp at d
 ·intro n v cv d e;simp only[start] at d;rcases AH n vs.length with f|f;·rw[Aw f] at d;exact kP (h v (Am d)) _ _ _ _
  ·rw[Av f,Ea] at d;split at d;·obtain rfl:=Ax d;simp[ap]
   ·simp at d
def RQ(g₀:Gh)(hp₀:List ai)(w₀:World)(v:V)(hp':List ai)(e:Ending)(w:World):Prop:=∃cv g,e=.returned cv∧HR g hp' w∧FR g₀ hp₀ w₀ g hp' w∧VRel g.I g.ρ hp'.length w v cv∧ap g w .res v cv
theorem aqd{F:Gh->Prop}{fn:Func}{C:List RV}(R:jQ P C fn.results.toList=true)(h5:fn.results.toList.length<=5)(h:SR g s w a)(B:∀r,F (g.hand r)){v:V}{hp':List ai}
  (m:(resultOf s C).map (λv=>(v,s.hp))=some (v,hp')):∃cv,(results fn a.tmps).run P w=.ok cv w∧∃p E,Ending.returned cv=.returned p∧HR E hp' w∧F E∧VRel E.I E.ρ hp'.length w v p∧ap E w .res v p:=by
 obtain⟨v',d,D⟩:=Aq.1 m;simp only[Ao] at D;obtain⟨rfl,rfl⟩:=D;have Q:∃f,rvs s C=some f:=by
  unfold resultOf at d;cases B:rvs s C with
  |none=>rw[B] at d;simp at d
  |some f=>exact⟨f,rfl⟩
 obtain⟨f,u⟩:=Q;obtain⟨cvs,J,l2,Z,l4,A,G⟩:=aqc h R u;have o:=apB (fn:=fn) (a:=a) (P:=P) (w:=w) rfl (by rw[Z,J]) h5 l4;unfold resultOf at d;rw[u] at d;clear u Z l4 m;match C,f,cvs,J,l2,A,G,o,d with
 | [x],[X],[q],_,_,A,G,o,d=>
   simp only[Ai] at d;subst d;have j:=G 0 x X q rfl rfl rfl;have H:=A 0 X q rfl rfl;cases x with
   |t n=>
    simp only[aqV] at j;refine⟨q,o,q,g.hand (some n),rfl,h.hr.hand _,B _,H,?_⟩;unfold ap at j ⊢;split;·rename_i k xs ad len cap;obtain⟨M,N,W⟩:=j;exact⟨by simp[Gh.hand,M],N,W⟩
    ·obtain⟨M,N,W⟩:=j;exact⟨by simp[Gh.hand,M],N,W⟩
    ·rcases j with j|⟨b,cap,O,e,fz,m0,m1,m2,m3,m4,m5⟩
     ·exact .inl j
     ·exact .inr ⟨b,cap,O,e,fz,m0,m1,m2,m3,by simp[Gh.hand,m4],m5⟩
    ·trivial
   |cell n Y agg=>exact⟨q,o,q,g.hand none,rfl,h.hr.hand _,B _,H,kP j _ _ _ _⟩
 | [],[],[],_,_,A,G,o,d=>simp only[Ai] at d;subst d;exact⟨_,o,_,g.hand none,rfl,h.hr.hand _,B _,.tup [] #[] rfl (by simp),by simp[ap]⟩
 |x::y::C,X::v1::f,q::c1::cvs,J,_,A,G,o,d=>simp only[Ai] at d;subst d;refine⟨_,o,_,g.hand none,rfl,h.hr.hand _,B _,.tup _ _ (by simpa using J.symm) ?_,by simp[ap]⟩;intro i c cv hc S;rw[AA,Aq] at hc;obtain⟨c',L,rfl⟩:=hc;exact(A i c' cv L (by simpa using S)).disown
theorem avj{g₀:Gh}{hp₀:List ai}{w₀:World}{fn:Func}{j:List RV}(h:jQ P j fn.results.toList=true)(k:fn.results.toList.length<=5)(f:SR g s w a)(i:FR g₀ hp₀ w₀ g s.hp w){v:V}{hp':List ai}
  (b:(resultOf s j).map (λv=>(v,s.hp))=some (v,hp')):∃cv,(results fn a.tmps).run P w=.ok cv w∧RQ g₀ hp₀ w₀ v hp' (.returned cv) w:=by
 have e:hp'=s.hp:=by obtain⟨o,_,d⟩:=Aq.1 b;simp only[Ao] at d;exact d.2.symm
 subst e;exact aqd (F:=λm=>FR g₀ hp₀ w₀ m s.hp w) h k f (λr=>i.hand r) b
theorem auh(A:ca P Γ){o:List Nat}(G:cI Γ o){fn:Func}{d:Code}{B:IR}{u:List RV}{n:Nat}{vs:List V}{hp hp':List ai}{v:V}
  (L:bd P o hp.length B d=true) (D:jQ P u fn.results.toList=true) (H:fn.results.toList.length<=5)
  (t:callF Γ n fn.ntmps u B vs hp=some (v,hp')) {w:World} {g:Gh} {b:Array Value} (C:tV P g w) (k:HR g hp w) (m:vs.length=b.size) (h:∀x∈vs,x.bare=true)
  (q:∀(i:Nat) x cv,vs[i]? =some x->b[i]? =some cv->VRel g.I g.ρ hp.length w x cv):
  d.wp P (bodyPost P fn (RQ g hp w v hp')) {tmps:=b++Array.replicate (fn.ntmps-b.size) undef,defers:=[]} w:=by
 have p:=iB (df:=[]) A ⟨C,k.notI⟩ G n (Ar _) B d L (fin u) (start fn.ntmps vs hp) _ w g t ⟨an6 k m h q,FR.refl _ _ _,rfl⟩;refine wp_mono p ?_;rintro e a' w' ⟨J,s',M,F,y,E⟩
 have f:∀v hp',(resultOf s' u).map (λv=>(v,s'.hp))=some (v,hp')->a'.defers=[]∧∃cv,(results fn a'.tmps).run P w'=.ok cv w'∧RQ g hp w v hp' (.returned cv) w':=
  λv hp' j=>⟨E.df,avj D H E.sr E.fr j⟩
 cases J with
 |normal=>cases e<;>simp only[km] at F;exact f _ _ y
 |exit i=>simp[fin] at y
 |ret=>cases e<;>simp only[km] at F;exact f _ _ y
theorem abD(k:ca P Γ){e:List Nat}(C:cI Γ e){f:FuncId}{fn:Func}{b:Code}{t:IR}{u:List RV}{n:Nat}{vs:List V}{hp hp':List ai}{v:V}
  (B:P.funcs[f]? =some fn) (x:fn.body=some b) (A:bd P e hp.length t b=true) (o:jQ P u fn.results.toList=true) (y:fn.results.toList.length<=5)
  (j:callF Γ n fn.ntmps u t vs hp=some (v,hp')):eO P f vs hp v hp':=
 λw g p m q h d i=>calls_of_wp B x (auh k C A o y j m q h d i)
end
end Go.AM
end
