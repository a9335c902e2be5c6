import Derived.Orders
import Derived.MapKept
import Derived.WideKeyRuns
import Derived.WalkSpells
import Derived.Test.YtdpajabhmmmjoaaZ00
open Array renaming getElem?_eq_getElem→Ag,getElem?_eq_some_iff→AN,length_toList→AY,getElem?_modify→A3,getD→BA,getElem?_append_left→BD,getElem?_toList→BM,getElem?_push→Cl,eq_empty_of_size_eq_zero→CJ,getElem?_eq_none→CK,ext_getElem?→C9,findIdx?_eq_some_iff_getElem→Dj,replicate→DL,range→DX,getElem?_append_right→D3,size_append→Eh
open Bool renaming and_eq_true→Aa,or_eq_true→AQ,eq_iff_iff→A2,false_eq_true→BO,and_eq_false_iff→Cz
open Function renaming comp_def→CA
open Go.Addr renaming add_lit→Bv
open Go.Builtin renaming len_→B0,append_→Cd,firstCells→Da,zeroCells→Ee
open Go.Deferred renaming ofValue→Dt
open Go.Instr renaming checkKey→A8,sameBits→Br,sureAddr→BE,fill→BK,mapUpdate→Cf,loadAt→Ct,findAsking→CF,sameNow→CI,mapEntry→CO,buildSlice→CV,keyThatStays→C4,findNow→Do,lookup→DN,indexAt→D4,storeAt→D5
open Go.IntKind renaming signed→Bh,bits→Bu,max→BR,min→Cb
open Go.Op renaming equalIn→BI
open Go.Oper renaming wp→Ch,upon→C6
open Go.Region renaming wanted→BW,binds→CE
open Go.Result renaming andThen_ok→Bn
open Go.Sem renaming run_bind→B2,run_pure→DF
open Go.World renaming cell?_setCells_out→Bj,block_lt_of_cell?→BP,cell?_setCells_in→BY,cell?→Cc,frozen?→Ci
open List renaming getElem?_eq_getElem→Ac,getElem?_eq_some_iff→Ad,getElem?_append_right→Aj,all_eq_true→Ak,getD_eq_getElem?_getD→Al,getElem?_append_left→Am,length→An,mem_of_getElem?→Ap,mem_singleton→Aq,getD→As,getElem?_set→At,getElem?_map→Au,mem_map→Av,length_cons→Ay,mem_append→AB,mem_cons_self→AD,range→AE,mem_cons_of_mem→AH,mem_flatMap→AJ,length_set→AL,map_congr_left→AP,getElem?_eq_none→AR,mem_cons→AT,length_map→AU,getElem?_take→AW,mem_iff_getElem→AZ,eq_nil_of_length_eq_zero→A4,getElem?_cons_succ→A5,mem_range→A6,mem_of_mem_take→A7,getElem?_drop→A9,length_append→Ba,mem_of_mem_drop→Bd,getElem_mem→Bf,replicate→Bg,getElem?_cons_zero→Bl,mem_append_left→Bp,range'→Bq,length_singleton→BB,getElem?_set_ne→BG,flatMap_cons→BJ,range'_succ→BQ,getD_cons_zero→BS,foldl_cons→BZ,take_of_length_le→B1,length_take→B5,any_eq_true→Co,length_drop→Cp,map_map→Cu,map_append→Cy,filterMap_cons_some→CD,getElem?_set_self→CM,filterMap_append→CN,contains_iff_mem→CR,pairwise_append→CY,nil_append→C3,pairwise_cons→Db,getElem?_replicate→De,size_toArray→Df,ext_getElem?→Dg,length_range→Di,map_drop→Dn,map_take→Dp,length_replicate→DD,eq_nil_iff_forall_not_mem→DH,range_eq_range'→DJ,set_cons_succ→D1,set_cons_zero→D2,set_comm→Ec,foldl_append→Ei
open List.Sublist renaming append_left→Ej
open List.cons renaming injEq→Cw
open Nat renaming beq→Af,le_refl→Ao,zero_add→Aw,add_mul→Ax,eq_of_beq_eq_true→AA,lt_of_lt_of_le→AF,lt_or_ge→AG,ble→AO,mul_le_mul_right→AS,le_trans→AX,blt_eq→Bb,ne_of_lt→Bm,ble_eq→Bz,le_mul_of_pos_right→Cj,add_zero→Cv,mod_lt→CB,lt_succ_self→CC,sub_zero→CG,one_mul→CL,sub_self→CP,mul_comm→CQ,le_add_right→CW,le_of_not_lt→Ds,mod_eq_of_lt→Dv,le_of_ble_eq_true→DC,div_add_mod→DK,add_one_sub_one→DR,eq_zero_or_pos→DZ,add_mul_mod_self_right→D7,lt_irrefl→Eb,add_assoc→Ed
open Ne renaming symm→Cr
open Option renaming map_eq_some_iff→Ah,isSome_iff_exists→A0,map_some→Bt,getD_some→Bw,bind_eq_some_iff→Ck,map_map→CS,mem_toList→Eg
open Option.some renaming injEq→Ab,inj→Ai
open PUnit renaming unit→DE
open Prod.mk renaming injEq→Ae
open Std.Legacy.Range renaming forIn_eq_forIn_range'→Cm,size→Dx
set_option linter.all false
noncomputable section
namespace Go.AM
def kW(P:Program)(o:IOp)(m:Oper):Bool:=
 match o with
 | .mku d k x=>(m.dst==some d)&&(match m.op with| .makeSlice t b c=>jG P t k&&(ag x b&&ag x c)|_=>false)
 | .blu d k=>(m.dst==some d)&&(match m.op with| .buildSlice t n f=>jG P t k&&(n==0&&f.isEmpty)|_=>false)
 | .apu d k x y=>(m.dst==some d)&&(match kh m.op with|some (.append,[b,c],[t,u])=>jG P t k&&(jG P u k&&(ag x b&&ag y c))|_=>false)
 | .lnw d x=>(m.dst==some d)&&(match kh m.op with|some (.len,[b],[t])=>(match P.underlying t with|some (.slice _)=>true|_=>false)&&ag x b|_=>false)
 | .ixw d k x i=>(m.dst==some d)&&(match m.op with| .indexAddr t b h=>jG P t k&&(ag x b&&ag i h)|_=>false)
 | .ldw d n agg x=>aY P (.ld d n agg false x) m
 | .stw d n x v=>(m.dst==d)&&(match m.op with| .store t b e=>(be P t==some n)&&(ag x b&&ag v e)|_=>false)
 |_=>false
section
variable{w w':World}{g g':Gh}{s s':St}{a:Act}{P:Program}{Γ:ao}{m:Oper}{next:Act->World->Prop}{Q:Exit->Act->World->Prop}
theorem jI{i j n z:Nat}(b:i<n)(c:j<z):i*z+j<n*z:=by
 calc i*z+j<i*z+z:=by omega
  _=(i+1)*z:=by rw[Ax,CL]
  _<=n*z:=AS _ b
theorem oV{I:Nat->Nat->Prop}{ρ:Nat->Nat}{N:Nat}{k:EK}{x:Ty k}{j:Nat}{v:V}{u:Value}(b:(enc k x)[j]? =some v)(h:VRel I ρ N w v u){ρ':Nat->Nat}{N':Nat}:VRel I ρ' N' w v u:=
 h.flat1 (tr k x v (Ap b))
theorem SR.newUL(h:SR g s w a)(k:EK)(xs:List (Ty k))(cap d:Nat)(r:Array Value)(e:TypeId)
  (av:w'.heap.size=w.heap.size+1) (f:∀b,b<w.heap.size->w'.heap[b]? =w.heap[b]?) {G:Nat×Nat} (E:w'.heap[w.heap.size]? =some (.cells r e G))
  (J:w'.os=w.os) (R:w'.tape=w.tape) (B:w'.output=w.output)
  (M:xs.length<=cap) (Z:cap<=maxI) (z:cap*k.sz<=r.size) (C:k=.u8->e=g.β) (N:uS G r.size)
  (L:∀(i:Nat) x j v,xs[i]? =some x->(enc k x)[j]? =some v->∃cv,r[i*k.sz+j]? =some cv∧VRel g.I (λ_=>0) 0 w v cv):
  ∃g',SR g' (s.set d (.ul k xs)) w' (a.put (some d) (.slice (some ⟨w.heap.size,0,none⟩) xs.length cap))∧FR g s.hp w g' s.hp w':=by
 let g':Gh:={g with O:=λb=>if b=w.heap.size then some (.slot d) else g.O b}
 have y:∀b j,g.I b j->b<w.heap.size:=by intro b j p;obtain⟨v,L⟩:=A0.1 (h.hr.exI b j p);exact BP _ _ L
 have c:∀b j,b<w.heap.size->w'.cell? ⟨b,j,none⟩=w.cell? ⟨b,j,none⟩:=by intro b j q;simp[Cc,f b q]
 have u:Up g.I g.ρ s.hp.length w g'.I g'.ρ s.hp.length w':=⟨λb j p=>p,λb j p=>c b j (y b j p),λ_ _=>rfl,Ao _⟩
 have X:SR g' s w' a:=by
  refine h.keep none trivial rfl u ?_ ?_ ?_ ?_;·intro H b q _;have t:=h.hr.oLt b H q;exact⟨by simp[g',Bm t,q],f b t,λj A=>A⟩
  ·intro id cs F;have t:=(h.hr.obj id cs F).lt;exact⟨f _ t,by simp[g',Bm t,h.hr.notO id cs F],λj A=>A⟩
  ·intro b j A;rw[c b j (y b j A)];exact h.hr.exI b j A
  ·intro b o q;simp only[g'] at q;split at q;·omega
   ·have:=h.hr.oLt b o q;omega
 refine⟨g',X.set d (.ul k xs _ _ (by omega)) (.inr ⟨w.heap.size,cap,r,e,G,N,rfl,M,Z,by simp[g'],E,z,C,?_,?_⟩),⟨rfl,J,R,B,by omega,λb q _ _=>f b q,u,λ_ _ _ _ _ p=>p,?_,λ_ cs h=>.inl ⟨cs,h⟩⟩⟩;·intro j p;exact absurd (y _ _ p) (Eb _)
 ·intro i x j v cv h1 h2 S;obtain⟨Y,e1,W⟩:=L i x j v h1 h2;rw[e1] at S;obtain rfl:=Ai S;exact W.up ⟨λ_ _ p=>p,λb j p=>c b j (y b j p),λ_ _=>rfl,Ao _⟩
 ·intro b q _ hO;simp[g',Bm q,hO]
theorem SR.inPlaceU(h:SR g s w a){p:Occ}(hp:n9 (some p) s)(k:EK)(xs ys:List (Ty k))(b cap d:Nat)(news:List Value){r:Array Value}{e:TypeId}{J:Nat×Nat}(o0:uS J r.size)
  (F:g.O b=some p) (Y:w.heap[b]? =some (.cells r e J)) (o3:cap*k.sz<=r.size) (R:k=.u8->e=g.β) (oI:∀j,¬g.I b j)
  (oc:∀(i:Nat) x (j:Nat) v u,xs[i]? =some x->(enc k x)[j]? =some v->r[i*k.sz+j]? =some u->VRel g.I (λ_=>0) 0 w v u) (a0:cap<=maxI)
  (z:xs.length+ys.length<=cap) (hl:news.length=ys.length*k.sz)
  (S:∀(i:Nat) x (j:Nat) v,ys[i]? =some x->(enc k x)[j]? =some v->∃u,news[i*k.sz+j]? =some u∧VRel g.I (λ_=>0) 0 w v u):
  ∃g',SR g' (s.set d (.ul k (xs++ys))) (w.setCells b (xs.length*k.sz) news) (a.put (some d) (.slice (some ⟨b,0,none⟩) (xs.length+ys.length) cap))∧
   FR g s.hp w g' s.hp (w.setCells b (xs.length*k.sz) news):=by
 have bb:xs.length*k.sz+news.length<=r.size:=by have:(xs.length+ys.length)*k.sz<=cap*k.sz:=AS _ z;rw[Ax] at this;omega
 obtain⟨⟨C,q1,q2⟩,X,q4,q5,q6,q7⟩:=cI b news (xs.length*k.sz) w r e J Y;let w':=w.setCells b (xs.length*k.sz) news;let g':Gh:={g with O:=λq=>if q=b then some (.slot d) else g.O q}
 have t:∀q j,g.I q j->w'.cell? ⟨q,j,none⟩=w.cell? ⟨q,j,none⟩:=by intro q j y;exact Bj b news _ w _ (by rintro rfl _;exact absurd y (oI j))
 have ad:∀(id:Nat) cs,s.hp[id]? =some (some cs)->g.ρ id≠b:=by intro id cs B W;have:=h.hr.notO id cs B;rw[W,F] at this;simp at this
 have u:Up g.I g.ρ s.hp.length w g'.I g'.ρ s.hp.length w':=⟨λb j y=>y,t,λ_ _=>rfl,Ao _⟩
 have hs:SR g' s w' a:=by
  refine h.keep (some p) hp rfl u ?_ ?_ ?_ ?_
  ·intro bx q c M;have f:q≠b:=by
    rintro rfl;rw[F] at c;exact M c
   exact⟨by simp[g',f,c],X q f,λj A=>A⟩
  ·intro id cs B;have f:=ad id cs B;exact⟨X _ f,by simp[g',f,h.hr.notO id cs B],λj A=>A⟩
  ·intro q j A;rw[t q j A];exact h.hr.exI q j A
  ·intro q o c;simp only[g'] at c;rw[q4];split at c;·rename_i W;subst W;exact h.hr.oLt _ _ F
   ·exact h.hr.oLt _ _ c
 have G:∀j,C[j]? =if xs.length*k.sz<=j∧j<xs.length*k.sz+news.length then news[j-xs.length*k.sz]? else r[j]?:=by
  intro j;rw[<-cell_of_heap q1 j];split;·rename_i A;have:=BY b news (xs.length*k.sz) w (λj' b6=>by rw[cell_of_heap Y,Ag (by omega)];rfl) (j-xs.length*k.sz) (by omega);rw[show xs.length*k.sz+(j-xs.length*k.sz)=j by omega] at this;rw[Ac (by omega)];exact this
  ·rename_i A;rw[Bj _ _ _ w _ (λ_ _=>by simp only;omega),cell_of_heap Y]
 have ue:Up g.I (λ_=>0) 0 w g.I (λ_=>0) 0 w':=⟨λ_ _ y=>y,t,λ_ _=>rfl,Ao _⟩
 have Z:∀x:Ty k,∀j v,(enc k x)[j]? =some v->j<k.sz:=by
  intro x j v S;have:=(Ad.1 S).1
  rwa [a8] at this
 refine⟨g',hs.set d ?_ (.inr ⟨b,cap,C,e,J,by rw[q2];exact o0,by simp,by simpa using z,a0,by simp[g'],q1,by rw[q2];exact o3,R,oI,?_⟩),⟨rfl,q5,q6,q7,by rw[q4];exact Ao _,λq c _ E=>?_,u,λ_ _ _ _ _ y=>y,?_,λ_ cs h=>.inl ⟨cs,h⟩⟩⟩;·have:=VRel.ul (I:=g'.I) (ρ:=g'.ρ) (N:=s.hp.length) (w:=w') k (xs++ys) (some ⟨b,0,none⟩) cap (by simp;omega);simpa using this
 ·intro i x j v cv L h2 H;have A:=Z x j v h2;rw[G] at H;rcases AG i xs.length with y|y;·rw[Am y] at L;have:=jI y A;rw[if_neg (by omega)] at H;exact(oc i x j v cv L h2 H).up ue
  ·rw[Aj y] at L;obtain⟨u',e1,e2⟩:=S _ x j v L h2;have cc:=(Ad.1 e1).1;have hp':i*k.sz=xs.length*k.sz+(i-xs.length)*k.sz:=by rw[<-Ax];congr 1;omega
   rw[if_pos (by omega),show i*k.sz+j-xs.length*k.sz=(i-xs.length)*k.sz+j by omega,e1] at H;obtain rfl:=Ai H;exact e2.up ue
 ·have f:q≠b:=by rintro rfl;rw[F] at E;simp at E
  exact X q f
 ·intro q c _ E;have f:q≠b:=by rintro rfl;rw[F] at E;simp at E
  simp[g',f,E]
theorem ahP{x:ac}{d:Operand}{k:EK}{xs:List (Ty k)}(h:SR g s w a)(c:ag x d=true)(b:x.ev s=.ul k xs):
  ∃p,n9 (some p) (x.after s)∧uT g w p k xs (a.eval d):=by
 unfold ag at c;split at c
 ·rename_i n k';obtain rfl:=by simpa using c
  simp only[ac.ev] at b;exfalso;cases e:s.get n<;>rw[e] at b<;>simp[disown] at b
 ·rename_i n k';obtain rfl:=by simpa using c
  refine⟨.slot n,po n s,?_⟩;have:=h.er.getOwn n;rw[show s.get n=.ul k xs from b] at this;exact this
 ·rename_i v cv;simp only[ac.ev] at b;subst b;exact⟨.res,trivial,pn c _⟩
 ·rename_i f i;simp only[ac.ev] at b;cases b
 ·simp at c
theorem afY{p:Occ}{k:EK}{xs:List (Ty k)}{cv:Value}(h:uT g w p k xs cv):
  ∃L:List Value,L.length=xs.length*k.sz∧(∀(i:Nat) x (j:Nat) v,xs[i]? =some x->(enc k x)[j]? =some v->∃u,L[i*k.sz+j]? =some u∧VRel g.I (λ_=>0) 0 w v u)∧
   ((xs=[]∧cv=.slice none 0 0)∨∃b cap c e f,uS f c.size∧cv=.slice (some ⟨b,0,none⟩) xs.length cap∧xs.length<=cap∧w.heap[b]? =some (.cells c e f)∧cap*k.sz<=c.size∧∀j v,L[j]? =some v->w.cell? ⟨b,j,none⟩=some v):=by
 rcases h with⟨rfl,rfl⟩|⟨b,cap,c,e,f,B,E,A,J,M,t,y,H,G,F⟩
 ·exact⟨[],by simp,by simp,.inl ⟨rfl,rfl⟩⟩
 ·have C:xs.length*k.sz<=c.size:=AX (AS _ A) y;refine⟨c.toList.take (xs.length*k.sz),by simp;omega,?_,.inr ⟨b,cap,c,e,f,B,E,A,t,y,?_⟩⟩
  ·intro i x j v z r;have d:j<k.sz:=by
    have:=(Ad.1 r).1
    rwa [a8] at this
   have o:=jI (Ad.1 z).1 d;have q:c[i*k.sz+j]? =some (c[i*k.sz+j]'(by omega)):=Ag _;refine⟨_,?_,F i x j v _ z r q⟩;rw[AW,if_pos o,BM];exact q
  ·intro j v d;rw[AW] at d;split at d;·rw[BM] at d;rw[cell_of_heap t];exact d
   ·simp at d
theorem ae5(ci:g.β=mj P){d:Nat}{k:EK}{x:ac}{Y H:Operand}{xs ys:List (Ty k)}{S t u e:TypeId}{G:String}{J:Array Edge}{gd:Option (Nat×Bool)}(h:SR g s w a)
  (hx:ag x Y=true) (b6:x.ev s=.ul k xs) (ut:P.underlying t=some (.slice e)) (he:pB P e k=true) (news:List Value)
  (F:_root_.Go.Src P k.sz u (a.eval H) ys.length news w) (hv:∀(i:Nat) x (j:Nat) v,ys[i]? =some x->(enc k x)[j]? =some v->∃u,news[i*k.sz+j]? =some u∧VRel g.I (λ_=>0) 0 w v u)
  (W:(xs.length+ys.length)*k.bytes<=cd)
  (hn:ax g s w a ((x.after s).set d (.ul k (xs++ys))) next):
  (⟨some d,.call ⟨.builtin .append,⟨[Y,H]⟩,⟨[t,u]⟩⟩,S,G,J,gd⟩:Oper).wp P a w next Q:=by
 obtain⟨inf,z,i1,Z,i3,i4,i5,i6,i7⟩:=ip he;have c4:0<k.bytes:=by cases k<;>simp[EK.bytes];rename_i kk;cases kk<;>simp[tp]
 have X:xs.length+ys.length<=cd:=AX (Cj _ c4) W;obtain⟨p,hp,ho⟩:=ahP h hx b6;have h1:=h.after x;obtain⟨L,l1,l3,l4⟩:=afY ho;have A:∀cv w',(Cd #[t,u] S #[a.eval Y,a.eval H]).run P w=.ok cv w'->(execOp a.eval ⟨some d,.call ⟨.builtin .append,⟨[Y,H]⟩,⟨[t,u]⟩⟩,S,G,J,gd⟩).run P w=.ok (.value cv) w':=by intro cv w' R;simp[execOp,resolve,invoke,builtin,R]
 have B:(x.after s).hp=s.hp:=kj x s
 have O:∀(y:Option Addr)(cap:Nat),a.eval Y=.slice y xs.length cap->cap<xs.length+ys.length->
   (Da k.sz xs.length (.slice y xs.length cap)).run P w.drew=.ok L.toArray w.drew->
   (⟨some d,.call ⟨.builtin .append,⟨[Y,H]⟩,⟨[t,u]⟩⟩,S,G,J,gd⟩:Oper).wp P a w next Q:=by
  intro y cap hb C bb
  have R:=run_append_grow_src w t u S e inf z ut i1 i4 y xs.length cap L (by rw[Z];exact bb) (a.eval H) ys.length news (by rw[Z];exact F) C (by unfold cd at X;omega)
   (growslice_fits C (by rw[i3];exact W))
  have ad:xs.length+ys.length<=grownCap w (xs.length+ys.length) cap e:=by unfold grownCap Question.cut;exact CW _ _
  have cs:grownCap w (xs.length+ys.length) cap e<=maxI:=by have:=grownCap_le_maxLen w (xs.length+ys.length) cap e (by unfold maxLen;unfold cd at X;omega);simpa [maxLen,maxI] using this
  let c:Array Value:=(L++news).toArray++Ee z.cells (grownCap w (xs.length+ys.length) cap e-(xs.length+ys.length));have cx:=F.newsLen;have bn:c.size=grownCap w (xs.length+ys.length) cap e*k.sz:=by
   simp only[c,Eh,Df,Ba,l1,cx,size_zeroCells,i7];rw[<-Ax,<-Ax]
   congr 1
   omega
  have f:=ce w.drew (.cells c e);obtain⟨g',q1,q2⟩:=h1.newUL (w':=w.drew.alloc (.cells c e)) k (xs++ys) (grownCap w (xs.length+ys.length) cap e) d c e f.1 f.2.1 f.2.2 rfl rfl rfl (by simpa using ad) cs (by rw[bn];exact Ao _) (λhk=>by rw[ci];exact mQ he hk) (adY _) (by
   intro i x j v hx av;have hj:j<k.sz:=by
    have:=(Ad.1 av).1
    rwa [a8] at this
   have E:∀(q:Nat) u,(L++news)[q]? =some u->c[q]? =some u:=by intro q u hq;have c5:=(Ad.1 hq).1;simp only[c];rw[BD (by simpa using c5)];simpa using hq
   rcases AG i xs.length with hi|hi;·rw[Am hi] at hx;obtain⟨u,e1,e2⟩:=l3 i x j v hx av;refine⟨u,E _ _ ?_,e2⟩;rw[Am (Ad.1 e1).1];exact e1
   ·rw[Aj hi] at hx;obtain⟨u,e1,e2⟩:=hv _ x j v hx av;refine⟨u,E _ _ ?_,e2⟩;have:i*k.sz=xs.length*k.sz+(i-xs.length)*k.sz:=by rw[<-Ax];congr 1;omega
    rw[Aj (by rw[l1];omega),l1,<-e1]
    congr 1
    omega)
  have a0:(execOp a.eval ⟨some d,.call ⟨.builtin .append,⟨[Y,H]⟩,⟨[t,u]⟩⟩,S,G,J,gd⟩).run P w=.ok (.value (.slice (some ⟨w.heap.size,0,none⟩) (xs++ys).length (grownCap w (xs.length+ys.length) cap e))) (w.drew.alloc (.cells c e)):=by refine A _ _ ?_;rw[hb,R];simp[c]
  refine bQ rfl a0 ⟨g',q1,?_⟩ hn;rw[B] at q2;show FR g s.hp w g' (x.after s).hp _;rw[B];exact q2
 rcases l4 with⟨rfl,o⟩|⟨b,cap,c,e',fz,b5,o,C,hb,e0,M⟩
 ·by_cases h0:ys.length=0
  ·have cc:ys=[]:=A4 h0;subst cc;have R:(Cd #[t,u] S #[a.eval Y,a.eval H]).run P w=.ok (.slice none 0 0) w:=by
    have ck:news=[]:=by have:=F.newsLen;simpa using this
    have hc:=F.cells;rw[o];rcases F.kind with⟨e',hk⟩|hk<;>simp[Cd,run_underlying ut,run_underlying hk,sizeOf,typeInfo,i1,Z,F.len] at* <;>simp[hc]
   refine bQ rfl (A _ _ R) ⟨g,?_,?_⟩ hn;·exact h1.set d (by simpa using VRel.ul (I:=g.I) (ρ:=g.ρ) (N:=(x.after s).hp.length) (w:=w) k ([]:List (Ty k)) none 0 (by simp)) (.inl ⟨by simp,rfl⟩)
   ·have:=FR.refl g s.hp w;simpa [St.set,B] using this
  ·exact O none 0 (by simpa using o) (by simp;omega) (by
    have hL:L=[]:=by simpa using l1
    subst hL;simpa using run_firstCells_none (P:=P) w.drew k.sz 0 0 0)
 ·by_cases r:xs.length+ys.length<=cap
  ·rcases ho with⟨rfl,ho⟩|⟨b2,d1,dv,e2,eq,m0,m1,m2,m3,m4,m5,m6,m7,m8,m9⟩
   ·rw[o] at ho;cases ho
   ·rw[o] at m1;cases m1;rw[hb] at m5;cases m5;have c7:xs.length*k.sz+news.length<=cap*k.sz:=by
     have:(xs.length+ys.length)*k.sz<=cap*k.sz:=AS _ r;rw[Ax] at this;rw[F.newsLen];omega
    have R:=run_append_room_src w t u S e inf ut i1 b 0 xs.length cap (a.eval H) ys.length news (by rw[Z];exact F) r (by
     intro j hj;rw[Z,cell_of_heap hb,Ag (by omega)];rfl) (by
     intro j hj;rw[Z];have hc:=b5 (0+xs.length*k.sz+j) (by omega);simp only[Ci,hb,Cz,decide_eq_false_iff_not];omega)
    rw[Z,Aw] at R;have q:=h1.inPlaceU hp k xs ys b cap d news m0 m4 hb m6 m7 m8 m9 m3 r F.newsLen hv;rw[B] at q;refine bQ rfl (A _ _ (by rw[o];exact R)) ?_ hn;obtain⟨g',q1,q2⟩:=q;exact⟨g',q1,by simpa [St.set,B] using q2⟩
  ·exact O _ cap o (by omega) (run_firstCells_some w.drew k.sz xs.length ⟨b,0,none⟩ xs.length cap L (by simpa using l1) (by intro j v hj;rw[Bv,Aw];exact M j v hj))
theorem ae6{d:Nat}{k:EK}{x y:ac}(H:g.β=mj P)(r:kW P (.apu d k x y) m=true)(f:step Γ (.apu d k x y) s=some (true,s'))(h:SR g s w a)(hn:ax g s w a s' next):m.wp P a w next Q:=by
 obtain⟨dst,op,ty,W,bn,gd⟩:=m;simp only[kW,Aa,beq_iff_eq] at r;obtain⟨rfl,r⟩:=r;split at r
 ·rename_i x' y' t u E;obtain rfl:=dV E;simp only[Aa] at r;obtain⟨h1,h2,h3,h4⟩:=r;obtain⟨e,u1,e1⟩:=et h1;obtain⟨e',C,e2⟩:=et h2;simp only[step] at f;split at f
  ·rename_i k' l S o O F hy;split at f
   ·rename_i R;subst R;split at f
    ·rename_i A;simp only[Ab,Ae,decide_eq_true_eq] at f;obtain⟨z,rfl⟩:=f;have B:=af h4 h.er;rw[hy] at B;have B:=adp A B;obtain⟨L,G,l2,Z,X⟩:=xK B;refine ae5 H h h3 F u1 e1 L (ys:=A▸O) ?_ (λi x j v F J=>by
      obtain⟨u,q1,q2⟩:=Z i x j v F J;exact⟨u,q1,oV J q2⟩) (by rw[wZ];exact z) hn
     rcases X with⟨p,N,q, -⟩|⟨b,bs,cap,q,M,a4,c⟩
     ·rw[q,p];have Y:L=[]:=by rw[p] at G;simpa using G
      rw[Y];cases N with
      |none=>exact _root_.Go.Src.ofNil w C 0
      |some N=>exact _root_.Go.Src.ofSlice w C _ _ _ _ (by simp) (by intro j v I;simp at I) (by simp)
     ·rw[q];exact _root_.Go.Src.ofSlice w C _ _ _ _ G (by intro j v I;rw[Bv];exact c j v I) l2
    ·simp at f
   ·simp at f
  ·simp at f
 ·simp at r
theorem ahQ{d:Nat}{k:EK}{x:ac}(F:g.β=mj P)(o:kW P (.mku d k x) m=true)(p:step Γ (.mku d k x) s=some (true,s'))(h:SR g s w a)(hn:ax g s w a s' next):m.wp P a w next Q:=by
 obtain⟨dst,op,ty,Z,b1,gd⟩:=m;simp only[kW,Aa,beq_iff_eq] at o;obtain⟨rfl,o⟩:=o;split at o
 ·rename_i t x' y';simp only[Aa] at o;obtain⟨r,h2,h3⟩:=o;have A:=af h2 h.er;have B:=af h3 h.er;obtain⟨e,u1,r⟩:=et r;obtain⟨inf,z,S,X,i3,i4,i5,i6,i7⟩:=ip r;simp only[step] at p;split at p
  ·rename_i M n c;simp only[Ab,Ae,Aa,decide_eq_true_eq] at p;obtain⟨⟨L,g2⟩,rfl⟩:=p;rw[c] at A B;generalize y:a.eval x'=cx at A;generalize C:a.eval y'=cy at B;cases A;cases B;have b2:0<k.sz:=by cases k<;>simp[EK.sz]
   have W:1<=k.bytes:=by
    cases k with
    |num k=>cases k<;>simp[EK.bytes,tp]
    |_=>simp[EK.bytes]
   have g3:n*k.bytes<=140737488355328:=g2;have J:n<=140737488355328:=by have:n*1<=n*(k.bytes:Int):=Int.mul_le_mul_of_nonneg_left (by omega) L;omega
   have hb:(inf.bytes:Int)*n<=281474976710656:=by rw[i3,Int.mul_comm];omega
   have b:=run_make (P:=P) w t e inf z u1 S i4 M M n n L (Int.le_refl _) hb (by omega);have u:z.cells.size=k.sz:=i7;obtain⟨m1,m2,m3⟩:=dw (I:=g.I) (ρ:=λ_=>0) (N:=0) (w:=w) i6;rw[X] at b;have f:=ce w (.cells (madeCells z.cells (n.toNat*k.sz)) e)
   obtain⟨g',R,q2⟩:=h.newUL (w':=w.alloc (.cells (madeCells z.cells (n.toNat*k.sz)) e)) k (Bg n.toNat (am k)) n.toNat d (madeCells z.cells (n.toNat*k.sz)) e f.1 f.2.1 f.2.2 rfl rfl rfl (by simp) (by unfold maxI;omega)
    (by rw[size_madeCells];exact Ao _) (λY=>by rw[F];exact mQ r Y) (adY _) (by
     intro i x j v c H;rw[De] at c;split at c
     ·rename_i hi;simp only[Ab] at c;subst c;have O:j<k.sz:=by
       have:=(Ad.1 H).1
       rwa [a8] at this
      have G:i*k.sz+j<n.toNat*k.sz:=jI hi O;have q:(i*k.sz+j)%z.cells.size=j:=by rw[u,Nat.add_comm,D7,Dv O]
      have E:z.cells[j]? =some (z.cells[j]'(by omega)):=Ag _;refine⟨z.cells[j]'(by omega),?_,m3 j v _ H (by rw[BM];exact E)⟩;simp only[madeCells];rw[Array.getElem?_map,Array.getElem?_range,if_pos G,Bt,q,getElem!_pos z.cells j (by omega)]
     ·simp at c)
   simp only[DD] at R;exact bQ rfl (by simp[execOp,y,C,b]) ⟨g',R,q2⟩ hn
  ·simp at p
 ·simp at o
theorem ahR{d:Nat}{k:EK}(i:g.β=mj P)(b:kW P (.blu d k) m=true)(r:step Γ (.blu d k) s=some (true,s'))(h:SR g s w a)(y:ax g s w a s' next):m.wp P a w next Q:=by
 obtain⟨dst,I,N,q,A,J⟩:=m;simp only[kW,Aa,beq_iff_eq] at b;obtain⟨rfl,b⟩:=b;split at b
 ·rename_i t n x;simp only[Aa,beq_iff_eq] at b;obtain⟨c,rfl,E⟩:=b;obtain rfl:_=s':=by simpa [step] using r
  obtain⟨e,v,c⟩:=et c;obtain⟨inf,z,j,o,L,M,H,F,G⟩:=ip c;have C:x= #[]:=by simpa using E
  have f:=ce w (.cells (#[]:Array Value) e);obtain⟨g',B,u⟩:=h.newUL (w':=w.alloc (.cells (#[]:Array Value) e)) k [] 0 d #[] e f.1 f.2.1 f.2.2 rfl rfl rfl (by simp) (by unfold maxI;omega) (by simp) (λp=>by rw[i];exact mQ c p) (adY _) (by simp);refine bQ rfl (cv:=.slice (some ⟨w.heap.size,0,none⟩) 0 0) ?_ ⟨g',B,u⟩ y;simp[execOp,CV,run_underlying v,sizeOf,typeInfo,j,o,C,BK,newRow];rw[show DX 0= #[] from CJ (by simp),Array.map_empty]
 ·simp at b
theorem ahS{d:Nat}{x:ac}(c:kW P (.lnw d x) m=true)(i:step Γ (.lnw d x) s=some (true,s'))(h:SR g s w a)(v:ax g s w a s' next):m.wp P a w next Q:=by
 obtain⟨dst,E,H,y,C,F⟩:=m;simp only[kW,Aa,beq_iff_eq] at c;obtain⟨rfl,c⟩:=c;split at c
 ·rename_i p t j;obtain rfl:=dV j;simp only[Aa] at c;obtain⟨r,A⟩:=c;have f:=af A h.er;split at r
  ·rename_i e u;simp only[step] at i;split at i
   ·rename_i n o;obtain rfl:_=s':=by simpa using i
    rw[o] at f;generalize b:a.eval p=cv at f;cases f with
    |hd _ G cap z=>refine ae h rfl (cv:=.int .i64 n) (by simp[execOp,resolve,b,invoke,builtin,B0,run_underlying u,goInt]) ?_ rfl v;exact .int _ _ (by simp[Cb,BR,Bh,Bu,maxI] at *;omega)
   ·rename_i k id n o;obtain rfl:_=s':=by simpa using i
    rw[o] at f;generalize b:a.eval p=cv at f;cases f with
    |sw _ _ _ B q z=>refine ae h rfl (cv:=.int .i64 n) (by simp[execOp,resolve,b,invoke,builtin,B0,run_underlying u,goInt]) ?_ rfl v;exact .int _ _ (by simp[Cb,BR,Bh,Bu,maxI] at *;omega)
   ·simp at i
  ·simp at r
 ·simp at c
theorem ahT{d:Nat}{k:EK}{x i:ac}(c:kW P (.ixw d k x i) m=true)(b:step Γ (.ixw d k x i) s=some (true,s'))(h:SR g s w a)(N:ax g s w a s' next):m.wp P a w next Q:=by
 obtain⟨dst,W,ty,C,O,Y⟩:=m;simp only[kW,Aa,beq_iff_eq] at c;obtain⟨rfl,c⟩:=c;split at c
 ·rename_i t E F;simp only[Aa] at c;obtain⟨p,R,L⟩:=c;have j:=af R h.er;have o:=af L h.er;simp only[step] at b;split at b
  ·rename_i k' id len ki n J G;split at b
   ·rename_i B;subst B;simp only[Ab,Ae,Aa,decide_eq_true_eq] at b;obtain⟨⟨I,H⟩,rfl⟩:=b;rw[J] at j;rw[G] at o;obtain⟨e,M,p⟩:=et p;obtain⟨inf,z,y,A,Z,i4,S,_⟩:=ip p;generalize r:a.eval E=cv at j;generalize f:a.eval F=ci at o;cases o;cases j with
    |sw _ _ _ q v X=>
     have u:∀w':World,(sizeOf e).run P w'=.ok k'.sz w':=λw'=>by simp[sizeOf,typeInfo,y,A]
     refine ae h rfl (cv:=.pointer (some ⟨g.ρ id,n.toNat*k'.sz+0,none⟩)) ?_ (.wp _ _ _ _ q) rfl N;simp[execOp,r,f,D4,asIntOf,run_underlying M,I,H,u,Bv]
   ·simp at b
  ·simp at b
 ·simp at c
theorem tA{id:Nat}{k:EK}{xs:List (Ty k)}(b:s.rowW id=some ⟨k,xs⟩):s.hp[id]? =some (some [.rw k xs]):=by
 unfold St.rowW at b;simp only[As] at b;cases c:s.hp[id]? with
 |none=>rw[c] at b;simp at b
 |some x=>
  rw[c] at b;simp only[Bw] at b;split at b;·simp only[Ab] at b;cases b;rfl
  ·cases b
theorem flat_enc{k:EK}:∀(xs:List (Ty k))(i j:Nat)(x:Ty k)(v:V),xs[i]? =some x->(enc k x)[j]? =some v->(xs.flatMap (enc k))[i*k.sz+j]? =some v
 | [],i,j,x,v,b,_=>by simp at b
 |y::xs,0,j,x,v,b,c=>by simp at b;subst b;have e:=(Ad.1 c).1;simp only[BJ,Nat.zero_mul,Aw];rw[Am e];exact c
 |y::xs,i+1,j,x,v,b,c=>by
  have f:=flat_enc xs i j x v (by simpa using b) c;simp only[BJ];have d:=a8 k y;rw[Aj (by rw[d,Ax];omega),d,<-f]
  congr 1
  rw[Ax];omega
theorem bR{k:EK}:∀(xs:List (Ty k)),(xs.flatMap (enc k)).length=xs.length*k.sz
 | []=>by simp
 |x::xs=>by simp[BJ,bR xs,a8,Ax];omega
theorem eb{k:EK}(xs:List (Ty k))(q:Nat)(v:V)(h:(xs.flatMap (enc k))[q]? =some v):∃x,xs[q / k.sz]? =some x∧(enc k x)[q%k.sz]? =some v:=by
 have c:=(Ad.1 h).1;rw[bR] at c;have d:0<k.sz:=by cases k<;>simp[EK.sz]
 have i:q / k.sz<xs.length:=Nat.div_lt_of_lt_mul (by rw[CQ];exact c);have f:q%k.sz<k.sz:=CB _ d;have e:xs[q / k.sz]? =some xs[q / k.sz]:=Ac i;have b:q%k.sz<(enc k xs[q / k.sz]).length:=by rw[a8];exact f
 refine⟨_,e,?_⟩;have:=flat_enc xs _ _ _ _ e (Ac b);rw[show q / k.sz*k.sz+q%k.sz=q by rw[CQ];exact DK q k.sz,h] at this;rw[Ac b,<-this]
theorem oa{id:Nat}{k:EK}{xs:List (Ty k)}(h:SR g s w a)(r:s.rowW id=some ⟨k,xs⟩):∃b e c,w.heap[g.ρ id]? =some (.cells b e c)∧xs.length*k.sz<=b.size∧
  fv g s.hp.length w id [.rw k xs] b e c∧∀(i:Nat) x (j:Nat) v u,xs[i]? =some x->(enc k x)[j]? =some v->b[i*k.sz+j]? =some u->VRel g.I g.ρ s.hp.length w v u:=by
 obtain⟨b,e,c,p,d⟩:=(h.hr.obj id _ (tA r)).row rfl;obtain⟨y,t2,t3,t4⟩:=d.typed k xs rfl;have q:xs.length*k.sz<=b.size:=by
  have:=d.len;simp only[cellsOf] at this
  rwa [bR] at this
 refine⟨b,e,c,p,q,d,?_⟩;intro i x j v u f o t;exact d.rel (i*k.sz+j) v u (by simp only[cellsOf];exact flat_enc xs i j x v f o) t
theorem ahU{d n:Nat}{agg:Bool}{x:ac}(f:kW P (.ldw d n agg x) m=true)(r:step Γ (.ldw d n agg x) s=some (true,s'))(h:SR g s w a)(F:ax g s w a s' next):m.wp P a w next Q:=by
 obtain⟨dst,op,ty,J,ad,gd⟩:=m;simp only[kW,aY,Aa,beq_iff_eq] at f;obtain⟨rfl,f⟩:=f;split at f
 ·rename_i t L;simp only[Aa,beq_iff_eq,AQ] at f;obtain⟨W,h2,A,X⟩:=f;have B:=af X h.er;simp only[step] at r;split at r
  ·rename_i id k i o S;split at r
   ·rename_i k' xs O;split at r
    ·rename_i H;obtain⟨rfl,M⟩:=H;simp only[Ab,Ae,decide_eq_true_eq] at r;obtain⟨E,rfl⟩:=r;rw[S] at B;generalize q:a.eval L=cv at B;cases B with
     |wp _ _ _ _ Z=>
      obtain⟨p,e,fz,Y,av,a3,y⟩:=oa h O;have z:xs[i]? =some xs[i]:=Ac E;have hd:xs.getD i (am k')=xs[i]:=by simp[As,z]
      rw[hd] at F;have R:=a8 k' xs[i];have G:i*k'.sz+k'.sz<=p.size:=by have:(i+1)*k'.sz<=xs.length*k'.sz:=AS _ E;rw[Ax,CL] at this;omega
      have hl:=fT (agg:=agg) (cs:=((enc k' xs[i]).drop o).take n) (vs:=(p.toList.drop (i*k'.sz+o)).take n) (w:=w) (I:=g.I) (ρ:=g.ρ) (N:=s.hp.length)
       (λc C=>qD k' _ c (Bd (A7 C))) (by simp;omega) (by
        rcases A with A|A;·exact .inl A
        ·right;simp;omega)
       (λj c cv f q=>by
        simp only[AW,A9] at f q;split at f;·rename_i u;simp only[u,if_true] at q;exact y i _ (o+j) c cv z f (by rw[<-BM,<-Ed];exact q)
        ·simp at f)
      refine ae h rfl (cv:=if agg then .agg ((p.toList.drop (i*k'.sz+o)).take n).toArray else ((p.toList.drop (i*k'.sz+o)).take n).headD undef) ?_ hl.disown (dx _) F;have:=ge (P:=P) (w:=w) (b:=g.ρ id) (o:=i*k'.sz+o) (vs:=(p.toList.drop (i*k'.sz+o)).take n) W h2 A (by simp;omega) (λj v u=>by
       rw[cell_of_heap Y];simp only[AW,A9] at u;split at u;·simpa using u
       ·simp at u)
      simp[execOp,q,this]
    ·simp at r
   ·simp at r
  ·simp at r
 ·simp at f
theorem aaI(v:V):disown (disown v)=disown v:=by
 cases v with
 |sl k o xs=>cases o<;>rfl
 |_=>rfl
theorem aad(v:V):v.weak.weak=v.weak:=by cases v<;>rfl
theorem uX{v:V}(h:v.inRange):v.weak.inRange:=by cases v<;>first|exact h|trivial
theorem ad3{k:EK}{x e:Ty k}{o:Nat}{vs:List V}(h:pA k x o vs=some e)(d:∀c∈enc k x,c.inRange)(i:∀c∈vs,c.inRange):
  enc k e=((enc k x).take o++vs.map V.weak)++(enc k x).drop (o+vs.length):=by
 unfold pA at h;rw[yZ h ?_]
 ·rw[Cy,Cy,Cu,Dp,Dn,abp]
  congr 2
  exact AP λc _=>aad c
 ·intro c b;rcases AB.1 b with b|b
  ·rcases AB.1 b with b|b;·exact d c (A7 b)
   ·obtain⟨v,f,rfl⟩:=Av.1 b;exact uX (i v f)
  ·exact d c (Bd b)
theorem qJ(k:EK)(x:Ty k)(j E n:Nat):(enc k x)[j]?≠some (.bn E n):=by intro h;have:=tr k x _ (Ap h);simp[V.flat1] at this
theorem SR.putElt(h:SR g s w a){id i o:Nat}{k:EK}{xs:List (Ty k)}(ho:s.rowW id=some ⟨k,xs⟩)(t:i<xs.length){O:Ty k}{vs:List V}{us:List Value}(hl:vs.length=us.length)(c5:o+vs.length<=k.sz)
  (he:enc k O=((enc k xs[i]).take o++vs.map V.weak)++(enc k xs[i]).drop (o+vs.length))
  (hv:∀(j:Nat) c cv,vs[j]? =some c->us[j]? =some cv->VRel g.I g.ρ s.hp.length w c cv):
  SR g (s.setObj id [.rw k (xs.set i O)]) (w.setCells (g.ρ id) (i*k.sz+o) us) a∧FR g s.hp w g (s.hp.set id (some [.rw k (xs.set i O)])) (w.setCells (g.ρ id) (i*k.sz+o) us):=by
 have x:=tA ho;obtain⟨N,e,fz,hb,S,a4,G⟩:=oa h ho;obtain⟨t1,t2,t3,t4⟩:=a4.typed k xs rfl;obtain⟨⟨F,q1,q2⟩,q3,q4,q5,q6,q7⟩:=cI (g.ρ id) us (i*k.sz+o) w N e fz hb;let w':=w.setCells (g.ρ id) (i*k.sz+o) us;have b3:i*k.sz+k.sz<=N.size:=by have:(i+1)*k.sz<=xs.length*k.sz:=AS _ t;rw[Ax,CL] at this;omega
 have a0:∀b j,g.I b j->b≠g.ρ id:=by rintro b j t rfl;exact h.hr.notI id _ x j t
 have z:∀b j,g.I b j->w'.cell? ⟨b,j,none⟩=w.cell? ⟨b,j,none⟩:=by intro b j t;exact Bj _ _ _ w _ (λe=>absurd e (a0 b j t))
 have u:Up g.I g.ρ s.hp.length w g.I g.ρ s.hp.length w':=⟨λ_ _ h=>h,z,λ_ _=>rfl,Ao _⟩
 have A:∀H v cv,OwnOK g w H v cv->OwnOK g w' H v cv:=by intro H v cv bY;refine ch bY rfl (λb j t=>⟨u.mono b j t,u.cell b j t⟩) ?_;intro b B;refine⟨B,q3 b ?_,λj J=>J⟩;rintro rfl;rw[h.hr.notO id _ x] at B;simp at B
 have X:∀j,F[j]? =if i*k.sz+o<=j∧j<i*k.sz+o+us.length then us[j-(i*k.sz+o)]? else N[j]?:=by
  intro j;rw[<-cell_of_heap q1 j];split;·rename_i J;have:=BY (g.ρ id) us (i*k.sz+o) w (λj' d2=>by rw[cell_of_heap hb,Ag (by omega)];rfl) (j-(i*k.sz+o)) (by omega);rw[show i*k.sz+o+(j-(i*k.sz+o))=j by omega] at this;rw[Ac (by omega)];exact this
  ·rename_i J;rw[Bj _ _ _ w _ (λ_ _=>by simp only;omega),cell_of_heap hb]
 have ad:id<s.hp.length:=(Ad.1 x).1;have split:∀(f:Nat) o',(s.hp.set id (some [V.rw k (xs.set i O)]))[f]? =some (some o')->(f=id∧o'=[V.rw k (xs.set i O)])∨(f≠id∧s.hp[f]? =some (some o')):=by
  intro f o' p;rw[At] at p;split at p;·rename_i e;simp[ad] at p;exact .inl ⟨e.symm,p.symm⟩
  ·rename_i e;exact .inr ⟨λe'=>e e'.symm,p⟩
 have C:∀(f:Nat) o',(s.hp.set id (some [V.rw k (xs.set i O)]))[f]? =some (some o')->∃M,s.hp[f]? =some (some M):=by
  intro f o' p;rcases split f o' p with⟨rfl,_⟩|⟨_,p⟩
  ·exact⟨_,x⟩
  ·exact⟨_,p⟩
 have b1:0<k.sz:=by cases k<;>simp[EK.sz]
 have bx:xs[i]? =some xs[i]:=Ac t;have R:∀(q:Nat) c cv,(cellsOf [V.rw k (xs.set i O)])[q]? =some c->F[q]? =some cv->VRel g.I g.ρ s.hp.length w' c cv:=by
  intro q c cv r d;simp only[cellsOf] at r;obtain⟨y,Y,r⟩:=eb _ q c r;have p:q / k.sz*k.sz+q%k.sz=q:=by rw[CQ];exact DK q k.sz
  have hr:q%k.sz<k.sz:=CB _ b1;rw[X] at d;rw[At] at Y;split at Y
  ·rename_i e1;rw[<-e1] at p;simp only[t,if_true,Ab] at Y;subst Y;have cx:=a8 k xs[i];have hg:=km (enc k xs[i]) (vs.map V.weak) o (by simp only[AU];omega) (q%k.sz);simp only[AU] at hg;rw[he,hg] at r;split at r;·rename_i J;rw[if_pos (by omega)] at d;rw[Au,Ah] at r;obtain⟨v,a2,rfl⟩:=r;rw[show q-(i*k.sz+o)=q%k.sz-o by omega] at d;exact((hv _ v cv a2 d).weak).up u
   ·rename_i J;rw[if_neg (by omega)] at d;exact(G i _ (q%k.sz) c cv bx r (by rw[p];exact d)).up u
  ·rename_i e1;rw[if_neg ?_] at d;·exact(G _ y (q%k.sz) c cv Y r (by rw[p];exact d)).up u
   ·intro hh;rcases AG (q / k.sz) i with h1|h1;·have:=jI h1 hr;omega
    ·have h2:i<q / k.sz:=by omega
     have:(i+1)*k.sz<=q / k.sz*k.sz:=AS _ h2;rw[Ax,CL] at this;omega
 refine⟨⟨⟨?_,?_,?_,?_,?_,?_⟩,⟨h.er.size,?_,?_⟩⟩,⟨rfl,q5,q6,q7,by rw[q4];exact Ao _,?_,?_,λ_ _ _ _ _ t=>t,λ_ _ _ hO=>hO,?_⟩⟩
 ·intro f o' p;simp only[St.setObj,AL];rcases split f o' p with⟨rfl,rfl⟩|⟨L,p⟩
  ·refine fS.ofRow (e:=e) q1 ⟨?_,(by intro hf;cases hf),?_,(λj J=>t1 j (AF J (by simp only[cellsOf,bR,AL];exact S))),?_,R,?_,?_⟩ rfl;·simp only[cellsOf,bR,AL,q2];exact S
   ·intro k2 ys hz;have hz:some _=some _:=hz;cases hz;exact⟨by rw[q2];exact t1,by rw[q2];exact t2,t3,t4⟩
   ·intro c r;simp only[cellsOf,AJ] at r;obtain⟨y,_,r⟩:=r;exact qD k y c r
   ·intro j c cv r d;have Z:=Ap r;simp only[cellsOf,AJ] at Z;obtain⟨y,_,Z⟩:=Z;exact jm (nu k y c Z) _ _ _ _
   ·intro j E n r;simp only[cellsOf] at r;obtain⟨y,_,r⟩:=eb _ j _ r;exact absurd r (qJ k y _ E n)
  ·refine(h.hr.obj f o' p).keep ?_ λci e2 c4 k1 k2=>⟨k2.len,k2.plain,k2.typedUp rfl u.rho u.num rfl,k2.cold,k2.one,λj c cv r d=>(k2.rel j c cv r d).up u,λj c cv r d=>A _ _ _ (k2.own j c cv r d),k2.bn⟩
   rw[q3 _ (h.hr.apart f id o' _ p x L)]
 ·intro id1 a3 W c2 k1 k2 L;obtain⟨_,k1⟩:=C id1 W k1;obtain⟨_,k2⟩:=C a3 c2 k2;exact h.hr.apart _ _ _ _ k1 k2 L
 ·intro id1 W k1;obtain⟨_,k1⟩:=C id1 W k1;exact h.hr.notI _ _ k1
 ·intro id1 W k1;obtain⟨_,k1⟩:=C id1 W k1;exact h.hr.notO _ _ k1
 ·intro b j t;rw[z b j t];exact h.hr.exI b j t
 ·intro b oc B;rw[q4];exact h.hr.oLt b oc B
 ·intro n v cv p d;simp only[St.setObj,AL];exact(h.er.rel n v cv p d).up u
 ·intro n v cv p d;exact A _ _ _ (h.er.own n v cv p d)
 ·intro b _ a1 _;exact q3 b (λe=>a1 id _ x e.symm)
 ·simp only[AL];exact u
 ·intro f o' p;obtain⟨M,p⟩:=C f o' p;exact .inl ⟨M,p⟩
theorem ahV{d:Option Nat}{n:Nat}{x v:ac}(f:kW P (.stw d n x v) m=true)(p:step Γ (.stw d n x v) s=some (true,s'))(h:SR g s w a)(hn:ax g s w a s' next):m.wp P a w next Q:=by
 obtain⟨dst,op,ty,H,S,gd⟩:=m;simp only[kW,Aa,beq_iff_eq] at f;obtain⟨rfl,f⟩:=f;split at f
 ·rename_i t Y y;simp only[Aa,beq_iff_eq] at f;obtain⟨h1,h2,h3⟩:=f;have N:=af h2 h.er;have r2:=af h3 h.er;simp only[step] at p;split at p
  ·rename_i id k i o hx;split at p
   ·rename_i k' xs Z;split at p
    ·rename_i b;obtain⟨rfl,a2,b⟩:=b;simp only[Aa,beq_iff_eq] at b;obtain⟨R,F⟩:=b;split at p
     ·rename_i x2 C;simp only[Ab,Ae,decide_eq_true_eq] at p;obtain⟨G,rfl⟩:=p;have hd:xs.getD i (am k')=xs[i]:=by simp[As,Ac G]
      rw[hd] at C;rw[hx] at N;generalize I:a.eval Y=cx at N;cases N with
      |wp _ _ _ _ bx=>
       obtain⟨A,e,fz,hb,b0,X,z⟩:=oa h Z;obtain⟨M,c2,W⟩:=rI r2 F;have B:(a.eval y).cells.size=n:=by rw[<-M];exact R
       have a1:i*k'.sz+k'.sz<=A.size:=by have:(i+1)*k'.sz<=xs.length*k'.sz:=AS _ G;rw[Ax,CL] at this;omega
       have E:(execOp a.eval ⟨dst,.store t Y y,ty,H,S,gd⟩).run P w=.ok .skip (w.setCells (g.ρ id) (i*k'.sz+o) (a.eval y).cells.toList):=by
        have:=run_storeCells_cells (P:=P) (g.ρ id) (i*k'.sz+o) (a.eval y).cells.toList 0 w
         (λj q=>by rw[cell_of_heap hb,Ag (by simp at q;omega)];rfl)
         (λj q=>by have f:=(X.typed k' xs rfl).1 (i*k'.sz+o+j) (by simp at q;omega);simp[Ci,hb];omega)
         (λu hu=>by
          obtain⟨j,q,rfl⟩:=AZ.1 hu;have r:j<(v.ev s).cells.length:=by rw[M];simpa using q
          exact(W j _ _ (Ac r) (by simp)).oneCell (c2 _ (Bf r)))
        simp[execOp,I,D5,BE,storeVar,db h1,B,this]
       have J:∀c∈enc k' xs[i],c.inRange:=by
        intro c f;obtain⟨j,q,rfl⟩:=AZ.1 f;have r:j<k'.sz:=by rwa [a8] at q
        exact(z i _ j _ _ (Ac G) (Ac q) (Ag (show i*k'.sz+j<A.size by omega))).inRange
       have L:∀c∈(v.ev s).cells,c.inRange:=by intro c f;obtain⟨j,q,rfl⟩:=AZ.1 f;exact(W j _ _ (Ac q) (Ag (show j<(a.eval y).cells.size by omega))).inRange
       obtain⟨p1,p2⟩:=h.putElt (o:=o) (us:=(a.eval y).cells.toList) Z G (by simpa using M) (by omega) (ad3 C J L) (λj c cv f O=>W j c cv f (by simpa using O));unfold Ch C6;rw[E];cases dst with
       |none=>exact hn _ _ g p1 p2 rfl
       |some d=>exact hn _ _ g (p1.set d (.undef _) (by simp[OwnOK])) p2 rfl
     ·simp at p
    ·simp at p
   ·simp at p
  ·simp at p
 ·simp at f
end
def ahW(P:Program)(o:IOp)(m:Oper):Bool:=
 match o with
 |_=>false
section
variable{w w':World}{g g':Gh}{s s':St}{a:Act}{P:Program}{Γ:ao}{m:Oper}{next:Act->World->Prop}{Q:Exit->Act->World->Prop}
theorem ahg{k:EK}{xs:List (Ty k)}{q:Nat}{c:V}(d:(xs.flatMap (enc k))[q]? =some c):∃x,c∈enc k x:=by have b:=Ap d;simp only[AJ] at b;obtain⟨y,_,b⟩:=b;exact⟨y,b⟩
theorem abF{id:Nat}{c:Hol}(b:s.rowH id=some c):∃e f,s.hp[id]? =some (some [.tup [.rw c.k c.xs,.sw c.k2 c.id2 c.n2,.wp e f c.i c.o]]):=by
 unfold St.rowH at b;simp only[As] at b;cases d:s.hp[id]? with
 |none=>rw[d] at b;simp at b
 |some x=>
  rw[d] at b;simp only[Bw] at b;split at b;·simp only[Ab] at b;subst b;exact⟨_,_,rfl⟩
  ·cases b
theorem ad4{id:Nat}{b:Hol}(h:SR g s w a)(q:s.rowH id=some b):∃c e d,w.heap[g.ρ id]? =some (.cells c e d)∧b.xs.length*b.k.sz<=c.size∧
  (∃cs,s.hp[id]? =some (some cs)∧vW cs=some ⟨b.k,b.xs⟩∧cellsOf cs=(b.xs.flatMap (enc b.k)).set (b.i*b.k.sz+b.o) (.sw b.k2 b.id2 b.n2)∧fv g s.hp.length w id cs c e d):=by
 obtain⟨t,r,f⟩:=abF q;obtain⟨c,e,d,p,j⟩:=(h.hr.obj id _ f).row rfl;refine⟨c,e,d,p,?_,_,f,rfl,rfl,j⟩;have:=j.len;simp only[cellsOf,AL] at this
 rwa [bR] at this
theorem ac2{k:EK}{x f:Ty k}{o:Nat}{v:V}(h:pA k x o [v]=some f)(e:∀(j:Nat) c,j≠o->(enc k x)[j]? =some c->c.inRange)(p:v.inRange):
  enc k f=((enc k x).take o++[v.weak])++(enc k x).drop (o+1):=by
 unfold pA at h;rw[yZ h ?_];·rw[Cy,Cy,Cu,Dp,Dn,abp];simp[aad]
 ·intro c b;rcases AB.1 b with b|b
  ·rcases AB.1 b with b|b
   ·obtain⟨j,d⟩:=List.getElem?_of_mem b;rw[AW] at d;split at d;·exact e j c (by omega) d
    ·simp at d
   ·obtain⟨u,i,rfl⟩:=Av.1 b;simp only[Aq] at i;subst i;exact uX p
  ·obtain⟨j,d⟩:=List.getElem?_of_mem b;rw[A9] at d;exact e _ c (by simp;omega) d
theorem ae7(h:SR g s w a){n:Nat}(F:(io.hol n).step s=some (true,s')):∃g',SR g' s' w a∧FR g s.hp w g' s'.hp w:=by
 simp only[io.step] at F;split at F
 ·rename_i k0 id n0 e6;split at F
  ·rename_i hh b0;split at F
   ·rename_i k3 ys av;split at F
    ·rename_i hk;split at F
     ·rename_i x' Z;simp only[Ab,Ae,Aa,decide_eq_true_eq] at F;obtain⟨⟨b1,C⟩,rfl⟩:=F;have ci:=AA b1;clear b1;obtain⟨k,xs,k2,t,n2,i,o⟩:=hh;simp only at hk Z ci C av ⊢;subst hk;obtain⟨a0,e,fz,hb,a4,cs,hm,b4,bs,ad⟩:=ad4 h b0;simp only at a4 b4 bs;obtain⟨t1,t2,t3,t4⟩:=ad.typed k xs b4;obtain⟨J,e2,fd,ck,ew,bY,X⟩:=oa h av;obtain⟨s1,s2,s3,s4⟩:=bY.typed k3 ys rfl;have z:=tA av;have b6:id≠t:=by
       rintro rfl;obtain⟨a1,a2,N⟩:=abF b0;rw[z] at N;cases N
      have hd:xs.getD i (am k)=xs[i]:=by simp[As,Ac C]
      rw[hd] at Z;have el:g.ρ id≠g.ρ t:=h.hr.apart _ _ _ _ hm z b6;have e7:id<s.hp.length:=(Ad.1 hm).1;have fr:t<s.hp.length:=(Ad.1 z).1;have c1:0<k.sz:=by cases k<;>simp[EK.sz]
      have Y:∀cv,o<k.sz->a0[i*k.sz+o]? =some cv->VRel g.I g.ρ s.hp.length w (.sw k3 t n2) cv:=by intro cv ho p;refine ad.rel (i*k.sz+o) _ cv ?_ p;rw[bs,CM (by rw[bR];exact jI C ho)]
      have A:∀(q:Nat) c cv,q≠i*k.sz+o->(xs.flatMap (enc k))[q]? =some c->a0[q]? =some cv->VRel g.I g.ρ s.hp.length w c cv:=by intro q c cv L r p;refine ad.rel q c cv ?_ p;rw[bs,BG (Cr L)];exact r
      let O:Gh:={g with I:=λb j=>g.I b j∨(b=g.ρ t∧j<ys.length*k3.sz)}
      let B:=(s.hp.set id (some [V.rw k (xs.set i x')])).set t none;have S:B.length=s.hp.length:=by simp[B]
      have u:Up g.I g.ρ s.hp.length w O.I O.ρ B.length w:=⟨λ_ _ hi=>.inl hi,λ_ _ _=>rfl,λ_ _=>rfl,by rw[S];exact Ao _⟩
      have u1:Up g.I g.ρ s.hp.length w O.I O.ρ s.hp.length w:=⟨λ_ _ hi=>.inl hi,λ_ _ _=>rfl,λ_ _=>rfl,Ao _⟩
      have sub:∀(j:Nat) f,B[j]? =some (some f)->(j=id∧f=[V.rw k (xs.set i x')])∨(j≠id∧j≠t∧s.hp[j]? =some (some f)):=by
       intro j f d;simp only[B,At] at d;split at d;·split at d<;>simp at d
       ·rename_i c9;split at d;·rename_i a3;simp only[Ab] at d;exact .inl ⟨a3.symm,d.symm⟩
        ·rename_i a3;exact .inr ⟨λe=>a3 e.symm,λe=>c9 e.symm,d⟩
      have G:∀(j:Nat) f,B[j]? =some (some f)->j≠t∧∃cl,s.hp[j]? =some (some cl):=by
       intro j f d;rcases sub j f d with⟨rfl,_⟩|⟨_,h2,h3⟩
       ·exact⟨b6,_,hm⟩
       ·exact⟨h2,_,h3⟩
      have H:∀W v cv,OwnOK g w W v cv->OwnOK O w W v cv:=by
       intro W v cv ej;refine ch ej rfl (λb j hi=>⟨.inl hi,rfl⟩) ?_;intro b bb;refine⟨bb,rfl,?_⟩;rintro j (d|⟨rfl,_⟩);·exact d
       ·rw[h.hr.notO t _ z] at bb;simp at bb
      have ds:∀(j:Nat) c,j≠o->(enc k xs[i])[j]? =some c->c.inRange:=by
       intro j c d r;have M:j<k.sz:=by
        have:=(Ad.1 r).1
        rwa [a8] at this
       have gd:=jI C M;exact(A (i*k.sz+j) c _ (by omega) (flat_enc xs i j _ c (Ac C) r) (Ag (by omega))).inRange
      have R:=ac2 Z ds trivial;have b3:o<k.sz:=by have h1:=congrArg An R;simp only[Ba,B5,Cp,a8,BB] at h1;omega
      have cc:∀(q:Nat) c cv,(cellsOf [V.rw k (xs.set i x')])[q]? =some c->a0[q]? =some cv->VRel O.I O.ρ B.length w c cv:=by
       intro q c cv r p;simp only[cellsOf] at r;obtain⟨y,hy,r⟩:=eb _ q c r;have L:q / k.sz*k.sz+q%k.sz=q:=by rw[CQ];exact DK q k.sz
       have hr:q%k.sz<k.sz:=CB _ c1;rw[At] at hy;split at hy
       ·rename_i e1;rw[<-e1] at L;simp only[C,if_true,Ab] at hy;subst hy;have hg:=km (enc k xs[i]) [(V.sl k3 (.may false) ys).weak] o (by simp only[BB,a8];omega) (q%k.sz);simp only[BB] at hg;rw[R,hg] at r;split at r
        ·rename_i d;have e3:q%k.sz=o:=by omega
         rw[e3,CP] at r;simp only[Bl,Ab] at r;subst r;have d0:=Y cv b3 (by rw[<-e3,L];exact p);cases d0 with
         |sw _ _ _ hN c4 N=>
         subst ci;simp only[V.weak];refine .sl k3 (.may false) ys (g.ρ t) 0 ys.length _ rfl c4 N (by simp) (λi j=>J[i*k3.sz+j]?.getD undef) ?_ ?_ ?_;·intro i' x j hx d;rw[a8] at d;exact .inr ⟨rfl,by have:=jI (Ad.1 hx).1 d;omega⟩
         ·intro i' x j hx d;rw[a8] at d;have:=jI (Ad.1 hx).1 d;rw[Aw,cell_of_heap ck,Ag (by omega)];rfl
         ·intro i' x j v hx d;have M:=(Ad.1 d).1;rw[a8] at M;have:=jI (Ad.1 hx).1 M;have ha:J[i'*k3.sz+j]? =some (J[i'*k3.sz+j]'(by omega)):=Ag _;rw[ha];exact(X i' x j v _ hx d ha).up u
        ·rename_i d;exact(A q c cv (by omega) (by rw[<-L];exact flat_enc xs i _ _ c (Ac C) r) p).up u
       ·rename_i e1;refine(A q c cv ?_ (by rw[<-L];exact flat_enc xs _ _ _ c hy r) p).up u;intro dv;have:q / k.sz=i:=by
         rw[dv,CQ,Nat.mul_add_div c1,Nat.div_eq_of_lt b3,Cv]
        exact e1 this.symm
      refine⟨O,⟨⟨?_,?_,?_,?_,?_,h.hr.oLt⟩,⟨h.er.size,λm v cv hv p=>(h.er.rel m v cv hv p).up u,λm v cv hv p=>H _ _ _ (h.er.own m v cv hv p)⟩⟩,⟨rfl,rfl,rfl,rfl,Ao _,λ_ _ _ _=>rfl,u,?_,λ_ _ _ hO=>hO,λj f d=>.inl (G j f d).2⟩⟩
      ·intro j f d;rcases sub j f d with⟨rfl,rfl⟩|⟨n1,f9,d⟩
       ·refine fS.ofRow (e:=e) hb ⟨?_,(by intro hf;cases hf),?_,(λj d=>t1 j (AF d (by simp only[cellsOf,bR,AL];exact a4))),?_,cc,?_,?_⟩ rfl;·simp only[cellsOf,bR,AL];exact a4
        ·intro k' zs hz;have hz:some _=some _:=hz;cases hz;exact⟨t1,t2,by rw[S];exact t3,t4⟩
        ·intro c r;simp only[cellsOf,AJ] at r;obtain⟨y,_,r⟩:=r;exact qD k y c r
        ·intro j c cv r p;obtain⟨y,ei⟩:=ahg r;exact jm (nu k y c ei) _ _ _ _
        ·intro j E n r;simp only[cellsOf] at r;obtain⟨y,_,r⟩:=eb _ j _ r;exact absurd r (qJ k y _ E n)
       ·exact(h.hr.obj j f d).keep rfl λe0 e3 fl m1 m2=>⟨m2.len,m2.plain,m2.typedUp rfl u.rho u.num rfl,m2.cold,m2.one,λj c cv r p=>(m2.rel j c cv r p).up u,λj c cv r p=>H _ _ _ (m2.own j c cv r p),m2.bn⟩
      ·intro j j' c5 d1 h1 h2 d2;obtain⟨_,_,h1⟩:=G j c5 h1;obtain⟨_,_,h2⟩:=G j' d1 h2;exact h.hr.apart _ _ _ _ h1 h2 d2
      ·rintro j f d q (L|⟨L,_⟩);·obtain⟨_,_,d⟩:=G j f d;exact h.hr.notI _ _ d q L
       ·obtain⟨c7,_,d⟩:=G j f d;exact h.hr.apart _ _ _ _ d z c7 L
      ·intro j f d;obtain⟨_,_,d⟩:=G j f d;exact h.hr.notO _ _ d
      ·rintro b j (d|⟨rfl,d⟩);·exact h.hr.exI b j d
       ·rw[cell_of_heap ck,Ag (by omega)];rfl
      ·rintro b j _ c8 _ (d|⟨rfl,_⟩);·exact d
       ·exact absurd rfl (c8 t _ z)
     ·simp at F
    ·simp at F
   ·simp at F
  ·simp at F
 ·simp at F
end
section
variable{w:World}{g g':Gh}{s s':St}{a:Act}
theorem SR.fillSlot(h:SR g s w a)(n:Nat){v:V}(b:VRel g.I g.ρ s.hp.length w v (a.tmps.getD n undef))(c:OwnOK g w (.slot n) v (a.tmps.getD n undef)):SR g (s.set n v) w a:=
 ⟨h.hr,h.er.put' n b c⟩
theorem SR.fillCell(h:SR g s w a){id o:Nat}{cs:List V}(N:s.obj id=some cs)(L:o<cs.length){A:Array Value}{e:TypeId}(R:w.heap[g.ρ id]? =some (.cells A e (0,0))){v:V}{cv:Value}
  (t:A[o]? =some cv) (Y:v.one=true) (F:pU v=true) (W:VRel g.I g.ρ s.hp.length w v cv) (B:OwnOK g w (.cell id o) v cv):
  SR g (s.setObj id (cs.set o v)) w a∧FR g s.hp w g (s.hp.set id (some (cs.set o v))) w:=by
 obtain⟨C,S⟩:=fI N;have M:id<s.hp.length:=(Ad.1 C).1;let k:=cs.set o v;have split:∀(b:Nat) o',(s.hp.set id (some k))[b]? =some (some o')->(b=id∧o'=k)∨(b≠id∧s.hp[b]? =some (some o')):=by
  intro b o' f;rw[At] at f;split at f;·rename_i e;simp[M] at f;exact .inl ⟨e.symm,f.symm⟩
  ·rename_i e;exact .inr ⟨λJ=>e J.symm,f⟩
 have q:∀(b:Nat) o',(s.hp.set id (some k))[b]? =some (some o')->∃x,s.hp[b]? =some (some x):=by
  intro b o' f;rcases split b o' f with⟨rfl,_⟩|⟨_,f⟩
  ·exact⟨cs,C⟩
  ·exact⟨_,f⟩
 have i:∀(j:Nat) c,k[j]? =some c->(j=o∧c=v)∨(j≠o∧cs[j]? =some c):=by
  intro j c p;simp only[k,At] at p;split at p;·rename_i e;simp only[L,if_true,Ab] at p;exact .inl ⟨e.symm,p.symm⟩
  ·rename_i e;exact .inr ⟨λJ=>e J.symm,p⟩
 refine⟨⟨⟨?_,?_,?_,?_,h.hr.exI,h.hr.oLt⟩,⟨h.er.size,?_,h.er.own⟩⟩,⟨rfl,rfl,rfl,rfl,Ao _,λ_ _ _ _=>rfl,?_,λ_ _ _ _ _ X=>X,λ_ _ _ hO=>hO,?_⟩⟩
 ·intro b o' f;simp only[St.setObj,AL];rcases split b o' f with⟨rfl,rfl⟩|⟨z,f⟩
  ·obtain⟨O,e2,y,r⟩:=nN h.hr N;rw[R] at y;cases y;refine fS.ofRow0 R ⟨by simp[k,r.len],?_,?_,?_,?_⟩
   ·intro c p;obtain⟨j,Z,rfl⟩:=AZ.1 p;rcases i j _ (Ac Z) with⟨_,k2⟩|⟨_,k2⟩
    ·rw[k2];exact Y
    ·exact r.one _ (Ap k2)
   ·intro j c u p d;rcases i j _ p with⟨rfl,rfl⟩|⟨_,k2⟩
    ·rw[t] at d;obtain rfl:=Ai d;exact W
    ·exact r.rel j c u k2 d
   ·intro j c u p d;rcases i j _ p with⟨rfl,rfl⟩|⟨_,k2⟩
    ·rw[t] at d;obtain rfl:=Ai d;exact B
    ·exact r.own j c u k2 d
   ·intro j E n p;rcases i j _ p with⟨rfl,k2⟩|⟨_,k2⟩
    ·rw[<-k2] at F;simp[pU] at F
    ·exact r.bn j E n k2
  ·exact h.hr.obj b o' f
 ·intro id1 H G c2 k1 k2 z;obtain⟨_,k1⟩:=q id1 G k1;obtain⟨_,k2⟩:=q H c2 k2;exact h.hr.apart _ _ _ _ k1 k2 z
 ·intro id1 G k1;obtain⟨_,k1⟩:=q id1 G k1;exact h.hr.notI _ _ k1
 ·intro id1 G k1;obtain⟨_,k1⟩:=q id1 G k1;exact h.hr.notO _ _ k1
 ·intro n v cv f t;simp only[St.setObj,AL];exact h.er.rel n v cv f t
 ·simp only[AL];exact Up.refl _ _ _ _
 ·intro b o' f;obtain⟨x,f⟩:=q b o' f;exact .inl ⟨x,f⟩
def lM(g:Gh)(s:St)(w:World)(a:Act)(o:Occ)(cv:Value):Prop:=
 match o with
 | .slot n=>a.tmps.getD n undef=cv
 | .cell id j=>∃cs b e,s.obj id=some cs∧j<cs.length∧w.heap[g.ρ id]? =some (.cells b e (0,0))∧b[j]? =some cv
 | .res=>False
theorem y9(h:SR g s w a){o:Occ}{v:V}(b:s.at? o=v)(d:v≠.undef):∃cv,lM g s w a o cv∧VRel g.I g.ρ s.hp.length w v cv∧OwnOK g w o v cv:=by
 cases o with
 |slot n=>simp only[St.at?] at b;subst b;exact⟨_,rfl,h.er.get n,h.er.getOwn n⟩
 |cell id j=>
  simp only[St.at?] at b;cases k:s.obj id with
  |none=>rw[k] at b;exact absurd b.symm d
  |some cs=>
   rw[k] at b;simp only at b;obtain⟨c,e,t,f⟩:=nN h.hr k;have i:j<cs.length:=by
    rcases AG j cs.length with i|i;·exact i
    ·rw[As,AR i] at b;exact absurd b.symm d
   have r:cs[j]? =some v:=by rw[<-b,As,Ac i];rfl
   have q:=f.len;have p:c[j]? =some (c[j]'(by omega)):=Ag _;exact⟨_,⟨cs,c,e,k,i,t,p⟩,f.rel j v _ r p,f.own j v _ r p⟩
 |res=>simp only[St.at?] at b;exact absurd b.symm d
theorem SR.fill(h:SR g s w a){o:Occ}{cv:Value}(x:lM g s w a o cv){v:V}(r:v.one=true)(B:pU v=true)(F:VRel g.I g.ρ s.hp.length w v cv)(i:OwnOK g w o v cv):
  SR g (s.put? o v) w a∧FR g s.hp w g (s.put? o v).hp w∧(s.put? o v).hp.length=s.hp.length∧lM g (s.put? o v) w a o cv:=by
 cases o with
 |slot n=>simp only[lM] at x;subst x;exact⟨h.fillSlot n F i,FR.refl _ _ _,rfl,rfl⟩
 |cell id j=>
  obtain⟨cs,y,e,z,f,H,C⟩:=x;obtain⟨G,p2⟩:=h.fillCell z f H C r B F i;have t:s.put? (.cell id j) v=s.setObj id (cs.set j v):=by simp only[St.put?,z]
  rw[t];refine⟨G,p2,by simp[St.setObj],cs.set j v,y,e,?_,by simpa using f,H,C⟩;obtain⟨A,d⟩:=fI z;have u:id<s.hp.length:=(Ad.1 A).1;have q:kg (cs.set j v)=false:=by
   cases N:kg (cs.set j v) with
   |false=>rfl
   |true=>
    obtain⟨k,es,t⟩:=tt N;match cs,f with
    | [c],f=>
      have:j=0:=by simpa using f
      subst this;simp only[List.set,Cw,and_true] at t;subst t;simp[V.one] at r
    |c::O::cs,f=>have:=congrArg An t;simp at this
  obtain⟨J,R,M,L,E⟩:=(G.hr.obj id (cs.set j v) (by simp[St.setObj,u])).row q;have p:dU (cs.set j v)=false:=by
   unfold dU at d ⊢;match cs,f,d with
   | [c],f,d=>
     have:j=0:=by simpa using f
     subst this;simp only[List.set];split;·rename_i b;cases b;simp[V.one] at r
     ·rename_i b;cases b;simp[V.one] at r
     ·rename_i b;cases b;simp[V.one] at r
     ·rfl
   |c::O::cs,f,d=>
    split
    ·rename_i b;cases j with
     |zero=>simp at b
     |succ j=>cases j<;>simp at b
    ·rename_i b;cases j with
     |zero=>simp at b
     |succ j=>cases j<;>simp at b
    ·rename_i b;cases j with
     |zero=>simp at b
     |succ j=>cases j<;>simp at b
    ·rfl
  unfold St.obj;simp only[St.setObj,As,At,u,if_true,Bw];unfold dU at p;split<;>rename_i b;·simp only[Ab] at b;rw[b] at p;simp at p
  ·simp only[Ab] at b;rw[b] at p;simp at p
  ·simp only[Ab] at b;rw[b] at q;simp[kg] at q
  ·simp only[Ab] at b;rw[b] at p;simp at p
  ·rfl
 |res=>exact absurd x (by simp[lM])
theorem ae8{o:Occ}{cv:Value}{v:V}(t:lM g s w a o cv)(x:v.one=true)(h:v.bare=true):n9 (some o) (s.put? o v):=by
 cases o with
 |slot n=>
  intro u b;simp only[St.put?,St.set,At,if_true] at b;split at b;·cases Ai b;exact h
  ·simp at b
 |cell id j=>obtain⟨cs,q,e,i,p,_,_⟩:=t;obtain⟨c,f⟩:=fI i;have d:id<s.hp.length:=(Ad.1 c).1;intro r u k b;simp only[St.put?,i,St.setObj,At,d,if_true,Ab] at k;subst k;simp only[At,p,if_true,Ab] at b;subst b;exact h
 |res=>trivial
theorem xL{s:St}{id:Nat}{cs:List V}(b:s.obj id=some cs)(l:List al):({s with hp:=s.hp++l}:St).obj id=some cs:=by obtain⟨c,_⟩:=fI b;have d:id<s.hp.length:=(Ad.1 c).1;unfold St.obj at b ⊢;simp only[As] at b ⊢;rw[Am d];exact b
theorem SR.addRow(h:SR g s w a){k:EK}{xs:List (Ty k)}{b cap:Nat}{A:Array Value}{e:TypeId}{R:Nat×Nat}(Z:uS R A.size)(h2:xs.length<=cap)(h5:w.heap[b]? =some (.cells A e R))(h6:cap*k.sz<=A.size)(h7:k=.u8->e=g.β)
  (h8:∀j,¬g.I b j) (h4:g.O b=none) (L:∀(id:Nat) cs,s.hp[id]? =some (some cs)->g.ρ id≠b)
  (h9:∀(i:Nat) x (j:Nat) v u,xs[i]? =some x->(enc k x)[j]? =some v->A[i*k.sz+j]? =some u->VRel g.I (λ_=>0) 0 w v u):
  SR {g with ρ:=λid=>if id=s.hp.length then b else if id=s.hp.length+1 then cap else g.ρ id} {s with hp:=s.hp++[some [.rw k xs],none]} w a:=by
 let g':Gh:={g with ρ:=λid=>if id=s.hp.length then b else if id=s.hp.length+1 then cap else g.ρ id}
 have d:∀id,id<s.hp.length->g'.ρ id=g.ρ id:=λid f=>by simp only[g'];rw[if_neg (by omega),if_neg (by omega)]
 have p:g'.ρ s.hp.length=b:=by simp[g']
 have B:g'.ρ (s.hp.length+1)=cap:=by simp[g']
 have u:Up g.I g.ρ s.hp.length w g'.I g'.ρ (s.hp++[some [V.rw k xs],none]).length w:=⟨λ_ _ t=>t,λ_ _ _=>rfl,d,by simp⟩
 have z:∀F v cv,OwnOK g w F v cv->OwnOK g' w F v cv:=λF v cv ho=>ch ho rfl (λb j t=>⟨t,rfl⟩) (λb hb=>⟨hb,rfl,λj X=>X⟩)
 have split:∀(id:Nat) o,(s.hp++[some [V.rw k xs],none])[id]? =some (some o)->(id<s.hp.length∧s.hp[id]? =some (some o))∨(id=s.hp.length∧o=[V.rw k xs]):=by
  intro id o f;rcases AG id s.hp.length with t|t;·rw[Am t] at f;exact .inl ⟨t,f⟩
  ·rw[Aj t] at f;match hq:id-s.hp.length,f with
   |0,f=>simp at f;exact .inr ⟨by omega,f.symm⟩
   |1,f=>simp at f
   |n+2,f=>simp at f
 have C:xs.length*k.sz<=A.size:=AX (AS _ h2) h6;refine⟨⟨?_,?_,?_,?_,h.hr.exI,h.hr.oLt⟩,⟨h.er.size,λn v cv W q=>(h.er.rel n v cv W q).up u,λn v cv W q=>z _ _ _ (h.er.own n v cv W q)⟩⟩
 ·intro id o f;rcases split id o f with⟨t,f⟩|⟨rfl,rfl⟩
  ·refine(h.hr.obj id o f).keep (by rw[d id t]) λav e' R k1 k2=>?_
   refine⟨k2.len,k2.plain,k2.typedUp rfl u.rho u.num rfl,k2.cold,k2.one,λj c cv r q=>(k2.rel j c cv r q).up u,λj c cv r q=>z _ _ _ (k2.own j c cv r q),by rw[d id t];exact k2.bn⟩
  ·refine fS.ofRow (e:=e) (by rw[p];exact h5) ⟨by simp only[cellsOf,bR];exact C,(by intro hf;cases hf),?_,(λj X=>Z j (AF X (by simp only[cellsOf,bR];exact C))),?_,?_,?_,?_⟩ rfl;·intro k2 ys S;have S:some _=some _:=S;cases S;exact⟨Z,by rw[B];exact h6,by simp,h7⟩
   ·intro c r;simp only[cellsOf,AJ] at r;obtain⟨y,_,r⟩:=r;exact qD k y c r
   ·intro j c cv r q;simp only[cellsOf] at r;obtain⟨y,hy,r⟩:=eb _ j _ r;exact oV r (h9 _ y _ c cv hy r (by rw[show j / k.sz*k.sz+j%k.sz=j by rw[CQ];exact DK j k.sz];exact q))
   ·intro j c cv r q;have N:=Ap r;simp only[cellsOf,AJ] at N;obtain⟨y,_,N⟩:=N;exact jm (nu k y c N) _ _ _ _
   ·intro j E n r;simp only[cellsOf] at r;obtain⟨y,_,r⟩:=eb _ j _ r;exact absurd r (qJ k y _ E n)
 ·intro id G o o' k1 k2 J;rcases split id o k1 with⟨t,m1⟩|⟨e1, -⟩<;>rcases split G o' k2 with⟨M,m2⟩|⟨Y, -⟩
  ·rw[d _ t,d _ M];exact h.hr.apart id G o o' m1 m2 J
  ·rw[d _ t,Y,p];exact L id o m1
  ·rw[d _ M,e1,p];exact(L G o' m2).symm
  ·exact absurd (e1.trans Y.symm) J
 ·intro id o f j t;rcases split id o f with⟨H,f⟩|⟨rfl,rfl⟩
  ·rw[d _ H] at t;exact h.hr.notI id o f j t
  ·rw[p] at t;exact h8 j t
 ·intro id o f;rcases split id o f with⟨H,f⟩|⟨rfl,rfl⟩
  ·rw[d _ H];exact h.hr.notO id o f
  ·rw[p];exact h4
theorem ad5{s:St}{o:Occ}{cv:Value}(h:lM g s w a o cv)(v:V)(l:List al):({s with hp:=s.hp++l}:St).put? o v={s.put? o v with hp:=(s.put? o v).hp++l}:=by
 cases o with
 |slot n=>rfl
 |cell id j=>obtain⟨cs,f,e,b,i,_,_⟩:=h;obtain⟨c,_⟩:=fI b;have d:id<s.hp.length:=(Ad.1 c).1;simp only[St.put?,b,xL b l,St.setObj];rw[List.set_append_left _ _ d]
 |res=>rfl
theorem adr{s:St}{o:Occ}{cv:Value}(t:lM g s w a o cv){u:V}(A:u.one=true)(c:lM g (s.put? o u) w a o cv)(v:V):(s.put? o u).put? o v=s.put? o v:=by
 cases o with
 |slot n=>simp[St.put?,St.set]
 |cell id j=>
  obtain⟨cs,p,e,d,z,_,_⟩:=t;obtain⟨r,k,y,b,x,_,_⟩:=c;obtain⟨f,_⟩:=fI d;have h:id<s.hp.length:=(Ad.1 f).1;have q:s.put? (.cell id j) u=s.setObj id (cs.set j u):=by simp only[St.put?,d]
  rw[q] at b ⊢;obtain⟨i,_⟩:=fI b;simp only[St.setObj,At,h,if_true,Ab] at i;subst i;simp only[St.put?];rw[b,d];simp only[St.setObj,List.set_set]
 |res=>rfl
theorem lM.append{s:St}{o:Occ}{cv:Value}(c:lM g s w a o cv)(h:∀id,id<s.hp.length->g'.ρ id=g.ρ id)(l:List al):lM g' {s with hp:=s.hp++l} w a o cv:=by
 cases o with
 |slot n=>exact c
 |cell id j=>obtain⟨cs,b,e,i,k,q,p⟩:=c;obtain⟨d,_⟩:=fI i;have f:id<s.hp.length:=(Ad.1 d).1;exact⟨cs,b,e,xL i l,k,by rw[h id f];exact q,p⟩
 |res=>exact c
theorem aae(h:SR g s w a){o:Occ}(B:(io.opn o).step s=some (true,s')):∃g',SR g' s' w a∧FR g s.hp w g' s'.hp w:=by
 simp only[io.step] at B;split at B
 ·rename_i k xs L;simp only[Ab,Ae,decide_eq_true_eq] at B;obtain⟨F,rfl⟩:=B;obtain⟨cv,W,hv,ho⟩:=y9 h L (by simp);rcases ho with⟨rfl,_⟩|⟨b,cap,bn,e,fz,h0,rfl,Y,h3,Z,h5,h6,h7,h8,h9⟩
  ·simp at F
  ·have E:xs.length<=maxI:=AX Y h3;obtain⟨M,p2,p3,H⟩:=h.fill W (v:=.hd xs.length) rfl rfl (.hd _ _ _ E) (by simp[OwnOK]);have z:n9 (some o) (s.put? o (.hd xs.length)):=ae8 W rfl rfl;let d:=s.put? o (.hd xs.length);let x:Gh:={g with O:=λr=>if r=b then none else g.O r}
   have C:∀(id:Nat) cs,d.hp[id]? =some (some cs)->g.ρ id≠b:=by intro id cs c e';have:=M.hr.notO id cs c;rw[e',Z] at this;simp at this
   have k1:SR x d w a:=by
    refine M.keep (some o) z rfl (Up.refl _ _ _ _) ?_ ?_ h.hr.exI ?_
    ·intro a4 r f G;have J:r≠b:=by
      rintro rfl;rw[Z] at f;exact G f
     exact⟨by simp[x,J,f],rfl,λj R=>R⟩
    ·intro id cs c;exact⟨rfl,by simp[x,C id cs c,M.hr.notO id cs c],λj R=>R⟩
    ·intro r o' f;simp only[x] at f;split at f;·simp at f
     ·exact h.hr.oLt _ _ f
   have k2:=k1.addRow (b:=b) (cap:=cap) h0 Y h5 h6 h7 h8 (by simp[x]) C h9;let i:Gh:={x with ρ:=λid=>if id=d.hp.length then b else if id=d.hp.length+1 then cap else x.ρ id}
   let s2:St:={d with hp:=d.hp++[some [.rw k xs],none]}
   have p:∀id,id<d.hp.length->i.ρ id=g.ρ id:=λid c=>by simp only[i];rw[if_neg (by omega),if_neg (by omega)]
   have S:lM i s2 w a o (.slice (some ⟨b,0,none⟩) xs.length cap):=lM.append (g:=g) H p _;have ad:VRel i.I i.ρ s2.hp.length w (.sw k d.hp.length xs.length) (.slice (some ⟨b,0,none⟩) xs.length cap):=by
    have u:i.ρ (d.hp.length+1)=cap:=by simp[i]
    have X:i.ρ d.hp.length=b:=by simp[i]
    have:=VRel.sw (I:=i.I) (ρ:=i.ρ) (N:=s2.hp.length) (w:=w) k d.hp.length xs.length (by simp[s2]) (by rw[u];exact Y) (by rw[u];exact h3);rw[u,X] at this;exact this
   obtain⟨q1,q2,q3,q4⟩:=SR.fill (g:=i) (s:=s2) k2 S (v:=.sw k d.hp.length xs.length) rfl rfl ad (by simp[OwnOK]);have t:d.hp.length=s.hp.length:=p3;have A:s2.put? o (.sw k d.hp.length xs.length)={s.put? o (.sw k s.hp.length xs.length) with hp:=(s.put? o (.sw k s.hp.length xs.length)).hp++[some [.rw k xs],none]}:=by have e1:=ad5 (g:=g) (w:=w) (a:=a) H (.sw k d.hp.length xs.length) [some [.rw k xs],none];rw[adr W rfl H] at e1;rw[t] at e1;show ({d with hp:=d.hp++[some [.rw k xs],none]}:St).put? o (.sw k d.hp.length xs.length)=_;rw[t];exact e1
   rw[A] at q1 q2;refine⟨i,q1,?_⟩;refine p2.trans (FR.trans (g₁:=i) (hp₁:=s2.hp) (w₁:=w) ?_ q2);refine⟨rfl,rfl,rfl,rfl,Ao _,λ_ _ _ _=>rfl,⟨λ_ _ q=>q,λ_ _ _=>rfl,p,by simp[s2,d]⟩,λ_ _ _ _ _ q=>q,?_,?_⟩
   ·intro r _ _ hO;show (if r=b then none else g.O r)=none;split;·rfl
    ·exact hO
   ·intro id cs c;rcases AG id d.hp.length with q|q
    ·left;have:s2.hp[id]? =d.hp[id]?:=by simp only[s2];rw[Am q]
     rw[this] at c;exact⟨cs,c⟩
    ·right;refine⟨q,.inr (.inl ?_)⟩;have y:id=d.hp.length:=by
      simp only[s2] at c;rw[Aj q] at c;match hq:id-d.hp.length,c with
      |0,_=>omega
      |1,c=>simp at c
      |n+2,c=>simp at c
     subst y;have:i.ρ d.hp.length=b:=by simp[i]
     rw[this,Z];simp
 ·obtain rfl:s=s':=by simpa using B
  exact⟨g,h,FR.refl _ _ _⟩
theorem ae9(h:SR g s w a){o:Occ}(J:(io.cls o).step s=some (true,s')):∃g',SR g' s' w a∧FR g s.hp w g' s'.hp w:=by
 simp only[io.step] at J;split at J
 ·rename_i k id n bY;split at J
  ·rename_i k' xs ho;split at J
   ·rename_i hk;subst hk;simp only[Ab,Ae] at J;obtain⟨hn,rfl⟩:=J;obtain rfl:=AA hn;obtain⟨cv,hl,Z, -⟩:=y9 h bY (by simp);obtain⟨bb,e,fz,hb,c6,b2,X⟩:=oa h ho;obtain⟨t1,t2,t3,t4⟩:=b2.typed k' xs rfl;have L:=tA ho;cases Z with
    |sw _ _ _ hN hc hm=>
    obtain⟨B,p2,p3,p4⟩:=h.fill hl (v:=.hd xs.length) rfl rfl (.hd _ _ _ (AX hc hm)) (by simp[OwnOK]);let I:=s.put? o (.hd xs.length);have r:I.hp[id]? =some (some [.rw k' xs]):=by
     cases o with
     |slot n=>exact L
     |cell t j=>
      obtain⟨cs,y,N,p,hj,_,_⟩:=hl;have d:t≠id:=by rintro rfl;obtain⟨z,H⟩:=fI p;rw[L] at z;cases z;simp[dU] at H
      simp only[I,St.put?,p,St.setObj];rw[BG d];exact L
     |res=>exact absurd hl (by simp[lM])
    let G:Gh:={g with O:=λS=>if S=g.ρ id then some o else g.O S}
    let s2:St:={I with hp:=I.hp.set id none}
    have sub:∀(i:Nat) cs,s2.hp[i]? =some (some cs)->i≠id∧I.hp[i]? =some (some cs):=by
     intro i cs f;simp only[s2,At] at f;split at f;·split at f<;>simp at f
     ·rename_i d;exact⟨λe=>d e.symm,f⟩
    have bs:g.O (g.ρ id)=none:=B.hr.notO id _ r;have A:∀M v cv,OwnOK g w M v cv->OwnOK G w M v cv:=by
     intro M v cv b1;refine ch b1 rfl (λb j f=>⟨f,rfl⟩) ?_;intro b q;refine⟨?_,rfl,λj hj=>hj⟩;have:b≠g.ρ id:=by rintro rfl;rw[bs] at q;simp at q
     simp[G,this,q]
    have E:s2.hp.length=I.hp.length:=by simp[s2]
    have k1:SR G s2 w a:=by
     refine⟨⟨?_,?_,?_,?_,B.hr.exI,?_⟩,⟨B.er.size,λm v cv Z C=>by rw[E];exact B.er.rel m v cv Z C,λm v cv Z C=>A _ _ _ (B.er.own m v cv Z C)⟩⟩
     ·intro i cs f;obtain⟨d,f⟩:=sub i cs f;refine(B.hr.obj i cs f).keep rfl λy N fz m1 m2=>?_
      rw[E];exact⟨m2.len,m2.plain,m2.typed,m2.cold,m2.one,m2.rel,λj c cv hc C=>A _ _ _ (m2.own j c cv hc C),m2.bn⟩
     ·intro i i' cs ad z H d;exact B.hr.apart i i' cs ad (sub i cs z).2 (sub i' ad H).2 d
     ·intro i cs f;exact B.hr.notI i cs (sub i cs f).2
     ·intro i cs f;obtain⟨d,f⟩:=sub i cs f;have:g.ρ i≠g.ρ id:=B.hr.apart i id cs _ f r d;show (if g.ρ i=g.ρ id then some o else g.O (g.ρ i))=none;rw[if_neg this];exact B.hr.notO i cs f
     ·intro S o' q;simp only[G] at q;split at q
      ·rename_i N;subst N;rcases AG (g.ρ id) w.heap.size with F|F;·exact F
       ·simp[CK F] at hb
      ·exact h.hr.oLt _ _ q
    have a1:lM G s2 w a o (.slice (some ⟨g.ρ id,0,none⟩) xs.length (g.ρ (id+1))):=by
     cases o with
     |slot n=>exact p4
     |cell t j=>
      obtain⟨cs,y,N,p,hj,q,ha⟩:=p4;refine⟨cs,y,N,?_,hj,q,ha⟩;have d:id≠t:=by rintro rfl;obtain⟨z,H⟩:=fI p;rw[show (s.put? (.cell id j) (.hd xs.length)).hp[id]? =some (some [.rw k' xs]) from r] at z;cases z;simp[dU] at H
      unfold St.obj at p ⊢;simp only[s2,As] at p ⊢;rw[BG d];exact p
     |res=>exact p4
    have a3:uT G w o k' xs (.slice (some ⟨g.ρ id,0,none⟩) xs.length (g.ρ (id+1))):=
     .inr ⟨g.ρ id,g.ρ (id+1),bb,e,fz,t1,rfl,hc,hm,by simp[G],hb,t2,t4,λj=>B.hr.notI id _ r j,λi x j v u z H R=>oV H (X i x j v u z H R)⟩
    obtain⟨q1,q2,q3,q4⟩:=SR.fill (g:=G) (s:=s2) k1 a1 (v:=.ul k' xs) rfl rfl (.ul _ _ _ _ (AX hc hm)) a3;have W:s2.put? o (.ul k' xs)={s.put? o (.ul k' xs) with hp:=(s.put? o (.ul k' xs)).hp.set id none}:=by
     cases o with
     |slot n=>simp[s2,I,St.put?,St.set]
     |cell t j=>
      obtain⟨cs,y,N,p,hj,_,_⟩:=hl;obtain⟨c4,cc,e2,Y,c3,_,_⟩:=a1;obtain⟨z,H⟩:=fI p;have F:t<s.hp.length:=(Ad.1 z).1;have d:t≠id:=by rintro rfl;rw[L] at z;cases z;simp[dU] at H
      have he:I=s.setObj t (cs.set j (.hd xs.length)):=by simp only[I,St.put?,p]
      obtain⟨R,_⟩:=fI Y;simp only[s2] at R;rw[BG (Cr d),he] at R;simp only[St.setObj,At,F,if_true,Ab] at R;subst R;simp only[St.put?];rw[Y,p];simp only[s2,he,St.setObj,List.set_set];rw[Ec _ _ d,List.set_set];rw[Ec _ _ (Cr d)]
     |res=>rfl
    rw[W] at q1 q2;refine⟨G,q1,p2.trans (FR.trans (g₁:=G) (hp₁:=s2.hp) (w₁:=w) ?_ q2)⟩;refine⟨rfl,rfl,rfl,rfl,Ao _,λ_ _ _ _=>rfl,⟨λ_ _ f=>f,λ_ _ _=>rfl,λ_ _=>rfl,by rw[E];exact Ao _⟩,λ_ _ _ _ _ f=>f,?_,λi cs f=>.inl ⟨cs,(sub i cs f).2⟩⟩;intro S _ b0 hO;show (if S=g.ρ id then some o else g.O S)=none;rw[if_neg (λe=>b0 id _ r e.symm)];exact hO
   ·simp at J
  ·simp at J
 ·obtain rfl:s=s':=by simpa using J
  exact⟨g,h,FR.refl _ _ _⟩
theorem afZ(h:SR g s w a){o:Occ}(G:(io.fz o).step s=some (true,s')):∃g',SR g' s' w a∧FR g s.hp w g' s'.hp w:=by
 simp only[io.step] at G;split at G
 ·rename_i k xs W;obtain rfl:_=s':=by simpa using G
  obtain⟨cv,M,hv,ho⟩:=y9 h W (by simp);rcases ho with⟨rfl,rfl⟩|⟨b,cap,d,e,fz,h0,rfl,h2,h3,N,H,h6,h7,h8,h9⟩
  ·obtain⟨F,p2,p3,R⟩:=h.fill M (v:=.sl k .own []) rfl rfl (.sln _ _) (by simp[OwnOK]);exact⟨g,F,p2⟩
  ·have E:xs.length<=maxI:=AX h2 h3;obtain⟨F,p2,p3,R⟩:=h.fill M (v:=.hd xs.length) rfl rfl (.hd _ _ _ E) (by simp[OwnOK]);have A:n9 (some o) (s.put? o (.hd xs.length)):=ae8 M rfl rfl;let p:=s.put? o (.hd xs.length);let f:Gh:={g with I:=λt j=>g.I t j∨(t=b∧j<xs.length*k.sz)}
   have a3:xs.length*k.sz<=d.size:=AX (AS _ h2) h6;have X:∀(id:Nat) cs,p.hp[id]? =some (some cs)->g.ρ id≠b:=by intro id cs q e';have:=F.hr.notO id cs q;rw[e',N] at this;simp at this
   have u:Up g.I g.ρ p.hp.length w f.I f.ρ p.hp.length w:=⟨λ_ _ J=>.inl J,λ_ _ _=>rfl,λ_ _=>rfl,Ao _⟩
   have k1:SR f p w a:=by
    refine F.keep (some o) A rfl u ?_ ?_ ?_ h.hr.oLt
    ·intro bx t r O;have S:t≠b:=by
      rintro rfl;rw[N] at r;exact O r
     refine⟨r,rfl,?_⟩;rintro j (c|⟨c,_⟩);·exact c
     ·exact absurd c S
    ·intro id cs q;refine⟨rfl,F.hr.notO id cs q,?_⟩;rintro j (c|⟨c,_⟩);·exact c
     ·exact absurd c (X id cs q)
    ·rintro t j (c|⟨rfl,c⟩);·exact h.hr.exI t j c
     ·rw[cell_of_heap H,Ag (by omega)];rfl
   have Y:lM f p w a o (.slice (some ⟨b,0,none⟩) xs.length cap):=R;have y:∀x:Ty k,∀j,j<(enc k x).length->j<k.sz:=λx j c=>by rwa [a8] at c
   have B:VRel f.I f.ρ p.hp.length w (.sl k .own xs) (.slice (some ⟨b,0,none⟩) xs.length cap):=by
    refine .sl k .own xs _ _ _ _ rfl h2 h3 (by simp) (λi j=>d[i*k.sz+j]?.getD undef) ?_ ?_ ?_;·intro i x j z c;exact .inr ⟨rfl,by have:=jI (Ad.1 z).1 (y x j c);omega⟩
    ·intro i x j z c;have:=jI (Ad.1 z).1 (y x j c);rw[Aw,cell_of_heap H,Ag (by omega)];rfl
    ·intro i x j v z c;have Z:=(Ad.1 c).1;have:=jI (Ad.1 z).1 (y x j Z);have ha:d[i*k.sz+j]? =some (d[i*k.sz+j]'(by omega)):=Ag _;rw[ha];exact(oV (ρ':=g.ρ) (N':=p.hp.length) c (h9 i x j v _ z c ha)).up u
   have C:OwnOK f w o (.sl k .own xs) (.slice (some ⟨b,0,none⟩) xs.length cap):=by
    refine⟨N,⟨d,e,fz,H,by simpa using h6,h7⟩,?_⟩;intro j j1 j2;simp only[Aw] at j1 j2;refine⟨?_,by have:=h0 j (by omega);simp only[Ci,H,Cz,decide_eq_false_iff_not];omega⟩;rintro(J|⟨_,J⟩);·exact h8 j J
    ·omega
   obtain⟨q1,q2,q3,q4⟩:=SR.fill (g:=f) (s:=p) k1 Y (v:=.sl k .own xs) rfl rfl B C;rw[adr M rfl R] at q1 q2;refine⟨f,q1,p2.trans (FR.trans (g₁:=f) (hp₁:=p.hp) (w₁:=w) ?_ q2)⟩;refine⟨rfl,rfl,rfl,rfl,Ao _,λ_ _ _ _=>rfl,u,?_,λ_ _ _ L=>L,λ_ cs h=>.inl ⟨cs,h⟩⟩;rintro t j _ _ L (c|⟨rfl,_⟩);·exact c
   ·rw[N] at L;simp at L
 ·obtain rfl:s=s':=by simpa using G
  exact⟨g,h,FR.refl _ _ _⟩
theorem sm(h:SR g s w a){x:io}(b:x.step s=some (true,s')):∃g',SR g' s' w a∧FR g s.hp w g' s'.hp w:=by
 cases x with
 |opn o=>exact aae h b
 |cls o=>exact ae9 h b
 |fz o=>exact afZ h b
 |hol n=>exact ae7 h b
variable{w':World}{P:Program}{Γ:ao}{m:Oper}{next:Act->World->Prop}{Q:Exit->Act->World->Prop}
end
def ac.slots:ac->List Nat
 | .t n| .tk n=>[n]
 | .c _=>[]
def ac.takes:ac->List Nat
 | .tk n=>[n]
 |_=>[]
def od:Option ac->List Nat
 |some x=>x.slots
 |none=>[]
def IOp.rd:IOp->List Nat
 | .mov _ x| .un _ _ x| .lens _ x| .lenl _ x| .box _ x| .fad _ _ x| .ld _ _ _ _ x| .ext _ _ x| .nck _ x| .boxe _ x| .lde _ _ _ x=>x.slots
 | .frz _ r _ v=>r::v.slots
 | .pick _ c x y=>c.slots++(x.slots++y.slots)
 | .bin _ _ x y| .idx _ x y| .ixa _ _ x y| .apo _ _ x y| .st _ _ x y| .app _ _ x y| .mx _ _ x y| .beq _ _ x y=>x.slots++y.slots
 | .subs _ x b d=>x.slots++(od b++od d)
 | .bsl _ _ a _=>a.flatMap ac.slots
 | .bld _ _ a=>a.flatMap λp=>p.2.2.slots
 | .alr _ _=>[]
 | .call _ _ avs| .mkf _ _ avs=>avs.flatMap ac.slots
 | .dcall _ _ x avs=>x.slots++avs.flatMap ac.slots
 | .mku _ _ x| .snil _ x| .lnw _ x| .ldw _ _ _ x=>x.slots
 | .apu _ _ x y| .ixw _ _ x y| .stw _ _ x y=>x.slots++y.slots
 | .blu _ _=>[]
 | .mkm _ _=>[]
 | .mget _ _ _ x y| .ment _ _ x y=>x.slots++y.slots
 | .mput _ _ x y z| .mest _ x y z=>x.slots++(y.slots++z.slots)
def IOp.wr(o:IOp):List Nat:=
 o.dst.toList++(match o with| .mov _ x| .app _ _ x _| .st _ _ _ x=>x.takes| .frz _ r _ _=>[r]| .apu _ _ x _| .apo _ _ x _=>x.takes|_=>[])
def IOp.cls(imp:List Nat):IOp->Nat
 | .ld _ _ _ false _| .ldw .. | .mget ..=>1
 | .ld _ _ _ true _| .st .. | .box .. | .dcall .. | .stw .. | .apo .. | .mkm .. | .mput .. | .ment .. | .mest ..=>2
 | .call _ f _=>if imp.contains f then 2 else 0
 |_=>0
def uY(hp:List al)(q:List (Nat×al)):List al:=q.foldl (λh p=>h.set p.1 p.2) hp
structure cz(Γ:ao)(imp:List Nat):Prop where
 pure:∀f avs hp,imp.contains f=false->Γ f avs hp=(Γ f avs []).map λx=>(x.1,x.2.1,hp)
 loc:∀f vs hp c v hp',imp.contains (f+2000000)=true->Γ f vs hp=some (c,v,hp')->∃q:List (Nat×al),(∀p∈q,p.1∈vV (dO vs))∧hp'=uY hp q∧
  ∀hp2:List al,hp2.length=hp.length->(∀i∈vV (lH vs),hp2[i]? =hp[i]?)->Γ f vs hp2=some (c,v,uY hp2 q)
theorem wH(q:List (Nat×al)):∀hp:List al,(uY hp q).length=hp.length:=by
 induction q with
 |nil=>intro hp;rfl
 |cons p q a=>intro hp;show (uY (hp.set p.1 p.2) q).length=_;rw[a];simp
theorem abG{q:List (Nat×al)}{i:Nat}:∀{hp:List al},(∀p∈q,p.1≠i)->(uY hp q)[i]? =hp[i]?:=by
 induction q with
 |nil=>intro hp _;rfl
 |cons p q b=>intro hp h;show (uY (hp.set p.1 p.2) q)[i]? =_;rw[b (λx a=>h x (AH _ a)),BG (h p (AD ..))]
theorem rJ{hp a:List al}{i:Nat}(h:a[i]? =hp[i]?):a.getD i none=hp.getD i none:=by rw[Al,Al,h]
theorem rK{l:List Nat}{i:Nat}(h:i∈l):i∈vV l:=AJ.2 ⟨i,h,A6.2 (CC i)⟩
theorem tB:∀{vs:List V}{i:Nat},i∈dO vs->i∈lH vs
 | [],_,h=>by simp[dO] at h
 |v::vs,i,h=>by
  have e:lH (v::vs)=v.cellsA.flatMap V.id1++lH vs:=by simp[lH]
  rw[e,AB];unfold dO at h;split at h;·rename_i a;cases a
  ·rename_i a;cases a;rcases AT.1 h with rfl|h;·left;simp[V.cellsA,V.id1]
   ·exact .inr (tB h)
  ·rename_i a;cases a;exact .inr (tB h)
def St.upd(s:St)(l:List (Nat×V)):St:={s with env:=l.foldl (λe p=>e.set p.1 p.2) s.env}
section
variable{Γ:ao}{imp:List Nat}
theorem bG{s t:St}{x:ac}(h:∀n∈x.slots,t.get n=s.get n):x.ev t=x.ev s:=by
 cases x with
 |t n=>simp only[ac.ev];rw[h n (by simp[ac.slots])]
 |tk n=>exact h n (by simp[ac.slots])
 |c v=>rfl
theorem uZ{s t:St}{x:Option ac}(h:∀n∈od x,t.get n=s.get n):bF t x=bF s x:=by
 cases x with
 |none=>rfl
 |some x=>simp only[bF];rw[bG h]
theorem bH(s:St)(d:Option Nat)(v:V):s.setO d v=s.upd (d.toList.map λd=>(d,v)):=by cases d<;>rfl
theorem fg(s:St)(x:ac):x.after s=s.upd (x.takes.map λn=>(n,disown (s.get n))):=by cases x<;>rfl
theorem iR(s:St)(l m:List (Nat×V)):(s.upd l).upd m=s.upd (l++m):=by simp[St.upd,Ei]
theorem vX{s:St}:∀{l:List (Nat×V)}{n:Nat},(∀p∈l,p.1≠n)->(s.upd l).get n=s.get n:=by
 intro l;induction l generalizing s with
 |nil=>intro n h;rfl
 |cons p l b=>intro n h;have:s.upd (p::l)=(s.set p.1 p.2).upd l:=rfl;rw[this,b (λq a=>h q (AH _ a))];simp[St.get,St.set,As,At,h p (AD ..)]
def agV(Γ:ao)(imp:List Nat)(o:IOp)(s:St)(c:Bool)(s':St):Prop:=
 ∃u:List (Nat×V),(∀p∈u,p.1∈o.wr)∧s'=s.upd u∧∀t:St,(∀n∈o.rd,t.get n=s.get n)->(o.cls imp=1->t.hp=s.hp)->step Γ o t=some (c,t.upd u)
theorem a7{o:IOp}{s s':St}{c:Bool}(E:Option (Bool×V))(a:∀t:St,(∀n∈o.rd,t.get n=s.get n)->(o.cls imp=1->t.hp=s.hp)->step Γ o t=E.map λp=>(p.1,t.setO o.dst p.2))
  (h:step Γ o s=some (c,s')):agV Γ imp o s c s':=by
 rw[a s (λ_ _=>rfl) (λ_=>rfl)] at h;cases E with
 |none=>simp at h
 |some p=>
  simp only[Bt,Ab,Ae] at h;obtain⟨rfl,rfl⟩:=h;refine⟨o.dst.toList.map λd=>(d,p.2),?_,bH _ _ _,?_⟩;·intro q b;simp only[Av] at b;obtain⟨d,f,rfl⟩:=b;simp[IOp.wr,f]
  ·intro t g e;rw[a t g e,<-bH];rfl
theorem ad6(hP:cz Γ imp){o:IOp}(C:o.cls imp<=1){s:St}{c:Bool}{s':St}(h:step Γ o s=some (c,s')):
  agV Γ imp o s c s':=by
 have w:∀{x:ac}{l:List Nat}{t:St},(∀n∈l,t.get n=s.get n)->(∀n∈x.slots,n∈l)->x.ev t=x.ev s:=λR N=>bG λn z=>R n (N n z)
 have s2:∀{x:Option ac}{l:List Nat}{t:St},(∀n∈l,t.get n=s.get n)->(∀n∈od x,n∈l)->bF t x=bF s x:=λR N=>uZ λn z=>R n (N n z)
 cases o with
 |mov d x=>
  obtain⟨rfl,rfl⟩:true=c∧_=s':=by simpa [step] using h
  refine⟨x.takes.map (λn=>(n,disown (s.get n)))++[(d,x.ev s)],?_,?_,?_⟩
  ·intro p hp;simp only[AB,Av,Aq] at hp;rcases hp with⟨n,z,rfl⟩|rfl;·simp[IOp.wr,IOp.dst,z]
   ·simp[IOp.wr,IOp.dst]
  ·rw[<-iR,<-fg];rfl
  ·intro t g _;have e:=bG (x:=x) g;have E:x.takes.map (λn=>(n,disown (t.get n)))=x.takes.map (λn=>(n,disown (s.get n))):=by
    cases x with
    |tk n=>simp only[ac.takes,List.map];rw[g n (by simp[IOp.rd,ac.slots])]
    |_=>rfl
   simp only[step,e];rw[fg,E,<-iR];rfl
 |app d k x y=>
  simp only[step] at h;split at h
  ·rename_i k' ox l M ow m B Y;split at h
   ·rename_i L;split at h
    ·rename_i G;simp only[Ab,Ae] at h;obtain⟨rfl,rfl⟩:=h;refine⟨x.takes.map (λn=>(n,disown (s.get n)))++[(d,.sl k' .own (l++(G▸m)))],?_,?_,?_⟩
     ·intro p hp;simp only[AB,Av,Aq] at hp;rcases hp with⟨n,z,rfl⟩|rfl;·simp[IOp.wr,IOp.dst,z]
      ·simp[IOp.wr,IOp.dst]
     ·rw[<-iR,<-fg];rfl
     ·intro t g _;have e1:=bG (x:=x) (λn z=>g n (by simp[IOp.rd,z]));have P:=bG (x:=y) (λn z=>g n (by simp[IOp.rd,z]));have E:x.takes.map (λn=>(n,disown (t.get n)))=x.takes.map (λn=>(n,disown (s.get n))):=by
       cases x with
       |tk n=>simp only[ac.takes,List.map];rw[g n (by simp[IOp.rd,ac.slots])]
       |_=>rfl
      simp only[step,e1,P,B,Y,L,G,dif_pos,if_true];rw[fg,E,<-iR];rfl
    ·simp at h
   ·simp at h
  ·simp at h
 |apu d k x y=>
  simp only[step] at h;split at h
  ·rename_i k' l M ow m B Y;split at h
   ·rename_i L;split at h
    ·rename_i G;simp only[Ab,Ae] at h;obtain⟨rfl,rfl⟩:=h;refine⟨x.takes.map (λn=>(n,disown (s.get n)))++[(d,.ul k' (l++(G▸m)))],?_,?_,?_⟩
     ·intro p hp;simp only[AB,Av,Aq] at hp;rcases hp with⟨n,z,rfl⟩|rfl;·simp[IOp.wr,IOp.dst,z]
      ·simp[IOp.wr,IOp.dst]
     ·rw[<-iR,<-fg];rfl
     ·intro t g _;have e1:=bG (x:=x) (λn z=>g n (by simp[IOp.rd,z]));have P:=bG (x:=y) (λn z=>g n (by simp[IOp.rd,z]));have E:x.takes.map (λn=>(n,disown (t.get n)))=x.takes.map (λn=>(n,disown (s.get n))):=by
       cases x with
       |tk n=>simp only[ac.takes,List.map];rw[g n (by simp[IOp.rd,ac.slots])]
       |_=>rfl
      simp only[step,e1,P,B,Y,L,G,dif_pos,if_true];rw[fg,E,<-iR];rfl
    ·simp at h
   ·simp at h
  ·simp at h
 |apo=>simp[IOp.cls] at C
 |mkm=>simp[IOp.cls] at C
 |mput=>simp[IOp.cls] at C
 |ment=>simp[IOp.cls] at C
 |mest=>simp[IOp.cls] at C
 |mget d k ok x y=>
  refine a7 (match x.ev s with
   | .nilm=>(k.dkey (y.ev s)).map λ_=>(true,uR k ok none)
   | .mr id=>(match s.mapO id with
     |some ⟨k',es⟩=>if k'=k then (k'.dkey (y.ev s)).map λkey=>(true,uR k' ok (cT es key)) else none
     |none=>none)
   |_=>none) (λt g H=>?_) h
  have j:x.ev t=x.ev s:=w g (by simp+contextual [IOp.rd]);have e1:y.ev t=y.ev s:=w g (by simp+contextual [IOp.rd]);have E:∀id,t.mapO id=s.mapO id:=λid=>by simp only[St.mapO];rw[H rfl]
  simp only[step,j,e1,E,IOp.dst,St.setO];generalize x.ev s=xe;cases xe with
  |nilm=>simp only[CS];rfl
  |mr id=>
   simp only[];cases s.mapO id with
   |none=>rfl
   |some p=>
    obtain⟨k',es⟩:=p;simp only[];split;·simp only[CS];rfl
    ·rfl
  |_=>rfl
 |snil d x=>refine a7 (match x.ev s with| .sl _ _ xs=>some (decide (0<xs.length),.bool false)|_=>none) (λt g _=>?_) h;have j:x.ev t=x.ev s:=w g (by simp+contextual [IOp.rd]);simp only[step,j,IOp.dst,St.setO];split<;>first|rfl|(simp_all;done)
 |blu d k=>refine a7 (some (true,.ul k [])) (λt g _=>?_) h;simp only[step,IOp.dst,St.setO,Bt]
 |mku d k x=>refine a7 (match x.ev s with| .int _ n=>some (decide (0<=n)&&decide (n*k.bytes<=cd),.ul k (Bg n.toNat (am k)))|_=>none) (λt g _=>?_) h;have j:x.ev t=x.ev s:=w g (by simp+contextual [IOp.rd]);simp only[step,j,IOp.dst,St.setO];split<;>first|rfl|(simp_all;done)
 |lnw d x=>refine a7 (match x.ev s with| .hd n=>some (true,.int .i64 n)| .sw _ _ n=>some (true,.int .i64 n)|_=>none) (λt g _=>?_) h;have j:x.ev t=x.ev s:=w g (by simp+contextual [IOp.rd]);simp only[step,j,IOp.dst,St.setO];split<;>first|rfl|(simp_all;done)
 |ixw d k x i=>
  refine a7 (match x.ev s,i.ev s with| .sw k' id n,.int _ i=>if k'=k then some (decide (0<=i)&&decide (i<n),.wp id k' i.toNat 0) else none|_,_=>none) (λt g _=>?_) h;have j:x.ev t=x.ev s:=w g (by simp+contextual [IOp.rd]);have e1:i.ev t=i.ev s:=w g (by simp+contextual [IOp.rd]);simp only[step,j,e1,IOp.dst,St.setO];split;·split<;>first|rfl|(simp_all;done)
  ·first|rfl|(simp_all;done)
 |ldw d n agg x=>
  refine a7 (match x.ev s with
   | .wp id k i o=>(match s.rowW id with
     |some ⟨k',xs⟩=>if k'=k∧o+n<=k'.sz then some (decide (i<xs.length),disown (a6 agg (((enc k' (xs.getD i (am k'))).drop o).take n))) else none
     |none=>none)
   |_=>none) (λt g H=>?_) h
  have j:x.ev t=x.ev s:=w g (by simp+contextual [IOp.rd]);have e1:∀id,t.rowW id=s.rowW id:=λid=>by simp only[St.rowW];rw[H rfl]
  simp only[step,j,e1,IOp.dst,St.setO];split
  ·rename_i id k i o B;simp only[B];cases Z:s.rowW id with
   |none=>rfl
   |some p=>obtain⟨k',xs⟩:=p;simp only;split<;>rfl
  ·rename_i B;split;·rename_i Q;exact absurd Q (B _ _ _ _)
   ·rfl
 |box=>simp[IOp.cls] at C
 |st=>simp[IOp.cls] at C
 |stw d n x v=>simp[IOp.cls] at C
 |dcall=>simp[IOp.cls] at C
 |alr d n=>refine a7 (some (true,.raw n)) (λt g _=>?_) h;simp only[step,IOp.dst,St.setO,Bt]
 |lde d n agg x=>
  refine a7 (match x.ev s with| .ea cs=>if n<=cs.length then some (true,disown (a6 agg (cs.take n))) else none|_=>none) (λt g _=>?_) h;have j:x.ev t=x.ev s:=w g (by simp+contextual [IOp.rd]);simp only[step,j,IOp.dst,St.setO];split;·split<;>first|rfl|(simp_all;done)
  ·first|rfl|(simp_all;done)
 |frz d r n v=>
  simp only[step] at h;split at h
  ·rename_i m Z;split at h
   ·rename_i hc;simp only[Ab,Ae] at h;obtain⟨rfl,rfl⟩:=h;refine⟨[(r,.ea ((v.ev s).cells.map disown))]++(d.toList.map λd=>(d,.undef)),?_,?_,?_⟩
    ·intro p hp;simp only[AB,Av,Aq] at hp;rcases hp with rfl|⟨m,hm,rfl⟩
     ·simp[IOp.wr]
     ·simp[IOp.wr,IOp.dst,hm]
    ·rw[<-iR,<-bH];rfl
    ·intro t g _;have e1:=bG (x:=v) (λn z=>g n (by simp[IOp.rd,z]));have E:t.get r=s.get r:=g r (by simp[IOp.rd]);simp only[step,e1,E,Z,hc,if_true];rw[<-iR,<-bH];rfl
   ·simp at h
  ·simp at h
 |boxe d x=>
  refine a7 (match x.ev s with| .agg cs=>some (true,.ea (cs.map disown))|v=>if v.one then some (true,.ea [disown v]) else none) (λt g _=>?_) h;have j:x.ev t=x.ev s:=w g (by simp+contextual [IOp.rd]);simp only[step,j,IOp.dst,St.setO];split;·first|rfl|(simp_all;done)
  ·split<;>first|rfl|(simp_all;done)
 |mkf d f F=>
  refine a7 (some (true,.fn f (F.map λx=>disown (x.ev s)))) (λt g _=>?_) h;have e:(F.map λx=>disown (x.ev t))=F.map λx=>disown (x.ev s):=AP λx B=>congrArg disown (w g (λn z=>by simp only[IOp.rd,AJ];exact⟨x,B,z⟩))
  simp only[step,e,IOp.dst,St.setO,Bt]
 |pick d W x y=>refine a7 (match W.ev s with| .bool t=>some (true,aa6 t (disown (x.ev s)) (disown (y.ev s)))|_=>none) (λt g _=>?_) h;have j:W.ev t=W.ev s:=w g (by simp+contextual [IOp.rd]);have e1:x.ev t=x.ev s:=w g (by simp+contextual [IOp.rd]);have E:y.ev t=y.ev s:=w g (by simp+contextual [IOp.rd]);simp only[step,j,e1,E,IOp.dst,St.setO];split<;>first|rfl|(simp_all;done)
 |bin d o x y=>refine a7 (pV o (x.ev s) (y.ev s)) (λt g _=>?_) h;have j:x.ev t=x.ev s:=w g (by simp+contextual [IOp.rd]);have e1:y.ev t=y.ev s:=w g (by simp+contextual [IOp.rd]);simp only[step,j,e1,IOp.dst,St.setO]
 |un d o x=>refine a7 ((unV o (x.ev s)).map λv=>(true,v)) (λt g _=>?_) h;have j:x.ev t=x.ev s:=w g (by simp+contextual [IOp.rd]);simp only[step,j,IOp.dst,St.setO];cases unV o (x.ev s)<;>rfl
 |lens d x=>refine a7 (match x.ev s with| .str l=>some (true,.int .i64 l.length)|_=>none) (λt g _=>?_) h;have j:x.ev t=x.ev s:=w g (by simp+contextual [IOp.rd]);simp only[step,j,IOp.dst,St.setO];split<;>first|rfl|(simp_all;done)
 |lenl d x=>refine a7 (match x.ev s with| .sl _ _ l=>some (true,.int .i64 l.length)|_=>none) (λt g _=>?_) h;have j:x.ev t=x.ev s:=w g (by simp+contextual [IOp.rd]);simp only[step,j,IOp.dst,St.setO];split<;>first|rfl|(simp_all;done)
 |idx d x i=>refine a7 (match x.ev s,i.ev s with| .str l,.int _ i=>some (decide (0<=i)&&decide (i<l.length),.int .u8 (l.getD i.toNat 0).toNat)|_,_=>none) (λt g _=>?_) h;have j:x.ev t=x.ev s:=w g (by simp+contextual [IOp.rd]);have e1:i.ev t=i.ev s:=w g (by simp+contextual [IOp.rd]);simp only[step,j,e1,IOp.dst,St.setO];split<;>first|rfl|(simp_all;done)
 |ixa d k x i=>
  refine a7 (match x.ev s,i.ev s with| .sl k' _ l,.int _ i=>if k'=k then some (decide (0<=i)&&decide (i<l.length),.ea (enc k' (l.getD i.toNat (am k')))) else none|_,_=>none) (λt g _=>?_) h;have j:x.ev t=x.ev s:=w g (by simp+contextual [IOp.rd]);have e1:i.ev t=i.ev s:=w g (by simp+contextual [IOp.rd]);simp only[step,j,e1,IOp.dst,St.setO];split;·split<;>first|rfl|(simp_all;done)
  ·first|rfl|(simp_all;done)
 |subs d x J O=>
  refine a7 (match x.ev s with| .str l=>(j9 l.length (bF s J) (bF s O)).map λ(c,a,b)=>(c,.str ((l.take b).drop a))|_=>none) (λt g _=>?_) h;have j:x.ev t=x.ev s:=w g (by simp+contextual [IOp.rd]);have f0:bF t J=bF s J:=s2 g (by simp+contextual [IOp.rd]);have f1:bF t O=bF s O:=s2 g (by simp+contextual [IOp.rd]);simp only[step,j,f0,f1,IOp.dst,St.setO];split;·rename_i l hl;simp only[hl,CS];rfl
  ·first|rfl|(simp_all;done)
 |bsl d k F u=>
  refine a7 ((sL k (F.map (·.ev s))).map λl=>(true,.sl k (cond u (.may true) .own) l)) (λt g _=>?_) h;have e:F.map (·.ev t)=F.map (·.ev s):=AP λx B=>w g (λn z=>by simp only[IOp.rd,AJ];exact⟨x,B,z⟩)
  simp only[step,e,IOp.dst,St.setO,CS];rfl
 |bld d zero F=>
  refine a7 ((lay zero (F.map λ(A,n,x)=>(A,n,x.ev s))).map λcs=>(true,.agg cs)) (λt g _=>?_) h;have e:(F.map λ(A,n,x)=>(A,n,x.ev t))=F.map λ(A,n,x)=>(A,n,x.ev s):=AP λx B=>by
   have:=w (x:=x.2.2) g (λn z=>by simp only[IOp.rd,AJ];exact⟨x,B,z⟩);show (x.1,x.2.1,_)=(x.1,x.2.1,_)
   rw[this]
  simp only[step,e,IOp.dst,St.setO,CS];rfl
 |fad d A x=>refine a7 (match x.ev s with| .ea cs=>some (true,.ea (cs.drop A))| .ptr id o=>some (true,.ptr id (o+A))|_=>none) (λt g _=>?_) h;have j:x.ev t=x.ev s:=w g (by simp+contextual [IOp.rd]);simp only[step,j,IOp.dst,St.setO];split<;>first|rfl|(simp_all;done)
 |ld d n agg I x=>
  cases I with
  |true=>simp[IOp.cls] at C
  |false=>
   refine a7 (match x.ev s with| .ea cs=>if n<=cs.length then some (true,disown (a6 agg (cs.take n))) else none| .ptr id o=>(match s.obj id with|some cs=>if o+n<=cs.length then some (true,disown (a6 agg ((cs.drop o).take n))) else none|none=>none)|_=>none) (λt g H=>?_) h;have j:x.ev t=x.ev s:=w g (by simp+contextual [IOp.rd]);have e1:∀id,t.obj id=s.obj id:=λid=>by simp only[St.obj];rw[H rfl]
   simp only[step,j,e1,IOp.dst,St.setO];split;·split<;>first|rfl|(simp_all;done)
   ·split;·split<;>first|rfl|(simp_all;done)
    ·first|rfl|(simp_all;done)
   ·first|rfl|(simp_all;done)
 |ext d i x=>
  refine a7 (match x.ev s with| .tup vs=>if i<vs.length then some (true,disown (vs.getD i .undef)) else none|_=>none) (λt g _=>?_) h;have j:x.ev t=x.ev s:=w g (by simp+contextual [IOp.rd]);simp only[step,j,IOp.dst,St.setO];split;·split<;>first|rfl|(simp_all;done)
  ·first|rfl|(simp_all;done)
 |nck d x=>refine a7 (match x.ev s with| .ptr id o=>some (true,.ptr id o)| .ea cs=>some (true,.ea cs)|_=>none) (λt g _=>?_) h;have j:x.ev t=x.ev s:=w g (by simp+contextual [IOp.rd]);simp only[step,j,IOp.dst];split<;>first|rfl|(simp_all;done)
 |beq d X x y=>refine a7 (match x.ev s,y.ev s with| .bool p,.bool q=>some (true,.bool (cond X (!(p==q)) (p==q)))|_,_=>none) (λt g _=>?_) h;have j:x.ev t=x.ev s:=w g (by simp+contextual [IOp.rd]);have e1:y.ev t=y.ev s:=w g (by simp+contextual [IOp.rd]);simp only[step,j,e1,IOp.dst,St.setO];split<;>first|rfl|(simp_all;done)
 |mx d mn x y=>
  refine a7 (match x.ev s,y.ev s with| .int k a,.int k' b=>if k=k' then some (true,.int k (if mn then (if b<a then b else a) else (if a<b then b else a))) else none|_,_=>none) (λt g _=>?_) h;have j:x.ev t=x.ev s:=w g (by simp+contextual [IOp.rd]);have e1:y.ev t=y.ev s:=w g (by simp+contextual [IOp.rd]);simp only[step,j,e1,IOp.dst,St.setO];split;·split<;>first|rfl|(simp_all;done)
  ·first|rfl|(simp_all;done)
 |call d f avs=>
  have S:imp.contains f=false:=by
   simp only[IOp.cls] at C;split at C;·omega
   ·rename_i S;simpa using S
  refine a7 ((Γ f (avs.map λx=>disown (x.ev s)) []).map λx=>(x.1,x.2.1)) (λt g _=>?_) h;have e:(avs.map λx=>disown (x.ev t))=avs.map λx=>disown (x.ev s):=AP λx B=>by rw[w (x:=x) g (λn z=>by simp only[IOp.rd,AJ];exact⟨x,B,z⟩)]
  simp only[step,e,IOp.dst];rw[hP.pure _ _ _ S];cases Γ f (avs.map λx=>disown (x.ev s)) [] with
  |none=>rfl
  |some p=>rfl
def St.put(s:St)(u:List (Nat×V))(q:Option (List al)):St:={s.upd u with hp:=q.getD s.hp}
theorem abH(Z:cz Γ imp){o:IOp}(Q:∀d k x y,o≠.apo d k x y){s:St}{c:Bool}{s':St}(h:step Γ o s=some (c,s')):
  ∃(u:List (Nat×V))(q:Option (List al)),(∀p∈u,p.1∈o.wr)∧(o.cls imp<=1->q=none)∧s'=s.put u q∧
   ∀t:St,(∀n∈o.rd,t.get n=s.get n)->(1<=o.cls imp->t.hp=s.hp)->step Γ o t=some (c,t.put u q):=by
 have w:∀{x:ac}{l:List Nat}{t:St},(∀n∈l,t.get n=s.get n)->(∀n∈x.slots,n∈l)->x.ev t=x.ev s:=λR W=>bG λn G=>R n (W n G)
 by_cases O:o.cls imp<=1;·obtain⟨u,R,W,h3⟩:=ad6 Z O h;exact⟨u,none,R,λ_=>rfl,W,λt a g=>h3 t a (λe=>g (by omega))⟩
 ·have b:∀{q:Option (List al)},o.cls imp<=1->q=none:=λh=>absurd h O
  cases o with
  |apo d k x y=>exact absurd rfl (Q d k x y)
  |stw d n x v=>
   simp only[step] at h;split at h
   ·rename_i id k i o j;cases B:s.rowW id with
    |none=>rw[B] at h;simp at h
    |some p=>
     obtain⟨k',xs⟩:=p;rw[B] at h;simp only at h;split at h
     ·rename_i A;cases S:pA k' (xs.getD i (am k')) o (v.ev s).cells with
      |none=>rw[S] at h;simp at h
      |some X=>
       rw[S] at h;simp only[Ab,Ae] at h;obtain⟨rfl,rfl⟩:=h;refine⟨d.toList.map (λd=>(d,V.undef)),some (s.hp.set id (some [.rw k' (xs.set i X)])),?_,b,?_,?_⟩;·intro p hp;simp only[Av] at hp;obtain⟨m,C,rfl⟩:=hp;simp[IOp.wr,IOp.dst,C]
       ·simp only[St.put,<-bH];cases d<;>rfl
       ·intro t a g;have e:=g (by simp[IOp.cls]);have r:x.ev t=x.ev s:=w a (by simp+contextual [IOp.rd]);have e1:v.ev t=v.ev s:=w a (by simp+contextual [IOp.rd]);have E:t.rowW id=some ⟨k',xs⟩:=by rw[<-B];simp only[St.rowW];rw[e]
        simp only[step,r,e1,j,E];rw[if_pos A,S,<-e];simp only[St.put,<-bH];cases d<;>rfl
     ·simp at h
   ·simp at h
  |mkm d k=>
   obtain⟨rfl,rfl⟩:true=c∧_=s':=by simpa [step] using h
   refine⟨[(d,.mr s.hp.length)],some (s.hp++[some [.mp k []]]),by simp[IOp.wr,IOp.dst],b,rfl,λt a g=>?_⟩;have e:=g (by simp[IOp.cls]);simp only[step,e];rfl
  |mput d k x y z=>
   simp only[step] at h;split at h
   ·rename_i id j;split at h
    ·rename_i k' es B;split at h
     ·rename_i H;split at h
      ·rename_i key v J Y;simp only[Ab,Ae] at h;obtain⟨rfl,rfl⟩:=h;refine⟨d.toList.map (λd=>(d,V.undef)),some (s.hp.set id (some [.mp k' (eJ es key v)])),?_,b,?_,?_⟩;·intro p hp;simp only[Av] at hp;obtain⟨m,C,rfl⟩:=hp;simp[IOp.wr,IOp.dst,C]
       ·simp only[St.put,<-bH];cases d<;>rfl
       ·intro t a g;have e:=g (by simp[IOp.cls]);have r:x.ev t=x.ev s:=w a (by simp+contextual [IOp.rd]);have e1:y.ev t=y.ev s:=w a (by simp+contextual [IOp.rd]);have L:z.ev t=z.ev s:=w a (by simp+contextual [IOp.rd]);have E:t.mapO id=s.mapO id:=by simp only[St.mapO];rw[e]
        simp only[step,r,e1,L,E,j,B,J,Y];rw[if_pos H,<-e];simp only[St.put,<-bH];cases d<;>rfl
      ·simp at h
     ·simp at h
    ·simp at h
   ·simp at h
  |ment d k x y=>
   simp only[step] at h;split at h
   ·rename_i id j;split at h
    ·rename_i k' es B;split at h
     ·rename_i H;split at h
      ·rename_i key J;simp only[Ab,Ae] at h;obtain⟨rfl,rfl⟩:=h;refine⟨[(d,.tup [k'.val ((cT es key).getD k'.zero),.int .i64 (eC es key)])],some (s.hp.set id (some [.mp k' (eJ es key ((cT es key).getD k'.zero))])),by simp[IOp.wr,IOp.dst],b,rfl,λt a g=>?_⟩;have e:=g (by simp[IOp.cls]);have r:x.ev t=x.ev s:=w a (by simp+contextual [IOp.rd]);have e1:y.ev t=y.ev s:=w a (by simp+contextual [IOp.rd]);have E:t.mapO id=s.mapO id:=by simp only[St.mapO];rw[e]
       simp only[step,r,e1,E,j,B,J];rw[if_pos H,<-e];rfl
      ·simp at h
     ·simp at h
    ·simp at h
   ·simp at h
  |mest d x i v=>
   simp only[step] at h;split at h
   ·rename_i id q n j hi;split at h
    ·rename_i k es B;split at h
     ·rename_i y J;simp only[Ab,Ae] at h;obtain⟨rfl,rfl⟩:=h;refine⟨d.toList.map (λd=>(d,V.undef)),some (s.hp.set id (some [.mp k (uQ es n.toNat y)])),?_,b,?_,?_⟩;·intro p hp;simp only[Av] at hp;obtain⟨m,C,rfl⟩:=hp;simp[IOp.wr,IOp.dst,C]
      ·simp only[St.put,<-bH];cases d<;>rfl
      ·intro t a g;have e:=g (by simp[IOp.cls]);have r:x.ev t=x.ev s:=w a (by simp+contextual [IOp.rd]);have e1:i.ev t=i.ev s:=w a (by simp+contextual [IOp.rd]);have L:v.ev t=v.ev s:=w a (by simp+contextual [IOp.rd]);have E:t.mapO id=s.mapO id:=by simp only[St.mapO];rw[e]
       simp only[step,r,e1,L,E,j,hi,B,J];rw[<-e];simp only[St.put,<-bH];cases d<;>rfl
     ·simp at h
    ·simp at h
   ·simp at h
  |box d x=>
   have r:∀t:St,(∀n∈(IOp.box d x).rd,t.get n=s.get n)->x.ev t=x.ev s:=λt a=>w a (by simp+contextual [IOp.rd])
   simp only[step] at h;split at h;·rename_i cs j;simp only[Ab,Ae] at h;obtain⟨rfl,rfl⟩:=h;refine⟨[(d,.ptr s.hp.length 0)],some (s.hp++[some cs]),by simp[IOp.wr,IOp.dst],b,rfl,λt a g=>?_⟩;have e:=g (by simp[IOp.cls]);simp only[step,r t a,j,e];rfl
   ·rename_i j;split at h;·rename_i N;simp only[Ab,Ae] at h;obtain⟨rfl,rfl⟩:=h;refine⟨[(d,.ptr s.hp.length 0)],some (s.hp++[some [disown (x.ev s)]]),by simp[IOp.wr,IOp.dst],b,rfl,λt a g=>?_⟩;have e:=g (by simp[IOp.cls]);simp only[step,r t a,e];rw[if_pos N];rfl
    ·simp at h
  |st d n x v=>
   simp only[step] at h;split at h
   ·rename_i id o j;split at h
    ·rename_i cs B;split at h
     ·rename_i A;simp only[Ab,Ae] at h;obtain⟨rfl,rfl⟩:=h;refine⟨v.takes.map (λn=>(n,disown (s.get n)))++d.toList.map (λd=>(d,V.undef)),some (s.hp.set id (some (cs.take o++(v.ev s).cells++cs.drop (o+n)))),?_,b,?_,?_⟩
      ·intro p hp;simp only[AB,Av] at hp;rcases hp with⟨m,C,rfl⟩|⟨m,C,rfl⟩
       ·simp[IOp.wr,IOp.dst,C]
       ·simp[IOp.wr,IOp.dst,C]
      ·simp only[St.put,<-iR,<-fg,<-bH];cases d<;>cases v<;>rfl
      ·intro t a g;have e:=g (by simp[IOp.cls]);have r:x.ev t=x.ev s:=w a (by simp+contextual [IOp.rd]);have e1:v.ev t=v.ev s:=w a (by simp+contextual [IOp.rd]);have E:t.obj id=s.obj id:=by simp only[St.obj];rw[e]
       have L:v.takes.map (λn=>(n,disown (t.get n)))=v.takes.map (λn=>(n,disown (s.get n))):=by
        cases v with
        |tk n=>simp only[ac.takes,List.map];rw[a n (by simp[IOp.rd,ac.slots])]
        |_=>rfl
       simp only[step,r,e1,E,j,B];rw[if_pos A,<-L,<-e];simp only[St.put,<-iR,<-fg,<-bH];cases d<;>cases v<;>rfl
     ·simp at h
    ·simp at h
   ·simp at h
  |ld d n agg M x=>
   cases M with
   |false=>simp[IOp.cls] at O
   |true=>
    have r:∀t:St,(∀m∈(IOp.ld d n agg true x).rd,t.get m=s.get m)->x.ev t=x.ev s:=λt a=>w a (by simp+contextual [IOp.rd])
    simp only[step] at h;split at h
    ·rename_i cs j;split at h;·rename_i F;simp only[Ab,Ae] at h;obtain⟨rfl,rfl⟩:=h;refine⟨[(d,_)],none,by simp[IOp.wr,IOp.dst],b,rfl,λt a g=>?_⟩;simp only[step,r t a,j];rw[if_pos F];rfl
     ·simp at h
    ·rename_i id o j;split at h
     ·rename_i cs B;split at h
      ·rename_i F;simp only[if_true] at h;cases I:pU (cs.getD o .undef) with
       |false=>rw[I] at h;simp at h
       |true=>
       rw[I] at h;simp only[if_true,Ab,Ae] at h;obtain⟨rfl,rfl⟩:=h;refine⟨[(d,a6 agg ((cs.drop o).take n))],some (s.hp.set id (some (cs.set o (disown (cs.getD o .undef))))),by simp[IOp.wr,IOp.dst],b,rfl,λt a g=>?_⟩;have e:=g (by simp[IOp.cls]);have E:t.obj id=s.obj id:=by simp only[St.obj];rw[e]
       simp only[step,r t a,j,E,B];rw[if_pos F,I,<-e];rfl
      ·simp at h
     ·simp at h
    ·simp at h
  |call d f avs=>
   have r:∀t:St,(∀n∈(IOp.call d f avs).rd,t.get n=s.get n)->(avs.map λx=>disown (x.ev t))=avs.map λx=>disown (x.ev s):=λt a=>AP λx j=>by rw[w (x:=x) a (λn G=>by simp only[IOp.rd,AJ];exact⟨x,j,G⟩)]
   simp only[step] at h;split at h
   ·rename_i c' v hp' P;simp only[Ab,Ae] at h;obtain⟨rfl,rfl⟩:=h;refine⟨d.toList.map (λd=>(d,v)),some hp',?_,b,?_,λt a g=>?_⟩;·intro p hp;simp only[Av] at hp;obtain⟨m,C,rfl⟩:=hp;simp[IOp.wr,IOp.dst,C]
    ·simp only[St.put,<-bH];cases d<;>rfl
    ·have e:=g (by omega);simp only[step,r t a,e,P];simp only[St.put,<-bH];cases d<;>rfl
   ·simp at h
  |dcall d f x avs=>
   have ex:∀t:St,(∀n∈(IOp.dcall d f x avs).rd,t.get n=s.get n)->x.ev t=x.ev s:=λt a=>w (x:=x) a (λn G=>by simp only[IOp.rd,AB];exact .inl G)
   have r:∀t:St,(∀n∈(IOp.dcall d f x avs).rd,t.get n=s.get n)->(avs.map λx=>disown (x.ev t))=avs.map λx=>disown (x.ev s):=λt a=>AP λy J=>by rw[w (x:=y) a (λn G=>by simp only[IOp.rd,AB,AJ];exact .inr ⟨y,J,G⟩)]
   simp only[step] at h;split at h
   ·rename_i f' jH j;split at h
    ·rename_i c' v hp' P;simp only[Ab,Ae] at h;obtain⟨rfl,rfl⟩:=h;refine⟨d.toList.map (λd=>(d,v)),some hp',?_,b,?_,λt a g=>?_⟩;·intro p hp;simp only[Av] at hp;obtain⟨m,C,rfl⟩:=hp;simp[IOp.wr,IOp.dst,C]
     ·simp only[St.put,<-bH];cases d<;>rfl
     ·have e:=g (by omega);simp only[step,r t a,ex t a,j,e,P];simp only[St.put,<-bH];cases d<;>rfl
    ·simp at h
   ·simp at h
  |_=>simp[IOp.cls] at O
theorem sM(s:St)(u:List (Nat×V)):(s.upd u).env.length=s.env.length:=by
 have:∀(u:List (Nat×V))(e:List V),(u.foldl (λe p=>e.set p.1 p.2) e).length=e.length:=by
  intro u;induction u with
  |nil=>intro e;rfl
  |cons p u a=>intro e;rw[BZ,a,AL]
 exact this u s.env
theorem ac3(A:cz Γ imp){o:IOp}{s:St}{c:Bool}{s':St}(h:step Γ o s=some (c,s')):
  ∃(u:List (Nat×V))(q:Option (List al)),(∀p∈u,p.1∈o.wr)∧(o.cls imp<=1->q=none)∧s'=s.put u q∧
   ∀t:St,(∀n∈o.rd,t.get n=s.get n)->(1<=o.cls imp->t.hp=s.hp∧t.env.length=s.env.length)->step Γ o t=some (c,t.put u q):=by
 by_cases w:∃d k x y,o=.apo d k x y
 ·obtain⟨d,k,x,y,rfl⟩:=w;have r:∀{t:St},(∀f∈(IOp.apo d k x y).rd,t.get f=s.get f)->x.ev t=x.ev s:=λa=>bG λn b=>a n (by simp[IOp.rd,b])
  have j:∀{t:St},(∀f∈(IOp.apo d k x y).rd,t.get f=s.get f)->y.ev t=y.ev s:=λa=>bG λn b=>a n (by simp[IOp.rd,b])
  simp only[step] at h;split at h
  ·rename_i k1 l k2 M v C H;split at h
   ·rename_i z;split at h
    ·rename_i i;split at h
     ·rename_i L;simp only[Ab,Ae] at h;obtain⟨rfl,rfl⟩:=h;refine⟨(x.takes.map λn=>(n,disown (s.get n)))++[(d,.sw k1 s.hp.length (l++(i▸v)).length)],some (s.hp++[some [.rw k1 (l++(i▸v))],none]),?_,λG=>by simp[IOp.cls] at G,?_,λt a g=>?_⟩
      ·intro p hp;simp only[AB,Av,Aq] at hp;rcases hp with⟨n,b,rfl⟩|rfl;·simp[IOp.wr,IOp.dst,b]
       ·simp[IOp.wr,IOp.dst]
      ·rw[fg];simp[St.put,St.upd,St.set]
      ·obtain⟨e,N⟩:=g (by simp[IOp.cls]);have m:d<t.env.length:=by omega
       simp only[step,r a,j a,C,H,dif_pos i,if_pos z,if_pos m,e];have B:(x.takes.map λn=>(n,disown (t.get n)))=x.takes.map λn=>(n,disown (s.get n)):=AP λn b=>by rw[a n (by cases x<;>simp[ac.takes] at b<;>subst b<;>simp[IOp.rd,ac.slots])]
       rw[fg,B];simp[St.put,St.upd,St.set]
     ·cases h
    ·cases h
   ·cases h
  ·cases h
 ·obtain⟨u,q,E,I,F,J⟩:=abH A (λd k x y e=>w ⟨d,k,x,y,e⟩) h;exact⟨u,q,E,I,F,λt a g=>J t a (λe=>(g e).1)⟩
def aW(Γ:ao)(x:GOp)(s:St):Option St:=
 match x.g with
 |none=>match fR Γ x.ob x.o s with|some (c,s')=>chk c (some s')|none=>none
 |some (g,w)=>match s.get g with
  | .bool b=>match b==w with
    |true=>match fR Γ x.ob x.o s with|some (c,s')=>chk c (some s')|none=>none
    |false=>some (s.setO x.o.dst (.tup []))
  | .tup []=>some (s.setO x.o.dst (.tup []))
  |_=>none
theorem ahh(s:St)(n:Nat){v:V}(h:s.get n=v):s.set n v=s:=by
 subst h;simp only[St.set,St.get,As]
 congr 1
 apply Dg;intro m;rw[At];split
 ·rename_i e;subst e;split;·rename_i a;simp[Ac a]
  ·rename_i a;simp[AR (Ds a)]
 ·rfl
theorem qK{R:Type}(x:GOp)(l:List GOp)(K:St->Option R)(s:St):bP Γ (x::l) K s=(aW Γ x s).bind (bP Γ l K):=by
 obtain⟨g,o,f⟩:=x;have h:∀s,(match fR Γ f o s with|some (c,s')=>chk c (bP Γ l K s')|none=>none)=(match fR Γ f o s with|some (c,s')=>chk c (some s')|none=>none).bind (bP Γ l K):=by
  intro s;split;·rename_i c s' _;cases c<;>rfl
  ·rfl
 cases g with
 |none=>simp only[bP,aW];exact h s
 |some g=>
  obtain⟨g,w⟩:=g;simp only[bP,aW];split;·rename_i b a;rw[a];cases b<;>cases w<;>simp only[cond_true,cond_false,ahh s g a]<;>first|exact h s|rfl
  ·rename_i a;rw[a];rfl
  ·rename_i e d;split;·rename_i b a;exact absurd a (e b)
   ·rename_i a;exact absurd a d
   ·rfl
theorem afa{o:IOp}{s t:St}(h:∀n∈o.rd,t.get n=s.get n):o.foot t=o.foot s:=by
 cases o with
 |ld d n agg b x=>simp only[IOp.foot];rw[bG (x:=x) h]
 |st d n x v=>simp only[IOp.foot];rw[bG (x:=x) λn a=>h n (by simp[IOp.rd,a])]
 |call d f avs=>
  have e:avs.map (λx=>disown (x.ev t))=avs.map (λx=>disown (x.ev s)):=AP λx c=>by rw[bG λn a=>h n (by simp only[IOp.rd,AJ];exact⟨x,c,a⟩)]
  simp only[IOp.foot,e]
 |ldw d n agg x=>simp only[IOp.foot];rw[bG (x:=x) h]
 |stw d n x v=>simp only[IOp.foot];rw[bG (x:=x) λn a=>h n (by simp[IOp.rd,a])]
 |_=>rfl
theorem ml{a:Option (List Nat×List Nat)}{o:IOp}{s t:St}{p q:Bool×St}(h:fR Γ a o s=some p)(d:∀n∈o.rd,t.get n=s.get n)(b:step Γ o t=some q):fR Γ a o t=some q:=by
 cases a with
 |none=>exact b
 |some l=>
  simp only[fR] at h ⊢;have e:o.within l t=o.within l s:=by simp only[IOp.within,afa d]
  rw[e];cases c:o.within l s with
  |true=>exact b
  |false=>rw[c] at h;simp at h
def GOp.rd(x:GOp):List Nat:=(match x.g with|some (g,_)=>[g]|none=>[])++x.o.rd
theorem u7(G:cz Γ imp){x:GOp}{s s':St}(h:aW Γ x s=some s'):
  ∃(u:List (Nat×V))(q:Option (List al)),(∀p∈u,p.1∈x.o.wr)∧(x.o.cls imp<=1->q=none)∧s'=s.put u q∧
   ∀t:St,(∀n∈x.rd,t.get n=s.get n)->(1<=x.o.cls imp->t.hp=s.hp∧t.env.length=s.env.length)->aW Γ x t=some (t.put u q):=by
 obtain⟨g,o,E⟩:=x
 have F:(match fR Γ E o s with|some (c,s')=>chk c (some s')|none=>none)=some s'->∃(u:List (Nat×V))(q:Option (List al)),(∀p∈u,p.1∈o.wr)∧(o.cls imp<=1->q=none)∧s'=s.put u q∧
   ∀t:St,(∀n∈o.rd,t.get n=s.get n)->(1<=o.cls imp->t.hp=s.hp∧t.env.length=s.env.length)->(match fR Γ E o t with|some (c,s')=>chk c (some s')|none=>none)=some (t.put u q):=by
  intro h;split at h
  ·rename_i c v k;cases c with
   |false=>simp[chk] at h
   |true=>
    obtain rfl:v=s':=by simpa [chk] using h
    obtain⟨u,q,j,y,r,z⟩:=ac3 G (iV k);exact⟨u,q,j,y,r,λt a i=>by rw[ml k a (z t a i)];rfl⟩
  ·simp at h
 cases g with
 |none=>obtain⟨u,q,j,y,r,z⟩:=F h;exact⟨u,q,j,y,r,λt a i=>z t (λn B=>a n (by simp[GOp.rd,B])) i⟩
 |some g=>
  obtain⟨g,w⟩:=g;simp only[aW] at h;split at h
  ·rename_i b A;split at h;·rename_i f;obtain⟨u,q,j,y,r,z⟩:=F h;refine⟨u,q,j,y,r,λt a i=>?_⟩;have e:=a g (by simp[GOp.rd]);simp only[aW,e,A,f];exact z t (λn B=>a n (by simp[GOp.rd,B])) i
   ·rename_i f;obtain rfl:_=s':=by simpa using h
    refine⟨o.dst.toList.map (λd=>(d,V.tup [])),none,?_,λ_=>rfl,by rw[bH];rfl,λt a i=>?_⟩;·intro p hp;simp only[Av] at hp;obtain⟨m,C,rfl⟩:=hp;simp[IOp.wr,C]
    ·have e:=a g (by simp[GOp.rd]);simp only[aW,e,A,f];rw[bH];rfl
  ·rename_i A;obtain rfl:_=s':=by simpa using h
   refine⟨o.dst.toList.map (λd=>(d,V.tup [])),none,?_,λ_=>rfl,by rw[bH];rfl,λt a i=>?_⟩;·intro p hp;simp only[Av] at hp;obtain⟨m,C,rfl⟩:=hp;simp[IOp.wr,C]
   ·have e:=a g (by simp[GOp.rd]);simp only[aW,e,A];rw[bH];rfl
  ·simp at h
def w7(a b:List Nat):Bool:=a.all λn=> !b.contains n
def IOp.obable(imp:List Nat):IOp->Bool
 | .ld .. | .st .. | .ldw .. | .stw ..=>true
 | .call _ f _=>imp.contains (f+2000000)
 |_=>false
def apart(imp:List Nat)(x y:GOp):Bool:=(x.o.obable imp&&y.o.obable imp)&&(match x.ob,y.ob with
 |some (r,w),some (a,w')=>w7 w a&&(w7 w w'&&w7 w' r)
 |_,_=>false)
def afb(x y:GOp):Bool:=match x.g,y.g,x.o,y.o with
 |none,none,.ld _ _ _ true _,.ld _ _ _ false _=>true
 |none,none,.ld _ _ _ false _,.ld _ _ _ true _=>true
 |_,_,_,_=>false
def xM(imp:List Nat)(x y:GOp):Bool:=
 w7 x.o.wr y.rd&&(w7 y.o.wr x.rd&&(w7 x.o.wr y.o.wr&&(((AO (x.o.cls imp) 1||Af (y.o.cls imp) 0)&&(AO (y.o.cls imp) 1||Af (x.o.cls imp) 0))||(apart imp x y||afb x y))))
def St.putH(s:St)(u:List (Nat×V))(q:List (Nat×al)):St:={s.upd u with hp:=uY s.hp q}
theorem w8{s t:St}{i:Nat}(h:t.hp[i]? =s.hp[i]?):t.obj i=s.obj i:=by unfold St.obj;rw[rJ h]
theorem aaf{s t:St}{i:Nat}(h:t.hp[i]? =s.hp[i]?):t.rowW i=s.rowW i:=by unfold St.rowW;rw[rJ h]
theorem afc(L:cz Γ imp){o:IOp}(F:o.obable imp=true){s:St}{c:Bool}{s':St}{r w:List Nat}(y:o.foot s=some (r,w))(h:step Γ o s=some (c,s')):
  ∃(u:List (Nat×V))(q:List (Nat×al)),(∀p∈u,p.1∈o.wr)∧(∀p∈q,p.1∈w)∧s'=s.putH u q∧
   ∀t:St,(∀n∈o.rd,t.get n=s.get n)->t.hp.length=s.hp.length->(∀i,i∈r∨i∈w->t.hp[i]? =s.hp[i]?)->step Γ o t=some (c,t.putH u q):=by
 cases o with
 |ld d n agg B x=>
  have A:∀t:St,(∀n∈(IOp.ld d n agg B x).rd,t.get n=s.get n)->x.ev t=x.ev s:=λt b=>bG b
  cases g:x.ev s with
  |ea cs=>
   simp only[step,g] at h;split at h;·rename_i j;simp only[Ab,Ae] at h;obtain⟨rfl,rfl⟩:=h;refine⟨[(d,disown (a6 agg (cs.take n)))],[],by simp[IOp.wr,IOp.dst],by simp,rfl,λt b _ _=>?_⟩;simp only[step,A t b,g,if_pos j];rfl
   ·simp at h
  |ptr id o=>
   simp only[IOp.foot,g,Ab] at y;simp only[step,g] at h;cases a:s.obj id with
   |none=>rw[a] at h;simp at h
   |some cs=>
    rw[a] at h;simp only at h;split at h
    ·rename_i j;cases B with
     |false=>simp only[cond_false,Ae] at y;obtain⟨rfl,rfl⟩:=y;simp only[BO,if_false,Ab,Ae] at h;obtain⟨rfl,rfl⟩:=h;refine⟨[(d,disown (a6 agg ((cs.drop o).take n)))],[],by simp[IOp.wr,IOp.dst],by simp,rfl,λt b _ z=>?_⟩;have e:=w8 (z id (.inl (by simp)));simp only[step,A t b,g,e,a,if_pos j];rfl
     |true=>
      simp only[cond_true,Ae] at y;obtain⟨rfl,rfl⟩:=y;simp only[if_true] at h;split at h;·rename_i N;simp only[Ab,Ae] at h;obtain⟨rfl,rfl⟩:=h;refine⟨[(d,a6 agg ((cs.drop o).take n))],[(id,some (cs.set o (disown (cs.getD o .undef))))],by simp[IOp.wr,IOp.dst],by simp,rfl,λt b _ z=>?_⟩;have e:=w8 (z id (.inr (by simp)));simp only[step,A t b,g,e,a,if_pos j,if_true,if_pos N];rfl
      ·simp at h
    ·simp at h
  |_=>simp[IOp.foot,g] at y
 |st d n x v=>
  have A:∀t:St,(∀n∈(IOp.st d n x v).rd,t.get n=s.get n)->x.ev t=x.ev s:=λt b=>bG λn j=>b n (by simp[IOp.rd,j])
  have ev:∀t:St,(∀n∈(IOp.st d n x v).rd,t.get n=s.get n)->v.ev t=v.ev s:=λt b=>bG λn j=>b n (by simp[IOp.rd,j])
  have ea:∀t:St,(∀n∈(IOp.st d n x v).rd,t.get n=s.get n)->v.takes.map (λn=>(n,disown (t.get n)))=v.takes.map (λn=>(n,disown (s.get n))):=by
   intro t b;cases v with
   |tk m=>simp only[ac.takes,List.map];rw[b m (by simp[IOp.rd,ac.slots])]
   |_=>rfl
  cases g:x.ev s with
  |ptr id o=>
   simp only[IOp.foot,g,Ab,Ae] at y;obtain⟨rfl,rfl⟩:=y;simp only[step,g] at h;cases a:s.obj id with
   |none=>rw[a] at h;simp at h
   |some cs=>
    rw[a] at h;simp only at h;split at h
    ·rename_i j;simp only[Ab,Ae] at h;obtain⟨rfl,rfl⟩:=h;refine⟨v.takes.map (λn=>(n,disown (s.get n)))++d.toList.map (λd=>(d,V.undef)),[(id,some (cs.take o++(v.ev s).cells++cs.drop (o+n)))],?_,by simp,?_,λt b _ z=>?_⟩
     ·intro p hp;simp only[AB,Av] at hp;rcases hp with⟨m,C,rfl⟩|⟨m,C,rfl⟩
      ·simp[IOp.wr,IOp.dst,C]
      ·simp only[Eg] at C;simp[IOp.wr,IOp.dst,C]
     ·rw[fg,bH];simp only[St.putH,<-iR];rfl
     ·have e:=w8 (z id (.inr (by simp)));simp only[step,A t b,ev t b,g,e,a,if_pos j];rw[fg,bH,ea t b];simp only[St.putH,<-iR];rfl
    ·simp at h
  |_=>simp[IOp.foot,g] at y
 |call d f avs=>
  have e:∀t:St,(∀n∈(IOp.call d f avs).rd,t.get n=s.get n)->avs.map (λx=>disown (x.ev t))=avs.map (λx=>disown (x.ev s)):=λt b=>AP λx g=>by rw[bG λn j=>b n (by simp only[IOp.rd,AJ];exact⟨x,g,j⟩)]
  simp only[IOp.foot,Ab,Ae] at y;obtain⟨rfl,rfl⟩:=y;simp only[step] at h;split at h
  ·rename_i Q I hp' G;simp only[Ab,Ae] at h;obtain⟨rfl,rfl⟩:=h;obtain⟨q,O,rfl,J⟩:=L.loc f _ _ _ _ _ F G;refine⟨d.toList.map (λd=>(d,I)),q,?_,O,?_,λt b P z=>?_⟩;·intro p hp;simp only[Av,Eg] at hp;obtain⟨m,C,rfl⟩:=hp;simp[IOp.wr,IOp.dst,C]
   ·rw[bH];rfl
   ·have:=J t.hp P (λi M=>z i (.inl M));simp only[step,e t b,this];rw[bH];rfl
  ·simp at h
 |ldw d n agg x=>
  have A:∀t:St,(∀n∈(IOp.ldw d n agg x).rd,t.get n=s.get n)->x.ev t=x.ev s:=λt b=>bG b
  cases g:x.ev s with
  |wp id k i o=>
   simp only[IOp.foot,g,Ab,Ae] at y;obtain⟨rfl,rfl⟩:=y;simp only[step,g] at h;cases a:s.rowW id with
   |none=>rw[a] at h;simp at h
   |some p=>
    obtain⟨k',xs⟩:=p;rw[a] at h;simp only at h;split at h;·rename_i j;simp only[Ab,Ae] at h;obtain⟨rfl,rfl⟩:=h;refine⟨[(d,disown (a6 agg (((enc k' (xs.getD i (am k'))).drop o).take n)))],[],by simp[IOp.wr,IOp.dst],by simp,rfl,λt b _ z=>?_⟩;have e:=aaf (z id (.inl (by simp)));simp only[step,A t b,g,e,a,if_pos j];rfl
    ·simp at h
  |_=>simp[IOp.foot,g] at y
 |stw d n x v=>
  have A:∀t:St,(∀n∈(IOp.stw d n x v).rd,t.get n=s.get n)->x.ev t=x.ev s:=λt b=>bG λn j=>b n (by simp[IOp.rd,j])
  have ev:∀t:St,(∀n∈(IOp.stw d n x v).rd,t.get n=s.get n)->v.ev t=v.ev s:=λt b=>bG λn j=>b n (by simp[IOp.rd,j])
  cases g:x.ev s with
  |wp id k i o=>
   simp only[IOp.foot,g,Ab,Ae] at y;obtain⟨rfl,rfl⟩:=y;simp only[step,g] at h;cases a:s.rowW id with
   |none=>rw[a] at h;simp at h
   |some p=>
    obtain⟨k',xs⟩:=p;rw[a] at h;simp only at h;split at h
    ·rename_i j;cases E:pA k' (xs.getD i (am k')) o (v.ev s).cells with
     |none=>rw[E] at h;simp at h
     |some H=>
      rw[E] at h;simp only[Ab,Ae] at h;obtain⟨rfl,rfl⟩:=h;refine⟨d.toList.map (λd=>(d,V.undef)),[(id,some [.rw k' (xs.set i H)])],?_,by simp,?_,λt b _ z=>?_⟩;·intro p hp;simp only[Av,Eg] at hp;obtain⟨m,C,rfl⟩:=hp;simp[IOp.wr,IOp.dst,C]
      ·rw[bH];rfl
      ·have e:=aaf (z id (.inr (by simp)));simp only[step,A t b,ev t b,g,e,a,if_pos j,E];rw[bH];rfl
    ·simp at h
  |_=>simp[IOp.foot,g] at y
 |_=>simp[IOp.obable] at F
theorem ac4{o:IOp}{R W:List Nat}{s:St}(h:o.within (R,W) s=true):∃r w,o.foot s=some (r,w)∧(∀i∈r,i∈R∨i∈W)∧∀i∈w,i∈W:=by
 unfold IOp.within at h;split at h
 ·rename_i r w c;simp only[Aa,Ak,AQ,Co] at h;refine⟨r,w,c,?_,?_⟩
  ·intro i b;rcases h.1 i b with⟨j,a,e⟩|⟨j,a,e⟩
   ·left;rw[AA e];exact a
   ·right;rw[AA e];exact a
  ·intro i b;obtain⟨j,a,e⟩:=h.2 i b;rw[AA e];exact a
 ·simp at h
theorem xN(P:cz Γ imp){x:GOp}{R W:List Nat}(Q:x.o.obable imp=true)(M:x.ob=some (R,W)){s s':St}(h:aW Γ x s=some s'):
  ∃(u:List (Nat×V))(q:List (Nat×al)),(∀p∈u,p.1∈x.o.wr)∧(∀p∈q,p.1∈W)∧s'=s.putH u q∧
   ∀t:St,(∀n∈x.rd,t.get n=s.get n)->t.hp.length=s.hp.length->(∀i,i∈R∨i∈W->t.hp[i]? =s.hp[i]?)->aW Γ x t=some (t.putH u q):=by
 obtain⟨g,o,O⟩:=x;obtain rfl:O=some (R,W):=M
 have N:(match fR Γ (some (R,W)) o s with|some (c,s')=>chk c (some s')|none=>none)=some s'->∃(u:List (Nat×V))(q:List (Nat×al)),(∀p∈u,p.1∈o.wr)∧(∀p∈q,p.1∈W)∧s'=s.putH u q∧
   ∀t:St,(∀n∈o.rd,t.get n=s.get n)->t.hp.length=s.hp.length->(∀i,i∈R∨i∈W->t.hp[i]? =s.hp[i]?)->(match fR Γ (some (R,W)) o t with|some (c,s')=>chk c (some s')|none=>none)=some (t.putH u q):=by
  intro h;split at h
  ·rename_i c z k;cases c with
   |false=>simp[chk] at h
   |true=>
    obtain rfl:z=s':=by simpa [chk] using h
    have J:o.within (R,W) s=true:=by
     cases J:o.within (R,W) s with
     |true=>rfl
     |false=>simp[fR,J] at k
    obtain⟨r,w,X,Y,F⟩:=ac4 J;obtain⟨u,q,C,A,E,H⟩:=afc P Q X (iV k);exact⟨u,q,C,λp hp=>F _ (A p hp),E,λt a G y=>by rw[ml k a (H t a G (λi B=>B.elim (λB=>y i (Y i B)) (λB=>y i (.inr (F i B)))))];rfl⟩
  ·simp at h
 have f:∀s:St,s.setO o.dst (.tup [])=s.putH (o.dst.toList.map λd=>(d,V.tup [])) []:=λs=>by rw[bH];rfl
 have j:∀p∈o.dst.toList.map λd=>(d,V.tup []),p.1∈o.wr:=by intro p hp;simp only[Av] at hp;obtain⟨m,S,rfl⟩:=hp;simp[IOp.wr,S]
 cases g with
 |none=>obtain⟨u,q,C,A,E,H⟩:=N h;exact⟨u,q,C,A,E,λt a=>H t (λn L=>a n (by simp[GOp.rd,L]))⟩
 |some g=>
  obtain⟨g,w⟩:=g;simp only[aW] at h;split at h
  ·rename_i b I;split at h;·rename_i v;obtain⟨u,q,C,A,E,H⟩:=N h;refine⟨u,q,C,A,E,λt a G y=>?_⟩;have e:=a g (by simp[GOp.rd]);simp only[aW,e,I,v];exact H t (λn L=>a n (by simp[GOp.rd,L])) G y
   ·rename_i v;obtain rfl:_=s':=by simpa using h
    refine⟨_,[],j,by simp,f s,λt a G y=>?_⟩;have e:=a g (by simp[GOp.rd]);simp only[aW,e,I,v];rw[f]
  ·rename_i I;obtain rfl:_=s':=by simpa using h
   refine⟨_,[],j,by simp,f s,λt a G y=>?_⟩;have e:=a g (by simp[GOp.rd]);simp only[aW,e,I];rw[f]
  ·simp at h
theorem nO{a b:List Nat}(h:w7 a b=true):∀n∈a,n ∉ b:=by intro n c;have:=Ak.1 h n c;simpa using this
theorem za{α:Type}(u:List (Nat×α)):∀(e:List α)(n:Nat)(v:α),(∀p∈u,p.1≠n)->u.foldl (λe p=>e.set p.1 p.2) (e.set n v)=(u.foldl (λe p=>e.set p.1 p.2) e).set n v:=by
 induction u with
 |nil=>intro e n v _;rfl
 |cons p u b=>intro e n v h;simp only[BZ];rw[Ec _ _ (Cr (h p (AD ..))),b _ _ _ (λq a=>h q (AH _ a))]
theorem nw{α:Type}(v:List (Nat×α)):∀(u:List (Nat×α))(e:List α),(∀p∈u,∀q∈v,p.1≠q.1)->
  v.foldl (λe p=>e.set p.1 p.2) (u.foldl (λe p=>e.set p.1 p.2) e)=u.foldl (λe p=>e.set p.1 p.2) (v.foldl (λe p=>e.set p.1 p.2) e):=by
 induction v with
 |nil=>intro u e _;rfl
 |cons q v b=>intro u e h;simp only[BZ];rw[<-za u e q.1 q.2 (λp hp=>h p hp q (AD ..)),b u _ (λp hp r a=>h p hp r (AH _ a))]
theorem ahi{s:St}{id:Nat}{cs:List V}(h:s.obj id=some cs)(i:Nat):(s.setObj id (cs.set i (disown (cs.getD i .undef)))).obj id=some (cs.set i (disown (cs.getD i .undef))):=by
 have a:id<s.hp.length:=by
  rcases AG id s.hp.length with a|a;·exact a
  ·unfold St.obj at h;rw[Al,AR a] at h;simp at h
 have m:s.hp.getD id none=some cs∧(∀xs,cs≠[.rb xs])∧(∀k xs,cs≠[.rw k xs])∧(∀k xs,cs≠[.mp k xs])∧(∀xs,cs≠[.tup xs]):=by
  unfold St.obj at h;split at h;·simp at h
  ·simp at h
  ·simp at h
  ·simp at h
  ·rename_i t u j q;refine⟨h,λxs e=>?_,λk xs e=>?_,λk xs e=>?_,λxs e=>?_⟩;·subst e;exact t _ h
   ·subst e;exact u _ _ h
   ·subst e;exact j _ _ h
   ·subst e;exact q _ h
 obtain⟨v,d,b,f,g⟩:=m;have p:(s.setObj id (cs.set i (disown (cs.getD i .undef)))).hp.getD id none=some (cs.set i (disown (cs.getD i .undef))):=by simp[St.setObj,Al,a]
 unfold St.obj;rw[p];match cs,i with
 | [],i=>rfl
 | [c],0=>
   simp only[BS,D2];cases c with
   |rb xs=>exact absurd rfl (d xs)
   |rw k xs=>exact absurd rfl (b k xs)
   |mp k xs=>exact absurd rfl (f k xs)
   |tup xs=>exact absurd rfl (g xs)
   |sl k o xs=>cases o<;>rfl
   |_=>rfl
 | [c],i+1=>
   simp only[D1,List.set_nil];cases c with
   |rb xs=>exact absurd rfl (d xs)
   |rw k xs=>exact absurd rfl (b k xs)
   |mp k xs=>exact absurd rfl (f k xs)
   |tup xs=>exact absurd rfl (g xs)
   |_=>rfl
 |c::c2::r,0=>simp only[D2];split<;>first|rfl|(rename_i e;simp at e)
 |c::c2::r,1=>simp only[D1,D2]
 |c::c2::r,i+2=>simp only[D1]
theorem zb(cs:List V)(i:Nat):(cs.set i (disown (cs.getD i .undef))).map disown=cs.map disown:=by
 rw[List.map_set,aaI];apply Dg;intro m;rw[At];by_cases h:i=m
 ·subst h;simp only[if_true,AU];split;·rename_i a;simp[Al,Ac a]
  ·rename_i a;simp[AR (Ds a)]
 ·simp[h]
theorem uv(agg:Bool)(cs:List V):disown (a6 agg cs)=if agg then .agg (cs.map disown) else (cs.map disown).headD .undef:=by
 cases agg with
 |true=>rfl
 |false=>cases cs<;>rfl
theorem ad7(agg:Bool)(cs:List V)(i o n:Nat):disown (a6 agg (((cs.set i (disown (cs.getD i .undef))).drop o).take n))=disown (a6 agg ((cs.drop o).take n)):=by rw[uv,uv,Dp,Dn,zb,Dp,Dn]
def rdV(p:V)(s:St)(n:Nat)(a:Bool):Option V:=match p with
 | .ea cs=>if n<=cs.length then some (disown (a6 a (cs.take n))) else none
 | .ptr id o=>match s.obj id with
   |some cs=>if o+n<=cs.length then some (disown (a6 a ((cs.drop o).take n))) else none
   |none=>none
 |_=>none
theorem xO(d n:Nat)(a:Bool)(x:ac)(s:St):step Γ (.ld d n a false x) s=(rdV (x.ev s) s n a).map λv=>(true,s.set d v):=by
 cases b:x.ev s with
 |ea cs=>simp only[step,rdV,b];split<;>rfl
 |ptr id o=>
  simp only[step,rdV,b];cases s.obj id with
  |none=>rfl
  |some cs=>simp only[BO,if_false];split<;>rfl
 |_=>simp only[step,rdV,b];rfl
def tkV(p:V)(s:St)(n:Nat)(a:Bool):Option (V×Option (Nat×List V)):=match p with
 | .ea cs=>if n<=cs.length then some (disown (a6 a (cs.take n)),none) else none
 | .ptr id o=>match s.obj id with
   |some cs=>if o+n<=cs.length then (if pU (cs.getD o .undef) then some (a6 a ((cs.drop o).take n),some (id,cs.set o (disown (cs.getD o .undef)))) else none) else none
   |none=>none
 |_=>none
def St.turn(s:St):Option (Nat×List V)->St
 |none=>s
 |some (id,cs)=>s.setObj id cs
theorem xP(d n:Nat)(a:Bool)(x:ac)(s:St):step Γ (.ld d n a true x) s=(tkV (x.ev s) s n a).map λq=>(true,(s.turn q.2).set d q.1):=by
 cases b:x.ev s with
 |ea cs=>simp only[step,tkV,b];split<;>rfl
 |ptr id o=>
  simp only[step,tkV,b];cases s.obj id with
  |none=>rfl
  |some cs=>
   simp only[if_true];split;·split<;>rfl
   ·rfl
 |_=>simp only[step,tkV,b];rfl
theorem afd{s:St}{id a:Nat}{cs:List V}(h:id≠a):(s.setObj id cs).obj a=s.obj a:=by unfold St.obj St.setObj;simp[Al,At,h]
theorem abI{p p2:V}{s:St}{n i:Nat}{a g:Bool}{q:V×Option (Nat×List V)}(h:tkV p s n a=some q)(d:Nat)(v:V):rdV p2 ((s.turn q.2).set d v) i g=rdV p2 s i g:=by
 unfold tkV at h;split at h
 ·split at h;·cases h;rfl
  ·cases h
 ·rename_i id o;split at h
  ·rename_i cs c;split at h
   ·split at h
    ·cases h;have e:∀b,((s.turn (some (id,cs.set o (disown (cs.getD o .undef))))).set d v).obj b=(s.setObj id (cs.set o (disown (cs.getD o .undef)))).obj b:=λ_=>rfl
     cases p2 with
     |ptr b j=>
      simp only[rdV,e];by_cases f:id=b;·subst f;rw[ahi c,c];simp only[AL,ad7]
      ·rw[afd f]
     |_=>rfl
    ·cases h
   ·cases h
  ·cases h
 ·cases h
theorem ads(p:V)(s:St)(n:Nat)(a:Bool)(d:Nat)(v:V):tkV p (s.set d v) n a=tkV p s n a:=rfl
theorem abJ(s:St)(q:Option (Nat×List V))(d:Nat)(v:V):(s.set d v).turn q=(s.turn q).set d v:=by cases q<;>rfl
theorem abK(s:St){d a:Nat}(v b:V)(h:d≠a):(s.set d v).set a b=(s.set a b).set d v:=by simp only[St.set];rw[Ec _ _ h]
theorem abL(s:St)(q:Option (Nat×List V))(n:Nat):(s.turn q).get n=s.get n:=by cases q<;>rfl
theorem ad8{o:IOp}{a:Option (List Nat×List Nat)}{s s':St}:aW Γ ⟨none,o,a⟩ s=some s'↔fR Γ a o s=some (true,s'):=by
 simp only[aW];cases fR Γ a o s with
 |none=>simp
 |some p=>obtain⟨c,t⟩:=p;cases c<;>simp[chk]
theorem qh(s:St){d n:Nat}(v:V)(h:d≠n):(s.set d v).get n=s.get n:=by simp[St.get,St.set,As,At,h]
theorem agW{A z:Option (List Nat×List Nat)}{d n f j:Nat}{a k:Bool}{x g:ac}(E:d≠f)(o:∀m∈x.slots,m≠f)(i:∀m∈g.slots,m≠d){s w s2:St}:
  (aW Γ ⟨none,.ld d n a true x,z⟩ s=some w->aW Γ ⟨none,.ld f j k false g,A⟩ w=some s2->∃b,aW Γ ⟨none,.ld f j k false g,A⟩ s=some b∧aW Γ ⟨none,.ld d n a true x,z⟩ b=some s2)∧
  (aW Γ ⟨none,.ld f j k false g,A⟩ s=some w->aW Γ ⟨none,.ld d n a true x,z⟩ w=some s2->∃b,aW Γ ⟨none,.ld d n a true x,z⟩ s=some b∧aW Γ ⟨none,.ld f j k false g,A⟩ b=some s2):=by
 simp only[ad8];have B:(IOp.ld d n a true x).rd=x.slots:=rfl;have C:(IOp.ld f j k false g).rd=g.slots:=rfl;constructor
 ·intro t v;have k1:=iV t;have k2:=iV v;rw[xP,Ah] at k1;obtain⟨q,u,e⟩:=k1;simp only[Ae,true_and] at e;subst e;have p:∀m∈g.slots,((s.turn q.2).set d q.1).get m=s.get m:=λm c=>by rw[qh _ _ (Cr (i m c)),abL]
  rw[xO,bG p,abI u,Ah] at k2;obtain⟨y,h,e⟩:=k2;simp only[Ae,true_and] at e;subst e;refine⟨s.set f y,ml v (by rw[C];exactλm c=>(p m c).symm) (by rw[xO,h];rfl),?_⟩;have r:∀m∈x.slots,(s.set f y).get m=s.get m:=λm c=>qh _ _ (Cr (o m c))
  refine ml t (by rw[B];exact r) ?_;rw[xP,bG r,ads,u];simp only[Bt,abJ];rw[abK _ _ _ E]
 ·intro t v;have k1:=iV t;have k2:=iV v;rw[xO,Ah] at k1;obtain⟨y,h,e⟩:=k1;simp only[Ae,true_and] at e;subst e;have r:∀m∈x.slots,(s.set f y).get m=s.get m:=λm c=>qh _ _ (Cr (o m c))
  rw[xP,bG r,ads,Ah] at k2;obtain⟨q,u,e⟩:=k2;simp only[Ae,true_and] at e;subst e;have p:∀m∈g.slots,((s.turn q.2).set d q.1).get m=s.get m:=λm c=>by rw[qh _ _ (Cr (i m c)),abL]
  refine⟨(s.turn q.2).set d q.1,ml v (by rw[B];exactλm c=>(r m c).symm) (by rw[xP,u];rfl),?_⟩;refine ml t (by rw[C];exact p) ?_;rw[xO,bG p,abI u,h];simp only[Bt,abJ];rw[abK _ _ _ E]
theorem af0(O:cz Γ imp){x y:GOp}(b:xM imp y x=true){s s1 s2:St}(P:aW Γ y s=some s1)(N:aW Γ x s1=some s2):
  ∃H,aW Γ x s=some H∧aW Γ y H=some s2:=by
 simp only[xM,Aa,AQ,Bz] at b;obtain⟨E,B,C,b⟩:=b;have E:=nO E;have B:=nO B;have C:=nO C;rcases b with⟨d,c2⟩|r|X
 case inr.inr=>
  obtain⟨Q,ox,bx⟩:=x;obtain⟨R,oy,bY⟩:=y;unfold afb at X;split at X
  ·rename_i e n a xa f n2 u xb e1 k L J;simp only at e1 k L J;subst e1 k L J;have m1:∀m∈xb.slots,m≠e:=λm v h=>E e (by simp[IOp.wr,IOp.dst]) (by subst h;simpa [GOp.rd,IOp.rd] using v)
   have m2:∀m∈xa.slots,m≠f:=λm v h=>B f (by simp[IOp.wr,IOp.dst]) (by subst h;simpa [GOp.rd,IOp.rd] using v)
   have W:e≠f:=λh=>C e (by simp[IOp.wr,IOp.dst]) (by subst h;simp[IOp.wr,IOp.dst])
   exact(agW W m2 m1).1 P N
  ·rename_i f n2 u xb e n a xa e1 k L J;simp only at e1 k L J;subst e1 k L J;have m1:∀m∈xb.slots,m≠e:=λm v h=>B e (by simp[IOp.wr,IOp.dst]) (by subst h;simpa [GOp.rd,IOp.rd] using v)
   have m2:∀m∈xa.slots,m≠f:=λm v h=>E f (by simp[IOp.wr,IOp.dst]) (by subst h;simpa [GOp.rd,IOp.rd] using v)
   have W:e≠f:=λh=>C f (by simp[IOp.wr,IOp.dst]) (by subst h;simp[IOp.wr,IOp.dst])
   exact(agW W m2 m1).2 P N
  ·cases X
 case inr.inl=>
  simp only[apart,Aa] at r;obtain⟨⟨oy,ox⟩,r⟩:=r;split at r
  ·rename_i Ry Wy Rx Wx av a0;simp only[Aa] at r;obtain⟨a1,u,a3⟩:=r;have a1:=nO a1;have u:=nO u;have a3:=nO a3;obtain⟨j,M,G,z,rfl,Y⟩:=xN O oy av P;obtain⟨g,w,I,A,rfl,S⟩:=xN O ox a0 N;have R:∀t:St,∀n∈x.rd,(t.putH j M).get n=t.get n:=λt n c=>vX (s:=t) (l:=j) (λp hp e=>E p.1 (G p hp) (e▸c))
   have Q:∀t:St,∀n∈y.rd,(t.putH g w).get n=t.get n:=λt n c=>vX (s:=t) (l:=g) (λp hp e=>B p.1 (I p hp) (e▸c))
   have Z:=S s (λn c=>(R s n c).symm) (wH M s.hp).symm (λi b=>(abG (λp hp e=>by
    subst e;rcases b with b|b;·exact a1 _ (z p hp) b
    ·exact u _ (z p hp) b)).symm)
   have hy:=Y (s.putH g w) (λn c=>Q s n c) (wH w s.hp) (λi b=>abG (λp hp e=>by
    subst e;rcases b with b|b;·exact a3 _ (A p hp) b
    ·exact u _ b (A p hp)))
   refine⟨_,Z,hy.trans ?_⟩
   congr 1
   have e1:=nw j g s.env (λp hp q F e=>C q.1 (G q F) (e▸I p hp));have k:=nw M w s.hp (λp hp q F e=>u q.1 (z q F) (e▸A p hp));simp only[St.putH,St.upd,St.mk.injEq];exact⟨e1,k⟩
  ·simp at r
 have d:y.o.cls imp<=1∨x.o.cls imp=0:=d.imp id AA;have c2:x.o.cls imp<=1∨y.o.cls imp=0:=c2.imp id AA;obtain⟨j,M,G,z,rfl,Y⟩:=u7 O P;obtain⟨g,w,I,A,rfl,S⟩:=u7 O N;have R:∀t:St,∀n∈x.rd,(t.put j M).get n=t.get n:=λt n c=>vX (s:=t) (l:=j) (λp hp e=>E p.1 (G p hp) (e▸c))
 have Q:∀t:St,∀n∈y.rd,(t.put g w).get n=t.get n:=λt n c=>vX (s:=t) (l:=g) (λp hp e=>B p.1 (I p hp) (e▸c))
 have Z:=S s (λn c=>(R s n c).symm) (λhc=>by
  rcases d with d|d;·exact⟨by rw[z d];rfl,(sM s j).symm⟩
  ·omega)
 have hy:=Y (s.put g w) (λn c=>Q s n c) (λhc=>by
  rcases c2 with c2|c2;·exact⟨by rw[A c2];rfl,sM s g⟩
  ·omega)
 refine⟨_,Z,hy.trans ?_⟩
 congr 1
 have e1:=nw j g s.env (λp hp q F e=>C q.1 (G q F) (e▸I p hp));simp only[St.put,St.upd,St.mk.injEq];refine⟨e1,?_⟩;rcases d with d|d;·rw[z d];rfl
 ·rw[A (by omega)];rfl
theorem xQ(c:cz Γ imp){R:Type}{K:St->Option R}{r:R}{x:GOp}{B:List GOp}:∀(A:List GOp)(s:St),(∀y∈A,xM imp y x=true)->
  bP Γ (A++x::B) K s=some r->∃s',aW Γ x s=some s'∧bP Γ (A++B) K s'=some r
 | [],s,_,h=>by rw[C3,qK] at h;exact Ck.1 h
 |y::A,s,b,h=>by rw[List.cons_append,qK] at h;obtain⟨g,e,k⟩:=Ck.1 h;obtain⟨s2,i,m⟩:=xQ c A g (λy j=>b y (AH _ j)) k;obtain⟨a,f,d⟩:=af0 c (b y (AD ..)) e i;refine⟨a,f,?_⟩;rw[List.cons_append,qK,d];exact m
end
def mq(G:Nat->List V->Option (Bool×V)):ao:=λf vs hp=>match G f vs with|some x=>some (x.1,x.2,hp)|none=>none
theorem ko(G:Nat->List V->Option (Bool×V))(imp:List Nat):cz (mq G) imp:=by
 refine⟨?_,?_⟩;·intro f avs hp _;unfold mq;cases G f avs<;>rfl
 ·intro f vs hp c v hp' _ h;unfold mq at h ⊢;cases a:G f vs with
  |none=>rw[a] at h;simp at h
  |some x=>rw[a] at h;simp only[Ab,Ae] at h;obtain⟨rfl,rfl,rfl⟩:=h;exact⟨[],by simp,rfl,λb _ _=>rfl⟩
theorem rL{G:Nat->List V->Option (Bool×V)}{f:Nat}{vs:List V}{hp hp':List al}{c:Bool}{v:V}(h:mq G f vs hp=some (c,v,hp')):G f vs=some (c,v)∧hp'=hp:=by
 unfold mq at h;cases a:G f vs with
 |none=>rw[a] at h;simp at h
 |some x=>rw[a] at h;simp only[Ab,Ae] at h;obtain⟨rfl,rfl,rfl⟩:=h;exact⟨rfl,rfl⟩
def adt(P:Program)(o:IOp)(m:Oper):Bool:=
 match o with
 |_=>false
section
variable{w w':World}{g g':Gh}{s s':St}{a:Act}{P:Program}{Γ:ao}{m:Oper}{next:Act->World->Prop}{Q:Exit->Act->World->Prop}
end
section
open Go.MapKept
def jA(P:Program)(t:TypeId)(k:MK):Bool:=match k,P.underlying t with
 | .pb,some (.array 2 e)=>(be P e==some 1)&&wW P e .i64
 | .bs,some (.int .u8)=>true
 | .bn,some (.int .u8)=>true
 | .ib,some (.int .i64)=>true
 | .sn,some .string=>true
 |_,_=>false
def agX(P:Program)(e:TypeId)(k:MK):Bool:=match P.info? e with|some i=>(match i.zero with|some z=>iW (k.val k.zero) z|none=>false)|none=>false
def rM(P:Program)(t:TypeId)(k:MK):Bool:=match P.underlying t with|some (.map b e)=>jA P b k&&agX P e k|_=>false
def kG(P:Program)(o:IOp)(m:Oper):Bool:=
 match o with
 | .mkm d k=>(m.dst==some d)&&(match m.op with| .makeMap t none=>rM P t k|_=>false)
 | .mget d k ok x y=>(m.dst==some d)&&(match m.op with| .lookup t b c f=>rM P t k&&((ok==f)&&(ag x b&&ag y c))|_=>false)
 | .mput d k x y z=>(m.dst==d)&&(match m.op with
   | .mapUpdate t b c e=>rM P t k&&(ag x b&&(ag y c&&ag z e))
   | .insert t b c e=>rM P t k&&(ag x b&&(ag y c&&ag z e))
   |_=>false)
 | .ment d k x y=>(m.dst==some d)&&(match m.op with| .mapEntry t b c=>rM P t k&&(ag x b&&ag y c)|_=>false)
 | .mest d x i v=>(m.dst==d)&&(match m.op with| .entryStore _ b j h=>ag x b&&(ag i j&&ag v h)|_=>false)
 |_=>false
section
variable{w w':World}{g g':Gh}{s s':St}{a:Act}{P:Program}{Γ:ao}{m:Oper}{next:Act->World->Prop}{Q:Exit->Act->World->Prop}
theorem sp{t:TypeId}{k:MK}(h:rM P t k=true):∃c e,P.underlying t=some (.map c e)∧jA P c k=true∧(∀w:World,(zeroValue e).run P w=.ok (k.valV k.zero) w):=by
 unfold rM at h;split at h
 ·rename_i c e j;simp only[Aa] at h;refine⟨c,e,j,h.1,?_⟩;have b:=h.2;unfold agX at b;split at b
  ·rename_i i f;split at b
   ·rename_i z o;intro w;have d:z=k.valV k.zero:=by
     cases k<;>cases z<;>simp[iW,MK.val,MK.zero] at b<;>simp[MK.valV,MK.zero];·exact b
     ·rename_i s;obtain⟨⟨l⟩⟩:=s;simp at b;rw[b.1]
     ·exact⟨b.1.symm,b.2.1.symm⟩
     ·exact b
     ·exact⟨b.1.symm,b.2.1.symm⟩
    simp[zeroValue,typeInfo,f,o,d]
   ·simp at b
  ·simp at b
 ·simp at h
theorem abM{I:Nat->Nat->Prop}{ρ:Nat->Nat}{N:Nat}(k:MK)(x:k.T)(h:k.okT x):VRel I ρ N w (k.val x) (k.valV x):=by
 cases k;·exact .bool _
 ·exact .str _ _ rfl (by have h:An x<=maxI:=h;simpa [ByteArray.size] using h)
 ·exact .int _ _ h
 ·exact .bool _
 ·exact .int _ _ h
theorem w9(k:MK):k.okT k.zero:=by cases k<;>simp[MK.okT,MK.zero]<;>decide
theorem ad9{v:V}{x:Int×Int}(h:adW v=some x):v=.agg [.int .i64 x.1,.int .i64 x.2]:=by unfold adW at h;split at h<;>first|contradiction|(cases h;rfl)
theorem abN{v:V}{x:Int}(h:u8V v=some x):v=.int .u8 x:=by unfold u8V at h;split at h<;>first|contradiction|(cases h;rfl)
theorem u9{v:V}{x:Int}(h:abo v=some x):v=.int .i64 x:=by unfold abo at h;split at h<;>first|contradiction|(cases h;rfl)
theorem aag{v:V}{x:List UInt8}(h:adX v=some x):v=.str x:=by unfold adX at h;split at h<;>first|contradiction|(cases h;rfl)
theorem xR{v:V}{x:Bool}(h:aa5 v=some x):v=.bool x:=by unfold aa5 at h;split at h<;>first|contradiction|(cases h;rfl)
theorem adu{I:Nat->Nat->Prop}{ρ:Nat->Nat}{N:Nat}{l:List UInt8}{cv:Value}(h:VRel I ρ N w (.str l) cv):cv=.string ⟨l.toArray⟩∧l.length<=maxI:=by
 cases h with
 |str _ s c b=>subst c;exact⟨rfl,by rw[AY];exact b⟩
theorem oW{I:Nat->Nat->Prop}{ρ:Nat->Nat}{N:Nat}{k:IntKind}{n:Int}{cv:Value}(h:VRel I ρ N w (.int k n) cv):cv=.int k n∧k.min<=n∧n<=k.max:=by cases h;exact⟨rfl,by assumption⟩
theorem abO{I:Nat->Nat->Prop}{ρ:Nat->Nat}{N:Nat}{b:Bool}{cv:Value}(h:VRel I ρ N w (.bool b) cv):cv=.bool b:=by cases h;rfl
theorem abP{I:Nat->Nat->Prop}{ρ:Nat->Nat}{N:Nat}{k:MK}{v:V}{x:k.T}{cv:Value}(h:k.dval v=some x)(b:VRel I ρ N w v cv):cv=k.valV x∧k.okT x:=by
 cases k with
 |pb=>rw[xR h] at b;exact⟨abO b,trivial⟩
 |ib=>rw[xR h] at b;exact⟨abO b,trivial⟩
 |bs=>rw[aag h] at b;exact adu b
 |bn=>rw[u9 h] at b;exact oW b
 |sn=>rw[u9 h] at b;exact oW b
theorem tC{I:Nat->Nat->Prop}{ρ:Nat->Nat}{N:Nat}{k:MK}{v:V}{x:k.K}{cv:Value}(h:k.dkey v=some x)(b:VRel I ρ N w v cv):cv=k.keyV x:=by
 cases k with
 |pb=>
  rw[ad9 h] at b;cases b with
  |agg _ vs d _ _ c=>
   obtain⟨l⟩:=vs;match l,d,c with
   | [u,e],_,c=>rw[(oW (c 0 _ u rfl rfl)).1,(oW (c 1 _ e rfl rfl)).1];rfl
 |bs=>rw[abN h] at b;exact(oW b).1
 |bn=>rw[abN h] at b;exact(oW b).1
 |ib=>rw[u9 h] at b;exact(oW b).1
 |sn=>rw[aag h] at b;exact(adu b).1
theorem zc{c:TypeId}{k:MK}(h:jA P c k=true)(f:k≠.pb)(x y:k.K):∃d,P.underlying c=some d∧CI d (k.keyV x) (k.keyV y)=some (decide (x=y)):=by
 have b:∀(k:IntKind)(x y:Int)(_:Decidable (x=y)),CI (.int k) (.int k x) (.int k y)=some (decide (x=y)):=λk x y _=>by simp only[CI,if_true,Ab];rw[A2,decide_eq_true_iff,beq_iff_eq]
 cases k with
 |pb=>exact absurd rfl f
 |sn=>
  unfold jA at h;split at h<;>first|contradiction|skip
  rename_i e;refine⟨_,e,?_⟩;simp only[MK.keyV,CI,Ab];rw[A2,decide_eq_true_iff,bytes_beq];constructor;·intro h;simpa using h
  ·rintro rfl;rfl
 |bs=>
     unfold jA at h;split at h<;>first|contradiction|skip
     rename_i e;exact⟨_,e,b _ _ _ _⟩
 |bn=>
     unfold jA at h;split at h<;>first|contradiction|skip
     rename_i e;exact⟨_,e,b _ _ _ _⟩
 |ib=>
     unfold jA at h;split at h<;>first|contradiction|skip
     rename_i e;exact⟨_,e,b _ _ _ _⟩
theorem eP{e:Nat}(b:cn P e=some false){xs:Array Value}{j:Nat}{u:Value}(c:xs[j]? =some u)(w:World):(part e xs j).run P w=.ok u w:=by simp[part,gW b,c]
theorem agY{f:TypeId}(h:jA P f .pb=true):∃e,P.underlying f=some (.array 2 e)∧P.underlying e=some (.int .i64)∧be P e=some 1∧cn P e=some false:=by
 unfold jA at h;split at h<;>first|contradiction|skip
 rename_i e _ j;simp only[Aa,beq_iff_eq] at h;obtain⟨i,b⟩:=h;have d:P.underlying e=some (.int .i64):=by
  unfold wW at b;split at b;·rename_i k' c;rw[c,of_decide_eq_true b]
  ·simp at b
 exact⟨e,j,d,i,by simp[cn,d]⟩
theorem aea{e:TypeId}(t:P.underlying e=some (.int .i64))(f:cn P e=some false)(q:Nat)(a b c d:Int){xs ys:Array Value}(r:xs[0]? =some (.int .i64 a))(j:xs[1]? =some (.int .i64 b))(u:ys[0]? =some (.int .i64 c))(k:ys[1]? =some (.int .i64 d))(w:World):(Op.eqItems (q+1) e 1 xs ys [0,1]).run P w=.ok (decide ((a,b)=(c,d))) w:=by
 have h:∀(p i:Int)(w:World),(BI (q+1) e (.int .i64 p) (.int .i64 i)).run P w=.ok (p==i) w:=by intro p i w;simp[BI,run_underlying t]
 simp only[Op.eqItems,B2,Nat.mul_one,eP f r,eP f j,eP f u,eP f k,Bn,h];by_cases e1:a=c
 ·subst e1;by_cases o:b=d;·subst o;simp[eP f j,eP f k,h]
  ·simp[o,eP f j,eP f k,h]
 ·simp[e1]
theorem aeb{o:TypeId}(h:jA P o .pb=true)(x y:MK.K .pb)(w:World):(Op.equal o (MK.keyV .pb x) (MK.keyV .pb y)).run P w=.ok (decide (x=y)) w:=by
 obtain⟨e,t,q,p,k⟩:=agY h;obtain⟨inf,f,r⟩:∃i,P.info? e=some i∧i.size=1:=by unfold be at p;obtain⟨i,f,h⟩:=Ah.1 p;exact⟨i,f,h⟩
 have j:P.cellsOf e=1:=by simp[Program.cellsOf,f,r]
 obtain⟨a,b⟩:=x;obtain⟨c,d⟩:=y;show (BI (9999+1) o (.agg #[.int .i64 a,.int .i64 b]) (.agg #[.int .i64 c,.int .i64 d])).run P w=_;rw[run_equalIn_array w 9999 _ _ t f,j];exact aea q k 9998 a b c d rfl rfl rfl rfl w
def kH{k:MK}(es:List (k.K×k.T))(x:k.K)(i:Nat):Option (Nat×Value):=match cT es x with
 |some v=>some (i+eC es x,k.valV v)
 |none=>none
theorem wI{k:MK}(e:k.K×k.T)(es:List (k.K×k.T))(x:k.K)(i:Nat):kH (e::es) x i=if e.1=x then some (i,k.valV e.2) else kH es x (i+1):=by
 unfold kH;by_cases h:e.1=x;·simp[cT,eC,h]
 ·simp only[cT,eC,h,if_false];split
  ·congr 2;omega
  ·rfl
theorem pp{A:TypeId}{k:MK}(h:jA P A k=true){es:List (k.K×k.T)}{ents:Array MapEntry}{clock:Nat}(t:cU es ents clock)(x:k.K):(Instr.findKey A (k.keyV x) ents.toList).run P w=.ok (kH es x 0) w:=by
 have p:∀(i:Nat) e en,es[i]? =some e->ents.toList[i]? =some en->en.key=k.keyV e.1∧en.val=k.valV e.2:=λi e en o r=>by obtain⟨-,a,b, -⟩:=t.2.2 i e en o (by simpa using r);exact⟨a,b⟩
 have f:es.length=ents.toList.length:=by simpa using t.1
 generalize ents.toList=l at f p;by_cases u:k=.pb
 ·subst u;rw[run_findKey_eq w ?_ (MK.keyV .pb x) l]
  ·clear t;generalize 0=i;induction es generalizing l i with
   |nil=>have:l=[]:=A4 f.symm;subst this;simp[CF,kH,cT]
   |cons e es v=>
    cases l with
    |nil=>simp at f
    |cons en l=>
     obtain⟨y,z⟩:=p 0 e en rfl rfl;rw[CF,y,z,wI];simp only[B2,aeb h,Bn];by_cases c:e.1=x;·simp[c]
     ·rw[if_neg c,if_neg (by simpa using λe=>c e.symm)];exact v l (by simpa using f) (λj e en o r=>p (j+1) e en (by simpa using o) (by simpa using r)) (i+1)
  ·unfold jA at h;split at h<;>first|contradiction|skip
   rename_i e _ E;rw[E]
 ·obtain⟨d,B, -⟩:=zc h u x x;refine Go.MapKept.run_findKey B ?_;clear t;generalize 0=i;induction es generalizing l i with
  |nil=>have:l=[]:=A4 f.symm;subst this;simp[Do,kH,cT]
  |cons e es v=>
   cases l with
   |nil=>simp at f
   |cons en l=>
    obtain⟨y,z⟩:=p 0 e en rfl rfl;obtain⟨F,q,C⟩:=zc h u x e.1;rw[B] at q;obtain rfl:=Ai q;rw[Do,y,z,wI,C];by_cases c:e.1=x;·simp[c]
    ·rw[if_neg c,decide_eq_false (λe=>c e.symm)];exact v l (by simpa using f) (λj e en o r=>p (j+1) e en (by simpa using o) (by simpa using r)) (i+1)
theorem mS{e:Nat}(k:P.underlying e=some (.int .i64))(d:cn P e=some false)(j:be P e=some 1)(f:Bool)(q:Nat)(a b:Int){xs:Array Value}(o:xs[0]? =some (.int .i64 a))(h:xs[1]? =some (.int .i64 b)):
  (forIn [0,1] DE λi r=>do A8 f (q+1) e (<-part e xs (i*(<-sizeOf e)));pure (ForInStep.yield DE):Sem PUnit).run P w=.ok DE w:=by
 have c:∀(p:Int)(w:World),(A8 f (q+1) e (.int .i64 p)).run P w=.ok () w:=by intro p w;simp[A8,run_underlying k]
 simp only[List.forIn_cons,List.forIn_nil,B2,db j,Bn,Nat.mul_one,eP d o,eP d h,c,DF]
theorem aec{f:TypeId}(h:jA P f .pb=true)(a b:Int)(d:Bool)(q:Nat):(A8 d (q+2) f (.agg #[.int .i64 a,.int .i64 b])).run P w=.ok () w:=by obtain⟨e,k,j,i,c⟩:=agY h;have:=mS (w:=w) j c i d q a b (xs:= #[.int .i64 a,.int .i64 b]) rfl rfl;rw[A8];simp only[B2,run_underlying k,Bn];simp only[Cm,Dx,CG,DR,Nat.div_one];have r:Bq 0 2 1=[0,1]:=rfl;rw[r];simp at this ⊢;rw[this];rfl
theorem afe{c:TypeId}{k:MK}(h:jA P c k=true)(b:k≠.pb)(x:k.K)(f:Bool)(q:Nat):(A8 f (q+1) c (k.keyV x)).run P w=.ok () w:=by
 obtain⟨d,j,i⟩:=zc h b x x;cases k<;>first|exact absurd rfl b|skip
 all_goals
  unfold jA at h;split at h<;>first|contradiction|skip
  rename_i e;simp[A8,run_underlying e,MK.keyV]
theorem oe{d:TypeId}{k:MK}(h:jA P d k=true)(x:k.K)(b:Bool):(A8 b 10000 d (k.keyV x)).run P w=.ok () w:=by
 by_cases c:k=.pb;·subst c;exact aec h x.1 x.2 b 9998
 ·exact afe h c x b 9999
theorem af1(k:MK)(x:k.K)(q:Nat):Br (q+2) (k.keyV x) (k.keyV x)=true:=by
 cases k with
 |pb=>simp[MK.keyV,Br]
 |sn=>exact(bytes_beq _ _).2 rfl
 |_=>simp[MK.keyV,Br]
theorem aah(k:MK)(x:k.K):Br 10000 (k.keyV x) (k.keyV x)=true:=af1 k x 9998
theorem aff{k:MK}{es:List (k.K×k.T)}{x:k.K}{v:k.T}(h:cT es x=some v):es[eC es x]? =some (x,v):=by
 induction es with
 |nil=>simp[cT] at h
 |cons e es c=>
  simp only[cT] at h;by_cases b:e.1=x;·rw[if_pos b] at h;obtain rfl:=Ai h;subst b;simp[eC]
  ·rw[if_neg b] at h;simp only[eC,if_neg b];simpa using c h
theorem abQ{k:MK}{es:List (k.K×k.T)}{x:k.K}{v u:k.T}(h:cT es x=some v):eJ es x u=es.set (eC es x) (x,u):=by
 induction es with
 |nil=>simp[cT] at h
 |cons e es c=>
  simp only[cT] at h;by_cases b:e.1=x;·simp[eJ,eC,b]
  ·rw[if_neg b] at h;simp[eJ,eC,b,c h]
theorem aai{k:MK}{es:List (k.K×k.T)}{x:k.K}{u:k.T}(h:cT es x=none):eJ es x u=es++[(x,u)]∧eC es x=es.length:=by
 induction es with
 |nil=>simp[eJ,eC]
 |cons e es d=>
  simp only[cT] at h;by_cases b:e.1=x;·simp[b] at h
  ·rw[if_neg b] at h;obtain⟨c,f⟩:=d h;simp[eJ,eC,b,c,f]
theorem ahj{k:MK}{es:List (k.K×k.T)}{i:Nat}{y:k.K}{v u:k.T}(h:es[i]? =some (y,v)):uQ es i u=es.set i (y,u):=by
 induction es generalizing i with
 |nil=>simp at h
 |cons e es b=>
  cases i with
  |zero=>simp at h;subst h;rfl
  |succ i=>simp at h;simp[uQ,b h]
theorem cU.set{k:MK}{es:List (k.K×k.T)}{ents:Array MapEntry}{clock:Nat}(h:cU es ents clock){i:Nat}{x:k.K}{v:k.T}(o:k.okT v):
  cU (es.set i (x,v)) (ents.modify i λe=>{e with key:=k.keyV x,val:=k.valV v}) clock:=by
 refine⟨by simp[h.1],by simp[h.2.1],?_⟩;intro j e en b c;rw[At] at b;rw[A3] at c;by_cases f:i=j
 ·subst f;rw[if_pos rfl] at b c;split at b;·cases b;rw[Ah] at c;obtain⟨q,p,rfl⟩:=c;rename_i d;exact⟨(h.2.2 _ _ _ (Ac d) p).1,rfl,rfl,o⟩
  ·simp at b
 ·rw[if_neg f] at b c;exact h.2.2 j e en b c
theorem cU.push{k:MK}{es:List (k.K×k.T)}{ents:Array MapEntry}{clock:Nat}(h:cU es ents clock){x:k.K}{v:k.T}(o:k.okT v):
  cU (es++[(x,v)]) (ents.push {key:=k.keyV x,val:=k.valV v,born:=clock}) (clock+1):=by
 refine⟨by simp[h.1],by simp[h.2.1],?_⟩;intro j e en b d;rcases AG j es.length with f|f;·rw[Am f] at b;rw[Cl,if_neg (by rw[<-h.1];omega)] at d;exact h.2.2 j e en b d
 ·rw[Aj f] at b;have i:j-es.length=0:=by
   have:=(Ad.1 b).1;simp at this;omega
  rw[i] at b;simp at b;subst b;have c:j=ents.size:=by rw[<-h.1];omega
  rw[Cl,if_pos c] at d;obtain rfl:=Ai d;exact⟨by rw[h.2.1];exact c.symm,rfl,rfl,o⟩
theorem abR{id:Nat}{k:MK}{es:List (k.K×k.T)}(c:s.mapO id=some ⟨k,es⟩):s.hp[id]? =some (some [.mp k es]):=by
 unfold St.mapO at c;split at c
 ·rename_i k' e b;cases c;rw[Al] at b;cases d:s.hp[id]? with
  |none=>rw[d] at b;simp at b
  |some x=>rw[d] at b;simp at b;rw[b]
 ·simp at c
theorem SR.putMap(h:SR g s w a){id:Nat}{k:MK}{es r:List (k.K×k.T)}(Y:s.mapO id=some ⟨k,es⟩){ents i:Array MapEntry}{clock d:Nat}(hb:w.heap[g.ρ id]? =some (.map ents clock))(Z:cU r i d):
  SR g (s.setObj id [.mp k r]) {w with heap:=w.heap.setIfInBounds (g.ρ id) (.map i d)} a∧FR g s.hp w g (s.hp.set id (some [.mp k r])) {w with heap:=w.heap.setIfInBounds (g.ρ id) (.map i d)}:=by
 have q:=abR Y;obtain⟨q1,H⟩:=Go.MapKept.heap_set (o':=.map i d) hb;let w':World:={w with heap:=w.heap.setIfInBounds (g.ρ id) (.map i d)}
 have O:w'.heap.size=w.heap.size:=by simp[w']
 have L:∀b j,g.I b j->b≠g.ρ id:=by rintro b j x rfl;exact h.hr.notI id _ q j x
 have y:∀b j,g.I b j->w'.cell? ⟨b,j,none⟩=w.cell? ⟨b,j,none⟩:=by intro b j x;simp only[w',Cc,H b (L b j x)]
 have u:Up g.I g.ρ s.hp.length w g.I g.ρ s.hp.length w':=⟨λ_ _ h=>h,y,λ_ _=>rfl,Ao _⟩
 have t:∀B v cv,OwnOK g w B v cv->OwnOK g w' B v cv:=by intro B v cv N;refine ch N rfl (λb j x=>⟨u.mono b j x,u.cell b j x⟩) ?_;intro b A;refine⟨A,H b ?_,λj hj=>hj⟩;rintro rfl;rw[h.hr.notO id _ q] at A;simp at A
 have hl:id<s.hp.length:=(Ad.1 q).1;have split:∀(f:Nat) o',(s.hp.set id (some [V.mp k r]))[f]? =some (some o')->(f=id∧o'=[V.mp k r])∨(f≠id∧s.hp[f]? =some (some o')):=by
  intro f o' o;rw[At] at o;split at o;·rename_i e;simp[hl] at o;exact .inl ⟨e.symm,o.symm⟩
  ·rename_i e;exact .inr ⟨λX=>e X.symm,o⟩
 have z:∀(f:Nat) o',(s.hp.set id (some [V.mp k r]))[f]? =some (some o')->∃E,s.hp[f]? =some (some E):=by
  intro f o' o;rcases split f o' o with⟨rfl,_⟩|⟨_,o⟩
  ·exact⟨_,q⟩
  ·exact⟨_,o⟩
 refine⟨⟨⟨?_,?_,?_,?_,?_,?_⟩,⟨h.er.size,?_,?_⟩⟩,⟨rfl,rfl,rfl,rfl,by rw[O];exact Ao _,?_,?_,λ_ _ _ _ _ x=>x,λ_ _ _ hO=>hO,?_⟩⟩
 ·intro f o' o;simp only[St.setObj,AL];rcases split f o' o with⟨rfl,rfl⟩|⟨C,o⟩
  ·exact⟨by simp[kg],λk2 W F=>by cases F;exact⟨i,d,q1,Z⟩⟩
  ·refine(h.hr.obj f o' o).keep ?_ λR e2 S k1 k2=>⟨k2.len,k2.plain,k2.typedUp rfl u.rho u.num rfl,k2.cold,k2.one,λj c cv F p=>(k2.rel j c cv F p).up u,λj c cv F p=>t _ _ _ (k2.own j c cv F p),k2.bn⟩
   exact H _ (h.hr.apart f id o' _ o q C)
 ·intro id1 J G c2 k1 k2 C;obtain⟨_,k1⟩:=z id1 G k1;obtain⟨_,k2⟩:=z J c2 k2;exact h.hr.apart _ _ _ _ k1 k2 C
 ·intro id1 G k1;obtain⟨_,k1⟩:=z id1 G k1;exact h.hr.notI _ _ k1
 ·intro id1 G k1;obtain⟨_,k1⟩:=z id1 G k1;exact h.hr.notO _ _ k1
 ·intro b j x;have:=y b j x;rw[this];exact h.hr.exI b j x
 ·intro b oc A;rw[O];exact h.hr.oLt b oc A
 ·intro n v cv o p;simp only[St.setObj,AL];exact(h.er.rel n v cv o p).up u
 ·intro n v cv o p;exact t _ _ _ (h.er.own n v cv o p)
 ·intro b _ M _;exact H b (λe=>M id _ q e.symm)
 ·simp only[AL];exact u
 ·intro f o' o;obtain⟨E,o⟩:=z f o' o;exact .inl ⟨E,o⟩
theorem SR.newMap(h:SR g s w a)(k:MK)(d:Nat):
  ∃g',SR g' {s.set d (.mr s.hp.length) with hp:=s.hp++[some [.mp k []]]} (w.alloc (.map #[] 0)) (a.put (some d) (.map (some w.heap.size)))∧
   FR g s.hp w g' (s.hp++[some [.mp k []]]) (w.alloc (.map #[] 0)):=by
 obtain⟨W,J,Z⟩:=ce w (.map #[] 0);let w':=w.alloc (.map #[] 0);let g':Gh:={g with ρ:=λid=>if id=s.hp.length then w.heap.size else g.ρ id}
 have B:∀b j,g.I b j->b<w.heap.size:=by intro b j p;obtain⟨v,hv⟩:=A0.1 (h.hr.exI b j p);exact BP _ _ hv
 have t:∀b j,b<w.heap.size->w'.cell? ⟨b,j,none⟩=w.cell? ⟨b,j,none⟩:=by intro b j z;simp only[w',Cc,J b z]
 have u:Up g.I g.ρ s.hp.length w g'.I g'.ρ (s.hp++[some [V.mp k []]]).length w':=
  ⟨λb j p=>p,λb j p=>t b j (B b j p),λid e=>by simp[g',Bm e],by simp⟩
 have E:∀(id:Nat) cs,s.hp[id]? =some (some cs)->g.ρ id<w.heap.size:=by intro id cs e;exact(h.hr.obj id cs e).lt
 have r:∀x v cv,OwnOK g w x v cv->OwnOK g' w' x v cv:=by intro x v cv ho;refine ch ho rfl (λb j p=>⟨u.mono b j p,u.cell b j p⟩) ?_;intro b z;exact⟨z,J b (h.hr.oLt b x z),λj hj=>hj⟩
 have split:∀(id:Nat) o,(s.hp++[some [V.mp k []]])[id]? =some (some o)->(id<s.hp.length∧s.hp[id]? =some (some o))∨(id=s.hp.length∧o=[V.mp k []]):=by
  intro id o e;rcases AG id s.hp.length with p|p;·rw[Am p] at e;exact .inl ⟨p,e⟩
  ·rw[Aj p] at e;have L:id-s.hp.length=0:=by
    rcases DZ (id-s.hp.length) with L|L;·exact L
    ·rw[AR (by simp;omega)] at e;simp at e
   rw[L] at e;simp at e;exact .inr ⟨by omega,e.symm⟩
 have i:g'.ρ s.hp.length=w.heap.size:=by simp[g']
 have f:∀id,id<s.hp.length->g'.ρ id=g.ρ id:=λid e=>by simp[g',Bm e]
 have hs:SR g' {s with hp:=s.hp++[some [V.mp k []]]} w' a:=by
  refine⟨⟨?_,?_,?_,?_,?_,?_⟩,⟨h.er.size,?_,?_⟩⟩
  ·intro id o e;rcases split id o e with⟨p,e⟩|⟨rfl,rfl⟩
   ·refine(h.hr.obj id o e).keep ?_ λR e' fz k1 k2=>⟨k2.len,k2.plain,k2.typedUp rfl u.rho u.num rfl,k2.cold,k2.one,λj c cv H q=>(k2.rel j c cv H q).up u,λj c cv H q=>r _ _ _ (k2.own j c cv H q),by rw[f id p];exact k2.bn⟩
    rw[f id p];exact J _ (E id o e)
   ·refine⟨by simp[kg],λk2 Y H=>?_⟩;cases H;exact⟨#[],0,by rw[i];exact Z,rfl,rfl,by simp⟩
  ·intro id C o o' k1 k2 F;rcases split id o k1 with⟨p,X⟩|⟨e1, -⟩<;>rcases split C o' k2 with⟨G,m2⟩|⟨N, -⟩
   ·rw[f _ p,f _ G];exact h.hr.apart id C o o' X m2 F
   ·rw[f _ p,N,i];exact Bm (E id o X)
   ·rw[f _ G,e1,i];exact(Bm (E C o' m2)).symm
   ·exact absurd (e1.trans N.symm) F
  ·intro id o e j p;rcases split id o e with⟨y,e⟩|⟨rfl,rfl⟩
   ·rw[f _ y] at p;exact h.hr.notI id o e j p
   ·rw[i] at p;have:=B _ _ p;omega
  ·intro id o e;rcases split id o e with⟨y,e⟩|⟨rfl,rfl⟩
   ·rw[f _ y];exact h.hr.notO id o e
   ·rw[i];cases M:g.O w.heap.size with
    |none=>rfl
    |some S=>have:=h.hr.oLt _ _ M;omega
  ·intro b j p;rw[t b j (B b j p)];exact h.hr.exI b j p
  ·intro b S z;have:=h.hr.oLt b S z;show b<w'.heap.size;rw[W];omega
  ·intro n v cv A q;exact(h.er.rel n v cv A q).up u
  ·intro n v cv A q;exact r _ _ _ (h.er.own n v cv A q)
 refine⟨g',?_,rfl,rfl,rfl,rfl,by rw[W];omega,λb z _ _=>J b z,u,λb j _ _ _ p=>p,λb _ _ M=>M,?_⟩
 ·have:=hs.set d (v:=.mr s.hp.length) (cv:=.map (some w.heap.size)) (by
   rw[<-i];exact .mr _ (by simp)) (by simp[OwnOK])
  exact this
 ·intro id o e;rcases split id o e with⟨y,e⟩|⟨rfl,rfl⟩
  ·exact .inl ⟨o,e⟩
  ·exact .inr ⟨Ao _,.inl (by rw[i];exact Ao _)⟩
theorem abS{d:Nat}{k:MK}(b:kG P (.mkm d k) m=true)(f:step Γ (.mkm d k) s=some (true,s'))(h:SR g s w a)(c:ax g s w a s' next):m.wp P a w next Q:=by
 obtain⟨dst,o,j,i,e,p⟩:=m;simp only[kG,Aa,beq_iff_eq] at b;obtain⟨rfl,b⟩:=b;split at b
 ·obtain rfl:_=s':=by simpa [step] using f
  exact bQ rfl (w':=w.alloc (.map #[] 0)) (cv:=.map (some w.heap.size)) (by simp[execOp,Instr.makeMap]) (h.newMap k d) c
 ·simp at b
theorem rN(h:SR g s w a){id:Nat}{k:MK}{es:List (k.K×k.T)}(b:s.mapO id=some ⟨k,es⟩):∃ents clock,w.heap[g.ρ id]? =some (.map ents clock)∧cU es ents clock:=(h.hr.obj id _ (abR b)).map k es rfl
theorem abT{I:Nat->Nat->Prop}{ρ:Nat->Nat}{N:Nat}(k:MK)(ok:Bool)(r:Option k.T)(h:∀v,r=some v->k.okT v):VRel I ρ N w (uR k ok r) (if ok then .tuple #[k.valV (r.getD k.zero),.bool r.isSome] else k.valV (r.getD k.zero)):=by
 have e:VRel I ρ N w (k.val (r.getD k.zero)) (k.valV (r.getD k.zero)):=abM k _ (by
  cases r with
  |none=>exact w9 k
  |some v=>exact h v rfl)
 cases ok with
 |false=>exact e
 |true=>
  refine .tup _ _ rfl ?_;intro i c cv d b;match i with
  |0=>simp at d b;subst d b;exact e
  |1=>simp at d b;subst d b;exact .bool _
  |i+2=>simp at d
theorem abU(g:Gh)(w:World)(b:Occ)(k:MK)(ok:Bool)(r:Option k.T)(cv:Value):OwnOK g w b (uR k ok r) cv:=by
 cases ok;·cases k<;>simp[uR,MK.val,OwnOK]
 ·simp[uR,OwnOK]
theorem zd{k:MK}{es:List (k.K×k.T)}{ents:Array MapEntry}{clock:Nat}(j:cU es ents clock){x:k.K}{v:k.T}(h:cT es x=some v):eC es x<es.length∧k.okT v∧∃en,ents[eC es x]? =some en∧en.key=k.keyV x∧en.val=k.valV v∧en.born=eC es x:=by have e:=aff h;have i:=(Ad.1 e).1;have f:ents[eC es x]? =some (ents[eC es x]'(by rw[<-j.1];exact i)):=Ag _;obtain⟨a,b,c,d⟩:=j.2.2 _ _ _ e f;exact⟨i,d,_,f,b,c,a⟩
theorem ahk{d:Nat}{k:MK}{ok:Bool}{x y:ac}(i:kG P (.mget d k ok x y) m=true)(b:step Γ (.mget d k ok x y) s=some (true,s'))(h:SR g s w a)(F:ax g s w a s' next):m.wp P a w next Q:=by
 obtain⟨dst,op,ty,G,R,gd⟩:=m;simp only[kG,Aa,beq_iff_eq] at i;obtain⟨rfl,i⟩:=i;split at i
 ·rename_i t H Y S;simp only[Aa,beq_iff_eq] at i;obtain⟨M,rfl,W,N⟩:=i;obtain⟨X,e,E,q,u⟩:=sp M;have o:=af W h.er;have C:=af N h.er;generalize j:a.eval H=Z at o;simp only[step] at b;split at b
  ·rename_i z;rw[z] at o;cases o;simp only[Ah] at b;obtain⟨key,r,b⟩:=b;obtain rfl:_=s':=by simpa using b
   have f:=tC r C;have c:=oe (w:=w) q key true;have p:=pp (P:=P) (w:=w) q (k:=k) (es:=[]) (ents:= #[]) (clock:=0) ⟨rfl,rfl,by simp⟩ key;refine bQ rfl (w':=w) (cv:=if ok then .tuple #[k.valV k.zero,.bool false] else k.valV k.zero) ?_ ⟨g,h.set d (abT k ok none (by simp)) (abU _ _ _ _ _ _ _),FR.refl _ _ _⟩ F;simp[execOp,DN,run_underlying E,j,f,c,kH,cT,u w] at p ⊢;rw[p];simp[u w]
  ·rename_i id z;rw[z] at o;cases o;split at b
   ·rename_i k' es L;split at b
    ·rename_i A;subst A;simp only[Ah] at b;obtain⟨key,r,b⟩:=b;obtain rfl:_=s':=by simpa using b
     have f:=tC r C;obtain⟨ents,clock,O,B⟩:=rN h L;have c:=oe (w:=w) q key ents.isEmpty;have p:=pp (P:=P) (w:=w) q B key;refine bQ rfl (w':=w) (cv:=if ok then .tuple #[k'.valV ((cT es key).getD k'.zero),.bool (cT es key).isSome] else k'.valV ((cT es key).getD k'.zero)) ?_ ⟨g,h.set d (abT k' ok _ (λv J=>(zd B J).2.1)) (abU _ _ _ _ _ _ _),FR.refl _ _ _⟩ F;simp only[execOp,DN,j,f,B2,run_underlying E,Go.MapKept.run_getObj_map O,Bn,DF,c,p];unfold kH;cases I:cT es key with
     |none=>simp[u w]
     |some v=>simp
    ·simp at b
   ·simp at b
  ·simp at b
 ·simp at i
theorem keeps{c b:Value}(h:Br 10000 c b=true)(w:World):(C4 c b).run P w=.ok b w:=by simp[C4,h]
theorem ahl{d:Option Nat}{k:MK}{x y z:ac}(f:kG P (.mput d k x y z) m=true)(o:step Γ (.mput d k x y z) s=some (true,s'))(h:SR g s w a)(hn:ax g s w a s' next):m.wp P a w next Q:=by
 obtain⟨dst,L,W,u,C,N⟩:=m;simp only[kG,Aa,beq_iff_eq] at f;obtain⟨rfl,f⟩:=f;have r:∀t p A E,(∀ρ:Operand->Value,execOp ρ ⟨dst,L,W,u,C,N⟩=(do Cf t (ρ p) (ρ A) (ρ E);pure .skip))->rM P t k=true->ag x p=true->ag y A=true->ag z E=true->(⟨dst,L,W,u,C,N⟩:Oper).wp P a w next Q:=by
  intro t p A E X h1 h2 h3 h4;obtain⟨kt,e,hu,ht,hz⟩:=sp h1;have J:=af h2 h.er;have r2:=af h3 h.er;have r3:=af h4 h.er;generalize I:a.eval p=cx at J;simp only[step] at o;split at o
  ·rename_i id hx;rw[hx] at J;cases J;split at o
   ·rename_i k' es Y;split at o
    ·rename_i R;subst R;split at o
     ·rename_i key v hk hv;obtain rfl:_=s':=by simpa using o
      have M:=tC hk r2;obtain⟨S,F⟩:=abP hv r3;obtain⟨ents,clock,G,H⟩:=rN h Y;have q:=oe (w:=w) ht key false;have Z:=pp (P:=P) (w:=w) ht H key;have fin:∀c b B,cU B c b->B=eJ es key v->(Cf t (.map (some (g.ρ id))) (k'.keyV key) (k'.valV v)).run P w=.ok () {w with heap:=w.heap.setIfInBounds (g.ρ id) (.map c b)}->(⟨dst,L,W,u,C,N⟩:Oper).wp P a w next Q:=by
       rintro c b B O rfl hr;obtain⟨p1,p2⟩:=h.putMap Y G O;unfold Ch C6;rw[X,I,M,S];simp only[B2,hr,Bn,DF];cases dst with
       |none=>exact hn _ _ g p1 p2 rfl
       |some d=>exact hn _ _ g (p1.set d (.undef _) (by simp[OwnOK])) p2 rfl
      cases j:cT es key with
      |some v0=>obtain⟨b1,b2,en,b3,b4,b5,b6⟩:=zd H j;refine fin _ _ _ (H.set (i:=eC es key) (x:=key) F) (abQ j).symm ?_;simp[Cf,run_underlying hu,Go.MapKept.run_getObj_map G,q,Z,kH,j,b3,b4,keeps (aah k' key),Go.MapKept.run_setObj_map _ G]
      |none=>refine fin _ _ _ (H.push (x:=key) F) (aai j).1.symm ?_;simp[Cf,run_underlying hu,Go.MapKept.run_getObj_map G,q,Z,kH,j,Go.MapKept.run_setObj_map _ G]
     ·simp at o
    ·simp at o
   ·simp at o
  ·simp at o
 split at f;·rename_i t p A E;simp only[Aa] at f;exact r t p A E (λρ=>by simp[execOp]) f.1 f.2.1 f.2.2.1 f.2.2.2
 ·rename_i t p A E;simp only[Aa] at f;exact r t p A E (λρ=>by simp[execOp]) f.1 f.2.1 f.2.2.1 f.2.2.2
 ·simp at f
theorem ze{d:Nat}{k:MK}{x y:ac}(p:kG P (.ment d k x y) m=true)(r:step Γ (.ment d k x y) s=some (true,s'))(h:SR g s w a)(hn:ax g s w a s' next):m.wp P a w next Q:=by
 obtain⟨dst,op,ty,F,M,gd⟩:=m;simp only[kG,Aa,beq_iff_eq] at p;obtain⟨rfl,p⟩:=p;split at p
 ·rename_i t R y';simp only[Aa] at p;obtain⟨h1,h2,h3⟩:=p;obtain⟨kt,e,Z,ht,hz⟩:=sp h1;have I:=af h2 h.er;have r2:=af h3 h.er;generalize G:a.eval R=cx at I;simp only[step] at r;split at r
  ·rename_i id hx;rw[hx] at I;cases I;split at r
   ·rename_i k' es W;split at r
    ·rename_i N;subst N;split at r
     ·rename_i key hk;obtain⟨av,rfl⟩:es.length<=cd∧_=s':=by simpa using r
      have O:=tC hk r2;obtain⟨ents,clock,E,B⟩:=rN h W;have z:=oe (w:=w) ht key false;have X:=pp (P:=P) (w:=w) ht B key;have C:∀i:Nat,i<=cd->IntKind.i64.min<=(i:Int)∧(i:Int)<=IntKind.i64.max:=λi hi=>by
       have:cd=140737488355328:=rfl;constructor;·exact Int.le_trans (by decide) (Int.natCast_nonneg i)
       ·exact Int.le_trans (Int.ofNat_le.2 hi) (by decide)
      have fin:∀f b A v0 (j:Nat),cU A f b->v0=(cT es key).getD k'.zero->k'.okT v0->j=eC es key->j<=cd->A=eJ es key v0->(CO t (.map (some (g.ρ id))) (k'.keyV key)).run P w=.ok (.tuple #[k'.valV v0,goInt j]) {w with heap:=w.heap.setIfInBounds (g.ρ id) (.map f b)}->(⟨some d,.mapEntry t R y',ty,F,M,gd⟩:Oper).wp P a w next Q:=by
       rintro f b A v0 j L rfl J rfl hj rfl hr;obtain⟨p1,p2⟩:=h.putMap W E L;refine bQ rfl (w':={w with heap:=w.heap.setIfInBounds (g.ρ id) (.map f b)}) (cv:=.tuple #[k'.valV ((cT es key).getD k'.zero),goInt (eC es key)]) (by simp[execOp,G,O,hr]) ⟨g,p1.set d ?_ (by simp[OwnOK]),p2⟩ hn;refine .tup _ _ rfl ?_;intro i c cv p v;match i with
       |0=>simp at p v;subst p v;exact abM k' _ J
       |1=>simp at p v;subst p v;exact .int _ _ (C _ hj)
       |i+2=>simp at p
      cases o:cT es key with
      |some v0=>
       obtain⟨b1,Y,en,S,b4,b5,b6⟩:=zd B o;refine fin (ents.modify (eC es key) λe=>{e with key:=k'.keyV key}) clock _ v0 (eC es key) ?_ (by rw[o];rfl) Y rfl (by omega) (abQ o).symm ?_
       ·have:=B.set (i:=eC es key) (x:=key) Y;have e3:(ents.modify (eC es key) λe=>{e with key:=k'.keyV key,val:=k'.valV v0})=ents.modify (eC es key) λe=>{e with key:=k'.keyV key}:=by
         apply C9;intro q;rw[A3,A3];split;·rename_i e;subst e;rw[S];simp[b5]
         ·rfl
        rw[e3] at this;exact this
       ·simp[CO,run_underlying Z,Go.MapKept.run_getObj_map E,z,X,kH,o,S,b4,b6,keeps (aah k' key),Go.MapKept.run_setObj_map _ E]
      |none=>
       obtain⟨m1,m2⟩:=aai (u:=k'.zero) o;have H:clock=es.length:=by rw[B.2.1,B.1]
       refine fin _ _ _ k'.zero clock (B.push (x:=key) (w9 k')) (by rw[o];rfl) (w9 k') (H.trans m2.symm) (by omega) m1.symm ?_;simp[CO,run_underlying Z,Go.MapKept.run_getObj_map E,z,X,kH,o,hz w,Go.MapKept.run_setObj_map _ E]
     ·simp at r
    ·simp at r
   ·simp at r
  ·simp at r
 ·simp at p
theorem va{k:MK}{es:List (k.K×k.T)}{ents:Array MapEntry}{clock:Nat}(h:cU es ents clock){i:Nat}(o:i<es.length):ents.findIdx? (λe=>(e.born:Int)==(i:Int))=some i:=by
 have f:∀j (c:j<ents.size),ents[j].born=j:=by
  intro j c;have d:j<es.length:=by rw[h.1];exact c
  exact(h.2.2 j _ _ (Ac d) (Ag c)).1
 have b:i<ents.size:=by rw[<-h.1];exact o
 rw[Dj];refine⟨b,by simp[f i b],?_⟩;intro j c;simp[f j (by omega)];omega
theorem zf{d:Option Nat}{x i v:ac}(f:kG P (.mest d x i v) m=true)(c:step Γ (.mest d x i v) s=some (true,s'))(h:SR g s w a)(W:ax g s w a s' next):m.wp P a w next Q:=by
 obtain⟨dst,op,ty,z,L,gd⟩:=m;simp only[kG,Aa,beq_iff_eq] at f;obtain⟨rfl,f⟩:=f;split at f
 ·rename_i t N O Z;simp only[Aa] at f;obtain⟨h2,h3,h4⟩:=f;have G:=af h2 h.er;have H:=af h3 h.er;have r3:=af h4 h.er;generalize A:a.eval N=cx at G;generalize B:a.eval O=ci at H;simp only[step] at c;split at c
  ·rename_i id q n hx hi;rw[hx] at G;rw[hi] at H;cases G;cases H;split at c
   ·rename_i k es R;split at c
    ·rename_i y hy;obtain⟨⟨F,Y⟩,rfl⟩:(0<=n∧n<es.length)∧_=s':=by simpa using c
     obtain⟨j,rfl⟩:=Int.eq_ofNat_of_zero_le F;have b:j<es.length:=by omega
     obtain⟨M,I⟩:=abP hy r3;obtain⟨ents,clock,J,u⟩:=rN h R;have X:es[j]? =some ((es[j]'b).1,(es[j]'b).2):=Ac b;have E:j<ents.size:=by rw[<-u.1];exact b
     have r:ents[j]? =some ents[j]:=Ag E;obtain⟨C,o, -, -⟩:=u.2.2 _ _ _ X r;have p:=u.set (i:=j) (x:=(es[j]'b).1) I;have e3:(ents.modify j λe=>{e with key:=k.keyV (es[j]'b).1,val:=k.valV y})=ents.modify j λe=>{e with val:=k.valV y}:=by
      apply C9;intro q;rw[A3,A3];split;·rename_i e;subst e;rw[r];simp[<-o]
      ·rfl
     rw[e3,<-ahj X] at p;obtain⟨S,p2⟩:=h.putMap R J p;have hf:=va u b;have hr:(execOp a.eval ⟨dst,.entryStore t N O Z,ty,z,L,gd⟩).run P w=.ok .skip {w with heap:=w.heap.setIfInBounds (g.ρ id) (.map (ents.modify j λe=>{e with val:=k.valV y}) clock)}:=by simp[execOp,Instr.entryStore,A,B,M,Go.MapKept.run_getObj_map J,asInt,asIntOf,hf,Go.MapKept.run_setObj_map _ J]
     unfold Ch C6;rw[hr];cases dst with
     |none=>exact W _ _ g S p2 rfl
     |some d=>exact W _ _ g (S.set d (.undef _) (by simp[OwnOK])) p2 rfl
    ·simp at c
   ·simp at c
  ·simp at c
 ·simp at f
end
end
def af2(P:Program)(o:IOp)(m:Oper):Bool:=
 match o with
 | .apo d k x y=>kW P (.apu d k x y) m
 |_=>false
section
variable{w w':World}{g g':Gh}{s s':St}{a:Act}{P:Program}{Γ:ao}{m:Oper}{next:Act->World->Prop}{Q:Exit->Act->World->Prop}
theorem ahX{d:Nat}{k:EK}{x y:ac}(i:g.β=mj P)(j:af2 P (.apo d k x y) m=true)(b:step Γ (.apo d k x y) s=some (true,s'))(h:SR g s w a)(H:ax g s w a s' next):m.wp P a w next Q:=by
 have j:kW P (.apu d k x y) m=true:=j;simp only[step] at b;split at b
 ·rename_i k1 l k2 L c G t;split at b
  ·rename_i e1;split at b
   ·rename_i q;subst e1 q;split at b;case isFalse=>cases b
    rename_i J;simp only[Ab,Ae,Aa,decide_eq_true_eq] at b;obtain⟨⟨F,E⟩,rfl⟩:=b;have p:(x.after s).hp=s.hp:=by cases x<;>rfl
    have e:(x.after s).env.length=s.env.length:=by cases x<;>simp[ac.after,St.set]
    refine ae6 (s':=(x.after s).set d (.ul k2 (l++c))) (Γ:=Γ) i j ?_ h ?_;·simp only[step,G,t];simp[F]
    ·intro A w' g' I z u;have B:(io.opn (.slot d)).step ((x.after s).set d (.ul k2 (l++c)))=some (true,{(x.after s).set d (.sw k2 s.hp.length (l++c).length) with hp:=s.hp++[some [.rw k2 (l++c)],none]}):=by
      have r:((x.after s).set d (.ul k2 (l++c))).get d=.ul k2 (l++c):=by simp[St.get,St.set,Al,e,J]
      have o:((x.after s).set d (.ul k2 (l++c))).hp=s.hp:=p;simp only[io.step,St.at?,r,St.put?,o];have:0<(l++c).length:=E;simp only[this,decide_true,St.set,List.set_set,p]
     obtain⟨f,v,C⟩:=aae I B;exact H A w' f v (z.trans C) u
   ·simp at b
  ·simp at b
 ·simp at b
end
def gJ:List ac->List Operand->Bool
 | [],[]=>true
 |x::xs,y::ys=>ag x y&&gJ xs ys
 |_,_=>false
def qL:Op->Option (FuncId×List Operand)
 | .call c=>match c.callee with| .value (.func f)=>some (f,c.args.toList)|_=>none
 |_=>none
def qM:Op->Option (Operand×List Operand)
 | .call c=>match c.callee with| .value (.tmp n)=>some (.tmp n,c.args.toList)|_=>none
 |_=>none
def kJ(P:Program)(f:FuncId):Bool:=match P.funcs[f]? with|some fn=>fn.body.isSome&&fn.name !="runtime.NumGoroutine"|none=>false
def iS(P:Program)(o:IOp)(m:Oper):Bool:=
 match o with
 | .call d f avs=>(m.dst==d)&&(match qL m.op with|some (e,b)=>(f==e)&&(gJ avs b&&kJ P f)|none=>false)
 | .dcall d f x avs=>(m.dst==d)&&(match qM m.op with|some (c,b)=>ag x c&&(gJ avs b&&kJ P f)|none=>false)
 |_=>false
def aed(P:Program)(o:IOp)(m:Oper):Bool:=aY P o m||pD P o m||iS P o m||lL P o m||adq P o m||adt P o m||gt P o m||kW P o m||kG P o m||af2 P o m||ahW P o m
def oX(P:Program)(c:Array Oper)(x:GOp)(m:Oper):Bool:=
 aed P x.o m&&(x.o.dst==m.dst)&&(match x.g,m.guard with
  |none,none=>true
  |some (n,b),some (j,d)=>(b==d)&&((c[j]?).bind (·.dst)==some n)
  |_,_=>false)
def fU(P:Program)(b:Array Oper):Nat->List GOp->Bool
 |i,[]=>i==b.size
 |i,x::l=>(match b[i]? with|some m=>oX P b x m|none=>false)&&fU P b (i+1) l
def jJ(P:Program)(d:List Nat)(c:Array Oper)(l:List GOp)(b:List (List Nat)):Bool:=
 (P.follows .mixedOrders&&fU P c 0 l)&&((AE l.length).all λj=>
  (match c[j]? with
   |some m=>m.after.toList.all (λe=> !Region.binds .any e||decide (e.on<j))&&(b.getD j []).all (λi=>m.after.toList.any λe=>CE .any e&&(e.on==i||(b.getD e.on []).contains i))
   |none=>false)&&
  (match l[j]? with
   |some x=>(AE j).all λi=>(b.getD j []).contains i||(match l[i]? with|some y=>xM d y x|none=>false)
   |none=>false))
def au(P:Program)(e:List Nat)(b:Nat):IR->Code->Bool
 | .bad,_=>true
 | .skip,.skip=>true
 | .skip,.label _=>true
 | .reg l _,.region _ f false=>fU P f 0 l
 | .reg l h,.region _ f true=>jJ P e f l h
 | .seq x y,.seq c d=>au P e b x c&&au P e b y d
 | .cond v x y,.cond u c d=>ag v u&&(au P e b x c&&au P e b y d)
 | .block i x,.block j c=>i==j&&au P e b x c
 | .loop _ n x,.loop c=>AO b n&&au P e b x c
 | .cut _ n x,c=>AO b n&&au P e b x c
 | .gh _ x,c=>au P e b x c
 | .ope _ x,c=>au P e b x c
 | .ghp _ x,c=>au P e b x c
 | .exit i,.exit j=>i==j
 | .ret,.ret=>true
 |_,_=>false
def sq(P:Program)(g:Gh)(w:World):Prop:=g.β=mj P∧(y5≠[]->g.I sj 0∧g.O sj=none∧sj<w.heap.size∧∃t,w.heap[sj]? =some (.cells y5.toArray t (0,0)))
structure tD(P:Program)(g:Gh)(hp:List al)(w:World):Prop where
 base:sq P g w
 notI:∀(id:Nat) cs,hp[id]? =some (some cs)->∀j,¬g.I (g.ρ id) j
theorem tD.on{P:Program}{c g:Gh}{b hp:List al}{d w:World}(h:tD P c b d)(f:FR c b d g hp w):sq P g w:=by
 refine⟨f.beta.trans h.base.1,λk=>?_⟩;obtain⟨o,q,i,t,r⟩:=h.base.2 k;have p:∀(id:Nat) cs,b[id]? =some (some cs)->c.ρ id≠sj:=λid cs j e=>h.notI id cs j 0 (e▸o)
 exact⟨f.up.mono _ _ o,f.oSame _ i p q,AF i f.size,t,(f.block _ i p q).trans r⟩
theorem sq.sub{P:Program}{g b:Gh}{w:World}(h:sq P g w)(e:b.β=g.β)(d:g.I sj 0->b.I sj 0)(f:g.O sj=none->b.O sj=none):sq P b w:=
 ⟨e.trans h.1,λc=>have k:=h.2 c;⟨d k.1,f k.2.1,k.2.2⟩⟩
def FnOK(P:Program)(f:FuncId)(vs:List V)(hp:List al)(v:V)(hp':List al):Prop:=
 ∀(w:World)(g:Gh)(cargs:Array Value),sq P g w->HR g hp w->vs.length=cargs.size->(∀x∈vs,x.bare=true)->
  (∀(i:Nat) x cv,vs[i]? =some x->cargs[i]? =some cv->VRel g.I g.ρ hp.length w x cv)->
  Calls P f cargs w λe w'=>∃cv b,e=.returned cv∧HR b hp' w'∧FR g hp w b hp' w'∧VRel b.I b.ρ hp'.length w' v cv∧OwnOK b w' .res v cv
def bt(P:Program)(Γ:ao):Prop:=∀f vs hp v hp',Γ f vs hp=some (true,v,hp')->FnOK P f vs hp v hp'
section
variable{w:World}{g:Gh}{s s':St}{a:Act}{P:Program}{Γ:ao}{m:Oper}{next:Act->World->Prop}{Q:Exit->Act->World->Prop}
theorem lN(h:ER g s.hp.length w s.env a.tmps):∀(xs:List ac)(ys:List Operand),gJ xs ys=true->xs.length=ys.length∧
  ∀(i:Nat) v cv,(xs.map λx=>disown (x.ev s))[i]? =some v->(ys.map a.eval)[i]? =some cv->VRel g.I g.ρ s.hp.length w v cv
 | [],[],_=>⟨rfl,by simp⟩
 |x::xs,y::ys,hp=>by
  simp only[gJ,Aa] at hp;obtain⟨k1,k2⟩:=lN h xs ys hp.2;refine⟨by simp[k1],?_⟩;intro i v cv c b;cases i with
  |zero=>simp at c b;subst c b;exact(af hp.1 h).disown
  |succ i=>exact k2 i v cv (by simpa using c) (by simpa using b)
 | [],_::_,hp=>by simp[gJ] at hp
 |_::_,[],hp=>by simp[gJ] at hp
theorem ss{o:Op}{f:FuncId}{avs:List Operand}(h:qL o=some (f,avs)):∃ts,o=.call ⟨.value (.func f),⟨avs⟩,ts⟩:=by
 unfold qL at h;split at h
 ·rename_i c;obtain⟨b,⟨d⟩,e⟩:=c;simp only at h;split at h;·simp only[Ab,Ae] at h;obtain⟨rfl,rfl⟩:=h;exact⟨_,rfl⟩
  ·simp at h
 ·simp at h
def Gh.hide(g:Gh):Gh:={g with O:=λb=>match g.O b with|some (.slot _)=>none|o=>o}
theorem HR.hide{hp:List al}(h:HR g hp w):HR g.hide hp w:=by
 refine⟨?_,h.apart,h.notI,?_,h.exI,?_⟩
 ·intro id cs f;refine(h.obj id cs f).keep rfl λr e x v d=>?_
  refine⟨d.len,d.plain,d.typed,d.cold,d.one,d.rel,?_,d.bn⟩;intro j c cv t k;have:=d.own j c cv t k;refine ch this rfl (λb j u=>⟨u,rfl⟩) ?_;intro b i;exact⟨by simp[Gh.hide,i],rfl,λj q=>q⟩
 ·intro id cs f;simp[Gh.hide,h.notO id cs f]
 ·intro b o i;cases p:g.O b with
  |none=>simp[Gh.hide,p] at i
  |some o'=>exact h.oLt b o' p
def Gh.back(g c:Gh)(dst:Option Nat):Gh:={I:=c.I,ρ:=c.ρ,β:=c.β,O:=λb=>match g.O b with
 |some (.slot n)=>some (.slot n)
 |_=>match c.O b with
  |some .res=>dst.map .slot
  |some (.slot _)=>none
  |o=>o}
theorem Gh.back_else{g d:Gh}{dst:Option Nat}{b:Nat}(h:∀n,g.O b≠some (.slot n)):(g.back d dst).O b=(match d.O b with
  |some .res=>dst.map .slot
  |some (.slot _)=>none
  |o=>o):=by
 cases c:g.O b with
 |none=>simp only[Gh.back,c]
 |some o=>
  cases o with
  |slot n=>exact absurd c (h n)
  |cell i j=>simp only[Gh.back,c]
  |res=>simp only[Gh.back,c]
theorem rO{hp':List al}{w':World}{t:Gh}{dst:Option Nat}{v:V}{cv:Value}(h:SR g s w a)(M:HR t hp' w')(x:FR g.hide s.hp w t hp' w')
  (q3:VRel t.I t.ρ hp'.length w' v cv) (W:OwnOK t w' .res v cv):
  SR (g.back t dst) (St.setO {s with hp:=hp'} dst v) w' (a.put dst cv)∧FR g s.hp w (g.back t dst) hp' w':=by
 have r:∀b n,g.O b=some (.slot n)->g.hide.O b=none:=λb n f=>by simp[Gh.hide,f]
 have p:∀b n,g.O b=some (.slot n)->∀(id:Nat) cs,s.hp[id]? =some (some cs)->g.hide.ρ id≠b:=by intro b n f id cs y e;have:=h.hr.notO id cs y;rw[show g.ρ id=b from e,f] at this;simp at this
 have q:∀b o,t.O b=some o->∀n,g.O b≠some (.slot n):=by intro b o f n A;have:=x.oSame b (h.hr.oLt _ _ A) (p b n A) (r b n A);rw[this] at f;simp at f
 have G:∀b o,t.O b=some o->(∀n,o≠.slot n)->o≠.res->(g.back t dst).O b=some o:=by
  intro b o f L z;rw[Gh.back_else (q b o f),f];cases o with
  |slot n=>exact absurd rfl (L n)
  |cell i j=>rfl
  |res=>exact absurd rfl z
 have a3:∀b n,g.O b=some (.slot n)->w'.heap[b]? =w.heap[b]?∧∀j,t.I b j->g.I b j:=by intro b n f;have F:=h.hr.oLt _ _ f;exact⟨x.block b F (p b n f) (r b n f),λj Y=>x.iSame b j F (p b n f) (r b n f) Y⟩
 have up:Up g.I g.ρ s.hp.length w t.I t.ρ hp'.length w':=x.up;have hs:SR (g.back t dst) {s with hp:=hp'} w' a:=by
  refine⟨⟨?_,M.apart,M.notI,?_,M.exI,?_⟩,⟨h.er.size,?_,?_⟩⟩
  ·intro id cs y;refine(M.obj id cs y).keep rfl λR e fz L z=>?_
   refine⟨z.len,z.plain,z.typed,z.cold,z.one,z.rel,?_,z.bn⟩;intro j c cv hc C;refine ch (z.own j c cv hc C) rfl (λb j Z=>⟨Z,rfl⟩) ?_;intro b f;exact⟨G b _ f (by simp) (by simp),rfl,λj Y=>Y⟩
  ·intro id cs y;have h0:=M.notO id cs y;show (g.back t dst).O (t.ρ id)=none;by_cases B:∃n,g.O (t.ρ id)=some (.slot n)
   ·obtain⟨n,A⟩:=B;exfalso;rcases x.live id cs y with⟨H,J⟩|⟨_,J|J|⟨a4,a1,h5,h6⟩⟩
    ·have F:id<s.hp.length:=(Ad.1 J).1;rw[show t.ρ id=g.ρ id from x.up.rho id F,h.hr.notO id H J] at A;simp at A
    ·have:=h.hr.oLt _ _ A;omega
    ·exact J (r _ n A)
    ·exact p _ n A a4 a1 h5 h6
   ·rw[Gh.back_else (λn A=>B ⟨n,A⟩),h0]
  ·intro b o f;by_cases B:∃n,g.O b=some (.slot n);·obtain⟨n,A⟩:=B;have:=h.hr.oLt _ _ A;exact AF this x.size
   ·rw[Gh.back_else (λn A=>B ⟨n,A⟩)] at f;cases E:t.O b with
    |none=>rw[E] at f;simp at f
    |some o'=>exact M.oLt b o' E
  ·intro n v cv hv C;exact(h.er.rel n v cv hv C).up up
  ·intro n v cv hv C;refine ch (h.er.own n v cv hv C) x.beta (λb j Z=>⟨up.mono b j Z,up.cell b j Z⟩) ?_;intro b f;obtain⟨b1,b2⟩:=a3 b n f;exact⟨by simp[Gh.back,f],b1,b2⟩
 have fr:FR g s.hp w (g.back t dst) hp' w':=by
  refine⟨x.beta,x.os,x.tape,x.output,x.size,?_,up,?_,?_,?_⟩;·intro b f S E;exact x.block b f S (by simp[Gh.hide,E])
  ·intro b j f S E Y;exact x.iSame b j f S (by simp[Gh.hide,E]) Y
  ·intro b f S E;have:=x.oSame b f S (by simp[Gh.hide,E]);rw[Gh.back_else (by simp[E]),this]
  ·intro id cs y;rcases x.live id cs y with J|⟨L,z|z|z⟩
   ·exact .inl J
   ·exact .inr ⟨L,.inl z⟩
   ·refine .inr ⟨L,.inr (.inl λh3=>z ?_)⟩;show (match g.O (t.ρ id) with|some (.slot _)=>none|o=>o)=none;rw[show g.O (t.ρ id)=none from h3]
   ·exact .inr ⟨L,.inr (.inr z)⟩
 refine⟨?_,fr⟩;cases dst with
 |none=>exact hs
 |some d=>
  refine hs.set d q3 ?_;cases v with
  |sl k o xs=>
   cases o with
   |may u=>simp[OwnOK]
   |own=>
    cases cv with
    |slice X len cap=>
     cases X with
     |none=>simp[OwnOK]
     |some X=>obtain⟨N,o2,o3⟩:=W;refine⟨?_,o2,o3⟩;rw[Gh.back_else (q _ _ N),N];rfl
    |_=>simp[OwnOK]
  |raw n=>
   cases cv with
   |pointer X=>
    cases X with
    |none=>simp[OwnOK]
    |some X=>obtain⟨N,o2,o3⟩:=W;refine⟨?_,o2,o3⟩;rw[Gh.back_else (q _ _ N),N];rfl
   |_=>simp[OwnOK]
  |ul k xs=>
   rcases W with W|⟨b,cap,R,e,fz,m0,m1,m2,m3,m4,m5,m6,m7,m8,m9⟩
   ·exact .inl W
   ·refine .inr ⟨b,cap,R,e,fz,m0,m1,m2,m3,?_,m5,m6,m7,m8,m9⟩;rw[Gh.back_else (q _ _ m4),m4];rfl
  |_=>simp[OwnOK]
theorem ahm(G:bt P Γ)(F:sq P g w){d:Option Nat}{f:Nat}{avs:List ac}(k:iS P (.call d f avs) m=true)(o:step Γ (.call d f avs) s=some (true,s'))(h:SR g s w a)(W:ax g s w a s' next):m.wp P a w next Q:=by
 obtain⟨dst,op,Y,u,E,O⟩:=m;simp only[iS,Aa,beq_iff_eq] at k;obtain⟨rfl,k⟩:=k;split at k
 ·rename_i f' b z;obtain⟨ts,rfl⟩:=ss z;simp only[Aa,beq_iff_eq] at k;obtain⟨rfl,S,r⟩:=k;simp only[step] at o;split at o
  ·rename_i c v hp' I;simp only[Ab,Ae] at o;obtain⟨rfl,rfl⟩:=o;obtain⟨k1,k2⟩:=lN h.er avs b S;have A:=G _ _ _ _ _ I;unfold kJ at r;split at r
   ·rename_i fn p;simp only[Aa,bne_iff_ne,ne_eq] at r;obtain⟨H,Z⟩:=r;have j:fn.body.isNone=false:=by cases hb:fn.body<;>simp_all
    have q:(execOp a.eval ⟨dst,.call ⟨.value (.func f),⟨b⟩,ts⟩,Y,u,E,O⟩).run P w=.ok (.enter f (b.map a.eval).toArray) w:=by simp[execOp,resolve,Act.eval,Dt,invoke,callFunc,p,Z,j];intro t;rw[t] at H;simp at H
    unfold Ch;rw[q,Oper.upon_enter];refine(A w g.hide (b.map a.eval).toArray (F.sub rfl (λh=>h) (λh=>by simp[Gh.hide,h])) h.hr.hide (by simp[k1]) (by intro x B;obtain⟨y,_,rfl⟩:=Av.1 B;exact dx _) (λi x cv B C=>k2 i x cv B (by simpa using C))).mono ?_;rintro e w' ⟨cv,g',rfl,X,M,J,R⟩;simp only;obtain⟨L,N⟩:=rO (dst:=dst) h X M J R;refine W _ _ _ L ?_ (by cases dst<;>rfl);cases dst<;>exact N
   ·simp at r
  ·simp at o
 ·simp at k
theorem su{o:Op}{x:Operand}{avs:List Operand}(h:qM o=some (x,avs)):∃ts,o=.call ⟨.value x,⟨avs⟩,ts⟩:=by
 unfold qM at h;split at h
 ·rename_i c;obtain⟨b,⟨d⟩,e⟩:=c;simp only at h;split at h;·simp only[Ab,Ae] at h;obtain⟨rfl,rfl⟩:=h;exact⟨_,rfl⟩
  ·simp at h
 ·simp at h
theorem af3(L:bt P Γ)(J:sq P g w){d:Option Nat}{f:Nat}{x:ac}{avs:List ac}(r:iS P (.dcall d f x avs) m=true)(p:step Γ (.dcall d f x avs) s=some (true,s'))(h:SR g s w a)(hn:ax g s w a s' next):m.wp P a w next Q:=by
 obtain⟨dst,op,ty,C,I,gd⟩:=m;simp only[iS,Aa,beq_iff_eq] at r;obtain⟨rfl,r⟩:=r;split at r
 ·rename_i M b F;obtain⟨ts,rfl⟩:=su F;simp only[Aa,beq_iff_eq] at r;obtain⟨S,h1,A⟩:=r;have E:=af S h.er;simp only[step] at p;split at p
  ·rename_i f' jH k;rw[k] at E;split at p
   ·rename_i c v hp' R;simp only[Ab,Ae,Aa] at p;obtain⟨⟨H,rfl⟩,rfl⟩:=p;obtain rfl:=AA H;generalize j:a.eval M=O at E;cases E with
    |fn _ _ vs hl W=>
    obtain⟨k1,k2⟩:=lN h.er avs b h1;have G:=L _ _ _ _ _ R;unfold kJ at A;split at A
    ·rename_i fn t;simp only[Aa,bne_iff_ne,ne_eq] at A;obtain⟨N,h4⟩:=A;have q:fn.body.isNone=false:=by cases hb:fn.body<;>simp_all
     have z:(execOp a.eval ⟨dst,.call ⟨.value M,⟨b⟩,ts⟩,ty,C,I,gd⟩).run P w=.ok (.enter f' ((b.map a.eval).toArray++vs)) w:=by simp[execOp,resolve,j,Dt,invoke,callFunc,t,h4,q];intro B;rw[B] at N;simp at N
     unfold Ch;rw[z,Oper.upon_enter];refine(G w g.hide ((b.map a.eval).toArray++vs) (J.sub rfl (λh=>h) (λh=>by simp[Gh.hide,h])) h.hr.hide (by simp[k1,hl]) (by
      intro x k;rcases AB.1 k with k|k;·obtain⟨y,_,rfl⟩:=Av.1 k;exact dx _
      ·obtain⟨y,_,rfl⟩:=Av.1 k;exact dx _) (λi x cv k j=>by
       have o:(avs.map λy=>disown (y.ev s)).length=(b.map a.eval).length:=by simp[k1]
       rcases AG i (b.map a.eval).length with u|u;·rw[Am (by rw[o];exact u)] at k;rw[BD (by simpa using u)] at j;exact k2 i x cv k (by simpa using j)
       ·rw[Aj (by rw[o];exact u),Au,Ah] at k;obtain⟨y,hy,rfl⟩:=k;rw[D3 (by simpa using u)] at j;refine(W _ y cv hy ?_).disown;rw[o];simpa using j)).mono ?_
     rintro e w' ⟨cv,g',rfl,q1,Z,X,q4⟩;simp only;obtain⟨Y,r2⟩:=rO (dst:=dst) h q1 Z X q4;refine hn _ _ _ Y ?_ (by cases dst<;>rfl);cases dst<;>exact r2
    ·simp at A
   ·simp at p
  ·simp at p
 ·simp at r
theorem tE(j:bt P Γ)(f:sq P g w){o:IOp}(b:aed P o m=true)(e:step Γ o s=some (true,s'))(h:SR g s w a)(c:ax g s w a s' next):m.wp P a w next Q:=by
 unfold aed at b;simp only[AQ] at b;rcases b with(((((((((b|b)|b)|b)|b)|b)|b)|b)|b)|b)|b
 ·cases o with
  |pick=>exact y6 b e h c
  |bin=>exact abr b e h c
  |un=>exact ad0 b e h c
  |lens=>exact ahc b e h c
  |lenl=>exact ahd b e h c
  |idx=>exact abq b e h c
  |ixa=>exact abt b e h c
  |subs=>exact y7 b e h c
  |fad=>exact abu b e h c
  |ext=>exact abv b e h c
  |nck=>exact abw b e h c
  |mx=>exact ad1 b e h c
  |beq=>exact ahL b e h c
  |snil=>exact ahe b e h c
  |ld d n agg i x=>
   cases i with
   |false=>exact xI b e h c
   |true=>simp[aY] at b
  |_=>simp[aY] at b
 ·cases o with
  |mov=>exact aby b e h c
  |bsl=>exact abz f.1 b e h c
  |app=>exact abA f.1 b e h c
  |_=>simp[pD] at b
 ·cases o with
  |call=>exact ahm j f b e h c
  |dcall=>exact af3 j f b e h c
  |_=>simp[iS] at b
 ·cases o with
  |box=>exact abB b e h c
  |st=>exact ad2 b e h c
  |ld d n agg i x=>
   cases i with
   |true=>exact ae4 b e h c
   |false=>simp[lL] at b
  |bld=>exact abC b e h c
  |_=>simp[lL] at b
 ·cases o with
  |_=>simp[adq] at b
 ·cases o with
  |_=>simp[adt] at b
 ·cases o with
  |boxe=>exact ahf b e h c
  |alr=>exact ahN b e h c
  |frz=>exact ahO b e h c
  |lde=>exact ahM b e h c
  |mkf=>exact abE b e h c
  |_=>simp[gt] at b
 ·cases o with
  |mku=>exact ahQ f.1 b e h c
  |apu=>exact ae6 f.1 b e h c
  |blu=>exact ahR f.1 b e h c
  |lnw=>exact ahS b e h c
  |ixw=>exact ahT b e h c
  |ldw=>exact ahU b e h c
  |stw=>exact ahV b e h c
  |_=>simp[kW] at b
 ·cases o with
  |mkm=>exact abS b e h c
  |mget=>exact ahk b e h c
  |mput=>exact ahl b e h c
  |ment=>exact ze b e h c
  |mest=>exact zf b e h c
  |_=>simp[kG] at b
 ·cases o with
  |apo=>exact ahX f.1 b e h c
  |_=>simp[af2] at b
 ·cases o with
  |_=>simp[ahW] at b
structure Inv(g₀:Gh)(hp₀:List al)(w₀:World)(df:List Deferred)(g:Gh)(s:St)(w:World)(a:Act):Prop where
 sr:SR g s w a
 fr:FR g₀ hp₀ w₀ g s.hp w
 df:a.defers=df
theorem SR.renew(h:SR g s w a)(n:Nat)(b:Bool)(c:s.get n=.bool b):SR g (s.set n (.bool b)) w a:=by have:=h.bare n;rw[c] at this;exact this
theorem aaj(h:SR g s w a){o:Oper}{c:Array Oper}{j n:Nat}{b f:Bool}(q:(c[j]?).bind (·.dst)=some n)(t:o.guard=some (j,f))(i:s.get n=.bool b):
  BW o (yielded c a.tmps)=(b==f):=by
 have p:n<s.env.length:=by
  rcases AG n s.env.length with e|e;·exact e
  ·simp[St.get,As,AR e] at i
 have d:n<a.tmps.size:=by rw[<-h.er.size];exact p
 have r:=h.er.get n;rw[i] at r;have k:a.tmps[n]? =some (a.tmps.getD n undef):=by simp[BA,d,Ag d]
 generalize a.tmps.getD n undef=cv at r k;cases r;simp[BW,t,yielded,q,k]
theorem aak(h:SR g s w a){o:Oper}{b:Array Oper}{j n:Nat}{k:Bool}(p:(b[j]?).bind (·.dst)=some n)(q:o.guard=some (j,k))(e:s.get n=.tup []):
  BW o (yielded b a.tmps)=false:=by
 have i:n<s.env.length:=by
  rcases AG n s.env.length with d|d;·exact d
  ·simp[St.get,As,AR d] at e
 have c:n<a.tmps.size:=by rw[<-h.er.size];exact i
 have r:=h.er.get n;rw[e] at r;have f:a.tmps[n]? =some (a.tmps.getD n undef):=by simp[BA,c,Ag c]
 generalize a.tmps.getD n undef=cv at r f;cases r;simp[BW,q,yielded,p,f]
theorem vb(h:SR g s w a)(d:Option Nat):SR g (s.setO d (.tup [])) w (a.put d undef):=by
 cases d with
 |none=>exact h
 |some d=>exact h.set d (.tup [] #[] rfl (by simp)) (by simp[OwnOK])
theorem zg(s:St)(d:Option Nat)(v:V):(s.setO d v).hp=s.hp:=by cases d<;>rfl
theorem abV(a:Act)(d:Option Nat)(v:Value):(a.put d v).defers=a.defers:=by cases d<;>rfl
theorem qN{R:Type}{c:Bool}{x:Option R}{r:R}(h:chk c x=some r):c=true∧x=some r:=by
 cases c with
 |true=>exact⟨rfl,h⟩
 |false=>simp[chk] at h
theorem jK(F:bt P Γ){x:Gh}{q:List al}{y:World}(E:tD P x q y){R:Type}{K:St->Option R}{r:R}{k:Array Oper}{df:List Deferred}{Q:Exit->Act->World->Prop}
  (M:∀s g w a,K s=some r->Inv x q y df g s w a->Q .normal a w):∀(l:List GOp)(i:Nat),fU P k i l=true->∀(s:St)(g:Gh)(w:World)(a:Act),
   bP Γ l K s=some r->Inv x q y df g s w a->wpOps P k Q (Bq i (k.size-i)) a w
 | [],i,B,s,g,w,a,f,h=>by simp only[fU,beq_iff_eq] at B;subst B;simp only[CP,List.range'_zero,wpOps];exact M s g w a f h
 |⟨Z,o,X⟩::l,i,B,s,g,w,a,f,h=>by
  simp only[fU,Aa] at B;obtain⟨B,W⟩:=B;split at B
  ·rename_i m N;have hi:i<k.size:=by
    rcases AG i k.size with I|I;·exact I
    ·simp[CK I] at N
   rw[show k.size-i=(k.size-(i+1))+1 by omega,BQ];simp only[oX,Aa,beq_iff_eq] at B;obtain⟨⟨I,h2⟩,A⟩:=B;have z:∀e,SR g e w a->e.hp=s.hp->∀c s',fR Γ X o e=some (c,s')->chk c (bP Γ l K s')=some r->m.wp P a w (wpOps P k Q (Bq (i+1) (k.size-(i+1)))) Q:=by intro e d G c s' v C;obtain⟨rfl,C⟩:=qN C;refine tE F (E.on h.fr) I (iV v) d ?_;intro Y w' g' L O hd;refine jK F E M l (i+1) W s' g' w' Y C ⟨L,?_,hd.trans h.df⟩;rw[G] at O;exact h.fr.trans O
   have skip:∀e,SR g e w a->e.hp=s.hp->bP Γ l K (e.setO o.dst (.tup []))=some r->wpOps P k Q (Bq (i+1) (k.size-(i+1))) (a.put m.dst undef) w:=by intro e d G H;rw[h2] at H;refine jK F E M l (i+1) W _ g w _ H ⟨vb d _,?_,(abV _ _ _).trans h.df⟩;rw[zg,G];exact h.fr
   simp only[wpOps,N];match Z,A,f with
   |none,A,f=>
    cases u:m.guard with
    |some p=>rw[u] at A;simp at A
    |none=>
    rw[if_pos (by simp[BW,u])];left;simp only[bP] at f;split at f;·rename_i c s' v;exact z s h.sr rfl c s' v f
    ·simp at f
   |some (n,b),A,f=>
    cases u:m.guard with
    |none=>rw[u] at A;simp at A
    |some p=>
    obtain⟨j,b'⟩:=p;rw[u] at A;simp only[Aa,beq_iff_eq] at A;obtain⟨rfl,S⟩:=A;simp only[bP] at f;split at f
    ·rename_i t J;rw[aaj h.sr S u J];have d:=h.sr.renew n t J;cases t with
     |true=>
      simp only[cond_true] at f;cases b with
      |true=>
       simp only at f;rw[if_pos (by rfl)];left;split at f;·rename_i c s' v;exact z _ d rfl c s' v f
       ·simp at f
      |false=>rw[if_neg (by simp)];exact skip _ d rfl f
     |false=>
      simp only[cond_false] at f;cases b with
      |false=>
       simp only at f;rw[if_pos (by rfl)];left;split at f;·rename_i c s' v;exact z _ d rfl c s' v f
       ·simp at f
      |true=>rw[if_neg (by simp)];exact skip _ d rfl f
    ·rename_i J;rw[aak h.sr S u J,if_neg (by simp)];exact skip _ h.sr rfl f
    ·simp at f
  ·simp at B
theorem nP{b:Array Oper}:∀(l:List GOp)(i:Nat),fU P b i l=true->b.size=i+l.length∧∀(k:Nat) x,l[k]? =some x->∃m,b[i+k]? =some m∧oX P b x m=true
 | [],i,h=>by simp only[fU,beq_iff_eq] at h;exact⟨by simp[h],by simp⟩
 |x::l,i,h=>by
  simp only[fU,Aa] at h;obtain⟨c,j⟩:=h;obtain⟨k1,k2⟩:=nP l (i+1) j;refine⟨by simp[k1];omega,?_⟩;intro k y d;cases k with
  |zero=>
   simp at d;subst d;split at c;·rename_i m e;exact⟨m,e,c⟩
   ·simp at c
  |succ k=>obtain⟨m,e,f⟩:=k2 k y (by simpa using d);exact⟨m,by rw[<-e];congr 1;omega,f⟩
theorem rP(J:bt P Γ){f:Gh}{d:List al}{q:World}(I:tD P f d q){v:Array Oper}{i:Nat}{m:Oper}{x:GOp}(W:v[i]? =some m)(N:oX P v x m=true){df:List Deferred}{Q:Exit->Act->World->Prop}{K:Act->World->Prop}
  (k:aW Γ x s=some s') (h:Inv f d q df g s w a) (F:∀L w' B,Inv f d q df L s' w' B->K B w'):wpOp P v Q i K a w:=by
 obtain⟨X,o,R⟩:=x;simp only[oX,Aa,beq_iff_eq] at N;obtain⟨⟨Y,O⟩,r⟩:=N;have u:(match fR Γ R o s with|some (c,s')=>chk c (some s')|none=>none)=some s'->m.wp P a w K Q:=by
  intro y;split at y
  ·rename_i c z A;obtain⟨rfl,E⟩:=qN y;obtain rfl:z=s':=by simpa using E
   refine tE J (I.on h.fr) Y (iV A) h.sr ?_;intro B w' L C Z S;exact F L w' B ⟨C,h.fr.trans Z,S.trans h.df⟩
  ·simp at y
 unfold wpOp;simp only[W];match X,r,k with
 |none,r,k=>
  cases e:m.guard with
  |some p=>rw[e] at r;simp at r
  |none=>
  rw[if_pos (by simp[BW,e])];exact .inl (u k)
 |some (n,b),r,k=>
  cases e:m.guard with
  |none=>rw[e] at r;simp at r
  |some p=>
  obtain⟨j,b'⟩:=p;rw[e] at r;simp only[Aa,beq_iff_eq] at r;obtain⟨rfl,M⟩:=r;simp only[aW] at k;split at k
  ·rename_i t H;rw[aaj h.sr M e H];split at k;·rename_i G;rw[if_pos G];exact .inl (u k)
   ·rename_i G;rw[if_neg (by simp[G])];obtain rfl:_=s':=by simpa using k
    rw[<-O];exact F g w _ ⟨vb h.sr _,by rw[zg];exact h.fr,(abV _ _ _).trans h.df⟩
  ·rename_i H;rw[aak h.sr M e H,if_neg (by simp)];obtain rfl:_=s':=by simpa using k
   rw[<-O];exact F g w _ ⟨vb h.sr _,by rw[zg];exact h.fr,(abV _ _ _).trans h.df⟩
  ·simp at k
theorem vd(cx:bt P Γ){N:Gh}{v:List al}{I:World}(ck:tD P N v I){av:List Nat}(hP:cz Γ av){R:Type}{K:St->Option R}{r:R}{t:Array Oper}{l:List GOp}{E:List (List Nat)}(hc:jJ P av t l E=true){df:List Deferred}{Q:Exit->Act->World->Prop}
  (hQ:∀s g w a,K s=some r->Inv N v I df g s w a->Q .normal a w):∀(p:Nat)(f:List Nat)(b:Array Bool)(s:St)(g:Gh)(w:World)(a:Act),
   f.length=p->f.Pairwise (·<·)->(∀i,i∈f↔i<l.length∧b.getD i true=false)->b.size=l.length->(∀j,j<l.length->j ∉ f->∀i∈E.getD j [],i ∉ f)->
   bP Γ (f.filterMap λi=>l[i]?) K s=some r->Inv N v I df g s w a->wpAny P .any t Q p b a w:=by
 simp only[jJ,Aa] at hc;obtain⟨⟨-,cl⟩,b4⟩:=hc;obtain⟨L,ad⟩:=nP l 0 cl;simp only[Aw] at L ad
 have hj:∀j,j<l.length->∃m x,t[j]? =some m∧l[j]? =some x∧oX P t x m=true∧(∀e∈m.after,CE .any e=true->e.on<j)∧
   (∀i∈E.getD j [],∃e∈m.after,CE .any e=true∧(e.on=i∨i∈E.getD e.on []))∧(∀i,i<j->i∈E.getD j []∨∃y,l[i]? =some y∧xM av y x=true):=by
  intro j O;have h0:=Ak.1 b4 j (A6.2 O);simp only[Aa] at h0;obtain⟨c,u⟩:=h0;have hx:l[j]? =some l[j]:=Ac O;obtain⟨m,G,W⟩:=ad j _ hx;rw[G] at c;rw[hx] at u;simp only[Aa] at c;refine⟨m,l[j],G,hx,W,?_,?_,?_⟩;·intro e S F;have:=Ak.1 c.1 e (by simpa using S);simpa [F] using this
  ·intro i hi;have:=Ak.1 c.2 i hi;obtain⟨e,S,F⟩:=Co.1 this;simp only[Aa,AQ,beq_iff_eq,CR] at F;exact⟨e,by simpa using S,F.1,F.2⟩
  ·intro i hi;have:=Ak.1 u i (A6.2 hi);simp only[AQ,CR] at this;rcases this with h3|h3;·exact .inl h3
   ·right;split at h3;·rename_i y hy;exact⟨y,hy,h3⟩
    ·simp at h3
 have q:∀(f:List Nat)(b:Array Bool),(∀i,i∈f↔i<l.length∧b.getD i true=false)->b.size=l.length->∀j m,t[j]? =some m->(j∈Region.ready .any t b↔j∈f∧∀e∈m.after,CE .any e=true->e.on<l.length∧e.on ∉ f):=by
  intro f b d C j m G;have O:j<l.length:=by rw[<-L];exact(AN.1 G).1
  have key:∀i,b.getD i false=true↔i<l.length∧i ∉ f:=by
   intro i;rw[d i];rcases AG i b.size with c|c
   ·have u:i<l.length:=by omega
    simp[BA,c,u]
   ·have u:¬i<l.length:=by omega
    have h3:¬i<b.size:=by omega
    simp[BA,h3,u]
  rw[mem_ready,d j];constructor;·rintro⟨c,o,Z,u⟩;rw[G] at Z;cases Z;exact⟨⟨O,c⟩,λe S F=>(key _).1 (u e S F)⟩
  ·rintro⟨⟨_,c⟩,u⟩;exact⟨c,m,G,λe S F=>(key _).2 (u e S F)⟩
 intro p;induction p with
 |zero=>intro f b s g w a z H d C M hr h;have:f=[]:=A4 z;subst this;simp only[wpAny];refine⟨?_,hQ s g w a hr h⟩;rw[DH];intro j J;have:=mem_ready.1 J;obtain⟨hu,o,Z,_⟩:=this;exact absurd ((q [] b d C j o Z).1 J).1 (by simp)
 |succ p ih=>
  intro f b s g w a z H d C M hr h;simp only[wpAny];refine⟨?_,?_⟩
  ·intro b6;exfalso;cases f with
   |nil=>simp at z
   |cons j f=>
    have a2:=((d j).1 (AD ..)).1;obtain⟨m,x,G,hx,W,S,hp,hi⟩:=hj j a2;have:j∈Region.ready .any t b:=by
     refine(q _ b d C j m G).2 ⟨AD ..,λe a0 F=>?_⟩;have O:=S e a0 F;refine⟨by omega,?_⟩;intro k;rcases AT.1 k with c|c;·omega
     ·have:=(Db.1 H).1 _ c;omega
    rw[b6] at this;simp at this
  ·intro j J;obtain⟨hu,o,Z,_⟩:=mem_ready.1 J;obtain⟨b2,a4⟩:=(q f b d C j o Z).1 J;have a2:=((d j).1 b2).1;obtain⟨m,x,G,hx,W,S,hp,hi⟩:=hj j a2;rw[G] at Z;cases Z;have bY:∀i∈E.getD j [],i ∉ f:=by
    intro i X;obtain⟨e,a0,F,bb⟩:=hp i X;obtain⟨d1,d2⟩:=a4 e a0 F;rcases bb with rfl|bb;·exact d2
    ·exact M _ d1 d2 i bb
   obtain⟨A,B,rfl⟩:=List.append_of_mem b2;have hA:∀i∈A,i<j:=by intro i Y;exact(CY.1 H).2.2 i Y j (AD ..)
   have hB:∀i∈B,j<i:=by intro i cs;exact(Db.1 (CY.1 H).2.1).1 i cs
   rw[CN,CD hx] at hr;obtain⟨s',hg,b1⟩:=xQ hP _ s (by
    intro y hy;obtain⟨i,Y,ci⟩:=List.mem_filterMap.1 hy;rcases hi i (hA i Y) with c|⟨y',c,u⟩
    ·exact absurd (Bp _ Y) (bY i c)
    ·rw[ci] at c;cases c;exact u) hr
   rw[<-CN] at b1;refine rP cx ck G W hg h ?_;intro g' w' a' b0;have k:∀i,i∈A++B↔i∈A++j::B∧i≠j:=by
    intro i;simp only[AB,AT];constructor
    ·rintro(c|c);·exact⟨.inl c,by have:=hA i c;omega⟩
     ·exact⟨.inr (.inr c),by have:=hB i c;omega⟩
    ·rintro⟨c|c|c,u⟩;·exact .inl c
     ·exact absurd c u
     ·exact .inr c
   refine ih (A++B) (b.setIfInBounds j true) s' g' w' a' ?_ ?_ ?_ (by simp[C]) ?_ b1 b0;·simp only[Ba,Ay] at z ⊢;omega
   ·exact H.sublist (Ej (List.sublist_cons_self ..) _)
   ·intro i;rw[k,d];by_cases a3:i=j
    ·subst a3;have cy:i<b.size:=by omega
     simp[BA,cy]
    ·rw[getD_set_ne true (λe=>a3 e.symm)];simp[a3]
   ·intro j' c3 bx i X cc;obtain⟨c,u⟩:=(k i).1 cc;by_cases b3:j'=j;·subst b3;exact bY i X c
    ·exact M j' c3 (λc1=>bx ((k j').2 ⟨c1,b3⟩)) i X c
theorem iZ{α:Type}:∀(l:List α),((AE l.length).filterMap λi=>l[i]?)=l
 | []=>rfl
 |x::l=>by rw[Ay,List.range_succ_eq_map,CD (b:=x) (by simp),List.filterMap_map];have:=iZ l;simp only[CA,Nat.succ_eq_add_one,A5];rw[this]
theorem Inv.drew{e:Gh}{c:List al}{d:World}{df:List Deferred}(h:Inv e c d df g s w a):Inv e c d df g s w.drew a:=by
 have u:Up g.I g.ρ s.hp.length w g.I g.ρ s.hp.length w.drew:=⟨λ_ _ h=>h,λ_ _ _=>rfl,λ_ _=>rfl,Ao _⟩
 refine⟨⟨h.sr.hr.drew,⟨h.sr.er.size,λn v cv f i=>(h.sr.er.rel n v cv f i).up u,λn v cv f i=>ch (h.sr.er.own n v cv f i) rfl (λb j p=>⟨p,rfl⟩) (λb o=>⟨o,rfl,λj k=>k⟩)⟩⟩,?_,h.df⟩;exact⟨h.fr.beta,h.fr.os,h.fr.tape,h.fr.output,h.fr.size,h.fr.block,h.fr.up.trans u,h.fr.iSame,h.fr.oSame,h.fr.live⟩
theorem tF(u:bt P Γ){c:Gh}{b:List al}{d:World}(t:tD P c b d){o:List Nat}(y:cz Γ o){R:Type}{K:St->Option R}{r:R}{id:Nat}{f:Array Oper}{l:List GOp}{q:List (List Nat)}(v:jJ P o f l q=true){df:List Deferred}{Q:Exit->Act->World->Prop}
  (x:∀s g w a,K s=some r->Inv c b d df g s w a->Q .normal a w) (B:bP Γ l K s=some r) (h:Inv c b d df g s w a):(Code.region id f true).wp P Q a w:=by
 have e:=v;simp only[jJ,Aa] at e;have k:f.size=l.length:=by simpa using (nP l 0 e.1.2).1
 refine wp_region_any e.1.1 ?_;rw[k];refine vd u t y v x l.length (AE l.length) _ s g _ a (by simp) List.pairwise_lt_range ?_ (by simp) ?_ (by rw[iZ];exact B) h.drew;·intro i;by_cases z:i<l.length<;>simp[BA,z]
 ·intro j A p;exact absurd (A6.2 A) p
theorem lO(c:List Nat)(m:Nat):∀(b:List V)(i n:Nat)(v:V),(lI c m i b)[n]? =some v->v=.undef∨(v.lower m=true∧b[n]? =some v)
 | [],i,n,v,h=>by simp[lI] at h
 |x::b,i,n,v,h=>by
  simp only[lI] at h;cases n with
  |zero=>
   simp only[Bl,Ab] at h;split at h;·rename_i d;simp only[Aa] at d;right;subst h;exact⟨d.2,by simp⟩
   ·left;exact h.symm
  |succ n=>simp only[A5] at h ⊢;exact lO c m b (i+1) n v h
theorem og(c:List Nat)(m:Nat):∀(b:List V)(i:Nat),(lI c m i b).length=b.length
 | [],i=>rfl
 |x::b,i=>by simp[lI,og c m b (i+1)]
theorem kp{n:Nat}:∀{cs:List V},V.lowers n cs=true->∀(i:Nat) c,cs[i]? =some c->c.lower n=true
 | [],_,i,c,b=>by simp at b
 |x::cs,h,i,c,b=>by
  simp only[V.lowers,Aa] at h;cases i with
  |zero=>simp at b;subst b;exact h.1
  |succ i=>exact kp h.2 i c (by simpa using b)
theorem ac5{n:Nat}{cs:List V}(h:V.lowers n cs=true)(j:Nat)(c:V)(b:(cellsOf cs)[j]? =some c):c.lower n=true:=by
 cases d:dU cs with
 |false=>rw[kf d] at b;exact kp h j c b
 |true=>
  unfold dU at d;split at d;·simp only[cellsOf,Au,Ah] at b;obtain⟨_,_,rfl⟩:=b;rfl
  ·simp[V.lowers,V.lower] at h
  ·unfold cellsOf at b;split at b;·rename_i e;cases e
   ·rename_i e;cases e
   ·rename_i e;cases e;simp[V.lowers,V.lower] at h
   ·exact kp h j c b
  ·cases d
theorem ac6{v:V}{n:Nat}(h:v.flat1=true):v.lower n=true:=by unfold V.flat1 at h;split at h<;>first|rfl|cases h
theorem VRel.fewer{I:Nat->Nat->Prop}{ρ:Nat->Nat}{N n:Nat}{v:V}{cv:Value}(h:VRel I ρ N w v cv)(u:v.lower n=true)(O:n<=N):VRel I ρ n w v cv:=by
 induction h with
 |undef cv=>exact .undef cv
 |bool b=>exact .bool b
 |int k n h=>exact .int k n h
 |str l s t h=>exact .str l s t h
 |sln k o=>exact .sln k o
 |sle k o z L=>exact .sle k o z L
 |sl k o xs b e len cap t d q M f G C B y=>refine .sl k o xs b e len cap t d q M f G C (λi x j v A H=>y i x j v A H ?_);exact ac6 (tr k x v (Ap H))
 |agg cs vs t A F B y=>exact .agg cs vs t A F (λi c cv d r=>y i c cv d r (kp (by simpa [V.lower] using u) i c d))
 |tup cs vs t B y=>exact .tup cs vs t (λi c cv d r=>y i c cv d r (kp (by simpa [V.lower] using u) i c d))
 |ea cs b e f A G C B y=>exact .ea cs b e f A G C (λj c d=>y j c d (kp (by simpa [V.lower] using u) j c d))
 |ptr id e h=>exact .ptr id e (by simpa [V.lower,Bb] using u)
 |nilp=>exact .nilp
 |fn f cs vs t B y=>exact .fn f cs vs t (λi c cv d r=>y i c cv d r (kp (by simpa [V.lower] using u) i c d))
 |nilif=>exact .nilif
 |bn E n p=>exact .bn E n p
 |junk cv h=>exact .junk cv h
 |so id m cap h d q=>exact .so id m cap (by simpa [V.lower,Bb] using u) d q
 |raw n b=>exact .raw n b
 |ul k xs z cap q=>exact .ul k xs z cap q
 |hd n z cap q=>exact .hd n z cap q
 |sw k id m h d q=>exact .sw k id m (by simpa [V.lower,Bb] using u) d q
 |sx k id e m z cap h d q t J=>exact .sx k id e m z cap (by simpa [V.lower,Bb] using u) d q t J
 |wp id k i o h=>exact .wp id k i o (by simpa [V.lower,Bb] using u)
 |mr id h=>exact .mr id (by simpa [V.lower,Bb] using u)
 |nilm=>exact .nilm
theorem pW{n:Nat}:∀{hp:List al},lJ n hp=true->∀(id:Nat) cs,hp[id]? =some (some cs)->V.lowers n cs=true
 | [],_,id,cs,h=>by simp at h
 |none::hp,b,id,cs,h=>by
  cases id with
  |zero=>simp at h
  |succ id=>exact pW (hp:=hp) (by simpa [lJ] using b) id cs (by simpa using h)
 |some x::hp,b,id,cs,h=>by
  simp only[lJ,Aa] at b;cases id with
  |zero=>simp at h;subst h;exact b.1
  |succ id=>exact pW b.2 id cs (by simpa using h)
theorem SR.keepEnv(h:SR g s w a)(b:List Nat)(n:Nat):SR g {s with env:=lI b n 0 s.env} w a:=by
 refine⟨h.hr,⟨by simp[og,h.er.size],?_,?_⟩⟩
 ·intro m v cv d c;rcases lO b n s.env 0 m v d with rfl|⟨_,d⟩
  ·exact .undef _
  ·exact h.er.rel m v cv d c
 ·intro m v cv d c;rcases lO b n s.env 0 m v d with rfl|⟨_,d⟩
  ·simp[OwnOK]
  ·exact h.er.own m v cv d c
theorem Inv.keeps{r:Gh}{f:List al}{t:World}{df:List Deferred}(h:Inv r f t df g s w a)(d:List Nat){n:Nat}(J:f.length<=n):Inv r f t df g (s.keep d n) w a:=by
 unfold St.keep;cases A:lJ n (s.hp.take n) with
 |false=>exact⟨h.sr.keepEnv d n,h.fr,h.df⟩
 |true=>
  simp only[cond_true];rcases AG n s.hp.length with L|x
  ·have p:(s.hp.take n).length=n:=by simp;omega
   have i:∀(id:Nat) cs,(s.hp.take n)[id]? =some (some cs)->s.hp[id]? =some (some cs):=by
    intro id cs b;rw[AW] at b;split at b;·exact b
    ·simp at b
   have G:=pW A;refine⟨⟨⟨?_,?_,?_,?_,h.sr.hr.exI,h.sr.hr.oLt⟩,⟨by simp[og,h.sr.er.size],?_,?_⟩⟩,?_,h.df⟩
   ·intro id cs b;refine(h.sr.hr.obj id cs (i id cs b)).keep rfl λI e M F q=>?_
    refine⟨q.len,q.plain,?_,q.cold,q.one,?_,q.own,q.bn⟩
    ·intro k xs z;have:=G id _ b;unfold vW at z;split at z;·simp[V.lowers,V.lower] at this
     ·simp[V.lowers,V.lower] at this
     ·cases z
    intro j c cv H o;rw[p];exact(q.rel j c cv H o).fewer (ac5 (G id cs b) j c H) (by omega)
   ·intro id E cs B F q y;exact h.sr.hr.apart id E cs B (i _ _ F) (i _ _ q) y
   ·intro id cs b;exact h.sr.hr.notI id cs (i _ _ b)
   ·intro id cs b;exact h.sr.hr.notO id cs (i _ _ b)
   ·intro m v cv u o;rw[p];rcases lO d n s.env 0 m v u with rfl|⟨C,u⟩
    ·exact .undef _
    ·exact(h.sr.er.rel m v cv u o).fewer C (by omega)
   ·intro m v cv u o;rcases lO d n s.env 0 m v u with rfl|⟨_,u⟩
    ·simp[OwnOK]
    ·exact h.sr.er.own m v cv u o
   ·refine⟨h.fr.beta,h.fr.os,h.fr.tape,h.fr.output,h.fr.size,h.fr.block,⟨h.fr.up.mono,h.fr.up.cell,h.fr.up.rho,by rw[p];exact J⟩,h.fr.iSame,h.fr.oSame,?_⟩;intro id cs b;exact h.fr.live id cs (i _ _ b)
  ·rw[B1 x];exact⟨h.sr.keepEnv d n,h.fr,h.df⟩
def gz:Ex->Exit->Prop
 | .normal,.normal=>True
 | .exit i,.exit j=>i=j
 | .ret,.ret=>True
 |_,_=>False
def tG{R:Type}(d:Gh)(b:List al)(c:World)(df:List Deferred)(K:Ex->St->Option R)(r:R)(e:Exit)(a:Act)(w:World):Prop:=
 ∃x s g,gz x e∧K x s=some r∧Inv d b c df g s w a
theorem co(C:bt P Γ){E:Gh}{p:List al}{F:World}(B:tD P E p F){M:List Nat}(J:cz Γ M)(n:Nat){R:Type}{L:Nat}(f:p.length<=L){df:List Deferred}{r:R}:∀(ir:IR)(c:Code),au P M L ir c=true->∀(K:Ex->St->Option R)(s:St)(a:Act)(w:World)(g:Gh),
  run Γ n ir K s=some r->Inv E p F df g s w a->c.wp P (tG E p F df K r) a w
 | .bad,c,o,K,s,a,w,g,b,h=>by simp[run] at b
 | .skip,c,o,K,s,a,w,g,b,h=>by
   cases c<;>simp[au] at o;·exact wp_skip ⟨.normal,s,g,trivial,b,h⟩
   ·exact wp_label ⟨.normal,s,g,trivial,b,h⟩
 | .reg l a3,c,o,K,s,a,w,g,b,h=>by
   cases c with
   |region id a0 ad=>
    cases ad with
    |true=>
     have o:jJ P M a0 l a3=true:=by simpa only[au] using o
     exact tF (Q:=tG E p F df K r) C B J o (K:=K .normal) (r:=r) (λs g w a A G=>⟨.normal,s,g,trivial,A,G⟩) b h
    |false=>
     have o:fU P a0 0 l=true:=by simpa only[au] using o
     refine wp_region ?_;have:=jK (Q:=tG E p F df K r) C B (K:=K .normal) (r:=r) (λs g w a A G=>⟨.normal,s,g,trivial,A,G⟩) l 0 o s g w a b h
     rwa [CG,<-DJ] at this
   |_=>simp[au] at o
 | .seq x y,c,o,K,s,a,w,g,b,h=>by
   cases c<;>simp[au] at o;rename_i c d;refine wp_seq (wp_mono (co C B J n f x c o.1 _ s a w g b h) ?_);rintro e a' w' ⟨W,s',z,H,A,G⟩;cases W with
   |normal=>cases e<;>simp only[gz] at H;exact co C B J n f y d o.2 K s' a' w' z A G
   |exit i=>cases e<;>simp only[gz] at H;exact⟨.exit i,s',z,H,A,G⟩
   |ret=>cases e<;>simp only[gz] at H;exact⟨.ret,s',z,trivial,A,G⟩
 | .cond v x y,c,o,K,s,a,w,g,b,h=>by
   cases c<;>simp[au] at o;rename_i u c d;simp only[run] at b;split at b
   ·rename_i t ht;have rr:=af o.1 h.sr.er;rw[ht] at rr;generalize a4:a.eval u=cv at rr;cases rr;refine wp_cond a4 ?_;cases t with
    |true=>rw[ac.fix_eq ht] at b;exact co C B J n f x c o.2.1 K s a w g b h
    |false=>simp only[cond_false] at b;rw[ac.fix_eq ht] at b;exact co C B J n f y d o.2.2 K s a w g b h
   ·simp at b
 | .block i x,c,o,K,s,a,w,g,b,h=>by
   cases c<;>simp[au] at o;rename_i j c;obtain⟨rfl,o⟩:=o;refine wp_block (wp_mono (co C B J n f x c o _ s a w g b h) ?_);rintro e a' w' ⟨W,s',z,H,A,G⟩;cases W with
   |normal=>cases e<;>simp only[gz] at H;exact⟨.normal,s',z,trivial,A,G⟩
   |exit k=>
    cases e<;>simp only[gz] at H;subst H;simp only[Exit.inBlock];by_cases N:k=i;·subst N;simp only[if_true];simp only[bu,Nat.beq_refl,cond_true] at A;exact⟨.normal,s',z,trivial,A,G⟩
    ·simp only[N,if_false];have Y:Af k i=false:=by
      cases Y:Af k i with
      |true=>exact absurd (AA Y) N
      |false=>rfl
     simp only[bu,Y,cond_false] at A;exact⟨.exit k,s',z,rfl,A,G⟩
   |ret=>cases e<;>simp only[gz] at H;exact⟨.ret,s',z,trivial,A,G⟩
 | .loop I q x,c,o,K,s,a,w,g,b,h=>by
   cases c<;>simp[au] at o;rename_i c;obtain⟨Z,o⟩:=o;have Z:p.length<=q:=AX f Z;simp only[run] at b
   have key:∀(m:Nat)(s:St)(a:Act)(w:World)(g:Gh),bC m (λO s=>run Γ n x (de O I q K) s) s=some r->Inv E p F df g s w a->
     Code.rounds P c (tG E p F df K r) m a w:=by
    intro m;induction m with
    |zero=>intro s a w g b h;simp[bC] at b
    |succ m ih=>
     intro s a w g b h;simp only[bC] at b;rw[rounds_succ];refine wp_mono (co C B J n f x c o _ s a w g b h) ?_;rintro e a' w' ⟨W,s',z,H,A,G⟩;cases W with
     |normal=>cases e<;>simp only[gz] at H;exact ih _ a' w' z A (G.keeps I Z)
     |exit k=>cases e<;>simp only[gz] at H;exact⟨.exit k,s',z,H,A,G⟩
     |ret=>cases e<;>simp only[gz] at H;exact⟨.ret,s',z,trivial,A,G⟩
   exact wp_loop_rounds n (key n _ a w g b (h.keeps I Z))
 | .cut I q x,c,o,K,s,a,w,g,b,h=>by simp only[au,Aa] at o;obtain⟨Z,o⟩:=o;simp only[run] at b;exact co C B J n f x c o K _ a w g b (h.keeps I (AX f (DC Z)))
 | .gh x y,c,o,K,s,a,w,g,b,h=>by
   simp only[au] at o;simp only[run] at b;split at b
   ·rename_i t s' hs;cases t with
    |false=>simp[chk] at b
    |true=>obtain⟨z,S,X⟩:=sm h.sr hs;exact co C B J n f y c o K s' a w z b ⟨S,h.fr.trans X,h.df⟩
   ·simp at b
 | .ope x y,c,o,K,s,a,w,g,b,h=>by
   simp only[au] at o;simp only[run] at b;have go:∀q:io,(match q.step s with|some (c,s')=>chk c (run Γ n y K s')|none=>none)=some r->∃s' z,run Γ n y K s'=some r∧SR z s' w a∧FR g s.hp w z s'.hp w:=λq b=>by
    split at b
    ·rename_i t s' hs;cases t with
     |false=>simp[chk] at b
     |true=>obtain⟨z,S,X⟩:=sm h.sr hs;exact⟨s',z,b,S,X⟩
    ·simp at b
   have bn:∃s' z,run Γ n y K s'=some r∧SR z s' w a∧FR g s.hp w z s'.hp w:=by
    cases Y:afU s x with
    |true=>rw[Y] at b;exact go _ b
    |false=>rw[Y] at b;exact go _ b
   obtain⟨s',z,b,S,X⟩:=bn;exact co C B J n f y c o K s' a w z b ⟨S,h.fr.trans X,h.df⟩
 | .ghp x y,c,o,K,s,a,w,g,b,h=>by
   simp only[au] at o;simp only[run] at b;refine wp_mono (co C B J n f y c o _ s a w g b h) ?_;rintro e a' w' ⟨W,s',z,H,A,G⟩;cases W with
   |normal=>
    simp only[aa7] at A;split at A
    ·rename_i t s2 hs;cases t with
     |false=>simp[chk] at A
     |true=>obtain⟨g2,S,X⟩:=sm G.sr hs;exact⟨.normal,s2,g2,H,A,⟨S,G.fr.trans X,G.df⟩⟩
    ·simp at A
   |exit i=>exact⟨.exit i,s',z,H,A,G⟩
   |ret=>exact⟨.ret,s',z,H,A,G⟩
 | .exit i,c,o,K,s,a,w,g,b,h=>by cases c<;>simp[au] at o;subst o;exact wp_exit ⟨.exit i,s,g,rfl,b,h⟩
 | .ret,c,o,K,s,a,w,g,b,h=>by cases c<;>simp[au] at o;exact wp_ret ⟨.ret,s,g,trivial,b,h⟩
end
def ms(P:Program):RV->ResultVar->Bool
 | .t n,.tmp m=>n==m
 | .cell n b agg,.cell m t=>(n==m)&&((be P t==some b)&&((cn P t==some agg)&&(agg||b==1)))
 |_,_=>false
def fC(P:Program):List RV->List ResultVar->Bool
 | [],[]=>true
 |x::xs,y::ys=>ms P x y&&fC P xs ys
 |_,_=>false
section
variable{w:World}{g:Gh}{s s':St}{a:Act}{P:Program}{Γ:ao}
def aee(g:Gh)(w:World)(x:RV)(v:V)(cv:Value):Prop:=match x with| .t n=>OwnOK g w (.slot n) v cv| .cell .. =>v.bare=true
def kZ(b:Array Value):ResultVar->Sem Value
 | .tmp t=>pure (b.getD t undef)
 | .cell a t=>do loadVar t (<-asAddr (b.getD a undef))
theorem abW(h:SR g s w a){x:RV}{y:ResultVar}(p:ms P x y=true){v:V}(q:x.ev s=some v):
  ∃cv,(kZ a.tmps y).run P w=.ok cv w∧VRel g.I g.ρ s.hp.length w v cv∧aee g w x v cv:=by
 cases x with
 |t n=>
  cases y with
  |tmp m=>
   obtain rfl:n=m:=by simpa [ms] using p
   simp only[RV.ev,Ab] at q;subst q;exact⟨_,by simp[kZ],h.er.get n,h.er.getOwn n⟩
  |cell m t=>simp[ms] at p
 |cell n d agg=>
  cases y with
  |tmp m=>simp[ms] at p
  |cell m t=>
   simp only[ms,Aa,beq_iff_eq,AQ] at p;obtain⟨rfl,S,Z,u⟩:=p;have C:=h.er.get n;simp only[RV.ev] at q
   have fin:∀b o (vs:List Value),a.tmps.getD n undef=.pointer (some ⟨b,o,none⟩)->vs.length=d->(∀(j:Nat) v,vs[j]? =some v->w.cell? ⟨b,o+j,none⟩=some v)->
     (kZ a.tmps (.cell n t)).run P w=.ok (if agg then .agg vs.toArray else vs.headD undef) w:=by
    intro b o vs hp Y G;have:=ge (P:=P) (w:=w) (b:=b) (o:=o) (vs:=vs) S Z u Y G;simp only[Ct,BE] at this;simp[kZ,hp,asAddr];simpa using this
   split at q
   ·rename_i id o L;rw[L] at C;generalize k:a.tmps.getD n undef=cv at C fin;cases C with
    |ptr _ _ X=>
    split at q
    ·rename_i cs R;split at q
     ·rename_i H;obtain rfl:=Ai q;obtain⟨E,e,W,B⟩:=nN h.hr R;have Q:=B.len
      have r:=fT (agg:=agg) (cs:=(cs.drop o).take d) (vs:=(E.toList.drop o).take d) (w:=w) (I:=g.I) (ρ:=g.ρ) (N:=s.hp.length)
       (λc A=>B.one c (Bd (A7 A))) (by simp;omega) (by
        rcases u with u|u;·exact .inl u
        ·right;simp;omega)
       (λi c cv p k=>by
        simp only[AW,A9] at p k;split at p;·rename_i J;simp only[J,if_true] at k;exact B.rel _ _ _ p (by simpa using k)
        ·simp at p)
      refine⟨_,fin _ _ ((E.toList.drop o).take d) rfl (by simp;omega) (λj v z=>?_),r.disown,dx _⟩;rw[cell_of_heap W];simp only[AW,A9] at z;split at z;·simpa using z
      ·simp at z
     ·simp at q
    ·simp at q
   ·rename_i cs L;rw[L] at C;generalize k:a.tmps.getD n undef=cv at C fin;cases C with
    |ea _ b o f e1 hI G F=>
    split at q
    ·rename_i H;obtain rfl:=Ai q
     have r:=fT (agg:=agg) (cs:=cs.take d) (vs:=(AE d).map f) (w:=w) (I:=g.I) (ρ:=g.ρ) (N:=s.hp.length)
      (λc A=>e1 c (A7 A)) (by simp;omega) (by
       rcases u with u|u;·exact .inl u
       ·right;simp;omega)
      (λi c cv p k=>by
       simp only[AW] at p;split at p;·rename_i J;simp[J] at k;subst k;exact F _ _ p
       ·simp at p)
     refine⟨_,fin _ _ ((AE d).map f) rfl (by simp) (λj v z=>?_),r.disown,dx _⟩;rw[Au,Ah] at z;obtain⟨j',M,rfl⟩:=z;obtain⟨O,rfl⟩:=Ad.1 M;simp only[Di] at O;simpa using G j (by omega)
    ·simp at q
   ·simp at q
theorem sN(h:SR g s w a):∀{xs:List RV}{ys:List ResultVar}{vs:List V},fC P xs ys=true->rvs s xs=some vs->
  ∃cvs:List Value,cvs.length=vs.length∧xs.length=vs.length∧ys.length=vs.length∧(∀(i:Nat) y,ys[i]? =some y->∃cv,cvs[i]? =some cv∧(kZ a.tmps y).run P w=.ok cv w)∧
   (∀(i:Nat) v cv,vs[i]? =some v->cvs[i]? =some cv->VRel g.I g.ρ s.hp.length w v cv)∧
   (∀(i:Nat) x v cv,xs[i]? =some x->vs[i]? =some v->cvs[i]? =some cv->aee g w x v cv)
 | [],[],vs,_,d=>by simp only[rvs,Ab] at d;subst d;exact⟨[],rfl,rfl,rfl,by simp,by simp,by simp⟩
 |x::xs,y::ys,vs,j,d=>by
  simp only[fC,Aa] at j;simp only[rvs] at d;split at d
  ·rename_i v z A E;obtain rfl:=Ai d;obtain⟨cv,k1,k2,k3⟩:=abW h j.1 A;obtain⟨cvs,B,C,u,p,r,o⟩:=sN h j.2 E;refine⟨cv::cvs,by simp[B],by simp[C],by simp[u],?_,?_,?_⟩
   ·intro i t m;cases i with
    |zero=>simp at m;subst m;exact⟨cv,rfl,k1⟩
    |succ i=>simpa using p i t (by simpa using m)
   ·intro i k e c b;cases i with
    |zero=>simp at c b;subst c b;exact k2
    |succ i=>exact r i k e (by simpa using c) (by simpa using b)
   ·intro i q k e f c b;cases i with
    |zero=>simp at f c b;subst f c b;exact k3
    |succ i=>exact o i q k e (by simpa using f) (by simpa using c) (by simpa using b)
  ·simp at d
 | [],_::_,_,j,_=>by simp[fC] at j
 |_::_,[],_,j,_=>by simp[fC] at j
def Gh.hand(g:Gh)(r:Option Nat):Gh:={g with O:=λb=>match g.O b with|some (.slot m)=>(if some m=r then some .res else none)|some .res=>none|o=>o}
theorem HR.hand{hp:List al}(h:HR g hp w)(r:Option Nat):HR (g.hand r) hp w:=by
 refine⟨?_,h.apart,h.notI,?_,h.exI,?_⟩
 ·intro id cs f;refine(h.obj id cs f).keep rfl λq e x v d=>?_
  refine⟨d.len,d.plain,d.typed,d.cold,d.one,d.rel,?_,d.bn⟩;intro j c cv t k;refine ch (d.own j c cv t k) rfl (λb j u=>⟨u,rfl⟩) ?_;intro b i;exact⟨by simp[Gh.hand,i],rfl,λj p=>p⟩
 ·intro id cs f;simp[Gh.hand,h.notO id cs f]
 ·intro b o i;cases m:g.O b with
  |none=>simp[Gh.hand,m] at i
  |some o'=>exact h.oLt b o' m
theorem FR.hand{e:Gh}{c hp:List al}{d:World}(h:FR e c d g hp w)(r:Option Nat):FR e c d (g.hand r) hp w:=
 ⟨h.beta,h.os,h.tape,h.output,h.size,h.block,h.up,h.iSame,λb f j i=>by simp[Gh.hand,h.oSame b f j i],h.live⟩
def kq:List Value->Value
 | [v]=>v
 |vs=>.tuple vs.toArray
theorem sv{fn:Func}{l:List ResultVar}{cvs:List Value}(F:fn.results.toList=l)(r:l.length=cvs.length)(B:l.length<=5)
  (h:∀(i:Nat) y,l[i]? =some y->∃cv,cvs[i]? =some cv∧(kZ a.tmps y).run P w=.ok cv w):
  (results fn a.tmps).run P w=.ok (kq cvs) w:=by
 have e:fn.results=l.toArray:=by rw[<-F]
 have C:results fn a.tmps=(do let vs <-fn.results.mapM (kZ a.tmps);pure (if h:vs.size=1 then vs[0] else .tuple vs)):=rfl;rw[C,e];match l,cvs,r,B,h with
 | [],[],_,_,_=>simp[kq]
 | [f],[c0],_,_,h=>obtain⟨_,b,d⟩:=h 0 f rfl;simp at b;subst b;simp[d,kq]
 | [f,k],[c0,v],_,_,h=>obtain⟨_,b,d⟩:=h 0 f rfl;obtain⟨_,c,m⟩:=h 1 k rfl;simp at b c;subst b c;simp[d,m,kq]
 | [f,k,o],[c0,v,c2],_,_,h=>obtain⟨_,b,d⟩:=h 0 f rfl;obtain⟨_,c,m⟩:=h 1 k rfl;obtain⟨_,j,q⟩:=h 2 o rfl;simp at b c j;subst b c j;simp[d,m,q,kq]
 | [f,k,o,t],[c0,v,c2,E],_,_,h=>obtain⟨_,b,d⟩:=h 0 f rfl;obtain⟨_,c,m⟩:=h 1 k rfl;obtain⟨_,j,q⟩:=h 2 o rfl;obtain⟨_,p,u⟩:=h 3 t rfl;simp at b c j p;subst b c j p;simp[d,m,q,u,kq]
 | [f,k,o,t,A],[c0,v,c2,E,G],_,_,h=>obtain⟨_,b,d⟩:=h 0 f rfl;obtain⟨_,c,m⟩:=h 1 k rfl;obtain⟨_,j,q⟩:=h 2 o rfl;obtain⟨_,p,u⟩:=h 3 t rfl;obtain⟨_,x,z⟩:=h 4 A rfl;simp at b c j p x;subst b c j p x;simp[d,m,q,u,z,kq]
theorem adv(b2:bt P Γ){M:List Nat}(hP:cz Γ M){f:FuncId}{fn:Func}{p:Code}{ir:IR}{u:List RV}{n:Nat}{vs:List V}{hp hp':List al}{v:V}
  (hf:P.funcs[f]? =some fn) (hb:fn.body=some p) (Z:au P M hp.length ir p=true) (bY:fC P u fn.results.toList=true) (h5:fn.results.toList.length<=5)
  (R:gr Γ n fn.ntmps u ir vs hp=some (v,hp')):FnOK P f vs hp v hp':=by
 intro w g cargs b1 N W E Q;refine calls_of_wp hf hb ?_;let r:Act:={tmps:=cargs++DL (fn.ntmps-cargs.size) undef,defers:=[]}
 have bs:SR g (start fn.ntmps vs hp) w r:=by
  refine⟨N,⟨by simp[start,r,W],?_,?_⟩⟩
  ·intro n v cv h m;simp only[start,r] at h m;rcases AG n vs.length with H|H;·rw[Am H] at h;rw[BD (by omega)] at m;exact Q n v cv h m
   ·rw[Aj H,De] at h;split at h;·obtain rfl:=Ai h;exact .undef _
    ·simp at h
  ·intro n v cv h m;simp only[start] at h;rcases AG n vs.length with H|H;·rw[Am H] at h;exact jm (E v (Ap h)) _ _ _ _
   ·rw[Aj H,De] at h;split at h;·obtain rfl:=Ai h;simp[OwnOK]
    ·simp at h
 have X:=co (df:=[]) b2 ⟨b1,N.notI⟩ hP n (Ao _) ir p Z (fin u) (start fn.ntmps vs hp) r w g R ⟨bs,FR.refl _ _ _,rfl⟩;refine wp_mono X ?_;rintro e a' w' ⟨ex,s',g',he,hk,q⟩
 have B:∀v hp',(jl s' u).map (λv=>(v,s'.hp))=some (v,hp')->a'.defers=[]∧∃cv,(results fn a'.tmps).run P w'=.ok cv w'∧
   (∃G o,Ending.returned cv=.returned G∧HR o hp' w'∧FR g hp w o hp' w'∧VRel o.I o.ρ hp'.length w' v G∧OwnOK o w' .res v G):=by
  intro v hp' z;refine⟨q.df,?_⟩;obtain⟨v',d,S⟩:=Ah.1 z;simp only[Ae] at S;obtain⟨rfl,rfl⟩:=S;have a0:∃j,rvs s' u=some j:=by
   unfold jl at d;cases hh:rvs s' u with
   |none=>rw[hh] at d;simp at d
   |some j=>exact⟨j,rfl⟩
  obtain⟨j,F⟩:=a0;obtain⟨cvs,Y,l2,l3,l4,J,L⟩:=sN q.sr bY F;have C:=sv (fn:=fn) (a:=a') (P:=P) (w:=w') rfl (by rw[l3,Y]) h5 l4;unfold jl at d;rw[F] at d;clear F l3 l4 z;match u,j,cvs,Y,l2,J,L,C,d with
  | [x],[v0],[c0],_,_,J,L,C,d=>
    simp only[Ab] at d;subst d;have A:=L 0 x v0 c0 rfl rfl rfl;have O:=J 0 v0 c0 rfl rfl;cases x with
    |t n=>
     simp only[aee] at A;refine⟨c0,C,c0,g'.hand (some n),rfl,q.sr.hr.hand _,q.fr.hand _,O,?_⟩;unfold OwnOK at A ⊢;split;·rename_i k xs ad len cap;obtain⟨o1,o2,o3⟩:=A;exact⟨by simp[Gh.hand,o1],o2,o3⟩
     ·obtain⟨o1,o2,o3⟩:=A;exact⟨by simp[Gh.hand,o1],o2,o3⟩
     ·rcases A with A|⟨b,cap,bb,e,fz,m0,m1,m2,m3,m4,m5⟩
      ·exact .inl A
      ·exact .inr ⟨b,cap,bb,e,fz,m0,m1,m2,m3,by simp[Gh.hand,m4],m5⟩
     ·trivial
    |cell n b4 agg=>exact⟨c0,C,c0,g'.hand none,rfl,q.sr.hr.hand _,q.fr.hand _,O,jm A _ _ _ _⟩
  | [],[],[],_,_,J,L,C,d=>simp only[Ab] at d;subst d;exact⟨_,C,_,g'.hand none,rfl,q.sr.hr.hand _,q.fr.hand _,.tup [] #[] rfl (by simp),by simp[OwnOK]⟩
  |x::y::u,v0::v1::j,c0::c1::cvs,Y,_,J,L,C,d=>simp only[Ab] at d;subst d;refine⟨_,C,_,g'.hand none,rfl,q.sr.hr.hand _,q.fr.hand _,.tup _ _ (by simpa using Y.symm) ?_,by simp[OwnOK]⟩;intro i c cv Z m;rw[Au,Ah] at Z;obtain⟨c',a3,rfl⟩:=Z;exact(J i c' cv a3 (by simpa using m)).disown
 cases ex with
 |normal=>cases e<;>simp only[gz] at he;exact B _ _ hk
 |exit i=>simp[fin] at hk
 |ret=>cases e<;>simp only[gz] at he;exact B _ _ hk
end
end Go.AM
end
