import Derived.Orders
import Derived.MapKept
import Derived.WideKeyRuns
import Derived.WalkSpells
import Derived.Test.YtndccphabnjkhaaGreatZ00
open Array renaming getElem?_eq_getElem→Am,getElem?_eq_some_iff→A1,length_toList→B4,getElem?_eq_none→B7,getElem?_append_left→B8,getD→Cg,getElem?_modify→Cz,getElem?_toList→Dv,getElem?_push→DK
open Bool renaming and_eq_true→Ac,or_eq_true→Bl,eq_iff_iff→BD,false_eq_true→Cw,and_eq_false_iff→C1
open Function renaming comp_def→D6
open Go.Addr renaming add_lit→B0
open Go.Builtin renaming append_→CO,len_→Dd
open Go.Instr renaming sureAddr→Ce,checkKey→Cu,sameBits→Dh,loadAt→DF,mapUpdate→DJ,sameNow→DY,indexAt→D1
open Go.IntKind renaming signed→AU,bits→A8,max→Bz,min→BU
open Go.Oper renaming upon→Dy
open Go.Region renaming wanted→C7
open Go.Result renaming andThen_ok→CF
open Go.Sem renaming run_bind→Dg
open Go.World renaming cell?_setCells_out→BF,cell?→BM,block_lt_of_cell?→B3,cell?_setCells_in→Cm,frozen?→CD
open List renaming length→Aa,length_cons→Af,getElem?_eq_some_iff→Ag,getElem?_eq_getElem→Ah,getD→Ai,length_append→Aj,getD_eq_getElem?_getD→Ar,mem_of_getElem?→At,getElem?_append_right→Au,mem_singleton→Av,mem_append→Aw,getElem?_append_left→Ax,getElem?_set→Ay,all_eq_true→AA,mem_map→AD,getElem?_map→AF,map_append→AK,mem_cons→AN,cons_append→AP,length_set→AR,length_drop→AT,mem_flatMap→AW,mem_cons_self→AZ,mem_cons_of_mem→A3,getElem?_take→A7,length_singleton→Bb,mem_iff_getElem→Be,foldl_cons→Bf,nil_append→Bg,getElem?_eq_none→Bj,map_congr_left→Bk,getElem?_drop→Bq,eq_nil_of_length_eq_zero→Bw,pairwise_append→By,pairwise_cons→BA,length_take→BE,getD_cons_zero→BH,getElem?_cons_succ→BI,mem_of_mem_take→BJ,getElem?_set_ne→BK,mem_of_mem_drop→BL,getElem?_cons_zero→BN,range→BR,mem_append_left→BS,flatMap_cons→BV,length_map→BY,getElem_mem→B1,getElem?_set_self→Cv,take_of_length_le→CT,mem_range→C3,range'→Da,ext_getElem?→Do,foldl_append→Dp,contains_iff_mem→Dz,map_map→DH,set_cons_zero→DU,set_cons_succ→DV,map_drop→DZ,map_take→D0,set_comm→D2,size_toArray→D3,length_range→D7,filterMap_cons_some→D9,getElem?_replicate→Eb
open List.cons renaming injEq→CS
open Nat renaming le_refl→Ap,lt_or_ge→AH,lt_of_lt_of_le→AI,eq_of_beq_eq_true→AJ,add_mul→AS,mul_le_mul_right→A2,beq→A4,le_trans→A6,ne_of_lt→Bu,zero_add→Bv,mul_comm→BZ,div_lt_of_lt_mul→Ch,add_zero→Ck,add_assoc→CC,mul_one→CI,blt_eq→C5,div_add_mod→Db,sub_self→De,le_mul_of_pos_right→Dl,one_mul→Ds,le_of_not_lt→Du
open Ne renaming symm→C8
open Option renaming map_eq_some_iff→Aq,getD_some→Bo,map_some→BC,isSome_iff_exists→BG,bind_eq_some_iff→Co,map_map→CZ,mem_toList→D4
open Option.some renaming injEq→Ae,inj→AG
open Prod.mk renaming injEq→Al
set_option linter.all false
noncomputable section
namespace Go.AM
def ac8(P:Program)(o:IOp)(m:Oper):Bool:=
 match o with
 | .apu d k x y=>(m.dst==some d)&&(match aea m.op with|some (.append,[b,f],[t,u])=>nD P t k&&(nD P u k&&(bw x b&&bw y f))|_=>false)
 | .lnw d x=>(m.dst==some d)&&(match aea m.op with|some (.len,[b],[t])=>(match P.underlying t with|some (.slice _)=>true|_=>false)&&bw x b|_=>false)
 | .ixw d k x i=>(m.dst==some d)&&(match m.op with| .indexAddr t b c=>nD P t k&&(bw x b&&bw i c)|_=>false)
 | .stw d n x v=>(m.dst==d)&&(match m.op with| .store t b e=>(gk P t==some n)&&(bw x b&&bw v e)|_=>false)
 |_=>false
section
variable{w w':World}{g g':Gh}{s s':St}{a:Act}{P:Program}{Γ:aI}{m:Oper}{next:Act->World->Prop}{Q:Exit->Act->World->Prop}
theorem rt{i j n z:Nat}(b:i<n)(c:j<z):i*z+j<n*z:=by
 calc i*z+j<i*z+z:=by omega
  _=(i+1)*z:=by rw[AS,Ds]
  _<=n*z:=A2 _ b
theorem abi{I:Nat->Nat->Prop}{ρ:Nat->Nat}{N:Nat}{k:EK}{x:Ty k}{j:Nat}{v:V}{u:Value}(b:(enc k x)[j]? =some v)(h:VRel I ρ N w v u){ρ':Nat->Nat}{N':Nat}:VRel I ρ' N' w v u:=
 h.flat1 (aiX k x v (At b))
theorem SR.newUL(h:SR g s w a)(k:EK)(xs:List (Ty k))(cap d:Nat)(r:Array Value)(e:TypeId)
  (S:w'.heap.size=w.heap.size+1) (f:∀b,b<w.heap.size->w'.heap[b]? =w.heap[b]?) {N:Nat×Nat} (E:w'.heap[w.heap.size]? =some (.cells r e N))
  (F:w'.os=w.os) (G:w'.tape=w.tape) (D:w'.output=w.output)
  (H:xs.length<=cap) (Z:cap<=cw) (z:cap*k.sz<=r.size) (B:k=.u8->e=g.β) (L:amv N r.size)
  (J:∀(i:Nat) x j v,xs[i]? =some x->(enc k x)[j]? =some v->∃cv,r[i*k.sz+j]? =some cv∧VRel g.I (λ_=>0) 0 w v cv):
  ∃g',SR g' (s.set d (.ul k xs)) w' (a.put (some d) (.slice (some ⟨w.heap.size,0,none⟩) xs.length cap))∧FR g s.hp w g' s.hp w':=by
 let g':Gh:={g with O:=λb=>if b=w.heap.size then some (.slot d) else g.O b}
 have y:∀b j,g.I b j->b<w.heap.size:=by intro b j l;obtain⟨v,J⟩:=BG.1 (h.hr.exI b j l);exact B3 _ _ J
 have c:∀b j,b<w.heap.size->w'.cell? ⟨b,j,none⟩=w.cell? ⟨b,j,none⟩:=by intro b j p;simp[BM,f b p]
 have u:Up g.I g.ρ s.hp.length w g'.I g'.ρ s.hp.length w':=⟨λb j l=>l,λb j l=>c b j (y b j l),λ_ _=>rfl,Ap _⟩
 have hs:SR g' s w' a:=by
  refine h.keep none trivial rfl u ?_ ?_ ?_ ?_;·intro M b p _;have q:=h.hr.oLt b M p;exact⟨by simp[g',Bu q,p],f b q,λj A=>A⟩
  ·intro id cs C;have q:=(h.hr.obj id cs C).lt;exact⟨f _ q,by simp[g',Bu q,h.hr.notO id cs C],λj A=>A⟩
  ·intro b j A;rw[c b j (y b j A)];exact h.hr.exI b j A
  ·intro b o p;simp only[g'] at p;split at p;·omega
   ·have:=h.hr.oLt b o p;omega
 refine⟨g',hs.set d (.ul k xs _ _ (by omega)) (.inr ⟨w.heap.size,cap,r,e,N,L,rfl,H,Z,by simp[g'],E,z,B,?_,?_⟩),⟨rfl,F,G,D,by omega,λb p _ _=>f b p,u,λ_ _ _ _ _ l=>l,?_,λ_ cs h=>.inl ⟨cs,h⟩⟩⟩;·intro j l;exact absurd (y _ _ l) (Nat.lt_irrefl _)
 ·intro i x j v cv h1 X R;obtain⟨ad,e1,W⟩:=J i x j v h1 X;rw[e1] at R;obtain rfl:=AG R;exact W.up ⟨λ_ _ l=>l,λb j l=>c b j (y b j l),λ_ _=>rfl,Ap _⟩
 ·intro b p _ Y;simp[g',Bu p,Y]
theorem SR.inPlaceU(h:SR g s w a){p:Occ}(hp:yz (some p) s)(k:EK)(xs ys:List (Ty k))(b cap d:Nat)(news:List Value){q:Array Value}{e:TypeId}{J:Nat×Nat}(o0:amv J q.size)
  (F:g.O b=some p) (X:w.heap[b]? =some (.cells q e J)) (o3:cap*k.sz<=q.size) (R:k=.u8->e=g.β) (oI:∀j,¬g.I b j)
  (oc:∀(i:Nat) x (j:Nat) v u,xs[i]? =some x->(enc k x)[j]? =some v->q[i*k.sz+j]? =some u->VRel g.I (λ_=>0) 0 w v u) (M:cap<=cw)
  (z:xs.length+ys.length<=cap) (hl:news.length=ys.length*k.sz)
  (Z:∀(i:Nat) x (j:Nat) v,ys[i]? =some x->(enc k x)[j]? =some v->∃u,news[i*k.sz+j]? =some u∧VRel g.I (λ_=>0) 0 w v u):
  ∃g',SR g' (s.set d (.ul k (xs++ys))) (w.setCells b (xs.length*k.sz) news) (a.put (some d) (.slice (some ⟨b,0,none⟩) (xs.length+ys.length) cap))∧
   FR g s.hp w g' s.hp (w.setCells b (xs.length*k.sz) news):=by
 have af:xs.length*k.sz+news.length<=q.size:=by have:(xs.length+ys.length)*k.sz<=cap*k.sz:=A2 _ z;rw[AS] at this;omega
 obtain⟨⟨C,q1,q2⟩,Y,q4,q5,q6,q7⟩:=nE b news (xs.length*k.sz) w q e J X;let w':=w.setCells b (xs.length*k.sz) news;let g':Gh:={g with O:=λc=>if c=b then some (.slot d) else g.O c}
 have r:∀c j,g.I c j->w'.cell? ⟨c,j,none⟩=w.cell? ⟨c,j,none⟩:=by intro c j y;exact BF b news _ w _ (by rintro rfl _;exact absurd y (oI j))
 have aa:∀(id:Nat) cs,s.hp[id]? =some (some cs)->g.ρ id≠b:=by intro id cs B W;have:=h.hr.notO id cs B;rw[W,F] at this;simp at this
 have u:Up g.I g.ρ s.hp.length w g'.I g'.ρ s.hp.length w':=⟨λb j y=>y,r,λ_ _=>rfl,Ap _⟩
 have hs:SR g' s w' a:=by
  refine h.keep (some p) hp rfl u ?_ ?_ ?_ ?_
  ·intro av c f ab;have l:c≠b:=by
    rintro rfl;rw[F] at f;exact ab f
   exact⟨by simp[g',l,f],Y c l,λj A=>A⟩
  ·intro id cs B;have l:=aa id cs B;exact⟨Y _ l,by simp[g',l,h.hr.notO id cs B],λj A=>A⟩
  ·intro c j A;rw[r c j A];exact h.hr.exI c j A
  ·intro c o f;simp only[g'] at f;rw[q4];split at f;·rename_i W;subst W;exact h.hr.oLt _ _ F
   ·exact h.hr.oLt _ _ f
 have E:∀j,C[j]? =if xs.length*k.sz<=j∧j<xs.length*k.sz+news.length then news[j-xs.length*k.sz]? else q[j]?:=by
  intro j;rw[<-bE q1 j];split;·rename_i A;have:=Cm b news (xs.length*k.sz) w (λj' ak=>by rw[bE X,Am (by omega)];rfl) (j-xs.length*k.sz) (by omega);rw[show xs.length*k.sz+(j-xs.length*k.sz)=j by omega] at this;rw[Ah (by omega)];exact this
  ·rename_i A;rw[BF _ _ _ w _ (λ_ _=>by simp only;omega),bE X]
 have ue:Up g.I (λ_=>0) 0 w g.I (λ_=>0) 0 w':=⟨λ_ _ y=>y,r,λ_ _=>rfl,Ap _⟩
 have S:∀x:Ty k,∀j v,(enc k x)[j]? =some v->j<k.sz:=by
  intro x j v Z;have:=(Ag.1 Z).1
  rwa [cP] at this
 refine⟨g',hs.set d ?_ (.inr ⟨b,cap,C,e,J,by rw[q2];exact o0,by simp,by simpa using z,M,by simp[g'],q1,by rw[q2];exact o3,R,oI,?_⟩),⟨rfl,q5,q6,q7,by rw[q4];exact Ap _,λc f _ D=>?_,u,λ_ _ _ _ _ y=>y,?_,λ_ cs h=>.inl ⟨cs,h⟩⟩⟩;·have:=VRel.ul (I:=g'.I) (ρ:=g'.ρ) (N:=s.hp.length) (w:=w') k (xs++ys) (some ⟨b,0,none⟩) cap (by simp;omega);simpa using this
 ·intro i x j v cv H L G;have A:=S x j v L;rw[E] at G;rcases AH i xs.length with y|y;·rw[Ax y] at H;have:=rt y A;rw[if_neg (by omega)] at G;exact(oc i x j v cv H L G).up ue
  ·rw[Au y] at H;obtain⟨u',e1,e2⟩:=Z _ x j v H L;have al:=(Ag.1 e1).1;have hp':i*k.sz=xs.length*k.sz+(i-xs.length)*k.sz:=by rw[<-AS];congr 1;omega
   rw[if_pos (by omega),show i*k.sz+j-xs.length*k.sz=(i-xs.length)*k.sz+j by omega,e1] at G;obtain rfl:=AG G;exact e2.up ue
 ·have l:c≠b:=by rintro rfl;rw[F] at D;simp at D
  exact Y c l
 ·intro c f _ D;have l:c≠b:=by rintro rfl;rw[F] at D;simp at D
  simp[g',l,D]
theorem aLk{x:ASrc}{d:Operand}{k:EK}{xs:List (Ty k)}(h:SR g s w a)(c:bw x d=true)(b:x.ev s=.ul k xs):
  ∃p,yz (some p) (x.after s)∧amw g w p k xs (a.eval d):=by
 unfold bw at c;split at c
 ·rename_i n k';obtain rfl:=by simpa using c
  simp only[ASrc.ev] at b;exfalso;cases e:s.get n<;>rw[e] at b<;>simp[disown] at b
 ·rename_i n k';obtain rfl:=by simpa using c
  refine⟨.slot n,abX n s,?_⟩;have:=h.er.getOwn n;rw[show s.get n=.ul k xs from b] at this;exact this
 ·rename_i v cv;simp only[ASrc.ev] at b;subst b;exact⟨.res,trivial,abV c _⟩
 ·rename_i f i;simp only[ASrc.ev] at b;cases b
 ·simp at c
theorem aH9{p:Occ}{k:EK}{xs:List (Ty k)}{cv:Value}(h:amw g w p k xs cv):
  ∃L:List Value,L.length=xs.length*k.sz∧(∀(i:Nat) x (j:Nat) v,xs[i]? =some x->(enc k x)[j]? =some v->∃u,L[i*k.sz+j]? =some u∧VRel g.I (λ_=>0) 0 w v u)∧
   ((xs=[]∧cv=.slice none 0 0)∨∃b cap c e f,amv f c.size∧cv=.slice (some ⟨b,0,none⟩) xs.length cap∧xs.length<=cap∧w.heap[b]? =some (.cells c e f)∧cap*k.sz<=c.size∧∀j v,L[j]? =some v->w.cell? ⟨b,j,none⟩=some v):=by
 rcases h with⟨rfl,rfl⟩|⟨b,cap,c,e,f,F,E,q,J,G,y,r,H,M,C⟩
 ·exact⟨[],by simp,by simp,.inl ⟨rfl,rfl⟩⟩
 ·have D:xs.length*k.sz<=c.size:=A6 (A2 _ q) r;refine⟨c.toList.take (xs.length*k.sz),by simp;omega,?_,.inr ⟨b,cap,c,e,f,F,E,q,y,r,?_⟩⟩
  ·intro i x j v z B;have d:j<k.sz:=by
    have:=(Ag.1 B).1
    rwa [cP] at this
   have l:=rt (Ag.1 z).1 d;have A:c[i*k.sz+j]? =some (c[i*k.sz+j]'(by omega)):=Am _;refine⟨_,?_,C i x j v _ z B A⟩;rw[A7,if_pos l,Dv];exact A
  ·intro j v d;rw[A7] at d;split at d;·rw[Dv] at d;rw[bE y];exact d
   ·simp at d
theorem aGl(ay:g.β=lN P){d:Nat}{k:EK}{x:ASrc}{S J:Operand}{xs ys:List (Ty k)}{M t u e:TypeId}{E:String}{H:Array Edge}{gd:Option (Nat×Bool)}(h:SR g s w a)
  (hx:bw x S=true) (au:x.ev s=.ul k xs) (ut:P.underlying t=some (.slice e)) (he:aci P e k=true) (news:List Value)
  (G:_root_.Go.Src P k.sz u (a.eval J) ys.length news w) (hv:∀(i:Nat) x (j:Nat) v,ys[i]? =some x->(enc k x)[j]? =some v->∃u,news[i*k.sz+j]? =some u∧VRel g.I (λ_=>0) 0 w v u)
  (W:(xs.length+ys.length)*k.bytes<=jU)
  (hn:dp g s w a ((x.after s).set d (.ul k (xs++ys))) next):
  (⟨some d,.call ⟨.builtin .append,⟨[S,J]⟩,⟨[t,u]⟩⟩,M,E,H,gd⟩:Oper).wp P a w next Q:=by
 obtain⟨inf,z,i1,Y,i3,i4,i5,i6,i7⟩:=pC he;have av:0<k.bytes:=by cases k<;>simp[EK.bytes];rename_i kk;cases kk<;>simp[arm]
 have X:xs.length+ys.length<=jU:=A6 (Dl _ av) W;obtain⟨p,hp,ho⟩:=aLk h hx au;have h1:=h.after x;obtain⟨L,l1,l3,l4⟩:=aH9 ho;have A:∀cv w',(CO #[t,u] M #[a.eval S,a.eval J]).run P w=.ok cv w'->(execOp a.eval ⟨some d,.call ⟨.builtin .append,⟨[S,J]⟩,⟨[t,u]⟩⟩,M,E,H,gd⟩).run P w=.ok (.value cv) w':=by intro cv w' R;simp[execOp,resolve,invoke,builtin,R]
 have C:(x.after s).hp=s.hp:=ql x s
 have O:∀(y:Option Addr)(cap:Nat),a.eval S=.slice y xs.length cap->cap<xs.length+ys.length->
   (Builtin.firstCells k.sz xs.length (.slice y xs.length cap)).run P w.drew=.ok L.toArray w.drew->
   (⟨some d,.call ⟨.builtin .append,⟨[S,J]⟩,⟨[t,u]⟩⟩,M,E,H,gd⟩:Oper).wp P a w next Q:=by
  intro y cap hb B ah
  have R:=run_append_grow_src w t u M e inf z ut i1 i4 y xs.length cap L (by rw[Y];exact ah) (a.eval J) ys.length news (by rw[Y];exact G) B (by unfold jU at X;omega)
   (growslice_fits B (by rw[i3];exact W))
  have Z:xs.length+ys.length<=grownCap w (xs.length+ys.length) cap e:=by unfold grownCap Question.cut;exact Nat.le_add_right _ _
  have a2:grownCap w (xs.length+ys.length) cap e<=cw:=by have:=grownCap_le_maxLen w (xs.length+ys.length) cap e (by unfold maxLen;unfold jU at X;omega);simpa [maxLen,cw] using this
  let c:Array Value:=(L++news).toArray++Builtin.zeroCells z.cells (grownCap w (xs.length+ys.length) cap e-(xs.length+ys.length));have a0:=G.newsLen;have ag:c.size=grownCap w (xs.length+ys.length) cap e*k.sz:=by
   simp only[c,Array.size_append,D3,Aj,l1,a0,size_zeroCells,i7];rw[<-AS,<-AS]
   congr 1
   omega
  have f:=my w.drew (.cells c e);obtain⟨g',q1,q2⟩:=h1.newUL (w':=w.drew.alloc (.cells c e)) k (xs++ys) (grownCap w (xs.length+ys.length) cap e) d c e f.1 f.2.1 f.2.2 rfl rfl rfl (by simpa using Z) a2 (by rw[ag];exact Ap _) (λhk=>by rw[ay];exact abW he hk) (aMa _) (by
   intro i x j v hx aa;have hj:j<k.sz:=by
    have:=(Ag.1 aa).1
    rwa [cP] at this
   have D:∀(q:Nat) u,(L++news)[q]? =some u->c[q]? =some u:=by intro q u hq;have ao:=(Ag.1 hq).1;simp only[c];rw[B8 (by simpa using ao)];simpa using hq
   rcases AH i xs.length with hi|hi;·rw[Ax hi] at hx;obtain⟨u,e1,e2⟩:=l3 i x j v hx aa;refine⟨u,D _ _ ?_,e2⟩;rw[Ax (Ag.1 e1).1];exact e1
   ·rw[Au hi] at hx;obtain⟨u,e1,e2⟩:=hv _ x j v hx aa;refine⟨u,D _ _ ?_,e2⟩;have:i*k.sz=xs.length*k.sz+(i-xs.length)*k.sz:=by rw[<-AS];congr 1;omega
    rw[Au (by rw[l1];omega),l1,<-e1]
    congr 1
    omega)
  have ab:(execOp a.eval ⟨some d,.call ⟨.builtin .append,⟨[S,J]⟩,⟨[t,u]⟩⟩,M,E,H,gd⟩).run P w=.ok (.value (.slice (some ⟨w.heap.size,0,none⟩) (xs++ys).length (grownCap w (xs.length+ys.length) cap e))) (w.drew.alloc (.cells c e)):=by refine A _ _ ?_;rw[hb,R];simp[c]
  refine fj rfl ab ⟨g',q1,?_⟩ hn;rw[C] at q2;show FR g s.hp w g' (x.after s).hp _;rw[C];exact q2
 rcases l4 with⟨rfl,r⟩|⟨b,cap,c,e',fz,a4,r,B,hb,b0,F⟩
 ·by_cases h0:ys.length=0
  ·have a3:ys=[]:=Bw h0;subst a3;have R:(CO #[t,u] M #[a.eval S,a.eval J]).run P w=.ok (.slice none 0 0) w:=by
    have aq:news=[]:=by have:=G.newsLen;simpa using this
    have hc:=G.cells;rw[r];rcases G.kind with⟨e',hk⟩|hk<;>simp[CO,run_underlying ut,run_underlying hk,sizeOf,typeInfo,i1,Y,G.len] at* <;>simp[hc]
   refine fj rfl (A _ _ R) ⟨g,?_,?_⟩ hn;·exact h1.set d (by simpa using VRel.ul (I:=g.I) (ρ:=g.ρ) (N:=(x.after s).hp.length) (w:=w) k ([]:List (Ty k)) none 0 (by simp)) (.inl ⟨by simp,rfl⟩)
   ·have:=FR.refl g s.hp w;simpa [St.set,C] using this
  ·exact O none 0 (by simpa using r) (by simp;omega) (by
    have hL:L=[]:=by simpa using l1
    subst hL;simpa using run_firstCells_none (P:=P) w.drew k.sz 0 0 0)
 ·by_cases l:xs.length+ys.length<=cap
  ·rcases ho with⟨rfl,ho⟩|⟨b2,a5,a7,e2,b1,m0,m1,m2,m3,m4,m5,m6,m7,m8,m9⟩
   ·rw[r] at ho;cases ho
   ·rw[r] at m1;cases m1;rw[hb] at m5;cases m5;have a6:xs.length*k.sz+news.length<=cap*k.sz:=by
     have:(xs.length+ys.length)*k.sz<=cap*k.sz:=A2 _ l;rw[AS] at this;rw[G.newsLen];omega
    have R:=run_append_room_src w t u M e inf ut i1 b 0 xs.length cap (a.eval J) ys.length news (by rw[Y];exact G) l (by
     intro j hj;rw[Y,bE hb,Am (by omega)];rfl) (by
     intro j hj;rw[Y];have hc:=a4 (0+xs.length*k.sz+j) (by omega);simp only[CD,hb,C1,decide_eq_false_iff_not];omega)
    rw[Y,Bv] at R;have q:=h1.inPlaceU hp k xs ys b cap d news m0 m4 hb m6 m7 m8 m9 m3 l G.newsLen hv;rw[C] at q;refine fj rfl (A _ _ (by rw[r];exact R)) ?_ hn;obtain⟨g',q1,q2⟩:=q;exact⟨g',q1,by simpa [St.set,C] using q2⟩
  ·exact O _ cap r (by omega) (run_firstCells_some w.drew k.sz xs.length ⟨b,0,none⟩ xs.length cap L (by simpa using l1) (by intro j v hj;rw[B0,Bv];exact F j v hj))
theorem aGm{d:Nat}{k:EK}{x y:ASrc}(C:g.β=lN P)(r:ac8 P (.apu d k x y) m=true)(f:step Γ (.apu d k x y) s=some (true,s'))(h:SR g s w a)(hn:dp g s w a s' next):m.wp P a w next Q:=by
 obtain⟨dst,op,ty,N,ac,gd⟩:=m;simp only[ac8,Ac,beq_iff_eq] at r;obtain⟨rfl,r⟩:=r;split at r
 ·rename_i x' y' t u F;obtain rfl:=nN F;simp only[Ac] at r;obtain⟨h1,R,h3,O⟩:=r;obtain⟨e,Z,e1⟩:=fJ h1;obtain⟨e',D,e2⟩:=fJ R;simp only[step] at f;split at f
  ·rename_i k' l X o mm H hy;split at f
   ·rename_i hk;subst hk;split at f
    ·rename_i z;simp only[Ae,Al,decide_eq_true_eq] at f;obtain⟨A,rfl⟩:=f;have B:=bD O h.er;rw[hy] at B;have B:=aEd z B;obtain⟨L,E,l2,Y,l4⟩:=asW B;refine aGl C h h3 H Z e1 L (ys:=z▸mm) ?_ (λi x j v H M=>by
      obtain⟨u,q1,q2⟩:=Y i x j v H M;exact⟨u,q1,abi M q2⟩) (by rw[arq];exact A) hn
     rcases l4 with⟨p,I,q, -⟩|⟨b,ae,cap,q,J,S,c⟩
     ·rw[q,p];have W:L=[]:=by rw[p] at E;simpa using E
      rw[W];cases I with
      |none=>exact _root_.Go.Src.ofNil w D 0
      |some I=>exact _root_.Go.Src.ofSlice w D _ _ _ _ (by simp) (by intro j v G;simp at G) (by simp)
     ·rw[q];exact _root_.Go.Src.ofSlice w D _ _ _ _ E (by intro j v G;rw[B0];exact c j v G) l2
    ·simp at f
   ·simp at f
  ·simp at f
 ·simp at r
theorem aLl{d:Nat}{x:ASrc}(c:ac8 P (.lnw d x) m=true)(i:step Γ (.lnw d x) s=some (true,s'))(h:SR g s w a)(q:dp g s w a s' next):m.wp P a w next Q:=by
 obtain⟨dst,G,F,y,B,D⟩:=m;simp only[ac8,Ac,beq_iff_eq] at c;obtain⟨rfl,c⟩:=c;split at c
 ·rename_i v t j;obtain rfl:=nN j;simp only[Ac] at c;obtain⟨u,C⟩:=c;have f:=bD C h.er;split at u
  ·rename_i e p;simp only[step] at i;split at i
   ·rename_i n l;obtain rfl:_=s':=by simpa using i
    rw[l] at f;generalize b:a.eval v=cv at f;cases f with
    |hd _ E cap A=>refine bv h rfl (cv:=.int .i64 n) (by simp[execOp,resolve,b,invoke,builtin,Dd,run_underlying p,goInt]) ?_ rfl q;exact .int _ _ (by simp[BU,Bz,AU,A8,cw] at *;omega)
   ·rename_i k id n l;obtain rfl:_=s':=by simpa using i
    rw[l] at f;generalize b:a.eval v=cv at f;cases f with
    |sw _ _ _ z r A=>refine bv h rfl (cv:=.int .i64 n) (by simp[execOp,resolve,b,invoke,builtin,Dd,run_underlying p,goInt]) ?_ rfl q;exact .int _ _ (by simp[BU,Bz,AU,A8,cw] at *;omega)
   ·simp at i
  ·simp at u
 ·simp at c
theorem aLm{d:Nat}{k:EK}{x i:ASrc}(c:ac8 P (.ixw d k x i) m=true)(b:step Γ (.ixw d k x i) s=some (true,s'))(h:SR g s w a)(E:dp g s w a s' next):m.wp P a w next Q:=by
 obtain⟨dst,op,W,y,I,R⟩:=m;simp only[ac8,Ac,beq_iff_eq] at c;obtain⟨rfl,c⟩:=c;split at c
 ·rename_i t N H;simp only[Ac] at c;obtain⟨u,B,M⟩:=c;have r:=bD B h.er;have l:=bD M h.er;simp only[step] at b;split at b
  ·rename_i k' id len Z n G J;split at b
   ·rename_i O;subst O;simp only[Ae,Al,Ac,decide_eq_true_eq] at b;obtain⟨⟨D,A⟩,rfl⟩:=b;rw[G] at r;rw[J] at l;obtain⟨e,C,u⟩:=fJ u;obtain⟨inf,z,L,F,S,i4,X,_⟩:=pC u;generalize q:a.eval N=cv at r;generalize p:a.eval H=ci at l;cases l;cases r with
    |sw _ _ _ j v Y=>
     have f:∀w':World,(sizeOf e).run P w'=.ok k'.sz w':=λw'=>by simp[sizeOf,typeInfo,L,F]
     refine bv h rfl (cv:=.pointer (some ⟨g.ρ id,n.toNat*k'.sz+0,none⟩)) ?_ (.wp _ _ _ _ j) rfl E;simp[execOp,q,p,D1,asIntOf,run_underlying C,D,A,f,B0]
   ·simp at b
  ·simp at b
 ·simp at c
theorem ai2{id:Nat}{k:EK}{xs:List (Ty k)}(b:s.rowW id=some ⟨k,xs⟩):s.hp[id]? =some (some [.rw k xs]):=by
 unfold St.rowW at b;simp only[Ai] at b;cases c:s.hp[id]? with
 |none=>rw[c] at b;simp at b
 |some x=>
  rw[c] at b;simp only[Bo] at b;split at b;·simp only[Ae] at b;cases b;rfl
  ·cases b
theorem xn{k:EK}:∀(xs:List (Ty k))(i j:Nat)(x:Ty k)(v:V),xs[i]? =some x->(enc k x)[j]? =some v->(xs.flatMap (enc k))[i*k.sz+j]? =some v
 | [],i,j,x,v,b,_=>by simp at b
 |y::xs,0,j,x,v,b,c=>by simp at b;subst b;have f:=(Ag.1 c).1;simp only[BV,Nat.zero_mul,Bv];rw[Ax f];exact c
 |y::xs,i+1,j,x,v,b,c=>by
  have e:=xn xs i j x v (by simpa using b) c;simp only[BV];have d:=cP k y;rw[Au (by rw[d,AS];omega),d,<-e]
  congr 1
  rw[AS];omega
theorem dl{k:EK}:∀(xs:List (Ty k)),(xs.flatMap (enc k)).length=xs.length*k.sz
 | []=>by simp
 |x::xs=>by simp[BV,dl xs,cP,AS];omega
theorem gb{k:EK}(xs:List (Ty k))(q:Nat)(v:V)(h:(xs.flatMap (enc k))[q]? =some v):∃x,xs[q / k.sz]? =some x∧(enc k x)[q%k.sz]? =some v:=by
 have c:=(Ag.1 h).1;rw[dl] at c;have d:0<k.sz:=by cases k<;>simp[EK.sz]
 have i:q / k.sz<xs.length:=Ch (by rw[BZ];exact c);have f:q%k.sz<k.sz:=Nat.mod_lt _ d;have e:xs[q / k.sz]? =some xs[q / k.sz]:=Ah i;have b:q%k.sz<(enc k xs[q / k.sz]).length:=by rw[cP];exact f
 refine⟨_,e,?_⟩;have:=xn xs _ _ _ _ e (Ah b);rw[show q / k.sz*k.sz+q%k.sz=q by rw[BZ];exact Db q k.sz,h] at this;rw[Ah b,<-this]
theorem aeb{id:Nat}{k:EK}{xs:List (Ty k)}(h:SR g s w a)(r:s.rowW id=some ⟨k,xs⟩):∃b e d,w.heap[g.ρ id]? =some (.cells b e d)∧xs.length*k.sz<=b.size∧
  sK g s.hp.length w id [.rw k xs] b e d∧∀(i:Nat) x (j:Nat) v u,xs[i]? =some x->(enc k x)[j]? =some v->b[i*k.sz+j]? =some u->VRel g.I g.ρ s.hp.length w v u:=by
 obtain⟨b,e,d,q,c⟩:=(h.hr.obj id _ (ai2 r)).row rfl;obtain⟨A,C,B,z⟩:=c.typed k xs rfl;have f:xs.length*k.sz<=b.size:=by
  have:=c.len;simp only[cellsOf] at this
  rwa [dl] at this
 refine⟨b,e,d,q,f,c,?_⟩;intro i x j v u y p l;exact c.rel (i*k.sz+j) v u (by simp only[cellsOf];exact xn xs i j x v y p) l
theorem axM(v:V):disown (disown v)=disown v:=by
 cases v with
 |sl k o xs=>cases o<;>rfl
 |_=>rfl
theorem aw6(v:V):v.weak.weak=v.weak:=by cases v<;>rfl
theorem amA{v:V}(h:v.inRange):v.weak.inRange:=by cases v<;>first|exact h|trivial
theorem aE1{k:EK}{x d:Ty k}{o:Nat}{vs:List V}(h:ach k x o vs=some d)(e:∀c∈enc k x,c.inRange)(f:∀c∈vs,c.inRange):
  enc k d=((enc k x).take o++vs.map V.weak)++(enc k x).drop (o+vs.length):=by
 unfold ach at h;rw[auZ h ?_]
 ·rw[AK,AK,DH,D0,DZ,azN]
  congr 2
  exact Bk λc _=>aw6 c
 ·intro c b;rcases Aw.1 b with b|b
  ·rcases Aw.1 b with b|b;·exact e c (BJ b)
   ·obtain⟨v,i,rfl⟩:=AD.1 b;exact amA (f v i)
  ·exact e c (BL b)
theorem aeC(k:EK)(x:Ty k)(j E n:Nat):(enc k x)[j]?≠some (.bn E n):=by intro h;have:=aiX k x _ (At h);simp[V.flat1] at this
theorem SR.putElt(h:SR g s w a){id i o:Nat}{k:EK}{xs:List (Ty k)}(ho:s.rowW id=some ⟨k,xs⟩)(r:i<xs.length){O:Ty k}{vs:List V}{us:List Value}(hl:vs.length=us.length)(a9:o+vs.length<=k.sz)
  (he:enc k O=((enc k xs[i]).take o++vs.map V.weak)++(enc k xs[i]).drop (o+vs.length))
  (hv:∀(j:Nat) c cv,vs[j]? =some c->us[j]? =some cv->VRel g.I g.ρ s.hp.length w c cv):
  SR g (s.setObj id [.rw k (xs.set i O)]) (w.setCells (g.ρ id) (i*k.sz+o) us) a∧FR g s.hp w g (s.hp.set id (some [.rw k (xs.set i O)])) (w.setCells (g.ρ id) (i*k.sz+o) us):=by
 have z:=ai2 ho;obtain⟨M,e,fz,hb,X,aj,G⟩:=aeb h ho;obtain⟨t1,t2,t3,t4⟩:=aj.typed k xs rfl;obtain⟨⟨H,q1,q2⟩,q3,q4,q5,q6,q7⟩:=nE (g.ρ id) us (i*k.sz+o) w M e fz hb;let w':=w.setCells (g.ρ id) (i*k.sz+o) us;have ao:i*k.sz+k.sz<=M.size:=by have:(i+1)*k.sz<=xs.length*k.sz:=A2 _ r;rw[AS,Ds] at this;omega
 have ab:∀b j,g.I b j->b≠g.ρ id:=by rintro b j r rfl;exact h.hr.notI id _ z j r
 have D:∀b j,g.I b j->w'.cell? ⟨b,j,none⟩=w.cell? ⟨b,j,none⟩:=by intro b j r;exact BF _ _ _ w _ (λe=>absurd e (ab b j r))
 have u:Up g.I g.ρ s.hp.length w g.I g.ρ s.hp.length w':=⟨λ_ _ h=>h,D,λ_ _=>rfl,Ap _⟩
 have C:∀R v cv,aO g w R v cv->aO g w' R v cv:=by intro R v cv ai;refine dC ai rfl (λb j r=>⟨u.mono b j r,u.cell b j r⟩) ?_;intro b F;refine⟨F,q3 b ?_,λj N=>N⟩;rintro rfl;rw[h.hr.notO id _ z] at F;simp at F
 have Y:∀j,H[j]? =if i*k.sz+o<=j∧j<i*k.sz+o+us.length then us[j-(i*k.sz+o)]? else M[j]?:=by
  intro j;rw[<-bE q1 j];split;·rename_i N;have:=Cm (g.ρ id) us (i*k.sz+o) w (λj' bd=>by rw[bE hb,Am (by omega)];rfl) (j-(i*k.sz+o)) (by omega);rw[show i*k.sz+o+(j-(i*k.sz+o))=j by omega] at this;rw[Ah (by omega)];exact this
  ·rename_i N;rw[BF _ _ _ w _ (λ_ _=>by simp only;omega),bE hb]
 have an:id<s.hp.length:=(Ag.1 z).1;have split:∀(f:Nat) o',(s.hp.set id (some [V.rw k (xs.set i O)]))[f]? =some (some o')->(f=id∧o'=[V.rw k (xs.set i O)])∨(f≠id∧s.hp[f]? =some (some o')):=by
  intro f o' l;rw[Ay] at l;split at l;·rename_i e;simp[an] at l;exact .inl ⟨e.symm,l.symm⟩
  ·rename_i e;exact .inr ⟨λe'=>e e'.symm,l⟩
 have B:∀(f:Nat) o',(s.hp.set id (some [V.rw k (xs.set i O)]))[f]? =some (some o')->∃J,s.hp[f]? =some (some J):=by
  intro f o' l;rcases split f o' l with⟨rfl,_⟩|⟨_,l⟩
  ·exact⟨_,z⟩
  ·exact⟨_,l⟩
 have al:0<k.sz:=by cases k<;>simp[EK.sz]
 have ak:xs[i]? =some xs[i]:=Ah r;have S:∀(q:Nat) c cv,(cellsOf [V.rw k (xs.set i O)])[q]? =some c->H[q]? =some cv->VRel g.I g.ρ s.hp.length w' c cv:=by
  intro q c cv p d;simp only[cellsOf] at p;obtain⟨y,Z,p⟩:=gb _ q c p;have l:q / k.sz*k.sz+q%k.sz=q:=by rw[BZ];exact Db q k.sz
  have hr:q%k.sz<k.sz:=Nat.mod_lt _ al;rw[Y] at d;rw[Ay] at Z;split at Z
  ·rename_i e1;rw[<-e1] at l;simp only[r,if_true,Ae] at Z;subst Z;have bl:=cP k xs[i];have hg:=ai1 (enc k xs[i]) (vs.map V.weak) o (by simp only[BY];omega) (q%k.sz);simp only[BY] at hg;rw[he,hg] at p;split at p;·rename_i N;rw[if_pos (by omega)] at d;rw[AF,Aq] at p;obtain⟨v,ah,rfl⟩:=p;rw[show q-(i*k.sz+o)=q%k.sz-o by omega] at d;exact((hv _ v cv ah d).weak).up u
   ·rename_i N;rw[if_neg (by omega)] at d;exact(G i _ (q%k.sz) c cv ak p (by rw[l];exact d)).up u
  ·rename_i e1;rw[if_neg ?_] at d;·exact(G _ y (q%k.sz) c cv Z p (by rw[l];exact d)).up u
   ·intro hh;rcases AH (q / k.sz) i with h1|h1;·have:=rt h1 hr;omega
    ·have h2:i<q / k.sz:=by omega
     have:(i+1)*k.sz<=q / k.sz*k.sz:=A2 _ h2;rw[AS,Ds] at this;omega
 refine⟨⟨⟨?_,?_,?_,?_,?_,?_⟩,⟨h.er.size,?_,?_⟩⟩,⟨rfl,q5,q6,q7,by rw[q4];exact Ap _,?_,?_,λ_ _ _ _ _ r=>r,λ_ _ _ hO=>hO,?_⟩⟩
 ·intro f o' l;simp only[St.setObj,AR];rcases split f o' l with⟨rfl,rfl⟩|⟨L,l⟩
  ·refine jV.ofRow (e:=e) q1 ⟨?_,(by intro hf;cases hf),?_,(λj N=>t1 j (AI N (by simp only[cellsOf,dl,AR];exact X))),?_,S,?_,?_⟩ rfl;·simp only[cellsOf,dl,AR,q2];exact X
   ·intro x ys hz;have hz:some _=some _:=hz;cases hz;exact⟨by rw[q2];exact t1,by rw[q2];exact t2,t3,t4⟩
   ·intro c p;simp only[cellsOf,AW] at p;obtain⟨y,_,p⟩:=p;exact ahr k y c p
   ·intro j c cv p d;have hm:=At p;simp only[cellsOf,AW] at hm;obtain⟨y,_,hm⟩:=hm;exact oJ (xm k y c hm) _ _ _ _
   ·intro j E n p;simp only[cellsOf] at p;obtain⟨y,_,p⟩:=gb _ j _ p;exact absurd p (aeC k y _ E n)
  ·refine(h.hr.obj f o' l).keep ?_ λaq e2 a7 A x=>⟨x.len,x.plain,x.typedUp rfl u.rho u.num rfl,x.cold,x.one,λj c cv p d=>(x.rel j c cv p d).up u,λj c cv p d=>C _ _ _ (x.own j c cv p d),x.bn⟩
   rw[q3 _ (h.hr.apart f id o' _ l z L)]
 ·intro id1 am W c2 A x L;obtain⟨_,A⟩:=B id1 W A;obtain⟨_,x⟩:=B am c2 x;exact h.hr.apart _ _ _ _ A x L
 ·intro id1 W A;obtain⟨_,A⟩:=B id1 W A;exact h.hr.notI _ _ A
 ·intro id1 W A;obtain⟨_,A⟩:=B id1 W A;exact h.hr.notO _ _ A
 ·intro b j r;rw[D b j r];exact h.hr.exI b j r
 ·intro b oc F;rw[q4];exact h.hr.oLt b oc F
 ·intro n v cv l d;simp only[St.setObj,AR];exact(h.er.rel n v cv l d).up u
 ·intro n v cv l d;exact C _ _ _ (h.er.own n v cv l d)
 ·intro b _ ae _;exact q3 b (λe=>ae id _ z e.symm)
 ·simp only[AR];exact u
 ·intro f o' l;obtain⟨J,l⟩:=B f o' l;exact .inl ⟨J,l⟩
theorem aLn{d:Option Nat}{n:Nat}{x v:ASrc}(f:ac8 P (.stw d n x v) m=true)(l:step Γ (.stw d n x v) s=some (true,s'))(h:SR g s w a)(Y:dp g s w a s' next):m.wp P a w next Q:=by
 obtain⟨dst,op,ty,F,N,gd⟩:=m;simp only[ac8,Ac,beq_iff_eq] at f;obtain⟨rfl,f⟩:=f;split at f
 ·rename_i t x' r;simp only[Ac,beq_iff_eq] at f;obtain⟨h1,h2,h3⟩:=f;have L:=bD h2 h.er;have r2:=bD h3 h.er;simp only[step] at l;split at l
  ·rename_i id k i o hx;split at l
   ·rename_i k' xs ho;split at l
    ·rename_i b;obtain⟨rfl,am,b⟩:=b;simp only[Ac,beq_iff_eq] at b;obtain⟨M,y⟩:=b;split at l
     ·rename_i x2 B;simp only[Ae,Al,decide_eq_true_eq] at l;obtain⟨E,rfl⟩:=l;have hd:xs.getD i (aK k')=xs[i]:=by simp[Ai,Ah E]
      rw[hd] at B;rw[hx] at L;generalize J:a.eval x'=cx at L;cases L with
      |wp _ _ _ _ ah=>
       obtain⟨A,e,fz,W,ad,R,C⟩:=aeb h ho;obtain⟨G,c2,O⟩:=af1 r2 y;have D:(a.eval r).cells.size=n:=by rw[<-G];exact M
       have Z:i*k'.sz+k'.sz<=A.size:=by have:(i+1)*k'.sz<=xs.length*k'.sz:=A2 _ E;rw[AS,Ds] at this;omega
       have z:(execOp a.eval ⟨dst,.store t x' r,ty,F,N,gd⟩).run P w=.ok .skip (w.setCells (g.ρ id) (i*k'.sz+o) (a.eval r).cells.toList):=by
        have:=run_storeCells_cells (P:=P) (g.ρ id) (i*k'.sz+o) (a.eval r).cells.toList 0 w
         (λj p=>by rw[bE W,Am (by simp at p;omega)];rfl)
         (λj p=>by have f:=(R.typed k' xs rfl).1 (i*k'.sz+o+j) (by simp at p;omega);simp[CD,W];omega)
         (λu hu=>by
          obtain⟨j,p,rfl⟩:=Be.1 hu;have q:j<(v.ev s).cells.length:=by rw[G];simpa using p
          exact(O j _ _ (Ah q) (by simp)).oneCell (c2 _ (B1 q)))
        simp[execOp,J,Instr.storeAt,Ce,storeVar,mw h1,D,this]
       have S:∀c∈enc k' xs[i],c.inRange:=by
        intro c f;obtain⟨j,p,rfl⟩:=Be.1 f;have q:j<k'.sz:=by rwa [cP] at p
        exact(C i _ j _ _ (Ah E) (Ah p) (Am (show i*k'.sz+j<A.size by omega))).inRange
       have H:∀c∈(v.ev s).cells,c.inRange:=by intro c f;obtain⟨j,p,rfl⟩:=Be.1 f;exact(O j _ _ (Ah p) (Am (show j<(a.eval r).cells.size by omega))).inRange
       obtain⟨X,p2⟩:=h.putElt (o:=o) (us:=(a.eval r).cells.toList) ho E (by simpa using G) (by omega) (aE1 B S H) (λj c cv f I=>O j c cv f (by simpa using I));unfold Oper.wp Dy;rw[z];cases dst with
       |none=>exact Y _ _ g X p2 rfl
       |some d=>exact Y _ _ g (X.set d (.undef _) (by simp[aO])) p2 rfl
     ·simp at l
    ·simp at l
   ·simp at l
  ·simp at l
 ·simp at f
end
def aLo(P:Program)(o:IOp)(m:Oper):Bool:=
 match o with
 |_=>false
section
variable{w w':World}{g g':Gh}{s s':St}{a:Act}{P:Program}{Γ:aI}{m:Oper}{next:Act->World->Prop}{Q:Exit->Act->World->Prop}
theorem aJV{k:EK}{xs:List (Ty k)}{q:Nat}{c:V}(d:(xs.flatMap (enc k))[q]? =some c):∃x,c∈enc k x:=by have b:=At d;simp only[AW] at b;obtain⟨y,_,b⟩:=b;exact⟨y,b⟩
theorem azW{id:Nat}{c:Hol}(b:s.rowH id=some c):∃f e,s.hp[id]? =some (some [.tup [.rw c.k c.xs,.sw c.k2 c.id2 c.n2,.wp f e c.i c.o]]):=by
 unfold St.rowH at b;simp only[Ai] at b;cases d:s.hp[id]? with
 |none=>rw[d] at b;simp at b
 |some x=>
  rw[d] at b;simp only[Bo] at b;split at b;·simp only[Ae] at b;subst b;exact⟨_,_,rfl⟩
  ·cases b
theorem aE2{id:Nat}{b:Hol}(h:SR g s w a)(p:s.rowH id=some b):∃c e d,w.heap[g.ρ id]? =some (.cells c e d)∧b.xs.length*b.k.sz<=c.size∧
  (∃cs,s.hp[id]? =some (some cs)∧aph cs=some ⟨b.k,b.xs⟩∧cellsOf cs=(b.xs.flatMap (enc b.k)).set (b.i*b.k.sz+b.o) (.sw b.k2 b.id2 b.n2)∧sK g s.hp.length w id cs c e d):=by
 obtain⟨r,q,f⟩:=azW p;obtain⟨c,e,d,l,j⟩:=(h.hr.obj id _ f).row rfl;refine⟨c,e,d,l,?_,_,f,rfl,rfl,j⟩;have:=j.len;simp only[cellsOf,AR] at this
 rwa [dl] at this
theorem aCW{k:EK}{x f:Ty k}{o:Nat}{v:V}(h:ach k x o [v]=some f)(i:∀(j:Nat) c,j≠o->(enc k x)[j]? =some c->c.inRange)(l:v.inRange):
  enc k f=((enc k x).take o++[v.weak])++(enc k x).drop (o+1):=by
 unfold ach at h;rw[auZ h ?_];·rw[AK,AK,DH,D0,DZ,azN];simp[aw6]
 ·intro c b;rcases Aw.1 b with b|b
  ·rcases Aw.1 b with b|b
   ·obtain⟨j,d⟩:=List.getElem?_of_mem b;rw[A7] at d;split at d;·exact i j c (by omega) d
    ·simp at d
   ·obtain⟨u,e,rfl⟩:=AD.1 b;simp only[Av] at e;subst e;exact amA l
  ·obtain⟨j,d⟩:=List.getElem?_of_mem b;rw[Bq] at d;exact i _ c (by simp;omega) d
theorem aGn(h:SR g s w a){n:Nat}(D:(jJ.hol n).step s=some (true,s')):∃g',SR g' s' w a∧FR g s.hp w g' s'.hp w:=by
 simp only[jJ.step] at D;split at D
 ·rename_i k0 id n0 c8;split at D
  ·rename_i hh ap;split at D
   ·rename_i O ys ab;split at D
    ·rename_i hk;split at D
     ·rename_i x' ag;simp only[Ae,Al,Ac,decide_eq_true_eq] at D;obtain⟨⟨ax,B⟩,rfl⟩:=D;have ay:=AJ ax;clear ax;obtain⟨k,xs,k2,r,n2,i,o⟩:=hh;simp only at hk ag ay B ab ⊢;subst hk;obtain⟨aa,e,fz,hb,Z,cs,hm,a0,Y,ad⟩:=aE2 h ap;simp only at Z a0 Y;obtain⟨t1,t2,t3,t4⟩:=ad.typed k xs a0;obtain⟨G,e2,c4,aj,b2,av,X⟩:=aeb h ab;obtain⟨s1,s2,s3,s4⟩:=av.typed O ys rfl;have z:=ai2 ab;have au:id≠r:=by
       rintro rfl;obtain⟨a1,a2,L⟩:=azW ap;rw[z] at L;cases L
      have hd:xs.getD i (aK k)=xs[i]:=by simp[Ai,Ah B]
      rw[hd] at ag;have b5:g.ρ id≠g.ρ r:=h.hr.apart _ _ _ _ hm z au;have cd:id<s.hp.length:=(Ag.1 hm).1;have c7:r<s.hp.length:=(Ag.1 z).1;have az:0<k.sz:=by cases k<;>simp[EK.sz]
      have ae:∀cv,o<k.sz->aa[i*k.sz+o]? =some cv->VRel g.I g.ρ s.hp.length w (.sw O r n2) cv:=by intro cv ho l;refine ad.rel (i*k.sz+o) _ cv ?_ l;rw[Y,Cv (by rw[dl];exact rt B ho)]
      have A:∀(q:Nat) c cv,q≠i*k.sz+o->(xs.flatMap (enc k))[q]? =some c->aa[q]? =some cv->VRel g.I g.ρ s.hp.length w c cv:=by intro q c cv J p l;refine ad.rel q c cv ?_ l;rw[Y,BK (C8 J)];exact p
      let W:Gh:={g with I:=λb j=>g.I b j∨(b=g.ρ r∧j<ys.length*O.sz)}
      let C:=(s.hp.set id (some [V.rw k (xs.set i x')])).set r none;have R:C.length=s.hp.length:=by simp[C]
      have u:Up g.I g.ρ s.hp.length w W.I W.ρ C.length w:=⟨λ_ _ hi=>.inl hi,λ_ _ _=>rfl,λ_ _=>rfl,by rw[R];exact Ap _⟩
      have u1:Up g.I g.ρ s.hp.length w W.I W.ρ s.hp.length w:=⟨λ_ _ hi=>.inl hi,λ_ _ _=>rfl,λ_ _=>rfl,Ap _⟩
      have sub:∀(j:Nat) f,C[j]? =some (some f)->(j=id∧f=[V.rw k (xs.set i x')])∨(j≠id∧j≠r∧s.hp[j]? =some (some f)):=by
       intro j f d;simp only[C,Ay] at d;split at d;·split at d<;>simp at d
       ·rename_i a6;split at d;·rename_i ac;simp only[Ae] at d;exact .inl ⟨ac.symm,d.symm⟩
        ·rename_i ac;exact .inr ⟨λe=>ac e.symm,λe=>a6 e.symm,d⟩
      have F:∀(j:Nat) f,C[j]? =some (some f)->j≠r∧∃ar,s.hp[j]? =some (some ar):=by
       intro j f d;rcases sub j f d with⟨rfl,_⟩|⟨_,h2,h3⟩
       ·exact⟨au,_,hm⟩
       ·exact⟨h2,_,h3⟩
      have H:∀ah v cv,aO g w ah v cv->aO W w ah v cv:=by
       intro ah v cv bl;refine dC bl rfl (λb j hi=>⟨.inl hi,rfl⟩) ?_;intro b af;refine⟨af,rfl,?_⟩;rintro j (d|⟨rfl,_⟩);·exact d
       ·rw[h.hr.notO r _ z] at af;simp at af
      have a8:∀(j:Nat) c,j≠o->(enc k xs[i])[j]? =some c->c.inRange:=by
       intro j c d p;have M:j<k.sz:=by
        have:=(Ag.1 p).1
        rwa [cP] at this
       have cc:=rt B M;exact(A (i*k.sz+j) c _ (by omega) (xn xs i j _ c (Ah B) p) (Am (by omega))).inRange
      have S:=aCW ag a8 trivial;have ao:o<k.sz:=by have h1:=congrArg Aa S;simp only[Aj,BE,AT,cP,Bb] at h1;omega
      have ak:∀(q:Nat) c cv,(cellsOf [V.rw k (xs.set i x')])[q]? =some c->aa[q]? =some cv->VRel W.I W.ρ C.length w c cv:=by
       intro q c cv p l;simp only[cellsOf] at p;obtain⟨y,hy,p⟩:=gb _ q c p;have J:q / k.sz*k.sz+q%k.sz=q:=by rw[BZ];exact Db q k.sz
       have hr:q%k.sz<k.sz:=Nat.mod_lt _ az;rw[Ay] at hy;split at hy
       ·rename_i e1;rw[<-e1] at J;simp only[B,if_true,Ae] at hy;subst hy;have hg:=ai1 (enc k xs[i]) [(V.sl O (.may false) ys).weak] o (by simp only[Bb,cP];omega) (q%k.sz);simp only[Bb] at hg;rw[S,hg] at p;split at p
        ·rename_i d;have e3:q%k.sz=o:=by omega
         rw[e3,De] at p;simp only[BN,Ae] at p;subst p;have bx:=ae cv ao (by rw[<-e3,J];exact l);cases bx with
         |sw _ _ _ hN bb L=>
         subst ay;simp only[V.weak];refine .sl O (.may false) ys (g.ρ r) 0 ys.length _ rfl bb L (by simp) (λi j=>G[i*O.sz+j]?.getD undef) ?_ ?_ ?_;·intro i' x j hx d;rw[cP] at d;exact .inr ⟨rfl,by have:=rt (Ag.1 hx).1 d;omega⟩
         ·intro i' x j hx d;rw[cP] at d;have:=rt (Ag.1 hx).1 d;rw[Bv,bE aj,Am (by omega)];rfl
         ·intro i' x j v hx d;have M:=(Ag.1 d).1;rw[cP] at M;have:=rt (Ag.1 hx).1 M;have ha:G[i'*O.sz+j]? =some (G[i'*O.sz+j]'(by omega)):=Am _;rw[ha];exact(X i' x j v _ hx d ha).up u
        ·rename_i d;exact(A q c cv (by omega) (by rw[<-J];exact xn xs i _ _ c (Ah B) p) l).up u
       ·rename_i e1;refine(A q c cv ?_ (by rw[<-J];exact xn xs _ _ _ c hy p) l).up u;intro bd;have:q / k.sz=i:=by
         rw[bd,BZ,Nat.mul_add_div az,Nat.div_eq_of_lt ao,Ck]
        exact e1 this.symm
      refine⟨W,⟨⟨?_,?_,?_,?_,?_,h.hr.oLt⟩,⟨h.er.size,λm v cv hv l=>(h.er.rel m v cv hv l).up u,λm v cv hv l=>H _ _ _ (h.er.own m v cv hv l)⟩⟩,⟨rfl,rfl,rfl,rfl,Ap _,λ_ _ _ _=>rfl,u,?_,λ_ _ _ hO=>hO,λj f d=>.inl (F j f d).2⟩⟩
      ·intro j f d;rcases sub j f d with⟨rfl,rfl⟩|⟨n1,ci,d⟩
       ·refine jV.ofRow (e:=e) hb ⟨?_,(by intro hf;cases hf),?_,(λj d=>t1 j (AI d (by simp only[cellsOf,dl,AR];exact Z))),?_,ak,?_,?_⟩ rfl;·simp only[cellsOf,dl,AR];exact Z
        ·intro k' zs hz;have hz:some _=some _:=hz;cases hz;exact⟨t1,t2,by rw[R];exact t3,t4⟩
        ·intro c p;simp only[cellsOf,AW] at p;obtain⟨y,_,p⟩:=p;exact ahr k y c p
        ·intro j c cv p l;obtain⟨y,a7⟩:=aJV p;exact oJ (xm k y c a7) _ _ _ _
        ·intro j E n p;simp only[cellsOf] at p;obtain⟨y,_,p⟩:=gb _ j _ p;exact absurd p (aeC k y _ E n)
       ·exact(h.hr.obj j f d).keep rfl λb0 e3 d1 m1 N=>⟨N.len,N.plain,N.typedUp rfl u.rho u.num rfl,N.cold,N.one,λj c cv p l=>(N.rel j c cv p l).up u,λj c cv p l=>H _ _ _ (N.own j c cv p l),N.bn⟩
      ·intro j j' a3 bs h1 h2 be;obtain⟨_,_,h1⟩:=F j a3 h1;obtain⟨_,_,h2⟩:=F j' bs h2;exact h.hr.apart _ _ _ _ h1 h2 be
      ·rintro j f d q (J|⟨J,_⟩);·obtain⟨_,_,d⟩:=F j f d;exact h.hr.notI _ _ d q J
       ·obtain⟨ba,_,d⟩:=F j f d;exact h.hr.apart _ _ _ _ d z ba J
      ·intro j f d;obtain⟨_,_,d⟩:=F j f d;exact h.hr.notO _ _ d
      ·rintro b j (d|⟨rfl,d⟩);·exact h.hr.exI b j d
       ·rw[bE aj,Am (by omega)];rfl
      ·rintro b j _ a9 _ (d|⟨rfl,_⟩);·exact d
       ·exact absurd rfl (a9 r _ z)
     ·simp at D
    ·simp at D
   ·simp at D
  ·simp at D
 ·simp at D
end
section
variable{w:World}{g g':Gh}{s s':St}{a:Act}
theorem SR.fillSlot(h:SR g s w a)(n:Nat){v:V}(b:VRel g.I g.ρ s.hp.length w v (a.tmps.getD n undef))(c:aO g w (.slot n) v (a.tmps.getD n undef)):SR g (s.set n v) w a:=
 ⟨h.hr,h.er.put' n b c⟩
theorem SR.fillCell(h:SR g s w a){id o:Nat}{cs:List V}(W:s.obj id=some cs)(N:o<cs.length){C:Array Value}{e:TypeId}(S:w.heap[g.ρ id]? =some (.cells C e (0,0))){v:V}{cv:Value}
  (x:C[o]? =some cv) (h1:v.one=true) (F:noBn v=true) (Z:VRel g.I g.ρ s.hp.length w v cv) (H:aO g w (.cell id o) v cv):
  SR g (s.setObj id (cs.set o v)) w a∧FR g s.hp w g (s.hp.set id (some (cs.set o v))) w:=by
 obtain⟨B,O⟩:=jL W;have L:id<s.hp.length:=(Ag.1 B).1;let l:=cs.set o v;have split:∀(b:Nat) o',(s.hp.set id (some l))[b]? =some (some o')->(b=id∧o'=l)∨(b≠id∧s.hp[b]? =some (some o')):=by
  intro b o' f;rw[Ay] at f;split at f;·rename_i e;simp[L] at f;exact .inl ⟨e.symm,f.symm⟩
  ·rename_i e;exact .inr ⟨λJ=>e J.symm,f⟩
 have q:∀(b:Nat) o',(s.hp.set id (some l))[b]? =some (some o')->∃y,s.hp[b]? =some (some y):=by
  intro b o' f;rcases split b o' f with⟨rfl,_⟩|⟨_,f⟩
  ·exact⟨cs,B⟩
  ·exact⟨_,f⟩
 have k:∀(j:Nat) c,l[j]? =some c->(j=o∧c=v)∨(j≠o∧cs[j]? =some c):=by
  intro j c p;simp only[l,Ay] at p;split at p;·rename_i e;simp only[N,if_true,Ae] at p;exact .inl ⟨e.symm,p.symm⟩
  ·rename_i e;exact .inr ⟨λJ=>e J.symm,p⟩
 refine⟨⟨⟨?_,?_,?_,?_,h.hr.exI,h.hr.oLt⟩,⟨h.er.size,?_,h.er.own⟩⟩,⟨rfl,rfl,rfl,rfl,Ap _,λ_ _ _ _=>rfl,?_,λ_ _ _ _ _ hi=>hi,λ_ _ _ X=>X,?_⟩⟩
 ·intro b o' f;simp only[St.setObj,AR];rcases split b o' f with⟨rfl,rfl⟩|⟨G,f⟩
  ·obtain⟨R,e2,D,r⟩:=xI h.hr W;rw[S] at D;cases D;refine jV.ofRow0 S ⟨by simp[l,r.len],?_,?_,?_,?_⟩
   ·intro c p;obtain⟨j,Y,rfl⟩:=Be.1 p;rcases k j _ (Ah Y) with⟨_,i⟩|⟨_,i⟩
    ·rw[i];exact h1
    ·exact r.one _ (At i)
   ·intro j c z p d;rcases k j _ p with⟨rfl,rfl⟩|⟨_,i⟩
    ·rw[x] at d;obtain rfl:=AG d;exact Z
    ·exact r.rel j c z i d
   ·intro j c z p d;rcases k j _ p with⟨rfl,rfl⟩|⟨_,i⟩
    ·rw[x] at d;obtain rfl:=AG d;exact H
    ·exact r.own j c z i d
   ·intro j E n p;rcases k j _ p with⟨rfl,i⟩|⟨_,i⟩
    ·rw[<-i] at F;simp[noBn] at F
    ·exact r.bn j E n i
  ·exact h.hr.obj b o' f
 ·intro id1 M A c2 u i G;obtain⟨_,u⟩:=q id1 A u;obtain⟨_,i⟩:=q M c2 i;exact h.hr.apart _ _ _ _ u i G
 ·intro id1 A u;obtain⟨_,u⟩:=q id1 A u;exact h.hr.notI _ _ u
 ·intro id1 A u;obtain⟨_,u⟩:=q id1 A u;exact h.hr.notO _ _ u
 ·intro n v cv f x;simp only[St.setObj,AR];exact h.er.rel n v cv f x
 ·simp only[AR];exact Up.refl _ _ _ _
 ·intro b o' f;obtain⟨y,f⟩:=q b o' f;exact .inl ⟨y,f⟩
def tJ(g:Gh)(s:St)(w:World)(a:Act)(o:Occ)(cv:Value):Prop:=
 match o with
 | .slot n=>a.tmps.getD n undef=cv
 | .cell id j=>∃cs b e,s.obj id=some cs∧j<cs.length∧w.heap[g.ρ id]? =some (.cells b e (0,0))∧b[j]? =some cv
 | .res=>False
theorem au1(h:SR g s w a){o:Occ}{v:V}(b:s.at? o=v)(c:v≠.undef):∃cv,tJ g s w a o cv∧VRel g.I g.ρ s.hp.length w v cv∧aO g w o v cv:=by
 cases o with
 |slot n=>simp only[St.at?] at b;subst b;exact⟨_,rfl,h.er.get n,h.er.getOwn n⟩
 |cell id j=>
  simp only[St.at?] at b;cases k:s.obj id with
  |none=>rw[k] at b;exact absurd b.symm c
  |some cs=>
   rw[k] at b;simp only at b;obtain⟨d,e,r,f⟩:=xI h.hr k;have i:j<cs.length:=by
    rcases AH j cs.length with i|i;·exact i
    ·rw[Ai,Bj i] at b;exact absurd b.symm c
   have q:cs[j]? =some v:=by rw[<-b,Ai,Ah i];rfl
   have p:=f.len;have l:d[j]? =some (d[j]'(by omega)):=Am _;exact⟨_,⟨cs,d,e,k,i,r,l⟩,f.rel j v _ q l,f.own j v _ q l⟩
 |res=>simp only[St.at?] at b;exact absurd b.symm c
theorem SR.fill(h:SR g s w a){o:Occ}{cv:Value}(x:tJ g s w a o cv){v:V}(u:v.one=true)(B:noBn v=true)(G:VRel g.I g.ρ s.hp.length w v cv)(i:aO g w o v cv):
  SR g (s.put? o v) w a∧FR g s.hp w g (s.put? o v).hp w∧(s.put? o v).hp.length=s.hp.length∧tJ g (s.put? o v) w a o cv:=by
 cases o with
 |slot n=>simp only[tJ] at x;subst x;exact⟨h.fillSlot n G i,FR.refl _ _ _,rfl,rfl⟩
 |cell id j=>
  obtain⟨cs,z,e,A,f,D,F⟩:=x;obtain⟨E,N⟩:=h.fillCell A f D F u B G i;have r:s.put? (.cell id j) v=s.setObj id (cs.set j v):=by simp only[St.put?,A]
  rw[r];refine⟨E,N,by simp[St.setObj],cs.set j v,z,e,?_,by simpa using f,D,F⟩;obtain⟨y,d⟩:=jL A;have q:id<s.hp.length:=(Ag.1 y).1;have l:lM (cs.set j v)=false:=by
   cases L:lM (cs.set j v) with
   |false=>rfl
   |true=>
    obtain⟨k,es,r⟩:=aez L;match cs,f with
    | [c],f=>
      have:j=0:=by simpa using f
      subst this;simp only[List.set,CS,and_true] at r;subst r;simp[V.one] at u
    |c::O::cs,f=>have:=congrArg Aa r;simp at this
  obtain⟨C,R,J,M,H⟩:=(E.hr.obj id (cs.set j v) (by simp[St.setObj,q])).row l;have p:d7 (cs.set j v)=false:=by
   unfold d7 at d ⊢;match cs,f,d with
   | [c],f,d=>
     have:j=0:=by simpa using f
     subst this;simp only[List.set];split;·rename_i b;cases b;simp[V.one] at u
     ·rename_i b;cases b;simp[V.one] at u
     ·rename_i b;cases b;simp[V.one] at u
     ·rfl
   |c::O::cs,f,d=>
    split
    ·rename_i b;cases j with
     |zero=>simp at b
     |succ j=>cases j<;>simp at b
    ·rename_i b;cases j with
     |zero=>simp at b
     |succ j=>cases j<;>simp at b
    ·rename_i b;cases j with
     |zero=>simp at b
     |succ j=>cases j<;>simp at b
    ·rfl
  unfold St.obj;simp only[St.setObj,Ai,Ay,q,if_true,Bo];unfold d7 at p;split<;>rename_i b;·simp only[Ae] at b;rw[b] at p;simp at p
  ·simp only[Ae] at b;rw[b] at p;simp at p
  ·simp only[Ae] at b;rw[b] at l;simp[lM] at l
  ·simp only[Ae] at b;rw[b] at p;simp at p
  ·rfl
 |res=>exact absurd x (by simp[tJ])
theorem aGo{o:Occ}{cv:Value}{v:V}(l:tJ g s w a o cv)(x:v.one=true)(i:v.bare=true):yz (some o) (s.put? o v):=by
 cases o with
 |slot n=>
  intro u b;simp only[St.put?,St.set,Ay,if_true] at b;split at b;·cases AG b;exact i
  ·simp at b
 |cell id j=>obtain⟨cs,p,e,k,r,_,_⟩:=l;obtain⟨d,f⟩:=jL k;have c:id<s.hp.length:=(Ag.1 d).1;intro q u h b;simp only[St.put?,k,St.setObj,Ay,c,if_true,Ae] at h;subst h;simp only[Ay,r,if_true,Ae] at b;subst b;exact i
 |res=>trivial
theorem asX{s:St}{id:Nat}{cs:List V}(b:s.obj id=some cs)(l:List aJ):({s with hp:=s.hp++l}:St).obj id=some cs:=by obtain⟨d,_⟩:=jL b;have c:id<s.hp.length:=(Ag.1 d).1;unfold St.obj at b ⊢;simp only[Ai] at b ⊢;rw[Ax c];exact b
theorem SR.addRow(h:SR g s w a){k:EK}{xs:List (Ty k)}{b cap:Nat}{A:Array Value}{e:TypeId}{X:Nat×Nat}(h0:amv X A.size)(h2:xs.length<=cap)(h5:w.heap[b]? =some (.cells A e X))(Z:cap*k.sz<=A.size)(h7:k=.u8->e=g.β)
  (h8:∀j,¬g.I b j) (h4:g.O b=none) (M:∀(id:Nat) cs,s.hp[id]? =some (some cs)->g.ρ id≠b)
  (h9:∀(i:Nat) x (j:Nat) v u,xs[i]? =some x->(enc k x)[j]? =some v->A[i*k.sz+j]? =some u->VRel g.I (λ_=>0) 0 w v u):
  SR {g with ρ:=λid=>if id=s.hp.length then b else if id=s.hp.length+1 then cap else g.ρ id} {s with hp:=s.hp++[some [.rw k xs],none]} w a:=by
 let g':Gh:={g with ρ:=λid=>if id=s.hp.length then b else if id=s.hp.length+1 then cap else g.ρ id}
 have f:∀id,id<s.hp.length->g'.ρ id=g.ρ id:=λid d=>by simp only[g'];rw[if_neg (by omega),if_neg (by omega)]
 have l:g'.ρ s.hp.length=b:=by simp[g']
 have C:g'.ρ (s.hp.length+1)=cap:=by simp[g']
 have u:Up g.I g.ρ s.hp.length w g'.I g'.ρ (s.hp++[some [V.rw k xs],none]).length w:=⟨λ_ _ r=>r,λ_ _ _=>rfl,f,by simp⟩
 have B:∀H v cv,aO g w H v cv->aO g' w H v cv:=λH v cv ho=>dC ho rfl (λb j r=>⟨r,rfl⟩) (λb hb=>⟨hb,rfl,λj R=>R⟩)
 have split:∀(id:Nat) o,(s.hp++[some [V.rw k xs],none])[id]? =some (some o)->(id<s.hp.length∧s.hp[id]? =some (some o))∨(id=s.hp.length∧o=[V.rw k xs]):=by
  intro id o d;rcases AH id s.hp.length with r|r;·rw[Ax r] at d;exact .inl ⟨r,d⟩
  ·rw[Au r] at d;match hq:id-s.hp.length,d with
   |0,d=>simp at d;exact .inr ⟨by omega,d.symm⟩
   |1,d=>simp at d
   |n+2,d=>simp at d
 have D:xs.length*k.sz<=A.size:=A6 (A2 _ h2) Z;refine⟨⟨?_,?_,?_,?_,h.hr.exI,h.hr.oLt⟩,⟨h.er.size,λn v cv S p=>(h.er.rel n v cv S p).up u,λn v cv S p=>B _ _ _ (h.er.own n v cv S p)⟩⟩
 ·intro id o d;rcases split id o d with⟨r,d⟩|⟨rfl,rfl⟩
  ·refine(h.hr.obj id o d).keep (by rw[f id r]) λae e' X k1 z=>?_
   refine⟨z.len,z.plain,z.typedUp rfl u.rho u.num rfl,z.cold,z.one,λj c cv q p=>(z.rel j c cv q p).up u,λj c cv q p=>B _ _ _ (z.own j c cv q p),by rw[f id r];exact z.bn⟩
  ·refine jV.ofRow (e:=e) (by rw[l];exact h5) ⟨by simp only[cellsOf,dl];exact D,(by intro hf;cases hf),?_,(λj R=>h0 j (AI R (by simp only[cellsOf,dl];exact D))),?_,?_,?_,?_⟩ rfl;·intro z ys W;have W:some _=some _:=W;cases W;exact⟨h0,by rw[C];exact Z,by simp,h7⟩
   ·intro c q;simp only[cellsOf,AW] at q;obtain⟨y,_,q⟩:=q;exact ahr k y c q
   ·intro j c cv q p;simp only[cellsOf] at q;obtain⟨y,hy,q⟩:=gb _ j _ q;exact abi q (h9 _ y _ c cv hy q (by rw[show j / k.sz*k.sz+j%k.sz=j by rw[BZ];exact Db j k.sz];exact p))
   ·intro j c cv q p;have N:=At q;simp only[cellsOf,AW] at N;obtain⟨y,_,N⟩:=N;exact oJ (xm k y c N) _ _ _ _
   ·intro j E n q;simp only[cellsOf] at q;obtain⟨y,_,q⟩:=gb _ j _ q;exact absurd q (aeC k y _ E n)
 ·intro id G o o' k1 z L;rcases split id o k1 with⟨r,m1⟩|⟨e1, -⟩<;>rcases split G o' z with⟨J,m2⟩|⟨Y, -⟩
  ·rw[f _ r,f _ J];exact h.hr.apart id G o o' m1 m2 L
  ·rw[f _ r,Y,l];exact M id o m1
  ·rw[f _ J,e1,l];exact(M G o' m2).symm
  ·exact absurd (e1.trans Y.symm) L
 ·intro id o d j r;rcases split id o d with⟨F,d⟩|⟨rfl,rfl⟩
  ·rw[f _ F] at r;exact h.hr.notI id o d j r
  ·rw[l] at r;exact h8 j r
 ·intro id o d;rcases split id o d with⟨F,d⟩|⟨rfl,rfl⟩
  ·rw[f _ F];exact h.hr.notO id o d
  ·rw[l];exact h4
theorem aE3{s:St}{o:Occ}{cv:Value}(f:tJ g s w a o cv)(v:V)(l:List aJ):({s with hp:=s.hp++l}:St).put? o v={s.put? o v with hp:=(s.put? o v).hp++l}:=by
 cases o with
 |slot n=>rfl
 |cell id j=>obtain⟨cs,h,e,c,i,_,_⟩:=f;obtain⟨d,_⟩:=jL c;have b:id<s.hp.length:=(Ag.1 d).1;simp only[St.put?,c,asX c l,St.setObj];rw[List.set_append_left _ _ b]
 |res=>rfl
theorem aEe{s:St}{o:Occ}{cv:Value}(l:tJ g s w a o cv){u:V}(z:u.one=true)(c:tJ g (s.put? o u) w a o cv)(v:V):(s.put? o u).put? o v=s.put? o v:=by
 cases o with
 |slot n=>simp[St.put?,St.set]
 |cell id j=>
  obtain⟨cs,r,e,f,A,_,_⟩:=l;obtain⟨x,i,y,b,p,_,_⟩:=c;obtain⟨h,_⟩:=jL f;have d:id<s.hp.length:=(Ag.1 h).1;have q:s.put? (.cell id j) u=s.setObj id (cs.set j u):=by simp only[St.put?,f]
  rw[q] at b ⊢;obtain⟨k,_⟩:=jL b;simp only[St.setObj,Ay,d,if_true,Ae] at k;subst k;simp only[St.put?];rw[b,f];simp only[St.setObj,List.set_set]
 |res=>rfl
theorem tJ.append{s:St}{o:Occ}{cv:Value}(b:tJ g s w a o cv)(h:∀id,id<s.hp.length->g'.ρ id=g.ρ id)(l:List aJ):tJ g' {s with hp:=s.hp++l} w a o cv:=by
 cases o with
 |slot n=>exact b
 |cell id j=>obtain⟨cs,d,e,i,q,p,k⟩:=b;obtain⟨f,_⟩:=jL i;have c:id<s.hp.length:=(Ag.1 f).1;exact⟨cs,d,e,asX i l,q,by rw[h id c];exact p,k⟩
 |res=>exact b
theorem aw7(h:SR g s w a){o:Occ}(B:(jJ.opn o).step s=some (true,s')):∃g',SR g' s' w a∧FR g s.hp w g' s'.hp w:=by
 simp only[jJ.step] at B;split at B
 ·rename_i k xs Z;simp only[Ae,Al,decide_eq_true_eq] at B;obtain⟨z,rfl⟩:=B;obtain⟨cv,X,hv,ho⟩:=au1 h Z (by simp);rcases ho with⟨rfl,_⟩|⟨b,cap,an,e,fz,h0,rfl,H,h3,G,h5,h6,h7,h8,h9⟩
  ·simp at z
  ·have A:xs.length<=cw:=A6 H h3;obtain⟨J,p2,p3,W⟩:=h.fill X (v:=.hd xs.length) rfl rfl (.hd _ _ _ A) (by simp[aO]);have F:yz (some o) (s.put? o (.hd xs.length)):=aGo X rfl rfl;let d:=s.put? o (.hd xs.length);let x:Gh:={g with O:=λq=>if q=b then none else g.O q}
   have E:∀(id:Nat) cs,d.hp[id]? =some (some cs)->g.ρ id≠b:=by intro id cs c e';have:=J.hr.notO id cs c;rw[e',G] at this;simp at this
   have k1:SR x d w a:=by
    refine J.keep (some o) F rfl (Up.refl _ _ _ _) ?_ ?_ h.hr.exI ?_
    ·intro av q f ab;have aa:q≠b:=by
      rintro rfl;rw[G] at f;exact ab f
     exact⟨by simp[x,aa,f],rfl,λj R=>R⟩
    ·intro id cs c;exact⟨rfl,by simp[x,E id cs c,J.hr.notO id cs c],λj R=>R⟩
    ·intro q o' f;simp only[x] at f;split at f;·simp at f
     ·exact h.hr.oLt _ _ f
   have k2:=k1.addRow (b:=b) (cap:=cap) h0 H h5 h6 h7 h8 (by simp[x]) E h9;let i:Gh:={x with ρ:=λid=>if id=d.hp.length then b else if id=d.hp.length+1 then cap else x.ρ id}
   let l:St:={d with hp:=d.hp++[some [.rw k xs],none]}
   have p:∀id,id<d.hp.length->i.ρ id=g.ρ id:=λid c=>by simp only[i];rw[if_neg (by omega),if_neg (by omega)]
   have M:tJ i l w a o (.slice (some ⟨b,0,none⟩) xs.length cap):=tJ.append (g:=g) W p _;have S:VRel i.I i.ρ l.hp.length w (.sw k d.hp.length xs.length) (.slice (some ⟨b,0,none⟩) xs.length cap):=by
    have y:i.ρ (d.hp.length+1)=cap:=by simp[i]
    have L:i.ρ d.hp.length=b:=by simp[i]
    have:=VRel.sw (I:=i.I) (ρ:=i.ρ) (N:=l.hp.length) (w:=w) k d.hp.length xs.length (by simp[l]) (by rw[y];exact H) (by rw[y];exact h3);rw[y,L] at this;exact this
   obtain⟨q1,q2,q3,q4⟩:=SR.fill (g:=i) (s:=l) k2 M (v:=.sw k d.hp.length xs.length) rfl rfl S (by simp[aO]);have u:d.hp.length=s.hp.length:=p3;have C:l.put? o (.sw k d.hp.length xs.length)={s.put? o (.sw k s.hp.length xs.length) with hp:=(s.put? o (.sw k s.hp.length xs.length)).hp++[some [.rw k xs],none]}:=by have Y:=aE3 (g:=g) (w:=w) (a:=a) W (.sw k d.hp.length xs.length) [some [.rw k xs],none];rw[aEe X rfl W] at Y;rw[u] at Y;show ({d with hp:=d.hp++[some [.rw k xs],none]}:St).put? o (.sw k d.hp.length xs.length)=_;rw[u];exact Y
   rw[C] at q1 q2;refine⟨i,q1,?_⟩;refine p2.trans (FR.trans (g₁:=i) (hp₁:=l.hp) (w₁:=w) ?_ q2);refine⟨rfl,rfl,rfl,rfl,Ap _,λ_ _ _ _=>rfl,⟨λ_ _ r=>r,λ_ _ _=>rfl,p,by simp[l,d]⟩,λ_ _ _ _ _ r=>r,?_,?_⟩
   ·intro q _ _ hO;show (if q=b then none else g.O q)=none;split;·rfl
    ·exact hO
   ·intro id cs c;rcases AH id d.hp.length with r|r
    ·left;have:l.hp[id]? =d.hp[id]?:=by simp only[l];rw[Ax r]
     rw[this] at c;exact⟨cs,c⟩
    ·right;refine⟨r,.inr (.inl ?_)⟩;have D:id=d.hp.length:=by
      simp only[l] at c;rw[Au r] at c;match hq:id-d.hp.length,c with
      |0,_=>omega
      |1,c=>simp at c
      |n+2,c=>simp at c
     subst D;have:i.ρ d.hp.length=b:=by simp[i]
     rw[this,G];simp
 ·obtain rfl:s=s':=by simpa using B
  exact⟨g,h,FR.refl _ _ _⟩
theorem aGp(h:SR g s w a){o:Occ}(L:(jJ.cls o).step s=some (true,s')):∃g',SR g' s' w a∧FR g s.hp w g' s'.hp w:=by
 simp only[jJ.step] at L;split at L
 ·rename_i k id n ak;split at L
  ·rename_i k' xs ho;split at L
   ·rename_i hk;subst hk;simp only[Ae,Al] at L;obtain⟨hn,rfl⟩:=L;obtain rfl:=AJ hn;obtain⟨cv,hl,hv, -⟩:=au1 h ak (by simp);obtain⟨ah,e,fz,hb,az,ao,ae⟩:=aeb h ho;obtain⟨t1,t2,t3,t4⟩:=ao.typed k' xs rfl;have I:=ai2 ho;cases hv with
    |sw _ _ _ hN hc hm=>
    obtain⟨B,p2,p3,p4⟩:=h.fill hl (v:=.hd xs.length) rfl rfl (.hd _ _ _ (A6 hc hm)) (by simp[aO]);let J:=s.put? o (.hd xs.length);have q:J.hp[id]? =some (some [.rw k' xs]):=by
     cases o with
     |slot n=>exact I
     |cell r j=>
      obtain⟨cs,y,R,l,Z,_,_⟩:=hl;have d:r≠id:=by rintro rfl;obtain⟨z,G⟩:=jL l;rw[I] at z;cases z;simp[d7] at G
      simp only[J,St.put?,l,St.setObj];rw[BK d];exact I
     |res=>exact absurd hl (by simp[tJ])
    let H:Gh:={g with O:=λS=>if S=g.ρ id then some o else g.O S}
    let A:St:={J with hp:=J.hp.set id none}
    have sub:∀(i:Nat) cs,A.hp[i]? =some (some cs)->i≠id∧J.hp[i]? =some (some cs):=by
     intro i cs f;simp only[A,Ay] at f;split at f;·split at f<;>simp at f
     ·rename_i d;exact⟨λe=>d e.symm,f⟩
    have am:g.O (g.ρ id)=none:=B.hr.notO id _ q;have E:∀N v cv,aO g w N v cv->aO H w N v cv:=by
     intro N v cv an;refine dC an rfl (λb j f=>⟨f,rfl⟩) ?_;intro b p;refine⟨?_,rfl,λj Z=>Z⟩;have:b≠g.ρ id:=by rintro rfl;rw[am] at p;simp at p
     simp[H,this,p]
    have F:A.hp.length=J.hp.length:=by simp[A]
    have k1:SR H A w a:=by
     refine⟨⟨?_,?_,?_,?_,B.hr.exI,?_⟩,⟨B.er.size,λm v cv hv D=>by rw[F];exact B.er.rel m v cv hv D,λm v cv hv D=>E _ _ _ (B.er.own m v cv hv D)⟩⟩
     ·intro i cs f;obtain⟨d,f⟩:=sub i cs f;refine(B.hr.obj i cs f).keep rfl λy R fz m1 M=>?_
      rw[F];exact⟨M.len,M.plain,M.typed,M.cold,M.one,M.rel,λj c cv hc D=>E _ _ _ (M.own j c cv hc D),M.bn⟩
     ·intro i i' cs Y z G d;exact B.hr.apart i i' cs Y (sub i cs z).2 (sub i' Y G).2 d
     ·intro i cs f;exact B.hr.notI i cs (sub i cs f).2
     ·intro i cs f;obtain⟨d,f⟩:=sub i cs f;have:g.ρ i≠g.ρ id:=B.hr.apart i id cs _ f q d;show (if g.ρ i=g.ρ id then some o else g.O (g.ρ i))=none;rw[if_neg this];exact B.hr.notO i cs f
     ·intro S o' p;simp only[H] at p;split at p
      ·rename_i R;subst R;rcases AH (g.ρ id) w.heap.size with C|C;·exact C
       ·simp[B7 C] at hb
      ·exact h.hr.oLt _ _ p
    have X:tJ H A w a o (.slice (some ⟨g.ρ id,0,none⟩) xs.length (g.ρ (id+1))):=by
     cases o with
     |slot n=>exact p4
     |cell r j=>
      obtain⟨cs,y,R,l,Z,p,ha⟩:=p4;refine⟨cs,y,R,?_,Z,p,ha⟩;have d:id≠r:=by rintro rfl;obtain⟨z,G⟩:=jL l;rw[show (s.put? (.cell id j) (.hd xs.length)).hp[id]? =some (some [.rw k' xs]) from q] at z;cases z;simp[d7] at G
      unfold St.obj at l ⊢;simp only[A,Ai] at l ⊢;rw[BK d];exact l
     |res=>exact p4
    have aj:amw H w o k' xs (.slice (some ⟨g.ρ id,0,none⟩) xs.length (g.ρ (id+1))):=
     .inr ⟨g.ρ id,g.ρ (id+1),ah,e,fz,t1,rfl,hc,hm,by simp[H],hb,t2,t4,λj=>B.hr.notI id _ q j,λi x j v u z G W=>abi G (ae i x j v u z G W)⟩
    obtain⟨q1,q2,q3,q4⟩:=SR.fill (g:=H) (s:=A) k1 X (v:=.ul k' xs) rfl rfl (.ul _ _ _ _ (A6 hc hm)) aj;have ab:A.put? o (.ul k' xs)={s.put? o (.ul k' xs) with hp:=(s.put? o (.ul k' xs)).hp.set id none}:=by
     cases o with
     |slot n=>simp[A,J,St.put?,St.set]
     |cell r j=>
      obtain⟨cs,y,R,l,Z,_,_⟩:=hl;obtain⟨a2,ap,e2,ad,a0,_,_⟩:=X;obtain⟨z,G⟩:=jL l;have C:r<s.hp.length:=(Ag.1 z).1;have d:r≠id:=by rintro rfl;rw[I] at z;cases z;simp[d7] at G
      have he:J=s.setObj r (cs.set j (.hd xs.length)):=by simp only[J,St.put?,l]
      obtain⟨W,_⟩:=jL ad;simp only[A] at W;rw[BK (C8 d),he] at W;simp only[St.setObj,Ay,C,if_true,Ae] at W;subst W;simp only[St.put?];rw[ad,l];simp only[A,he,St.setObj,List.set_set];rw[D2 _ _ d,List.set_set];rw[D2 _ _ (C8 d)]
     |res=>rfl
    rw[ab] at q1 q2;refine⟨H,q1,p2.trans (FR.trans (g₁:=H) (hp₁:=A.hp) (w₁:=w) ?_ q2)⟩;refine⟨rfl,rfl,rfl,rfl,Ap _,λ_ _ _ _=>rfl,⟨λ_ _ f=>f,λ_ _ _=>rfl,λ_ _=>rfl,by rw[F];exact Ap _⟩,λ_ _ _ _ _ f=>f,?_,λi cs f=>.inl ⟨cs,(sub i cs f).2⟩⟩;intro S _ al hO;show (if S=g.ρ id then some o else g.O S)=none;rw[if_neg (λe=>al id _ q e.symm)];exact hO
   ·simp at L
  ·simp at L
 ·obtain rfl:s=s':=by simpa using L
  exact⟨g,h,FR.refl _ _ _⟩
theorem aIa(h:SR g s w a){o:Occ}(J:(jJ.fz o).step s=some (true,s')):∃g',SR g' s' w a∧FR g s.hp w g' s'.hp w:=by
 simp only[jJ.step] at J;split at J
 ·rename_i k xs X;obtain rfl:_=s':=by simpa using J
  obtain⟨cv,L,hv,ho⟩:=au1 h X (by simp);rcases ho with⟨rfl,rfl⟩|⟨b,cap,d,e,fz,h0,rfl,N,h3,F,H,h6,h7,h8,h9⟩
  ·obtain⟨A,W,p3,S⟩:=h.fill L (v:=.sl k .own []) rfl rfl (.sln _ _) (by simp[aO]);exact⟨g,A,W⟩
  ·have B:xs.length<=cw:=A6 N h3;obtain⟨A,W,p3,S⟩:=h.fill L (v:=.hd xs.length) rfl rfl (.hd _ _ _ B) (by simp[aO]);have E:yz (some o) (s.put? o (.hd xs.length)):=aGo L rfl rfl;let p:=s.put? o (.hd xs.length);let f:Gh:={g with I:=λr j=>g.I r j∨(r=b∧j<xs.length*k.sz)}
   have ag:xs.length*k.sz<=d.size:=A6 (A2 _ N) h6;have Y:∀(id:Nat) cs,p.hp[id]? =some (some cs)->g.ρ id≠b:=by intro id cs l e';have:=A.hr.notO id cs l;rw[e',F] at this;simp at this
   have u:Up g.I g.ρ p.hp.length w f.I f.ρ p.hp.length w:=⟨λ_ _ M=>.inl M,λ_ _ _=>rfl,λ_ _=>rfl,Ap _⟩
   have k1:SR f p w a:=by
    refine A.keep (some o) E rfl u ?_ ?_ ?_ h.hr.oLt
    ·intro ar r y aa;have Z:r≠b:=by
      rintro rfl;rw[F] at y;exact aa y
     refine⟨y,rfl,?_⟩;rintro j (c|⟨c,_⟩);·exact c
     ·exact absurd c Z
    ·intro id cs l;refine⟨rfl,A.hr.notO id cs l,?_⟩;rintro j (c|⟨c,_⟩);·exact c
     ·exact absurd c (Y id cs l)
    ·rintro r j (c|⟨rfl,c⟩);·exact h.hr.exI r j c
     ·rw[bE H,Am (by omega)];rfl
   have R:tJ f p w a o (.slice (some ⟨b,0,none⟩) xs.length cap):=S;have q:∀x:Ty k,∀j,j<(enc k x).length->j<k.sz:=λx j c=>by rwa [cP] at c
   have D:VRel f.I f.ρ p.hp.length w (.sl k .own xs) (.slice (some ⟨b,0,none⟩) xs.length cap):=by
    refine .sl k .own xs _ _ _ _ rfl N h3 (by simp) (λi j=>d[i*k.sz+j]?.getD undef) ?_ ?_ ?_;·intro i x j z c;exact .inr ⟨rfl,by have:=rt (Ag.1 z).1 (q x j c);omega⟩
    ·intro i x j z c;have:=rt (Ag.1 z).1 (q x j c);rw[Bv,bE H,Am (by omega)];rfl
    ·intro i x j v z c;have O:=(Ag.1 c).1;have:=rt (Ag.1 z).1 (q x j O);have ha:d[i*k.sz+j]? =some (d[i*k.sz+j]'(by omega)):=Am _;rw[ha];exact(abi (ρ':=g.ρ) (N':=p.hp.length) c (h9 i x j v _ z c ha)).up u
   have C:aO f w o (.sl k .own xs) (.slice (some ⟨b,0,none⟩) xs.length cap):=by
    refine⟨F,⟨d,e,fz,H,by simpa using h6,h7⟩,?_⟩;intro j j1 j2;simp only[Bv] at j1 j2;refine⟨?_,by have:=h0 j (by omega);simp only[CD,H,C1,decide_eq_false_iff_not];omega⟩;rintro(M|⟨_,M⟩);·exact h8 j M
    ·omega
   obtain⟨q1,q2,q3,q4⟩:=SR.fill (g:=f) (s:=p) k1 R (v:=.sl k .own xs) rfl rfl D C;rw[aEe L rfl S] at q1 q2;refine⟨f,q1,W.trans (FR.trans (g₁:=f) (hp₁:=p.hp) (w₁:=w) ?_ q2)⟩;refine⟨rfl,rfl,rfl,rfl,Ap _,λ_ _ _ _=>rfl,u,?_,λ_ _ _ G=>G,λ_ cs h=>.inl ⟨cs,h⟩⟩;rintro r j _ _ G (c|⟨rfl,_⟩);·exact c
   ·rw[F] at G;simp at G
 ·obtain rfl:s=s':=by simpa using J
  exact⟨g,h,FR.refl _ _ _⟩
theorem agW(h:SR g s w a){x:jJ}(b:x.step s=some (true,s')):∃g',SR g' s' w a∧FR g s.hp w g' s'.hp w:=by
 cases x with
 |opn o=>exact aw7 h b
 |cls o=>exact aGp h b
 |fz o=>exact aIa h b
 |hol n=>exact aGn h b
variable{w':World}{P:Program}{Γ:aI}{m:Oper}{next:Act->World->Prop}{Q:Exit->Act->World->Prop}
end
def ASrc.slots:ASrc->List Nat
 | .t n| .tk n=>[n]
 | .c _=>[]
def ASrc.takes:ASrc->List Nat
 | .tk n=>[n]
 |_=>[]
def asY:Option ASrc->List Nat
 |some x=>x.slots
 |none=>[]
def IOp.rd:IOp->List Nat
 | .mov _ x| .un _ _ x| .cvi _ _ x| .s2b _ x| .b2s _ x| .lens _ x| .lenl _ x| .fld _ _ _ _ x| .box _ x| .fad _ _ x| .ld _ _ _ _ x| .ext _ _ x| .nck _ x| .boxe _ x| .lde _ _ _ x=>x.slots
 | .frz _ r _ v=>r::v.slots
 | .pick _ c x y=>c.slots++(x.slots++y.slots)
 | .bin _ _ x y| .idx _ x y| .ixa _ _ x y| .ixe _ _ x y| .apo _ _ x y| .st _ _ x y| .app _ _ x y| .apps _ x y| .mx _ _ x y=>x.slots++y.slots
 | .subs _ x d b| .subl _ _ x d b=>x.slots++(asY d++asY b)
 | .bsl _ _ a _=>a.flatMap ASrc.slots
 | .bld _ _ a=>a.flatMap λp=>p.2.2.slots
 | .new _ _| .newb _ _| .alr _ _=>[]
 | .call _ _ avs| .mkf _ _ avs=>avs.flatMap ASrc.slots
 | .dcall _ _ x avs=>x.slots++avs.flatMap ASrc.slots
 | .snil _ x| .lnw _ x=>x.slots
 | .apu _ _ x y| .ixw _ _ x y| .stw _ _ x y=>x.slots++y.slots
 | .mkm _ _=>[]
 | .mget _ _ _ x y=>x.slots++y.slots
 | .mput _ _ x y z=>x.slots++(y.slots++z.slots)
def IOp.wr(o:IOp):List Nat:=
 o.dst.toList++(match o with| .mov _ x| .app _ _ x _| .apps _ x _| .st _ _ _ x=>x.takes| .frz _ r _ _=>[r]| .apu _ _ x _| .apo _ _ x _=>x.takes|_=>[])
def IOp.cls(imp:List Nat):IOp->Nat
 | .ld _ _ _ false _| .mget ..=>1
 | .ld _ _ _ true _| .st .. | .new .. | .box .. | .newb .. | .dcall .. | .stw .. | .apo .. | .mkm .. | .mput ..=>2
 | .call _ f _=>if imp.contains f then 2 else 0
 |_=>0
def amB(hp:List aJ)(q:List (Nat×aJ)):List aJ:=q.foldl (λh p=>h.set p.1 p.2) hp
structure cE(Γ:aI)(imp:List Nat):Prop where
 pure:∀f avs hp,imp.contains f=false->Γ f avs hp=(Γ f avs []).map λx=>(x.1,x.2.1,hp)
 loc:∀f vs hp c v hp',imp.contains (f+2000000)=true->Γ f vs hp=some (c,v,hp')->∃q:List (Nat×aJ),(∀p∈q,p.1∈apf (fv vs))∧hp'=amB hp q∧
  ∀hp2:List aJ,hp2.length=hp.length->(∀i∈apf (tF vs),hp2[i]? =hp[i]?)->Γ f vs hp2=some (c,v,amB hp2 q)
theorem aqA(q:List (Nat×aJ)):∀hp:List aJ,(amB hp q).length=hp.length:=by
 induction q with
 |nil=>intro hp;rfl
 |cons p q a=>intro hp;show (amB (hp.set p.1 p.2) q).length=_;rw[a];simp
theorem azX{q:List (Nat×aJ)}{i:Nat}:∀{hp:List aJ},(∀p∈q,p.1≠i)->(amB hp q)[i]? =hp[i]?:=by
 induction q with
 |nil=>intro hp _;rfl
 |cons p q b=>intro hp h;show (amB (hp.set p.1 p.2) q)[i]? =_;rw[b (λx a=>h x (A3 _ a)),BK (h p (AZ ..))]
theorem af2{hp a:List aJ}{i:Nat}(h:a[i]? =hp[i]?):a.getD i none=hp.getD i none:=by rw[Ar,Ar,h]
theorem af3{l:List Nat}{i:Nat}(h:i∈l):i∈apf l:=AW.2 ⟨i,h,C3.2 (Nat.lt_succ_self i)⟩
theorem ai3:∀{vs:List V}{i:Nat},i∈fv vs->i∈tF vs
 | [],_,h=>by simp[fv] at h
 |v::vs,i,h=>by
  have e:tF (v::vs)=v.cellsA.flatMap V.id1++tF vs:=by simp[tF]
  rw[e,Aw];unfold fv at h;split at h;·rename_i a;cases a
  ·rename_i a;cases a;rcases AN.1 h with rfl|h;·left;simp[V.cellsA,V.id1]
   ·exact .inr (ai3 h)
  ·rename_i a;cases a;exact .inr (ai3 h)
def St.upd(s:St)(l:List (Nat×V)):St:={s with env:=l.foldl (λe p=>e.set p.1 p.2) s.env}
section
variable{Γ:aI}{imp:List Nat}
theorem c9{s t:St}{x:ASrc}(h:∀n∈x.slots,t.get n=s.get n):x.ev t=x.ev s:=by
 cases x with
 |t n=>simp only[ASrc.ev];rw[h n (by simp[ASrc.slots])]
 |tk n=>exact h n (by simp[ASrc.slots])
 |c v=>rfl
theorem aGq{s t:St}{x:Option ASrc}(h:∀n∈asY x,t.get n=s.get n):jI t x=jI s x:=by
 cases x with
 |none=>rfl
 |some x=>simp only[jI];rw[c9 h]
theorem dq(s:St)(d:Option Nat)(v:V):s.setO d v=s.upd (d.toList.map λd=>(d,v)):=by cases d<;>rfl
theorem fZ(s:St)(x:ASrc):x.after s=s.upd (x.takes.map λn=>(n,disown (s.get n))):=by cases x<;>rfl
theorem kK(s:St)(l m:List (Nat×V)):(s.upd l).upd m=s.upd (l++m):=by simp[St.upd,Dp]
theorem apj{s:St}:∀{l:List (Nat×V)}{n:Nat},(∀p∈l,p.1≠n)->(s.upd l).get n=s.get n:=by
 intro l;induction l generalizing s with
 |nil=>intro n h;rfl
 |cons p l b=>intro n h;have:s.upd (p::l)=(s.set p.1 p.2).upd l:=rfl;rw[this,b (λq a=>h q (A3 _ a))];simp[St.get,St.set,Ai,Ay,h p (AZ ..)]
def aJA(Γ:aI)(imp:List Nat)(o:IOp)(s:St)(c:Bool)(s':St):Prop:=
 ∃u:List (Nat×V),(∀p∈u,p.1∈o.wr)∧s'=s.upd u∧∀t:St,(∀n∈o.rd,t.get n=s.get n)->(o.cls imp=1->t.hp=s.hp)->step Γ o t=some (c,t.upd u)
theorem co{o:IOp}{s s':St}{c:Bool}(E:Option (Bool×V))(b:∀t:St,(∀n∈o.rd,t.get n=s.get n)->(o.cls imp=1->t.hp=s.hp)->step Γ o t=E.map λp=>(p.1,t.setO o.dst p.2))
  (h:step Γ o s=some (c,s')):aJA Γ imp o s c s':=by
 rw[b s (λ_ _=>rfl) (λ_=>rfl)] at h;cases E with
 |none=>simp at h
 |some p=>
  simp only[BC,Ae,Al] at h;obtain⟨rfl,rfl⟩:=h;refine⟨o.dst.toList.map λd=>(d,p.2),?_,dq _ _ _,?_⟩;·intro q a;simp only[AD] at a;obtain⟨d,e,rfl⟩:=a;simp[IOp.wr,e]
  ·intro t i f;rw[b t i f,<-dq];rfl
theorem aE4(hP:cE Γ imp){o:IOp}(E:o.cls imp<=1){s:St}{c:Bool}{s':St}(h:step Γ o s=some (c,s')):
  aJA Γ imp o s c s':=by
 have w:∀{x:ASrc}{l:List Nat}{t:St},(∀n∈l,t.get n=s.get n)->(∀n∈x.slots,n∈l)->x.ev t=x.ev s:=λS O=>c9 λn z=>S n (O n z)
 have N:∀{x:Option ASrc}{l:List Nat}{t:St},(∀n∈l,t.get n=s.get n)->(∀n∈asY x,n∈l)->jI t x=jI s x:=λS O=>aGq λn z=>S n (O n z)
 cases o with
 |mov d x=>
  obtain⟨rfl,rfl⟩:true=c∧_=s':=by simpa [step] using h
  refine⟨x.takes.map (λn=>(n,disown (s.get n)))++[(d,x.ev s)],?_,?_,?_⟩
  ·intro p hp;simp only[Aw,AD,Av] at hp;rcases hp with⟨n,z,rfl⟩|rfl;·simp[IOp.wr,IOp.dst,z]
   ·simp[IOp.wr,IOp.dst]
  ·rw[<-kK,<-fZ];rfl
  ·intro t j _;have e:=c9 (x:=x) j;have D:x.takes.map (λn=>(n,disown (t.get n)))=x.takes.map (λn=>(n,disown (s.get n))):=by
    cases x with
    |tk n=>simp only[ASrc.takes,List.map];rw[j n (by simp[IOp.rd,ASrc.slots])]
    |_=>rfl
   simp only[step,e];rw[fZ,D,<-kK];rfl
 |app d k x y=>
  simp only[step] at h;split at h
  ·rename_i k' ox l P ow m C M;split at h
   ·rename_i Y;split at h
    ·rename_i H;simp only[Ae,Al] at h;obtain⟨rfl,rfl⟩:=h;refine⟨x.takes.map (λn=>(n,disown (s.get n)))++[(d,.sl k' .own (l++(H▸m)))],?_,?_,?_⟩
     ·intro p hp;simp only[Aw,AD,Av] at hp;rcases hp with⟨n,z,rfl⟩|rfl;·simp[IOp.wr,IOp.dst,z]
      ·simp[IOp.wr,IOp.dst]
     ·rw[<-kK,<-fZ];rfl
     ·intro t j _;have A:=c9 (x:=x) (λn z=>j n (by simp[IOp.rd,z]));have J:=c9 (x:=y) (λn z=>j n (by simp[IOp.rd,z]));have D:x.takes.map (λn=>(n,disown (t.get n)))=x.takes.map (λn=>(n,disown (s.get n))):=by
       cases x with
       |tk n=>simp only[ASrc.takes,List.map];rw[j n (by simp[IOp.rd,ASrc.slots])]
       |_=>rfl
      simp only[step,A,J,C,M,Y,H,dif_pos,if_true];rw[fZ,D,<-kK];rfl
    ·simp at h
   ·simp at h
  ·simp at h
 |apu d k x y=>
  simp only[step] at h;split at h
  ·rename_i k' l P ow m C M;split at h
   ·rename_i Y;split at h
    ·rename_i H;simp only[Ae,Al] at h;obtain⟨rfl,rfl⟩:=h;refine⟨x.takes.map (λn=>(n,disown (s.get n)))++[(d,.ul k' (l++(H▸m)))],?_,?_,?_⟩
     ·intro p hp;simp only[Aw,AD,Av] at hp;rcases hp with⟨n,z,rfl⟩|rfl;·simp[IOp.wr,IOp.dst,z]
      ·simp[IOp.wr,IOp.dst]
     ·rw[<-kK,<-fZ];rfl
     ·intro t j _;have A:=c9 (x:=x) (λn z=>j n (by simp[IOp.rd,z]));have J:=c9 (x:=y) (λn z=>j n (by simp[IOp.rd,z]));have D:x.takes.map (λn=>(n,disown (t.get n)))=x.takes.map (λn=>(n,disown (s.get n))):=by
       cases x with
       |tk n=>simp only[ASrc.takes,List.map];rw[j n (by simp[IOp.rd,ASrc.slots])]
       |_=>rfl
      simp only[step,A,J,C,M,Y,H,dif_pos,if_true];rw[fZ,D,<-kK];rfl
    ·simp at h
   ·simp at h
  ·simp at h
 |apo=>simp[IOp.cls] at E
 |mkm=>simp[IOp.cls] at E
 |mput=>simp[IOp.cls] at E
 |mget d k ok x y=>
  refine co (match x.ev s with
   | .nilm=>(k.dkey (y.ev s)).map λ_=>(true,amu k ok none)
   | .mr id=>(match s.mapO id with
     |some ⟨k',es⟩=>if k'=k then (k'.dkey (y.ev s)).map λkey=>(true,amu k' ok (ft es key)) else none
     |none=>none)
   |_=>none) (λt j W=>?_) h
  have q:x.ev t=x.ev s:=w j (by simp+contextual [IOp.rd]);have A:y.ev t=y.ev s:=w j (by simp+contextual [IOp.rd]);have D:∀id,t.mapO id=s.mapO id:=λid=>by simp only[St.mapO];rw[W rfl]
  simp only[step,q,A,D,IOp.dst,St.setO];generalize x.ev s=xe;cases xe with
  |nilm=>simp only[CZ];rfl
  |mr id=>
   simp only[];cases s.mapO id with
   |none=>rfl
   |some p=>
    obtain⟨k',es⟩:=p;simp only[];split;·simp only[CZ];rfl
    ·rfl
  |_=>rfl
 |snil d x=>refine co (match x.ev s with| .sl _ _ xs=>some (decide (0<xs.length),.bool false)|_=>none) (λt j _=>?_) h;have q:x.ev t=x.ev s:=w j (by simp+contextual [IOp.rd]);simp only[step,q,IOp.dst,St.setO];split<;>first|rfl|(simp_all;done)
 |lnw d x=>refine co (match x.ev s with| .hd n=>some (true,.int .i64 n)| .sw _ _ n=>some (true,.int .i64 n)|_=>none) (λt j _=>?_) h;have q:x.ev t=x.ev s:=w j (by simp+contextual [IOp.rd]);simp only[step,q,IOp.dst,St.setO];split<;>first|rfl|(simp_all;done)
 |ixw d k x i=>
  refine co (match x.ev s,i.ev s with| .sw k' id n,.int _ i=>if k'=k then some (decide (0<=i)&&decide (i<n),.wp id k' i.toNat 0) else none|_,_=>none) (λt j _=>?_) h;have q:x.ev t=x.ev s:=w j (by simp+contextual [IOp.rd]);have A:i.ev t=i.ev s:=w j (by simp+contextual [IOp.rd]);simp only[step,q,A,IOp.dst,St.setO];split;·split<;>first|rfl|(simp_all;done)
  ·first|rfl|(simp_all;done)
 |apps d x y=>
  simp only[step] at h;split at h
  ·rename_i l m C M;simp only[Ae,Al] at h;obtain⟨rfl,rfl⟩:=h;refine⟨x.takes.map (λn=>(n,disown (s.get n)))++[(d,.sl .u8 .own (l++m))],?_,?_,?_⟩
   ·intro p hp;simp only[Aw,AD,Av] at hp;rcases hp with⟨n,z,rfl⟩|rfl;·simp[IOp.wr,IOp.dst,z]
    ·simp[IOp.wr,IOp.dst]
   ·rw[<-kK,<-fZ];rfl
   ·intro t j _;have A:=c9 (x:=x) (λn z=>j n (by simp[IOp.rd,z]));have J:=c9 (x:=y) (λn z=>j n (by simp[IOp.rd,z]));have D:x.takes.map (λn=>(n,disown (t.get n)))=x.takes.map (λn=>(n,disown (s.get n))):=by
     cases x with
     |tk n=>simp only[ASrc.takes,List.map];rw[j n (by simp[IOp.rd,ASrc.slots])]
     |_=>rfl
    simp only[step,A,J,C,M];rw[fZ,D,<-kK];rfl
  ·simp at h
 |new=>simp[IOp.cls] at E
 |box=>simp[IOp.cls] at E
 |newb=>simp[IOp.cls] at E
 |st=>simp[IOp.cls] at E
 |stw d n x v=>simp[IOp.cls] at E
 |dcall=>simp[IOp.cls] at E
 |alr d n=>refine co (some (true,.raw n)) (λt j _=>?_) h;simp only[step,IOp.dst,St.setO,BC]
 |lde d n agg x=>
  refine co (match x.ev s with| .ea cs=>if n<=cs.length then some (true,disown (loaded agg (cs.take n))) else none|_=>none) (λt j _=>?_) h;have q:x.ev t=x.ev s:=w j (by simp+contextual [IOp.rd]);simp only[step,q,IOp.dst,St.setO];split;·split<;>first|rfl|(simp_all;done)
  ·first|rfl|(simp_all;done)
 |frz d r n v=>
  simp only[step] at h;split at h
  ·rename_i m hr;split at h
   ·rename_i hc;simp only[Ae,Al] at h;obtain⟨rfl,rfl⟩:=h;refine⟨[(r,.ea ((v.ev s).cells.map disown))]++(d.toList.map λd=>(d,.undef)),?_,?_,?_⟩
    ·intro p hp;simp only[Aw,AD,Av] at hp;rcases hp with rfl|⟨m,hm,rfl⟩
     ·simp[IOp.wr]
     ·simp[IOp.wr,IOp.dst,hm]
    ·rw[<-kK,<-dq];rfl
    ·intro t j _;have A:=c9 (x:=v) (λn z=>j n (by simp[IOp.rd,z]));have D:t.get r=s.get r:=j r (by simp[IOp.rd]);simp only[step,A,D,hr,hc,if_true];rw[<-kK,<-dq];rfl
   ·simp at h
  ·simp at h
 |boxe d x=>
  refine co (match x.ev s with| .agg cs=>some (true,.ea (cs.map disown))|v=>if v.one then some (true,.ea [disown v]) else none) (λt j _=>?_) h;have q:x.ev t=x.ev s:=w j (by simp+contextual [IOp.rd]);simp only[step,q,IOp.dst,St.setO];split;·first|rfl|(simp_all;done)
  ·split<;>first|rfl|(simp_all;done)
 |mkf d f F=>
  refine co (some (true,.fn f (F.map λx=>disown (x.ev s)))) (λt j _=>?_) h;have e:(F.map λx=>disown (x.ev t))=F.map λx=>disown (x.ev s):=Bk λx C=>congrArg disown (w j (λn z=>by simp only[IOp.rd,AW];exact⟨x,C,z⟩))
  simp only[step,e,IOp.dst,St.setO,BC]
 |ixe d n x i=>
  refine co (match x.ev s,i.ev s with| .ea cs,.int _ i=>some (decide (0<=i)&&decide (i<n),.ea (cs.drop i.toNat))| .wp id k 0 0,.int _ i=>if k.sz=1 then some (decide (0<=i)&&decide (i<n),.wp id k i.toNat 0) else none|_,_=>none) (λt j _=>?_) h;have q:x.ev t=x.ev s:=w j (by simp+contextual [IOp.rd]);have A:i.ev t=i.ev s:=w j (by simp+contextual [IOp.rd]);simp only[step,q,A,IOp.dst,St.setO];split;·rename_i C G;simp only[C,G];rfl
  ·rename_i C G;simp only[C,G];split<;>rfl
  ·first|rfl|(simp_all;done)
 |pick d R x y=>refine co (match R.ev s with| .bool t=>some (true,azC t (disown (x.ev s)) (disown (y.ev s)))|_=>none) (λt j _=>?_) h;have q:R.ev t=R.ev s:=w j (by simp+contextual [IOp.rd]);have A:x.ev t=x.ev s:=w j (by simp+contextual [IOp.rd]);have D:y.ev t=y.ev s:=w j (by simp+contextual [IOp.rd]);simp only[step,q,A,D,IOp.dst,St.setO];split<;>first|rfl|(simp_all;done)
 |bin d o x y=>refine co (aH4 o (x.ev s) (y.ev s)) (λt j _=>?_) h;have q:x.ev t=x.ev s:=w j (by simp+contextual [IOp.rd]);have A:y.ev t=y.ev s:=w j (by simp+contextual [IOp.rd]);simp only[step,q,A,IOp.dst,St.setO]
 |un d o x=>refine co ((unV o (x.ev s)).map λv=>(true,v)) (λt j _=>?_) h;have q:x.ev t=x.ev s:=w j (by simp+contextual [IOp.rd]);simp only[step,q,IOp.dst,St.setO];cases unV o (x.ev s)<;>rfl
 |cvi d k x=>refine co (match x.ev s with| .int _ n=>some (true,.int k (k.wrap n))|_=>none) (λt j _=>?_) h;have q:x.ev t=x.ev s:=w j (by simp+contextual [IOp.rd]);simp only[step,q,IOp.dst,St.setO];split<;>first|rfl|(simp_all;done)
 |s2b d x=>refine co (match x.ev s with| .str l=>some (true,.sl .u8 .own l)|_=>none) (λt j _=>?_) h;have q:x.ev t=x.ev s:=w j (by simp+contextual [IOp.rd]);simp only[step,q,IOp.dst,St.setO];split<;>first|rfl|(simp_all;done)
 |b2s d x=>refine co (match x.ev s with| .sl .u8 _ l=>some (true,.str l)|_=>none) (λt j _=>?_) h;have q:x.ev t=x.ev s:=w j (by simp+contextual [IOp.rd]);simp only[step,q,IOp.dst,St.setO];split<;>first|rfl|(simp_all;done)
 |lens d x=>refine co (match x.ev s with| .str l=>some (true,.int .i64 l.length)|_=>none) (λt j _=>?_) h;have q:x.ev t=x.ev s:=w j (by simp+contextual [IOp.rd]);simp only[step,q,IOp.dst,St.setO];split<;>first|rfl|(simp_all;done)
 |lenl d x=>refine co (match x.ev s with| .sl _ _ l=>some (true,.int .i64 l.length)|_=>none) (λt j _=>?_) h;have q:x.ev t=x.ev s:=w j (by simp+contextual [IOp.rd]);simp only[step,q,IOp.dst,St.setO];split<;>first|rfl|(simp_all;done)
 |idx d x i=>refine co (match x.ev s,i.ev s with| .str l,.int _ i=>some (decide (0<=i)&&decide (i<l.length),.int .u8 (l.getD i.toNat 0).toNat)|_,_=>none) (λt j _=>?_) h;have q:x.ev t=x.ev s:=w j (by simp+contextual [IOp.rd]);have A:i.ev t=i.ev s:=w j (by simp+contextual [IOp.rd]);simp only[step,q,A,IOp.dst,St.setO];split<;>first|rfl|(simp_all;done)
 |ixa d k x i=>
  refine co (match x.ev s,i.ev s with| .sl k' _ l,.int _ i=>if k'=k then some (decide (0<=i)&&decide (i<l.length),.ea (enc k' (l.getD i.toNat (aK k')))) else none|_,_=>none) (λt j _=>?_) h;have q:x.ev t=x.ev s:=w j (by simp+contextual [IOp.rd]);have A:i.ev t=i.ev s:=w j (by simp+contextual [IOp.rd]);simp only[step,q,A,IOp.dst,St.setO];split;·split<;>first|rfl|(simp_all;done)
  ·first|rfl|(simp_all;done)
 |subs d x I G=>
  refine co (match x.ev s with| .str l=>(ac7 l.length (jI s I) (jI s G)).map λ(c,a,b)=>(c,.str ((l.take b).drop a))|_=>none) (λt j _=>?_) h;have q:x.ev t=x.ev s:=w j (by simp+contextual [IOp.rd]);have f0:jI t I=jI s I:=N j (by simp+contextual [IOp.rd]);have X:jI t G=jI s G:=N j (by simp+contextual [IOp.rd]);simp only[step,q,f0,X,IOp.dst,St.setO];split;·rename_i l Q;simp only[Q,CZ];rfl
  ·first|rfl|(simp_all;done)
 |subl d k x I G=>
  refine co (match x.ev s with| .sl k' _ l=>if k'=k then (ac7 l.length (jI s I) (jI s G)).map λ(c,a,b)=>(c,.sl k' (.may false) ((l.take b).drop a)) else none|_=>none) (λt j _=>?_) h;have q:x.ev t=x.ev s:=w j (by simp+contextual [IOp.rd]);have f0:jI t I=jI s I:=N j (by simp+contextual [IOp.rd]);have X:jI t G=jI s G:=N j (by simp+contextual [IOp.rd]);simp only[step,q,f0,X,IOp.dst,St.setO];split
  ·rename_i l Q;simp only[Q];split;·simp only[CZ];rfl
   ·rfl
  ·first|rfl|(simp_all;done)
 |bsl d k F u=>
  refine co ((ahq k (F.map (·.ev s))).map λl=>(true,.sl k (cond u (.may true) .own) l)) (λt j _=>?_) h;have e:F.map (·.ev t)=F.map (·.ev s):=Bk λx C=>w j (λn z=>by simp only[IOp.rd,AW];exact⟨x,C,z⟩)
  simp only[step,e,IOp.dst,St.setO,CZ];rfl
 |bld d zero F=>
  refine co ((lay zero (F.map λ(B,n,x)=>(B,n,x.ev s))).map λcs=>(true,.agg cs)) (λt j _=>?_) h;have e:(F.map λ(B,n,x)=>(B,n,x.ev t))=F.map λ(B,n,x)=>(B,n,x.ev s):=Bk λx C=>by
   have:=w (x:=x.2.2) j (λn z=>by simp only[IOp.rd,AW];exact⟨x,C,z⟩);show (x.1,x.2.1,_)=(x.1,x.2.1,_)
   rw[this]
  simp only[step,e,IOp.dst,St.setO,CZ];rfl
 |fld d B n agg x=>
  refine co (match x.ev s with| .agg cs=>if B+n<=cs.length then some (true,disown (loaded agg ((cs.drop B).take n))) else none|_=>none) (λt j _=>?_) h;have q:x.ev t=x.ev s:=w j (by simp+contextual [IOp.rd]);simp only[step,q,IOp.dst,St.setO];split;·split<;>first|rfl|(simp_all;done)
  ·first|rfl|(simp_all;done)
 |fad d B x=>refine co (match x.ev s with| .ea cs=>some (true,.ea (cs.drop B))| .ptr id o=>some (true,.ptr id (o+B))|_=>none) (λt j _=>?_) h;have q:x.ev t=x.ev s:=w j (by simp+contextual [IOp.rd]);simp only[step,q,IOp.dst,St.setO];split<;>first|rfl|(simp_all;done)
 |ld d n agg L x=>
  cases L with
  |true=>simp[IOp.cls] at E
  |false=>
   refine co (match x.ev s with| .ea cs=>if n<=cs.length then some (true,disown (loaded agg (cs.take n))) else none| .ptr id o=>(match s.obj id with|some cs=>if o+n<=cs.length then some (true,disown (loaded agg ((cs.drop o).take n))) else none|none=>none)|_=>none) (λt j W=>?_) h;have q:x.ev t=x.ev s:=w j (by simp+contextual [IOp.rd]);have A:∀id,t.obj id=s.obj id:=λid=>by simp only[St.obj];rw[W rfl]
   simp only[step,q,A,IOp.dst,St.setO];split;·split<;>first|rfl|(simp_all;done)
   ·split;·split<;>first|rfl|(simp_all;done)
    ·first|rfl|(simp_all;done)
   ·first|rfl|(simp_all;done)
 |ext d i x=>
  refine co (match x.ev s with| .tup vs=>if i<vs.length then some (true,disown (vs.getD i .undef)) else none|_=>none) (λt j _=>?_) h;have q:x.ev t=x.ev s:=w j (by simp+contextual [IOp.rd]);simp only[step,q,IOp.dst,St.setO];split;·split<;>first|rfl|(simp_all;done)
  ·first|rfl|(simp_all;done)
 |nck d x=>refine co (match x.ev s with| .ptr id o=>some (true,.ptr id o)| .ea cs=>some (true,.ea cs)|_=>none) (λt j _=>?_) h;have q:x.ev t=x.ev s:=w j (by simp+contextual [IOp.rd]);simp only[step,q,IOp.dst];split<;>first|rfl|(simp_all;done)
 |mx d mn x y=>
  refine co (match x.ev s,y.ev s with| .int k a,.int k' b=>if k=k' then some (true,.int k (if mn then (if b<a then b else a) else (if a<b then b else a))) else none|_,_=>none) (λt j _=>?_) h;have q:x.ev t=x.ev s:=w j (by simp+contextual [IOp.rd]);have A:y.ev t=y.ev s:=w j (by simp+contextual [IOp.rd]);simp only[step,q,A,IOp.dst,St.setO];split;·split<;>first|rfl|(simp_all;done)
  ·first|rfl|(simp_all;done)
 |call d f avs=>
  have Z:imp.contains f=false:=by
   simp only[IOp.cls] at E;split at E;·omega
   ·rename_i Z;simpa using Z
  refine co ((Γ f (avs.map λx=>disown (x.ev s)) []).map λx=>(x.1,x.2.1)) (λt j _=>?_) h;have e:(avs.map λx=>disown (x.ev t))=avs.map λx=>disown (x.ev s):=Bk λx C=>by rw[w (x:=x) j (λn z=>by simp only[IOp.rd,AW];exact⟨x,C,z⟩)]
  simp only[step,e,IOp.dst];rw[hP.pure _ _ _ Z];cases Γ f (avs.map λx=>disown (x.ev s)) [] with
  |none=>rfl
  |some p=>rfl
def St.put(s:St)(u:List (Nat×V))(q:Option (List aJ)):St:={s.upd u with hp:=q.getD s.hp}
theorem azY(Z:cE Γ imp){o:IOp}(W:∀d k x y,o≠.apo d k x y){s:St}{c:Bool}{s':St}(h:step Γ o s=some (c,s')):
  ∃(u:List (Nat×V))(q:Option (List aJ)),(∀p∈u,p.1∈o.wr)∧(o.cls imp<=1->q=none)∧s'=s.put u q∧
   ∀t:St,(∀n∈o.rd,t.get n=s.get n)->(1<=o.cls imp->t.hp=s.hp)->step Γ o t=some (c,t.put u q):=by
 have B:∀{x:ASrc}{l:List Nat}{t:St},(∀n∈l,t.get n=s.get n)->(∀n∈x.slots,n∈l)->x.ev t=x.ev s:=λQ O=>c9 λn F=>Q n (O n F)
 by_cases M:o.cls imp<=1;·obtain⟨u,Q,O,h3⟩:=aE4 Z M h;exact⟨u,none,Q,λ_=>rfl,O,λt a j=>h3 t a (λe=>j (by omega))⟩
 ·have b:∀{q:Option (List aJ)},o.cls imp<=1->q=none:=λh=>absurd h M
  cases o with
  |new d zero=>
   obtain⟨rfl,rfl⟩:true=c∧_=s':=by simpa [step] using h
   refine⟨[(d,.ptr s.hp.length 0)],some (s.hp++[some zero]),by simp[IOp.wr,IOp.dst],b,rfl,λt a j=>?_⟩;have e:=j (by simp[IOp.cls]);simp only[step,e];rfl
  |newb d zero=>
   obtain⟨rfl,rfl⟩:true=c∧_=s':=by simpa [step] using h
   refine⟨[(d,.ptr s.hp.length 0)],some (s.hp++[some zero]),by simp[IOp.wr,IOp.dst],b,rfl,λt a j=>?_⟩;have e:=j (by simp[IOp.cls]);simp only[step,e];rfl
  |apo d k x y=>exact absurd rfl (W d k x y)
  |stw d n x v=>
   simp only[step] at h;split at h
   ·rename_i id k i o r;cases D:s.rowW id with
    |none=>rw[D] at h;simp at h
    |some p=>
     obtain⟨k',xs⟩:=p;rw[D] at h;simp only at h;split at h
     ·rename_i w;cases R:ach k' (xs.getD i (aK k')) o (v.ev s).cells with
      |none=>rw[R] at h;simp at h
      |some Y=>
       rw[R] at h;simp only[Ae,Al] at h;obtain⟨rfl,rfl⟩:=h;refine⟨d.toList.map (λd=>(d,V.undef)),some (s.hp.set id (some [.rw k' (xs.set i Y)])),?_,b,?_,?_⟩;·intro p hp;simp only[AD] at hp;obtain⟨m,C,rfl⟩:=hp;simp[IOp.wr,IOp.dst,C]
       ·simp only[St.put,<-dq];cases d<;>rfl
       ·intro t a j;have e:=j (by simp[IOp.cls]);have A:x.ev t=x.ev s:=B a (by simp+contextual [IOp.rd]);have J:v.ev t=v.ev s:=B a (by simp+contextual [IOp.rd]);have E:t.rowW id=some ⟨k',xs⟩:=by rw[<-D];simp only[St.rowW];rw[e]
        simp only[step,A,J,r,E];rw[if_pos w,R,<-e];simp only[St.put,<-dq];cases d<;>rfl
     ·simp at h
   ·simp at h
  |mkm d k=>
   obtain⟨rfl,rfl⟩:true=c∧_=s':=by simpa [step] using h
   refine⟨[(d,.mr s.hp.length)],some (s.hp++[some [.mp k []]]),by simp[IOp.wr,IOp.dst],b,rfl,λt a j=>?_⟩;have e:=j (by simp[IOp.cls]);simp only[step,e];rfl
  |mput d k x y z=>
   simp only[step] at h;split at h
   ·rename_i id r;split at h
    ·rename_i k' es D;split at h
     ·rename_i S;split at h
      ·rename_i key v X hz;simp only[Ae,Al] at h;obtain⟨rfl,rfl⟩:=h;refine⟨d.toList.map (λd=>(d,V.undef)),some (s.hp.set id (some [.mp k' (ng es key v)])),?_,b,?_,?_⟩;·intro p hp;simp only[AD] at hp;obtain⟨m,C,rfl⟩:=hp;simp[IOp.wr,IOp.dst,C]
       ·simp only[St.put,<-dq];cases d<;>rfl
       ·intro t a j;have e:=j (by simp[IOp.cls]);have A:x.ev t=x.ev s:=B a (by simp+contextual [IOp.rd]);have J:y.ev t=y.ev s:=B a (by simp+contextual [IOp.rd]);have N:z.ev t=z.ev s:=B a (by simp+contextual [IOp.rd]);have E:t.mapO id=s.mapO id:=by simp only[St.mapO];rw[e]
        simp only[step,A,J,N,E,r,D,X,hz];rw[if_pos S,<-e];simp only[St.put,<-dq];cases d<;>rfl
      ·simp at h
     ·simp at h
    ·simp at h
   ·simp at h
  |box d x=>
   have A:∀t:St,(∀n∈(IOp.box d x).rd,t.get n=s.get n)->x.ev t=x.ev s:=λt a=>B a (by simp+contextual [IOp.rd])
   simp only[step] at h;split at h;·rename_i cs r;simp only[Ae,Al] at h;obtain⟨rfl,rfl⟩:=h;refine⟨[(d,.ptr s.hp.length 0)],some (s.hp++[some cs]),by simp[IOp.wr,IOp.dst],b,rfl,λt a j=>?_⟩;have e:=j (by simp[IOp.cls]);simp only[step,A t a,r,e];rfl
   ·rename_i r;split at h;·rename_i I;simp only[Ae,Al] at h;obtain⟨rfl,rfl⟩:=h;refine⟨[(d,.ptr s.hp.length 0)],some (s.hp++[some [disown (x.ev s)]]),by simp[IOp.wr,IOp.dst],b,rfl,λt a j=>?_⟩;have e:=j (by simp[IOp.cls]);simp only[step,A t a,e];rw[if_pos I];rfl
    ·simp at h
  |st d n x v=>
   simp only[step] at h;split at h
   ·rename_i id o r;split at h
    ·rename_i cs D;split at h
     ·rename_i w;simp only[Ae,Al] at h;obtain⟨rfl,rfl⟩:=h;refine⟨v.takes.map (λn=>(n,disown (s.get n)))++d.toList.map (λd=>(d,V.undef)),some (s.hp.set id (some (cs.take o++(v.ev s).cells++cs.drop (o+n)))),?_,b,?_,?_⟩
      ·intro p hp;simp only[Aw,AD] at hp;rcases hp with⟨m,C,rfl⟩|⟨m,C,rfl⟩
       ·simp[IOp.wr,IOp.dst,C]
       ·simp[IOp.wr,IOp.dst,C]
      ·simp only[St.put,<-kK,<-fZ,<-dq];cases d<;>cases v<;>rfl
      ·intro t a j;have e:=j (by simp[IOp.cls]);have A:x.ev t=x.ev s:=B a (by simp+contextual [IOp.rd]);have J:v.ev t=v.ev s:=B a (by simp+contextual [IOp.rd]);have E:t.obj id=s.obj id:=by simp only[St.obj];rw[e]
       have N:v.takes.map (λn=>(n,disown (t.get n)))=v.takes.map (λn=>(n,disown (s.get n))):=by
        cases v with
        |tk n=>simp only[ASrc.takes,List.map];rw[a n (by simp[IOp.rd,ASrc.slots])]
        |_=>rfl
       simp only[step,A,J,E,r,D];rw[if_pos w,<-N,<-e];simp only[St.put,<-kK,<-fZ,<-dq];cases d<;>cases v<;>rfl
     ·simp at h
    ·simp at h
   ·simp at h
  |ld d n agg L x=>
   cases L with
   |false=>simp[IOp.cls] at M
   |true=>
    have A:∀t:St,(∀m∈(IOp.ld d n agg true x).rd,t.get m=s.get m)->x.ev t=x.ev s:=λt a=>B a (by simp+contextual [IOp.rd])
    simp only[step] at h;split at h
    ·rename_i cs r;split at h;·rename_i G;simp only[Ae,Al] at h;obtain⟨rfl,rfl⟩:=h;refine⟨[(d,_)],none,by simp[IOp.wr,IOp.dst],b,rfl,λt a j=>?_⟩;simp only[step,A t a,r];rw[if_pos G];rfl
     ·simp at h
    ·rename_i id o r;split at h
     ·rename_i cs D;split at h
      ·rename_i G;simp only[if_true] at h;cases H:noBn (cs.getD o .undef) with
       |false=>rw[H] at h;simp at h
       |true=>
       rw[H] at h;simp only[if_true,Ae,Al] at h;obtain⟨rfl,rfl⟩:=h;refine⟨[(d,loaded agg ((cs.drop o).take n))],some (s.hp.set id (some (cs.set o (disown (cs.getD o .undef))))),by simp[IOp.wr,IOp.dst],b,rfl,λt a j=>?_⟩;have e:=j (by simp[IOp.cls]);have E:t.obj id=s.obj id:=by simp only[St.obj];rw[e]
       simp only[step,A t a,r,E,D];rw[if_pos G,H,<-e];rfl
      ·simp at h
     ·simp at h
    ·simp at h
  |call d f avs=>
   have A:∀t:St,(∀n∈(IOp.call d f avs).rd,t.get n=s.get n)->(avs.map λx=>disown (x.ev t))=avs.map λx=>disown (x.ev s):=λt a=>Bk λx r=>by rw[B (x:=x) a (λn F=>by simp only[IOp.rd,AW];exact⟨x,r,F⟩)]
   simp only[step] at h;split at h
   ·rename_i c' v hp' P;simp only[Ae,Al] at h;obtain⟨rfl,rfl⟩:=h;refine⟨d.toList.map (λd=>(d,v)),some hp',?_,b,?_,λt a j=>?_⟩;·intro p hp;simp only[AD] at hp;obtain⟨m,C,rfl⟩:=hp;simp[IOp.wr,IOp.dst,C]
    ·simp only[St.put,<-dq];cases d<;>rfl
    ·have e:=j (by omega);simp only[step,A t a,e,P];simp only[St.put,<-dq];cases d<;>rfl
   ·simp at h
  |dcall d f x avs=>
   have ex:∀t:St,(∀n∈(IOp.dcall d f x avs).rd,t.get n=s.get n)->x.ev t=x.ev s:=λt a=>B (x:=x) a (λn F=>by simp only[IOp.rd,Aw];exact .inl F)
   have A:∀t:St,(∀n∈(IOp.dcall d f x avs).rd,t.get n=s.get n)->(avs.map λx=>disown (x.ev t))=avs.map λx=>disown (x.ev s):=λt a=>Bk λy X=>by rw[B (x:=y) a (λn F=>by simp only[IOp.rd,Aw,AW];exact .inr ⟨y,X,F⟩)]
   simp only[step] at h;split at h
   ·rename_i f' abh r;split at h
    ·rename_i c' v hp' P;simp only[Ae,Al] at h;obtain⟨rfl,rfl⟩:=h;refine⟨d.toList.map (λd=>(d,v)),some hp',?_,b,?_,λt a j=>?_⟩;·intro p hp;simp only[AD] at hp;obtain⟨m,C,rfl⟩:=hp;simp[IOp.wr,IOp.dst,C]
     ·simp only[St.put,<-dq];cases d<;>rfl
     ·have e:=j (by omega);simp only[step,A t a,ex t a,r,e,P];simp only[St.put,<-dq];cases d<;>rfl
    ·simp at h
   ·simp at h
  |_=>simp[IOp.cls] at M
theorem aht(s:St)(u:List (Nat×V)):(s.upd u).env.length=s.env.length:=by
 have:∀(u:List (Nat×V))(e:List V),(u.foldl (λe p=>e.set p.1 p.2) e).length=e.length:=by
  intro u;induction u with
  |nil=>intro e;rfl
  |cons p u a=>intro e;rw[Bf,a,AR]
 exact this u s.env
theorem aCX(E:cE Γ imp){o:IOp}{s:St}{c:Bool}{s':St}(h:step Γ o s=some (c,s')):
  ∃(u:List (Nat×V))(q:Option (List aJ)),(∀p∈u,p.1∈o.wr)∧(o.cls imp<=1->q=none)∧s'=s.put u q∧
   ∀t:St,(∀n∈o.rd,t.get n=s.get n)->(1<=o.cls imp->t.hp=s.hp∧t.env.length=s.env.length)->step Γ o t=some (c,t.put u q):=by
 by_cases w:∃d k x y,o=.apo d k x y
 ·obtain⟨d,k,x,y,rfl⟩:=w;have m:∀{t:St},(∀f∈(IOp.apo d k x y).rd,t.get f=s.get f)->x.ev t=x.ev s:=λa=>c9 λn b=>a n (by simp[IOp.rd,b])
  have j:∀{t:St},(∀f∈(IOp.apo d k x y).rd,t.get f=s.get f)->y.ev t=y.ev s:=λa=>c9 λn b=>a n (by simp[IOp.rd,b])
  simp only[step] at h;split at h
  ·rename_i A l M N z F J;split at h
   ·rename_i C;split at h
    ·rename_i i;split at h
     ·rename_i O;simp only[Ae,Al] at h;obtain⟨rfl,rfl⟩:=h;refine⟨(x.takes.map λn=>(n,disown (s.get n)))++[(d,.sw A s.hp.length (l++(i▸z)).length)],some (s.hp++[some [.rw A (l++(i▸z))],none]),?_,λI=>by simp[IOp.cls] at I,?_,λt a r=>?_⟩
      ·intro p hp;simp only[Aw,AD,Av] at hp;rcases hp with⟨n,b,rfl⟩|rfl;·simp[IOp.wr,IOp.dst,b]
       ·simp[IOp.wr,IOp.dst]
      ·rw[fZ];simp[St.put,St.upd,St.set]
      ·obtain⟨e,P⟩:=r (by simp[IOp.cls]);have v:d<t.env.length:=by omega
       simp only[step,m a,j a,F,J,dif_pos i,if_pos C,if_pos v,e];have L:(x.takes.map λn=>(n,disown (t.get n)))=x.takes.map λn=>(n,disown (s.get n)):=Bk λn b=>by rw[a n (by cases x<;>simp[ASrc.takes] at b<;>subst b<;>simp[IOp.rd,ASrc.slots])]
       rw[fZ,L];simp[St.put,St.upd,St.set]
     ·cases h
    ·cases h
   ·cases h
  ·cases h
 ·obtain⟨u,q,G,D,H,B⟩:=azY E (λd k x y e=>w ⟨d,k,x,y,e⟩) h;exact⟨u,q,G,D,H,λt a r=>B t a (λe=>(r e).1)⟩
def eE(Γ:aI)(x:GOp)(s:St):Option St:=
 match x.g with
 |none=>match stepO Γ x.ob x.o s with|some (c,s')=>chk c (some s')|none=>none
 |some (g,w)=>match s.get g with
  | .bool b=>match b==w with
    |true=>match stepO Γ x.ob x.o s with|some (c,s')=>chk c (some s')|none=>none
    |false=>some (s.setO x.o.dst (.tup []))
  | .tup []=>some (s.setO x.o.dst (.tup []))
  |_=>none
theorem aJW(s:St)(n:Nat){v:V}(h:s.get n=v):s.set n v=s:=by
 subst h;simp only[St.set,St.get,Ai]
 congr 1
 apply Do;intro m;rw[Ay];split
 ·rename_i e;subst e;split;·rename_i a;simp[Ah a]
  ·rename_i a;simp[Bj (Du a)]
 ·rfl
theorem aeD{R:Type}(x:GOp)(l:List GOp)(K:St->Option R)(s:St):runOps Γ (x::l) K s=(eE Γ x s).bind (runOps Γ l K):=by
 obtain⟨g,o,f⟩:=x;have go:∀s,(match stepO Γ f o s with|some (c,s')=>chk c (runOps Γ l K s')|none=>none)=(match stepO Γ f o s with|some (c,s')=>chk c (some s')|none=>none).bind (runOps Γ l K):=by
  intro s;split;·rename_i c s' _;cases c<;>rfl
  ·rfl
 cases g with
 |none=>simp only[runOps,eE];exact go s
 |some g=>
  obtain⟨g,w⟩:=g;simp only[runOps,eE];split;·rename_i b a;rw[a];cases b<;>cases w<;>simp only[cond_true,cond_false,aJW s g a]<;>first|exact go s|rfl
  ·rename_i a;rw[a];rfl
  ·rename_i e d;split;·rename_i b a;exact absurd a (e b)
   ·rename_i a;exact absurd a d
   ·rfl
theorem aGr{o:IOp}{s t:St}(h:∀n∈o.rd,t.get n=s.get n):o.foot t=o.foot s:=by
 cases o with
 |ld d n agg b x=>simp only[IOp.foot];rw[c9 (x:=x) h]
 |st d n x v=>simp only[IOp.foot];rw[c9 (x:=x) λn a=>h n (by simp[IOp.rd,a])]
 |call d f avs=>
  have e:avs.map (λx=>disown (x.ev t))=avs.map (λx=>disown (x.ev s)):=Bk λx c=>by rw[c9 λn a=>h n (by simp only[IOp.rd,AW];exact⟨x,c,a⟩)]
  simp only[IOp.foot,e]
 |stw d n x v=>simp only[IOp.foot];rw[c9 (x:=x) λn a=>h n (by simp[IOp.rd,a])]
 |_=>rfl
theorem uD{a:Option (List Nat×List Nat)}{o:IOp}{s t:St}{p q:Bool×St}(h:stepO Γ a o s=some p)(c:∀n∈o.rd,t.get n=s.get n)(b:step Γ o t=some q):stepO Γ a o t=some q:=by
 cases a with
 |none=>exact b
 |some l=>
  simp only[stepO] at h ⊢;have e:o.within l t=o.within l s:=by simp only[IOp.within,aGr c]
  rw[e];cases d:o.within l s with
  |true=>exact b
  |false=>rw[d] at h;simp at h
def GOp.rd(x:GOp):List Nat:=(match x.g with|some (g,_)=>[g]|none=>[])++x.o.rd
theorem amC(D:cE Γ imp){x:GOp}{s s':St}(h:eE Γ x s=some s'):
  ∃(u:List (Nat×V))(q:Option (List aJ)),(∀p∈u,p.1∈x.o.wr)∧(x.o.cls imp<=1->q=none)∧s'=s.put u q∧
   ∀t:St,(∀n∈x.rd,t.get n=s.get n)->(1<=x.o.cls imp->t.hp=s.hp∧t.env.length=s.env.length)->eE Γ x t=some (t.put u q):=by
 obtain⟨g,o,C⟩:=x
 have go:(match stepO Γ C o s with|some (c,s')=>chk c (some s')|none=>none)=some s'->∃(u:List (Nat×V))(q:Option (List aJ)),(∀p∈u,p.1∈o.wr)∧(o.cls imp<=1->q=none)∧s'=s.put u q∧
   ∀t:St,(∀n∈o.rd,t.get n=s.get n)->(1<=o.cls imp->t.hp=s.hp∧t.env.length=s.env.length)->(match stepO Γ C o t with|some (c,s')=>chk c (some s')|none=>none)=some (t.put u q):=by
  intro h;split at h
  ·rename_i c y v;cases c with
   |false=>simp[chk] at h
   |true=>
    obtain rfl:y=s':=by simpa [chk] using h
    obtain⟨u,q,l,k,r,j⟩:=aCX D (nK v);exact⟨u,q,l,k,r,λt a i=>by rw[uD v a (j t a i)];rfl⟩
  ·simp at h
 cases g with
 |none=>obtain⟨u,q,l,k,r,j⟩:=go h;exact⟨u,q,l,k,r,λt a i=>j t (λn B=>a n (by simp[GOp.rd,B])) i⟩
 |some g=>
  obtain⟨g,w⟩:=g;simp only[eE] at h;split at h
  ·rename_i b z;split at h;·rename_i f;obtain⟨u,q,l,k,r,j⟩:=go h;refine⟨u,q,l,k,r,λt a i=>?_⟩;have e:=a g (by simp[GOp.rd]);simp only[eE,e,z,f];exact j t (λn B=>a n (by simp[GOp.rd,B])) i
   ·rename_i f;obtain rfl:_=s':=by simpa using h
    refine⟨o.dst.toList.map (λd=>(d,V.tup [])),none,?_,λ_=>rfl,by rw[dq];rfl,λt a i=>?_⟩;·intro p hp;simp only[AD] at hp;obtain⟨m,A,rfl⟩:=hp;simp[IOp.wr,A]
    ·have e:=a g (by simp[GOp.rd]);simp only[eE,e,z,f];rw[dq];rfl
  ·rename_i z;obtain rfl:_=s':=by simpa using h
   refine⟨o.dst.toList.map (λd=>(d,V.tup [])),none,?_,λ_=>rfl,by rw[dq];rfl,λt a i=>?_⟩;·intro p hp;simp only[AD] at hp;obtain⟨m,A,rfl⟩:=hp;simp[IOp.wr,A]
   ·have e:=a g (by simp[GOp.rd]);simp only[eE,e,z];rw[dq];rfl
  ·simp at h
def art(a b:List Nat):Bool:=a.all λn=> !b.contains n
def IOp.obable(imp:List Nat):IOp->Bool
 | .ld .. | .st .. | .stw ..=>true
 | .call _ f _=>imp.contains (f+2000000)
 |_=>false
def apart(imp:List Nat)(x y:GOp):Bool:=(x.o.obable imp&&y.o.obable imp)&&(match x.ob,y.ob with
 |some (r,w),some (a,w')=>art w a&&(art w w'&&art w' r)
 |_,_=>false)
def aGs(x y:GOp):Bool:=match x.g,y.g,x.o,y.o with
 |none,none,.ld _ _ _ true _,.ld _ _ _ false _=>true
 |none,none,.ld _ _ _ false _,.ld _ _ _ true _=>true
 |_,_,_,_=>false
def asZ(imp:List Nat)(x y:GOp):Bool:=
 art x.o.wr y.rd&&(art y.o.wr x.rd&&(art x.o.wr y.o.wr&&(((Nat.ble (x.o.cls imp) 1||A4 (y.o.cls imp) 0)&&(Nat.ble (y.o.cls imp) 1||A4 (x.o.cls imp) 0))||(apart imp x y||aGs x y))))
def St.putH(s:St)(u:List (Nat×V))(q:List (Nat×aJ)):St:={s.upd u with hp:=amB s.hp q}
theorem aru{s t:St}{i:Nat}(h:t.hp[i]? =s.hp[i]?):t.obj i=s.obj i:=by unfold St.obj;rw[af2 h]
theorem aGt{s t:St}{i:Nat}(h:t.hp[i]? =s.hp[i]?):t.rowW i=s.rowW i:=by unfold St.rowW;rw[af2 h]
theorem aGu(H:cE Γ imp){o:IOp}(E:o.obable imp=true){s:St}{c:Bool}{s':St}{r w:List Nat}(y:o.foot s=some (r,w))(h:step Γ o s=some (c,s')):
  ∃(u:List (Nat×V))(q:List (Nat×aJ)),(∀p∈u,p.1∈o.wr)∧(∀p∈q,p.1∈w)∧s'=s.putH u q∧
   ∀t:St,(∀n∈o.rd,t.get n=s.get n)->t.hp.length=s.hp.length->(∀i,i∈r∨i∈w->t.hp[i]? =s.hp[i]?)->step Γ o t=some (c,t.putH u q):=by
 cases o with
 |ld d n agg B x=>
  have C:∀t:St,(∀n∈(IOp.ld d n agg B x).rd,t.get n=s.get n)->x.ev t=x.ev s:=λt a=>c9 a
  cases j:x.ev s with
  |ea cs=>
   simp only[step,j] at h;split at h;·rename_i l;simp only[Ae,Al] at h;obtain⟨rfl,rfl⟩:=h;refine⟨[(d,disown (loaded agg (cs.take n)))],[],by simp[IOp.wr,IOp.dst],by simp,rfl,λt a _ _=>?_⟩;simp only[step,C t a,j,if_pos l];rfl
   ·simp at h
  |ptr id o=>
   simp only[IOp.foot,j,Ae] at y;simp only[step,j] at h;cases b:s.obj id with
   |none=>rw[b] at h;simp at h
   |some cs=>
    rw[b] at h;simp only at h;split at h
    ·rename_i l;cases B with
     |false=>simp only[cond_false,Al] at y;obtain⟨rfl,rfl⟩:=y;simp only[Cw,if_false,Ae,Al] at h;obtain⟨rfl,rfl⟩:=h;refine⟨[(d,disown (loaded agg ((cs.drop o).take n)))],[],by simp[IOp.wr,IOp.dst],by simp,rfl,λt a _ z=>?_⟩;have e:=aru (z id (.inl (by simp)));simp only[step,C t a,j,e,b,if_pos l];rfl
     |true=>
      simp only[cond_true,Al] at y;obtain⟨rfl,rfl⟩:=y;simp only[if_true] at h;split at h;·rename_i G;simp only[Ae,Al] at h;obtain⟨rfl,rfl⟩:=h;refine⟨[(d,loaded agg ((cs.drop o).take n))],[(id,some (cs.set o (disown (cs.getD o .undef))))],by simp[IOp.wr,IOp.dst],by simp,rfl,λt a _ z=>?_⟩;have e:=aru (z id (.inr (by simp)));simp only[step,C t a,j,e,b,if_pos l,if_true,if_pos G];rfl
      ·simp at h
    ·simp at h
  |_=>simp[IOp.foot,j] at y
 |st d n x v=>
  have C:∀t:St,(∀n∈(IOp.st d n x v).rd,t.get n=s.get n)->x.ev t=x.ev s:=λt a=>c9 λn l=>a n (by simp[IOp.rd,l])
  have ev:∀t:St,(∀n∈(IOp.st d n x v).rd,t.get n=s.get n)->v.ev t=v.ev s:=λt a=>c9 λn l=>a n (by simp[IOp.rd,l])
  have ea:∀t:St,(∀n∈(IOp.st d n x v).rd,t.get n=s.get n)->v.takes.map (λn=>(n,disown (t.get n)))=v.takes.map (λn=>(n,disown (s.get n))):=by
   intro t a;cases v with
   |tk m=>simp only[ASrc.takes,List.map];rw[a m (by simp[IOp.rd,ASrc.slots])]
   |_=>rfl
  cases j:x.ev s with
  |ptr id o=>
   simp only[IOp.foot,j,Ae,Al] at y;obtain⟨rfl,rfl⟩:=y;simp only[step,j] at h;cases b:s.obj id with
   |none=>rw[b] at h;simp at h
   |some cs=>
    rw[b] at h;simp only at h;split at h
    ·rename_i l;simp only[Ae,Al] at h;obtain⟨rfl,rfl⟩:=h;refine⟨v.takes.map (λn=>(n,disown (s.get n)))++d.toList.map (λd=>(d,V.undef)),[(id,some (cs.take o++(v.ev s).cells++cs.drop (o+n)))],?_,by simp,?_,λt a _ z=>?_⟩
     ·intro p hp;simp only[Aw,AD] at hp;rcases hp with⟨m,A,rfl⟩|⟨m,A,rfl⟩
      ·simp[IOp.wr,IOp.dst,A]
      ·simp only[D4] at A;simp[IOp.wr,IOp.dst,A]
     ·rw[fZ,dq];simp only[St.putH,<-kK];rfl
     ·have e:=aru (z id (.inr (by simp)));simp only[step,C t a,ev t a,j,e,b,if_pos l];rw[fZ,dq,ea t a];simp only[St.putH,<-kK];rfl
    ·simp at h
  |_=>simp[IOp.foot,j] at y
 |call d f avs=>
  have e:∀t:St,(∀n∈(IOp.call d f avs).rd,t.get n=s.get n)->avs.map (λx=>disown (x.ev t))=avs.map (λx=>disown (x.ev s)):=λt a=>Bk λx j=>by rw[c9 λn l=>a n (by simp only[IOp.rd,AW];exact⟨x,j,l⟩)]
  simp only[IOp.foot,Ae,Al] at y;obtain⟨rfl,rfl⟩:=y;simp only[step] at h;split at h
  ·rename_i P J hp' M;simp only[Ae,Al] at h;obtain⟨rfl,rfl⟩:=h;obtain⟨q,I,rfl,L⟩:=H.loc f _ _ _ _ _ E M;refine⟨d.toList.map (λd=>(d,J)),q,?_,I,?_,λt a N z=>?_⟩;·intro p hp;simp only[AD,D4] at hp;obtain⟨m,A,rfl⟩:=hp;simp[IOp.wr,IOp.dst,A]
   ·rw[dq];rfl
   ·have:=L t.hp N (λi O=>z i (.inl O));simp only[step,e t a,this];rw[dq];rfl
  ·simp at h
 |stw d n x v=>
  have C:∀t:St,(∀n∈(IOp.stw d n x v).rd,t.get n=s.get n)->x.ev t=x.ev s:=λt a=>c9 λn l=>a n (by simp[IOp.rd,l])
  have ev:∀t:St,(∀n∈(IOp.stw d n x v).rd,t.get n=s.get n)->v.ev t=v.ev s:=λt a=>c9 λn l=>a n (by simp[IOp.rd,l])
  cases j:x.ev s with
  |wp id k i o=>
   simp only[IOp.foot,j,Ae,Al] at y;obtain⟨rfl,rfl⟩:=y;simp only[step,j] at h;cases b:s.rowW id with
   |none=>rw[b] at h;simp at h
   |some p=>
    obtain⟨k',xs⟩:=p;rw[b] at h;simp only at h;split at h
    ·rename_i l;cases D:ach k' (xs.getD i (aK k')) o (v.ev s).cells with
     |none=>rw[D] at h;simp at h
     |some F=>
      rw[D] at h;simp only[Ae,Al] at h;obtain⟨rfl,rfl⟩:=h;refine⟨d.toList.map (λd=>(d,V.undef)),[(id,some [.rw k' (xs.set i F)])],?_,by simp,?_,λt a _ z=>?_⟩;·intro p hp;simp only[AD,D4] at hp;obtain⟨m,A,rfl⟩:=hp;simp[IOp.wr,IOp.dst,A]
      ·rw[dq];rfl
      ·have e:=aGt (z id (.inr (by simp)));simp only[step,C t a,ev t a,j,e,b,if_pos l,D];rw[dq];rfl
    ·simp at h
  |_=>simp[IOp.foot,j] at y
 |_=>simp[IOp.obable] at E
theorem aCY{o:IOp}{R W:List Nat}{s:St}(h:o.within (R,W) s=true):∃r w,o.foot s=some (r,w)∧(∀i∈r,i∈R∨i∈W)∧∀i∈w,i∈W:=by
 unfold IOp.within at h;split at h
 ·rename_i r w c;simp only[Ac,AA,Bl,List.any_eq_true] at h;refine⟨r,w,c,?_,?_⟩
  ·intro i b;rcases h.1 i b with⟨j,a,e⟩|⟨j,a,e⟩
   ·left;rw[AJ e];exact a
   ·right;rw[AJ e];exact a
  ·intro i b;obtain⟨j,a,e⟩:=h.2 i b;rw[AJ e];exact a
 ·simp at h
theorem as0(L:cE Γ imp){x:GOp}{R W:List Nat}(O:x.o.obable imp=true)(I:x.ob=some (R,W)){s s':St}(h:eE Γ x s=some s'):
  ∃(u:List (Nat×V))(q:List (Nat×aJ)),(∀p∈u,p.1∈x.o.wr)∧(∀p∈q,p.1∈W)∧s'=s.putH u q∧
   ∀t:St,(∀n∈x.rd,t.get n=s.get n)->t.hp.length=s.hp.length->(∀i,i∈R∨i∈W->t.hp[i]? =s.hp[i]?)->eE Γ x t=some (t.putH u q):=by
 obtain⟨g,o,M⟩:=x;obtain rfl:M=some (R,W):=I
 have go:(match stepO Γ (some (R,W)) o s with|some (c,s')=>chk c (some s')|none=>none)=some s'->∃(u:List (Nat×V))(q:List (Nat×aJ)),(∀p∈u,p.1∈o.wr)∧(∀p∈q,p.1∈W)∧s'=s.putH u q∧
   ∀t:St,(∀n∈o.rd,t.get n=s.get n)->t.hp.length=s.hp.length->(∀i,i∈R∨i∈W->t.hp[i]? =s.hp[i]?)->(match stepO Γ (some (R,W)) o t with|some (c,s')=>chk c (some s')|none=>none)=some (t.putH u q):=by
  intro h;split at h
  ·rename_i c B l;cases c with
   |false=>simp[chk] at h
   |true=>
    obtain rfl:B=s':=by simpa [chk] using h
    have J:o.within (R,W) s=true:=by
     cases J:o.within (R,W) s with
     |true=>rfl
     |false=>simp[stepO,J] at l
    obtain⟨r,w,Q,P,A⟩:=aCY J;obtain⟨u,q,E,z,F,y⟩:=aGu L O Q (nK l);exact⟨u,q,E,λp hp=>A _ (z p hp),F,λt a C v=>by rw[uD l a (y t a C (λi D=>D.elim (λD=>v i (P i D)) (λD=>v i (.inr (A i D)))))];rfl⟩
  ·simp at h
 have f:∀s:St,s.setO o.dst (.tup [])=s.putH (o.dst.toList.map λd=>(d,V.tup [])) []:=λs=>by rw[dq];rfl
 have j:∀p∈o.dst.toList.map λd=>(d,V.tup []),p.1∈o.wr:=by intro p hp;simp only[AD] at hp;obtain⟨m,N,rfl⟩:=hp;simp[IOp.wr,N]
 cases g with
 |none=>obtain⟨u,q,E,z,F,y⟩:=go h;exact⟨u,q,E,z,F,λt a=>y t (λn H=>a n (by simp[GOp.rd,H]))⟩
 |some g=>
  obtain⟨g,w⟩:=g;simp only[eE] at h;split at h
  ·rename_i b G;split at h;·rename_i k;obtain⟨u,q,E,z,F,y⟩:=go h;refine⟨u,q,E,z,F,λt a C v=>?_⟩;have e:=a g (by simp[GOp.rd]);simp only[eE,e,G,k];exact y t (λn H=>a n (by simp[GOp.rd,H])) C v
   ·rename_i k;obtain rfl:_=s':=by simpa using h
    refine⟨_,[],j,by simp,f s,λt a C v=>?_⟩;have e:=a g (by simp[GOp.rd]);simp only[eE,e,G,k];rw[f]
  ·rename_i G;obtain rfl:_=s':=by simpa using h
   refine⟨_,[],j,by simp,f s,λt a C v=>?_⟩;have e:=a g (by simp[GOp.rd]);simp only[eE,e,G];rw[f]
  ·simp at h
theorem xJ{a b:List Nat}(h:art a b=true):∀n∈a,n ∉ b:=by intro n c;have:=AA.1 h n c;simpa using this
theorem au2{α:Type}(u:List (Nat×α)):∀(e:List α)(n:Nat)(v:α),(∀p∈u,p.1≠n)->u.foldl (λe p=>e.set p.1 p.2) (e.set n v)=(u.foldl (λe p=>e.set p.1 p.2) e).set n v:=by
 induction u with
 |nil=>intro e n v _;rfl
 |cons p u b=>intro e n v h;simp only[Bf];rw[D2 _ _ (C8 (h p (AZ ..))),b _ _ _ (λq a=>h q (A3 _ a))]
theorem xo{α:Type}(v:List (Nat×α)):∀(u:List (Nat×α))(e:List α),(∀p∈u,∀q∈v,p.1≠q.1)->
  v.foldl (λe p=>e.set p.1 p.2) (u.foldl (λe p=>e.set p.1 p.2) e)=u.foldl (λe p=>e.set p.1 p.2) (v.foldl (λe p=>e.set p.1 p.2) e):=by
 induction v with
 |nil=>intro u e _;rfl
 |cons q v a=>intro u e h;simp only[Bf];rw[<-au2 u e q.1 q.2 (λp hp=>h p hp q (AZ ..)),a u _ (λp hp r b=>h p hp r (A3 _ b))]
theorem aJX{s:St}{id:Nat}{cs:List V}(h:s.obj id=some cs)(i:Nat):(s.setObj id (cs.set i (disown (cs.getD i .undef)))).obj id=some (cs.set i (disown (cs.getD i .undef))):=by
 have a:id<s.hp.length:=by
  rcases AH id s.hp.length with a|a;·exact a
  ·unfold St.obj at h;rw[Ar,Bj a] at h;simp at h
 have w:s.hp.getD id none=some cs∧(∀xs,cs≠[.rb xs])∧(∀k xs,cs≠[.rw k xs])∧(∀k xs,cs≠[.mp k xs])∧(∀xs,cs≠[.tup xs]):=by
  unfold St.obj at h;split at h;·simp at h
  ·simp at h
  ·simp at h
  ·simp at h
  ·rename_i q v m p;refine⟨h,λxs e=>?_,λk xs e=>?_,λk xs e=>?_,λxs e=>?_⟩;·subst e;exact q _ h
   ·subst e;exact v _ _ h
   ·subst e;exact m _ _ h
   ·subst e;exact p _ h
 obtain⟨x,f,d,l,j⟩:=w;have u:(s.setObj id (cs.set i (disown (cs.getD i .undef)))).hp.getD id none=some (cs.set i (disown (cs.getD i .undef))):=by simp[St.setObj,Ar,a]
 unfold St.obj;rw[u];match cs,i with
 | [],i=>rfl
 | [c],0=>
   simp only[BH,DU];cases c with
   |rb xs=>exact absurd rfl (f xs)
   |rw k xs=>exact absurd rfl (d k xs)
   |mp k xs=>exact absurd rfl (l k xs)
   |tup xs=>exact absurd rfl (j xs)
   |sl k o xs=>cases o<;>rfl
   |_=>rfl
 | [c],i+1=>
   simp only[DV,List.set_nil];cases c with
   |rb xs=>exact absurd rfl (f xs)
   |rw k xs=>exact absurd rfl (d k xs)
   |mp k xs=>exact absurd rfl (l k xs)
   |tup xs=>exact absurd rfl (j xs)
   |_=>rfl
 |c::b::r,0=>simp only[DU];split<;>first|rfl|(rename_i e;simp at e)
 |c::b::r,1=>simp only[DV,DU]
 |c::b::r,i+2=>simp only[DV]
theorem au3(cs:List V)(i:Nat):(cs.set i (disown (cs.getD i .undef))).map disown=cs.map disown:=by
 rw[List.map_set,axM];apply Do;intro m;rw[Ay];by_cases h:i=m
 ·subst h;simp only[if_true,BY];split;·rename_i a;simp[Ar,Ah a]
  ·rename_i a;simp[Bj (Du a)]
 ·simp[h]
theorem akt(agg:Bool)(cs:List V):disown (loaded agg cs)=if agg then .agg (cs.map disown) else (cs.map disown).headD .undef:=by
 cases agg with
 |true=>rfl
 |false=>cases cs<;>rfl
theorem aE5(agg:Bool)(cs:List V)(i o n:Nat):disown (loaded agg (((cs.set i (disown (cs.getD i .undef))).drop o).take n))=disown (loaded agg ((cs.drop o).take n)):=by rw[akt,akt,D0,DZ,au3,D0,DZ]
def rdV(p:V)(s:St)(n:Nat)(a:Bool):Option V:=match p with
 | .ea cs=>if n<=cs.length then some (disown (loaded a (cs.take n))) else none
 | .ptr id o=>match s.obj id with
   |some cs=>if o+n<=cs.length then some (disown (loaded a ((cs.drop o).take n))) else none
   |none=>none
 |_=>none
theorem as1(d n:Nat)(a:Bool)(x:ASrc)(s:St):step Γ (.ld d n a false x) s=(rdV (x.ev s) s n a).map λv=>(true,s.set d v):=by
 cases b:x.ev s with
 |ea cs=>simp only[step,rdV,b];split<;>rfl
 |ptr id o=>
  simp only[step,rdV,b];cases s.obj id with
  |none=>rfl
  |some cs=>simp only[Cw,if_false];split<;>rfl
 |_=>simp only[step,rdV,b];rfl
def tkV(p:V)(s:St)(n:Nat)(a:Bool):Option (V×Option (Nat×List V)):=match p with
 | .ea cs=>if n<=cs.length then some (disown (loaded a (cs.take n)),none) else none
 | .ptr id o=>match s.obj id with
   |some cs=>if o+n<=cs.length then (if noBn (cs.getD o .undef) then some (loaded a ((cs.drop o).take n),some (id,cs.set o (disown (cs.getD o .undef)))) else none) else none
   |none=>none
 |_=>none
def St.turn(s:St):Option (Nat×List V)->St
 |none=>s
 |some (id,cs)=>s.setObj id cs
theorem as2(d n:Nat)(a:Bool)(x:ASrc)(s:St):step Γ (.ld d n a true x) s=(tkV (x.ev s) s n a).map λq=>(true,(s.turn q.2).set d q.1):=by
 cases b:x.ev s with
 |ea cs=>simp only[step,tkV,b];split<;>rfl
 |ptr id o=>
  simp only[step,tkV,b];cases s.obj id with
  |none=>rfl
  |some cs=>
   simp only[if_true];split;·split<;>rfl
   ·rfl
 |_=>simp only[step,tkV,b];rfl
theorem aGv{s:St}{id a:Nat}{cs:List V}(h:id≠a):(s.setObj id cs).obj a=s.obj a:=by unfold St.obj St.setObj;simp[Ar,Ay,h]
theorem azZ{p i:V}{s:St}{n k:Nat}{a j:Bool}{q:V×Option (Nat×List V)}(h:tkV p s n a=some q)(d:Nat)(v:V):rdV i ((s.turn q.2).set d v) k j=rdV i s k j:=by
 unfold tkV at h;split at h
 ·split at h;·cases h;rfl
  ·cases h
 ·rename_i id o;split at h
  ·rename_i cs c;split at h
   ·split at h
    ·cases h;have e:∀b,((s.turn (some (id,cs.set o (disown (cs.getD o .undef))))).set d v).obj b=(s.setObj id (cs.set o (disown (cs.getD o .undef)))).obj b:=λ_=>rfl
     cases i with
     |ptr b l=>
      simp only[rdV,e];by_cases f:id=b;·subst f;rw[aJX c,c];simp only[AR,aE5]
      ·rw[aGv f]
     |_=>rfl
    ·cases h
   ·cases h
  ·cases h
 ·cases h
theorem aEf(p:V)(s:St)(n:Nat)(a:Bool)(d:Nat)(v:V):tkV p (s.set d v) n a=tkV p s n a:=rfl
theorem az0(s:St)(q:Option (Nat×List V))(d:Nat)(v:V):(s.set d v).turn q=(s.turn q).set d v:=by cases q<;>rfl
theorem az1(s:St){d a:Nat}(v b:V)(h:d≠a):(s.set d v).set a b=(s.set a b).set d v:=by simp only[St.set];rw[D2 _ _ h]
theorem az2(s:St)(q:Option (Nat×List V))(n:Nat):(s.turn q).get n=s.get n:=by cases q<;>rfl
theorem aE6{o:IOp}{a:Option (List Nat×List Nat)}{s s':St}:eE Γ ⟨none,o,a⟩ s=some s'↔stepO Γ a o s=some (true,s'):=by
 simp only[eE];cases stepO Γ a o s with
 |none=>simp
 |some p=>obtain⟨c,t⟩:=p;cases c<;>simp[chk]
theorem aec(s:St){d n:Nat}(v:V)(h:d≠n):(s.set d v).get n=s.get n:=by simp[St.get,St.set,Ai,Ay,h]
theorem aJB{E D:Option (List Nat×List Nat)}{d n f w:Nat}{a y:Bool}{x h:ASrc}(H:d≠f)(r:∀m∈x.slots,m≠f)(z:∀m∈h.slots,m≠d){s C F:St}:
  (eE Γ ⟨none,.ld d n a true x,D⟩ s=some C->eE Γ ⟨none,.ld f w y false h,E⟩ C=some F->∃c,eE Γ ⟨none,.ld f w y false h,E⟩ s=some c∧eE Γ ⟨none,.ld d n a true x,D⟩ c=some F)∧
  (eE Γ ⟨none,.ld f w y false h,E⟩ s=some C->eE Γ ⟨none,.ld d n a true x,D⟩ C=some F->∃c,eE Γ ⟨none,.ld d n a true x,D⟩ s=some c∧eE Γ ⟨none,.ld f w y false h,E⟩ c=some F):=by
 simp only[aE6];have I:(IOp.ld d n a true x).rd=x.slots:=rfl;have G:(IOp.ld f w y false h).rd=h.slots:=rfl;constructor
 ·intro u l;have A:=nK u;have j:=nK l;rw[as2,Aq] at A;obtain⟨q,v,e⟩:=A;simp only[Al,true_and] at e;subst e;have k:∀m∈h.slots,((s.turn q.2).set d q.1).get m=s.get m:=λm b=>by rw[aec _ _ (C8 (z m b)),az2]
  rw[as1,c9 k,azZ v,Aq] at j;obtain⟨B,i,e⟩:=j;simp only[Al,true_and] at e;subst e;refine⟨s.set f B,uD l (by rw[G];exactλm b=>(k m b).symm) (by rw[as1,i];rfl),?_⟩;have p:∀m∈x.slots,(s.set f B).get m=s.get m:=λm b=>aec _ _ (C8 (r m b))
  refine uD u (by rw[I];exact p) ?_;rw[as2,c9 p,aEf,v];simp only[BC,az0];rw[az1 _ _ _ H]
 ·intro u l;have A:=nK u;have j:=nK l;rw[as1,Aq] at A;obtain⟨B,i,e⟩:=A;simp only[Al,true_and] at e;subst e;have p:∀m∈x.slots,(s.set f B).get m=s.get m:=λm b=>aec _ _ (C8 (r m b))
  rw[as2,c9 p,aEf,Aq] at j;obtain⟨q,v,e⟩:=j;simp only[Al,true_and] at e;subst e;have k:∀m∈h.slots,((s.turn q.2).set d q.1).get m=s.get m:=λm b=>by rw[aec _ _ (C8 (z m b)),az2]
  refine⟨(s.turn q.2).set d q.1,uD l (by rw[I];exactλm b=>(p m b).symm) (by rw[as2,v];rfl),?_⟩;refine uD u (by rw[G];exact k) ?_;rw[as1,c9 k,azZ v,i];simp only[BC,az0];rw[az1 _ _ _ H]
theorem aMT(Q:cE Γ imp){x y:GOp}(b:asZ imp y x=true){s s1 s2:St}(S:eE Γ y s=some s1)(P:eE Γ x s1=some s2):
  ∃J,eE Γ x s=some J∧eE Γ y J=some s2:=by
 simp only[asZ,Ac,Bl,Nat.ble_eq] at b;obtain⟨C,D,E,b⟩:=b;have C:=xJ C;have D:=xJ D;have E:=xJ E;rcases b with⟨d,G⟩|w|Z
 case inr.inr=>
  obtain⟨R,ox,bx⟩:=x;obtain⟨W,oy,bY⟩:=y;unfold aGs at Z;split at Z
  ·rename_i e n a xa f n2 A X k u H I;simp only at k u H I;subst k u H I;have m1:∀m∈X.slots,m≠e:=λm v h=>C e (by simp[IOp.wr,IOp.dst]) (by subst h;simpa [GOp.rd,IOp.rd] using v)
   have m2:∀m∈xa.slots,m≠f:=λm v h=>D f (by simp[IOp.wr,IOp.dst]) (by subst h;simpa [GOp.rd,IOp.rd] using v)
   have Y:e≠f:=λh=>E e (by simp[IOp.wr,IOp.dst]) (by subst h;simp[IOp.wr,IOp.dst])
   exact(aJB Y m2 m1).1 S P
  ·rename_i f n2 A X e n a xa k u H I;simp only at k u H I;subst k u H I;have m1:∀m∈X.slots,m≠e:=λm v h=>D e (by simp[IOp.wr,IOp.dst]) (by subst h;simpa [GOp.rd,IOp.rd] using v)
   have m2:∀m∈xa.slots,m≠f:=λm v h=>C f (by simp[IOp.wr,IOp.dst]) (by subst h;simpa [GOp.rd,IOp.rd] using v)
   have Y:e≠f:=λh=>E f (by simp[IOp.wr,IOp.dst]) (by subst h;simp[IOp.wr,IOp.dst])
   exact(aJB Y m2 m1).2 S P
  ·cases Z
 case inr.inl=>
  simp only[apart,Ac] at w;obtain⟨⟨oy,ox⟩,w⟩:=w;split at w
  ·rename_i Ry Wy Rx Wx ah aj;simp only[Ac] at w;obtain⟨a1,A,a3⟩:=w;have a1:=xJ a1;have A:=xJ A;have a3:=xJ a3;obtain⟨r,O,L,B,rfl,ly⟩:=as0 Q oy ah S;obtain⟨j,z,N,F,rfl,lx⟩:=as0 Q ox aj P;have W:∀t:St,∀n∈x.rd,(t.putH r O).get n=t.get n:=λt n c=>apj (s:=t) (l:=r) (λp hp e=>C p.1 (L p hp) (e▸c))
   have R:∀t:St,∀n∈y.rd,(t.putH j z).get n=t.get n:=λt n c=>apj (s:=t) (l:=j) (λp hp e=>D p.1 (N p hp) (e▸c))
   have hx:=lx s (λn c=>(W s n c).symm) (aqA O s.hp).symm (λi b=>(azX (λp hp e=>by
    subst e;rcases b with b|b;·exact a1 _ (B p hp) b
    ·exact A _ (B p hp) b)).symm)
   have hy:=ly (s.putH j z) (λn c=>R s n c) (aqA z s.hp) (λi b=>azX (λp hp e=>by
    subst e;rcases b with b|b;·exact a3 _ (F p hp) b
    ·exact A _ b (F p hp)))
   refine⟨_,hx,hy.trans ?_⟩
   congr 1
   have k:=xo r j s.env (λp hp q M e=>E q.1 (L q M) (e▸N p hp));have u:=xo O z s.hp (λp hp q M e=>A q.1 (B q M) (e▸F p hp));simp only[St.putH,St.upd,St.mk.injEq];exact⟨k,u⟩
  ·simp at w
 have d:y.o.cls imp<=1∨x.o.cls imp=0:=d.imp id AJ;have G:x.o.cls imp<=1∨y.o.cls imp=0:=G.imp id AJ;obtain⟨r,O,L,B,rfl,ly⟩:=amC Q S;obtain⟨j,z,N,F,rfl,lx⟩:=amC Q P;have W:∀t:St,∀n∈x.rd,(t.put r O).get n=t.get n:=λt n c=>apj (s:=t) (l:=r) (λp hp e=>C p.1 (L p hp) (e▸c))
 have R:∀t:St,∀n∈y.rd,(t.put j z).get n=t.get n:=λt n c=>apj (s:=t) (l:=j) (λp hp e=>D p.1 (N p hp) (e▸c))
 have hx:=lx s (λn c=>(W s n c).symm) (λhc=>by
  rcases d with d|d;·exact⟨by rw[B d];rfl,(aht s r).symm⟩
  ·omega)
 have hy:=ly (s.put j z) (λn c=>R s n c) (λhc=>by
  rcases G with G|G;·exact⟨by rw[F G];rfl,aht s j⟩
  ·omega)
 refine⟨_,hx,hy.trans ?_⟩
 congr 1
 have k:=xo r j s.env (λp hp q M e=>E q.1 (L q M) (e▸N p hp));simp only[St.put,St.upd,St.mk.injEq];refine⟨k,?_⟩;rcases d with d|d;·rw[B d];rfl
 ·rw[F (by omega)];rfl
theorem aJC(c:cE Γ imp){R:Type}{K:St->Option R}{r:R}{x:GOp}{B:List GOp}:∀(A:List GOp)(s:St),(∀y∈A,asZ imp y x=true)->
  runOps Γ (A++x::B) K s=some r->∃s',eE Γ x s=some s'∧runOps Γ (A++B) K s'=some r
 | [],s,_,h=>by rw[Bg,aeD] at h;exact Co.1 h
 |y::A,s,b,h=>by rw[AP,aeD] at h;obtain⟨e,j,i⟩:=Co.1 h;obtain⟨p,l,d⟩:=aJC c A e (λy k=>b y (A3 _ k)) i;obtain⟨a,m,f⟩:=aMT c (b y (AZ ..)) j l;refine⟨a,m,?_⟩;rw[AP,aeD,f];exact d
end
def eW(G:Nat->List V->Option (Bool×V)):aI:=λf vs hp=>match G f vs with|some x=>some (x.1,x.2,hp)|none=>none
theorem cK(G:Nat->List V->Option (Bool×V))(imp:List Nat):cE (eW G) imp:=by
 refine⟨?_,?_⟩;·intro f avs hp _;unfold eW;cases G f avs<;>rfl
 ·intro f vs hp c v hp' _ h;unfold eW at h ⊢;cases a:G f vs with
  |none=>rw[a] at h;simp at h
  |some x=>rw[a] at h;simp only[Ae,Al] at h;obtain⟨rfl,rfl,rfl⟩:=h;exact⟨[],by simp,rfl,λb _ _=>rfl⟩
theorem dw{G:Nat->List V->Option (Bool×V)}{f:Nat}{vs:List V}{hp hp':List aJ}{c:Bool}{v:V}(h:eW G f vs hp=some (c,v,hp')):G f vs=some (c,v)∧hp'=hp:=by
 unfold eW at h;cases a:G f vs with
 |none=>rw[a] at h;simp at h
 |some x=>rw[a] at h;simp only[Ae,Al] at h;obtain⟨rfl,rfl,rfl⟩:=h;exact⟨rfl,rfl⟩
def aEg(P:Program)(o:IOp)(m:Oper):Bool:=
 match o with
 |_=>false
section
variable{w w':World}{g g':Gh}{s s':St}{a:Act}{P:Program}{Γ:aI}{m:Oper}{next:Act->World->Prop}{Q:Exit->Act->World->Prop}
end
section
open Go.MapKept
def ph(P:Program)(t:TypeId)(k:MK):Bool:=match k,P.underlying t with
 | .pb,some (.array 2 e)=>(gk P e==some 1)&&amy P e .i64
 | .bs,some (.int .u8)=>true
 | .bn,some (.int .u8)=>true
 | .ib,some (.int .i64)=>true
 | .sn,some .string=>true
 |_,_=>false
def aJD(P:Program)(e:TypeId)(k:MK):Bool:=match P.info? e with|some i=>(match i.zero with|some z=>tI (k.val k.zero) z|none=>false)|none=>false
def ai4(P:Program)(t:TypeId)(k:MK):Bool:=match P.underlying t with|some (.map b e)=>ph P b k&&aJD P e k|_=>false
def acj(P:Program)(o:IOp)(m:Oper):Bool:=
 match o with
 | .mkm d k=>(m.dst==some d)&&(match m.op with| .makeMap t none=>ai4 P t k|_=>false)
 | .mget d k ok x y=>(m.dst==some d)&&(match m.op with| .lookup t b c e=>ai4 P t k&&((ok==e)&&(bw x b&&bw y c))|_=>false)
 | .mput d k x y z=>(m.dst==d)&&(match m.op with
   | .mapUpdate t b c f=>ai4 P t k&&(bw x b&&(bw y c&&bw z f))
   | .insert t b c f=>ai4 P t k&&(bw x b&&(bw y c&&bw z f))
   |_=>false)
 |_=>false
section
variable{w w':World}{g g':Gh}{s s':St}{a:Act}{P:Program}{Γ:aI}{m:Oper}{next:Act->World->Prop}{Q:Exit->Act->World->Prop}
theorem aqB{t:TypeId}{k:MK}(h:ai4 P t k=true):∃c e,P.underlying t=some (.map c e)∧ph P c k=true∧(∀w:World,(zeroValue e).run P w=.ok (k.valV k.zero) w):=by
 unfold ai4 at h;split at h
 ·rename_i c e j;simp only[Ac] at h;refine⟨c,e,j,h.1,?_⟩;have b:=h.2;unfold aJD at b;split at b
  ·rename_i i p;split at b
   ·rename_i z d;intro w;have f:z=k.valV k.zero:=by
     cases k<;>cases z<;>simp[tI,MK.val,MK.zero] at b<;>simp[MK.valV,MK.zero];·exact b
     ·rename_i s;obtain⟨⟨l⟩⟩:=s;simp at b;rw[b.1]
     ·exact⟨b.1.symm,b.2.1.symm⟩
     ·exact b
     ·exact⟨b.1.symm,b.2.1.symm⟩
    simp[zeroValue,typeInfo,p,d,f]
   ·simp at b
  ·simp at b
 ·simp at h
theorem aIb{I:Nat->Nat->Prop}{ρ:Nat->Nat}{N:Nat}(k:MK)(x:k.T)(h:k.okT x):VRel I ρ N w (k.val x) (k.valV x):=by
 cases k;·exact .bool _
 ·exact .str _ _ rfl (by have h:Aa x<=cw:=h;simpa [ByteArray.size] using h)
 ·exact .int _ _ h
 ·exact .bool _
 ·exact .int _ _ h
theorem aIc(k:MK):k.okT k.zero:=by cases k<;>simp[MK.okT,MK.zero]<;>decide
theorem aE7{v:V}{x:Int×Int}(h:aET v=some x):v=.agg [.int .i64 x.1,.int .i64 x.2]:=by unfold aET at h;split at h<;>first|contradiction|(cases h;rfl)
theorem az3{v:V}{x:Int}(h:u8V v=some x):v=.int .u8 x:=by unfold u8V at h;split at h<;>first|contradiction|(cases h;rfl)
theorem amD{v:V}{x:Int}(h:azK v=some x):v=.int .i64 x:=by unfold azK at h;split at h<;>first|contradiction|(cases h;rfl)
theorem aw8{v:V}{x:List UInt8}(h:aEU v=some x):v=.str x:=by unfold aEU at h;split at h<;>first|contradiction|(cases h;rfl)
theorem as3{v:V}{x:Bool}(h:azB v=some x):v=.bool x:=by unfold azB at h;split at h<;>first|contradiction|(cases h;rfl)
theorem aEh{I:Nat->Nat->Prop}{ρ:Nat->Nat}{N:Nat}{l:List UInt8}{cv:Value}(h:VRel I ρ N w (.str l) cv):cv=.string ⟨l.toArray⟩∧l.length<=cw:=by
 cases h with
 |str _ s c b=>subst c;exact⟨rfl,by rw[B4];exact b⟩
theorem abj{I:Nat->Nat->Prop}{ρ:Nat->Nat}{N:Nat}{k:IntKind}{n:Int}{cv:Value}(h:VRel I ρ N w (.int k n) cv):cv=.int k n∧k.min<=n∧n<=k.max:=by cases h;exact⟨rfl,by assumption⟩
theorem az4{I:Nat->Nat->Prop}{ρ:Nat->Nat}{N:Nat}{b:Bool}{cv:Value}(h:VRel I ρ N w (.bool b) cv):cv=.bool b:=by cases h;rfl
theorem aId{I:Nat->Nat->Prop}{ρ:Nat->Nat}{N:Nat}{k:MK}{v:V}{x:k.T}{cv:Value}(h:k.dval v=some x)(b:VRel I ρ N w v cv):cv=k.valV x∧k.okT x:=by
 cases k with
 |pb=>rw[as3 h] at b;exact⟨az4 b,trivial⟩
 |ib=>rw[as3 h] at b;exact⟨az4 b,trivial⟩
 |bs=>rw[aw8 h] at b;exact aEh b
 |bn=>rw[amD h] at b;exact abj b
 |sn=>rw[amD h] at b;exact abj b
theorem arv{I:Nat->Nat->Prop}{ρ:Nat->Nat}{N:Nat}{k:MK}{v:V}{x:k.K}{cv:Value}(h:k.dkey v=some x)(b:VRel I ρ N w v cv):cv=k.keyV x:=by
 cases k with
 |pb=>
  rw[aE7 h] at b;cases b with
  |agg _ vs d _ _ c=>
   obtain⟨l⟩:=vs;match l,d,c with
   | [u,e],_,c=>rw[(abj (c 0 _ u rfl rfl)).1,(abj (c 1 _ e rfl rfl)).1];rfl
 |bs=>rw[az3 h] at b;exact(abj b).1
 |bn=>rw[az3 h] at b;exact(abj b).1
 |ib=>rw[amD h] at b;exact(abj b).1
 |sn=>rw[aw8 h] at b;exact(aEh b).1
theorem au4{b:TypeId}{k:MK}(h:ph P b k=true)(c:k≠.pb)(x y:k.K):∃d,P.underlying b=some d∧DY d (k.keyV x) (k.keyV y)=some (decide (x=y)):=by
 have num:∀(k:IntKind)(x y:Int)(_:Decidable (x=y)),DY (.int k) (.int k x) (.int k y)=some (decide (x=y)):=λk x y _=>by simp only[DY,if_true,Ae];rw[BD,decide_eq_true_iff,beq_iff_eq]
 cases k with
 |pb=>exact absurd rfl c
 |sn=>
  unfold ph at h;split at h<;>first|contradiction|skip
  rename_i e;refine⟨_,e,?_⟩;simp only[MK.keyV,DY,Ae];rw[BD,decide_eq_true_iff,bytes_beq];constructor;·intro h;simpa using h
  ·rintro rfl;rfl
 |bs=>
     unfold ph at h;split at h<;>first|contradiction|skip
     rename_i e;exact⟨_,e,num _ _ _ _⟩
 |bn=>
     unfold ph at h;split at h<;>first|contradiction|skip
     rename_i e;exact⟨_,e,num _ _ _ _⟩
 |ib=>
     unfold ph at h;split at h<;>first|contradiction|skip
     rename_i e;exact⟨_,e,num _ _ _ _⟩
theorem oK{e:Nat}(c:nM P e=some false){xs:Array Value}{j:Nat}{u:Value}(b:xs[j]? =some u)(w:World):(part e xs j).run P w=.ok u w:=by simp[part,yw c,b]
theorem aJE{f:TypeId}(h:ph P f .pb=true):∃e,P.underlying f=some (.array 2 e)∧P.underlying e=some (.int .i64)∧gk P e=some 1∧nM P e=some false:=by
 unfold ph at h;split at h<;>first|contradiction|skip
 rename_i e _ i;simp only[Ac,beq_iff_eq] at h;obtain⟨j,b⟩:=h;have d:P.underlying e=some (.int .i64):=by
  unfold amy at b;split at b;·rename_i k' c;rw[c,of_decide_eq_true b]
  ·simp at b
 exact⟨e,i,d,j,by simp[nM,d]⟩
theorem aE8{e:TypeId}(v:P.underlying e=some (.int .i64))(f:nM P e=some false)(q:Nat)(a b c d:Int){xs ys:Array Value}(r:xs[0]? =some (.int .i64 a))(i:xs[1]? =some (.int .i64 b))(u:ys[0]? =some (.int .i64 c))(h:ys[1]? =some (.int .i64 d))(w:World):(Op.eqItems (q+1) e 1 xs ys [0,1]).run P w=.ok (decide ((a,b)=(c,d))) w:=by
 have head:∀(p j:Int)(w:World),(Op.equalIn (q+1) e (.int .i64 p) (.int .i64 j)).run P w=.ok (p==j) w:=by intro p j w;simp[Op.equalIn,run_underlying v]
 simp only[Op.eqItems,Dg,CI,oK f r,oK f i,oK f u,oK f h,CF,head];by_cases l:a=c
 ·subst l;by_cases k:b=d;·subst k;simp[oK f i,oK f h,head]
  ·simp[k,oK f i,oK f h,head]
 ·simp[l]
theorem aE9{l:TypeId}(h:ph P l .pb=true)(x y:MK.K .pb)(w:World):(Op.equal l (MK.keyV .pb x) (MK.keyV .pb y)).run P w=.ok (decide (x=y)) w:=by
 obtain⟨e,q,u,p,k⟩:=aJE h;obtain⟨inf,f,r⟩:∃i,P.info? e=some i∧i.size=1:=by unfold gk at p;obtain⟨i,f,h⟩:=Aq.1 p;exact⟨i,f,h⟩
 have j:P.cellsOf e=1:=by simp[Program.cellsOf,f,r]
 obtain⟨a,b⟩:=x;obtain⟨c,d⟩:=y;show (Op.equalIn (9999+1) l (.agg #[.int .i64 a,.int .i64 b]) (.agg #[.int .i64 c,.int .i64 d])).run P w=_;rw[run_equalIn_array w 9999 _ _ q f,j];exact aE8 u k 9998 a b c d rfl rfl rfl rfl w
def vL{k:MK}(es:List (k.K×k.T))(x:k.K)(i:Nat):Option (Nat×Value):=match ft es x with
 |some v=>some (i+qj es x,k.valV v)
 |none=>none
theorem aqC{k:MK}(e:k.K×k.T)(es:List (k.K×k.T))(x:k.K)(i:Nat):vL (e::es) x i=if e.1=x then some (i,k.valV e.2) else vL es x (i+1):=by
 unfold vL;by_cases h:e.1=x;·simp[ft,qj,h]
 ·simp only[ft,qj,h,if_false];split
  ·congr 2;omega
  ·rfl
theorem agX{E:TypeId}{k:MK}(h:ph P E k=true){es:List (k.K×k.T)}{ents:Array MapEntry}{clock:Nat}(y:wz es ents clock)(x:k.K):(Instr.findKey E (k.keyV x) ents.toList).run P w=.ok (vL es x 0) w:=by
 have r:∀(i:Nat) e c,es[i]? =some e->ents.toList[i]? =some c->c.key=k.keyV e.1∧c.val=k.valV e.2:=λi e c u q=>by obtain⟨-,a,b, -⟩:=y.2.2 i e c u (by simpa using q);exact⟨a,b⟩
 have p:es.length=ents.toList.length:=by simpa using y.1
 generalize ents.toList=l at p r;by_cases C:k=.pb
 ·subst C;rw[run_findKey_eq w ?_ (MK.keyV .pb x) l]
  ·clear y;generalize 0=i;induction es generalizing l i with
   |nil=>have:l=[]:=Bw p.symm;subst this;simp[Instr.findAsking,vL,ft]
   |cons e es z=>
    cases l with
    |nil=>simp at p
    |cons c l=>
     obtain⟨B,A⟩:=r 0 e c rfl rfl;rw[Instr.findAsking,B,A,aqC];simp only[Dg,aE9 h,CF];by_cases f:e.1=x;·simp[f]
     ·rw[if_neg f,if_neg (by simpa using λe=>f e.symm)];exact z l (by simpa using p) (λj e c u q=>r (j+1) e c (by simpa using u) (by simpa using q)) (i+1)
  ·unfold ph at h;split at h<;>first|contradiction|skip
   rename_i e _ F;rw[F]
 ·obtain⟨d,D, -⟩:=au4 h C x x;refine Go.MapKept.run_findKey D ?_;clear y;generalize 0=i;induction es generalizing l i with
  |nil=>have:l=[]:=Bw p.symm;subst this;simp[Instr.findNow,vL,ft]
  |cons e es z=>
   cases l with
   |nil=>simp at p
   |cons c l=>
    obtain⟨B,A⟩:=r 0 e c rfl rfl;obtain⟨H,v,G⟩:=au4 h C x e.1;rw[D] at v;obtain rfl:=AG v;rw[Instr.findNow,B,A,aqC,G];by_cases f:e.1=x;·simp[f]
    ·rw[if_neg f,decide_eq_false (λe=>f e.symm)];exact z l (by simpa using p) (λj e c u q=>r (j+1) e c (by simpa using u) (by simpa using q)) (i+1)
theorem aCZ{e:Nat}(l:P.underlying e=some (.int .i64))(d:nM P e=some false)(j:gk P e=some 1)(f:Bool)(q:Nat)(a b:Int){xs:Array Value}(k:xs[0]? =some (.int .i64 a))(h:xs[1]? =some (.int .i64 b)):
  (forIn [0,1] PUnit.unit λi r=>do Cu f (q+1) e (<-part e xs (i*(<-sizeOf e)));pure (ForInStep.yield PUnit.unit):Sem PUnit).run P w=.ok PUnit.unit w:=by
 have c:∀(p:Int)(w:World),(Cu f (q+1) e (.int .i64 p)).run P w=.ok () w:=by intro p w;simp[Cu,run_underlying l]
 simp only[List.forIn_cons,List.forIn_nil,Dg,mw j,CF,CI,oK d k,oK d h,c,Sem.run_pure]
theorem aFa{f:TypeId}(h:ph P f .pb=true)(a b:Int)(d:Bool)(q:Nat):(Cu d (q+2) f (.agg #[.int .i64 a,.int .i64 b])).run P w=.ok () w:=by obtain⟨e,i,k,j,c⟩:=aJE h;have:=aCZ (w:=w) k c j d q a b (xs:= #[.int .i64 a,.int .i64 b]) rfl rfl;rw[Cu];simp only[Dg,run_underlying i,CF];simp only[Std.Legacy.Range.forIn_eq_forIn_range',Std.Legacy.Range.size,Nat.sub_zero,Nat.add_one_sub_one,Nat.div_one];have r:Da 0 2 1=[0,1]:=rfl;rw[r];simp at this ⊢;rw[this];rfl
theorem aGw{c:TypeId}{k:MK}(h:ph P c k=true)(b:k≠.pb)(x:k.K)(f:Bool)(q:Nat):(Cu f (q+1) c (k.keyV x)).run P w=.ok () w:=by
 obtain⟨d,i,j⟩:=au4 h b x x;cases k<;>first|exact absurd rfl b|skip
 all_goals
  unfold ph at h;split at h<;>first|contradiction|skip
  rename_i e;simp[Cu,run_underlying e,MK.keyV]
theorem aeE{c:TypeId}{k:MK}(h:ph P c k=true)(x:k.K)(b:Bool):(Cu b 10000 c (k.keyV x)).run P w=.ok () w:=by
 by_cases d:k=.pb;·subst d;exact aFa h x.1 x.2 b 9998
 ·exact aGw h d x b 9999
theorem aIe(k:MK)(x:k.K)(q:Nat):Dh (q+2) (k.keyV x) (k.keyV x)=true:=by
 cases k with
 |pb=>simp[MK.keyV,Dh]
 |sn=>exact(bytes_beq _ _).2 rfl
 |_=>simp[MK.keyV,Dh]
theorem aGx(k:MK)(x:k.K):Dh 10000 (k.keyV x) (k.keyV x)=true:=aIe k x 9998
theorem aGy{k:MK}{es:List (k.K×k.T)}{x:k.K}{v:k.T}(h:ft es x=some v):es[qj es x]? =some (x,v):=by
 induction es with
 |nil=>simp[ft] at h
 |cons e es c=>
  simp only[ft] at h;by_cases b:e.1=x;·rw[if_pos b] at h;obtain rfl:=AG h;subst b;simp[qj]
  ·rw[if_neg b] at h;simp only[qj,if_neg b];simpa using c h
theorem aIf{k:MK}{es:List (k.K×k.T)}{x:k.K}{v u:k.T}(h:ft es x=some v):ng es x u=es.set (qj es x) (x,u):=by
 induction es with
 |nil=>simp[ft] at h
 |cons e es c=>
  simp only[ft] at h;by_cases b:e.1=x;·simp[ng,qj,b]
  ·rw[if_neg b] at h;simp[ng,qj,b,c h]
theorem aGz{k:MK}{es:List (k.K×k.T)}{x:k.K}{u:k.T}(h:ft es x=none):ng es x u=es++[(x,u)]∧qj es x=es.length:=by
 induction es with
 |nil=>simp[ng,qj]
 |cons e es c=>
  simp only[ft] at h;by_cases b:e.1=x;·simp[b] at h
  ·rw[if_neg b] at h;obtain⟨f,d⟩:=c h;simp[ng,qj,b,f,d]
theorem wz.set{k:MK}{es:List (k.K×k.T)}{ents:Array MapEntry}{clock:Nat}(h:wz es ents clock){i:Nat}{x:k.K}{v:k.T}(q:k.okT v):
  wz (es.set i (x,v)) (ents.modify i λe=>{e with key:=k.keyV x,val:=k.valV v}) clock:=by
 refine⟨by simp[h.1],by simp[h.2.1],?_⟩;intro j e p b c;rw[Ay] at b;rw[Cz] at c;by_cases f:i=j
 ·subst f;rw[if_pos rfl] at b c;split at b;·cases b;rw[Aq] at c;obtain⟨l,r,rfl⟩:=c;rename_i d;exact⟨(h.2.2 _ _ _ (Ah d) r).1,rfl,rfl,q⟩
  ·simp at b
 ·rw[if_neg f] at b c;exact h.2.2 j e p b c
theorem wz.push{k:MK}{es:List (k.K×k.T)}{ents:Array MapEntry}{clock:Nat}(h:wz es ents clock){x:k.K}{v:k.T}(l:k.okT v):
  wz (es++[(x,v)]) (ents.push {key:=k.keyV x,val:=k.valV v,born:=clock}) (clock+1):=by
 refine⟨by simp[h.1],by simp[h.2.1],?_⟩;intro j e i b d;rcases AH j es.length with f|f;·rw[Ax f] at b;rw[DK,if_neg (by rw[<-h.1];omega)] at d;exact h.2.2 j e i b d
 ·rw[Au f] at b;have p:j-es.length=0:=by
   have:=(Ag.1 b).1;simp at this;omega
  rw[p] at b;simp at b;subst b;have c:j=ents.size:=by rw[<-h.1];omega
  rw[DK,if_pos c] at d;obtain rfl:=AG d;exact⟨by rw[h.2.1];exact c.symm,rfl,rfl,l⟩
theorem az5{id:Nat}{k:MK}{es:List (k.K×k.T)}(c:s.mapO id=some ⟨k,es⟩):s.hp[id]? =some (some [.mp k es]):=by
 unfold St.mapO at c;split at c
 ·rename_i k' e b;cases c;rw[Ar] at b;cases d:s.hp[id]? with
  |none=>rw[d] at b;simp at b
  |some x=>rw[d] at b;simp at b;rw[b]
 ·simp at c
theorem SR.putMap(h:SR g s w a){id:Nat}{k:MK}{es x:List (k.K×k.T)}(ho:s.mapO id=some ⟨k,es⟩){ents i:Array MapEntry}{clock d:Nat}(Z:w.heap[g.ρ id]? =some (.map ents clock))(hm:wz x i d):
  SR g (s.setObj id [.mp k x]) {w with heap:=w.heap.setIfInBounds (g.ρ id) (.map i d)} a∧FR g s.hp w g (s.hp.set id (some [.mp k x])) {w with heap:=w.heap.setIfInBounds (g.ρ id) (.map i d)}:=by
 have r:=az5 ho;obtain⟨q1,L⟩:=Go.MapKept.heap_set (o':=.map i d) Z;let w':World:={w with heap:=w.heap.setIfInBounds (g.ρ id) (.map i d)}
 have W:w'.heap.size=w.heap.size:=by simp[w']
 have M:∀b j,g.I b j->b≠g.ρ id:=by rintro b j A rfl;exact h.hr.notI id _ r j A
 have B:∀b j,g.I b j->w'.cell? ⟨b,j,none⟩=w.cell? ⟨b,j,none⟩:=by intro b j A;simp only[w',BM,L b (M b j A)]
 have u:Up g.I g.ρ s.hp.length w g.I g.ρ s.hp.length w':=⟨λ_ _ h=>h,B,λ_ _=>rfl,Ap _⟩
 have D:∀G v cv,aO g w G v cv->aO g w' G v cv:=by intro G v cv O;refine dC O rfl (λb j A=>⟨u.mono b j A,u.cell b j A⟩) ?_;intro b C;refine⟨C,L b ?_,λj hj=>hj⟩;rintro rfl;rw[h.hr.notO id _ r] at C;simp at C
 have hl:id<s.hp.length:=(Ag.1 r).1;have split:∀(f:Nat) o',(s.hp.set id (some [V.mp k x]))[f]? =some (some o')->(f=id∧o'=[V.mp k x])∨(f≠id∧s.hp[f]? =some (some o')):=by
  intro f o' l;rw[Ay] at l;split at l;·rename_i e;simp[hl] at l;exact .inl ⟨e.symm,l.symm⟩
  ·rename_i e;exact .inr ⟨λe'=>e e'.symm,l⟩
 have z:∀(f:Nat) o',(s.hp.set id (some [V.mp k x]))[f]? =some (some o')->∃E,s.hp[f]? =some (some E):=by
  intro f o' l;rcases split f o' l with⟨rfl,_⟩|⟨_,l⟩
  ·exact⟨_,r⟩
  ·exact⟨_,l⟩
 refine⟨⟨⟨?_,?_,?_,?_,?_,?_⟩,⟨h.er.size,?_,?_⟩⟩,⟨rfl,rfl,rfl,rfl,by rw[W];exact Ap _,?_,?_,λ_ _ _ _ _ A=>A,λ_ _ _ Y=>Y,?_⟩⟩
 ·intro f o' l;simp only[St.setObj,AR];rcases split f o' l with⟨rfl,rfl⟩|⟨F,l⟩
  ·exact⟨by simp[lM],λq ai J=>by cases J;exact⟨i,d,q1,hm⟩⟩
  ·refine(h.hr.obj f o' l).keep ?_ λS e2 X y q=>⟨q.len,q.plain,q.typedUp rfl u.rho u.num rfl,q.cold,q.one,λj c cv J p=>(q.rel j c cv J p).up u,λj c cv J p=>D _ _ _ (q.own j c cv J p),q.bn⟩
   exact L _ (h.hr.apart f id o' _ l r F)
 ·intro id1 N H c2 y q F;obtain⟨_,y⟩:=z id1 H y;obtain⟨_,q⟩:=z N c2 q;exact h.hr.apart _ _ _ _ y q F
 ·intro id1 H y;obtain⟨_,y⟩:=z id1 H y;exact h.hr.notI _ _ y
 ·intro id1 H y;obtain⟨_,y⟩:=z id1 H y;exact h.hr.notO _ _ y
 ·intro b j A;have:=B b j A;rw[this];exact h.hr.exI b j A
 ·intro b oc C;rw[W];exact h.hr.oLt b oc C
 ·intro n v cv l p;simp only[St.setObj,AR];exact(h.er.rel n v cv l p).up u
 ·intro n v cv l p;exact D _ _ _ (h.er.own n v cv l p)
 ·intro b _ R _;exact L b (λe=>R id _ r e.symm)
 ·simp only[AR];exact u
 ·intro f o' l;obtain⟨E,l⟩:=z f o' l;exact .inl ⟨E,l⟩
theorem SR.newMap(h:SR g s w a)(k:MK)(d:Nat):
  ∃g',SR g' {s.set d (.mr s.hp.length) with hp:=s.hp++[some [.mp k []]]} (w.alloc (.map #[] 0)) (a.put (some d) (.map (some w.heap.size)))∧
   FR g s.hp w g' (s.hp++[some [.mp k []]]) (w.alloc (.map #[] 0)):=by
 obtain⟨Y,J,f3⟩:=my w (.map #[] 0);let w':=w.alloc (.map #[] 0);let g':Gh:={g with ρ:=λid=>if id=s.hp.length then w.heap.size else g.ρ id}
 have B:∀b j,g.I b j->b<w.heap.size:=by intro b j l;obtain⟨v,hv⟩:=BG.1 (h.hr.exI b j l);exact B3 _ _ hv
 have r:∀b j,b<w.heap.size->w'.cell? ⟨b,j,none⟩=w.cell? ⟨b,j,none⟩:=by intro b j A;simp only[w',BM,J b A]
 have u:Up g.I g.ρ s.hp.length w g'.I g'.ρ (s.hp++[some [V.mp k []]]).length w':=
  ⟨λb j l=>l,λb j l=>r b j (B b j l),λid e=>by simp[g',Bu e],by simp⟩
 have E:∀(id:Nat) cs,s.hp[id]? =some (some cs)->g.ρ id<w.heap.size:=by intro id cs e;exact(h.hr.obj id cs e).lt
 have x:∀z v cv,aO g w z v cv->aO g' w' z v cv:=by intro z v cv ho;refine dC ho rfl (λb j l=>⟨u.mono b j l,u.cell b j l⟩) ?_;intro b A;exact⟨A,J b (h.hr.oLt b z A),λj hj=>hj⟩
 have split:∀(id:Nat) o,(s.hp++[some [V.mp k []]])[id]? =some (some o)->(id<s.hp.length∧s.hp[id]? =some (some o))∨(id=s.hp.length∧o=[V.mp k []]):=by
  intro id o e;rcases AH id s.hp.length with l|l;·rw[Ax l] at e;exact .inl ⟨l,e⟩
  ·rw[Au l] at e;have L:id-s.hp.length=0:=by
    rcases Nat.eq_zero_or_pos (id-s.hp.length) with L|L;·exact L
    ·rw[Bj (by simp;omega)] at e;simp at e
   rw[L] at e;simp at e;exact .inr ⟨by omega,e.symm⟩
 have i:g'.ρ s.hp.length=w.heap.size:=by simp[g']
 have f:∀id,id<s.hp.length->g'.ρ id=g.ρ id:=λid e=>by simp[g',Bu e]
 have hs:SR g' {s with hp:=s.hp++[some [V.mp k []]]} w' a:=by
  refine⟨⟨?_,?_,?_,?_,?_,?_⟩,⟨h.er.size,?_,?_⟩⟩
  ·intro id o e;rcases split id o e with⟨l,e⟩|⟨rfl,rfl⟩
   ·refine(h.hr.obj id o e).keep ?_ λZ e' fz k1 q=>⟨q.len,q.plain,q.typedUp rfl u.rho u.num rfl,q.cold,q.one,λj c cv G p=>(q.rel j c cv G p).up u,λj c cv G p=>x _ _ _ (q.own j c cv G p),by rw[f id l];exact q.bn⟩
    rw[f id l];exact J _ (E id o e)
   ·refine⟨by simp[lM],λq ag G=>?_⟩;cases G;exact⟨#[],0,by rw[i];exact f3,rfl,rfl,by simp⟩
  ·intro id C o o' k1 q H;rcases split id o k1 with⟨l,R⟩|⟨X, -⟩<;>rcases split C o' q with⟨F,S⟩|⟨N, -⟩
   ·rw[f _ l,f _ F];exact h.hr.apart id C o o' R S H
   ·rw[f _ l,N,i];exact Bu (E id o R)
   ·rw[f _ F,X,i];exact(Bu (E C o' S)).symm
   ·exact absurd (X.trans N.symm) H
  ·intro id o e j l;rcases split id o e with⟨y,e⟩|⟨rfl,rfl⟩
   ·rw[f _ y] at l;exact h.hr.notI id o e j l
   ·rw[i] at l;have:=B _ _ l;omega
  ·intro id o e;rcases split id o e with⟨y,e⟩|⟨rfl,rfl⟩
   ·rw[f _ y];exact h.hr.notO id o e
   ·rw[i];cases M:g.O w.heap.size with
    |none=>rfl
    |some W=>have:=h.hr.oLt _ _ M;omega
  ·intro b j l;rw[r b j (B b j l)];exact h.hr.exI b j l
  ·intro b W A;have:=h.hr.oLt b W A;show b<w'.heap.size;rw[Y];omega
  ·intro n v cv D p;exact(h.er.rel n v cv D p).up u
  ·intro n v cv D p;exact x _ _ _ (h.er.own n v cv D p)
 refine⟨g',?_,rfl,rfl,rfl,rfl,by rw[Y];omega,λb A _ _=>J b A,u,λb j _ _ _ l=>l,λb _ _ M=>M,?_⟩
 ·have:=hs.set d (v:=.mr s.hp.length) (cv:=.map (some w.heap.size)) (by
   rw[<-i];exact .mr _ (by simp)) (by simp[aO])
  exact this
 ·intro id o e;rcases split id o e with⟨y,e⟩|⟨rfl,rfl⟩
  ·exact .inl ⟨o,e⟩
  ·exact .inr ⟨Ap _,.inl (by rw[i];exact Ap _)⟩
theorem aLp{d:Nat}{k:MK}(b:acj P (.mkm d k) m=true)(i:step Γ (.mkm d k) s=some (true,s'))(h:SR g s w a)(f:dp g s w a s' next):m.wp P a w next Q:=by
 obtain⟨dst,l,p,c,e,j⟩:=m;simp only[acj,Ac,beq_iff_eq] at b;obtain⟨rfl,b⟩:=b;split at b
 ·obtain rfl:_=s':=by simpa [step] using i
  exact fj rfl (w':=w.alloc (.map #[] 0)) (cv:=.map (some w.heap.size)) (by simp[execOp,Instr.makeMap]) (h.newMap k d) f
 ·simp at b
theorem aw9(h:SR g s w a){id:Nat}{k:MK}{es:List (k.K×k.T)}(b:s.mapO id=some ⟨k,es⟩):∃ents clock,w.heap[g.ρ id]? =some (.map ents clock)∧wz es ents clock:=(h.hr.obj id _ (az5 b)).map k es rfl
theorem az6{I:Nat->Nat->Prop}{ρ:Nat->Nat}{N:Nat}(k:MK)(ok:Bool)(r:Option k.T)(h:∀v,r=some v->k.okT v):VRel I ρ N w (amu k ok r) (if ok then .tuple #[k.valV (r.getD k.zero),.bool r.isSome] else k.valV (r.getD k.zero)):=by
 have e:VRel I ρ N w (k.val (r.getD k.zero)) (k.valV (r.getD k.zero)):=aIb k _ (by
  cases r with
  |none=>exact aIc k
  |some v=>exact h v rfl)
 cases ok with
 |false=>exact e
 |true=>
  refine .tup _ _ rfl ?_;intro i c cv d b;match i with
  |0=>simp at d b;subst d b;exact e
  |1=>simp at d b;subst d b;exact .bool _
  |i+2=>simp at d
theorem az7(g:Gh)(w:World)(b:Occ)(k:MK)(ok:Bool)(r:Option k.T)(cv:Value):aO g w b (amu k ok r) cv:=by
 cases ok;·cases k<;>simp[amu,MK.val,aO]
 ·simp[amu,aO]
theorem aEi{k:MK}{es:List (k.K×k.T)}{ents:Array MapEntry}{clock:Nat}(i:wz es ents clock){x:k.K}{v:k.T}(h:ft es x=some v):qj es x<es.length∧k.okT v∧∃e,ents[qj es x]? =some e∧e.key=k.keyV x∧e.val=k.valV v∧e.born=qj es x:=by have l:=aGy h;have f:=(Ag.1 l).1;have j:ents[qj es x]? =some (ents[qj es x]'(by rw[<-i.1];exact f)):=Am _;obtain⟨a,b,c,d⟩:=i.2.2 _ _ _ l j;exact⟨f,d,_,j,b,c,a⟩
theorem aJY{d:Nat}{k:MK}{ok:Bool}{x y:ASrc}(i:acj P (.mget d k ok x y) m=true)(b:step Γ (.mget d k ok x y) s=some (true,s'))(h:SR g s w a)(E:dp g s w a s' next):m.wp P a w next Q:=by
 obtain⟨dst,op,X,F,J,W⟩:=m;simp only[acj,Ac,beq_iff_eq] at i;obtain⟨rfl,i⟩:=i;split at i
 ·rename_i t O y' S;simp only[Ac,beq_iff_eq] at i;obtain⟨M,rfl,G,N⟩:=i;obtain⟨Z,e,B,p,A⟩:=aqB M;have l:=bD G h.er;have C:=bD N h.er;generalize j:a.eval O=Y at l;simp only[step] at b;split at b
  ·rename_i r;rw[r] at l;cases l;simp only[Aq] at b;obtain⟨key,z,b⟩:=b;obtain rfl:_=s':=by simpa using b
   have f:=arv z C;have c:=aeE (w:=w) p key true;have q:=agX (P:=P) (w:=w) p (k:=k) (es:=[]) (ents:= #[]) (clock:=0) ⟨rfl,rfl,by simp⟩ key;refine fj rfl (w':=w) (cv:=if ok then .tuple #[k.valV k.zero,.bool false] else k.valV k.zero) ?_ ⟨g,h.set d (az6 k ok none (by simp)) (az7 _ _ _ _ _ _ _),FR.refl _ _ _⟩ E;simp[execOp,Instr.lookup,run_underlying B,j,f,c,vL,ft,A w] at q ⊢;rw[q];simp[A w]
  ·rename_i id r;rw[r] at l;cases l;split at b
   ·rename_i k' es I;split at b
    ·rename_i u;subst u;simp only[Aq] at b;obtain⟨key,z,b⟩:=b;obtain rfl:_=s':=by simpa using b
     have f:=arv z C;obtain⟨ents,clock,H,D⟩:=aw9 h I;have c:=aeE (w:=w) p key ents.isEmpty;have q:=agX (P:=P) (w:=w) p D key;refine fj rfl (w':=w) (cv:=if ok then .tuple #[k'.valV ((ft es key).getD k'.zero),.bool (ft es key).isSome] else k'.valV ((ft es key).getD k'.zero)) ?_ ⟨g,h.set d (az6 k' ok _ (λv L=>(aEi D L).2.1)) (az7 _ _ _ _ _ _ _),FR.refl _ _ _⟩ E;simp only[execOp,Instr.lookup,j,f,Dg,run_underlying B,Go.MapKept.run_getObj_map H,CF,Sem.run_pure,c,q];unfold vL;cases R:ft es key with
     |none=>simp[A w]
     |some v=>simp
    ·simp at b
   ·simp at b
  ·simp at b
 ·simp at i
theorem keeps{c b:Value}(h:Dh 10000 c b=true)(w:World):(Instr.keyThatStays c b).run P w=.ok b w:=by simp[Instr.keyThatStays,h]
theorem aJZ{d:Option Nat}{k:MK}{x y z:ASrc}(f:acj P (.mput d k x y z) m=true)(l:step Γ (.mput d k x y z) s=some (true,s'))(h:SR g s w a)(Z:dp g s w a s' next):m.wp P a w next Q:=by
 obtain⟨dst,W,I,u,B,H⟩:=m;simp only[acj,Ac,beq_iff_eq] at f;obtain⟨rfl,f⟩:=f;have p:∀t q C D,(∀ρ:Operand->Value,execOp ρ ⟨dst,W,I,u,B,H⟩=(do DJ t (ρ q) (ρ C) (ρ D);pure .skip))->ai4 P t k=true->bw x q=true->bw y C=true->bw z D=true->(⟨dst,W,I,u,B,H⟩:Oper).wp P a w next Q:=by
  intro t q C D J h1 h2 h3 h4;obtain⟨kt,e,X,ht,hz⟩:=aqB h1;have N:=bD h2 h.er;have r2:=bD h3 h.er;have r3:=bD h4 h.er;generalize M:a.eval q=cx at N;simp only[step] at l;split at l
  ·rename_i id hx;rw[hx] at N;cases N;split at l
   ·rename_i k' es ho;split at l
    ·rename_i S;subst S;split at l
     ·rename_i key v hk hv;obtain rfl:_=s':=by simpa using l
      have R:=arv hk r2;obtain⟨O,F⟩:=aId hv r3;obtain⟨ents,clock,E,G⟩:=aw9 h ho;have r:=aeE (w:=w) ht key false;have hf:=agX (P:=P) (w:=w) ht G key;have fin:∀c b A,wz A c b->A=ng es key v->(DJ t (.map (some (g.ρ id))) (k'.keyV key) (k'.valV v)).run P w=.ok () {w with heap:=w.heap.setIfInBounds (g.ρ id) (.map c b)}->(⟨dst,W,I,u,B,H⟩:Oper).wp P a w next Q:=by
       rintro c b A L rfl hr;obtain⟨Y,p2⟩:=h.putMap ho E L;unfold Oper.wp Dy;rw[J,M,R,O];simp only[Dg,hr,CF,Sem.run_pure];cases dst with
       |none=>exact Z _ _ g Y p2 rfl
       |some d=>exact Z _ _ g (Y.set d (.undef _) (by simp[aO])) p2 rfl
      cases j:ft es key with
      |some v0=>obtain⟨b1,b2,en,b3,b4,b5,b6⟩:=aEi G j;refine fin _ _ _ (G.set (i:=qj es key) (x:=key) F) (aIf j).symm ?_;simp[DJ,run_underlying X,Go.MapKept.run_getObj_map E,r,hf,vL,j,b3,b4,keeps (aGx k' key),Go.MapKept.run_setObj_map _ E]
      |none=>refine fin _ _ _ (G.push (x:=key) F) (aGz j).1.symm ?_;simp[DJ,run_underlying X,Go.MapKept.run_getObj_map E,r,hf,vL,j,Go.MapKept.run_setObj_map _ E]
     ·simp at l
    ·simp at l
   ·simp at l
  ·simp at l
 split at f;·rename_i t q C D;simp only[Ac] at f;exact p t q C D (λρ=>by simp[execOp]) f.1 f.2.1 f.2.2.1 f.2.2.2
 ·rename_i t q C D;simp only[Ac] at f;exact p t q C D (λρ=>by simp[execOp]) f.1 f.2.1 f.2.2.1 f.2.2.2
 ·simp at f
end
end
def az8(P:Program)(o:IOp)(m:Oper):Bool:=
 match o with
 | .ixe d n x i=>(m.dst==some d)&&(match m.op with| .indexAddr t c b=>(match P.underlying t with|some (.array len e)=>(len==n)&&(gk P e==some 1)|_=>false)&&(bw x c&&bw i b)|_=>false)
 | .apo d k x y=>ac8 P (.apu d k x y) m
 |_=>false
section
variable{w w':World}{g g':Gh}{s s':St}{a:Act}{P:Program}{Γ:aI}{m:Oper}{next:Act->World->Prop}{Q:Exit->Act->World->Prop}
theorem aLq{d n:Nat}{x i:ASrc}(v:az8 P (.ixe d n x i) m=true)(l:step Γ (.ixe d n x i) s=some (true,s'))(h:SR g s w a)(L:dp g s w a s' next):m.wp P a w next Q:=by
 obtain⟨dst,op,ty,O,X,gd⟩:=m;simp only[az8,Ac,beq_iff_eq] at v;obtain⟨rfl,v⟩:=v;split at v
 ·rename_i t N M;simp only[Ac] at v;obtain⟨u,R,Z⟩:=v;have A:=bD R h.er;have y:=bD Z h.er;split at u
  ·rename_i len e J;simp only[Ac,beq_iff_eq] at u;obtain⟨rfl,u⟩:=u;simp only[step] at l;split at l
   ·rename_i cs S k G H;simp only[Ae,Al,Ac,decide_eq_true_eq] at l;obtain⟨⟨F,C⟩,rfl⟩:=l;rw[G] at A;rw[H] at y;generalize r:a.eval N=cv at A;generalize p:a.eval M=W at y;cases y;cases A with
    |ea _ b o f Y hI hw B=>
     refine bv h rfl (cv:=.pointer (some ⟨b,o+k.toNat,none⟩)) ?_ ?_ rfl L;·simp[execOp,r,p,D1,Ce,asIntOf,run_underlying J,F,C,mw u,B0]
     ·refine .ea _ _ _ (λj=>f (k.toNat+j)) (λc D=>Y c (BL D)) ?_ ?_ ?_
      ·intro j z;simp only[AT] at z;have:=hI (k.toNat+j) (by omega)
       rwa [CC]
      ·intro j z;simp only[AT] at z;have:=hw (k.toNat+j) (by omega)
       rwa [CC]
      ·intro j c z;rw[Bq] at z;exact B _ c z
   ·rename_i id q S k G H;split at l
    ·rename_i hk;simp only[Ae,Al,Ac,decide_eq_true_eq] at l;obtain⟨⟨F,C⟩,rfl⟩:=l;rw[G] at A;rw[H] at y;generalize r:a.eval N=cv at A;generalize p:a.eval M=W at y;cases y;cases A with
     |wp _ _ _ _ E=>have B:=VRel.wp (I:=g.I) (ρ:=g.ρ) (w:=w) id q k.toNat 0 E;rw[hk,CI,Ck] at B;refine bv h rfl (cv:=.pointer (some ⟨g.ρ id,k.toNat,none⟩)) ?_ B rfl L;simp[execOp,r,p,D1,Ce,asIntOf,run_underlying J,F,C,mw u,B0]
    ·simp at l
   ·simp at l
  ·simp at u
 ·simp at v
theorem aLr{d:Nat}{k:EK}{x y:ASrc}(f:g.β=lN P)(q:az8 P (.apo d k x y) m=true)(b:step Γ (.apo d k x y) s=some (true,s'))(h:SR g s w a)(D:dp g s w a s' next):m.wp P a w next Q:=by
 have q:ac8 P (.apu d k x y) m=true:=q;simp only[step] at b;split at b
 ·rename_i R l e O c G M;split at b
  ·rename_i L;split at b
   ·rename_i u;subst L u;split at b;case isFalse=>cases b
    rename_i B;simp only[Ae,Al,Ac,decide_eq_true_eq] at b;obtain⟨⟨C,v⟩,rfl⟩:=b;have r:(x.after s).hp=s.hp:=by cases x<;>rfl
    have p:(x.after s).env.length=s.env.length:=by cases x<;>simp[ASrc.after,St.set]
    refine aGm (s':=(x.after s).set d (.ul e (l++c))) (Γ:=Γ) f q ?_ h ?_;·simp only[step,G,M];simp[C]
    ·intro J w' g' z N E;have F:(jJ.opn (.slot d)).step ((x.after s).set d (.ul e (l++c)))=some (true,{(x.after s).set d (.sw e s.hp.length (l++c).length) with hp:=s.hp++[some [.rw e (l++c)],none]}):=by
      have H:((x.after s).set d (.ul e (l++c))).get d=.ul e (l++c):=by simp[St.get,St.set,Ar,p,B]
      have j:((x.after s).set d (.ul e (l++c))).hp=s.hp:=r;simp only[jJ.step,St.at?,H,St.put?,j];have:0<(l++c).length:=v;simp only[this,decide_true,St.set,List.set_set,r]
     obtain⟨i,I,A⟩:=aw7 z F;exact D J w' i I (N.trans A) E
   ·simp at b
  ·simp at b
 ·simp at b
end
def aeF:List ASrc->List Operand->Bool
 | [],[]=>true
 |x::xs,y::ys=>bw x y&&aeF xs ys
 |_,_=>false
def az9:Op->Option (FuncId×List Operand)
 | .call c=>match c.callee with| .value (.func f)=>some (f,c.args.toList)|_=>none
 |_=>none
def aAa:Op->Option (Operand×List Operand)
 | .call c=>match c.callee with| .value (.tmp n)=>some (.tmp n,c.args.toList)|_=>none
 |_=>none
def as4(P:Program)(f:FuncId):Bool:=match P.funcs[f]? with|some fn=>fn.body.isSome&&fn.name !="runtime.NumGoroutine"|none=>false
def aeu(P:Program)(o:IOp)(m:Oper):Bool:=
 match o with
 | .call d f avs=>(m.dst==d)&&(match az9 m.op with|some (c,b)=>(f==c)&&(aeF avs b&&as4 P f)|none=>false)
 | .dcall d f x avs=>(m.dst==d)&&(match aAa m.op with|some (e,b)=>bw x e&&(aeF avs b&&as4 P f)|none=>false)
 |_=>false
def aFb(P:Program)(o:IOp)(m:Oper):Bool:=ce P o m||rq P o m||aeu P o m||pD P o m||api P o m||aEg P o m||yA P o m||ac8 P o m||acj P o m||az8 P o m||aLo P o m
def au5(P:Program)(c:Array Oper)(x:GOp)(m:Oper):Bool:=
 aFb P x.o m&&(x.o.dst==m.dst)&&(match x.g,m.guard with
  |none,none=>true
  |some (n,b),some (j,d)=>(b==d)&&((c[j]?).bind (·.dst)==some n)
  |_,_=>false)
def abY(P:Program)(b:Array Oper):Nat->List GOp->Bool
 |i,[]=>i==b.size
 |i,x::l=>(match b[i]? with|some m=>au5 P b x m|none=>false)&&abY P b (i+1) l
def aev(P:Program)(d:List Nat)(c:Array Oper)(l:List GOp)(b:List (List Nat)):Bool:=
 (P.follows .mixedOrders&&abY P c 0 l)&&((BR l.length).all λj=>
  (match c[j]? with
   |some m=>m.after.toList.all (λe=> !Region.binds .any e||decide (e.on<j))&&(b.getD j []).all (λi=>m.after.toList.any λe=>Region.binds .any e&&(e.on==i||(b.getD e.on []).contains i))
   |none=>false)&&
  (match l[j]? with
   |some x=>(BR j).all λi=>(b.getD j []).contains i||(match l[i]? with|some y=>asZ d y x|none=>false)
   |none=>false))
def bL(P:Program)(e:List Nat)(b:Nat):IR->Code->Bool
 | .bad,_=>true
 | .skip,.skip=>true
 | .skip,.label _=>true
 | .reg l _,.region _ f false=>abY P f 0 l
 | .reg l h,.region _ f true=>aev P e f l h
 | .seq x y,.seq c d=>bL P e b x c&&bL P e b y d
 | .cond v x y,.cond u c d=>bw v u&&(bL P e b x c&&bL P e b y d)
 | .block i x,.block j c=>i==j&&bL P e b x c
 | .loop _ n x,.loop c=>Nat.ble b n&&bL P e b x c
 | .cut _ n x,c=>Nat.ble b n&&bL P e b x c
 | .gh _ x,c=>bL P e b x c
 | .ope _ x,c=>bL P e b x c
 | .ghp _ x,c=>bL P e b x c
 | .exit i,.exit j=>i==j
 | .ret,.ret=>true
 |_,_=>false
def agY(P:Program)(g:Gh)(w:World):Prop:=g.β=lN P∧(au0≠[]->g.I agV 0∧g.O agV=none∧agV<w.heap.size∧∃t,w.heap[agV]? =some (.cells au0.toArray t (0,0)))
structure ai5(P:Program)(g:Gh)(hp:List aJ)(w:World):Prop where
 base:agY P g w
 notI:∀(id:Nat) cs,hp[id]? =some (some cs)->∀j,¬g.I (g.ρ id) j
theorem ai5.on{P:Program}{c g:Gh}{b hp:List aJ}{d w:World}(h:ai5 P c b d)(f:FR c b d g hp w):agY P g w:=by
 refine⟨f.beta.trans h.base.1,λi=>?_⟩;obtain⟨q,p,j,t,r⟩:=h.base.2 i;have l:∀(id:Nat) cs,b[id]? =some (some cs)->c.ρ id≠agV:=λid cs k e=>h.notI id cs k 0 (e▸q)
 exact⟨f.up.mono _ _ q,f.oSame _ j l p,AI j f.size,t,(f.block _ j l p).trans r⟩
theorem agY.sub{P:Program}{g b:Gh}{w:World}(h:agY P g w)(f:b.β=g.β)(e:g.I agV 0->b.I agV 0)(d:g.O agV=none->b.O agV=none):agY P b w:=
 ⟨f.trans h.1,λc=>have k:=h.2 c;⟨e k.1,d k.2.1,k.2.2⟩⟩
def gc(P:Program)(f:FuncId)(vs:List V)(hp:List aJ)(v:V)(hp':List aJ):Prop:=
 ∀(w:World)(g:Gh)(b:Array Value),agY P g w->HR g hp w->vs.length=b.size->(∀x∈vs,x.bare=true)->
  (∀(i:Nat) x cv,vs[i]? =some x->b[i]? =some cv->VRel g.I g.ρ hp.length w x cv)->
  Calls P f b w λe w'=>∃cv c,e=.returned cv∧HR c hp' w'∧FR g hp w c hp' w'∧VRel c.I c.ρ hp'.length w' v cv∧aO c w' .res v cv
def bB(P:Program)(Γ:aI):Prop:=∀f vs hp v hp',Γ f vs hp=some (true,v,hp')->gc P f vs hp v hp'
section
variable{w:World}{g:Gh}{s s':St}{a:Act}{P:Program}{Γ:aI}{m:Oper}{next:Act->World->Prop}{Q:Exit->Act->World->Prop}
theorem arw(h:ER g s.hp.length w s.env a.tmps):∀(xs:List ASrc)(ys:List Operand),aeF xs ys=true->xs.length=ys.length∧
  ∀(i:Nat) v cv,(xs.map λx=>disown (x.ev s))[i]? =some v->(ys.map a.eval)[i]? =some cv->VRel g.I g.ρ s.hp.length w v cv
 | [],[],_=>⟨rfl,by simp⟩
 |x::xs,y::ys,hp=>by
  simp only[aeF,Ac] at hp;obtain⟨e,d⟩:=arw h xs ys hp.2;refine⟨by simp[e],?_⟩;intro i v cv c b;cases i with
  |zero=>simp at c b;subst c b;exact(bD hp.1 h).disown
  |succ i=>exact d i v cv (by simpa using c) (by simpa using b)
 | [],_::_,hp=>by simp[aeF] at hp
 |_::_,[],hp=>by simp[aeF] at hp
theorem aC0{o:Op}{f:FuncId}{avs:List Operand}(h:az9 o=some (f,avs)):∃e,o=.call ⟨.value (.func f),⟨avs⟩,e⟩:=by
 unfold az9 at h;split at h
 ·rename_i c;obtain⟨b,⟨d⟩,i⟩:=c;simp only at h;split at h;·simp only[Ae,Al] at h;obtain⟨rfl,rfl⟩:=h;exact⟨_,rfl⟩
  ·simp at h
 ·simp at h
def Gh.hide(g:Gh):Gh:={g with O:=λb=>match g.O b with|some (.slot _)=>none|o=>o}
theorem HR.hide{hp:List aJ}(h:HR g hp w):HR g.hide hp w:=by
 refine⟨?_,h.apart,h.notI,?_,h.exI,?_⟩
 ·intro id cs f;refine(h.obj id cs f).keep rfl λq e x v d=>?_
  refine⟨d.len,d.plain,d.typed,d.cold,d.one,d.rel,?_,d.bn⟩;intro j c cv u k;have:=d.own j c cv u k;refine dC this rfl (λb j p=>⟨p,rfl⟩) ?_;intro b i;exact⟨by simp[Gh.hide,i],rfl,λj r=>r⟩
 ·intro id cs f;simp[Gh.hide,h.notO id cs f]
 ·intro b o i;cases l:g.O b with
  |none=>simp[Gh.hide,l] at i
  |some o'=>exact h.oLt b o' l
def Gh.back(g c:Gh)(dst:Option Nat):Gh:={I:=c.I,ρ:=c.ρ,β:=c.β,O:=λb=>match g.O b with
 |some (.slot n)=>some (.slot n)
 |_=>match c.O b with
  |some .res=>dst.map .slot
  |some (.slot _)=>none
  |o=>o}
theorem Gh.back_else{g d:Gh}{dst:Option Nat}{b:Nat}(h:∀n,g.O b≠some (.slot n)):(g.back d dst).O b=(match d.O b with
  |some .res=>dst.map .slot
  |some (.slot _)=>none
  |o=>o):=by
 cases c:g.O b with
 |none=>simp only[Gh.back,c]
 |some o=>
  cases o with
  |slot n=>exact absurd c (h n)
  |cell i j=>simp only[Gh.back,c]
  |res=>simp only[Gh.back,c]
theorem axa{hp':List aJ}{w':World}{r:Gh}{dst:Option Nat}{v:V}{cv:Value}(h:SR g s w a)(J:HR r hp' w')(y:FR g.hide s.hp w r hp' w')
  (q3:VRel r.I r.ρ hp'.length w' v cv) (W:aO r w' .res v cv):
  SR (g.back r dst) (St.setO {s with hp:=hp'} dst v) w' (a.put dst cv)∧FR g s.hp w (g.back r dst) hp' w':=by
 have q:∀b n,g.O b=some (.slot n)->g.hide.O b=none:=λb n f=>by simp[Gh.hide,f]
 have l:∀b n,g.O b=some (.slot n)->∀(id:Nat) cs,s.hp[id]? =some (some cs)->g.hide.ρ id≠b:=by intro b n f id cs x e;have:=h.hr.notO id cs x;rw[show g.ρ id=b from e,f] at this;simp at this
 have p:∀b o,r.O b=some o->∀n,g.O b≠some (.slot n):=by intro b o f n A;have:=y.oSame b (h.hr.oLt _ _ A) (l b n A) (q b n A);rw[this] at f;simp at f
 have G:∀b o,r.O b=some o->(∀n,o≠.slot n)->o≠.res->(g.back r dst).O b=some o:=by
  intro b o f L z;rw[Gh.back_else (p b o f),f];cases o with
  |slot n=>exact absurd rfl (L n)
  |cell i j=>rfl
  |res=>exact absurd rfl z
 have blk:∀b n,g.O b=some (.slot n)->w'.heap[b]? =w.heap[b]?∧∀j,r.I b j->g.I b j:=by intro b n f;have E:=h.hr.oLt _ _ f;exact⟨y.block b E (l b n f) (q b n f),λj S=>y.iSame b j E (l b n f) (q b n f) S⟩
 have up:Up g.I g.ρ s.hp.length w r.I r.ρ hp'.length w':=y.up;have hs:SR (g.back r dst) {s with hp:=hp'} w' a:=by
  refine⟨⟨?_,J.apart,J.notI,?_,J.exI,?_⟩,⟨h.er.size,?_,?_⟩⟩
  ·intro id cs x;refine(J.obj id cs x).keep rfl λN e fz L z=>?_
   refine⟨z.len,z.plain,z.typed,z.cold,z.one,z.rel,?_,z.bn⟩;intro j c cv hc C;refine dC (z.own j c cv hc C) rfl (λb j Y=>⟨Y,rfl⟩) ?_;intro b f;exact⟨G b _ f (by simp) (by simp),rfl,λj S=>S⟩
  ·intro id cs x;have h0:=J.notO id cs x;show (g.back r dst).O (r.ρ id)=none;by_cases B:∃n,g.O (r.ρ id)=some (.slot n)
   ·obtain⟨n,A⟩:=B;exfalso;rcases y.live id cs x with⟨F,H⟩|⟨_,H|H|⟨ab,aa,h5,h6⟩⟩
    ·have E:id<s.hp.length:=(Ag.1 H).1;rw[show r.ρ id=g.ρ id from y.up.rho id E,h.hr.notO id F H] at A;simp at A
    ·have:=h.hr.oLt _ _ A;omega
    ·exact H (q _ n A)
    ·exact l _ n A ab aa h5 h6
   ·rw[Gh.back_else (λn A=>B ⟨n,A⟩),h0]
  ·intro b o f;by_cases B:∃n,g.O b=some (.slot n);·obtain⟨n,A⟩:=B;have:=h.hr.oLt _ _ A;exact AI this y.size
   ·rw[Gh.back_else (λn A=>B ⟨n,A⟩)] at f;cases D:r.O b with
    |none=>rw[D] at f;simp at f
    |some o'=>exact J.oLt b o' D
  ·intro n v cv hv C;exact(h.er.rel n v cv hv C).up up
  ·intro n v cv hv C;refine dC (h.er.own n v cv hv C) y.beta (λb j Y=>⟨up.mono b j Y,up.cell b j Y⟩) ?_;intro b f;obtain⟨b1,b2⟩:=blk b n f;exact⟨by simp[Gh.back,f],b1,b2⟩
 have fr:FR g s.hp w (g.back r dst) hp' w':=by
  refine⟨y.beta,y.os,y.tape,y.output,y.size,?_,up,?_,?_,?_⟩;·intro b f R D;exact y.block b f R (by simp[Gh.hide,D])
  ·intro b j f R D S;exact y.iSame b j f R (by simp[Gh.hide,D]) S
  ·intro b f R D;have:=y.oSame b f R (by simp[Gh.hide,D]);rw[Gh.back_else (by simp[D]),this]
  ·intro id cs x;rcases y.live id cs x with H|⟨L,z|z|z⟩
   ·exact .inl H
   ·exact .inr ⟨L,.inl z⟩
   ·refine .inr ⟨L,.inr (.inl λh3=>z ?_)⟩;show (match g.O (r.ρ id) with|some (.slot _)=>none|o=>o)=none;rw[show g.O (r.ρ id)=none from h3]
   ·exact .inr ⟨L,.inr (.inr z)⟩
 refine⟨?_,fr⟩;cases dst with
 |none=>exact hs
 |some d=>
  refine hs.set d q3 ?_;cases v with
  |sl k o xs=>
   cases o with
   |may u=>simp[aO]
   |own=>
    cases cv with
    |slice M len cap=>
     cases M with
     |none=>simp[aO]
     |some M=>obtain⟨X,Z,o3⟩:=W;refine⟨?_,Z,o3⟩;rw[Gh.back_else (p _ _ X),X];rfl
    |_=>simp[aO]
  |raw n=>
   cases cv with
   |pointer M=>
    cases M with
    |none=>simp[aO]
    |some M=>obtain⟨X,Z,o3⟩:=W;refine⟨?_,Z,o3⟩;rw[Gh.back_else (p _ _ X),X];rfl
   |_=>simp[aO]
  |ul k xs=>
   rcases W with W|⟨b,cap,N,e,fz,m0,m1,m2,m3,m4,m5,m6,m7,m8,m9⟩
   ·exact .inl W
   ·refine .inr ⟨b,cap,N,e,fz,m0,m1,m2,m3,?_,m5,m6,m7,m8,m9⟩;rw[Gh.back_else (p _ _ m4),m4];rfl
  |_=>simp[aO]
theorem aJ0(E:bB P Γ)(z:agY P g w){d:Option Nat}{f:Nat}{avs:List ASrc}(k:aeu P (.call d f avs) m=true)(q:step Γ (.call d f avs) s=some (true,s'))(h:SR g s w a)(S:dp g s w a s' next):m.wp P a w next Q:=by
 obtain⟨dst,op,N,u,D,L⟩:=m;simp only[aeu,Ac,beq_iff_eq] at k;obtain⟨rfl,k⟩:=k;split at k
 ·rename_i f' b A;obtain⟨O,rfl⟩:=aC0 A;simp only[Ac,beq_iff_eq] at k;obtain⟨rfl,h1,l⟩:=k;simp only[step] at q;split at q
  ·rename_i c v hp' Y;simp only[Ae,Al] at q;obtain⟨rfl,rfl⟩:=q;obtain⟨k1,I⟩:=arw h.er avs b h1;have G:=E _ _ _ _ _ Y;unfold as4 at l;split at l
   ·rename_i fn r;simp only[Ac,bne_iff_ne,ne_eq] at l;obtain⟨H,J⟩:=l;have j:fn.body.isNone=false:=by cases hb:fn.body<;>simp_all
    have p:(execOp a.eval ⟨dst,.call ⟨.value (.func f),⟨b⟩,O⟩,N,u,D,L⟩).run P w=.ok (.enter f (b.map a.eval).toArray) w:=by simp[execOp,resolve,Act.eval,Deferred.ofValue,invoke,callFunc,r,J,j];intro F;rw[F] at H;simp at H
    unfold Oper.wp;rw[p,Oper.upon_enter];refine(G w g.hide (b.map a.eval).toArray (z.sub rfl (λh=>h) (λh=>by simp[Gh.hide,h])) h.hr.hide (by simp[k1]) (by intro x B;obtain⟨y,_,rfl⟩:=AD.1 B;exact eX _) (λi x cv B C=>I i x cv B (by simpa using C))).mono ?_;rintro e w' ⟨cv,g',rfl,M,q2,W,X⟩;simp only;obtain⟨Z,R⟩:=axa (dst:=dst) h M q2 W X;refine S _ _ _ Z ?_ (by cases dst<;>rfl);cases dst<;>exact R
   ·simp at l
  ·simp at q
 ·simp at k
theorem aC1{o:Op}{x:Operand}{avs:List Operand}(h:aAa o=some (x,avs)):∃e,o=.call ⟨.value x,⟨avs⟩,e⟩:=by
 unfold aAa at h;split at h
 ·rename_i c;obtain⟨b,⟨d⟩,f⟩:=c;simp only at h;split at h;·simp only[Ae,Al] at h;obtain⟨rfl,rfl⟩:=h;exact⟨_,rfl⟩
  ·simp at h
 ·simp at h
theorem aIg(H:bB P Γ)(D:agY P g w){d:Option Nat}{f:Nat}{x:ASrc}{avs:List ASrc}(q:aeu P (.dcall d f x avs) m=true)(p:step Γ (.dcall d f x avs) s=some (true,s'))(h:SR g s w a)(hn:dp g s w a s' next):m.wp P a w next Q:=by
 obtain⟨dst,op,X,C,G,S⟩:=m;simp only[aeu,Ac,beq_iff_eq] at q;obtain⟨rfl,q⟩:=q;split at q
 ·rename_i M b F;obtain⟨Z,rfl⟩:=aC1 F;simp only[Ac,beq_iff_eq] at q;obtain⟨h0,h1,u⟩:=q;have r0:=bD h0 h.er;simp only[step] at p;split at p
  ·rename_i Y abh k;rw[k] at r0;split at p
   ·rename_i c v hp' hg;simp only[Ae,Al,Ac] at p;obtain⟨⟨E,rfl⟩,rfl⟩:=p;obtain rfl:=AJ E;generalize j:a.eval M=aj at r0;cases r0 with
    |fn _ _ vs hl hv=>
    obtain⟨N,O⟩:=arw h.er avs b h1;have J:=H _ _ _ _ _ hg;unfold as4 at u;split at u
    ·rename_i fn B;simp only[Ac,bne_iff_ne,ne_eq] at u;obtain⟨L,R⟩:=u;have l:fn.body.isNone=false:=by cases hb:fn.body<;>simp_all
     have z:(execOp a.eval ⟨dst,.call ⟨.value M,⟨b⟩,Z⟩,X,C,G,S⟩).run P w=.ok (.enter Y ((b.map a.eval).toArray++vs)) w:=by simp[execOp,resolve,j,Deferred.ofValue,invoke,callFunc,B,R,l];intro I;rw[I] at L;simp at L
     unfold Oper.wp;rw[z,Oper.upon_enter];refine(J w g.hide ((b.map a.eval).toArray++vs) (D.sub rfl (λh=>h) (λh=>by simp[Gh.hide,h])) h.hr.hide (by simp[N,hl]) (by
      intro x k;rcases Aw.1 k with k|k;·obtain⟨y,_,rfl⟩:=AD.1 k;exact eX _
      ·obtain⟨y,_,rfl⟩:=AD.1 k;exact eX _) (λi x cv k j=>by
       have r:(avs.map λy=>disown (y.ev s)).length=(b.map a.eval).length:=by simp[N]
       rcases AH i (b.map a.eval).length with A|A;·rw[Ax (by rw[r];exact A)] at k;rw[B8 (by simpa using A)] at j;exact O i x cv k (by simpa using j)
       ·rw[Au (by rw[r];exact A),AF,Aq] at k;obtain⟨y,hy,rfl⟩:=k;rw[Array.getElem?_append_right (by simpa using A)] at j;refine(hv _ y cv hy ?_).disown;rw[r];simpa using j)).mono ?_
     rintro e w' ⟨cv,g',rfl,W,q2,q3,q4⟩;simp only;obtain⟨r1,r2⟩:=axa (dst:=dst) h W q2 q3 q4;refine hn _ _ _ r1 ?_ (by cases dst<;>rfl);cases dst<;>exact r2
    ·simp at u
   ·simp at p
  ·simp at p
 ·simp at q
theorem aAb(j:bB P Γ)(f:agY P g w){o:IOp}(b:aFb P o m=true)(e:step Γ o s=some (true,s'))(h:SR g s w a)(c:dp g s w a s' next):m.wp P a w next Q:=by
 unfold aFb at b;simp only[Bl] at b;rcases b with(((((((((b|b)|b)|b)|b)|b)|b)|b)|b)|b)|b
 ·cases o with
  |pick=>exact aJM b e h c
  |bin=>exact aK3 b e h c
  |un=>exact aMb b e h c
  |cvi=>exact aK0 b e h c
  |b2s=>exact aK1 b e h c
  |lens=>exact aJN b e h c
  |lenl=>exact aJO b e h c
  |idx=>exact aK2 b e h c
  |ixa=>exact aK4 b e h c
  |subs=>exact aJP b e h c
  |subl=>exact aJQ b e h c
  |fad=>exact aK5 b e h c
  |fld=>exact aK6 b e h c
  |ext=>exact aK7 b e h c
  |nck=>exact aK8 b e h c
  |mx=>exact aMc b e h c
  |snil=>exact aJR b e h c
  |ld d n agg i x=>
   cases i with
   |false=>exact aE0 b e h c
   |true=>simp[ce] at b
  |_=>simp[ce] at b
 ·cases o with
  |mov=>exact aK9 b e h c
  |bsl=>exact aLa f.1 b e h c
  |s2b=>exact aLc f.1 b e h c
  |app=>exact aLb f.1 b e h c
  |apps=>exact aJS f.1 b e h c
  |_=>simp[rq] at b
 ·cases o with
  |call=>exact aJ0 j f b e h c
  |dcall=>exact aIg j f b e h c
  |_=>simp[aeu] at b
 ·cases o with
  |new=>exact aLd b e h c
  |box=>exact aLe b e h c
  |st=>exact aMd b e h c
  |ld d n agg i x=>
   cases i with
   |true=>exact aGj b e h c
   |false=>simp[pD] at b
  |bld=>exact aLf b e h c
  |_=>simp[pD] at b
 ·cases o with
  |newb=>exact aJT b e h c
  |_=>simp[api] at b
 ·cases o with
  |_=>simp[aEg] at b
 ·cases o with
  |boxe=>exact aJU b e h c
  |alr=>exact aLh b e h c
  |frz=>exact aLi b e h c
  |lde=>exact aLg b e h c
  |mkf=>exact aLj b e h c
  |_=>simp[yA] at b
 ·cases o with
  |apu=>exact aGm f.1 b e h c
  |lnw=>exact aLl b e h c
  |ixw=>exact aLm b e h c
  |stw=>exact aLn b e h c
  |_=>simp[ac8] at b
 ·cases o with
  |mkm=>exact aLp b e h c
  |mget=>exact aJY b e h c
  |mput=>exact aJZ b e h c
  |_=>simp[acj] at b
 ·cases o with
  |ixe=>exact aLq b e h c
  |apo=>exact aLr f.1 b e h c
  |_=>simp[az8] at b
 ·cases o with
  |_=>simp[aLo] at b
structure Inv(g₀:Gh)(hp₀:List aJ)(w₀:World)(df:List Deferred)(g:Gh)(s:St)(w:World)(a:Act):Prop where
 sr:SR g s w a
 fr:FR g₀ hp₀ w₀ g s.hp w
 df:a.defers=df
theorem SR.renew(h:SR g s w a)(n:Nat)(b:Bool)(c:s.get n=.bool b):SR g (s.set n (.bool b)) w a:=by have:=h.bare n;rw[c] at this;exact this
theorem axb(h:SR g s w a){o:Oper}{c:Array Oper}{j n:Nat}{b f:Bool}(q:(c[j]?).bind (·.dst)=some n)(p:o.guard=some (j,f))(i:s.get n=.bool b):
  C7 o (yielded c a.tmps)=(b==f):=by
 have l:n<s.env.length:=by
  rcases AH n s.env.length with e|e;·exact e
  ·simp[St.get,Ai,Bj e] at i
 have d:n<a.tmps.size:=by rw[<-h.er.size];exact l
 have r:=h.er.get n;rw[i] at r;have k:a.tmps[n]? =some (a.tmps.getD n undef):=by simp[Cg,d,Am d]
 generalize a.tmps.getD n undef=cv at r k;cases r;simp[C7,p,yielded,q,k]
theorem axc(h:SR g s w a){o:Oper}{b:Array Oper}{j n:Nat}{i:Bool}(p:(b[j]?).bind (·.dst)=some n)(l:o.guard=some (j,i))(e:s.get n=.tup []):
  C7 o (yielded b a.tmps)=false:=by
 have k:n<s.env.length:=by
  rcases AH n s.env.length with d|d;·exact d
  ·simp[St.get,Ai,Bj d] at e
 have c:n<a.tmps.size:=by rw[<-h.er.size];exact k
 have r:=h.er.get n;rw[e] at r;have f:a.tmps[n]? =some (a.tmps.getD n undef):=by simp[Cg,c,Am c]
 generalize a.tmps.getD n undef=cv at r f;cases r;simp[C7,l,yielded,p,f]
theorem amE(h:SR g s w a)(d:Option Nat):SR g (s.setO d (.tup [])) w (a.put d undef):=by
 cases d with
 |none=>exact h
 |some d=>exact h.set d (.tup [] #[] rfl (by simp)) (by simp[aO])
theorem au6(s:St)(d:Option Nat)(v:V):(s.setO d v).hp=s.hp:=by cases d<;>rfl
theorem aAc(a:Act)(d:Option Nat)(v:Value):(a.put d v).defers=a.defers:=by cases d<;>rfl
theorem aAd{R:Type}{c:Bool}{x:Option R}{r:R}(h:chk c x=some r):c=true∧x=some r:=by
 cases c with
 |true=>exact⟨rfl,h⟩
 |false=>simp[chk] at h
theorem aeG(E:bB P Γ){z:Gh}{u:List aJ}{y:World}(D:ai5 P z u y){R:Type}{K:St->Option R}{r:R}{k:Array Oper}{df:List Deferred}{Q:Exit->Act->World->Prop}
  (L:∀s g w a,K s=some r->Inv z u y df g s w a->Q .normal a w):∀(l:List GOp)(i:Nat),abY P k i l=true->∀(s:St)(g:Gh)(w:World)(a:Act),
   runOps Γ l K s=some r->Inv z u y df g s w a->wpOps P k Q (Da i (k.size-i)) a w
 | [],i,B,s,g,w,a,f,h=>by simp only[abY,beq_iff_eq] at B;subst B;simp only[De,List.range'_zero,wpOps];exact L s g w a f h
 |⟨X,o,Y⟩::l,i,B,s,g,w,a,f,h=>by
  simp only[abY,Ac] at B;obtain⟨B,O⟩:=B;split at B
  ·rename_i m M;have hi:i<k.size:=by
    rcases AH i k.size with H|H;·exact H
    ·simp[B7 H] at M
   rw[show k.size-i=(k.size-(i+1))+1 by omega,List.range'_succ];simp only[au5,Ac,beq_iff_eq] at B;obtain⟨⟨H,W⟩,A⟩:=B;have x:∀e,SR g e w a->e.hp=s.hp->∀c s',stepO Γ Y o e=some (c,s')->chk c (runOps Γ l K s')=some r->m.wp P a w (wpOps P k Q (Da (i+1) (k.size-(i+1)))) Q:=by intro e d F c s' v C;obtain⟨rfl,C⟩:=aAd C;refine aAb E (D.on h.fr) H (nK v) d ?_;intro a' w' Z J S hd;refine aeG E D L l (i+1) O s' Z w' a' C ⟨J,?_,hd.trans h.df⟩;rw[F] at S;exact h.fr.trans S
   have skip:∀e,SR g e w a->e.hp=s.hp->runOps Γ l K (e.setO o.dst (.tup []))=some r->wpOps P k Q (Da (i+1) (k.size-(i+1))) (a.put m.dst undef) w:=by intro e d F G;rw[W] at G;refine aeG E D L l (i+1) O _ g w _ G ⟨amE d _,?_,(aAc _ _ _).trans h.df⟩;rw[au6,F];exact h.fr
   simp only[wpOps,M];match X,A,f with
   |none,A,f=>
    cases q:m.guard with
    |some p=>rw[q] at A;simp at A
    |none=>
    rw[if_pos (by simp[C7,q])];left;simp only[runOps] at f;split at f;·rename_i c s' v;exact x s h.sr rfl c s' v f
    ·simp at f
   |some (n,b),A,f=>
    cases q:m.guard with
    |none=>rw[q] at A;simp at A
    |some p=>
    obtain⟨j,b'⟩:=p;rw[q] at A;simp only[Ac,beq_iff_eq] at A;obtain⟨rfl,N⟩:=A;simp only[runOps] at f;split at f
    ·rename_i t I;rw[axb h.sr N q I];have d:=h.sr.renew n t I;cases t with
     |true=>
      simp only[cond_true] at f;cases b with
      |true=>
       simp only at f;rw[if_pos (by rfl)];left;split at f;·rename_i c s' v;exact x _ d rfl c s' v f
       ·simp at f
      |false=>rw[if_neg (by simp)];exact skip _ d rfl f
     |false=>
      simp only[cond_false] at f;cases b with
      |false=>
       simp only at f;rw[if_pos (by rfl)];left;split at f;·rename_i c s' v;exact x _ d rfl c s' v f
       ·simp at f
      |true=>rw[if_neg (by simp)];exact skip _ d rfl f
    ·rename_i I;rw[axc h.sr N q I,if_neg (by simp)];exact skip _ h.sr rfl f
    ·simp at f
  ·simp at B
theorem amF{b:Array Oper}:∀(l:List GOp)(i:Nat),abY P b i l=true->b.size=i+l.length∧∀(k:Nat) x,l[k]? =some x->∃m,b[i+k]? =some m∧au5 P b x m=true
 | [],i,h=>by simp only[abY,beq_iff_eq] at h;exact⟨by simp[h],by simp⟩
 |x::l,i,h=>by
  simp only[abY,Ac] at h;obtain⟨d,j⟩:=h;obtain⟨p,f⟩:=amF l (i+1) j;refine⟨by simp[p];omega,?_⟩;intro k y e;cases k with
  |zero=>
   simp at e;subst e;split at d;·rename_i m c;exact⟨m,c,d⟩
   ·simp at d
  |succ k=>obtain⟨m,c,q⟩:=f k y (by simpa using e);exact⟨m,by rw[<-c];congr 1;omega,q⟩
theorem aGA(G:bB P Γ){l:Gh}{e:List aJ}{k:World}(D:ai5 P l e k){u:Array Oper}{i:Nat}{m:Oper}{x:GOp}(R:u[i]? =some m)(M:au5 P u x m=true){df:List Deferred}{Q:Exit->Act->World->Prop}{K:Act->World->Prop}
  (f:eE Γ x s=some s') (h:Inv l e k df g s w a) (I:∀E w' A,Inv l e k df E s' w' A->K A w'):wpOp P u Q i K a w:=by
 obtain⟨N,o,O⟩:=x;simp only[au5,Ac,beq_iff_eq] at M;obtain⟨⟨W,J⟩,q⟩:=M;have r:(match stepO Γ O o s with|some (c,s')=>chk c (some s')|none=>none)=some s'->m.wp P a w K Q:=by
  intro v;split at v
  ·rename_i c z y;obtain⟨rfl,B⟩:=aAd v;obtain rfl:z=s':=by simpa using B
   refine aAb G (D.on h.fr) W (nK y) h.sr ?_;intro A w' E H X S;exact I E w' A ⟨H,h.fr.trans X,S.trans h.df⟩
  ·simp at v
 unfold wpOp;simp only[R];match N,q,f with
 |none,q,f=>
  cases d:m.guard with
  |some p=>rw[d] at q;simp at q
  |none=>
  rw[if_pos (by simp[C7,d])];exact .inl (r f)
 |some (n,b),q,f=>
  cases d:m.guard with
  |none=>rw[d] at q;simp at q
  |some p=>
  obtain⟨j,Y⟩:=p;rw[d] at q;simp only[Ac,beq_iff_eq] at q;obtain⟨rfl,L⟩:=q;simp only[eE] at f;split at f
  ·rename_i t F;rw[axb h.sr L d F];split at f;·rename_i C;rw[if_pos C];exact .inl (r f)
   ·rename_i C;rw[if_neg (by simp[C])];obtain rfl:_=s':=by simpa using f
    rw[<-J];exact I g w _ ⟨amE h.sr _,by rw[au6];exact h.fr,(aAc _ _ _).trans h.df⟩
  ·rename_i F;rw[axc h.sr L d F,if_neg (by simp)];obtain rfl:_=s':=by simpa using f
   rw[<-J];exact I g w _ ⟨amE h.sr _,by rw[au6];exact h.fr,(aAc _ _ _).trans h.df⟩
  ·simp at f
theorem aGB(a4:bB P Γ){N:Gh}{z:List aJ}{H:World}(az:ai5 P N z H){ab:List Nat}(hP:cE Γ ab){R:Type}{K:St->Option R}{r:R}{v:Array Oper}{l:List GOp}{D:List (List Nat)}(hc:aev P ab v l D=true){df:List Deferred}{Q:Exit->Act->World->Prop}
  (hQ:∀s g w a,K s=some r->Inv N z H df g s w a->Q .normal a w):∀(p:Nat)(f:List Nat)(b:Array Bool)(s:St)(g:Gh)(w:World)(a:Act),
   f.length=p->f.Pairwise (·<·)->(∀i,i∈f↔i<l.length∧b.getD i true=false)->b.size=l.length->(∀j,j<l.length->j ∉ f->∀i∈D.getD j [],i ∉ f)->
   runOps Γ (f.filterMap λi=>l[i]?) K s=some r->Inv N z H df g s w a->wpAny P .any v Q p b a w:=by
 simp only[aev,Ac] at hc;obtain⟨⟨-,a5⟩,am⟩:=hc;obtain⟨L,Z⟩:=amF l 0 a5;simp only[Bv] at L Z
 have hj:∀j,j<l.length->∃m x,v[j]? =some m∧l[j]? =some x∧au5 P v x m=true∧(∀e∈m.after,Region.binds .any e=true->e.on<j)∧
   (∀i∈D.getD j [],∃e∈m.after,Region.binds .any e=true∧(e.on=i∨i∈D.getD e.on []))∧(∀i,i<j->i∈D.getD j []∨∃y,l[i]? =some y∧asZ ab y x=true):=by
  intro j G;have h0:=AA.1 am j (C3.2 G);simp only[Ac] at h0;obtain⟨c,q⟩:=h0;have hx:l[j]? =some l[j]:=Ah G;obtain⟨m,I,Y⟩:=Z j _ hx;rw[I] at c;rw[hx] at q;simp only[Ac] at c;refine⟨m,l[j],I,hx,Y,?_,?_,?_⟩;·intro e S F;have:=AA.1 c.1 e (by simpa using S);simpa [F] using this
  ·intro i hi;have:=AA.1 c.2 i hi;obtain⟨e,S,F⟩:=List.any_eq_true.1 this;simp only[Ac,Bl,beq_iff_eq,Dz] at F;exact⟨e,by simpa using S,F.1,F.2⟩
  ·intro i hi;have:=AA.1 q i (C3.2 hi);simp only[Bl,Dz] at this;rcases this with h3|h3;·exact .inl h3
   ·right;split at h3;·rename_i y hy;exact⟨y,hy,h3⟩
    ·simp at h3
 have u:∀(f:List Nat)(b:Array Bool),(∀i,i∈f↔i<l.length∧b.getD i true=false)->b.size=l.length->∀j m,v[j]? =some m->(j∈Region.ready .any v b↔j∈f∧∀e∈m.after,Region.binds .any e=true->e.on<l.length∧e.on ∉ f):=by
  intro f b d E j m I;have G:j<l.length:=by rw[<-L];exact(A1.1 I).1
  have key:∀i,b.getD i false=true↔i<l.length∧i ∉ f:=by
   intro i;rw[d i];rcases AH i b.size with c|c
   ·have q:i<l.length:=by omega
    simp[Cg,c,q]
   ·have q:¬i<l.length:=by omega
    have h3:¬i<b.size:=by omega
    simp[Cg,h3,q]
  rw[mem_ready,d j];constructor;·rintro⟨c,o,ho,q⟩;rw[I] at ho;cases ho;exact⟨⟨G,c⟩,λe S F=>(key _).1 (q e S F)⟩
  ·rintro⟨⟨_,c⟩,q⟩;exact⟨c,m,I,λe S F=>(key _).2 (q e S F)⟩
 intro p;induction p with
 |zero=>intro f b s g w a C J d E M hr h;have:f=[]:=Bw C;subst this;simp only[wpAny];refine⟨?_,hQ s g w a hr h⟩;rw[List.eq_nil_iff_forall_not_mem];intro j O;have:=mem_ready.1 O;obtain⟨hu,o,ho,_⟩:=this;exact absurd ((u [] b d E j o ho).1 O).1 (by simp)
 |succ p ih=>
  intro f b s g w a C J d E M hr h;simp only[wpAny];refine⟨?_,?_⟩
  ·intro aw;exfalso;cases f with
   |nil=>simp at C
   |cons j f=>
    have af:=((d j).1 (AZ ..)).1;obtain⟨m,x,I,hx,Y,S,hp,hi⟩:=hj j af;have:j∈Region.ready .any v b:=by
     refine(u _ b d E j m I).2 ⟨AZ ..,λe ag F=>?_⟩;have G:=S e ag F;refine⟨by omega,?_⟩;intro k;rcases AN.1 k with c|c;·omega
     ·have:=(BA.1 J).1 _ c;omega
    rw[aw] at this;simp at this
  ·intro j O;obtain⟨hu,o,ho,_⟩:=mem_ready.1 O;obtain⟨ak,ad⟩:=(u f b d E j o ho).1 O;have af:=((d j).1 ak).1;obtain⟨m,x,I,hx,Y,S,hp,hi⟩:=hj j af;rw[I] at ho;cases ho;have ap:∀i∈D.getD j [],i ∉ f:=by
    intro i X;obtain⟨e,ag,F,ac⟩:=hp i X;obtain⟨d1,d2⟩:=ad e ag F;rcases ac with rfl|ac;·exact d2
    ·exact M _ d1 d2 i ac
   obtain⟨A,B,rfl⟩:=List.append_of_mem ak;have hA:∀i∈A,i<j:=by intro i W;exact(By.1 J).2.2 i W j (AZ ..)
   have hB:∀i∈B,j<i:=by intro i ax;exact(BA.1 (By.1 J).2.1).1 i ax
   rw[List.filterMap_append,D9 hx] at hr;obtain⟨s',hg,al⟩:=aJC hP _ s (by
    intro y hy;obtain⟨i,W,a3⟩:=List.mem_filterMap.1 hy;rcases hi i (hA i W) with c|⟨y',c,q⟩
    ·exact absurd (BS _ W) (ap i c)
    ·rw[a3] at c;cases c;exact q) hr
   rw[<-List.filterMap_append] at al;refine aGA a4 az I Y hg h ?_;intro g' w' a' an;have k:∀i,i∈A++B↔i∈A++j::B∧i≠j:=by
    intro i;simp only[Aw,AN];constructor
    ·rintro(c|c);·exact⟨.inl c,by have:=hA i c;omega⟩
     ·exact⟨.inr (.inr c),by have:=hB i c;omega⟩
    ·rintro⟨c|c|c,q⟩;·exact .inl c
     ·exact absurd c q
     ·exact .inr c
   refine ih (A++B) (b.setIfInBounds j true) s' g' w' a' ?_ ?_ ?_ (by simp[E]) ?_ al an;·simp only[Aj,Af] at C ⊢;omega
   ·exact J.sublist (List.Sublist.append_left (List.sublist_cons_self ..) _)
   ·intro i;rw[k,d];by_cases ae:i=j
    ·subst ae;have ay:i<b.size:=by omega
     simp[Cg,ay]
    ·rw[getD_set_ne true (λe=>ae e.symm)];simp[ae]
   ·intro j' a2 aq i X av;obtain⟨c,q⟩:=(k i).1 av;by_cases ao:j'=j;·subst ao;exact ap i X c
    ·exact M j' a2 (λau=>aq ((k j').2 ⟨au,ao⟩)) i X c
theorem af4{α:Type}:∀(l:List α),((BR l.length).filterMap λi=>l[i]?)=l
 | []=>rfl
 |x::l=>by rw[Af,List.range_succ_eq_map,D9 (b:=x) (by simp),List.filterMap_map];have:=af4 l;simp only[D6,Nat.succ_eq_add_one,BI];rw[this]
theorem Inv.drew{d:Gh}{c:List aJ}{e:World}{df:List Deferred}(h:Inv d c e df g s w a):Inv d c e df g s w.drew a:=by
 have u:Up g.I g.ρ s.hp.length w g.I g.ρ s.hp.length w.drew:=⟨λ_ _ h=>h,λ_ _ _=>rfl,λ_ _=>rfl,Ap _⟩
 refine⟨⟨h.sr.hr.drew,⟨h.sr.er.size,λn v cv i f=>(h.sr.er.rel n v cv i f).up u,λn v cv i f=>dC (h.sr.er.own n v cv i f) rfl (λb j k=>⟨k,rfl⟩) (λb l=>⟨l,rfl,λj p=>p⟩)⟩⟩,?_,h.df⟩;exact⟨h.fr.beta,h.fr.os,h.fr.tape,h.fr.output,h.fr.size,h.fr.block,h.fr.up.trans u,h.fr.iSame,h.fr.oSame,h.fr.live⟩
theorem aFc(x:bB P Γ){d:Gh}{b:List aJ}{c:World}(u:ai5 P d b c){p:List Nat}(z:cE Γ p){R:Type}{K:St->Option R}{r:R}{id:Nat}{e:Array Oper}{l:List GOp}{v:List (List Nat)}(y:aev P p e l v=true){df:List Deferred}{Q:Exit->Act->World->Prop}
  (D:∀s g w a,K s=some r->Inv d b c df g s w a->Q .normal a w) (B:runOps Γ l K s=some r) (h:Inv d b c df g s w a):(Code.region id e true).wp P Q a w:=by
 have f:=y;simp only[aev,Ac] at f;have k:e.size=l.length:=by simpa using (amF l 0 f.1.2).1
 refine wp_region_any f.1.1 ?_;rw[k];refine aGB x u z y D l.length (BR l.length) _ s g _ a (by simp) List.pairwise_lt_range ?_ (by simp) ?_ (by rw[af4];exact B) h.drew;·intro i;by_cases C:i<l.length<;>simp[Cg,C]
 ·intro j A q;exact absurd (C3.2 A) q
theorem tK(c:List Nat)(m:Nat):∀(b:List V)(i n:Nat)(v:V),(tG c m i b)[n]? =some v->v=.undef∨(v.lower m=true∧b[n]? =some v)
 | [],i,n,v,h=>by simp[tG] at h
 |x::b,i,n,v,h=>by
  simp only[tG] at h;cases n with
  |zero=>
   simp only[BN,Ae] at h;split at h;·rename_i d;simp only[Ac] at d;right;subst h;exact⟨d.2,by simp⟩
   ·left;exact h.symm
  |succ n=>simp only[BI] at h ⊢;exact tK c m b (i+1) n v h
theorem yB(c:List Nat)(m:Nat):∀(b:List V)(i:Nat),(tG c m i b).length=b.length
 | [],i=>rfl
 |x::b,i=>by simp[tG,yB c m b (i+1)]
theorem qm{n:Nat}:∀{cs:List V},V.lowers n cs=true->∀(i:Nat) c,cs[i]? =some c->c.lower n=true
 | [],_,i,c,b=>by simp at b
 |x::cs,h,i,c,b=>by
  simp only[V.lowers,Ac] at h;cases i with
  |zero=>simp at b;subst b;exact h.1
  |succ i=>exact qm h.2 i c (by simpa using b)
theorem aC2{n:Nat}{cs:List V}(h:V.lowers n cs=true)(j:Nat)(c:V)(b:(cellsOf cs)[j]? =some c):c.lower n=true:=by
 cases d:d7 cs with
 |false=>rw[nL d] at b;exact qm h j c b
 |true=>
  unfold d7 at d;split at d;·simp only[cellsOf,AF,Aq] at b;obtain⟨_,_,rfl⟩:=b;rfl
  ·simp[V.lowers,V.lower] at h
  ·unfold cellsOf at b;split at b;·rename_i e;cases e
   ·rename_i e;cases e
   ·rename_i e;cases e;simp[V.lowers,V.lower] at h
   ·exact qm h j c b
  ·cases d
theorem aC3{v:V}{n:Nat}(h:v.flat1=true):v.lower n=true:=by unfold V.flat1 at h;split at h<;>first|rfl|cases h
theorem VRel.fewer{I:Nat->Nat->Prop}{ρ:Nat->Nat}{N n:Nat}{v:V}{cv:Value}(h:VRel I ρ N w v cv)(y:v.lower n=true)(O:n<=N):VRel I ρ n w v cv:=by
 induction h with
 |undef cv=>exact .undef cv
 |bool b=>exact .bool b
 |int k n h=>exact .int k n h
 |str l s u h=>exact .str l s u h
 |sln k o=>exact .sln k o
 |sle k o A J=>exact .sle k o A J
 |sl k o xs b e len cap u d q M f F G C z=>refine .sl k o xs b e len cap u d q M f F G (λi x j v B H=>z i x j v B H ?_);exact aC3 (aiX k x v (At H))
 |agg cs vs u B D C z=>exact .agg cs vs u B D (λi c cv d r=>z i c cv d r (qm (by simpa [V.lower] using y) i c d))
 |tup cs vs u C z=>exact .tup cs vs u (λi c cv d r=>z i c cv d r (qm (by simpa [V.lower] using y) i c d))
 |ea cs b e f B F G C z=>exact .ea cs b e f B F G (λj c d=>z j c d (qm (by simpa [V.lower] using y) j c d))
 |ptr id e h=>exact .ptr id e (by simpa [V.lower,C5] using y)
 |nilp=>exact .nilp
 |fn f cs vs u C z=>exact .fn f cs vs u (λi c cv d r=>z i c cv d r (qm (by simpa [V.lower] using y) i c d))
 |nilif=>exact .nilif
 |bn E n p=>exact .bn E n p
 |junk cv h=>exact .junk cv h
 |so id m cap h d q=>exact .so id m cap (by simpa [V.lower,C5] using y) d q
 |raw n b=>exact .raw n b
 |ul k xs A cap q=>exact .ul k xs A cap q
 |hd n A cap q=>exact .hd n A cap q
 |sw k id m h d q=>exact .sw k id m (by simpa [V.lower,C5] using y) d q
 |sx k id e m A cap h d q u L=>exact .sx k id e m A cap (by simpa [V.lower,C5] using y) d q u L
 |wp id k i o h=>exact .wp id k i o (by simpa [V.lower,C5] using y)
 |mr id h=>exact .mr id (by simpa [V.lower,C5] using y)
 |nilm=>exact .nilm
theorem ac9{n:Nat}:∀{hp:List aJ},tH n hp=true->∀(id:Nat) cs,hp[id]? =some (some cs)->V.lowers n cs=true
 | [],_,id,cs,h=>by simp at h
 |none::hp,b,id,cs,h=>by
  cases id with
  |zero=>simp at h
  |succ id=>exact ac9 (hp:=hp) (by simpa [tH] using b) id cs (by simpa using h)
 |some x::hp,b,id,cs,h=>by
  simp only[tH,Ac] at b;cases id with
  |zero=>simp at h;subst h;exact b.1
  |succ id=>exact ac9 b.2 id cs (by simpa using h)
theorem SR.keepEnv(h:SR g s w a)(b:List Nat)(n:Nat):SR g {s with env:=tG b n 0 s.env} w a:=by
 refine⟨h.hr,⟨by simp[yB,h.er.size],?_,?_⟩⟩
 ·intro m v cv c d;rcases tK b n s.env 0 m v c with rfl|⟨_,c⟩
  ·exact .undef _
  ·exact h.er.rel m v cv c d
 ·intro m v cv c d;rcases tK b n s.env 0 m v c with rfl|⟨_,c⟩
  ·simp[aO]
  ·exact h.er.own m v cv c d
theorem Inv.keeps{u:Gh}{f:List aJ}{r:World}{df:List Deferred}(h:Inv u f r df g s w a)(d:List Nat){n:Nat}(J:f.length<=n):Inv u f r df g (s.keep d n) w a:=by
 unfold St.keep;cases B:tH n (s.hp.take n) with
 |false=>exact⟨h.sr.keepEnv d n,h.fr,h.df⟩
 |true=>
  simp only[cond_true];rcases AH n s.hp.length with I|A
  ·have p:(s.hp.take n).length=n:=by simp;omega
   have i:∀(id:Nat) cs,(s.hp.take n)[id]? =some (some cs)->s.hp[id]? =some (some cs):=by
    intro id cs b;rw[A7] at b;split at b;·exact b
    ·simp at b
   have F:=ac9 B;refine⟨⟨⟨?_,?_,?_,?_,h.sr.hr.exI,h.sr.hr.oLt⟩,⟨by simp[yB,h.sr.er.size],?_,?_⟩⟩,?_,h.df⟩
   ·intro id cs b;refine(h.sr.hr.obj id cs (i id cs b)).keep rfl λL e M G q=>?_
    refine⟨q.len,q.plain,?_,q.cold,q.one,?_,q.own,q.bn⟩
    ·intro k xs C;have:=F id _ b;unfold aph at C;split at C;·simp[V.lowers,V.lower] at this
     ·simp[V.lowers,V.lower] at this
     ·cases C
    intro j c cv H l;rw[p];exact(q.rel j c cv H l).fewer (aC2 (F id cs b) j c H) (by omega)
   ·intro id z cs y G q E;exact h.sr.hr.apart id z cs y (i _ _ G) (i _ _ q) E
   ·intro id cs b;exact h.sr.hr.notI id cs (i _ _ b)
   ·intro id cs b;exact h.sr.hr.notO id cs (i _ _ b)
   ·intro m v cv x l;rw[p];rcases tK d n s.env 0 m v x with rfl|⟨D,x⟩
    ·exact .undef _
    ·exact(h.sr.er.rel m v cv x l).fewer D (by omega)
   ·intro m v cv x l;rcases tK d n s.env 0 m v x with rfl|⟨_,x⟩
    ·simp[aO]
    ·exact h.sr.er.own m v cv x l
   ·refine⟨h.fr.beta,h.fr.os,h.fr.tape,h.fr.output,h.fr.size,h.fr.block,⟨h.fr.up.mono,h.fr.up.cell,h.fr.up.rho,by rw[p];exact J⟩,h.fr.iSame,h.fr.oSame,?_⟩;intro id cs b;exact h.fr.live id cs (i _ _ b)
  ·rw[CT A];exact⟨h.sr.keepEnv d n,h.fr,h.df⟩
def ada:Ex->Exit->Prop
 | .normal,.normal=>True
 | .exit i,.exit j=>i=j
 | .ret,.ret=>True
 |_,_=>False
def aFd{R:Type}(c:Gh)(b:List aJ)(d:World)(df:List Deferred)(K:Ex->St->Option R)(r:R)(e:Exit)(a:Act)(w:World):Prop:=
 ∃x s g,ada x e∧K x s=some r∧Inv c b d df g s w a
theorem ko(D:bB P Γ){F:Gh}{z:List aJ}{E:World}(C:ai5 P F z E){N:List Nat}(J:cE Γ N)(n:Nat){R:Type}{L:Nat}(f:z.length<=L){df:List Deferred}{r:R}:∀(ir:IR)(c:Code),bL P N L ir c=true->∀(K:Ex->St->Option R)(s:St)(a:Act)(w:World)(g:Gh),
  run Γ n ir K s=some r->Inv F z E df g s w a->c.wp P (aFd F z E df K r) a w
 | .bad,c,p,K,s,a,w,g,b,h=>by simp[run] at b
 | .skip,c,p,K,s,a,w,g,b,h=>by
   cases c<;>simp[bL] at p;·exact wp_skip ⟨.normal,s,g,trivial,b,h⟩
   ·exact wp_label ⟨.normal,s,g,trivial,b,h⟩
 | .reg l ag,c,p,K,s,a,w,g,b,h=>by
   cases c with
   |region id ac aa=>
    cases aa with
    |true=>
     have p:aev P N ac l ag=true:=by simpa only[bL] using p
     exact aFc (Q:=aFd F z E df K r) D C J p (K:=K .normal) (r:=r) (λs g w a B G=>⟨.normal,s,g,trivial,B,G⟩) b h
    |false=>
     have p:abY P ac 0 l=true:=by simpa only[bL] using p
     refine wp_region ?_;have:=aeG (Q:=aFd F z E df K r) D C (K:=K .normal) (r:=r) (λs g w a B G=>⟨.normal,s,g,trivial,B,G⟩) l 0 p s g w a b h
     rwa [Nat.sub_zero,<-List.range_eq_range'] at this
   |_=>simp[bL] at p
 | .seq x y,c,p,K,s,a,w,g,b,h=>by
   cases c<;>simp[bL] at p;rename_i c d;refine wp_seq (wp_mono (ko D C J n f x c p.1 _ s a w g b h) ?_);rintro e a' w' ⟨X,s',A,H,B,G⟩;cases X with
   |normal=>cases e<;>simp only[ada] at H;exact ko D C J n f y d p.2 K s' a' w' A B G
   |exit i=>cases e<;>simp only[ada] at H;exact⟨.exit i,s',A,H,B,G⟩
   |ret=>cases e<;>simp only[ada] at H;exact⟨.ret,s',A,trivial,B,G⟩
 | .cond v x y,c,p,K,s,a,w,g,b,h=>by
   cases c<;>simp[bL] at p;rename_i u c d;simp only[run] at b;split at b
   ·rename_i t ht;have rr:=bD p.1 h.sr.er;rw[ht] at rr;generalize ah:a.eval u=cv at rr;cases rr;refine wp_cond ah ?_;cases t with
    |true=>rw[ASrc.fix_eq ht] at b;exact ko D C J n f x c p.2.1 K s a w g b h
    |false=>simp only[cond_false] at b;rw[ASrc.fix_eq ht] at b;exact ko D C J n f y d p.2.2 K s a w g b h
   ·simp at b
 | .block i x,c,p,K,s,a,w,g,b,h=>by
   cases c<;>simp[bL] at p;rename_i j c;obtain⟨rfl,p⟩:=p;refine wp_block (wp_mono (ko D C J n f x c p _ s a w g b h) ?_);rintro e a' w' ⟨X,s',A,H,B,G⟩;cases X with
   |normal=>cases e<;>simp only[ada] at H;exact⟨.normal,s',A,trivial,B,G⟩
   |exit k=>
    cases e<;>simp only[ada] at H;subst H;simp only[Exit.inBlock];by_cases S:k=i;·subst S;simp only[if_true];simp only[aP,Nat.beq_refl,cond_true] at B;exact⟨.normal,s',A,trivial,B,G⟩
    ·simp only[S,if_false];have Y:A4 k i=false:=by
      cases Y:A4 k i with
      |true=>exact absurd (AJ Y) S
      |false=>rfl
     simp only[aP,Y,cond_false] at B;exact⟨.exit k,s',A,rfl,B,G⟩
   |ret=>cases e<;>simp only[ada] at H;exact⟨.ret,s',A,trivial,B,G⟩
 | .loop I q x,c,p,K,s,a,w,g,b,h=>by
   cases c<;>simp[bL] at p;rename_i c;obtain⟨Z,p⟩:=p;have Z:z.length<=q:=A6 f Z;simp only[run] at b
   have key:∀(m:Nat)(s:St)(a:Act)(w:World)(g:Gh),aZ m (λO s=>run Γ n x (bu O I q K) s) s=some r->Inv F z E df g s w a->
     Code.rounds P c (aFd F z E df K r) m a w:=by
    intro m;induction m with
    |zero=>intro s a w g b h;simp[aZ] at b
    |succ m ih=>
     intro s a w g b h;simp only[aZ] at b;rw[rounds_succ];refine wp_mono (ko D C J n f x c p _ s a w g b h) ?_;rintro e a' w' ⟨X,s',A,H,B,G⟩;cases X with
     |normal=>cases e<;>simp only[ada] at H;exact ih _ a' w' A B (G.keeps I Z)
     |exit k=>cases e<;>simp only[ada] at H;exact⟨.exit k,s',A,H,B,G⟩
     |ret=>cases e<;>simp only[ada] at H;exact⟨.ret,s',A,trivial,B,G⟩
   exact wp_loop_rounds n (key n _ a w g b (h.keeps I Z))
 | .cut I q x,c,p,K,s,a,w,g,b,h=>by simp only[bL,Ac] at p;obtain⟨Z,p⟩:=p;simp only[run] at b;exact ko D C J n f x c p K _ a w g b (h.keeps I (A6 f (Nat.le_of_ble_eq_true Z)))
 | .gh x y,c,p,K,s,a,w,g,b,h=>by
   simp only[bL] at p;simp only[run] at b;split at b
   ·rename_i t s' hs;cases t with
    |false=>simp[chk] at b
    |true=>obtain⟨A,W,M⟩:=agW h.sr hs;exact ko D C J n f y c p K s' a w A b ⟨W,h.fr.trans M,h.df⟩
   ·simp at b
 | .ope x y,c,p,K,s,a,w,g,b,h=>by
   simp only[bL] at p;simp only[run] at b;have go:∀q:jJ,(match q.step s with|some (c,s')=>chk c (run Γ n y K s')|none=>none)=some r->∃s' A,run Γ n y K s'=some r∧SR A s' w a∧FR g s.hp w A s'.hp w:=λq b=>by
    split at b
    ·rename_i t s' hs;cases t with
     |false=>simp[chk] at b
     |true=>obtain⟨A,W,M⟩:=agW h.sr hs;exact⟨s',A,b,W,M⟩
    ·simp at b
   have ai:∃s' A,run Γ n y K s'=some r∧SR A s' w a∧FR g s.hp w A s'.hp w:=by
    cases Y:aEV s x with
    |true=>rw[Y] at b;exact go _ b
    |false=>rw[Y] at b;exact go _ b
   obtain⟨s',A,b,W,M⟩:=ai;exact ko D C J n f y c p K s' a w A b ⟨W,h.fr.trans M,h.df⟩
 | .ghp x y,c,p,K,s,a,w,g,b,h=>by
   simp only[bL] at p;simp only[run] at b;refine wp_mono (ko D C J n f y c p _ s a w g b h) ?_;rintro e a' w' ⟨X,s',A,H,B,G⟩;cases X with
   |normal=>
    simp only[apg] at B;split at B
    ·rename_i t s2 hs;cases t with
     |false=>simp[chk] at B
     |true=>obtain⟨g2,W,M⟩:=agW G.sr hs;exact⟨.normal,s2,g2,H,B,⟨W,G.fr.trans M,G.df⟩⟩
    ·simp at B
   |exit i=>exact⟨.exit i,s',A,H,B,G⟩
   |ret=>exact⟨.ret,s',A,H,B,G⟩
 | .exit i,c,p,K,s,a,w,g,b,h=>by cases c<;>simp[bL] at p;subst p;exact wp_exit ⟨.exit i,s,g,rfl,b,h⟩
 | .ret,c,p,K,s,a,w,g,b,h=>by cases c<;>simp[bL] at p;exact wp_ret ⟨.ret,s,g,trivial,b,h⟩
end
def apk(P:Program):RV->ResultVar->Bool
 | .t n,.tmp m=>n==m
 | .cell n b agg,.cell m t=>(n==m)&&((gk P t==some b)&&((nM P t==some agg)&&(agg||b==1)))
 |_,_=>false
def dD(P:Program):List RV->List ResultVar->Bool
 | [],[]=>true
 |x::xs,y::ys=>apk P x y&&dD P xs ys
 |_,_=>false
section
variable{w:World}{g:Gh}{s s':St}{a:Act}{P:Program}{Γ:aI}
def aFe(g:Gh)(w:World)(x:RV)(v:V)(cv:Value):Prop:=match x with| .t n=>aO g w (.slot n) v cv| .cell .. =>v.bare=true
def ai6(b:Array Value):ResultVar->Sem Value
 | .tmp t=>pure (b.getD t undef)
 | .cell a t=>do loadVar t (<-asAddr (b.getD a undef))
theorem aLs(h:SR g s w a){x:RV}{y:ResultVar}(l:apk P x y=true){v:V}(p:x.ev s=some v):
  ∃cv,(ai6 a.tmps y).run P w=.ok cv w∧VRel g.I g.ρ s.hp.length w v cv∧aFe g w x v cv:=by
 cases x with
 |t n=>
  cases y with
  |tmp m=>
   obtain rfl:n=m:=by simpa [apk] using l
   simp only[RV.ev,Ae] at p;subst p;exact⟨_,by simp[ai6],h.er.get n,h.er.getOwn n⟩
  |cell m t=>simp[apk] at l
 |cell n d agg=>
  cases y with
  |tmp m=>simp[apk] at l
  |cell m t=>
   simp only[apk,Ac,beq_iff_eq,Bl] at l;obtain⟨rfl,X,O,r⟩:=l;have B:=h.er.get n;simp only[RV.ev] at p
   have fin:∀b o (vs:List Value),a.tmps.getD n undef=.pointer (some ⟨b,o,none⟩)->vs.length=d->(∀(j:Nat) v,vs[j]? =some v->w.cell? ⟨b,o+j,none⟩=some v)->
     (ai6 a.tmps (.cell n t)).run P w=.ok (if agg then .agg vs.toArray else vs.headD undef) w:=by
    intro b o vs hp W L;have:=yy (P:=P) (w:=w) (b:=b) (o:=o) (vs:=vs) X O r W L;simp only[DF,Ce] at this;simp[ai6,hp,asAddr];simpa using this
   split at p
   ·rename_i id o F;rw[F] at B;generalize k:a.tmps.getD n undef=cv at B fin;cases B with
    |ptr _ _ R=>
    split at p
    ·rename_i cs S;split at p
     ·rename_i G;obtain rfl:=AG p;obtain⟨C,e,Q,A⟩:=xI h.hr S;have M:=A.len
      have q:=yx (agg:=agg) (cs:=(cs.drop o).take d) (vs:=(C.toList.drop o).take d) (w:=w) (I:=g.I) (ρ:=g.ρ) (N:=s.hp.length)
       (λc u=>A.one c (BL (BJ u))) (by simp;omega) (by
        rcases r with r|r;·exact .inl r
        ·right;simp;omega)
       (λi c cv l k=>by
        simp only[A7,Bq] at l k;split at l;·rename_i J;simp only[J,if_true] at k;exact A.rel _ _ _ l (by simpa using k)
        ·simp at l)
      refine⟨_,fin _ _ ((C.toList.drop o).take d) rfl (by simp;omega) (λj v z=>?_),q.disown,eX _⟩;rw[bE Q];simp only[A7,Bq] at z;split at z;·simpa using z
      ·simp at z
     ·simp at p
    ·simp at p
   ·rename_i cs F;rw[F] at B;generalize k:a.tmps.getD n undef=cv at B fin;cases B with
    |ea _ b o f Y Z L H=>
    split at p
    ·rename_i G;obtain rfl:=AG p
     have q:=yx (agg:=agg) (cs:=cs.take d) (vs:=(BR d).map f) (w:=w) (I:=g.I) (ρ:=g.ρ) (N:=s.hp.length)
      (λc u=>Y c (BJ u)) (by simp;omega) (by
       rcases r with r|r;·exact .inl r
       ·right;simp;omega)
      (λi c cv l k=>by
       simp only[A7] at l;split at l;·rename_i J;simp[J] at k;subst k;exact H _ _ l
       ·simp at l)
     refine⟨_,fin _ _ ((BR d).map f) rfl (by simp) (λj v z=>?_),q.disown,eX _⟩;rw[AF,Aq] at z;obtain⟨j',D,rfl⟩:=z;obtain⟨E,rfl⟩:=Ag.1 D;simp only[D7] at E;simpa using L j (by omega)
    ·simp at p
   ·simp at p
theorem aEj(h:SR g s w a):∀{xs:List RV}{ys:List ResultVar}{vs:List V},dD P xs ys=true->rvs s xs=some vs->
  ∃cvs:List Value,cvs.length=vs.length∧xs.length=vs.length∧ys.length=vs.length∧(∀(i:Nat) y,ys[i]? =some y->∃cv,cvs[i]? =some cv∧(ai6 a.tmps y).run P w=.ok cv w)∧
   (∀(i:Nat) v cv,vs[i]? =some v->cvs[i]? =some cv->VRel g.I g.ρ s.hp.length w v cv)∧
   (∀(i:Nat) x v cv,xs[i]? =some x->vs[i]? =some v->cvs[i]? =some cv->aFe g w x v cv)
 | [],[],vs,_,d=>by simp only[rvs,Ae] at d;subst d;exact⟨[],rfl,rfl,rfl,by simp,by simp,by simp⟩
 |x::xs,y::ys,vs,f,d=>by
  simp only[dD,Ac] at f;simp only[rvs] at d;split at d
  ·rename_i v C A p;obtain rfl:=AG d;obtain⟨cv,G,m,F⟩:=aLs h f.1 A;obtain⟨cvs,u,B,q,E,r,z⟩:=aEj h f.2 p;refine⟨cv::cvs,by simp[u],by simp[B],by simp[q],?_,?_,?_⟩
   ·intro i H l;cases i with
    |zero=>simp at l;subst l;exact⟨cv,rfl,G⟩
    |succ i=>simpa using E i H (by simpa using l)
   ·intro i k j c b;cases i with
    |zero=>simp at c b;subst c b;exact m
    |succ i=>exact r i k j (by simpa using c) (by simpa using b)
   ·intro i D k j e c b;cases i with
    |zero=>simp at e c b;subst e c b;exact F
    |succ i=>exact z i D k j (by simpa using e) (by simpa using c) (by simpa using b)
  ·simp at d
 | [],_::_,_,f,_=>by simp[dD] at f
 |_::_,[],_,f,_=>by simp[dD] at f
def Gh.hand(g:Gh)(r:Option Nat):Gh:={g with O:=λb=>match g.O b with|some (.slot m)=>(if some m=r then some .res else none)|some .res=>none|o=>o}
theorem HR.hand{hp:List aJ}(h:HR g hp w)(r:Option Nat):HR (g.hand r) hp w:=by
 refine⟨?_,h.apart,h.notI,?_,h.exI,?_⟩
 ·intro id cs f;refine(h.obj id cs f).keep rfl λp e x v d=>?_
  refine⟨d.len,d.plain,d.typed,d.cold,d.one,d.rel,?_,d.bn⟩;intro j c cv u k;refine dC (d.own j c cv u k) rfl (λb j m=>⟨m,rfl⟩) ?_;intro b i;exact⟨by simp[Gh.hand,i],rfl,λj q=>q⟩
 ·intro id cs f;simp[Gh.hand,h.notO id cs f]
 ·intro b o i;cases l:g.O b with
  |none=>simp[Gh.hand,l] at i
  |some o'=>exact h.oLt b o' l
theorem FR.hand{d:Gh}{c hp:List aJ}{e:World}(h:FR d c e g hp w)(r:Option Nat):FR d c e (g.hand r) hp w:=
 ⟨h.beta,h.os,h.tape,h.output,h.size,h.block,h.up,h.iSame,λb i j f=>by simp[Gh.hand,h.oSame b i j f],h.live⟩
def ai7:List Value->Value
 | [v]=>v
 |vs=>.tuple vs.toArray
theorem aC4{fn:Func}{l:List ResultVar}{cvs:List Value}(D:fn.results.toList=l)(r:l.length=cvs.length)(C:l.length<=5)
  (h:∀(i:Nat) y,l[i]? =some y->∃cv,cvs[i]? =some cv∧(ai6 a.tmps y).run P w=.ok cv w):
  (results fn a.tmps).run P w=.ok (ai7 cvs) w:=by
 have e:fn.results=l.toArray:=by rw[<-D]
 have E:results fn a.tmps=(do let vs <-fn.results.mapM (ai6 a.tmps);pure (if h:vs.size=1 then vs[0] else .tuple vs)):=rfl;rw[E,e];match l,cvs,r,C,h with
 | [],[],_,_,_=>simp[ai7]
 | [d],[u],_,_,h=>obtain⟨_,b,r0⟩:=h 0 d rfl;simp at b;subst b;simp[r0,ai7]
 | [d,j],[u,v],_,_,h=>obtain⟨_,b,r0⟩:=h 0 d rfl;obtain⟨_,c,k⟩:=h 1 j rfl;simp at b c;subst b c;simp[r0,k,ai7]
 | [d,j,q],[u,v,B],_,_,h=>obtain⟨_,b,r0⟩:=h 0 d rfl;obtain⟨_,c,k⟩:=h 1 j rfl;obtain⟨_,f,m⟩:=h 2 q rfl;simp at b c f;subst b c f;simp[r0,k,m,ai7]
 | [d,j,q,x],[u,v,B,F],_,_,h=>obtain⟨_,b,r0⟩:=h 0 d rfl;obtain⟨_,c,k⟩:=h 1 j rfl;obtain⟨_,f,m⟩:=h 2 q rfl;obtain⟨_,p,z⟩:=h 3 x rfl;simp at b c f p;subst b c f p;simp[r0,k,m,z,ai7]
 | [d,j,q,x,H],[u,v,B,F,I],_,_,h=>obtain⟨_,b,r0⟩:=h 0 d rfl;obtain⟨_,c,k⟩:=h 1 j rfl;obtain⟨_,f,m⟩:=h 2 q rfl;obtain⟨_,p,z⟩:=h 3 x rfl;obtain⟨_,A,G⟩:=h 4 H rfl;simp at b c f p A;subst b c f p A;simp[r0,k,m,z,G,ai7]
theorem ez(am:bB P Γ){M:List Nat}(hP:cE Γ M){f:FuncId}{fn:Func}{q:Code}{ir:IR}{D:List RV}{n:Nat}{vs:List V}{hp hp':List aJ}{v:V}
  (hf:P.funcs[f]? =some fn) (hb:fn.body=some q) (hc:bL P M hp.length ir q=true) (aq:dD P D fn.results.toList=true) (h5:fn.results.toList.length<=5)
  (N:callF Γ n fn.ntmps D ir vs hp=some (v,hp')):gc P f vs hp v hp':=by
 intro w g p ac W Y E X;refine calls_of_wp hf hb ?_;let u:Act:={tmps:=p++Array.replicate (fn.ntmps-p.size) undef,defers:=[]}
 have aj:SR g (start fn.ntmps vs hp) w u:=by
  refine⟨W,⟨by simp[start,u,Y],?_,?_⟩⟩
  ·intro n v cv h j;simp only[start,u] at h j;rcases AH n vs.length with G|G;·rw[Ax G] at h;rw[B8 (by omega)] at j;exact X n v cv h j
   ·rw[Au G,Eb] at h;split at h;·obtain rfl:=AG h;exact .undef _
    ·simp at h
  ·intro n v cv h j;simp only[start] at h;rcases AH n vs.length with G|G;·rw[Ax G] at h;exact oJ (E v (At h)) _ _ _ _
   ·rw[Au G,Eb] at h;split at h;·obtain rfl:=AG h;simp[aO]
    ·simp at h
 have O:=ko (df:=[]) am ⟨ac,W.notI⟩ hP n (Ap _) ir q hc (fin D) (start fn.ntmps vs hp) u w g N ⟨aj,FR.refl _ _ _,rfl⟩;refine wp_mono O ?_;rintro e a' w' ⟨ex,s',Z,he,hk,r⟩
 have z:∀v hp',(resultOf s' D).map (λv=>(v,s'.hp))=some (v,hp')->a'.defers=[]∧∃cv,(results fn a'.tmps).run P w'=.ok cv w'∧
   (∃H m,Ending.returned cv=.returned H∧HR m hp' w'∧FR g hp w m hp' w'∧VRel m.I m.ρ hp'.length w' v H∧aO m w' .res v H):=by
  intro v hp' A;refine⟨r.df,?_⟩;obtain⟨v',d,S⟩:=Aq.1 A;simp only[Al] at S;obtain⟨rfl,rfl⟩:=S;have ak:∃l,rvs s' D=some l:=by
   unfold resultOf at d;cases hh:rvs s' D with
   |none=>rw[hh] at d;simp at d
   |some l=>exact⟨l,rfl⟩
  obtain⟨l,F⟩:=ak;obtain⟨cvs,l1,l2,l3,l4,L,R⟩:=aEj r.sr aq F;have C:=aC4 (fn:=fn) (a:=a') (P:=P) (w:=w') rfl (by rw[l3,l1]) h5 l4;unfold resultOf at d;rw[F] at d;clear F l3 l4 A;match D,l,cvs,l1,l2,L,R,C,d with
  | [x],[v0],[J],_,_,L,R,C,d=>
    simp only[Ae] at d;subst d;have B:=R 0 x v0 J rfl rfl rfl;have Q:=L 0 v0 J rfl rfl;cases x with
    |t n=>
     simp only[aFe] at B;refine⟨J,C,J,Z.hand (some n),rfl,r.sr.hr.hand _,r.fr.hand _,Q,?_⟩;unfold aO at B ⊢;split;·rename_i k xs ad len cap;obtain⟨o1,o2,o3⟩:=B;exact⟨by simp[Gh.hand,o1],o2,o3⟩
     ·obtain⟨o1,o2,o3⟩:=B;exact⟨by simp[Gh.hand,o1],o2,o3⟩
     ·rcases B with B|⟨b,cap,ag,e,fz,m0,m1,m2,m3,m4,m5⟩
      ·exact .inl B
      ·exact .inr ⟨b,cap,ag,e,fz,m0,m1,m2,m3,by simp[Gh.hand,m4],m5⟩
     ·trivial
    |cell n av agg=>exact⟨J,C,J,Z.hand none,rfl,r.sr.hr.hand _,r.fr.hand _,Q,oJ B _ _ _ _⟩
  | [],[],[],_,_,L,R,C,d=>simp only[Ae] at d;subst d;exact⟨_,C,_,Z.hand none,rfl,r.sr.hr.hand _,r.fr.hand _,.tup [] #[] rfl (by simp),by simp[aO]⟩
  |x::y::D,v0::v1::l,J::c1::cvs,l1,_,L,R,C,d=>simp only[Ae] at d;subst d;refine⟨_,C,_,Z.hand none,rfl,r.sr.hr.hand _,r.fr.hand _,.tup _ _ (by simpa using l1.symm) ?_,by simp[aO]⟩;intro i c cv hc j;rw[AF,Aq] at hc;obtain⟨c',ap,rfl⟩:=hc;exact(L i c' cv ap (by simpa using j)).disown
 cases ex with
 |normal=>cases e<;>simp only[ada] at he;exact z _ _ hk
 |exit i=>simp[fin] at hk
 |ret=>cases e<;>simp only[ada] at he;exact z _ _ hk
end
def V.flatE:V->Bool
 | .ea cs=>cs.all V.flat1
 |v=>v.flat1
def V.flat2:V->Bool
 | .agg cs=>cs.all V.flat1
 | .ea cs=>cs.all V.flat1
 | .fn _ cs=>cs.all V.flatE
 |v=>v.flat1
def V.flat:V->Bool
 | .tup cs=>cs.all V.flat2
 |v=>v.flat2
section
variable{I:Nat->Nat->Prop}{ρ ρ':Nat->Nat}{N N':Nat}{w:World}{P:Program}
theorem VRel.flatE{v:V}{cv:Value}(h:VRel I ρ N w v cv)(m:v.flatE=true):VRel I ρ' N' w v cv:=by
 cases h with
 |ea cs b a f x p q e=>simp only[V.flatE,AA] at m;exact .ea cs b a f x p q (λj c i=>(e j c i).flat1 (m c (At i)))
 |bool b=>exact .bool b
 |int k n h=>exact .int k n h
 |str l s d h=>exact .str l s d h
 |sln k o=>exact .sln k o
 |sle k o z y=>exact .sle k o z y
 |sl k o xs b a len cap d i u r f p q e=>exact(VRel.sl k o xs b a len cap d i u r f p q e).flat1 rfl
 |nilp=>exact .nilp
 |nilif=>exact .nilif
 |fn f cs vs d e=>
  cases cs with
  |nil=>exact .fn f [] vs d (by simp)
  |cons c cs=>simp[V.flatE,V.flat1] at m
 |_=>simp[V.flatE,V.flat1] at m
theorem VRel.flat2{v:V}{cv:Value}(h:VRel I ρ N w v cv)(p:v.flat2=true):VRel I ρ' N' w v cv:=by
 cases h with
 |ea cs b e f q r u d=>exact(VRel.ea cs b e f q r u d).flatE p
 |agg cs vs a q z d=>simp only[V.flat2,AA] at p;exact .agg cs vs a q z (λi c cv j m=>(d i c cv j m).flat1 (p c (At j)))
 |bool b=>exact .bool b
 |int k n h=>exact .int k n h
 |str l s a h=>exact .str l s a h
 |sln k o=>exact .sln k o
 |sle k o B A=>exact .sle k o B A
 |sl k o xs b e len cap a j y x f r u d=>exact(VRel.sl k o xs b e len cap a j y x f r u d).flat1 rfl
 |nilp=>exact .nilp
 |nilif=>exact .nilif
 |fn f cs vs a d=>simp only[V.flat2,AA] at p;exact .fn f cs vs a (λi c cv j m=>(d i c cv j m).flatE (p c (At j)))
 |_=>simp[V.flat2,V.flat1] at p
theorem VRel.flat{v:V}{cv:Value}(h:VRel I ρ N w v cv)(j:v.flat=true):VRel I ρ' N' w v cv:=by
 cases h with
 |tup cs vs a d=>simp only[V.flat,AA] at j;exact .tup cs vs a (λi c cv m x=>(d i c cv m x).flat2 (j c (At m)))
 |agg cs vs a p z d=>exact(VRel.agg cs vs a p z d).flat2 j
 |bool b=>exact .bool b
 |int k n h=>exact .int k n h
 |str l s a h=>exact .str l s a h
 |sln k o=>exact .sln k o
 |sle k o B A=>exact .sle k o B A
 |sl k o xs b e len cap a m y u f q r d=>exact(VRel.sl k o xs b e len cap a m y u f q r d).flat1 rfl
 |nilp=>exact .nilp
 |nilif=>exact .nilif
 |fn f cs vs a d=>exact(VRel.fn f cs vs a d).flat2 j
 |ea cs b e f p q r d=>exact(VRel.ea cs b e f p q r d).flat2 j
 |_=>simp[V.flat,V.flat2,V.flat1] at j
def aH(P:Program)(f:FuncId)(vs:List V)(v:V):Prop:=∃hp',gc P f vs [] v hp'
theorem aH.frame{f:FuncId}{vs:List V}{v:V}(h:aH P f vs v)(hf:vs.all V.flat=true)(S:v.flat=true)(hp:List aJ):gc P f vs hp v hp:=by
 obtain⟨hp',h⟩:=h;intro w g F Q q H C J;let r:Gh:={I:=g.I,ρ:=g.ρ,O:=λ_=>none,β:=g.β}
 have h0:HR r [] w:=⟨by simp,by simp,by simp,by simp,q.exI,by simp[r]⟩
 refine(h w r F (Q.sub rfl (λh=>h) (λh=>by simp[r,h])) h0 H C (λi x cv Y u=>(J i x cv Y u).flat (AA.1 hf x (At Y)))).mono ?_;rintro e w' ⟨cv,g₁,rfl,X,y,q3,Z⟩;have blk:∀b,b<w.heap.size->w'.heap[b]? =w.heap[b]?:=λb l=>y.block b l (by simp) rfl
 have p:∀b j,b<w.heap.size->g₁.I b j->g.I b j:=λb j l B=>y.iSame b j l (by simp) rfl B
 have G:∀b,b<w.heap.size->g₁.O b=none:=λb l=>y.oSame b l (by simp) rfl
 let a:Gh:={I:=g₁.I,ρ:=g.ρ,O:=λb=>if b<w.heap.size then g.O b else (if g₁.O b=some .res then some .res else none),β:=g.β}
 have up:Up g.I g.ρ hp.length w a.I a.ρ hp.length w':=⟨y.up.mono,y.up.cell,λ_ _=>rfl,Ap _⟩
 have E:∀(id:Nat) cs,hp[id]? =some (some cs)->g.ρ id<w.heap.size:=by intro id cs d;exact(q.obj id cs d).lt
 have D:∀z v cv,aO g w z v cv->aO a w' z v cv:=by intro z v cv ho;refine dC ho rfl (λb j B=>⟨up.mono b j B,up.cell b j B⟩) ?_;intro b l;have m:=q.oLt b z l;exact⟨by simp[a,m,l],blk b m,λj hj=>p b j m hj⟩
 refine⟨cv,a,rfl,⟨?_,q.apart,?_,?_,X.exI,?_⟩,⟨rfl,y.os,y.tape,y.output,y.size,λb l _ _=>blk b l,up,λb j l _ _ B=>p b j l B,?_,λ_ cs h=>.inl ⟨cs,h⟩⟩,?_,?_⟩
 ·intro id cs d;refine(q.obj id cs d).keep (blk _ (E id cs d)) λL e fz h1 A=>?_
  exact⟨A.len,A.plain,A.typedUp rfl up.rho up.num rfl,A.cold,A.one,λj c cv W u=>(A.rel j c cv W u).up up,λj c cv W u=>D _ _ _ (A.own j c cv W u),A.bn⟩
 ·intro id cs d j B;exact q.notI id cs d j (p _ j (E id cs d) B)
 ·intro id cs d;have:=E id cs d;simp[a,this,q.notO id cs d]
 ·intro b o l;simp only[a] at l;split at l;·rename_i m;exact AI m y.size
  ·split at l;·rename_i M;exact X.oLt b _ M
   ·simp at l
 ·intro b l _ hO;simp[a,l,hO]
 ·exact q3.flat S
 ·unfold aO at Z ⊢;split
  ·rename_i k xs ad len cap;obtain⟨R,o2,o3⟩:=Z;refine⟨?_,(by obtain⟨L,e,fz,a1,a2,a3⟩:=o2;exact⟨L,e,fz,a1,a2,λhk=>(a3 hk).trans y.beta⟩),o3⟩;have:¬ad.block<w.heap.size:=by
    intro m;rw[G _ m] at R;simp at R
   simp[a,this,R]
  ·simp[V.flat,V.flat2,V.flat1] at S
  ·simp[V.flat,V.flat2,V.flat1] at S
  ·trivial
theorem aH.frameU{f:FuncId}{vs:List V}{k:EK}{xs:List (Ty k)}(h:aH P f vs (.ul k xs))(hf:vs.all V.flat=true)(hp:List aJ):gc P f vs hp (.ul k xs) hp:=by
 obtain⟨hp',h⟩:=h;intro w g F Q q H C L;let r:Gh:={I:=g.I,ρ:=g.ρ,O:=λ_=>none,β:=g.β}
 have h0:HR r [] w:=⟨by simp,by simp,by simp,by simp,q.exI,by simp[r]⟩
 refine(h w r F (Q.sub rfl (λh=>h) (λh=>by simp[r,h])) h0 H C (λi x cv X u=>(L i x cv X u).flat (AA.1 hf x (At X)))).mono ?_;rintro e w' ⟨cv,g₁,rfl,W,y,q3,R⟩;have blk:∀b,b<w.heap.size->w'.heap[b]? =w.heap[b]?:=λb d=>y.block b d (by simp) rfl
 have p:∀b j,b<w.heap.size->g₁.I b j->g.I b j:=λb j d B=>y.iSame b j d (by simp) rfl B
 have G:∀b,b<w.heap.size->g₁.O b=none:=λb d=>y.oSame b d (by simp) rfl
 let a:Gh:={I:=g₁.I,ρ:=g.ρ,O:=λb=>if b<w.heap.size then g.O b else (if g₁.O b=some .res then some .res else none),β:=g.β}
 have up:Up g.I g.ρ hp.length w a.I a.ρ hp.length w':=⟨y.up.mono,y.up.cell,λ_ _=>rfl,Ap _⟩
 have E:∀(id:Nat) cs,hp[id]? =some (some cs)->g.ρ id<w.heap.size:=by intro id cs l;exact(q.obj id cs l).lt
 have D:∀z v cv,aO g w z v cv->aO a w' z v cv:=by intro z v cv ho;refine dC ho rfl (λb j B=>⟨up.mono b j B,up.cell b j B⟩) ?_;intro b d;have m:=q.oLt b z d;exact⟨by simp[a,m,d],blk b m,λj hj=>p b j m hj⟩
 refine⟨cv,a,rfl,⟨?_,q.apart,?_,?_,W.exI,?_⟩,⟨rfl,y.os,y.tape,y.output,y.size,λb d _ _=>blk b d,up,λb j d _ _ B=>p b j d B,?_,λ_ cs h=>.inl ⟨cs,h⟩⟩,?_,?_⟩
 ·intro id cs l;refine(q.obj id cs l).keep (blk _ (E id cs l)) λJ e Y h1 A=>?_
  exact⟨A.len,A.plain,A.typedUp rfl up.rho up.num rfl,A.cold,A.one,λj c cv S u=>(A.rel j c cv S u).up up,λj c cv S u=>D _ _ _ (A.own j c cv S u),A.bn⟩
 ·intro id cs l j B;exact q.notI id cs l j (p _ j (E id cs l) B)
 ·intro id cs l;have:=E id cs l;simp[a,this,q.notO id cs l]
 ·intro b o d;simp only[a] at d;split at d;·rename_i m;exact AI m y.size
  ·split at d;·rename_i M;exact W.oLt b _ M
   ·simp at d
 ·intro b d _ hO;simp[a,d,hO]
 ·cases q3 with
  |ul _ _ ad cap hm=>exact .ul _ _ ad cap hm
 ·have no:∀b,g₁.O b=some .res->a.O b=some .res:=by
   intro b d;have:¬b<w.heap.size:=by intro m;rw[G _ m] at d;simp at d
   simp[a,this,d]
  rcases R with R|⟨b,cap,J,e,Y,m0,m1,m2,m3,m4,m5,m6,m7,m8,Z⟩
  ·exact .inl R
  ·exact .inr ⟨b,cap,J,e,Y,m0,m1,m2,m3,no _ m4,m5,m6,λhk=>(m7 hk).trans y.beta,m8,Z⟩
def V.flatU:V->Bool
 | .ul _ _=>true
 |v=>v.flat
theorem aH.frameR{f:FuncId}{vs:List V}{v:V}(h:aH P f vs v)(b:vs.all V.flat=true)(c:v.flatU=true)(hp:List aJ):gc P f vs hp v hp:=by
 by_cases a:∃k xs,v=.ul k xs;·obtain⟨k,xs,rfl⟩:=a;exact h.frameU b hp
 ·refine h.frame b ?_ hp;cases v<;>first|exact c|exact absurd ⟨_,_,rfl⟩ a
def V.fits:V->Prop
 | .int k n=>k.min<=n∧n<=k.max
 | .str l=>l.length<=cw
 | .sl _ _ xs=>xs.length<=cw
 | .agg cs=>∀c∈cs,match c with
   | .int k n=>k.min<=n∧n<=k.max
   | .str l=>l.length<=cw
   | .sl _ _ xs=>xs.length<=cw
   |_=>True
 |_=>True
theorem VRel.fits{v:V}{cv:Value}(h:VRel I ρ N w v cv):v.fits:=by
 cases h with
 |int k n h=>exact h
 |str l s a h=>subst a;simpa [V.fits,kn] using h
 |sln=>simp[V.fits]
 |sle=>simp[V.fits]
 |sl k o xs b j len cap a m p x f r u e=>simp only[V.fits];omega
 |agg cs vs a y z e=>
  intro c m;obtain⟨i,q,rfl⟩:=Be.1 m;have d:=e i _ _ (Ah q) (Am (by omega));generalize cs[i]=c at d;generalize vs[i]'(by omega)=cv at d;cases d with
  |int k n h=>exact h
  |str l s a h=>subst a;simpa [kn] using h
  |sln=>simp
  |sle=>simp
  |sl k o xs b j len cap a m p x f r u e=>simp only;omega
  |_=>trivial
 |_=>trivial
theorem aH.fits{f:FuncId}{vs:List V}{v:V}(h:(∀x∈vs,x.fits)->aH P f vs v):aH P f vs v:=by
 by_cases e:∀x∈vs,x.fits;·exact h e
 ·refine⟨[],?_⟩;intro w g c l j d b a;refine absurd ?_ e;intro x m;obtain⟨i,k,rfl⟩:=Be.1 m;exact(a i _ _ (Ah k) (Am (by omega))).fits
end
end Go.AM
end
