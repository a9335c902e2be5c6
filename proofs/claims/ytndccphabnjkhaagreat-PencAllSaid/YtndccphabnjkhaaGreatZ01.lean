import Derived.Orders
import Derived.MapKept
import Derived.WideKeyRuns
import Derived.WalkSpells
import Derived.Test.YtndccphabnjkhaaGreatZ00
set_option linter.all false
open Array renaming getElem?_eq_getElem→Am,length_toList→BX,getElem?_eq_none→BY,getElem?_append_left→B0,getElem?_modify→Ci,getElem?_toList→Ck,eq_empty_of_size_eq_zero→Dv,getElem?_push→DH
open Bool renaming and_eq_true→Ac,or_eq_true→Bg,eq_iff_iff→BH,false_eq_true→Cg,and_eq_false_iff→CX
open Go.Addr renaming add_lit→BO
open Go.Builtin renaming append_→CI,len_→Dc
open Go.Instr renaming sureAddr→BF,checkKey→Cf,fill→CH,sameBits→Dh,storeAt→Dn,mapUpdate→DE,sameNow→DY,indexAt→DZ
open Go.IntKind renaming signed→AN,bits→A6,max→Bo,min→BI
open Go.Oper renaming upon→C1,wp→C4
open Go.Result renaming andThen_ok→Cp
open Go.Sem renaming run_bind→Dd
open Go.World renaming cell?_setCells_out→A5,cell?→By,cell?_setCells_in→BJ,block_lt_of_cell?→BL,frozen?→B2
open List renaming length→Aa,getD→Af,getElem?_eq_some_iff→Ag,getElem?_eq_getElem→Ah,length_append→Ak,getD_eq_getElem?_getD→Aq,mem_of_getElem?→Ar,getElem?_append_right→At,getElem?_append_left→Au,all_eq_true→Aw,getElem?_set→Ax,mem_singleton→Ay,mem_append→Az,getElem?_map→AA,length_set→AD,mem_map→AH,length_drop→AL,mem_flatMap→AS,mem_iff_getElem→AU,getElem?_take→AY,mem_cons_of_mem→A0,getElem?_eq_none→A1,mem_cons→A3,mem_cons_self→A4,length_singleton→Ba,getElem?_drop→Bk,map_congr_left→Bl,getD_cons_zero→Bm,getElem?_set_ne→Bp,length_take→Bt,eq_nil_of_length_eq_zero→Bu,mem_of_mem_take→Bv,mem_of_mem_drop→Bw,map_append→BB,getElem?_set_self→BC,foldl_cons→BG,getElem?_cons_zero→BK,getElem_mem→BU,set→BV,length_map→BW,nil_append→B7,getElem?_replicate→Cb,flatMap_cons→Cq,getElem?_of_mem→Cr,replicate→Cy,cons_append→CB,ext_getElem?→CO,mem_range→CV,range'→C5,set_cons_zero→C9,set_cons_succ→Df,map_map→Dw,map_take→DW,map_drop→DX,set_comm→D0,size_toArray→D3
open List.cons renaming injEq→CG
open Nat renaming le_refl→Ap,eq_of_beq_eq_true→AE,lt_or_ge→AG,beq→AI,lt_of_lt_of_le→AJ,add_mul→AO,mul_le_mul_right→AV,le_trans→A7,ne_of_lt→Be,zero_add→Bf,mul_comm→BT,add_zero→B6,add_assoc→Co,div_lt_of_lt_mul→Cu,mul_one→Cv,div_add_mod→CJ,one_mul→CM,sub_self→De,le_mul_of_pos_right→Dk,le_of_not_lt→Dp,eq_zero_or_pos→DT,lt_irrefl→DV
open Ne renaming symm→CU
open Option renaming map_eq_some_iff→As,getD_some→A8,isSome_iff_exists→Bq,map_some→BA,bind_eq_some_iff→B9,map_map→CS,mem_toList→Dl
open Option.some renaming injEq→Ae,inj→AF
open Prod.mk renaming injEq→Aj
noncomputable section
namespace Go.AM
def sW(P:Program)(o:IOp)(m:Oper):Bool:=
 match o with
 | .blu d k=>(m.dst==some d)&&(match m.op with| .buildSlice t n f=>mK P t k&&(n==0&&f.isEmpty)|_=>false)
 | .apu d k x y=>(m.dst==some d)&&(match afm m.op with|some (.append,[b,h],[t,u])=>mK P t k&&(mK P u k&&(bB x b&&bB y h))|_=>false)
 | .lnw d x=>(m.dst==some d)&&(match afm m.op with|some (.len,[b],[t])=>(match P.underlying t with|some (.slice _)=>true|_=>false)&&bB x b|_=>false)
 | .ixw d k x i=>(m.dst==some d)&&(match m.op with| .indexAddr t b j=>mK P t k&&(bB x b&&bB i j)|_=>false)
 | .fdw d c x=>bN P (.fad d c x) m
 | .ldw d n agg x=>bN P (.ld d n agg false x) m
 | .stw d n x v=>(m.dst==d)&&(match m.op with| .store t b e=>(fm P t==some n)&&(bB x b&&bB v e)|_=>false)
 |_=>false
section
variable{w w':World}{g g':Gh}{s s':St}{a:Act}{P:Program}{Γ:aG}{m:Oper}{next:Act->World->Prop}{Q:Exit->Act->World->Prop}
theorem pS{i j n z:Nat}(b:i<n)(c:j<z):i*z+j<n*z:=by
 calc i*z+j<i*z+z:=by omega
  _=(i+1)*z:=by rw[AO,CM]
  _<=n*z:=AV _ b
theorem yA{I:Nat->Nat->Prop}{ρ:Nat->Nat}{N:Nat}{k:EK}{x:Ty k}{j:Nat}{v:V}{u:Value}(b:(enc k x)[j]? =some v)(h:VRel I ρ N w v u){ρ':Nat->Nat}{N':Nat}:VRel I ρ' N' w v u:=
 h.flat1 (akp k x v (Ar b))
theorem SR.newUL(h:SR g s w a)(k:EK)(xs:List (Ty k))(cap d:Nat)(q:Array Value)(e:TypeId)
  (R:w'.heap.size=w.heap.size+1) (f:∀b,b<w.heap.size->w'.heap[b]? =w.heap[b]?) {L:Nat×Nat} (C:w'.heap[w.heap.size]? =some (.cells q e L))
  (H:w'.os=w.os) (E:w'.tape=w.tape) (B:w'.output=w.output)
  (G:xs.length<=cap) (hm:cap<=cj) (y:cap*k.sz<=q.size) (A:k=.u8->e=g.β) (M:aij L q.size)
  (J:∀(i:Nat) x j v,xs[i]? =some x->(enc k x)[j]? =some v->∃cv,q[i*k.sz+j]? =some cv∧VRel g.I (λ_=>0) 0 w v cv):
  ∃g',SR g' (s.set d (.ul k xs)) w' (a.put (some d) (.slice (some ⟨w.heap.size,0,none⟩) xs.length cap))∧FR g s.hp w g' s.hp w':=by
 let g':Gh:={g with O:=λb=>if b=w.heap.size then some (.slot d) else g.O b}
 have t:∀b j,g.I b j->b<w.heap.size:=by intro b j l;obtain⟨v,J⟩:=Bq.1 (h.hr.exI b j l);exact BL _ _ J
 have c:∀b j,b<w.heap.size->w'.cell? ⟨b,j,none⟩=w.cell? ⟨b,j,none⟩:=by intro b j p;simp[By,f b p]
 have u:Up g.I g.ρ s.hp.length w g'.I g'.ρ s.hp.length w':=⟨λb j l=>l,λb j l=>c b j (t b j l),λ_ _=>rfl,Ap _⟩
 have hs:SR g' s w' a:=by
  refine h.keep none trivial rfl u ?_ ?_ ?_ ?_;·intro F b p _;have r:=h.hr.oLt b F p;exact⟨by simp[g',Be r,p],f b r,λj z=>z⟩
  ·intro id cs D;have r:=(h.hr.obj id cs D).lt;exact⟨f _ r,by simp[g',Be r,h.hr.notO id cs D],λj z=>z⟩
  ·intro b j z;rw[c b j (t b j z)];exact h.hr.exI b j z
  ·intro b o p;simp only[g'] at p;split at p;·omega
   ·have:=h.hr.oLt b o p;omega
 refine⟨g',hs.set d (.ul k xs _ _ (by omega)) (.inr ⟨w.heap.size,cap,q,e,L,M,rfl,G,hm,by simp[g'],C,y,A,?_,?_⟩),⟨rfl,H,E,B,by omega,λb p _ _=>f b p,u,λ_ _ _ _ _ l=>l,?_,λ_ cs h=>.inl ⟨cs,h⟩⟩⟩;·intro j l;exact absurd (t _ _ l) (DV _)
 ·intro i x j v cv S X N;obtain⟨Z,e1,Y⟩:=J i x j v S X;rw[e1] at N;obtain rfl:=AF N;exact Y.up ⟨λ_ _ l=>l,λb j l=>c b j (t b j l),λ_ _=>rfl,Ap _⟩
 ·intro b p _ W;simp[g',Be p,W]
theorem SR.inPlaceU(h:SR g s w a){p:Occ}(hp:zt (some p) s)(k:EK)(xs ys:List (Ty k))(b cap d:Nat)(news:List Value){r:Array Value}{e:TypeId}{H:Nat×Nat}(o0:aij H r.size)
  (D:g.O b=some p) (o2:w.heap[b]? =some (.cells r e H)) (o3:cap*k.sz<=r.size) (R:k=.u8->e=g.β) (oI:∀j,¬g.I b j)
  (oc:∀(i:Nat) x (j:Nat) v u,xs[i]? =some x->(enc k x)[j]? =some v->r[i*k.sz+j]? =some u->VRel g.I (λ_=>0) 0 w v u) (S:cap<=cj)
  (y:xs.length+ys.length<=cap) (hl:news.length=ys.length*k.sz)
  (Z:∀(i:Nat) x (j:Nat) v,ys[i]? =some x->(enc k x)[j]? =some v->∃u,news[i*k.sz+j]? =some u∧VRel g.I (λ_=>0) 0 w v u):
  ∃g',SR g' (s.set d (.ul k (xs++ys))) (w.setCells b (xs.length*k.sz) news) (a.put (some d) (.slice (some ⟨b,0,none⟩) (xs.length+ys.length) cap))∧
   FR g s.hp w g' s.hp (w.setCells b (xs.length*k.sz) news):=by
 have ab:xs.length*k.sz+news.length<=r.size:=by have:(xs.length+ys.length)*k.sz<=cap*k.sz:=AV _ y;rw[AO] at this;omega
 obtain⟨⟨B,q1,q2⟩,W,q4,q5,q6,q7⟩:=iV b news (xs.length*k.sz) w r e H o2;let w':=w.setCells b (xs.length*k.sz) news;let g':Gh:={g with O:=λf=>if f=b then some (.slot d) else g.O f}
 have q:∀f j,g.I f j->w'.cell? ⟨f,j,none⟩=w.cell? ⟨f,j,none⟩:=by intro f j t;exact A5 b news _ w _ (by rintro rfl _;exact absurd t (oI j))
 have X:∀(id:Nat) cs,s.hp[id]? =some (some cs)->g.ρ id≠b:=by intro id cs A Y;have:=h.hr.notO id cs A;rw[Y,D] at this;simp at this
 have u:Up g.I g.ρ s.hp.length w g'.I g'.ρ s.hp.length w':=⟨λb j t=>t,q,λ_ _=>rfl,Ap _⟩
 have hs:SR g' s w' a:=by
  refine h.keep (some p) hp rfl u ?_ ?_ ?_ ?_
  ·intro ai f c L;have l:f≠b:=by
    rintro rfl;rw[D] at c;exact L c
   exact⟨by simp[g',l,c],W f l,λj z=>z⟩
  ·intro id cs A;have l:=X id cs A;exact⟨W _ l,by simp[g',l,h.hr.notO id cs A],λj z=>z⟩
  ·intro f j z;rw[q f j z];exact h.hr.exI f j z
  ·intro f o c;simp only[g'] at c;rw[q4];split at c;·rename_i Y;subst Y;exact h.hr.oLt _ _ D
   ·exact h.hr.oLt _ _ c
 have F:∀j,B[j]? =if xs.length*k.sz<=j∧j<xs.length*k.sz+news.length then news[j-xs.length*k.sz]? else r[j]?:=by
  intro j;rw[<-bk q1 j];split;·rename_i z;have:=BJ b news (xs.length*k.sz) w (λj' am=>by rw[bk o2,Am (by omega)];rfl) (j-xs.length*k.sz) (by omega);rw[show xs.length*k.sz+(j-xs.length*k.sz)=j by omega] at this;rw[Ah (by omega)];exact this
  ·rename_i z;rw[A5 _ _ _ w _ (λ_ _=>by simp only;omega),bk o2]
 have ue:Up g.I (λ_=>0) 0 w g.I (λ_=>0) 0 w':=⟨λ_ _ t=>t,q,λ_ _=>rfl,Ap _⟩
 have M:∀x:Ty k,∀j v,(enc k x)[j]? =some v->j<k.sz:=by
  intro x j v Z;have:=(Ag.1 Z).1
  rwa [cQ] at this
 refine⟨g',hs.set d ?_ (.inr ⟨b,cap,B,e,H,by rw[q2];exact o0,by simp,by simpa using y,S,by simp[g'],q1,by rw[q2];exact o3,R,oI,?_⟩),⟨rfl,q5,q6,q7,by rw[q4];exact Ap _,λf c _ C=>?_,u,λ_ _ _ _ _ t=>t,?_,λ_ cs h=>.inl ⟨cs,h⟩⟩⟩;·have:=VRel.ul (I:=g'.I) (ρ:=g'.ρ) (N:=s.hp.length) (w:=w') k (xs++ys) (some ⟨b,0,none⟩) cap (by simp;omega);simpa using this
 ·intro i x j v cv G J E;have z:=M x j v J;rw[F] at E;rcases AG i xs.length with t|t;·rw[Au t] at G;have:=pS t z;rw[if_neg (by omega)] at E;exact(oc i x j v cv G J E).up ue
  ·rw[At t] at G;obtain⟨u',e1,e2⟩:=Z _ x j v G J;have au:=(Ag.1 e1).1;have hp':i*k.sz=xs.length*k.sz+(i-xs.length)*k.sz:=by rw[<-AO];congr 1;omega
   rw[if_pos (by omega),show i*k.sz+j-xs.length*k.sz=(i-xs.length)*k.sz+j by omega,e1] at E;obtain rfl:=AF E;exact e2.up ue
 ·have l:f≠b:=by rintro rfl;rw[D] at C;simp at C
  exact W f l
 ·intro f c _ C;have l:f≠b:=by rintro rfl;rw[D] at C;simp at C
  simp[g',l,C]
theorem aMM{x:ASrc}{d:Operand}{k:EK}{xs:List (Ty k)}(h:SR g s w a)(c:bB x d=true)(b:x.ev s=.ul k xs):
  ∃p,zt (some p) (x.after s)∧anV g w p k xs (a.eval d):=by
 unfold bB at c;split at c
 ·rename_i n k';obtain rfl:=by simpa using c
  simp only[ASrc.ev] at b;exfalso;cases e:s.get n<;>rw[e] at b<;>simp[disown] at b
 ·rename_i n k';obtain rfl:=by simpa using c
  refine⟨.slot n,acL n s,?_⟩;have:=h.er.getOwn n;rw[show s.get n=.ul k xs from b] at this;exact this
 ·rename_i v cv;simp only[ASrc.ev] at b;subst b;exact⟨.res,trivial,acK c _⟩
 ·rename_i f i;simp only[ASrc.ev] at b;cases b
 ·simp at c
theorem aJ0{p:Occ}{k:EK}{xs:List (Ty k)}{cv:Value}(h:anV g w p k xs cv):
  ∃L:List Value,L.length=xs.length*k.sz∧(∀(i:Nat) x (j:Nat) v,xs[i]? =some x->(enc k x)[j]? =some v->∃u,L[i*k.sz+j]? =some u∧VRel g.I (λ_=>0) 0 w v u)∧
   ((xs=[]∧cv=.slice none 0 0)∨∃b cap c e f,aij f c.size∧cv=.slice (some ⟨b,0,none⟩) xs.length cap∧xs.length<=cap∧w.heap[b]? =some (.cells c e f)∧cap*k.sz<=c.size∧∀j v,L[j]? =some v->w.cell? ⟨b,j,none⟩=some v):=by
 rcases h with⟨rfl,rfl⟩|⟨b,cap,c,e,f,C,B,q,G,J,r,t,H,F,E⟩
 ·exact⟨[],by simp,by simp,.inl ⟨rfl,rfl⟩⟩
 ·have D:xs.length*k.sz<=c.size:=A7 (AV _ q) t;refine⟨c.toList.take (xs.length*k.sz),by simp;omega,?_,.inr ⟨b,cap,c,e,f,C,B,q,r,t,?_⟩⟩
  ·intro i x j v A z;have d:j<k.sz:=by
    have:=(Ag.1 z).1
    rwa [cQ] at this
   have l:=pS (Ag.1 A).1 d;have y:c[i*k.sz+j]? =some (c[i*k.sz+j]'(by omega)):=Am _;refine⟨_,?_,E i x j v _ A z y⟩;rw[AY,if_pos l,Ck];exact y
  ·intro j v d;rw[AY] at d;split at d;·rw[Ck] at d;rw[bk r];exact d
   ·simp at d
theorem aIk(a0:g.β=kQ P){d:Nat}{k:EK}{x:ASrc}{O J:Operand}{xs ys:List (Ty k)}{X t u e:TypeId}{F:String}{G:Array Edge}{gd:Option (Nat×Bool)}(h:SR g s w a)
  (hx:bB x O=true) (ax:x.ev s=.ul k xs) (ut:P.underlying t=some (.slice e)) (he:ac8 P e k=true) (news:List Value)
  (H:_root_.Go.Src P k.sz u (a.eval J) ys.length news w) (hv:∀(i:Nat) x (j:Nat) v,ys[i]? =some x->(enc k x)[j]? =some v->∃u,news[i*k.sz+j]? =some u∧VRel g.I (λ_=>0) 0 w v u)
  (M:(xs.length+ys.length)*k.bytes<=jV)
  (hn:cW g s w a ((x.after s).set d (.ul k (xs++ys))) next):
  (⟨some d,.call ⟨.builtin .append,⟨[O,J]⟩,⟨[t,u]⟩⟩,X,F,G,gd⟩:Oper).wp P a w next Q:=by
 obtain⟨inf,z,i1,Z,i3,i4,i5,i6,i7⟩:=mQ he;have av:0<k.bytes:=by cases k<;>simp[EK.bytes];rename_i kk;cases kk<;>simp[as9]
 have W:xs.length+ys.length<=jV:=A7 (Dk _ av) M;obtain⟨p,hp,ho⟩:=aMM h hx ax;have h1:=h.after x;obtain⟨L,l1,l3,l4⟩:=aJ0 ho;have D:∀cv w',(CI #[t,u] X #[a.eval O,a.eval J]).run P w=.ok cv w'->(execOp a.eval ⟨some d,.call ⟨.builtin .append,⟨[O,J]⟩,⟨[t,u]⟩⟩,X,F,G,gd⟩).run P w=.ok (.value cv) w':=by intro cv w' S;simp[execOp,resolve,invoke,builtin,S]
 have C:(x.after s).hp=s.hp:=qJ x s
 have R:∀(y:Option Addr)(cap:Nat),a.eval O=.slice y xs.length cap->cap<xs.length+ys.length->
   (Builtin.firstCells k.sz xs.length (.slice y xs.length cap)).run P w.drew=.ok L.toArray w.drew->
   (⟨some d,.call ⟨.builtin .append,⟨[O,J]⟩,⟨[t,u]⟩⟩,X,F,G,gd⟩:Oper).wp P a w next Q:=by
  intro y cap hb A ah
  have S:=run_append_grow_src w t u X e inf z ut i1 i4 y xs.length cap L (by rw[Z];exact ah) (a.eval J) ys.length news (by rw[Z];exact H) A (by unfold jV at W;omega)
   (growslice_fits A (by rw[i3];exact M))
  have Y:xs.length+ys.length<=grownCap w (xs.length+ys.length) cap e:=by unfold grownCap Question.cut;exact Nat.le_add_right _ _
  have a4:grownCap w (xs.length+ys.length) cap e<=cj:=by have:=grownCap_le_maxLen w (xs.length+ys.length) cap e (by unfold maxLen;unfold jV at W;omega);simpa [maxLen,cj] using this
  let c:Array Value:=(L++news).toArray++Builtin.zeroCells z.cells (grownCap w (xs.length+ys.length) cap e-(xs.length+ys.length));have a2:=H.newsLen;have ag:c.size=grownCap w (xs.length+ys.length) cap e*k.sz:=by
   simp only[c,Array.size_append,D3,Ak,l1,a2,size_zeroCells,i7];rw[<-AO,<-AO]
   congr 1
   omega
  have f:=hU w.drew (.cells c e);obtain⟨g',q1,q2⟩:=h1.newUL (w':=w.drew.alloc (.cells c e)) k (xs++ys) (grownCap w (xs.length+ys.length) cap e) d c e f.1 f.2.1 f.2.2 rfl rfl rfl (by simpa using Y) a4 (by rw[ag];exact Ap _) (λhk=>by rw[a0];exact wv he hk) (aGU _) (by
   intro i x j v hx ab;have hj:j<k.sz:=by
    have:=(Ag.1 ab).1
    rwa [cQ] at this
   have B:∀(q:Nat) u,(L++news)[q]? =some u->c[q]? =some u:=by intro q u hq;have ay:=(Ag.1 hq).1;simp only[c];rw[B0 (by simpa using ay)];simpa using hq
   rcases AG i xs.length with hi|hi;·rw[Au hi] at hx;obtain⟨u,e1,e2⟩:=l3 i x j v hx ab;refine⟨u,B _ _ ?_,e2⟩;rw[Au (Ag.1 e1).1];exact e1
   ·rw[At hi] at hx;obtain⟨u,e1,e2⟩:=hv _ x j v hx ab;refine⟨u,B _ _ ?_,e2⟩;have:i*k.sz=xs.length*k.sz+(i-xs.length)*k.sz:=by rw[<-AO];congr 1;omega
    rw[At (by rw[l1];omega),l1,<-e1]
    congr 1
    omega)
  have aa:(execOp a.eval ⟨some d,.call ⟨.builtin .append,⟨[O,J]⟩,⟨[t,u]⟩⟩,X,F,G,gd⟩).run P w=.ok (.value (.slice (some ⟨w.heap.size,0,none⟩) (xs++ys).length (grownCap w (xs.length+ys.length) cap e))) (w.drew.alloc (.cells c e)):=by refine D _ _ ?_;rw[hb,S];simp[c]
  refine eH rfl aa ⟨g',q1,?_⟩ hn;rw[C] at q2;show FR g s.hp w g' (x.after s).hp _;rw[C];exact q2
 rcases l4 with⟨rfl,l⟩|⟨b,cap,c,e',fz,aq,l,A,hb,cc,E⟩
 ·by_cases h0:ys.length=0
  ·have a3:ys=[]:=Bu h0;subst a3;have S:(CI #[t,u] X #[a.eval O,a.eval J]).run P w=.ok (.slice none 0 0) w:=by
    have au:news=[]:=by have:=H.newsLen;simpa using this
    have hc:=H.cells;rw[l];rcases H.kind with⟨e',hk⟩|hk<;>simp[CI,run_underlying ut,run_underlying hk,sizeOf,typeInfo,i1,Z,H.len] at* <;>simp[hc]
   refine eH rfl (D _ _ S) ⟨g,?_,?_⟩ hn;·exact h1.set d (by simpa using VRel.ul (I:=g.I) (ρ:=g.ρ) (N:=(x.after s).hp.length) (w:=w) k ([]:List (Ty k)) none 0 (by simp)) (.inl ⟨by simp,rfl⟩)
   ·have:=FR.refl g s.hp w;simpa [St.set,C] using this
  ·exact R none 0 (by simpa using l) (by simp;omega) (by
    have hL:L=[]:=by simpa using l1
    subst hL;simpa using run_firstCells_none (P:=P) w.drew k.sz 0 0 0)
 ·by_cases r:xs.length+ys.length<=cap
  ·rcases ho with⟨rfl,ho⟩|⟨b2,a5,bd,e2,cx,m0,m1,m2,m3,m4,m5,m6,m7,m8,m9⟩
   ·rw[l] at ho;cases ho
   ·rw[l] at m1;cases m1;rw[hb] at m5;cases m5;have bb:xs.length*k.sz+news.length<=cap*k.sz:=by
     have:(xs.length+ys.length)*k.sz<=cap*k.sz:=AV _ r;rw[AO] at this;rw[H.newsLen];omega
    have S:=run_append_room_src w t u X e inf ut i1 b 0 xs.length cap (a.eval J) ys.length news (by rw[Z];exact H) r (by
     intro j hj;rw[Z,bk hb,Am (by omega)];rfl) (by
     intro j hj;rw[Z];have hc:=aq (0+xs.length*k.sz+j) (by omega);simp only[B2,hb,CX,decide_eq_false_iff_not];omega)
    rw[Z,Bf] at S;have q:=h1.inPlaceU hp k xs ys b cap d news m0 m4 hb m6 m7 m8 m9 m3 r H.newsLen hv;rw[C] at q;refine eH rfl (D _ _ (by rw[l];exact S)) ?_ hn;obtain⟨g',q1,q2⟩:=q;exact⟨g',q1,by simpa [St.set,C] using q2⟩
  ·exact R _ cap l (by omega) (run_firstCells_some w.drew k.sz xs.length ⟨b,0,none⟩ xs.length cap L (by simpa using l1) (by intro j v hj;rw[BO,Bf];exact E j v hj))
theorem aIl{d:Nat}{k:EK}{x y:ASrc}(C:g.β=kQ P)(q:sW P (.apu d k x y) m=true)(f:step Γ (.apu d k x y) s=some (true,s'))(h:SR g s w a)(Y:cW g s w a s' next):m.wp P a w next Q:=by
 obtain⟨dst,op,ty,W,S,gd⟩:=m;simp only[sW,Ac,beq_iff_eq] at q;obtain⟨rfl,q⟩:=q;split at q
 ·rename_i x' y' t u F;obtain rfl:=nX F;simp only[Ac] at q;obtain⟨N,O,h3,h4⟩:=q;obtain⟨e,u1,e1⟩:=eT N;obtain⟨e',E,e2⟩:=eT O;simp only[step] at f;split at f
  ·rename_i k' l R o X G hy;split at f
   ·rename_i hk;subst hk;split at f
    ·rename_i A;simp only[Ae,Aj,decide_eq_true_eq] at f;obtain⟨z,rfl⟩:=f;have B:=bA h4 h.er;rw[hy] at B;have B:=aGm A B;obtain⟨L,D,l2,l3,l4⟩:=auI B;refine aIk C h h3 G u1 e1 L (ys:=A▸X) ?_ (λi x j v G M=>by
      obtain⟨u,q1,q2⟩:=l3 i x j v G M;exact⟨u,q1,yA M q2⟩) (by rw[ate];exact z) Y
     rcases l4 with⟨p,J,r, -⟩|⟨b,am,cap,r,I,ai,c⟩
     ·rw[r,p];have Z:L=[]:=by rw[p] at D;simpa using D
      rw[Z];cases J with
      |none=>exact _root_.Go.Src.ofNil w E 0
      |some J=>exact _root_.Go.Src.ofSlice w E _ _ _ _ (by simp) (by intro j v H;simp at H) (by simp)
     ·rw[r];exact _root_.Go.Src.ofSlice w E _ _ _ _ D (by intro j v H;rw[BO];exact c j v H) l2
    ·simp at f
   ·simp at f
  ·simp at f
 ·simp at q
theorem aMN{d:Nat}{k:EK}(i:g.β=kQ P)(b:sW P (.blu d k) m=true)(B:step Γ (.blu d k) s=some (true,s'))(h:SR g s w a)(q:cW g s w a s' next):m.wp P a w next Q:=by
 obtain⟨dst,L,M,D,l,E⟩:=m;simp only[sW,Ac,beq_iff_eq] at b;obtain⟨rfl,b⟩:=b;split at b
 ·rename_i t n A;simp only[Ac,beq_iff_eq] at b;obtain⟨c,rfl,j⟩:=b;obtain rfl:_=s':=by simpa [step] using B
  obtain⟨e,r,c⟩:=eT c;obtain⟨inf,z,x,u,F,I,H,J,G⟩:=mQ c;have p:A= #[]:=by simpa using j
  have f:=hU w (.cells (#[]:Array Value) e);obtain⟨g',v,C⟩:=h.newUL (w':=w.alloc (.cells (#[]:Array Value) e)) k [] 0 d #[] e f.1 f.2.1 f.2.2 rfl rfl rfl (by simp) (by unfold cj;omega) (by simp) (λy=>by rw[i];exact wv c y) (aGU _) (by simp);refine eH rfl (cv:=.slice (some ⟨w.heap.size,0,none⟩) 0 0) ?_ ⟨g',v,C⟩ q;simp[execOp,Instr.buildSlice,run_underlying r,sizeOf,typeInfo,x,u,p,CH,newRow];rw[show Array.range 0= #[] from Dv (by simp),Array.map_empty]
 ·simp at b
theorem aMO{d:Nat}{x:ASrc}(b:sW P (.lnw d x) m=true)(i:step Γ (.lnw d x) s=some (true,s'))(h:SR g s w a)(r:cW g s w a s' next):m.wp P a w next Q:=by
 obtain⟨dst,F,G,C,y,D⟩:=m;simp only[sW,Ac,beq_iff_eq] at b;obtain⟨rfl,b⟩:=b;split at b
 ·rename_i v t j;obtain rfl:=nX j;simp only[Ac] at b;obtain⟨p,z⟩:=b;have f:=bA z h.er;split at p
  ·rename_i e u;simp only[step] at i;split at i
   ·rename_i n l;obtain rfl:_=s':=by simpa using i
    rw[l] at f;generalize c:a.eval v=cv at f;cases f with
    |hd _ E cap A=>refine bu h rfl (cv:=.int .i64 n) (by simp[execOp,resolve,c,invoke,builtin,Dc,run_underlying u,goInt]) ?_ rfl r;exact .int _ _ (by simp[BI,Bo,AN,A6,cj] at *;omega)
   ·rename_i k id n l;obtain rfl:_=s':=by simpa using i
    rw[l] at f;generalize c:a.eval v=cv at f;cases f with
    |sw _ _ _ B q A=>refine bu h rfl (cv:=.int .i64 n) (by simp[execOp,resolve,c,invoke,builtin,Dc,run_underlying u,goInt]) ?_ rfl r;exact .int _ _ (by simp[BI,Bo,AN,A6,cj] at *;omega)
   ·simp at i
  ·simp at p
 ·simp at b
theorem aMP{d:Nat}{k:EK}{x i:ASrc}(c:sW P (.ixw d k x i) m=true)(b:step Γ (.ixw d k x i) s=some (true,s'))(h:SR g s w a)(D:cW g s w a s' next):m.wp P a w next Q:=by
 obtain⟨dst,op,ty,B,A,W⟩:=m;simp only[sW,Ac,beq_iff_eq] at c;obtain⟨rfl,c⟩:=c;split at c
 ·rename_i t J L;simp only[Ac] at c;obtain⟨j,y,H⟩:=c;have l:=bA y h.er;have u:=bA H h.er;simp only[step] at b;split at b
  ·rename_i k' id R S n O N;split at b
   ·rename_i M;subst M;simp only[Ae,Aj,Ac,decide_eq_true_eq] at b;obtain⟨⟨E,C⟩,rfl⟩:=b;rw[O] at l;rw[N] at u;obtain⟨e,F,j⟩:=eT j;obtain⟨inf,z,I,G,X,Z,Y,_⟩:=mQ j;generalize r:a.eval J=cv at l;generalize p:a.eval L=ci at u;cases u;cases l with
    |sw _ _ _ q v hm=>
     have f:∀w':World,(sizeOf e).run P w'=.ok k'.sz w':=λw'=>by simp[sizeOf,typeInfo,I,G]
     refine bu h rfl (cv:=.pointer (some ⟨g.ρ id,n.toNat*k'.sz+0,none⟩)) ?_ (.wp _ _ _ _ q) rfl D;simp[execOp,r,p,DZ,asIntOf,run_underlying F,E,C,f,BO]
   ·simp at b
  ·simp at b
 ·simp at c
theorem aMQ{d f:Nat}{x:ASrc}(e:sW P (.fdw d f x) m=true)(j:step Γ (.fdw d f x) s=some (true,s'))(h:SR g s w a)(C:cW g s w a s' next):m.wp P a w next Q:=by
 obtain⟨dst,J,L,B,A,H⟩:=m;simp only[sW,bN,Ac,beq_iff_eq] at e;obtain⟨rfl,e⟩:=e;split at e
 ·rename_i t E I;simp only[Ac] at e;obtain⟨b,y⟩:=e;have l:=bA y h.er;split at b
  ·rename_i fs D;split at b
   ·rename_i G p;simp only[Ac,beq_iff_eq] at b;obtain⟨z,b⟩:=b;have c:∀w':World,∃n,n≠0∧(sizeOf G.type).run P w'=.ok n w':=by
     intro w';unfold atb fm at b;split at b;·rename_i n q;exact⟨n,by simpa using b,gv (by simpa [fm] using q) w'⟩
     ·simp at b
    obtain⟨n,u,c⟩:=c w;simp only[step] at j;split at j
    ·rename_i id k i o F;obtain rfl:_=s':=by simpa using j
     rw[F] at l;generalize v:a.eval E=cv at l;cases l with
     |wp _ _ _ _ r=>refine bu h rfl (cv:=.pointer (some ⟨g.ρ id,i*k.sz+(o+f),none⟩)) ?_ (.wp _ _ _ _ r) rfl C;simp[execOp,v,Instr.fieldAt,run_underlying D,p,BF,fieldPlace,c,u,z,BO,Co]
    ·simp at j
   ·simp at b
  ·simp at b
 ·simp at e
theorem ab3{id:Nat}{k:EK}{xs:List (Ty k)}(b:s.rowW id=some ⟨k,xs⟩):s.hp[id]? =some (some [.rw k xs]):=by
 unfold St.rowW at b;simp only[Af] at b;cases c:s.hp[id]? with
 |none=>rw[c] at b;simp at b
 |some x=>
  rw[c] at b;simp only[A8] at b;split at b;·simp only[Ae] at b;cases b;rfl
  ·cases b
theorem xY{k:EK}:∀(xs:List (Ty k))(i j:Nat)(x:Ty k)(v:V),xs[i]? =some x->(enc k x)[j]? =some v->(xs.flatMap (enc k))[i*k.sz+j]? =some v
 | [],i,j,x,v,b,_=>by simp at b
 |y::xs,0,j,x,v,b,c=>by simp at b;subst b;have e:=(Ag.1 c).1;simp only[Cq,Nat.zero_mul,Bf];rw[Au e];exact c
 |y::xs,i+1,j,x,v,b,c=>by
  have f:=xY xs i j x v (by simpa using b) c;simp only[Cq];have d:=cQ k y;rw[At (by rw[d,AO];omega),d,<-f]
  congr 1
  rw[AO];omega
theorem cN{k:EK}:∀(xs:List (Ty k)),(xs.flatMap (enc k)).length=xs.length*k.sz
 | []=>by simp
 |x::xs=>by simp[Cq,cN xs,cQ,AO];omega
theorem eq{k:EK}(xs:List (Ty k))(q:Nat)(v:V)(h:(xs.flatMap (enc k))[q]? =some v):∃x,xs[q / k.sz]? =some x∧(enc k x)[q%k.sz]? =some v:=by
 have c:=(Ag.1 h).1;rw[cN] at c;have d:0<k.sz:=by cases k<;>simp[EK.sz]
 have f:q / k.sz<xs.length:=Cu (by rw[BT];exact c);have i:q%k.sz<k.sz:=Nat.mod_lt _ d;have e:xs[q / k.sz]? =some xs[q / k.sz]:=Ah f;have b:q%k.sz<(enc k xs[q / k.sz]).length:=by rw[cQ];exact i
 refine⟨_,e,?_⟩;have:=xY xs _ _ _ _ e (Ah b);rw[show q / k.sz*k.sz+q%k.sz=q by rw[BT];exact CJ q k.sz,h] at this;rw[Ah b,<-this]
theorem qK{id:Nat}{k:EK}{xs:List (Ty k)}(h:SR g s w a)(f:s.rowW id=some ⟨k,xs⟩):∃b e d,w.heap[g.ρ id]? =some (.cells b e d)∧xs.length*k.sz<=b.size∧
  tj g s.hp.length w id [.rw k xs] b e d∧∀(i:Nat) x (j:Nat) v u,xs[i]? =some x->(enc k x)[j]? =some v->b[i*k.sz+j]? =some u->VRel g.I g.ρ s.hp.length w v u:=by
 obtain⟨b,e,d,l,c⟩:=(h.hr.obj id _ (ab3 f)).row rfl;obtain⟨A,y,B,z⟩:=c.typed k xs rfl;have t:xs.length*k.sz<=b.size:=by
  have:=c.len;simp only[cellsOf] at this
  rwa [cN] at this
 refine⟨b,e,d,l,t,c,?_⟩;intro i x j v u r q p;exact c.rel (i*k.sz+j) v u (by simp only[cellsOf];exact xY xs i j x v r q) p
theorem aMR{d n:Nat}{agg:Bool}{x:ASrc}(f:sW P (.ldw d n agg x) m=true)(q:step Γ (.ldw d n agg x) s=some (true,s'))(h:SR g s w a)(D:cW g s w a s' next):m.wp P a w next Q:=by
 obtain⟨dst,op,ty,O,J,gd⟩:=m;simp only[sW,bN,Ac,beq_iff_eq] at f;obtain⟨rfl,f⟩:=f;split at f
 ·rename_i t Y;simp only[Ac,beq_iff_eq,Bg] at f;obtain⟨G,H,y,h4⟩:=f;have A:=bA h4 h.er;simp only[step] at q;split at q
  ·rename_i id k i o hx;split at q
   ·rename_i k' xs S;split at q
    ·rename_i Z;obtain⟨rfl,X⟩:=Z;simp only[Ae,Aj,decide_eq_true_eq] at q;obtain⟨E,rfl⟩:=q;rw[hx] at A;generalize p:a.eval Y=cv at A;cases A with
     |wp _ _ _ _ ab=>
      obtain⟨l,e,fz,R,F,aa,u⟩:=qK h S;have z:xs[i]? =some xs[i]:=Ah E;have W:xs.getD i (aI k')=xs[i]:=by simp[Af,z]
      rw[W] at D;have L:=cQ k' xs[i];have C:i*k'.sz+k'.sz<=l.size:=by have:(i+1)*k'.sz<=xs.length*k'.sz:=AV _ E;rw[AO,CM] at this;omega
      have M:=uX (agg:=agg) (cs:=((enc k' xs[i]).drop o).take n) (vs:=(l.toList.drop (i*k'.sz+o)).take n) (w:=w) (I:=g.I) (ρ:=g.ρ) (N:=s.hp.length)
       (λc B=>ab1 k' _ c (Bw (Bv B))) (by simp;omega) (by
        rcases y with y|y;·exact .inl y
        ·right;simp;omega)
       (λj c cv f p=>by
        simp only[AY,Bk] at f p;split at f;·rename_i r;simp only[r,if_true] at p;exact u i _ (o+j) c cv z f (by rw[<-Ck,<-Co];exact p)
        ·simp at f)
      refine bu h rfl (cv:=if agg then .agg ((l.toList.drop (i*k'.sz+o)).take n).toArray else ((l.toList.drop (i*k'.sz+o)).take n).headD undef) ?_ M.disown (dZ _) D;have:=pQ (P:=P) (w:=w) (b:=g.ρ id) (o:=i*k'.sz+o) (vs:=(l.toList.drop (i*k'.sz+o)).take n) G H y (by simp;omega) (λj v r=>by
       rw[bk R];simp only[AY,Bk] at r;split at r;·simpa using r
       ·simp at r)
      simp[execOp,p,this]
    ·simp at q
   ·simp at q
  ·simp at q
 ·simp at f
theorem azQ(v:V):disown (disown v)=disown v:=by
 cases v with
 |sl k o xs=>cases o<;>rfl
 |_=>rfl
theorem azd(v:V):v.weak.weak=v.weak:=by cases v<;>rfl
theorem an0{v:V}(h:v.inRange):v.weak.inRange:=by cases v<;>first|exact h|trivial
theorem aG0{k:EK}{x d:Ty k}{o:Nat}{vs:List V}(h:ac7 k x o vs=some d)(e:∀c∈enc k x,c.inRange)(f:∀c∈vs,c.inRange):
  enc k d=((enc k x).take o++vs.map V.weak)++(enc k x).drop (o+vs.length):=by
 unfold ac7 at h;rw[awX h ?_]
 ·rw[BB,BB,Dw,DW,DX,aBV]
  congr 2
  exact Bl λc _=>azd c
 ·intro c b;rcases Az.1 b with b|b
  ·rcases Az.1 b with b|b;·exact e c (Bv b)
   ·obtain⟨v,i,rfl⟩:=AH.1 b;exact an0 (f v i)
  ·exact e c (Bw b)
theorem xZ(k:EK)(x:Ty k)(j E n:Nat):(enc k x)[j]?≠some (.bn E n):=by intro h;have:=akp k x _ (Ar h);simp[V.flat1] at this
theorem SR.putElt(h:SR g s w a){id i o:Nat}{k:EK}{xs:List (Ty k)}(ho:s.rowW id=some ⟨k,xs⟩)(r:i<xs.length){H:Ty k}{vs:List V}{us:List Value}(hl:vs.length=us.length)(bb:o+vs.length<=k.sz)
  (he:enc k H=((enc k xs[i]).take o++vs.map V.weak)++(enc k xs[i]).drop (o+vs.length))
  (hv:∀(j:Nat) c cv,vs[j]? =some c->us[j]? =some cv->VRel g.I g.ρ s.hp.length w c cv):
  SR g (s.setObj id [.rw k (xs.set i H)]) (w.setCells (g.ρ id) (i*k.sz+o) us) a∧FR g s.hp w g (s.hp.set id (some [.rw k (xs.set i H)])) (w.setCells (g.ρ id) (i*k.sz+o) us):=by
 have x:=ab3 ho;obtain⟨O,e,fz,hb,Y,ae,F⟩:=qK h ho;obtain⟨t1,t2,t3,t4⟩:=ae.typed k xs rfl;obtain⟨⟨G,q1,q2⟩,q3,q4,q5,q6,q7⟩:=iV (g.ρ id) us (i*k.sz+o) w O e fz hb;let w':=w.setCells (g.ρ id) (i*k.sz+o) us;have av:i*k.sz+k.sz<=O.size:=by have:(i+1)*k.sz<=xs.length*k.sz:=AV _ r;rw[AO,CM] at this;omega
 have ai:∀b j,g.I b j->b≠g.ρ id:=by rintro b j r rfl;exact h.hr.notI id _ x j r
 have B:∀b j,g.I b j->w'.cell? ⟨b,j,none⟩=w.cell? ⟨b,j,none⟩:=by intro b j r;exact A5 _ _ _ w _ (λe=>absurd e (ai b j r))
 have u:Up g.I g.ρ s.hp.length w g.I g.ρ s.hp.length w':=⟨λ_ _ h=>h,B,λ_ _=>rfl,Ap _⟩
 have C:∀L v cv,aP g w L v cv->aP g w' L v cv:=by intro L v cv ad;refine dg ad rfl (λb j r=>⟨u.mono b j r,u.cell b j r⟩) ?_;intro b D;refine⟨D,q3 b ?_,λj J=>J⟩;rintro rfl;rw[h.hr.notO id _ x] at D;simp at D
 have X:∀j,G[j]? =if i*k.sz+o<=j∧j<i*k.sz+o+us.length then us[j-(i*k.sz+o)]? else O[j]?:=by
  intro j;rw[<-bk q1 j];split;·rename_i J;have:=BJ (g.ρ id) us (i*k.sz+o) w (λj' a6=>by rw[bk hb,Am (by omega)];rfl) (j-(i*k.sz+o)) (by omega);rw[show i*k.sz+o+(j-(i*k.sz+o))=j by omega] at this;rw[Ah (by omega)];exact this
  ·rename_i J;rw[A5 _ _ _ w _ (λ_ _=>by simp only;omega),bk hb]
 have al:id<s.hp.length:=(Ag.1 x).1;have split:∀(f:Nat) o',(s.hp.set id (some [V.rw k (xs.set i H)]))[f]? =some (some o')->(f=id∧o'=[V.rw k (xs.set i H)])∨(f≠id∧s.hp[f]? =some (some o')):=by
  intro f o' l;rw[Ax] at l;split at l;·rename_i e;simp[al] at l;exact .inl ⟨e.symm,l.symm⟩
  ·rename_i e;exact .inr ⟨λe'=>e e'.symm,l⟩
 have A:∀(f:Nat) o',(s.hp.set id (some [V.rw k (xs.set i H)]))[f]? =some (some o')->∃M,s.hp[f]? =some (some M):=by
  intro f o' l;rcases split f o' l with⟨rfl,_⟩|⟨_,l⟩
  ·exact⟨_,x⟩
  ·exact⟨_,l⟩
 have ac:0<k.sz:=by cases k<;>simp[EK.sz]
 have ab:xs[i]? =some xs[i]:=Ah r;have W:∀(q:Nat) c cv,(cellsOf [V.rw k (xs.set i H)])[q]? =some c->G[q]? =some cv->VRel g.I g.ρ s.hp.length w' c cv:=by
  intro q c cv p d;simp only[cellsOf] at p;obtain⟨y,S,p⟩:=eq _ q c p;have l:q / k.sz*k.sz+q%k.sz=q:=by rw[BT];exact CJ q k.sz
  have hr:q%k.sz<k.sz:=Nat.mod_lt _ ac;rw[X] at d;rw[Ax] at S;split at S
  ·rename_i e1;rw[<-e1] at l;simp only[r,if_true,Ae] at S;subst S;have ba:=cQ k xs[i];have hg:=aku (enc k xs[i]) (vs.map V.weak) o (by simp only[BW];omega) (q%k.sz);simp only[BW] at hg;rw[he,hg] at p;split at p;·rename_i J;rw[if_pos (by omega)] at d;rw[AA,As] at p;obtain⟨v,ak,rfl⟩:=p;rw[show q-(i*k.sz+o)=q%k.sz-o by omega] at d;exact((hv _ v cv ak d).weak).up u
   ·rename_i J;rw[if_neg (by omega)] at d;exact(F i _ (q%k.sz) c cv ab p (by rw[l];exact d)).up u
  ·rename_i e1;rw[if_neg ?_] at d;·exact(F _ y (q%k.sz) c cv S p (by rw[l];exact d)).up u
   ·intro hh;rcases AG (q / k.sz) i with h1|h1;·have:=pS h1 hr;omega
    ·have h2:i<q / k.sz:=by omega
     have:(i+1)*k.sz<=q / k.sz*k.sz:=AV _ h2;rw[AO,CM] at this;omega
 refine⟨⟨⟨?_,?_,?_,?_,?_,?_⟩,⟨h.er.size,?_,?_⟩⟩,⟨rfl,q5,q6,q7,by rw[q4];exact Ap _,?_,?_,λ_ _ _ _ _ r=>r,λ_ _ _ hO=>hO,?_⟩⟩
 ·intro f o' l;simp only[St.setObj,AD];rcases split f o' l with⟨rfl,rfl⟩|⟨N,l⟩
  ·refine ig.ofRow (e:=e) q1 ⟨?_,(by intro hf;cases hf),?_,(λj J=>t1 j (AJ J (by simp only[cellsOf,cN,AD];exact Y))),?_,W,?_,?_⟩ rfl;·simp only[cellsOf,cN,AD,q2];exact Y
   ·intro t ys hz;have hz:some _=some _:=hz;cases hz;exact⟨by rw[q2];exact t1,by rw[q2];exact t2,t3,t4⟩
   ·intro c p;simp only[cellsOf,AS] at p;obtain⟨y,_,p⟩:=p;exact ab1 k y c p
   ·intro j c cv p d;have Z:=Ar p;simp only[cellsOf,AS] at Z;obtain⟨y,_,Z⟩:=Z;exact jI (qI k y c Z) _ _ _ _
   ·intro j E n p;simp only[cellsOf] at p;obtain⟨y,_,p⟩:=eq _ j _ p;exact absurd p (xZ k y _ E n)
  ·refine(h.hr.obj f o' l).keep ?_ λax e2 bh z t=>⟨t.len,t.plain,t.typedUp rfl u.rho u.num rfl,t.cold,t.one,λj c cv p d=>(t.rel j c cv p d).up u,λj c cv p d=>C _ _ _ (t.own j c cv p d),t.bn⟩
   rw[q3 _ (h.hr.apart f id o' _ l x N)]
 ·intro id1 ah R c2 z t N;obtain⟨_,z⟩:=A id1 R z;obtain⟨_,t⟩:=A ah c2 t;exact h.hr.apart _ _ _ _ z t N
 ·intro id1 R z;obtain⟨_,z⟩:=A id1 R z;exact h.hr.notI _ _ z
 ·intro id1 R z;obtain⟨_,z⟩:=A id1 R z;exact h.hr.notO _ _ z
 ·intro b j r;rw[B b j r];exact h.hr.exI b j r
 ·intro b oc D;rw[q4];exact h.hr.oLt b oc D
 ·intro n v cv l d;simp only[St.setObj,AD];exact(h.er.rel n v cv l d).up u
 ·intro n v cv l d;exact C _ _ _ (h.er.own n v cv l d)
 ·intro b _ aa _;exact q3 b (λe=>aa id _ x e.symm)
 ·simp only[AD];exact u
 ·intro f o' l;obtain⟨M,l⟩:=A f o' l;exact .inl ⟨M,l⟩
theorem aMS{d:Option Nat}{n:Nat}{x v:ASrc}(f:sW P (.stw d n x v) m=true)(l:step Γ (.stw d n x v) s=some (true,s'))(h:SR g s w a)(Y:cW g s w a s' next):m.wp P a w next Q:=by
 obtain⟨dst,op,ty,S,H,gd⟩:=m;simp only[sW,Ac,beq_iff_eq] at f;obtain⟨rfl,f⟩:=f;split at f
 ·rename_i t x' r;simp only[Ac,beq_iff_eq] at f;obtain⟨h1,h2,h3⟩:=f;have L:=bA h2 h.er;have r2:=bA h3 h.er;simp only[step] at l;split at l
  ·rename_i id k i o hx;split at l
   ·rename_i k' xs Z;split at l
    ·rename_i b;obtain⟨rfl,am,b⟩:=b;simp only[Ac,beq_iff_eq] at b;obtain⟨F,D⟩:=b;split at l
     ·rename_i x2 z;simp only[Ae,Aj,decide_eq_true_eq] at l;obtain⟨E,rfl⟩:=l;have hd:xs.getD i (aI k')=xs[i]:=by simp[Af,Ah E]
      rw[hd] at z;rw[hx] at L;generalize G:a.eval x'=cx at L;cases L with
      |wp _ _ _ _ an=>
       obtain⟨C,e,fz,X,ae,N,A⟩:=qK h Z;obtain⟨I,c2,M⟩:=ac9 r2 D;have B:(a.eval r).cells.size=n:=by rw[<-I];exact F
       have W:i*k'.sz+k'.sz<=C.size:=by have:(i+1)*k'.sz<=xs.length*k'.sz:=AV _ E;rw[AO,CM] at this;omega
       have y:(execOp a.eval ⟨dst,.store t x' r,ty,S,H,gd⟩).run P w=.ok .skip (w.setCells (g.ρ id) (i*k'.sz+o) (a.eval r).cells.toList):=by
        have:=run_storeCells_cells (P:=P) (g.ρ id) (i*k'.sz+o) (a.eval r).cells.toList 0 w
         (λj p=>by rw[bk X,Am (by simp at p;omega)];rfl)
         (λj p=>by have f:=(N.typed k' xs rfl).1 (i*k'.sz+o+j) (by simp at p;omega);simp[B2,X];omega)
         (λu hu=>by
          obtain⟨j,p,rfl⟩:=AU.1 hu;have q:j<(v.ev s).cells.length:=by rw[I];simpa using p
          exact(M j _ _ (Ah q) (by simp)).oneCell (c2 _ (BU q)))
        simp[execOp,G,Dn,BF,storeVar,gv h1,B,this]
       have J:∀c∈enc k' xs[i],c.inRange:=by
        intro c f;obtain⟨j,p,rfl⟩:=AU.1 f;have q:j<k'.sz:=by rwa [cQ] at p
        exact(A i _ j _ _ (Ah E) (Ah p) (Am (show i*k'.sz+j<C.size by omega))).inRange
       have O:∀c∈(v.ev s).cells,c.inRange:=by intro c f;obtain⟨j,p,rfl⟩:=AU.1 f;exact(M j _ _ (Ah p) (Am (show j<(a.eval r).cells.size by omega))).inRange
       obtain⟨p1,p2⟩:=h.putElt (o:=o) (us:=(a.eval r).cells.toList) Z E (by simpa using I) (by omega) (aG0 z J O) (λj c cv f R=>M j c cv f (by simpa using R));unfold C4 C1;rw[y];cases dst with
       |none=>exact Y _ _ g p1 p2 rfl
       |some d=>exact Y _ _ g (p1.set d (.undef _) (by simp[aP])) p2 rfl
     ·simp at l
    ·simp at l
   ·simp at l
  ·simp at l
 ·simp at f
end
def atg(P:Program)(o:IOp)(m:Oper):Bool:=
 match o with
 | .stn d x v=>(m.dst==d)&&(match m.op with| .store t c b=>(fm P t==some 1)&&(bB x c&&bB v b)|_=>false)
 | .ldn d x=>bN P (.ld d 1 false false x) m
 |_=>false
section
variable{w w':World}{g g':Gh}{s s':St}{a:Act}{P:Program}{Γ:aG}{m:Oper}{next:Act->World->Prop}{Q:Exit->Act->World->Prop}
theorem SR.putObj(h:SR g s w a){id p:Nat}{k:EK}{xs ys:List (Ty k)}(ho:s.rowW id=some ⟨k,xs⟩){us:List Value}(hp:p+us.length<=xs.length*k.sz){ob:List V}
  (S:akq ob=some ⟨k,ys⟩) (ap:(cellsOf ob).length<=xs.length*k.sz) (ah:dH ob=true) (ag:kP ob=false) (h1:∀c∈cellsOf ob,c.one=true)
  (W:∀c∈cellsOf ob,c.bare=true) (aa:∀c∈cellsOf ob,noBn c=true)
  (hv:∀(q:Nat) c cv,(cellsOf ob)[q]? =some c->(if p<=q∧q<p+us.length then us[q-p]? else w.cell? ⟨g.ρ id,q,none⟩)=some cv->VRel g.I g.ρ s.hp.length w c cv):
  SR g (s.setObj id ob) (w.setCells (g.ρ id) p us) a∧FR g s.hp w g (s.hp.set id (some ob)) (w.setCells (g.ρ id) p us):=by
 have r:=ab3 ho;obtain⟨O,e,fz,R,ar,ad,ak⟩:=qK h ho;obtain⟨t1,t2,t3,t4⟩:=ad.typed k xs rfl;obtain⟨⟨D,q1,q2⟩,q3,q4,q5,q6,q7⟩:=iV (g.ρ id) us (p) w O e fz R;let w':=w.setCells (g.ρ id) (p) us;have Y:∀b j,g.I b j->b≠g.ρ id:=by rintro b j B rfl;exact h.hr.notI id _ r j B
 have x:∀b j,g.I b j->w'.cell? ⟨b,j,none⟩=w.cell? ⟨b,j,none⟩:=by intro b j B;exact A5 _ _ _ w _ (λe=>absurd e (Y b j B))
 have u:Up g.I g.ρ s.hp.length w g.I g.ρ s.hp.length w':=⟨λ_ _ h=>h,x,λ_ _=>rfl,Ap _⟩
 have z:∀G v cv,aP g w G v cv->aP g w' G v cv:=by intro G v cv ac;refine dg ac rfl (λb j B=>⟨u.mono b j B,u.cell b j B⟩) ?_;intro b A;refine⟨A,q3 b ?_,λj F=>F⟩;rintro rfl;rw[h.hr.notO id _ r] at A;simp at A
 have N:∀j,D[j]? =if p<=j∧j<p+us.length then us[j-(p)]? else O[j]?:=by
  intro j;rw[<-bk q1 j];split;·rename_i F;have:=BJ (g.ρ id) us (p) w (λj' a2=>by rw[bk R,Am (by omega)];rfl) (j-(p)) (by omega);rw[show p+(j-(p))=j by omega] at this;rw[Ah (by omega)];exact this
  ·rename_i F;rw[A5 _ _ _ w _ (λ_ _=>by simp only;omega),bk R]
 have ab:id<s.hp.length:=(Ag.1 r).1;have split:∀(d:Nat) o',(s.hp.set id (some ob))[d]? =some (some o')->(d=id∧o'=ob)∨(d≠id∧s.hp[d]? =some (some o')):=by
  intro d o' i;rw[Ax] at i;split at i;·rename_i e;simp[ab] at i;exact .inl ⟨e.symm,i.symm⟩
  ·rename_i e;exact .inr ⟨λe'=>e e'.symm,i⟩
 have y:∀(d:Nat) o',(s.hp.set id (some ob))[d]? =some (some o')->∃H,s.hp[d]? =some (some H):=by
  intro d o' i;rcases split d o' i with⟨rfl,_⟩|⟨_,i⟩
  ·exact⟨_,r⟩
  ·exact⟨_,i⟩
 have M:∀(q:Nat) c cv,(cellsOf ob)[q]? =some c->D[q]? =some cv->VRel g.I g.ρ s.hp.length w' c cv:=by
  intro q c cv C f;rw[N] at f;refine(hv q c cv C ?_).up u;split;·rename_i F;rw[if_pos F] at f;exact f
  ·rename_i F;rw[if_neg F] at f;rw[bk R];exact f
 refine⟨⟨⟨?_,?_,?_,?_,?_,?_⟩,⟨h.er.size,?_,?_⟩⟩,⟨rfl,q5,q6,q7,by rw[q4];exact Ap _,?_,?_,λ_ _ _ _ _ B=>B,λ_ _ _ hO=>hO,?_⟩⟩
 ·intro d o' i;simp only[St.setObj,AD];rcases split d o' i with⟨rfl,rfl⟩|⟨J,i⟩
  ·refine ig.ofRow (e:=e) q1 ⟨by rw[q2];omega,(by rw[ah];intro hf;cases hf),?_,(λj F=>t1 j (by omega)),h1,M,?_,?_⟩ ag;·intro l a0 hz;rw[S] at hz;cases hz;exact⟨by rw[q2];exact t1,by rw[q2];exact t2,t3,t4⟩
   ·intro j c cv C f;exact jI (W c (Ar C)) _ _ _ _
   ·intro j E n C;have:=aa _ (Ar C);simp[noBn] at this
  ·refine(h.hr.obj d o' i).keep ?_ λao e2 a6 t l=>⟨l.len,l.plain,l.typedUp rfl u.rho u.num rfl,l.cold,l.one,λj c cv C f=>(l.rel j c cv C f).up u,λj c cv C f=>z _ _ _ (l.own j c cv C f),l.bn⟩
   rw[q3 _ (h.hr.apart d id o' _ i r J)]
 ·intro id1 X L c2 t l J;obtain⟨_,t⟩:=y id1 L t;obtain⟨_,l⟩:=y X c2 l;exact h.hr.apart _ _ _ _ t l J
 ·intro id1 L t;obtain⟨_,t⟩:=y id1 L t;exact h.hr.notI _ _ t
 ·intro id1 L t;obtain⟨_,t⟩:=y id1 L t;exact h.hr.notO _ _ t
 ·intro b j B;rw[x b j B];exact h.hr.exI b j B
 ·intro b oc A;rw[q4];exact h.hr.oLt b oc A
 ·intro n v cv i f;simp only[St.setObj,AD];exact(h.er.rel n v cv i f).up u
 ·intro n v cv i f;exact z _ _ _ (h.er.own n v cv i f)
 ·intro b _ Z _;exact q3 b (λe=>Z id _ r e.symm)
 ·simp only[AD];exact u
 ·intro d o' i;obtain⟨H,i⟩:=y d o' i;exact .inl ⟨H,i⟩
theorem ahm{k:EK}{xs:List (Ty k)}{p:Nat}{v:V}{q:Nat}{c:V}(b:((xs.flatMap (enc k)).set p v)[q]? =some c):(q=p∧c=v)∨(q≠p∧(xs.flatMap (enc k))[q]? =some c):=by
 rw[Ax] at b;split at b
 ·rename_i e;split at b;·exact .inl ⟨e.symm,(AF b).symm⟩
  ·simp at b
 ·rename_i e;exact .inr ⟨λd=>e d.symm,b⟩
theorem aqU{k:EK}{xs:List (Ty k)}{q:Nat}{c:V}(d:(xs.flatMap (enc k))[q]? =some c):∃x,c∈enc k x:=by have b:=Ar d;simp only[AS] at b;obtain⟨y,_,b⟩:=b;exact⟨y,b⟩
theorem aMT{k:EK}{x:Ty k}{c:V}(b:c∈enc k x):noBn c=true:=by
 obtain⟨j,e,rfl⟩:=AU.1 b;generalize d:(enc k x)[j]=v;cases v with
 |bn E n=>exact absurd (d▸Ah e) (xZ k x j E n)
 |_=>rfl
theorem aIm{d:Option Nat}{x v:ASrc}(f:atg P (.stn d x v) m=true)(r:step Γ (.stn d x v) s=some (true,s'))(h:SR g s w a)(hn:cW g s w a s' next):m.wp P a w next Q:=by
 obtain⟨dst,op,ty,X,I,gd⟩:=m;simp only[atg,Ac,beq_iff_eq] at f;obtain⟨rfl,f⟩:=f;split at f
 ·rename_i t x' Y;simp only[Ac,beq_iff_eq] at f;obtain⟨R,h2,h3⟩:=f;have L:=bA h2 h.er;have E:=bA h3 h.er;simp only[step] at r;split at r
  ·rename_i id k i o k2 M n2 hx hv;split at r
   ·rename_i k' xs ho;split at r
    ·rename_i A;obtain⟨rfl,am⟩:=A;simp only[Ae,Aj,decide_eq_true_eq] at r;obtain⟨hi,rfl⟩:=r;rw[hx] at L;rw[hv] at E;generalize H:a.eval x'=cx at L;generalize S:a.eval Y=B at E;cases L with
     |wp _ _ _ _ ao=>
      obtain⟨av,e,fz,J,ah,O,D⟩:=qK h ho;have aa:i*k'.sz+k'.sz<=xs.length*k'.sz:=by have:(i+1)*k'.sz<=xs.length*k'.sz:=AV _ hi;rw[AO,CM] at this;omega
      have G:B.oneCell'=true:=E.oneCell rfl;have C:(execOp a.eval ⟨dst,.store t x' Y,ty,X,I,gd⟩).run P w=.ok .skip (w.setCells (g.ρ id) (i*k'.sz+o) [B]):=by
       have:=run_storeCells_cells (P:=P) (g.ρ id) (i*k'.sz+o) [B] 0 w
        (λj W=>by rw[bk J,Am (by simp at W;omega)];rfl)
        (λj W=>by have f:=(O.typed k' xs rfl).1 (i*k'.sz+o+j) (by simp at W;omega);simp[B2,J];omega)
        (λu Z=>by simp only[Ay] at Z;subst Z;exact G)
       have z:B.cells= #[B]:=by cases E;rfl
       simp[execOp,H,S,Dn,BF,storeVar,gv R,z,this]
      obtain⟨p1,p2⟩:=h.putObj (p:=i*k'.sz+o) (us:=[B]) (ys:=xs) (ob:=[.tup [.rw k' xs,.sw k2 M n2,.wp id k' i o]]) ho (by simp;omega) rfl
       (by simp only[cellsOf,AD,cN];exact Ap _) rfl rfl
       (by
        intro c f;obtain⟨q,b⟩:=Cr f;rcases ahm b with⟨_,rfl⟩|⟨_,b⟩
        ·rfl
        ·obtain⟨y,F⟩:=aqU b;exact ab1 k' y c F)
       (by
        intro c f;obtain⟨q,b⟩:=Cr f;rcases ahm b with⟨_,rfl⟩|⟨_,b⟩
        ·rfl
        ·obtain⟨y,F⟩:=aqU b;exact qI k' y c F)
       (by
        intro c f;obtain⟨q,b⟩:=Cr f;rcases ahm b with⟨_,rfl⟩|⟨_,b⟩
        ·rfl
        ·obtain⟨y,F⟩:=aqU b;exact aMT F)
       (by
        intro q c cv b l;rcases ahm b with⟨rfl,rfl⟩|⟨ak,b⟩
        ·rw[if_pos (by simp)] at l;simp at l;subst l;exact E
        ·rw[if_neg (by simp;omega),bk J] at l;obtain⟨y,hy,N⟩:=eq xs q c b;refine D (q / k'.sz) y (q%k'.sz) c cv hy N ?_;rw[show q / k'.sz*k'.sz+q%k'.sz=q by rw[BT];exact CJ q k'.sz];exact l)
      unfold C4 C1;rw[C];cases dst with
      |none=>exact hn _ _ g p1 p2 rfl
      |some d=>exact hn _ _ g (p1.set d (.undef _) (by simp[aP])) p2 rfl
    ·simp at r
   ·simp at r
  ·simp at r
 ·simp at f
theorem aB3{id:Nat}{c:Hol}(b:s.rowH id=some c):∃f e,s.hp[id]? =some (some [.tup [.rw c.k c.xs,.sw c.k2 c.id2 c.n2,.wp f e c.i c.o]]):=by
 unfold St.rowH at b;simp only[Af] at b;cases d:s.hp[id]? with
 |none=>rw[d] at b;simp at b
 |some x=>
  rw[d] at b;simp only[A8] at b;split at b;·simp only[Ae] at b;subst b;exact⟨_,_,rfl⟩
  ·cases b
theorem auJ{id:Nat}{b:Hol}(h:SR g s w a)(l:s.rowH id=some b):∃c e d,w.heap[g.ρ id]? =some (.cells c e d)∧b.xs.length*b.k.sz<=c.size∧
  (∃cs,s.hp[id]? =some (some cs)∧akq cs=some ⟨b.k,b.xs⟩∧cellsOf cs=(b.xs.flatMap (enc b.k)).set (b.i*b.k.sz+b.o) (.sw b.k2 b.id2 b.n2)∧tj g s.hp.length w id cs c e d):=by
 obtain⟨r,q,j⟩:=aB3 l;obtain⟨c,e,d,p,f⟩:=(h.hr.obj id _ j).row rfl;refine⟨c,e,d,p,?_,_,j,rfl,rfl,f⟩;have:=f.len;simp only[cellsOf,AD] at this
 rwa [cN] at this
theorem aMU{d:Nat}{x:ASrc}(l:atg P (.ldn d x) m=true)(f:step Γ (.ldn d x) s=some (true,s'))(h:SR g s w a)(W:cW g s w a s' next):m.wp P a w next Q:=by
 obtain⟨dst,op,ty,R,O,gd⟩:=m;simp only[atg,bN,Ac,beq_iff_eq] at l;obtain⟨rfl,l⟩:=l;split at l
 ·rename_i t Y;simp only[Ac,beq_iff_eq,Bg] at l;obtain⟨L,N,h3,h4⟩:=l;have A:=bA h4 h.er;simp only[step] at f;split at f
  ·rename_i id k i o hx;split at f
   ·rename_i c X;split at f
    ·rename_i E;obtain⟨E,F,H⟩:=E;simp only[Ae,Aj,Ac,decide_eq_true_eq] at f;obtain⟨⟨G,C⟩,rfl⟩:=f;have G:=AE G;rw[hx] at A;generalize I:a.eval Y=cv at A;cases A with
     |wp _ _ _ _ Z=>
      obtain⟨p,e,fz,S,J,cs,hm,M,q,r⟩:=auJ h X;subst E F G;have u:=r.len;rw[q,AD,cN] at u;have D:c.i*c.k.sz+c.o<c.xs.length*c.k.sz:=pS C H
      ·have B:c.i*c.k.sz+c.o<p.size:=by omega
       have y:=Am B;have hr:=r.rel (c.i*c.k.sz+c.o) (.sw c.k2 c.id2 c.n2) _ (by rw[q,BC (by rw[cN];exact D)]) y;refine bu h rfl (cv:=p[c.i*c.k.sz+c.o]) ?_ hr rfl W;have:=pQ (P:=P) (w:=w) (b:=g.ρ id) (o:=c.i*c.k.sz+c.o) (vs:=[p[c.i*c.k.sz+c.o]]) L N (.inr rfl) (by simp) (λj v z=>by
        match j,z with
        |0,z=>simp at z;rw[bk S,B6,y,z])
       simp[execOp,I,this]
    ·simp at f
   ·simp at f
  ·simp at f
 ·simp at l
theorem aEY{k:EK}{x e:Ty k}{o:Nat}{v:V}(h:ac7 k x o [v]=some e)(i:∀(j:Nat) c,j≠o->(enc k x)[j]? =some c->c.inRange)(l:v.inRange):
  enc k e=((enc k x).take o++[v.weak])++(enc k x).drop (o+1):=by
 unfold ac7 at h;rw[awX h ?_];·rw[BB,BB,Dw,DW,DX,aBV];simp[azd]
 ·intro c b;rcases Az.1 b with b|b
  ·rcases Az.1 b with b|b
   ·obtain⟨j,d⟩:=Cr b;rw[AY] at d;split at d;·exact i j c (by omega) d
    ·simp at d
   ·obtain⟨u,f,rfl⟩:=AH.1 b;simp only[Ay] at f;subst f;exact an0 l
  ·obtain⟨j,d⟩:=Cr b;rw[Bk] at d;exact i _ c (by simp;omega) d
theorem aIn(h:SR g s w a){n:Nat}(D:(gm.hol n).step s=some (true,s')):∃g',SR g' s' w a∧FR g s.hp w g' s'.hp w:=by
 simp only[gm.step] at D;split at D
 ·rename_i k0 id n0 c1;split at D
  ·rename_i hh av;split at D
   ·rename_i R ys aa;split at D
    ·rename_i hk;split at D
     ·rename_i x' Z;simp only[Ae,Aj,Ac,decide_eq_true_eq] at D;obtain⟨⟨ao,A⟩,rfl⟩:=D;have az:=AE ao;clear ao;obtain⟨k,xs,k2,r,n2,i,o⟩:=hh;simp only at hk Z az A aa ⊢;subst hk;obtain⟨ag,e,fz,hb,ae,cs,hm,ay,ad,Y⟩:=auJ h av;simp only at ae ay ad;obtain⟨t1,t2,t3,t4⟩:=Y.typed k xs ay;obtain⟨G,e2,d5,aw,b2,ak,ab⟩:=qK h aa;obtain⟨s1,s2,s3,s4⟩:=ak.typed R ys rfl;have t:=ab3 aa;have au:id≠r:=by
       rintro rfl;obtain⟨a1,a2,L⟩:=aB3 av;rw[t] at L;cases L
      have hd:xs.getD i (aI k)=xs[i]:=by simp[Af,Ah A]
      rw[hd] at Z;have b0:g.ρ id≠g.ρ r:=h.hr.apart _ _ _ _ hm t au;have c7:id<s.hp.length:=(Ag.1 hm).1;have c4:r<s.hp.length:=(Ag.1 t).1;have aq:0<k.sz:=by cases k<;>simp[EK.sz]
      have X:∀cv,o<k.sz->ag[i*k.sz+o]? =some cv->VRel g.I g.ρ s.hp.length w (.sw R r n2) cv:=by intro cv ho l;refine Y.rel (i*k.sz+o) _ cv ?_ l;rw[ad,BC (by rw[cN];exact pS A ho)]
      have z:∀(q:Nat) c cv,q≠i*k.sz+o->(xs.flatMap (enc k))[q]? =some c->ag[q]? =some cv->VRel g.I g.ρ s.hp.length w c cv:=by intro q c cv H p l;refine Y.rel q c cv ?_ l;rw[ad,Bp (CU H)];exact p
      let M:Gh:={g with I:=λb j=>g.I b j∨(b=g.ρ r∧j<ys.length*R.sz)}
      let B:=(s.hp.set id (some [V.rw k (xs.set i x')])).set r none;have S:B.length=s.hp.length:=by simp[B]
      have u:Up g.I g.ρ s.hp.length w M.I M.ρ B.length w:=⟨λ_ _ hi=>.inl hi,λ_ _ _=>rfl,λ_ _=>rfl,by rw[S];exact Ap _⟩
      have u1:Up g.I g.ρ s.hp.length w M.I M.ρ s.hp.length w:=⟨λ_ _ hi=>.inl hi,λ_ _ _=>rfl,λ_ _=>rfl,Ap _⟩
      have sub:∀(j:Nat) f,B[j]? =some (some f)->(j=id∧f=[V.rw k (xs.set i x')])∨(j≠id∧j≠r∧s.hp[j]? =some (some f)):=by
       intro j f d;simp only[B,Ax] at d;split at d;·split at d<;>simp at d
       ·rename_i a8;split at d;·rename_i W;simp only[Ae] at d;exact .inl ⟨W.symm,d.symm⟩
        ·rename_i W;exact .inr ⟨λe=>W e.symm,λe=>a8 e.symm,d⟩
      have C:∀(j:Nat) f,B[j]? =some (some f)->j≠r∧∃ai,s.hp[j]? =some (some ai):=by
       intro j f d;rcases sub j f d with⟨rfl,_⟩|⟨_,h2,h3⟩
       ·exact⟨au,_,hm⟩
       ·exact⟨h2,_,h3⟩
      have F:∀ac v cv,aP g w ac v cv->aP M w ac v cv:=by
       intro ac v cv bb;refine dg bb rfl (λb j hi=>⟨.inl hi,rfl⟩) ?_;intro b af;refine⟨af,rfl,?_⟩;rintro j (d|⟨rfl,_⟩);·exact d
       ·rw[h.hr.notO r _ t] at af;simp at af
      have bl:∀(j:Nat) c,j≠o->(enc k xs[i])[j]? =some c->c.inRange:=by
       intro j c d p;have J:j<k.sz:=by
        have:=(Ag.1 p).1
        rwa [cQ] at this
       have c2:=pS A J;exact(z (i*k.sz+j) c _ (by omega) (xY xs i j _ c (Ah A) p) (Am (by omega))).inRange
      have O:=aEY Z bl trivial;have al:o<k.sz:=by have h1:=congrArg Aa O;simp only[Ak,Bt,AL,cQ,Ba] at h1;omega
      have am:∀(q:Nat) c cv,(cellsOf [V.rw k (xs.set i x')])[q]? =some c->ag[q]? =some cv->VRel M.I M.ρ B.length w c cv:=by
       intro q c cv p l;simp only[cellsOf] at p;obtain⟨y,hy,p⟩:=eq _ q c p;have H:q / k.sz*k.sz+q%k.sz=q:=by rw[BT];exact CJ q k.sz
       have hr:q%k.sz<k.sz:=Nat.mod_lt _ aq;rw[Ax] at hy;split at hy
       ·rename_i e1;rw[<-e1] at H;simp only[A,if_true,Ae] at hy;subst hy;have hg:=aku (enc k xs[i]) [(V.sl R (.may false) ys).weak] o (by simp only[Ba,cQ];omega) (q%k.sz);simp only[Ba] at hg;rw[O,hg] at p;split at p
        ·rename_i d;have e3:q%k.sz=o:=by omega
         rw[e3,De] at p;simp only[BK,Ae] at p;subst p;have a0:=X cv al (by rw[<-e3,H];exact l);cases a0 with
         |sw _ _ _ hN bg L=>
         subst az;simp only[V.weak];refine .sl R (.may false) ys (g.ρ r) 0 ys.length _ rfl bg L (by simp) (λi j=>G[i*R.sz+j]?.getD undef) ?_ ?_ ?_;·intro i' x j hx d;rw[cQ] at d;exact .inr ⟨rfl,by have:=pS (Ag.1 hx).1 d;omega⟩
         ·intro i' x j hx d;rw[cQ] at d;have:=pS (Ag.1 hx).1 d;rw[Bf,bk aw,Am (by omega)];rfl
         ·intro i' x j v hx d;have J:=(Ag.1 d).1;rw[cQ] at J;have:=pS (Ag.1 hx).1 J;have ha:G[i'*R.sz+j]? =some (G[i'*R.sz+j]'(by omega)):=Am _;rw[ha];exact(ab i' x j v _ hx d ha).up u
        ·rename_i d;exact(z q c cv (by omega) (by rw[<-H];exact xY xs i _ _ c (Ah A) p) l).up u
       ·rename_i e1;refine(z q c cv ?_ (by rw[<-H];exact xY xs _ _ _ c hy p) l).up u;intro a6;have:q / k.sz=i:=by
         rw[a6,BT,Nat.mul_add_div aq,Nat.div_eq_of_lt al,B6]
        exact e1 this.symm
      refine⟨M,⟨⟨?_,?_,?_,?_,?_,h.hr.oLt⟩,⟨h.er.size,λm v cv hv l=>(h.er.rel m v cv hv l).up u,λm v cv hv l=>F _ _ _ (h.er.own m v cv hv l)⟩⟩,⟨rfl,rfl,rfl,rfl,Ap _,λ_ _ _ _=>rfl,u,?_,λ_ _ _ hO=>hO,λj f d=>.inl (C j f d).2⟩⟩
      ·intro j f d;rcases sub j f d with⟨rfl,rfl⟩|⟨n1,c3,d⟩
       ·refine ig.ofRow (e:=e) hb ⟨?_,(by intro hf;cases hf),?_,(λj d=>t1 j (AJ d (by simp only[cellsOf,cN,AD];exact ae))),?_,am,?_,?_⟩ rfl;·simp only[cellsOf,cN,AD];exact ae
        ·intro k' zs hz;have hz:some _=some _:=hz;cases hz;exact⟨t1,t2,by rw[S];exact t3,t4⟩
        ·intro c p;simp only[cellsOf,AS] at p;obtain⟨y,_,p⟩:=p;exact ab1 k y c p
        ·intro j c cv p l;obtain⟨y,bh⟩:=aqU p;exact jI (qI k y c bh) _ _ _ _
        ·intro j E n p;simp only[cellsOf] at p;obtain⟨y,_,p⟩:=eq _ j _ p;exact absurd p (xZ k y _ E n)
       ·exact(h.hr.obj j f d).keep rfl λb5 e3 ci m1 N=>⟨N.len,N.plain,N.typedUp rfl u.rho u.num rfl,N.cold,N.one,λj c cv p l=>(N.rel j c cv p l).up u,λj c cv p l=>F _ _ _ (N.own j c cv p l),N.bn⟩
      ·intro j j' a3 bc h1 h2 a7;obtain⟨_,_,h1⟩:=C j a3 h1;obtain⟨_,_,h2⟩:=C j' bc h2;exact h.hr.apart _ _ _ _ h1 h2 a7
      ·rintro j f d q (H|⟨H,_⟩);·obtain⟨_,_,d⟩:=C j f d;exact h.hr.notI _ _ d q H
       ·obtain⟨bs,_,d⟩:=C j f d;exact h.hr.apart _ _ _ _ d t bs H
      ·intro j f d;obtain⟨_,_,d⟩:=C j f d;exact h.hr.notO _ _ d
      ·rintro b j (d|⟨rfl,d⟩);·exact h.hr.exI b j d
       ·rw[bk aw,Am (by omega)];rfl
      ·rintro b j _ a4 _ (d|⟨rfl,_⟩);·exact d
       ·exact absurd rfl (a4 r _ t)
     ·simp at D
    ·simp at D
   ·simp at D
  ·simp at D
 ·simp at D
end
section
variable{w:World}{g g':Gh}{s s':St}{a:Act}
theorem SR.fillSlot(h:SR g s w a)(n:Nat){v:V}(c:VRel g.I g.ρ s.hp.length w v (a.tmps.getD n undef))(b:aP g w (.slot n) v (a.tmps.getD n undef)):SR g (s.set n v) w a:=
 ⟨h.hr,h.er.put' n c b⟩
theorem SR.fillCell(h:SR g s w a){id o:Nat}{cs:List V}(O:s.obj id=some cs)(L:o<cs.length){G:Array Value}{e:TypeId}(N:w.heap[g.ρ id]? =some (.cells G e (0,0))){v:V}{cv:Value}
  (u:G[o]? =some cv) (W:v.one=true) (C:noBn v=true) (hv:VRel g.I g.ρ s.hp.length w v cv) (B:aP g w (.cell id o) v cv):
  SR g (s.setObj id (cs.set o v)) w a∧FR g s.hp w g (s.hp.set id (some (cs.set o v))) w:=by
 obtain⟨F,R⟩:=jJ O;have M:id<s.hp.length:=(Ag.1 F).1;let p:=cs.set o v;have split:∀(b:Nat) o',(s.hp.set id (some p))[b]? =some (some o')->(b=id∧o'=p)∨(b≠id∧s.hp[b]? =some (some o')):=by
  intro b o' f;rw[Ax] at f;split at f;·rename_i e;simp[M] at f;exact .inl ⟨e.symm,f.symm⟩
  ·rename_i e;exact .inr ⟨λJ=>e J.symm,f⟩
 have q:∀(b:Nat) o',(s.hp.set id (some p))[b]? =some (some o')->∃x,s.hp[b]? =some (some x):=by
  intro b o' f;rcases split b o' f with⟨rfl,_⟩|⟨_,f⟩
  ·exact⟨cs,F⟩
  ·exact⟨_,f⟩
 have k:∀(j:Nat) c,p[j]? =some c->(j=o∧c=v)∨(j≠o∧cs[j]? =some c):=by
  intro j c l;simp only[p,Ax] at l;split at l;·rename_i e;simp only[L,if_true,Ae] at l;exact .inl ⟨e.symm,l.symm⟩
  ·rename_i e;exact .inr ⟨λJ=>e J.symm,l⟩
 refine⟨⟨⟨?_,?_,?_,?_,h.hr.exI,h.hr.oLt⟩,⟨h.er.size,?_,h.er.own⟩⟩,⟨rfl,rfl,rfl,rfl,Ap _,λ_ _ _ _=>rfl,?_,λ_ _ _ _ _ Z=>Z,λ_ _ _ X=>X,?_⟩⟩
 ·intro b o' f;simp only[St.setObj,AD];rcases split b o' f with⟨rfl,rfl⟩|⟨A,f⟩
  ·obtain⟨S,e2,D,t⟩:=yz h.hr O;rw[N] at D;cases D;refine ig.ofRow0 N ⟨by simp[p,t.len],?_,?_,?_,?_⟩
   ·intro c l;obtain⟨j,hj,rfl⟩:=AU.1 l;rcases k j _ (Ah hj) with⟨_,i⟩|⟨_,i⟩
    ·rw[i];exact W
    ·exact t.one _ (Ar i)
   ·intro j c y l d;rcases k j _ l with⟨rfl,rfl⟩|⟨_,i⟩
    ·rw[u] at d;obtain rfl:=AF d;exact hv
    ·exact t.rel j c y i d
   ·intro j c y l d;rcases k j _ l with⟨rfl,rfl⟩|⟨_,i⟩
    ·rw[u] at d;obtain rfl:=AF d;exact B
    ·exact t.own j c y i d
   ·intro j E n l;rcases k j _ l with⟨rfl,i⟩|⟨_,i⟩
    ·rw[<-i] at C;simp[noBn] at C
    ·exact t.bn j E n i
  ·exact h.hr.obj b o' f
 ·intro id1 H z Y r i A;obtain⟨_,r⟩:=q id1 z r;obtain⟨_,i⟩:=q H Y i;exact h.hr.apart _ _ _ _ r i A
 ·intro id1 z r;obtain⟨_,r⟩:=q id1 z r;exact h.hr.notI _ _ r
 ·intro id1 z r;obtain⟨_,r⟩:=q id1 z r;exact h.hr.notO _ _ r
 ·intro n v cv f u;simp only[St.setObj,AD];exact h.er.rel n v cv f u
 ·simp only[AD];exact Up.refl _ _ _ _
 ·intro b o' f;obtain⟨x,f⟩:=q b o' f;exact .inl ⟨x,f⟩
def ug(g:Gh)(s:St)(w:World)(a:Act)(o:Occ)(cv:Value):Prop:=
 match o with
 | .slot n=>a.tmps.getD n undef=cv
 | .cell id j=>∃cs b e,s.obj id=some cs∧j<cs.length∧w.heap[g.ρ id]? =some (.cells b e (0,0))∧b[j]? =some cv
 | .res=>False
theorem awZ(h:SR g s w a){o:Occ}{v:V}(b:s.at? o=v)(f:v≠.undef):∃cv,ug g s w a o cv∧VRel g.I g.ρ s.hp.length w v cv∧aP g w o v cv:=by
 cases o with
 |slot n=>simp only[St.at?] at b;subst b;exact⟨_,rfl,h.er.get n,h.er.getOwn n⟩
 |cell id j=>
  simp only[St.at?] at b;cases k:s.obj id with
  |none=>rw[k] at b;exact absurd b.symm f
  |some cs=>
   rw[k] at b;simp only at b;obtain⟨c,e,r,d⟩:=yz h.hr k;have i:j<cs.length:=by
    rcases AG j cs.length with i|i;·exact i
    ·rw[Af,A1 i] at b;exact absurd b.symm f
   have p:cs[j]? =some v:=by rw[<-b,Af,Ah i];rfl
   have q:=d.len;have l:c[j]? =some (c[j]'(by omega)):=Am _;exact⟨_,⟨cs,c,e,k,i,r,l⟩,d.rel j v _ p l,d.own j v _ p l⟩
 |res=>simp only[St.at?] at b;exact absurd b.symm f
theorem SR.fill(h:SR g s w a){o:Occ}{cv:Value}(u:ug g s w a o cv){v:V}(q:v.one=true)(y:noBn v=true)(G:VRel g.I g.ρ s.hp.length w v cv)(i:aP g w o v cv):
  SR g (s.put? o v) w a∧FR g s.hp w g (s.put? o v).hp w∧(s.put? o v).hp.length=s.hp.length∧ug g (s.put? o v) w a o cv:=by
 cases o with
 |slot n=>simp only[ug] at u;subst u;exact⟨h.fillSlot n G i,FR.refl _ _ _,rfl,rfl⟩
 |cell id j=>
  obtain⟨cs,A,e,x,f,B,E⟩:=u;obtain⟨D,H⟩:=h.fillCell x f B E q y G i;have r:s.put? (.cell id j) v=s.setObj id (cs.set j v):=by simp only[St.put?,x]
  rw[r];refine⟨D,H,by simp[St.setObj],cs.set j v,A,e,?_,by simpa using f,B,E⟩;obtain⟨z,d⟩:=jJ x;have t:id<s.hp.length:=(Ag.1 z).1;have l:kP (cs.set j v)=false:=by
   cases J:kP (cs.set j v) with
   |false=>rfl
   |true=>
    obtain⟨k,es,r⟩:=afN J;match cs,f with
    | [c],f=>
      have:j=0:=by simpa using f
      subst this;simp only[BV,CG,and_true] at r;subst r;simp[V.one] at q
    |c::N::cs,f=>have:=congrArg Aa r;simp at this
  obtain⟨F,O,M,L,C⟩:=(D.hr.obj id (cs.set j v) (by simp[St.setObj,t])).row l;have p:dH (cs.set j v)=false:=by
   unfold dH at d ⊢;match cs,f,d with
   | [c],f,d=>
     have:j=0:=by simpa using f
     subst this;simp only[BV];split;·rename_i b;cases b;simp[V.one] at q
     ·rename_i b;cases b;simp[V.one] at q
     ·rename_i b;cases b;simp[V.one] at q
     ·rfl
   |c::N::cs,f,d=>
    split
    ·rename_i b;cases j with
     |zero=>simp at b
     |succ j=>cases j<;>simp at b
    ·rename_i b;cases j with
     |zero=>simp at b
     |succ j=>cases j<;>simp at b
    ·rename_i b;cases j with
     |zero=>simp at b
     |succ j=>cases j<;>simp at b
    ·rfl
  unfold St.obj;simp only[St.setObj,Af,Ax,t,if_true,A8];unfold dH at p;split<;>rename_i b;·simp only[Ae] at b;rw[b] at p;simp at p
  ·simp only[Ae] at b;rw[b] at p;simp at p
  ·simp only[Ae] at b;rw[b] at l;simp[kP] at l
  ·simp only[Ae] at b;rw[b] at p;simp at p
  ·rfl
 |res=>exact absurd u (by simp[ug])
theorem aIo{o:Occ}{cv:Value}{v:V}(q:ug g s w a o cv)(t:v.one=true)(k:v.bare=true):zt (some o) (s.put? o v):=by
 cases o with
 |slot n=>
  intro u b;simp only[St.put?,St.set,Ax,if_true] at b;split at b;·cases AF b;exact k
  ·simp at b
 |cell id j=>obtain⟨cs,p,e,f,l,_,_⟩:=q;obtain⟨c,h⟩:=jJ f;have d:id<s.hp.length:=(Ag.1 c).1;intro r u i b;simp only[St.put?,f,St.setObj,Ax,d,if_true,Ae] at i;subst i;simp only[Ax,l,if_true,Ae] at b;subst b;exact k
 |res=>trivial
theorem auK{s:St}{id:Nat}{cs:List V}(b:s.obj id=some cs)(l:List aK):({s with hp:=s.hp++l}:St).obj id=some cs:=by obtain⟨c,_⟩:=jJ b;have d:id<s.hp.length:=(Ag.1 c).1;unfold St.obj at b ⊢;simp only[Af] at b ⊢;rw[Au d];exact b
theorem SR.addRow(h:SR g s w a){k:EK}{xs:List (Ty k)}{b cap:Nat}{A:Array Value}{e:TypeId}{W:Nat×Nat}(Z:aij W A.size)(h2:xs.length<=cap)(h5:w.heap[b]? =some (.cells A e W))(h6:cap*k.sz<=A.size)(h7:k=.u8->e=g.β)
  (h8:∀j,¬g.I b j) (h4:g.O b=none) (H:∀(id:Nat) cs,s.hp[id]? =some (some cs)->g.ρ id≠b)
  (h9:∀(i:Nat) x (j:Nat) v u,xs[i]? =some x->(enc k x)[j]? =some v->A[i*k.sz+j]? =some u->VRel g.I (λ_=>0) 0 w v u):
  SR {g with ρ:=λid=>if id=s.hp.length then b else if id=s.hp.length+1 then cap else g.ρ id} {s with hp:=s.hp++[some [.rw k xs],none]} w a:=by
 let g':Gh:={g with ρ:=λid=>if id=s.hp.length then b else if id=s.hp.length+1 then cap else g.ρ id}
 have d:∀id,id<s.hp.length->g'.ρ id=g.ρ id:=λid f=>by simp only[g'];rw[if_neg (by omega),if_neg (by omega)]
 have l:g'.ρ s.hp.length=b:=by simp[g']
 have B:g'.ρ (s.hp.length+1)=cap:=by simp[g']
 have u:Up g.I g.ρ s.hp.length w g'.I g'.ρ (s.hp++[some [V.rw k xs],none]).length w:=⟨λ_ _ r=>r,λ_ _ _=>rfl,d,by simp⟩
 have t:∀D v cv,aP g w D v cv->aP g' w D v cv:=λD v cv ho=>dg ho rfl (λb j r=>⟨r,rfl⟩) (λb hb=>⟨hb,rfl,λj S=>S⟩)
 have split:∀(id:Nat) o,(s.hp++[some [V.rw k xs],none])[id]? =some (some o)->(id<s.hp.length∧s.hp[id]? =some (some o))∨(id=s.hp.length∧o=[V.rw k xs]):=by
  intro id o f;rcases AG id s.hp.length with r|r;·rw[Au r] at f;exact .inl ⟨r,f⟩
  ·rw[At r] at f;match hq:id-s.hp.length,f with
   |0,f=>simp at f;exact .inr ⟨by omega,f.symm⟩
   |1,f=>simp at f
   |n+2,f=>simp at f
 have C:xs.length*k.sz<=A.size:=A7 (AV _ h2) h6;refine⟨⟨?_,?_,?_,?_,h.hr.exI,h.hr.oLt⟩,⟨h.er.size,λn v cv R q=>(h.er.rel n v cv R q).up u,λn v cv R q=>t _ _ _ (h.er.own n v cv R q)⟩⟩
 ·intro id o f;rcases split id o f with⟨r,f⟩|⟨rfl,rfl⟩
  ·refine(h.hr.obj id o f).keep (by rw[d id r]) λY e' W k1 z=>?_
   refine⟨z.len,z.plain,z.typedUp rfl u.rho u.num rfl,z.cold,z.one,λj c cv p q=>(z.rel j c cv p q).up u,λj c cv p q=>t _ _ _ (z.own j c cv p q),by rw[d id r];exact z.bn⟩
  ·refine ig.ofRow (e:=e) (by rw[l];exact h5) ⟨by simp only[cellsOf,cN];exact C,(by intro hf;cases hf),?_,(λj S=>Z j (AJ S (by simp only[cellsOf,cN];exact C))),?_,?_,?_,?_⟩ rfl;·intro z ys N;have N:some _=some _:=N;cases N;exact⟨Z,by rw[B];exact h6,by simp,h7⟩
   ·intro c p;simp only[cellsOf,AS] at p;obtain⟨y,_,p⟩:=p;exact ab1 k y c p
   ·intro j c cv p q;simp only[cellsOf] at p;obtain⟨y,hy,p⟩:=eq _ j _ p;exact yA p (h9 _ y _ c cv hy p (by rw[show j / k.sz*k.sz+j%k.sz=j by rw[BT];exact CJ j k.sz];exact q))
   ·intro j c cv p q;have M:=Ar p;simp only[cellsOf,AS] at M;obtain⟨y,_,M⟩:=M;exact jI (qI k y c M) _ _ _ _
   ·intro j E n p;simp only[cellsOf] at p;obtain⟨y,_,p⟩:=eq _ j _ p;exact absurd p (xZ k y _ E n)
 ·intro id G o o' k1 z J;rcases split id o k1 with⟨r,X⟩|⟨e1, -⟩<;>rcases split G o' z with⟨L,m2⟩|⟨e2, -⟩
  ·rw[d _ r,d _ L];exact h.hr.apart id G o o' X m2 J
  ·rw[d _ r,e2,l];exact H id o X
  ·rw[d _ L,e1,l];exact(H G o' m2).symm
  ·exact absurd (e1.trans e2.symm) J
 ·intro id o f j r;rcases split id o f with⟨F,f⟩|⟨rfl,rfl⟩
  ·rw[d _ F] at r;exact h.hr.notI id o f j r
  ·rw[l] at r;exact h8 j r
 ·intro id o f;rcases split id o f with⟨F,f⟩|⟨rfl,rfl⟩
  ·rw[d _ F];exact h.hr.notO id o f
  ·rw[l];exact h4
theorem aG1{s:St}{o:Occ}{cv:Value}(h:ug g s w a o cv)(v:V)(l:List aK):({s with hp:=s.hp++l}:St).put? o v={s.put? o v with hp:=(s.put? o v).hp++l}:=by
 cases o with
 |slot n=>rfl
 |cell id j=>obtain⟨cs,f,e,b,i,_,_⟩:=h;obtain⟨c,_⟩:=jJ b;have d:id<s.hp.length:=(Ag.1 c).1;simp only[St.put?,b,auK b l,St.setObj];rw[List.set_append_left _ _ d]
 |res=>rfl
theorem aGn{s:St}{o:Occ}{cv:Value}(r:ug g s w a o cv){u:V}(y:u.one=true)(d:ug g (s.put? o u) w a o cv)(v:V):(s.put? o u).put? o v=s.put? o v:=by
 cases o with
 |slot n=>simp[St.put?,St.set]
 |cell id j=>
  obtain⟨cs,q,e,c,z,_,_⟩:=r;obtain⟨t,i,x,b,p,_,_⟩:=d;obtain⟨f,_⟩:=jJ c;have h:id<s.hp.length:=(Ag.1 f).1;have l:s.put? (.cell id j) u=s.setObj id (cs.set j u):=by simp only[St.put?,c]
  rw[l] at b ⊢;obtain⟨k,_⟩:=jJ b;simp only[St.setObj,Ax,h,if_true,Ae] at k;subst k;simp only[St.put?];rw[b,c];simp only[St.setObj,List.set_set]
 |res=>rfl
theorem ug.append{s:St}{o:Occ}{cv:Value}(c:ug g s w a o cv)(h:∀id,id<s.hp.length->g'.ρ id=g.ρ id)(l:List aK):ug g' {s with hp:=s.hp++l} w a o cv:=by
 cases o with
 |slot n=>exact c
 |cell id j=>obtain⟨cs,b,e,i,p,q,k⟩:=c;obtain⟨d,_⟩:=jJ i;have f:id<s.hp.length:=(Ag.1 d).1;exact⟨cs,b,e,auK i l,p,by rw[h id f];exact q,k⟩
 |res=>exact c
theorem an1(h:SR g s w a){o:Occ}(D:(gm.opn o).step s=some (true,s')):∃g',SR g' s' w a∧FR g s.hp w g' s'.hp w:=by
 simp only[gm.step] at D;split at D
 ·rename_i k xs W;simp only[Ae,Aj,decide_eq_true_eq] at D;obtain⟨y,rfl⟩:=D;obtain⟨cv,J,hv,ho⟩:=awZ h W (by simp);rcases ho with⟨rfl,_⟩|⟨b,cap,ar,e,fz,h0,rfl,F,h3,h4,h5,h6,h7,h8,h9⟩
  ·simp at y
  ·have C:xs.length<=cj:=A7 F h3;obtain⟨L,p2,p3,S⟩:=h.fill J (v:=.hd xs.length) rfl rfl (.hd _ _ _ C) (by simp[aP]);have E:zt (some o) (s.put? o (.hd xs.length)):=aIo J rfl rfl;let d:=s.put? o (.hd xs.length);let u:Gh:={g with O:=λq=>if q=b then none else g.O q}
   have B:∀(id:Nat) cs,d.hp[id]? =some (some cs)->g.ρ id≠b:=by intro id cs c e';have:=L.hr.notO id cs c;rw[e',h4] at this;simp at this
   have k1:SR u d w a:=by
    refine L.keep (some o) E rfl (Up.refl _ _ _ _) ?_ ?_ h.hr.exI ?_
    ·intro ah q f M;have X:q≠b:=by
      rintro rfl;rw[h4] at f;exact M f
     exact⟨by simp[u,X,f],rfl,λj Z=>Z⟩
    ·intro id cs c;exact⟨rfl,by simp[u,B id cs c,L.hr.notO id cs c],λj Z=>Z⟩
    ·intro q o' f;simp only[u] at f;split at f;·simp at f
     ·exact h.hr.oLt _ _ f
   have k2:=k1.addRow (b:=b) (cap:=cap) h0 F h5 h6 h7 h8 (by simp[u]) B h9;let i:Gh:={u with ρ:=λid=>if id=d.hp.length then b else if id=d.hp.length+1 then cap else u.ρ id}
   let l:St:={d with hp:=d.hp++[some [.rw k xs],none]}
   have p:∀id,id<d.hp.length->i.ρ id=g.ρ id:=λid c=>by simp only[i];rw[if_neg (by omega),if_neg (by omega)]
   have G:ug i l w a o (.slice (some ⟨b,0,none⟩) xs.length cap):=ug.append (g:=g) S p _;have H:VRel i.I i.ρ l.hp.length w (.sw k d.hp.length xs.length) (.slice (some ⟨b,0,none⟩) xs.length cap):=by
    have x:i.ρ (d.hp.length+1)=cap:=by simp[i]
    have Y:i.ρ d.hp.length=b:=by simp[i]
    have:=VRel.sw (I:=i.I) (ρ:=i.ρ) (N:=l.hp.length) (w:=w) k d.hp.length xs.length (by simp[l]) (by rw[x];exact F) (by rw[x];exact h3);rw[x,Y] at this;exact this
   obtain⟨q1,q2,q3,q4⟩:=SR.fill (g:=i) (s:=l) k2 G (v:=.sw k d.hp.length xs.length) rfl rfl H (by simp[aP]);have t:d.hp.length=s.hp.length:=p3;have z:l.put? o (.sw k d.hp.length xs.length)={s.put? o (.sw k s.hp.length xs.length) with hp:=(s.put? o (.sw k s.hp.length xs.length)).hp++[some [.rw k xs],none]}:=by have R:=aG1 (g:=g) (w:=w) (a:=a) S (.sw k d.hp.length xs.length) [some [.rw k xs],none];rw[aGn J rfl S] at R;rw[t] at R;show ({d with hp:=d.hp++[some [.rw k xs],none]}:St).put? o (.sw k d.hp.length xs.length)=_;rw[t];exact R
   rw[z] at q1 q2;refine⟨i,q1,?_⟩;refine p2.trans (FR.trans (g₁:=i) (hp₁:=l.hp) (w₁:=w) ?_ q2);refine⟨rfl,rfl,rfl,rfl,Ap _,λ_ _ _ _=>rfl,⟨λ_ _ r=>r,λ_ _ _=>rfl,p,by simp[l,d]⟩,λ_ _ _ _ _ r=>r,?_,?_⟩
   ·intro q _ _ hO;show (if q=b then none else g.O q)=none;split;·rfl
    ·exact hO
   ·intro id cs c;rcases AG id d.hp.length with r|r
    ·left;have:l.hp[id]? =d.hp[id]?:=by simp only[l];rw[Au r]
     rw[this] at c;exact⟨cs,c⟩
    ·right;refine⟨r,.inr (.inl ?_)⟩;have A:id=d.hp.length:=by
      simp only[l] at c;rw[At r] at c;match hq:id-d.hp.length,c with
      |0,_=>omega
      |1,c=>simp at c
      |n+2,c=>simp at c
     subst A;have:i.ρ d.hp.length=b:=by simp[i]
     rw[this,h4];simp
 ·obtain rfl:s=s':=by simpa using D
  exact⟨g,h,FR.refl _ _ _⟩
theorem aze(h:SR g s w a){o:Occ}(J:(gm.cls o).step s=some (true,s')):∃g',SR g' s' w a∧FR g s.hp w g' s'.hp w:=by
 simp only[gm.step] at J;split at J
 ·rename_i k id n am;split at J
  ·rename_i k' xs ho;split at J
   ·rename_i hk;subst hk;simp only[Ae,Aj] at J;obtain⟨hn,rfl⟩:=J;obtain rfl:=AE hn;obtain⟨cv,hl,hv, -⟩:=awZ h am (by simp);obtain⟨an,e,fz,hb,ay,ak,Z⟩:=qK h ho;obtain⟨t1,t2,t3,t4⟩:=ak.typed k' xs rfl;have I:=ab3 ho;cases hv with
    |sw _ _ _ hN hc hm=>
    obtain⟨B,p2,p3,p4⟩:=h.fill hl (v:=.hd xs.length) rfl rfl (.hd _ _ _ (A7 hc hm)) (by simp[aP]);let H:=s.put? o (.hd xs.length);have q:H.hp[id]? =some (some [.rw k' xs]):=by
     cases o with
     |slot n=>exact I
     |cell r j=>
      obtain⟨cs,t,S,l,hj,_,_⟩:=hl;have d:r≠id:=by rintro rfl;obtain⟨y,F⟩:=jJ l;rw[I] at y;cases y;simp[dH] at F
      simp only[H,St.put?,l,St.setObj];rw[Bp d];exact I
     |res=>exact absurd hl (by simp[ug])
    let G:Gh:={g with O:=λR=>if R=g.ρ id then some o else g.O R}
    let z:St:={H with hp:=H.hp.set id none}
    have sub:∀(i:Nat) cs,z.hp[i]? =some (some cs)->i≠id∧H.hp[i]? =some (some cs):=by
     intro i cs f;simp only[z,Ax] at f;split at f;·split at f<;>simp at f
     ·rename_i d;exact⟨λe=>d e.symm,f⟩
    have ag:g.O (g.ρ id)=none:=B.hr.notO id _ q;have A:∀M v cv,aP g w M v cv->aP G w M v cv:=by
     intro M v cv aj;refine dg aj rfl (λb j f=>⟨f,rfl⟩) ?_;intro b p;refine⟨?_,rfl,λj hj=>hj⟩;have:b≠g.ρ id:=by rintro rfl;rw[ag] at p;simp at p
     simp[G,this,p]
    have C:z.hp.length=H.hp.length:=by simp[z]
    have k1:SR G z w a:=by
     refine⟨⟨?_,?_,?_,?_,B.hr.exI,?_⟩,⟨B.er.size,λm v cv hv D=>by rw[C];exact B.er.rel m v cv hv D,λm v cv hv D=>A _ _ _ (B.er.own m v cv hv D)⟩⟩
     ·intro i cs f;obtain⟨d,f⟩:=sub i cs f;refine(B.hr.obj i cs f).keep rfl λt S fz m1 L=>?_
      rw[C];exact⟨L.len,L.plain,L.typed,L.cold,L.one,L.rel,λj c cv hc D=>A _ _ _ (L.own j c cv hc D),L.bn⟩
     ·intro i i' cs ad y F d;exact B.hr.apart i i' cs ad (sub i cs y).2 (sub i' ad F).2 d
     ·intro i cs f;exact B.hr.notI i cs (sub i cs f).2
     ·intro i cs f;obtain⟨d,f⟩:=sub i cs f;have:g.ρ i≠g.ρ id:=B.hr.apart i id cs _ f q d;show (if g.ρ i=g.ρ id then some o else g.O (g.ρ i))=none;rw[if_neg this];exact B.hr.notO i cs f
     ·intro R o' p;simp only[G] at p;split at p
      ·rename_i S;subst S;rcases AG (g.ρ id) w.heap.size with E|E;·exact E
       ·simp[BY E] at hb
      ·exact h.hr.oLt _ _ p
    have X:ug G z w a o (.slice (some ⟨g.ρ id,0,none⟩) xs.length (g.ρ (id+1))):=by
     cases o with
     |slot n=>exact p4
     |cell r j=>
      obtain⟨cs,t,S,l,hj,p,ha⟩:=p4;refine⟨cs,t,S,?_,hj,p,ha⟩;have d:id≠r:=by rintro rfl;obtain⟨y,F⟩:=jJ l;rw[show (s.put? (.cell id j) (.hd xs.length)).hp[id]? =some (some [.rw k' xs]) from q] at y;cases y;simp[dH] at F
      unfold St.obj at l ⊢;simp only[z,Af] at l ⊢;rw[Bp d];exact l
     |res=>exact p4
    have af:anV G w o k' xs (.slice (some ⟨g.ρ id,0,none⟩) xs.length (g.ρ (id+1))):=
     .inr ⟨g.ρ id,g.ρ (id+1),an,e,fz,t1,rfl,hc,hm,by simp[G],hb,t2,t4,λj=>B.hr.notI id _ q j,λi x j v u y F N=>yA F (Z i x j v u y F N)⟩
    obtain⟨q1,q2,q3,q4⟩:=SR.fill (g:=G) (s:=z) k1 X (v:=.ul k' xs) rfl rfl (.ul _ _ _ _ (A7 hc hm)) af;have W:z.put? o (.ul k' xs)={s.put? o (.ul k' xs) with hp:=(s.put? o (.ul k' xs)).hp.set id none}:=by
     cases o with
     |slot n=>simp[z,H,St.put?,St.set]
     |cell r j=>
      obtain⟨cs,t,S,l,hj,_,_⟩:=hl;obtain⟨a8,av,e2,Y,a5,_,_⟩:=X;obtain⟨y,F⟩:=jJ l;have E:r<s.hp.length:=(Ag.1 y).1;have d:r≠id:=by rintro rfl;rw[I] at y;cases y;simp[dH] at F
      have he:H=s.setObj r (cs.set j (.hd xs.length)):=by simp only[H,St.put?,l]
      obtain⟨N,_⟩:=jJ Y;simp only[z] at N;rw[Bp (CU d),he] at N;simp only[St.setObj,Ax,E,if_true,Ae] at N;subst N;simp only[St.put?];rw[Y,l];simp only[z,he,St.setObj,List.set_set];rw[D0 _ _ d,List.set_set];rw[D0 _ _ (CU d)]
     |res=>rfl
    rw[W] at q1 q2;refine⟨G,q1,p2.trans (FR.trans (g₁:=G) (hp₁:=z.hp) (w₁:=w) ?_ q2)⟩;refine⟨rfl,rfl,rfl,rfl,Ap _,λ_ _ _ _=>rfl,⟨λ_ _ f=>f,λ_ _ _=>rfl,λ_ _=>rfl,by rw[C];exact Ap _⟩,λ_ _ _ _ _ f=>f,?_,λi cs f=>.inl ⟨cs,(sub i cs f).2⟩⟩;intro R _ ah hO;show (if R=g.ρ id then some o else g.O R)=none;rw[if_neg (λe=>ah id _ q e.symm)];exact hO
   ·simp at J
  ·simp at J
 ·obtain rfl:s=s':=by simpa using J
  exact⟨g,h,FR.refl _ _ _⟩
theorem aB4(h:SR g s w a){o:Occ}(L:(gm.fz o).step s=some (true,s')):∃g',SR g' s' w a∧FR g s.hp w g' s'.hp w:=by
 simp only[gm.step] at L;split at L
 ·rename_i k xs Y;obtain rfl:_=s':=by simpa using L
  obtain⟨cv,F,hv,ho⟩:=awZ h Y (by simp);rcases ho with⟨rfl,rfl⟩|⟨b,cap,d,e,fz,h0,rfl,M,h3,H,G,h6,h7,h8,h9⟩
  ·obtain⟨A,W,p3,X⟩:=h.fill F (v:=.sl k .own []) rfl rfl (.sln _ _) (by simp[aP]);exact⟨g,A,W⟩
  ·have C:xs.length<=cj:=A7 M h3;obtain⟨A,W,p3,X⟩:=h.fill F (v:=.hd xs.length) rfl rfl (.hd _ _ _ C) (by simp[aP]);have D:zt (some o) (s.put? o (.hd xs.length)):=aIo F rfl rfl;let l:=s.put? o (.hd xs.length);let f:Gh:={g with I:=λt j=>g.I t j∨(t=b∧j<xs.length*k.sz)}
   have ad:xs.length*k.sz<=d.size:=A7 (AV _ M) h6;have S:∀(id:Nat) cs,l.hp[id]? =some (some cs)->g.ρ id≠b:=by intro id cs p e';have:=A.hr.notO id cs p;rw[e',H] at this;simp at this
   have u:Up g.I g.ρ l.hp.length w f.I f.ρ l.hp.length w:=⟨λ_ _ J=>.inl J,λ_ _ _=>rfl,λ_ _=>rfl,Ap _⟩
   have k1:SR f l w a:=by
    refine A.keep (some o) D rfl u ?_ ?_ ?_ h.hr.oLt
    ·intro ah t q R;have Z:t≠b:=by
      rintro rfl;rw[H] at q;exact R q
     refine⟨q,rfl,?_⟩;rintro j (c|⟨c,_⟩);·exact c
     ·exact absurd c Z
    ·intro id cs p;refine⟨rfl,A.hr.notO id cs p,?_⟩;rintro j (c|⟨c,_⟩);·exact c
     ·exact absurd c (S id cs p)
    ·rintro t j (c|⟨rfl,c⟩);·exact h.hr.exI t j c
     ·rw[bk G,Am (by omega)];rfl
   have N:ug f l w a o (.slice (some ⟨b,0,none⟩) xs.length cap):=X;have r:∀x:Ty k,∀j,j<(enc k x).length->j<k.sz:=λx j c=>by rwa [cQ] at c
   have z:VRel f.I f.ρ l.hp.length w (.sl k .own xs) (.slice (some ⟨b,0,none⟩) xs.length cap):=by
    refine .sl k .own xs _ _ _ _ rfl M h3 (by simp) (λi j=>d[i*k.sz+j]?.getD undef) ?_ ?_ ?_;·intro i x j y c;exact .inr ⟨rfl,by have:=pS (Ag.1 y).1 (r x j c);omega⟩
    ·intro i x j y c;have:=pS (Ag.1 y).1 (r x j c);rw[Bf,bk G,Am (by omega)];rfl
    ·intro i x j v y c;have O:=(Ag.1 c).1;have:=pS (Ag.1 y).1 (r x j O);have ha:d[i*k.sz+j]? =some (d[i*k.sz+j]'(by omega)):=Am _;rw[ha];exact(yA (ρ':=g.ρ) (N':=l.hp.length) c (h9 i x j v _ y c ha)).up u
   have B:aP f w o (.sl k .own xs) (.slice (some ⟨b,0,none⟩) xs.length cap):=by
    refine⟨H,⟨d,e,fz,G,by simpa using h6,h7⟩,?_⟩;intro j j1 j2;simp only[Bf] at j1 j2;refine⟨?_,by have:=h0 j (by omega);simp only[B2,G,CX,decide_eq_false_iff_not];omega⟩;rintro(J|⟨_,J⟩);·exact h8 j J
    ·omega
   obtain⟨q1,q2,q3,q4⟩:=SR.fill (g:=f) (s:=l) k1 N (v:=.sl k .own xs) rfl rfl z B;rw[aGn F rfl X] at q1 q2;refine⟨f,q1,W.trans (FR.trans (g₁:=f) (hp₁:=l.hp) (w₁:=w) ?_ q2)⟩;refine⟨rfl,rfl,rfl,rfl,Ap _,λ_ _ _ _=>rfl,u,?_,λ_ _ _ E=>E,λ_ cs h=>.inl ⟨cs,h⟩⟩;rintro t j _ _ E (c|⟨rfl,_⟩);·exact c
   ·rw[H] at E;simp at E
 ·obtain rfl:s=s':=by simpa using L
  exact⟨g,h,FR.refl _ _ _⟩
theorem ail(h:SR g s w a){x:gm}(b:x.step s=some (true,s')):∃g',SR g' s' w a∧FR g s.hp w g' s'.hp w:=by
 cases x with
 |opn o=>exact an1 h b
 |cls o=>exact aze h b
 |fz o=>exact aB4 h b
 |hol n=>exact aIn h b
variable{w':World}{P:Program}{Γ:aG}{m:Oper}{next:Act->World->Prop}{Q:Exit->Act->World->Prop}
theorem SR.newRW0(h:SR g s w a)(k:EK)(xs:List (Ty k))(cap:Nat)(q:Array Value)(e:TypeId)
  (ab:w'.heap.size=w.heap.size+1) (l:∀b,b<w.heap.size->w'.heap[b]? =w.heap[b]?) {fz:Nat×Nat} (F:w'.heap[w.heap.size]? =some (.cells q e fz))
  (R:w'.os=w.os) (J:w'.tape=w.tape) (C:w'.output=w.output)
  (M:xs.length<=cap) (hm:cap<=cj) (y:cap*k.sz<=q.size) (B:k=.u8->e=g.β) (W:aij fz q.size)
  (S:∀(i:Nat) x j v,xs[i]? =some x->(enc k x)[j]? =some v->∃cv,q[i*k.sz+j]? =some cv∧VRel g.I (λ_=>0) 0 w v cv):
  ∃g',SR g' {s with hp:=s.hp++[some [.rw k xs],none]} w' a∧FR g s.hp w g' (s.hp++[some [.rw k xs],none]) w'∧g'.ρ s.hp.length=w.heap.size∧g'.ρ (s.hp.length+1)=cap:=by
 have p:∀b j,g.I b j->b<w.heap.size:=by intro b j d;obtain⟨v,S⟩:=Bq.1 (h.hr.exI b j d);exact BL _ _ S
 have f:∀b j,b<w.heap.size->w'.cell? ⟨b,j,none⟩=w.cell? ⟨b,j,none⟩:=by intro b j r;simp[By,l b r]
 have u:Up g.I g.ρ s.hp.length w g.I g.ρ s.hp.length w':=⟨λb j d=>d,λb j d=>f b j (p b j d),λ_ _=>rfl,Ap _⟩
 have E:∀(id:Nat) cs,s.hp[id]? =some (some cs)->g.ρ id<w.heap.size:=by intro id cs c;exact(h.hr.obj id cs c).lt
 have hs:SR g s w' a:=by
  refine h.keep none trivial rfl u ?_ ?_ ?_ ?_;·intro L b r _;have X:=h.hr.oLt b L r;exact⟨r,l b X,λj z=>z⟩
  ·intro id cs c;exact⟨l _ (E id cs c),h.hr.notO id cs c,λj z=>z⟩
  ·intro b j z;rw[f b j (p b j z)];exact h.hr.exI b j z
  ·intro b o r;have:=h.hr.oLt b o r;omega
 have H:g.O w.heap.size=none:=by
  cases Y:g.O w.heap.size with
  |none=>rfl
  |some o=>exact absurd (h.hr.oLt _ _ Y) (DV _)
 have k2:=hs.addRow (k:=k) (xs:=xs) (b:=w.heap.size) (cap:=cap) W M F y B (λj d=>absurd (p _ _ d) (DV _)) H (λid cs c=>by have:=E id cs c;omega) (by intro i x j v cv h1 h2 Z;obtain⟨af,e1,e2⟩:=S i x j v h1 h2;rw[e1] at Z;obtain rfl:=AF Z;exact e2.up ⟨λ_ _ d=>d,λb j d=>f b j (p b j d),λ_ _=>rfl,Ap _⟩);let t:Gh:={g with ρ:=λid=>if id=s.hp.length then w.heap.size else if id=s.hp.length+1 then cap else g.ρ id}
 have N:t.ρ (s.hp.length+1)=cap:=by simp[t]
 have G:t.ρ s.hp.length=w.heap.size:=by simp[t]
 have D:∀id,id<s.hp.length->t.ρ id=g.ρ id:=λid c=>by simp only[t];rw[if_neg (by omega),if_neg (by omega)]
 refine⟨t,k2,⟨rfl,R,J,C,by omega,λb r _ _=>l b r,⟨λ_ _ d=>d,λb j d=>f b j (p b j d),D,by simp⟩,λ_ _ _ _ _ d=>d,λ_ _ _ H=>H,?_⟩,G,N⟩;intro id cs c;rcases AG id s.hp.length with d|d;·rw[Au d] at c;exact .inl ⟨cs,c⟩
 ·refine .inr ⟨d,.inl ?_⟩;have A:id=s.hp.length:=by
   rw[At d] at c;match Y:id-s.hp.length,c with
   |0,_=>omega
   |1,c=>simp at c
   |n+2,c=>simp at c
  subst A;rw[G];exact Ap _
theorem SR.newRWp(h:SR g s w a)(k:EK)(xs:List (Ty k))(cap d:Nat)(c:Array Value)(e:TypeId)
  (y:w'.heap.size=w.heap.size+1) (t:∀b,b<w.heap.size->w'.heap[b]? =w.heap[b]?) {E:Nat×Nat} (r:w'.heap[w.heap.size]? =some (.cells c e E))
  (C:w'.os=w.os) (z:w'.tape=w.tape) (q:w'.output=w.output)
  (A:xs.length<=cap) (G:cap<=cj) (f:cap*k.sz<=c.size) (l:k=.u8->e=g.β) (D:aij E c.size)
  (J:∀(i:Nat) x j v,xs[i]? =some x->(enc k x)[j]? =some v->∃cv,c[i*k.sz+j]? =some cv∧VRel g.I (λ_=>0) 0 w v cv):
  ∃g',SR g' {s.set d (.wp s.hp.length k 0 0) with hp:=s.hp++[some [.rw k xs],none]} w' (a.put (some d) (.pointer (some ⟨w.heap.size,0,none⟩)))∧FR g s.hp w g' (s.hp++[some [.rw k xs],none]) w':=by
 obtain⟨u,H,L,B,F⟩:=h.newRW0 k xs cap c e y t r C z q A G f l D J;have p:=VRel.wp (I:=u.I) (ρ:=u.ρ) (N:=(s.hp++[some [V.rw k xs],none]).length) (w:=w') s.hp.length k 0 0 (by simp);rw[B,Nat.zero_mul] at p;exact⟨u,SR.set (g:=u) H d p (by simp[aP]),L⟩
end
def ASrc.slots:ASrc->List Nat
 | .t n| .tk n=>[n]
 | .c _=>[]
def ASrc.takes:ASrc->List Nat
 | .tk n=>[n]
 |_=>[]
def auL:Option ASrc->List Nat
 |some x=>x.slots
 |none=>[]
def IOp.rd:IOp->List Nat
 | .mov _ x| .un _ _ x| .cvi _ _ x| .s2b _ x| .b2s _ x| .lens _ x| .lenl _ x| .fld _ _ _ _ x| .box _ x| .fad _ _ x| .ld _ _ _ _ x| .ext _ _ x| .nck _ x| .boxe _ x| .lde _ _ _ x=>x.slots
 | .frz _ r _ v| .pub _ r _ v=>r::v.slots
 | .pick _ c x y=>c.slots++(x.slots++y.slots)
 | .bin _ _ x y| .idx _ x y| .ixa _ _ x y| .ixe _ _ x y| .apo _ _ x y| .st _ _ x y| .app _ _ x y| .apps _ x y| .mx _ _ x y=>x.slots++y.slots
 | .subs _ x d b| .subl _ _ x d b=>x.slots++(auL d++auL b)
 | .bsl _ _ a _=>a.flatMap ASrc.slots
 | .bld _ _ a=>a.flatMap λp=>p.2.2.slots
 | .new _ _| .newb _ _| .arw _ _ _| .alr _ _=>[]
 | .call _ _ avs| .mkf _ _ avs=>avs.flatMap ASrc.slots
 | .dcall _ _ x avs=>x.slots++avs.flatMap ASrc.slots
 | .snil _ x| .lnw _ x| .fdw _ _ x| .ldw _ _ _ x| .ldn _ x=>x.slots
 | .apu _ _ x y| .ixw _ _ x y| .stw _ _ x y| .stn _ x y=>x.slots++y.slots
 | .stu _ x n=>n::x.slots
 | .blu _ _=>[]
 | .mkm _ _=>[]
 | .mget _ _ _ x y=>x.slots++y.slots
 | .mput _ _ x y z=>x.slots++(y.slots++z.slots)
def IOp.wr(o:IOp):List Nat:=
 o.dst.toList++(match o with| .mov _ x| .app _ _ x _| .apps _ x _| .st _ _ _ x=>x.takes| .frz _ r _ _| .pub _ r _ _=>[r]| .apu _ _ x _| .apo _ _ x _=>x.takes| .stu _ _ n=>[n]|_=>[])
def IOp.cls(imp:List Nat):IOp->Nat
 | .ld _ _ _ false _| .ldw .. | .mget .. | .ldn .. =>1
 | .ld _ _ _ true _| .st .. | .new .. | .pub .. | .box .. | .newb .. | .dcall .. | .stw .. | .arw .. | .apo .. | .mkm .. | .mput .. | .stn .. | .stu .. =>2
 | .call _ f _=>if imp.contains f then 2 else 0
 |_=>0
def an2(hp:List aK)(q:List (Nat×aK)):List aK:=q.foldl (λh p=>h.set p.1 p.2) hp
structure co(Γ:aG)(imp:List Nat):Prop where
 pure:∀f avs hp,imp.contains f=false->Γ f avs hp=(Γ f avs []).map λx=>(x.1,x.2.1,hp)
 loc:∀f vs hp c v hp',imp.contains (f+2000000)=true->Γ f vs hp=some (c,v,hp')->∃q:List (Nat×aK),(∀p∈q,p.1∈aqR (dS vs))∧hp'=an2 hp q∧
  ∀hp2:List aK,hp2.length=hp.length->(∀i∈aqR (ub vs),hp2[i]? =hp[i]?)->Γ f vs hp2=some (c,v,an2 hp2 q)
theorem asl(q:List (Nat×aK)):∀hp:List aK,(an2 hp q).length=hp.length:=by
 induction q with
 |nil=>intro hp;rfl
 |cons p q a=>intro hp;show (an2 (hp.set p.1 p.2) q).length=_;rw[a];simp
theorem aB5{q:List (Nat×aK)}{i:Nat}:∀{hp:List aK},(∀p∈q,p.1≠i)->(an2 hp q)[i]? =hp[i]?:=by
 induction q with
 |nil=>intro hp _;rfl
 |cons p q a=>intro hp h;show (an2 (hp.set p.1 p.2) q)[i]? =_;rw[a (λx b=>h x (A0 _ b)),Bp (h p (A4 ..))]
theorem ahn{hp a:List aK}{i:Nat}(h:a[i]? =hp[i]?):a.getD i none=hp.getD i none:=by rw[Aq,Aq,h]
theorem aho{l:List Nat}{i:Nat}(h:i∈l):i∈aqR l:=AS.2 ⟨i,h,CV.2 (Nat.lt_succ_self i)⟩
theorem akv:∀{vs:List V}{i:Nat},i∈dS vs->i∈ub vs
 | [],_,h=>by simp[dS] at h
 |v::vs,i,h=>by
  have e:ub (v::vs)=v.cellsA.flatMap V.id1++ub vs:=by simp[ub]
  rw[e,Az];unfold dS at h;split at h;·rename_i a;cases a
  ·rename_i a;cases a;rcases A3.1 h with rfl|h;·left;simp[V.cellsA,V.id1]
   ·exact .inr (akv h)
  ·rename_i a;cases a;exact .inr (akv h)
def St.upd(s:St)(l:List (Nat×V)):St:={s with env:=l.foldl (λe p=>e.set p.1 p.2) s.env}
section
variable{Γ:aG}{imp:List Nat}
theorem cJ{s t:St}{x:ASrc}(h:∀n∈x.slots,t.get n=s.get n):x.ev t=x.ev s:=by
 cases x with
 |t n=>simp only[ASrc.ev];rw[h n (by simp[ASrc.slots])]
 |tk n=>exact h n (by simp[ASrc.slots])
 |c v=>rfl
theorem aIp{s t:St}{x:Option ASrc}(h:∀n∈auL x,t.get n=s.get n):jG t x=jG s x:=by
 cases x with
 |none=>rfl
 |some x=>simp only[jG];rw[cJ h]
theorem cX(s:St)(d:Option Nat)(v:V):s.setO d v=s.upd (d.toList.map λd=>(d,v)):=by cases d<;>rfl
theorem f7(s:St)(x:ASrc):x.after s=s.upd (x.takes.map λn=>(n,disown (s.get n))):=by cases x<;>rfl
theorem kR(s:St)(l m:List (Nat×V)):(s.upd l).upd m=s.upd (l++m):=by simp[St.upd,List.foldl_append]
theorem aqV{s:St}:∀{l:List (Nat×V)}{n:Nat},(∀p∈l,p.1≠n)->(s.upd l).get n=s.get n:=by
 intro l;induction l generalizing s with
 |nil=>intro n h;rfl
 |cons p l b=>intro n h;have:s.upd (p::l)=(s.set p.1 p.2).upd l:=rfl;rw[this,b (λq a=>h q (A0 _ a))];simp[St.get,St.set,Af,Ax,h p (A4 ..)]
def aLc(Γ:aG)(imp:List Nat)(o:IOp)(s:St)(c:Bool)(s':St):Prop:=
 ∃u:List (Nat×V),(∀p∈u,p.1∈o.wr)∧s'=s.upd u∧∀t:St,(∀n∈o.rd,t.get n=s.get n)->(o.cls imp=1->t.hp=s.hp)->step Γ o t=some (c,t.upd u)
theorem b8{o:IOp}{s s':St}{c:Bool}(E:Option (Bool×V))(b:∀t:St,(∀n∈o.rd,t.get n=s.get n)->(o.cls imp=1->t.hp=s.hp)->step Γ o t=E.map λp=>(p.1,t.setO o.dst p.2))
  (h:step Γ o s=some (c,s')):aLc Γ imp o s c s':=by
 rw[b s (λ_ _=>rfl) (λ_=>rfl)] at h;cases E with
 |none=>simp at h
 |some p=>
  simp only[BA,Ae,Aj] at h;obtain⟨rfl,rfl⟩:=h;refine⟨o.dst.toList.map λd=>(d,p.2),?_,cX _ _ _,?_⟩;·intro q a;simp only[AH] at a;obtain⟨d,e,rfl⟩:=a;simp[IOp.wr,e]
  ·intro t f i;rw[b t f i,<-cX];rfl
theorem aG2(hP:co Γ imp){o:IOp}(D:o.cls imp<=1){s:St}{c:Bool}{s':St}(h:step Γ o s=some (c,s')):
  aLc Γ imp o s c s':=by
 have w:∀{x:ASrc}{l:List Nat}{t:St},(∀n∈l,t.get n=s.get n)->(∀n∈x.slots,n∈l)->x.ev t=x.ev s:=λR S=>cJ λn z=>R n (S n z)
 have P:∀{x:Option ASrc}{l:List Nat}{t:St},(∀n∈l,t.get n=s.get n)->(∀n∈auL x,n∈l)->jG t x=jG s x:=λR S=>aIp λn z=>R n (S n z)
 cases o with
 |mov d x=>
  obtain⟨rfl,rfl⟩:true=c∧_=s':=by simpa [step] using h
  refine⟨x.takes.map (λn=>(n,disown (s.get n)))++[(d,x.ev s)],?_,?_,?_⟩
  ·intro p hp;simp only[Az,AH,Ay] at hp;rcases hp with⟨n,z,rfl⟩|rfl;·simp[IOp.wr,IOp.dst,z]
   ·simp[IOp.wr,IOp.dst]
  ·rw[<-kR,<-f7];rfl
  ·intro t j _;have e:=cJ (x:=x) j;have E:x.takes.map (λn=>(n,disown (t.get n)))=x.takes.map (λn=>(n,disown (s.get n))):=by
    cases x with
    |tk n=>simp only[ASrc.takes,List.map];rw[j n (by simp[IOp.rd,ASrc.slots])]
    |_=>rfl
   simp only[step,e];rw[f7,E,<-kR];rfl
 |app d k x y=>
  simp only[step] at h;split at h
  ·rename_i k' ox l X ow m C M;split at h
   ·rename_i hk;split at h
    ·rename_i F;simp only[Ae,Aj] at h;obtain⟨rfl,rfl⟩:=h;refine⟨x.takes.map (λn=>(n,disown (s.get n)))++[(d,.sl k' .own (l++(F▸m)))],?_,?_,?_⟩
     ·intro p hp;simp only[Az,AH,Ay] at hp;rcases hp with⟨n,z,rfl⟩|rfl;·simp[IOp.wr,IOp.dst,z]
      ·simp[IOp.wr,IOp.dst]
     ·rw[<-kR,<-f7];rfl
     ·intro t j _;have A:=cJ (x:=x) (λn z=>j n (by simp[IOp.rd,z]));have O:=cJ (x:=y) (λn z=>j n (by simp[IOp.rd,z]));have E:x.takes.map (λn=>(n,disown (t.get n)))=x.takes.map (λn=>(n,disown (s.get n))):=by
       cases x with
       |tk n=>simp only[ASrc.takes,List.map];rw[j n (by simp[IOp.rd,ASrc.slots])]
       |_=>rfl
      simp only[step,A,O,C,M,hk,F,dif_pos,if_true];rw[f7,E,<-kR];rfl
    ·simp at h
   ·simp at h
  ·simp at h
 |apu d k x y=>
  simp only[step] at h;split at h
  ·rename_i k' l X ow m C M;split at h
   ·rename_i hk;split at h
    ·rename_i F;simp only[Ae,Aj] at h;obtain⟨rfl,rfl⟩:=h;refine⟨x.takes.map (λn=>(n,disown (s.get n)))++[(d,.ul k' (l++(F▸m)))],?_,?_,?_⟩
     ·intro p hp;simp only[Az,AH,Ay] at hp;rcases hp with⟨n,z,rfl⟩|rfl;·simp[IOp.wr,IOp.dst,z]
      ·simp[IOp.wr,IOp.dst]
     ·rw[<-kR,<-f7];rfl
     ·intro t j _;have A:=cJ (x:=x) (λn z=>j n (by simp[IOp.rd,z]));have O:=cJ (x:=y) (λn z=>j n (by simp[IOp.rd,z]));have E:x.takes.map (λn=>(n,disown (t.get n)))=x.takes.map (λn=>(n,disown (s.get n))):=by
       cases x with
       |tk n=>simp only[ASrc.takes,List.map];rw[j n (by simp[IOp.rd,ASrc.slots])]
       |_=>rfl
      simp only[step,A,O,C,M,hk,F,dif_pos,if_true];rw[f7,E,<-kR];rfl
    ·simp at h
   ·simp at h
  ·simp at h
 |arw=>simp[IOp.cls] at D
 |apo=>simp[IOp.cls] at D
 |mkm=>simp[IOp.cls] at D
 |mput=>simp[IOp.cls] at D
 |stn=>simp[IOp.cls] at D
 |stu=>simp[IOp.cls] at D
 |ldn d x=>
  refine b8 (match x.ev s with
   | .wp id k i o=>(match s.rowH id with
     |some h=>if h.k=k∧(h.o=o∧h.o<h.k.sz) then some (AI i h.i&&decide (h.i<h.xs.length),.sw h.k2 h.id2 h.n2) else none
     |none=>none)
   |_=>none) (λt j J=>?_) h
  have q:x.ev t=x.ev s:=w j (by simp+contextual [IOp.rd]);have A:∀id,t.rowH id=s.rowH id:=λid=>by simp only[St.rowH];rw[J rfl]
  simp only[step,q,A,IOp.dst,St.setO];split
  ·rename_i id k i o C;rw[C];simp only;cases hr:s.rowH id with
   |none=>rfl
   |some p=>simp only;split<;>rfl
  ·rename_i C;split;·rename_i L;exact absurd L (C _ _ _ _)
   ·rfl
 |mget d k ok x y=>
  refine b8 (match x.ev s with
   | .nilm=>(k.dkey (y.ev s)).map λ_=>(true,anU k ok none)
   | .mr id=>(match s.mapO id with
     |some ⟨k',es⟩=>if k'=k then (k'.dkey (y.ev s)).map λkey=>(true,anU k' ok (fB es key)) else none
     |none=>none)
   |_=>none) (λt j J=>?_) h
  have q:x.ev t=x.ev s:=w j (by simp+contextual [IOp.rd]);have A:y.ev t=y.ev s:=w j (by simp+contextual [IOp.rd]);have E:∀id,t.mapO id=s.mapO id:=λid=>by simp only[St.mapO];rw[J rfl]
  simp only[step,q,A,E,IOp.dst,St.setO];generalize x.ev s=xe;cases xe with
  |nilm=>simp only[CS];rfl
  |mr id=>
   simp only[];cases s.mapO id with
   |none=>rfl
   |some p=>
    obtain⟨k',es⟩:=p;simp only[];split;·simp only[CS];rfl
    ·rfl
  |_=>rfl
 |snil d x=>refine b8 (match x.ev s with| .sl _ _ xs=>some (decide (0<xs.length),.bool false)|_=>none) (λt j _=>?_) h;have q:x.ev t=x.ev s:=w j (by simp+contextual [IOp.rd]);simp only[step,q,IOp.dst,St.setO];split<;>first|rfl|(simp_all;done)
 |blu d k=>refine b8 (some (true,.ul k [])) (λt j _=>?_) h;simp only[step,IOp.dst,St.setO,BA]
 |lnw d x=>refine b8 (match x.ev s with| .hd n=>some (true,.int .i64 n)| .sw _ _ n=>some (true,.int .i64 n)|_=>none) (λt j _=>?_) h;have q:x.ev t=x.ev s:=w j (by simp+contextual [IOp.rd]);simp only[step,q,IOp.dst,St.setO];split<;>first|rfl|(simp_all;done)
 |ixw d k x i=>
  refine b8 (match x.ev s,i.ev s with| .sw k' id n,.int _ i=>if k'=k then some (decide (0<=i)&&decide (i<n),.wp id k' i.toNat 0) else none|_,_=>none) (λt j _=>?_) h;have q:x.ev t=x.ev s:=w j (by simp+contextual [IOp.rd]);have A:i.ev t=i.ev s:=w j (by simp+contextual [IOp.rd]);simp only[step,q,A,IOp.dst,St.setO];split;·split<;>first|rfl|(simp_all;done)
  ·first|rfl|(simp_all;done)
 |fdw d B x=>refine b8 (match x.ev s with| .wp id k i o=>some (true,.wp id k i (o+B))|_=>none) (λt j _=>?_) h;have q:x.ev t=x.ev s:=w j (by simp+contextual [IOp.rd]);simp only[step,q,IOp.dst,St.setO];split<;>first|rfl|(simp_all;done)
 |ldw d n agg x=>
  refine b8 (match x.ev s with
   | .wp id k i o=>(match s.rowW id with
     |some ⟨k',xs⟩=>if k'=k∧o+n<=k'.sz then some (decide (i<xs.length),disown (loaded agg (((enc k' (xs.getD i (aI k'))).drop o).take n))) else none
     |none=>none)
   |_=>none) (λt j J=>?_) h
  have q:x.ev t=x.ev s:=w j (by simp+contextual [IOp.rd]);have A:∀id,t.rowW id=s.rowW id:=λid=>by simp only[St.rowW];rw[J rfl]
  simp only[step,q,A,IOp.dst,St.setO];split
  ·rename_i id k i o C;simp only[C];cases hr:s.rowW id with
   |none=>rfl
   |some p=>obtain⟨k',xs⟩:=p;simp only;split<;>rfl
  ·rename_i C;split;·rename_i L;exact absurd L (C _ _ _ _)
   ·rfl
 |apps d x y=>
  simp only[step] at h;split at h
  ·rename_i l m C M;simp only[Ae,Aj] at h;obtain⟨rfl,rfl⟩:=h;refine⟨x.takes.map (λn=>(n,disown (s.get n)))++[(d,.sl .u8 .own (l++m))],?_,?_,?_⟩
   ·intro p hp;simp only[Az,AH,Ay] at hp;rcases hp with⟨n,z,rfl⟩|rfl;·simp[IOp.wr,IOp.dst,z]
    ·simp[IOp.wr,IOp.dst]
   ·rw[<-kR,<-f7];rfl
   ·intro t j _;have A:=cJ (x:=x) (λn z=>j n (by simp[IOp.rd,z]));have O:=cJ (x:=y) (λn z=>j n (by simp[IOp.rd,z]));have E:x.takes.map (λn=>(n,disown (t.get n)))=x.takes.map (λn=>(n,disown (s.get n))):=by
     cases x with
     |tk n=>simp only[ASrc.takes,List.map];rw[j n (by simp[IOp.rd,ASrc.slots])]
     |_=>rfl
    simp only[step,A,O,C,M];rw[f7,E,<-kR];rfl
  ·simp at h
 |new=>simp[IOp.cls] at D
 |pub=>simp[IOp.cls] at D
 |box=>simp[IOp.cls] at D
 |newb=>simp[IOp.cls] at D
 |st=>simp[IOp.cls] at D
 |stw d n x v=>simp[IOp.cls] at D
 |dcall=>simp[IOp.cls] at D
 |alr d n=>refine b8 (some (true,.raw n)) (λt j _=>?_) h;simp only[step,IOp.dst,St.setO,BA]
 |lde d n agg x=>
  refine b8 (match x.ev s with| .ea cs=>if n<=cs.length then some (true,disown (loaded agg (cs.take n))) else none|_=>none) (λt j _=>?_) h;have q:x.ev t=x.ev s:=w j (by simp+contextual [IOp.rd]);simp only[step,q,IOp.dst,St.setO];split;·split<;>first|rfl|(simp_all;done)
  ·first|rfl|(simp_all;done)
 |frz d r n v=>
  simp only[step] at h;split at h
  ·rename_i m hr;split at h
   ·rename_i hc;simp only[Ae,Aj] at h;obtain⟨rfl,rfl⟩:=h;refine⟨[(r,.ea ((v.ev s).cells.map disown))]++(d.toList.map λd=>(d,.undef)),?_,?_,?_⟩
    ·intro p hp;simp only[Az,AH,Ay] at hp;rcases hp with rfl|⟨m,hm,rfl⟩
     ·simp[IOp.wr]
     ·simp[IOp.wr,IOp.dst,hm]
    ·rw[<-kR,<-cX];rfl
    ·intro t j _;have A:=cJ (x:=v) (λn z=>j n (by simp[IOp.rd,z]));have E:t.get r=s.get r:=j r (by simp[IOp.rd]);simp only[step,A,E,hr,hc,if_true];rw[<-kR,<-cX];rfl
   ·simp at h
  ·simp at h
 |boxe d x=>
  refine b8 (match x.ev s with| .agg cs=>some (true,.ea (cs.map disown))|v=>if v.one then some (true,.ea [disown v]) else none) (λt j _=>?_) h;have q:x.ev t=x.ev s:=w j (by simp+contextual [IOp.rd]);simp only[step,q,IOp.dst,St.setO];split;·first|rfl|(simp_all;done)
  ·split<;>first|rfl|(simp_all;done)
 |mkf d f G=>
  refine b8 (some (true,.fn f (G.map λx=>disown (x.ev s)))) (λt j _=>?_) h;have e:(G.map λx=>disown (x.ev t))=G.map λx=>disown (x.ev s):=Bl λx C=>congrArg disown (w j (λn z=>by simp only[IOp.rd,AS];exact⟨x,C,z⟩))
  simp only[step,e,IOp.dst,St.setO,BA]
 |ixe d n x i=>
  refine b8 (match x.ev s,i.ev s with| .ea cs,.int _ i=>some (decide (0<=i)&&decide (i<n),.ea (cs.drop i.toNat))| .wp id k 0 0,.int _ i=>if k.sz=1 then some (decide (0<=i)&&decide (i<n),.wp id k i.toNat 0) else none|_,_=>none) (λt j _=>?_) h;have q:x.ev t=x.ev s:=w j (by simp+contextual [IOp.rd]);have A:i.ev t=i.ev s:=w j (by simp+contextual [IOp.rd]);simp only[step,q,A,IOp.dst,St.setO];split;·rename_i C H;simp only[C,H];rfl
  ·rename_i C H;simp only[C,H];split<;>rfl
  ·first|rfl|(simp_all;done)
 |pick d Z x y=>refine b8 (match Z.ev s with| .bool t=>some (true,aBP t (disown (x.ev s)) (disown (y.ev s)))|_=>none) (λt j _=>?_) h;have q:Z.ev t=Z.ev s:=w j (by simp+contextual [IOp.rd]);have A:x.ev t=x.ev s:=w j (by simp+contextual [IOp.rd]);have E:y.ev t=y.ev s:=w j (by simp+contextual [IOp.rd]);simp only[step,q,A,E,IOp.dst,St.setO];split<;>first|rfl|(simp_all;done)
 |bin d o x y=>refine b8 (aJV o (x.ev s) (y.ev s)) (λt j _=>?_) h;have q:x.ev t=x.ev s:=w j (by simp+contextual [IOp.rd]);have A:y.ev t=y.ev s:=w j (by simp+contextual [IOp.rd]);simp only[step,q,A,IOp.dst,St.setO]
 |un d o x=>refine b8 ((unV o (x.ev s)).map λv=>(true,v)) (λt j _=>?_) h;have q:x.ev t=x.ev s:=w j (by simp+contextual [IOp.rd]);simp only[step,q,IOp.dst,St.setO];cases unV o (x.ev s)<;>rfl
 |cvi d k x=>refine b8 (match x.ev s with| .int _ n=>some (true,.int k (k.wrap n))|_=>none) (λt j _=>?_) h;have q:x.ev t=x.ev s:=w j (by simp+contextual [IOp.rd]);simp only[step,q,IOp.dst,St.setO];split<;>first|rfl|(simp_all;done)
 |s2b d x=>refine b8 (match x.ev s with| .str l=>some (true,.sl .u8 .own l)|_=>none) (λt j _=>?_) h;have q:x.ev t=x.ev s:=w j (by simp+contextual [IOp.rd]);simp only[step,q,IOp.dst,St.setO];split<;>first|rfl|(simp_all;done)
 |b2s d x=>refine b8 (match x.ev s with| .sl .u8 _ l=>some (true,.str l)|_=>none) (λt j _=>?_) h;have q:x.ev t=x.ev s:=w j (by simp+contextual [IOp.rd]);simp only[step,q,IOp.dst,St.setO];split<;>first|rfl|(simp_all;done)
 |lens d x=>refine b8 (match x.ev s with| .str l=>some (true,.int .i64 l.length)|_=>none) (λt j _=>?_) h;have q:x.ev t=x.ev s:=w j (by simp+contextual [IOp.rd]);simp only[step,q,IOp.dst,St.setO];split<;>first|rfl|(simp_all;done)
 |lenl d x=>refine b8 (match x.ev s with| .sl _ _ l=>some (true,.int .i64 l.length)|_=>none) (λt j _=>?_) h;have q:x.ev t=x.ev s:=w j (by simp+contextual [IOp.rd]);simp only[step,q,IOp.dst,St.setO];split<;>first|rfl|(simp_all;done)
 |idx d x i=>refine b8 (match x.ev s,i.ev s with| .str l,.int _ i=>some (decide (0<=i)&&decide (i<l.length),.int .u8 (l.getD i.toNat 0).toNat)|_,_=>none) (λt j _=>?_) h;have q:x.ev t=x.ev s:=w j (by simp+contextual [IOp.rd]);have A:i.ev t=i.ev s:=w j (by simp+contextual [IOp.rd]);simp only[step,q,A,IOp.dst,St.setO];split<;>first|rfl|(simp_all;done)
 |ixa d k x i=>
  refine b8 (match x.ev s,i.ev s with| .sl k' _ l,.int _ i=>if k'=k then some (decide (0<=i)&&decide (i<l.length),.ea (enc k' (l.getD i.toNat (aI k')))) else none|_,_=>none) (λt j _=>?_) h;have q:x.ev t=x.ev s:=w j (by simp+contextual [IOp.rd]);have A:i.ev t=i.ev s:=w j (by simp+contextual [IOp.rd]);simp only[step,q,A,IOp.dst,St.setO];split;·split<;>first|rfl|(simp_all;done)
  ·first|rfl|(simp_all;done)
 |subs d x I H=>
  refine b8 (match x.ev s with| .str l=>(afM l.length (jG s I) (jG s H)).map λ(c,a,b)=>(c,.str ((l.take b).drop a))|_=>none) (λt j _=>?_) h;have q:x.ev t=x.ev s:=w j (by simp+contextual [IOp.rd]);have W:jG t I=jG s I:=P j (by simp+contextual [IOp.rd]);have f1:jG t H=jG s H:=P j (by simp+contextual [IOp.rd]);simp only[step,q,W,f1,IOp.dst,St.setO];split;·rename_i l Y;simp only[Y,CS];rfl
  ·first|rfl|(simp_all;done)
 |subl d k x I H=>
  refine b8 (match x.ev s with| .sl k' _ l=>if k'=k then (afM l.length (jG s I) (jG s H)).map λ(c,a,b)=>(c,.sl k' (.may false) ((l.take b).drop a)) else none|_=>none) (λt j _=>?_) h;have q:x.ev t=x.ev s:=w j (by simp+contextual [IOp.rd]);have W:jG t I=jG s I:=P j (by simp+contextual [IOp.rd]);have f1:jG t H=jG s H:=P j (by simp+contextual [IOp.rd]);simp only[step,q,W,f1,IOp.dst,St.setO];split
  ·rename_i l Y;simp only[Y];split;·simp only[CS];rfl
   ·rfl
  ·first|rfl|(simp_all;done)
 |bsl d k G u=>
  refine b8 ((aiR k (G.map (·.ev s))).map λl=>(true,.sl k (cond u (.may true) .own) l)) (λt j _=>?_) h;have e:G.map (·.ev t)=G.map (·.ev s):=Bl λx C=>w j (λn z=>by simp only[IOp.rd,AS];exact⟨x,C,z⟩)
  simp only[step,e,IOp.dst,St.setO,CS];rfl
 |bld d zero G=>
  refine b8 ((lay zero (G.map λ(B,n,x)=>(B,n,x.ev s))).map λcs=>(true,.agg cs)) (λt j _=>?_) h;have e:(G.map λ(B,n,x)=>(B,n,x.ev t))=G.map λ(B,n,x)=>(B,n,x.ev s):=Bl λx C=>by
   have:=w (x:=x.2.2) j (λn z=>by simp only[IOp.rd,AS];exact⟨x,C,z⟩);show (x.1,x.2.1,_)=(x.1,x.2.1,_)
   rw[this]
  simp only[step,e,IOp.dst,St.setO,CS];rfl
 |fld d B n agg x=>
  refine b8 (match x.ev s with| .agg cs=>if B+n<=cs.length then some (true,disown (loaded agg ((cs.drop B).take n))) else none|_=>none) (λt j _=>?_) h;have q:x.ev t=x.ev s:=w j (by simp+contextual [IOp.rd]);simp only[step,q,IOp.dst,St.setO];split;·split<;>first|rfl|(simp_all;done)
  ·first|rfl|(simp_all;done)
 |fad d B x=>refine b8 (match x.ev s with| .ea cs=>some (true,.ea (cs.drop B))| .ptr id o=>some (true,.ptr id (o+B))|_=>none) (λt j _=>?_) h;have q:x.ev t=x.ev s:=w j (by simp+contextual [IOp.rd]);simp only[step,q,IOp.dst,St.setO];split<;>first|rfl|(simp_all;done)
 |ld d n agg N x=>
  cases N with
  |true=>simp[IOp.cls] at D
  |false=>
   refine b8 (match x.ev s with| .ea cs=>if n<=cs.length then some (true,disown (loaded agg (cs.take n))) else none| .ptr id o=>(match s.obj id with|some cs=>if o+n<=cs.length then some (true,disown (loaded agg ((cs.drop o).take n))) else none|none=>none)|_=>none) (λt j J=>?_) h;have q:x.ev t=x.ev s:=w j (by simp+contextual [IOp.rd]);have A:∀id,t.obj id=s.obj id:=λid=>by simp only[St.obj];rw[J rfl]
   simp only[step,q,A,IOp.dst,St.setO];split;·split<;>first|rfl|(simp_all;done)
   ·split;·split<;>first|rfl|(simp_all;done)
    ·first|rfl|(simp_all;done)
   ·first|rfl|(simp_all;done)
 |ext d i x=>
  refine b8 (match x.ev s with| .tup vs=>if i<vs.length then some (true,disown (vs.getD i .undef)) else none|_=>none) (λt j _=>?_) h;have q:x.ev t=x.ev s:=w j (by simp+contextual [IOp.rd]);simp only[step,q,IOp.dst,St.setO];split;·split<;>first|rfl|(simp_all;done)
  ·first|rfl|(simp_all;done)
 |nck d x=>refine b8 (match x.ev s with| .ptr id o=>some (true,.ptr id o)| .ea cs=>some (true,.ea cs)|_=>none) (λt j _=>?_) h;have q:x.ev t=x.ev s:=w j (by simp+contextual [IOp.rd]);simp only[step,q,IOp.dst];split<;>first|rfl|(simp_all;done)
 |mx d mn x y=>
  refine b8 (match x.ev s,y.ev s with| .int k a,.int k' b=>if k=k' then some (true,.int k (if mn then (if b<a then b else a) else (if a<b then b else a))) else none|_,_=>none) (λt j _=>?_) h;have q:x.ev t=x.ev s:=w j (by simp+contextual [IOp.rd]);have A:y.ev t=y.ev s:=w j (by simp+contextual [IOp.rd]);simp only[step,q,A,IOp.dst,St.setO];split;·split<;>first|rfl|(simp_all;done)
  ·first|rfl|(simp_all;done)
 |call d f avs=>
  have Q:imp.contains f=false:=by
   simp only[IOp.cls] at D;split at D;·omega
   ·rename_i Q;simpa using Q
  refine b8 ((Γ f (avs.map λx=>disown (x.ev s)) []).map λx=>(x.1,x.2.1)) (λt j _=>?_) h;have e:(avs.map λx=>disown (x.ev t))=avs.map λx=>disown (x.ev s):=Bl λx C=>by rw[w (x:=x) j (λn z=>by simp only[IOp.rd,AS];exact⟨x,C,z⟩)]
  simp only[step,e,IOp.dst];rw[hP.pure _ _ _ Q];cases Γ f (avs.map λx=>disown (x.ev s)) [] with
  |none=>rfl
  |some p=>rfl
def St.put(s:St)(u:List (Nat×V))(q:Option (List aK)):St:={s.upd u with hp:=q.getD s.hp}
theorem aB6(hP:co Γ imp){o:IOp}(Z:∀d k x y,o≠.apo d k x y){s:St}{c:Bool}{s':St}(h:step Γ o s=some (c,s')):
  ∃(u:List (Nat×V))(q:Option (List aK)),(∀p∈u,p.1∈o.wr)∧(o.cls imp<=1->q=none)∧s'=s.put u q∧
   ∀t:St,(∀n∈o.rd,t.get n=s.get n)->(1<=o.cls imp->t.hp=s.hp)->step Γ o t=some (c,t.put u q):=by
 have E:∀{x:ASrc}{l:List Nat}{t:St},(∀n∈l,t.get n=s.get n)->(∀n∈x.slots,n∈l)->x.ev t=x.ev s:=λR S=>cJ λn H=>R n (S n H)
 by_cases P:o.cls imp<=1;·obtain⟨u,R,S,h3⟩:=aG2 hP P h;exact⟨u,none,R,λ_=>rfl,S,λt a j=>h3 t a (λe=>j (by omega))⟩
 ·have b:∀{q:Option (List aK)},o.cls imp<=1->q=none:=λh=>absurd h P
  cases o with
  |new d zero=>
   obtain⟨rfl,rfl⟩:true=c∧_=s':=by simpa [step] using h
   refine⟨[(d,.ptr s.hp.length 0)],some (s.hp++[some zero]),by simp[IOp.wr,IOp.dst],b,rfl,λt a j=>?_⟩;have e:=j (by simp[IOp.cls]);simp only[step,e];rfl
  |pub d r n v=>
   simp only[step] at h;split at h
   ·rename_i m hr;split at h
    ·rename_i hc;simp only[Ae,Aj] at h;obtain⟨rfl,rfl⟩:=h;refine⟨[(r,.ptr s.hp.length 0)]++(d.toList.map λd=>(d,.undef)),some (s.hp++[some ((v.ev s).cells.map disown)]),?_,b,?_,?_⟩
     ·intro p hp;simp only[Az,AH,Ay] at hp;rcases hp with rfl|⟨m,C,rfl⟩
      ·simp[IOp.wr]
      ·simp[IOp.wr,IOp.dst,C]
     ·cases d<;>rfl
     ·intro t a j;have e:=j (by simp[IOp.cls]);have F:v.ev t=v.ev s:=E a (by simp+contextual [IOp.rd]);have L:=a r (by simp[IOp.rd]);simp only[step,L,hr,F,e];rw[if_pos hc];cases d<;>rfl
    ·simp at h
   ·simp at h
  |newb d zero=>
   obtain⟨rfl,rfl⟩:true=c∧_=s':=by simpa [step] using h
   refine⟨[(d,.ptr s.hp.length 0)],some (s.hp++[some zero]),by simp[IOp.wr,IOp.dst],b,rfl,λt a j=>?_⟩;have e:=j (by simp[IOp.cls]);simp only[step,e];rfl
  |arw d k n=>
   obtain⟨rfl,rfl⟩:true=c∧_=s':=by simpa [step] using h
   refine⟨[(d,.wp s.hp.length (.num k) 0 0)],some (s.hp++[some [.rw (.num k) (Cy n 0)],none]),by simp[IOp.wr,IOp.dst],b,rfl,λt a j=>?_⟩;have e:=j (by simp[IOp.cls]);simp only[step,e];rfl
  |apo d k x y=>exact absurd rfl (Z d k x y)
  |stw d n x v=>
   simp only[step] at h;split at h
   ·rename_i id k i o A;cases D:s.rowW id with
    |none=>rw[D] at h;simp at h
    |some p=>
     obtain⟨k',xs⟩:=p;rw[D] at h;simp only at h;split at h
     ·rename_i w;cases he:ac7 k' (xs.getD i (aI k')) o (v.ev s).cells with
      |none=>rw[he] at h;simp at h
      |some x2=>
       rw[he] at h;simp only[Ae,Aj] at h;obtain⟨rfl,rfl⟩:=h;refine⟨d.toList.map (λd=>(d,V.undef)),some (s.hp.set id (some [.rw k' (xs.set i x2)])),?_,b,?_,?_⟩;·intro p hp;simp only[AH] at hp;obtain⟨m,C,rfl⟩:=hp;simp[IOp.wr,IOp.dst,C]
       ·simp only[St.put,<-cX];cases d<;>rfl
       ·intro t a j;have e:=j (by simp[IOp.cls]);have B:x.ev t=x.ev s:=E a (by simp+contextual [IOp.rd]);have F:v.ev t=v.ev s:=E a (by simp+contextual [IOp.rd]);have G:t.rowW id=some ⟨k',xs⟩:=by rw[<-D];simp only[St.rowW];rw[e]
        simp only[step,B,F,A,G];rw[if_pos w,he,<-e];simp only[St.put,<-cX];cases d<;>rfl
     ·simp at h
   ·simp at h
  |stn d x v=>
   simp only[step] at h;split at h
   ·rename_i id k i o N X n2 A hv;cases D:s.rowW id with
    |none=>rw[D] at h;simp at h
    |some p=>
     obtain⟨k',xs⟩:=p;rw[D] at h;simp only at h;split at h
     ·rename_i w;simp only[Ae,Aj] at h;obtain⟨rfl,rfl⟩:=h;refine⟨d.toList.map (λd=>(d,V.undef)),some (s.hp.set id (some [.tup [.rw k' xs,.sw N X n2,.wp id k' i o]])),?_,b,?_,?_⟩;·intro p hp;simp only[AH] at hp;obtain⟨m,C,rfl⟩:=hp;simp[IOp.wr,IOp.dst,C]
      ·simp only[St.put,<-cX];cases d<;>rfl
      ·intro t a j;have e:=j (by simp[IOp.cls]);have B:x.ev t=x.ev s:=E a (by simp+contextual [IOp.rd]);have F:v.ev t=v.ev s:=E a (by simp+contextual [IOp.rd]);have G:t.rowW id=some ⟨k',xs⟩:=by rw[<-D];simp only[St.rowW];rw[e]
       simp only[step,B,F,A,hv,G];rw[if_pos w,<-e];simp only[St.put,<-cX];cases d<;>rfl
     ·simp at h
   ·simp at h
  |stu d x n=>
   simp only[step] at h;split at h
   ·rename_i N ys C;split at h
    ·rename_i id k i o A;cases D:s.rowW id with
     |none=>rw[D] at h;simp at h
     |some p=>
      obtain⟨k',xs⟩:=p;rw[D] at h;simp only at h;split at h
      ·rename_i w;simp only[Ae,Aj] at h;obtain⟨rfl,rfl⟩:=h;refine⟨[(n,.sw N s.hp.length ys.length)]++d.toList.map (λd=>(d,V.undef)),some ((s.hp++[some [V.rw N ys],none]).set id (some [.tup [.rw k' xs,.sw N s.hp.length ys.length,.wp id k' i o]])),?_,b,?_,?_⟩
       ·intro p hp;simp only[Az,AH,Ay] at hp;rcases hp with rfl|⟨m,C,rfl⟩
        ·simp[IOp.wr]
        ·simp[IOp.wr,IOp.dst,C]
       ·cases d<;>rfl
       ·intro t a j;have e:=j (by simp[IOp.cls]);have B:x.ev t=x.ev s:=E a (by simp+contextual [IOp.rd]);have F:t.get n=s.get n:=a n (by simp[IOp.rd]);have G:t.rowW id=some ⟨k',xs⟩:=by rw[<-D];simp only[St.rowW];rw[e]
        simp only[step,F,C,B,A,G];rw[if_pos w,e];cases d<;>rfl
      ·simp at h
    ·simp at h
   ·simp at h
  |mkm d k=>
   obtain⟨rfl,rfl⟩:true=c∧_=s':=by simpa [step] using h
   refine⟨[(d,.mr s.hp.length)],some (s.hp++[some [.mp k []]]),by simp[IOp.wr,IOp.dst],b,rfl,λt a j=>?_⟩;have e:=j (by simp[IOp.cls]);simp only[step,e];rfl
  |mput d k x y z=>
   simp only[step] at h;split at h
   ·rename_i id A;split at h
    ·rename_i k' es D;split at h
     ·rename_i W;split at h
      ·rename_i key v Y hz;simp only[Ae,Aj] at h;obtain⟨rfl,rfl⟩:=h;refine⟨d.toList.map (λd=>(d,V.undef)),some (s.hp.set id (some [.mp k' (nB es key v)])),?_,b,?_,?_⟩;·intro p hp;simp only[AH] at hp;obtain⟨m,C,rfl⟩:=hp;simp[IOp.wr,IOp.dst,C]
       ·simp only[St.put,<-cX];cases d<;>rfl
       ·intro t a j;have e:=j (by simp[IOp.cls]);have B:x.ev t=x.ev s:=E a (by simp+contextual [IOp.rd]);have F:y.ev t=y.ev s:=E a (by simp+contextual [IOp.rd]);have L:z.ev t=z.ev s:=E a (by simp+contextual [IOp.rd]);have G:t.mapO id=s.mapO id:=by simp only[St.mapO];rw[e]
        simp only[step,B,F,L,G,A,D,Y,hz];rw[if_pos W,<-e];simp only[St.put,<-cX];cases d<;>rfl
      ·simp at h
     ·simp at h
    ·simp at h
   ·simp at h
  |box d x=>
   have B:∀t:St,(∀n∈(IOp.box d x).rd,t.get n=s.get n)->x.ev t=x.ev s:=λt a=>E a (by simp+contextual [IOp.rd])
   simp only[step] at h;split at h;·rename_i cs A;simp only[Ae,Aj] at h;obtain⟨rfl,rfl⟩:=h;refine⟨[(d,.ptr s.hp.length 0)],some (s.hp++[some cs]),by simp[IOp.wr,IOp.dst],b,rfl,λt a j=>?_⟩;have e:=j (by simp[IOp.cls]);simp only[step,B t a,A,e];rfl
   ·rename_i A;split at h;·rename_i O;simp only[Ae,Aj] at h;obtain⟨rfl,rfl⟩:=h;refine⟨[(d,.ptr s.hp.length 0)],some (s.hp++[some [disown (x.ev s)]]),by simp[IOp.wr,IOp.dst],b,rfl,λt a j=>?_⟩;have e:=j (by simp[IOp.cls]);simp only[step,B t a,e];rw[if_pos O];rfl
    ·simp at h
  |st d n x v=>
   simp only[step] at h;split at h
   ·rename_i id o A;split at h
    ·rename_i cs D;split at h
     ·rename_i w;simp only[Ae,Aj] at h;obtain⟨rfl,rfl⟩:=h;refine⟨v.takes.map (λn=>(n,disown (s.get n)))++d.toList.map (λd=>(d,V.undef)),some (s.hp.set id (some (cs.take o++(v.ev s).cells++cs.drop (o+n)))),?_,b,?_,?_⟩
      ·intro p hp;simp only[Az,AH] at hp;rcases hp with⟨m,C,rfl⟩|⟨m,C,rfl⟩
       ·simp[IOp.wr,IOp.dst,C]
       ·simp[IOp.wr,IOp.dst,C]
      ·simp only[St.put,<-kR,<-f7,<-cX];cases d<;>cases v<;>rfl
      ·intro t a j;have e:=j (by simp[IOp.cls]);have B:x.ev t=x.ev s:=E a (by simp+contextual [IOp.rd]);have F:v.ev t=v.ev s:=E a (by simp+contextual [IOp.rd]);have G:t.obj id=s.obj id:=by simp only[St.obj];rw[e]
       have L:v.takes.map (λn=>(n,disown (t.get n)))=v.takes.map (λn=>(n,disown (s.get n))):=by
        cases v with
        |tk n=>simp only[ASrc.takes,List.map];rw[a n (by simp[IOp.rd,ASrc.slots])]
        |_=>rfl
       simp only[step,B,F,G,A,D];rw[if_pos w,<-L,<-e];simp only[St.put,<-kR,<-f7,<-cX];cases d<;>cases v<;>rfl
     ·simp at h
    ·simp at h
   ·simp at h
  |ld d n agg M x=>
   cases M with
   |false=>simp[IOp.cls] at P
   |true=>
    have B:∀t:St,(∀m∈(IOp.ld d n agg true x).rd,t.get m=s.get m)->x.ev t=x.ev s:=λt a=>E a (by simp+contextual [IOp.rd])
    simp only[step] at h;split at h
    ·rename_i cs A;split at h;·rename_i I;simp only[Ae,Aj] at h;obtain⟨rfl,rfl⟩:=h;refine⟨[(d,_)],none,by simp[IOp.wr,IOp.dst],b,rfl,λt a j=>?_⟩;simp only[step,B t a,A];rw[if_pos I];rfl
     ·simp at h
    ·rename_i id o A;split at h
     ·rename_i cs D;split at h
      ·rename_i I;simp only[if_true] at h;cases J:noBn (cs.getD o .undef) with
       |false=>rw[J] at h;simp at h
       |true=>
       rw[J] at h;simp only[if_true,Ae,Aj] at h;obtain⟨rfl,rfl⟩:=h;refine⟨[(d,loaded agg ((cs.drop o).take n))],some (s.hp.set id (some (cs.set o (disown (cs.getD o .undef))))),by simp[IOp.wr,IOp.dst],b,rfl,λt a j=>?_⟩;have e:=j (by simp[IOp.cls]);have G:t.obj id=s.obj id:=by simp only[St.obj];rw[e]
       simp only[step,B t a,A,G,D];rw[if_pos I,J,<-e];rfl
      ·simp at h
     ·simp at h
    ·simp at h
  |call d f avs=>
   have B:∀t:St,(∀n∈(IOp.call d f avs).rd,t.get n=s.get n)->(avs.map λx=>disown (x.ev t))=avs.map λx=>disown (x.ev s):=λt a=>Bl λx A=>by rw[E (x:=x) a (λn H=>by simp only[IOp.rd,AS];exact⟨x,A,H⟩)]
   simp only[step] at h;split at h
   ·rename_i c' v hp' Q;simp only[Ae,Aj] at h;obtain⟨rfl,rfl⟩:=h;refine⟨d.toList.map (λd=>(d,v)),some hp',?_,b,?_,λt a j=>?_⟩;·intro p hp;simp only[AH] at hp;obtain⟨m,C,rfl⟩:=hp;simp[IOp.wr,IOp.dst,C]
    ·simp only[St.put,<-cX];cases d<;>rfl
    ·have e:=j (by omega);simp only[step,B t a,e,Q];simp only[St.put,<-cX];cases d<;>rfl
   ·simp at h
  |dcall d f x avs=>
   have ex:∀t:St,(∀n∈(IOp.dcall d f x avs).rd,t.get n=s.get n)->x.ev t=x.ev s:=λt a=>E (x:=x) a (λn H=>by simp only[IOp.rd,Az];exact .inl H)
   have B:∀t:St,(∀n∈(IOp.dcall d f x avs).rd,t.get n=s.get n)->(avs.map λx=>disown (x.ev t))=avs.map λx=>disown (x.ev s):=λt a=>Bl λy Y=>by rw[E (x:=y) a (λn H=>by simp only[IOp.rd,Az,AS];exact .inr ⟨y,Y,H⟩)]
   simp only[step] at h;split at h
   ·rename_i f' ab2 A;split at h
    ·rename_i c' v hp' Q;simp only[Ae,Aj] at h;obtain⟨rfl,rfl⟩:=h;refine⟨d.toList.map (λd=>(d,v)),some hp',?_,b,?_,λt a j=>?_⟩;·intro p hp;simp only[AH] at hp;obtain⟨m,C,rfl⟩:=hp;simp[IOp.wr,IOp.dst,C]
     ·simp only[St.put,<-cX];cases d<;>rfl
     ·have e:=j (by omega);simp only[step,B t a,ex t a,A,e,Q];simp only[St.put,<-cX];cases d<;>rfl
    ·simp at h
   ·simp at h
  |_=>simp[IOp.cls] at P
theorem aiT(s:St)(u:List (Nat×V)):(s.upd u).env.length=s.env.length:=by
 have:∀(u:List (Nat×V))(e:List V),(u.foldl (λe p=>e.set p.1 p.2) e).length=e.length:=by
  intro u;induction u with
  |nil=>intro e;rfl
  |cons p u a=>intro e;rw[BG,a,AD]
 exact this u s.env
theorem aEZ(H:co Γ imp){o:IOp}{s:St}{c:Bool}{s':St}(h:step Γ o s=some (c,s')):
  ∃(u:List (Nat×V))(q:Option (List aK)),(∀p∈u,p.1∈o.wr)∧(o.cls imp<=1->q=none)∧s'=s.put u q∧
   ∀t:St,(∀n∈o.rd,t.get n=s.get n)->(1<=o.cls imp->t.hp=s.hp∧t.env.length=s.env.length)->step Γ o t=some (c,t.put u q):=by
 by_cases A:∃d k x y,o=.apo d k x y
 ·obtain⟨d,k,x,y,rfl⟩:=A;have r:∀{t:St},(∀f∈(IOp.apo d k x y).rd,t.get f=s.get f)->x.ev t=x.ev s:=λa=>cJ λn b=>a n (by simp[IOp.rd,b])
  have i:∀{t:St},(∀f∈(IOp.apo d k x y).rd,t.get f=s.get f)->y.ev t=y.ev s:=λa=>cJ λn b=>a n (by simp[IOp.rd,b])
  simp only[step] at h;split at h
  ·rename_i z l O M w J E;split at h
   ·rename_i F;split at h
    ·rename_i v;split at h
     ·rename_i N;simp only[Ae,Aj] at h;obtain⟨rfl,rfl⟩:=h;refine⟨(x.takes.map λn=>(n,disown (s.get n)))++[(d,.sw z s.hp.length (l++(v▸w)).length)],some (s.hp++[some [.rw z (l++(v▸w))],none]),?_,λI=>by simp[IOp.cls] at I,?_,λt a m=>?_⟩
      ·intro p hp;simp only[Az,AH,Ay] at hp;rcases hp with⟨n,b,rfl⟩|rfl;·simp[IOp.wr,IOp.dst,b]
       ·simp[IOp.wr,IOp.dst]
      ·rw[f7];simp[St.put,St.upd,St.set]
      ·obtain⟨e,P⟩:=m (by simp[IOp.cls]);have j:d<t.env.length:=by omega
       simp only[step,r a,i a,J,E,dif_pos v,if_pos F,if_pos j,e];have D:(x.takes.map λn=>(n,disown (t.get n)))=x.takes.map λn=>(n,disown (s.get n)):=Bl λn b=>by rw[a n (by cases x<;>simp[ASrc.takes] at b<;>subst b<;>simp[IOp.rd,ASrc.slots])]
       rw[f7,D];simp[St.put,St.upd,St.set]
     ·cases h
    ·cases h
   ·cases h
  ·cases h
 ·obtain⟨u,q,B,C,G,L⟩:=aB6 H (λd k x y e=>A ⟨d,k,x,y,e⟩) h;exact⟨u,q,B,C,G,λt a m=>L t a (λe=>(m e).1)⟩
def eC(Γ:aG)(x:GOp)(s:St):Option St:=
 match x.g with
 |none=>match stepO Γ x.ob x.o s with|some (c,s')=>chk c (some s')|none=>none
 |some (g,w)=>match s.get g with
  | .bool b=>match b==w with
    |true=>match stepO Γ x.ob x.o s with|some (c,s')=>chk c (some s')|none=>none
    |false=>some (s.setO x.o.dst (.tup []))
  | .tup []=>some (s.setO x.o.dst (.tup []))
  |_=>none
theorem aLu(s:St)(n:Nat){v:V}(h:s.get n=v):s.set n v=s:=by
 subst h;simp only[St.set,St.get,Af]
 congr 1
 apply CO;intro m;rw[Ax];split
 ·rename_i e;subst e;split;·rename_i a;simp[Ah a]
  ·rename_i a;simp[A1 (Dp a)]
 ·rfl
theorem afP{R:Type}(x:GOp)(l:List GOp)(K:St->Option R)(s:St):runOps Γ (x::l) K s=(eC Γ x s).bind (runOps Γ l K):=by
 obtain⟨g,o,ob⟩:=x;have go:∀s,(match stepO Γ ob o s with|some (c,s')=>chk c (runOps Γ l K s')|none=>none)=(match stepO Γ ob o s with|some (c,s')=>chk c (some s')|none=>none).bind (runOps Γ l K):=by
  intro s;split;·rename_i c s' _;cases c<;>rfl
  ·rfl
 cases g with
 |none=>simp only[runOps,eC];exact go s
 |some g=>
  obtain⟨g,w⟩:=g;simp only[runOps,eC];split;·rename_i b a;rw[a];cases b<;>cases w<;>simp only[cond_true,cond_false,aLu s g a]<;>first|exact go s|rfl
  ·rename_i a;rw[a];rfl
  ·rename_i e d;split;·rename_i b a;exact absurd a (e b)
   ·rename_i a;exact absurd a d
   ·rfl
theorem aIq{o:IOp}{s t:St}(h:∀n∈o.rd,t.get n=s.get n):o.foot t=o.foot s:=by
 cases o with
 |ld d n agg b x=>simp only[IOp.foot];rw[cJ (x:=x) h]
 |st d n x v=>simp only[IOp.foot];rw[cJ (x:=x) λn a=>h n (by simp[IOp.rd,a])]
 |call d f avs=>
  have e:avs.map (λx=>disown (x.ev t))=avs.map (λx=>disown (x.ev s)):=Bl λx c=>by rw[cJ λn a=>h n (by simp only[IOp.rd,AS];exact⟨x,c,a⟩)]
  simp only[IOp.foot,e]
 |ldw d n agg x=>simp only[IOp.foot];rw[cJ (x:=x) h]
 |stw d n x v=>simp only[IOp.foot];rw[cJ (x:=x) λn a=>h n (by simp[IOp.rd,a])]
 |stn d x v=>simp only[IOp.foot];rw[cJ (x:=x) λn a=>h n (by simp[IOp.rd,a])]
 |_=>rfl
theorem uZ{ob:Option (List Nat×List Nat)}{o:IOp}{s t:St}{p q:Bool×St}(h:stepO Γ ob o s=some p)(b:∀n∈o.rd,t.get n=s.get n)(a:step Γ o t=some q):stepO Γ ob o t=some q:=by
 cases ob with
 |none=>exact a
 |some l=>
  simp only[stepO] at h ⊢;have e:o.within l t=o.within l s:=by simp only[IOp.within,aIq b]
  rw[e];cases c:o.within l s with
  |true=>exact a
  |false=>rw[c] at h;simp at h
def GOp.rd(x:GOp):List Nat:=(match x.g with|some (g,_)=>[g]|none=>[])++x.o.rd
theorem an3(C:co Γ imp){x:GOp}{s s':St}(h:eC Γ x s=some s'):
  ∃(u:List (Nat×V))(q:Option (List aK)),(∀p∈u,p.1∈x.o.wr)∧(x.o.cls imp<=1->q=none)∧s'=s.put u q∧
   ∀t:St,(∀n∈x.rd,t.get n=s.get n)->(1<=x.o.cls imp->t.hp=s.hp∧t.env.length=s.env.length)->eC Γ x t=some (t.put u q):=by
 obtain⟨g,o,ob⟩:=x
 have go:(match stepO Γ ob o s with|some (c,s')=>chk c (some s')|none=>none)=some s'->∃(u:List (Nat×V))(q:Option (List aK)),(∀p∈u,p.1∈o.wr)∧(o.cls imp<=1->q=none)∧s'=s.put u q∧
   ∀t:St,(∀n∈o.rd,t.get n=s.get n)->(1<=o.cls imp->t.hp=s.hp∧t.env.length=s.env.length)->(match stepO Γ ob o t with|some (c,s')=>chk c (some s')|none=>none)=some (t.put u q):=by
  intro h;split at h
  ·rename_i c v r;cases c with
   |false=>simp[chk] at h
   |true=>
    obtain rfl:v=s':=by simpa [chk] using h
    obtain⟨u,q,j,k,l,y⟩:=aEZ C (nU r);exact⟨u,q,j,k,l,λt a f=>by rw[uZ r a (y t a f)];rfl⟩
  ·simp at h
 cases g with
 |none=>obtain⟨u,q,j,k,l,y⟩:=go h;exact⟨u,q,j,k,l,λt a f=>y t (λn A=>a n (by simp[GOp.rd,A])) f⟩
 |some g=>
  obtain⟨g,w⟩:=g;simp only[eC] at h;split at h
  ·rename_i b z;split at h;·rename_i i;obtain⟨u,q,j,k,l,y⟩:=go h;refine⟨u,q,j,k,l,λt a f=>?_⟩;have e:=a g (by simp[GOp.rd]);simp only[eC,e,z,i];exact y t (λn A=>a n (by simp[GOp.rd,A])) f
   ·rename_i i;obtain rfl:_=s':=by simpa using h
    refine⟨o.dst.toList.map (λd=>(d,V.tup [])),none,?_,λ_=>rfl,by rw[cX];rfl,λt a f=>?_⟩;·intro p hp;simp only[AH] at hp;obtain⟨m,B,rfl⟩:=hp;simp[IOp.wr,B]
    ·have e:=a g (by simp[GOp.rd]);simp only[eC,e,z,i];rw[cX];rfl
  ·rename_i z;obtain rfl:_=s':=by simpa using h
   refine⟨o.dst.toList.map (λd=>(d,V.tup [])),none,?_,λ_=>rfl,by rw[cX];rfl,λt a f=>?_⟩;·intro p hp;simp only[AH] at hp;obtain⟨m,B,rfl⟩:=hp;simp[IOp.wr,B]
   ·have e:=a g (by simp[GOp.rd]);simp only[eC,e,z];rw[cX];rfl
  ·simp at h
def ath(a b:List Nat):Bool:=a.all λn=> !b.contains n
def IOp.obable(imp:List Nat):IOp->Bool
 | .ld .. | .st .. | .ldw .. | .stw .. | .stn .. =>true
 | .call _ f _=>imp.contains (f+2000000)
 |_=>false
def apart(imp:List Nat)(x y:GOp):Bool:=(x.o.obable imp&&y.o.obable imp)&&(match x.ob,y.ob with
 |some (r,w),some (a,w')=>ath w a&&(ath w w'&&ath w' r)
 |_,_=>false)
def aIr(x y:GOp):Bool:=match x.g,y.g,x.o,y.o with
 |none,none,.ld _ _ _ true _,.ld _ _ _ false _=>true
 |none,none,.ld _ _ _ false _,.ld _ _ _ true _=>true
 |_,_,_,_=>false
def auM(imp:List Nat)(x y:GOp):Bool:=
 ath x.o.wr y.rd&&(ath y.o.wr x.rd&&(ath x.o.wr y.o.wr&&(((Nat.ble (x.o.cls imp) 1||AI (y.o.cls imp) 0)&&(Nat.ble (y.o.cls imp) 1||AI (x.o.cls imp) 0))||(apart imp x y||aIr x y))))
def St.putH(s:St)(u:List (Nat×V))(q:List (Nat×aK)):St:={s.upd u with hp:=an2 s.hp q}
theorem ati{s t:St}{i:Nat}(h:t.hp[i]? =s.hp[i]?):t.obj i=s.obj i:=by unfold St.obj;rw[ahn h]
theorem an4{s t:St}{i:Nat}(h:t.hp[i]? =s.hp[i]?):t.rowW i=s.rowW i:=by unfold St.rowW;rw[ahn h]
theorem aIs(N:co Γ imp){o:IOp}(G:o.obable imp=true){s:St}{c:Bool}{s':St}{r w:List Nat}(y:o.foot s=some (r,w))(h:step Γ o s=some (c,s')):
  ∃(u:List (Nat×V))(q:List (Nat×aK)),(∀p∈u,p.1∈o.wr)∧(∀p∈q,p.1∈w)∧s'=s.putH u q∧
   ∀t:St,(∀n∈o.rd,t.get n=s.get n)->t.hp.length=s.hp.length->(∀i,i∈r∨i∈w->t.hp[i]? =s.hp[i]?)->step Γ o t=some (c,t.putH u q):=by
 cases o with
 |ld d n agg C x=>
  have A:∀t:St,(∀n∈(IOp.ld d n agg C x).rd,t.get n=s.get n)->x.ev t=x.ev s:=λt b=>cJ b
  cases j:x.ev s with
  |ea cs=>
   simp only[step,j] at h;split at h;·rename_i l;simp only[Ae,Aj] at h;obtain⟨rfl,rfl⟩:=h;refine⟨[(d,disown (loaded agg (cs.take n)))],[],by simp[IOp.wr,IOp.dst],by simp,rfl,λt b _ _=>?_⟩;simp only[step,A t b,j,if_pos l];rfl
   ·simp at h
  |ptr id o=>
   simp only[IOp.foot,j,Ae] at y;simp only[step,j] at h;cases a:s.obj id with
   |none=>rw[a] at h;simp at h
   |some cs=>
    rw[a] at h;simp only at h;split at h
    ·rename_i l;cases C with
     |false=>simp only[cond_false,Aj] at y;obtain⟨rfl,rfl⟩:=y;simp only[Cg,if_false,Ae,Aj] at h;obtain⟨rfl,rfl⟩:=h;refine⟨[(d,disown (loaded agg ((cs.drop o).take n)))],[],by simp[IOp.wr,IOp.dst],by simp,rfl,λt b _ z=>?_⟩;have e:=ati (z id (.inl (by simp)));simp only[step,A t b,j,e,a,if_pos l];rfl
     |true=>
      simp only[cond_true,Aj] at y;obtain⟨rfl,rfl⟩:=y;simp only[if_true] at h;split at h;·rename_i L;simp only[Ae,Aj] at h;obtain⟨rfl,rfl⟩:=h;refine⟨[(d,loaded agg ((cs.drop o).take n))],[(id,some (cs.set o (disown (cs.getD o .undef))))],by simp[IOp.wr,IOp.dst],by simp,rfl,λt b _ z=>?_⟩;have e:=ati (z id (.inr (by simp)));simp only[step,A t b,j,e,a,if_pos l,if_true,if_pos L];rfl
      ·simp at h
    ·simp at h
  |_=>simp[IOp.foot,j] at y
 |st d n x v=>
  have A:∀t:St,(∀n∈(IOp.st d n x v).rd,t.get n=s.get n)->x.ev t=x.ev s:=λt b=>cJ λn l=>b n (by simp[IOp.rd,l])
  have ev:∀t:St,(∀n∈(IOp.st d n x v).rd,t.get n=s.get n)->v.ev t=v.ev s:=λt b=>cJ λn l=>b n (by simp[IOp.rd,l])
  have ea:∀t:St,(∀n∈(IOp.st d n x v).rd,t.get n=s.get n)->v.takes.map (λn=>(n,disown (t.get n)))=v.takes.map (λn=>(n,disown (s.get n))):=by
   intro t b;cases v with
   |tk m=>simp only[ASrc.takes,List.map];rw[b m (by simp[IOp.rd,ASrc.slots])]
   |_=>rfl
  cases j:x.ev s with
  |ptr id o=>
   simp only[IOp.foot,j,Ae,Aj] at y;obtain⟨rfl,rfl⟩:=y;simp only[step,j] at h;cases a:s.obj id with
   |none=>rw[a] at h;simp at h
   |some cs=>
    rw[a] at h;simp only at h;split at h
    ·rename_i l;simp only[Ae,Aj] at h;obtain⟨rfl,rfl⟩:=h;refine⟨v.takes.map (λn=>(n,disown (s.get n)))++d.toList.map (λd=>(d,V.undef)),[(id,some (cs.take o++(v.ev s).cells++cs.drop (o+n)))],?_,by simp,?_,λt b _ z=>?_⟩
     ·intro p hp;simp only[Az,AH] at hp;rcases hp with⟨m,B,rfl⟩|⟨m,B,rfl⟩
      ·simp[IOp.wr,IOp.dst,B]
      ·simp only[Dl] at B;simp[IOp.wr,IOp.dst,B]
     ·rw[f7,cX];simp only[St.putH,<-kR];rfl
     ·have e:=ati (z id (.inr (by simp)));simp only[step,A t b,ev t b,j,e,a,if_pos l];rw[f7,cX,ea t b];simp only[St.putH,<-kR];rfl
    ·simp at h
  |_=>simp[IOp.foot,j] at y
 |call d f avs=>
  have e:∀t:St,(∀n∈(IOp.call d f avs).rd,t.get n=s.get n)->avs.map (λx=>disown (x.ev t))=avs.map (λx=>disown (x.ev s)):=λt b=>Bl λx j=>by rw[cJ λn l=>b n (by simp only[IOp.rd,AS];exact⟨x,j,l⟩)]
  simp only[IOp.foot,Ae,Aj] at y;obtain⟨rfl,rfl⟩:=y;simp only[step] at h;split at h
  ·rename_i W I hp' H;simp only[Ae,Aj] at h;obtain⟨rfl,rfl⟩:=h;obtain⟨q,M,rfl,P⟩:=N.loc f _ _ _ _ _ G H;refine⟨d.toList.map (λd=>(d,I)),q,?_,M,?_,λt b J z=>?_⟩;·intro p hp;simp only[AH,Dl] at hp;obtain⟨m,B,rfl⟩:=hp;simp[IOp.wr,IOp.dst,B]
   ·rw[cX];rfl
   ·have:=P t.hp J (λi R=>z i (.inl R));simp only[step,e t b,this];rw[cX];rfl
  ·simp at h
 |ldw d n agg x=>
  have A:∀t:St,(∀n∈(IOp.ldw d n agg x).rd,t.get n=s.get n)->x.ev t=x.ev s:=λt b=>cJ b
  cases j:x.ev s with
  |wp id k i o=>
   simp only[IOp.foot,j,Ae,Aj] at y;obtain⟨rfl,rfl⟩:=y;simp only[step,j] at h;cases a:s.rowW id with
   |none=>rw[a] at h;simp at h
   |some p=>
    obtain⟨k',xs⟩:=p;rw[a] at h;simp only at h;split at h;·rename_i l;simp only[Ae,Aj] at h;obtain⟨rfl,rfl⟩:=h;refine⟨[(d,disown (loaded agg (((enc k' (xs.getD i (aI k'))).drop o).take n)))],[],by simp[IOp.wr,IOp.dst],by simp,rfl,λt b _ z=>?_⟩;have e:=an4 (z id (.inl (by simp)));simp only[step,A t b,j,e,a,if_pos l];rfl
    ·simp at h
  |_=>simp[IOp.foot,j] at y
 |stw d n x v=>
  have A:∀t:St,(∀n∈(IOp.stw d n x v).rd,t.get n=s.get n)->x.ev t=x.ev s:=λt b=>cJ λn l=>b n (by simp[IOp.rd,l])
  have ev:∀t:St,(∀n∈(IOp.stw d n x v).rd,t.get n=s.get n)->v.ev t=v.ev s:=λt b=>cJ λn l=>b n (by simp[IOp.rd,l])
  cases j:x.ev s with
  |wp id k i o=>
   simp only[IOp.foot,j,Ae,Aj] at y;obtain⟨rfl,rfl⟩:=y;simp only[step,j] at h;cases a:s.rowW id with
   |none=>rw[a] at h;simp at h
   |some p=>
    obtain⟨k',xs⟩:=p;rw[a] at h;simp only at h;split at h
    ·rename_i l;cases E:ac7 k' (xs.getD i (aI k')) o (v.ev s).cells with
     |none=>rw[E] at h;simp at h
     |some S=>
      rw[E] at h;simp only[Ae,Aj] at h;obtain⟨rfl,rfl⟩:=h;refine⟨d.toList.map (λd=>(d,V.undef)),[(id,some [.rw k' (xs.set i S)])],?_,by simp,?_,λt b _ z=>?_⟩;·intro p hp;simp only[AH,Dl] at hp;obtain⟨m,B,rfl⟩:=hp;simp[IOp.wr,IOp.dst,B]
      ·rw[cX];rfl
      ·have e:=an4 (z id (.inr (by simp)));simp only[step,A t b,ev t b,j,e,a,if_pos l,E];rw[cX];rfl
    ·simp at h
  |_=>simp[IOp.foot,j] at y
 |stn d x v=>
  have A:∀t:St,(∀n∈(IOp.stn d x v).rd,t.get n=s.get n)->x.ev t=x.ev s:=λt b=>cJ λn l=>b n (by simp[IOp.rd,l])
  have ev:∀t:St,(∀n∈(IOp.stn d x v).rd,t.get n=s.get n)->v.ev t=v.ev s:=λt b=>cJ λn l=>b n (by simp[IOp.rd,l])
  cases j:x.ev s with
  |wp id k i o=>
   simp only[IOp.foot,j,Ae,Aj] at y;obtain⟨rfl,rfl⟩:=y;simp only[step,j] at h;cases F:v.ev s with
   |sw O D Q=>
    rw[F] at h;simp only at h;cases a:s.rowW id with
    |none=>rw[a] at h;simp at h
    |some p=>
     obtain⟨k',xs⟩:=p;rw[a] at h;simp only at h;split at h
     ·rename_i l;simp only[Ae,Aj] at h;obtain⟨rfl,rfl⟩:=h;refine⟨d.toList.map (λd=>(d,V.undef)),[(id,some [.tup [.rw k' xs,.sw O D Q,.wp id k' i o]])],?_,by simp,?_,λt b _ z=>?_⟩;·intro p hp;simp only[AH,Dl] at hp;obtain⟨m,B,rfl⟩:=hp;simp[IOp.wr,IOp.dst,B]
      ·rw[cX];rfl
      ·have e:=an4 (z id (.inr (by simp)));simp only[step,A t b,ev t b,j,F,e,a,if_pos l];rw[cX];rfl
     ·simp at h
   |_=>rw[F] at h;simp at h
  |_=>simp[IOp.foot,j] at y
 |_=>simp[IOp.obable] at G
theorem aE0{o:IOp}{R W:List Nat}{s:St}(h:o.within (R,W) s=true):∃r w,o.foot s=some (r,w)∧(∀i∈r,i∈R∨i∈W)∧∀i∈w,i∈W:=by
 unfold IOp.within at h;split at h
 ·rename_i r w c;simp only[Ac,Aw,Bg,List.any_eq_true] at h;refine⟨r,w,c,?_,?_⟩
  ·intro i b;rcases h.1 i b with⟨j,a,e⟩|⟨j,a,e⟩
   ·left;rw[AE e];exact a
   ·right;rw[AE e];exact a
  ·intro i b;obtain⟨j,a,e⟩:=h.2 i b;rw[AE e];exact a
 ·simp at h
theorem auN(N:co Γ imp){x:GOp}{R W:List Nat}(M:x.o.obable imp=true)(I:x.ob=some (R,W)){s s':St}(h:eC Γ x s=some s'):
  ∃(u:List (Nat×V))(q:List (Nat×aK)),(∀p∈u,p.1∈x.o.wr)∧(∀p∈q,p.1∈W)∧s'=s.putH u q∧
   ∀t:St,(∀n∈x.rd,t.get n=s.get n)->t.hp.length=s.hp.length->(∀i,i∈R∨i∈W->t.hp[i]? =s.hp[i]?)->eC Γ x t=some (t.putH u q):=by
 obtain⟨g,o,ob⟩:=x;obtain rfl:ob=some (R,W):=I
 have go:(match stepO Γ (some (R,W)) o s with|some (c,s')=>chk c (some s')|none=>none)=some s'->∃(u:List (Nat×V))(q:List (Nat×aK)),(∀p∈u,p.1∈o.wr)∧(∀p∈q,p.1∈W)∧s'=s.putH u q∧
   ∀t:St,(∀n∈o.rd,t.get n=s.get n)->t.hp.length=s.hp.length->(∀i,i∈R∨i∈W->t.hp[i]? =s.hp[i]?)->(match stepO Γ (some (R,W)) o t with|some (c,s')=>chk c (some s')|none=>none)=some (t.putH u q):=by
  intro h;split at h
  ·rename_i c E k;cases c with
   |false=>simp[chk] at h
   |true=>
    obtain rfl:E=s':=by simpa [chk] using h
    have J:o.within (R,W) s=true:=by
     cases J:o.within (R,W) s with
     |true=>rfl
     |false=>simp[stepO,J] at k
    obtain⟨r,w,L,P,y⟩:=aE0 J;obtain⟨u,q,z,A,C,F⟩:=aIs N M L (nU k);exact⟨u,q,z,λp hp=>y _ (A p hp),C,λt a B v=>by rw[uZ k a (F t a B (λi D=>D.elim (λD=>v i (P i D)) (λD=>v i (.inr (y i D)))))];rfl⟩
  ·simp at h
 have f:∀s:St,s.setO o.dst (.tup [])=s.putH (o.dst.toList.map λd=>(d,V.tup [])) []:=λs=>by rw[cX];rfl
 have j:∀p∈o.dst.toList.map λd=>(d,V.tup []),p.1∈o.wr:=by intro p hp;simp only[AH] at hp;obtain⟨m,O,rfl⟩:=hp;simp[IOp.wr,O]
 cases g with
 |none=>obtain⟨u,q,z,A,C,F⟩:=go h;exact⟨u,q,z,A,C,λt a=>F t (λn H=>a n (by simp[GOp.rd,H]))⟩
 |some g=>
  obtain⟨g,w⟩:=g;simp only[eC] at h;split at h
  ·rename_i b G;split at h;·rename_i l;obtain⟨u,q,z,A,C,F⟩:=go h;refine⟨u,q,z,A,C,λt a B v=>?_⟩;have e:=a g (by simp[GOp.rd]);simp only[eC,e,G,l];exact F t (λn H=>a n (by simp[GOp.rd,H])) B v
   ·rename_i l;obtain rfl:_=s':=by simpa using h
    refine⟨_,[],j,by simp,f s,λt a B v=>?_⟩;have e:=a g (by simp[GOp.rd]);simp only[eC,e,G,l];rw[f]
  ·rename_i G;obtain rfl:_=s':=by simpa using h
   refine⟨_,[],j,by simp,f s,λt a B v=>?_⟩;have e:=a g (by simp[GOp.rd]);simp only[eC,e,G];rw[f]
  ·simp at h
theorem yB{a b:List Nat}(h:ath a b=true):∀n∈a,n ∉ b:=by intro n c;have:=Aw.1 h n c;simpa using this
theorem aw0{α:Type}(u:List (Nat×α)):∀(e:List α)(n:Nat)(v:α),(∀p∈u,p.1≠n)->u.foldl (λe p=>e.set p.1 p.2) (e.set n v)=(u.foldl (λe p=>e.set p.1 p.2) e).set n v:=by
 induction u with
 |nil=>intro e n v _;rfl
 |cons p u b=>intro e n v h;simp only[BG];rw[D0 _ _ (CU (h p (A4 ..))),b _ _ _ (λq a=>h q (A0 _ a))]
theorem ya{α:Type}(v:List (Nat×α)):∀(u:List (Nat×α))(e:List α),(∀p∈u,∀q∈v,p.1≠q.1)->
  v.foldl (λe p=>e.set p.1 p.2) (u.foldl (λe p=>e.set p.1 p.2) e)=u.foldl (λe p=>e.set p.1 p.2) (v.foldl (λe p=>e.set p.1 p.2) e):=by
 induction v with
 |nil=>intro u e _;rfl
 |cons q v b=>intro u e h;simp only[BG];rw[<-aw0 u e q.1 q.2 (λp hp=>h p hp q (A4 ..)),b u _ (λp hp r a=>h p hp r (A0 _ a))]
theorem aLv{s:St}{id:Nat}{cs:List V}(h:s.obj id=some cs)(i:Nat):(s.setObj id (cs.set i (disown (cs.getD i .undef)))).obj id=some (cs.set i (disown (cs.getD i .undef))):=by
 have a:id<s.hp.length:=by
  rcases AG id s.hp.length with a|a;·exact a
  ·unfold St.obj at h;rw[Aq,A1 a] at h;simp at h
 have m:s.hp.getD id none=some cs∧(∀xs,cs≠[.rb xs])∧(∀k xs,cs≠[.rw k xs])∧(∀k xs,cs≠[.mp k xs])∧(∀xs,cs≠[.tup xs]):=by
  unfold St.obj at h;split at h;·simp at h
  ·simp at h
  ·simp at h
  ·simp at h
  ·rename_i u p q v;refine⟨h,λxs e=>?_,λk xs e=>?_,λk xs e=>?_,λxs e=>?_⟩;·subst e;exact u _ h
   ·subst e;exact p _ _ h
   ·subst e;exact q _ _ h
   ·subst e;exact v _ h
 obtain⟨w,d,j,b,l⟩:=m;have t:(s.setObj id (cs.set i (disown (cs.getD i .undef)))).hp.getD id none=some (cs.set i (disown (cs.getD i .undef))):=by simp[St.setObj,Aq,a]
 unfold St.obj;rw[t];match cs,i with
 | [],i=>rfl
 | [c],0=>
   simp only[Bm,C9];cases c with
   |rb xs=>exact absurd rfl (d xs)
   |rw k xs=>exact absurd rfl (j k xs)
   |mp k xs=>exact absurd rfl (b k xs)
   |tup xs=>exact absurd rfl (l xs)
   |sl k o xs=>cases o<;>rfl
   |_=>rfl
 | [c],i+1=>
   simp only[Df,List.set_nil];cases c with
   |rb xs=>exact absurd rfl (d xs)
   |rw k xs=>exact absurd rfl (j k xs)
   |mp k xs=>exact absurd rfl (b k xs)
   |tup xs=>exact absurd rfl (l xs)
   |_=>rfl
 |c::f::r,0=>simp only[C9];split<;>first|rfl|(rename_i e;simp at e)
 |c::f::r,1=>simp only[Df,C9]
 |c::f::r,i+2=>simp only[Df]
theorem aw1(cs:List V)(i:Nat):(cs.set i (disown (cs.getD i .undef))).map disown=cs.map disown:=by
 rw[List.map_set,azQ];apply CO;intro m;rw[Ax];by_cases h:i=m
 ·subst h;simp only[if_true,BW];split;·rename_i a;simp[Aq,Ah a]
  ·rename_i a;simp[A1 (Dp a)]
 ·simp[h]
theorem alO(agg:Bool)(cs:List V):disown (loaded agg cs)=if agg then .agg (cs.map disown) else (cs.map disown).headD .undef:=by
 cases agg with
 |true=>rfl
 |false=>cases cs<;>rfl
theorem aG3(agg:Bool)(cs:List V)(i o n:Nat):disown (loaded agg (((cs.set i (disown (cs.getD i .undef))).drop o).take n))=disown (loaded agg ((cs.drop o).take n)):=by rw[alO,alO,DW,DX,aw1,DW,DX]
def rdV(p:V)(s:St)(n:Nat)(a:Bool):Option V:=match p with
 | .ea cs=>if n<=cs.length then some (disown (loaded a (cs.take n))) else none
 | .ptr id o=>match s.obj id with
   |some cs=>if o+n<=cs.length then some (disown (loaded a ((cs.drop o).take n))) else none
   |none=>none
 |_=>none
theorem auO(d n:Nat)(a:Bool)(x:ASrc)(s:St):step Γ (.ld d n a false x) s=(rdV (x.ev s) s n a).map λv=>(true,s.set d v):=by
 cases b:x.ev s with
 |ea cs=>simp only[step,rdV,b];split<;>rfl
 |ptr id o=>
  simp only[step,rdV,b];cases s.obj id with
  |none=>rfl
  |some cs=>simp only[Cg,if_false];split<;>rfl
 |_=>simp only[step,rdV,b];rfl
def tkV(p:V)(s:St)(n:Nat)(a:Bool):Option (V×Option (Nat×List V)):=match p with
 | .ea cs=>if n<=cs.length then some (disown (loaded a (cs.take n)),none) else none
 | .ptr id o=>match s.obj id with
   |some cs=>if o+n<=cs.length then (if noBn (cs.getD o .undef) then some (loaded a ((cs.drop o).take n),some (id,cs.set o (disown (cs.getD o .undef)))) else none) else none
   |none=>none
 |_=>none
def St.turn(s:St):Option (Nat×List V)->St
 |none=>s
 |some (id,cs)=>s.setObj id cs
theorem auP(d n:Nat)(a:Bool)(x:ASrc)(s:St):step Γ (.ld d n a true x) s=(tkV (x.ev s) s n a).map λq=>(true,(s.turn q.2).set d q.1):=by
 cases b:x.ev s with
 |ea cs=>simp only[step,tkV,b];split<;>rfl
 |ptr id o=>
  simp only[step,tkV,b];cases s.obj id with
  |none=>rfl
  |some cs=>
   simp only[if_true];split;·split<;>rfl
   ·rfl
 |_=>simp only[step,tkV,b];rfl
theorem aIt{s:St}{id a:Nat}{cs:List V}(h:id≠a):(s.setObj id cs).obj a=s.obj a:=by unfold St.obj St.setObj;simp[Aq,Ax,h]
theorem aB7{p i:V}{s:St}{n j:Nat}{a k:Bool}{q:V×Option (Nat×List V)}(h:tkV p s n a=some q)(d:Nat)(v:V):rdV i ((s.turn q.2).set d v) j k=rdV i s j k:=by
 unfold tkV at h;split at h
 ·split at h;·cases h;rfl
  ·cases h
 ·rename_i id o;split at h
  ·rename_i cs c;split at h
   ·split at h
    ·cases h;have e:∀b,((s.turn (some (id,cs.set o (disown (cs.getD o .undef))))).set d v).obj b=(s.setObj id (cs.set o (disown (cs.getD o .undef)))).obj b:=λ_=>rfl
     cases i with
     |ptr b l=>
      simp only[rdV,e];by_cases f:id=b;·subst f;rw[aLv c,c];simp only[AD,aG3]
      ·rw[aIt f]
     |_=>rfl
    ·cases h
   ·cases h
  ·cases h
 ·cases h
theorem aGo(p:V)(s:St)(n:Nat)(a:Bool)(d:Nat)(v:V):tkV p (s.set d v) n a=tkV p s n a:=rfl
theorem aB8(s:St)(q:Option (Nat×List V))(d:Nat)(v:V):(s.set d v).turn q=(s.turn q).set d v:=by cases q<;>rfl
theorem aB9(s:St){d a:Nat}(v b:V)(h:d≠a):(s.set d v).set a b=(s.set a b).set d v:=by simp only[St.set];rw[D0 _ _ h]
theorem aCa(s:St)(q:Option (Nat×List V))(n:Nat):(s.turn q).get n=s.get n:=by cases q<;>rfl
theorem aG4{o:IOp}{ob:Option (List Nat×List Nat)}{s s':St}:eC Γ ⟨none,o,ob⟩ s=some s'↔stepO Γ ob o s=some (true,s'):=by
 simp only[eC];cases stepO Γ ob o s with
 |none=>simp
 |some p=>obtain⟨c,t⟩:=p;cases c<;>simp[chk]
theorem afn(s:St){d n:Nat}(v:V)(h:d≠n):(s.set d v).get n=s.get n:=by simp[St.get,St.set,Af,Ax,h]
theorem aLd{D A:Option (List Nat×List Nat)}{d n f y:Nat}{a z:Bool}{x h:ASrc}(G:d≠f)(v:∀m∈x.slots,m≠f)(r:∀m∈h.slots,m≠d){s B C:St}:
  (eC Γ ⟨none,.ld d n a true x,A⟩ s=some B->eC Γ ⟨none,.ld f y z false h,D⟩ B=some C->∃c,eC Γ ⟨none,.ld f y z false h,D⟩ s=some c∧eC Γ ⟨none,.ld d n a true x,A⟩ c=some C)∧
  (eC Γ ⟨none,.ld f y z false h,D⟩ s=some B->eC Γ ⟨none,.ld d n a true x,A⟩ B=some C->∃c,eC Γ ⟨none,.ld d n a true x,A⟩ s=some c∧eC Γ ⟨none,.ld f y z false h,D⟩ c=some C):=by
 simp only[aG4];have F:(IOp.ld d n a true x).rd=x.slots:=rfl;have H:(IOp.ld f y z false h).rd=h.slots:=rfl;constructor
 ·intro j k;have u:=nU j;have w:=nU k;rw[auP,As] at u;obtain⟨q,l,e⟩:=u;simp only[Aj,true_and] at e;subst e;have p:∀m∈h.slots,((s.turn q.2).set d q.1).get m=s.get m:=λm b=>by rw[afn _ _ (CU (r m b)),aCa]
  rw[auO,cJ p,aB7 l,As] at w;obtain⟨E,i,e⟩:=w;simp only[Aj,true_and] at e;subst e;refine⟨s.set f E,uZ k (by rw[H];exactλm b=>(p m b).symm) (by rw[auO,i];rfl),?_⟩;have t:∀m∈x.slots,(s.set f E).get m=s.get m:=λm b=>afn _ _ (CU (v m b))
  refine uZ j (by rw[F];exact t) ?_;rw[auP,cJ t,aGo,l];simp only[BA,aB8];rw[aB9 _ _ _ G]
 ·intro j k;have u:=nU j;have w:=nU k;rw[auO,As] at u;obtain⟨E,i,e⟩:=u;simp only[Aj,true_and] at e;subst e;have t:∀m∈x.slots,(s.set f E).get m=s.get m:=λm b=>afn _ _ (CU (v m b))
  rw[auP,cJ t,aGo,As] at w;obtain⟨q,l,e⟩:=w;simp only[Aj,true_and] at e;subst e;have p:∀m∈h.slots,((s.turn q.2).set d q.1).get m=s.get m:=λm b=>by rw[afn _ _ (CU (r m b)),aCa]
  refine⟨(s.turn q.2).set d q.1,uZ k (by rw[F];exactλm b=>(t m b).symm) (by rw[auP,l];rfl),?_⟩;refine uZ j (by rw[H];exact p) ?_;rw[auO,cJ p,aB7 l,i];simp only[BA,aB8];rw[aB9 _ _ _ G]
theorem aOn(S:co Γ imp){x y:GOp}(b:auM imp y x=true){s s1 s2:St}(P:eC Γ y s=some s1)(Q:eC Γ x s1=some s2):
  ∃N,eC Γ x s=some N∧eC Γ y N=some s2:=by
 simp only[auM,Ac,Bg,Nat.ble_eq] at b;obtain⟨D,C,E,b⟩:=b;have D:=yB D;have C:=yB C;have E:=yB E;rcases b with⟨d,B⟩|z|Z
 case inr.inr=>
  obtain⟨R,ox,bx⟩:=x;obtain⟨W,oy,bY⟩:=y;unfold aIr at Z;split at Z
  ·rename_i e n a xa f n2 A xb k u M J;simp only at k u M J;subst k u M J;have X:∀m∈xb.slots,m≠e:=λm w h=>D e (by simp[IOp.wr,IOp.dst]) (by subst h;simpa [GOp.rd,IOp.rd] using w)
   have m2:∀m∈xa.slots,m≠f:=λm w h=>C f (by simp[IOp.wr,IOp.dst]) (by subst h;simpa [GOp.rd,IOp.rd] using w)
   have m3:e≠f:=λh=>E e (by simp[IOp.wr,IOp.dst]) (by subst h;simp[IOp.wr,IOp.dst])
   exact(aLd m3 m2 X).1 P Q
  ·rename_i f n2 A xb e n a xa k u M J;simp only at k u M J;subst k u M J;have X:∀m∈xb.slots,m≠e:=λm w h=>C e (by simp[IOp.wr,IOp.dst]) (by subst h;simpa [GOp.rd,IOp.rd] using w)
   have m2:∀m∈xa.slots,m≠f:=λm w h=>D f (by simp[IOp.wr,IOp.dst]) (by subst h;simpa [GOp.rd,IOp.rd] using w)
   have m3:e≠f:=λh=>E f (by simp[IOp.wr,IOp.dst]) (by subst h;simp[IOp.wr,IOp.dst])
   exact(aLd m3 m2 X).2 P Q
  ·cases Z
 case inr.inl=>
  simp only[apart,Ac] at z;obtain⟨⟨oy,ox⟩,z⟩:=z;split at z
  ·rename_i Ry Wy Rx Wx af Y;simp only[Ac] at z;obtain⟨a1,A,a3⟩:=z;have a1:=yB a1;have A:=yB A;have a3:=yB a3;obtain⟨r,L,O,F,rfl,ly⟩:=auN S oy af P;obtain⟨j,v,I,G,rfl,lx⟩:=auN S ox Y Q;have W:∀t:St,∀n∈x.rd,(t.putH r L).get n=t.get n:=λt n c=>aqV (s:=t) (l:=r) (λp hp e=>D p.1 (O p hp) (e▸c))
   have R:∀t:St,∀n∈y.rd,(t.putH j v).get n=t.get n:=λt n c=>aqV (s:=t) (l:=j) (λp hp e=>C p.1 (I p hp) (e▸c))
   have hx:=lx s (λn c=>(W s n c).symm) (asl L s.hp).symm (λi b=>(aB5 (λp hp e=>by
    subst e;rcases b with b|b;·exact a1 _ (F p hp) b
    ·exact A _ (F p hp) b)).symm)
   have hy:=ly (s.putH j v) (λn c=>R s n c) (asl v s.hp) (λi b=>aB5 (λp hp e=>by
    subst e;rcases b with b|b;·exact a3 _ (G p hp) b
    ·exact A _ b (G p hp)))
   refine⟨_,hx,hy.trans ?_⟩
   congr 1
   have k:=ya r j s.env (λp hp q H e=>E q.1 (O q H) (e▸I p hp));have u:=ya L v s.hp (λp hp q H e=>A q.1 (F q H) (e▸G p hp));simp only[St.putH,St.upd,St.mk.injEq];exact⟨k,u⟩
  ·simp at z
 have d:y.o.cls imp<=1∨x.o.cls imp=0:=d.imp id AE;have B:x.o.cls imp<=1∨y.o.cls imp=0:=B.imp id AE;obtain⟨r,L,O,F,rfl,ly⟩:=an3 S P;obtain⟨j,v,I,G,rfl,lx⟩:=an3 S Q;have W:∀t:St,∀n∈x.rd,(t.put r L).get n=t.get n:=λt n c=>aqV (s:=t) (l:=r) (λp hp e=>D p.1 (O p hp) (e▸c))
 have R:∀t:St,∀n∈y.rd,(t.put j v).get n=t.get n:=λt n c=>aqV (s:=t) (l:=j) (λp hp e=>C p.1 (I p hp) (e▸c))
 have hx:=lx s (λn c=>(W s n c).symm) (λhc=>by
  rcases d with d|d;·exact⟨by rw[F d];rfl,(aiT s r).symm⟩
  ·omega)
 have hy:=ly (s.put j v) (λn c=>R s n c) (λhc=>by
  rcases B with B|B;·exact⟨by rw[G B];rfl,aiT s j⟩
  ·omega)
 refine⟨_,hx,hy.trans ?_⟩
 congr 1
 have k:=ya r j s.env (λp hp q H e=>E q.1 (O q H) (e▸I p hp));simp only[St.put,St.upd,St.mk.injEq];refine⟨k,?_⟩;rcases d with d|d;·rw[F d];rfl
 ·rw[G (by omega)];rfl
theorem aLe(b:co Γ imp){R:Type}{K:St->Option R}{r:R}{x:GOp}{B:List GOp}:∀(A:List GOp)(s:St),(∀y∈A,auM imp y x=true)->
  runOps Γ (A++x::B) K s=some r->∃s',eC Γ x s=some s'∧runOps Γ (A++B) K s'=some r
 | [],s,_,h=>by rw[B7,afP] at h;exact B9.1 h
 |y::A,s,c,h=>by rw[CB,afP] at h;obtain⟨j,e,i⟩:=B9.1 h;obtain⟨p,l,m⟩:=aLe b A j (λy d=>c y (A0 _ d)) i;obtain⟨a,k,f⟩:=aOn b (c y (A4 ..)) e l;refine⟨a,k,?_⟩;rw[CB,afP,f];exact m
end
def fa(G:Nat->List V->Option (Bool×V)):aG:=λf vs hp=>match G f vs with|some x=>some (x.1,x.2,hp)|none=>none
theorem cR(G:Nat->List V->Option (Bool×V))(imp:List Nat):co (fa G) imp:=by
 refine⟨?_,?_⟩;·intro f avs hp _;unfold fa;cases G f avs<;>rfl
 ·intro f vs hp c v hp' _ h;unfold fa at h ⊢;cases a:G f vs with
  |none=>rw[a] at h;simp at h
  |some x=>rw[a] at h;simp only[Ae,Aj] at h;obtain⟨rfl,rfl,rfl⟩:=h;exact⟨[],by simp,rfl,λb _ _=>rfl⟩
theorem du{G:Nat->List V->Option (Bool×V)}{f:Nat}{vs:List V}{hp hp':List aK}{c:Bool}{v:V}(h:fa G f vs hp=some (c,v,hp')):G f vs=some (c,v)∧hp'=hp:=by
 unfold fa at h;cases a:G f vs with
 |none=>rw[a] at h;simp at h
 |some x=>rw[a] at h;simp only[Ae,Aj] at h;obtain⟨rfl,rfl,rfl⟩:=h;exact⟨rfl,rfl⟩
def aGp(P:Program)(o:IOp)(m:Oper):Bool:=
 match o with
 |_=>false
section
variable{w w':World}{g g':Gh}{s s':St}{a:Act}{P:Program}{Γ:aG}{m:Oper}{next:Act->World->Prop}{Q:Exit->Act->World->Prop}
end
section
open Go.MapKept
def pr(P:Program)(t:TypeId)(k:MK):Bool:=match k,P.underlying t with
 | .pb,some (.array 2 e)=>(fm P e==some 1)&&anX P e .i64
 | .bs,some (.int .u8)=>true
 | .bn,some (.int .u8)=>true
 | .ib,some (.int .i64)=>true
 | .sn,some .string=>true
 |_,_=>false
def aLf(P:Program)(e:TypeId)(k:MK):Bool:=match P.info? e with|some i=>(match i.zero with|some z=>uf (k.val k.zero) z|none=>false)|none=>false
def akw(P:Program)(t:TypeId)(k:MK):Bool:=match P.underlying t with|some (.map b e)=>pr P b k&&aLf P e k|_=>false
def ada(P:Program)(o:IOp)(m:Oper):Bool:=
 match o with
 | .mkm d k=>(m.dst==some d)&&(match m.op with| .makeMap t none=>akw P t k|_=>false)
 | .mget d k ok x y=>(m.dst==some d)&&(match m.op with| .lookup t b c f=>akw P t k&&((ok==f)&&(bB x b&&bB y c))|_=>false)
 | .mput d k x y z=>(m.dst==d)&&(match m.op with
   | .mapUpdate t b c e=>akw P t k&&(bB x b&&(bB y c&&bB z e))
   | .insert t b c e=>akw P t k&&(bB x b&&(bB y c&&bB z e))
   |_=>false)
 |_=>false
section
variable{w w':World}{g g':Gh}{s s':St}{a:Act}{P:Program}{Γ:aG}{m:Oper}{next:Act->World->Prop}{Q:Exit->Act->World->Prop}
theorem asm{t:TypeId}{k:MK}(h:akw P t k=true):∃c e,P.underlying t=some (.map c e)∧pr P c k=true∧(∀w:World,(zeroValue e).run P w=.ok (k.valV k.zero) w):=by
 unfold akw at h;split at h
 ·rename_i c e j;simp only[Ac] at h;refine⟨c,e,j,h.1,?_⟩;have b:=h.2;unfold aLf at b;split at b
  ·rename_i i f;split at b
   ·rename_i z d;intro w;have p:z=k.valV k.zero:=by
     cases k<;>cases z<;>simp[uf,MK.val,MK.zero] at b<;>simp[MK.valV,MK.zero];·exact b
     ·rename_i s;obtain⟨⟨l⟩⟩:=s;simp at b;rw[b.1]
     ·exact⟨b.1.symm,b.2.1.symm⟩
     ·exact b
     ·exact⟨b.1.symm,b.2.1.symm⟩
    simp[zeroValue,typeInfo,f,d,p]
   ·simp at b
  ·simp at b
 ·simp at h
theorem aJ1{I:Nat->Nat->Prop}{ρ:Nat->Nat}{N:Nat}(k:MK)(x:k.T)(h:k.okT x):VRel I ρ N w (k.val x) (k.valV x):=by
 cases k;·exact .bool _
 ·exact .str _ _ rfl (by have h:Aa x<=cj:=h;simpa [ByteArray.size] using h)
 ·exact .int _ _ h
 ·exact .bool _
 ·exact .int _ _ h
theorem aJ2(k:MK):k.okT k.zero:=by cases k<;>simp[MK.okT,MK.zero]<;>decide
theorem aG5{v:V}{x:Int×Int}(h:aGR v=some x):v=.agg [.int .i64 x.1,.int .i64 x.2]:=by unfold aGR at h;split at h<;>first|contradiction|(cases h;rfl)
theorem aCb{v:V}{x:Int}(h:u8V v=some x):v=.int .u8 x:=by unfold u8V at h;split at h<;>first|contradiction|(cases h;rfl)
theorem an5{v:V}{x:Int}(h:aBS v=some x):v=.int .i64 x:=by unfold aBS at h;split at h<;>first|contradiction|(cases h;rfl)
theorem azf{v:V}{x:List UInt8}(h:aGS v=some x):v=.str x:=by unfold aGS at h;split at h<;>first|contradiction|(cases h;rfl)
theorem auQ{v:V}{x:Bool}(h:aBO v=some x):v=.bool x:=by unfold aBO at h;split at h<;>first|contradiction|(cases h;rfl)
theorem aGq{I:Nat->Nat->Prop}{ρ:Nat->Nat}{N:Nat}{l:List UInt8}{cv:Value}(h:VRel I ρ N w (.str l) cv):cv=.string ⟨l.toArray⟩∧l.length<=cj:=by
 cases h with
 |str _ s b c=>subst b;exact⟨rfl,by rw[BX];exact c⟩
theorem ab4{I:Nat->Nat->Prop}{ρ:Nat->Nat}{N:Nat}{k:IntKind}{n:Int}{cv:Value}(h:VRel I ρ N w (.int k n) cv):cv=.int k n∧k.min<=n∧n<=k.max:=by cases h;exact⟨rfl,by assumption⟩
theorem aCc{I:Nat->Nat->Prop}{ρ:Nat->Nat}{N:Nat}{b:Bool}{cv:Value}(h:VRel I ρ N w (.bool b) cv):cv=.bool b:=by cases h;rfl
theorem aJ3{I:Nat->Nat->Prop}{ρ:Nat->Nat}{N:Nat}{k:MK}{v:V}{x:k.T}{cv:Value}(h:k.dval v=some x)(b:VRel I ρ N w v cv):cv=k.valV x∧k.okT x:=by
 cases k with
 |pb=>rw[auQ h] at b;exact⟨aCc b,trivial⟩
 |ib=>rw[auQ h] at b;exact⟨aCc b,trivial⟩
 |bs=>rw[azf h] at b;exact aGq b
 |bn=>rw[an5 h] at b;exact ab4 b
 |sn=>rw[an5 h] at b;exact ab4 b
theorem atj{I:Nat->Nat->Prop}{ρ:Nat->Nat}{N:Nat}{k:MK}{v:V}{x:k.K}{cv:Value}(h:k.dkey v=some x)(b:VRel I ρ N w v cv):cv=k.keyV x:=by
 cases k with
 |pb=>
  rw[aG5 h] at b;cases b with
  |agg _ vs e _ _ c=>
   obtain⟨l⟩:=vs;match l,e,c with
   | [u,d],_,c=>rw[(ab4 (c 0 _ u rfl rfl)).1,(ab4 (c 1 _ d rfl rfl)).1];rfl
 |bs=>rw[aCb h] at b;exact(ab4 b).1
 |bn=>rw[aCb h] at b;exact(ab4 b).1
 |ib=>rw[an5 h] at b;exact(ab4 b).1
 |sn=>rw[azf h] at b;exact(aGq b).1
theorem aw2{c:TypeId}{k:MK}(h:pr P c k=true)(f:k≠.pb)(x y:k.K):∃d,P.underlying c=some d∧DY d (k.keyV x) (k.keyV y)=some (decide (x=y)):=by
 have b:∀(k:IntKind)(x y:Int)(_:Decidable (x=y)),DY (.int k) (.int k x) (.int k y)=some (decide (x=y)):=λk x y _=>by simp only[DY,if_true,Ae];rw[BH,decide_eq_true_iff,beq_iff_eq]
 cases k with
 |pb=>exact absurd rfl f
 |sn=>
  unfold pr at h;split at h<;>first|contradiction|skip
  rename_i e;refine⟨_,e,?_⟩;simp only[MK.keyV,DY,Ae];rw[BH,decide_eq_true_iff,bytes_beq];constructor;·intro h;simpa using h
  ·rintro rfl;rfl
 |bs=>
     unfold pr at h;split at h<;>first|contradiction|skip
     rename_i e;exact⟨_,e,b _ _ _ _⟩
 |bn=>
     unfold pr at h;split at h<;>first|contradiction|skip
     rename_i e;exact⟨_,e,b _ _ _ _⟩
 |ib=>
     unfold pr at h;split at h<;>first|contradiction|skip
     rename_i e;exact⟨_,e,b _ _ _ _⟩
theorem oS{e:Nat}(b:nW P e=some false){xs:Array Value}{j:Nat}{u:Value}(c:xs[j]? =some u)(w:World):(part e xs j).run P w=.ok u w:=by simp[part,zr b,c]
theorem aLg{d:TypeId}(h:pr P d .pb=true):∃e,P.underlying d=some (.array 2 e)∧P.underlying e=some (.int .i64)∧fm P e=some 1∧nW P e=some false:=by
 unfold pr at h;split at h<;>first|contradiction|skip
 rename_i e _ j;simp only[Ac,beq_iff_eq] at h;obtain⟨i,b⟩:=h;have f:P.underlying e=some (.int .i64):=by
  unfold anX at b;split at b;·rename_i k' c;rw[c,of_decide_eq_true b]
  ·simp at b
 exact⟨e,j,f,i,by simp[nW,f]⟩
theorem aG6{e:TypeId}(u:P.underlying e=some (.int .i64))(f:nW P e=some false)(q:Nat)(a b c d:Int){xs ys:Array Value}(t:xs[0]? =some (.int .i64 a))(j:xs[1]? =some (.int .i64 b))(v:ys[0]? =some (.int .i64 c))(k:ys[1]? =some (.int .i64 d))(w:World):(Op.eqItems (q+1) e 1 xs ys [0,1]).run P w=.ok (decide ((a,b)=(c,d))) w:=by
 have h:∀(p i:Int)(w:World),(Op.equalIn (q+1) e (.int .i64 p) (.int .i64 i)).run P w=.ok (p==i) w:=by intro p i w;simp[Op.equalIn,run_underlying u]
 simp only[Op.eqItems,Dd,Cv,oS f t,oS f j,oS f v,oS f k,Cp,h];by_cases r:a=c
 ·subst r;by_cases l:b=d;·subst l;simp[oS f j,oS f k,h]
  ·simp[l,oS f j,oS f k,h]
 ·simp[r]
theorem aG7{j:TypeId}(h:pr P j .pb=true)(x y:MK.K .pb)(w:World):(Op.equal j (MK.keyV .pb x) (MK.keyV .pb y)).run P w=.ok (decide (x=y)) w:=by
 obtain⟨e,r,t,p,l⟩:=aLg h;obtain⟨inf,f,q⟩:∃i,P.info? e=some i∧i.size=1:=by unfold fm at p;obtain⟨i,f,h⟩:=As.1 p;exact⟨i,f,h⟩
 have k:P.cellsOf e=1:=by simp[Program.cellsOf,f,q]
 obtain⟨a,b⟩:=x;obtain⟨c,d⟩:=y;show (Op.equalIn (9999+1) j (.agg #[.int .i64 a,.int .i64 b]) (.agg #[.int .i64 c,.int .i64 d])).run P w=_;rw[run_equalIn_array w 9999 _ _ r f,k];exact aG6 t l 9998 a b c d rfl rfl rfl rfl w
def ww{k:MK}(es:List (k.K×k.T))(x:k.K)(i:Nat):Option (Nat×Value):=match fB es x with
 |some v=>some (i+qH es x,k.valV v)
 |none=>none
theorem asn{k:MK}(e:k.K×k.T)(es:List (k.K×k.T))(x:k.K)(i:Nat):ww (e::es) x i=if e.1=x then some (i,k.valV e.2) else ww es x (i+1):=by
 unfold ww;by_cases h:e.1=x;·simp[fB,qH,h]
 ·simp only[fB,qH,h,if_false];split
  ·congr 2;omega
  ·rfl
theorem aim{C:TypeId}{k:MK}(h:pr P C k=true){es:List (k.K×k.T)}{ents:Array MapEntry}{clock:Nat}(v:xh es ents clock)(x:k.K):(Instr.findKey C (k.keyV x) ents.toList).run P w=.ok (ww es x 0) w:=by
 have u:∀(i:Nat) e c,es[i]? =some e->ents.toList[i]? =some c->c.key=k.keyV e.1∧c.val=k.valV e.2:=λi e c q r=>by obtain⟨-,a,b, -⟩:=v.2.2 i e c q (by simpa using r);exact⟨a,b⟩
 have f:es.length=ents.toList.length:=by simpa using v.1
 generalize ents.toList=l at f u;by_cases B:k=.pb
 ·subst B;rw[run_findKey_eq w ?_ (MK.keyV .pb x) l]
  ·clear v;generalize 0=i;induction es generalizing l i with
   |nil=>have:l=[]:=Bu f.symm;subst this;simp[Instr.findAsking,ww,fB]
   |cons e es y=>
    cases l with
    |nil=>simp at f
    |cons c l=>
     obtain⟨z,A⟩:=u 0 e c rfl rfl;rw[Instr.findAsking,z,A,asn];simp only[Dd,aG7 h,Cp];by_cases p:e.1=x;·simp[p]
     ·rw[if_neg p,if_neg (by simpa using λe=>p e.symm)];exact y l (by simpa using f) (λj e c q r=>u (j+1) e c (by simpa using q) (by simpa using r)) (i+1)
  ·unfold pr at h;split at h<;>first|contradiction|skip
   rename_i e _ E;rw[E]
 ·obtain⟨d,D, -⟩:=aw2 h B x x;refine Go.MapKept.run_findKey D ?_;clear v;generalize 0=i;induction es generalizing l i with
  |nil=>have:l=[]:=Bu f.symm;subst this;simp[Instr.findNow,ww,fB]
  |cons e es y=>
   cases l with
   |nil=>simp at f
   |cons c l=>
    obtain⟨z,A⟩:=u 0 e c rfl rfl;obtain⟨G,t,F⟩:=aw2 h B x e.1;rw[D] at t;obtain rfl:=AF t;rw[Instr.findNow,z,A,asn,F];by_cases p:e.1=x;·simp[p]
    ·rw[if_neg p,decide_eq_false (λe=>p e.symm)];exact y l (by simpa using f) (λj e c q r=>u (j+1) e c (by simpa using q) (by simpa using r)) (i+1)
theorem aE1{e:Nat}(l:P.underlying e=some (.int .i64))(d:nW P e=some false)(h:fm P e=some 1)(f:Bool)(q:Nat)(a b:Int){xs:Array Value}(j:xs[0]? =some (.int .i64 a))(k:xs[1]? =some (.int .i64 b)):
  (forIn [0,1] PUnit.unit λi r=>do Cf f (q+1) e (<-part e xs (i*(<-sizeOf e)));pure (ForInStep.yield PUnit.unit):Sem PUnit).run P w=.ok PUnit.unit w:=by
 have c:∀(p:Int)(w:World),(Cf f (q+1) e (.int .i64 p)).run P w=.ok () w:=by intro p w;simp[Cf,run_underlying l]
 simp only[List.forIn_cons,List.forIn_nil,Dd,gv h,Cp,Cv,oS d j,oS d k,c,Sem.run_pure]
theorem aG8{d:TypeId}(h:pr P d .pb=true)(a b:Int)(f:Bool)(q:Nat):(Cf f (q+2) d (.agg #[.int .i64 a,.int .i64 b])).run P w=.ok () w:=by obtain⟨e,j,k,i,c⟩:=aLg h;have:=aE1 (w:=w) k c i f q a b (xs:= #[.int .i64 a,.int .i64 b]) rfl rfl;rw[Cf];simp only[Dd,run_underlying j,Cp];simp only[Std.Legacy.Range.forIn_eq_forIn_range',Std.Legacy.Range.size,Nat.sub_zero,Nat.add_one_sub_one,Nat.div_one];have r:C5 0 2 1=[0,1]:=rfl;rw[r];simp at this ⊢;rw[this];rfl
theorem aIu{b:TypeId}{k:MK}(h:pr P b k=true)(c:k≠.pb)(x:k.K)(f:Bool)(q:Nat):(Cf f (q+1) b (k.keyV x)).run P w=.ok () w:=by
 obtain⟨d,i,j⟩:=aw2 h c x x;cases k<;>first|exact absurd rfl c|skip
 all_goals
  unfold pr at h;split at h<;>first|contradiction|skip
  rename_i e;simp[Cf,run_underlying e,MK.keyV]
theorem afQ{c:TypeId}{k:MK}(h:pr P c k=true)(x:k.K)(b:Bool):(Cf b 10000 c (k.keyV x)).run P w=.ok () w:=by
 by_cases d:k=.pb;·subst d;exact aG8 h x.1 x.2 b 9998
 ·exact aIu h d x b 9999
theorem aJ4(k:MK)(x:k.K)(q:Nat):Dh (q+2) (k.keyV x) (k.keyV x)=true:=by
 cases k with
 |pb=>simp[MK.keyV,Dh]
 |sn=>exact(bytes_beq _ _).2 rfl
 |_=>simp[MK.keyV,Dh]
theorem aIv(k:MK)(x:k.K):Dh 10000 (k.keyV x) (k.keyV x)=true:=aJ4 k x 9998
theorem aIw{k:MK}{es:List (k.K×k.T)}{x:k.K}{v:k.T}(h:fB es x=some v):es[qH es x]? =some (x,v):=by
 induction es with
 |nil=>simp[fB] at h
 |cons e es c=>
  simp only[fB] at h;by_cases b:e.1=x;·rw[if_pos b] at h;obtain rfl:=AF h;subst b;simp[qH]
  ·rw[if_neg b] at h;simp only[qH,if_neg b];simpa using c h
theorem aJ5{k:MK}{es:List (k.K×k.T)}{x:k.K}{v u:k.T}(h:fB es x=some v):nB es x u=es.set (qH es x) (x,u):=by
 induction es with
 |nil=>simp[fB] at h
 |cons e es c=>
  simp only[fB] at h;by_cases b:e.1=x;·simp[nB,qH,b]
  ·rw[if_neg b] at h;simp[nB,qH,b,c h]
theorem aIx{k:MK}{es:List (k.K×k.T)}{x:k.K}{u:k.T}(h:fB es x=none):nB es x u=es++[(x,u)]∧qH es x=es.length:=by
 induction es with
 |nil=>simp[nB,qH]
 |cons e es f=>
  simp only[fB] at h;by_cases b:e.1=x;·simp[b] at h
  ·rw[if_neg b] at h;obtain⟨c,d⟩:=f h;simp[nB,qH,b,c,d]
theorem xh.set{k:MK}{es:List (k.K×k.T)}{ents:Array MapEntry}{clock:Nat}(h:xh es ents clock){i:Nat}{x:k.K}{v:k.T}(q:k.okT v):
  xh (es.set i (x,v)) (ents.modify i λe=>{e with key:=k.keyV x,val:=k.valV v}) clock:=by
 refine⟨by simp[h.1],by simp[h.2.1],?_⟩;intro j e l b c;rw[Ax] at b;rw[Ci] at c;by_cases f:i=j
 ·subst f;rw[if_pos rfl] at b c;split at b;·cases b;rw[As] at c;obtain⟨p,r,rfl⟩:=c;rename_i d;exact⟨(h.2.2 _ _ _ (Ah d) r).1,rfl,rfl,q⟩
  ·simp at b
 ·rw[if_neg f] at b c;exact h.2.2 j e l b c
theorem xh.push{k:MK}{es:List (k.K×k.T)}{ents:Array MapEntry}{clock:Nat}(h:xh es ents clock){x:k.K}{v:k.T}(l:k.okT v):
  xh (es++[(x,v)]) (ents.push {key:=k.keyV x,val:=k.valV v,born:=clock}) (clock+1):=by
 refine⟨by simp[h.1],by simp[h.2.1],?_⟩;intro j e i b d;rcases AG j es.length with f|f;·rw[Au f] at b;rw[DH,if_neg (by rw[<-h.1];omega)] at d;exact h.2.2 j e i b d
 ·rw[At f] at b;have p:j-es.length=0:=by
   have:=(Ag.1 b).1;simp at this;omega
  rw[p] at b;simp at b;subst b;have c:j=ents.size:=by rw[<-h.1];omega
  rw[DH,if_pos c] at d;obtain rfl:=AF d;exact⟨by rw[h.2.1];exact c.symm,rfl,rfl,l⟩
theorem aCd{id:Nat}{k:MK}{es:List (k.K×k.T)}(c:s.mapO id=some ⟨k,es⟩):s.hp[id]? =some (some [.mp k es]):=by
 unfold St.mapO at c;split at c
 ·rename_i k' e b;cases c;rw[Aq] at b;cases d:s.hp[id]? with
  |none=>rw[d] at b;simp at b
  |some x=>rw[d] at b;simp at b;rw[b]
 ·simp at c
theorem SR.putMap(h:SR g s w a){id:Nat}{k:MK}{es r:List (k.K×k.T)}(ho:s.mapO id=some ⟨k,es⟩){ents i:Array MapEntry}{clock d:Nat}(Z:w.heap[g.ρ id]? =some (.map ents clock))(hm:xh r i d):
  SR g (s.setObj id [.mp k r]) {w with heap:=w.heap.setIfInBounds (g.ρ id) (.map i d)} a∧FR g s.hp w g (s.hp.set id (some [.mp k r])) {w with heap:=w.heap.setIfInBounds (g.ρ id) (.map i d)}:=by
 have t:=aCd ho;obtain⟨q1,J⟩:=Go.MapKept.heap_set (o':=.map i d) Z;let w':World:={w with heap:=w.heap.setIfInBounds (g.ρ id) (.map i d)}
 have R:w'.heap.size=w.heap.size:=by simp[w']
 have M:∀b j,g.I b j->b≠g.ρ id:=by rintro b j C rfl;exact h.hr.notI id _ t j C
 have y:∀b j,g.I b j->w'.cell? ⟨b,j,none⟩=w.cell? ⟨b,j,none⟩:=by intro b j C;simp only[w',By,J b (M b j C)]
 have u:Up g.I g.ρ s.hp.length w g.I g.ρ s.hp.length w':=⟨λ_ _ h=>h,y,λ_ _=>rfl,Ap _⟩
 have A:∀D v cv,aP g w D v cv->aP g w' D v cv:=by intro D v cv O;refine dg O rfl (λb j C=>⟨u.mono b j C,u.cell b j C⟩) ?_;intro b B;refine⟨B,J b ?_,λj hj=>hj⟩;rintro rfl;rw[h.hr.notO id _ t] at B;simp at B
 have Y:id<s.hp.length:=(Ag.1 t).1;have split:∀(f:Nat) o',(s.hp.set id (some [V.mp k r]))[f]? =some (some o')->(f=id∧o'=[V.mp k r])∨(f≠id∧s.hp[f]? =some (some o')):=by
  intro f o' l;rw[Ax] at l;split at l;·rename_i e;simp[Y] at l;exact .inl ⟨e.symm,l.symm⟩
  ·rename_i e;exact .inr ⟨λe'=>e e'.symm,l⟩
 have z:∀(f:Nat) o',(s.hp.set id (some [V.mp k r]))[f]? =some (some o')->∃E,s.hp[f]? =some (some E):=by
  intro f o' l;rcases split f o' l with⟨rfl,_⟩|⟨_,l⟩
  ·exact⟨_,t⟩
  ·exact⟨_,l⟩
 refine⟨⟨⟨?_,?_,?_,?_,?_,?_⟩,⟨h.er.size,?_,?_⟩⟩,⟨rfl,rfl,rfl,rfl,by rw[R];exact Ap _,?_,?_,λ_ _ _ _ _ C=>C,λ_ _ _ W=>W,?_⟩⟩
 ·intro f o' l;simp only[St.setObj,AD];rcases split f o' l with⟨rfl,rfl⟩|⟨F,l⟩
  ·exact⟨by simp[kP],λq ab H=>by cases H;exact⟨i,d,q1,hm⟩⟩
  ·refine(h.hr.obj f o' l).keep ?_ λS e2 ae x q=>⟨q.len,q.plain,q.typedUp rfl u.rho u.num rfl,q.cold,q.one,λj c cv H p=>(q.rel j c cv H p).up u,λj c cv H p=>A _ _ _ (q.own j c cv H p),q.bn⟩
   exact J _ (h.hr.apart f id o' _ l t F)
 ·intro id1 L G X x q F;obtain⟨_,x⟩:=z id1 G x;obtain⟨_,q⟩:=z L X q;exact h.hr.apart _ _ _ _ x q F
 ·intro id1 G x;obtain⟨_,x⟩:=z id1 G x;exact h.hr.notI _ _ x
 ·intro id1 G x;obtain⟨_,x⟩:=z id1 G x;exact h.hr.notO _ _ x
 ·intro b j C;have:=y b j C;rw[this];exact h.hr.exI b j C
 ·intro b oc B;rw[R];exact h.hr.oLt b oc B
 ·intro n v cv l p;simp only[St.setObj,AD];exact(h.er.rel n v cv l p).up u
 ·intro n v cv l p;exact A _ _ _ (h.er.own n v cv l p)
 ·intro b _ N _;exact J b (λe=>N id _ t e.symm)
 ·simp only[AD];exact u
 ·intro f o' l;obtain⟨E,l⟩:=z f o' l;exact .inl ⟨E,l⟩
theorem SR.newMap(h:SR g s w a)(k:MK)(d:Nat):
  ∃g',SR g' {s.set d (.mr s.hp.length) with hp:=s.hp++[some [.mp k []]]} (w.alloc (.map #[] 0)) (a.put (some d) (.map (some w.heap.size)))∧
   FR g s.hp w g' (s.hp++[some [.mp k []]]) (w.alloc (.map #[] 0)):=by
 obtain⟨Y,J,f3⟩:=hU w (.map #[] 0);let w':=w.alloc (.map #[] 0);let g':Gh:={g with ρ:=λid=>if id=s.hp.length then w.heap.size else g.ρ id}
 have B:∀b j,g.I b j->b<w.heap.size:=by intro b j l;obtain⟨v,hv⟩:=Bq.1 (h.hr.exI b j l);exact BL _ _ hv
 have q:∀b j,b<w.heap.size->w'.cell? ⟨b,j,none⟩=w.cell? ⟨b,j,none⟩:=by intro b j z;simp only[w',By,J b z]
 have u:Up g.I g.ρ s.hp.length w g'.I g'.ρ (s.hp++[some [V.mp k []]]).length w':=
  ⟨λb j l=>l,λb j l=>q b j (B b j l),λid e=>by simp[g',Be e],by simp⟩
 have C:∀(id:Nat) cs,s.hp[id]? =some (some cs)->g.ρ id<w.heap.size:=by intro id cs e;exact(h.hr.obj id cs e).lt
 have r:∀x v cv,aP g w x v cv->aP g' w' x v cv:=by intro x v cv ho;refine dg ho rfl (λb j l=>⟨u.mono b j l,u.cell b j l⟩) ?_;intro b z;exact⟨z,J b (h.hr.oLt b x z),λj hj=>hj⟩
 have split:∀(id:Nat) o,(s.hp++[some [V.mp k []]])[id]? =some (some o)->(id<s.hp.length∧s.hp[id]? =some (some o))∨(id=s.hp.length∧o=[V.mp k []]):=by
  intro id o e;rcases AG id s.hp.length with l|l;·rw[Au l] at e;exact .inl ⟨l,e⟩
  ·rw[At l] at e;have H:id-s.hp.length=0:=by
    rcases DT (id-s.hp.length) with H|H;·exact H
    ·rw[A1 (by simp;omega)] at e;simp at e
   rw[H] at e;simp at e;exact .inr ⟨by omega,e.symm⟩
 have i:g'.ρ s.hp.length=w.heap.size:=by simp[g']
 have f:∀id,id<s.hp.length->g'.ρ id=g.ρ id:=λid e=>by simp[g',Be e]
 have hs:SR g' {s with hp:=s.hp++[some [V.mp k []]]} w' a:=by
  refine⟨⟨?_,?_,?_,?_,?_,?_⟩,⟨h.er.size,?_,?_⟩⟩
  ·intro id o e;rcases split id o e with⟨l,e⟩|⟨rfl,rfl⟩
   ·refine(h.hr.obj id o e).keep ?_ λN e' fz R t=>⟨t.len,t.plain,t.typedUp rfl u.rho u.num rfl,t.cold,t.one,λj c cv F p=>(t.rel j c cv F p).up u,λj c cv F p=>r _ _ _ (t.own j c cv F p),by rw[f id l];exact t.bn⟩
    rw[f id l];exact J _ (C id o e)
   ·refine⟨by simp[kP],λt ab F=>?_⟩;cases F;exact⟨#[],0,by rw[i];exact f3,rfl,rfl,by simp⟩
  ·intro id D o o' R t E;rcases split id o R with⟨l,M⟩|⟨W, -⟩<;>rcases split D o' t with⟨G,Z⟩|⟨S, -⟩
   ·rw[f _ l,f _ G];exact h.hr.apart id D o o' M Z E
   ·rw[f _ l,S,i];exact Be (C id o M)
   ·rw[f _ G,W,i];exact(Be (C D o' Z)).symm
   ·exact absurd (W.trans S.symm) E
  ·intro id o e j l;rcases split id o e with⟨y,e⟩|⟨rfl,rfl⟩
   ·rw[f _ y] at l;exact h.hr.notI id o e j l
   ·rw[i] at l;have:=B _ _ l;omega
  ·intro id o e;rcases split id o e with⟨y,e⟩|⟨rfl,rfl⟩
   ·rw[f _ y];exact h.hr.notO id o e
   ·rw[i];cases L:g.O w.heap.size with
    |none=>rfl
    |some X=>have:=h.hr.oLt _ _ L;omega
  ·intro b j l;rw[q b j (B b j l)];exact h.hr.exI b j l
  ·intro b X z;have:=h.hr.oLt b X z;show b<w'.heap.size;rw[Y];omega
  ·intro n v cv A p;exact(h.er.rel n v cv A p).up u
  ·intro n v cv A p;exact r _ _ _ (h.er.own n v cv A p)
 refine⟨g',?_,rfl,rfl,rfl,rfl,by rw[Y];omega,λb z _ _=>J b z,u,λb j _ _ _ l=>l,λb _ _ L=>L,?_⟩
 ·have:=hs.set d (v:=.mr s.hp.length) (cv:=.map (some w.heap.size)) (by
   rw[<-i];exact .mr _ (by simp)) (by simp[aP])
  exact this
 ·intro id o e;rcases split id o e with⟨y,e⟩|⟨rfl,rfl⟩
  ·exact .inl ⟨o,e⟩
  ·exact .inr ⟨Ap _,.inl (by rw[i];exact Ap _)⟩
theorem aMV{d:Nat}{k:MK}(b:ada P (.mkm d k) m=true)(c:step Γ (.mkm d k) s=some (true,s'))(h:SR g s w a)(i:cW g s w a s' next):m.wp P a w next Q:=by
 obtain⟨dst,l,p,f,e,j⟩:=m;simp only[ada,Ac,beq_iff_eq] at b;obtain⟨rfl,b⟩:=b;split at b
 ·obtain rfl:_=s':=by simpa [step] using c
  exact eH rfl (w':=w.alloc (.map #[] 0)) (cv:=.map (some w.heap.size)) (by simp[execOp,Instr.makeMap]) (h.newMap k d) i
 ·simp at b
theorem azg(h:SR g s w a){id:Nat}{k:MK}{es:List (k.K×k.T)}(b:s.mapO id=some ⟨k,es⟩):∃ents clock,w.heap[g.ρ id]? =some (.map ents clock)∧xh es ents clock:=(h.hr.obj id _ (aCd b)).map k es rfl
theorem aCe{I:Nat->Nat->Prop}{ρ:Nat->Nat}{N:Nat}(k:MK)(ok:Bool)(r:Option k.T)(h:∀v,r=some v->k.okT v):VRel I ρ N w (anU k ok r) (if ok then .tuple #[k.valV (r.getD k.zero),.bool r.isSome] else k.valV (r.getD k.zero)):=by
 have e:VRel I ρ N w (k.val (r.getD k.zero)) (k.valV (r.getD k.zero)):=aJ1 k _ (by
  cases r with
  |none=>exact aJ2 k
  |some v=>exact h v rfl)
 cases ok with
 |false=>exact e
 |true=>
  refine .tup _ _ rfl ?_;intro i c cv d b;match i with
  |0=>simp at d b;subst d b;exact e
  |1=>simp at d b;subst d b;exact .bool _
  |i+2=>simp at d
theorem aCf(g:Gh)(w:World)(b:Occ)(k:MK)(ok:Bool)(r:Option k.T)(cv:Value):aP g w b (anU k ok r) cv:=by
 cases ok;·cases k<;>simp[anU,MK.val,aP]
 ·simp[anU,aP]
theorem aGr{k:MK}{es:List (k.K×k.T)}{ents:Array MapEntry}{clock:Nat}(j:xh es ents clock){x:k.K}{v:k.T}(h:fB es x=some v):qH es x<es.length∧k.okT v∧∃e,ents[qH es x]? =some e∧e.key=k.keyV x∧e.val=k.valV v∧e.born=qH es x:=by have f:=aIw h;have l:=(Ag.1 f).1;have i:ents[qH es x]? =some (ents[qH es x]'(by rw[<-j.1];exact l)):=Am _;obtain⟨a,b,c,d⟩:=j.2.2 _ _ _ f i;exact⟨l,d,_,i,b,c,a⟩
theorem aLw{d:Nat}{k:MK}{ok:Bool}{x y:ASrc}(f:ada P (.mget d k ok x y) m=true)(b:step Γ (.mget d k ok x y) s=some (true,s'))(h:SR g s w a)(C:cW g s w a s' next):m.wp P a w next Q:=by
 obtain⟨dst,op,ty,J,I,W⟩:=m;simp only[ada,Ac,beq_iff_eq] at f;obtain⟨rfl,f⟩:=f;split at f
 ·rename_i t O X R;simp only[Ac,beq_iff_eq] at f;obtain⟨F,rfl,G,N⟩:=f;obtain⟨Z,e,B,q,u⟩:=asm F;have l:=bA G h.er;have E:=bA N h.er;generalize j:a.eval O=Y at l;simp only[step] at b;split at b
  ·rename_i A;rw[A] at l;cases l;simp only[As] at b;obtain⟨key,z,b⟩:=b;obtain rfl:_=s':=by simpa using b
   have i:=atj z E;have c:=afQ (w:=w) q key true;have p:=aim (P:=P) (w:=w) q (k:=k) (es:=[]) (ents:= #[]) (clock:=0) ⟨rfl,rfl,by simp⟩ key;refine eH rfl (w':=w) (cv:=if ok then .tuple #[k.valV k.zero,.bool false] else k.valV k.zero) ?_ ⟨g,h.set d (aCe k ok none (by simp)) (aCf _ _ _ _ _ _ _),FR.refl _ _ _⟩ C;simp[execOp,Instr.lookup,run_underlying B,j,i,c,ww,fB,u w] at p ⊢;rw[p];simp[u w]
  ·rename_i id A;rw[A] at l;cases l;split at b
   ·rename_i k' es M;split at b
    ·rename_i r;subst r;simp only[As] at b;obtain⟨key,z,b⟩:=b;obtain rfl:_=s':=by simpa using b
     have i:=atj z E;obtain⟨ents,clock,L,D⟩:=azg h M;have c:=afQ (w:=w) q key ents.isEmpty;have p:=aim (P:=P) (w:=w) q D key;refine eH rfl (w':=w) (cv:=if ok then .tuple #[k'.valV ((fB es key).getD k'.zero),.bool (fB es key).isSome] else k'.valV ((fB es key).getD k'.zero)) ?_ ⟨g,h.set d (aCe k' ok _ (λv S=>(aGr D S).2.1)) (aCf _ _ _ _ _ _ _),FR.refl _ _ _⟩ C;simp only[execOp,Instr.lookup,j,i,Dd,run_underlying B,Go.MapKept.run_getObj_map L,Cp,Sem.run_pure,c,p];unfold ww;cases H:fB es key with
     |none=>simp[u w]
     |some v=>simp
    ·simp at b
   ·simp at b
  ·simp at b
 ·simp at f
theorem keeps{c b:Value}(h:Dh 10000 c b=true)(w:World):(Instr.keyThatStays c b).run P w=.ok b w:=by simp[Instr.keyThatStays,h]
theorem aLx{d:Option Nat}{k:MK}{x y z:ASrc}(c:ada P (.mput d k x y z) m=true)(l:step Γ (.mput d k x y z) s=some (true,s'))(h:SR g s w a)(Z:cW g s w a s' next):m.wp P a w next Q:=by
 obtain⟨dst,R,W,B,A,H⟩:=m;simp only[ada,Ac,beq_iff_eq] at c;obtain⟨rfl,c⟩:=c;have r:∀t q u C,(∀ρ:Operand->Value,execOp ρ ⟨dst,R,W,B,A,H⟩=(do DE t (ρ q) (ρ u) (ρ C);pure .skip))->akw P t k=true->bB x q=true->bB y u=true->bB z C=true->(⟨dst,R,W,B,A,H⟩:Oper).wp P a w next Q:=by
  intro t q u C O h1 h2 h3 h4;obtain⟨kt,e,Y,ht,hz⟩:=asm h1;have M:=bA h2 h.er;have r2:=bA h3 h.er;have r3:=bA h4 h.er;generalize I:a.eval q=cx at M;simp only[step] at l;split at l
  ·rename_i id hx;rw[hx] at M;cases M;split at l
   ·rename_i k' es ho;split at l
    ·rename_i N;subst N;split at l
     ·rename_i key v hk hv;obtain rfl:_=s':=by simpa using l
      have S:=atj hk r2;obtain⟨J,F⟩:=aJ3 hv r3;obtain⟨ents,clock,E,G⟩:=azg h ho;have p:=afQ (w:=w) ht key false;have X:=aim (P:=P) (w:=w) ht G key;have fin:∀f b D,xh D f b->D=nB es key v->(DE t (.map (some (g.ρ id))) (k'.keyV key) (k'.valV v)).run P w=.ok () {w with heap:=w.heap.setIfInBounds (g.ρ id) (.map f b)}->(⟨dst,R,W,B,A,H⟩:Oper).wp P a w next Q:=by
       rintro f b D L rfl hr;obtain⟨p1,p2⟩:=h.putMap ho E L;unfold C4 C1;rw[O,I,S,J];simp only[Dd,hr,Cp,Sem.run_pure];cases dst with
       |none=>exact Z _ _ g p1 p2 rfl
       |some d=>exact Z _ _ g (p1.set d (.undef _) (by simp[aP])) p2 rfl
      cases j:fB es key with
      |some v0=>obtain⟨b1,b2,en,b3,b4,b5,b6⟩:=aGr G j;refine fin _ _ _ (G.set (i:=qH es key) (x:=key) F) (aJ5 j).symm ?_;simp[DE,run_underlying Y,Go.MapKept.run_getObj_map E,p,X,ww,j,b3,b4,keeps (aIv k' key),Go.MapKept.run_setObj_map _ E]
      |none=>refine fin _ _ _ (G.push (x:=key) F) (aIx j).1.symm ?_;simp[DE,run_underlying Y,Go.MapKept.run_getObj_map E,p,X,ww,j,Go.MapKept.run_setObj_map _ E]
     ·simp at l
    ·simp at l
   ·simp at l
  ·simp at l
 split at c;·rename_i t q u C;simp only[Ac] at c;exact r t q u C (λρ=>by simp[execOp]) c.1 c.2.1 c.2.2.1 c.2.2.2
 ·rename_i t q u C;simp only[Ac] at c;exact r t q u C (λρ=>by simp[execOp]) c.1 c.2.1 c.2.2.1 c.2.2.2
 ·simp at c
end
end
def akx(P:Program)(o:IOp)(m:Oper):Bool:=
 match o with
 | .ixe d n x i=>(m.dst==some d)&&(match m.op with| .indexAddr t c f=>(match P.underlying t with|some (.array b e)=>(b==n)&&(fm P e==some 1)|_=>false)&&(bB x c&&bB i f)|_=>false)
 | .arw d k n=>(m.dst==some d)&&(match m.op with| .alloc t=>anY P t (Cy n (.int k 0))&&decide (n<=65536)|_=>false)
 | .apo d k x y=>sW P (.apu d k x y) m
 | .stu d x n=>atg P (.stn d x (.t n)) m&&(match x with| .t q=>q !=n|_=>false)
 |_=>false
section
variable{w w':World}{g g':Gh}{s s':St}{a:Act}{P:Program}{Γ:aG}{m:Oper}{next:Act->World->Prop}{Q:Exit->Act->World->Prop}
theorem aMW{d n:Nat}{x i:ASrc}(u:akx P (.ixe d n x i) m=true)(l:step Γ (.ixe d n x i) s=some (true,s'))(h:SR g s w a)(J:cW g s w a s' next):m.wp P a w next Q:=by
 obtain⟨dst,op,ty,W,S,gd⟩:=m;simp only[akx,Ac,beq_iff_eq] at u;obtain⟨rfl,u⟩:=u;split at u
 ·rename_i t M N;simp only[Ac] at u;obtain⟨p,R,Y⟩:=u;have y:=bA R h.er;have z:=bA Y h.er;split at p
  ·rename_i ac e L;simp only[Ac,beq_iff_eq] at p;obtain⟨rfl,p⟩:=p;simp only[step] at l;split at l
   ·rename_i cs O k H G;simp only[Ae,Aj,Ac,decide_eq_true_eq] at l;obtain⟨⟨D,C⟩,rfl⟩:=l;rw[H] at y;rw[G] at z;generalize v:a.eval M=cv at y;generalize r:a.eval N=ci at z;cases z;cases y with
    |ea _ b o f e1 X hw B=>
     refine bu h rfl (cv:=.pointer (some ⟨b,o+k.toNat,none⟩)) ?_ ?_ rfl J;·simp[execOp,v,r,DZ,BF,asIntOf,run_underlying L,D,C,gv p,BO]
     ·refine .ea _ _ _ (λj=>f (k.toNat+j)) (λc E=>e1 c (Bw E)) ?_ ?_ ?_
      ·intro j A;simp only[AL] at A;have:=X (k.toNat+j) (by omega)
       rwa [Co]
      ·intro j A;simp only[AL] at A;have:=hw (k.toNat+j) (by omega)
       rwa [Co]
      ·intro j c A;rw[Bk] at A;exact B _ c A
   ·rename_i id q O k H G;split at l
    ·rename_i Z;simp only[Ae,Aj,Ac,decide_eq_true_eq] at l;obtain⟨⟨D,C⟩,rfl⟩:=l;rw[H] at y;rw[G] at z;generalize v:a.eval M=cv at y;generalize r:a.eval N=ci at z;cases z;cases y with
     |wp _ _ _ _ F=>have B:=VRel.wp (I:=g.I) (ρ:=g.ρ) (w:=w) id q k.toNat 0 F;rw[Z,Cv,B6] at B;refine bu h rfl (cv:=.pointer (some ⟨g.ρ id,k.toNat,none⟩)) ?_ B rfl J;simp[execOp,v,r,DZ,BF,asIntOf,run_underlying L,D,C,gv p,BO]
    ·simp at l
   ·simp at l
  ·simp at p
 ·simp at u
theorem aMX{d n:Nat}{k:IntKind}(b:akx P (.arw d k n) m=true)(G:step Γ (.arw d k n) s=some (true,s'))(h:SR g s w a)(B:cW g s w a s' next):m.wp P a w next Q:=by
 obtain⟨dst,R,S,A,y,M⟩:=m;simp only[akx,Ac,beq_iff_eq] at b;obtain⟨rfl,b⟩:=b;split at b
 ·rename_i t;simp only[Ac,decide_eq_true_eq] at b;obtain⟨i,z,F,C,l⟩:=zu b.1;have q:n<=cj:=A7 b.2 (by decide);obtain rfl:_=s':=by simpa [step] using G
  obtain⟨D,O,L⟩:=oR (I:=g.I) (ρ:=λ_=>0) (N:=0) (w:=w) l;have e:z.cells.size=n:=by simpa using D.symm
  have f:=hU w (.cells z.cells t);obtain⟨g',E,H⟩:=h.newRWp (w':=w.alloc (.cells z.cells t)) (.num k) (Cy n (0:Int)) n d z.cells t f.1 f.2.1 f.2.2 rfl rfl rfl (by simp) q (by simp[e,EK.sz]) (by simp) (aGU _) (by
   intro i x j v c u;rw[Cb] at c;split at c
   ·rename_i J;simp only[Ae] at c;subst c;have p:j=0:=by
     have:=(Ag.1 u).1;simp[enc] at this;exact this
    subst p;obtain rfl:V.int k 0=v:=by simpa [enc] using u
    have r:z.cells[i]? =some (z.cells[i]'(by omega)):=Am _;refine⟨z.cells[i]'(by omega),by simp[EK.sz],?_⟩;exact L i (.int k 0) _ (by simp[Cb,J]) (by rw[Ck];exact r)
   ·cases c)
  exact eH rfl (cv:=.pointer (some ⟨w.heap.size,0,none⟩)) (by simp[execOp,Instr.alloc,zeroValue,typeInfo,F,C,newVar,newRow]) ⟨g',E,H⟩ B
 ·simp at b
theorem aMY{d:Nat}{k:EK}{x y:ASrc}(f:g.β=kQ P)(q:akx P (.apo d k x y) m=true)(b:step Γ (.apo d k x y) s=some (true,s'))(h:SR g s w a)(z:cW g s w a s' next):m.wp P a w next Q:=by
 have q:sW P (.apu d k x y) m=true:=q;simp only[step] at b;split at b
 ·rename_i O l e N c M B;split at b
  ·rename_i H;split at b
   ·rename_i E;subst H E;split at b;case isFalse=>cases b
    rename_i G;simp only[Ae,Aj,Ac,decide_eq_true_eq] at b;obtain⟨⟨C,v⟩,rfl⟩:=b;have r:(x.after s).hp=s.hp:=by cases x<;>rfl
    have j:(x.after s).env.length=s.env.length:=by cases x<;>simp[ASrc.after,St.set]
    refine aIl (s':=(x.after s).set d (.ul e (l++c))) (Γ:=Γ) f q ?_ h ?_;·simp only[step,M,B];simp[C]
    ·intro L w' g' F J I;have A:(gm.opn (.slot d)).step ((x.after s).set d (.ul e (l++c)))=some (true,{(x.after s).set d (.sw e s.hp.length (l++c).length) with hp:=s.hp++[some [.rw e (l++c)],none]}):=by
      have t:((x.after s).set d (.ul e (l++c))).get d=.ul e (l++c):=by simp[St.get,St.set,Aq,j,G]
      have i:((x.after s).set d (.ul e (l++c))).hp=s.hp:=r;simp only[gm.step,St.at?,t,St.put?,i];have:0<(l++c).length:=v;simp only[this,decide_true,St.set,List.set_set,r]
     obtain⟨p,u,D⟩:=an1 F A;exact z L w' p u (J.trans D) I
   ·simp at b
  ·simp at b
 ·simp at b
theorem aMZ{d:Option Nat}{x:ASrc}{n:Nat}(u:akx P (.stu d x n) m=true)(e:step Γ (.stu d x n) s=some (true,s'))(h:SR g s w a)(E:cW g s w a s' next):m.wp P a w next Q:=by
 simp only[akx,Ac] at u;obtain⟨u,f⟩:=u;cases x with
 |t q=>
  simp only[bne_iff_ne,ne_eq] at f;simp only[step] at e;split at e
  ·rename_i b ys r;split at e
   ·rename_i id k i o S;split at e
    ·rename_i k' xs F;split at e
     ·rename_i j;simp only[Ae,Aj,Ac,decide_eq_true_eq] at e;obtain⟨⟨G,D⟩,rfl⟩:=e;have z:n<s.env.length:=by
       rcases AG n s.env.length with y|y;·exact y
       ·simp[St.get,Aq,A1 y] at r
      have B:(gm.opn (.slot n)).step s=some (true,{s.set n (.sw b s.hp.length ys.length) with hp:=s.hp++[some [.rw b ys],none]}):=by simp only[gm.step,St.at?,r,St.put?,D,decide_true];rfl
      obtain⟨g',C,H⟩:=an1 h B;have p:=ab3 F;have l:id<s.hp.length:=(Ag.1 p).1;refine aIm (s':=({s.set n (.sw b s.hp.length ys.length) with hp:=(s.hp++[some [V.rw b ys],none]).set id (some [.tup [.rw k' xs,.sw b s.hp.length ys.length,.wp id k' i o]])}:St).setO d .undef) (Γ:=Γ) u ?_ C ?_
      ·have L:(ASrc.t q).ev {s.set n (.sw b s.hp.length ys.length) with hp:=s.hp++[some [.rw b ys],none]}=.wp id k i o:=by
        rw[<-S];simp[ASrc.ev,St.get,St.set,Aq,Ax,CU f]
       have I:(ASrc.t n).ev {s.set n (.sw b s.hp.length ys.length) with hp:=s.hp++[some [.rw b ys],none]}=.sw b s.hp.length ys.length:=by simp[ASrc.ev,St.get,St.set,Aq,z,disown]
       have N:St.rowW {s.set n (.sw b s.hp.length ys.length) with hp:=s.hp++[some [.rw b ys],none]} id=some ⟨k',xs⟩:=by simp only[St.rowW,Aq,Au l,p,A8]
       simp only[step,L,I,N];rw[if_pos j];simp[G,St.setObj]
      ·intro R w' A J O M;exact E R w' A J (H.trans O) M
     ·simp at e
    ·simp at e
   ·simp at e
  ·simp at e
 |tk q=>simp at f
 |c v=>simp at f
end
end Go.AM
end
