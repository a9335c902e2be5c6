import Derived.KernelRfl
import Derived.Test.YtkinflmjagfapaaGreatDoorZ02
open Array renaming getElem?_eq_some_iff→AP,getD→A9
open Bool renaming and_eq_true→Ac,or_eq_true→Ba,false_or→BO
open Eq renaming trans→A3
open Go.Deferred renaming ofValue→Da
open Go.Ending renaming returned→Dn
open Go.IntKind renaming wrap→Aj
open Go.Oper renaming wp→CF
open Go.Region renaming binds→BN,wanted→BX,ready→CY
open Int renaming toNat→Ae
open List renaming length→Aa,getElem?_eq_getElem→Ab,getElem?_eq_some_iff→Ad,getD_eq_getElem?_getD→Af,mem_of_getElem?→Ai,getD→Ak,all_eq_true→Al,getElem?_append_right→Aq,getElem?_append_left→Ar,length_cons→Av,mem_append→Aw,getElem?_map→Ay,getElem?_set→AB,length_append→AD,mem_map→AE,mem_flatMap→AG,set→AJ,mem_cons→AQ,mem_iff_getElem→AS,mem_cons_of_mem→AT,mem_cons_self→AU,getElem?_cons_succ→AV,mem_append_left→AX,map_congr_left→A0,getElem?_cons_zero→A4,eq_nil_of_length_eq_zero→A7,range→A8,range'→Bf,mem_range→Bm,map_cons→Bn,length_map→Bt,map_append→BL,contains_iff_mem→BP,mem_append_right→BR,all_cons→B7,any_eq_true→Cg,map_map→Ch,range'_succ→Ck,filterMap_append→CD,pairwise_append→CH,mem_map_of_mem→CO,filterMap_cons_some→CU,pairwise_cons→CV,eq_nil_iff_forall_not_mem→Dg,range_eq_range'→Do,getElem?_range→Dp,range'_append→Dw,mem_of_find?_eq_some→DI
open List.Sublist renaming append_left→DK
open Nat renaming le_refl→Am,beq→As,eq_of_beq_eq_true→Ax,lt_of_lt_of_le→AC,le_trans→AH,lt_or_ge→AI,zero_add→A1,beq_refl→BF,ble→BV,blt→B0,blt_eq→Cd,one_mul→Cw,sub_self→CE,lt_trichotomy→C2,le_add_right→C8,le_of_ble_eq_true→Dd
open Option renaming map_eq_some_iff→An,getD_some→Bd,map_some→Bg
open Option.some renaming injEq→Ah
open Prod.mk renaming injEq→Ap
open UInt8 renaming toNat→CL
set_option linter.all false
set_option maxRecDepth 100000
noncomputable section
namespace Go.AM
def pM(P:Program)(f:FuncId)(vs:List V)(v:V):Prop:=∃hp':List ai,∀(w:World)(g:Gh)(b:Array Value),ua P g w->HR g [] w->vs.length=b.size->(∀x∈vs,x.bare=true)->
    (∀(i:Nat) x cv,vs[i]? =some x->b[i]? =some cv->VRel g.I g.ρ 0 w x cv)->
    Calls P f b w λe w'=>∃cv c,e=.returned cv∧HR c hp' w'∧FRW g [] w c hp' w'∧VRel c.I c.ρ hp'.length w' v cv∧au c w' .res v cv
def abp(k:Nat)(W:Nat->List V->Option (Bool×V))(Γ:av):av:=λf vs hp=>cond (BV k f) ((W (f-k) vs).map λp=>(p.1,p.2,hp)) (Γ f vs hp)
def gH(W:Nat->List V->Option (Bool×V))(Γ:av):av:=abp WX W Γ
theorem ap6{k:Nat}{W:Nat->List V->Option (Bool×V)}{Γ:av}{f:Nat}{vs:List V}{hp:List ai}:abp k W Γ (k+f) vs hp=(W f vs).map λp=>(p.1,p.2,hp):=by unfold abp;rw[show BV k (k+f)=true from by rw[Nat.ble_eq];exact C8 k f,cond_true,Nat.add_sub_cancel_left]
theorem ai7{k:Nat}{W:Nat->List V->Option (Bool×V)}{Γ:av}{f:Nat}{vs:List V}{hp:List ai}(h:BV k f=false):abp k W Γ f vs hp=Γ f vs hp:=by unfold abp;rw[h,cond_false]
def akl(P:Program)(W:Nat->List V->Option (Bool×V)):Prop:=∀f vs v,W f vs=some (true,v)->pM P f vs v∧vs.all V.flat=true∧v.flat=true∧(match v with| .tup _=>true|v=>v.bare)=true
def IOp.strong:IOp->Bool
 | .call _ f _| .dcall _ f _ _=> !(BV WX f)
 |_=>true
def nH(l:List GOp):Bool:=l.all λx=>x.o.strong
section
variable{w:World}{g:Gh}{s s':St}{a:Act}{P:Program}{Γ:av}{W:Nat->List V->Option (Bool×V)}{m:Oper}{next:Act->World->Prop}{Q:Exit->Act->World->Prop}
theorem ap7{o:IOp}(h:o.strong=true)(s:St):step (gH W Γ) o s=step Γ o s:=by
 cases o with
 |call d f avs=>
  have b:BV WX f=false:=by simpa [IOp.strong] using h
  simp only[step,gH,ai7 b]
 |dcall d f x avs=>
  have b:BV WX f=false:=by simpa [IOp.strong] using h
  simp only[step,gH,ai7 b]
 |_=>rfl
theorem aoo{x:GOp}(h:x.o.strong=true)(s:St):dg (gH W Γ) x s=dg Γ x s:=by unfold dg jf;simp only[ap7 h]
theorem nI{R:Type}:∀(l:List GOp),nH l=true->∀(K:St->Option R)(s:St),cq (gH W Γ) l K s=cq Γ l K s
 | [],_,K,s=>rfl
 |x::l,h,K,s=>by
  simp only[nH,B7,Ac] at h;rw[nA,nA,aoo h.1];cases dg Γ x s with
  |none=>rfl
  |some s'=>exact nI l h.2 K s'
theorem anf{I I':Nat->Nat->Prop}{ρ ρ':Nat->Nat}{N N':Nat}{w w':World}{c:V}{cv:Value}(d:(match c with| .int .. | .bool _| .str _| .nilp=>true|_=>false)=true)(b:VRel I ρ N w c cv):yR cv=false∧VRel I' ρ' N' w' c cv:=by
 cases c<;>simp at d;·cases b;exact⟨rfl,.bool _⟩
 ·cases b;exact⟨rfl,.int _ _ (by assumption)⟩
 ·cases b;exact⟨rfl,.str _ _ (by assumption) (by assumption)⟩
 ·cases b;exact⟨rfl,.nilp⟩
theorem asg{k:EK}(b:k.hard=true)(x:Ty k):∃c,enc k x=[c]∧(match c with| .int .. | .bool _| .str _| .nilp=>true|_=>false)=true:=by cases k<;>simp[EK.hard] at b<;>exact⟨_,rfl,rfl⟩
theorem alB{I I':Nat->Nat->Prop}{ρ ρ':Nat->Nat}{N N':Nat}{w w':World}(hm:∀b j,I b j->I' b j)(L:∀b j v,I b j->w.cell? ⟨b,j,none⟩=some v->yR v=false->w'.cell? ⟨b,j,none⟩=some v)
  (R:∀(c:V)(cv:Value),c.cellS=true->VRel I ρ N w c cv->VRel I' ρ' N' w' c cv)
  {v:V} {cv:Value} (G:v.hard1=true) (hp:∀id o,v=.ptr id o->id<N'∧ρ' id=ρ id) (h:VRel I ρ N w v cv):VRel I' ρ' N' w' v cv:=by
 by_cases r:v.cellS=true;·exact R v cv r h
 cases h with
 |undef=>exact .undef _
 |bool b=>exact .bool b
 |int k n h=>exact .int k n h
 |str l s B h=>exact .str l s B h
 |nilp=>exact .nilp
 |nilif=>exact .nilif
 |ptr id o h=>obtain⟨M,S⟩:=hp id o rfl;rw[<-S];exact .ptr id o M
 |sln k o=>exact .sln k o
 |sle k o H J=>exact .sle k o H J
 |sl k o xs b u C cap B A y X f E Z O=>
  have Y:k.hard=true:=by cases k<;>cases o<;>simp[V.hard1,EK.hard,V.cellS] at G r ⊢ <;>rename_i q<;>cases q<;>simp_all [V.hard1,V.cellS]
  have F:∀(i:Nat) x (j:Nat) c,xs[i]? =some x->(enc k x)[j]? =some c->yR (f i j)=false∧VRel I' ρ' N' w' c (f i j):=by
   intro i x j c p d;obtain⟨c',e,hs⟩:=asg Y x;have D:=O i x j c p d;rw[e] at d;cases j with
   |zero=>simp at d;subst d;exact anf hs D
   |succ j=>simp at d
  exact .sl k o xs b u C cap B A y X f (λi x j p t=>hm _ _ (E i x j p t)) (λi x j p t=>L _ _ _ (E i x j p t) (Z i x j p t) (F i x j _ p (Ab t)).1) (λi x j c p d=>(F i x j c p d).2)
 |_=>simp[V.hard1] at G
theorem ash{I I':Nat->Nat->Prop}{ρ ρ':Nat->Nat}{N N':Nat}{w w':World}(C:∀b j,I b j->I' b j)(E:∀b j v,I b j->w.cell? ⟨b,j,none⟩=some v->yR v=false->w'.cell? ⟨b,j,none⟩=some v)
  (F:∀(c:V)(cv:Value),c.cellS=true->VRel I ρ N w c cv->VRel I' ρ' N' w' c cv)
  (L:∀b j v,I b j->w.cell? ⟨b,j,none⟩=some v->∃H,w'.cell? ⟨b,j,none⟩=some H∧∀c:V,c.cellS=true->VRel I ρ N w c v->VRel I' ρ' N' w' c H)
  {v:V} {cv:Value} (q:v.hard=true) (hp:∀(u:V)(cv:Value)(id o:Nat),VRel I ρ N w u cv->u=.ptr id o->id<N'∧ρ' id=ρ id) (h:VRel I ρ N w v cv):VRel I' ρ' N' w' v cv:=by
 cases v with
 |agg l=>
  simp only[V.hard,Al] at q;cases h with
  |agg _ vs J x M r=>exact .agg l vs J x M λi c cv A G=>alB C E F (q c (Ai A)) (λid o e=>hp c cv id o (r i c cv A G) e) (r i c cv A G)
 |ea l=>
  simp only[V.hard,Al] at q;cases h with
  |ea _ t f g x D O r=>
   have key:∀j,j<l.length->∃y,w'.cell? ⟨t,f+j,none⟩=some y∧∀c,l[j]? =some c->VRel I' ρ' N' w' c y:=by intro j k;obtain⟨y,p,B⟩:=L t (f+j) _ (D j k) (O j k);exact⟨y,p,λc d=>B c (q c (Ai d)) (r j c d)⟩
   refine .ea l t f (λj=>(w'.cell? ⟨t,f+j,none⟩).getD undef) x (λj k=>C _ _ (D j k)) ?_ ?_;·intro j k;obtain⟨y,p,_⟩:=key j k;rw[p];rfl
   ·intro j c d;obtain⟨y,p,B⟩:=key j (Ad.1 d).1;rw[p];exact B c d
 |_=>exact alB C E F q (λid o e=>hp _ cv id o h e) h
theorem ang{v:V}(b:v.hard=true)(g:Gh)(w:World)(c:Occ)(cv:Value):au g w c v cv:=by
 cases v with
 |sl k o l=>cases o<;>cases k<;>simp[V.hard,V.hard1] at b<;>simp[au]
 |raw=>simp[V.hard,V.hard1] at b
 |ul=>simp[V.hard,V.hard1] at b
 |_=>simp[au]
def anh(P:Program)(d f:Nat)(avs:List aw)(m:Oper):Bool:=(m.dst==some d)&&(match aiK m.op with|some (c,b)=>f==c&&(wI avs b&&ql P f)|none=>false)
theorem atQ(hT:aay=[])(hW:akl P W)(bY:g.β=nk P){d f:Nat}{avs:List aw}(q:anh P d f avs m=true)(X:(WOp.call d f avs).step (gH W Γ) s=some (true,s'))(h:SR g s w a)(hn:ap5 g s w a s' next):m.wp P a w next Q:=by
 obtain⟨dst,op,ty,pos,a4,gd⟩:=m;simp only[anh,Ac,beq_iff_eq] at q;obtain⟨rfl,q⟩:=q;split at q
 ·rename_i f' G bx;obtain⟨ts,rfl⟩:=ahb bx;simp only[Ac,beq_iff_eq] at q;obtain⟨rfl,h1,M⟩:=q;simp only[WOp.step,gH,ap6] at X;cases hg:W f (avs.map λx=>disown (x.ev s)) with
  |none=>rw[hg] at X;simp at X
  |some p=>
  obtain⟨c,v⟩:=p;rw[hg] at X;simp only[Bg,Ah,Ap] at X;obtain⟨rfl,rfl⟩:=X;obtain⟨⟨hp',b0⟩,a5,ae,a9⟩:=hW _ _ _ hg;obtain⟨k1,k2⟩:=acH h.er avs G h1;have an:(execOp a.eval ⟨some d,.call ⟨.value (.func f),⟨G⟩,ts⟩,ty,pos,a4,gd⟩).run P w=.ok (.enter f (G.map a.eval).toArray) w:=by
   unfold ql at M;split at M
   ·rename_i fn al;simp only[Ac,bne_iff_ne,ne_eq] at M;obtain⟨h3,h4⟩:=M;have N:fn.body.isNone=false:=by cases S:fn.body<;>simp_all
    simp[execOp,resolve,Act.eval,Da,invoke,callFunc,al,h4,N];intro b1;rw[b1] at h3;simp at h3
   ·simp at M
  unfold CF;rw[an,Oper.upon_enter];let g₀:Gh:={I:=g.I,ρ:=g.ρ,O:=λ_=>none,β:=g.β}
  have h0:HR g₀ [] w:=⟨by simp,by simp,by simp,by simp,h.hr.exI,by simp[g₀]⟩
  refine(b0 w g₀ (G.map a.eval).toArray ⟨bY,λR=>absurd hT R⟩ h0 (by simp[k1]) (by intro x hx;obtain⟨y,_,rfl⟩:=AE.1 hx;exact dV _) (λi x cv hx r=>(k2 i x cv hx (by simpa using r)).flat (Al.1 a5 x (Ai hx)))).mono ?_;rintro e w' ⟨cv,g₁,rfl,q1,t,q3,q4⟩;simp only;let k:Gh:={I:=g₁.I,ρ:=g.ρ,O:=λ_=>none,β:=g.β}
  have br:∀(id:Nat) cs,s.hp[id]? =some (some cs)->ap3 g₀ w (g.ρ id):=λid cs hid j F=>absurd F (h.hr.notI id cs hid j)
  have ad:∀(id:Nat) cs,s.hp[id]? =some (some cs)->g.ρ id<w.heap.size:=λid cs hid=>(h.hr.obj id cs hid).lt
  have D:∀b j,b<w.heap.size->g₁.I b j->g.I b j:=λb j S F=>t.iSame b j S (by simp) rfl F
  have hp:∀(v:V)(cv:Value)(id o:Nat),VRel g.I g.ρ s.hp.length w v cv->v=.ptr id o->id<s.hp.length∧k.ρ id=g.ρ id:=by rintro v cv id o C rfl;cases C;exact⟨by assumption,rfl⟩
  have tr:∀(v:V)(cv:Value),v.hard=true->VRel g.I g.ρ s.hp.length w v cv->VRel k.I k.ρ s.hp.length w' v cv:=
   λv cv C Y=>ash t.mono t.cell (λc cv q Y=>t.reads _ _ _ _ c cv q Y) (λb j v F C=>by obtain⟨v',a1,H⟩:=t.turn b j v F C;exact⟨v',a1,λc q Y=>H _ _ _ _ c q Y⟩) C hp Y
  have A:∀(id:Nat) cs,(s.hp.map yt)[id]? =some (some cs)->s.hp[id]? =some (some cs)∧∀c∈cs,c.hard=true∧c.one=true:=by
   intro id cs hid;rw[Ay,An] at hid;obtain⟨o,ho,he⟩:=hid;unfold yt at he;split at he;·rename_i J;subst he;simp only[asH,Al,Ac] at J;exact⟨ho,J⟩
   ·cases he
  have E:(s.hp.map yt).length=s.hp.length:=by simp
  have b2:SR k ⟨s.env.map V.harden,s.hp.map yt⟩ w' a:=by
   refine⟨⟨?_,?_,?_,λ_ _ _=>rfl,q1.exI,by simp[k]⟩,⟨by simp[h.er.size],?_,?_⟩⟩
   ·intro id cs hid;obtain⟨hid,L⟩:=A id cs hid;have B:dm cs=false:=alb λc q=>(L c q).2
    rw[E];refine(h.hr.obj id cs hid).keep (t.block _ (ad id cs hid) (by simp) rfl (br id cs hid)) λcy e fz a1 H=>⟨H.len,H.plain,?_,H.cold,H.one,?_,?_,H.bn⟩
    ·rw[jU B];simp
    ·intro j c cv q r;have Z:=q;rw[eN B] at Z;exact tr c cv (L c (Ai Z)).1 (H.rel j c cv q r)
    ·intro j c cv q r;rw[eN B] at q;exact ang (L c (Ai q)).1 _ _ _ _
   ·intro id bs cs b3 h1 M R;exact h.hr.apart id bs cs b3 (A _ _ h1).1 (A _ _ M).1 R
   ·intro id cs hid j F;have hid:=(A id cs hid).1;exact h.hr.notI id cs hid j (D _ j (ad id cs hid) F)
   ·intro n v cv C r;simp only[Ay,An] at C;obtain⟨u,hu,rfl⟩:=C;rw[E];unfold V.harden;split;·rename_i J;exact tr u cv J (h.er.rel n u cv hu r)
    ·exact .undef _
   ·intro n v cv C r;simp only[Ay,An] at C;obtain⟨u,hu,rfl⟩:=C;unfold V.harden;split;·rename_i J;exact ang J _ _ _ _
    ·simp[au]
  refine hn _ _ k (b2.set d (q3.flat ae) ?_) ?_ rfl
  ·cases v with
   |tup=>simp[au]
   |_=>exact il a9 _ _ _ _
  ·refine⟨rfl,t.os,t.tape,t.output,t.size,λb S _ _ J=>t.block b S (by simp) rfl J,t.mono,t.cell,λ_ _=>rfl,by show s.hp.length<=(s.hp.map yt).length;rw[E];exact Am _,λb j S _ _ F=>D b j S F,λ_ _ _ _=>rfl,λid cs hid=>.inl ⟨cs,(A id cs hid).1⟩,t.reads,t.turn⟩
 ·simp at q
end
section
variable{w:World}{g:Gh}{s s':St}{a:Act}{P:Program}{Γ:av}{W:Nat->List V->Option (Bool×V)}{imp:List Nat}
structure sW(g₀:Gh)(hp₀:List ai)(w₀:World)(g:Gh)(s:St)(w:World)(a:Act):Prop where
 sr:SR g s w a
 fr:FRW g₀ hp₀ w₀ g s.hp w
 df:a.defers=[]
theorem sW.on{g₀:Gh}{hp₀:List ai}{w₀:World}{g₁:Gh}{b:St}{w₁:World}{c:Act}(h:sW g₀ hp₀ w₀ g s w a)(k:Inv g s.hp w [] g₁ b w₁ c):sW g₀ hp₀ w₀ g₁ b w₁ c:=⟨k.sr,h.fr.trans k.fr.toW,k.df⟩
theorem sW.inv{g₀:Gh}{hp₀:List ai}{w₀:World}(h:sW g₀ hp₀ w₀ g s w a):Inv g s.hp w [] g s w a:=⟨h.sr,FR.refl _ _ _,h.df⟩
theorem sW.base{g₀:Gh}{hp₀:List ai}{w₀:World}(h:sW g₀ hp₀ w₀ g s w a)(d:aay=[])(b:g₀.β=nk P):qY P g s.hp w:=⟨⟨h.fr.beta.trans b,λc=>absurd d c⟩,h.sr.hr.notI⟩
theorem sW.keeps{g₀:Gh}{hp₀:List ai}{w₀:World}(h:sW g₀ hp₀ w₀ g s w a)(b:List Nat){n:Nat}(c:hp₀.length<=n):sW g₀ hp₀ w₀ g (s.keep b n) w a:=
 ⟨h.sr.keeps b n,⟨h.fr.beta,h.fr.os,h.fr.tape,h.fr.output,h.fr.size,h.fr.block,h.fr.mono,h.fr.cell,h.fr.rho,amU c h.fr.num,h.fr.iSame,h.fr.oSame,λid cs hid=>h.fr.live id cs (amT hid),h.fr.reads,h.fr.turn⟩,h.df⟩
def ai8(P:Program)(o:WOp)(m:Oper):Bool:=(match m.guard with|none=>true|_=>false)&&(match o with
 | .ste n x v=>ane P n x v m
 | .call d f avs=>anh P d f avs m)
theorem arj(p:Zed)(j:aay=[])(k:akl P W)(b:g.β=nk P){o:WOp}{m:Oper}{next:Act->World->Prop}{Q:Exit->Act->World->Prop}(c:ai8 P o m=true)(i:o.step (gH W Γ) s=some (true,s'))(h:SR g s w a)(e:ap5 g s w a s' next):m.wp P a w next Q:=by
 simp only[ai8,Ac] at c;cases o with
 |ste n x v=>exact atP p c.2 i h e
 |call d f avs=>exact atQ j k b c.2 i h e
def amu(b:Array Oper)(k j:Nat):Bool:=match b[j]? with
 |some m=>m.after.toList.all (λe=> !Region.binds .any e||decide (e.on<j))&&(A8 j).all λi=>(B0 k j&& !Nat.beq (i+1) j)||m.after.toList.any λe=>BN .any e&&e.on==i
 |none=>false
theorem aaG{c:Array Oper}{k j:Nat}(h:amu c k j=true):∃m,c[j]? =some m∧(∀e∈m.after,BN .any e=true->e.on<j)∧∀i,i<j->(k<j->i+1=j)->∃e∈m.after,BN .any e=true∧e.on=i:=by
 unfold amu at h;split at h
 ·rename_i m q;simp only[Ac] at h;refine⟨m,q,λe d b=>?_,λi o p=>?_⟩;·have:=Al.1 h.1 e (by simpa using d);simpa [b] using this
  ·have:=Al.1 h.2 i (Bm.2 o);have f:(B0 k j&& !Nat.beq (i+1) j)=false:=by
    cases b:B0 k j with
    |false=>rfl
    |true=>simp[p (by simpa [Cd] using b)]
   rw[f,BO] at this;obtain⟨e,d,b⟩:=Cg.1 this;simp only[Ac,beq_iff_eq] at b;exact⟨e,by simpa using d,b.1,b.2⟩
 ·cases h
theorem ani{k0:Nat}{c:Array Oper}{Q:Exit->Act->World->Prop}:∀(n k:Nat)(b:Array Bool)(a:Act)(w:World),k+n=c.size->(k0<=k∧∀j,k<=j->j<c.size->amu c k0 j=true)->b.size=c.size->(∀i,i<k->b.getD i false=true)->(∀i,k<=i->i<c.size->b.getD i true=false)->
  wpOps P c Q (Bf k n) a w->wpAny P .any c Q n b a w
 |0,k,b,a,w,N,C,y,D,E,h=>by
  refine⟨?_,by simpa [wpOps] using h⟩;rw[Dg];intro j A;obtain⟨q,o,u,_⟩:=mem_ready.1 A;have d:j<c.size:=(AP.1 u).1;have f:=D j (by omega);have p:j<b.size:=by omega
  simp[A9,p] at q f;rw[q] at f;cases f
 |n+1,k,b,a,w,N,C,y,D,E,h=>by
  have key:∀j,j∈CY .any c b->j=k:=by
   intro j A;obtain⟨q,o,u,M⟩:=mem_ready.1 A;have d:j<c.size:=(AP.1 u).1;have p:j<b.size:=by omega
   rcases C2 j k with f|f|f;·have r:=D j f;simp[A9,p] at q r;rw[q] at r;cases r
   ·exact f
   ·obtain⟨m,J,_,x⟩:=aaG (C.2 j (by omega) d);rw[J] at u;cases u;obtain⟨e,I,F,H⟩:=x (j-1) (by omega) (by omega);have r:=M e I F;rw[H] at r;have G:=E (j-1) (by omega) (by omega);have t:j-1<b.size:=by omega
    simp[A9,t] at r G;rw[r] at G;cases G
  have v:k∈CY .any c b:=by obtain⟨m,J,d,_⟩:=aaG (C.2 k (Am _) (by omega));exact mem_ready.2 ⟨E k (Am _) (by omega),m,J,λe I F=>D _ (d e I F)⟩
  refine⟨λe=>?_,λj A=>?_⟩;·rw[e] at v;simp at v
  ·obtain rfl:=key j A;rw[Ck,wpOps_cons] at h;refine wpOp_mono (λL w' O=>?_) h;refine ani n (j+1) _ L w' (by omega) ⟨by have:=C.1;omega,λi q f=>C.2 i (by omega) f⟩ (by simpa using y) ?_ ?_ O
   ·intro i R;by_cases B:i=j
    ·subst B;have d:i<b.size:=by omega
     simp[A9,d]
    ·rw[getD_set_ne false (λe=>B e.symm)];exact D i (by omega)
   ·intro i q f;rw[getD_set_ne true (by omega)];exact E i (by omega) f
def acN(P:Program)(imp:List Nat)(b:Array Oper)(l:List GOp)(c:List (List Nat)):Bool:=
 (P.follows .mixedOrders&&rL P b 0 l)&&(((A8 l.length).all λj=>
  (match b[j]? with
   |some m=>m.after.toList.all (λe=> !Region.binds .any e||decide (e.on<j))&&(c.getD j []).all (λi=>m.after.toList.any λe=>BN .any e&&(e.on==i||(c.getD e.on []).contains i))
   |none=>false)&&
  (match l[j]? with
   |some x=>(A8 j).all λi=>(c.getD j []).contains i||(match l[i]? with|some y=>acC imp y x|none=>false)
   |none=>false))&&((A8 b.size).all λj=>decide (j<l.length)||amu b l.length j))
theorem ai9{b:Array Oper}:∀(l:List GOp)(i:Nat),rL P b i l=true->∀(k:Nat) x,l[k]? =some x->∃m,b[i+k]? =some m∧acG P b x m=true
 | [],i,h=>by simp
 |x::l,i,h=>by
  simp only[rL,Ac] at h;obtain⟨c,e⟩:=h;intro k y d;cases k with
  |zero=>
   simp at d;subst d;split at c;·exact⟨_,by simpa using (by assumption),c⟩
   ·cases c
  |succ k=>obtain⟨m,j,f⟩:=ai9 l (i+1) e k y (by simpa using d);exact⟨m,by rw[<-j];congr 1;omega,f⟩
theorem ap8(c2:cY P Γ){g₀:Gh}{hp₀:List ai}{w₀:World}(cy:qY P g₀ hp₀ w₀){imp:List Nat}(hP:dx Γ imp){R:Type}{K:St->Option R}{r:R}{d:Array Oper}{l:List GOp}{H:List (List Nat)}(hc:acN P imp d l H=true){n:Nat}(c0:d.size=l.length+n){df:List Deferred}{Q:Exit->Act->World->Prop}
  (hQ:∀(b:Array Bool) s g w a,b.size=d.size->(∀i,i<l.length->b.getD i false=true)->(∀i,l.length<=i->i<d.size->b.getD i true=false)->K s=some r->Inv g₀ hp₀ w₀ df g s w a->wpAny P .any d Q n b a w):∀(f:Nat)(p:List Nat)(b:Array Bool)(s:St)(g:Gh)(w:World)(a:Act),
   p.length=f->p.Pairwise (·<·)->(∀i,i∈p↔i<l.length∧b.getD i true=false)->b.size=d.size->(∀i,l.length<=i->i<d.size->b.getD i true=false)->(∀j,j<l.length->j ∉ p->∀i∈H.getD j [],i ∉ p)->
   cq Γ (p.filterMap λi=>l[i]?) K s=some r->Inv g₀ hp₀ w₀ df g s w a->wpAny P .any d Q (f+n) b a w:=by
 simp only[acN,Ac] at hc;obtain⟨⟨-,b3⟩,bl,b6⟩:=hc;have ae:=ai9 l 0 b3;simp only[A1] at ae
 have hj:∀j,j<l.length->∃m x,d[j]? =some m∧l[j]? =some x∧acG P d x m=true∧(∀e∈m.after,BN .any e=true->e.on<j)∧
   (∀i∈H.getD j [],∃e∈m.after,BN .any e=true∧(e.on=i∨i∈H.getD e.on []))∧(∀i,i<j->i∈H.getD j []∨∃y,l[i]? =some y∧acC imp y x=true):=by
  intro j C;have h0:=Al.1 bl j (Bm.2 C);simp only[Ac] at h0;obtain⟨c,D⟩:=h0;have hx:l[j]? =some l[j]:=Ab C;obtain⟨m,G,X⟩:=ae j _ hx;rw[G] at c;rw[hx] at D;simp only[Ac] at c;refine⟨m,l[j],G,hx,X,?_,?_,?_⟩;·intro e F t;have:=Al.1 c.1 e (by simpa using F);simpa [t] using this
  ·intro i hi;have:=Al.1 c.2 i hi;obtain⟨e,F,t⟩:=Cg.1 this;simp only[Ac,Ba,beq_iff_eq,BP] at t;exact⟨e,by simpa using F,t.1,t.2⟩
  ·intro i hi;have:=Al.1 D i (Bm.2 hi);simp only[Ba,BP] at this;rcases this with u|u;·exact .inl u
   ·right;split at u;·rename_i y hy;exact⟨y,hy,u⟩
    ·simp at u
 have J:∀(p:List Nat)(b:Array Bool),(∀i,i∈p↔i<l.length∧b.getD i true=false)->b.size=d.size->∀j m,j<l.length->d[j]? =some m->(j∈CY .any d b↔j∈p∧∀e∈m.after,BN .any e=true->e.on<l.length∧e.on ∉ p):=by
  intro p b k I j m C G;obtain⟨m',x',S,_,_,al,_,_⟩:=hj j C;rw[G] at S;cases S;have key:∀i,i<l.length->(b.getD i false=true↔i<l.length∧i ∉ p):=by
   intro i D;rw[k i];have c:i<b.size:=by omega
   simp[A9,c,D]
  rw[mem_ready,k j];constructor;·rintro⟨c,o,O,D⟩;rw[G] at O;cases O;exact⟨⟨C,c⟩,λe F t=>(key _ (Nat.lt_trans (al e F t) C)).1 (D e F t)⟩
  ·rintro⟨⟨_,c⟩,D⟩;exact⟨c,m,G,λe F t=>(key _ (Nat.lt_trans (al e F t) C)).2 (D e F t)⟩
 intro f;induction f with
 |zero=>
  intro p b s g w a v L k I q N hr h;have:p=[]:=A7 v;subst this;rw[A1];refine hQ b s g w a I (λi hi=>?_) q hr h;have D:i<b.size:=by omega
  have u:¬(i<l.length∧b.getD i true=false):=λhh=>absurd ((k i).2 hh) (by simp)
  simp[A9,D] at u ⊢;cases hh:b[i] with
  |true=>rfl
  |false=>exact absurd hh (by simpa using u hi)
 |succ f ih=>
  intro p b s g w a v L k I q N hr h;rw[show f+1+n=(f+n)+1 by omega];simp only[wpAny];refine⟨?_,?_⟩
  ·intro c1;exfalso;cases p with
   |nil=>simp at v
   |cons j p=>
    have M:=((k j).1 (AU ..)).1;obtain⟨m,x,G,hx,X,F,hp,hi⟩:=hj j M;have:j∈CY .any d b:=by
     refine(J _ b k I j m M G).2 ⟨AU ..,λe a0 t=>?_⟩;have C:=F e a0 t;refine⟨by omega,?_⟩;intro E;rcases AQ.1 E with c|c;·omega
     ·have:=(CV.1 L).1 _ c;omega
    rw[c1] at this;simp at this
  ·intro j a2;obtain⟨hu,o,O,_⟩:=mem_ready.1 a2;have M:j<l.length:=by
    rcases AI j l.length with c|c;·exact c
    ·exfalso;have dp:j<d.size:=(AP.1 O).1;have bY:=Al.1 b6 j (Bm.2 dp);have dw:¬j<l.length:=by omega
     simp only[dw,decide_false,BO] at bY;obtain⟨m,G,_,b0⟩:=aaG bY;rw[G] at O;cases O;cases p with
     |nil=>simp at v
     |cons i0 p=>
      obtain⟨q1,q2⟩:=(k i0).1 (AU ..);obtain⟨_,o2,br,b1⟩:=mem_ready.1 a2;rw[G] at br;cases br;rcases AI l.length j with b5|b5
      ·obtain⟨e,F,t,ar⟩:=b0 (j-1) (by omega) (by omega);have u:=b1 e F t;rw[ar] at u;have q3:=q (j-1) (by omega) (by omega);have h4:j-1<b.size:=by omega
       simp[A9,h4] at q3 u;rw[q3] at u;cases u
      ·obtain⟨e,F,t,ar⟩:=b0 i0 (by omega) (by omega);have u:=b1 e F t;rw[ar] at u;have h4:i0<b.size:=by omega
       simp[A9,h4] at q2 u;rw[q2] at u;cases u
   obtain⟨c4,a3⟩:=(J p b k I j o M O).1 a2;obtain⟨m,x,G,hx,X,F,hp,hi⟩:=hj j M;rw[G] at O;cases O;have bn:∀i∈H.getD j [],i ∉ p:=by
    intro i Z;obtain⟨e,a0,t,an⟩:=hp i Z;obtain⟨d1,d2⟩:=a3 e a0 t;rcases an with rfl|an;·exact d2
    ·exact N _ d1 d2 i an
   obtain⟨A,B,rfl⟩:=List.append_of_mem c4;have hA:∀i∈A,i<j:=by intro i Y;exact(CH.1 L).2.2 i Y j (AU ..)
   have hB:∀i∈B,j<i:=by intro i cc;exact(CV.1 (CH.1 L).2.1).1 i cc
   rw[CD,CU hx] at hr;obtain⟨s',hg,a5⟩:=apG hP _ s (by
    intro y hy;obtain⟨i,Y,d3⟩:=List.mem_filterMap.1 hy;rcases hi i (hA i Y) with c|⟨y',c,D⟩
    ·exact absurd (AX _ Y) (bn i c)
    ·rw[d3] at c;cases c;exact D) hr
   rw[<-CD] at a5;refine ae1 c2 cy G X hg h ?_;intro g' w' a' bx;have E:∀i,i∈A++B↔i∈A++j::B∧i≠j:=by
    intro i;simp only[Aw,AQ];constructor
    ·rintro(c|c);·exact⟨.inl c,by have:=hA i c;omega⟩
     ·exact⟨.inr (.inr c),by have:=hB i c;omega⟩
    ·rintro⟨c|c|c,D⟩;·exact .inl c
     ·exact absurd c D
     ·exact .inr c
   refine ih (A++B) (b.setIfInBounds j true) s' g' w' a' ?_ ?_ ?_ (by simp[I]) ?_ ?_ a5 bx;·simp only[AD,Av] at v ⊢;omega
   ·exact L.sublist (DK (List.sublist_cons_self ..) _)
   ·intro i;rw[E,k];by_cases a1:i=j
    ·subst a1;have dk:i<b.size:=by omega
     simp[A9,dk]
    ·rw[getD_set_ne true (λe=>a1 e.symm)];simp[a1]
   ·intro i c D;rw[getD_set_ne true (by omega)];exact q i c D
   ·intro j' b4 bs i Z cs;obtain⟨c,D⟩:=(E i).1 cs;by_cases a9:j'=j;·subst a9;exact bn i Z c
    ·exact N j' b4 (λS=>bs ((E j').2 ⟨S,a9⟩)) i Z c
end
def yw(P:Program)(b:Array Oper)(l c:List GOp)(o:WOp)(more:List GOp):Bool:=
 rL P b l.length c&&((match b[l.length+c.length]? with|some m=>ai8 P o m|none=>false)&&(rL P b (l.length+c.length+1) more&&(b.size==l.length+c.length+1+more.length)))
def ca(P:Program)(imp:List Nat)(base:Nat):IR->Code->Bool
 | .skip,c=>ba P imp base .skip c
 | .reg l f,c=>nH l&&ba P imp 0 (.reg l f) c
 | .wk l f e o more,.region _ b false=>(nH l&&(nH e&&nH more))&&(yw P b l e o more&&rL P b 0 l)
 | .wk l f e o more,.region _ b true=>(nH l&&(nH e&&nH more))&&(yw P b l e o more&&acN P imp b l f)
 | .seq x y,.seq c d=>ca P imp base x c&&ca P imp base y d
 | .cond v x y,.cond u c d=>aJ v u&&(ca P imp base x c&&ca P imp base y d)
 | .block i x,.block j c=>i==j&&ca P imp base x c
 | .loop _ q x,.loop c=>BV base q&&ca P imp base x c
 | .cut _ q x,c=>BV base q&&ca P imp base x c
 | .gh _ x,c=>ca P imp base x c
 | .ope _ x,c=>ca P imp base x c
 | .ghp _ x,c=>ca P imp base x c
 | .exit i,.exit j=>i==j
 | .ret,.ret=>true
 |_,_=>false
section
variable{w:World}{g:Gh}{s s':St}{a:Act}{P:Program}{Γ:av}{W:Nat->List V->Option (Bool×V)}{imp:List Nat}
def aja{R:Type}(g₀:Gh)(hp₀:List ai)(w₀:World)(K:Ex->St->Option R)(r:R)(e:Exit)(a:Act)(w:World):Prop:=
 ∃x s g,jL x e∧K x s=some r∧sW g₀ hp₀ w₀ g s w a
theorem aop(a m k:Nat):Bf a (m+1+k)=Bf a m++(a+m)::Bf (a+m+1) k:=by
 have b:Bf a (m+1+k)=Bf a m++Bf (a+m) (1+k):=by rw[show m+1+k=m+(1+k) by omega,<-Dw];simp
 rw[b,show 1+k=k+1 by omega,Ck]
theorem ajb(Z:Zed)(u:aay=[])(k:cY P Γ)(S:akl P W){g₀:Gh}{hp₀:List ai}{w₀:World}(f:g₀.β=nk P){R:Type}{K:Ex->St->Option R}{r:R}{q:Array Oper}{l b more:List GOp}{o:WOp}(C:yw P q l b o more=true)(t:nH b=true)(A:nH more=true)
  {s:St} {g:Gh} {w:World} {a:Act} (D:cq (gH W Γ) b (λs=>match o.step (gH W Γ) s with|some (c,s')=>chk c (cq (gH W Γ) more (K .normal) s')|none=>none) s=some r) (h:sW g₀ hp₀ w₀ g s w a):
  wpOps P q (aja g₀ hp₀ w₀ K r) (Bf l.length (b.length+1+more.length)) a w:=by
 simp only[yw,Ac] at C;obtain⟨M,i,O,h4⟩:=C;rw[nI b t] at D;rw[aop];refine wJ k (h.base u f) (λs1 g1 w1 a1 j H=>?_) b l.length M s g w a D h.inv;split at i
 ·rename_i m hm;rw[wpOps_cons];unfold wpOp;rw[hm];simp only;have v:m.guard=none:=by
   simp only[ai8,Ac] at i;cases I:m.guard with
   |none=>rfl
   |some p=>rw[I] at i;simp at i
  rw[if_pos (by simp[BX,v])];have d:=h.on H;split at j
  ·rename_i c E B;obtain⟨rfl,j⟩:=yE j;rw[nI more A] at j;refine .inl (arj Z u S (d.fr.beta.trans f) i B d.sr ?_);intro F G t L N X;have e:sW g₀ hp₀ w₀ t E G F:=⟨L,d.fr.trans N,X.trans d.df⟩
   have:=wJ (rest:=[]) (Q:=aja g₀ hp₀ w₀ K r) k (e.base u f) (λJ A Y a3 x y=>(⟨.normal,J,A,trivial,x,e.on y⟩:aja g₀ hp₀ w₀ K r .normal a3 Y)) more _ O E t G F j e.inv;simpa using this
  ·cases j
 ·cases i
theorem iy(O:Zed)(H:aay=[])(A:cY P Γ)(L:akl P W){g₀:Gh}{hp₀:List ai}{w₀:World}(B:g₀.β=nk P)(N:dx Γ imp)(n:Nat){R:Type}{base:Nat}(p:hp₀.length<=base){r:R}:∀(ir:IR)(c:Code),ca P imp base ir c=true->∀(K:Ex->St->Option R)(s:St)(a:Act)(w:World)(g:Gh),
  run (gH W Γ) n ir K s=some r->sW g₀ hp₀ w₀ g s w a->c.wp P (aja g₀ hp₀ w₀ K r) a w
 | .bad,c,f,K,s,a,w,g,b,h=>by simp[run] at b
 | .rgs ..,c,f,K,s,a,w,g,b,h=>by cases c<;>simp[ca] at f
 | .skip,c,f,K,s,a,w,g,b,h=>by
   cases c<;>simp[ca,ba] at f;·exact wp_skip ⟨.normal,s,g,trivial,b,h⟩
   ·exact wp_label ⟨.normal,s,g,trivial,b,h⟩
 | .reg l X,c,f,K,s,a,w,g,b,h=>by
   simp only[ca,Ac] at f;have br:run Γ n (.reg l X) K s=some r:=by
    simp only[run] at b ⊢
    rwa [nI l f.1] at b
   have bs:ba P imp s.hp.length (.reg l X) c=true:=by
    have:=f.2;cases c with
    |region id Z S=>cases S<;>simpa only[ba] using this
    |_=>simp[ba] at this
   refine wp_mono (fS (df:=[]) A (h.base H B) N n (Am _) (.reg l X) c bs K s a w g br h.inv) ?_;rintro e a' w' ⟨x,s',C,F,D,E⟩;exact⟨x,s',C,F,D,h.on E⟩
 | .wk l X Q o more,c,f,K,s,a,w,g,b,h=>by
   cases c with
   |region id Z S=>
    simp only[run] at b;cases S with
    |false=>
     simp only[ca,Ac] at f;obtain⟨⟨g1,g2,g3⟩,I,M⟩:=f;rw[nI l g1] at b;have J:Z.size=l.length+(Q.length+1+more.length):=by simp only[yw,Ac,beq_iff_eq] at I;omega
     refine wp_region ?_;rw[Do,J,<-Dw];simp only[A1,Cw];refine wJ A (h.base H B) (λs1 g1 w1 a1 D E=>?_) l 0 M s g w a b h.inv;exact ajb O H A L B I g2 g3 D (h.on E)
    |true=>
     simp only[ca,Ac] at f;obtain⟨⟨g1,g2,g3⟩,I,M⟩:=f;rw[nI l g1] at b;have J:Z.size=l.length+(Q.length+1+more.length):=by simp only[yw,Ac,beq_iff_eq] at I;omega
     have ad:=M;simp only[acN,Ac] at ad;refine wp_region_any ad.1.1 ?_;rw[show Z.size=l.length+(Q.length+1+more.length) from J];refine ap8 (g₀:=g) (hp₀:=s.hp) (w₀:=w) (df:=[]) A (h.base H B) N M J (λY s1 g1 w1 a1 q1 q2 q3 D E=>?_) l.length (A8 l.length) _ s g _ a (by simp) List.pairwise_lt_range ?_ (by simp[J]) ?_ ?_ (by rw[ub];exact b) h.inv.drew;·refine ani (k0:=l.length) _ l.length Y a1 w1 J.symm ⟨Am _,?_⟩ q1 q2 q3 (ajb O H A L B I g2 g3 D (h.on E));intro j h3 h4;have:=Al.1 ad.2.2 j (Bm.2 h4);simpa [Nat.not_lt.2 h3] using this
     ·intro i;by_cases E:i<l.length
      ·have:i<l.length+(Q.length+1+more.length):=by omega
       simp[A9,E,this]
      ·simp[E]
     ·intro i h3 h4;have:i<l.length+(Q.length+1+more.length):=by omega
      simp[A9,this]
     ·intro j hj a5;exact absurd (Bm.2 hj) a5
   |_=>simp[ca] at f
 | .seq x y,c,f,K,s,a,w,g,b,h=>by
   cases c<;>simp[ca] at f;rename_i c d;refine wp_seq (wp_mono (iy O H A L B N n p x c f.1 _ s a w g b h) ?_);rintro e a' w' ⟨ex,s',C,F,D,E⟩;cases ex with
   |normal=>cases e<;>simp only[jL] at F;exact iy O H A L B N n p y d f.2 K s' a' w' C D E
   |exit i=>cases e<;>simp only[jL] at F;exact⟨.exit i,s',C,F,D,E⟩
   |ret=>cases e<;>simp only[jL] at F;exact⟨.ret,s',C,trivial,D,E⟩
 | .cond v x y,c,f,K,s,a,w,g,b,h=>by
   cases c<;>simp[ca] at f;rename_i u c d;simp only[run] at b;split at b
   ·rename_i t ht;have rr:=aI f.1 h.sr.er;rw[ht] at rr;generalize bn:a.eval u=cv at rr;cases rr;refine wp_cond bn ?_;cases t with
    |true=>rw[aw.fix_eq ht] at b;exact iy O H A L B N n p x c f.2.1 K s a w g b h
    |false=>simp only[cond_false] at b;rw[aw.fix_eq ht] at b;exact iy O H A L B N n p y d f.2.2 K s a w g b h
   ·simp at b
 | .block i x,c,f,K,s,a,w,g,b,h=>by
   cases c<;>simp[ca] at f;rename_i j c;obtain⟨rfl,f⟩:=f;refine wp_block (wp_mono (iy O H A L B N n p x c f _ s a w g b h) ?_);rintro e a' w' ⟨ex,s',C,F,D,E⟩;cases ex with
   |normal=>cases e<;>simp only[jL] at F;exact⟨.normal,s',C,trivial,D,E⟩
   |exit k=>
    cases e<;>simp only[jL] at F;subst F;simp only[Exit.inBlock];by_cases ae:k=i;·subst ae;simp only[if_true];simp only[aG,BF,cond_true] at D;exact⟨.normal,s',C,trivial,D,E⟩
    ·simp only[ae,if_false];have hb:As k i=false:=by
      cases hb:As k i with
      |true=>exact absurd (Ax hb) ae
      |false=>rfl
     simp only[aG,hb,cond_false] at D;exact⟨.exit k,s',C,rfl,D,E⟩
   |ret=>cases e<;>simp only[jL] at F;exact⟨.ret,s',C,trivial,D,E⟩
 | .loop G q x,c,f,K,s,a,w,g,b,h=>by
   cases c<;>simp[ca] at f;rename_i c;obtain⟨hq,f⟩:=f;have hq:hp₀.length<=q:=AH p hq;simp only[run] at b
   have key:∀(m:Nat)(s:St)(a:Act)(w:World)(g:Gh),bg m (λan s=>run (gH W Γ) n x (ce an G q K) s) s=some r->sW g₀ hp₀ w₀ g s w a->
     Code.rounds P c (aja g₀ hp₀ w₀ K r) m a w:=by
    intro m;induction m with
    |zero=>intro s a w g b h;simp[bg] at b
    |succ m ih=>
     intro s a w g b h;simp only[bg] at b;rw[rounds_succ];refine wp_mono (iy O H A L B N n p x c f _ s a w g b h) ?_;rintro e a' w' ⟨ex,s',C,F,D,E⟩;cases ex with
     |normal=>cases e<;>simp only[jL] at F;exact ih _ a' w' C D (E.keeps G hq)
     |exit k=>cases e<;>simp only[jL] at F;exact⟨.exit k,s',C,F,D,E⟩
     |ret=>cases e<;>simp only[jL] at F;exact⟨.ret,s',C,trivial,D,E⟩
   exact wp_loop_rounds n (key n _ a w g b (h.keeps G hq))
 | .cut G q x,c,f,K,s,a,w,g,b,h=>by simp only[ca,Ac] at f;obtain⟨hq,f⟩:=f;simp only[run] at b;exact iy O H A L B N n p x c f K _ a w g b (h.keeps G (AH p (Dd hq)))
 | .gh x y,c,f,K,s,a,w,g,b,h=>by
   simp only[ca] at f;simp only[run] at b;split at b
   ·rename_i t s' hs;cases t with
    |false=>simp[chk] at b
    |true=>obtain⟨C,I,M⟩:=mM h.sr hs;exact iy O H A L B N n p y c f K s' a w C b ⟨I,h.fr.trans M.toW,h.df⟩
   ·simp at b
 | .ope x y,c,f,K,s,a,w,g,b,h=>by
   simp only[ca] at f;simp only[run] at b;have go:∀q:eV,(match q.step s with|some (c,s')=>chk c (run (gH W Γ) n y K s')|none=>none)=some r->∃s' C,run (gH W Γ) n y K s'=some r∧SR C s' w a∧FR g s.hp w C s'.hp w:=λq b=>by
    split at b
    ·rename_i t s' hs;cases t with
     |false=>simp[chk] at b
     |true=>obtain⟨C,I,M⟩:=mM h.sr hs;exact⟨s',C,b,I,M⟩
    ·simp at b
   have bx:∃s' C,run (gH W Γ) n y K s'=some r∧SR C s' w a∧FR g s.hp w C s'.hp w:=by
    cases hb:apl s x with
    |true=>rw[hb] at b;exact go _ b
    |false=>rw[hb] at b;exact go _ b
   obtain⟨s',C,b,I,M⟩:=bx;exact iy O H A L B N n p y c f K s' a w C b ⟨I,h.fr.trans M.toW,h.df⟩
 | .ghp x y,c,f,K,s,a,w,g,b,h=>by
   simp only[ca] at f;simp only[run] at b;refine wp_mono (iy O H A L B N n p y c f _ s a w g b h) ?_;rintro e a' w' ⟨ex,s',C,F,D,E⟩;cases ex with
   |normal=>
    simp only[tV] at D;split at D
    ·rename_i t s2 hs;cases t with
     |false=>simp[chk] at D
     |true=>obtain⟨g2,I,M⟩:=mM E.sr hs;exact⟨.normal,s2,g2,F,D,⟨I,E.fr.trans M.toW,E.df⟩⟩
    ·simp at D
   |exit i=>exact⟨.exit i,s',C,F,D,E⟩
   |ret=>exact⟨.ret,s',C,F,D,E⟩
 | .exit i,c,f,K,s,a,w,g,b,h=>by cases c<;>simp[ca] at f;subst f;exact wp_exit ⟨.exit i,s,g,rfl,b,h⟩
 | .ret,c,f,K,s,a,w,g,b,h=>by cases c<;>simp[ca] at f;exact wp_ret ⟨.ret,s,g,trivial,b,h⟩
structure ah0(P:Program)(k:Nat)(f:FuncId)(call:Nat->List V->List ai->Ro):Prop where
 fnOK:∀{n:Nat}{vs:List V}{hp hp':List ai}{v:V},hp.length=k->call n vs hp=some (v,hp')->∀(w:World)(g:Gh)(cargs:Array Value),ua P g w->HR g hp w->vs.length=cargs.size->(∀x∈vs,x.bare=true)->
  (∀(i:Nat) x cv,vs[i]? =some x->cargs[i]? =some cv->VRel g.I g.ρ hp.length w x cv)->
  Calls P f cargs w λe w'=>∃cv g',e=.returned cv∧HR g' hp' w'∧FRW g hp w g' hp' w'∧VRel g'.I g'.ρ hp'.length w' v cv∧au g' w' .res v cv
abbrev anj(P:Program)(Γ:av)(imp:List Nat)(k:Nat)(f:FuncId)(fn:Func)(c:IR)(b:List RV):Prop:=ah0 P k f λn vs hp=>wt Γ n fn.ntmps b c vs hp
theorem anj.of(X:Zed)(N:aay=[]){k:Nat}{f:FuncId}{fn:Func}{D:IR}{A:List RV}(C:cY P Γ)(Q:akl P W)(S:dx Γ imp)(p:P.funcs[f]? =some fn)(q:fn.body=some (fn.body.getD .skip))
  (chk:(ca P imp k D (fn.body.getD .skip)&&iq P A fn.results.toList)=true) (m:fn.results.toList.length<=5):anj P (gH W Γ) imp k f fn D A:=⟨λ{n vs hp hp' v} u O w g E H G x h t=>by
 subst u;simp only[Ac] at chk;refine calls_of_wp p q ?_;have o:=iy X N C Q H.1 S n (Am _) D _ chk.1 (fin A) (start fn.ntmps vs hp) _ w g O ⟨ahO G x h t,(FR.refl _ _ _).toW,rfl⟩;refine wp_mono o ?_;rintro e J w' ⟨R,s',M,L,u,B⟩;have c:∀v hp',(sQ s' A).map (λv=>(v,s'.hp))=some (v,hp')->J.defers=[]∧∃cv,(results fn J.tmps).run P w'=.ok cv w'∧∃j b,Dn cv=.returned j∧HR b hp' w'∧FRW g hp w b hp' w'∧VRel b.I b.ρ hp'.length w' v j∧au b w' .res v j:=by
  intro v hp' d;have e:hp'=s'.hp:=by obtain⟨Y,_,y⟩:=An.1 d;simp only[Ap] at y;exact y.2.symm
  subst e;exact⟨B.df,ao1 (F:=λM=>FRW g hp w M s'.hp w') chk.2 m B.sr (λr=>B.fr.hand r) d⟩
 cases R with
 |normal=>cases e<;>simp only[jL] at L;exact c _ _ u
 |exit i=>simp[fin] at u
 |ret=>cases e<;>simp only[jL] at L;exact c _ _ u⟩
theorem ah0.pure{f:FuncId}{b:Nat->List V->List ai->Ro}{vs:List V}{n:Nat}{x:Ro}(h:ah0 P 0 f b)(i:b n vs []=x){v:V}{hp':List ai}(o:x=some (v,hp')):pM P f vs v:=
 ⟨hp',λw g c e m j d k=>h.fnOK rfl (i.trans o) w g c e m j d k⟩
end
def aaa(w:World):Gh:={I:=λb j=>∃n,w.cell? ⟨b,j,none⟩=some (.int .u8 n),ρ:=id,O:=λ_=>none,β:=0}
theorem ajc{w:World}{xs:List UInt8}{cv:Value}(h:VRel (td w).I id 0 w (.sl .u8 (.may false) xs) cv):VRel (aaa w).I id 0 w (.sl .u8 (.may false) xs) cv:=by
 cases h with
 |sln=>exact .sln _ _
 |sle _ _ y A=>exact .sle _ _ y A
 |sl _ _ _ b o p cap F B C D f G r q=>
  have key:∀(i:Nat)(x:UInt8)(j:Nat),xs[i]? =some x->j<(enc .u8 x).length->∃n,f i j=.int .u8 n:=by
   intro i x j k m;have e:j=0:=by simpa [enc] using m
   subst e;have:=q i x 0 _ k rfl;generalize f i 0=u at this;cases this;exact⟨_,rfl⟩
  refine .sl .u8 (.may false) xs b o p cap F B C D f (λi x j k m=>?_) r (λi x j v k d=>?_);·obtain⟨n,t⟩:=key i x j k m;exact⟨n,(r i x j k m).trans (by rw[t])⟩
  ·have E:=q i x j v k d;have e:j=0:=by
    have:=(Ad.1 d).1;simpa [enc] using this
   subst e;simp[enc] at d;subst d;exact(anf (c:=.int .u8 (CL x)) rfl E).2
theorem ap9{P:Program}{f:FuncId}{vs:List V}(q:aay=[])(h:pM P f vs (.bool true)){c:Array Value}{w:World}(t:vs.length=c.size)(o:∀x∈vs,x.bare=true)
  (p:∀(i:Nat) x cv,vs[i]? =some x->c[i]? =some cv->VRel (aaa w).I id 0 w x cv):
  Calls P f c w λe w'=>e=.returned (.bool true)∧RowKit.Below w.heap.size w w':=by
 obtain⟨hp',h⟩:=h;refine(h w {aaa w with β:=nk P} c ⟨rfl,λm=>absurd q m⟩ ⟨by simp,by simp,by simp,by simp,λb j ⟨n,k⟩=>⟨by rw[k];rfl,λ_ _=>⟨n,k⟩⟩,by simp[aaa]⟩ t o p).mono ?_;rintro e w' ⟨cv,u,rfl,_,d,r,_⟩;cases r;exact⟨rfl,d.os,d.tape,d.output,d.size,λb o=>d.block b o (by simp) rfl λj ⟨n,k⟩=>⟨_,k,rfl⟩⟩
section
variable{P:Program}
def aab:Option (List V×List V)->V->V
 |none,h=>h
 |some (p,q),h=>.tup (p++h::q)
def aqa:Option (List V×List V)->Bool
 |none=>true
 |some (p,q)=>p.all V.flat&&q.all V.flat
def ajd(P:Program)(f:FuncId)(vs:List V)(o:Option (List V×List V))(k:EK)(xs:List (Ty k)):Prop:=
 io P f vs [] (aab o (.sw k 0 xs.length)) [some [.rw k xs],none]
theorem ajd.dim{f:FuncId}{vs us:List V}{o:Option (List V×List V)}{k:EK}{xs:List (Ty k)}(h:ajd P f us o k xs)(e:vs.map V.dim=us):ajd P f vs o k xs:=io.dim h e
theorem ark{I I':Nat->Nat->Prop}{ρ ρ':Nat->Nat}{N N':Nat}{w:World}{o:Option (List V×List V)}{h k:V}{cv:Value}(f:aqa o=true)(e:VRel I ρ N w (aab o h) cv)
  (j:∀cv,VRel I ρ N w h cv->VRel I' ρ' N' w k cv) (m:∀v cv,v.flat=true->VRel I ρ N w v cv->VRel I' ρ' N' w v cv):VRel I' ρ' N' w (aab o k) cv:=by
 cases o with
 |none=>exact j cv e
 |some r=>
  obtain⟨p,q⟩:=r;simp only[aqa,Ac] at f;simp only[aab] at e ⊢;cases e with
  |tup _ vs t g=>
  refine .tup _ vs (by simpa using t) ?_;intro i c cv a b;rcases C2 i p.length with d|d|d;·rw[Ar d] at a;exact m c cv (Al.1 f.1 c (Ai a)) (g i c cv (by rw[Ar d];exact a) b)
  ·subst d;rw[Aq (Am _),CE] at a;simp only[A4,Ah] at a;subst a;exact j cv (g _ h cv (by rw[Aq (Am _),CE];rfl) b)
  ·rw[Aq (by omega),show i-p.length=(i-p.length-1)+1 by omega,AV] at a;exact m c cv (Al.1 f.2 c (Ai a)) (g i c cv (by rw[Aq (by omega),show i-p.length=(i-p.length-1)+1 by omega,AV];exact a) b)
theorem arl{g:Gh}{w:World}{a:Occ}{o:Option (List V×List V)}{k:EK}{id n:Nat}{cv:Value}:au g w a (aab o (.sw k id n)) cv:=by
 cases o with
 |none=>simp[aab,au]
 |some b=>simp[aab,au]
theorem ajd.frame{f:FuncId}{vs:List V}{o:Option (List V×List V)}{k:EK}{xs:List (Ty k)}(h:ajd P f vs o k xs)(hf:vs.all V.flat=true)(ho:aqa o=true)(hp:List ai):
  io P f vs hp (aab o (.sw k hp.length xs.length)) (hp++[some [.rw k xs],none]):=by
 intro w g X bs B a0 Y ar;let g₀:Gh:={I:=g.I,ρ:=g.ρ,O:=λ_=>none,β:=g.β}
 have h0:HR g₀ [] w:=⟨by simp,by simp,by simp,by simp,B.exI,by simp[g₀]⟩
 refine(h w g₀ X (bs.sub rfl (λh=>h) (λh=>by simp[g₀,h])) h0 a0 Y (λi x cv hx r=>(ar i x cv hx r).flat (Al.1 hf x (Ai hx)))).mono ?_;rintro e w' ⟨cv,g₁,rfl,q1,F,q3,q4⟩;have blk:∀b,b<w.heap.size->w'.heap[b]? =w.heap[b]?:=λb q=>F.block b q (by simp) rfl
 have C:∀b j,b<w.heap.size->g₁.I b j->g.I b j:=λb j q J=>F.iSame b j q (by simp) rfl J
 have bl:∀b,b<w.heap.size->g₁.O b=none:=λb q=>F.oSame b q (by simp) rfl
 have a3:w.heap.size<=g₁.ρ 0:=by
  rcases F.live 0 [.rw k xs] rfl with⟨_,h⟩|⟨_,h|h|⟨_,_,h,_⟩⟩
  ·simp at h
  ·exact h
  ·simp[g₀] at h
  ·simp at h
 let a:Gh:={I:=g₁.I,ρ:=λi=>if i=hp.length then g₁.ρ 0 else if i=hp.length+1 then g₁.ρ 1 else g.ρ i,β:=g.β,O:=λb=>if b<w.heap.size then g.O b else (match g₁.O b with
  |some .res=>some .res
  |_=>none)}
 have d:∀i,i<hp.length->a.ρ i=g.ρ i:=by intro i J;simp only[a];rw[if_neg (by omega),if_neg (by omega)]
 have p:a.ρ hp.length=g₁.ρ 0:=by simp[a]
 have D:a.ρ (hp.length+1)=g₁.ρ 1:=by simp[a]
 have up:Up g.I g.ρ hp.length w a.I a.ρ (hp++[some [V.rw k xs],none]).length w':=⟨F.up.mono,F.up.cell,d,by simp⟩
 have G:∀(id:Nat) cs,hp[id]? =some (some cs)->g.ρ id<w.heap.size:=by intro id cs hid;obtain⟨ob,L⟩:=(B.obj id cs hid).block;exact(AP.1 L).1
 have m:∀(id:Nat) cs,hp[id]? =some (some cs)->id<hp.length:=λid cs hid=>(Ad.1 hid).1
 have key:∀(id:Nat) c,(hp++[some [V.rw k xs],none])[id]? =some (some c)->(id=hp.length∧c=[V.rw k xs])∨hp[id]? =some (some c):=by
  intro id c hid;rcases AI id hp.length with S|S;·rw[Ar S] at hid;exact .inr hid
  ·rw[Aq S] at hid;match hq:id-hp.length,hid with
   |0,hid=>simp at hid;exact .inl ⟨by omega,hid.symm⟩
   |1,hid=>simp at hid
   |n+2,hid=>simp at hid
 have W:∀id j v cv,id<hp.length->au g w (.cell id j) v cv->au a w' (.cell id j) v cv:=by intro id j v cv hid ho;refine b7 ho rfl (λb j J=>⟨F.up.mono b j J,F.up.cell b j J⟩) ?_;intro b q;have H:=B.oLt b _ q;exact⟨by simp[a,H,q],blk b H,λj R=>C b j H R⟩
 refine⟨cv,a,rfl,⟨?_,?_,?_,?_,q1.exI,?_⟩,⟨rfl,F.os,F.tape,F.output,F.size,λb q _ _=>blk b q,up,λb j q _ _ J=>C b j q J,?_,?_⟩,?_,arl⟩
 ·intro id c hid;rcases key id c hid with⟨rfl,rfl⟩|hid
  ·refine(q1.obj 0 _ rfl).keep (by rw[p]) λa5 e fz a1 a2=>?_
   refine⟨a2.len,a2.plain,?_,a2.cold,a2.one,?_,?_,?_⟩;·intro k2 ys hz;obtain⟨t1,t2,t3,t4⟩:=a2.typed k2 ys hz;refine⟨t1,?_,by simp,λhk=>(t4 hk).trans F.beta⟩;rw[D];exact t2
   ·intro j c cv t r;have M:=t;simp only[cellsOf] at M;obtain⟨y,hy,M⟩:=cX _ j _ M;exact tb M (a2.rel j c cv t r)
   ·intro j c cv t r;have Z:=Ai t;simp only[cellsOf,AG] at Z;obtain⟨y,_,Z⟩:=Z;exact il (oD k y c Z) _ _ _ _
   ·intro j E n t;simp only[cellsOf] at t;obtain⟨y,_,t⟩:=cX _ j _ t;exact absurd t (sS k y _ E n)
  ·have S:=m id c hid;refine(B.obj id c hid).keep (by rw[d id S];exact blk _ (G id c hid)) λa5 e fz L u=>?_
   exact⟨u.len,u.plain,u.typedUp rfl d (by simp) rfl,u.cold,u.one,λj c cv t r=>(u.rel j c cv t r).up up,λj c cv t r=>W _ _ _ _ S (u.own j c cv t r),λj E n R=>by rw[d id S];exact u.bn j E n R⟩
 ·intro id A c c' hid Q a4;rcases key id c hid with⟨rfl,rfl⟩|L
  ·rcases key A c' Q with⟨rfl,rfl⟩|u;·exact absurd rfl a4
   ·rw[p,d A (m A c' u)];have:=G A c' u;omega
  ·rcases key A c' Q with⟨rfl,rfl⟩|u;·rw[p,d id (m id c L)];have:=G id c L;omega
   ·rw[d id (m id c L),d A (m A c' u)];exact B.apart _ _ _ _ L u a4
 ·intro id c hid j R;rcases key id c hid with⟨rfl,rfl⟩|hid;·rw[p] at R;exact q1.notI 0 _ rfl j R
  ·rw[d id (m id c hid)] at R;exact B.notI id c hid j (C _ j (G id c hid) R)
 ·intro id c hid;rcases key id c hid with⟨rfl,rfl⟩|hid
  ·rw[p];have L:=q1.notO 0 _ rfl;have u:¬g₁.ρ 0<w.heap.size:=by omega
   simp[a,L,u]
  ·rw[d id (m id c hid)];have:=G id c hid;simp[a,this,B.notO id c hid]
 ·intro b o q;simp only[a] at q;split at q;·rename_i H;exact AC H F.size
  ·split at q;·rename_i an;exact q1.oLt b _ an
   ·simp at q
 ·intro b q _ hO;simp[a,q,hO]
 ·intro id c hid;rcases key id c hid with⟨rfl,rfl⟩|hid;·exact .inr ⟨Am _,.inl (by rw[p];exact a3)⟩
  ·exact .inl ⟨c,hid⟩
 ·refine ark ho q3 ?_ ?_
  ·intro cv hr;cases hr with
   |sw _ _ _ hN t Z=>
   rw[A1] at t Z;have:=VRel.sw (I:=a.I) (ρ:=a.ρ) (N:=(hp++[some [V.rw k xs],none]).length) (w:=w') k hp.length xs.length (by simp) (by rw[D];exact t) (by rw[D];exact Z);rw[D,p] at this;exact this
  ·intro v cv hv hr;exact(hr.up (I':=a.I) (ρ':=g₁.ρ) (N':=2) ⟨λ_ _ J=>J,λ_ _ _=>rfl,λ_ _=>rfl,Am _⟩).flat hv
def ank(P:Program)(f:FuncId)(p q:List V)(k:EK)(xs:List (Ty k))(v:V)(ys:List (Ty k)):Prop:=
 ∃rest,io P f (p++.sw k 0 xs.length::q) [some [.rw k xs],none] v (some [.rw k ys]::none::rest)
theorem pL.rowTo{g m:Gh}{N N':Nat}{w:World}{id d:Nat}{k:EK}{xs:List (Ty k)}{f:Array Value}{e:TypeId}{q:Nat×Nat}(h:pL g N w id [.rw k xs] f e q)
  (t:m.I=g.I) (p:m.β=g.β) (v:m.ρ (d+1)=g.ρ (id+1)) (r:d+1<N'):pL m N' w d [.rw k xs] f e q:=by
 refine⟨h.len,h.plain,?_,h.cold,h.one,?_,?_,?_⟩;·intro x ys D;obtain⟨C,A,F,u⟩:=h.typed x ys D;exact⟨C,by rw[v];exact A,r,λB=>(u B).trans p.symm⟩
 ·intro j c cv a i;have b:=a;simp only[cellsOf] at b;obtain⟨y,G,b⟩:=cX _ j _ b;rw[t];exact tb b (h.rel j c cv a i)
 ·intro j c cv a i;have o:=Ai a;simp only[cellsOf,AG] at o;obtain⟨y,_,o⟩:=o;exact il (oD k y c o) _ _ _ _
 ·intro j E n a;simp only[cellsOf] at a;obtain⟨y,_,a⟩:=cX _ j _ a;exact absurd a (sS k y _ E n)
theorem ank.frame{f:FuncId}{p q:List V}{k:EK}{xs ys:List (Ty k)}{v:V}(h:ank P f p q k xs v ys)(bx:p.all V.flat=true)(b3:q.all V.flat=true)(hv:v.flat=true)
  {hp:List ai} {id:Nat} (hid:hp[id]? =some (some [.rw k xs])):io P f (p++.sw k id xs.length::q) hp v (hp.set id (some [.rw k ys])):=by
 obtain⟨rest,h⟩:=h;have an:id<hp.length:=(Ad.1 hid).1;intro w g J b6 y a3 L H;obtain⟨c0,e,fz,a1,a2⟩:=(y.obj id _ hid).row rfl;obtain⟨t1,t2,t3,t4⟩:=a2.typed k xs rfl;let g₀:Gh:={I:=g.I,ρ:=λi=>if i=0 then g.ρ id else g.ρ (id+1),O:=λ_=>none,β:=g.β}
 have z0:∀(i:Nat) cs,([some [V.rw k xs],none]:List ai)[i]? =some (some cs)->i=0∧cs=[.rw k xs]:=by
  intro i cs a;match i,a with
  |0,a=>simp at a;exact⟨rfl,a.symm⟩
  |1,a=>simp at a
  |n+2,a=>simp at a
 have h0:HR g₀ [some [.rw k xs],none] w:=by
  refine⟨?_,?_,?_,?_,y.exI,by simp[g₀]⟩;·intro i cs a;obtain⟨rfl,rfl⟩:=z0 i cs a;exact jg.ofRow a1 (a2.rowTo rfl rfl rfl (by simp)) rfl
  ·intro i i' cs b5 a W d;obtain⟨rfl,_⟩:=z0 i cs a;obtain⟨rfl,_⟩:=z0 i' b5 W;exact absurd rfl d
  ·intro i cs a;obtain⟨rfl,_⟩:=z0 i cs a;exact y.notI id _ hid
  ·intro i cs a;rfl
 have Y:∀(i:Nat) x cv,(p++.sw k 0 xs.length::q)[i]? =some x->J[i]? =some cv->VRel g₀.I g₀.ρ ([some [V.rw k xs],none]:List ai).length w x cv:=by
  intro i x cv C D;rcases C2 i p.length with a|a|a;·rw[Ar a] at C;exact(H i x cv (by rw[Ar a];exact C) D).flat (Al.1 bx x (Ai C))
  ·subst a;rw[Aq (Am _),CE] at C;simp only[A4,Ah] at C;subst C;have r:=H p.length (.sw k id xs.length) cv (by rw[Aq (Am _),CE];rfl) D;cases r with
   |sw _ _ _ hN hc hm=>exact VRel.sw (I:=g₀.I) (ρ:=g₀.ρ) (N:=([some [V.rw k xs],none]:List ai).length) (w:=w) k 0 xs.length (by simp) hc hm
  ·rw[Aq (by omega),show i-p.length=(i-p.length-1)+1 by omega,AV] at C;exact(H i x cv (by rw[Aq (by omega),show i-p.length=(i-p.length-1)+1 by omega,AV];exact C) D).flat (Al.1 b3 x (Ai C))
 refine(h w g₀ J (b6.sub rfl (λh=>h) (λh=>by simp[g₀,h])) h0 (by simpa using a3) (by
  intro x C;rcases Aw.1 C with C|C;·exact L x (AX _ C)
  ·rcases AQ.1 C with rfl|C;·rfl
   ·exact L x (BR _ (AT _ C))) Y).mono ?_
 rintro ex w' ⟨cv,g₁,rfl,q1,G,q3,q4⟩;have r0:g₁.ρ 0=g.ρ id:=G.up.rho 0 (by simp);have r1:g₁.ρ (0+1)=g.ρ (id+1):=G.up.rho 1 (by simp);have ad:∀b,g.ρ id≠b->∀(i:Nat) cs,([some [V.rw k xs],none]:List ai)[i]? =some (some cs)->g₀.ρ i≠b:=by intro b m i cs a;obtain⟨rfl,_⟩:=z0 i cs a;exact m
 have blk:∀b,b<w.heap.size->g.ρ id≠b->w'.heap[b]? =w.heap[b]?:=λb m d=>G.block b m (ad b d) rfl
 have E:∀b j,b<w.heap.size->g.ρ id≠b->g₁.I b j->g.I b j:=λb j m d a=>G.iSame b j m (ad b d) rfl a
 have X:∀b,b<w.heap.size->g.ρ id≠b->g₁.O b=none:=λb m d=>G.oSame b m (ad b d) rfl
 have n0:=q1.notO 0 [.rw k ys] rfl;rw[r0] at n0
 let u:Gh:={I:=g₁.I,ρ:=g.ρ,O:=λb=>match g₁.O b with
  |some .res=>some .res
  |some _=>none
  |none=>if b<w.heap.size then g.O b else none,β:=g.β}
 have up:Up g.I g.ρ hp.length w u.I u.ρ (hp.set id (some [V.rw k ys])).length w':=⟨G.up.mono,G.up.cell,λ_ _=>rfl,by simp⟩
 have Z:∀(i:Nat) c,hp[i]? =some (some c)->g.ρ i<w.heap.size:=by intro i c a;obtain⟨ob,h1⟩:=(y.obj i c a).block;exact(AP.1 h1).1
 have key:∀(i:Nat) c,(hp.set id (some [V.rw k ys]))[i]? =some (some c)->(i=id∧c=[.rw k ys])∨(i≠id∧hp[i]? =some (some c)):=by
  intro i c a;rw[AB] at a;split at a;·rename_i e';simp[an] at a;exact .inl ⟨e'.symm,a.symm⟩
  ·rename_i e';exact .inr ⟨λh=>e' h.symm,a⟩
 have t:∀(i:Nat) c,(hp.set id (some [V.rw k ys]))[i]? =some (some c)->∃B,hp[i]? =some (some B):=by
  intro i c a;rcases key i c a with⟨rfl,_⟩|⟨_,h⟩
  ·exact⟨_,hid⟩
  ·exact⟨c,h⟩
 have F:∀(i:Nat) c,i≠id->hp[i]? =some (some c)->g.ρ id≠g.ρ i:=λi c d a=>y.apart _ _ _ _ hid a d.symm
 have Q:∀b o,g.O b=some o->g.ρ id≠b:=by intro b o m e';rw[<-e',y.notO _ _ hid] at m;cases m
 have A:∀b,b<w.heap.size->u.O b=g.O b:=by
  intro b m;by_cases d:g.ρ id=b;·subst d;simp only[u,n0];rw[if_pos m]
  ·simp only[u,X b m d];rw[if_pos m]
 refine⟨cv,u,rfl,⟨?_,?_,?_,?_,q1.exI,?_⟩,⟨rfl,G.os,G.tape,G.output,G.size,?_,up,?_,?_,?_⟩,?_,?_⟩
 ·intro i c a;rcases key i c a with⟨rfl,rfl⟩|⟨d,a⟩
  ·obtain⟨a4,e',b4,b1,M⟩:=(q1.obj 0 _ rfl).row rfl;rw[r0] at b1;exact jg.ofRow b1 (M.rowTo rfl G.beta.symm r1.symm (by simpa using t3)) rfl
  ·refine(y.obj i c a).keep (blk _ (Z i c a) (F i c d a)) λa4 e' b4 b1 M=>?_
   refine⟨M.len,M.plain,M.typedUp rfl (λ_ _=>rfl) up.num rfl,M.cold,M.one,λj c cv R D=>(M.rel j c cv R D).up up,?_,M.bn⟩;intro j c' cv R D;refine b7 (M.own j c' cv R D) rfl (λb j a=>⟨up.mono b j a,up.cell b j a⟩) ?_;intro b m;have al:=y.oLt b _ m;have S:=Q b _ m;exact⟨(A b al).trans m,blk b al S,λj R=>E b j al S R⟩
 ·intro i i' c c' a W d;obtain⟨B,m1⟩:=t i c a;obtain⟨cx,m2⟩:=t i' c' W;exact y.apart _ _ _ _ m1 m2 d
 ·intro i c a j R;rcases key i c a with⟨rfl,rfl⟩|⟨d,a⟩
  ·have:=q1.notI 0 _ rfl j;rw[r0] at this;exact this R
  ·exact y.notI i c a j (E _ j (Z i c a) (F i c d a) R)
 ·intro i c a;obtain⟨B,m1⟩:=t i c a;exact(A _ (Z i B m1)).trans (y.notO i B m1)
 ·intro b o m;simp only[u] at m;split at m;·rename_i hq;exact q1.oLt b _ hq
  ·simp at m
  ·split at m;·rename_i hq;exact AC hq G.size
   ·simp at m
 ·intro b m ho hO;exact blk b m (ho id _ hid)
 ·intro b j m ho hO a;exact E b j m (ho id _ hid) a
 ·intro b m ho hO;exact(A b m).trans hO
 ·intro i c a;exact .inl (t i c a)
 ·exact q3.flat hv
 ·exact q4.reloc G.beta.symm rfl λb m=>by simp[u,m]
end
section
variable{P:Program}{Γ:av}{imp:List Nat}{n:Nat}{f:FuncId}{fn:Func}{ir:IR}{rs:List RV}{x:Ro}
theorem ank.dim{p q b a:List V}{k:EK}{xs ys:List (Ty k)}{v:V}(h:ank P f p q k xs v ys)(d:b.map V.dim=p)(c:a.map V.dim=q):ank P f b a k xs v ys:=by obtain⟨rest,h⟩:=h;refine⟨rest,h.dim ?_⟩;rw[BL,Bn,d,c];rfl
end
def V.flatM(n:Nat):V->Bool
 | .mr k=>decide (k<n)
 | .mp _ _=>true
 |v=>v.flatO
section
variable{I:Nat->Nat->Prop}{ρ ρ':Nat->Nat}{N N' n:Nat}{w:World}{P:Program}
theorem VRel.flatM{v:V}{cv:Value}(h:VRel I ρ N w v cv)(a:v.flatM n=true)(c:∀k,k<n->ρ' k=ρ k)(e:n<=N'):VRel I ρ' N' w v cv:=by
 by_cases b:∃k,v=.mr k
 ·obtain⟨k,rfl⟩:=b;have d:k<n:=by simpa [V.flatM] using a
  cases h with
  |mr _ _=>rw[<-c k d];exact .mr k (by omega)
 ·refine h.flatO ?_;cases v<;>first|exact a|exact absurd ⟨_,rfl⟩ b|(cases h;done)
theorem alC{cs:List V}(h:cs.all (V.flatM n)=true):dm cs=false:=by
 unfold dm;split;·simp[V.flatM,V.flatO,V.flat1] at h
 ·simp[V.flatM,V.flatO,V.flat1] at h
 ·simp[V.flatM,V.flatO,V.flat1] at h
 ·rfl
end
def V.ren1(σ:Nat->Nat):V->V
 | .ptr i o=>.ptr (σ i) o
 | .mr i=>.mr (σ i)
 |v=>v
def V.renS(σ:Nat->Nat):V->V
 | .fn f cs=>.fn f (cs.map (V.ren1 σ))
 |v=>v.ren1 σ
def V.flatS1(m n:Nat):V->Bool
 | .ptr i 0=>decide (i<n)
 | .mr i=>decide (i<n)
 | .ea [.ptr i _]=>decide (i<m)
 |v=>v.flat
def V.flatS(m n:Nat):V->Bool
 | .fn _ cs=>cs.all (V.flatS1 m n)
 |v=>v.flatS1 m n
section
variable{I:Nat->Nat->Prop}{ρ:Nat->Nat}{N m n:Nat}{w:World}{P:Program}{σ:Nat->Nat}
theorem V.ren1_flat{v:V}(h:v.flat=true):v.ren1 σ=v:=by cases v<;>simp[V.flat,V.flat2,V.flatE,V.flat1] at h<;>rfl
theorem V.renS_bare{v:V}:(v.renS σ).bare=v.bare:=by cases v<;>rfl
theorem anl(B:m<=n)(p:∀k,k<m->σ k=k){x:V}{cv:Value}(a:x.flatS1 m n=true)(h:VRel I ρ N w (x.ren1 σ) cv):VRel I (λk=>ρ (σ k)) n w x cv:=by
 unfold V.flatS1 at a;split at a
 ·rename_i i;simp only[V.ren1] at h;cases h with
  |ptr _ _ _=>exact .ptr i 0 (by simpa using a)
 ·rename_i i;simp only[V.ren1] at h;cases h with
  |mr _ _=>exact .mr i (by simpa using a)
 ·rename_i i o;have v:i<m:=by simpa using a
  simp only[V.ren1] at h;cases h with
  |ea _ b g f t r y A=>
   refine .ea _ b g f t r y (λj c q=>?_);cases j with
   |zero=>
    have d:V.ptr i o=c:=by simpa using q
    subst d;have:=A 0 _ rfl;generalize f 0=u at this;cases this with
    |ptr _ _ _=>
     have e:ρ i=ρ (σ i):=by rw[p i v]
     rw[e];exact .ptr (ρ:=λk=>ρ (σ k)) i o (by omega)
   |succ j=>simp at q
 ·rw[V.ren1_flat a] at h;exact h.flat a
theorem asi(g:m<=n)(a:∀k,k<m->σ k=k){x:V}{cv:Value}(d:x.flatS m n=true)(h:VRel I ρ N w (x.renS σ) cv):VRel I (λk=>ρ (σ k)) n w x cv:=by
 cases x with
 |fn f cs=>
  simp only[V.flatS,Al] at d;simp only[V.renS] at h;cases h with
  |fn _ _ vs j o=>refine .fn f cs vs (by simpa using j) (λi c cv e b=>?_);exact anl g a (d c (Ai e)) (o i (c.ren1 σ) cv (by rw[Ay,e];rfl) b)
 |_=>exact anl g a d h
theorem aS.frameS{m:Nat}{f:FuncId}{avs:List V}{css css':List (List V)}{v:V}(h:aS P f avs css v css')(hm:m<=css.length)(ha:avs.all (V.flatS m css.length)=true)(hv:v.flat=true)
  (hc:css.all (λcs=>cs.all (V.flatM m))=true) (d0:css'.all (λcs=>cs.all (V.flatM m))=true) {hp hp':List ai} {σ:Nat->Nat}
  (X:∀k,k<m->σ k=k) (ci:∀k k',k<css.length->k'<css.length->σ k=σ k'->k=k')
  (h1:∀(k:Nat) cs,css[k]? =some cs->hp[σ k]? =some (some cs)) (h2:hp'.length=hp.length)
  (h3:∀(k:Nat) cs,css'[k]? =some cs->hp'[σ k]? =some (some cs))
  (h4:∀id,(∀k,k<css.length->σ k≠id)->hp'[id]? =hp[id]?):io P f (avs.map (V.renS σ)) hp v hp':=by
 obtain⟨dk,rest,h⟩:=h;intro w g Y c4 u cc bl b5;have b4:∀(k:Nat) cs,css[k]? =some cs->cs.all (V.flatM m)=true:=λk cs a=>Al.1 hc cs (Ai a)
 have a0:∀(k:Nat) cs,css'[k]? =some cs->cs.all (V.flatM m)=true:=λk cs a=>Al.1 d0 cs (Ai a)
 have J:∀(k:Nat) cs,css[k]? =some cs->k<css.length:=λk cs a=>(Ad.1 a).1
 have A:∀(k:Nat) cs,(css.map some)[k]? =some (some cs)->css[k]? =some cs:=by
  intro k cs a;rw[Ay] at a;cases R:css[k]? with
  |none=>rw[R] at a;simp at a
  |some x=>rw[R] at a;simpa using a
 have sub:∀k,k<css.length->∃cs,css[k]? =some cs∧hp[σ k]? =some (some cs):=λk a=>⟨css[k],Ab a,h1 k _ (Ab a)⟩
 let inv:Nat->Option Nat:=λi=>(A8 css.length).find? λk=>σ k==i
 have L:∀i k,inv i=some k->k<css.length∧σ k=i:=by intro i k a;have m1:=DI a;have m2:=List.find?_some a;exact⟨Bm.1 m1,by simpa using m2⟩
 have an:∀k,k<css.length->inv (σ k)=some k:=by
  intro k a;cases R:inv (σ k) with
  |none=>have:=List.find?_eq_none.1 R k (Bm.2 a);simp at this
  |some k'=>obtain⟨m1,m2⟩:=L _ _ R;rw[ci k' k m1 a m2]
 let g₀:Gh:={I:=g.I,ρ:=λk=>g.ρ (σ k),O:=λb=>match g.O b with|some (.cell i j)=>(inv i).map λk=>.cell k j|_=>none,β:=g.β}
 have gO:∀b o,g₀.O b=some o->∃k j,k<css.length∧o=.cell k j∧g.O b=some (.cell (σ k) j):=by
  intro b o r;simp only[g₀] at r;split at r
  ·rename_i i j hg;cases R:inv i with
   |none=>rw[R] at r;simp at r
   |some k=>rw[R] at r;obtain⟨m1,m2⟩:=L _ _ R;exact⟨k,j,m1,by simpa using r.symm,by rw[m2];exact hg⟩
  ·simp at r
 have gN:∀b,(∀k j,k<css.length->g.O b≠some (.cell (σ k) j))->g₀.O b=none:=by
  intro b r;cases R:g₀.O b with
  |none=>rfl
  |some o=>obtain⟨k,j,a,_,p⟩:=gO b o R;exact absurd p (r k j a)
 have gC:∀b k j,k<css.length->g.O b=some (.cell (σ k) j)->g₀.O b=some (.cell k j):=by intro b k j a r;simp[g₀,r,an k a]
 have dp:∀k,k<css.length->g₀.O (g.ρ (σ k))=none:=by intro k a;obtain⟨cs,_,hid⟩:=sub k a;exact gN _ (by intro k' j _ p;rw[u.notO _ cs hid] at p;cases p)
 have h0:HR g₀ (css.map some) w:=by
  refine⟨?_,?_,?_,?_,u.exI,?_⟩
  ·intro k c a;have a:=A k c a;refine(u.obj _ c (h1 k c a)).keep rfl λei e fz a1 F=>?_
   have hr:=alC (b4 k c a);refine⟨F.len,F.plain,by rw[jU hr];simp,F.cold,F.one,?_,?_,F.bn⟩;·intro j Q cv p D;exact(F.rel j Q cv p D).flatM (Al.1 (b4 k c a) Q (Ai (by rw[eN hr] at p;exact p))) (λi t=>congrArg g.ρ (X i t)) (by simpa using hm)
   ·intro j Q cv p D;exact(F.own j Q cv p D).reloc rfl rfl λb r=>gC b k j (J k c a) r
  ·intro k k' c Q a y B;have a:=A k c a;have y:=A k' Q y;exact u.apart _ _ _ _ (h1 k c a) (h1 k' Q y) λe=>B (ci k k' (J k c a) (J k' Q y) e)
  ·intro k c a;exact u.notI _ c (h1 k c (A k c a))
  ·intro k c a;exact dp k (J k c (A k c a))
  ·intro b o r;obtain⟨k,j,_,_,p⟩:=gO b o r;exact u.oLt b _ p
 have br:∀(i:Nat) x cv,avs[i]? =some x->Y[i]? =some cv->VRel g₀.I g₀.ρ (css.map some).length w x cv:=by intro i x cv hx D;have hr:=b5 i (x.renS σ) cv (by rw[Ay,hx];rfl) D;have c3:=Al.1 ha x (Ai hx);have:=asi (m:=m) (n:=css.length) hm X c3 hr;simpa using this
 refine(h w g₀ Y (c4.sub rfl (λh=>h) (λh=>by simp[g₀,h])) h0 (by rw[<-cc,Bt]) (by intro x hx;have:=bl (x.renS σ) (CO hx);rw[V.renS_bare] at this;exact this) br).mono ?_;rintro ex w' ⟨cv,g₁,rfl,q1,W,q3,q4⟩;have r0:∀k,k<css.length->g₁.ρ k=g.ρ (σ k):=λk a=>W.up.rho k (by simpa using a)
 have Z:∀b,(∀k,k<css.length->g.ρ (σ k)≠b)->∀(k:Nat) cs,(css.map some)[k]? =some (some cs)->g₀.ρ k≠b:=λb r k cs a=>r k (J k cs (A k cs a))
 have blk:∀b,b<w.heap.size->(∀k,k<css.length->g.ρ (σ k)≠b)->g₀.O b=none->w'.heap[b]? =w.heap[b]?:=λb r B S=>W.block b r (Z b B) S
 let C:Gh:={I:=g₁.I,ρ:=g.ρ,O:=λb=>match g₁.O b with
  |some .res=>some .res
  |some (.cell k j)=>cond (B0 k css.length) (some (.cell (σ k) j)) none
  |some (.slot _)=>none
  |none=>if b<w.heap.size∧g₀.O b=none then g.O b else none,β:=g.β}
 have b6:m<=hp'.length:=by
  rcases AI hp'.length m with hl|hl;·obtain⟨cs,_,d1⟩:=sub (m-1) (by omega);have:=(Ad.1 d1).1;rw[X _ (by omega)] at this;omega
  ·exact hl
 have up:Up g.I g.ρ hp.length w C.I C.ρ hp'.length w':=⟨W.up.mono,W.up.cell,λ_ _=>rfl,by rw[h2];exact Am _⟩
 have a3:∀(i:Nat) c,hp[i]? =some (some c)->g.ρ i<w.heap.size:=by intro i c t;obtain⟨ob,h1⟩:=(u.obj i c t).block;exact(AP.1 h1).1
 have a5:∀(k:Nat) cs,css'[k]? =some cs->(css'.map some++rest)[k]? =some (some cs):=by intro k cs a;rw[Ar (by simpa using (Ad.1 a).1),Ay,a];rfl
 have key:∀(i:Nat) c,hp'[i]? =some (some c)->(∃k d,k<css.length∧i=σ k∧css'[k]? =some c∧hp[i]? =some (some d))∨((∀k,k<css.length->σ k≠i)∧hp[i]? =some (some c)):=by
  intro i c t;by_cases a:∃k,k<css.length∧σ k=i
  ·obtain⟨k,a,rfl⟩:=a;obtain⟨d,_,q⟩:=sub k a;have y:k<css'.length:=by omega
   have:=h3 k _ (Ab y);rw[this] at t;exact .inl ⟨k,d,a,rfl,by rw[Ab y];simpa using t,q⟩
  ·have hn:∀k,k<css.length->σ k≠i:=λk y e=>a ⟨k,y,e⟩
   exact .inr ⟨hn,(h4 i hn).symm.trans t⟩
 have H:∀(i:Nat) c,hp'[i]? =some (some c)->∃d,hp[i]? =some (some d):=by
  intro i c t;rcases key i c t with⟨_,d,_,_,_,h⟩|⟨_,h⟩
  ·exact⟨d,h⟩
  ·exact⟨c,h⟩
 have G:∀(i:Nat) c,(∀k,k<css.length->σ k≠i)->hp[i]? =some (some c)->∀k,k<css.length->g.ρ (σ k)≠g.ρ i:=by intro i c hn t k a;obtain⟨d,_,q⟩:=sub k a;exact u.apart _ _ _ _ q t (hn k a)
 have M:∀b,b<w.heap.size->(∀k,k<css.length->g.ρ (σ k)≠b)->g₀.O b=none->C.O b=g.O b:=by intro b r B S;have:=W.oSame b r (Z b B) S;simp only[C,this];rw[if_pos ⟨r,S⟩]
 have al:∀b o,g.O b=some o->∀k,k<css.length->g.ρ (σ k)≠b:=by intro b o r k a e;obtain⟨d,_,q⟩:=sub k a;rw[<-e,u.notO _ d q] at r;cases r
 refine⟨cv,C,rfl,⟨?_,?_,?_,?_,q1.exI,?_⟩,⟨rfl,W.os,W.tape,W.output,W.size,?_,up,?_,?_,?_⟩,?_,?_⟩
 ·intro i c t;rcases key i c t with⟨k,d,a,rfl,y,hid⟩|⟨B,t⟩
  ·refine(q1.obj k c (a5 k c y)).keep (by rw[r0 k a]) λcx e' fz a1 F=>?_
   rw[r0 k a] at a1;have hr:=alC (a0 k c y);refine⟨F.len,F.plain,by rw[jU hr];simp,F.cold,F.one,?_,?_,?_⟩;·intro j Q cv p D;exact(F.rel j Q cv p D).flatM (Al.1 (a0 k c y) Q (Ai (by rw[eN hr] at p;exact p))) (λi t=>by rw[r0 i (AC t hm),X i t]) b6
   ·intro j Q cv p D;refine(F.own j Q cv p D).reloc W.beta.symm rfl λb r=>?_
    have c2:B0 k css.length=true:=by rw[Cd];exact a
    simp[C,r,c2]
   ·intro j E n p;have:=F.bn j E n p;rw[r0 k a] at this;exact this
  ·have ad:g₀.O (g.ρ i)=none:=gN _ (by intro k j _ p;rw[u.notO i c t] at p;cases p);refine(u.obj i c t).keep (blk _ (a3 i c t) (G i c B t) ad) λcx e' fz a1 F=>?_
   refine⟨F.len,F.plain,F.typedUp rfl (λ_ _=>rfl) up.num rfl,F.cold,F.one,λj c cv p D=>(F.rel j c cv p D).up up,?_,F.bn⟩;intro j Q cv p D;refine b7 (F.own j Q cv p D) rfl (λb j t=>⟨up.mono b j t,up.cell b j t⟩) ?_;intro b r;have a4:=u.oLt b _ r;have S:g₀.O b=none:=gN _ (by intro k j' a b3;rw[r] at b3;cases b3;exact B k a rfl);have ae:=al b _ r;exact⟨(M b a4 ae S).trans r,blk b a4 ae S,λj p=>W.iSame b j a4 (Z b ae) S p⟩
 ·intro i i' c Q t c1 B;obtain⟨d,m1⟩:=H i c t;obtain⟨d4,m2⟩:=H i' Q c1;exact u.apart _ _ _ _ m1 m2 B
 ·intro i c t j p;rcases key i c t with⟨k,d,a,rfl,y,hid⟩|⟨B,t⟩
  ·have:=q1.notI k c (a5 k c y) j;rw[r0 k a] at this;exact this p
  ·have ad:g₀.O (g.ρ i)=none:=gN _ (by intro k j _ p;rw[u.notO i c t] at p;cases p);exact u.notI i c t j (W.iSame _ j (a3 i c t) (Z _ (G i c B t)) ad p)
 ·intro i c t;rcases key i c t with⟨k,d,a,rfl,y,hid⟩|⟨B,t⟩
  ·have:=q1.notO k c (a5 k c y);rw[r0 k a] at this;simp only[C,this];split;·exact u.notO _ d hid
   ·rfl
  ·have ad:g₀.O (g.ρ i)=none:=gN _ (by intro k j _ p;rw[u.notO i c t] at p;cases p);exact(M _ (a3 i c t) (G i c B t) ad).trans (u.notO i c t)
 ·intro b o r;simp only[C] at r;split at r;·rename_i R;exact q1.oLt b _ R
  ·rename_i R;exact q1.oLt b _ R
  ·simp at r
  ·split at r;·rename_i R;exact AC R.1 W.size
   ·simp at r
 ·intro b r ho S;exact blk b r (λk a e=>by obtain⟨d,_,q⟩:=sub k a;exact ho _ d q e) (gN _ (by intro k j _ p;rw[S] at p;cases p))
 ·intro b j r ho S t;exact W.iSame b j r (Z b λk a e=>by obtain⟨d,_,q⟩:=sub k a;exact ho _ d q e) (gN _ (by intro k j _ p;rw[S] at p;cases p)) t
 ·intro b r ho S;exact(M b r (λk a e=>by obtain⟨d,_,q⟩:=sub k a;exact ho _ d q e) (gN _ (by intro k j _ p;rw[S] at p;cases p))).trans S
 ·intro i c t;exact .inl (H i c t)
 ·exact q3.flat hv
 ·exact q4.reloc W.beta.symm rfl λb r=>by simp[C,r]
def anm:List Nat->Nat->Nat
 | [],_=>0
 |j::l,i=>cond (As j i) 0 (anm l i+1)
def V.un1(a:List Nat):V->V
 | .ptr i o=>.ptr (anm a i) o
 | .mr i=>.mr (anm a i)
 |v=>v
def V.unS(a:List Nat):V->V
 | .fn f cs=>.fn f (cs.map (V.un1 a))
 |v=>v.un1 a
def V.has1(a:List Nat):V->Bool
 | .ptr i _=>a.any λj=>As j i
 | .mr i=>a.any λj=>As j i
 |_=>true
def V.hasS(a:List Nat):V->Bool
 | .fn _ cs=>cs.all (V.has1 a)
 |v=>v.has1 a
def V.pmS:V->List Nat
 | .fn _ cs=>cs.flatMap V.pm1
 |v=>v.pm1
def dB(m:Nat)(vs:List V):List Nat:=A8 m++(vs.flatMap V.pmS).filter λi=>BV m i
theorem ann:∀{a:List Nat}{i:Nat},(a.any λj=>As j i)=true->a.getD (anm a i) 0=i
 | [],_,h=>by simp at h
 |j::l,i,h=>by
  unfold anm;cases b:As j i with
  |true=>simpa using Ax b
  |false=>simp only[List.any_cons,b,BO] at h;simpa using ann h
theorem akm{a:List Nat}{v:V}(h:v.has1 a=true):(v.un1 a).ren1 (λk=>a.getD k 0)=v:=by cases v<;>first|rfl|(simp only[V.un1,V.ren1];rw[ann h])
theorem as8{a:List Nat}{v:V}(h:v.hasS a=true):(v.unS a).renS (λk=>a.getD k 0)=v:=by
 cases v with
 |fn f cs=>
  simp only[V.hasS,Al] at h;simp only[V.unS,V.renS,Ch]
  congr 1
  conv=>rhs;rw[<-List.map_id cs]
  exact A0 λc b=>akm (h c b)
 |ptr i o=>exact akm (v:=.ptr i o) h
 |mr i=>exact akm (v:=.mr i) h
 |_=>rfl
def sF(m:Nat)(G:yG)(Γ:av):av:=λf vs hp=>
 cond ((dB m vs).all λi=>(tU vs).any λj=>As j i)
  (match jM hp (dB m vs) with
  |some css=>match G f (vs.map (V.unS (dB m vs))) css with
   |some (c,v,css')=>cond (ud (dB m vs)&&BV m css.length&&As css'.length css.length&&vs.all (V.hasS (dB m vs))&&(vs.map (V.unS (dB m vs))).all (V.flatS m css.length)&&v.flat&&css.all (λcs=>cs.all (V.flatM m))&&css'.all (λcs=>cs.all (V.flatM m)))
     (some (c,v,my hp (dB m vs) css')) none
   |none=>Γ f vs hp
  |none=>Γ f vs hp)
  (Γ f vs hp)
theorem arm{m k:Nat}{vs:List V}(h:k<m):(dB m vs).getD k 0=k:=by unfold dB;rw[Af,Ar (by simpa using h),Dp h];rfl
theorem asj{G:yG}{Γ:av}(H:∀f avs css v css',G f avs css=some (true,v,css')->aS P f avs css v css')(b:cY P Γ):cY P (sF m G Γ):=by
 intro f vs hp v hp' h;unfold sF at h;cases p:((dB m vs).all λi=>(tU vs).any λj=>As j i) with
 |false=>rw[p] at h;exact b _ _ _ _ _ h
 |true=>
  rw[p] at h;simp only[cond_true] at h;split at h
  ·rename_i css q;split at h
   ·rename_i c X css' D;cases a:(ud (dB m vs)&&BV m css.length&&As css'.length css.length&&vs.all (V.hasS (dB m vs))&&(vs.map (V.unS (dB m vs))).all (V.flatS m css.length)&&X.flat&&css.all (λcs=>cs.all (V.flatM m))&&css'.all (λcs=>cs.all (V.flatM m))) with
    |false=>rw[a] at h;simp at h
    |true=>
     rw[a] at h;simp only[cond_true,Ah,Ap] at h;obtain⟨rfl,rfl,rfl⟩:=h;simp only[Ac] at a;obtain⟨⟨⟨⟨⟨⟨⟨B,Q⟩,A⟩,S⟩,O⟩,M⟩,L⟩,F⟩:=a;obtain⟨E,u⟩:=aaA q;have o:=yH B;have J:css'.length=css.length:=Ax A
     have:=aS.frameS (m:=m) (H f _ css _ css' D) (Dd Q) O M L F (hp:=hp) (hp':=my hp (dB m vs) css') (σ:=λk=>(dB m vs).getD k 0) (λk d=>arm d)
      (by intro k k' d g e;rw[E] at d g;simp only[Af,Ab d,Ab g,Bd] at e;exact(List.getElem_inj o).1 e)
      u xm
      (by
       intro k cs d;have R:k<css'.length:=(Ad.1 d).1;refine ae3 o ?_ k cs (by omega) d;intro i C;obtain⟨j,t,rfl⟩:=AS.1 C;have r:j<css.length:=by omega
       have:=u j _ (Ab r);rw[Af,Ab t,Bd] at this;exact(Ad.1 this).1)
      (by
       intro id y;refine yh λY=>?_
       obtain⟨j,t,rfl⟩:=AS.1 Y;exact y j (by omega) (by rw[Af,Ab t,Bd]))
     rw[Ch] at this;have e:vs.map ((V.renS λk=>(dB m vs).getD k 0)∘V.unS (dB m vs))=vs:=by
      conv=>rhs;rw[<-List.map_id vs]
      exact A0 λx W=>as8 (Al.1 S x W)
     rwa [e] at this
   ·exact b _ _ _ _ _ h
  ·exact b _ _ _ _ _ h
theorem aqb{G:yG}{Γ:av}{imp:List Nat}(J:∀f avs css,imp.contains f=false->G f avs css=none)(t:dx Γ imp):dx (sF m G Γ) imp:=by
 refine⟨?_,?_⟩
 ·intro f vs hp y;have e:∀hp,sF m G Γ f vs hp=Γ f vs hp:=by
   intro hp;unfold sF;cases ((dB m vs).all λi=>(tU vs).any λj=>As j i) with
   |false=>rfl
   |true=>
    simp only[cond_true];split;·rw[J f _ _ y]
    ·rfl
  rw[e,e];exact t.pure f vs hp y
 ·intro f vs hp c v hp' y h;cases g:((dB m vs).all λi=>(tU vs).any λj=>As j i) with
  |false=>
   have e:∀hp,sF m G Γ f vs hp=Γ f vs hp:=by intro hp;unfold sF;rw[g];rfl
   rw[e] at h;obtain⟨q,B,E,D⟩:=t.loc f _ _ _ _ _ y h;exact⟨q,B,E,λd A r=>by rw[e];exact D d A r⟩
  |true=>
   have C:∀k∈dB m vs,k∈tU vs:=by
    intro k M;obtain⟨j,R,L⟩:=Cg.1 (Al.1 g k M)
    rwa [<-Ax L]
   have same:∀d:List ai,(∀i∈abf vs,d[i]? =hp[i]?)->jM d (dB m vs)=jM hp (dB m vs):=λd r=>yI λi H=>r i (arP (C i H))
   unfold sF at h;rw[g] at h;simp only[cond_true] at h;cases o:jM hp (dB m vs) with
   |none=>rw[o] at h;obtain⟨q,B,E,D⟩:=t.loc f _ _ _ _ _ y h;refine⟨q,B,E,λd A r=>?_⟩;simp only[sF,g,cond_true,same d r,o];exact D d A r
   |some css=>
    rw[o] at h;simp only at h;cases F:G f (vs.map (V.unS (dB m vs))) css with
    |none=>rw[F] at h;obtain⟨q,B,E,D⟩:=t.loc f _ _ _ _ _ y h;refine⟨q,B,E,λd A r=>?_⟩;simp only[sF,g,cond_true,same d r,o,F];exact D d A r
    |some x=>
     obtain⟨Q,O,css'⟩:=x;rw[F] at h;simp only at h;cases u:(ud (dB m vs)&&BV m css.length&&As css'.length css.length&&vs.all (V.hasS (dB m vs))&&(vs.map (V.unS (dB m vs))).all (V.flatS m css.length)&&O.flat&&css.all (λcs=>cs.all (V.flatM m))&&css'.all (λcs=>cs.all (V.flatM m))) with
     |false=>rw[u] at h;simp at h
     |true=>
      rw[u] at h;simp only[cond_true,Ah,Ap] at h;obtain⟨rfl,rfl,rfl⟩:=h;refine⟨(dB m vs).zip (css'.map some),?_,uf _ _ _,λd A r=>?_⟩;·intro p hp;obtain⟨a,b⟩:=p;exact C _ (List.of_mem_zip hp).1
      ·simp only[sF,g,cond_true,same d r,o,F,u];rw[uf]
def kf(m:Nat)(S:List (cd P))(N:List (sU P))(O:List (cd P))(a:List Nat)(G:List (cB P)):av:=sF m (ae6 S) (tab N O a G)
theorem akn(m:Nat)(S:List (cd P))(N:List (sU P))(O:List (cd P))(a:List Nat)(G:List (cB P)):cY P (kf m S N O a G):=asj (akf S) (am0 N O a G)
theorem afm{m:Nat}{S:List (cd P)}{N:List (sU P)}{O:List (cd P)}{a:List Nat}{G:List (cB P)}{imp:List Nat}(d:S.all (λr=>imp.contains r.id)=true)(h:ahR N O a imp=true):dx (kf m S N O a G) imp:=
 aqb (λf us css b=>ae7 S f us css (by rintro r c rfl;rw[Al.1 d r c] at b;cases b)) (ahS h)
theorem pB{m k:Nat}{f:FuncId}{fn:Func}{e:IR}{g:List RV}{imp:List Nat}{S:List (cd P)}{N:List (sU P)}{O:List (cd P)}{d:List Nat}{G:List (cB P)}(b:P.funcs[f]? =some fn)(h:ahR N O d imp=true:=by kernel_rfl)(i:S.all (λr=>imp.contains r.id)=true:=by kernel_rfl)(c:fn.body=some (fn.body.getD .skip):=by kernel_rfl)
  (chk:(ba P imp k e (fn.body.getD .skip)&&iq P g fn.results.toList)=true:=by kernel_rfl) (a:fn.results.toList.length<=5:=by decide):FnC P (kf m S N O d G) imp k f fn e g:=.of (akn m S N O d G) (afm i h) b c chk a
end
section
variable{P:Program}
theorem at5{m k:Nat}{f q:FuncId}{fn a:Func}{w j:IR}{A y:List RV}{imp:List Nat}{B:Nat}{cs:List V}{S:List (cd P)}{N:List (sU P)}{O:List (cd P)}{p:List Nat}{G:List (cB P)}(g:P.funcs[f]? =some fn)(o:P.funcs[q]? =some a)(t:∀x∈cs,x.bare=true)
  (e:∀k,(ba P [] k j (a.body.getD .skip)&&iq P y a.results.toList)=true) (chk:∀base,fK P imp base q cs w (fn.body.getD .skip)=true)
  (h:ahR N O p imp=true:=by kernel_rfl) (C:S.all (λr=>imp.contains r.id)=true:=by kernel_rfl) (i:fn.body=some (fn.body.getD .skip):=by kernel_rfl) (d:a.body=some (a.body.getD .skip):=by kernel_rfl) (u:ql P q=true:=by kernel_rfl)
  (v:iq P A fn.results.toList=true:=by kernel_rfl) (c:fn.results.toList.length<=5:=by decide) (b:a.results.toList.length<=5:=by decide):
  FnK P k f λn vs hp=>am9 (wt (tab (P:=P) [] [] [] []) B a.ntmps y j) cs (kf m S N O p G) n fn.ntmps A w vs hp:=
 fnD (FnD.of (am0 [] [] [] []) (ahS (by rfl)) o u d e b) (akn m S N O p G) (afm C h) g i chk v c t
structure aqc(P:Program) where
 id:Nat
 t:List V->Option (Bool×V)
 ok:∀vs v,t vs=some (true,v)->pM P id vs v∧vs.all V.flat=true∧v.flat=true∧(match v with| .tup _=>true|v=>v.bare)=true
def ah1:List (aqc P)->Nat->List V->Option (Bool×V)
 | [],_,_=>none
 |r::l,f,vs=>cond (As r.id f) (r.t vs) (ah1 l f vs)
theorem apb:∀(l:List (aqc P)),akl P (ah1 l)
 | [],f,vs,v,h=>by simp[ah1] at h
 |r::l,f,vs,v,h=>by
  unfold ah1 at h;cases a:As r.id f with
  |true=>rw[a] at h;have e:r.id=f:=Ax a;subst e;exact r.ok vs v h
  |false=>rw[a] at h;exact apb l f vs v h
theorem atR{m k:Nat}{f:FuncId}{fn:Func}{e:IR}{g:List RV}{imp:List Nat}{W:List (aqc P)}{S:List (cd P)}{N:List (sU P)}{O:List (cd P)}{d:List Nat}{G:List (cB P)}(b:P.funcs[f]? =some fn)(o:Zed:=by trivial)(i:aay=[]:=by rfl)
  (h:ahR N O d imp=true:=by kernel_rfl) (j:S.all (λr=>imp.contains r.id)=true:=by kernel_rfl) (c:fn.body=some (fn.body.getD .skip):=by kernel_rfl)
  (chk:(ca P imp k e (fn.body.getD .skip)&&iq P g fn.results.toList)=true:=by kernel_rfl) (a:fn.results.toList.length<=5:=by decide):anj P (gH (ah1 W) (kf m S N O d G)) imp k f fn e g:=
 .of o i (akn m S N O d G) (apb W) (afm j h) b c chk a
theorem pM.dim{f:FuncId}{vs us:List V}{v:V}(h:pM P f us v)(e:vs.map V.dim=us):pM P f vs v:=by subst e;obtain⟨hp',h⟩:=h;refine⟨hp',λw g b o m c a d=>h w g b o m (by simpa using c) (by intro x j;obtain⟨y,p,rfl⟩:=AE.1 j;exact amX (a y p)) ?_⟩;intro i x cv j k;rw[Ay,An] at j;obtain⟨y,p,rfl⟩:=j;exact(d i y cv p k).dim
theorem pM.dimR{f:FuncId}{vs:List V}{v u:V}(h:pM P f vs v)(e:v.dimR=u):pM P f vs u:=by subst e;obtain⟨hp',h⟩:=h;refine⟨hp',λw g a c p j d m=>(h w g a c p j d m).mono ?_⟩;rintro e w' ⟨cv,k,rfl,i,b,o,q⟩;exact⟨cv,k,rfl,i,b,o.dimR,q.dimR⟩
theorem ah0.fin{R:Type}{b:R->V}{p:R->Prop}{Q:V×List ai->Prop}{f:FuncId}{a:Nat->List V->List ai->Ro}{vs:List V}{N:Nat}{x:Ro}(h:ah0 P 0 f a)(c:a N vs []=x)(g:Tot x Q)(k:∀z,Q z->∃r,z.1.dimR=b r∧p r):∃r,pM P f vs (b r)∧p r:=by obtain⟨z,i,d⟩:=g;obtain⟨r,e,hp⟩:=k z d;exact⟨r,(h.pure c i).dimR e,hp⟩
end
def reJ(x:aa):aa:=.mk x.kind x.n x.s x.l x.names
def reF(x:aA):aA:=⟨x.name,x.aliases,x.typ,x.hasdef,reJ x.df⟩
instance:Inhabited tS:=⟨.mk 0 [] [] [] 0⟩
instance:Inhabited aa:=⟨.mk 0 0 [] [] []⟩
instance:Inhabited aA:=⟨⟨[],[],0,false,.mk 0 0 [] [] []⟩⟩
instance:Inhabited ab:=⟨⟨0,[],[],0,[],false,[],0,[],[]⟩⟩
theorem bo:∀x,reJ x=x
 | .mk _ _ _ _ _=>rfl
theorem atS(x:aA):reF x=x:=by simp only[reF,bo]
end Go.AM
namespace Go.Proofs.YtkinflmjagfapaaGreatDoor
open Go.AM
abbrev yS:FuncId:=46
abbrev iz:FuncId:=63
abbrev jA:FuncId:=63
abbrev wM:FuncId:=27
abbrev wN:FuncId:=77
abbrev tj:FuncId:=85
abbrev vr:FuncId:=65
abbrev wO:FuncId:=50
abbrev xL:FuncId:=60
abbrev wP:FuncId:=47
abbrev yT:FuncId:=49
abbrev vt:FuncId:=64
abbrev uv:FuncId:=66
abbrev wQ:FuncId:=30
abbrev xM:FuncId:=28
abbrev wR:FuncId:=76
abbrev xN:FuncId:=14
abbrev wS:FuncId:=29
abbrev wT:FuncId:=61
abbrev tl:FuncId:=74
abbrev ahm:FuncId:=8
abbrev afn:FuncId:=11
abbrev aje:FuncId:=12
abbrev ahn:FuncId:=20
abbrev aho:FuncId:=75
abbrev afo:FuncId:=62
abbrev aoq:FuncId:=15
abbrev adH:FuncId:=15
abbrev adI:FuncId:=15
abbrev afp:FuncId:=41
abbrev ajf:FuncId:=48
abbrev abq:FuncId:=5
abbrev kZ:FuncId:=31
abbrev kg:FuncId:=31
abbrev nJ:FuncId:=32
abbrev dX:FuncId:=72
abbrev l8:FuncId:=78
abbrev eu:FuncId:=82
abbrev nK:FuncId:=45
abbrev afq:FuncId:=59
abbrev zx:FuncId:=19
abbrev ajg:FuncId:=73
abbrev ako:FuncId:=84
abbrev akp:=aa
noncomputable def cG(a:aa)(b:Bs)(c:Int)(r:akp):Prop:=aK Tryz.prog abq [.agg (enc .jnode a),.sl .u8 (.may false) b,.int .u8 c] (.agg (enc .jnode r))∧xK a b c r
noncomputable def abr:cB Tryz.prog:=.mk 5 λus=>match us with
 | [.agg [.int .i64 d,.int .i64 a,.str c,.sl .jnode (.may _) b,.sl .str (.may _) e],.sl .u8 (.may _) g,.int .u8 f]=>let r:=pick (cG (⟨d,a,c,b,e⟩) g f);some (can (cG (⟨d,a,c,b,e⟩) g f),.agg (enc .jnode r))
 |_=>none
abbrev aor:=List ab×Int
noncomputable def rS(a:aa)(r:aor):Prop:=pM Tryz.prog ahm [.agg (enc .jnode a)] (.tup [.agg [.sl .atype (.may false) r.1],.int .i64 r.2])∧wc a r
noncomputable def aos:aqc Tryz.prog:=.mk 8 (λus=>match us with
 | [.agg [.int .i64 c,.int .i64 a,.str d,.sl .jnode (.may _) b,.sl .str (.may _) e]]=>let r:=pick (rS (⟨c,a,d,b,e⟩));some (can (rS (⟨c,a,d,b,e⟩)),.tup [.agg [.sl .atype (.may false) r.1],.int .i64 r.2])
 |_=>none) (by
 intro us v h;split at h
 ·obtain⟨f,rfl⟩:can _=true∧_=v:=by simpa using h
  exact⟨(ae5 f).1.dim rfl,rfl,rfl,rfl⟩
 ·cases h)
abbrev ano:=Bs
noncomputable def qt(a:Bs)(r:ano):Prop:=aK Tryz.prog afn [.str a] (.str r)∧um a r
noncomputable def anp:cB Tryz.prog:=.mk 11 λus=>match us with
 | [.str a]=>let r:=pick (qt a);some (can (qt a),.str r)
 |_=>none
abbrev aqd:=Bs
noncomputable def q9(a:List ab)(b:Int)(r:aqd):Prop:=aK Tryz.prog aje [.agg [.sl .atype (.may false) a],.int .i64 b] (.str r)∧xo a b r
noncomputable def ajh:cB Tryz.prog:=.mk 12 λus=>match us with
 | [.agg [.sl .atype (.may _) a],.int .i64 b]=>let r:=pick (q9 a b);some (can (q9 a b),.str r)
 |_=>none
abbrev agM:=Int×List (Bs×Int)×List ab×Int×Int
noncomputable def cR(b:List (Bs×Int))(a:List ab)(c d:Int)(f:aa)(e:Bs)(r:agM):Prop:=aS Tryz.prog xN [.ptr 1 0,.agg (enc .jnode f),.str e] [[.mp .sn b],[.ul .atype a,.mr 0,.int .i64 c,.int .i64 d]] (.int .i64 r.1) [[.mp .sn r.2.1],[.ul .atype r.2.2.1,.mr 0,.int .i64 r.2.2.2.1,.int .i64 r.2.2.2.2]]∧ix b a c d f e r
noncomputable def iW:cd Tryz.prog:=.mk 14 λus css=>match us,css with
 | [.ptr 1 0,.agg [.int .i64 h,.int .i64 d,.str f,.sl .jnode (.may _) b,.sl .str (.may _) i],.str j],[[.mp .sn c],[.ul .atype a,.mr 0,.int .i64 e,.int .i64 g]]=>let r:=pick (cR c a e g (⟨h,d,f,b,i⟩) j);some (can (cR c a e g (⟨h,d,f,b,i⟩) j),.int .i64 r.1,[[.mp .sn r.2.1],[.ul .atype r.2.2.1,.mr 0,.int .i64 r.2.2.2.1,.int .i64 r.2.2.2.2]])
 |_,_=>none
abbrev aot:=aa
noncomputable def lE(a:aa)(r:aot):Prop:=aK Tryz.prog aoq [.agg (enc .jnode a)] (.agg (enc .jnode r))∧akg a r
noncomputable def ahp:cB Tryz.prog:=.mk 15 λus=>match us with
 | [.agg [.int .i64 c,.int .i64 a,.str d,.sl .jnode (.may _) b,.sl .str (.may _) e]]=>let r:=pick (lE (⟨c,a,d,b,e⟩));some (can (lE (⟨c,a,d,b,e⟩)),.agg (enc .jnode r))
 |_=>none
abbrev alP:=aa
noncomputable def adJ(a:aa)(r:alP):Prop:=aK Tryz.prog adH [.agg (enc .jnode a)] (.agg (enc .jnode r))∧yK a r
abbrev alQ:=aa
noncomputable def adK(a:aa)(r:alQ):Prop:=aK Tryz.prog adI [.agg (enc .jnode a)] (.agg (enc .jnode r))∧yL a r
abbrev zy:=Int
noncomputable def fL(a:Bs)(b:Int)(r:zy):Prop:=aK Tryz.prog zx [.str a,.int .u8 b] (.int .i64 r)∧xn a b r
noncomputable def rt:cB Tryz.prog:=.mk 19 λus=>match us with
 | [.str a,.int .u8 b]=>let r:=pick (fL a b);some (can (fL a b),.int .i64 r)
 |_=>none
abbrev aou:=Bs
noncomputable def rT(a:Int)(r:aou):Prop:=aK Tryz.prog ahn [.int .i64 a] (.str r)∧nB a r
noncomputable def aov:cB Tryz.prog:=.mk 20 λus=>match us with
 | [.int .i64 a]=>let r:=pick (rT a);some (can (rT a),.str r)
 |_=>none
abbrev afr:=List (Bs×Int)×List ab×Int×Int
noncomputable def ap(b:List (Bs×Int))(a:List ab)(c d:Int)(f:Bool)(e:Int)(r:afr):Prop:=aS Tryz.prog wM [.ptr 1 0,.bool f,.int .i64 e] [[.mp .sn b],[.ul .atype a,.mr 0,.int .i64 c,.int .i64 d]] (.tup []) [[.mp .sn r.1],[.ul .atype r.2.1,.mr 0,.int .i64 r.2.2.1,.int .i64 r.2.2.2]]∧gF b a c d f e r
noncomputable def bK:cd Tryz.prog:=.mk 27 λus css=>match us,css with
 | [.ptr 1 0,.bool f,.int .i64 e],[[.mp .sn b],[.ul .atype a,.mr 0,.int .i64 c,.int .i64 d]]=>let r:=pick (ap b a c d f e);some (can (ap b a c d f e),.tup [],[[.mp .sn r.1],[.ul .atype r.2.1,.mr 0,.int .i64 r.2.2.1,.int .i64 r.2.2.2]])
 |_,_=>none
abbrev agN:=Int×List (Bs×Int)×List ab×Int×Int
noncomputable def iX(b:List (Bs×Int))(a:List ab)(c d:Int)(f e:Bs)(r:agN):Prop:=aS Tryz.prog xM [.ptr 1 0,.str f,.str e] [[.mp .sn b],[.ul .atype a,.mr 0,.int .i64 c,.int .i64 d]] (.int .i64 r.1) [[.mp .sn r.2.1],[.ul .atype r.2.2.1,.mr 0,.int .i64 r.2.2.2.1,.int .i64 r.2.2.2.2]]∧iw b a c d f e r
noncomputable def xO:cd Tryz.prog:=.mk 28 λus css=>match us,css with
 | [.ptr 1 0,.str f,.str e],[[.mp .sn b],[.ul .atype a,.mr 0,.int .i64 c,.int .i64 d]]=>let r:=pick (iX b a c d f e);some (can (iX b a c d f e),.int .i64 r.1,[[.mp .sn r.2.1],[.ul .atype r.2.2.1,.mr 0,.int .i64 r.2.2.2.1,.int .i64 r.2.2.2.2]])
 |_,_=>none
abbrev afs:=Int×List (Bs×Int)×List ab×Int×Int
noncomputable def kh(b:List (Bs×Int))(a:List ab)(c d:Int)(f:aa)(e:Bs)(r:afs):Prop:=aS Tryz.prog wS [.ptr 1 0,.agg (enc .jnode f),.str e] [[.mp .sn b],[.ul .atype a,.mr 0,.int .i64 c,.int .i64 d]] (.int .i64 r.1) [[.mp .sn r.2.1],[.ul .atype r.2.2.1,.mr 0,.int .i64 r.2.2.2.1,.int .i64 r.2.2.2.2]]∧nD b a c d f e r
noncomputable def afu:cd Tryz.prog:=.mk 29 λus css=>match us,css with
 | [.ptr 1 0,.agg [.int .i64 h,.int .i64 d,.str f,.sl .jnode (.may _) b,.sl .str (.may _) i],.str j],[[.mp .sn c],[.ul .atype a,.mr 0,.int .i64 e,.int .i64 g]]=>let r:=pick (kh c a e g (⟨h,d,f,b,i⟩) j);some (can (kh c a e g (⟨h,d,f,b,i⟩) j),.int .i64 r.1,[[.mp .sn r.2.1],[.ul .atype r.2.2.1,.mr 0,.int .i64 r.2.2.2.1,.int .i64 r.2.2.2.2]])
 |_,_=>none
abbrev afv:=Int×List (Bs×Int)×List ab×Int×Int
noncomputable def kj(b:List (Bs×Int))(a:List ab)(c d:Int)(f:aa)(e:Bs)(r:afv):Prop:=aS Tryz.prog wQ [.ptr 1 0,.agg (enc .jnode f),.str e] [[.mp .sn b],[.ul .atype a,.mr 0,.int .i64 c,.int .i64 d]] (.int .i64 r.1) [[.mp .sn r.2.1],[.ul .atype r.2.2.1,.mr 0,.int .i64 r.2.2.2.1,.int .i64 r.2.2.2.2]]∧kC b a c d f e r
noncomputable def afw:cd Tryz.prog:=.mk 30 λus css=>match us,css with
 | [.ptr 1 0,.agg [.int .i64 h,.int .i64 d,.str f,.sl .jnode (.may _) b,.sl .str (.may _) i],.str j],[[.mp .sn c],[.ul .atype a,.mr 0,.int .i64 e,.int .i64 g]]=>let r:=pick (kj c a e g (⟨h,d,f,b,i⟩) j);some (can (kj c a e g (⟨h,d,f,b,i⟩) j),.int .i64 r.1,[[.mp .sn r.2.1],[.ul .atype r.2.2.1,.mr 0,.int .i64 r.2.2.2.1,.int .i64 r.2.2.2.2]])
 |_,_=>none
abbrev rE:=List aa
noncomputable def cS(a:List aa)(r:rE):Prop:=aK Tryz.prog kZ [.sl .jnode (.may false) a] (.sl .jnode (.may false) r)∧eW a r
noncomputable def rF:cB Tryz.prog:=.mk 31 λus=>match us with
 | [.sl .jnode (.may _) a]=>let r:=pick (cS a);some (can (cS a),.sl .jnode (.may false) r)
 |_=>none
abbrev qu:=List aa
noncomputable def cC(a:List aa)(r:qu):Prop:=aK Tryz.prog kg [.sl .jnode (.may false) a] (.ul .jnode r)∧ep a r
noncomputable def qv:cB Tryz.prog:=.mk 31 λus=>match us with
 | [.sl .jnode (.may _) a]=>let r:=pick (cC a);some (can (cC a),.ul .jnode r)
 |_=>none
abbrev wd:=Bss
noncomputable def cW(a:Bss)(r:wd):Prop:=aK Tryz.prog nJ [.sl .str (.may false) a] (.sl .str (.may false) r)∧ia a r
noncomputable def nL:cB Tryz.prog:=.mk 32 λus=>match us with
 | [.sl .str (.may _) a]=>let r:=pick (cW a);some (can (cW a),.sl .str (.may false) r)
 |_=>none
abbrev anq:=Bss
noncomputable def gf(r:anq):Prop:=aK Tryz.prog afp [] (.sl .str (.may false) r)∧zX  r
noncomputable def yU:cB Tryz.prog:=.mk 41 λus=>match us with
 | []=>let r:=pick gf;some (can gf,.sl .str (.may false) r)
 |_=>none
abbrev wg:=Int
noncomputable def aZ(a:Bss)(b:Bs)(r:wg):Prop:=aK Tryz.prog nK [.sl .str (.may false) a,.str b] (.int .i64 r)∧hZ a b r
noncomputable def fD:cB Tryz.prog:=.mk 45 λus=>match us with
 | [.sl .str (.may _) a,.str b]=>let r:=pick (aZ a b);some (can (aZ a b),.int .i64 r)
 |_=>none
abbrev ah2:=Int×List (Bs×Int)×List ab×Int×Int
noncomputable def c6(b:List (Bs×Int))(a:List ab)(c d:Int)(e:ab)(r:ah2):Prop:=aS Tryz.prog yS [.ptr 1 0,.agg (enc .atype e)] [[.mp .sn b],[.ul .atype a,.mr 0,.int .i64 c,.int .i64 d]] (.int .i64 r.1) [[.mp .sn r.2.1],[.ul .atype r.2.2.1,.mr 0,.int .i64 r.2.2.2.1,.int .i64 r.2.2.2.2]]∧lT b a c d e r
noncomputable def oK:cd Tryz.prog:=.mk 46 λus css=>match us,css with
 | [.ptr 1 0,.agg [.int .i64 o,.str k,.sl .str (.may _) j,.int .i64 d,.sl .str (.may _) g,.bool b,.str c,.int .i64 p,.sl .afield (.may _) h,.sl (.num .i64) (.may _) f]],[[.mp .sn e],[.ul .atype a,.mr 0,.int .i64 i,.int .i64 m]]=>let r:=pick (c6 e a i m (⟨o,k,j,d,g,b,c,p,h,f⟩));some (can (c6 e a i m (⟨o,k,j,d,g,b,c,p,h,f⟩)),.int .i64 r.1,[[.mp .sn r.2.1],[.ul .atype r.2.2.1,.mr 0,.int .i64 r.2.2.2.1,.int .i64 r.2.2.2.2]])
 |_,_=>none
abbrev afx:=Int×List (Bs×Int)×List ab×Int×Int
noncomputable def gI(b:List (Bs×Int))(a:List ab)(c d:Int)(f e:Bs)(r:afx):Prop:=aS Tryz.prog wP [.ptr 1 0,.str f,.str e] [[.mp .sn b],[.ul .atype a,.mr 0,.int .i64 c,.int .i64 d]] (.int .i64 r.1) [[.mp .sn r.2.1],[.ul .atype r.2.2.1,.mr 0,.int .i64 r.2.2.2.1,.int .i64 r.2.2.2.2]]∧gG b a c d f e r
noncomputable def afy:cd Tryz.prog:=.mk 47 λus css=>match us,css with
 | [.ptr 1 0,.str f,.str e],[[.mp .sn b],[.ul .atype a,.mr 0,.int .i64 c,.int .i64 d]]=>let r:=pick (gI b a c d f e);some (can (gI b a c d f e),.int .i64 r.1,[[.mp .sn r.2.1],[.ul .atype r.2.2.1,.mr 0,.int .i64 r.2.2.2.1,.int .i64 r.2.2.2.2]])
 |_,_=>none
abbrev aqe:=aa×Bool
noncomputable def du(a:aa)(b:Bs)(r:aqe):Prop:=aK Tryz.prog ajf [.agg (enc .jnode a),.str b] (.tup [.agg (enc .jnode r.1),.bool r.2])∧pe a b r
noncomputable def lh:cB Tryz.prog:=.mk 48 λus=>match us with
 | [.agg [.int .i64 c,.int .i64 a,.str d,.sl .jnode (.may _) b,.sl .str (.may _) e],.str f]=>let r:=pick (du (⟨c,a,d,b,e⟩) f);some (can (du (⟨c,a,d,b,e⟩) f),.tup [.agg (enc .jnode r.1),.bool r.2])
 |_=>none
abbrev ah3:=Int×List (Bs×Int)×List ab×Int×Int
noncomputable def fc(b:List (Bs×Int))(a:List ab)(c d:Int)(f:aa)(e:Int)(g:Bs)(r:ah3):Prop:=aS Tryz.prog yT [.ptr 1 0,.agg (enc .jnode f),.int .i64 e,.str g] [[.mp .sn b],[.ul .atype a,.mr 0,.int .i64 c,.int .i64 d]] (.int .i64 r.1) [[.mp .sn r.2.1],[.ul .atype r.2.2.1,.mr 0,.int .i64 r.2.2.2.1,.int .i64 r.2.2.2.2]]∧vm b a c d f e g r
noncomputable def ah4:cd Tryz.prog:=.mk 49 λus css=>match us,css with
 | [.ptr 1 0,.agg [.int .i64 h,.int .i64 d,.str f,.sl .jnode (.may _) b,.sl .str (.may _) i],.int .i64 j,.str k],[[.mp .sn c],[.ul .atype a,.mr 0,.int .i64 e,.int .i64 g]]=>let r:=pick (fc c a e g (⟨h,d,f,b,i⟩) j k);some (can (fc c a e g (⟨h,d,f,b,i⟩) j k),.int .i64 r.1,[[.mp .sn r.2.1],[.ul .atype r.2.2.1,.mr 0,.int .i64 r.2.2.2.1,.int .i64 r.2.2.2.2]])
 |_,_=>none
abbrev afz:=Int×List (Bs×Int)×List ab×Int×Int
noncomputable def fg(b:List (Bs×Int))(a:List ab)(c d:Int)(g:aa)(f:Int)(h e:Bs)(r:afz):Prop:=aS Tryz.prog wO [.ptr 1 0,.agg (enc .jnode g),.int .i64 f,.str h,.str e] [[.mp .sn b],[.ul .atype a,.mr 0,.int .i64 c,.int .i64 d]] (.int .i64 r.1) [[.mp .sn r.2.1],[.ul .atype r.2.2.1,.mr 0,.int .i64 r.2.2.2.1,.int .i64 r.2.2.2.2]]∧tf b a c d g f h e r
noncomputable def afA:cd Tryz.prog:=.mk 50 λus css=>match us,css with
 | [.ptr 1 0,.agg [.int .i64 h,.int .i64 d,.str f,.sl .jnode (.may _) b,.sl .str (.may _) i],.int .i64 k,.str m,.str j],[[.mp .sn c],[.ul .atype a,.mr 0,.int .i64 e,.int .i64 g]]=>let r:=pick (fg c a e g (⟨h,d,f,b,i⟩) k m j);some (can (fg c a e g (⟨h,d,f,b,i⟩) k m j),.int .i64 r.1,[[.mp .sn r.2.1],[.ul .atype r.2.2.1,.mr 0,.int .i64 r.2.2.2.1,.int .i64 r.2.2.2.2]])
 |_,_=>none
abbrev afB:=Bool
noncomputable def gJ(a b:Bs)(r:afB):Prop:=aK Tryz.prog afq [.str a,.str b] (.bool r)∧abl a b r
noncomputable def qA:cB Tryz.prog:=.mk 59 λus=>match us with
 | [.str a,.str b]=>let r:=pick (gJ a b);some (can (gJ a b),.bool r)
 |_=>none
abbrev agO:=Bs×List (Bs×Int)×List ab×Int×Int
noncomputable def iY(b:List (Bs×Int))(a:List ab)(c d:Int)(e:aa)(r:agO):Prop:=aS Tryz.prog xL [.ptr 1 0,.agg (enc .jnode e)] [[.mp .sn b],[.ul .atype a,.mr 0,.int .i64 c,.int .i64 d]] (.str r.1) [[.mp .sn r.2.1],[.ul .atype r.2.2.1,.mr 0,.int .i64 r.2.2.2.1,.int .i64 r.2.2.2.2]]∧uo b a c d e r
noncomputable def xP:cd Tryz.prog:=.mk 60 λus css=>match us,css with
 | [.ptr 1 0,.agg [.int .i64 h,.int .i64 d,.str f,.sl .jnode (.may _) b,.sl .str (.may _) i]],[[.mp .sn c],[.ul .atype a,.mr 0,.int .i64 e,.int .i64 g]]=>let r:=pick (iY c a e g (⟨h,d,f,b,i⟩));some (can (iY c a e g (⟨h,d,f,b,i⟩)),.str r.1,[[.mp .sn r.2.1],[.ul .atype r.2.2.1,.mr 0,.int .i64 r.2.2.2.1,.int .i64 r.2.2.2.2]])
 |_,_=>none
abbrev afC:=Bs×List (Bs×Int)×List ab×Int×Int
noncomputable def fh(b:List (Bs×Int))(a:List ab)(c d:Int)(f e:Bs)(r:afC):Prop:=aS Tryz.prog wT [.ptr 1 0,.str f,.str e] [[.mp .sn b],[.ul .atype a,.mr 0,.int .i64 c,.int .i64 d]] (.str r.1) [[.mp .sn r.2.1],[.ul .atype r.2.2.1,.mr 0,.int .i64 r.2.2.2.1,.int .i64 r.2.2.2.2]]∧kA b a c d f e r
noncomputable def wU:cd Tryz.prog:=.mk 61 λus css=>match us,css with
 | [.ptr 1 0,.str f,.str e],[[.mp .sn b],[.ul .atype a,.mr 0,.int .i64 c,.int .i64 d]]=>let r:=pick (fh b a c d f e);some (can (fh b a c d f e),.str r.1,[[.mp .sn r.2.1],[.ul .atype r.2.2.1,.mr 0,.int .i64 r.2.2.2.1,.int .i64 r.2.2.2.2]])
 |_,_=>none
abbrev anr:=Bs
noncomputable def nM(a:Bs)(r:anr):Prop:=aK Tryz.prog afo [.str a] (.str r)∧zY a r
noncomputable def ans:cB Tryz.prog:=.mk 62 λus=>match us with
 | [.str a]=>let r:=pick (nM a);some (can (nM a),.str r)
 |_=>none
abbrev pC:=Bss×List (Bs×Int)×List ab×Int×Int×Bs
noncomputable def bN(b:List (Bs×Int))(a:List ab)(d e:Int)(c:Bs)(f:aa)(r:pC):Prop:=aS Tryz.prog jA [.ptr 1 0,.agg (enc .jnode f),.fn 64 [.ea [.ptr 1 0],.ptr 2 0]] [[.mp .sn b],[.ul .atype a,.mr 0,.int .i64 d,.int .i64 e],[.str c]] (.sl .str (.may false) r.1) [[.mp .sn r.2.1],[.ul .atype r.2.2.1,.mr 0,.int .i64 r.2.2.2.1,.int .i64 r.2.2.2.2.1],[.str r.2.2.2.2.2]]∧ic b a d e c f r
noncomputable def pD:cd Tryz.prog:=.mk 63 λus css=>match us,css with
 | [.ptr 1 0,.agg [.int .i64 i,.int .i64 d,.str g,.sl .jnode (.may _) b,.sl .str (.may _) j],.fn 64 [.ea [.ptr 1 0],.ptr 2 0]],[[.mp .sn c],[.ul .atype a,.mr 0,.int .i64 f,.int .i64 h],[.str e]]=>let r:=pick (bN c a f h e (⟨i,d,g,b,j⟩));some (can (bN c a f h e (⟨i,d,g,b,j⟩)),.sl .str (.may false) r.1,[[.mp .sn r.2.1],[.ul .atype r.2.2.1,.mr 0,.int .i64 r.2.2.2.1,.int .i64 r.2.2.2.2.1],[.str r.2.2.2.2.2]])
 |_,_=>none
abbrev oL:=Bss×List (Bs×Int)×List ab×Int×Int
noncomputable def cb(b:List (Bs×Int))(a:List ab)(c d:Int)(e:aa)(r:oL):Prop:=aS Tryz.prog iz [.ptr 1 0,.agg (enc .jnode e),.fn 85 [.ea [.ptr 1 0]]] [[.mp .sn b],[.ul .atype a,.mr 0,.int .i64 c,.int .i64 d]] (.sl .str (.may false) r.1) [[.mp .sn r.2.1],[.ul .atype r.2.2.1,.mr 0,.int .i64 r.2.2.2.1,.int .i64 r.2.2.2.2]]∧gB b a c d e r
noncomputable def oM:cd Tryz.prog:=.mk 63 λus css=>match us,css with
 | [.ptr 1 0,.agg [.int .i64 h,.int .i64 d,.str f,.sl .jnode (.may _) b,.sl .str (.may _) i],.fn 85 [.ea [.ptr 1 0]]],[[.mp .sn c],[.ul .atype a,.mr 0,.int .i64 e,.int .i64 g]]=>let r:=pick (cb c a e g (⟨h,d,f,b,i⟩));some (can (cb c a e g (⟨h,d,f,b,i⟩)),.sl .str (.may false) r.1,[[.mp .sn r.2.1],[.ul .atype r.2.2.1,.mr 0,.int .i64 r.2.2.2.1,.int .i64 r.2.2.2.2]])
 |_,_=>none
abbrev ad4:=Bs×List (Bs×Int)×List ab×Int×Int×Bs
noncomputable def jB(b:List (Bs×Int))(a:List ab)(d e:Int)(c f:Bs)(r:ad4):Prop:=aS Tryz.prog vt [.str f,.ea [.ptr 1 0],.ptr 2 0] [[.mp .sn b],[.ul .atype a,.mr 0,.int .i64 d,.int .i64 e],[.str c]] (.str r.1) [[.mp .sn r.2.1],[.ul .atype r.2.2.1,.mr 0,.int .i64 r.2.2.2.1,.int .i64 r.2.2.2.2.1],[.str r.2.2.2.2.2]]∧rR b a d e c f r
noncomputable def ad5:cd Tryz.prog:=.mk 64 λus css=>match us,css with
 | [.str f,.ea [.ptr 1 0],.ptr 2 0],[[.mp .sn b],[.ul .atype a,.mr 0,.int .i64 d,.int .i64 e],[.str c]]=>let r:=pick (jB b a d e c f);some (can (jB b a d e c f),.str r.1,[[.mp .sn r.2.1],[.ul .atype r.2.2.1,.mr 0,.int .i64 r.2.2.2.1,.int .i64 r.2.2.2.2.1],[.str r.2.2.2.2.2]])
 |_,_=>none
abbrev ad6:=List (Bs×Int)×List ab×Int×Int×Int×Bs×Bss×Int×Bss×Bool×Bs×Int×List aA×List Int
noncomputable def fZ(g:List (Bs×Int))(a:List ab)(m e k:Int)(f:Bs)(h:Bss)(o:Int)(b:Bss)(p:Bool)(d:Bs)(i:Int)(c:List aA)(j:List Int)(q:aa)(t:Bs)(r:ad6):Prop:=aS Tryz.prog vr [.ptr 1 0,.agg (enc .jnode q),.ptr 2 0,.str t] [[.mp .sn g],[.ul .atype a,.mr 0,.int .i64 m,.int .i64 e],[.int .i64 k,.str f,.sl .str (.may false) h,.int .i64 o,.sl .str (.may false) b,.bool p,.str d,.int .i64 i,.sl .afield .own c,.sl (.num .i64) (.may false) j]] (.tup []) [[.mp .sn r.1],[.ul .atype r.2.1,.mr 0,.int .i64 r.2.2.1,.int .i64 r.2.2.2.1],[.int .i64 r.2.2.2.2.1,.str r.2.2.2.2.2.1,.sl .str (.may false) r.2.2.2.2.2.2.1,.int .i64 r.2.2.2.2.2.2.2.1,.sl .str (.may false) r.2.2.2.2.2.2.2.2.1,.bool r.2.2.2.2.2.2.2.2.2.1,.str r.2.2.2.2.2.2.2.2.2.2.1,.int .i64 r.2.2.2.2.2.2.2.2.2.2.2.1,.sl .afield .own r.2.2.2.2.2.2.2.2.2.2.2.2.1,.sl (.num .i64) (.may false) r.2.2.2.2.2.2.2.2.2.2.2.2.2]]∧mO g a m e k f h o b p d i c j q t r
noncomputable def ad7:cd Tryz.prog:=.mk 65 λus css=>match us,css with
 | [.ptr 1 0,.agg [.int .i64 v,.int .i64 p,.str m,.sl .jnode (.may _) c,.sl .str (.may _) w],.ptr 2 0,.str x],[[.mp .sn g],[.ul .atype a,.mr 0,.int .i64 k,.int .i64 o],[.int .i64 d,.str f,.sl .str (.may false) h,.int .i64 e,.sl .str (.may false) q,.bool u,.str b,.int .i64 i,.sl .afield .own t,.sl (.num .i64) (.may false) j]]=>let r:=pick (fZ g a k o d f h e q u b i t j (⟨v,p,m,c,w⟩) x);some (can (fZ g a k o d f h e q u b i t j (⟨v,p,m,c,w⟩) x),.tup [],[[.mp .sn r.1],[.ul .atype r.2.1,.mr 0,.int .i64 r.2.2.1,.int .i64 r.2.2.2.1],[.int .i64 r.2.2.2.2.1,.str r.2.2.2.2.2.1,.sl .str (.may false) r.2.2.2.2.2.2.1,.int .i64 r.2.2.2.2.2.2.2.1,.sl .str (.may false) r.2.2.2.2.2.2.2.2.1,.bool r.2.2.2.2.2.2.2.2.2.1,.str r.2.2.2.2.2.2.2.2.2.2.1,.int .i64 r.2.2.2.2.2.2.2.2.2.2.2.1,.sl .afield .own r.2.2.2.2.2.2.2.2.2.2.2.2.1,.sl (.num .i64) (.may false) r.2.2.2.2.2.2.2.2.2.2.2.2.2]])
 |_,_=>none
abbrev acO:=List (Bs×Int)×List ab×Int×Int×Int×Bs×Bss×Int×Bss×Bool×Bs×Int×List aA×List Int
noncomputable def fE(g:List (Bs×Int))(a:List ab)(m e k:Int)(f:Bs)(h:Bss)(o:Int)(b:Bss)(p:Bool)(d:Bs)(i:Int)(c:List aA)(j:List Int)(q:aa)(r:acO):Prop:=aS Tryz.prog uv [.ptr 1 0,.agg (enc .jnode q),.ptr 2 0] [[.mp .sn g],[.ul .atype a,.mr 0,.int .i64 m,.int .i64 e],[.int .i64 k,.str f,.sl .str (.may false) h,.int .i64 o,.sl .str (.may false) b,.bool p,.str d,.int .i64 i,.sl .afield .own c,.sl (.num .i64) (.may false) j]] (.tup []) [[.mp .sn r.1],[.ul .atype r.2.1,.mr 0,.int .i64 r.2.2.1,.int .i64 r.2.2.2.1],[.int .i64 r.2.2.2.2.1,.str r.2.2.2.2.2.1,.sl .str (.may false) r.2.2.2.2.2.2.1,.int .i64 r.2.2.2.2.2.2.2.1,.sl .str (.may false) r.2.2.2.2.2.2.2.2.1,.bool r.2.2.2.2.2.2.2.2.2.1,.str r.2.2.2.2.2.2.2.2.2.2.1,.int .i64 r.2.2.2.2.2.2.2.2.2.2.2.1,.sl .afield .own r.2.2.2.2.2.2.2.2.2.2.2.2.1,.sl (.num .i64) (.may false) r.2.2.2.2.2.2.2.2.2.2.2.2.2]]∧rp g a m e k f h o b p d i c j q r
noncomputable def acP:cd Tryz.prog:=.mk 66 λus css=>match us,css with
 | [.ptr 1 0,.agg [.int .i64 v,.int .i64 p,.str m,.sl .jnode (.may _) c,.sl .str (.may _) w],.ptr 2 0],[[.mp .sn g],[.ul .atype a,.mr 0,.int .i64 k,.int .i64 o],[.int .i64 d,.str f,.sl .str (.may false) h,.int .i64 e,.sl .str (.may false) q,.bool u,.str b,.int .i64 i,.sl .afield .own t,.sl (.num .i64) (.may false) j]]=>let r:=pick (fE g a k o d f h e q u b i t j (⟨v,p,m,c,w⟩));some (can (fE g a k o d f h e q u b i t j (⟨v,p,m,c,w⟩)),.tup [],[[.mp .sn r.1],[.ul .atype r.2.1,.mr 0,.int .i64 r.2.2.1,.int .i64 r.2.2.2.1],[.int .i64 r.2.2.2.2.1,.str r.2.2.2.2.2.1,.sl .str (.may false) r.2.2.2.2.2.2.1,.int .i64 r.2.2.2.2.2.2.2.1,.sl .str (.may false) r.2.2.2.2.2.2.2.2.1,.bool r.2.2.2.2.2.2.2.2.2.1,.str r.2.2.2.2.2.2.2.2.2.2.1,.int .i64 r.2.2.2.2.2.2.2.2.2.2.2.1,.sl .afield .own r.2.2.2.2.2.2.2.2.2.2.2.2.1,.sl (.num .i64) (.may false) r.2.2.2.2.2.2.2.2.2.2.2.2.2]])
 |_,_=>none
abbrev jV:=Bool
noncomputable def aD(a:Bss)(r:jV):Prop:=aK Tryz.prog dX [.sl .str (.may false) a,.fn 74 []] (.bool r)∧dA a r
noncomputable def jW:cB Tryz.prog:=.mk 72 λus=>match us with
 | [.sl .str (.may _) a,.fn 74 []]=>let r:=pick (aD a);some (can (aD a),.bool r)
 |_=>none
abbrev aji:=Bss
noncomputable def iA(a b:Bs)(r:aji):Prop:=aK Tryz.prog ajg [.str a,.str b] (.sl .str (.may false) r)∧afa a b r
noncomputable def ajj:cB Tryz.prog:=.mk 73 λus=>match us with
 | [.str a,.str b]=>let r:=pick (iA a b);some (can (iA a b),.sl .str (.may false) r)
 |_=>none
abbrev abt:=Bool
noncomputable def gK(a:Bs)(r:abt):Prop:=aK Tryz.prog tl [.str a] (.bool r)∧qp a r
noncomputable def abu:cB Tryz.prog:=.mk 74 λus=>match us with
 | [.str a]=>let r:=pick (gK a);some (can (gK a),.bool r)
 |_=>none
abbrev aow:=Bool
noncomputable def lF(a:Bs)(r:aow):Prop:=aK Tryz.prog aho [.str a] (.bool r)∧abm a r
noncomputable def wC:cB Tryz.prog:=.mk 75 λus=>match us with
 | [.str a]=>let r:=pick (lF a);some (can (lF a),.bool r)
 |_=>none
abbrev afD:=Bss×List (Bs×Int)×List ab×Int×Int
noncomputable def fj(b:List (Bs×Int))(a:List ab)(c d:Int)(e:aa)(r:afD):Prop:=aS Tryz.prog wR [.ptr 1 0,.agg (enc .jnode e)] [[.mp .sn b],[.ul .atype a,.mr 0,.int .i64 c,.int .i64 d]] (.sl .str (.may false) r.1) [[.mp .sn r.2.1],[.ul .atype r.2.2.1,.mr 0,.int .i64 r.2.2.2.1,.int .i64 r.2.2.2.2]]∧nC b a c d e r
noncomputable def qB:cd Tryz.prog:=.mk 76 λus css=>match us,css with
 | [.ptr 1 0,.agg [.int .i64 h,.int .i64 d,.str f,.sl .jnode (.may _) b,.sl .str (.may _) i]],[[.mp .sn c],[.ul .atype a,.mr 0,.int .i64 e,.int .i64 g]]=>let r:=pick (fj c a e g (⟨h,d,f,b,i⟩));some (can (fj c a e g (⟨h,d,f,b,i⟩)),.sl .str (.may false) r.1,[[.mp .sn r.2.1],[.ul .atype r.2.2.1,.mr 0,.int .i64 r.2.2.2.1,.int .i64 r.2.2.2.2]])
 |_,_=>none
abbrev afE:=aA×List (Bs×Int)×List ab×Int×Int×List (Bs×Bool)
noncomputable def km(b:List (Bs×Int))(a:List ab)(d e:Int)(c:List (Bs×Bool))(f:aa)(g:Bs)(r:afE):Prop:=aS Tryz.prog wN [.ptr 1 0,.agg (enc .jnode f),.mr 2,.str g] [[.mp .sn b],[.ul .atype a,.mr 0,.int .i64 d,.int .i64 e],[.mp .sb c]] (.agg (enc .afield r.1)) [[.mp .sn r.2.1],[.ul .atype r.2.2.1,.mr 0,.int .i64 r.2.2.2.1,.int .i64 r.2.2.2.2.1],[.mp .sb r.2.2.2.2.2]]∧tg b a d e c f g r
noncomputable def afF:cd Tryz.prog:=.mk 77 λus css=>match us,css with
 | [.ptr 1 0,.agg [.int .i64 i,.int .i64 d,.str g,.sl .jnode (.may _) b,.sl .str (.may _) j],.mr 2,.str k],[[.mp .sn c],[.ul .atype a,.mr 0,.int .i64 f,.int .i64 h],[.mp .sb e]]=>let r:=pick (km c a f h e (⟨i,d,g,b,j⟩) k);some (can (km c a f h e (⟨i,d,g,b,j⟩) k),.agg (enc .afield r.1),[[.mp .sn r.2.1],[.ul .atype r.2.2.1,.mr 0,.int .i64 r.2.2.2.1,.int .i64 r.2.2.2.2.1],[.mp .sb r.2.2.2.2.2]])
 |_,_=>none
abbrev tO:=Bool
noncomputable def cA(a:Bss)(b:Bs)(r:tO):Prop:=aK Tryz.prog l8 [.sl .str (.may false) a,.str b] (.bool r)∧kY a b r
noncomputable def tP:cB Tryz.prog:=.mk 78 λus=>match us with
 | [.sl .str (.may _) a,.str b]=>let r:=pick (cA a b);some (can (cA a b),.bool r)
 |_=>none
abbrev kT:=Int
noncomputable def bd(a:Bss)(r:kT):Prop:=aK Tryz.prog eu [.sl .str (.may false) a,.fn 74 []] (.int .i64 r)∧dW a r
noncomputable def kU:cB Tryz.prog:=.mk 82 λus=>match us with
 | [.sl .str (.may _) a,.fn 74 []]=>let r:=pick (bd a);some (can (bd a),.int .i64 r)
 |_=>none
abbrev akq:=Bs
noncomputable def ra(a b:Bs)(r:akq):Prop:=aK Tryz.prog ako [.str a,.str b] (.str r)∧agJ a b r
noncomputable def akr:cB Tryz.prog:=.mk 84 λus=>match us with
 | [.str a,.str b]=>let r:=pick (ra a b);some (can (ra a b),.str r)
 |_=>none
abbrev abv:=Bs×List (Bs×Int)×List ab×Int×Int
noncomputable def gL(b:List (Bs×Int))(a:List ab)(c d:Int)(e:Bs)(r:abv):Prop:=aS Tryz.prog tj [.str e,.ea [.ptr 1 0]] [[.mp .sn b],[.ul .atype a,.mr 0,.int .i64 c,.int .i64 d]] (.str r.1) [[.mp .sn r.2.1],[.ul .atype r.2.2.1,.mr 0,.int .i64 r.2.2.2.1,.int .i64 r.2.2.2.2]]∧qq b a c d e r
noncomputable def abw:cd Tryz.prog:=.mk 85 λus css=>match us,css with
 | [.str e,.ea [.ptr 1 0]],[[.mp .sn b],[.ul .atype a,.mr 0,.int .i64 c,.int .i64 d]]=>let r:=pick (gL b a c d e);some (can (gL b a c d e),.str r.1,[[.mp .sn r.2.1],[.ul .atype r.2.2.1,.mr 0,.int .i64 r.2.2.2.1,.int .i64 r.2.2.2.2]])
 |_,_=>none
abbrev adL:FuncId:=8
abbrev adM:FuncId:=4
abbrev alR:=Bool
noncomputable def pf(r:alR):Prop:=aK Tryz.prog adM [] (.bool r)∧yO  r
noncomputable def alS:cB Tryz.prog:=.mk 4 λus=>match us with
 | []=>let r:=pick pf;some (can pf,.bool r)
 |_=>none
abbrev alT:=List ab×Int
noncomputable def ml(a:aa)(r:alT):Prop:=aK Tryz.prog adL [.agg (enc .jnode a)] (.tup [.agg [.sl .atype (.may false) r.1],.int .i64 r.2])∧yN a r
noncomputable def alU:cB Tryz.prog:=.mk 8 λus=>match us with
 | [.agg [.int .i64 c,.int .i64 a,.str d,.sl .jnode (.may _) b,.sl .str (.may _) e]]=>let r:=pick (ml (⟨c,a,d,b,e⟩));some (can (ml (⟨c,a,d,b,e⟩)),.tup [.agg [.sl .atype (.may false) r.1],.int .i64 r.2])
 |_=>none
abbrev vu:FuncId:=39
abbrev uw:FuncId:=33
abbrev rU:FuncId:=57
abbrev uz:FuncId:=51
abbrev tm:FuncId:=37
abbrev rv:FuncId:=58
abbrev uA:FuncId:=34
abbrev tp:FuncId:=56
abbrev uB:FuncId:=16
abbrev tq:FuncId:=35
abbrev tt:FuncId:=54
abbrev uC:FuncId:=53
abbrev qC:FuncId:=3
abbrev abx:FuncId:=9
abbrev wV:FuncId:=10
abbrev adN:FuncId:=52
abbrev aby:FuncId:=67
abbrev yV:FuncId:=55
abbrev abz:FuncId:=38
abbrev afG:FuncId:=36
abbrev adO:FuncId:=70
abbrev ahq:FuncId:=18
abbrev abA:FuncId:=80
abbrev aac:FuncId:=79
abbrev adP:FuncId:=68
abbrev abB:FuncId:=69
abbrev yW:FuncId:=17
abbrev afH:=Bool
noncomputable def wW(a b:Bs)(c:Int)(r:afH):Prop:=pM Tryz.prog qC [.sl .u8 (.may false) a,.sl .u8 (.may false) b,.int .u8 c] (.bool r)∧nG a b c r
abbrev aks:=List ab×Int
noncomputable def nN(a:aa)(r:aks):Prop:=aK Tryz.prog abx [.agg (enc .jnode a)] (.tup [.agg [.sl .atype (.may false) r.1],.int .i64 r.2])∧xJ a r
noncomputable def akt:cB Tryz.prog:=.mk 9 λus=>match us with
 | [.agg [.int .i64 c,.int .i64 a,.str d,.sl .jnode (.may _) b,.sl .str (.may _) e]]=>let r:=pick (nN (⟨c,a,d,b,e⟩));some (can (nN (⟨c,a,d,b,e⟩)),.tup [.agg [.sl .atype (.may false) r.1],.int .i64 r.2])
 |_=>none
abbrev afI:=Bool
noncomputable def kn(b a:List ab)(r:afI):Prop:=aK Tryz.prog wV [.agg [.sl .atype (.may false) b],.agg [.sl .atype (.may false) a]] (.bool r)∧ti b a r
noncomputable def afJ:cB Tryz.prog:=.mk 10 λus=>match us with
 | [.agg [.sl .atype (.may _) b],.agg [.sl .atype (.may _) a]]=>let r:=pick (kn b a);some (can (kn b a),.bool r)
 |_=>none
abbrev acQ:=Int×List ab×Int
noncomputable def bb(a:List ab)(b:Int)(d:aa)(c:Bs)(e:Int)(r:acQ):Prop:=aS Tryz.prog uB [.ptr 0 0,.agg (enc .jnode d),.str c,.int .i64 e] [[.ul .atype a,.int .i64 b]] (.int .i64 r.1) [[.ul .atype r.2.1,.int .i64 r.2.2]]∧di a b d c e r
noncomputable def li:cd Tryz.prog:=.mk 16 λus css=>match us,css with
 | [.ptr 0 0,.agg [.int .i64 f,.int .i64 e,.str d,.sl .jnode (.may _) a,.sl .str (.may _) g],.str h,.int .i64 i],[[.ul .atype b,.int .i64 c]]=>let r:=pick (bb b c (⟨f,e,d,a,g⟩) h i);some (can (bb b c (⟨f,e,d,a,g⟩) h i),.int .i64 r.1,[[.ul .atype r.2.1,.int .i64 r.2.2]])
 |_,_=>none
abbrev ah5:=Bool
noncomputable def gE(a b:Bss)(r:ah5):Prop:=aK Tryz.prog yW [.sl .str (.may false) a,.sl .str (.may false) b] (.bool r)∧vo a b r
noncomputable def ah6:cB Tryz.prog:=.mk 17 λus=>match us with
 | [.sl .str (.may _) a,.sl .str (.may _) b]=>let r:=pick (gE a b);some (can (gE a b),.bool r)
 |_=>none
abbrev aox:=Bool
noncomputable def px(a b:aa)(r:aox):Prop:=aK Tryz.prog ahq [.agg (enc .jnode a),.agg (enc .jnode b)] (.bool r)∧nF a b r
noncomputable def ahr:cB Tryz.prog:=.mk 18 λus=>match us with
 | [.agg [.int .i64 g,.int .i64 a,.str f,.sl .jnode (.may _) e,.sl .str (.may _) c],.agg [.int .i64 i,.int .i64 d,.str h,.sl .jnode (.may _) b,.sl .str (.may _) j]]=>let r:=pick (px (⟨g,a,f,e,c⟩) (⟨i,d,h,b,j⟩));some (can (px (⟨g,a,f,e,c⟩) (⟨i,d,h,b,j⟩)),.bool r)
 |_=>none
abbrev acR:=Int×List ab×Int
noncomputable def ah(a:List ab)(b c:Int)(r:acR):Prop:=aS Tryz.prog uw [.ptr 0 0,.int .i64 c] [[.ul .atype a,.int .i64 b]] (.int .i64 r.1) [[.ul .atype r.2.1,.int .i64 r.2.2]]∧jh a b c r
noncomputable def ct:cd Tryz.prog:=.mk 33 λus css=>match us,css with
 | [.ptr 0 0,.int .i64 c],[[.ul .atype a,.int .i64 b]]=>let r:=pick (ah a b c);some (can (ah a b c),.int .i64 r.1,[[.ul .atype r.2.1,.int .i64 r.2.2]])
 |_,_=>none
abbrev acS:=Int×List ab×Int
noncomputable def fF(a:List ab)(b:Int)(c d:Bs)(r:acS):Prop:=aS Tryz.prog uA [.ptr 0 0,.str c,.str d] [[.ul .atype a,.int .i64 b]] (.int .i64 r.1) [[.ul .atype r.2.1,.int .i64 r.2.2]]∧fJ a b c d r
noncomputable def acT:cd Tryz.prog:=.mk 34 λus css=>match us,css with
 | [.ptr 0 0,.str c,.str d],[[.ul .atype a,.int .i64 b]]=>let r:=pick (fF a b c d);some (can (fF a b c d),.int .i64 r.1,[[.ul .atype r.2.1,.int .i64 r.2.2]])
 |_,_=>none
abbrev abC:=Int×List ab×Int
noncomputable def gM(a:List ab)(b:Int)(d:aa)(c:Bs)(e:Int)(r:abC):Prop:=aS Tryz.prog tq [.ptr 0 0,.agg (enc .jnode d),.str c,.int .i64 e] [[.ul .atype a,.int .i64 b]] (.int .i64 r.1) [[.ul .atype r.2.1,.int .i64 r.2.2]]∧dL a b d c e r
noncomputable def abD:cd Tryz.prog:=.mk 35 λus css=>match us,css with
 | [.ptr 0 0,.agg [.int .i64 f,.int .i64 e,.str d,.sl .jnode (.may _) a,.sl .str (.may _) g],.str h,.int .i64 i],[[.ul .atype b,.int .i64 c]]=>let r:=pick (gM b c (⟨f,e,d,a,g⟩) h i);some (can (gM b c (⟨f,e,d,a,g⟩) h i),.int .i64 r.1,[[.ul .atype r.2.1,.int .i64 r.2.2]])
 |_,_=>none
abbrev ant:=aa×Bool
noncomputable def aU(a:aa)(b:Bs)(r:ant):Prop:=aK Tryz.prog afG [.agg (enc .jnode a),.str b] (.tup [.agg (enc .jnode r.1),.bool r.2])∧mB a b r
noncomputable def nO:cB Tryz.prog:=.mk 36 λus=>match us with
 | [.agg [.int .i64 c,.int .i64 a,.str d,.sl .jnode (.may _) b,.sl .str (.may _) e],.str f]=>let r:=pick (aU (⟨c,a,d,b,e⟩) f);some (can (aU (⟨c,a,d,b,e⟩) f),.tup [.agg (enc .jnode r.1),.bool r.2])
 |_=>none
abbrev abE:=Int×List ab×Int
noncomputable def dd(a:List ab)(b:Int)(e:aa)(d:Int)(f:Bs)(c:Int)(r:abE):Prop:=aS Tryz.prog tm [.ptr 0 0,.agg (enc .jnode e),.int .i64 d,.str f,.int .i64 c] [[.ul .atype a,.int .i64 b]] (.int .i64 r.1) [[.ul .atype r.2.1,.int .i64 r.2.2]]∧aT a b e d f c r
noncomputable def abF:cd Tryz.prog:=.mk 37 λus css=>match us,css with
 | [.ptr 0 0,.agg [.int .i64 f,.int .i64 e,.str d,.sl .jnode (.may _) a,.sl .str (.may _) g],.int .i64 i,.str j,.int .i64 h],[[.ul .atype b,.int .i64 c]]=>let r:=pick (dd b c (⟨f,e,d,a,g⟩) i j h);some (can (dd b c (⟨f,e,d,a,g⟩) i j h),.int .i64 r.1,[[.ul .atype r.2.1,.int .i64 r.2.2]])
 |_,_=>none
abbrev aku:=Int
noncomputable def dM(a:Bs)(r:aku):Prop:=aK Tryz.prog abz [.str a] (.int .i64 r)∧xF a r
noncomputable def abG:cB Tryz.prog:=.mk 38 λus=>match us with
 | [.str a]=>let r:=pick (dM a);some (can (dM a),.int .i64 r)
 |_=>none
abbrev ad8:=Int×List ab×Int
noncomputable def bD(a:List ab)(b:Int)(c:ab)(r:ad8):Prop:=aS Tryz.prog vu [.ptr 0 0,.agg (enc .atype c)] [[.ul .atype a,.int .i64 b]] (.int .i64 r.1) [[.ul .atype r.2.1,.int .i64 r.2.2]]∧gc a b c r
noncomputable def lV:cd Tryz.prog:=.mk 39 λus css=>match us,css with
 | [.ptr 0 0,.agg [.int .i64 k,.str j,.sl .str (.may _) i,.int .i64 c,.sl .str (.may _) f,.bool a,.str b,.int .i64 m,.sl .afield (.may _) g,.sl (.num .i64) (.may _) e]],[[.ul .atype d,.int .i64 h]]=>let r:=pick (bD d h (⟨k,j,i,c,f,a,b,m,g,e⟩));some (can (bD d h (⟨k,j,i,c,f,a,b,m,g,e⟩)),.int .i64 r.1,[[.ul .atype r.2.1,.int .i64 r.2.2]])
 |_,_=>none
abbrev acU:=Int×Bool×List ab×Int
noncomputable def bS(a:List ab)(b:Int)(c:Bs)(r:acU):Prop:=aS Tryz.prog uz [.ptr 0 0,.str c] [[.ul .atype a,.int .i64 b]] (.tup [.int .i64 r.1,.bool r.2.1]) [[.ul .atype r.2.2.1,.int .i64 r.2.2.2]]∧dh a b c r
noncomputable def uD:cd Tryz.prog:=.mk 51 λus css=>match us,css with
 | [.ptr 0 0,.str c],[[.ul .atype a,.int .i64 b]]=>let r:=pick (bS a b c);some (can (bS a b c),.tup [.int .i64 r.1,.bool r.2.1],[[.ul .atype r.2.2.1,.int .i64 r.2.2.2]])
 |_,_=>none
abbrev alV:=Bs
noncomputable def mq(a:List ab)(b:Int)(r:alV):Prop:=aK Tryz.prog adN [.agg [.sl .atype (.may false) a],.int .i64 b] (.str r)∧yP a b r
noncomputable def alW:cB Tryz.prog:=.mk 52 λus=>match us with
 | [.agg [.sl .atype (.may _) a],.int .i64 b]=>let r:=pick (mq a b);some (can (mq a b),.str r)
 |_=>none
abbrev acV:=Bs×List ab×Int
noncomputable def cu(a:List ab)(b:Int)(d:aa)(c:Bs)(e:Bool)(r:acV):Prop:=aS Tryz.prog uC [.ptr 0 0,.agg (enc .jnode d),.str c,.bool e] [[.ul .atype a,.int .i64 b]] (.str r.1) [[.ul .atype r.2.1,.int .i64 r.2.2]]∧d9 a b d c e r
noncomputable def oN:cd Tryz.prog:=.mk 53 λus css=>match us,css with
 | [.ptr 0 0,.agg [.int .i64 f,.int .i64 e,.str d,.sl .jnode (.may _) a,.sl .str (.may _) g],.str h,.bool i],[[.ul .atype b,.int .i64 c]]=>let r:=pick (cu b c (⟨f,e,d,a,g⟩) h i);some (can (cu b c (⟨f,e,d,a,g⟩) h i),.str r.1,[[.ul .atype r.2.1,.int .i64 r.2.2]])
 |_,_=>none
abbrev abH:=Bs×List ab×Int
noncomputable def cH(a:List ab)(b:Int)(c d:Bs)(r:abH):Prop:=aS Tryz.prog tt [.ptr 0 0,.str c,.str d] [[.ul .atype a,.int .i64 b]] (.str r.1) [[.ul .atype r.2.1,.int .i64 r.2.2]]∧qr a b c d r
noncomputable def abI:cd Tryz.prog:=.mk 54 λus css=>match us,css with
 | [.ptr 0 0,.str c,.str d],[[.ul .atype a,.int .i64 b]]=>let r:=pick (cH a b c d);some (can (cH a b c d),.str r.1,[[.ul .atype r.2.1,.int .i64 r.2.2]])
 |_,_=>none
abbrev ah7:=Bs
noncomputable def fm(a:Bs)(r:ah7):Prop:=aK Tryz.prog yV [.str a] (.str r)∧vn a r
noncomputable def ah8:cB Tryz.prog:=.mk 55 λus=>match us with
 | [.str a]=>let r:=pick (fm a);some (can (fm a),.str r)
 |_=>none
abbrev abJ:=Bss×Bool×List ab×Int
noncomputable def bI(a:List ab)(b:Int)(c:aa)(d:Bs)(r:abJ):Prop:=aS Tryz.prog tp [.ptr 0 0,.agg (enc .jnode c),.str d] [[.ul .atype a,.int .i64 b]] (.tup [.sl .str (.may false) r.1,.bool r.2.1]) [[.ul .atype r.2.2.1,.int .i64 r.2.2.2]]∧c5 a b c d r
noncomputable def nP:cd Tryz.prog:=.mk 56 λus css=>match us,css with
 | [.ptr 0 0,.agg [.int .i64 f,.int .i64 e,.str d,.sl .jnode (.may _) a,.sl .str (.may _) g],.str h],[[.ul .atype b,.int .i64 c]]=>let r:=pick (bI b c (⟨f,e,d,a,g⟩) h);some (can (bI b c (⟨f,e,d,a,g⟩) h),.tup [.sl .str (.may false) r.1,.bool r.2.1],[[.ul .atype r.2.2.1,.int .i64 r.2.2.2]])
 |_,_=>none
abbrev aaH:=List ab×Int
noncomputable def bB(a:List ab)(b:Int)(e:aa)(d:Int)(f:Bs)(c:Int)(r:aaH):Prop:=aS Tryz.prog rU [.ptr 0 0,.agg (enc .jnode e),.int .i64 d,.str f,.int .i64 c] [[.ul .atype a,.int .i64 b]] (.tup []) [[.ul .atype r.1,.int .i64 r.2]]∧bm a b e d f c r
noncomputable def aaI:cd Tryz.prog:=.mk 57 λus css=>match us,css with
 | [.ptr 0 0,.agg [.int .i64 f,.int .i64 e,.str d,.sl .jnode (.may _) a,.sl .str (.may _) g],.int .i64 i,.str j,.int .i64 h],[[.ul .atype b,.int .i64 c]]=>let r:=pick (bB b c (⟨f,e,d,a,g⟩) i j h);some (can (bB b c (⟨f,e,d,a,g⟩) i j h),.tup [],[[.ul .atype r.1,.int .i64 r.2]])
 |_,_=>none
abbrev zz:=List ab×Int
noncomputable def bq(a:List ab)(b:Int)(c:aa)(d:Int)(r:zz):Prop:=aS Tryz.prog rv [.ptr 0 0,.agg (enc .jnode c),.int .i64 d] [[.ul .atype a,.int .i64 b]] (.tup []) [[.ul .atype r.1,.int .i64 r.2]]∧aP a b c d r
noncomputable def zA:cd Tryz.prog:=.mk 58 λus css=>match us,css with
 | [.ptr 0 0,.agg [.int .i64 f,.int .i64 e,.str d,.sl .jnode (.may _) a,.sl .str (.may _) g],.int .i64 h],[[.ul .atype b,.int .i64 c]]=>let r:=pick (bq b c (⟨f,e,d,a,g⟩) h);some (can (bq b c (⟨f,e,d,a,g⟩) h),.tup [],[[.ul .atype r.1,.int .i64 r.2]])
 |_,_=>none
abbrev akv:=Bs
noncomputable def nQ(a:Int)(r:akv):Prop:=aK Tryz.prog aby [.int .i64 a] (.str r)∧xG a r
noncomputable def akw:cB Tryz.prog:=.mk 67 λus=>match us with
 | [.int .i64 a]=>let r:=pick (nQ a);some (can (nQ a),.str r)
 |_=>none
abbrev alX:=Bs
noncomputable def pg(a b:Bs)(r:alX):Prop:=aK Tryz.prog adP [.str a,.str b] (.str r)∧lI a b r
noncomputable def alY:cB Tryz.prog:=.mk 68 λus=>match us with
 | [.str a,.str b]=>let r:=pick (pg a b);some (can (pg a b),.str r)
 |_=>none
abbrev akx:=Bool
noncomputable def nR(a:Bs)(r:akx):Prop:=aK Tryz.prog abB [.str a] (.bool r)∧xI a r
noncomputable def aky:cB Tryz.prog:=.mk 69 λus=>match us with
 | [.str a]=>let r:=pick (nR a);some (can (nR a),.bool r)
 |_=>none
abbrev alZ:=Bool
noncomputable def gu(a:Bs)(r:alZ):Prop:=aK Tryz.prog adO [.str a] (.bool r)∧sV a r
noncomputable def xq:cB Tryz.prog:=.mk 70 λus=>match us with
 | [.str a]=>let r:=pick (gu a);some (can (gu a),.bool r)
 |_=>none
abbrev ajk:=Bool
noncomputable def mD(a:Int)(r:ajk):Prop:=aK Tryz.prog aac [.int .u8 a] (.bool r)∧wL a r
noncomputable def ajl:cB Tryz.prog:=.mk 79 λus=>match us with
 | [.int .u8 a]=>let r:=pick (mD a);some (can (mD a),.bool r)
 |_=>none
abbrev akz:=Bool
noncomputable def nS(a:Int)(r:akz):Prop:=aK Tryz.prog abA [.int .u8 a] (.bool r)∧xH a r
noncomputable def akA:cB Tryz.prog:=.mk 80 λus=>match us with
 | [.int .u8 a]=>let r:=pick (nS a);some (can (nS a),.bool r)
 |_=>none
noncomputable def afK:av:=gH (ah1 (P:=Tryz.prog) [aos]) (kf (P:=Tryz.prog) 2 [] [aol] [ad3] [] [alS,abr,akt,afJ])
def ad9:IR:=Rs [Mb 6 false] (Sq (Rs [Ca 12 4 [],Un 13 12] (Cn 13 (Rs [Mb 6 false] .ret) .skip)) (Sq (Rs [Mv 14 0,Ll 15 14,Bc 16 .gtr 15 120,Mv 17 16,Gf 17 (.mov 18 1),Gf 17 (.lenl 19 18),Gf 17 (.bin 20 .gtr 19 (kI 8)),Po 21 17 20] (Cn 21 (Rs [Mb 6 true] .ret) .skip)) (Rs [Mv 22 0,Ca 23 6 [22],Ca 24 7 [23],Mv 25 1,Mv 26 2,Ca 27 5 [24,25,26],Pp (.alr 7 5),Fz 7 5 27] (Sq (.wk [] [] [Ld 29 5 true 7] (.call 30 8 [.t 29]) [Mv 28 30,Ex_ 31 0 28,Ex_ 32 1 28,Pp (.alr 8 1),Pp (.frz none 8 1 (.t 31)),Mv 9 32]) (Rs [Ld 34 5 true 7,Ca 35 9 [34],Mv 33 35,Ex_ 36 0 33,Ex_ 37 1 33,Pp (.alr 10 1),Fz 10 1 36,Mv 11 37] (Rs [Mv 38 9,Mv 39 11,Bi 40 .eql 38 39,Mv 41 40,Gt 41 (.lde 42 1 true 8),Gt 41 (.lde 43 1 true 10),Gt 41 (.call 44 10 [42,43]),Pa 45 41 44,Mv 6 45] .ret))))))
def aea:List RV:=[.t 6]
theorem aeb:anj Tryz.prog afK [6,7,2000007] 0 qC Tryz.f3 ad9 aea:=atR Tryz.func3
def vw(N:Nat)(f g:Bs)(j:Int):Ro:=
 af (pf) (λ(m:Bool)=>
  cond (!m) (
   some (.bool false,[])) (
   let h:=(↑(Aa f):Int)
   cond (decide (120<h)) (
    some (.bool true,[])) (
    let i:=(↑(Aa g):Int)
    cond (decide (8<i)) (
     some (.bool true,[])) (
     af (wA f) (λc=>
      af (lU c.1 c.2) (λb=>
       af (cG ⟨b.1,b.2.1,b.2.2.1,b.2.2.2.1,b.2.2.2.2.1⟩ g j) (λ(a:aa)=>
        af (rS ⟨a.kind,a.n,a.s,a.l,a.names⟩) (λd=>
         af (nN ⟨a.kind,a.n,a.s,a.l,a.names⟩) (λe=>
          cond (d.2==e.2) (
           af (kn d.1 e.1) (λ(k:Bool)=>
            some (.bool k,[some [.sl .u8 (.may false) b.2.2.2.2.2.1,.int .i64 b.2.2.2.2.2.2]]))) (
           some (.bool false,[some [.sl .u8 (.may false) b.2.2.2.2.2.1,.int .i64 b.2.2.2.2.2.2]])))))))))))
def vx(N:Nat)(a c:Bs)(b:Int):Ro:=vw N a c b
theorem acW(N:Nat)(c d:Bs)(b:Int)(h:Tot (vx N c d b) (λz=>∃(a:Bool)(rest:List ai),z.1.dimR=.bool a∧z.2=rest∧nG c d b (a))):∃r,wW c d b r:=ah0.fin (p:=λr=>nG c d b r) aeb (N:=N) (by kernel_rfl) h λ_ ⟨a,_,e,_,q⟩=>⟨(a),e,q⟩
noncomputable def nT:av:=tab (P:=Tryz.prog) [] [ct,lV,uD,oN,abI,nP,aaI,zA] [] [nO,ah8]
def qD:IR:=Sq (Rs [Mv 59 17,Mv 60 15,Ll 61 60,Bi 62 .lss 59 61,Mv 63 62,Gt 63 (.mov 64 0),Gt 63 (.nck 65 64),Gt 63 (.fad 66 1 65),Gt 63 (.ld 67 1 false false 66),Gt 63 (.bin 68 .eql 67 (kI 0)),Pa 69 63 68] (Cn 69 .skip (.exit 0))) (Sq (.block 1 (.reg [Fa 72 2 14,Fo [] [1] (.ld 73 1 false true 72),Mv 74 0,Mv 75 15,Mv 76 17,Ix 77 .str 75 76,Lq 78 77,Mv 79 3,Fo [] [0] (.call 80 54 [74,78,79]),Pp (.bsl 81 .str [80] true),Pp (.app 82 .str (.tk 73) 81),Fa 83 2 14,Fo [] [1] (.st none 1 83 (.tk 82))] [[],[0],[],[],[],[3,4],[3,4,5],[],rg 2 7,rg 2 8,rg 0 9,rg 0 10,rg 0 11])) (Rg [Mv 70 17,Bc 71 .add 70 1,Mv 17 71]))
def pN:IR:=Rs [Mv 85 0,Fa 86 1 14,Lo 87 86,Ca 88 51 [85,87],Mv 84 88,Ex_ 89 0 84,Ex_ 90 1 84,Mv 18 89,Mv 19 90] (Sq (Rs [Mv 91 0,Nk 92 91,Fa 93 1 92,Lo 94 93,Bc 95 .eql 94 0,Mv 96 95,Gt 96 (.mov 97 19),Pa 98 96 97] (Cn 98 (Rg [Mv 99 0,Ca 100 33 [99,kI 5]]) .skip)) (Sq (Rs [Mv 101 0,Nk 102 101,Fa 103 1 102,Lo 104 103,Bc 105 .neq 104 0] (Cn 105 (Rs [Mi 10 0] .ret) .skip)) (Rs [Mv 106 0,Pp (.ld 107 10 true false 14),Ca 108 39 [106,107],Mv 20 108] (Sq (Rs [Mv 109 2] (.block 2 (Rs [Bc 150 .eql 109 9,Mv 149 150] (Cn 149 (Rg [Mv 151 0,Ld 152 5 true 6,Mv 153 20,Mv 154 3,Mv 155 4,Ca 156 57 [151,152,153,154,155]]) (Rs [Bc 158 .eql 109 10,Mv 157 158] (Cn 157 (Rg [Mv 159 0,Ld 160 5 true 6,Mv 161 20,Ca 162 58 [159,160,161]]) (Rs [Ld 111 5 true 6,Ca 112 36 [111,kS [115,105,122,101]],Mv 110 112,Ex_ 113 0 110,Ex_ 114 1 110,Pp (.alr 21 5),Fz 21 5 113,Mv 22 114] (Sq (Rs [Mv 115 22,Un 116 115,Mv 117 116,Gf 117 (.fad 118 0 21),Gf 117 (.lde 119 1 false 118),Gf 117 (.bin 120 .neq 119 (kI 3)),Po 121 117 120] (Cn 121 (Rs [Mv 122 0,Ca 123 33 [122,kI 2],Mv 10 123] .ret) .skip)) (Sq (Rs [Fa 124 1 21,Lq 125 124,Bc 126 .lss 125 0,Mv 127 126,Gf 127 (.fad 128 1 21),Gf 127 (.lde 129 1 false 128),Gf 127 (.bin 130 .gtr 129 (kI 5000)),Po 131 127 130] (Cn 131 (Rs [Mv 132 0,Ca 133 33 [132,kI 6],Mv 10 133] .ret) .skip)) (Rs [Mv 134 0,Nk 135 134,Fa 136 1 135,Lo 137 136,Bc 138 .eql 137 0] (Cn 138 (.gh (.opn (.cell 0 0)) (.ghp (.cls (.cell 0 0)) (.reg [Mv 139 0,Nk 140 139,Fa 141 0 140,Fa 142 0 141,Fo [0] [] (.ld 143 1 false false 142),Mv 144 20,Fa 145 1 21,Lq 146 145,Pp (.ixw 147 .atype 143 144),Pp (.fdw 148 7 147),Fo [] [2] (.stw none 1 148 146)] [[],[0],[0,1],[0,1,2],rg 0 3,[],[],[6],rg 0 7,rg 0 8,rg 0 9]))) .skip))))))))))) (Rs [Mv 163 20,Mv 10 163] .ret)))))
def aaJ:IR:=Rs [Bx 6 1,Mi 10 0] (Rs [Mv 23 0,Ld 24 5 true 6,Ca 25 53 [23,24,kS [110,97,109,101],kB true],Mv 11 25] (Rs [Ld 27 5 true 6,Ca 28 36 [27,kS [110,97,109,101,115,112,97,99,101]],Mv 26 28,Ex_ 29 0 26,Ex_ 30 1 26,Pp (.alr 12 5),Fz 12 5 29,Mv 13 30] (Sq (Rs [Mv 31 13] (Cn 31 (Sq (Rs [Fa 32 0 12,Lq 33 32,Bc 34 .neq 33 4] (Cn 34 (Rg [Mv 35 0,Ca 36 33 [35,kI 2]]) .skip)) (Rg [Fa 37 2 12,Lq 38 37,Mv 3 38])) .skip)) (Sq (Rs [Mv 39 0,Nk 40 39,Fa 41 1 40,Lo 42 41,Bc 43 .neq 42 0] (Cn 43 (Rs [Mi 10 0] .ret) .skip)) (Rs [Mv 44 2,Mv 45 0,Mv 46 11,Mv 47 3,Ca 48 54 [45,46,47],Pp (.bld 49 [vI 0,vS,nl .str,vI 0,nl .str,.bool false,vS,vI 0,nl .afield,nl (.num .i64)] [(0,1,44),(1,1,48)]),Pp (.new 14 [vI 0,vS,nl .str,vI 0,nl .str,.bool false,vS,vI 0,nl .afield,nl (.num .i64)]),Sv 10 14 49] (Rs [Fa 50 1 14,Lo 51 50,Ca 52 55 [51],Mv 3 52] (Rs [Mv 54 0,Ld 55 5 true 6,Ca 56 56 [54,55,kS [97,108,105,97,115,101,115]],Mv 53 56,Ex_ 57 0 53,Ex_ 58 1 53,Mv 15 57,Mv 16 58] (Sq (Rs [Mi 17 0] (.block 0 (.loop [0,2,3,4,6,14,15,17,1000000] 2 qD))) pN))))))))
def rV:List RV:=[.t 10]
theorem aaK:FnC Tryz.prog nT [33,39,51,53,54,56,57,58,2000033,2000039,2000051,2000053,2000054,2000056,2000057,2000058] 1 tm Tryz.f37 aaJ rV:=fnC Tryz.func37
def zB(R:IR->(Ex->St->Ro)->St->Ro)(a:St->Ro):Ex->St->Ro:=(ce a [0,2,3,4,6,14,15,17,1000000] 2 (aG 0 (bR (R pN) (fin rV))))
abbrev jj:Type:=(Int×Bs×Int×aa×Bss×Int×List ab×Int×Int×Bs×Bss×Int×Bss×Bool×Bs×Int×List aA×List Int)
def iB(x:jj):St:={env:=(.ptr 0 0::.undef::.int .i64 x.1::.str x.2.1::.int .i64 x.2.2.1::.undef::.ea (enc .jnode x.2.2.2.1)::(U 7 (.ptr 1 0::.sl .str (.may false) x.2.2.2.2.1::.undef::.int .i64 x.2.2.2.2.2.1::(U 146 [])))),hp:=[some [.ul .atype x.2.2.2.2.2.2.1,.int .i64 x.2.2.2.2.2.2.2.1],some [.int .i64 x.2.2.2.2.2.2.2.2.1,.str x.2.2.2.2.2.2.2.2.2.1,.sl .str .own x.2.2.2.2.2.2.2.2.2.2.1,.int .i64 x.2.2.2.2.2.2.2.2.2.2.2.1,.sl .str .own x.2.2.2.2.2.2.2.2.2.2.2.2.1,.bool x.2.2.2.2.2.2.2.2.2.2.2.2.2.1,.str x.2.2.2.2.2.2.2.2.2.2.2.2.2.2.1,.int .i64 x.2.2.2.2.2.2.2.2.2.2.2.2.2.2.2.1,.sl .afield .own x.2.2.2.2.2.2.2.2.2.2.2.2.2.2.2.2.1,.sl (.num .i64) .own x.2.2.2.2.2.2.2.2.2.2.2.2.2.2.2.2.2]]}
def md(N:Nat):(St->Ro)->St->Ro:=λa s=>run nT N qD (zB (run nT N) a) s
def fM(N:Nat)(L:jj->Ro)(x:jj):Ro:=
 let B:Int:=x.1;let P:Bs:=x.2.1;let W:Int:=x.2.2.1;let w:aa:=x.2.2.2.1;let M:Bss:=x.2.2.2.2.1;let O:Int:=x.2.2.2.2.2.1;let C:List ab:=x.2.2.2.2.2.2.1;let A:Int:=x.2.2.2.2.2.2.2.1;let r:Int:=x.2.2.2.2.2.2.2.2.1;let i:Bs:=x.2.2.2.2.2.2.2.2.2.1;let j:Bss:=x.2.2.2.2.2.2.2.2.2.2.1;let v:Int:=x.2.2.2.2.2.2.2.2.2.2.2.1;let t:Bss:=x.2.2.2.2.2.2.2.2.2.2.2.2.1;let u:Bool:=x.2.2.2.2.2.2.2.2.2.2.2.2.2.1;let k:Bs:=x.2.2.2.2.2.2.2.2.2.2.2.2.2.2.1;let p:Int:=x.2.2.2.2.2.2.2.2.2.2.2.2.2.2.2.1;let q:List aA:=x.2.2.2.2.2.2.2.2.2.2.2.2.2.2.2.2.1;let o:List Int:=x.2.2.2.2.2.2.2.2.2.2.2.2.2.2.2.2.2;let x1:=(↑(Aa M):Int)
 let h:=λg0 g1 g2=>(some (.int .i64 g0,[some [.ul .atype g1,.int .i64 g2],some [.int .i64 r,.str i,.sl .str .own j,.int .i64 v,.sl .str .own t,.bool u,.str k,.int .i64 p,.sl .afield .own q,.sl (.num .i64) .own o]]):Ro)
 let z1:=λg0 g1 g2=>(some (.int .i64 g0,[some [.ul .atype g1,.int .i64 g2],some [.int .i64 r,.str i,.sl .str .own j,.int .i64 v,.sl .str .own t,.bool u,.str k,.int .i64 p,.sl .afield .own q,.sl (.num .i64) .own o],none,none]):Ro)
 cond (decide (O<x1)) (
  cond (A==0) (
   chk (ixl O M) (
    let x2:=Ak M (Ae O) (am .str)
    af (cH C A x2 P) (λr7=>
     chk (decide ((Aa j+Aa ([r7.1]:Bss))*16<=140737488355328)) (
      let x3:=(j++([r7.1]:Bss))
      let x4:=(Aj .i64 (O+1))
      L (B,P,W,w,M,x4,r7.2.1,r7.2.2,r,i,x3,v,t,u,k,p,q,o))))) (
   af (bS C A i) (λy=>
    cond (y.2.2.2==0) (
     cond y.2.1 (
      af (ah y.2.2.1 y.2.2.2 5) (λr9=>
       cond (!(r9.2.2==0)) (
        h 0 r9.2.1 r9.2.2) (
        af (bD r9.2.1 r9.2.2 ⟨r,i,j,v,t,u,k,p,q,o⟩) (λb=>
         cond (B==9) (
          af (bB b.2.1 b.2.2 (reJ w) b.1 P W) (λc1=>
           h b.1 c1.1 c1.2)) (
          cond (B==10) (
           af (bq b.2.1 b.2.2 (reJ w) b.1) (λc0=>
            h b.1 c0.1 c0.2)) (
           af (aU (reJ w) ([115,105,122,101]:Bs)) (λE=>
            cond (!E.2) (
             af (ah b.2.1 b.2.2 2) (λX=>
              h X.1 X.2.1 X.2.2)) (
             cond (!(E.1.kind==3)) (
              af (ah b.2.1 b.2.2 2) (λa3=>
               h a3.1 a3.2.1 a3.2.2)) (
              cond (decide (E.1.n<0)) (
               af (ah b.2.1 b.2.2 6) (λad=>
                h ad.1 ad.2.1 ad.2.2)) (
               cond (decide (5000<E.1.n)) (
                af (ah b.2.1 b.2.2 6) (λae=>
                 h ae.1 ae.2.1 ae.2.2)) (
                cond (b.2.2==0) (
                 chk (decide (0<Aa b.2.1)) (
                  chk ((decide (0<=b.1)&&decide (b.1<↑(Aa b.2.1)))) (
                   chk (decide ((Ae b.1)<Aa b.2.1)) (
                    let x5:=(AJ b.2.1 (Ae b.1) (let g:=Ak b.2.1 (Ae b.1) (am .atype);⟨g.kind,g.name,g.aliases,g.items,g.syms,g.hasdef,g.df,E.1.n,g.fields,g.branches⟩))
                    chk (As (Aa b.2.1) (Aa x5)) (
                     z1 b.1 x5 b.2.2))))) (
                 h b.1 b.2.1 b.2.2)))))))))))) (
      cond (!(y.2.2.2==0)) (
       h 0 y.2.2.1 y.2.2.2) (
       af (bD y.2.2.1 y.2.2.2 ⟨r,i,j,v,t,u,k,p,q,o⟩) (λa=>
        cond (B==9) (
         af (bB a.2.1 a.2.2 (reJ w) a.1 P W) (λb5=>
          h a.1 b5.1 b5.2)) (
         cond (B==10) (
          af (bq a.2.1 a.2.2 (reJ w) a.1) (λb2=>
           h a.1 b2.1 b2.2)) (
          af (aU (reJ w) ([115,105,122,101]:Bs)) (λJ=>
           cond (!J.2) (
            af (ah a.2.1 a.2.2 2) (λbs=>
             h bs.1 bs.2.1 bs.2.2)) (
            cond (!(J.1.kind==3)) (
             af (ah a.2.1 a.2.2 2) (λa2=>
              h a2.1 a2.2.1 a2.2.2)) (
             cond (decide (J.1.n<0)) (
              af (ah a.2.1 a.2.2 6) (λa0=>
               h a0.1 a0.2.1 a0.2.2)) (
              cond (decide (5000<J.1.n)) (
               af (ah a.2.1 a.2.2 6) (λbY=>
                h bY.1 bY.2.1 bY.2.2)) (
               cond (a.2.2==0) (
                chk (decide (0<Aa a.2.1)) (
                 chk ((decide (0<=a.1)&&decide (a.1<↑(Aa a.2.1)))) (
                  chk (decide ((Ae a.1)<Aa a.2.1)) (
                   let x6:=(AJ a.2.1 (Ae a.1) (let g:=Ak a.2.1 (Ae a.1) (am .atype);⟨g.kind,g.name,g.aliases,g.items,g.syms,g.hasdef,g.df,J.1.n,g.fields,g.branches⟩))
                   chk (As (Aa a.2.1) (Aa x6)) (
                    z1 a.1 x6 a.2.2))))) (
                h a.1 a.2.1 a.2.2)))))))))))) (
     cond (!(y.2.2.2==0)) (
      h 0 y.2.2.1 y.2.2.2) (
      af (bD y.2.2.1 y.2.2.2 ⟨r,i,j,v,t,u,k,p,q,o⟩) (λf=>
       cond (B==9) (
        af (bB f.2.1 f.2.2 (reJ w) f.1 P W) (λcv=>
         h f.1 cv.1 cv.2)) (
        cond (B==10) (
         af (bq f.2.1 f.2.2 (reJ w) f.1) (λcs=>
          h f.1 cs.1 cs.2)) (
         af (aU (reJ w) ([115,105,122,101]:Bs)) (λH=>
          cond (!H.2) (
           af (ah f.2.1 f.2.2 2) (λan=>
            h an.1 an.2.1 an.2.2)) (
           cond (!(H.1.kind==3)) (
            af (ah f.2.1 f.2.2 2) (λQ=>
             h Q.1 Q.2.1 Q.2.2)) (
            cond (decide (H.1.n<0)) (
             af (ah f.2.1 f.2.2 6) (λbl=>
              h bl.1 bl.2.1 bl.2.2)) (
             cond (decide (5000<H.1.n)) (
              af (ah f.2.1 f.2.2 6) (λa4=>
               h a4.1 a4.2.1 a4.2.2)) (
              cond (f.2.2==0) (
               chk (decide (0<Aa f.2.1)) (
                chk ((decide (0<=f.1)&&decide (f.1<↑(Aa f.2.1)))) (
                 chk (decide ((Ae f.1)<Aa f.2.1)) (
                  let x7:=(AJ f.2.1 (Ae f.1) (let g:=Ak f.2.1 (Ae f.1) (am .atype);⟨g.kind,g.name,g.aliases,g.items,g.syms,g.hasdef,g.df,H.1.n,g.fields,g.branches⟩))
                  chk (As (Aa f.2.1) (Aa x7)) (
                   z1 f.1 x7 f.2.2))))) (
               h f.1 f.2.1 f.2.2)))))))))))))) (
  af (bS C A i) (λm=>
   cond (m.2.2.2==0) (
    cond m.2.1 (
     af (ah m.2.2.1 m.2.2.2 5) (λF=>
      cond (!(F.2.2==0)) (
       h 0 F.2.1 F.2.2) (
       af (bD F.2.1 F.2.2 ⟨r,i,j,v,t,u,k,p,q,o⟩) (λd=>
        cond (B==9) (
         af (bB d.2.1 d.2.2 (reJ w) d.1 P W) (λb4=>
          h d.1 b4.1 b4.2)) (
         cond (B==10) (
          af (bq d.2.1 d.2.2 (reJ w) d.1) (λb6=>
           h d.1 b6.1 b6.2)) (
          af (aU (reJ w) ([115,105,122,101]:Bs)) (λI=>
           cond (!I.2) (
            af (ah d.2.1 d.2.2 2) (λbn=>
             h bn.1 bn.2.1 bn.2.2)) (
            cond (!(I.1.kind==3)) (
             af (ah d.2.1 d.2.2 2) (λbx=>
              h bx.1 bx.2.1 bx.2.2)) (
             cond (decide (I.1.n<0)) (
              af (ah d.2.1 d.2.2 6) (λa5=>
               h a5.1 a5.2.1 a5.2.2)) (
              cond (decide (5000<I.1.n)) (
               af (ah d.2.1 d.2.2 6) (λar=>
                h ar.1 ar.2.1 ar.2.2)) (
               cond (d.2.2==0) (
                chk (decide (0<Aa d.2.1)) (
                 chk ((decide (0<=d.1)&&decide (d.1<↑(Aa d.2.1)))) (
                  chk (decide ((Ae d.1)<Aa d.2.1)) (
                   let x8:=(AJ d.2.1 (Ae d.1) (let g:=Ak d.2.1 (Ae d.1) (am .atype);⟨g.kind,g.name,g.aliases,g.items,g.syms,g.hasdef,g.df,I.1.n,g.fields,g.branches⟩))
                   chk (As (Aa d.2.1) (Aa x8)) (
                    z1 d.1 x8 d.2.2))))) (
                h d.1 d.2.1 d.2.2)))))))))))) (
     cond (!(m.2.2.2==0)) (
      h 0 m.2.2.1 m.2.2.2) (
      af (bD m.2.2.1 m.2.2.2 ⟨r,i,j,v,t,u,k,p,q,o⟩) (λc=>
       cond (B==9) (
        af (bB c.2.1 c.2.2 (reJ w) c.1 P W) (λb1=>
         h c.1 b1.1 b1.2)) (
        cond (B==10) (
         af (bq c.2.1 c.2.2 (reJ w) c.1) (λci=>
          h c.1 ci.1 ci.2)) (
         af (aU (reJ w) ([115,105,122,101]:Bs)) (λD=>
          cond (!D.2) (
           af (ah c.2.1 c.2.2 2) (λS=>
            h S.1 S.2.1 S.2.2)) (
           cond (!(D.1.kind==3)) (
            af (ah c.2.1 c.2.2 2) (λa9=>
             h a9.1 a9.2.1 a9.2.2)) (
            cond (decide (D.1.n<0)) (
             af (ah c.2.1 c.2.2 6) (λal=>
              h al.1 al.2.1 al.2.2)) (
             cond (decide (5000<D.1.n)) (
              af (ah c.2.1 c.2.2 6) (λa1=>
               h a1.1 a1.2.1 a1.2.2)) (
              cond (c.2.2==0) (
               chk (decide (0<Aa c.2.1)) (
                chk ((decide (0<=c.1)&&decide (c.1<↑(Aa c.2.1)))) (
                 chk (decide ((Ae c.1)<Aa c.2.1)) (
                  let x9:=(AJ c.2.1 (Ae c.1) (let g:=Ak c.2.1 (Ae c.1) (am .atype);⟨g.kind,g.name,g.aliases,g.items,g.syms,g.hasdef,g.df,D.1.n,g.fields,g.branches⟩))
                  chk (As (Aa c.2.1) (Aa x9)) (
                   z1 c.1 x9 c.2.2))))) (
               h c.1 c.2.1 c.2.2)))))))))))) (
    cond (!(m.2.2.2==0)) (
     h 0 m.2.2.1 m.2.2.2) (
     af (bD m.2.2.1 m.2.2.2 ⟨r,i,j,v,t,u,k,p,q,o⟩) (λe=>
      cond (B==9) (
       af (bB e.2.1 e.2.2 (reJ w) e.1 P W) (λb3=>
        h e.1 b3.1 b3.2)) (
       cond (B==10) (
        af (bq e.2.1 e.2.2 (reJ w) e.1) (λcy=>
         h e.1 cy.1 cy.2)) (
        af (aU (reJ w) ([115,105,122,101]:Bs)) (λG=>
         cond (!G.2) (
          af (ah e.2.1 e.2.2 2) (λY=>
           h Y.1 Y.2.1 Y.2.2)) (
          cond (!(G.1.kind==3)) (
           af (ah e.2.1 e.2.2 2) (λZ=>
            h Z.1 Z.2.1 Z.2.2)) (
           cond (decide (G.1.n<0)) (
            af (ah e.2.1 e.2.2 6) (λbr=>
             h br.1 br.2.1 br.2.2)) (
            cond (decide (5000<G.1.n)) (
             af (ah e.2.1 e.2.2 6) (λR=>
              h R.1 R.2.1 R.2.2)) (
             cond (e.2.2==0) (
              chk (decide (0<Aa e.2.1)) (
               chk ((decide (0<=e.1)&&decide (e.1<↑(Aa e.2.1)))) (
                chk (decide ((Ae e.1)<Aa e.2.1)) (
                 let cc:=(AJ e.2.1 (Ae e.1) (let g:=Ak e.2.1 (Ae e.1) (am .atype);⟨g.kind,g.name,g.aliases,g.items,g.syms,g.hasdef,g.df,G.1.n,g.fields,g.branches⟩))
                 chk (As (Aa e.2.1) (Aa cc)) (
                  z1 e.1 cc e.2.2))))) (
              h e.1 e.2.1 e.2.2)))))))))))))
theorem yX(N:Nat):LB (md N) iB (fM N):=λ_ _=>by kernel_rfl
def gg(N:Nat)(g:List ab)(i:Int)(f:aa)(v:Int)(w:Bs)(D:Int)(A:jj->Ro):Ro:=
 let m:=λr q=>(some (.int .i64 0,[some [.ul .atype r,.int .i64 q]]):Ro)
 let t:=λr q x B y=>A (v,r,D,f,q,0,x,B,v,y,([]:Bss),0,([]:Bss),false,([]:Bs),0,([]:List aA),([]:List Int))
 af (cu g i (reJ f) ([110,97,109,101]:Bs) true) (λa=>
  af (aU (reJ f) ([110,97,109,101,115,112,97,99,101]:Bs)) (λj=>
   cond j.2 (
    cond (!(j.1.kind==4)) (
     af (ah a.2.1 a.2.2 2) (λh=>
      cond (!(h.2.2==0)) (
       m h.2.1 h.2.2) (
       af (cH h.2.1 h.2.2 a.1 j.1.s) (λk=>
        af (fm k.1) (λ(C:Bs)=>
         af (bI k.2.1 k.2.2 (reJ f) ([97,108,105,97,115,101,115]:Bs)) (λu=>
          t C u.1 u.2.2.1 u.2.2.2 k.1)))))) (
     cond (!(a.2.2==0)) (
      m a.2.1 a.2.2) (
      af (cH a.2.1 a.2.2 a.1 j.1.s) (λb=>
       af (fm b.1) (λ(o:Bs)=>
        af (bI b.2.1 b.2.2 (reJ f) ([97,108,105,97,115,101,115]:Bs)) (λd=>
         t o d.1 d.2.2.1 d.2.2.2 b.1)))))) (
    cond (!(a.2.2==0)) (
     m a.2.1 a.2.2) (
     af (cH a.2.1 a.2.2 a.1 w) (λc=>
      af (fm c.1) (λ(p:Bs)=>
       af (bI c.2.1 c.2.2 (reJ f) ([97,108,105,97,115,101,115]:Bs)) (λe=>
        t p e.1 e.2.2.1 e.2.2.2 c.1)))))))
def rW(N:Nat)(a:List ab)(b:Int)(f:aa)(c:Int)(e:Bs)(d:Int):Ro:=gg N a b f c e d (λz=>aO N (fM N) z)
theorem zC(N:Nat)(a:List ab)(c:Int)(j:aa)(d:Int)(i:Bs)(g:Int)(h:Tot (rW N a c j d i g) (λz=>∃(k:Int)(m:List ab)(o:Int)(rest:List ai),z.1.dimR=.int .i64 k∧z.2=some [.ul .atype m,.int .i64 o]::rest∧aT a c j d i g (k,m,o))):∃r,dd a c j d i g r:=FnK.finO (css:=[[.ul .atype a,.int .i64 c]]) aaK (N:=N) ((cV _ (by kernel_rfl) rfl (λC=>gg N a c j d i g (λz=>C 1000000 (iB z))) (λC=>by kernel_rfl)).trans (A3 (b:=gg N a c j d i g (λz=>bg N (md N) (iB z))) (by kernel_rfl) (congrArg (gg N a c j d i g) (funext λz=>bz (iB) (md N) (fM N) (yX N) N z)))) h λ_ ⟨k,m,o,_,e,f,q⟩=>⟨(k,m,o),e,⟨_,f⟩,q⟩
noncomputable def acX:av:=tab (P:=Tryz.prog) [] [li,ct,acT,abD,abF,lV] [] [nO,abG]
def abK:IR:=Rs [Bx 5 1,Mi 8 0] (Sq (Rs [Mv 16 0,Nk 17 16,Fa 18 1 17,Lo 19 18,Bc 20 .neq 19 0] (Cn 20 (Rs [Mi 8 0] .ret) .skip)) (Sq (Rs [Mv 21 3,Bc 22 .gtr 21 20] (Cn 22 (Rs [Mv 23 0,Ca 24 33 [23,kI 3],Mv 8 24] .ret) .skip)) (Sq (Rs [Fa 25 0 5,Lq 26 25] (.block 0 (Rs [Bc 28 .eql 26 4,Mv 27 28] (Cn 27 (Rs [Mv 29 0,Fa 30 2 5,Lq 31 30,Mv 32 2,Ca 33 34 [29,31,32],Mv 8 33] .ret) (Rs [Bc 35 .eql 26 5,Mv 34 35] (Cn 34 (Rs [Mv 36 0,Ld 37 5 true 5,Mv 38 2,Mv 39 3,Ca 40 35 [36,37,38,39],Mv 8 40] .ret) (Rs [Bc 42 .eql 26 6,Mv 41 42] (Cn 41 (Rs [Ld 44 5 true 5,Ca 45 36 [44,kS [116,121,112,101]],Mv 43 45,Ex_ 46 0 43,Ex_ 47 1 43,Pp (.alr 9 5),Fz 9 5 46,Mv 10 47] (Sq (Rs [Mv 48 10,Un 49 48] (Cn 49 (Rs [Mv 50 0,Ca 51 33 [50,kI 2],Mv 8 51] .ret) .skip)) (Sq (Rs [Fa 52 0 9,Lq 53 52,Bc 54 .neq 53 4] (Cn 54 (Rs [Mv 55 0,Ld 56 5 true 9,Mv 57 2,Mv 58 3,Bc 59 .add 58 1,Ca 60 16 [55,56,57,59],Mv 8 60] .ret) .skip)) (Sq (Rs [Fa 61 2 9,Lq 62 61] (.block 1 (Sq (Rs [Pp (.bin 64 .eql 62 (kS [114,101,99,111,114,100])),Mv 63 64] (Cn 63 .skip (Rs [Pp (.bin 65 .eql 62 (kS [101,110,117,109])),Mv 63 65] (Cn 63 .skip (Rg [Pp (.bin 66 .eql 62 (kS [102,105,120,101,100])),Mv 63 66]))))) (Cn 63 (Sq (.reg [Mv 67 0,Ld 68 5 true 5,Fa 69 2 9,Lq 70 69,Ca 71 38 [70],Mv 72 2,Mv 73 3,Fo [] [0] (.call 74 37 [67,68,71,72,73]),Mv 8 74] [[],[],[],[2],[2,3],[],[],rg 0 6,rg 0 7]) .ret) (Sq (Rs [Pp (.bin 76 .eql 62 (kS [97,114,114,97,121])),Mv 75 76] (Cn 75 .skip (Rg [Pp (.bin 77 .eql 62 (kS [109,97,112])),Mv 75 77]))) (Cn 75 (Rs [Mv 78 0,Fa 79 2 9,Lq 80 79,Ca 81 38 [80],Pp (.bld 82 [vI 0,vS,fu .str true,vI 0,fu .str true,.bool false,vS,vI 0,fu .afield true,fu (.num .i64) true] [(0,1,81)]),Ca 83 39 [78,82],Mv 11 83] (Rs [Ms 12 [105,116,101,109,115]] (Sq (Rs [Fa 84 2 9,Lq 85 84,Pp (.bin 86 .eql 85 (kS [109,97,112]))] (Cn 86 (Rg [Ms 12 [118,97,108,117,101,115]]) .skip)) (Rs [Ld 88 5 true 5,Mv 89 12,Ca 90 36 [88,89],Mv 87 90,Ex_ 91 0 87,Ex_ 92 1 87,Pp (.alr 13 5),Fz 13 5 91,Mv 14 92] (Sq (Rs [Mv 93 14,Un 94 93] (Cn 94 (Rs [Mv 95 0,Ca 96 33 [95,kI 2],Mv 8 96] .ret) .skip)) (Rs [Mv 97 0,Ld 98 5 true 13,Mv 99 2,Mv 100 3,Bc 101 .add 100 1,Ca 102 16 [97,98,99,101],Mv 15 102] (Sq (Rs [Mv 103 0,Nk 104 103,Fa 105 1 104,Lo 106 105,Bc 107 .eql 106 0] (Cn 107 (.gh (.opn (.cell 0 0)) (.ghp (.cls (.cell 0 0)) (Rg [Mv 108 0,Nk 109 108,Fa 110 0 109,Fa 111 0 110,Lo 112 111,Mv 113 11,Mv 114 15,Pp (.ixw 115 .atype 112 113),Pp (.fdw 116 3 115),Pp (.stw none 1 116 114)]))) .skip)) (Rs [Mv 117 11,Mv 8 117] .ret)))))))) .skip)))))) (Rs [Mv 118 0,Fa 119 2 9,Lq 120 119,Mv 121 2,Ca 122 34 [118,120,121],Mv 8 122] .ret))))) .skip)))))))) (Rs [Mv 123 0,Ca 124 33 [123,kI 2],Mv 8 124] .ret))))
def abL:List RV:=[.t 8]
theorem abM:FnC Tryz.prog acX [16,33,34,35,37,39,2000016,2000033,2000034,2000035,2000037,2000039] 1 uB Tryz.f16 abK abL:=fnC Tryz.func16
def tu(N:Nat)(d:List ab)(c:Int)(k:aa)(m:Bs)(o:Int):Ro:=
 let G:=λg0 g1 g2=>(some (.int .i64 g0,[some [.ul .atype g1,.int .i64 g2],none,none]):Ro)
 cond (!(c==0)) (
  some (.int .i64 0,[some [.ul .atype d,.int .i64 c]])) (
  cond (decide (20<o)) (
   af (ah d c 3) (λJ=>
    some (.int .i64 J.1,[some [.ul .atype J.2.1,.int .i64 J.2.2]]))) (
   cond (k.kind==4) (
    af (fF d c k.s m) (λH=>
     some (.int .i64 H.1,[some [.ul .atype H.2.1,.int .i64 H.2.2]]))) (
    cond (k.kind==5) (
     af (gM d c (reJ k) m o) (λP=>
      some (.int .i64 P.1,[some [.ul .atype P.2.1,.int .i64 P.2.2]]))) (
     cond (k.kind==6) (
      af (aU (reJ k) ([116,121,112,101]:Bs)) (λj=>
       cond (!j.2) (
        af (ah d c 2) (λX=>
         some (.int .i64 X.1,[some [.ul .atype X.2.1,.int .i64 X.2.2]]))) (
        cond (!(j.1.kind==4)) (
         let x1:=(Aj .i64 (o+1))
         af (bb d c (reJ j.1) m x1) (λY=>
          some (.int .i64 Y.1,[some [.ul .atype Y.2.1,.int .i64 Y.2.2]]))) (
         let x2:=decide (j.1.s=([114,101,99,111,114,100]:Bs))
         cond x2 (
          af (dM j.1.s) (λ(r7:Int)=>
           af (dd d c (reJ k) r7 m o) (λM=>
            some (.int .i64 M.1,[some [.ul .atype M.2.1,.int .i64 M.2.2]])))) (
          let x3:=decide (j.1.s=([101,110,117,109]:Bs))
          cond x3 (
           af (dM j.1.s) (λ(r9:Int)=>
            af (dd d c (reJ k) r9 m o) (λw=>
             some (.int .i64 w.1,[some [.ul .atype w.2.1,.int .i64 w.2.2]])))) (
           let x4:=decide (j.1.s=([102,105,120,101,100]:Bs))
           cond x4 (
            af (dM j.1.s) (λ(W:Int)=>
             af (dd d c (reJ k) W m o) (λr=>
              some (.int .i64 r.1,[some [.ul .atype r.2.1,.int .i64 r.2.2]])))) (
            let x5:=decide (j.1.s=([97,114,114,97,121]:Bs))
            cond x5 (
             af (dM j.1.s) (λ(I:Int)=>
              af (bD d c ⟨I,([]:Bs),([]:Bss),0,([]:Bss),false,([]:Bs),0,([]:List aA),([]:List Int)⟩) (λb=>
               let x6:=decide (j.1.s=([109,97,112]:Bs))
               cond x6 (
                af (aU (reJ k) ([118,97,108,117,101,115]:Bs)) (λD=>
                 cond (!D.2) (
                  af (ah b.2.1 b.2.2 2) (λx=>
                   some (.int .i64 x.1,[some [.ul .atype x.2.1,.int .i64 x.2.2]]))) (
                  let x7:=(Aj .i64 (o+1))
                  af (bb b.2.1 b.2.2 (reJ D.1) m x7) (λf=>
                   cond (f.2.2==0) (
                    chk (decide (0<Aa f.2.1)) (
                     chk ((decide (0<=b.1)&&decide (b.1<↑(Aa f.2.1)))) (
                      chk (decide ((Ae b.1)<Aa f.2.1)) (
                       let Z:=(AJ f.2.1 (Ae b.1) (let e:=Ak f.2.1 (Ae b.1) (am .atype);⟨e.kind,e.name,e.aliases,f.1,e.syms,e.hasdef,e.df,e.size,e.fields,e.branches⟩))
                       chk (As (Aa f.2.1) (Aa Z)) (
                        G b.1 Z f.2.2))))) (
                    some (.int .i64 b.1,[some [.ul .atype f.2.1,.int .i64 f.2.2]])))))) (
                af (aU (reJ k) ([105,116,101,109,115]:Bs)) (λB=>
                 cond (!B.2) (
                  af (ah b.2.1 b.2.2 2) (λp=>
                   some (.int .i64 p.1,[some [.ul .atype p.2.1,.int .i64 p.2.2]]))) (
                  let x9:=(Aj .i64 (o+1))
                  af (bb b.2.1 b.2.2 (reJ B.1) m x9) (λh=>
                   cond (h.2.2==0) (
                    chk (decide (0<Aa h.2.1)) (
                     chk ((decide (0<=b.1)&&decide (b.1<↑(Aa h.2.1)))) (
                      chk (decide ((Ae b.1)<Aa h.2.1)) (
                       let E:=(AJ h.2.1 (Ae b.1) (let e:=Ak h.2.1 (Ae b.1) (am .atype);⟨e.kind,e.name,e.aliases,h.1,e.syms,e.hasdef,e.df,e.size,e.fields,e.branches⟩))
                       chk (As (Aa h.2.1) (Aa E)) (
                        G b.1 E h.2.2))))) (
                    some (.int .i64 b.1,[some [.ul .atype h.2.1,.int .i64 h.2.2]]))))))))) (
             let S:=decide (j.1.s=([109,97,112]:Bs))
             cond S (
              af (dM j.1.s) (λ(R:Int)=>
               af (bD d c ⟨R,([]:Bs),([]:Bss),0,([]:Bss),false,([]:Bs),0,([]:List aA),([]:List Int)⟩) (λa=>
                let Q:=decide (j.1.s=([109,97,112]:Bs))
                cond Q (
                 af (aU (reJ k) ([118,97,108,117,101,115]:Bs)) (λy=>
                  cond (!y.2) (
                   af (ah a.2.1 a.2.2 2) (λv=>
                    some (.int .i64 v.1,[some [.ul .atype v.2.1,.int .i64 v.2.2]]))) (
                   let O:=(Aj .i64 (o+1))
                   af (bb a.2.1 a.2.2 (reJ y.1) m O) (λi=>
                    cond (i.2.2==0) (
                     chk (decide (0<Aa i.2.1)) (
                      chk ((decide (0<=a.1)&&decide (a.1<↑(Aa i.2.1)))) (
                       chk (decide ((Ae a.1)<Aa i.2.1)) (
                        let A:=(AJ i.2.1 (Ae a.1) (let e:=Ak i.2.1 (Ae a.1) (am .atype);⟨e.kind,e.name,e.aliases,i.1,e.syms,e.hasdef,e.df,e.size,e.fields,e.branches⟩))
                        chk (As (Aa i.2.1) (Aa A)) (
                         G a.1 A i.2.2))))) (
                     some (.int .i64 a.1,[some [.ul .atype i.2.1,.int .i64 i.2.2]])))))) (
                 af (aU (reJ k) ([105,116,101,109,115]:Bs)) (λF=>
                  cond (!F.2) (
                   af (ah a.2.1 a.2.2 2) (λt=>
                    some (.int .i64 t.1,[some [.ul .atype t.2.1,.int .i64 t.2.2]]))) (
                   let L:=(Aj .i64 (o+1))
                   af (bb a.2.1 a.2.2 (reJ F.1) m L) (λg=>
                    cond (g.2.2==0) (
                     chk (decide (0<Aa g.2.1)) (
                      chk ((decide (0<=a.1)&&decide (a.1<↑(Aa g.2.1)))) (
                       chk (decide ((Ae a.1)<Aa g.2.1)) (
                        let C:=(AJ g.2.1 (Ae a.1) (let e:=Ak g.2.1 (Ae a.1) (am .atype);⟨e.kind,e.name,e.aliases,g.1,e.syms,e.hasdef,e.df,e.size,e.fields,e.branches⟩))
                        chk (As (Aa g.2.1) (Aa C)) (
                         G a.1 C g.2.2))))) (
                     some (.int .i64 a.1,[some [.ul .atype g.2.1,.int .i64 g.2.2]]))))))))) (
              af (fF d c j.1.s m) (λu=>
               some (.int .i64 u.1,[some [.ul .atype u.2.1,.int .i64 u.2.2]]))))))))))) (
      af (ah d c 2) (λq=>
       some (.int .i64 q.1,[some [.ul .atype q.2.1,.int .i64 q.2.2]])))))))
def tv(N:Nat)(a:List ab)(b:Int)(e:aa)(c:Bs)(d:Int):Ro:=tu N a b e c d
theorem aaL(N:Nat)(a:List ab)(b:Int)(k:aa)(i:Bs)(j:Int)(h:Tot (tv N a b k i j) (λz=>∃(c:Int)(d:List ab)(g:Int)(rest:List ai),z.1.dimR=.int .i64 c∧z.2=some [.ul .atype d,.int .i64 g]::rest∧di a b k i j (c,d,g))):∃r,bb a b k i j r:=FnK.finO (css:=[[.ul .atype a,.int .i64 b]]) abM (N:=N) (by kernel_rfl) h λ_ ⟨c,d,g,_,e,f,q⟩=>⟨(c,d,g),e,⟨_,f⟩,q⟩
noncomputable def akB:av:=tab (P:=Tryz.prog) [] [li] [] []
def ajm:IR:=Rs [Bx 1 0,Pp (.new 2 [nl .atype]),Mi 3 0] (Rs [Pp (.bld 5 [.ul .atype ([]:List ab),vI 0] []),Pp (.box 6 5),Mv 4 6] (Rs [Mv 7 4,Ld 8 5 true 1,Ca 9 16 [7,8,kS [],kI 1]] (Sq (Rs [Mv 10 4,Nk 11 10,Fa 12 1 11,Lo 13 12,Bc 14 .neq 13 0] (Cn 14 (Sq (.reg [Pp (.bld 15 [fu .atype true] []),Mv 16 4,Nk 17 16,Fa 18 1 17,Fo [1] [] (.ld 19 1 false false 18),Fo [] [0] (.st none 1 2 15),Mv 3 19] [[],[],[1],[1,2],[1,2,3],[0],rg 0 5]) .ret) .skip)) (Sq (.gh (.fz (.cell 1 0)) (Rg [Mv 20 4,Nk 21 20,Fa 22 0 21,Pp (.ld 23 1 true false 22),Sv 1 2 23,Mi 3 0])) .ret))))
def ajn:List RV:=[.cell 2 1 true,.t 3]
theorem ajo:FnC Tryz.prog akB [16,2000016] 0 abx Tryz.f9 ajm ajn:=fnC Tryz.func9
def aad(N:Nat)(g:aa):Ro:=
 let b:=λc d f e h=>(some (.tup [.agg [.sl .atype (.may c) d],.int .i64 f],[some [.sl .atype (.may c) d],some [e,.int .i64 h]]):Ro)
 af (bb ([]:List ab) 0 (reJ g) ([]:Bs) 1) (λa=>
  cond (!(a.2.2==0)) (
   b true ([]:List ab) a.2.2 (.ul .atype a.2.1) a.2.2) (
   b false a.2.1 0 (.sl .atype .own a.2.1) a.2.2))
def aae(N:Nat)(a:aa):Ro:=aad N a
theorem ah9(N:Nat)(c:aa)(h:Tot (aae N c) (λz=>∃(a:List ab)(b:Int)(rest:List ai),z.1.dimR=.tup [.agg [.sl .atype (.may false) a],.int .i64 b]∧z.2=rest∧xJ c (a,b))):∃r,nN c r:=ajo.finP (N:=N) (by kernel_rfl) h λ_ ⟨a,b,_,e,_,q⟩=>⟨(a,b),e,q⟩
noncomputable def ck:av:=tab (P:=Tryz.prog) [] [li,ct,lV] [52] [alW]
def pO:IR:=Sq (Rs [Mv 70 13,Mv 71 10,Ll 72 71,Bi 73 .lss 70 72] (Cn 73 .skip (.exit 2))) (Sq (.block 3 (Sq (.gh (.opn (.cell 0 0)) (.ghp (.cls (.cell 0 0)) (.reg [Mv 76 0,Nk 77 76,Fa 78 0 77,Fo [0] [] (.ld 79 1 true false 78),Mv 80 10,Mv 81 13,Ix 82 (.num .i64) 80 81,Lq 83 82,Fo [0,1] [] (.call 84 52 [79,83]),Mv 85 0,Nk 86 85,Fa 87 0 86,Fo [0] [] (.ld 88 1 true false 87),Mv 89 12,Fo [0,1] [] (.call 90 52 [88,89]),Bi 91 .eql 84 90] [[],[0],[0,1],[0,1,2],[],[],[4,5],[4,5,6],rg 0 7,[],[9],[9,10],[9,10,11],[],rg 0 13,rg 0 14]))) (Cn 91 (Rs [Mv 92 0,Ca 93 33 [92,kI 6],Mv 8 93] .ret) .skip))) (Rg [Mv 74 13,Bc 75 .add 74 1,Mv 13 75]))
def pP:IR:=Rg [Pp (.mov 94 (.tk 10)),Mv 95 12,Pp (.bsl 96 (.num .i64) [95] true),Pp (.app 97 (.num .i64) (.tk 94) 96),Pp (.mov 10 (.tk 97))]
def pQ:IR:=Rg [Mv 41 11,Bc 42 .add 41 1,Mv 11 42]
def gV:IR:=Sq (Rs [Mv 29 11,Fa 30 3 5,Lq 31 30,Ll 32 31,Bi 33 .lss 29 32,Mv 34 33,Gt 34 (.mov 35 0),Gt 34 (.nck 36 35),Gt 34 (.fad 37 1 36),Gt 34 (.ld 38 1 false false 37),Gt 34 (.bin 39 .eql 38 (kI 0)),Pa 40 34 39] (Cn 40 .skip (.exit 0))) (Sq (.block 1 (Rs [Mv 43 0,Fa 44 3 5,Lq 45 44,Mv 46 11,Ix 47 .jnode 45 46,Ld 48 5 true 47,Mv 49 2,Mv 50 3,Bc 51 .add 50 1,Ca 52 16 [43,48,49,51],Mv 12 52] (Sq (Rs [Mv 53 0,Nk 54 53,Fa 55 1 54,Lo 56 55,Bc 57 .neq 56 0] (Cn 57 (Rs [Mi 8 0] .ret) .skip)) (Sq (Sq (.gh (.opn (.cell 0 0)) (.ghp (.cls (.cell 0 0)) (Rg [Mv 58 0,Nk 59 58,Fa 60 0 59,Fa 61 0 60,Lo 62 61,Mv 63 12,Pp (.ixw 64 .atype 62 63),Pp (.fdw 65 0 64),Pp (.ldw 66 1 false 65),Bc 67 .eql 66 14]))) (Cn 67 (Rs [Mv 68 0,Ca 69 33 [68,kI 6],Mv 8 69] .ret) .skip)) (Sq (Rs [Mi 13 0] (.block 2 (.loop [0,2,3,5,9,10,11,12,13,1000000] 1 pO))) pP))))) pQ)
def lj:IR:=Sq (Rs [Mv 98 0,Nk 99 98,Fa 100 1 99,Lo 101 100,Bc 102 .eql 101 0] (Cn 102 (.gh (.opn (.cell 0 0)) (.ghp (.cls (.cell 0 0)) (Rg [Mv 103 0,Nk 104 103,Fa 105 0 104,Fa 106 0 105,Lo 107 106,Mv 108 9,Mv 109 10,Pp (.ixw 110 .atype 107 108),Pp (.fdw 111 9 110),Pp (.stw none 1 111 109)]))) .skip)) (Rs [Mv 112 9,Mv 8 112] .ret)
def aaM:IR:=Rs [Bx 5 1,Mi 8 0] (Rs [Mv 14 0,Pp (.bld 15 [vI 0,vS,fu .str true,vI 0,fu .str true,.bool false,vS,vI 0,fu .afield true,fu (.num .i64) true] [(0,1,kI 14)]),Ca 16 39 [14,15],Mv 9 16] (Sq (Rs [Fa 17 3 5,Lq 18 17,Ll 19 18,Bc 20 .eql 19 0] (Cn 20 (Rs [Mv 21 0,Ca 22 33 [21,kI 6],Mv 8 22] .ret) .skip)) (Sq (Rs [Fa 23 3 5,Lq 24 23,Ll 25 24,Bc 26 .gtr 25 30] (Cn 26 (Rs [Mv 27 0,Ca 28 33 [27,kI 3],Mv 8 28] .ret) .skip)) (Rs [Pp (.mov 10 (.c (nl (.num .i64))))] (Sq (Rs [Mi 11 0] (.block 0 (.loop [0,2,3,5,9,10,11,1000001] 1 gV))) lj)))))
def mR:List RV:=[.t 8]
theorem aaN:FnC Tryz.prog ck [16,33,39,52,2000016,2000033,2000039,2000052] 1 tq Tryz.f35 aaM mR:=fnC Tryz.func35
def jk(R:IR->(Ex->St->Ro)->St->Ro)(a:St->Ro):Ex->St->Ro:=(ce a [0,2,3,5,9,10,11,1000001] 1 (aG 0 (bR (R lj) (fin mR))))
abbrev cN:Type:=(Bs×Int×aa×Int×List Int×Int×List ab×Int)
def be(x:cN):St:={env:=(.ptr 0 0::.undef::.str x.1::.int .i64 x.2.1::.undef::.ea (enc .jnode x.2.2.1)::(U 3 (.int .i64 x.2.2.2.1::.sl (.num .i64) .own x.2.2.2.2.1::.int .i64 x.2.2.2.2.2.1::(U 101 [])))),hp:=[some [.ul .atype x.2.2.2.2.2.2.1,.int .i64 x.2.2.2.2.2.2.2]]}
def zD(R:IR->(Ex->St->Ro)->St->Ro)(b a:St->Ro):Ex->St->Ro:=(ce a [0,2,3,5,9,10,11,12,13,1000000] 1 (aG 2 (bR (R pP) (aG 1 (bR (R pQ) (jk R b))))))
abbrev jl:Type:=(Bs×Int×aa×Int×List Int×Int×Int×Int×List ab×Int)
def fp(x:jl):St:={env:=(.ptr 0 0::.undef::.str x.1::.int .i64 x.2.1::.undef::.ea (enc .jnode x.2.2.1)::(U 3 (.int .i64 x.2.2.2.1::.sl (.num .i64) .own x.2.2.2.2.1::.int .i64 x.2.2.2.2.2.1::.int .i64 x.2.2.2.2.2.2.1::.int .i64 x.2.2.2.2.2.2.2.1::(U 99 [])))),hp:=[some [.ul .atype x.2.2.2.2.2.2.2.2.1,.int .i64 x.2.2.2.2.2.2.2.2.2]]}
def jm(N:Nat)(b:St->Ro):(St->Ro)->St->Ro:=λa s=>run ck N pO (zD (run ck N) b a) s
def fN(N:Nat)(f:cN->Ro)(d:jl->Ro)(x:jl):Ro:=
 let o:Bs:=x.1;let q:Int:=x.2.1;let m:aa:=x.2.2.1;let p:Int:=x.2.2.2.1;let b:List Int:=x.2.2.2.2.1;let h:Int:=x.2.2.2.2.2.1;let g:Int:=x.2.2.2.2.2.2.1;let e:Int:=x.2.2.2.2.2.2.2.1;let a:List ab:=x.2.2.2.2.2.2.2.2.1;let c:Int:=x.2.2.2.2.2.2.2.2.2;let r:=(↑(Aa b):Int)
 cond (decide (e<r)) (
  chk (decide (0<Aa a)) (
   chk (ixl e b) (
    let w:=Ak b (Ae e) (am (.num .i64))
    amt (mq a w) ((As (Aa a) (Aa a)&&true)) (λ(u:Bs)=>
     amt (mq a g) ((As (Aa a) (Aa a)&&true)) (λ(v:Bs)=>
      chk (As (Aa a) (Aa a)) (
       cond (decide (u=v)) (
        af (ah a c 6) (λi=>
         some (.int .i64 i.1,[some [.ul .atype i.2.1,.int .i64 i.2.2],none,none]))) (
        let t:=(Aj .i64 (e+1))
        d (o,q,m,p,b,h,g,t,a,c)))))))) (
  chk (decide ((Aa b+Aa ([g]:List Int))*8<=140737488355328)) (
   let j:=(b++([g]:List Int))
   let k:=(Aj .i64 (h+1))
   f (o,q,m,p,j,k,a,c)))
theorem yY(N:Nat)(a:St->Ro):LB (jm N a) fp (fN N (λy=>a (be y))):=λ_ _=>by kernel_rfl
def jn(N:Nat):(St->Ro)->St->Ro:=λa s=>run ck N gV (jk (run ck N) a) s
def iC(N:Nat)(k:cN->Ro)(t:jl->Ro)(x:cN):Ro:=
 let p:Bs:=x.1;let r:Int:=x.2.1;let j:aa:=x.2.2.1;let e:Int:=x.2.2.2.1;let g:List Int:=x.2.2.2.2.1;let f:Int:=x.2.2.2.2.2.1;let a:List ab:=x.2.2.2.2.2.2.1;let b:Int:=x.2.2.2.2.2.2.2;let C:=(↑(Aa j.l):Int)
 let m:=λy w v=>(some (.int .i64 y,[some [.ul .atype w,.int .i64 v],none,none]):Ro)
 let q:=(some (.int .i64 e,[some [.ul .atype a,.int .i64 b]]):Ro)
 cond (decide (f<C)) (
  cond (b==0) (
   chk (ixl f j.l) (
    let B:=(Ak j.l (Ae f) (am .jnode))
    let A:=(Aj .i64 (r+1))
    af (bb a b (reJ B) p A) (λd=>
     cond (!(d.2.2==0)) (
      some (.int .i64 0,[some [.ul .atype d.2.1,.int .i64 d.2.2]])) (
      chk (decide (0<Aa d.2.1)) (
       chk ((decide (0<=d.1)&&decide (d.1<↑(Aa d.2.1)))) (
        chk (decide ((Ae d.1)<Aa d.2.1)) (
         let u:=(Ak d.2.1 (Ae d.1) (am .atype)).kind
         chk (As (Aa d.2.1) (Aa d.2.1)) (
          cond (u==14) (
           af (ah d.2.1 d.2.2 6) (λo=>
            m o.1 o.2.1 o.2.2)) (
           t (p,r,j,e,g,f,d.1,0,d.2.1,d.2.2)))))))))) (
   cond (b==0) (
    chk (decide (0<Aa a)) (
     chk ((decide (0<=e)&&decide (e<↑(Aa a)))) (
      chk (decide ((Ae e)<Aa a)) (
       let i:=(AJ a (Ae e) (let c:=Ak a (Ae e) (am .atype);⟨c.kind,c.name,c.aliases,c.items,c.syms,c.hasdef,c.df,c.size,c.fields,g⟩))
       chk (As (Aa a) (Aa i)) (
        m e i b))))) (
    q))) (
  cond (b==0) (
   chk (decide (0<Aa a)) (
    chk ((decide (0<=e)&&decide (e<↑(Aa a)))) (
     chk (decide ((Ae e)<Aa a)) (
      let h:=(AJ a (Ae e) (let c:=Ak a (Ae e) (am .atype);⟨c.kind,c.name,c.aliases,c.items,c.syms,c.hasdef,c.df,c.size,c.fields,g⟩))
      chk (As (Aa a) (Aa h)) (
       m e h b))))) (
   q))
def jo(N:Nat)(a:cN->Ro)(x:cN):Ro:=iC N a (λz=>aO N (fN N a) z) x
def me(N:Nat)(a:St->Ro):List (Nat×(St->Ro)):=(d5 ck N gV (jk (run ck N) a)++(d5 ck N lj (fin mR)++[]))
theorem yZ(N:Nat):∀(a:St->Ro)(x:cN),jn N a (be x)=jo N (λy=>a (be y)) x:=by
 intro a x;have b:∀C:Nat->St->Ro,dn C ck N gV (jk (dn C ck N) a) (be x)=iC N (λy=>a (be y)) (λz=>C 1000000 (fp z)) x:=by intro C;kernel_rfl
 have h:jn N a (be x)=iC N (λy=>a (be y)) (λz=>bg N (jm N a) (fp z)) x:=(kP (C:=mz (me N a)) (eY (bV (l:=(me N a)) (by kernel_rfl))) (qn (iU (np (eY (iu (bV (l:=(me N a)) (by kernel_rfl)))) rfl))) _).trans ((b _).trans (by kernel_rfl));have c:(λz=>bg N (jm N a) (fp z))=(λz=>aO N (fN N (λy=>a (be y))) z):=funext λz=>bz (fp) (jm N a) (fN N (λy=>a (be y))) (yY N a) N z
 rw[h,c];rfl
def gi(N:Nat)(b:List ab)(c:Int)(f:aa)(i:Bs)(j:Int)(k:cN->Ro):Ro:=
 af (bD b c ⟨14,([]:Bs),([]:Bss),0,([]:Bss),false,([]:Bs),0,([]:List aA),([]:List Int)⟩) (λa=>
  let g:=(↑(Aa f.l):Int)
  cond (g==0) (
   af (ah a.2.1 a.2.2 6) (λe=>
    some (.int .i64 e.1,[some [.ul .atype e.2.1,.int .i64 e.2.2]]))) (
   let h:=(↑(Aa f.l):Int)
   cond (decide (30<h)) (
    af (ah a.2.1 a.2.2 3) (λd=>
     some (.int .i64 d.1,[some [.ul .atype d.2.1,.int .i64 d.2.2]]))) (
    k (i,j,f,a.1,([]:List Int),0,a.2.1,a.2.2))))
def rX(N:Nat)(a:List ab)(b:Int)(e:aa)(c:Bs)(d:Int):Ro:=gi N a b e c d (λz=>aO N (jo N) z)
theorem zE(N:Nat)(a:List ab)(c:Int)(i:aa)(d:Bs)(g:Int)(h:Tot (rX N a c i d g) (λz=>∃(j:Int)(k:List ab)(m:Int)(rest:List ai),z.1.dimR=.int .i64 j∧z.2=some [.ul .atype k,.int .i64 m]::rest∧dL a c i d g (j,k,m))):∃r,gM a c i d g r:=FnK.finO (css:=[[.ul .atype a,.int .i64 c]]) aaN (N:=N) ((cV _ (by kernel_rfl) rfl (λC=>gi N a c i d g (λz=>C 1000001 (be z))) (λC=>by kernel_rfl)).trans (A3 (b:=gi N a c i d g (λz=>bg N (jn N) (be z))) (by kernel_rfl) (congrArg (gi N a c i d g) (funext λz=>bz (be) (jn N) (jo N) (yZ N) N z)))) h λ_ ⟨j,k,m,_,e,f,q⟩=>⟨(j,k,m),e,⟨_,f⟩,q⟩
noncomputable def aB:av:=tab (P:=Tryz.prog) [] [li,ct,oN,nP] [] [nO,xq]
def gv:IR:=Sq (Rs [Mv 81 16,Mv 82 12,Ll 83 82,Bi 84 .lss 81 83] (Cn 84 .skip (.exit 2))) (Sq (.block 3 (Sq (.reg [Mv 87 12,Mv 88 16,Ix 89 .afield 87 88,Fa 90 0 89,Fo [] [] (.ld 91 1 false false 90),Fa 92 0 15,Fo [1] [] (.ld 93 1 false false 92),Bi 94 .eql 91 93] [[],[],[0,1],[0,1,2],rg 0 3,[],[5],rg 0 6]) (Cn 94 (Rg [Mv 95 0,Ca 96 33 [95,kI 5]]) .skip))) (Rg [Mv 85 16,Bc 86 .add 85 1,Mv 16 86]))
def ph:IR:=Sq (Rs [Mv 127 19,Fa 128 1 15,Lo 129 128,Ll 130 129,Bi 131 .lss 127 130,Mv 132 131,Gt 132 (.mov 133 0),Gt 132 (.nck 134 133),Gt 132 (.fad 135 1 134),Gt 132 (.ld 136 1 false false 135),Gt 132 (.bin 137 .eql 136 (kI 0)),Pa 138 132 137] (Cn 138 .skip (.exit 4))) (Sq (.block 5 (Rs [Fa 141 1 15,Lo 142 141,Mv 143 19,Ix 144 .str 142 143,Lq 145 144,Ca 146 70 [145],Un 147 146] (Cn 147 (Rg [Mv 148 0,Ca 149 33 [148,kI 6]]) .skip))) (Rg [Mv 139 19,Bc 140 .add 139 1,Mv 19 140]))
def pi:IR:=Rg [Pp (.mov 150 (.tk 12)),Pp (.ld 151 9 true false 15),Pp (.bsl 152 .afield [151] true),Pp (.app 153 .afield (.tk 150) 152),Pp (.mov 12 (.tk 153))]
def kV:IR:=Rs [Ld 98 5 true 14,Ca 99 36 [98,kS [116,121,112,101]],Mv 97 99,Ex_ 100 0 97,Ex_ 101 1 97,Pp (.alr 17 5),Fz 17 5 100,Mv 18 101] (Sq (Rs [Mv 102 18,Un 103 102] (Cn 103 (Rg [Mv 104 0,Ca 105 33 [104,kI 2]]) .skip)) (Rs [Mv 106 0,Ld 107 5 true 17,Mv 108 3,Mv 109 4,Bc 110 .add 109 1,Ca 111 16 [106,107,108,110],Fa 112 2 15,Sv 1 112 111] (Rs [Ld 114 5 true 14,Ca 115 36 [114,kS [100,101,102,97,117,108,116]],Mv 113 115,Ex_ 116 0 113,Ex_ 117 1 113,Fa 118 4 15,Sv 5 118 116,Fa 119 3 15,Sv 1 119 117] (Rs [Mv 121 0,Ld 122 5 true 14,Ca 123 56 [121,122,kS [97,108,105,97,115,101,115]],Mv 120 123,Ex_ 124 0 120,Ex_ 125 1 120,Fa 126 1 15,Sk 1 126 124] (Sq (Rs [Mi 19 0] (.block 4 (.loop [0,2,3,4,10,12,13,15,19,1000001] 2 ph))) pi)))))
def ez:IR:=Rg [Mv 52 13,Bc 53 .add 52 1,Mv 13 53]
def gw:IR:=Sq (Rs [Mv 40 13,Fa 41 3 10,Lq 42 41,Ll 43 42,Bi 44 .lss 40 43,Mv 45 44,Gt 45 (.mov 46 0),Gt 45 (.nck 47 46),Gt 45 (.fad 48 1 47),Gt 45 (.ld 49 1 false false 48),Gt 45 (.bin 50 .eql 49 (kI 0)),Pa 51 45 50] (Cn 51 .skip (.exit 0))) (Sq (.block 1 (Rs [Fa 54 3 10,Lq 55 54,Mv 56 13,Ix 57 .jnode 55 56,Ld 58 5 true 57,Pp (.alr 14 5),Fz 14 5 58] (Sq (Rs [Fa 59 0 14,Lq 60 59,Bc 61 .neq 60 6] (Cn 61 (Rs [Mv 62 0,Ca 63 33 [62,kI 2]] .ret) .skip)) (Rs [Mv 64 0,Ld 65 5 true 14,Ca 66 53 [64,65,kS [110,97,109,101],kB true],Pp (.bld 67 [vS,nl .str,vI 0,.bool false,vI 0,vI 0,vS,nl .jnode,nl .str] [(0,1,66)]),Pp (.new 15 [vS,nl .str,vI 0,.bool false,vI 0,vI 0,vS,nl .jnode,nl .str]),Sv 9 15 67] (Sq (Rs [Mv 68 0,Nk 69 68,Fa 70 1 69,Lo 71 70,Bc 72 .eql 71 0,Mv 73 72,Gt 73 (.fad 74 0 15),Gt 73 (.ld 75 1 false false 74),Gt 73 (.call 76 70 [75]),Gt 73 (.un 77 .not 76),Pa 78 73 77] (Cn 78 (Rg [Mv 79 0,Ca 80 33 [79,kI 6]]) .skip)) (Sq (Rs [Mi 16 0] (.block 2 (.loop [0,2,3,4,10,12,13,14,15,16,1000000] 2 gv))) kV)))))) ez)
def gz:IR:=Rs [Mv 154 0,Nk 155 154,Fa 156 1 155,Lo 157 156,Bc 158 .eql 157 0] (Cn 158 (.gh (.opn (.cell 0 0)) (.ghp (.cls (.cell 0 0)) (Rg [Mv 159 0,Nk 160 159,Fa 161 0 160,Fa 162 0 161,Lo 163 162,Mv 164 2,Mv 165 12,Pp (.ixw 166 .atype 163 164),Pp (.fdw 167 8 166),Pp (.stw none 1 167 165)]))) .skip)
def zF:IR:=Rs [Bx 6 1] (Rs [Ld 21 5 true 6,Ca 22 36 [21,kS [102,105,101,108,100,115]],Mv 20 22,Ex_ 23 0 20,Ex_ 24 1 20,Pp (.alr 10 5),Fz 10 5 23,Mv 11 24] (Sq (Rs [Mv 25 11,Un 26 25,Mv 27 26,Gf 27 (.fad 28 0 10),Gf 27 (.lde 29 1 false 28),Gf 27 (.bin 30 .neq 29 (kI 5)),Po 31 27 30] (Cn 31 (Rs [Mv 32 0,Ca 33 33 [32,kI 2]] .ret) .skip)) (Sq (Rs [Fa 34 3 10,Lq 35 34,Ll 36 35,Bc 37 .gtr 36 30] (Cn 37 (Rs [Mv 38 0,Ca 39 33 [38,kI 3]] .ret) .skip)) (Rs [Pp (.mov 12 (.c (nl .afield)))] (Sq (Rs [Mi 13 0] (.block 0 (.loop [0,2,3,4,10,12,13,1000002] 1 gw))) gz)))))
def jp:List RV:=[]
theorem zG:FnC Tryz.prog aB [16,33,53,56,2000016,2000033,2000053,2000056] 1 rU Tryz.f57 zF jp:=fnC Tryz.func57
def c7(R:IR->(Ex->St->Ro)->St->Ro)(a:St->Ro):Ex->St->Ro:=(ce a [0,2,3,4,10,12,13,1000002] 1 (aG 0 (bR (R gz) (fin jp))))
abbrev bQ:Type:=(Int×Bs×Int×aa×List aA×Int×List ab×Int)
def aF(x:bQ):St:={env:=(.ptr 0 0::.undef::.int .i64 x.1::.str x.2.1::.int .i64 x.2.2.1::(U 5 (.ea (enc .jnode x.2.2.2.1)::.undef::.sl .afield .own x.2.2.2.2.1::.int .i64 x.2.2.2.2.2.1::(U 154 [])))),hp:=[some [.ul .atype x.2.2.2.2.2.2.1,.int .i64 x.2.2.2.2.2.2.2]]}
def lJ(R:IR->(Ex->St->Ro)->St->Ro)(b a:St->Ro):Ex->St->Ro:=(ce a [0,2,3,4,10,12,13,14,15,16,1000000] 2 (aG 2 (bR (R kV) (aG 1 (bR (R ez) (c7 R b))))))
abbrev c8:Type:=(Int×Bs×Int×aa×List aA×Int×aa×Int×List ab×Int×Bs×Bss×Int×Bool×Int×Int×Bs×List aa×Bss)
def bG(x:c8):St:={env:=(.ptr 0 0::.undef::.int .i64 x.1::.str x.2.1::.int .i64 x.2.2.1::(U 5 (.ea (enc .jnode x.2.2.2.1)::.undef::.sl .afield .own x.2.2.2.2.1::.int .i64 x.2.2.2.2.2.1::.ea (enc .jnode x.2.2.2.2.2.2.1)::.ptr 1 0::.int .i64 x.2.2.2.2.2.2.2.1::(U 151 [])))),hp:=[some [.ul .atype x.2.2.2.2.2.2.2.2.1,.int .i64 x.2.2.2.2.2.2.2.2.2.1],some [.str x.2.2.2.2.2.2.2.2.2.2.1,.sl .str .own x.2.2.2.2.2.2.2.2.2.2.2.1,.int .i64 x.2.2.2.2.2.2.2.2.2.2.2.2.1,.bool x.2.2.2.2.2.2.2.2.2.2.2.2.2.1,.int .i64 x.2.2.2.2.2.2.2.2.2.2.2.2.2.2.1,.int .i64 x.2.2.2.2.2.2.2.2.2.2.2.2.2.2.2.1,.str x.2.2.2.2.2.2.2.2.2.2.2.2.2.2.2.2.1,.sl .jnode .own x.2.2.2.2.2.2.2.2.2.2.2.2.2.2.2.2.2.1,.sl .str .own x.2.2.2.2.2.2.2.2.2.2.2.2.2.2.2.2.2.2]]}
def za(R:IR->(Ex->St->Ro)->St->Ro)(b a:St->Ro):Ex->St->Ro:=(ce a [0,2,3,4,10,12,13,15,19,1000001] 2 (aG 4 (bR (R pi) (aG 1 (bR (R ez) (c7 R b))))))
abbrev iD:Type:=(Int×Bs×Int×aa×List aA×Int×Int×List ab×Int×Bs×Bss×Int×Bool×Int×Int×Bs×List aa×Bss)
def eQ(x:iD):St:={env:=(.ptr 0 0::.undef::.int .i64 x.1::.str x.2.1::.int .i64 x.2.2.1::(U 5 (.ea (enc .jnode x.2.2.2.1)::.undef::.sl .afield .own x.2.2.2.2.1::.int .i64 x.2.2.2.2.2.1::.undef::.ptr 1 0::(U 3 (.int .i64 x.2.2.2.2.2.2.1::(U 148 [])))))),hp:=[some [.ul .atype x.2.2.2.2.2.2.2.1,.int .i64 x.2.2.2.2.2.2.2.2.1],some [.str x.2.2.2.2.2.2.2.2.2.1,.sl .str (.may false) x.2.2.2.2.2.2.2.2.2.2.1,.int .i64 x.2.2.2.2.2.2.2.2.2.2.2.1,.bool x.2.2.2.2.2.2.2.2.2.2.2.2.1,.int .i64 x.2.2.2.2.2.2.2.2.2.2.2.2.2.1,.int .i64 x.2.2.2.2.2.2.2.2.2.2.2.2.2.2.1,.str x.2.2.2.2.2.2.2.2.2.2.2.2.2.2.2.1,.sl .jnode (.may false) x.2.2.2.2.2.2.2.2.2.2.2.2.2.2.2.2.1,.sl .str (.may false) x.2.2.2.2.2.2.2.2.2.2.2.2.2.2.2.2.2]]}
def iE(N:Nat)(a:St->Ro):(St->Ro)->St->Ro:=λb s=>run aB N ph (za (run aB N) a b) s
def dN(N:Nat)(m:bQ->Ro)(q:iD->Ro)(x:iD):Ro:=
 let w:Int:=x.1;let H:Bs:=x.2.1;let A:Int:=x.2.2.1;let t:aa:=x.2.2.2.1;let p:List aA:=x.2.2.2.2.1;let r:Int:=x.2.2.2.2.2.1;let o:Int:=x.2.2.2.2.2.2.1;let k:List ab:=x.2.2.2.2.2.2.2.1;let i:Int:=x.2.2.2.2.2.2.2.2.1;let b:Bs:=x.2.2.2.2.2.2.2.2.2.1;let a:Bss:=x.2.2.2.2.2.2.2.2.2.2.1;let f:Int:=x.2.2.2.2.2.2.2.2.2.2.2.1;let g:Bool:=x.2.2.2.2.2.2.2.2.2.2.2.2.1;let d:Int:=x.2.2.2.2.2.2.2.2.2.2.2.2.2.1;let e:Int:=x.2.2.2.2.2.2.2.2.2.2.2.2.2.2.1;let c:Bs:=x.2.2.2.2.2.2.2.2.2.2.2.2.2.2.2.1;let h:List aa:=x.2.2.2.2.2.2.2.2.2.2.2.2.2.2.2.2.1;let j:Bss:=x.2.2.2.2.2.2.2.2.2.2.2.2.2.2.2.2.2;let J:=(↑(Aa a):Int)
 let I:=λO M L=>q (w,H,A,t,p,r,O,M,L,b,a,f,g,d,e,c,h,j)
 cond (decide (o<J)) (
  cond (i==0) (
   chk (ixl o a) (
    let D:=Ak a (Ae o) (am .str)
    af (gu D) (λ(C:Bool)=>
     cond (!C) (
      af (ah k i 6) (λu=>
       let G:=(Aj .i64 (o+1))
       I G u.2.1 u.2.2)) (
      let F:=(Aj .i64 (o+1))
      I F k i)))) (
   chk (decide ((Aa p+Aa ([⟨b,a,f,g,⟨d,e,c,h,j⟩⟩]:List aA))*136<=140737488355328)) (
    let E:=(p++([⟨b,a,f,g,⟨d,e,c,h,j⟩⟩]:List aA))
    let v:=(Aj .i64 (r+1))
    m (w,H,A,t,E,v,k,i)))) (
  chk (decide ((Aa p+Aa ([⟨b,a,f,g,⟨d,e,c,h,j⟩⟩]:List aA))*136<=140737488355328)) (
   let B:=(p++([⟨b,a,f,g,⟨d,e,c,h,j⟩⟩]:List aA))
   let y:=(Aj .i64 (r+1))
   m (w,H,A,t,B,y,k,i)))
theorem yk(N:Nat)(a:St->Ro):LB (iE N a) eQ (dN N (λy=>a (aF y))):=λ_ _=>by kernel_rfl
def ft(N:Nat)(b:St->Ro):(St->Ro)->St->Ro:=λa s=>run aB N gv (lJ (run aB N) b a) s
def gW(N:Nat)(G:bQ->Ro)(i:c8->Ro)(L:iD->Ro)(x:c8):Ro:=
 let H:Int:=x.1;let E:Bs:=x.2.1;let w:Int:=x.2.2.1;let q:aa:=x.2.2.2.1;let g:List aA:=x.2.2.2.2.1;let o:Int:=x.2.2.2.2.2.1;let f:aa:=x.2.2.2.2.2.2.1;let h:Int:=x.2.2.2.2.2.2.2.1;let b:List ab:=x.2.2.2.2.2.2.2.2.1;let c:Int:=x.2.2.2.2.2.2.2.2.2.1;let a:Bs:=x.2.2.2.2.2.2.2.2.2.2.1;let v:Bss:=x.2.2.2.2.2.2.2.2.2.2.2.1;let A:Int:=x.2.2.2.2.2.2.2.2.2.2.2.2.1;let B:Bool:=x.2.2.2.2.2.2.2.2.2.2.2.2.2.1;let u:Int:=x.2.2.2.2.2.2.2.2.2.2.2.2.2.2.1;let y:Int:=x.2.2.2.2.2.2.2.2.2.2.2.2.2.2.2.1;let t:Bs:=x.2.2.2.2.2.2.2.2.2.2.2.2.2.2.2.2.1;let C:List aa:=x.2.2.2.2.2.2.2.2.2.2.2.2.2.2.2.2.2.1;let F:Bss:=x.2.2.2.2.2.2.2.2.2.2.2.2.2.2.2.2.2.2;let X:=(↑(Aa g):Int)
 let J:=λS R Q=>i (H,E,w,q,g,o,f,S,R,Q,a,v,A,B,u,y,t,C,F)
 cond (decide (h<X)) (
  chk (ixl h g) (
   let W:=(Ak g (Ae h) (am .afield))
   cond (decide (W.name=a)) (
    af (ah b c 5) (λM=>
     let P:=(Aj .i64 (h+1))
     J P M.2.1 M.2.2)) (
    let O:=(Aj .i64 (h+1))
    J O b c))) (
  af (aU (reJ f) ([116,121,112,101]:Bs)) (λr=>
   cond (!r.2) (
    af (ah b c 2) (λD=>
     let Y:=(Aj .i64 (w+1))
     af (bb D.2.1 D.2.2 (reJ r.1) E Y) (λm=>
      af (aU (reJ f) ([100,101,102,97,117,108,116]:Bs)) (λe=>
       af (bI m.2.1 m.2.2 (reJ f) ([97,108,105,97,115,101,115]:Bs)) (λp=>
        L (H,E,w,q,g,o,0,p.2.2.1,p.2.2.2,a,p.1,m.1,e.2,e.1.kind,e.1.n,e.1.s,e.1.l,e.1.names)))))) (
    let I:=(Aj .i64 (w+1))
    af (bb b c (reJ r.1) E I) (λj=>
     af (aU (reJ f) ([100,101,102,97,117,108,116]:Bs)) (λd=>
      af (bI j.2.1 j.2.2 (reJ f) ([97,108,105,97,115,101,115]:Bs)) (λk=>
       L (H,E,w,q,g,o,0,k.2.2.1,k.2.2.2,a,k.1,j.1,d.2,d.1.kind,d.1.n,d.1.s,d.1.l,d.1.names)))))))
def dO(N:Nat)(a:bQ->Ro)(b:c8->Ro)(x:c8):Ro:=gW N a b (λz=>aO N (dN N a) z) x
def fv(N:Nat)(a b:St->Ro):List (Nat×(St->Ro)):=(d5 aB N gv (lJ (run aB N) a b)++(d5 aB N kV (aG 1 (bR (run aB N ez) (c7 (run aB N) a)))++(d5 aB N ez (c7 (run aB N) a)++(d5 aB N gz (fin jp)++[]))))
theorem yl(N:Nat)(a:St->Ro):∀(b:St->Ro)(x:c8),ft N a b (bG x)=dO N (λy=>a (aF y)) (λy=>b (bG y)) x:=by
 intro b x;have c:∀C:Nat->St->Ro,dn C aB N gv (lJ (dn C aB N) a b) (bG x)=gW N (λy=>a (aF y)) (λy=>b (bG y)) (λz=>C 1000001 (eQ z)) x:=by intro C;kernel_rfl
 have h:ft N a b (bG x)=gW N (λy=>a (aF y)) (λy=>b (bG y)) (λz=>bg N (iE N a) (eQ z)) x:=(kP (C:=mz (fv N a b)) (eY (bV (l:=(fv N a b)) (by kernel_rfl))) (qn (iU (np (eY (iu (bV (l:=(fv N a b)) (by kernel_rfl)))) (iU (np (eY (iu (iu (bV (l:=(fv N a b)) (by kernel_rfl))))) (qn (iU (np (eY (iu (iu (iu (bV (l:=(fv N a b)) (by kernel_rfl)))))) rfl)))))))) _).trans ((c _).trans (by kernel_rfl));have d:(λz=>bg N (iE N a) (eQ z))=(λz=>aO N (dN N (λy=>a (aF y))) z):=funext λz=>bz (eQ) (iE N a) (dN N (λy=>a (aF y))) (yk N a) N z
 rw[h,d];rfl
def iG(N:Nat):(St->Ro)->St->Ro:=λa s=>run aB N gw (c7 (run aB N) a) s
def eR(N:Nat)(o:bQ->Ro)(w:c8->Ro)(x:bQ):Ro:=
 let d:Int:=x.1;let E:Bs:=x.2.1;let A:Int:=x.2.2.1;let g:aa:=x.2.2.2.1;let h:List aA:=x.2.2.2.2.1;let f:Int:=x.2.2.2.2.2.1;let a:List ab:=x.2.2.2.2.2.2.1;let b:Int:=x.2.2.2.2.2.2.2;let y:=(↑(Aa g.l):Int)
 let q:=λj r=>(some (.tup [],[some [.ul .atype j,.int .i64 r]]):Ro)
 let v:=λj=>(some (.tup [],[some [.ul .atype j,.int .i64 b],none,none]):Ro)
 let p:=λj r B C=>w (d,E,A,g,h,f,j,0,r,B,C,([]:Bss),0,false,0,0,([]:Bs),([]:List aa),([]:Bss))
 cond (decide (f<y)) (
  cond (b==0) (
   chk (ixl f g.l) (
    let m:=(Ak g.l (Ae f) (am .jnode))
    cond (!(m.kind==6)) (
     af (ah a b 2) (λu=>
      q u.2.1 u.2.2)) (
     af (cu a b (reJ m) ([110,97,109,101]:Bs) true) (λe=>
      cond (e.2.2==0) (
       af (gu e.1) (λ(D:Bool)=>
        cond (!D) (
         af (ah e.2.1 e.2.2 6) (λt=>
          p m t.2.1 t.2.2 e.1)) (
         p m e.2.1 e.2.2 e.1))) (
       p m e.2.1 e.2.2 e.1))))) (
   cond (b==0) (
    chk (decide (0<Aa a)) (
     chk ((decide (0<=d)&&decide (d<↑(Aa a)))) (
      chk (decide ((Ae d)<Aa a)) (
       let k:=(AJ a (Ae d) (let c:=Ak a (Ae d) (am .atype);⟨c.kind,c.name,c.aliases,c.items,c.syms,c.hasdef,c.df,c.size,h,c.branches⟩))
       chk (As (Aa a) (Aa k)) (
        v k))))) (
    q a b))) (
  cond (b==0) (
   chk (decide (0<Aa a)) (
    chk ((decide (0<=d)&&decide (d<↑(Aa a)))) (
     chk (decide ((Ae d)<Aa a)) (
      let i:=(AJ a (Ae d) (let c:=Ak a (Ae d) (am .atype);⟨c.kind,c.name,c.aliases,c.items,c.syms,c.hasdef,c.df,c.size,h,c.branches⟩))
      chk (As (Aa a) (Aa i)) (
       v i))))) (
   q a b))
def c9(N:Nat)(a:bQ->Ro)(x:bQ):Ro:=eR N a (λz=>aO N (dO N a) z) x
def lK(N:Nat)(a:St->Ro):List (Nat×(St->Ro)):=(d5 aB N gw (c7 (run aB N) a)++(d5 aB N gz (fin jp)++[]))
theorem ym(N:Nat):∀(a:St->Ro)(x:bQ),iG N a (aF x)=c9 N (λy=>a (aF y)) x:=by
 intro a x;have b:∀C:Nat->St->Ro,dn C aB N gw (c7 (dn C aB N) a) (aF x)=eR N (λy=>a (aF y)) (λz=>C 1000000 (bG z)) x:=by intro C;kernel_rfl
 have h:iG N a (aF x)=eR N (λy=>a (aF y)) (λz=>bg N (ft N a) (bG z)) x:=(kP (C:=mz (lK N a)) (eY (bV (l:=(lK N a)) (by kernel_rfl))) (qn (iU (np (eY (iu (bV (l:=(lK N a)) (by kernel_rfl)))) rfl))) _).trans ((b _).trans (by kernel_rfl));have c:(λz=>bg N (ft N a) (bG z))=(λz=>aO N (dO N (λy=>a (aF y))) z):=funext λz=>bz (bG) (ft N a) (dO N (λy=>a (aF y))) (yl N a) N z
 rw[h,c];rfl
def eb(N:Nat)(a:List ab)(b:Int)(k:aa)(j:Int)(p:Bs)(m:Int)(o:bQ->Ro):Ro:=
 let d:=λi q=>(some (.tup [],[some [.ul .atype i,.int .i64 q]]):Ro)
 af (aU (reJ k) ([102,105,101,108,100,115]:Bs)) (λc=>
  cond (!c.2) (
   af (ah a b 2) (λg=>
    d g.2.1 g.2.2)) (
   cond (!(c.1.kind==5)) (
    af (ah a b 2) (λf=>
     d f.2.1 f.2.2)) (
    let h:=(↑(Aa c.1.l):Int)
    cond (decide (30<h)) (
     af (ah a b 3) (λe=>
      d e.2.1 e.2.2)) (
     o (j,p,m,c.1,([]:List aA),0,a,b)))))
def mf(N:Nat)(a:List ab)(b:Int)(f:aa)(c:Int)(e:Bs)(d:Int):Ro:=eb N a b f c e d (λz=>aO N (c9 N) z)
theorem qE(N:Nat)(a:List ab)(c:Int)(j:aa)(d:Int)(i:Bs)(g:Int)(h:Tot (mf N a c j d i g) (λz=>∃(k:List ab)(m:Int)(rest:List ai),z.1.dimR=.tup []∧z.2=some [.ul .atype k,.int .i64 m]::rest∧bm a c j d i g (k,m))):∃r,bB a c j d i g r:=FnK.finO (css:=[[.ul .atype a,.int .i64 c]]) zG (N:=N) ((cV _ (by kernel_rfl) rfl (λC=>eb N a c j d i g (λz=>C 1000002 (aF z))) (λC=>by kernel_rfl)).trans (A3 (b:=eb N a c j d i g (λz=>bg N (iG N) (aF z))) (by kernel_rfl) (congrArg (eb N a c j d i g) (funext λz=>bz (aF) (iG N) (c9 N) (ym N) N z)))) h λ_ ⟨k,m,_,e,f,q⟩=>⟨(k,m),e,⟨_,f⟩,q⟩
noncomputable def acY:av:=tab (P:=Tryz.prog) [] [] [] []
def abN:IR:=Rs [Mi 4 0] (Sq (Rs [Mv 5 0,Nk 6 5,Fa 7 1 6,Lo 8 7,Bc 9 .eql 8 0] (Cn 9 (Rg [Mv 10 0,Mv 11 1,Nk 12 10,Fa 13 1 12,Sv 1 13 11]) .skip)) (Rs [Mi 4 0] .ret))
def abO:List RV:=[.t 4]
theorem abP:FnC Tryz.prog acY [] 1 uw Tryz.f33 abN abO:=fnC Tryz.func33
def tw(N:Nat)(b:List ab)(a e:Int):Ro:=
 let c:=λd=>(some (.int .i64 0,[some [.ul .atype b,.int .i64 d]]):Ro)
 cond (a==0) (
  c e) (
  c a)
def tx(N:Nat)(a:List ab)(b c:Int):Ro:=tw N a b c
theorem aaO(N:Nat)(a:List ab)(b i:Int)(h:Tot (tx N a b i) (λz=>∃(c:Int)(d:List ab)(g:Int)(rest:List ai),z.1.dimR=.int .i64 c∧z.2=some [.ul .atype d,.int .i64 g]::rest∧jh a b i (c,d,g))):∃r,ah a b i r:=FnK.finO (css:=[[.ul .atype a,.int .i64 b]]) abP (N:=N) (by kernel_rfl) h λ_ ⟨c,d,g,_,e,f,q⟩=>⟨(c,d,g),e,⟨_,f⟩,q⟩
noncomputable def aec:av:=tab (P:=Tryz.prog) [] [ct] [] []
def acZ:IR:=Rs [Bx 3 1,Mi 4 0] (Sq (Rs [Mv 5 0,Nk 6 5,Fa 7 0 6,Fa 8 0 7,Lo 9 8,Pp (.lnw 10 9),Bc 11 .geq 10 60] (Cn 11 (Rs [Mv 12 0,Ca 13 33 [12,kI 3],Mv 4 13] .ret) .skip)) (Sq (.reg [Mv 14 0,Mv 15 0,Nk 16 15,Fa 17 0 16,Fa 18 0 17,Fo [] [0] (.ld 19 1 false true 18),Ld 20 10 true 3,Pp (.bsl 21 .atype [20] true),Pp (.apu 22 .atype (.tk 19) 21),Nk 23 14,Fa 24 0 23,Fa 25 0 24,Fo [] [0] (.st none 1 25 (.tk 22))] [[],[],[1],[1,2],[1,2,3],rg 1 4,[],[6],rg 1 7,rg 0 8,rg 0 9,rg 0 10,rg 0 11]) (Rs [Mv 26 0,Nk 27 26,Fa 28 0 27,Fa 29 0 28,Lo 30 29,Pp (.lnw 31 30),Bc 32 .sub 31 1,Mv 4 32] .ret)))
def ac0:List RV:=[.t 4]
theorem ac1:FnC Tryz.prog aec [33,2000033] 1 vu Tryz.f39 acZ ac0:=fnC Tryz.func39
def uE(N:Nat)(a:List ab)(b:Int)(e:ab):Ro:=
 let f:=(↑(Aa a):Int)
 cond (decide (60<=f)) (
  af (ah a b 3) (λc=>
   some (.int .i64 c.1,[some [.ul .atype c.2.1,.int .i64 c.2.2]]))) (
  chk (decide ((Aa a+Aa ([e]:List ab))*160<=140737488355328)) (
   let d:=(a++([e]:List ab))
   let h:=(↑(Aa d):Int)
   let g:=(Aj .i64 (h-1))
   some (.int .i64 g,[some [.ul .atype d,.int .i64 b]])))
def uG(N:Nat)(a:List ab)(b:Int)(c:ab):Ro:=uE N a b c
theorem abQ(N:Nat)(a:List ab)(b:Int)(i:ab)(h:Tot (uG N a b i) (λz=>∃(c:Int)(d:List ab)(g:Int)(rest:List ai),z.1.dimR=.int .i64 c∧z.2=some [.ul .atype d,.int .i64 g]::rest∧gc a b i (c,d,g))):∃r,bD a b i r:=FnK.finO (css:=[[.ul .atype a,.int .i64 b]]) ac1 (N:=N) (by kernel_rfl) h λ_ ⟨c,d,g,_,e,f,q⟩=>⟨(c,d,g),e,⟨_,f⟩,q⟩
noncomputable def oO:av:=tab (P:=Tryz.prog) [] [] [] []
def rx:IR:=Sq (Rs [Mv 8 6,Mv 9 0,Nk 10 9,Fa 11 0 10,Fa 12 0 11,Lo 13 12,Pp (.lnw 14 13),Bi 15 .lss 8 14] (Cn 15 .skip (.exit 0))) (Sq (.block 1 (Sq (.gh (.opn (.cell 0 0)) (.ghp (.cls (.cell 0 0)) (Rg [Mv 18 0,Nk 19 18,Fa 20 0 19,Fa 21 0 20,Lo 22 21,Mv 23 6,Pp (.ixw 24 .atype 22 23),Pp (.ldw 25 10 true 24),Pp (.alr 7 10),Fz 7 10 25]))) (Rs [Fa 26 1 7,Lq 27 26,Mv 28 1,Bi 29 .eql 27 28,Mv 30 29,Gt 30 (.fad 31 0 7),Gt 30 (.lde 32 1 false 31),Gt 30 (.bin 33 .geq 32 (kI 9)),Pa 34 30 33,Mv 35 34,Gt 35 (.fad 36 0 7),Gt 35 (.lde 37 1 false 36),Gt 35 (.bin 38 .leq 37 (kI 11)),Pa 39 35 38] (Cn 39 (Rs [Mv 40 6,Mv 4 40,Mb 5 true] .ret) .skip)))) (Rg [Mv 16 6,Bc 17 .add 16 1,Mv 6 17]))
def ry:IR:=Rs [Mi 4 0,Mb 5 false] .ret
def abR:IR:=Rs [Mi 4 0,Mb 5 false] (Sq (Rs [Mi 6 0] (.block 0 (.loop [0,1,6,1000000] 1 rx))) ry)
def tz:List RV:=[.t 4,.t 5]
theorem abS:FnC Tryz.prog oO [] 1 uz Tryz.f51 abR tz:=fnC Tryz.func51
def aaP(R:IR->(Ex->St->Ro)->St->Ro)(a:St->Ro):Ex->St->Ro:=(ce a [0,1,6,1000000] 1 (aG 0 (bR (R ry) (fin tz))))
abbrev jX:Type:=(Bs×Int×List ab×Int)
def jq(x:jX):St:={env:=(.ptr 0 0::.str x.1::(U 4 (.int .i64 x.2.1::(U 34 [])))),hp:=[some [.ul .atype x.2.2.1,.int .i64 x.2.2.2]]}
def mS(N:Nat):(St->Ro)->St->Ro:=λa s=>run oO N rx (aaP (run oO N) a) s
def jY(N:Nat)(b:jX->Ro)(x:jX):Ro:=
 let e:Bs:=x.1;let d:Int:=x.2.1;let a:List ab:=x.2.2.1;let c:Int:=x.2.2.2;let g:=(↑(Aa a):Int)
 cond (decide (d<g)) (
  chk (decide (0<Aa a)) (
   chk ((decide (0<=d)&&decide (d<↑(Aa a)))) (
    chk (decide ((Ae d)<Aa a)) (
     let f:=(Ak a (Ae d) (am .atype))
     chk (As (Aa a) (Aa a)) (
      cond (decide (f.name=e)) (
       cond (decide (9<=f.kind)) (
        cond (decide (f.kind<=11)) (
         some (.tup [.int .i64 d,.bool true],[some [.ul .atype a,.int .i64 c],none,none])) (
         let j:=(Aj .i64 (d+1))
         b (e,j,a,c))) (
        let h:=(Aj .i64 (d+1))
        b (e,h,a,c))) (
       let i:=(Aj .i64 (d+1))
       b (e,i,a,c))))))) (
  some (.tup [.int .i64 0,.bool false],[some [.ul .atype a,.int .i64 c]]))
theorem zH(N:Nat):LB (mS N) jq (jY N):=λ_ _=>by kernel_rfl
def gP(N:Nat)(a:List ab)(b:Int)(c:Bs)(d:jX->Ro):Ro:=
 d (c,0,a,b)
def tA(N:Nat)(a:List ab)(b:Int)(c:Bs):Ro:=gP N a b c (λz=>aO N (jY N) z)
theorem aaQ(N:Nat)(a:List ab)(c:Int)(d:Bs)(h:Tot (tA N a c d) (λz=>∃(g:Int)(j:Bool)(k:List ab)(i:Int)(rest:List ai),z.1.dimR=.tup [.int .i64 g,.bool j]∧z.2=some [.ul .atype k,.int .i64 i]::rest∧dh a c d (g,j,k,i))):∃r,bS a c d r:=FnK.finO (css:=[[.ul .atype a,.int .i64 c]]) abS (N:=N) ((cV _ (by kernel_rfl) rfl (λC=>gP N a c d (λz=>C 1000000 (jq z))) (λC=>by kernel_rfl)).trans (A3 (b:=gP N a c d (λz=>bg N (mS N) (jq z))) (by kernel_rfl) (congrArg (gP N a c d) (funext λz=>bz (jq) (mS N) (jY N) (zH N) N z)))) h λ_ ⟨g,j,k,i,_,e,f,q⟩=>⟨(g,j,k,i),e,⟨_,f⟩,q⟩
noncomputable def oP:av:=tab (P:=Tryz.prog) [] [ct,lV,uD] [] [abG]
def rz:IR:=Sq (Rs [Mv 26 9,Mv 27 1,Pp (.lens 28 27),Bi 29 .lss 26 28] (Cn 29 .skip (.exit 0))) (Sq (.block 1 (Rg [Mv 32 8,Mv 33 32,Gf 33 (.mov 34 1),Gf 33 (.mov 35 9),Gf 33 (.idx 36 34 35),Gf 33 (.bin 37 .eql 36 (.c (.int .u8 46))),Po 38 33 37,Mv 8 38])) (Rg [Mv 30 9,Bc 31 .add 30 1,Mv 9 31]))
def qF:IR:=Sq (Rs [Mv 39 8,Un 40 39,Mv 41 40,Gt 41 (.mov 42 2),Gt 41 (.bin 43 .neq 42 (kS [])),Pa 44 41 43] (Cn 44 (Rs [Mv 46 0,Mv 47 2,Pp (.bin 48 .add 47 (kS [46])),Mv 49 1,Bi 50 .add 48 49,Ca 51 51 [46,50],Mv 45 51,Ex_ 52 0 45,Ex_ 53 1 45,Mv 10 52,Mv 11 53] (Rs [Mv 54 11] (Cn 54 (Rs [Mv 55 10,Mv 6 55] .ret) .skip))) .skip)) (Rs [Mv 57 0,Mv 58 1,Ca 59 51 [57,58],Mv 56 59,Ex_ 60 0 56,Ex_ 61 1 56,Mv 12 60,Mv 13 61] (Sq (Rs [Mv 62 13,Un 63 62] (Cn 63 (Rs [Mv 64 0,Ca 65 33 [64,kI 4],Mv 6 65] .ret) .skip)) (Rs [Mv 66 12,Mv 6 66] .ret)))
def abT:IR:=Rs [Mi 6 0] (Rs [Mv 14 1,Ca 15 38 [14],Mv 7 15] (Sq (Rs [Mv 16 7,Bc 17 .geq 16 1,Mv 18 17,Gt 18 (.mov 19 7),Gt 18 (.bin 20 .leq 19 (kI 8)),Pa 21 18 20] (Cn 21 (Rs [Mv 22 0,Mv 23 7,Pp (.bld 24 [vI 0,vS,fu .str true,vI 0,fu .str true,.bool false,vS,vI 0,fu .afield true,fu (.num .i64) true] [(0,1,23)]),Ca 25 39 [22,24],Mv 6 25] .ret) .skip)) (Rs [Mb 8 false] (Sq (Rs [Mi 9 0] (.block 0 (.loop [0,1,2,8,9,1000000] 1 rz))) qF))))
def tB:List RV:=[.t 6]
theorem abU:FnC Tryz.prog oP [33,39,51,2000033,2000039,2000051] 1 uA Tryz.f34 abT tB:=fnC Tryz.func34
def aaR(R:IR->(Ex->St->Ro)->St->Ro)(a:St->Ro):Ex->St->Ro:=(ce a [0,1,2,8,9,1000000] 1 (aG 0 (bR (R qF) (fin tB))))
abbrev jZ:Type:=(Bs×Bs×Bool×Int×List ab×Int)
def jr(x:jZ):St:={env:=(.ptr 0 0::.str x.1::.str x.2.1::(U 5 (.bool x.2.2.1::.int .i64 x.2.2.2.1::(U 57 [])))),hp:=[some [.ul .atype x.2.2.2.2.1,.int .i64 x.2.2.2.2.2]]}
def mT(N:Nat):(St->Ro)->St->Ro:=λa s=>run oP N rz (aaR (run oP N) a) s
def gj(N:Nat)(c:jZ->Ro)(x:jZ):Ro:=
 let d:Bs:=x.1;let i:Bs:=x.2.1;let q:Bool:=x.2.2.1;let j:Int:=x.2.2.2.1;let a:List ab:=x.2.2.2.2.1;let b:Int:=x.2.2.2.2.2;let r:=(↑(Aa d):Int)
 cond (decide (j<r)) (
  cond q (
   let t:=(Aj .i64 (j+1))
   c (d,i,true,t,a,b)) (
   chk (ixl j d) (
    let w:=(↑(CL (Ak d (Ae j) 0)):Int)
    let v:=(Aj .i64 (j+1))
    c (d,i,(w==46),v,a,b)))) (
  cond (!q) (
   let u:=(!decide (i=([]:Bs)))
   cond u (
    chk (decide (Aa i+Aa ([46]:Bs)<=9223372036854775807)) (
     let p:=(i++([46]:Bs))
     chk (decide (Aa p+Aa d<=9223372036854775807)) (
      af (bS a b (p++d)) (λf=>
       cond f.2.1 (
        some (.int .i64 f.1,[some [.ul .atype f.2.2.1,.int .i64 f.2.2.2]])) (
        af (bS f.2.2.1 f.2.2.2 d) (λg=>
         cond (!g.2.1) (
          af (ah g.2.2.1 g.2.2.2 4) (λk=>
           some (.int .i64 k.1,[some [.ul .atype k.2.1,.int .i64 k.2.2]]))) (
          some (.int .i64 g.1,[some [.ul .atype g.2.2.1,.int .i64 g.2.2.2]])))))))) (
    af (bS a b d) (λh=>
     cond (!h.2.1) (
      af (ah h.2.2.1 h.2.2.2 4) (λm=>
       some (.int .i64 m.1,[some [.ul .atype m.2.1,.int .i64 m.2.2]]))) (
      some (.int .i64 h.1,[some [.ul .atype h.2.2.1,.int .i64 h.2.2.2]]))))) (
   af (bS a b d) (λe=>
    cond (!e.2.1) (
     af (ah e.2.2.1 e.2.2.2 4) (λo=>
      some (.int .i64 o.1,[some [.ul .atype o.2.1,.int .i64 o.2.2]]))) (
     some (.int .i64 e.1,[some [.ul .atype e.2.2.1,.int .i64 e.2.2.2]])))))
theorem zI(N:Nat):LB (mT N) jr (gj N):=λ_ _=>by kernel_rfl
def gQ(N:Nat)(a:List ab)(b:Int)(d f:Bs)(g:jZ->Ro):Ro:=
 af (dM d) (λ(e:Int)=>
  cond (decide (1<=e)) (
   cond (decide (e<=8)) (
    af (bD a b ⟨e,([]:Bs),([]:Bss),0,([]:Bss),false,([]:Bs),0,([]:List aA),([]:List Int)⟩) (λc=>
     some (.int .i64 c.1,[some [.ul .atype c.2.1,.int .i64 c.2.2]]))) (
    g (d,f,false,0,a,b))) (
   g (d,f,false,0,a,b)))
def tC(N:Nat)(a:List ab)(b:Int)(d c:Bs):Ro:=gQ N a b d c (λz=>aO N (gj N) z)
theorem aaS(N:Nat)(a:List ab)(c:Int)(g d:Bs)(h:Tot (tC N a c g d) (λz=>∃(i:Int)(j:List ab)(k:Int)(rest:List ai),z.1.dimR=.int .i64 i∧z.2=some [.ul .atype j,.int .i64 k]::rest∧fJ a c g d (i,j,k))):∃r,fF a c g d r:=FnK.finO (css:=[[.ul .atype a,.int .i64 c]]) abU (N:=N) ((cV _ (by kernel_rfl) rfl (λC=>gQ N a c g d (λz=>C 1000000 (jr z))) (λC=>by kernel_rfl)).trans (A3 (b:=gQ N a c g d (λz=>bg N (mT N) (jr z))) (by kernel_rfl) (congrArg (gQ N a c g d) (funext λz=>bz (jr) (mT N) (gj N) (zI N) N z)))) h λ_ ⟨i,j,k,_,e,f,q⟩=>⟨(i,j,k),e,⟨_,f⟩,q⟩
noncomputable def nU:av:=tab (P:=Tryz.prog) [] [ct] [] [nO]
def qG:IR:=Sq (Rs [Mv 25 11,Fa 26 3 8,Lq 27 26,Ll 28 27,Bi 29 .lss 25 28,Mv 30 29,Gt 30 (.mov 31 0),Gt 30 (.nck 32 31),Gt 30 (.fad 33 1 32),Gt 30 (.ld 34 1 false false 33),Gt 30 (.bin 35 .eql 34 (kI 0)),Pa 36 30 35] (Cn 36 .skip (.exit 0))) (Sq (.block 1 (Sq (Rs [Fa 39 3 8,Lq 40 39,Mv 41 11,Ix 42 .jnode 40 41,Fa 43 0 42,Lo 44 43,Bc 45 .neq 44 4] (Cn 45 (Rg [Mv 46 0,Ca 47 33 [46,kI 2]]) .skip)) (Rg [Pp (.mov 48 (.tk 10)),Fa 49 3 8,Lq 50 49,Mv 51 11,Ix 52 .jnode 50 51,Fa 53 2 52,Lo 54 53,Pp (.bsl 55 .str [54] true),Pp (.app 56 .str (.tk 48) 55),Pp (.mov 10 (.tk 56))]))) (Rg [Mv 37 11,Bc 38 .add 37 1,Mv 11 38]))
def pR:IR:=Rs [Mv 57 10,Mv 6 57,Mb 7 true] .ret
def aaT:IR:=Rs [Bx 4 1,Pp (.mov 6 (.c (nl .str))),Mb 7 false] (Rs [Ld 13 5 true 4,Mv 14 2,Ca 15 36 [13,14],Mv 12 15,Ex_ 16 0 12,Ex_ 17 1 12,Pp (.alr 8 5),Fz 8 5 16,Mv 9 17] (Sq (Rs [Mv 18 9,Un 19 18] (Cn 19 (Rs [Pp (.mov 6 (.c (nl .str))),Mb 7 false] .ret) .skip)) (Sq (Rs [Fa 20 0 8,Lq 21 20,Bc 22 .neq 21 5] (Cn 22 (Rg [Mv 23 0,Ca 24 33 [23,kI 2]]) .skip)) (Rs [Pp (.mov 10 (.c (nl .str)))] (Sq (Rs [Mi 11 0] (.block 0 (.loop [0,8,10,11,1000000] 1 qG))) pR)))))
def rY:List RV:=[.t 6,.t 7]
theorem aaU:FnC Tryz.prog nU [33,2000033] 1 tp Tryz.f56 aaT rY:=fnC Tryz.func56
def zJ(R:IR->(Ex->St->Ro)->St->Ro)(a:St->Ro):Ex->St->Ro:=(ce a [0,8,10,11,1000000] 1 (aG 0 (bR (R pR) (fin rY))))
abbrev js:Type:=(aa×Bss×Int×List ab×Int)
def iH(x:js):St:={env:=(.ptr 0 0::(U 7 (.ea (enc .jnode x.1)::.undef::.sl .str .own x.2.1::.int .i64 x.2.2.1::(U 46 [])))),hp:=[some [.ul .atype x.2.2.2.1,.int .i64 x.2.2.2.2]]}
def mg(N:Nat):(St->Ro)->St->Ro:=λa s=>run nU N qG (zJ (run nU N) a) s
def fO(N:Nat)(c:js->Ro)(x:js):Ro:=
 let f:aa:=x.1;let e:Bss:=x.2.1;let a:Int:=x.2.2.1;let d:List ab:=x.2.2.2.1;let b:Int:=x.2.2.2.2;let k:=(↑(Aa f.l):Int)
 let g:=(some (.tup [.sl .str (.may false) e,.bool true],[some [.ul .atype d,.int .i64 b]]):Ro)
 cond (decide (a<k)) (
  cond (b==0) (
   chk (ixl a f.l) (
    let m:=(Ak f.l (Ae a) (am .jnode))
    cond (!(m.kind==4)) (
     af (ah d b 2) (λh=>
      chk (ixl a f.l) (
       let j:=(Ak f.l (Ae a) (am .jnode))
       chk (decide ((Aa e+Aa ([j.s]:Bss))*16<=140737488355328)) (
        let o:=(e++([j.s]:Bss))
        let q:=(Aj .i64 (a+1))
        c (f,o,q,h.2.1,h.2.2))))) (
     chk (ixl a f.l) (
      let i:=(Ak f.l (Ae a) (am .jnode))
      chk (decide ((Aa e+Aa ([i.s]:Bss))*16<=140737488355328)) (
       let p:=(e++([i.s]:Bss))
       let r:=(Aj .i64 (a+1))
       c (f,p,r,d,b)))))) (
   g)) (
  g)
theorem zb(N:Nat):LB (mg N) iH (fO N):=λ_ _=>by kernel_rfl
def gk(N:Nat)(a:List ab)(b:Int)(g:aa)(f:Bs)(e:js->Ro):Ro:=
 af (aU (reJ g) f) (λc=>
  cond (!c.2) (
   some (.tup [.sl .str (.may false) ([]:Bss),.bool false],[some [.ul .atype a,.int .i64 b]])) (
   cond (!(c.1.kind==5)) (
    af (ah a b 2) (λd=>
     e (c.1,([]:Bss),0,d.2.1,d.2.2))) (
    e (c.1,([]:Bss),0,a,b))))
def rZ(N:Nat)(a:List ab)(b:Int)(d:aa)(c:Bs):Ro:=gk N a b d c (λz=>aO N (fO N) z)
theorem zK(N:Nat)(a:List ab)(c:Int)(g:aa)(d:Bs)(h:Tot (rZ N a c g d) (λz=>∃(i:Bss)(k:Bool)(m:List ab)(j:Int)(rest:List ai),z.1.dimR=.tup [.sl .str (.may false) i,.bool k]∧z.2=some [.ul .atype m,.int .i64 j]::rest∧c5 a c g d (i,k,m,j))):∃r,bI a c g d r:=FnK.finO (css:=[[.ul .atype a,.int .i64 c]]) aaU (N:=N) ((cV _ (by kernel_rfl) rfl (λC=>gk N a c g d (λz=>C 1000000 (iH z))) (λC=>by kernel_rfl)).trans (A3 (b:=gk N a c g d (λz=>bg N (mg N) (iH z))) (by kernel_rfl) (congrArg (gk N a c g d) (funext λz=>bz (iH) (mg N) (fO N) (zb N) N z)))) h λ_ ⟨i,k,m,j,_,e,f,q⟩=>⟨(i,k,m,j),e,⟨_,f⟩,q⟩
noncomputable def ac2:av:=tab (P:=Tryz.prog) [] [ct] [] [nO]
def abV:IR:=Rs [Bx 5 1,Ms 8 []] (Rs [Ld 12 5 true 5,Mv 13 2,Ca 14 36 [12,13],Mv 11 14,Ex_ 15 0 11,Ex_ 16 1 11,Pp (.alr 9 5),Fz 9 5 15,Mv 10 16] (Sq (Rs [Mv 17 10,Un 18 17,Mv 19 18,Gt 19 (.mov 20 3),Gt 19 (.un 21 .not 20),Pa 22 19 21] (Cn 22 (Rs [Ms 8 []] .ret) .skip)) (Sq (Rs [Mv 23 10,Un 24 23,Mv 25 24,Gf 25 (.fad 26 0 9),Gf 25 (.lde 27 1 false 26),Gf 25 (.bin 28 .neq 27 (kI 4)),Po 29 25 28] (Cn 29 (Rs [Mv 30 0,Ca 31 33 [30,kI 2]] (Rs [Ms 8 []] .ret)) .skip)) (Rs [Fa 32 2 9,Lq 33 32,Mv 8 33] .ret))))
def abW:List RV:=[.t 8]
theorem abX:FnC Tryz.prog ac2 [33,2000033] 1 uC Tryz.f53 abV abW:=fnC Tryz.func53
def tD(N:Nat)(a:List ab)(b:Int)(m:aa)(k:Bs)(o:Bool):Ro:=
 let d:=λe p=>(some (.str ([]:Bs),[some [.ul .atype e,.int .i64 p]]):Ro)
 let j:=λe=>(some (.str e,[some [.ul .atype a,.int .i64 b]]):Ro)
 af (aU (reJ m) k) (λc=>
  cond (!c.2) (
   cond (!o) (
    d a b) (
    cond (!c.2) (
     af (ah a b 2) (λh=>
      d h.2.1 h.2.2)) (
     cond (!(c.1.kind==4)) (
      af (ah a b 2) (λg=>
       d g.2.1 g.2.2)) (
      j c.1.s)))) (
   cond (!c.2) (
    af (ah a b 2) (λf=>
     d f.2.1 f.2.2)) (
    cond (!(c.1.kind==4)) (
     af (ah a b 2) (λi=>
      d i.2.1 i.2.2)) (
     j c.1.s))))
def tE(N:Nat)(a:List ab)(b:Int)(e:aa)(c:Bs)(d:Bool):Ro:=tD N a b e c d
theorem aaV(N:Nat)(a:List ab)(b:Int)(k:aa)(i:Bs)(j:Bool)(h:Tot (tE N a b k i j) (λz=>∃(c:Bs)(d:List ab)(g:Int)(rest:List ai),z.1.dimR=.str c∧z.2=some [.ul .atype d,.int .i64 g]::rest∧d9 a b k i j (c,d,g))):∃r,cu a b k i j r:=FnK.finO (css:=[[.ul .atype a,.int .i64 b]]) abX (N:=N) (by kernel_rfl) h λ_ ⟨c,d,g,_,e,f,q⟩=>⟨(c,d,g),e,⟨_,f⟩,q⟩
noncomputable def nV:av:=tab (P:=Tryz.prog) [] [ct] [] [alY,aky]
def qH:IR:=Sq (Rs [Mv 12 8,Mv 13 1,Pp (.lens 14 13),Bi 15 .lss 12 14] (Cn 15 .skip (.exit 0))) (Sq (.block 1 (Rs [Mv 18 1,Mv 19 8,Pp (.idx 20 18 19),Pp (.bin 21 .eql 20 (.c (.int .u8 46)))] (Cn 21 (Rg [Mv 22 1,Mv 7 22]) .skip))) (Rg [Mv 16 8,Bc 17 .add 16 1,Mv 8 17]))
def qI:IR:=Sq (Rs [Mv 23 1,Pp (.bin 24 .eql 23 (kS [])),Mv 25 24,Gf 25 (.mov 26 7),Gf 25 (.call 27 69 [26]),Gf 25 (.un 28 .not 27),Po 29 25 28] (Cn 29 (Rg [Mv 30 0,Ca 31 33 [30,kI 6]]) .skip)) (Rs [Mv 32 7,Mv 6 32] .ret)
def aaW:IR:=Rs [Ms 6 []] (Rs [Mv 9 2,Mv 10 1,Ca 11 68 [9,10],Mv 7 11] (Sq (Rs [Mi 8 0] (.block 0 (.loop [0,1,7,8,1000000] 1 qH))) qI))
def sa:List RV:=[.t 6]
theorem aaX:FnC Tryz.prog nV [33,2000033] 1 tt Tryz.f54 aaW sa:=fnC Tryz.func54
def zL(R:IR->(Ex->St->Ro)->St->Ro)(a:St->Ro):Ex->St->Ro:=(ce a [0,1,7,8,1000000] 1 (aG 0 (bR (R qI) (fin sa))))
abbrev jt:Type:=(Bs×Bs×Int×List ab×Int)
def iI(x:jt):St:={env:=(.ptr 0 0::.str x.1::(U 5 (.str x.2.1::.int .i64 x.2.2.1::(U 24 [])))),hp:=[some [.ul .atype x.2.2.2.1,.int .i64 x.2.2.2.2]]}
def mh(N:Nat):(St->Ro)->St->Ro:=λa s=>run nV N qH (zL (run nV N) a) s
def ju(N:Nat)(c:jt->Ro)(x:jt):Ro:=
 let d:Bs:=x.1;let g:Bs:=x.2.1;let e:Int:=x.2.2.1;let a:List ab:=x.2.2.2.1;let b:Int:=x.2.2.2.2;let j:=(↑(Aa d):Int)
 let f:=λm t=>(some (.str g,[some [.ul .atype m,.int .i64 t]]):Ro)
 cond (decide (e<j)) (
  chk (ixl e d) (
   let k:=(↑(CL (Ak d (Ae e) 0)):Int)
   cond (k==46) (
    let r:=(Aj .i64 (e+1))
    c (d,d,r,a,b)) (
    let o:=(Aj .i64 (e+1))
    c (d,g,o,a,b)))) (
  let q:=decide (d=([]:Bs))
  cond q (
   af (ah a b 6) (λi=>
    f i.2.1 i.2.2)) (
   af (nR g) (λ(p:Bool)=>
    cond (!p) (
     af (ah a b 6) (λh=>
      f h.2.1 h.2.2)) (
     f a b))))
theorem zc(N:Nat):LB (mh N) iI (ju N):=λ_ _=>by kernel_rfl
def gl(N:Nat)(a:List ab)(b:Int)(c d:Bs)(e:jt->Ro):Ro:=
 af (pg d c) (λ(f:Bs)=>
  e (c,f,0,a,b))
def sd(N:Nat)(a:List ab)(b:Int)(d c:Bs):Ro:=gl N a b d c (λz=>aO N (ju N) z)
theorem zM(N:Nat)(a:List ab)(c:Int)(g d:Bs)(h:Tot (sd N a c g d) (λz=>∃(i:Bs)(j:List ab)(k:Int)(rest:List ai),z.1.dimR=.str i∧z.2=some [.ul .atype j,.int .i64 k]::rest∧qr a c g d (i,j,k))):∃r,cH a c g d r:=FnK.finO (css:=[[.ul .atype a,.int .i64 c]]) aaX (N:=N) ((cV _ (by kernel_rfl) rfl (λC=>gl N a c g d (λz=>C 1000000 (iI z))) (λC=>by kernel_rfl)).trans (A3 (b:=gl N a c g d (λz=>bg N (mh N) (iI z))) (by kernel_rfl) (congrArg (gl N a c g d) (funext λz=>bz (iI) (mh N) (ju N) (zc N) N z)))) h λ_ ⟨i,j,k,_,e,f,q⟩=>⟨(i,j,k),e,⟨_,f⟩,q⟩
noncomputable def bu:av:=tab (P:=Tryz.prog) [] [ct,oN,nP] [] [nO,xq]
def pj:IR:=Sq (Rs [Mv 56 9,Mv 57 8,Bi 58 .lss 56 57] (Cn 58 .skip (.exit 2))) (Sq (.block 3 (Sq (.reg [Mv 61 6,Mv 62 9,Ix 63 .str 61 62,Lq 64 63,Mv 65 6,Mv 66 8,Ix 67 .str 65 66,Lq 68 67,Bi 69 .eql 64 68] [[],[],[0,1],[0,1,2],[],[],[4,5],[4,5,6],rg 0 7]) (Cn 69 (Rg [Mv 70 0,Ca 71 33 [70,kI 5]]) .skip))) (Rg [Mv 59 9,Bc 60 .add 59 1,Mv 9 60]))
def ot:IR:=Rg [Mv 46 8,Bc 47 .add 46 1,Mv 8 47]
def fV:IR:=Sq (Rs [Mv 35 8,Mv 36 6,Ll 37 36,Bi 38 .lss 35 37,Mv 39 38,Gt 39 (.mov 40 0),Gt 39 (.nck 41 40),Gt 39 (.fad 42 1 41),Gt 39 (.ld 43 1 false false 42),Gt 39 (.bin 44 .eql 43 (kI 0)),Pa 45 39 44] (Cn 45 .skip (.exit 0))) (Sq (.block 1 (Sq (Rs [Mv 48 6,Mv 49 8,Ix 50 .str 48 49,Lq 51 50,Ca 52 70 [51],Un 53 52] (Cn 53 (Rg [Mv 54 0,Ca 55 33 [54,kI 6]]) .skip)) (Rs [Mi 9 0] (.block 2 (.loop [0,2,4,6,8,9,1000000] 1 pj))))) ot)
def ou:IR:=Sq (Rs [Mv 80 14,Mv 81 6,Ll 82 81,Bi 83 .lss 80 82] (Cn 83 .skip (.exit 4))) (Sq (.block 5 (Rg [Mv 86 13,Mv 87 86,Gf 87 (.mov 88 6),Gf 87 (.mov 89 14),Gf 87 (.ixa 90 .str 88 89),Gf 87 (.lde 91 1 false 90),Gf 87 (.mov 92 12),Gf 87 (.bin 93 .eql 91 92),Po 94 87 93,Mv 13 94])) (Rg [Mv 84 14,Bc 85 .add 84 1,Mv 14 85]))
def ov:IR:=Sq (Rs [Mv 95 11,Mv 96 95,Gt 96 (.mov 97 13),Gt 96 (.un 98 .not 97),Pa 99 96 98] (Cn 99 (Rg [Mv 100 0,Ca 101 33 [100,kI 6]]) .skip)) (Rs [Mv 102 0,Nk 103 102,Fa 104 1 103,Lo 105 104,Bc 106 .eql 105 0] (Cn 106 (.gh (.opn (.cell 0 0)) (.ghp (.cls (.cell 0 0)) (.reg [Mv 107 0,Nk 108 107,Fa 109 0 108,Fa 110 0 109,Fo [0] [] (.ld 111 1 false false 110),Mv 112 2,Mv 113 0,Nk 114 113,Fa 115 0 114,Fa 116 0 115,Fo [0] [] (.ld 117 1 false false 116),Mv 118 2,Mv 119 0,Nk 120 119,Fa 121 0 120,Fa 122 0 121,Fo [0] [] (.ld 123 1 false false 122),Mv 124 2,Mv 125 6,Mv 126 11,Mv 127 12,Pp (.ixw 128 .atype 111 112),Pp (.fdw 129 4 128),Fo [] [1] (.stw none 1 129 125),Pp (.ixw 130 .atype 117 118),Pp (.fdw 131 5 130),Fo [] [1] (.stw none 1 131 126),Pp (.ixw 132 .atype 123 124),Pp (.fdw 133 6 132),Fo [] [1] (.stw none 1 133 127)] [[],[0],[0,1],[0,1,2],rg 0 3,[],[],[6],[6,7],[6,7,8],rg 6 9,[],[],[12],[12,13],[12,13,14],rg 12 15,[],[],[],[],rg 0 10++rg 12 16++[18],rg 0 10++rg 12 16++[18]++[21],rg 0 10++rg 12 16++[18]++[21,22],rg 0 16++[18,19]++[21,22,23],rg 0 16++[18,19]++rg 21 24,rg 0 16++[18,19]++rg 21 25,rg 0 26,rg 0 27,rg 0 28]))) .skip))
def ko:IR:=Rs [Ld 73 5 true 4,Ca 74 36 [73,kS [100,101,102,97,117,108,116]],Mv 72 74,Ex_ 75 0 72,Ex_ 76 1 72,Pp (.alr 10 5),Fz 10 5 75,Mv 11 76] (Rs [Mv 77 0,Ld 78 5 true 4,Ca 79 53 [77,78,kS [100,101,102,97,117,108,116],kB false],Mv 12 79] (Rs [Mb 13 false] (Sq (Rs [Mi 14 0] (.block 4 (.loop [0,2,6,11,12,13,14,1000002] 1 ou))) ov)))
def zd:IR:=Rs [Bx 4 1] (Rs [Mv 16 0,Ld 17 5 true 4,Ca 18 56 [16,17,kS [115,121,109,98,111,108,115]],Mv 15 18,Ex_ 19 0 15,Ex_ 20 1 15,Mv 6 19,Mv 7 20] (Sq (Rs [Mv 21 7,Un 22 21] (Cn 22 (Rg [Mv 23 0,Ca 24 33 [23,kI 2]]) .skip)) (Sq (Rs [Mv 25 6,Ll 26 25,Bc 27 .eql 26 0] (Cn 27 (Rg [Mv 28 0,Ca 29 33 [28,kI 6]]) .skip)) (Sq (Rs [Mv 30 6,Ll 31 30,Bc 32 .gtr 31 30] (Cn 32 (Rg [Mv 33 0,Ca 34 33 [33,kI 3]]) .skip)) (Sq (Rs [Mi 8 0] (.block 0 (.loop [0,2,4,6,8,1000001] 1 fV))) ko)))))
def iJ:List RV:=[]
theorem ze:FnC Tryz.prog bu [33,53,56,2000033,2000053,2000056] 1 rv Tryz.f58 zd iJ:=fnC Tryz.func58
def gX(R:IR->(Ex->St->Ro)->St->Ro)(a:St->Ro):Ex->St->Ro:=(ce a [0,2,4,6,8,1000001] 1 (aG 0 (bR (R ko) (fin iJ))))
abbrev co:Type:=(Int×aa×Bss×Int×List ab×Int)
def aY(x:co):St:={env:=(.ptr 0 0::.undef::.int .i64 x.1::.undef::.ea (enc .jnode x.2.1)::.undef::.sl .str (.may false) x.2.2.1::.undef::.int .i64 x.2.2.2.1::(U 125 [])),hp:=[some [.ul .atype x.2.2.2.2.1,.int .i64 x.2.2.2.2.2]]}
def yn(R:IR->(Ex->St->Ro)->St->Ro)(b a:St->Ro):Ex->St->Ro:=(ce a [0,2,4,6,8,9,1000000] 1 (aG 2 (aG 1 (bR (R ot) (gX R b)))))
abbrev gY:Type:=(Int×aa×Bss×Int×Int×List ab×Int)
def eA(x:gY):St:={env:=(.ptr 0 0::.undef::.int .i64 x.1::.undef::.ea (enc .jnode x.2.1)::.undef::.sl .str (.may false) x.2.2.1::.undef::.int .i64 x.2.2.2.1::.int .i64 x.2.2.2.2.1::(U 124 [])),hp:=[some [.ul .atype x.2.2.2.2.2.1,.int .i64 x.2.2.2.2.2.2]]}
def gZ(N:Nat)(b:St->Ro):(St->Ro)->St->Ro:=λa s=>run bu N pj (yn (run bu N) b a) s
def dz(N:Nat)(d:co->Ro)(a:gY->Ro)(x:gY):Ro:=
 let i:Int:=x.1;let h:aa:=x.2.1;let e:Bss:=x.2.2.1;let f:Int:=x.2.2.2.1;let g:Int:=x.2.2.2.2.1;let b:List ab:=x.2.2.2.2.2.1;let c:Int:=x.2.2.2.2.2.2
 cond (decide (g<f)) (
  chk (ixl g e) (
   let m:=Ak e (Ae g) (am .str)
   chk (ixl f e) (
    let o:=Ak e (Ae f) (am .str)
    cond (decide (m=o)) (
     af (ah b c 5) (λj=>
      let k:=(Aj .i64 (g+1))
      a (i,h,e,f,k,j.2.1,j.2.2))) (
     let q:=(Aj .i64 (g+1))
     a (i,h,e,f,q,b,c))))) (
  let p:=(Aj .i64 (f+1))
  d (i,h,e,p,b,c))
theorem xr(N:Nat)(a:St->Ro):LB (gZ N a) eA (dz N (λy=>a (aY y))):=λ_ _=>by kernel_rfl
def yo(R:IR->(Ex->St->Ro)->St->Ro)(a:St->Ro):Ex->St->Ro:=(ce a [0,2,6,11,12,13,14,1000002] 1 (aG 4 (bR (R ov) (fin iJ))))
abbrev hH:Type:=(Int×Bss×Bool×Bs×Bool×Int×List ab×Int)
def eF(x:hH):St:={env:=(.ptr 0 0::.undef::.int .i64 x.1::(U 3 (.sl .str (.may false) x.2.1::(U 4 (.bool x.2.2.1::.str x.2.2.2.1::.bool x.2.2.2.2.1::.int .i64 x.2.2.2.2.2.1::(U 119 [])))))),hp:=[some [.ul .atype x.2.2.2.2.2.2.1,.int .i64 x.2.2.2.2.2.2.2]]}
def hJ(N:Nat):(St->Ro)->St->Ro:=λa s=>run bu N ou (yo (run bu N) a) s
def bp(N:Nat)(f:hH->Ro)(x:hH):Ro:=
 let c:Int:=x.1;let j:Bss:=x.2.1;let g:Bool:=x.2.2.1;let h:Bs:=x.2.2.2.1;let u:Bool:=x.2.2.2.2.1;let i:Int:=x.2.2.2.2.2.1;let b:List ab:=x.2.2.2.2.2.2.1;let d:Int:=x.2.2.2.2.2.2.2;let A:=(↑(Aa j):Int)
 let y:=λD B=>(some (.tup [],[some [.ul .atype D,.int .i64 B],none,none]):Ro)
 let G:=λD B=>(some (.tup [],[some [.ul .atype D,.int .i64 B]]):Ro)
 cond (decide (i<A)) (
  cond u (
   let F:=(Aj .i64 (i+1))
   f (c,j,g,h,true,F,b,d)) (
   chk (ixl i j) (
    let E:=Ak j (Ae i) (am .str);let C:=(Aj .i64 (i+1))
    f (c,j,g,h,decide (E=h),C,b,d)))) (
  cond g (
   cond (!u) (
    af (ah b d 6) (λe=>
     cond (e.2.2==0) (
      chk (decide (0<Aa e.2.1)) (
       chk ((decide (0<=c)&&decide (c<↑(Aa e.2.1)))) (
        chk (decide ((Ae c)<Aa e.2.1)) (
         let k:=(AJ e.2.1 (Ae c) (let a:=Ak e.2.1 (Ae c) (am .atype);⟨a.kind,a.name,a.aliases,a.items,j,a.hasdef,a.df,a.size,a.fields,a.branches⟩))
         chk ((decide (0<=c)&&decide (c<↑(Aa e.2.1)))) (
          chk (decide ((Ae c)<Aa k)) (
           let o:=(AJ k (Ae c) (let a:=Ak k (Ae c) (am .atype);⟨a.kind,a.name,a.aliases,a.items,a.syms,g,a.df,a.size,a.fields,a.branches⟩))
           chk ((decide (0<=c)&&decide (c<↑(Aa e.2.1)))) (
            chk (decide ((Ae c)<Aa o)) (
             let t:=(AJ o (Ae c) (let a:=Ak o (Ae c) (am .atype);⟨a.kind,a.name,a.aliases,a.items,a.syms,a.hasdef,h,a.size,a.fields,a.branches⟩))
             chk (As (Aa e.2.1) (Aa t)) (
              y t e.2.2))))))))) (
      G e.2.1 e.2.2))) (
    cond (d==0) (
     chk (decide (0<Aa b)) (
      chk ((decide (0<=c)&&decide (c<↑(Aa b)))) (
       chk (decide ((Ae c)<Aa b)) (
        let m:=(AJ b (Ae c) (let a:=Ak b (Ae c) (am .atype);⟨a.kind,a.name,a.aliases,a.items,j,a.hasdef,a.df,a.size,a.fields,a.branches⟩))
        chk ((decide (0<=c)&&decide (c<↑(Aa b)))) (
         chk (decide ((Ae c)<Aa m)) (
          let q:=(AJ m (Ae c) (let a:=Ak m (Ae c) (am .atype);⟨a.kind,a.name,a.aliases,a.items,a.syms,g,a.df,a.size,a.fields,a.branches⟩))
          chk ((decide (0<=c)&&decide (c<↑(Aa b)))) (
           chk (decide ((Ae c)<Aa q)) (
            let v:=(AJ q (Ae c) (let a:=Ak q (Ae c) (am .atype);⟨a.kind,a.name,a.aliases,a.items,a.syms,a.hasdef,h,a.size,a.fields,a.branches⟩))
            chk (As (Aa b) (Aa v)) (
             y v d))))))))) (
     G b d))) (
   cond (d==0) (
    chk (decide (0<Aa b)) (
     chk ((decide (0<=c)&&decide (c<↑(Aa b)))) (
      chk (decide ((Ae c)<Aa b)) (
       let r:=(AJ b (Ae c) (let a:=Ak b (Ae c) (am .atype);⟨a.kind,a.name,a.aliases,a.items,j,a.hasdef,a.df,a.size,a.fields,a.branches⟩))
       chk ((decide (0<=c)&&decide (c<↑(Aa b)))) (
        chk (decide ((Ae c)<Aa r)) (
         let p:=(AJ r (Ae c) (let a:=Ak r (Ae c) (am .atype);⟨a.kind,a.name,a.aliases,a.items,a.syms,g,a.df,a.size,a.fields,a.branches⟩))
         chk ((decide (0<=c)&&decide (c<↑(Aa b)))) (
          chk (decide ((Ae c)<Aa p)) (
           let w:=(AJ p (Ae c) (let a:=Ak p (Ae c) (am .atype);⟨a.kind,a.name,a.aliases,a.items,a.syms,a.hasdef,h,a.size,a.fields,a.branches⟩))
           chk (As (Aa b) (Aa w)) (
            y w d))))))))) (
    G b d)))
theorem xt(N:Nat):LB (hJ N) eF (bp N):=λ_ _=>by kernel_rfl
def hR(N:Nat):(St->Ro)->St->Ro:=λa s=>run bu N fV (gX (run bu N) a) s
def eG(N:Nat)(h:co->Ro)(m:gY->Ro)(k:hH->Ro)(x:co):Ro:=
 let g:Int:=x.1;let e:aa:=x.2.1;let c:Bss:=x.2.2.1;let f:Int:=x.2.2.2.1;let b:List ab:=x.2.2.2.2.1;let a:Int:=x.2.2.2.2.2;let t:=(↑(Aa c):Int)
 cond (decide (f<t)) (
  cond (a==0) (
   chk (ixl f c) (
    let p:=Ak c (Ae f) (am .str)
    af (gu p) (λ(q:Bool)=>
     cond (!q) (
      af (ah b a 6) (λo=>
       m (g,e,c,f,0,o.2.1,o.2.2))) (
      m (g,e,c,f,0,b,a))))) (
   af (aU (reJ e) ([100,101,102,97,117,108,116]:Bs)) (λr=>
    af (cu b a (reJ e) ([100,101,102,97,117,108,116]:Bs) false) (λj=>
     k (g,c,r.2,j.1,false,0,j.2.1,j.2.2))))) (
  af (aU (reJ e) ([100,101,102,97,117,108,116]:Bs)) (λi=>
   af (cu b a (reJ e) ([100,101,102,97,117,108,116]:Bs) false) (λd=>
    k (g,c,i.2,d.1,false,0,d.2.1,d.2.2))))
def aW(N:Nat)(a:co->Ro)(x:co):Ro:=eG N a (λz=>aO N (dz N a) z) (λz=>aO N (bp N) z) x
def lk(N:Nat)(a:St->Ro):List (Nat×(St->Ro)):=(d5 bu N fV (gX (run bu N) a)++(d5 bu N ko (fin iJ)++[]))
theorem xu(N:Nat):∀(a:St->Ro)(x:co),hR N a (aY x)=aW N (λy=>a (aY y)) x:=by
 intro a x;have b:∀C:Nat->St->Ro,dn C bu N fV (gX (dn C bu N) a) (aY x)=eG N (λy=>a (aY y)) (λz=>C 1000000 (eA z)) (λz=>C 1000002 (eF z)) x:=by intro C;kernel_rfl
 have h:hR N a (aY x)=eG N (λy=>a (aY y)) (λz=>bg N (gZ N a) (eA z)) (λz=>bg N (hJ N) (eF z)) x:=(kP (C:=mz (lk N a)) (eY (bV (l:=(lk N a)) (by kernel_rfl))) (qn (iU (np (eY (iu (bV (l:=(lk N a)) (by kernel_rfl)))) rfl))) _).trans ((b _).trans (by kernel_rfl));have d:(λz=>bg N (gZ N a) (eA z))=(λz=>aO N (dz N (λy=>a (aY y))) z):=funext λz=>bz (eA) (gZ N a) (dz N (λy=>a (aY y))) (xr N a) N z
 have c:(λz=>bg N (hJ N) (eF z))=(λz=>aO N (bp N) z):=funext λz=>bz (eF) (hJ N) (bp N) (xt N) N z
 rw[h,d,c];rfl
def dP(N:Nat)(h:List ab)(j:Int)(c:aa)(d:Int)(e:co->Ro):Ro:=
 af (bI h j (reJ c) ([115,121,109,98,111,108,115]:Bs)) (λa=>
  cond (!a.2.1) (
   af (ah a.2.2.1 a.2.2.2 2) (λf=>
    let u:=(↑(Aa a.1):Int)
    cond (u==0) (
     af (ah f.2.1 f.2.2 6) (λm=>
      let v:=(↑(Aa a.1):Int)
      cond (decide (30<v)) (
       af (ah m.2.1 m.2.2 3) (λt=>
        e (d,c,a.1,0,t.2.1,t.2.2))) (
       e (d,c,a.1,0,m.2.1,m.2.2)))) (
     let q:=(↑(Aa a.1):Int)
     cond (decide (30<q)) (
      af (ah f.2.1 f.2.2 3) (λg=>
       e (d,c,a.1,0,g.2.1,g.2.2))) (
      e (d,c,a.1,0,f.2.1,f.2.2))))) (
   let o:=(↑(Aa a.1):Int)
   cond (o==0) (
    af (ah a.2.2.1 a.2.2.2 6) (λb=>
     let p:=(↑(Aa a.1):Int)
     cond (decide (30<p)) (
      af (ah b.2.1 b.2.2 3) (λi=>
       e (d,c,a.1,0,i.2.1,i.2.2))) (
      e (d,c,a.1,0,b.2.1,b.2.2)))) (
    let r:=(↑(Aa a.1):Int)
    cond (decide (30<r)) (
     af (ah a.2.2.1 a.2.2.2 3) (λk=>
      e (d,c,a.1,0,k.2.1,k.2.2))) (
     e (d,c,a.1,0,a.2.2.1,a.2.2.2)))))
def lL(N:Nat)(a:List ab)(b:Int)(d:aa)(c:Int):Ro:=dP N a b d c (λz=>aO N (aW N) z)
theorem pS(N:Nat)(a:List ab)(c:Int)(g:aa)(d:Int)(h:Tot (lL N a c g d) (λz=>∃(i:List ab)(j:Int)(rest:List ai),z.1.dimR=.tup []∧z.2=some [.ul .atype i,.int .i64 j]::rest∧aP a c g d (i,j))):∃r,bq a c g d r:=FnK.finO (css:=[[.ul .atype a,.int .i64 c]]) ze (N:=N) ((cV _ (by kernel_rfl) rfl (λC=>dP N a c g d (λz=>C 1000001 (aY z))) (λC=>by kernel_rfl)).trans (A3 (b:=dP N a c g d (λz=>bg N (hR N) (aY z))) (by kernel_rfl) (congrArg (dP N a c g d) (funext λz=>bz (aY) (hR N) (aW N) (xu N) N z)))) h λ_ ⟨i,j,_,e,f,q⟩=>⟨(i,j),e,⟨_,f⟩,q⟩
end Go.Proofs.YtkinflmjagfapaaGreatDoor
end
