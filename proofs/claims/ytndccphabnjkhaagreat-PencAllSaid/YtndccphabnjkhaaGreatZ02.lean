import Derived.Below
import Derived.KernelRfl
import Derived.Test.YtndccphabnjkhaaGreatZ00
import Derived.Test.YtndccphabnjkhaaGreatZ01
set_option linter.all false
open Array renaming getElem?_eq_getElem→Am,getElem?_eq_some_iff→AX,getElem?_eq_none→BY,getElem?_append_left→B0,getD→B4
open BitVec renaming ofInt→AT
open Bool renaming and_eq_true→Ac,or_eq_true→Bg,not_eq_true'→BE,false_or→CE
open Classical renaming propDecidable→Dj
open Eq renaming trans→AB
open Function renaming comp_def→D4
open Go.Instr renaming sureAddr→BF,loadAt→Dz
open Go.IntKind renaming wrap→Ab,signed→AN,bits→A6,max→Bo,min→BI
open Go.Op renaming bytesLess→A2
open Go.Oper renaming wp→C4
open Go.Region renaming wanted→C3
open Int renaming toNat_natCast→AK,tmod→AQ,tmod_eq_emod_of_nonneg→Bj,tdiv→Bn,tdiv_eq_ediv_of_nonneg→BZ,fdiv_eq_ediv_of_nonneg→B1,le_of_lt→DD,pow_pos→DO
open List renaming getD→Af,getElem?_eq_some_iff→Ag,getElem?_eq_getElem→Ah,length_cons→Ai,length_append→Ak,getD_eq_getElem?_getD→Aq,mem_of_getElem?→Ar,getElem?_append_right→At,getElem?_append_left→Au,all_eq_true→Aw,getElem?_set→Ax,mem_singleton→Ay,mem_append→Az,getElem?_map→AA,mem_map→AH,mem_flatMap→AS,mem_iff_getElem→AU,getElem?_take→AY,mem_cons_of_mem→A0,getElem?_eq_none→A1,mem_cons→A3,mem_cons_self→A4,getElem?_cons_succ→A9,map_cons→Bb,getElem?_drop→Bk,map_congr_left→Bl,getD_cons_zero→Bm,getElem?_set_ne→Bp,eq_nil_of_length_eq_zero→Bu,mem_of_mem_take→Bv,mem_of_mem_drop→Bw,map_append→BB,getElem?_cons_zero→BK,mem_append_left→BM,range→BN,getD_cons_succ→BR,take_append_drop→BS,length_map→BW,getElem?_replicate→Cb,length_pos_iff→Cc,mem_append_right→Cj,all_cons→Cm,flatMap_cons→Cq,mem_of_find?_eq_some→Cs,replicate→Cy,mem_range→CV,range'→C5,find?_eq_none→Db,contains_iff_mem→Dt,all_append→Dx,any_eq_false→D1,length_range→D5,filterMap_cons_some→D8
open Nat renaming le_refl→Ap,eq_of_beq_eq_true→AE,lt_or_ge→AG,beq→AI,lt_of_lt_of_le→AJ,le_trans→A7,zero_add→Bf,mod_eq_of_lt→Br,add_zero→B6,blt_eq→C2,blt→C6,beq_refl→Da,sub_self→De
open Option renaming map_eq_some_iff→As,getD_some→A8,map_some→BA
open Option.some renaming injEq→Ae,inj→AF
open Prod renaming fst→CC
open Prod.mk renaming injEq→Aj
open UInt8 renaming ofNat→AC
noncomputable section
namespace Go.AM
def afR:List ASrc->List Operand->Bool
 | [],[]=>true
 |x::xs,y::ys=>bB x y&&afR xs ys
 |_,_=>false
def aCg:Op->Option (FuncId×List Operand)
 | .call c=>match c.callee with| .value (.func f)=>some (f,c.args.toList)|_=>none
 |_=>none
def aCh:Op->Option (Operand×List Operand)
 | .call c=>match c.callee with| .value (.tmp n)=>some (.tmp n,c.args.toList)|_=>none
 |_=>none
def auR(P:Program)(f:FuncId):Bool:=match P.funcs[f]? with|some fn=>fn.body.isSome&&fn.name !="runtime.NumGoroutine"|none=>false
def afH(P:Program)(o:IOp)(m:Oper):Bool:=
 match o with
 | .call d f avs=>(m.dst==d)&&(match aCg m.op with|some (e,b)=>(f==e)&&(afR avs b&&auR P f)|none=>false)
 | .dcall d f x avs=>(m.dst==d)&&(match aCh m.op with|some (c,b)=>bB x c&&(afR avs b&&auR P f)|none=>false)
 |_=>false
def aG9(P:Program)(o:IOp)(m:Oper):Bool:=bN P o m||rS P o m||afH P o m||pR P o m||aqT P o m||aGp P o m||uY P o m||sW P o m||ada P o m||akx P o m||atg P o m
def aw3(P:Program)(c:Array Oper)(x:GOp)(m:Oper):Bool:=
 aG9 P x.o m&&(x.o.dst==m.dst)&&(match x.g,m.guard with
  |none,none=>true
  |some (n,b),some (j,d)=>(b==d)&&((c[j]?).bind (·.dst)==some n)
  |_,_=>false)
def acM(P:Program)(b:Array Oper):Nat->List GOp->Bool
 |i,[]=>i==b.size
 |i,x::l=>(match b[i]? with|some m=>aw3 P b x m|none=>false)&&acM P b (i+1) l
def afI(P:Program)(d:List Nat)(c:Array Oper)(l:List GOp)(b:List (List Nat)):Bool:=
 (P.follows .mixedOrders&&acM P c 0 l)&&((BN l.length).all λj=>
  (match c[j]? with
   |some m=>m.after.toList.all (λe=> !Region.binds .any e||decide (e.on<j))&&(b.getD j []).all (λi=>m.after.toList.any λe=>Region.binds .any e&&(e.on==i||(b.getD e.on []).contains i))
   |none=>false)&&
  (match l[j]? with
   |some x=>(BN j).all λi=>(b.getD j []).contains i||(match l[i]? with|some y=>auM d y x|none=>false)
   |none=>false))
def bL(P:Program)(e:List Nat)(b:Nat):IR->Code->Bool
 | .bad,_=>true
 | .skip,.skip=>true
 | .skip,.label _=>true
 | .reg l _,.region _ f false=>acM P f 0 l
 | .reg l h,.region _ f true=>afI P e f l h
 | .seq x y,.seq c d=>bL P e b x c&&bL P e b y d
 | .cond v x y,.cond u c d=>bB v u&&(bL P e b x c&&bL P e b y d)
 | .block i x,.block j c=>i==j&&bL P e b x c
 | .loop _ n x,.loop c=>Nat.ble b n&&bL P e b x c
 | .cut _ n x,c=>Nat.ble b n&&bL P e b x c
 | .gh _ x,c=>bL P e b x c
 | .ope _ x,c=>bL P e b x c
 | .ghp _ x,c=>bL P e b x c
 | .exit i,.exit j=>i==j
 | .ret,.ret=>true
 |_,_=>false
def ain(P:Program)(g:Gh)(w:World):Prop:=g.β=kQ P∧(awY≠[]->g.I aik 0∧g.O aik=none∧aik<w.heap.size∧∃t,w.heap[aik]? =some (.cells awY.toArray t (0,0)))
structure aky(P:Program)(g:Gh)(hp:List aK)(w:World):Prop where
 base:ain P g w
 notI:∀(id:Nat) cs,hp[id]? =some (some cs)->∀j,¬g.I (g.ρ id) j
theorem aky.on{P:Program}{c g:Gh}{b hp:List aK}{d w:World}(h:aky P c b d)(f:FR c b d g hp w):ain P g w:=by
 refine⟨f.beta.trans h.base.1,λi=>?_⟩;obtain⟨l,p,j,t,r⟩:=h.base.2 i;have q:∀(id:Nat) cs,b[id]? =some (some cs)->c.ρ id≠aik:=λid cs k e=>h.notI id cs k 0 (e▸l)
 exact⟨f.up.mono _ _ l,f.oSame _ j q p,AJ j f.size,t,(f.block _ j q p).trans r⟩
theorem ain.sub{P:Program}{g b:Gh}{w:World}(h:ain P g w)(f:b.β=g.β)(e:g.I aik 0->b.I aik 0)(d:g.O aik=none->b.O aik=none):ain P b w:=
 ⟨f.trans h.1,λc=>have k:=h.2 c;⟨e k.1,d k.2.1,k.2.2⟩⟩
def fS(P:Program)(f:FuncId)(vs:List V)(hp:List aK)(v:V)(hp':List aK):Prop:=
 ∀(w:World)(g:Gh)(b:Array Value),ain P g w->HR g hp w->vs.length=b.size->(∀x∈vs,x.bare=true)->
  (∀(i:Nat) x cv,vs[i]? =some x->b[i]? =some cv->VRel g.I g.ρ hp.length w x cv)->
  Calls P f b w λe w'=>∃cv c,e=.returned cv∧HR c hp' w'∧FR g hp w c hp' w'∧VRel c.I c.ρ hp'.length w' v cv∧aP c w' .res v cv
def bC(P:Program)(Γ:aG):Prop:=∀f vs hp v hp',Γ f vs hp=some (true,v,hp')->fS P f vs hp v hp'
section
variable{w:World}{g:Gh}{s s':St}{a:Act}{P:Program}{Γ:aG}{m:Oper}{next:Act->World->Prop}{Q:Exit->Act->World->Prop}
theorem atk(h:ER g s.hp.length w s.env a.tmps):∀(xs:List ASrc)(ys:List Operand),afR xs ys=true->xs.length=ys.length∧
  ∀(i:Nat) v cv,(xs.map λx=>disown (x.ev s))[i]? =some v->(ys.map a.eval)[i]? =some cv->VRel g.I g.ρ s.hp.length w v cv
 | [],[],_=>⟨rfl,by simp⟩
 |x::xs,y::ys,hp=>by
  simp only[afR,Ac] at hp;obtain⟨d,e⟩:=atk h xs ys hp.2;refine⟨by simp[d],?_⟩;intro i v cv c b;cases i with
  |zero=>simp at c b;subst c b;exact(bA hp.1 h).disown
  |succ i=>exact e i v cv (by simpa using c) (by simpa using b)
 | [],_::_,hp=>by simp[afR] at hp
 |_::_,[],hp=>by simp[afR] at hp
theorem aE2{o:Op}{f:FuncId}{avs:List Operand}(h:aCg o=some (f,avs)):∃i,o=.call ⟨.value (.func f),⟨avs⟩,i⟩:=by
 unfold aCg at h;split at h
 ·rename_i c;obtain⟨b,⟨d⟩,e⟩:=c;simp only at h;split at h;·simp only[Ae,Aj] at h;obtain⟨rfl,rfl⟩:=h;exact⟨_,rfl⟩
  ·simp at h
 ·simp at h
def Gh.hide(g:Gh):Gh:={g with O:=λb=>match g.O b with|some (.slot _)=>none|o=>o}
theorem HR.hide{hp:List aK}(h:HR g hp w):HR g.hide hp w:=by
 refine⟨?_,h.apart,h.notI,?_,h.exI,?_⟩
 ·intro id cs f;refine(h.obj id cs f).keep rfl λt e v u d=>?_
  refine⟨d.len,d.plain,d.typed,d.cold,d.one,d.rel,?_,d.bn⟩;intro j c cv q i;have:=d.own j c cv q i;refine dg this rfl (λb j p=>⟨p,rfl⟩) ?_;intro b k;exact⟨by simp[Gh.hide,k],rfl,λj r=>r⟩
 ·intro id cs f;simp[Gh.hide,h.notO id cs f]
 ·intro b o k;cases l:g.O b with
  |none=>simp[Gh.hide,l] at k
  |some o'=>exact h.oLt b o' l
def Gh.back(g c:Gh)(dst:Option Nat):Gh:={I:=c.I,ρ:=c.ρ,β:=c.β,O:=λb=>match g.O b with
 |some (.slot n)=>some (.slot n)
 |_=>match c.O b with
  |some .res=>dst.map .slot
  |some (.slot _)=>none
  |o=>o}
theorem Gh.back_else{g d:Gh}{dst:Option Nat}{b:Nat}(h:∀n,g.O b≠some (.slot n)):(g.back d dst).O b=(match d.O b with
  |some .res=>dst.map .slot
  |some (.slot _)=>none
  |o=>o):=by
 cases c:g.O b with
 |none=>simp only[Gh.back,c]
 |some o=>
  cases o with
  |slot n=>exact absurd c (h n)
  |cell i j=>simp only[Gh.back,c]
  |res=>simp only[Gh.back,c]
theorem azh{hp':List aK}{w':World}{r:Gh}{dst:Option Nat}{v:V}{cv:Value}(h:SR g s w a)(J:HR r hp' w')(x:FR g.hide s.hp w r hp' w')
  (q3:VRel r.I r.ρ hp'.length w' v cv) (R:aP r w' .res v cv):
  SR (g.back r dst) (St.setO {s with hp:=hp'} dst v) w' (a.put dst cv)∧FR g s.hp w (g.back r dst) hp' w':=by
 have l:∀b n,g.O b=some (.slot n)->g.hide.O b=none:=λb n f=>by simp[Gh.hide,f]
 have p:∀b n,g.O b=some (.slot n)->∀(id:Nat) cs,s.hp[id]? =some (some cs)->g.hide.ρ id≠b:=by intro b n f id cs t e;have:=h.hr.notO id cs t;rw[show g.ρ id=b from e,f] at this;simp at this
 have q:∀b o,r.O b=some o->∀n,g.O b≠some (.slot n):=by intro b o f n z;have:=x.oSame b (h.hr.oLt _ _ z) (p b n z) (l b n z);rw[this] at f;simp at f
 have F:∀b o,r.O b=some o->(∀n,o≠.slot n)->o≠.res->(g.back r dst).O b=some o:=by
  intro b o f H y;rw[Gh.back_else (q b o f),f];cases o with
  |slot n=>exact absurd rfl (H n)
  |cell i j=>rfl
  |res=>exact absurd rfl y
 have Z:∀b n,g.O b=some (.slot n)->w'.heap[b]? =w.heap[b]?∧∀j,r.I b j->g.I b j:=by intro b n f;have D:=h.hr.oLt _ _ f;exact⟨x.block b D (p b n f) (l b n f),λj S=>x.iSame b j D (p b n f) (l b n f) S⟩
 have up:Up g.I g.ρ s.hp.length w r.I r.ρ hp'.length w':=x.up;have hs:SR (g.back r dst) {s with hp:=hp'} w' a:=by
  refine⟨⟨?_,J.apart,J.notI,?_,J.exI,?_⟩,⟨h.er.size,?_,?_⟩⟩
  ·intro id cs t;refine(J.obj id cs t).keep rfl λW e fz H y=>?_
   refine⟨y.len,y.plain,y.typed,y.cold,y.one,y.rel,?_,y.bn⟩;intro j c cv hc B;refine dg (y.own j c cv hc B) rfl (λb j X=>⟨X,rfl⟩) ?_;intro b f;exact⟨F b _ f (by simp) (by simp),rfl,λj S=>S⟩
  ·intro id cs t;have h0:=J.notO id cs t;show (g.back r dst).O (r.ρ id)=none;by_cases A:∃n,g.O (r.ρ id)=some (.slot n)
   ·obtain⟨n,z⟩:=A;exfalso;rcases x.live id cs t with⟨G,E⟩|⟨_,E|E|⟨ab,Y,h5,h6⟩⟩
    ·have D:id<s.hp.length:=(Ag.1 E).1;rw[show r.ρ id=g.ρ id from x.up.rho id D,h.hr.notO id G E] at z;simp at z
    ·have:=h.hr.oLt _ _ z;omega
    ·exact E (l _ n z)
    ·exact p _ n z ab Y h5 h6
   ·rw[Gh.back_else (λn z=>A ⟨n,z⟩),h0]
  ·intro b o f;by_cases A:∃n,g.O b=some (.slot n);·obtain⟨n,z⟩:=A;have:=h.hr.oLt _ _ z;exact AJ this x.size
   ·rw[Gh.back_else (λn z=>A ⟨n,z⟩)] at f;cases C:r.O b with
    |none=>rw[C] at f;simp at f
    |some o'=>exact J.oLt b o' C
  ·intro n v cv hv B;exact(h.er.rel n v cv hv B).up up
  ·intro n v cv hv B;refine dg (h.er.own n v cv hv B) x.beta (λb j X=>⟨up.mono b j X,up.cell b j X⟩) ?_;intro b f;obtain⟨b1,b2⟩:=Z b n f;exact⟨by simp[Gh.back,f],b1,b2⟩
 have fr:FR g s.hp w (g.back r dst) hp' w':=by
  refine⟨x.beta,x.os,x.tape,x.output,x.size,?_,up,?_,?_,?_⟩;·intro b f M C;exact x.block b f M (by simp[Gh.hide,C])
  ·intro b j f M C S;exact x.iSame b j f M (by simp[Gh.hide,C]) S
  ·intro b f M C;have:=x.oSame b f M (by simp[Gh.hide,C]);rw[Gh.back_else (by simp[C]),this]
  ·intro id cs t;rcases x.live id cs t with E|⟨H,y|y|y⟩
   ·exact .inl E
   ·exact .inr ⟨H,.inl y⟩
   ·refine .inr ⟨H,.inr (.inl λh3=>y ?_)⟩;show (match g.O (r.ρ id) with|some (.slot _)=>none|o=>o)=none;rw[show g.O (r.ρ id)=none from h3]
   ·exact .inr ⟨H,.inr (.inr y)⟩
 refine⟨?_,fr⟩;cases dst with
 |none=>exact hs
 |some d=>
  refine hs.set d q3 ?_;cases v with
  |sl k o xs=>
   cases o with
   |may u=>simp[aP]
   |own=>
    cases cv with
    |slice N a1 cap=>
     cases N with
     |none=>simp[aP]
     |some N=>obtain⟨L,o2,o3⟩:=R;refine⟨?_,o2,o3⟩;rw[Gh.back_else (q _ _ L),L];rfl
    |_=>simp[aP]
  |raw n=>
   cases cv with
   |pointer N=>
    cases N with
    |none=>simp[aP]
    |some N=>obtain⟨L,o2,o3⟩:=R;refine⟨?_,o2,o3⟩;rw[Gh.back_else (q _ _ L),L];rfl
   |_=>simp[aP]
  |ul k xs=>
   rcases R with R|⟨b,cap,W,e,fz,m0,m1,m2,m3,m4,m5,m6,m7,m8,m9⟩
   ·exact .inl R
   ·refine .inr ⟨b,cap,W,e,fz,m0,m1,m2,m3,?_,m5,m6,m7,m8,m9⟩;rw[Gh.back_else (q _ _ m4),m4];rfl
  |_=>simp[aP]
theorem aLy(D:bC P Γ)(t:ain P g w){d:Option Nat}{f:Nat}{avs:List ASrc}(k:afH P (.call d f avs) m=true)(q:step Γ (.call d f avs) s=some (true,s'))(h:SR g s w a)(M:cW g s w a s' next):m.wp P a w next Q:=by
 obtain⟨dst,op,ty,z,u,I⟩:=m;simp only[afH,Ac,beq_iff_eq] at k;obtain⟨rfl,k⟩:=k;split at k
 ·rename_i f' b A;obtain⟨S,rfl⟩:=aE2 A;simp only[Ac,beq_iff_eq] at k;obtain⟨rfl,J,l⟩:=k;simp only[step] at q;split at q
  ·rename_i c v hp' H;simp only[Ae,Aj] at q;obtain⟨rfl,rfl⟩:=q;obtain⟨N,R⟩:=atk h.er avs b J;have B:=D _ _ _ _ _ H;unfold auR at l;split at l
   ·rename_i fn r;simp only[Ac,bne_iff_ne,ne_eq] at l;obtain⟨G,h4⟩:=l;have j:fn.body.isNone=false:=by cases hb:fn.body<;>simp_all
    have p:(execOp a.eval ⟨dst,.call ⟨.value (.func f),⟨b⟩,S⟩,ty,z,u,I⟩).run P w=.ok (.enter f (b.map a.eval).toArray) w:=by simp[execOp,resolve,Act.eval,Deferred.ofValue,invoke,callFunc,r,h4,j];intro C;rw[C] at G;simp at G
    unfold C4;rw[p,Oper.upon_enter];refine(B w g.hide (b.map a.eval).toArray (t.sub rfl (λh=>h) (λh=>by simp[Gh.hide,h])) h.hr.hide (by simp[N]) (by intro x E;obtain⟨y,_,rfl⟩:=AH.1 E;exact dZ _) (λi x cv E F=>R i x cv E (by simpa using F))).mono ?_;rintro e w' ⟨cv,g',rfl,O,Y,W,X⟩;simp only;obtain⟨L,Z⟩:=azh (dst:=dst) h O Y W X;refine M _ _ _ L ?_ (by cases dst<;>rfl);cases dst<;>exact Z
   ·simp at l
  ·simp at q
 ·simp at k
theorem aE3{o:Op}{x:Operand}{avs:List Operand}(h:aCh o=some (x,avs)):∃f,o=.call ⟨.value x,⟨avs⟩,f⟩:=by
 unfold aCh at h;split at h
 ·rename_i c;obtain⟨b,⟨d⟩,e⟩:=c;simp only at h;split at h;·simp only[Ae,Aj] at h;obtain⟨rfl,rfl⟩:=h;exact⟨_,rfl⟩
  ·simp at h
 ·simp at h
theorem aJ6(H:bC P Γ)(B:ain P g w){d:Option Nat}{f:Nat}{x:ASrc}{avs:List ASrc}(r:afH P (.dcall d f x avs) m=true)(q:step Γ (.dcall d f x avs) s=some (true,s'))(h:SR g s w a)(Y:cW g s w a s' next):m.wp P a w next Q:=by
 obtain⟨dst,op,ty,I,C,N⟩:=m;simp only[afH,Ac,beq_iff_eq] at r;obtain⟨rfl,r⟩:=r;split at r
 ·rename_i M b D;obtain⟨ts,rfl⟩:=aE3 D;simp only[Ac,beq_iff_eq] at r;obtain⟨S,R,t⟩:=r;have r0:=bA S h.er;simp only[step] at q;split at q
  ·rename_i f' ab2 k;rw[k] at r0;split at q
   ·rename_i c v hp' O;simp only[Ae,Aj,Ac] at q;obtain⟨⟨G,rfl⟩,rfl⟩:=q;obtain rfl:=AE G;generalize j:a.eval M=aa at r0;cases r0 with
    |fn _ _ vs W hv=>
    obtain⟨J,k2⟩:=atk h.er avs b R;have E:=H _ _ _ _ _ O;unfold auR at t;split at t
    ·rename_i fn A;simp only[Ac,bne_iff_ne,ne_eq] at t;obtain⟨L,h4⟩:=t;have l:fn.body.isNone=false:=by cases hb:fn.body<;>simp_all
     have u:(execOp a.eval ⟨dst,.call ⟨.value M,⟨b⟩,ts⟩,ty,I,C,N⟩).run P w=.ok (.enter f' ((b.map a.eval).toArray++vs)) w:=by simp[execOp,resolve,j,Deferred.ofValue,invoke,callFunc,A,h4,l];intro F;rw[F] at L;simp at L
     unfold C4;rw[u,Oper.upon_enter];refine(E w g.hide ((b.map a.eval).toArray++vs) (B.sub rfl (λh=>h) (λh=>by simp[Gh.hide,h])) h.hr.hide (by simp[J,W]) (by
      intro x k;rcases Az.1 k with k|k;·obtain⟨y,_,rfl⟩:=AH.1 k;exact dZ _
      ·obtain⟨y,_,rfl⟩:=AH.1 k;exact dZ _) (λi x cv k j=>by
       have p:(avs.map λy=>disown (y.ev s)).length=(b.map a.eval).length:=by simp[J]
       rcases AG i (b.map a.eval).length with z|z;·rw[Au (by rw[p];exact z)] at k;rw[B0 (by simpa using z)] at j;exact k2 i x cv k (by simpa using j)
       ·rw[At (by rw[p];exact z),AA,As] at k;obtain⟨y,Z,rfl⟩:=k;rw[Array.getElem?_append_right (by simpa using z)] at j;refine(hv _ y cv Z ?_).disown;rw[p];simpa using j)).mono ?_
     rintro e w' ⟨cv,g',rfl,q1,q2,q3,q4⟩;simp only;obtain⟨X,r2⟩:=azh (dst:=dst) h q1 q2 q3 q4;refine Y _ _ _ X ?_ (by cases dst<;>rfl);cases dst<;>exact r2
    ·simp at t
   ·simp at q
  ·simp at q
 ·simp at r
theorem aCi(j:bC P Γ)(f:ain P g w){o:IOp}(b:aG9 P o m=true)(c:step Γ o s=some (true,s'))(h:SR g s w a)(e:cW g s w a s' next):m.wp P a w next Q:=by
 unfold aG9 at b;simp only[Bg] at b;rcases b with(((((((((b|b)|b)|b)|b)|b)|b)|b)|b)|b)|b
 ·cases o with
  |pick=>exact aLl b c h e
  |bin=>exact aMu b c h e
  |un=>exact aNy b c h e
  |cvi=>exact aMr b c h e
  |b2s=>exact aMs b c h e
  |lens=>exact aLm b c h e
  |lenl=>exact aLn b c h e
  |idx=>exact aMt b c h e
  |ixa=>exact aMv b c h e
  |subs=>exact aLo b c h e
  |subl=>exact aLp b c h e
  |fad=>exact aMw b c h e
  |fld=>exact aMx b c h e
  |ext=>exact aMy b c h e
  |nck=>exact aMz b c h e
  |mx=>exact aNz b c h e
  |snil=>exact aLq b c h e
  |ld d n agg i x=>
   cases i with
   |false=>exact aGZ b c h e
   |true=>simp[bN] at b
  |_=>simp[bN] at b
 ·cases o with
  |mov=>exact aMA b c h e
  |bsl=>exact aMB f.1 b c h e
  |s2b=>exact aMD f.1 b c h e
  |app=>exact aMC f.1 b c h e
  |apps=>exact aLr f.1 b c h e
  |_=>simp[rS] at b
 ·cases o with
  |call=>exact aLy j f b c h e
  |dcall=>exact aJ6 j f b c h e
  |_=>simp[afH] at b
 ·cases o with
  |new=>exact aME b c h e
  |box=>exact aMF b c h e
  |st=>exact aNA b c h e
  |ld d n agg i x=>
   cases i with
   |true=>exact aIi b c h e
   |false=>simp[pR] at b
  |bld=>exact aMG b c h e
  |_=>simp[pR] at b
 ·cases o with
  |newb=>exact aLs b c h e
  |_=>simp[aqT] at b
 ·cases o with
  |_=>simp[aGp] at b
 ·cases o with
  |boxe=>exact aLt b c h e
  |alr=>exact aMI b c h e
  |frz=>exact aMJ b c h e
  |pub=>exact aMK b c h e
  |lde=>exact aMH b c h e
  |mkf=>exact aML b c h e
  |_=>simp[uY] at b
 ·cases o with
  |apu=>exact aIl f.1 b c h e
  |blu=>exact aMN f.1 b c h e
  |lnw=>exact aMO b c h e
  |ixw=>exact aMP b c h e
  |fdw=>exact aMQ b c h e
  |ldw=>exact aMR b c h e
  |stw=>exact aMS b c h e
  |_=>simp[sW] at b
 ·cases o with
  |mkm=>exact aMV b c h e
  |mget=>exact aLw b c h e
  |mput=>exact aLx b c h e
  |_=>simp[ada] at b
 ·cases o with
  |ixe=>exact aMW b c h e
  |arw=>exact aMX b c h e
  |apo=>exact aMY f.1 b c h e
  |stu=>exact aMZ b c h e
  |_=>simp[akx] at b
 ·cases o with
  |stn=>exact aIm b c h e
  |ldn=>exact aMU b c h e
  |_=>simp[atg] at b
structure Inv(g₀:Gh)(hp₀:List aK)(w₀:World)(df:List Deferred)(g:Gh)(s:St)(w:World)(a:Act):Prop where
 sr:SR g s w a
 fr:FR g₀ hp₀ w₀ g s.hp w
 df:a.defers=df
theorem SR.renew(h:SR g s w a)(n:Nat)(b:Bool)(c:s.get n=.bool b):SR g (s.set n (.bool b)) w a:=by have:=h.bare n;rw[c] at this;exact this
theorem azi(h:SR g s w a){o:Oper}{d:Array Oper}{j n:Nat}{b f:Bool}(p:(d[j]?).bind (·.dst)=some n)(l:o.guard=some (j,f))(i:s.get n=.bool b):
  C3 o (yielded d a.tmps)=(b==f):=by
 have q:n<s.env.length:=by
  rcases AG n s.env.length with e|e;·exact e
  ·simp[St.get,Af,A1 e] at i
 have c:n<a.tmps.size:=by rw[<-h.er.size];exact q
 have r:=h.er.get n;rw[i] at r;have k:a.tmps[n]? =some (a.tmps.getD n undef):=by simp[B4,c,Am c]
 generalize a.tmps.getD n undef=cv at r k;cases r;simp[C3,l,yielded,p,k]
theorem azj(h:SR g s w a){o:Oper}{c:Array Oper}{j n:Nat}{k:Bool}(l:(c[j]?).bind (·.dst)=some n)(i:o.guard=some (j,k))(e:s.get n=.tup []):
  C3 o (yielded c a.tmps)=false:=by
 have p:n<s.env.length:=by
  rcases AG n s.env.length with d|d;·exact d
  ·simp[St.get,Af,A1 d] at e
 have b:n<a.tmps.size:=by rw[<-h.er.size];exact p
 have r:=h.er.get n;rw[e] at r;have f:a.tmps[n]? =some (a.tmps.getD n undef):=by simp[B4,b,Am b]
 generalize a.tmps.getD n undef=cv at r f;cases r;simp[C3,i,yielded,l,f]
theorem an6(h:SR g s w a)(d:Option Nat):SR g (s.setO d (.tup [])) w (a.put d undef):=by
 cases d with
 |none=>exact h
 |some d=>exact h.set d (.tup [] #[] rfl (by simp)) (by simp[aP])
theorem aw4(s:St)(d:Option Nat)(v:V):(s.setO d v).hp=s.hp:=by cases d<;>rfl
theorem aCj(a:Act)(d:Option Nat)(v:Value):(a.put d v).defers=a.defers:=by cases d<;>rfl
theorem aCk{R:Type}{c:Bool}{x:Option R}{r:R}(h:chk c x=some r):c=true∧x=some r:=by
 cases c with
 |true=>exact⟨rfl,h⟩
 |false=>simp[chk] at h
theorem afS(F:bC P Γ){z:Gh}{q:List aK}{x:World}(C:aky P z q x){R:Type}{K:St->Option R}{r:R}{k:Array Oper}{df:List Deferred}{Q:Exit->Act->World->Prop}
  (J:∀s g w a,K s=some r->Inv z q x df g s w a->Q .normal a w):∀(l:List GOp)(i:Nat),acM P k i l=true->∀(s:St)(g:Gh)(w:World)(a:Act),
   runOps Γ l K s=some r->Inv z q x df g s w a->wpOps P k Q (C5 i (k.size-i)) a w
 | [],i,B,s,g,w,a,f,h=>by simp only[acM,beq_iff_eq] at B;subst B;simp only[De,List.range'_zero,wpOps];exact J s g w a f h
 |⟨W,o,ob⟩::l,i,B,s,g,w,a,f,h=>by
  simp only[acM,Ac] at B;obtain⟨B,N⟩:=B;split at B
  ·rename_i m O;have hi:i<k.size:=by
    rcases AG i k.size with H|H;·exact H
    ·simp[BY H] at O
   rw[show k.size-i=(k.size-(i+1))+1 by omega,List.range'_succ];simp only[aw3,Ac,beq_iff_eq] at B;obtain⟨⟨H,X⟩,A⟩:=B;have y:∀e,SR g e w a->e.hp=s.hp->∀c s',stepO Γ ob o e=some (c,s')->chk c (runOps Γ l K s')=some r->m.wp P a w (wpOps P k Q (C5 (i+1) (k.size-(i+1)))) Q:=by intro e d D c s' u E;obtain⟨rfl,E⟩:=aCk E;refine aCi F (C.on h.fr) H (nU u) d ?_;intro a' w' Y L M Z;refine afS F C J l (i+1) N s' Y w' a' E ⟨L,?_,Z.trans h.df⟩;rw[D] at M;exact h.fr.trans M
   have skip:∀e,SR g e w a->e.hp=s.hp->runOps Γ l K (e.setO o.dst (.tup []))=some r->wpOps P k Q (C5 (i+1) (k.size-(i+1))) (a.put m.dst undef) w:=by intro e d D G;rw[X] at G;refine afS F C J l (i+1) N _ g w _ G ⟨an6 d _,?_,(aCj _ _ _).trans h.df⟩;rw[aw4,D];exact h.fr
   simp only[wpOps,O];match W,A,f with
   |none,A,f=>
    cases v:m.guard with
    |some p=>rw[v] at A;simp at A
    |none=>
    rw[if_pos (by simp[C3,v])];left;simp only[runOps] at f;split at f;·rename_i c s' u;exact y s h.sr rfl c s' u f
    ·simp at f
   |some (n,b),A,f=>
    cases v:m.guard with
    |none=>rw[v] at A;simp at A
    |some p=>
    obtain⟨j,b'⟩:=p;rw[v] at A;simp only[Ac,beq_iff_eq] at A;obtain⟨rfl,S⟩:=A;simp only[runOps] at f;split at f
    ·rename_i t I;rw[azi h.sr S v I];have d:=h.sr.renew n t I;cases t with
     |true=>
      simp only[cond_true] at f;cases b with
      |true=>
       simp only at f;rw[if_pos (by rfl)];left;split at f;·rename_i c s' u;exact y _ d rfl c s' u f
       ·simp at f
      |false=>rw[if_neg (by simp)];exact skip _ d rfl f
     |false=>
      simp only[cond_false] at f;cases b with
      |false=>
       simp only at f;rw[if_pos (by rfl)];left;split at f;·rename_i c s' u;exact y _ d rfl c s' u f
       ·simp at f
      |true=>rw[if_neg (by simp)];exact skip _ d rfl f
    ·rename_i I;rw[azj h.sr S v I,if_neg (by simp)];exact skip _ h.sr rfl f
    ·simp at f
  ·simp at B
theorem an7{b:Array Oper}:∀(l:List GOp)(i:Nat),acM P b i l=true->b.size=i+l.length∧∀(k:Nat) x,l[k]? =some x->∃m,b[i+k]? =some m∧aw3 P b x m=true
 | [],i,h=>by simp only[acM,beq_iff_eq] at h;exact⟨by simp[h],by simp⟩
 |x::l,i,h=>by
  simp only[acM,Ac] at h;obtain⟨d,j⟩:=h;obtain⟨p,q⟩:=an7 l (i+1) j;refine⟨by simp[p];omega,?_⟩;intro k y c;cases k with
  |zero=>
   simp at c;subst c;split at d;·rename_i m e;exact⟨m,e,d⟩
   ·simp at d
  |succ k=>obtain⟨m,e,f⟩:=q k y (by simpa using c);exact⟨m,by rw[<-e];congr 1;omega,f⟩
theorem aIy(H:bC P Γ){l:Gh}{d:List aK}{f:World}(B:aky P l d f){u:Array Oper}{i:Nat}{m:Oper}{x:GOp}(W:u[i]? =some m)(L:aw3 P u x m=true){df:List Deferred}{Q:Exit->Act->World->Prop}{K:Act->World->Prop}
  (k:eC Γ x s=some s') (h:Inv l d f df g s w a) (G:∀C w' A,Inv l d f df C s' w' A->K A w'):wpOp P u Q i K a w:=by
 obtain⟨O,o,ob⟩:=x;simp only[aw3,Ac,beq_iff_eq] at L;obtain⟨⟨R,J⟩,q⟩:=L;have r:(match stepO Γ ob o s with|some (c,s')=>chk c (some s')|none=>none)=some s'->m.wp P a w K Q:=by
  intro v;split at v
  ·rename_i c z y;obtain⟨rfl,E⟩:=aCk v;obtain rfl:z=s':=by simpa using E
   refine aCi H (B.on h.fr) R (nU y) h.sr ?_;intro A w' C I N S;exact G C w' A ⟨I,h.fr.trans N,S.trans h.df⟩
  ·simp at v
 unfold wpOp;simp only[W];match O,q,k with
 |none,q,k=>
  cases e:m.guard with
  |some p=>rw[e] at q;simp at q
  |none=>
  rw[if_pos (by simp[C3,e])];exact .inl (r k)
 |some (n,b),q,k=>
  cases e:m.guard with
  |none=>rw[e] at q;simp at q
  |some p=>
  obtain⟨j,X⟩:=p;rw[e] at q;simp only[Ac,beq_iff_eq] at q;obtain⟨rfl,M⟩:=q;simp only[eC] at k;split at k
  ·rename_i t F;rw[azi h.sr M e F];split at k;·rename_i D;rw[if_pos D];exact .inl (r k)
   ·rename_i D;rw[if_neg (by simp[D])];obtain rfl:_=s':=by simpa using k
    rw[<-J];exact G g w _ ⟨an6 h.sr _,by rw[aw4];exact h.fr,(aCj _ _ _).trans h.df⟩
  ·rename_i F;rw[azj h.sr M e F,if_neg (by simp)];obtain rfl:_=s':=by simpa using k
   rw[<-J];exact G g w _ ⟨an6 h.sr _,by rw[aw4];exact h.fr,(aCj _ _ _).trans h.df⟩
  ·simp at k
theorem aIz(av:bC P Γ){M:Gh}{t:List aK}{H:World}(az:aky P M t H){ag:List Nat}(hP:co Γ ag){R:Type}{K:St->Option R}{r:R}{u:Array Oper}{l:List GOp}{C:List (List Nat)}(hc:afI P ag u l C=true){df:List Deferred}{Q:Exit->Act->World->Prop}
  (hQ:∀s g w a,K s=some r->Inv M t H df g s w a->Q .normal a w):∀(k:Nat)(f:List Nat)(b:Array Bool)(s:St)(g:Gh)(w:World)(a:Act),
   f.length=k->f.Pairwise (·<·)->(∀i,i∈f↔i<l.length∧b.getD i true=false)->b.size=l.length->(∀j,j<l.length->j ∉ f->∀i∈C.getD j [],i ∉ f)->
   runOps Γ (f.filterMap λi=>l[i]?) K s=some r->Inv M t H df g s w a->wpAny P .any u Q k b a w:=by
 simp only[afI,Ac] at hc;obtain⟨⟨-,a3⟩,an⟩:=hc;obtain⟨L,Z⟩:=an7 l 0 a3;simp only[Bf] at L Z
 have hj:∀j,j<l.length->∃m x,u[j]? =some m∧l[j]? =some x∧aw3 P u x m=true∧(∀e∈m.after,Region.binds .any e=true->e.on<j)∧
   (∀i∈C.getD j [],∃e∈m.after,Region.binds .any e=true∧(e.on=i∨i∈C.getD e.on []))∧(∀i,i<j->i∈C.getD j []∨∃y,l[i]? =some y∧auM ag y x=true):=by
  intro j J;have h0:=Aw.1 an j (CV.2 J);simp only[Ac] at h0;obtain⟨c,q⟩:=h0;have hx:l[j]? =some l[j]:=Ah J;obtain⟨m,I,W⟩:=Z j _ hx;rw[I] at c;rw[hx] at q;simp only[Ac] at c;refine⟨m,l[j],I,hx,W,?_,?_,?_⟩;·intro e O D;have:=Aw.1 c.1 e (by simpa using O);simpa [D] using this
  ·intro i hi;have:=Aw.1 c.2 i hi;obtain⟨e,O,D⟩:=List.any_eq_true.1 this;simp only[Ac,Bg,beq_iff_eq,Dt] at D;exact⟨e,by simpa using O,D.1,D.2⟩
  ·intro i hi;have:=Aw.1 q i (CV.2 hi);simp only[Bg,Dt] at this;rcases this with h3|h3;·exact .inl h3
   ·right;split at h3;·rename_i y hy;exact⟨y,hy,h3⟩
    ·simp at h3
 have v:∀(f:List Nat)(b:Array Bool),(∀i,i∈f↔i<l.length∧b.getD i true=false)->b.size=l.length->∀j m,u[j]? =some m->(j∈Region.ready .any u b↔j∈f∧∀e∈m.after,Region.binds .any e=true->e.on<l.length∧e.on ∉ f):=by
  intro f b d E j m I;have J:j<l.length:=by rw[<-L];exact(AX.1 I).1
  have key:∀i,b.getD i false=true↔i<l.length∧i ∉ f:=by
   intro i;rw[d i];rcases AG i b.size with c|c
   ·have q:i<l.length:=by omega
    simp[B4,c,q]
   ·have q:¬i<l.length:=by omega
    have h3:¬i<b.size:=by omega
    simp[B4,h3,q]
  rw[mem_ready,d j];constructor;·rintro⟨c,o,Y,q⟩;rw[I] at Y;cases Y;exact⟨⟨J,c⟩,λe O D=>(key _).1 (q e O D)⟩
  ·rintro⟨⟨_,c⟩,q⟩;exact⟨c,m,I,λe O D=>(key _).2 (q e O D)⟩
 intro k;induction k with
 |zero=>intro f b s g w a z N d E G hr h;have:f=[]:=Bu z;subst this;simp only[wpAny];refine⟨?_,hQ s g w a hr h⟩;rw[List.eq_nil_iff_forall_not_mem];intro j F;have:=mem_ready.1 F;obtain⟨hu,o,Y,_⟩:=this;exact absurd ((v [] b d E j o Y).1 F).1 (by simp)
 |succ k ih=>
  intro f b s g w a z N d E G hr h;simp only[wpAny];refine⟨?_,?_⟩
  ·intro au;exfalso;cases f with
   |nil=>simp at z
   |cons j f=>
    have ad:=((d j).1 (A4 ..)).1;obtain⟨m,x,I,hx,W,O,hp,hi⟩:=hj j ad;have:j∈Region.ready .any u b:=by
     refine(v _ b d E j m I).2 ⟨A4 ..,λe ab D=>?_⟩;have J:=O e ab D;refine⟨by omega,?_⟩;intro p;rcases A3.1 p with c|c;·omega
     ·have:=(List.pairwise_cons.1 N).1 _ c;omega
    rw[au] at this;simp at this
  ·intro j F;obtain⟨hu,o,Y,_⟩:=mem_ready.1 F;obtain⟨ak,aa⟩:=(v f b d E j o Y).1 F;have ad:=((d j).1 ak).1;obtain⟨m,x,I,hx,W,O,hp,hi⟩:=hj j ad;rw[I] at Y;cases Y;have aj:∀i∈C.getD j [],i ∉ f:=by
    intro i S;obtain⟨e,ab,D,af⟩:=hp i S;obtain⟨d1,d2⟩:=aa e ab D;rcases af with rfl|af;·exact d2
    ·exact G _ d1 d2 i af
   obtain⟨A,B,rfl⟩:=List.append_of_mem ak;have hA:∀i∈A,i<j:=by intro i X;exact(List.pairwise_append.1 N).2.2 i X j (A4 ..)
   have hB:∀i∈B,j<i:=by intro i a1;exact(List.pairwise_cons.1 (List.pairwise_append.1 N).2.1).1 i a1
   rw[List.filterMap_append,D8 hx] at hr;obtain⟨s',hg,ao⟩:=aLe hP _ s (by
    intro y hy;obtain⟨i,X,aw⟩:=List.mem_filterMap.1 hy;rcases hi i (hA i X) with c|⟨y',c,q⟩
    ·exact absurd (BM _ X) (aj i c)
    ·rw[aw] at c;cases c;exact q) hr
   rw[<-List.filterMap_append] at ao;refine aIy av az I W hg h ?_;intro g' w' a' am;have p:∀i,i∈A++B↔i∈A++j::B∧i≠j:=by
    intro i;simp only[Az,A3];constructor
    ·rintro(c|c);·exact⟨.inl c,by have:=hA i c;omega⟩
     ·exact⟨.inr (.inr c),by have:=hB i c;omega⟩
    ·rintro⟨c|c|c,q⟩;·exact .inl c
     ·exact absurd c q
     ·exact .inr c
   refine ih (A++B) (b.setIfInBounds j true) s' g' w' a' ?_ ?_ ?_ (by simp[E]) ?_ ao am;·simp only[Ak,Ai] at z ⊢;omega
   ·exact N.sublist (List.Sublist.append_left (List.sublist_cons_self ..) _)
   ·intro i;rw[p,d];by_cases ac:i=j
    ·subst ac;have a2:i<b.size:=by omega
     simp[B4,a2]
    ·rw[getD_set_ne true (λe=>ac e.symm)];simp[ac]
   ·intro j' ay ap i S ax;obtain⟨c,q⟩:=(p i).1 ax;by_cases al:j'=j;·subst al;exact aj i S c
    ·exact G j' ay (λa4=>ap ((p j').2 ⟨a4,al⟩)) i S c
theorem ahp{α:Type}:∀(l:List α),((BN l.length).filterMap λi=>l[i]?)=l
 | []=>rfl
 |x::l=>by rw[Ai,List.range_succ_eq_map,D8 (b:=x) (by simp),List.filterMap_map];have:=ahp l;simp only[D4,Nat.succ_eq_add_one,A9];rw[this]
theorem Inv.drew{e:Gh}{c:List aK}{d:World}{df:List Deferred}(h:Inv e c d df g s w a):Inv e c d df g s w.drew a:=by
 have u:Up g.I g.ρ s.hp.length w g.I g.ρ s.hp.length w.drew:=⟨λ_ _ h=>h,λ_ _ _=>rfl,λ_ _=>rfl,Ap _⟩
 refine⟨⟨h.sr.hr.drew,⟨h.sr.er.size,λn v cv f i=>(h.sr.er.rel n v cv f i).up u,λn v cv f i=>dg (h.sr.er.own n v cv f i) rfl (λb j k=>⟨k,rfl⟩) (λb l=>⟨l,rfl,λj p=>p⟩)⟩⟩,?_,h.df⟩;exact⟨h.fr.beta,h.fr.os,h.fr.tape,h.fr.output,h.fr.size,h.fr.block,h.fr.up.trans u,h.fr.iSame,h.fr.oSame,h.fr.live⟩
theorem aHa(v:bC P Γ){d:Gh}{b:List aK}{c:World}(t:aky P d b c){q:List Nat}(z:co Γ q){R:Type}{K:St->Option R}{r:R}{id:Nat}{f:Array Oper}{l:List GOp}{u:List (List Nat)}(x:afI P q f l u=true){df:List Deferred}{Q:Exit->Act->World->Prop}
  (y:∀s g w a,K s=some r->Inv d b c df g s w a->Q .normal a w) (B:runOps Γ l K s=some r) (h:Inv d b c df g s w a):(Code.region id f true).wp P Q a w:=by
 have e:=x;simp only[afI,Ac] at e;have k:f.size=l.length:=by simpa using (an7 l 0 e.1.2).1
 refine wp_region_any e.1.1 ?_;rw[k];refine aIz v t z x y l.length (BN l.length) _ s g _ a (by simp) List.pairwise_lt_range ?_ (by simp) ?_ (by rw[ahp];exact B) h.drew;·intro i;by_cases A:i<l.length<;>simp[B4,A]
 ·intro j C p;exact absurd (CV.2 C) p
theorem uh(c:List Nat)(m:Nat):∀(b:List V)(i n:Nat)(v:V),(uc c m i b)[n]? =some v->v=.undef∨(v.lower m=true∧b[n]? =some v)
 | [],i,n,v,h=>by simp[uc] at h
 |x::b,i,n,v,h=>by
  simp only[uc] at h;cases n with
  |zero=>
   simp only[BK,Ae] at h;split at h;·rename_i d;simp only[Ac] at d;right;subst h;exact⟨d.2,by simp⟩
   ·left;exact h.symm
  |succ n=>simp only[A9] at h ⊢;exact uh c m b (i+1) n v h
theorem zv(c:List Nat)(m:Nat):∀(b:List V)(i:Nat),(uc c m i b).length=b.length
 | [],i=>rfl
 |x::b,i=>by simp[uc,zv c m b (i+1)]
theorem qL{n:Nat}:∀{cs:List V},V.lowers n cs=true->∀(i:Nat) c,cs[i]? =some c->c.lower n=true
 | [],_,i,c,b=>by simp at b
 |x::cs,h,i,c,b=>by
  simp only[V.lowers,Ac] at h;cases i with
  |zero=>simp at b;subst b;exact h.1
  |succ i=>exact qL h.2 i c (by simpa using b)
theorem aE4{n:Nat}{cs:List V}(h:V.lowers n cs=true)(j:Nat)(c:V)(b:(cellsOf cs)[j]? =some c):c.lower n=true:=by
 cases d:dH cs with
 |false=>rw[jW d] at b;exact qL h j c b
 |true=>
  unfold dH at d;split at d;·simp only[cellsOf,AA,As] at b;obtain⟨_,_,rfl⟩:=b;rfl
  ·simp[V.lowers,V.lower] at h
  ·unfold cellsOf at b;split at b;·rename_i e;cases e
   ·rename_i e;cases e
   ·rename_i e;cases e;simp[V.lowers,V.lower] at h
   ·exact qL h j c b
  ·cases d
theorem aE5{v:V}{n:Nat}(h:v.flat1=true):v.lower n=true:=by unfold V.flat1 at h;split at h<;>first|rfl|cases h
theorem VRel.fewer{I:Nat->Nat->Prop}{ρ:Nat->Nat}{N n:Nat}{v:V}{cv:Value}(h:VRel I ρ N w v cv)(u:v.lower n=true)(O:n<=N):VRel I ρ n w v cv:=by
 induction h with
 |undef cv=>exact .undef cv
 |bool b=>exact .bool b
 |int k n h=>exact .int k n h
 |str l s q h=>exact .str l s q h
 |sln k o=>exact .sln k o
 |sle k o z L=>exact .sle k o z L
 |sl k o xs b e G cap q d r J f D F B y=>refine .sl k o xs b e G cap q d r J f D F (λi x j v A H=>y i x j v A H ?_);exact aE5 (akp k x v (Ar H))
 |agg cs vs q A C B y=>exact .agg cs vs q A C (λi c cv d t=>y i c cv d t (qL (by simpa [V.lower] using u) i c d))
 |tup cs vs q B y=>exact .tup cs vs q (λi c cv d t=>y i c cv d t (qL (by simpa [V.lower] using u) i c d))
 |ea cs b e f A D F B y=>exact .ea cs b e f A D F (λj c d=>y j c d (qL (by simpa [V.lower] using u) j c d))
 |ptr id e h=>exact .ptr id e (by simpa [V.lower,C2] using u)
 |nilp=>exact .nilp
 |fn f cs vs q B y=>exact .fn f cs vs q (λi c cv d t=>y i c cv d t (qL (by simpa [V.lower] using u) i c d))
 |nilif=>exact .nilif
 |bn E n p=>exact .bn E n p
 |junk cv h=>exact .junk cv h
 |so id m cap h d r=>exact .so id m cap (by simpa [V.lower,C2] using u) d r
 |raw n b=>exact .raw n b
 |ul k xs z cap r=>exact .ul k xs z cap r
 |hd n z cap r=>exact .hd n z cap r
 |sw k id m h d r=>exact .sw k id m (by simpa [V.lower,C2] using u) d r
 |sx k id e m z cap h d r q M=>exact .sx k id e m z cap (by simpa [V.lower,C2] using u) d r q M
 |wp id k i o h=>exact .wp id k i o (by simpa [V.lower,C2] using u)
 |mr id h=>exact .mr id (by simpa [V.lower,C2] using u)
 |nilm=>exact .nilm
theorem ad7{n:Nat}:∀{hp:List aK},ud n hp=true->∀(id:Nat) cs,hp[id]? =some (some cs)->V.lowers n cs=true
 | [],_,id,cs,h=>by simp at h
 |none::hp,b,id,cs,h=>by
  cases id with
  |zero=>simp at h
  |succ id=>exact ad7 (hp:=hp) (by simpa [ud] using b) id cs (by simpa using h)
 |some x::hp,b,id,cs,h=>by
  simp only[ud,Ac] at b;cases id with
  |zero=>simp at h;subst h;exact b.1
  |succ id=>exact ad7 b.2 id cs (by simpa using h)
theorem SR.keepEnv(h:SR g s w a)(b:List Nat)(n:Nat):SR g {s with env:=uc b n 0 s.env} w a:=by
 refine⟨h.hr,⟨by simp[zv,h.er.size],?_,?_⟩⟩
 ·intro m v cv c d;rcases uh b n s.env 0 m v c with rfl|⟨_,c⟩
  ·exact .undef _
  ·exact h.er.rel m v cv c d
 ·intro m v cv c d;rcases uh b n s.env 0 m v c with rfl|⟨_,c⟩
  ·simp[aP]
  ·exact h.er.own m v cv c d
theorem Inv.keeps{t:Gh}{f:List aK}{r:World}{df:List Deferred}(h:Inv t f r df g s w a)(d:List Nat){n:Nat}(H:f.length<=n):Inv t f r df g (s.keep d n) w a:=by
 unfold St.keep;cases A:ud n (s.hp.take n) with
 |false=>exact⟨h.sr.keepEnv d n,h.fr,h.df⟩
 |true=>
  simp only[cond_true];rcases AG n s.hp.length with J|z
  ·have p:(s.hp.take n).length=n:=by simp;omega
   have i:∀(id:Nat) cs,(s.hp.take n)[id]? =some (some cs)->s.hp[id]? =some (some cs):=by
    intro id cs b;rw[AY] at b;split at b;·exact b
    ·simp at b
   have F:=ad7 A;refine⟨⟨⟨?_,?_,?_,?_,h.sr.hr.exI,h.sr.hr.oLt⟩,⟨by simp[zv,h.sr.er.size],?_,?_⟩⟩,?_,h.df⟩
   ·intro id cs b;refine(h.sr.hr.obj id cs (i id cs b)).keep rfl λI e L E q=>?_
    refine⟨q.len,q.plain,?_,q.cold,q.one,?_,q.own,q.bn⟩
    ·intro k xs x;have:=F id _ b;unfold akq at x;split at x;·simp[V.lowers,V.lower] at this
     ·simp[V.lowers,V.lower] at this
     ·cases x
    intro j c cv G l;rw[p];exact(q.rel j c cv G l).fewer (aE4 (F id cs b) j c G) (by omega)
   ·intro id B cs D E q y;exact h.sr.hr.apart id B cs D (i _ _ E) (i _ _ q) y
   ·intro id cs b;exact h.sr.hr.notI id cs (i _ _ b)
   ·intro id cs b;exact h.sr.hr.notO id cs (i _ _ b)
   ·intro m v cv u l;rw[p];rcases uh d n s.env 0 m v u with rfl|⟨C,u⟩
    ·exact .undef _
    ·exact(h.sr.er.rel m v cv u l).fewer C (by omega)
   ·intro m v cv u l;rcases uh d n s.env 0 m v u with rfl|⟨_,u⟩
    ·simp[aP]
    ·exact h.sr.er.own m v cv u l
   ·refine⟨h.fr.beta,h.fr.os,h.fr.tape,h.fr.output,h.fr.size,h.fr.block,⟨h.fr.up.mono,h.fr.up.cell,h.fr.up.rho,by rw[p];exact H⟩,h.fr.iSame,h.fr.oSame,?_⟩;intro id cs b;exact h.fr.live id cs (i _ _ b)
  ·rw[List.take_of_length_le z];exact⟨h.sr.keepEnv d n,h.fr,h.df⟩
def ad8:Ex->Exit->Prop
 | .normal,.normal=>True
 | .exit i,.exit j=>i=j
 | .ret,.ret=>True
 |_,_=>False
def aHb{R:Type}(c:Gh)(b:List aK)(d:World)(df:List Deferred)(K:Ex->St->Option R)(r:R)(e:Exit)(a:Act)(w:World):Prop:=
 ∃x s g,ad8 x e∧K x s=some r∧Inv c b d df g s w a
theorem kq(D:bC P Γ){F:Gh}{z:List aK}{E:World}(C:aky P F z E){X:List Nat}(J:co Γ X)(n:Nat){R:Type}{L:Nat}(f:z.length<=L){df:List Deferred}{r:R}:∀(ir:IR)(c:Code),bL P X L ir c=true->∀(K:Ex->St->Option R)(s:St)(a:Act)(w:World)(g:Gh),
  run Γ n ir K s=some r->Inv F z E df g s w a->c.wp P (aHb F z E df K r) a w
 | .bad,c,p,K,s,a,w,g,b,h=>by simp[run] at b
 | .skip,c,p,K,s,a,w,g,b,h=>by
   cases c<;>simp[bL] at p;·exact wp_skip ⟨.normal,s,g,trivial,b,h⟩
   ·exact wp_label ⟨.normal,s,g,trivial,b,h⟩
 | .reg l ae,c,p,K,s,a,w,g,b,h=>by
   cases c with
   |region id ab aa=>
    cases aa with
    |true=>
     have p:afI P X ab l ae=true:=by simpa only[bL] using p
     exact aHa (Q:=aHb F z E df K r) D C J p (K:=K .normal) (r:=r) (λs g w a B G=>⟨.normal,s,g,trivial,B,G⟩) b h
    |false=>
     have p:acM P ab 0 l=true:=by simpa only[bL] using p
     refine wp_region ?_;have:=afS (Q:=aHb F z E df K r) D C (K:=K .normal) (r:=r) (λs g w a B G=>⟨.normal,s,g,trivial,B,G⟩) l 0 p s g w a b h
     rwa [Nat.sub_zero,<-List.range_eq_range'] at this
   |_=>simp[bL] at p
 | .seq x y,c,p,K,s,a,w,g,b,h=>by
   cases c<;>simp[bL] at p;rename_i c d;refine wp_seq (wp_mono (kq D C J n f x c p.1 _ s a w g b h) ?_);rintro e a' w' ⟨O,s',A,H,B,G⟩;cases O with
   |normal=>cases e<;>simp only[ad8] at H;exact kq D C J n f y d p.2 K s' a' w' A B G
   |exit i=>cases e<;>simp only[ad8] at H;exact⟨.exit i,s',A,H,B,G⟩
   |ret=>cases e<;>simp only[ad8] at H;exact⟨.ret,s',A,trivial,B,G⟩
 | .cond v x y,c,p,K,s,a,w,g,b,h=>by
   cases c<;>simp[bL] at p;rename_i u c d;simp only[run] at b;split at b
   ·rename_i t ht;have rr:=bA p.1 h.sr.er;rw[ht] at rr;generalize ah:a.eval u=cv at rr;cases rr;refine wp_cond ah ?_;cases t with
    |true=>rw[ASrc.fix_eq ht] at b;exact kq D C J n f x c p.2.1 K s a w g b h
    |false=>simp only[cond_false] at b;rw[ASrc.fix_eq ht] at b;exact kq D C J n f y d p.2.2 K s a w g b h
   ·simp at b
 | .block i x,c,p,K,s,a,w,g,b,h=>by
   cases c<;>simp[bL] at p;rename_i j c;obtain⟨rfl,p⟩:=p;refine wp_block (wp_mono (kq D C J n f x c p _ s a w g b h) ?_);rintro e a' w' ⟨O,s',A,H,B,G⟩;cases O with
   |normal=>cases e<;>simp only[ad8] at H;exact⟨.normal,s',A,trivial,B,G⟩
   |exit k=>
    cases e<;>simp only[ad8] at H;subst H;simp only[Exit.inBlock];by_cases S:k=i;·subst S;simp only[if_true];simp only[aQ,Da,cond_true] at B;exact⟨.normal,s',A,trivial,B,G⟩
    ·simp only[S,if_false];have Z:AI k i=false:=by
      cases Z:AI k i with
      |true=>exact absurd (AE Z) S
      |false=>rfl
     simp only[aQ,Z,cond_false] at B;exact⟨.exit k,s',A,rfl,B,G⟩
   |ret=>cases e<;>simp only[ad8] at H;exact⟨.ret,s',A,trivial,B,G⟩
 | .loop I q x,c,p,K,s,a,w,g,b,h=>by
   cases c<;>simp[bL] at p;rename_i c;obtain⟨Y,p⟩:=p;have Y:z.length<=q:=A7 f Y;simp only[run] at b
   have key:∀(m:Nat)(s:St)(a:Act)(w:World)(g:Gh),aZ m (λW s=>run Γ n x (bo W I q K) s) s=some r->Inv F z E df g s w a->
     Code.rounds P c (aHb F z E df K r) m a w:=by
    intro m;induction m with
    |zero=>intro s a w g b h;simp[aZ] at b
    |succ m ih=>
     intro s a w g b h;simp only[aZ] at b;rw[rounds_succ];refine wp_mono (kq D C J n f x c p _ s a w g b h) ?_;rintro e a' w' ⟨O,s',A,H,B,G⟩;cases O with
     |normal=>cases e<;>simp only[ad8] at H;exact ih _ a' w' A B (G.keeps I Y)
     |exit k=>cases e<;>simp only[ad8] at H;exact⟨.exit k,s',A,H,B,G⟩
     |ret=>cases e<;>simp only[ad8] at H;exact⟨.ret,s',A,trivial,B,G⟩
   exact wp_loop_rounds n (key n _ a w g b (h.keeps I Y))
 | .cut I q x,c,p,K,s,a,w,g,b,h=>by simp only[bL,Ac] at p;obtain⟨Y,p⟩:=p;simp only[run] at b;exact kq D C J n f x c p K _ a w g b (h.keeps I (A7 f (Nat.le_of_ble_eq_true Y)))
 | .gh x y,c,p,K,s,a,w,g,b,h=>by
   simp only[bL] at p;simp only[run] at b;split at b
   ·rename_i t s' hs;cases t with
    |false=>simp[chk] at b
    |true=>obtain⟨A,M,N⟩:=ail h.sr hs;exact kq D C J n f y c p K s' a w A b ⟨M,h.fr.trans N,h.df⟩
   ·simp at b
 | .ope x y,c,p,K,s,a,w,g,b,h=>by
   simp only[bL] at p;simp only[run] at b;have go:∀q:gm,(match q.step s with|some (c,s')=>chk c (run Γ n y K s')|none=>none)=some r->∃s' A,run Γ n y K s'=some r∧SR A s' w a∧FR g s.hp w A s'.hp w:=λq b=>by
    split at b
    ·rename_i t s' hs;cases t with
     |false=>simp[chk] at b
     |true=>obtain⟨A,M,N⟩:=ail h.sr hs;exact⟨s',A,b,M,N⟩
    ·simp at b
   have ai:∃s' A,run Γ n y K s'=some r∧SR A s' w a∧FR g s.hp w A s'.hp w:=by
    cases Z:aGT s x with
    |true=>rw[Z] at b;exact go _ b
    |false=>rw[Z] at b;exact go _ b
   obtain⟨s',A,b,M,N⟩:=ai;exact kq D C J n f y c p K s' a w A b ⟨M,h.fr.trans N,h.df⟩
 | .ghp x y,c,p,K,s,a,w,g,b,h=>by
   simp only[bL] at p;simp only[run] at b;refine wp_mono (kq D C J n f y c p _ s a w g b h) ?_;rintro e a' w' ⟨O,s',A,H,B,G⟩;cases O with
   |normal=>
    simp only[aqS] at B;split at B
    ·rename_i t s2 hs;cases t with
     |false=>simp[chk] at B
     |true=>obtain⟨g2,M,N⟩:=ail G.sr hs;exact⟨.normal,s2,g2,H,B,⟨M,G.fr.trans N,G.df⟩⟩
    ·simp at B
   |exit i=>exact⟨.exit i,s',A,H,B,G⟩
   |ret=>exact⟨.ret,s',A,H,B,G⟩
 | .exit i,c,p,K,s,a,w,g,b,h=>by cases c<;>simp[bL] at p;subst p;exact wp_exit ⟨.exit i,s,g,rfl,b,h⟩
 | .ret,c,p,K,s,a,w,g,b,h=>by cases c<;>simp[bL] at p;exact wp_ret ⟨.ret,s,g,trivial,b,h⟩
end
def aqW(P:Program):RV->ResultVar->Bool
 | .t n,.tmp m=>n==m
 | .cell n b agg,.cell m t=>(n==m)&&((fm P t==some b)&&((nW P t==some agg)&&(agg||b==1)))
 |_,_=>false
def dy(P:Program):List RV->List ResultVar->Bool
 | [],[]=>true
 |x::xs,y::ys=>aqW P x y&&dy P xs ys
 |_,_=>false
section
variable{w:World}{g:Gh}{s s':St}{a:Act}{P:Program}{Γ:aG}
def aHc(g:Gh)(w:World)(x:RV)(v:V)(cv:Value):Prop:=match x with| .t n=>aP g w (.slot n) v cv| .cell .. =>v.bare=true
def akz(b:Array Value):ResultVar->Sem Value
 | .tmp t=>pure (b.getD t undef)
 | .cell a t=>do loadVar t (<-asAddr (b.getD a undef))
theorem aM0(h:SR g s w a){x:RV}{y:ResultVar}(l:aqW P x y=true){v:V}(p:x.ev s=some v):
  ∃cv,(akz a.tmps y).run P w=.ok cv w∧VRel g.I g.ρ s.hp.length w v cv∧aHc g w x v cv:=by
 cases x with
 |t n=>
  cases y with
  |tmp m=>
   obtain rfl:n=m:=by simpa [aqW] using l
   simp only[RV.ev,Ae] at p;subst p;exact⟨_,by simp[akz],h.er.get n,h.er.getOwn n⟩
  |cell m t=>simp[aqW] at l
 |cell n d agg=>
  cases y with
  |tmp m=>simp[aqW] at l
  |cell m t=>
   simp only[aqW,Ac,beq_iff_eq,Bg] at l;obtain⟨rfl,O,Q,r⟩:=l;have B:=h.er.get n;simp only[RV.ev] at p
   have fin:∀b o (vs:List Value),a.tmps.getD n undef=.pointer (some ⟨b,o,none⟩)->vs.length=d->(∀(j:Nat) v,vs[j]? =some v->w.cell? ⟨b,o+j,none⟩=some v)->
     (akz a.tmps (.cell n t)).run P w=.ok (if agg then .agg vs.toArray else vs.headD undef) w:=by
    intro b o vs hp R J;have:=pQ (P:=P) (w:=w) (b:=b) (o:=o) (vs:=vs) O Q r R J;simp only[Dz,BF] at this;simp[akz,hp,asAddr];simpa using this
   split at p
   ·rename_i id o H;rw[H] at B;generalize k:a.tmps.getD n undef=cv at B fin;cases B with
    |ptr _ _ Y=>
    split at p
    ·rename_i cs W;split at p
     ·rename_i E;obtain rfl:=AF p;obtain⟨C,e,S,z⟩:=yz h.hr W;have M:=z.len
      have q:=uX (agg:=agg) (cs:=(cs.drop o).take d) (vs:=(C.toList.drop o).take d) (w:=w) (I:=g.I) (ρ:=g.ρ) (N:=s.hp.length)
       (λc u=>z.one c (Bw (Bv u))) (by simp;omega) (by
        rcases r with r|r;·exact .inl r
        ·right;simp;omega)
       (λi c cv l k=>by
        simp only[AY,Bk] at l k;split at l;·rename_i G;simp only[G,if_true] at k;exact z.rel _ _ _ l (by simpa using k)
        ·simp at l)
      refine⟨_,fin _ _ ((C.toList.drop o).take d) rfl (by simp;omega) (λj v A=>?_),q.disown,dZ _⟩;rw[bk S];simp only[AY,Bk] at A;split at A;·simpa using A
      ·simp at A
     ·simp at p
    ·simp at p
   ·rename_i cs H;rw[H] at B;generalize k:a.tmps.getD n undef=cv at B fin;cases B with
    |ea _ b o f X Z J D=>
    split at p
    ·rename_i E;obtain rfl:=AF p
     have q:=uX (agg:=agg) (cs:=cs.take d) (vs:=(BN d).map f) (w:=w) (I:=g.I) (ρ:=g.ρ) (N:=s.hp.length)
      (λc u=>X c (Bv u)) (by simp;omega) (by
       rcases r with r|r;·exact .inl r
       ·right;simp;omega)
      (λi c cv l k=>by
       simp only[AY] at l;split at l;·rename_i G;simp[G] at k;subst k;exact D _ _ l
       ·simp at l)
     refine⟨_,fin _ _ ((BN d).map f) rfl (by simp) (λj v A=>?_),q.disown,dZ _⟩;rw[AA,As] at A;obtain⟨j',F,rfl⟩:=A;obtain⟨L,rfl⟩:=Ag.1 F;simp only[D5] at L;simpa using J j (by omega)
    ·simp at p
   ·simp at p
theorem aGs(h:SR g s w a):∀{xs:List RV}{ys:List ResultVar}{vs:List V},dy P xs ys=true->rvs s xs=some vs->
  ∃cvs:List Value,cvs.length=vs.length∧xs.length=vs.length∧ys.length=vs.length∧(∀(i:Nat) y,ys[i]? =some y->∃cv,cvs[i]? =some cv∧(akz a.tmps y).run P w=.ok cv w)∧
   (∀(i:Nat) v cv,vs[i]? =some v->cvs[i]? =some cv->VRel g.I g.ρ s.hp.length w v cv)∧
   (∀(i:Nat) x v cv,xs[i]? =some x->vs[i]? =some v->cvs[i]? =some cv->aHc g w x v cv)
 | [],[],vs,_,j=>by simp only[rvs,Ae] at j;subst j;exact⟨[],rfl,rfl,rfl,by simp,by simp,by simp⟩
 |x::xs,y::ys,vs,f,j=>by
  simp only[dy,Ac] at f;simp only[rvs] at j;split at j
  ·rename_i v B m p;obtain rfl:=AF j;obtain⟨cv,u,E,G⟩:=aM0 h f.1 m;obtain⟨cvs,t,F,A,z,r,C⟩:=aGs h f.2 p;refine⟨cv::cvs,by simp[t],by simp[F],by simp[A],?_,?_,?_⟩
   ·intro i q l;cases i with
    |zero=>simp at l;subst l;exact⟨cv,rfl,u⟩
    |succ i=>simpa using z i q (by simpa using l)
   ·intro i k e c b;cases i with
    |zero=>simp at c b;subst c b;exact E
    |succ i=>exact r i k e (by simpa using c) (by simpa using b)
   ·intro i D k e d c b;cases i with
    |zero=>simp at d c b;subst d c b;exact G
    |succ i=>exact C i D k e (by simpa using d) (by simpa using c) (by simpa using b)
  ·simp at j
 | [],_::_,_,f,_=>by simp[dy] at f
 |_::_,[],_,f,_=>by simp[dy] at f
def Gh.hand(g:Gh)(r:Option Nat):Gh:={g with O:=λb=>match g.O b with|some (.slot m)=>(if some m=r then some .res else none)|some .res=>none|o=>o}
theorem HR.hand{hp:List aK}(h:HR g hp w)(r:Option Nat):HR (g.hand r) hp w:=by
 refine⟨?_,h.apart,h.notI,?_,h.exI,?_⟩
 ·intro id cs f;refine(h.obj id cs f).keep rfl λt e v u d=>?_
  refine⟨d.len,d.plain,d.typed,d.cold,d.one,d.rel,?_,d.bn⟩;intro j c cv p i;refine dg (d.own j c cv p i) rfl (λb j m=>⟨m,rfl⟩) ?_;intro b k;exact⟨by simp[Gh.hand,k],rfl,λj q=>q⟩
 ·intro id cs f;simp[Gh.hand,h.notO id cs f]
 ·intro b o k;cases l:g.O b with
  |none=>simp[Gh.hand,l] at k
  |some o'=>exact h.oLt b o' l
theorem FR.hand{e:Gh}{c hp:List aK}{d:World}(h:FR e c d g hp w)(r:Option Nat):FR e c d (g.hand r) hp w:=
 ⟨h.beta,h.os,h.tape,h.output,h.size,h.block,h.up,h.iSame,λb i f j=>by simp[Gh.hand,h.oSame b i f j],h.live⟩
def akA:List Value->Value
 | [v]=>v
 |vs=>.tuple vs.toArray
theorem aE6{fn:Func}{l:List ResultVar}{cvs:List Value}(C:fn.results.toList=l)(p:l.length=cvs.length)(D:l.length<=5)
  (h:∀(i:Nat) y,l[i]? =some y->∃cv,cvs[i]? =some cv∧(akz a.tmps y).run P w=.ok cv w):
  (results fn a.tmps).run P w=.ok (akA cvs) w:=by
 have e:fn.results=l.toArray:=by rw[<-C]
 have F:results fn a.tmps=(do let vs <-fn.results.mapM (akz a.tmps);pure (if h:vs.size=1 then vs[0] else .tuple vs)):=rfl;rw[F,e];match l,cvs,p,D,h with
 | [],[],_,_,_=>simp[akA]
 | [d],[t],_,_,h=>obtain⟨_,b,r0⟩:=h 0 d rfl;simp at b;subst b;simp[r0,akA]
 | [d,j],[t,u],_,_,h=>obtain⟨_,b,r0⟩:=h 0 d rfl;obtain⟨_,c,k⟩:=h 1 j rfl;simp at b c;subst b c;simp[r0,k,akA]
 | [d,j,q],[t,u,z],_,_,h=>obtain⟨_,b,r0⟩:=h 0 d rfl;obtain⟨_,c,k⟩:=h 1 j rfl;obtain⟨_,f,r⟩:=h 2 q rfl;simp at b c f;subst b c f;simp[r0,k,r,akA]
 | [d,j,q,x],[t,u,z,E],_,_,h=>obtain⟨_,b,r0⟩:=h 0 d rfl;obtain⟨_,c,k⟩:=h 1 j rfl;obtain⟨_,f,r⟩:=h 2 q rfl;obtain⟨_,m,v⟩:=h 3 x rfl;simp at b c f m;subst b c f m;simp[r0,k,r,v,akA]
 | [d,j,q,x,G],[t,u,z,E,H],_,_,h=>obtain⟨_,b,r0⟩:=h 0 d rfl;obtain⟨_,c,k⟩:=h 1 j rfl;obtain⟨_,f,r⟩:=h 2 q rfl;obtain⟨_,m,v⟩:=h 3 x rfl;obtain⟨_,A,B⟩:=h 4 G rfl;simp at b c f m A;subst b c f m A;simp[r0,k,r,v,B,akA]
theorem eu(an:bC P Γ){S:List Nat}(hP:co Γ S){f:FuncId}{fn:Func}{q:Code}{ir:IR}{A:List RV}{n:Nat}{vs:List V}{hp hp':List aK}{v:V}
  (hf:P.funcs[f]? =some fn) (hb:fn.body=some q) (hc:bL P S hp.length ir q=true) (al:dy P A fn.results.toList=true) (h5:fn.results.toList.length<=5)
  (M:callF Γ n fn.ntmps A ir vs hp=some (v,hp')):fS P f vs hp v hp':=by
 intro w g p ae Y X H O;refine calls_of_wp hf hb ?_;let u:Act:={tmps:=p++Array.replicate (fn.ntmps-p.size) undef,defers:=[]}
 have am:SR g (start fn.ntmps vs hp) w u:=by
  refine⟨Y,⟨by simp[start,u,X],?_,?_⟩⟩
  ·intro n v cv h l;simp only[start,u] at h l;rcases AG n vs.length with E|E;·rw[Au E] at h;rw[B0 (by omega)] at l;exact O n v cv h l
   ·rw[At E,Cb] at h;split at h;·obtain rfl:=AF h;exact .undef _
    ·simp at h
  ·intro n v cv h l;simp only[start] at h;rcases AG n vs.length with E|E;·rw[Au E] at h;exact jI (H v (Ar h)) _ _ _ _
   ·rw[At E,Cb] at h;split at h;·obtain rfl:=AF h;simp[aP]
    ·simp at h
 have N:=kq (df:=[]) an ⟨ae,Y.notI⟩ hP n (Ap _) ir q hc (fin A) (start fn.ntmps vs hp) u w g M ⟨am,FR.refl _ _ _,rfl⟩;refine wp_mono N ?_;rintro e a' w' ⟨ex,s',g',he,hk,r⟩
 have B:∀v hp',(resultOf s' A).map (λv=>(v,s'.hp))=some (v,hp')->a'.defers=[]∧∃cv,(results fn a'.tmps).run P w'=.ok cv w'∧
   (∃G m,Ending.returned cv=.returned G∧HR m hp' w'∧FR g hp w m hp' w'∧VRel m.I m.ρ hp'.length w' v G∧aP m w' .res v G):=by
  intro v hp' C;refine⟨r.df,?_⟩;obtain⟨v',d,R⟩:=As.1 C;simp only[Aj] at R;obtain⟨rfl,rfl⟩:=R;have ai:∃j,rvs s' A=some j:=by
   unfold resultOf at d;cases hh:rvs s' A with
   |none=>rw[hh] at d;simp at d
   |some j=>exact⟨j,rfl⟩
  obtain⟨j,F⟩:=ai;obtain⟨cvs,Z,l2,l3,l4,L,Q⟩:=aGs r.sr al F;have D:=aE6 (fn:=fn) (a:=a') (P:=P) (w:=w') rfl (by rw[l3,Z]) h5 l4;unfold resultOf at d;rw[F] at d;clear F l3 l4 C;match A,j,cvs,Z,l2,L,Q,D,d with
  | [x],[v0],[J],_,_,L,Q,D,d=>
    simp only[Ae] at d;subst d;have z:=Q 0 x v0 J rfl rfl rfl;have W:=L 0 v0 J rfl rfl;cases x with
    |t n=>
     simp only[aHc] at z;refine⟨J,D,J,g'.hand (some n),rfl,r.sr.hr.hand _,r.fr.hand _,W,?_⟩;unfold aP at z ⊢;split;·rename_i k xs ad bc cap;obtain⟨o1,o2,o3⟩:=z;exact⟨by simp[Gh.hand,o1],o2,o3⟩
     ·obtain⟨o1,o2,o3⟩:=z;exact⟨by simp[Gh.hand,o1],o2,o3⟩
     ·rcases z with z|⟨b,cap,aq,e,fz,m0,m1,m2,m3,m4,m5⟩
      ·exact .inl z
      ·exact .inr ⟨b,cap,aq,e,fz,m0,m1,m2,m3,by simp[Gh.hand,m4],m5⟩
     ·trivial
    |cell n ar agg=>exact⟨J,D,J,g'.hand none,rfl,r.sr.hr.hand _,r.fr.hand _,W,jI z _ _ _ _⟩
  | [],[],[],_,_,L,Q,D,d=>simp only[Ae] at d;subst d;exact⟨_,D,_,g'.hand none,rfl,r.sr.hr.hand _,r.fr.hand _,.tup [] #[] rfl (by simp),by simp[aP]⟩
  |x::y::A,v0::v1::j,J::c1::cvs,Z,_,L,Q,D,d=>simp only[Ae] at d;subst d;refine⟨_,D,_,g'.hand none,rfl,r.sr.hr.hand _,r.fr.hand _,.tup _ _ (by simpa using Z.symm) ?_,by simp[aP]⟩;intro i c cv hc l;rw[AA,As] at hc;obtain⟨c',ah,rfl⟩:=hc;exact(L i c' cv ah (by simpa using l)).disown
 cases ex with
 |normal=>cases e<;>simp only[ad8] at he;exact B _ _ hk
 |exit i=>simp[fin] at hk
 |ret=>cases e<;>simp only[ad8] at he;exact B _ _ hk
end
def V.flatE:V->Bool
 | .ea cs=>cs.all V.flat1
 |v=>v.flat1
def V.flat2:V->Bool
 | .agg cs=>cs.all V.flat1
 | .ea cs=>cs.all V.flat1
 | .fn _ cs=>cs.all V.flatE
 |v=>v.flat1
def V.flat:V->Bool
 | .tup cs=>cs.all V.flat2
 |v=>v.flat2
section
variable{I:Nat->Nat->Prop}{ρ ρ':Nat->Nat}{N N':Nat}{w:World}{P:Program}
theorem VRel.flatE{v:V}{cv:Value}(h:VRel I ρ N w v cv)(e:v.flatE=true):VRel I ρ' N' w v cv:=by
 cases h with
 |ea cs b a f x p t m=>simp only[V.flatE,Aw] at e;exact .ea cs b a f x p t (λj c i=>(m j c i).flat1 (e c (Ar i)))
 |bool b=>exact .bool b
 |int k n h=>exact .int k n h
 |str l s d h=>exact .str l s d h
 |sln k o=>exact .sln k o
 |sle k o y u=>exact .sle k o y u
 |sl k o xs b a r cap d i z q f p t m=>exact(VRel.sl k o xs b a r cap d i z q f p t m).flat1 rfl
 |nilp=>exact .nilp
 |nilif=>exact .nilif
 |fn f cs vs d m=>
  cases cs with
  |nil=>exact .fn f [] vs d (by simp)
  |cons c cs=>simp[V.flatE,V.flat1] at e
 |_=>simp[V.flatE,V.flat1] at e
theorem VRel.flat2{v:V}{cv:Value}(h:VRel I ρ N w v cv)(p:v.flat2=true):VRel I ρ' N' w v cv:=by
 cases h with
 |ea cs b m f t q x d=>exact(VRel.ea cs b m f t q x d).flatE p
 |agg cs vs j t B d=>simp only[V.flat2,Aw] at p;exact .agg cs vs j t B (λi c cv a e=>(d i c cv a e).flat1 (p c (Ar a)))
 |bool b=>exact .bool b
 |int k n h=>exact .int k n h
 |str l s j h=>exact .str l s j h
 |sln k o=>exact .sln k o
 |sle k o z y=>exact .sle k o z y
 |sl k o xs b m r cap j a A u f q x d=>exact(VRel.sl k o xs b m r cap j a A u f q x d).flat1 rfl
 |nilp=>exact .nilp
 |nilif=>exact .nilif
 |fn f cs vs j d=>simp only[V.flat2,Aw] at p;exact .fn f cs vs j (λi c cv a e=>(d i c cv a e).flatE (p c (Ar a)))
 |_=>simp[V.flat2,V.flat1] at p
theorem VRel.flat{v:V}{cv:Value}(h:VRel I ρ N w v cv)(j:v.flat=true):VRel I ρ' N' w v cv:=by
 cases h with
 |tup cs vs d a=>simp only[V.flat,Aw] at j;exact .tup cs vs d (λi c cv m x=>(a i c cv m x).flat2 (j c (Ar m)))
 |agg cs vs d r B a=>exact(VRel.agg cs vs d r B a).flat2 j
 |bool b=>exact .bool b
 |int k n h=>exact .int k n h
 |str l s d h=>exact .str l s d h
 |sln k o=>exact .sln k o
 |sle k o z y=>exact .sle k o z y
 |sl k o xs b e q cap d m A u f p t a=>exact(VRel.sl k o xs b e q cap d m A u f p t a).flat1 rfl
 |nilp=>exact .nilp
 |nilif=>exact .nilif
 |fn f cs vs d a=>exact(VRel.fn f cs vs d a).flat2 j
 |ea cs b e f r p t a=>exact(VRel.ea cs b e f r p t a).flat2 j
 |_=>simp[V.flat,V.flat2,V.flat1] at j
def aH(P:Program)(f:FuncId)(vs:List V)(v:V):Prop:=∃hp',fS P f vs [] v hp'
theorem aH.frame{f:FuncId}{vs:List V}{v:V}(h:aH P f vs v)(hf:vs.all V.flat=true)(W:v.flat=true)(hp:List aK):fS P f vs hp v hp:=by
 obtain⟨hp',h⟩:=h;intro w g E R p L G H;let r:Gh:={I:=g.I,ρ:=g.ρ,O:=λ_=>none,β:=g.β}
 have h0:HR r [] w:=⟨by simp,by simp,by simp,by simp,p.exI,by simp[r]⟩
 refine(h w r E (R.sub rfl (λh=>h) (λh=>by simp[r,h])) h0 L G (λi x cv hx u=>(H i x cv hx u).flat (Aw.1 hf x (Ar hx)))).mono ?_;rintro e w' ⟨cv,g₁,rfl,X,t,q3,Y⟩;have C:∀b,b<w.heap.size->w'.heap[b]? =w.heap[b]?:=λb l=>t.block b l (by simp) rfl
 have m:∀b j,b<w.heap.size->g₁.I b j->g.I b j:=λb j l A=>t.iSame b j l (by simp) rfl A
 have B:∀b,b<w.heap.size->g₁.O b=none:=λb l=>t.oSame b l (by simp) rfl
 let a:Gh:={I:=g₁.I,ρ:=g.ρ,O:=λb=>if b<w.heap.size then g.O b else (if g₁.O b=some .res then some .res else none),β:=g.β}
 have up:Up g.I g.ρ hp.length w a.I a.ρ hp.length w':=⟨t.up.mono,t.up.cell,λ_ _=>rfl,Ap _⟩
 have F:∀(id:Nat) cs,hp[id]? =some (some cs)->g.ρ id<w.heap.size:=by intro id cs d;exact(p.obj id cs d).lt
 have D:∀y v cv,aP g w y v cv->aP a w' y v cv:=by intro y v cv ho;refine dg ho rfl (λb j A=>⟨up.mono b j A,up.cell b j A⟩) ?_;intro b l;have q:=p.oLt b y l;exact⟨by simp[a,q,l],C b q,λj hj=>m b j q hj⟩
 refine⟨cv,a,rfl,⟨?_,p.apart,?_,?_,X.exI,?_⟩,⟨rfl,t.os,t.tape,t.output,t.size,λb l _ _=>C b l,up,λb j l _ _ A=>m b j l A,?_,λ_ cs h=>.inl ⟨cs,h⟩⟩,?_,?_⟩
 ·intro id cs d;refine(p.obj id cs d).keep (C _ (F id cs d)) λM e Z h1 z=>?_
  exact⟨z.len,z.plain,z.typedUp rfl up.rho up.num rfl,z.cold,z.one,λj c cv S u=>(z.rel j c cv S u).up up,λj c cv S u=>D _ _ _ (z.own j c cv S u),z.bn⟩
 ·intro id cs d j A;exact p.notI id cs d j (m _ j (F id cs d) A)
 ·intro id cs d;have:=F id cs d;simp[a,this,p.notO id cs d]
 ·intro b o l;simp only[a] at l;split at l;·rename_i q;exact AJ q t.size
  ·split at l;·rename_i J;exact X.oLt b _ J
   ·simp at l
 ·intro b l _ hO;simp[a,l,hO]
 ·exact q3.flat W
 ·unfold aP at Y ⊢;split
  ·rename_i k xs ad ap cap;obtain⟨Q,o2,o3⟩:=Y;refine⟨?_,(by obtain⟨M,e,Z,a1,a2,a3⟩:=o2;exact⟨M,e,Z,a1,a2,λhk=>(a3 hk).trans t.beta⟩),o3⟩;have:¬ad.block<w.heap.size:=by
    intro q;rw[B _ q] at Q;simp at Q
   simp[a,this,Q]
  ·simp[V.flat,V.flat2,V.flat1] at W
  ·simp[V.flat,V.flat2,V.flat1] at W
  ·trivial
theorem aH.frameU{f:FuncId}{vs:List V}{k:EK}{xs:List (Ty k)}(h:aH P f vs (.ul k xs))(Z:vs.all V.flat=true)(hp:List aK):fS P f vs hp (.ul k xs) hp:=by
 obtain⟨hp',h⟩:=h;intro w g E Q m M G H;let r:Gh:={I:=g.I,ρ:=g.ρ,O:=λ_=>none,β:=g.β}
 have h0:HR r [] w:=⟨by simp,by simp,by simp,by simp,m.exI,by simp[r]⟩
 refine(h w r E (Q.sub rfl (λh=>h) (λh=>by simp[r,h])) h0 M G (λi x cv X u=>(H i x cv X u).flat (Aw.1 Z x (Ar X)))).mono ?_;rintro e w' ⟨cv,g₁,rfl,W,t,q3,R⟩;have C:∀b,b<w.heap.size->w'.heap[b]? =w.heap[b]?:=λb d=>t.block b d (by simp) rfl
 have p:∀b j,b<w.heap.size->g₁.I b j->g.I b j:=λb j d A=>t.iSame b j d (by simp) rfl A
 have B:∀b,b<w.heap.size->g₁.O b=none:=λb d=>t.oSame b d (by simp) rfl
 let a:Gh:={I:=g₁.I,ρ:=g.ρ,O:=λb=>if b<w.heap.size then g.O b else (if g₁.O b=some .res then some .res else none),β:=g.β}
 have up:Up g.I g.ρ hp.length w a.I a.ρ hp.length w':=⟨t.up.mono,t.up.cell,λ_ _=>rfl,Ap _⟩
 have F:∀(id:Nat) cs,hp[id]? =some (some cs)->g.ρ id<w.heap.size:=by intro id cs l;exact(m.obj id cs l).lt
 have D:∀y v cv,aP g w y v cv->aP a w' y v cv:=by intro y v cv ho;refine dg ho rfl (λb j A=>⟨up.mono b j A,up.cell b j A⟩) ?_;intro b d;have q:=m.oLt b y d;exact⟨by simp[a,q,d],C b q,λj hj=>p b j q hj⟩
 refine⟨cv,a,rfl,⟨?_,m.apart,?_,?_,W.exI,?_⟩,⟨rfl,t.os,t.tape,t.output,t.size,λb d _ _=>C b d,up,λb j d _ _ A=>p b j d A,?_,λ_ cs h=>.inl ⟨cs,h⟩⟩,?_,?_⟩
 ·intro id cs l;refine(m.obj id cs l).keep (C _ (F id cs l)) λL e Y h1 z=>?_
  exact⟨z.len,z.plain,z.typedUp rfl up.rho up.num rfl,z.cold,z.one,λj c cv S u=>(z.rel j c cv S u).up up,λj c cv S u=>D _ _ _ (z.own j c cv S u),z.bn⟩
 ·intro id cs l j A;exact m.notI id cs l j (p _ j (F id cs l) A)
 ·intro id cs l;have:=F id cs l;simp[a,this,m.notO id cs l]
 ·intro b o d;simp only[a] at d;split at d;·rename_i q;exact AJ q t.size
  ·split at d;·rename_i J;exact W.oLt b _ J
   ·simp at d
 ·intro b d _ hO;simp[a,d,hO]
 ·cases q3 with
  |ul _ _ ad cap hm=>exact .ul _ _ ad cap hm
 ·have no:∀b,g₁.O b=some .res->a.O b=some .res:=by
   intro b d;have:¬b<w.heap.size:=by intro q;rw[B _ q] at d;simp at d
   simp[a,this,d]
  rcases R with R|⟨b,cap,L,e,Y,m0,m1,m2,m3,m4,m5,m6,m7,m8,m9⟩
  ·exact .inl R
  ·exact .inr ⟨b,cap,L,e,Y,m0,m1,m2,m3,no _ m4,m5,m6,λhk=>(m7 hk).trans t.beta,m8,m9⟩
def V.flatU:V->Bool
 | .ul _ _=>true
 |v=>v.flat
theorem aH.frameR{f:FuncId}{vs:List V}{v:V}(h:aH P f vs v)(a:vs.all V.flat=true)(c:v.flatU=true)(hp:List aK):fS P f vs hp v hp:=by
 by_cases b:∃k xs,v=.ul k xs;·obtain⟨k,xs,rfl⟩:=b;exact h.frameU a hp
 ·refine h.frame a ?_ hp;cases v<;>first|exact c|exact absurd ⟨_,_,rfl⟩ b
def V.fits:V->Prop
 | .int k n=>k.min<=n∧n<=k.max
 | .str l=>l.length<=cj
 | .sl _ _ xs=>xs.length<=cj
 | .agg cs=>∀c∈cs,match c with
   | .int k n=>k.min<=n∧n<=k.max
   | .str l=>l.length<=cj
   | .sl _ _ xs=>xs.length<=cj
   |_=>True
 |_=>True
theorem VRel.fits{v:V}{cv:Value}(h:VRel I ρ N w v cv):v.fits:=by
 cases h with
 |int k n h=>exact h
 |str l s a h=>subst a;simpa [V.fits,kp] using h
 |sln=>simp[V.fits]
 |sle=>simp[V.fits]
 |sl k o xs b p d cap a e x q f t u m=>simp only[V.fits];omega
 |agg cs vs a y z m=>
  intro c e;obtain⟨i,r,rfl⟩:=AU.1 e;have j:=m i _ _ (Ah r) (Am (by omega));generalize cs[i]=c at j;generalize vs[i]'(by omega)=cv at j;cases j with
  |int k n h=>exact h
  |str l s a h=>subst a;simpa [kp] using h
  |sln=>simp
  |sle=>simp
  |sl k o xs b p d cap a e x q f t u m=>simp only;omega
  |_=>trivial
 |_=>trivial
theorem aH.fits{f:FuncId}{vs:List V}{v:V}(h:(∀x∈vs,x.fits)->aH P f vs v):aH P f vs v:=by
 by_cases d:∀x∈vs,x.fits;·exact h d
 ·refine⟨[],?_⟩;intro w g c l m e b a;refine absurd ?_ d;intro x k;obtain⟨i,j,rfl⟩:=AU.1 k;exact(a i _ _ (Ah j) (Am (by omega))).fits
end
def V.flatO:V->Bool
 | .bn _ _=>true
 | .ul _ _=>true
 |v=>v.flat1
section
variable{I:Nat->Nat->Prop}{ρ ρ':Nat->Nat}{N N':Nat}{w:World}{P:Program}
theorem VRel.flatO{v:V}{cv:Value}(h:VRel I ρ N w v cv)(q:v.flatO=true):VRel I ρ' N' w v cv:=by
 cases h with
 |bn E n p=>exact .bn E n p
 |ul k xs e cap i=>exact .ul k xs e cap i
 |bool b=>exact .bool b
 |int k n h=>exact .int k n h
 |str l s a h=>exact .str l s a h
 |sln k o=>exact .sln k o
 |sle k o e t=>exact .sle k o e t
 |sl k o xs b m j cap a x i d f u y r=>exact(VRel.sl k o xs b m j cap a x i d f u y r).flat1 rfl
 |nilp=>exact .nilp
 |nilif=>exact .nilif
 |fn f cs vs a r=>
  cases cs with
  |nil=>exact .fn f [] vs a (by simp)
  |cons c cs=>simp[V.flatO,V.flat1] at q
 |_=>simp[V.flatO,V.flat1] at q
theorem an8{cs:List V}(h:cs.all V.flatO=true):dH cs=false:=by
 unfold dH;split;·simp[V.flatO,V.flat1] at h
 ·simp[V.flatO,V.flat1] at h
 ·simp[V.flatO,V.flat1] at h
 ·rfl
theorem aP.reloc{g j:Gh}{w:World}{f c:Occ}{v:V}{cv:Value}(h:aP g w f v cv)(d:j.β=g.β)(l:j.I=g.I)
  (m:∀b,g.O b=some f->j.O b=some c):aP j w c v cv:=by
 unfold aP at h ⊢;split;·rename_i k xs a M cap;obtain⟨p,⟨i,G,t,C,D,x⟩,q⟩:=h;exact⟨m _ p,⟨i,G,t,C,D,λr=>(x r).trans d.symm⟩,by rw[l];exact q⟩
 ·obtain⟨p,L,q⟩:=h;exact⟨m _ p,L,by rw[l];exact q⟩
 ·rcases h with h|⟨b,cap,u,e,t,A,y,z,H,R,B,E,Q,F,J⟩
  ·exact .inl h
  ·exact .inr ⟨b,cap,u,e,t,A,y,z,H,m _ R,B,E,λr=>(Q r).trans d.symm,by rw[l];exact F,by rw[l];exact J⟩
 ·trivial
def V.ren(σ:Nat->Nat):V->V
 | .ptr i o=>.ptr (σ i) o
 |v=>v
def V.flatP(n:Nat):V->Bool
 | .ptr i 0=>decide (i<n)
 |v=>v.flat
theorem V.ren_flat{σ:Nat->Nat}{v:V}(h:v.flat=true):v.ren σ=v:=by cases v<;>simp[V.flat,V.flat2,V.flat1] at h<;>rfl
theorem V.ren_bare{σ:Nat->Nat}{v:V}:(v.ren σ).bare=v.bare:=by cases v<;>rfl
def bv(P:Program)(f:FuncId)(avs:List V)(css:List (List V))(v:V)(css':List (List V)):Prop:=
 css'.length=css.length∧∃rest,fS P f avs (css.map some) v (css'.map some++rest)
theorem bv.frame{f:FuncId}{avs:List V}{css css':List (List V)}{v:V}(h:bv P f avs css v css')(ha:avs.all (V.flatP css.length)=true)(hv:v.flat=true)
  (hc:css.all (λcs=>cs.all V.flatO)=true) (ba:css'.all (λcs=>cs.all V.flatO)=true) {hp hp':List aK} {σ:Nat->Nat}
  (aw:∀k k',k<css.length->k'<css.length->σ k=σ k'->k=k')
  (h1:∀(k:Nat) cs,css[k]? =some cs->hp[σ k]? =some (some cs)) (h2:hp'.length=hp.length)
  (h3:∀(k:Nat) cs,css'[k]? =some cs->hp'[σ k]? =some (some cs))
  (h4:∀id,(∀k,k<css.length->σ k≠id)->hp'[id]? =hp[id]?):fS P f (avs.map (V.ren σ)) hp v hp':=by
 obtain⟨a9,rest,h⟩:=h;intro w g X a8 t az ap av;have ay:∀(k:Nat) cs,css[k]? =some cs->cs.all V.flatO=true:=λk cs a=>Aw.1 hc cs (Ar a)
 have ag:∀(k:Nat) cs,css'[k]? =some cs->cs.all V.flatO=true:=λk cs a=>Aw.1 ba cs (Ar a)
 have D:∀(k:Nat) cs,css[k]? =some cs->k<css.length:=λk cs a=>(Ag.1 a).1
 have y:∀(k:Nat) cs,(css.map some)[k]? =some (some cs)->css[k]? =some cs:=by
  intro k cs a;rw[AA] at a;cases M:css[k]? with
  |none=>rw[M] at a;simp at a
  |some x=>rw[M] at a;simpa using a
 have sub:∀k,k<css.length->∃cs,css[k]? =some cs∧hp[σ k]? =some (some cs):=λk a=>⟨css[k],Ah a,h1 k _ (Ah a)⟩
 let Z:Nat->Option Nat:=λi=>(BN css.length).find? λk=>σ k==i
 have H:∀i k,Z i=some k->k<css.length∧σ k=i:=by intro i k a;have m1:=Cs a;have m2:=List.find?_some a;exact⟨CV.1 m1,by simpa using m2⟩
 have ae:∀k,k<css.length->Z (σ k)=some k:=by
  intro k a;cases M:Z (σ k) with
  |none=>have:=Db.1 M k (CV.2 a);simp at this
  |some k'=>obtain⟨m1,m2⟩:=H _ _ M;rw[aw k' k m1 a m2]
 let l:Gh:={I:=g.I,ρ:=λk=>g.ρ (σ k),O:=λb=>match g.O b with|some (.cell i j)=>(Z i).map λk=>.cell k j|_=>none,β:=g.β}
 have gO:∀b o,l.O b=some o->∃k j,k<css.length∧o=.cell k j∧g.O b=some (.cell (σ k) j):=by
  intro b o q;simp only[l] at q;split at q
  ·rename_i i j hg;cases M:Z i with
   |none=>rw[M] at q;simp at q
   |some k=>rw[M] at q;obtain⟨m1,m2⟩:=H _ _ M;exact⟨k,j,m1,by simpa using q.symm,by rw[m2];exact hg⟩
  ·simp at q
 have gN:∀b,(∀k j,k<css.length->g.O b≠some (.cell (σ k) j))->l.O b=none:=by
  intro b q;cases M:l.O b with
  |none=>rfl
  |some o=>obtain⟨k,j,a,_,p⟩:=gO b o M;exact absurd p (q k j a)
 have gC:∀b k j,k<css.length->g.O b=some (.cell (σ k) j)->l.O b=some (.cell k j):=by intro b k j a q;simp[l,q,ae k a]
 have a6:∀k,k<css.length->l.O (g.ρ (σ k))=none:=by intro k a;obtain⟨cs,_,Y⟩:=sub k a;exact gN _ (by intro k' j _ p;rw[t.notO _ cs Y] at p;cases p)
 have h0:HR l (css.map some) w:=by
  refine⟨?_,?_,?_,?_,t.exI,?_⟩
  ·intro k c a;have a:=y k c a;refine(t.obj _ c (h1 k c a)).keep rfl λb5 e fz a1 C=>?_
   have hr:=an8 (ay k c a);refine⟨C.len,C.plain,by rw[sM hr];simp,C.cold,C.one,?_,?_,C.bn⟩;·intro j L cv p B;exact(C.rel j L cv p B).flatO (Aw.1 (ay k c a) L (Ar (by rw[jW hr] at p;exact p)))
   ·intro j L cv p B;exact(C.own j L cv p B).reloc rfl rfl λb q=>gC b k j (D k c a) q
  ·intro k k' c L a u A;have a:=y k c a;have u:=y k' L u;exact t.apart _ _ _ _ (h1 k c a) (h1 k' L u) λe=>A (aw k k' (D k c a) (D k' L u) e)
  ·intro k c a;exact t.notI _ c (h1 k c (y k c a))
  ·intro k c a;exact a6 k (D k c (y k c a))
  ·intro b o q;obtain⟨k,j,_,_,p⟩:=gO b o q;exact t.oLt b _ p
 have an:∀(i:Nat) x cv,avs[i]? =some x->X[i]? =some cv->VRel l.I l.ρ (css.map some).length w x cv:=by
  intro i x cv hx B;have hr:=av i (x.ren σ) cv (by rw[AA,hx];rfl) B;have S:=Aw.1 ha x (Ar hx);unfold V.flatP at S;split at S
  ·rename_i k;have a:k<css.length:=by simpa using S
   simp only[V.ren] at hr;cases hr with
   |ptr _ _ _=>exact .ptr k 0 (by simpa using a)
  ·rw[V.ren_flat S] at hr;exact hr.flat S
 refine(h w l X (a8.sub rfl (λh=>h) (λh=>by simp[l,h])) h0 (by rw[<-az,BW]) (by intro x hx;have:=ap (x.ren σ) (List.mem_map_of_mem hx);rw[V.ren_bare] at this;exact this) an).mono ?_;rintro ex w' ⟨cv,g₁,rfl,q1,R,q3,q4⟩;have r0:∀k,k<css.length->g₁.ρ k=g.ρ (σ k):=λk a=>R.up.rho k (by simpa using a)
 have ab:∀b,(∀k,k<css.length->g.ρ (σ k)≠b)->∀(k:Nat) cs,(css.map some)[k]? =some (some cs)->l.ρ k≠b:=λb q k cs a=>q k (D k cs (y k cs a))
 have ah:∀b,b<w.heap.size->(∀k,k<css.length->g.ρ (σ k)≠b)->l.O b=none->w'.heap[b]? =w.heap[b]?:=λb q A Q=>R.block b q (ab b A) Q
 let z:Gh:={I:=g₁.I,ρ:=g.ρ,O:=λb=>match g₁.O b with
  |some .res=>some .res
  |some (.cell k j)=>cond (C6 k css.length) (some (.cell (σ k) j)) none
  |some (.slot _)=>none
  |none=>if b<w.heap.size∧l.O b=none then g.O b else none,β:=g.β}
 have up:Up g.I g.ρ hp.length w z.I z.ρ hp'.length w':=⟨R.up.mono,R.up.cell,λ_ _=>rfl,by rw[h2];exact Ap _⟩
 have ak:∀(i:Nat) c,hp[i]? =some (some c)->g.ρ i<w.heap.size:=by intro i c r;obtain⟨ob,h1⟩:=(t.obj i c r).block;exact(AX.1 h1).1
 have aj:∀(k:Nat) cs,css'[k]? =some cs->(css'.map some++rest)[k]? =some (some cs):=by intro k cs a;rw[Au (by simpa using (Ag.1 a).1),AA,a];rfl
 have key:∀(i:Nat) c,hp'[i]? =some (some c)->(∃k d,k<css.length∧i=σ k∧css'[k]? =some c∧hp[i]? =some (some d))∨((∀k,k<css.length->σ k≠i)∧hp[i]? =some (some c)):=by
  intro i c r;by_cases a:∃k,k<css.length∧σ k=i
  ·obtain⟨k,a,rfl⟩:=a;obtain⟨d,_,m⟩:=sub k a;have u:k<css'.length:=by omega
   have:=h3 k _ (Ah u);rw[this] at r;exact .inl ⟨k,d,a,rfl,by rw[Ah u];simpa using r,m⟩
  ·have hn:∀k,k<css.length->σ k≠i:=λk u e=>a ⟨k,u,e⟩
   exact .inr ⟨hn,(h4 i hn).symm.trans r⟩
 have F:∀(i:Nat) c,hp'[i]? =some (some c)->∃d,hp[i]? =some (some d):=by
  intro i c r;rcases key i c r with⟨_,d,_,_,_,h⟩|⟨_,h⟩
  ·exact⟨d,h⟩
  ·exact⟨c,h⟩
 have G:∀(i:Nat) c,(∀k,k<css.length->σ k≠i)->hp[i]? =some (some c)->∀k,k<css.length->g.ρ (σ k)≠g.ρ i:=by intro i c hn r k a;obtain⟨d,_,m⟩:=sub k a;exact t.apart _ _ _ _ m r (hn k a)
 have J:∀b,b<w.heap.size->(∀k,k<css.length->g.ρ (σ k)≠b)->l.O b=none->z.O b=g.O b:=by intro b q A Q;have:=R.oSame b q (ab b A) Q;simp only[z,this];rw[if_pos ⟨q,Q⟩]
 have ad:∀b o,g.O b=some o->∀k,k<css.length->g.ρ (σ k)≠b:=by intro b o q k a e;obtain⟨d,_,m⟩:=sub k a;rw[<-e,t.notO _ d m] at q;cases q
 refine⟨cv,z,rfl,⟨?_,?_,?_,?_,q1.exI,?_⟩,⟨rfl,R.os,R.tape,R.output,R.size,?_,up,?_,?_,?_⟩,?_,?_⟩
 ·intro i c r;rcases key i c r with⟨k,d,a,rfl,u,Y⟩|⟨A,r⟩
  ·refine(q1.obj k c (aj k c u)).keep (by rw[r0 k a]) λax e' fz a1 C=>?_
   rw[r0 k a] at a1;have hr:=an8 (ag k c u);refine⟨C.len,C.plain,by rw[sM hr];simp,C.cold,C.one,?_,?_,?_⟩;·intro j L cv p B;exact(C.rel j L cv p B).flatO (Aw.1 (ag k c u) L (Ar (by rw[jW hr] at p;exact p)))
   ·intro j L cv p B;refine(C.own j L cv p B).reloc R.beta.symm rfl λb q=>?_
    have a4:C6 k css.length=true:=by rw[C2];exact a
    simp[z,q,a4]
   ·intro j E n p;have:=C.bn j E n p;rw[r0 k a] at this;exact this
  ·have W:l.O (g.ρ i)=none:=gN _ (by intro k j _ p;rw[t.notO i c r] at p;cases p);refine(t.obj i c r).keep (ah _ (ak i c r) (G i c A r) W) λax e' fz a1 C=>?_
   refine⟨C.len,C.plain,C.typedUp rfl (λ_ _=>rfl) up.num rfl,C.cold,C.one,λj c cv p B=>(C.rel j c cv p B).up up,?_,C.bn⟩;intro j L cv p B;refine dg (C.own j L cv p B) rfl (λb j r=>⟨up.mono b j r,up.cell b j r⟩) ?_;intro b q;have al:=t.oLt b _ q;have Q:l.O b=none:=gN _ (by intro k j' a au;rw[q] at au;cases au;exact A k a rfl);have aa:=ad b _ q;exact⟨(J b al aa Q).trans q,ah b al aa Q,λj p=>R.iSame b j al (ab b aa) Q p⟩
 ·intro i i' c L r a7 A;obtain⟨d,m1⟩:=F i c r;obtain⟨bd,m2⟩:=F i' L a7;exact t.apart _ _ _ _ m1 m2 A
 ·intro i c r j p;rcases key i c r with⟨k,d,a,rfl,u,Y⟩|⟨A,r⟩
  ·have:=q1.notI k c (aj k c u) j;rw[r0 k a] at this;exact this p
  ·have W:l.O (g.ρ i)=none:=gN _ (by intro k j _ p;rw[t.notO i c r] at p;cases p);exact t.notI i c r j (R.iSame _ j (ak i c r) (ab _ (G i c A r)) W p)
 ·intro i c r;rcases key i c r with⟨k,d,a,rfl,u,Y⟩|⟨A,r⟩
  ·have:=q1.notO k c (aj k c u);rw[r0 k a] at this;simp only[z,this];split;·exact t.notO _ d Y
   ·rfl
  ·have W:l.O (g.ρ i)=none:=gN _ (by intro k j _ p;rw[t.notO i c r] at p;cases p);exact(J _ (ak i c r) (G i c A r) W).trans (t.notO i c r)
 ·intro b o q;simp only[z] at q;split at q;·rename_i M;exact q1.oLt b _ M
  ·rename_i M;exact q1.oLt b _ M
  ·simp at q
  ·split at q;·rename_i M;exact AJ M.1 R.size
   ·simp at q
 ·intro b q ho Q;exact ah b q (λk a e=>by obtain⟨d,_,m⟩:=sub k a;exact ho _ d m e) (gN _ (by intro k j _ p;rw[Q] at p;cases p))
 ·intro b j q ho Q r;exact R.iSame b j q (ab b λk a e=>by obtain⟨d,_,m⟩:=sub k a;exact ho _ d m e) (gN _ (by intro k j _ p;rw[Q] at p;cases p)) r
 ·intro b q ho Q;exact(J b q (λk a e=>by obtain⟨d,_,m⟩:=sub k a;exact ho _ d m e) (gN _ (by intro k j _ p;rw[Q] at p;cases p))).trans Q
 ·intro i c r;exact .inl (F i c r)
 ·exact q3.flat hv
 ·exact q4.reloc R.beta.symm rfl λb q=>by simp[z,q]
def aLh(P:Program)(f:FuncId)(vs cs:List V)(v:V)(a:List V):Prop:=∃rest,fS P f (.ptr 0 0::vs) [some cs] v (some a::rest)
theorem V.flatP_flat{n:Nat}{v:V}(h:v.flat=true):v.flatP n=true:=by
 unfold V.flatP;split;·simp[V.flat,V.flat2,V.flat1] at h
 ·exact h
theorem azk{σ:Nat->Nat}:∀{vs:List V},vs.all V.flat=true->vs.map (V.ren σ)=vs
 | [],_=>rfl
 |v::vs,h=>by simp only[Cm,Ac] at h;rw[Bb,V.ren_flat h.1,azk h.2]
theorem aLh.frame{f:FuncId}{vs cs a:List V}{v:V}(h:aLh P f vs cs v a)(m:vs.all V.flat=true)(r:v.flat=true)(q:cs.all V.flatO=true)(j:a.all V.flatO=true)
  {hp:List aK} {id:Nat} (e:hp[id]? =some (some cs)):fS P f (.ptr id 0::vs) hp v (hp.set id (some a)):=by
 obtain⟨rest,h⟩:=h;have d:id<hp.length:=(Ag.1 e).1
 have:=bv.frame (P:=P) (f:=f) (avs:=.ptr 0 0::vs) (css:=[cs]) (css':=[a]) (v:=v) ⟨rfl,rest,h⟩ (hp:=hp) (hp':=hp.set id (some a)) (σ:=λ_=>id)
  (by simp only[Cm,Ac];exact⟨rfl,Aw.2 λx t=>V.flatP_flat (Aw.1 m x t)⟩) r (by simpa using q) (by simpa using j)
  (by intro k k' c l _;simp at c l;omega) (by intro k b c;cases k<;>simp at c;rw[<-c];exact e) (by simp)
  (by intro k b c;cases k<;>simp at c;rw[<-c];simp[d])
  (by intro i p;rw[Bp (p 0 (by simp))])
 rw[Bb,azk m] at this;exact this
theorem co.mono{Γ:aG}{b a:List Nat}(h:co Γ b)(i:b.all (λx=>a.contains x)=true)(k:a.all (λx=>C6 x 2000000||b.contains x)=true):co Γ a:=by
 refine⟨?_,λf vs hp c v hp' d=>h.loc f vs hp c v hp' ?_⟩
 rotate_left
 ·have:=Aw.1 k (f+2000000) (by simpa using d);simp only[Bg,C2] at this;rcases this with e|e;·omega
  ·exact e
 intro f vs hp d;refine h.pure f vs hp ?_;cases j:b.contains f with
 |false=>rfl
 |true=>have:=Aw.1 i f (by simpa using j);rw[this] at d;simp at d
def pu:Nat->List V->List V
 |_,[]=>[]
 |k,.ptr _ 0::vs=>.ptr k 0::pu (k+1) vs
 |k,v::vs=>v::pu k vs
def nQ(hp:List aK):List Nat->Option (List (List V))
 | []=>some []
 |i::is=>match hp.getD i none with
  |some cs=>match nQ hp is with
   |some css=>some (cs::css)
   |none=>none
  |none=>none
def nY:List aK->List Nat->List (List V)->List aK
 |hp,i::is,c::cs=>nY (hp.set i (some c)) is cs
 |hp,_,_=>hp
def adb:List Nat->Bool
 | []=>true
 |i::is=> !(is.any (AI i))&&adb is
abbrev auS:=Nat->List V->List (List V)->Option (Bool×V×List (List V))
def wz(G:auS)(Γ:aG):aG:=λf vs hp=>
 match nQ hp (dS vs) with
 |some css=>match G f (pu 0 vs) css with
  |some (c,v,css')=>cond (adb (dS vs)&&AI css'.length css.length&&(pu 0 vs).all (V.flatP css.length)&&v.flat&&css.all (λcs=>cs.all V.flatO)&&css'.all (λcs=>cs.all V.flatO))
    (some (c,v,nY hp (dS vs) css')) none
  |none=>Γ f vs hp
 |none=>Γ f vs hp
theorem afT:∀{l:List Nat},adb l=true->l.Nodup
 | [],_=>List.nodup_nil
 |i::is,h=>by simp only[adb,Ac,BE,D1] at h;refine List.nodup_cons.2 ⟨λa=>?_,afT h.2⟩;exact h.1 i a (by simp)
theorem aio{hp:List aK}:∀{is:List Nat}{css:List (List V)},nQ hp is=some css->css.length=is.length∧∀(k:Nat) cs,css[k]? =some cs->hp[is.getD k 0]? =some (some cs)
 | [],css,h=>by simp only[nQ,Ae] at h;subst h;simp
 |i::is,css,h=>by
  simp only[nQ] at h;split at h
  ·rename_i cs a;split at h
   ·rename_i b f;simp only[Ae] at h;subst h;obtain⟨j,l⟩:=aio f;refine⟨by simp[j],λk c d=>?_⟩;cases k with
    |zero=>
     simp only[BK,Ae] at d;subst d;rw[Aq] at a;simp only[Bm];cases e:hp[i]? with
     |none=>rw[e] at a;simp at a
     |some x=>rw[e] at a;simpa using a
    |succ k=>simp only[A9] at d;simpa using l k c d
   ·simp at h
  ·simp at h
theorem ad9:∀{is:List Nat}{hp:List aK}{css:List (List V)},(nY hp is css).length=hp.length
 | [],hp,css=>by cases css<;>rfl
 |i::is,hp,[]=>rfl
 |i::is,hp,c::cs=>by simp[nY,ad9]
theorem afo:∀{is:List Nat}{hp:List aK}{css:List (List V)}{id:Nat},id ∉ is->(nY hp is css)[id]? =hp[id]?
 | [],hp,css,id,_=>by cases css<;>rfl
 |i::is,hp,[],id,_=>rfl
 |i::is,hp,c::cs,id,h=>by simp only[A3,not_or] at h;rw[nY,afo h.2,Bp (λe=>h.1 e.symm)]
theorem an9:∀{is:List Nat}{hp:List aK}{css:List (List V)},is.Nodup->(∀i∈is,i<hp.length)->∀(k:Nat) cs,k<is.length->css[k]? =some cs->(nY hp is css)[is.getD k 0]? =some (some cs)
 | [],_,_,_,_,k,_,a,_=>by simp at a
 |i::is,hp,[],_,_,k,_,_,h=>by simp at h
 |i::is,hp,c::cs,m,e,k,l,a,h=>by
  obtain⟨d,b⟩:=List.nodup_cons.1 m;cases k with
  |zero=>simp only[BK,Ae] at h;subst h;simp only[Bm,nY];rw[afo d];simp[e i A4]
  |succ k=>simp only[A9] at h;simp only[BR,nY];exact an9 b (λj f=>by simpa using e j (A0 _ f)) k l (by simpa using a) h
theorem ahq{σ:Nat->Nat}{n:Nat}:∀{vs:List V}{k:Nat},(∀i,i<(dS vs).length->σ (k+i)=(dS vs).getD i 0)->(pu k vs).all (V.flatP n)=true->(pu k vs).map (V.ren σ)=vs
 | [],_,_,_=>rfl
 |v::vs,k,a,b=>by
  by_cases c:∃i,v=.ptr i 0;·obtain⟨i,rfl⟩:=c;simp only[pu,Bb,V.ren];simp only[dS] at a;simp only[pu,Cm,Ac] at b;have e:=a 0 (by simp);simp only[B6,Bm] at e;rw[e,ahq (λj l=>by have:=a (j+1) (by simp;omega);rw[BR] at this;rw[<-this];congr 1;omega) b.2]
  ·have h:pu k (v::vs)=v::pu k vs:=by
    cases v<;>try rfl
    rename_i i o;cases o with
    |zero=>exact absurd ⟨i,rfl⟩ c
    |succ o=>rfl
   have f:dS (v::vs)=dS vs:=by
    cases v<;>try rfl
    rename_i i o;cases o with
    |zero=>exact absurd ⟨i,rfl⟩ c
    |succ o=>rfl
   rw[f] at a;rw[h] at b ⊢;simp only[Cm,Ac] at b;have d:v.flat=true:=by
    have:=b.1;unfold V.flatP at this;split at this;·rename_i i;exact absurd ⟨i,rfl⟩ c
    ·exact this
   rw[Bb,V.ren_flat d,ahq a b.2]
theorem aIA{G:auS}{Γ:aG}(B:∀f avs css v css',G f avs css=some (true,v,css')->bv P f avs css v css')(p:bC P Γ):bC P (wz G Γ):=by
 intro f vs hp v hp' h;unfold wz at h;split at h
 ·rename_i css b;split at h
  ·rename_i c x css' y;cases a:(adb (dS vs)&&AI css'.length css.length&&(pu 0 vs).all (V.flatP css.length)&&x.flat&&css.all (λcs=>cs.all V.flatO)&&css'.all (λcs=>cs.all V.flatO)) with
   |false=>rw[a] at h;simp at h
   |true=>
    rw[a] at h;simp only[cond_true,Ae,Aj] at h;obtain⟨rfl,rfl,rfl⟩:=h;simp only[Ac] at a;obtain⟨⟨⟨⟨⟨E,H⟩,t⟩,C⟩,L⟩,O⟩:=a;obtain⟨z,u⟩:=aio b;have l:=afT E;have D:css'.length=css.length:=by simpa using H
    have:=bv.frame (B f _ css _ css' y) t C L O (hp:=hp) (hp':=nY hp (dS vs) css') (σ:=λk=>(dS vs).getD k 0)
     (by intro k k' m d e;rw[z] at m d;simp only[Aq,Ah m,Ah d,A8] at e;exact(List.getElem_inj l).1 e)
     u ad9
     (by
      intro k cs m;have J:k<css'.length:=(Ag.1 m).1;refine an9 l ?_ k cs (by omega) m;intro i M;obtain⟨j,r,rfl⟩:=AU.1 M;have q:j<css.length:=by omega
      have:=u j _ (Ah q);rw[Aq,Ah r,A8] at this;exact(Ag.1 this).1)
     (by
      intro id A;refine afo λF=>?_
      obtain⟨j,r,rfl⟩:=AU.1 F;exact A j (by omega) (by rw[Aq,Ah r,A8]))
    rw[ahq (n:=css.length) (λi _=>by rw[Bf]) t] at this;exact this
  ·exact p _ _ _ _ _ h
 ·exact p _ _ _ _ _ h
theorem aoa{hp a:List aK}:∀{is:List Nat},(∀i∈is,a[i]? =hp[i]?)->nQ a is=nQ hp is
 | [],_=>rfl
 |i::is,h=>by simp only[nQ];rw[ahn (h i (A4 ..)),aoa λj b=>h j (A0 _ b)]
theorem akB:∀(is:List Nat)(hp:List aK)(css:List (List V)),nY hp is css=an2 hp (is.zip (css.map some))
 | [],hp,css=>by cases css<;>rfl
 |i::is,hp,[]=>rfl
 |i::is,hp,c::css=>by simp only[nY,Bb,List.zip_cons_cons];rw[akB is];rfl
theorem aE7{G:auS}{Γ:aG}{r:List Nat}(E:∀f avs css,r.contains f=false->G f avs css=none)(t:co Γ r):co (wz G Γ) r:=by
 refine⟨?_,?_⟩
 ·intro f vs hp u;have e:∀hp,wz G Γ f vs hp=Γ f vs hp:=by
   intro hp;unfold wz;split;·rw[E f _ _ u]
   ·rfl
  rw[e,e];exact t.pure f vs hp u
 ·intro f vs hp c v hp' u h;have k:∀d:List aK,(∀i∈aqR (ub vs),d[i]? =hp[i]?)->nQ d (dS vs)=nQ hp (dS vs):=λd l=>aoa λi F=>l i (aho (akv F))
  unfold wz at h;cases j:nQ hp (dS vs) with
  |none=>rw[j] at h;obtain⟨q,A,C,B⟩:=t.loc f _ _ _ _ _ u h;refine⟨q,A,C,λd z l=>?_⟩;simp only[wz,k d l,j];exact B d z l
  |some css=>
   rw[j] at h;simp only at h;cases y:G f (pu 0 vs) css with
   |none=>rw[y] at h;obtain⟨q,A,C,B⟩:=t.loc f _ _ _ _ _ u h;refine⟨q,A,C,λd z l=>?_⟩;simp only[wz,k d l,j,y];exact B d z l
   |some x=>
    obtain⟨H,D,css'⟩:=x;rw[y] at h;simp only at h;cases m:(adb (dS vs)&&AI css'.length css.length&&(pu 0 vs).all (V.flatP css.length)&&D.flat&&css.all (λcs=>cs.all V.flatO)&&css'.all (λcs=>cs.all V.flatO)) with
    |false=>rw[m] at h;simp at h
    |true=>
     rw[m] at h;simp only[cond_true,Ae,Aj] at h;obtain⟨rfl,rfl,rfl⟩:=h;refine⟨(dS vs).zip (css'.map some),?_,akB _ _ _,λd z l=>?_⟩;·intro p hp;obtain⟨a,b⟩:=p;exact aho (List.of_mem_zip hp).1
     ·simp only[wz,k d l,j,y,m,cond_true];rw[akB]
end
def V.lend1(hp:List aK):V->V
 | .sw _ id n=>match hp.getD id none with
   |some [.rw k xs]=>.sl k (.may false) xs
   |_=>.undef
 |v=>v
def V.lend(hp:List aK):V->V
 | .agg cs=>.agg (cs.map (V.lend1 hp))
 |v=>v.lend1 hp
def V.lendT(hp:List aK):V->Bool
 | .sw _ id n=>match hp.getD id none with
   |some [.rw _ xs]=>AI n xs.length
   |_=>false
 |_=>true
def V.isSw:V->Bool
 | .sw _ _ _=>true
 |_=>false
def zw(hp:List aK):List V->Bool->Bool
 | [],b=>b
 |v::r,b=>cond v.isSw (v.lendT hp&&zw hp r b) (zw hp r b)
def adc(hp:List aK):List V->Bool
 | []=>true
 |v::r=>zw hp v.cellsA (adc hp r)
def V.scal1:V->Bool
 | .bool _| .int _ _| .str _| .nilif=>true
 |_=>false
def V.scal:V->Bool
 | .tup cs=>cs.all V.scal1
 |v=>v.scal1
def zx(a:List Nat)(G:Nat->List V->Option (Bool×V))(Γ:aG):aG:=λf vs hp=>
 cond (a.elem f) (match Γ f vs hp with
  |some r=>some r
  |none=>match G f (vs.map (V.lend hp)) with
   |some (c,v)=>cond (v.scal&&(vs.map (V.lend hp)).all V.flat) (some (c&&adc hp vs,v,hp)) none
   |none=>none) (Γ f vs hp)
section
variable{I I':Nat->Nat->Prop}{ρ ρ':Nat->Nat}{N N':Nat}{w w':World}{P:Program}
theorem VRel.scal1{v:V}{cv:Value}(h:VRel I ρ N w v cv)(a:v.scal1=true):VRel I' ρ' N' w' v cv:=by
 cases h<;>simp[V.scal1] at a;·exact .bool _
 ·exact .int _ _ (by assumption)
 ·exact .str _ _ (by assumption) (by assumption)
 ·exact .nilif
theorem VRel.scal{v:V}{cv:Value}(h:VRel I ρ N w v cv)(a:v.scal=true):VRel I' ρ' N' w' v cv:=by
 by_cases e:∃cs,v=.tup cs
 ·obtain⟨cs,rfl⟩:=e;cases h with
  |tup cs vs j f=>simp only[V.scal,Aw] at a;exact .tup cs vs j λi c cv d b=>(f i c cv d b).scal1 (a c (Ar d))
 ·refine h.scal1 ?_;cases v<;>first|exact a|exact absurd ⟨_,rfl⟩ e
theorem aJ7{v:V}(b:v.scal=true)(g:Gh)(a:Occ)(cv:Value):aP g w a v cv:=by cases v<;>simp[V.scal,V.scal1] at b<;>simp[aP]
theorem aIB{hp:List aK}{v:V}(h:(v.lend1 hp).flat1=true)(a:v.one=true):(v.lend1 hp).one=true:=by generalize v.lend1 hp=u at h;cases u<;>simp[V.flat1] at h<;>rfl
theorem auT{hp:List aK}:∀{cs:List V}{b:Bool},zw hp cs b=true->b=true∧∀c∈cs,c.lendT hp=true
 | [],b,h=>⟨h,by simp⟩
 |v::r,b,h=>by
  simp only[zw] at h;have e:v.lendT hp=true∧zw hp r b=true:=by
   cases a:v.isSw with
   |true=>rw[a] at h;simpa using h
   |false=>rw[a] at h;refine⟨?_,by simpa using h⟩;cases v<;>first|rfl|simp[V.isSw] at a
  obtain⟨f,i⟩:=auT e.2;exact⟨f,λc d=>by
   rcases A3.1 d with rfl|d;·exact e.1
   ·exact i c d⟩
theorem auU{hp:List aK}:∀{vs:List V},adc hp vs=true->∀v∈vs,∀c∈v.cellsA,c.lendT hp=true
 | [],_=>by simp
 |v::r,h=>by
  obtain⟨d,e⟩:=auT (b:=adc hp r) h;intro u a;rcases A3.1 a with rfl|a;·exact e
  ·exact auU d u a
theorem aJ8{f:FuncId}{vs:List V}{hp:List aK}{v:V}(h:aH P f (vs.map (V.lend hp)) v)(hT:adc hp vs=true)(hs:v.scal=true)(hf:(vs.map (V.lend hp)).all V.flat=true):fS P f vs hp v hp:=by
 obtain⟨hp',h⟩:=h;intro w g C aj m ah X ac;let J:Nat->Nat->Prop:=λb j=>g.I b j∨∃(id:Nat)(k:EK)(xs:List (Ty k)),hp[id]? =some (some [.rw k xs])∧b=g.ρ id∧j<xs.length*k.sz
 let u:Gh:={I:=J,ρ:=g.ρ,O:=λ_=>none,β:=g.β}
 have h0:HR u [] w:=by
  refine⟨by simp,by simp,by simp,by simp,?_,by simp[u]⟩;intro b j p;rcases p with p|⟨id,k,xs,d,rfl,p⟩
  ·exact m.exI b j p
  ·obtain⟨B,e,fz,a1,a2⟩:=(m.obj id _ d).row rfl;have M:=a2.len;simp only[cellsOf] at M;rw[cN] at M;rw[bk a1,Am (by omega)];rfl
 have S:∀N,Up g.I g.ρ N w J g.ρ N w:=λN=>⟨λb j p=>.inl p,λ_ _ _=>rfl,λ_ _=>rfl,Ap _⟩
 have G:∀(x:V)(cv:Value),VRel g.I g.ρ hp.length w x cv->x.lendT hp=true->(x.lend1 hp).flat1=true->VRel J g.ρ 0 w (x.lend1 hp) cv:=by
  intro x cv Z A a;by_cases l:∃k id n,x=.sw k id n
  ·obtain⟨k0,id,n,rfl⟩:=l;simp only[V.lend1] at a ⊢;simp only[V.lendT] at A;split at a
   ·rename_i k xs d;have F:hp[id]? =some (some [.rw k xs]):=by
     rw[Aq] at d;cases t:hp[id]? with
     |none=>rw[t] at d;simp at d
     |some y=>rw[t] at d;simpa using d
    rw[d] at A
    ·obtain rfl:=AE A;cases Z with
     |sw _ _ _ h1 D h3=>
      obtain⟨B,e,fz,a1,a2⟩:=(m.obj id _ F).row rfl;have M:=a2.len;simp only[cellsOf] at M;rw[cN] at M;have W:∀(i:Nat) x (j:Nat),xs[i]? =some x->j<(enc k x).length->i*k.sz+j<xs.length*k.sz:=by intro i x j l p;rw[cQ] at p;exact pS (Ag.1 l).1 p
      refine .sl k (.may false) xs (g.ρ id) 0 xs.length _ rfl D h3 (by simp) (λi j=>B.getD (i*k.sz+j) undef) ?_ ?_ ?_;·intro i x j l p;exact .inr ⟨id,k,xs,F,rfl,by rw[Bf];exact W i x j l p⟩
      ·intro i x j l p;have:=W i x j l p;rw[Bf,bk a1,Am (by omega)];simp[B4,show i*k.sz+j<B.size by omega]
      ·intro i x j v l hv;have p:=(Ag.1 hv).1;have:=W i x j l p;have af:=a2.rel (i*k.sz+j) v (B.getD (i*k.sz+j) undef) (by simp only[cellsOf];exact xY xs i j x v l hv) (by
        rw[Am (by omega)];simp[B4,show i*k.sz+j<B.size by omega])
       exact(yA (ρ':=g.ρ) (N':=0) hv af).up (S 0)
   ·simp[V.flat1] at a
  ·have e:x.lend1 hp=x:=by
    cases x<;>first|rfl|exact absurd ⟨_,_,_,rfl⟩ l
   rw[e] at a ⊢;exact(Z.flat1 (N':=0) a).up (S 0)
 have ak:∀(x:V)(cv:Value),VRel g.I g.ρ hp.length w x cv->(∀c∈x.cellsA,c.lendT hp=true)->(x.lend hp).flat=true->VRel J g.ρ 0 w (x.lend hp) cv:=by
  intro x cv Z L a;by_cases l:∃cs,x=.agg cs
  ·obtain⟨cs,rfl⟩:=l;simp only[V.cellsA] at L;simp only[V.lend] at a ⊢;simp only[V.flat,V.flat2,List.all_map,Aw,Function.comp] at a;cases Z with
   |agg cs us M h1 A hv=>
    refine .agg _ us (by simpa using M) ?_ ?_ ?_;·intro c q;obtain⟨E,ae,rfl⟩:=AH.1 q;exact aIB (a E ae) (h1 E ae)
    ·intro i c cv q r;rw[AA] at q;cases t:cs[i]? with
     |none=>rw[t] at q;simp at q
     |some E=>
      rw[t] at q;simp only[BA,Ae] at q;subst q;have:=A i E cv t r;unfold V.lend1;split
      ·split;·simp[d7]
       ·simp[d7]
      ·exact this
    ·intro i c cv q r;rw[AA] at q;cases t:cs[i]? with
     |none=>rw[t] at q;simp at q
     |some E=>rw[t] at q;simp only[BA,Ae] at q;subst q;exact G E cv (hv i E cv t r) (L E (Ar t)) (a E (Ar t))
  ·have e:x.lend hp=x.lend1 hp:=by
    cases x<;>first|rfl|exact absurd ⟨_,rfl⟩ l
   rw[e] at a ⊢;by_cases hy:∃k id n,x=.sw k id n
   ·refine G x cv Z ?_ ?_;·obtain⟨k,id,n,rfl⟩:=hy;exact L _ (by simp[V.cellsA])
    obtain⟨k,id,n,rfl⟩:=hy;simp only[V.lend1] at a ⊢;split at a;·simp[V.flat1]
    ·simp[V.flat,V.flat2,V.flat1] at a
   ·have e:x.lend1 hp=x:=by
     cases x<;>first|rfl|exact absurd ⟨_,_,_,rfl⟩ hy
    rw[e] at a ⊢;exact(Z.flat (ρ':=g.ρ) (N':=0) a).up (S 0)
 have R:∀(i:Nat) x cv,(vs.map (V.lend hp))[i]? =some x->C[i]? =some cv->VRel u.I u.ρ ([]:List aK).length w x cv:=by
  intro i x cv l r;have H:=Aw.1 hf x (Ar l);rw[AA] at l;cases t:vs[i]? with
  |none=>rw[t] at l;simp at l
  |some y=>rw[t] at l;simp only[BA,Ae] at l;subst l;exact ak y cv (ac i y cv t r) (auU hT y (Ar t)) H
 refine(h w u C (aj.sub rfl (λh=>.inl h) (λ_=>rfl)) h0 (by simpa using ah) (by
  intro x l;have H:=Aw.1 hf x l;cases x<;>first|rfl|(simp[V.flat,V.flat2,V.flat1] at H;done)|skip
  rename_i k o xs;obtain⟨y,hy,e⟩:=AH.1 l;by_cases ab:∃k id n,y=.sw k id n
  ·obtain⟨k',id,n,rfl⟩:=ab;simp only[V.lend,V.lend1] at e;split at e;·simp at e;obtain⟨rfl,rfl, -⟩:=e;rfl
   ·simp at e
  ·have e':y.lend hp=y∨∃cs,y=.agg cs:=by
    cases y<;>first|exact .inl rfl|exact .inr ⟨_,rfl⟩|exact absurd ⟨_,_,_,rfl⟩ ab
   rcases e' with e'|⟨cs,rfl⟩
   ·rw[<-e,e'];exact X y hy
   ·simp[V.lend] at e) R).mono ?_
 rintro ex w' ⟨cv,g₁,rfl,q1,Y,q3,q4⟩;have Q:∀b,b<w.heap.size->w'.heap[b]? =w.heap[b]?:=λb A=>Y.block b A (by simp) rfl
 have z:∀b j,g.I b j->w'.cell? ⟨b,j,none⟩=w.cell? ⟨b,j,none⟩:=λb j p=>Y.up.cell b j (.inl p)
 have up:Up g.I g.ρ hp.length w g.I g.ρ hp.length w':=⟨λ_ _ h=>h,z,λ_ _=>rfl,Ap _⟩
 have al:∀(id:Nat) cs,hp[id]? =some (some cs)->g.ρ id<w.heap.size:=by intro id cs d;obtain⟨ob,h1⟩:=(m.obj id cs d).block;exact(AX.1 h1).1
 refine⟨cv,g,rfl,⟨?_,m.apart,m.notI,m.notO,?_,λb o A=>AJ (m.oLt b o A) Y.size⟩,⟨rfl,Y.os,Y.tape,Y.output,Y.size,λb A _ _=>Q b A,up,λ_ _ _ _ _ h=>h,λ_ _ _ h=>h,λ_ cs h=>.inl ⟨cs,h⟩⟩,q3.scal hs,aJ7 hs _ _ _⟩
 ·intro id cs d;refine(m.obj id cs d).keep (Q _ (al id cs d)) λB e fz h1 D=>?_
  refine⟨D.len,D.plain,D.typed,D.cold,D.one,λj c cv q r=>(D.rel j c cv q r).up up,λj c cv q r=>?_,D.bn⟩;exact dg (D.own j c cv q r) rfl (λb j hi=>⟨hi,z b j hi⟩) λb A=>⟨A,Q b (m.oLt b _ A),λj p=>p⟩
 ·intro b j p;rw[z b j p];exact m.exI b j p
theorem aJ9{e:List Nat}{G:Nat->List V->Option (Bool×V)}{Γ:aG}(m:∀f vs v,G f vs=some (true,v)->aH P f vs v)(b:bC P Γ):bC P (zx e G Γ):=by
 intro f vs hp v hp' h;unfold zx at h;cases j:e.elem f with
 |false=>rw[j] at h;exact b _ _ _ _ _ h
 |true=>
  rw[j] at h;simp only[cond_true] at h;split at h;·rename_i r d;rw[AF h] at d;exact b _ _ _ _ _ d
  ·split at h
   ·rename_i c k l;cases a:(k.scal&&(vs.map (V.lend hp)).all V.flat) with
    |false=>rw[a] at h;simp at h
    |true=>rw[a] at h;simp only[cond_true,Ae,Aj] at h;obtain⟨i,rfl,rfl⟩:=h;simp only[Ac] at a i;obtain⟨rfl,p⟩:=i;exact aJ8 (m f _ _ l) p a.1 a.2
   ·simp at h
theorem akC{hp a:List aK}{v:V}(h:∀i∈v.id1,a[i]? =hp[i]?):v.lend1 a=v.lend1 hp∧v.lendT a=v.lendT hp:=by
 cases v with
 |sw k id n=>have e:=ahn (h id (by simp[V.id1]));simp only[V.lend1,V.lendT,e,and_self]
 |_=>exact⟨rfl,rfl⟩
theorem aIC{hp a:List aK}{v:V}(h:∀i∈v.cellsA.flatMap V.id1,a[i]? =hp[i]?):v.lend a=v.lend hp:=by
 cases v with
 |agg cs=>
  simp only[V.lend,V.agg.injEq];refine Bl λc d=>(akC λi b=>h i ?_).1
  simp only[V.cellsA,AS];exact⟨c,d,b⟩
 |_=>exact(akC λi b=>h i (by simpa [V.cellsA] using b)).1
theorem aso{hp a:List aK}:∀{cs:List V}{b c:Bool},(∀i∈cs.flatMap V.id1,a[i]? =hp[i]?)->c=b->zw a cs c=zw hp cs b
 | [],b,c,_,e=>e
 |v::r,b,c,h,e=>by simp only[zw];rw[(akC (v:=v) λi d=>h i (by simp[d])).2,aso (cs:=r) (λi d=>h i (by simp only[Cq,Az];exact .inr d)) e]
theorem asp{hp a:List aK}:∀{vs:List V},(∀i∈ub vs,a[i]? =hp[i]?)->adc a vs=adc hp vs
 | [],_=>rfl
 |v::r,h=>by simp only[adc];exact aso (λi b=>h i (by simp only[ub,Cq,Az];exact .inl b)) (asp λi b=>h i (by simp only[ub,Cq,Az] at b ⊢;exact .inr b))
theorem aHd{t:List Nat}{G:Nat->List V->Option (Bool×V)}{Γ:aG}{p j:List Nat}(B:co Γ p)(D:(t++p).all (λx=>j.contains x)=true)
  (H:j.all (λx=>C6 x 2000000||p.contains x)=true):co (zx t G Γ) j:=by
 simp only[Dx,Ac] at D;refine⟨?_,?_⟩
 ·intro f vs hp k;have u:t.elem f=false:=by
   cases Q:t.elem f with
   |false=>rfl
   |true=>have:=Aw.1 D.1 f (by simpa using Q);rw[this] at k;simp at k
  have e:∀hp,zx t G Γ f vs hp=Γ f vs hp:=by intro hp;unfold zx;rw[u];rfl
  rw[e,e];exact(B.mono D.2 H).pure f vs hp k
 ·intro f vs hp c v hp' k h;have d:=(B.mono D.2 H).loc f vs;cases u:t.elem f with
  |false=>
   have e:∀hp,zx t G Γ f vs hp=Γ f vs hp:=by intro hp;unfold zx;rw[u];rfl
   rw[e] at h;obtain⟨q,C,E,A⟩:=d _ _ _ _ k h;exact⟨q,C,E,λa b l=>by rw[e];exact A a b l⟩
  |true=>
   unfold zx at h;rw[u] at h;simp only[cond_true] at h;cases z:Γ f vs hp with
   |some r=>rw[z] at h;simp only[Ae] at h;subst h;obtain⟨q,C,E,A⟩:=d _ _ _ _ k z;refine⟨q,C,E,λa b l=>?_⟩;unfold zx;rw[u,A a b l];rfl
   |none=>
    rw[z] at h;simp only at h;split at h
    ·rename_i Y J O;cases m:(J.scal&&(vs.map (V.lend hp)).all V.flat) with
     |false=>rw[m] at h;simp at h
     |true=>
      rw[m] at h;simp only[cond_true,Ae,Aj] at h;obtain⟨rfl,rfl,rfl⟩:=h;refine⟨[],by simp,rfl,λa b l=>?_⟩;have M:Γ f vs a=none:=by
       cases L:Γ f vs a with
       |none=>rfl
       |some r=>obtain⟨W,X,F⟩:=r;obtain⟨q,C,E,A⟩:=d _ _ _ _ k L;have:=A hp b.symm (λi y=>(l i y).symm);rw[this] at z;cases z
      have S:vs.map (V.lend a)=vs.map (V.lend hp):=Bl λv R=>aIC λi y=>l i (aho (by simp only[ub,AS] at y ⊢;exact⟨v,R,y⟩))
      unfold zx;rw[u,M];simp only[cond_true,S,O,m,asp λi y=>l i (aho y)];rfl
    ·simp at h
end
section
variable{I I':Nat->Nat->Prop}{ρ ρ':Nat->Nat}{N N':Nat}{w w':World}{P:Program}
def V.dim1:V->V
 | .sl k _ xs=>.sl k (.may false) xs
 |v=>v
def V.dim:V->V
 | .agg cs=>.agg (cs.map V.dim1)
 |v=>v.dim1
theorem VRel.dim1{v:V}{cv:Value}(h:VRel I ρ N w v cv):VRel I ρ N w v.dim1 cv:=by cases v<;>simp only[V.dim1]<;>first|exact h.own (by simp) (by simp)|exact h
theorem VRel.dim{v:V}{cv:Value}(h:VRel I ρ N w v cv):VRel I ρ N w v.dim cv:=by
 by_cases j:∃cs,v=.agg cs
 ·obtain⟨cs,rfl⟩:=j;cases h with
  |agg cs vs l k m j=>
   refine .agg _ vs (by simpa using l) ?_ ?_ ?_;·intro c b;obtain⟨f,a,rfl⟩:=AH.1 b;have:=k f a;cases f<;>exact this
   ·intro i c cv b d;rw[AA,As] at b;obtain⟨f,a,rfl⟩:=b;have:=m i f cv a d;cases f<;>first|exact this|simp[V.dim1,d7]
   ·intro i c cv b d;rw[AA,As] at b;obtain⟨f,a,rfl⟩:=b;exact(j i f cv a d).dim1
 ·have e:v.dim=v.dim1:=by cases v<;>first|rfl|exact absurd ⟨_,rfl⟩ j
  rw[e];exact h.dim1
theorem aKa{v:V}(h:v.bare=true):v.dim.bare=true:=by cases v<;>first|exact h|rfl
theorem fS.dim{f:FuncId}{vs us:List V}{hp hp':List aK}{v:V}(h:fS P f us hp v hp')(e:vs.map V.dim=us):fS P f vs hp v hp':=by subst e;intro w g b l p d a c;refine h w g b l p (by simpa using d) (by intro x j;obtain⟨y,k,rfl⟩:=AH.1 j;exact aKa (a y k)) ?_;intro i x cv j m;rw[AA,As] at j;obtain⟨y,k,rfl⟩:=j;exact(c i y cv k m).dim
theorem aH.dim{f:FuncId}{vs us:List V}{v:V}(h:aH P f us v)(e:vs.map V.dim=us):aH P f vs v:=by obtain⟨hp',h⟩:=h;exact⟨hp',h.dim e⟩
def xj(P:Program)(f:FuncId)(vs cs:List V):Prop:=fS P f vs [] (.ptr 0 0) [some cs]
theorem xj.frame{f:FuncId}{vs cs:List V}(h:xj P f vs cs)(hf:vs.all V.flat=true)(hc:cs.all V.flatO=true)(hp:List aK):fS P f vs hp (.ptr hp.length 0) (hp++[some cs]):=by
 intro w g S ag A ae W ab;let r:Gh:={I:=g.I,ρ:=g.ρ,O:=λ_=>none,β:=g.β}
 have h0:HR r [] w:=⟨by simp,by simp,by simp,by simp,A.exI,by simp[r]⟩
 refine(h w r S (ag.sub rfl (λh=>h) (λh=>by simp[r,h])) h0 ae W (λi x cv hx q=>(ab i x cv hx q).flat (Aw.1 hf x (Ar hx)))).mono ?_;rintro e w' ⟨cv,g₁,rfl,Z,C,q3,q4⟩;have Q:∀b,b<w.heap.size->w'.heap[b]? =w.heap[b]?:=λb p=>C.block b p (by simp) rfl
 have z:∀b j,b<w.heap.size->g₁.I b j->g.I b j:=λb j p X=>C.iSame b j p (by simp) rfl X
 have L:∀b,b<w.heap.size->g₁.O b=none:=λb p=>C.oSame b p (by simp) rfl
 have ad:w.heap.size<=g₁.ρ 0:=by
  rcases C.live 0 cs rfl with⟨_,h⟩|⟨_,h|h|⟨_,_,h,_⟩⟩
  ·simp at h
  ·exact h
  ·simp[r] at h
  ·simp at h
 let d:Gh:={I:=g₁.I,ρ:=λi=>if i=hp.length then g₁.ρ 0 else g.ρ i,β:=g.β,O:=λb=>if b<w.heap.size then g.O b else (match g₁.O b with
  |some (.cell i j)=>if i=0 then some (.cell hp.length j) else none
  |some .res=>some .res
  |_=>none)}
 have k:∀i,i<hp.length->d.ρ i=g.ρ i:=by intro i X;simp only[d];rw[if_neg (by omega)]
 have m:d.ρ hp.length=g₁.ρ 0:=by simp[d]
 have up:Up g.I g.ρ hp.length w d.I d.ρ (hp++[some cs]).length w':=⟨C.up.mono,C.up.cell,k,by simp⟩
 have D:∀(id:Nat) cs,hp[id]? =some (some cs)->g.ρ id<w.heap.size:=by intro id cs a;obtain⟨ob,H⟩:=(A.obj id cs a).block;exact(AX.1 H).1
 have l:∀(id:Nat) cs,hp[id]? =some (some cs)->id<hp.length:=λid cs a=>(Ag.1 a).1
 have key:∀(id:Nat) c,(hp++[some cs])[id]? =some (some c)->(id=hp.length∧c=cs)∨hp[id]? =some (some c):=by
  intro id c a;rcases AG id hp.length with M|M;·rw[Au M] at a;exact .inr a
  ·rw[At M] at a;have:id-hp.length=0:=by
    have:=(Ag.1 a).1;simp at this;omega
   rw[this] at a;exact .inl ⟨by omega,by simpa using a.symm⟩
 have R:∀id j v cv,id<hp.length->aP g w (.cell id j) v cv->aP d w' (.cell id j) v cv:=by intro id j v cv a ho;refine dg ho rfl (λb j X=>⟨C.up.mono b j X,C.up.cell b j X⟩) ?_;intro b p;have B:=A.oLt b _ p;exact⟨by simp[d,B,p],Q b B,λj u=>z b j B u⟩
 refine⟨cv,d,rfl,⟨?_,?_,?_,?_,Z.exI,?_⟩,⟨rfl,C.os,C.tape,C.output,C.size,λb p _ _=>Q b p,up,λb j p _ _ X=>z b j p X,?_,?_⟩,?_,?_⟩
 ·intro id c a;rcases key id c a with⟨rfl,rfl⟩|a
  ·refine(Z.obj 0 c rfl).keep (by rw[m]) λah e fz a1 Y=>?_
   have hr:=an8 hc;refine⟨Y.len,Y.plain,by rw[sM hr];simp,Y.cold,Y.one,?_,?_,?_⟩;·intro j G cv u q;exact(Y.rel j G cv u q).flatO (Aw.1 hc G (Ar (by rw[jW hr] at u;exact u)))
   ·intro j G cv u q;refine(Y.own j G cv u q).reloc C.beta.symm rfl λb p=>?_
    have af:¬b<w.heap.size:=by intro B;rw[L b B] at p;cases p
    simp[d,p,af]
   ·intro j E n u;rw[m];exact Y.bn j E n u
  ·have M:=l id c a;refine(A.obj id c a).keep (by rw[k id M];exact Q _ (D id c a)) λah e fz H t=>?_
   exact⟨t.len,t.plain,t.typedUp rfl k (by simp) rfl,t.cold,t.one,λj c cv hc q=>(t.rel j c cv hc q).up up,λj c cv hc q=>R _ _ _ _ M (t.own j c cv hc q),λj E n u=>by rw[k id M];exact t.bn j E n u⟩
 ·intro id y c G a J ac;rcases key id c a with⟨rfl,rfl⟩|H
  ·rcases key y G J with⟨rfl,rfl⟩|t;·exact absurd rfl ac
   ·rw[m,k y (l y G t)];have:=D y G t;omega
  ·rcases key y G J with⟨rfl,rfl⟩|t;·rw[m,k id (l id c H)];have:=D id c H;omega
   ·rw[k id (l id c H),k y (l y G t)];exact A.apart _ _ _ _ H t ac
 ·intro id c a j u;rcases key id c a with⟨rfl,rfl⟩|a;·rw[m] at u;exact Z.notI 0 c rfl j u
  ·rw[k id (l id c a)] at u;exact A.notI id c a j (z _ j (D id c a) u)
 ·intro id c a;rcases key id c a with⟨rfl,rfl⟩|a
  ·rw[m];have H:=Z.notO 0 c rfl;have t:¬g₁.ρ 0<w.heap.size:=by omega
   simp[d,H,t]
  ·rw[k id (l id c a)];have:=D id c a;simp[d,this,A.notO id c a]
 ·intro b o p;simp only[d] at p;split at p;·rename_i B;exact AJ B C.size
  ·split at p;·rename_i F;exact Z.oLt b _ F
   ·rename_i F;exact Z.oLt b _ F
   ·simp at p
 ·intro b p _ hO;simp[d,p,hO]
 ·intro id c a;rcases key id c a with⟨rfl,rfl⟩|a;·exact .inr ⟨Ap _,.inl (by rw[m];exact ad)⟩
  ·exact .inl ⟨c,a⟩
 ·cases q3 with
  |ptr _ _ _=>rw[<-m];exact .ptr _ _ (by simp)
 ·simp[aP]
theorem xj.dim{f:FuncId}{vs us cs:List V}(h:xj P f us cs)(e:vs.map V.dim=us):xj P f vs cs:=fS.dim h e
theorem bv.dim{f:FuncId}{vs us:List V}{css css':List (List V)}{v:V}(h:bv P f us css v css')(e:vs.map V.dim=us):bv P f vs css v css':=by obtain⟨b,rest,a⟩:=h;exact⟨b,rest,a.dim e⟩
def V.dimR:V->V
 | .tup vs=>.tup (vs.map V.dim)
 |v=>v.dim
theorem VRel.dimR{v:V}{cv:Value}(h:VRel I ρ N w v cv):VRel I ρ N w v.dimR cv:=by
 by_cases a:∃cs,v=.tup cs
 ·obtain⟨cs,rfl⟩:=a;cases h with
  |tup cs vs k a=>refine .tup _ vs (by simpa using k) ?_;intro i c cv f b;rw[AA,As] at f;obtain⟨j,d,rfl⟩:=f;exact(a i j cv d b).dim
 ·have e:v.dimR=v.dim:=by cases v<;>first|rfl|exact absurd ⟨_,rfl⟩ a
  rw[e];exact h.dim
theorem aP.dimR{g:Gh}{a:Occ}{v:V}{cv:Value}(h:aP g w a v cv):aP g w a v.dimR cv:=by cases v<;>first|exact h|simp[V.dimR,V.dim,V.dim1,aP]
theorem fS.dimR{f:FuncId}{vs:List V}{hp hp':List aK}{v:V}(h:fS P f vs hp v hp'):fS P f vs hp v.dimR hp':=by intro w g b i j d a c;refine(h w g b i j d a c).mono ?_;rintro e w' ⟨cv,m,rfl,p,l,q,k⟩;exact⟨cv,m,rfl,p,l,q.dimR,k.dimR⟩
theorem aH.dimR{f:FuncId}{vs:List V}{v u:V}(h:aH P f vs v)(e:v.dimR=u):aH P f vs u:=by subst e;obtain⟨hp',h⟩:=h;exact⟨hp',h.dimR⟩
theorem bv.dimR{f:FuncId}{vs:List V}{css css':List (List V)}{v u:V}(h:bv P f vs css v css')(e:v.dimR=u):bv P f vs css u css':=by subst e;obtain⟨a,rest,b⟩:=h;exact⟨a,rest,b.dimR⟩
abbrev aBQ:=Nat->List V->Option (Bool×List V)
def ahr(G:aBQ)(Γ:aG):aG:=λf vs hp=>
 match G f vs with
 |some (c,cs)=>cond (vs.all V.flat&&cs.all V.flatO) (some (c,.ptr hp.length 0,hp++[some cs])) none
 |none=>Γ f vs hp
theorem aKb{G:aBQ}{Γ:aG}(e:∀f vs cs,G f vs=some (true,cs)->xj P f vs cs)(b:bC P Γ):bC P (ahr G Γ):=by
 intro f vs hp v hp' h;unfold ahr at h;split at h
 ·rename_i c cs d;cases a:(vs.all V.flat&&cs.all V.flatO) with
  |false=>rw[a] at h;simp at h
  |true=>rw[a] at h;simp only[cond_true,Ae,Aj] at h;obtain⟨rfl,rfl,rfl⟩:=h;simp only[Ac] at a;exact(e f vs cs d).frame a.1 a.2 hp
 ·exact b _ _ _ _ _ h
theorem aHe{G:aBQ}{Γ:aG}{a:List Nat}(l:∀f vs,a.contains f=false->G f vs=none)(i:∀f vs,a.contains (f+2000000)=true->G f vs=none)(d:co Γ a):co (ahr G Γ) a:=by
 refine⟨?_,?_⟩
 ·intro f vs hp b;have e:∀hp,ahr G Γ f vs hp=Γ f vs hp:=by
   intro hp;unfold ahr;rw[l f vs b]
  rw[e,e];exact d.pure f vs hp b
 ·intro f vs hp c v hp' b h;have e:∀hp,ahr G Γ f vs hp=Γ f vs hp:=by
   intro hp;unfold ahr;rw[i f vs b]
  rw[e] at h;obtain⟨q,m,k,r⟩:=d.loc _ _ _ _ _ _ b h;exact⟨q,m,k,λj p t=>by rw[e];exact r j p t⟩
def pick{R:Type}[Inhabited R](C:R->Prop):R:= @Classical.epsilon R ⟨default⟩ C
def can{R:Type}[Inhabited R](C:R->Prop):Bool:= @decide (C (pick C)) (Dj _)
theorem aCl{R:Type}[Inhabited R]{C:R->Prop}(h:∃r,C r):can C=true:= @decide_eq_true _ (Dj _) (Classical.epsilon_spec h)
theorem aob{R:Type}[Inhabited R]{C:R->Prop}(h:can C=true):C (pick C):= @of_decide_eq_true _ (Dj _) h
def pk{R a:Type}[Inhabited R](C:R->Prop)(f:R->a):Option (Bool×a):=some (can C,f (pick C))
def aA{R a:Type}[Inhabited a](C:a->Prop)(K:a->Option R):Option R:=chk (can C) (K (pick C))
end
theorem nZ{α R:Type}{B:(α->Option R)->α->Option R}(a:α->Prop)(b:α->Nat)(F:α->R)
  (step:∀(rec:α->Option R) x,a x->(∀y,a y->b y<b x->rec y=some (F y))->B rec x=some (F x)):∀n x,a x->b x<n->aO n B x=some (F x)
 |0,_,_,h=>by omega
 |n+1,x,c,f=>step (aO n B) x c λy d e=>nZ a b F step n y d (by omega)
theorem ui{R:Type}{c:Bool}(h:c=true)(x:Option R):chk c x=x:=by rw[h];rfl
theorem afp{R:Type}(x:Option R):chk true x=x:=rfl
theorem aCm(k:IntKind)(b:k.signed=false)(a:Nat):k.wrap (a:Int)=((a%2^k.bits:Nat):Int):=by cases k<;>simp[AN] at b<;>simp[Ab,AN,A6]
theorem wA(k:IntKind)(b:k.signed=false)(a:Nat)(h:a<2^k.bits):k.wrap (a:Int)=(a:Int):=by rw[aCm k b,Br h]
theorem uj(n:Int):IntKind.u64.wrap n=n%18446744073709551616:=by simp[Ab,A6,AN]
theorem qM(n:Int):IntKind.u32.wrap n=n%4294967296:=by simp[Ab,A6,AN]
theorem aGt(n:Int):IntKind.u8.wrap n=n%256:=by simp[Ab,A6,AN]
theorem mR(n:Int):IntKind.i64.wrap n=(n+9223372036854775808)%18446744073709551616-9223372036854775808:=by simp[Ab,A6,AN];omega
theorem qN(n:Int):IntKind.i32.wrap n=(n+2147483648)%4294967296-2147483648:=by simp[Ab,A6,AN];omega
theorem aT(n:Int)(h:-9223372036854775808<=n∧n<=9223372036854775807):IntKind.i64.wrap n=n:=by rw[mR];omega
theorem dz(n:Int)(h:0<=n∧n<=18446744073709551615):IntKind.u64.wrap n=n:=by rw[uj];omega
theorem asq(n:Int)(h:0<=n∧n<=4294967295):IntKind.u32.wrap n=n:=by rw[qM];omega
theorem jX(n:Int)(h:0<=n∧n<=255):IntKind.u8.wrap n=n:=by rw[aGt];omega
theorem aoc(n a:Nat):(AT n (a:Int)).toNat=a%2^n:=by simp
theorem aCn(k:IntKind)(e:k.signed=false)(a b:Nat)(d:a<2^k.bits)(c:b<2^k.bits):bE .xor k a b=((a ^^^b:Nat):Int):=by unfold bE;simp only[BitVec.toNat_xor,aoc,Br d,Br c];exact wA k e _ (Nat.xor_lt_two_pow d c)
theorem aCo(k:IntKind)(e:k.signed=false)(a b:Nat)(d:a<2^k.bits)(c:b<2^k.bits):bE .and k a b=((a&&& b:Nat):Int):=by unfold bE;simp only[BitVec.toNat_and,aoc,Br d,Br c];exact wA k e _ (Nat.and_lt_two_pow a c)
theorem aw5(k:IntKind)(e:k.signed=false)(a b:Nat)(d:a<2^k.bits)(c:b<2^k.bits):bE .or k a b=((a|||b:Nat):Int):=by unfold bE;simp only[BitVec.toNat_or,aoc,Br d,Br c];exact wA k e _ (Nat.or_lt_two_pow d c)
theorem qO(k:IntKind)(a n:Nat)(h:n<=k.bits):ep k (a:Int) (n:Int)=((a / 2^n:Nat):Int):=by
 unfold ep;rw[AK,Nat.min_eq_left h,B1 _ (DD (DO (by omega)))]
 norm_cast
theorem atl(k:IntKind)(b:k.signed=false)(a n:Nat)(h:n<=k.bits):ic k (a:Int) (n:Int)=((a*2^n%2^k.bits:Nat):Int):=by
 unfold ic;rw[AK,Nat.min_eq_left h,<-aCm k b]
 norm_cast
theorem akD(a b:Nat):Bn (a:Int) (b:Int)=((a / b:Nat):Int):=by rw[BZ (by omega)];norm_cast
theorem yb(a b:Nat):AQ (a:Int) (b:Int)=((a%b:Nat):Int):=by rw[Bj (by omega)];norm_cast
def kT(w:World):Gh:={I:=λb j=>(w.cell? ⟨b,j,none⟩).isSome=true,ρ:=id,O:=λ_=>none,β:=0}
theorem aID{P:Program}{f:FuncId}{vs:List V}(h:aH P f vs (.bool true)){a:Array Value}{w:World}(m:vs.length=a.size)(l:∀x∈vs,x.bare=true)
  (q:∀(i:Nat) x cv,vs[i]? =some x->a[i]? =some cv->VRel (kT w).I id 0 w x cv)
  (d:awY≠[]->∃t,w.heap[aik]? =some (.cells awY.toArray t (0,0)):=by simp[awY]):
  Calls P f a w λe w'=>e=.returned (.bool true)∧RowKit.Below w.heap.size w w':=by
 obtain⟨hp',h⟩:=h;have r:ain P {kT w with β:=kQ P} w:=⟨rfl,λk=>by obtain⟨t,d⟩:=d k;have m:0<awY.length:=Cc.2 k;refine⟨?_,rfl,(AX.1 d).1,t,d⟩;simp only[kT];rw[bk d];simp[m]⟩
 refine(h w {kT w with β:=kQ P} a r ⟨by simp,by simp,by simp,by simp,λb j p=>p,by simp[kT]⟩ m l q).mono ?_;rintro e w' ⟨cv,v,rfl,_,c,u,_⟩;cases u;exact⟨rfl,c.os,c.tape,c.output,c.size,λb l=>c.block b l (by simp) rfl⟩
theorem aLz{w:World}(s:ByteArray)(h:s.size<=maxLen):VRel (kT w).I id 0 w (.str s.data.toList) (.string s):=
 .str _ _ rfl (by unfold maxLen at h;unfold cj;exact h)
theorem aGu{w:World}(k:IntKind)(n:Int)(h:(Lit.int k n).wf=true):VRel (kT w).I id 0 w (.int k n) (.int k n):=
 .int _ _ (by simpa [Lit.wf] using h)
theorem dt{p:Prop}[Decidable p](h:p):decide p=true:=decide_eq_true h
theorem df{p:Prop}[Decidable p](h:¬p):decide p=false:=decide_eq_false h
theorem bt{a b:Int}(h:a=b):(a==b)=true:=by simp[h]
theorem bf{a b:Int}(h:a≠b):(a==b)=false:=by simp[h]
theorem it{α:Type}{p:Prop}[Decidable p]{a b:α}(h:p):(if p then a else b)=a:=if_pos h
theorem iF{α:Type}{p:Prop}[Decidable p]{a b:α}(h:¬p):(if p then a else b)=b:=if_neg h
theorem aGv{a b:Int}(h:0<=a):Bn a b=a / b:=BZ h
theorem aGw{a b:Int}(h:0<=a):AQ a b=a%b:=Bj h
theorem azl{α a:Type}(f:α->a)(x:α):Option.map f (some x)=some (f x):=rfl
theorem asr(n:Int)(h:-2147483648<=n∧n<=2147483647):IntKind.i32.wrap n=n:=by rw[qN];omega
theorem aod{o:Option (V×List aK)}{v:V}(h:o.map (·.1)=some v):∃hp,o=some (v,hp):=by
 cases o with
 |none=>simp at h
 |some p=>obtain⟨a,hp⟩:=p;simp at h;subst h;exact⟨hp,rfl⟩
theorem ahs{α:Type}{B:(α->Option (V×List aK))->α->Option (V×List aK)}(a:α->Prop)(b:α->Nat)(F:α->V)
  (step:∀(rec:α->Option (V×List aK)) x,a x->(∀y,a y->b y<b x->(rec y).map (·.1)=some (F y))->(B rec x).map (·.1)=some (F x)):
  ∀n x,a x->b x<n->(aO n B x).map (·.1)=some (F x)
 |0,_,_,h=>by omega
 |n+1,x,c,f=>step (aO n B) x c λy d e=>ahs a b F step n y d (by omega)
theorem jK{n:Int}(h:(V.int .u64 n).fits):0<=n∧n<=18446744073709551615:=by simpa [V.fits,BI,Bo,AN,A6] using h
theorem aCp{n:Int}(h:(V.int .u32 n).fits):0<=n∧n<=4294967295:=by simpa [V.fits,BI,Bo,AN,A6] using h
theorem afU{n:Int}(h:(V.int .i64 n).fits):-9223372036854775808<=n∧n<=9223372036854775807:=by simpa [V.fits,BI,Bo,AN,A6] using h
theorem qP{l:List UInt8}(h:(V.str l).fits):l.length<=9223372036854775807:=h
theorem zy{cs:List V}(h:(V.agg cs).fits)(n:Int)(a:V.int .i64 n∈cs):-9223372036854775808<=n∧n<=9223372036854775807:=by have:=h _ a;simpa [BI,Bo,AN,A6] using this
theorem aoe{cs:List V}(h:(V.agg cs).fits)(n:Int)(a:V.int .u64 n∈cs):0<=n∧n<=18446744073709551615:=by have:=h _ a;simpa [BI,Bo,AN,A6] using this
theorem zz{cs:List V}(h:(V.agg cs).fits)(l:List UInt8)(a:V.str l∈cs):l.length<=9223372036854775807:=h _ a
theorem ii{a:Int}{n:Nat}(h:a=(n:Int)):a.toNat=n:=by subst h;rfl
theorem aCq{α:Type}(n:Int)(l:List α):(ixl n l=true)=(0<=n∧n<(l.length:Int)):=by simp[ixl]
theorem ixt{α:Type}{n:Int}{l:List α}(h:0<=n∧n<(l.length:Int)):ixl n l=true:=by rw[aCq];exact h
theorem bj:type_of% @dt∧type_of% @ixt∧type_of% @df∧type_of% @it∧type_of% @iF∧type_of% @bt∧type_of% @bf∧type_of% @cond_true.{1}∧type_of% @cond_false.{1}∧type_of% @azl∧type_of% @afp∧type_of% @Bool.and_true∧type_of% @Bool.true_and∧type_of% @Bool.and_false∧type_of% @Bool.false_and∧type_of% @Bool.or_true∧type_of% @Bool.true_or∧type_of% @Bool.or_false∧type_of% @Bool.false_or∧type_of% @Bool.not_true∧type_of% @Bool.not_false∧type_of% @if_true.{1}∧type_of% @if_false.{1}∧type_of% @beq_self_eq_true.{0}∧type_of% @aT∧type_of% @dz∧type_of% @asr∧type_of% @asq∧type_of% @jX∧type_of% @aGv∧type_of% @aGw∧type_of% @Int.toNat_natCast∧type_of% @List.take_length.{0}∧type_of% @List.drop_zero.{0}∧type_of% @or_true∧type_of% @true_or∧type_of% @or_false∧type_of% @false_or∧type_of% @or_self:=⟨@dt, @ixt, @df, @it, @iF, @bt, @bf, @cond_true.{1}, @cond_false.{1}, @azl, @afp, @Bool.and_true, @Bool.true_and, @Bool.and_false, @Bool.false_and, @Bool.or_true, @Bool.true_or, @Bool.or_false, @Bool.false_or, @Bool.not_true, @Bool.not_false, @if_true.{1}, @if_false.{1}, @beq_self_eq_true.{0}, @aT, @dz, @asr, @asq, @jX, @aGv, @aGw, @Int.toNat_natCast, @List.take_length.{0}, @List.drop_zero.{0}, @or_true, @true_or, @or_false, @false_or, @or_self⟩
theorem bnl:type_of% @aCq∧type_of% @decide_eq_true_eq∧type_of% @decide_eq_false_iff_not∧type_of% @Bool.and_eq_true∧type_of% @Bool.and_eq_false_iff∧type_of% @Bool.or_eq_true∧type_of% @Bool.or_eq_false_iff∧type_of% @Bool.not_eq_true'∧type_of% @Bool.not_eq_false'∧type_of% @beq_iff_eq.{0}∧type_of% @beq_eq_false_iff_ne.{0}∧type_of% @Int.not_lt∧type_of% @Int.not_le∧type_of% @Nat.not_lt∧type_of% @Nat.not_le∧type_of% @ne_eq.{1}∧type_of% @Nat.beq_eq∧type_of% @true_and∧type_of% @and_true∧type_of% @Bool.not_not:=⟨@aCq, @decide_eq_true_eq, @decide_eq_false_iff_not, @Bool.and_eq_true, @Bool.and_eq_false_iff, @Bool.or_eq_true, @Bool.or_eq_false_iff, @Bool.not_eq_true', @Bool.not_eq_false', @beq_iff_eq.{0}, @beq_eq_false_iff_ne.{0}, @Int.not_lt, @Int.not_le, @Nat.not_lt, @Nat.not_le, @ne_eq.{1}, @Nat.beq_eq, @true_and, @and_true, @Bool.not_not⟩
theorem lnl:type_of% @List.length_append.{0}∧type_of% @List.length_cons.{0}∧type_of% @List.length_nil.{0}∧type_of% @List.length_drop.{0}∧type_of% @List.length_take.{0}∧type_of% @List.length_set.{0}∧type_of% @List.length_replicate.{0}:=⟨@List.length_append.{0}, @List.length_cons.{0}, @List.length_nil.{0}, @List.length_drop.{0}, @List.length_take.{0}, @List.length_set.{0}, @List.length_replicate.{0}⟩
def Tot{R:Type}(x:Option R)(Q:R->Prop):Prop:=∃r,x=some r∧Q r
section
variable{R:Type}{Q:R->Prop}
theorem aW{α:Type}{B:(α->Option R)->α->Option R}(Inv:α->Prop)(b:α->Nat)
  (step:∀(a:α->Option R) x,Inv x->(∀y,Inv y->b y<b x->Tot (a y) Q)->Tot (B a x) Q):∀n x,Inv x->b x<n->Tot (aO n B x) Q
 |0,_,_,h=>by omega
 |n+1,x,c,f=>step (aO n B) x c λy d e=>aW Inv b step n y d (by omega)
theorem aE{r:R}(h:Q r):Tot (some r) Q:=⟨r,rfl,h⟩
theorem aD{c:Bool}{x:Option R}(a:c=true)(h:Tot x Q):Tot (chk c x) Q:=by subst a;exact h
theorem vck{c:Bool}{x:Option R}(h:Tot x Q)(a:c=true:=by first|(simp only[bnl,lnl];done)|(simp only[bnl,lnl];omega)):Tot (chk c x) Q:=aD a h
theorem aB{b:Bool}{x y:Option R}(c:b=true->Tot x Q)(a:b=false->Tot y Q):Tot (cond b x y) Q:=by
 cases b with
 |true=>exact c rfl
 |false=>exact a rfl
theorem aqX{R:Type}[Inhabited R]{C:R->Prop}(h:∃r,C r):C (pick C):=aob (aCl h)
theorem aX{a:Type}[Inhabited a]{C:a->Prop}{K:a->Option R}(h:∃r,C r)(b:∀r,C r->Tot (K r) Q):Tot (aA C K) Q:=
 aD (aCl h) (b _ (aqX h))
end
def c8{R:Type}(C:Nat->St->Option R)(Γ:aG)(n:Nat):IR->(Ex->St->Option R)->St->Option R
 | .skip,K,s=>K .normal s
 | .bad,_,_=>none
 | .reg e _,K,s=>runOps Γ e (K .normal) s
 | .seq a b,K,s=>c8 C Γ n a (kseq (c8 C Γ n b) K) s
 | .cond c a b,K,s=>match c.ev s with
   | .bool t=>cond t (c8 C Γ n a K (c.fix s true)) (c8 C Γ n b K (c.fix s false))
   |_=>none
 | .block id a,K,s=>c8 C Γ n a (aQ id K) s
 | .loop d m a,K,s=>C (d.getLastD 0) (s.keep d m)
 | .cut d m a,K,s=>C (d.getLastD 0) (s.keep d m)
 | .gh g a,K,s=>match g.step s with
   |some (c,s')=>chk c (c8 C Γ n a K s')
   |none=>none
 | .ope o a,K,s=>cond (aGT s o) (match (gm.fz o).step s with
   |some (c,s')=>chk c (c8 C Γ n a K s')
   |none=>none) (match (gm.opn o).step s with
   |some (c,s')=>chk c (c8 C Γ n a K s')
   |none=>none)
 | .ghp g a,K,s=>c8 C Γ n a (aqS g K) s
 | .exit id,K,s=>K (.exit id) s
 | .ret,K,s=>K .ret s
def cT{R:Type}(Γ:aG)(n:Nat):IR->(Ex->St->Option R)->List (Nat×(St->Option R))
 | .seq a b,K=>cT Γ n a (kseq (run Γ n b) K)++cT Γ n b K
 | .cond _ a b,K=>cT Γ n a K++cT Γ n b K
 | .block id a,K=>cT Γ n a (aQ id K)
 | .loop c m a,K=>[(c.getLastD 0,λs=>aZ n (λd s=>run Γ n a (bo d c m K) s) s)]
 | .cut c m a,K=>[(c.getLastD 0,λs=>run Γ n a K s)]
 | .gh g a,K=>cT Γ n a K
 | .ope o a,K=>cT Γ n a K
 | .ghp g a,K=>cT Γ n a (aqS g K)
 |_,_=>[]
theorem aw6{R:Type}{C:Nat->St->Option R}{Γ:aG}{n:Nat}:∀(ir:IR)(K:Ex->St->Option R),(∀p∈cT Γ n ir K,C p.1=p.2)->∀s,c8 C Γ n ir K s=run Γ n ir K s:=by
 intro ir;induction ir with
 |seq a b d j=>
  intro K h s;have e:kseq (c8 C Γ n b) K=kseq (run Γ n b) K:=by
   funext e s;cases e with
   |normal=>exact j K (λp hp=>h p (Cj _ hp)) s
   |_=>rfl
  show c8 C Γ n a (kseq (c8 C Γ n b) K) s=run Γ n a (kseq (run Γ n b) K) s;rw[e];exact d _ (λp hp=>h p (BM _ hp)) s
 |cond c a b d j=>intro K h s;simp only[c8,run,d K (λp hp=>h p (BM _ hp)),j K (λp hp=>h p (Cj _ hp))];cases c.ev s<;>rfl
 |block id a d=>intro K h s;exact d _ h s
 |loop i m a d=>intro K h s;have:=h (i.getLastD 0,_) (Ay.2 rfl);simp only[c8,run];rw[this]
 |cut i m a d=>intro K h s;have:=h (i.getLastD 0,_) (Ay.2 rfl);simp only[c8,run];rw[this]
 |gh g a d=>intro K h s;simp only[c8,run,d K h];cases g.step s<;>rfl
 |ope o a d=>intro K h s;simp only[c8,run,d K h];cases (gm.fz o).step s<;>cases (gm.opn o).step s<;>rfl
 |ghp g a d=>intro K h s;exact d _ h s
 |_=>intro K h s;rfl
def gW{R:Type}:List (Nat×(St->Option R))->Nat->St->Option R
 | [],_=>λ_=>none
 |(j,f)::l,i=>cond (AI j i) f (gW l i)
def akE:List Nat->Bool
 | []=>true
 |i::l=> !(l.any (AI i))&&akE l
theorem bX{R:Type}:∀{l:List (Nat×(St->Option R))},akE (l.map CC)=true->∀p∈l,gW l p.1=p.2
 | [],_,p,hp=>by simp at hp
 |(j,f)::l,h,p,hp=>by
  simp only[Bb,akE,Ac,BE,D1] at h;rcases A3.1 hp with rfl|hp;·simp[gW]
  ·have a:AI j p.1=false:=by
    cases b:AI j p.1 with
    |false=>rfl
    |true=>have:=h.1 p.1 (AH.2 ⟨p,hp,rfl⟩);exact absurd b this
   simp only[gW,a,cond_false];exact bX h.2 p hp
theorem nC{R:Type}{C:Nat->St->Option R}{Γ:aG}{n:Nat}{b:IR}{K a:Ex->St->Option R}(h:∀p∈cT Γ n b K,C p.1=p.2)(e:a=K):kseq (c8 C Γ n b) a=kseq (run Γ n b) K:=by
 subst e;funext e s;cases e with
 |normal=>exact aw6 b a h s
 |_=>rfl
theorem ew{R:Type}{i:Nat}{K a:Ex->St->Option R}(e:a=K):aQ i a=aQ i K:=by rw[e]
theorem ij{R:Type}{a:St->Option R}{b:List Nat}{m:Nat}{K c:Ex->St->Option R}(e:c=K):bo a b m c=bo a b m K:=by rw[e]
theorem dI{R:Type}{C:Nat->St->Option R}{l a:List (Nat×(St->Option R))}(h:∀p∈l++a,C p.1=p.2):∀p∈l,C p.1=p.2:=λp hp=>h p (BM _ hp)
theorem jY{R:Type}{C:Nat->St->Option R}{l a:List (Nat×(St->Option R))}(h:∀p∈l++a,C p.1=p.2):∀p∈a,C p.1=p.2:=λp hp=>h p (Cj _ hp)
theorem eI{R:Type}{C:Nat->St->Option R}{Γ:aG}{n:Nat}{ir:IR}{K a:Ex->St->Option R}(h:∀p∈cT Γ n ir K,C p.1=p.2)(e:a=K)(s:St):run Γ n ir K s=c8 C Γ n ir a s:=by subst e;exact(aw6 ir a h s).symm
abbrev Ro:=Option (V×List aK)
abbrev Bs:=List UInt8
abbrev Bss:=List (List UInt8)
def U(n:Nat)(l:List V):List V:=Cy n .undef++l
def Pp(o:IOp):GOp:=⟨none,o,none⟩
def Mv(d x:Nat):GOp:=⟨none,.mov d (.t x),none⟩
def Fa(d o x:Nat):GOp:=⟨none,.fad d o (.t x),none⟩
def Ld(d n:Nat)(a:Bool)(x:Nat):GOp:=⟨none,.lde d n a (.t x),none⟩
def Pa(d c x:Nat):GOp:=⟨none,.pick d (.t c) (.t x) (.c (.bool false)),none⟩
def Po(d c x:Nat):GOp:=⟨none,.pick d (.t c) (.c (.bool true)) (.t x),none⟩
def Bi(d:Nat)(o:BinOp)(x y:Nat):GOp:=⟨none,.bin d o (.t x) (.t y),none⟩
def Bc(d:Nat)(o:BinOp)(x:Nat)(n:Int):GOp:=⟨none,.bin d o (.t x) (.c (.int .i64 n)),none⟩
def Ex_(d i x:Nat):GOp:=⟨none,.ext d i (.t x),none⟩
def Nk(d x:Nat):GOp:=⟨none,.nck (some d) (.t x),none⟩
instance (n:Nat):OfNat ASrc n:=⟨.t n⟩
instance (n:Nat):OfNat (Option Nat) n:=⟨some n⟩
def Rg(l:List GOp):IR:=.reg l []
def Rs(l:List GOp)(a:IR):IR:=.seq (.reg l []) a
def Sq(a b:IR):IR:=.seq a b
def Cn(c:Nat)(a b:IR):IR:=.cond (.t c) a b
def Gt(g:Nat)(o:IOp):GOp:=⟨some (g,true),o,none⟩
def Gf(g:Nat)(o:IOp):GOp:=⟨some (g,false),o,none⟩
def Fo(r w:List Nat)(o:IOp):GOp:=⟨none,o,some (r,w)⟩
def Mi(d:Nat)(n:Int):GOp:=⟨none,.mov d (.c (.int .i64 n)),none⟩
def Ms(d:Nat)(s:List UInt8):GOp:=⟨none,.mov d (.c (.str s)),none⟩
def Mb(d:Nat)(b:Bool):GOp:=⟨none,.mov d (.c (.bool b)),none⟩
def Lq(d x:Nat):GOp:=⟨none,.lde d 1 false (.t x),none⟩
def Lo(d x:Nat):GOp:=⟨none,.ld d 1 false false (.t x),none⟩
def Ca(d f:Nat)(l:List ASrc):GOp:=⟨none,.call (some d) f l,none⟩
def Ix(d:Nat)(k:EK)(x i:Nat):GOp:=⟨none,.ixa d k (.t x) (.t i),none⟩
def Ll(d x:Nat):GOp:=⟨none,.lenl d (.t x),none⟩
def Un(d x:Nat):GOp:=⟨none,.un d .not (.t x),none⟩
def Bx(d x:Nat):GOp:=⟨none,.boxe d (.t x),none⟩
def Fz(r n v:Nat):GOp:=⟨none,.frz none r n (.t v),none⟩
def Sv(n x v:Nat):GOp:=⟨none,.st none n (.t x) (.t v),none⟩
def Sk(n x v:Nat):GOp:=⟨none,.st none n (.t x) (.tk v),none⟩
def kI(n:Int):ASrc:=.c (.int .i64 n)
def kU(n:Int):ASrc:=.c (.int .u64 n)
def kS(s:List UInt8):ASrc:=.c (.str s)
def kB(b:Bool):ASrc:=.c (.bool b)
abbrev TS:=St->Ro
abbrev TE:=Ex->TS
abbrev TR:=IR->TE->TS
abbrev vI(n:Int):V:=.int .i64 n
abbrev vU(n:Int):V:=.int .u64 n
abbrev vS:V:=.str []
abbrev vB(b:Bool):V:=.bool b
abbrev vT(s:List UInt8):V:=.str s
abbrev vF(k:EK)(xs:List (Ty k)):V:=.sl k (.may false) xs
abbrev vO(k:EK)(xs:List (Ty k)):V:=.sl k .own xs
def nl(k:EK):V:=.sl k .own []
def fu(k:EK)(b:Bool):V:=.sl k (.may b) []
def rg(a b:Nat):List Nat:=C5 a (b+1-a)
theorem bD{Γ:aG}{N n:Nat}{rs:List RV}{ir:IR}{vs:List V}{hp:List aK}(l:List (Nat×(St->Ro)))(b:akE (l.map CC)=true)(e:l=cT Γ N ir (fin rs)++[])
  (S:(Nat->St->Ro)->Ro) (a:∀C,c8 C Γ N ir (fin rs) (AM.start n vs hp)=S C):callF Γ N n rs ir vs hp=S (gW l):=by
 refine AB ?_ (a _);exact(aw6 ir (fin rs) (λp hp=>bX b p (by rw[e];exact BM _ hp)) _).symm
section
variable{P:Program}
theorem aqY{f:FuncId}{vs:List V}{a v:V}{R:Type}[Inhabited R]{C:R->Prop}(h:some (can C,a)=some (true,v))(k:C (pick C)->aH P f vs a)(b:vs.all V.flat=true)(d:a.flatU=true):
  aH P f vs v∧vs.all V.flat=true∧v.flatU=true:=by
 simp only[Ae,Aj] at h;obtain⟨c,rfl⟩:=h;exact⟨k (aob c),b,d⟩
theorem aqZ{f:FuncId}{vs:List V}{a v:V}{css cs b:List (List V)}{R:Type}[Inhabited R]{C:R->Prop}(h:some (can C,a,cs)=some (true,v,b))(k:C (pick C)->bv P f vs css a cs):bv P f vs css v b:=by simp only[Ae,Aj] at h;obtain⟨c,rfl,rfl⟩:=h;exact k (aob c)
theorem aq0{f:FuncId}{vs cs a:List V}{R:Type}[Inhabited R]{C:R->Prop}(h:some (can C,cs)=some (true,a))(k:C (pick C)->xj P f vs cs):xj P f vs a:=by simp only[Ae,Aj] at h;obtain⟨b,rfl⟩:=h;exact k (aob b)
end
structure bq(P:Program) where
 id:Nat
 t:List V->Option (Bool×V)
 ok:∀vs v,t vs=some (true,v)->aH P id vs v∧vs.all V.flat=true∧v.flatU=true:=by (intro _ _ h;split at h;(first|exact aqY h (λh=>h.1.dim rfl) rfl rfl|exact aqY h (λh=>h.dim rfl) rfl rfl|exact aqY h (λh=>h.1) rfl rfl|exact aqY h (λh=>h) rfl rfl);cases h)
structure db(P:Program) where
 id:Nat
 t:List V->List (List V)->Option (Bool×V×List (List V))
 ok:∀us css v css',t us css=some (true,v,css')->bv P id us css v css':=by (intro _ _ _ _ h;split at h;(first|exact aqZ h (λh=>h.1.dim rfl)|exact aqZ h (λh=>h.dim rfl)|exact aqZ h (λh=>h.1)|exact aqZ h (λh=>h));cases h)
structure afV(P:Program) where
 id:Nat
 t:List V->Option (Bool×List V)
 ok:∀us cs,t us=some (true,cs)->xj P id us cs:=by (intro _ _ h;split at h;(first|exact aq0 h (λh=>h.1.dim rfl)|exact aq0 h (λh=>h.dim rfl)|exact aq0 h (λh=>h.1)|exact aq0 h (λh=>h));cases h)
section
variable{P:Program}
def akF:List (bq P)->Nat->List V->Option (Bool×V)
 | [],_,_=>none
 |r::l,f,vs=>cond (AI r.id f) (r.t vs) (akF l f vs)
def atm:List (db P)->auS
 | [],_,_,_=>none
 |r::l,f,us,css=>cond (AI r.id f) (r.t us css) (atm l f us css)
def atn:List (afV P)->aBQ
 | [],_,_=>none
 |r::l,f,us=>cond (AI r.id f) (r.t us) (atn l f us)
theorem aw7:∀(l:List (bq P)) f vs v,akF l f vs=some (true,v)->aH P f vs v∧vs.all V.flat=true∧v.flatU=true
 | [],_,_,_,h=>by simp[akF] at h
 |r::l,f,vs,v,h=>by
  unfold akF at h;cases a:AI r.id f with
  |true=>rw[a] at h;have e:r.id=f:=AE a;subst e;exact r.ok vs v h
  |false=>rw[a] at h;exact aw7 l f vs v h
theorem aGx:∀(l:List (db P)) f us css v css',atm l f us css=some (true,v,css')->bv P f us css v css'
 | [],_,_,_,_,_,h=>by simp[atm] at h
 |r::l,f,us,css,v,css',h=>by
  unfold atm at h;cases a:AI r.id f with
  |true=>rw[a] at h;have e:r.id=f:=AE a;subst e;exact r.ok _ _ _ _ h
  |false=>rw[a] at h;exact aGx l f us css v css' h
theorem aGy:∀(l:List (afV P)) f us cs,atn l f us=some (true,cs)->xj P f us cs
 | [],_,_,_,h=>by simp[atn] at h
 |r::l,f,us,cs,h=>by
  unfold atn at h;cases a:AI r.id f with
  |true=>rw[a] at h;have e:r.id=f:=AE a;subst e;exact r.ok _ _ h
  |false=>rw[a] at h;exact aGy l f us cs h
theorem azm:∀(l:List (db P)) f us css,(∀r∈l,r.id≠f)->atm l f us css=none
 | [],_,_,_,_=>rfl
 |r::l,f,us,css,h=>by
  unfold atm;have a:AI r.id f=false:=by
   cases a:AI r.id f with
   |true=>exact absurd (AE a) (h r (by simp))
   |false=>rfl
  rw[a];exact azm l f us css λr b=>h r (by simp[b])
theorem aof:∀(l:List (afV P)) f us,(∀r∈l,r.id≠f)->atn l f us=none
 | [],_,_,_=>rfl
 |r::l,f,us,h=>by
  unfold atn;have a:AI r.id f=false:=by
   cases a:AI r.id f with
   |true=>exact absurd (AE a) (h r (by simp))
   |false=>rfl
  rw[a];exact aof l f us λr b=>h r (by simp[b])
theorem ato(l:List (bq P)):bC P (fa (akF l)):=by intro f vs hp v hp' c;obtain⟨h,e⟩:=du c;subst e;obtain⟨a,b,d⟩:=aw7 l f vs v h;exact a.frameR b d _
def tab(N:List (afV P))(O:List (db P))(a:List Nat)(G:List (bq P)):aG:=ahr (atn N) (wz (atm O) (zx a (akF G) (fa (akF G))))
theorem auV(N:List (afV P))(O:List (db P))(a:List Nat)(G:List (bq P)):bC P (tab N O a G):=
 aKb (aGy N) (aIA (aGx O) (aJ9 (λf vs v h=>(aw7 G f vs v h).1) (ato G)))
def aw8(N:List (afV P))(O:List (db P))(a imp:List Nat):Bool:=
 N.all (λr=>imp.contains r.id&& !imp.contains (r.id+2000000))&&O.all (λr=>imp.contains r.id)&&(a++imp.filter (λx=> !Nat.blt x 2000000)).all (λx=>imp.contains x)
theorem akG{N:List (afV P)}{O:List (db P)}{d:List Nat}{G:List (bq P)}{imp:List Nat}(h:aw8 N O d imp=true):co (tab N O d G) imp:=by
 simp only[aw8,Ac,Aw,BE] at h;obtain⟨⟨c,e⟩,l⟩:=h;refine aHe (λf us a=>aof N f us ?_) (λf us a=>aof N f us ?_) (aE7 (λf us css a=>azm O f us css ?_) (aHd (cR _ _) (Aw.2 l) ?_));·rintro r b rfl;rw[(c r b).1] at a;cases a
 ·rintro r b rfl;rw[(c r b).2] at a;cases a
 ·rintro r b rfl;rw[e r b] at a;cases a
 ·refine Aw.2 λx i=>?_
  cases j:C6 x 2000000 with
  |true=>rfl
  |false=>simp only[CE];rw[Dt];exact List.mem_filter.2 ⟨i,by simp[j]⟩
end
structure FnC(P:Program)(Γ:aG)(imp:List Nat)(k:Nat)(f:FuncId)(fn:Func)(ir:IR)(rs:List RV):Prop where
 spec:bC P Γ
 imps:co Γ imp
 func:P.funcs[f]? =some fn
 body:fn.body=some (fn.body.getD .skip)
 chk:(bL P imp k ir (fn.body.getD .skip)&&dy P rs fn.results.toList)=true
 small:fn.results.toList.length<=5
section
variable{P:Program}{Γ:aG}{imp:List Nat}{k n:Nat}{f:FuncId}{fn:Func}{ir:IR}{rs:List RV}{vs:List V}{x:Ro}
theorem FnC.fnOK(h:FnC P Γ imp k f fn ir rs){hp hp':List aK}{v:V}(c:hp.length=k)(b:callF Γ n fn.ntmps rs ir vs hp=some (v,hp')):fS P f vs hp v hp':=by subst c;have a:=h.chk;simp only[Ac] at a;exact eu h.spec h.imps h.func h.body a.1 a.2 h.small b
theorem FnC.pure(h:FnC P Γ imp 0 f fn ir rs)(b:callF Γ n fn.ntmps rs ir vs []=x){v:V}{hp':List aK}(a:x=some (v,hp')):aH P f vs v:=⟨hp',h.fnOK rfl (b.trans a)⟩
theorem FnC.newFn(h:FnC P Γ imp 0 f fn ir rs)(b:callF Γ n fn.ntmps rs ir vs []=x){cs:List V}(a:x=some (.ptr 0 0,[some cs])):xj P f vs cs:=h.fnOK rfl (b.trans a)
theorem FnC.objs{css css':List (List V)}{rest:List aK}(h:FnC P Γ imp css.length f fn ir rs)(b:callF Γ n fn.ntmps rs ir vs (css.map some)=x){v:V}(a:x=some (v,css'.map some++rest))(c:css'.length=css.length):
  bv P f vs css v css':=⟨c,rest,h.fnOK (by simp) (b.trans a)⟩
section
variable{N:Nat}{R:Type}{ret:R->V}{p:R->Prop}{Q:V×List aK->Prop}
theorem FnC.finP(h:FnC P Γ imp 0 f fn ir rs)(b:callF Γ N fn.ntmps rs ir vs []=x)(d:Tot x Q)(k:∀z,Q z->∃r,z.1.dimR=ret r∧p r):∃r,aH P f vs (ret r)∧p r:=by obtain⟨z,a,c⟩:=d;obtain⟨r,e,hp⟩:=k z c;exact⟨r,(h.pure b a).dimR e,hp⟩
theorem FnC.finP0(h:FnC P Γ imp 0 f fn ir rs)(b:callF Γ N fn.ntmps rs ir vs []=x)(d:Tot x Q)(k:∀z,Q z->∃r,z.1.dimR=ret r):∃r,aH P f vs (ret r):=by obtain⟨z,a,c⟩:=d;obtain⟨r,e⟩:=k z c;exact⟨r,(h.pure b a).dimR e⟩
variable{css:List (List V)}{css':R->List (List V)}
theorem FnC.finO(h:FnC P Γ imp css.length f fn ir rs)(c:callF Γ N fn.ntmps rs ir vs (css.map some)=x)(i:Tot x Q)(k:∀z,Q z->∃r,z.1.dimR=ret r∧(∃rest,z.2=(css' r).map some++rest)∧p r)(j:∀r,(css' r).length=css.length:=by exactλ_=>rfl):
  ∃r,bv P f vs css (ret r) (css' r)∧p r:=by
 obtain⟨⟨v,hp⟩,b,d⟩:=i;obtain⟨r,e,⟨rest,a⟩,hp⟩:=k _ d;simp only at a;subst a;exact⟨r,(h.objs c b (j r)).dimR e,hp⟩
end
abbrev LB{α R:Type}(F:(St->Option R)->St->Option R)(mk:α->St)(B:(α->Option R)->α->Option R):Prop:=∀a x,F a (mk x)=B (λy=>a (mk y)) x
abbrev LJ{α R:Type}(F:St->Option R)(mk:α->St)(J:α->Option R):Prop:=∀x,F (mk x)=J x
theorem fnC{N:List (afV P)}{O:List (db P)}{c:List Nat}{G:List (bq P)}(a:P.funcs[f]? =some fn)(h:aw8 N O c imp=true:=by kernel_rfl)(b:fn.body=some (fn.body.getD .skip):=by kernel_rfl)
  (chk:(bL P imp k ir (fn.body.getD .skip)&&dy P rs fn.results.toList)=true:=by kernel_rfl) (small:fn.results.toList.length<=5:=by decide):FnC P (tab N O c G) imp k f fn ir rs:=⟨auV N O c G,akG h,a,b,chk,small⟩
end
theorem aM1{α:Type}{a:α}(x:{r // a=r}):x.1=a:=x.2.symm
def aNB(b:Nat)(a:ASrc)(Γ:aG)(s:St):{r // step Γ (.mov b a) s=r}:=⟨_,by unfold step;exact rfl⟩
def aM2(a:Nat)(d b c:ASrc)(Γ:aG)(s:St):{r // step Γ (.pick a d b c) s=r}:=⟨_,by unfold step;exact rfl⟩
def aNC(a:Nat)(d:BinOp)(b c:ASrc)(Γ:aG)(s:St):{r // step Γ (.bin a d b c) s=r}:=⟨_,by unfold step;exact rfl⟩
def aOo(c:Nat)(a:UnOp)(b:ASrc)(Γ:aG)(s:St):{r // step Γ (.un c a b) s=r}:=⟨_,by unfold step;exact rfl⟩
def aND(c:Nat)(a:IntKind)(b:ASrc)(Γ:aG)(s:St):{r // step Γ (.cvi c a b) s=r}:=⟨_,by unfold step;exact rfl⟩
def aNE(b:Nat)(a:ASrc)(Γ:aG)(s:St):{r // step Γ (.s2b b a) s=r}:=⟨_,by unfold step;exact rfl⟩
def aNF(b:Nat)(a:ASrc)(Γ:aG)(s:St):{r // step Γ (.b2s b a) s=r}:=⟨_,by unfold step;exact rfl⟩
def aM3(b:Nat)(a:ASrc)(Γ:aG)(s:St):{r // step Γ (.lens b a) s=r}:=⟨_,by unfold step;exact rfl⟩
def aM4(b:Nat)(a:ASrc)(Γ:aG)(s:St):{r // step Γ (.lenl b a) s=r}:=⟨_,by unfold step;exact rfl⟩
def aNG(c:Nat)(a b:ASrc)(Γ:aG)(s:St):{r // step Γ (.idx c a b) s=r}:=⟨_,by unfold step;exact rfl⟩
def aNH(a:Nat)(d:EK)(b c:ASrc)(Γ:aG)(s:St):{r // step Γ (.ixa a d b c) s=r}:=⟨_,by unfold step;exact rfl⟩
def aM5(a:Nat)(d:ASrc)(b c:Option ASrc)(Γ:aG)(s:St):{r // step Γ (.subs a d b c) s=r}:=⟨_,by unfold step;exact rfl⟩
def aM6(e:Nat)(a:EK)(b:ASrc)(c d:Option ASrc)(Γ:aG)(s:St):{r // step Γ (.subl e a b c d) s=r}:=⟨_,by unfold step;exact rfl⟩
def aNI(a:Nat)(d:EK)(b:List ASrc)(c:Bool)(Γ:aG)(s:St):{r // step Γ (.bsl a d b c) s=r}:=⟨_,by unfold step;exact rfl⟩
def aNJ(c:Nat)(a:List V)(b:List (Nat×Nat×ASrc))(Γ:aG)(s:St):{r // step Γ (.bld c a b) s=r}:=⟨_,by unfold step;exact rfl⟩
def aNK(e a b:Nat)(c:Bool)(d:ASrc)(Γ:aG)(s:St):{r // step Γ (.fld e a b c d) s=r}:=⟨_,by unfold step;exact rfl⟩
def aNL(b:Nat)(a:List V)(Γ:aG)(s:St):{r // step Γ (.new b a) s=r}:=⟨_,by unfold step;exact rfl⟩
def aNM(b:Nat)(a:ASrc)(Γ:aG)(s:St):{r // step Γ (.box b a) s=r}:=⟨_,by unfold step;exact rfl⟩
def aM7(b:Nat)(a:List V)(Γ:aG)(s:St):{r // step Γ (.newb b a) s=r}:=⟨_,by unfold step;exact rfl⟩
def aNN(c a:Nat)(b:ASrc)(Γ:aG)(s:St):{r // step Γ (.fad c a b) s=r}:=⟨_,by unfold step;exact rfl⟩
def aOp(e a:Nat)(b c:Bool)(d:ASrc)(Γ:aG)(s:St):{r // step Γ (.ld e a b c d) s=r}:=⟨_,by unfold step;exact rfl⟩
def aOq(a:Option Nat)(d:Nat)(b c:ASrc)(Γ:aG)(s:St):{r // step Γ (.st a d b c) s=r}:=⟨_,by unfold step;exact rfl⟩
def aNO(a:Nat)(d:EK)(b c:ASrc)(Γ:aG)(s:St):{r // step Γ (.app a d b c) s=r}:=⟨_,by unfold step;exact rfl⟩
def aM8(c:Nat)(a b:ASrc)(Γ:aG)(s:St):{r // step Γ (.apps c a b) s=r}:=⟨_,by unfold step;exact rfl⟩
def aNP(a c:Nat)(b:ASrc)(Γ:aG)(s:St):{r // step Γ (.ext a c b) s=r}:=⟨_,by unfold step;exact rfl⟩
def aNQ(b:Option Nat)(a:ASrc)(Γ:aG)(s:St):{r // step Γ (.nck b a) s=r}:=⟨_,by unfold step;exact rfl⟩
def aM9(c:Option Nat)(a:Nat)(b:List ASrc)(Γ:aG)(s:St):{r // step Γ (.call c a b) s=r}:=⟨_,by unfold step;exact rfl⟩
def aOr(a:Nat)(d:Bool)(b c:ASrc)(Γ:aG)(s:St):{r // step Γ (.mx a d b c) s=r}:=⟨_,by unfold step;exact rfl⟩
def aNa(b:Nat)(a:ASrc)(Γ:aG)(s:St):{r // step Γ (.boxe b a) s=r}:=⟨_,by unfold step;exact rfl⟩
def aNR(b a:Nat)(Γ:aG)(s:St):{r // step Γ (.alr b a) s=r}:=⟨_,by unfold step;exact rfl⟩
def aNS(a:Option Nat)(d b:Nat)(c:ASrc)(Γ:aG)(s:St):{r // step Γ (.frz a d b c) s=r}:=⟨_,by unfold step;exact rfl⟩
def aNT(a:Option Nat)(d b:Nat)(c:ASrc)(Γ:aG)(s:St):{r // step Γ (.pub a d b c) s=r}:=⟨_,by unfold step;exact rfl⟩
def aNU(a d:Nat)(b:Bool)(c:ASrc)(Γ:aG)(s:St):{r // step Γ (.lde a d b c) s=r}:=⟨_,by unfold step;exact rfl⟩
def aNV(c a:Nat)(b:List ASrc)(Γ:aG)(s:St):{r // step Γ (.mkf c a b) s=r}:=⟨_,by unfold step;exact rfl⟩
def aLA(a:Option Nat)(d:Nat)(b:ASrc)(c:List ASrc)(Γ:aG)(s:St):{r // step Γ (.dcall a d b c) s=r}:=⟨_,by unfold step;exact rfl⟩
def aNW(a:Nat)(d:EK)(b c:ASrc)(Γ:aG)(s:St):{r // step Γ (.apu a d b c) s=r}:=⟨_,by unfold step;exact rfl⟩
def aNX(b:Nat)(a:EK)(Γ:aG)(s:St):{r // step Γ (.blu b a) s=r}:=⟨_,by unfold step;exact rfl⟩
def aNb(b:Nat)(a:ASrc)(Γ:aG)(s:St):{r // step Γ (.snil b a) s=r}:=⟨_,by unfold step;exact rfl⟩
def aNY(b:Nat)(a:ASrc)(Γ:aG)(s:St):{r // step Γ (.lnw b a) s=r}:=⟨_,by unfold step;exact rfl⟩
def aNZ(a:Nat)(d:EK)(b c:ASrc)(Γ:aG)(s:St):{r // step Γ (.ixw a d b c) s=r}:=⟨_,by unfold step;exact rfl⟩
def aN0(c a:Nat)(b:ASrc)(Γ:aG)(s:St):{r // step Γ (.fdw c a b) s=r}:=⟨_,by unfold step;exact rfl⟩
def aN1(a d:Nat)(b:Bool)(c:ASrc)(Γ:aG)(s:St):{r // step Γ (.ldw a d b c) s=r}:=⟨_,by unfold step;exact rfl⟩
def aN2(a:Option Nat)(d:Nat)(b c:ASrc)(Γ:aG)(s:St):{r // step Γ (.stw a d b c) s=r}:=⟨_,by unfold step;exact rfl⟩
def aN3(b:Nat)(a:MK)(Γ:aG)(s:St):{r // step Γ (.mkm b a) s=r}:=⟨_,by unfold step;exact rfl⟩
def aNc(e:Nat)(a:MK)(b:Bool)(c d:ASrc)(Γ:aG)(s:St):{r // step Γ (.mget e a b c d) s=r}:=⟨_,by unfold step;exact rfl⟩
def aNd(e:Option Nat)(a:MK)(b c d:ASrc)(Γ:aG)(s:St):{r // step Γ (.mput e a b c d) s=r}:=⟨_,by unfold step;exact rfl⟩
def aN4(a d:Nat)(b c:ASrc)(Γ:aG)(s:St):{r // step Γ (.ixe a d b c) s=r}:=⟨_,by unfold step;exact rfl⟩
def aN5(c:Nat)(a:IntKind)(b:Nat)(Γ:aG)(s:St):{r // step Γ (.arw c a b) s=r}:=⟨_,by unfold step;exact rfl⟩
def aN6(a:Nat)(d:EK)(b c:ASrc)(Γ:aG)(s:St):{r // step Γ (.apo a d b c) s=r}:=⟨_,by unfold step;exact rfl⟩
def aN7(c:Option Nat)(a b:ASrc)(Γ:aG)(s:St):{r // step Γ (.stn c a b) s=r}:=⟨_,by unfold step;exact rfl⟩
def aN8(b:Nat)(a:ASrc)(Γ:aG)(s:St):{r // step Γ (.ldn b a) s=r}:=⟨_,by unfold step;exact rfl⟩
def aN9(c:Option Nat)(a:ASrc)(b:Nat)(Γ:aG)(s:St):{r // step Γ (.stu c a b) s=r}:=⟨_,by unfold step;exact rfl⟩
def aHf(o:IOp):aG->St->Option (Bool×St):=match o with
 | .mov b a=>λΓ s=>(aNB b a Γ s).1
 | .pick b a c d=>λΓ s=>(aM2 b a c d Γ s).1
 | .bin b a c d=>λΓ s=>(aNC b a c d Γ s).1
 | .un b a c=>λΓ s=>(aOo b a c Γ s).1
 | .cvi b a c=>λΓ s=>(aND b a c Γ s).1
 | .s2b b a=>λΓ s=>(aNE b a Γ s).1
 | .b2s b a=>λΓ s=>(aNF b a Γ s).1
 | .lens b a=>λΓ s=>(aM3 b a Γ s).1
 | .lenl b a=>λΓ s=>(aM4 b a Γ s).1
 | .idx b a c=>λΓ s=>(aNG b a c Γ s).1
 | .ixa b a c d=>λΓ s=>(aNH b a c d Γ s).1
 | .subs b a c d=>λΓ s=>(aM5 b a c d Γ s).1
 | .subl b a c d e=>λΓ s=>(aM6 b a c d e Γ s).1
 | .bsl b a c d=>λΓ s=>(aNI b a c d Γ s).1
 | .bld b a c=>λΓ s=>(aNJ b a c Γ s).1
 | .fld b a c d e=>λΓ s=>(aNK b a c d e Γ s).1
 | .new b a=>λΓ s=>(aNL b a Γ s).1
 | .box b a=>λΓ s=>(aNM b a Γ s).1
 | .newb b a=>λΓ s=>(aM7 b a Γ s).1
 | .fad b a c=>λΓ s=>(aNN b a c Γ s).1
 | .ld b a c d e=>λΓ s=>(aOp b a c d e Γ s).1
 | .st b a c d=>λΓ s=>(aOq b a c d Γ s).1
 | .app b a c d=>λΓ s=>(aNO b a c d Γ s).1
 | .apps b a c=>λΓ s=>(aM8 b a c Γ s).1
 | .ext b a c=>λΓ s=>(aNP b a c Γ s).1
 | .nck b a=>λΓ s=>(aNQ b a Γ s).1
 | .call b a c=>λΓ s=>(aM9 b a c Γ s).1
 | .mx b a c d=>λΓ s=>(aOr b a c d Γ s).1
 | .boxe b a=>λΓ s=>(aNa b a Γ s).1
 | .alr b a=>λΓ s=>(aNR b a Γ s).1
 | .frz b a c d=>λΓ s=>(aNS b a c d Γ s).1
 | .pub b a c d=>λΓ s=>(aNT b a c d Γ s).1
 | .lde b a c d=>λΓ s=>(aNU b a c d Γ s).1
 | .mkf b a c=>λΓ s=>(aNV b a c Γ s).1
 | .dcall b a c d=>λΓ s=>(aLA b a c d Γ s).1
 | .apu b a c d=>λΓ s=>(aNW b a c d Γ s).1
 | .blu b a=>λΓ s=>(aNX b a Γ s).1
 | .snil b a=>λΓ s=>(aNb b a Γ s).1
 | .lnw b a=>λΓ s=>(aNY b a Γ s).1
 | .ixw b a c d=>λΓ s=>(aNZ b a c d Γ s).1
 | .fdw b a c=>λΓ s=>(aN0 b a c Γ s).1
 | .ldw b a c d=>λΓ s=>(aN1 b a c d Γ s).1
 | .stw b a c d=>λΓ s=>(aN2 b a c d Γ s).1
 | .mkm b a=>λΓ s=>(aN3 b a Γ s).1
 | .mget b a c d e=>λΓ s=>(aNc b a c d e Γ s).1
 | .mput b a c d e=>λΓ s=>(aNd b a c d e Γ s).1
 | .ixe b a c d=>λΓ s=>(aN4 b a c d Γ s).1
 | .arw b a c=>λΓ s=>(aN5 b a c Γ s).1
 | .apo b a c d=>λΓ s=>(aN6 b a c d Γ s).1
 | .stn b a c=>λΓ s=>(aN7 b a c Γ s).1
 | .ldn b a=>λΓ s=>(aN8 b a Γ s).1
 | .stu b a c=>λΓ s=>(aN9 b a c Γ s).1
theorem aKc(Γ:aG)(o:IOp)(s:St):aHf o Γ s=step Γ o s:=by cases o<;>exact aM1 _
section
variable{R:Type}
def aw9:Nat->List V->(List V->R)->R
 |0,l,k=>k l
 |_+1,[],k=>k []
 |n+1,a::l,k=>aw9 n l λb=>k (a::b)
def auW:List V->(List V->R)->R
 | [],k=>k []
 |a::l,k=>auW l λb=>k (a::b)
def aIE(o:aK)(k:aK->R):R:=match o with
 |none=>k none
 |some cs=>auW cs λc=>k (some c)
def aog:List aK->(List aK->R)->R
 | [],k=>k []
 |a::l,k=>aIE a λc=>aog l λb=>k (c::b)
def auX(n:Nat)(s:St)(k:St->R):R:=aw9 n s.env λe=>aog s.hp λh=>k ⟨e,h⟩
def rT(s:St)(k:St->R):R:=auW s.env λe=>aog s.hp λh=>k ⟨e,h⟩
theorem auY:∀(n:Nat)(l:List V)(k:List V->R),aw9 n l k=k l
 |0,_,_=>rfl
 |_+1,[],_=>rfl
 |n+1,a::l,k=>auY n l _
theorem aoh:∀(l:List V)(k:List V->R),auW l k=k l
 | [],_=>rfl
 |a::l,k=>aoh l _
theorem aIF(o:aK)(k:aK->R):aIE o k=k o:=by
 cases o with
 |none=>rfl
 |some cs=>exact aoh cs _
theorem aoi:∀(l:List aK)(k:List aK->R),aog l k=k l
 | [],_=>rfl
 |a::l,k=>by rw[aog,aIF,aoi l]
theorem aIG(n:Nat)(s:St)(k:St->R):auX n s k=k s:=by rw[auX,auY,aoi]
theorem qF(s:St)(k:St->R):rT s k=k s:=by rw[rT,aoh,aoi]
def aq1(o:IOp)(s:St)(k:St->Option R):Option R:=match o.dst with|some d=>auX (d+1) s k|none=>auX 0 s k
theorem aCr(o:IOp)(s:St)(k:St->Option R):aq1 o s k=k s:=by unfold aq1;cases o.dst<;>exact aIG _ _ _
def aoj(Γ:aG)(ob:Option (List Nat×List Nat))(o:IOp)(s:St):Option (Bool×St):=match ob with
 |none=>aHf o Γ s
 |some l=>cond (o.within l s) (aHf o Γ s) none
theorem azn(Γ:aG)(ob:Option (List Nat×List Nat))(o:IOp)(s:St):aoj Γ ob o s=stepO Γ ob o s:=by unfold aoj stepO;simp only[aKc];rfl
def sP(Γ:aG):List GOp->(St->Option R)->St->Option R
 | [],K,s=>K s
 |⟨none,o,ob⟩::r,K,s=>match aoj Γ ob o s with
  |some (c,s')=>chk c (aq1 o s' (sP Γ r K))
  |none=>none
 |⟨some (g,w),o,ob⟩::r,K,s=>match s.get g with
  | .bool b=>cond b
    (match w with
     |true=>match aoj Γ ob o (s.set g (.bool true)) with
      |some (c,s')=>chk c (aq1 o s' (sP Γ r K))
      |none=>none
     |false=>rT ((s.set g (.bool true)).setO o.dst (.tup [])) (sP Γ r K))
    (match w with
     |false=>match aoj Γ ob o (s.set g (.bool false)) with
      |some (c,s')=>chk c (aq1 o s' (sP Γ r K))
      |none=>none
     |true=>rT ((s.set g (.bool false)).setO o.dst (.tup [])) (sP Γ r K))
  | .tup []=>aq1 o (s.setO o.dst (.tup [])) (sP Γ r K)
  |_=>none
theorem akH(Γ:aG):∀(l:List GOp)(K:St->Option R)(s:St),sP Γ l K s=runOps Γ l K s
 | [],_,_=>rfl
 |⟨none,o,ob⟩::r,K,s=>by
  simp only[sP,runOps,azn];cases stepO Γ ob o s with
  |none=>rfl
  |some p=>simp only[aCr,akH Γ r K]
 |⟨some (g,w),o,ob⟩::r,K,s=>by simp only[sP,runOps,azn,aCr,qF,akH Γ r K];rfl
def aCs(g:gm)(K:Ex->St->Option R):Ex->St->Option R
 | .normal,s=>match g.step s with
   |some (c,s')=>chk c (rT s' (K .normal))
   |none=>none
 |e,s=>K e s
def aCt(a:St->Option R)(b:List Nat)(n:Nat)(K:Ex->St->Option R):Ex->St->Option R
 | .normal,s=>rT (s.keep b n) a
 |e,s=>K e s
def oT(Γ:aG)(n:Nat):IR->(Ex->St->Option R)->St->Option R
 | .skip,K,s=>K .normal s
 | .bad,_,_=>none
 | .reg f _,K,s=>sP Γ f (K .normal) s
 | .seq a b,K,s=>oT Γ n a (kseq (oT Γ n b) K) s
 | .cond c a b,K,s=>match c.ev s with
   | .bool t=>cond t (oT Γ n a K s) (oT Γ n b K s)
   |_=>none
 | .block id a,K,s=>oT Γ n a (aQ id K) s
 | .loop d m a,K,s=>rT (s.keep d m) (aZ n (λe s=>oT Γ n a (aCt e d m K) s))
 | .cut d m a,K,s=>rT (s.keep d m) (oT Γ n a K)
 | .gh g a,K,s=>match g.step s with
   |some (c,s')=>chk c (rT s' (oT Γ n a K))
   |none=>none
 | .ope o a,K,s=>cond (aGT s o) (match (gm.fz o).step s with
   |some (c,s')=>chk c (rT s' (oT Γ n a K))
   |none=>none) (match (gm.opn o).step s with
   |some (c,s')=>chk c (rT s' (oT Γ n a K))
   |none=>none)
 | .ghp g a,K,s=>oT Γ n a (aCs g K) s
 | .exit id,K,s=>K (.exit id) s
 | .ret,K,s=>K .ret s
theorem aIH(g:gm)(K:Ex->St->Option R):aCs g K=aqS g K:=by funext e s;cases e<;>simp only[aCs,aqS,qF]<;>rfl
theorem aII(a:St->Option R)(b:List Nat)(n:Nat)(K:Ex->St->Option R):aCt a b n K=bo a b n K:=by funext e s;cases e<;>simp only[aCt,bo,qF]
theorem aLB(Γ:aG)(n:Nat):∀(j:IR)(K:Ex->St->Option R)(s:St),oT Γ n j K s=run Γ n j K s:=by
 intro j;induction j with
 |reg k l=>intro K s;exact akH Γ k _ s
 |seq a b d f=>
  intro K s;have e:(oT Γ n b:(Ex->St->Option R)->St->Option R)=run Γ n b:=by funext K s;exact f K s
  simp only[oT,run,e,d]
 |cond c a b d f=>
  intro K s;simp only[oT,run];cases h:c.ev s with
  |bool t=>
   simp only[d,f];cases t;·rw[ASrc.fix_eq h];rfl
   ·rw[ASrc.fix_eq h];rfl
  |_=>rfl
 |block id a d=>intro K s;exact d _ s
 |loop i m a d=>intro K s;simp only[oT,run,qF,aII,d]
 |cut i m a d=>intro K s;simp only[oT,run,qF,d]
 |gh g a d=>intro K s;simp only[oT,run,qF,d];rfl
 |ope o a d=>intro K s;simp only[oT,run,qF,d];rfl
 |ghp g a d=>intro K s;simp only[oT,run,aIH,d]
 |_=>intro K s;rfl
end
def pT(Γ:aG)(n a:Nat)(d:List RV)(c:IR)(b:List V)(hp:List aK):Ro:=rT (start a b hp) (oT Γ n c (fin d))
theorem aIJ(Γ:aG)(n a:Nat)(d:List RV)(c:IR)(b:List V)(hp:List aK):pT Γ n a d c b hp=callF Γ n a d c b hp:=by simp only[pT,callF,qF,aLB]
structure bP(P:Program)(imp:List Nat) where
 id:Nat
 k:Nat
 fn:Func
 ir:IR
 rs:List RV
 func:P.funcs[id]? =some fn
 body:fn.body=some (fn.body.getD .skip):=by kernel_rfl
 chk:(bL P imp k ir (fn.body.getD .skip)&&dy P rs fn.results.toList)=true:=by kernel_rfl
 small:fn.results.toList.length<=5:=by decide
section
variable{P:Program}{imp:List Nat}
abbrev Tab(P:Program)(imp:List Nat):={Γ:aG // bC P Γ∧co Γ imp}
theorem bP.ok(c:bP P imp)(Γ:Tab P imp){N:Nat}{vs:List V}{hp hp':List aK}{v:V}(a:hp.length=c.k)(h:pT Γ.1 N c.fn.ntmps c.rs c.ir vs hp=some (v,hp')):fS P c.id vs hp v hp':=
 (FnC.mk Γ.2.1 Γ.2.2 c.func c.body c.chk c.small).fnOK a ((aIJ ..).symm.trans h)
def aq2:List aK->Option (List (List V))
 | []=>some []
 |some c::l=>(aq2 l).map (c::·)
 |none::_=>none
theorem auZ:∀{l:List aK}{cs:List (List V)},aq2 l=some cs->l=cs.map some
 | [],cs,h=>by cases h;rfl
 |some c::l,cs,h=>by obtain⟨r,a,rfl⟩:=As.1 h;simp[auZ a]
 |none::l,cs,h=>by cases h
def aNe(vs:List V):Ro->Option (Bool×V)
 |some (v,_)=>cond (vs.all V.flat&&v.flatU) (some (true,v)) none
 |none=>none
def aNf(n:Nat):Ro->Option (Bool×V×List (List V))
 |some (v,hp)=>match aq2 (hp.take n) with
  |some cs=>cond (AI cs.length n) (some (true,v,cs)) none
  |none=>none
 |none=>none
def aNg:Ro->Option (Bool×List V)
 |some (.ptr 0 0,[some cs])=>some (true,cs)
 |_=>none
def bP.g(N:Nat)(Γ:Option (Tab P imp))(c:bP P imp):bq P where
 id:=c.id
 t vs:=match Γ with|some Γ=>cond (AI c.k 0) (aNe vs (pT Γ.1 N c.fn.ntmps c.rs c.ir vs [])) none|none=>none
 ok vs v h:=by
  cases Γ with
  |none=>cases h
  |some Γ=>
   cases hk:AI c.k 0 with
   |false=>simp[hk] at h
   |true=>
    simp only[hk,cond_true] at h;have hk:=AE hk;cases hr:pT Γ.1 N c.fn.ntmps c.rs c.ir vs [] with
    |none=>rw[hr] at h;cases h
    |some p=>
     obtain⟨v',hp'⟩:=p;rw[hr] at h;simp only[aNe] at h;cases hf:(vs.all V.flat&&v'.flatU) with
     |false=>rw[hf] at h;cases h
     |true=>rw[hf] at h;simp only[cond_true,Ae,Aj,true_and] at h;subst h;simp only[Ac] at hf;exact⟨⟨hp',c.ok Γ hk.symm hr⟩,hf⟩
def bP.o(N:Nat)(Γ:Option (Tab P imp))(c:bP P imp):db P where
 id:=c.id
 t vs css:=match Γ with|some Γ=>cond (AI css.length c.k) (aNf css.length (pT Γ.1 N c.fn.ntmps c.rs c.ir vs (css.map some))) none|none=>none
 ok vs css v css' h:=by
  cases Γ with
  |none=>cases h
  |some Γ=>
   cases hk:AI css.length c.k with
   |false=>simp[hk] at h
   |true=>
    simp only[hk,cond_true] at h;have hk:=AE hk;cases hr:pT Γ.1 N c.fn.ntmps c.rs c.ir vs (css.map some) with
    |none=>rw[hr] at h;cases h
    |some p=>
     obtain⟨v',hp'⟩:=p;rw[hr] at h;simp only[aNf] at h;cases ha:aq2 (hp'.take css.length) with
     |none=>rw[ha] at h;cases h
     |some cs=>
      rw[ha] at h;simp only at h;cases hl:AI cs.length css.length with
      |false=>rw[hl] at h;cases h
      |true=>rw[hl] at h;simp only[cond_true,Ae,Aj,true_and] at h;obtain⟨rfl,rfl⟩:=h;refine⟨AE hl,hp'.drop css.length,?_⟩;rw[<-auZ ha,BS];exact c.ok Γ (by simpa using hk) hr
def bP.n(N:Nat)(Γ:Option (Tab P imp))(c:bP P imp):afV P where
 id:=c.id
 t vs:=match Γ with|some Γ=>cond (AI c.k 0) (aNg (pT Γ.1 N c.fn.ntmps c.rs c.ir vs [])) none|none=>none
 ok vs cs h:=by
  cases Γ with
  |none=>cases h
  |some Γ=>
   cases hk:AI c.k 0 with
   |false=>simp[hk] at h
   |true=>
    simp only[hk,cond_true] at h;have hk:=AE hk;unfold aNg at h;split at h;·rename_i cs' hr;simp only[Ae,Aj,true_and] at h;subst h;exact c.ok Γ hk.symm hr
    ·cases h
structure xk(P:Program)(imp:List Nat) where
 n:List (bP P imp)
 o:List (bP P imp)
 ls:List Nat
 g:List (bP P imp)
 ok:(n.all (λr=>imp.contains r.id&& !imp.contains (r.id+2000000))&&o.all (λr=>imp.contains r.id)&&(ls++imp.filter (λx=> !Nat.blt x 2000000)).all (λx=>imp.contains x))=true:=by kernel_rfl
def xk.tab1(C:xk P imp)(N:Nat)(Γ:Option (Tab P imp)):Tab P imp:=
 ⟨tab (C.n.map (bP.n N Γ)) (C.o.map (bP.o N Γ)) C.ls (C.g.map (bP.g N Γ)),auV _ _ _ _,akG (by have:=C.ok;simp only[aw8,List.all_map];exact this)⟩
def xk.tab(C:xk P imp)(N:Nat):Nat->Tab P imp
 |0=>C.tab1 N none
 |n+1=>C.tab1 N (some (C.tab N n))
def aIK:Ro->Bool
 |some (.bool true,_)=>true
 |_=>false
theorem bP.true(c:bP P imp)(C:xk P imp)(N n:Nat)(b:c.k=0)(h:aIK (pT (C.tab N n).1 N c.fn.ntmps c.rs c.ir [] [])=true):aH P c.id [] (.bool true):=by
 unfold aIK at h;split at h;·rename_i hp a;exact⟨hp,c.ok _ b.symm a⟩
 ·cases h
end
section
variable{P:Program}{imp:List Nat}
def xk.tab1K(C:xk P imp)(N:Nat)(a:List (db P))(b:List (bq P))(h:a.all (λr=>imp.contains r.id)=true)(Γ:Option (Tab P imp)):Tab P imp:=
 ⟨Go.AM.tab (C.n.map (bP.n N Γ)) (a++C.o.map (bP.o N Γ)) C.ls (b++C.g.map (bP.g N Γ)),auV _ _ _ _,akG (by have:=C.ok;simp only[Ac,Dx] at this;simp only[aw8,Dx,List.all_map,Ac];exact⟨⟨this.1.1,h,this.1.2⟩,this.2⟩)⟩
def xk.tabK(C:xk P imp)(N:Nat)(a:List (db P))(b:List (bq P))(h:a.all (λr=>imp.contains r.id)=true):Nat->Tab P imp
 |0=>C.tab1K N a b h none
 |n+1=>C.tab1K N a b h (some (C.tabK N a b h n))
theorem bP.pureK(c:bP P imp)(C:xk P imp)(N n:Nat)(b:List (db P))(e:List (bq P))(h:b.all (λr=>imp.contains r.id)=Bool.true)(f:c.k=0){vs:List V}{v:V}(a:(pT (C.tabK N b e h n).1 N c.fn.ntmps c.rs c.ir vs []).map (·.1)=some v):aH P c.id vs v:=by
 cases d:pT (C.tabK N b e h n).1 N c.fn.ntmps c.rs c.ir vs [] with
 |none=>rw[d] at a;cases a
 |some p=>obtain⟨i,hp'⟩:=p;rw[d] at a;cases a;exact⟨hp',c.ok _ f.symm d⟩
theorem bP.objK(c:bP P imp)(C:xk P imp)(N n:Nat)(e:List (db P))(i:List (bq P))(h:e.all (λr=>imp.contains r.id)=Bool.true)(j:c.k=1){vs cs a:List V}{v:V}(b:(pT (C.tabK N e i h n).1 N c.fn.ntmps c.rs c.ir vs [some cs]).map (λp=>(p.1,p.2.headD none))=some (v,some a)):bv P c.id vs [cs] v [a]:=by
 cases f:pT (C.tabK N e i h n).1 N c.fn.ntmps c.rs c.ir vs [some cs] with
 |none=>rw[f] at b;cases b
 |some p=>
  obtain⟨l,hp'⟩:=p;rw[f] at b;simp only[BA,Ae,Aj] at b;obtain⟨rfl,d⟩:=b;cases hp' with
  |nil=>cases d
  |cons o rest=>have d:o=some a:=d;subst d;exact⟨rfl,rest,c.ok _ (by rw[j];rfl) f⟩
end
instance:Inhabited bF:=⟨aI .record⟩
instance:Inhabited Tok:=⟨aI .tok⟩
instance:Inhabited bM:=⟨aI .ffld⟩
instance:Inhabited PVl:=⟨aI .pvl⟩
instance:Inhabited PEn:=⟨aI .pen⟩
def reM(x:bi):bi:=(.mk x.name x.fields x.oneofs x.msgs x.enums x.nums x.names)
theorem aok:∀x,reM x=x
 | .mk _ _ _ _ _ _ _=>rfl
instance:Inhabited bi:=⟨aI .fmsg⟩
instance:Inhabited eS:=⟨aI .src⟩
instance:Inhabited ch:=⟨aI .fil⟩
def reN(x:PNm):PNm:=⟨x.name,x.kind,.mk x.m.name x.m.fields x.m.oneofs x.m.msgs x.m.enums x.m.nums x.m.names,⟨x.x.name,x.x.values⟩,x.file⟩
theorem aNh(x:PNm):reN x=x:=by have:=aok x.m;simp only[reN];rw[show (.mk x.m.name x.m.fields x.m.oneofs x.m.msgs x.m.enums x.m.nums x.m.names:bi)=x.m from this]
instance:Inhabited PNm:=⟨aI .nms⟩
instance:Inhabited PFl:=⟨aI .pfl⟩
instance:Inhabited PMs:=⟨aI .pms⟩
def reP(x:aC):aC:=(.mk x.n x.s x.fs x.rest)
theorem kr:∀x,reP x=x
 | .mk _ _ _ _=>rfl
instance:Inhabited aC:=⟨aI .pval⟩
end Go.AM
namespace Go.Proofs.YtndccphabnjkhaaGreat
open Go.AM
def ik:Nat->List UInt8->Option (Nat×Nat)
 |0,_=>none
 |_+1,[]=>none
 |k+1,c::r=>
  if k=0∧1<c.toNat then none
  else if c.toNat<128 then some (c.toNat,1)
  else match ik k r with
   |some (v,n)=>some (c.toNat%128+128*v,n+1)
   |none=>none
def aV(s:List UInt8):Int×Int×Int:=
 match ik 10 s with
 |some (v,n)=>((v:Int),(n:Int),0)
 |none=>(0,0,2)
def wb:Nat->Nat->List UInt8
 |0,v=>[AC v]
 |k+1,v=>if v<128 then [AC v] else AC (v%128+128)::wb k (v / 128)
def dK(v:Int):List UInt8:=wb 9 v.toNat
def akI:List UInt8->Nat
 | []=>0
 |c::r=>c.toNat+256*akI r
def lw(s:List UInt8):Int:=((akI s%2^64:Nat):Int)
def pv(w:Int):Int:=if w=1 then 8 else 4
def zA:Nat->Nat->List UInt8
 |0,_=>[]
 |k+1,v=>AC (v%256)::zA k (v / 256)
def gX(v n:Int):List UInt8:=zA n.toNat v.toNat
def zB:bF:=⟨0,0,0,[],[]⟩
def wc(s:List UInt8):Option bF:=
 match ik 10 s with
 |none=>none
 |some (t,n)=>
  if t / 8<1∨536870911<t / 8 then none
  else
   let rest:=s.drop n
   if t%8=0 then
    match ik 10 rest with
    |none=>none
    |some (v,k)=>some ⟨(t / 8:Nat),0,(v:Nat),[],s.take (n+k)⟩
   else if t%8=2 then
    match ik 10 rest with
    |none=>none
    |some (v,k)=>if (rest.drop k).length<v then none else some ⟨(t / 8:Nat),2,0,(rest.drop k).take v,s.take (n+k+v)⟩
   else if t%8=1 then
    if rest.length<8 then none else some ⟨(t / 8:Nat),1,lw (rest.take 8),[],s.take (n+8)⟩
   else if t%8=5 then
    if rest.length<4 then none else some ⟨(t / 8:Nat),5,lw (rest.take 4),[],s.take (n+4)⟩
   else none
def eU(s:List UInt8):bF×Int:=
 match wc s with
 |some r=>(r,0)
 |none=>(zB,2)
def jh:Nat->List UInt8->Option (List bF)
 |_,[]=>some []
 |0,_::_=>none
 |k+1,c::s=>
  match wc (c::s) with
  |none=>none
  |some r=>match jh k ((c::s).drop r.raw.length) with
   |none=>none
   |some l=>some (r::l)
def fo(s:List UInt8):List bF×Int:=
 if 5000<s.length then ([],3) else match jh s.length s with|some l=>(l,0)|none=>([],2)
def i9(r:bF):List UInt8:=
 if r.num<1∨536870911<r.num then []
 else
  let t:=dK (r.num*8+r.wire%8)
  if r.wire=0 then t++dK r.n
  else if r.wire=2 then t++dK r.s.length++r.s
  else if r.wire=1 then t++gX r.n 8
  else if r.wire=5 then t++gX r.n 4
  else []
def eJ(n:Int):Int:=if n%4294967296<2147483648 then n%4294967296 else n%4294967296+18446744069414584320
def acN(k:Int):Int:=
 if k=1∨k=10∨k=12 then 1
 else if k=2∨k=9∨k=11 then 5
 else if k=14∨k=15∨k=16 then 2
 else if 3<=k∧k<=8∨k=13∨k=17 then 0
 else -1
def u0(k n:Int):Int:=
 if k=3∨k=17∨k=11 then eJ n
 else if k=5∨k=9∨k=2 then n%4294967296
 else if k=13 then (if 1<n then 1 else n)
 else if k=7 then (if n%2=1 then eJ (4294967295-n%4294967296 / 2) else eJ (n%4294967296 / 2))
 else if k=8 then (if n%2=1 then 18446744073709551615-n / 2 else n / 2)
 else n
def toD(k n:Int):Int:=
 if k=3∨k=17 then eJ n
 else if k=5∨k=9∨k=2∨k=11 then n%4294967296
 else if k=13 then (if 1<n then 1 else n)
 else if k=7 then (if n%4294967296<2147483648 then n%4294967296*2 else (4294967295-n%4294967296)*2+1)
 else if k=8 then (if n<9223372036854775808 then n*2 else (18446744073709551615-n)*2+1)
 else n
def xl(k n:Int):Bool:=
 if k=3∨k=7∨k=11∨k=17 then decide (n=eJ n)
 else if k=5∨k=9∨k=2 then decide (n<4294967296)
 else if k=13 then decide (n<=1)
 else decide (k=4∨k=8∨k=12∨k=6∨k=10∨k=1)
theorem aCu:∃f:Int->Int,f=eJ:=⟨_,rfl⟩
def xm:Int->Int:=aCu.choose
theorem aol:xm=eJ:=aCu.choose_spec
theorem aCv:∃f:Int->Int,f=acN:=⟨_,rfl⟩
def ei:Int->Int:=aCv.choose
theorem uk:ei=acN:=aCv.choose_spec
theorem aCw:∃f:Int->Int->Int,f=u0:=⟨_,rfl⟩
def aLi:Int->Int->Int:=aCw.choose
theorem azo:aLi=u0:=aCw.choose_spec
theorem aIL:∃f:Int->Int->Int,f=toD:=⟨_,rfl⟩
def toR:Int->Int->Int:=aIL.choose
theorem aq3:toR=toD:=aIL.choose_spec
theorem aCx:∃f:Int->Int->Bool,f=xl:=⟨_,rfl⟩
def afq:Int->Int->Bool:=aCx.choose
theorem aom:afq=xl:=aCx.choose_spec
def gly(r:Nat):List UInt8:=
 if r<128 then [AC r]
 else if r<2048 then [AC (192+r / 64),AC (128+r%64)]
 else if (55296<=r∧r<57344)∨1114111<r then [239,191,189]
 else if r<65536 then [AC (224+r / 4096),AC (128+r / 64%64),AC (128+r%64)]
 else [AC (240+r / 262144),AC (128+r / 4096%64),AC (128+r / 64%64),AC (128+r%64)]
def afW(r:Int):List UInt8:=gly r.toNat
def n7(r k:Int):Int:=((128+r.toNat / 2^k.toNat%64:Nat):Int)
def dT(n v:Nat)(s:List UInt8):Nat×Nat:=
 if s.length<n then (0,0)
 else
  let r:=(s.take n).tail.foldl (λa b=>a*64+b.toNat%64) v
  if gly r=s.take n then (r,n) else (0,0)
def fY(s:List UInt8):Nat×Nat:=
 match s with
 | []=>(0,0)
 |c::_=>
  if c.toNat<128 then (c.toNat,1)
  else if c.toNat / 32=6 then dT 2 (c.toNat%32) s
  else if c.toNat / 16=14 then dT 3 (c.toNat%16) s
  else if c.toNat / 8=30 then dT 4 (c.toNat%8) s
  else (0,0)
def fC(s:List UInt8):Int×Int:=(((fY s).1 :Int),((fY s).2 :Int))
def afX:Nat->List UInt8->Bool
 |_,[]=>true
 |0,_::_=>false
 |k+1,c::s=>if (fY (c::s)).2 =0 then false else afX k ((c::s).drop (fY (c::s)).2)
def rU(s:List UInt8):Bool:=afX s.length s
def qQ(a b:List UInt8)(r:Int):Prop:=r=if a=b then 0 else if A2 a b then -1 else 1
def axa(s:List UInt8)(r:List bF×Int):Prop:=r=fo s
def au0(s:List UInt8)(r:List bF×Int):Prop:=r=fo s
def aCy(x:bF)(r:List UInt8):Prop:=r=i9 x
def azR(x:bF)(r:List UInt8):Prop:=r=i9 x
def amL(v:Int)(r:List UInt8):Prop:=r=dK v
def azS(v n:Int)(r:List UInt8):Prop:=r=gX v n
def axb(k r:Int):Prop:=r=ei k
def aCz(k n r:Int):Prop:=r=toR k n
def axc(k n:Int)(r:Bool):Prop:=r=afq k n
def atp(s:List UInt8)(r:Bool):Prop:=r=rU s
def aht(s:List UInt8)(r:Int×Int):Prop:=r=fC s
def zC(s:List UInt8)(r:Bool):Prop:=r=rU s
def qR(v r:Int):Prop:=r=eJ v
def xn(v r:Int):Prop:=r=if v%2=1 then 18446744073709551615-v / 2 else v / 2
def xo(v r:Int):Prop:=r=if v<9223372036854775808 then v*2 else (18446744073709551615-v)*2+1
def kV(v:Int)(r:List UInt8):Prop:=r.length<=20
def u6(v:Int)(r:List UInt8):Prop:=r.length<=21
def ab5(k r:Int):Prop:=r=ei k
def ab6(k n r:Int):Prop:=r=aLi k n
def afY(k n r:Int):Prop:=r=toR k n
def ab7(k n:Int)(r:Bool):Prop:=r=afq k n
def afZ(c:Int)(r:Bool):Prop:=r=true->65<=c
def ahu(c:Int)(r:Bool):Prop:=r=true->48<=c∧c<=57
def zD(c r:Int):Prop:=-1<=r∧r<=15∧(48<=c->c<=57->r=c-48)
def qS(s:List UInt8)(i e a c b:Int)(r:Tok×List UInt8×Int×Int×Int):Prop:=r=(⟨0,[],0,0⟩,s,i,c,b)
def wB(s:List UInt8)(i e a:Int)(t:List UInt8)(r:Bool×List UInt8×Int×Int×Int):Prop:=r.2=(s,i,e,a)∧(r.1=true->i+t.length<=s.length)
def zE(s:List UInt8)(i e a k:Int)(r:Int×List UInt8×Int×Int×Int):Prop:=r.2=(s,i,e,a)∧0<=r.1∧r.1<=255∧(r.1≠0->i+k<s.length)
def dk(s:List UInt8)(i e a:Int)(r:List UInt8×Int×Int×Int):Prop:=r.1=s∧i<=r.2.1∧r.2.1<=s.length
def aOa(s:List UInt8)(t:Tok):Prop:=t.text.length<=s.length∧(t.kind=1->0<t.text.length)
def xp(s:List UInt8)(i:Int)(r:Tok×List UInt8×Int×Int×Int):Prop:=r.2.1=s∧i<=r.2.2.1∧r.2.2.1<=s.length∧(r.2.2.2.1=0->aOa s r.1∧(r.1.kind=5∨i<r.2.2.1))
def oU(s:List UInt8)(i e a:Int)(r:Tok×List UInt8×Int×Int×Int):Prop:=xp s i r
def zF(s:List UInt8)(i e a:Int)(r:Tok×List UInt8×Int×Int×Int):Prop:=xp s i r
def zG(s:List UInt8)(i e a:Int)(r:Tok×List UInt8×Int×Int×Int):Prop:=xp s i r
def aCA(l:List Tok):Prop:=0<l.length∧l.length<=3001∧(l.getD (l.length-1) (aI .tok)).kind=5∧∀t∈l,t.text.length<=3000∧(t.kind=1->0<t.text.length)
def aea(s:List UInt8)(r:List Tok×Int×Int):Prop:=r.2.1=0->aCA r.1
def Eat(l:List Tok)(i e:Int)(b:List Tok)(a c:Int):Prop:=b=l∧i<=a∧a<l.length∧(c=0->e=0∧i<a)
def n8(x:bM):Prop:=x.typ.length<=3000∧x.key.length<=3000∧x.name.length<=3000∧0<=x.oneof∧x.oneof<=30
def aeb(x:PEn):Prop:=x.name.length<=3000∧x.values.length<=31∧∀v∈x.values,v.name.length<=3000
def jZ(l:List (List UInt8)):Prop:=∀x∈l,x.length<=3000
mutual
def aon:bi->Nat
 | .mk _ _ _ ms _ _ _=>eK ms+1
def eK:List bi->Nat
 | []=>0
 |m::ms=>aon m+eK ms
end
mutual
def okM:bi->Prop
 | .mk nm fs os ms es ns ss=>nm.length<=3000∧(fs.length<=31∧∀f∈fs,n8 f)∧(os.length<=30∧jZ os)∧(ms.length<=31∧yc ms)∧(es.length<=31∧∀e∈es,aeb e)∧ns.length<=31∧(ss.length<=31∧jZ ss)
def yc:List bi->Prop
 | []=>True
 |m::ms=>okM m∧yc ms
end
abbrev af0:=List UInt8×List bM×List (List UInt8)×List bi×List PEn×List (Int×Int)×List (List UInt8)
def aiU(s:List UInt8)(r:Int):Prop:=0<=r∧r<=15
def zH(l:List Tok)(i e a:Int)(r:Tok×List Tok×Int×Int×Int):Prop:=r=(l.getD i.toNat (aI .tok),l,i,e,a)
def yC(l:List Tok)(i e a p:Int)(r:List Tok×Int×Int×Int):Prop:=r.1=l∧r.2.1=i∧(p≠0->r.2.2.1≠0)
def yD(l:List Tok)(i e a:Int)(p:List UInt8)(r:Bool×List Tok×Int×Int×Int):Prop:=r.2=(l,i,e,a)∧(r.1=true->e=0∧i+1<l.length)
def yE(l:List Tok)(i e a:Int)(p:List UInt8)(r:Bool×List Tok×Int×Int×Int):Prop:=r.2=(l,i,e,a)∧(r.1=true->e=0∧i+1<l.length)
def yF(l:List Tok)(i e a:Int)(p:List UInt8)(r:List Tok×Int×Int×Int):Prop:=Eat l i e r.1 r.2.1 r.2.2.1
def yG(l:List Tok)(i e a:Int)(p:List UInt8)(r:Bool×List Tok×Int×Int×Int):Prop:=(r.1=true->e=0∧r.2=(l,i+1,e,a)∧i+1<l.length)∧(r.1=false->r.2=(l,i,e,a))
def wC(l:List Tok)(i e a:Int)(r:List UInt8×List Tok×Int×Int×Int):Prop:=Eat l i e r.2.1 r.2.2.1 r.2.2.2.1∧r.1.length<=3000
def yH(l:List Tok)(i e a:Int)(r:List UInt8×List Tok×Int×Int×Int):Prop:=Eat l i e r.2.1 r.2.2.1 r.2.2.2.1∧r.1.length<=3000
def yI(l:List Tok)(i e a:Int)(r:List UInt8×List Tok×Int×Int×Int):Prop:=Eat l i e r.2.1 r.2.2.1 r.2.2.2.1∧r.1.length<=3000
def zI(l:List Tok)(i e a:Int)(r:Int×List Tok×Int×Int×Int):Prop:=Eat l i e r.2.1 r.2.2.1 r.2.2.2.1
def yJ(l:List Tok)(i e a p:Int)(r:Bool×List Tok×Int×Int×Int):Prop:=r.2.1=l∧r.2.2.1=i∧(r.1=true->r.2.2.2.1≠0)∧(r.1=false->r.2.2.2.1=0)∧(r.2.2.2.1=0->e=0∧p<30)
def oV(l:List Tok)(i e a:Int)(n:List UInt8)(fs:List bM)(d:List (List UInt8))(b:List bi)(es:List PEn)(f:List (Int×Int))(c:List (List UInt8))(r:List Tok×Int×Int×Int×af0):Prop:=r.1=l∧r.2.1=i∧(r.2.2.1=0->e=0∧fs.length<30)∧r.2.2.2.2=(n,fs,d,b,es,f,c)
def yK(l:List Tok)(i e a:Int)(n:List UInt8)(fs:List bM)(d:List (List UInt8))(b:List bi)(es:List PEn)(f:List (Int×Int))(c:List (List UInt8))(p:bM)(r:List Tok×Int×Int×Int×af0):Prop:=Eat l i e r.1 r.2.1 r.2.2.1∧∃x,n8 x∧r.2.2.2.2=(n,fs++[x],d,b,es,f,c)
def wD(l:List Tok)(i e a:Int)(n:List UInt8)(fs:List bM)(d:List (List UInt8))(b:List bi)(es:List PEn)(f:List (Int×Int))(c:List (List UInt8))(r:List Tok×Int×Int×Int×af0):Prop:=Eat l i e r.1 r.2.1 r.2.2.1∧∃x,n8 x∧r.2.2.2.2=(n,fs++[x],d,b,es,f,c)
def wE(l:List Tok)(i e a:Int)(n:List UInt8)(fs:List bM)(j:List (List UInt8))(h:List bi)(es:List PEn)(f:List (Int×Int))(d:List (List UInt8))(r:List Tok×Int×Int×Int×af0):Prop:=Eat l i e r.1 r.2.1 r.2.2.1∧∃b c,(b.length<=31∧(r.2.2.1=0->b.length<=30)∧∀x∈b,n8 x)∧(c.length<=30∧jZ c)∧r.2.2.2.2=(n,b,c,h,es,f,d)
def tm(l:List Tok)(i e a:Int)(n:List UInt8)(fs:List bM)(f:List (List UInt8))(d:List bi)(es:List PEn)(j:List (Int×Int))(h:List (List UInt8))(r:List Tok×Int×Int×Int×af0):Prop:=Eat l i e r.1 r.2.1 r.2.2.1∧∃c b,(c.length<=31∧(r.2.2.1=0->c.length<=30))∧(b.length<=31∧(r.2.2.1=0->b.length<=30)∧jZ b)∧r.2.2.2.2=(n,fs,f,d,es,c,b)
def yL(l:List Tok)(i e a:Int)(r:PEn×List Tok×Int×Int×Int):Prop:=Eat l i e r.2.1 r.2.2.1 r.2.2.2.1∧aeb r.1
def um(l:List Tok)(i e a d:Int)(r:bi×List Tok×Int×Int×Int):Prop:=Eat l i e r.2.1 r.2.2.1 r.2.2.2.1∧(r.2.2.2.1=0->okM r.1∧(aon r.1:Int)<=r.2.2.1-i)
def aHg(pk:List UInt8)(b:List (List UInt8))(a:List bi)(es:List PEn):Prop:=pk.length<=3000∧(b.length<=31∧jZ b)∧(a.length<=31∧yc a∧eK a<=3001)∧(es.length<=31∧∀e∈es,aeb e)
def zJ(s:List UInt8)(r:List UInt8×List (List UInt8)×List bi×List PEn×Int×Int):Prop:=r.2.2.2.2.1=0->aHg r.1 r.2.1 r.2.2.1 r.2.2.2.1
def alP(l:List (List UInt8))(s:List UInt8)(r:Bool):Prop:=r=true↔s∈l
def aiV(a b r:List UInt8):Prop:=r.length<=a.length+b.length+1
def aoo(b:Nat)(x:PNm):Prop:=(x.kind=16∨x.kind=17)∧okM x.m∧aeb x.x∧x.name.length<=b
def yd(c:List bi)(es:List PEn)(a b:List UInt8)(r:List PNm):Prop:=r.length<=32*eK c+es.length∧∀x∈r,aoo (a.length+3001*(eK c+1)) x
def u7(l:List ch):Prop:=l.length<=1∧∀f∈l,aHg f.pack f.imports f.msgs f.enums∧f.sees.length<=40
def alQ(l:List ch)(r:List PNm):Prop:=u7 l->r.length<=100000∧∀x∈r,aoo 10000000 x
def ab8(l:List ch)(b a s:List UInt8)(r:List UInt8×Int×Int):Prop:=r.2.2=0->r.2.1=16∨r.2.1=17
def akJ(x:PFl):Prop:=1<=x.kind∧x.kind<=17∧0<=x.oneof∧x.oneof<=30∧1<=x.num∧x.num<=536870911∧0<=x.key∧x.key<=15∧(x.packed=true->ei x.kind≠2∧x.label=2)
def zK(x:PMs):Prop:=x.fields.length<=31∧(∀f∈x.fields,akJ f)∧x.oneofs.length<=31∧(x.fields.map PFl.num).Nodup
def alS(m:bi)(f:bM)(r:Bool):Prop:=r=false->1<=f.num∧f.num<=536870911
def wd(l:List ch)(x:PNm)(r:PMs×Int):Prop:=r.2=0->zK r.1
def aeF(l:List PEn)(x:PEn)(r:List PEn):Prop:=r.length=l.length+1
def zL(l:List PMs)(x:PMs)(r:List PMs):Prop:=r.length=l.length+1∧∀y∈r,y∈l∨y=x
def nL(a:List PMs):Prop:=a.length<=60∧∀m∈a,zK m
def ye(l:List ch)(r:List PMs×List PEn×Int×List UInt8):Prop:=r.2.2.1=0->nL r.1∧r.2.1.length<=60
def ab9(l:List eS)(r:List ch×Int×List UInt8×Int):Prop:=r.2.1=0->u7 r.1
def jc(l:List eS)(fs:List ch)(e:Int)(f:List UInt8)(a:Int)(s:List UInt8)(r:List UInt8×Bool×List eS×List ch×Int×List UInt8×Int):Prop:=r.2.2=(l,fs,e,f,a)∧(r.2.1=true->∃x∈l,x.name=s)
def yM(l:List eS)(fs:List ch)(e:Int)(f:List UInt8)(a p:Int)(s:List UInt8)(q:Int)(r:List eS×List ch×Int×List UInt8×Int):Prop:=r.1=l∧r.2.1=fs∧(p≠0->r.2.2.1≠0)
def pU(l:List eS)(fs:List ch)(e:Int)(f:List UInt8)(a:Int)(s:List UInt8)(o:List (List UInt8))(r:List eS×List ch×Int×List UInt8×Int):Prop:=r.2.2.1=0->u7 r.2.1
def dU(l:List PMs)(s:List UInt8):PMs×Bool:=match l.find? (λm=>decide (m.name=s)) with|some m=>(m,true)|none=>(⟨[],[],[]⟩,false)
def cK(m:PMs)(n:Int):PFl×Bool:=match m.fields.find? (λf=>f.num==n) with|some f=>(f,true)|none=>(⟨0,[],0,0,[],0,false,0⟩,false)
def aeG(l:List PMs)(es:List PEn)(s:List UInt8)(r:PMs×Bool):Prop:=r=dU l s
def ahv(m:PMs)(n:Int)(r:PFl×Bool):Prop:=r=cK m n
end Go.Proofs.YtndccphabnjkhaaGreat
namespace Go.AM
section
variable{P:Program}
def ahw:Option (List V×List V)->V->V
 |none,h=>h
 |some (p,q),h=>.tup (p++h::q)
def aHh:Option (List V×List V)->Bool
 |none=>true
 |some (p,q)=>p.all V.flat&&q.all V.flat
def au1(P:Program)(f:FuncId)(vs:List V)(o:Option (List V×List V))(k:EK)(xs:List (Ty k)):Prop:=
 fS P f vs [] (ahw o (.sw k 0 xs.length)) [some [.rw k xs],none]
theorem au1.dim{f:FuncId}{vs us:List V}{o:Option (List V×List V)}{k:EK}{xs:List (Ty k)}(h:au1 P f us o k xs)(e:vs.map V.dim=us):au1 P f vs o k xs:=fS.dim h e
theorem aIM{I I':Nat->Nat->Prop}{ρ ρ':Nat->Nat}{N N':Nat}{w:World}{o:Option (List V×List V)}{h l:V}{cv:Value}(e:aHh o=true)(f:VRel I ρ N w (ahw o h) cv)
  (m:∀cv,VRel I ρ N w h cv->VRel I' ρ' N' w l cv) (k:∀v cv,v.flat=true->VRel I ρ N w v cv->VRel I' ρ' N' w v cv):VRel I' ρ' N' w (ahw o l) cv:=by
 cases o with
 |none=>exact m cv f
 |some t=>
  obtain⟨p,q⟩:=t;simp only[aHh,Ac] at e;simp only[ahw] at f ⊢;cases f with
  |tup _ vs r j=>
  refine .tup _ vs (by simpa using r) ?_;intro i c cv a b;rcases Nat.lt_trichotomy i p.length with d|d|d;·rw[Au d] at a;exact k c cv (Aw.1 e.1 c (Ar a)) (j i c cv (by rw[Au d];exact a) b)
  ·subst d;rw[At (Ap _),De] at a;simp only[BK,Ae] at a;subst a;exact m cv (j _ h cv (by rw[At (Ap _),De];rfl) b)
  ·rw[At (by omega),show i-p.length=(i-p.length-1)+1 by omega,A9] at a;exact k c cv (Aw.1 e.2 c (Ar a)) (j i c cv (by rw[At (by omega),show i-p.length=(i-p.length-1)+1 by omega,A9];exact a) b)
theorem aIN{g:Gh}{w:World}{a:Occ}{o:Option (List V×List V)}{k:EK}{id n:Nat}{cv:Value}:aP g w a (ahw o (.sw k id n)) cv:=by
 cases o with
 |none=>simp[ahw,aP]
 |some b=>simp[ahw,aP]
theorem au1.frame{f:FuncId}{vs:List V}{o:Option (List V×List V)}{k:EK}{xs:List (Ty k)}(h:au1 P f vs o k xs)(hf:vs.all V.flat=true)(ho:aHh o=true)(hp:List aK):
  fS P f vs hp (ahw o (.sw k hp.length xs.length)) (hp++[some [.rw k xs],none]):=by
 intro w g Y ak C ah aa ac;let r:Gh:={I:=g.I,ρ:=g.ρ,O:=λ_=>none,β:=g.β}
 have h0:HR r [] w:=⟨by simp,by simp,by simp,by simp,C.exI,by simp[r]⟩
 refine(h w r Y (ak.sub rfl (λh=>h) (λh=>by simp[r,h])) h0 ah aa (λi x cv hx t=>(ac i x cv hx t).flat (Aw.1 hf x (Ar hx)))).mono ?_;rintro e w' ⟨cv,g₁,rfl,q1,F,q3,q4⟩;have W:∀b,b<w.heap.size->w'.heap[b]? =w.heap[b]?:=λb q=>F.block b q (by simp) rfl
 have B:∀b j,b<w.heap.size->g₁.I b j->g.I b j:=λb j q M=>F.iSame b j q (by simp) rfl M
 have aj:∀b,b<w.heap.size->g₁.O b=none:=λb q=>F.oSame b q (by simp) rfl
 have ag:w.heap.size<=g₁.ρ 0:=by
  rcases F.live 0 [.rw k xs] rfl with⟨_,h⟩|⟨_,h|h|⟨_,_,h,_⟩⟩
  ·simp at h
  ·exact h
  ·simp[r] at h
  ·simp at h
 let d:Gh:={I:=g₁.I,ρ:=λi=>if i=hp.length then g₁.ρ 0 else if i=hp.length+1 then g₁.ρ 1 else g.ρ i,β:=g.β,O:=λb=>if b<w.heap.size then g.O b else (match g₁.O b with
  |some .res=>some .res
  |_=>none)}
 have l:∀i,i<hp.length->d.ρ i=g.ρ i:=by intro i M;simp only[d];rw[if_neg (by omega),if_neg (by omega)]
 have p:d.ρ hp.length=g₁.ρ 0:=by simp[d]
 have D:d.ρ (hp.length+1)=g₁.ρ 1:=by simp[d]
 have up:Up g.I g.ρ hp.length w d.I d.ρ (hp++[some [V.rw k xs],none]).length w':=⟨F.up.mono,F.up.cell,l,by simp⟩
 have G:∀(id:Nat) cs,hp[id]? =some (some cs)->g.ρ id<w.heap.size:=by intro id cs a;obtain⟨ob,J⟩:=(C.obj id cs a).block;exact(AX.1 J).1
 have m:∀(id:Nat) cs,hp[id]? =some (some cs)->id<hp.length:=λid cs a=>(Ag.1 a).1
 have key:∀(id:Nat) c,(hp++[some [V.rw k xs],none])[id]? =some (some c)->(id=hp.length∧c=[V.rw k xs])∨hp[id]? =some (some c):=by
  intro id c a;rcases AG id hp.length with S|S;·rw[Au S] at a;exact .inr a
  ·rw[At S] at a;match hq:id-hp.length,a with
   |0,a=>simp at a;exact .inl ⟨by omega,a.symm⟩
   |1,a=>simp at a
   |n+2,a=>simp at a
 have X:∀id j v cv,id<hp.length->aP g w (.cell id j) v cv->aP d w' (.cell id j) v cv:=by intro id j v cv a ho;refine dg ho rfl (λb j M=>⟨F.up.mono b j M,F.up.cell b j M⟩) ?_;intro b q;have H:=C.oLt b _ q;exact⟨by simp[d,H,q],W b H,λj R=>B b j H R⟩
 refine⟨cv,d,rfl,⟨?_,?_,?_,?_,q1.exI,?_⟩,⟨rfl,F.os,F.tape,F.output,F.size,λb q _ _=>W b q,up,λb j q _ _ M=>B b j q M,?_,?_⟩,?_,aIN⟩
 ·intro id c a;rcases key id c a with⟨rfl,rfl⟩|a
  ·refine(q1.obj 0 _ rfl).keep (by rw[p]) λan e fz a1 a2=>?_
   refine⟨a2.len,a2.plain,?_,a2.cold,a2.one,?_,?_,?_⟩;·intro k2 ys hz;obtain⟨t1,t2,t3,t4⟩:=a2.typed k2 ys hz;refine⟨t1,?_,by simp,λhk=>(t4 hk).trans F.beta⟩;rw[D];exact t2
   ·intro j c cv z t;have L:=z;simp only[cellsOf] at L;obtain⟨y,hy,L⟩:=eq _ j _ L;exact yA L (a2.rel j c cv z t)
   ·intro j c cv z t;have Z:=Ar z;simp only[cellsOf,AS] at Z;obtain⟨y,_,Z⟩:=Z;exact jI (qI k y c Z) _ _ _ _
   ·intro j E n z;simp only[cellsOf] at z;obtain⟨y,_,z⟩:=eq _ j _ z;exact absurd z (xZ k y _ E n)
  ·have S:=m id c a;refine(C.obj id c a).keep (by rw[l id S];exact W _ (G id c a)) λan e fz J u=>?_
   exact⟨u.len,u.plain,u.typedUp rfl l (by simp) rfl,u.cold,u.one,λj c cv z t=>(u.rel j c cv z t).up up,λj c cv z t=>X _ _ _ _ S (u.own j c cv z t),λj E n R=>by rw[l id S];exact u.bn j E n R⟩
 ·intro id A c c' a Q ae;rcases key id c a with⟨rfl,rfl⟩|J
  ·rcases key A c' Q with⟨rfl,rfl⟩|u;·exact absurd rfl ae
   ·rw[p,l A (m A c' u)];have:=G A c' u;omega
  ·rcases key A c' Q with⟨rfl,rfl⟩|u;·rw[p,l id (m id c J)];have:=G id c J;omega
   ·rw[l id (m id c J),l A (m A c' u)];exact C.apart _ _ _ _ J u ae
 ·intro id c a j R;rcases key id c a with⟨rfl,rfl⟩|a;·rw[p] at R;exact q1.notI 0 _ rfl j R
  ·rw[l id (m id c a)] at R;exact C.notI id c a j (B _ j (G id c a) R)
 ·intro id c a;rcases key id c a with⟨rfl,rfl⟩|a
  ·rw[p];have J:=q1.notO 0 _ rfl;have u:¬g₁.ρ 0<w.heap.size:=by omega
   simp[d,J,u]
  ·rw[l id (m id c a)];have:=G id c a;simp[d,this,C.notO id c a]
 ·intro b o q;simp only[d] at q;split at q;·rename_i H;exact AJ H F.size
  ·split at q;·rename_i af;exact q1.oLt b _ af
   ·simp at q
 ·intro b q _ hO;simp[d,q,hO]
 ·intro id c a;rcases key id c a with⟨rfl,rfl⟩|a;·exact .inr ⟨Ap _,.inl (by rw[p];exact ag)⟩
  ·exact .inl ⟨c,a⟩
 ·refine aIM ho q3 ?_ ?_
  ·intro cv hr;cases hr with
   |sw _ _ _ hN z Z=>
   rw[Bf] at z Z;have:=VRel.sw (I:=d.I) (ρ:=d.ρ) (N:=(hp++[some [V.rw k xs],none]).length) (w:=w') k hp.length xs.length (by simp) (by rw[D];exact z) (by rw[D];exact Z);rw[D,p] at this;exact this
  ·intro v cv hv hr;exact(hr.up (I':=d.I) (ρ':=g₁.ρ) (N':=2) ⟨λ_ _ M=>M,λ_ _ _=>rfl,λ_ _=>rfl,Ap _⟩).flat hv
def aCB(P:Program)(f:FuncId)(p q:List V)(k:EK)(xs:List (Ty k))(v:V)(ys:List (Ty k)):Prop:=
 ∃rest,fS P f (p++.sw k 0 xs.length::q) [some [.rw k xs],none] v (some [.rw k ys]::none::rest)
theorem tj.rowTo{g l:Gh}{N N':Nat}{w:World}{id d:Nat}{k:EK}{xs:List (Ty k)}{f:Array Value}{e:TypeId}{q:Nat×Nat}(h:tj g N w id [.rw k xs] f e q)
  (v:l.I=g.I) (p:l.β=g.β) (C:l.ρ (d+1)=g.ρ (id+1)) (r:d+1<N'):tj l N' w d [.rw k xs] f e q:=by
 refine⟨h.len,h.plain,?_,h.cold,h.one,?_,?_,?_⟩;·intro B ys t;obtain⟨z,x,F,u⟩:=h.typed B ys t;exact⟨z,by rw[C];exact x,r,λA=>(u A).trans p.symm⟩
 ·intro j c cv b i;have a:=b;simp only[cellsOf] at a;obtain⟨y,D,a⟩:=eq _ j _ a;rw[v];exact yA a (h.rel j c cv b i)
 ·intro j c cv b i;have m:=Ar b;simp only[cellsOf,AS] at m;obtain⟨y,_,m⟩:=m;exact jI (qI k y c m) _ _ _ _
 ·intro j E n b;simp only[cellsOf] at b;obtain⟨y,_,b⟩:=eq _ j _ b;exact absurd b (xZ k y _ E n)
theorem aCB.frame{f:FuncId}{p q:List V}{k:EK}{xs ys:List (Ty k)}{v:V}(h:aCB P f p q k xs v ys)(av:p.all V.flat=true)(au:q.all V.flat=true)(hv:v.flat=true)
  {hp:List aK} {id:Nat} (A:hp[id]? =some (some [.rw k xs])):fS P f (p++.sw k id xs.length::q) hp v (hp.set id (some [.rw k ys])):=by
 obtain⟨rest,h⟩:=h;have af:id<hp.length:=(Ag.1 A).1;intro w g J an y ai L H;obtain⟨bd,e,fz,a1,a2⟩:=(y.obj id _ A).row rfl;obtain⟨t1,t2,t3,t4⟩:=a2.typed k xs rfl;let t:Gh:={I:=g.I,ρ:=λi=>if i=0 then g.ρ id else g.ρ (id+1),O:=λ_=>none,β:=g.β}
 have z0:∀(i:Nat) cs,([some [V.rw k xs],none]:List aK)[i]? =some (some cs)->i=0∧cs=[.rw k xs]:=by
  intro i cs a;match i,a with
  |0,a=>simp at a;exact⟨rfl,a.symm⟩
  |1,a=>simp at a
  |n+2,a=>simp at a
 have h0:HR t [some [.rw k xs],none] w:=by
  refine⟨?_,?_,?_,?_,y.exI,by simp[t]⟩;·intro i cs a;obtain⟨rfl,rfl⟩:=z0 i cs a;exact ig.ofRow a1 (a2.rowTo rfl rfl rfl (by simp)) rfl
  ·intro i i' cs aw a ac d;obtain⟨rfl,_⟩:=z0 i cs a;obtain⟨rfl,_⟩:=z0 i' aw ac;exact absurd rfl d
  ·intro i cs a;obtain⟨rfl,_⟩:=z0 i cs a;exact y.notI id _ A
  ·intro i cs a;rfl
 have aa:∀(i:Nat) x cv,(p++.sw k 0 xs.length::q)[i]? =some x->J[i]? =some cv->VRel t.I t.ρ ([some [V.rw k xs],none]:List aK).length w x cv:=by
  intro i x cv C E;rcases Nat.lt_trichotomy i p.length with a|a|a;·rw[Au a] at C;exact(H i x cv (by rw[Au a];exact C) E).flat (Aw.1 av x (Ar C))
  ·subst a;rw[At (Ap _),De] at C;simp only[BK,Ae] at C;subst C;have r:=H p.length (.sw k id xs.length) cv (by rw[At (Ap _),De];rfl) E;cases r with
   |sw _ _ _ hN hc hm=>exact VRel.sw (I:=t.I) (ρ:=t.ρ) (N:=([some [V.rw k xs],none]:List aK).length) (w:=w) k 0 xs.length (by simp) hc hm
  ·rw[At (by omega),show i-p.length=(i-p.length-1)+1 by omega,A9] at C;exact(H i x cv (by rw[At (by omega),show i-p.length=(i-p.length-1)+1 by omega,A9];exact C) E).flat (Aw.1 au x (Ar C))
 refine(h w t J (an.sub rfl (λh=>h) (λh=>by simp[t,h])) h0 (by simpa using ai) (by
  intro x C;rcases Az.1 C with C|C;·exact L x (BM _ C)
  ·rcases A3.1 C with rfl|C;·rfl
   ·exact L x (Cj _ (A0 _ C))) aa).mono ?_
 rintro ex w' ⟨cv,g₁,rfl,q1,G,q3,q4⟩;have r0:g₁.ρ 0=g.ρ id:=G.up.rho 0 (by simp);have r1:g₁.ρ (0+1)=g.ρ (id+1):=G.up.rho 1 (by simp);have X:∀b,g.ρ id≠b->∀(i:Nat) cs,([some [V.rw k xs],none]:List aK)[i]? =some (some cs)->t.ρ i≠b:=by intro b l i cs a;obtain⟨rfl,_⟩:=z0 i cs a;exact l
 have Y:∀b,b<w.heap.size->g.ρ id≠b->w'.heap[b]? =w.heap[b]?:=λb l d=>G.block b l (X b d) rfl
 have D:∀b j,b<w.heap.size->g.ρ id≠b->g₁.I b j->g.I b j:=λb j l d a=>G.iSame b j l (X b d) rfl a
 have W:∀b,b<w.heap.size->g.ρ id≠b->g₁.O b=none:=λb l d=>G.oSame b l (X b d) rfl
 have n0:=q1.notO 0 [.rw k ys] rfl;rw[r0] at n0
 let u:Gh:={I:=g₁.I,ρ:=g.ρ,O:=λb=>match g₁.O b with
  |some .res=>some .res
  |some _=>none
  |none=>if b<w.heap.size then g.O b else none,β:=g.β}
 have up:Up g.I g.ρ hp.length w u.I u.ρ (hp.set id (some [V.rw k ys])).length w':=⟨G.up.mono,G.up.cell,λ_ _=>rfl,by simp⟩
 have ab:∀(i:Nat) c,hp[i]? =some (some c)->g.ρ i<w.heap.size:=by intro i c a;obtain⟨ob,h1⟩:=(y.obj i c a).block;exact(AX.1 h1).1
 have key:∀(i:Nat) c,(hp.set id (some [V.rw k ys]))[i]? =some (some c)->(i=id∧c=[.rw k ys])∨(i≠id∧hp[i]? =some (some c)):=by
  intro i c a;rw[Ax] at a;split at a;·rename_i e';simp[af] at a;exact .inl ⟨e'.symm,a.symm⟩
  ·rename_i e';exact .inr ⟨λh=>e' h.symm,a⟩
 have m:∀(i:Nat) c,(hp.set id (some [V.rw k ys]))[i]? =some (some c)->∃B,hp[i]? =some (some B):=by
  intro i c a;rcases key i c a with⟨rfl,_⟩|⟨_,h⟩
  ·exact⟨_,A⟩
  ·exact⟨c,h⟩
 have F:∀(i:Nat) c,i≠id->hp[i]? =some (some c)->g.ρ id≠g.ρ i:=λi c d a=>y.apart _ _ _ _ A a d.symm
 have Q:∀b o,g.O b=some o->g.ρ id≠b:=by intro b o l e';rw[<-e',y.notO _ _ A] at l;cases l
 have z:∀b,b<w.heap.size->u.O b=g.O b:=by
  intro b l;by_cases d:g.ρ id=b;·subst d;simp only[u,n0];rw[if_pos l]
  ·simp only[u,W b l d];rw[if_pos l]
 refine⟨cv,u,rfl,⟨?_,?_,?_,?_,q1.exI,?_⟩,⟨rfl,G.os,G.tape,G.output,G.size,?_,up,?_,?_,?_⟩,?_,?_⟩
 ·intro i c a;rcases key i c a with⟨rfl,rfl⟩|⟨d,a⟩
  ·obtain⟨ae,e',ar,b1,M⟩:=(q1.obj 0 _ rfl).row rfl;rw[r0] at b1;exact ig.ofRow b1 (M.rowTo rfl G.beta.symm r1.symm (by simpa using t3)) rfl
  ·refine(y.obj i c a).keep (Y _ (ab i c a) (F i c d a)) λae e' ar b1 M=>?_
   refine⟨M.len,M.plain,M.typedUp rfl (λ_ _=>rfl) up.num rfl,M.cold,M.one,λj c cv S E=>(M.rel j c cv S E).up up,?_,M.bn⟩;intro j c' cv S E;refine dg (M.own j c' cv S E) rfl (λb j a=>⟨up.mono b j a,up.cell b j a⟩) ?_;intro b l;have Z:=y.oLt b _ l;have R:=Q b _ l;exact⟨(z b Z).trans l,Y b Z R,λj S=>D b j Z R S⟩
 ·intro i i' c c' a ac d;obtain⟨B,m1⟩:=m i c a;obtain⟨az,m2⟩:=m i' c' ac;exact y.apart _ _ _ _ m1 m2 d
 ·intro i c a j S;rcases key i c a with⟨rfl,rfl⟩|⟨d,a⟩
  ·have:=q1.notI 0 _ rfl j;rw[r0] at this;exact this S
  ·exact y.notI i c a j (D _ j (ab i c a) (F i c d a) S)
 ·intro i c a;obtain⟨B,m1⟩:=m i c a;exact(z _ (ab i B m1)).trans (y.notO i B m1)
 ·intro b o l;simp only[u] at l;split at l;·rename_i hq;exact q1.oLt b _ hq
  ·simp at l
  ·split at l;·rename_i hq;exact AJ hq G.size
   ·simp at l
 ·intro b l ho hO;exact Y b l (ho id _ A)
 ·intro b j l ho hO a;exact D b j l (ho id _ A) a
 ·intro b l ho hO;exact(z b l).trans hO
 ·intro i c a;exact .inl (m i c a)
 ·exact q3.flat hv
 ·exact q4.reloc G.beta.symm rfl λb l=>by simp[u,l]
end
section
variable{P:Program}{Γ:aG}{imp:List Nat}{n:Nat}{f:FuncId}{fn:Func}{ir:IR}{rs:List RV}{x:Ro}
theorem aCB.dim{p q b a:List V}{k:EK}{xs ys:List (Ty k)}{v:V}(h:aCB P f p q k xs v ys)(d:b.map V.dim=p)(c:a.map V.dim=q):aCB P f b a k xs v ys:=by obtain⟨rest,h⟩:=h;refine⟨rest,h.dim ?_⟩;rw[BB,Bb,d,c];rfl
end
end Go.AM
end
