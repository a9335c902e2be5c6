import Derived.Below
import Derived.KernelRfl
import Derived.Test.YtkinflmjagfapaaGreatDoorChecked
import Derived.Lib.ItoaNum
import Derived.Lib.Join
import Derived.Lib.SlTrimSet
import Derived.Lib.Split
import Derived.Lib.Bytealg
import Derived.Lib.LastIndexByte
import Derived.Defers
import Derived.Test.YtkinflmjagfapaaGreatDoorZ00
import Derived.Test.YtkinflmjagfapaaGreatDoorZ01
open Array renaming getElem?_eq_getElem→Ao,getElem?_eq_some_iff→AP,getD→A9,getElem?_append_left→B8
open Bool renaming and_eq_true→Ac,or_eq_true→Ba,not_eq_true'→Bk,false_or→BO
open Classical renaming propDecidable→Co
open Eq renaming trans→A3
open Function renaming comp→Dy
open Go.Deferred renaming ofValue→Da
open Go.Ending renaming returned→Dn
open Go.Instr renaming sureAddr→BQ,loadAt→Dh,storeAt→DC
open Go.IntKind renaming wrap→Aj,signed→Bb,bits→Bo
open Go.Oper renaming wp→CF
open Go.Region renaming wanted→BX
open Go.World renaming cell?_setCells_out→A2,cell?→By,frozen?→BA,cell?_setCells_in→BB
open Int renaming toNat→Ae,toNat_natCast→AR,tmod→Bz,tmod_eq_emod_of_nonneg→BE,tdiv_eq_ediv_of_nonneg→CJ
open List renaming length→Aa,getElem?_eq_getElem→Ab,getElem?_eq_some_iff→Ad,getD_eq_getElem?_getD→Af,mem_of_getElem?→Ai,getD→Ak,all_eq_true→Al,getElem?_append_right→Aq,getElem?_append_left→Ar,length_cons→Av,mem_append→Aw,getElem?_map→Ay,mem_singleton→Az,length_nil→AA,getElem?_set→AB,length_append→AD,mem_map→AE,length_set→AF,mem_flatMap→AG,getElem_mem→AK,getElem?_take→AO,mem_cons→AQ,mem_iff_getElem→AS,mem_cons_of_mem→AT,mem_cons_self→AU,getElem?_cons_succ→AV,getElem?_set_ne→AW,mem_append_left→AX,map_congr_left→A0,getElem?_cons_zero→A4,getElem?_drop→A6,range→A8,mem_of_mem_take→Be,range'→Bf,length_singleton→Bh,mem_range→Bm,map_cons→Bn,length_map→Bt,length_take→Bw,mem_of_mem_drop→BC,getElem?_set_self→BG,map_append→BL,contains_iff_mem→BP,mem_append_right→BR,all_cons→B7,flatMap_cons→Cb,any_eq_true→Cg,getD_cons_zero→Cm,nodup_nil→CC,mem_map_of_mem→CO,getElem?_toArray→Db,getD_cons_succ→Dq,length_range→DH,mem_of_find?_eq_some→DI,mem_or_eq_of_mem_set→DJ,getElem?_replicate→DL
open Nat renaming le_refl→Am,beq→As,eq_of_beq_eq_true→Ax,lt_of_lt_of_le→AC,le_trans→AH,lt_or_ge→AI,zero_add→A1,zero_le→Br,beq_refl→BF,blt→B0,blt_eq→Cd,add_zero→Cl,eq_zero_or_pos→CX,le_add_right→C8
open Option renaming map_eq_some_iff→An,getD_some→Bd,map_some→Bg,isSome_iff_exists→BU
open Option.some renaming injEq→Ah,inj→Au
open Prod.mk renaming injEq→Ap
open SizeOf renaming sizeOf→B6
open UInt8 renaming ofNat→Bq
set_option linter.all false
set_option maxRecDepth 100000
noncomputable section
namespace Go.AM
def agz(P:Program):RV->ResultVar->Bool
 | .t n,.tmp m=>n==m
 | .cell n b agg,.cell m t=>(n==m)&&((fR P t==some b)&&((nx P t==some agg)&&(agg||b==1)))
 |_,_=>false
def iq(P:Program):List RV->List ResultVar->Bool
 | [],[]=>true
 |x::xs,y::ys=>agz P x y&&iq P xs ys
 |_,_=>false
section
variable{w:World}{g:Gh}{s s':St}{a:Act}{P:Program}{Γ:av}
def apN(g:Gh)(w:World)(x:RV)(v:V)(cv:Value):Prop:=match x with| .t n=>au g w (.slot n) v cv| .cell .. =>v.bare=true
def acI(b:Array Value):ResultVar->Sem Value
 | .tmp t=>pure (b.getD t undef)
 | .cell a t=>do loadVar t (<-asAddr (b.getD a undef))
theorem atL(h:SR g s w a){x:RV}{y:ResultVar}(p:agz P x y=true){v:V}(q:x.ev s=some v):
  ∃cv,(acI a.tmps y).run P w=.ok cv w∧VRel g.I g.ρ s.hp.length w v cv∧apN g w x v cv:=by
 cases x with
 |t n=>
  cases y with
  |tmp m=>
   obtain rfl:n=m:=by simpa [agz] using p
   simp only[RV.ev,Ah] at q;subst q;exact⟨_,by simp[acI],h.er.get n,h.er.getOwn n⟩
  |cell m t=>simp[agz] at p
 |cell n d agg=>
  cases y with
  |tmp m=>simp[agz] at p
  |cell m t=>
   simp only[agz,Ac,beq_iff_eq,Ba] at p;obtain⟨rfl,W,X,u⟩:=p;have D:=h.er.get n;simp only[RV.ev] at q
   have fin:∀b o (vs:List Value),a.tmps.getD n undef=.pointer (some ⟨b,o,none⟩)->vs.length=d->(∀(j:Nat) v,vs[j]? =some v->w.cell? ⟨b,o+j,none⟩=some v)->
     (acI a.tmps (.cell n t)).run P w=.ok (if agg then .agg vs.toArray else vs.headD undef) w:=by
    intro b o vs hp Z J;have:=qj (P:=P) (w:=w) (b:=b) (o:=o) (vs:=vs) W X u Z J;simp only[Dh,BQ] at this;simp[acI,hp,asAddr];simpa using this
   split at q
   ·rename_i id o M;rw[M] at D;generalize k:a.tmps.getD n undef=cv at D fin;cases D with
    |ptr _ _ hid=>
    split at q
    ·rename_i cs S;split at q
     ·rename_i H;obtain rfl:=Au q;obtain⟨E,e,Y,C⟩:=ta h.hr S;have Q:=C.len
      have r:=tX (agg:=agg) (cs:=(cs.drop o).take d) (vs:=(E.toList.drop o).take d) (w:=w) (I:=g.I) (ρ:=g.ρ) (N:=s.hp.length)
       (λc A=>C.one c (BC (Be A))) (by simp;omega) (by
        rcases u with u|u;·exact .inl u
        ·right;simp;omega)
       (λi c cv p k=>by
        simp only[AO,A6] at p k;split at p;·rename_i F;simp only[F,if_true] at k;exact C.rel _ _ _ p (by simpa using k)
        ·simp at p)
      refine⟨_,fin _ _ ((E.toList.drop o).take d) rfl (by simp;omega) (λj v B=>?_),r.disown,dV _⟩;rw[aM Y];simp only[AO,A6] at B;split at B;·simpa using B
      ·simp at B
     ·simp at q
    ·simp at q
   ·rename_i cs M;rw[M] at D;generalize k:a.tmps.getD n undef=cv at D fin;cases D with
    |ea _ b o f R hI J L=>
    split at q
    ·rename_i H;obtain rfl:=Au q
     have r:=tX (agg:=agg) (cs:=cs.take d) (vs:=(A8 d).map f) (w:=w) (I:=g.I) (ρ:=g.ρ) (N:=s.hp.length)
      (λc A=>R c (Be A)) (by simp;omega) (by
       rcases u with u|u;·exact .inl u
       ·right;simp;omega)
      (λi c cv p k=>by
       simp only[AO] at p;split at p;·rename_i F;simp[F] at k;subst k;exact L _ _ p
       ·simp at p)
     refine⟨_,fin _ _ ((A8 d).map f) rfl (by simp) (λj v B=>?_),r.disown,dV _⟩;rw[Ay,An] at B;obtain⟨j',G,rfl⟩:=B;obtain⟨O,rfl⟩:=Ad.1 G;simp only[DH] at O;simpa using J j (by omega)
    ·simp at q
   ·simp at q
theorem ao0(h:SR g s w a):∀{xs:List RV}{ys:List ResultVar}{vs:List V},iq P xs ys=true->rvs s xs=some vs->
  ∃cvs:List Value,cvs.length=vs.length∧xs.length=vs.length∧ys.length=vs.length∧(∀(i:Nat) y,ys[i]? =some y->∃cv,cvs[i]? =some cv∧(acI a.tmps y).run P w=.ok cv w)∧
   (∀(i:Nat) v cv,vs[i]? =some v->cvs[i]? =some cv->VRel g.I g.ρ s.hp.length w v cv)∧
   (∀(i:Nat) x v cv,xs[i]? =some x->vs[i]? =some v->cvs[i]? =some cv->apN g w x v cv)
 | [],[],vs,_,d=>by simp only[rvs,Ah] at d;subst d;exact⟨[],rfl,rfl,rfl,by simp,by simp,by simp⟩
 |x::xs,y::ys,vs,e,d=>by
  simp only[iq,Ac] at e;simp only[rvs] at d;split at d
  ·rename_i v E p B;obtain rfl:=Au d;obtain⟨cv,o,q,t⟩:=atL h e.1 p;obtain⟨cvs,A,u,D,C,H,F⟩:=ao0 h e.2 B;refine⟨cv::cvs,by simp[A],by simp[u],by simp[D],?_,?_,?_⟩
   ·intro i G m;cases i with
    |zero=>simp at m;subst m;exact⟨cv,rfl,o⟩
    |succ i=>simpa using C i G (by simpa using m)
   ·intro i k j c b;cases i with
    |zero=>simp at c b;subst c b;exact q
    |succ i=>exact H i k j (by simpa using c) (by simpa using b)
   ·intro i r k j f c b;cases i with
    |zero=>simp at f c b;subst f c b;exact t
    |succ i=>exact F i r k j (by simpa using f) (by simpa using c) (by simpa using b)
  ·simp at d
 | [],_::_,_,e,_=>by simp[iq] at e
 |_::_,[],_,e,_=>by simp[iq] at e
def Gh.hand(g:Gh)(r:Option Nat):Gh:={g with O:=λb=>match g.O b with|some (.slot m)=>(if some m=r then some .res else none)|some .res=>none|o=>o}
theorem HR.hand{hp:List ai}(h:HR g hp w)(r:Option Nat):HR (g.hand r) hp w:=by
 refine⟨?_,h.apart,h.notI,?_,h.exI,?_⟩
 ·intro id cs hid;refine(h.obj id cs hid).keep rfl λp e v u d=>?_
  refine⟨d.len,d.plain,d.typed,d.cold,d.one,d.rel,?_,d.bn⟩;intro j c cv t f;refine b7 (d.own j c cv t f) rfl (λb j q=>⟨q,rfl⟩) ?_;intro b i;exact⟨by simp[Gh.hand,i],rfl,λj m=>m⟩
 ·intro id cs hid;simp[Gh.hand,h.notO id cs hid]
 ·intro b o i;cases k:g.O b with
  |none=>simp[Gh.hand,k] at i
  |some o'=>exact h.oLt b o' k
theorem FR.hand{g₀:Gh}{hp₀ hp:List ai}{w₀:World}(h:FR g₀ hp₀ w₀ g hp w)(r:Option Nat):FR g₀ hp₀ w₀ (g.hand r) hp w:=
 ⟨h.beta,h.os,h.tape,h.output,h.size,h.block,h.up,h.iSame,λb d e c=>by simp[Gh.hand,h.oSame b d e c],h.live⟩
def acJ:List Value->Value
 | [v]=>v
 |vs=>.tuple vs.toArray
theorem aoi{fn:Func}{l:List ResultVar}{cvs:List Value}(H:fn.results.toList=l)(r:l.length=cvs.length)(C:l.length<=5)
  (h:∀(i:Nat) y,l[i]? =some y->∃cv,cvs[i]? =some cv∧(acI a.tmps y).run P w=.ok cv w):
  (results fn a.tmps).run P w=.ok (acJ cvs) w:=by
 have e:fn.results=l.toArray:=by rw[<-H]
 have E:results fn a.tmps=(do let vs <-fn.results.mapM (acI a.tmps);pure (if h:vs.size=1 then vs[0] else .tuple vs)):=rfl;rw[E,e];match l,cvs,r,C,h with
 | [],[],_,_,_=>simp[acJ]
 | [d],[t],_,_,h=>obtain⟨_,b,f⟩:=h 0 d rfl;simp at b;subst b;simp[f,acJ]
 | [d,m],[t,u],_,_,h=>obtain⟨_,b,f⟩:=h 0 d rfl;obtain⟨_,c,k⟩:=h 1 m rfl;simp at b c;subst b c;simp[f,k,acJ]
 | [d,m,p],[t,u,A],_,_,h=>obtain⟨_,b,f⟩:=h 0 d rfl;obtain⟨_,c,k⟩:=h 1 m rfl;obtain⟨_,j,o⟩:=h 2 p rfl;simp at b c j;subst b c j;simp[f,k,o,acJ]
 | [d,m,p,x],[t,u,A,D],_,_,h=>obtain⟨_,b,f⟩:=h 0 d rfl;obtain⟨_,c,k⟩:=h 1 m rfl;obtain⟨_,j,o⟩:=h 2 p rfl;obtain⟨_,q,v⟩:=h 3 x rfl;simp at b c j q;subst b c j q;simp[f,k,o,v,acJ]
 | [d,m,p,x,G],[t,u,A,D,I],_,_,h=>obtain⟨_,b,f⟩:=h 0 d rfl;obtain⟨_,c,k⟩:=h 1 m rfl;obtain⟨_,j,o⟩:=h 2 p rfl;obtain⟨_,q,v⟩:=h 3 x rfl;obtain⟨_,B,F⟩:=h 4 G rfl;simp at b c j q B;subst b c j q B;simp[f,k,o,v,F,acJ]
theorem ahO{m:Nat}{vs:List V}{hp:List ai}{b:Array Value}(k:HR g hp w)(h:vs.length=b.size)(f:∀x∈vs,x.bare=true)
  (j:∀(i:Nat) x cv,vs[i]? =some x->b[i]? =some cv->VRel g.I g.ρ hp.length w x cv):SR g (start m vs hp) w {tmps:=b++Array.replicate (m-b.size) undef,defers:=[]}:=by
 refine⟨k,⟨by simp[start,h],?_,?_⟩⟩
 ·intro n v cv c d;simp only[start] at c d;rcases AI n vs.length with e|e;·rw[Ar e] at c;rw[B8 (by omega)] at d;exact j n v cv c d
  ·rw[Aq e,DL] at c;split at c;·obtain rfl:=Au c;exact .undef _
   ·simp at c
 ·intro n v cv c d;simp only[start] at c;rcases AI n vs.length with e|e;·rw[Ar e] at c;exact il (f v (Ai c)) _ _ _ _
  ·rw[Aq e,DL] at c;split at c;·obtain rfl:=Au c;simp[au]
   ·simp at c
def RQ(g₀:Gh)(hp₀:List ai)(w₀:World)(v:V)(hp':List ai)(e:Ending)(w:World):Prop:=∃cv g,e=.returned cv∧HR g hp' w∧FR g₀ hp₀ w₀ g hp' w∧VRel g.I g.ρ hp'.length w v cv∧au g w .res v cv
theorem ao1{F:Gh->Prop}{fn:Func}{B:List RV}(S:iq P B fn.results.toList=true)(h5:fn.results.toList.length<=5)(h:SR g s w a)(A:∀r,F (g.hand r)){v:V}{hp':List ai}
  (o:(sQ s B).map (λv=>(v,s.hp))=some (v,hp')):∃cv,(results fn a.tmps).run P w=.ok cv w∧∃u E,Dn cv=.returned u∧HR E hp' w∧F E∧VRel E.I E.ρ hp'.length w v u∧au E w .res v u:=by
 obtain⟨v',d,G⟩:=An.1 o;simp only[Ap] at G;obtain⟨rfl,rfl⟩:=G;have O:∃f,rvs s B=some f:=by
  unfold sQ at d;cases A:rvs s B with
  |none=>rw[A] at d;simp at d
  |some f=>exact⟨f,rfl⟩
 obtain⟨f,q⟩:=O;obtain⟨cvs,J,l2,l3,Z,C,H⟩:=ao0 h S q;have m:=aoi (fn:=fn) (a:=a) (P:=P) (w:=w) rfl (by rw[l3,J]) h5 Z;unfold sQ at d;rw[q] at d;clear q l3 Z o;match B,f,cvs,J,l2,C,H,m,d with
 | [x],[R],[p],_,_,C,H,m,d=>
   simp only[Ah] at d;subst d;have j:=H 0 x R p rfl rfl rfl;have D:=C 0 R p rfl rfl;cases x with
   |t n=>
    simp only[apN] at j;refine⟨p,m,p,g.hand (some n),rfl,h.hr.hand _,A _,D,?_⟩;unfold au at j ⊢;split;·rename_i k xs ad a5 cap;obtain⟨N,X,L⟩:=j;exact⟨by simp[Gh.hand,N],X,L⟩
    ·obtain⟨N,X,L⟩:=j;exact⟨by simp[Gh.hand,N],X,L⟩
    ·rcases j with j|⟨b,cap,M,e,fz,m0,m1,m2,m3,m4,m5⟩
     ·exact .inl j
     ·exact .inr ⟨b,cap,M,e,fz,m0,m1,m2,m3,by simp[Gh.hand,m4],m5⟩
    ·trivial
   |cell n al agg=>exact⟨p,m,p,g.hand none,rfl,h.hr.hand _,A _,D,il j _ _ _ _⟩
 | [],[],[],_,_,C,H,m,d=>simp only[Ah] at d;subst d;exact⟨_,m,_,g.hand none,rfl,h.hr.hand _,A _,.tup [] #[] rfl (by simp),by simp[au]⟩
 |x::y::B,R::v1::f,p::c1::cvs,J,_,C,H,m,d=>simp only[Ah] at d;subst d;refine⟨_,m,_,g.hand none,rfl,h.hr.hand _,A _,.tup _ _ (by simpa using J.symm) ?_,by simp[au]⟩;intro i c cv Y W;rw[Ay,An] at Y;obtain⟨c',Q,rfl⟩:=Y;exact(C i c' cv Q (by simpa using W)).disown
theorem amW{g₀:Gh}{hp₀:List ai}{w₀:World}{fn:Func}{i:List RV}(d:iq P i fn.results.toList=true)(k:fn.results.toList.length<=5)(h:SR g s w a)(f:FR g₀ hp₀ w₀ g s.hp w){v:V}{hp':List ai}
  (b:(sQ s i).map (λv=>(v,s.hp))=some (v,hp')):∃cv,(results fn a.tmps).run P w=.ok cv w∧RQ g₀ hp₀ w₀ v hp' (.returned cv) w:=by
 have e:hp'=s.hp:=by obtain⟨m,_,c⟩:=An.1 b;simp only[Ap] at c;exact c.2.symm
 subst e;exact ao1 (F:=λj=>FR g₀ hp₀ w₀ j s.hp w) d k h (λr=>f.hand r) b
theorem asN(t:cY P Γ){imp:List Nat}(H:dx Γ imp){fn:Func}{c:Code}{u:IR}{q:List RV}{n:Nat}{vs:List V}{hp hp':List ai}{v:V}
  (F:ba P imp hp.length u c=true) (y:iq P q fn.results.toList=true) (E:fn.results.toList.length<=5)
  (o:wt Γ n fn.ntmps q u vs hp=some (v,hp')) {w:World} {g:Gh} {b:Array Value} (B:ua P g w) (m:HR g hp w) (p:vs.length=b.size) (f:∀x∈vs,x.bare=true)
  (k:∀(i:Nat) x cv,vs[i]? =some x->b[i]? =some cv->VRel g.I g.ρ hp.length w x cv):
  c.wp P (bodyPost P fn (RQ g hp w v hp')) {tmps:=b++Array.replicate (fn.ntmps-b.size) undef,defers:=[]} w:=by
 have h:=fS (df:=[]) t ⟨B,m.notI⟩ H n (Am _) u c F (fin q) (start fn.ntmps vs hp) _ w g o ⟨ahO m p f k,FR.refl _ _ _,rfl⟩;refine wp_mono h ?_;rintro e C w' ⟨G,s',J,D,A,r⟩
 have d:∀v hp',(sQ s' q).map (λv=>(v,s'.hp))=some (v,hp')->C.defers=[]∧∃cv,(results fn C.tmps).run P w'=.ok cv w'∧RQ g hp w v hp' (.returned cv) w':=
  λv hp' j=>⟨r.df,amW y E r.sr r.fr j⟩
 cases G with
 |normal=>cases e<;>simp only[jL] at D;exact d _ _ A
 |exit i=>simp[fin] at A
 |ret=>cases e<;>simp only[jL] at D;exact d _ _ A
theorem as3(m:cY P Γ){imp:List Nat}(u:dx Γ imp){f:FuncId}{fn:Func}{b:Code}{q:IR}{p:List RV}{n:Nat}{vs:List V}{hp hp':List ai}{v:V}
  (r:P.funcs[f]? =some fn) (y:fn.body=some b) (x:ba P imp hp.length q b=true) (i:iq P p fn.results.toList=true) (t:fn.results.toList.length<=5)
  (e:wt Γ n fn.ntmps p q vs hp=some (v,hp')):io P f vs hp v hp':=
 λw g j o k d c h=>calls_of_wp r y (asN m u x i t e o k d c h)
end
def V.flatE:V->Bool
 | .ea cs=>cs.all V.flat1
 |v=>v.flat1
def V.flat2:V->Bool
 | .agg cs=>cs.all V.flat1
 | .ea cs=>cs.all V.flat1
 | .fn _ cs=>cs.all V.flatE
 |v=>v.flat1
def V.flat:V->Bool
 | .tup cs=>cs.all V.flat2
 |v=>v.flat2
section
variable{I:Nat->Nat->Prop}{ρ ρ':Nat->Nat}{N N':Nat}{w:World}{P:Program}
theorem VRel.flatE{v:V}{cv:Value}(h:VRel I ρ N w v cv)(e:v.flatE=true):VRel I ρ' N' w v cv:=by
 cases h with
 |ea cs b a f t m r g=>simp only[V.flatE,Al] at e;exact .ea cs b a f t m r (λj c i=>(g j c i).flat1 (e c (Ai i)))
 |bool b=>exact .bool b
 |int k n h=>exact .int k n h
 |str l s d h=>exact .str l s d h
 |sln k o=>exact .sln k o
 |sle k o u x=>exact .sle k o u x
 |sl k o xs b a q cap d i y p f m r g=>exact(VRel.sl k o xs b a q cap d i y p f m r g).flat1 rfl
 |nilp=>exact .nilp
 |nilif=>exact .nilif
 |fn f cs vs d g=>
  cases cs with
  |nil=>exact .fn f [] vs d (by simp)
  |cons c cs=>simp[V.flatE,V.flat1] at e
 |_=>simp[V.flatE,V.flat1] at e
theorem VRel.flat2{v:V}{cv:Value}(h:VRel I ρ N w v cv)(m:v.flat2=true):VRel I ρ' N' w v cv:=by
 cases h with
 |ea cs b d f q p u e=>exact(VRel.ea cs b d f q p u e).flatE m
 |agg cs vs j q B e=>simp only[V.flat2,Al] at m;exact .agg cs vs j q B (λi c cv g a=>(e i c cv g a).flat1 (m c (Ai g)))
 |bool b=>exact .bool b
 |int k n h=>exact .int k n h
 |str l s j h=>exact .str l s j h
 |sln k o=>exact .sln k o
 |sle k o x y=>exact .sle k o x y
 |sl k o xs b d t cap j g A r f p u e=>exact(VRel.sl k o xs b d t cap j g A r f p u e).flat1 rfl
 |nilp=>exact .nilp
 |nilif=>exact .nilif
 |fn f cs vs j e=>simp only[V.flat2,Al] at m;exact .fn f cs vs j (λi c cv g a=>(e i c cv g a).flatE (m c (Ai g)))
 |_=>simp[V.flat2,V.flat1] at m
theorem VRel.flat{v:V}{cv:Value}(h:VRel I ρ N w v cv)(g:v.flat=true):VRel I ρ' N' w v cv:=by
 cases h with
 |tup cs vs d a=>simp only[V.flat,Al] at g;exact .tup cs vs d (λi c cv j m=>(a i c cv j m).flat2 (g c (Ai j)))
 |agg cs vs d q B a=>exact(VRel.agg cs vs d q B a).flat2 g
 |bool b=>exact .bool b
 |int k n h=>exact .int k n h
 |str l s d h=>exact .str l s d h
 |sln k o=>exact .sln k o
 |sle k o x y=>exact .sle k o x y
 |sl k o xs b e t cap d j A r f p u a=>exact(VRel.sl k o xs b e t cap d j A r f p u a).flat1 rfl
 |nilp=>exact .nilp
 |nilif=>exact .nilif
 |fn f cs vs d a=>exact(VRel.fn f cs vs d a).flat2 g
 |ea cs b e f q p u a=>exact(VRel.ea cs b e f q p u a).flat2 g
 |_=>simp[V.flat,V.flat2,V.flat1] at g
def aK(P:Program)(f:FuncId)(vs:List V)(v:V):Prop:=∃hp',io P f vs [] v hp'
theorem aK.frame{f:FuncId}{vs:List V}{v:V}(h:aK P f vs v)(hf:vs.all V.flat=true)(Q:v.flat=true)(hp:List ai):io P f vs hp v hp:=by
 obtain⟨hp',h⟩:=h;intro w g E S m L F J;let g₀:Gh:={I:=g.I,ρ:=g.ρ,O:=λ_=>none,β:=g.β}
 have h0:HR g₀ [] w:=⟨by simp,by simp,by simp,by simp,m.exI,by simp[g₀]⟩
 refine(h w g₀ E (S.sub rfl (λh=>h) (λh=>by simp[g₀,h])) h0 L F (λi x cv Z r=>(J i x cv Z r).flat (Al.1 hf x (Ai Z)))).mono ?_;rintro e w' ⟨cv,g₁,rfl,X,t,q3,Y⟩;have blk:∀b,b<w.heap.size->w'.heap[b]? =w.heap[b]?:=λb d=>t.block b d (by simp) rfl
 have p:∀b j,b<w.heap.size->g₁.I b j->g.I b j:=λb j d y=>t.iSame b j d (by simp) rfl y
 have B:∀b,b<w.heap.size->g₁.O b=none:=λb d=>t.oSame b d (by simp) rfl
 let a:Gh:={I:=g₁.I,ρ:=g.ρ,O:=λb=>if b<w.heap.size then g.O b else (if g₁.O b=some .res then some .res else none),β:=g.β}
 have up:Up g.I g.ρ hp.length w a.I a.ρ hp.length w':=⟨t.up.mono,t.up.cell,λ_ _=>rfl,Am _⟩
 have D:∀(id:Nat) cs,hp[id]? =some (some cs)->g.ρ id<w.heap.size:=by intro id cs hid;exact(m.obj id cs hid).lt
 have C:∀u v cv,au g w u v cv->au a w' u v cv:=by intro u v cv ho;refine b7 ho rfl (λb j y=>⟨up.mono b j y,up.cell b j y⟩) ?_;intro b d;have q:=m.oLt b u d;exact⟨by simp[a,q,d],blk b q,λj hj=>p b j q hj⟩
 refine⟨cv,a,rfl,⟨?_,m.apart,?_,?_,X.exI,?_⟩,⟨rfl,t.os,t.tape,t.output,t.size,λb d _ _=>blk b d,up,λb j d _ _ y=>p b j d y,?_,λ_ cs h=>.inl ⟨cs,h⟩⟩,?_,?_⟩
 ·intro id cs hid;refine(m.obj id cs hid).keep (blk _ (D id cs hid)) λG e W h1 A=>?_
  exact⟨A.len,A.plain,A.typedUp rfl up.rho up.num rfl,A.cold,A.one,λj c cv R r=>(A.rel j c cv R r).up up,λj c cv R r=>C _ _ _ (A.own j c cv R r),A.bn⟩
 ·intro id cs hid j y;exact m.notI id cs hid j (p _ j (D id cs hid) y)
 ·intro id cs hid;have:=D id cs hid;simp[a,this,m.notO id cs hid]
 ·intro b o d;simp only[a] at d;split at d;·rename_i q;exact AC q t.size
  ·split at d;·rename_i H;exact X.oLt b _ H
   ·simp at d
 ·intro b d _ hO;simp[a,d,hO]
 ·exact q3.flat Q
 ·unfold au at Y ⊢;split
  ·rename_i k xs ad a5 cap;obtain⟨M,o2,o3⟩:=Y;refine⟨?_,(by obtain⟨G,e,W,a1,a2,a3⟩:=o2;exact⟨G,e,W,a1,a2,λhk=>(a3 hk).trans t.beta⟩),o3⟩;have:¬ad.block<w.heap.size:=by
    intro q;rw[B _ q] at M;simp at M
   simp[a,this,M]
  ·simp[V.flat,V.flat2,V.flat1] at Q
  ·simp[V.flat,V.flat2,V.flat1] at Q
  ·trivial
theorem aK.frameU{f:FuncId}{vs:List V}{k:EK}{xs:List (Ty k)}(h:aK P f vs (.ul k xs))(hf:vs.all V.flat=true)(hp:List ai):io P f vs hp (.ul k xs) hp:=by
 obtain⟨hp',h⟩:=h;intro w g E Q m L F J;let g₀:Gh:={I:=g.I,ρ:=g.ρ,O:=λ_=>none,β:=g.β}
 have h0:HR g₀ [] w:=⟨by simp,by simp,by simp,by simp,m.exI,by simp[g₀]⟩
 refine(h w g₀ E (Q.sub rfl (λh=>h) (λh=>by simp[g₀,h])) h0 L F (λi x cv X r=>(J i x cv X r).flat (Al.1 hf x (Ai X)))).mono ?_;rintro e w' ⟨cv,g₁,rfl,W,t,q3,R⟩;have blk:∀b,b<w.heap.size->w'.heap[b]? =w.heap[b]?:=λb d=>t.block b d (by simp) rfl
 have p:∀b j,b<w.heap.size->g₁.I b j->g.I b j:=λb j d y=>t.iSame b j d (by simp) rfl y
 have B:∀b,b<w.heap.size->g₁.O b=none:=λb d=>t.oSame b d (by simp) rfl
 let a:Gh:={I:=g₁.I,ρ:=g.ρ,O:=λb=>if b<w.heap.size then g.O b else (if g₁.O b=some .res then some .res else none),β:=g.β}
 have up:Up g.I g.ρ hp.length w a.I a.ρ hp.length w':=⟨t.up.mono,t.up.cell,λ_ _=>rfl,Am _⟩
 have D:∀(id:Nat) cs,hp[id]? =some (some cs)->g.ρ id<w.heap.size:=by intro id cs hid;exact(m.obj id cs hid).lt
 have C:∀u v cv,au g w u v cv->au a w' u v cv:=by intro u v cv ho;refine b7 ho rfl (λb j y=>⟨up.mono b j y,up.cell b j y⟩) ?_;intro b d;have q:=m.oLt b u d;exact⟨by simp[a,q,d],blk b q,λj hj=>p b j q hj⟩
 refine⟨cv,a,rfl,⟨?_,m.apart,?_,?_,W.exI,?_⟩,⟨rfl,t.os,t.tape,t.output,t.size,λb d _ _=>blk b d,up,λb j d _ _ y=>p b j d y,?_,λ_ cs h=>.inl ⟨cs,h⟩⟩,?_,?_⟩
 ·intro id cs hid;refine(m.obj id cs hid).keep (blk _ (D id cs hid)) λG e S h1 A=>?_
  exact⟨A.len,A.plain,A.typedUp rfl up.rho up.num rfl,A.cold,A.one,λj c cv M r=>(A.rel j c cv M r).up up,λj c cv M r=>C _ _ _ (A.own j c cv M r),A.bn⟩
 ·intro id cs hid j y;exact m.notI id cs hid j (p _ j (D id cs hid) y)
 ·intro id cs hid;have:=D id cs hid;simp[a,this,m.notO id cs hid]
 ·intro b o d;simp only[a] at d;split at d;·rename_i q;exact AC q t.size
  ·split at d;·rename_i H;exact W.oLt b _ H
   ·simp at d
 ·intro b d _ hO;simp[a,d,hO]
 ·cases q3 with
  |ul _ _ Z cap hm=>exact .ul _ _ Z cap hm
 ·have no:∀b,g₁.O b=some .res->a.O b=some .res:=by
   intro b d;have:¬b<w.heap.size:=by intro q;rw[B _ q] at d;simp at d
   simp[a,this,d]
  rcases R with R|⟨b,cap,G,e,S,m0,m1,m2,m3,m4,m5,m6,m7,Y,m9⟩
  ·exact .inl R
  ·exact .inr ⟨b,cap,G,e,S,m0,m1,m2,m3,no _ m4,m5,m6,λhk=>(m7 hk).trans t.beta,Y,m9⟩
def V.flatU:V->Bool
 | .ul _ _=>true
 |v=>v.flat
theorem aK.frameR{f:FuncId}{vs:List V}{v:V}(h:aK P f vs v)(a:vs.all V.flat=true)(c:v.flatU=true)(hp:List ai):io P f vs hp v hp:=by
 by_cases b:∃k xs,v=.ul k xs;·obtain⟨k,xs,rfl⟩:=b;exact h.frameU a hp
 ·refine h.frame a ?_ hp;cases v<;>first|exact c|exact absurd ⟨_,_,rfl⟩ b
def V.fits:V->Prop
 | .int k n=>k.min<=n∧n<=k.max
 | .str l=>l.length<=dl
 | .sl _ _ xs=>xs.length<=dl
 | .agg cs=>∀c∈cs,match c with
   | .int k n=>k.min<=n∧n<=k.max
   | .str l=>l.length<=dl
   | .sl _ _ xs=>xs.length<=dl
   |_=>True
 |_=>True
theorem VRel.fits{v:V}{cv:Value}(h:VRel I ρ N w v cv):v.fits:=by
 cases h with
 |int k n h=>exact h
 |str l s a h=>subst a;simpa [V.fits,om] using h
 |sln=>simp[V.fits]
 |sle=>simp[V.fits]
 |sl k o xs b e g cap a m u q f p t j=>simp only[V.fits];omega
 |agg cs vs a x y j=>
  intro c m;obtain⟨i,r,rfl⟩:=AS.1 m;have d:=j i _ _ (Ab r) (Ao (by omega));generalize cs[i]=c at d;generalize vs[i]'(by omega)=cv at d;cases d with
  |int k n h=>exact h
  |str l s a h=>subst a;simpa [om] using h
  |sln=>simp
  |sle=>simp
  |sl k o xs b e g cap a m u q f p t j=>simp only;omega
  |_=>trivial
 |_=>trivial
theorem aK.fits{f:FuncId}{vs:List V}{v:V}(h:(∀x∈vs,x.fits)->aK P f vs v):aK P f vs v:=by
 by_cases e:∀x∈vs,x.fits;·exact h e
 ·refine⟨[],?_⟩;intro w g c o j d b a;refine absurd ?_ e;intro x k;obtain⟨i,m,rfl⟩:=AS.1 k;exact(a i _ _ (Ab m) (Ao (by omega))).fits
end
def V.flatO:V->Bool
 | .bn _ _=>true
 | .ul _ _=>true
 |v=>v.flat1
section
variable{I:Nat->Nat->Prop}{ρ ρ':Nat->Nat}{N N':Nat}{w:World}{P:Program}
theorem VRel.flatO{v:V}{cv:Value}(h:VRel I ρ N w v cv)(m:v.flatO=true):VRel I ρ' N' w v cv:=by
 cases h with
 |bn E n p=>exact .bn E n p
 |ul k xs e cap j=>exact .ul k xs e cap j
 |bool b=>exact .bool b
 |int k n h=>exact .int k n h
 |str l s a h=>exact .str l s a h
 |sln k o=>exact .sln k o
 |sle k o e t=>exact .sle k o e t
 |sl k o xs b d i cap a x j g f r u q=>exact(VRel.sl k o xs b d i cap a x j g f r u q).flat1 rfl
 |nilp=>exact .nilp
 |nilif=>exact .nilif
 |fn f cs vs a q=>
  cases cs with
  |nil=>exact .fn f [] vs a (by simp)
  |cons c cs=>simp[V.flatO,V.flat1] at m
 |_=>simp[V.flatO,V.flat1] at m
theorem ae2{cs:List V}(h:cs.all V.flatO=true):dm cs=false:=by
 unfold dm;split;·simp[V.flatO,V.flat1] at h
 ·simp[V.flatO,V.flat1] at h
 ·simp[V.flatO,V.flat1] at h
 ·rfl
theorem au.reloc{g m:Gh}{w:World}{d c:Occ}{v:V}{cv:Value}(h:au g w d v cv)(f:m.β=g.β)(j:m.I=g.I)
  (r:∀b,g.O b=some d->m.O b=some c):au m w c v cv:=by
 unfold au at h ⊢;split;·rename_i k xs a H cap;obtain⟨t,⟨i,C,q,F,M,G⟩,o⟩:=h;exact⟨r _ t,⟨i,C,q,F,M,λu=>(G u).trans f.symm⟩,by rw[j];exact o⟩
 ·obtain⟨t,S,o⟩:=h;exact⟨r _ t,S,by rw[j];exact o⟩
 ·rcases h with h|⟨b,cap,p,e,q,A,D,J,E,L,y,Q,B,R,x⟩
  ·exact .inl h
  ·exact .inr ⟨b,cap,p,e,q,A,D,J,E,r _ L,y,Q,λu=>(B u).trans f.symm,by rw[j];exact R,by rw[j];exact x⟩
 ·trivial
def V.ren(σ:Nat->Nat):V->V
 | .ptr i o=>.ptr (σ i) o
 |v=>v
def V.flatP(n:Nat):V->Bool
 | .ptr i 0=>decide (i<n)
 |v=>v.flat
theorem V.ren_flat{σ:Nat->Nat}{v:V}(h:v.flat=true):v.ren σ=v:=by cases v<;>simp[V.flat,V.flat2,V.flat1] at h<;>rfl
theorem V.ren_bare{σ:Nat->Nat}{v:V}:(v.ren σ).bare=v.bare:=by cases v<;>rfl
def aS(P:Program)(f:FuncId)(avs:List V)(css:List (List V))(v:V)(css':List (List V)):Prop:=
 css'.length=css.length∧∃rest,io P f avs (css.map some) v (css'.map some++rest)
theorem aS.frame{f:FuncId}{avs:List V}{css css':List (List V)}{v:V}(h:aS P f avs css v css')(ha:avs.all (V.flatP css.length)=true)(hv:v.flat=true)
  (hc:css.all (λcs=>cs.all V.flatO)=true) (dk:css'.all (λcs=>cs.all V.flatO)=true) {hp hp':List ai} {σ:Nat->Nat}
  (b6:∀k k',k<css.length->k'<css.length->σ k=σ k'->k=k')
  (h1:∀(k:Nat) cs,css[k]? =some cs->hp[σ k]? =some (some cs)) (h2:hp'.length=hp.length)
  (h3:∀(k:Nat) cs,css'[k]? =some cs->hp'[σ k]? =some (some cs))
  (h4:∀id,(∀k,k<css.length->σ k≠id)->hp'[id]? =hp[id]?):io P f (avs.map (V.ren σ)) hp v hp':=by
 obtain⟨c2,rest,h⟩:=h;intro w g W c1 t b4 a9 b3;have b2:∀(k:Nat) cs,css[k]? =some cs->cs.all V.flatO=true:=λk cs a=>Al.1 hc cs (Ai a)
 have a0:∀(k:Nat) cs,css'[k]? =some cs->cs.all V.flatO=true:=λk cs a=>Al.1 dk cs (Ai a)
 have H:∀(k:Nat) cs,css[k]? =some cs->k<css.length:=λk cs a=>(Ad.1 a).1
 have y:∀(k:Nat) cs,(css.map some)[k]? =some (some cs)->css[k]? =some cs:=by
  intro k cs a;rw[Ay] at a;cases Q:css[k]? with
  |none=>rw[Q] at a;simp at a
  |some x=>rw[Q] at a;simpa using a
 have sub:∀k,k<css.length->∃cs,css[k]? =some cs∧hp[σ k]? =some (some cs):=λk a=>⟨css[k],Ab a,h1 k _ (Ab a)⟩
 let inv:Nat->Option Nat:=λi=>(A8 css.length).find? λk=>σ k==i
 have J:∀i k,inv i=some k->k<css.length∧σ k=i:=by intro i k a;have m1:=DI a;have m2:=List.find?_some a;exact⟨Bm.1 m1,by simpa using m2⟩
 have an:∀k,k<css.length->inv (σ k)=some k:=by
  intro k a;cases Q:inv (σ k) with
  |none=>have:=List.find?_eq_none.1 Q k (Bm.2 a);simp at this
  |some k'=>obtain⟨m1,m2⟩:=J _ _ Q;rw[b6 k' k m1 a m2]
 let g₀:Gh:={I:=g.I,ρ:=λk=>g.ρ (σ k),O:=λb=>match g.O b with|some (.cell i j)=>(inv i).map λk=>.cell k j|_=>none,β:=g.β}
 have gO:∀b o,g₀.O b=some o->∃k j,k<css.length∧o=.cell k j∧g.O b=some (.cell (σ k) j):=by
  intro b o q;simp only[g₀] at q;split at q
  ·rename_i i j hg;cases Q:inv i with
   |none=>rw[Q] at q;simp at q
   |some k=>rw[Q] at q;obtain⟨m1,m2⟩:=J _ _ Q;exact⟨k,j,m1,by simpa using q.symm,by rw[m2];exact hg⟩
  ·simp at q
 have gN:∀b,(∀k j,k<css.length->g.O b≠some (.cell (σ k) j))->g₀.O b=none:=by
  intro b q;cases Q:g₀.O b with
  |none=>rfl
  |some o=>obtain⟨k,j,a,_,m⟩:=gO b o Q;exact absurd m (q k j a)
 have gC:∀b k j,k<css.length->g.O b=some (.cell (σ k) j)->g₀.O b=some (.cell k j):=by intro b k j a q;simp[g₀,q,an k a]
 have c3:∀k,k<css.length->g₀.O (g.ρ (σ k))=none:=by intro k a;obtain⟨cs,_,hid⟩:=sub k a;exact gN _ (by intro k' j _ m;rw[t.notO _ cs hid] at m;cases m)
 have h0:HR g₀ (css.map some) w:=by
  refine⟨?_,?_,?_,?_,t.exI,?_⟩
  ·intro k c a;have a:=y k c a;refine(t.obj _ c (h1 k c a)).keep rfl λd1 e fz a1 D=>?_
   have hr:=ae2 (b2 k c a);refine⟨D.len,D.plain,by rw[jU hr];simp,D.cold,D.one,?_,?_,D.bn⟩;·intro j M cv m C;exact(D.rel j M cv m C).flatO (Al.1 (b2 k c a) M (Ai (by rw[eN hr] at m;exact m)))
   ·intro j M cv m C;exact(D.own j M cv m C).reloc rfl rfl λb q=>gC b k j (H k c a) q
  ·intro k k' c M a u A;have a:=y k c a;have u:=y k' M u;exact t.apart _ _ _ _ (h1 k c a) (h1 k' M u) λe=>A (b6 k k' (H k c a) (H k' M u) e)
  ·intro k c a;exact t.notI _ c (h1 k c (y k c a))
  ·intro k c a;exact c3 k (H k c (y k c a))
  ·intro b o q;obtain⟨k,j,_,_,m⟩:=gO b o q;exact t.oLt b _ m
 have bl:∀(i:Nat) x cv,avs[i]? =some x->W[i]? =some cv->VRel g₀.I g₀.ρ (css.map some).length w x cv:=by
  intro i x cv hx C;have hr:=b3 i (x.ren σ) cv (by rw[Ay,hx];rfl) C;have X:=Al.1 ha x (Ai hx);unfold V.flatP at X;split at X
  ·rename_i k;have a:k<css.length:=by simpa using X
   simp only[V.ren] at hr;cases hr with
   |ptr _ _ _=>exact .ptr k 0 (by simpa using a)
  ·rw[V.ren_flat X] at hr;exact hr.flat X
 refine(h w g₀ W (c1.sub rfl (λh=>h) (λh=>by simp[g₀,h])) h0 (by rw[<-b4,Bt]) (by intro x hx;have:=a9 (x.ren σ) (CO hx);rw[V.ren_bare] at this;exact this) bl).mono ?_;rintro ex w' ⟨cv,g₁,rfl,q1,S,q3,q4⟩;have r0:∀k,k<css.length->g₁.ρ k=g.ρ (σ k):=λk a=>S.up.rho k (by simpa using a)
 have Y:∀b,(∀k,k<css.length->g.ρ (σ k)≠b)->∀(k:Nat) cs,(css.map some)[k]? =some (some cs)->g₀.ρ k≠b:=λb q k cs a=>q k (H k cs (y k cs a))
 have blk:∀b,b<w.heap.size->(∀k,k<css.length->g.ρ (σ k)≠b)->g₀.O b=none->w'.heap[b]? =w.heap[b]?:=λb q A R=>S.block b q (Y b A) R
 let B:Gh:={I:=g₁.I,ρ:=g.ρ,O:=λb=>match g₁.O b with
  |some .res=>some .res
  |some (.cell k j)=>cond (B0 k css.length) (some (.cell (σ k) j)) none
  |some (.slot _)=>none
  |none=>if b<w.heap.size∧g₀.O b=none then g.O b else none,β:=g.β}
 have up:Up g.I g.ρ hp.length w B.I B.ρ hp'.length w':=⟨S.up.mono,S.up.cell,λ_ _=>rfl,by rw[h2];exact Am _⟩
 have a3:∀(i:Nat) c,hp[i]? =some (some c)->g.ρ i<w.heap.size:=by intro i c r;obtain⟨ob,h1⟩:=(t.obj i c r).block;exact(AP.1 h1).1
 have a5:∀(k:Nat) cs,css'[k]? =some cs->(css'.map some++rest)[k]? =some (some cs):=by intro k cs a;rw[Ar (by simpa using (Ad.1 a).1),Ay,a];rfl
 have key:∀(i:Nat) c,hp'[i]? =some (some c)->(∃k d,k<css.length∧i=σ k∧css'[k]? =some c∧hp[i]? =some (some d))∨((∀k,k<css.length->σ k≠i)∧hp[i]? =some (some c)):=by
  intro i c r;by_cases a:∃k,k<css.length∧σ k=i
  ·obtain⟨k,a,rfl⟩:=a;obtain⟨d,_,p⟩:=sub k a;have u:k<css'.length:=by omega
   have:=h3 k _ (Ab u);rw[this] at r;exact .inl ⟨k,d,a,rfl,by rw[Ab u];simpa using r,p⟩
  ·have hn:∀k,k<css.length->σ k≠i:=λk u e=>a ⟨k,u,e⟩
   exact .inr ⟨hn,(h4 i hn).symm.trans r⟩
 have G:∀(i:Nat) c,hp'[i]? =some (some c)->∃d,hp[i]? =some (some d):=by
  intro i c r;rcases key i c r with⟨_,d,_,_,_,h⟩|⟨_,h⟩
  ·exact⟨d,h⟩
  ·exact⟨c,h⟩
 have F:∀(i:Nat) c,(∀k,k<css.length->σ k≠i)->hp[i]? =some (some c)->∀k,k<css.length->g.ρ (σ k)≠g.ρ i:=by intro i c hn r k a;obtain⟨d,_,p⟩:=sub k a;exact t.apart _ _ _ _ p r (hn k a)
 have L:∀b,b<w.heap.size->(∀k,k<css.length->g.ρ (σ k)≠b)->g₀.O b=none->B.O b=g.O b:=by intro b q A R;have:=S.oSame b q (Y b A) R;simp only[B,this];rw[if_pos ⟨q,R⟩]
 have al:∀b o,g.O b=some o->∀k,k<css.length->g.ρ (σ k)≠b:=by intro b o q k a e;obtain⟨d,_,p⟩:=sub k a;rw[<-e,t.notO _ d p] at q;cases q
 refine⟨cv,B,rfl,⟨?_,?_,?_,?_,q1.exI,?_⟩,⟨rfl,S.os,S.tape,S.output,S.size,?_,up,?_,?_,?_⟩,?_,?_⟩
 ·intro i c r;rcases key i c r with⟨k,d,a,rfl,u,hid⟩|⟨A,r⟩
  ·refine(q1.obj k c (a5 k c u)).keep (by rw[r0 k a]) λcc e' fz a1 D=>?_
   rw[r0 k a] at a1;have hr:=ae2 (a0 k c u);refine⟨D.len,D.plain,by rw[jU hr];simp,D.cold,D.one,?_,?_,?_⟩;·intro j M cv m C;exact(D.rel j M cv m C).flatO (Al.1 (a0 k c u) M (Ai (by rw[eN hr] at m;exact m)))
   ·intro j M cv m C;refine(D.own j M cv m C).reloc S.beta.symm rfl λb q=>?_
    have c0:B0 k css.length=true:=by rw[Cd];exact a
    simp[B,q,c0]
   ·intro j E n m;have:=D.bn j E n m;rw[r0 k a] at this;exact this
  ·have Z:g₀.O (g.ρ i)=none:=gN _ (by intro k j _ m;rw[t.notO i c r] at m;cases m);refine(t.obj i c r).keep (blk _ (a3 i c r) (F i c A r) Z) λcc e' fz a1 D=>?_
   refine⟨D.len,D.plain,D.typedUp rfl (λ_ _=>rfl) up.num rfl,D.cold,D.one,λj c cv m C=>(D.rel j c cv m C).up up,?_,D.bn⟩;intro j M cv m C;refine b7 (D.own j M cv m C) rfl (λb j r=>⟨up.mono b j r,up.cell b j r⟩) ?_;intro b q;have a4:=t.oLt b _ q;have R:g₀.O b=none:=gN _ (by intro k j' a b1;rw[q] at b1;cases b1;exact A k a rfl);have ad:=al b _ q;exact⟨(L b a4 ad R).trans q,blk b a4 ad R,λj m=>S.iSame b j a4 (Y b ad) R m⟩
 ·intro i i' c M r cy A;obtain⟨d,m1⟩:=G i c r;obtain⟨dw,m2⟩:=G i' M cy;exact t.apart _ _ _ _ m1 m2 A
 ·intro i c r j m;rcases key i c r with⟨k,d,a,rfl,u,hid⟩|⟨A,r⟩
  ·have:=q1.notI k c (a5 k c u) j;rw[r0 k a] at this;exact this m
  ·have Z:g₀.O (g.ρ i)=none:=gN _ (by intro k j _ m;rw[t.notO i c r] at m;cases m);exact t.notI i c r j (S.iSame _ j (a3 i c r) (Y _ (F i c A r)) Z m)
 ·intro i c r;rcases key i c r with⟨k,d,a,rfl,u,hid⟩|⟨A,r⟩
  ·have:=q1.notO k c (a5 k c u);rw[r0 k a] at this;simp only[B,this];split;·exact t.notO _ d hid
   ·rfl
  ·have Z:g₀.O (g.ρ i)=none:=gN _ (by intro k j _ m;rw[t.notO i c r] at m;cases m);exact(L _ (a3 i c r) (F i c A r) Z).trans (t.notO i c r)
 ·intro b o q;simp only[B] at q;split at q;·rename_i Q;exact q1.oLt b _ Q
  ·rename_i Q;exact q1.oLt b _ Q
  ·simp at q
  ·split at q;·rename_i Q;exact AC Q.1 S.size
   ·simp at q
 ·intro b q ho R;exact blk b q (λk a e=>by obtain⟨d,_,p⟩:=sub k a;exact ho _ d p e) (gN _ (by intro k j _ m;rw[R] at m;cases m))
 ·intro b j q ho R r;exact S.iSame b j q (Y b λk a e=>by obtain⟨d,_,p⟩:=sub k a;exact ho _ d p e) (gN _ (by intro k j _ m;rw[R] at m;cases m)) r
 ·intro b q ho R;exact(L b q (λk a e=>by obtain⟨d,_,p⟩:=sub k a;exact ho _ d p e) (gN _ (by intro k j _ m;rw[R] at m;cases m))).trans R
 ·intro i c r;exact .inl (G i c r)
 ·exact q3.flat hv
 ·exact q4.reloc S.beta.symm rfl λb q=>by simp[B,q]
def asO(P:Program)(f:FuncId)(vs cs:List V)(v:V)(a:List V):Prop:=∃rest,io P f (.ptr 0 0::vs) [some cs] v (some a::rest)
theorem V.flatP_flat{n:Nat}{v:V}(h:v.flat=true):v.flatP n=true:=by
 unfold V.flatP;split;·simp[V.flat,V.flat2,V.flat1] at h
 ·exact h
theorem alm{σ:Nat->Nat}:∀{vs:List V},vs.all V.flat=true->vs.map (V.ren σ)=vs
 | [],_=>rfl
 |v::vs,h=>by simp only[B7,Ac] at h;rw[Bn,V.ren_flat h.1,alm h.2]
theorem asO.frame{f:FuncId}{vs cs a:List V}{v:V}(h:asO P f vs cs v a)(j:vs.all V.flat=true)(p:v.flat=true)(q:cs.all V.flatO=true)(e:a.all V.flatO=true)
  {hp:List ai} {id:Nat} (hid:hp[id]? =some (some cs)):io P f (.ptr id 0::vs) hp v (hp.set id (some a)):=by
 obtain⟨rest,h⟩:=h;have d:id<hp.length:=(Ad.1 hid).1
 have:=aS.frame (P:=P) (f:=f) (avs:=.ptr 0 0::vs) (css:=[cs]) (css':=[a]) (v:=v) ⟨rfl,rest,h⟩ (hp:=hp) (hp':=hp.set id (some a)) (σ:=λ_=>id)
  (by simp only[B7,Ac];exact⟨rfl,Al.2 λx m=>V.flatP_flat (Al.1 j x m)⟩) p (by simpa using q) (by simpa using e)
  (by intro k k' c g _;simp at c g;omega) (by intro k b c;cases k<;>simp at c;rw[<-c];exact hid) (by simp)
  (by intro k b c;cases k<;>simp at c;rw[<-c];simp[d])
  (by intro i o;rw[AW (o 0 (by simp))])
 rw[Bn,alm j] at this;exact this
theorem dx.mono{Γ:av}{imp a:List Nat}(h:dx Γ imp)(e:imp.all (λx=>a.contains x)=true)(i:a.all (λx=>B0 x 2000000||imp.contains x)=true):dx Γ a:=by
 refine⟨?_,λf vs hp c v hp' b=>h.loc f vs hp c v hp' ?_⟩
 rotate_left
 ·have:=Al.1 i (f+2000000) (by simpa using b);simp only[Ba,Cd] at this;rcases this with d|d;·omega
  ·exact d
 intro f vs hp b;refine h.pure f vs hp ?_;cases g:imp.contains f with
 |false=>rfl
 |true=>have:=Al.1 e f (by simpa using g);rw[this] at b;simp at b
def qZ:Nat->List V->List V
 |_,[]=>[]
 |k,.ptr _ 0::vs=>.ptr k 0::qZ (k+1) vs
 |k,v::vs=>v::qZ k vs
def jM(hp:List ai):List Nat->Option (List (List V))
 | []=>some []
 |i::is=>match hp.getD i none with
  |some cs=>match jM hp is with
   |some css=>some (cs::css)
   |none=>none
  |none=>none
def my:List ai->List Nat->List (List V)->List ai
 |hp,i::is,c::cs=>my (hp.set i (some c)) is cs
 |hp,_,_=>hp
def ud:List Nat->Bool
 | []=>true
 |i::is=> !(is.any (As i))&&ud is
abbrev yG:=Nat->List V->List (List V)->Option (Bool×V×List (List V))
def rM(G:yG)(Γ:av):av:=λf vs hp=>
 match jM hp (eZ vs) with
 |some css=>match G f (qZ 0 vs) css with
  |some (c,v,css')=>cond (ud (eZ vs)&&As css'.length css.length&&(qZ 0 vs).all (V.flatP css.length)&&v.flat&&css.all (λcs=>cs.all V.flatO)&&css'.all (λcs=>cs.all V.flatO))
    (some (c,v,my hp (eZ vs) css')) none
  |none=>Γ f vs hp
 |none=>Γ f vs hp
theorem yH:∀{l:List Nat},ud l=true->l.Nodup
 | [],_=>CC
 |i::is,h=>by simp only[ud,Ac,Bk,List.any_eq_false] at h;refine List.nodup_cons.2 ⟨λa=>?_,yH h.2⟩;exact h.1 i a (by simp)
theorem aaA{hp:List ai}:∀{is:List Nat}{css:List (List V)},jM hp is=some css->css.length=is.length∧∀(k:Nat) cs,css[k]? =some cs->hp[is.getD k 0]? =some (some cs)
 | [],css,h=>by simp only[jM,Ah] at h;subst h;simp
 |i::is,css,h=>by
  simp only[jM] at h;split at h
  ·rename_i cs a;split at h
   ·rename_i b j;simp only[Ah] at h;subst h;obtain⟨f,g⟩:=aaA j;refine⟨by simp[f],λk c d=>?_⟩;cases k with
    |zero=>
     simp only[A4,Ah] at d;subst d;rw[Af] at a;simp only[Cm];cases e:hp[i]? with
     |none=>rw[e] at a;simp at a
     |some x=>rw[e] at a;simpa using a
    |succ k=>simp only[AV] at d;simpa using g k c d
   ·simp at h
  ·simp at h
theorem xm:∀{is:List Nat}{hp:List ai}{css:List (List V)},(my hp is css).length=hp.length
 | [],hp,css=>by cases css<;>rfl
 |i::is,hp,[]=>rfl
 |i::is,hp,c::cs=>by simp[my,xm]
theorem yh:∀{is:List Nat}{hp:List ai}{css:List (List V)}{id:Nat},id ∉ is->(my hp is css)[id]? =hp[id]?
 | [],hp,css,id,_=>by cases css<;>rfl
 |i::is,hp,[],id,_=>rfl
 |i::is,hp,c::cs,id,h=>by simp only[AQ,not_or] at h;rw[my,yh h.2,AW (λe=>h.1 e.symm)]
theorem ae3:∀{is:List Nat}{hp:List ai}{css:List (List V)},is.Nodup->(∀i∈is,i<hp.length)->∀(k:Nat) cs,k<is.length->css[k]? =some cs->(my hp is css)[is.getD k 0]? =some (some cs)
 | [],_,_,_,_,k,_,d,_=>by simp at d
 |i::is,hp,[],_,_,k,_,_,h=>by simp at h
 |i::is,hp,c::cs,f,e,k,g,d,h=>by
  obtain⟨a,b⟩:=List.nodup_cons.1 f;cases k with
  |zero=>simp only[A4,Ah] at h;subst h;simp only[Cm,my];rw[yh a];simp[e i AU]
  |succ k=>simp only[AV] at h;simp only[Dq,my];exact ae3 b (λj m=>by simpa using e j (AT _ m)) k g (by simpa using d) h
theorem ae4{σ:Nat->Nat}{n:Nat}:∀{vs:List V}{k:Nat},(∀i,i<(eZ vs).length->σ (k+i)=(eZ vs).getD i 0)->(qZ k vs).all (V.flatP n)=true->(qZ k vs).map (V.ren σ)=vs
 | [],_,_,_=>rfl
 |v::vs,k,a,b=>by
  by_cases c:∃i,v=.ptr i 0;·obtain⟨i,rfl⟩:=c;simp only[qZ,Bn,V.ren];simp only[eZ] at a;simp only[qZ,B7,Ac] at b;have e:=a 0 (by simp);simp only[Cl,Cm] at e;rw[e,ae4 (λj h=>by have:=a (j+1) (by simp;omega);rw[Dq] at this;rw[<-this];congr 1;omega) b.2]
  ·have g:qZ k (v::vs)=v::qZ k vs:=by
    cases v<;>try rfl
    rename_i i o;cases o with
    |zero=>exact absurd ⟨i,rfl⟩ c
    |succ o=>rfl
   have f:eZ (v::vs)=eZ vs:=by
    cases v<;>try rfl
    rename_i i o;cases o with
    |zero=>exact absurd ⟨i,rfl⟩ c
    |succ o=>rfl
   rw[f] at a;rw[g] at b ⊢;simp only[B7,Ac] at b;have d:v.flat=true:=by
    have:=b.1;unfold V.flatP at this;split at this;·rename_i i;exact absurd ⟨i,rfl⟩ c
    ·exact this
   rw[Bn,V.ren_flat d,ae4 a b.2]
theorem aq3{G:yG}{Γ:av}(E:∀f avs css v css',G f avs css=some (true,v,css')->aS P f avs css v css')(b:cY P Γ):cY P (rM G Γ):=by
 intro f vs hp v hp' h;unfold rM at h;split at h
 ·rename_i css o;split at h
  ·rename_i c M css' B;cases a:(ud (eZ vs)&&As css'.length css.length&&(qZ 0 vs).all (V.flatP css.length)&&M.flat&&css.all (λcs=>cs.all V.flatO)&&css'.all (λcs=>cs.all V.flatO)) with
   |false=>rw[a] at h;simp at h
   |true=>
    rw[a] at h;simp only[cond_true,Ah,Ap] at h;obtain⟨rfl,rfl,rfl⟩:=h;simp only[Ac] at a;obtain⟨⟨⟨⟨⟨y,x⟩,r⟩,J⟩,H⟩,D⟩:=a;obtain⟨C,t⟩:=aaA o;have g:=yH y;have F:css'.length=css.length:=by simpa using x
    have:=aS.frame (E f _ css _ css' B) r J H D (hp:=hp) (hp':=my hp (eZ vs) css') (σ:=λk=>(eZ vs).getD k 0)
     (by intro k k' m d e;rw[C] at m d;simp only[Af,Ab m,Ab d,Bd] at e;exact(List.getElem_inj g).1 e)
     t xm
     (by
      intro k cs m;have L:k<css'.length:=(Ad.1 m).1;refine ae3 g ?_ k cs (by omega) m;intro i A;obtain⟨j,q,rfl⟩:=AS.1 A;have p:j<css.length:=by omega
      have:=t j _ (Ab p);rw[Af,Ab q,Bd] at this;exact(Ad.1 this).1)
     (by
      intro id u;refine yh λO=>?_
      obtain⟨j,q,rfl⟩:=AS.1 O;exact u j (by omega) (by rw[Af,Ab q,Bd]))
    rw[ae4 (n:=css.length) (λi _=>by rw[A1]) r] at this;exact this
  ·exact b _ _ _ _ _ h
 ·exact b _ _ _ _ _ h
theorem yI{hp a:List ai}:∀{is:List Nat},(∀i∈is,a[i]? =hp[i]?)->jM a is=jM hp is
 | [],_=>rfl
 |i::is,h=>by simp only[jM];rw[zU (h i (AU ..)),yI λj b=>h j (AT _ b)]
theorem uf:∀(is:List Nat)(hp:List ai)(css:List (List V)),my hp is css=aeT hp (is.zip (css.map some))
 | [],hp,css=>by cases css<;>rfl
 |i::is,hp,[]=>rfl
 |i::is,hp,c::css=>by simp only[my,Bn,List.zip_cons_cons];rw[uf is];rfl
theorem aoj{G:yG}{Γ:av}{imp:List Nat}(C:∀f avs css,imp.contains f=false->G f avs css=none)(m:dx Γ imp):dx (rM G Γ) imp:=by
 refine⟨?_,?_⟩
 ·intro f vs hp o;have e:∀hp,rM G Γ f vs hp=Γ f vs hp:=by
   intro hp;unfold rM;split;·rw[C f _ _ o]
   ·rfl
  rw[e,e];exact m.pure f vs hp o
 ·intro f vs hp c v hp' o h;have same:∀d:List ai,(∀i∈abf vs,d[i]? =hp[i]?)->jM d (eZ vs)=jM hp (eZ vs):=λd j=>yI λi B=>j i (acB (yf B))
  unfold rM at h;cases g:jM hp (eZ vs) with
  |none=>rw[g] at h;obtain⟨q,y,u,A⟩:=m.loc f _ _ _ _ _ o h;refine⟨q,y,u,λd t j=>?_⟩;simp only[rM,same d j,g];exact A d t j
  |some css=>
   rw[g] at h;simp only at h;cases r:G f (qZ 0 vs) css with
   |none=>rw[r] at h;obtain⟨q,y,u,A⟩:=m.loc f _ _ _ _ _ o h;refine⟨q,y,u,λd t j=>?_⟩;simp only[rM,same d j,g,r];exact A d t j
   |some x=>
    obtain⟨E,D,css'⟩:=x;rw[r] at h;simp only at h;cases k:(ud (eZ vs)&&As css'.length css.length&&(qZ 0 vs).all (V.flatP css.length)&&D.flat&&css.all (λcs=>cs.all V.flatO)&&css'.all (λcs=>cs.all V.flatO)) with
    |false=>rw[k] at h;simp at h
    |true=>
     rw[k] at h;simp only[cond_true,Ah,Ap] at h;obtain⟨rfl,rfl,rfl⟩:=h;refine⟨(eZ vs).zip (css'.map some),?_,uf _ _ _,λd t j=>?_⟩;·intro p hp;obtain⟨a,b⟩:=p;exact apC (List.of_mem_zip hp).1
     ·simp only[rM,same d j,g,r,k,cond_true];rw[uf]
end
def V.lend1(hp:List ai):V->V
 | .sw _ id n=>match hp.getD id none with
   |some [.rw k xs]=>.sl k (.may false) xs
   |_=>.undef
 |v=>v
def V.lend(hp:List ai):V->V
 | .agg cs=>.agg (cs.map (V.lend1 hp))
 |v=>v.lend1 hp
def V.lendT(hp:List ai):V->Bool
 | .sw _ id n=>match hp.getD id none with
   |some [.rw _ xs]=>As n xs.length
   |_=>false
 |_=>true
def V.isSw:V->Bool
 | .sw _ _ _=>true
 |_=>false
def ug(hp:List ai):List V->Bool->Bool
 | [],b=>b
 |v::r,b=>cond v.isSw (v.lendT hp&&ug hp r b) (ug hp r b)
def wK(hp:List ai):List V->Bool
 | []=>true
 |v::r=>ug hp v.cellsA (wK hp r)
def V.scal1:V->Bool
 | .bool _| .int _ _| .str _| .nilif=>true
 |_=>false
def V.scal:V->Bool
 | .tup cs=>cs.all V.scal1
 |v=>v.scal1
def uh(a:List Nat)(G:Nat->List V->Option (Bool×V))(Γ:av):av:=λf vs hp=>
 cond (a.elem f) (match Γ f vs hp with
  |some r=>some r
  |none=>match G f (vs.map (V.lend hp)) with
   |some (c,v)=>cond (v.scal&&(vs.map (V.lend hp)).all V.flat) (some (c&&wK hp vs,v,hp)) none
   |none=>none) (Γ f vs hp)
section
variable{I I':Nat->Nat->Prop}{ρ ρ':Nat->Nat}{N N':Nat}{w w':World}{P:Program}
theorem VRel.scal1{v:V}{cv:Value}(h:VRel I ρ N w v cv)(a:v.scal1=true):VRel I' ρ' N' w' v cv:=by
 cases h<;>simp[V.scal1] at a;·exact .bool _
 ·exact .int _ _ (by assumption)
 ·exact .str _ _ (by assumption) (by assumption)
 ·exact .nilif
theorem VRel.scal{v:V}{cv:Value}(h:VRel I ρ N w v cv)(b:v.scal=true):VRel I' ρ' N' w' v cv:=by
 by_cases d:∃cs,v=.tup cs
 ·obtain⟨cs,rfl⟩:=d;cases h with
  |tup cs vs g f=>simp only[V.scal,Al] at b;exact .tup cs vs g λi c cv e a=>(f i c cv e a).scal1 (b c (Ai e))
 ·refine h.scal1 ?_;cases v<;>first|exact b|exact absurd ⟨_,rfl⟩ d
theorem arX{v:V}(b:v.scal=true)(g:Gh)(a:Occ)(cv:Value):au g w a v cv:=by cases v<;>simp[V.scal,V.scal1] at b<;>simp[au]
theorem aq4{hp:List ai}{v:V}(h:(v.lend1 hp).flat1=true)(a:v.one=true):(v.lend1 hp).one=true:=by generalize v.lend1 hp=u at h;cases u<;>simp[V.flat1] at h<;>rfl
theorem aiP{hp:List ai}:∀{cs:List V}{b:Bool},ug hp cs b=true->b=true∧∀c∈cs,c.lendT hp=true
 | [],b,h=>⟨h,by simp⟩
 |v::r,b,h=>by
  simp only[ug] at h;have e:v.lendT hp=true∧ug hp r b=true:=by
   cases a:v.isSw with
   |true=>rw[a] at h;simpa using h
   |false=>rw[a] at h;refine⟨?_,by simpa using h⟩;cases v<;>first|rfl|simp[V.isSw] at a
  obtain⟨f,g⟩:=aiP e.2;exact⟨f,λc d=>by
   rcases AQ.1 d with rfl|d;·exact e.1
   ·exact g c d⟩
theorem aiQ{hp:List ai}:∀{vs:List V},wK hp vs=true->∀v∈vs,∀c∈v.cellsA,c.lendT hp=true
 | [],_=>by simp
 |v::r,h=>by
  obtain⟨d,e⟩:=aiP (b:=wK hp r) h;intro u a;rcases AQ.1 a with rfl|a;·exact e
  ·exact aiQ d u a
theorem arY{f:FuncId}{vs:List V}{hp:List ai}{v:V}(h:aK P f (vs.map (V.lend hp)) v)(hT:wK hp vs=true)(hs:v.scal=true)(hf:(vs.map (V.lend hp)).all V.flat=true):io P f vs hp v hp:=by
 obtain⟨hp',h⟩:=h;intro w g C bs p a0 W ar;let J:Nat->Nat->Prop:=λb j=>g.I b j∨∃(id:Nat)(k:EK)(xs:List (Ty k)),hp[id]? =some (some [.rw k xs])∧b=g.ρ id∧j<xs.length*k.sz
 let g₀:Gh:={I:=J,ρ:=g.ρ,O:=λ_=>none,β:=g.β}
 have h0:HR g₀ [] w:=by
  refine⟨by simp,by simp,by simp,by simp,?_,by simp[g₀]⟩;intro b j m;rcases m with m|⟨id,k,xs,hid,rfl,m⟩
  ·exact p.exI b j m
  ·obtain⟨A,e,fz,a1,a2⟩:=(p.obj id _ hid).row rfl;have X:=a2.len;simp only[cellsOf] at X;rw[bC] at X;exact .row a1 (by omega) (λ_ hz=>absurd hz ((a2.typed _ _ rfl).1 j (by omega)))
 have Q:∀N,Up g.I g.ρ N w J g.ρ N w:=λN=>⟨λb j m=>.inl m,λ_ _ _=>rfl,λ_ _=>rfl,Am _⟩
 have G:∀(x:V)(cv:Value),VRel g.I g.ρ hp.length w x cv->x.lendT hp=true->(x.lend1 hp).flat1=true->VRel J g.ρ 0 w (x.lend1 hp) cv:=by
  intro x cv Y u a;by_cases d:∃k id n,x=.sw k id n
  ·obtain⟨k0,id,n,rfl⟩:=d;simp only[V.lend1] at a ⊢;simp only[V.lendT] at u;split at a
   ·rename_i k xs hid;have F:hp[id]? =some (some [.rw k xs]):=by
     rw[Af] at hid;cases t:hp[id]? with
     |none=>rw[t] at hid;simp at hid
     |some y=>rw[t] at hid;simpa using hid
    rw[hid] at u
    ·obtain rfl:=Ax u;cases Y with
     |sw _ _ _ h1 D h3=>
      obtain⟨A,e,fz,a1,a2⟩:=(p.obj id _ F).row rfl;have X:=a2.len;simp only[cellsOf] at X;rw[bC] at X;have S:∀(i:Nat) x (j:Nat),xs[i]? =some x->j<(enc k x).length->i*k.sz+j<xs.length*k.sz:=by intro i x j d m;rw[bT] at m;exact pd (Ad.1 d).1 m
      refine .sl k (.may false) xs (g.ρ id) 0 xs.length _ rfl D h3 (by simp) (λi j=>A.getD (i*k.sz+j) undef) ?_ ?_ ?_;·intro i x j d m;exact .inr ⟨id,k,xs,F,rfl,by rw[A1];exact S i x j d m⟩
      ·intro i x j d m;have:=S i x j d m;rw[A1,aM a1,Ao (by omega)];simp[A9,show i*k.sz+j<A.size by omega]
      ·intro i x j v d hv;have m:=(Ad.1 hv).1;have:=S i x j d m;have ad:=a2.rel (i*k.sz+j) v (A.getD (i*k.sz+j) undef) (by simp only[cellsOf];exact sR xs i j x v d hv) (by
        rw[Ao (by omega)];simp[A9,show i*k.sz+j<A.size by omega])
       exact(tb (ρ':=g.ρ) (N':=0) hv ad).up (Q 0)
   ·simp[V.flat1] at a
  ·have e:x.lend1 hp=x:=by
    cases x<;>first|rfl|exact absurd ⟨_,_,_,rfl⟩ d
   rw[e] at a ⊢;exact(Y.flat1 (N':=0) a).up (Q 0)
 have a9:∀(x:V)(cv:Value),VRel g.I g.ρ hp.length w x cv->(∀c∈x.cellsA,c.lendT hp=true)->(x.lend hp).flat=true->VRel J g.ρ 0 w (x.lend hp) cv:=by
  intro x cv Y M a;by_cases d:∃cs,x=.agg cs
  ·obtain⟨cs,rfl⟩:=d;simp only[V.cellsA] at M;simp only[V.lend] at a ⊢;simp only[V.flat,V.flat2,List.all_map,Al,Dy] at a;cases Y with
   |agg cs us X h1 u hv=>
    refine .agg _ us (by simpa using X) ?_ ?_ ?_;·intro c q;obtain⟨E,an,rfl⟩:=AE.1 q;exact aq4 (a E an) (h1 E an)
    ·intro i c cv q r;rw[Ay] at q;cases t:cs[i]? with
     |none=>rw[t] at q;simp at q
     |some E=>
      rw[t] at q;simp only[Bg,Ah] at q;subst q;have:=u i E cv t r;unfold V.lend1;split
      ·split;·simp[d7]
       ·simp[d7]
      ·exact this
    ·intro i c cv q r;rw[Ay] at q;cases t:cs[i]? with
     |none=>rw[t] at q;simp at q
     |some E=>rw[t] at q;simp only[Bg,Ah] at q;subst q;exact G E cv (hv i E cv t r) (M E (Ai t)) (a E (Ai t))
  ·have e:x.lend hp=x.lend1 hp:=by
    cases x<;>first|rfl|exact absurd ⟨_,rfl⟩ d
   rw[e] at a ⊢;by_cases hy:∃k id n,x=.sw k id n
   ·refine G x cv Y ?_ ?_;·obtain⟨k,id,n,rfl⟩:=hy;exact M _ (by simp[V.cellsA])
    obtain⟨k,id,n,rfl⟩:=hy;simp only[V.lend1] at a ⊢;split at a;·simp[V.flat1]
    ·simp[V.flat,V.flat2,V.flat1] at a
   ·have e:x.lend1 hp=x:=by
     cases x<;>first|rfl|exact absurd ⟨_,_,_,rfl⟩ hy
    rw[e] at a ⊢;exact(Y.flat (ρ':=g.ρ) (N':=0) a).up (Q 0)
 have L:∀(i:Nat) x cv,(vs.map (V.lend hp))[i]? =some x->C[i]? =some cv->VRel g₀.I g₀.ρ ([]:List ai).length w x cv:=by
  intro i x cv d r;have R:=Al.1 hf x (Ai d);rw[Ay] at d;cases t:vs[i]? with
  |none=>rw[t] at d;simp at d
  |some y=>rw[t] at d;simp only[Bg,Ah] at d;subst d;exact a9 y cv (ar i y cv t r) (aiQ hT y (Ai t)) R
 refine(h w g₀ C (bs.sub rfl (λh=>.inl h) (λ_=>rfl)) h0 (by simpa using a0) (by
  intro x d;have R:=Al.1 hf x d;cases x<;>first|rfl|(simp[V.flat,V.flat2,V.flat1] at R;done)|skip
  rename_i k o xs;obtain⟨y,hy,e⟩:=AE.1 d;by_cases Z:∃k id n,y=.sw k id n
  ·obtain⟨k',id,n,rfl⟩:=Z;simp only[V.lend,V.lend1] at e;split at e;·simp at e;obtain⟨rfl,rfl, -⟩:=e;rfl
   ·simp at e
  ·have e':y.lend hp=y∨∃cs,y=.agg cs:=by
    cases y<;>first|exact .inl rfl|exact .inr ⟨_,rfl⟩|exact absurd ⟨_,_,_,rfl⟩ Z
   rcases e' with e'|⟨cs,rfl⟩
   ·rw[<-e,e'];exact W y hy
   ·simp[V.lend] at e) L).mono ?_
 rintro ex w' ⟨cv,g₁,rfl,q1,H,q3,q4⟩;have blk:∀b,b<w.heap.size->w'.heap[b]? =w.heap[b]?:=λb u=>H.block b u (by simp) rfl
 have B:∀b j,g.I b j->w'.cell? ⟨b,j,none⟩=w.cell? ⟨b,j,none⟩:=λb j m=>H.up.cell b j (.inl m)
 have up:Up g.I g.ρ hp.length w g.I g.ρ hp.length w':=⟨λ_ _ h=>h,B,λ_ _=>rfl,Am _⟩
 have bl:∀(id:Nat) cs,hp[id]? =some (some cs)->g.ρ id<w.heap.size:=by intro id cs hid;obtain⟨ob,h1⟩:=(p.obj id cs hid).block;exact(AP.1 h1).1
 refine⟨cv,g,rfl,⟨?_,p.apart,p.notI,p.notO,?_,λb o u=>AC (p.oLt b o u) H.size⟩,⟨rfl,H.os,H.tape,H.output,H.size,λb u _ _=>blk b u,up,λ_ _ _ _ _ h=>h,λ_ _ _ h=>h,λ_ cs h=>.inl ⟨cs,h⟩⟩,q3.scal hs,arX hs _ _ _⟩
 ·intro id cs hid;refine(p.obj id cs hid).keep (blk _ (bl id cs hid)) λA e fz h1 D=>?_
  refine⟨D.len,D.plain,D.typed,D.cold,D.one,λj c cv q r=>(D.rel j c cv q r).up up,λj c cv q r=>?_,D.bn⟩;exact b7 (D.own j c cv q r) rfl (λb j hi=>⟨hi,B b j hi⟩) λb u=>⟨u,blk b (p.oLt b _ u),λj m=>m⟩
 ·intro b j m;exact q1.exI b j (H.up.mono b j (.inl m))
theorem arZ{d:List Nat}{G:Nat->List V->Option (Bool×V)}{Γ:av}(m:∀f vs v,G f vs=some (true,v)->aK P f vs v)(b:cY P Γ):cY P (uh d G Γ):=by
 intro f vs hp v hp' h;unfold uh at h;cases i:d.elem f with
 |false=>rw[i] at h;exact b _ _ _ _ _ h
 |true=>
  rw[i] at h;simp only[cond_true] at h;split at h;·rename_i r e;rw[Au h] at e;exact b _ _ _ _ _ e
  ·split at h
   ·rename_i c o k;cases a:(o.scal&&(vs.map (V.lend hp)).all V.flat) with
    |false=>rw[a] at h;simp at h
    |true=>rw[a] at h;simp only[cond_true,Ah,Ap] at h;obtain⟨g,rfl,rfl⟩:=h;simp only[Ac] at a g;obtain⟨rfl,j⟩:=g;exact arY (m f _ _ k) j a.1 a.2
   ·simp at h
theorem acK{hp a:List ai}{v:V}(h:∀i∈v.id1,a[i]? =hp[i]?):v.lend1 a=v.lend1 hp∧v.lendT a=v.lendT hp:=by
 cases v with
 |sw k id n=>have e:=zU (h id (by simp[V.id1]));simp only[V.lend1,V.lendT,e,and_self]
 |_=>exact⟨rfl,rfl⟩
theorem aq5{hp a:List ai}{v:V}(h:∀i∈v.cellsA.flatMap V.id1,a[i]? =hp[i]?):v.lend a=v.lend hp:=by
 cases v with
 |agg cs=>
  simp only[V.lend,V.agg.injEq];refine A0 λc d=>(acK λi b=>h i ?_).1
  simp only[V.cellsA,AG];exact⟨c,d,b⟩
 |_=>exact(acK λi b=>h i (by simpa [V.cellsA] using b)).1
theorem ahc{hp a:List ai}:∀{cs:List V}{b c:Bool},(∀i∈cs.flatMap V.id1,a[i]? =hp[i]?)->c=b->ug a cs c=ug hp cs b
 | [],b,c,_,e=>e
 |v::r,b,c,h,e=>by simp only[ug];rw[(acK (v:=v) λi d=>h i (by simp[d])).2,ahc (cs:=r) (λi d=>h i (by simp only[Cb,Aw];exact .inr d)) e]
theorem ahd{hp a:List ai}:∀{vs:List V},(∀i∈rJ vs,a[i]? =hp[i]?)->wK a vs=wK hp vs
 | [],_=>rfl
 |v::r,h=>by simp only[wK];exact ahc (λi b=>h i (by simp only[rJ,Cb,Aw];exact .inl b)) (ahd λi b=>h i (by simp only[rJ,Cb,Aw] at b ⊢;exact .inr b))
theorem apO{j:List Nat}{G:Nat->List V->Option (Bool×V)}{Γ:av}{imp d:List Nat}(y:dx Γ imp)(C:(j++imp).all (λx=>d.contains x)=true)
  (F:d.all (λx=>B0 x 2000000||imp.contains x)=true):dx (uh j G Γ) d:=by
 simp only[List.all_append,Ac] at C;refine⟨?_,?_⟩
 ·intro f vs hp k;have t:j.elem f=false:=by
   cases M:j.elem f with
   |false=>rfl
   |true=>have:=Al.1 C.1 f (by simpa using M);rw[this] at k;simp at k
  have e:∀hp,uh j G Γ f vs hp=Γ f vs hp:=by intro hp;unfold uh;rw[t];rfl
  rw[e,e];exact(y.mono C.2 F).pure f vs hp k
 ·intro f vs hp c v hp' k h;have b:=(y.mono C.2 F).loc f vs;cases t:j.elem f with
  |false=>
   have e:∀hp,uh j G Γ f vs hp=Γ f vs hp:=by intro hp;unfold uh;rw[t];rfl
   rw[e] at h;obtain⟨q,B,D,A⟩:=b _ _ _ _ k h;exact⟨q,B,D,λa g o=>by rw[e];exact A a g o⟩
  |true=>
   unfold uh at h;rw[t] at h;simp only[cond_true] at h;cases u:Γ f vs hp with
   |some r=>rw[u] at h;simp only[Ah] at h;subst h;obtain⟨q,B,D,A⟩:=b _ _ _ _ k u;refine⟨q,B,D,λa g o=>?_⟩;unfold uh;rw[t,A a g o];rfl
   |none=>
    rw[u] at h;simp only at h;split at h
    ·rename_i S R O;cases m:(R.scal&&(vs.map (V.lend hp)).all V.flat) with
     |false=>rw[m] at h;simp at h
     |true=>
      rw[m] at h;simp only[cond_true,Ah,Ap] at h;obtain⟨rfl,rfl,rfl⟩:=h;refine⟨[],by simp,rfl,λa g o=>?_⟩;have H:Γ f vs a=none:=by
       cases J:Γ f vs a with
       |none=>rfl
       |some r=>obtain⟨X,W,E⟩:=r;obtain⟨q,B,D,A⟩:=b _ _ _ _ k J;have:=A hp g.symm (λi p=>(o i p).symm);rw[this] at u;cases u
      have Q:vs.map (V.lend a)=vs.map (V.lend hp):=A0 λv L=>aq5 λi p=>o i (acB (by simp only[rJ,AG] at p ⊢;exact⟨v,L,p⟩))
      unfold uh;rw[t,H];simp only[cond_true,Q,O,m,ahd λi p=>o i (acB p)];rfl
    ·simp at h
end
section
variable{I I':Nat->Nat->Prop}{ρ ρ':Nat->Nat}{N N':Nat}{w w':World}{P:Program}
def V.dim1:V->V
 | .sl k _ xs=>.sl k (.may false) xs
 |v=>v
def V.dim:V->V
 | .agg cs=>.agg (cs.map V.dim1)
 |v=>v.dim1
theorem VRel.dim1{v:V}{cv:Value}(h:VRel I ρ N w v cv):VRel I ρ N w v.dim1 cv:=by cases v<;>simp only[V.dim1]<;>first|exact h.own (by simp) (by simp)|exact h
theorem VRel.dim{v:V}{cv:Value}(h:VRel I ρ N w v cv):VRel I ρ N w v.dim cv:=by
 by_cases g:∃cs,v=.agg cs
 ·obtain⟨cs,rfl⟩:=g;cases h with
  |agg cs vs m j k g=>
   refine .agg _ vs (by simpa using m) ?_ ?_ ?_;·intro c f;obtain⟨d,a,rfl⟩:=AE.1 f;have:=j d a;cases d<;>exact this
   ·intro i c cv f b;rw[Ay,An] at f;obtain⟨d,a,rfl⟩:=f;have:=k i d cv a b;cases d<;>first|exact this|simp[V.dim1,d7]
   ·intro i c cv f b;rw[Ay,An] at f;obtain⟨d,a,rfl⟩:=f;exact(g i d cv a b).dim1
 ·have e:v.dim=v.dim1:=by cases v<;>first|rfl|exact absurd ⟨_,rfl⟩ g
  rw[e];exact h.dim1
theorem amX{v:V}(h:v.bare=true):v.dim.bare=true:=by cases v<;>first|exact h|rfl
theorem io.dim{f:FuncId}{vs us:List V}{hp hp':List ai}{v:V}(h:io P f us hp v hp')(e:vs.map V.dim=us):io P f vs hp v hp':=by subst e;intro w g b o m c a d;refine h w g b o m (by simpa using c) (by intro x j;obtain⟨y,p,rfl⟩:=AE.1 j;exact amX (a y p)) ?_;intro i x cv j k;rw[Ay,An] at j;obtain⟨y,p,rfl⟩:=j;exact(d i y cv p k).dim
theorem aK.dim{f:FuncId}{vs us:List V}{v:V}(h:aK P f us v)(e:vs.map V.dim=us):aK P f vs v:=by obtain⟨hp',h⟩:=h;exact⟨hp',h.dim e⟩
def sC(P:Program)(f:FuncId)(vs cs:List V):Prop:=io P f vs [] (.ptr 0 0) [some cs]
theorem sC.frame{f:FuncId}{vs cs:List V}(h:sC P f vs cs)(hf:vs.all V.flat=true)(Y:cs.all V.flatO=true)(hp:List ai):io P f vs hp (.ptr hp.length 0) (hp++[some cs]):=by
 intro w g R a3 y ae S ad;let g₀:Gh:={I:=g.I,ρ:=g.ρ,O:=λ_=>none,β:=g.β}
 have h0:HR g₀ [] w:=⟨by simp,by simp,by simp,by simp,y.exI,by simp[g₀]⟩
 refine(h w g₀ R (a3.sub rfl (λh=>h) (λh=>by simp[g₀,h])) h0 ae S (λi x cv hx q=>(ad i x cv hx q).flat (Al.1 hf x (Ai hx)))).mono ?_;rintro e w' ⟨cv,g₁,rfl,Z,C,q3,q4⟩;have blk:∀b,b<w.heap.size->w'.heap[b]? =w.heap[b]?:=λb p=>C.block b p (by simp) rfl
 have A:∀b j,b<w.heap.size->g₁.I b j->g.I b j:=λb j p L=>C.iSame b j p (by simp) rfl L
 have M:∀b,b<w.heap.size->g₁.O b=none:=λb p=>C.oSame b p (by simp) rfl
 have al:w.heap.size<=g₁.ρ 0:=by
  rcases C.live 0 cs rfl with⟨_,h⟩|⟨_,h|h|⟨_,_,h,_⟩⟩
  ·simp at h
  ·exact h
  ·simp[g₀] at h
  ·simp at h
 let a:Gh:={I:=g₁.I,ρ:=λi=>if i=hp.length then g₁.ρ 0 else g.ρ i,β:=g.β,O:=λb=>if b<w.heap.size then g.O b else (match g₁.O b with
  |some (.cell i j)=>if i=0 then some (.cell hp.length j) else none
  |some .res=>some .res
  |_=>none)}
 have d:∀i,i<hp.length->a.ρ i=g.ρ i:=by intro i L;simp only[a];rw[if_neg (by omega)]
 have m:a.ρ hp.length=g₁.ρ 0:=by simp[a]
 have up:Up g.I g.ρ hp.length w a.I a.ρ (hp++[some cs]).length w':=⟨C.up.mono,C.up.cell,d,by simp⟩
 have F:∀(id:Nat) cs,hp[id]? =some (some cs)->g.ρ id<w.heap.size:=by intro id cs hid;obtain⟨ob,H⟩:=(y.obj id cs hid).block;exact(AP.1 H).1
 have k:∀(id:Nat) cs,hp[id]? =some (some cs)->id<hp.length:=λid cs hid=>(Ad.1 hid).1
 have key:∀(id:Nat) c,(hp++[some cs])[id]? =some (some c)->(id=hp.length∧c=cs)∨hp[id]? =some (some c):=by
  intro id c hid;rcases AI id hp.length with X|X;·rw[Ar X] at hid;exact .inr hid
  ·rw[Aq X] at hid;have:id-hp.length=0:=by
    have:=(Ad.1 hid).1;simp at this;omega
   rw[this] at hid;exact .inl ⟨by omega,by simpa using hid.symm⟩
 have Q:∀id j v cv,id<hp.length->au g w (.cell id j) v cv->au a w' (.cell id j) v cv:=by intro id j v cv hid ho;refine b7 ho rfl (λb j L=>⟨C.up.mono b j L,C.up.cell b j L⟩) ?_;intro b p;have B:=y.oLt b _ p;exact⟨by simp[a,B,p],blk b B,λj t=>A b j B t⟩
 refine⟨cv,a,rfl,⟨?_,?_,?_,?_,Z.exI,?_⟩,⟨rfl,C.os,C.tape,C.output,C.size,λb p _ _=>blk b p,up,λb j p _ _ L=>A b j p L,?_,?_⟩,?_,?_⟩
 ·intro id c hid;rcases key id c hid with⟨rfl,rfl⟩|hid
  ·refine(Z.obj 0 c rfl).keep (by rw[m]) λar e fz a1 W=>?_
   have hr:=ae2 Y;refine⟨W.len,W.plain,by rw[jU hr];simp,W.cold,W.one,?_,?_,?_⟩;·intro j G cv t q;exact(W.rel j G cv t q).flatO (Al.1 Y G (Ai (by rw[eN hr] at t;exact t)))
   ·intro j G cv t q;refine(W.own j G cv t q).reloc C.beta.symm rfl λb p=>?_
    have a0:¬b<w.heap.size:=by intro B;rw[M b B] at p;cases p
    simp[a,p,a0]
   ·intro j E n t;rw[m];exact W.bn j E n t
  ·have X:=k id c hid;refine(y.obj id c hid).keep (by rw[d id X];exact blk _ (F id c hid)) λar e fz H r=>?_
   exact⟨r.len,r.plain,r.typedUp rfl d (by simp) rfl,r.cold,r.one,λj c cv Y q=>(r.rel j c cv Y q).up up,λj c cv Y q=>Q _ _ _ _ X (r.own j c cv Y q),λj E n t=>by rw[d id X];exact r.bn j E n t⟩
 ·intro id u c G hid J an;rcases key id c hid with⟨rfl,rfl⟩|H
  ·rcases key u G J with⟨rfl,rfl⟩|r;·exact absurd rfl an
   ·rw[m,d u (k u G r)];have:=F u G r;omega
  ·rcases key u G J with⟨rfl,rfl⟩|r;·rw[m,d id (k id c H)];have:=F id c H;omega
   ·rw[d id (k id c H),d u (k u G r)];exact y.apart _ _ _ _ H r an
 ·intro id c hid j t;rcases key id c hid with⟨rfl,rfl⟩|hid;·rw[m] at t;exact Z.notI 0 c rfl j t
  ·rw[d id (k id c hid)] at t;exact y.notI id c hid j (A _ j (F id c hid) t)
 ·intro id c hid;rcases key id c hid with⟨rfl,rfl⟩|hid
  ·rw[m];have H:=Z.notO 0 c rfl;have r:¬g₁.ρ 0<w.heap.size:=by omega
   simp[a,H,r]
  ·rw[d id (k id c hid)];have:=F id c hid;simp[a,this,y.notO id c hid]
 ·intro b o p;simp only[a] at p;split at p;·rename_i B;exact AC B C.size
  ·split at p;·rename_i D;exact Z.oLt b _ D
   ·rename_i D;exact Z.oLt b _ D
   ·simp at p
 ·intro b p _ hO;simp[a,p,hO]
 ·intro id c hid;rcases key id c hid with⟨rfl,rfl⟩|hid;·exact .inr ⟨Am _,.inl (by rw[m];exact al)⟩
  ·exact .inl ⟨c,hid⟩
 ·cases q3 with
  |ptr _ _ _=>rw[<-m];exact .ptr _ _ (by simp)
 ·simp[au]
theorem sC.dim{f:FuncId}{vs us cs:List V}(h:sC P f us cs)(e:vs.map V.dim=us):sC P f vs cs:=io.dim h e
theorem aS.dim{f:FuncId}{vs us:List V}{css css':List (List V)}{v:V}(h:aS P f us css v css')(e:vs.map V.dim=us):aS P f vs css v css':=by obtain⟨b,rest,a⟩:=h;exact⟨b,rest,a.dim e⟩
def V.dimR:V->V
 | .tup vs=>.tup (vs.map V.dim)
 |v=>v.dim
theorem VRel.dimR{v:V}{cv:Value}(h:VRel I ρ N w v cv):VRel I ρ N w v.dimR cv:=by
 by_cases a:∃cs,v=.tup cs
 ·obtain⟨cs,rfl⟩:=a;cases h with
  |tup cs vs j a=>refine .tup _ vs (by simpa using j) ?_;intro i c cv f b;rw[Ay,An] at f;obtain⟨g,d,rfl⟩:=f;exact(a i g cv d b).dim
 ·have e:v.dimR=v.dim:=by cases v<;>first|rfl|exact absurd ⟨_,rfl⟩ a
  rw[e];exact h.dim
theorem au.dimR{g:Gh}{a:Occ}{v:V}{cv:Value}(h:au g w a v cv):au g w a v.dimR cv:=by cases v<;>first|exact h|simp[V.dimR,V.dim,V.dim1,au]
theorem io.dimR{f:FuncId}{vs:List V}{hp hp':List ai}{v:V}(h:io P f vs hp v hp'):io P f vs hp v.dimR hp':=by intro w g b j i c a d;refine(h w g b j i c a d).mono ?_;rintro e w' ⟨cv,o,rfl,m,k,p,q⟩;exact⟨cv,o,rfl,m,k,p.dimR,q.dimR⟩
theorem aK.dimR{f:FuncId}{vs:List V}{v u:V}(h:aK P f vs v)(e:v.dimR=u):aK P f vs u:=by subst e;obtain⟨hp',h⟩:=h;exact⟨hp',h.dimR⟩
theorem aS.dimR{f:FuncId}{vs:List V}{css css':List (List V)}{v u:V}(h:aS P f vs css v css')(e:v.dimR=u):aS P f vs css u css':=by subst e;obtain⟨b,rest,a⟩:=h;exact⟨b,rest,a.dimR⟩
abbrev ams:=Nat->List V->Option (Bool×List V)
def zV(G:ams)(Γ:av):av:=λf vs hp=>
 match G f vs with
 |some (c,cs)=>cond (vs.all V.flat&&cs.all V.flatO) (some (c,.ptr hp.length 0,hp++[some cs])) none
 |none=>Γ f vs hp
theorem ar0{G:ams}{Γ:av}(e:∀f vs cs,G f vs=some (true,cs)->sC P f vs cs)(b:cY P Γ):cY P (zV G Γ):=by
 intro f vs hp v hp' h;unfold zV at h;split at h
 ·rename_i c cs d;cases a:(vs.all V.flat&&cs.all V.flatO) with
  |false=>rw[a] at h;simp at h
  |true=>rw[a] at h;simp only[cond_true,Ah,Ap] at h;obtain⟨rfl,rfl,rfl⟩:=h;simp only[Ac] at a;exact(e f vs cs d).frame a.1 a.2 hp
 ·exact b _ _ _ _ _ h
theorem apP{G:ams}{Γ:av}{imp:List Nat}(m:∀f vs,imp.contains f=false->G f vs=none)(d:∀f vs,imp.contains (f+2000000)=true->G f vs=none)(b:dx Γ imp):dx (zV G Γ) imp:=by
 refine⟨?_,?_⟩
 ·intro f vs hp a;have e:∀hp,zV G Γ f vs hp=Γ f vs hp:=by
   intro hp;unfold zV;rw[m f vs a]
  rw[e,e];exact b.pure f vs hp a
 ·intro f vs hp c v hp' a h;have e:∀hp,zV G Γ f vs hp=Γ f vs hp:=by
   intro hp;unfold zV;rw[d f vs a]
  rw[e] at h;obtain⟨q,j,i,o⟩:=b.loc _ _ _ _ _ _ a h;exact⟨q,j,i,λg p k=>by rw[e];exact o g p k⟩
def pick{R:Type}[Inhabited R](C:R->Prop):R:= @Classical.epsilon R ⟨default⟩ C
def can{R:Type}[Inhabited R](C:R->Prop):Bool:= @decide (C (pick C)) (Co _)
theorem amY{R:Type}[Inhabited R]{C:R->Prop}(h:∃r,C r):can C=true:= @decide_eq_true _ (Co _) (Classical.epsilon_spec h)
theorem ae5{R:Type}[Inhabited R]{C:R->Prop}(h:can C=true):C (pick C):= @of_decide_eq_true _ (Co _) h
def pk{R a:Type}[Inhabited R](C:R->Prop)(f:R->a):Option (Bool×a):=some (can C,f (pick C))
def af{R a:Type}[Inhabited a](C:a->Prop)(K:a->Option R):Option R:=chk (can C) (K (pick C))
def amt{R a:Type}[Inhabited a](C:a->Prop)(T:Bool)(K:a->Option R):Option R:=chk (can C&&T) (K (pick C))
end
theorem asP{R:Type}(x:Option R):chk true x=x:=rfl
theorem ar1(n:Int):IntKind.u64.wrap n=n%18446744073709551616:=by simp[Aj,Bo,Bb]
theorem ar2(n:Int):IntKind.u32.wrap n=n%4294967296:=by simp[Aj,Bo,Bb]
theorem as4(n:Int):IntKind.u8.wrap n=n%256:=by simp[Aj,Bo,Bb]
theorem ar3(n:Int):IntKind.i64.wrap n=(n+9223372036854775808)%18446744073709551616-9223372036854775808:=by simp[Aj,Bo,Bb];omega
theorem ar4(n:Int):IntKind.i32.wrap n=(n+2147483648)%4294967296-2147483648:=by simp[Aj,Bo,Bb];omega
theorem ax(n:Int)(h:-9223372036854775808<=n∧n<=9223372036854775807):IntKind.i64.wrap n=n:=by rw[ar3];omega
theorem ahe(n:Int)(h:0<=n∧n<=18446744073709551615):IntKind.u64.wrap n=n:=by rw[ar1];omega
theorem ahf(n:Int)(h:0<=n∧n<=4294967295):IntKind.u32.wrap n=n:=by rw[ar2];omega
theorem yi(n:Int)(h:0<=n∧n<=255):IntKind.u8.wrap n=n:=by rw[as4];omega
def td(w:World):Gh:={I:=λb j=>(w.cell? ⟨b,j,none⟩).isSome=true,ρ:=id,O:=λ_=>none,β:=0}
theorem dt{p:Prop}[Decidable p](h:p):decide p=true:=decide_eq_true h
theorem df{p:Prop}[Decidable p](h:¬p):decide p=false:=decide_eq_false h
theorem bt{a b:Int}(h:a=b):(a==b)=true:=by simp[h]
theorem bf{a b:Int}(h:a≠b):(a==b)=false:=by simp[h]
theorem it{α:Type}{p:Prop}[Decidable p]{a b:α}(h:p):(if p then a else b)=a:=if_pos h
theorem iF{α:Type}{p:Prop}[Decidable p]{a b:α}(h:¬p):(if p then a else b)=b:=if_neg h
theorem ao2{a b:Int}(h:0<=a):Int.tdiv a b=a / b:=CJ h
theorem ao3{a b:Int}(h:0<=a):Bz a b=a%b:=BE h
theorem aln{α a:Type}(f:α->a)(x:α):Option.map f (some x)=some (f x):=rfl
theorem ahg(n:Int)(h:-2147483648<=n∧n<=2147483647):IntKind.i32.wrap n=n:=by rw[ar4];omega
theorem amZ{α:Type}(n:Int)(l:List α):(ixl n l=true)=(0<=n∧n<(l.length:Int)):=by simp[ixl]
theorem ixt{α:Type}{n:Int}{l:List α}(h:0<=n∧n<(l.length:Int)):ixl n l=true:=by rw[amZ];exact h
theorem atZ:type_of% @dt∧type_of% @ixt∧type_of% @df∧type_of% @it∧type_of% @iF∧type_of% @bt∧type_of% @bf∧type_of% @cond_true.{1}∧type_of% @cond_false.{1}∧type_of% @aln∧type_of% @asP∧type_of% @Bool.and_true∧type_of% @Bool.true_and∧type_of% @Bool.and_false∧type_of% @Bool.false_and∧type_of% @Bool.or_true∧type_of% @Bool.true_or∧type_of% @Bool.or_false∧type_of% @Bool.false_or∧type_of% @Bool.not_true∧type_of% @Bool.not_false∧type_of% @if_true.{1}∧type_of% @if_false.{1}∧type_of% @beq_self_eq_true.{0}∧type_of% @ax∧type_of% @ahe∧type_of% @ahg∧type_of% @ahf∧type_of% @yi∧type_of% @ao2∧type_of% @ao3∧type_of% @Int.toNat_natCast∧type_of% @List.take_length.{0}∧type_of% @List.drop_zero.{0}∧type_of% @or_true∧type_of% @true_or∧type_of% @or_false∧type_of% @false_or∧type_of% @or_self:=⟨@dt, @ixt, @df, @it, @iF, @bt, @bf, @cond_true.{1}, @cond_false.{1}, @aln, @asP, @Bool.and_true, @Bool.true_and, @Bool.and_false, @Bool.false_and, @Bool.or_true, @Bool.true_or, @Bool.or_false, @Bool.false_or, @Bool.not_true, @Bool.not_false, @if_true.{1}, @if_false.{1}, @beq_self_eq_true.{0}, @ax, @ahe, @ahg, @ahf, @yi, @ao2, @ao3, @Int.toNat_natCast, @List.take_length.{0}, @List.drop_zero.{0}, @or_true, @true_or, @or_false, @false_or, @or_self⟩
theorem bnl:type_of% @amZ∧type_of% @decide_eq_true_eq∧type_of% @decide_eq_false_iff_not∧type_of% @Bool.and_eq_true∧type_of% @Bool.and_eq_false_iff∧type_of% @Bool.or_eq_true∧type_of% @Bool.or_eq_false_iff∧type_of% @Bool.not_eq_true'∧type_of% @Bool.not_eq_false'∧type_of% @beq_iff_eq.{0}∧type_of% @beq_eq_false_iff_ne.{0}∧type_of% @Int.not_lt∧type_of% @Int.not_le∧type_of% @Nat.not_lt∧type_of% @Nat.not_le∧type_of% @ne_eq.{1}∧type_of% @Nat.beq_eq∧type_of% @true_and∧type_of% @and_true∧type_of% @Bool.not_not:=⟨@amZ, @decide_eq_true_eq, @decide_eq_false_iff_not, @Bool.and_eq_true, @Bool.and_eq_false_iff, @Bool.or_eq_true, @Bool.or_eq_false_iff, @Bool.not_eq_true', @Bool.not_eq_false', @beq_iff_eq.{0}, @beq_eq_false_iff_ne.{0}, @Int.not_lt, @Int.not_le, @Nat.not_lt, @Nat.not_le, @ne_eq.{1}, @Nat.beq_eq, @true_and, @and_true, @Bool.not_not⟩
theorem lnl:type_of% @List.length_append.{0}∧type_of% @List.length_cons.{0}∧type_of% @List.length_nil.{0}∧type_of% @List.length_drop.{0}∧type_of% @List.length_take.{0}∧type_of% @List.length_set.{0}∧type_of% @List.length_replicate.{0}:=⟨@List.length_append.{0}, @List.length_cons.{0}, @List.length_nil.{0}, @List.length_drop.{0}, @List.length_take.{0}, @List.length_set.{0}, @List.length_replicate.{0}⟩
def Tot{R:Type}(x:Option R)(Q:R->Prop):Prop:=∃r,x=some r∧Q r
section
variable{R:Type}{Q:R->Prop}
theorem a8{α:Type}{B:(α->Option R)->α->Option R}(Inv:α->Prop)(b:α->Nat)
  (step:∀(a:α->Option R) x,Inv x->(∀y,Inv y->b y<b x->Tot (a y) Q)->Tot (B a x) Q):∀n x,Inv x->b x<n->Tot (aO n B x) Q
 |0,_,_,h=>by omega
 |n+1,x,c,f=>step (aO n B) x c λy e d=>a8 Inv b step n y e (by omega)
theorem aj{r:R}(h:Q r):Tot (some r) Q:=⟨r,rfl,h⟩
theorem dH{c:Bool}{x:Option R}(a:c=true)(h:Tot x Q):Tot (chk c x) Q:=by subst a;exact h
theorem vck{c:Bool}{x:Option R}(h:Tot x Q)(a:c=true:=by first|(simp only[bnl,lnl];done)|(simp only[bnl,lnl];omega)):Tot (chk c x) Q:=dH a h
theorem ac{b:Bool}{x y:Option R}(c:b=true->Tot x Q)(a:b=false->Tot y Q):Tot (cond b x y) Q:=by
 cases b with
 |true=>exact c rfl
 |false=>exact a rfl
theorem ao4{R:Type}[Inhabited R]{C:R->Prop}(h:∃r,C r):C (pick C):=ae5 (amY h)
theorem ag{a:Type}[Inhabited a]{C:a->Prop}{K:a->Option R}(h:∃r,C r)(b:∀r,C r->Tot (K r) Q):Tot (af C K) Q:=
 dH (amY h) (b _ (ao4 h))
theorem akc{a:Type}[Inhabited a]{C:a->Prop}{T:Bool}{K:a->Option R}(b:T=true)(h:∃r,C r)(c:∀r,C r->Tot (K r) Q):Tot (amt C T K) Q:=
 dH (by rw[amY h,b];rfl) (c _ (ao4 h))
end
def dn{R:Type}(C:Nat->St->Option R)(Γ:av)(n:Nat):IR->(Ex->St->Option R)->St->Option R
 | .skip,K,s=>K .normal s
 | .bad,_,_=>none
 | .reg e _,K,s=>cq Γ e (K .normal) s
 | .rgs l,K,s=>abg Γ l (K .normal) s
 | .wk l _ h o more,K,s=>cq Γ l (cq Γ h λs=>match o.step Γ s with|some (c,s')=>chk c (cq Γ more (K .normal) s')|none=>none) s
 | .seq a b,K,s=>dn C Γ n a (bR (dn C Γ n b) K) s
 | .cond c a b,K,s=>match c.ev s with
   | .bool t=>cond t (dn C Γ n a K (c.fix s true)) (dn C Γ n b K (c.fix s false))
   |_=>none
 | .block id a,K,s=>dn C Γ n a (aG id K) s
 | .loop d m a,K,s=>C (d.getLastD 0) (s.keep d m)
 | .cut d m a,K,s=>C (d.getLastD 0) (s.keep d m)
 | .gh g a,K,s=>match g.step s with
   |some (c,s')=>chk c (dn C Γ n a K s')
   |none=>none
 | .ope o a,K,s=>cond (apl s o) (match (eV.fz o).step s with
   |some (c,s')=>chk c (dn C Γ n a K s')
   |none=>none) (match (eV.opn o).step s with
   |some (c,s')=>chk c (dn C Γ n a K s')
   |none=>none)
 | .ghp g a,K,s=>dn C Γ n a (tV g K) s
 | .exit id,K,s=>K (.exit id) s
 | .ret,K,s=>K .ret s
def d5{R:Type}(Γ:av)(n:Nat):IR->(Ex->St->Option R)->List (Nat×(St->Option R))
 | .seq a b,K=>d5 Γ n a (bR (run Γ n b) K)++d5 Γ n b K
 | .cond _ a b,K=>d5 Γ n a K++d5 Γ n b K
 | .block id a,K=>d5 Γ n a (aG id K)
 | .loop c m a,K=>[(c.getLastD 0,λs=>bg n (λd s=>run Γ n a (ce d c m K) s) s)]
 | .cut c m a,K=>[(c.getLastD 0,λs=>run Γ n a K s)]
 | .gh g a,K=>d5 Γ n a K
 | .ope o a,K=>d5 Γ n a K
 | .ghp g a,K=>d5 Γ n a (tV g K)
 |_,_=>[]
theorem akd{R:Type}{C:Nat->St->Option R}{Γ:av}{n:Nat}:∀(ir:IR)(K:Ex->St->Option R),(∀p∈d5 Γ n ir K,C p.1=p.2)->∀s,dn C Γ n ir K s=run Γ n ir K s:=by
 intro ir;induction ir with
 |seq a b d j=>
  intro K h s;have e:bR (dn C Γ n b) K=bR (run Γ n b) K:=by
   funext e s;cases e with
   |normal=>exact j K (λp hp=>h p (BR _ hp)) s
   |_=>rfl
  show dn C Γ n a (bR (dn C Γ n b) K) s=run Γ n a (bR (run Γ n b) K) s;rw[e];exact d _ (λp hp=>h p (AX _ hp)) s
 |cond c a b d j=>intro K h s;simp only[dn,run,d K (λp hp=>h p (AX _ hp)),j K (λp hp=>h p (BR _ hp))];cases c.ev s<;>rfl
 |block id a d=>intro K h s;exact d _ h s
 |loop i m a d=>intro K h s;have:=h (i.getLastD 0,_) (Az.2 rfl);simp only[dn,run];rw[this]
 |cut i m a d=>intro K h s;have:=h (i.getLastD 0,_) (Az.2 rfl);simp only[dn,run];rw[this]
 |gh g a d=>intro K h s;simp only[dn,run,d K h];cases g.step s<;>rfl
 |ope o a d=>intro K h s;simp only[dn,run,d K h];cases (eV.fz o).step s<;>cases (eV.opn o).step s<;>rfl
 |ghp g a d=>intro K h s;exact d _ h s
 |_=>intro K h s;rfl
def mz{R:Type}:List (Nat×(St->Option R))->Nat->St->Option R
 | [],_=>λ_=>none
 |(j,f)::l,i=>cond (As j i) f (mz l i)
def acL:List Nat->Bool
 | []=>true
 |i::l=> !(l.any (As i))&&acL l
theorem bV{R:Type}:∀{l:List (Nat×(St->Option R))},acL (l.map Prod.fst)=true->∀p∈l,mz l p.1=p.2
 | [],_,p,hp=>by simp at hp
 |(j,f)::l,h,p,hp=>by
  simp only[Bn,acL,Ac,Bk,List.any_eq_false] at h;rcases AQ.1 hp with rfl|hp;·simp[mz]
  ·have a:As j p.1=false:=by
    cases b:As j p.1 with
    |false=>rfl
    |true=>have:=h.1 p.1 (AE.2 ⟨p,hp,rfl⟩);exact absurd b this
   simp only[mz,a,cond_false];exact bV h.2 p hp
theorem np{R:Type}{C:Nat->St->Option R}{Γ:av}{n:Nat}{b:IR}{K a:Ex->St->Option R}(h:∀p∈d5 Γ n b K,C p.1=p.2)(e:a=K):bR (dn C Γ n b) a=bR (run Γ n b) K:=by
 subst e;funext e s;cases e with
 |normal=>exact akd b a h s
 |_=>rfl
theorem iU{R:Type}{i:Nat}{K a:Ex->St->Option R}(e:a=K):aG i a=aG i K:=by rw[e]
theorem qn{R:Type}{a:St->Option R}{b:List Nat}{m:Nat}{K c:Ex->St->Option R}(e:c=K):ce a b m c=ce a b m K:=by rw[e]
theorem eY{R:Type}{C:Nat->St->Option R}{l a:List (Nat×(St->Option R))}(h:∀p∈l++a,C p.1=p.2):∀p∈l,C p.1=p.2:=λp hp=>h p (AX _ hp)
theorem iu{R:Type}{C:Nat->St->Option R}{l a:List (Nat×(St->Option R))}(h:∀p∈l++a,C p.1=p.2):∀p∈a,C p.1=p.2:=λp hp=>h p (BR _ hp)
theorem kP{R:Type}{C:Nat->St->Option R}{Γ:av}{n:Nat}{ir:IR}{K a:Ex->St->Option R}(h:∀p∈d5 Γ n ir K,C p.1=p.2)(e:a=K)(s:St):run Γ n ir K s=dn C Γ n ir a s:=by subst e;exact(akd ir a h s).symm
abbrev Ro:=Option (V×List ai)
abbrev Bs:=List UInt8
abbrev Bss:=List (List UInt8)
def U(n:Nat)(l:List V):List V:=List.replicate n .undef++l
def Pp(o:IOp):GOp:=⟨none,o,none⟩
def Pg(g:Nat×Bool)(o:IOp):GOp:=⟨some g,o,none⟩
def Mv(d x:Nat):GOp:=⟨none,.mov d (.t x),none⟩
def Fa(d o x:Nat):GOp:=⟨none,.fad d o (.t x),none⟩
def Ld(d n:Nat)(a:Bool)(x:Nat):GOp:=⟨none,.lde d n a (.t x),none⟩
def Pa(d c x:Nat):GOp:=⟨none,.pick d (.t c) (.t x) (.c (.bool false)),none⟩
def Po(d c x:Nat):GOp:=⟨none,.pick d (.t c) (.c (.bool true)) (.t x),none⟩
def Bi(d:Nat)(o:BinOp)(x y:Nat):GOp:=⟨none,.bin d o (.t x) (.t y),none⟩
def Bc(d:Nat)(o:BinOp)(x:Nat)(n:Int):GOp:=⟨none,.bin d o (.t x) (.c (.int .i64 n)),none⟩
def Ex_(d i x:Nat):GOp:=⟨none,.ext d i (.t x),none⟩
def Nk(d x:Nat):GOp:=⟨none,.nck (some d) (.t x),none⟩
instance (n:Nat):OfNat aw n:=⟨.t n⟩
instance (n:Nat):OfNat (Option Nat) n:=⟨some n⟩
def Rg(l:List GOp):IR:=.reg l []
def Rs(l:List GOp)(a:IR):IR:=.seq (.reg l []) a
def Sq(a b:IR):IR:=.seq a b
def Cn(c:Nat)(a b:IR):IR:=.cond (.t c) a b
def Gt(g:Nat)(o:IOp):GOp:=⟨some (g,true),o,none⟩
def Gf(g:Nat)(o:IOp):GOp:=⟨some (g,false),o,none⟩
def Fo(r w:List Nat)(o:IOp):GOp:=⟨none,o,some (r,w)⟩
def Mi(d:Nat)(n:Int):GOp:=⟨none,.mov d (.c (.int .i64 n)),none⟩
def Ms(d:Nat)(s:List UInt8):GOp:=⟨none,.mov d (.c (.str s)),none⟩
def Mb(d:Nat)(b:Bool):GOp:=⟨none,.mov d (.c (.bool b)),none⟩
def Lq(d x:Nat):GOp:=⟨none,.lde d 1 false (.t x),none⟩
def Lo(d x:Nat):GOp:=⟨none,.ld d 1 false false (.t x),none⟩
def Ca(d f:Nat)(l:List aw):GOp:=⟨none,.call (some d) f l,none⟩
def Ix(d:Nat)(k:EK)(x i:Nat):GOp:=⟨none,.ixa d k (.t x) (.t i),none⟩
def Ll(d x:Nat):GOp:=⟨none,.lenl d (.t x),none⟩
def Un(d x:Nat):GOp:=⟨none,.un d .not (.t x),none⟩
def Bx(d x:Nat):GOp:=⟨none,.boxe d (.t x),none⟩
def Fz(r n v:Nat):GOp:=⟨none,.frz none r n (.t v),none⟩
def Sv(n x v:Nat):GOp:=⟨none,.st none n (.t x) (.t v),none⟩
def Sk(n x v:Nat):GOp:=⟨none,.st none n (.t x) (.tk v),none⟩
def kI(n:Int):aw:=.c (.int .i64 n)
def kS(s:List UInt8):aw:=.c (.str s)
def kB(b:Bool):aw:=.c (.bool b)
abbrev TS:=St->Ro
abbrev TE:=Ex->TS
abbrev TRr:=IR->TE->TS
abbrev vI(n:Int):V:=.int .i64 n
abbrev vS:V:=.str []
abbrev vB(b:Bool):V:=.bool b
abbrev vT(s:List UInt8):V:=.str s
abbrev vF(k:EK)(xs:List (Ty k)):V:=.sl k (.may false) xs
abbrev vO(k:EK)(xs:List (Ty k)):V:=.sl k .own xs
def nl(k:EK):V:=.sl k .own []
def fu(k:EK)(b:Bool):V:=.sl k (.may b) []
def rg(a b:Nat):List Nat:=Bf a (b+1-a)
theorem cV{Γ:av}{N n:Nat}{rs:List RV}{ir:IR}{vs:List V}{hp:List ai}(l:List (Nat×(St->Ro)))(b:acL (l.map Prod.fst)=true)(e:l=d5 Γ N ir (fin rs)++[])
  (S:(Nat->St->Ro)->Ro) (a:∀C,dn C Γ N ir (fin rs) (AM.start n vs hp)=S C):wt Γ N n rs ir vs hp=S (mz l):=by
 refine A3 ?_ (a _);exact(akd ir (fin rs) (λp hp=>bV b p (by rw[e];exact AX _ hp)) _).symm
section
variable{P:Program}
theorem agA{f:FuncId}{vs:List V}{a v:V}{R:Type}[Inhabited R]{C:R->Prop}(h:some (can C,a)=some (true,v))(k:C (pick C)->aK P f vs a)(d:vs.all V.flat=true)(b:a.flatU=true):
  aK P f vs v∧vs.all V.flat=true∧v.flatU=true:=by
 simp only[Ah,Ap] at h;obtain⟨c,rfl⟩:=h;exact⟨k (ae5 c),d,b⟩
theorem agB{f:FuncId}{vs:List V}{a v:V}{css cs b:List (List V)}{R:Type}[Inhabited R]{C:R->Prop}(h:some (can C,a,cs)=some (true,v,b))(k:C (pick C)->aS P f vs css a cs):aS P f vs css v b:=by simp only[Ah,Ap] at h;obtain⟨c,rfl,rfl⟩:=h;exact k (ae5 c)
theorem agC{f:FuncId}{vs cs a:List V}{R:Type}[Inhabited R]{C:R->Prop}(h:some (can C,cs)=some (true,a))(k:C (pick C)->sC P f vs cs):sC P f vs a:=by simp only[Ah,Ap] at h;obtain⟨b,rfl⟩:=h;exact k (ae5 b)
end
structure cB(P:Program) where
 id:Nat
 t:List V->Option (Bool×V)
 ok:∀vs v,t vs=some (true,v)->aK P id vs v∧vs.all V.flat=true∧v.flatU=true:=by (intro _ _ h;split at h;(first|exact agA h (λh=>h.1.dim rfl) rfl rfl|exact agA h (λh=>h.dim rfl) rfl rfl|exact agA h (λh=>h.1) rfl rfl|exact agA h (λh=>h) rfl rfl);cases h)
structure cd(P:Program) where
 id:Nat
 t:List V->List (List V)->Option (Bool×V×List (List V))
 ok:∀us css v css',t us css=some (true,v,css')->aS P id us css v css':=by (intro _ _ _ _ h;split at h;(first|exact agB h (λh=>h.1.dim rfl)|exact agB h (λh=>h.dim rfl)|exact agB h (λh=>h.1)|exact agB h (λh=>h));cases h)
structure sU(P:Program) where
 id:Nat
 t:List V->Option (Bool×List V)
 ok:∀us cs,t us=some (true,cs)->sC P id us cs:=by (intro _ _ h;split at h;(first|exact agC h (λh=>h.1.dim rfl)|exact agC h (λh=>h.dim rfl)|exact agC h (λh=>h.1)|exact agC h (λh=>h));cases h)
section
variable{P:Program}
def ahP:List (cB P)->Nat->List V->Option (Bool×V)
 | [],_,_=>none
 |r::l,f,vs=>cond (As r.id f) (r.t vs) (ahP l f vs)
def ae6:List (cd P)->yG
 | [],_,_,_=>none
 |r::l,f,us,css=>cond (As r.id f) (r.t us css) (ae6 l f us css)
def ahQ:List (sU P)->ams
 | [],_,_=>none
 |r::l,f,us=>cond (As r.id f) (r.t us) (ahQ l f us)
theorem ake:∀(l:List (cB P)) f vs v,ahP l f vs=some (true,v)->aK P f vs v∧vs.all V.flat=true∧v.flatU=true
 | [],_,_,_,h=>by simp[ahP] at h
 |r::l,f,vs,v,h=>by
  unfold ahP at h;cases a:As r.id f with
  |true=>rw[a] at h;have e:r.id=f:=Ax a;subst e;exact r.ok vs v h
  |false=>rw[a] at h;exact ake l f vs v h
theorem akf:∀(l:List (cd P)) f us css v css',ae6 l f us css=some (true,v,css')->aS P f us css v css'
 | [],_,_,_,_,_,h=>by simp[ae6] at h
 |r::l,f,us,css,v,css',h=>by
  unfold ae6 at h;cases a:As r.id f with
  |true=>rw[a] at h;have e:r.id=f:=Ax a;subst e;exact r.ok _ _ _ _ h
  |false=>rw[a] at h;exact akf l f us css v css' h
theorem ao5:∀(l:List (sU P)) f us cs,ahQ l f us=some (true,cs)->sC P f us cs
 | [],_,_,_,h=>by simp[ahQ] at h
 |r::l,f,us,cs,h=>by
  unfold ahQ at h;cases a:As r.id f with
  |true=>rw[a] at h;have e:r.id=f:=Ax a;subst e;exact r.ok _ _ h
  |false=>rw[a] at h;exact ao5 l f us cs h
theorem ae7:∀(l:List (cd P)) f us css,(∀r∈l,r.id≠f)->ae6 l f us css=none
 | [],_,_,_,_=>rfl
 |r::l,f,us,css,h=>by
  unfold ae6;have a:As r.id f=false:=by
   cases a:As r.id f with
   |true=>exact absurd (Ax a) (h r (by simp))
   |false=>rfl
  rw[a];exact ae7 l f us css λr b=>h r (by simp[b])
theorem ae8:∀(l:List (sU P)) f us,(∀r∈l,r.id≠f)->ahQ l f us=none
 | [],_,_,_=>rfl
 |r::l,f,us,h=>by
  unfold ahQ;have a:As r.id f=false:=by
   cases a:As r.id f with
   |true=>exact absurd (Ax a) (h r (by simp))
   |false=>rfl
  rw[a];exact ae8 l f us λr b=>h r (by simp[b])
theorem ar5(l:List (cB P)):cY P (acD (ahP l)):=by intro f vs hp v hp' c;obtain⟨h,e⟩:=aqX c;subst e;obtain⟨a,d,b⟩:=ake l f vs v h;exact a.frameR d b _
def tab(N:List (sU P))(O:List (cd P))(a:List Nat)(G:List (cB P)):av:=zV (ahQ N) (rM (ae6 O) (uh a (ahP G) (acD (ahP G))))
theorem am0(N:List (sU P))(O:List (cd P))(a:List Nat)(G:List (cB P)):cY P (tab N O a G):=
 ar0 (ao5 N) (aq3 (akf O) (arZ (λf vs v h=>(ake G f vs v h).1) (ar5 G)))
def ahR(N:List (sU P))(O:List (cd P))(a imp:List Nat):Bool:=
 N.all (λr=>imp.contains r.id&& !imp.contains (r.id+2000000))&&O.all (λr=>imp.contains r.id)&&(a++imp.filter (λx=> !Nat.blt x 2000000)).all (λx=>imp.contains x)
theorem ahS{N:List (sU P)}{O:List (cd P)}{c:List Nat}{G:List (cB P)}{imp:List Nat}(h:ahR N O c imp=true):dx (tab N O c G) imp:=by
 simp only[ahR,Ac,Al,Bk] at h;obtain⟨⟨d,i⟩,e⟩:=h;refine apP (λf us a=>ae8 N f us ?_) (λf us a=>ae8 N f us ?_) (aoj (λf us css a=>ae7 O f us css ?_) (apO (apH _ _) (Al.2 e) ?_));·rintro r b rfl;rw[(d r b).1] at a;cases a
 ·rintro r b rfl;rw[(d r b).2] at a;cases a
 ·rintro r b rfl;rw[i r b] at a;cases a
 ·refine Al.2 λx g=>?_
  cases j:B0 x 2000000 with
  |true=>rfl
  |false=>simp only[BO];rw[BP];exact List.mem_filter.2 ⟨g,by simp[j]⟩
end
structure FnK(P:Program)(k:Nat)(f:FuncId)(call:Nat->List V->List ai->Ro):Prop where
 fnOK:∀{n:Nat}{vs:List V}{hp hp':List ai}{v:V},hp.length=k->call n vs hp=some (v,hp')->io P f vs hp v hp'
abbrev FnC(P:Program)(Γ:av)(imp:List Nat)(k:Nat)(f:FuncId)(fn:Func)(ir:IR)(rs:List RV):Prop:=FnK P k f λn vs hp=>wt Γ n fn.ntmps rs ir vs hp
section
variable{P:Program}{Γ:av}{imp:List Nat}{k n:Nat}{f:FuncId}{fn:Func}{ir:IR}{rs:List RV}{vs:List V}{x:Ro}{call:Nat->List V->List ai->Ro}
theorem FnC.of(c:cY P Γ)(e:dx Γ imp)(b:P.funcs[f]? =some fn)(d:fn.body=some (fn.body.getD .skip))(chk:(ba P imp k ir (fn.body.getD .skip)&&iq P rs fn.results.toList)=true)(a:fn.results.toList.length<=5):FnC P Γ imp k f fn ir rs:=⟨λh g=>by subst h;simp only[Ac] at chk;exact as3 c e b d chk.1 chk.2 a g⟩
theorem FnK.pure(h:FnK P 0 f call)(a:call n vs []=x){v:V}{hp':List ai}(b:x=some (v,hp')):aK P f vs v:=⟨hp',h.fnOK rfl (a.trans b)⟩
theorem FnK.newFn(h:FnK P 0 f call)(a:call n vs []=x){cs:List V}(b:x=some (.ptr 0 0,[some cs])):sC P f vs cs:=h.fnOK rfl (a.trans b)
theorem FnK.objs{css css':List (List V)}{rest:List ai}(h:FnK P css.length f call)(a:call n vs (css.map some)=x){v:V}(b:x=some (v,css'.map some++rest))(c:css'.length=css.length):
  aS P f vs css v css':=⟨c,rest,h.fnOK (by simp) (a.trans b)⟩
section
variable{N:Nat}{R:Type}{ret:R->V}{p:R->Prop}{Q:V×List ai->Prop}
theorem FnK.finP(h:FnK P 0 f call)(a:call N vs []=x)(c:Tot x Q)(k:∀z,Q z->∃r,z.1.dimR=ret r∧p r):∃r,aK P f vs (ret r)∧p r:=by obtain⟨z,d,b⟩:=c;obtain⟨r,e,hp⟩:=k z b;exact⟨r,(h.pure a d).dimR e,hp⟩
variable{css:List (List V)}{css':R->List (List V)}
theorem FnK.finO(h:FnK P css.length f call)(b:call N vs (css.map some)=x)(d:Tot x Q)(k:∀z,Q z->∃r,z.1.dimR=ret r∧(∃rest,z.2=(css' r).map some++rest)∧p r)(i:∀r,(css' r).length=css.length:=by exactλ_=>rfl):
  ∃r,aS P f vs css (ret r) (css' r)∧p r:=by
 obtain⟨⟨v,hp⟩,g,c⟩:=d;obtain⟨r,e,⟨rest,a⟩,hp⟩:=k _ c;simp only at a;subst a;exact⟨r,(h.objs b g (i r)).dimR e,hp⟩
end
abbrev LB{α R:Type}(F:(St->Option R)->St->Option R)(b:α->St)(B:(α->Option R)->α->Option R):Prop:=∀a x,F a (b x)=B (λy=>a (b y)) x
abbrev LJ{α R:Type}(F:St->Option R)(a:α->St)(J:α->Option R):Prop:=∀x,F (a x)=J x
theorem fnC{N:List (sU P)}{O:List (cd P)}{d:List Nat}{G:List (cB P)}(b:P.funcs[f]? =some fn)(h:ahR N O d imp=true:=by kernel_rfl)(c:fn.body=some (fn.body.getD .skip):=by kernel_rfl)
  (chk:(ba P imp k ir (fn.body.getD .skip)&&iq P rs fn.results.toList)=true:=by kernel_rfl) (a:fn.results.toList.length<=5:=by decide):FnC P (tab N O d G) imp k f fn ir rs:=.of (am0 N O d G) (ahS h) b c chk a
end
end Go.AM
namespace Go.Proofs.YtkinflmjagfapaaGreatDoor
open Go.AM
mutual
def szJ:aa->Nat
 | .mk _ _ _ l _=>dI l+1
def dI:List aa->Nat
 | []=>0
 |c::l=>szJ c+dI l
end
def fa:List (List UInt8)->List aa->List UInt8->Option aa
 |x::a,c::l,name=>if x=name then some c else fa a l name
 |_,_,_=>none
def bj(name:List UInt8)(q:aa->Prop):List (List UInt8)->List aa->Prop
 |x::a,c::l=>(x=name->q c)∧bj name q a l
 |_,_=>True
abbrev apQ:Int:=255
abbrev mc(s:List UInt8):Prop:=s.head?≠some 117
inductive fB(b:Nat):aa->Prop where
 |mk (k n:Int) (s:List UInt8) (l:List aa) (names:List (List UInt8)) (h1:s.length<=100) (h2:l.length<=b) (h3:names.length<=l.length)
   (h4:∀x∈names,x.length<=100) (h5:k=6->names.length=l.length) (h6:∀c∈l,fB b c)
   (h7:bj [115,105,122,101] (λc=>c.n<=apQ) names l) (h8:bj [110,97,109,101] (λc=>mc c.s) names l):fB b (.mk k n s l names)
abbrev aE:aa->Prop:=fB 8
abbrev lS:aa->Prop:=fB 7
structure yJ(m:Nat)(t:ab):Prop where
 items:0<=t.items∧t.items<m
 fields:∀f∈t.fields,(0<=f.typ∧f.typ<m∧aE f.df)∧f.name.length<=100∧mc f.name
 nf:t.fields.length<=8
 branches:∀b∈t.branches,0<=b∧b<(m:Int)
 nb:t.branches.length<=100
 ns:t.syms.length<=100
 size:0<=t.size∧t.size<=apQ
 kind:1<=t.kind∧t.kind<=14
 nl:t.name.length<=5000
 sl:∀s∈t.syms,s.length<=100
 fk:t.kind≠9->t.fields=[]
def apR(w:Nat->Nat):Nat->Nat
 |0=>0
 |k+1=>apR w k+w k
inductive le(ts:List ab)(n:Nat):Int->Nat->Prop where
 |leaf (i:Int) (t:ab) (h0:0<=i) (h:ts[i.toNat]? =some t) (hk:t.kind<=11):le ts n i 1
 |arr (i:Int) (t:ab) (b:Nat) (h0:0<=i) (hn:n<=i.toNat) (h:ts[i.toNat]? =some t) (hk:t.kind=12∨t.kind=13) (hr:le ts n t.items b):le ts n i (b+1)
 |uni (i:Int) (t:ab) (w:Nat->Nat) (h0:0<=i) (hn:n<=i.toNat) (h:ts[i.toNat]? =some t) (hk:t.kind=14) (hr:∀(k:Nat) c,t.branches[k]? =some c->le ts n c (w k)):le ts n i (apR w t.branches.length+1)
abbrev atM:Nat:=1000000
def ae9(a:List ab)(i:Nat)(t:ab):Prop:=∀f∈t.fields,∃b,b<=atM∧le a i f.typ b
structure kQ(ts:List ab)(e:Int)(ts':List ab)(e':Int):Prop where
 len:ts.length<=ts'.length
 cap:ts'.length<=60
 err:e'=0->e=0
 old:e'=0->∀i,i<ts.length->ts'[i]? =ts[i]?
 new:e'=0->∀(i:Nat) t,ts.length<=i->ts'[i]? =some t->yJ ts'.length t
 ext:e'=0->∀(i:Nat) t,ts.length<=i->ts'[i]? =some t->ae9 ts' i t
def At(d:List ab)(m:Nat)(a:Int)(c:List ab):Prop:=(0<=a∧a<c.length)∧(∃b,b<=m∧le c d.length a b)∧(d=[]->a=0)
def pz(l:List UInt8)(n:Int):Prop:=0<=n∧n<=l.length∧l.length<=1000
def qo:Nat->Nat
 |0=>1
 |k+1=>1+4*qo k
def ui:Nat->Nat
 |0=>20
 |k+1=>50+4*ui k
def dy(l:List (List UInt8)):Prop:=∀x∈l,x.length<=100
def vl(l:List UInt8)(n m:Int)(r:Int×List UInt8×Int):Prop:=0<=r.1∧r.1<m∧r.2.1=l∧pz l r.2.2
def uj(l:List UInt8)(n:Int)(r:Bool×List UInt8×Int):Prop:=r.2.1=l∧r.2.2=n
def abj(l:List UInt8)(r:List UInt8×Int):Prop:=r=(l,0)
def abk(s:List UInt8)(r:Int×Int×List UInt8×List aa×List (List UInt8)):Prop:=r=(4,0,s,[],[])
def zW(b:Bool)(names:List (List UInt8))(a:Bool)(l:List aa)(r:Int×Int×List UInt8×Bool×List aa×Bool×List (List UInt8)):Prop:=r=(6,0,[],a,l,b,names)
def at4(o:Option aa):Int×Int×List UInt8×List aa×List (List UInt8)×Bool:=match o with
 |some c=>(c.kind,c.n,c.s,c.l,c.names,true)
 |none=>(0,0,[],[],[],false)
def sD(k n:Int)(s:List UInt8)(l:List aa)(names:List (List UInt8))(name:List UInt8)(r:Int×Int×List UInt8×List aa×List (List UInt8)×Bool):Prop:=r=at4 (fa names l name)
def at0(a:List UInt8)(r:Int×Int×List UInt8×List aa×List (List UInt8)×List UInt8×Int):Prop:=
 (lS (.mk r.1 r.2.1 r.2.2.1 r.2.2.2.1 r.2.2.2.2.1)∧szJ (.mk r.1 r.2.1 r.2.2.1 r.2.2.2.1 r.2.2.2.2.1)<=ui 5)∧r.2.2.2.2.2.1=a∧pz a r.2.2.2.2.2.2
def apS(k:Nat)(a:List UInt8)(b:List (List UInt8))(r:Int×Int×List UInt8×List aa×List (List UInt8)×List UInt8×Int×List (List UInt8)):Prop:=
 (lS (.mk r.1 r.2.1 r.2.2.1 r.2.2.2.1 r.2.2.2.2.1)∧szJ (.mk r.1 r.2.1 r.2.2.1 r.2.2.2.1 r.2.2.2.2.1)<=ui k)∧r.2.2.2.2.2.1=a∧pz a r.2.2.2.2.2.2.1∧dy r.2.2.2.2.2.2.2∧r.2.2.2.2.2.2.2.length<=b.length+qo k
def fC(a:List UInt8)(n:Int)(b:List (List UInt8))(deep:Int)(r:Int×Int×List UInt8×List aa×List (List UInt8)×List UInt8×Int×List (List UInt8)):Prop:=apS (5-deep.toNat) a b r
def te(a:List UInt8)(n:Int)(b:List (List UInt8))(deep:Int)(r:Int×Int×List UInt8×List aa×List (List UInt8)×List UInt8×Int×List (List UInt8)):Prop:=apS (5-deep.toNat) a b r
def rN(a:List UInt8)(n:Int)(b:List (List UInt8))(name:List UInt8)(deep:Int)(r:Int×Int×List UInt8×List aa×List (List UInt8)×List UInt8×Int×List (List UInt8)):Prop:=
 apS (5-deep.toNat) a b r∧r.2.2.2.2.2.2.2.length+1<=b.length+qo (5-deep.toNat)
def fI(a:List UInt8)(n c d:Int)(e:List UInt8)(f:List aa)(b:List (List UInt8))(r:Int×Int×List UInt8×List aa×List (List UInt8)×List UInt8×Int):Prop:=
 lS (.mk r.1 r.2.1 r.2.2.1 r.2.2.2.1 r.2.2.2.2.1)∧szJ (.mk r.1 r.2.1 r.2.2.1 r.2.2.2.1 r.2.2.2.2.1)=1∧r.2.2.2.2.2.1=a∧pz a r.2.2.2.2.2.2
def rO(a:List UInt8)(n:Int)(r:Int×Int×List UInt8×List aa×List (List UInt8)×List UInt8×Int):Prop:=at0 a r
def ahT(a:List ab)(i:Nat)(l:List aA):Prop:=l.length<=8∧(∀f∈l,(0<=f.typ∧f.typ<a.length∧aE f.df)∧f.name.length<=100∧mc f.name)∧∀f∈l,∃b,b<=atM∧le a i f.typ b
def b8:List (List UInt8):=[[110,117,108,108],[98,111,111,108,101,97,110],[105,110,116],[108,111,110,103],[102,108,111,97,116],[100,111,117,98,108,101],[98,121,116,101,115],[115,116,114,105,110,103],[114,101,99,111,114,100],[101,110,117,109],[102,105,120,101,100],[97,114,114,97,121],[109,97,112],[117,110,105,111,110]]
def uk(k:Int):List UInt8:=if 1<=k∧k<=14 then b8.getD (k-1).toNat [] else []
def aq6:List UInt8->Nat->Option Nat
 | [],_=>none
 |b::s,c=>if b.toNat=c then some 0 else (aq6 s c).map (·+1)
def indexB(s:List UInt8)(c:Int):Int:=match aq6 s c.toNat with|some k=>(k:Int)|none=>-1
instance:Inhabited aa:=⟨.mk 0 0 [] [] []⟩
def zX(r:List (List UInt8)):Prop:=r=[]::b8
def nB(k:Int)(r:List UInt8):Prop:=r=uk k
def dJ:List UInt8:=[65,66,67,68,69,70,71,72,73,74,75,76,77,78,79,80,81,82,83,84,85,86,87,88,89,90,97,98,99,100,101,102,103,104,105,106,107,108,109,110,111,112,113,114,115,116,117,118,119,120,121,122,95]
def iV:List UInt8:=[48,49,50,51,52,53,54,55,56,57]
abbrev MS:=List (List UInt8×Int)×List ab×Int×Int
def dq(s:List UInt8)(c:UInt8):Bool:=decide (0<=Go.Lib.indexByte s c)
def cf(s:List UInt8):Bool:= !decide (s=[])&&decide (Go.Lib.trimS s (dJ++iV)=[])&&dq dJ (s.headD 0)
def bE:List (List UInt8)->List UInt8->Int
 | [],_=>-1
 |x::l,s=>if x=s then 0 else if bE l s<0 then -1 else bE l s+1
def oG(s:List UInt8):Int:=Go.Lib.lastIndexByte ⟨s.toArray⟩ 46
def aC(s:List UInt8):List UInt8:=s.take (oG s).toNat
def aq7(s:List UInt8):List UInt8:=s.drop (oG s+1).toNat
def hY(a:List ab)(i:Int):List UInt8:=if 0<=i∧i<(a.length:Int) then (if (a.getD i.toNat (am .atype)).name≠[] then (a.getD i.toNat (am .atype)).name else uk (a.getD i.toNat (am .atype)).kind) else []
def at1(o:Option aa):aa×Bool:=match o with
 |some c=>(c,true)
 |none=>(.mk 0 0 [] [] [],false)
def ao(n:aa)(name:List UInt8):aa×Bool:=at1 (if n.kind=6 then fa n.names n.l name else none)
def ak(m:MS)(b:Bool)(c:Int):MS:=(m.1,m.2.1,if b=true∧m.2.2.1=0 then c else m.2.2.1,m.2.2.2)
def aR(m:MS)(t:ab):Int×MS:=if m.2.2.1≠0∨60<=m.2.1.length then (0,ak m (decide (60<=m.2.1.length)) 3) else (m.2.1.length,m.1,m.2.1++[t],m.2.2.1,m.2.2.2)
def bk(k:Int):ab:=⟨k,[],[],0,[],false,[],0,[],[]⟩
def bJ(m:MS)(name a:List UInt8):List UInt8×MS:=
 let b:=if dq name 46=false∧a≠[] then a++[46]++name else name
 (b,ak m ((Go.Lib.split b [46]).any λs=> !cf s) 6)
def ga(m:MS)(s a:List UInt8):Int×MS:=
 if a≠[]∧dq s 46=false∧(aX (k:=.sn) m.1 (a++[46]++s)).isSome=true then (dv (k:=.sn) m.1 (a++[46]++s),m)
 else (dv (k:=.sn) m.1 s,ak m (!(aX (k:=.sn) m.1 s).isSome) 4)
def dE(m:MS)(s a:List UInt8):Int×MS:=if 1<=bE ([]::b8) s∧bE ([]::b8) s<=8 then aR m (bk (bE ([]::b8) s)) else ga m s a
def rP:List aa->MS->MS
 | [],m=>m
 |x::l,m=>rP l (ak m (!(x.kind==4)) 2)
def b9(m:MS)(n:aa):List (List UInt8)×MS:=(n.l.map aa.s,rP n.l (ak m (!(n.kind==5)) 2))
def iv(m:MS)(n:aa):List UInt8×MS:=((ao n [110,97,109,101]).1.s,ak m (!((ao n [110,97,109,101]).1.kind ==4)) 2)
def dr(a:MS->List UInt8->List UInt8×MS):List (List UInt8)->List (List UInt8)->MS->List (List UInt8)×MS
 | [],l,m=>(l,m)
 |s::b,l,m=>if m.2.2.1=0 then dr a b (l++[(a m s).1]) (a m s).2 else dr a b l m
def az(a:MS->List UInt8->List UInt8×MS)(m:MS)(n:aa):List (List UInt8)×MS:=
 let g:=ao n [97,108,105,97,115,101,115]
 if g.2=true then dr a (b9 m g.1).1 [] (b9 m g.1).2 else ([],m)
def bO(a:List UInt8)(m:MS)(s:List UInt8):List UInt8×MS:=bJ m s a
def fb(m:MS)(s:List UInt8):List UInt8×MS:=(s,ak m (!cf s) 6)
abbrev TF:=MS->aa->List UInt8->Int×MS
def ahU(t:ab)(x:Int):ab:={t with items:=x}
def rQ(t:ab)(x:List Int):ab:={t with branches:=x}
def atT(m:MS)(i:Int)(f:ab->ab):MS:=(m.1,m.2.1.set i.toNat (f (m.2.1.getD i.toNat (am .atype))),m.2.2.1,m.2.2.2)
def de(T:TF)(m:MS)(n:aa)(kind:Int)(c b:List UInt8):Int×MS:=
 let a:=aR m (bk kind);let g:=ao n c;let t:=T (ak a.2 (!g.2) 2) g.1 b
 (a.1,if t.2.2.2.1=0 then atT t.2 a.1 (ahU · t.1) else t.2)
def cg(T:TF)(a:List UInt8):List aa->List Int->List (List UInt8×Bool)->MS->List Int×MS
 | [],l,_,m=>(l,m)
 |x::xs,l,b,m=>if m.2.2.1=0 then
   let t:=T m x a
   if t.2.2.2.1=0 then
    let c:=hY t.2.2.1 t.1
    cg T a xs (l++[t.1]) (cm (k:=.sb) b c true) (ak t.2 ((t.2.2.1.getD t.1.toNat (am .atype)).kind==14||dv (k:=.sb) b c) 6)
   else (l,t.2)
  else (l,m)
def cP(T:TF)(m:MS)(n:aa)(b:List UInt8):Int×MS:=
 let a:=aR m (bk 14);let r:=cg T b n.l [] [] (ak (ak a.2 (decide (n.l.length=0)) 6) (decide (30<n.l.length)) 3)
 (a.1,if r.2.2.2.1=0 then atT r.2 a.1 (rQ · r.1) else r.2)
def cZ(T:TF)(m:MS)(n:aa)(names:List (List UInt8×Bool))(a:List UInt8):aA×MS×List (List UInt8×Bool):=
 let b:=iv (ak m (!(n.kind==6)) 2) n;let g:=ao n [116,121,112,101];let t:=T (ak (ak (ak b.2 (!cf b.1) 6) (dv (k:=.sb) names b.1) 5) (!g.2) 2) g.1 a;let d:=ao n [100,101,102,97,117,108,116];let c:=az fb t.2 n
 (⟨b.1,c.1,t.1,d.2,d.1⟩,c.2,cm (k:=.sb) names b.1 true)
def cp(T:TF)(a:List UInt8):List aa->List aA->List (List UInt8×Bool)->MS->List aA×MS
 | [],l,_,m=>(l,m)
 |x::xs,l,names,m=>if m.2.2.1=0 then
   let f:=cZ T m x names a
   cp T a xs (l++[f.1]) f.2.2 f.2.1
  else cp T a xs l names m
def bX(T:TF)(m:MS)(b:List aA)(n:aa)(a:List UInt8):List aA×MS:=
 let g:=ao n [102,105,101,108,100,115]
 cp T a g.1.l b [] (ak (ak m (!(g.1.kind==5)) 2) (decide (30<g.1.l.length)) 3)
def lf:List (List UInt8)->List (List UInt8)->MS->MS
 |_,[],m=>m
 |before,s::a,m=>lf (before++[s]) a (ak (ak m (!cf s) 6) (decide (0<=bE before s)) 5)
def bP(m:MS)(n:aa)(a:Bool)(df:List UInt8):(List (List UInt8)×Bool×List UInt8)×MS:=
 let g:=ao n [115,121,109,98,111,108,115];let t:=b9 (ak m (!g.2) 2) g.1;let b:=lf [] t.1 (ak (ak t.2 (decide (t.1.length=0)) 6) (decide (30<t.1.length)) 3);let d:=ao n [100,101,102,97,117,108,116]
 if d.2=true then ((t.1,true,d.1.s),ak (ak b (!(d.1.kind==4)) 2) (!decide (0<=bE t.1 d.1.s)) 6) else ((t.1,a,df),b)
def aiR(x:Int):Int:=if x<0 then 0 else if 5000<x then 5000 else x
def rC(T:TF)(m:MS)(n:aa)(kind:Int)(b name:List UInt8)(a:List (List UInt8))(c:Int):MS:=
 if kind=9 then
  let f:=bX T m [] n b
  if f.2.2.2.1=0 then atT f.2 c (λ_=>⟨kind,name,a,0,[],false,[],0,f.1,[]⟩) else f.2
 else if kind=10 then
  let s:=bP m n false []
  if s.2.2.2.1=0 then atT s.2 c (λ_=>⟨kind,name,a,0,s.1.1,s.1.2.1,s.1.2.2,0,[],[]⟩) else s.2
 else
  let g:=(ao n [115,105,122,101]).1;let h:=ak (ak m (!(g.kind==3)) 2) (decide (g.n<0)||decide (5000<g.n)) 6
  if h.2.2.1=0 then atT h c (λ_=>⟨kind,name,a,0,[],false,[],aiR g.n,[],[]⟩) else h
def gb(T:TF)(m:MS)(n:aa)(kind:Int)(w:List UInt8×MS):Int×MS:=
 let b:=az (bO (aC w.1)) w.2 n;let a:=aR (ak b.2 (aX (k:=.sn) b.2.1 w.1).isSome 5) ⟨kind,w.1,b.1,0,[],false,[],0,[],[]⟩
 if a.2.2.2.1=0 then (a.1,rC T (cm (k:=.sn) a.2.1 w.1 a.1,a.2.2) n kind (aC w.1) w.1 b.1 a.1) else (0,a.2)
def cQ(T:TF)(m:MS)(n:aa)(kind:Int)(a:List UInt8):Int×MS:=
 let b:=iv m n;let g:=ao n [110,97,109,101,115,112,97,99,101]
 if g.2=true then gb T m n kind (bJ (ak b.2 (!(g.1.kind==4)) 2) b.1 g.1.s) else gb T m n kind (bJ b.2 b.1 a)
def ch(T:TF)(m:MS)(n:aa)(a:List UInt8):Int×MS:=
 let g:=ao n [116,121,112,101];let b:=ak m (!g.2) 2
 if g.1.kind≠4 then T b g.1 a
 else if g.1.s=[114,101,99,111,114,100] then cQ T b n 9 a
 else if g.1.s=[101,110,117,109] then cQ T b n 10 a
 else if g.1.s=[102,105,120,101,100] then cQ T b n 11 a
 else if g.1.s=[97,114,114,97,121] then de T b n 12 [105,116,101,109,115] a
 else if g.1.s=[109,97,112] then de T b n 13 [118,97,108,117,101,115] a
 else dE b g.1.s a
def bZ(m:MS)(d:Int):MS:=(m.1,m.2.1,m.2.2.1,d)
def bh:Nat->TF
 |0,m,_,_=>(0,ak m true 3)
 |k+1,m,n,a=>
  if m.2.2.1≠0 then (0,m) else
  let b:=ak (bZ m (m.2.2.2+1)) (decide (20<m.2.2.2+1)) 3
  if b.2.2.1≠0 then (0,bZ b m.2.2.2) else
  let r:=if n.kind=4 then dE b n.s a else if n.kind=5 then cP (bh k) b n a else if n.kind=6 then ch (bh k) b n a else (0,ak b true 2)
  (r.1,bZ r.2 m.2.2.2)
def aq(d:Int):TF:=bh (21-d.toNat)
def fT(n:aa):List ab×Int:=
 let t:=bh 21 ([],[],0,0) n []
 if t.2.2.2.1=0 then (t.2.2.1,0) else ([],t.2.2.2.1)
section
variable(o0:List (List UInt8×Int))(o1:List ab)(e d:Int)
def agJ(a b r:List UInt8):Prop:=r=Go.Lib.trimS a b
def afa(a b:List UInt8)(r:List (List UInt8)):Prop:=r=Go.Lib.split a b
def abl(a b:List UInt8)(r:Bool):Prop:=r=dq a (b.headD 0)
def xn(a:List UInt8)(b r:Int):Prop:=r=Go.Lib.lastIndexByte ⟨a.toArray⟩ b
def abm(s:List UInt8)(r:Bool):Prop:=r=cf s
def zY(s r:List UInt8):Prop:=r=aC s
def um(s r:List UInt8):Prop:=r=aq7 s
def xo(a:List ab)(i:Int)(r:List UInt8):Prop:=r=hY a i
def pe(n:aa)(name:List UInt8)(r:aa×Bool):Prop:=r=ao n name
def hZ(l:List (List UInt8))(s:List UInt8)(r:Int):Prop:=r=bE l s
def kY(l:List (List UInt8))(s:List UInt8)(r:Bool):Prop:=r=decide (0<=bE l s)
def qp(s:List UInt8)(r:Bool):Prop:=r= !cf s
def dW(l:List (List UInt8))(r:Int):Prop:=decide (0<=r)=l.any λs=> !cf s
def dA(l:List (List UInt8))(r:Bool):Prop:=r=l.any λs=> !cf s
def eW(l r:List aa):Prop:=r=l
def ia(l r:List (List UInt8)):Prop:=r=l
def ep(l r:List aa):Prop:=r=l
def akg(n r:aa):Prop:=r=n
def yK(n r:aa):Prop:=r=n
def yL(n r:aa):Prop:=r=n
def gF(b:Bool)(c:Int)(r:MS):Prop:=r=ak (o0,o1,e,d) b c
def lT(t:ab)(r:Int×MS):Prop:=r=aR (o0,o1,e,d) t
def nC(n:aa)(r:List (List UInt8)×MS):Prop:=r=b9 (o0,o1,e,d) n
def uo(n:aa)(r:List UInt8×MS):Prop:=r=iv (o0,o1,e,d) n
def kA(name a:List UInt8)(r:List UInt8×MS):Prop:=r=bJ (o0,o1,e,d) name a
def gG(s a:List UInt8)(r:Int×MS):Prop:=r=ga (o0,o1,e,d) s a
def iw(s a:List UInt8)(r:Int×MS):Prop:=r=dE (o0,o1,e,d) s a
def tf(n:aa)(kind:Int)(b a:List UInt8)(r:Int×MS):Prop:=r=de (aq d) (o0,o1,e,d) n kind b a
def nD(n:aa)(a:List UInt8)(r:Int×MS):Prop:=r=cP (aq d) (o0,o1,e,d) n a
def kC(n:aa)(a:List UInt8)(r:Int×MS):Prop:=r=ch (aq d) (o0,o1,e,d) n a
def ix(n:aa)(a:List UInt8)(r:Int×MS):Prop:=r=aq d (o0,o1,e,d) n a
def vm(n:aa)(kind:Int)(a:List UInt8)(r:Int×MS):Prop:=r=cQ (aq d) (o0,o1,e,d) n kind a
abbrev MS1(α:Type):=List (List UInt8×Int)×List ab×Int×Int×α
def msX{α:Type}(m:MS)(x:α):MS1 α:=(m.1,m.2.1,m.2.2.1,m.2.2.2,x)
def rR(sp s:List UInt8)(r:List UInt8×MS1 (List UInt8)):Prop:=r=((bO sp (o0,o1,e,d) s).1,msX (bO sp (o0,o1,e,d) s).2 sp)
def ic(sp:List UInt8)(n:aa)(r:List (List UInt8)×MS1 (List UInt8)):Prop:=r=((az (bO sp) (o0,o1,e,d) n).1,msX (az (bO sp) (o0,o1,e,d) n).2 sp)
def qq(s:List UInt8)(r:List UInt8×MS):Prop:=r=fb (o0,o1,e,d) s
def gB(n:aa)(r:List (List UInt8)×MS):Prop:=r=az fb (o0,o1,e,d) n
def tg(names:List (List UInt8×Bool))(n:aa)(a:List UInt8)(r:aA×MS1 (List (List UInt8×Bool))):Prop:=
 r=((cZ (aq d) (o0,o1,e,d) n names a).1,msX (cZ (aq d) (o0,o1,e,d) n names a).2.1 (cZ (aq d) (o0,o1,e,d) n names a).2.2)
abbrev T10:=Int×List UInt8×List (List UInt8)×Int×List (List UInt8)×Bool×List UInt8×Int×List aA×List Int
def mO(k:Int)(h:List UInt8)(b:List (List UInt8))(it:Int)(g:List (List UInt8))(f:Bool)(df:List UInt8)(sz:Int)(fs:List aA)(c:List Int)(n:aa)(a:List UInt8)(r:MS1 T10):Prop:=
 r=msX (bX (aq d) (o0,o1,e,d) fs n a).2 (k,h,b,it,g,f,df,sz,(bX (aq d) (o0,o1,e,d) fs n a).1,c)
def rp(k:Int)(f:List UInt8)(b:List (List UInt8))(it:Int)(g:List (List UInt8))(a:Bool)(df:List UInt8)(sz:Int)(fs:List aA)(c:List Int)(n:aa)(r:MS1 T10):Prop:=
 r=msX (bP (o0,o1,e,d) n a df).2 (k,f,b,it,(bP (o0,o1,e,d) n a df).1.1,(bP (o0,o1,e,d) n a df).1.2.1,(bP (o0,o1,e,d) n a df).1.2.2,sz,fs,c)
def wc(n:aa)(r:List ab×Int):Prop:=r=fT n
end
theorem yJ.mono{m m':Nat}{t:ab}(h:yJ m t)(d:m<=m'):yJ m' t:=
 ⟨⟨h.items.1,by have:=h.items.2;omega⟩,λf a=>⟨⟨(h.fields f a).1.1,by have:=(h.fields f a).1.2.1;omega,(h.fields f a).1.2.2⟩,(h.fields f a).2⟩,h.nf,
   λb c=>⟨(h.branches b c).1,by have:=(h.branches b c).2;omega⟩,h.nb,h.ns,h.size,h.kind,h.nl,h.sl,h.fk⟩
theorem le.keep{k c:List ab}{n:Nat}(o:∀(i:Nat) t,k[i]? =some t->t.kind<=11->∃g:ab,c[i]? =some g∧g.kind<=11)(m:∀(i:Nat) t,n<=i->k[i]? =some t->¬t.kind<=11->c[i]? =some t)
  {i:Int} {b:Nat} (h:le k n i b):le c n i b:=by
 induction h with
 |leaf i t e h f=>obtain⟨g,a,b⟩:=o _ t h f;exact .leaf i g e a b
 |arr i t b e d h f _ j=>exact .arr i t b e d (m _ t d h (by omega)) f j
 |uni i t w e d h f _ j=>exact .uni i t w e d (m _ t d h (by omega)) f j
theorem le.low{e:List ab}{n f:Nat}(j:f<=n){i:Int}{b:Nat}(h:le e n i b):le e f i b:=by
 induction h with
 |leaf i t a h c=>exact .leaf i t a h c
 |arr i t b a g h c _ d=>exact .arr i t b a (by omega) h c d
 |uni i t w a g h c _ d=>exact .uni i t w a (by omega) h c d
theorem le.pos{a:List ab}{n:Nat}{i:Int}{b:Nat}(h:le a n i b):1<=b:=by cases h<;>omega
theorem le.grow{d a:List ab}{e f:Int}{n:Nat}(g:kQ d e a f)(c:f=0){i:Int}{b:Nat}(h:le d n i b):le a n i b:=
 h.keep (λi t h j=>⟨t,(g.old c i (Ad.1 h).1).trans h,j⟩) (λi t _ h _=>(g.old c i (Ad.1 h).1).trans h)
theorem ae9.grow{c a:List ab}{e d:Int}(g:kQ c e a d)(j:d=0){i:Nat}{t:ab}(h:ae9 c i t):ae9 a i t:=λf m=>by obtain⟨b,k,o⟩:=h f m;exact⟨b,k,o.grow g j⟩
theorem ae9.nil{b:List ab}{i:Nat}{t:ab}(h:t.fields=[]):ae9 b i t:=λf a=>by rw[h] at a;cases a
theorem kQ.refl{b:List ab}{e:Int}(h:b.length<=60):kQ b e b e:=
 ⟨Am _,h,λh=>h,λ_ _ _=>rfl,λ_ i t c a=>by
  have:=(Ad.1 a).1;omega,λ_ i t c a=>by
  have:=(Ad.1 a).1;omega⟩
theorem kQ.bad{b:List ab}{e c:Int}(h:b.length<=60)(a:c≠0):kQ b e b c:=
 ⟨Am _,h,λh=>absurd h a,λh=>absurd h a,λh=>absurd h a,λh=>absurd h a⟩
theorem kQ.trans{ts ts1 ts2:List ab}{e e1 e2:Int}(h:kQ ts e ts1 e1)(h':kQ ts1 e1 ts2 e2):kQ ts e ts2 e2 where
 len:=AH h.len h'.len
 cap:=h'.cap
 err:=λhe=>h.err (h'.err he)
 old:=λhe i hi=>by have:=h.len;rw[h'.old he i (by omega),h.old (h'.err he) i hi]
 new:=λhe i t hi ht=>by
  rcases AI i ts1.length with hl|hl;·rw[h'.old he i hl] at ht;exact(h.new (h'.err he) i t hi ht).mono h'.len
  ·exact h'.new he i t hl ht
 ext:=λhe i t hi ht=>by
  rcases AI i ts1.length with hl|hl;·rw[h'.old he i hl] at ht;exact(h.ext (h'.err he) i t hi ht).grow h' he
  ·exact h'.ext he i t hl ht
theorem kQ.weak{b a:List ab}{e d c:Int}(h:kQ b d a c)(f:d=0->e=0):kQ b e a c:=
 ⟨h.len,h.cap,λg=>f (h.err g),h.old,h.new,h.ext⟩
theorem kQ.push{ts:List ab}{e:Int}(h:ts.length<60)(t:ab)(ht:yJ (ts.length+1) t)(hf:t.fields=[]):kQ ts e (ts++[t]) e where
 len:=by simp
 cap:=by simp;omega
 err:=λh=>h
 old:=λ_ i hi=>by rw[Ar hi]
 new:=λ_ i t' hi ht'=>by
  rw[Aq hi] at ht';have hl:=(Ad.1 ht').1;simp only[Bh] at hl;have:i-ts.length=0:=by omega
  rw[this] at ht';simp only[A4,Ah] at ht';subst ht';simpa using ht
 ext:=λ_ i t' hi ht'=>by
  rw[Aq hi] at ht';have hl:=(Ad.1 ht').1;simp only[Bh] at hl;have:i-ts.length=0:=by omega
  rw[this] at ht';simp only[A4,Ah] at ht';subst ht';exact .nil hf
def ar6(a t:ab):Prop:=(a.kind<=11∧t.kind<=11)∨¬a.kind<=11
theorem le.set{k:List ab}{a:Nat}{m t:ab}(j:k[a]? =some m)(d:ar6 m t){n:Nat}(f:a<n∨m.kind<=11){i:Int}{b:Nat}(h:le k n i b):le (k.set a t) n i b:=by
 have o:=(Ad.1 j).1;refine h.keep (λi u c g=>?_) (λi u p c g=>?_)
 ·by_cases e:a=i
  ·subst e;rw[j] at c;cases c;rcases d with d|d;·exact⟨t,BG o,d.2⟩
   ·exact absurd g d
  ·exact⟨u,by rw[AW e,c],g⟩
 ·have e:a≠i:=by
   rintro rfl;rw[j] at c;cases c;rcases f with f|f;·omega
   ·exact g f
  rw[AW e,c]
theorem kQ.at_open{b a:List ab}{e d:Int}{c:ab}(h:kQ (b++[c]) e a d)(f:d=0):a[b.length]? =some c:=by rw[h.old f b.length (by simp),Aq (Am _)];simp
theorem kQ.close{ts ts2:List ab}{e e2:Int}{t0 t:ab}(h:kQ (ts++[t0]) e ts2 e2)(ht:yJ ts2.length t)
  (hs:e2=0->ar6 t0 t) (hx:e2=0->ae9 (ts2.set ts.length t) ts.length t):kQ ts e (ts2.set ts.length t) e2 where
 len:=by have:=h.len;simp at this ⊢;omega
 cap:=by simpa using h.cap
 err:=h.err
 old:=λhe i hi=>by rw[AW (by omega),h.old he i (by simp;omega),Ar hi]
 new:=λhe i t' hi ht'=>by
  have hlen:=h.len;simp only[AD,Bh] at hlen;simp only[AF] at ht' ⊢;rcases Nat.lt_or_eq_of_le hi with hl|hl;·rw[AW (by omega)] at ht';exact h.new he i t' (by simp;omega) ht'
  ·subst hl;rw[BG (by omega)] at ht';cases ht';exact ht
 ext:=λhe i t' hi ht'=>by
  have hlen:=h.len;simp only[AD,Bh] at hlen;rcases Nat.lt_or_eq_of_le hi with hl|hl;·rw[AW (by omega)] at ht';intro f hf;obtain⟨b,b1,b2⟩:=h.ext he i t' (by simp;omega) ht' f hf;exact⟨b,b1,b2.set (h.at_open he) (hs he) (.inl hl)⟩
  ·subst hl;rw[BG (by omega)] at ht';cases ht';exact hx he
theorem fB.kids{b:Nat}{k n:Int}{s:List UInt8}{l:List aa}{names:List (List UInt8)}(h:fB b (.mk k n s l names)):
  s.length<=100∧l.length<=b∧names.length<=l.length∧(∀x∈names,x.length<=100)∧(k=6->names.length=l.length)∧∀c∈l,fB b c:=by
 cases h with
 |mk _ _ _ _ _ d g e a f i=>exact⟨d,g,e,a,f,i⟩
theorem aiS{name:List UInt8}{q:aa->Prop}:∀{names:List (List UInt8)}{l:List aa}{c:aa},bj name q names l->fa names l name=some c->q c
 | [],l,c,_,h=>by simp[fa] at h
 |x::b,[],c,_,h=>by simp[fa] at h
 |x::b,d::l,c,a,h=>by
  simp only[fa] at h;simp only[bj] at a;split at h;·rename_i e;cases h;exact a.1 e
  ·exact aiS a.2 h
theorem fB.named{b:Nat}{k n:Int}{s:List UInt8}{l:List aa}{names:List (List UInt8)}(h:fB b (.mk k n s l names)){c:aa}(d:fa names l [110,97,109,101]=some c):mc c.s:=by
 cases h with
 |mk _ _ _ _ _ f j g e i o m a=>exact aiS a d
theorem fB.eta{b:Nat}{c:aa}:fB b (.mk c.kind c.n c.s c.l c.names)↔fB b c:=by cases c;exact Iff.rfl
theorem eq(k n:Int)(s:List UInt8)(l:List aa)(names:List (List UInt8)):szJ (.mk k n s l names)=dI l+1:=rfl
theorem akh:∀(l:List aa)(c:aa),c∈l->szJ c<=dI l
 | [],c,h=>by cases h
 |d::l,c,h=>by
  rcases AQ.1 h with rfl|h;·simp only[dI];omega
  ·have:=akh l c h;simp only[dI];omega
theorem fB.zero{b:Nat}:fB b (.mk 0 0 [] [] []):=.mk _ _ _ _ _ (by simp) (by simp) (by simp) (by simp) (by simp) (by simp) (by simp[bj]) (by simp[bj])
theorem fB.getD{b:Nat}{l:List aa}(h:∀c∈l,fB b c)(i:Nat):fB b (l.getD i (am .jnode)):=by
 rw[Af];cases a:l[i]? with
 |none=>exact fB.zero
 |some c=>exact h c (Ai a)
theorem fB.up{b a:Nat}(p:b<=a):∀{c:aa},fB b c->fB a c:=by
 intro c h;induction h with
 |mk k n s l names e m f d g _ o j i=>exact .mk k n s l names e (AH m p) f d g i o j
theorem aE.kids{k n:Int}{s:List UInt8}{l:List aa}{names:List (List UInt8)}(h:aE (.mk k n s l names)):
  s.length<=100∧l.length<=8∧names.length<=l.length∧(∀x∈names,x.length<=100)∧(k=6->names.length=l.length)∧∀c∈l,aE c:=fB.kids h
theorem aE.eta{c:aa}:aE (.mk c.kind c.n c.s c.l c.names)↔aE c:=fB.eta
theorem aE.zero:aE (.mk 0 0 [] [] []):=fB.zero
theorem aE.getD{l:List aa}(h:∀c∈l,aE c)(i:Nat):aE (l.getD i (am .jnode)):=fB.getD h i
theorem am1:∀{names:List (List UInt8)}{l:List aa}{name:List UInt8}{c:aa},fa names l name=some c->c∈l
 | [],l,_,_,h=>by simp[fa] at h
 |x::a,[],_,_,h=>by simp[fa] at h
 |x::a,d::l,name,c,h=>by
  simp only[fa] at h;split at h;·simp at h;simp[h]
  ·exact AT _ (am1 h)
theorem At.ext{e:List ab}{m:Nat}{a:Int}{c:List ab}(h:At e m a c):∃b,b<=m∧le c 0 a b:=by obtain⟨b,d,f⟩:=h.2.1;exact⟨b,d,f.low (Br _)⟩
theorem At.leaf{d b:List ab}{m:Nat}{a:Int}{t:ab}(g:1<=m)(c:0<=a)(h:b[a.toNat]? =some t)(e:t.kind<=11)(f:d=[]->a=0):At d m a b:=
 ⟨⟨c,by have:=(Ad.1 h).1;omega⟩,⟨1,g,.leaf a t c h e⟩,f⟩
theorem At.up{d c:List ab}{m m':Nat}{a:Int}(h:At d m a c)(j:m<=m'):At d m' a c:=by obtain⟨f,⟨b,i,g⟩,e⟩:=h;exact⟨f,⟨b,by omega,g⟩,e⟩
theorem mA{k:MK}:∀(es:List (k.K×k.T))(x y:k.K)(v:k.T),aX (cm es x v) y=if x=y then some v else aX es y
 | [],x,y,v=>rfl
 |e::r,x,y,v=>by
  unfold cm;by_cases h:e.1=x
  ·rw[if_pos h];unfold aX;by_cases a:x=y;·simp[a]
   ·rw[if_neg a,if_neg a,if_neg (λb=>a (h.symm.trans b))]
  ·rw[if_neg h];unfold aX;rw[mA r x y v];by_cases a:e.1=y;·rw[if_pos a,if_pos a,if_neg (λb=>h (a.trans b.symm))]
   ·rw[if_neg a,if_neg a]
def fQ(m:MS):Prop:=∀(x:List UInt8)(i:Int),aX (k:=.sn) m.1 x=some i->0<=i∧i<(m.2.1.length:Int)
structure a6(m m':MS):Prop where
 map:fQ m->fQ m'
 len:m.2.1.length<=m'.2.1.length
 cap:m.2.1.length<=60->m'.2.1.length<=60
 dep:m'.2.2.2=m.2.2.2
 err:m'.2.2.1=0->m.2.2.1=0
 stay:m.2.2.1≠0->m'.2.2.1=m.2.2.1
theorem a6.refl(m:MS):a6 m m:=⟨id,Am _,id,rfl,id,λ_=>rfl⟩
theorem a6.trans{a b c:MS}(h:a6 a b)(k:a6 b c):a6 a c:=⟨λx=>k.map (h.map x),AH h.len k.len,λx=>k.cap (h.cap x),k.dep.trans h.dep,λx=>h.err (k.err x),λd=>(k.stay (by rw[h.stay d];exact d)).trans (h.stay d)⟩
theorem ay(m:MS)(b:Bool)(c:Int)(d:c≠0:=by decide):a6 m (ak m b c):=by
 refine⟨id,Am _,id,rfl,?_,λh=>if_neg λa=>h a.2⟩;simp only[ak];intro h;split at h;·exact absurd h d
 ·exact h
theorem eO{m:MS}{b:Bool}{c:Int}(h:(ak m b c).2.2.1 =0)(f:c≠0:=by decide):b=false∧ak m b c=m:=by
 have a:=(ay m b c f).err h;simp only[ak,a,and_true] at h ⊢;cases b with
 |true=>exact absurd (by simpa using h) f
 |false=>obtain⟨m0,g,e,d⟩:=m;cases a;exact⟨rfl,by simp⟩
theorem afb(m:MS)(t:ab):((aR m t).2.2.2.1 ≠0∧(aR m t).1 =0∧(aR m t).2.2.1 =m.2.1∧(aR m t).2.1 =m.1∧(aR m t).2.2.2.2 =m.2.2.2)∨(m.2.2.1=0∧m.2.1.length<60∧aR m t=((m.2.1.length:Int),m.1,m.2.1++[t],0,m.2.2.2)):=by
 unfold aR;split
 ·rename_i h;left;refine⟨?_,rfl,rfl,rfl,rfl⟩;intro a;have d:=eO (m:=m) a;have c:=(ay m (decide (60<=m.2.1.length)) 3).err a;rcases h with h|h;·exact h c
  ·have:=of_decide_eq_false d.1;exact this h
 ·rename_i h;right;have a:m.2.2.1=0:=by
   by_cases b:m.2.2.1=0;·exact b
   ·exact absurd (.inl b) h
  exact⟨a,by by_cases b:60<=m.2.1.length;exact absurd (.inr b) h;omega,by rw[a]⟩
theorem ahV(m:MS)(t:ab)(h:m.2.2.1≠0):(aR m t).2.2.2.1 =m.2.2.1:=by unfold aR;rw[if_pos (.inl h)];exact(ay m _ 3).stay h
theorem mP(m:MS)(t:ab):a6 m (aR m t).2 :=by
 have g:=ahV m t;rcases afb m t with⟨b,f,a,d,e⟩|⟨b,f,a⟩
 ·exact⟨λh x i c=>by rw[a];rw[d] at c;exact h x i c,by rw[a];exact Am _,λh=>by rw[a];exact h,e,λh=>absurd h b,g⟩
 ·rw[a];exact⟨λh x i c=>by have:=h x i c;simp;omega,by simp,λ_=>by simp;omega,rfl,λ_=>b,λh=>absurd b h⟩
theorem add_zero{m:MS}{t:ab}(h:(aR m t).2.2.2.1 =0):m.2.2.1=0∧m.2.1.length<60∧aR m t=((m.2.1.length:Int),m.1,m.2.1++[t],0,m.2.2.2):=by
 rcases afb m t with⟨b,_⟩|a;·exact absurd h b
 ·exact a
theorem uq(m:MS)(a b:List UInt8):a6 m (bJ m a b).2 :=ay _ _ _
theorem apT(m:MS)(a b:List UInt8):a6 m (ga m a b).2 :=by
 unfold ga;split;·exact a6.refl _
 ·exact ay _ _ _
theorem afc(m:MS)(a b:List UInt8):a6 m (dE m a b).2 :=by
 unfold dE;split;·exact mP _ _
 ·exact apT _ _ _
theorem ahh:∀(l:List aa)(m:MS),a6 m (rP l m)
 | [],m=>a6.refl _
 |x::l,m=>(ay m _ 2).trans (ahh l _)
theorem aiT(m:MS)(n:aa):a6 m (b9 m n).2 :=(ay m _ 2).trans (ahh _ _)
theorem zZ(m:MS)(n:aa):a6 m (iv m n).2 :=ay _ _ _
theorem aaB{a:MS->List UInt8->List UInt8×MS}(c:∀m s,a6 m (a m s).2):∀(b l:List (List UInt8))(m:MS),a6 m (dr a b l m).2
 | [],l,m=>a6.refl _
 |s::b,l,m=>by
  unfold dr;split;·exact(c m s).trans (aaB c b _ _)
  ·exact aaB c b _ _
theorem lH{a:MS->List UInt8->List UInt8×MS}(b:∀m s,a6 m (a m s).2)(m:MS)(n:aa):a6 m (az a m n).2 :=by
 simp only[az];split;·exact(aiT m _).trans (aaB b _ _ _)
 ·exact a6.refl _
theorem z6(sp:List UInt8)(m:MS)(s:List UInt8):a6 m (bO sp m s).2 :=uq _ _ _
theorem aaC(m:MS)(s:List UInt8):a6 m (fb m s).2 :=ay _ _ _
def eP(T:TF):Prop:=∀m n a,a6 m (T m n a).2
theorem th(m:MS)(i:Int)(f:ab->ab):a6 m (atT m i f):=⟨λh x j a=>by have:=h x j a;simpa [atT] using this,by simp[atT],by simp[atT],rfl,id,λ_=>rfl⟩
theorem aiU{T:TF}(b:eP T)(m:MS)(n:aa)(k:Int)(u a:List UInt8):a6 m (de T m n k u a).2 :=by
 simp only[de];have h:=((mP m (bk k)).trans (ay _ (!(ao n u).2) 2)).trans (b _ (ao n u).1 a);split;·exact h.trans (th _ _ _)
 ·exact h
theorem pv{T:TF}(c:eP T)(a:List UInt8):∀(xs:List aa)(l:List Int)(b:List (List UInt8×Bool))(m:MS),a6 m (cg T a xs l b m).2
 | [],l,b,m=>a6.refl _
 |x::xs,l,b,m=>by
  unfold cg;split
  ·dsimp only;split;·exact((c m x a).trans (ay _ _ 6)).trans (pv c a xs _ _ _)
   ·exact c m x a
  ·exact a6.refl _
theorem aiV{T:TF}(b:eP T)(m:MS)(n:aa)(a:List UInt8):a6 m (cP T m n a).2 :=by
 simp only[cP];have h:=(((mP m (bk 14)).trans (ay _ (decide (n.l.length=0)) 6)).trans (ay _ (decide (30<n.l.length)) 3)).trans (pv b a n.l [] [] _);split;·exact h.trans (th _ _ _)
 ·exact h
theorem alo(m:MS)(n:aa)(names:List (List UInt8×Bool)):a6 m (ak (ak (ak (iv (ak m (!(n.kind==6)) 2) n).2 (!cf (iv (ak m (!(n.kind==6)) 2) n).1) 6) (dv (k:=.sb) names (iv (ak m (!(n.kind==6)) 2) n).1) 5) (!(ao n [116,121,112,101]).2) 2):=
 ((((ay m _ 2).trans (zZ _ _)).trans (ay _ _ 6)).trans (ay _ _ 5)).trans (ay _ _ 2)
theorem aiW{T:TF}(b:eP T)(m:MS)(n:aa)(names:List (List UInt8×Bool))(a:List UInt8):a6 m (cZ T m n names a).2.1 :=by simp only[cZ];exact((alo m n names).trans (b _ _ _)).trans (lH aaC _ _)
theorem nE{T:TF}(b:eP T)(a:List UInt8):∀(xs:List aa)(l:List aA)(names:List (List UInt8×Bool))(m:MS),a6 m (cp T a xs l names m).2
 | [],l,names,m=>a6.refl _
 |x::xs,l,names,m=>by
  unfold cp;split;·exact(aiW b m x names a).trans (nE b a xs _ _ _)
  ·exact nE b a xs _ _ _
theorem ahi{T:TF}(c:eP T)(m:MS)(b:List aA)(n:aa)(a:List UInt8):a6 m (bX T m b n a).2 :=by simp only[bX];exact((ay m _ 2).trans (ay _ _ 3)).trans (nE c a _ _ _ _)
theorem aiX:∀(b a:List (List UInt8))(m:MS),a6 m (lf a b m)
 | [],a,m=>by unfold lf;exact a6.refl _
 |s::b,a,m=>by unfold lf;exact((ay m _ 6).trans (ay _ _ 5)).trans (aiX b _ _)
theorem afd(m:MS)(n:aa)(a:Bool)(df:List UInt8):a6 m (bP m n a df).2 :=by
 simp only[bP];have h:=((((ay m (!(ao n [115,121,109,98,111,108,115]).2) 2).trans (aiT _ (ao n [115,121,109,98,111,108,115]).1)).trans (ay _ (decide ((b9 (ak m (!(ao n [115,121,109,98,111,108,115]).2) 2) (ao n [115,121,109,98,111,108,115]).1).1.length =0)) 6)).trans (ay _ (decide (30<(b9 (ak m (!(ao n [115,121,109,98,111,108,115]).2) 2) (ao n [115,121,109,98,111,108,115]).1).1.length)) 3)).trans (aiX (b9 (ak m (!(ao n [115,121,109,98,111,108,115]).2) 2) (ao n [115,121,109,98,111,108,115]).1).1 [] _);split;·exact(h.trans (ay _ _ 2)).trans (ay _ _ 6)
 ·exact h
theorem alp{T:TF}(c:eP T)(m:MS)(n:aa)(k:Int)(a e:List UInt8)(d:List (List UInt8))(b:Int):a6 m (rC T m n k a e d b):=by
 simp only[rC];split
 ·have h:=ahi c m [] n a;split;·exact h.trans (th _ _ _)
  ·exact h
 ·split
  ·have h:=afd m n false [];split;·exact h.trans (th _ _ _)
   ·exact h
  ·have h:=(ay m (!((ao n [115,105,122,101]).1.kind ==3)) 2).trans (ay _ (decide ((ao n [115,105,122,101]).1.n <0)||decide (5000<(ao n [115,105,122,101]).1.n)) 6);split;·exact h.trans (th _ _ _)
   ·exact h
theorem apU{T:TF}(d:eP T)(m0 m:MS)(x:List (List UInt8×Int))(h:a6 m0 m)(f:fQ m0->fQ (x,m.2))(n:aa)(k:Int)(a g:List UInt8)(e:List (List UInt8))(c:Int):a6 m0 (rC T (x,m.2) n k a g e c):=
 a6.trans (b:=(x,m.2)) ⟨f,h.len,h.cap,h.dep,h.err,h.stay⟩ (alp d _ _ _ _ _ _ _)
theorem alq{T:TF}(d:eP T)(m m0:MS)(n:aa)(k:Int)(w:List UInt8×MS)(f:a6 m0 w.2):a6 m0 (gb T m n k w).2 :=by
 simp only[gb];have h:=((f.trans (lH (z6 (aC w.1)) w.2 n)).trans (ay _ (aX (k:=.sn) (az (bO (aC w.1)) w.2 n).2.1 w.1).isSome 5)).trans (mP _ ⟨k,w.1,(az (bO (aC w.1)) w.2 n).1,0,[],false,[],0,[],[]⟩);split
 ·rename_i g;refine apU d m0 _ _ h (λe x i a=>?_) _ _ _ _ _ _;have c:=h.map e;obtain⟨p,o,j⟩:=add_zero g;dsimp only at a ⊢;rw[mA] at a;split at a;·have b:=Au a;rw[j] at b ⊢;dsimp only at b ⊢;subst b;refine⟨Int.natCast_nonneg _,?_⟩;simp only[AD,Av,AA];omega
  ·exact c x i a
 ·exact h
theorem b7{T:TF}(b:eP T)(m:MS)(n:aa)(k:Int)(a:List UInt8):a6 m (cQ T m n k a).2 :=by
 simp only[cQ];split;·exact alq b _ _ _ _ _ (((zZ m n).trans (ay _ _ 2)).trans (uq _ _ _))
 ·exact alq b _ _ _ _ _ ((zZ m n).trans (uq _ _ _))
theorem aiY{T:TF}(b:eP T)(m:MS)(n:aa)(a:List UInt8):a6 m (ch T m n a).2 :=by
 simp only[ch];have h:=ay m (!(ao n [116,121,112,101]).2) 2
 repeat' split
 ·exact h.trans (b _ _ _)
 ·exact h.trans (b7 b _ _ _ _)
 ·exact h.trans (b7 b _ _ _ _)
 ·exact h.trans (b7 b _ _ _ _)
 ·exact h.trans (aiU b _ _ _ _ _)
 ·exact h.trans (aiU b _ _ _ _ _)
 ·exact h.trans (afc _ _ _)
theorem alt{m m':MS}{d:Int}(h:a6 (bZ m d) m'):a6 m (bZ m' m.2.2.2):=⟨h.map,h.len,h.cap,rfl,h.err,h.stay⟩
theorem fU:∀k,eP (bh k)
 |0,m,n,a=>ay _ _ _
 |k+1,m,n,a=>by
  unfold bh;split;·exact a6.refl _
  ·dsimp only;have h:=ay (bZ m (m.2.2.2+1)) (decide (20<m.2.2.2+1)) 3;split;·exact alt h
   ·refine alt (h.trans ?_)
    repeat' split
    ·exact afc _ _ _
    ·exact aiV (fU k) _ _ _
    ·exact aiY (fU k) _ _ _
    ·exact ay _ _ _
def TIn(T:TF):Prop:=∀m n a,(T m n a).2.2.2.1 =0->fQ m->0<=(T m n a).1 ∧(T m n a).1 <((T m n a).2.2.1.length :Int)
theorem yM{m:MS}{t:ab}{m':MS}(h:a6 (aR m t).2 m')(b:m'.2.2.1=0):0<=(aR m t).1 ∧(aR m t).1 <(m'.2.1.length:Int):=by have a:=h.len;obtain⟨e,d,c⟩:=add_zero (h.err b);rw[c] at a ⊢;simp at a;dsimp only;omega
theorem ar7{m:MS}{s a:List UInt8}(d:(ga m s a).2.2.2.1 =0)(h:fQ m):0<=(ga m s a).1 ∧(ga m s a).1 <((ga m s a).2.2.1.length :Int):=by
 unfold ga at d ⊢;split at d;·rename_i c;rw[if_pos c];obtain⟨i,b⟩:=BU.1 c.2.2;dsimp only;rw[dv,b];exact h _ _ b
 ·rename_i c;rw[if_neg c];have:=(eO d).1;obtain⟨i,b⟩:=BU.1 (show (aX (k:=.sn) m.1 s).isSome=true by simpa using this);dsimp only[ak];rw[dv,b];exact h _ _ b
theorem ao6{m:MS}{s a:List UInt8}(b:(dE m s a).2.2.2.1 =0)(h:fQ m):0<=(dE m s a).1 ∧(dE m s a).1 <((dE m s a).2.2.1.length :Int):=by
 unfold dE at b ⊢;split at b;·rename_i c;rw[if_pos c];exact yM (a6.refl _) b
 ·rename_i c;rw[if_neg c];exact ar7 b h
theorem ar8{T:TF}(d:eP T){m:MS}{n:aa}{k:Int}{u a:List UInt8}(c:(de T m n k u a).2.2.2.1 =0):0<=(de T m n k u a).1 ∧(de T m n k u a).1 <((de T m n k u a).2.2.1.length :Int):=by
 simp only[de] at c ⊢;have h:=(ay (aR m (bk k)).2 (!(ao n u).2) 2).trans (d _ (ao n u).1 a);split at c;·rename_i b;rw[if_pos b];exact yM (h.trans (th _ _ _)) b
 ·rename_i b;exact absurd c b
theorem ar9{T:TF}(d:eP T){m:MS}{n:aa}{a:List UInt8}(c:(cP T m n a).2.2.2.1 =0):0<=(cP T m n a).1 ∧(cP T m n a).1 <((cP T m n a).2.2.1.length :Int):=by
 simp only[cP] at c ⊢;have h:=((ay (aR m (bk 14)).2 (decide (n.l.length=0)) 6).trans (ay _ (decide (30<n.l.length)) 3)).trans (pv d a n.l [] [] _);split at c;·rename_i b;rw[if_pos b];exact yM (h.trans (th _ _ _)) b
 ·rename_i b;exact absurd c b
theorem ao7{T:TF}(d:eP T){m:MS}{n:aa}{k:Int}{w:List UInt8×MS}(c:(gb T m n k w).2.2.2.1 =0):0<=(gb T m n k w).1 ∧(gb T m n k w).1 <((gb T m n k w).2.2.1.length :Int):=by
 simp only[gb] at c ⊢;split at c;·rename_i b;rw[if_pos b];have a:=(alp d (cm (k:=.sn) (aR (ak (az (bO (aC w.1)) w.2 n).2 (aX (k:=.sn) (az (bO (aC w.1)) w.2 n).2.1 w.1).isSome 5) ⟨k,w.1,(az (bO (aC w.1)) w.2 n).1,0,[],false,[],0,[],[]⟩).2.1 w.1 (aR (ak (az (bO (aC w.1)) w.2 n).2 (aX (k:=.sn) (az (bO (aC w.1)) w.2 n).2.1 w.1).isSome 5) ⟨k,w.1,(az (bO (aC w.1)) w.2 n).1,0,[],false,[],0,[],[]⟩).1,(aR (ak (az (bO (aC w.1)) w.2 n).2 (aX (k:=.sn) (az (bO (aC w.1)) w.2 n).2.1 w.1).isSome 5) ⟨k,w.1,(az (bO (aC w.1)) w.2 n).1,0,[],false,[],0,[],[]⟩).2.2) n k (aC w.1) w.1 (az (bO (aC w.1)) w.2 n).1 (aR (ak (az (bO (aC w.1)) w.2 n).2 (aX (k:=.sn) (az (bO (aC w.1)) w.2 n).2.1 w.1).isSome 5) ⟨k,w.1,(az (bO (aC w.1)) w.2 n).1,0,[],false,[],0,[],[]⟩).1).len;obtain⟨g,f,e⟩:=add_zero b;dsimp only at a ⊢;rw[e] at a ⊢;simp only[AD,Av,AA] at a;dsimp only at a ⊢;omega
 ·rename_i b;exact absurd c b
theorem atN{T:TF}(d:eP T){m:MS}{n:aa}{k:Int}{a:List UInt8}(b:(cQ T m n k a).2.2.2.1 =0):0<=(cQ T m n k a).1 ∧(cQ T m n k a).1 <((cQ T m n k a).2.2.1.length :Int):=by
 simp only[cQ] at b ⊢;split at b;·rename_i c;rw[if_pos c];exact ao7 d b
 ·rename_i c;rw[if_neg c];exact ao7 d b
theorem asa{T:TF}(c:eP T)(e:TIn T)(m:MS)(n:aa)(a:List UInt8)(b:(ch T m n a).2.2.2.1 =0)(h:fQ m):0<=(ch T m n a).1 ∧(ch T m n a).1 <((ch T m n a).2.2.1.length :Int):=by
 simp only[ch] at b ⊢;have d:fQ (ak m (!(ao n [116,121,112,101]).2) 2):=h
 repeat' split
 all_goals simp_all only[if_true,if_false,ne_eq,not_false_eq_true,not_true_eq_false]
 all_goals first|exact e _ _ _ b d|exact atN c b|exact ar8 c b|exact ao6 b d|skip
theorem abn:∀k,TIn (bh k)
 |0,m,n,a=>by intro d h;exact absurd (eO (m:=m) (b:=true) (c:=3) d).1 (by decide)
 |k+1,m,n,a=>by
  intro d h;have j:=fU k;have f:∀{e:MS},(ch (bh k) e n a).2.2.2.1 =0->fQ e->0<=(ch (bh k) e n a).1 ∧(ch (bh k) e n a).1 <((ch (bh k) e n a).2.2.1.length :Int):=λd h=>asa j (abn k) _ _ _ d h
  unfold bh at d ⊢;split at d;·rename_i i;exact absurd d i
  ·rename_i i;rw[if_neg i];dsimp only at d ⊢;have r:fQ (ak (bZ m (m.2.2.2+1)) (decide (20<m.2.2.2+1)) 3):=h;split at d;·rename_i g;exact absurd d g
   ·rename_i g;rw[if_neg g];by_cases o:n.kind=4;·simp only[o,if_true] at d ⊢;exact ao6 d r
    ·simp only[o,if_false] at d ⊢;by_cases p:n.kind=5;·simp only[p,if_true] at d ⊢;exact ar9 j d
     ·simp only[p,if_false] at d ⊢;by_cases q:n.kind=6;·simp only[q,if_true] at d ⊢;exact f d r
      ·simp only[q,if_false] at d ⊢;have:=eO (m:=ak (bZ m (m.2.2.2+1)) (decide (20<m.2.2.2+1)) 3) (b:=true) (c:=2) d;exact absurd this.1 (by decide)
theorem dK{n:aa}{s:List UInt8}(h:aE n):aE (ao n s).1 :=by
 unfold ao;split
 ·cases a:fa n.names n.l s with
  |none=>exact aE.zero
  |some c=>show aE c;obtain⟨-, -, -, -, -,k⟩:=(aE.eta.2 h).kids;exact k c (am1 a)
 ·exact aE.zero
theorem aE.sizes{n:aa}(h:aE n):n.s.length<=100∧n.l.length<=8∧n.names.length<=8∧∀c∈n.l,aE c:=by obtain⟨d,a,b, -, -,k⟩:=(aE.eta.2 h).kids;exact⟨d,a,AH b a,k⟩
theorem alu(m:MS)(a b:List UInt8):(bJ m a b).1.length <=a.length+b.length+1:=by
 show (if dq a 46=false∧b≠[] then b++[46]++a else a).length<=_;split;·simp only[AD,Av,AA];omega
 ·omega
theorem alv(s:List UInt8):(aC s).length<=s.length:=by unfold aC;rw[Bw];omega
structure cn(a b:List ab):Prop where
 len:a.length<=b.length
 tk:∀(i:Nat) t,a[i]? =some t->∃t',b[i]? =some t'∧t'.kind=t.kind∧t'.name=t.name
theorem cn.refl(a:List ab):cn a a:=⟨Am _,λ_ t h=>⟨t,h,rfl,rfl⟩⟩
theorem cn.trans{a b c:List ab}(h:cn a b)(k:cn b c):cn a c:=⟨AH h.len k.len,λi t g=>by obtain⟨m,e,o,j⟩:=h.tk i t g;obtain⟨q,p,f,d⟩:=k.tk i m e;exact⟨q,p,f.trans o,d.trans j⟩⟩
theorem cn.app(a:List ab)(t:ab):cn a (a++[t]):=⟨by simp,λi u h=>⟨u,by rw[Ar];exact h;exact(Ad.1 h).1,rfl,rfl⟩⟩
def afe(a:List ab)(l:List Int):Prop:=∀b∈l,0<=b∧∃t,a[b.toNat]? =some t∧t.kind≠14
structure FOK(len:Nat)(f:aA):Prop where
 typ:0<=f.typ∧f.typ<(len:Int)
 nm:f.name≠[]
 df:aE f.df
structure TOK(ts:List ab)(t:ab):Prop where
 kind:1<=t.kind∧t.kind<=14
 named:t.name≠[]↔9<=t.kind∧t.kind<=11
 items:0<=t.items∧t.items<(ts.length:Int)
 br:afe ts t.branches
 fs:∀f∈t.fields,FOK ts.length f
 fn:(t.fields.map aA.name).Nodup
 fl:t.fields.length<=8
 bl:t.branches.length<=8
theorem afe.mono{a b:List ab}(h:cn a b){l:List Int}(k:afe a l):afe b l:=λx e=>by obtain⟨g,t,d,j⟩:=k x e;obtain⟨f,c,i, -⟩:=h.tk _ _ d;exact⟨g,f,c,by rw[i];exact j⟩
theorem FOK.mono{a b:Nat}(h:a<=b){f:aA}(k:FOK a f):FOK b f:=⟨⟨k.typ.1,by have:=k.typ.2;omega⟩,k.nm,k.df⟩
theorem TOK.mono{a b:List ab}(h:cn a b){t:ab}(k:TOK a t):TOK b t:=
 ⟨k.kind,k.named,⟨k.items.1,by have:=k.items.2;have:=h.len;omega⟩,k.br.mono h,λf c=>(k.fs f c).mono h.len,k.fn,k.fl,k.bl⟩
structure ec(m:MS):Prop where
 tok:∀t∈m.2.1,TOK m.2.1 t
 nm:∀(i:Nat) t,m.2.1[i]? =some t->t.name≠[]->aX (k:=.sn) m.1 t.name=some (i:Int)
 map:fQ m
 mn:∀(x:List UInt8)(i:Int),aX (k:=.sn) m.1 x=some i->x≠[]∧∃t,m.2.1[i.toNat]? =some t∧t.name=x
theorem aki{M:List (List UInt8×Int)}{a b:List ab}(o:cn a b)(h:∀(x:List UInt8)(i:Int),aX (k:=.sn) M x=some i->x≠[]∧∃t,a[i.toNat]? =some t∧t.name=x):
  ∀(x:List UInt8)(i:Int),aX (k:=.sn) M x=some i->x≠[]∧∃t,b[i.toNat]? =some t∧t.name=x:=λx i j=>by
 obtain⟨m,t,g,e⟩:=h x i j;obtain⟨f,c, -,d⟩:=o.tk _ t g;exact⟨m,f,c,d.trans e⟩
theorem aq8{a:List ab}{i:Nat}{t u:ab}(c:a[i]? =some t)(e:u.kind=t.kind)(d:u.name=t.name):cn a (a.set i u):=by
 refine⟨by simp,λj v b=>?_⟩;rw[AB];by_cases h:i=j;·subst h;rw[c] at b;cases b;refine⟨u,?_,e,d⟩;rw[if_pos rfl,if_pos (Ad.1 c).1]
 ·rw[if_neg h];exact⟨v,b,rfl,rfl⟩
theorem am2{m:MS}(h:ec m){i:Nat}{t:ab}(d:m.2.1[i]? =some t){j:Int}(q:j=(i:Int))(f:ab->ab)(v:(f t).kind=t.kind)(e:(f t).name=t.name)(r:TOK m.2.1 (f t)):
  ec (atT m j f)∧cn m.2.1 (atT m j f).2.1 :=by
 subst q;have o:m.2.1.getD (Ae i) (am .atype)=t:=by rw[Af,AR,d];rfl
 have p:cn m.2.1 (atT m (i:Int) f).2.1 :=by show cn m.2.1 (m.2.1.set _ _);rw[o,AR];exact aq8 d v e
 refine⟨⟨λu a=>?_,λj u a b=>?_,(th m i f).map h.map,aki p h.mn⟩,p⟩
 ·refine TOK.mono p ?_;have a:u∈m.2.1.set _ _:=a;rcases DJ a with g|g;·exact h.tok u g
  ·rw[g,o];exact r
 ·have a:(m.2.1.set _ _)[j]? =some u:=a;rw[o,AR,AB] at a;show aX (k:=.sn) m.1 u.name=_;by_cases c:i=j;·subst c;rw[if_pos rfl,if_pos (Ad.1 d).1] at a;cases a;rw[e];exact h.nm i t d (by rw[<-e];exact b)
  ·rw[if_neg c] at a;exact h.nm j u a b
theorem sE(a:List ab)(t:ab):(a++[t])[a.length]? =some t:=by simp
theorem abo{m:MS}(h:ec m){t:ab}(r:(aR m t).2.2.2.1 =0)(x:1<=t.kind∧t.kind<=14)(f:¬(9<=t.kind∧t.kind<=11))(k:t.name=[])(q:t.items=0)(e:t.branches=[])(g:t.fields=[]):
  ec (aR m t).2 ∧cn m.2.1 (aR m t).2.2.1 ∧(aR m t).1 =(m.2.1.length:Int)∧(aR m t).2.2.1[m.2.1.length]? =some t:=by
 have v:=mP m t;obtain⟨A,y,w⟩:=add_zero r;have p:=v.map h.map;rw[w] at p ⊢;have i:=cn.app m.2.1 t;refine⟨⟨λu a=>?_,λj u a d=>?_,p,aki i h.mn⟩,i,rfl,sE _ _⟩
 ·rcases Aw.1 a with c|c;·exact(h.tok u c).mono i
  ·rw[Az.1 c];exact⟨x,by simp[k,f],by rw[q];simp only[AD,Av,AA];omega,(by rw[e];exactλb e=>(by cases e)),(by rw[g];exactλb e=>(by cases e)),(by rw[g];exact CC),by rw[g];exact Br _,by rw[e];exact Br _⟩
 ·have a:(m.2.1++[t])[j]? =some u:=a;rw[List.getElem?_append] at a;split at a;·exact h.nm j u a d
  ·have c:=Ad.1 a;obtain⟨c,o⟩:=c;simp only[Av,AA] at c;have:j-m.2.1.length=0:=by omega
   simp only[this,List.getElem_cons_zero] at o;rw[<-o] at d;exact absurd k d
theorem ao8{m:MS}(h:ec m){t:ab}(v:aX (k:=.sn) m.1 t.name=none)(D:9<=t.kind∧t.kind<=11)(w:t.name≠[])(o:t.items=0)(g:t.branches=[])(p:t.fields=[])(e d:Int):
  ec (cm (k:=.sn) m.1 t.name (m.2.1.length:Int),m.2.1++[t],e,d):=by
 have A:=cn.app m.2.1 t;refine⟨λu f=>?_,λj u f r=>?_,λx i a=>?_,λx i a=>?_⟩
 ·rcases Aw.1 f with c|c;·exact(h.tok u c).mono A
  ·rw[Az.1 c];exact⟨by omega,by simp[w,D],by rw[o];simp only[AD,Av,AA];omega,(by rw[g];exactλb g=>(by cases g)),(by rw[p];exactλb g=>(by cases g)),(by rw[p];exact CC),by rw[p];exact Br _,by rw[g];exact Br _⟩
 ·have f:(m.2.1++[t])[j]? =some u:=f;show aX (k:=.sn) (cm (k:=.sn) m.1 t.name _) u.name=_;rw[mA];rw[List.getElem?_append] at f;split at f
  ·have c:=h.nm j u f r;rw[if_neg];·exact c
   ·intro q;rw[<-q,v] at c;cases c
  ·rename_i E;obtain⟨c,y⟩:=Ad.1 f;simp only[Av,AA] at c;have B:j-m.2.1.length=0:=by omega
   simp only[B,List.getElem_cons_zero] at y;have C:m.2.1.length=j:=by omega
   rw[<-y,if_pos rfl,C]
 ·dsimp only at a ⊢;rw[mA] at a;simp only[AD,Av,AA];split at a;·have o:=Au a;rw[<-o];omega
  ·have:=h.map x i a;omega
 ·dsimp only at a ⊢;rw[mA] at a;split at a;·rename_i q;have o:=Au a;rw[<-q,<-o,AR];exact⟨w,t,sE _ _,rfl⟩
  ·exact aki A h.mn x i a
def je(m m':MS):Prop:=m'.2.2.1=0->m'=m
theorem je.refl(m:MS):je m m:=λ_=>rfl
theorem je.trans{a b c:MS}(h:je a b)(k:je b c):je a c:=λd=>by have:=k d;subst this;exact h d
theorem bA(m:MS)(b:Bool)(c:Int)(a:c≠0:=by decide):je m (ak m b c):=λh=>(eO h a).2
theorem ahj:∀(l:List aa)(m:MS),je m (rP l m)
 | [],m=>je.refl _
 |x::l,m=>(bA m _ 2).trans (ahj l _)
theorem aiZ(m:MS)(n:aa):je m (b9 m n).2 :=(bA m _ 2).trans (ahj _ _)
theorem aaD{a:MS->List UInt8->List UInt8×MS}(c:∀m s,je m (a m s).2):∀(b l:List (List UInt8))(m:MS),je m (dr a b l m).2
 | [],l,m=>je.refl _
 |s::b,l,m=>by
  unfold dr;split;·exact(c m s).trans (aaD c b _ _)
  ·exact aaD c b _ _
theorem ur{a:MS->List UInt8->List UInt8×MS}(b:∀m s,je m (a m s).2)(m:MS)(n:aa):je m (az a m n).2 :=by
 simp only[az];split;·exact(aiZ m _).trans (aaD b _ _ _)
 ·exact je.refl _
theorem ai0:∀(b a:List (List UInt8))(m:MS),je m (lf a b m)
 | [],a,m=>by unfold lf;exact je.refl _
 |s::b,a,m=>by unfold lf;exact((bA m _ 6).trans (bA _ _ 5)).trans (ai0 b _ _)
theorem aff(m:MS)(n:aa)(a:Bool)(df:List UInt8):je m (bP m n a df).2 :=by
 simp only[bP];have h:=((((bA m (!(ao n [115,121,109,98,111,108,115]).2) 2).trans (aiZ _ (ao n [115,121,109,98,111,108,115]).1)).trans (bA _ (decide ((b9 (ak m (!(ao n [115,121,109,98,111,108,115]).2) 2) (ao n [115,121,109,98,111,108,115]).1).1.length =0)) 6)).trans (bA _ (decide (30<(b9 (ak m (!(ao n [115,121,109,98,111,108,115]).2) 2) (ao n [115,121,109,98,111,108,115]).1).1.length)) 3)).trans (ai0 (b9 (ak m (!(ao n [115,121,109,98,111,108,115]).2) 2) (ao n [115,121,109,98,111,108,115]).1).1 [] _);split;·exact(h.trans (bA _ _ 2)).trans (bA _ _ 6)
 ·exact h
theorem apV(m:MS)(a b:List UInt8):je m (ga m a b).2 :=by
 unfold ga;split;·exact je.refl _
 ·exact bA _ _ _
theorem yj(m:MS)(a b:List UInt8):je m (bJ m a b).2 :=bA _ _ _
theorem ahW{m:MS}{a b:List UInt8}(h:(bJ m a b).2.2.2.1 =0):(bJ m a b).1 ≠[]:=by intro c;have d:=(eO (m:=m) h).1;have c:(if dq a 46=false∧b≠[] then b++[46]++a else a)=[]:=c;rw[c] at d;exact absurd d (by decide)
theorem as5{s:List UInt8}(h:cf s=true):s≠[]:=by intro e;subst e;exact absurd h (by decide)
def aaE(T:TF):Prop:=∀m n a,aE n->ec m->(T m n a).2.2.2.1 =0->ec (T m n a).2 ∧cn m.2.1 (T m n a).2.2.1
theorem am3{m:MS}{s a:List UInt8}(h:ec m)(b:(dE m s a).2.2.2.1 =0):ec (dE m s a).2 ∧cn m.2.1 (dE m s a).2.2.1 :=by
 unfold dE at b ⊢;split at b;·rename_i c;rw[if_pos c];have:=abo h b (by show 1<=bE ([]::b8) s∧bE ([]::b8) s<=14;omega) (by show ¬(9<=bE ([]::b8) s∧_);omega) rfl rfl rfl rfl;exact⟨this.1,this.2.1⟩
 ·rename_i c;rw[if_neg c];rw[apV m s a b];exact⟨h,cn.refl _⟩
theorem alw{T:TF}(q:eP T)(p:TIn T)(B:aaE T){m:MS}{n:aa}(o:aE n){k:Int}(F:k=12∨k=13){u a:List UInt8}(h:ec m)(d:(de T m n k u a).2.2.2.1 =0):
  ec (de T m n k u a).2 ∧cn m.2.1 (de T m n k u a).2.2.1 :=by
 simp only[de] at d ⊢;split at d;·rename_i b;rw[if_pos b];have e:=(q _ _ _).err b;have x:=bA _ _ _ (by decide) e;rw[x] at e b ⊢;obtain⟨j,w,C,y⟩:=abo h e (by show 1<=k∧k<=14;omega) (by show ¬(9<=k∧k<=11);omega) rfl rfl rfl rfl;obtain⟨g,i⟩:=B (aR m (bk k)).2 (ao n u).1 a (dK o) j b;have r:=p (aR m (bk k)).2 (ao n u).1 a b j.map;obtain⟨A,f,E,D⟩:=i.tk _ _ y;have c:=g.tok A (Ai f);obtain⟨t,v⟩:=am2 g f C (ahU · (T (aR m (bk k)).2 (ao n u).1 a).1) rfl rfl ⟨c.kind,c.named,r,c.br,c.fs,c.fn,c.fl,c.bl⟩;exact⟨t,(w.trans i).trans v⟩
 ·rename_i b;exact absurd d b
theorem ai1{T:TF}(v:eP T)(u:TIn T)(B:aaE T)(a:List UInt8):∀(xs:List aa)(l:List Int)(c:List (List UInt8×Bool))(m:MS),(∀x∈xs,aE x)->ec m->afe m.2.1 l->(cg T a xs l c m).2.2.2.1 =0->
  ec (cg T a xs l c m).2 ∧cn m.2.1 (cg T a xs l c m).2.2.1 ∧afe (cg T a xs l c m).2.2.1 (cg T a xs l c m).1 ∧(cg T a xs l c m).1.length <=l.length+xs.length
 | [],l,c,m,_,h,r,_=>⟨h,cn.refl _,r,C8 _ _⟩
 |x::xs,l,c,m,A,h,r,d=>by
  have e:cg T a (x::xs) l c m=(if m.2.2.1=0 then (if (T m x a).2.2.2.1 =0 then cg T a xs (l++[(T m x a).1]) (cm (k:=.sb) c (hY (T m x a).2.2.1 (T m x a).1) true) (ak (T m x a).2 (((T m x a).2.2.1.getD (T m x a).1.toNat (am .atype)).kind==14||dv (k:=.sb) c (hY (T m x a).2.2.1 (T m x a).1)) 6) else (l,(T m x a).2)) else (l,m)):=rfl;rw[e] at d ⊢;split at d
  ·rename_i t;rw[if_pos t];split at d
   ·rename_i f;rw[if_pos f];have J:=eO ((pv v a xs _ _ _).err d);obtain⟨g,q⟩:=J;rw[q] at d ⊢;obtain⟨I,w⟩:=B m x a (A x (by simp)) h f;have C:=u m x a f h.map;have i:(T m x a).1.toNat <(T m x a).2.2.1.length :=by omega
    have o:afe (T m x a).2.2.1 (l++[(T m x a).1]):=by
     intro b p;rcases Aw.1 p with j|j;·exact(r.mono w) b j
     ·rw[Az.1 j];refine⟨C.1,_,Ab i,?_⟩;intro G;rw[Af,Ab i] at g;simp[G] at g
    obtain⟨E,F,H,D⟩:=ai1 v u B a xs _ _ _ (λy L=>A y (by simp[L])) I o d;refine⟨E,w.trans F,H,?_⟩;simp only[AD,Av,AA] at D ⊢;omega
   ·rename_i f;exact absurd d f
  ·rename_i t;exact absurd d t
theorem aq9{T:TF}(i:eP T)(p:TIn T)(C:aaE T){m:MS}{n:aa}(g:aE n){a:List UInt8}(h:ec m)(e:(cP T m n a).2.2.2.1 =0):
  ec (cP T m n a).2 ∧cn m.2.1 (cP T m n a).2.2.1 :=by
 simp only[cP] at e ⊢;split at e;·rename_i c;rw[if_pos c];have f:=(pv i a n.l [] [] _).err c;have v:=((bA (aR m (bk 14)).2 (decide (n.l.length=0)) 6).trans (bA _ (decide (30<n.l.length)) 3)) f;rw[v] at f c ⊢;obtain⟨B,u,D,w⟩:=abo h f (by decide) (by decide) rfl rfl rfl rfl;obtain⟨k,o,A,t⟩:=ai1 i p C a n.l [] [] _ g.sizes.2.2.2 B (λb x=>by cases x) c;obtain⟨y,j,F,E⟩:=o.tk _ _ w;have d:=k.tok y (Ai j);obtain⟨q,r⟩:=am2 k j D (rQ · (cg T a n.l [] [] (aR m (bk 14)).2).1) rfl rfl ⟨d.kind,d.named,d.items,A,d.fs,d.fn,d.fl,AH t (by simpa using g.sizes.2.1)⟩;exact⟨q,(u.trans o).trans r⟩
 ·rename_i c;exact absurd e c
theorem ahk(m:MS)(s:List UInt8):je m (fb m s).2 :=bA _ _ _
theorem alx(sp:List UInt8)(m:MS)(s:List UInt8):je m (bO sp m s).2 :=yj _ _ _
theorem ara{T:TF}(p:eP T)(j:TIn T)(v:aaE T){m:MS}{n:aa}(i:aE n){names:List (List UInt8×Bool)}{a:List UInt8}(h:ec m)(b:(cZ T m n names a).2.1.2.2.1 =0):
  ec (cZ T m n names a).2.1 ∧cn m.2.1 (cZ T m n names a).2.1.2.1 ∧FOK (cZ T m n names a).2.1.2.1.length (cZ T m n names a).1 ∧dv (k:=.sb) names (cZ T m n names a).1.name =false∧(cZ T m n names a).2.2 =cm (k:=.sb) names (cZ T m n names a).1.name true:=by
 simp only[cZ] at b ⊢;have o:=ur ahk _ n b;rw[o] at b ⊢;have d:=(p _ _ _).err b;have c:=eO d;have e:=eO (c.2▸d);have g:=eO (e.2▸c.2▸d);have r:(iv (ak m (!(n.kind==6)) 2) n).2.2.2.1 =0:=g.2▸e.2▸c.2▸d;have t:(iv (ak m (!(n.kind==6)) 2) n).2 =m:=((bA m _ 2).trans (show je _ (iv _ n).2 from bA _ _ _)) r;have f:=((c.2.trans e.2).trans g.2).trans t;rw[f] at b ⊢;obtain⟨q,u⟩:=v m _ a (dK i) h b;have w:=j m _ a b h.map;refine⟨q,u,⟨w,as5 (by simpa using g.1),dK i⟩,e.1,trivial⟩
theorem ahl{T:TF}(g:eP T)(q:TIn T)(B:aaE T)(a:List UInt8):∀(xs:List aa)(l:List aA)(names:List (List UInt8×Bool))(m:MS),(∀x∈xs,aE x)->ec m->
  (∀f∈l,FOK m.2.1.length f∧dv (k:=.sb) names f.name=true)->(l.map aA.name).Nodup->(cp T a xs l names m).2.2.2.1 =0->
  ec (cp T a xs l names m).2 ∧cn m.2.1 (cp T a xs l names m).2.2.1 ∧(∀f∈(cp T a xs l names m).1,FOK (cp T a xs l names m).2.2.1.length f)∧((cp T a xs l names m).1.map aA.name).Nodup∧(cp T a xs l names m).1.length <=l.length+xs.length
 | [],l,names,m,_,h,d,o,_=>⟨h,cn.refl _,λf e=>(d f e).1,o,by simp[cp]⟩
 |x::xs,l,names,m,A,h,d,o,b=>by
  have c:cp T a (x::xs) l names m=(if m.2.2.1=0 then cp T a xs (l++[(cZ T m x names a).1]) (cZ T m x names a).2.2 (cZ T m x names a).2.1 else cp T a xs l names m):=rfl;rw[c] at b ⊢;have L:m.2.2.1=0:=by
   split at b;·assumption
   ·exact(nE g a xs _ _ _).err b
  rw[if_pos L] at b ⊢;obtain⟨w,j,v,t,u⟩:=ara g q B (A x (by simp)) h ((nE g a xs _ _ _).err b);generalize cZ T m x names a=r at b w j v t u ⊢;have E:∀y,dv (k:=.sb) r.2.2 y=if r.1.name=y then true else dv (k:=.sb) names y:=by intro y;rw[u,dv,mA];split<;>rfl
  obtain⟨G,H,F,J,D⟩:=ahl g q B a xs (l++[r.1]) r.2.2 r.2.1 (λy p=>A y (by simp[p])) w (λf e=>by
   rw[E];rcases Aw.1 e with i|i;·exact⟨(d f i).1.mono j.len,by rw[(d f i).2];simp⟩
   ·rw[Az.1 i];exact⟨v,by simp⟩) (by
   rw[BL,List.nodup_append];refine⟨o,by simp,λy p z C=>?_⟩;simp only[Bn,List.map_nil,Az] at C;subst C;obtain⟨f,e,rfl⟩:=AE.1 p;intro I;have:=(d f e).2;rw[I,t] at this;cases this) b
  refine⟨G,j.trans H,F,J,?_⟩;simp only[AD,Av,AA] at D ⊢;omega
theorem apW{T:TF}(c:eP T)(g:TIn T)(q:aaE T){m:MS}{n:aa}(e:aE n){a:List UInt8}(h:ec m)(b:(bX T m [] n a).2.2.2.1 =0):
  ec (bX T m [] n a).2 ∧cn m.2.1 (bX T m [] n a).2.2.1 ∧(∀f∈(bX T m [] n a).1,FOK (bX T m [] n a).2.2.1.length f)∧((bX T m [] n a).1.map aA.name).Nodup∧(bX T m [] n a).1.length <=8:=by
 have d:=dK (s:=[102,105,101,108,100,115]) e;simp only[bX] at b ⊢;have i:=(nE c a _ _ _ _).err b;have t:=((bA m _ 2).trans (bA _ _ 3)) i;rw[t] at b ⊢;obtain⟨o,k,u,j,r⟩:=ahl c g q a _ [] [] m d.sizes.2.2.2 h (λf p=>by cases p) CC b;refine⟨o,k,u,j,?_⟩;have:=d.sizes.2.1;simp only[AA] at r;omega
theorem akj{T:TF}(X:eP T)(W:TIn T)(hV:aaE T){m:MS}{n:aa}(S:aE n){k:Int}(A:9<=k∧k<=11){a:List UInt8}(h:ec m)(c:(cQ T m n k a).2.2.2.1 =0):
  ec (cQ T m n k a).2 ∧cn m.2.1 (cQ T m n k a).2.2.1 :=by
 have o:∀w:List UInt8×MS,(w.2.2.2.1=0->w.2=m∧w.1≠[])->(gb T m n k w).2.2.2.1 =0->ec (gb T m n k w).2 ∧cn m.2.1 (gb T m n k w).2.2.1 :=by
  intro w hw c;simp only[gb] at c ⊢;split at c
  ·rename_i j;rw[if_pos j];obtain⟨J,z2,Q⟩:=add_zero j;have y:=eO J;have F:=ur (alx (aC w.1)) w.2 n (y.2▸J);have G:w.2.2.2.1=0:=by rw[<-F];exact y.2▸J
   obtain⟨O,x⟩:=hw G;have fr:aX (k:=.sn) m.1 w.1=none:=by have:=y.1;rw[F,O] at this;simpa using this
   generalize br:(az (bO (aC w.1)) w.2 n).1 =g at c Q ⊢;rw[Q] at c ⊢;rw[y.2,F,O] at c ⊢;dsimp only at c ⊢;have C:=ao8 h (t:=⟨k,w.1,g,0,[],false,[],0,[],[]⟩) fr A x rfl rfl rfl 0 m.2.2.2;have P:=cn.app m.2.1 ⟨k,w.1,g,0,[],false,[],0,[],[]⟩;have H:=sE m.2.1 ⟨k,w.1,g,0,[],false,[],0,[],[]⟩;generalize Y:((cm (k:=.sn) m.1 w.1 (m.2.1.length:Int),m.2.1++[⟨k,w.1,g,0,[],false,[],0,[],[]⟩],0,m.2.2.2):MS)=M at c C ⊢;have L:M.2.1=m.2.1++[⟨k,w.1,g,0,[],false,[],0,[],[]⟩]:=by rw[<-Y]
   rw[<-L] at P H;have base:∀(i:MS)(t:ab),ec i->cn M.2.1 i.2.1->t.kind=k->t.name=w.1->TOK i.2.1 t->ec (atT i (m.2.1.length:Int) λ_=>t)∧cn m.2.1 (atT i (m.2.1.length:Int) λ_=>t).2.1 :=by intro i t Z B tk tn to;obtain⟨t',g2,k2,D⟩:=B.tk _ _ H;obtain⟨i3,s3⟩:=am2 Z g2 rfl (λ_=>t) (tk.trans k2.symm) (tn.trans D.symm) to;exact⟨i3,(P.trans B).trans s3⟩
   have q:∀i:MS,cn M.2.1 i.2.1->(0:Int)<=0∧(0:Int)<(i.2.1.length:Int):=by intro i B;have:=(Ad.1 H).1;have:=B.len;omega
   have p:1<=k∧k<=14:=by omega
   have d:∀N,afe N []:=λN b hb=>by cases hb
   simp only[rC] at c ⊢;split at c
   ·rename_i E;rw[if_pos E];split at c;·rename_i e;rw[if_pos e];obtain⟨i2,R,f2,d2,D⟩:=apW X W hV S C e;exact base _ _ i2 R rfl rfl ⟨p,by simp[x,A],q _ R,d _,f2,d2,D,Br _⟩
    ·rename_i e;exact absurd c e
   ·rename_i E;rw[if_neg E];split at c
    ·rename_i r;rw[if_pos r];split at c;·rename_i e;rw[if_pos e];have:=aff M n false [] e;rw[this];exact base _ _ C (cn.refl _) rfl rfl ⟨p,by simp[x,A],q _ (cn.refl _),d _,(λf I=>by cases I),CC,Br _,Br _⟩
     ·rename_i e;exact absurd c e
    ·rename_i r;rw[if_neg r];split at c;·rename_i e;rw[if_pos e];have:=((bA M (!((ao n [115,105,122,101]).1.kind ==3)) 2).trans (bA _ (decide ((ao n [115,105,122,101]).1.n <0)||decide (5000<(ao n [115,105,122,101]).1.n)) 6)) e;rw[this];exact base _ _ C (cn.refl _) rfl rfl ⟨p,by simp[x,A],q _ (cn.refl _),d _,(λf I=>by cases I),CC,Br _,Br _⟩
     ·rename_i e;exact absurd c e
  ·rename_i j;exact absurd c j
 simp only[cQ] at c ⊢;have u:je m (iv m n).2 :=bA _ _ _;split at c;·rename_i j;rw[if_pos j];exact o _ (λv=>⟨((u.trans (bA _ _ 2)).trans (yj _ _ _)) v,ahW v⟩) c
 ·rename_i j;rw[if_neg j];exact o _ (λv=>⟨(u.trans (yj _ _ _)) v,ahW v⟩) c
theorem arb{T:TF}(j:eP T)(i:TIn T)(g:aaE T){m:MS}{n:aa}(f:aE n){a:List UInt8}(h:ec m)(d:(ch T m n a).2.2.2.1 =0):
  ec (ch T m n a).2 ∧cn m.2.1 (ch T m n a).2.2.1 :=by
 have e:ec (ak m (!(ao n [116,121,112,101]).2) 2):=⟨h.tok,h.nm,h.map,h.mn⟩
 have k:∀{b:List ab},cn (ak m (!(ao n [116,121,112,101]).2) 2).2.1 b->cn m.2.1 b:=id;simp only[ch] at d ⊢;split at d;·rename_i c;rw[if_pos c];exact g _ _ _ (dK f) e d
 rename_i c;rw[if_neg c];split at d;·rename_i c;rw[if_pos c];exact akj j i g f (by decide) e d
 rename_i c;rw[if_neg c];split at d;·rename_i c;rw[if_pos c];exact akj j i g f (by decide) e d
 rename_i c;rw[if_neg c];split at d;·rename_i c;rw[if_pos c];exact akj j i g f (by decide) e d
 rename_i c;rw[if_neg c];split at d;·rename_i c;rw[if_pos c];exact alw j i g f (.inl rfl) e d
 rename_i c;rw[if_neg c];split at d;·rename_i c;rw[if_pos c];exact alw j i g f (.inr rfl) e d
 rename_i c;rw[if_neg c];exact am3 e d
theorem ahX:∀k,aaE (bh k)
 |0,m,n,a=>by intro _ _ d;exact absurd (eO (m:=m) (b:=true) (c:=3) d).1 (by decide)
 |k+1,m,n,a=>by
  intro j h d;have p:=fU k;have o:=abn k;have t:=ahX k;unfold bh at d ⊢;split at d;·rename_i g;exact absurd d g
  ·rename_i g;rw[if_neg g];dsimp only at d ⊢;have i:ec (ak (bZ m (m.2.2.2+1)) (decide (20<m.2.2.2+1)) 3):=⟨h.tok,h.nm,h.map,h.mn⟩
   have fin:∀M:MS,ec M∧cn m.2.1 M.2.1->ec (bZ M m.2.2.2)∧cn m.2.1 (bZ M m.2.2.2).2.1 :=λM e=>⟨⟨e.1.tok,e.1.nm,e.1.map,e.1.mn⟩,e.2⟩
   split at d;·rename_i f;exact absurd d f
   ·rename_i f;rw[if_neg f];by_cases q:n.kind=4;·simp only[q,if_true] at d ⊢;exact fin _ (am3 i d)
    ·simp only[q,if_false] at d ⊢;by_cases r:n.kind=5;·simp only[r,if_true] at d ⊢;exact fin _ (aq9 p o t j i d)
     ·simp only[r,if_false] at d ⊢;by_cases u:n.kind=6;·simp only[u,if_true] at d ⊢;exact fin _ (arb p o t j i d)
      ·simp only[u,if_false] at d ⊢;have:=eO (m:=ak (bZ m (m.2.2.2+1)) (decide (20<m.2.2.2+1)) 3) (b:=true) (c:=2) d;exact absurd this.1 (by decide)
def m0:MS:=([],[],0,0)
theorem ai2:ec m0:=⟨λt h=>(by cases h),λi t h=>(by simp[m0] at h),λx i h=>(by cases h),λx i h=>(by cases h)⟩
structure afg(ts:List ab):Prop where
 pos:0<ts.length
 cap:ts.length<=60
 tok:∀t∈ts,TOK ts t
 nm:∀(i j:Nat) t u,ts[i]? =some t->ts[j]? =some u->t.name≠[]->t.name=u.name->i=j
theorem afh{n:aa}(h:aE n)(f:(bh 21 m0 n []).2.2.2.1 =0):afg (bh 21 m0 n []).2.2.1 :=by obtain⟨i,s⟩:=ahX 21 m0 n [] h ai2 f;have r:=abn 21 m0 n [] f ai2.map;have c:=(fU 21 m0 n []).cap (by simp[m0]);refine⟨by omega,c,i.tok,λa b t u k m d e=>?_⟩;have j:=i.nm a t k d;have g:=i.nm b u m (by rw[<-e];exact d);rw[<-e,j] at g;have:=Au g;omega
theorem asb{n:aa}(b:aE n)(a:(fT n).2 =0):afg (fT n).1 :=by
 have c:fT n=(if (bh 21 m0 n []).2.2.2.1 =0 then ((bh 21 m0 n []).2.2.1,0) else ([],(bh 21 m0 n []).2.2.2.1)):=rfl;rw[c] at a ⊢;split at a;·rename_i h;rw[if_pos h];exact afh b h
 ·rename_i h;exact absurd a h
theorem arc{n:aa}(a:(fT n).2 ≠0):(fT n).1 =[]:=by
 have b:fT n=(if (bh 21 m0 n []).2.2.2.1 =0 then ((bh 21 m0 n []).2.2.1,0) else ([],(bh 21 m0 n []).2.2.2.1)):=rfl;rw[b] at a ⊢;split;·rename_i h;rw[if_pos h] at a;exact absurd rfl a
 ·rfl
def Pre(a b:List ab):Prop:=a.length<=b.length∧∀i,i<a.length->b[i]? =a[i]?
theorem Pre.refl(a:List ab):Pre a a:=⟨Am _,λ_ _=>rfl⟩
theorem Pre.trans{a b c:List ab}(h:Pre a b)(k:Pre b c):Pre a c:=⟨AH h.1 k.1,λi d=>(k.2 i (by have:=h.1;omega)).trans (h.2 i d)⟩
theorem Pre.app(a:List ab)(t:ab):Pre a (a++[t]):=⟨by simp,λi b=>Ar b⟩
theorem Pre.at{a b:List ab}(h:Pre (a++[b.getD a.length (am .atype)]) b):Pre a b:=(Pre.app a _).trans h
theorem Pre.of{x p q:List ab}(h:Pre x q)(e:x=p):Pre p q:=e▸h
theorem Pre.eqs{a b:List ab}(h:b=a):Pre a b:=h▸Pre.refl _
theorem afi{a:List ab}{m:MS}(h:Pre a m.2.1){i:Int}(c:a.length<=i.toNat)(f:ab->ab):Pre a (atT m i f).2.1 :=by refine⟨by simpa [atT] using h.1,λj b=>?_⟩;show (m.2.1.set _ _)[j]? =_;rw[AW (by omega)];exact h.2 j b
theorem agD(m:MS)(t:ab):Pre m.2.1 (aR m t).2.2.1 :=by
 rcases afb m t with⟨b,c,a,d,e⟩|⟨b,c,a⟩
 ·exact Pre.eqs a
 ·rw[a];exact Pre.app _ _
def xp(T:TF):Prop:=∀m n a,Pre m.2.1 (T m n a).2.2.1
theorem aly:∀(l:List aa)(m:MS),(rP l m).2.1 =m.2.1
 | [],m=>rfl
 |x::l,m=>aly l _
theorem am4(m:MS)(n:aa):(b9 m n).2.2.1 =m.2.1:=aly _ _
theorem afj{a:MS->List UInt8->List UInt8×MS}(c:∀m s,(a m s).2.2.1 =m.2.1):∀(b l:List (List UInt8))(m:MS),(dr a b l m).2.2.1 =m.2.1
 | [],l,m=>rfl
 |s::b,l,m=>by
  unfold dr;split;·exact(afj c b _ _).trans (c m s)
  ·exact afj c b _ _
theorem ai3{a:MS->List UInt8->List UInt8×MS}(b:∀m s,(a m s).2.2.1 =m.2.1)(m:MS)(n:aa):(az a m n).2.2.1 =m.2.1:=by
 simp only[az];split;·exact(afj b _ _ _).trans (am4 _ _)
 ·rfl
theorem am5:∀(b a:List (List UInt8))(m:MS),(lf a b m).2.1 =m.2.1
 | [],a,m=>rfl
 |s::b,a,m=>by unfold lf;exact am5 b _ _
theorem apX(m:MS)(n:aa)(a:Bool)(df:List UInt8):(bP m n a df).2.2.1 =m.2.1:=by
 simp only[bP];have h:=am5 (b9 (ak m (!(ao n [115,121,109,98,111,108,115]).2) 2) (ao n [115,121,109,98,111,108,115]).1).1 [] (ak (ak (b9 (ak m (!(ao n [115,121,109,98,111,108,115]).2) 2) (ao n [115,121,109,98,111,108,115]).1).2 (decide ((b9 (ak m (!(ao n [115,121,109,98,111,108,115]).2) 2) (ao n [115,121,109,98,111,108,115]).1).1.length =0)) 6) (decide (30<(b9 (ak m (!(ao n [115,121,109,98,111,108,115]).2) 2) (ao n [115,121,109,98,111,108,115]).1).1.length)) 3);have b:=h.trans (am4 (ak m (!(ao n [115,121,109,98,111,108,115]).2) 2) (ao n [115,121,109,98,111,108,115]).1);split;·exact b
 ·exact b
theorem asc(m:MS)(a b:List UInt8):(ga m a b).2.2.1 =m.2.1:=by unfold ga;split<;>rfl
theorem am6(m:MS)(s a:List UInt8):Pre m.2.1 (dE m s a).2.2.1 :=by
 unfold dE;split;·exact agD _ _
 ·exact Pre.eqs (asc _ _ _)
theorem alz{T:TF}(b:eP T)(c:xp T)(m:MS)(n:aa)(k:Int)(u a:List UInt8):Pre m.2.1 (de T m n k u a).2.2.1 :=by
 simp only[de];have h:=(agD m (bk k)).trans (c (ak (aR m (bk k)).2 (!(ao n u).2) 2) (ao n u).1 a);split;·rename_i d;refine afi h ?_ _;obtain⟨g,f,e⟩:=add_zero ((ay _ _ 2).err ((b _ _ _).err d));rw[e];simp
 ·exact h
theorem ai4{T:TF}(c:xp T)(a:List UInt8):∀(xs:List aa)(l:List Int)(b:List (List UInt8×Bool))(m:MS),Pre m.2.1 (cg T a xs l b m).2.2.1
 | [],l,b,m=>Pre.refl _
 |x::xs,l,b,m=>by
  unfold cg;split
  ·dsimp only;split;·exact(c m x a).trans (Pre.of (ai4 c a xs _ _ _) rfl)
   ·exact c m x a
  ·exact Pre.refl _
theorem ard{T:TF}(b:eP T)(c:xp T)(m:MS)(n:aa)(a:List UInt8):Pre m.2.1 (cP T m n a).2.2.1 :=by
 simp only[cP];have h:=(agD m (bk 14)).trans (ai4 c a n.l [] [] (ak (ak (aR m (bk 14)).2 (decide (n.l.length=0)) 6) (decide (30<n.l.length)) 3));split;·rename_i d;refine afi h ?_ _;obtain⟨g,f,e⟩:=add_zero ((ay _ _ 6).err ((ay _ _ 3).err ((pv b a _ _ _ _).err d)));rw[e];simp
 ·exact h
theorem apY{T:TF}(b:xp T)(m:MS)(n:aa)(names:List (List UInt8×Bool))(a:List UInt8):Pre m.2.1 (cZ T m n names a).2.1.2.1 :=by simp only[cZ];rw[ai3 (λ_ _=>rfl)];exact Pre.of (b _ _ _) rfl
theorem aaF{T:TF}(b:xp T)(a:List UInt8):∀(xs:List aa)(l:List aA)(names:List (List UInt8×Bool))(m:MS),Pre m.2.1 (cp T a xs l names m).2.2.1
 | [],l,names,m=>Pre.refl _
 |x::xs,l,names,m=>by
  unfold cp;split;·exact(apY b m x names a).trans (aaF b a xs _ _ _)
  ·exact aaF b a xs _ _ _
theorem ai5{T:TF}(c:xp T)(m:MS)(b:List aA)(n:aa)(a:List UInt8):Pre m.2.1 (bX T m b n a).2.2.1 :=by simp only[bX];exact Pre.of (aaF c a _ _ _ _) rfl
theorem asd{T:TF}(f:xp T){p:List ab}(m:MS)(h:Pre p m.2.1)(n:aa)(k:Int)(a g:List UInt8)(e:List (List UInt8))(c:Int)(b:p.length<=c.toNat):Pre p (rC T m n k a g e c).2.1 :=by
 simp only[rC];split
 ·have d:=h.trans (ai5 f m [] n a);split;·exact afi d b _
  ·exact d
 ·split
  ·have d:Pre p (bP m n false []).2.2.1 :=by rw[apX];exact h
   split;·exact afi d b _
   ·exact d
  ·split;·refine afi ?_ b _;exact h
   ·exact h
theorem am7{T:TF}(c:xp T)(m:MS)(n:aa)(k:Int)(w:List UInt8×MS)(b:w.2.2.1=m.2.1):Pre m.2.1 (gb T m n k w).2.2.1 :=by
 simp only[gb];have a:(az (bO (aC w.1)) w.2 n).2.2.1 =m.2.1:=(ai3 (λ_ _=>rfl) _ _).trans b;have h:=agD (ak (az (bO (aC w.1)) w.2 n).2 (aX (k:=.sn) (az (bO (aC w.1)) w.2 n).2.1 w.1).isSome 5) ⟨k,w.1,(az (bO (aC w.1)) w.2 n).1,0,[],false,[],0,[],[]⟩;have h:Pre m.2.1 (aR (ak (az (bO (aC w.1)) w.2 n).2 (aX (k:=.sn) (az (bO (aC w.1)) w.2 n).2.1 w.1).isSome 5) ⟨k,w.1,(az (bO (aC w.1)) w.2 n).1,0,[],false,[],0,[],[]⟩).2.2.1 :=by rw[<-a];exact h
 split
 ·rename_i d;obtain⟨g,f,e⟩:=add_zero d;refine asd c (p:=m.2.1) _ ?_ _ _ _ _ _ _ ?_;·exact h
  rw[e];show m.2.1.length<=(Ae ((az (bO (aC w.1)) w.2 n).2.2.1.length :Int))
  rw[a];simp
 ·exact h
theorem akk{T:TF}(b:xp T)(m:MS)(n:aa)(k:Int)(a:List UInt8):Pre m.2.1 (cQ T m n k a).2.2.1 :=by
 simp only[cQ];split;·exact am7 b _ _ _ _ rfl
 ·exact am7 b _ _ _ _ rfl
theorem are{T:TF}(c:eP T)(b:xp T)(m:MS)(n:aa)(a:List UInt8):Pre m.2.1 (ch T m n a).2.2.1 :=by
 simp only[ch]
 repeat' split
 ·exact b (ak m (!(ao n [116,121,112,101]).2) 2) _ _
 ·exact akk b (ak m (!(ao n [116,121,112,101]).2) 2) _ _ _
 ·exact akk b (ak m (!(ao n [116,121,112,101]).2) 2) _ _ _
 ·exact akk b (ak m (!(ao n [116,121,112,101]).2) 2) _ _ _
 ·exact alz c b (ak m (!(ao n [116,121,112,101]).2) 2) _ _ _ _
 ·exact alz c b (ak m (!(ao n [116,121,112,101]).2) 2) _ _ _ _
 ·exact am6 (ak m (!(ao n [116,121,112,101]).2) 2) _ _
theorem ahY:∀k,xp (bh k)
 |0,m,n,a=>Pre.refl _
 |k+1,m,n,a=>by
  unfold bh;split;·exact Pre.refl _
  ·dsimp only;split;·exact Pre.refl _
   ·have fin:∀M:MS,Pre m.2.1 M.2.1->Pre m.2.1 (bZ M m.2.2.2).2.1 :=λ_ h=>h
    refine fin _ ?_
    repeat' split
    ·exact am6 (ak (bZ m (m.2.2.2+1)) (decide (20<m.2.2.2+1)) 3) _ _
    ·exact ard (fU k) (ahY k) (ak (bZ m (m.2.2.2+1)) (decide (20<m.2.2.2+1)) 3) _ _
    ·exact are (fU k) (ahY k) (ak (bZ m (m.2.2.2+1)) (decide (20<m.2.2.2+1)) 3) _ _
    ·exact Pre.refl _
def yN(n:aa)(r:List ab×Int):Prop:=r=fT n
def yO(r:Bool):Prop:=r=true
abbrev RS:=List ab×Int
def Ag(a:MS)(r:RS):Prop:=r.1.length<=60∧r.2=a.2.2.1∧(r.2=0->r.1=a.2.1)
def AgI(a:Int×MS)(r:Int×RS):Prop:=Ag a.2 r.2∧(r.2.2=0->r.1=a.1)
def OfS(a:List ab)(e:Int)(m:MS):Prop:=m.2.2.1=e∧(e=0->m.2.1=a∧ec m)
theorem OfS.z{a:List ab}{m:MS}(h:OfS a 0 m):m.2.1=a∧m.2.2.1=0∧((0:Int)=0->ec m):=⟨(h.2 rfl).1,h.1,λ_=>(h.2 rfl).2⟩
def aN(e c:Int):Int:=if e=0 then c else e
def oH(s:List UInt8):Int:=if bE ([]::b8) s<0 then 0 else bE ([]::b8) s
def xF(s:List UInt8)(r:Int):Prop:=r=oH s
def xG(k:Int)(r:List UInt8):Prop:=r=uk k
def yP(a:List ab)(i:Int)(r:List UInt8):Prop:=r=hY a i
def vn(s r:List UInt8):Prop:=r=aC s
def mB(n:aa)(name:List UInt8)(r:aa×Bool):Prop:=r=ao n name
def wL(c:Int)(r:Bool):Prop:=r=dq dJ (Bq c.toNat)
def xH(c:Int)(r:Bool):Prop:=r=dq iV (Bq c.toNat)
def sV(s:List UInt8)(r:Bool):Prop:=r=cf s
def lI(a b r:List UInt8):Prop:=r=if a=[]∨b=[] then a++b else a++[46]++b
def xI(s:List UInt8)(r:Bool):Prop:=r=(Go.Lib.split s [46]).all cf
def jh(a:List ab)(e c:Int)(r:Int×RS):Prop:=r=(0,a,aN e c)
def gc(a:List ab)(e:Int)(t:ab)(r:Int×RS):Prop:=r=if 60<=a.length then (0,a,aN e 3) else ((a.length:Int),a++[t],e)
def dh(a:List ab)(e:Int)(s:List UInt8)(r:Int×Bool×RS):Prop:=
 r.2.2=(a,e)∧(r.2.1=true->0<=r.1∧∃t,a[r.1.toNat]? =some t∧t.name=s∧9<=t.kind∧t.kind<=11)∧(r.2.1=false->r.1=0∧∀t∈a,t.name=s->¬(9<=t.kind∧t.kind<=11))
def fJ(b:List ab)(e:Int)(s a:List UInt8)(r:Int×RS):Prop:=e=0->∀m,OfS b 0 m->AgI (dE m s a) r
def di(b:List ab)(e:Int)(n:aa)(a:List UInt8)(deep:Int)(r:Int×RS):Prop:=∀m,OfS b e m->m.2.2.2=deep-1->AgI (aq (deep-1) m n a) r
def dL(b:List ab)(e:Int)(n:aa)(a:List UInt8)(deep:Int)(r:Int×RS):Prop:=e=0->∀m,OfS b 0 m->m.2.2.2=deep->AgI (cP (aq deep) m n a) r
def c5(a:List ab)(e:Int)(n:aa)(name:List UInt8)(r:List (List UInt8)×Bool×RS):Prop:=
 r.2.2.1=a∧r.2.1=(ao n name).2 ∧(r.1.length<=8∧∀x∈r.1,x.length<=100)∧((ao n name).2 =false->r.1=[]∧r.2.2.2=e)∧
  ((ao n name).2 =true->∀m:MS,m.2.2.1=e->r.2.2.2=(b9 m (ao n name).1).2.2.2.1 ∧(r.2.2.2=0->r.1=(b9 m (ao n name).1).1))
def d9(b:List ab)(e:Int)(n:aa)(name:List UInt8)(a:Bool)(r:List UInt8×RS):Prop:=
 r=if (ao n name).2 =false∧a=false then ([],b,e) else if (ao n name).2 =false∨(ao n name).1.kind ≠4 then ([],b,aN e 2) else ((ao n name).1.s,b,e)
def qr(b:List ab)(e:Int)(name a:List UInt8)(r:List UInt8×RS):Prop:=
 r.2.1=b∧r.1.length<=name.length+a.length+1∧∀m:MS,m.2.2.1=e->r.2.2=(bJ m name a).2.2.2.1 ∧(r.2.2=0->r.1=(bJ m name a).1)
def aT(b:List ab)(e:Int)(n:aa)(k:Int)(a:List UInt8)(deep:Int)(r:Int×RS):Prop:=e=0->∀m,OfS b 0 m->m.2.2.2=deep->AgI (cQ (aq deep) m n k a) r
def aP(b:List ab)(e:Int)(n:aa)(a:Int)(r:RS):Prop:=
 (e≠0->r=(b,e))∧(e=0->r.1.length=b.length∧∀m:MS,m.2.2.1=0->r.2=(bP m n false []).2.2.2.1 ∧
  (r.2=0->∀t,b[a.toNat]? =some t->r.1=b.set a.toNat {t with syms:=(bP m n false []).1.1,hasdef:=(bP m n false []).1.2.1,df:=(bP m n false []).1.2.2}))
def bm(c:List ab)(e:Int)(n:aa)(b:Int)(a:List UInt8)(deep:Int)(r:RS):Prop:=
 (e≠0->r=(c,e))∧(e=0->∀m,OfS c 0 m->m.2.2.2=deep->r.1.length<=60∧r.2=(bX (aq deep) m [] n a).2.2.2.1 ∧
  (r.2=0->∀t,(bX (aq deep) m [] n a).2.2.1[b.toNat]? =some t->r.1=(bX (aq deep) m [] n a).2.2.1.set b.toNat {t with fields:=(bX (aq deep) m [] n a).1}))
def xJ(n:aa)(r:RS):Prop:=r=fT n
def nF(a b:aa)(r:Bool):Prop:=a=b->r=true
def vo(a b:List (List UInt8))(r:Bool):Prop:=a=b->r=true
def ti(a b:List ab)(r:Bool):Prop:=a=b->r=true
def nG(p q:List UInt8)(h:Int)(r:Bool):Prop:=r=true
def z7(n r:aa):Prop:=lS n->aE r∧szJ r<=2*szJ n∧(n.n<=255->r.n<=255)∧(mc n.s->mc r.s)
def xK(n:aa)(a:List UInt8)(b:Int)(r:aa):Prop:=z7 n r
abbrev aok:=Bs×Int
noncomputable def wA(a:Bs)(r:aok):Prop:=sC Tryz.prog 6 [vF .u8 a] [vF .u8 r.1,vI r.2]∧abj a r
noncomputable def aol:sU Tryz.prog:=.mk 6 λ
 | [.sl .u8 (.may _) a]=>pk (wA a) λr=>[.sl .u8 (.may false) r.1,.int .i64 r.2]
 |_=>none
abbrev vp:=Int×Int×Bs×List aa×Bss×Bs×Int
noncomputable def lU(a:Bs)(b:Int)(r:vp):Prop:=aS Tryz.prog 7 [.ptr 0 0] [[vF .u8 a,vI b]] (.agg [vI r.1,vI r.2.1,vT r.2.2.1,vF .jnode r.2.2.2.1,vF .str r.2.2.2.2.1]) [[vF .u8 r.2.2.2.2.2.1,vI r.2.2.2.2.2.2]]∧rO a b r
noncomputable def ad3:cd Tryz.prog:=.mk 7 λ
 | [.ptr 0 0],[[.sl .u8 (.may false) a,.int .i64 b]]=>pk (lU a b) λr=>(.agg [vI r.1,vI r.2.1,vT r.2.2.1,vF .jnode r.2.2.2.1,vF .str r.2.2.2.2.1],[[vF .u8 r.2.2.2.2.2.1,vI r.2.2.2.2.2.2]])
 |_,_=>none
abbrev pA:=Int×Int×Bs×List aa×Bss×Bs×Int×Bss
noncomputable def jy(a:Bs)(b:Int)(c:Bss)(d:Bs)(e:Int)(r:pA):Prop:=aS Tryz.prog 13 [.ptr 0 0,vT d,vI e,.ptr 1 0] [[vF .u8 a,vI b],[vO .str c]] (.agg [vI r.1,vI r.2.1,vT r.2.2.1,vF .jnode r.2.2.2.1,vF .str r.2.2.2.2.1]) [[vF .u8 r.2.2.2.2.2.1,vI r.2.2.2.2.2.2.1],[vO .str r.2.2.2.2.2.2.2]]∧rN a b c d e r
noncomputable def vq:cd Tryz.prog:=.mk 13 λ
 | [.ptr 0 0,.str d,.int .i64 e,.ptr 1 0],[[.sl .u8 (.may false) a,.int .i64 b],[.sl .str .own c]]=>pk (jy a b c d e) λr=>(.agg [vI r.1,vI r.2.1,vT r.2.2.1,vF .jnode r.2.2.2.1,vF .str r.2.2.2.2.1],[[vF .u8 r.2.2.2.2.2.1,vI r.2.2.2.2.2.2.1],[vO .str r.2.2.2.2.2.2.2]])
 |_,_=>none
abbrev ahZ:=Int×Bs×Int
noncomputable def bi(a:Bs)(b c:Int)(r:ahZ):Prop:=aS Tryz.prog 21 [.ptr 0 0,vI c] [[vF .u8 a,vI b]] (vI r.1) [[vF .u8 r.2.1,vI r.2.2]]∧vl a b c r
noncomputable def oJ:cd Tryz.prog:=.mk 21 λ
 | [.ptr 0 0,.int .i64 c],[[.sl .u8 (.may false) a,.int .i64 b]]=>pk (bi a b c) λr=>(vI r.1,[[vF .u8 r.2.1,vI r.2.2]])
 |_,_=>none
noncomputable def dF(a:Bs)(b:Int)(c:Bss)(d:Int)(r:pA):Prop:=aS Tryz.prog 22 [.ptr 0 0,vI d,.ptr 1 0] [[vF .u8 a,vI b],[vO .str c]] (.agg [vI r.1,vI r.2.1,vT r.2.2.1,vF .jnode r.2.2.2.1,vF .str r.2.2.2.2.1]) [[vF .u8 r.2.2.2.2.2.1,vI r.2.2.2.2.2.2.1],[vO .str r.2.2.2.2.2.2.2]]∧fC a b c d r
noncomputable def rD:cd Tryz.prog:=.mk 22 λ
 | [.ptr 0 0,.int .i64 d,.ptr 1 0],[[.sl .u8 (.may false) a,.int .i64 b],[.sl .str .own c]]=>pk (dF a b c d) λr=>(.agg [vI r.1,vI r.2.1,vT r.2.2.1,vF .jnode r.2.2.2.1,vF .str r.2.2.2.2.1],[[vF .u8 r.2.2.2.2.2.1,vI r.2.2.2.2.2.2.1],[vO .str r.2.2.2.2.2.2.2]])
 |_,_=>none
abbrev am8:=Int×Int×Bs×Bool×List aa×Bool×Bss
noncomputable def ge(a:Bool)(c:Bss)(b:Bool)(d:List aa)(r:am8):Prop:=aK Tryz.prog 23 [.sl .str (.may a) c,.sl .jnode (.may b) d] (.agg [vI r.1,vI r.2.1,vT r.2.2.1,.sl .jnode (.may r.2.2.2.1) r.2.2.2.2.1,.sl .str (.may r.2.2.2.2.2.1) r.2.2.2.2.2.2])∧zW a c b d r
noncomputable def afk:cB Tryz.prog:=.mk 23 λ
 | [.sl .str (.may a) c,.sl .jnode (.may b) d]=>pk (ge a c b d) λr=>.agg [vI r.1,vI r.2.1,vT r.2.2.1,.sl .jnode (.may r.2.2.2.1) r.2.2.2.2.1,.sl .str (.may r.2.2.2.2.2.1) r.2.2.2.2.2.2]
 |_=>none
abbrev aom:=Int×Int×Bs×List aa×Bss
noncomputable def bw(a:Bs)(r:aom):Prop:=aK Tryz.prog 24 [vT a] (.agg [vI r.1,vI r.2.1,vT r.2.2.1,vF .jnode r.2.2.2.1,vF .str r.2.2.2.2])∧abk a r
noncomputable def wB:cB Tryz.prog:=.mk 24 λ
 | [.str a]=>pk (bw a) λr=>.agg [vI r.1,vI r.2.1,vT r.2.2.1,vF .jnode r.2.2.2.1,vF .str r.2.2.2.2]
 |_=>none
noncomputable def lg(a:Bs)(b c d:Int)(e:Bs)(f:List aa)(g:Bss)(r:vp):Prop:=aS Tryz.prog 25 [.ptr 0 0,.agg [vI c,vI d,vT e,vF .jnode f,vF .str g]] [[vF .u8 a,vI b]] (.agg [vI r.1,vI r.2.1,vT r.2.2.1,vF .jnode r.2.2.2.1,vF .str r.2.2.2.2.1]) [[vF .u8 r.2.2.2.2.2.1,vI r.2.2.2.2.2.2]]∧fI a b c d e f g r
noncomputable def acM:cd Tryz.prog:=.mk 25 λ
 | [.ptr 0 0,.agg [.int .i64 a,.int .i64 b,.str c,.sl .jnode (.may _) d,.sl .str (.may _) e]],[[.sl .u8 (.may false) f,.int .i64 g]]=>pk (lg f g a b c d e) λr=>(.agg [vI r.1,vI r.2.1,vT r.2.2.1,vF .jnode r.2.2.2.1,vF .str r.2.2.2.2.1],[[vF .u8 r.2.2.2.2.2.1,vI r.2.2.2.2.2.2]])
 |_,_=>none
abbrev apZ:=Int×Int×Bs×List aa×Bss×Bool
abbrev agK:=Bool×Bs×Int
noncomputable def nr(a:Bs)(b:Int)(r:agK):Prop:=aS Tryz.prog 42 [.ptr 0 0] [[vF .u8 a,vI b]] (vB r.1) [[vF .u8 r.2.1,vI r.2.2]]∧uj a b r
noncomputable def agL:cd Tryz.prog:=.mk 42 λ
 | [.ptr 0 0],[[.sl .u8 (.may false) a,.int .i64 b]]=>pk (nr a b) λr=>(vB r.1,[[vF .u8 r.2.1,vI r.2.2]])
 |_,_=>none
noncomputable def mC(a:Bs)(b:Int)(c:Bss)(d:Int)(r:pA):Prop:=aS Tryz.prog 43 [.ptr 0 0,vI d,.ptr 1 0] [[vF .u8 a,vI b],[vO .str c]] (.agg [vI r.1,vI r.2.1,vT r.2.2.1,vF .jnode r.2.2.2.1,vF .str r.2.2.2.2.1]) [[vF .u8 r.2.2.2.2.2.1,vI r.2.2.2.2.2.2.1],[vO .str r.2.2.2.2.2.2.2]]∧te a b c d r
noncomputable def afl:cd Tryz.prog:=.mk 43 λ
 | [.ptr 0 0,.int .i64 d,.ptr 1 0],[[.sl .u8 (.may false) a,.int .i64 b],[.sl .str .own c]]=>pk (mC a b c d) λr=>(.agg [vI r.1,vI r.2.1,vT r.2.2.1,vF .jnode r.2.2.2.1,vF .str r.2.2.2.2.1],[[vF .u8 r.2.2.2.2.2.1,vI r.2.2.2.2.2.2.1],[vO .str r.2.2.2.2.2.2.2]])
 |_,_=>none
noncomputable def uu(a b:Int)(c:Bs)(d:List aa)(e:Bss)(f:Bs)(r:apZ):Prop:=aK Tryz.prog 44 [.agg [vI a,vI b,vT c,vF .jnode d,vF .str e],vT f] (.tup [.agg [vI r.1,vI r.2.1,vT r.2.2.1,vF .jnode r.2.2.2.1,vF .str r.2.2.2.2.1],vB r.2.2.2.2.2])∧sD a b c d e f r
noncomputable def ap0:cB Tryz.prog:=.mk 44 λ
 | [.agg [.int .i64 a,.int .i64 b,.str c,.sl .jnode (.may _) d,.sl .str (.may _) e],.str f]=>pk (uu a b c d e f) λr=>.tup [.agg [vI r.1,vI r.2.1,vT r.2.2.1,vF .jnode r.2.2.2.1,vF .str r.2.2.2.2.1],vB r.2.2.2.2.2]
 |_=>none
end Go.Proofs.YtkinflmjagfapaaGreatDoor
namespace Go.AM
def DX:Nat:=1000000
def ji:IR->IR
 | .exit i=>cond (As i DX) .ret (.exit i)
 | .seq a b=>.seq (ji a) (ji b)
 | .cond c a b=>.cond c (ji a) (ji b)
 | .block i a=>.block i (ji a)
 | .cut l m a=>.cut l m (ji a)
 | .gh g a=>.gh g (ji a)
 | .ghp g a=>.ghp g (ji a)
 |x=>x
def mQ(r:Bool):IR->Bool
 | .ret=> !r
 | .exit i=>r|| !(As i DX)
 | .seq a b=>mQ r a&&mQ r b
 | .cond _ a b=>mQ r a&&mQ r b
 | .block i a=> !(As i DX)&&mQ r a
 | .cut _ _ a=>mQ r a
 | .gh _ a=>mQ r a
 | .ghp _ a=>mQ r a
 | .skip| .reg .. | .rgs .. =>true
 |_=>false
section
variable{R:Type}{Γ:av}{n:Nat}
theorem arf:∀(r:IR),mQ true r=true->∀(K d:Ex->St->Option R),(∀s,d .ret s=K (.exit DX) s)->(∀s,d .normal s=K .normal s)->(∀i s,i≠DX->d (.exit i) s=K (.exit i) s)->
  ∀s,run Γ n (ji r) d s=run Γ n r K s:=by
 intro r;induction r with
 |seq a b f q=>intro h K d o k p s;simp only[mQ,Ac] at h;simp only[ji,run];exact f h.1 (bR (run Γ n b) K) (bR (run Γ n (ji b)) d) (λs=>o s) (λs=>q h.2 K d o k p s) (λi s w=>p i s w) s
 |cond c a b f q=>intro h K d o k p s;simp only[mQ,Ac] at h;simp only[ji,run,f h.1 K d o k p,q h.2 K d o k p]
 |block i a f=>
  intro h K d o k p s;simp only[mQ,Ac,Bk] at h;have x:As DX i=false:=by
   cases t:As DX i with
   |false=>rfl
   |true=>rw[Ax t,BF] at h;simp at h
  simp only[ji,run];refine f h.2 (aG i K) (aG i d) (λs=>?_) (λs=>k s) (λj s u=>?_) s;·simp only[aG,x,cond_false];exact o s
  ·simp only[aG];cases As j i with
   |true=>exact k s
   |false=>exact p j s u
 |cut l m a f=>intro h K d o k p s;exact f h K d o k p _
 |gh g a f=>intro h K d o k p s;simp only[ji,run,f h K d o k p]
 |ghp g a f=>intro h K d o k p s;simp only[ji,run];refine f h (tV g K) (tV g d) (λs=>o s) (λs=>?_) (λj s u=>p j s u) s;simp only[tV,k]
 |exit i=>
  intro h K d o k p s;simp only[ji,run];cases t:As i DX with
  |true=>obtain rfl:=Ax t;exact o s
  |false=>exact p i s (λe=>by rw[e,BF] at t;simp at t)
 |skip=>intro h K d o k p s;exact k s
 |reg l v=>intro h K d o k p s;have e:d .normal=K .normal:=funext k;simp only[ji,run,e]
 |rgs l=>intro h K d o k p s;have e:d .normal=K .normal:=funext k;simp only[ji,run,e]
 |_=>intro h;simp[mQ] at h
theorem ase:∀(r:IR),mQ false r=true->∀(K d:Ex->St->Option R),(∀s,d .ret s=K .ret s)->(∀s,d .normal s=K .normal s)->(∀i s,i≠DX->d (.exit i) s=K (.exit i) s)->
  ∀s,run Γ n r d s=run Γ n r K s:=by
 intro r;induction r with
 |seq a b f q=>intro h K d o k p s;simp only[mQ,Ac] at h;simp only[run];exact f h.1 (bR (run Γ n b) K) (bR (run Γ n b) d) (λs=>o s) (λs=>q h.2 K d o k p s) (λi s v=>p i s v) s
 |cond c a b f q=>intro h K d o k p s;simp only[mQ,Ac] at h;simp only[run,f h.1 K d o k p,q h.2 K d o k p]
 |block i a f=>
  intro h K d o k p s;simp only[mQ,Ac,Bk] at h;simp only[run];refine f h.2 (aG i K) (aG i d) (λs=>o s) (λs=>k s) (λj s t=>?_) s;simp only[aG];cases As j i with
  |true=>exact k s
  |false=>exact p j s t
 |cut l m a f=>intro h K d o k p s;exact f h K d o k p _
 |gh g a f=>intro h K d o k p s;simp only[run,f h K d o k p]
 |ghp g a f=>intro h K d o k p s;simp only[run];refine f h (tV g K) (tV g d) (λs=>o s) (λs=>?_) (λj s t=>p j s t) s;simp only[tV,k]
 |exit i=>intro h K d o k p s;simp only[mQ,BO,Bk] at h;exact p i s (λe=>by rw[e,BF] at h;simp at h)
 |skip=>intro h K d o k p s;exact k s
 |ret=>intro h K d o k p s;exact o s
 |reg l u=>intro h K d o k p s;have e:d .normal=K .normal:=funext k;simp only[run,e]
 |rgs l=>intro h K d o k p s;have e:d .normal=K .normal:=funext k;simp only[run,e]
 |_=>intro h;simp[mQ] at h
end
def at2(P:Program)(f:FuncId)(vs:List V)(hp:List ai)(v:V)(hp':List ai):Prop:=
 ∀(w:World)(g:Gh)(a:Array Value)(u:FrameMode),ua P g w->HR g hp w->vs.length=a.size->(∀x∈vs,x.bare=true)->
  (∀(i:Nat) x cv,vs[i]? =some x->a[i]? =some cv->VRel g.I g.ρ hp.length w x cv)->CallsD P f a u w λe b w'=>b=u∧RQ g hp w v hp' e w'
structure FnD(P:Program)(g:FuncId)(C:List V->List ai->Ro):Prop where
 body:ql P g=true
 ok:∀vs hp v hp',C vs hp=some (v,hp')->at2 P g vs hp v hp'
theorem FnD.of{P:Program}{Γ:av}{imp:List Nat}{f:FuncId}{fn:Func}{o:IR}{m:List RV}{n:Nat}(c:cY P Γ)(e:dx Γ imp)(b:P.funcs[f]? =some fn)(j:ql P f=true)(d:fn.body=some (fn.body.getD .skip))
  (chk:∀k,(ba P imp k o (fn.body.getD .skip)&&iq P m fn.results.toList)=true) (a:fn.results.toList.length<=5):FnD P f (wt Γ n fn.ntmps m o):=⟨j,λvs hp v hp' q w g h u p y t r x=>by
 have i:=chk hp.length;simp only[Ac] at i;exact callsD_of_wp b d (asN c e i.1 i.2 a q p y t r x)⟩
def yQ(C:List V->List ai->Ro)(cs:List V)(a:List RV):Ex->St->Ro
 | .exit i,s=>cond (As i DX) (match C cs s.hp with|some (_,hp')=>fin a .ret {s with hp:=hp'}|none=>none) none
 | .ret,s=>fin a .ret s
 | .normal,_=>none
def am9(C:List V->List ai->Ro)(cs:List V)(Γ:av)(n a:Nat)(b:List RV)(c:IR)(vs:List V)(hp:List ai):Ro:=run Γ n c (yQ C cs b) (start a vs hp)
def ap1(P:Program)(d q:Nat)(lc:List aw)(a:Array Oper):Bool:=match a.toList with
 | [m0,b]=>aiL P (.mkf d q lc) m0&&(m0.dst==some d&&((match m0.guard with|none=>true|_=>false)&&((match b.op with| .defer c=>(match c.callee with| .value (.tmp n)=>n==d|_=>false)&&c.args.toList.isEmpty|_=>false)&&(b.dst==none&&(match b.guard with|none=>true|_=>false)))))
 |_=>false
def fK(P:Program)(imp:List Nat)(base f:Nat)(cs:List V):IR->Code->Bool
 | .seq (.reg [⟨none,.mkf d q lc,none⟩] []) (.gh (.isf h g b) y),.seq (.region _ a false) e=>ap1 P d q lc a&&(As d h&&(As q f&&(As g f&&(yy b cs&&(mQ true y&&ba P imp base (ji y) e)))))
 | .seq x y,.seq c e=>mQ false x&&(ba P imp base x c&&fK P imp base f cs y e)
 |_,_=>false
theorem z8:∀{a b:List V},yy a b=true->a=b
 | [],[],_=>rfl
 | .ptr i o::l,.ptr j q::m,h=>by simp only[yy,Ac] at h;rw[Ax h.1,Ax h.2.1,z8 h.2.2]
 | .ea [.ptr i o]::l,.ea [.ptr j q]::m,h=>by simp only[yy,Ac] at h;rw[Ax h.1,Ax h.2.1,z8 h.2.2]
theorem ap2{P:Program}{f:Nat}(h:ql P f=true)(a:Array Value)(w:World):(callFunc f a).run P w=.ok (.enter f a) w:=by
 unfold ql at h;split at h
 ·rename_i fn d;simp only[Ac,bne_iff_ne,ne_eq] at h;have b:fn.body.isNone=false:=by cases e:fn.body<;>simp_all
  simp[callFunc,d,h.2,b];intro c;rw[c] at h;simp at h
 ·simp at h
section
variable{P:Program}{Γ:av}{imp:List Nat}
theorem aon{d q:Nat}{lc:List aw}{b:Array Oper}(h:ap1 P d q lc b=true):∃m0 a c,b= #[m0,a]∧aiL P (.mkf d q lc) m0=true∧m0.dst=some d∧m0.guard=none∧a.op=.defer c∧c.callee=.value (.tmp d)∧c.args= #[]∧a.dst=none∧a.guard=none:=by
 unfold ap1 at h;split at h
 ·rename_i m0 a e;simp only[Ac,beq_iff_eq] at h;obtain⟨j,o,k,f,t,p⟩:=h;split at f
  ·rename_i c r;simp only[Ac] at f;obtain⟨g,m⟩:=f;split at g
   ·rename_i n i;simp only[beq_iff_eq] at g;subst g;refine⟨m0,a,c,?_,j,o,?_,r,i,?_,t,?_⟩;·rw[<-e]
    ·revert k;cases m0.guard<;>simp
    ·have:c.args.toList=[]:=by simpa using m
     rw[<-Array.toArray_toList (xs:=c.args),this]
    ·revert p;cases a.guard<;>simp
   ·simp at g
  ·simp at f
 ·simp at h
theorem arg(G:cY P Γ){g₀:Gh}{hp₀:List ai}{w₀:World}(F:qY P g₀ hp₀ w₀)(hP:dx Γ imp){n:Nat}{fn:Func}{A:List RV}(J:iq P A fn.results.toList=true)(h5:fn.results.toList.length<=5)
  {f:FuncId} {C:List V->List ai->Ro} {cs:List V} (hC:FnD P f C) (W:∀x∈cs,x.bare=true) {v:V} {hp':List ai}:
  ∀(ir:IR)(c:Code),(∀base,fK P imp base f cs ir c=true)->∀(s:St)(a:Act)(w:World)(g:Gh),run Γ n ir (yQ C cs A) s=some (v,hp')->Inv g₀ hp₀ w₀ [] g s w a->c.wp P (bodyPostD P fn (RQ g₀ hp₀ w₀ v hp')) a w
 | .seq x y,c,b,s,a,w,g,hr,O=>by
   have m:=b hp₀.length;unfold fK at m;split at m
   ·rename_i d q lc d' q' k Q id eT e o;cases o;have u:∀base,ba P imp base (ji Q) e=true:=by
     intro base;have:=b base;simp only[fK,Ac] at this;exact this.2.2.2.2.2.2
    simp only[Ac] at m;obtain⟨h1,h2,h3,h4,h6,h7, -⟩:=m;obtain rfl:=Ax h2;obtain rfl:=Ax h3;obtain rfl:=Ax h4;obtain rfl:=z8 h6;obtain⟨q,hq⟩:∃q,q=q':=⟨_,rfl⟩
    subst hq;obtain⟨m0,m1,cc,rfl,e1,e2,e3,e4,e5,e6,e7,e8⟩:=aon h1;obtain⟨B,ci,E⟩:∃B,step Γ (.mkf d q lc) s=some (true,B)∧(match (eV.isf d q k).step B with|some (c,s')=>chk c (run Γ n Q (yQ C k A) s')|none=>none)=some (v,hp'):=⟨_,rfl,hr⟩
    obtain⟨X,b2⟩:B.get d=.fn q k∧run Γ n Q (yQ C k A) B=some (v,hp'):=by simp only[eV.step] at E;cases hg:B.get d<;>rw[hg] at E<;>simp at E;obtain⟨t,r⟩:=yE E;simp only[Ac] at t;exact⟨by rw[Ax t.1,z8 t.2],r⟩
    refine wp_seq (wp_region ?_);show wpOps P #[m0,m1] _ [0,1] a w;rw[wpOps_cons];unfold wpOp;simp only[Db,A4];rw[if_pos (by simp[BX,e3])];refine .inl (ahN G (F.on O.fr) e1 ci O.sr ?_);intro a1 M g1 S k2 k3;rw[wpOps_cons];unfold wpOp;simp only[Db,AV,A4];rw[if_pos (by simp[BX,e8])];refine .inl ?_;have hv:=S.er.get d;rw[X] at hv;generalize L:a1.tmps.getD d undef=cv at hv;cases hv with
    |fn _ _ j hl a0=>
    have Z:(execOp a1.eval m1).run P M=.ok (.defer ⟨.fn (.func q) j, #[]⟩) M:=by simp[execOp,e4,resolve,e5,e6,Act.eval,L,Da]
    unfold CF;rw[Z,Oper.upon_defer,e7];show wpOps P _ _ [] _ M;simp only[wpOps,Exit.then];have al:a1.defers=[]:=k3.trans O.df;have ar:SR g1 B M {a1 with defers:=[⟨.fn (.func q) j, #[]⟩]}:=⟨S.hr,S.er⟩
    have an:ua P g1 M:=F.on (O.fr.trans k2);let N:Ex->St->Ro:=λI s=>match I with| .ret=>yQ C k A (.exit DX) s|_=>none
    have b1:run Γ n (ji Q) N B=some (v,hp'):=by
     rw[arf Q h7 (yQ C k A) N (λ_=>rfl) (λ_=>rfl)];·exact b2
     ·intro i s H;have t:As i DX=false:=by
       cases t:As i DX with
       |true=>exact absurd (Ax t) H
       |false=>rfl
      simp only[N,yQ,t,cond_false]
    have ad:=fS (df:=[⟨.fn (.func q) j, #[]⟩]) G (g₀:=g1) (hp₀:=B.hp) (w₀:=M) ⟨an,S.hr.notI⟩ hP n (Am _) (ji Q) e (u _) N B {a1 with defers:=[⟨.fn (.func q) j, #[]⟩]} M g1 b1 ⟨ar,FR.refl _ _ _,rfl⟩;rw[al];refine wp_mono ad ?_;rintro e' a2 w2 ⟨I,s2,g2,he,r,p⟩;cases I with
    |normal=>simp[N] at r
    |exit i=>simp[N] at r
    |ret=>
     cases e'<;>simp only[jL] at he;have r:(match C k s2.hp with|some (_,hp')=>fin A .ret {s2 with hp:=hp'}|none=>none)=some (v,hp'):=by simpa [N,yQ,DX] using r
     split at r
     ·rename_i vv b4 cy;show Leaves P fn a2.tmps _ a2.defers .returning w2;rw[p.df];refine⟨by simp,_,_,q,j,rfl,?_,?_⟩;·simp only[invoke];rw[ap2 hC.body];simp
      ·refine(hC.ok _ _ _ _ cy w2 g2.hide j .returning ((qY.on ⟨an,S.hr.notI⟩ p.fr).sub rfl (λh=>h) (λh=>by simp[Gh.hide,h])) p.sr.hr.hide hl W (λi x cv hx L=>(a0 i x cv hx L).up p.fr.up)).mono ?_;rintro e u' w3 ⟨rfl,ed,g3,rfl,q1,q2,q3,q4⟩;show Leaves P fn a2.tmps _ [] (settle .returning) w3;obtain⟨r1,r2⟩:=aeY (dst:=none) p.sr q1 q2 q3 q4;have ae:=amW (a:=a2) (g:=g2.back g3 none) (s:={s2 with hp:=b4}) J h5 r1 (((O.fr.trans k2).trans p.fr).trans r2) r;exact ae
     ·simp at r
   ·rename_i x1 y1 c e b0 o;cases o;simp only[Ac] at m;obtain⟨h1,h2,h3⟩:=m;have br:∀base,fK P imp base f cs y e=true:=by
     intro base;have:=b base;unfold fK at this;split at this;·rename_i o u;cases o;cases u;exact(b0 _ _ _ _ _ _ _ _ _ rfl rfl rfl).elim
     ·rename_i o u;cases o;cases u;simp only[Ac] at this;exact this.2.2
     ·simp at this
    let Y:Ex->St->Ro:=λI s=>match I with| .normal=>run Γ n y (yQ C cs A) s| .ret=>fin A .ret s| .exit _=>none
    have bx:run Γ n x Y s=some (v,hp'):=by
     rw[ase x h1 (bR (run Γ n y) (yQ C cs A)) Y (λ_=>rfl) (λ_=>rfl)];·exact hr
     ·intro i s H;have t:As i DX=false:=by
       cases t:As i DX with
       |true=>exact absurd (Ax t) H
       |false=>rfl
      simp only[Y,bR,yQ,t,cond_false]
    refine wp_seq (wp_mono (fS (df:=[]) G F hP n (Am _) x c h2 Y s a w g bx O) ?_);rintro e' a' w' ⟨I,s',g',he,r,D⟩;cases I with
    |normal=>cases e'<;>simp only[jL] at he;exact arg G F hP J h5 hC W y e br s' a' w' g' r D
    |exit i=>simp[Y] at r
    |ret=>cases e'<;>simp only[jL] at he;show Leaves P fn a'.tmps _ a'.defers .returning w';rw[D.df];exact amW J h5 D.sr D.fr r
   ·simp at m
 | .skip,c,b,_,_,_,_,_,_=>by have:=b 0;simp[fK] at this
 | .bad,c,b,_,_,_,_,_,_=>by have:=b 0;simp[fK] at this
 | .reg ..,c,b,_,_,_,_,_,_=>by have:=b 0;simp[fK] at this
 | .wk ..,c,b,_,_,_,_,_,_=>by have:=b 0;simp[fK] at this
 | .rgs ..,c,b,_,_,_,_,_,_=>by have:=b 0;simp[fK] at this
 | .cond ..,c,b,_,_,_,_,_,_=>by have:=b 0;simp[fK] at this
 | .block ..,c,b,_,_,_,_,_,_=>by have:=b 0;simp[fK] at this
 | .loop ..,c,b,_,_,_,_,_,_=>by have:=b 0;simp[fK] at this
 | .cut ..,c,b,_,_,_,_,_,_=>by have:=b 0;simp[fK] at this
 | .gh ..,c,b,_,_,_,_,_,_=>by have:=b 0;simp[fK] at this
 | .ope ..,c,b,_,_,_,_,_,_=>by have:=b 0;simp[fK] at this
 | .ghp ..,c,b,_,_,_,_,_,_=>by have:=b 0;simp[fK] at this
 | .exit ..,c,b,_,_,_,_,_,_=>by have:=b 0;simp[fK] at this
 | .ret,c,b,_,_,_,_,_,_=>by have:=b 0;simp[fK] at this
theorem fnD{k:Nat}{f q:FuncId}{fn:Func}{o:IR}{u:List RV}{C:List V->List ai->Ro}{cs:List V}(A:FnD P q C)(m:cY P Γ)(B:dx Γ imp)(c:P.funcs[f]? =some fn)(d:fn.body=some (fn.body.getD .skip))
  (chk:∀base,fK P imp base q cs o (fn.body.getD .skip)=true) (p:iq P u fn.results.toList=true) (b:fn.results.toList.length<=5) (j:∀x∈cs,x.bare=true):
  FnK P k f λn vs hp=>am9 C cs Γ n fn.ntmps u o vs hp:=
 ⟨λ{n vs hp hp' v} D y w g r t h i a e=>by refine calls_of_wp_defers c d ?_;exact arg m ⟨t,h.notI⟩ B p b A j o _ chk _ _ w g y ⟨ahO h i a e,FR.refl _ _ _,rfl⟩⟩
end
def yR:Value->Bool
 | .slice _ _ _=>true
 |_=>false
def ap3(g:Gh)(w:World)(b:Nat):Prop:=∀j,g.I b j->∃v,w.cell? ⟨b,j,none⟩=some v∧yR v=false
structure FRW(g₀:Gh)(hp₀:List ai)(w₀:World)(g:Gh)(hp:List ai)(w:World):Prop where
 beta:g.β=g₀.β
 os:w.os=w₀.os
 tape:w.tape=w₀.tape
 output:w.output=w₀.output
 size:w₀.heap.size<=w.heap.size
 block:∀b,b<w₀.heap.size->(∀(id:Nat) cs,hp₀[id]? =some (some cs)->g₀.ρ id≠b)->g₀.O b=none->ap3 g₀ w₀ b->w.heap[b]? =w₀.heap[b]?
 mono:∀b j,g₀.I b j->g.I b j
 cell:∀b j v,g₀.I b j->w₀.cell? ⟨b,j,none⟩=some v->yR v=false->w.cell? ⟨b,j,none⟩=some v
 rho:∀id,id<hp₀.length->g.ρ id=g₀.ρ id
 num:hp₀.length<=hp.length
 iSame:∀b j,b<w₀.heap.size->(∀(id:Nat) cs,hp₀[id]? =some (some cs)->g₀.ρ id≠b)->g₀.O b=none->g.I b j->g₀.I b j
 oSame:∀b,b<w₀.heap.size->(∀(id:Nat) cs,hp₀[id]? =some (some cs)->g₀.ρ id≠b)->g₀.O b=none->g.O b=none
 live:∀(id:Nat) cs,hp[id]? =some (some cs)->(∃cs₀,hp₀[id]? =some (some cs₀))∨(hp₀.length<=id∧(w₀.heap.size<=g.ρ id∨g₀.O (g.ρ id)≠none∨∃(id':Nat)(cs':List V),hp₀[id']? =some (some cs')∧g₀.ρ id'=g.ρ id))
 reads:∀(ρ ρ':Nat->Nat)(N N':Nat)(c:V)(cv:Value),c.cellS=true->VRel g₀.I ρ N w₀ c cv->VRel g.I ρ' N' w c cv
 turn:∀b j v,g₀.I b j->w₀.cell? ⟨b,j,none⟩=some v->∃v',w.cell? ⟨b,j,none⟩=some v'∧∀(ρ ρ':Nat->Nat)(N N':Nat)(c:V),c.cellS=true->VRel g₀.I ρ N w₀ c v->VRel g.I ρ' N' w c v'
theorem pw{c:V}(h:c.cellS=true):c.flat1=true:=by revert h;cases c<;>simp[V.cellS,V.flat1]
theorem FR.toW{g₀ g:Gh}{hp₀ hp:List ai}{w₀ w:World}(h:FR g₀ hp₀ w₀ g hp w):FRW g₀ hp₀ w₀ g hp w:=
 ⟨h.beta,h.os,h.tape,h.output,h.size,λb i m k _=>h.block b i m k,h.up.mono,λb j v e a _=>(h.up.cell b j e).trans a,h.up.rho,h.up.num,h.iSame,h.oSame,h.live,λρ ρ' N N' c cv d a=>((a.flat1 (pw d)).up h.up).flat1 (pw d),λb j v e a=>⟨v,(h.up.cell b j e).trans a,λρ ρ' N N' c d a=>((a.flat1 (pw d)).up h.up).flat1 (pw d)⟩⟩
theorem FRW.noObj{g₀ g₁:Gh}{hp₀ hp₁:List ai}{w₀ w₁:World}(h:FRW g₀ hp₀ w₀ g₁ hp₁ w₁){b:Nat}(p:b<w₀.heap.size)(i:∀(id:Nat) cs,hp₀[id]? =some (some cs)->g₀.ρ id≠b)(k:g₀.O b=none):
  ∀(id:Nat) cs,hp₁[id]? =some (some cs)->g₁.ρ id≠b:=by
 intro id cs hid e;rcases h.live id cs hid with⟨a,j⟩|⟨_,c|c|⟨d,g,c,m⟩⟩
 ·exact i id a j ((h.rho id (Ad.1 j).1).symm.trans e)
 ·omega
 ·rw[e] at c;exact c k
 ·exact i d g c (m.trans e)
theorem FRW.hard{g₀ g₁:Gh}{hp₀ hp₁:List ai}{w₀ w₁:World}(h:FRW g₀ hp₀ w₀ g₁ hp₁ w₁){b:Nat}(g:b<w₀.heap.size)(a:∀(id:Nat) cs,hp₀[id]? =some (some cs)->g₀.ρ id≠b)(d:g₀.O b=none)(i:ap3 g₀ w₀ b):ap3 g₁ w₁ b:=by intro j c;obtain⟨v,k,e⟩:=i j (h.iSame b j g a d c);exact⟨v,h.cell b j v (h.iSame b j g a d c) k e,e⟩
theorem FRW.trans{g₀ g₁ e:Gh}{hp₀ hp₁ p:List ai}{w₀ w₁ y:World}(h:FRW g₀ hp₀ w₀ g₁ hp₁ w₁)(k:FRW g₁ hp₁ w₁ e p y):FRW g₀ hp₀ w₀ e p y:=by
 refine⟨k.beta.trans h.beta,k.os.trans h.os,k.tape.trans h.tape,k.output.trans h.output,AH h.size k.size,?_,λb j x=>k.mono b j (h.mono b j x),λb j v x A H=>k.cell b j v (h.mono b j x) (h.cell b j v x A H) H,
  λid hid=>(k.rho id (AC hid h.num)).trans (h.rho id hid),AH h.num k.num,?_,?_,?_,λρ ρ' N N' c cv D A=>k.reads ρ ρ' N N' c cv D (h.reads ρ ρ N N c cv D A),λb j v x A=>by
  obtain⟨M,J,S⟩:=h.turn b j v x A;obtain⟨L,Q,R⟩:=k.turn b j M (h.mono b j x) J;exact⟨L,Q,λρ ρ' N N' c D A=>R ρ ρ' N N' c D (S ρ ρ N N c D A)⟩⟩
 ·intro b a i m G;exact(k.block b (AC a h.size) (h.noObj a i m) (h.oSame b a i m) (h.hard a i m G)).trans (h.block b a i m G)
 ·intro b j a i m x;exact h.iSame b j a i m (k.iSame b j (AC a h.size) (h.noObj a i m) (h.oSame b a i m) x)
 ·intro b a i m;exact k.oSame b (AC a h.size) (h.noObj a i m) (h.oSame b a i m)
 ·intro id cs hid;rcases k.live id cs hid with⟨B,t⟩|⟨q,t|t|⟨d,r,t,C⟩⟩
  ·rcases h.live id B t with⟨g,E⟩|⟨q,C⟩
   ·exact .inl ⟨g,E⟩
   ·refine .inr ⟨q,?_⟩;rw[k.rho id (Ad.1 t).1];exact C
  ·exact .inr ⟨AH h.num q,.inl (AH h.size t)⟩
  ·refine .inr ⟨AH h.num q,?_⟩;rcases AI (e.ρ id) w₀.heap.size with a|a
   ·refine .inr ?_;by_cases m:g₀.O (e.ρ id)=none
    ·by_cases i:∃(d:Nat)(r:List V),hp₀[d]? =some (some r)∧g₀.ρ d=e.ρ id;·exact .inr i
     ·exact absurd (h.oSame _ a (λd r t C=>i ⟨d,r,t,C⟩) m) t
    ·exact .inl m
   ·exact .inl a
  ·refine .inr ⟨AH h.num q,?_⟩;rcases h.live d r t with⟨g,E⟩|⟨F,P⟩
   ·refine .inr (.inr ⟨d,g,E,?_⟩);rw[<-C,h.rho d (Ad.1 E).1]
   ·rw[<-C];exact P
theorem FRW.hand{g₀ g:Gh}{hp₀ hp:List ai}{w₀ w:World}(h:FRW g₀ hp₀ w₀ g hp w)(r:Option Nat):FRW g₀ hp₀ w₀ (g.hand r) hp w:=
 ⟨h.beta,h.os,h.tape,h.output,h.size,h.block,h.mono,h.cell,h.rho,h.num,h.iSame,λb c d a=>by simp[Gh.hand,h.oSame b c d a],h.live,h.reads,h.turn⟩
section
variable{I:Nat->Nat->Prop}{ρ:Nat->Nat}{N:Nat}{w w':World}
theorem ana{k:EK}{o:Fl}{xs:List (Ty k)}{cv:Value}(h:VRel I ρ N w (.sl k o xs) cv):yR cv=true:=by cases h<;>rfl
theorem anb{k k':EK}{o o':Fl}{cv:Value}(h:VRel I ρ N w (.sl k o []) cv)(d:o'=.may false):VRel I ρ N w (.sl k' o' []) cv:=by
 subst d;cases h with
 |sln=>exact .sln _ _
 |sle=>exact .sle _ _ _ (by simp)
 |sl _ _ _ b a e cap c q g j f i m p=>subst c;exact .sl k' _ [] b a 0 cap rfl (by simp) g (by simp) f (by simp) (by simp) (by simp)
theorem ao9:∀{xs ys:List (Ty .str)}{o o':Fl}{cv:Value},VRel I ρ N w (.sl .str o xs) cv->VRel I ρ N w (.sl .str o' ys) cv->xs=ys:=by
 intro xs ys o o' cv h j;have c:xs.length=ys.length:=by
  cases h with
  |sln=>cases j<;>rfl
  |sle=>cases j with|sle=>rfl|sl _ _ _ _ _ _ _ d=>simpa using d.symm
  |sl _ _ _ b k q cap d E H L f C A x=>
   cases j with
   |sle=>simpa using d
   |sl _ _ _ _ _ _ _ a=>rw[d,a]
 refine List.ext_getElem c λi g r=>?_
 cases h with
 |sln=>simp at g
 |sle=>simp at g
 |sl _ _ _ b k q cap d E H L f C A x=>
  cases j with
  |sle=>simp at r
  |sl _ _ _ _ _ _ _ a G F M B J v t=>
   have D:=A i _ 0 (Ab g) (by simp[enc]);have O:=v i _ 0 (Ab r) (by simp[enc]);have e:f i 0=B i 0:=Au (D.symm.trans O);have p:=x i _ 0 _ (Ab g) rfl;have y:=t i _ 0 _ (Ab r) rfl;rw[e] at p;generalize B i 0=u at p y;cases p with
   |str _ s P _=>cases y with|str _ _ m _=>exact P.symm.trans m
end
theorem aa.eta(x:aa):x=.mk x.kind x.n x.s x.l x.names:=by cases x;rfl
theorem aa.l_lt(x:aa):B6 x.l<B6 x:=by cases x;simp[aa.l];omega
section
variable{I:Nat->Nat->Prop}{ρ:Nat->Nat}{N:Nat}{w w':World}
theorem apa{k:IntKind}{a b:Int}{cv:Value}(h:VRel I ρ N w (.int k a) cv)(c:VRel I ρ N w (.int k b) cv):a=b:=by cases h;cases c;rfl
theorem as6{a b:List UInt8}{cv:Value}(h:VRel I ρ N w (.str a) cv)(d:VRel I ρ N w (.str b) cv):a=b:=by
 cases h with
 |str _ s e _=>cases d with|str _ _ c _=>exact e.symm.trans c
theorem atO:∀(n:Nat){xs ys:List (Ty .jnode)}{o o':Fl}{cv:Value},B6 xs<=n->VRel I ρ N w (.sl .jnode o xs) cv->VRel I ρ N w (.sl .jnode o' ys) cv->xs=ys:=by
 intro n;induction n with
 |zero=>intro xs ys o o' cv y;cases xs<;>simp at y
 |succ n Y=>
  intro xs ys o o' cv y h r;have m:xs.length=ys.length:=by
   cases h with
   |sln=>cases r<;>rfl
   |sle=>cases r with|sle=>rfl|sl _ _ _ _ _ _ _ p=>simpa using p.symm
   |sl _ _ _ b t v cap p G P R f D C c=>
    cases r with
    |sle=>simpa using p
    |sl _ _ _ _ _ _ _ k=>rw[p,k]
  refine List.ext_getElem m λi q A=>?_
  cases h with
  |sln=>simp at q
  |sle=>simp at q
  |sl _ _ _ b t v cap p G P R f D C c=>
   cases r with
   |sle=>simp at A
   |sl _ _ _ _ _ _ _ k M L S X O x a=>
    have g:xs[i]? =some xs[i]:=Ab q;have d:ys[i]? =some ys[i]:=Ab A;have e:∀j,j<5->f i j=X i j:=λj B=>Au ((C i _ j g (by simpa [enc] using B)).symm.trans (x i _ j d (by simpa [enc] using B)))
    have Z:B6 xs[i]<B6 xs:=List.sizeOf_lt_of_mem (AK q);have J:=aa.l_lt xs[i];rw[aa.eta xs[i],aa.eta ys[i]];have E:=apa (c i _ 0 _ g rfl) (e 0 (by omega)▸a i _ 0 _ d rfl);have F:=apa (c i _ 1 _ g rfl) (e 1 (by omega)▸a i _ 1 _ d rfl);have W:=as6 (c i _ 2 _ g rfl) (e 2 (by omega)▸a i _ 2 _ d rfl);have H:=Y (by omega) (c i _ 3 _ g rfl) (e 3 (by omega)▸a i _ 3 _ d rfl);have Q:=ao9 (c i _ 4 _ g rfl) (e 4 (by omega)▸a i _ 4 _ d rfl);rw[E,F,W,H,Q]
theorem arh{xs:List (Ty .jnode)}{ys:List (Ty .str)}{o o':Fl}{cv:Value}(h:VRel I ρ N w (.sl .jnode o xs) cv)(g:VRel I ρ N w (.sl .str o' ys) cv):xs=[]∧ys=[]:=by
 have a:xs.length=ys.length:=by
  cases h with
  |sln=>cases g<;>rfl
  |sle=>cases g with|sle=>rfl|sl _ _ _ _ _ _ _ d=>simpa using d.symm
  |sl _ _ _ b i k cap d B E G f A t q=>
   cases g with
   |sle=>simpa using d
   |sl _ _ _ _ _ _ _ c=>rw[d,c]
 rcases xs with _|⟨x,xs⟩
 ·exact⟨rfl,by simpa using a.symm⟩
 ·rcases ys with _|⟨y,ys⟩
  ·simp at a
  ·cases h with
   |sl _ _ _ b i k cap d B E G f A t q=>
    cases g with
    |sl _ _ _ _ _ _ _ c D C H v F p m=>have e:f 0 0=v 0 0:=Au ((t 0 x 0 rfl (by simp[enc])).symm.trans (p 0 y 0 rfl (by simp[enc])));have j:=q 0 x 0 _ rfl rfl;have r:=m 0 y 0 _ rfl rfl;rw[e] at j;generalize v 0 0=u at j r;cases j;cases r
end
structure jz(I:Nat->Nat->Prop)(w w':World)(b o n:Nat)(cs:List V)(f u:Nat->Value):Prop where
 out:∀b' j,(b'≠b∨j<o∨o+n<=j)->w'.cell? ⟨b',j,none⟩=w.cell? ⟨b',j,none⟩
 new:∀j,j<n->w'.cell? ⟨b,o+j,none⟩=some (u j)
 old:∀j,j<n->w.cell? ⟨b,o+j,none⟩=some (f j)
 len:cs.length=n
 ok:∀c∈cs,c.cellS=true
 rf:∀(ρ:Nat->Nat)(N j:Nat) c,cs[j]? =some c->VRel I ρ N w c (f j)
 ru:∀(ρ:Nat->Nat)(N j:Nat) c,cs[j]? =some c->VRel I ρ N w c (u j)
section
variable{I:Nat->Nat->Prop}{ρ:Nat->Nat}{N:Nat}{w w':World}{b o n:Nat}{cs:List V}{f u:Nat->Value}
theorem asf{s t:ByteArray}(h:s.data.toList=t.data.toList):s=t:=by cases s;cases t;simp only at h;rw[Array.toList_inj.1 h]
theorem jz.cellOne(h:jz I w w' b o n cs f u){j:Nat}(A:j<n){c:V}(v:c.cellS=true)(i:VRel I ρ N w c (f j)):VRel I ρ N w c (u j)∧(yR (f j)=false->u j=f j):=by
 obtain⟨d,t⟩:∃d,cs[j]? =some d:=⟨cs[j]'(by rw[h.len];exact A),Ab _⟩
 have g:=h.rf ρ N j d t;have m:=h.ru ρ N j d t;have p:=h.ok d (Ai t);generalize f j=x at*
 generalize u j=y at*
 have same:x=y->VRel I ρ N w c y∧(yR x=false->y=x):=λe=>by subst e;exact⟨i,λ_=>rfl⟩
 cases d with
 |int k a=>cases g;cases m;exact same rfl
 |bool a=>cases g;cases m;exact same rfl
 |nilp=>cases g;cases m;exact same rfl
 |str a=>
  cases g with
  |str _ s E _=>cases m with|str _ s' r _=>exact same (by rw[asf (E.trans r.symm)])
 |sl k C l=>
  refine⟨?_,λe=>by rw[ana g] at e;cases e⟩;cases c with
  |sl k' q F=>
   cases k<;>cases k'<;>cases C<;>cases q<;>simp only[V.cellS] at v p<;>first|contradiction|skip
   all_goals rename_i B D;cases B<;>cases D<;>simp only[V.cellS] at v p<;>first|contradiction|skip
   ·rw[ao9 i g];exact m
   ·obtain⟨rfl,rfl⟩:=arh i g;exact anb m rfl
   ·obtain⟨rfl,rfl⟩:=arh g i;exact anb m rfl
   ·rw[atO _ (Am _) i g];exact m
  |int k a=>cases i;cases g
  |bool a=>cases i;cases g
  |nilp=>cases i;cases g
  |str a=>cases i;cases g
  |_=>simp[V.cellS] at v
 |_=>simp[V.cellS] at p
theorem jz.at(h:jz I w w' b o n cs f u){a j:Nat}{x:Value}(m:w.cell? ⟨a,j,none⟩=some x):∃y,w'.cell? ⟨a,j,none⟩=some y∧∀(ρ:Nat->Nat)(N:Nat)(c:V),c.cellS=true->VRel I ρ N w c x->VRel I ρ N w c y:=by
 by_cases i:a=b∧o<=j∧j<o+n
 ·obtain⟨rfl,r,t⟩:=i;have d:j-o<n:=by omega
  have e:o+(j-o)=j:=by omega
  have k:=h.new (j-o) d;have g:=h.old (j-o) d;rw[e] at k g;rw[m] at g;refine⟨_,k,λρ N c q p=>?_⟩;rw[Au g] at p;exact(h.cellOne d q p).1
 ·exact⟨x,(h.out a j (by omega)).trans m,λ_ _ _ _ h=>h⟩
theorem jz.list(h:jz I w w' b o n cs f u){k:EK}{t:Fl}{xs:List (Ty k)}{cv:Value}(L:∀(i:Nat) x (j:Nat) c,xs[i]? =some x->(enc k x)[j]? =some c->c.cellS=true∧∀cv,VRel I ρ N w c cv->VRel I ρ N w' c cv)
  (E:VRel I ρ N w (.sl k t xs) cv):VRel I ρ N w' (.sl k t xs) cv:=by
 cases E with
 |sln=>exact .sln _ _
 |sle _ _ B C=>exact .sle _ _ B C
 |sl _ _ _ v a p cap O d H J g A M F=>
  have key:∀(i:Nat) x (j:Nat),xs[i]? =some x->j<(enc k x).length->∃y,w'.cell? ⟨v,a+i*k.sz+j,none⟩=some y∧∀c,(enc k x)[j]? =some c->VRel I ρ N w' c y:=by
   intro i x j e r;obtain⟨y,m,q⟩:=h.at (M i x j e r)
   refine⟨y,m,λc d=>?_⟩;obtain⟨D,G⟩:=L i x j c e d;exact G y (q ρ N c D (F i x j c e d))
  refine .sl k t xs v a p cap O d H J (λi j=>(w'.cell? ⟨v,a+i*k.sz+j,none⟩).getD undef) A ?_ ?_;·intro i x j e r;obtain⟨y,m,_⟩:=key i x j e r;rw[m];rfl
  ·intro i x j c e d;obtain⟨y,m,q⟩:=key i x j e (Ad.1 d).1;rw[m];exact q c d
theorem kR{c:V}{cv:Value}(d:(match c with| .int .. | .bool _| .str _| .nilp=>true|_=>false)=true)(a:VRel I ρ N w c cv):VRel I ρ N w' c cv:=by
 cases c<;>simp at d;·cases a;exact .bool _
 ·cases a;exact .int _ _ (by assumption)
 ·cases a;exact .str _ _ (by assumption) (by assumption)
 ·cases a;exact .nilp
theorem jz.strs(h:jz I w w' b o n cs f u){d:Fl}{xs:List (Ty .str)}{cv:Value}(a:VRel I ρ N w (.sl .str d xs) cv):VRel I ρ N w' (.sl .str d xs) cv:=by
 refine h.list ?_ a;intro i x j c g e;have:c=.str x:=by
  cases j with
  |zero=>simpa [enc] using e.symm
  |succ j=>simp[enc] at e
 subst this;exact⟨rfl,λcv a=>kR rfl a⟩
theorem jz.trees(h:jz I w w' b o n cs f u):∀(m:Nat){e:Fl}{xs:List (Ty .jnode)}{cv:Value},B6 xs<=m->VRel I ρ N w (.sl .jnode e xs) cv->VRel I ρ N w' (.sl .jnode e xs) cv:=by
 intro m;induction m with
 |zero=>intro e xs cv g;cases xs<;>simp at g
 |succ m k=>
  intro e xs cv g d;refine h.list ?_ d;intro i x j c p a;have q:B6 x<B6 xs:=List.sizeOf_lt_of_mem (Ai p);have r:=aa.l_lt x;match j,a with
  |0,a=>simp[enc] at a;subst a;exact⟨rfl,λcv d=>kR rfl d⟩
  |1,a=>simp[enc] at a;subst a;exact⟨rfl,λcv d=>kR rfl d⟩
  |2,a=>simp[enc] at a;subst a;exact⟨rfl,λcv d=>kR rfl d⟩
  |3,a=>simp[enc] at a;subst a;exact⟨rfl,λcv d=>k (by omega) d⟩
  |4,a=>simp[enc] at a;subst a;exact⟨rfl,λcv d=>h.strs d⟩
  |j+5,a=>simp[enc] at a
theorem jz.cellS(h:jz I w w' b o n cs f u){c:V}{cv:Value}(e:c.cellS=true)(d:VRel I ρ N w c cv):VRel I ρ N w' c cv:=by
 cases c with
 |int k a=>exact kR rfl d
 |bool a=>exact kR rfl d
 |str a=>exact kR rfl d
 |nilp=>exact kR rfl d
 |sl k g l=>
  cases k<;>cases g<;>simp only[V.cellS] at e<;>first|contradiction|skip
  ·exact h.strs d
  ·exact h.trees _ (Am _) d
 |_=>simp[V.cellS] at e
theorem ari{k:EK}(a:k.soft=true)(x:Ty k):∀c∈enc k x,c.cellS=true:=by cases k<;>simp[EK.soft] at a<;>simp[enc,V.cellS]
theorem jz.soft1(h:jz I w w' b o n cs f u){c:V}{cv:Value}(g:c.soft1=true)(d:VRel I ρ N w c cv):VRel I ρ N w' c cv:=by
 cases c with
 |sl k p l=>
  have q:k.soft=true:=by cases p<;>simp[V.soft1] at g;exact g
  refine h.list ?_ d;intro i x j c t g;have:=ari q x c (Ai g);exact⟨this,λcv d=>h.cellS this d⟩
 |undef=>exact .undef _
 |bool a=>exact kR rfl d
 |int k a=>exact kR rfl d
 |str a=>exact kR rfl d
 |nilp=>exact kR rfl d
 |ptr id o=>cases d;exact .ptr _ _ (by assumption)
 |nilif=>cases d;exact .nilif
 |hd n=>cases d;exact .hd _ _ _ (by assumption)
 |sw k id n=>cases d with|sw _ _ _ e r m=>exact .sw _ _ _ e r m
 |wp id k i o=>cases d with|wp _ _ _ _ e=>exact .wp _ _ _ _ e
 |mr id=>cases d with|mr _ e=>exact .mr _ e
 |nilm=>cases d;exact .nilm
 |raw n=>cases d with|raw _ b=>exact .raw _ _
 |_=>simp[V.soft1] at g
theorem alA{k:EK}(a:k.softE=true)(x:Ty k):∀c∈enc k x,c.soft1=true:=by cases k<;>simp[EK.softE,EK.soft] at a<;>simp[enc,V.soft1,EK.soft]
theorem jz.soft(h:jz I w w' b o n cs f u){c:V}{cv:Value}(e:c.soft=true)(q:VRel I ρ N w c cv):VRel I ρ N w' c cv:=by
 cases c with
 |agg l=>
  simp only[V.soft,Al] at e;cases q with
  |agg _ vs B r E m=>exact .agg l vs B r E λi c cv p t=>h.soft1 (e c (Ai p)) (m i c cv p t)
 |tup l=>
  simp only[V.soft,Al] at e;cases q with
  |tup _ vs B m=>exact .tup l vs B λi c cv p t=>h.soft1 (e c (Ai p)) (m i c cv p t)
 |ea l=>
  simp only[V.soft,Al] at e;cases q with
  |ea _ x d g r D F m=>
   have key:∀j,j<l.length->∃y,w'.cell? ⟨x,d+j,none⟩=some y∧∀c,l[j]? =some c->VRel I ρ N w' c y:=by
    intro j v;obtain⟨y,k,A⟩:=h.at (F j v)
    refine⟨y,k,λc a=>?_⟩;have C:=e c (Ai a);exact h.cellS C (A ρ N c C (m j c a))
   refine .ea l x d (λj=>(w'.cell? ⟨x,d+j,none⟩).getD undef) r D ?_ ?_;·intro j v;obtain⟨y,k,_⟩:=key j v;rw[k];rfl
   ·intro j c a;obtain⟨y,k,A⟩:=key j (Ad.1 a).1;rw[k];exact A c a
 |_=>exact h.soft1 e q
end
theorem anc{g:Gh}{w w':World}{d:Occ}{c:V}{cv:Value}{b j:Nat}(r:g.I b j)(A:∀c,c≠b->w'.heap[c]? =w.heap[c]?)(q:c.soft=true)(h:au g w d c cv):au g w' d c cv:=by
 cases c with
 |sl k x l=>cases x<;>simp[V.soft,V.soft1] at q<;>simp[au]
 |raw n=>
  cases cv with
  |pointer p=>
   cases p with
   |some u=>
    obtain⟨v,⟨f,e,t,B⟩,o⟩:=h;have i:u.block≠b:=by intro y;exact o j (y▸r)
    exact⟨v,⟨f,e,(A _ i).trans t,B⟩,o⟩
   |none=>simp[au]
  |_=>simp[au]
 |ul=>simp[V.soft,V.soft1] at q
 |_=>simp[au]
theorem ap4{c:V}(h:c.soft1=true):c.soft=true:=by cases c<;>first|exact h|simp[V.soft1] at h
theorem ai6{cs:List V}(h:apm (some cs)=true){j:Nat}{c:V}(d:(cellsOf cs)[j]? =some c):c.soft1=true∨(∃k xs,c=.ul k xs∧k.softE=true)∨∃k es,c=.mp k es:=by
 unfold apm at h;split at h;·simp at*
 ·rename_i k es b;obtain rfl:=Au b;cases j with
  |zero=>simp[cellsOf] at d;exact .inr (.inr ⟨_,_,d.symm⟩)
  |succ j=>simp[cellsOf] at d
 ·rename_i k xs b;obtain rfl:=Au b;have e:=Ai d;simp only[cellsOf,AG] at e;obtain⟨x,_,e⟩:=e;exact .inl (alA h x c e)
 ·rename_i q o i b;obtain rfl:=Au b;have p:dm cs=false:=by
   cases f:dm cs with
   |false=>rfl
   |true=>unfold dm at f;split at f<;>first|(simp[V.soft1] at h;done)|(exact absurd rfl (i _ _))|simp at f
  rw[eN p] at d;have:=Al.1 h c (Ai d);split at this;·exact .inr (.inl ⟨_,_,rfl,this⟩)
  ·exact .inl this
theorem as7{g:Gh}{s:St}{w w':World}{a:Act}{b o n:Nat}{cs:List V}{f u:Nat->Value}(h:SR g s w a)(r:jz g.I w w' b o n cs f u)(W:∀j,j<n->g.I b (o+j))(hs:apn s=true)
  {a4 al:Array Value} {e:TypeId} {fz:Nat×Nat} (h0:w.heap[b]? =some (.cells a4 e fz)) (h1:w'.heap[b]? =some (.cells al e fz)) (S:∀c,c≠b->w'.heap[c]? =w.heap[c]?) (h3:w'.heap.size=w.heap.size)
  (bs:w'.os=w.os) (b3:w'.tape=w.tape) (ad:w'.output=w.output) (b0:∀j,j<n->w.frozen? ⟨b,o+j,none⟩=false) (bx:∃j,j<n∧yR (f j)=true):
  SR g s w' a∧FRW g s.hp w g s.hp w':=by
 simp only[apn,Ac,Al] at hs;obtain⟨R,A,Z⟩:=bx;have br:∀(id:Nat) q,s.hp[id]? =some (some q)->g.ρ id≠b:=by rintro id q hid rfl;exact h.hr.notI id q hid _ (W R A)
 have ul:∀L k (xs:List (Ty k)) cv,k.softE=true->aax g w L k xs cv->aax g w' L k xs cv:=by
  intro L k xs cv hk hu;rcases hu with hu|⟨b2,cap,ar,Y,X,k0,k1,D,k3,k4,k5,k6,k7,k8,k9⟩
  ·exact .inl hu
  ·have b4:b2≠b:=by rintro rfl;exact k8 _ (W R A)
   refine .inr ⟨b2,cap,ar,Y,X,k0,k1,D,k3,k4,(S b2 b4).trans k5,k6,k7,k8,λi x j v y F E a3=>?_⟩;exact r.soft1 (alA hk x v (Ai E)) (k9 i x j v y F E a3)
 refine⟨⟨⟨?_,h.hr.apart,h.hr.notI,h.hr.notO,?_,λC oc a9=>by rw[h3];exact h.hr.oLt C oc a9⟩,⟨h.er.size,?_,?_⟩⟩,⟨rfl,bs,b3,ad,by rw[h3];exact Am _,?_,λ_ _ J=>J,?_,λ_ _=>rfl,Am _,λ_ _ _ _ _ J=>J,λ_ _ _ hO=>hO,λ_ q hid=>.inl ⟨q,hid⟩,λρ ρ' N N' c cv B p=>(r.cellS B p).flat1 (pw B),λb j v J p=>by obtain⟨y,F,E⟩:=r.at p;exact⟨y,F,λρ ρ' N N' c B p=>(r.cellS B (E ρ N c B p)).flat1 (pw B)⟩⟩⟩
 ·intro id q hid;have ae:=hs.2 _ (Ai hid);refine(h.hr.obj id q hid).keep (S _ (br id q hid)) λar Y X k1 D=>⟨D.len,D.plain,D.typed,D.cold,D.one,?_,?_,D.bn⟩
  ·intro j c cv B t;have hr:=D.rel j c cv B t;rcases ai6 ae B with M|⟨k,xs,rfl,hk⟩|⟨k,es,rfl⟩
   ·exact r.soft1 M hr
   ·cases hr;exact .ul _ _ _ _ (by assumption)
   ·cases hr
  ·intro j c cv B t;have ho:=D.own j c cv B t;rcases ai6 ae B with M|⟨k,xs,rfl,hk⟩|⟨k,es,rfl⟩
   ·exact anc (W R A) S (ap4 M) ho
   ·exact ul _ k xs cv hk ho
   ·simp[au]
 ·intro C j J;by_cases O:C=b∧o<=j∧j<o+n
  ·obtain⟨rfl,q1,q2⟩:=O;have e1:o+(j-o)=j:=by omega
   have F:=r.new (j-o) (by omega);have E:=b0 (j-o) (by omega);rw[e1] at F E;refine⟨by rw[F];rfl,λ_ hz=>?_⟩;have:w'.frozen? ⟨C,j,none⟩=w.frozen? ⟨C,j,none⟩:=by simp only[BA,h0,h1]
   rw[this,E] at hz;cases hz
  ·exact(h.hr.exI C j J).set (r.out C j (by omega)) h0 h1 S
 ·intro m v cv p t;exact r.soft (hs.1 v (Ai p)) (h.er.rel m v cv p t)
 ·intro m v cv p t;exact anc (W R A) S (hs.1 v (Ai p)) (h.er.own m v cv p t)
 ·intro C _ _ _ hh;refine S C ?_;rintro rfl;obtain⟨v,p,H⟩:=hh _ (W R A);rw[r.old R A] at p;rw[Au p,H] at Z;cases Z
 ·intro C j v J p H;by_cases O:C=b∧o<=j∧j<o+n
  ·obtain⟨rfl,q1,q2⟩:=O;have e1:o+(j-o)=j:=by omega
   have G:j-o<n:=by omega
   have F:=r.new (j-o) G;have E:=r.old (j-o) G;rw[e1] at F E;rw[E] at p;have Y:=Au p;obtain⟨d,hd⟩:∃d,cs[j-o]? =some d:=⟨cs[j-o]'(by rw[r.len];exact G),Ab _⟩
   have:=(r.cellOne (ρ:=g.ρ) (N:=0) G (r.ok d (Ai hd)) (r.rf _ _ _ d hd)).2 (by rw[Y];exact H);rw[F,this,Y]
  ·exact(r.out C j (by omega)).trans p
section
variable{w:World}{g:Gh}{s s':St}{a:Act}{P:Program}{Γ:av}{m:Oper}{next:Act->World->Prop}{Q:Exit->Act->World->Prop}
def ap5(g:Gh)(s:St)(w:World)(a:Act)(s':St)(next:Act->World->Prop):Prop:=
 ∀b w' c,SR c s' w' b->FRW g s.hp w c s'.hp w'->b.defers=a.defers->next b w'
def ane(P:Program)(n:Nat)(x v:aw)(m:Oper):Bool:=match m.dst with
 |none=>(match m.op with| .store t c b=>(fR P t==some n)&&(aJ x c&&aJ v b)|_=>false)
 |_=>false
theorem atP(hz:Zed){n:Nat}{x v:aw}(y:ane P n x v m=true)(hs:(WOp.ste n x v).step Γ s=some (true,s'))(h:SR g s w a)(hn:ap5 g s w a s' next):m.wp P a w next Q:=by
 obtain⟨dst,op,ty,pos,a5,gd⟩:=m;unfold ane at y;simp only at y;split at y
 ·split at y
  ·rename_i t x' B;simp only[Ac,beq_iff_eq] at y;obtain⟨h1,h2,h3⟩:=y;have r1:=aI h2 h.er;have r2:=aI h3 h.er;simp only[WOp.step] at hs;split at hs
   ·rename_i cs hx;simp only[Ah,Ap,Ac,Nat.ble_eq] at hs;obtain⟨⟨W,p,G,L⟩,rfl⟩:=hs;have p:(v.ev s).cells.map disown=cs.take n:=by simpa [aiz] using p
    simp only[asG,Ac,Al,Cg] at G;obtain⟨G,c0,M,r⟩:=G;rw[hx] at r1;generalize bY:a.eval x'=cx at r1;cases r1 with
    |ea _ b o f Y hI hw hv=>
    have F:∀c∈cs.take n,c.cellS=true∧∀z,c≠.int .u8 z:=by
     intro c A;have:=G c A;split at this;·cases this
     ·rename_i H;exact⟨this,λz e=>H z e⟩
    have R:∀c∈cs.take n,c.one=true:=λc A=>Y c (Be A)
    have ae:(v.ev s).cells.all V.one=true:=by
     refine Al.2 λc A=>?_
     have:disown c∈cs.take n:=by rw[<-p];exact CO A
     rw[<-mu];exact R _ this
    obtain⟨c1,c2,c3⟩:=wG r2 ae;have bs:(v.ev s).cells.length=n:=by have:=congrArg Aa p;simpa [Nat.min_eq_left W] using this
    have an:(a.eval B).cells.size=n:=by rw[<-c1];exact bs
    have br:(a.eval B).cells.toList.length=n:=by simpa using an
    have a9:(cs.take n).length=n:=by simp[Nat.min_eq_left W]
    have q:∀j,j<n->j<cs.length:=λj i=>by omega
    have D:∀j (i:j<n),(cs.take n)[j]? =some (cs[j]'(q j i)):=by intro j i;rw[AO];simp[i,Ab (q j i)]
    have c4:0<n:=by
     rcases CX n with e|e;·rw[e] at M;simp at M
     ·exact e
    obtain⟨J,e,fz,hb⟩:∃J e fz,w.heap[b]? =some (.cells J e fz):=by
     have:=hw 0 (by omega);unfold By at this;split at this;·exact⟨_,_,_,by assumption⟩
     ·cases this
    have a0:∀j,j<n->w.frozen? ⟨b,o+j,none⟩=false:=by
     intro j i;cases hq:w.frozen? ⟨b,o+j,none⟩ with
     |false=>rfl
     |true=>obtain⟨z,X⟩:=(h.hr.exI b (o+j) (hI j (q j i))).2 hz hq;rw[hw j (q j i)] at X;have k:=hv j _ (Ab (q j i));rw[Au X] at k;have hm:cs[j]'(by omega)∈cs.take n:=Ai (D j i);obtain⟨q1,q2⟩:=F _ hm;generalize cs[j]'(by omega)=c at k q1 q2;cases k<;>first|exact absurd rfl (q2 _)|simp[V.cellS] at q1
    have E:∀j,j<n->(w.cell? ⟨b,o+j,none⟩).isSome=true:=λj i=>by rw[hw j (q j i)];rfl
    have Z:(execOp a.eval ⟨none,.store t x' B,ty,pos,a5,gd⟩).run P w=.ok .skip (w.setCells b o (a.eval B).cells.toList):=by
     have:=run_storeCells_cells (P:=P) b o (a.eval B).cells.toList 0 w
      (λj i=>by have:=E j (by omega);simpa using this)
      (λj i=>by have:=a0 j (by omega);simpa using this)
      (λu hu=>by
       obtain⟨j,i,rfl⟩:=AS.1 hu;have C:j<(v.ev s).cells.length:=by rw[c1];simpa using i
       exact(c3 j _ _ (Ab C) (by simp)).oneCell (c2 _ (AK C)))
     simp[execOp,bY,DC,BQ,storeVar,oq h1,an,this]
    obtain⟨⟨ci,q1,q2⟩,q3,q4,q5,q6,q7⟩:=i9 b (a.eval B).cells.toList o w J e fz hb;have ht:jz g.I w (w.setCells b o (a.eval B).cells.toList) b o n (cs.take n) f (λj=>(a.eval B).cells.toList.getD j undef):=by
     refine⟨?_,?_,λj i=>hw j (q j i),a9,λc A=>(F c A).1,?_,?_⟩
     ·intro b' j S;refine A2 b _ o w _ ?_;intro ad _;simp only at ad ⊢;subst ad;rw[br];rcases S with H|al|b0;·exact absurd rfl H
      ·exact .inl al
      ·exact .inr b0
     ·intro j i;have:=BB b (a.eval B).cells.toList o w (λj' C=>E j' (by omega)) j (by omega);rw[this,Ak,Ab];rfl
     ·intro ρ N j c y;have i:j<n:=by have:=(Ad.1 y).1;omega
      rw[D j i] at y;obtain rfl:=Au y;have k:=hv j _ (Ab (q j i));refine k.flat1 ?_;have:=(F _ (Ai (D j i))).1;revert this;generalize cs[j]'(by omega)=c;cases c<;>simp[V.cellS,V.flat1]
     ·intro ρ N j c y;have i:j<n:=by have:=(Ad.1 y).1;omega
      have ar:=y;rw[<-p,Ay,An] at ar;obtain⟨d,hd,rfl⟩:=ar;have O:j<(a.eval B).cells.toList.length:=by omega
      have k:=(c3 j d ((a.eval B).cells[j]'(by simpa using O)) hd (by simp)).disown;have e1:(a.eval B).cells.toList.getD j undef=(a.eval B).cells[j]'(by simpa using O):=by rw[Ak,Ab O];simp
      show VRel g.I ρ N w (disown d) ((a.eval B).cells.toList.getD j undef);rw[e1];refine k.flat1 ?_;have:=(F _ (Ai y)).1;revert this;generalize disown d=c;cases c<;>simp[V.cellS,V.flat1]
    have bn:∃j,j<n∧yR (f j)=true:=by
     obtain⟨j,i,rfl⟩:=AS.1 M;have C:j<n:=by omega
     refine⟨j,C,?_⟩;have k:=hv j _ (Ab (q j C));have e1:(cs.take n)[j]=cs[j]'(by omega):=by simp
     rw[e1] at r;revert r k;generalize cs[j]'(by omega)=c;intro r k;split at r;·exact ana k
     ·cases r
    obtain⟨k1,k2⟩:=as7 h ht (λj i=>hI j (q j i)) L hb q1 q3 q4 q5 q6 q7 a0 bn;unfold CF;rw[Z];exact hn _ _ _ k1 k2 rfl
   ·cases hs
  ·cases y
 ·cases y
end
end Go.AM
end
