import Derived.Below
import Derived.KernelRfl
import Derived.Test.YtkinflmjagfapaaDoorChecked
import Derived.Lib.ItoaNum
import Derived.Lib.Join
import Derived.Lib.SlTrimSet
import Derived.Lib.Split
import Derived.Lib.Bytealg
import Derived.Lib.LastIndexByte
import Derived.Defers
import Derived.Test.YtkinflmjagfapaaDoorZ00
import Derived.Test.YtkinflmjagfapaaDoorZ01
open Array renaming getElem?_eq_getElem→Am,getElem?_eq_some_iff→AK,getD→A3,getElem?_append_left→BU
open Bool renaming and_eq_true→Ab,or_eq_true→Be,not_eq_true'→Bk,false_or→Cd
open Classical renaming propDecidable→Cc
open Eq renaming trans→BB
open Function renaming comp→Dq
open Go.Deferred renaming ofValue→CW
open Go.Ending renaming returned→Da
open Go.Instr renaming sureAddr→BH,loadAt→C7,storeAt→Dm
open Go.IntKind renaming wrap→Ao,signed→Bb,bits→Br
open Go.Oper renaming wp→Cw
open Go.Region renaming binds→BF,wanted→BO,ready→CH
open Go.World renaming cell?_setCells_out→AX,cell?→Bn,frozen?→Bq,cell?_setCells_in→Bt
open Int renaming tmod→Bl,tmod_eq_emod_of_nonneg→By,tdiv_eq_ediv_of_nonneg→BW
open List renaming length→Aa,getElem?_eq_getElem→Ac,getElem?_eq_some_iff→Ad,mem_of_getElem?→Af,getD_eq_getElem?_getD→Ah,all_eq_true→Ai,getElem?_append_right→An,getElem?_append_left→Ap,getD→Aq,getElem?_map→Au,getElem?_set→Aw,mem_append→Ay,mem_singleton→Az,mem_map→AA,mem_flatMap→AC,length_cons→AD,length_append→AG,getElem?_take→AJ,mem_cons→AL,mem_cons_self→AN,getElem_mem→AO,mem_iff_getElem→AP,getElem?_cons_succ→AR,mem_cons_of_mem→AS,mem_append_left→AT,map_congr_left→AV,getElem?_set_ne→AY,getElem?_cons_zero→AZ,getElem?_drop→A0,eq_nil_of_length_eq_zero→A1,range→A2,range'→A6,mem_of_mem_take→A7,mem_range→Bd,map_cons→Bf,length_map→Bm,mem_of_mem_drop→Bu,mem_append_right→BI,contains_iff_mem→BS,map_append→BT,flatMap_cons→BY,range'_succ→B6,any_eq_true→B8,getD_cons_zero→Cb,filterMap_append→Ct,nodup_nil→Cy,pairwise_append→CA,all_cons→CB,mem_map_of_mem→CF,pairwise_cons→CK,filterMap_cons_some→CL,getElem?_toArray→C0,eq_nil_iff_forall_not_mem→C4,range_eq_range'→C9,range'_append→Dj,length_range→Dt,mem_of_find?_eq_some→Dw,getElem?_replicate→Dz
open List.Sublist renaming append_left→Dy
open Nat renaming le_refl→Aj,eq_of_beq_eq_true→As,beq→Av,lt_of_lt_of_le→Ax,lt_or_ge→AE,le_trans→AF,zero_add→AW,beq_refl→BL,ble→BM,blt→BP,blt_eq→B0,one_mul→Cl,add_zero→Cu,sub_self→Cx,eq_zero_or_pos→CN,le_add_right→CX,le_of_ble_eq_true→C1,lt_trichotomy→Dr
open Option renaming map_eq_some_iff→Ak,getD_some→A5,map_some→A9
open Option.some renaming injEq→Ae,inj→Ar
open Prod.mk renaming injEq→Al
open SizeOf renaming sizeOf→BV
set_option linter.all false
set_option maxRecDepth 100000
noncomputable section
namespace Go.AM
def yB(P:Program):RV->ResultVar->Bool
 | .t n,.tmp m=>n==m
 | .cell n b agg,.cell m t=>(n==m)&&((dM P t==some b)&&((jD P t==some agg)&&(agg||b==1)))
 |_,_=>false
def eD(P:Program):List RV->List ResultVar->Bool
 | [],[]=>true
 |x::xs,y::ys=>yB P x y&&eD P xs ys
 |_,_=>false
section
variable{w:World}{g:Gh}{s s':St}{a:Act}{P:Program}{Γ:am}
def af3(g:Gh)(w:World)(x:RV)(v:V)(cv:Value):Prop:=match x with| .t n=>ai g w (.slot n) v cv| .cell .. =>v.bare=true
def um(b:Array Value):ResultVar->Sem Value
 | .tmp t=>pure (b.getD t undef)
 | .cell a t=>do loadVar t (<-asAddr (b.getD a undef))
theorem ajv(h:SR g s w a){x:RV}{y:ResultVar}(p:yB P x y=true){v:V}(q:x.ev s=some v):
  ∃cv,(um a.tmps y).run P w=.ok cv w∧VRel g.I g.ρ s.hp.length w v cv∧af3 g w x v cv:=by
 cases x with
 |t n=>
  cases y with
  |tmp m=>
   obtain rfl:n=m:=by simpa [yB] using p
   simp only[RV.ev,Ae] at q;subst q;exact⟨_,by simp[um],h.er.get n,h.er.getOwn n⟩
  |cell m t=>simp[yB] at p
 |cell n d agg=>
  cases y with
  |tmp m=>simp[yB] at p
  |cell m t=>
   simp only[yB,Ab,beq_iff_eq,Be] at p;obtain⟨rfl,W,R,u⟩:=p;have C:=h.er.get n;simp only[RV.ev] at q
   have fin:∀b o (vs:List Value),a.tmps.getD n undef=.pointer (some ⟨b,o,none⟩)->vs.length=d->(∀(j:Nat) v,vs[j]? =some v->w.cell? ⟨b,o+j,none⟩=some v)->
     (um a.tmps (.cell n t)).run P w=.ok (if agg then .agg vs.toArray else vs.headD undef) w:=by
    intro b o vs hp Y E;have:=lz (P:=P) (w:=w) (b:=b) (o:=o) (vs:=vs) W R u Y E;simp only[C7,BH] at this;simp[um,hp,asAddr];simpa using this
   split at q
   ·rename_i id o J;rw[J] at C;generalize k:a.tmps.getD n undef=cv at C fin;cases C with
    |ptr _ _ hid=>
    split at q
    ·rename_i cs Q;split at q
     ·rename_i M;obtain rfl:=Ar q;obtain⟨D,e,S,z⟩:=nx h.hr Q;have O:=z.len
      have r:=n7 (agg:=agg) (cs:=(cs.drop o).take d) (vs:=(D.toList.drop o).take d) (w:=w) (I:=g.I) (ρ:=g.ρ) (N:=s.hp.length)
       (λc B=>z.one c (Bu (A7 B))) (by simp;omega) (by
        rcases u with u|u;·exact .inl u
        ·right;simp;omega)
       (λi c cv p k=>by
        simp only[AJ,A0] at p k;split at p;·rename_i H;simp only[H,if_true] at k;exact z.rel _ _ _ p (by simpa using k)
        ·simp at p)
      refine⟨_,fin _ _ ((D.toList.drop o).take d) rfl (by simp;omega) (λj v A=>?_),r.disown,cA _⟩;rw[aA S];simp only[AJ,A0] at A;split at A;·simpa using A
      ·simp at A
     ·simp at q
    ·simp at q
   ·rename_i cs J;rw[J] at C;generalize k:a.tmps.getD n undef=cv at C fin;cases C with
    |ea _ b o f X hI E L=>
    split at q
    ·rename_i M;obtain rfl:=Ar q
     have r:=n7 (agg:=agg) (cs:=cs.take d) (vs:=(A2 d).map f) (w:=w) (I:=g.I) (ρ:=g.ρ) (N:=s.hp.length)
      (λc B=>X c (A7 B)) (by simp;omega) (by
       rcases u with u|u;·exact .inl u
       ·right;simp;omega)
      (λi c cv p k=>by
       simp only[AJ] at p;split at p;·rename_i H;simp[H] at k;subst k;exact L _ _ p
       ·simp at p)
     refine⟨_,fin _ _ ((A2 d).map f) rfl (by simp) (λj v A=>?_),r.disown,cA _⟩;rw[Au,Ak] at A;obtain⟨Z,G,rfl⟩:=A;obtain⟨F,rfl⟩:=Ad.1 G;simp only[Dt] at F;simpa using E j (by omega)
    ·simp at q
   ·simp at q
theorem afn(h:SR g s w a):∀{xs:List RV}{ys:List ResultVar}{vs:List V},eD P xs ys=true->rvs s xs=some vs->
  ∃cvs:List Value,cvs.length=vs.length∧xs.length=vs.length∧ys.length=vs.length∧(∀(i:Nat) y,ys[i]? =some y->∃cv,cvs[i]? =some cv∧(um a.tmps y).run P w=.ok cv w)∧
   (∀(i:Nat) v cv,vs[i]? =some v->cvs[i]? =some cv->VRel g.I g.ρ s.hp.length w v cv)∧
   (∀(i:Nat) x v cv,xs[i]? =some x->vs[i]? =some v->cvs[i]? =some cv->af3 g w x v cv)
 | [],[],vs,_,f=>by simp only[rvs,Ae] at f;subst f;exact⟨[],rfl,rfl,rfl,by simp,by simp,by simp⟩
 |x::xs,y::ys,vs,d,f=>by
  simp only[eD,Ab] at d;simp only[rvs] at f;split at f
  ·rename_i v r B t;obtain rfl:=Ar f;obtain⟨cv,p,A,C⟩:=ajv h d.1 B;obtain⟨cvs,D,F,G,q,z,o⟩:=afn h d.2 t;refine⟨cv::cvs,by simp[D],by simp[F],by simp[G],?_,?_,?_⟩
   ·intro i E k;cases i with
    |zero=>simp at k;subst k;exact⟨cv,rfl,p⟩
    |succ i=>simpa using q i E (by simpa using k)
   ·intro i m j c b;cases i with
    |zero=>simp at c b;subst c b;exact A
    |succ i=>exact z i m j (by simpa using c) (by simpa using b)
   ·intro i u m j e c b;cases i with
    |zero=>simp at e c b;subst e c b;exact C
    |succ i=>exact o i u m j (by simpa using e) (by simpa using c) (by simpa using b)
  ·simp at f
 | [],_::_,_,d,_=>by simp[eD] at d
 |_::_,[],_,d,_=>by simp[eD] at d
def Gh.hand(g:Gh)(r:Option Nat):Gh:={g with O:=λb=>match g.O b with|some (.slot m)=>(if some m=r then some .res else none)|some .res=>none|o=>o}
theorem HR.hand{hp:List ah}(h:HR g hp w)(r:Option Nat):HR (g.hand r) hp w:=by
 refine⟨?_,h.apart,h.notI,?_,h.exI,?_⟩
 ·intro id cs hid;refine(h.obj id cs hid).keep rfl λt e v u d=>?_
  refine⟨d.len,d.plain,d.typed,d.cold,d.one,d.rel,?_,d.bn⟩;intro j c cv p i;refine bd (d.own j c cv p i) rfl (λb j m=>⟨m,rfl⟩) ?_;intro b f;exact⟨by simp[Gh.hand,f],rfl,λj q=>q⟩
 ·intro id cs hid;simp[Gh.hand,h.notO id cs hid]
 ·intro b o f;cases k:g.O b with
  |none=>simp[Gh.hand,k] at f
  |some o'=>exact h.oLt b o' k
theorem FR.hand{g₀:Gh}{hp₀ hp:List ah}{w₀:World}(h:FR g₀ hp₀ w₀ g hp w)(r:Option Nat):FR g₀ hp₀ w₀ (g.hand r) hp w:=
 ⟨h.beta,h.os,h.tape,h.output,h.size,h.block,h.up,h.iSame,λb c d e=>by simp[Gh.hand,h.oSame b c d e],h.live⟩
def uo:List Value->Value
 | [v]=>v
 |vs=>.tuple vs.toArray
theorem aeH{fn:Func}{l:List ResultVar}{cvs:List Value}(G:fn.results.toList=l)(r:l.length=cvs.length)(B:l.length<=5)
  (h:∀(i:Nat) y,l[i]? =some y->∃cv,cvs[i]? =some cv∧(um a.tmps y).run P w=.ok cv w):
  (results fn a.tmps).run P w=.ok (uo cvs) w:=by
 have e:fn.results=l.toArray:=by rw[<-G]
 have C:results fn a.tmps=(do let vs <-fn.results.mapM (um a.tmps);pure (if h:vs.size=1 then vs[0] else .tuple vs)):=rfl;rw[C,e];match l,cvs,r,B,h with
 | [],[],_,_,_=>simp[uo]
 | [f],[t],_,_,h=>obtain⟨_,b,d⟩:=h 0 f rfl;simp at b;subst b;simp[d,uo]
 | [f,m],[t,v],_,_,h=>obtain⟨_,b,d⟩:=h 0 f rfl;obtain⟨_,c,k⟩:=h 1 m rfl;simp at b c;subst b c;simp[d,k,uo]
 | [f,m,p],[t,v,z],_,_,h=>obtain⟨_,b,d⟩:=h 0 f rfl;obtain⟨_,c,k⟩:=h 1 m rfl;obtain⟨_,j,q⟩:=h 2 p rfl;simp at b c j;subst b c j;simp[d,k,q,uo]
 | [f,m,p,u],[t,v,z,D],_,_,h=>obtain⟨_,b,d⟩:=h 0 f rfl;obtain⟨_,c,k⟩:=h 1 m rfl;obtain⟨_,j,q⟩:=h 2 p rfl;obtain⟨_,o,x⟩:=h 3 u rfl;simp at b c j o;subst b c j o;simp[d,k,q,x,uo]
 | [f,m,p,u,E],[t,v,z,D,H],_,_,h=>obtain⟨_,b,d⟩:=h 0 f rfl;obtain⟨_,c,k⟩:=h 1 m rfl;obtain⟨_,j,q⟩:=h 2 p rfl;obtain⟨_,o,x⟩:=h 3 u rfl;obtain⟨_,A,F⟩:=h 4 E rfl;simp at b c j o A;subst b c j o A;simp[d,k,q,x,F,uo]
theorem zQ{m:Nat}{vs:List V}{hp:List ah}{b:Array Value}(k:HR g hp w)(j:vs.length=b.size)(f:∀x∈vs,x.bare=true)
  (h:∀(i:Nat) x cv,vs[i]? =some x->b[i]? =some cv->VRel g.I g.ρ hp.length w x cv):SR g (start m vs hp) w {tmps:=b++Array.replicate (m-b.size) undef,defers:=[]}:=by
 refine⟨k,⟨by simp[start,j],?_,?_⟩⟩
 ·intro n v cv c d;simp only[start] at c d;rcases AE n vs.length with e|e;·rw[Ap e] at c;rw[BU (by omega)] at d;exact h n v cv c d
  ·rw[An e,Dz] at c;split at c;·obtain rfl:=Ar c;exact .undef _
   ·simp at c
 ·intro n v cv c d;simp only[start] at c;rcases AE n vs.length with e|e;·rw[Ap e] at c;exact eA (f v (Af c)) _ _ _ _
  ·rw[An e,Dz] at c;split at c;·obtain rfl:=Ar c;simp[ai]
   ·simp at c
def RQ(g₀:Gh)(hp₀:List ah)(w₀:World)(v:V)(hp':List ah)(e:Ending)(w:World):Prop:=∃cv g,e=.returned cv∧HR g hp' w∧FR g₀ hp₀ w₀ g hp' w∧VRel g.I g.ρ hp'.length w v cv∧ai g w .res v cv
theorem afo{F:Gh->Prop}{fn:Func}{z:List RV}(W:eD P z fn.results.toList=true)(h5:fn.results.toList.length<=5)(h:SR g s w a)(A:∀r,F (g.hand r)){v:V}{hp':List ah}
  (j:(ne s z).map (λv=>(v,s.hp))=some (v,hp')):∃cv,(results fn a.tmps).run P w=.ok cv w∧∃u D,Da cv=.returned u∧HR D hp' w∧F D∧VRel D.I D.ρ hp'.length w v u∧ai D w .res v u:=by
 obtain⟨v',d,E⟩:=Ak.1 j;simp only[Al] at E;obtain⟨rfl,rfl⟩:=E;have L:∃f,rvs s z=some f:=by
  unfold ne at d;cases A:rvs s z with
  |none=>rw[A] at d;simp at d
  |some f=>exact⟨f,rfl⟩
 obtain⟨f,p⟩:=L;obtain⟨cvs,H,l2,l3,Y,B,C⟩:=afn h W p;have o:=aeH (fn:=fn) (a:=a) (P:=P) (w:=w) rfl (by rw[l3,H]) h5 Y;unfold ne at d;rw[p] at d;clear p l3 Y j;match z,f,cvs,H,l2,B,C,o,d with
 | [x],[J],[q],_,_,B,C,o,d=>
   simp only[Ae] at d;subst d;have m:=C 0 x J q rfl rfl rfl;have G:=B 0 J q rfl rfl;cases x with
   |t n=>
    simp only[af3] at m;refine⟨q,o,q,g.hand (some n),rfl,h.hr.hand _,A _,G,?_⟩;unfold ai at m ⊢;split;·rename_i k xs ad a5 cap;obtain⟨S,Q,R⟩:=m;exact⟨by simp[Gh.hand,S],Q,R⟩
    ·obtain⟨S,Q,R⟩:=m;exact⟨by simp[Gh.hand,S],Q,R⟩
    ·rcases m with m|⟨b,cap,M,e,fz,m0,m1,m2,m3,m4,m5⟩
     ·exact .inl m
     ·exact .inr ⟨b,cap,M,e,fz,m0,m1,m2,m3,by simp[Gh.hand,m4],m5⟩
    ·trivial
   |cell n X agg=>exact⟨q,o,q,g.hand none,rfl,h.hr.hand _,A _,G,eA m _ _ _ _⟩
 | [],[],[],_,_,B,C,o,d=>simp only[Ae] at d;subst d;exact⟨_,o,_,g.hand none,rfl,h.hr.hand _,A _,.tup [] #[] rfl (by simp),by simp[ai]⟩
 |x::y::z,J::v1::f,q::c1::cvs,H,_,B,C,o,d=>simp only[Ae] at d;subst d;refine⟨_,o,_,g.hand none,rfl,h.hr.hand _,A _,.tup _ _ (by simpa using H.symm) ?_,by simp[ai]⟩;intro i c cv Z N;rw[Au,Ak] at Z;obtain⟨c',O,rfl⟩:=Z;exact(B i c' cv O (by simpa using N)).disown
theorem adu{g₀:Gh}{hp₀:List ah}{w₀:World}{fn:Func}{i:List RV}(h:eD P i fn.results.toList=true)(j:fn.results.toList.length<=5)(f:SR g s w a)(d:FR g₀ hp₀ w₀ g s.hp w){v:V}{hp':List ah}
  (b:(ne s i).map (λv=>(v,s.hp))=some (v,hp')):∃cv,(results fn a.tmps).run P w=.ok cv w∧RQ g₀ hp₀ w₀ v hp' (.returned cv) w:=by
 have e:hp'=s.hp:=by obtain⟨m,_,c⟩:=Ak.1 b;simp only[Al] at c;exact c.2.symm
 subst e;exact afo (F:=λk=>FR g₀ hp₀ w₀ k s.hp w) h j f (λr=>d.hand r) b
theorem aiA(t:bR P Γ){imp:List Nat}(G:cd Γ imp){fn:Func}{c:Code}{y:IR}{q:List RV}{n:Nat}{vs:List V}{hp hp':List ah}{v:V}
  (F:aF P imp hp.length y c=true) (A:eD P q fn.results.toList=true) (D:fn.results.toList.length<=5)
  (h:pL Γ n fn.ntmps q y vs hp=some (v,hp')) {w:World} {g:Gh} {b:Array Value} (r:oa P g w) (o:HR g hp w) (p:vs.length=b.size) (f:∀x∈vs,x.bare=true)
  (m:∀(i:Nat) x cv,vs[i]? =some x->b[i]? =some cv->VRel g.I g.ρ hp.length w x cv):
  c.wp P (bodyPost P fn (RQ g hp w v hp')) {tmps:=b++Array.replicate (fn.ntmps-b.size) undef,defers:=[]} w:=by
 have j:=dN (df:=[]) t ⟨r,o.notI⟩ G n (Aj _) y c F (fin q) (start fn.ntmps vs hp) _ w g h ⟨zQ o p f m,FR.refl _ _ _,rfl⟩;refine wp_mono j ?_;rintro e B w' ⟨E,s',H,C,z,u⟩
 have d:∀v hp',(ne s' q).map (λv=>(v,s'.hp))=some (v,hp')->B.defers=[]∧∃cv,(results fn B.tmps).run P w'=.ok cv w'∧RQ g hp w v hp' (.returned cv) w':=
  λv hp' k=>⟨u.df,adu A D u.sr u.fr k⟩
 cases E with
 |normal=>cases e<;>simp only[fJ] at C;exact d _ _ z
 |exit i=>simp[fin] at z
 |ret=>cases e<;>simp only[fJ] at C;exact d _ _ z
theorem aiQ(m:bR P Γ){imp:List Nat}(t:cd Γ imp){f:FuncId}{fn:Func}{b:Code}{q:IR}{p:List RV}{n:Nat}{vs:List V}{hp hp':List ah}{v:V}
  (r:P.funcs[f]? =some fn) (u:fn.body=some b) (x:aF P imp hp.length q b=true) (o:eD P p fn.results.toList=true) (y:fn.results.toList.length<=5)
  (d:pL Γ n fn.ntmps p q vs hp=some (v,hp')):eC P f vs hp v hp':=
 λw g i k j h c e=>calls_of_wp r u (aiA m t x o y d k j h c e)
end
def V.flatE:V->Bool
 | .ea cs=>cs.all V.flat1
 |v=>v.flat1
def V.flat2:V->Bool
 | .agg cs=>cs.all V.flat1
 | .ea cs=>cs.all V.flat1
 | .fn _ cs=>cs.all V.flatE
 |v=>v.flat1
def V.flat:V->Bool
 | .tup cs=>cs.all V.flat2
 |v=>v.flat2
section
variable{I:Nat->Nat->Prop}{ρ ρ':Nat->Nat}{N N':Nat}{w:World}{P:Program}
theorem VRel.flatE{v:V}{cv:Value}(h:VRel I ρ N w v cv)(e:v.flatE=true):VRel I ρ' N' w v cv:=by
 cases h with
 |ea cs b a f t p m g=>simp only[V.flatE,Ai] at e;exact .ea cs b a f t p m (λj c i=>(g j c i).flat1 (e c (Af i)))
 |bool b=>exact .bool b
 |int k n h=>exact .int k n h
 |str l s d h=>exact .str l s d h
 |sln k o=>exact .sln k o
 |sle k o x u=>exact .sle k o x u
 |sl k o xs b a r cap d i y q f p m g=>exact(VRel.sl k o xs b a r cap d i y q f p m g).flat1 rfl
 |nilp=>exact .nilp
 |nilif=>exact .nilif
 |fn f cs vs d g=>
  cases cs with
  |nil=>exact .fn f [] vs d (by simp)
  |cons c cs=>simp[V.flatE,V.flat1] at e
 |_=>simp[V.flatE,V.flat1] at e
theorem VRel.flat2{v:V}{cv:Value}(h:VRel I ρ N w v cv)(m:v.flat2=true):VRel I ρ' N' w v cv:=by
 cases h with
 |ea cs b d f p r q e=>exact(VRel.ea cs b d f p r q e).flatE m
 |agg cs vs j p x e=>simp only[V.flat2,Ai] at m;exact .agg cs vs j p x (λi c cv g a=>(e i c cv g a).flat1 (m c (Af g)))
 |bool b=>exact .bool b
 |int k n h=>exact .int k n h
 |str l s j h=>exact .str l s j h
 |sln k o=>exact .sln k o
 |sle k o z y=>exact .sle k o z y
 |sl k o xs b d u cap j g A t f r q e=>exact(VRel.sl k o xs b d u cap j g A t f r q e).flat1 rfl
 |nilp=>exact .nilp
 |nilif=>exact .nilif
 |fn f cs vs j e=>simp only[V.flat2,Ai] at m;exact .fn f cs vs j (λi c cv g a=>(e i c cv g a).flatE (m c (Af g)))
 |_=>simp[V.flat2,V.flat1] at m
theorem VRel.flat{v:V}{cv:Value}(h:VRel I ρ N w v cv)(g:v.flat=true):VRel I ρ' N' w v cv:=by
 cases h with
 |tup cs vs d a=>simp only[V.flat,Ai] at g;exact .tup cs vs d (λi c cv j m=>(a i c cv j m).flat2 (g c (Af j)))
 |agg cs vs d p x a=>exact(VRel.agg cs vs d p x a).flat2 g
 |bool b=>exact .bool b
 |int k n h=>exact .int k n h
 |str l s d h=>exact .str l s d h
 |sln k o=>exact .sln k o
 |sle k o z y=>exact .sle k o z y
 |sl k o xs b e u cap d j A t f r q a=>exact(VRel.sl k o xs b e u cap d j A t f r q a).flat1 rfl
 |nilp=>exact .nilp
 |nilif=>exact .nilif
 |fn f cs vs d a=>exact(VRel.fn f cs vs d a).flat2 g
 |ea cs b e f p r q a=>exact(VRel.ea cs b e f p r q a).flat2 g
 |_=>simp[V.flat,V.flat2,V.flat1] at g
def aI(P:Program)(f:FuncId)(vs:List V)(v:V):Prop:=∃hp',eC P f vs [] v hp'
theorem aI.frame{f:FuncId}{vs:List V}{v:V}(h:aI P f vs v)(hf:vs.all V.flat=true)(Q:v.flat=true)(hp:List ah):eC P f vs hp v hp:=by
 obtain⟨hp',h⟩:=h;intro w g C L q J E H;let g₀:Gh:={I:=g.I,ρ:=g.ρ,O:=λ_=>none,β:=g.β}
 have h0:HR g₀ [] w:=⟨by simp,by simp,by simp,by simp,q.exI,by simp[g₀]⟩
 refine(h w g₀ C (L.sub rfl (λh=>h) (λh=>by simp[g₀,h])) h0 J E (λi x cv X t=>(H i x cv X t).flat (Ai.1 hf x (Af X)))).mono ?_;rintro e w' ⟨cv,g₁,rfl,S,r,Z,Y⟩;have blk:∀b,b<w.heap.size->w'.heap[b]? =w.heap[b]?:=λb d=>r.block b d (by simp) rfl
 have p:∀b j,b<w.heap.size->g₁.I b j->g.I b j:=λb j d y=>r.iSame b j d (by simp) rfl y
 have D:∀b,b<w.heap.size->g₁.O b=none:=λb d=>r.oSame b d (by simp) rfl
 let a:Gh:={I:=g₁.I,ρ:=g.ρ,O:=λb=>if b<w.heap.size then g.O b else (if g₁.O b=some .res then some .res else none),β:=g.β}
 have up:Up g.I g.ρ hp.length w a.I a.ρ hp.length w':=⟨r.up.mono,r.up.cell,λ_ _=>rfl,Aj _⟩
 have B:∀(id:Nat) cs,hp[id]? =some (some cs)->g.ρ id<w.heap.size:=by intro id cs hid;exact(q.obj id cs hid).lt
 have A:∀u v cv,ai g w u v cv->ai a w' u v cv:=by intro u v cv ho;refine bd ho rfl (λb j y=>⟨up.mono b j y,up.cell b j y⟩) ?_;intro b d;have m:=q.oLt b u d;exact⟨by simp[a,m,d],blk b m,λj hj=>p b j m hj⟩
 refine⟨cv,a,rfl,⟨?_,q.apart,?_,?_,S.exI,?_⟩,⟨rfl,r.os,r.tape,r.output,r.size,λb d _ _=>blk b d,up,λb j d _ _ y=>p b j d y,?_,λ_ cs h=>.inl ⟨cs,h⟩⟩,?_,?_⟩
 ·intro id cs hid;refine(q.obj id cs hid).keep (blk _ (B id cs hid)) λG e W h1 z=>?_
  exact⟨z.len,z.plain,z.typedUp rfl up.rho up.num rfl,z.cold,z.one,λj c cv M t=>(z.rel j c cv M t).up up,λj c cv M t=>A _ _ _ (z.own j c cv M t),z.bn⟩
 ·intro id cs hid j y;exact q.notI id cs hid j (p _ j (B id cs hid) y)
 ·intro id cs hid;have:=B id cs hid;simp[a,this,q.notO id cs hid]
 ·intro b o d;simp only[a] at d;split at d;·rename_i m;exact Ax m r.size
  ·split at d;·rename_i F;exact S.oLt b _ F
   ·simp at d
 ·intro b d _ hO;simp[a,d,hO]
 ·exact Z.flat Q
 ·unfold ai at Y ⊢;split
  ·rename_i k xs ad b0 cap;obtain⟨R,o2,o3⟩:=Y;refine⟨?_,(by obtain⟨G,e,W,a1,a2,a3⟩:=o2;exact⟨G,e,W,a1,a2,λhk=>(a3 hk).trans r.beta⟩),o3⟩;have:¬ad.block<w.heap.size:=by
    intro m;rw[D _ m] at R;simp at R
   simp[a,this,R]
  ·simp[V.flat,V.flat2,V.flat1] at Q
  ·simp[V.flat,V.flat2,V.flat1] at Q
  ·trivial
theorem aI.frameU{f:FuncId}{vs:List V}{k:EK}{xs:List (Ty k)}(h:aI P f vs (.ul k xs))(hf:vs.all V.flat=true)(hp:List ah):eC P f vs hp (.ul k xs) hp:=by
 obtain⟨hp',h⟩:=h;intro w g C L q J D H;let g₀:Gh:={I:=g.I,ρ:=g.ρ,O:=λ_=>none,β:=g.β}
 have Y:HR g₀ [] w:=⟨by simp,by simp,by simp,by simp,q.exI,by simp[g₀]⟩
 refine(h w g₀ C (L.sub rfl (λh=>h) (λh=>by simp[g₀,h])) Y J D (λi x cv W t=>(H i x cv W t).flat (Ai.1 hf x (Af W)))).mono ?_;rintro e w' ⟨cv,g₁,rfl,R,r,X,Q⟩;have blk:∀b,b<w.heap.size->w'.heap[b]? =w.heap[b]?:=λb d=>r.block b d (by simp) rfl
 have p:∀b j,b<w.heap.size->g₁.I b j->g.I b j:=λb j d y=>r.iSame b j d (by simp) rfl y
 have E:∀b,b<w.heap.size->g₁.O b=none:=λb d=>r.oSame b d (by simp) rfl
 let a:Gh:={I:=g₁.I,ρ:=g.ρ,O:=λb=>if b<w.heap.size then g.O b else (if g₁.O b=some .res then some .res else none),β:=g.β}
 have up:Up g.I g.ρ hp.length w a.I a.ρ hp.length w':=⟨r.up.mono,r.up.cell,λ_ _=>rfl,Aj _⟩
 have B:∀(id:Nat) cs,hp[id]? =some (some cs)->g.ρ id<w.heap.size:=by intro id cs hid;exact(q.obj id cs hid).lt
 have A:∀u v cv,ai g w u v cv->ai a w' u v cv:=by intro u v cv ho;refine bd ho rfl (λb j y=>⟨up.mono b j y,up.cell b j y⟩) ?_;intro b d;have m:=q.oLt b u d;exact⟨by simp[a,m,d],blk b m,λj Z=>p b j m Z⟩
 refine⟨cv,a,rfl,⟨?_,q.apart,?_,?_,R.exI,?_⟩,⟨rfl,r.os,r.tape,r.output,r.size,λb d _ _=>blk b d,up,λb j d _ _ y=>p b j d y,?_,λ_ cs h=>.inl ⟨cs,h⟩⟩,?_,?_⟩
 ·intro id cs hid;refine(q.obj id cs hid).keep (blk _ (B id cs hid)) λG e S h1 z=>?_
  exact⟨z.len,z.plain,z.typedUp rfl up.rho up.num rfl,z.cold,z.one,λj c cv M t=>(z.rel j c cv M t).up up,λj c cv M t=>A _ _ _ (z.own j c cv M t),z.bn⟩
 ·intro id cs hid j y;exact q.notI id cs hid j (p _ j (B id cs hid) y)
 ·intro id cs hid;have:=B id cs hid;simp[a,this,q.notO id cs hid]
 ·intro b o d;simp only[a] at d;split at d;·rename_i m;exact Ax m r.size
  ·split at d;·rename_i F;exact R.oLt b _ F
   ·simp at d
 ·intro b d _ hO;simp[a,d,hO]
 ·cases X with
  |ul _ _ ad cap hm=>exact .ul _ _ ad cap hm
 ·have no:∀b,g₁.O b=some .res->a.O b=some .res:=by
   intro b d;have:¬b<w.heap.size:=by intro m;rw[E _ m] at d;simp at d
   simp[a,this,d]
  rcases Q with Q|⟨b,cap,G,e,S,m0,m1,m2,m3,m4,m5,m6,m7,m8,m9⟩
  ·exact .inl Q
  ·exact .inr ⟨b,cap,G,e,S,m0,m1,m2,m3,no _ m4,m5,m6,λhk=>(m7 hk).trans r.beta,m8,m9⟩
def V.flatU:V->Bool
 | .ul _ _=>true
 |v=>v.flat
theorem aI.frameR{f:FuncId}{vs:List V}{v:V}(h:aI P f vs v)(a:vs.all V.flat=true)(c:v.flatU=true)(hp:List ah):eC P f vs hp v hp:=by
 by_cases b:∃k xs,v=.ul k xs;·obtain⟨k,xs,rfl⟩:=b;exact h.frameU a hp
 ·refine h.frame a ?_ hp;cases v<;>first|exact c|exact absurd ⟨_,_,rfl⟩ b
end
def V.flatO:V->Bool
 | .bn _ _=>true
 | .ul _ _=>true
 |v=>v.flat1
section
variable{I:Nat->Nat->Prop}{ρ ρ':Nat->Nat}{N N':Nat}{w:World}{P:Program}
theorem VRel.flatO{v:V}{cv:Value}(h:VRel I ρ N w v cv)(m:v.flatO=true):VRel I ρ' N' w v cv:=by
 cases h with
 |bn E n p=>exact .bn E n p
 |ul k xs e cap g=>exact .ul k xs e cap g
 |bool b=>exact .bool b
 |int k n h=>exact .int k n h
 |str l s a h=>exact .str l s a h
 |sln k o=>exact .sln k o
 |sle k o e r=>exact .sle k o e r
 |sl k o xs b d j cap a t g i f x u q=>exact(VRel.sl k o xs b d j cap a t g i f x u q).flat1 rfl
 |nilp=>exact .nilp
 |nilif=>exact .nilif
 |fn f cs vs a q=>
  cases cs with
  |nil=>exact .fn f [] vs a (by simp)
  |cons c cs=>simp[V.flatO,V.flat1] at m
 |_=>simp[V.flatO,V.flat1] at m
theorem wW{cs:List V}(h:cs.all V.flatO=true):b7 cs=false:=by
 unfold b7;split;·simp[V.flatO,V.flat1] at h
 ·simp[V.flatO,V.flat1] at h
 ·simp[V.flatO,V.flat1] at h
 ·rfl
theorem ai.reloc{g j:Gh}{w:World}{i c:Occ}{v:V}{cv:Value}(h:ai g w i v cv)(d:j.β=g.β)(m:j.I=g.I)
  (p:∀b,g.O b=some i->j.O b=some c):ai j w c v cv:=by
 unfold ai at h ⊢;split;·rename_i k xs a L cap;obtain⟨u,⟨f,C,o,G,x,H⟩,t⟩:=h;exact⟨p _ u,⟨f,C,o,G,x,λr=>(H r).trans d.symm⟩,by rw[m];exact t⟩
 ·obtain⟨u,F,t⟩:=h;exact⟨p _ u,F,by rw[m];exact t⟩
 ·rcases h with h|⟨b,cap,q,e,o,z,Q,B,D,J,y,E,A,R,M⟩
  ·exact .inl h
  ·exact .inr ⟨b,cap,q,e,o,z,Q,B,D,p _ J,y,E,λr=>(A r).trans d.symm,by rw[m];exact R,by rw[m];exact M⟩
 ·trivial
def V.ren(σ:Nat->Nat):V->V
 | .ptr i o=>.ptr (σ i) o
 |v=>v
def V.flatP(n:Nat):V->Bool
 | .ptr i 0=>decide (i<n)
 |v=>v.flat
theorem V.ren_flat{σ:Nat->Nat}{v:V}(h:v.flat=true):v.ren σ=v:=by cases v<;>simp[V.flat,V.flat2,V.flat1] at h<;>rfl
theorem V.ren_bare{σ:Nat->Nat}{v:V}:(v.ren σ).bare=v.bare:=by cases v<;>rfl
def aP(P:Program)(f:FuncId)(avs:List V)(css:List (List V))(v:V)(css':List (List V)):Prop:=
 css'.length=css.length∧∃rest,eC P f avs (css.map some) v (css'.map some++rest)
theorem aP.frame{f:FuncId}{avs:List V}{css css':List (List V)}{v:V}(h:aP P f avs css v css')(ha:avs.all (V.flatP css.length)=true)(hv:v.flat=true)
  (hc:css.all (λcs=>cs.all V.flatO)=true) (c3:css'.all (λcs=>cs.all V.flatO)=true) {hp hp':List ah} {σ:Nat->Nat}
  (b3:∀k k',k<css.length->k'<css.length->σ k=σ k'->k=k')
  (h1:∀(k:Nat) cs,css[k]? =some cs->hp[σ k]? =some (some cs)) (h2:hp'.length=hp.length)
  (h3:∀(k:Nat) cs,css'[k]? =some cs->hp'[σ k]? =some (some cs))
  (h4:∀id,(∀k,k<css.length->σ k≠id)->hp'[id]? =hp[id]?):eC P f (avs.map (V.ren σ)) hp v hp':=by
 obtain⟨dk,rest,h⟩:=h;intro w g X c0 t ci a5 cc;have b5:∀(k:Nat) cs,css[k]? =some cs->cs.all V.flatO=true:=λk cs a=>Ai.1 hc cs (Af a)
 have a0:∀(k:Nat) cs,css'[k]? =some cs->cs.all V.flatO=true:=λk cs a=>Ai.1 c3 cs (Af a)
 have G:∀(k:Nat) cs,css[k]? =some cs->k<css.length:=λk cs a=>(Ad.1 a).1
 have y:∀(k:Nat) cs,(css.map some)[k]? =some (some cs)->css[k]? =some cs:=by
  intro k cs a;rw[Au] at a;cases L:css[k]? with
  |none=>rw[L] at a;simp at a
  |some x=>rw[L] at a;simpa using a
 have sub:∀k,k<css.length->∃cs,css[k]? =some cs∧hp[σ k]? =some (some cs):=λk a=>⟨css[k],Ac a,h1 k _ (Ac a)⟩
 let inv:Nat->Option Nat:=λi=>(A2 css.length).find? λk=>σ k==i
 have H:∀i k,inv i=some k->k<css.length∧σ k=i:=by intro i k a;have m1:=Dw a;have m2:=List.find?_some a;exact⟨Bd.1 m1,by simpa using m2⟩
 have al:∀k,k<css.length->inv (σ k)=some k:=by
  intro k a;cases L:inv (σ k) with
  |none=>have:=List.find?_eq_none.1 L k (Bd.2 a);simp at this
  |some k'=>obtain⟨m1,m2⟩:=H _ _ L;rw[b3 k' k m1 a m2]
 let g₀:Gh:={I:=g.I,ρ:=λk=>g.ρ (σ k),O:=λb=>match g.O b with|some (.cell i j)=>(inv i).map λk=>.cell k j|_=>none,β:=g.β}
 have gO:∀b o,g₀.O b=some o->∃k j,k<css.length∧o=.cell k j∧g.O b=some (.cell (σ k) j):=by
  intro b o q;simp only[g₀] at q;split at q
  ·rename_i i j hg;cases L:inv i with
   |none=>rw[L] at q;simp at q
   |some k=>rw[L] at q;obtain⟨m1,m2⟩:=H _ _ L;exact⟨k,j,m1,by simpa using q.symm,by rw[m2];exact hg⟩
  ·simp at q
 have gN:∀b,(∀k j,k<css.length->g.O b≠some (.cell (σ k) j))->g₀.O b=none:=by
  intro b q;cases L:g₀.O b with
  |none=>rfl
  |some o=>obtain⟨k,j,a,_,m⟩:=gO b o L;exact absurd m (q k j a)
 have gC:∀b k j,k<css.length->g.O b=some (.cell (σ k) j)->g₀.O b=some (.cell k j):=by intro b k j a q;simp[g₀,q,al k a]
 have dp:∀k,k<css.length->g₀.O (g.ρ (σ k))=none:=by intro k a;obtain⟨cs,_,hid⟩:=sub k a;exact gN _ (by intro k' j _ m;rw[t.notO _ cs hid] at m;cases m)
 have h0:HR g₀ (css.map some) w:=by
  refine⟨?_,?_,?_,?_,t.exI,?_⟩
  ·intro k c a;have a:=y k c a;refine(t.obj _ c (h1 k c a)).keep rfl λem e fz a1 C=>?_
   have hr:=wW (b5 k c a);refine⟨C.len,C.plain,by rw[fT hr];simp,C.cold,C.one,?_,?_,C.bn⟩;·intro j M cv m B;exact(C.rel j M cv m B).flatO (Ai.1 (b5 k c a) M (Af (by rw[c7 hr] at m;exact m)))
   ·intro j M cv m B;exact(C.own j M cv m B).reloc rfl rfl λb q=>gC b k j (G k c a) q
  ·intro k k' c M a u A;have a:=y k c a;have u:=y k' M u;exact t.apart _ _ _ _ (h1 k c a) (h1 k' M u) λe=>A (b3 k k' (G k c a) (G k' M u) e)
  ·intro k c a;exact t.notI _ c (h1 k c (y k c a))
  ·intro k c a;exact dp k (G k c (y k c a))
  ·intro b o q;obtain⟨k,j,_,_,m⟩:=gO b o q;exact t.oLt b _ m
 have a4:∀(i:Nat) x cv,avs[i]? =some x->X[i]? =some cv->VRel g₀.I g₀.ρ (css.map some).length w x cv:=by
  intro i x cv hx B;have hr:=cc i (x.ren σ) cv (by rw[Au,hx];rfl) B;have Y:=Ai.1 ha x (Af hx);unfold V.flatP at Y;split at Y
  ·rename_i k;have a:k<css.length:=by simpa using Y
   simp only[V.ren] at hr;cases hr with
   |ptr _ _ _=>exact .ptr k 0 (by simpa using a)
  ·rw[V.ren_flat Y] at hr;exact hr.flat Y
 refine(h w g₀ X (c0.sub rfl (λh=>h) (λh=>by simp[g₀,h])) h0 (by rw[<-ci,Bm]) (by intro x hx;have:=a5 (x.ren σ) (CF hx);rw[V.ren_bare] at this;exact this) a4).mono ?_;rintro ex w' ⟨cv,g₁,rfl,q1,Q,q3,q4⟩;have r0:∀k,k<css.length->g₁.ρ k=g.ρ (σ k):=λk a=>Q.up.rho k (by simpa using a)
 have W:∀b,(∀k,k<css.length->g.ρ (σ k)≠b)->∀(k:Nat) cs,(css.map some)[k]? =some (some cs)->g₀.ρ k≠b:=λb q k cs a=>q k (G k cs (y k cs a))
 have blk:∀b,b<w.heap.size->(∀k,k<css.length->g.ρ (σ k)≠b)->g₀.O b=none->w'.heap[b]? =w.heap[b]?:=λb q A R=>Q.block b q (W b A) R
 let z:Gh:={I:=g₁.I,ρ:=g.ρ,O:=λb=>match g₁.O b with
  |some .res=>some .res
  |some (.cell k j)=>cond (BP k css.length) (some (.cell (σ k) j)) none
  |some (.slot _)=>none
  |none=>if b<w.heap.size∧g₀.O b=none then g.O b else none,β:=g.β}
 have up:Up g.I g.ρ hp.length w z.I z.ρ hp'.length w':=⟨Q.up.mono,Q.up.cell,λ_ _=>rfl,by rw[h2];exact Aj _⟩
 have bl:∀(i:Nat) c,hp[i]? =some (some c)->g.ρ i<w.heap.size:=by intro i c r;obtain⟨ob,h1⟩:=(t.obj i c r).block;exact(AK.1 h1).1
 have bY:∀(k:Nat) cs,css'[k]? =some cs->(css'.map some++rest)[k]? =some (some cs):=by intro k cs a;rw[Ap (by simpa using (Ad.1 a).1),Au,a];rfl
 have key:∀(i:Nat) c,hp'[i]? =some (some c)->(∃k d,k<css.length∧i=σ k∧css'[k]? =some c∧hp[i]? =some (some d))∨((∀k,k<css.length->σ k≠i)∧hp[i]? =some (some c)):=by
  intro i c r;by_cases a:∃k,k<css.length∧σ k=i
  ·obtain⟨k,a,rfl⟩:=a;obtain⟨d,_,p⟩:=sub k a;have u:k<css'.length:=by omega
   have:=h3 k _ (Ac u);rw[this] at r;exact .inl ⟨k,d,a,rfl,by rw[Ac u];simpa using r,p⟩
  ·have hn:∀k,k<css.length->σ k≠i:=λk u e=>a ⟨k,u,e⟩
   exact .inr ⟨hn,(h4 i hn).symm.trans r⟩
 have F:∀(i:Nat) c,hp'[i]? =some (some c)->∃d,hp[i]? =some (some d):=by
  intro i c r;rcases key i c r with⟨_,d,_,_,_,h⟩|⟨_,h⟩
  ·exact⟨d,h⟩
  ·exact⟨c,h⟩
 have D:∀(i:Nat) c,(∀k,k<css.length->σ k≠i)->hp[i]? =some (some c)->∀k,k<css.length->g.ρ (σ k)≠g.ρ i:=by intro i c hn r k a;obtain⟨d,_,p⟩:=sub k a;exact t.apart _ _ _ _ p r (hn k a)
 have J:∀b,b<w.heap.size->(∀k,k<css.length->g.ρ (σ k)≠b)->g₀.O b=none->z.O b=g.O b:=by intro b q A R;have:=Q.oSame b q (W b A) R;simp only[z,this];rw[if_pos ⟨q,R⟩]
 have ar:∀b o,g.O b=some o->∀k,k<css.length->g.ρ (σ k)≠b:=by intro b o q k a e;obtain⟨d,_,p⟩:=sub k a;rw[<-e,t.notO _ d p] at q;cases q
 refine⟨cv,z,rfl,⟨?_,?_,?_,?_,q1.exI,?_⟩,⟨rfl,Q.os,Q.tape,Q.output,Q.size,?_,up,?_,?_,?_⟩,?_,?_⟩
 ·intro i c r;rcases key i c r with⟨k,d,a,rfl,u,hid⟩|⟨A,r⟩
  ·refine(q1.obj k c (bY k c u)).keep (by rw[r0 k a]) λb2 e' fz a1 C=>?_
   rw[r0 k a] at a1;have hr:=wW (a0 k c u);refine⟨C.len,C.plain,by rw[fT hr];simp,C.cold,C.one,?_,?_,?_⟩;·intro j M cv m B;exact(C.rel j M cv m B).flatO (Ai.1 (a0 k c u) M (Af (by rw[c7 hr] at m;exact m)))
   ·intro j M cv m B;refine(C.own j M cv m B).reloc Q.beta.symm rfl λb q=>?_
    have c4:BP k css.length=true:=by rw[B0];exact a
    simp[z,q,c4]
   ·intro j E n m;have:=C.bn j E n m;rw[r0 k a] at this;exact this
  ·have Z:g₀.O (g.ρ i)=none:=gN _ (by intro k j _ m;rw[t.notO i c r] at m;cases m);refine(t.obj i c r).keep (blk _ (bl i c r) (D i c A r) Z) λb2 e' fz a1 C=>?_
   refine⟨C.len,C.plain,C.typedUp rfl (λ_ _=>rfl) up.num rfl,C.cold,C.one,λj c cv m B=>(C.rel j c cv m B).up up,?_,C.bn⟩;intro j M cv m B;refine bd (C.own j M cv m B) rfl (λb j r=>⟨up.mono b j r,up.cell b j r⟩) ?_;intro b q;have a9:=t.oLt b _ q;have R:g₀.O b=none:=gN _ (by intro k j' a b1;rw[q] at b1;cases b1;exact A k a rfl);have S:=ar b _ q;exact⟨(J b a9 S R).trans q,blk b a9 S R,λj m=>Q.iSame b j a9 (W b S) R m⟩
 ·intro i i' c M r c1 A;obtain⟨d,m1⟩:=F i c r;obtain⟨ds,m2⟩:=F i' M c1;exact t.apart _ _ _ _ m1 m2 A
 ·intro i c r j m;rcases key i c r with⟨k,d,a,rfl,u,hid⟩|⟨A,r⟩
  ·have:=q1.notI k c (bY k c u) j;rw[r0 k a] at this;exact this m
  ·have Z:g₀.O (g.ρ i)=none:=gN _ (by intro k j _ m;rw[t.notO i c r] at m;cases m);exact t.notI i c r j (Q.iSame _ j (bl i c r) (W _ (D i c A r)) Z m)
 ·intro i c r;rcases key i c r with⟨k,d,a,rfl,u,hid⟩|⟨A,r⟩
  ·have:=q1.notO k c (bY k c u);rw[r0 k a] at this;simp only[z,this];split;·exact t.notO _ d hid
   ·rfl
  ·have Z:g₀.O (g.ρ i)=none:=gN _ (by intro k j _ m;rw[t.notO i c r] at m;cases m);exact(J _ (bl i c r) (D i c A r) Z).trans (t.notO i c r)
 ·intro b o q;simp only[z] at q;split at q;·rename_i L;exact q1.oLt b _ L
  ·rename_i L;exact q1.oLt b _ L
  ·simp at q
  ·split at q;·rename_i L;exact Ax L.1 Q.size
   ·simp at q
 ·intro b q ho R;exact blk b q (λk a e=>by obtain⟨d,_,p⟩:=sub k a;exact ho _ d p e) (gN _ (by intro k j _ m;rw[R] at m;cases m))
 ·intro b j q ho R r;exact Q.iSame b j q (W b λk a e=>by obtain⟨d,_,p⟩:=sub k a;exact ho _ d p e) (gN _ (by intro k j _ m;rw[R] at m;cases m)) r
 ·intro b q ho R;exact(J b q (λk a e=>by obtain⟨d,_,p⟩:=sub k a;exact ho _ d p e) (gN _ (by intro k j _ m;rw[R] at m;cases m))).trans R
 ·intro i c r;exact .inl (F i c r)
 ·exact q3.flat hv
 ·exact q4.reloc Q.beta.symm rfl λb q=>by simp[z,q]
def aiB(P:Program)(f:FuncId)(vs cs:List V)(v:V)(a:List V):Prop:=∃rest,eC P f (.ptr 0 0::vs) [some cs] v (some a::rest)
theorem V.flatP_flat{n:Nat}{v:V}(h:v.flat=true):v.flatP n=true:=by
 unfold V.flatP;split;·simp[V.flat,V.flat2,V.flat1] at h
 ·exact h
theorem acg{σ:Nat->Nat}:∀{vs:List V},vs.all V.flat=true->vs.map (V.ren σ)=vs
 | [],_=>rfl
 |v::vs,h=>by simp only[CB,Ab] at h;rw[Bf,V.ren_flat h.1,acg h.2]
theorem aiB.frame{f:FuncId}{vs cs a:List V}{v:V}(h:aiB P f vs cs v a)(j:vs.all V.flat=true)(m:v.flat=true)(p:cs.all V.flatO=true)(g:a.all V.flatO=true)
  {hp:List ah} {id:Nat} (hid:hp[id]? =some (some cs)):eC P f (.ptr id 0::vs) hp v (hp.set id (some a)):=by
 obtain⟨rest,h⟩:=h;have d:id<hp.length:=(Ad.1 hid).1
 have:=aP.frame (P:=P) (f:=f) (avs:=.ptr 0 0::vs) (css:=[cs]) (css':=[a]) (v:=v) ⟨rfl,rest,h⟩ (hp:=hp) (hp':=hp.set id (some a)) (σ:=λ_=>id)
  (by simp only[CB,Ab];exact⟨rfl,Ai.2 λx q=>V.flatP_flat (Ai.1 j x q)⟩) m (by simpa using p) (by simpa using g)
  (by intro k k' b e _;simp at b e;omega) (by intro k c b;cases k<;>simp at b;rw[<-b];exact hid) (by simp)
  (by intro k c b;cases k<;>simp at b;rw[<-b];simp[d])
  (by intro i o;rw[AY (o 0 (by simp))])
 rw[Bf,acg j] at this;exact this
theorem cd.mono{Γ:am}{imp a:List Nat}(h:cd Γ imp)(g:imp.all (λx=>a.contains x)=true)(i:a.all (λx=>BP x 2000000||imp.contains x)=true):cd Γ a:=by
 refine⟨?_,λf vs hp c v hp' b=>h.loc f vs hp c v hp' ?_⟩
 rotate_left
 ·have:=Ai.1 i (f+2000000) (by simpa using b);simp only[Be,B0] at this;rcases this with d|d;·omega
  ·exact d
 intro f vs hp b;refine h.pure f vs hp ?_;cases e:imp.contains f with
 |false=>rfl
 |true=>have:=Ai.1 g f (by simpa using e);rw[this] at b;simp at b
def l8:Nat->List V->List V
 |_,[]=>[]
 |k,.ptr _ 0::vs=>.ptr k 0::l8 (k+1) vs
 |k,v::vs=>v::l8 k vs
def fK(hp:List ah):List Nat->Option (List (List V))
 | []=>some []
 |i::is=>match hp.getD i none with
  |some cs=>match fK hp is with
   |some css=>some (cs::css)
   |none=>none
  |none=>none
def iY:List ah->List Nat->List (List V)->List ah
 |hp,i::is,c::cs=>iY (hp.set i (some c)) is cs
 |hp,_,_=>hp
def og:List Nat->Bool
 | []=>true
 |i::is=> !(is.any (Av i))&&og is
abbrev rC:=Nat->List V->List (List V)->Option (Bool×V×List (List V))
def mC(G:rC)(Γ:am):am:=λf vs hp=>
 match fK hp (dh vs) with
 |some css=>match G f (l8 0 vs) css with
  |some (c,v,css')=>cond (og (dh vs)&&Av css'.length css.length&&(l8 0 vs).all (V.flatP css.length)&&v.flat&&css.all (λcs=>cs.all V.flatO)&&css'.all (λcs=>cs.all V.flatO))
    (some (c,v,iY hp (dh vs) css')) none
  |none=>Γ f vs hp
 |none=>Γ f vs hp
theorem rD:∀{l:List Nat},og l=true->l.Nodup
 | [],_=>Cy
 |i::is,h=>by simp only[og,Ab,Bk,List.any_eq_false] at h;refine List.nodup_cons.2 ⟨λa=>?_,rD h.2⟩;exact h.1 i a (by simp)
theorem sO{hp:List ah}:∀{is:List Nat}{css:List (List V)},fK hp is=some css->css.length=is.length∧∀(k:Nat) cs,css[k]? =some cs->hp[is.getD k 0]? =some (some cs)
 | [],css,h=>by simp only[fK,Ae] at h;subst h;simp
 |i::is,css,h=>by
  simp only[fK] at h;split at h
  ·rename_i cs a;split at h
   ·rename_i d j;simp only[Ae] at h;subst h;obtain⟨f,g⟩:=sO j;refine⟨by simp[f],λk c b=>?_⟩;cases k with
    |zero=>
     simp only[AZ,Ae] at b;subst b;rw[Ah] at a;simp only[Cb];cases e:hp[i]? with
     |none=>rw[e] at a;simp at a
     |some x=>rw[e] at a;simpa using a
    |succ k=>simp only[AR] at b;simpa using g k c b
   ·simp at h
  ·simp at h
theorem qA:∀{is:List Nat}{hp:List ah}{css:List (List V)},(iY hp is css).length=hp.length
 | [],hp,css=>by cases css<;>rfl
 |i::is,hp,[]=>rfl
 |i::is,hp,c::cs=>by simp[iY,qA]
theorem re:∀{is:List Nat}{hp:List ah}{css:List (List V)}{id:Nat},id ∉ is->(iY hp is css)[id]? =hp[id]?
 | [],hp,css,id,_=>by cases css<;>rfl
 |i::is,hp,[],id,_=>rfl
 |i::is,hp,c::cs,id,h=>by simp only[AL,not_or] at h;rw[iY,re h.2,AY (λe=>h.1 e.symm)]
theorem wX:∀{is:List Nat}{hp:List ah}{css:List (List V)},is.Nodup->(∀i∈is,i<hp.length)->∀(k:Nat) cs,k<is.length->css[k]? =some cs->(iY hp is css)[is.getD k 0]? =some (some cs)
 | [],_,_,_,_,k,_,b,_=>by simp at b
 |i::is,hp,[],_,_,k,_,_,h=>by simp at h
 |i::is,hp,c::cs,m,e,k,f,b,h=>by
  obtain⟨d,a⟩:=List.nodup_cons.1 m;cases k with
  |zero=>simp only[AZ,Ae] at h;subst h;simp only[Cb,iY];rw[re d];simp[e i AN]
  |succ k=>simp only[AR] at h;simp only[List.getD_cons_succ,iY];exact wX a (λj g=>by simpa using e j (AS _ g)) k f (by simpa using b) h
theorem wY{σ:Nat->Nat}{n:Nat}:∀{vs:List V}{k:Nat},(∀i,i<(dh vs).length->σ (k+i)=(dh vs).getD i 0)->(l8 k vs).all (V.flatP n)=true->(l8 k vs).map (V.ren σ)=vs
 | [],_,_,_=>rfl
 |v::vs,k,a,b=>by
  by_cases c:∃i,v=.ptr i 0;·obtain⟨i,rfl⟩:=c;simp only[l8,Bf,V.ren];simp only[dh] at a;simp only[l8,CB,Ab] at b;have e:=a 0 (by simp);simp only[Cu,Cb] at e;rw[e,wY (λj h=>by have:=a (j+1) (by simp;omega);rw[List.getD_cons_succ] at this;rw[<-this];congr 1;omega) b.2]
  ·have f:l8 k (v::vs)=v::l8 k vs:=by
    cases v<;>try rfl
    rename_i i o;cases o with
    |zero=>exact absurd ⟨i,rfl⟩ c
    |succ o=>rfl
   have g:dh (v::vs)=dh vs:=by
    cases v<;>try rfl
    rename_i i o;cases o with
    |zero=>exact absurd ⟨i,rfl⟩ c
    |succ o=>rfl
   rw[g] at a;rw[f] at b ⊢;simp only[CB,Ab] at b;have d:v.flat=true:=by
    have:=b.1;unfold V.flatP at this;split at this;·rename_i i;exact absurd ⟨i,rfl⟩ c
    ·exact this
   rw[Bf,V.ren_flat d,wY a b.2]
theorem ag8{G:rC}{Γ:am}(x:∀f avs css v css',G f avs css=some (true,v,css')->aP P f avs css v css')(b:bR P Γ):bR P (mC G Γ):=by
 intro f vs hp v hp' h;unfold mC at h;split at h
 ·rename_i css o;split at h
  ·rename_i c E css' F;cases a:(og (dh vs)&&Av css'.length css.length&&(l8 0 vs).all (V.flatP css.length)&&E.flat&&css.all (λcs=>cs.all V.flatO)&&css'.all (λcs=>cs.all V.flatO)) with
   |false=>rw[a] at h;simp at h
   |true=>
    rw[a] at h;simp only[cond_true,Ae,Al] at h;obtain⟨rfl,rfl,rfl⟩:=h;simp only[Ab] at a;obtain⟨⟨⟨⟨⟨u,B⟩,t⟩,L⟩,C⟩,D⟩:=a;obtain⟨H,r⟩:=sO o;have d:=rD u;have J:css'.length=css.length:=by simpa using B
    have:=aP.frame (x f _ css _ css' F) t L C D (hp:=hp) (hp':=iY hp (dh vs) css') (σ:=λk=>(dh vs).getD k 0)
     (by intro k k' g m e;rw[H] at g m;simp only[Ah,Ac g,Ac m,A5] at e;exact(List.getElem_inj d).1 e)
     r qA
     (by
      intro k cs g;have z:k<css'.length:=(Ad.1 g).1;refine wX d ?_ k cs (by omega) g;intro i y;obtain⟨j,p,rfl⟩:=AP.1 y;have q:j<css.length:=by omega
      have:=r j _ (Ac q);rw[Ah,Ac p,A5] at this;exact(Ad.1 this).1)
     (by
      intro id M;refine re λA=>?_
      obtain⟨j,p,rfl⟩:=AP.1 A;exact M j (by omega) (by rw[Ah,Ac p,A5]))
    rw[wY (n:=css.length) (λi _=>by rw[AW]) t] at this;exact this
  ·exact b _ _ _ _ _ h
 ·exact b _ _ _ _ _ h
theorem rE{hp a:List ah}:∀{is:List Nat},(∀i∈is,a[i]? =hp[i]?)->fK a is=fK hp is
 | [],_=>rfl
 |i::is,h=>by simp only[fK];rw[sq (h i (AN ..)),rE λj b=>h j (AS _ b)]
theorem oh:∀(is:List Nat)(hp:List ah)(css:List (List V)),iY hp is css=wN hp (is.zip (css.map some))
 | [],hp,css=>by cases css<;>rfl
 |i::is,hp,[]=>rfl
 |i::is,hp,c::css=>by simp only[iY,Bf,List.zip_cons_cons];rw[oh is];rfl
theorem aeI{G:rC}{Γ:am}{imp:List Nat}(C:∀f avs css,imp.contains f=false->G f avs css=none)(m:cd Γ imp):cd (mC G Γ) imp:=by
 refine⟨?_,?_⟩
 ·intro f vs hp o;have e:∀hp,mC G Γ f vs hp=Γ f vs hp:=by
   intro hp;unfold mC;split;·rw[C f _ _ o]
   ·rfl
  rw[e,e];exact m.pure f vs hp o
 ·intro f vs hp c v hp' o h;have same:∀d:List ah,(∀i∈te vs,d[i]? =hp[i]?)->fK d (dh vs)=fK hp (dh vs):=λd j=>rE λi B=>j i (ud (ra B))
  unfold mC at h;cases g:fK hp (dh vs) with
  |none=>rw[g] at h;obtain⟨q,z,u,y⟩:=m.loc f _ _ _ _ _ o h;refine⟨q,z,u,λd t j=>?_⟩;simp only[mC,same d j,g];exact y d t j
  |some css=>
   rw[g] at h;simp only at h;cases r:G f (l8 0 vs) css with
   |none=>rw[r] at h;obtain⟨q,z,u,y⟩:=m.loc f _ _ _ _ _ o h;refine⟨q,z,u,λd t j=>?_⟩;simp only[mC,same d j,g,r];exact y d t j
   |some x=>
    obtain⟨D,A,css'⟩:=x;rw[r] at h;simp only at h;cases k:(og (dh vs)&&Av css'.length css.length&&(l8 0 vs).all (V.flatP css.length)&&A.flat&&css.all (λcs=>cs.all V.flatO)&&css'.all (λcs=>cs.all V.flatO)) with
    |false=>rw[k] at h;simp at h
    |true=>
     rw[k] at h;simp only[cond_true,Ae,Al] at h;obtain⟨rfl,rfl,rfl⟩:=h;refine⟨(dh vs).zip (css'.map some),?_,oh _ _ _,λd t j=>?_⟩;·intro p hp;obtain⟨a,b⟩:=p;exact afS (List.of_mem_zip hp).1
     ·simp only[mC,same d j,g,r,k,cond_true];rw[oh]
end
def V.lend1(hp:List ah):V->V
 | .sw _ id n=>match hp.getD id none with
   |some [.rw k xs]=>.sl k (.may false) xs
   |_=>.undef
 |v=>v
def V.lend(hp:List ah):V->V
 | .agg cs=>.agg (cs.map (V.lend1 hp))
 |v=>v.lend1 hp
def V.lendT(hp:List ah):V->Bool
 | .sw _ id n=>match hp.getD id none with
   |some [.rw _ xs]=>Av n xs.length
   |_=>false
 |_=>true
def V.isSw:V->Bool
 | .sw _ _ _=>true
 |_=>false
def oi(hp:List ah):List V->Bool->Bool
 | [],b=>b
 |v::r,b=>cond v.isSw (v.lendT hp&&oi hp r b) (oi hp r b)
def p6(hp:List ah):List V->Bool
 | []=>true
 |v::r=>oi hp v.cellsA (p6 hp r)
def V.scal1:V->Bool
 | .bool _| .int _ _| .str _| .nilif=>true
 |_=>false
def V.scal:V->Bool
 | .tup cs=>cs.all V.scal1
 |v=>v.scal1
def oj(a:List Nat)(G:Nat->List V->Option (Bool×V))(Γ:am):am:=λf vs hp=>
 cond (a.elem f) (match Γ f vs hp with
  |some r=>some r
  |none=>match G f (vs.map (V.lend hp)) with
   |some (c,v)=>cond (v.scal&&(vs.map (V.lend hp)).all V.flat) (some (c&&p6 hp vs,v,hp)) none
   |none=>none) (Γ f vs hp)
section
variable{I I':Nat->Nat->Prop}{ρ ρ':Nat->Nat}{N N':Nat}{w w':World}{P:Program}
theorem VRel.scal1{v:V}{cv:Value}(h:VRel I ρ N w v cv)(a:v.scal1=true):VRel I' ρ' N' w' v cv:=by
 cases h<;>simp[V.scal1] at a;·exact .bool _
 ·exact .int _ _ (by assumption)
 ·exact .str _ _ (by assumption) (by assumption)
 ·exact .nilif
theorem VRel.scal{v:V}{cv:Value}(h:VRel I ρ N w v cv)(a:v.scal=true):VRel I' ρ' N' w' v cv:=by
 by_cases e:∃cs,v=.tup cs
 ·obtain⟨cs,rfl⟩:=e;cases h with
  |tup cs vs g f=>simp only[V.scal,Ai] at a;exact .tup cs vs g λi c cv d b=>(f i c cv d b).scal1 (a c (Af d))
 ·refine h.scal1 ?_;cases v<;>first|exact a|exact absurd ⟨_,rfl⟩ e
theorem ahS{v:V}(b:v.scal=true)(g:Gh)(a:Occ)(cv:Value):ai g w a v cv:=by cases v<;>simp[V.scal,V.scal1] at b<;>simp[ai]
theorem ag9{hp:List ah}{v:V}(h:(v.lend1 hp).flat1=true)(a:v.one=true):(v.lend1 hp).one=true:=by generalize v.lend1 hp=u at h;cases u<;>simp[V.flat1] at h<;>rfl
theorem aaC{hp:List ah}:∀{cs:List V}{b:Bool},oi hp cs b=true->b=true∧∀c∈cs,c.lendT hp=true
 | [],b,h=>⟨h,by simp⟩
 |v::r,b,h=>by
  simp only[oi] at h;have e:v.lendT hp=true∧oi hp r b=true:=by
   cases d:v.isSw with
   |true=>rw[d] at h;simpa using h
   |false=>rw[d] at h;refine⟨?_,by simpa using h⟩;cases v<;>first|rfl|simp[V.isSw] at d
  obtain⟨f,g⟩:=aaC e.2;exact⟨f,λc a=>by
   rcases AL.1 a with rfl|a;·exact e.1
   ·exact g c a⟩
theorem aaD{hp:List ah}:∀{vs:List V},p6 hp vs=true->∀v∈vs,∀c∈v.cellsA,c.lendT hp=true
 | [],_=>by simp
 |v::r,h=>by
  obtain⟨d,e⟩:=aaC (b:=p6 hp r) h;intro u a;rcases AL.1 a with rfl|a;·exact e
  ·exact aaD d u a
theorem ahT{f:FuncId}{vs:List V}{hp:List ah}{v:V}(h:aI P f (vs.map (V.lend hp)) v)(hT:p6 hp vs=true)(hs:v.scal=true)(hf:(vs.map (V.lend hp)).all V.flat=true):eC P f vs hp v hp:=by
 obtain⟨hp',h⟩:=h;intro w g A a9 p a5 M a3;let J:Nat->Nat->Prop:=λb j=>g.I b j∨∃(id:Nat)(k:EK)(xs:List (Ty k)),hp[id]? =some (some [.rw k xs])∧b=g.ρ id∧j<xs.length*k.sz
 let g₀:Gh:={I:=J,ρ:=g.ρ,O:=λ_=>none,β:=g.β}
 have h0:HR g₀ [] w:=by
  refine⟨by simp,by simp,by simp,by simp,?_,by simp[g₀]⟩;intro b j m;rcases m with m|⟨id,k,xs,hid,rfl,m⟩
  ·exact p.exI b j m
  ·obtain⟨z,e,fz,a1,a2⟩:=(p.obj id _ hid).row rfl;have W:=a2.len;simp only[cellsOf] at W;rw[aR] at W;exact .row a1 (by omega) (λ_ hz=>absurd hz ((a2.typed _ _ rfl).1 j (by omega)))
 have L:∀N,Up g.I g.ρ N w J g.ρ N w:=λN=>⟨λb j m=>.inl m,λ_ _ _=>rfl,λ_ _=>rfl,Aj _⟩
 have E:∀(x:V)(cv:Value),VRel g.I g.ρ hp.length w x cv->x.lendT hp=true->(x.lend1 hp).flat1=true->VRel J g.ρ 0 w (x.lend1 hp) cv:=by
  intro x cv X u a;by_cases d:∃k id n,x=.sw k id n
  ·obtain⟨k0,id,n,rfl⟩:=d;simp only[V.lend1] at a ⊢;simp only[V.lendT] at u;split at a
   ·rename_i k xs hid;have G:hp[id]? =some (some [.rw k xs]):=by
     rw[Ah] at hid;cases t:hp[id]? with
     |none=>rw[t] at hid;simp at hid
     |some y=>rw[t] at hid;simpa using hid
    rw[hid] at u
    ·obtain rfl:=As u;cases X with
     |sw _ _ _ h1 C h3=>
      obtain⟨z,e,fz,a1,a2⟩:=(p.obj id _ G).row rfl;have W:=a2.len;simp only[cellsOf] at W;rw[aR] at W;have R:∀(i:Nat) x (j:Nat),xs[i]? =some x->j<(enc k x).length->i*k.sz+j<xs.length*k.sz:=by intro i x j d m;rw[ba] at m;exact kE (Ad.1 d).1 m
      refine .sl k (.may false) xs (g.ρ id) 0 xs.length _ rfl C h3 (by simp) (λi j=>z.getD (i*k.sz+j) undef) ?_ ?_ ?_;·intro i x j d m;exact .inr ⟨id,k,xs,G,rfl,by rw[AW];exact R i x j d m⟩
      ·intro i x j d m;have:=R i x j d m;rw[AW,aA a1,Am (by omega)];simp[A3,show i*k.sz+j<z.size by omega]
      ·intro i x j v d hv;have m:=(Ad.1 hv).1;have:=R i x j d m;have al:=a2.rel (i*k.sz+j) v (z.getD (i*k.sz+j) undef) (by simp only[cellsOf];exact ng xs i j x v d hv) (by
        rw[Am (by omega)];simp[A3,show i*k.sz+j<z.size by omega])
       exact(ny (ρ':=g.ρ) (N':=0) hv al).up (L 0)
   ·simp[V.flat1] at a
  ·have e:x.lend1 hp=x:=by
    cases x<;>first|rfl|exact absurd ⟨_,_,_,rfl⟩ d
   rw[e] at a ⊢;exact(X.flat1 (N':=0) a).up (L 0)
 have bx:∀(x:V)(cv:Value),VRel g.I g.ρ hp.length w x cv->(∀c∈x.cellsA,c.lendT hp=true)->(x.lend hp).flat=true->VRel J g.ρ 0 w (x.lend hp) cv:=by
  intro x cv X Q a;by_cases d:∃cs,x=.agg cs
  ·obtain⟨cs,rfl⟩:=d;simp only[V.cellsA] at Q;simp only[V.lend] at a ⊢;simp only[V.flat,V.flat2,List.all_map,Ai,Dq] at a;cases X with
   |agg cs us W h1 u hv=>
    refine .agg _ us (by simpa using W) ?_ ?_ ?_;·intro c q;obtain⟨D,ar,rfl⟩:=AA.1 q;exact ag9 (a D ar) (h1 D ar)
    ·intro i c cv q r;rw[Au] at q;cases t:cs[i]? with
     |none=>rw[t] at q;simp at q
     |some D=>
      rw[t] at q;simp only[A9,Ae] at q;subst q;have:=u i D cv t r;unfold V.lend1;split
      ·split;·simp[cH]
       ·simp[cH]
      ·exact this
    ·intro i c cv q r;rw[Au] at q;cases t:cs[i]? with
     |none=>rw[t] at q;simp at q
     |some D=>rw[t] at q;simp only[A9,Ae] at q;subst q;exact E D cv (hv i D cv t r) (Q D (Af t)) (a D (Af t))
  ·have e:x.lend hp=x.lend1 hp:=by
    cases x<;>first|rfl|exact absurd ⟨_,rfl⟩ d
   rw[e] at a ⊢;by_cases Z:∃k id n,x=.sw k id n
   ·refine E x cv X ?_ ?_;·obtain⟨k,id,n,rfl⟩:=Z;exact Q _ (by simp[V.cellsA])
    obtain⟨k,id,n,rfl⟩:=Z;simp only[V.lend1] at a ⊢;split at a;·simp[V.flat1]
    ·simp[V.flat,V.flat2,V.flat1] at a
   ·have e:x.lend1 hp=x:=by
     cases x<;>first|rfl|exact absurd ⟨_,_,_,rfl⟩ Z
    rw[e] at a ⊢;exact(X.flat (ρ':=g.ρ) (N':=0) a).up (L 0)
 have S:∀(i:Nat) x cv,(vs.map (V.lend hp))[i]? =some x->A[i]? =some cv->VRel g₀.I g₀.ρ ([]:List ah).length w x cv:=by
  intro i x cv d r;have H:=Ai.1 hf x (Af d);rw[Au] at d;cases t:vs[i]? with
  |none=>rw[t] at d;simp at d
  |some y=>rw[t] at d;simp only[A9,Ae] at d;subst d;exact bx y cv (a3 i y cv t r) (aaD hT y (Af t)) H
 refine(h w g₀ A (a9.sub rfl (λh=>.inl h) (λ_=>rfl)) h0 (by simpa using a5) (by
  intro x d;have H:=Ai.1 hf x d;cases x<;>first|rfl|(simp[V.flat,V.flat2,V.flat1] at H;done)|skip
  rename_i k o xs;obtain⟨y,Z,e⟩:=AA.1 d;by_cases Y:∃k id n,y=.sw k id n
  ·obtain⟨k',id,n,rfl⟩:=Y;simp only[V.lend,V.lend1] at e;split at e;·simp at e;obtain⟨rfl,rfl, -⟩:=e;rfl
   ·simp at e
  ·have e':y.lend hp=y∨∃cs,y=.agg cs:=by
    cases y<;>first|exact .inl rfl|exact .inr ⟨_,rfl⟩|exact absurd ⟨_,_,_,rfl⟩ Y
   rcases e' with e'|⟨cs,rfl⟩
   ·rw[<-e,e'];exact M y Z
   ·simp[V.lend] at e) S).mono ?_
 rintro ex w' ⟨cv,g₁,rfl,q1,F,q3,q4⟩;have blk:∀b,b<w.heap.size->w'.heap[b]? =w.heap[b]?:=λb u=>F.block b u (by simp) rfl
 have B:∀b j,g.I b j->w'.cell? ⟨b,j,none⟩=w.cell? ⟨b,j,none⟩:=λb j m=>F.up.cell b j (.inl m)
 have up:Up g.I g.ρ hp.length w g.I g.ρ hp.length w':=⟨λ_ _ h=>h,B,λ_ _=>rfl,Aj _⟩
 have bl:∀(id:Nat) cs,hp[id]? =some (some cs)->g.ρ id<w.heap.size:=by intro id cs hid;obtain⟨ob,h1⟩:=(p.obj id cs hid).block;exact(AK.1 h1).1
 refine⟨cv,g,rfl,⟨?_,p.apart,p.notI,p.notO,?_,λb o u=>Ax (p.oLt b o u) F.size⟩,⟨rfl,F.os,F.tape,F.output,F.size,λb u _ _=>blk b u,up,λ_ _ _ _ _ h=>h,λ_ _ _ h=>h,λ_ cs h=>.inl ⟨cs,h⟩⟩,q3.scal hs,ahS hs _ _ _⟩
 ·intro id cs hid;refine(p.obj id cs hid).keep (blk _ (bl id cs hid)) λz e fz h1 C=>?_
  refine⟨C.len,C.plain,C.typed,C.cold,C.one,λj c cv q r=>(C.rel j c cv q r).up up,λj c cv q r=>?_,C.bn⟩;exact bd (C.own j c cv q r) rfl (λb j hi=>⟨hi,B b j hi⟩) λb u=>⟨u,blk b (p.oLt b _ u),λj m=>m⟩
 ·intro b j m;exact q1.exI b j (F.up.mono b j (.inl m))
theorem ahU{d:List Nat}{G:Nat->List V->Option (Bool×V)}{Γ:am}(o:∀f vs v,G f vs=some (true,v)->aI P f vs v)(b:bR P Γ):bR P (oj d G Γ):=by
 intro f vs hp v hp' h;unfold oj at h;cases i:d.elem f with
 |false=>rw[i] at h;exact b _ _ _ _ _ h
 |true=>
  rw[i] at h;simp only[cond_true] at h;split at h;·rename_i r g;rw[Ar h] at g;exact b _ _ _ _ _ g
  ·split at h
   ·rename_i c j k;cases a:(j.scal&&(vs.map (V.lend hp)).all V.flat) with
    |false=>rw[a] at h;simp at h
    |true=>rw[a] at h;simp only[cond_true,Ae,Al] at h;obtain⟨e,rfl,rfl⟩:=h;simp only[Ab] at a e;obtain⟨rfl,m⟩:=e;exact ahT (o f _ _ k) m a.1 a.2
   ·simp at h
theorem uq{hp a:List ah}{v:V}(h:∀i∈v.id1,a[i]? =hp[i]?):v.lend1 a=v.lend1 hp∧v.lendT a=v.lendT hp:=by
 cases v with
 |sw k id n=>have e:=sq (h id (by simp[V.id1]));simp only[V.lend1,V.lendT,e,and_self]
 |_=>exact⟨rfl,rfl⟩
theorem aha{hp a:List ah}{v:V}(h:∀i∈v.cellsA.flatMap V.id1,a[i]? =hp[i]?):v.lend a=v.lend hp:=by
 cases v with
 |agg cs=>
  simp only[V.lend,V.agg.injEq];refine AV λc d=>(uq λi b=>h i ?_).1
  simp only[V.cellsA,AC];exact⟨c,d,b⟩
 |_=>exact(uq λi b=>h i (by simpa [V.cellsA] using b)).1
theorem zh{hp a:List ah}:∀{cs:List V}{b c:Bool},(∀i∈cs.flatMap V.id1,a[i]? =hp[i]?)->c=b->oi a cs c=oi hp cs b
 | [],b,c,_,e=>e
 |v::r,b,c,h,e=>by simp only[oi];rw[(uq (v:=v) λi d=>h i (by simp[d])).2,zh (cs:=r) (λi d=>h i (by simp only[BY,Ay];exact .inr d)) e]
theorem zi{hp a:List ah}:∀{vs:List V},(∀i∈mz vs,a[i]? =hp[i]?)->p6 a vs=p6 hp vs
 | [],_=>rfl
 |v::r,h=>by simp only[p6];exact zh (λi b=>h i (by simp only[mz,BY,Ay];exact .inl b)) (zi λi b=>h i (by simp only[mz,BY,Ay] at b ⊢;exact .inr b))
theorem af4{m:List Nat}{G:Nat->List V->Option (Bool×V)}{Γ:am}{imp d:List Nat}(y:cd Γ imp)(C:(m++imp).all (λx=>d.contains x)=true)
  (D:d.all (λx=>BP x 2000000||imp.contains x)=true):cd (oj m G Γ) d:=by
 simp only[List.all_append,Ab] at C;refine⟨?_,?_⟩
 ·intro f vs hp j;have t:m.elem f=false:=by
   cases J:m.elem f with
   |false=>rfl
   |true=>have:=Ai.1 C.1 f (by simpa using J);rw[this] at j;simp at j
  have e:∀hp,oj m G Γ f vs hp=Γ f vs hp:=by intro hp;unfold oj;rw[t];rfl
  rw[e,e];exact(y.mono C.2 D).pure f vs hp j
 ·intro f vs hp c v hp' j h;have g:=(y.mono C.2 D).loc f vs;cases t:m.elem f with
  |false=>
   have e:∀hp,oj m G Γ f vs hp=Γ f vs hp:=by intro hp;unfold oj;rw[t];rfl
   rw[e] at h;obtain⟨q,A,B,u⟩:=g _ _ _ _ j h;exact⟨q,A,B,λa b k=>by rw[e];exact u a b k⟩
  |true=>
   unfold oj at h;rw[t] at h;simp only[cond_true] at h;cases z:Γ f vs hp with
   |some r=>rw[z] at h;simp only[Ae] at h;subst h;obtain⟨q,A,B,u⟩:=g _ _ _ _ j z;refine⟨q,A,B,λa b k=>?_⟩;unfold oj;rw[t,u a b k];rfl
   |none=>
    rw[z] at h;simp only at h;split at h
    ·rename_i R M H;cases o:(M.scal&&(vs.map (V.lend hp)).all V.flat) with
     |false=>rw[o] at h;simp at h
     |true=>
      rw[o] at h;simp only[cond_true,Ae,Al] at h;obtain⟨rfl,rfl,rfl⟩:=h;refine⟨[],by simp,rfl,λa b k=>?_⟩;have Q:Γ f vs a=none:=by
       cases O:Γ f vs a with
       |none=>rfl
       |some r=>obtain⟨S,W,E⟩:=r;obtain⟨q,A,B,u⟩:=g _ _ _ _ j O;have:=u hp b.symm (λi p=>(k i p).symm);rw[this] at z;cases z
      have F:vs.map (V.lend a)=vs.map (V.lend hp):=AV λv L=>aha λi p=>k i (ud (by simp only[mz,AC] at p ⊢;exact⟨v,L,p⟩))
      unfold oj;rw[t,Q];simp only[cond_true,F,H,o,zi λi p=>k i (ud p)];rfl
    ·simp at h
end
section
variable{I I':Nat->Nat->Prop}{ρ ρ':Nat->Nat}{N N':Nat}{w w':World}{P:Program}
def V.dim1:V->V
 | .sl k _ xs=>.sl k (.may false) xs
 |v=>v
def V.dim:V->V
 | .agg cs=>.agg (cs.map V.dim1)
 |v=>v.dim1
theorem VRel.dim1{v:V}{cv:Value}(h:VRel I ρ N w v cv):VRel I ρ N w v.dim1 cv:=by cases v<;>simp only[V.dim1]<;>first|exact h.own (by simp) (by simp)|exact h
theorem VRel.dim{v:V}{cv:Value}(h:VRel I ρ N w v cv):VRel I ρ N w v.dim cv:=by
 by_cases g:∃cs,v=.agg cs
 ·obtain⟨cs,rfl⟩:=g;cases h with
  |agg cs vs m j k g=>
   refine .agg _ vs (by simpa using m) ?_ ?_ ?_;·intro c b;obtain⟨d,a,rfl⟩:=AA.1 b;have:=j d a;cases d<;>exact this
   ·intro i c cv b f;rw[Au,Ak] at b;obtain⟨d,a,rfl⟩:=b;have:=k i d cv a f;cases d<;>first|exact this|simp[V.dim1,cH]
   ·intro i c cv b f;rw[Au,Ak] at b;obtain⟨d,a,rfl⟩:=b;exact(g i d cv a f).dim1
 ·have e:v.dim=v.dim1:=by cases v<;>first|rfl|exact absurd ⟨_,rfl⟩ g
  rw[e];exact h.dim1
theorem adv{v:V}(h:v.bare=true):v.dim.bare=true:=by cases v<;>first|exact h|rfl
theorem eC.dim{f:FuncId}{vs us:List V}{hp hp':List ah}{v:V}(h:eC P f us hp v hp')(e:vs.map V.dim=us):eC P f vs hp v hp':=by subst e;intro w g a o m d b c;refine h w g a o m (by simpa using d) (by intro x j;obtain⟨y,k,rfl⟩:=AA.1 j;exact adv (b y k)) ?_;intro i x cv j p;rw[Au,Ak] at j;obtain⟨y,k,rfl⟩:=j;exact(c i y cv k p).dim
theorem aI.dim{f:FuncId}{vs us:List V}{v:V}(h:aI P f us v)(e:vs.map V.dim=us):aI P f vs v:=by obtain⟨hp',h⟩:=h;exact⟨hp',h.dim e⟩
def mU(P:Program)(f:FuncId)(vs cs:List V):Prop:=eC P f vs [] (.ptr 0 0) [some cs]
theorem mU.frame{f:FuncId}{vs cs:List V}(h:mU P f vs cs)(hf:vs.all V.flat=true)(Y:cs.all V.flatO=true)(hp:List ah):eC P f vs hp (.ptr hp.length 0) (hp++[some cs]):=by
 intro w g Q a0 A al S ad;let g₀:Gh:={I:=g.I,ρ:=g.ρ,O:=λ_=>none,β:=g.β}
 have h0:HR g₀ [] w:=⟨by simp,by simp,by simp,by simp,A.exI,by simp[g₀]⟩
 refine(h w g₀ Q (a0.sub rfl (λh=>h) (λh=>by simp[g₀,h])) h0 al S (λi x cv hx q=>(ad i x cv hx q).flat (Ai.1 hf x (Af hx)))).mono ?_;rintro e w' ⟨cv,g₁,rfl,X,B,q3,q4⟩;have blk:∀b,b<w.heap.size->w'.heap[b]? =w.heap[b]?:=λb p=>B.block b p (by simp) rfl
 have y:∀b j,b<w.heap.size->g₁.I b j->g.I b j:=λb j p M=>B.iSame b j p (by simp) rfl M
 have R:∀b,b<w.heap.size->g₁.O b=none:=λb p=>B.oSame b p (by simp) rfl
 have Z:w.heap.size<=g₁.ρ 0:=by
  rcases B.live 0 cs rfl with⟨_,h⟩|⟨_,h|h|⟨_,_,h,_⟩⟩
  ·simp at h
  ·exact h
  ·simp[g₀] at h
  ·simp at h
 let a:Gh:={I:=g₁.I,ρ:=λi=>if i=hp.length then g₁.ρ 0 else g.ρ i,β:=g.β,O:=λb=>if b<w.heap.size then g.O b else (match g₁.O b with
  |some (.cell i j)=>if i=0 then some (.cell hp.length j) else none
  |some .res=>some .res
  |_=>none)}
 have d:∀i,i<hp.length->a.ρ i=g.ρ i:=by intro i M;simp only[a];rw[if_neg (by omega)]
 have m:a.ρ hp.length=g₁.ρ 0:=by simp[a]
 have up:Up g.I g.ρ hp.length w a.I a.ρ (hp++[some cs]).length w':=⟨B.up.mono,B.up.cell,d,by simp⟩
 have C:∀(id:Nat) cs,hp[id]? =some (some cs)->g.ρ id<w.heap.size:=by intro id cs hid;obtain⟨ob,G⟩:=(A.obj id cs hid).block;exact(AK.1 G).1
 have k:∀(id:Nat) cs,hp[id]? =some (some cs)->id<hp.length:=λid cs hid=>(Ad.1 hid).1
 have key:∀(id:Nat) c,(hp++[some cs])[id]? =some (some c)->(id=hp.length∧c=cs)∨hp[id]? =some (some c):=by
  intro id c hid;rcases AE id hp.length with W|W;·rw[Ap W] at hid;exact .inr hid
  ·rw[An W] at hid;have:id-hp.length=0:=by
    have:=(Ad.1 hid).1;simp at this;omega
   rw[this] at hid;exact .inl ⟨by omega,by simpa using hid.symm⟩
 have J:∀id j v cv,id<hp.length->ai g w (.cell id j) v cv->ai a w' (.cell id j) v cv:=by intro id j v cv hid ho;refine bd ho rfl (λb j M=>⟨B.up.mono b j M,B.up.cell b j M⟩) ?_;intro b p;have u:=A.oLt b _ p;exact⟨by simp[a,u,p],blk b u,λj r=>y b j u r⟩
 refine⟨cv,a,rfl,⟨?_,?_,?_,?_,X.exI,?_⟩,⟨rfl,B.os,B.tape,B.output,B.size,λb p _ _=>blk b p,up,λb j p _ _ M=>y b j p M,?_,?_⟩,?_,?_⟩
 ·intro id c hid;rcases key id c hid with⟨rfl,rfl⟩|hid
  ·refine(X.obj 0 c rfl).keep (by rw[m]) λa3 e fz a1 L=>?_
   have hr:=wW Y;refine⟨L.len,L.plain,by rw[fT hr];simp,L.cold,L.one,?_,?_,?_⟩;·intro j F cv r q;exact(L.rel j F cv r q).flatO (Ai.1 Y F (Af (by rw[c7 hr] at r;exact r)))
   ·intro j F cv r q;refine(L.own j F cv r q).reloc B.beta.symm rfl λb p=>?_
    have a4:¬b<w.heap.size:=by intro u;rw[R b u] at p;cases p
    simp[a,p,a4]
   ·intro j E n r;rw[m];exact L.bn j E n r
  ·have W:=k id c hid;refine(A.obj id c hid).keep (by rw[d id W];exact blk _ (C id c hid)) λa3 e fz G t=>?_
   exact⟨t.len,t.plain,t.typedUp rfl d (by simp) rfl,t.cold,t.one,λj c cv Y q=>(t.rel j c cv Y q).up up,λj c cv Y q=>J _ _ _ _ W (t.own j c cv Y q),λj E n r=>by rw[d id W];exact t.bn j E n r⟩
 ·intro id z c F hid H ar;rcases key id c hid with⟨rfl,rfl⟩|G
  ·rcases key z F H with⟨rfl,rfl⟩|t;·exact absurd rfl ar
   ·rw[m,d z (k z F t)];have:=C z F t;omega
  ·rcases key z F H with⟨rfl,rfl⟩|t;·rw[m,d id (k id c G)];have:=C id c G;omega
   ·rw[d id (k id c G),d z (k z F t)];exact A.apart _ _ _ _ G t ar
 ·intro id c hid j r;rcases key id c hid with⟨rfl,rfl⟩|hid;·rw[m] at r;exact X.notI 0 c rfl j r
  ·rw[d id (k id c hid)] at r;exact A.notI id c hid j (y _ j (C id c hid) r)
 ·intro id c hid;rcases key id c hid with⟨rfl,rfl⟩|hid
  ·rw[m];have G:=X.notO 0 c rfl;have t:¬g₁.ρ 0<w.heap.size:=by omega
   simp[a,G,t]
  ·rw[d id (k id c hid)];have:=C id c hid;simp[a,this,A.notO id c hid]
 ·intro b o p;simp only[a] at p;split at p;·rename_i u;exact Ax u B.size
  ·split at p;·rename_i D;exact X.oLt b _ D
   ·rename_i D;exact X.oLt b _ D
   ·simp at p
 ·intro b p _ hO;simp[a,p,hO]
 ·intro id c hid;rcases key id c hid with⟨rfl,rfl⟩|hid;·exact .inr ⟨Aj _,.inl (by rw[m];exact Z)⟩
  ·exact .inl ⟨c,hid⟩
 ·cases q3 with
  |ptr _ _ _=>rw[<-m];exact .ptr _ _ (by simp)
 ·simp[ai]
theorem mU.dim{f:FuncId}{vs us cs:List V}(h:mU P f us cs)(e:vs.map V.dim=us):mU P f vs cs:=eC.dim h e
theorem aP.dim{f:FuncId}{vs us:List V}{css css':List (List V)}{v:V}(h:aP P f us css v css')(e:vs.map V.dim=us):aP P f vs css v css':=by obtain⟨b,rest,a⟩:=h;exact⟨b,rest,a.dim e⟩
def V.dimR:V->V
 | .tup vs=>.tup (vs.map V.dim)
 |v=>v.dim
theorem VRel.dimR{v:V}{cv:Value}(h:VRel I ρ N w v cv):VRel I ρ N w v.dimR cv:=by
 by_cases a:∃cs,v=.tup cs
 ·obtain⟨cs,rfl⟩:=a;cases h with
  |tup cs vs j a=>refine .tup _ vs (by simpa using j) ?_;intro i c cv f d;rw[Au,Ak] at f;obtain⟨g,b,rfl⟩:=f;exact(a i g cv b d).dim
 ·have e:v.dimR=v.dim:=by cases v<;>first|rfl|exact absurd ⟨_,rfl⟩ a
  rw[e];exact h.dim
theorem ai.dimR{g:Gh}{a:Occ}{v:V}{cv:Value}(h:ai g w a v cv):ai g w a v.dimR cv:=by cases v<;>first|exact h|simp[V.dimR,V.dim,V.dim1,ai]
theorem eC.dimR{f:FuncId}{vs:List V}{hp hp':List ah}{v:V}(h:eC P f vs hp v hp'):eC P f vs hp v.dimR hp':=by intro w g a j i d b c;refine(h w g a j i d b c).mono ?_;rintro e w' ⟨cv,q,rfl,o,k,m,p⟩;exact⟨cv,q,rfl,o,k,m.dimR,p.dimR⟩
theorem aI.dimR{f:FuncId}{vs:List V}{v u:V}(h:aI P f vs v)(e:v.dimR=u):aI P f vs u:=by subst e;obtain⟨hp',h⟩:=h;exact⟨hp',h.dimR⟩
theorem aP.dimR{f:FuncId}{vs:List V}{css css':List (List V)}{v u:V}(h:aP P f vs css v css')(e:v.dimR=u):aP P f vs css u css':=by subst e;obtain⟨b,rest,a⟩:=h;exact⟨b,rest,a.dimR⟩
abbrev acZ:=Nat->List V->Option (Bool×List V)
def su(G:acZ)(Γ:am):am:=λf vs hp=>
 match G f vs with
 |some (c,cs)=>cond (vs.all V.flat&&cs.all V.flatO) (some (c,.ptr hp.length 0,hp++[some cs])) none
 |none=>Γ f vs hp
theorem ahV{G:acZ}{Γ:am}(e:∀f vs cs,G f vs=some (true,cs)->mU P f vs cs)(b:bR P Γ):bR P (su G Γ):=by
 intro f vs hp v hp' h;unfold su at h;split at h
 ·rename_i c cs d;cases a:(vs.all V.flat&&cs.all V.flatO) with
  |false=>rw[a] at h;simp at h
  |true=>rw[a] at h;simp only[cond_true,Ae,Al] at h;obtain⟨rfl,rfl,rfl⟩:=h;simp only[Ab] at a;exact(e f vs cs d).frame a.1 a.2 hp
 ·exact b _ _ _ _ _ h
theorem af5{G:acZ}{Γ:am}{imp:List Nat}(p:∀f vs,imp.contains f=false->G f vs=none)(d:∀f vs,imp.contains (f+2000000)=true->G f vs=none)(b:cd Γ imp):cd (su G Γ) imp:=by
 refine⟨?_,?_⟩
 ·intro f vs hp a;have e:∀hp,su G Γ f vs hp=Γ f vs hp:=by
   intro hp;unfold su;rw[p f vs a]
  rw[e,e];exact b.pure f vs hp a
 ·intro f vs hp c v hp' a h;have e:∀hp,su G Γ f vs hp=Γ f vs hp:=by
   intro hp;unfold su;rw[d f vs a]
  rw[e] at h;obtain⟨q,k,i,j⟩:=b.loc _ _ _ _ _ _ a h;exact⟨q,k,i,λg m o=>by rw[e];exact j g m o⟩
def pick{R:Type}[Inhabited R](C:R->Prop):R:= @Classical.epsilon R ⟨default⟩ C
def can{R:Type}[Inhabited R](C:R->Prop):Bool:= @decide (C (pick C)) (Cc _)
theorem adw{R:Type}[Inhabited R]{C:R->Prop}(h:∃r,C r):can C=true:= @decide_eq_true _ (Cc _) (Classical.epsilon_spec h)
theorem wZ{R:Type}[Inhabited R]{C:R->Prop}(h:can C=true):C (pick C):= @of_decide_eq_true _ (Cc _) h
def pk{R a:Type}[Inhabited R](C:R->Prop)(f:R->a):Option (Bool×a):=some (can C,f (pick C))
def ae{R a:Type}[Inhabited a](C:a->Prop)(K:a->Option R):Option R:=chk (can C) (K (pick C))
def aiC{R a:Type}[Inhabited a](C:a->Prop)(T:Bool)(K:a->Option R):Option R:=chk (can C&&T) (K (pick C))
end
theorem aiD{R:Type}(x:Option R):chk true x=x:=rfl
theorem ahW(n:Int):IntKind.u64.wrap n=n%18446744073709551616:=by simp[Ao,Br,Bb]
theorem ahX(n:Int):IntKind.u32.wrap n=n%4294967296:=by simp[Ao,Br,Bb]
theorem aiR(n:Int):IntKind.u8.wrap n=n%256:=by simp[Ao,Br,Bb]
theorem ahY(n:Int):IntKind.i64.wrap n=(n+9223372036854775808)%18446744073709551616-9223372036854775808:=by simp[Ao,Br,Bb];omega
theorem ahZ(n:Int):IntKind.i32.wrap n=(n+2147483648)%4294967296-2147483648:=by simp[Ao,Br,Bb];omega
theorem ax(n:Int)(h:-9223372036854775808<=n∧n<=9223372036854775807):IntKind.i64.wrap n=n:=by rw[ahY];omega
theorem zj(n:Int)(h:0<=n∧n<=18446744073709551615):IntKind.u64.wrap n=n:=by rw[ahW];omega
theorem zk(n:Int)(h:0<=n∧n<=4294967295):IntKind.u32.wrap n=n:=by rw[ahX];omega
theorem ol(n:Int)(h:0<=n∧n<=255):IntKind.u8.wrap n=n:=by rw[aiR];omega
def nB(w:World):Gh:={I:=λb j=>(w.cell? ⟨b,j,none⟩).isSome=true,ρ:=id,O:=λ_=>none,β:=0}
theorem dt{p:Prop}[Decidable p](h:p):decide p=true:=decide_eq_true h
theorem df{p:Prop}[Decidable p](h:¬p):decide p=false:=decide_eq_false h
theorem bt{a b:Int}(h:a=b):(a==b)=true:=by simp[h]
theorem bf{a b:Int}(h:a≠b):(a==b)=false:=by simp[h]
theorem it{α:Type}{p:Prop}[Decidable p]{a b:α}(h:p):(if p then a else b)=a:=if_pos h
theorem iF{α:Type}{p:Prop}[Decidable p]{a b:α}(h:¬p):(if p then a else b)=b:=if_neg h
theorem afp{a b:Int}(h:0<=a):Int.tdiv a b=a / b:=BW h
theorem afq{a b:Int}(h:0<=a):Bl a b=a%b:=By h
theorem ach{α a:Type}(f:α->a)(x:α):Option.map f (some x)=some (f x):=rfl
theorem zl(n:Int)(h:-2147483648<=n∧n<=2147483647):IntKind.i32.wrap n=n:=by rw[ahZ];omega
theorem adx{α:Type}(n:Int)(l:List α):(ixl n l=true)=(0<=n∧n<(l.length:Int)):=by simp[ixl]
theorem ixt{α:Type}{n:Int}{l:List α}(h:0<=n∧n<(l.length:Int)):ixl n l=true:=by rw[adx];exact h
theorem ajH:type_of% @dt∧type_of% @ixt∧type_of% @df∧type_of% @it∧type_of% @iF∧type_of% @bt∧type_of% @bf∧type_of% @cond_true.{1}∧type_of% @cond_false.{1}∧type_of% @ach∧type_of% @aiD∧type_of% @Bool.and_true∧type_of% @Bool.true_and∧type_of% @Bool.and_false∧type_of% @Bool.false_and∧type_of% @Bool.or_true∧type_of% @Bool.true_or∧type_of% @Bool.or_false∧type_of% @Bool.false_or∧type_of% @Bool.not_true∧type_of% @Bool.not_false∧type_of% @if_true.{1}∧type_of% @if_false.{1}∧type_of% @beq_self_eq_true.{0}∧type_of% @ax∧type_of% @zj∧type_of% @zl∧type_of% @zk∧type_of% @ol∧type_of% @afp∧type_of% @afq∧type_of% @Int.toNat_natCast∧type_of% @List.take_length.{0}∧type_of% @List.drop_zero.{0}∧type_of% @or_true∧type_of% @true_or∧type_of% @or_false∧type_of% @false_or∧type_of% @or_self:=⟨@dt, @ixt, @df, @it, @iF, @bt, @bf, @cond_true.{1}, @cond_false.{1}, @ach, @aiD, @Bool.and_true, @Bool.true_and, @Bool.and_false, @Bool.false_and, @Bool.or_true, @Bool.true_or, @Bool.or_false, @Bool.false_or, @Bool.not_true, @Bool.not_false, @if_true.{1}, @if_false.{1}, @beq_self_eq_true.{0}, @ax, @zj, @zl, @zk, @ol, @afp, @afq, @Int.toNat_natCast, @List.take_length.{0}, @List.drop_zero.{0}, @or_true, @true_or, @or_false, @false_or, @or_self⟩
theorem bnl:type_of% @adx∧type_of% @decide_eq_true_eq∧type_of% @decide_eq_false_iff_not∧type_of% @Bool.and_eq_true∧type_of% @Bool.and_eq_false_iff∧type_of% @Bool.or_eq_true∧type_of% @Bool.or_eq_false_iff∧type_of% @Bool.not_eq_true'∧type_of% @Bool.not_eq_false'∧type_of% @beq_iff_eq.{0}∧type_of% @beq_eq_false_iff_ne.{0}∧type_of% @Int.not_lt∧type_of% @Int.not_le∧type_of% @Nat.not_lt∧type_of% @Nat.not_le∧type_of% @ne_eq.{1}∧type_of% @Nat.beq_eq∧type_of% @true_and∧type_of% @and_true∧type_of% @Bool.not_not:=⟨@adx, @decide_eq_true_eq, @decide_eq_false_iff_not, @Bool.and_eq_true, @Bool.and_eq_false_iff, @Bool.or_eq_true, @Bool.or_eq_false_iff, @Bool.not_eq_true', @Bool.not_eq_false', @beq_iff_eq.{0}, @beq_eq_false_iff_ne.{0}, @Int.not_lt, @Int.not_le, @Nat.not_lt, @Nat.not_le, @ne_eq.{1}, @Nat.beq_eq, @true_and, @and_true, @Bool.not_not⟩
theorem lnl:type_of% @List.length_append.{0}∧type_of% @List.length_cons.{0}∧type_of% @List.length_nil.{0}∧type_of% @List.length_drop.{0}∧type_of% @List.length_take.{0}∧type_of% @List.length_set.{0}∧type_of% @List.length_replicate.{0}:=⟨@List.length_append.{0}, @List.length_cons.{0}, @List.length_nil.{0}, @List.length_drop.{0}, @List.length_take.{0}, @List.length_set.{0}, @List.length_replicate.{0}⟩
def Tot{R:Type}(x:Option R)(Q:R->Prop):Prop:=∃r,x=some r∧Q r
section
variable{R:Type}{Q:R->Prop}
theorem cn{α:Type}{B:(α->Option R)->α->Option R}(Inv:α->Prop)(b:α->Nat)
  (step:∀(a:α->Option R) x,Inv x->(∀y,Inv y->b y<b x->Tot (a y) Q)->Tot (B a x) Q):∀n x,Inv x->b x<n->Tot (b8 n B x) Q
 |0,_,_,h=>by omega
 |n+1,x,d,f=>step (b8 n B) x d λy c e=>cn Inv b step n y c (by omega)
theorem ak{r:R}(h:Q r):Tot (some r) Q:=⟨r,rfl,h⟩
theorem cI{c:Bool}{x:Option R}(a:c=true)(h:Tot x Q):Tot (chk c x) Q:=by subst a;exact h
theorem vck{c:Bool}{x:Option R}(h:Tot x Q)(a:c=true:=by first|(simp only[bnl,lnl];done)|(simp only[bnl,lnl];omega)):Tot (chk c x) Q:=cI a h
theorem af{b:Bool}{x y:Option R}(c:b=true->Tot x Q)(a:b=false->Tot y Q):Tot (cond b x y) Q:=by
 cases b with
 |true=>exact c rfl
 |false=>exact a rfl
theorem afr{R:Type}[Inhabited R]{C:R->Prop}(h:∃r,C r):C (pick C):=wZ (adw h)
theorem ac{a:Type}[Inhabited a]{C:a->Prop}{K:a->Option R}(h:∃r,C r)(b:∀r,C r->Tot (K r) Q):Tot (ae C K) Q:=
 cI (adw h) (b _ (afr h))
theorem aiS{a:Type}[Inhabited a]{C:a->Prop}{T:Bool}{K:a->Option R}(c:T=true)(h:∃r,C r)(b:∀r,C r->Tot (K r) Q):Tot (aiC C T K) Q:=
 cI (by rw[adw h,c];rfl) (b _ (afr h))
end
def dd{R:Type}(C:Nat->St->Option R)(Γ:am)(n:Nat):IR->(Ex->St->Option R)->St->Option R
 | .skip,K,s=>K .normal s
 | .bad,_,_=>none
 | .reg e _,K,s=>bk Γ e (K .normal) s
 | .rgs l,K,s=>tf Γ l (K .normal) s
 | .wk l _ h o more,K,s=>bk Γ l (bk Γ h λs=>match o.step Γ s with|some (c,s')=>chk c (bk Γ more (K .normal) s')|none=>none) s
 | .seq a b,K,s=>dd C Γ n a (cj (dd C Γ n b) K) s
 | .cond c a b,K,s=>match c.ev s with
   | .bool t=>cond t (dd C Γ n a K (c.fix s true)) (dd C Γ n b K (c.fix s false))
   |_=>none
 | .block id a,K,s=>dd C Γ n a (aQ id K) s
 | .loop d m a,K,s=>C (d.getLastD 0) (s.keep d m)
 | .cut d m a,K,s=>C (d.getLastD 0) (s.keep d m)
 | .gh g a,K,s=>match g.step s with
   |some (c,s')=>chk c (dd C Γ n a K s')
   |none=>none
 | .ope o a,K,s=>cond (afG s o) (match (dc.fz o).step s with
   |some (c,s')=>chk c (dd C Γ n a K s')
   |none=>none) (match (dc.opn o).step s with
   |some (c,s')=>chk c (dd C Γ n a K s')
   |none=>none)
 | .ghp g a,K,s=>dd C Γ n a (nY g K) s
 | .exit id,K,s=>K (.exit id) s
 | .ret,K,s=>K .ret s
def dZ{R:Type}(Γ:am)(n:Nat):IR->(Ex->St->Option R)->List (Nat×(St->Option R))
 | .seq a b,K=>dZ Γ n a (cj (run Γ n b) K)++dZ Γ n b K
 | .cond _ a b,K=>dZ Γ n a K++dZ Γ n b K
 | .block id a,K=>dZ Γ n a (aQ id K)
 | .loop c m a,K=>[(c.getLastD 0,λs=>bP n (λd s=>run Γ n a (dv d c m K) s) s)]
 | .cut c m a,K=>[(c.getLastD 0,λs=>run Γ n a K s)]
 | .gh g a,K=>dZ Γ n a K
 | .ope o a,K=>dZ Γ n a K
 | .ghp g a,K=>dZ Γ n a (nY g K)
 |_,_=>[]
theorem abx{R:Type}{C:Nat->St->Option R}{Γ:am}{n:Nat}:∀(ir:IR)(K:Ex->St->Option R),(∀p∈dZ Γ n ir K,C p.1=p.2)->∀s,dd C Γ n ir K s=run Γ n ir K s:=by
 intro ir;induction ir with
 |seq a b d j=>
  intro K h s;have e:cj (dd C Γ n b) K=cj (run Γ n b) K:=by
   funext e s;cases e with
   |normal=>exact j K (λp hp=>h p (BI _ hp)) s
   |_=>rfl
  show dd C Γ n a (cj (dd C Γ n b) K) s=run Γ n a (cj (run Γ n b) K) s;rw[e];exact d _ (λp hp=>h p (AT _ hp)) s
 |cond c a b d j=>intro K h s;simp only[dd,run,d K (λp hp=>h p (AT _ hp)),j K (λp hp=>h p (BI _ hp))];cases c.ev s<;>rfl
 |block id a d=>intro K h s;exact d _ h s
 |loop i m a d=>intro K h s;have:=h (i.getLastD 0,_) (Az.2 rfl);simp only[dd,run];rw[this]
 |cut i m a d=>intro K h s;have:=h (i.getLastD 0,_) (Az.2 rfl);simp only[dd,run];rw[this]
 |gh g a d=>intro K h s;simp only[dd,run,d K h];cases g.step s<;>rfl
 |ope o a d=>intro K h s;simp only[dd,run,d K h];cases (dc.fz o).step s<;>cases (dc.opn o).step s<;>rfl
 |ghp g a d=>intro K h s;exact d _ h s
 |_=>intro K h s;rfl
def l9{R:Type}:List (Nat×(St->Option R))->Nat->St->Option R
 | [],_=>λ_=>none
 |(j,f)::l,i=>cond (Av j i) f (l9 l i)
def ur:List Nat->Bool
 | []=>true
 |i::l=> !(l.any (Av i))&&ur l
theorem cb{R:Type}:∀{l:List (Nat×(St->Option R))},ur (l.map Prod.fst)=true->∀p∈l,l9 l p.1=p.2
 | [],_,p,hp=>by simp at hp
 |(j,f)::l,h,p,hp=>by
  simp only[Bf,ur,Ab,Bk,List.any_eq_false] at h;rcases AL.1 hp with rfl|hp;·simp[l9]
  ·have a:Av j p.1=false:=by
    cases b:Av j p.1 with
    |false=>rfl
    |true=>have:=h.1 p.1 (AA.2 ⟨p,hp,rfl⟩);exact absurd b this
   simp only[l9,a,cond_false];exact cb h.2 p hp
theorem om{R:Type}{C:Nat->St->Option R}{Γ:am}{n:Nat}{b:IR}{K a:Ex->St->Option R}(h:∀p∈dZ Γ n b K,C p.1=p.2)(e:a=K):cj (dd C Γ n b) a=cj (run Γ n b) K:=by
 subst e;funext e s;cases e with
 |normal=>exact abx b a h s
 |_=>rfl
theorem jG{R:Type}{i:Nat}{K a:Ex->St->Option R}(e:a=K):aQ i a=aQ i K:=by rw[e]
theorem rF{R:Type}{a:St->Option R}{b:List Nat}{m:Nat}{K c:Ex->St->Option R}(e:c=K):dv a b m c=dv a b m K:=by rw[e]
theorem hR{R:Type}{C:Nat->St->Option R}{l a:List (Nat×(St->Option R))}(h:∀p∈l++a,C p.1=p.2):∀p∈l,C p.1=p.2:=λp hp=>h p (AT _ hp)
theorem iZ{R:Type}{C:Nat->St->Option R}{l a:List (Nat×(St->Option R))}(h:∀p∈l++a,C p.1=p.2):∀p∈a,C p.1=p.2:=λp hp=>h p (BI _ hp)
theorem lD{R:Type}{C:Nat->St->Option R}{Γ:am}{n:Nat}{ir:IR}{K a:Ex->St->Option R}(h:∀p∈dZ Γ n ir K,C p.1=p.2)(e:a=K)(s:St):run Γ n ir K s=dd C Γ n ir a s:=by subst e;exact(abx ir a h s).symm
abbrev Ro:=Option (V×List ah)
abbrev Bs:=List UInt8
abbrev Bss:=List (List UInt8)
def U(n:Nat)(l:List V):List V:=List.replicate n .undef++l
def Pp(o:IOp):GOp:=⟨none,o,none⟩
def Pg(g:Nat×Bool)(o:IOp):GOp:=⟨some g,o,none⟩
def Mv(d x:Nat):GOp:=⟨none,.mov d (.t x),none⟩
def Fa(d o x:Nat):GOp:=⟨none,.fad d o (.t x),none⟩
def Ld(d n:Nat)(a:Bool)(x:Nat):GOp:=⟨none,.lde d n a (.t x),none⟩
def Pa(d c x:Nat):GOp:=⟨none,.pick d (.t c) (.t x) (.c (.bool false)),none⟩
def Po(d c x:Nat):GOp:=⟨none,.pick d (.t c) (.c (.bool true)) (.t x),none⟩
def Bi(d:Nat)(o:BinOp)(x y:Nat):GOp:=⟨none,.bin d o (.t x) (.t y),none⟩
def Bc(d:Nat)(o:BinOp)(x:Nat)(n:Int):GOp:=⟨none,.bin d o (.t x) (.c (.int .i64 n)),none⟩
def Ex_(d i x:Nat):GOp:=⟨none,.ext d i (.t x),none⟩
def Nk(d x:Nat):GOp:=⟨none,.nck (some d) (.t x),none⟩
instance (n:Nat):OfNat aj n:=⟨.t n⟩
instance (n:Nat):OfNat (Option Nat) n:=⟨some n⟩
def Rg(l:List GOp):IR:=.reg l []
def Rs(l:List GOp)(a:IR):IR:=.seq (.reg l []) a
def Sq(a b:IR):IR:=.seq a b
def Cn(c:Nat)(a b:IR):IR:=.cond (.t c) a b
def Gt(g:Nat)(o:IOp):GOp:=⟨some (g,true),o,none⟩
def Gf(g:Nat)(o:IOp):GOp:=⟨some (g,false),o,none⟩
def Fo(r w:List Nat)(o:IOp):GOp:=⟨none,o,some (r,w)⟩
def Mi(d:Nat)(n:Int):GOp:=⟨none,.mov d (.c (.int .i64 n)),none⟩
def Ms(d:Nat)(s:List UInt8):GOp:=⟨none,.mov d (.c (.str s)),none⟩
def Mb(d:Nat)(b:Bool):GOp:=⟨none,.mov d (.c (.bool b)),none⟩
def Lq(d x:Nat):GOp:=⟨none,.lde d 1 false (.t x),none⟩
def Lo(d x:Nat):GOp:=⟨none,.ld d 1 false false (.t x),none⟩
def Ca(d f:Nat)(l:List aj):GOp:=⟨none,.call (some d) f l,none⟩
def Ix(d:Nat)(k:EK)(x i:Nat):GOp:=⟨none,.ixa d k (.t x) (.t i),none⟩
def Ll(d x:Nat):GOp:=⟨none,.lenl d (.t x),none⟩
def Un(d x:Nat):GOp:=⟨none,.un d .not (.t x),none⟩
def Bx(d x:Nat):GOp:=⟨none,.boxe d (.t x),none⟩
def Fz(r n v:Nat):GOp:=⟨none,.frz none r n (.t v),none⟩
def Sv(n x v:Nat):GOp:=⟨none,.st none n (.t x) (.t v),none⟩
def Sk(n x v:Nat):GOp:=⟨none,.st none n (.t x) (.tk v),none⟩
def kI(n:Int):aj:=.c (.int .i64 n)
def kS(s:List UInt8):aj:=.c (.str s)
def kB(b:Bool):aj:=.c (.bool b)
abbrev TS:=St->Ro
abbrev TE:=Ex->TS
abbrev TR:=IR->TE->TS
abbrev vI(n:Int):V:=.int .i64 n
abbrev vS:V:=.str []
abbrev vB(b:Bool):V:=.bool b
abbrev vT(s:List UInt8):V:=.str s
abbrev vF(k:EK)(xs:List (Ty k)):V:=.sl k (.may false) xs
abbrev vO(k:EK)(xs:List (Ty k)):V:=.sl k .own xs
def nl(k:EK):V:=.sl k .own []
def fu(k:EK)(b:Bool):V:=.sl k (.may b) []
def rg(a b:Nat):List Nat:=A6 a (b+1-a)
theorem gb{Γ:am}{N n:Nat}{rs:List RV}{ir:IR}{vs:List V}{hp:List ah}(l:List (Nat×(St->Ro)))(b:ur (l.map Prod.fst)=true)(e:l=dZ Γ N ir (fin rs)++[])
  (S:(Nat->St->Ro)->Ro) (a:∀C,dd C Γ N ir (fin rs) (AM.start n vs hp)=S C):pL Γ N n rs ir vs hp=S (l9 l):=by
 refine BB ?_ (a _);exact(abx ir (fin rs) (λp hp=>cb b p (by rw[e];exact AT _ hp)) _).symm
section
variable{P:Program}
theorem yC{f:FuncId}{vs:List V}{a v:V}{R:Type}[Inhabited R]{C:R->Prop}(h:some (can C,a)=some (true,v))(k:C (pick C)->aI P f vs a)(b:vs.all V.flat=true)(d:a.flatU=true):
  aI P f vs v∧vs.all V.flat=true∧v.flatU=true:=by
 simp only[Ae,Al] at h;obtain⟨c,rfl⟩:=h;exact⟨k (wZ c),b,d⟩
theorem yD{f:FuncId}{vs:List V}{a v:V}{css cs b:List (List V)}{R:Type}[Inhabited R]{C:R->Prop}(h:some (can C,a,cs)=some (true,v,b))(k:C (pick C)->aP P f vs css a cs):aP P f vs css v b:=by simp only[Ae,Al] at h;obtain⟨c,rfl,rfl⟩:=h;exact k (wZ c)
theorem yE{f:FuncId}{vs cs a:List V}{R:Type}[Inhabited R]{C:R->Prop}(h:some (can C,cs)=some (true,a))(k:C (pick C)->mU P f vs cs):mU P f vs a:=by simp only[Ae,Al] at h;obtain⟨b,rfl⟩:=h;exact k (wZ b)
end
structure cM(P:Program) where
 id:Nat
 t:List V->Option (Bool×V)
 ok:∀vs v,t vs=some (true,v)->aI P id vs v∧vs.all V.flat=true∧v.flatU=true:=by (intro _ _ h;split at h;(first|exact yC h (λh=>h.1.dim rfl) rfl rfl|exact yC h (λh=>h.dim rfl) rfl rfl|exact yC h (λh=>h.1) rfl rfl|exact yC h (λh=>h) rfl rfl);cases h)
structure bV(P:Program) where
 id:Nat
 t:List V->List (List V)->Option (Bool×V×List (List V))
 ok:∀us css v css',t us css=some (true,v,css')->aP P id us css v css':=by (intro _ _ _ _ h;split at h;(first|exact yD h (λh=>h.1.dim rfl)|exact yD h (λh=>h.dim rfl)|exact yD h (λh=>h.1)|exact yD h (λh=>h));cases h)
structure nk(P:Program) where
 id:Nat
 t:List V->Option (Bool×List V)
 ok:∀us cs,t us=some (true,cs)->mU P id us cs:=by (intro _ _ h;split at h;(first|exact yE h (λh=>h.1.dim rfl)|exact yE h (λh=>h.dim rfl)|exact yE h (λh=>h.1)|exact yE h (λh=>h));cases h)
section
variable{P:Program}
def zR:List (cM P)->Nat->List V->Option (Bool×V)
 | [],_,_=>none
 |r::l,f,vs=>cond (Av r.id f) (r.t vs) (zR l f vs)
def w4:List (bV P)->rC
 | [],_,_,_=>none
 |r::l,f,us,css=>cond (Av r.id f) (r.t us css) (w4 l f us css)
def zS:List (nk P)->acZ
 | [],_,_=>none
 |r::l,f,us=>cond (Av r.id f) (r.t us) (zS l f us)
theorem aby:∀(l:List (cM P)) f vs v,zR l f vs=some (true,v)->aI P f vs v∧vs.all V.flat=true∧v.flatU=true
 | [],_,_,_,h=>by simp[zR] at h
 |r::l,f,vs,v,h=>by
  unfold zR at h;cases a:Av r.id f with
  |true=>rw[a] at h;have e:r.id=f:=As a;subst e;exact r.ok vs v h
  |false=>rw[a] at h;exact aby l f vs v h
theorem abz:∀(l:List (bV P)) f us css v css',w4 l f us css=some (true,v,css')->aP P f us css v css'
 | [],_,_,_,_,_,h=>by simp[w4] at h
 |r::l,f,us,css,v,css',h=>by
  unfold w4 at h;cases a:Av r.id f with
  |true=>rw[a] at h;have e:r.id=f:=As a;subst e;exact r.ok _ _ _ _ h
  |false=>rw[a] at h;exact abz l f us css v css' h
theorem afs:∀(l:List (nk P)) f us cs,zS l f us=some (true,cs)->mU P f us cs
 | [],_,_,_,h=>by simp[zS] at h
 |r::l,f,us,cs,h=>by
  unfold zS at h;cases a:Av r.id f with
  |true=>rw[a] at h;have e:r.id=f:=As a;subst e;exact r.ok _ _ h
  |false=>rw[a] at h;exact afs l f us cs h
theorem w5:∀(l:List (bV P)) f us css,(∀r∈l,r.id≠f)->w4 l f us css=none
 | [],_,_,_,_=>rfl
 |r::l,f,us,css,h=>by
  unfold w4;have a:Av r.id f=false:=by
   cases a:Av r.id f with
   |true=>exact absurd (As a) (h r (by simp))
   |false=>rfl
  rw[a];exact w5 l f us css λr b=>h r (by simp[b])
theorem w6:∀(l:List (nk P)) f us,(∀r∈l,r.id≠f)->zS l f us=none
 | [],_,_,_=>rfl
 |r::l,f,us,h=>by
  unfold zS;have a:Av r.id f=false:=by
   cases a:Av r.id f with
   |true=>exact absurd (As a) (h r (by simp))
   |false=>rfl
  rw[a];exact w6 l f us λr b=>h r (by simp[b])
theorem ah0(l:List (cM P)):bR P (ug (zR l)):=by intro f vs hp v hp' b;obtain⟨h,e⟩:=ag2 b;subst e;obtain⟨a,c,d⟩:=aby l f vs v h;exact a.frameR c d _
def tab(N:List (nk P))(O:List (bV P))(a:List Nat)(G:List (cM P)):am:=su (zS N) (mC (w4 O) (oj a (zR G) (ug (zR G))))
theorem ady(N:List (nk P))(O:List (bV P))(a:List Nat)(G:List (cM P)):bR P (tab N O a G):=
 ahV (afs N) (ag8 (abz O) (ahU (λf vs v h=>(aby G f vs v h).1) (ah0 G)))
def zT(N:List (nk P))(O:List (bV P))(a imp:List Nat):Bool:=
 N.all (λr=>imp.contains r.id&& !imp.contains (r.id+2000000))&&O.all (λr=>imp.contains r.id)&&(a++imp.filter (λx=> !Nat.blt x 2000000)).all (λx=>imp.contains x)
theorem zU{N:List (nk P)}{O:List (bV P)}{d:List Nat}{G:List (cM P)}{imp:List Nat}(h:zT N O d imp=true):cd (tab N O d G) imp:=by
 simp only[zT,Ab,Ai,Bk] at h;obtain⟨⟨c,i⟩,j⟩:=h;refine af5 (λf us a=>w6 N f us ?_) (λf us a=>w6 N f us ?_) (aeI (λf us css a=>w5 O f us css ?_) (af4 (afX _ _) (Ai.2 j) ?_));·rintro r b rfl;rw[(c r b).1] at a;cases a
 ·rintro r b rfl;rw[(c r b).2] at a;cases a
 ·rintro r b rfl;rw[i r b] at a;cases a
 ·refine Ai.2 λx g=>?_
  cases e:BP x 2000000 with
  |true=>rfl
  |false=>simp only[Cd];rw[BS];exact List.mem_filter.2 ⟨g,by simp[e]⟩
end
structure FnK(P:Program)(k:Nat)(f:FuncId)(call:Nat->List V->List ah->Ro):Prop where
 fnOK:∀{n:Nat}{vs:List V}{hp hp':List ah}{v:V},hp.length=k->call n vs hp=some (v,hp')->eC P f vs hp v hp'
abbrev FnC(P:Program)(Γ:am)(imp:List Nat)(k:Nat)(f:FuncId)(fn:Func)(ir:IR)(rs:List RV):Prop:=FnK P k f λn vs hp=>pL Γ n fn.ntmps rs ir vs hp
section
variable{P:Program}{Γ:am}{imp:List Nat}{k n:Nat}{f:FuncId}{fn:Func}{ir:IR}{rs:List RV}{vs:List V}{x:Ro}{call:Nat->List V->List ah->Ro}
theorem FnC.of(e:bR P Γ)(d:cd Γ imp)(b:P.funcs[f]? =some fn)(c:fn.body=some (fn.body.getD .skip))(chk:(aF P imp k ir (fn.body.getD .skip)&&eD P rs fn.results.toList)=true)(a:fn.results.toList.length<=5):FnC P Γ imp k f fn ir rs:=⟨λh g=>by subst h;simp only[Ab] at chk;exact aiQ e d b c chk.1 chk.2 a g⟩
theorem FnK.pure(h:FnK P 0 f call)(b:call n vs []=x){v:V}{hp':List ah}(a:x=some (v,hp')):aI P f vs v:=⟨hp',h.fnOK rfl (b.trans a)⟩
theorem FnK.newFn(h:FnK P 0 f call)(b:call n vs []=x){cs:List V}(a:x=some (.ptr 0 0,[some cs])):mU P f vs cs:=h.fnOK rfl (b.trans a)
theorem FnK.objs{css css':List (List V)}{rest:List ah}(h:FnK P css.length f call)(c:call n vs (css.map some)=x){v:V}(a:x=some (v,css'.map some++rest))(b:css'.length=css.length):
  aP P f vs css v css':=⟨b,rest,h.fnOK (by simp) (c.trans a)⟩
section
variable{N:Nat}{R:Type}{ret:R->V}{p:R->Prop}{Q:V×List ah->Prop}
theorem FnK.finP(h:FnK P 0 f call)(a:call N vs []=x)(b:Tot x Q)(k:∀z,Q z->∃r,z.1.dimR=ret r∧p r):∃r,aI P f vs (ret r)∧p r:=by obtain⟨z,c,d⟩:=b;obtain⟨r,e,hp⟩:=k z d;exact⟨r,(h.pure a c).dimR e,hp⟩
variable{css:List (List V)}{css':R->List (List V)}
theorem FnK.finO(h:FnK P css.length f call)(b:call N vs (css.map some)=x)(c:Tot x Q)(k:∀z,Q z->∃r,z.1.dimR=ret r∧(∃rest,z.2=(css' r).map some++rest)∧p r)(i:∀r,(css' r).length=css.length:=by exactλ_=>rfl):
  ∃r,aP P f vs css (ret r) (css' r)∧p r:=by
 obtain⟨⟨v,hp⟩,d,g⟩:=c;obtain⟨r,e,⟨rest,a⟩,hp⟩:=k _ g;simp only at a;subst a;exact⟨r,(h.objs b d (i r)).dimR e,hp⟩
end
abbrev LB{α R:Type}(F:(St->Option R)->St->Option R)(b:α->St)(B:(α->Option R)->α->Option R):Prop:=∀a x,F a (b x)=B (λy=>a (b y)) x
abbrev LJ{α R:Type}(F:St->Option R)(a:α->St)(J:α->Option R):Prop:=∀x,F (a x)=J x
theorem fnC{N:List (nk P)}{O:List (bV P)}{d:List Nat}{G:List (cM P)}(b:P.funcs[f]? =some fn)(h:zT N O d imp=true:=by kernel_rfl)(c:fn.body=some (fn.body.getD .skip):=by kernel_rfl)
  (chk:(aF P imp k ir (fn.body.getD .skip)&&eD P rs fn.results.toList)=true:=by kernel_rfl) (a:fn.results.toList.length<=5:=by decide):FnC P (tab N O d G) imp k f fn ir rs:=.of (ady N O d G) (zU h) b c chk a
end
end Go.AM
namespace Go.Proofs.YtkinflmjagfapaaDoor
open Go.AM
mutual
def szJ:aa->Nat
 | .mk _ _ _ l _=>co l+1
def co:List aa->Nat
 | []=>0
 |c::l=>szJ c+co l
end
def fL:List (List UInt8)->List aa->List UInt8->Option aa
 |x::a,c::l,name=>if x=name then some c else fL a l name
 |_,_,_=>none
def aN(name:List UInt8)(q:aa->Prop):List (List UInt8)->List aa->Prop
 |x::a,c::l=>(x=name->q c)∧aN name q a l
 |_,_=>True
abbrev af6:Int:=255
abbrev iR(s:List UInt8):Prop:=s.head?≠some 117
inductive dw(b:Nat):aa->Prop where
 |mk (k n:Int) (s:List UInt8) (l:List aa) (names:List (List UInt8)) (h1:s.length<=100) (h2:l.length<=b) (h3:names.length<=l.length)
   (h4:∀x∈names,x.length<=100) (h5:k=6->names.length=l.length) (h6:∀c∈l,dw b c)
   (h7:aN [115,105,122,101] (λc=>c.n<=af6) names l) (h8:aN [110,97,109,101] (λc=>iR c.s) names l):dw b (.mk k n s l names)
abbrev aC:aa->Prop:=dw 8
abbrev iE:aa->Prop:=dw 7
structure rG(m:Nat)(t:ab):Prop where
 items:0<=t.items∧t.items<m
 fields:∀f∈t.fields,(0<=f.typ∧f.typ<m∧aC f.df)∧f.name.length<=100∧iR f.name
 nf:t.fields.length<=8
 branches:∀b∈t.branches,0<=b∧b<(m:Int)
 nb:t.branches.length<=100
 ns:t.syms.length<=100
 size:0<=t.size∧t.size<=af6
 kind:1<=t.kind∧t.kind<=14
 nl:t.name.length<=5000
 sl:∀s∈t.syms,s.length<=100
 fk:t.kind≠9->t.fields=[]
def af7(w:Nat->Nat):Nat->Nat
 |0=>0
 |k+1=>af7 w k+w k
inductive hU(ts:List ab)(n:Nat):Int->Nat->Prop where
 |leaf (i:Int) (t:ab) (h0:0<=i) (h:ts[i.toNat]? =some t) (hk:t.kind<=11):hU ts n i 1
 |arr (i:Int) (t:ab) (b:Nat) (h0:0<=i) (hn:n<=i.toNat) (h:ts[i.toNat]? =some t) (hk:t.kind=12∨t.kind=13) (hr:hU ts n t.items b):hU ts n i (b+1)
 |uni (i:Int) (t:ab) (w:Nat->Nat) (h0:0<=i) (hn:n<=i.toNat) (h:ts[i.toNat]? =some t) (hk:t.kind=14) (hr:∀(k:Nat) c,t.branches[k]? =some c->hU ts n c (w k)):hU ts n i (af7 w t.branches.length+1)
abbrev ajw:Nat:=1000000
def w7(a:List ab)(i:Nat)(t:ab):Prop:=∀f∈t.fields,∃b,b<=ajw∧hU a i f.typ b
structure gU(ts:List ab)(e:Int)(ts':List ab)(e':Int):Prop where
 len:ts.length<=ts'.length
 cap:ts'.length<=60
 err:e'=0->e=0
 old:e'=0->∀i,i<ts.length->ts'[i]? =ts[i]?
 new:e'=0->∀(i:Nat) t,ts.length<=i->ts'[i]? =some t->rG ts'.length t
 ext:e'=0->∀(i:Nat) t,ts.length<=i->ts'[i]? =some t->w7 ts' i t
def At(d:List ab)(m:Nat)(a:Int)(c:List ab):Prop:=(0<=a∧a<c.length)∧(∃b,b<=m∧hU c d.length a b)∧(d=[]->a=0)
def kP(l:List UInt8)(n:Int):Prop:=0<=n∧n<=l.length∧l.length<=1000
def lE:Nat->Nat
 |0=>1
 |k+1=>1+4*lE k
def oo:Nat->Nat
 |0=>20
 |k+1=>50+4*oo k
def ce(l:List (List UInt8)):Prop:=∀x∈l,x.length<=100
def pc(l:List UInt8)(n m:Int)(r:Int×List UInt8×Int):Prop:=0<=r.1∧r.1<m∧r.2.1=l∧kP l r.2.2
def oq(l:List UInt8)(n:Int)(r:Bool×List UInt8×Int):Prop:=r.2.1=l∧r.2.2=n
def ti(l:List UInt8)(r:List UInt8×Int):Prop:=r=(l,0)
def tj(s:List UInt8)(r:Int×Int×List UInt8×List aa×List (List UInt8)):Prop:=r=(4,0,s,[],[])
def sv(b:Bool)(names:List (List UInt8))(a:Bool)(l:List aa)(r:Int×Int×List UInt8×Bool×List aa×Bool×List (List UInt8)):Prop:=r=(6,0,[],a,l,b,names)
def ajM(o:Option aa):Int×Int×List UInt8×List aa×List (List UInt8)×Bool:=match o with
 |some c=>(c.kind,c.n,c.s,c.l,c.names,true)
 |none=>(0,0,[],[],[],false)
def mV(k n:Int)(s:List UInt8)(l:List aa)(names:List (List UInt8))(name:List UInt8)(r:Int×Int×List UInt8×List aa×List (List UInt8)×Bool):Prop:=r=ajM (fL names l name)
def ajI(a:List UInt8)(r:Int×Int×List UInt8×List aa×List (List UInt8)×List UInt8×Int):Prop:=
 (iE (.mk r.1 r.2.1 r.2.2.1 r.2.2.2.1 r.2.2.2.2.1)∧szJ (.mk r.1 r.2.1 r.2.2.1 r.2.2.2.1 r.2.2.2.2.1)<=oo 5)∧r.2.2.2.2.2.1=a∧kP a r.2.2.2.2.2.2
def af8(k:Nat)(a:List UInt8)(b:List (List UInt8))(r:Int×Int×List UInt8×List aa×List (List UInt8)×List UInt8×Int×List (List UInt8)):Prop:=
 (iE (.mk r.1 r.2.1 r.2.2.1 r.2.2.2.1 r.2.2.2.2.1)∧szJ (.mk r.1 r.2.1 r.2.2.1 r.2.2.2.1 r.2.2.2.2.1)<=oo k)∧r.2.2.2.2.2.1=a∧kP a r.2.2.2.2.2.2.1∧ce r.2.2.2.2.2.2.2∧r.2.2.2.2.2.2.2.length<=b.length+lE k
def dx(a:List UInt8)(n:Int)(b:List (List UInt8))(deep:Int)(r:Int×Int×List UInt8×List aa×List (List UInt8)×List UInt8×Int×List (List UInt8)):Prop:=af8 (5-deep.toNat) a b r
def nC(a:List UInt8)(n:Int)(b:List (List UInt8))(deep:Int)(r:Int×Int×List UInt8×List aa×List (List UInt8)×List UInt8×Int×List (List UInt8)):Prop:=af8 (5-deep.toNat) a b r
def mD(a:List UInt8)(n:Int)(b:List (List UInt8))(name:List UInt8)(deep:Int)(r:Int×Int×List UInt8×List aa×List (List UInt8)×List UInt8×Int×List (List UInt8)):Prop:=
 af8 (5-deep.toNat) a b r∧r.2.2.2.2.2.2.2.length+1<=b.length+lE (5-deep.toNat)
def dE(a:List UInt8)(n c e:Int)(f:List UInt8)(d:List aa)(b:List (List UInt8))(r:Int×Int×List UInt8×List aa×List (List UInt8)×List UInt8×Int):Prop:=
 iE (.mk r.1 r.2.1 r.2.2.1 r.2.2.2.1 r.2.2.2.2.1)∧szJ (.mk r.1 r.2.1 r.2.2.1 r.2.2.2.1 r.2.2.2.2.1)=1∧r.2.2.2.2.2.1=a∧kP a r.2.2.2.2.2.2
def mE(a:List UInt8)(n:Int)(r:Int×Int×List UInt8×List aa×List (List UInt8)×List UInt8×Int):Prop:=ajI a r
def zV(a:List ab)(i:Nat)(l:List aq):Prop:=l.length<=8∧(∀f∈l,(0<=f.typ∧f.typ<a.length∧aC f.df)∧f.name.length<=100∧iR f.name)∧∀f∈l,∃b,b<=ajw∧hU a i f.typ b
def pQ:List (List UInt8):=[[110,117,108,108],[98,111,111,108,101,97,110],[105,110,116],[108,111,110,103],[102,108,111,97,116],[100,111,117,98,108,101],[98,121,116,101,115],[115,116,114,105,110,103],[114,101,99,111,114,100],[101,110,117,109],[102,105,120,101,100],[97,114,114,97,121],[109,97,112],[117,110,105,111,110]]
def sA(k:Int):List UInt8:=if 1<=k∧k<=14 then pQ.getD (k-1).toNat [] else []
def ahb:List UInt8->Nat->Option Nat
 | [],_=>none
 |b::s,c=>if b.toNat=c then some 0 else (ahb s c).map (·+1)
def indexB(s:List UInt8)(c:Int):Int:=match ahb s c.toNat with|some k=>(k:Int)|none=>-1
instance:Inhabited aa:=⟨.mk 0 0 [] [] []⟩
abbrev ac0:List UInt8:=[110,97,109,101]
abbrev yF:List UInt8:=[116,121,112,101]
abbrev qB(s:List UInt8):aa:=.mk 4 0 s [] []
abbrev abA(names:List (List UInt8))(l:List aa):aa:=.mk 6 0 [] l names
abbrev ah1(l:List aa):aa:=.mk 5 0 [] l []
def tyA(a:List ab)(t:Int):ab:=a.getD t.toNat (ao .atype)
inductive Tk where
 |node (t:Int)
 |row (bs:List Int)
 |flds (fs:List aq)
inductive TR(ts:List ab):Tk->List Int->List aa->List Int->Prop where
 |arr (t:Int) (L:List Int) (j:aa) (L':List Int) (hk:(tyA ts t).kind=12) (h:TR ts (.node (tyA ts t).items) L [j] L'):
   TR ts (.node t) L [abA [yF,[105,116,101,109,115]] [qB [97,114,114,97,121],j]] L'
 |map (t:Int) (L:List Int) (j:aa) (L':List Int) (hk:(tyA ts t).kind=13) (h:TR ts (.node (tyA ts t).items) L [j] L'):
   TR ts (.node t) L [abA [yF,[118,97,108,117,101,115]] [qB [109,97,112],j]] L'
 |uni (t:Int) (L:List Int) (js:List aa) (L':List Int) (hk:(tyA ts t).kind=14) (h:TR ts (.row (tyA ts t).branches) L js L'):TR ts (.node t) L [ah1 js] L'
 |told (t:Int) (L:List Int) (hk:9<=(tyA ts t).kind∧(tyA ts t).kind<=11) (hm:t∈L):TR ts (.node t) L [qB (tyA ts t).name] L
 |fix (t:Int) (L:List Int) (hk:(tyA ts t).kind=11) (hm:0<=t∧t ∉ L):
   TR ts (.node t) L [abA [ac0,yF,[115,105,122,101]] [qB (tyA ts t).name,qB (sA 11),.mk 3 (tyA ts t).size [] [] []]] (L++[t])
 |enum (t:Int) (L:List Int) (hk:(tyA ts t).kind=10) (hm:0<=t∧t ∉ L):
   TR ts (.node t) L [abA [ac0,yF,[115,121,109,98,111,108,115]] [qB (tyA ts t).name,qB (sA 10),ah1 ((tyA ts t).syms.map qB)]] (L++[t])
 |rcd (t:Int) (L:List Int) (js:List aa) (L':List Int) (hk:(tyA ts t).kind=9) (hm:0<=t∧t ∉ L) (h:TR ts (.flds (tyA ts t).fields) (L++[t]) js L'):
   TR ts (.node t) L [abA [ac0,yF,[102,105,101,108,100,115]] [qB (tyA ts t).name,qB (sA 9),ah1 js]] L'
 |prim (t:Int) (L:List Int) (hk:(tyA ts t).kind<=8):TR ts (.node t) L [qB (sA (tyA ts t).kind)] L
 |rnil (L:List Int):TR ts (.row []) L [] L
 |rcons (b:Int) (bs L:List Int) (j:aa) (L1:List Int) (js:List aa) (L2:List Int) (h:TR ts (.node b) L [j] L1) (hr:TR ts (.row bs) L1 js L2):TR ts (.row (b::bs)) L (j::js) L2
 |fnil (L:List Int):TR ts (.flds []) L [] L
 |fcons (f:aq) (fs:List aq) (L:List Int) (j:aa) (L1:List Int) (js:List aa) (L2:List Int) (h:TR ts (.node f.typ) L [j] L1) (hr:TR ts (.flds fs) L1 js L2):
   TR ts (.flds (f::fs)) L (abA [ac0,yF] [qB f.name,j]::js) L2
def sB(r:List (List UInt8)):Prop:=r=[]::pQ
def jH(k:Int)(r:List UInt8):Prop:=r=sA k
def jk:List UInt8:=[65,66,67,68,69,70,71,72,73,74,75,76,77,78,79,80,81,82,83,84,85,86,87,88,89,90,97,98,99,100,101,102,103,104,105,106,107,108,109,110,111,112,113,114,115,116,117,118,119,120,121,122,95]
def nD:List UInt8:=[48,49,50,51,52,53,54,55,56,57]
abbrev MS:=List (List UInt8×Int)×List ab×Int×Int
def qC(s:List UInt8)(c:UInt8):Bool:=decide (0<=Go.Lib.indexByte s c)
def i9(s:List UInt8):Bool:= !decide (s=[])&&decide (Go.Lib.trimS s (jk++nD)=[])&&qC jk (s.headD 0)
def cF:List (List UInt8)->List UInt8->Int
 | [],_=>-1
 |x::l,s=>if x=s then 0 else if cF l s<0 then -1 else cF l s+1
def ma(s:List UInt8):Int:=Go.Lib.lastIndexByte ⟨s.toArray⟩ 46
def bm(s:List UInt8):List UInt8:=s.take (ma s).toNat
def ahc(s:List UInt8):List UInt8:=s.drop (ma s+1).toNat
def zW(a:List ab)(i:Int):List UInt8:=if 0<=i∧i<(a.length:Int) then (if (a.getD i.toNat (ao .atype)).name≠[] then (a.getD i.toNat (ao .atype)).name else sA (a.getD i.toNat (ao .atype)).kind) else []
def ajJ(o:Option aa):aa×Bool:=match o with
 |some c=>(c,true)
 |none=>(.mk 0 0 [] [] [],false)
def a7(n:aa)(name:List UInt8):aa×Bool:=ajJ (if n.kind=6 then fL n.names n.l name else none)
def au(m:MS)(b:Bool)(c:Int):MS:=(m.1,m.2.1,if b=true∧m.2.2.1=0 then c else m.2.2.1,m.2.2.2)
def bX(m:MS)(t:ab):Int×MS:=if m.2.2.1≠0∨60<=m.2.1.length then (0,au m (decide (60<=m.2.1.length)) 3) else (m.2.1.length,m.1,m.2.1++[t],m.2.2.1,m.2.2.2)
def fb(k:Int):ab:=⟨k,[],[],0,[],false,[],0,[],[]⟩
def ja(m:MS)(name a:List UInt8):List UInt8×MS:=
 let b:=if qC name 46=false∧a≠[] then a++[46]++name else name
 (b,au m ((Go.Lib.split b [46]).any λs=> !i9 s) 6)
def jI(m:MS)(s a:List UInt8):Int×MS:=
 if a≠[]∧qC s 46=false∧(aU (k:=.sn) m.1 (a++[46]++s)).isSome=true then (iy (k:=.sn) m.1 (a++[46]++s),m)
 else (iy (k:=.sn) m.1 s,au m (!(aU (k:=.sn) m.1 s).isSome) 4)
def fc(m:MS)(s a:List UInt8):Int×MS:=if 1<=cF ([]::pQ) s∧cF ([]::pQ) s<=8 then bX m (fb (cF ([]::pQ) s)) else jI m s a
def tl:List aa->MS->MS
 | [],m=>m
 |x::l,m=>tl l (au m (!(x.kind==4)) 2)
def dF(m:MS)(n:aa):List (List UInt8)×MS:=(n.l.map aa.s,tl n.l (au m (!(n.kind==5)) 2))
def mb(m:MS)(n:aa):List UInt8×MS:=((a7 n [110,97,109,101]).1.s,au m (!((a7 n [110,97,109,101]).1.kind ==4)) 2)
def gc(a:MS->List UInt8->List UInt8×MS):List (List UInt8)->List (List UInt8)->MS->List (List UInt8)×MS
 | [],l,m=>(l,m)
 |s::b,l,m=>if m.2.2.1=0 then gc a b (l++[(a m s).1]) (a m s).2 else gc a b l m
def aD(a:MS->List UInt8->List UInt8×MS)(m:MS)(n:aa):List (List UInt8)×MS:=
 let g:=a7 n [97,108,105,97,115,101,115]
 if g.2=true then gc a (dF m g.1).1 [] (dF m g.1).2 else ([],m)
def dy(a:List UInt8)(m:MS)(s:List UInt8):List UInt8×MS:=ja m s a
def jJ(m:MS)(s:List UInt8):List UInt8×MS:=(s,au m (!i9 s) 6)
abbrev TF:=MS->aa->List UInt8->Int×MS
def zX(t:ab)(x:Int):ab:={t with items:=x}
def sP(t:ab)(x:List Int):ab:={t with branches:=x}
def atT(m:MS)(i:Int)(f:ab->ab):MS:=(m.1,m.2.1.set i.toNat (f (m.2.1.getD i.toNat (ao .atype))),m.2.2.1,m.2.2.2)
def dG(T:TF)(m:MS)(n:aa)(kind:Int)(c b:List UInt8):Int×MS:=
 let a:=bX m (fb kind);let g:=a7 n c;let t:=T (au a.2 (!g.2) 2) g.1 b
 (a.1,if t.2.2.2.1=0 then atT t.2 a.1 (zX · t.1) else t.2)
def eE(T:TF)(a:List UInt8):List aa->List Int->List (List UInt8×Bool)->MS->List Int×MS
 | [],l,_,m=>(l,m)
 |x::xs,l,b,m=>if m.2.2.1=0 then
   let t:=T m x a
   if t.2.2.2.1=0 then
    let c:=zW t.2.2.1 t.1
    eE T a xs (l++[t.1]) (bz (k:=.sb) b c true) (au t.2 ((t.2.2.1.getD t.1.toNat (ao .atype)).kind==14||iy (k:=.sb) b c) 6)
   else (l,t.2)
  else (l,m)
def di(T:TF)(m:MS)(n:aa)(b:List UInt8):Int×MS:=
 let a:=bX m (fb 14);let r:=eE T b n.l [] [] (au (au a.2 (decide (n.l.length=0)) 6) (decide (30<n.l.length)) 3)
 (a.1,if r.2.2.2.1=0 then atT r.2 a.1 (sP · r.1) else r.2)
def c8(T:TF)(m:MS)(n:aa)(names:List (List UInt8×Bool))(a:List UInt8):aq×MS×List (List UInt8×Bool):=
 let b:=mb (au m (!(n.kind==6)) 2) n;let g:=a7 n [116,121,112,101];let t:=T (au (au (au b.2 (!i9 b.1) 6) (iy (k:=.sb) names b.1) 5) (!g.2) 2) g.1 a;let d:=a7 n [100,101,102,97,117,108,116];let c:=aD jJ t.2 n
 (⟨b.1,c.1,t.1,d.2,d.1⟩,c.2,bz (k:=.sb) names b.1 true)
def cY(T:TF)(a:List UInt8):List aa->List aq->List (List UInt8×Bool)->MS->List aq×MS
 | [],l,_,m=>(l,m)
 |x::xs,l,names,m=>if m.2.2.1=0 then
   let f:=c8 T m x names a
   cY T a xs (l++[f.1]) f.2.2 f.2.1
  else cY T a xs l names m
def dz(T:TF)(m:MS)(b:List aq)(n:aa)(a:List UInt8):List aq×MS:=
 let g:=a7 n [102,105,101,108,100,115]
 cY T a g.1.l b [] (au (au m (!(g.1.kind==5)) 2) (decide (30<g.1.l.length)) 3)
def le:List (List UInt8)->List (List UInt8)->MS->MS
 |_,[],m=>m
 |before,s::a,m=>le (before++[s]) a (au (au m (!i9 s) 6) (decide (0<=cF before s)) 5)
def cp(m:MS)(n:aa)(a:Bool)(df:List UInt8):(List (List UInt8)×Bool×List UInt8)×MS:=
 let g:=a7 n [115,121,109,98,111,108,115];let t:=dF (au m (!g.2) 2) g.1;let b:=le [] t.1 (au (au t.2 (decide (t.1.length=0)) 6) (decide (30<t.1.length)) 3);let d:=a7 n [100,101,102,97,117,108,116]
 if d.2=true then ((t.1,true,d.1.s),au (au b (!(d.1.kind==4)) 2) (!decide (0<=cF t.1 d.1.s)) 6) else ((t.1,a,df),b)
def af9(x:Int):Int:=if x<0 then 0 else if 5000<x then 5000 else x
def w9(T:TF)(m:MS)(n:aa)(kind:Int)(b name:List UInt8)(a:List (List UInt8))(c:Int):MS:=
 if kind=9 then
  let f:=dz T m [] n b
  if f.2.2.2.1=0 then atT f.2 c (λ_=>⟨kind,name,a,0,[],false,[],0,f.1,[]⟩) else f.2
 else if kind=10 then
  let s:=cp m n false []
  if s.2.2.2.1=0 then atT s.2 c (λ_=>⟨kind,name,a,0,s.1.1,s.1.2.1,s.1.2.2,0,[],[]⟩) else s.2
 else
  let g:=(a7 n [115,105,122,101]).1;let h:=au (au m (!(g.kind==3)) 2) (decide (g.n<0)||decide (5000<g.n)) 6
  if h.2.2.1=0 then atT h c (λ_=>⟨kind,name,a,0,[],false,[],af9 g.n,[],[]⟩) else h
def kj(T:TF)(m:MS)(n:aa)(kind:Int)(w:List UInt8×MS):Int×MS:=
 let b:=aD (dy (bm w.1)) w.2 n;let a:=bX (au b.2 (aU (k:=.sn) b.2.1 w.1).isSome 5) ⟨kind,w.1,b.1,0,[],false,[],0,[],[]⟩
 if a.2.2.2.1=0 then (a.1,w9 T (bz (k:=.sn) a.2.1 w.1 a.1,a.2.2) n kind (bm w.1) w.1 b.1 a.1) else (0,a.2)
def dK(T:TF)(m:MS)(n:aa)(kind:Int)(a:List UInt8):Int×MS:=
 let b:=mb m n;let g:=a7 n [110,97,109,101,115,112,97,99,101]
 if g.2=true then kj T m n kind (ja (au b.2 (!(g.1.kind==4)) 2) b.1 g.1.s) else kj T m n kind (ja b.2 b.1 a)
def cS(T:TF)(m:MS)(n:aa)(a:List UInt8):Int×MS:=
 let g:=a7 n [116,121,112,101];let b:=au m (!g.2) 2
 if g.1.kind≠4 then T b g.1 a
 else if g.1.s=[114,101,99,111,114,100] then dK T b n 9 a
 else if g.1.s=[101,110,117,109] then dK T b n 10 a
 else if g.1.s=[102,105,120,101,100] then dK T b n 11 a
 else if g.1.s=[97,114,114,97,121] then dG T b n 12 [105,116,101,109,115] a
 else if g.1.s=[109,97,112] then dG T b n 13 [118,97,108,117,101,115] a
 else fc b g.1.s a
def fU(m:MS)(d:Int):MS:=(m.1,m.2.1,m.2.2.1,d)
def aS:Nat->TF
 |0,m,_,_=>(0,au m true 3)
 |k+1,m,n,a=>
  if m.2.2.1≠0 then (0,m) else
  let b:=au (fU m (m.2.2.2+1)) (decide (20<m.2.2.2+1)) 3
  if b.2.2.1≠0 then (0,fU b m.2.2.2) else
  let r:=if n.kind=4 then fc b n.s a else if n.kind=5 then di (aS k) b n a else if n.kind=6 then cS (aS k) b n a else (0,au b true 2)
  (r.1,fU r.2 m.2.2.2)
def aK(d:Int):TF:=aS (21-d.toNat)
def hY(n:aa):List ab×Int:=
 let t:=aS 21 ([],[],0,0) n []
 if t.2.2.2.1=0 then (t.2.2.1,0) else ([],t.2.2.2.1)
section
variable(o0:List (List UInt8×Int))(o1:List ab)(e d:Int)
def yJ(a b r:List UInt8):Prop:=r=Go.Lib.trimS a b
def xc(a b:List UInt8)(r:List (List UInt8)):Prop:=r=Go.Lib.split a b
def tm(a b:List UInt8)(r:Bool):Prop:=r=qC a (b.headD 0)
def qD(a:List UInt8)(b r:Int):Prop:=r=Go.Lib.lastIndexByte ⟨a.toArray⟩ b
def tp(s:List UInt8)(r:Bool):Prop:=r=i9 s
def sC(s r:List UInt8):Prop:=r=bm s
def ot(s r:List UInt8):Prop:=r=ahc s
def qE(a:List ab)(i:Int)(r:List UInt8):Prop:=r=zW a i
def kF(n:aa)(name:List UInt8)(r:aa×Bool):Prop:=r=a7 n name
def ej(l:List (List UInt8))(s:List UInt8)(r:Int):Prop:=r=cF l s
def gZ(l:List (List UInt8))(s:List UInt8)(r:Bool):Prop:=r=decide (0<=cF l s)
def lF(s:List UInt8)(r:Bool):Prop:=r= !i9 s
def cB(l:List (List UInt8))(r:Int):Prop:=decide (0<=r)=l.any λs=> !i9 s
def cf(l:List (List UInt8))(r:Bool):Prop:=r=l.any λs=> !i9 s
def de(l r:List aa):Prop:=r=l
def ek(l r:List (List UInt8)):Prop:=r=l
def cT(l r:List aa):Prop:=r=l
def abB(n r:aa):Prop:=r=n
def rH(n r:aa):Prop:=r=n
def rI(n r:aa):Prop:=r=n
def d5(b:Bool)(c:Int)(r:MS):Prop:=r=au (o0,o1,e,d) b c
def iG(t:ab)(r:Int×MS):Prop:=r=bX (o0,o1,e,d) t
def jK(n:aa)(r:List (List UInt8)×MS):Prop:=r=dF (o0,o1,e,d) n
def ou(n:aa)(r:List UInt8×MS):Prop:=r=mb (o0,o1,e,d) n
def gH(name a:List UInt8)(r:List UInt8×MS):Prop:=r=ja (o0,o1,e,d) name a
def d6(s a:List UInt8)(r:Int×MS):Prop:=r=jI (o0,o1,e,d) s a
def eF(s a:List UInt8)(r:Int×MS):Prop:=r=fc (o0,o1,e,d) s a
def nE(n:aa)(kind:Int)(b a:List UInt8)(r:Int×MS):Prop:=r=dG (aK d) (o0,o1,e,d) n kind b a
def jL(n:aa)(a:List UInt8)(r:Int×MS):Prop:=r=di (aK d) (o0,o1,e,d) n a
def gI(n:aa)(a:List UInt8)(r:Int×MS):Prop:=r=cS (aK d) (o0,o1,e,d) n a
def eG(n:aa)(a:List UInt8)(r:Int×MS):Prop:=r=aK d (o0,o1,e,d) n a
def pd(n:aa)(kind:Int)(a:List UInt8)(r:Int×MS):Prop:=r=dK (aK d) (o0,o1,e,d) n kind a
abbrev MS1(α:Type):=List (List UInt8×Int)×List ab×Int×Int×α
def msX{α:Type}(m:MS)(x:α):MS1 α:=(m.1,m.2.1,m.2.2.1,m.2.2.2,x)
def mF(a s:List UInt8)(r:List UInt8×MS1 (List UInt8)):Prop:=r=((dy a (o0,o1,e,d) s).1,msX (dy a (o0,o1,e,d) s).2 a)
def eo(a:List UInt8)(n:aa)(r:List (List UInt8)×MS1 (List UInt8)):Prop:=r=((aD (dy a) (o0,o1,e,d) n).1,msX (aD (dy a) (o0,o1,e,d) n).2 a)
def lG(s:List UInt8)(r:List UInt8×MS):Prop:=r=jJ (o0,o1,e,d) s
def dX(n:aa)(r:List (List UInt8)×MS):Prop:=r=aD jJ (o0,o1,e,d) n
def nF(names:List (List UInt8×Bool))(n:aa)(a:List UInt8)(r:aq×MS1 (List (List UInt8×Bool))):Prop:=
 r=((c8 (aK d) (o0,o1,e,d) n names a).1,msX (c8 (aK d) (o0,o1,e,d) n names a).2.1 (c8 (aK d) (o0,o1,e,d) n names a).2.2)
abbrev T10:=Int×List UInt8×List (List UInt8)×Int×List (List UInt8)×Bool×List UInt8×Int×List aq×List Int
def jl(k:Int)(h:List UInt8)(c:List (List UInt8))(it:Int)(b:List (List UInt8))(g:Bool)(df:List UInt8)(sz:Int)(fs:List aq)(f:List Int)(n:aa)(a:List UInt8)(r:MS1 T10):Prop:=
 r=msX (dz (aK d) (o0,o1,e,d) fs n a).2 (k,h,c,it,b,g,df,sz,(dz (aK d) (o0,o1,e,d) fs n a).1,f)
def mj(k:Int)(f:List UInt8)(b:List (List UInt8))(it:Int)(g:List (List UInt8))(a:Bool)(df:List UInt8)(sz:Int)(fs:List aq)(c:List Int)(n:aa)(r:MS1 T10):Prop:=
 r=msX (cp (o0,o1,e,d) n a df).2 (k,f,b,it,(cp (o0,o1,e,d) n a df).1.1,(cp (o0,o1,e,d) n a df).1.2.1,(cp (o0,o1,e,d) n a df).1.2.2,sz,fs,c)
def pG(n:aa)(r:List ab×Int):Prop:=r=hY n
end
def rJ(n:aa)(r:List ab×Int):Prop:=r=hY n
def rK(r:Bool):Prop:=r=true
def fm(p q:List UInt8)(h:Int)(r:Bool):Prop:=r=true
def sD(n r:aa):Prop:=iE n->aC r∧szJ r<=2*szJ n∧(n.n<=255->r.n<=255)∧(iR n.s->iR r.s)
def qN(n:aa)(b:List UInt8)(a:Int)(r:aa):Prop:=sD n r
abbrev aeJ:=Bs×Int
noncomputable def pR(a:Bs)(r:aeJ):Prop:=mU Tryd.prog 12 [vF .u8 a] [vF .u8 r.1,vI r.2]∧ti a r
noncomputable def aeK:nk Tryd.prog:=.mk 12 λ
 | [.sl .u8 (.may _) a]=>pk (pR a) λr=>[.sl .u8 (.may false) r.1,.int .i64 r.2]
 |_=>none
abbrev pe:=Int×Int×Bs×List aa×Bss×Bs×Int
noncomputable def iH(a:Bs)(b:Int)(r:pe):Prop:=aP Tryd.prog 13 [.ptr 0 0] [[vF .u8 a,vI b]] (.agg [vI r.1,vI r.2.1,vT r.2.2.1,vF .jnode r.2.2.2.1,vF .str r.2.2.2.2.1]) [[vF .u8 r.2.2.2.2.2.1,vI r.2.2.2.2.2.2]]∧mE a b r
noncomputable def vD:bV Tryd.prog:=.mk 13 λ
 | [.ptr 0 0],[[.sl .u8 (.may false) a,.int .i64 b]]=>pk (iH a b) λr=>(.agg [vI r.1,vI r.2.1,vT r.2.2.1,vF .jnode r.2.2.2.1,vF .str r.2.2.2.2.1],[[vF .u8 r.2.2.2.2.2.1,vI r.2.2.2.2.2.2]])
 |_,_=>none
abbrev kQ:=Int×Int×Bs×List aa×Bss×Bs×Int×Bss
noncomputable def fp(a:Bs)(b:Int)(c:Bss)(d:Bs)(e:Int)(r:kQ):Prop:=aP Tryd.prog 24 [.ptr 0 0,vT d,vI e,.ptr 1 0] [[vF .u8 a,vI b],[vO .str c]] (.agg [vI r.1,vI r.2.1,vT r.2.2.1,vF .jnode r.2.2.2.1,vF .str r.2.2.2.2.1]) [[vF .u8 r.2.2.2.2.2.1,vI r.2.2.2.2.2.2.1],[vO .str r.2.2.2.2.2.2.2]]∧mD a b c d e r
noncomputable def pf:bV Tryd.prog:=.mk 24 λ
 | [.ptr 0 0,.str d,.int .i64 e,.ptr 1 0],[[.sl .u8 (.may false) a,.int .i64 b],[.sl .str .own c]]=>pk (fp a b c d e) λr=>(.agg [vI r.1,vI r.2.1,vT r.2.2.1,vF .jnode r.2.2.2.1,vF .str r.2.2.2.2.1],[[vF .u8 r.2.2.2.2.2.1,vI r.2.2.2.2.2.2.1],[vO .str r.2.2.2.2.2.2.2]])
 |_,_=>none
abbrev aga:=Int×Int×Bs×List aa×Bss×Bool
abbrev zY:=Int×Bs×Int
noncomputable def aL(a:Bs)(b c:Int)(r:zY):Prop:=aP Tryd.prog 45 [.ptr 0 0,vI c] [[vF .u8 a,vI b]] (vI r.1) [[vF .u8 r.2.1,vI r.2.2]]∧pc a b c r
noncomputable def km:bV Tryd.prog:=.mk 45 λ
 | [.ptr 0 0,.int .i64 c],[[.sl .u8 (.may false) a,.int .i64 b]]=>pk (aL a b c) λr=>(vI r.1,[[vF .u8 r.2.1,vI r.2.2]])
 |_,_=>none
noncomputable def cl(a:Bs)(b:Int)(c:Bss)(d:Int)(r:kQ):Prop:=aP Tryd.prog 46 [.ptr 0 0,vI d,.ptr 1 0] [[vF .u8 a,vI b],[vO .str c]] (.agg [vI r.1,vI r.2.1,vT r.2.2.1,vF .jnode r.2.2.2.1,vF .str r.2.2.2.2.1]) [[vF .u8 r.2.2.2.2.2.1,vI r.2.2.2.2.2.2.1],[vO .str r.2.2.2.2.2.2.2]]∧dx a b c d r
noncomputable def ms:bV Tryd.prog:=.mk 46 λ
 | [.ptr 0 0,.int .i64 d,.ptr 1 0],[[.sl .u8 (.may false) a,.int .i64 b],[.sl .str .own c]]=>pk (cl a b c d) λr=>(.agg [vI r.1,vI r.2.1,vT r.2.2.1,vF .jnode r.2.2.2.1,vF .str r.2.2.2.2.1],[[vF .u8 r.2.2.2.2.2.1,vI r.2.2.2.2.2.2.1],[vO .str r.2.2.2.2.2.2.2]])
 |_,_=>none
abbrev adz:=Int×Int×Bs×Bool×List aa×Bool×Bss
noncomputable def dQ(a:Bool)(c:Bss)(b:Bool)(d:List aa)(r:adz):Prop:=aI Tryd.prog 47 [.sl .str (.may a) c,.sl .jnode (.may b) d] (.agg [vI r.1,vI r.2.1,vT r.2.2.1,.sl .jnode (.may r.2.2.2.1) r.2.2.2.2.1,.sl .str (.may r.2.2.2.2.2.1) r.2.2.2.2.2.2])∧sv a c b d r
noncomputable def xd:cM Tryd.prog:=.mk 47 λ
 | [.sl .str (.may a) c,.sl .jnode (.may b) d]=>pk (dQ a c b d) λr=>.agg [vI r.1,vI r.2.1,vT r.2.2.1,.sl .jnode (.may r.2.2.2.1) r.2.2.2.2.1,.sl .str (.may r.2.2.2.2.2.1) r.2.2.2.2.2.2]
 |_=>none
abbrev aeL:=Int×Int×Bs×List aa×Bss
noncomputable def aO(a:Bs)(r:aeL):Prop:=aI Tryd.prog 48 [vT a] (.agg [vI r.1,vI r.2.1,vT r.2.2.1,vF .jnode r.2.2.2.1,vF .str r.2.2.2.2])∧tj a r
noncomputable def pS:cM Tryd.prog:=.mk 48 λ
 | [.str a]=>pk (aO a) λr=>.agg [vI r.1,vI r.2.1,vT r.2.2.1,vF .jnode r.2.2.2.1,vF .str r.2.2.2.2]
 |_=>none
noncomputable def hZ(a:Bs)(b c d:Int)(e:Bs)(f:List aa)(g:Bss)(r:pe):Prop:=aP Tryd.prog 49 [.ptr 0 0,.agg [vI c,vI d,vT e,vF .jnode f,vF .str g]] [[vF .u8 a,vI b]] (.agg [vI r.1,vI r.2.1,vT r.2.2.1,vF .jnode r.2.2.2.1,vF .str r.2.2.2.2.1]) [[vF .u8 r.2.2.2.2.2.1,vI r.2.2.2.2.2.2]]∧dE a b c d e f g r
noncomputable def uu:bV Tryd.prog:=.mk 49 λ
 | [.ptr 0 0,.agg [.int .i64 a,.int .i64 b,.str c,.sl .jnode (.may _) d,.sl .str (.may _) e]],[[.sl .u8 (.may false) f,.int .i64 g]]=>pk (hZ f g a b c d e) λr=>(.agg [vI r.1,vI r.2.1,vT r.2.2.1,vF .jnode r.2.2.2.1,vF .str r.2.2.2.2.1],[[vF .u8 r.2.2.2.2.2.1,vI r.2.2.2.2.2.2]])
 |_,_=>none
abbrev yK:=Bool×Bs×Int
noncomputable def jB(a:Bs)(b:Int)(r:yK):Prop:=aP Tryd.prog 83 [.ptr 0 0] [[vF .u8 a,vI b]] (vB r.1) [[vF .u8 r.2.1,vI r.2.2]]∧oq a b r
noncomputable def yL:bV Tryd.prog:=.mk 83 λ
 | [.ptr 0 0],[[.sl .u8 (.may false) a,.int .i64 b]]=>pk (jB a b) λr=>(vB r.1,[[vF .u8 r.2.1,vI r.2.2]])
 |_,_=>none
noncomputable def jb(a:Bs)(b:Int)(c:Bss)(d:Int)(r:kQ):Prop:=aP Tryd.prog 84 [.ptr 0 0,vI d,.ptr 1 0] [[vF .u8 a,vI b],[vO .str c]] (.agg [vI r.1,vI r.2.1,vT r.2.2.1,vF .jnode r.2.2.2.1,vF .str r.2.2.2.2.1]) [[vF .u8 r.2.2.2.2.2.1,vI r.2.2.2.2.2.2.1],[vO .str r.2.2.2.2.2.2.2]]∧nC a b c d r
noncomputable def xf:bV Tryd.prog:=.mk 84 λ
 | [.ptr 0 0,.int .i64 d,.ptr 1 0],[[.sl .u8 (.may false) a,.int .i64 b],[.sl .str .own c]]=>pk (jb a b c d) λr=>(.agg [vI r.1,vI r.2.1,vT r.2.2.1,vF .jnode r.2.2.2.1,vF .str r.2.2.2.2.1],[[vF .u8 r.2.2.2.2.2.1,vI r.2.2.2.2.2.2.1],[vO .str r.2.2.2.2.2.2.2]])
 |_,_=>none
noncomputable def ov(a b:Int)(c:Bs)(d:List aa)(e:Bss)(f:Bs)(r:aga):Prop:=aI Tryd.prog 85 [.agg [vI a,vI b,vT c,vF .jnode d,vF .str e],vT f] (.tup [.agg [vI r.1,vI r.2.1,vT r.2.2.1,vF .jnode r.2.2.2.1,vF .str r.2.2.2.2.1],vB r.2.2.2.2.2])∧mV a b c d e f r
noncomputable def agb:cM Tryd.prog:=.mk 85 λ
 | [.agg [.int .i64 a,.int .i64 b,.str c,.sl .jnode (.may _) d,.sl .str (.may _) e],.str f]=>pk (ov a b c d e f) λr=>.tup [.agg [vI r.1,vI r.2.1,vT r.2.2.1,vF .jnode r.2.2.2.1,vF .str r.2.2.2.2.1],vB r.2.2.2.2.2]
 |_=>none
end Go.Proofs.YtkinflmjagfapaaDoor
namespace Go.AM
def DX:Nat:=1000000
def ff:IR->IR
 | .exit i=>cond (Av i DX) .ret (.exit i)
 | .seq a b=>.seq (ff a) (ff b)
 | .cond c a b=>.cond c (ff a) (ff b)
 | .block i a=>.block i (ff a)
 | .cut l m a=>.cut l m (ff a)
 | .gh g a=>.gh g (ff a)
 | .ghp g a=>.ghp g (ff a)
 |x=>x
def jm(r:Bool):IR->Bool
 | .ret=> !r
 | .exit i=>r|| !(Av i DX)
 | .seq a b=>jm r a&&jm r b
 | .cond _ a b=>jm r a&&jm r b
 | .block i a=> !(Av i DX)&&jm r a
 | .cut _ _ a=>jm r a
 | .gh _ a=>jm r a
 | .ghp _ a=>jm r a
 | .skip| .reg .. | .rgs .. =>true
 |_=>false
section
variable{R:Type}{Γ:am}{n:Nat}
theorem ahd:∀(t:IR),jm true t=true->∀(K d:Ex->St->Option R),(∀s,d .ret s=K (.exit DX) s)->(∀s,d .normal s=K .normal s)->(∀i s,i≠DX->d (.exit i) s=K (.exit i) s)->
  ∀s,run Γ n (ff t) d s=run Γ n t K s:=by
 intro t;induction t with
 |seq a b f q=>intro h K d o k p s;simp only[jm,Ab] at h;simp only[ff,run];exact f h.1 (cj (run Γ n b) K) (cj (run Γ n (ff b)) d) (λs=>o s) (λs=>q h.2 K d o k p s) (λi s v=>p i s v) s
 |cond c a b f q=>intro h K d o k p s;simp only[jm,Ab] at h;simp only[ff,run,f h.1 K d o k p,q h.2 K d o k p]
 |block i a f=>
  intro h K d o k p s;simp only[jm,Ab,Bk] at h;have w:Av DX i=false:=by
   cases r:Av DX i with
   |false=>rfl
   |true=>rw[As r,BL] at h;simp at h
  simp only[ff,run];refine f h.2 (aQ i K) (aQ i d) (λs=>?_) (λs=>k s) (λj s u=>?_) s;·simp only[aQ,w,cond_false];exact o s
  ·simp only[aQ];cases Av j i with
   |true=>exact k s
   |false=>exact p j s u
 |cut l m a f=>intro h K d o k p s;exact f h K d o k p _
 |gh g a f=>intro h K d o k p s;simp only[ff,run,f h K d o k p]
 |ghp g a f=>intro h K d o k p s;simp only[ff,run];refine f h (nY g K) (nY g d) (λs=>o s) (λs=>?_) (λj s u=>p j s u) s;simp only[nY,k]
 |exit i=>
  intro h K d o k p s;simp only[ff,run];cases r:Av i DX with
  |true=>obtain rfl:=As r;exact o s
  |false=>exact p i s (λe=>by rw[e,BL] at r;simp at r)
 |skip=>intro h K d o k p s;exact k s
 |reg l x=>intro h K d o k p s;have e:d .normal=K .normal:=funext k;simp only[ff,run,e]
 |rgs l=>intro h K d o k p s;have e:d .normal=K .normal:=funext k;simp only[ff,run,e]
 |_=>intro h;simp[jm] at h
theorem ah2:∀(r:IR),jm false r=true->∀(K d:Ex->St->Option R),(∀s,d .ret s=K .ret s)->(∀s,d .normal s=K .normal s)->(∀i s,i≠DX->d (.exit i) s=K (.exit i) s)->
  ∀s,run Γ n r d s=run Γ n r K s:=by
 intro r;induction r with
 |seq a b f q=>intro h K d o k p s;simp only[jm,Ab] at h;simp only[run];exact f h.1 (cj (run Γ n b) K) (cj (run Γ n b) d) (λs=>o s) (λs=>q h.2 K d o k p s) (λi s u=>p i s u) s
 |cond c a b f q=>intro h K d o k p s;simp only[jm,Ab] at h;simp only[run,f h.1 K d o k p,q h.2 K d o k p]
 |block i a f=>
  intro h K d o k p s;simp only[jm,Ab,Bk] at h;simp only[run];refine f h.2 (aQ i K) (aQ i d) (λs=>o s) (λs=>k s) (λj s t=>?_) s;simp only[aQ];cases Av j i with
  |true=>exact k s
  |false=>exact p j s t
 |cut l m a f=>intro h K d o k p s;exact f h K d o k p _
 |gh g a f=>intro h K d o k p s;simp only[run,f h K d o k p]
 |ghp g a f=>intro h K d o k p s;simp only[run];refine f h (nY g K) (nY g d) (λs=>o s) (λs=>?_) (λj s t=>p j s t) s;simp only[nY,k]
 |exit i=>intro h K d o k p s;simp only[jm,Cd,Bk] at h;exact p i s (λe=>by rw[e,BL] at h;simp at h)
 |skip=>intro h K d o k p s;exact k s
 |ret=>intro h K d o k p s;exact o s
 |reg l v=>intro h K d o k p s;have e:d .normal=K .normal:=funext k;simp only[run,e]
 |rgs l=>intro h K d o k p s;have e:d .normal=K .normal:=funext k;simp only[run,e]
 |_=>intro h;simp[jm] at h
end
def ajK(P:Program)(f:FuncId)(vs:List V)(hp:List ah)(v:V)(hp':List ah):Prop:=
 ∀(w:World)(g:Gh)(a:Array Value)(u:FrameMode),oa P g w->HR g hp w->vs.length=a.size->(∀x∈vs,x.bare=true)->
  (∀(i:Nat) x cv,vs[i]? =some x->a[i]? =some cv->VRel g.I g.ρ hp.length w x cv)->CallsD P f a u w λe b w'=>b=u∧RQ g hp w v hp' e w'
structure FnD(P:Program)(g:FuncId)(C:List V->List ah->Ro):Prop where
 body:lB P g=true
 ok:∀vs hp v hp',C vs hp=some (v,hp')->ajK P g vs hp v hp'
theorem FnD.of{P:Program}{Γ:am}{imp:List Nat}{f:FuncId}{fn:Func}{o:IR}{m:List RV}{n:Nat}(e:bR P Γ)(c:cd Γ imp)(d:P.funcs[f]? =some fn)(h:lB P f=true)(b:fn.body=some (fn.body.getD .skip))
  (chk:∀k,(aF P imp k o (fn.body.getD .skip)&&eD P m fn.results.toList)=true) (a:fn.results.toList.length<=5):FnD P f (pL Γ n fn.ntmps m o):=⟨h,λvs hp v hp' q w g i u p t x y r=>by
 have j:=chk hp.length;simp only[Ab] at j;exact callsD_of_wp d b (aiA e c j.1 j.2 a q p t x y r)⟩
def rL(C:List V->List ah->Ro)(cs:List V)(a:List RV):Ex->St->Ro
 | .exit i,s=>cond (Av i DX) (match C cs s.hp with|some (_,hp')=>fin a .ret {s with hp:=hp'}|none=>none) none
 | .ret,s=>fin a .ret s
 | .normal,_=>none
def adA(C:List V->List ah->Ro)(cs:List V)(Γ:am)(n b:Nat)(c:List RV)(a:IR)(vs:List V)(hp:List ah):Ro:=run Γ n a (rL C cs c) (start b vs hp)
def agc(P:Program)(d q:Nat)(hJ:List aj)(b:Array Oper):Bool:=match b.toList with
 | [m0,a]=>aay P (.mkf d q hJ) m0&&(m0.dst==some d&&((match m0.guard with|none=>true|_=>false)&&((match a.op with| .defer c=>(match c.callee with| .value (.tmp n)=>n==d|_=>false)&&c.args.toList.isEmpty|_=>false)&&(a.dst==none&&(match a.guard with|none=>true|_=>false)))))
 |_=>false
def dH(P:Program)(imp:List Nat)(base f:Nat)(cs:List V):IR->Code->Bool
 | .seq (.reg [⟨none,.mkf d q hJ,none⟩] []) (.gh (.isf h g b) y),.seq (.region _ a false) e=>agc P d q hJ a&&(Av d h&&(Av q f&&(Av g f&&(rp b cs&&(jm true y&&aF P imp base (ff y) e)))))
 | .seq x y,.seq c e=>jm false x&&(aF P imp base x c&&dH P imp base f cs y e)
 |_,_=>false
theorem sE:∀{a b:List V},rp a b=true->a=b
 | [],[],_=>rfl
 | .ptr i o::l,.ptr j q::m,h=>by simp only[rp,Ab] at h;rw[As h.1,As h.2.1,sE h.2.2]
 | .ea [.ptr i o]::l,.ea [.ptr j q]::m,h=>by simp only[rp,Ab] at h;rw[As h.1,As h.2.1,sE h.2.2]
theorem agd{P:Program}{f:Nat}(h:lB P f=true)(a:Array Value)(w:World):(callFunc f a).run P w=.ok (.enter f a) w:=by
 unfold lB at h;split at h
 ·rename_i fn d;simp only[Ab,bne_iff_ne,ne_eq] at h;have b:fn.body.isNone=false:=by cases e:fn.body<;>simp_all
  simp[callFunc,d,h.2,b];intro c;rw[c] at h;simp at h
 ·simp at h
section
variable{P:Program}{Γ:am}{imp:List Nat}
theorem aeM{d q:Nat}{hJ:List aj}{e:Array Oper}(h:agc P d q hJ e=true):∃m0 a c,e= #[m0,a]∧aay P (.mkf d q hJ) m0=true∧m0.dst=some d∧m0.guard=none∧a.op=.defer c∧c.callee=.value (.tmp d)∧c.args= #[]∧a.dst=none∧a.guard=none:=by
 unfold agc at h;split at h
 ·rename_i m0 a b;simp only[Ab,beq_iff_eq] at h;obtain⟨i,m,o,g,t,j⟩:=h;split at g
  ·rename_i c k;simp only[Ab] at g;obtain⟨f,p⟩:=g;split at f
   ·rename_i n r;simp only[beq_iff_eq] at f;subst f;refine⟨m0,a,c,?_,i,m,?_,k,r,?_,t,?_⟩;·rw[<-b]
    ·revert o;cases m0.guard<;>simp
    ·have:c.args.toList=[]:=by simpa using p
     rw[<-Array.toArray_toList (xs:=c.args),this]
    ·revert j;cases a.guard<;>simp
   ·simp at f
  ·simp at g
 ·simp at h
theorem ahe(E:bR P Γ){g₀:Gh}{hp₀:List ah}{w₀:World}(B:l7 P g₀ hp₀ w₀)(hP:cd Γ imp){n:Nat}{fn:Func}{A:List RV}(I:eD P A fn.results.toList=true)(h5:fn.results.toList.length<=5)
  {f:FuncId} {C:List V->List ah->Ro} {cs:List V} (hC:FnD P f C) (ad:∀x∈cs,x.bare=true) {v:V} {hp':List ah}:
  ∀(ir:IR)(c:Code),(∀base,dH P imp base f cs ir c=true)->∀(s:St)(a:Act)(w:World)(g:Gh),run Γ n ir (rL C cs A) s=some (v,hp')->Inv g₀ hp₀ w₀ [] g s w a->c.wp P (bodyPostD P fn (RQ g₀ hp₀ w₀ v hp')) a w
 | .seq x y,c,b,s,a,w,g,hr,N=>by
   have m:=b hp₀.length;unfold dH at m;split at m
   ·rename_i d q hJ d' q' k O id e9 e o;cases o;have u:∀base,aF P imp base (ff O) e=true:=by
     intro base;have:=b base;simp only[dH,Ab] at this;exact this.2.2.2.2.2.2
    simp only[Ab] at m;obtain⟨h1,h2,h3,h4,h6,h7, -⟩:=m;obtain rfl:=As h2;obtain rfl:=As h3;obtain rfl:=As h4;obtain rfl:=sE h6;obtain⟨q,hq⟩:∃q,q=q':=⟨_,rfl⟩
    subst hq;obtain⟨m0,m1,cc,rfl,e1,e2,e3,e4,e5,e6,e7,e8⟩:=aeM h1;obtain⟨z,cy,F⟩:∃z,step Γ (.mkf d q hJ) s=some (true,z)∧(match (dc.isf d q k).step z with|some (c,s')=>chk c (run Γ n O (rL C k A) s')|none=>none)=some (v,hp'):=⟨_,rfl,hr⟩
    obtain⟨ar,b1⟩:z.get d=.fn q k∧run Γ n O (rL C k A) z=some (v,hp'):=by simp only[dc.step] at F;cases hg:z.get d<;>rw[hg] at F<;>simp at F;obtain⟨t,r⟩:=rA F;simp only[Ab] at t;exact⟨by rw[As t.1,sE t.2],r⟩
    refine wp_seq (wp_region ?_);show wpOps P #[m0,m1] _ [0,1] a w;rw[wpOps_cons];unfold wpOp;simp only[C0,AZ];rw[if_pos (by simp[BO,e3])];refine .inl (zP E (B.on N.fr) e1 cy N.sr ?_);intro S M g1 k1 k2 k3;rw[wpOps_cons];unfold wpOp;simp only[C0,AR,AZ];rw[if_pos (by simp[BO,e8])];refine .inl ?_;have hv:=k1.er.get d;rw[ar] at hv;generalize J:S.tmps.getD d undef=cv at hv;cases hv with
    |fn _ _ j hl a3=>
    have Q:(execOp S.eval m1).run P M=.ok (.defer ⟨.fn (.func q) j, #[]⟩) M:=by simp[execOp,e4,resolve,e5,e6,Act.eval,J,CW]
    unfold Cw;rw[Q,Oper.upon_defer,e7];show wpOps P _ _ [] _ M;simp only[wpOps,Exit.then];have al:S.defers=[]:=k3.trans N.df;have a4:SR g1 z M {S with defers:=[⟨.fn (.func q) j, #[]⟩]}:=⟨k1.hr,k1.er⟩
    have X:oa P g1 M:=B.on (N.fr.trans k2);let H:Ex->St->Ro:=λG s=>match G with| .ret=>rL C k A (.exit DX) s|_=>none
    have c0:run Γ n (ff O) H z=some (v,hp'):=by
     rw[ahd O h7 (rL C k A) H (λ_=>rfl) (λ_=>rfl)];·exact b1
     ·intro i s L;have t:Av i DX=false:=by
       cases t:Av i DX with
       |true=>exact absurd (As t) L
       |false=>rfl
      simp only[H,rL,t,cond_false]
    have W:=dN (df:=[⟨.fn (.func q) j, #[]⟩]) E (g₀:=g1) (hp₀:=z.hp) (w₀:=M) ⟨X,k1.hr.notI⟩ hP n (Aj _) (ff O) e (u _) H z {S with defers:=[⟨.fn (.func q) j, #[]⟩]} M g1 c0 ⟨a4,FR.refl _ _ _,rfl⟩;rw[al];refine wp_mono W ?_;rintro e' a2 w2 ⟨G,s2,g2,he,r,p⟩;cases G with
    |normal=>simp[H] at r
    |exit i=>simp[H] at r
    |ret=>
     cases e'<;>simp only[fJ] at he;have r:(match C k s2.hp with|some (_,hp')=>fin A .ret {s2 with hp:=hp'}|none=>none)=some (v,hp'):=by simpa [H,rL,DX] using r
     split at r
     ·rename_i vv c1 b5;show Leaves P fn a2.tmps _ a2.defers .returning w2;rw[p.df];refine⟨by simp,_,_,q,j,rfl,?_,?_⟩;·simp only[invoke];rw[agd hC.body];simp
      ·refine(hC.ok _ _ _ _ b5 w2 g2.hide j .returning ((l7.on ⟨X,k1.hr.notI⟩ p.fr).sub rfl (λh=>h) (λh=>by simp[Gh.hide,h])) p.sr.hr.hide hl ad (λi x cv hx J=>(a3 i x cv hx J).up p.fr.up)).mono ?_;rintro e u' w3 ⟨rfl,et,g3,rfl,q1,q2,q3,q4⟩;show Leaves P fn a2.tmps _ [] (settle .returning) w3;obtain⟨r1,r2⟩:=wS (dst:=none) p.sr q1 q2 q3 q4;have Y:=adu (a:=a2) (g:=g2.back g3 none) (s:={s2 with hp:=c1}) I h5 r1 (((N.fr.trans k2).trans p.fr).trans r2) r;exact Y
     ·simp at r
   ·rename_i x1 y1 c e bs o;cases o;simp only[Ab] at m;obtain⟨h1,h2,h3⟩:=m;have b6:∀base,dH P imp base f cs y e=true:=by
     intro base;have:=b base;unfold dH at this;split at this;·rename_i o u;cases o;cases u;exact(bs _ _ _ _ _ _ _ _ _ rfl rfl rfl).elim
     ·rename_i o u;cases o;cases u;simp only[Ab] at this;exact this.2.2
     ·simp at this
    let Z:Ex->St->Ro:=λG s=>match G with| .normal=>run Γ n y (rL C cs A) s| .ret=>fin A .ret s| .exit _=>none
    have b3:run Γ n x Z s=some (v,hp'):=by
     rw[ah2 x h1 (cj (run Γ n y) (rL C cs A)) Z (λ_=>rfl) (λ_=>rfl)];·exact hr
     ·intro i s L;have t:Av i DX=false:=by
       cases t:Av i DX with
       |true=>exact absurd (As t) L
       |false=>rfl
      simp only[Z,cj,rL,t,cond_false]
    refine wp_seq (wp_mono (dN (df:=[]) E B hP n (Aj _) x c h2 Z s a w g b3 N) ?_);rintro e' a' w' ⟨G,s',g',he,r,D⟩;cases G with
    |normal=>cases e'<;>simp only[fJ] at he;exact ahe E B hP I h5 hC ad y e b6 s' a' w' g' r D
    |exit i=>simp[Z] at r
    |ret=>cases e'<;>simp only[fJ] at he;show Leaves P fn a'.tmps _ a'.defers .returning w';rw[D.df];exact adu I h5 D.sr D.fr r
   ·simp at m
 | .skip,c,b,_,_,_,_,_,_=>by have:=b 0;simp[dH] at this
 | .bad,c,b,_,_,_,_,_,_=>by have:=b 0;simp[dH] at this
 | .reg ..,c,b,_,_,_,_,_,_=>by have:=b 0;simp[dH] at this
 | .wk ..,c,b,_,_,_,_,_,_=>by have:=b 0;simp[dH] at this
 | .rgs ..,c,b,_,_,_,_,_,_=>by have:=b 0;simp[dH] at this
 | .cond ..,c,b,_,_,_,_,_,_=>by have:=b 0;simp[dH] at this
 | .block ..,c,b,_,_,_,_,_,_=>by have:=b 0;simp[dH] at this
 | .loop ..,c,b,_,_,_,_,_,_=>by have:=b 0;simp[dH] at this
 | .cut ..,c,b,_,_,_,_,_,_=>by have:=b 0;simp[dH] at this
 | .gh ..,c,b,_,_,_,_,_,_=>by have:=b 0;simp[dH] at this
 | .ope ..,c,b,_,_,_,_,_,_=>by have:=b 0;simp[dH] at this
 | .ghp ..,c,b,_,_,_,_,_,_=>by have:=b 0;simp[dH] at this
 | .exit ..,c,b,_,_,_,_,_,_=>by have:=b 0;simp[dH] at this
 | .ret,c,b,_,_,_,_,_,_=>by have:=b 0;simp[dH] at this
theorem fnD{k:Nat}{f q:FuncId}{fn:Func}{r:IR}{u:List RV}{C:List V->List ah->Ro}{cs:List V}(y:FnD P q C)(m:bR P Γ)(z:cd Γ imp)(h:P.funcs[f]? =some fn)(d:fn.body=some (fn.body.getD .skip))
  (chk:∀base,dH P imp base q cs r (fn.body.getD .skip)=true) (t:eD P u fn.results.toList=true) (a:fn.results.toList.length<=5) (o:∀x∈cs,x.bare=true):
  FnK P k f λn vs hp=>adA C cs Γ n fn.ntmps u r vs hp:=
 ⟨λ{n vs hp hp' v} B A w g p j e i b c=>by refine calls_of_wp_defers h d ?_;exact ahe m ⟨j,e.notI⟩ z t a y o r _ chk _ _ w g A ⟨zQ e i b c,FR.refl _ _ _,rfl⟩⟩
end
def sQ:Value->Bool
 | .slice _ _ _=>true
 |_=>false
def age(g:Gh)(w:World)(b:Nat):Prop:=∀j,g.I b j->∃v,w.cell? ⟨b,j,none⟩=some v∧sQ v=false
structure FRW(g₀:Gh)(hp₀:List ah)(w₀:World)(g:Gh)(hp:List ah)(w:World):Prop where
 beta:g.β=g₀.β
 os:w.os=w₀.os
 tape:w.tape=w₀.tape
 output:w.output=w₀.output
 size:w₀.heap.size<=w.heap.size
 block:∀b,b<w₀.heap.size->(∀(id:Nat) cs,hp₀[id]? =some (some cs)->g₀.ρ id≠b)->g₀.O b=none->age g₀ w₀ b->w.heap[b]? =w₀.heap[b]?
 mono:∀b j,g₀.I b j->g.I b j
 cell:∀b j v,g₀.I b j->w₀.cell? ⟨b,j,none⟩=some v->sQ v=false->w.cell? ⟨b,j,none⟩=some v
 rho:∀id,id<hp₀.length->g.ρ id=g₀.ρ id
 num:hp₀.length<=hp.length
 iSame:∀b j,b<w₀.heap.size->(∀(id:Nat) cs,hp₀[id]? =some (some cs)->g₀.ρ id≠b)->g₀.O b=none->g.I b j->g₀.I b j
 oSame:∀b,b<w₀.heap.size->(∀(id:Nat) cs,hp₀[id]? =some (some cs)->g₀.ρ id≠b)->g₀.O b=none->g.O b=none
 live:∀(id:Nat) cs,hp[id]? =some (some cs)->(∃cs₀,hp₀[id]? =some (some cs₀))∨(hp₀.length<=id∧(w₀.heap.size<=g.ρ id∨g₀.O (g.ρ id)≠none∨∃(id':Nat)(cs':List V),hp₀[id']? =some (some cs')∧g₀.ρ id'=g.ρ id))
theorem FR.toW{g₀ g:Gh}{hp₀ hp:List ah}{w₀ w:World}(h:FR g₀ hp₀ w₀ g hp w):FRW g₀ hp₀ w₀ g hp w:=
 ⟨h.beta,h.os,h.tape,h.output,h.size,λb a e i _=>h.block b a e i,h.up.mono,λb j v d c _=>(h.up.cell b j d).trans c,h.up.rho,h.up.num,h.iSame,h.oSame,h.live⟩
theorem FRW.noObj{g₀ g₁:Gh}{hp₀ hp₁:List ah}{w₀ w₁:World}(h:FRW g₀ hp₀ w₀ g₁ hp₁ w₁){b:Nat}(p:b<w₀.heap.size)(i:∀(id:Nat) cs,hp₀[id]? =some (some cs)->g₀.ρ id≠b)(k:g₀.O b=none):
  ∀(id:Nat) cs,hp₁[id]? =some (some cs)->g₁.ρ id≠b:=by
 intro id cs hid e;rcases h.live id cs hid with⟨a,j⟩|⟨_,c|c|⟨d,g,c,m⟩⟩
 ·exact i id a j ((h.rho id (Ad.1 j).1).symm.trans e)
 ·omega
 ·rw[e] at c;exact c k
 ·exact i d g c (m.trans e)
theorem FRW.hard{g₀ g₁:Gh}{hp₀ hp₁:List ah}{w₀ w₁:World}(h:FRW g₀ hp₀ w₀ g₁ hp₁ w₁){b:Nat}(a:b<w₀.heap.size)(c:∀(id:Nat) cs,hp₀[id]? =some (some cs)->g₀.ρ id≠b)(e:g₀.O b=none)(k:age g₀ w₀ b):age g₁ w₁ b:=by intro j d;obtain⟨v,i,g⟩:=k j (h.iSame b j a c e d);exact⟨v,h.cell b j v (h.iSame b j a c e d) i g,g⟩
theorem FRW.trans{g₀ g₁ d:Gh}{hp₀ hp₁ m:List ah}{w₀ w₁ t:World}(h:FRW g₀ hp₀ w₀ g₁ hp₁ w₁)(k:FRW g₁ hp₁ w₁ d m t):FRW g₀ hp₀ w₀ d m t:=by
 refine⟨k.beta.trans h.beta,k.os.trans h.os,k.tape.trans h.tape,k.output.trans h.output,AF h.size k.size,?_,λb j y=>k.mono b j (h.mono b j y),λb j v y F C=>k.cell b j v (h.mono b j y) (h.cell b j v y F C) C,
  λid hid=>(k.rho id (Ax hid h.num)).trans (h.rho id hid),AF h.num k.num,?_,?_,?_⟩
 ·intro b a g i B;exact(k.block b (Ax a h.size) (h.noObj a g i) (h.oSame b a g i) (h.hard a g i B)).trans (h.block b a g i B)
 ·intro b j a g i y;exact h.iSame b j a g i (k.iSame b j (Ax a h.size) (h.noObj a g i) (h.oSame b a g i) y)
 ·intro b a g i;exact k.oSame b (Ax a h.size) (h.noObj a g i) (h.oSame b a g i)
 ·intro id cs hid;rcases k.live id cs hid with⟨x,r⟩|⟨q,r|r|⟨c,p,r,z⟩⟩
  ·rcases h.live id x r with⟨e,A⟩|⟨q,z⟩
   ·exact .inl ⟨e,A⟩
   ·refine .inr ⟨q,?_⟩;rw[k.rho id (Ad.1 r).1];exact z
  ·exact .inr ⟨AF h.num q,.inl (AF h.size r)⟩
  ·refine .inr ⟨AF h.num q,?_⟩;rcases AE (d.ρ id) w₀.heap.size with a|a
   ·refine .inr ?_;by_cases i:g₀.O (d.ρ id)=none
    ·by_cases g:∃(c:Nat)(p:List V),hp₀[c]? =some (some p)∧g₀.ρ c=d.ρ id;·exact .inr g
     ·exact absurd (h.oSame _ a (λc p r z=>g ⟨c,p,r,z⟩) i) r
    ·exact .inl i
   ·exact .inl a
  ·refine .inr ⟨AF h.num q,?_⟩;rcases h.live c p r with⟨e,A⟩|⟨D,E⟩
   ·refine .inr (.inr ⟨c,e,A,?_⟩);rw[<-z,h.rho c (Ad.1 A).1]
   ·rw[<-z];exact E
theorem FRW.hand{g₀ g:Gh}{hp₀ hp:List ah}{w₀ w:World}(h:FRW g₀ hp₀ w₀ g hp w)(r:Option Nat):FRW g₀ hp₀ w₀ (g.hand r) hp w:=
 ⟨h.beta,h.os,h.tape,h.output,h.size,h.block,h.mono,h.cell,h.rho,h.num,h.iSame,λb a c d=>by simp[Gh.hand,h.oSame b a c d],h.live⟩
section
variable{I:Nat->Nat->Prop}{ρ:Nat->Nat}{N:Nat}{w w':World}
theorem adB{k:EK}{o:Fl}{xs:List (Ty k)}{cv:Value}(h:VRel I ρ N w (.sl k o xs) cv):sQ cv=true:=by cases h<;>rfl
theorem adC{k k':EK}{o o':Fl}{cv:Value}(h:VRel I ρ N w (.sl k o []) cv)(c:o'=.may false):VRel I ρ N w (.sl k' o' []) cv:=by
 subst c;cases h with
 |sln=>exact .sln _ _
 |sle=>exact .sle _ _ _ (by simp)
 |sl _ _ _ b a g cap e m d i f p q j=>subst e;exact .sl k' _ [] b a 0 cap rfl (by simp) d (by simp) f (by simp) (by simp) (by simp)
theorem afu:∀{xs ys:List (Ty .str)}{o o':Fl}{cv:Value},VRel I ρ N w (.sl .str o xs) cv->VRel I ρ N w (.sl .str o' ys) cv->xs=ys:=by
 intro xs ys o o' cv h g;have c:xs.length=ys.length:=by
  cases h with
  |sln=>cases g<;>rfl
  |sle=>cases g with|sle=>rfl|sl _ _ _ _ _ _ _ d=>simpa using d.symm
  |sl _ _ _ b m q cap d F H C f O y z=>
   cases g with
   |sle=>simpa using d
   |sl _ _ _ _ _ _ _ a=>rw[d,a]
 refine List.ext_getElem c λi j k=>?_
 cases h with
 |sln=>simp at j
 |sle=>simp at j
 |sl _ _ _ b m q cap d F H C f O y z=>
  cases g with
  |sle=>simp at k
  |sl _ _ _ _ _ _ _ a L E J A B t r=>
   have G:=y i _ 0 (Ac j) (by simp[enc]);have D:=t i _ 0 (Ac k) (by simp[enc]);have e:f i 0=A i 0:=Ar (G.symm.trans D);have p:=z i _ 0 _ (Ac j) rfl;have x:=r i _ 0 _ (Ac k) rfl;rw[e] at p;generalize A i 0=u at p x;cases p with
   |str _ s M _=>cases x with|str _ _ v _=>exact M.symm.trans v
end
theorem aa.eta(x:aa):x=.mk x.kind x.n x.s x.l x.names:=by cases x;rfl
theorem aa.l_lt(x:aa):BV x.l<BV x:=by cases x;simp[aa.l];omega
section
variable{I:Nat->Nat->Prop}{ρ:Nat->Nat}{N:Nat}{w w':World}
theorem afv{k:IntKind}{a b:Int}{cv:Value}(h:VRel I ρ N w (.int k a) cv)(c:VRel I ρ N w (.int k b) cv):a=b:=by cases h;cases c;rfl
theorem aiT{a b:List UInt8}{cv:Value}(h:VRel I ρ N w (.str a) cv)(d:VRel I ρ N w (.str b) cv):a=b:=by
 cases h with
 |str _ s e _=>cases d with|str _ _ c _=>exact e.symm.trans c
theorem ajx:∀(n:Nat){xs ys:List (Ty .jnode)}{o o':Fl}{cv:Value},BV xs<=n->VRel I ρ N w (.sl .jnode o xs) cv->VRel I ρ N w (.sl .jnode o' ys) cv->xs=ys:=by
 intro n;induction n with
 |zero=>intro xs ys o o' cv B;cases xs<;>simp at B
 |succ n C=>
  intro xs ys o o' cv B h q;have m:xs.length=ys.length:=by
   cases h with
   |sln=>cases q<;>rfl
   |sle=>cases q with|sle=>rfl|sl _ _ _ _ _ _ _ p=>simpa using p.symm
   |sl _ _ _ b t v cap p H J F f S y g=>
    cases q with
    |sle=>simpa using p
    |sl _ _ _ _ _ _ _ k=>rw[p,k]
  refine List.ext_getElem m λi r A=>?_
  cases h with
  |sln=>simp at r
  |sle=>simp at r
  |sl _ _ _ b t v cap p H J F f S y g=>
   cases q with
   |sle=>simp at A
   |sl _ _ _ _ _ _ _ k M G L X D x a=>
    have c:xs[i]? =some xs[i]:=Ac r;have d:ys[i]? =some ys[i]:=Ac A;have e:∀j,j<5->f i j=X i j:=λj z=>Ar ((y i _ j c (by simpa [enc] using z)).symm.trans (x i _ j d (by simpa [enc] using z)))
    have Y:BV xs[i]<BV xs:=List.sizeOf_lt_of_mem (AO r);have R:=aa.l_lt xs[i];rw[aa.eta xs[i],aa.eta ys[i]];have P:=afv (g i _ 0 _ c rfl) (e 0 (by omega)▸a i _ 0 _ d rfl);have W:=afv (g i _ 1 _ c rfl) (e 1 (by omega)▸a i _ 1 _ d rfl);have E:=aiT (g i _ 2 _ c rfl) (e 2 (by omega)▸a i _ 2 _ d rfl);have Q:=C (by omega) (g i _ 3 _ c rfl) (e 3 (by omega)▸a i _ 3 _ d rfl);have O:=afu (g i _ 4 _ c rfl) (e 4 (by omega)▸a i _ 4 _ d rfl);rw[P,W,E,Q,O]
theorem ahf{xs:List (Ty .jnode)}{ys:List (Ty .str)}{o o':Fl}{cv:Value}(h:VRel I ρ N w (.sl .jnode o xs) cv)(g:VRel I ρ N w (.sl .str o' ys) cv):xs=[]∧ys=[]:=by
 have a:xs.length=ys.length:=by
  cases h with
  |sln=>cases g<;>rfl
  |sle=>cases g with|sle=>rfl|sl _ _ _ _ _ _ _ d=>simpa using d.symm
  |sl _ _ _ b i k cap d C D A f G r t=>
   cases g with
   |sle=>simpa using d
   |sl _ _ _ _ _ _ _ c=>rw[d,c]
 rcases xs with _|⟨x,xs⟩
 ·exact⟨rfl,by simpa using a.symm⟩
 ·rcases ys with _|⟨y,ys⟩
  ·simp at a
  ·cases h with
   |sl _ _ _ b i k cap d C D A f G r t=>
    cases g with
    |sl _ _ _ _ _ _ _ c F B E v z p m=>have e:f 0 0=v 0 0:=Ar ((r 0 x 0 rfl (by simp[enc])).symm.trans (p 0 y 0 rfl (by simp[enc])));have j:=t 0 x 0 _ rfl rfl;have q:=m 0 y 0 _ rfl rfl;rw[e] at j;generalize v 0 0=u at j q;cases j;cases q
end
structure ft(I:Nat->Nat->Prop)(w w':World)(b o n:Nat)(cs:List V)(f u:Nat->Value):Prop where
 out:∀b' j,(b'≠b∨j<o∨o+n<=j)->w'.cell? ⟨b',j,none⟩=w.cell? ⟨b',j,none⟩
 new:∀j,j<n->w'.cell? ⟨b,o+j,none⟩=some (u j)
 old:∀j,j<n->w.cell? ⟨b,o+j,none⟩=some (f j)
 len:cs.length=n
 ok:∀c∈cs,c.cellS=true
 rf:∀(ρ:Nat->Nat)(N j:Nat) c,cs[j]? =some c->VRel I ρ N w c (f j)
 ru:∀(ρ:Nat->Nat)(N j:Nat) c,cs[j]? =some c->VRel I ρ N w c (u j)
section
variable{I:Nat->Nat->Prop}{ρ:Nat->Nat}{N:Nat}{w w':World}{b o n:Nat}{cs:List V}{f u:Nat->Value}
theorem ah3{s t:ByteArray}(h:s.data.toList=t.data.toList):s=t:=by cases s;cases t;simp only at h;rw[Array.toList_inj.1 h]
theorem ft.cellOne(h:ft I w w' b o n cs f u){j:Nat}(D:j<n){c:V}(q:c.cellS=true)(i:VRel I ρ N w c (f j)):VRel I ρ N w c (u j)∧(sQ (f j)=false->u j=f j):=by
 obtain⟨d,t⟩:∃d,cs[j]? =some d:=⟨cs[j]'(by rw[h.len];exact D),Ac _⟩
 have g:=h.rf ρ N j d t;have m:=h.ru ρ N j d t;have p:=h.ok d (Af t);generalize f j=x at*
 generalize u j=y at*
 have same:x=y->VRel I ρ N w c y∧(sQ x=false->y=x):=λe=>by subst e;exact⟨i,λ_=>rfl⟩
 cases d with
 |int k a=>cases g;cases m;exact same rfl
 |bool a=>cases g;cases m;exact same rfl
 |nilp=>cases g;cases m;exact same rfl
 |str a=>
  cases g with
  |str _ s C _=>cases m with|str _ s' v _=>exact same (by rw[ah3 (C.trans v.symm)])
 |sl k A l=>
  refine⟨?_,λe=>by rw[adB g] at e;cases e⟩;cases c with
  |sl k' r E=>
   cases k<;>cases k'<;>cases A<;>cases r<;>simp only[V.cellS] at q p<;>first|contradiction|skip
   all_goals rename_i B z;cases B<;>cases z<;>simp only[V.cellS] at q p<;>first|contradiction|skip
   ·rw[afu i g];exact m
   ·obtain⟨rfl,rfl⟩:=ahf i g;exact adC m rfl
   ·obtain⟨rfl,rfl⟩:=ahf g i;exact adC m rfl
   ·rw[ajx _ (Aj _) i g];exact m
  |int k a=>cases i;cases g
  |bool a=>cases i;cases g
  |nilp=>cases i;cases g
  |str a=>cases i;cases g
  |_=>simp[V.cellS] at q
 |_=>simp[V.cellS] at p
theorem ft.at(h:ft I w w' b o n cs f u){a j:Nat}{x:Value}(p:w.cell? ⟨a,j,none⟩=some x):∃y,w'.cell? ⟨a,j,none⟩=some y∧∀(ρ:Nat->Nat)(N:Nat)(c:V),c.cellS=true->VRel I ρ N w c x->VRel I ρ N w c y:=by
 by_cases g:a=b∧o<=j∧j<o+n
 ·obtain⟨rfl,r,t⟩:=g;have i:j-o<n:=by omega
  have e:o+(j-o)=j:=by omega
  have m:=h.new (j-o) i;have d:=h.old (j-o) i;rw[e] at m d;rw[p] at d;refine⟨_,m,λρ N c q k=>?_⟩;rw[Ar d] at k;exact(h.cellOne i q k).1
 ·exact⟨x,(h.out a j (by omega)).trans p,λ_ _ _ _ h=>h⟩
theorem ft.list(h:ft I w w' b o n cs f u){k:EK}{t:Fl}{xs:List (Ty k)}{cv:Value}(J:∀(i:Nat) x (j:Nat) c,xs[i]? =some x->(enc k x)[j]? =some c->c.cellS=true∧∀cv,VRel I ρ N w c cv->VRel I ρ N w' c cv)
  (G:VRel I ρ N w (.sl k t xs) cv):VRel I ρ N w' (.sl k t xs) cv:=by
 cases G with
 |sln=>exact .sln _ _
 |sle _ _ D C=>exact .sle _ _ D C
 |sl _ _ _ p e v cap M a E B g L z H=>
  have key:∀(i:Nat) x (j:Nat),xs[i]? =some x->j<(enc k x).length->∃y,w'.cell? ⟨p,e+i*k.sz+j,none⟩=some y∧∀c,(enc k x)[j]? =some c->VRel I ρ N w' c y:=by
   intro i x j d q;obtain⟨y,m,r⟩:=h.at (z i x j d q)
   refine⟨y,m,λc a=>?_⟩;obtain⟨A,F⟩:=J i x j c d a;exact F y (r ρ N c A (H i x j c d a))
  refine .sl k t xs p e v cap M a E B (λi j=>(w'.cell? ⟨p,e+i*k.sz+j,none⟩).getD undef) L ?_ ?_;·intro i x j d q;obtain⟨y,m,_⟩:=key i x j d q;rw[m];rfl
  ·intro i x j c d a;obtain⟨y,m,r⟩:=key i x j d (Ad.1 a).1;rw[m];exact r c a
theorem gV{c:V}{cv:Value}(d:(match c with| .int .. | .bool _| .str _| .nilp=>true|_=>false)=true)(a:VRel I ρ N w c cv):VRel I ρ N w' c cv:=by
 cases c<;>simp at d;·cases a;exact .bool _
 ·cases a;exact .int _ _ (by assumption)
 ·cases a;exact .str _ _ (by assumption) (by assumption)
 ·cases a;exact .nilp
theorem ft.strs(h:ft I w w' b o n cs f u){d:Fl}{xs:List (Ty .str)}{cv:Value}(a:VRel I ρ N w (.sl .str d xs) cv):VRel I ρ N w' (.sl .str d xs) cv:=by
 refine h.list ?_ a;intro i x j c g e;have:c=.str x:=by
  cases j with
  |zero=>simpa [enc] using e.symm
  |succ j=>simp[enc] at e
 subst this;exact⟨rfl,λcv a=>gV rfl a⟩
theorem ft.trees(h:ft I w w' b o n cs f u):∀(m:Nat){e:Fl}{xs:List (Ty .jnode)}{cv:Value},BV xs<=m->VRel I ρ N w (.sl .jnode e xs) cv->VRel I ρ N w' (.sl .jnode e xs) cv:=by
 intro m;induction m with
 |zero=>intro e xs cv g;cases xs<;>simp at g
 |succ m k=>
  intro e xs cv g d;refine h.list ?_ d;intro i x j c p a;have q:BV x<BV xs:=List.sizeOf_lt_of_mem (Af p);have r:=aa.l_lt x;match j,a with
  |0,a=>simp[enc] at a;subst a;exact⟨rfl,λcv d=>gV rfl d⟩
  |1,a=>simp[enc] at a;subst a;exact⟨rfl,λcv d=>gV rfl d⟩
  |2,a=>simp[enc] at a;subst a;exact⟨rfl,λcv d=>gV rfl d⟩
  |3,a=>simp[enc] at a;subst a;exact⟨rfl,λcv d=>k (by omega) d⟩
  |4,a=>simp[enc] at a;subst a;exact⟨rfl,λcv d=>h.strs d⟩
  |j+5,a=>simp[enc] at a
theorem ft.cellS(h:ft I w w' b o n cs f u){c:V}{cv:Value}(e:c.cellS=true)(d:VRel I ρ N w c cv):VRel I ρ N w' c cv:=by
 cases c with
 |int k a=>exact gV rfl d
 |bool a=>exact gV rfl d
 |str a=>exact gV rfl d
 |nilp=>exact gV rfl d
 |sl k g l=>
  cases k<;>cases g<;>simp only[V.cellS] at e<;>first|contradiction|skip
  ·exact h.strs d
  ·exact h.trees _ (Aj _) d
 |_=>simp[V.cellS] at e
theorem ahg{k:EK}(a:k.soft=true)(x:Ty k):∀c∈enc k x,c.cellS=true:=by cases k<;>simp[EK.soft] at a<;>simp[enc,V.cellS]
theorem ft.soft1(h:ft I w w' b o n cs f u){c:V}{cv:Value}(g:c.soft1=true)(d:VRel I ρ N w c cv):VRel I ρ N w' c cv:=by
 cases c with
 |sl k m l=>
  have p:k.soft=true:=by cases m<;>simp[V.soft1] at g;exact g
  refine h.list ?_ d;intro i x j c t g;have:=ahg p x c (Af g);exact⟨this,λcv d=>h.cellS this d⟩
 |undef=>exact .undef _
 |bool a=>exact gV rfl d
 |int k a=>exact gV rfl d
 |str a=>exact gV rfl d
 |nilp=>exact gV rfl d
 |ptr id o=>cases d;exact .ptr _ _ (by assumption)
 |nilif=>cases d;exact .nilif
 |hd n=>cases d;exact .hd _ _ _ (by assumption)
 |sw k id n=>cases d with|sw _ _ _ e q r=>exact .sw _ _ _ e q r
 |wp id k i o=>cases d with|wp _ _ _ _ e=>exact .wp _ _ _ _ e
 |mr id=>cases d with|mr _ e=>exact .mr _ e
 |nilm=>cases d;exact .nilm
 |raw n=>cases d with|raw _ b=>exact .raw _ _
 |_=>simp[V.soft1] at g
theorem aci{k:EK}(a:k.softE=true)(x:Ty k):∀c∈enc k x,c.soft1=true:=by cases k<;>simp[EK.softE,EK.soft] at a<;>simp[enc,V.soft1,EK.soft]
theorem ft.soft(h:ft I w w' b o n cs f u){c:V}{cv:Value}(d:c.soft=true)(q:VRel I ρ N w c cv):VRel I ρ N w' c cv:=by
 cases c with
 |agg l=>
  simp only[V.soft,Ai] at d;cases q with
  |agg _ vs A z D p=>exact .agg l vs A z D λi c cv m x=>h.soft1 (d c (Af m)) (p i c cv m x)
 |tup l=>
  simp only[V.soft,Ai] at d;cases q with
  |tup _ vs A p=>exact .tup l vs A λi c cv m x=>h.soft1 (d c (Af m)) (p i c cv m x)
 |ea l=>
  simp only[V.soft,Ai] at d;cases q with
  |ea _ r e g z E C p=>
   have key:∀j,j<l.length->∃y,w'.cell? ⟨r,e+j,none⟩=some y∧∀c,l[j]? =some c->VRel I ρ N w' c y:=by
    intro j t;obtain⟨y,k,v⟩:=h.at (C j t)
    refine⟨y,k,λc a=>?_⟩;have B:=d c (Af a);exact h.cellS B (v ρ N c B (p j c a))
   refine .ea l r e (λj=>(w'.cell? ⟨r,e+j,none⟩).getD undef) z E ?_ ?_;·intro j t;obtain⟨y,k,_⟩:=key j t;rw[k];rfl
   ·intro j c a;obtain⟨y,k,v⟩:=key j (Ad.1 a).1;rw[k];exact v c a
 |_=>exact h.soft1 d q
end
theorem adD{g:Gh}{w w':World}{d:Occ}{c:V}{cv:Value}{b o:Nat}(y:g.I b o)(z:∀c,c≠b->w'.heap[c]? =w.heap[c]?)(j:c.soft=true)(h:ai g w d c cv):ai g w' d c cv:=by
 cases c with
 |sl k t l=>cases t<;>simp[V.soft,V.soft1] at j<;>simp[ai]
 |raw n=>
  cases cv with
  |pointer p=>
   cases p with
   |some x=>
    obtain⟨v,⟨f,e,r,u⟩,q⟩:=h;have i:x.block≠b:=by intro A;exact q o (A▸y)
    exact⟨v,⟨f,e,(z _ i).trans r,u⟩,q⟩
   |none=>simp[ai]
  |_=>simp[ai]
 |ul=>simp[V.soft,V.soft1] at j
 |_=>simp[ai]
theorem agf{c:V}(h:c.soft1=true):c.soft=true:=by cases c<;>first|exact h|simp[V.soft1] at h
theorem aaE{cs:List V}(h:afH (some cs)=true){j:Nat}{c:V}(d:(cellsOf cs)[j]? =some c):c.soft1=true∨(∃k xs,c=.ul k xs∧k.softE=true)∨∃k es,c=.mp k es:=by
 unfold afH at h;split at h;·simp at*
 ·rename_i k es b;obtain rfl:=Ar b;cases j with
  |zero=>simp[cellsOf] at d;exact .inr (.inr ⟨_,_,d.symm⟩)
  |succ j=>simp[cellsOf] at d
 ·rename_i k xs b;obtain rfl:=Ar b;have e:=Af d;simp only[cellsOf,AC] at e;obtain⟨x,_,e⟩:=e;exact .inl (aci h x c e)
 ·rename_i o q f b;obtain rfl:=Ar b;have p:b7 cs=false:=by
   cases i:b7 cs with
   |false=>rfl
   |true=>unfold b7 at i;split at i<;>first|(simp[V.soft1] at h;done)|(exact absurd rfl (f _ _))|simp at i
  rw[c7 p] at d;have:=Ai.1 h c (Af d);split at this;·exact .inr (.inl ⟨_,_,rfl,this⟩)
  ·exact .inl this
theorem aiU{g:Gh}{s:St}{w w':World}{a:Act}{b o n:Nat}{cs:List V}{f u:Nat->Value}(h:SR g s w a)(r:ft g.I w w' b o n cs f u)(hI:∀j,j<n->g.I b (o+j))(hs:afI s=true)
  {bx ad:Array Value} {e:TypeId} {fz:Nat×Nat} (h0:w.heap[b]? =some (.cells bx e fz)) (h1:w'.heap[b]? =some (.cells ad e fz)) (M:∀c,c≠b->w'.heap[c]? =w.heap[c]?) (h3:w'.heap.size=w.heap.size)
  (bs:w'.os=w.os) (a9:w'.tape=w.tape) (S:w'.output=w.output) (a5:∀j,j<n->w.frozen? ⟨b,o+j,none⟩=false) (b1:∃j,j<n∧sQ (f j)=true):
  SR g s w' a∧FRW g s.hp w g s.hp w':=by
 simp only[afI,Ab,Ai] at hs;obtain⟨O,t,R⟩:=b1;have bY:∀(id:Nat) p,s.hp[id]? =some (some p)->g.ρ id≠b:=by rintro id p hid rfl;exact h.hr.notI id p hid _ (hI O t)
 have ul:∀J k (xs:List (Ty k)) cv,k.softE=true->sL g w J k xs cv->sL g w' J k xs cv:=by
  intro J k xs cv hk hu;rcases hu with hu|⟨b2,cap,ar,Y,Z,k0,k1,B,k3,k4,k5,k6,k7,k8,k9⟩
  ·exact .inl hu
  ·have b5:b2≠b:=by rintro rfl;exact k8 _ (hI O t)
   refine .inr ⟨b2,cap,ar,Y,Z,k0,k1,B,k3,k4,(M b2 b5).trans k5,k6,k7,k8,λi x j v y F D a3=>?_⟩;exact r.soft1 (aci hk x v (Af D)) (k9 i x j v y F D a3)
 refine⟨⟨⟨?_,h.hr.apart,h.hr.notI,h.hr.notO,?_,λz oc b3=>by rw[h3];exact h.hr.oLt z oc b3⟩,⟨h.er.size,?_,?_⟩⟩,⟨rfl,bs,a9,S,by rw[h3];exact Aj _,?_,λ_ _ L=>L,?_,λ_ _=>rfl,Aj _,λ_ _ _ _ _ L=>L,λ_ _ _ hO=>hO,λ_ p hid=>.inl ⟨p,hid⟩⟩⟩
 ·intro id p hid;have X:=hs.2 _ (Af hid);refine(h.hr.obj id p hid).keep (M _ (bY id p hid)) λar Y Z k1 B=>⟨B.len,B.plain,B.typed,B.cold,B.one,?_,?_,B.bn⟩
  ·intro j c cv W q;have hr:=B.rel j c cv W q;rcases aaE X W with H|⟨k,xs,rfl,hk⟩|⟨k,es,rfl⟩
   ·exact r.soft1 H hr
   ·cases hr;exact .ul _ _ _ _ (by assumption)
   ·cases hr
  ·intro j c cv W q;have ho:=B.own j c cv W q;rcases aaE X W with H|⟨k,xs,rfl,hk⟩|⟨k,es,rfl⟩
   ·exact adD (hI O t) M (agf H) ho
   ·exact ul _ k xs cv hk ho
   ·simp[ai]
 ·intro z j L;by_cases G:z=b∧o<=j∧j<o+n
  ·obtain⟨rfl,q1,q2⟩:=G;have e1:o+(j-o)=j:=by omega
   have F:=r.new (j-o) (by omega);have D:=a5 (j-o) (by omega);rw[e1] at F D;refine⟨by rw[F];rfl,λ_ hz=>?_⟩;have:w'.frozen? ⟨z,j,none⟩=w.frozen? ⟨z,j,none⟩:=by simp only[Bq,h0,h1]
   rw[this,D] at hz;cases hz
  ·exact(h.hr.exI z j L).set (r.out z j (by omega)) h0 h1 M
 ·intro m v cv A q;exact r.soft (hs.1 v (Af A)) (h.er.rel m v cv A q)
 ·intro m v cv A q;exact adD (hI O t) M (hs.1 v (Af A)) (h.er.own m v cv A q)
 ·intro z _ _ _ hh;refine M z ?_;rintro rfl;obtain⟨v,A,E⟩:=hh _ (hI O t);rw[r.old O t] at A;rw[Ar A,E] at R;cases R
 ·intro z j v L A E;by_cases G:z=b∧o<=j∧j<o+n
  ·obtain⟨rfl,q1,q2⟩:=G;have e1:o+(j-o)=j:=by omega
   have C:j-o<n:=by omega
   have F:=r.new (j-o) C;have D:=r.old (j-o) C;rw[e1] at F D;rw[D] at A;have Y:=Ar A;obtain⟨d,hd⟩:∃d,cs[j-o]? =some d:=⟨cs[j-o]'(by rw[r.len];exact C),Ac _⟩
   have:=(r.cellOne (ρ:=g.ρ) (N:=0) C (r.ok d (Af hd)) (r.rf _ _ _ d hd)).2 (by rw[Y];exact E);rw[F,this,Y]
  ·exact(r.out z j (by omega)).trans A
section
variable{w:World}{g:Gh}{s s':St}{a:Act}{P:Program}{Γ:am}{m:Oper}{next:Act->World->Prop}{Q:Exit->Act->World->Prop}
def agh(g:Gh)(s:St)(w:World)(a:Act)(s':St)(next:Act->World->Prop):Prop:=
 ∀b w' c,SR c s' w' b->FRW g s.hp w c s'.hp w'->b.defers=a.defers->next b w'
def adE(P:Program)(n:Nat)(x v:aj)(m:Oper):Bool:=match m.dst with
 |none=>(match m.op with| .store t b c=>(dM P t==some n)&&(ay x b&&ay v c)|_=>false)
 |_=>false
theorem ajy(hz:Zed){n:Nat}{x v:aj}(y:adE P n x v m=true)(hs:(WOp.ste n x v).step Γ s=some (true,s'))(h:SR g s w a)(hn:agh g s w a s' next):m.wp P a w next Q:=by
 obtain⟨dst,op,ty,pos,bs,gd⟩:=m;unfold adE at y;simp only at y;split at y
 ·split at y
  ·rename_i t x' B;simp only[Ab,beq_iff_eq] at y;obtain⟨h1,h2,h3⟩:=y;have r1:=aB h2 h.er;have r2:=aB h3 h.er;simp only[WOp.step] at hs;split at hs
   ·rename_i cs hx;simp only[Ae,Al,Ab,Nat.ble_eq] at hs;obtain⟨⟨a3,k,G,R⟩,rfl⟩:=hs;have k:(v.ev s).cells.map disown=cs.take n:=by simpa [aam] using k
    simp only[ait,Ab,Ai,B8] at G;obtain⟨G,c0,J,r⟩:=G;rw[hx] at r1;generalize b4:a.eval x'=cx at r1;cases r1 with
    |ea _ b o f ar hI hw hv=>
    have F:∀c∈cs.take n,c.cellS=true∧∀z,c≠.int .u8 z:=by
     intro c A;have:=G c A;split at this;·cases this
     ·rename_i O;exact⟨this,λz e=>O z e⟩
    have M:∀c∈cs.take n,c.one=true:=λc A=>ar c (A7 A)
    have Z:(v.ev s).cells.all V.one=true:=by
     refine Ai.2 λc A=>?_
     have:disown c∈cs.take n:=by rw[<-k];exact CF A
     rw[<-iW];exact M _ this
    obtain⟨c1,c2,c3⟩:=pX r2 Z;have b2:(v.ev s).cells.length=n:=by have:=congrArg Aa k;simpa [Nat.min_eq_left a3] using this
    have X:(a.eval B).cells.size=n:=by rw[<-c1];exact b2
    have b0:(a.eval B).cells.toList.length=n:=by simpa using X
    have bx:(cs.take n).length=n:=by simp[Nat.min_eq_left a3]
    have q:∀j,j<n->j<cs.length:=λj i=>by omega
    have E:∀j (i:j<n),(cs.take n)[j]? =some (cs[j]'(q j i)):=by intro j i;rw[AJ];simp[i,Ac (q j i)]
    have e2:0<n:=by
     rcases CN n with e|e;·rw[e] at J;simp at J
     ·exact e
    obtain⟨L,e,fz,hb⟩:∃L e fz,w.heap[b]? =some (.cells L e fz):=by
     have:=hw 0 (by omega);unfold Bn at this;split at this;·exact⟨_,_,_,by assumption⟩
     ·cases this
    have W:∀j,j<n->w.frozen? ⟨b,o+j,none⟩=false:=by
     intro j i;cases hq:w.frozen? ⟨b,o+j,none⟩ with
     |false=>rfl
     |true=>obtain⟨z,a2⟩:=(h.hr.exI b (o+j) (hI j (q j i))).2 hz hq;rw[hw j (q j i)] at a2;have p:=hv j _ (Ac (q j i));rw[Ar a2] at p;have hm:cs[j]'(by omega)∈cs.take n:=Af (E j i);obtain⟨q1,q2⟩:=F _ hm;generalize cs[j]'(by omega)=c at p q1 q2;cases p<;>first|exact absurd rfl (q2 _)|simp[V.cellS] at q1
    have D:∀j,j<n->(w.cell? ⟨b,o+j,none⟩).isSome=true:=λj i=>by rw[hw j (q j i)];rfl
    have S:(execOp a.eval ⟨none,.store t x' B,ty,pos,bs,gd⟩).run P w=.ok .skip (w.setCells b o (a.eval B).cells.toList):=by
     have:=run_storeCells_cells (P:=P) b o (a.eval B).cells.toList 0 w
      (λj i=>by have:=D j (by omega);simpa using this)
      (λj i=>by have:=W j (by omega);simpa using this)
      (λu hu=>by
       obtain⟨j,i,rfl⟩:=AP.1 hu;have C:j<(v.ev s).cells.length:=by rw[c1];simpa using i
       exact(c3 j _ _ (Ac C) (by simp)).oneCell (c2 _ (AO C)))
     simp[execOp,b4,Dm,BH,storeVar,j9 h1,X,this]
    obtain⟨⟨b6,q1,q2⟩,q3,q4,q5,q6,q7⟩:=eU b (a.eval B).cells.toList o w L e fz hb;have ht:ft g.I w (w.setCells b o (a.eval B).cells.toList) b o n (cs.take n) f (λj=>(a.eval B).cells.toList.getD j undef):=by
     refine⟨?_,?_,λj i=>hw j (q j i),bx,λc A=>(F c A).1,?_,?_⟩
     ·intro b' j Y;refine AX b _ o w _ ?_;intro a0 _;simp only at a0 ⊢;subst a0;rw[b0];rcases Y with O|ad|bY;·exact absurd rfl O
      ·exact .inl ad
      ·exact .inr bY
     ·intro j i;have:=Bt b (a.eval B).cells.toList o w (λj' C=>D j' (by omega)) j (by omega);rw[this,Aq,Ac];rfl
     ·intro ρ N j c y;have i:j<n:=by have:=(Ad.1 y).1;omega
      rw[E j i] at y;obtain rfl:=Ar y;have p:=hv j _ (Ac (q j i));refine p.flat1 ?_;have:=(F _ (Af (E j i))).1;revert this;generalize cs[j]'(by omega)=c;cases c<;>simp[V.cellS,V.flat1]
     ·intro ρ N j c y;have i:j<n:=by have:=(Ad.1 y).1;omega
      have al:=y;rw[<-k,Au,Ak] at al;obtain⟨d,hd,rfl⟩:=al;have H:j<(a.eval B).cells.toList.length:=by omega
      have p:=(c3 j d ((a.eval B).cells[j]'(by simpa using H)) hd (by simp)).disown;have e1:(a.eval B).cells.toList.getD j undef=(a.eval B).cells[j]'(by simpa using H):=by rw[Aq,Ac H];simp
      show VRel g.I ρ N w (disown d) ((a.eval B).cells.toList.getD j undef);rw[e1];refine p.flat1 ?_;have:=(F _ (Af y)).1;revert this;generalize disown d=c;cases c<;>simp[V.cellS,V.flat1]
    have b1:∃j,j<n∧sQ (f j)=true:=by
     obtain⟨j,i,rfl⟩:=AP.1 J;have C:j<n:=by omega
     refine⟨j,C,?_⟩;have p:=hv j _ (Ac (q j C));have e1:(cs.take n)[j]=cs[j]'(by omega):=by simp
     rw[e1] at r;revert r p;generalize cs[j]'(by omega)=c;intro r p;split at r;·exact adB p
     ·cases r
    obtain⟨k1,k2⟩:=aiU h ht (λj i=>hI j (q j i)) R hb q1 q3 q4 q5 q6 q7 W b1;unfold Cw;rw[S];exact hn _ _ _ k1 k2 rfl
   ·cases hs
  ·cases y
 ·cases y
end
def lf(P:Program)(f:FuncId)(vs:List V)(v:V):Prop:=∃hp':List ah,∀(w:World)(g:Gh)(b:Array Value),oa P g w->HR g [] w->vs.length=b.size->(∀x∈vs,x.bare=true)->
    (∀(i:Nat) x cv,vs[i]? =some x->b[i]? =some cv->VRel g.I g.ρ 0 w x cv)->
    Calls P f b w λe w'=>∃cv c,e=.returned cv∧HR c hp' w'∧FRW g [] w c hp' w'∧VRel c.I c.ρ hp'.length w' v cv∧ai c w' .res v cv
def tq(k:Nat)(W:Nat->List V->Option (Bool×V))(Γ:am):am:=λf vs hp=>cond (BM k f) ((W (f-k) vs).map λp=>(p.1,p.2,hp)) (Γ f vs hp)
def d7(W:Nat->List V->Option (Bool×V))(Γ:am):am:=tq WX W Γ
theorem agi{k:Nat}{W:Nat->List V->Option (Bool×V)}{Γ:am}{f:Nat}{vs:List V}{hp:List ah}:tq k W Γ (k+f) vs hp=(W f vs).map λp=>(p.1,p.2,hp):=by unfold tq;rw[show BM k (k+f)=true from by rw[Nat.ble_eq];exact CX k f,cond_true,Nat.add_sub_cancel_left]
theorem aaF{k:Nat}{W:Nat->List V->Option (Bool×V)}{Γ:am}{f:Nat}{vs:List V}{hp:List ah}(h:BM k f=false):tq k W Γ f vs hp=Γ f vs hp:=by unfold tq;rw[h,cond_false]
def abC(P:Program)(W:Nat->List V->Option (Bool×V)):Prop:=∀f vs v,W f vs=some (true,v)->lf P f vs v∧vs.all V.flat=true∧v.flat=true∧(match v with| .tup _=>true|v=>v.bare)=true
def IOp.strong:IOp->Bool
 | .call _ f _| .dcall _ f _ _=> !(BM WX f)
 |_=>true
def jM(l:List GOp):Bool:=l.all λx=>x.o.strong
section
variable{w:World}{g:Gh}{s s':St}{a:Act}{P:Program}{Γ:am}{W:Nat->List V->Option (Bool×V)}{m:Oper}{next:Act->World->Prop}{Q:Exit->Act->World->Prop}
theorem agj{o:IOp}(h:o.strong=true)(s:St):step (d7 W Γ) o s=step Γ o s:=by
 cases o with
 |call d f avs=>
  have b:BM WX f=false:=by simpa [IOp.strong] using h
  simp only[step,d7,aaF b]
 |dcall d f x avs=>
  have b:BM WX f=false:=by simpa [IOp.strong] using h
  simp only[step,d7,aaF b]
 |_=>rfl
theorem aeN{x:GOp}(h:x.o.strong=true)(s:St):bW (d7 W Γ) x s=bW Γ x s:=by unfold bW eZ;simp only[agj h]
theorem jN{R:Type}:∀(l:List GOp),jM l=true->∀(K:St->Option R)(s:St),bk (d7 W Γ) l K s=bk Γ l K s
 | [],_,K,s=>rfl
 |x::l,h,K,s=>by
  simp only[jM,CB,Ab] at h;rw[jF,jF,aeN h.1];cases bW Γ x s with
  |none=>rfl
  |some s'=>exact jN l h.2 K s'
theorem adF{I I':Nat->Nat->Prop}{ρ ρ':Nat->Nat}{N N':Nat}{w w':World}{c:V}{cv:Value}(d:(match c with| .int .. | .bool _| .str _| .nilp=>true|_=>false)=true)(b:VRel I ρ N w c cv):sQ cv=false∧VRel I' ρ' N' w' c cv:=by
 cases c<;>simp at d;·cases b;exact⟨rfl,.bool _⟩
 ·cases b;exact⟨rfl,.int _ _ (by assumption)⟩
 ·cases b;exact⟨rfl,.str _ _ (by assumption) (by assumption)⟩
 ·cases b;exact⟨rfl,.nilp⟩
theorem ah4{k:EK}(b:k.hard=true)(x:Ty k):∃c,enc k x=[c]∧(match c with| .int .. | .bool _| .str _| .nilp=>true|_=>false)=true:=by cases k<;>simp[EK.hard] at b<;>exact⟨_,rfl,rfl⟩
theorem ah5{I I':Nat->Nat->Prop}{ρ ρ':Nat->Nat}{N N':Nat}{w w':World}(M:∀b j,I b j->I' b j)(H:∀b j v,I b j->w.cell? ⟨b,j,none⟩=some v->sQ v=false->w'.cell? ⟨b,j,none⟩=some v)
  {v:V} {cv:Value} (y:v.hard=true) (hp:∀id o,v=.ptr id o->id<N'∧ρ' id=ρ id) (h:VRel I ρ N w v cv):VRel I' ρ' N' w' v cv:=by
 cases h with
 |undef=>exact .undef _
 |bool b=>exact .bool b
 |int k n h=>exact .int k n h
 |str l s B h=>exact .str l s B h
 |nilp=>exact .nilp
 |nilif=>exact .nilif
 |ptr id o h=>obtain⟨X,L⟩:=hp id o rfl;rw[<-L];exact .ptr id o X
 |sln k o=>exact .sln k o
 |sle k o J G=>exact .sle k o J G
 |sl k o xs b t z cap B u r F f D E O=>
  have R:k.hard=true:=by cases o<;>simp[V.hard] at y;exact y
  have C:∀(i:Nat) x (j:Nat) c,xs[i]? =some x->(enc k x)[j]? =some c->sQ (f i j)=false∧VRel I' ρ' N' w' c (f i j):=by
   intro i x j c p d;obtain⟨Y,e,S⟩:=ah4 R x;have A:=O i x j c p d;rw[e] at d;cases j with
   |zero=>simp at d;subst d;exact adF S A
   |succ j=>simp at d
  exact .sl k o xs b t z cap B u r F f (λi x j p q=>M _ _ (D i x j p q)) (λi x j p q=>H _ _ _ (D i x j p q) (E i x j p q) (C i x j _ p (Ac q)).1) (λi x j c p d=>(C i x j c p d).2)
 |_=>simp[V.hard] at y
theorem adG{v:V}(c:v.hard=true)(g:Gh)(w:World)(b:Occ)(cv:Value):ai g w b v cv:=by
 cases v with
 |sl k o l=>cases o<;>simp[V.hard] at c;simp[ai]
 |raw=>simp[V.hard] at c
 |ul=>simp[V.hard] at c
 |_=>simp[ai]
def adH(P:Program)(d f:Nat)(avs:List aj)(m:Oper):Bool:=(m.dst==some d)&&(match aax m.op with|some (c,b)=>f==c&&(pZ avs b&&lB P f)|none=>false)
theorem ajz(hT:sM=[])(hW:abC P W)(a3:g.β=jz P){d f:Nat}{avs:List aj}(q:adH P d f avs m=true)(S:(WOp.call d f avs).step (d7 W Γ) s=some (true,s'))(h:SR g s w a)(hn:agh g s w a s' next):m.wp P a w next Q:=by
 obtain⟨dst,op,ty,pos,br,gd⟩:=m;simp only[adH,Ab,beq_iff_eq] at q;obtain⟨rfl,q⟩:=q;split at q
 ·rename_i f' E bs;obtain⟨ts,rfl⟩:=zg bs;simp only[Ab,beq_iff_eq] at q;obtain⟨rfl,h1,J⟩:=q;simp only[WOp.step,d7,agi] at S;cases hg:W f (avs.map λx=>disown (x.ev s)) with
  |none=>rw[hg] at S;simp at S
  |some p=>
  obtain⟨c,v⟩:=p;rw[hg] at S;simp only[A9,Ae,Al] at S;obtain⟨rfl,rfl⟩:=S;obtain⟨⟨hp',a4⟩,a5,ad,b3⟩:=hW _ _ _ hg;obtain⟨k1,k2⟩:=uk h.er avs E h1;have X:(execOp a.eval ⟨some d,.call ⟨.value (.func f),⟨E⟩,ts⟩,ty,pos,br,gd⟩).run P w=.ok (.enter f (E.map a.eval).toArray) w:=by
   unfold lB at J;split at J
   ·rename_i fn al;simp only[Ab,bne_iff_ne,ne_eq] at J;obtain⟨h3,h4⟩:=J;have L:fn.body.isNone=false:=by cases R:fn.body<;>simp_all
    simp[execOp,resolve,Act.eval,CW,invoke,callFunc,al,h4,L];intro b2;rw[b2] at h3;simp at h3
   ·simp at J
  unfold Cw;rw[X,Oper.upon_enter];let g₀:Gh:={I:=g.I,ρ:=g.ρ,O:=λ_=>none,β:=g.β}
  have h0:HR g₀ [] w:=⟨by simp,by simp,by simp,by simp,h.hr.exI,by simp[g₀]⟩
  refine(a4 w g₀ (E.map a.eval).toArray ⟨a3,λM=>absurd hT M⟩ h0 (by simp[k1]) (by intro x hx;obtain⟨y,_,rfl⟩:=AA.1 hx;exact cA _) (λi x cv hx r=>(k2 i x cv hx (by simpa using r)).flat (Ai.1 a5 x (Af hx)))).mono ?_;rintro e w' ⟨cv,g₁,rfl,q1,t,q3,q4⟩;simp only;let k:Gh:={I:=g₁.I,ρ:=g.ρ,O:=λ_=>none,β:=g.β}
  have bl:∀(id:Nat) cs,s.hp[id]? =some (some cs)->age g₀ w (g.ρ id):=λid cs hid j H=>absurd H (h.hr.notI id cs hid j)
  have Y:∀(id:Nat) cs,s.hp[id]? =some (some cs)->g.ρ id<w.heap.size:=λid cs hid=>(h.hr.obj id cs hid).lt
  have A:∀b j,b<w.heap.size->g₁.I b j->g.I b j:=λb j R H=>t.iSame b j R (by simp) rfl H
  have hp:∀(v:V)(cv:Value)(id o:Nat),VRel g.I g.ρ s.hp.length w v cv->v=.ptr id o->id<s.hp.length∧k.ρ id=g.ρ id:=by rintro v cv id o D rfl;cases D;exact⟨by assumption,rfl⟩
  have tr:∀(v:V)(cv:Value),v.hard=true->VRel g.I g.ρ s.hp.length w v cv->VRel k.I k.ρ s.hp.length w' v cv:=
   λv cv D hr=>ah5 t.mono t.cell D (λid o e=>hp v cv id o hr e) hr
  have C:∀(id:Nat) cs,(s.hp.map rj)[id]? =some (some cs)->s.hp[id]? =some (some cs)∧∀c∈cs,c.hard=true∧c.one=true:=by
   intro id cs hid;rw[Au,Ak] at hid;obtain⟨o,ho,he⟩:=hid;unfold rj at he;split at he;·rename_i F;subst he;simp only[aiu,Ai,Ab] at F;exact⟨ho,F⟩
   ·cases he
  have B:(s.hp.map rj).length=s.hp.length:=by simp
  have a9:SR k ⟨s.env.map V.harden,s.hp.map rj⟩ w' a:=by
   refine⟨⟨?_,?_,?_,λ_ _ _=>rfl,q1.exI,by simp[k]⟩,⟨by simp[h.er.size],?_,?_⟩⟩
   ·intro id cs hid;obtain⟨hid,G⟩:=C id cs hid;have z:b7 cs=false:=ab6 λc q=>(G c q).2
    rw[B];refine(h.hr.obj id cs hid).keep (t.block _ (Y id cs hid) (by simp) rfl (bl id cs hid)) λc4 e fz a1 N=>⟨N.len,N.plain,?_,N.cold,N.one,?_,?_,N.bn⟩
    ·rw[fT z];simp
    ·intro j c cv q r;have Z:=q;rw[c7 z] at Z;exact tr c cv (G c (Af Z)).1 (N.rel j c cv q r)
    ·intro j c cv q r;rw[c7 z] at q;exact adG (G c (Af q)).1 _ _ _ _
   ·intro id bx cs b0 h1 J M;exact h.hr.apart id bx cs b0 (C _ _ h1).1 (C _ _ J).1 M
   ·intro id cs hid j H;have hid:=(C id cs hid).1;exact h.hr.notI id cs hid j (A _ j (Y id cs hid) H)
   ·intro n v cv D r;simp only[Au,Ak] at D;obtain⟨u,hu,rfl⟩:=D;rw[B];unfold V.harden;split;·rename_i F;exact tr u cv F (h.er.rel n u cv hu r)
    ·exact .undef _
   ·intro n v cv D r;simp only[Au,Ak] at D;obtain⟨u,hu,rfl⟩:=D;unfold V.harden;split;·rename_i F;exact adG F _ _ _ _
    ·simp[ai]
  refine hn _ _ k (a9.set d (q3.flat ad) ?_) ?_ rfl
  ·cases v with
   |tup=>simp[ai]
   |_=>exact eA b3 _ _ _ _
  ·refine⟨rfl,t.os,t.tape,t.output,t.size,λb R _ _ F=>t.block b R (by simp) rfl F,t.mono,t.cell,λ_ _=>rfl,by show s.hp.length<=(s.hp.map rj).length;rw[B];exact Aj _,λb j R _ _ H=>A b j R H,λ_ _ _ _=>rfl,λid cs hid=>.inl ⟨cs,(C id cs hid).1⟩⟩
 ·simp at q
end
section
variable{w:World}{g:Gh}{s s':St}{a:Act}{P:Program}{Γ:am}{W:Nat->List V->Option (Bool×V)}{imp:List Nat}
structure nn(g₀:Gh)(hp₀:List ah)(w₀:World)(g:Gh)(s:St)(w:World)(a:Act):Prop where
 sr:SR g s w a
 fr:FRW g₀ hp₀ w₀ g s.hp w
 df:a.defers=[]
theorem nn.on{g₀:Gh}{hp₀:List ah}{w₀:World}{g₁:Gh}{c:St}{w₁:World}{b:Act}(h:nn g₀ hp₀ w₀ g s w a)(k:Inv g s.hp w [] g₁ c w₁ b):nn g₀ hp₀ w₀ g₁ c w₁ b:=⟨k.sr,h.fr.trans k.fr.toW,k.df⟩
theorem nn.inv{g₀:Gh}{hp₀:List ah}{w₀:World}(h:nn g₀ hp₀ w₀ g s w a):Inv g s.hp w [] g s w a:=⟨h.sr,FR.refl _ _ _,h.df⟩
theorem nn.base{g₀:Gh}{hp₀:List ah}{w₀:World}(h:nn g₀ hp₀ w₀ g s w a)(d:sM=[])(b:g₀.β=jz P):l7 P g s.hp w:=⟨⟨h.fr.beta.trans b,λc=>absurd d c⟩,h.sr.hr.notI⟩
theorem nn.keeps{g₀:Gh}{hp₀:List ah}{w₀:World}(h:nn g₀ hp₀ w₀ g s w a)(b:List Nat){n:Nat}(c:hp₀.length<=n):nn g₀ hp₀ w₀ g (s.keep b n) w a:=
 ⟨h.sr.keeps b n,⟨h.fr.beta,h.fr.os,h.fr.tape,h.fr.output,h.fr.size,h.fr.block,h.fr.mono,h.fr.cell,h.fr.rho,ads c h.fr.num,h.fr.iSame,h.fr.oSame,λid cs hid=>h.fr.live id cs (adr hid)⟩,h.df⟩
def aaG(P:Program)(o:WOp)(m:Oper):Bool:=(match m.guard with|none=>true|_=>false)&&(match o with
 | .ste n x v=>adE P n x v m
 | .call d f avs=>adH P d f avs m)
theorem ahh(p:Zed)(j:sM=[])(k:abC P W)(c:g.β=jz P){o:WOp}{m:Oper}{next:Act->World->Prop}{Q:Exit->Act->World->Prop}(b:aaG P o m=true)(e:o.step (d7 W Γ) s=some (true,s'))(h:SR g s w a)(i:agh g s w a s' next):m.wp P a w next Q:=by
 simp only[aaG,Ab] at b;cases o with
 |ste n x v=>exact ajy p b.2 e h i
 |call d f avs=>exact ajz j k c b.2 e h i
def ac1(b:Array Oper)(k j:Nat):Bool:=match b[j]? with
 |some m=>m.after.toList.all (λe=> !Region.binds .any e||decide (e.on<j))&&(A2 j).all λi=>(BP k j&& !Nat.beq (i+1) j)||m.after.toList.any λe=>BF .any e&&e.on==i
 |none=>false
theorem sR{c:Array Oper}{k j:Nat}(h:ac1 c k j=true):∃m,c[j]? =some m∧(∀e∈m.after,BF .any e=true->e.on<j)∧∀i,i<j->(k<j->i+1=j)->∃e∈m.after,BF .any e=true∧e.on=i:=by
 unfold ac1 at h;split at h
 ·rename_i m q;simp only[Ab] at h;refine⟨m,q,λe f b=>?_,λi o p=>?_⟩;·have:=Ai.1 h.1 e (by simpa using f);simpa [b] using this
  ·have:=Ai.1 h.2 i (Bd.2 o);have d:(BP k j&& !Nat.beq (i+1) j)=false:=by
    cases b:BP k j with
    |false=>rfl
    |true=>simp[p (by simpa [B0] using b)]
   rw[d,Cd] at this;obtain⟨e,f,b⟩:=B8.1 this;simp only[Ab,beq_iff_eq] at b;exact⟨e,by simpa using f,b.1,b.2⟩
 ·cases h
theorem adI{k0:Nat}{c:Array Oper}{Q:Exit->Act->World->Prop}:∀(n k:Nat)(b:Array Bool)(a:Act)(w:World),k+n=c.size->(k0<=k∧∀j,k<=j->j<c.size->ac1 c k0 j=true)->b.size=c.size->(∀i,i<k->b.getD i false=true)->(∀i,k<=i->i<c.size->b.getD i true=false)->
  wpOps P c Q (A6 k n) a w->wpAny P .any c Q n b a w
 |0,k,b,a,w,M,t,u,x,D,h=>by
  refine⟨?_,by simpa [wpOps] using h⟩;rw[C4];intro j v;obtain⟨r,o,y,_⟩:=mem_ready.1 v;have d:j<c.size:=(AK.1 y).1;have f:=x j (by omega);have p:j<b.size:=by omega
  simp[A3,p] at r f;rw[r] at f;cases f
 |n+1,k,b,a,w,M,t,u,x,D,h=>by
  have key:∀j,j∈CH .any c b->j=k:=by
   intro j v;obtain⟨r,o,y,N⟩:=mem_ready.1 v;have d:j<c.size:=(AK.1 y).1;have p:j<b.size:=by omega
   rcases Dr j k with f|f|f;·have q:=x j f;simp[A3,p] at r q;rw[r] at q;cases q
   ·exact f
   ·obtain⟨m,F,_,C⟩:=sR (t.2 j (by omega) d);rw[F] at y;cases y;obtain⟨e,G,H,E⟩:=C (j-1) (by omega) (by omega);have q:=N e G H;rw[E] at q;have I:=D (j-1) (by omega) (by omega);have A:j-1<b.size:=by omega
    simp[A3,A] at q I;rw[q] at I;cases I
  have B:k∈CH .any c b:=by obtain⟨m,F,d,_⟩:=sR (t.2 k (Aj _) (by omega));exact mem_ready.2 ⟨D k (Aj _) (by omega),m,F,λe G H=>x _ (d e G H)⟩
  refine⟨λe=>?_,λj v=>?_⟩;·rw[e] at B;simp at B
  ·obtain rfl:=key j v;rw[B6,wpOps_cons] at h;refine wpOp_mono (λJ w' L=>?_) h;refine adI n (j+1) _ J w' (by omega) ⟨by have:=t.1;omega,λi r f=>t.2 i (by omega) f⟩ (by simpa using u) ?_ ?_ L
   ·intro i O;by_cases z:i=j
    ·subst z;have d:i<b.size:=by omega
     simp[A3,d]
    ·rw[getD_set_ne false (λe=>z e.symm)];exact x i (by omega)
   ·intro i r f;rw[getD_set_ne true (by omega)];exact D i (by omega) f
def uv(P:Program)(imp:List Nat)(b:Array Oper)(l:List GOp)(c:List (List Nat)):Bool:=
 (P.follows .mixedOrders&&mB P b 0 l)&&(((A2 l.length).all λj=>
  (match b[j]? with
   |some m=>m.after.toList.all (λe=> !Region.binds .any e||decide (e.on<j))&&(c.getD j []).all (λi=>m.after.toList.any λe=>BF .any e&&(e.on==i||(c.getD e.on []).contains i))
   |none=>false)&&
  (match l[j]? with
   |some x=>(A2 j).all λi=>(c.getD j []).contains i||(match l[i]? with|some y=>uf imp y x|none=>false)
   |none=>false))&&((A2 b.size).all λj=>decide (j<l.length)||ac1 b l.length j))
theorem aaH{b:Array Oper}:∀(l:List GOp)(i:Nat),mB P b i l=true->∀(k:Nat) x,l[k]? =some x->∃m,b[i+k]? =some m∧uj P b x m=true
 | [],i,h=>by simp
 |x::l,i,h=>by
  simp only[mB,Ab] at h;obtain⟨d,f⟩:=h;intro k y c;cases k with
  |zero=>
   simp at c;subst c;split at d;·exact⟨_,by simpa using (by assumption),d⟩
   ·cases d
  |succ k=>obtain⟨m,j,e⟩:=aaH l (i+1) f k y (by simpa using c);exact⟨m,by rw[<-j];congr 1;omega,e⟩
theorem agk(c2:bR P Γ){g₀:Gh}{hp₀:List ah}{w₀:World}(b5:l7 P g₀ hp₀ w₀){imp:List Nat}(hP:cd Γ imp){R:Type}{K:St->Option R}{r:R}{d:Array Oper}{l:List GOp}{H:List (List Nat)}(hc:uv P imp d l H=true){n:Nat}(d3:d.size=l.length+n){df:List Deferred}{Q:Exit->Act->World->Prop}
  (hQ:∀(b:Array Bool) s g w a,b.size=d.size->(∀i,i<l.length->b.getD i false=true)->(∀i,l.length<=i->i<d.size->b.getD i true=false)->K s=some r->Inv g₀ hp₀ w₀ df g s w a->wpAny P .any d Q n b a w):∀(f:Nat)(p:List Nat)(b:Array Bool)(s:St)(g:Gh)(w:World)(a:Act),
   p.length=f->p.Pairwise (·<·)->(∀i,i∈p↔i<l.length∧b.getD i true=false)->b.size=d.size->(∀i,l.length<=i->i<d.size->b.getD i true=false)->(∀j,j<l.length->j ∉ p->∀i∈H.getD j [],i ∉ p)->
   bk Γ (p.filterMap λi=>l[i]?) K s=some r->Inv g₀ hp₀ w₀ df g s w a->wpAny P .any d Q (f+n) b a w:=by
 simp only[uv,Ab] at hc;obtain⟨⟨-,c1⟩,bx,ds⟩:=hc;have al:=aaH l 0 c1;simp only[AW] at al
 have hj:∀j,j<l.length->∃m x,d[j]? =some m∧l[j]? =some x∧uj P d x m=true∧(∀e∈m.after,BF .any e=true->e.on<j)∧
   (∀i∈H.getD j [],∃e∈m.after,BF .any e=true∧(e.on=i∨i∈H.getD e.on []))∧(∀i,i<j->i∈H.getD j []∨∃y,l[i]? =some y∧uf imp y x=true):=by
  intro j z;have h0:=Ai.1 bx j (Bd.2 z);simp only[Ab] at h0;obtain⟨c,v⟩:=h0;have hx:l[j]? =some l[j]:=Ac z;obtain⟨m,F,X⟩:=al j _ hx;rw[F] at c;rw[hx] at v;simp only[Ab] at c;refine⟨m,l[j],F,hx,X,?_,?_,?_⟩;·intro e E q;have:=Ai.1 c.1 e (by simpa using E);simpa [q] using this
  ·intro i hi;have:=Ai.1 c.2 i hi;obtain⟨e,E,q⟩:=B8.1 this;simp only[Ab,Be,beq_iff_eq,BS] at q;exact⟨e,by simpa using E,q.1,q.2⟩
  ·intro i hi;have:=Ai.1 v i (Bd.2 hi);simp only[Be,BS] at this;rcases this with u|u;·exact .inl u
   ·right;split at u;·rename_i y hy;exact⟨y,hy,u⟩
    ·simp at u
 have L:∀(p:List Nat)(b:Array Bool),(∀i,i∈p↔i<l.length∧b.getD i true=false)->b.size=d.size->∀j m,j<l.length->d[j]? =some m->(j∈CH .any d b↔j∈p∧∀e∈m.after,BF .any e=true->e.on<l.length∧e.on ∉ p):=by
  intro p b k G j m z F;obtain⟨m',x',O,_,_,Z,_,_⟩:=hj j z;rw[F] at O;cases O;have key:∀i,i<l.length->(b.getD i false=true↔i<l.length∧i ∉ p):=by
   intro i v;rw[k i];have c:i<b.size:=by omega
   simp[A3,c,v]
  rw[mem_ready,k j];constructor;·rintro⟨c,o,N,v⟩;rw[F] at N;cases N;exact⟨⟨z,c⟩,λe E q=>(key _ (Nat.lt_trans (Z e E q) z)).1 (v e E q)⟩
  ·rintro⟨⟨_,c⟩,v⟩;exact⟨c,m,F,λe E q=>(key _ (Nat.lt_trans (Z e E q) z)).2 (v e E q)⟩
 intro f;induction f with
 |zero=>
  intro p b s g w a D J k G t I hr h;have:p=[]:=A1 D;subst this;rw[AW];refine hQ b s g w a G (λi hi=>?_) t hr h;have v:i<b.size:=by omega
  have u:¬(i<l.length∧b.getD i true=false):=λhh=>absurd ((k i).2 hh) (by simp)
  simp[A3,v] at u ⊢;cases hh:b[i] with
  |true=>rfl
  |false=>exact absurd hh (by simpa using u hi)
 |succ f ih=>
  intro p b s g w a D J k G t I hr h;rw[show f+1+n=(f+n)+1 by omega];simp only[wpAny];refine⟨?_,?_⟩
  ·intro cv;exfalso;cases p with
   |nil=>simp at D
   |cons j p=>
    have M:=((k j).1 (AN ..)).1;obtain⟨m,x,F,hx,X,E,hp,hi⟩:=hj j M;have:j∈CH .any d b:=by
     refine(L _ b k G j m M F).2 ⟨AN ..,λe ar q=>?_⟩;have z:=E e ar q;refine⟨by omega,?_⟩;intro C;rcases AL.1 C with c|c;·omega
     ·have:=(CK.1 J).1 _ c;omega
    rw[cv] at this;simp at this
  ·intro j a0;obtain⟨hu,o,N,_⟩:=mem_ready.1 a0;have M:j<l.length:=by
    rcases AE j l.length with c|c;·exact c
    ·exfalso;have ci:j<d.size:=(AK.1 N).1;have bY:=Ai.1 ds j (Bd.2 ci);have dp:¬j<l.length:=by omega
     simp only[dp,decide_false,Cd] at bY;obtain⟨m,F,_,b0⟩:=sR bY;rw[F] at N;cases N;cases p with
     |nil=>simp at D
     |cons i0 p=>
      obtain⟨q1,q2⟩:=(k i0).1 (AN ..);obtain⟨_,o2,b1,bs⟩:=mem_ready.1 a0;rw[F] at b1;cases b1;rcases AE l.length j with c0|c0
      ·obtain⟨e,E,q,a4⟩:=b0 (j-1) (by omega) (by omega);have u:=bs e E q;rw[a4] at u;have q3:=t (j-1) (by omega) (by omega);have h4:j-1<b.size:=by omega
       simp[A3,h4] at q3 u;rw[q3] at u;cases u
      ·obtain⟨e,E,q,a4⟩:=b0 i0 (by omega) (by omega);have u:=bs e E q;rw[a4] at u;have h4:i0<b.size:=by omega
       simp[A3,h4] at q2 u;rw[q2] at u;cases u
   obtain⟨ea,a3⟩:=(L p b k G j o M N).1 a0;obtain⟨m,x,F,hx,X,E,hp,hi⟩:=hj j M;rw[F] at N;cases N;have bl:∀i∈H.getD j [],i ∉ p:=by
    intro i Y;obtain⟨e,ar,q,a1⟩:=hp i Y;obtain⟨d1,d2⟩:=a3 e ar q;rcases a1 with rfl|a1;·exact d2
    ·exact I _ d1 d2 i a1
   obtain⟨A,B,rfl⟩:=List.append_of_mem ea;have hA:∀i∈A,i<j:=by intro i S;exact(CA.1 J).2.2 i S j (AN ..)
   have hB:∀i∈B,j<i:=by intro i cy;exact(CK.1 (CA.1 J).2.1).1 i cy
   rw[Ct,CL hx] at hr;obtain⟨s',hg,bn⟩:=afW hP _ s (by
    intro y hy;obtain⟨i,S,cs⟩:=List.mem_filterMap.1 hy;rcases hi i (hA i S) with c|⟨y',c,v⟩
    ·exact absurd (AT _ S) (bl i c)
    ·rw[cs] at c;cases c;exact v) hr
   rw[<-Ct] at bn;refine wV c2 b5 F X hg h ?_;intro g' w' a' b2;have C:∀i,i∈A++B↔i∈A++j::B∧i≠j:=by
    intro i;simp only[Ay,AL];constructor
    ·rintro(c|c);·exact⟨.inl c,by have:=hA i c;omega⟩
     ·exact⟨.inr (.inr c),by have:=hB i c;omega⟩
    ·rintro⟨c|c|c,v⟩;·exact .inl c
     ·exact absurd c v
     ·exact .inr c
   refine ih (A++B) (b.setIfInBounds j true) s' g' w' a' ?_ ?_ ?_ (by simp[G]) ?_ ?_ bn b2;·simp only[AG,AD] at D ⊢;omega
   ·exact J.sublist (Dy (List.sublist_cons_self ..) _)
   ·intro i;rw[C,k];by_cases a2:i=j
    ·subst a2;have b4:i<b.size:=by omega
     simp[A3,b4]
    ·rw[getD_set_ne true (λe=>a2 e.symm)];simp[a2]
   ·intro i c v;rw[getD_set_ne true (by omega)];exact t i c v
   ·intro j' cc br i Y cx;obtain⟨c,v⟩:=(C i).1 cx;by_cases a9:j'=j;·subst a9;exact bl i Y c
    ·exact I j' cc (λO=>br ((C j').2 ⟨O,a9⟩)) i Y c
end
def rm(P:Program)(b:Array Oper)(l c:List GOp)(o:WOp)(more:List GOp):Bool:=
 mB P b l.length c&&((match b[l.length+c.length]? with|some m=>aaG P o m|none=>false)&&(mB P b (l.length+c.length+1) more&&(b.size==l.length+c.length+1+more.length)))
def be(P:Program)(imp:List Nat)(base:Nat):IR->Code->Bool
 | .skip,c=>aF P imp base .skip c
 | .reg l f,c=>jM l&&aF P imp 0 (.reg l f) c
 | .wk l f e o more,.region _ b false=>(jM l&&(jM e&&jM more))&&(rm P b l e o more&&mB P b 0 l)
 | .wk l f e o more,.region _ b true=>(jM l&&(jM e&&jM more))&&(rm P b l e o more&&uv P imp b l f)
 | .seq x y,.seq c d=>be P imp base x c&&be P imp base y d
 | .cond v x y,.cond u c d=>ay v u&&(be P imp base x c&&be P imp base y d)
 | .block i x,.block j c=>i==j&&be P imp base x c
 | .loop _ q x,.loop c=>BM base q&&be P imp base x c
 | .cut _ q x,c=>BM base q&&be P imp base x c
 | .gh _ x,c=>be P imp base x c
 | .ope _ x,c=>be P imp base x c
 | .ghp _ x,c=>be P imp base x c
 | .exit i,.exit j=>i==j
 | .ret,.ret=>true
 |_,_=>false
section
variable{w:World}{g:Gh}{s s':St}{a:Act}{P:Program}{Γ:am}{W:Nat->List V->Option (Bool×V)}{imp:List Nat}
def aaI{R:Type}(g₀:Gh)(hp₀:List ah)(w₀:World)(K:Ex->St->Option R)(r:R)(e:Exit)(a:Act)(w:World):Prop:=
 ∃x s g,fJ x e∧K x s=some r∧nn g₀ hp₀ w₀ g s w a
theorem aeO(a m k:Nat):A6 a (m+1+k)=A6 a m++(a+m)::A6 (a+m+1) k:=by
 have b:A6 a (m+1+k)=A6 a m++A6 (a+m) (1+k):=by rw[show m+1+k=m+(1+k) by omega,<-Dj];simp
 rw[b,show 1+k=k+1 by omega,B6]
theorem aaJ(J:Zed)(z:sM=[])(q:bR P Γ)(O:abC P W){g₀:Gh}{hp₀:List ah}{w₀:World}(e:g₀.β=jz P){R:Type}{K:Ex->St->Option R}{r:R}{k:Array Oper}{l b more:List GOp}{o:WOp}(D:rm P k l b o more=true)(t:jM b=true)(A:jM more=true)
  {s:St} {g:Gh} {w:World} {a:Act} (F:bk (d7 W Γ) b (λs=>match o.step (d7 W Γ) s with|some (c,s')=>chk c (bk (d7 W Γ) more (K .normal) s')|none=>none) s=some r) (h:nn g₀ hp₀ w₀ g s w a):
  wpOps P k (aaI g₀ hp₀ w₀ K r) (A6 l.length (b.length+1+more.length)) a w:=by
 simp only[rm,Ab] at D;obtain⟨X,i,M,h4⟩:=D;rw[jN b t] at F;rw[aeO];refine p5 q (h.base z e) (λs1 g1 w1 a1 j I=>?_) b l.length X s g w a F h.inv;split at i
 ·rename_i m L;rw[wpOps_cons];unfold wpOp;rw[L];simp only;have u:m.guard=none:=by
   simp only[aaG,Ab] at i;cases Y:m.guard with
   |none=>rfl
   |some p=>rw[Y] at i;simp at i
  rw[if_pos (by simp[BO,u])];have d:=h.on I;split at j
  ·rename_i c E x;obtain⟨rfl,j⟩:=rA j;rw[jN more A] at j;refine .inl (ahh J z O (d.fr.beta.trans e) i x d.sr ?_);intro C B t G N S;have f:nn g₀ hp₀ w₀ t E B C:=⟨G,d.fr.trans N,S.trans d.df⟩
   have:=p5 (rest:=[]) (Q:=aaI g₀ hp₀ w₀ K r) q (f.base z e) (λs3 A H Z v y=>(⟨.normal,s3,A,trivial,v,f.on y⟩:aaI g₀ hp₀ w₀ K r .normal Z H)) more _ M E t B C j f.inv;simpa using this
  ·cases j
 ·cases i
theorem eH(J:Zed)(G:sM=[])(A:bR P Γ)(N:abC P W){g₀:Gh}{hp₀:List ah}{w₀:World}(z:g₀.β=jz P)(M:cd Γ imp)(n:Nat){R:Type}{base:Nat}(p:hp₀.length<=base){r:R}:∀(ir:IR)(c:Code),be P imp base ir c=true->∀(K:Ex->St->Option R)(s:St)(a:Act)(w:World)(g:Gh),
  run (d7 W Γ) n ir K s=some r->nn g₀ hp₀ w₀ g s w a->c.wp P (aaI g₀ hp₀ w₀ K r) a w
 | .bad,c,f,K,s,a,w,g,b,h=>by simp[run] at b
 | .rgs ..,c,f,K,s,a,w,g,b,h=>by cases c<;>simp[be] at f
 | .skip,c,f,K,s,a,w,g,b,h=>by
   cases c<;>simp[be,aF] at f;·exact wp_skip ⟨.normal,s,g,trivial,b,h⟩
   ·exact wp_label ⟨.normal,s,g,trivial,b,h⟩
 | .reg l Y,c,f,K,s,a,w,g,b,h=>by
   simp only[be,Ab] at f;have bn:run Γ n (.reg l Y) K s=some r:=by
    simp only[run] at b ⊢
    rwa [jN l f.1] at b
   have bx:aF P imp s.hp.length (.reg l Y) c=true:=by
    have:=f.2;cases c with
    |region id S Q=>cases Q<;>simpa only[aF] using this
    |_=>simp[aF] at this
   refine wp_mono (dN (df:=[]) A (h.base G z) M n (Aj _) (.reg l Y) c bx K s a w g bn h.inv) ?_;rintro e a' w' ⟨x,s',B,E,C,D⟩;exact⟨x,s',B,E,C,h.on D⟩
 | .wk l Y O o more,c,f,K,s,a,w,g,b,h=>by
   cases c with
   |region id S Q=>
    simp only[run] at b;cases Q with
    |false=>
     simp only[be,Ab] at f;obtain⟨⟨g1,g2,g3⟩,I,L⟩:=f;rw[jN l g1] at b;have H:S.size=l.length+(O.length+1+more.length):=by simp only[rm,Ab,beq_iff_eq] at I;omega
     refine wp_region ?_;rw[C9,H,<-Dj];simp only[AW,Cl];refine p5 A (h.base G z) (λs1 g1 w1 a1 C D=>?_) l 0 L s g w a b h.inv;exact aaJ J G A N z I g2 g3 C (h.on D)
    |true=>
     simp only[be,Ab] at f;obtain⟨⟨g1,g2,g3⟩,I,L⟩:=f;rw[jN l g1] at b;have H:S.size=l.length+(O.length+1+more.length):=by simp only[rm,Ab,beq_iff_eq] at I;omega
     have ar:=L;simp only[uv,Ab] at ar;refine wp_region_any ar.1.1 ?_;rw[show S.size=l.length+(O.length+1+more.length) from H];refine agk (g₀:=g) (hp₀:=s.hp) (w₀:=w) (df:=[]) A (h.base G z) M L H (λX s1 g1 w1 a1 q1 q2 q3 C D=>?_) l.length (A2 l.length) _ s g _ a (by simp) List.pairwise_lt_range ?_ (by simp[H]) ?_ ?_ (by rw[od];exact b) h.inv.drew;·refine adI (k0:=l.length) _ l.length X a1 w1 H.symm ⟨Aj _,?_⟩ q1 q2 q3 (aaJ J G A N z I g2 g3 C (h.on D));intro j h3 h4;have:=Ai.1 ar.2.2 j (Bd.2 h4);simpa [Nat.not_lt.2 h3] using this
     ·intro i;by_cases D:i<l.length
      ·have:i<l.length+(O.length+1+more.length):=by omega
       simp[A3,D,this]
      ·simp[D]
     ·intro i h3 h4;have:i<l.length+(O.length+1+more.length):=by omega
      simp[A3,this]
     ·intro j hj a4;exact absurd (Bd.2 hj) a4
   |_=>simp[be] at f
 | .seq x y,c,f,K,s,a,w,g,b,h=>by
   cases c<;>simp[be] at f;rename_i c d;refine wp_seq (wp_mono (eH J G A N z M n p x c f.1 _ s a w g b h) ?_);rintro e a' w' ⟨ex,s',B,E,C,D⟩;cases ex with
   |normal=>cases e<;>simp only[fJ] at E;exact eH J G A N z M n p y d f.2 K s' a' w' B C D
   |exit i=>cases e<;>simp only[fJ] at E;exact⟨.exit i,s',B,E,C,D⟩
   |ret=>cases e<;>simp only[fJ] at E;exact⟨.ret,s',B,trivial,C,D⟩
 | .cond v x y,c,f,K,s,a,w,g,b,h=>by
   cases c<;>simp[be] at f;rename_i u c d;simp only[run] at b;split at b
   ·rename_i t ht;have rr:=aB f.1 h.sr.er;rw[ht] at rr;generalize b0:a.eval u=cv at rr;cases rr;refine wp_cond b0 ?_;cases t with
    |true=>rw[aj.fix_eq ht] at b;exact eH J G A N z M n p x c f.2.1 K s a w g b h
    |false=>simp only[cond_false] at b;rw[aj.fix_eq ht] at b;exact eH J G A N z M n p y d f.2.2 K s a w g b h
   ·simp at b
 | .block i x,c,f,K,s,a,w,g,b,h=>by
   cases c<;>simp[be] at f;rename_i j c;obtain⟨rfl,f⟩:=f;refine wp_block (wp_mono (eH J G A N z M n p x c f _ s a w g b h) ?_);rintro e a' w' ⟨ex,s',B,E,C,D⟩;cases ex with
   |normal=>cases e<;>simp only[fJ] at E;exact⟨.normal,s',B,trivial,C,D⟩
   |exit k=>
    cases e<;>simp only[fJ] at E;subst E;simp only[Exit.inBlock];by_cases al:k=i;·subst al;simp only[if_true];simp only[aQ,BL,cond_true] at C;exact⟨.normal,s',B,trivial,C,D⟩
    ·simp only[al,if_false];have hb:Av k i=false:=by
      cases hb:Av k i with
      |true=>exact absurd (As hb) al
      |false=>rfl
     simp only[aQ,hb,cond_false] at C;exact⟨.exit k,s',B,rfl,C,D⟩
   |ret=>cases e<;>simp only[fJ] at E;exact⟨.ret,s',B,trivial,C,D⟩
 | .loop F q x,c,f,K,s,a,w,g,b,h=>by
   cases c<;>simp[be] at f;rename_i c;obtain⟨hq,f⟩:=f;have hq:hp₀.length<=q:=AF p hq;simp only[run] at b
   have key:∀(m:Nat)(s:St)(a:Act)(w:World)(g:Gh),bP m (λZ s=>run (d7 W Γ) n x (dv Z F q K) s) s=some r->nn g₀ hp₀ w₀ g s w a->
     Code.rounds P c (aaI g₀ hp₀ w₀ K r) m a w:=by
    intro m;induction m with
    |zero=>intro s a w g b h;simp[bP] at b
    |succ m ih=>
     intro s a w g b h;simp only[bP] at b;rw[rounds_succ];refine wp_mono (eH J G A N z M n p x c f _ s a w g b h) ?_;rintro e a' w' ⟨ex,s',B,E,C,D⟩;cases ex with
     |normal=>cases e<;>simp only[fJ] at E;exact ih _ a' w' B C (D.keeps F hq)
     |exit k=>cases e<;>simp only[fJ] at E;exact⟨.exit k,s',B,E,C,D⟩
     |ret=>cases e<;>simp only[fJ] at E;exact⟨.ret,s',B,trivial,C,D⟩
   exact wp_loop_rounds n (key n _ a w g b (h.keeps F hq))
 | .cut F q x,c,f,K,s,a,w,g,b,h=>by simp only[be,Ab] at f;obtain⟨hq,f⟩:=f;simp only[run] at b;exact eH J G A N z M n p x c f K _ a w g b (h.keeps F (AF p (C1 hq)))
 | .gh x y,c,f,K,s,a,w,g,b,h=>by
   simp only[be] at f;simp only[run] at b;split at b
   ·rename_i t s' hs;cases t with
    |false=>simp[chk] at b
    |true=>obtain⟨B,I,L⟩:=ji h.sr hs;exact eH J G A N z M n p y c f K s' a w B b ⟨I,h.fr.trans L.toW,h.df⟩
   ·simp at b
 | .ope x y,c,f,K,s,a,w,g,b,h=>by
   simp only[be] at f;simp only[run] at b;have go:∀q:dc,(match q.step s with|some (c,s')=>chk c (run (d7 W Γ) n y K s')|none=>none)=some r->∃s' B,run (d7 W Γ) n y K s'=some r∧SR B s' w a∧FR g s.hp w B s'.hp w:=λq b=>by
    split at b
    ·rename_i t s' hs;cases t with
     |false=>simp[chk] at b
     |true=>obtain⟨B,I,L⟩:=ji h.sr hs;exact⟨s',B,b,I,L⟩
    ·simp at b
   have br:∃s' B,run (d7 W Γ) n y K s'=some r∧SR B s' w a∧FR g s.hp w B s'.hp w:=by
    cases hb:afG s x with
    |true=>rw[hb] at b;exact go _ b
    |false=>rw[hb] at b;exact go _ b
   obtain⟨s',B,b,I,L⟩:=br;exact eH J G A N z M n p y c f K s' a w B b ⟨I,h.fr.trans L.toW,h.df⟩
 | .ghp x y,c,f,K,s,a,w,g,b,h=>by
   simp only[be] at f;simp only[run] at b;refine wp_mono (eH J G A N z M n p y c f _ s a w g b h) ?_;rintro e a' w' ⟨ex,s',B,E,C,D⟩;cases ex with
   |normal=>
    simp only[nY] at C;split at C
    ·rename_i t s2 hs;cases t with
     |false=>simp[chk] at C
     |true=>obtain⟨g2,I,L⟩:=ji D.sr hs;exact⟨.normal,s2,g2,E,C,⟨I,D.fr.trans L.toW,D.df⟩⟩
    ·simp at C
   |exit i=>exact⟨.exit i,s',B,E,C,D⟩
   |ret=>exact⟨.ret,s',B,E,C,D⟩
 | .exit i,c,f,K,s,a,w,g,b,h=>by cases c<;>simp[be] at f;subst f;exact wp_exit ⟨.exit i,s,g,rfl,b,h⟩
 | .ret,c,f,K,s,a,w,g,b,h=>by cases c<;>simp[be] at f;exact wp_ret ⟨.ret,s,g,trivial,b,h⟩
structure zZ(P:Program)(k:Nat)(f:FuncId)(call:Nat->List V->List ah->Ro):Prop where
 fnOK:∀{n:Nat}{vs:List V}{hp hp':List ah}{v:V},hp.length=k->call n vs hp=some (v,hp')->∀(w:World)(g:Gh)(cargs:Array Value),oa P g w->HR g hp w->vs.length=cargs.size->(∀x∈vs,x.bare=true)->
  (∀(i:Nat) x cv,vs[i]? =some x->cargs[i]? =some cv->VRel g.I g.ρ hp.length w x cv)->
  Calls P f cargs w λe w'=>∃cv g',e=.returned cv∧HR g' hp' w'∧FRW g hp w g' hp' w'∧VRel g'.I g'.ρ hp'.length w' v cv∧ai g' w' .res v cv
abbrev adJ(P:Program)(Γ:am)(imp:List Nat)(k:Nat)(f:FuncId)(fn:Func)(b:IR)(c:List RV):Prop:=zZ P k f λn vs hp=>pL Γ n fn.ntmps c b vs hp
theorem adJ.of(N:Zed)(S:sM=[]){k:Nat}{f:FuncId}{fn:Func}{E:IR}{z:List RV}(B:bR P Γ)(R:abC P W)(O:cd Γ imp)(x:P.funcs[f]? =some fn)(u:fn.body=some (fn.body.getD .skip))
  (chk:(be P imp k E (fn.body.getD .skip)&&eD P z fn.results.toList)=true) (h:fn.results.toList.length<=5):adJ P (d7 W Γ) imp k f fn E z:=⟨λ{n vs hp hp' v} t Q w g D A G y j q=>by
 subst t;simp only[Ab] at chk;refine calls_of_wp x u ?_;have o:=eH N S B R A.1 O n (Aj _) E _ chk.1 (fin z) (start fn.ntmps vs hp) _ w g Q ⟨zQ G y j q,(FR.refl _ _ _).toW,rfl⟩;refine wp_mono o ?_;rintro e H w' ⟨M,s',J,L,t,C⟩;have d:∀v hp',(ne s' z).map (λv=>(v,s'.hp))=some (v,hp')->H.defers=[]∧∃cv,(results fn H.tmps).run P w'=.ok cv w'∧∃m b,Da cv=.returned m∧HR b hp' w'∧FRW g hp w b hp' w'∧VRel b.I b.ρ hp'.length w' v m∧ai b w' .res v m:=by
  intro v hp' c;have e:hp'=s'.hp:=by obtain⟨X,_,p⟩:=Ak.1 c;simp only[Al] at p;exact p.2.symm
  subst e;exact⟨C.df,afo (F:=λJ=>FRW g hp w J s'.hp w') chk.2 h C.sr (λr=>C.fr.hand r) c⟩
 cases M with
 |normal=>cases e<;>simp only[fJ] at L;exact d _ _ t
 |exit i=>simp[fin] at t
 |ret=>cases e<;>simp only[fJ] at L;exact d _ _ t⟩
theorem zZ.pure{f:FuncId}{b:Nat->List V->List ah->Ro}{vs:List V}{n:Nat}{x:Ro}(h:zZ P 0 f b)(e:b n vs []=x){v:V}{hp':List ah}(j:x=some (v,hp')):lf P f vs v:=
 ⟨hp',λw g c d k m o i=>h.fnOK rfl (e.trans j) w g c d k m o i⟩
end
def sF(w:World):Gh:={I:=λb j=>∃n,w.cell? ⟨b,j,none⟩=some (.int .u8 n),ρ:=id,O:=λ_=>none,β:=0}
theorem aaK{w:World}{xs:List UInt8}{cv:Value}(h:VRel (nB w).I id 0 w (.sl .u8 (.may false) xs) cv):VRel (sF w).I id 0 w (.sl .u8 (.may false) xs) cv:=by
 cases h with
 |sln=>exact .sln _ _
 |sle _ _ z y=>exact .sle _ _ z y
 |sl _ _ _ b o p cap D A B t f F q r=>
  have key:∀(i:Nat)(x:UInt8)(j:Nat),xs[i]? =some x->j<(enc .u8 x).length->∃n,f i j=.int .u8 n:=by
   intro i x j k m;have e:j=0:=by simpa [enc] using m
   subst e;have:=r i x 0 _ k rfl;generalize f i 0=u at this;cases this;exact⟨_,rfl⟩
  refine .sl .u8 (.may false) xs b o p cap D A B t f (λi x j k m=>?_) q (λi x j v k d=>?_);·obtain⟨n,E⟩:=key i x j k m;exact⟨n,(q i x j k m).trans (by rw[E])⟩
  ·have C:=r i x j v k d;have e:j=0:=by
    have:=(Ad.1 d).1;simpa [enc] using this
   subst e;simp[enc] at d;subst d;exact(adF (c:=.int .u8 (UInt8.toNat x)) rfl C).2
theorem agl{P:Program}{f:FuncId}{vs:List V}(r:sM=[])(h:lf P f vs (.bool true)){c:Array Value}{w:World}(t:vs.length=c.size)(m:∀x∈vs,x.bare=true)
  (q:∀(i:Nat) x cv,vs[i]? =some x->c[i]? =some cv->VRel (sF w).I id 0 w x cv):
  Calls P f c w λe w'=>e=.returned (.bool true)∧RowKit.Below w.heap.size w w':=by
 obtain⟨hp',h⟩:=h;refine(h w {sF w with β:=jz P} c ⟨rfl,λo=>absurd r o⟩ ⟨by simp,by simp,by simp,by simp,λb j ⟨n,k⟩=>⟨by rw[k];rfl,λ_ _=>⟨n,k⟩⟩,by simp[sF]⟩ t m q).mono ?_;rintro e w' ⟨cv,u,rfl,_,d,p,_⟩;cases p;exact⟨rfl,d.os,d.tape,d.output,d.size,λb m=>d.block b m (by simp) rfl λj ⟨n,k⟩=>⟨_,k,rfl⟩⟩
section
variable{P:Program}
def sG:Option (List V×List V)->V->V
 |none,h=>h
 |some (p,q),h=>.tup (p++h::q)
def agm:Option (List V×List V)->Bool
 |none=>true
 |some (p,q)=>p.all V.flat&&q.all V.flat
def aaL(P:Program)(f:FuncId)(vs:List V)(o:Option (List V×List V))(k:EK)(xs:List (Ty k)):Prop:=
 eC P f vs [] (sG o (.sw k 0 xs.length)) [some [.rw k xs],none]
theorem aaL.dim{f:FuncId}{vs us:List V}{o:Option (List V×List V)}{k:EK}{xs:List (Ty k)}(h:aaL P f us o k xs)(e:vs.map V.dim=us):aaL P f vs o k xs:=eC.dim h e
theorem ahi{I I':Nat->Nat->Prop}{ρ ρ':Nat->Nat}{N N':Nat}{w:World}{o:Option (List V×List V)}{h k:V}{cv:Value}(e:agm o=true)(g:VRel I ρ N w (sG o h) cv)
  (m:∀cv,VRel I ρ N w h cv->VRel I' ρ' N' w k cv) (j:∀v cv,v.flat=true->VRel I ρ N w v cv->VRel I' ρ' N' w v cv):VRel I' ρ' N' w (sG o k) cv:=by
 cases o with
 |none=>exact m cv g
 |some r=>
  obtain⟨p,q⟩:=r;simp only[agm,Ab] at e;simp only[sG] at g ⊢;cases g with
  |tup _ vs t f=>
  refine .tup _ vs (by simpa using t) ?_;intro i c cv a b;rcases Dr i p.length with d|d|d;·rw[Ap d] at a;exact j c cv (Ai.1 e.1 c (Af a)) (f i c cv (by rw[Ap d];exact a) b)
  ·subst d;rw[An (Aj _),Cx] at a;simp only[AZ,Ae] at a;subst a;exact m cv (f _ h cv (by rw[An (Aj _),Cx];rfl) b)
  ·rw[An (by omega),show i-p.length=(i-p.length-1)+1 by omega,AR] at a;exact j c cv (Ai.1 e.2 c (Af a)) (f i c cv (by rw[An (by omega),show i-p.length=(i-p.length-1)+1 by omega,AR];exact a) b)
theorem ahj{g:Gh}{w:World}{a:Occ}{o:Option (List V×List V)}{k:EK}{id n:Nat}{cv:Value}:ai g w a (sG o (.sw k id n)) cv:=by
 cases o with
 |none=>simp[sG,ai]
 |some b=>simp[sG,ai]
theorem aaL.frame{f:FuncId}{vs:List V}{o:Option (List V×List V)}{k:EK}{xs:List (Ty k)}(h:aaL P f vs o k xs)(hf:vs.all V.flat=true)(ho:agm o=true)(hp:List ah):
  eC P f vs hp (sG o (.sw k hp.length xs.length)) (hp++[some [.rw k xs],none]):=by
 intro w g S a9 B a4 X a3;let g₀:Gh:={I:=g.I,ρ:=g.ρ,O:=λ_=>none,β:=g.β}
 have h0:HR g₀ [] w:=⟨by simp,by simp,by simp,by simp,B.exI,by simp[g₀]⟩
 refine(h w g₀ S (a9.sub rfl (λh=>h) (λh=>by simp[g₀,h])) h0 a4 X (λi x cv hx r=>(a3 i x cv hx r).flat (Ai.1 hf x (Af hx)))).mono ?_;rintro e w' ⟨cv,g₁,rfl,q1,C,q3,q4⟩;have blk:∀b,b<w.heap.size->w'.heap[b]? =w.heap[b]?:=λb q=>C.block b q (by simp) rfl
 have z:∀b j,b<w.heap.size->g₁.I b j->g.I b j:=λb j q H=>C.iSame b j q (by simp) rfl H
 have bx:∀b,b<w.heap.size->g₁.O b=none:=λb q=>C.oSame b q (by simp) rfl
 have a0:w.heap.size<=g₁.ρ 0:=by
  rcases C.live 0 [.rw k xs] rfl with⟨_,h⟩|⟨_,h|h|⟨_,_,h,_⟩⟩
  ·simp at h
  ·exact h
  ·simp[g₀] at h
  ·simp at h
 let a:Gh:={I:=g₁.I,ρ:=λi=>if i=hp.length then g₁.ρ 0 else if i=hp.length+1 then g₁.ρ 1 else g.ρ i,β:=g.β,O:=λb=>if b<w.heap.size then g.O b else (match g₁.O b with
  |some .res=>some .res
  |_=>none)}
 have d:∀i,i<hp.length->a.ρ i=g.ρ i:=by intro i H;simp only[a];rw[if_neg (by omega),if_neg (by omega)]
 have p:a.ρ hp.length=g₁.ρ 0:=by simp[a]
 have D:a.ρ (hp.length+1)=g₁.ρ 1:=by simp[a]
 have up:Up g.I g.ρ hp.length w a.I a.ρ (hp++[some [V.rw k xs],none]).length w':=⟨C.up.mono,C.up.cell,d,by simp⟩
 have G:∀(id:Nat) cs,hp[id]? =some (some cs)->g.ρ id<w.heap.size:=by intro id cs hid;obtain⟨ob,L⟩:=(B.obj id cs hid).block;exact(AK.1 L).1
 have m:∀(id:Nat) cs,hp[id]? =some (some cs)->id<hp.length:=λid cs hid=>(Ad.1 hid).1
 have key:∀(id:Nat) c,(hp++[some [V.rw k xs],none])[id]? =some (some c)->(id=hp.length∧c=[V.rw k xs])∨hp[id]? =some (some c):=by
  intro id c hid;rcases AE id hp.length with Y|Y;·rw[Ap Y] at hid;exact .inr hid
  ·rw[An Y] at hid;match hq:id-hp.length,hid with
   |0,hid=>simp at hid;exact .inl ⟨by omega,hid.symm⟩
   |1,hid=>simp at hid
   |n+2,hid=>simp at hid
 have R:∀id j v cv,id<hp.length->ai g w (.cell id j) v cv->ai a w' (.cell id j) v cv:=by intro id j v cv hid ho;refine bd ho rfl (λb j H=>⟨C.up.mono b j H,C.up.cell b j H⟩) ?_;intro b q;have F:=B.oLt b _ q;exact⟨by simp[a,F,q],blk b F,λj M=>z b j F M⟩
 refine⟨cv,a,rfl,⟨?_,?_,?_,?_,q1.exI,?_⟩,⟨rfl,C.os,C.tape,C.output,C.size,λb q _ _=>blk b q,up,λb j q _ _ H=>z b j q H,?_,?_⟩,?_,ahj⟩
 ·intro id c hid;rcases key id c hid with⟨rfl,rfl⟩|hid
  ·refine(q1.obj 0 _ rfl).keep (by rw[p]) λbr e fz a1 Z=>?_
   refine⟨Z.len,Z.plain,?_,Z.cold,Z.one,?_,?_,?_⟩;·intro k2 ys hz;obtain⟨t1,t2,t3,t4⟩:=Z.typed k2 ys hz;refine⟨t1,?_,by simp,λhk=>(t4 hk).trans C.beta⟩;rw[D];exact t2
   ·intro j c cv t r;have J:=t;simp only[cellsOf] at J;obtain⟨y,hy,J⟩:=bQ _ j _ J;exact ny J (Z.rel j c cv t r)
   ·intro j c cv t r;have W:=Af t;simp only[cellsOf,AC] at W;obtain⟨y,_,W⟩:=W;exact eA (kf k y c W) _ _ _ _
   ·intro j E n t;simp only[cellsOf] at t;obtain⟨y,_,t⟩:=bQ _ j _ t;exact absurd t (ni k y _ E n)
  ·have Y:=m id c hid;refine(B.obj id c hid).keep (by rw[d id Y];exact blk _ (G id c hid)) λbr e fz L u=>?_
   exact⟨u.len,u.plain,u.typedUp rfl d (by simp) rfl,u.cold,u.one,λj c cv t r=>(u.rel j c cv t r).up up,λj c cv t r=>R _ _ _ _ Y (u.own j c cv t r),λj E n M=>by rw[d id Y];exact u.bn j E n M⟩
 ·intro id A c c' hid Q a5;rcases key id c hid with⟨rfl,rfl⟩|L
  ·rcases key A c' Q with⟨rfl,rfl⟩|u;·exact absurd rfl a5
   ·rw[p,d A (m A c' u)];have:=G A c' u;omega
  ·rcases key A c' Q with⟨rfl,rfl⟩|u;·rw[p,d id (m id c L)];have:=G id c L;omega
   ·rw[d id (m id c L),d A (m A c' u)];exact B.apart _ _ _ _ L u a5
 ·intro id c hid j M;rcases key id c hid with⟨rfl,rfl⟩|hid;·rw[p] at M;exact q1.notI 0 _ rfl j M
  ·rw[d id (m id c hid)] at M;exact B.notI id c hid j (z _ j (G id c hid) M)
 ·intro id c hid;rcases key id c hid with⟨rfl,rfl⟩|hid
  ·rw[p];have L:=q1.notO 0 _ rfl;have u:¬g₁.ρ 0<w.heap.size:=by omega
   simp[a,L,u]
  ·rw[d id (m id c hid)];have:=G id c hid;simp[a,this,B.notO id c hid]
 ·intro b o q;simp only[a] at q;split at q;·rename_i F;exact Ax F C.size
  ·split at q;·rename_i ar;exact q1.oLt b _ ar
   ·simp at q
 ·intro b q _ hO;simp[a,q,hO]
 ·intro id c hid;rcases key id c hid with⟨rfl,rfl⟩|hid;·exact .inr ⟨Aj _,.inl (by rw[p];exact a0)⟩
  ·exact .inl ⟨c,hid⟩
 ·refine ahi ho q3 ?_ ?_
  ·intro cv hr;cases hr with
   |sw _ _ _ hN t W=>
   rw[AW] at t W;have:=VRel.sw (I:=a.I) (ρ:=a.ρ) (N:=(hp++[some [V.rw k xs],none]).length) (w:=w') k hp.length xs.length (by simp) (by rw[D];exact t) (by rw[D];exact W);rw[D,p] at this;exact this
  ·intro v cv hv hr;exact(hr.up (I':=a.I) (ρ':=g₁.ρ) (N':=2) ⟨λ_ _ H=>H,λ_ _ _=>rfl,λ_ _=>rfl,Aj _⟩).flat hv
def adK(P:Program)(f:FuncId)(p q:List V)(k:EK)(xs:List (Ty k))(v:V)(ys:List (Ty k)):Prop:=
 ∃rest,eC P f (p++.sw k 0 xs.length::q) [some [.rw k xs],none] v (some [.rw k ys]::none::rest)
theorem lc.rowTo{g m:Gh}{N N':Nat}{w:World}{id d:Nat}{k:EK}{xs:List (Ty k)}{f:Array Value}{e:TypeId}{q:Nat×Nat}(h:lc g N w id [.rw k xs] f e q)
  (A:m.I=g.I) (p:m.β=g.β) (x:m.ρ (d+1)=g.ρ (id+1)) (B:d+1<N'):lc m N' w d [.rw k xs] f e q:=by
 refine⟨h.len,h.plain,?_,h.cold,h.one,?_,?_,?_⟩;·intro v ys u;obtain⟨C,r,F,t⟩:=h.typed v ys u;exact⟨C,by rw[x];exact r,B,λz=>(t z).trans p.symm⟩
 ·intro j c cv a i;have b:=a;simp only[cellsOf] at b;obtain⟨y,D,b⟩:=bQ _ j _ b;rw[A];exact ny b (h.rel j c cv a i)
 ·intro j c cv a i;have o:=Af a;simp only[cellsOf,AC] at o;obtain⟨y,_,o⟩:=o;exact eA (kf k y c o) _ _ _ _
 ·intro j E n a;simp only[cellsOf] at a;obtain⟨y,_,a⟩:=bQ _ j _ a;exact absurd a (ni k y _ E n)
theorem adK.frame{f:FuncId}{p q:List V}{k:EK}{xs ys:List (Ty k)}{v:V}(h:adK P f p q k xs v ys)(b0:p.all V.flat=true)(cc:q.all V.flat=true)(hv:v.flat=true)
  {hp:List ah} {id:Nat} (hid:hp[id]? =some (some [.rw k xs])):eC P f (p++.sw k id xs.length::q) hp v (hp.set id (some [.rw k ys])):=by
 obtain⟨rest,h⟩:=h;have a0:id<hp.length:=(Ad.1 hid).1;intro w g G bs y a5 J H;obtain⟨d0,e,fz,a1,a2⟩:=(y.obj id _ hid).row rfl;obtain⟨t1,t2,t3,t4⟩:=a2.typed k xs rfl;let g₀:Gh:={I:=g.I,ρ:=λi=>if i=0 then g.ρ id else g.ρ (id+1),O:=λ_=>none,β:=g.β}
 have z0:∀(i:Nat) cs,([some [V.rw k xs],none]:List ah)[i]? =some (some cs)->i=0∧cs=[.rw k xs]:=by
  intro i cs a;match i,a with
  |0,a=>simp at a;exact⟨rfl,a.symm⟩
  |1,a=>simp at a
  |n+2,a=>simp at a
 have h0:HR g₀ [some [.rw k xs],none] w:=by
  refine⟨?_,?_,?_,?_,y.exI,by simp[g₀]⟩;·intro i cs a;obtain⟨rfl,rfl⟩:=z0 i cs a;exact fa.ofRow a1 (a2.rowTo rfl rfl rfl (by simp)) rfl
  ·intro i i' cs b6 a X d;obtain⟨rfl,_⟩:=z0 i cs a;obtain⟨rfl,_⟩:=z0 i' b6 X;exact absurd rfl d
  ·intro i cs a;obtain⟨rfl,_⟩:=z0 i cs a;exact y.notI id _ hid
  ·intro i cs a;rfl
 have al:∀(i:Nat) x cv,(p++.sw k 0 xs.length::q)[i]? =some x->G[i]? =some cv->VRel g₀.I g₀.ρ ([some [V.rw k xs],none]:List ah).length w x cv:=by
  intro i x cv B D;rcases Dr i p.length with a|a|a;·rw[Ap a] at B;exact(H i x cv (by rw[Ap a];exact B) D).flat (Ai.1 b0 x (Af B))
  ·subst a;rw[An (Aj _),Cx] at B;simp only[AZ,Ae] at B;subst B;have r:=H p.length (.sw k id xs.length) cv (by rw[An (Aj _),Cx];rfl) D;cases r with
   |sw _ _ _ hN hc hm=>exact VRel.sw (I:=g₀.I) (ρ:=g₀.ρ) (N:=([some [V.rw k xs],none]:List ah).length) (w:=w) k 0 xs.length (by simp) hc hm
  ·rw[An (by omega),show i-p.length=(i-p.length-1)+1 by omega,AR] at B;exact(H i x cv (by rw[An (by omega),show i-p.length=(i-p.length-1)+1 by omega,AR];exact B) D).flat (Ai.1 cc x (Af B))
 refine(h w g₀ G (bs.sub rfl (λh=>h) (λh=>by simp[g₀,h])) h0 (by simpa using a5) (by
  intro x B;rcases Ay.1 B with B|B;·exact J x (AT _ B)
  ·rcases AL.1 B with rfl|B;·rfl
   ·exact J x (BI _ (AS _ B))) al).mono ?_
 rintro ex w' ⟨cv,g₁,rfl,q1,F,q3,q4⟩;have r0:g₁.ρ 0=g.ρ id:=F.up.rho 0 (by simp);have r1:g₁.ρ (0+1)=g.ρ (id+1):=F.up.rho 1 (by simp);have Y:∀b,g.ρ id≠b->∀(i:Nat) cs,([some [V.rw k xs],none]:List ah)[i]? =some (some cs)->g₀.ρ i≠b:=by intro b m i cs a;obtain⟨rfl,_⟩:=z0 i cs a;exact m
 have blk:∀b,b<w.heap.size->g.ρ id≠b->w'.heap[b]? =w.heap[b]?:=λb m d=>F.block b m (Y b d) rfl
 have C:∀b j,b<w.heap.size->g.ρ id≠b->g₁.I b j->g.I b j:=λb j m d a=>F.iSame b j m (Y b d) rfl a
 have Z:∀b,b<w.heap.size->g.ρ id≠b->g₁.O b=none:=λb m d=>F.oSame b m (Y b d) rfl
 have n0:=q1.notO 0 [.rw k ys] rfl;rw[r0] at n0
 let u:Gh:={I:=g₁.I,ρ:=g.ρ,O:=λb=>match g₁.O b with
  |some .res=>some .res
  |some _=>none
  |none=>if b<w.heap.size then g.O b else none,β:=g.β}
 have up:Up g.I g.ρ hp.length w u.I u.ρ (hp.set id (some [V.rw k ys])).length w':=⟨F.up.mono,F.up.cell,λ_ _=>rfl,by simp⟩
 have W:∀(i:Nat) c,hp[i]? =some (some c)->g.ρ i<w.heap.size:=by intro i c a;obtain⟨ob,h1⟩:=(y.obj i c a).block;exact(AK.1 h1).1
 have key:∀(i:Nat) c,(hp.set id (some [V.rw k ys]))[i]? =some (some c)->(i=id∧c=[.rw k ys])∨(i≠id∧hp[i]? =some (some c)):=by
  intro i c a;rw[Aw] at a;split at a;·rename_i e';simp[a0] at a;exact .inl ⟨e'.symm,a.symm⟩
  ·rename_i e';exact .inr ⟨λh=>e' h.symm,a⟩
 have t:∀(i:Nat) c,(hp.set id (some [V.rw k ys]))[i]? =some (some c)->∃A,hp[i]? =some (some A):=by
  intro i c a;rcases key i c a with⟨rfl,_⟩|⟨_,h⟩
  ·exact⟨_,hid⟩
  ·exact⟨c,h⟩
 have E:∀(i:Nat) c,i≠id->hp[i]? =some (some c)->g.ρ id≠g.ρ i:=λi c d a=>y.apart _ _ _ _ hid a d.symm
 have M:∀b o,g.O b=some o->g.ρ id≠b:=by intro b o m e';rw[<-e',y.notO _ _ hid] at m;cases m
 have z:∀b,b<w.heap.size->u.O b=g.O b:=by
  intro b m;by_cases d:g.ρ id=b;·subst d;simp only[u,n0];rw[if_pos m]
  ·simp only[u,Z b m d];rw[if_pos m]
 refine⟨cv,u,rfl,⟨?_,?_,?_,?_,q1.exI,?_⟩,⟨rfl,F.os,F.tape,F.output,F.size,?_,up,?_,?_,?_⟩,?_,?_⟩
 ·intro i c a;rcases key i c a with⟨rfl,rfl⟩|⟨d,a⟩
  ·obtain⟨a3,e',b4,b1,L⟩:=(q1.obj 0 _ rfl).row rfl;rw[r0] at b1;exact fa.ofRow b1 (L.rowTo rfl F.beta.symm r1.symm (by simpa using t3)) rfl
  ·refine(y.obj i c a).keep (blk _ (W i c a) (E i c d a)) λa3 e' b4 b1 L=>?_
   refine⟨L.len,L.plain,L.typedUp rfl (λ_ _=>rfl) up.num rfl,L.cold,L.one,λj c cv Q D=>(L.rel j c cv Q D).up up,?_,L.bn⟩;intro j c' cv Q D;refine bd (L.own j c' cv Q D) rfl (λb j a=>⟨up.mono b j a,up.cell b j a⟩) ?_;intro b m;have S:=y.oLt b _ m;have R:=M b _ m;exact⟨(z b S).trans m,blk b S R,λj Q=>C b j S R Q⟩
 ·intro i i' c c' a X d;obtain⟨A,m1⟩:=t i c a;obtain⟨cy,m2⟩:=t i' c' X;exact y.apart _ _ _ _ m1 m2 d
 ·intro i c a j Q;rcases key i c a with⟨rfl,rfl⟩|⟨d,a⟩
  ·have:=q1.notI 0 _ rfl j;rw[r0] at this;exact this Q
  ·exact y.notI i c a j (C _ j (W i c a) (E i c d a) Q)
 ·intro i c a;obtain⟨A,m1⟩:=t i c a;exact(z _ (W i A m1)).trans (y.notO i A m1)
 ·intro b o m;simp only[u] at m;split at m;·rename_i hq;exact q1.oLt b _ hq
  ·simp at m
  ·split at m;·rename_i hq;exact Ax hq F.size
   ·simp at m
 ·intro b m ho hO;exact blk b m (ho id _ hid)
 ·intro b j m ho hO a;exact C b j m (ho id _ hid) a
 ·intro b m ho hO;exact(z b m).trans hO
 ·intro i c a;exact .inl (t i c a)
 ·exact q3.flat hv
 ·exact q4.reloc F.beta.symm rfl λb m=>by simp[u,m]
end
section
variable{P:Program}{Γ:am}{imp:List Nat}{n:Nat}{f:FuncId}{fn:Func}{ir:IR}{rs:List RV}{x:Ro}
theorem adK.dim{p q b a:List V}{k:EK}{xs ys:List (Ty k)}{v:V}(h:adK P f p q k xs v ys)(c:b.map V.dim=p)(d:a.map V.dim=q):adK P f b a k xs v ys:=by obtain⟨rest,h⟩:=h;refine⟨rest,h.dim ?_⟩;rw[BT,Bf,c,d];rfl
end
def V.flatM(n:Nat):V->Bool
 | .mr k=>decide (k<n)
 | .mp _ _=>true
 |v=>v.flatO
section
variable{I:Nat->Nat->Prop}{ρ ρ':Nat->Nat}{N N' n:Nat}{w:World}{P:Program}
theorem VRel.flatM{v:V}{cv:Value}(h:VRel I ρ N w v cv)(a:v.flatM n=true)(c:∀k,k<n->ρ' k=ρ k)(e:n<=N'):VRel I ρ' N' w v cv:=by
 by_cases b:∃k,v=.mr k
 ·obtain⟨k,rfl⟩:=b;have d:k<n:=by simpa [V.flatM] using a
  cases h with
  |mr _ _=>rw[<-c k d];exact .mr k (by omega)
 ·refine h.flatO ?_;cases v<;>first|exact a|exact absurd ⟨_,rfl⟩ b|(cases h;done)
theorem acj{cs:List V}(h:cs.all (V.flatM n)=true):b7 cs=false:=by
 unfold b7;split;·simp[V.flatM,V.flatO,V.flat1] at h
 ·simp[V.flatM,V.flatO,V.flat1] at h
 ·simp[V.flatM,V.flatO,V.flat1] at h
 ·rfl
end
end Go.AM
end
