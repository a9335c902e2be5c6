import Derived.KernelRfl
import Derived.Test.YtndccphabnjkhaaGreatChecked
import Derived.ChangeArms
import Derived.ChangeSlices
import Derived.WideShapes
import Derived.WideKeyArgs
import Derived.Test.YtndccphabnjkhaaGreatZ02
import Derived.Test.YtndccphabnjkhaaGreatZ06
import Derived.Test.YtndccphabnjkhaaGreatZ07
import Derived.Test.YtndccphabnjkhaaGreatZ08
set_option linter.all false
open Array renaming getElem?_eq_getElem→Am,getElem?_eq_some_iff→AX,getElem?_eq_none→BY,getElem?_modify→Ci
open Bool renaming and_eq_true→Ac,or_eq_true→Bg,not_eq_true'→BE,or_false→CD,or_eq_false_iff→Du
open Classical renaming byContradiction→D7
open Eq renaming trans→AB
open Go.Builtin renaming unsafeString_→Ds,unsafeSliceData_→D9
open Go.IntKind renaming wrap→Ab,signed→AN,bits→A6,max→Bo,min→BI
open Go.Lib renaming run_unsafeString_none→C8,run_unsafeSliceData_row→DS
open Go.World renaming cell?→By,freeze→CY
open Int renaming toNat→Ad,le_refl→Av,tmod→AQ,tdiv→Bn,tdiv_eq_ediv_of_nonneg→BZ,tmod_nonneg→Dy,mul_le_mul_of_nonneg_right→DG,add_mul→DM
open List renaming length→Aa,getD→Af,getElem?_eq_some_iff→Ag,getElem?_eq_getElem→Ah,length_cons→Ai,length_append→Ak,length_nil→Al,drop→An,take→Ao,getD_eq_getElem?_getD→Aq,mem_of_getElem?→Ar,getElem?_append_right→At,getElem?_append_left→Au,all_eq_true→Aw,getElem?_set→Ax,mem_singleton→Ay,getElem?_map→AA,length_set→AD,length_drop→AL,append_assoc→AP,mem_flatMap→AS,mem_iff_getElem→AU,getElem?_take→AY,take_length→AZ,mem_cons_of_mem→A0,getElem?_eq_none→A1,mem_cons→A3,mem_cons_self→A4,getElem?_cons_succ→A9,getD_cons_zero→Bm,getElem?_set_ne→Bp,map_append→BB,getElem?_set_self→BC,getElem?_cons_zero→BK,mem_append_left→BM,getD_cons_succ→BR,take_append_drop→BS,getElem_mem→BU,set→BV,length_map→BW,append_nil→B5,nil_append→B7,mem_append_right→Cj,contains_cons→CK,ext_getElem?→CO,set_cons_zero→C9,set_cons_succ→Df,isEmpty→DA,contains_nil→D2
open Nat renaming le_refl→Ap,eq_of_beq_eq_true→AE,lt_or_ge→AG,beq→AI,lt_of_lt_of_le→AJ,zero_le→AR,zero_add→Bf,mul_one→Cv,add_comm→C0,strongRecOn→C7,beq_refl→Da
open Option renaming getD_some→A8,bind_eq_some_iff→B9
open Option.some renaming injEq→Ae
open Prod renaming fst→CC
open Prod.mk renaming injEq→Aj
open UInt8 renaming ofNat→AC
set_option maxRecDepth 100000
noncomputable section
namespace Go.AM
theorem HR.other{g:Gh}{hp:List aK}{w w':World}(h:HR g hp w)(q:w.heap.size<=w'.heap.size)
  (d:∀b j,b<w.heap.size->w'.cell? ⟨b,j,none⟩=w.cell? ⟨b,j,none⟩)
  (p:∀(id:Nat) cs,hp[id]? =some (some cs)->w'.heap[g.ρ id]? =w.heap[g.ρ id]?)
  (t:∀(id j:Nat) cs c cv,hp[id]? =some (some cs)->(cellsOf cs)[j]? =some c->aP g w (.cell id j) c cv->aP g w' (.cell id j) c cv):
  HR g hp w'∧Up g.I g.ρ hp.length w g.I g.ρ hp.length w':=by
 have k:∀b j,g.I b j->b<w.heap.size:=by
  intro b j i;have:=h.exI b j i;rcases AG b w.heap.size with m|m;·exact m
  ·simp[By,BY m] at this
 have u:Up g.I g.ρ hp.length w g.I g.ρ hp.length w':=⟨λ_ _ h=>h,λb j i=>d b j (k b j i),λ_ _=>rfl,Ap _⟩
 refine⟨⟨?_,h.apart,h.notI,h.notO,λb j i=>by rw[d b j (k b j i)];exact h.exI b j i,λb o r=>AJ (h.oLt b o r) q⟩,u⟩;intro id cs f;refine(h.obj id cs f).keep (p id cs f) λv e x _ a=>?_
 exact⟨a.len,a.plain,a.typed,a.cold,a.one,λj c cv d l=>(a.rel j c cv d l).up u,λj c cv d l=>t id j cs c cv f d (a.own j c cv d l),a.bn⟩
theorem HR.disownCell{g:Gh}{hp:List aK}{w:World}(h:HR g hp w){id j:Nat}{cs:List V}{k:EK}{o:Fl}{xs:List (Ty k)}(t:hp[id]? =some (some cs))(v:cs[j]? =some (.sl k o xs)):
  HR g (hp.set id (some (cs.set j (.sl k (.may false) xs)))) w:=by
 have H:id<hp.length:=(Ag.1 t).1;have D:j<cs.length:=(Ag.1 v).1;have key:∀(i:Nat) c,(hp.set id (some (cs.set j (.sl k (.may false) xs))))[i]? =some (some c)->∃f,hp[i]? =some (some f)∧((i≠id∧c=f)∨(i=id∧f=cs∧c=cs.set j (.sl k (.may false) xs))):=by
  intro i c b;rw[Ax] at b;split at b;·rename_i e;subst e;exact⟨cs,t,.inr ⟨rfl,rfl,by simpa using b.symm⟩⟩
  ·rename_i e;exact⟨c,b,.inl ⟨λh=>e h.symm,rfl⟩⟩
 refine⟨?_,?_,?_,?_,h.exI,h.oLt⟩
 ·intro i c b;obtain⟨f,q,r⟩:=key i c b;rcases r with⟨m,rfl⟩|⟨rfl,rfl,rfl⟩
  ·rw[AD];exact h.obj i c q
  ·obtain⟨G,e,I,C,A⟩:=(h.obj i f q).row (Go.Proofs.YtndccphabnjkhaaGreat.map_cell v rfl);obtain⟨rfl,l⟩:=A.low (Go.Proofs.YtndccphabnjkhaaGreat.row_cell v rfl);refine .ofRow0 C ⟨by simpa using l.len,?_,?_,?_,?_⟩
   ·intro c a;rcases List.mem_or_eq_of_mem_set a with x|x;·exact l.one c x
    ·subst x;rfl
   ·intro i c cv a u;rw[AD];rw[Ax] at a;split at a;·rename_i e;subst e;simp only[Ae] at a;subst a;exact(l.rel j _ cv v u).own (by simp) (by simp)
    ·exact l.rel i c cv a u
   ·intro i c cv a u;rw[Ax] at a;split at a;·rename_i e;subst e;simp only[Ae] at a;subst a;simp[aP]
    ·exact l.own i c cv a u
   ·intro i E n a;rw[Ax] at a;split at a;·rename_i e;subst e;simp at a
    ·exact l.bn i E n a
 ·intro i B c f b z m;obtain⟨d,p,_⟩:=key i c b;obtain⟨F,y,_⟩:=key B f z;exact h.apart i B d F p y m
 ·intro i c b;obtain⟨d,p,_⟩:=key i c b;exact h.notI i d p
 ·intro i c b;obtain⟨d,p,_⟩:=key i c b;exact h.notO i d p
end Go.AM
namespace Go.Proofs.YtndccphabnjkhaaGreat
open Go.AM
section
open Go.AM Go.RowKit
theorem aJK{P:Program}{e:TypeId}(d:P.cellsOf e=1)(a b n:Nat)(f:b+n<=a):liesAt P P.depth e a b e n=true:=by have c:P.depth=(2*(P.types.size+Made.depth)+1)+1:=rfl;rw[c];simp only[liesAt,Bg];left;rw[c];simp[rowAt,d,f,sameLayout,Nat.mod_one]
theorem anP{P:Program}(w:World)(m it q e:TypeId)(hp:P.underlying m=some (.pointer e))(p:P.cellsOf e=1)(g a cells:Nat)(k:w.shape? g=some (e,cells))(l:List UInt8)(r:l≠[])(v:a+l.length<=cells)(t:l.length<=9223372036854775807)
  (b:∀j x,l[j]? =some x->w.cell? ((⟨g,a,none⟩:Addr).add j)=some (.int .u8 x.toNat)):
  (Ds #[m,it] q #[.pointer (some ⟨g,a,none⟩),.int .i64 l.length]).run P w=.ok (.string ⟨l.toArray⟩) (w.freeze ⟨g,a,none⟩ l.length):=by
 have u:l.length≠0:=by simpa using r
 have i:=Lib.run_loadBytes (P:=P) w l ⟨g,a,none⟩ .empty b;have c:=aJK (P:=P) p (cells / P.cellsOf e) a l.length (by rw[p];simpa using v);have h:¬(9223372036854775807:Int)<(l.length:Int):=by omega
 have f:IntKind.i64.max=9223372036854775807:=rfl;have d:¬(l.length:Int)<0:=by omega
 show (asInt (.int .i64 l.length) >>=_:Sem Value).run P w=_;simp[asInt,asIntOf,f,h,d,u,variablesAt,k,elemOf,run_underlying hp,c,i]
set_option maxHeartbeats 2000000 in
theorem aMl(b o n:Nat)(v p:Value)(s:ByteArray)(w w':World)(j:w.drew.cell? ⟨b,o+1,none⟩=some v)(i:w'.cell? ⟨b,o+1,none⟩=some v)(d:∃c cap,v=.slice c n cap)
  (h:(D9 #[22] 237 #[v]).run Tryz.prog w.drew=.ok p w')
  (a:World) (f:(Ds #[237,3] 9 #[p,.int .i64 n]).run Tryz.prog w'=.ok (.string s) a):
  Calls Tryz.prog 93 #[.pointer (some ⟨b,o,none⟩)] w λe x=>e=.returned (.string s)∧x=a:=by
 obtain⟨c,cap,rfl⟩:=d
 go_enter Tryz.func93,Tryz.ntmps93
 go_wp2
 go_region
 all_goals (go_wp2;go_ret;exact⟨rfl,rfl⟩)
theorem aEL:Tryz.prog.underlying 237=some (.pointer (kQ Tryz.prog)):=by kernel_rfl
theorem aH4:Tryz.prog.cellsOf (kQ Tryz.prog)=1:=by kernel_rfl
theorem aGe(w:World)(a:Addr)(n b:Nat)(h:b≠a.block):(w.freeze a n).heap[b]? =w.heap[b]?:=by
 unfold CY;split;·rfl
 ·rw[Ci,if_neg (λe=>h e.symm)]
theorem aGf(w:World)(a:Addr)(n b j:Nat):(w.freeze a n).cell? ⟨b,j,none⟩=w.cell? ⟨b,j,none⟩:=by
 unfold CY;by_cases c:n=0;·simp only[c,if_true]
 ·simp only[c,if_false,By,Ci];by_cases e:a.block=b
  ·subst e;simp only[if_true];cases d:w.heap[a.block]? with
   |none=>rfl
   |some o=>cases o<;>rfl
  ·simp only[e,if_false]
theorem aGg(w:World)(a:Addr)(n:Nat):(w.freeze a n).heap.size=w.heap.size:=by unfold CY;split<;>simp
theorem aiP(w:World)(a:Addr)(n:Nat):(w.freeze a n).os=w.os∧(w.freeze a n).tape=w.tape∧(w.freeze a n).output=w.output:=by unfold CY;split<;>simp
theorem aOk{id o:Nat}{cs:List V}{hp:List aK}{l:List UInt8}(H:hp[id]? =some (some cs))(J:cs[o+1]? =some (.sl .u8 .own l)):
  fS Tryz.prog 93 [.ptr id o] hp (.str l) (hp.set id (some (cs.set (o+1) (.sl .u8 (.may false) l)))):=by
 intro w g Q az v q a6 C;match Q,q,C with
 |⟨[cv]⟩,q,C=>
  have r:=C 0 (.ptr id o) cv rfl rfl;cases r with
  |ptr _ _ ay=>
  obtain⟨W,e,fz,h1,ap⟩:=(v.obj id cs H).row (map_cell J rfl);obtain⟨rfl,h2⟩:=ap.low (row_cell J rfl);have a1:o+1<W.size:=by have:=(Ag.1 J).1;rw[h2.len] at this;exact this
  have d:w.cell? ⟨g.ρ id,o+1,none⟩=W[o+1]?:=bk h1 (o+1);obtain⟨E,P⟩:∃E,W[o+1]? =some E:=⟨_,Am a1⟩
  have hv:=h2.rel (o+1) _ E J P;have ho:=h2.own (o+1) _ E J P;rw[P] at d;have bb:=(v.disownCell H J).drew;have S:(hp.set id (some (cs.set (o+1) (.sl .u8 (.may false) l)))).length=hp.length:=by simp
  have M:∀(i:Nat) c,(hp.set id (some (cs.set (o+1) (.sl .u8 (.may false) l))))[i]? =some (some c)->∃c',hp[i]? =some (some c'):=by
   intro i c A;rw[Ax] at A;split at A;·rename_i e;subst e;exact⟨cs,H⟩
   ·exact⟨c,A⟩
  have fin:∀(a:World),(∀b j,b<w.heap.size->a.cell? ⟨b,j,none⟩=w.cell? ⟨b,j,none⟩)->w.heap.size<=a.heap.size->a.os=w.os->a.tape=w.tape->a.output=w.output->
    (∀b,b<w.heap.size->(∀u m cap,E=.slice (some u) m cap->m≠0->b≠u.block)->a.heap[b]? =w.heap[b]?)->
    HR g (hp.set id (some (cs.set (o+1) (.sl .u8 (.may false) l)))) a∧FR g hp w g (hp.set id (some (cs.set (o+1) (.sl .u8 (.may false) l)))) a:=by
   intro a e1 e2 e3 e4 e5 e6;have hO:∀u m cap,E=.slice (some u) m cap->g.O u.block=some (.cell id (o+1)):=by intro u m cap e;subst e;exact ho.1
   obtain⟨q1,q2⟩:=HR.other (w':=a) (v.disownCell H J) e2 e1 (by
    intro i c A;obtain⟨c',ah⟩:=M i c A;have y:g.ρ i<w.heap.size:=(v.obj i c' ah).lt;refine e6 _ y ?_;intro u m cap he _ t;have:=hO u m cap he;rw[<-t,v.notO i c' ah] at this;cases this) (by
    intro i j cy c cv A X aa;by_cases ac:i=id∧j=o+1;·obtain⟨rfl,rfl⟩:=ac;rw[Ax,if_pos rfl,if_pos ay] at A;simp only[Ae] at A;subst A;have a2:o+1<cs.length:=(Ag.1 J).1;have ab:(cs.set (o+1) (V.sl .u8 (.may false) l))[o+1]? =some (.sl .u8 (.may false) l):=BC a2;rw[jW (row_cell ab rfl),ab] at X;simp only[Ae] at X;subst X;simp[aP]
    ·refine dg aa rfl (λb j' hI=>⟨hI,e1 b j' ?_⟩) (λb B=>⟨B,e6 b (v.oLt b _ B) ?_,λ_ h=>h⟩)
     ·have hs:=v.exI b j' hI;rcases AG b w.heap.size with h'|h';·exact h'
      ·simp[By,BY h'] at hs
     ·intro u m cap he _ t;have:=hO u m cap he;rw[<-t,B] at this;simp only[Ae,Occ.cell.injEq] at this;exact ac this)
   refine⟨q1,rfl,e3,e4,e5,e2,?_,by rw[S] at q2 ⊢;exact q2,λ_ _ _ _ _ h=>h,λ_ _ _ h=>h,?_⟩;·intro b hb _ B;refine e6 b hb ?_;intro u m cap he _ t;have:=hO u m cap he;rw[<-t,B] at this;cases this
   ·intro i c A;exact .inl (M i c A)
  have F:∀(p:Value)(w' a:World)(n:Nat),l.length=n->(∃u cap,E=.slice u n cap)->w'.cell? ⟨g.ρ id,o+1,none⟩=some E->
    (D9 #[22] 237 #[E]).run Tryz.prog w.drew=.ok p w'->(Ds #[237,3] 9 #[p,.int .i64 n]).run Tryz.prog w'=.ok (.string ⟨l.toArray⟩) a->
    HR g (hp.set id (some (cs.set (o+1) (.sl .u8 (.may false) l)))) a∧FR g hp w g (hp.set id (some (cs.set (o+1) (.sl .u8 (.may false) l)))) a->l.length<=cj->
    Calls Tryz.prog 93 ⟨[.pointer (some ⟨g.ρ id,o,none⟩)]⟩ w λe w'=>∃cv Y,e=.returned cv∧HR Y (hp.set id (some (cs.set (o+1) (.sl .u8 (.may false) l)))) w'∧FR g hp w Y (hp.set id (some (cs.set (o+1) (.sl .u8 (.may false) l)))) w'∧VRel Y.I Y.ρ (hp.set id (some (cs.set (o+1) (.sl .u8 (.may false) l)))).length w' (.str l) cv∧aP Y w' .res (.str l) cv:=by
   intro p w' a n hn an a3 a0 aw L a5;refine(aMl (g.ρ id) o n E p ⟨l.toArray⟩ w w' d a3 an a0 a aw).mono ?_;rintro e x ⟨rfl,rfl⟩;exact⟨_,g,rfl,L.1,L.2,.str _ _ (by simp) (by simpa [ByteArray.size] using a5),by simp[aP]⟩
  cases hv with
  |sle _ _ u t=>exact absurd rfl t
  |sln k o=>refine F (.pointer none) w.drew w.drew 0 rfl ⟨_,_,rfl⟩ d rfl (C8 _ _ _ _ _) (fin _ (λ_ _ _=>rfl) (Ap _) rfl rfl rfl (λ_ _ _=>rfl)) (by simp)
  |sl k oo xs b N m cap hl ci hm hf f hI hw au=>
   obtain⟨u1,⟨D,e',fz,u2,u3,u4⟩,u5⟩:=ho;have ao:e'=kQ Tryz.prog:=(u4 rfl).trans az.1;have ag:w.drew.shape? b=some (kQ Tryz.prog,D.size):=by have:w.drew.heap[b]? =some (.cells D e' fz):=u2;simp[World.shape?,this,ao]
   have a4:EK.u8.sz=1:=rfl;simp only[a4,Cv] at u3 u5 hw hI;subst hl;by_cases h0:l=[]
   ·subst h0;by_cases Z:cap=0
    ·subst Z;have f:=hU w.drew (.view ⟨b,N,none⟩ (kQ Tryz.prog));refine F _ _ _ 0 rfl ⟨_,_,rfl⟩ ?_ (Lib.run_unsafeSliceData_zero w.drew _ _ (kQ Tryz.prog) aEL ⟨b,N,none⟩ 0 _ ag) (C8 _ _ _ _ _) (fin _ ?_ ?_ rfl rfl rfl ?_) (by simp);·have y:g.ρ id<w.heap.size:=(AX.1 h1).1;have:=f.2.1 (g.ρ id) y;unfold By at d ⊢;rw[this];exact d
     ·intro b' j G;have:=f.2.1 b' G;unfold By;rw[this];rfl
     ·rw[f.1];exact Nat.le_succ _
     ·intro b' G _;exact f.2.1 b' G
    ·refine F _ w.drew _ 0 rfl ⟨_,_,rfl⟩ d (DS _ _ _ _ _ _ Z) (C8 _ _ _ _ _) (fin _ (λ_ _ _=>rfl) (Ap _) rfl rfl rfl (λ_ _ _=>rfl)) (by simp)
   ·have R:l.length≠0:=by simpa using h0
    refine F _ w.drew _ l.length rfl ⟨_,_,rfl⟩ d (DS _ _ _ _ _ _ (by omega)) (anP _ _ _ _ _ aEL aH4 b N D.size ag l h0 (by omega) (by unfold cj at hm;omega) ?_) (fin _ ?_ ?_ ?_ ?_ ?_ ?_) (by omega)
    ·intro j x X;have hx:=hw j x 0 X (by simp[enc]);have hr:=au j x 0 _ X (by simp[enc];rfl);generalize f j 0=z at hx hr;cases hr;by_cases ae:j=0;·subst ae;simpa [Addr.add] using hx
     ·simpa [Addr.add,ae] using hx
    ·intro b j _;rw[aGf];rfl
    ·rw[aGg];exact Ap _
    ·exact(aiP _ _ _).1
    ·exact(aiP _ _ _).2.1
    ·exact(aiP _ _ _).2.2
    ·intro b' G t;rw[aGe _ _ _ _ (t _ _ _ rfl R)];rfl
 |⟨[]⟩,q,_=>simp at q
 |⟨_::_::_⟩,q,_=>simp at q
end
def aH5(E n o:Nat):Bool:=(E==168&&n==2&&o==0)
theorem aJL{E n o:Nat}(h:aH5 E n o=true):aEK E n o=true:=by simp only[aH5,Bg,Ac,beq_iff_eq] at h;obtain⟨⟨rfl,rfl⟩,rfl⟩:=h;kernel_rfl
theorem getD_some{hp:List aK}{id:Nat}{cs:List V}(h:hp.getD id none=some cs):hp[id]? =some (some cs):=by
 rw[Aq] at h;cases a:hp[id]? with
 |none=>rw[a] at h;simp at h
 |some x=>rw[a] at h;simpa using h
theorem aqE{cs:List V}{o:Nat}{v:V}(h:cs.getD o .undef=v)(b:v≠.undef):cs[o]? =some v:=by
 rw[Aq] at h;cases a:cs[o]? with
 |none=>rw[a] at h;exact absurd h.symm b
 |some x=>rw[a] at h;simpa using h
def gWS(id o:Nat)(s:List UInt8)(hp:List aK):Option (Bool×V×List aK):=
 match hp.getD id none with
 |some cs=>match cs.getD o .undef,cs.getD (o+1) .undef with
  | .bn E n,.sl .u8 .own l=>cond (aH5 E n o) (some (decide (l.length+s.length<=140737488355328),.tup [.int .i64 (s.length:Int),.nilif],hp.set id (some (cs.set (o+1) (.sl .u8 .own (l++s)))))) none
  |_,_=>none
 |none=>none
def gST(id o:Nat)(hp:List aK):Option (Bool×V×List aK):=
 match hp.getD id none with
 |some cs=>match cs.getD (o+1) .undef with
  | .sl .u8 .own l=>some (true,.str l,hp.set id (some (cs.set (o+1) (.sl .u8 (.may false) l))))
  |_=>none
 |none=>none
theorem aNt{id o:Nat}{s:List UInt8}{hp hp':List aK}{v:V}(h:gWS id o s hp=some (true,v,hp')):fS Tryz.prog 91 [.ptr id o,.str s] hp v hp':=by
 unfold gWS at h;split at h
 ·rename_i cs c;split at h
  ·rename_i E n l e d;cases a:aH5 E n o with
   |false=>rw[a] at h;simp at h
   |true=>rw[a] at h;simp only[cond_true,Ae,Aj,decide_eq_true_eq] at h;obtain⟨b,rfl,rfl⟩:=h;exact aOj (getD_some c) (aqE e (by simp)) (aJL a) (aqE d (by simp)) b
  ·simp at h
 ·simp at h
theorem aNu{id o:Nat}{hp hp':List aK}{v:V}(h:gST id o hp=some (true,v,hp')):fS Tryz.prog 93 [.ptr id o] hp v hp':=by
 unfold gST at h;split at h
 ·rename_i cs a;split at h;·rename_i l b;simp only[Ae,Aj,true_and] at h;obtain⟨rfl,rfl⟩:=h;exact aOk (getD_some a) (aqE b (by simp))
  ·simp at h
 ·simp at h
def aq9(Γ:aG):aG:=λf vs hp=>
 if f=91 then
  match vs with
  | [.ptr id o,.str s]=>gWS id o s hp
  |_=>none
 else if f=93 then
  match vs with
  | [.ptr id o]=>gST id o hp
  |_=>none
 else Γ f vs hp
theorem aEM{Γ:aG}(b:bC Tryz.prog Γ):bC Tryz.prog (aq9 Γ):=by
 intro f vs hp v hp' h;unfold aq9 at h;split at h
 ·rename_i a;subst a;split at h;·exact aNt h
  ·simp at h
 ·split at h
  ·rename_i a;subst a;split at h;·exact aNu h
   ·simp at h
  ·exact b _ _ _ _ _ h
theorem awI{Γ:aG}(b:co Γ []):co (aq9 Γ) [91,93]:=by
 refine⟨?_,?_⟩;·intro f vs hp a;simp only[CK,D2,CD,Du,beq_eq_false_iff_ne,ne_eq,decide_eq_true_eq,Bool.not_eq_true,A3,List.not_mem_nil,not_or,not_false_eq_true,or_false] at a;simp only[aq9,a,if_false];exact b.pure f vs hp (by simp)
 ·intro f vs hp c v hp' a h;simp only[CK,D2,CD,Bg,beq_iff_eq] at a;omega
def aH6:aG:=tb_ [] [] [] [ajU,azz,aiu,aIT]
def aGh:IR:=Rs [Bx 5 0,Bx 9 4,Ms 10 []] (Sq (.reg [Mv 12 1,Mv 13 2,Ca 14 158 [13],Fa 15 1 9,Lq 16 15,Pp (.bld 17 [vI 0,vI 0,vU 0,vS,vS] [(0,1,12),(1,1,14),(3,1,16)]),Pp (.new 11 [vI 0,vI 0,vU 0,vS,vS]),Fo [] [0] (.st none 5 11 17)] [[],[],[1],[],[3],rg 0 4,[],rg 0 6]) (Sq (Rs [Fa 18 1 11,Lo 19 18,Bc 20 .neq 19 2] (Cn 20 (Rg [Mv 21 2,Fa 22 0 9,Lq 23 22,Ca 24 160 [21,23],Fa 25 2 11,Sv 1 25 24]) .skip)) (Sq (Rs [Mv 26 2,Bc 27 .eql 26 16] (Cn 27 (Rg [Ld 28 2 true 5,Mv 29 3,Fa 30 2 9,Ld 31 2 true 30,Ca 32 49 [28,29,31],Fa 33 3 11,Sv 1 33 32]) .skip)) (Rs [Pp (.ld 34 5 true false 11),Ca 35 148 [34],Mv 10 35] .ret))))
theorem aGi:FnC Tryz.prog aH6 [] 0 147 Tryz.f147 aGh lq:=fnC Tryz.func147
def as5(N:Nat)(c:List PMs)(d:List PEn)(e f:Int)(i:Bs)(a:aC):Ro:=let g:=λl m o p=>(some (vT l,[some [vI e,vI m,vU o,vT p,vT []]]):Ro);aA (wJ f) (λ(b:Int)=>cond (!(b==2)) (aA (aoN f a.n) (λ(h:Int)=>cond (f==16) (aA (gM c d i a.fs a.rest) (λ(j:Bs)=>aA (qG ⟨e,b,h,j,[]⟩) (λ(q:Bs)=>g q b h j))) (aA (qG ⟨e,b,h,a.s,[]⟩) (λ(r:Bs)=>g r b h a.s)))) (cond (f==16) (aA (gM c d i a.fs a.rest) (λ(k:Bs)=>aA (qG ⟨e,b,0,k,[]⟩) (λ(t:Bs)=>g t b 0 k))) (aA (qG ⟨e,b,0,a.s,[]⟩) (λ(u:Bs)=>g u b 0 a.s))))
def as6(N:Nat)(a:List PMs)(b:List PEn)(c d:Int)(e:Bs)(f:aC):Ro:=as5 N a b c d e f
theorem aEN(N:Nat)(a:List PMs)(b:List PEn)(d f:Int)(g:Bs)(i:aC)(h:Tot (as6 N a b d f g i) (λz=>∃c rest,z.1.dimR=vT c∧z.2=rest∧amy a b d f g i (c))):∃r,oG a b d f g i r:=aGi.finP (N:=N) (by kernel_rfl) h λ_ ⟨c,_,e,_,q⟩=>⟨(c),e,q⟩
def aGj:aG:=tb_ [] [] [] [awb]
def aEO:IR:=Rs [Bx 3 1,Ms 4 []] (Rs [Pp (.bld 6 [fu .pms true,fu .pen true] []),Mv 7 0,Ld 8 4 true 3,Ca 9 147 [6,kI 1,7,kS [],8],Mv 5 9] (Rs [Mv 10 5,Pp (.subs 11 10 (some (kI 1)) none),Mv 4 11] .ret))
theorem aEP:FnC Tryz.prog aGj [] 0 149 Tryz.f149 aEO aR:=fnC Tryz.func149
def aqF(N:Nat)(b:Int)(c:aC):Ro:=aA (oG [] [] 1 b [] (reP c)) (λ(a:Bs)=>chk (decide (0<=1)&&decide (1<=(↑(Aa a):Int))) (let d:=(An (Ad 1) (Ao (Aa a) a));some (vT d,[])))
def aqG(N:Nat)(a:Int)(b:aC):Ro:=aqF N a b
theorem aBI(N:Nat)(b:Int)(c:aC)(h:Tot (aqG N b c) (λz=>∃a rest,z.1.dimR=vT a∧z.2=rest∧ajT b c (a))):∃r,ac2 b c r:=aEP.finP (N:=N) (by kernel_rfl) h λ_ ⟨a,_,e,_,q⟩=>⟨(a),e,q⟩
def iR:aG:=(aq9 (fa (akF (P:=Tryz.prog) [awb,azz,aFV])))
theorem auv:co iR [91,93]:=((awI (cR _ _)).mono (by decide) (by decide))
theorem awJ:bC Tryz.prog iR:=by refine aEM ?_;exact ato _
def aif:IR:=Sq (Rs [Mv 35 8,Bc 36 .add 35 1,Mv 37 2,Ll 38 37,Bi 39 .lss 36 38] (Cn 39 .skip (.exit 3))) (Sq (.block 4 (Sq (.reg [Ld 42 2 true 3,Fa 43 5 4,Lq 44 43,Mv 45 2,Mv 46 8,Ix 47 .pval 45 46,Ld 48 4 true 47,Ca 49 147 [42,kI 1,44,kS [],48],Ld 50 2 true 3,Fa 51 3 4,Lq 52 51,Fa 53 4 4,Lq 54 53,Mv 55 2,Mv 56 8,Bc 57 .add 56 1,Ix 58 .pval 55 57,Ld 59 4 true 58,Ca 60 147 [50,kI 2,52,54,59],Bi 61 .add 49 60,Mv 9 61] [[],[],[1],[],[],[3,4],[3,4,5],rg 0 6,[],[],[9],[],[11],[],[],[14],[13,14,15],rg 13 16,rg 0 17,rg 0 18,rg 0 19]) (Rg [Fa 62 0 4,Lq 63 62,Mv 64 9,Pp (.bld 65 [vI 0,vI 0,vU 0,vS,vS] [(0,1,63),(1,1,kI 2),(3,1,64)]),Ca 66 148 [65],Ca 67 91 [7,66]]))) (Rg [Mv 40 8,Bc 41 .add 40 2,Mv 8 41]))
def ag3:IR:=Rs [Bi 74 .lss 73 72] (Sq (Cn 74 .skip (.exit 5)) (Sq (.block 6 (Rs [Ix 75 .pval 71 73,Ld 76 4 true 75,Pp (.alr 11 4),Fz 11 4 76] (Rg [Fa 77 3 4,Lq 78 77,Ld 79 4 true 11,Ca 80 149 [78,79],Ca 81 91 [7,80]]))) (Rg [Bc 82 .add 73 1,Mv 73 82])))
def ag4:IR:=Sq (.reg [Fa 83 0 4,Lq 84 83,Fo [] [0] (.call 85 93 [7]),Pp (.bld 86 [vI 0,vI 0,vU 0,vS,vS] [(0,1,84),(1,1,kI 2),(3,1,85)]),Ca 87 148 [86],Mv 6 87] [[],[0],[],[0,1,2],rg 0 3,rg 0 4]) .ret
def ag5:IR:=Rs [Bi 17 .lss 16 15] (Sq (Cn 17 .skip (.exit 1)) (Sq (.block 2 (Rs [Ix 18 .pval 14 16,Ld 19 4 true 18,Pp (.alr 13 4),Fz 13 4 19] (Rg [Ld 20 2 true 3,Fa 21 0 4,Lq 22 21,Fa 23 3 4,Lq 24 23,Fa 25 4 4,Lq 26 25,Ld 27 4 true 13,Ca 28 147 [20,22,24,26,27],Ca 29 91 [7,28]]))) (Rg [Bc 30 .add 16 1,Mv 16 30])))
def rN:IR:=Rs [Ca 88 93 [7],Mv 6 88] .ret
def aBJ:IR:=Rs [Bx 3 0,Bx 4 1,Ms 6 []] (Rs [Pp (.newb 7 [.bn 168 2,.sl .u8 .own ([]:Bs)])] (Sq (.block 0 (Rs [Fa 32 2 4,Lq 33 32,Bc 34 .eql 33 3,Mv 31 34] (Cn 31 (Rs [Mi 8 0] (.block 3 (.loop [2,3,4,7,8,1000000] 1 aif))) (Rs [Fa 69 6 4,Lq 70 69,Mv 68 70] (Cn 68 (Sq (Rs [Mv 71 2,Ll 72 71,Mi 73 0] (.block 5 (.loop [4,7,71,72,73,1000001] 1 ag3))) ag4) (Rs [Mv 14 2,Ll 15 14,Mi 16 0] (.block 1 (.loop [3,4,7,14,15,16,1000002] 1 ag5)))))))) rN))
theorem aBK:FnC Tryz.prog iR [91,93] 0 92 Tryz.f92 aBJ aS:=⟨awJ,auv,Tryz.func92,by kernel_rfl,by kernel_rfl,by decide⟩
def ay0(R:TR)(a:TS):TE:=(bo a [2,3,4,7,8,1000000] 1 (aQ 3 (aQ 0 (kseq (R rN) (fin aS)))))
abbrev qA:Type:=(List aC×List PMs×List PEn×PFl×Int×Bs)
def tY:qA->St:=λ(a,b,c,d,e,f)=>{env:=(.undef::.undef::vF .pval a::.ea [vF .pms b,vF .pen c]::.ea (enc .pfl d)::.undef::.undef::.ptr 0 0::vI e::(U 80 [])),hp:=[some [.bn 168 2,vO .u8 f]]}
def acG(N:Nat):TS->TS:=λa s=>run iR N aif (ay0 (run iR N) a) s
def vN(N:Nat)(d:qA->Ro):qA->Ro:=λ(e,b,c,f,g,a)=>let l:=(Ab .i64 (g+1));let m:=(↑(Aa e):Int);cond (decide (l<m)) (chk (ixl g e) (let n:=(Af e (Ad g) (aI .pval));aA (oG b c 1 f.key [] (reP n)) (λ(h:Bs)=>let i:=(Ab .i64 (g+1));chk (ixl i e) (let o:=(Af e (Ad i) (aI .pval));aA (oG b c 2 f.kind f.typ (reP o)) (λ(j:Bs)=>chk (decide (Aa h+Aa j<=9223372036854775807)) (aA (qG ⟨f.num,2,0,(h++j),[]⟩) (λ(k:Bs)=>chk (decide (Aa a+Aa k<=140737488355328)) (let p:=(Ab .i64 (g+2));d (e,b,c,f,p,(a++k)))))))))) (some (vT a,[some [.bn 168 2,vF .u8 a]]))
theorem awK(N:Nat):LB (acG N) tY (vN N):=λ_ _=>by kernel_rfl
def ay1(R:TR)(a:TS):TE:=(bo a [4,7,71,72,73,1000001] 1 (aQ 5 (kseq (R ag4) (aQ 0 (kseq (R rN) (fin aS))))))
abbrev qB:Type:=(PFl×List aC×Int×Int×Bs)
def tZ:qB->St:=λ(a,b,c,d,e)=>{env:=(U 4 (.ea (enc .pfl a)::.undef::.undef::.ptr 0 0::(U 63 (vF .pval b::vI c::vI d::(U 15 []))))),hp:=[some [.bn 168 2,vO .u8 e]]}
def acH(N:Nat):TS->TS:=λa s=>run iR N ag3 (ay1 (run iR N) a) s
def vP(N:Nat)(b:qB->Ro):qB->Ro:=λ(f,d,e,c,a)=>cond (decide (c<e)) (chk (ixl c d) (let i:=(Af d (Ad c) (aI .pval));aA (ac2 f.kind (reP i)) (λ(h:Bs)=>chk (decide (Aa a+Aa h<=140737488355328)) (let g:=(Ab .i64 (c+1));b (f,d,e,g,(a++h)))))) (aA (qG ⟨f.num,2,0,a,[]⟩) (λ(j:Bs)=>some (vT j,[some [.bn 168 2,vF .u8 a]])))
theorem awL(N:Nat):LB (acH N) tZ (vP N):=λ_ _=>by kernel_rfl
def ay2(R:TR)(a:TS):TE:=(bo a [3,4,7,14,15,16,1000002] 1 (aQ 1 (aQ 0 (kseq (R rN) (fin aS)))))
abbrev qC:Type:=(List PMs×List PEn×PFl×List aC×Int×Int×Bs)
def t7:qC->St:=λ(a,b,c,d,e,f,g)=>{env:=(U 3 (.ea [vF .pms a,vF .pen b]::.ea (enc .pfl c)::.undef::.undef::.ptr 0 0::(U 6 (vF .pval d::vI e::vI f::(U 72 []))))),hp:=[some [.bn 168 2,vO .u8 g]]}
def acI(N:Nat):TS->TS:=λa s=>run iR N ag5 (ay2 (run iR N) a) s
def vQ(N:Nat)(b:qC->Ro):qC->Ro:=λ(d,e,h,f,g,c,a)=>cond (decide (c<g)) (chk (ixl c f) (let i:=(Af f (Ad c) (aI .pval));aA (oG d e h.num h.kind h.typ (reP i)) (λ(k:Bs)=>chk (decide (Aa a+Aa k<=140737488355328)) (let j:=(Ab .i64 (c+1));b (d,e,h,f,g,j,(a++k)))))) (some (vT a,[some [.bn 168 2,vF .u8 a]]))
theorem awM(N:Nat):LB (acI N) t7 (vQ N):=λ_ _=>by kernel_rfl
def sL(N:Nat)(a:List PMs)(b:List PEn)(c:PFl)(d:List aC)(f:qA->Ro)(g:qB->Ro)(h:qC->Ro):Ro:=cond (c.label==3) (f (d,a,b,c,0,[])) (cond c.packed (let i:=(↑(Aa d):Int);g (c,d,i,0,[])) (let e:=(↑(Aa d):Int);h (a,b,c,d,e,0,[])))
def amK(N:Nat)(a:List PMs)(b:List PEn)(c:PFl)(d:List aC):Ro:=sL N a b c d (λz=>aO N (vN N) z) (λz=>aO N (vP N) z) (λz=>aO N (vQ N) z)
theorem ay3(N:Nat)(a:List PMs)(c:List PEn)(d:PFl)(f:List aC)(h:Tot (amK N a c d f) (λz=>∃g rest,z.1.dimR=vT g∧z.2=rest∧ahY a c d f (g))):∃r,aaR a c d f r:=aBK.finP (N:=N) ((bD _ (by kernel_rfl) rfl (λC=>sL N a c d f (λz=>C 1000000 (tY z)) (λz=>C 1000001 (tZ z)) (λz=>C 1000002 (t7 z))) (λC=>by kernel_rfl)).trans (AB (b:=sL N a c d f (λz=>aZ N (acG N) (tY z)) (λz=>aZ N (acH N) (tZ z)) (λz=>aZ N (acI N) (t7 z))) (by kernel_rfl) (congr (congr (congrArg (sL N a c d f) (funext λz=>aU (tY) (acG N) (vN N) (awK N) N z)) (funext λz=>aU (tZ) (acH N) (vP N) (awL N) N z)) (funext λz=>aU (t7) (acI N) (vQ N) (awM N) N z)))) h λ_ ⟨g,_,e,_,q⟩=>⟨(g),e,q⟩
def qD:aG:=(aq9 (fa (akF (P:=Tryz.prog) [aaQ,aev,aDO])))
theorem aqH:co qD [91,93]:=((awI (cR _ _)).mono (by decide) (by decide))
theorem asf:bC Tryz.prog qD:=by refine aEM ?_;exact ato _
def afe:IR:=Rs [Bi 24 .lss 23 22] (Sq (Cn 24 .skip (.exit 0)) (Sq (.block 1 (Rs [Ix 25 .pfd 21 23,Ld 26 2 true 25,Pp (.alr 11 2),Fz 11 2 26] (Rs [Ld 28 3 true 7,Fa 29 0 11,Lq 30 29,Ca 31 89 [28,30],Mv 27 31,Ex_ 32 0 27,Ex_ 33 1 27,Pp (.alr 12 8),Fz 12 8 32,Mv 13 33] (Rg [Ld 34 2 true 3,Ld 35 8 true 12,Fa 36 1 11,Lq 37 36,Ca 38 92 [34,35,37],Ca 39 91 [9,38]])))) (Rg [Bc 40 .add 23 1,Mv 23 40])))
def aff:IR:=Rs [Fa 41 1 5,Lq 42 41,Ca 43 91 [9,42]] (Rs [Ca 44 93 [9],Mv 6 44] .ret)
def awN:IR:=Rs [Bx 3 0,Bx 5 2,Ms 6 []] (Rs [Ld 15 2 true 3,Mv 16 1,Ca 17 47 [15,16],Mv 14 17,Ex_ 18 0 14,Ex_ 19 1 14,Pp (.alr 7 3),Fz 7 3 18,Mv 8 19] (Rs [Pp (.newb 9 [.bn 168 2,.sl .u8 .own ([]:Bs)])] (Sq (Rs [Fa 20 0 5,Lq 21 20,Ll 22 21,Mi 23 0] (.block 0 (.loop [3,5,7,9,21,22,23,1000000] 1 afe))) aff)))
theorem awO:FnC Tryz.prog qD [91,93] 0 49 Tryz.f49 awN aS:=⟨asf,aqH,Tryz.func49,by kernel_rfl,by kernel_rfl,by decide⟩
def auw(R:TR)(a:TS):TE:=(bo a [3,5,7,9,21,22,23,1000000] 1 (aQ 0 (kseq (R aff) (fin aS))))
abbrev nA:Type:=(List PMs×List PEn×List (Int×List aC)×Bs×PMs×List (Int×List aC)×Int×Int×Bs)
def pO:nA->St:=λ(a,b,c,d,e,f,g,h,i)=>{env:=(U 3 (.ea [vF .pms a,vF .pen b]::.undef::.ea [vF .pfd c,vT d]::.undef::.ea (enc .pms e)::.undef::.ptr 0 0::(U 11 (vF .pfd f::vI g::vI h::(U 21 []))))),hp:=[some [.bn 168 2,vO .u8 i]]}
def yx(N:Nat):TS->TS:=λa s=>run qD N afe (auw (run qD N) a) s
def rO(N:Nat)(c:nA->Ro):nA->Ro:=λ(e,f,h,b,j,g,i,d,a)=>cond (decide (d<i)) (chk (ixl d g) (let k:=(Af g (Ad d) (aI .pfd));aA (lD j k.1) (λm=>aA (aaR e f m.1 k.2) (λ(l:Bs)=>chk (decide (Aa a+Aa l<=140737488355328)) (let n:=(Ab .i64 (d+1));c (e,f,h,b,j,g,i,n,(a++l))))))) (chk (decide (Aa a+Aa b<=140737488355328)) (some (vT (a++b),[some [.bn 168 2,vF .u8 (a++b)]])))
theorem asg(N:Nat):LB (yx N) pO (rO N):=λ_ _=>by kernel_rfl
def oP(N:Nat)(b:List PMs)(c:List PEn)(e:Bs)(a:List (Int×List aC))(d:Bs)(f:nA->Ro):Ro:=aA (iL b c e) (λg=>let h:=(↑(Aa a):Int);f (b,c,a,d,g.1,a,h,0,[]))
def aig(N:Nat)(a:List PMs)(b:List PEn)(e:Bs)(c:List (Int×List aC))(d:Bs):Ro:=oP N a b e c d (λz=>aO N (rO N) z)
theorem aux(N:Nat)(a:List PMs)(c:List PEn)(g:Bs)(d:List (Int×List aC))(f:Bs)(h:Tot (aig N a c g d f) (λz=>∃i rest,z.1.dimR=vT i∧z.2=rest∧ae5 a c g d f (i))):∃r,gM a c g d f r:=awO.finP (N:=N) ((bD _ (by kernel_rfl) rfl (λC=>oP N a c g d f (λz=>C 1000000 (pO z))) (λC=>by kernel_rfl)).trans (AB (b:=oP N a c g d f (λz=>aZ N (yx N) (pO z))) (by kernel_rfl) (congrArg (oP N a c g d f) (funext λz=>aU (pO) (yx N) (rO N) (asg N) N z)))) h λ_ ⟨i,_,e,_,q⟩=>⟨(i),e,q⟩
def aBL:aG:=tb_ [] [] [] [aaQ,asY,ajU]
def ay4:IR:=Rs [Bx 3 0,Bx 5 2,Pp (.mov 6 (.c (nl .u8))),Mi 7 0] (Sq (Rs [Ld 12 2 true 3,Mv 13 1,Ca 14 47 [12,13],Mv 11 14,Ex_ 15 0 11,Ex_ 16 1 11,Pp (.alr 8 3),Fz 8 3 15,Mv 9 16] (Rs [Mv 17 9,Un 18 17] (Cn 18 (Rs [Pp (.mov 6 (.c (nl .u8))),Mi 7 1] .ret) .skip))) (Sq (Rs [Ld 19 2 true 3,Mv 20 1,Ld 21 2 true 5,Ca 22 48 [19,20,21],Un 23 22] (Cn 23 (Rs [Pp (.mov 6 (.c (nl .u8))),Mi 7 7] .ret) .skip)) (Rs [Ld 24 2 true 3,Mv 25 1,Ld 26 2 true 5,Ca 27 49 [24,25,26],Mv 10 27] (Sq (Rs [Mv 28 10,Pp (.lens 29 28),Bc 30 .gtr 29 5000] (Cn 30 (Rs [Pp (.mov 6 (.c (nl .u8))),Mi 7 3] .ret) .skip)) (Rs [Mv 31 10,Pp (.s2b 32 31),Mv 6 32,Mi 7 0] .ret)))))
theorem ay5:FnC Tryz.prog aBL [] 0 14 Tryz.f14 ay4 ah1:=fnC Tryz.func14
def akf(N:Nat)(a:List PMs)(b:List PEn)(f:Bs)(c:List (Int×List aC))(d:Bs):Ro:=let e:=λh i=>(some (.tup [vF .u8 h,vI i],[]):Ro);aA (iL a b f) (λj=>cond (!j.2) (e [] 1) (aA (fQ a b f c d) (λ(k:Bool)=>cond (!k) (e [] 7) (aA (gM a b f c d) (λ(g:Bs)=>let l:=(↑(Aa g):Int);cond (decide (5000<l)) (e [] 3) (e g 0))))))
def akg(N:Nat)(a:List PMs)(b:List PEn)(e:Bs)(c:List (Int×List aC))(d:Bs):Ro:=akf N a b e c d
theorem awP(N:Nat)(a:List PMs)(b:List PEn)(i:Bs)(c:List (Int×List aC))(d:Bs)(h:Tot (akg N a b i c d) (λz=>∃f g rest,z.1.dimR=.tup [vF .u8 f,vI g]∧z.2=rest∧agH a b i c d (f,g))):∃r,lC a b i c d r:=ay5.finP (N:=N) (by kernel_rfl) h λ_ ⟨f,g,_,e,_,q⟩=>⟨(f,g),e,q⟩
theorem azM(a n m:Int)(s b:Bs):i9 ⟨a,2,n,s,b⟩=i9 ⟨a,2,m,s,b⟩:=rfl
theorem aH7{k:Int}(h:1<=k∧k<=17)(a:ei k≠2):ei k=0∨ei k=1∨ei k=5:=by revert a;rw[uk];unfold acN;(repeat' split)<;>omega
theorem aMm{k:Int}(h:1<=k∧k<=17)(a:ei k≠2)(n:Int)(s:Bs):1<=(i9 ⟨1,ei k,toR k n,s,[]⟩).length∧(i9 ⟨1,ei k,toR k n,s,[]⟩).drop 1=pJ k n:=by
 unfold i9 pJ;rcases aH7 h a with e|e|e<;>rw[e]
 ·have:dK 8=[8]:=by decide
  simp[this,C0]
 ·have:dK 9=[9]:=by decide
  simp[this,C0]
 ·have:dK 13=[13]:=by decide
  simp[this,C0]
section
variable{Q:V×List aK->Prop}
def aH8(n:Nat):Prop:=∀(a:List PMs)(es:List PEn)(t:Bs)(fs:List (Int×List aC))(rest:Bs),nL a->cM fs<=n->rest.length<=20000000000000->∃r,gM a es t fs rest r
theorem aJM(c:List PMs)(es:List PEn)(b k:Int)(t:Bs)(v:aC)(j:wtV v<=20000000000000)(e:k=16->∃r,gM c es t v.fs v.rest r):∃r,oG c es b k t v r:=by
 apply aEN 1;show Tot _ (SrQ (pg c b k t v));unfold as6 as5;dsimp only;have i:=sV v;have f:=aEI c t v.fs v.rest;rw[alJ];refine aL (ap4 _) (λ_ h=>h.2) (aB (λd=>aL (aLT _ _) (λ_ h=>h.2) (aB (λa=>aL (e (by simpa using a)) (λ_ h=>h.2) (aL (afK _ (by dsimp only;omega)) (λ_ h=>h.2) (nv _ ?_))) (λa=>aL (afK _ (by dsimp only;omega)) (λ_ h=>h.2) (nv _ ?_)))) (λd=>aB (λa=>aL (e (by simpa using a)) (λ_ h=>h.2) (aL (afK _ (by dsimp only;omega)) (λ_ h=>h.2) (nv _ ?_))) (λa=>aL (afK _ (by dsimp only;omega)) (λ_ h=>h.2) (nv _ ?_))));·rw[if_pos (by simpa using a)]
 ·rw[if_neg (by simpa using a)]
 ·rw[if_pos (by simpa using a),show ei k=2 by simpa using d];exact azM _ _ _ _ _
 ·rw[if_neg (by simpa using a),show ei k=2 by simpa using d];exact azM _ _ _ _ _
theorem aK5(k:Int)(v:aC)(d:wtV v<=20000000000000)(h:1<=k∧k<=17)(b:ei k≠2):∃r,ac2 k v r:=by
 apply aBI 1;show Tot _ (SrQ (pJ k v.n));unfold aqG aqF;rw[kr];have a:k≠16:=by rintro rfl;exact b (by rw[uk];rfl)
 refine aL (aJM [] [] 1 k [] v d (λh=>absurd h a)) (λ_ h=>h.2) ?_;have e:pg [] 1 k [] v=i9 ⟨1,ei k,toR k v.n,v.s,[]⟩:=by rw[alJ,if_neg a]
 have c:=aMm h b v.n v.s;rw[e];refine aD (by simp only[Ac,decide_eq_true_eq];omega) (nv _ ?_);rw[AZ];exact c.2
theorem aJN(d:List PMs)(es:List PEn)(f:PFl)(l:List aC)(hw:wtL l<=20000000000000)(S:f.packed=true->ei f.kind≠2∧1<=f.kind∧f.kind<=17)(X:∀v∈l,∀t,∃r,gM d es t v.fs v.rest r):∃r,aaR d es f l r:=by
 obtain⟨N,hN⟩:∃N:Nat,N=300000000000:=⟨_,rfl⟩
 apply ay3 N;show Tot _ (SrQ (wl d f l));unfold amK sL;have ac:=zk l;have u:∀v∈l,∀(E k:Int)(t:Bs),∃r,oG d es E k t v r:=λv R E k t=>aJM d es E k t v (by have:=lr R;omega) (λ_=>X v R t)
 refine aB (λL=>?_) (λL=>aB (λhp=>?_) (λhp=>?_))
 ·have H:wl d f l=iA d f l:=by rw[acF,if_pos (by simpa using L)]
  rw[H];have e:=aid d f l;refine aW (λ(x:qA)=>match x with|(D,w,z,C,k,b)=>(D,w,z,C)=(l,d,es,f)∧0<=k∧k<=l.length+1∧iA d f l=b++iA d f (l.drop k.toNat)) (λx=>(l.length+1-x.2.2.2.2.1).toNat) ?_ _ _ ⟨rfl,Av _,by omega,rfl⟩ (by dsimp only;omega);rintro A ⟨D,w,z,C,k,b⟩ ⟨q,p,P,i⟩ B;cases q;dsimp only at B;unfold vN;dsimp only;simp only[kr];rw[cu p (by omega),aT (k+2) (by omega)];refine aB (λc=>?_) (λc=>?_)
  ·have c:=of_decide_eq_true c;have j:=dm (l:=l) (aI .pval) p (by omega);have I:=dm (l:=l) (k:=k+1) (aI .pval) (by omega) c;rw[show k+1+1=k+2 by omega] at I;have m:=dJ (l:=l) (aI .pval) p (by omega);have F:=dJ (l:=l) (k:=k+1) (aI .pval) (by omega) c;rw[I] at j;obtain⟨x,J⟩:∃x,x=Af l k.toNat (aI .pval):=⟨_,rfl⟩
   obtain⟨y,Z⟩:∃y,y=Af l (k+1).toNat (aI .pval):=⟨_,rfl⟩
   rw[<-J] at j m ⊢;rw[<-Z] at j F ⊢;rw[j] at i;simp only[iA] at i;have G:b.length+((i9 ⟨f.num,2,0,pg d 1 f.key [] x++pg d 2 f.kind f.typ y,[]⟩).length+(iA d f (l.drop (k+2).toNat)).length)<=wtL l:=by rw[i] at e;simpa only[Ak] using e
   have ab:=yw d 1 f.key [] x;have Y:=yw d 2 f.kind f.typ y;have ad:=lr m;have aa:=lr F;refine aD (ixt ⟨p,by omega⟩) (aL (u x m 1 f.key []) (λ_ h=>h.2) (aD (ixt ⟨by omega,c⟩) (aL (u y F 2 f.kind f.typ) (λ_ h=>h.2) (aD (decide_eq_true (by omega)) (aL (afK _ (by simp only[Ak];omega)) (λ_ h=>h.2) (aD (decide_eq_true (by omega)) (B _ ⟨rfl,by first|omega|(dsimp only;omega),by first|omega|(dsimp only;omega),?_⟩ (by first|omega|(dsimp only;omega)))))))));rw[i,AP]
  ·have c:=of_decide_eq_false c;have:iA d f (l.drop k.toNat)=[]:=by
    have W:(l.drop k.toNat).length<=1:=by rw[AL];omega
    match h:l.drop k.toNat,W with
    | [],_=>simp[iA]
    | [a],_=>simp[iA]
   rw[this,B5] at i;exact nv _ i.symm
 ·have H:wl d f l=i9 ⟨f.num,2,0,lj f.kind l,[]⟩:=by rw[acF,if_neg (by simpa using L),if_pos hp]
  rw[H];obtain⟨M,O⟩:=S hp;have e:=aic f.kind l;dsimp only;refine aW (λ(x:qB)=>match x with|(C,D,n,k,b)=>(C,D,n)=(f,l,(l.length:Int))∧0<=k∧k<=l.length∧lj f.kind l=b++lj f.kind (l.drop k.toNat)) (λx=>(l.length-x.2.2.2.1).toNat) ?_ _ _ ⟨rfl,Av _,by omega,rfl⟩ (by dsimp only;omega);rintro A ⟨C,D,n,k,b⟩ ⟨q,p,P,i⟩ B;cases q;dsimp only at B;unfold vP;dsimp only;simp only[kr];rw[cu p (by omega)];refine aB (λc=>?_) (λc=>?_)
  ·have c:=of_decide_eq_true c;have j:=dm (l:=l) (aI .pval) p c;have m:=dJ (l:=l) (aI .pval) p c;obtain⟨x,J⟩:∃x,x=Af l k.toNat (aI .pval):=⟨_,rfl⟩
   rw[<-J] at j m ⊢;rw[j] at i;simp only[lj] at i;have G:b.length+((pJ f.kind x.n).length+(lj f.kind (l.drop (k+1).toNat)).length)<=wtL l:=by rw[i] at e;simpa only[Ak] using e
   exact aD (ixt ⟨p,c⟩) (aL (aK5 _ x (by have:=lr m;omega) O M) (λ_ h=>h.2) (aD (decide_eq_true (by omega)) (B _ ⟨rfl,by first|omega|(dsimp only;omega),by first|omega|(dsimp only;omega),by rw[i,AP]⟩ (by first|omega|(dsimp only;omega)))))
  ·have c:=of_decide_eq_false c;rw[dP c] at i;simp only[lj,B5] at i;rw[<-i];exact aL (afK _ (by dsimp only;omega)) (λ_ h=>h.2) (nv _ rfl)
 ·have H:wl d f l=mt d f l:=by rw[acF,if_neg (by simpa using L),if_neg (by simpa using hp)]
  rw[H];have e:=aie d f l;dsimp only;refine aW (λ(x:qC)=>match x with|(w,z,C,D,n,k,b)=>(w,z,C,D,n)=(d,es,f,l,(l.length:Int))∧0<=k∧k<=l.length∧mt d f l=b++mt d f (l.drop k.toNat)) (λx=>(l.length-x.2.2.2.2.2.1).toNat) ?_ _ _ ⟨rfl,Av _,by omega,rfl⟩ (by dsimp only;omega);rintro A ⟨w,z,C,D,n,k,b⟩ ⟨q,p,P,i⟩ B;cases q;dsimp only at B;unfold vQ;dsimp only;simp only[kr];rw[cu p (by omega)];refine aB (λc=>?_) (λc=>?_)
  ·have c:=of_decide_eq_true c;have j:=dm (l:=l) (aI .pval) p c;have m:=dJ (l:=l) (aI .pval) p c;obtain⟨x,J⟩:∃x,x=Af l k.toNat (aI .pval):=⟨_,rfl⟩
   rw[<-J] at j m ⊢;rw[j] at i;simp only[mt] at i;have G:b.length+((pg d f.num f.kind f.typ x).length+(mt d f (l.drop (k+1).toNat)).length)<=wtL l:=by rw[i] at e;simpa only[Ak] using e
   exact aD (ixt ⟨p,c⟩) (aL (u x m f.num f.kind f.typ) (λ_ h=>h.2) (aD (decide_eq_true (by omega)) (B _ ⟨rfl,by first|omega|(dsimp only;omega),by first|omega|(dsimp only;omega),by rw[i,AP]⟩ (by first|omega|(dsimp only;omega)))))
  ·have c:=of_decide_eq_false c;rw[dP c] at i;simp only[mt,B5] at i;exact nv _ i.symm
theorem aK6{p:PMs}{n:Int}(h:(cK p n).2 =false):(cK p n).1 =⟨0,[],0,0,[],0,false,0⟩:=by
 unfold cK at h ⊢;split at h;·simp at h
 ·rfl
theorem aBM(n:Nat)(M:∀k,k<n->aH8 k)(Y:n<=20000000000000):aH8 n:=by
 intro a es t fs rest B hw P;obtain⟨N,X⟩:∃N:Nat,N=300000000000:=⟨_,rfl⟩
 apply aux N;show Tot _ (SrQ (aaH a t fs rest));unfold aig oP;dsimp only;have hp:=ajW t B;have O:=yv fs;have c:=ad2 a (dU a t).1 fs;refine aiN B ?_;have I:aaH a t fs rest=li a (dU a t).1 fs++rest:=rfl;obtain⟨p,C⟩:∃p,p=(dU a t).1 :=⟨_,rfl⟩
 rw[<-C] at hp I c ⊢;have W:=hp.1;rw[I];refine aW (λ(x:nA)=>match x with|(r,y,z,H,G,u,m,k,b)=>(r,y,z,H,G,u,m)=(a,es,fs,rest,p,fs,(fs.length:Int))∧0<=k∧k<=fs.length∧li a p fs=b++li a p (fs.drop k.toNat)) (λx=>(fs.length-x.2.2.2.2.2.2.2.1).toNat) ?_ _ _ ⟨rfl,Av _,by omega,rfl⟩ (by dsimp only;omega);rintro D ⟨r,y,z,H,G,u,m,k,b⟩ ⟨q,A,Z,i⟩ F;cases q;dsimp only at F;unfold rO;dsimp only;rw[cu A (by omega)];refine aB (λf=>?_) (λf=>?_)
 ·have f:=of_decide_eq_true f;have e:=ixt (l:=fs) ⟨A,f⟩;have j:=dm (l:=fs) (aI .pfd) A f;have w:=dJ (l:=fs) (aI .pfd) A f;obtain⟨x,S⟩:∃x,x=Af fs k.toNat (aI .pfd):=⟨_,rfl⟩
  rw[<-S] at j w ⊢;rw[j,awH] at i;have R:=aka w;have L:b.length+((wl a (cK p x.1).1 x.2).length+(li a p (fs.drop (k+1).toNat)).length)<=cM fs:=by rw[i] at c;simpa only[Ak] using c
  have d:(cK p x.1).1.packed =true->ei (cK p x.1).1.kind ≠2∧1<=(cK p x.1).1.kind ∧(cK p x.1).1.kind <=17:=by
   intro d;cases E:(cK p x.1).2 with
   |true=>have:=(aq6 x.1 hp E).1;exact⟨(this.2.2.2.2.2.2.2.2 d).1,this.1,this.2.1⟩
   |false=>rw[aK6 E] at d;simp at d
  refine aD e (aqs (by omega) (aL (aJN a es _ x.2 (by omega) d (λv J t=>M (cM v.fs) (by have:=lr J;have:=sV v;omega) a es t v.fs v.rest B (Ap _) (by have:=lr J;have:=sV v;omega))) (λ_ h=>h.2) (aD (decide_eq_true (by omega)) (F _ ⟨rfl,by first|omega|(dsimp only;omega),by first|omega|(dsimp only;omega),by rw[i,AP]⟩ (by first|omega|(dsimp only;omega))))))
 ·have f:=of_decide_eq_false f;rw[dP f] at i;simp only[li,B5] at i;rw[i] at c ⊢;exact aD (decide_eq_true (by omega)) (nv _ rfl)
theorem aEQ(n:Nat)(c:n<=20000000000000):aH8 n:=by
 induction n using C7 with
 |_ n a=>exact aBM n (λk b=>a k b (by omega)) c
theorem ac5(b:List PMs)(es:List PEn)(t:Bs)(fs:List (Int×List aC))(rest:Bs)(d:nL b)(e:cM fs<=20000000000000)(f:rest.length<=20000000000000):∃r,lC b es t fs rest r:=by
 apply awP 1;unfold akg akf;dsimp only;refine aiN d (aB (λh=>aE ⟨_,_,_,rfl,rfl,?_⟩) (λh=>aKV d e (aB (λa=>aE ⟨_,_,_,rfl,rfl,?_⟩) (λa=>aL (aEQ _ e b es t fs rest d (Ap _) f) (λ_ h=>h.2) (aB (λc=>aE ⟨_,_,_,rfl,rfl,?_⟩) (λc=>aE ⟨_,_,_,rfl,rfl,?_⟩))))));all_goals show _=sR b t fs rest
 all_goals unfold sR
 ·rw[if_pos (by simpa using h)]
 ·rw[if_neg (by simpa using h),if_pos (by simpa using a)]
 ·rw[if_neg (by simpa using h),if_neg (by simpa using a),if_pos (by have:=of_decide_eq_true c;omega)]
 ·rw[if_neg (by simpa using h),if_neg (by simpa using a),if_neg (by have:=of_decide_eq_false c;omega)]
end
def aiQ(fs:List (Int×List aC)):Prop:=∀x∈fs,x.2≠[]
def ag6(fs:List (Int×List aC))(rest:List UInt8)(n:Int)(l:List aC)(r:List (Int×List aC)×List UInt8):Prop:=r=(ee fs n l,rest)
def afg(a:List PMs)(es:List PEn)(p:PMs)(f:PFl)(fs:List (Int×List aC))(rest:List UInt8)(l:List aC)(r:List (Int×List aC)×List UInt8):Prop:=qi (jt p fs f) f.num=([],false)->r=(xR p f fs l,rest)
def akh(l:List UInt8)(n:Int)(a:List PMs)(es:List PEn)(s:List UInt8)(d:Int)(r:List (Int×List aC)×List UInt8×List UInt8×Int):Prop:=cM r.1+r.2.1.length<=oD (5-d).toNat∧r.1≠[]∧aiQ r.1∧r.2.2.1=l∧cU l r.2.2.2
def aki(l:List UInt8)(n:Int)(a:List PMs)(es:List PEn)(s:List UInt8)(d:Int)(r:List (Int×List aC)×List UInt8×List UInt8×Int):Prop:=cM r.1+r.2.1.length<=oD (5-d).toNat∧r.1=[]∧r.2.2.1=l∧cU l r.2.2.2
def scW:List PMs:=[⟨[65],[⟨1,[98],0,3,[],0,false,0⟩],[]⟩]
def ay6(s:List UInt8)(r:List PMs×List PEn×Bool):Prop:=r=(scW,[],true)
def ad3(r:Bool):Prop:=r=true
def aa0(a b:List UInt8)(c n:Int)(s:List UInt8)(r:Bool):Prop:=r=true
def aa1(a b:List UInt8)(c n:Int)(s:List UInt8)(r:Bool):Prop:=r=true
end Go.Proofs.YtndccphabnjkhaaGreat
namespace Go.AM
def V.dull:V->Bool
 | .sl _ .own _=>false
 |v=>v.flat1
section
variable{I:Nat->Nat->Prop}{ρ ρ':Nat->Nat}{N N':Nat}{w:World}{P:Program}
theorem V.dull_flat1{v:V}(h:v.dull=true):v.flat1=true:=by
 unfold V.dull at h;split at h;·cases h
 ·exact h
theorem V.dull_own{v:V}(h:v.dull=true)(g:Gh)(w:World)(a:Occ)(cv:Value):aP g w a v cv:=by
 cases v with
 |sl k o xs=>cases o<;>first|(simp[V.dull] at h;done)|simp[aP]
 |raw n=>simp[V.dull,V.flat1] at h
 |ul k xs=>simp[V.dull,V.flat1] at h
 |_=>simp[aP]
theorem V.dull_nil{v:V}(h:v.dull=true)(cv:Value):d7 v cv:=by
 cases v with
 |sl k o xs=>cases o<;>first|(simp[V.dull] at h;done)|simp[d7]
 |raw n=>simp[V.dull,V.flat1] at h
 |ul k xs=>simp[V.dull,V.flat1] at h
 |bn E n=>simp[V.dull,V.flat1] at h
 |_=>simp[d7]
theorem V.dull_row{cs:List V}(h:cs.all V.dull=true):dH cs=false:=by
 unfold dH;split;·simp[V.dull,V.flat1] at h
 ·simp[V.dull,V.flat1] at h
 ·simp[V.dull,V.flat1] at h
 ·rfl
def uW(P:Program)(f:FuncId)(avs:List V)(css:List (List V))(k:EK)(xs:List (Ty k))(cs:List V)(css':List (List V)):Prop:=
 css'.length=css.length∧∃(id:Nat)(hp':List aK),fS P f avs (css.map some) (.agg (.sw k id xs.length::cs)) hp'∧css.length<=id∧hp'[id]? =some (some [.rw k xs])∧
  ∀(i:Nat) c,css'[i]? =some c->hp'[i]? =some (some c)
theorem uW.dim{f:FuncId}{avs us:List V}{css css':List (List V)}{k:EK}{xs:List (Ty k)}{cs:List V}(h:uW P f us css k xs cs css')(e:avs.map V.dim=us):uW P f avs css k xs cs css':=by obtain⟨c,id,hp',b,a⟩:=h;exact⟨c,id,hp',b.dim e,a⟩
theorem uW.frame{f:FuncId}{avs:List V}{css css':List (List V)}{k:EK}{xs:List (Ty k)}{cs:List V}(h:uW P f avs css k xs cs css')(ha:avs.all (V.flatP css.length)=true)(hv:cs.all V.dull=true)
  (S:css.all (λc=>c.all V.dull)=true) (ab:css'.all (λc=>c.all V.dull)=true) {hp hp':List aK} {σ:Nat->Nat}
  (b2:∀k k',k<css.length->k'<css.length->σ k=σ k'->k=k')
  (h1:∀(k:Nat) cs,css[k]? =some cs->hp[σ k]? =some (some cs)) (h2:hp'.length=hp.length)
  (h3:∀(k:Nat) cs,css'[k]? =some cs->hp'[σ k]? =some (some cs))
  (h4:∀id,(∀k,k<css.length->σ k≠id)->hp'[id]? =hp[id]?):fS P f (avs.map (V.ren σ)) hp (.agg (.sw k hp.length xs.length::cs)) (hp'++[some [.rw k xs],none]):=by
 obtain⟨b3,J,c4,h,b5,Y,ad⟩:=h;intro w g af b1 F bd av a7;have bb:∀(k:Nat) cs,css[k]? =some cs->cs.all V.dull=true:=λk cs l=>Aw.1 S cs (Ar l)
 have ap:∀(k:Nat) cs,css'[k]? =some cs->cs.all V.dull=true:=λk cs l=>Aw.1 ab cs (Ar l)
 have Q:∀(k:Nat) cs,css[k]? =some cs->k<css.length:=λk cs l=>(Ag.1 l).1
 have u:∀(k:Nat) cs,(css.map some)[k]? =some (some cs)->css[k]? =some cs:=by
  intro k cs l;rw[AA] at l;cases hq:css[k]? with
  |none=>rw[hq] at l;simp at l
  |some x=>rw[hq] at l;simpa using l
 have sub:∀k,k<css.length->∃cs,css[k]? =some cs∧hp[σ k]? =some (some cs):=λk l=>⟨css[k],Ah l,h1 k _ (Ah l)⟩
 let D:Gh:={I:=g.I,ρ:=λk=>g.ρ (σ k),O:=λ_=>none,β:=g.β}
 have h0:HR D (css.map some) w:=by
  refine⟨?_,?_,?_,λ_ _ _=>rfl,F.exI,by simp[D]⟩
  ·intro k c l;have l:=u k c l;refine(F.obj _ c (h1 k c l)).keep rfl λb4 e fz a1 C=>?_
   have hr:=V.dull_row (bb k c l);have W:∀(j:Nat) A,(cellsOf c)[j]? =some A->A.dull=true:=λj A B=>Aw.1 (bb k c l) A (Ar (by rw[jW hr] at B;exact B))
   refine⟨C.len,C.plain,by rw[sM hr];simp,C.cold,C.one,?_,?_,C.bn⟩;·intro j A cv B r;exact(C.rel j A cv B r).flat1 (V.dull_flat1 (W j A B))
   ·intro j A cv B r;exact V.dull_own (W j A B) _ _ _ _
  ·intro k k' c A l z M;have l:=u k c l;have z:=u k' A z;exact F.apart _ _ _ _ (h1 k c l) (h1 k' A z) λe=>M (b2 k k' (Q k c l) (Q k' A z) e)
  ·intro k c l;exact F.notI _ c (h1 k c (u k c l))
 have au:∀(i:Nat) x cv,avs[i]? =some x->af[i]? =some cv->VRel D.I D.ρ (css.map some).length w x cv:=by
  intro i x cv hx r;have hr:=a7 i (x.ren σ) cv (by rw[AA,hx];rfl) r;have ac:=Aw.1 ha x (Ar hx);unfold V.flatP at ac;split at ac
  ·rename_i k;have l:k<css.length:=by simpa using ac
   simp only[V.ren] at hr;cases hr with
   |ptr _ _ _=>exact .ptr k 0 (by simpa using l)
  ·rw[V.ren_flat ac] at hr;exact hr.flat ac
 refine(h w D af (b1.sub rfl (λh=>h) (λh=>by simp[D,h])) h0 (by rw[<-bd,BW]) (by intro x hx;have:=av (x.ren σ) (List.mem_map_of_mem hx);rw[V.ren_bare] at this;exact this) au).mono ?_;rintro ex w' ⟨cv,g₁,rfl,q1,Z,q3,q4⟩;have r0:∀k,k<css.length->g₁.ρ k=g.ρ (σ k):=λk l=>Z.up.rho k (by simpa using l)
 have al:∀b,(∀k,k<css.length->g.ρ (σ k)≠b)->∀(k:Nat) cs,(css.map some)[k]? =some (some cs)->D.ρ k≠b:=λb L k cs l=>L k (Q k cs (u k cs l))
 have aq:∀b,b<w.heap.size->(∀k,k<css.length->g.ρ (σ k)≠b)->w'.heap[b]? =w.heap[b]?:=λb L M=>Z.block b L (al b M) rfl
 have a0:w.heap.size<=g₁.ρ J:=by
  rcases Z.live J _ Y with⟨_,hh⟩|⟨_,hh|hh|⟨i,c,a,bs⟩⟩
  ·have:=(Ag.1 hh).1;simp at this;omega
  ·exact hh
  ·simp[D] at hh
  ·exfalso;have a:=u i c a;have bl:=Q i c a;have bc:i<css'.length:=by omega
   have:=q1.apart i J _ _ (ad i _ (Ah bc)) Y (by omega);exact this (by rw[r0 i bl];exact bs)
 let m:Gh:={I:=g₁.I,ρ:=λi=>if i=hp.length then g₁.ρ J else if i=hp.length+1 then g₁.ρ (J+1) else g.ρ i,β:=g.β,O:=λb=>if b<w.heap.size then g.O b else none}
 have p:∀i,i<hp.length->m.ρ i=g.ρ i:=by intro i a;simp only[m];rw[if_neg (by omega),if_neg (by omega)]
 have G:m.ρ hp.length=g₁.ρ J:=by simp[m]
 have X:m.ρ (hp.length+1)=g₁.ρ (J+1):=by simp[m]
 have up:Up g.I g.ρ hp.length w m.I m.ρ (hp'++[some [V.rw k xs],none]).length w':=⟨Z.up.mono,Z.up.cell,p,by simp[h2]⟩
 have ag:∀(i:Nat) c,hp[i]? =some (some c)->g.ρ i<w.heap.size:=by intro i c a;obtain⟨ob,h1⟩:=(F.obj i c a).block;exact(AX.1 h1).1
 have H:∀(i:Nat) c,hp[i]? =some (some c)->i<hp.length:=λi c a=>(Ag.1 a).1
 have ae:∀(i:Nat) c,hp'[i]? =some (some c)->(∃k d,k<css.length∧i=σ k∧css'[k]? =some c∧hp[i]? =some (some d))∨((∀k,k<css.length->σ k≠i)∧hp[i]? =some (some c)):=by
  intro i c a;by_cases l:∃k,k<css.length∧σ k=i
  ·obtain⟨k,l,rfl⟩:=l;obtain⟨d,_,q⟩:=sub k l;have z:k<css'.length:=by omega
   have:=h3 k _ (Ah z);rw[this] at a;exact .inl ⟨k,d,l,rfl,by rw[Ah z];simpa using a,q⟩
  ·have hn:∀k,k<css.length->σ k≠i:=λk z e=>l ⟨k,z,e⟩
   exact .inr ⟨hn,(h4 i hn).symm.trans a⟩
 have key:∀(i:Nat) c,(hp'++[some [V.rw k xs],none])[i]? =some (some c)->(i=hp.length∧c=[V.rw k xs])∨hp'[i]? =some (some c):=by
  intro i c v;rcases AG i hp'.length with hl|hl;·rw[Au hl] at v;exact .inr v
  ·rw[At hl] at v;match hq:i-hp'.length,v with
   |0,v=>simp at v;exact .inl ⟨by omega,v.symm⟩
   |1,v=>simp at v
   |n+2,v=>simp at v
 have t:∀(i:Nat) c,hp'[i]? =some (some c)->∃d,hp[i]? =some (some d):=by
  intro i c a;rcases ae i c a with⟨_,d,_,_,_,h⟩|⟨_,h⟩
  ·exact⟨d,h⟩
  ·exact⟨c,h⟩
 have R:∀(i:Nat) c,(∀k,k<css.length->σ k≠i)->hp[i]? =some (some c)->∀k,k<css.length->g.ρ (σ k)≠g.ρ i:=by intro i c hn a k l;obtain⟨d,_,q⟩:=sub k l;exact F.apart _ _ _ _ q a (hn k l)
 have ak:∀b o,g.O b=some o->∀k,k<css.length->g.ρ (σ k)≠b:=by intro b o L k l e;obtain⟨d,_,q⟩:=sub k l;rw[<-e,F.notO _ d q] at L;cases L
 refine⟨cv,m,rfl,⟨?_,?_,?_,?_,q1.exI,?_⟩,⟨rfl,Z.os,Z.tape,Z.output,Z.size,?_,up,?_,?_,?_⟩,?_,by simp[aP]⟩
 ·intro i c a;rcases key i c a with⟨rfl,rfl⟩|a
  ·refine(q1.obj J _ Y).keep (by rw[G]) λb4 e fz a1 C=>?_
   refine⟨C.len,C.plain,?_,C.cold,C.one,?_,?_,?_⟩;·intro k2 ys hz;obtain⟨t1,t2,t3,t4⟩:=C.typed k2 ys hz;refine⟨t1,?_,by simp[h2],λl=>(t4 l).trans Z.beta⟩;rw[X];exact t2
   ·intro j c cv S r;have ab:=S;simp only[cellsOf] at ab;obtain⟨y,hy,ab⟩:=eq _ j _ ab;exact yA ab (C.rel j c cv S r)
   ·intro j c cv S r;have hm:=Ar S;simp only[cellsOf,AS] at hm;obtain⟨y,_,hm⟩:=hm;exact jI (qI k y c hm) _ _ _ _
   ·intro j E n S;simp only[cellsOf] at S;obtain⟨y,_,S⟩:=eq _ j _ S;exact absurd S (xZ k y _ E n)
  ·rcases ae i c a with⟨kk,d,l,rfl,z,v⟩|⟨M,a⟩
   ·refine(q1.obj kk c (ad kk c z)).keep (by rw[r0 kk l,p _ (H _ _ v)]) λa9 e' fz a1 C=>?_
    have hr:=V.dull_row (ap kk c z);have W:∀(j:Nat) A,(cellsOf c)[j]? =some A->A.dull=true:=λj A B=>Aw.1 (ap kk c z) A (Ar (by rw[jW hr] at B;exact B))
    refine⟨C.len,C.plain,by rw[sM hr];simp,C.cold,C.one,?_,?_,?_⟩;·intro j A cv B r;exact(C.rel j A cv B r).flat1 (V.dull_flat1 (W j A B))
    ·intro j A cv B r;exact V.dull_own (W j A B) _ _ _ _
    ·intro j E n B;have:=C.bn j E n B;rw[r0 kk l,<-p _ (H _ _ v)] at this;exact this
   ·refine(F.obj i c a).keep (by rw[p i (H i c a)];exact aq _ (ag i c a) (R i c M a)) λa9 e' fz a1 C=>?_
    refine⟨C.len,C.plain,C.typedUp rfl p up.num rfl,C.cold,C.one,λj c cv B r=>(C.rel j c cv B r).up up,?_,by rw[p i (H i c a)];exact C.bn⟩;intro j A cv B r;refine dg (C.own j A cv B r) rfl (λb j a=>⟨up.mono b j a,up.cell b j a⟩) ?_;intro b L;have ah:=F.oLt b _ L;have an:=ak b _ L;exact⟨by simp[m,ah,L],aq b ah an,λj B=>Z.iSame b j ah (al b an) rfl B⟩
 ·intro i i' c A a aa M;rcases key i c a with⟨rfl,rfl⟩|a
  ·rcases key i' A aa with⟨rfl,rfl⟩|aa;·exact absurd rfl M
   ·obtain⟨a8,m2⟩:=t i' A aa;rw[G,p i' (H i' _ m2)];have:=ag i' _ m2;omega
  ·obtain⟨d,m1⟩:=t i c a;rcases key i' A aa with⟨rfl,rfl⟩|aa;·rw[G,p i (H i _ m1)];have:=ag i _ m1;omega
   ·obtain⟨a8,m2⟩:=t i' A aa;rw[p i (H i _ m1),p i' (H i' _ m2)];exact F.apart _ _ _ _ m1 m2 M
 ·intro i c a j B;rcases key i c a with⟨rfl,rfl⟩|a;·rw[G] at B;exact q1.notI J _ Y j B
  ·rcases ae i c a with⟨kk,d,l,rfl,z,v⟩|⟨M,a⟩
   ·have:=q1.notI kk c (ad kk c z) j;rw[r0 kk l,<-p _ (H _ _ v)] at this;exact this B
   ·rw[p i (H i c a)] at B;exact F.notI i c a j (Z.iSame _ j (ag i c a) (al _ (R i c M a)) rfl B)
 ·intro i c a;rcases key i c a with⟨rfl,rfl⟩|a
  ·rw[G];have h2:¬g₁.ρ J<w.heap.size:=by omega
   simp[m,h2]
  ·obtain⟨d,m1⟩:=t i c a;rw[p i (H i _ m1)];have:=ag i _ m1;simp[m,this,F.notO i _ m1]
 ·intro b o L;simp only[m] at L;split at L;·rename_i hq;exact AJ hq Z.size
  ·simp at L
 ·intro b L ho hO;exact aq b L (λk l e=>by obtain⟨d,_,q⟩:=sub k l;exact ho _ d q e)
 ·intro b j L ho hO a;exact Z.iSame b j L (al b λk l e=>by obtain⟨d,_,q⟩:=sub k l;exact ho _ d q e) rfl a
 ·intro b L ho hO;simp[m,L,hO]
 ·intro i c a;rcases key i c a with⟨rfl,rfl⟩|a;·exact .inr ⟨Ap _,.inl (by rw[G];exact a0)⟩
  ·exact .inl (t i c a)
 ·cases q3 with
  |agg _ vs hl ho L a5=>
  refine .agg _ vs hl ?_ ?_ ?_
  ·intro c S;rcases A3.1 S with rfl|S;·rfl
   ·exact ho c (A0 _ S)
  ·intro i c cv a r;cases i with
   |zero=>simp at a;subst a;simp[d7]
   |succ i=>simp only[A9] at a;exact V.dull_nil (Aw.1 hv c (Ar a)) cv
  ·intro i c cv a r;cases i with
   |zero=>
    simp at a;subst a;have bh:=a5 0 _ cv rfl r;cases bh with
    |sw _ _ _ hN S hm=>
    have:=VRel.sw (I:=m.I) (ρ:=m.ρ) (N:=(hp'++[some [V.rw k xs],none]).length) (w:=w') k hp.length xs.length (by simp[h2]) (by rw[X];exact S) (by rw[X];exact hm);rw[X,G] at this;exact this
   |succ i=>have:=a5 (i+1) c cv a r;simp only[A9] at a;exact this.flat1 (V.dull_flat1 (Aw.1 hv c (Ar a)))
theorem uW.laid{f:FuncId}{avs:List V}{css css':List (List V)}{k:EK}{xs:List (Ty k)}{cs:List V}(h:uW P f avs css k xs cs css')(hv:cs.all V.dull=true):bv P f avs css (.agg (.sl k (.may false) xs::cs)) css':=by
 obtain⟨z,b,hp',h,O,l,u⟩:=h;refine⟨z,(hp'.set b none).drop css'.length,?_⟩;have S:b<hp'.length:=(Ag.1 l).1;have D:css'.map some++(hp'.set b none).drop css'.length=hp'.set b none:=by
  rw[<-BS css'.length (hp'.set b none)]
  congr 1
  ·apply CO;intro i;rw[AA,AY];by_cases j:i<css'.length;·rw[if_pos j,Bp (by omega),u i _ (Ah j),Ah j];rfl
   ·rw[if_neg j,A1 (by omega)];rfl
  ·simp
 rw[D];intro w g m A G Q p t;refine(h w g m A G Q p t).mono ?_;rintro e w' ⟨cv,g₁,rfl,Y,q2,q3,q4⟩;cases q3 with
 |agg _ vs y W hb q=>
 have H:0<vs.size:=by simp at y;omega
 have B:=q 0 _ vs[0] rfl (Am H);let s:St:={env:=[.sw k b xs.length],hp:=hp'}
 have hs:SR g₁ s w' {tmps:= #[vs[0]],defers:=[]}:=by
  refine⟨Y,⟨rfl,?_,?_⟩⟩
  ·intro n v cv d a;match n,d,a with
   |0,d,a=>simp[s] at d a;subst d a;exact B
   |n+1,d,_=>simp[s] at d
  ·intro n v cv d a;match n,d,a with
   |0,d,a=>simp[s] at d;subst d;simp[aP]
   |n+1,d,_=>simp[s] at d
 have hw:s.rowW b=some ⟨k,xs⟩:=by simp[St.rowW,s,Aq,l]
 have C:(gm.cls (.slot 0)).step s=some (true,{env:=[.ul k xs],hp:=hp'.set b none}):=by show (match s.rowW b with|some ⟨k',xs⟩=>_|none=>none)=_;rw[hw];simp[s,St.put?,St.set]
 obtain⟨J,R,X⟩:=aze hs C;have F:(gm.fz (.slot 0)).step ({env:=[.ul k xs],hp:=hp'.set b none}:St)=some (true,{env:=[.sl k .own xs],hp:=hp'.set b none}):=rfl;obtain⟨r,M,Z⟩:=aB4 R F;have L:=X.trans Z;refine⟨_,r,rfl,M.hr,q2.trans L,?_,by simp[aP]⟩;refine .agg _ vs (by simpa using y) ?_ ?_ ?_
 ·intro c E;rcases A3.1 E with rfl|E;·rfl
  ·exact W c (A0 _ E)
 ·intro i c cv j a;cases i with
  |zero=>simp at j;subst j;simp[d7]
  |succ i=>simp only[A9] at j;exact V.dull_nil (Aw.1 hv c (Ar j)) cv
 ·intro i c cv j a;cases i with
  |zero=>simp at j;subst j;have:=M.er.rel 0 (.sl k .own xs) vs[0] rfl rfl;rw[Am H] at a;cases a;exact this.own (by simp) (by simp)
  |succ i=>exact(q (i+1) c cv j a).up L.up
abbrev awQ:=Nat->List V->List (List V)->Option (Bool×((k:EK)×List (Ty k))×List V×List (List V))
def ac6(G:awQ)(Γ:aG):aG:=λf vs hp=>
 match nQ hp (dS vs) with
 |some css=>match G f (pu 0 vs) css with
  |some (c,⟨k,xs⟩,cs,css')=>cond (adb (dS vs)&&AI css'.length css.length&&(pu 0 vs).all (V.flatP css.length)&&cs.all V.dull&&css.all (λcs=>cs.all V.dull)&&css'.all (λcs=>cs.all V.dull))
    (some (c,.agg (.sw k hp.length xs.length::cs),nY hp (dS vs) css'++[some [.rw k xs],none])) none
  |none=>Γ f vs hp
 |none=>Γ f vs hp
theorem aK7{G:awQ}{Γ:aG}(B:∀f avs css k xs cs css',G f avs css=some (true,⟨k,xs⟩,cs,css')->uW P f avs css k xs cs css')(p:bC P Γ):bC P (ac6 G Γ):=by
 intro f vs hp v hp' h;unfold ac6 at h;split at h
 ·rename_i css b;split at h
  ·rename_i c k xs cs css' y;cases a:(adb (dS vs)&&AI css'.length css.length&&(pu 0 vs).all (V.flatP css.length)&&cs.all V.dull&&css.all (λcs=>cs.all V.dull)&&css'.all (λcs=>cs.all V.dull)) with
   |false=>rw[a] at h;simp at h
   |true=>
    rw[a] at h;simp only[cond_true,Ae,Aj] at h;obtain⟨rfl,rfl,rfl⟩:=h;simp only[Ac] at a;obtain⟨⟨⟨⟨⟨E,H⟩,t⟩,C⟩,L⟩,O⟩:=a;obtain⟨z,u⟩:=aio b;have l:=afT E;have D:css'.length=css.length:=by simpa using H
    have:=uW.frame (B f _ css _ _ _ css' y) t C L O (hp:=hp) (hp':=nY hp (dS vs) css') (σ:=λk=>(dS vs).getD k 0)
     (by intro k k' m d e;rw[z] at m d;simp only[Aq,Ah m,Ah d,A8] at e;exact(List.getElem_inj l).1 e)
     u ad9
     (by
      intro k cs m;have J:k<css'.length:=(Ag.1 m).1;refine an9 l ?_ k cs (by omega) m;intro i M;obtain⟨j,r,rfl⟩:=AU.1 M;have q:j<css.length:=by omega
      have:=u j _ (Ah q);rw[Aq,Ah r,A8] at this;exact(Ag.1 this).1)
     (by
      intro id A;refine afo λF=>?_
      obtain⟨j,r,rfl⟩:=AU.1 F;exact A j (by omega) (by rw[Aq,Ah r,A8]))
    rw[ahq (n:=css.length) (λi _=>by rw[Bf]) t] at this;exact this
  ·exact p _ _ _ _ _ h
 ·exact p _ _ _ _ _ h
theorem aH9{G:awQ}{Γ:aG}{imp:List Nat}(i:∀f avs css,imp.contains f=false->G f avs css=none)(b:∀f avs css,imp.contains (f+2000000)=true->G f avs css=none)(d:co Γ imp):co (ac6 G Γ) imp:=by
 have skip:∀f,(∀avs css,G f avs css=none)->∀vs hp,ac6 G Γ f vs hp=Γ f vs hp:=by
  intro f a vs hp;unfold ac6;split;·rw[a]
  ·rfl
 refine⟨?_,?_⟩;·intro f vs hp a;rw[skip f (λavs css=>i f avs css a),skip f (λavs css=>i f avs css a)];exact d.pure f vs hp a
 ·intro f vs hp c v hp' a h;rw[skip f (λavs css=>b f avs css a)] at h;obtain⟨q,l,j,p⟩:=d.loc _ _ _ _ _ _ a h;exact⟨q,l,j,λe m r=>by rw[skip f (λavs css=>b f avs css a)];exact p e m r⟩
theorem ara{f:FuncId}{vs:List V}{R:Type}[Inhabited R]{C:R->Prop}{k k':EK}{xs:List (Ty k)}{a:List (Ty k')}{cs b:List V}{css d c:List (List V)}
  (h:some (can C,(⟨k,xs⟩:(k:EK)×List (Ty k)),cs,d)=some (true,⟨k',a⟩,b,c)) (j:C (pick C)->uW P f vs css k xs cs d):uW P f vs css k' a b c:=by
 simp only[Ae,Aj] at h;obtain⟨i,e,rfl,rfl⟩:=h;cases e;exact j (aob i)
end
structure aqI(P:Program) where
 id:Nat
 t:List V->List (List V)->Option (Bool×((k:EK)×List (Ty k))×List V×List (List V))
 ok:∀us css k xs cs css',t us css=some (true,⟨k,xs⟩,cs,css')->uW P id us css k xs cs css':=by (intro _ _ _ _ _ _ h;split at h;(first|exact ara h (λh=>h.1.dim rfl)|exact ara h (λh=>h.dim rfl)|exact ara h (λh=>h.1)|exact ara h (λh=>h));cases h)
section
variable{P:Program}{Γ:aG}{imp:List Nat}{k n:Nat}{f:FuncId}{fn:Func}{ir:IR}{rs:List RV}{vs:List V}{x:Ro}
def ag7:List (aqI P)->awQ
 | [],_,_,_=>none
 |r::l,f,us,css=>cond (AI r.id f) (r.t us css) (ag7 l f us css)
theorem aGN:∀(l:List (aqI P)) f us css k xs cs css',ag7 l f us css=some (true,⟨k,xs⟩,cs,css')->uW P f us css k xs cs css'
 | [],_,_,_,_,_,_,_,h=>by simp[ag7] at h
 |r::l,f,us,css,k,xs,cs,css',h=>by
  unfold ag7 at h;cases a:AI r.id f with
  |true=>rw[a] at h;have e:r.id=f:=AE a;subst e;exact r.ok _ _ _ _ _ _ h
  |false=>rw[a] at h;exact aGN l f us css k xs cs css' h
theorem aqJ:∀(l:List (aqI P)) f us css,(∀r∈l,r.id≠f)->ag7 l f us css=none
 | [],_,_,_,_=>rfl
 |r::l,f,us,css,h=>by
  unfold ag7;have a:AI r.id f=false:=by
   cases a:AI r.id f with
   |true=>exact absurd (AE a) (h r (by simp))
   |false=>rfl
  rw[a];exact aqJ l f us css λr b=>h r (by simp[b])
theorem aJO{A:List (aqI P)}(h:A.all (λr=>imp.contains r.id&& !imp.contains (r.id+2000000))=true)(c:co Γ imp):co (ac6 (ag7 A) Γ) imp:=by
 simp only[Aw,Ac,BE] at h;refine aH9 (λf avs css a=>aqJ A f avs css ?_) (λf avs css a=>aqJ A f avs css ?_) c;·rintro r b rfl;rw[(h r b).1] at a;cases a
 ·rintro r b rfl;rw[(h r b).2] at a;cases a
theorem aK8{A:List (aqI P)}{N:List (afV P)}{O:List (db P)}{c:List Nat}{G:List (bq P)}(a:P.funcs[f]? =some fn)(h:aw8 N O c imp=true:=by kernel_rfl)(d:A.all (λr=>imp.contains r.id&& !imp.contains (r.id+2000000))=true:=by kernel_rfl)(b:fn.body=some (fn.body.getD .skip):=by kernel_rfl)
  (chk:(bL P imp k ir (fn.body.getD .skip)&&dy P rs fn.results.toList)=true:=by kernel_rfl) (small:fn.results.toList.length<=5:=by decide):FnC P (ac6 (ag7 A) (tab N O c G)) imp k f fn ir rs:=
 ⟨aK7 (aGN A) (auV N O c G),aJO d (akG h),a,b,chk,small⟩
theorem FnC.finA{css:List (List V)}{R:Type}{a:EK}{xs:R->List (Ty a)}{cs:R->List V}{css':R->List (List V)}{p:R->Prop}{Q:V×List aK->Prop}(h:FnC P Γ imp css.length f fn ir rs)(q:callF Γ n fn.ntmps rs ir vs (css.map some)=x)(y:Tot x Q)
  (u:∀z,Q z->∃r id,z.1=.agg (.sw a id (xs r).length::cs r)∧css.length<=id∧z.2[id]? =some (some [.rw a (xs r)])∧(∃rest,z.2=(css' r).map some++rest)∧p r) (A:∀r,(css' r).length=css.length:=by exactλ_=>rfl):
  ∃r,uW P f vs css a (xs r) (cs r) (css' r)∧p r:=by
 obtain⟨⟨v,hp⟩,l,t⟩:=y;obtain⟨r,id,e,m,b,⟨rest,j⟩,hp'⟩:=u _ t;simp only at e b j;subst e;refine⟨r,⟨A r,id,hp,h.fnOK (by simp) (q.trans l),m,b,?_⟩,hp'⟩;intro i c d;rw[j,Au (by simpa using (Ag.1 d).1),AA,d];rfl
end
end Go.AM
namespace Go.Proofs.YtndccphabnjkhaaGreat
open Go.AM
def afh(a b:Bs)(c d:Int)(e:Bs)(r:Bool):Prop:=aH Tryz.prog 3 [vF .u8 a,vF .u8 b,.int .u8 c,vU d,vT e] (vB r)∧aa0 a b c d e r
def afi(a b:Bs)(c d:Int)(e:Bs)(r:Bool):Prop:=aH Tryz.prog 3 [vF .u8 a,vF .u8 b,.int .u8 c,vU d,vT e] (vB r)∧aa1 a b c d e r
def lu(r:Bool):Prop:=aH Tryz.prog 10 [] (vB r)∧ad3  r
def aih:bq Tryz.prog:=.mk 10 λ
 | []=>let r:=pick lu;some (can lu,vB r)
 |_=>none
def fL(a:Bs)(b:Int)(c:List PMs)(d:List PEn)(e:Bs)(f:Int)(r:yo):Prop:=bv Tryz.prog 13 [.ptr 0 0,.agg [vF .pms c,vF .pen d],vT e,vI f] [[vF .u8 a,vI b]] (.agg [vF .pfd r.1,vT r.2.1]) [[vF .u8 r.2.2.1,vI r.2.2.2]]∧aki a b c d e f r
def aqK:db Tryz.prog:=.mk 13 λ
 | [.ptr 0 0,.agg [.sl .pms (.may _) a,.sl .pen (.may _) b],.str e,.int .i64 f],[[.sl .u8 (.may false) c,.int .i64 d]]=>pk (fL c d a b e f) λr=>(.agg [vF .pfd r.1,vT r.2.1],[[vF .u8 r.2.2.1,vI r.2.2.2]])
 |_,_=>none
def gU(a:Bs)(b:Int)(c:List PMs)(d:List PEn)(e:Bs)(f:Int)(r:yo):Prop:=uW Tryz.prog 13 [.ptr 0 0,.agg [vF .pms c,vF .pen d],vT e,vI f] [[vF .u8 a,vI b]] .pfd r.1 [vT r.2.1] [[vF .u8 r.2.2.1,vI r.2.2.2]]∧akh a b c d e f r
def aqL:aqI Tryz.prog:=.mk 13 λ
 | [.ptr 0 0,.agg [.sl .pms (.may _) a,.sl .pen (.may _) b],.str e,.int .i64 f],[[.sl .u8 (.may false) c,.int .i64 d]]=>pk (gU c d a b e f) λr=>(⟨.pfd,r.1⟩,[.str r.2.1],[[.sl .u8 (.may false) r.2.2.1,.int .i64 r.2.2.2]])
 |_,_=>none
def as7(a:Bs)(r:azA):Prop:=aH Tryz.prog 39 [vT a] (.tup [.agg [vF .pms r.1,vF .pen r.2.1],vB r.2.2])∧ay6 a r
def aGk:bq Tryz.prog:=.mk 39 λ
 | [.str a]=>pk (as7 a) λr=>.tup [.agg [vF .pms r.1,vF .pen r.2.1],vB r.2.2]
 |_=>none
def cg(a:List PMs)(b:List PEn)(e:PMs)(f:PFl)(c:List (Int×List aC))(d:Bs)(g:List aC)(r:uM):Prop:=uW Tryz.prog 46 [.agg [vF .pms a,vF .pen b],.agg (enc .pms e),.agg (enc .pfl f),.agg [vF .pfd c,vT d],vF .pval g] [] .pfd r.1 [vT r.2] []∧afg a b e f c d g r
def ay7:aqI Tryz.prog:=.mk 46 λ
 | [.agg [.sl .pms (.may _) a,.sl .pen (.may _) b],.agg [.str c,.sl .pfl (.may _) d,.sl .str (.may _) e],.agg [.int .i64 f,.str g,.int .i64 h,.int .i64 i,.str j,.int .i64 k,.bool l,.int .i64 m],.agg [.sl .pfd (.may _) n,.str o],.sl .pval (.may _) p],[]=>pk (cg a b (⟨c,d,e⟩) (⟨f,g,h,i,j,k,l,m⟩) n o p) λr=>(⟨.pfd,r.1⟩,[.str r.2],[])
 |_,_=>none
def eZ(a:List (Int×List aC))(b:Bs)(c:Int)(d:List aC)(r:uM):Prop:=uW Tryz.prog 83 [.agg [vF .pfd a,vT b],vI c,vF .pval d] [] .pfd r.1 [vT r.2] []∧ag6 a b c d r
def aBN:aqI Tryz.prog:=.mk 83 λ
 | [.agg [.sl .pfd (.may _) a,.str b],.int .i64 c,.sl .pval (.may _) d],[]=>pk (eZ a b c d) λr=>(⟨.pfd,r.1⟩,[.str r.2],[])
 |_,_=>none
def awR:aG:=tb_ [] [] [] [aeu,aGk]
def auy:IR:=Rs [Mb 0 false] (Rs [Ca 8 39 [kS [115,121,110,116,97,120,61,39,112,114,111,116,111,51,39,59,32,109,101,115,115,97,103,101,32,65,32,123,32,105,110,116,51,50,32,98,32,61,32,49,59,32,125]],Mv 7 8,Ex_ 9 0 7,Ex_ 10 1 7,Pp (.alr 1 2),Fz 1 2 9,Mv 2 10] (Rs [Ld 12 2 true 1,Pp (.bld 13 [vU 0,vS,fu .pfd true,vS] [(0,1,kU 5)]),Pp (.bsl 14 .pval [13] true),Pp (.bld 15 [vI 0,fu .pval true] [(0,1,kI 1),(1,1,14)]),Pp (.bsl 16 .pfd [15] true),Pp (.bld 17 [fu .pfd true,vS] [(0,1,16),(1,1,kS [16,1])]),Ca 18 14 [12,kS [65],17],Mv 11 18,Ex_ 19 0 11,Ex_ 20 1 11,Mv 3 19,Mv 4 20] (Rs [Ld 22 2 true 1,Pp (.bld 23 [fu .pfd true,vS] []),Ca 24 14 [22,kS [66],23],Mv 21 24,Ex_ 25 0 21,Ex_ 26 1 21,Mv 5 25,Mv 6 26] (Rs [Mv 27 4,Bc 28 .eql 27 0,Mv 29 28,Gt 29 (.mov 30 3),Gt 29 (.b2s 31 30),Gt 29 (.bin 32 .eql 31 (kS [8,5,16,1])),Pa 33 29 32,Mv 34 33,Gt 34 (.mov 35 6),Gt 34 (.bin 36 .eql 35 (kI 1)),Pa 37 34 36,Mv 0 37] .ret))))
def auz:List RV:=[.t 0]
theorem auA:FnC Tryz.prog awR [] 0 10 Tryz.f10 auy auz:=fnC Tryz.func10
def ag8(N:Nat):Ro:=aA (as7 [115,121,110,116,97,120,61,39,112,114,111,116,111,51,39,59,32,109,101,115,115,97,103,101,32,65,32,123,32,105,110,116,51,50,32,98,32,61,32,49,59,32,125]) (λa=>aA (lC a.1 a.2.1 [65] ([⟨1,([(.mk 5 [] ([]:List (Int×List aC)) [])]:List aC)⟩]:List (Int×List aC)) [16,1]) (λb=>aA (lC a.1 a.2.1 [66] ([]:List (Int×List aC)) []) (λc=>cond (b.2==0) (let d:=decide (b.1=[8,5,16,1]);cond d (some (vB (c.2==1),[])) (some (vB false,[]))) (some (vB false,[])))))
def ag9(N:Nat):Ro:=ag8 N
theorem ash(N:Nat)(h:Tot (ag9 N) (λz=>∃a rest,z.1.dimR=vB a∧z.2=rest∧ad3  (a))):∃r,lu  r:=auA.finP (N:=N) (by kernel_rfl) h λ_ ⟨a,_,e,_,q⟩=>⟨(a),e,q⟩
theorem aJP:nL scW:=by refine⟨by decide,?_⟩;intro m b;simp only[scW,Ay] at b;subst b;refine⟨by decide,?_,by decide,by decide⟩;intro f a;simp only[Ay] at a;subst a;exact⟨by decide,by decide,by decide,by decide,by decide,by decide,by decide,by decide,λh=>by simp at h⟩
theorem aOl:sR scW [65] [(1,[.mk 5 [] [] []])] [16,1]=([8,5,16,1],0):=by
 have b:dU scW [65]=(⟨[65],[⟨1,[98],0,3,[],0,false,0⟩],[]⟩,true):=rfl;have c:cK ⟨[65],[⟨1,[98],0,3,[],0,false,0⟩],[]⟩ 1=(⟨1,[98],0,3,[],0,false,0⟩,true):=rfl;have d:rz ⟨[65],[⟨1,[98],0,3,[],0,false,0⟩],[]⟩ [16,1]=true:=by unfold rz;rw[show fo [16,1]=([⟨2,0,1,[],[16,1]⟩],0) by decide];decide
 have i:ei 3=0:=by rw[uk];decide
 have e:toR 3 5=5:=by rw[aq3];decide
 have a:afq 3 5=true:=by rw[aom];decide
 have h:uL scW [65] [(1,[.mk 5 [] [] []])] [16,1]=true:=by simp[uL,jg,aym,qj,pf,b,c,d,a,mo,ry,aC.n,aC.s]
 have f:aaH scW [65] [(1,[.mk 5 [] [] []])] [16,1]=[8,5,16,1]:=by simp only[aaH,li,at2,mt,pg,b,c,i,e];decide
 unfold sR;rw[h,f,b];rfl
theorem aOm:sR scW [66] [] []=([],1):=by unfold sR;rw[if_pos (by decide)]
theorem azN:∃r,lu r:=by apply ash 1;unfold ag9 ag8;refine aL (r0:=(scW,[],true)) ⟨(scW,[],true),aOI,rfl⟩ (λ_ h=>h.2) ?_;refine aL (ac5 scW [] [65] _ _ aJP (by decide) (by decide)) (λ_ h=>h.2) ?_;refine aL (ac5 scW [] [66] _ _ aJP (by decide) (by decide)) (λ_ h=>h.2) ?_;rw[aOl,aOm];exact aB (λ_=>aB (λ_=>aE ⟨_,_,rfl,rfl,rfl⟩) (λh=>by simp at h)) (λh=>by simp at h)
def aeD:aG:=tb_ [] [] [] []
def aha:IR:=Sq (Rs [Mv 10 7,Fa 11 0 3,Lo 12 11,Ll 13 12,Bi 14 .lss 10 13,Mv 15 14,Gt 15 (.fad 16 0 3),Gt 15 (.ld 17 1 false false 16),Gt 15 (.mov 18 7),Gt 15 (.ixa 19 .pfd 17 18),Gt 15 (.fad 20 0 19),Gt 15 (.ld 21 1 false false 20),Gt 15 (.mov 22 1),Gt 15 (.bin 23 .lss 21 22),Pa 24 15 23] (Cn 24 .skip (.exit 0))) (.block 1 (Rg [Mv 25 7,Bc 26 .add 25 1,Mv 7 26]))
def afj:IR:=Rs [Fa 27 0 3,Lo 28 27,Mv 29 7,Pp (.subl 30 .pfd 28 (some 29) none),Mv 8 30] (Sq (Rs [Mv 31 7,Fa 32 0 3,Lo 33 32,Ll 34 33,Bi 35 .lss 31 34,Mv 36 35,Gt 36 (.fad 37 0 3),Gt 36 (.ld 38 1 false false 37),Gt 36 (.mov 39 7),Gt 36 (.ixa 40 .pfd 38 39),Gt 36 (.fad 41 0 40),Gt 36 (.ld 42 1 false false 41),Gt 36 (.mov 43 1),Gt 36 (.bin 44 .eql 42 43),Pa 45 36 44] (Cn 45 (Rg [Fa 46 0 3,Lo 47 46,Mv 48 7,Bc 49 .add 48 1,Pp (.subl 50 .pfd 47 (some 49) none),Mv 8 50]) .skip)) (Rs [Pp (.blu 51 .pfd),Fa 52 0 3,Lo 53 52,Mv 54 7,Pp (.subl 55 .pfd 53 none (some 54)),Pp (.apu 56 .pfd (.tk 51) 55),Pp (.mov 9 (.tk 56))] (Sq (Rs [Mv 57 2,Ll 58 57,Bc 59 .gtr 58 0] (Cn 59 (Rg [Pp (.mov 60 (.tk 9)),Mv 61 1,Mv 62 2,Pp (.bld 63 [vI 0,fu .pval true] [(0,1,61),(1,1,62)]),Pp (.bsl 64 .pfd [63] true),Pp (.apu 65 .pfd (.tk 60) 64),Pp (.mov 9 (.tk 65))]) .skip)) (Rs [Pp (.mov 66 (.tk 9)),Mv 67 8,Pp (.apu 68 .pfd (.tk 66) 67),Fa 69 0 3,Sk 1 69 68] (Sq (.gh (.opn (.cell 0 0)) (Rg [Pp (.ld 70 2 true false 3),Sv 2 6 70])) .ret)))))
def ay8:IR:=Rs [Pp (.box 3 0),Pp (.new 6 [nl .pfd,vS])] (Rs [Mi 7 0] (Sq (.block 0 (.loop [1,2,3,6,7,1000000] 2 aha)) afj))
theorem ay9:FnC Tryz.prog aeD [] 0 83 Tryz.f83 ay8 qu:=fnC Tryz.func83
def awS(R:TR)(a:TS):TE:=(bo a [1,2,3,6,7,1000000] 2 (aQ 0 (kseq (R afj) (fin qu))))
def rP:fR->St:=λ(a,b,c,d,e,f,g)=>{env:=(.undef::vI a::vF .pval b::.ptr 0 0::.undef::.undef::.ptr 1 0::vI c::(U 63 [])),hp:=[some [vF .pfd d,vT e],some [vO .pfd f,vT g]]}
def aa2(N:Nat):TS->TS:=λa s=>run aeD N aha (awS (run aeD N) a) s
def t8(N:Nat)(p:fR->Ro):fR->Ro:=λ(f,d,b,a,h,y,z)=>let J:=(↑(Aa a):Int);let o:=λC B=>(some (.agg [.sw .pfd 2 C,vT h],[some [.sw .pfd 2 (Aa B),vT h],some [.sw .pfd 2 C,vT h],some [.rw .pfd B],none]):Ro);cond (decide (b<J)) (chk (ixl b a) (let x2:=(Af a (Ad b) (aI .pfd));cond (decide (x2.1<f)) (let x3:=(Ab .i64 (b+1));p (f,d,x3,a,h,y,z)) (chk (decide (0<=b)&&decide (b<=(↑(Aa a):Int))) (let g:=(An (Ad b) (Ao (Aa a) a));let P:=(↑(Aa a):Int);cond (decide (b<P)) (chk (ixl b a) (let W:=(Af a (Ad b) (aI .pfd));cond (W.1==f) (let A:=(Ab .i64 (b+1));chk (decide (0<=A)&&decide (A<=(↑(Aa a):Int))) (let w:=(An (Ad A) (Ao (Aa a) a));chk (decide (0<=b)&&decide (b<=(↑(Aa a):Int))) (let F:=(An 0 (Ao (Ad b) a));chk (decide ((Aa ([]:List (Int×List aC))+Aa F)*32<=140737488355328)) (let i:=(([]:List (Int×List aC))++F);let ag:=(↑(Aa d):Int);cond (decide (0<ag)) (chk (decide ((Aa i+Aa ([⟨f,d⟩]:List (Int×List aC)))*32<=140737488355328)) (let q:=(i++([⟨f,d⟩]:List (Int×List aC)));chk (decide ((Aa q+Aa w)*32<=140737488355328)) (chk (decide (0<Aa (q++w))) (let ah:=(Aa (q++w));o ah (q++w))))) (chk (decide ((Aa i+Aa w)*32<=140737488355328)) (chk (decide (0<Aa (i++w))) (let ai:=(Aa (i++w));o ai (i++w)))))))) (chk (decide (0<=b)&&decide (b<=(↑(Aa a):Int))) (let E:=(An 0 (Ao (Ad b) a));chk (decide ((Aa ([]:List (Int×List aC))+Aa E)*32<=140737488355328)) (let j:=(([]:List (Int×List aC))++E);let aj:=(↑(Aa d):Int);cond (decide (0<aj)) (chk (decide ((Aa j+Aa ([⟨f,d⟩]:List (Int×List aC)))*32<=140737488355328)) (let r:=(j++([⟨f,d⟩]:List (Int×List aC)));chk (decide ((Aa r+Aa g)*32<=140737488355328)) (chk (decide (0<Aa (r++g))) (let Q:=(Aa (r++g));o Q (r++g))))) (chk (decide ((Aa j+Aa g)*32<=140737488355328)) (chk (decide (0<Aa (j++g))) (let X:=(Aa (j++g));o X (j++g))))))))) (chk (decide (0<=b)&&decide (b<=(↑(Aa a):Int))) (let I:=(An 0 (Ao (Ad b) a));chk (decide ((Aa ([]:List (Int×List aC))+Aa I)*32<=140737488355328)) (let k:=(([]:List (Int×List aC))++I);let am:=(↑(Aa d):Int);cond (decide (0<am)) (chk (decide ((Aa k+Aa ([⟨f,d⟩]:List (Int×List aC)))*32<=140737488355328)) (let s:=(k++([⟨f,d⟩]:List (Int×List aC)));chk (decide ((Aa s+Aa g)*32<=140737488355328)) (chk (decide (0<Aa (s++g))) (let an:=(Aa (s++g));o an (s++g))))) (chk (decide ((Aa k+Aa g)*32<=140737488355328)) (chk (decide (0<Aa (k++g))) (let Y:=(Aa (k++g));o Y (k++g))))))))))) (chk (decide (0<=b)&&decide (b<=(↑(Aa a):Int))) (let c:=(An (Ad b) (Ao (Aa a) a));let ap:=(↑(Aa a):Int);cond (decide (b<ap)) (chk (ixl b a) (let S:=(Af a (Ad b) (aI .pfd));cond (S.1==f) (let x:=(Ab .i64 (b+1));chk (decide (0<=x)&&decide (x<=(↑(Aa a):Int))) (let e:=(An (Ad x) (Ao (Aa a) a));chk (decide (0<=b)&&decide (b<=(↑(Aa a):Int))) (let D:=(An 0 (Ao (Ad b) a));chk (decide ((Aa ([]:List (Int×List aC))+Aa D)*32<=140737488355328)) (let l:=(([]:List (Int×List aC))++D);let O:=(↑(Aa d):Int);cond (decide (0<O)) (chk (decide ((Aa l+Aa ([⟨f,d⟩]:List (Int×List aC)))*32<=140737488355328)) (let t:=(l++([⟨f,d⟩]:List (Int×List aC)));chk (decide ((Aa t+Aa e)*32<=140737488355328)) (chk (decide (0<Aa (t++e))) (let au:=(Aa (t++e));o au (t++e))))) (chk (decide ((Aa l+Aa e)*32<=140737488355328)) (chk (decide (0<Aa (l++e))) (let L:=(Aa (l++e));o L (l++e)))))))) (chk (decide (0<=b)&&decide (b<=(↑(Aa a):Int))) (let H:=(An 0 (Ao (Ad b) a));chk (decide ((Aa ([]:List (Int×List aC))+Aa H)*32<=140737488355328)) (let m:=(([]:List (Int×List aC))++H);let aw:=(↑(Aa d):Int);cond (decide (0<aw)) (chk (decide ((Aa m+Aa ([⟨f,d⟩]:List (Int×List aC)))*32<=140737488355328)) (let u:=(m++([⟨f,d⟩]:List (Int×List aC)));chk (decide ((Aa u+Aa c)*32<=140737488355328)) (chk (decide (0<Aa (u++c))) (let M:=(Aa (u++c));o M (u++c))))) (chk (decide ((Aa m+Aa c)*32<=140737488355328)) (chk (decide (0<Aa (m++c))) (let R:=(Aa (m++c));o R (m++c))))))))) (chk (decide (0<=b)&&decide (b<=(↑(Aa a):Int))) (let G:=(An 0 (Ao (Ad b) a));chk (decide ((Aa ([]:List (Int×List aC))+Aa G)*32<=140737488355328)) (let n:=(([]:List (Int×List aC))++G);let Z:=(↑(Aa d):Int);cond (decide (0<Z)) (chk (decide ((Aa n+Aa ([⟨f,d⟩]:List (Int×List aC)))*32<=140737488355328)) (let v:=(n++([⟨f,d⟩]:List (Int×List aC)));chk (decide ((Aa v+Aa c)*32<=140737488355328)) (chk (decide (0<Aa (v++c))) (let a0:=(Aa (v++c));o a0 (v++c))))) (chk (decide ((Aa n+Aa c)*32<=140737488355328)) (chk (decide (0<Aa (n++c))) (let a1:=(Aa (n++c));o a1 (n++c)))))))))
theorem auB(N:Nat):LB (aa2 N) rP (t8 N):=λ_ _=>by kernel_rfl
def qE(N:Nat)(a:List (Int×List aC))(b:Bs)(c:Int)(d:List aC)(e:fR->Ro):Ro:=e (c,d,0,a,b,([]:List (Int×List aC)),[])
def akj(N:Nat)(a:List (Int×List aC))(b:Bs)(c:Int)(d:List aC):Ro:=qE N a b c d (λz=>aO N (t8 N) z)
theorem awT(N:Nat)(a:List (Int×List aC))(c:Bs)(d:Int)(j:List aC)(h:Tot (akj N a c d j) (λz=>∃k l m,z.1=.agg (.sw .pfd m (Aa k)::[vT l])∧0<=m∧z.2[m]? =some (some [.rw .pfd k])∧(∃rest,z.2=rest)∧ag6 a c d j (k,l))):∃r,eZ a c d j r:=FnC.finA (css:=[]) (css':=λ_=>[]) ay9 (n:=N) ((bD _ (by kernel_rfl) rfl (λC=>qE N a c d j (λz=>C 1000000 (rP z))) (λC=>by kernel_rfl)).trans (AB (b:=qE N a c d j (λz=>aZ N (aa2 N) (rP z))) (by kernel_rfl) (congrArg (qE N a c d j) (funext λz=>aU (rP) (aa2 N) (t8 N) (auB N) N z)))) h λ_ ⟨k,l,id,e,f,g,i,q⟩=>⟨(k,l),id,e,f,g,i,q⟩
def acJ:aG:=ac6 (ag7 (P:=Tryz.prog) [aBN]) (tb_ [] [] [] [aFK,asV,aA3,aA4])
def afk:IR:=Sq (Rs [Mv 40 14,Bc 41 .add 40 1,Mv 42 4,Ll 43 42,Bi 44 .lss 41 43] (Cn 44 .skip (.exit 1))) (Sq (.block 2 (.reg [Fa 47 5 7,Lq 48 47,Mv 49 13,Mv 50 4,Mv 51 14,Ix 52 .pval 50 51,Ld 53 4 true 52,Mv 54 4,Mv 55 14,Bc 56 .add 55 1,Ix 57 .pval 54 56,Ld 58 4 true 57,Ca 59 44 [48,49,53,58],Mv 13 59] [[],[0],[],[],[],[3,4],[3,4,5],[],[],[8],[7,8,9],rg 7 10,rg 0 11,rg 0 12])) (Rg [Mv 45 14,Bc 46 .add 45 2,Mv 14 46]))
def afl:IR:=Rg [Mv 60 13,Mv 4 60]
def ad4:IR:=Rs [Pp (.ld 89 2 true false 8),Fa 90 0 7,Lq 91 90,Mv 92 4,Ca 93 83 [89,91,92],Sv 2 10 93] .ret
def awU:IR:=Rs [Bx 5 0,Bx 6 1,Bx 7 2,Pp (.box 8 3),Pp (.new 10 [nl .pfd,vS])] (Rs [Ld 15 3 true 6,Pp (.ld 16 2 true false 8),Ld 17 8 true 7,Ca 18 81 [15,16,17],Sv 2 8 18] (Rs [Pp (.ld 20 2 true false 8),Fa 21 0 7,Lq 22 21,Ca 23 21 [20,22],Mv 19 23,Ex_ 24 0 19,Ex_ 25 1 19,Mv 11 24,Mv 12 25] (Sq (.block 0 (Rs [Fa 27 2 7,Lq 28 27,Bc 29 .eql 28 2,Mv 26 29] (Cn 26 (Rg [Pp (.bsl 30 .pval [] false),Mv 31 11,Pp (.app 32 .pval (.tk 30) 31),Mv 33 4,Pp (.app 34 .pval (.tk 32) 33),Mv 4 34]) (Rs [Fa 36 2 7,Lq 37 36,Bc 38 .eql 37 3,Mv 35 38] (Cn 35 (Rs [Mv 39 11,Mv 13 39] (Sq (Rs [Mi 14 0] (.block 1 (.loop [4,7,8,10,13,14,1000000] 2 afk))) afl)) (Rs [Fa 62 3 7,Lq 63 62,Bc 64 .eql 63 16,Mv 65 64,Gt 65 (.mov 66 11),Gt 65 (.lenl 67 66),Gt 65 (.bin 68 .gtr 67 (kI 0)),Pa 69 65 68,Mv 70 69,Gt 70 (.mov 71 4),Gt 70 (.lenl 72 71),Gt 70 (.bin 73 .gtr 72 (kI 0)),Pa 74 70 73,Mv 61 74] (Cn 61 (.reg [Ld 75 2 true 5,Fa 76 4 7,Lq 77 76,Mv 78 11,Pp (.ixa 79 .pval 78 (kI 0)),Fa 80 2 79,Fo [] [] (.ld 81 2 true false 80),Mv 82 4,Pp (.ixa 83 .pval 82 (kI 0)),Fa 84 2 83,Fo [] [] (.ld 85 2 true false 84),Ca 86 82 [75,77,81,85],Pp (.bld 87 [vU 0,vS,fu .pfd true,vS] [(2,2,86)]),Pp (.bsl 88 .pval [87] true),Mv 4 88] [[],[],[1],[],[3],[3,4],[3,4,5],[],[7],[7,8],[7,8,9],rg 0 10,rg 0 11,rg 0 12,rg 0 13]) .skip))))))) ad4)))
theorem awV:FnC Tryz.prog acJ [83] 0 46 Tryz.f46 awU amE:=aK8 Tryz.func46
def auC(R:TR)(a:TS):TE:=(bo a [4,7,8,10,13,14,1000000] 2 (aQ 1 (kseq (R afl) (aQ 0 (kseq (R ad4) (fin amE))))))
def pP:qw->St:=λ(a,b,c,d,e,f,g,h)=>{env:=(U 4 (vF .pval a::.undef::.undef::.ea (enc .pfl b)::.ptr 0 0::.undef::.ptr 1 0::.undef::.undef::vF .pval c::vI d::(U 79 []))),hp:=[some [vF .pfd e,vT f],some [vO .pfd g,vT h]]}
def yy(N:Nat):TS->TS:=λa s=>run acJ N afk (auC (run acJ N) a) s
def rQ(N:Nat)(d:qw->Ro):qw->Ro:=λ(e,j,f,a,b,c,g,h)=>let l:=(Ab .i64 (a+1));let m:=(↑(Aa e):Int);cond (decide (l<m)) (chk (ixl a e) (let n:=(Af e (Ad a) (aI .pval));let k:=(Ab .i64 (a+1));chk (ixl k e) (let o:=(Af e (Ad k) (aI .pval));aA (pi j.key f (reP n) (reP o)) (λ(p:List aC)=>let q:=(Ab .i64 (a+2));d (e,j,p,q,b,c,g,h))))) (aA (eZ b c j.num f) (λi=>some (.agg [.sw .pfd 2 (Aa i.1),vT i.2],[some [vF .pfd b,vT c],some [.sw .pfd 2 (Aa i.1),vT i.2],some [.rw .pfd i.1],none])))
theorem asi(N:Nat):LB (yy N) pP (rQ N):=λ_ _=>by kernel_rfl
def oQ(N:Nat)(e:List PMs)(f:List PEn)(u:PMs)(b:PFl)(g:List (Int×List aC))(h:Bs)(c:List aC)(v:qw->Ro):Ro:=let i:=λm n w x=>(some (.agg [.sw .pfd 2 (Aa m),vT n],[some [vF .pfd w,vT x],some [.sw .pfd 2 (Aa m),vT n],some [.rw .pfd m],none]):Ro);aA (sC u g h b) (λa=>aA (wY a.1 a.2 b.num) (λd=>cond (b.label==2) (chk (decide ((Aa ([]:List aC)+Aa d.1)*64<=140737488355328)) (let o:=([]++d.1);chk (decide ((Aa o+Aa c)*64<=140737488355328)) (aA (eZ a.1 a.2 b.num (o++c)) (λp=>i p.1 p.2 a.1 a.2)))) (cond (b.label==3) (v (c,b,d.1,0,a.1,a.2,([]:List (Int×List aC)),[])) (cond (b.kind==16) (let y:=(↑(Aa d.1):Int);cond (decide (0<y)) (let z:=(↑(Aa c):Int);cond (decide (0<z)) (chk (decide ((0:Int)<↑(Aa d.1))) (let j:=(Af d.1 (Ad 0) (aI .pval));chk (decide ((0:Int)<↑(Aa c))) (let k:=(Af c (Ad 0) (aI .pval));aA (amv e f b.typ j.fs j.rest k.fs k.rest) (λq=>aA (eZ a.1 a.2 b.num ([(.mk 0 [] q.1 q.2)]:List aC)) (λr=>i r.1 r.2 a.1 a.2))))) (aA (eZ a.1 a.2 b.num c) (λs=>i s.1 s.2 a.1 a.2))) (aA (eZ a.1 a.2 b.num c) (λt=>i t.1 t.2 a.1 a.2))) (aA (eZ a.1 a.2 b.num c) (λl=>i l.1 l.2 a.1 a.2))))))
def aii(N:Nat)(a:List PMs)(b:List PEn)(e:PMs)(f:PFl)(c:List (Int×List aC))(d:Bs)(g:List aC):Ro:=oQ N a b e f c d g (λz=>aO N (rQ N) z)
theorem auD(N:Nat)(a:List PMs)(c:List PEn)(k:PMs)(l:PFl)(d:List (Int×List aC))(j:Bs)(m:List aC)(h:Tot (aii N a c k l d j m) (λz=>∃o p t,z.1=.agg (.sw .pfd t (Aa o)::[vT p])∧0<=t∧z.2[t]? =some (some [.rw .pfd o])∧(∃rest,z.2=rest)∧afg a c k l d j m (o,p))):∃r,cg a c k l d j m r:=FnC.finA (css:=[]) (css':=λ_=>[]) awV (n:=N) ((bD _ (by kernel_rfl) rfl (λC=>oQ N a c k l d j m (λz=>C 1000000 (pP z))) (λC=>by kernel_rfl)).trans (AB (b:=oQ N a c k l d j m (λz=>aZ N (yy N) (pP z))) (by kernel_rfl) (congrArg (oQ N a c k l d j m) (funext λz=>aU (pP) (yy N) (rQ N) (asi N) N z)))) h λ_ ⟨o,p,id,e,f,g,i,q⟩=>⟨(o,p),id,e,f,g,i,q⟩
def cF:aG:=ac6 (ag7 (P:=Tryz.prog) [ay7]) (tb_ [] [arI,gp,at5] [] [akO,vf,asV])
def zm:IR:=Sq (Rs [Mv 58 16,Mv 59 14,Bi 60 .lss 58 59] (Cn 60 .skip (.exit 2))) (Sq (.block 3 (Rs [Fa 63 2 13,Lq 64 63,Bc 65 .eql 64 3] (Cn 65 (.reg [Fa 66 5 13,Lq 67 66,Mv 68 15,Mv 69 0,Ld 70 2 true 5,Fa 71 5 13,Lq 72 71,Mv 73 3,Fo [] [0] (.call 74 45 [69,70,72,kS [],73]),Mv 75 0,Ld 76 2 true 5,Fa 77 3 13,Lq 78 77,Fa 79 4 13,Lq 80 79,Mv 81 3,Fo [] [0] (.call 82 45 [75,76,78,80,81]),Ca 83 44 [67,68,74,82],Pp (.mov 15 (.tk 83))] [[],[0],[],[],[],[],[5],[],rg 3 7,[],[],[],[11],[],[13],[],rg 3 15,rg 0 16,rg 0 17]) (Rg [Pp (.mov 84 (.tk 15)),Mv 85 0,Ld 86 2 true 5,Fa 87 3 13,Lq 88 87,Fa 89 4 13,Lq 90 89,Mv 91 3,Ca 92 45 [85,86,88,90,91],Pp (.bsl 93 .pval [92] true),Pp (.app 94 .pval (.tk 84) 93),Pp (.mov 15 (.tk 94))])))) (Rg [Mv 61 16,Bc 62 .add 61 1,Mv 16 62]))
def xc:IR:=Sq (Rs [Mv 95 15,Ll 96 95,Bc 97 .eql 96 0,Mv 98 97,Gf 98 (.fad 99 2 13),Gf 98 (.lde 100 1 false 99),Gf 98 (.bin 101 .eql 100 (kI 0)),Gf 98 (.mov 102 101),Gt 102 (.fad 103 7 13),Gt 102 (.lde 104 1 false 103),Gt 102 (.bin 105 .eql 104 (kI 0)),Gf 98 (.pick 106 102 105 (kB false)),Gf 98 (.mov 107 106),Gt 107 (.fad 108 3 13),Gt 107 (.lde 109 1 false 108),Gt 107 (.bin 110 .neq 109 (kI 16)),Gf 98 (.pick 111 107 110 (kB false)),Gf 98 (.mov 112 111),Gt 112 (.mov 113 15),Gt 112 (.ixa 114 .pval 113 (kI 0)),Gt 112 (.fad 115 0 114),Gt 112 (.ld 116 1 false false 115),Gt 112 (.bin 117 .eql 116 (kU 0)),Gf 98 (.pick 118 112 117 (kB false)),Gf 98 (.mov 119 118),Gt 119 (.mov 120 15),Gt 119 (.ixa 121 .pval 120 (kI 0)),Gt 119 (.fad 122 1 121),Gt 119 (.ld 123 1 false false 122),Gt 119 (.bin 124 .eql 123 (kS [])),Gf 98 (.pick 125 119 124 (kB false)),Po 126 98 125] (Cn 126 (.exit 1) .skip)) (.gh (.fz (.cell 2 0)) (.ghp (.cls (.cell 2 0)) (Rg [Ld 127 2 true 5,Ld 128 3 true 10,Ld 129 8 true 13,Pp (.ld 130 2 true false 9),Mv 131 15,Ca 132 46 [127,128,129,130,131],Sv 2 9 132])))
def xd:IR:=Rg [Mv 38 12,Bc 39 .add 38 1,Mv 12 39]
def ko:IR:=Sq (Rs [Mv 28 12,Fa 29 1 10,Lq 30 29,Ll 31 30,Bi 32 .lss 28 31,Mv 33 32,Gt 33 (.mov 34 0),Gt 33 (.call 35 42 [34]),Gt 33 (.un 36 .not 35),Pa 37 33 36] (Cn 37 .skip (.exit 0))) (Sq (.block 1 (Rs [Fa 40 1 10,Lq 41 40,Mv 42 12,Ix 43 .pfl 41 42,Ld 44 8 true 43,Pp (.alr 13 8),Fz 13 8 44] (Sq (Rs [Mv 45 0,Ca 46 43 [45,kI 3],Bc 47 .eql 46 0] (Cn 47 (.exit 1) .skip)) (Rs [Mi 14 1] (Sq (Rs [Fa 48 2 13,Lq 49 48,Bc 50 .eql 49 2,Mv 51 50,Gf 51 (.fad 52 2 13),Gf 51 (.lde 53 1 false 52),Gf 51 (.bin 54 .eql 53 (kI 3)),Po 55 51 54] (Cn 55 (Rg [Mv 56 0,Ca 57 43 [56,kI 4],Mv 14 57]) .skip)) (Rs [Pp (.mov 15 (.c (nl .pval)))] (Sq (Rs [Mi 16 0] (.block 2 (.loop [0,3,5,8,9,10,12,13,14,15,16,1000000] 3 zm))) xc))))))) xd)
def xf:IR:=Sq (Rs [Mv 138 17,Bc 139 .gtr 138 0] (Cn 139 .skip (.exit 4))) (Sq (.block 5 (.reg [Fa 142 1 9,Fo [2] [] (.ld 143 1 false false 142),Mv 144 0,Fo [] [0] (.call 145 43 [144,kI 3]),Pp (.bin 146 .add (kI 900) 145),Pp (.bsl 147 (.num .i64) [kI 0,kI 1,kI 2,kI 5] true),Mv 148 0,Fo [] [0] (.call 149 43 [148,kI 4]),Ix 150 (.num .i64) 147 149,Lq 151 150,Mv 152 0,Fo [] [0] (.call 153 43 [152,kI 200]),Pp (.cvi 154 .u64 153),Pp (.bld 155 [vI 0,vI 0,vU 0,vS,vS] [(0,1,146),(1,1,151),(2,1,154),(3,1,kS [114])]),Ca 156 20 [155],Bi 157 .add 143 156,Fa 158 1 9,Fo [] [2] (.st none 1 158 157)] [[],[0],[],[2],[2,3],[],[],[2,3,6],[2,3,5,6,7],[2,3,5,6,7,8],[],[2,3,6,7,10],[2,3,6,7,10,11],rg 2 12,rg 2 13,rg 0 14,rg 0 15,rg 0 16])) (Rg [Mv 140 17,Bc 141 .sub 140 1,Mv 17 141]))
def xg:IR:=Sq (.ope (.cell 2 0) (.reg [Pp (.ld 159 2 true false (.t 9)),Pp (.st none 2 (.t 8) (.t 159))] [])) .ret
def pn:IR:=Sq (Rs [Mv 133 0,Ca 134 43 [133,kI 4],Bc 135 .eql 134 0] (Cn 135 (Rs [Mv 136 0,Ca 137 43 [136,kI 3],Mv 17 137] (.block 4 (.loop [0,8,9,17,1000002] 3 xf))) .skip)) xg
def tf:IR:=Rs [Bx 5 1,Pp (.new 8 [fu .pfd false,vS])] (Rs [Pp (.bld 18 [.ul .pfd ([]:List (Int×List aC)),vS] []),Pp (.new 9 [fu .pfd false,vS]),Sv 2 9 18] (Rs [Ld 20 2 true 5,Mv 21 2,Ca 22 41 [20,21],Mv 19 22,Ex_ 23 0 19,Ex_ 24 1 19,Pp (.alr 10 3),Fz 10 3 23,Mv 11 24] (Sq (Rs [Mv 25 3,Bc 26 .gtr 25 4] (Cn 26 (Sq (.gh (.fz (.cell 2 0)) (Rg [Pp (.ld 27 2 true false 9),Sv 2 8 27])) .ret) .skip)) (Sq (Rs [Mi 12 0] (.block 0 (.loop [0,3,5,8,9,10,12,1000001] 3 ko))) pn))))
theorem ab0:FnC Tryz.prog cF [42,43,45,46,2000042,2000043,2000045] 1 13 Tryz.f13 tf iU:=aK8 Tryz.func13
def mD(R:TR)(a:TS):TE:=(bo a [0,3,5,8,9,10,12,1000001] 3 (aQ 0 (kseq (R pn) (fin iU))))
def cA:dW->St:=λ(b,c,d,e,f,g,h,i,j,k,a)=>{env:=(.ptr 0 0::.undef::.undef::vI b::.undef::.ea [vF .pms c,vF .pen d]::.undef::.undef::.ptr 1 0::.ptr 2 0::.ea (enc .pms e)::.undef::vI f::(U 147 [])),hp:=[some [vF .u8 g,vI h],some [vF .pfd i,vT j],some [.ul .pfd k,vT a]]}
def alK(R:TR)(a b:TS):TE:=(bo b [0,3,5,8,9,10,12,13,14,15,16,1000000] 3 (aQ 2 (kseq (R xc) (aQ 1 (kseq (R xd) (mD R a))))))
def ahj:(Int×List PMs×List PEn×PMs×Int×PFl×Int×List aC×Int×Bs×Int×List (Int×List aC)×Bs×List (Int×List aC)×Bs)->St:=λ(f,g,h,i,j,k,l,m,n,o,a,b,c,d,e)=>{env:=(.ptr 0 0::.undef::.undef::vI f::.undef::.ea [vF .pms g,vF .pen h]::.undef::.undef::.ptr 1 0::.ptr 2 0::.ea (enc .pms i)::.undef::vI j::.ea (enc .pfl k)::vI l::vO .pval m::vI n::(U 143 [])),hp:=[some [vF .u8 o,vI a],some [vF .pfd b,vT c],some [.ul .pfd d,vT e]]}
def ahk:(Int×List PMs×List PEn×PMs×Int×PFl×Int×List aC×Int×Bs×Int×List (Int×List aC)×Bs×List (Int×List aC)×Bs)->St:=λ(f,g,h,i,j,k,l,m,n,o,a,b,c,d,e)=>{env:=(.ptr 0 0::.undef::.undef::vI f::.undef::.ea [vF .pms g,vF .pen h]::.undef::.undef::.ptr 1 0::.ptr 2 0::.ea (enc .pms i)::.undef::vI j::.ea (enc .pfl k)::vI l::vF .pval m::vI n::(U 143 [])),hp:=[some [vF .u8 o,vI a],some [vF .pfd b,vT c],some [.ul .pfd d,vT e]]}
def fA:gL->St
 |(Sum.inl x)=>ahj x
 |(Sum.inr x)=>ahk x
def mE(N:Nat)(a:TS):TS->TS:=λb s=>run cF N zm (alK (run cF N) a b) s
def fX(N:Nat)(p:dW->Ro)(m:gL->Ro)(x:gL):Ro:=
 match x with
 |(Sum.inl (t,b,c,h,g,a,q,f,r,i,j,k,l,d,e))=>
  let o:=λJ I H=>p (t,b,c,h,J,i,j,k,l,I,H)
  cond (decide (r<q)) (
   cond (a.label==3) (
    aA (d6 i j b c a.key [] t) (λG=>
     aA (d6 G.2.1 G.2.2 b c a.kind a.typ t) (λO=>
      aA (pi a.key f (reP G.1) (reP O.1)) (λ(P:List aC)=>
       let x4:=(Ab .i64 (r+1))
       m (Sum.inr (t,b,c,h,g,a,q,P,x4,O.2.1,O.2.2,k,l,d,e)))))) (
    aA (d6 i j b c a.kind a.typ t) (λE=>
     chk (decide ((Aa f+Aa ([(reP E.1)]:List aC))*64<=140737488355328)) (
      let x5:=(f++([(reP E.1)]:List aC))
      let Z:=(Ab .i64 (r+1))
      m (Sum.inl (t,b,c,h,g,a,q,x5,Z,E.2.1,E.2.2,k,l,d,e)))))) (
   let x7:=(↑(Aa f):Int)
   cond (x7==0) (
    let x8:=(Ab .i64 (g+1))
    o x8 d e) (
    cond (a.label==0) (
     cond (a.oneof==0) (
      cond (!(a.kind==16)) (
       chk (decide ((0:Int)<↑(Aa f))) (
        let W:=(Af f (Ad 0) (aI .pval))
        cond (W.n==0) (
         chk (decide ((0:Int)<↑(Aa f))) (
          let an:=(Af f (Ad 0) (aI .pval))
          let ao:=decide (an.s=[])
          cond ao (
           let ap:=(Ab .i64 (g+1))
           o ap d e) (
           aA (cg b c h a d e f) (λC=>
            chk (AI (Aa C.1) (Aa C.1)) (
             let Y:=(Ab .i64 (g+1))
             o Y C.1 C.2))))) (
         aA (cg b c h a d e f) (λu=>
          chk (AI (Aa u.1) (Aa u.1)) (
           let S:=(Ab .i64 (g+1))
           o S u.1 u.2))))) (
       aA (cg b c h a d e f) (λv=>
        chk (AI (Aa v.1) (Aa v.1)) (
         let au:=(Ab .i64 (g+1))
         o au v.1 v.2)))) (
      aA (cg b c h a d e f) (λw=>
       chk (AI (Aa w.1) (Aa w.1)) (
        let Q:=(Ab .i64 (g+1))
        o Q w.1 w.2)))) (
     aA (cg b c h a d e f) (λy=>
      chk (AI (Aa y.1) (Aa y.1)) (
       let aw:=(Ab .i64 (g+1))
       o aw y.1 y.2)))))
 |(Sum.inr (t,b,c,h,g,a,q,f,r,i,j,k,l,d,e))=>
  let o:=λJ I H=>p (t,b,c,h,J,i,j,k,l,I,H)
  cond (decide (r<q)) (
   cond (a.label==3) (
    aA (d6 i j b c a.key [] t) (λL=>
     aA (d6 L.2.1 L.2.2 b c a.kind a.typ t) (λM=>
      aA (pi a.key f (reP L.1) (reP M.1)) (λ(R:List aC)=>
       let X:=(Ab .i64 (r+1))
       m (Sum.inr (t,b,c,h,g,a,q,R,X,M.2.1,M.2.2,k,l,d,e)))))) (
    aA (d6 i j b c a.kind a.typ t) (λbh=>
     none))) (
   let az:=(↑(Aa f):Int)
   cond (az==0) (
    let a0:=(Ab .i64 (g+1))
    o a0 d e) (
    cond (a.label==0) (
     cond (a.oneof==0) (
      cond (!(a.kind==16)) (
       chk (decide ((0:Int)<↑(Aa f))) (
        let a1:=(Af f (Ad 0) (aI .pval))
        cond (a1.n==0) (
         chk (decide ((0:Int)<↑(Aa f))) (
          let a2:=(Af f (Ad 0) (aI .pval))
          let a3:=decide (a2.s=[])
          cond a3 (
           let a4:=(Ab .i64 (g+1))
           o a4 d e) (
           aA (cg b c h a d e f) (λz=>
            chk (AI (Aa z.1) (Aa z.1)) (
             let a5:=(Ab .i64 (g+1))
             o a5 z.1 z.2))))) (
         aA (cg b c h a d e f) (λB=>
          chk (AI (Aa B.1) (Aa B.1)) (
           let a6:=(Ab .i64 (g+1))
           o a6 B.1 B.2))))) (
       aA (cg b c h a d e f) (λF=>
        chk (AI (Aa F.1) (Aa F.1)) (
         let a7:=(Ab .i64 (g+1))
         o a7 F.1 F.2)))) (
      aA (cg b c h a d e f) (λA=>
       chk (AI (Aa A.1) (Aa A.1)) (
        let a8:=(Ab .i64 (g+1))
        o a8 A.1 A.2)))) (
     aA (cg b c h a d e f) (λD=>
      chk (AI (Aa D.1) (Aa D.1)) (
       let a9:=(Ab .i64 (g+1))
       o a9 D.1 D.2)))))
theorem akk(N:Nat)(b:TS):∀(a:TS)(x:gL),mE N b a (fA x)=fX N (λy=>b (cA y)) (λy=>a (fA y)) x:=by intro a x;rcases x with x|x<;>kernel_rfl
def alL(R:TR)(a:TS):TE:=(bo a [0,8,9,17,1000002] 3 (aQ 4 (kseq (R xg) (fin iU))))
def gV:kF->St:=λ(a,b,c,d,e,f,g)=>{env:=(.ptr 0 0::(U 7 (.ptr 1 0::.ptr 2 0::(U 7 (vI a::(U 142 [])))))),hp:=[some [vF .u8 b,vI c],some [vF .pfd d,vT e],some [.ul .pfd f,vT g]]}
def mF(N:Nat):TS->TS:=λa s=>run cF N xf (alL (run cF N) a) s
def eR(N:Nat)(e:kF->Ro):kF->Ro:=λ(i,c,d,j,k,a,b)=>cond (decide (0<i)) (aA (br c d 3) (λg=>let m:=(Ab .i64 (900+g.1));aA (br g.2.1 g.2.2 4) (λf=>chk (ixl f.1 [0,1,2,5]) (let n:=Af [0,1,2,5] (Ad f.1) (aI (.num .i64));aA (br f.2.1 f.2.2 200) (λh=>let o:=(Ab .u64 h.1);aA (q8 ⟨m,n,o,[114],[]⟩) (λ(l:Bs)=>chk (decide (Aa b+Aa l<=9223372036854775807)) (let p:=(Ab .i64 (i-1));e (p,h.2.1,h.2.2,j,k,a,(b++l))))))))) (cond (DA a) (some (.agg [vF .pfd a,vT b],[some [vF .u8 c,vI d],some [vF .pfd a,vT b],some [vO .pfd a,vT b]])) (chk (decide (0<Aa a)) (some (.agg [.sw .pfd 3 (Aa a),vT b],[some [vF .u8 c,vI d],some [.sw .pfd 3 (Aa a),vT b],some [.sw .pfd 3 (Aa a),vT b],some [.rw .pfd a],none]))))
theorem akl(N:Nat):LB (mF N) gV (eR N):=λ_ _=>by kernel_rfl
def mG(N:Nat):TS->TS:=λa s=>run cF N ko (mD (run cF N) a) s
def lv(N:Nat)(i:dW->Ro)(E:gL->Ro)(x:kF->Ro):dW->Ro:=λ(y,k,l,g,h,m,n,e,f,a,b)=>let C:=(↑(Aa g.fields):Int);let v:=λr s F B=>E (Sum.inl (y,k,l,g,h,r,s,[],0,F,B,e,f,a,b));let z:=λr s=>(some (.agg [vF .pfd a,vT b],[some [vF .u8 r,vI s],some [vF .pfd a,vT b],some [vO .pfd a,vT b]]):Ro);let A:=λr s=>(some (.agg [.sw .pfd 3 (Aa a),vT b],[some [vF .u8 r,vI s],some [.sw .pfd 3 (Aa a),vT b],some [.sw .pfd 3 (Aa a),vT b],some [.rw .pfd a],none]):Ro);cond (decide (h<C)) (aA (lO m n) (λt=>cond (!t.1) (chk (ixl h g.fields) (let u:=(Af g.fields (Ad h) (aI .pfl));aA (br t.2.1 t.2.2 3) (λj=>cond (j.1==0) (let D:=(Ab .i64 (h+1));i (y,k,l,g,D,j.2.1,j.2.2,e,f,a,b)) (cond (u.label==2) (aA (br j.2.1 j.2.2 4) (λw=>v u w.1 w.2.1 w.2.2)) (cond (u.label==3) (aA (br j.2.1 j.2.2 4) (λo=>v u o.1 o.2.1 o.2.2)) (v u 1 j.2.1 j.2.2)))))) (aA (br t.2.1 t.2.2 4) (λc=>cond (c.1==0) (aA (br c.2.1 c.2.2 3) (λp=>x (p.1,p.2.1,p.2.2,e,f,a,b))) (cond (DA a) (z c.2.1 c.2.2) (chk (decide (0<Aa a)) (A c.2.1 c.2.2))))))) (aA (br m n 4) (λd=>cond (d.1==0) (aA (br d.2.1 d.2.2 3) (λq=>x (q.1,q.2.1,q.2.2,e,f,a,b))) (cond (DA a) (z d.2.1 d.2.2) (chk (decide (0<Aa a)) (A d.2.1 d.2.2)))))
def mH(N:Nat)(a:dW->Ro)(x:dW):Ro:=lv N a (λz=>aO N (fX N a) z) (λz=>aO N (eR N) z) x
def rR(N:Nat)(a:TS):List (Nat×(TS)):=(cT cF N ko (mD (run cF N) a)++(cT cF N pn (fin iU)++[]))
theorem akm(N:Nat):∀(a:TS)(x:dW),mG N a (cA x)=mH N (λy=>a (cA y)) x:=by
 intro a x;have c:∀C:Nat->TS,c8 C cF N ko (mD (c8 C cF N) a) (cA x)=lv N (λy=>a (cA y)) (λz=>C 1000000 (fA z)) (λz=>C 1000002 (gV z)) x:=by intro C;kernel_rfl
 have h:mG N a (cA x)=lv N (λy=>a (cA y)) (λz=>aZ N (mE N a) (fA z)) (λz=>aZ N (mF N) (gV z)) x:=(eI (C:=gW (rR N a)) (dI (bX (l:=(rR N a)) (by kernel_rfl))) (ij (ew (nC (dI (jY (bX (l:=(rR N a)) (by kernel_rfl)))) rfl))) _).trans ((c _).trans (by kernel_rfl));have d:(λz=>aZ N (mE N a) (fA z))=(λz=>aO N (fX N (λy=>a (cA y))) z):=funext λz=>aU (fA) (mE N a) (fX N (λy=>a (cA y))) (akk N a) N z
 have b:(λz=>aZ N (mF N) (gV z))=(λz=>aO N (eR N) z):=funext λz=>aU (gV) (mF N) (eR N) (akl N) N z
 rw[h,d,b];rfl
def jB(N:Nat)(a:Bs)(b:Int)(c:List PMs)(d:List PEn)(f:Bs)(e:Int)(g:dW->Ro):Ro:=aA (gw c d f) (λh=>cond (decide (4<e)) (some (.agg [vF .pfd ([]:List (Int×List aC)),vT []],[some [vF .u8 a,vI b],some [vF .pfd ([]:List (Int×List aC)),vT []],some [vO .pfd ([]:List (Int×List aC)),vT []]])) (g (e,c,d,h.1,0,a,b,([]:List (Int×List aC)),[],([]:List (Int×List aC)),[])))
def tg(N:Nat)(a:Bs)(b:Int)(c:List PMs)(d:List PEn)(e:Bs)(f:Int):Ro:=jB N a b c d e f (λz=>aO N (mH N) z)
def aqM(N:Nat):List (Nat×(TS)):=cT cF N tf (fin iU)++[]
theorem aa3(N:Nat)(a:Bs)(c:Int)(d:List PMs)(e:List PEn)(f:Bs)(g:Int):callF cF N 160 iU tf [.ptr 0 0,.agg [.sl .pms (.may false) d,.sl .pen (.may false) e],.str f,.int .i64 g] [some [.sl .u8 (.may false) a,.int .i64 c]]=tg N a c d e f g:=
 ((bD (aqM N) (by kernel_rfl) rfl (λC=>jB N a c d e f g (λz=>C 1000001 (cA z))) (λC=>by kernel_rfl)).trans (AB (b:=jB N a c d e f g (λz=>aZ N (mG N) (cA z))) (by kernel_rfl) (congrArg (jB N a c d e f g) (funext λz=>aU (cA) (mG N) (mH N) (akm N) N z))))
section
variable{Q:V×List aK->Prop}
theorem aMn(n:Int)(l:List aC)(a:0<(l.length:Int)):∀fs:List (Int×List aC),ee fs n l≠[]
 | []=>by simp only[ee];rw[aq7 _ _ _ a];simp
 |x::r=>by
  simp only[ee];split;·simp
  ·rw[aq7 _ _ _ a];simp
theorem aza(n:Int)(l:List aC):∀fs:List (Int×List aC),aiQ fs->aiQ (ee fs n l)
 | [],h=>by
   simp only[ee,qh];split;·exact h
   ·rename_i c;intro x e;simp only[Ay] at e;subst e;exact c
 |x::r,h=>by
  simp only[ee];split
  ·intro y a;rcases A3.1 a with rfl|a;·exact h _ (A4 ..)
   ·exact aza n l r (λz b=>h z (A0 _ b)) y a
  ·have d:aiQ (if x.1=n then r else x::r):=by
    split
    ·exactλz b=>h z (A0 _ b)
    ·exact h
   simp only[qh];split;·exact d
   ·rename_i c;intro y a;rcases A3.1 a with rfl|a;·exact c
    ·exact d y a
theorem aJQ(f:PFl):∀(p:List PFl)(fs:List (Int×List aC)),aiQ fs->aiQ (alR p fs f)
 | [],fs,h=>h
 |x::r,fs,h=>by
  simp only[alR];refine aJQ f r _ ?_;split;·exact aza _ _ _ h
  ·exact h
theorem aK9(p:PMs)(f:PFl)(fs:List (Int×List aC))(l:List aC)(h:aiQ fs):aiQ (xR p f fs l):=by
 unfold xR jt;refine aza _ _ _ ?_;split;·exact aJQ _ _ _ h
 ·exact h
theorem aER(k:Int)(x y:aC)(l:List aC):mq k l x y≠[]:=by
 unfold mq;split
 ·split;·simp
  ·split<;>simp
 ·simp
theorem as8(k:Int):∀(l a:List aC),a≠[]->oE k a l≠[]
 |x::y::r,a,h=>by simp only[oE];exact as8 k r _ (aER k x y a)
 | [],a,h=>by simpa only[oE] using h
 | [x],a,h=>by simpa only[oE] using h
theorem aJR(k:Int)(a:List aC):∀l:List aC,l.length%2=0->l≠[]->oE k a l≠[]
 |x::y::r,_,_=>by simp only[oE];exact as8 k r _ (aER k x y a)
 | [],_,h=>absurd rfl h
 | [x],h,_=>by simp at h
theorem arb{α:Type}{l:List α}(h:l≠[]):0<(l.length:Int):=by
 cases l with
 |nil=>exact absurd rfl h
 |cons a l=>simp only[Ai];omega
def aLa(fs:List (Int×List aC))(rest:Bs)(n:Int)(l:List aC):V×List aK->Prop:=λz=>∃(b:List (Int×List aC))(c:Bs)(a:Nat),z.1=.agg (.sw .pfd a (Aa b)::[.str c])∧0<=a∧z.2[a]? =some (some [.rw .pfd b])∧(∃rest,z.2=rest)∧(b,c)=(ee fs n l,rest)
theorem aJS(fs:List (Int×List aC))(rest:Bs)(n:Int)(l:List aC)(h:fs.length<=100000000000)(m:l≠[]):∃r,eZ fs rest n l r:=by
 obtain⟨N,J⟩:∃N:Nat,N=200000000000:=⟨_,rfl⟩
 apply awT N;show Tot _ (aLa fs rest n l);unfold akj qE;have m:=arb m;refine aW (λ(y:fR)=>match y with|(F,G,k,v,E,a,b)=>(F,G,v,E,a,b)=(n,l,fs,rest,[],[])∧0<=k∧k<=fs.length∧ee fs n l=fs.take k.toNat++ee (fs.drop k.toNat) n l) (λy=>(fs.length-y.2.2.1).toNat) ?_ _ _ ⟨rfl,Av _,by omega,rfl⟩ (by dsimp only;omega);rintro B ⟨F,G,k,v,E,a,b⟩ ⟨q,p,L,d⟩ D;cases q;dsimp only at D;unfold t8;dsimp only;have w:=acx fs k.toNat;have A:(decide (0<=k)&&decide (k<=(↑(Aa fs):Int)))=true:=by simp only[Ac,decide_eq_true_eq];omega
 have z:∀(g:List (Int×List aC))(a b:aK),g=ee fs n l->Tot (chk (decide (0<Aa g)) (some ((.agg [.sw .pfd 2 (Aa g),.str rest],[a,b,some [.rw .pfd g],none]):V×List aK))) (aLa fs rest n l):=λg a b e=>aD (decide_eq_true (by rw[e];exact Int.ofNat_lt.1 (arb (aMn n l m fs)))) (aE ⟨g,rest,2,rfl,AR _,rfl,⟨_,rfl⟩,by rw[e]⟩)
 have fin:∀r:List (Int×List aC),r.length<=fs.length->ee fs n l=fs.take k.toNat++qh n l r->∀Z:Ro,Tot (chk ((decide (0<=k)&&decide (k<=(↑(Aa fs):Int)))) (chk (decide ((Aa ([]:List (Int×List aC))+Aa (An 0 (Ao (Ad k) fs)))*32<=140737488355328)) (cond (decide (0<(↑(Aa l):Int))) (chk (decide ((Aa (([]:List (Int×List aC))++(An 0 (Ao (Ad k) fs)))+Aa ([⟨n,l⟩]:List (Int×List aC)))*32<=140737488355328)) (chk (decide ((Aa ((([]:List (Int×List aC))++(An 0 (Ao (Ad k) fs)))++([⟨n,l⟩]:List (Int×List aC)))+Aa r)*32<=140737488355328)) (chk (decide (0<Aa (((([]:List (Int×List aC))++(An 0 (Ao (Ad k) fs)))++([⟨n,l⟩]:List (Int×List aC)))++r))) (some (.agg [.sw .pfd 2 (Aa (((([]:List (Int×List aC))++(An 0 (Ao (Ad k) fs)))++([⟨n,l⟩]:List (Int×List aC)))++r)),.str rest],[some [.sw .pfd 2 (Aa (((([]:List (Int×List aC))++(An 0 (Ao (Ad k) fs)))++([⟨n,l⟩]:List (Int×List aC)))++r)),.str rest],some [.sw .pfd 2 (Aa (((([]:List (Int×List aC))++(An 0 (Ao (Ad k) fs)))++([⟨n,l⟩]:List (Int×List aC)))++r)),.str rest],some [.rw .pfd (((([]:List (Int×List aC))++(An 0 (Ao (Ad k) fs)))++([⟨n,l⟩]:List (Int×List aC)))++r)],none]))))) Z))) (aLa fs rest n l):=by intro r I e Z;refine aD A (aD (decide_eq_true (by simp only[Ak,Al] at w ⊢;omega)) (aB (λm=>aD (decide_eq_true (by simp only[Ak,Ai,Al] at w ⊢;omega)) (aD (decide_eq_true (by simp only[Ak,Ai,Al] at w ⊢;omega)) (z _ _ _ ?_))) (λi=>absurd m (of_decide_eq_false i))));rw[e,aq7 _ _ _ (of_decide_eq_true m)];simp
 refine aB (λc=>?_) (λc=>?_)
 ·have j:=c;have c:=of_decide_eq_true c;have e:=ixt (l:=fs) ⟨p,c⟩;rw[dm (aI .pfd) p c] at d;have t:=sU (aI .pfd) p c;obtain⟨f,C⟩:∃f,f=Af fs k.toNat (aI .pfd):=⟨_,rfl⟩
  rw[<-C] at d t ⊢;simp only[ee] at d;refine aD e (aB (λu=>?_) (λu=>?_));·rw[cu p (by omega)];refine D _ ⟨rfl,by first|omega|(dsimp only;omega),by first|omega|(dsimp only;omega),?_⟩ (by first|omega|(dsimp only;omega));dsimp only;rw[d,if_pos (of_decide_eq_true u),t,AP];rfl
  ·have u:=of_decide_eq_false u;rw[if_neg u] at d;have H:=lE fs k.toNat;refine aD A (aB (λ_=>aD e (aB (λx=>?_) (λx=>?_))) (λi=>by rw[j] at i;simp at i));·rw[cu p (by omega)];refine aD (by simp only[Ac,decide_eq_true_eq];omega) (fin _ (lE fs _) ?_ _);rw[d,if_pos (by simpa using x),AZ]
   ·refine fin _ H ?_ _;rw[d,if_neg (by simpa using x),AZ,dm (aI .pfd) p c,<-C]
 ·have j:=c;have c:=of_decide_eq_false c;rw[dP c] at d;simp only[ee] at d;refine aD A (aB (λi=>by rw[j] at i;simp at i) (λ_=>fin _ (lE fs _) ?_ _));rw[d,AZ,dP c]
theorem aES{fs:List (Int×List aC)}{rest:Bs}{n:Int}{l:List aC}{K:List (Int×List aC)×Bs->Ro}(h:fs.length<=100000000000)(a:l≠[])(b:Tot (K (ee fs n l,rest)) Q):Tot (aA (eZ fs rest n l) K) Q:=aL (aJS fs rest n l h a) (λ_ h=>h.2) b
def aIa(p:PMs)(f:PFl)(fs:List (Int×List aC))(rest:Bs)(l:List aC):V×List aK->Prop:=λz=>∃(b:List (Int×List aC))(c:Bs)(a:Nat),z.1=.agg (.sw .pfd a (Aa b)::[.str c])∧0<=a∧z.2[a]? =some (some [.rw .pfd b])∧(∃rest,z.2=rest)∧(qi (jt p fs f) f.num=([],false)->(b,c)=(xR p f fs l,rest))
theorem aIb(L:List PMs)(es:List PEn)(p:PMs)(f:PFl)(fs:List (Int×List aC))(rest:Bs)(l:List aC)(h:fs.length<=100000000000)(hp:p.fields.length<=1000)(S:l.length<=100000000000)(E:l≠[])(M:f.label=3->l.length%2=0)(I:qi (jt p fs f) f.num=([],false)):∃r,cg L es p f fs rest l r:=by
 obtain⟨N,R⟩:∃N:Nat,N=200000000000:=⟨_,rfl⟩
 apply auD N;show Tot _ (aIa p f fs rest l);unfold aii oQ;dsimp only;have Y:=aHO p fs f;have i:∀(g:List (Int×List aC))(r:Bs)(a b:aK),(g,r)=(xR p f fs l,rest)->Tot (some ((.agg [.sw .pfd 2 (Aa g),.str r],[a,b,some [.rw .pfd g],none]):V×List aK)) (aIa p f fs rest l):=λg r a b e=>aE ⟨_,_,2,rfl,AR _,rfl,⟨_,rfl⟩,λ_=>e⟩
 have flat:∀{K:List (Int×List aC)×Bs->Ro},(f.label≠3)->(∀o,o=(xR p f fs l,rest)->Tot (K o) (aIa p f fs rest l))->Tot (aA (eZ (jt p fs f) rest f.num l) K) (aIa p f fs rest l):=λd O=>aES (by omega) E (O _ (by unfold xR;rw[if_neg d]))
 refine aKI h hp ?_;dsimp only;refine aNn (by omega) ?_;rw[I];dsimp only;refine aB (λx=>aD (by decide) (aD (decide_eq_true (by simp only[Ak,Al];omega)) ?_)) (λx=>aB (λd=>?_) (λd=>?_))
 ·have x:f.label=2:=by simpa using x
  exact flat (by omega) (λo e=>by subst e;exact i _ _ _ _ rfl)
 ·have d:f.label=3:=by simpa using d
  have A:=M d;have u:=aJR f.key [] l A E;refine aW (λ(z:qw)=>match z with|(H,F,c,k,g,D,a,b)=>(H,F,g,D,a,b)=(l,f,jt p fs f,rest,[],[])∧0<=k∧k<=l.length∧k%2=0∧(c.length:Int)<=k∧c.length%2=0∧oE f.key c (l.drop k.toNat)=oE f.key [] l) (λz=>(l.length-z.2.2.2.1).toNat) ?_ _ _ ⟨rfl,Av _,by omega,rfl,by simp,rfl,rfl⟩ (by dsimp only;omega);rintro B ⟨H,F,c,k,g,D,a,b⟩ ⟨q,G,W,X,J,v,m⟩ C;cases q;dsimp only at C;unfold rQ;dsimp only;rw[aT (k+1) (by omega),aT (k+2) (by omega),kr,kr];refine aB (λj=>?_) (λj=>?_);·have j:=of_decide_eq_true j;have t:=dm (l:=l) (aI .pval) G (by omega);have w:=dm (l:=l) (k:=k+1) (aI .pval) (by omega) j;rw[show k+1+1=k+2 by omega] at w;rw[w] at t;rw[t] at m;simp only[oE] at m;have y:=alF f.key (Af l k.toNat (aI .pval)) (Af l (k+1).toNat (aI .pval)) c;refine aD (ixt ⟨G,by omega⟩) (aD (ixt ⟨by omega,j⟩) (auq (by omega) v ?_));exact C _ ⟨rfl,by first|omega|(dsimp only;omega),by first|omega|(dsimp only;omega),by first|omega|(dsimp only;omega),by first|omega|(dsimp only;omega),y.2 v,m⟩ (by first|omega|(dsimp only;omega))
  ·have j:=of_decide_eq_false j;rw[dP (by omega)] at m;simp only[oE] at m;refine aES (by omega) (by rw[m];exact u) (i _ _ _ _ ?_);dsimp only;unfold xR;rw[if_pos d,m]
 ·have d:f.label≠3:=by simpa using d
  refine aB (λ_=>aB (λP=>by simp at P) (λ_=>?_)) (λ_=>?_)<;>exact flat d (λo e=>by subst e;exact i _ _ _ _ rfl)
theorem aJT{b:List PMs}{es:List PEn}{p:PMs}{f:PFl}{fs:List (Int×List aC)}{rest:Bs}{l:List aC}{K:List (Int×List aC)×Bs->Ro}(h:fs.length<=100000000000)(hp:p.fields.length<=1000)(i:l.length<=100000000000)(c:l≠[])(e:f.label=3->l.length%2=0)(a:qi (jt p fs f) f.num=([],false))(j:Tot (K (xR p f fs l,rest)) Q):Tot (aA (cg b es p f fs rest l) K) Q:=
 aX (aIb b es p f fs rest l h hp i c e a) λr d=>by rw[d.2 a];exact j
end
def MoQ(l:Bs)(b:Nat):V×List aK->Prop:=λz=>∃(fs:List (Int×List aC))(c:Bs)(d:Int),cM fs+c.length<=b∧aiQ fs∧cU l d∧((fs=[]∧z.1=.agg [.sl .pfd (.may false) [],.str c]∧∃rest,z.2=some [.sl .u8 (.may false) l,.int .i64 d]::rest)∨(fs≠[]∧∃a:Nat,z.1=.agg (.sw .pfd a (Aa fs)::[.str c])∧1<=a∧z.2[a]? =some (some [.rw .pfd fs])∧∃rest,z.2=some [.sl .u8 (.may false) l,.int .i64 d]::rest))
set_option maxHeartbeats 4000000 in
theorem aMo(l:Bs)(n:Int)(A:List PMs)(es:List PEn)(s:Bs)(d:Int)(d0:0<=d)(d1:d<=10)(hS:nL A)(h:cU l n)(hM:d<=4->∀(t:Bs)(c:Int),cU l c->∃r,eQ l c A es t (d+1) r):Tot (tg 200 l n A es s d) (MoQ l (oD (5-d).toNat)):=by
 obtain⟨N,hN⟩:∃N:Nat,N=200:=⟨_,rfl⟩
 rw[<-hN];unfold tg jB;dsimp only;have hp:=ajW s hS;refine ac4 (by have:=hS.1;omega) (aB (λ_=>aE ⟨[],[],n,by simp[cM],by intro x hx;simp at hx,h,.inl ⟨rfl,rfl,_,rfl⟩⟩) (λh4=>?_));have h4:=of_decide_eq_false h4;obtain⟨p,a9⟩:∃p,p=(dU A s).1 :=⟨_,rfl⟩
 rw[<-a9] at hp ⊢;obtain⟨bh,z, -,u⟩:=hp;obtain⟨W,hW⟩:∃W,W=oD (4-d).toNat:=⟨_,rfl⟩
 have b4:W<=101010100000:=by rw[hW];exact(auu _ (by omega)).2 (by omega)
 have ba:oD (5-d).toNat=100*W+100000:=by rw[hW,show (5-d).toNat=(4-d).toNat+1 by omega];rfl
 rw[ba];have O:∀(t:Bs)(c:Int),cU l c->∃r,eQ l c A es t (d+1) r:=hM (by omega);refine aW (λ(x:dW)=>match x with|(Z,D,F,Y,i,Q,c,a,b,fs,B)=>(Z,D,F,Y,Q,a,b,B)=(d,A,es,p,l,[],[],[])∧0<=i∧i<=p.fields.length∧(cM fs:Int)<=i*(1300+3*W)∧(∀m∈fs.map CC,m∈(p.fields.take i.toNat).map PFl.num)∧aiQ fs∧cU l c) (λx=>(p.fields.length-x.2.2.2.2.1).toNat) ?_ _ _ ⟨rfl,Av _,by omega,by simp[cM],by simp,by intro x hx;simp at hx,h⟩ (by dsimp only;omega);rintro j ⟨Z,D,F,Y,i,Q,c,a,b,fs,B⟩ ⟨q,i0,i1,hw,ag,X,hp⟩ ih;cases q;dsimp only at ih;have b0:cM fs<=93*W+40300:=by have:i*(1300+3*(W:Int))<=31*(1300+3*(W:Int)):=DG (by omega) (by omega);omega
 have bs:=yv fs;unfold mH lv;dsimp only;have done:∀(B:Bs) c,cU l c->B.length<=300->Tot (cond (DA fs) (some ((.agg [.sl .pfd (.may false) fs,.str B],[some [.sl .u8 (.may false) l,.int .i64 c],some [.sl .pfd (.may false) fs,.str B],some [.sl .pfd .own fs,.str B]]):V×List aK)) (chk (decide (0<Aa fs)) (some ((.agg [.sw .pfd 3 (Aa fs),.str B],[some [.sl .u8 (.may false) l,.int .i64 c],some [.sw .pfd 3 (Aa fs),.str B],some [.sw .pfd 3 (Aa fs),.str B],some [.rw .pfd fs],none]):V×List aK)))) (MoQ l (100*W+100000)):=by
  intro B c hp hr;refine aB (λH=>?_) (λH=>?_);·have H:fs=[]:=List.isEmpty_iff.1 H;exact aE ⟨fs,B,c,by omega,X,hp,.inl ⟨H,by rw[H],_,rfl⟩⟩
  ·have H:fs≠[]:=by
    intro e;rw[e] at H;simp at H
   exact aD (decide_eq_true (Int.ofNat_lt.1 (arb H))) (aE ⟨fs,B,c,by omega,X,hp,.inr ⟨H,3,rfl,by decide,rfl,_,rfl⟩⟩)
 have rest:∀q c,cU l c->0<=q->q<3->Tot (aO N (eR N) (q,l,c,[],[],fs,[])) (MoQ l (100*W+100000)):=by intro q c hp S q3;refine aW (λ(x:kF)=>match x with|(k,Q,c,a,b,C,B)=>(Q,a,b,C)=(l,[],[],fs)∧0<=k∧k<=q∧(B.length:Int)<=(q-k)*100∧cU l c) (λx=>x.1.toNat) ?_ _ _ ⟨rfl,S,Av _,by simp,hp⟩ (by dsimp only;omega);rintro ax ⟨k,Q,c,a,b,C,B⟩ ⟨e,k0,k1,hr,hp⟩ am;cases e;dsimp only at am;unfold eR;dsimp only;refine aB (λI=>?_) (λI=>done _ _ hp (by omega));have I:=of_decide_eq_true I;refine gT hp (by decide) (λv n2 _ _ z=>gT z (by decide) (λw J a1 a7 u=>aD (ixt ⟨a1,by simpa using a7⟩) (gT u (by decide) (λy n4 _ _ a0=>aL (agJ _ (by simp)) (λ_ h=>h.2) ?_))));dsimp only;have hl:=alI ⟨Ab .i64 (900+v),Af ([0,1,2,5]:List Int) (Ad w) (aI (.num .i64)),Ab .u64 y,([114]:Bs),([]:Bs)⟩;simp only[Ai,Al] at hl;rw[aT (k-1) (by omega)];refine aD (decide_eq_true (by omega)) (am _ ⟨rfl,by first|omega|(dsimp only;omega),by first|omega|(dsimp only;omega),?_,a0⟩ (by first|omega|(dsimp only;omega)));dsimp only;simp only[Ak];omega
 have aa:∀c,cU l c->Tot (aA (br l c 4) (λG=>cond (G.1==0) (aA (br G.2.1 G.2.2 3) (λac=>aO N (eR N) (ac.1,ac.2.1,ac.2.2,[],[],fs,[]))) (cond (DA fs) (some ((.agg [.sl .pfd (.may false) fs,.str ([]:Bs)],[some [.sl .u8 (.may false) G.2.1,.int .i64 G.2.2],some [.sl .pfd (.may false) fs,.str ([]:Bs)],some [.sl .pfd .own fs,.str ([]:Bs)]]):V×List aK)) (chk (decide (0<Aa fs)) (some ((.agg [.sw .pfd 3 (Aa fs),.str ([]:Bs)],[some [.sl .u8 (.may false) G.2.1,.int .i64 G.2.2],some [.sw .pfd 3 (Aa fs),.str ([]:Bs)],some [.sw .pfd 3 (Aa fs),.str ([]:Bs)],some [.rw .pfd fs],none]):V×List aK)))))) (MoQ l (100*W+100000)):=
  λc hp=>gT hp (by decide) (λv n2 _ _ z=>aB (λ_=>gT z (by decide) (λq J S q3 u=>rest q J u S q3)) (λ_=>done [] _ z (by decide)))
 refine aB (λhi=>aKW (λov=>aB (λ_=>?_) (λ_=>aa _ hp))) (λ_=>aa _ hp);have hi:=of_decide_eq_true hi;have hf:=z _ (dJ (aI .pfl) i0 hi);have ak:=aJH u i0 hi;have ab:=sU (aI .pfl) i0 hi;obtain⟨f,a5⟩:∃f,f=Af p.fields i.toNat (aI .pfl):=⟨_,rfl⟩
 rw[<-a5] at hf ak ab ⊢;rw[cu i0 (by omega)];have next:∀c,cU l c->Tot (j (d,A,es,p,i+1,l,c,[],[],fs,[])) (MoQ l (100*W+100000)):=by
  intro c hp;refine ih _ ⟨rfl,by first|omega|(dsimp only;omega),by first|omega|(dsimp only;omega),?_,?_,X,hp⟩ (by first|omega|(dsimp only;omega));·dsimp only;rw[DM];omega
  ·intro m R;rw[ab,BB];exact BM _ (ag m R)
 have over:∀(vs:List aC)(c:Int),cU l c->vs≠[]->wtL vs<=3*(400+W)->(f.label=3->vs.length%2=0)->Tot (aA (cg A es p f fs [] vs) (λr=>chk (AI (Aa r.1) (Aa r.1)) (j (d,A,es,p,i+1,l,c,[],[],r.1,r.2)))) (MoQ l (100*W+100000)):=by
  intro vs c hp a6 hv H;have az:=zk vs;refine aJT (by omega) (by omega) (by omega) a6 H (aKN λR=>ak (ag _ (awy _ _ _ _ R))) (aD (Da _) (ih _ ⟨rfl,by first|omega|(dsimp only;omega),by first|omega|(dsimp only;omega),?_,?_,aK9 _ _ _ _ X,hp⟩ (by first|omega|(dsimp only;omega))));·have:=aL8 p f fs vs;dsimp only;rw[DM];omega
  ·intro m R;dsimp only[xR] at R;rw[ab,BB];rcases aEo _ _ _ m R with rfl|R;·exact Cj _ (by simp)
   ·exact BM _ (ag m (awy _ _ _ _ R))
 have fin:∀(vs:List aC)(c:Int),cU l c->wtL vs<=3*(400+W)->(f.label=3->vs.length%2=0)->Tot (cond ((↑(Aa vs):Int)==0) (j (d,A,es,p,i+1,l,c,[],[],fs,[])) (cond (f.label==0) (cond (f.oneof==0) (cond (!(f.kind==16)) (chk (decide ((0:Int)<↑(Aa vs))) (cond ((Af vs (Ad 0) (aI .pval)).n==0) (chk (decide ((0:Int)<↑(Aa vs))) (cond (decide ((Af vs (Ad 0) (aI .pval)).s=([]:Bs))) (j (d,A,es,p,i+1,l,c,[],[],fs,[])) (aA (cg A es p f fs [] vs) (λr=>chk (AI (Aa r.1) (Aa r.1)) (j (d,A,es,p,i+1,l,c,[],[],r.1,r.2)))))) (aA (cg A es p f fs [] vs) (λr=>chk (AI (Aa r.1) (Aa r.1)) (j (d,A,es,p,i+1,l,c,[],[],r.1,r.2)))))) (aA (cg A es p f fs [] vs) (λr=>chk (AI (Aa r.1) (Aa r.1)) (j (d,A,es,p,i+1,l,c,[],[],r.1,r.2))))) (aA (cg A es p f fs [] vs) (λr=>chk (AI (Aa r.1) (Aa r.1)) (j (d,A,es,p,i+1,l,c,[],[],r.1,r.2))))) (aA (cg A es p f fs [] vs) (λr=>chk (AI (Aa r.1) (Aa r.1)) (j (d,A,es,p,i+1,l,c,[],[],r.1,r.2)))))) (MoQ l (100*W+100000)):=by
  intro vs c hp hv H;have x:=next c hp
  refine aB (λ_=>x) (λhz=>?_);have hz:(vs.length:Int)≠0:=by simpa using hz
  have o:=over vs c hp (by intro e;subst e;simp at hz) hv H;have e:decide ((0:Int)<↑(Aa vs))=true:=decide_eq_true (by omega);exact aB (λ_=>aB (λ_=>aB (λ_=>aD e (aB (λ_=>aD e (aB (λ_=>x) (λ_=>o))) (λ_=>o))) (λ_=>o)) (λ_=>o)) (λ_=>o)
 have M:∀q c,cU l c->0<=q->q<=3->Tot (aO N (fX N j) (.inl (d,A,es,p,i,f,q,[],0,l,c,[],[],fs,[]))) (MoQ l (100*W+100000)):=by
  intro q c hp S q3;refine aW (λ(x:gL)=>match x with
   | .inl (Z,D,F,Y,i',f',q',vs,k,Q,c,a,b,C,B)=>(Z,D,F,Y,i',f',q',Q,a,b,C,B)=(d,A,es,p,i,f,q,l,[],[],fs,[])∧MvI W f vs k q∧cU l c∧(f.label=3->vs=[])
   | .inr (Z,D,F,Y,i',f',q',vs,k,Q,c,a,b,C,B)=>(Z,D,F,Y,i',f',q',Q,a,b,C,B)=(d,A,es,p,i,f,q,l,[],[],fs,[])∧MvI W f vs k q∧cU l c∧f.label=3)
   (λx=>match x with| .inl x=>(q-x.2.2.2.2.2.2.2.2.1).toNat| .inr x=>(q-x.2.2.2.2.2.2.2.2.1).toNat) ?_ _ _ ⟨rfl,⟨Av _,S,q3,by simp[wtL],λ_=>rfl⟩,hp,λ_=>rfl⟩ (by dsimp only;omega)
  have a8:∀k:Int,0<=k->k<=3->k*(400+(W:Int))<=3*(400+(W:Int)):=λk _ I=>DG I (by omega)
  rintro aw (⟨Z,D,F,Y,i',f',q',vs,k,Q,c,a,b,C,B⟩|⟨Z,D,F,Y,i',f',q',vs,k,Q,c,a,b,C,B⟩) ⟨e,⟨k0,k1,k3,b2,P⟩,hp,au⟩ ae
  all_goals
   cases e;unfold fX;dsimp only;have az:=zk vs;have bY:=a8 k k0 (by omega);rw[cu k0 (by omega),cu i0 (by omega)];refine aB (λI=>aB (λE=>?_) (λE=>?_)) (λ_=>fin vs c hp (by omega) P)
  ·have I:=of_decide_eq_true I;have E:f.label=3:=by simpa using E
   refine aqC d0 hp (by omega) (λaf=>absurd af (by have:=hf.2.2.2.2.2.2.2.1;omega)) (λx n2 hx z=>aqC d0 z (by omega) (λ_=>O _) (λy J L u=>?_));simp only[kr];rw[if_neg (by have:=hf.2.2.2.2.2.2.2.1;omega)] at hx;have L:wtV y<=200+W:=by rw[<-hW] at L;split at L<;>omega
   have R:=ayO f.key x y vs;have ad:=alF f.key x y vs;refine auq (by omega) (P E) (ae (.inr (d,A,es,p,i,f,q,_,k+1,l,J,[],[],fs,[])) ⟨rfl,⟨by omega,by omega,k3,?_,λ_=>ad.2 (P E)⟩,u,E⟩ (by first|omega|(dsimp only;omega)));rw[DM];omega
  ·have I:=of_decide_eq_true I;have E:f.label≠3:=by simpa using E
   refine aqC d0 hp (by omega) (λ_=>O _) (λy J L u=>?_);dsimp only;simp only[kr];have L:wtV y<=200+W:=by rw[<-hW] at L;split at L<;>omega
   refine aD (decide_eq_true (by simp only[Ai,Al];omega)) (ae (.inl (d,A,es,p,i,f,q,_,k+1,l,J,[],[],fs,[])) ⟨rfl,⟨by omega,by omega,k3,?_,λh=>absurd h E⟩,u,λh=>absurd h E⟩ (by first|omega|(dsimp only;omega)));rw[aGI,aL7,DM];omega
  ·have I:=of_decide_eq_true I;have E:f.label=3:=by simpa using E
   refine aqC d0 hp (by omega) (λaf=>absurd af (by have:=hf.2.2.2.2.2.2.2.1;omega)) (λx n2 hx z=>aqC d0 z (by omega) (λ_=>O _) (λy J L u=>?_));simp only[kr];rw[if_neg (by have:=hf.2.2.2.2.2.2.2.1;omega)] at hx;have L:wtV y<=200+W:=by rw[<-hW] at L;split at L<;>omega
   have R:=ayO f.key x y vs;have ad:=alF f.key x y vs;refine auq (by omega) (P E) (ae (.inr (d,A,es,p,i,f,q,_,k+1,l,J,[],[],fs,[])) ⟨rfl,⟨by omega,by omega,k3,?_,λ_=>ad.2 (P E)⟩,u,E⟩ (by first|omega|(dsimp only;omega)));rw[DM];omega
  ·rw[au] at E;simp at E
 refine aD (ixt ⟨i0,hi⟩) (gT hp (by decide) (λv n2 _ _ z=>aB (λ_=>next _ z) (λ_=>aB (λ_=>gT z (by decide) (λq J S q4 u=>M q J u S (by omega))) (λ_=>aB (λ_=>gT z (by decide) (λq J S q4 u=>M q J u S (by omega))) (λ_=>M 1 n2 z (by decide) (by decide))))))
theorem aET(l:Bs)(n:Int)(a:List PMs)(es:List PEn)(s:Bs)(d:Int)(F:0<=d)(C:d<=10)(B:nL a)(h:cU l n)(E:d<=4->∀(t:Bs)(b:Int),cU l b->∃r,eQ l b a es t (d+1) r):(∃r,fL l n a es s d r)∨(∃r,gU l n a es s d r):=by
 obtain⟨⟨v,hp⟩,q,fs,u,b,z,p,x,A⟩:=aMo l n a es s d F C B h E;rcases A with⟨D,e,rest,j⟩|⟨k,m,e,j,y,rest,w⟩
 ·left;simp only at e j;subst e j D;exact⟨([],u,l,b),FnC.objs (css:=[[.sl .u8 (.may false) l,.int .i64 n]]) (css':=[[.sl .u8 (.may false) l,.int .i64 b]]) ab0 (aa3 200 l n a es s d) q rfl,z,rfl,rfl,x⟩
 ·right;simp only at e y w;subst e;refine⟨(fs,u,l,b),⟨rfl,m,hp,ab0.fnOK rfl ((aa3 200 l n a es s d).trans q),j,y,?_⟩,z,k,p,rfl,x⟩;intro i c f;rw[w];match i,f with
  |0,f=>simpa using f
  |i+1,f=>simp at f
theorem aEU{l:Bs}{n:Int}{c:List PMs}{es:List PEn}{s:Bs}{d:Int}(h:(∃r,fL l n c es s d r)∨(∃r,gU l n c es s d r)):∃r,eQ l n c es s d r:=by
 rcases h with⟨r,a,b,j,f,e⟩|⟨r,a,b,j,f,e,i⟩
 ·exact⟨r,a,b,f,e⟩
 ·exact⟨r,a.laid rfl,b,e,i⟩
theorem aGO:∀m,aOg m
 |0=>λl n a es s d f c e b h=>aEU (aET l n a es s d c e b h λj=>absurd f (by omega))
 |m+1=>λl n a es s d f c e b h=>aEU (aET l n a es s d c e b h λj t i hp=>aGO m l i a es t (d+1) (by omega) (by omega) (by omega) b hp)
theorem aNv(l:Bs)(n:Int)(a:List PMs)(es:List PEn)(s:Bs)(d:Int)(c:0<=d)(e:d<=10)(b:nL a)(h:cU l n):(∃r,fL l n a es s d r)∨(∃r,gU l n a es s d r):=
 aET l n a es s d c e b h λi t f hp=>aGO _ l f a es t (d+1) (Ap _) (by omega) (by omega) b hp
def wt:aG:=tb_ [asU] [adK,aqK] [] [aih,aeu,ajH]
def zn:IR:=Sq (Rs [Mv 88 16,Mv 89 15,Ll 90 89,Bi 91 .lss 88 90] (Cn 91 .skip (.exit 0))) (Sq (.block 1 (Sq (.reg [Ld 95 2 true 11,Mv 96 15,Mv 97 16,Ix 98 .str 96 97,Lq 99 98,Ld 100 2 true 13,Ca 101 14 [95,99,100],Mv 94 101,Ex_ 102 0 94,Ex_ 103 1 94,Mv 17 102,Mv 18 103] [[],[],[],[1,2],[1,2,3],[],rg 0 5,rg 0 6,rg 0 7,rg 0 7,rg 0 8,rg 0 10]) (Sq (.reg [Ld 105 2 true 11,Mv 106 15,Mv 107 16,Ix 108 .str 106 107,Lq 109 108,Ld 110 2 true 13,Ca 111 15 [105,109,110],Mv 104 111,Ex_ 112 0 104,Ex_ 113 1 104,Mv 19 112,Mv 20 113] [[],[],[],[1,2],[1,2,3],[],rg 0 5,rg 0 6,rg 0 7,rg 0 7,rg 0 8,rg 0 10]) (Rs [Mv 114 18,Mv 115 20,Bi 116 .neq 114 115,Mv 117 116,Gf 117 (.mov 118 17),Gf 117 (.b2s 119 118),Gf 117 (.mov 120 19),Gf 117 (.b2s 121 120),Gf 117 (.bin 122 .neq 119 121),Po 123 117 122] (Cn 123 (Rs [Mb 10 false] .ret) .skip))))) (Rg [Mv 92 16,Bc 93 .add 92 1,Mv 16 93]))
def zo:IR:=Rs [Mb 10 true] .ret
def aqN:IR:=Rs [Mb 10 false] (Sq (Rs [Ca 21 10 [],Un 22 21] (Cn 22 (Rs [Mb 10 false] .ret) .skip)) (Sq (Rs [Mv 23 0,Ll 24 23,Bc 25 .gtr 24 120,Mv 26 25,Gf 26 (.mov 27 1),Gf 26 (.lenl 28 27),Gf 26 (.bin 29 .gtr 28 (kI 60)),Po 30 26 29,Mv 31 30,Gf 31 (.mov 32 4),Gf 31 (.lens 33 32),Gf 31 (.bin 34 .gtr 33 (kI 20)),Po 35 31 34] (Cn 35 (Rs [Mb 10 true] .ret) .skip)) (Rs [Mv 37 0,Ca 38 11 [37],Ca 39 12 [38],Mv 36 39,Ex_ 40 0 36,Ex_ 41 1 36,Pp (.alr 11 2),Fz 11 2 40,Mv 12 41] (Sq (Rs [Mv 42 12,Un 43 42] (Cn 43 (Rs [Mb 10 true] .ret) .skip)) (Sq (.reg [Mv 44 1,Ca 45 11 [44],Ld 46 2 true 11,Fo [] [0,1] (.call 47 13 [45,46,kS [97,46,77],kI 0]),Pp (.alr 13 2),Fz 13 2 47] [[],[0],[],[0,1,2],[],rg 0 4]) (Sq (Rs [Mv 48 2,Pp (.bin 49 .rem 48 (.c (.int .u8 3))),Pp (.bin 50 .eql 49 (.c (.int .u8 0))),Mv 51 50,Gt 51 (.fad 52 0 13),Gt 51 (.lde 53 1 false 52),Gt 51 (.lenl 54 53),Gt 51 (.bin 55 .gtr 54 (kI 0)),Pa 56 51 55] (Cn 56 (Rs [Mv 57 2,Pp (.bin 58 .quo 57 (.c (.int .u8 3))),Pp (.cvi 59 .i64 58),Fa 60 0 13,Lq 61 60,Ll 62 61,Bi 63 .rem 59 62,Mv 14 63] (Sq .bad .bad)) .skip)) (Rs [Mv 86 4,Pp (.bsl 87 .str [kS [97,46,77],kS [97,46,73],86] true),Mv 15 87] (Sq (Rs [Mi 16 0] (.block 0 (.loop [11,13,15,16,1000000] 2 zn))) zo))))))))
theorem aqO:FnC Tryz.prog wt [11,12,13,2000012,2000013] 0 3 Tryz.f3 aqN lq:=fnC Tryz.func3
def anQ(R:TR)(a:TS):TE:=(bo a [11,13,15,16,1000000] 2 (aQ 0 (kseq (R zo) (fin lq))))
abbrev jC:Type:=(List PMs×List PEn×List (Int×List aC)×Bs×Bool×Bss×Int×Bs×Int×Bs×Int)
def mI:jC->St:=λ(b,c,d,e,f,g,h,i,j,k,a)=>{env:=(U 11 (.ea [vF .pms b,vF .pen c]::.undef::.ea [vF .pfd d,vT e]::.undef::.sl .str (.may f) g::vI h::(U 107 []))),hp:=[some [vF .u8 i,vI j],some [vF .u8 k,vI a]]}
def th(N:Nat):TS->TS:=λa s=>run wt N zn (anQ (run wt N) a) s
def jD(N:Nat)(g:jC->Ro):jC->Ro:=λ(a,b,c,d,l,e,f,h,i,j,k)=>let r:=(↑(Aa e):Int);let m:=λs=>(some (vB s,[some [vF .u8 h,vI i],some [vF .u8 j,vI k]]):Ro);cond (decide (f<r)) (chk (ixl f e) (let t:=Af e (Ad f) (aI .str);aA (lC a b t c d) (λp=>chk (ixl f e) (let n:=Af e (Ad f) (aI .str);aA (qk a b n c d) (λq=>cond (!(p.2==q.2)) (m false) (cond (!decide (p.1=q.1)) (m false) (let o:=(Ab .i64 (f+1));g (a,b,c,d,l,e,o,h,i,j,k)))))))) (m true)
theorem alM(N:Nat):LB (th N) mI (jD N):=λ_ _=>by kernel_rfl
def kL(N:Nat)(c d:Bs)(i y:Int)(e:Bs)(j:jC->Ro):Ro:=let f:=λk l m n o p q r=>j (k,l,m,n,true,[([97,46,77]:Bs),([97,46,73]:Bs),e],0,o,p,q,r);aA (lu) (λ(s:Bool)=>cond (!s) (some (vB false,[])) (let t:=(↑(Aa c):Int);cond (decide (120<t)) (some (vB true,[])) (let u:=(↑(Aa d):Int);cond (decide (60<u)) (some (vB true,[])) (let v:=(↑(Aa e):Int);cond (decide (20<v)) (some (vB true,[])) (aA (ph c) (λg=>aA (bm g.1 g.2) (λa=>cond (!a.2.2.1) (some (vB true,[some [vF .u8 a.2.2.2.1,vI a.2.2.2.2]])) (aA (ph d) (λh=>aA (fL h.1 h.2 a.1 a.2.1 [97,46,77] 0) (λb=>cond ((AQ i 3)==0) (let w:=(↑(Aa b.1):Int);cond (decide (0<w)) (let x:=(↑(Aa b.1):Int);chk (!(x==0)) (none)) (f a.1 a.2.1 b.1 b.2.1 a.2.2.2.1 a.2.2.2.2 b.2.2.1 b.2.2.2)) (f a.1 a.2.1 b.1 b.2.1 a.2.2.2.1 a.2.2.2.2 b.2.2.1 b.2.2.2)))))))))))
def ad5(N:Nat)(a b:Bs)(c d:Int)(e:Bs):Ro:=kL N a b c d e (λz=>aO N (jD N) z)
theorem anR(N:Nat)(a c:Bs)(d f:Int)(g:Bs)(h:Tot (ad5 N a c d f g) (λz=>∃i rest,z.1.dimR=vB i∧z.2=rest∧aa0 a c d f g (i))):∃r,afh a c d f g r:=aqO.finP (N:=N) ((bD _ (by kernel_rfl) rfl (λC=>kL N a c d f g (λz=>C 1000000 (mI z))) (λC=>by kernel_rfl)).trans (AB (b:=kL N a c d f g (λz=>aZ N (th N) (mI z))) (by kernel_rfl) (congrArg (kL N a c d f g) (funext λz=>aU (mI) (th N) (jD N) (alM N) N z)))) h λ_ ⟨i,_,e,_,q⟩=>⟨(i),e,q⟩
def wu:aG:=ac6 (ag7 (P:=Tryz.prog) [aqL]) (tb_ [asU] [adK] [] [aih,aeu,ajH])
def zp:IR:=Sq (Rs [Mv 88 16,Mv 89 15,Ll 90 89,Bi 91 .lss 88 90] (Cn 91 .skip (.exit 0))) (Sq (.block 1 (Sq (.reg [Ld 95 2 true 11,Mv 96 15,Mv 97 16,Ix 98 .str 96 97,Lq 99 98,Fo [4] [] (.ld 100 2 true false 13),Ca 101 14 [95,99,100],Mv 94 101,Ex_ 102 0 94,Ex_ 103 1 94,Mv 17 102,Mv 18 103] [[],[],[],[1,2],[1,2,3],[],rg 0 5,rg 0 6,rg 0 7,rg 0 7,rg 0 8,rg 0 10]) (Sq (.reg [Ld 105 2 true 11,Mv 106 15,Mv 107 16,Ix 108 .str 106 107,Lq 109 108,Fo [4] [] (.ld 110 2 true false 13),Ca 111 15 [105,109,110],Mv 104 111,Ex_ 112 0 104,Ex_ 113 1 104,Mv 19 112,Mv 20 113] [[],[],[],[1,2],[1,2,3],[],rg 0 5,rg 0 6,rg 0 7,rg 0 7,rg 0 8,rg 0 10]) (Rs [Mv 114 18,Mv 115 20,Bi 116 .neq 114 115,Mv 117 116,Gf 117 (.mov 118 17),Gf 117 (.b2s 119 118),Gf 117 (.mov 120 19),Gf 117 (.b2s 121 120),Gf 117 (.bin 122 .neq 119 121),Po 123 117 122] (Cn 123 (Rs [Mb 10 false] .ret) .skip))))) (Rg [Mv 92 16,Bc 93 .add 92 1,Mv 16 93]))
def zq:IR:=Rs [Mb 10 true] .ret
def aqP:IR:=Rs [Mb 10 false] (Sq (Rs [Ca 21 10 [],Un 22 21] (Cn 22 (Rs [Mb 10 false] .ret) .skip)) (Sq (Rs [Mv 23 0,Ll 24 23,Bc 25 .gtr 24 120,Mv 26 25,Gf 26 (.mov 27 1),Gf 26 (.lenl 28 27),Gf 26 (.bin 29 .gtr 28 (kI 60)),Po 30 26 29,Mv 31 30,Gf 31 (.mov 32 4),Gf 31 (.lens 33 32),Gf 31 (.bin 34 .gtr 33 (kI 20)),Po 35 31 34] (Cn 35 (Rs [Mb 10 true] .ret) .skip)) (Rs [Mv 37 0,Ca 38 11 [37],Ca 39 12 [38],Mv 36 39,Ex_ 40 0 36,Ex_ 41 1 36,Pp (.alr 11 2),Fz 11 2 40,Mv 12 41] (Sq (Rs [Mv 42 12,Un 43 42] (Cn 43 (Rs [Mb 10 true] .ret) .skip)) (Sq (.reg [Mv 44 1,Ca 45 11 [44],Ld 46 2 true 11,Ca 47 13 [45,46,kS [97,46,77],kI 0],Pp (.alr 13 2),Pp (.pub none 13 2 47)] [[],[0],[],[0,1,2],[],rg 0 4]) (Sq (Rs [Mv 48 2,Pp (.bin 49 .rem 48 (.c (.int .u8 3))),Pp (.bin 50 .eql 49 (.c (.int .u8 0))),Mv 51 50,Gt 51 (.fad 52 0 13),Gt 51 (.ld 53 1 false false 52),Gt 51 (.lnw 54 53),Gt 51 (.bin 55 .gtr 54 (kI 0)),Pa 56 51 55] (Cn 56 (Rs [Mv 57 2,Pp (.bin 58 .quo 57 (.c (.int .u8 3))),Pp (.cvi 59 .i64 58),Fa 60 0 13,Lo 61 60,Pp (.lnw 62 61),Bi 63 .rem 59 62,Mv 14 63] (Sq (.reg [Fa 64 0 13,Fo [4] [] (.ld 65 1 false false 64),Mv 66 14,Pp (.blu 67 .pval),Fa 68 0 13,Fo [4] [] (.ld 69 1 false false 68),Mv 70 14,Pp (.ixw 71 .pfd 69 70),Pp (.fdw 72 1 71),Fo [2] [] (.ldw 73 1 false 72),Pp (.apu 74 .pval (.tk 67) 73),Pp (.ixw 75 .pfd 65 66),Pp (.fdw 76 1 75),Pp (.stu none (.t 76) 74)] [[],[0],[],[],[],[4],[],[4,5,6],rg 4 7,rg 4 8,rg 3 9,rg 0 10,rg 0 11,rg 0 12]) (.ghp (.hol 78) (Rg [Fa 77 0 13,Lo 78 77,Mv 79 14,Pp (.ixw 80 .pfd 78 79),Pp (.fdw 81 1 80),Pp (.ldn 82 (.t 81)),Mv 83 3,Pp (.ixw 84 .pval 82 (kI 0)),Pp (.fdw 85 0 84),Pp (.stw none 1 85 83)])))) .skip)) (Sq (.gh (.cls (.cell 4 0)) (.gh (.fz (.cell 4 0)) (Rg [Mv 86 4,Pp (.bsl 87 .str [kS [97,46,77],kS [97,46,73],86] true),Mv 15 87]))) (Sq (Rs [Mi 16 0] (.block 0 (.loop [11,13,15,16,1000000] 5 zp))) zq))))))))
theorem aqQ:FnC Tryz.prog wu [11,12,13,2000012] 0 3 Tryz.f3 aqP lq:=aK8 Tryz.func3
def anS(R:TR)(a:TS):TE:=(bo a [11,13,15,16,1000000] 5 (aQ 0 (kseq (R zq) (fin lq))))
abbrev jE:Type:=(List PMs×List PEn×Bool×Bss×Int×Bs×Int×Bs×Int×List (Int×List aC)×Bs)
def mJ:jE->St:=λ(b,c,d,e,f,g,h,i,j,k,a)=>{env:=(U 11 (.ea [vF .pms b,vF .pen c]::.undef::.ptr 4 0::.undef::.sl .str (.may d) e::vI f::(U 107 []))),hp:=[some [vF .u8 g,vI h],some [vF .u8 i,vI j],none,none,some [vO .pfd k,vT a]]}
def ti(N:Nat):TS->TS:=λa s=>run wu N zp (anS (run wu N) a) s
def jF(N:Nat)(g:jE->Ro):jE->Ro:=λ(a,b,l,e,f,h,i,j,k,c,d)=>let m:=(↑(Aa e):Int);let n:=λt=>(some (vB t,[some [vF .u8 h,vI i],some [vF .u8 j,vI k],none,none,some [vO .pfd c,vT d]]):Ro);cond (decide (f<m)) (chk (ixl f e) (let o:=Af e (Ad f) (aI .str);aA (lC a b o c d) (λr=>chk (ixl f e) (let p:=Af e (Ad f) (aI .str);aA (qk a b p c d) (λs=>cond (!(r.2==s.2)) (n false) (cond (!decide (r.1=s.1)) (n false) (let q:=(Ab .i64 (f+1));g (a,b,l,e,q,h,i,j,k,c,d)))))))) (n true)
theorem alN(N:Nat):LB (ti N) mJ (jF N):=λ_ _=>by kernel_rfl
def kM(N:Nat)(h i:Bs)(j o:Int)(k:Bs)(p:jE->Ro):Ro:=let g:=λq r t u v w x y=>p (q,r,true,[([97,46,77]:Bs),([97,46,73]:Bs),k],0,t,u,v,w,x,y);aA (lu) (λ(z:Bool)=>cond (!z) (some (vB false,[])) (let A:=(↑(Aa h):Int);cond (decide (120<A)) (some (vB true,[])) (let F:=(↑(Aa i):Int);cond (decide (60<F)) (some (vB true,[])) (let B:=(↑(Aa k):Int);cond (decide (20<B)) (some (vB true,[])) (aA (ph h) (λl=>aA (bm l.1 l.2) (λb=>cond (!b.2.2.1) (some (vB true,[some [vF .u8 b.2.2.2.1,vI b.2.2.2.2]])) (aA (ph i) (λm=>aA (gU m.1 m.2 b.1 b.2.1 [97,46,77] 0) (λa=>cond ((AQ j 3)==0) (let E:=(↑(Aa a.1):Int);cond (decide (0<E)) (let D:=(Ab .u8 (Bn j 3));let n:=(↑(Aa a.1):Int);chk (!(n==0)) (let c:=(AQ (Ab .i64 D) n);chk (decide (0<=c)&&decide (c<↑(Aa a.1))) (chk (decide ((Ad c)<Aa a.1)) (let d:=(Af a.1 (Ad c) (aI .pfd)).2;chk (decide ((Aa ([]:List aC)+Aa d)*64<=140737488355328)) (chk (decide (0<=c)&&decide (c<↑(Aa a.1))) (chk (decide ((Ad c)<Aa a.1)&&decide (0<Aa ([]++d))) (chk (decide (0<=c)&&decide (c<↑(Aa a.1))) (chk (AI (Ad c) (Ad c)&&decide ((Ad c)<Aa a.1)) (let C:=(Aa ([]++d));chk (decide ((0:Int)<↑C)) (chk (decide ((Ad 0)<Aa ([]++d))) (let e:=(BV ([]++d) (Ad 0) (let f:=Af ([]++d) (Ad 0) (aI .pval);(.mk o f.s f.fs f.rest)));chk (AI (Aa ([]++d)) (Aa e)&&decide ((Ad c)<Aa a.1)) (chk (AI (Aa a.1) (Aa (BV a.1 (Ad c) (let f:=Af a.1 (Ad c) (aI .pfd);⟨f.1,e⟩)))) (g b.1 b.2.1 b.2.2.2.1 b.2.2.2.2 a.2.2.1 a.2.2.2 (BV a.1 (Ad c) (let f:=Af a.1 (Ad c) (aI .pfd);⟨f.1,e⟩)) a.2.1))))))))))))) (chk (AI (Aa a.1) (Aa a.1)) (g b.1 b.2.1 b.2.2.2.1 b.2.2.2.2 a.2.2.1 a.2.2.2 a.1 a.2.1))) (chk (AI (Aa a.1) (Aa a.1)) (g b.1 b.2.1 b.2.2.2.1 b.2.2.2.2 a.2.2.1 a.2.2.2 a.1 a.2.1))))))))))))
def ad6(N:Nat)(a b:Bs)(c d:Int)(e:Bs):Ro:=kM N a b c d e (λz=>aO N (jF N) z)
theorem anT(N:Nat)(a c:Bs)(d f:Int)(g:Bs)(h:Tot (ad6 N a c d f g) (λz=>∃i rest,z.1.dimR=vB i∧z.2=rest∧aa1 a c d f g (i))):∃r,afi a c d f g r:=aqQ.finP (N:=N) ((bD _ (by kernel_rfl) rfl (λC=>kM N a c d f g (λz=>C 1000000 (mJ z))) (λC=>by kernel_rfl)).trans (AB (b:=kM N a c d f g (λz=>aZ N (ti N) (mJ z))) (by kernel_rfl) (congrArg (kM N a c d f g) (funext λz=>aU (mJ) (ti N) (jF N) (alN N) N z)))) h λ_ ⟨i,_,e,_,q⟩=>⟨(i),e,q⟩
section
variable{Q:V×List aK->Prop}
theorem aGP{R a:Type}{Q:R->Prop}[Inhabited a]{C:a->Prop}{K:a->Option R}(h:∃r,C r)(b:Tot (K (pick C)) Q):Tot (aA C K) Q:=aD (aCl h) b
def LwQ:V×List aK->Prop:=λz=>∃(a:Bool)(rest:List aK),z.1.dimR=.bool a∧z.2=rest∧a=true
theorem lwt{hp:List aK}:Tot (some ((.bool true,hp):V×List aK)) LwQ:=aE ⟨true,_,rfl,rfl,rfl⟩
theorem aNw(N:Nat)(I:N=20)(p:List PMs)(es:List PEn)(z:nL p)(fs:List (Int×List aC))(d:Bs)(H:cM fs<=20000000000000)(E:d.length<=20000000000000)(A:Bool)(names:Bss)(J:names.length=3)(a b:Bs)(i j:Int):
  Tot (aO N (jD N) (p,es,fs,d,A,names,0,a,i,b,j)) LwQ:=by
 refine aW (λ(x:jC)=>match x with|(f,t,u,r,m,c,k,F,G,C,B)=>(f,t,u,r,m,c,F,G,C,B)=(p,es,fs,d,A,names,a,i,b,j)∧0<=k∧k<=3) (λx=>(3-x.2.2.2.2.2.2.1).toNat) ?_ _ _ ⟨rfl,Av _,by omega⟩ (by dsimp only;omega);rintro w ⟨f,t,u,r,m,c,k,F,G,C,B⟩ ⟨q,D,L⟩ y;cases q;dsimp only at y;unfold jD;dsimp only;refine aB (λv=>?_) (λ_=>lwt);have v:=of_decide_eq_true v;have e:=ixt (l:=names) ⟨D,v⟩;refine aD e (aL (ac5 p es _ fs d z H E) (λ_ h=>h.2) (aD e (aL (aqD p es _ fs d z H E) (λ_ h=>h.2) ?_)));refine aB (λh=>by simp at h) (λ_=>aB (λh=>by simp at h) (λ_=>?_));rw[cu D (by omega)];exact y _ ⟨rfl,by first|omega|(dsimp only;omega),by first|omega|(dsimp only;omega)⟩ (by first|omega|(dsimp only;omega))
theorem aNx(N:Nat)(I:N=20)(p:List PMs)(es:List PEn)(z:nL p)(fs:List (Int×List aC))(d:Bs)(H:cM fs<=20000000000000)(E:d.length<=20000000000000)(A:Bool)(names:Bss)(J:names.length=3)(a b:Bs)(i j:Int):
  Tot (aO N (jF N) (p,es,A,names,0,a,i,b,j,fs,d)) LwQ:=by
 refine aW (λ(x:jE)=>match x with|(f,t,m,c,k,F,G,C,B,u,r)=>(f,t,u,r,m,c,F,G,C,B)=(p,es,fs,d,A,names,a,i,b,j)∧0<=k∧k<=3) (λx=>(3-x.2.2.2.2.1).toNat) ?_ _ _ ⟨rfl,Av _,by omega⟩ (by dsimp only;omega);rintro w ⟨f,t,m,c,k,F,G,C,B,u,r⟩ ⟨q,D,L⟩ y;cases q;dsimp only at y;unfold jF;dsimp only;refine aB (λv=>?_) (λ_=>lwt);have v:=of_decide_eq_true v;have e:=ixt (l:=names) ⟨D,v⟩;refine aD e (aL (ac5 p es _ fs d z H E) (λ_ h=>h.2) (aD e (aL (aqD p es _ fs d z H E) (λ_ h=>h.2) ?_)));refine aB (λh=>by simp at h) (λ_=>aB (λh=>by simp at h) (λ_=>?_));rw[cu D (by omega)];exact y _ ⟨rfl,by first|omega|(dsimp only;omega),by first|omega|(dsimp only;omega)⟩ (by first|omega|(dsimp only;omega))
theorem aMp(n:Int):∀(l:List aC),l≠[]->wtL (BV l 0 (.mk n (Af l 0 (aI .pval)).s (Af l 0 (aI .pval)).fs (Af l 0 (aI .pval)).rest))=wtL l
 | [],h=>absurd rfl h
 | .mk a s fs b::r,_=>by simp[wtL,wtV,aC.s,aC.fs,aC.rest]
theorem azO:∀(fs:List (Int×List aC))(k:Nat),k<fs.length->wtL (Af fs k (aI .pfd)).2 <=cM fs
 | [],k,h=>by simp at h
 |(a,l)::r,0,_=>by simp only[Bm,cM,wtP];omega
 |x::r,k+1,h=>by simp only[Ai] at h;have:=azO r k (by omega);simp only[BR,cM];omega
theorem aEV(b:List aC):∀(fs:List (Int×List aC))(k:Nat),k<fs.length->wtL b=wtL (Af fs k (aI .pfd)).2 ->cM (BV fs k ⟨(Af fs k (aI .pfd)).1,b⟩)=cM fs
 | [],k,h,_=>by simp at h
 |(a,l)::r,0,_,e=>by simp only[Bm] at e;simp only[C9,Bm,cM,wtP,e]
 |x::r,k+1,h,e=>by simp only[Ai] at h;simp only[BR] at e;simp only[Df,BR,cM];rw[aEV b r k (by omega) e]
theorem azP(a c:Bs)(d n:Int)(name:Bs)(t:a.length<=120->c.length<=60->(pick (bm a 0)).2.2.1 =true->∃r,fL c 0 (pick (bm a 0)).1 (pick (bm a 0)).2.1 [97,46,77] 0 r):∃r,afh a c d n name r:=by
 obtain⟨N,q⟩:∃N:Nat,N=20:=⟨_,rfl⟩
 apply anR N;show Tot _ LwQ;unfold ad5 kL;dsimp only;refine aL azN (λ_ h=>h.2) (aB (λh=>by simp at h) (λ_=>aB (λ_=>lwt) (λp=>aB (λ_=>lwt) (λm=>aB (λ_=>lwt) (λ_=>?_)))));have p:=of_decide_eq_false p;have m:=of_decide_eq_false m;refine aL (alH a) (λ_ h=>h.2) ?_;have f:=aqB a 0 ⟨by omega,by omega,by omega⟩;refine aGP f ?_;have hp:=(aqX f).2;refine aB (λ_=>lwt) (λb=>?_);have b:(pick (bm a 0)).2.2.1 =true:=by simpa using b
 have u:=hp b;refine aL (alH c) (λ_ h=>h.2) (aX (t (by omega) (by omega) b) ?_);rintro⟨fs,k,l,j⟩ ⟨-,e,i, -, -⟩;dsimp only at i e ⊢;subst i;have v:=auu 5 (by decide);have e:k.length<=oD 5:=by simpa [cM] using e
 have go:=aNw N q (pick (bm a 0)).1 (pick (bm a 0)).2.1 u [] k (by simp[cM]) (by omega) true [[97,46,77],[97,46,73],name] rfl (pick (bm a 0)).2.2.2.1 l (pick (bm a 0)).2.2.2.2 j;exact aB (λ_=>aB (λh=>by simp at h) (λ_=>go)) (λ_=>go)
theorem aJU(b q:Bs)(a n:Int)(name:Bs)(M:0<=a∧a<=255)(W:b.length<=120->q.length<=60->(pick (bm b 0)).2.2.1 =true->∃r,gU q 0 (pick (bm b 0)).1 (pick (bm b 0)).2.1 [97,46,77] 0 r):∃r,afi b q a n name r:=by
 obtain⟨N,G⟩:∃N:Nat,N=20:=⟨_,rfl⟩
 apply anT N;show Tot _ LwQ;unfold ad6 kM;dsimp only;refine aL azN (λ_ h=>h.2) (aB (λh=>by simp at h) (λ_=>aB (λ_=>lwt) (λB=>aB (λ_=>lwt) (λA=>aB (λ_=>lwt) (λ_=>?_)))));have B:=of_decide_eq_false B;have A:=of_decide_eq_false A;refine aL (alH b) (λ_ h=>h.2) ?_;have D:=aqB b 0 ⟨by omega,by omega,by omega⟩;refine aGP D ?_;have hp:=(aqX D).2;refine aB (λ_=>lwt) (λt=>?_);have t:(pick (bm b 0)).2.2.1 =true:=by simpa using t
 have H:=hp t;refine aL (alH q) (λ_ h=>h.2) (aX (W (by omega) (by omega) t) ?_);rintro⟨fs,C,l,j⟩ ⟨-,y,v,p, -, -⟩;dsimp only at v p y ⊢;have X:=auu 5 (by decide);have y:cM fs+C.length<=oD 5:=y;have I:=yv fs;have go:∀m,cM m=cM fs->_:=λm e=>aNx N G (pick (bm b 0)).1 (pick (bm b 0)).2.1 H m C (by omega) (by omega) true [[97,46,77],[97,46,73],name] rfl (pick (bm b 0)).2.2.2.1 l (pick (bm b 0)).2.2.2.2 j
 have i:=aD (Q:=LwQ) (Da fs.length) (go fs rfl);refine aB (λ_=>aB (λu=>?_) (λ_=>i)) (λ_=>i);have u:=of_decide_eq_true u;obtain⟨k,E⟩:∃k,k=AQ (Ab .i64 (Ab .u8 (Bn a 3))) (fs.length:Int):=⟨_,rfl⟩
 rw[<-E];have x:0<=k∧k<fs.length:=by
  have F:0<=Bn a 3∧Bn a 3<=255:=by rw[BZ M.1];omega
  have R:Ab .u8 (Bn a 3)=Bn a 3:=jX _ F;have S:Ab .i64 (Bn a 3)=Bn a 3:=aT _ (by omega);rw[E,R,S];exact⟨Dy _ F.1,Int.tmod_lt_of_pos _ u⟩
 obtain⟨P,J⟩:=x;have w:(decide (0<=k)&&decide (k<↑(Aa fs)))=true:=by simp only[Ac,decide_eq_true_eq];exact⟨P,J⟩
 have d:k.toNat<fs.length:=by omega
 have O:decide (k.toNat<fs.length)=true:=decide_eq_true d;have f:(Af fs k.toNat (aI .pfd)).2 ≠[]:=p _ (by rw[Aq,Ah d];exact BU d);have L:wtL (Af fs k.toNat (aI .pfd)).2 <=cM fs:=azO fs k.toNat d;have z:=zk (Af fs k.toNat (aI .pfd)).2;have c:=arb f;simp only[B7,Al,Bf];refine aD (by simp;omega) (aD w (aD O (aD (decide_eq_true (by omega)) (aD w (aD (by simp only[Ac,decide_eq_true_eq];exact⟨d,Int.ofNat_lt.1 c⟩) (aD w (aD (by simp only[Ac,decide_eq_true_eq];exact⟨Da _,d⟩) (aD (decide_eq_true c) (aD (decide_eq_true (by omega)) (aD (by simp only[Ac,decide_eq_true_eq,AD];exact⟨Da _,d⟩) (aD (by simp only[AD];exact Da _) ?_)))))))))));exact go _ (aEV _ fs k.toNat d (aMp n _ f))
theorem aGl(d e:Bs)(c n:Int)(name:Bs)(t:0<=c∧c<=255):aH Tryz.prog 3 [.sl .u8 (.may false) d,.sl .u8 (.may false) e,.int .u8 c,.int .u64 n,.str name] (.bool true):=by
 by_cases j:d.length<=120∧e.length<=60
 ·have p:=aqB d 0 ⟨by omega,by omega,by omega⟩;have hp:=(aqX p).2;by_cases k:(pick (bm d 0)).2.2.1 =true->∃r,fL e 0 (pick (bm d 0)).1 (pick (bm d 0)).2.1 [97,46,77] 0 r
  ·obtain⟨r,f,i⟩:=azP d e c n name λ_ _=>k
   cases i;exact f
  ·have m:(pick (bm d 0)).2.2.1 =true:=D7 λh=>k λq=>absurd q h
   have l:=aNv e 0 (pick (bm d 0)).1 (pick (bm d 0)).2.1 [97,46,77] 0 (by decide) (by decide) (hp m) ⟨by omega,by omega,by omega⟩;obtain⟨r,f,i⟩:=aJU d e c n name t λ_ _ _=>l.resolve_left λh=>k λ_=>h
   cases i;exact f
 ·obtain⟨r,f,i⟩:=azP d e c n name λa b=>absurd ⟨a,b⟩ j
  cases i;exact f
theorem aEW(b c:Bs)(a n:Int)(name:Bs):aH Tryz.prog 3 [.sl .u8 (.may false) b,.sl .u8 (.may false) c,.int .u8 a,.int .u64 n,.str name] (.bool true):=by
 refine aH.fits λd=>aGl b c a n name ?_
 have:=d (.int .u8 a) (by simp);simpa [V.fits,BI,Bo,AN,A6] using this
end
section
open Go.ChangeShapes Go.WideShapes Go.AM
theorem aGQ{α:Type}{p:Nat->α->Prop}:∀n,(∀i,i<n->∃x,p i x)->∃l:List α,l.length=n∧∀i x,l[i]? =some x->p i x
 |0,_=>⟨[],rfl,by simp⟩
 |n+1,h=>by
  obtain⟨l,c,d⟩:=aGQ n λi b=>h i (by omega)
  obtain⟨x,e⟩:=h n (by omega);refine⟨l++[x],by simp[c],λi y a=>?_⟩;rcases AG i l.length with b|b;·rw[Au b] at a;exact d i y a
  ·rw[At b] at a;have f:i=n:=by
    have:=(Ag.1 a).1;simp at this;omega
   subst f;have:x=y:=by simpa [c] using a
   exact this▸e
section
variable{H:Type}{enc:TypeId×Value->H}{w:World}{base:Nat}{held:Bool}
theorem aMq(k:EK){t e:TypeId}(Y:Tryz.prog.underlying t=some (.slice e))(hc:Tryz.prog.cellsOf e=k.sz){n:Nat}{cs:List Value}{x:DataW H×List MemPlace}
  (E:∀m,m+1=n->∀es y,DataW.trod enc Tryz.prog w base (λ_=>true) held m e es=some y->∃x:Ty k,∀(j:Nat) v u,(AM.enc k x)[j]? =some v->es[j]? =some u->VRel (kT w).I id 0 w v u)
  (h:DataW.trod enc Tryz.prog w base (λ_=>true) held n t cs=some x):∃(xs:List (Ty k))(cv:Value),cs=[cv]∧VRel (kT w).I id 0 w (.sl k (.may false) xs) cv:=by
 have F:0<k.sz:=by cases k<;>simp[EK.sz]
 rcases DataW.trod_slice Y h with⟨rfl, -⟩|⟨a,q,cap,B,rest,m,rfl,rfl, -,hb,hl,N,O,z,G, -⟩
 ·exact⟨[],_,rfl,.sln _ _⟩
 obtain⟨X,P⟩:=G rfl;rw[hc] at z P;by_cases S:cap=0
 ·subst S;obtain rfl:q=0:=by omega
  exact⟨[],_,rfl,.sle _ _ a (by simp)⟩
 have first:∃es y,w.cells? base (a.add (0*k.sz)) k.sz=some es∧DataW.trod enc Tryz.prog w base (λ_=>true) held m e es=some y:=by
  by_cases J:q=0
  ·have c:=P 0 (by omega);rw[J] at c;have d:0<rest.length:=by omega
   rw[Ah d,B9] at c;obtain⟨es,f,r⟩:=c;exact⟨es,_,f,r⟩
  ·have c:=z 0 (by omega);have d:0<B.length:=by omega
   rw[Ah d,B9] at c;obtain⟨es,f,r⟩:=c;exact⟨es,_,f,r⟩
 have l:a.spot=none:=by
  obtain⟨es,y,c, -⟩:=first
  obtain⟨d,f,r⟩:=World.cells?_some c;have D:=r 0 F;rw[Ah (by omega)] at D;simp only[Nat.zero_mul,Addr.add,if_true,By] at D;split at D
  ·cases hs:a.spot with
   |none=>rfl
   |some s=>simp[hs] at D
  ·cases D
 obtain⟨b,C,M⟩:=a;simp only at l;subst l;obtain⟨xs,L,A⟩:=aGQ (α:=Ty k) (p:=λi x=>∀j v,(AM.enc k x)[j]? =some v->∃u,w.cell? ⟨b,C+i*k.sz+j,none⟩=some u∧VRel (kT w).I id 0 w v u) q (by
  intro i Z;have c:=z i Z;rw[Ah (by omega),B9] at c;obtain⟨es,d,f⟩:=c;obtain⟨x,hx⟩:=E m rfl es _ f;obtain⟨r,D,W⟩:=World.cells?_some d;refine⟨x,λj v Q=>?_⟩;have hj:j<k.sz:=by
   have:=(Ag.1 Q).1
   rwa [cQ] at this
  have R:=W j hj;rw[Ah (by omega),add_plain,add_plain] at R;exact⟨_,R,hx j v _ Q (Ah (by omega))⟩)
 refine⟨xs,_,rfl,.sl k (.may false) xs b C q cap L (by omega) (by unfold maxLen at N;unfold cj;exact N) (by simp) (λi j=>(w.cell? ⟨b,C+i*k.sz+j,none⟩).getD undef) ?_ ?_ ?_⟩;·intro i x j c d;obtain⟨u,f, -⟩:=A i x c j _ (Ah d);show (w.cell? _).isSome=true;rw[f];rfl
 ·intro i x j c d;obtain⟨u,f, -⟩:=A i x c j _ (Ah d);rw[f];rfl
 ·intro i x j v c d;obtain⟨u,f,r⟩:=A i x c j v d;rw[f];exact r
theorem aIc{n:Nat}{cs:List Value}{x:DataW H×List MemPlace}(h:DataW.trod enc Tryz.prog w base (λ_=>true) held n 22 cs=some x):
  ∃(xs:List UInt8)(cv:Value),cs=[cv]∧VRel (kT w).I id 0 w (.sl .u8 (.may false) xs) cv:=
 aMq .u8 Tryz.underlying22 (by kernel_rfl) (λm i es y e=>by
  obtain⟨c,rfl, -,d⟩:=DataW.trod_int Tryz.underlying5 e;have f:0<=c∧c<=255:=by simpa [Lit.wf,BI,Bo,AN,A6] using d
  refine⟨AC c.toNat,λj v u b a=>?_⟩;obtain rfl:j=0:=by have:=(Ag.1 a).1;simpa using this
  simp only[AM.enc,BK,Ae] at b a;subst b a;have:((AC c.toNat).toNat:Int)=c:=by rw[UInt8.toNat_ofNat'];omega
  rw[this];exact .int _ _ (by simpa [Lit.wf] using d)) h
theorem awW{r:Reach}{k:Nat}{v:Value}{d:DataW H}{p:List MemPlace}(j:Value.okWide Tryz.prog w r k 22 v)(h:DataW.Trod enc Tryz.prog w base (λ_=>true) held 22 v d p):
  ∃xs:List UInt8,VRel (kT w).I id 0 w (.sl .u8 (.may false) xs) v:=by
 obtain⟨a,b,cap,rfl⟩:=okWide_slice Tryz.underlying22 j;obtain⟨c,f⟩:=h;obtain⟨xs,cv,e,i⟩:=aIc f;have e:[Value.slice a b cap]=[cv]:=e;cases e;exact⟨xs,i⟩
end
end
end Go.Proofs.YtndccphabnjkhaaGreat
end
