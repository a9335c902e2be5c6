import Derived.Below
import Derived.KernelRfl
import Derived.Test.YtkinflmjagfapaaDoorChecked
import Derived.Lib.ItoaNum
import Derived.Lib.Join
import Derived.Lib.SlTrimSet
import Derived.Lib.Split
import Derived.Lib.Bytealg
import Derived.Lib.LastIndexByte
import Derived.WalkKit
import Derived.WalkSpells
import Derived.Laws.Externs
import Derived.Lib.Builder
import Derived.Lib.UnsafeStr
import Derived.Test.YtkinflmjagfapaaDoorZ00
import Derived.Test.YtkinflmjagfapaaDoorZ01
open Array renaming getElem?_eq_getElem→As,getElem?_eq_some_iff→AQ,getD→Bg,getElem?_eq_none→Cd,getElem?_modify→Cj
open BitVec renaming ofInt→Ce
open Bool renaming and_eq_true→Ac,or_eq_true→A7,not_eq_true'→BK,false_or→B8,or_false→Cl
open Classical renaming propDecidable→Cy
open Eq renaming trans→A8
open Go.Builtin renaming unsafeString_→Dm,unsafeSliceData_→D9
open Go.IntKind renaming wrap→Ae,signed→Bj,bits→BA
open Go.Lib renaming run_unsafeString_none→CW,run_unsafeSliceData_row→DL
open Go.Oper renaming upon_value→Ds
open Go.World renaming cell?→Bv,frozen?→BD
open Int renaming toNat→Ah,toNat_natCast→At,tmod→BG,tmod_eq_emod_of_nonneg→BJ,tdiv_eq_ediv_of_nonneg→BX,tdiv→Ck,fdiv_eq_ediv_of_nonneg→DR
open List renaming getElem?_eq_getElem→Ab,getElem?_eq_some_iff→Ad,length_cons→Af,length_append→Aj,length_nil→Ak,getD_eq_getElem?_getD→Al,mem_of_getElem?→Am,getD→An,all_eq_true→Ap,mem_singleton→Au,getElem?_append_right→Av,getElem?_append_left→Aw,getElem?_set→Ay,mem_append→Az,getElem?_map→AA,mem_cons→AB,append_assoc→AC,mem_map→AG,drop_eq_getElem_cons→AK,mem_cons_of_mem→AL,mem_append_left→AN,length_set→AO,range→AU,mem_flatMap→AX,mem_cons_self→AY,mem_range→AZ,mem_iff_getElem→A0,map_cons→A2,getElem?_set_ne→A5,length_map→A6,getElem?_cons_succ→A9,map_congr_left→Bh,range'→Bm,getElem?_cons_zero→Bq,getElem?_set_self→Bw,flatMap_cons→BC,map_append→BF,length_take→BI,nodup_nil→BY,mem_append_right→B0,contains_iff_mem→B1,zip_cons_cons→B3,zipWith→B6,all_cons→Cm,any_eq_true→Cu,getD_cons_zero→Cw,getD_cons_succ→Cx,mem_map_of_mem→CT,nodup_cons→CV,contains_cons→C4,ext_getElem?→Db,set_eq_take_append_cons_drop→Dd,of_mem_zip→Dr,drop_set_of_lt→Dz,getElem?_range→DB,take_set_of_le→DC,contains_nil→D1,nodup_append→D2,mem_of_find?_eq_some→D5,mem_or_eq_of_mem_set→D6
open Nat renaming le_refl→Ar,beq→AD,lt_of_lt_of_le→AE,lt_or_ge→AH,le_trans→AR,eq_of_beq_eq_true→AS,zero_add→Be,zero_le→BB,add_zero→B5,blt→B9,sub_self→Cf,blt_eq→Cp,mod_eq_of_lt→Ct,lt_trichotomy→CG,mul_one→CS,le_add_right→Dg,xor_lt_two_pow→DP
open Option renaming map_eq_some_iff→Aq,getD_some→Bk,isSome_iff_exists→Bz,map_some→BE
open Option.some renaming injEq→Ai,inj→Ax
open Prod.mk renaming injEq→Ao
open UInt8 renaming ofNat→AF
set_option linter.all false
set_option maxRecDepth 100000
noncomputable section
namespace Go.AM
def V.flatE:V->Bool
 | .ea cs=>cs.all V.flat1
 |v=>v.flat1
def V.flat2:V->Bool
 | .agg cs=>cs.all V.flat1
 | .ea cs=>cs.all V.flat1
 | .fn _ cs=>cs.all V.flatE
 |v=>v.flat1
def V.flat:V->Bool
 | .tup cs=>cs.all V.flat2
 |v=>v.flat2
section
variable{I:Nat->Nat->Prop}{ρ ρ':Nat->Nat}{N N':Nat}{w:World}{P:Program}
theorem VRel.flatE{v:V}{cv:Value}(h:VRel I ρ N w v cv)(i:v.flatE=true):VRel I ρ' N' w v cv:=by
 cases h with
 |ea cs b a f x q m g=>simp only[V.flatE,Ap] at i;exact .ea cs b a f x q m (λj c e=>(g j c e).flat1 (i c (Am e)))
 |bool b=>exact .bool b
 |int k n h=>exact .int k n h
 |str l s d h=>exact .str l s d h
 |sln k o=>exact .sln k o
 |sle k o y u=>exact .sle k o y u
 |sl k o xs b a len cap d e t p f q m g=>exact(VRel.sl k o xs b a len cap d e t p f q m g).flat1 rfl
 |nilp=>exact .nilp
 |nilif=>exact .nilif
 |fn f cs vs d g=>
  cases cs with
  |nil=>exact .fn f [] vs d (by simp)
  |cons c cs=>simp[V.flatE,V.flat1] at i
 |_=>simp[V.flatE,V.flat1] at i
theorem VRel.flat2{v:V}{cv:Value}(h:VRel I ρ N w v cv)(m:v.flat2=true):VRel I ρ' N' w v cv:=by
 cases h with
 |ea cs b d f u t p j=>exact(VRel.ea cs b d f u t p j).flatE m
 |agg cs vs a u x j=>simp only[V.flat2,Ap] at m;exact .agg cs vs a u x (λi c cv g e=>(j i c cv g e).flat1 (m c (Am g)))
 |bool b=>exact .bool b
 |int k n h=>exact .int k n h
 |str l s a h=>exact .str l s a h
 |sln k o=>exact .sln k o
 |sle k o B A=>exact .sle k o B A
 |sl k o xs b d len cap a g y q f t p j=>exact(VRel.sl k o xs b d len cap a g y q f t p j).flat1 rfl
 |nilp=>exact .nilp
 |nilif=>exact .nilif
 |fn f cs vs a j=>simp only[V.flat2,Ap] at m;exact .fn f cs vs a (λi c cv g e=>(j i c cv g e).flatE (m c (Am g)))
 |_=>simp[V.flat2,V.flat1] at m
theorem VRel.flat{v:V}{cv:Value}(h:VRel I ρ N w v cv)(g:v.flat=true):VRel I ρ' N' w v cv:=by
 cases h with
 |tup cs vs a d=>simp only[V.flat,Ap] at g;exact .tup cs vs a (λi c cv j m=>(d i c cv j m).flat2 (g c (Am j)))
 |agg cs vs a u x d=>exact(VRel.agg cs vs a u x d).flat2 g
 |bool b=>exact .bool b
 |int k n h=>exact .int k n h
 |str l s a h=>exact .str l s a h
 |sln k o=>exact .sln k o
 |sle k o B A=>exact .sle k o B A
 |sl k o xs b e len cap a j y q f t p d=>exact(VRel.sl k o xs b e len cap a j y q f t p d).flat1 rfl
 |nilp=>exact .nilp
 |nilif=>exact .nilif
 |fn f cs vs a d=>exact(VRel.fn f cs vs a d).flat2 g
 |ea cs b e f u t p d=>exact(VRel.ea cs b e f u t p d).flat2 g
 |_=>simp[V.flat,V.flat2,V.flat1] at g
def aF(P:Program)(f:FuncId)(vs:List V)(v:V):Prop:=∃hp',eO P f vs [] v hp'
theorem aF.frame{f:FuncId}{vs:List V}{v:V}(h:aF P f vs v)(hf:vs.all V.flat=true)(X:v.flat=true)(hp:List ai):eO P f vs hp v hp:=by
 obtain⟨hp',h⟩:=h;intro w g G W p L H M;let g₀:Gh:={I:=g.I,ρ:=g.ρ,O:=λ_=>none,β:=g.β}
 have h0:HR g₀ [] w:=⟨by simp,by simp,by simp,by simp,p.exI,by simp[g₀]⟩
 refine(h w g₀ G (W.sub rfl (λh=>h) (λh=>by simp[g₀,h])) h0 L H (λi x cv Y y=>(M i x cv Y y).flat (Ap.1 hf x (Am Y)))).mono ?_;rintro e w' ⟨cv,g₁,rfl,q1,u,q3,Z⟩;have blk:∀b,b<w.heap.size->w'.heap[b]? =w.heap[b]?:=λb m=>u.block b m (by simp) rfl
 have q:∀b j,b<w.heap.size->g₁.I b j->g.I b j:=λb j m C=>u.iSame b j m (by simp) rfl C
 have D:∀b,b<w.heap.size->g₁.O b=none:=λb m=>u.oSame b m (by simp) rfl
 let a:Gh:={I:=g₁.I,ρ:=g.ρ,O:=λb=>if b<w.heap.size then g.O b else (if g₁.O b=some .res then some .res else none),β:=g.β}
 have up:Up g.I g.ρ hp.length w a.I a.ρ hp.length w':=⟨u.up.mono,u.up.cell,λ_ _=>rfl,Ar _⟩
 have F:∀(id:Nat) cs,hp[id]? =some (some cs)->g.ρ id<w.heap.size:=by intro id cs d;exact(p.obj id cs d).lt
 have E:∀A v cv,ap g w A v cv->ap a w' A v cv:=by intro A v cv ho;refine cH ho rfl (λb j C=>⟨up.mono b j C,up.cell b j C⟩) ?_;intro b m;have t:=p.oLt b A m;exact⟨by simp[a,t,m],blk b t,λj hj=>q b j t hj⟩
 refine⟨cv,a,rfl,⟨?_,p.apart,?_,?_,q1.exI,?_⟩,⟨rfl,u.os,u.tape,u.output,u.size,λb m _ _=>blk b m,up,λb j m _ _ C=>q b j m C,?_,λ_ cs h=>.inl ⟨cs,h⟩⟩,?_,?_⟩
 ·intro id cs d;refine(p.obj id cs d).keep (blk _ (F id cs d)) λQ e fz h1 B=>?_
  exact⟨B.len,B.plain,B.typedUp rfl up.rho up.num rfl,B.cold,B.one,λj c cv S y=>(B.rel j c cv S y).up up,λj c cv S y=>E _ _ _ (B.own j c cv S y),B.bn⟩
 ·intro id cs d j C;exact p.notI id cs d j (q _ j (F id cs d) C)
 ·intro id cs d;have:=F id cs d;simp[a,this,p.notO id cs d]
 ·intro b o m;simp only[a] at m;split at m;·rename_i t;exact AE t u.size
  ·split at m;·rename_i J;exact q1.oLt b _ J
   ·simp at m
 ·intro b m _ hO;simp[a,m,hO]
 ·exact q3.flat X
 ·unfold ap at Z ⊢;split
  ·rename_i k xs ad len cap;obtain⟨R,o2,o3⟩:=Z;refine⟨?_,(by obtain⟨Q,e,fz,a1,a2,a3⟩:=o2;exact⟨Q,e,fz,a1,a2,λhk=>(a3 hk).trans u.beta⟩),o3⟩;have:¬ad.block<w.heap.size:=by
    intro t;rw[D _ t] at R;simp at R
   simp[a,this,R]
  ·simp[V.flat,V.flat2,V.flat1] at X
  ·simp[V.flat,V.flat2,V.flat1] at X
  ·trivial
theorem aF.frameU{f:FuncId}{vs:List V}{k:EK}{xs:List (Ty k)}(h:aF P f vs (.ul k xs))(hf:vs.all V.flat=true)(hp:List ai):eO P f vs hp (.ul k xs) hp:=by
 obtain⟨hp',h⟩:=h;intro w g G R p M H Q;let g₀:Gh:={I:=g.I,ρ:=g.ρ,O:=λ_=>none,β:=g.β}
 have h0:HR g₀ [] w:=⟨by simp,by simp,by simp,by simp,p.exI,by simp[g₀]⟩
 refine(h w g₀ G (R.sub rfl (λh=>h) (λh=>by simp[g₀,h])) h0 M H (λi x cv X y=>(Q i x cv X y).flat (Ap.1 hf x (Am X)))).mono ?_;rintro e w' ⟨cv,g₁,rfl,Y,u,q3,S⟩;have blk:∀b,b<w.heap.size->w'.heap[b]? =w.heap[b]?:=λb d=>u.block b d (by simp) rfl
 have q:∀b j,b<w.heap.size->g₁.I b j->g.I b j:=λb j d C=>u.iSame b j d (by simp) rfl C
 have D:∀b,b<w.heap.size->g₁.O b=none:=λb d=>u.oSame b d (by simp) rfl
 let a:Gh:={I:=g₁.I,ρ:=g.ρ,O:=λb=>if b<w.heap.size then g.O b else (if g₁.O b=some .res then some .res else none),β:=g.β}
 have up:Up g.I g.ρ hp.length w a.I a.ρ hp.length w':=⟨u.up.mono,u.up.cell,λ_ _=>rfl,Ar _⟩
 have F:∀(id:Nat) cs,hp[id]? =some (some cs)->g.ρ id<w.heap.size:=by intro id cs m;exact(p.obj id cs m).lt
 have E:∀A v cv,ap g w A v cv->ap a w' A v cv:=by intro A v cv ho;refine cH ho rfl (λb j C=>⟨up.mono b j C,up.cell b j C⟩) ?_;intro b d;have t:=p.oLt b A d;exact⟨by simp[a,t,d],blk b t,λj hj=>q b j t hj⟩
 refine⟨cv,a,rfl,⟨?_,p.apart,?_,?_,Y.exI,?_⟩,⟨rfl,u.os,u.tape,u.output,u.size,λb d _ _=>blk b d,up,λb j d _ _ C=>q b j d C,?_,λ_ cs h=>.inl ⟨cs,h⟩⟩,?_,?_⟩
 ·intro id cs m;refine(p.obj id cs m).keep (blk _ (F id cs m)) λL e Z h1 B=>?_
  exact⟨B.len,B.plain,B.typedUp rfl up.rho up.num rfl,B.cold,B.one,λj c cv W y=>(B.rel j c cv W y).up up,λj c cv W y=>E _ _ _ (B.own j c cv W y),B.bn⟩
 ·intro id cs m j C;exact p.notI id cs m j (q _ j (F id cs m) C)
 ·intro id cs m;have:=F id cs m;simp[a,this,p.notO id cs m]
 ·intro b o d;simp only[a] at d;split at d;·rename_i t;exact AE t u.size
  ·split at d;·rename_i J;exact Y.oLt b _ J
   ·simp at d
 ·intro b d _ hO;simp[a,d,hO]
 ·cases q3 with
  |ul _ _ ad cap hm=>exact .ul _ _ ad cap hm
 ·have no:∀b,g₁.O b=some .res->a.O b=some .res:=by
   intro b d;have:¬b<w.heap.size:=by intro t;rw[D _ t] at d;simp at d
   simp[a,this,d]
  rcases S with S|⟨b,cap,L,e,Z,m0,m1,m2,m3,m4,m5,m6,m7,m8,m9⟩
  ·exact .inl S
  ·exact .inr ⟨b,cap,L,e,Z,m0,m1,m2,m3,no _ m4,m5,m6,λhk=>(m7 hk).trans u.beta,m8,m9⟩
def V.flatU:V->Bool
 | .ul _ _=>true
 |v=>v.flat
theorem aF.frameR{f:FuncId}{vs:List V}{v:V}(h:aF P f vs v)(a:vs.all V.flat=true)(d:v.flatU=true)(hp:List ai):eO P f vs hp v hp:=by
 by_cases b:∃k xs,v=.ul k xs;·obtain⟨k,xs,rfl⟩:=b;exact h.frameU a hp
 ·refine h.frame a ?_ hp;cases v<;>first|exact d|exact absurd ⟨_,_,rfl⟩ b
end
def V.flatO:V->Bool
 | .bn _ _=>true
 | .ul _ _=>true
 |v=>v.flat1
section
variable{I:Nat->Nat->Prop}{ρ ρ':Nat->Nat}{N N':Nat}{w:World}{P:Program}
theorem VRel.flatO{v:V}{cv:Value}(h:VRel I ρ N w v cv)(m:v.flatO=true):VRel I ρ' N' w v cv:=by
 cases h with
 |bn E n p=>exact .bn E n p
 |ul k xs i cap e=>exact .ul k xs i cap e
 |bool b=>exact .bool b
 |int k n h=>exact .int k n h
 |str l s a h=>exact .str l s a h
 |sln k o=>exact .sln k o
 |sle k o i q=>exact .sle k o i q
 |sl k o xs b d len cap a t e g f x u j=>exact(VRel.sl k o xs b d len cap a t e g f x u j).flat1 rfl
 |nilp=>exact .nilp
 |nilif=>exact .nilif
 |fn f cs vs a j=>
  cases cs with
  |nil=>exact .fn f [] vs a (by simp)
  |cons c cs=>simp[V.flatO,V.flat1] at m
 |_=>simp[V.flatO,V.flat1] at m
theorem afB{cs:List V}(h:cs.all V.flatO=true):cF cs=false:=by
 unfold cF;split;·simp[V.flatO,V.flat1] at h
 ·simp[V.flatO,V.flat1] at h
 ·simp[V.flatO,V.flat1] at h
 ·rfl
theorem ap.reloc{g m:Gh}{w:World}{i d:Occ}{v:V}{cv:Value}(h:ap g w i v cv)(j:m.β=g.β)(o:m.I=g.I)
  (t:∀b,g.O b=some i->m.O b=some d):ap m w d v cv:=by
 unfold ap at h ⊢;split;·rename_i k xs a len cap;obtain⟨p,⟨f,C,x,M,S,W⟩,u⟩:=h;exact⟨t _ p,⟨f,C,x,M,S,λq=>(W q).trans j.symm⟩,by rw[o];exact u⟩
 ·obtain⟨p,B,u⟩:=h;exact⟨t _ p,B,by rw[o];exact u⟩
 ·rcases h with h|⟨b,cap,y,e,x,A,J,R,G,E,F,D,H,Q,L⟩
  ·exact .inl h
  ·exact .inr ⟨b,cap,y,e,x,A,J,R,G,t _ E,F,D,λq=>(H q).trans j.symm,by rw[o];exact Q,by rw[o];exact L⟩
 ·trivial
def V.ren(σ:Nat->Nat):V->V
 | .ptr i o=>.ptr (σ i) o
 |v=>v
def V.flatP(n:Nat):V->Bool
 | .ptr i 0=>decide (i<n)
 |v=>v.flat
theorem V.ren_flat{σ:Nat->Nat}{v:V}(h:v.flat=true):v.ren σ=v:=by cases v<;>simp[V.flat,V.flat2,V.flat1] at h<;>rfl
theorem V.ren_bare{σ:Nat->Nat}{v:V}:(v.ren σ).bare=v.bare:=by cases v<;>rfl
def be(P:Program)(f:FuncId)(avs:List V)(css:List (List V))(v:V)(css':List (List V)):Prop:=
 css'.length=css.length∧∃rest,eO P f avs (css.map some) v (css'.map some++rest)
theorem be.frame{f:FuncId}{avs:List V}{css css':List (List V)}{v:V}(h:be P f avs css v css')(ha:avs.all (V.flatP css.length)=true)(hv:v.flat=true)
  (hc:css.all (λcs=>cs.all V.flatO)=true) (c3:css'.all (λcs=>cs.all V.flatO)=true) {hp hp':List ai} {σ:Nat->Nat}
  (b2:∀k k',k<css.length->k'<css.length->σ k=σ k'->k=k')
  (h1:∀(k:Nat) cs,css[k]? =some cs->hp[σ k]? =some (some cs)) (h2:hp'.length=hp.length)
  (h3:∀(k:Nat) cs,css'[k]? =some cs->hp'[σ k]? =some (some cs))
  (h4:∀id,(∀k,k<css.length->σ k≠id)->hp'[id]? =hp[id]?):eO P f (avs.map (V.ren σ)) hp v hp':=by
 obtain⟨c2,rest,h⟩:=h;intro w g X c4 u cd bx b6;have b4:∀(k:Nat) cs,css[k]? =some cs->cs.all V.flatO=true:=λk cs a=>Ap.1 hc cs (Am a)
 have a4:∀(k:Nat) cs,css'[k]? =some cs->cs.all V.flatO=true:=λk cs a=>Ap.1 c3 cs (Am a)
 have J:∀(k:Nat) cs,css[k]? =some cs->k<css.length:=λk cs a=>(Ad.1 a).1
 have A:∀(k:Nat) cs,(css.map some)[k]? =some (some cs)->css[k]? =some cs:=by
  intro k cs a;rw[AA] at a;cases R:css[k]? with
  |none=>rw[R] at a;simp at a
  |some x=>rw[R] at a;simpa using a
 have sub:∀k,k<css.length->∃cs,css[k]? =some cs∧hp[σ k]? =some (some cs):=λk a=>⟨css[k],Ab a,h1 k _ (Ab a)⟩
 let inv:Nat->Option Nat:=λi=>(AU css.length).find? λk=>σ k==i
 have L:∀i k,inv i=some k->k<css.length∧σ k=i:=by intro i k a;have m1:=D5 a;have m2:=List.find?_some a;exact⟨AZ.1 m1,by simpa using m2⟩
 have a0:∀k,k<css.length->inv (σ k)=some k:=by
  intro k a;cases R:inv (σ k) with
  |none=>have:=List.find?_eq_none.1 R k (AZ.2 a);simp at this
  |some k'=>obtain⟨m1,m2⟩:=L _ _ R;rw[b2 k' k m1 a m2]
 let g₀:Gh:={I:=g.I,ρ:=λk=>g.ρ (σ k),O:=λb=>match g.O b with|some (.cell i j)=>(inv i).map λk=>.cell k j|_=>none,β:=g.β}
 have gO:∀b o,g₀.O b=some o->∃k j,k<css.length∧o=.cell k j∧g.O b=some (.cell (σ k) j):=by
  intro b o q;simp only[g₀] at q;split at q
  ·rename_i i j hg;cases R:inv i with
   |none=>rw[R] at q;simp at q
   |some k=>rw[R] at q;obtain⟨m1,m2⟩:=L _ _ R;exact⟨k,j,m1,by simpa using q.symm,by rw[m2];exact hg⟩
  ·simp at q
 have gN:∀b,(∀k j,k<css.length->g.O b≠some (.cell (σ k) j))->g₀.O b=none:=by
  intro b q;cases R:g₀.O b with
  |none=>rfl
  |some o=>obtain⟨k,j,a,_,p⟩:=gO b o R;exact absurd p (q k j a)
 have gC:∀b k j,k<css.length->g.O b=some (.cell (σ k) j)->g₀.O b=some (.cell k j):=by intro b k j a q;simp[g₀,q,a0 k a]
 have dj:∀k,k<css.length->g₀.O (g.ρ (σ k))=none:=by intro k a;obtain⟨cs,_,Y⟩:=sub k a;exact gN _ (by intro k' j _ p;rw[u.notO _ cs Y] at p;cases p)
 have h0:HR g₀ (css.map some) w:=by
  refine⟨?_,?_,?_,?_,u.exI,?_⟩
  ·intro k c a;have a:=A k c a;refine(u.obj _ c (h1 k c a)).keep rfl λen e fz a1 F=>?_
   have hr:=afB (b4 k c a);refine⟨F.len,F.plain,by rw[mh hr];simp,F.cold,F.one,?_,?_,F.bn⟩;·intro j Q cv p D;exact(F.rel j Q cv p D).flatO (Ap.1 (b4 k c a) Q (Am (by rw[eM hr] at p;exact p)))
   ·intro j Q cv p D;exact(F.own j Q cv p D).reloc rfl rfl λb q=>gC b k j (J k c a) q
  ·intro k k' c Q a y C;have a:=A k c a;have y:=A k' Q y;exact u.apart _ _ _ _ (h1 k c a) (h1 k' Q y) λe=>C (b2 k k' (J k c a) (J k' Q y) e)
  ·intro k c a;exact u.notI _ c (h1 k c (A k c a))
  ·intro k c a;exact dj k (J k c (A k c a))
  ·intro b o q;obtain⟨k,j,_,_,p⟩:=gO b o q;exact u.oLt b _ p
 have b0:∀(i:Nat) x cv,avs[i]? =some x->X[i]? =some cv->VRel g₀.I g₀.ρ (css.map some).length w x cv:=by
  intro i x cv hx D;have hr:=b6 i (x.ren σ) cv (by rw[AA,hx];rfl) D;have Z:=Ap.1 ha x (Am hx);unfold V.flatP at Z;split at Z
  ·rename_i k;have a:k<css.length:=by simpa using Z
   simp only[V.ren] at hr;cases hr with
   |ptr _ _ _=>exact .ptr k 0 (by simpa using a)
  ·rw[V.ren_flat Z] at hr;exact hr.flat Z
 refine(h w g₀ X (c4.sub rfl (λh=>h) (λh=>by simp[g₀,h])) h0 (by rw[<-cd,A6]) (by intro x hx;have:=bx (x.ren σ) (CT hx);rw[V.ren_bare] at this;exact this) b0).mono ?_;rintro ex w' ⟨cv,g₁,rfl,q1,W,q3,q4⟩;have r0:∀k,k<css.length->g₁.ρ k=g.ρ (σ k):=λk a=>W.up.rho k (by simpa using a)
 have ae:∀b,(∀k,k<css.length->g.ρ (σ k)≠b)->∀(k:Nat) cs,(css.map some)[k]? =some (some cs)->g₀.ρ k≠b:=λb q k cs a=>q k (J k cs (A k cs a))
 have blk:∀b,b<w.heap.size->(∀k,k<css.length->g.ρ (σ k)≠b)->g₀.O b=none->w'.heap[b]? =w.heap[b]?:=λb q C S=>W.block b q (ae b C) S
 let B:Gh:={I:=g₁.I,ρ:=g.ρ,O:=λb=>match g₁.O b with
  |some .res=>some .res
  |some (.cell k j)=>cond (B9 k css.length) (some (.cell (σ k) j)) none
  |some (.slot _)=>none
  |none=>if b<w.heap.size∧g₀.O b=none then g.O b else none,β:=g.β}
 have up:Up g.I g.ρ hp.length w B.I B.ρ hp'.length w':=⟨W.up.mono,W.up.cell,λ_ _=>rfl,by rw[h2];exact Ar _⟩
 have br:∀(i:Nat) c,hp[i]? =some (some c)->g.ρ i<w.heap.size:=by intro i c t;obtain⟨ob,h1⟩:=(u.obj i c t).block;exact(AQ.1 h1).1
 have a9:∀(k:Nat) cs,css'[k]? =some cs->(css'.map some++rest)[k]? =some (some cs):=by intro k cs a;rw[Aw (by simpa using (Ad.1 a).1),AA,a];rfl
 have key:∀(i:Nat) c,hp'[i]? =some (some c)->(∃k d,k<css.length∧i=σ k∧css'[k]? =some c∧hp[i]? =some (some d))∨((∀k,k<css.length->σ k≠i)∧hp[i]? =some (some c)):=by
  intro i c t;by_cases a:∃k,k<css.length∧σ k=i
  ·obtain⟨k,a,rfl⟩:=a;obtain⟨d,_,m⟩:=sub k a;have y:k<css'.length:=by omega
   have:=h3 k _ (Ab y);rw[this] at t;exact .inl ⟨k,d,a,rfl,by rw[Ab y];simpa using t,m⟩
  ·have hn:∀k,k<css.length->σ k≠i:=λk y e=>a ⟨k,y,e⟩
   exact .inr ⟨hn,(h4 i hn).symm.trans t⟩
 have H:∀(i:Nat) c,hp'[i]? =some (some c)->∃d,hp[i]? =some (some d):=by
  intro i c t;rcases key i c t with⟨_,d,_,_,_,h⟩|⟨_,h⟩
  ·exact⟨d,h⟩
  ·exact⟨c,h⟩
 have G:∀(i:Nat) c,(∀k,k<css.length->σ k≠i)->hp[i]? =some (some c)->∀k,k<css.length->g.ρ (σ k)≠g.ρ i:=by intro i c hn t k a;obtain⟨d,_,m⟩:=sub k a;exact u.apart _ _ _ _ m t (hn k a)
 have M:∀b,b<w.heap.size->(∀k,k<css.length->g.ρ (σ k)≠b)->g₀.O b=none->B.O b=g.O b:=by intro b q C S;have:=W.oSame b q (ae b C) S;simp only[B,this];rw[if_pos ⟨q,S⟩]
 have ar:∀b o,g.O b=some o->∀k,k<css.length->g.ρ (σ k)≠b:=by intro b o q k a e;obtain⟨d,_,m⟩:=sub k a;rw[<-e,u.notO _ d m] at q;cases q
 refine⟨cv,B,rfl,⟨?_,?_,?_,?_,q1.exI,?_⟩,⟨rfl,W.os,W.tape,W.output,W.size,?_,up,?_,?_,?_⟩,?_,?_⟩
 ·intro i c t;rcases key i c t with⟨k,d,a,rfl,y,Y⟩|⟨C,t⟩
  ·refine(q1.obj k c (a9 k c y)).keep (by rw[r0 k a]) λci e' fz a1 F=>?_
   rw[r0 k a] at a1;have hr:=afB (a4 k c y);refine⟨F.len,F.plain,by rw[mh hr];simp,F.cold,F.one,?_,?_,?_⟩;·intro j Q cv p D;exact(F.rel j Q cv p D).flatO (Ap.1 (a4 k c y) Q (Am (by rw[eM hr] at p;exact p)))
   ·intro j Q cv p D;refine(F.own j Q cv p D).reloc W.beta.symm rfl λb q=>?_
    have c5:B9 k css.length=true:=by rw[Cp];exact a
    simp[B,q,c5]
   ·intro j E n p;have:=F.bn j E n p;rw[r0 k a] at this;exact this
  ·have ad:g₀.O (g.ρ i)=none:=gN _ (by intro k j _ p;rw[u.notO i c t] at p;cases p);refine(u.obj i c t).keep (blk _ (br i c t) (G i c C t) ad) λci e' fz a1 F=>?_
   refine⟨F.len,F.plain,F.typedUp rfl (λ_ _=>rfl) up.num rfl,F.cold,F.one,λj c cv p D=>(F.rel j c cv p D).up up,?_,F.bn⟩;intro j Q cv p D;refine cH (F.own j Q cv p D) rfl (λb j t=>⟨up.mono b j t,up.cell b j t⟩) ?_;intro b q;have a5:=u.oLt b _ q;have S:g₀.O b=none:=gN _ (by intro k j' a cc;rw[q] at cc;cases cc;exact C k a rfl);have al:=ar b _ q;exact⟨(M b a5 al S).trans q,blk b a5 al S,λj p=>W.iSame b j a5 (ae b al) S p⟩
 ·intro i i' c Q t c0 C;obtain⟨d,m1⟩:=H i c t;obtain⟨dp,m2⟩:=H i' Q c0;exact u.apart _ _ _ _ m1 m2 C
 ·intro i c t j p;rcases key i c t with⟨k,d,a,rfl,y,Y⟩|⟨C,t⟩
  ·have:=q1.notI k c (a9 k c y) j;rw[r0 k a] at this;exact this p
  ·have ad:g₀.O (g.ρ i)=none:=gN _ (by intro k j _ p;rw[u.notO i c t] at p;cases p);exact u.notI i c t j (W.iSame _ j (br i c t) (ae _ (G i c C t)) ad p)
 ·intro i c t;rcases key i c t with⟨k,d,a,rfl,y,Y⟩|⟨C,t⟩
  ·have:=q1.notO k c (a9 k c y);rw[r0 k a] at this;simp only[B,this];split;·exact u.notO _ d Y
   ·rfl
  ·have ad:g₀.O (g.ρ i)=none:=gN _ (by intro k j _ p;rw[u.notO i c t] at p;cases p);exact(M _ (br i c t) (G i c C t) ad).trans (u.notO i c t)
 ·intro b o q;simp only[B] at q;split at q;·rename_i R;exact q1.oLt b _ R
  ·rename_i R;exact q1.oLt b _ R
  ·simp at q
  ·split at q;·rename_i R;exact AE R.1 W.size
   ·simp at q
 ·intro b q ho S;exact blk b q (λk a e=>by obtain⟨d,_,m⟩:=sub k a;exact ho _ d m e) (gN _ (by intro k j _ p;rw[S] at p;cases p))
 ·intro b j q ho S t;exact W.iSame b j q (ae b λk a e=>by obtain⟨d,_,m⟩:=sub k a;exact ho _ d m e) (gN _ (by intro k j _ p;rw[S] at p;cases p)) t
 ·intro b q ho S;exact(M b q (λk a e=>by obtain⟨d,_,m⟩:=sub k a;exact ho _ d m e) (gN _ (by intro k j _ p;rw[S] at p;cases p))).trans S
 ·intro i c t;exact .inl (H i c t)
 ·exact q3.flat hv
 ·exact q4.reloc W.beta.symm rfl λb q=>by simp[B,q]
def aui(P:Program)(f:FuncId)(vs cs:List V)(v:V)(a:List V):Prop:=∃rest,eO P f (.ptr 0 0::vs) [some cs] v (some a::rest)
theorem V.flatP_flat{n:Nat}{v:V}(h:v.flat=true):v.flatP n=true:=by
 unfold V.flatP;split;·simp[V.flat,V.flat2,V.flat1] at h
 ·exact h
theorem alS{σ:Nat->Nat}:∀{vs:List V},vs.all V.flat=true->vs.map (V.ren σ)=vs
 | [],_=>rfl
 |v::vs,h=>by simp only[Cm,Ac] at h;rw[A2,V.ren_flat h.1,alS h.2]
theorem aui.frame{f:FuncId}{vs cs a:List V}{v:V}(h:aui P f vs cs v a)(o:vs.all V.flat=true)(t:v.flat=true)(q:cs.all V.flatO=true)(j:a.all V.flatO=true)
  {hp:List ai} {id:Nat} (g:hp[id]? =some (some cs)):eO P f (.ptr id 0::vs) hp v (hp.set id (some a)):=by
 obtain⟨rest,h⟩:=h;have e:id<hp.length:=(Ad.1 g).1
 have:=be.frame (P:=P) (f:=f) (avs:=.ptr 0 0::vs) (css:=[cs]) (css':=[a]) (v:=v) ⟨rfl,rest,h⟩ (hp:=hp) (hp':=hp.set id (some a)) (σ:=λ_=>id)
  (by simp only[Cm,Ac];exact⟨rfl,Ap.2 λx u=>V.flatP_flat (Ap.1 o x u)⟩) t (by simpa using q) (by simpa using j)
  (by intro k k' d m _;simp at d m;omega) (by intro k b d;cases k<;>simp at d;rw[<-d];exact g) (by simp)
  (by intro k b d;cases k<;>simp at d;rw[<-d];simp[e])
  (by intro i p;rw[A5 (p 0 (by simp))])
 rw[A2,alS o] at this;exact this
theorem cI.mono{Γ:aq}{b a:List Nat}(h:cI Γ b)(i:b.all (λx=>a.contains x)=true)(g:a.all (λx=>B9 x 2000000||b.contains x)=true):cI Γ a:=by
 refine⟨?_,λf vs hp c v hp' d=>h.loc f vs hp c v hp' ?_⟩
 rotate_left
 ·have:=Ap.1 g (f+2000000) (by simpa using d);simp only[A7,Cp] at this;rcases this with e|e;·omega
  ·exact e
 intro f vs hp d;refine h.pure f vs hp ?_;cases j:b.contains f with
 |false=>rfl
 |true=>have:=Ap.1 i f (by simpa using j);rw[this] at d;simp at d
def qH:Nat->List V->List V
 |_,[]=>[]
 |k,.ptr _ 0::vs=>.ptr k 0::qH (k+1) vs
 |k,v::vs=>v::qH k vs
def jr(hp:List ai):List Nat->Option (List (List V))
 | []=>some []
 |i::is=>match hp.getD i none with
  |some cs=>match jr hp is with
   |some css=>some (cs::css)
   |none=>none
  |none=>none
def lQ:List ai->List Nat->List (List V)->List ai
 |hp,i::is,c::cs=>lQ (hp.set i (some c)) is cs
 |hp,_,_=>hp
def abE:List Nat->Bool
 | []=>true
 |i::is=> !(is.any (AD i))&&abE is
abbrev rG:=Nat->List V->List (List V)->Option (Bool×V×List (List V))
def rH(G:rG)(Γ:aq):aq:=λf vs hp=>
 match jr hp (di vs) with
 |some css=>match G f (qH 0 vs) css with
  |some (c,v,css')=>cond (abE (di vs)&&AD css'.length css.length&&(qH 0 vs).all (V.flatP css.length)&&v.flat&&css.all (λcs=>cs.all V.flatO)&&css'.all (λcs=>cs.all V.flatO))
    (some (c,v,lQ hp (di vs) css')) none
  |none=>Γ f vs hp
 |none=>Γ f vs hp
theorem afC:∀{l:List Nat},abE l=true->l.Nodup
 | [],_=>BY
 |i::is,h=>by simp only[abE,Ac,BK,List.any_eq_false] at h;refine CV.2 ⟨λa=>?_,afC h.2⟩;exact h.1 i a (by simp)
theorem aaQ{hp:List ai}:∀{is:List Nat}{css:List (List V)},jr hp is=some css->css.length=is.length∧∀(k:Nat) cs,css[k]? =some cs->hp[is.getD k 0]? =some (some cs)
 | [],css,h=>by simp only[jr,Ai] at h;subst h;simp
 |i::is,css,h=>by
  simp only[jr] at h;split at h
  ·rename_i cs a;split at h
   ·rename_i b f;simp only[Ai] at h;subst h;obtain⟨j,g⟩:=aaQ f;refine⟨by simp[j],λk c d=>?_⟩;cases k with
    |zero=>
     simp only[Bq,Ai] at d;subst d;rw[Al] at a;simp only[Cw];cases e:hp[i]? with
     |none=>rw[e] at a;simp at a
     |some x=>rw[e] at a;simpa using a
    |succ k=>simp only[A9] at d;simpa using g k c d
   ·simp at h
  ·simp at h
theorem xf:∀{is:List Nat}{hp:List ai}{css:List (List V)},(lQ hp is css).length=hp.length
 | [],hp,css=>by cases css<;>rfl
 |i::is,hp,[]=>rfl
 |i::is,hp,c::cs=>by simp[lQ,xf]
theorem xW:∀{is:List Nat}{hp:List ai}{css:List (List V)}{id:Nat},id ∉ is->(lQ hp is css)[id]? =hp[id]?
 | [],hp,css,id,_=>by cases css<;>rfl
 |i::is,hp,[],id,_=>rfl
 |i::is,hp,c::cs,id,h=>by simp only[AB,not_or] at h;rw[lQ,xW h.2,A5 (λe=>h.1 e.symm)]
theorem afD:∀{is:List Nat}{hp:List ai}{css:List (List V)},is.Nodup->(∀i∈is,i<hp.length)->∀(k:Nat) cs,k<is.length->css[k]? =some cs->(lQ hp is css)[is.getD k 0]? =some (some cs)
 | [],_,_,_,_,k,_,b,_=>by simp at b
 |i::is,hp,[],_,_,k,_,_,h=>by simp at h
 |i::is,hp,c::cs,m,e,k,g,b,h=>by
  obtain⟨d,a⟩:=CV.1 m;cases k with
  |zero=>simp only[Bq,Ai] at h;subst h;simp only[Cw,lQ];rw[xW d];simp[e i AY]
  |succ k=>simp only[A9] at h;simp only[Cx,lQ];exact afD a (λj f=>by simpa using e j (AL _ f)) k g (by simpa using b) h
theorem afE{σ:Nat->Nat}{n:Nat}:∀{vs:List V}{k:Nat},(∀i,i<(di vs).length->σ (k+i)=(di vs).getD i 0)->(qH k vs).all (V.flatP n)=true->(qH k vs).map (V.ren σ)=vs
 | [],_,_,_=>rfl
 |v::vs,k,a,b=>by
  by_cases d:∃i,v=.ptr i 0;·obtain⟨i,rfl⟩:=d;simp only[qH,A2,V.ren];simp only[di] at a;simp only[qH,Cm,Ac] at b;have f:=a 0 (by simp);simp only[B5,Cw] at f;rw[f,afE (λj m=>by have:=a (j+1) (by simp;omega);rw[Cx] at this;rw[<-this];congr 1;omega) b.2]
  ·have g:qH k (v::vs)=v::qH k vs:=by
    cases v<;>try rfl
    rename_i i o;cases o with
    |zero=>exact absurd ⟨i,rfl⟩ d
    |succ o=>rfl
   have h:di (v::vs)=di vs:=by
    cases v<;>try rfl
    rename_i i o;cases o with
    |zero=>exact absurd ⟨i,rfl⟩ d
    |succ o=>rfl
   rw[h] at a;rw[g] at b ⊢;simp only[Cm,Ac] at b;have e:v.flat=true:=by
    have:=b.1;unfold V.flatP at this;split at this;·rename_i i;exact absurd ⟨i,rfl⟩ d
    ·exact this
   rw[A2,V.ren_flat e,afE a b.2]
theorem ase{G:rG}{Γ:aq}(E:∀f avs css v css',G f avs css=some (true,v,css')->be P f avs css v css')(g:ca P Γ):ca P (rH G Γ):=by
 intro f vs hp v hp' h;unfold rH at h;split at h
 ·rename_i css b;split at h
  ·rename_i c x css' C;cases a:(abE (di vs)&&AD css'.length css.length&&(qH 0 vs).all (V.flatP css.length)&&x.flat&&css.all (λcs=>cs.all V.flatO)&&css'.all (λcs=>cs.all V.flatO)) with
   |false=>rw[a] at h;simp at h
   |true=>
    rw[a] at h;simp only[cond_true,Ai,Ao] at h;obtain⟨rfl,rfl,rfl⟩:=h;simp only[Ac] at a;obtain⟨⟨⟨⟨⟨F,D⟩,u⟩,B⟩,A⟩,J⟩:=a;obtain⟨Q,t⟩:=aaQ b;have m:=afC F;have L:css'.length=css.length:=by simpa using D
    have:=be.frame (E f _ css _ css' C) u B A J (hp:=hp) (hp':=lQ hp (di vs) css') (σ:=λk=>(di vs).getD k 0)
     (by intro k k' d o e;rw[Q] at d o;simp only[Al,Ab d,Ab o,Bk] at e;exact(List.getElem_inj m).1 e)
     t xf
     (by
      intro k cs d;have O:k<css'.length:=(Ad.1 d).1;refine afD m ?_ k cs (by omega) d;intro i M;obtain⟨j,p,rfl⟩:=A0.1 M;have q:j<css.length:=by omega
      have:=t j _ (Ab q);rw[Al,Ab p,Bk] at this;exact(Ad.1 this).1)
     (by
      intro id y;refine xW λH=>?_
      obtain⟨j,p,rfl⟩:=A0.1 H;exact y j (by omega) (by rw[Al,Ab p,Bk]))
    rw[afE (n:=css.length) (λi _=>by rw[Be]) u] at this;exact this
  ·exact g _ _ _ _ _ h
 ·exact g _ _ _ _ _ h
theorem yD{hp a:List ai}:∀{is:List Nat},(∀i∈is,a[i]? =hp[i]?)->jr a is=jr hp is
 | [],_=>rfl
 |i::is,h=>by simp only[jr];rw[aad (h i (AY ..)),yD λj b=>h j (AL _ b)]
theorem tZ:∀(is:List Nat)(hp:List ai)(css:List (List V)),lQ hp is css=afq hp (is.zip (css.map some))
 | [],hp,css=>by cases css<;>rfl
 |i::is,hp,[]=>rfl
 |i::is,hp,c::css=>by simp only[lQ,A2,B3];rw[tZ is];rfl
theorem apC{G:rG}{Γ:aq}{m:List Nat}(E:∀f avs css,m.contains f=false->G f avs css=none)(k:cI Γ m):cI (rH G Γ) m:=by
 refine⟨?_,?_⟩
 ·intro f vs hp t;have e:∀hp,rH G Γ f vs hp=Γ f vs hp:=by
   intro hp;unfold rH;split;·rw[E f _ _ t]
   ·rfl
  rw[e,e];exact k.pure f vs hp t
 ·intro f vs hp c v hp' t h;have same:∀d:List ai,(∀i∈yv vs,d[i]? =hp[i]?)->jr d (di vs)=jr hp (di vs):=λd j=>yD λi F=>j i (ac0 (xU F))
  unfold rH at h;cases g:jr hp (di vs) with
  |none=>rw[g] at h;obtain⟨q,C,B,A⟩:=k.loc f _ _ _ _ _ t h;refine⟨q,C,B,λd u j=>?_⟩;simp only[rH,same d j,g];exact A d u j
  |some css=>
   rw[g] at h;simp only at h;cases y:G f (qH 0 vs) css with
   |none=>rw[y] at h;obtain⟨q,C,B,A⟩:=k.loc f _ _ _ _ _ t h;refine⟨q,C,B,λd u j=>?_⟩;simp only[rH,same d j,g,y];exact A d u j
   |some x=>
    obtain⟨H,D,css'⟩:=x;rw[y] at h;simp only at h;cases o:(abE (di vs)&&AD css'.length css.length&&(qH 0 vs).all (V.flatP css.length)&&D.flat&&css.all (λcs=>cs.all V.flatO)&&css'.all (λcs=>cs.all V.flatO)) with
    |false=>rw[o] at h;simp at h
    |true=>
     rw[o] at h;simp only[cond_true,Ai,Ao] at h;obtain⟨rfl,rfl,rfl⟩:=h;refine⟨(di vs).zip (css'.map some),?_,tZ _ _ _,λd u j=>?_⟩;·intro p hp;obtain⟨a,b⟩:=p;exact aqK (Dr hp).1
     ·simp only[rH,same d j,g,y,o,cond_true];rw[tZ]
end
def V.lend1(hp:List ai):V->V
 | .sw _ id n=>match hp.getD id none with
   |some [.rw k xs]=>.sl k (.may false) xs
   |_=>.undef
 |v=>v
def V.lend(hp:List ai):V->V
 | .agg cs=>.agg (cs.map (V.lend1 hp))
 |v=>v.lend1 hp
def V.lendT(hp:List ai):V->Bool
 | .sw _ id n=>match hp.getD id none with
   |some [.rw _ xs]=>AD n xs.length
   |_=>false
 |_=>true
def V.isSw:V->Bool
 | .sw _ _ _=>true
 |_=>false
def t6(hp:List ai):List V->Bool->Bool
 | [],b=>b
 |v::r,b=>cond v.isSw (v.lendT hp&&t6 hp r b) (t6 hp r b)
def wB(hp:List ai):List V->Bool
 | []=>true
 |v::r=>t6 hp v.cellsA (wB hp r)
def V.scal1:V->Bool
 | .bool _| .int _ _| .str _| .nilif=>true
 |_=>false
def V.scal:V->Bool
 | .tup cs=>cs.all V.scal1
 |v=>v.scal1
def t7(a:List Nat)(G:Nat->List V->Option (Bool×V))(Γ:aq):aq:=λf vs hp=>
 cond (a.elem f) (match Γ f vs hp with
  |some r=>some r
  |none=>match G f (vs.map (V.lend hp)) with
   |some (c,v)=>cond (v.scal&&(vs.map (V.lend hp)).all V.flat) (some (c&&wB hp vs,v,hp)) none
   |none=>none) (Γ f vs hp)
section
variable{I I':Nat->Nat->Prop}{ρ ρ':Nat->Nat}{N N':Nat}{w w':World}{P:Program}
theorem VRel.scal1{v:V}{cv:Value}(h:VRel I ρ N w v cv)(a:v.scal1=true):VRel I' ρ' N' w' v cv:=by
 cases h<;>simp[V.scal1] at a;·exact .bool _
 ·exact .int _ _ (by assumption)
 ·exact .str _ _ (by assumption) (by assumption)
 ·exact .nilif
theorem VRel.scal{v:V}{cv:Value}(h:VRel I ρ N w v cv)(b:v.scal=true):VRel I' ρ' N' w' v cv:=by
 by_cases e:∃cs,v=.tup cs
 ·obtain⟨cs,rfl⟩:=e;cases h with
  |tup cs vs f g=>simp only[V.scal,Ap] at b;exact .tup cs vs f λi c cv d a=>(g i c cv d a).scal1 (b c (Am d))
 ·refine h.scal1 ?_;cases v<;>first|exact b|exact absurd ⟨_,rfl⟩ e
theorem atf{v:V}(b:v.scal=true)(g:Gh)(a:Occ)(cv:Value):ap g w a v cv:=by cases v<;>simp[V.scal,V.scal1] at b<;>simp[ap]
theorem asf{hp:List ai}{v:V}(h:(v.lend1 hp).flat1=true)(a:v.one=true):(v.lend1 hp).one=true:=by generalize v.lend1 hp=u at h;cases u<;>simp[V.flat1] at h<;>rfl
theorem aiY{hp:List ai}:∀{cs:List V}{b:Bool},t6 hp cs b=true->b=true∧∀c∈cs,c.lendT hp=true
 | [],b,h=>⟨h,by simp⟩
 |v::r,b,h=>by
  simp only[t6] at h;have e:v.lendT hp=true∧t6 hp r b=true:=by
   cases a:v.isSw with
   |true=>rw[a] at h;simpa using h
   |false=>rw[a] at h;refine⟨?_,by simpa using h⟩;cases v<;>first|rfl|simp[V.isSw] at a
  obtain⟨g,f⟩:=aiY e.2;exact⟨g,λc d=>by
   rcases AB.1 d with rfl|d;·exact e.1
   ·exact f c d⟩
theorem aiZ{hp:List ai}:∀{vs:List V},wB hp vs=true->∀v∈vs,∀c∈v.cellsA,c.lendT hp=true
 | [],_=>by simp
 |v::r,h=>by
  obtain⟨d,e⟩:=aiY (b:=wB hp r) h;intro u a;rcases AB.1 a with rfl|a;·exact e
  ·exact aiZ d u a
theorem atg{f:FuncId}{vs:List V}{hp:List ai}{v:V}(h:aF P f (vs.map (V.lend hp)) v)(hT:wB hp vs=true)(hs:v.scal=true)(hf:(vs.map (V.lend hp)).all V.flat=true):eO P f vs hp v hp:=by
 obtain⟨hp',h⟩:=h;intro w g E br p al Z a5;let J:Nat->Nat->Prop:=λb j=>g.I b j∨∃(id:Nat)(k:EK)(xs:List (Ty k)),hp[id]? =some (some [.rw k xs])∧b=g.ρ id∧j<xs.length*k.sz
 let g₀:Gh:={I:=J,ρ:=g.ρ,O:=λ_=>none,β:=g.β}
 have h0:HR g₀ [] w:=by
  refine⟨by simp,by simp,by simp,by simp,?_,by simp[g₀]⟩;intro b j q;rcases q with q|⟨id,k,xs,d,rfl,q⟩
  ·exact p.exI b j q
  ·obtain⟨C,e,fz,a1,a2⟩:=(p.obj id _ d).row rfl;have Q:=a2.len;simp only[cellsOf] at Q;rw[cw] at Q;exact .row a1 (by omega) (λ_ hz=>absurd hz ((a2.typed _ _ rfl).1 j (by omega)))
 have Y:∀N,Up g.I g.ρ N w J g.ρ N w:=λN=>⟨λb j q=>.inl q,λ_ _ _=>rfl,λ_ _=>rfl,Ar _⟩
 have M:∀(x:V)(cv:Value),VRel g.I g.ρ hp.length w x cv->x.lendT hp=true->(x.lend1 hp).flat1=true->VRel J g.ρ 0 w (x.lend1 hp) cv:=by
  intro x cv hr B a;by_cases m:∃k id n,x=.sw k id n
  ·obtain⟨k0,id,n,rfl⟩:=m;simp only[V.lend1] at a ⊢;simp only[V.lendT] at B;split at a
   ·rename_i k xs d;have H:hp[id]? =some (some [.rw k xs]):=by
     rw[Al] at d;cases A:hp[id]? with
     |none=>rw[A] at d;simp at d
     |some y=>rw[A] at d;simpa using d
    rw[d] at B
    ·obtain rfl:=AS B;cases hr with
     |sw _ _ _ h1 F h3=>
      obtain⟨C,e,fz,a1,a2⟩:=(p.obj id _ H).row rfl;have Q:=a2.len;simp only[cellsOf] at Q;rw[cw] at Q;have X:∀(i:Nat) x (j:Nat),xs[i]? =some x->j<(enc k x).length->i*k.sz+j<xs.length*k.sz:=by intro i x j m q;rw[bT] at q;exact oG (Ad.1 m).1 q
      refine .sl k (.may false) xs (g.ρ id) 0 xs.length _ rfl F h3 (by simp) (λi j=>C.getD (i*k.sz+j) undef) ?_ ?_ ?_;·intro i x j m q;exact .inr ⟨id,k,xs,H,rfl,by rw[Be];exact X i x j m q⟩
      ·intro i x j m q;have:=X i x j m q;rw[Be,aT a1,As (by omega)];simp[Bg,show i*k.sz+j<C.size by omega]
      ·intro i x j v m hv;have q:=(Ad.1 hv).1;have:=X i x j m q;have an:=a2.rel (i*k.sz+j) v (C.getD (i*k.sz+j) undef) (by simp only[cellsOf];exact sM xs i j x v m hv) (by
        rw[As (by omega)];simp[Bg,show i*k.sz+j<C.size by omega])
       exact(vx (ρ':=g.ρ) (N':=0) hv an).up (Y 0)
   ·simp[V.flat1] at a
  ·have e:x.lend1 hp=x:=by
    cases x<;>first|rfl|exact absurd ⟨_,_,_,rfl⟩ m
   rw[e] at a ⊢;exact(hr.flat1 (N':=0) a).up (Y 0)
 have bx:∀(x:V)(cv:Value),VRel g.I g.ρ hp.length w x cv->(∀c∈x.cellsA,c.lendT hp=true)->(x.lend hp).flat=true->VRel J g.ρ 0 w (x.lend hp) cv:=by
  intro x cv hr S a;by_cases m:∃cs,x=.agg cs
  ·obtain⟨cs,rfl⟩:=m;simp only[V.cellsA] at S;simp only[V.lend] at a ⊢;simp only[V.flat,V.flat2,List.all_map,Ap,Function.comp] at a;cases hr with
   |agg cs us Q h1 B hv=>
    refine .agg _ us (by simpa using Q) ?_ ?_ ?_;·intro c u;obtain⟨G,ae,rfl⟩:=AG.1 u;exact asf (a G ae) (h1 G ae)
    ·intro i c cv u t;rw[AA] at u;cases A:cs[i]? with
     |none=>rw[A] at u;simp at u
     |some G=>
      rw[A] at u;simp only[BE,Ai] at u;subst u;have:=B i G cv A t;unfold V.lend1;split
      ·split;·simp[eu]
       ·simp[eu]
      ·exact this
    ·intro i c cv u t;rw[AA] at u;cases A:cs[i]? with
     |none=>rw[A] at u;simp at u
     |some G=>rw[A] at u;simp only[BE,Ai] at u;subst u;exact M G cv (hv i G cv A t) (S G (Am A)) (a G (Am A))
  ·have e:x.lend hp=x.lend1 hp:=by
    cases x<;>first|rfl|exact absurd ⟨_,rfl⟩ m
   rw[e] at a ⊢;by_cases hy:∃k id n,x=.sw k id n
   ·refine M x cv hr ?_ ?_;·obtain⟨k,id,n,rfl⟩:=hy;exact S _ (by simp[V.cellsA])
    obtain⟨k,id,n,rfl⟩:=hy;simp only[V.lend1] at a ⊢;split at a;·simp[V.flat1]
    ·simp[V.flat,V.flat2,V.flat1] at a
   ·have e:x.lend1 hp=x:=by
     cases x<;>first|rfl|exact absurd ⟨_,_,_,rfl⟩ hy
    rw[e] at a ⊢;exact(hr.flat (ρ':=g.ρ) (N':=0) a).up (Y 0)
 have R:∀(i:Nat) x cv,(vs.map (V.lend hp))[i]? =some x->E[i]? =some cv->VRel g₀.I g₀.ρ ([]:List ai).length w x cv:=by
  intro i x cv m t;have W:=Ap.1 hf x (Am m);rw[AA] at m;cases A:vs[i]? with
  |none=>rw[A] at m;simp at m
  |some y=>rw[A] at m;simp only[BE,Ai] at m;subst m;exact bx y cv (a5 i y cv A t) (aiZ hT y (Am A)) W
 refine(h w g₀ E (br.sub rfl (λh=>.inl h) (λ_=>rfl)) h0 (by simpa using al) (by
  intro x m;have W:=Ap.1 hf x m;cases x<;>first|rfl|(simp[V.flat,V.flat2,V.flat1] at W;done)|skip
  rename_i k o xs;obtain⟨y,hy,e⟩:=AG.1 m;by_cases a3:∃k id n,y=.sw k id n
  ·obtain⟨k',id,n,rfl⟩:=a3;simp only[V.lend,V.lend1] at e;split at e;·simp at e;obtain⟨rfl,rfl, -⟩:=e;rfl
   ·simp at e
  ·have e':y.lend hp=y∨∃cs,y=.agg cs:=by
    cases y<;>first|exact .inl rfl|exact .inr ⟨_,rfl⟩|exact absurd ⟨_,_,_,rfl⟩ a3
   rcases e' with e'|⟨cs,rfl⟩
   ·rw[<-e,e'];exact Z y hy
   ·simp[V.lend] at e) R).mono ?_
 rintro ex w' ⟨cv,g₁,rfl,q1,L,q3,q4⟩;have blk:∀b,b<w.heap.size->w'.heap[b]? =w.heap[b]?:=λb B=>L.block b B (by simp) rfl
 have D:∀b j,g.I b j->w'.cell? ⟨b,j,none⟩=w.cell? ⟨b,j,none⟩:=λb j q=>L.up.cell b j (.inl q)
 have up:Up g.I g.ρ hp.length w g.I g.ρ hp.length w':=⟨λ_ _ h=>h,D,λ_ _=>rfl,Ar _⟩
 have bY:∀(id:Nat) cs,hp[id]? =some (some cs)->g.ρ id<w.heap.size:=by intro id cs d;obtain⟨ob,h1⟩:=(p.obj id cs d).block;exact(AQ.1 h1).1
 refine⟨cv,g,rfl,⟨?_,p.apart,p.notI,p.notO,?_,λb o B=>AE (p.oLt b o B) L.size⟩,⟨rfl,L.os,L.tape,L.output,L.size,λb B _ _=>blk b B,up,λ_ _ _ _ _ h=>h,λ_ _ _ h=>h,λ_ cs h=>.inl ⟨cs,h⟩⟩,q3.scal hs,atf hs _ _ _⟩
 ·intro id cs d;refine(p.obj id cs d).keep (blk _ (bY id cs d)) λC e fz h1 F=>?_
  refine⟨F.len,F.plain,F.typed,F.cold,F.one,λj c cv u t=>(F.rel j c cv u t).up up,λj c cv u t=>?_,F.bn⟩;exact cH (F.own j c cv u t) rfl (λb j hi=>⟨hi,D b j hi⟩) λb B=>⟨B,blk b (p.oLt b _ B),λj q=>q⟩
 ·intro b j q;exact q1.exI b j (L.up.mono b j (.inl q))
theorem ath{e:List Nat}{G:Nat->List V->Option (Bool×V)}{Γ:aq}(o:∀f vs v,G f vs=some (true,v)->aF P f vs v)(b:ca P Γ):ca P (t7 e G Γ):=by
 intro f vs hp v hp' h;unfold t7 at h;cases d:e.elem f with
 |false=>rw[d] at h;exact b _ _ _ _ _ h
 |true=>
  rw[d] at h;simp only[cond_true] at h;split at h;·rename_i r g;rw[Ax h] at g;exact b _ _ _ _ _ g
  ·split at h
   ·rename_i c m k;cases a:(m.scal&&(vs.map (V.lend hp)).all V.flat) with
    |false=>rw[a] at h;simp at h
    |true=>rw[a] at h;simp only[cond_true,Ai,Ao] at h;obtain⟨i,rfl,rfl⟩:=h;simp only[Ac] at a i;obtain⟨rfl,j⟩:=i;exact atg (o f _ _ k) j a.1 a.2
   ·simp at h
theorem ac8{hp a:List ai}{v:V}(h:∀i∈v.id1,a[i]? =hp[i]?):v.lend1 a=v.lend1 hp∧v.lendT a=v.lendT hp:=by
 cases v with
 |sw k id n=>have e:=aad (h id (by simp[V.id1]));simp only[V.lend1,V.lendT,e,and_self]
 |_=>exact⟨rfl,rfl⟩
theorem asg{hp a:List ai}{v:V}(h:∀i∈v.cellsA.flatMap V.id1,a[i]? =hp[i]?):v.lend a=v.lend hp:=by
 cases v with
 |agg cs=>
  simp only[V.lend,V.agg.injEq];refine Bh λc d=>(ac8 λi b=>h i ?_).1
  simp only[V.cellsA,AX];exact⟨c,d,b⟩
 |_=>exact(ac8 λi b=>h i (by simpa [V.cellsA] using b)).1
theorem ahw{hp a:List ai}:∀{cs:List V}{b d:Bool},(∀i∈cs.flatMap V.id1,a[i]? =hp[i]?)->d=b->t6 a cs d=t6 hp cs b
 | [],b,d,_,e=>e
 |v::r,b,d,h,e=>by simp only[t6];rw[(ac8 (v:=v) λi f=>h i (by simp[f])).2,ahw (cs:=r) (λi f=>h i (by simp only[BC,Az];exact .inr f)) e]
theorem ahx{hp a:List ai}:∀{vs:List V},(∀i∈pY vs,a[i]? =hp[i]?)->wB a vs=wB hp vs
 | [],_=>rfl
 |v::r,h=>by simp only[wB];exact ahw (λi b=>h i (by simp only[pY,BC,Az];exact .inl b)) (ahx λi b=>h i (by simp only[pY,BC,Az] at b ⊢;exact .inr b))
theorem aqW{j:List Nat}{G:Nat->List V->Option (Bool×V)}{Γ:aq}{k g:List Nat}(A:cI Γ k)(E:(j++k).all (λx=>g.contains x)=true)
  (F:g.all (λx=>B9 x 2000000||k.contains x)=true):cI (t7 j G Γ) g:=by
 simp only[List.all_append,Ac] at E;refine⟨?_,?_⟩
 ·intro f vs hp o;have t:j.elem f=false:=by
   cases R:j.elem f with
   |false=>rfl
   |true=>have:=Ap.1 E.1 f (by simpa using R);rw[this] at o;simp at o
  have e:∀hp,t7 j G Γ f vs hp=Γ f vs hp:=by intro hp;unfold t7;rw[t];rfl
  rw[e,e];exact(A.mono E.2 F).pure f vs hp o
 ·intro f vs hp c v hp' o h;have d:=(A.mono E.2 F).loc f vs;cases t:j.elem f with
  |false=>
   have e:∀hp,t7 j G Γ f vs hp=Γ f vs hp:=by intro hp;unfold t7;rw[t];rfl
   rw[e] at h;obtain⟨q,D,C,y⟩:=d _ _ _ _ o h;exact⟨q,D,C,λa b m=>by rw[e];exact y a b m⟩
  |true=>
   unfold t7 at h;rw[t] at h;simp only[cond_true] at h;cases B:Γ f vs hp with
   |some r=>rw[B] at h;simp only[Ai] at h;subst h;obtain⟨q,D,C,y⟩:=d _ _ _ _ o B;refine⟨q,D,C,λa b m=>?_⟩;unfold t7;rw[t,y a b m];rfl
   |none=>
    rw[B] at h;simp only at h;split at h
    ·rename_i W J O;cases p:(J.scal&&(vs.map (V.lend hp)).all V.flat) with
     |false=>rw[p] at h;simp at h
     |true=>
      rw[p] at h;simp only[cond_true,Ai,Ao] at h;obtain⟨rfl,rfl,rfl⟩:=h;refine⟨[],by simp,rfl,λa b m=>?_⟩;have L:Γ f vs a=none:=by
       cases S:Γ f vs a with
       |none=>rfl
       |some r=>obtain⟨X,Y,H⟩:=r;obtain⟨q,D,C,y⟩:=d _ _ _ _ o S;have:=y hp b.symm (λi u=>(m i u).symm);rw[this] at B;cases B
      have M:vs.map (V.lend a)=vs.map (V.lend hp):=Bh λv Q=>asg λi u=>m i (ac0 (by simp only[pY,AX] at u ⊢;exact⟨v,Q,u⟩))
      unfold t7;rw[t,L];simp only[cond_true,M,O,p,ahx λi u=>m i (ac0 u)];rfl
    ·simp at h
end
section
variable{I I':Nat->Nat->Prop}{ρ ρ':Nat->Nat}{N N':Nat}{w w':World}{P:Program}
def V.dim1:V->V
 | .sl k _ xs=>.sl k (.may false) xs
 |v=>v
def V.dim:V->V
 | .agg cs=>.agg (cs.map V.dim1)
 |v=>v.dim1
theorem VRel.dim1{v:V}{cv:Value}(h:VRel I ρ N w v cv):VRel I ρ N w v.dim1 cv:=by cases v<;>simp only[V.dim1]<;>first|exact h.own (by simp) (by simp)|exact h
theorem VRel.dim{v:V}{cv:Value}(h:VRel I ρ N w v cv):VRel I ρ N w v.dim cv:=by
 by_cases g:∃cs,v=.agg cs
 ·obtain⟨cs,rfl⟩:=g;cases h with
  |agg cs vs j m k g=>
   refine .agg _ vs (by simpa using j) ?_ ?_ ?_;·intro c f;obtain⟨b,a,rfl⟩:=AG.1 f;have:=m b a;cases b<;>exact this
   ·intro i c cv f d;rw[AA,Aq] at f;obtain⟨b,a,rfl⟩:=f;have:=k i b cv a d;cases b<;>first|exact this|simp[V.dim1,eu]
   ·intro i c cv f d;rw[AA,Aq] at f;obtain⟨b,a,rfl⟩:=f;exact(g i b cv a d).dim1
 ·have e:v.dim=v.dim1:=by cases v<;>first|rfl|exact absurd ⟨_,rfl⟩ g
  rw[e];exact h.dim1
theorem an7{v:V}(h:v.bare=true):v.dim.bare=true:=by cases v<;>first|exact h|rfl
theorem eO.dim{f:FuncId}{vs us:List V}{hp hp':List ai}{v:V}(h:eO P f us hp v hp')(e:vs.map V.dim=us):eO P f vs hp v hp':=by subst e;intro w g b p q d a j;refine h w g b p q (by simpa using d) (by intro x k;obtain⟨y,o,rfl⟩:=AG.1 k;exact an7 (a y o)) ?_;intro i x cv k m;rw[AA,Aq] at k;obtain⟨y,o,rfl⟩:=k;exact(j i y cv o m).dim
theorem aF.dim{f:FuncId}{vs us:List V}{v:V}(h:aF P f us v)(e:vs.map V.dim=us):aF P f vs v:=by obtain⟨hp',h⟩:=h;exact⟨hp',h.dim e⟩
def sA(P:Program)(f:FuncId)(vs cs:List V):Prop:=eO P f vs [] (.ptr 0 0) [some cs]
theorem sA.frame{f:FuncId}{vs cs:List V}(h:sA P f vs cs)(hf:vs.all V.flat=true)(hc:cs.all V.flatO=true)(hp:List ai):eO P f vs hp (.ptr hp.length 0) (hp++[some cs]):=by
 intro w g Y a4 A an Z ar;let g₀:Gh:={I:=g.I,ρ:=g.ρ,O:=λ_=>none,β:=g.β}
 have h0:HR g₀ [] w:=⟨by simp,by simp,by simp,by simp,A.exI,by simp[g₀]⟩
 refine(h w g₀ Y (a4.sub rfl (λh=>h) (λh=>by simp[g₀,h])) h0 an Z (λi x cv hx t=>(ar i x cv hx t).flat (Ap.1 hf x (Am hx)))).mono ?_;rintro e w' ⟨cv,g₁,rfl,q1,F,q3,q4⟩;have blk:∀b,b<w.heap.size->w'.heap[b]? =w.heap[b]?:=λb q=>F.block b q (by simp) rfl
 have C:∀b j,b<w.heap.size->g₁.I b j->g.I b j:=λb j q X=>F.iSame b j q (by simp) rfl X
 have Q:∀b,b<w.heap.size->g₁.O b=none:=λb q=>F.oSame b q (by simp) rfl
 have a0:w.heap.size<=g₁.ρ 0:=by
  rcases F.live 0 cs rfl with⟨_,h⟩|⟨_,h|h|⟨_,_,h,_⟩⟩
  ·simp at h
  ·exact h
  ·simp[g₀] at h
  ·simp at h
 let d:Gh:={I:=g₁.I,ρ:=λi=>if i=hp.length then g₁.ρ 0 else g.ρ i,β:=g.β,O:=λb=>if b<w.heap.size then g.O b else (match g₁.O b with
  |some (.cell i j)=>if i=0 then some (.cell hp.length j) else none
  |some .res=>some .res
  |_=>none)}
 have k:∀i,i<hp.length->d.ρ i=g.ρ i:=by intro i X;simp only[d];rw[if_neg (by omega)]
 have p:d.ρ hp.length=g₁.ρ 0:=by simp[d]
 have up:Up g.I g.ρ hp.length w d.I d.ρ (hp++[some cs]).length w':=⟨F.up.mono,F.up.cell,k,by simp⟩
 have H:∀(id:Nat) cs,hp[id]? =some (some cs)->g.ρ id<w.heap.size:=by intro id cs a;obtain⟨ob,L⟩:=(A.obj id cs a).block;exact(AQ.1 L).1
 have m:∀(id:Nat) cs,hp[id]? =some (some cs)->id<hp.length:=λid cs a=>(Ad.1 a).1
 have key:∀(id:Nat) c,(hp++[some cs])[id]? =some (some c)->(id=hp.length∧c=cs)∨hp[id]? =some (some c):=by
  intro id c a;rcases AH id hp.length with R|R;·rw[Aw R] at a;exact .inr a
  ·rw[Av R] at a;have:id-hp.length=0:=by
    have:=(Ad.1 a).1;simp at this;omega
   rw[this] at a;exact .inl ⟨by omega,by simpa using a.symm⟩
 have W:∀id j v cv,id<hp.length->ap g w (.cell id j) v cv->ap d w' (.cell id j) v cv:=by intro id j v cv a ho;refine cH ho rfl (λb j X=>⟨F.up.mono b j X,F.up.cell b j X⟩) ?_;intro b q;have D:=A.oLt b _ q;exact⟨by simp[d,D,q],blk b D,λj u=>C b j D u⟩
 refine⟨cv,d,rfl,⟨?_,?_,?_,?_,q1.exI,?_⟩,⟨rfl,F.os,F.tape,F.output,F.size,λb q _ _=>blk b q,up,λb j q _ _ X=>C b j q X,?_,?_⟩,?_,?_⟩
 ·intro id c a;rcases key id c a with⟨rfl,rfl⟩|a
  ·refine(q1.obj 0 c rfl).keep (by rw[p]) λa3 e fz a1 S=>?_
   have hr:=afB hc;refine⟨S.len,S.plain,by rw[mh hr];simp,S.cold,S.one,?_,?_,?_⟩;·intro j J cv u t;exact(S.rel j J cv u t).flatO (Ap.1 hc J (Am (by rw[eM hr] at u;exact u)))
   ·intro j J cv u t;refine(S.own j J cv u t).reloc F.beta.symm rfl λb q=>?_
    have a5:¬b<w.heap.size:=by intro D;rw[Q b D] at q;cases q
    simp[d,q,a5]
   ·intro j E n u;rw[p];exact S.bn j E n u
  ·have R:=m id c a;refine(A.obj id c a).keep (by rw[k id R];exact blk _ (H id c a)) λa3 e fz L y=>?_
   exact⟨y.len,y.plain,y.typedUp rfl k (by simp) rfl,y.cold,y.one,λj c cv hc t=>(y.rel j c cv hc t).up up,λj c cv hc t=>W _ _ _ _ R (y.own j c cv hc t),λj E n u=>by rw[k id R];exact y.bn j E n u⟩
 ·intro id B c J a M al;rcases key id c a with⟨rfl,rfl⟩|L
  ·rcases key B J M with⟨rfl,rfl⟩|y;·exact absurd rfl al
   ·rw[p,k B (m B J y)];have:=H B J y;omega
  ·rcases key B J M with⟨rfl,rfl⟩|y;·rw[p,k id (m id c L)];have:=H id c L;omega
   ·rw[k id (m id c L),k B (m B J y)];exact A.apart _ _ _ _ L y al
 ·intro id c a j u;rcases key id c a with⟨rfl,rfl⟩|a;·rw[p] at u;exact q1.notI 0 c rfl j u
  ·rw[k id (m id c a)] at u;exact A.notI id c a j (C _ j (H id c a) u)
 ·intro id c a;rcases key id c a with⟨rfl,rfl⟩|a
  ·rw[p];have L:=q1.notO 0 c rfl;have y:¬g₁.ρ 0<w.heap.size:=by omega
   simp[d,L,y]
  ·rw[k id (m id c a)];have:=H id c a;simp[d,this,A.notO id c a]
 ·intro b o q;simp only[d] at q;split at q;·rename_i D;exact AE D F.size
  ·split at q;·rename_i G;exact q1.oLt b _ G
   ·rename_i G;exact q1.oLt b _ G
   ·simp at q
 ·intro b q _ hO;simp[d,q,hO]
 ·intro id c a;rcases key id c a with⟨rfl,rfl⟩|a;·exact .inr ⟨Ar _,.inl (by rw[p];exact a0)⟩
  ·exact .inl ⟨c,a⟩
 ·cases q3 with
  |ptr _ _ _=>rw[<-p];exact .ptr _ _ (by simp)
 ·simp[ap]
theorem sA.dim{f:FuncId}{vs us cs:List V}(h:sA P f us cs)(e:vs.map V.dim=us):sA P f vs cs:=eO.dim h e
theorem be.dim{f:FuncId}{vs us:List V}{css css':List (List V)}{v:V}(h:be P f us css v css')(e:vs.map V.dim=us):be P f vs css v css':=by obtain⟨b,rest,a⟩:=h;exact⟨b,rest,a.dim e⟩
def V.dimR:V->V
 | .tup vs=>.tup (vs.map V.dim)
 |v=>v.dim
theorem VRel.dimR{v:V}{cv:Value}(h:VRel I ρ N w v cv):VRel I ρ N w v.dimR cv:=by
 by_cases a:∃cs,v=.tup cs
 ·obtain⟨cs,rfl⟩:=a;cases h with
  |tup cs vs g a=>refine .tup _ vs (by simpa using g) ?_;intro i c cv f b;rw[AA,Aq] at f;obtain⟨j,d,rfl⟩:=f;exact(a i j cv d b).dim
 ·have e:v.dimR=v.dim:=by cases v<;>first|rfl|exact absurd ⟨_,rfl⟩ a
  rw[e];exact h.dim
theorem ap.dimR{g:Gh}{a:Occ}{v:V}{cv:Value}(h:ap g w a v cv):ap g w a v.dimR cv:=by cases v<;>first|exact h|simp[V.dimR,V.dim,V.dim1,ap]
theorem eO.dimR{f:FuncId}{vs:List V}{hp hp':List ai}{v:V}(h:eO P f vs hp v hp'):eO P f vs hp v.dimR hp':=by intro w g b j k d a i;refine(h w g b j k d a i).mono ?_;rintro e w' ⟨cv,q,rfl,m,o,p,t⟩;exact⟨cv,q,rfl,m,o,p.dimR,t.dimR⟩
theorem aF.dimR{f:FuncId}{vs:List V}{v u:V}(h:aF P f vs v)(e:v.dimR=u):aF P f vs u:=by subst e;obtain⟨hp',h⟩:=h;exact⟨hp',h.dimR⟩
theorem be.dimR{f:FuncId}{vs:List V}{css css':List (List V)}{v u:V}(h:be P f vs css v css')(e:v.dimR=u):be P f vs css u css':=by subst e;obtain⟨b,rest,a⟩:=h;exact⟨b,rest,a.dimR⟩
abbrev anC:=Nat->List V->Option (Bool×List V)
def aae(G:anC)(Γ:aq):aq:=λf vs hp=>
 match G f vs with
 |some (c,cs)=>cond (vs.all V.flat&&cs.all V.flatO) (some (c,.ptr hp.length 0,hp++[some cs])) none
 |none=>Γ f vs hp
theorem ati{G:anC}{Γ:aq}(e:∀f vs cs,G f vs=some (true,cs)->sA P f vs cs)(b:ca P Γ):ca P (aae G Γ):=by
 intro f vs hp v hp' h;unfold aae at h;split at h
 ·rename_i c cs d;cases a:(vs.all V.flat&&cs.all V.flatO) with
  |false=>rw[a] at h;simp at h
  |true=>rw[a] at h;simp only[cond_true,Ai,Ao] at h;obtain⟨rfl,rfl,rfl⟩:=h;simp only[Ac] at a;exact(e f vs cs d).frame a.1 a.2 hp
 ·exact b _ _ _ _ _ h
theorem aqX{G:anC}{Γ:aq}{a:List Nat}(t:∀f vs,a.contains f=false->G f vs=none)(i:∀f vs,a.contains (f+2000000)=true->G f vs=none)(b:cI Γ a):cI (aae G Γ) a:=by
 refine⟨?_,?_⟩
 ·intro f vs hp d;have e:∀hp,aae G Γ f vs hp=Γ f vs hp:=by
   intro hp;unfold aae;rw[t f vs d]
  rw[e,e];exact b.pure f vs hp d
 ·intro f vs hp c v hp' d h;have e:∀hp,aae G Γ f vs hp=Γ f vs hp:=by
   intro hp;unfold aae;rw[i f vs d]
  rw[e] at h;obtain⟨q,o,m,k⟩:=b.loc _ _ _ _ _ _ d h;exact⟨q,o,m,λg j p=>by rw[e];exact k g j p⟩
def pick{R:Type}[Inhabited R](C:R->Prop):R:= @Classical.epsilon R ⟨default⟩ C
def can{R:Type}[Inhabited R](C:R->Prop):Bool:= @decide (C (pick C)) (Cy _)
theorem an8{R:Type}[Inhabited R]{C:R->Prop}(h:∃r,C r):can C=true:= @decide_eq_true _ (Cy _) (Classical.epsilon_spec h)
theorem wC{R:Type}[Inhabited R]{C:R->Prop}(h:can C=true):C (pick C):= @of_decide_eq_true _ (Cy _) h
def pk{R a:Type}[Inhabited R](C:R->Prop)(f:R->a):Option (Bool×a):=some (can C,f (pick C))
def af{R a:Type}[Inhabited a](C:a->Prop)(K:a->Option R):Option R:=chk (can C) (K (pick C))
def anD{R a:Type}[Inhabited a](C:a->Prop)(T:Bool)(K:a->Option R):Option R:=chk (can C&&T) (K (pick C))
end
theorem auj{R:Type}(x:Option R):chk true x=x:=rfl
theorem atj(k:IntKind)(b:k.signed=false)(a:Nat):k.wrap (a:Int)=((a%2^k.bits:Nat):Int):=by cases k<;>simp[Bj] at b<;>simp[Ae,Bj,BA]
theorem o6(k:IntKind)(b:k.signed=false)(a:Nat)(h:a<2^k.bits):k.wrap (a:Int)=(a:Int):=by rw[atj k b,Ct h]
theorem atk(n:Int):IntKind.u64.wrap n=n%18446744073709551616:=by simp[Ae,BA,Bj]
theorem atl(n:Int):IntKind.u32.wrap n=n%4294967296:=by simp[Ae,BA,Bj]
theorem auy(n:Int):IntKind.u8.wrap n=n%256:=by simp[Ae,BA,Bj]
theorem atm(n:Int):IntKind.i64.wrap n=(n+9223372036854775808)%18446744073709551616-9223372036854775808:=by simp[Ae,BA,Bj];omega
theorem atn(n:Int):IntKind.i32.wrap n=(n+2147483648)%4294967296-2147483648:=by simp[Ae,BA,Bj];omega
theorem ax(n:Int)(h:-9223372036854775808<=n∧n<=9223372036854775807):IntKind.i64.wrap n=n:=by rw[atm];omega
theorem gJ(n:Int)(h:0<=n∧n<=18446744073709551615):IntKind.u64.wrap n=n:=by rw[atk];omega
theorem ahy(n:Int)(h:0<=n∧n<=4294967295):IntKind.u32.wrap n=n:=by rw[atl];omega
theorem xX(n:Int)(h:0<=n∧n<=255):IntKind.u8.wrap n=n:=by rw[auy];omega
theorem alT(n a:Nat):(Ce n (a:Int)).toNat=a%2^n:=by simp
theorem ac9(k:IntKind)(f:k.signed=false)(a b:Nat)(d:a<2^k.bits)(e:b<2^k.bits):de .xor k a b=((a ^^^b:Nat):Int):=by unfold de;simp only[BitVec.toNat_xor,alT,Ct d,Ct e];exact o6 k f _ (DP d e)
theorem ada(k:IntKind)(f:k.signed=false)(a b:Nat)(e:a<2^k.bits)(d:b<2^k.bits):de .and k a b=((a&&& b:Nat):Int):=by unfold de;simp only[BitVec.toNat_and,alT,Ct e,Ct d];exact o6 k f _ (Nat.and_lt_two_pow a d)
theorem an9(k:IntKind)(a n:Nat)(h:n<=k.bits):tQ k (a:Int) (n:Int)=((a / 2^n:Nat):Int):=by
 unfold tQ;rw[At,Nat.min_eq_left h,DR _ (Int.le_of_lt (Int.pow_pos (by omega)))]
 norm_cast
theorem ato(a b:Nat):Ck (a:Int) (b:Int)=((a / b:Nat):Int):=by rw[BX (by omega)];norm_cast
theorem atp(a b:Nat):BG (a:Int) (b:Int)=((a%b:Nat):Int):=by rw[BJ (by omega)];norm_cast
def na(w:World):Gh:={I:=λb j=>(w.cell? ⟨b,j,none⟩).isSome=true,ρ:=id,O:=λ_=>none,β:=0}
theorem ash{P:Program}{f:FuncId}{vs:List V}(h:aF P f vs (.bool true)){a:Array Value}{w:World}(m:vs.length=a.size)(o:∀x∈vs,x.bare=true)
  (v:∀(i:Nat) x cv,vs[i]? =some x->a[i]? =some cv->VRel (na w).I id 0 w x cv)
  (k:nR≠[]->∃t,w.heap[tR]? =some (.cells nR.toArray t (0,0)):=by simp[nR]) (p:¬Zed:=by simp[Zed]):
  Calls P f a w λe w'=>e=.returned (.bool true)∧RowKit.Below w.heap.size w w':=by
 obtain⟨hp',h⟩:=h;have y:tV P {na w with β:=gM P} w:=⟨rfl,λg=>by obtain⟨t,k⟩:=k g;have m:0<nR.length:=List.length_pos_iff.2 g;refine⟨?_,rfl,(AQ.1 k).1,t,k⟩;simp only[na];rw[aT k];simp[m]⟩
 refine(h w {na w with β:=gM P} a y ⟨by simp,by simp,by simp,by simp,λb j q=>⟨q,λz=>absurd z p⟩,by simp[na]⟩ m o v).mono ?_;rintro e w' ⟨cv,A,rfl,_,d,u,_⟩;cases u;exact⟨rfl,d.os,d.tape,d.output,d.size,λb o=>d.block b o (by simp) rfl⟩
theorem dt{p:Prop}[Decidable p](h:p):decide p=true:=decide_eq_true h
theorem df{p:Prop}[Decidable p](h:¬p):decide p=false:=decide_eq_false h
theorem bt{a b:Int}(h:a=b):(a==b)=true:=by simp[h]
theorem bf{a b:Int}(h:a≠b):(a==b)=false:=by simp[h]
theorem it{α:Type}{p:Prop}[Decidable p]{a b:α}(h:p):(if p then a else b)=a:=if_pos h
theorem iF{α:Type}{p:Prop}[Decidable p]{a b:α}(h:¬p):(if p then a else b)=b:=if_neg h
theorem aqe{a b:Int}(h:0<=a):Ck a b=a / b:=BX h
theorem aqf{a b:Int}(h:0<=a):BG a b=a%b:=BJ h
theorem alU{α a:Type}(f:α->a)(x:α):Option.map f (some x)=some (f x):=rfl
theorem ahz(n:Int)(h:-2147483648<=n∧n<=2147483647):IntKind.i32.wrap n=n:=by rw[atn];omega
theorem avk{o:Option (V×List ai)}{v:V}(h:o.map (·.1)=some v):∃hp,o=some (v,hp):=by
 cases o with
 |none=>simp at h
 |some p=>obtain⟨a,hp⟩:=p;simp at h;subst h;exact⟨hp,rfl⟩
theorem alV{α:Type}{B:(α->Option (V×List ai))->α->Option (V×List ai)}(inv:α->Prop)(a:α->Nat)(F:α->V)
  (step:∀(rec:α->Option (V×List ai)) x,inv x->(∀y,inv y->a y<a x->(rec y).map (·.1)=some (F y))->(B rec x).map (·.1)=some (F x)):
  ∀n x,inv x->a x<n->(aK n B x).map (·.1)=some (F x)
 |0,_,_,h=>by omega
 |n+1,x,b,f=>step (aK n B) x b λy d e=>alV inv a F step n y d (by omega)
theorem aoa{α:Type}(n:Int)(l:List α):(ixl n l=true)=(0<=n∧n<(l.length:Int)):=by simp[ixl]
theorem ixt{α:Type}{n:Int}{l:List α}(h:0<=n∧n<(l.length:Int)):ixl n l=true:=by rw[aoa];exact h
theorem mN:type_of% @dt∧type_of% @ixt∧type_of% @df∧type_of% @it∧type_of% @iF∧type_of% @bt∧type_of% @bf∧type_of% @cond_true.{1}∧type_of% @cond_false.{1}∧type_of% @alU∧type_of% @auj∧type_of% @Bool.and_true∧type_of% @Bool.true_and∧type_of% @Bool.and_false∧type_of% @Bool.false_and∧type_of% @Bool.or_true∧type_of% @Bool.true_or∧type_of% @Bool.or_false∧type_of% @Bool.false_or∧type_of% @Bool.not_true∧type_of% @Bool.not_false∧type_of% @if_true.{1}∧type_of% @if_false.{1}∧type_of% @beq_self_eq_true.{0}∧type_of% @ax∧type_of% @gJ∧type_of% @ahz∧type_of% @ahy∧type_of% @xX∧type_of% @aqe∧type_of% @aqf∧type_of% @Int.toNat_natCast∧type_of% @List.take_length.{0}∧type_of% @List.drop_zero.{0}∧type_of% @or_true∧type_of% @true_or∧type_of% @or_false∧type_of% @false_or∧type_of% @or_self:=⟨@dt, @ixt, @df, @it, @iF, @bt, @bf, @cond_true.{1}, @cond_false.{1}, @alU, @auj, @Bool.and_true, @Bool.true_and, @Bool.and_false, @Bool.false_and, @Bool.or_true, @Bool.true_or, @Bool.or_false, @Bool.false_or, @Bool.not_true, @Bool.not_false, @if_true.{1}, @if_false.{1}, @beq_self_eq_true.{0}, @ax, @gJ, @ahz, @ahy, @xX, @aqe, @aqf, @Int.toNat_natCast, @List.take_length.{0}, @List.drop_zero.{0}, @or_true, @true_or, @or_false, @false_or, @or_self⟩
theorem bnl:type_of% @aoa∧type_of% @decide_eq_true_eq∧type_of% @decide_eq_false_iff_not∧type_of% @Bool.and_eq_true∧type_of% @Bool.and_eq_false_iff∧type_of% @Bool.or_eq_true∧type_of% @Bool.or_eq_false_iff∧type_of% @Bool.not_eq_true'∧type_of% @Bool.not_eq_false'∧type_of% @beq_iff_eq.{0}∧type_of% @beq_eq_false_iff_ne.{0}∧type_of% @Int.not_lt∧type_of% @Int.not_le∧type_of% @Nat.not_lt∧type_of% @Nat.not_le∧type_of% @ne_eq.{1}∧type_of% @Nat.beq_eq∧type_of% @true_and∧type_of% @and_true∧type_of% @Bool.not_not:=⟨@aoa, @decide_eq_true_eq, @decide_eq_false_iff_not, @Bool.and_eq_true, @Bool.and_eq_false_iff, @Bool.or_eq_true, @Bool.or_eq_false_iff, @Bool.not_eq_true', @Bool.not_eq_false', @beq_iff_eq.{0}, @beq_eq_false_iff_ne.{0}, @Int.not_lt, @Int.not_le, @Nat.not_lt, @Nat.not_le, @ne_eq.{1}, @Nat.beq_eq, @true_and, @and_true, @Bool.not_not⟩
theorem lnl:type_of% @List.length_append.{0}∧type_of% @List.length_cons.{0}∧type_of% @List.length_nil.{0}∧type_of% @List.length_drop.{0}∧type_of% @List.length_take.{0}∧type_of% @List.length_set.{0}∧type_of% @List.length_replicate.{0}:=⟨@List.length_append.{0}, @List.length_cons.{0}, @List.length_nil.{0}, @List.length_drop.{0}, @List.length_take.{0}, @List.length_set.{0}, @List.length_replicate.{0}⟩
def Tot{R:Type}(x:Option R)(Q:R->Prop):Prop:=∃r,x=some r∧Q r
section
variable{R:Type}{Q:R->Prop}
theorem ba{α:Type}{B:(α->Option R)->α->Option R}(Inv:α->Prop)(b:α->Nat)
  (step:∀(a:α->Option R) x,Inv x->(∀y,Inv y->b y<b x->Tot (a y) Q)->Tot (B a x) Q):∀n x,Inv x->b x<n->Tot (aK n B x) Q
 |0,_,_,h=>by omega
 |n+1,x,d,g=>step (aK n B) x d λy e f=>ba Inv b step n y e (by omega)
theorem am{r:R}(h:Q r):Tot (some r) Q:=⟨r,rfl,h⟩
theorem ct{c:Bool}{x:Option R}(a:c=true)(h:Tot x Q):Tot (chk c x) Q:=by subst a;exact h
theorem vck{c:Bool}{x:Option R}(h:Tot x Q)(a:c=true:=by first|(simp only[bnl,lnl];done)|(simp only[bnl,lnl];omega)):Tot (chk c x) Q:=ct a h
theorem ab{b:Bool}{x y:Option R}(d:b=true->Tot x Q)(a:b=false->Tot y Q):Tot (cond b x y) Q:=by
 cases b with
 |true=>exact d rfl
 |false=>exact a rfl
theorem aqg{R:Type}[Inhabited R]{C:R->Prop}(h:∃r,C r):C (pick C):=wC (an8 h)
theorem ah{a:Type}[Inhabited a]{C:a->Prop}{K:a->Option R}(h:∃r,C r)(b:∀r,C r->Tot (K r) Q):Tot (af C K) Q:=
 ct (an8 h) (b _ (aqg h))
theorem akp{a:Type}[Inhabited a]{C:a->Prop}{T:Bool}{K:a->Option R}(d:T=true)(h:∃r,C r)(b:∀r,C r->Tot (K r) Q):Tot (anD C T K) Q:=
 ct (by rw[an8 h,d];rfl) (b _ (aqg h))
end
def cN{R:Type}(C:Nat->St->Option R)(Γ:aq)(n:Nat):IR->(Ex->St->Option R)->St->Option R
 | .skip,K,s=>K .normal s
 | .bad,_,_=>none
 | .reg h _,K,s=>runOps Γ h (K .normal) s
 | .rgs l,K,s=>abz Γ l (K .normal) s
 | .wk l _ mid o e,K,s=>runOps Γ l (runOps Γ mid λs=>match o.step Γ s with|some (c,s')=>chk c (runOps Γ e (K .normal) s')|none=>none) s
 | .seq a b,K,s=>cN C Γ n a (kseq (cN C Γ n b) K) s
 | .cond c a b,K,s=>match c.ev s with
   | .bool t=>cond t (cN C Γ n a K (c.fix s true)) (cN C Γ n b K (c.fix s false))
   |_=>none
 | .block id a,K,s=>cN C Γ n a (aJ id K) s
 | .loop d m a,K,s=>C (d.getLastD 0) (s.keep d m)
 | .cut d m a,K,s=>C (d.getLastD 0) (s.keep d m)
 | .gh g a,K,s=>match g.step s with
   |some (c,s')=>chk c (cN C Γ n a K s')
   |none=>none
 | .ope o a,K,s=>cond (aqz s o) (match (eL.fz o).step s with
   |some (c,s')=>chk c (cN C Γ n a K s')
   |none=>none) (match (eL.opn o).step s with
   |some (c,s')=>chk c (cN C Γ n a K s')
   |none=>none)
 | .ghp g a,K,s=>cN C Γ n a (aiI g K) s
 | .exit id,K,s=>K (.exit id) s
 | .ret,K,s=>K .ret s
def dv{R:Type}(Γ:aq)(n:Nat):IR->(Ex->St->Option R)->List (Nat×(St->Option R))
 | .seq a b,K=>dv Γ n a (kseq (run Γ n b) K)++dv Γ n b K
 | .cond _ a b,K=>dv Γ n a K++dv Γ n b K
 | .block id a,K=>dv Γ n a (aJ id K)
 | .loop d m a,K=>[(d.getLastD 0,λs=>bi n (λe s=>run Γ n a (b7 e d m K) s) s)]
 | .cut d m a,K=>[(d.getLastD 0,λs=>run Γ n a K s)]
 | .gh g a,K=>dv Γ n a K
 | .ope o a,K=>dv Γ n a K
 | .ghp g a,K=>dv Γ n a (aiI g K)
 |_,_=>[]
theorem akq{R:Type}{C:Nat->St->Option R}{Γ:aq}{n:Nat}:∀(ir:IR)(K:Ex->St->Option R),(∀p∈dv Γ n ir K,C p.1=p.2)->∀s,cN C Γ n ir K s=run Γ n ir K s:=by
 intro ir;induction ir with
 |seq a b d j=>
  intro K h s;have e:kseq (cN C Γ n b) K=kseq (run Γ n b) K:=by
   funext e s;cases e with
   |normal=>exact j K (λp hp=>h p (B0 _ hp)) s
   |_=>rfl
  show cN C Γ n a (kseq (cN C Γ n b) K) s=run Γ n a (kseq (run Γ n b) K) s;rw[e];exact d _ (λp hp=>h p (AN _ hp)) s
 |cond c a b d j=>intro K h s;simp only[cN,run,d K (λp hp=>h p (AN _ hp)),j K (λp hp=>h p (B0 _ hp))];cases c.ev s<;>rfl
 |block id a d=>intro K h s;exact d _ h s
 |loop i m a d=>intro K h s;have:=h (i.getLastD 0,_) (Au.2 rfl);simp only[cN,run];rw[this]
 |cut i m a d=>intro K h s;have:=h (i.getLastD 0,_) (Au.2 rfl);simp only[cN,run];rw[this]
 |gh g a d=>intro K h s;simp only[cN,run,d K h];cases g.step s<;>rfl
 |ope o a d=>intro K h s;simp only[cN,run,d K h];cases (eL.fz o).step s<;>cases (eL.opn o).step s<;>rfl
 |ghp g a d=>intro K h s;exact d _ h s
 |_=>intro K h s;rfl
def jV{R:Type}:List (Nat×(St->Option R))->Nat->St->Option R
 | [],_=>λ_=>none
 |(j,f)::l,i=>cond (AD j i) f (jV l i)
def adb:List Nat->Bool
 | []=>true
 |i::l=> !(l.any (AD i))&&adb l
theorem bU{R:Type}:∀{l:List (Nat×(St->Option R))},adb (l.map Prod.fst)=true->∀p∈l,jV l p.1=p.2
 | [],_,p,hp=>by simp at hp
 |(j,f)::l,h,p,hp=>by
  simp only[A2,adb,Ac,BK,List.any_eq_false] at h;rcases AB.1 hp with rfl|hp;·simp[jV]
  ·have a:AD j p.1=false:=by
    cases b:AD j p.1 with
    |false=>rfl
    |true=>have:=h.1 p.1 (AG.2 ⟨p,hp,rfl⟩);exact absurd b this
   simp only[jV,a,cond_false];exact bU h.2 p hp
theorem qI{R:Type}{C:Nat->St->Option R}{Γ:aq}{n:Nat}{b:IR}{K a:Ex->St->Option R}(h:∀p∈dv Γ n b K,C p.1=p.2)(e:a=K):kseq (cN C Γ n b) a=kseq (run Γ n b) K:=by
 subst e;funext e s;cases e with
 |normal=>exact akq b a h s
 |_=>rfl
theorem nc{R:Type}{i:Nat}{K a:Ex->St->Option R}(e:a=K):aJ i a=aJ i K:=by rw[e]
theorem wD{R:Type}{a:St->Option R}{b:List Nat}{m:Nat}{K d:Ex->St->Option R}(e:d=K):b7 a b m d=b7 a b m K:=by rw[e]
theorem eq{R:Type}{C:Nat->St->Option R}{l a:List (Nat×(St->Option R))}(h:∀p∈l++a,C p.1=p.2):∀p∈l,C p.1=p.2:=λp hp=>h p (AN _ hp)
theorem mO{R:Type}{C:Nat->St->Option R}{l a:List (Nat×(St->Option R))}(h:∀p∈l++a,C p.1=p.2):∀p∈a,C p.1=p.2:=λp hp=>h p (B0 _ hp)
theorem fZ{R:Type}{C:Nat->St->Option R}{Γ:aq}{n:Nat}{ir:IR}{K a:Ex->St->Option R}(h:∀p∈dv Γ n ir K,C p.1=p.2)(e:a=K)(s:St):run Γ n ir K s=cN C Γ n ir a s:=by subst e;exact(akq ir a h s).symm
abbrev Ro:=Option (V×List ai)
abbrev Bs:=List UInt8
abbrev Bss:=List (List UInt8)
def U(n:Nat)(l:List V):List V:=List.replicate n .undef++l
def Pp(o:IOp):GOp:=⟨none,o,none⟩
def Mv(d x:Nat):GOp:=⟨none,.mov d (.t x),none⟩
def Fa(d o x:Nat):GOp:=⟨none,.fad d o (.t x),none⟩
def Ld(d n:Nat)(a:Bool)(x:Nat):GOp:=⟨none,.lde d n a (.t x),none⟩
def Pa(d c x:Nat):GOp:=⟨none,.pick d (.t c) (.t x) (.c (.bool false)),none⟩
def Po(d c x:Nat):GOp:=⟨none,.pick d (.t c) (.c (.bool true)) (.t x),none⟩
def Bi(d:Nat)(o:BinOp)(x y:Nat):GOp:=⟨none,.bin d o (.t x) (.t y),none⟩
def Bc(d:Nat)(o:BinOp)(x:Nat)(n:Int):GOp:=⟨none,.bin d o (.t x) (.c (.int .i64 n)),none⟩
def Ex_(d i x:Nat):GOp:=⟨none,.ext d i (.t x),none⟩
def Nk(d x:Nat):GOp:=⟨none,.nck (some d) (.t x),none⟩
instance (n:Nat):OfNat ASrc n:=⟨.t n⟩
instance (n:Nat):OfNat (Option Nat) n:=⟨some n⟩
def Rg(l:List GOp):IR:=.reg l []
def Rs(l:List GOp)(a:IR):IR:=.seq (.reg l []) a
def Sq(a b:IR):IR:=.seq a b
def Cn(c:Nat)(a b:IR):IR:=.cond (.t c) a b
def Gt(g:Nat)(o:IOp):GOp:=⟨some (g,true),o,none⟩
def Gf(g:Nat)(o:IOp):GOp:=⟨some (g,false),o,none⟩
def Fo(r w:List Nat)(o:IOp):GOp:=⟨none,o,some (r,w)⟩
def Mi(d:Nat)(n:Int):GOp:=⟨none,.mov d (.c (.int .i64 n)),none⟩
def Ms(d:Nat)(s:List UInt8):GOp:=⟨none,.mov d (.c (.str s)),none⟩
def Mb(d:Nat)(b:Bool):GOp:=⟨none,.mov d (.c (.bool b)),none⟩
def Lq(d x:Nat):GOp:=⟨none,.lde d 1 false (.t x),none⟩
def Lo(d x:Nat):GOp:=⟨none,.ld d 1 false false (.t x),none⟩
def Ca(d f:Nat)(l:List ASrc):GOp:=⟨none,.call (some d) f l,none⟩
def Ix(d:Nat)(k:EK)(x i:Nat):GOp:=⟨none,.ixa d k (.t x) (.t i),none⟩
def Ll(d x:Nat):GOp:=⟨none,.lenl d (.t x),none⟩
def Un(d x:Nat):GOp:=⟨none,.un d .not (.t x),none⟩
def Bx(d x:Nat):GOp:=⟨none,.boxe d (.t x),none⟩
def Fz(r n v:Nat):GOp:=⟨none,.frz none r n (.t v),none⟩
def Sv(n x v:Nat):GOp:=⟨none,.st none n (.t x) (.t v),none⟩
def Sk(n x v:Nat):GOp:=⟨none,.st none n (.t x) (.tk v),none⟩
def kI(n:Int):ASrc:=.c (.int .i64 n)
def kU(n:Int):ASrc:=.c (.int .u64 n)
def kS(s:List UInt8):ASrc:=.c (.str s)
def kB(b:Bool):ASrc:=.c (.bool b)
abbrev TS:=St->Ro
abbrev TE:=Ex->TS
abbrev TRr:=IR->TE->TS
abbrev vI(n:Int):V:=.int .i64 n
abbrev vS:V:=.str []
abbrev vB(b:Bool):V:=.bool b
abbrev vT(s:List UInt8):V:=.str s
abbrev vF(k:EK)(xs:List (Ty k)):V:=.sl k (.may false) xs
abbrev vO(k:EK)(xs:List (Ty k)):V:=.sl k .own xs
def nl(k:EK):V:=.sl k .own []
def fu(k:EK)(b:Bool):V:=.sl k (.may b) []
def rg(a b:Nat):List Nat:=Bm a (b+1-a)
theorem cz{Γ:aq}{N n:Nat}{rs:List RV}{ir:IR}{vs:List V}{hp:List ai}(l:List (Nat×(St->Ro)))(a:adb (l.map Prod.fst)=true)(e:l=dv Γ N ir (fin rs)++[])
  (S:(Nat->St->Ro)->Ro) (b:∀C,cN C Γ N ir (fin rs) (AM.start n vs hp)=S C):callF Γ N n rs ir vs hp=S (jV l):=by
 refine A8 ?_ (b _);exact(akq ir (fin rs) (λp hp=>bU a p (by rw[e];exact AN _ hp)) _).symm
section
variable{P:Program}
theorem agT{f:FuncId}{vs:List V}{a v:V}{R:Type}[Inhabited R]{C:R->Prop}(h:some (can C,a)=some (true,v))(k:C (pick C)->aF P f vs a)(b:vs.all V.flat=true)(d:a.flatU=true):
  aF P f vs v∧vs.all V.flat=true∧v.flatU=true:=by
 simp only[Ai,Ao] at h;obtain⟨e,rfl⟩:=h;exact⟨k (wC e),b,d⟩
theorem agU{f:FuncId}{vs:List V}{a v:V}{css cs b:List (List V)}{R:Type}[Inhabited R]{C:R->Prop}(h:some (can C,a,cs)=some (true,v,b))(k:C (pick C)->be P f vs css a cs):be P f vs css v b:=by simp only[Ai,Ao] at h;obtain⟨d,rfl,rfl⟩:=h;exact k (wC d)
theorem agV{f:FuncId}{vs cs a:List V}{R:Type}[Inhabited R]{C:R->Prop}(h:some (can C,cs)=some (true,a))(k:C (pick C)->sA P f vs cs):sA P f vs a:=by simp only[Ai,Ao] at h;obtain⟨b,rfl⟩:=h;exact k (wC b)
end
structure cV(P:Program) where
 id:Nat
 t:List V->Option (Bool×V)
 ok:∀vs v,t vs=some (true,v)->aF P id vs v∧vs.all V.flat=true∧v.flatU=true:=by (intro _ _ h;split at h;(first|exact agT h (λh=>h.1.dim rfl) rfl rfl|exact agT h (λh=>h.dim rfl) rfl rfl|exact agT h (λh=>h.1) rfl rfl|exact agT h (λh=>h) rfl rfl);cases h)
structure eh(P:Program) where
 id:Nat
 t:List V->List (List V)->Option (Bool×V×List (List V))
 ok:∀us css v css',t us css=some (true,v,css')->be P id us css v css':=by (intro _ _ _ _ h;split at h;(first|exact agU h (λh=>h.1.dim rfl)|exact agU h (λh=>h.dim rfl)|exact agU h (λh=>h.1)|exact agU h (λh=>h));cases h)
structure adc(P:Program) where
 id:Nat
 t:List V->Option (Bool×List V)
 ok:∀us cs,t us=some (true,cs)->sA P id us cs:=by (intro _ _ h;split at h;(first|exact agV h (λh=>h.1.dim rfl)|exact agV h (λh=>h.dim rfl)|exact agV h (λh=>h.1)|exact agV h (λh=>h));cases h)
section
variable{P:Program}
def aaR:List (cV P)->Nat->List V->Option (Bool×V)
 | [],_,_=>none
 |r::l,f,vs=>cond (AD r.id f) (r.t vs) (aaR l f vs)
def ah1:List (eh P)->rG
 | [],_,_,_=>none
 |r::l,f,us,css=>cond (AD r.id f) (r.t us css) (ah1 l f us css)
def ah2:List (adc P)->anC
 | [],_,_=>none
 |r::l,f,us=>cond (AD r.id f) (r.t us) (ah2 l f us)
theorem akr:∀(l:List (cV P)) f vs v,aaR l f vs=some (true,v)->aF P f vs v∧vs.all V.flat=true∧v.flatU=true
 | [],_,_,_,h=>by simp[aaR] at h
 |r::l,f,vs,v,h=>by
  unfold aaR at h;cases a:AD r.id f with
  |true=>rw[a] at h;have e:r.id=f:=AS a;subst e;exact r.ok vs v h
  |false=>rw[a] at h;exact akr l f vs v h
theorem aqh:∀(l:List (eh P)) f us css v css',ah1 l f us css=some (true,v,css')->be P f us css v css'
 | [],_,_,_,_,_,h=>by simp[ah1] at h
 |r::l,f,us,css,v,css',h=>by
  unfold ah1 at h;cases a:AD r.id f with
  |true=>rw[a] at h;have e:r.id=f:=AS a;subst e;exact r.ok _ _ _ _ h
  |false=>rw[a] at h;exact aqh l f us css v css' h
theorem aqi:∀(l:List (adc P)) f us cs,ah2 l f us=some (true,cs)->sA P f us cs
 | [],_,_,_,h=>by simp[ah2] at h
 |r::l,f,us,cs,h=>by
  unfold ah2 at h;cases a:AD r.id f with
  |true=>rw[a] at h;have e:r.id=f:=AS a;subst e;exact r.ok _ _ h
  |false=>rw[a] at h;exact aqi l f us cs h
theorem alW:∀(l:List (eh P)) f us css,(∀r∈l,r.id≠f)->ah1 l f us css=none
 | [],_,_,_,_=>rfl
 |r::l,f,us,css,h=>by
  unfold ah1;have a:AD r.id f=false:=by
   cases a:AD r.id f with
   |true=>exact absurd (AS a) (h r (by simp))
   |false=>rfl
  rw[a];exact alW l f us css λr b=>h r (by simp[b])
theorem afF:∀(l:List (adc P)) f us,(∀r∈l,r.id≠f)->ah2 l f us=none
 | [],_,_,_=>rfl
 |r::l,f,us,h=>by
  unfold ah2;have a:AD r.id f=false:=by
   cases a:AD r.id f with
   |true=>exact absurd (AS a) (h r (by simp))
   |false=>rfl
  rw[a];exact afF l f us λr b=>h r (by simp[b])
theorem ade(l:List (cV P)):ca P (su (aaR l)):=by intro f vs hp v hp' b;obtain⟨h,e⟩:=afu b;subst e;obtain⟨d,g,a⟩:=akr l f vs v h;exact d.frameR g a _
def tab(N:List (adc P))(O:List (eh P))(a:List Nat)(G:List (cV P)):aq:=aae (ah2 N) (rH (ah1 O) (t7 a (aaR G) (su (aaR G))))
theorem avl(N:List (adc P))(O:List (eh P))(a:List Nat)(G:List (cV P)):ca P (tab N O a G):=
 ati (aqi N) (ase (aqh O) (ath (λf vs v h=>(akr G f vs v h).1) (ade G)))
def atq(N:List (adc P))(O:List (eh P))(a imp:List Nat):Bool:=
 N.all (λr=>imp.contains r.id&& !imp.contains (r.id+2000000))&&O.all (λr=>imp.contains r.id)&&(a++imp.filter (λx=> !Nat.blt x 2000000)).all (λx=>imp.contains x)
theorem atr{N:List (adc P)}{O:List (eh P)}{d:List Nat}{G:List (cV P)}{imp:List Nat}(h:atq N O d imp=true):cI (tab N O d G) imp:=by
 simp only[atq,Ac,Ap,BK] at h;obtain⟨⟨e,j⟩,i⟩:=h;refine aqX (λf us a=>afF N f us ?_) (λf us a=>afF N f us ?_) (apC (λf us css a=>alW O f us css ?_) (aqW (qF _ _) (Ap.2 i) ?_));·rintro r b rfl;rw[(e r b).1] at a;cases a
 ·rintro r b rfl;rw[(e r b).2] at a;cases a
 ·rintro r b rfl;rw[j r b] at a;cases a
 ·refine Ap.2 λx m=>?_
  cases g:B9 x 2000000 with
  |true=>rfl
  |false=>simp only[B8];rw[B1];exact List.mem_filter.2 ⟨m,by simp[g]⟩
end
structure FnK(P:Program)(k:Nat)(f:FuncId)(call:Nat->List V->List ai->Ro):Prop where
 fnOK:∀{n:Nat}{vs:List V}{hp hp':List ai}{v:V},hp.length=k->call n vs hp=some (v,hp')->eO P f vs hp v hp'
abbrev FnC(P:Program)(Γ:aq)(imp:List Nat)(k:Nat)(f:FuncId)(fn:Func)(ir:IR)(rs:List RV):Prop:=FnK P k f λn vs hp=>callF Γ n fn.ntmps rs ir vs hp
section
variable{P:Program}{Γ:aq}{imp:List Nat}{k n:Nat}{f:FuncId}{fn:Func}{ir:IR}{rs:List RV}{vs:List V}{x:Ro}{call:Nat->List V->List ai->Ro}
theorem FnC.of(b:ca P Γ)(e:cI Γ imp)(g:P.funcs[f]? =some fn)(d:fn.body=some (fn.body.getD .skip))(chk:(bd P imp k ir (fn.body.getD .skip)&&jQ P rs fn.results.toList)=true)(a:fn.results.toList.length<=5):FnC P Γ imp k f fn ir rs:=⟨λi h=>by subst i;simp only[Ac] at chk;exact abD b e g d chk.1 chk.2 a h⟩
theorem FnK.pure(h:FnK P 0 f call)(b:call n vs []=x){v:V}{hp':List ai}(a:x=some (v,hp')):aF P f vs v:=⟨hp',h.fnOK rfl (b.trans a)⟩
theorem FnK.newFn(h:FnK P 0 f call)(b:call n vs []=x){cs:List V}(a:x=some (.ptr 0 0,[some cs])):sA P f vs cs:=h.fnOK rfl (b.trans a)
theorem FnK.objs{css css':List (List V)}{rest:List ai}(h:FnK P css.length f call)(d:call n vs (css.map some)=x){v:V}(a:x=some (v,css'.map some++rest))(b:css'.length=css.length):
  be P f vs css v css':=⟨b,rest,h.fnOK (by simp) (d.trans a)⟩
section
variable{N:Nat}{R:Type}{ret:R->V}{p:R->Prop}{Q:V×List ai->Prop}
theorem FnK.finP(h:FnK P 0 f call)(d:call N vs []=x)(g:Tot x Q)(k:∀z,Q z->∃r,z.1.dimR=ret r∧p r):∃r,aF P f vs (ret r)∧p r:=by obtain⟨z,a,b⟩:=g;obtain⟨r,e,hp⟩:=k z b;exact⟨r,(h.pure d a).dimR e,hp⟩
variable{css:List (List V)}{css':R->List (List V)}
theorem FnK.finO(h:FnK P css.length f call)(i:call N vs (css.map some)=x)(j:Tot x Q)(k:∀z,Q z->∃r,z.1.dimR=ret r∧(∃rest,z.2=(css' r).map some++rest)∧p r)(d:∀r,(css' r).length=css.length:=by exactλ_=>rfl):
  ∃r,be P f vs css (ret r) (css' r)∧p r:=by
 obtain⟨⟨v,hp⟩,b,g⟩:=j;obtain⟨r,e,⟨rest,a⟩,hp⟩:=k _ g;simp only at a;subst a;exact⟨r,(h.objs i b (d r)).dimR e,hp⟩
end
abbrev LB{α R:Type}(F:(St->Option R)->St->Option R)(b:α->St)(B:(α->Option R)->α->Option R):Prop:=∀a x,F a (b x)=B (λy=>a (b y)) x
abbrev LJ{α R:Type}(F:St->Option R)(a:α->St)(J:α->Option R):Prop:=∀x,F (a x)=J x
theorem fnC{N:List (adc P)}{O:List (eh P)}{e:List Nat}{G:List (cV P)}(d:P.funcs[f]? =some fn)(h:atq N O e imp=true:=by kernel_rfl)(b:fn.body=some (fn.body.getD .skip):=by kernel_rfl)
  (chk:(bd P imp k ir (fn.body.getD .skip)&&jQ P rs fn.results.toList)=true:=by kernel_rfl) (a:fn.results.toList.length<=5:=by decide):FnC P (tab N O e G) imp k f fn ir rs:=.of (avl N O e G) (atr h) d b chk a
end
end Go.AM
namespace Go.Proofs.YtkinflmjagfapaaDoor
open Go.AM
mutual
def dJ:aa->Nat
 | .mk _ _ _ l _=>dJL l+1
def dJL:List aa->Nat
 | []=>0
 |c::l=>max (dJ c) (dJL l)
end
def cb:List (List UInt8)->List aa->List UInt8->Option aa
 |x::a,c::l,name=>if x=name then some c else cb a l name
 |_,_,_=>none
abbrev att:Int:=255
abbrev adf(s:List UInt8):Prop:=s.length<=3∧46 ∉ s
abbrev wE:List UInt8:=[110,97,109,101,115,112,97,99,101]
def qJ(x:List UInt8)(c:aa):Prop:=
 (x=[115,105,122,101]->c.n<=att)∧(x=[110,97,109,101]->adf c.s)∧(x=wE->c.s=[115])∧(x=[102,105,101,108,100,115]->c.l.length<=4)∧(x=[115,121,109,98,111,108,115]->∀y∈c.l,y.s.length<=10)
def qd(G:List UInt8->aa->Prop):List (List UInt8)->List aa->Prop
 |x::a,c::l=>G x c∧qd G a l
 |_,_=>True
inductive dq(G:List UInt8->aa->Prop)(b:Nat):aa->Prop where
 |mk (k n:Int) (s:List UInt8) (l:List aa) (names:List (List UInt8)) (h1:s.length<=100) (h2:l.length<=b) (h3:names.length<=l.length)
   (h4:∀x∈names,x.length<=100) (h5:k=6->names.length=l.length) (h6:∀c∈l,dq G b c)
   (h7:qd G names l):dq G b (.mk k n s l names)
abbrev bp:aa->Prop:=dq (λ_ _=>True) 8
abbrev pw:aa->Prop:=dq qJ 7
def px(w:Nat->Nat):Nat->Nat
 |0=>0
 |k+1=>px w k+w k
inductive ge(ts:List ac)(n:Nat):Int->Nat->Prop where
 |leaf (i:Int) (t:ac) (h0:0<=i) (h:ts[i.toNat]? =some t) (hk:t.kind<=11):ge ts n i 1
 |arr (i:Int) (t:ac) (b:Nat) (h0:0<=i) (hn:n<=i.toNat) (h:ts[i.toNat]? =some t) (hk:t.kind=12∨t.kind=13) (hr:ge ts n t.items b):ge ts n i (b+1)
 |uni (i:Int) (t:ac) (w:Nat->Nat) (h0:0<=i) (hn:n<=i.toNat) (h:ts[i.toNat]? =some t) (hk:t.kind=14) (hr:∀(k:Nat) c,t.branches[k]? =some c->ge ts n c (w k)):ge ts n i (px w t.branches.length+1)
abbrev xg:Nat:=1000000
def aks(ts:List ac)(i:Nat)(t:ac):Prop:=∀f∈t.fields,∃b,b<=xg∧ge ts i f.typ b
def pa(l:List UInt8)(n:Int):Prop:=0<=n∧n<=l.length∧l.length<=1000
def qf:Nat->Nat
 |0=>1
 |k+1=>1+4*qf k
def dT(k:Nat):Nat:=3*k-2
def dg(l:List (List UInt8)):Prop:=∀x∈l,x.length<=100
def u9(l:List UInt8)(n m:Int)(r:Int×List UInt8×Int):Prop:=0<=r.1∧r.1<m∧r.2.1=l∧pa l r.2.2
def ua(l:List UInt8)(n:Int)(r:Bool×List UInt8×Int):Prop:=r.2.1=l∧r.2.2=n
def abF(l:List UInt8)(r:List UInt8×Int):Prop:=r=(l,0)
def abG(s:List UInt8)(r:Int×Int×List UInt8×List aa×List (List UInt8)):Prop:=r=(4,0,s,[],[])
def aaf(a:Bool)(names:List (List UInt8))(b:Bool)(l:List aa)(r:Int×Int×List UInt8×Bool×List aa×Bool×List (List UInt8)):Prop:=r=(6,0,[],b,l,a,names)
def avR(o:Option aa):Int×Int×List UInt8×List aa×List (List UInt8)×Bool:=match o with
 |some c=>(c.kind,c.n,c.s,c.l,c.names,true)
 |none=>(0,0,[],[],[],false)
def sB(k n:Int)(s:List UInt8)(l:List aa)(names:List (List UInt8))(name:List UInt8)(r:Int×Int×List UInt8×List aa×List (List UInt8)×Bool):Prop:=r=avR (cb names l name)
def adg(n:aa):Prop:=∃x y,n=.mk 6 0 [] [.mk 4 0 [114,101,99,111,114,100] [] [],.mk 4 0 x [] [],.mk 4 0 [115] [] [],y] [[116,121,112,101],[110,97,109,101],wE,[102,105,101,108,100,115]]
def avI(a:List UInt8)(r:Int×Int×List UInt8×List aa×List (List UInt8)×List UInt8×Int):Prop:=
 (pw (.mk r.1 r.2.1 r.2.2.1 r.2.2.2.1 r.2.2.2.2.1)∧dJ (.mk r.1 r.2.1 r.2.2.1 r.2.2.2.1 r.2.2.2.2.1)<=dT 5)∧r.2.2.2.2.2.1=a∧pa a r.2.2.2.2.2.2
def aqY(k:Nat)(a:List UInt8)(b:List (List UInt8))(r:Int×Int×List UInt8×List aa×List (List UInt8)×List UInt8×Int×List (List UInt8)):Prop:=
 (pw (.mk r.1 r.2.1 r.2.2.1 r.2.2.2.1 r.2.2.2.2.1)∧dJ (.mk r.1 r.2.1 r.2.2.1 r.2.2.2.1 r.2.2.2.2.1)<=dT k)∧r.2.2.2.2.2.1=a∧pa a r.2.2.2.2.2.2.1∧dg r.2.2.2.2.2.2.2∧r.2.2.2.2.2.2.2.length<=b.length+qf k
def eP(a:List UInt8)(n:Int)(b:List (List UInt8))(deep:Int)(r:Int×Int×List UInt8×List aa×List (List UInt8)×List UInt8×Int×List (List UInt8)):Prop:=aqY (5-deep.toNat) a b r
def s9(a:List UInt8)(n:Int)(b:List (List UInt8))(deep:Int)(r:Int×Int×List UInt8×List aa×List (List UInt8)×List UInt8×Int×List (List UInt8)):Prop:=aqY (5-deep.toNat) a b r
def rI(a:List UInt8)(n:Int)(b:List (List UInt8))(name:List UInt8)(deep:Int)(r:Int×Int×List UInt8×List aa×List (List UInt8)×List UInt8×Int×List (List UInt8)):Prop:=
 aqY (5-deep.toNat) a b r∧r.2.2.2.2.2.2.2.length+1<=b.length+qf (5-deep.toNat)∧adg (.mk r.1 r.2.1 r.2.2.1 r.2.2.2.1 r.2.2.2.2.1)
def eX(a:List UInt8)(n e b:Int)(g:List UInt8)(f:List aa)(d:List (List UInt8))(r:Int×Int×List UInt8×List aa×List (List UInt8)×List UInt8×Int):Prop:=
 pw (.mk r.1 r.2.1 r.2.2.1 r.2.2.2.1 r.2.2.2.2.1)∧dJ (.mk r.1 r.2.1 r.2.2.1 r.2.2.2.1 r.2.2.2.2.1)=1∧r.2.2.2.2.2.1=a∧pa a r.2.2.2.2.2.2
def rJ(a:List UInt8)(n:Int)(r:Int×Int×List UInt8×List aa×List (List UInt8)×List UInt8×Int):Prop:=avI a r∧adg (.mk r.1 r.2.1 r.2.2.1 r.2.2.2.1 r.2.2.2.2.1)
def bj:List (List UInt8):=[[110,117,108,108],[98,111,111,108,101,97,110],[105,110,116],[108,111,110,103],[102,108,111,97,116],[100,111,117,98,108,101],[98,121,116,101,115],[115,116,114,105,110,103],[114,101,99,111,114,100],[101,110,117,109],[102,105,120,101,100],[97,114,114,97,121],[109,97,112],[117,110,105,111,110]]
def bE(k:Int):List UInt8:=if 1<=k∧k<=14 then bj.getD (k-1).toNat [] else []
def akt(d:Nat):UInt8:=if d<10 then AF (48+d) else AF (87+d)
def jd(c:UInt8):List UInt8:=
 if c=34 then [92,34] else if c=92 then [92,92] else if c=8 then [92,98] else if c=12 then [92,102] else if c=10 then [92,110]
 else if c=13 then [92,114] else if c=9 then [92,116] else if c.toNat<32 then [92,117,48,48,akt (c.toNat / 16),akt (c.toNat%16)] else [c]
def aX(s:List UInt8):List UInt8:=34::(s.flatMap jd++[34])
def afG:List UInt8->Nat->Option Nat
 | [],_=>none
 |b::s,c=>if b.toNat=c then some 0 else (afG s c).map (·+1)
def kR(s:List UInt8)(c:Int):Int:=match afG s c.toNat with|some k=>(k:Int)|none=>-1
instance:Inhabited aa:=⟨.mk 0 0 [] [] []⟩
abbrev bX:List UInt8:=[110,97,109,101]
abbrev bb:List UInt8:=[116,121,112,101]
abbrev aA(s:List UInt8):aa:=.mk 4 0 s [] []
abbrev bK(names:List (List UInt8))(l:List aa):aa:=.mk 6 0 [] l names
abbrev cJ(l:List aa):aa:=.mk 5 0 [] l []
def tyA(ts:List ac)(t:Int):ac:=ts.getD t.toNat (ao .atype)
inductive Tk where
 |node (t:Int)
 |row (bs:List Int)
 |flds (fs:List aZ)
inductive TR(ts:List ac):Tk->List Int->List aa->List Int->Prop where
 |arr (t:Int) (L:List Int) (j:aa) (L':List Int) (hk:(tyA ts t).kind=12) (h:TR ts (.node (tyA ts t).items) L [j] L'):
   TR ts (.node t) L [bK [bb,[105,116,101,109,115]] [aA [97,114,114,97,121],j]] L'
 |map (t:Int) (L:List Int) (j:aa) (L':List Int) (hk:(tyA ts t).kind=13) (h:TR ts (.node (tyA ts t).items) L [j] L'):
   TR ts (.node t) L [bK [bb,[118,97,108,117,101,115]] [aA [109,97,112],j]] L'
 |uni (t:Int) (L:List Int) (js:List aa) (L':List Int) (hk:(tyA ts t).kind=14) (h:TR ts (.row (tyA ts t).branches) L js L'):TR ts (.node t) L [cJ js] L'
 |told (t:Int) (L:List Int) (hk:9<=(tyA ts t).kind∧(tyA ts t).kind<=11) (hm:t∈L):TR ts (.node t) L [aA (tyA ts t).name] L
 |fix (t:Int) (L:List Int) (hk:(tyA ts t).kind=11) (hm:0<=t∧t ∉ L):
   TR ts (.node t) L [bK [bX,bb,[115,105,122,101]] [aA (tyA ts t).name,aA (bE 11),.mk 3 (tyA ts t).size [] [] []]] (L++[t])
 |enum (t:Int) (L:List Int) (hk:(tyA ts t).kind=10) (hm:0<=t∧t ∉ L):
   TR ts (.node t) L [bK [bX,bb,[115,121,109,98,111,108,115]] [aA (tyA ts t).name,aA (bE 10),cJ ((tyA ts t).syms.map aA)]] (L++[t])
 |rcd (t:Int) (L:List Int) (js:List aa) (L':List Int) (hk:(tyA ts t).kind=9) (hm:0<=t∧t ∉ L) (h:TR ts (.flds (tyA ts t).fields) (L++[t]) js L'):
   TR ts (.node t) L [bK [bX,bb,[102,105,101,108,100,115]] [aA (tyA ts t).name,aA (bE 9),cJ js]] L'
 |prim (t:Int) (L:List Int) (hk:(tyA ts t).kind<=8):TR ts (.node t) L [aA (bE (tyA ts t).kind)] L
 |rnil (L:List Int):TR ts (.row []) L [] L
 |rcons (b:Int) (bs L:List Int) (j:aa) (L1:List Int) (js:List aa) (L2:List Int) (h:TR ts (.node b) L [j] L1) (hr:TR ts (.row bs) L1 js L2):TR ts (.row (b::bs)) L (j::js) L2
 |fnil (L:List Int):TR ts (.flds []) L [] L
 |fcons (f:aZ) (fs:List aZ) (L:List Int) (j:aa) (L1:List Int) (js:List aa) (L2:List Int) (h:TR ts (.node f.typ) L [j] L1) (hr:TR ts (.flds fs) L1 js L2):
   TR ts (.flds (f::fs)) L (bK [bX,bb] [aA f.name,j]::js) L2
def aqZ(ts:List ac)(k:ac)(L:List Int)(j:aa)(a:List Int):Prop:=
 (k.kind=11->a=L∧j=bK [bX,bb,[115,105,122,101]] [aA k.name,aA (bE 11),.mk 3 k.size [] [] []])∧
 (k.kind=10->a=L∧j=bK [bX,bb,[115,121,109,98,111,108,115]] [aA k.name,aA (bE 10),cJ (k.syms.map aA)])∧
 (k.kind=9->∃b,TR ts (.flds k.fields) L b a∧j=bK [bX,bb,[102,105,101,108,100,115]] [aA k.name,aA (bE 9),cJ b])
def eQ(sep:List UInt8)(xs:List (List UInt8)):List UInt8:=Go.Lib.join xs sep
def aq0(b:Bool):List UInt8:=if b then [116,114,117,101] else [102,97,108,115,101]
mutual
def aw:aa->List UInt8
 | .mk k n s l names=>if k=2 then aq0 (!(n==0)) else if k=3 then Go.Lib.decDigits n.toNat else if k=4 then aX s else
   if k=5 then 91::(eQ [44] (bR l)++[93]) else if k=6 then 123::(eQ [44] (B6 (λn t=>aX n++58::t) names (bR l))++[125]) else [110,117,108,108]
def bR:List aa->List (List UInt8)
 | []=>[]
 |c::l=>aw c::bR l
end
def fpC:Nat:=13933329357911598997
def ub(v:Nat):Nat:=if v%2=1 then (v / 2) ^^^fpC else v / 2
def ai0:Nat->Nat->Nat
 |0,v=>v
 |n+1,v=>ai0 n (ub v)
def rK(v:Nat)(c:UInt8):Nat:=ai0 8 (v ^^^c.toNat)
def aob(s:List UInt8):Nat:=s.foldl rK fpC
def eR(L:List Int):List (Int×Bool):=L.map λt=>(t,true)
def sC(ts:List ac)(x:List UInt8):Prop:=(ts=[]->x=[])∧(ts≠[]->∃j a,TR ts (.node 0) [] [j] a∧x=aw j)
def yE(s r:List UInt8):Prop:=r=aX s
def gP(s:List UInt8)(r:aa):Prop:=r=aA s
def yF(a:Bool)(names:List (List UInt8))(b:Bool)(l:List aa)(r:Int×Int×List UInt8×Bool×List aa×Bool×List (List UInt8)):Prop:=r=(6,0,[],b,l,a,names)
def aag(r:List (List UInt8)):Prop:=r=[]::bj
def nd(k:Int)(r:List UInt8):Prop:=r=bE k
def fv(es:List (Int×Bool))(ts:List ac)(t:Int)(r:aa×List (Int×Bool)×List ac):Prop:=∃a,r.2.1=eR a∧r.2.2=ts∧TR ts (.node t) (es.map (·.1)) [r.1] a
def ta(es:List (Int×Bool))(ts:List ac)(k:ac)(r:aa×List (Int×Bool)×List ac):Prop:=∃a,r.2.1=eR a∧r.2.2=ts∧aqZ ts k (es.map (·.1)) r.1 a
def xx(l:List aa)(r:List (List UInt8)):Prop:=r=bR l
def fh(n:aa)(r:List UInt8):Prop:=r=aw n
def ag5(xs:List (List UInt8))(sep r:List UInt8):Prop:=r=eQ sep xs
def aaS(n b:Int)(r:List UInt8):Prop:=r=Go.Lib.decDigits n.toNat
def rh(b:Bool)(r:List UInt8):Prop:=r=aq0 b
def kT(b:Bool)(r:List UInt8):Prop:=r=aq0 b
def aah(ts:List ac)(r:List UInt8):Prop:=sC ts r
def vz(s:List UInt8)(r:Int):Prop:=r=(aob s:Int)
def sO(s:List UInt8)(r:Int):Prop:=r=(aob s:Int)
def yG(ts:List ac)(r:Int):Prop:=∃x,sC ts x∧r=(aob x:Int)
def sP(r:Bool):Prop:=r=true
def jt:List UInt8:=[65,66,67,68,69,70,71,72,73,74,75,76,77,78,79,80,81,82,83,84,85,86,87,88,89,90,97,98,99,100,101,102,103,104,105,106,107,108,109,110,111,112,113,114,115,116,117,118,119,120,121,122,95]
def o7:List UInt8:=[48,49,50,51,52,53,54,55,56,57]
abbrev MS:=List (List UInt8×Int)×List ac×Int×Int
def dO(s:List UInt8)(c:UInt8):Bool:=decide (0<=Go.Lib.indexByte s c)
def b9(s:List UInt8):Bool:= !decide (s=[])&&decide (Go.Lib.trimS s (jt++o7)=[])&&dO jt (s.headD 0)
def bV:List (List UInt8)->List UInt8->Int
 | [],_=>-1
 |x::l,s=>if x=s then 0 else if bV l s<0 then -1 else bV l s+1
def aq1(s:List UInt8):Int:=Go.Lib.lastIndexByte ⟨s.toArray⟩ 46
def aG(s:List UInt8):List UInt8:=s.take (aq1 s).toNat
def fw(ts:List ac)(i:Int):List UInt8:=if 0<=i∧i<(ts.length:Int) then (if (ts.getD i.toNat (ao .atype)).name≠[] then (ts.getD i.toNat (ao .atype)).name else bE (ts.getD i.toNat (ao .atype)).kind) else []
def agW(o:Option aa):aa×Bool:=match o with
 |some c=>(c,true)
 |none=>(.mk 0 0 [] [] [],false)
def aj(n:aa)(name:List UInt8):aa×Bool:=agW (if n.kind=6 then cb n.names n.l name else none)
def ak(m:MS)(b:Bool)(c:Int):MS:=(m.1,m.2.1,if b=true∧m.2.2.1=0 then c else m.2.2.1,m.2.2.2)
def a7(m:MS)(t:ac):Int×MS:=if m.2.2.1≠0∨60<=m.2.1.length then (0,ak m (decide (60<=m.2.1.length)) 3) else (m.2.1.length,m.1,m.2.1++[t],m.2.2.1,m.2.2.2)
def aE(k:Int):ac:=⟨k,[],[],0,[],false,[],0,[],[]⟩
def bM(m:MS)(name a:List UInt8):List UInt8×MS:=
 let b:=if dO name 46=false∧a≠[] then a++[46]++name else name
 (b,ak m ((Go.Lib.split b [46]).any λs=> !b9 s) 6)
def fx(m:MS)(s a:List UInt8):Int×MS:=
 if a≠[]∧dO s 46=false∧(aY (k:=.sn) m.1 (a++[46]++s)).isSome=true then (da (k:=.sn) m.1 (a++[46]++s),m)
 else (da (k:=.sn) m.1 s,ak m (!(aY (k:=.sn) m.1 s).isSome) 4)
def dr(m:MS)(s a:List UInt8):Int×MS:=if 1<=bV ([]::bj) s∧bV ([]::bj) s<=8 then a7 m (aE (bV ([]::bj) s)) else fx m s a
def uc:List aa->MS->MS
 | [],m=>m
 |x::l,m=>uc l (ak m (!(x.kind==4)) 2)
def cu(m:MS)(n:aa):List (List UInt8)×MS:=(n.l.map aa.s,uc n.l (ak m (!(n.kind==5)) 2))
def dP(m:MS)(n:aa):List UInt8×MS:=((aj n [110,97,109,101]).1.s,ak m (!((aj n [110,97,109,101]).1.kind ==4)) 2)
def gQ(a:MS->List UInt8->List UInt8×MS):List (List UInt8)->List (List UInt8)->MS->List (List UInt8)×MS
 | [],l,m=>(l,m)
 |s::b,l,m=>if m.2.2.1=0 then gQ a b (l++[(a m s).1]) (a m s).2 else gQ a b l m
def aB(a:MS->List UInt8->List UInt8×MS)(m:MS)(n:aa):List (List UInt8)×MS:=
 let g:=aj n [97,108,105,97,115,101,115]
 if g.2=true then gQ a (cu m g.1).1 [] (cu m g.1).2 else ([],m)
def cB(a:List UInt8)(m:MS)(s:List UInt8):List UInt8×MS:=bM m s a
def lR(m:MS)(s:List UInt8):List UInt8×MS:=(s,ak m (!b9 s) 6)
abbrev TF:=MS->aa->List UInt8->Int×MS
def sQ(t:ac)(x:Int):ac:={t with items:=x}
def gK(t:ac)(x:List Int):ac:={t with branches:=x}
def atT(m:MS)(i:Int)(f:ac->ac):MS:=(m.1,m.2.1.set i.toNat (f (m.2.1.getD i.toNat (ao .atype))),m.2.2.1,m.2.2.2)
def dF(T:TF)(m:MS)(n:aa)(kind:Int)(f b:List UInt8):Int×MS:=
 let a:=a7 m (aE kind);let g:=aj n f;let t:=T (ak a.2 (!g.2) 2) g.1 b
 (a.1,if t.2.2.2.1=0 then atT t.2 a.1 (sQ · t.1) else t.2)
def bW(T:TF)(a:List UInt8):List aa->List Int->List (List UInt8×Bool)->MS->List Int×MS
 | [],l,_,m=>(l,m)
 |x::xs,l,b,m=>if m.2.2.1=0 then
   let t:=T m x a
   if t.2.2.2.1=0 then
    let f:=fw t.2.2.1 t.1
    bW T a xs (l++[t.1]) (cE (k:=.sb) b f true) (ak t.2 ((t.2.2.1.getD t.1.toNat (ao .atype)).kind==14||da (k:=.sb) b f) 6)
   else (l,t.2)
  else (l,m)
def dk(T:TF)(m:MS)(n:aa)(b:List UInt8):Int×MS:=
 let a:=a7 m (aE 14);let r:=bW T b n.l [] [] (ak (ak a.2 (decide (n.l.length=0)) 6) (decide (30<n.l.length)) 3)
 (a.1,if r.2.2.2.1=0 then atT r.2 a.1 (gK · r.1) else r.2)
def cW(T:TF)(m:MS)(n:aa)(names:List (List UInt8×Bool))(a:List UInt8):aZ×MS×List (List UInt8×Bool):=
 let b:=dP (ak m (!(n.kind==6)) 2) n;let g:=aj n [116,121,112,101];let t:=T (ak (ak (ak b.2 (!b9 b.1) 6) (da (k:=.sb) names b.1) 5) (!g.2) 2) g.1 a;let d:=aj n [100,101,102,97,117,108,116];let f:=aB lR t.2 n
 (⟨b.1,f.1,t.1,d.2,d.1⟩,f.2,cE (k:=.sb) names b.1 true)
def bP(T:TF)(a:List UInt8):List aa->List aZ->List (List UInt8×Bool)->MS->List aZ×MS
 | [],l,_,m=>(l,m)
 |x::xs,l,names,m=>if m.2.2.1=0 then
   let f:=cW T m x names a
   bP T a xs (l++[f.1]) f.2.2 f.2.1
  else bP T a xs l names m
def cl(T:TF)(m:MS)(b:List aZ)(n:aa)(a:List UInt8):List aZ×MS:=
 let g:=aj n [102,105,101,108,100,115]
 bP T a g.1.l b [] (ak (ak m (!(g.1.kind==5)) 2) (decide (30<g.1.l.length)) 3)
def lr:List (List UInt8)->List (List UInt8)->MS->MS
 |_,[],m=>m
 |before,s::a,m=>lr (before++[s]) a (ak (ak m (!b9 s) 6) (decide (0<=bV before s)) 5)
def cY(m:MS)(n:aa)(a:Bool)(df:List UInt8):(List (List UInt8)×Bool×List UInt8)×MS:=
 let g:=aj n [115,121,109,98,111,108,115];let t:=cu (ak m (!g.2) 2) g.1;let b:=lr [] t.1 (ak (ak t.2 (decide (t.1.length=0)) 6) (decide (30<t.1.length)) 3);let d:=aj n [100,101,102,97,117,108,116]
 if d.2=true then ((t.1,true,d.1.s),ak (ak b (!(d.1.kind==4)) 2) (!decide (0<=bV t.1 d.1.s)) 6) else ((t.1,a,df),b)
def ai1(x:Int):Int:=if x<0 then 0 else if 5000<x then 5000 else x
def nU(T:TF)(m:MS)(n:aa)(kind:Int)(b name:List UInt8)(a:List (List UInt8))(h:Int):MS:=
 if kind=9 then
  let f:=cl T m [] n b
  if f.2.2.2.1=0 then atT f.2 h (λ_=>⟨kind,name,a,0,[],false,[],0,f.1,[]⟩) else f.2
 else if kind=10 then
  let s:=cY m n false []
  if s.2.2.2.1=0 then atT s.2 h (λ_=>⟨kind,name,a,0,s.1.1,s.1.2.1,s.1.2.2,0,[],[]⟩) else s.2
 else
  let g:=(aj n [115,105,122,101]).1;let i:=ak (ak m (!(g.kind==3)) 2) (decide (g.n<0)||decide (5000<g.n)) 6
  if i.2.2.1=0 then atT i h (λ_=>⟨kind,name,a,0,[],false,[],ai1 g.n,[],[]⟩) else i
def gH(T:TF)(m:MS)(n:aa)(kind:Int)(w:List UInt8×MS):Int×MS:=
 let b:=aB (cB (aG w.1)) w.2 n;let a:=a7 (ak b.2 (aY (k:=.sn) b.2.1 w.1).isSome 5) ⟨kind,w.1,b.1,0,[],false,[],0,[],[]⟩
 if a.2.2.2.1=0 then (a.1,nU T (cE (k:=.sn) a.2.1 w.1 a.1,a.2.2) n kind (aG w.1) w.1 b.1 a.1) else (0,a.2)
def eo(T:TF)(m:MS)(n:aa)(kind:Int)(a:List UInt8):Int×MS:=
 let b:=dP m n;let g:=aj n [110,97,109,101,115,112,97,99,101]
 if g.2=true then gH T m n kind (bM (ak b.2 (!(g.1.kind==4)) 2) b.1 g.1.s) else gH T m n kind (bM b.2 b.1 a)
def cm(T:TF)(m:MS)(n:aa)(a:List UInt8):Int×MS:=
 let g:=aj n [116,121,112,101];let b:=ak m (!g.2) 2
 if g.1.kind≠4 then T b g.1 a
 else if g.1.s=[114,101,99,111,114,100] then eo T b n 9 a
 else if g.1.s=[101,110,117,109] then eo T b n 10 a
 else if g.1.s=[102,105,120,101,100] then eo T b n 11 a
 else if g.1.s=[97,114,114,97,121] then dF T b n 12 [105,116,101,109,115] a
 else if g.1.s=[109,97,112] then dF T b n 13 [118,97,108,117,101,115] a
 else dr b g.1.s a
def bZ(m:MS)(d:Int):MS:=(m.1,m.2.1,m.2.2.1,d)
def aL:Nat->TF
 |0,m,_,_=>(0,ak m true 3)
 |k+1,m,n,a=>
  if m.2.2.1≠0 then (0,m) else
  let b:=ak (bZ m (m.2.2.2+1)) (decide (20<m.2.2.2+1)) 3
  if b.2.2.1≠0 then (0,bZ b m.2.2.2) else
  let r:=if n.kind=4 then dr b n.s a else if n.kind=5 then dk (aL k) b n a else if n.kind=6 then cm (aL k) b n a else (0,ak b true 2)
  (r.1,bZ r.2 m.2.2.2)
def aC(d:Int):TF:=aL (21-d.toNat)
def lS(n:aa):List ac×Int:=
 let t:=aL 21 ([],[],0,0) n []
 if t.2.2.2.1=0 then (t.2.2.1,0) else ([],t.2.2.2.1)
section
variable(o0:List (List UInt8×Int))(o1:List ac)(e d:Int)
end
theorem ge.keep{ts d:List ac}{n:Nat}(m:∀(i:Nat) t,ts[i]? =some t->t.kind<=11->∃t':ac,d[i]? =some t'∧t'.kind<=11)(k:∀(i:Nat) t,n<=i->ts[i]? =some t->¬t.kind<=11->d[i]? =some t)
  {i:Int} {b:Nat} (h:ge ts n i b):ge d n i b:=by
 induction h with
 |leaf i t f h g=>obtain⟨t',a,b⟩:=m _ t h g;exact .leaf i t' f a b
 |arr i t b f e h g _ j=>exact .arr i t b f e (k _ t e h (by omega)) g j
 |uni i t w f e h g _ j=>exact .uni i t w f e (k _ t e h (by omega)) g j
theorem ge.low{ts:List ac}{n n':Nat}(g:n'<=n){i:Int}{b:Nat}(h:ge ts n i b):ge ts n' i b:=by
 induction h with
 |leaf i t a h d=>exact .leaf i t a h d
 |arr i t b a f h d _ e=>exact .arr i t b a (by omega) h d e
 |uni i t w a f h d _ e=>exact .uni i t w a (by omega) h d e
theorem ge.pos{ts:List ac}{n:Nat}{i:Int}{b:Nat}(h:ge ts n i b):1<=b:=by cases h<;>omega
section
variable{G:List UInt8->aa->Prop}
theorem dq.kids{b:Nat}{k n:Int}{s:List UInt8}{l:List aa}{names:List (List UInt8)}(h:dq G b (.mk k n s l names)):
  s.length<=100∧l.length<=b∧names.length<=l.length∧(∀x∈names,x.length<=100)∧(k=6->names.length=l.length)∧∀c∈l,dq G b c:=by
 cases h with
 |mk _ _ _ _ _ f g e a d i j=>exact⟨f,g,e,a,d,i⟩
theorem ai2{name:List UInt8}:∀{names:List (List UInt8)}{l:List aa}{c:aa},qd G names l->cb names l name=some c->G name c
 | [],l,c,_,h=>by simp[cb] at h
 |x::b,[],c,_,h=>by simp[cb] at h
 |x::b,d::l,c,a,h=>by
  simp only[cb] at h;simp only[qd] at a;split at h;·rename_i e;cases h;exact e▸a.1
  ·exact ai2 a.2 h
theorem xY(h:∀x c,G x c):∀(names:List (List UInt8))(l:List aa),qd G names l
 | [],l=>by simp[qd]
 |x::a,[]=>by simp[qd]
 |x::a,d::l=>⟨h x d,xY h a l⟩
theorem dq.good{b:Nat}{k n:Int}{s:List UInt8}{l:List aa}{names:List (List UInt8)}(h:dq G b (.mk k n s l names)){name:List UInt8}{c:aa}(a:cb names l name=some c):G name c:=by
 cases h with
 |mk _ _ _ _ _ m i g e f j d=>exact ai2 d a
theorem dq.eta{b:Nat}{c:aa}:dq G b (.mk c.kind c.n c.s c.l c.names)↔dq G b c:=by cases c;exact Iff.rfl
theorem dq.zero{b:Nat}:dq G b (.mk 0 0 [] [] []):=.mk _ _ _ _ _ (by simp) (by simp) (by simp) (by simp) (by simp) (by simp) trivial
theorem dq.getD{b:Nat}{l:List aa}(h:∀c∈l,dq G b c)(i:Nat):dq G b (l.getD i (ao .jnode)):=by
 rw[Al];cases a:l[i]? with
 |none=>exact dq.zero
 |some c=>exact h c (Am a)
theorem dq.up{b a:Nat}(e:b<=a):∀{c:aa},dq G b c->dq G a c:=by
 intro c h;induction h with
 |mk k n s l names j o g d f _ m i=>exact .mk k n s l names j (AR o e) g d f i m
theorem dq.any{b:Nat}:∀{c:aa},dq G b c->dq (λ_ _=>True) b c:=by
 intro c h;induction h with
 |mk k n s l names g i e a d _ j f=>exact .mk k n s l names g i e a d f (xY (λ_ _=>trivial) _ _)
end
theorem ai3(c:aa):dJ (.mk c.kind c.n c.s c.l c.names)=dJ c:=by cases c;rfl
theorem cT(k n:Int)(s:List UInt8)(l:List aa)(names:List (List UInt8)):dJ (.mk k n s l names)=dJL l+1:=rfl
theorem abH:∀(l:List aa)(c:aa),c∈l->dJ c<=dJL l
 | [],c,h=>by cases h
 |d::l,c,h=>by
  rcases AB.1 h with rfl|h;·simp only[dJL];omega
  ·have:=abH l c h;simp only[dJL];omega
theorem bp.kids{k n:Int}{s:List UInt8}{l:List aa}{names:List (List UInt8)}(h:bp (.mk k n s l names)):
  s.length<=100∧l.length<=8∧names.length<=l.length∧(∀x∈names,x.length<=100)∧(k=6->names.length=l.length)∧∀c∈l,bp c:=dq.kids h
theorem bp.eta{c:aa}:bp (.mk c.kind c.n c.s c.l c.names)↔bp c:=dq.eta
theorem bp.zero:bp (.mk 0 0 [] [] []):=dq.zero
theorem bp.getD{l:List aa}(h:∀c∈l,bp c)(i:Nat):bp (l.getD i (ao .jnode)):=dq.getD h i
theorem ah3:∀{names:List (List UInt8)}{l:List aa}{name:List UInt8}{c:aa},cb names l name=some c->c∈l
 | [],l,_,_,h=>by simp[cb] at h
 |x::a,[],_,_,h=>by simp[cb] at h
 |x::a,d::l,name,c,h=>by
  simp only[cb] at h;split at h;·simp at h;simp[h]
  ·exact AL _ (ah3 h)
theorem nM{k:MK}:∀(es:List (k.K×k.T))(x y:k.K)(v:k.T),aY (cE es x v) y=if x=y then some v else aY es y
 | [],x,y,v=>rfl
 |e::r,x,y,v=>by
  unfold cE;by_cases h:e.1=x
  ·rw[if_pos h];unfold aY;by_cases a:x=y;·simp[a]
   ·rw[if_neg a,if_neg a,if_neg (λb=>a (h.symm.trans b))]
  ·rw[if_neg h];unfold aY;rw[nM r x y v];by_cases a:e.1=y;·rw[if_pos a,if_pos a,if_neg (λb=>h (a.trans b.symm))]
   ·rw[if_neg a,if_neg a]
def fR(m:MS):Prop:=∀(x:List UInt8)(i:Int),aY (k:=.sn) m.1 x=some i->0<=i∧i<(m.2.1.length:Int)
structure cg(m m':MS):Prop where
 map:fR m->fR m'
 len:m.2.1.length<=m'.2.1.length
 cap:m.2.1.length<=60->m'.2.1.length<=60
 dep:m'.2.2.2=m.2.2.2
 err:m'.2.2.1=0->m.2.2.1=0
 stay:m.2.2.1≠0->m'.2.2.1=m.2.2.1
theorem cg.refl(m:MS):cg m m:=⟨id,Ar _,id,rfl,id,λ_=>rfl⟩
theorem cg.trans{a b c:MS}(h:cg a b)(k:cg b c):cg a c:=⟨λx=>k.map (h.map x),AR h.len k.len,λx=>k.cap (h.cap x),k.dep.trans h.dep,λx=>h.err (k.err x),λd=>(k.stay (by rw[h.stay d];exact d)).trans (h.stay d)⟩
theorem ay(m:MS)(b:Bool)(c:Int)(d:c≠0:=by decide):cg m (ak m b c):=by
 refine⟨id,Ar _,id,rfl,?_,λh=>if_neg λa=>h a.2⟩;simp only[ak];intro h;split at h;·exact absurd h d
 ·exact h
theorem aS{m:MS}{b:Bool}{c:Int}(h:(ak m b c).2.2.1 =0)(f:c≠0:=by decide):b=false∧ak m b c=m:=by
 have a:=(ay m b c f).err h;simp only[ak,a,and_true] at h ⊢;cases b with
 |true=>exact absurd (by simpa using h) f
 |false=>obtain⟨m0,g,e,d⟩:=m;cases a;exact⟨rfl,by simp⟩
theorem afH(m:MS)(t:ac):((a7 m t).2.2.2.1 ≠0∧(a7 m t).1 =0∧(a7 m t).2.2.1 =m.2.1∧(a7 m t).2.1 =m.1∧(a7 m t).2.2.2.2 =m.2.2.2)∨(m.2.2.1=0∧m.2.1.length<60∧a7 m t=((m.2.1.length:Int),m.1,m.2.1++[t],0,m.2.2.2)):=by
 unfold a7;split
 ·rename_i h;left;refine⟨?_,rfl,rfl,rfl,rfl⟩;intro a;have e:=aS (m:=m) a;have d:=(ay m (decide (60<=m.2.1.length)) 3).err a;rcases h with h|h;·exact h d
  ·have:=of_decide_eq_false e.1;exact this h
 ·rename_i h;right;have a:m.2.2.1=0:=by
   by_cases b:m.2.2.1=0;·exact b
   ·exact absurd (.inl b) h
  exact⟨a,by by_cases b:60<=m.2.1.length;exact absurd (.inr b) h;omega,by rw[a]⟩
theorem ah4(m:MS)(t:ac)(h:m.2.2.1≠0):(a7 m t).2.2.2.1 =m.2.2.1:=by unfold a7;rw[if_pos (.inl h)];exact(ay m _ 3).stay h
theorem sR(m:MS)(t:ac):cg m (a7 m t).2 :=by
 have g:=ah4 m t;rcases afH m t with⟨b,j,a,e,f⟩|⟨b,j,a⟩
 ·exact⟨λh x i d=>by rw[a];rw[e] at d;exact h x i d,by rw[a];exact Ar _,λh=>by rw[a];exact h,f,λh=>absurd h b,g⟩
 ·rw[a];exact⟨λh x i d=>by have:=h x i d;simp;omega,by simp,λ_=>by simp;omega,rfl,λ_=>b,λh=>absurd b h⟩
theorem add_zero{m:MS}{t:ac}(h:(a7 m t).2.2.2.1 =0):m.2.2.1=0∧m.2.1.length<60∧a7 m t=((m.2.1.length:Int),m.1,m.2.1++[t],0,m.2.2.2):=by
 rcases afH m t with⟨b,_⟩|a;·exact absurd h b
 ·exact a
theorem adh(m:MS)(a b:List UInt8):cg m (bM m a b).2 :=ay _ _ _
theorem aq2(m:MS)(a b:List UInt8):cg m (fx m a b).2 :=by
 unfold fx;split;·exact cg.refl _
 ·exact ay _ _ _
theorem alX(m:MS)(a b:List UInt8):cg m (dr m a b).2 :=by
 unfold dr;split;·exact sR _ _
 ·exact aq2 _ _ _
theorem ahA:∀(l:List aa)(m:MS),cg m (uc l m)
 | [],m=>cg.refl _
 |x::l,m=>(ay m _ 2).trans (ahA l _)
theorem adi(m:MS)(n:aa):cg m (cu m n).2 :=(ay m _ 2).trans (ahA _ _)
theorem afI(m:MS)(n:aa):cg m (dP m n).2 :=ay _ _ _
theorem aaT{a:MS->List UInt8->List UInt8×MS}(d:∀m s,cg m (a m s).2):∀(b l:List (List UInt8))(m:MS),cg m (gQ a b l m).2
 | [],l,m=>cg.refl _
 |s::b,l,m=>by
  unfold gQ;split;·exact(d m s).trans (aaT d b _ _)
  ·exact aaT d b _ _
theorem ng{a:MS->List UInt8->List UInt8×MS}(b:∀m s,cg m (a m s).2)(m:MS)(n:aa):cg m (aB a m n).2 :=by
 simp only[aB];split;·exact(adi m _).trans (aaT b _ _ _)
 ·exact cg.refl _
theorem afJ(sp:List UInt8)(m:MS)(s:List UInt8):cg m (cB sp m s).2 :=adh _ _ _
theorem aaU(m:MS)(s:List UInt8):cg m (lR m s).2 :=ay _ _ _
def eb(T:TF):Prop:=∀m n a,cg m (T m n a).2
theorem tb(m:MS)(i:Int)(f:ac->ac):cg m (atT m i f):=⟨λh x j a=>by have:=h x j a;simpa [atT] using this,by simp[atT],by simp[atT],rfl,id,λ_=>rfl⟩
theorem ai4{T:TF}(b:eb T)(m:MS)(n:aa)(k:Int)(u a:List UInt8):cg m (dF T m n k u a).2 :=by
 simp only[dF];have h:=((sR m (aE k)).trans (ay _ (!(aj n u).2) 2)).trans (b _ (aj n u).1 a);split;·exact h.trans (tb _ _ _)
 ·exact h
theorem kH{T:TF}(d:eb T)(a:List UInt8):∀(xs:List aa)(l:List Int)(b:List (List UInt8×Bool))(m:MS),cg m (bW T a xs l b m).2
 | [],l,b,m=>cg.refl _
 |x::xs,l,b,m=>by
  unfold bW;split
  ·dsimp only;split;·exact((d m x a).trans (ay _ _ 6)).trans (kH d a xs _ _ _)
   ·exact d m x a
  ·exact cg.refl _
theorem aq3{T:TF}(b:eb T)(m:MS)(n:aa)(a:List UInt8):cg m (dk T m n a).2 :=by
 simp only[dk];have h:=(((sR m (aE 14)).trans (ay _ (decide (n.l.length=0)) 6)).trans (ay _ (decide (30<n.l.length)) 3)).trans (kH b a n.l [] [] _);split;·exact h.trans (tb _ _ _)
 ·exact h
theorem asi(m:MS)(n:aa)(names:List (List UInt8×Bool)):cg m (ak (ak (ak (dP (ak m (!(n.kind==6)) 2) n).2 (!b9 (dP (ak m (!(n.kind==6)) 2) n).1) 6) (da (k:=.sb) names (dP (ak m (!(n.kind==6)) 2) n).1) 5) (!(aj n [116,121,112,101]).2) 2):=
 ((((ay m _ 2).trans (afI _ _)).trans (ay _ _ 6)).trans (ay _ _ 5)).trans (ay _ _ 2)
theorem aq4{T:TF}(b:eb T)(m:MS)(n:aa)(names:List (List UInt8×Bool))(a:List UInt8):cg m (cW T m n names a).2.1 :=by simp only[cW];exact((asi m n names).trans (b _ _ _)).trans (ng aaU _ _)
theorem gR{T:TF}(b:eb T)(a:List UInt8):∀(xs:List aa)(l:List aZ)(names:List (List UInt8×Bool))(m:MS),cg m (bP T a xs l names m).2
 | [],l,names,m=>cg.refl _
 |x::xs,l,names,m=>by
  unfold bP;split;·exact(aq4 b m x names a).trans (gR b a xs _ _ _)
  ·exact gR b a xs _ _ _
theorem apD{T:TF}(b:eb T)(m:MS)(d:List aZ)(n:aa)(a:List UInt8):cg m (cl T m d n a).2 :=by simp only[cl];exact((ay m _ 2).trans (ay _ _ 3)).trans (gR b a _ _ _ _)
theorem xZ:∀(b a:List (List UInt8))(m:MS),cg m (lr a b m)
 | [],a,m=>by unfold lr;exact cg.refl _
 |s::b,a,m=>by unfold lr;exact((ay m _ 6).trans (ay _ _ 5)).trans (xZ b _ _)
theorem aoc(m:MS)(n:aa)(a:Bool)(df:List UInt8):cg m (cY m n a df).2 :=by
 simp only[cY];have h:=((((ay m (!(aj n [115,121,109,98,111,108,115]).2) 2).trans (adi _ (aj n [115,121,109,98,111,108,115]).1)).trans (ay _ (decide ((cu (ak m (!(aj n [115,121,109,98,111,108,115]).2) 2) (aj n [115,121,109,98,111,108,115]).1).1.length =0)) 6)).trans (ay _ (decide (30<(cu (ak m (!(aj n [115,121,109,98,111,108,115]).2) 2) (aj n [115,121,109,98,111,108,115]).1).1.length)) 3)).trans (xZ (cu (ak m (!(aj n [115,121,109,98,111,108,115]).2) 2) (aj n [115,121,109,98,111,108,115]).1).1 [] _);split;·exact(h.trans (ay _ _ 2)).trans (ay _ _ 6)
 ·exact h
theorem alY{T:TF}(d:eb T)(m:MS)(n:aa)(k:Int)(a f:List UInt8)(e:List (List UInt8))(b:Int):cg m (nU T m n k a f e b):=by
 simp only[nU];split
 ·have h:=apD d m [] n a;split;·exact h.trans (tb _ _ _)
  ·exact h
 ·split
  ·have h:=aoc m n false [];split;·exact h.trans (tb _ _ _)
   ·exact h
  ·have h:=(ay m (!((aj n [115,105,122,101]).1.kind ==3)) 2).trans (ay _ (decide ((aj n [115,105,122,101]).1.n <0)||decide (5000<(aj n [115,105,122,101]).1.n)) 6);split;·exact h.trans (tb _ _ _)
   ·exact h
theorem aq5{T:TF}(e:eb T)(m0 m:MS)(x:List (List UInt8×Int))(h:cg m0 m)(i:fR m0->fR (x,m.2))(n:aa)(k:Int)(a g:List UInt8)(f:List (List UInt8))(d:Int):cg m0 (nU T (x,m.2) n k a g f d):=
 cg.trans (b:=(x,m.2)) ⟨i,h.len,h.cap,h.dep,h.err,h.stay⟩ (alY e _ _ _ _ _ _ _)
theorem alZ{T:TF}(e:eb T)(m m0:MS)(n:aa)(k:Int)(w:List UInt8×MS)(g:cg m0 w.2):cg m0 (gH T m n k w).2 :=by
 simp only[gH];have h:=((g.trans (ng (afJ (aG w.1)) w.2 n)).trans (ay _ (aY (k:=.sn) (aB (cB (aG w.1)) w.2 n).2.1 w.1).isSome 5)).trans (sR _ ⟨k,w.1,(aB (cB (aG w.1)) w.2 n).1,0,[],false,[],0,[],[]⟩);split
 ·rename_i d;refine aq5 e m0 _ _ h (λj x i a=>?_) _ _ _ _ _ _;have o:=h.map j;obtain⟨q,p,f⟩:=add_zero d;dsimp only at a ⊢;rw[nM] at a;split at a;·have b:=Ax a;rw[f] at b ⊢;dsimp only at b ⊢;subst b;refine⟨Int.natCast_nonneg _,?_⟩;simp only[Aj,Af,Ak];omega
  ·exact o x i a
 ·exact h
theorem afK{T:TF}(b:eb T)(m:MS)(n:aa)(k:Int)(a:List UInt8):cg m (eo T m n k a).2 :=by
 simp only[eo];split;·exact alZ b _ _ _ _ _ (((afI m n).trans (ay _ _ 2)).trans (adh _ _ _))
 ·exact alZ b _ _ _ _ _ ((afI m n).trans (adh _ _ _))
theorem aq6{T:TF}(b:eb T)(m:MS)(n:aa)(a:List UInt8):cg m (cm T m n a).2 :=by
 simp only[cm];have h:=ay m (!(aj n [116,121,112,101]).2) 2
 repeat' split
 ·exact h.trans (b _ _ _)
 ·exact h.trans (afK b _ _ _ _)
 ·exact h.trans (afK b _ _ _ _)
 ·exact h.trans (afK b _ _ _ _)
 ·exact h.trans (ai4 b _ _ _ _ _)
 ·exact h.trans (ai4 b _ _ _ _ _)
 ·exact h.trans (alX _ _ _)
theorem al0{m a:MS}{d:Int}(h:cg (bZ m d) a):cg m (bZ a m.2.2.2):=⟨h.map,h.len,h.cap,rfl,h.err,h.stay⟩
theorem dl:∀k,eb (aL k)
 |0,m,n,a=>ay _ _ _
 |k+1,m,n,a=>by
  unfold aL;split;·exact cg.refl _
  ·dsimp only;have h:=ay (bZ m (m.2.2.2+1)) (decide (20<m.2.2.2+1)) 3;split;·exact al0 h
   ·refine al0 (h.trans ?_)
    repeat' split
    ·exact alX _ _ _
    ·exact aq3 (dl k) _ _ _
    ·exact aq6 (dl k) _ _ _
    ·exact ay _ _ _
def TIn(T:TF):Prop:=∀m n a,(T m n a).2.2.2.1 =0->fR m->0<=(T m n a).1 ∧(T m n a).1 <((T m n a).2.2.1.length :Int)
theorem afL{m:MS}{t:ac}{a:MS}(h:cg (a7 m t).2 a)(e:a.2.2.1=0):0<=(a7 m t).1 ∧(a7 m t).1 <(a.2.1.length:Int):=by have b:=h.len;obtain⟨g,f,d⟩:=add_zero (h.err e);rw[d] at b ⊢;simp at b;dsimp only;omega
theorem atu{m:MS}{s a:List UInt8}(e:(fx m s a).2.2.2.1 =0)(h:fR m):0<=(fx m s a).1 ∧(fx m s a).1 <((fx m s a).2.2.1.length :Int):=by
 unfold fx at e ⊢;split at e;·rename_i d;rw[if_pos d];obtain⟨i,b⟩:=Bz.1 d.2.2;dsimp only;rw[da,b];exact h _ _ b
 ·rename_i d;rw[if_neg d];have:=(aS e).1;obtain⟨i,b⟩:=Bz.1 (show (aY (k:=.sn) m.1 s).isSome=true by simpa using this);dsimp only[ak];rw[da,b];exact h _ _ b
theorem aqj{m:MS}{s a:List UInt8}(b:(dr m s a).2.2.2.1 =0)(h:fR m):0<=(dr m s a).1 ∧(dr m s a).1 <((dr m s a).2.2.1.length :Int):=by
 unfold dr at b ⊢;split at b;·rename_i d;rw[if_pos d];exact afL (cg.refl _) b
 ·rename_i d;rw[if_neg d];exact atu b h
theorem atv{T:TF}(e:eb T){m:MS}{n:aa}{k:Int}{u a:List UInt8}(d:(dF T m n k u a).2.2.2.1 =0):0<=(dF T m n k u a).1 ∧(dF T m n k u a).1 <((dF T m n k u a).2.2.1.length :Int):=by
 simp only[dF] at d ⊢;have h:=(ay (a7 m (aE k)).2 (!(aj n u).2) 2).trans (e _ (aj n u).1 a);split at d;·rename_i b;rw[if_pos b];exact afL (h.trans (tb _ _ _)) b
 ·rename_i b;exact absurd d b
theorem atw{T:TF}(e:eb T){m:MS}{n:aa}{a:List UInt8}(d:(dk T m n a).2.2.2.1 =0):0<=(dk T m n a).1 ∧(dk T m n a).1 <((dk T m n a).2.2.1.length :Int):=by
 simp only[dk] at d ⊢;have h:=((ay (a7 m (aE 14)).2 (decide (n.l.length=0)) 6).trans (ay _ (decide (30<n.l.length)) 3)).trans (kH e a n.l [] [] _);split at d;·rename_i b;rw[if_pos b];exact afL (h.trans (tb _ _ _)) b
 ·rename_i b;exact absurd d b
theorem aqk{T:TF}(e:eb T){m:MS}{n:aa}{k:Int}{w:List UInt8×MS}(d:(gH T m n k w).2.2.2.1 =0):0<=(gH T m n k w).1 ∧(gH T m n k w).1 <((gH T m n k w).2.2.1.length :Int):=by
 simp only[gH] at d ⊢;split at d;·rename_i a;rw[if_pos a];have b:=(alY e (cE (k:=.sn) (a7 (ak (aB (cB (aG w.1)) w.2 n).2 (aY (k:=.sn) (aB (cB (aG w.1)) w.2 n).2.1 w.1).isSome 5) ⟨k,w.1,(aB (cB (aG w.1)) w.2 n).1,0,[],false,[],0,[],[]⟩).2.1 w.1 (a7 (ak (aB (cB (aG w.1)) w.2 n).2 (aY (k:=.sn) (aB (cB (aG w.1)) w.2 n).2.1 w.1).isSome 5) ⟨k,w.1,(aB (cB (aG w.1)) w.2 n).1,0,[],false,[],0,[],[]⟩).1,(a7 (ak (aB (cB (aG w.1)) w.2 n).2 (aY (k:=.sn) (aB (cB (aG w.1)) w.2 n).2.1 w.1).isSome 5) ⟨k,w.1,(aB (cB (aG w.1)) w.2 n).1,0,[],false,[],0,[],[]⟩).2.2) n k (aG w.1) w.1 (aB (cB (aG w.1)) w.2 n).1 (a7 (ak (aB (cB (aG w.1)) w.2 n).2 (aY (k:=.sn) (aB (cB (aG w.1)) w.2 n).2.1 w.1).isSome 5) ⟨k,w.1,(aB (cB (aG w.1)) w.2 n).1,0,[],false,[],0,[],[]⟩).1).len;obtain⟨h,g,f⟩:=add_zero a;dsimp only at b ⊢;rw[f] at b ⊢;simp only[Aj,Af,Ak] at b;dsimp only at b ⊢;omega
 ·rename_i a;exact absurd d a
theorem avm{T:TF}(e:eb T){m:MS}{n:aa}{k:Int}{a:List UInt8}(b:(eo T m n k a).2.2.2.1 =0):0<=(eo T m n k a).1 ∧(eo T m n k a).1 <((eo T m n k a).2.2.1.length :Int):=by
 simp only[eo] at b ⊢;split at b;·rename_i d;rw[if_pos d];exact aqk e b
 ·rename_i d;rw[if_neg d];exact aqk e b
theorem atx{T:TF}(d:eb T)(f:TIn T)(m:MS)(n:aa)(a:List UInt8)(b:(cm T m n a).2.2.2.1 =0)(h:fR m):0<=(cm T m n a).1 ∧(cm T m n a).1 <((cm T m n a).2.2.1.length :Int):=by
 simp only[cm] at b ⊢;have e:fR (ak m (!(aj n [116,121,112,101]).2) 2):=h
 repeat' split
 all_goals simp_all only[if_true,if_false,ne_eq,not_false_eq_true,not_true_eq_false]
 all_goals first|exact f _ _ _ b e|exact avm d b|exact atv d b|exact aqj b e|skip
theorem aku:∀k,TIn (aL k)
 |0,m,n,a=>by intro d h;exact absurd (aS (m:=m) (b:=true) (c:=3) d).1 (by decide)
 |k+1,m,n,a=>by
  intro d h;have j:=dl k;have f:∀{e:MS},(cm (aL k) e n a).2.2.2.1 =0->fR e->0<=(cm (aL k) e n a).1 ∧(cm (aL k) e n a).1 <((cm (aL k) e n a).2.2.1.length :Int):=λd h=>atx j (aku k) _ _ _ d h
  unfold aL at d ⊢;split at d;·rename_i g;exact absurd d g
  ·rename_i g;rw[if_neg g];dsimp only at d ⊢;have p:fR (ak (bZ m (m.2.2.2+1)) (decide (20<m.2.2.2+1)) 3):=h;split at d;·rename_i i;exact absurd d i
   ·rename_i i;rw[if_neg i];by_cases q:n.kind=4;·simp only[q,if_true] at d ⊢;exact aqj d p
    ·simp only[q,if_false] at d ⊢;by_cases o:n.kind=5;·simp only[o,if_true] at d ⊢;exact atw j d
     ·simp only[o,if_false] at d ⊢;by_cases t:n.kind=6;·simp only[t,if_true] at d ⊢;exact f d p
      ·simp only[t,if_false] at d ⊢;have:=aS (m:=ak (bZ m (m.2.2.2+1)) (decide (20<m.2.2.2+1)) 3) (b:=true) (c:=2) d;exact absurd this.1 (by decide)
theorem kL{n:aa}{s:List UInt8}(h:bp n):bp (aj n s).1 :=by
 unfold aj;split
 ·cases a:cb n.names n.l s with
  |none=>exact bp.zero
  |some c=>show bp c;obtain⟨-, -, -, -, -,k⟩:=(bp.eta.2 h).kids;exact k c (ah3 a)
 ·exact bp.zero
theorem bp.sizes{n:aa}(h:bp n):n.s.length<=100∧n.l.length<=8∧n.names.length<=8∧∀c∈n.l,bp c:=by obtain⟨b,a,d, -, -,k⟩:=(bp.eta.2 h).kids;exact⟨b,a,AR d a,k⟩
theorem asj(s:List UInt8):(aG s).length<=s.length:=by unfold aG;rw[BI];omega
structure cj(a b:List ac):Prop where
 len:a.length<=b.length
 tk:∀(i:Nat) t,a[i]? =some t->∃t',b[i]? =some t'∧t'.kind=t.kind∧t'.name=t.name
theorem cj.refl(a:List ac):cj a a:=⟨Ar _,λ_ t h=>⟨t,h,rfl,rfl⟩⟩
theorem cj.trans{a b c:List ac}(h:cj a b)(k:cj b c):cj a c:=⟨AR h.len k.len,λi t q=>by obtain⟨e,j,g,d⟩:=h.tk i t q;obtain⟨f,m,p,o⟩:=k.tk i e j;exact⟨f,m,p.trans g,o.trans d⟩⟩
theorem cj.app(a:List ac)(t:ac):cj a (a++[t]):=⟨by simp,λi u h=>⟨u,by rw[Aw];exact h;exact(Ad.1 h).1,rfl,rfl⟩⟩
def afM(ts:List ac)(l:List Int):Prop:=∀b∈l,0<=b∧∃t,ts[b.toNat]? =some t∧t.kind≠14
structure FOK(len:Nat)(f:aZ):Prop where
 typ:0<=f.typ∧f.typ<(len:Int)
 nm:f.name≠[]
 df:bp f.df
structure TOK(ts:List ac)(t:ac):Prop where
 kind:1<=t.kind∧t.kind<=14
 named:t.name≠[]↔9<=t.kind∧t.kind<=11
 items:0<=t.items∧t.items<(ts.length:Int)
 br:afM ts t.branches
 fs:∀f∈t.fields,FOK ts.length f
 fn:(t.fields.map aZ.name).Nodup
 fl:t.fields.length<=8
 bl:t.branches.length<=8
theorem afM.mono{a b:List ac}(h:cj a b){l:List Int}(k:afM a l):afM b l:=λx m=>by obtain⟨g,t,j,i⟩:=k x m;obtain⟨e,d,f, -⟩:=h.tk _ _ j;exact⟨g,e,d,by rw[f];exact i⟩
theorem FOK.mono{a b:Nat}(h:a<=b){f:aZ}(k:FOK a f):FOK b f:=⟨⟨k.typ.1,by have:=k.typ.2;omega⟩,k.nm,k.df⟩
theorem TOK.mono{a b:List ac}(h:cj a b){t:ac}(k:TOK a t):TOK b t:=
 ⟨k.kind,k.named,⟨k.items.1,by have:=k.items.2;have:=h.len;omega⟩,k.br.mono h,λf d=>(k.fs f d).mono h.len,k.fn,k.fl,k.bl⟩
structure dx(m:MS):Prop where
 tok:∀t∈m.2.1,TOK m.2.1 t
 nm:∀(i:Nat) t,m.2.1[i]? =some t->t.name≠[]->aY (k:=.sn) m.1 t.name=some (i:Int)
 map:fR m
 mn:∀(x:List UInt8)(i:Int),aY (k:=.sn) m.1 x=some i->x≠[]∧∃t,m.2.1[i.toNat]? =some t∧t.name=x
theorem akv{M:List (List UInt8×Int)}{a b:List ac}(j:cj a b)(h:∀(x:List UInt8)(i:Int),aY (k:=.sn) M x=some i->x≠[]∧∃t,a[i.toNat]? =some t∧t.name=x):
  ∀(x:List UInt8)(i:Int),aY (k:=.sn) M x=some i->x≠[]∧∃t,b[i.toNat]? =some t∧t.name=x:=λx i o=>by
 obtain⟨g,t,m,f⟩:=h x i o;obtain⟨t',d, -,e⟩:=j.tk _ t m;exact⟨g,t',d,e.trans f⟩
theorem ask{ts:List ac}{i:Nat}{t u:ac}(b:ts[i]? =some t)(e:u.kind=t.kind)(d:u.name=t.name):cj ts (ts.set i u):=by
 refine⟨by simp,λj v a=>?_⟩;rw[Ay];by_cases h:i=j;·subst h;rw[b] at a;cases a;refine⟨u,?_,e,d⟩;rw[if_pos rfl,if_pos (Ad.1 b).1]
 ·rw[if_neg h];exact⟨v,a,rfl,rfl⟩
theorem aod{m:MS}(h:dx m){i:Nat}{t:ac}(e:m.2.1[i]? =some t){j:Int}(q:j=(i:Int))(f:ac->ac)(w:(f t).kind=t.kind)(g:(f t).name=t.name)(v:TOK m.2.1 (f t)):
  dx (atT m j f)∧cj m.2.1 (atT m j f).2.1 :=by
 subst q;have hd:m.2.1.getD (Ah i) (ao .atype)=t:=by rw[Al,At,e];rfl
 have o:cj m.2.1 (atT m (i:Int) f).2.1 :=by show cj m.2.1 (m.2.1.set _ _);rw[hd,At];exact ask e w g
 refine⟨⟨λu a=>?_,λj u a d=>?_,(tb m i f).map h.map,akv o h.mn⟩,o⟩
 ·refine TOK.mono o ?_;have a:u∈m.2.1.set _ _:=a;rcases D6 a with p|p;·exact h.tok u p
  ·rw[p,hd];exact v
 ·have a:(m.2.1.set _ _)[j]? =some u:=a;rw[hd,At,Ay] at a;show aY (k:=.sn) m.1 u.name=_;by_cases b:i=j;·subst b;rw[if_pos rfl,if_pos (Ad.1 e).1] at a;cases a;rw[g];exact h.nm i t e (by rw[<-g];exact d)
  ·rw[if_neg b] at a;exact h.nm j u a d
theorem c8(ts:List ac)(t:ac):(ts++[t])[ts.length]? =some t:=by simp
theorem vA{m:MS}(h:dx m){t:ac}(v:(a7 m t).2.2.2.1 =0)(w:1<=t.kind∧t.kind<=14)(g:¬(9<=t.kind∧t.kind<=11))(o:t.name=[])(x:t.items=0)(f:t.branches=[])(i:t.fields=[]):
  dx (a7 m t).2 ∧cj m.2.1 (a7 m t).2.2.1 ∧(a7 m t).1 =(m.2.1.length:Int)∧(a7 m t).2.2.1[m.2.1.length]? =some t:=by
 have A:=sR m t;obtain⟨B,C,y⟩:=add_zero v;have p:=A.map h.map;rw[y] at p ⊢;have k:=cj.app m.2.1 t;refine⟨⟨λu a=>?_,λj u a e=>?_,p,akv k h.mn⟩,k,rfl,c8 _ _⟩
 ·rcases Az.1 a with d|d;·exact(h.tok u d).mono k
  ·rw[Au.1 d];exact⟨w,by simp[o,g],by rw[x];simp only[Aj,Af,Ak];omega,(by rw[f];exactλb f=>(by cases f)),(by rw[i];exactλb f=>(by cases f)),(by rw[i];exact BY),by rw[i];exact BB _,by rw[f];exact BB _⟩
 ·have a:(m.2.1++[t])[j]? =some u:=a;rw[List.getElem?_append] at a;split at a;·exact h.nm j u a e
  ·have d:=Ad.1 a;obtain⟨d,q⟩:=d;simp only[Af,Ak] at d;have:j-m.2.1.length=0:=by omega
   simp only[this,List.getElem_cons_zero] at q;rw[<-q] at e;exact absurd o e
theorem akw{m:MS}(h:dx m){t:ac}(q:aY (k:=.sn) m.1 t.name=none)(D:9<=t.kind∧t.kind<=11)(A:t.name≠[])(p:t.items=0)(o:t.branches=[])(w:t.fields=[])(e d:Int):
  dx (cE (k:=.sn) m.1 t.name (m.2.1.length:Int),m.2.1++[t],e,d):=by
 have C:=cj.app m.2.1 t;refine⟨λu g=>?_,λj u g y=>?_,λx i a=>?_,λx i a=>?_⟩
 ·rcases Az.1 g with f|f;·exact(h.tok u f).mono C
  ·rw[Au.1 f];exact⟨by omega,by simp[A,D],by rw[p];simp only[Aj,Af,Ak];omega,(by rw[o];exactλb o=>(by cases o)),(by rw[w];exactλb o=>(by cases o)),(by rw[w];exact BY),by rw[w];exact BB _,by rw[o];exact BB _⟩
 ·have g:(m.2.1++[t])[j]? =some u:=g;show aY (k:=.sn) (cE (k:=.sn) m.1 t.name _) u.name=_;rw[nM];rw[List.getElem?_append] at g;split at g
  ·have f:=h.nm j u g y;rw[if_neg];·exact f
   ·intro v;rw[<-v,q] at f;cases f
  ·rename_i G;obtain⟨f,B⟩:=Ad.1 g;simp only[Af,Ak] at f;have F:j-m.2.1.length=0:=by omega
   simp only[F,List.getElem_cons_zero] at B;have E:m.2.1.length=j:=by omega
   rw[<-B,if_pos rfl,E]
 ·dsimp only at a ⊢;rw[nM] at a;simp only[Aj,Af,Ak];split at a;·have p:=Ax a;rw[<-p];omega
  ·have:=h.map x i a;omega
 ·dsimp only at a ⊢;rw[nM] at a;split at a;·rename_i v;have p:=Ax a;rw[<-v,<-p,At];exact⟨A,t,c8 _ _,rfl⟩
  ·exact akv C h.mn x i a
def gI(m a:MS):Prop:=a.2.2.1=0->a=m
theorem gI.refl(m:MS):gI m m:=λ_=>rfl
theorem gI.trans{a b c:MS}(h:gI a b)(k:gI b c):gI a c:=λd=>by have:=k d;subst this;exact h d
theorem a8(m:MS)(b:Bool)(c:Int)(a:c≠0:=by decide):gI m (ak m b c):=λh=>(aS h a).2
theorem ahB:∀(l:List aa)(m:MS),gI m (uc l m)
 | [],m=>gI.refl _
 |x::l,m=>(a8 m _ 2).trans (ahB l _)
theorem ai5(m:MS)(n:aa):gI m (cu m n).2 :=(a8 m _ 2).trans (ahB _ _)
theorem aaV{a:MS->List UInt8->List UInt8×MS}(d:∀m s,gI m (a m s).2):∀(b l:List (List UInt8))(m:MS),gI m (gQ a b l m).2
 | [],l,m=>gI.refl _
 |s::b,l,m=>by
  unfold gQ;split;·exact(d m s).trans (aaV d b _ _)
  ·exact aaV d b _ _
theorem nh{a:MS->List UInt8->List UInt8×MS}(b:∀m s,gI m (a m s).2)(m:MS)(n:aa):gI m (aB a m n).2 :=by
 simp only[aB];split;·exact(ai5 m _).trans (aaV b _ _ _)
 ·exact gI.refl _
theorem ai6:∀(b a:List (List UInt8))(m:MS),gI m (lr a b m)
 | [],a,m=>by unfold lr;exact gI.refl _
 |s::b,a,m=>by unfold lr;exact((a8 m _ 6).trans (a8 _ _ 5)).trans (ai6 b _ _)
theorem yH(m:MS)(n:aa)(a:Bool)(df:List UInt8):gI m (cY m n a df).2 :=by
 simp only[cY];have h:=((((a8 m (!(aj n [115,121,109,98,111,108,115]).2) 2).trans (ai5 _ (aj n [115,121,109,98,111,108,115]).1)).trans (a8 _ (decide ((cu (ak m (!(aj n [115,121,109,98,111,108,115]).2) 2) (aj n [115,121,109,98,111,108,115]).1).1.length =0)) 6)).trans (a8 _ (decide (30<(cu (ak m (!(aj n [115,121,109,98,111,108,115]).2) 2) (aj n [115,121,109,98,111,108,115]).1).1.length)) 3)).trans (ai6 (cu (ak m (!(aj n [115,121,109,98,111,108,115]).2) 2) (aj n [115,121,109,98,111,108,115]).1).1 [] _);split;·exact(h.trans (a8 _ _ 2)).trans (a8 _ _ 6)
 ·exact h
theorem aq7(m:MS)(a b:List UInt8):gI m (fx m a b).2 :=by
 unfold fx;split;·exact gI.refl _
 ·exact a8 _ _ _
theorem ya(m:MS)(a b:List UInt8):gI m (bM m a b).2 :=a8 _ _ _
theorem ah5{m:MS}{a b:List UInt8}(h:(bM m a b).2.2.2.1 =0):(bM m a b).1 ≠[]:=by intro d;have e:=(aS (m:=m) h).1;have d:(if dO a 46=false∧b≠[] then b++[46]++a else a)=[]:=d;rw[d] at e;exact absurd e (by decide)
theorem auz{s:List UInt8}(h:b9 s=true):s≠[]:=by intro e;subst e;exact absurd h (by decide)
def aaW(T:TF):Prop:=∀m n a,bp n->dx m->(T m n a).2.2.2.1 =0->dx (T m n a).2 ∧cj m.2.1 (T m n a).2.2.1
theorem aoe{m:MS}{s a:List UInt8}(h:dx m)(b:(dr m s a).2.2.2.1 =0):dx (dr m s a).2 ∧cj m.2.1 (dr m s a).2.2.1 :=by
 unfold dr at b ⊢;split at b;·rename_i d;rw[if_pos d];have:=vA h b (by show 1<=bV ([]::bj) s∧bV ([]::bj) s<=14;omega) (by show ¬(9<=bV ([]::bj) s∧_);omega) rfl rfl rfl rfl;exact⟨this.1,this.2.1⟩
 ·rename_i d;rw[if_neg d];rw[aq7 m s a b];exact⟨h,cj.refl _⟩
theorem al1{T:TF}(p:eb T)(t:TIn T)(v:aaW T){m:MS}{n:aa}(q:bp n){k:Int}(E:k=12∨k=13){u a:List UInt8}(h:dx m)(e:(dF T m n k u a).2.2.2.1 =0):
  dx (dF T m n k u a).2 ∧cj m.2.1 (dF T m n k u a).2.2.1 :=by
 simp only[dF] at e ⊢;split at e;·rename_i d;rw[if_pos d];have f:=(p _ _ _).err d;have C:=a8 _ _ _ (by decide) f;rw[C] at f d ⊢;obtain⟨o,x,y,B⟩:=vA h f (by show 1<=k∧k<=14;omega) (by show ¬(9<=k∧k<=11);omega) rfl rfl rfl rfl;obtain⟨j,g⟩:=v (a7 m (aE k)).2 (aj n u).1 a (kL q) o d;have D:=t (a7 m (aE k)).2 (aj n u).1 a d o.map;obtain⟨t',i,G,F⟩:=g.tk _ _ B;have b:=j.tok t' (Am i);obtain⟨A,w⟩:=aod j i y (sQ · (T (a7 m (aE k)).2 (aj n u).1 a).1) rfl rfl ⟨b.kind,b.named,D,b.br,b.fs,b.fn,b.fl,b.bl⟩;exact⟨A,(x.trans g).trans w⟩
 ·rename_i d;exact absurd e d
theorem ai7{T:TF}(w:eb T)(A:TIn T)(B:aaW T)(a:List UInt8):∀(xs:List aa)(l:List Int)(d:List (List UInt8×Bool))(m:MS),(∀x∈xs,bp x)->dx m->afM m.2.1 l->(bW T a xs l d m).2.2.2.1 =0->
  dx (bW T a xs l d m).2 ∧cj m.2.1 (bW T a xs l d m).2.2.1 ∧afM (bW T a xs l d m).2.2.1 (bW T a xs l d m).1 ∧(bW T a xs l d m).1.length <=l.length+xs.length
 | [],l,d,m,_,h,o,_=>⟨h,cj.refl _,o,Dg _ _⟩
 |x::xs,l,d,m,C,h,o,e=>by
  have f:bW T a (x::xs) l d m=(if m.2.2.1=0 then (if (T m x a).2.2.2.1 =0 then bW T a xs (l++[(T m x a).1]) (cE (k:=.sb) d (fw (T m x a).2.2.1 (T m x a).1) true) (ak (T m x a).2 (((T m x a).2.2.1.getD (T m x a).1.toNat (ao .atype)).kind==14||da (k:=.sb) d (fw (T m x a).2.2.1 (T m x a).1)) 6) else (l,(T m x a).2)) else (l,m)):=rfl;rw[f] at e ⊢;split at e
  ·rename_i q;rw[if_pos q];split at e
   ·rename_i g;rw[if_pos g];have E:=aS ((kH w a xs _ _ _).err e);obtain⟨i,p⟩:=E;rw[p] at e ⊢;obtain⟨N,D⟩:=B m x a (C x (by simp)) h g;have H:=A m x a g h.map;have j:(T m x a).1.toNat <(T m x a).2.2.1.length :=by omega
    have t:afM (T m x a).2.2.1 (l++[(T m x a).1]):=by
     intro b u;rcases Az.1 u with v|v;·exact(o.mono D) b v
     ·rw[Au.1 v];refine⟨H.1,_,Ab j,?_⟩;intro F;rw[Al,Ab j] at i;simp[F] at i
    obtain⟨M,G,L,I⟩:=ai7 w A B a xs _ _ _ (λy J=>C y (by simp[J])) N t e;refine⟨M,D.trans G,L,?_⟩;simp only[Aj,Af,Ak] at I ⊢;omega
   ·rename_i g;exact absurd e g
  ·rename_i q;exact absurd e q
theorem asl{T:TF}(i:eb T)(t:TIn T)(u:aaW T){m:MS}{n:aa}(j:bp n){a:List UInt8}(h:dx m)(f:(dk T m n a).2.2.2.1 =0):
  dx (dk T m n a).2 ∧cj m.2.1 (dk T m n a).2.2.1 :=by
 simp only[dk] at f ⊢;split at f;·rename_i e;rw[if_pos e];have g:=(kH i a n.l [] [] _).err e;have C:=((a8 (a7 m (aE 14)).2 (decide (n.l.length=0)) 6).trans (a8 _ (decide (30<n.l.length)) 3)) g;rw[C] at g e ⊢;obtain⟨E,w,x,B⟩:=vA h g (by decide) (by decide) rfl rfl rfl rfl;obtain⟨p,k,D,y⟩:=ai7 i t u a n.l [] [] _ j.sizes.2.2.2 E (λb q=>by cases q) e;obtain⟨t',o,G,F⟩:=k.tk _ _ B;have d:=p.tok t' (Am o);obtain⟨A,v⟩:=aod p o x (gK · (bW T a n.l [] [] (a7 m (aE 14)).2).1) rfl rfl ⟨d.kind,d.named,d.items,D,d.fs,d.fn,d.fl,AR y (by simpa using j.sizes.2.1)⟩;exact⟨A,(w.trans k).trans v⟩
 ·rename_i e;exact absurd f e
theorem aaX(m:MS)(s:List UInt8):gI m (lR m s).2 :=a8 _ _ _
theorem afN(sp:List UInt8)(m:MS)(s:List UInt8):gI m (cB sp m s).2 :=ya _ _ _
theorem asm{T:TF}(o:eb T)(w:TIn T)(t:aaW T){m:MS}{n:aa}(j:bp n){names:List (List UInt8×Bool)}{a:List UInt8}(h:dx m)(b:(cW T m n names a).2.1.2.2.1 =0):
  dx (cW T m n names a).2.1 ∧cj m.2.1 (cW T m n names a).2.1.2.1 ∧FOK (cW T m n names a).2.1.2.1.length (cW T m n names a).1 ∧da (k:=.sb) names (cW T m n names a).1.name =false∧(cW T m n names a).2.2 =cE (k:=.sb) names (cW T m n names a).1.name true:=by
 simp only[cW] at b ⊢;have x:=nh aaX _ n b;rw[x] at b ⊢;have f:=(o _ _ _).err b;have e:=aS f;have d:=aS (e.2▸f);have i:=aS (d.2▸e.2▸f);have p:(dP (ak m (!(n.kind==6)) 2) n).2.2.2.1 =0:=i.2▸d.2▸e.2▸f;have u:(dP (ak m (!(n.kind==6)) 2) n).2 =m:=((a8 m _ 2).trans (show gI _ (dP _ n).2 from a8 _ _ _)) p;have g:=((e.2.trans d.2).trans i.2).trans u;rw[g] at b ⊢;obtain⟨y,q⟩:=t m _ a (kL j) h b;have v:=w m _ a b h.map;refine⟨y,q,⟨v,auz (by simpa using i.1),kL j⟩,d.1,trivial⟩
theorem ahC{T:TF}(i:eb T)(t:TIn T)(u:aaW T)(a:List UInt8):∀(xs:List aa)(l:List aZ)(names:List (List UInt8×Bool))(m:MS),(∀x∈xs,bp x)->dx m->
  (∀f∈l,FOK m.2.1.length f∧da (k:=.sb) names f.name=true)->(l.map aZ.name).Nodup->(bP T a xs l names m).2.2.2.1 =0->
  dx (bP T a xs l names m).2 ∧cj m.2.1 (bP T a xs l names m).2.2.1 ∧(∀f∈(bP T a xs l names m).1,FOK (bP T a xs l names m).2.2.1.length f)∧((bP T a xs l names m).1.map aZ.name).Nodup∧(bP T a xs l names m).1.length <=l.length+xs.length
 | [],l,names,m,_,h,e,hd,_=>⟨h,cj.refl _,λf g=>(e f g).1,hd,by simp[bP]⟩
 |x::xs,l,names,m,w,h,e,hd,d=>by
  have b:bP T a (x::xs) l names m=(if m.2.2.1=0 then bP T a xs (l++[(cW T m x names a).1]) (cW T m x names a).2.2 (cW T m x names a).2.1 else bP T a xs l names m):=rfl;rw[b] at d ⊢;have G:m.2.2.1=0:=by
   split at d;·assumption
   ·exact(gR i a xs _ _ _).err d
  rw[if_pos G] at d ⊢;obtain⟨B,o,A,C,v⟩:=asm i t u (w x (by simp)) h ((gR i a xs _ _ _).err d);generalize cW T m x names a=r at d B o A C v ⊢;have J:∀y,da (k:=.sb) r.2.2 y=if r.1.name=y then true else da (k:=.sb) names y:=by intro y;rw[v,da,nM];split<;>rfl
  obtain⟨L,E,I,H,F⟩:=ahC i t u a xs (l++[r.1]) r.2.2 r.2.1 (λy p=>w y (by simp[p])) B (λf g=>by
   rw[J];rcases Az.1 g with j|j;·exact⟨(e f j).1.mono o.len,by rw[(e f j).2];simp⟩
   ·rw[Au.1 j];exact⟨A,by simp⟩) (by
   rw[BF,D2];refine⟨hd,by simp,λy p z q=>?_⟩;simp only[A2,List.map_nil,Au] at q;subst q;obtain⟨f,g,rfl⟩:=AG.1 p;intro D;have:=(e f g).2;rw[D,C] at this;cases this) d
  refine⟨L,o.trans E,I,H,?_⟩;simp only[Aj,Af,Ak] at F ⊢;omega
theorem aq8{T:TF}(d:eb T)(q:TIn T)(o:aaW T){m:MS}{n:aa}(j:bp n){a:List UInt8}(h:dx m)(b:(cl T m [] n a).2.2.2.1 =0):
  dx (cl T m [] n a).2 ∧cj m.2.1 (cl T m [] n a).2.2.1 ∧(∀f∈(cl T m [] n a).1,FOK (cl T m [] n a).2.2.1.length f)∧((cl T m [] n a).1.map aZ.name).Nodup∧(cl T m [] n a).1.length <=8:=by
 have e:=kL (s:=[102,105,101,108,100,115]) j;simp only[cl] at b ⊢;have w:=(gR d a _ _ _ _).err b;have u:=((a8 m _ 2).trans (a8 _ _ 3)) w;rw[u] at b ⊢;obtain⟨t,p,g,i,k⟩:=ahC d q o a _ [] [] m e.sizes.2.2.2 h (λf v=>by cases v) BY b;refine⟨t,p,g,i,?_⟩;have:=e.sizes.2.1;simp only[Ak] at k;omega
theorem akx{T:TF}(S:eb T)(Z:TIn T)(hV:aaW T){m:MS}{n:aa}(Y:bp n){k:Int}(y:9<=k∧k<=11){a:List UInt8}(h:dx m)(d:(eo T m n k a).2.2.2.1 =0):
  dx (eo T m n k a).2 ∧cj m.2.1 (eo T m n k a).2.2.1 :=by
 have j:∀w:List UInt8×MS,(w.2.2.2.1=0->w.2=m∧w.1≠[])->(gH T m n k w).2.2.2.1 =0->dx (gH T m n k w).2 ∧cj m.2.1 (gH T m n k w).2.2.1 :=by
  intro w X d;simp only[gH] at d ⊢;split at d
  ·rename_i o;rw[if_pos o];obtain⟨E,z2,R⟩:=add_zero o;have A:=aS E;have N:=nh (afN (aG w.1)) w.2 n (A.2▸E);have I:w.2.2.2.1=0:=by rw[<-N];exact A.2▸E
   obtain⟨Q,C⟩:=X I;have fr:aY (k:=.sn) m.1 w.1=none:=by have:=A.1;rw[N,Q] at this;simpa using this
   generalize ad:(aB (cB (aG w.1)) w.2 n).1 =als at d R ⊢;rw[R] at d ⊢;rw[A.2,N,Q] at d ⊢;dsimp only at d ⊢;have B:=akw h (t:=⟨k,w.1,als,0,[],false,[],0,[],[]⟩) fr y C rfl rfl rfl 0 m.2.2.2;have O:=cj.app m.2.1 ⟨k,w.1,als,0,[],false,[],0,[],[]⟩;have J:=c8 m.2.1 ⟨k,w.1,als,0,[],false,[],0,[],[]⟩;generalize hM:((cE (k:=.sn) m.1 w.1 (m.2.1.length:Int),m.2.1++[⟨k,w.1,als,0,[],false,[],0,[],[]⟩],0,m.2.2.2):MS)=M at d B ⊢;have F:M.2.1=m.2.1++[⟨k,w.1,als,0,[],false,[],0,[],[]⟩]:=by rw[<-hM]
   rw[<-F] at O J;have base:∀(i:MS)(t:ac),dx i->cj M.2.1 i.2.1->t.kind=k->t.name=w.1->TOK i.2.1 t->dx (atT i (m.2.1.length:Int) λ_=>t)∧cj m.2.1 (atT i (m.2.1.length:Int) λ_=>t).2.1 :=by intro i t hi D tk tn to;obtain⟨t',g2,k2,H⟩:=D.tk _ _ J;obtain⟨i3,s3⟩:=aod hi g2 rfl (λ_=>t) (tk.trans k2.symm) (tn.trans H.symm) to;exact⟨i3,(O.trans D).trans s3⟩
   have p:∀i:MS,cj M.2.1 i.2.1->(0:Int)<=0∧(0:Int)<(i.2.1.length:Int):=by intro i D;have:=(Ad.1 J).1;have:=D.len;omega
   have q:1<=k∧k<=14:=by omega
   have e:∀ts,afM ts []:=λts b W=>by cases W
   simp only[nU] at d ⊢;split at d
   ·rename_i G;rw[if_pos G];split at d;·rename_i g;rw[if_pos g];obtain⟨i2,P,f2,d2,H⟩:=aq8 S Z hV Y B g;exact base _ _ i2 P rfl rfl ⟨q,by simp[C,y],p _ P,e _,f2,d2,H,BB _⟩
    ·rename_i g;exact absurd d g
   ·rename_i G;rw[if_neg G];split at d
    ·rename_i u;rw[if_pos u];split at d;·rename_i g;rw[if_pos g];have:=yH M n false [] g;rw[this];exact base _ _ B (cj.refl _) rfl rfl ⟨q,by simp[C,y],p _ (cj.refl _),e _,(λf L=>by cases L),BY,BB _,BB _⟩
     ·rename_i g;exact absurd d g
    ·rename_i u;rw[if_neg u];split at d;·rename_i g;rw[if_pos g];have:=((a8 M (!((aj n [115,105,122,101]).1.kind ==3)) 2).trans (a8 _ (decide ((aj n [115,105,122,101]).1.n <0)||decide (5000<(aj n [115,105,122,101]).1.n)) 6)) g;rw[this];exact base _ _ B (cj.refl _) rfl rfl ⟨q,by simp[C,y],p _ (cj.refl _),e _,(λf L=>by cases L),BY,BB _,BB _⟩
     ·rename_i g;exact absurd d g
  ·rename_i o;exact absurd d o
 simp only[eo] at d ⊢;have x:gI m (dP m n).2 :=a8 _ _ _;split at d;·rename_i o;rw[if_pos o];exact j _ (λv=>⟨((x.trans (a8 _ _ 2)).trans (ya _ _ _)) v,ah5 v⟩) d
 ·rename_i o;rw[if_neg o];exact j _ (λv=>⟨(x.trans (ya _ _ _)) v,ah5 v⟩) d
theorem asn{T:TF}(i:eb T)(j:TIn T)(g:aaW T){m:MS}{n:aa}(f:bp n){a:List UInt8}(h:dx m)(d:(cm T m n a).2.2.2.1 =0):
  dx (cm T m n a).2 ∧cj m.2.1 (cm T m n a).2.2.1 :=by
 have e:dx (ak m (!(aj n [116,121,112,101]).2) 2):=⟨h.tok,h.nm,h.map,h.mn⟩
 have k:∀{b:List ac},cj (ak m (!(aj n [116,121,112,101]).2) 2).2.1 b->cj m.2.1 b:=id;simp only[cm] at d ⊢;split at d;·rename_i c;rw[if_pos c];exact g _ _ _ (kL f) e d
 rename_i c;rw[if_neg c];split at d;·rename_i c;rw[if_pos c];exact akx i j g f (by decide) e d
 rename_i c;rw[if_neg c];split at d;·rename_i c;rw[if_pos c];exact akx i j g f (by decide) e d
 rename_i c;rw[if_neg c];split at d;·rename_i c;rw[if_pos c];exact akx i j g f (by decide) e d
 rename_i c;rw[if_neg c];split at d;·rename_i c;rw[if_pos c];exact al1 i j g f (.inl rfl) e d
 rename_i c;rw[if_neg c];split at d;·rename_i c;rw[if_pos c];exact al1 i j g f (.inr rfl) e d
 rename_i c;rw[if_neg c];exact aoe e d
theorem adj:∀k,aaW (aL k)
 |0,m,n,a=>by intro _ _ d;exact absurd (aS (m:=m) (b:=true) (c:=3) d).1 (by decide)
 |k+1,m,n,a=>by
  intro p h d;have j:=dl k;have q:=aku k;have t:=adj k;unfold aL at d ⊢;split at d;·rename_i g;exact absurd d g
  ·rename_i g;rw[if_neg g];dsimp only at d ⊢;have f:dx (ak (bZ m (m.2.2.2+1)) (decide (20<m.2.2.2+1)) 3):=⟨h.tok,h.nm,h.map,h.mn⟩
   have fin:∀M:MS,dx M∧cj m.2.1 M.2.1->dx (bZ M m.2.2.2)∧cj m.2.1 (bZ M m.2.2.2).2.1 :=λM e=>⟨⟨e.1.tok,e.1.nm,e.1.map,e.1.mn⟩,e.2⟩
   split at d;·rename_i i;exact absurd d i
   ·rename_i i;rw[if_neg i];by_cases u:n.kind=4;·simp only[u,if_true] at d ⊢;exact fin _ (aoe f d)
    ·simp only[u,if_false] at d ⊢;by_cases o:n.kind=5;·simp only[o,if_true] at d ⊢;exact fin _ (asl j q t p f d)
     ·simp only[o,if_false] at d ⊢;by_cases v:n.kind=6;·simp only[v,if_true] at d ⊢;exact fin _ (asn j q t p f d)
      ·simp only[v,if_false] at d ⊢;have:=aS (m:=ak (bZ m (m.2.2.2+1)) (decide (20<m.2.2.2+1)) 3) (b:=true) (c:=2) d;exact absurd this.1 (by decide)
def m0:MS:=([],[],0,0)
theorem aso:dx m0:=⟨λt h=>(by cases h),λi t h=>(by simp[m0] at h),λx i h=>(by cases h),λx i h=>(by cases h)⟩
def Pre(a b:List ac):Prop:=a.length<=b.length∧∀i,i<a.length->b[i]? =a[i]?
theorem Pre.refl(a:List ac):Pre a a:=⟨Ar _,λ_ _=>rfl⟩
theorem Pre.trans{a b c:List ac}(h:Pre a b)(k:Pre b c):Pre a c:=⟨AR h.1 k.1,λi d=>(k.2 i (by have:=h.1;omega)).trans (h.2 i d)⟩
theorem Pre.app(a:List ac)(t:ac):Pre a (a++[t]):=⟨by simp,λi b=>Aw b⟩
theorem Pre.at{a b:List ac}(h:Pre (a++[b.getD a.length (ao .atype)]) b):Pre a b:=(Pre.app a _).trans h
theorem Pre.of{x p q:List ac}(h:Pre x q)(e:x=p):Pre p q:=e▸h
theorem Pre.eqs{a b:List ac}(h:b=a):Pre a b:=h▸Pre.refl _
theorem afO{a:List ac}{m:MS}(h:Pre a m.2.1){i:Int}(d:a.length<=i.toNat)(f:ac->ac):Pre a (atT m i f).2.1 :=by refine⟨by simpa [atT] using h.1,λj b=>?_⟩;show (m.2.1.set _ _)[j]? =_;rw[A5 (by omega)];exact h.2 j b
theorem agX(m:MS)(t:ac):Pre m.2.1 (a7 m t).2.2.1 :=by
 rcases afH m t with⟨b,d,a,e,f⟩|⟨b,d,a⟩
 ·exact Pre.eqs a
 ·rw[a];exact Pre.app _ _
def xh(T:TF):Prop:=∀m n a,Pre m.2.1 (T m n a).2.2.1
theorem al2:∀(l:List aa)(m:MS),(uc l m).2.1 =m.2.1
 | [],m=>rfl
 |x::l,m=>al2 l _
theorem aof(m:MS)(n:aa):(cu m n).2.2.1 =m.2.1:=al2 _ _
theorem afP{a:MS->List UInt8->List UInt8×MS}(d:∀m s,(a m s).2.2.1 =m.2.1):∀(b l:List (List UInt8))(m:MS),(gQ a b l m).2.2.1 =m.2.1
 | [],l,m=>rfl
 |s::b,l,m=>by
  unfold gQ;split;·exact(afP d b _ _).trans (d m s)
  ·exact afP d b _ _
theorem ai8{a:MS->List UInt8->List UInt8×MS}(b:∀m s,(a m s).2.2.1 =m.2.1)(m:MS)(n:aa):(aB a m n).2.2.1 =m.2.1:=by
 simp only[aB];split;·exact(afP b _ _ _).trans (aof _ _)
 ·rfl
theorem aog:∀(b a:List (List UInt8))(m:MS),(lr a b m).2.1 =m.2.1
 | [],a,m=>rfl
 |s::b,a,m=>by unfold lr;exact aog b _ _
theorem aq9(m:MS)(n:aa)(a:Bool)(df:List UInt8):(cY m n a df).2.2.1 =m.2.1:=by
 simp only[cY];have h:=aog (cu (ak m (!(aj n [115,121,109,98,111,108,115]).2) 2) (aj n [115,121,109,98,111,108,115]).1).1 [] (ak (ak (cu (ak m (!(aj n [115,121,109,98,111,108,115]).2) 2) (aj n [115,121,109,98,111,108,115]).1).2 (decide ((cu (ak m (!(aj n [115,121,109,98,111,108,115]).2) 2) (aj n [115,121,109,98,111,108,115]).1).1.length =0)) 6) (decide (30<(cu (ak m (!(aj n [115,121,109,98,111,108,115]).2) 2) (aj n [115,121,109,98,111,108,115]).1).1.length)) 3);have b:=h.trans (aof (ak m (!(aj n [115,121,109,98,111,108,115]).2) 2) (aj n [115,121,109,98,111,108,115]).1);split;·exact b
 ·exact b
theorem aty(m:MS)(a b:List UInt8):(fx m a b).2.2.1 =m.2.1:=by unfold fx;split<;>rfl
theorem aoh(m:MS)(s a:List UInt8):Pre m.2.1 (dr m s a).2.2.1 :=by
 unfold dr;split;·exact agX _ _
 ·exact Pre.eqs (aty _ _ _)
theorem al3{T:TF}(b:eb T)(f:xh T)(m:MS)(n:aa)(k:Int)(u a:List UInt8):Pre m.2.1 (dF T m n k u a).2.2.1 :=by
 simp only[dF];have h:=(agX m (aE k)).trans (f (ak (a7 m (aE k)).2 (!(aj n u).2) 2) (aj n u).1 a);split;·rename_i e;refine afO h ?_ _;obtain⟨i,g,d⟩:=add_zero ((ay _ _ 2).err ((b _ _ _).err e));rw[d];simp
 ·exact h
theorem ai9{T:TF}(d:xh T)(a:List UInt8):∀(xs:List aa)(l:List Int)(b:List (List UInt8×Bool))(m:MS),Pre m.2.1 (bW T a xs l b m).2.2.1
 | [],l,b,m=>Pre.refl _
 |x::xs,l,b,m=>by
  unfold bW;split
  ·dsimp only;split;·exact(d m x a).trans (Pre.of (ai9 d a xs _ _ _) rfl)
   ·exact d m x a
  ·exact Pre.refl _
theorem asp{T:TF}(b:eb T)(f:xh T)(m:MS)(n:aa)(a:List UInt8):Pre m.2.1 (dk T m n a).2.2.1 :=by
 simp only[dk];have h:=(agX m (aE 14)).trans (ai9 f a n.l [] [] (ak (ak (a7 m (aE 14)).2 (decide (n.l.length=0)) 6) (decide (30<n.l.length)) 3));split;·rename_i e;refine afO h ?_ _;obtain⟨i,g,d⟩:=add_zero ((ay _ _ 6).err ((ay _ _ 3).err ((kH b a _ _ _ _).err e)));rw[d];simp
 ·exact h
theorem ara{T:TF}(b:xh T)(m:MS)(n:aa)(names:List (List UInt8×Bool))(a:List UInt8):Pre m.2.1 (cW T m n names a).2.1.2.1 :=by simp only[cW];rw[ai8 (λ_ _=>rfl)];exact Pre.of (b _ _ _) rfl
theorem aaY{T:TF}(b:xh T)(a:List UInt8):∀(xs:List aa)(l:List aZ)(names:List (List UInt8×Bool))(m:MS),Pre m.2.1 (bP T a xs l names m).2.2.1
 | [],l,names,m=>Pre.refl _
 |x::xs,l,names,m=>by
  unfold bP;split;·exact(ara b m x names a).trans (aaY b a xs _ _ _)
  ·exact aaY b a xs _ _ _
theorem aja{T:TF}(b:xh T)(m:MS)(d:List aZ)(n:aa)(a:List UInt8):Pre m.2.1 (cl T m d n a).2.2.1 :=by simp only[cl];exact Pre.of (aaY b a _ _ _ _) rfl
theorem atz{T:TF}(i:xh T){p:List ac}(m:MS)(h:Pre p m.2.1)(n:aa)(k:Int)(a g:List UInt8)(f:List (List UInt8))(d:Int)(b:p.length<=d.toNat):Pre p (nU T m n k a g f d).2.1 :=by
 simp only[nU];split
 ·have e:=h.trans (aja i m [] n a);split;·exact afO e b _
  ·exact e
 ·split
  ·have e:Pre p (cY m n false []).2.2.1 :=by rw[aq9];exact h
   split;·exact afO e b _
   ·exact e
  ·split;·refine afO ?_ b _;exact h
   ·exact h
theorem aoi{T:TF}(f:xh T)(m:MS)(n:aa)(k:Int)(w:List UInt8×MS)(d:w.2.2.1=m.2.1):Pre m.2.1 (gH T m n k w).2.2.1 :=by
 simp only[gH];have a:(aB (cB (aG w.1)) w.2 n).2.2.1 =m.2.1:=(ai8 (λ_ _=>rfl) _ _).trans d;have h:=agX (ak (aB (cB (aG w.1)) w.2 n).2 (aY (k:=.sn) (aB (cB (aG w.1)) w.2 n).2.1 w.1).isSome 5) ⟨k,w.1,(aB (cB (aG w.1)) w.2 n).1,0,[],false,[],0,[],[]⟩;have h:Pre m.2.1 (a7 (ak (aB (cB (aG w.1)) w.2 n).2 (aY (k:=.sn) (aB (cB (aG w.1)) w.2 n).2.1 w.1).isSome 5) ⟨k,w.1,(aB (cB (aG w.1)) w.2 n).1,0,[],false,[],0,[],[]⟩).2.2.1 :=by rw[<-a];exact h
 split
 ·rename_i e;obtain⟨i,g,b⟩:=add_zero e;refine atz f (p:=m.2.1) _ ?_ _ _ _ _ _ _ ?_;·exact h
  rw[b];show m.2.1.length<=(Ah ((aB (cB (aG w.1)) w.2 n).2.2.1.length :Int))
  rw[a];simp
 ·exact h
theorem aky{T:TF}(b:xh T)(m:MS)(n:aa)(k:Int)(a:List UInt8):Pre m.2.1 (eo T m n k a).2.2.1 :=by
 simp only[eo];split;·exact aoi b _ _ _ _ rfl
 ·exact aoi b _ _ _ _ rfl
theorem asq{T:TF}(d:eb T)(b:xh T)(m:MS)(n:aa)(a:List UInt8):Pre m.2.1 (cm T m n a).2.2.1 :=by
 simp only[cm]
 repeat' split
 ·exact b (ak m (!(aj n [116,121,112,101]).2) 2) _ _
 ·exact aky b (ak m (!(aj n [116,121,112,101]).2) 2) _ _ _
 ·exact aky b (ak m (!(aj n [116,121,112,101]).2) 2) _ _ _
 ·exact aky b (ak m (!(aj n [116,121,112,101]).2) 2) _ _ _
 ·exact al3 d b (ak m (!(aj n [116,121,112,101]).2) 2) _ _ _ _
 ·exact al3 d b (ak m (!(aj n [116,121,112,101]).2) 2) _ _ _ _
 ·exact aoh (ak m (!(aj n [116,121,112,101]).2) 2) _ _
theorem ah6:∀k,xh (aL k)
 |0,m,n,a=>Pre.refl _
 |k+1,m,n,a=>by
  unfold aL;split;·exact Pre.refl _
  ·dsimp only;split;·exact Pre.refl _
   ·have fin:∀M:MS,Pre m.2.1 M.2.1->Pre m.2.1 (bZ M m.2.2.2).2.1 :=λ_ h=>h
    refine fin _ ?_
    repeat' split
    ·exact aoh (ak (bZ m (m.2.2.2+1)) (decide (20<m.2.2.2+1)) 3) _ _
    ·exact asp (dl k) (ah6 k) (ak (bZ m (m.2.2.2+1)) (decide (20<m.2.2.2+1)) 3) _ _
    ·exact asq (dl k) (ah6 k) (ak (bZ m (m.2.2.2+1)) (decide (20<m.2.2.2+1)) 3) _ _
    ·exact Pre.refl _
abbrev RS:=List ac×Int
def Ag(a:MS)(r:RS):Prop:=r.1.length<=60∧r.2=a.2.2.1∧(r.2=0->r.1=a.2.1)
def AgI(a:Int×MS)(r:Int×RS):Prop:=Ag a.2 r.2∧(r.2.2=0->r.1=a.1)
def OfS(ts:List ac)(e:Int)(m:MS):Prop:=m.2.2.1=e∧(e=0->m.2.1=ts∧dx m)
theorem OfS.z{ts:List ac}{m:MS}(h:OfS ts 0 m):m.2.1=ts∧m.2.2.1=0∧((0:Int)=0->dx m):=⟨(h.2 rfl).1,h.1,λ_=>(h.2 rfl).2⟩
def aI(e c:Int):Int:=if e=0 then c else e
def nV(s:List UInt8):Int:=if bV ([]::bj) s<0 then 0 else bV ([]::bj) s
def xy(s:List UInt8)(r:Int):Prop:=r=nV s
def xz(k:Int)(r:List UInt8):Prop:=r=bE k
def yI(ts:List ac)(i:Int)(r:List UInt8):Prop:=r=fw ts i
def va(s r:List UInt8):Prop:=r=aG s
def lT(n:aa)(name:List UInt8)(r:aa×Bool):Prop:=r=aj n name
def wF(c:Int)(r:Bool):Prop:=r=dO jt (AF c.toNat)
def xA(c:Int)(r:Bool):Prop:=r=dO o7 (AF c.toNat)
def sS(s:List UInt8)(r:Bool):Prop:=r=b9 s
def kV(a b r:List UInt8):Prop:=r=if a=[]∨b=[] then a++b else a++[46]++b
def xB(s:List UInt8)(r:Bool):Prop:=r=(Go.Lib.split s [46]).all b9
def iE(ts:List ac)(e c:Int)(r:Int×RS):Prop:=r=(0,ts,aI e c)
def fy(ts:List ac)(e:Int)(t:ac)(r:Int×RS):Prop:=r=if 60<=ts.length then (0,ts,aI e 3) else ((ts.length:Int),ts++[t],e)
def cZ(ts:List ac)(e:Int)(s:List UInt8)(r:Int×Bool×RS):Prop:=
 r.2.2=(ts,e)∧(r.2.1=true->0<=r.1∧∃t,ts[r.1.toNat]? =some t∧t.name=s∧9<=t.kind∧t.kind<=11)∧(r.2.1=false->r.1=0∧∀t∈ts,t.name=s->¬(9<=t.kind∧t.kind<=11))
def eY(ts:List ac)(e:Int)(s a:List UInt8)(r:Int×RS):Prop:=e=0->∀m,OfS ts 0 m->AgI (dr m s a) r
def c6(ts:List ac)(e:Int)(n:aa)(a:List UInt8)(deep:Int)(r:Int×RS):Prop:=∀m,OfS ts e m->m.2.2.2=deep-1->AgI (aC (deep-1) m n a) r
def dy(ts:List ac)(e:Int)(n:aa)(a:List UInt8)(deep:Int)(r:Int×RS):Prop:=e=0->∀m,OfS ts 0 m->m.2.2.2=deep->AgI (dk (aC deep) m n a) r
def cO(ts:List ac)(e:Int)(n:aa)(name:List UInt8)(r:List (List UInt8)×Bool×RS):Prop:=
 r.2.2.1=ts∧r.2.1=(aj n name).2 ∧(r.1.length<=8∧∀x∈r.1,x.length<=100)∧((aj n name).2 =false->r.1=[]∧r.2.2.2=e)∧
  ((aj n name).2 =true->∀m:MS,m.2.2.1=e->r.2.2.2=(cu m (aj n name).1).2.2.2.1 ∧(r.2.2.2=0->r.1=(cu m (aj n name).1).1))
def dH(ts:List ac)(e:Int)(n:aa)(name:List UInt8)(a:Bool)(r:List UInt8×RS):Prop:=
 r=if (aj n name).2 =false∧a=false then ([],ts,e) else if (aj n name).2 =false∨(aj n name).1.kind ≠4 then ([],ts,aI e 2) else ((aj n name).1.s,ts,e)
def qg(ts:List ac)(e:Int)(name a:List UInt8)(r:List UInt8×RS):Prop:=
 r.2.1=ts∧r.1.length<=name.length+a.length+1∧∀m:MS,m.2.2.1=e->r.2.2=(bM m name a).2.2.2.1 ∧(r.2.2=0->r.1=(bM m name a).1)
def aU(ts:List ac)(e:Int)(n:aa)(k:Int)(a:List UInt8)(deep:Int)(r:Int×RS):Prop:=e=0->∀m,OfS ts 0 m->m.2.2.2=deep->AgI (eo (aC deep) m n k a) r
def aN(ts:List ac)(e:Int)(n:aa)(a:Int)(r:RS):Prop:=
 (e≠0->r=(ts,e))∧(e=0->r.1.length=ts.length∧∀m:MS,m.2.2.1=0->r.2=(cY m n false []).2.2.2.1 ∧
  (r.2=0->∀t,ts[a.toNat]? =some t->r.1=ts.set a.toNat {t with syms:=(cY m n false []).1.1,hasdef:=(cY m n false []).1.2.1,df:=(cY m n false []).1.2.2}))
def bq(ts:List ac)(e:Int)(n:aa)(b:Int)(a:List UInt8)(deep:Int)(r:RS):Prop:=
 (e≠0->r=(ts,e))∧(e=0->∀m,OfS ts 0 m->m.2.2.2=deep->r.1.length<=60∧r.2=(cl (aC deep) m [] n a).2.2.2.1 ∧
  (r.2=0->∀t,(cl (aC deep) m [] n a).2.2.1[b.toNat]? =some t->r.1=(cl (aC deep) m [] n a).2.2.1.set b.toNat {t with fields:=(cl (aC deep) m [] n a).1}))
def xC(n:aa)(r:RS):Prop:=r=lS n
def aoj(c:UInt8):Bool:=dO (46::(jt++o7)) c
abbrev dR(s:List UInt8):Prop:=∀c∈s,aoj c=true
inductive PJ:aa->Prop where
 |txt (s:List UInt8) (h:dR s) (hl:s.length<=100):PJ (aA s)
 |num (n:Int) (h:0<=n∧n<=255):PJ (.mk 3 n [] [] [])
 |lst (l:List aa) (h:∀c∈l,PJ c) (hl:l.length<=8):PJ (cJ l)
 |tab (names:List (List UInt8)) (l:List aa) (hn:names.length=l.length) (h0:l≠[]) (hd:names.Nodup) (hp:∀x∈names,dR x∧x.length<=100) (h:∀c∈l,PJ c) (hl:l.length<=8):PJ (bK names l)
def bG(s:List UInt8)(i:Int)(t rest:List UInt8):Prop:=0<=i∧s.drop i.toNat=t++rest
def ry(r:List UInt8):Prop:=r=[]∨∃c a,r=c::a∧(c=44∨c=93∨c=125)
abbrev RT:=List UInt8×Int×Int
def nW(s:List UInt8)(i e:Int)(q:aa->Prop)(r:aa×RT):Prop:=∃j rest,PJ j∧q j∧bG s i (aw j) rest∧ry rest∧r=(j,s,i+((aw j).length:Int),e)
def ud(s r:List UInt8):Prop:=r=aX s
def uf(v:Int)(r:List UInt8):Prop:=r=Go.Lib.decDigits v.toNat
def abI(v:Int)(r:List UInt8):Prop:=r=Go.Lib.decDigits v.toNat
def aai(s:List UInt8)(r:Int×Int):Prop:=r=(((s.headD 0).toNat:Int),1)
def aaj(s:List UInt8)(r:Bool):Prop:=r=true
def xD(s:List UInt8)(r:List UInt8×Int×Int):Prop:=∃x rest,dR x∧s=34::(x++34::rest)∧r=(x,(x.length:Int)+2,0)
def abJ(s:List UInt8)(i e c:Int)(r:RT):Prop:=r=(s,i,if e=0 then c else e)
def rL(s:List UInt8)(i e:Int)(r:RT):Prop:=r=(s,i,e)
def je(s:List UInt8)(i e:Int)(t:List UInt8)(r:Bool×RT):Prop:=r=(t.isPrefixOf (s.drop i.toNat),s,if t.isPrefixOf (s.drop i.toNat)=true then i+(t.length:Int) else i,e)
def tc(s:List UInt8)(i e:Int)(t:List UInt8)(r:RT):Prop:=r=(s,i+(t.length:Int),e)
def ni(s:List UInt8)(i e:Int)(r:List UInt8×RT):Prop:=∃x rest,dR x∧bG s i (34::(x++[34])) rest∧r=(x,s,i+(x.length:Int)+2,e)
def iG(s:List UInt8)(i e:Int)(r:aa×RT):Prop:=nW s i e (λj=>j.kind=3) r
def td(s:List UInt8)(i e deep:Int)(r:aa×RT):Prop:=nW s i e (λ_=>True) r
def te(s:List UInt8)(i e deep:Int)(r:aa×RT):Prop:=nW s i e (λ_=>True) r
def rM(s:List UInt8)(i e deep:Int)(r:aa×RT):Prop:=nW s i e (λ_=>True) r
def ug(s:List UInt8)(r:aa×Int):Prop:=∃j,PJ j∧s=aw j∧r=(j,0)
def pz(n:aa)(r:List UInt8):Prop:=r=aw n
def nX(p:List UInt8)(r:Bool):Prop:=r=true
abbrev apE:=Bs×Int
noncomputable def wq(a:Bs)(r:apE):Prop:=sA Tryd.prog 12 [vF .u8 a] [vF .u8 r.1,vI r.2]∧abF a r
noncomputable def apF:adc Tryd.prog:=.mk 12 λ
 | [.sl .u8 (.may _) a]=>pk (wq a) λr=>[.sl .u8 (.may false) r.1,.int .i64 r.2]
 |_=>none
abbrev vb:=Int×Int×Bs×List aa×Bss×Bs×Int
noncomputable def lu(a:Bs)(b:Int)(r:vb):Prop:=be Tryd.prog 13 [.ptr 0 0] [[vF .u8 a,vI b]] (.agg [vI r.1,vI r.2.1,vT r.2.2.1,vF .jnode r.2.2.2.1,vF .str r.2.2.2.2.1]) [[vF .u8 r.2.2.2.2.2.1,vI r.2.2.2.2.2.2]]∧rJ a b r
noncomputable def aeP:eh Tryd.prog:=.mk 13 λ
 | [.ptr 0 0],[[.sl .u8 (.may false) a,.int .i64 b]]=>pk (lu a b) λr=>(.agg [vI r.1,vI r.2.1,vT r.2.2.1,vF .jnode r.2.2.2.1,vF .str r.2.2.2.2.1],[[vF .u8 r.2.2.2.2.2.1,vI r.2.2.2.2.2.2]])
 |_,_=>none
abbrev pd:=Int×Int×Bs×List aa×Bss×Bs×Int×Bss
noncomputable def jf(a:Bs)(b:Int)(c:Bss)(d:Bs)(e:Int)(r:pd):Prop:=be Tryd.prog 24 [.ptr 0 0,vT d,vI e,.ptr 1 0] [[vF .u8 a,vI b],[vO .str c]] (.agg [vI r.1,vI r.2.1,vT r.2.2.1,vF .jnode r.2.2.2.1,vF .str r.2.2.2.2.1]) [[vF .u8 r.2.2.2.2.2.1,vI r.2.2.2.2.2.2.1],[vO .str r.2.2.2.2.2.2.2]]∧rI a b c d e r
noncomputable def vc:eh Tryd.prog:=.mk 24 λ
 | [.ptr 0 0,.str d,.int .i64 e,.ptr 1 0],[[.sl .u8 (.may false) a,.int .i64 b],[.sl .str .own c]]=>pk (jf a b c d e) λr=>(.agg [vI r.1,vI r.2.1,vT r.2.2.1,vF .jnode r.2.2.2.1,vF .str r.2.2.2.2.1],[[vF .u8 r.2.2.2.2.2.1,vI r.2.2.2.2.2.2.1],[vO .str r.2.2.2.2.2.2.2]])
 |_,_=>none
abbrev ah7:=Int×Bs×Int
noncomputable def bk(a:Bs)(b c:Int)(r:ah7):Prop:=be Tryd.prog 45 [.ptr 0 0,vI c] [[vF .u8 a,vI b]] (vI r.1) [[vF .u8 r.2.1,vI r.2.2]]∧u9 a b c r
noncomputable def nY:eh Tryd.prog:=.mk 45 λ
 | [.ptr 0 0,.int .i64 c],[[.sl .u8 (.may false) a,.int .i64 b]]=>pk (bk a b c) λr=>(vI r.1,[[vF .u8 r.2.1,vI r.2.2]])
 |_,_=>none
noncomputable def du(a:Bs)(b:Int)(c:Bss)(d:Int)(r:pd):Prop:=be Tryd.prog 46 [.ptr 0 0,vI d,.ptr 1 0] [[vF .u8 a,vI b],[vO .str c]] (.agg [vI r.1,vI r.2.1,vT r.2.2.1,vF .jnode r.2.2.2.1,vF .str r.2.2.2.2.1]) [[vF .u8 r.2.2.2.2.2.1,vI r.2.2.2.2.2.2.1],[vO .str r.2.2.2.2.2.2.2]]∧eP a b c d r
noncomputable def rz:eh Tryd.prog:=.mk 46 λ
 | [.ptr 0 0,.int .i64 d,.ptr 1 0],[[.sl .u8 (.may false) a,.int .i64 b],[.sl .str .own c]]=>pk (du a b c d) λr=>(.agg [vI r.1,vI r.2.1,vT r.2.2.1,vF .jnode r.2.2.2.1,vF .str r.2.2.2.2.1],[[vF .u8 r.2.2.2.2.2.1,vI r.2.2.2.2.2.2.1],[vO .str r.2.2.2.2.2.2.2]])
 |_,_=>none
abbrev aok:=Int×Int×Bs×Bool×List aa×Bool×Bss
noncomputable def fA(a:Bool)(c:Bss)(b:Bool)(d:List aa)(r:aok):Prop:=aF Tryd.prog 47 [.sl .str (.may a) c,.sl .jnode (.may b) d] (.agg [vI r.1,vI r.2.1,vT r.2.2.1,.sl .jnode (.may r.2.2.2.1) r.2.2.2.2.1,.sl .str (.may r.2.2.2.2.2.1) r.2.2.2.2.2.2])∧aaf a c b d r
noncomputable def afQ:cV Tryd.prog:=.mk 47 λ
 | [.sl .str (.may a) c,.sl .jnode (.may b) d]=>pk (fA a c b d) λr=>.agg [vI r.1,vI r.2.1,vT r.2.2.1,.sl .jnode (.may r.2.2.2.1) r.2.2.2.2.1,.sl .str (.may r.2.2.2.2.2.1) r.2.2.2.2.2.2]
 |_=>none
abbrev apG:=Int×Int×Bs×List aa×Bss
noncomputable def bB(a:Bs)(r:apG):Prop:=aF Tryd.prog 48 [vT a] (.agg [vI r.1,vI r.2.1,vT r.2.2.1,vF .jnode r.2.2.2.1,vF .str r.2.2.2.2])∧abG a r
noncomputable def ws:cV Tryd.prog:=.mk 48 λ
 | [.str a]=>pk (bB a) λr=>.agg [vI r.1,vI r.2.1,vT r.2.2.1,vF .jnode r.2.2.2.1,vF .str r.2.2.2.2]
 |_=>none
noncomputable def kn(a:Bs)(b c d:Int)(e:Bs)(f:List aa)(g:Bss)(r:vb):Prop:=be Tryd.prog 49 [.ptr 0 0,.agg [vI c,vI d,vT e,vF .jnode f,vF .str g]] [[vF .u8 a,vI b]] (.agg [vI r.1,vI r.2.1,vT r.2.2.1,vF .jnode r.2.2.2.1,vF .str r.2.2.2.2.1]) [[vF .u8 r.2.2.2.2.2.1,vI r.2.2.2.2.2.2]]∧eX a b c d e f g r
noncomputable def adk:eh Tryd.prog:=.mk 49 λ
 | [.ptr 0 0,.agg [.int .i64 a,.int .i64 b,.str c,.sl .jnode (.may _) d,.sl .str (.may _) e]],[[.sl .u8 (.may false) f,.int .i64 g]]=>pk (kn f g a b c d e) λr=>(.agg [vI r.1,vI r.2.1,vT r.2.2.1,vF .jnode r.2.2.2.1,vF .str r.2.2.2.2.1],[[vF .u8 r.2.2.2.2.2.1,vI r.2.2.2.2.2.2]])
 |_,_=>none
abbrev ag6:=Bool×Bs×Int
noncomputable def mP(a:Bs)(b:Int)(r:ag6):Prop:=be Tryd.prog 83 [.ptr 0 0] [[vF .u8 a,vI b]] (vB r.1) [[vF .u8 r.2.1,vI r.2.2]]∧ua a b r
noncomputable def ag7:eh Tryd.prog:=.mk 83 λ
 | [.ptr 0 0],[[.sl .u8 (.may false) a,.int .i64 b]]=>pk (mP a b) λr=>(vB r.1,[[vF .u8 r.2.1,vI r.2.2]])
 |_,_=>none
noncomputable def lU(a:Bs)(b:Int)(c:Bss)(d:Int)(r:pd):Prop:=be Tryd.prog 84 [.ptr 0 0,vI d,.ptr 1 0] [[vF .u8 a,vI b],[vO .str c]] (.agg [vI r.1,vI r.2.1,vT r.2.2.1,vF .jnode r.2.2.2.1,vF .str r.2.2.2.2.1]) [[vF .u8 r.2.2.2.2.2.1,vI r.2.2.2.2.2.2.1],[vO .str r.2.2.2.2.2.2.2]]∧s9 a b c d r
noncomputable def afR:eh Tryd.prog:=.mk 84 λ
 | [.ptr 0 0,.int .i64 d,.ptr 1 0],[[.sl .u8 (.may false) a,.int .i64 b],[.sl .str .own c]]=>pk (lU a b c d) λr=>(.agg [vI r.1,vI r.2.1,vT r.2.2.1,vF .jnode r.2.2.2.1,vF .str r.2.2.2.2.1],[[vF .u8 r.2.2.2.2.2.1,vI r.2.2.2.2.2.2.1],[vO .str r.2.2.2.2.2.2.2]])
 |_,_=>none
abbrev arb:=Int×Int×Bs×List aa×Bss×Bool
noncomputable def uh(a b:Int)(c:Bs)(d:List aa)(e:Bss)(f:Bs)(r:arb):Prop:=aF Tryd.prog 85 [.agg [vI a,vI b,vT c,vF .jnode d,vF .str e],vT f] (.tup [.agg [vI r.1,vI r.2.1,vT r.2.2.1,vF .jnode r.2.2.2.1,vF .str r.2.2.2.2.1],vB r.2.2.2.2.2])∧sB a b c d e f r
noncomputable def arc:cV Tryd.prog:=.mk 85 λ
 | [.agg [.int .i64 a,.int .i64 b,.str c,.sl .jnode (.may _) d,.sl .str (.may _) e],.str f]=>pk (uh a b c d e f) λr=>.tup [.agg [vI r.1,vI r.2.1,vT r.2.2.1,vF .jnode r.2.2.2.1,vF .str r.2.2.2.2.1],vB r.2.2.2.2.2]
 |_=>none
end Go.Proofs.YtkinflmjagfapaaDoor
namespace Go.AM
section
variable{P:Program}
def aak:Option (List V×List V)->V->V
 |none,h=>h
 |some (p,q),h=>.tup (p++h::q)
def ard:Option (List V×List V)->Bool
 |none=>true
 |some (p,q)=>p.all V.flat&&q.all V.flat
def ajb(P:Program)(f:FuncId)(vs:List V)(o:Option (List V×List V))(k:EK)(xs:List (Ty k)):Prop:=
 eO P f vs [] (aak o (.sw k 0 xs.length)) [some [.rw k xs],none]
theorem ajb.dim{f:FuncId}{vs us:List V}{o:Option (List V×List V)}{k:EK}{xs:List (Ty k)}(h:ajb P f us o k xs)(e:vs.map V.dim=us):ajb P f vs o k xs:=eO.dim h e
theorem asr{I I':Nat->Nat->Prop}{ρ ρ':Nat->Nat}{N N':Nat}{w:World}{o:Option (List V×List V)}{h k:V}{cv:Value}(e:ard o=true)(f:VRel I ρ N w (aak o h) cv)
  (j:∀cv,VRel I ρ N w h cv->VRel I' ρ' N' w k cv) (m:∀v cv,v.flat=true->VRel I ρ N w v cv->VRel I' ρ' N' w v cv):VRel I' ρ' N' w (aak o k) cv:=by
 cases o with
 |none=>exact j cv f
 |some u=>
  obtain⟨p,q⟩:=u;simp only[ard,Ac] at e;simp only[aak] at f ⊢;cases f with
  |tup _ vs t g=>
  refine .tup _ vs (by simpa using t) ?_;intro i c cv a b;rcases CG i p.length with d|d|d;·rw[Aw d] at a;exact m c cv (Ap.1 e.1 c (Am a)) (g i c cv (by rw[Aw d];exact a) b)
  ·subst d;rw[Av (Ar _),Cf] at a;simp only[Bq,Ai] at a;subst a;exact j cv (g _ h cv (by rw[Av (Ar _),Cf];rfl) b)
  ·rw[Av (by omega),show i-p.length=(i-p.length-1)+1 by omega,A9] at a;exact m c cv (Ap.1 e.2 c (Am a)) (g i c cv (by rw[Av (by omega),show i-p.length=(i-p.length-1)+1 by omega,A9];exact a) b)
theorem ass{g:Gh}{w:World}{a:Occ}{o:Option (List V×List V)}{k:EK}{id n:Nat}{cv:Value}:ap g w a (aak o (.sw k id n)) cv:=by
 cases o with
 |none=>simp[aak,ap]
 |some b=>simp[aak,ap]
theorem ajb.frame{f:FuncId}{vs:List V}{o:Option (List V×List V)}{k:EK}{xs:List (Ty k)}(h:ajb P f vs o k xs)(hf:vs.all V.flat=true)(ho:ard o=true)(hp:List ai):
  eO P f vs hp (aak o (.sw k hp.length xs.length)) (hp++[some [.rw k xs],none]):=by
 intro w g ae bs C a0 ad a5;let g₀:Gh:={I:=g.I,ρ:=g.ρ,O:=λ_=>none,β:=g.β}
 have h0:HR g₀ [] w:=⟨by simp,by simp,by simp,by simp,C.exI,by simp[g₀]⟩
 refine(h w g₀ ae (bs.sub rfl (λh=>h) (λh=>by simp[g₀,h])) h0 a0 ad (λi x cv hx u=>(a5 i x cv hx u).flat (Ap.1 hf x (Am hx)))).mono ?_;rintro e w' ⟨cv,g₁,rfl,q1,H,q3,q4⟩;have blk:∀b,b<w.heap.size->w'.heap[b]? =w.heap[b]?:=λb t=>H.block b t (by simp) rfl
 have F:∀b j,b<w.heap.size->g₁.I b j->g.I b j:=λb j t R=>H.iSame b j t (by simp) rfl R
 have bl:∀b,b<w.heap.size->g₁.O b=none:=λb t=>H.oSame b t (by simp) rfl
 have a9:w.heap.size<=g₁.ρ 0:=by
  rcases H.live 0 [.rw k xs] rfl with⟨_,h⟩|⟨_,h|h|⟨_,_,h,_⟩⟩
  ·simp at h
  ·exact h
  ·simp[g₀] at h
  ·simp at h
 let d:Gh:={I:=g₁.I,ρ:=λi=>if i=hp.length then g₁.ρ 0 else if i=hp.length+1 then g₁.ρ 1 else g.ρ i,β:=g.β,O:=λb=>if b<w.heap.size then g.O b else (match g₁.O b with
  |some .res=>some .res
  |_=>none)}
 have m:∀i,i<hp.length->d.ρ i=g.ρ i:=by intro i R;simp only[d];rw[if_neg (by omega),if_neg (by omega)]
 have q:d.ρ hp.length=g₁.ρ 0:=by simp[d]
 have G:d.ρ (hp.length+1)=g₁.ρ 1:=by simp[d]
 have up:Up g.I g.ρ hp.length w d.I d.ρ (hp++[some [V.rw k xs],none]).length w':=⟨H.up.mono,H.up.cell,m,by simp⟩
 have J:∀(id:Nat) cs,hp[id]? =some (some cs)->g.ρ id<w.heap.size:=by intro id cs a;obtain⟨ob,Q⟩:=(C.obj id cs a).block;exact(AQ.1 Q).1
 have p:∀(id:Nat) cs,hp[id]? =some (some cs)->id<hp.length:=λid cs a=>(Ad.1 a).1
 have key:∀(id:Nat) c,(hp++[some [V.rw k xs],none])[id]? =some (some c)->(id=hp.length∧c=[V.rw k xs])∨hp[id]? =some (some c):=by
  intro id c a;rcases AH id hp.length with X|X;·rw[Aw X] at a;exact .inr a
  ·rw[Av X] at a;match hq:id-hp.length,a with
   |0,a=>simp at a;exact .inl ⟨by omega,a.symm⟩
   |1,a=>simp at a
   |n+2,a=>simp at a
 have Y:∀id j v cv,id<hp.length->ap g w (.cell id j) v cv->ap d w' (.cell id j) v cv:=by intro id j v cv a ho;refine cH ho rfl (λb j R=>⟨H.up.mono b j R,H.up.cell b j R⟩) ?_;intro b t;have L:=C.oLt b _ t;exact⟨by simp[d,L,t],blk b L,λj W=>F b j L W⟩
 refine⟨cv,d,rfl,⟨?_,?_,?_,?_,q1.exI,?_⟩,⟨rfl,H.os,H.tape,H.output,H.size,λb t _ _=>blk b t,up,λb j t _ _ R=>F b j t R,?_,?_⟩,?_,ass⟩
 ·intro id c a;rcases key id c a with⟨rfl,rfl⟩|a
  ·refine(q1.obj 0 _ rfl).keep (by rw[q]) λbY e fz a1 a2=>?_
   refine⟨a2.len,a2.plain,?_,a2.cold,a2.one,?_,?_,?_⟩;·intro k2 ys hz;obtain⟨t1,t2,t3,t4⟩:=a2.typed k2 ys hz;refine⟨t1,?_,by simp,λhk=>(t4 hk).trans H.beta⟩;rw[G];exact t2
   ·intro j c cv A u;have M:=A;simp only[cellsOf] at M;obtain⟨y,hy,M⟩:=ft _ j _ M;exact vx M (a2.rel j c cv A u)
   ·intro j c cv A u;have Z:=Am A;simp only[cellsOf,AX] at Z;obtain⟨y,_,Z⟩:=Z;exact kP (sL k y c Z) _ _ _ _
   ·intro j E n A;simp only[cellsOf] at A;obtain⟨y,_,A⟩:=ft _ j _ A;exact absurd A (yz k y _ E n)
  ·have X:=p id c a;refine(C.obj id c a).keep (by rw[m id X];exact blk _ (J id c a)) λbY e fz Q B=>?_
   exact⟨B.len,B.plain,B.typedUp rfl m (by simp) rfl,B.cold,B.one,λj c cv A u=>(B.rel j c cv A u).up up,λj c cv A u=>Y _ _ _ _ X (B.own j c cv A u),λj E n W=>by rw[m id X];exact B.bn j E n W⟩
 ·intro id D c c' a S ar;rcases key id c a with⟨rfl,rfl⟩|Q
  ·rcases key D c' S with⟨rfl,rfl⟩|B;·exact absurd rfl ar
   ·rw[q,m D (p D c' B)];have:=J D c' B;omega
  ·rcases key D c' S with⟨rfl,rfl⟩|B;·rw[q,m id (p id c Q)];have:=J id c Q;omega
   ·rw[m id (p id c Q),m D (p D c' B)];exact C.apart _ _ _ _ Q B ar
 ·intro id c a j W;rcases key id c a with⟨rfl,rfl⟩|a;·rw[q] at W;exact q1.notI 0 _ rfl j W
  ·rw[m id (p id c a)] at W;exact C.notI id c a j (F _ j (J id c a) W)
 ·intro id c a;rcases key id c a with⟨rfl,rfl⟩|a
  ·rw[q];have Q:=q1.notO 0 _ rfl;have B:¬g₁.ρ 0<w.heap.size:=by omega
   simp[d,Q,B]
  ·rw[m id (p id c a)];have:=J id c a;simp[d,this,C.notO id c a]
 ·intro b o t;simp only[d] at t;split at t;·rename_i L;exact AE L H.size
  ·split at t;·rename_i an;exact q1.oLt b _ an
   ·simp at t
 ·intro b t _ hO;simp[d,t,hO]
 ·intro id c a;rcases key id c a with⟨rfl,rfl⟩|a;·exact .inr ⟨Ar _,.inl (by rw[q];exact a9)⟩
  ·exact .inl ⟨c,a⟩
 ·refine asr ho q3 ?_ ?_
  ·intro cv hr;cases hr with
   |sw _ _ _ hN A Z=>
   rw[Be] at A Z;have:=VRel.sw (I:=d.I) (ρ:=d.ρ) (N:=(hp++[some [V.rw k xs],none]).length) (w:=w') k hp.length xs.length (by simp) (by rw[G];exact A) (by rw[G];exact Z);rw[G,q] at this;exact this
  ·intro v cv hv hr;exact(hr.up (I':=d.I) (ρ':=g₁.ρ) (N':=2) ⟨λ_ _ R=>R,λ_ _ _=>rfl,λ_ _=>rfl,Ar _⟩).flat hv
def aol(P:Program)(f:FuncId)(p q:List V)(k:EK)(xs:List (Ty k))(v:V)(ys:List (Ty k)):Prop:=
 ∃rest,eO P f (p++.sw k 0 xs.length::q) [some [.rw k xs],none] v (some [.rw k ys]::none::rest)
theorem pv.rowTo{g m:Gh}{N N':Nat}{w:World}{id d:Nat}{k:EK}{xs:List (Ty k)}{i:Array Value}{e:TypeId}{q:Nat×Nat}(h:pv g N w id [.rw k xs] i e q)
  (A:m.I=g.I) (p:m.β=g.β) (D:m.ρ (d+1)=g.ρ (id+1)) (x:d+1<N'):pv m N' w d [.rw k xs] i e q:=by
 refine⟨h.len,h.plain,?_,h.cold,h.one,?_,?_,?_⟩;·intro C ys t;obtain⟨v,F,G,u⟩:=h.typed C ys t;exact⟨v,by rw[D];exact F,x,λB=>(u B).trans p.symm⟩
 ·intro j c cv b f;have a:=b;simp only[cellsOf] at a;obtain⟨y,H,a⟩:=ft _ j _ a;rw[A];exact vx a (h.rel j c cv b f)
 ·intro j c cv b f;have o:=Am b;simp only[cellsOf,AX] at o;obtain⟨y,_,o⟩:=o;exact kP (sL k y c o) _ _ _ _
 ·intro j E n b;simp only[cellsOf] at b;obtain⟨y,_,b⟩:=ft _ j _ b;exact absurd b (yz k y _ E n)
theorem aol.frame{f:FuncId}{p q:List V}{k:EK}{xs ys:List (Ty k)}{v:V}(h:aol P f p q k xs v ys)(bs:p.all V.flat=true)(b0:q.all V.flat=true)(hv:v.flat=true)
  {hp:List ai} {id:Nat} (C:hp[id]? =some (some [.rw k xs])):eO P f (p++.sw k id xs.length::q) hp v (hp.set id (some [.rw k ys])):=by
 obtain⟨rest,h⟩:=h;have a4:id<hp.length:=(Ad.1 C).1;intro w g M bx y ar L J;obtain⟨c3,e,fz,a1,a2⟩:=(y.obj id _ C).row rfl;obtain⟨t1,t2,t3,t4⟩:=a2.typed k xs rfl;let g₀:Gh:={I:=g.I,ρ:=λi=>if i=0 then g.ρ id else g.ρ (id+1),O:=λ_=>none,β:=g.β}
 have z0:∀(i:Nat) cs,([some [V.rw k xs],none]:List ai)[i]? =some (some cs)->i=0∧cs=[.rw k xs]:=by
  intro i cs a;match i,a with
  |0,a=>simp at a;exact⟨rfl,a.symm⟩
  |1,a=>simp at a
  |n+2,a=>simp at a
 have h0:HR g₀ [some [.rw k xs],none] w:=by
  refine⟨?_,?_,?_,?_,y.exI,by simp[g₀]⟩;·intro i cs a;obtain⟨rfl,rfl⟩:=z0 i cs a;exact jw.ofRow a1 (a2.rowTo rfl rfl rfl (by simp)) rfl
  ·intro i i' cs b5 a Y d;obtain⟨rfl,_⟩:=z0 i cs a;obtain⟨rfl,_⟩:=z0 i' b5 Y;exact absurd rfl d
  ·intro i cs a;obtain⟨rfl,_⟩:=z0 i cs a;exact y.notI id _ C
  ·intro i cs a;rfl
 have ad:∀(i:Nat) x cv,(p++.sw k 0 xs.length::q)[i]? =some x->M[i]? =some cv->VRel g₀.I g₀.ρ ([some [V.rw k xs],none]:List ai).length w x cv:=by
  intro i x cv B F;rcases CG i p.length with a|a|a;·rw[Aw a] at B;exact(J i x cv (by rw[Aw a];exact B) F).flat (Ap.1 bs x (Am B))
  ·subst a;rw[Av (Ar _),Cf] at B;simp only[Bq,Ai] at B;subst B;have r:=J p.length (.sw k id xs.length) cv (by rw[Av (Ar _),Cf];rfl) F;cases r with
   |sw _ _ _ hN hc hm=>exact VRel.sw (I:=g₀.I) (ρ:=g₀.ρ) (N:=([some [V.rw k xs],none]:List ai).length) (w:=w) k 0 xs.length (by simp) hc hm
  ·rw[Av (by omega),show i-p.length=(i-p.length-1)+1 by omega,A9] at B;exact(J i x cv (by rw[Av (by omega),show i-p.length=(i-p.length-1)+1 by omega,A9];exact B) F).flat (Ap.1 b0 x (Am B))
 refine(h w g₀ M (bx.sub rfl (λh=>h) (λh=>by simp[g₀,h])) h0 (by simpa using ar) (by
  intro x B;rcases Az.1 B with B|B;·exact L x (AN _ B)
  ·rcases AB.1 B with rfl|B;·rfl
   ·exact L x (B0 _ (AL _ B))) ad).mono ?_
 rintro ex w' ⟨cv,g₁,rfl,q1,G,q3,q4⟩;have r0:g₁.ρ 0=g.ρ id:=G.up.rho 0 (by simp);have r1:g₁.ρ (0+1)=g.ρ (id+1):=G.up.rho 1 (by simp);have ae:∀b,g.ρ id≠b->∀(i:Nat) cs,([some [V.rw k xs],none]:List ai)[i]? =some (some cs)->g₀.ρ i≠b:=by intro b m i cs a;obtain⟨rfl,_⟩:=z0 i cs a;exact m
 have blk:∀b,b<w.heap.size->g.ρ id≠b->w'.heap[b]? =w.heap[b]?:=λb m d=>G.block b m (ae b d) rfl
 have E:∀b j,b<w.heap.size->g.ρ id≠b->g₁.I b j->g.I b j:=λb j m d a=>G.iSame b j m (ae b d) rfl a
 have X:∀b,b<w.heap.size->g.ρ id≠b->g₁.O b=none:=λb m d=>G.oSame b m (ae b d) rfl
 have n0:=q1.notO 0 [.rw k ys] rfl;rw[r0] at n0
 let u:Gh:={I:=g₁.I,ρ:=g.ρ,O:=λb=>match g₁.O b with
  |some .res=>some .res
  |some _=>none
  |none=>if b<w.heap.size then g.O b else none,β:=g.β}
 have up:Up g.I g.ρ hp.length w u.I u.ρ (hp.set id (some [V.rw k ys])).length w':=⟨G.up.mono,G.up.cell,λ_ _=>rfl,by simp⟩
 have al:∀(i:Nat) c,hp[i]? =some (some c)->g.ρ i<w.heap.size:=by intro i c a;obtain⟨ob,h1⟩:=(y.obj i c a).block;exact(AQ.1 h1).1
 have key:∀(i:Nat) c,(hp.set id (some [V.rw k ys]))[i]? =some (some c)->(i=id∧c=[.rw k ys])∨(i≠id∧hp[i]? =some (some c)):=by
  intro i c a;rw[Ay] at a;split at a;·rename_i Z;simp[a4] at a;exact .inl ⟨Z.symm,a.symm⟩
  ·rename_i Z;exact .inr ⟨λh=>Z h.symm,a⟩
 have t:∀(i:Nat) c,(hp.set id (some [V.rw k ys]))[i]? =some (some c)->∃D,hp[i]? =some (some D):=by
  intro i c a;rcases key i c a with⟨rfl,_⟩|⟨_,h⟩
  ·exact⟨_,C⟩
  ·exact⟨c,h⟩
 have H:∀(i:Nat) c,i≠id->hp[i]? =some (some c)->g.ρ id≠g.ρ i:=λi c d a=>y.apart _ _ _ _ C a d.symm
 have R:∀b o,g.O b=some o->g.ρ id≠b:=by intro b o m Z;rw[<-Z,y.notO _ _ C] at m;cases m
 have A:∀b,b<w.heap.size->u.O b=g.O b:=by
  intro b m;by_cases d:g.ρ id=b;·subst d;simp only[u,n0];rw[if_pos m]
  ·simp only[u,X b m d];rw[if_pos m]
 refine⟨cv,u,rfl,⟨?_,?_,?_,?_,q1.exI,?_⟩,⟨rfl,G.os,G.tape,G.output,G.size,?_,up,?_,?_,?_⟩,?_,?_⟩
 ·intro i c a;rcases key i c a with⟨rfl,rfl⟩|⟨d,a⟩
  ·obtain⟨a5,Z,br,b1,Q⟩:=(q1.obj 0 _ rfl).row rfl;rw[r0] at b1;exact jw.ofRow b1 (Q.rowTo rfl G.beta.symm r1.symm (by simpa using t3)) rfl
  ·refine(y.obj i c a).keep (blk _ (al i c a) (H i c d a)) λa5 Z br b1 Q=>?_
   refine⟨Q.len,Q.plain,Q.typedUp rfl (λ_ _=>rfl) up.num rfl,Q.cold,Q.one,λj c cv S F=>(Q.rel j c cv S F).up up,?_,Q.bn⟩;intro j c' cv S F;refine cH (Q.own j c' cv S F) rfl (λb j a=>⟨up.mono b j a,up.cell b j a⟩) ?_;intro b m;have an:=y.oLt b _ m;have W:=R b _ m;exact⟨(A b an).trans m,blk b an W,λj S=>E b j an W S⟩
 ·intro i i' c c' a Y d;obtain⟨D,m1⟩:=t i c a;obtain⟨ci,m2⟩:=t i' c' Y;exact y.apart _ _ _ _ m1 m2 d
 ·intro i c a j S;rcases key i c a with⟨rfl,rfl⟩|⟨d,a⟩
  ·have:=q1.notI 0 _ rfl j;rw[r0] at this;exact this S
  ·exact y.notI i c a j (E _ j (al i c a) (H i c d a) S)
 ·intro i c a;obtain⟨D,m1⟩:=t i c a;exact(A _ (al i D m1)).trans (y.notO i D m1)
 ·intro b o m;simp only[u] at m;split at m;·rename_i hq;exact q1.oLt b _ hq
  ·simp at m
  ·split at m;·rename_i hq;exact AE hq G.size
   ·simp at m
 ·intro b m ho hO;exact blk b m (ho id _ C)
 ·intro b j m ho hO a;exact E b j m (ho id _ C) a
 ·intro b m ho hO;exact(A b m).trans hO
 ·intro i c a;exact .inl (t i c a)
 ·exact q3.flat hv
 ·exact q4.reloc G.beta.symm rfl λb m=>by simp[u,m]
end
section
variable{P:Program}{Γ:aq}{imp:List Nat}{n:Nat}{f:FuncId}{fn:Func}{ir:IR}{rs:List RV}{x:Ro}
theorem aol.dim{p q b a:List V}{k:EK}{xs ys:List (Ty k)}{v:V}(h:aol P f p q k xs v ys)(d:b.map V.dim=p)(e:a.map V.dim=q):aol P f b a k xs v ys:=by obtain⟨rest,h⟩:=h;refine⟨rest,h.dim ?_⟩;rw[BF,A2,d,e];rfl
end
def V.flatM(n:Nat):V->Bool
 | .mr k=>decide (k<n)
 | .mp _ _=>true
 |v=>v.flatO
section
variable{I:Nat->Nat->Prop}{ρ ρ':Nat->Nat}{N N' n:Nat}{w:World}{P:Program}
theorem VRel.flatM{v:V}{cv:Value}(h:VRel I ρ N w v cv)(b:v.flatM n=true)(d:∀k,k<n->ρ' k=ρ k)(f:n<=N'):VRel I ρ' N' w v cv:=by
 by_cases a:∃k,v=.mr k
 ·obtain⟨k,rfl⟩:=a;have e:k<n:=by simpa [V.flatM] using b
  cases h with
  |mr _ _=>rw[<-d k e];exact .mr k (by omega)
 ·refine h.flatO ?_;cases v<;>first|exact b|exact absurd ⟨_,rfl⟩ a|(cases h;done)
theorem al4{cs:List V}(h:cs.all (V.flatM n)=true):cF cs=false:=by
 unfold cF;split;·simp[V.flatM,V.flatO,V.flat1] at h
 ·simp[V.flatM,V.flatO,V.flat1] at h
 ·simp[V.flatM,V.flatO,V.flat1] at h
 ·rfl
theorem be.frameM{f:FuncId}{avs:List V}{css css':List (List V)}{v:V}(h:be P f avs css v css')(ha:avs.all (V.flatP css.length)=true)(hv:v.flat=true)
  (hc:css.all (λcs=>cs.all (V.flatM css.length))=true) (c5:css'.all (λcs=>cs.all (V.flatM css.length))=true) {hp hp':List ai} {σ:Nat->Nat}
  (ae:∀k,k<css.length->σ k=k) (b4:∀k k',k<css.length->k'<css.length->σ k=σ k'->k=k')
  (h1:∀(k:Nat) cs,css[k]? =some cs->hp[σ k]? =some (some cs)) (h2:hp'.length=hp.length)
  (h3:∀(k:Nat) cs,css'[k]? =some cs->hp'[σ k]? =some (some cs))
  (h4:∀id,(∀k,k<css.length->σ k≠id)->hp'[id]? =hp[id]?):eO P f (avs.map (V.ren σ)) hp v hp':=by
 obtain⟨c4,rest,h⟩:=h;intro w g X dp u cx bY cc;have b6:∀(k:Nat) cs,css[k]? =some cs->cs.all (V.flatM css.length)=true:=λk cs a=>Ap.1 hc cs (Am a)
 have a5:∀(k:Nat) cs,css'[k]? =some cs->cs.all (V.flatM css.length)=true:=λk cs a=>Ap.1 c5 cs (Am a)
 have J:∀(k:Nat) cs,css[k]? =some cs->k<css.length:=λk cs a=>(Ad.1 a).1
 have A:∀(k:Nat) cs,(css.map some)[k]? =some (some cs)->css[k]? =some cs:=by
  intro k cs a;rw[AA] at a;cases R:css[k]? with
  |none=>rw[R] at a;simp at a
  |some x=>rw[R] at a;simpa using a
 have sub:∀k,k<css.length->∃cs,css[k]? =some cs∧hp[σ k]? =some (some cs):=λk a=>⟨css[k],Ab a,h1 k _ (Ab a)⟩
 let inv:Nat->Option Nat:=λi=>(AU css.length).find? λk=>σ k==i
 have L:∀i k,inv i=some k->k<css.length∧σ k=i:=by intro i k a;have m1:=D5 a;have m2:=List.find?_some a;exact⟨AZ.1 m1,by simpa using m2⟩
 have a3:∀k,k<css.length->inv (σ k)=some k:=by
  intro k a;cases R:inv (σ k) with
  |none=>have:=List.find?_eq_none.1 R k (AZ.2 a);simp at this
  |some k'=>obtain⟨m1,m2⟩:=L _ _ R;rw[b4 k' k m1 a m2]
 let g₀:Gh:={I:=g.I,ρ:=λk=>g.ρ (σ k),O:=λb=>match g.O b with|some (.cell i j)=>(inv i).map λk=>.cell k j|_=>none,β:=g.β}
 have gO:∀b o,g₀.O b=some o->∃k j,k<css.length∧o=.cell k j∧g.O b=some (.cell (σ k) j):=by
  intro b o q;simp only[g₀] at q;split at q
  ·rename_i i j hg;cases R:inv i with
   |none=>rw[R] at q;simp at q
   |some k=>rw[R] at q;obtain⟨m1,m2⟩:=L _ _ R;exact⟨k,j,m1,by simpa using q.symm,by rw[m2];exact hg⟩
  ·simp at q
 have gN:∀b,(∀k j,k<css.length->g.O b≠some (.cell (σ k) j))->g₀.O b=none:=by
  intro b q;cases R:g₀.O b with
  |none=>rfl
  |some o=>obtain⟨k,j,a,_,p⟩:=gO b o R;exact absurd p (q k j a)
 have gC:∀b k j,k<css.length->g.O b=some (.cell (σ k) j)->g₀.O b=some (.cell k j):=by intro b k j a q;simp[g₀,q,a3 k a]
 have dw:∀k,k<css.length->g₀.O (g.ρ (σ k))=none:=by intro k a;obtain⟨cs,_,Y⟩:=sub k a;exact gN _ (by intro k' j _ p;rw[u.notO _ cs Y] at p;cases p)
 have h0:HR g₀ (css.map some) w:=by
  refine⟨?_,?_,?_,?_,u.exI,?_⟩
  ·intro k c a;have a:=A k c a;refine(u.obj _ c (h1 k c a)).keep rfl λeB e fz a1 F=>?_
   have hr:=al4 (b6 k c a);refine⟨F.len,F.plain,by rw[mh hr];simp,F.cold,F.one,?_,?_,F.bn⟩;·intro j Q cv p D;exact(F.rel j Q cv p D).flatM (Ap.1 (b6 k c a) Q (Am (by rw[eM hr] at p;exact p))) (λi t=>congrArg g.ρ (ae i t)) (by simp)
   ·intro j Q cv p D;exact(F.own j Q cv p D).reloc rfl rfl λb q=>gC b k j (J k c a) q
  ·intro k k' c Q a y C;have a:=A k c a;have y:=A k' Q y;exact u.apart _ _ _ _ (h1 k c a) (h1 k' Q y) λe=>C (b4 k k' (J k c a) (J k' Q y) e)
  ·intro k c a;exact u.notI _ c (h1 k c (A k c a))
  ·intro k c a;exact dw k (J k c (A k c a))
  ·intro b o q;obtain⟨k,j,_,_,p⟩:=gO b o q;exact u.oLt b _ p
 have b1:∀(i:Nat) x cv,avs[i]? =some x->X[i]? =some cv->VRel g₀.I g₀.ρ (css.map some).length w x cv:=by
  intro i x cv hx D;have hr:=cc i (x.ren σ) cv (by rw[AA,hx];rfl) D;have Z:=Ap.1 ha x (Am hx);unfold V.flatP at Z;split at Z
  ·rename_i k;have a:k<css.length:=by simpa using Z
   simp only[V.ren] at hr;cases hr with
   |ptr _ _ _=>exact .ptr k 0 (by simpa using a)
  ·rw[V.ren_flat Z] at hr;exact hr.flat Z
 refine(h w g₀ X (dp.sub rfl (λh=>h) (λh=>by simp[g₀,h])) h0 (by rw[<-cx,A6]) (by intro x hx;have:=bY (x.ren σ) (CT hx);rw[V.ren_bare] at this;exact this) b1).mono ?_;rintro ex w' ⟨cv,g₁,rfl,q1,W,q3,q4⟩;have r0:∀k,k<css.length->g₁.ρ k=g.ρ (σ k):=λk a=>W.up.rho k (by simpa using a)
 have al:∀b,(∀k,k<css.length->g.ρ (σ k)≠b)->∀(k:Nat) cs,(css.map some)[k]? =some (some cs)->g₀.ρ k≠b:=λb q k cs a=>q k (J k cs (A k cs a))
 have blk:∀b,b<w.heap.size->(∀k,k<css.length->g.ρ (σ k)≠b)->g₀.O b=none->w'.heap[b]? =w.heap[b]?:=λb q C S=>W.block b q (al b C) S
 let B:Gh:={I:=g₁.I,ρ:=g.ρ,O:=λb=>match g₁.O b with
  |some .res=>some .res
  |some (.cell k j)=>cond (B9 k css.length) (some (.cell (σ k) j)) none
  |some (.slot _)=>none
  |none=>if b<w.heap.size∧g₀.O b=none then g.O b else none,β:=g.β}
 have ci:css.length<=hp'.length:=by
  rcases AH hp'.length css.length with hl|hl;·obtain⟨cs,_,dj⟩:=sub (css.length-1) (by omega);have:=(Ad.1 dj).1;rw[ae _ (by omega)] at this;omega
  ·exact hl
 have up:Up g.I g.ρ hp.length w B.I B.ρ hp'.length w':=⟨W.up.mono,W.up.cell,λ_ _=>rfl,by rw[h2];exact Ar _⟩
 have bs:∀(i:Nat) c,hp[i]? =some (some c)->g.ρ i<w.heap.size:=by intro i c t;obtain⟨ob,h1⟩:=(u.obj i c t).block;exact(AQ.1 h1).1
 have bl:∀(k:Nat) cs,css'[k]? =some cs->(css'.map some++rest)[k]? =some (some cs):=by intro k cs a;rw[Aw (by simpa using (Ad.1 a).1),AA,a];rfl
 have key:∀(i:Nat) c,hp'[i]? =some (some c)->(∃k d,k<css.length∧i=σ k∧css'[k]? =some c∧hp[i]? =some (some d))∨((∀k,k<css.length->σ k≠i)∧hp[i]? =some (some c)):=by
  intro i c t;by_cases a:∃k,k<css.length∧σ k=i
  ·obtain⟨k,a,rfl⟩:=a;obtain⟨d,_,m⟩:=sub k a;have y:k<css'.length:=by omega
   have:=h3 k _ (Ab y);rw[this] at t;exact .inl ⟨k,d,a,rfl,by rw[Ab y];simpa using t,m⟩
  ·have hn:∀k,k<css.length->σ k≠i:=λk y e=>a ⟨k,y,e⟩
   exact .inr ⟨hn,(h4 i hn).symm.trans t⟩
 have H:∀(i:Nat) c,hp'[i]? =some (some c)->∃d,hp[i]? =some (some d):=by
  intro i c t;rcases key i c t with⟨_,d,_,_,_,h⟩|⟨_,h⟩
  ·exact⟨d,h⟩
  ·exact⟨c,h⟩
 have G:∀(i:Nat) c,(∀k,k<css.length->σ k≠i)->hp[i]? =some (some c)->∀k,k<css.length->g.ρ (σ k)≠g.ρ i:=by intro i c hn t k a;obtain⟨d,_,m⟩:=sub k a;exact u.apart _ _ _ _ m t (hn k a)
 have M:∀b,b<w.heap.size->(∀k,k<css.length->g.ρ (σ k)≠b)->g₀.O b=none->B.O b=g.O b:=by intro b q C S;have:=W.oSame b q (al b C) S;simp only[B,this];rw[if_pos ⟨q,S⟩]
 have a0:∀b o,g.O b=some o->∀k,k<css.length->g.ρ (σ k)≠b:=by intro b o q k a e;obtain⟨d,_,m⟩:=sub k a;rw[<-e,u.notO _ d m] at q;cases q
 refine⟨cv,B,rfl,⟨?_,?_,?_,?_,q1.exI,?_⟩,⟨rfl,W.os,W.tape,W.output,W.size,?_,up,?_,?_,?_⟩,?_,?_⟩
 ·intro i c t;rcases key i c t with⟨k,d,a,rfl,y,Y⟩|⟨C,t⟩
  ·refine(q1.obj k c (bl k c y)).keep (by rw[r0 k a]) λcy e' fz a1 F=>?_
   rw[r0 k a] at a1;have hr:=al4 (a5 k c y);refine⟨F.len,F.plain,by rw[mh hr];simp,F.cold,F.one,?_,?_,?_⟩;·intro j Q cv p D;exact(F.rel j Q cv p D).flatM (Ap.1 (a5 k c y) Q (Am (by rw[eM hr] at p;exact p))) (λi t=>by rw[r0 i t,ae i t]) ci
   ·intro j Q cv p D;refine(F.own j Q cv p D).reloc W.beta.symm rfl λb q=>?_
    have ds:B9 k css.length=true:=by rw[Cp];exact a
    simp[B,q,ds]
   ·intro j E n p;have:=F.bn j E n p;rw[r0 k a] at this;exact this
  ·have ad:g₀.O (g.ρ i)=none:=gN _ (by intro k j _ p;rw[u.notO i c t] at p;cases p);refine(u.obj i c t).keep (blk _ (bs i c t) (G i c C t) ad) λcy e' fz a1 F=>?_
   refine⟨F.len,F.plain,F.typedUp rfl (λ_ _=>rfl) up.num rfl,F.cold,F.one,λj c cv p D=>(F.rel j c cv p D).up up,?_,F.bn⟩;intro j Q cv p D;refine cH (F.own j Q cv p D) rfl (λb j t=>⟨up.mono b j t,up.cell b j t⟩) ?_;intro b q;have a9:=u.oLt b _ q;have S:g₀.O b=none:=gN _ (by intro k j' a cd;rw[q] at cd;cases cd;exact C k a rfl);have an:=a0 b _ q;exact⟨(M b a9 an S).trans q,blk b a9 an S,λj p=>W.iSame b j a9 (al b an) S p⟩
 ·intro i i' c Q t c2 C;obtain⟨d,m1⟩:=H i c t;obtain⟨d0,m2⟩:=H i' Q c2;exact u.apart _ _ _ _ m1 m2 C
 ·intro i c t j p;rcases key i c t with⟨k,d,a,rfl,y,Y⟩|⟨C,t⟩
  ·have:=q1.notI k c (bl k c y) j;rw[r0 k a] at this;exact this p
  ·have ad:g₀.O (g.ρ i)=none:=gN _ (by intro k j _ p;rw[u.notO i c t] at p;cases p);exact u.notI i c t j (W.iSame _ j (bs i c t) (al _ (G i c C t)) ad p)
 ·intro i c t;rcases key i c t with⟨k,d,a,rfl,y,Y⟩|⟨C,t⟩
  ·have:=q1.notO k c (bl k c y);rw[r0 k a] at this;simp only[B,this];split;·exact u.notO _ d Y
   ·rfl
  ·have ad:g₀.O (g.ρ i)=none:=gN _ (by intro k j _ p;rw[u.notO i c t] at p;cases p);exact(M _ (bs i c t) (G i c C t) ad).trans (u.notO i c t)
 ·intro b o q;simp only[B] at q;split at q;·rename_i R;exact q1.oLt b _ R
  ·rename_i R;exact q1.oLt b _ R
  ·simp at q
  ·split at q;·rename_i R;exact AE R.1 W.size
   ·simp at q
 ·intro b q ho S;exact blk b q (λk a e=>by obtain⟨d,_,m⟩:=sub k a;exact ho _ d m e) (gN _ (by intro k j _ p;rw[S] at p;cases p))
 ·intro b j q ho S t;exact W.iSame b j q (al b λk a e=>by obtain⟨d,_,m⟩:=sub k a;exact ho _ d m e) (gN _ (by intro k j _ p;rw[S] at p;cases p)) t
 ·intro b q ho S;exact(M b q (λk a e=>by obtain⟨d,_,m⟩:=sub k a;exact ho _ d m e) (gN _ (by intro k j _ p;rw[S] at p;cases p))).trans S
 ·intro i c t;exact .inl (H i c t)
 ·exact q3.flat hv
 ·exact q4.reloc W.beta.symm rfl λb q=>by simp[B,q]
def pA(n:Nat)(G:rG)(Γ:aq):aq:=λf vs hp=>
 cond ((di vs).any λi=>AD (i+1) n)
  (match jr hp (AU n) with
  |some css=>match G f vs css with
   |some (c,v,css')=>cond (AD css.length n&&AD css'.length n&&vs.all (V.flatP n)&&v.flat&&css.all (λcs=>cs.all (V.flatM n))&&css'.all (λcs=>cs.all (V.flatM n)))
     (some (c,v,lQ hp (AU n) css')) none
   |none=>Γ f vs hp
  |none=>Γ f vs hp)
  (Γ f vs hp)
theorem atA:(V.ren λk=>k)=id:=funext λv=>by cases v<;>rfl
theorem ajc{n k:Nat}(h:k<n):(AU n).getD k 0=k:=by rw[Al,DB h];rfl
theorem ah8{n:Nat}{G:rG}{Γ:aq}(C:∀f avs css v css',G f avs css=some (true,v,css')->be P f avs css v css')(b:ca P Γ):ca P (pA n G Γ):=by
 intro f vs hp v hp' h;unfold pA at h;cases j:(di vs).any (λi=>AD (i+1) n) with
 |false=>rw[j] at h;exact b _ _ _ _ _ h
 |true=>
  rw[j] at h;simp only[cond_true] at h;split at h
  ·rename_i css g;split at h
   ·rename_i c x css' B;cases a:(AD css.length n&&AD css'.length n&&vs.all (V.flatP n)&&x.flat&&css.all (λcs=>cs.all (V.flatM n))&&css'.all (λcs=>cs.all (V.flatM n))) with
    |false=>rw[a] at h;simp at h
    |true=>
     rw[a] at h;simp only[cond_true,Ai,Ao] at h;obtain⟨rfl,rfl,rfl⟩:=h;simp only[Ac] at a;obtain⟨⟨⟨⟨⟨t,p⟩,F⟩,A⟩,y⟩,E⟩:=a;obtain⟨H,o⟩:=aaQ g;have t:=AS t;have p:=AS p;subst t;have o:∀(k:Nat) cs,css[k]? =some cs->hp[k]? =some (some cs):=λk cs m=>by
      have d:k<css.length:=(Ad.1 m).1;have:=o k cs m
      rwa [ajc d] at this
     have:=be.frameM (C f _ css _ css' B) F A y E (hp:=hp) (hp':=lQ hp (AU css.length) css') (σ:=λk=>k) (λ_ _=>rfl) (λ_ _ _ _ e=>e)
      o xf
      (by
       intro k cs m;have d:k<css'.length:=(Ad.1 m).1;have:=afD (is:=AU css.length) (hp:=hp) (css:=css') List.nodup_range (by intro i u;have u:=AZ.1 u;exact(Ad.1 (o i _ (Ab u))).1) k cs (by simpa [p] using d) m
       rwa [ajc (by omega)] at this)
      (by
       intro id q;refine xW λD=>?_
       exact q id (AZ.1 D) rfl)
     rwa [atA,List.map_id] at this
   ·exact b _ _ _ _ _ h
  ·exact b _ _ _ _ _ h
theorem adl{n:Nat}{G:rG}{Γ:aq}{t:List Nat}(Q:∀f avs css,t.contains f=false->G f avs css=none)(o:cI Γ t):cI (pA n G Γ) t:=by
 refine⟨?_,?_⟩
 ·intro f vs hp A;have e:∀hp,pA n G Γ f vs hp=Γ f vs hp:=by
   intro hp;unfold pA;cases (di vs).any (λi=>AD (i+1) n) with
   |false=>rfl
   |true=>
    simp only[cond_true];split;·rw[Q f _ _ A]
    ·rfl
  rw[e,e];exact o.pure f vs hp A
 ·intro f vs hp c v hp' A h;cases g:(di vs).any (λi=>AD (i+1) n) with
  |false=>
   have e:∀hp,pA n G Γ f vs hp=Γ f vs hp:=by intro hp;unfold pA;rw[g];rfl
   rw[e] at h;obtain⟨q,E,C,B⟩:=o.loc f _ _ _ _ _ A h;exact⟨q,E,C,λd y m=>by rw[e];exact B d y m⟩
  |true=>
   obtain⟨i,J,D⟩:=Cu.1 g;have D:i+1=n:=by simpa using D
   have M:∀k∈AU n,k∈afl vs:=λk L=>amx J (by have:=AZ.1 L;omega)
   have F:∀k∈AU n,k∈yv vs:=λk L=>amy (xU J) (by have:=AZ.1 L;omega)
   have same:∀d:List ai,(∀i∈yv vs,d[i]? =hp[i]?)->jr d (AU n)=jr hp (AU n):=λd m=>yD λi J=>m i (F i J)
   unfold pA at h;rw[g] at h;simp only[cond_true] at h;cases j:jr hp (AU n) with
   |none=>rw[j] at h;obtain⟨q,E,C,B⟩:=o.loc f _ _ _ _ _ A h;refine⟨q,E,C,λd y m=>?_⟩;simp only[pA,g,cond_true,same d m,j];exact B d y m
   |some css=>
    rw[j] at h;simp only at h;cases H:G f vs css with
    |none=>rw[H] at h;obtain⟨q,E,C,B⟩:=o.loc f _ _ _ _ _ A h;refine⟨q,E,C,λd y m=>?_⟩;simp only[pA,g,cond_true,same d m,j,H];exact B d y m
    |some x=>
     obtain⟨R,O,css'⟩:=x;rw[H] at h;simp only at h;cases u:(AD css.length n&&AD css'.length n&&vs.all (V.flatP n)&&O.flat&&css.all (λcs=>cs.all (V.flatM n))&&css'.all (λcs=>cs.all (V.flatM n))) with
     |false=>rw[u] at h;simp at h
     |true=>
      rw[u] at h;simp only[cond_true,Ai,Ao] at h;obtain⟨rfl,rfl,rfl⟩:=h;refine⟨(AU n).zip (css'.map some),?_,tZ _ _ _,λd y m=>?_⟩;·intro p hp;obtain⟨a,b⟩:=p;exact M _ (Dr hp).1
      ·simp only[pA,g,cond_true,same d m,j,H,u];rw[tZ]
end
end Go.AM
namespace Go.Proofs.YtkinflmjagfapaaDoor
open Go.AM
section
open Go.RowKit
theorem amz(x:Value)(w:World):(callFunc 129 #[x]).run Tryd.prog w=.ok (.value x) w:=by rw[run_callFunc_extern Tryd.func129 (by kernel_rfl) (by kernel_rfl) (by kernel_rfl) (e:=Extern.AbiNoEscape.same) (by kernel_rfl)];rw[Lib.run_noEscape];rfl
set_option maxHeartbeats 1000000 in
theorem auA(b o:Nat)(w:World)(f:w.cell? ⟨b,o,none⟩=some (.pointer (some ⟨b,o,none⟩))):
  Calls Tryd.prog 109 #[.pointer (some ⟨b,o,none⟩)] w λe w'=>e=.returned (.tuple #[])∧w'=w:=by
 obtain⟨j,a,d⟩:∃j,Tryd.prog.info? 122=some j∧j.size=2:=Aq.1 (show (Tryd.prog.info? 122).map (·.size)=some 2 by kernel_rfl)
 go_enter Tryd.func109,Tryd.ntmps109
 go_wp2
 rw[Lib.run_neq_ptr_same w _ Tryd.underlying120 a]
 go_wp2
 go_end0
 exact⟨rfl,rfl⟩
set_option maxHeartbeats 1000000 in
theorem atB(b o E n:Nat)(w:World)(k:w.cell? ⟨b,o,none⟩=some (.pointer none))(a:w.shape? b=some (E,n))(h:o<n)
  (g:liesAt Tryd.prog Tryd.prog.depth E (n / Tryd.prog.cellsOf E) o 122 1=true) (i:w.frozen? ⟨b,o,none⟩=false):
  Calls Tryd.prog 109 #[.pointer (some ⟨b,o,none⟩)] w λe w'=>e=.returned (.tuple #[])∧w'=w.setCell ⟨b,o,none⟩ (.pointer (some ⟨b,o,none⟩)):=by
 obtain⟨j,f,d⟩:∃j,Tryd.prog.info? 122=some j∧j.size=2:=Aq.1 (show (Tryd.prog.info? 122).map (·.size)=some 2 by kernel_rfl)
 go_enter Tryd.func109,Tryd.ntmps109
 go_wp2
 rw[Lib.run_to_unsafe w ⟨b,o,none⟩ Tryd.underlying120 Tryd.underlying155 f (by rw[d];decide) a h];simp only[Result.andThen];rw[Ds]
 go_wp2
 rw[amz];rw[Ds]
 go_wp2
 rw[Lib.run_from_unsafe w ⟨b,o,none⟩ Tryd.underlying155 Tryd.underlying120 f a g];simp only[Result.andThen];rw[Ds]
 go_wp2
 go_end0
 exact⟨rfl,rfl⟩
end
theorem row_cell{cs:List V}{o:Nat}{v:V}(h:cs[o]? =some v)(a:v.one=true):cF cs=false:=by
 cases b:cF cs with
 |false=>rfl
 |true=>
  unfold cF at b;split at b
  ·cases o with
   |zero=>simp at h;subst h;cases a
   |succ o=>simp at h
  ·cases o with
   |zero=>simp at h;subst h;cases a
   |succ o=>simp at h
  ·cases o with
   |zero=>simp at h;subst h;cases a
   |succ o=>simp at h
  ·cases b
theorem map_cell{cs:List V}{o:Nat}{v:V}(h:cs[o]? =some v)(a:v.one=true):kj cs=false:=by
 cases b:kj cs with
 |false=>rfl
 |true=>
  obtain⟨k,es,rfl⟩:=yw b;cases o with
  |zero=>simp at h;subst h;cases a
  |succ o=>simp at h
theorem afS{env:List V}{hp:List ai}{id:Nat}{cs:List V}(h:hp[id]? =some (some cs))(a:cF cs=false)(b:kj cs=false):St.obj {env:=env,hp:=hp} id=some cs:=by
 unfold St.obj;rw[Al,h];simp only[Bk];split;·rename_i e;cases e;simp[cF] at a
 ·rename_i e;cases e;simp[cF] at a
 ·rename_i e;cases e;simp[kj] at b
 ·rename_i e;cases e;simp[cF] at a
 ·rfl
theorem SR.ofHR{g:Gh}{hp:List ai}{w:World}(h:HR g hp w):SR g {env:=[],hp:=hp} w {tmps:= #[],defers:=[]}:=
 ⟨h,⟨rfl,by simp,by simp⟩⟩
theorem amA{α:Type}{l:List α}{o:Nat}{x:α}(h:l[o]? =some x):l.take o++[x]++l.drop (o+1)=l:=by obtain⟨a,rfl⟩:=Ad.1 h;rw[AC,List.singleton_append,<-AK a,List.take_append_drop]
noncomputable def ah9(E n o:Nat):Bool:=liesAt Tryd.prog Tryd.prog.depth E (n / Tryd.prog.cellsOf E) o 122 1
theorem atC{hp:List ai}{id:Nat}{x:ai}(h:hp[id]? =some x):hp.set id x=hp:=by
 apply Db;intro j;rw[Ay];split;·rename_i e;subst e;obtain⟨a,rfl⟩:=Ad.1 h;simp[a]
 ·rfl
theorem avJ{id o E n:Nat}{cs:List V}{hp:List ai}(p:hp[id]? =some (some cs))(j:cs[o]? =some (.bn E n))(H:ah9 E n o=true):
  eO Tryd.prog 109 [.ptr id o] hp (.tup []) hp:=by
 intro w g q J m a D f;match q,a,f with
 |⟨[cv]⟩,a,f=>
  have r:=f 0 (.ptr id o) cv rfl rfl;cases r with
  |ptr _ _ M=>
  obtain⟨b,e,O,y,C⟩:=(m.obj id cs p).row (map_cell j rfl);have h:=row_cell j rfl;obtain⟨rfl,F⟩:=C.low h;obtain⟨rfl,rfl,t⟩:=F.bn o E n j;have L:o<cs.length:=(Ad.1 j).1;have a:=F.len;have d:w.cell? ⟨g.ρ id,o,none⟩=b[o]?:=aT y o;rcases t with t|t
  ·have A:w.shape? (g.ρ id)=some (E,b.size):=by simp[World.shape?,y]
   refine(atB (g.ρ id) o E b.size w (by rw[d,t]) A (by omega) H (by simp[BD,y])).mono ?_;rintro e w' ⟨rfl,rfl⟩;obtain⟨x,G⟩:=(SR.ofHR m).putCells (id:=id) (o:=o) (cs:=cs) (news:=[.bn E b.size]) (us:=[.pointer (some ⟨g.ρ id,o,none⟩)]) (afS p h (map_cell j rfl)) rfl (by simp[V.one]) (by simp;omega) (by
    intro i c u k v;cases i with
    |zero=>simp at k v;subst k v;exact .bn _ _ _
    |succ i=>simp at k) (by
    intro i c u k v;cases i with
    |zero=>simp at k v;subst k v;simp[ap]
    |succ i=>simp at k) (by
    intro i N n' B;cases i with
    |zero=>simp at B;obtain⟨rfl,rfl⟩:=B;exact⟨j,.inr rfl⟩
    |succ i=>simp at B)
   have I:cs.take o++[V.bn E b.size]++cs.drop (o+[V.bn E b.size].length)=cs:=amA j;simp only[St.setObj] at x;rw[I,atC p] at x G;exact⟨_,g,rfl,x.hr,G,.tup [] #[] rfl (by simp),by simp[ap]⟩
  ·refine(auA (g.ρ id) o w (by rw[d,t])).mono ?_;rintro e w' ⟨rfl,rfl⟩;exact⟨_,g,rfl,m,FR.refl _ _ _,.tup [] #[] rfl (by simp),by simp[ap]⟩
 |⟨[]⟩,a,_=>simp at a
 |⟨_::_::_⟩,a,_=>simp at a
def Gcc(f:Nat)(vs:List V)(hp:List ai):Option (Bool×V×List ai):=
 if f=109 then
  match vs with
  | [.ptr id o]=>match hp.getD id none with
    |some cs=>match cs.getD o .undef with
     | .bn E n=>some (ah9 E n o,.tup [],hp)
     |_=>none
    |none=>none
  |_=>none
 else none
theorem ast:ca Tryd.prog Gcc:=by
 intro f vs hp v hp' h;unfold Gcc at h;split at h
 ·rename_i j;subst j;split at h
  ·rename_i id o;split at h
   ·rename_i cs a;split at h
    ·rename_i E n d;simp only[Ai,Ao] at h;obtain⟨e,rfl,rfl⟩:=h;have g:hp[id]? =some (some cs):=by
      rw[Al] at a;cases b:hp[id]? with
      |none=>rw[b] at a;simp at a
      |some x=>rw[b] at a;simpa using a
     have i:cs[o]? =some (.bn E n):=by
      rw[Al] at d;cases b:cs[o]? with
      |none=>rw[b] at d;simp at d
      |some x=>rw[b] at d;simpa using d
     exact avJ g i e
    ·simp at h
   ·simp at h
  ·simp at h
 ·simp at h
theorem aom:cI Gcc [109]:=by
 refine⟨?_,?_⟩
 ·intro f vs hp a;have:f≠109:=by rintro rfl;simp at a
  simp[Gcc,this]
 ·intro f vs hp c v hp' a;simp only[C4,D1,Cl,beq_iff_eq] at a;omega
def kW:IR:=.ret
def kX:IR:=(.seq (.reg [Mv 17 1,Pp (.lens 18 (.t 17)),Mv 4 18,Pp (.mov 5 (.c (.nilif)))] []) kW)
def kY:IR:=(.seq (.reg [Mv 8 0,Mv 9 0,Nk 10 9,Fa 11 1 10,Pp (.ld 12 1 false true (.t 11)),Mv 13 1,Pp (.apps 14 (.tk 12) (.t 13)),Nk 15 8,Fa 16 1 15,Pp (.st none 1 (.t 16) (.tk 14))] []) kX)
def kZ:IR:=(.seq (.reg [Mv 6 0,Pp (.call (some 7) 109 [(.t 6)])] []) kY)
def gS:IR:=(.seq (.reg [Pp (.mov 4 (.c (.int .i64 0))),Pp (.mov 5 (.c (.nilif)))] []) kZ)
def gT:List RV:=[.t 4,.t 5]
theorem avK(base:Nat):(bd Tryd.prog [109] base gS (Tryd.f90.body.getD .skip)&&jQ Tryd.prog gT Tryd.f90.results.toList)=true:=by kernel_rfl
theorem avn{id o E n:Nat}{cs:List V}{hp:List ai}{l s:List UInt8}(b:hp[id]? =some (some cs))(i:cs[o]? =some (.bn E n))(A:ah9 E n o=true)(q:cs[o+1]? =some (.sl .u8 .own l))
  (k:l.length+s.length<=140737488355328):
  callF Gcc 1 19 gT gS [.ptr id o,.str s] hp=some (.tup [.int .i64 (s.length:Int),.nilif],hp.set id (some (cs.set (o+1) (.sl .u8 .own (l++s))))):=by
 have g:id<hp.length:=(Ad.1 b).1;have a:o+1<cs.length:=(Ad.1 q).1;have d:hp.getD id none=some cs:=by simp[An,b]
 have h:∀env,St.obj {env:=env,hp:=hp} id=some cs:=λenv=>afS b (row_cell i rfl) (map_cell i rfl)
 have p:∀env,St.obj {env:=env,hp:=hp.set id (some (cs.set (o+1) (.sl .u8 (.may false) l)))} id=some (cs.set (o+1) (.sl .u8 (.may false) l)):=λenv=>afS (by rw[Bw g]) (row_cell (o:=o) (v:=.bn E n) (by rw[A5 (by omega)];exact i) rfl) (map_cell (o:=o) (v:=.bn E n) (by rw[A5 (by omega)];exact i) rfl)
 have t:cs.getD o .undef=.bn E n:=by simp[An,i]
 have y:cs.getD (o+1) .undef=.sl .u8 .own l:=by simp[An,q]
 have f:Gcc 109 [.ptr id o] hp=some (true,.tup [],hp):=by simp only[Gcc,if_true,d,t,A]
 have u:(cs.drop (o+1)).take 1=[.sl .u8 .own l]:=by
  rw[AK a];have:cs[o+1]=.sl .u8 .own l:=by simpa [Ab a] using q
  simp[this]
 have m:hp[id]=some cs:=by simpa [Ab g] using b
 have w:o+1+1<=cs.length:=a;have x:(cs.drop (o+1)).head?.getD .undef=.sl .u8 .own l:=by rw[List.head?_drop,q];rfl
 have j:l.length+s.length<=pu:=k;have e:(cs.set (o+1) (.sl .u8 (.may false) l)).take (o+1)++V.sl .u8 .own (l++s)::cs.drop (o+1+1)=cs.set (o+1) (.sl .u8 .own (l++s)):=by rw[DC (Ar _),Dd,if_pos a]
 simp[AM.Mv,AM.Pp,AM.Fa,AM.Nk,AM.stepO,AM.Fl.dis,AM.Fl.app,AM.ASrc.fix,AM.callF,AM.run,AM.kseq,AM.fin,AM.resultOf,AM.rvs,AM.RV.ev,kW,kX,kY,kZ,gS,gT,AM.runOps,AM.chk,AM.start,AM.step,AM.St.set,AM.St.get,AM.St.setO,AM.ASrc.ev,AM.ASrc.after,AM.disown,h,p,AM.St.setObj,f,d,u,AM.loaded,AM.noBn,g,m,q,w,x,AM.V.cells,AM.V.one,j,e];rw[Dz (by omega),e]
theorem avL{id o E n:Nat}{cs:List V}{hp:List ai}{l s:List UInt8}(d:hp[id]? =some (some cs))(f:cs[o]? =some (.bn E n))(e:ah9 E n o=true)(g:cs[o+1]? =some (.sl .u8 .own l))
  (b:l.length+s.length<=140737488355328):
  eO Tryd.prog 90 [.ptr id o,.str s] hp (.tup [.int .i64 (s.length:Int),.nilif]) (hp.set id (some (cs.set (o+1) (.sl .u8 .own (l++s))))):=by
 have a:=avK hp.length;simp only[Ac] at a;exact abD ast aom Tryd.func90 (show Tryd.f90.body=some (Tryd.f90.body.getD .skip) by kernel_rfl) a.1 a.2 (by decide) (avn d f e g b)
def lV:IR:=.ret
def lW:IR:=(.seq (.reg [Pp (.mov 4 (.c (.nilif)))] []) lV)
def lX:IR:=(.seq (.reg [Mv 7 0,Mv 8 0,Nk 9 8,Fa 10 1 9,Pp (.ld 11 1 false true (.t 10)),Mv 12 1,Pp (.bsl 13 .u8 [(.t 12)] false),Pp (.app 14 .u8 (.tk 11) (.t 13)),Nk 15 7,Fa 16 1 15,Pp (.st none 1 (.t 16) (.tk 14))] []) lW)
def lY:IR:=(.seq (.reg [Mv 5 0,Pp (.call (some 6) 109 [(.t 5)])] []) lX)
def ju:IR:=(.seq (.reg [Pp (.mov 4 (.c (.nilif)))] []) lY)
def jv:List RV:=[.t 4]
theorem avM(base:Nat):(bd Tryd.prog [109] base ju (Tryd.f88.body.getD .skip)&&jQ Tryd.prog jv Tryd.f88.results.toList)=true:=by kernel_rfl
theorem avo{id o E n:Nat}{cs:List V}{hp:List ai}{l:List UInt8}{c:Int}(b:hp[id]? =some (some cs))(i:cs[o]? =some (.bn E n))(A:ah9 E n o=true)(q:cs[o+1]? =some (.sl .u8 .own l))
  (k:l.length+1<=140737488355328):
  callF Gcc 1 17 jv ju [.ptr id o,.int .u8 c] hp=some (.nilif,hp.set id (some (cs.set (o+1) (.sl .u8 .own (l++[AF c.toNat]))))):=by
 have g:id<hp.length:=(Ad.1 b).1;have a:o+1<cs.length:=(Ad.1 q).1;have d:hp.getD id none=some cs:=by simp[An,b]
 have h:∀env,St.obj {env:=env,hp:=hp} id=some cs:=λenv=>afS b (row_cell i rfl) (map_cell i rfl)
 have p:∀env,St.obj {env:=env,hp:=hp.set id (some (cs.set (o+1) (.sl .u8 (.may false) l)))} id=some (cs.set (o+1) (.sl .u8 (.may false) l)):=λenv=>afS (by rw[Bw g]) (row_cell (o:=o) (v:=.bn E n) (by rw[A5 (by omega)];exact i) rfl) (map_cell (o:=o) (v:=.bn E n) (by rw[A5 (by omega)];exact i) rfl)
 have t:cs.getD o .undef=.bn E n:=by simp[An,i]
 have y:cs.getD (o+1) .undef=.sl .u8 .own l:=by simp[An,q]
 have f:Gcc 109 [.ptr id o] hp=some (true,.tup [],hp):=by simp only[Gcc,if_true,d,t,A]
 have u:(cs.drop (o+1)).take 1=[.sl .u8 .own l]:=by
  rw[AK a];have:cs[o+1]=.sl .u8 .own l:=by simpa [Ab a] using q
  simp[this]
 have m:hp[id]=some cs:=by simpa [Ab g] using b
 have w:o+1+1<=cs.length:=a;have x:(cs.drop (o+1)).head?.getD .undef=.sl .u8 .own l:=by rw[List.head?_drop,q];rfl
 have j:l.length+1<=pu:=k;have e:(cs.set (o+1) (.sl .u8 (.may false) l)).take (o+1)++V.sl .u8 .own (l++[AF c.toNat])::cs.drop (o+1+1)=cs.set (o+1) (.sl .u8 .own (l++[AF c.toNat])):=by rw[DC (Ar _),Dd,if_pos a]
 simp[AM.Mv,AM.Pp,AM.Fa,AM.Nk,AM.stepO,AM.Fl.dis,AM.Fl.app,AM.ASrc.fix,AM.callF,AM.run,AM.kseq,AM.fin,AM.resultOf,AM.rvs,AM.RV.ev,lV,lW,lX,lY,ju,jv,AM.runOps,AM.chk,AM.start,AM.step,AM.St.set,AM.St.get,AM.St.setO,AM.ASrc.ev,AM.ASrc.after,AM.disown,h,p,AM.St.setObj,f,d,u,AM.loaded,AM.noBn,g,m,q,w,x,AM.V.cells,AM.V.one,j,e,AM.decAll,AM.dec,AM.EK.bytes];rw[Dz (by omega),e]
theorem avN{id o E n:Nat}{cs:List V}{hp:List ai}{l:List UInt8}{c:Int}(d:hp[id]? =some (some cs))(f:cs[o]? =some (.bn E n))(e:ah9 E n o=true)(g:cs[o+1]? =some (.sl .u8 .own l))
  (b:l.length+1<=140737488355328):
  eO Tryd.prog 88 [.ptr id o,.int .u8 c] hp .nilif (hp.set id (some (cs.set (o+1) (.sl .u8 .own (l++[AF c.toNat]))))):=by
 have a:=avM hp.length;simp only[Ac] at a;exact abD ast aom Tryd.func88 (show Tryd.f88.body=some (Tryd.f88.body.getD .skip) by kernel_rfl) a.1 a.2 (by decide) (avo d f e g b)
end Go.Proofs.YtkinflmjagfapaaDoor
namespace Go.AM
theorem HR.other{g:Gh}{hp:List ai}{w w':World}(h:HR g hp w)(x:w.heap.size<=w'.heap.size)
  (d:∀b j,b<w.heap.size->w'.cell? ⟨b,j,none⟩=w.cell? ⟨b,j,none⟩)
  (q:∀(id:Nat) cs,hp[id]? =some (some cs)->w'.heap[g.ρ id]? =w.heap[g.ρ id]?)
  (t:∀(id j:Nat) cs c cv,hp[id]? =some (some cs)->(cellsOf cs)[j]? =some c->ap g w (.cell id j) c cv->ap g w' (.cell id j) c cv):
  HR g hp w'∧Up g.I g.ρ hp.length w g.I g.ρ hp.length w':=by
 have k:∀b j,g.I b j->b<w.heap.size:=by
  intro b j i;have:=(h.exI b j i).1;rcases AH b w.heap.size with p|p;·exact p
  ·simp[Bv,Cd p] at this
 have u:Up g.I g.ρ hp.length w g.I g.ρ hp.length w':=⟨λ_ _ h=>h,λb j i=>d b j (k b j i),λ_ _=>rfl,Ar _⟩
 refine⟨⟨?_,h.apart,h.notI,h.notO,λb j i=>⟨by rw[d b j (k b j i)];exact(h.exI b j i).1,λz _=>(show False from z).elim⟩,λb o v=>AE (h.oLt b o v) x⟩,u⟩;intro id cs f;refine(h.obj id cs f).keep (q id cs f) λy e A _ a=>?_
 exact⟨a.len,a.plain,a.typed,a.cold,a.one,λj c cv d m=>(a.rel j c cv d m).up u,λj c cv d m=>t id j cs c cv f d (a.own j c cv d m),a.bn⟩
theorem HR.disownCell{g:Gh}{hp:List ai}{w:World}(h:HR g hp w){id j:Nat}{cs:List V}{k:EK}{o:Fl}{xs:List (Ty k)}(q:hp[id]? =some (some cs))(u:cs[j]? =some (.sl k o xs)):
  HR g (hp.set id (some (cs.set j (.sl k (.may false) xs)))) w:=by
 have I:id<hp.length:=(Ad.1 q).1;have H:j<cs.length:=(Ad.1 u).1;have key:∀(i:Nat) c,(hp.set id (some (cs.set j (.sl k (.may false) xs))))[i]? =some (some c)->∃f,hp[i]? =some (some f)∧((i≠id∧c=f)∨(i=id∧f=cs∧c=cs.set j (.sl k (.may false) xs))):=by
  intro i c b;rw[Ay] at b;split at b;·rename_i e;subst e;exact⟨cs,q,.inr ⟨rfl,rfl,by simpa using b.symm⟩⟩
  ·rename_i e;exact⟨c,b,.inl ⟨λh=>e h.symm,rfl⟩⟩
 refine⟨?_,?_,?_,?_,h.exI,h.oLt⟩
 ·intro i c b;obtain⟨f,p,r⟩:=key i c b;rcases r with⟨t,rfl⟩|⟨rfl,rfl,rfl⟩
  ·rw[AO];exact h.obj i c p
  ·obtain⟨F,e,J,G,B⟩:=(h.obj i f p).row (Go.Proofs.YtkinflmjagfapaaDoor.map_cell u rfl);obtain⟨rfl,m⟩:=B.low (Go.Proofs.YtkinflmjagfapaaDoor.row_cell u rfl);refine .ofRow0 G ⟨by simpa using m.len,?_,?_,?_,?_⟩
   ·intro c a;rcases D6 a with y|y;·exact m.one c y
    ·subst y;rfl
   ·intro i c cv a v;rw[AO];rw[Ay] at a;split at a;·rename_i e;subst e;simp only[Ai] at a;subst a;exact(m.rel j _ cv u v).own (by simp) (by simp)
    ·exact m.rel i c cv a v
   ·intro i c cv a v;rw[Ay] at a;split at a;·rename_i e;subst e;simp only[Ai] at a;subst a;simp[ap]
    ·exact m.own i c cv a v
   ·intro i E n a;rw[Ay] at a;split at a;·rename_i e;subst e;simp at a
    ·exact m.bn i E n a
 ·intro i C c f b x t;obtain⟨d,hd,_⟩:=key i c b;obtain⟨D,A,_⟩:=key C f x;exact h.apart i C d D hd A t
 ·intro i c b;obtain⟨d,hd,_⟩:=key i c b;exact h.notI i d hd
 ·intro i c b;obtain⟨d,hd,_⟩:=key i c b;exact h.notO i d hd
end Go.AM
namespace Go.Proofs.YtkinflmjagfapaaDoor
open Go.AM
section
open Go.AM Go.RowKit
theorem asu{P:Program}{e:TypeId}(f:P.cellsOf e=1)(a b n:Nat)(d:b+n<=a):liesAt P P.depth e a b e n=true:=by have hd:P.depth=(2*(P.types.size+Made.depth)+1)+1:=rfl;rw[hd];simp only[liesAt,A7];left;rw[hd];simp[rowAt,f,d,sameLayout,Nat.mod_one]
theorem aeQ{P:Program}(w:World)(o it ty e:TypeId)(hp:P.underlying o=some (.pointer e))(p:P.cellsOf e=1)(g a cells:Nat)(k:w.shape? g=some (e,cells))(l:List UInt8)(v:l≠[])(u:a+l.length<=cells)(t:l.length<=9223372036854775807)
  (d:∀j x,l[j]? =some x->w.cell? ((⟨g,a,none⟩:Addr).add j)=some (.int .u8 x.toNat)):
  (Dm #[o,it] ty #[.pointer (some ⟨g,a,none⟩),.int .i64 l.length]).run P w=.ok (.string ⟨l.toArray⟩) (w.freeze ⟨g,a,none⟩ l.length):=by
 have q:l.length≠0:=by simpa using v
 have m:=Lib.run_loadBytes (P:=P) w l ⟨g,a,none⟩ .empty d;have b:=asu (P:=P) p (cells / P.cellsOf e) a l.length (by rw[p];simpa using u);have h:¬(9223372036854775807:Int)<(l.length:Int):=by omega
 have f:IntKind.i64.max=9223372036854775807:=rfl;have i:¬(l.length:Int)<0:=by omega
 show (asInt (.int .i64 l.length) >>=_:Sem Value).run P w=_;simp[asInt,asIntOf,f,h,i,q,variablesAt,k,elemOf,run_underlying hp,b,m]
set_option maxHeartbeats 2000000 in
theorem auB(b o n:Nat)(v p:Value)(s:ByteArray)(w w':World)(j:w.drew.cell? ⟨b,o+1,none⟩=some v)(f:w'.cell? ⟨b,o+1,none⟩=some v)(h:∃d cap,v=.slice d n cap)
  (g:(D9 #[22] 141 #[v]).run Tryd.prog w.drew=.ok p w')
  (a:World) (i:(Dm #[141,3] 9 #[p,.int .i64 n]).run Tryd.prog w'=.ok (.string s) a):
  Calls Tryd.prog 91 #[.pointer (some ⟨b,o,none⟩)] w λe x=>e=.returned (.string s)∧x=a:=by
 obtain⟨d,cap,rfl⟩:=h
 go_enter Tryd.func91,Tryd.ntmps91
 go_wp2
 go_region
 all_goals (go_wp2;go_ret;exact⟨rfl,rfl⟩)
theorem aon:Tryd.prog.underlying 141=some (.pointer (gM Tryd.prog)):=by kernel_rfl
theorem are:Tryd.prog.cellsOf (gM Tryd.prog)=1:=by kernel_rfl
theorem apH(w:World)(a:Addr)(n b:Nat)(h:b≠a.block):(w.freeze a n).heap[b]? =w.heap[b]?:=by
 unfold World.freeze;split;·rfl
 ·rw[Cj,if_neg (λe=>h e.symm)]
theorem apI(w:World)(a:Addr)(n b j:Nat):(w.freeze a n).cell? ⟨b,j,none⟩=w.cell? ⟨b,j,none⟩:=by
 unfold World.freeze;by_cases d:n=0;·simp only[d,if_true]
 ·simp only[d,if_false,Bv,Cj];by_cases e:a.block=b
  ·subst e;simp only[if_true];cases f:w.heap[a.block]? with
   |none=>rfl
   |some o=>cases o<;>rfl
  ·simp only[e,if_false]
theorem apJ(w:World)(a:Addr)(n:Nat):(w.freeze a n).heap.size=w.heap.size:=by unfold World.freeze;split<;>simp
theorem aaZ(w:World)(a:Addr)(n:Nat):(w.freeze a n).os=w.os∧(w.freeze a n).tape=w.tape∧(w.freeze a n).output=w.output:=by unfold World.freeze;split<;>simp
theorem avO{id o:Nat}{cs:List V}{hp:List ai}{l:List UInt8}(E:hp[id]? =some (some cs))(J:cs[o+1]? =some (.sl .u8 .own l)):
  eO Tryd.prog 91 [.ptr id o] hp (.str l) (hp.set id (some (cs.set (o+1) (.sl .u8 (.may false) l)))):=by
 intro w g P cc u m b3 v;match P,m,v with
 |⟨[cv]⟩,m,v=>
  have r:=v 0 (.ptr id o) cv rfl rfl;cases r with
  |ptr _ _ br=>
  obtain⟨S,e,fz,h1,b2⟩:=(u.obj id cs E).row (map_cell J rfl);obtain⟨rfl,h2⟩:=b2.low (row_cell J rfl);have cy:o+1<S.size:=by have:=(Ad.1 J).1;rw[h2.len] at this;exact this
  have d:w.cell? ⟨g.ρ id,o+1,none⟩=S[o+1]?:=aT h1 (o+1);obtain⟨D,M⟩:∃D,S[o+1]? =some D:=⟨_,As cy⟩
  have hv:=h2.rel (o+1) _ D J M;have ho:=h2.own (o+1) _ D J M;rw[M] at d;have ds:=(u.disownCell E J).drew;have N:(hp.set id (some (cs.set (o+1) (.sl .u8 (.may false) l)))).length=hp.length:=by simp
  have L:∀(i:Nat) c,(hp.set id (some (cs.set (o+1) (.sl .u8 (.may false) l))))[i]? =some (some c)->∃c',hp[i]? =some (some c'):=by
   intro i c B;rw[Ay] at B;split at B;·rename_i e;subst e;exact⟨cs,E⟩
   ·exact⟨c,B⟩
  have fin:∀(a:World),(∀b j,b<w.heap.size->a.cell? ⟨b,j,none⟩=w.cell? ⟨b,j,none⟩)->w.heap.size<=a.heap.size->a.os=w.os->a.tape=w.tape->a.output=w.output->
    (∀b,b<w.heap.size->(∀t len cap,D=.slice (some t) len cap->len≠0->b≠t.block)->a.heap[b]? =w.heap[b]?)->
    HR g (hp.set id (some (cs.set (o+1) (.sl .u8 (.may false) l)))) a∧FR g hp w g (hp.set id (some (cs.set (o+1) (.sl .u8 (.may false) l)))) a:=by
   intro a e1 e2 e3 e4 e5 e6;have hO:∀t len cap,D=.slice (some t) len cap->g.O t.block=some (.cell id (o+1)):=by intro t len cap e;subst e;exact ho.1
   obtain⟨q1,q2⟩:=HR.other (w':=a) (u.disownCell E J) e2 e1 (by
    intro i c B;obtain⟨c',al⟩:=L i c B;have y:g.ρ i<w.heap.size:=(u.obj i c' al).lt;refine e6 _ y ?_;intro t len cap X _ q;have:=hO t len cap X;rw[<-q,u.notO i c' al] at this;cases this) (by
    intro i j en c cv B W ar;by_cases a1:i=id∧j=o+1;·obtain⟨rfl,rfl⟩:=a1;rw[Ay,if_pos rfl,if_pos br] at B;simp only[Ai] at B;subst B;have a5:o+1<cs.length:=(Ad.1 J).1;have an:(cs.set (o+1) (V.sl .u8 (.may false) l))[o+1]? =some (.sl .u8 (.may false) l):=Bw a5;rw[eM (row_cell an rfl),an] at W;simp only[Ai] at W;subst W;simp[ap]
    ·refine cH ar rfl (λb j' hI=>⟨hI,e1 b j' ?_⟩) (λb A=>⟨A,e6 b (u.oLt b _ A) ?_,λ_ h=>h⟩)
     ·have hs:=(u.exI b j' hI).1;rcases AH b w.heap.size with h'|h';·exact h'
      ·simp[Bv,Cd h'] at hs
     ·intro t len cap X _ q;have:=hO t len cap X;rw[<-q,A] at this;simp only[Ai,Occ.cell.injEq] at this;exact a1 this)
   refine⟨q1,rfl,e3,e4,e5,e2,?_,by rw[N] at q2 ⊢;exact q2,λ_ _ _ _ _ h=>h,λ_ _ _ h=>h,?_⟩;·intro b hb _ A;refine e6 b hb ?_;intro t len cap X _ q;have:=hO t len cap X;rw[<-q,A] at this;cases this
   ·intro i c B;exact .inl (L i c B)
  have G:∀(p:Value)(w' a:World)(n:Nat),l.length=n->(∃t cap,D=.slice t n cap)->w'.cell? ⟨g.ρ id,o+1,none⟩=some D->
    (D9 #[22] 141 #[D]).run Tryd.prog w.drew=.ok p w'->(Dm #[141,3] 9 #[p,.int .i64 n]).run Tryd.prog w'=.ok (.string ⟨l.toArray⟩) a->
    HR g (hp.set id (some (cs.set (o+1) (.sl .u8 (.may false) l)))) a∧FR g hp w g (hp.set id (some (cs.set (o+1) (.sl .u8 (.may false) l)))) a->l.length<=dc->
    Calls Tryd.prog 91 ⟨[.pointer (some ⟨g.ρ id,o,none⟩)]⟩ w λe w'=>∃cv Z,e=.returned cv∧HR Z (hp.set id (some (cs.set (o+1) (.sl .u8 (.may false) l)))) w'∧FR g hp w Z (hp.set id (some (cs.set (o+1) (.sl .u8 (.may false) l)))) w'∧VRel Z.I Z.ρ (hp.set id (some (cs.set (o+1) (.sl .u8 (.may false) l)))).length w' (.str l) cv∧ap Z w' .res (.str l) cv:=by
   intro p w' a n hn cx b0 a9 bx H bs;refine(auB (g.ρ id) o n D p ⟨l.toArray⟩ w w' d b0 cx a9 a bx).mono ?_;rintro e x ⟨rfl,rfl⟩;exact⟨_,g,rfl,H.1,H.2,.str _ _ (by simp) (by simpa [ByteArray.size] using bs),by simp[ap]⟩
  cases hv with
  |sle _ _ t q=>exact absurd rfl q
  |sln k o=>refine G (.pointer none) w.drew w.drew 0 rfl ⟨_,_,rfl⟩ d rfl (CW _ _ _ _ _) (fin _ (λ_ _ _=>rfl) (Ar _) rfl rfl rfl (λ_ _ _=>rfl)) (by simp)
  |sl k oo xs b Q len cap hl er hm hf f hI hw cd=>
   obtain⟨u1,⟨C,e',fz,u2,u3,u4⟩,u5⟩:=ho;have b5:e'=gM Tryd.prog:=(u4 rfl).trans cc.1;have ae:w.drew.shape? b=some (gM Tryd.prog,C.size):=by have:w.drew.heap[b]? =some (.cells C e' fz):=u2;simp[World.shape?,this,b5]
   have bn:EK.u8.sz=1:=rfl;simp only[bn,CS] at u3 u5 hw hI;subst hl;by_cases h0:l=[]
   ·subst h0;by_cases Y:cap=0
    ·subst Y;have f:=kG w.drew (.view ⟨b,Q,none⟩ (gM Tryd.prog));refine G _ _ _ 0 rfl ⟨_,_,rfl⟩ ?_ (Lib.run_unsafeSliceData_zero w.drew _ _ (gM Tryd.prog) aon ⟨b,Q,none⟩ 0 _ ae) (CW _ _ _ _ _) (fin _ ?_ ?_ rfl rfl rfl ?_) (by simp);·have y:g.ρ id<w.heap.size:=(AQ.1 h1).1;have:=f.2.1 (g.ρ id) y;unfold Bv at d ⊢;rw[this];exact d
     ·intro b' j F;have:=f.2.1 b' F;unfold Bv;rw[this];rfl
     ·rw[f.1];exact Nat.le_succ _
     ·intro b' F _;exact f.2.1 b' F
    ·refine G _ w.drew _ 0 rfl ⟨_,_,rfl⟩ d (DL _ _ _ _ _ _ Y) (CW _ _ _ _ _) (fin _ (λ_ _ _=>rfl) (Ar _) rfl rfl rfl (λ_ _ _=>rfl)) (by simp)
   ·have R:l.length≠0:=by simpa using h0
    refine G _ w.drew _ l.length rfl ⟨_,_,rfl⟩ d (DL _ _ _ _ _ _ (by omega)) (aeQ _ _ _ _ _ aon are b Q C.size ae l h0 (by omega) (by unfold dc at hm;omega) ?_) (fin _ ?_ ?_ ?_ ?_ ?_ ?_) (by omega)
    ·intro j x W;have hx:=hw j x 0 W (by simp[enc]);have hr:=cd j x 0 _ W (by simp[enc];rfl);generalize f j 0=z at hx hr;cases hr;by_cases a0:j=0;·subst a0;simpa [Addr.add] using hx
     ·simpa [Addr.add,a0] using hx
    ·intro b j _;rw[apI];rfl
    ·rw[apJ];exact Ar _
    ·exact(aaZ _ _ _).1
    ·exact(aaZ _ _ _).2.1
    ·exact(aaZ _ _ _).2.2
    ·intro b' F q;rw[apH _ _ _ _ (q _ _ _ rfl R)];rfl
 |⟨[]⟩,m,_=>simp at m
 |⟨_::_::_⟩,m,_=>simp at m
end
end Go.Proofs.YtkinflmjagfapaaDoor
end
