import Derived.Test.YtdpajabhmmmjoaaChecked
import Derived.ChangeArms
import Derived.ChangeSlices
import Derived.WideShapes
import Derived.WideKeyArgs
import Derived.KernelRfl
import Derived.Test.YtdpajabhmmmjoaaZ02
import Derived.Test.YtdpajabhmmmjoaaZ03
import Derived.Test.YtdpajabhmmmjoaaZ04
open Array renaming getElem?_eq_getElem→Ag,getD_eq_getD_getElem?→CU
open Bool renaming and_eq_true→Aa,rec→Ar,not_eq_true'→AK,or_eq_true→AQ,eq_iff_iff→A2,false_eq_true→BO,cond_eq_ite→Cq,ite_eq_true_distrib→C5
open Go.IntKind renaming signed→Bh,bits→Bu,max→BR,min→Cb
open Go.World renaming block_lt_of_cell?→BP,cell?→Cc
open Int renaming toNat→AC,tmod_eq_emod_of_nonneg→B4,tmod→B6,lt_or_le→C7
open List renaming getElem?_eq_getElem→Ac,getElem?_eq_some_iff→Ad,getElem?_append_right→Aj,all_eq_true→Ak,getD_eq_getElem?_getD→Al,getElem?_append_left→Am,length→An,mem_of_getElem?→Ap,mem_singleton→Aq,getD→As,getElem?_map→Au,mem_map→Av,length_cons→Ay,mem_append→AB,range→AE,map_cons→AI,map_congr_left→AP,mem_cons→AT,length_map→AU,getElem?_cons_succ→A5,mem_range→A6,append_assoc→Be,getElem_mem→Bf,getElem?_cons_zero→Bl,mem_append_left→Bp,range'→Bq,rec→BC,range'_succ→BQ,take_of_length_le→B1,length_take→B5,mem_append_right→B8,any_eq_true→Co,map_map→Cu,map_append→Cy,nil_append→C3,take→Dy,drop→Dz,length_nil→DO,take_add_one→Ef
open List.cons renaming injEq→Cw
open Nat renaming beq→Af,le_refl→Ao,zero_add→Aw,eq_of_beq_eq_true→AA,lt_or_ge→AG,ble→AO,blt→AV,succ→Bk,sub→BV,add_zero→Cv,mod_lt→CB,add→CH
open Option renaming map_eq_some_iff→Ah,isSome_iff_exists→A0,getD_some→Bw,rec→Cg,bind_eq_some_iff→Ck
open Option.some renaming injEq→Ab,inj→Ai
open Prod.mk renaming injEq→Ae
open UInt8 renaming ofNat→BX,toNat_inj→DG
set_option linter.all false
set_option maxRecDepth 100000
noncomputable section
namespace Go.DM
open Go.AM
section
open Go.RowKit
def LL:Nat:=100000
structure KR where
 l:List GOp
 run:Rn
 ok:∀Γ K e n t,run Γ K e n t=bP Γ l (up K) ⟨e,⟨n,t⟩⟩
def c0:Rn:=λ_ K e n t=>K e n t
def vQ:KR:=⟨[],c0,λ_ _ _ _ _=>rfl⟩
def c2(f r:Rn):Rn:=λΓ K=>f Γ (r Γ K)
def m2(f:Nat->Nat->KK->Env->Tr Obj->Res)(r:Rn):Rn:=λΓ K e n t=>im (Bk n) λm=>f n m (r Γ K) e t
theorem afJ{r:KR}{Γ:Sp}{K:KK}:up (r.run Γ K)=bP Γ r.l (up K):=by funext s;exact r.ok Γ K s.env s.hp.n s.hp.t
theorem aiQ(x:KOp)(r:KR)(Γ:Sp)(K:KK)(e:Env)(n:Nat)(t:Tr Obj):c2 x.run r.run Γ K e n t=bP Γ (x.g::r.l) (up K) ⟨e,⟨n,t⟩⟩:=by simp only[c2,x.ok,bP,x.nm,cond_false,fb,afJ]
def kop(x:KOp)(r:KR):KR:=⟨x.g::r.l,c2 x.run r.run,aiQ x r⟩
theorem aiR(x:KMk)(r:KR)(Γ:Sp)(K:KK)(e:Env)(n:Nat)(t:Tr Obj):m2 x.run r.run Γ K e n t=bP Γ (x.g::r.l) (up K) ⟨e,⟨n,t⟩⟩:=by simp only[m2,e9,x.ok Γ _ _ 0 n,bP,x.nm,cond_true,afJ]
def kmk(x:KMk)(r:KR):KR:=⟨x.g::r.l,m2 x.run r.run,aiR x r⟩
abbrev Wn:=Sp->(Ex->KK)->KK
structure KC where
 c:IRc
 run:Wn
 ok:∀Γ K e n t,run Γ K e n t=DM.run Γ LL c (λx=>up (K x)) ⟨e,⟨n,t⟩⟩
def qC(r:Rn):Wn:=λΓ K=>r Γ (K .normal)
def ag7(c:IRc):Wn:=λΓ K e n t=>DM.run Γ LL c (λx=>up (K x)) ⟨e,⟨n,t⟩⟩
def afK:Wn:=λ_ K=>K .normal
def afL(i:Nat):Wn:=λ_ K=>K (.exit i)
def ag8:Wn:=λ_ K=>K .ret
def vR(r:KR):KC:=⟨.reg r.l,qC r.run,λΓ K e n t=>r.ok Γ (K .normal) e n t⟩
def ajJ:KC:=⟨.skip,afK,λ_ _ _ _ _=>rfl⟩
def ajK(i:Nat):KC:=⟨.exit i,afL i,λ_ _ _ _ _=>rfl⟩
def aj0:KC:=⟨.ret,ag8,λ_ _ _ _ _=>rfl⟩
def exR(a:KK)(b:Nat->KK)(c:KK):Ex->KK:= @Ex.rec (λ_=>KK) a b c
def mK(a b:Wn):Wn:=λΓ K=>a Γ (exR (b Γ K) (λi=>K (.exit i)) (K .ret))
theorem aiS(a b:KC)(Γ:Sp)(K:Ex->KK)(e:Env)(n:Nat)(t:Tr Obj):mK a.run b.run Γ K e n t=DM.run Γ LL (.seq a.c b.c) (λx=>up (K x)) ⟨e,⟨n,t⟩⟩:=by
 simp only[mK,a.ok,run]
 congr 1
 funext x s;cases x with
 |normal=>exact b.ok Γ K s.env s.hp.n s.hp.t
 |exit i=>rfl
 |ret=>rfl
def sI(a b:KC):KC:=⟨.seq a.c b.c,mK a.run b.run,aiS a b⟩
def yV(X:Gt)(a b:Wn):Wn:=λΓ K e n t=>X e λv=>ait v (a Γ K e n t) (b Γ K e n t)
theorem ahE(x:aw)(a b:KC)(Γ:Sp)(K:Ex->KK)(e:Env)(n:Nat)(t:Tr Obj):yV x.ev a.run b.run Γ K e n t=DM.run Γ LL (.cond x.s a.c b.c) (λx=>up (K x)) ⟨e,⟨n,t⟩⟩:=by
 simp only[yV,ahB,x.ok,a.ok,b.ok,run];show _=match x.s.ev e.get with| .bool t=>_|_=>none
 cases x.s.ev e.get<;>rfl
def ajL(x:aw)(a b:KC):KC:=⟨.cond x.s a.c b.c,yV x.ev a.run b.run,ahE x a b⟩
def tn(i:Nat)(a:Wn):Wn:=λΓ K=>a Γ (exR (K .normal) (λj=>Ar (motive:=λ_=>KK) (K (.exit j)) (K .normal) (Af j i)) (K .ret))
theorem agM(i:Nat)(a:KC)(Γ:Sp)(K:Ex->KK)(e:Env)(n:Nat)(t:Tr Obj):tn i a.run Γ K e n t=DM.run Γ LL (.block i a.c) (λx=>up (K x)) ⟨e,⟨n,t⟩⟩:=by
 simp only[tn,a.ok,run]
 congr 1
 funext x s;cases x with
 |normal=>rfl
 |exit j=>simp only[up,exR,bk,bu];cases Af j i<;>rfl
 |ret=>rfl
def afM(i:Nat)(a:KC):KC:=⟨.block i a.c,tn i a.run,agM i a⟩
def aeN(a:Wn)(Γ:Sp)(K:Ex->KK):Nat->KK:= @Nat.rec (λ_=>KK) (λ_ _ _=>none) (λ_ b=>a Γ (exR b (λi=>K (.exit i)) (K .ret)))
def acR(a:Wn):Wn:=λΓ K=>aeN a Γ K LL
theorem acS(a:KC)(Γ:Sp)(K:Ex->KK):∀(L:Nat)(s:St),aeN a.run Γ K L s.env s.hp.n s.hp.t=bC L (λb s=>DM.run Γ LL a.c (de b λx=>up (K x)) s) s
 |0,s=>rfl
 |L+1,s=>by
  show a.run Γ (exR (aeN a.run Γ K L) (λi=>K (.exit i)) (K .ret)) s.env s.hp.n s.hp.t=DM.run Γ LL a.c _ s;rw[a.ok]
  congr 1
  funext x s;cases x with
  |normal=>exact acS a Γ K L s
  |exit i=>rfl
  |ret=>rfl
theorem ahF(a:KC)(Γ:Sp)(K:Ex->KK)(e:Env)(n:Nat)(t:Tr Obj):acR a.run Γ K e n t=DM.run Γ LL (.loop a.c) (λx=>up (K x)) ⟨e,⟨n,t⟩⟩:=by simp only[run];exact acS a Γ K LL ⟨e,⟨n,t⟩⟩
def ajM(a:KC):KC:=⟨.loop a.c,acR a.run,ahF a⟩
def IOp.calm:IOp->Bool
 | .mov _| .pick .. | .bin .. | .un .. | .cvi .. | .cvs _| .b2s _| .i2s _| .len .. | .idx .. | .ixa .. | .ixp .. | .subs .. | .subl .. | .bld .. | .fld .. | .fad .. | .ld .. | .ext .. | .nck _| .mx .. | .mkf .. | .lkp .. | .eq .. =>true
 |_=>false
theorem agN{o:IOp}(a:o.calm=true){at_:Nat}{E:Nat->D}{H:Nat->Option Obj}{v:D}{ws:List (Nat×Option Obj)}(h:eff at_ E H o=some (v,ws)):ws=[]:=by
 cases o<;>first|(exfalso;simp[IOp.calm] at a;done)|skip
 all_goals simp only[eff,xv,vA,wc] at h
 all_goals repeat' split at h
 all_goals (try simp only[aI,Ah,Ab,Ae,reduceCtorEq,and_false,exists_const] at h)
 all_goals first|contradiction|exact h.2.symm|exact h.2.2.symm|(obtain⟨_,_,_,h⟩:=h;exact h.symm)|(obtain⟨_,_,h⟩:=h;exact h.symm)|(obtain⟨_,_,_,_,h⟩:=h;exact h.symm)|skip
def IOp.still:IOp->Bool
 | .mov _| .pick .. | .bin .. | .un .. | .cvi .. | .cvs _| .i2s _| .len .. | .idx .. | .ixa .. | .ixp .. | .subs .. | .subl .. | .bld .. | .fld .. | .fad .. | .ext .. | .nck _| .mx .. | .mkf .. | .eq .. =>true
 |_=>false
theorem uk{o:IOp}(h:o.still=true):o.calm=true:=by cases o<;>first|rfl|simp[IOp.still] at h
theorem adm{o:IOp}(h:o.still=true)(E:Nat->D):jj E o=[]:=by cases o<;>first|rfl|simp[IOp.still] at h
theorem aaD{o:IOp}(h:o.calm=true):o.isCall=false:=by cases o<;>first|rfl|simp[IOp.calm] at h
theorem wU{o:IOp}(h:o.calm=true)(at_:Nat)(E:Nat->D)(H:Nat->Option Obj):kS at_ E H o=[]:=by
 unfold kS;split;·rename_i v ws a;rw[agN h a];rfl
 ·rfl
def acT(x:GOp)(t:Rec):Prop:=(x.o.calm=true->t.cl=false∧t.W=[])∧(x.o.still=true->t.R=[])
theorem aeO(at_ n0:Nat)(a:List Nat)(x:GOp)(s s':St):acT x (oM at_ n0 a x s s'):=by
 unfold oM;refine⟨λh=>?_,λh=>?_⟩
 ·split;·rw[aaD h];exact⟨rfl,wU h _ _ _⟩
  ·exact⟨rfl,rfl⟩
 ·split;·rw[aaD (uk h)];exact adm h _
  ·rfl
def aeP(a b:GOp):Bool:=a.o.still||b.o.still||(a.o.calm&&b.o.calm)
theorem ahG{a b:GOp}{r t:Rec}(h:aeP a b=true)(f:acT a r)(i:acT b t):oN r t=true:=by
 simp only[aeP,AQ,Aa] at h;rcases h with(h|h)|⟨c,e⟩
 ·obtain⟨c,e⟩:=f.1 (uk h);have d:=f.2 h;unfold oN;cases g:t.cl<;>simp[c,e,d]
 ·obtain⟨c,e⟩:=i.1 (uk h);have d:=i.2 h;unfold oN;cases g:r.cl<;>simp[c,e,d,mh]
 ·obtain⟨d,g⟩:=f.1 c;obtain⟨k,j⟩:=i.1 e;unfold oN;simp[d,g,k,j,mh]
def aiT:Option Nat->Option Nat->Bool:= @Option.rec Nat (λ_=>Option Nat->Bool) (@Option.rec Nat (λ_=>Bool) true (λ_=>false)) (λa=> @Option.rec Nat (λ_=>Bool) false (λb=>Af a b))
def acU:D->D->Bool:= @D.rec (λ_=>D->Bool) (λ_=>Unit) (@D.rec (λ_=>Bool) (λ_=>Unit) (true) (λ_=>false) (λ_ _=>false) (λ_=>false) (false) (λ_ _=>false) (false) (false) (λ_ _ _ _ _=>false) (λ_ _=>false) (λ_ _=>false) (λ_ _ _=>false) (false) (false) (λ_=>false) (false) (λ_ _=>false) () (λ_ _ _ _=>()))
 (λb=> @D.rec (λ_=>Bool) (λ_=>Unit) (false) (λh=>(Ar (motive:=λ_=>Bool) (zY h) h b)) (λ_ _=>false) (λ_=>false) (false) (λ_ _=>false) (false) (false) (λ_ _ _ _ _=>false) (λ_ _=>false) (λ_ _=>false) (λ_ _ _=>false) (false) (false) (λ_=>false) (false) (λ_ _=>false) () (λ_ _ _ _=>()))
 (λk m=> @D.rec (λ_=>Bool) (λ_=>Unit) (false) (λ_=>false) (λk1 u=>(Ar (motive:=λ_=>Bool) false (eqR m u) (Af (kn k) (kn k1)))) (λ_=>false) (false) (λ_ _=>false) (false) (false) (λ_ _ _ _ _=>false) (λ_ _=>false) (λ_ _=>false) (λ_ _ _=>false) (false) (false) (λ_=>false) (false) (λ_ _=>false) () (λ_ _ _ _=>()))
 (λl=> @D.rec (λ_=>Bool) (λ_=>Unit) (false) (λ_=>false) (λ_ _=>false) (λe=>(agC l e)) (false) (λ_ _=>false) (false) (false) (λ_ _ _ _ _=>false) (λ_ _=>false) (λ_ _=>false) (λ_ _ _=>false) (false) (false) (λ_=>false) (false) (λ_ _=>false) () (λ_ _ _ _=>()))
 (@D.rec (λ_=>Bool) (λ_=>Unit) (false) (λ_=>false) (λ_ _=>false) (λ_=>false) (true) (λ_ _=>false) (false) (false) (λ_ _ _ _ _=>false) (λ_ _=>false) (λ_ _=>false) (λ_ _ _=>false) (false) (false) (λ_=>false) (false) (λ_ _=>false) () (λ_ _ _ _=>()))
 (λi j=> @D.rec (λ_=>Bool) (λ_=>Unit) (false) (λ_=>false) (λ_ _=>false) (λ_=>false) (false) (λg q=>(Ar (motive:=λ_=>Bool) false (Af j q) (Af i g))) (false) (false) (λ_ _ _ _ _=>false) (λ_ _=>false) (λ_ _=>false) (λ_ _ _=>false) (false) (false) (λ_=>false) (false) (λ_ _=>false) () (λ_ _ _ _=>()))
 (@D.rec (λ_=>Bool) (λ_=>Unit) (false) (λ_=>false) (λ_ _=>false) (λ_=>false) (false) (λ_ _=>false) (true) (false) (λ_ _ _ _ _=>false) (λ_ _=>false) (λ_ _=>false) (λ_ _ _=>false) (false) (false) (λ_=>false) (false) (λ_ _=>false) () (λ_ _ _ _=>()))
 (@D.rec (λ_=>Bool) (λ_=>Unit) (false) (λ_=>false) (λ_ _=>false) (λ_=>false) (false) (λ_ _=>false) (false) (true) (λ_ _ _ _ _=>false) (λ_ _=>false) (λ_ _=>false) (λ_ _ _=>false) (false) (false) (λ_=>false) (false) (λ_ _=>false) () (λ_ _ _ _=>()))
 (λa b c d z=> @D.rec (λ_=>Bool) (λ_=>Unit) (false) (λ_=>false) (λ_ _=>false) (λ_=>false) (false) (λ_ _=>false) (false) (false) (λt h v p o=>(Ar (motive:=λ_=>Bool) false (Ar (motive:=λ_=>Bool) false (Ar (motive:=λ_=>Bool) false (Ar (motive:=λ_=>Bool) false (aiT z o) (Af d p)) (Af c v)) (Af b h)) (Af a t))) (λ_ _=>false) (λ_ _=>false) (λ_ _ _=>false) (false) (false) (λ_=>false) (false) (λ_ _=>false) () (λ_ _ _ _=>()))
 (λl _=> @D.rec (λ_=>Bool) (λ_=>Unit) (false) (λ_=>false) (λ_ _=>false) (λ_=>false) (false) (λ_ _=>false) (false) (false) (λ_ _ _ _ _=>false) (λe _=>(oL l e)) (λ_ _=>false) (λ_ _ _=>false) (false) (false) (λ_=>false) (false) (λ_ _=>false) () (λ_ _ _ _=>()))
 (λl _=> @D.rec (λ_=>Bool) (λ_=>Unit) (false) (λ_=>false) (λ_ _=>false) (λ_=>false) (false) (λ_ _=>false) (false) (false) (λ_ _ _ _ _=>false) (λ_ _=>false) (λe _=>(oL l e)) (λ_ _ _=>false) (false) (false) (λ_=>false) (false) (λ_ _=>false) () (λ_ _ _ _=>()))
 (λf l _=> @D.rec (λ_=>Bool) (λ_=>Unit) (false) (λ_=>false) (λ_ _=>false) (λ_=>false) (false) (λ_ _=>false) (false) (false) (λ_ _ _ _ _=>false) (λ_ _=>false) (λ_ _=>false) (λr e _=>(Ar (motive:=λ_=>Bool) false (oL l e) (Af f r))) (false) (false) (λ_=>false) (false) (λ_ _=>false) () (λ_ _ _ _=>()))
 (@D.rec (λ_=>Bool) (λ_=>Unit) (false) (λ_=>false) (λ_ _=>false) (λ_=>false) (false) (λ_ _=>false) (false) (false) (λ_ _ _ _ _=>false) (λ_ _=>false) (λ_ _=>false) (λ_ _ _=>false) (true) (false) (λ_=>false) (false) (λ_ _=>false) () (λ_ _ _ _=>()))
 (@D.rec (λ_=>Bool) (λ_=>Unit) (false) (λ_=>false) (λ_ _=>false) (λ_=>false) (false) (λ_ _=>false) (false) (false) (λ_ _ _ _ _=>false) (λ_ _=>false) (λ_ _=>false) (λ_ _ _=>false) (false) (true) (λ_=>false) (false) (λ_ _=>false) () (λ_ _ _ _=>()))
 (λi=> @D.rec (λ_=>Bool) (λ_=>Unit) (false) (λ_=>false) (λ_ _=>false) (λ_=>false) (false) (λ_ _=>false) (false) (false) (λ_ _ _ _ _=>false) (λ_ _=>false) (λ_ _=>false) (λ_ _ _=>false) (false) (false) (λg=>(Af i g)) (false) (λ_ _=>false) () (λ_ _ _ _=>()))
 (@D.rec (λ_=>Bool) (λ_=>Unit) (false) (λ_=>false) (λ_ _=>false) (λ_=>false) (false) (λ_ _=>false) (false) (false) (λ_ _ _ _ _=>false) (λ_ _=>false) (λ_ _=>false) (λ_ _ _=>false) (false) (false) (λ_=>false) (true) (λ_ _=>false) () (λ_ _ _ _=>()))
 (λk i=> @D.rec (λ_=>Bool) (λ_=>Unit) (false) (λ_=>false) (λ_ _=>false) (λ_=>false) (false) (λ_ _=>false) (false) (false) (λ_ _ _ _ _=>false) (λ_ _=>false) (λ_ _=>false) (λ_ _ _=>false) (false) (false) (λ_=>false) (false) (λk1 g=>(Ar (motive:=λ_=>Bool) false (Af i g) (Af (kn k) (kn k1)))) () (λ_ _ _ _=>())) () (λ_ _ _ _=>())
theorem ahH(a b:D):acU a b=true->a=b:=by
 intro h;refine th a b ?_;have i:∀(x y c:Bool),Ar (motive:=λ_=>Bool) x y c=cond c y x:=λx y c=>by cases c<;>rfl
 have g:∀(z d:Option Nat),aiT z d=(match z,d with|some e,some f=>Af e f|none,none=>true|_,_=>false):=λz d=>by cases z<;>cases d<;>rfl
 rw[<-h];cases a<;>cases b<;>first|rfl|skip
 all_goals simp only[dI,acU,bk,ajF,afI,adQ,g,wm]
 ·rename_i x y;cases x<;>cases y<;>rfl
 ·rename_i z _ _ _ _ d;cases z<;>cases d<;>rfl
def xF:List D->List D->Bool:= @List.rec D (λ_=>List D->Bool) (@List.rec D (λ_=>Bool) true (λ_ _ _=>false)) (λa _ c=> @List.rec D (λ_=>Bool) false (λb r _=>Ar (motive:=λ_=>Bool) false (c r) (acU a b)))
theorem adT:∀(x y:List D),xF x y=true->x=y
 | [],y,h=>by cases y with|nil=>rfl|cons=>exact absurd h (by simp[xF])
 |a::x,[],h=>absurd h (by simp[xF])
 |a::x,b::y,h=>by
  have h:Ar (motive:=λ_=>Bool) false (xF x y) (acU a b)=true:=h;rw[bk] at h;cases c:acU a b with
  |false=>rw[c] at h;exact absurd h (by simp)
  |true=>rw[c] at h;rw[ahH a b c,adT x y h]
def wu:Option Obj->Option Obj->Bool:= @Option.rec Obj (λ_=>Option Obj->Bool) (@Option.rec Obj (λ_=>Bool) true (λ_=>false))
 (@Obj.rec (λ_=>Option Obj->Bool) (λe f cs=> @Option.rec Obj (λ_=>Bool) false (@Obj.rec (λ_=>Bool) (λe1 c b=>Ar (motive:=λ_=>Bool) false (Ar (motive:=λ_=>Bool) false (xF cs b) (Ar (motive:=λ_=>Bool) (zY c) c f)) (Af e e1)) (λ_=>false))) (λes=> @Option.rec Obj (λ_=>Bool) false (@Obj.rec (λ_=>Bool) (λ_ _ _=>false) (λa=>ua es a))))
theorem agO{a b:Option Obj}(h:wu a b=true):a=b:=by
 cases a with
 |none=>cases b with|none=>rfl|some y=>exact absurd h (by simp[wu])
 |some x=>
  cases b with
  |none=>cases x<;>exact absurd h (by simp[wu])
  |some y=>
   cases x with
   |map es=>
    cases y with
    |cells _ _ _=>exact absurd h (by simp[wu])
    |map i=>rw[zV es i h]
   |cells e f cs=>
    cases y with
    |map _=>exact absurd h (by simp[wu])
    |cells e1 d c=>
     have h:Ar (motive:=λ_=>Bool) false (Ar (motive:=λ_=>Bool) false (xF cs c) (Ar (motive:=λ_=>Bool) (zY d) d f)) (Af e e1)=true:=h;rw[bk,bk,bk,wm] at h;cases g:Af e e1 with
     |false=>rw[g] at h;exact absurd h (by simp)
     |true=>
      rw[g,cond_true] at h;have:f=d∧xF cs c=true:=by cases f<;>cases d<;>simp at h<;>exact⟨rfl,h⟩
      rw[AA g,this.1,adT _ _ this.2]
def RLe(a b:Rec):Prop:=b.M=a.M∧((b.cl=a.cl∧(∀i∈b.R,i∈a.R)∧(∀i∈b.W,i∈a.W)∧b.hB=a.hB∧b.hA=a.hA)∨(b.cl=false∧b.R=[]∧b.W=[]))
theorem RLe.refl(a:Rec):RLe a a:=⟨rfl,.inl ⟨rfl,λ_ h=>h,λ_ h=>h,rfl,rfl⟩⟩
def um(a b:Rec):Prop:=match a.cl,b.cl with
 |false,false=>(∀i∈a.W,i ∉ b.R∧i ∉ b.W)∧∀i∈a.R,i ∉ b.W
 |false,true=>(∀i∈a.W,i∈b.M)∧∀i∈a.R,i∈b.M∨nJ (b.hB.get i) (b.hA.get i)=true
 |true,false=>(∀i∈b.W,i∈a.M)∧∀i∈b.R,i∈a.M∨nJ (a.hB.get i) (a.hA.get i)=true
 |true,true=>False
theorem aeQ{a b:Rec}:oN a b=true↔um a b:=by unfold oN um;cases a.cl<;>cases b.cl<;>simp[Ak,uc,ud]
theorem aeR{a b p r:Rec}(m:RLe a p)(q:RLe b r)(h:um a b):um p r:=by
 obtain⟨u,m⟩:=m;obtain⟨w,q⟩:=q;unfold um at h ⊢;rcases m with⟨t,g,e,v,z⟩|⟨t,g,e⟩
 ·rcases q with⟨c2,j,d,x,y⟩|⟨c2,j,d⟩
  ·rw[t,c2];cases o:a.cl<;>cases k:b.cl<;>rw[o,k] at h<;>simp only at h ⊢;·exact⟨λi c=>⟨λf=>(h.1 i (e i c)).1 (j i f),λf=>(h.1 i (e i c)).2 (d i f)⟩,λi c f=>h.2 i (g i c) (d i f)⟩
   ·rw[w,x,y];exact⟨λi c=>h.1 i (e i c),λi c=>h.2 i (g i c)⟩
   ·rw[u,v,z];exact⟨λi c=>h.1 i (d i c),λi c=>h.2 i (j i c)⟩
  ·rw[c2,j,d];cases p.cl<;>simp
 ·rw[t,g,e];cases r.cl<;>simp
def rx(i:Nat):List Nat->Bool:= @List.rec Nat (λ_=>Bool) false (λa _ b=>Ar (motive:=λ_=>Bool) b true (Af i a))
theorem nM{i:Nat}:∀{l:List Nat},rx i l=true↔i∈l
 | []=>by simp[rx]
 |a::l=>by
  have e:rx i (a::l)=cond (Af i a) true (rx i l):=bk _ _ _;rw[e,AT,Tr.beq_iff];by_cases h:i=a;·simp[h]
  ·simp[h,nM]
def sJ(f:Nat->Bool):List Nat->Bool:= @List.rec Nat (λ_=>Bool) true (λa _ b=>Ar (motive:=λ_=>Bool) false b (f a))
theorem uo{f:Nat->Bool}:∀{l:List Nat},sJ f l=true↔∀i∈l,f i=true
 | []=>by simp[sJ]
 |a::l=>by have e:sJ f (a::l)=cond (f a) (sJ f l) false:=bk _ _ _;rw[e];cases h:f a<;>simp[h,uo]
def abm(M:List Nat)(b a:Tr Obj):Nat->Bool:=λi=>Ar (motive:=λ_=>Bool) (wu (pf b i) (pf a i)) true (rx i M)
def qE(a b:Rec):Bool:=Ar (motive:=λ_=>Bool)
 (Ar (motive:=λ_=>Bool) (Ar (motive:=λ_=>Bool) false (sJ (λi=>zY (rx i b.W)) a.R) (sJ (λi=>Ar (motive:=λ_=>Bool) (zY (rx i b.W)) false (rx i b.R)) a.W))
  (Ar (motive:=λ_=>Bool) false (sJ (abm b.M b.hB b.hA) a.R) (sJ (λi=>rx i b.M) a.W)) b.cl)
 (Ar (motive:=λ_=>Bool) (Ar (motive:=λ_=>Bool) false (sJ (abm a.M a.hB a.hA) b.R) (sJ (λi=>rx i a.M) b.W)) false b.cl) a.cl
theorem aeS{a b:Rec}(m:∀(c:Option Obj),nJ c c=true)(h:qE a b=true):um a b:=by
 have j:∀(M:List Nat)(g f:Tr Obj)(i:Nat),abm M g f i=true->i∈M∨nJ (g.get i) (f.get i)=true:=by
  intro M g f i h;simp only[abm,bk] at h;cases e:rx i M with
  |true=>exact .inl (nM.1 e)
  |false=>rw[e] at h;right;rw[<-kV,<-kV,agO h];exact m _
 unfold qE at h;unfold um;simp only[bk] at h;cases k:a.cl<;>cases o:b.cl<;>rw[k,o] at h<;>simp only[cond_true,cond_false,Cq] at h ⊢
 ·simp only[C5,uo,wm,if_false_right,if_false_left,AK,BO] at h;refine⟨λi d=>?_,λi d e=>?_⟩
  ·have:=h.1 i d;refine⟨λe=>?_,λe=>?_⟩;·rw[nM.2 e] at this;simp at this
   ·rw[nM.2 e] at this;simp at this
  ·have:=h.2 i d;rw[nM.2 e] at this;simp at this
 ·simp only[C5,uo,if_false_right,BO] at h;exact⟨λi d=>nM.1 (h.1 i d),λi d=>j _ _ _ i (h.2 i d)⟩
 ·simp only[C5,uo,if_false_right,BO] at h;exact⟨λi d=>nM.1 (h.1 i d),λi d=>j _ _ _ i (h.2 i d)⟩
 ·simp at h
mutual
theorem vT:∀a:D,dI a a=true
 | .undef| .nilp| .nils| .emp| .nilf| .nilif| .nilm=>rfl
 | .bool b=>by cases b<;>rfl
 | .int k n=>by
   have h1:gv k k=true:=by cases k<;>rfl
   simp[dI,h1,me]
 | .str l=>by simp[dI,yE]
 | .ptr a b=>by simp[dI]
 | .sl a b c d e=>by cases e<;>simp[dI]
 | .agg x=>by simp[dI,pT x]
 | .tup x=>by simp[dI,pT x]
 | .fn f x=>by simp[dI,pT x]
 | .mp a=>by simp[dI]
 | .sym k i=>by
   have h1:gv k k=true:=by cases k<;>rfl
   simp[dI,h1]
theorem pT:∀l:List D,oL l l=true
 | []=>rfl
 |a::l=>by simp[oL,vT a,pT l]
end
theorem aaE:∀l:List (D×D),ua l l=true
 | []=>rfl
 |(a,b)::l=>by simp[ua,vT a,vT b,aaE l]
theorem afN(c:Option Obj):nJ c c=true:=by
 cases c with
 |none=>rfl
 |some c=>
  cases c with
  |cells e f cs=>simp[nJ,pT]
  |map es=>simp[nJ,aaE]
theorem afO(Γ:Sp)(at_ n n0:Nat)(a:List Nat)(x:GOp)(s:St):(∃s',∀k:St->Res,aW Γ at_ n n0 a x s k=k s')∨(∀k:St->Res,aW Γ at_ n n0 a x s k=none):=by
 have key:(∃s',∀k:St->Res,step Γ at_ n n0 a x s k=k s')∨(∀k:St->Res,step Γ at_ n n0 a x s k=none):=by
  unfold step;cases x.o.isCall with
  |true=>
   simp only[cond_true,aba];split
   ·split;·exact .inl ⟨_,λk=>kU _ _ _ _⟩
    ·exact .inr λ_=>rfl
   ·split
    ·split;·exact .inl ⟨_,λk=>kU _ _ _ _⟩
     ·exact .inr λ_=>rfl
    ·exact .inr λ_=>rfl
   ·exact .inr λ_=>rfl
  |false=>
   simp only[cond_false];cases aeB x.o at_ s.fs.E s.fs.H with
   |none=>exact .inr λ_=>rfl
   |some p=>obtain⟨v,ws⟩:=p;refine .inl ⟨(⟨s.env,⟨n,((⟨n,s.hp.t⟩:Hp).puts ws).t⟩⟩:St).put x.d v,λk=>?_⟩;simp only[yC,j8,vE,tY,hD,kU,Bool.cond_self]
 unfold aW;split;·exact key
 ·split
  ·rename_i b _;cases (b==_) with
   |true=>exact key
   |false=>exact .inl ⟨_,λk=>kU _ _ _ _⟩
  ·exact .inl ⟨_,λk=>kU _ _ _ _⟩
  ·exact .inr λ_=>rfl
structure KDO where
 x:GOp
 i:Nat
 hd:List Nat
 rc:Bool
 ph:Nat->St->St->Rec
 run:Sp->Nat->(Rec->KK)->Env->Nat->Tr Obj->Res
 ok:∀Γ n0 K e n t,run Γ n0 K e n t=aW Γ (n0+i) n n0 hd x ⟨e,⟨n,t⟩⟩ λs'=>K (ph n0 ⟨e,⟨n,t⟩⟩ s') s'.env s'.hp.n s'.hp.t
 sub:rc=true->∀n0 s s',RLe (ph n0 s s') (oM (n0+i) n0 hd x s s')
abbrev Qn:=Sp->Nat->(Rec->KK)->Env->Nat->Tr Obj->Res
def aiU:Rec:=⟨[],false,[],[],.e,.e⟩
def mP(f:Rn):Qn:=λΓ _ K=>f Γ (K aiU)
def dno(i:Nat)(x:KOp):KDO:=⟨x.g,i,[],false,λ_ _ _=>aiU,mP x.run,λΓ n0 K e n t=>by rw[mP,x.ok];exact(ag6 x.nm Γ (n0+i) n n0 _ e t).symm,λh=>by cases h⟩
def z9:IOp->Option ac
 | .ld _ _ x| .st _ x _| .b2s x| .lkp _ _ _ _ _ x _| .mup _ _ x _ _| .ment _ _ _ _ x _| .mest x _ _=>some x
 |_=>none
theorem aeT{o:IOp}{y:ac}(h:z9 o=some y)(E:Nat->D):jj E o=eE (y.ev E):=by cases o<;>simp[z9] at h<;>subst h<;>rfl
theorem adn{o:IOp}{y:ac}(h:z9 o=some y){at_:Nat}{E:Nat->D}{H:Nat->Option Obj}{id:Nat}(b:id∈kS at_ E H o):id∈eE (y.ev E):=by
 unfold kS at b;split at b
 ·rename_i v ws a;obtain⟨p,hp,rfl⟩:=Av.1 b;cases o<;>simp[z9] at h<;>subst h;all_goals simp only[eff,xv,vA,wc] at a
  all_goals repeat' split at a
  all_goals try simp only[aI,Ah,Ab,Ae,reduceCtorEq,and_false,exists_const] at a
  all_goals first
   |contradiction
   |(obtain⟨_,_,rfl⟩:=a;cases hp;done)
   |(obtain⟨_,rfl⟩:=a;cases hp;done)
   |(obtain⟨_,_,_,_,rfl⟩:=a;cases hp;done)
   |(obtain⟨_,_,_,rfl⟩:=a;cases hp;done)
   |(obtain⟨_,_,rfl⟩:=a;rw[Aq.1 hp];simp[*,eE];done)
   |(obtain⟨_,rfl⟩:=a;rw[Aq.1 hp];simp[*,eE];done)
   |(obtain⟨_,_,_,rfl⟩:=a;rw[Aq.1 hp];simp[*,eE];done)
 ·simp at b
def idR:D->List Nat:= @D.rec (λ_=>List Nat) (λ_=>Unit) [] (λ_=>[]) (λ_ _=>[]) (λ_=>[]) [] (λi _=>[i]) [] [] (λi _ _ _ _=>[i]) (λ_ _=>[]) (λ_ _=>[]) (λ_ _ _=>[]) [] [] (λi=>[i]) [] (λ_ _=>[]) () (λ_ _ _ _=>())
theorem vU(d:D):idR d=eE d:=by cases d<;>rfl
def acV(Y:Gt)(w:Bool)(f:Rn):Qn:=λΓ _ K e n t=>Y e λv=>f Γ (K ⟨[],false,idR v,Ar (motive:=λ_=>List Nat) [] (idR v) w,.e,.e⟩) e n t
def agP(i:Nat)(x:KOp)(y:aw)(w:Bool)(h:z9 x.g.o=some y.s)(c:(w||x.g.o.calm)=true):KDO:=⟨x.g,i,[],true,λ_ s _=>⟨[],false,idR (y.s.ev s.env.get),Ar (motive:=λ_=>List Nat) [] (idR (y.s.ev s.env.get)) w,.e,.e⟩,acV y.ev w x.run,λΓ n0 K e n t=>by
    rw[acV,y.ok,x.ok];exact(ag6 x.nm Γ (n0+i) n n0 _ e t).symm,
 λ_ n0 s s'=>by
  unfold oM;split
  ·have b:x.g.o.isCall=false:=by cases d:x.g.o<;>rw[d] at h<;>simp[z9] at h<;>rfl
   rw[b];refine⟨rfl,.inl ⟨rfl,λj a=>?_,λj a=>?_,rfl,rfl⟩⟩;·have a:j∈jj s.fs.E x.g.o:=a;rw[aeT h] at a;rw[vU];exact a
   ·have a:j∈kS (n0+i) s.fs.E s.fs.H x.g.o:=a;rw[bk];cases w with
    |true=>rw[cond_true,vU];exact adn h a
    |false=>rw[wU (by simpa using c)] at a;simp at a
  ·exact⟨rfl,.inr ⟨rfl,rfl,rfl⟩⟩⟩
def fresh:IOp->Bool
 | .s2b .. | .bsl .. | .new .. | .box .. | .mks .. | .mkm=>true
 |_=>false
theorem acW{o:IOp}(h:fresh o=true){at_:Nat}{E:Nat->D}{H:Nat->Option Obj}{id:Nat}(a:id∈kS at_ E H o):id=at_:=by
 unfold kS at a;split at a
 ·rename_i v ws b;obtain⟨p,hp,rfl⟩:=Av.1 a;cases o<;>simp[fresh] at h;all_goals simp only[eff,xv,vA,wc] at b
  all_goals repeat' split at b
  all_goals try simp only[aI,Ah,Ab,Ae,reduceCtorEq,and_false,exists_const] at b
  all_goals first
   |(obtain⟨_,_,rfl⟩:=b;rw[Aq.1 hp];done)
   |(obtain⟨_,rfl⟩:=b;rw[Aq.1 hp];done)
   |skip
 ·simp at a
theorem ado{o:IOp}(h:fresh o=true)(E:Nat->D):jj E o=[]:=by cases o<;>first|rfl|simp[fresh] at h
def aeU(i:Nat)(f:Nat->Nat->KK->Env->Tr Obj->Res):Qn:=λ_ n0 K e n t=>im (CH n0 i) λa=>f a n (K ⟨[],false,[],[a],.e,.e⟩) e t
def dmn(i:Nat)(x:KMk)(h:fresh x.g.o=true):KDO:=⟨x.g,i,[],true,λn0 _ _=>⟨[],false,[],[n0+i],.e,.e⟩,aeU i x.run,λΓ n0 K e n t=>by
    rw[aeU,e9,x.ok Γ _ _ n0 n];rfl,
 λ_ n0 s s'=>by
  unfold oM;split
  ·rw[wn x.nm];refine⟨rfl,.inl ⟨rfl,λj a=>?_,λj a=>?_,rfl,rfl⟩⟩;·have a:j∈jj s.fs.E x.g.o:=a;rw[ado h] at a;simp at a
   ·rw[acW h a];simp
  ·exact⟨rfl,.inr ⟨rfl,rfl,rfl⟩⟩⟩
theorem aeV{q sz b:Nat}{x y:ac}{at_:Nat}{E:Nat->D}{H:Nat->Option Obj}{id:Nat}(c:id∈kS at_ E H (.app q sz b x y)):id=at_∨id∈eE (x.ev E):=by
 unfold kS at c;split at c
 ·rename_i v ws a;obtain⟨p,hp,rfl⟩:=Av.1 c;simp only[eff] at a;simp only[Cq] at a
  repeat' split at a
  all_goals simp only[aI,Ab,Ae,reduceCtorEq,and_false,exists_const] at a
  all_goals first
   |(obtain⟨_,rfl⟩:=a;cases hp;done)
   |(obtain⟨_,_,rfl⟩:=a;cases hp;done)
   |(obtain⟨_,_,_,rfl⟩:=a;cases hp;done)
   |(obtain⟨_,_,_,_,rfl⟩:=a;cases hp;done)
   |(obtain⟨_,_,_,_,_,rfl⟩:=a;cases hp;done)
   |(obtain⟨_,rfl⟩:=a;rw[Aq.1 hp];exact .inl rfl)
   |(obtain⟨_,rfl⟩:=a;rw[Aq.1 hp];exact .inr (by simp[*,eE]))
   |(obtain⟨_,rfl⟩:=a;rcases AT.1 hp with rfl|hp<;>first|(rw[Aq.1 hp];exact .inl rfl)|exact .inr (by simp[*,eE]))
   |(obtain⟨_,_,rfl⟩:=a;rw[Aq.1 hp];exact .inl rfl)
   |(obtain⟨_,_,rfl⟩:=a;rw[Aq.1 hp];exact .inr (by simp[*,eE]))
   |(obtain⟨_,_,rfl⟩:=a;rcases AT.1 hp with rfl|hp<;>first|(rw[Aq.1 hp];exact .inl rfl)|exact .inr (by simp[*,eE]))
   |(obtain⟨_,_,_,rfl⟩:=a;rw[Aq.1 hp];exact .inl rfl)
   |(obtain⟨_,_,_,rfl⟩:=a;rw[Aq.1 hp];exact .inr (by simp[*,eE]))
   |(obtain⟨_,_,_,rfl⟩:=a;rcases AT.1 hp with rfl|hp<;>first|(rw[Aq.1 hp];exact .inl rfl)|exact .inr (by simp[*,eE]))
   |(obtain⟨_,_,_,_,rfl⟩:=a;rw[Aq.1 hp];exact .inl rfl)
   |(obtain⟨_,_,_,_,rfl⟩:=a;rw[Aq.1 hp];exact .inr (by simp[*,eE]))
   |(obtain⟨_,_,_,_,rfl⟩:=a;rcases AT.1 hp with rfl|hp<;>first|(rw[Aq.1 hp];exact .inl rfl)|exact .inr (by simp[*,eE]))
   |(obtain⟨_,_,_,_,_,rfl⟩:=a;rw[Aq.1 hp];exact .inl rfl)
   |(obtain⟨_,_,_,_,_,rfl⟩:=a;rw[Aq.1 hp];exact .inr (by simp[*,eE]))
   |(obtain⟨_,_,_,_,_,rfl⟩:=a;rcases AT.1 hp with rfl|hp<;>first|(rw[Aq.1 hp];exact .inl rfl)|exact .inr (by simp[*,eE]))
 ·simp at c
def agQ(i:Nat)(X Y:Gt)(f:Nat->Nat->KK->Env->Tr Obj->Res):Qn:=λ_ n0 K e n t=>X e λx=>Y e λy=>im (CH n0 i) λa=>f a n (K ⟨[],false,List.append (idR x) (idR y),List.append (idR x) [a],.e,.e⟩) e t
def dma(i:Nat)(f:KMk)(x y:aw)(q sz b:Nat)(h:f.g.o=.app q sz b x.s y.s):KDO:=⟨f.g,i,[],true,λn0 s _=>⟨[],false,List.append (idR (x.s.ev s.env.get)) (idR (y.s.ev s.env.get)),List.append (idR (x.s.ev s.env.get)) [n0+i],.e,.e⟩,agQ i x.ev y.ev f.run,λΓ n0 K e n t=>by
    rw[agQ,x.ok,y.ok,e9,f.ok Γ _ _ n0 n];rfl,
 λ_ n0 s s'=>by
  unfold oM;split
  ·rw[wn f.nm];refine⟨rfl,.inl ⟨rfl,λj a=>?_,λj a=>?_,rfl,rfl⟩⟩;·have a:j∈jj s.fs.E f.g.o:=a;rw[h] at a;have a:j∈eE (x.s.ev s.fs.E)++eE (y.s.ev s.fs.E):=a;rw[vU,vU];exact a
   ·have a:j∈kS (n0+i) s.fs.E s.fs.H f.g.o:=a;rw[h] at a;rw[vU];rcases aeV a with rfl|a;·exact B8 _ (by simp)
    ·exact Bp _ a
  ·exact⟨rfl,.inr ⟨rfl,rfl,rfl⟩⟩⟩
def uq(Γ:Sp)(n0:Nat):List KDO->List Rec->(List Rec->KK)->St->Res
 | [],a,K,s=>K a s.env s.hp.n s.hp.t
 |x::l,a,K,s=>aW Γ (n0+x.i) s.hp.n n0 x.hd x.x s λs'=>uq Γ n0 l (x.ph n0 s s'::a) K s'
abbrev Un:=Sp->Nat->(List Rec->KK)->List Rec->Env->Nat->Tr Obj->Res
structure KD where
 ds:List KDO
 run:Un
 ok:∀Γ n0 K rs e n t,run Γ n0 K rs e n t=uq Γ n0 ds rs K ⟨e,⟨n,t⟩⟩
def p0:Un:=λ_ _ K a=>K a
def aj1:KD:=⟨[],p0,λ_ _ _ _ _ _ _=>rfl⟩
def p2(f:Qn)(r:Un):Un:=λΓ n0 K a=>f Γ n0 (λq=>r Γ n0 K (q::a))
theorem agR(x:KDO)(r:KD)(Γ:Sp)(n0:Nat)(K:List Rec->KK)(a:List Rec)(e:Env)(n:Nat)(t:Tr Obj):p2 x.run r.run Γ n0 K a e n t=uq Γ n0 (x::r.ds) a K ⟨e,⟨n,t⟩⟩:=by
 simp only[p2,x.ok,uq]
 congr 1
 funext s';exact r.ok _ _ _ _ _ _ _
def gw(x:KDO)(r:KD):KD:=⟨x::r.ds,p2 x.run r.run,agR x r⟩
def aaa:List KDO->List Rec->List Rec->Prop
 | [],[],[]=>True
 |x::l,q::a,u::us=>((x.rc=true->RLe q u)∧acT x.x u)∧aaa l a us
 |_,_,_=>False
theorem aaa.get:∀{l:List KDO}{c us:List Rec},aaa l c us->c.length=l.length∧us.length=l.length∧∀(i:Nat) x q u,l[i]? =some x->c[i]? =some q->us[i]? =some u->(x.rc=true->RLe q u)∧acT x.x u
 | [],[],[],_=>⟨rfl,rfl,by simp⟩
 |x::l,q::c,u::us,h=>by
  obtain⟨g,k,j⟩:=aaa.get h.2;refine⟨by simp[g],by simp[k],λi y a b f d e=>?_⟩;cases i with
  |zero=>simp at f d e;subst f;subst d;subst e;exact h.1
  |succ i=>exact j i y a b (by simpa using f) (by simpa using d) (by simpa using e)
 | [],[],_::_,h=>h.elim
 | [],_::_,_,h=>h.elim
 |_::_,[],_,h=>h.elim
 |_::_,_::_,[],h=>h.elim
theorem aaF(Γ:Sp)(n0:Nat)(mks:List (List Nat)):∀(b:List KDO)(i:Nat)(e a:List Rec)(s:St),b.map (·.i)=Bq i b.length->(∀j x,b[j]? =some x->mks.getD (i+j) []=x.hd)->
  (∃(s':St)(g us:List Rec),aaa b g us∧(∀K,uq Γ n0 b e K s=K (g.reverse++e) s'.env s'.hp.n s'.hp.t)∧∀KR:List Rec->St->Res,oO Γ n0 mks i (b.map (·.x)) a KR s=KR (a++us) s')∨
  ((∀K,uq Γ n0 b e K s=none)∧∀KR:List Rec->St->Res,oO Γ n0 mks i (b.map (·.x)) a KR s=none)
 | [],i,e,a,s,_,_=>.inl ⟨s,[],[],trivial,λK=>rfl,λKR=>by simp[oO]⟩
 |x::b,i,e,a,s,f,k=>by
  simp only[AI,Ay,BQ,Cw] at f;have m:=k 0 x rfl;simp only[Cv] at m;have h:mks.getD i []=x.hd:=m;rcases afO Γ (n0+i) s.hp.n n0 x.hd x.x s with⟨d,c⟩|c
  ·rcases aaF Γ n0 mks b (i+1) (x.ph n0 s d::e) (a++[oM (n0+i) n0 x.hd x.x s d]) d f.2 (λj y p=>by
    have:=k (j+1) y (by simpa using p);rw[<-this]
    congr 1
    omega) with⟨s',g,us,k1,k2,k3⟩|⟨k2,k3⟩
   ·refine .inl ⟨s',x.ph n0 s d::g,oM (n0+i) n0 x.hd x.x s d::us,⟨⟨λo=>by rw[<-f.1];exact x.sub o n0 s d,aeO _ _ _ _ _ _⟩,k1⟩,λK=>?_,λKR=>?_⟩;·simp only[uq,f.1,c,k2,List.reverse_cons,Be,List.singleton_append]
    ·simp only[AI,oO,h,c,k3,Be,List.singleton_append]
   ·refine .inr ⟨λK=>?_,λKR=>?_⟩;·simp only[uq,f.1,c,k2]
    ·simp only[AI,oO,h,c,k3]
  ·refine .inr ⟨λK=>?_,λKR=>?_⟩;·simp only[uq,f.1,c]
   ·simp only[AI,oO,h,c]
def sK(rs:List Rec):List (Nat×Nat)->Bool:= @List.rec (Nat×Nat) (λ_=>Bool) true (λp _ ih=>Ar (motive:=λ_=>Bool) false ih (nthB rs p.1 λa=>nthB rs p.2 λb=>qE a b))
where
 nthB (l:List Rec):Nat->(Rec->Bool)->Bool:= @List.rec Rec (λ_=>Nat->(Rec->Bool)->Bool) (λ_ _=>false) (λa _ ih i k=>Ar (motive:=λ_=>Bool) (ih (BV i 1) k) (k a) (Af i 0)) l
theorem aab:∀(l:List Rec)(i:Nat)(k:Rec->Bool),sK.nthB l i k=match l[i]? with|some a=>k a|none=>false
 | [],i,k=>by cases i<;>rfl
 |a::l,0,k=>rfl
 |a::l,i+1,k=>(aab l i k).trans (by simp)
theorem acX:∀{D:List (Nat×Nat)}{c:List Rec},sK c D=true->∀p∈D,∃a b,c[p.1]? =some a∧c[p.2]? =some b∧qE a b=true
 | [],c,_,p,hp=>by simp at hp
 |q::D,c,h,p,hp=>by
  have h:Ar (motive:=λ_=>Bool) false (sK c D) (sK.nthB c q.1 λa=>sK.nthB c q.2 λb=>qE a b)=true:=h;rw[bk] at h;cases d:(sK.nthB c q.1 λa=>sK.nthB c q.2 λb=>qE a b) with
  |false=>rw[d] at h;simp at h
  |true=>
   rw[d,cond_true] at h;rcases AT.1 hp with rfl|hp
   ·rw[aab] at d;split at d
    ·rename_i a e;rw[aab] at d;split at d;·rename_i b f;exact⟨a,b,e,f,d⟩
     ·simp at d
    ·simp at d
   ·exact acX h p hp
def aeW(c:List KDO)(d:List (List Nat))(D:List (Nat×Nat)):Bool:=(AE c.length).all λj=>(AE j).all λi=>mh (d.getD j []) i||(match c[i]?,c[j]? with
 |some a,some b=>aeP a.x b.x||(a.rc&&b.rc&&D.any λp=>Af p.1 (c.length-1-i)&&Af p.2 (c.length-1-j))
 |_,_=>false)
theorem agS{d:List KDO}{f:List (List Nat)}{D:List (Nat×Nat)}(h:aeW d f D=true){e us:List Rec}(F:aaa d e us)(G:sK e.reverse D=true):aeH f us=true:=by
 obtain⟨H,E,z⟩:=F.get;unfold aeH;rw[E];refine Ak.2 λj g=>Ak.2 λi m=>?_
 have c:=Ak.1 (Ak.1 h j g) i m;have g:=A6.1 g;have m:=A6.1 m;rw[AQ] at c ⊢;rcases c with c|c;·exact .inl c
 ·right;have e1:d[i]? =some d[i]:=Ac (by omega);have o:d[j]? =some d[j]:=Ac g;have v:us[i]? =some us[i]:=Ac (by omega);have t:us[j]? =some us[j]:=Ac (by omega);have u:e[i]? =some e[i]:=Ac (by omega);have r:e[j]? =some e[j]:=Ac (by omega);rw[e1,o] at c;rw[v,t];have x:=z i _ _ _ e1 u v;have w:=z j _ _ _ o r t;simp only[AQ,Aa,Co,Tr.beq_iff,decide_eq_true_eq] at c;rcases c with c|⟨⟨A,B⟩,p,hp,C,p2⟩
  ·exact ahG c x.2 w.2
  ·obtain⟨a,b,q,y,k⟩:=acX G p hp;rw[C,List.getElem?_reverse (by omega),show e.length-1-(d.length-1-i)=i by omega,u] at q;rw[p2,List.getElem?_reverse (by omega),show e.length-1-(d.length-1-j)=j by omega,r] at y;obtain rfl:=Ai q;obtain rfl:=Ai y;exact aeQ.2 (aeR (x.1 A) (w.1 B) (aeS afN k))
def abn(r:Un)(m:Nat)(D:List (Nat×Nat))(c:IRc):Wn:=λΓ K e n t=>im (CH n m) λf=>r Γ n (λd e1 a b=>Ar (motive:=λ_=>Res) (ag7 c Γ K e n t) (K .normal e1 a b) (sK d D)) [] e f t
theorem aiV(r:KD)(m:Nat)(D:List (Nat×Nat))(a:List (List Nat))(k:mkN (r.ds.map (·.x))=m)(h:r.ds.map (·.i)=Bq 0 r.ds.length)(d:aeW r.ds a D=true)(Γ:Sp)(K:Ex->KK)(e:Env)(n:Nat)(t:Tr Obj):
  abn r.run m D (.drw (r.ds.map (·.x)) a (r.ds.map (·.hd))) Γ K e n t=DM.run Γ LL (.drw (r.ds.map (·.x)) a (r.ds.map (·.hd))) (λx=>up (K x)) ⟨e,⟨n,t⟩⟩:=by
 simp only[abn,ag7,e9,r.ok,run,hD,k];have b:∀j x,r.ds[j]? =some x->(r.ds.map (·.hd)).getD (0+j) []=x.hd:=λj x c=>by rw[Aw,Al,Au,c];rfl
 rcases aaF Γ n (r.ds.map (·.hd)) r.ds 0 [] [] ⟨e,⟨CH n m,t⟩⟩ h b with⟨s',f,us,k1,k2,k3⟩|⟨k2,k3⟩
 ·rw[k2,k3];simp only[List.append_nil,C3,bk];cases g:sK f.reverse D with
  |false=>rfl
  |true=>rw[agS d k1 g];rfl
 ·rw[k2,k3]
def aj2(r:KD)(m:Nat)(D:List (Nat×Nat))(a:List (List Nat))(d:mkN (r.ds.map (·.x))=m)(c:r.ds.map (·.i)=Bq 0 r.ds.length)(b:aeW r.ds a D=true):KC:=
 ⟨.drw (r.ds.map (·.x)) a (r.ds.map (·.hd)),abn r.run m D (.drw (r.ds.map (·.x)) a (r.ds.map (·.hd))),aiV r m D a d c b⟩
structure KF where
 F:FnC
 run:Sp->List D->Hp->Res
 ok:∀Γ args hp,run Γ args hp=gr Γ LL F args hp
def yW(o:Res)(k:Env->Res):List Pt->List D->Env->Res:= @List.rec Pt (λ_=>List D->Env->Res) (λl e=>BC (motive:=λ_=>Res) (k e) (λ_ _ _=>o) l) (λP _ a l e=>BC (motive:=λ_=>Res) o (λv r _=>P v e λe=>a r e) l)
theorem acY(o:Res)(k:Env->Res):∀(a:List aF)(l:List D)(e:Env)(i:Nat),a.map (·.n)=Bq i a.length->yW o k (a.map (·.set)) l e=if l.length=a.length then wi l i e k else o
 | [],[],e,i,_=>rfl
 | [],v::l,e,i,_=>by simp[yW]
 |p::a,[],e,i,_=>by simp[yW]
 |p::a,v::l,e,i,h=>by show (p.set v e λe=>yW o k (a.map (·.set)) l e)=_;simp only[AI,Ay,BQ,Cw] at h;rw[p.ok,acY o k a l _ (i+1) h.2,h.1];simp[wi,j8]
structure KE where
 rs:List RV
 fin:KK
 ok:∀e n t,fin e n t=DM.fin rs .ret ⟨e,⟨n,t⟩⟩
def ag9(a:List RV):KK:=λe n t=>DM.fin a .ret ⟨e,⟨n,t⟩⟩
def aj3(a:List RV):KE:=⟨a,ag9 a,λ_ _ _=>rfl⟩
def f_1(X:Gt):KK:=λe n t=>X e λv=>some (v,⟨n,t⟩)
def e1(i:Nat)(r:aw)(h:r.s=.t i):KE:=⟨[.t i],f_1 r.ev,λe n t=>by rw[f_1,r.ok,h];simp[DM.fin,jl,rvs,RV.ev,j8,ac.ev,St.fs]⟩
theorem aha{E:Nat->D}{H:Nat->Option Obj}:∀(a:List Nat),rvs E H (a.map RV.t)=some (a.map E)
 | []=>rfl
 |n::a=>by simp[rvs,RV.ev,aha a]
def f_n(Rs:List Gt):KK:=λe n t=>abj Rs e λl=>some (.tup l,⟨n,t⟩)
theorem ajN(i j:Nat)(a:List Nat)(b:List aw)(h:b.map (·.s)=(i::j::a).map ac.t)(e:Env)(n:Nat)(t:Tr Obj):f_n (b.map (·.ev)) e n t=DM.fin ((i::j::a).map RV.t) .ret ⟨e,⟨n,t⟩⟩:=by rw[f_n,xE,h];simp only[DM.fin,jl,aha,j8,Cu];rfl
def en(i j:Nat)(b:List Nat)(a:List aw)(h:a.map (·.s)=(i::j::b).map ac.t):KE:=⟨(i::j::b).map RV.t,f_n (a.map (·.ev)),ajN i j b a h⟩
def aeX(F:FnC)(c:List Pt)(f:KK)(b:Wn):Sp->List D->Hp->Res:=λΓ a hp=>yW (gr Γ LL F a hp) (λe=>Hp.rec (motive:=λ_=>Res) (λn t=>b Γ (exR f (λ_ _ _ _=>none) f) e n t) hp) c a ub
theorem ajO(g:Nat)(d:List aF)(f:KE)(b:KC)(h:d.map (·.n)=Bq 0 d.length)(j:AO d.length g=true)(Γ:Sp)(a:List D)(hp:Hp):aeX ⟨g,f.rs,b.c⟩ (d.map (·.set)) f.fin b.run Γ a hp=gr Γ LL ⟨g,f.rs,b.c⟩ a hp:=by
 simp only[aeX];rw[acY _ _ d a ub 0 h];split
 ·rename_i k;simp only[gr,fa,Aw,k,j,chk,cond_true]
  congr 1
  funext e;obtain⟨n,t⟩:=hp;show b.run Γ _ e n t=_;rw[b.ok]
  congr 1
  funext x s;cases x with
  |normal=>exact f.ok s.env s.hp.n s.hp.t
  |exit i=>rfl
  |ret=>exact f.ok s.env s.hp.n s.hp.t
 ·rfl
def kfn(d:Nat)(a:List aF)(f:KE)(b:KC)(h:a.map (·.n)=Bq 0 a.length)(e:AO a.length d=true):KF:=⟨⟨d,f.rs,b.c⟩,aeX ⟨d,f.rs,b.c⟩ (a.map (·.set)) f.fin b.run,ajO d a f b h e⟩
def KF.aa(a:KF)(r:Sp->List D->Hp->Res)(h:a.run=r):KF:=⟨a.F,r,λΓ b hp=>by rw[<-h];exact a.ok Γ b hp⟩
inductive BT where
 |e
 |n (l:BT) (k:Nat) (v:KF) (r:BT)
def BT.find(t:BT):Nat->Option KF:=BT.rec (motive:=λ_=>Nat->Option KF) (λ_=>none) (λ_ k v _ a b f=>Ar (motive:=λ_=>Option KF) (Ar (motive:=λ_=>Option KF) (b f) (a f) (AV f k)) (some v) (Af f k)) t
def BT.list:BT->List (Nat×KF)
 | .e=>[]
 | .n l k v r=>l.list++(k,v)::r.list
theorem BT.find_mem:∀{t:BT}{f:Nat}{F:KF},t.find f=some F->(f,F)∈t.list
 | .e,f,F,h=>by simp[BT.find] at h
 | .n l k v r,f,F,h=>by
   have h:Ar (motive:=λ_=>Option KF) (Ar (motive:=λ_=>Option KF) (r.find f) (l.find f) (AV f k)) (some v) (Af f k)=some F:=h;rw[bk,bk] at h;simp only[BT.list,AB,AT];cases a:Af f k with
   |true=>rw[a] at h;obtain rfl:=Ai h;rw[AA a];exact .inr (.inl rfl)
   |false=>
    rw[a] at h;simp only[cond_false] at h;cases b:AV f k with
    |true=>rw[b] at h;exact .inl (BT.find_mem h)
    |false=>rw[b] at h;exact .inr (.inr (BT.find_mem h))
def nd(T:Nat->Option KF)(d:Nat):Sp:=Nat.rec (motive:=λ_=>Sp) (λ_ _ _=>none) (λ_ b f a hp=>Cg (motive:=λ_=>Res) none (λF=>F.run b a hp) (T f)) d
theorem aaG(T:Nat->Option KF):∀d,nd T d=wj (λf=>(T f).map (·.F)) LL d
 |0=>rfl
 |d+1=>by
  funext f a hp;show Cg (motive:=λ_=>Res) none (λF=>F.run (nd T d) a hp) (T f)=_;simp only[wj];cases T f with
  |none=>rfl
  |some F=>exact(F.ok _ _ _).trans (by rw[aaG T d];rfl)
section
variable{P:Program}{T:Nat->Bool}
end
end
end Go.DM
namespace Go.Proofs.Ytdpajabhmmmjoaa.ofRun
open Go.AM
section
open Go.DM
def G0:Gt:=λE K=>K E.lo.a.a
def t0:aw:=⟨.t 0,G0,λ_ _=>rfl⟩
def S0:Pt:=λV E K=>cp E oP ago V K
def s0:aF:=⟨0,S0,λ_ _ _=>rfl⟩
def G2:Gt:=λE K=>K E.lo.a.c
def t2:aw:=⟨.t 2,G2,λ_ _=>rfl⟩
def S2:Pt:=λV E K=>cp E oP agp V K
def s2:aF:=⟨2,S2,λ_ _ _=>rfl⟩
def G3:Gt:=λE K=>K E.lo.a.d
def t3:aw:=⟨.t 3,G3,λ_ _=>rfl⟩
def S3:Pt:=λV E K=>cp E oP agq V K
def s3:aF:=⟨3,S3,λ_ _ _=>rfl⟩
def G4:Gt:=λE K=>K E.lo.a.e
def t4:aw:=⟨.t 4,G4,λ_ _=>rfl⟩
def S4:Pt:=λV E K=>cp E oP aip V K
def s4:aF:=⟨4,S4,λ_ _ _=>rfl⟩
def G5:Gt:=λE K=>K E.lo.a.f
def t5:aw:=⟨.t 5,G5,λ_ _=>rfl⟩
def S5:Pt:=λV E K=>cp E oP agr V K
def s5:aF:=⟨5,S5,λ_ _ _=>rfl⟩
def G6:Gt:=λE K=>K E.lo.a.g
def t6:aw:=⟨.t 6,G6,λ_ _=>rfl⟩
def S6:Pt:=λV E K=>cp E oP ags V K
def s6:aF:=⟨6,S6,λ_ _ _=>rfl⟩
def G7:Gt:=λE K=>K E.lo.a.h
def t7:aw:=⟨.t 7,G7,λ_ _=>rfl⟩
def S7:Pt:=λV E K=>cp E oP aiq V K
def s7:aF:=⟨7,S7,λ_ _ _=>rfl⟩
def G8:Gt:=λE K=>K E.lo.a.i
def t8:aw:=⟨.t 8,G8,λ_ _=>rfl⟩
def S8:Pt:=λV E K=>cp E oP agt V K
def s8:aF:=⟨8,S8,λ_ _ _=>rfl⟩
def G9:Gt:=λE K=>K E.lo.a.j
def t9:aw:=⟨.t 9,G9,λ_ _=>rfl⟩
def S9:Pt:=λV E K=>cp E oP agu V K
def s9:aF:=⟨9,S9,λ_ _ _=>rfl⟩
def G10:Gt:=λE K=>K E.lo.a.k
def t10:aw:=⟨.t 10,G10,λ_ _=>rfl⟩
def S10:Pt:=λV E K=>cp E oP agv V K
def s10:aF:=⟨10,S10,λ_ _ _=>rfl⟩
def G11:Gt:=λE K=>K E.lo.a.l
def t11:aw:=⟨.t 11,G11,λ_ _=>rfl⟩
def S11:Pt:=λV E K=>cp E oP agw V K
def s11:aF:=⟨11,S11,λ_ _ _=>rfl⟩
def G12:Gt:=λE K=>K E.lo.a.m
def t12:aw:=⟨.t 12,G12,λ_ _=>rfl⟩
def S12:Pt:=λV E K=>cp E oP agx V K
def s12:aF:=⟨12,S12,λ_ _ _=>rfl⟩
def G13:Gt:=λE K=>K E.lo.a.n
def t13:aw:=⟨.t 13,G13,λ_ _=>rfl⟩
def S13:Pt:=λV E K=>cp E oP agy V K
def s13:aF:=⟨13,S13,λ_ _ _=>rfl⟩
def G14:Gt:=λE K=>K E.lo.a.o
def t14:aw:=⟨.t 14,G14,λ_ _=>rfl⟩
def S14:Pt:=λV E K=>cp E oP agz V K
def s14:aF:=⟨14,S14,λ_ _ _=>rfl⟩
def G15:Gt:=λE K=>K E.lo.a.p
def t15:aw:=⟨.t 15,G15,λ_ _=>rfl⟩
def S16:Pt:=λV E K=>cp E nK ago V K
def s16:aF:=⟨16,S16,λ_ _ _=>rfl⟩
def G17:Gt:=λE K=>K E.lo.b.b
def t17:aw:=⟨.t 17,G17,λ_ _=>rfl⟩
def S17:Pt:=λV E K=>cp E nK aio V K
def s17:aF:=⟨17,S17,λ_ _ _=>rfl⟩
def G18:Gt:=λE K=>K E.lo.b.c
def t18:aw:=⟨.t 18,G18,λ_ _=>rfl⟩
def S18:Pt:=λV E K=>cp E nK agp V K
def s18:aF:=⟨18,S18,λ_ _ _=>rfl⟩
def S19:Pt:=λV E K=>cp E nK agq V K
def s19:aF:=⟨19,S19,λ_ _ _=>rfl⟩
def G20:Gt:=λE K=>K E.lo.b.e
def t20:aw:=⟨.t 20,G20,λ_ _=>rfl⟩
def G21:Gt:=λE K=>K E.lo.b.f
def t21:aw:=⟨.t 21,G21,λ_ _=>rfl⟩
def S21:Pt:=λV E K=>cp E nK agr V K
def s21:aF:=⟨21,S21,λ_ _ _=>rfl⟩
def G22:Gt:=λE K=>K E.lo.b.g
def t22:aw:=⟨.t 22,G22,λ_ _=>rfl⟩
def S22:Pt:=λV E K=>cp E nK ags V K
def s22:aF:=⟨22,S22,λ_ _ _=>rfl⟩
def G23:Gt:=λE K=>K E.lo.b.h
def t23:aw:=⟨.t 23,G23,λ_ _=>rfl⟩
def S23:Pt:=λV E K=>cp E nK aiq V K
def s23:aF:=⟨23,S23,λ_ _ _=>rfl⟩
def G24:Gt:=λE K=>K E.lo.b.i
def t24:aw:=⟨.t 24,G24,λ_ _=>rfl⟩
def S24:Pt:=λV E K=>cp E nK agt V K
def s24:aF:=⟨24,S24,λ_ _ _=>rfl⟩
def G25:Gt:=λE K=>K E.lo.b.j
def t25:aw:=⟨.t 25,G25,λ_ _=>rfl⟩
def S25:Pt:=λV E K=>cp E nK agu V K
def s25:aF:=⟨25,S25,λ_ _ _=>rfl⟩
def G26:Gt:=λE K=>K E.lo.b.k
def t26:aw:=⟨.t 26,G26,λ_ _=>rfl⟩
def S26:Pt:=λV E K=>cp E nK agv V K
def s26:aF:=⟨26,S26,λ_ _ _=>rfl⟩
def G27:Gt:=λE K=>K E.lo.b.l
def t27:aw:=⟨.t 27,G27,λ_ _=>rfl⟩
def S27:Pt:=λV E K=>cp E nK agw V K
def s27:aF:=⟨27,S27,λ_ _ _=>rfl⟩
def G28:Gt:=λE K=>K E.lo.b.m
def t28:aw:=⟨.t 28,G28,λ_ _=>rfl⟩
def S28:Pt:=λV E K=>cp E nK agx V K
def s28:aF:=⟨28,S28,λ_ _ _=>rfl⟩
def G29:Gt:=λE K=>K E.lo.b.n
def t29:aw:=⟨.t 29,G29,λ_ _=>rfl⟩
def S29:Pt:=λV E K=>cp E nK agy V K
def s29:aF:=⟨29,S29,λ_ _ _=>rfl⟩
def G30:Gt:=λE K=>K E.lo.b.o
def t30:aw:=⟨.t 30,G30,λ_ _=>rfl⟩
def S30:Pt:=λV E K=>cp E nK agz V K
def s30:aF:=⟨30,S30,λ_ _ _=>rfl⟩
def G31:Gt:=λE K=>K E.lo.b.p
def t31:aw:=⟨.t 31,G31,λ_ _=>rfl⟩
def S31:Pt:=λV E K=>cp E nK air V K
def s31:aF:=⟨31,S31,λ_ _ _=>rfl⟩
def G32:Gt:=λE K=>K E.lo.c.a
def t32:aw:=⟨.t 32,G32,λ_ _=>rfl⟩
def S32:Pt:=λV E K=>cp E nL ago V K
def s32:aF:=⟨32,S32,λ_ _ _=>rfl⟩
def G33:Gt:=λE K=>K E.lo.c.b
def t33:aw:=⟨.t 33,G33,λ_ _=>rfl⟩
def S33:Pt:=λV E K=>cp E nL aio V K
def s33:aF:=⟨33,S33,λ_ _ _=>rfl⟩
def G34:Gt:=λE K=>K E.lo.c.c
def t34:aw:=⟨.t 34,G34,λ_ _=>rfl⟩
def S34:Pt:=λV E K=>cp E nL agp V K
def s34:aF:=⟨34,S34,λ_ _ _=>rfl⟩
def G35:Gt:=λE K=>K E.lo.c.d
def t35:aw:=⟨.t 35,G35,λ_ _=>rfl⟩
def S35:Pt:=λV E K=>cp E nL agq V K
def s35:aF:=⟨35,S35,λ_ _ _=>rfl⟩
def G36:Gt:=λE K=>K E.lo.c.e
def t36:aw:=⟨.t 36,G36,λ_ _=>rfl⟩
def S36:Pt:=λV E K=>cp E nL aip V K
def s36:aF:=⟨36,S36,λ_ _ _=>rfl⟩
def G37:Gt:=λE K=>K E.lo.c.f
def t37:aw:=⟨.t 37,G37,λ_ _=>rfl⟩
def S37:Pt:=λV E K=>cp E nL agr V K
def s37:aF:=⟨37,S37,λ_ _ _=>rfl⟩
def S38:Pt:=λV E K=>cp E nL ags V K
def s38:aF:=⟨38,S38,λ_ _ _=>rfl⟩
def G39:Gt:=λE K=>K E.lo.c.h
def t39:aw:=⟨.t 39,G39,λ_ _=>rfl⟩
def G40:Gt:=λE K=>K E.lo.c.i
def t40:aw:=⟨.t 40,G40,λ_ _=>rfl⟩
def S40:Pt:=λV E K=>cp E nL agt V K
def s40:aF:=⟨40,S40,λ_ _ _=>rfl⟩
def G41:Gt:=λE K=>K E.lo.c.j
def t41:aw:=⟨.t 41,G41,λ_ _=>rfl⟩
def S41:Pt:=λV E K=>cp E nL agu V K
def s41:aF:=⟨41,S41,λ_ _ _=>rfl⟩
def G42:Gt:=λE K=>K E.lo.c.k
def t42:aw:=⟨.t 42,G42,λ_ _=>rfl⟩
def S42:Pt:=λV E K=>cp E nL agv V K
def s42:aF:=⟨42,S42,λ_ _ _=>rfl⟩
def G43:Gt:=λE K=>K E.lo.c.l
def t43:aw:=⟨.t 43,G43,λ_ _=>rfl⟩
def S43:Pt:=λV E K=>cp E nL agw V K
def s43:aF:=⟨43,S43,λ_ _ _=>rfl⟩
def G44:Gt:=λE K=>K E.lo.c.m
def t44:aw:=⟨.t 44,G44,λ_ _=>rfl⟩
def S44:Pt:=λV E K=>cp E nL agx V K
def s44:aF:=⟨44,S44,λ_ _ _=>rfl⟩
def G45:Gt:=λE K=>K E.lo.c.n
def t45:aw:=⟨.t 45,G45,λ_ _=>rfl⟩
def S45:Pt:=λV E K=>cp E nL agy V K
def s45:aF:=⟨45,S45,λ_ _ _=>rfl⟩
def G46:Gt:=λE K=>K E.lo.c.o
def t46:aw:=⟨.t 46,G46,λ_ _=>rfl⟩
def S46:Pt:=λV E K=>cp E nL agz V K
def s46:aF:=⟨46,S46,λ_ _ _=>rfl⟩
def G47:Gt:=λE K=>K E.lo.c.p
def t47:aw:=⟨.t 47,G47,λ_ _=>rfl⟩
def S47:Pt:=λV E K=>cp E nL air V K
def s47:aF:=⟨47,S47,λ_ _ _=>rfl⟩
def z0:KC:=aj2 (gw (dno 0 (z7 s28 0 t3)) (gw (agP 1 (kld s29 t28) t28 false rfl rfl) (gw (dno 2 (z7 s30 0 t3)) (gw (agP 3 (kld s31 t30) t30 false rfl rfl) (gw (dno 4 (aiD s32 10 t31 (kc (.int .i64 0)))) (gw (dno 5 (z7 s33 8 t32)) (gw (agP 6 (kld s34 t33) t33 false rfl rfl) (gw (dno 7 (qa s35 t4)) (gw (dno 8 (agI s36 (kc (.int .i64 97)) t35 abe)) (gw (dno 9 (ajV s37 .u8 t36)) (gw (dmn 10 (ajZ s38 5 [t37]) rfl) (gw (dno 11 (kfb ⟨(some 39),none,.b2s (.t 38)⟩ rfl)) (gw (dno 12 (qa s40 t4)) (gw (dno 13 (agI s41 t40 (kc (.int .i64 1)) abe)) (gw (dno 14 (aeL s42 [.str [],.nils,.int .i64 0,.bool false,.int .i64 0,.int .i64 0,.str [],.nils,.nils] [(0,1,t39),(2,1,t41)])) (gw (dmn 15 (agL s43 69 9 [t42] 1 rfl) rfl) (gw (dma 16 (aiL s44 69 9 136 t34 t43) t34 t43 69 9 136 rfl) (gw (dno 17 (aiD s45 10 t29 (kc (.int .i64 0)))) (gw (dno 18 (z7 s46 8 t45)) (gw (dno 19 (kst t46 t44)) aj1)))))))))))))))))))) 20 [(18,9),(16,9),(13,9),(18,4),(16,4),(13,4),(18,3)] [[],[0],[],[2],[2,3],[2,3,4],[2,3,4,5],[],[7],[7,8],[7,8,9],[7,8,9,10],[],[12],[7,8,9,10,11,12,13],[7,8,9,10,11,12,13,14],[2,3,4,5,6,7,8,9,10,11,12,13,14,15],[0,1,2,3,4,5,6,7,8,9,10,11,12,13,14,15,16],[0,1,2,3,4,5,6,7,8,9,10,11,12,13,14,15,16,17],[0,1,2,3,4,5,6,7,8,9,10,11,12,13,14,15,16,17,18]] (by kernel_rfl) (by kernel_rfl) (by kernel_rfl)
def f35:KF:=kfn 48 [s0] (aj3 [.cell 2 1 true]) (sI (vR (kmk (aiH s2 26 [.nils]) vQ)) (sI (vR (kop (aeL s6 [.int .i64 0,.str [],.nils,.int .i64 0,.nils,.bool false,.str [],.int .i64 0,.nils,.nils] [(0,1,(kc (.int .i64 9))),(1,1,(kc (.str [82])))]) (kmk (agL s7 53 10 [t6] 1 rfl) (kop (aeL s8 [.nils] [(0,1,t7)]) (kmk (aiH s3 26 [.nils]) (kop (aiO 1 t3 t8) vQ)))))) (sI (sI (vR (kop (qa s4 (kc (.int .i64 0))) vQ)) (afM 0 (ajM (sI (sI (vR (kop (qa s9 t4) (kop (qa s10 t0) (kop (ajG s11 t10) (kop (ajW s12 t9 t11 abe) vQ))))) (ajL t12 ajJ (ajK 0))) (sI (afM 1 (sI (vR (kmk (kmb (some 15) (.mkm) rfl) (kop (kfb ⟨none,none,.mup 0 0 (.t 15) (.c (.int .u8 105)) (.c (.int .i64 3))⟩ rfl) (kop (kfb ⟨none,none,.mup 0 0 (.t 15) (.c (.int .u8 108)) (.c (.int .i64 4))⟩ rfl) (kop (kfb ⟨none,none,.mup 0 0 (.t 15) (.c (.int .u8 102)) (.c (.int .i64 5))⟩ rfl) (kop (kfb ⟨none,none,.mup 0 0 (.t 15) (.c (.int .u8 100)) (.c (.int .i64 6))⟩ rfl) (kop (kfb ⟨none,none,.mup 0 0 (.t 15) (.c (.int .u8 115)) (.c (.int .i64 8))⟩ rfl) (kop (kfb ⟨none,none,.mup 0 0 (.t 15) (.c (.int .u8 98)) (.c (.int .i64 7))⟩ rfl) (kop (kfb ⟨none,none,.mup 0 0 (.t 15) (.c (.int .u8 110)) (.c (.int .i64 1))⟩ rfl) (kop (kfb ⟨none,none,.mup 0 0 (.t 15) (.c (.int .u8 111)) (.c (.int .i64 2))⟩ rfl) (kop (qa s16 t15) (kop (qa s17 t0) (kop (qa s18 t4) (kop (ajX s19 t17 t18) (kop (kfb ⟨(some 20),none,.lkp 0 0 [.int .i64 0] false false (.t 16) (.t 19)⟩ rfl) (kop (qa s5 t20) vQ)))))))))))))))) (sI (vR (kop (z7 s21 0 t3) (kop (kld s22 t21) (kop (qa s23 t5) (kop (aeL s24 [.int .i64 0,.str [],.nils,.int .i64 0,.nils,.bool false,.str [],.int .i64 0,.nils,.nils] [(0,1,t23)]) (kmk (agL s25 53 10 [t24] 1 rfl) (kmk (aiL s26 53 10 160 t22 t25) (kop (z7 s27 0 t3) (kop (kst t27 t26) vQ))))))))) z0))) (vR (kop (qa s13 t4) (kop (agI s14 t13 (kc (.int .i64 1)) abe) (kop (qa s4 t14) vQ))))))))) (sI (vR (kop (ajY s47 0 t3) (kop (aiO 1 t2 t47) vQ))) aj0)))) (by kernel_rfl) (by kernel_rfl)
def g35:Sp->List D->Hp->Res:=aeX f35.F [S0] (ag9 [.cell 2 1 true]) (mK (qC (m2 (yR S2 26 [.nils]) c0)) (mK (qC (c2 (uj ⟨(some 6),none,.bld [.int .i64 0,.str [],.nils,.int .i64 0,.nils,.bool false,.str [],.int .i64 0,.nils,.nils] [(0,1,.c (.int .i64 9)),(1,1,.c (.str [82]))]⟩ S6 [.int .i64 0,.str [],.nils,.int .i64 0,.nils,.bool false,.str [],.int .i64 0,.nils,.nils] [(0,1,(cst (.int .i64 9))),(1,1,(cst (.str [82])))]) (m2 (wt (.bsl 53 10 [.t 6]) (some 7) S7 53 10 [G6] 1) (c2 (uj ⟨(some 8),none,.bld [.nils] [(0,1,.t 7)]⟩ S8 [.nils] [(0,1,G7)]) (m2 (yR S3 26 [.nils]) (c2 (yU ⟨none,none,.st 1 (.t 3) (.t 8)⟩ 1 G3 G8) c0)))))) (mK (mK (qC (c2 (kF S4 (cst (.int .i64 0))) c0)) (tn 0 (acR (mK (mK (qC (c2 (kF S9 G4) (c2 (kF S10 G0) (c2 (yP ⟨(some 11),none,.len true (.t 10)⟩ S11 G10) (c2 (abg ⟨(some 12),none,.bin .lss (.t 9) (.t 11)⟩ S12 G9 G11 wk) c0))))) (yV G12 afK (afL 0))) (mK (tn 1 (mK (qC (m2 (mJ (.mkm) (some 15)) (c2 (fb ⟨none,none,.mup 0 0 (.t 15) (.c (.int .u8 105)) (.c (.int .i64 3))⟩) (c2 (fb ⟨none,none,.mup 0 0 (.t 15) (.c (.int .u8 108)) (.c (.int .i64 4))⟩) (c2 (fb ⟨none,none,.mup 0 0 (.t 15) (.c (.int .u8 102)) (.c (.int .i64 5))⟩) (c2 (fb ⟨none,none,.mup 0 0 (.t 15) (.c (.int .u8 100)) (.c (.int .i64 6))⟩) (c2 (fb ⟨none,none,.mup 0 0 (.t 15) (.c (.int .u8 115)) (.c (.int .i64 8))⟩) (c2 (fb ⟨none,none,.mup 0 0 (.t 15) (.c (.int .u8 98)) (.c (.int .i64 7))⟩) (c2 (fb ⟨none,none,.mup 0 0 (.t 15) (.c (.int .u8 110)) (.c (.int .i64 1))⟩) (c2 (fb ⟨none,none,.mup 0 0 (.t 15) (.c (.int .u8 111)) (.c (.int .i64 2))⟩) (c2 (kF S16 G15) (c2 (kF S17 G0) (c2 (kF S18 G4) (c2 (abh ⟨(some 19),none,.idx (.t 17) (.t 18)⟩ S19 G17 G18) (c2 (fb ⟨(some 20),none,.lkp 0 0 [.int .i64 0] false false (.t 16) (.t 19)⟩) (c2 (kF S5 G20) c0)))))))))))))))) (mK (qC (c2 (qB ⟨(some 21),none,.fad 0 (.t 3)⟩ S21 0 G3) (c2 (xD ⟨(some 22),none,.ld 1 false (.t 21)⟩ S22 G21) (c2 (kF S23 G5) (c2 (uj ⟨(some 24),none,.bld [.int .i64 0,.str [],.nils,.int .i64 0,.nils,.bool false,.str [],.int .i64 0,.nils,.nils] [(0,1,.t 23)]⟩ S24 [.int .i64 0,.str [],.nils,.int .i64 0,.nils,.bool false,.str [],.int .i64 0,.nils,.nils] [(0,1,G23)]) (m2 (wt (.bsl 53 10 [.t 24]) (some 25) S25 53 10 [G24] 1) (m2 (yS (.app 53 10 160 (.t 22) (.t 25)) (some 26) S26 53 10 160 G22 G25) (c2 (qB ⟨(some 27),none,.fad 0 (.t 3)⟩ S27 0 G3) (c2 (acO ⟨none,none,.st 1 (.t 27) (.t 26)⟩ G27 G26) c0))))))))) (abn (p2 (mP (qB ⟨(some 28),none,.fad 0 (.t 3)⟩ S28 0 G3)) (p2 (acV G28 false (xD ⟨(some 29),none,.ld 1 false (.t 28)⟩ S29 G28)) (p2 (mP (qB ⟨(some 30),none,.fad 0 (.t 3)⟩ S30 0 G3)) (p2 (acV G30 false (xD ⟨(some 31),none,.ld 1 false (.t 30)⟩ S31 G30)) (p2 (mP (yQ ⟨(some 32),none,.ixa 10 (.t 31) (.c (.int .i64 0))⟩ S32 10 G31 (cst (.int .i64 0)))) (p2 (mP (qB ⟨(some 33),none,.fad 8 (.t 32)⟩ S33 8 G32)) (p2 (acV G33 false (xD ⟨(some 34),none,.ld 1 false (.t 33)⟩ S34 G33)) (p2 (mP (kF S35 G4)) (p2 (mP (wo ⟨(some 36),none,.bin .add (.c (.int .i64 97)) (.t 35)⟩ S36 (cst (.int .i64 97)) G35 wk 9223372036854775808)) (p2 (mP (abf ⟨(some 37),none,.cvi .u8 (.t 36)⟩ S37 .u8 G36)) (p2 (aeU 10 (abk (.bsl 5 1 [.t 37]) (some 38) S38 5 [G37])) (p2 (mP (fb ⟨(some 39),none,.b2s (.t 38)⟩)) (p2 (mP (kF S40 G4)) (p2 (mP (wo ⟨(some 41),none,.bin .add (.t 40) (.c (.int .i64 1))⟩ S41 G40 (cst (.int .i64 1)) wk 9223372036854775808)) (p2 (mP (uj ⟨(some 42),none,.bld [.str [],.nils,.int .i64 0,.bool false,.int .i64 0,.int .i64 0,.str [],.nils,.nils] [(0,1,.t 39),(2,1,.t 41)]⟩ S42 [.str [],.nils,.int .i64 0,.bool false,.int .i64 0,.int .i64 0,.str [],.nils,.nils] [(0,1,G39),(2,1,G41)])) (p2 (aeU 15 (wt (.bsl 69 9 [.t 42]) (some 43) S43 69 9 [G42] 1)) (p2 (agQ 16 G34 G43 (yS (.app 69 9 136 (.t 34) (.t 43)) (some 44) S44 69 9 136 G34 G43)) (p2 (mP (yQ ⟨(some 45),none,.ixa 10 (.t 29) (.c (.int .i64 0))⟩ S45 10 G29 (cst (.int .i64 0)))) (p2 (mP (qB ⟨(some 46),none,.fad 8 (.t 45)⟩ S46 8 G45)) (p2 (mP (acO ⟨none,none,.st 1 (.t 46) (.t 44)⟩ G46 G44)) p0)))))))))))))))))))) 20 [(18,9),(16,9),(13,9),(18,4),(16,4),(13,4),(18,3)] z0.c)))) (qC (c2 (kF S13 G4) (c2 (wo ⟨(some 14),none,.bin .add (.t 13) (.c (.int .i64 1))⟩ S14 G13 (cst (.int .i64 1)) wk 9223372036854775808) (c2 (kF S4 G14) c0))))))))) (mK (qC (c2 (abi ⟨(some 47),none,.ld 1 true (.t 3)⟩ S47 0 G3) (c2 (yU ⟨none,none,.st 1 (.t 2) (.t 47)⟩ 1 G2 G47) c0))) ag8))))
def h35:KF:=f35.aa g35 (by kernel_rfl)
def ts:BT:=(.n .e 35 h35 .e)
end
section
open Go.DM
theorem ts_ok:(ts.list.all λp=>gt Try.prog [] (λ_=>true) p.1 p.2.F)=true:=by kernel_rfl
end
end Go.Proofs.Ytdpajabhmmmjoaa.ofRun
namespace Go.DM
open Go.AM
structure px where
 f:Nat
 aa:List D
 v:D
 os:List (Nat×Obj)
def ng(k:px)(r:Res):Bool:= @Option.rec (D×Hp) (λ_=>Bool) false (λp=>Prod.rec (motive:=λ_=>Bool) (λv h=>Hp.rec (motive:=λ_=>Bool) (λn t=>Ar (motive:=λ_=>Bool) false (k.os.all λp=>nJ (pf t p.1) (some p.2)) (dI v k.v)) h) p) r
theorem aeY{k:px}{r:Res}(h:ng k r=true):∃hp,r=some (k.v,hp)∧∀j o,(j,o)∈k.os->hp.t.get j=some o:=by
 cases r with
 |none=>simp[ng] at h
 |some p=>
  obtain⟨v,n,t⟩:=p;have h:Ar (motive:=λ_=>Bool) false (k.os.all λp=>nJ (pf t p.1) (some p.2)) (dI v k.v)=true:=h;rw[bk] at h;cases a:dI v k.v with
  |false=>rw[a] at h;simp at h
  |true=>rw[a,cond_true] at h;refine⟨⟨n,t⟩,by rw[th _ _ a],λj o b=>?_⟩;have:=Ak.1 h (j,o) b;rw[kV] at this;exact adL this
theorem knownN{P:Program}{T:Nat->Bool}{t:BT}(i:(t.list.all λp=>gt P [] T p.1 p.2.F)=true){d:Nat}{k:px}(c:ng k (nd t.find d k.f k.aa ⟨0,.e⟩)=true):∃hp,FnOK P [] k.f k.aa ⟨0,.e⟩ k.v hp∧∀j o,(j,o)∈k.os->hp.t.get j=some o:=by
 obtain⟨hp,a,m⟩:=aeY c;rw[aaG] at a;have g:∀f F,(λf=>(t.find f).map (·.F)) f=some F->gt P [] T f F=true:=λf F h=>by rw[Ah] at h;obtain⟨K,b,rfl⟩:=h;exact Ak.1 i _ (BT.find_mem b)
 exact⟨hp,(acL g LL d _ _ _ _ _ a).2,m⟩
end Go.DM
namespace Go.Proofs.Ytdpajabhmmmjoaa.ofRun
open Go.AM
section
open Go.DM
def ah:List D:=[.int .i64 (9),.str [82],.nils,.int .i64 (0),.nils,.bool false,.str [],.int .i64 (0),.nils,.nils]
def k0:px:=⟨35,[.sym .u8 0],.agg [.sl 1 0 1 10 (some 1)],[(1,.cells 53 true ah)]⟩
theorem ev0:ng k0 (nd ts.find 10 k0.f k0.aa ⟨0,.e⟩)=true:=by kernel_rfl
def ai:List D:=[.str [97],.nils,.int .i64 (1),.bool false,.int .i64 (0),.int .i64 (0),.str [],.nils,.nils]
def aj:List D:=[.int .i64 (9),.str [82],.nils,.int .i64 (0),.nils,.bool false,.str [],.int .i64 (0),.sl 22 0 1 9 none,.nils,.sym .i64 20,.str [],.nils,.int .i64 (0),.nils,.bool false,.str [],.int .i64 (0),.nils,.nils]
def k1:px:=⟨35,[.sym .u8 1],.agg [.sl 5 0 2 10 none],[(22,.cells 69 false ai),(5,.cells 53 false aj)]⟩
theorem ev1:ng k1 (nd ts.find 10 k1.f k1.aa ⟨0,.e⟩)=true:=by kernel_rfl
def aj4:List D:=[.str [97],.nils,.int .i64 (1),.bool false,.int .i64 (0),.int .i64 (0),.str [],.nils,.nils,.str [98],.nils,.int .i64 (2),.bool false,.int .i64 (0),.int .i64 (0),.str [],.nils,.nils]
def aj5:List D:=[.int .i64 (9),.str [82],.nils,.int .i64 (0),.nils,.bool false,.str [],.int .i64 (0),.sl 45 0 2 9 none,.nils,.sym .i64 20,.str [],.nils,.int .i64 (0),.nils,.bool false,.str [],.int .i64 (0),.nils,.nils,.sym .i64 21,.str [],.nils,.int .i64 (0),.nils,.bool false,.str [],.int .i64 (0),.nils,.nils]
def k2:px:=⟨35,[.sym .u8 2],.agg [.sl 28 0 3 10 none],[(45,.cells 69 false aj4),(28,.cells 53 false aj5)]⟩
theorem ev2:ng k2 (nd ts.find 10 k2.f k2.aa ⟨0,.e⟩)=true:=by kernel_rfl
def aj6:List D:=[.str [97],.nils,.int .i64 (1),.bool false,.int .i64 (0),.int .i64 (0),.str [],.nils,.nils,.str [98],.nils,.int .i64 (2),.bool false,.int .i64 (0),.int .i64 (0),.str [],.nils,.nils,.str [99],.nils,.int .i64 (3),.bool false,.int .i64 (0),.int .i64 (0),.str [],.nils,.nils]
def aj7:List D:=[.int .i64 (9),.str [82],.nils,.int .i64 (0),.nils,.bool false,.str [],.int .i64 (0),.sl 68 0 3 9 none,.nils,.sym .i64 20,.str [],.nils,.int .i64 (0),.nils,.bool false,.str [],.int .i64 (0),.nils,.nils,.sym .i64 21,.str [],.nils,.int .i64 (0),.nils,.bool false,.str [],.int .i64 (0),.nils,.nils,.sym .i64 22,.str [],.nils,.int .i64 (0),.nils,.bool false,.str [],.int .i64 (0),.nils,.nils]
def k3:px:=⟨35,[.sym .u8 3],.agg [.sl 51 0 4 10 none],[(68,.cells 69 false aj6),(51,.cells 53 false aj7)]⟩
theorem ev3:ng k3 (nd ts.find 10 k3.f k3.aa ⟨0,.e⟩)=true:=by kernel_rfl
def aj8:List D:=[.str [97],.nils,.int .i64 (1),.bool false,.int .i64 (0),.int .i64 (0),.str [],.nils,.nils,.str [98],.nils,.int .i64 (2),.bool false,.int .i64 (0),.int .i64 (0),.str [],.nils,.nils,.str [99],.nils,.int .i64 (3),.bool false,.int .i64 (0),.int .i64 (0),.str [],.nils,.nils,.str [100],.nils,.int .i64 (4),.bool false,.int .i64 (0),.int .i64 (0),.str [],.nils,.nils]
def aj9:List D:=[.int .i64 (9),.str [82],.nils,.int .i64 (0),.nils,.bool false,.str [],.int .i64 (0),.sl 91 0 4 9 none,.nils,.sym .i64 20,.str [],.nils,.int .i64 (0),.nils,.bool false,.str [],.int .i64 (0),.nils,.nils,.sym .i64 21,.str [],.nils,.int .i64 (0),.nils,.bool false,.str [],.int .i64 (0),.nils,.nils,.sym .i64 22,.str [],.nils,.int .i64 (0),.nils,.bool false,.str [],.int .i64 (0),.nils,.nils,.sym .i64 23,.str [],.nils,.int .i64 (0),.nils,.bool false,.str [],.int .i64 (0),.nils,.nils]
def k4:px:=⟨35,[.sym .u8 4],.agg [.sl 74 0 5 10 none],[(91,.cells 69 false aj8),(74,.cells 53 false aj9)]⟩
theorem ev4:ng k4 (nd ts.find 10 k4.f k4.aa ⟨0,.e⟩)=true:=by kernel_rfl
def aka:List D:=[.str [97],.nils,.int .i64 (1),.bool false,.int .i64 (0),.int .i64 (0),.str [],.nils,.nils,.str [98],.nils,.int .i64 (2),.bool false,.int .i64 (0),.int .i64 (0),.str [],.nils,.nils,.str [99],.nils,.int .i64 (3),.bool false,.int .i64 (0),.int .i64 (0),.str [],.nils,.nils,.str [100],.nils,.int .i64 (4),.bool false,.int .i64 (0),.int .i64 (0),.str [],.nils,.nils,.str [101],.nils,.int .i64 (5),.bool false,.int .i64 (0),.int .i64 (0),.str [],.nils,.nils]
def akb:List D:=[.int .i64 (9),.str [82],.nils,.int .i64 (0),.nils,.bool false,.str [],.int .i64 (0),.sl 114 0 5 9 none,.nils,.sym .i64 20,.str [],.nils,.int .i64 (0),.nils,.bool false,.str [],.int .i64 (0),.nils,.nils,.sym .i64 21,.str [],.nils,.int .i64 (0),.nils,.bool false,.str [],.int .i64 (0),.nils,.nils,.sym .i64 22,.str [],.nils,.int .i64 (0),.nils,.bool false,.str [],.int .i64 (0),.nils,.nils,.sym .i64 23,.str [],.nils,.int .i64 (0),.nils,.bool false,.str [],.int .i64 (0),.nils,.nils,.sym .i64 24,.str [],.nils,.int .i64 (0),.nils,.bool false,.str [],.int .i64 (0),.nils,.nils]
def k5:px:=⟨35,[.sym .u8 5],.agg [.sl 97 0 6 10 none],[(114,.cells 69 false aka),(97,.cells 53 false akb)]⟩
theorem ev5:ng k5 (nd ts.find 10 k5.f k5.aa ⟨0,.e⟩)=true:=by kernel_rfl
def akc:List D:=[.str [97],.nils,.int .i64 (1),.bool false,.int .i64 (0),.int .i64 (0),.str [],.nils,.nils,.str [98],.nils,.int .i64 (2),.bool false,.int .i64 (0),.int .i64 (0),.str [],.nils,.nils,.str [99],.nils,.int .i64 (3),.bool false,.int .i64 (0),.int .i64 (0),.str [],.nils,.nils,.str [100],.nils,.int .i64 (4),.bool false,.int .i64 (0),.int .i64 (0),.str [],.nils,.nils,.str [101],.nils,.int .i64 (5),.bool false,.int .i64 (0),.int .i64 (0),.str [],.nils,.nils,.str [102],.nils,.int .i64 (6),.bool false,.int .i64 (0),.int .i64 (0),.str [],.nils,.nils]
def akd:List D:=[.int .i64 (9),.str [82],.nils,.int .i64 (0),.nils,.bool false,.str [],.int .i64 (0),.sl 137 0 6 9 none,.nils,.sym .i64 20,.str [],.nils,.int .i64 (0),.nils,.bool false,.str [],.int .i64 (0),.nils,.nils,.sym .i64 21,.str [],.nils,.int .i64 (0),.nils,.bool false,.str [],.int .i64 (0),.nils,.nils,.sym .i64 22,.str [],.nils,.int .i64 (0),.nils,.bool false,.str [],.int .i64 (0),.nils,.nils,.sym .i64 23,.str [],.nils,.int .i64 (0),.nils,.bool false,.str [],.int .i64 (0),.nils,.nils,.sym .i64 24,.str [],.nils,.int .i64 (0),.nils,.bool false,.str [],.int .i64 (0),.nils,.nils,.sym .i64 25,.str [],.nils,.int .i64 (0),.nils,.bool false,.str [],.int .i64 (0),.nils,.nils]
def k6:px:=⟨35,[.sym .u8 6],.agg [.sl 120 0 7 10 none],[(137,.cells 69 false akc),(120,.cells 53 false akd)]⟩
theorem ev6:ng k6 (nd ts.find 10 k6.f k6.aa ⟨0,.e⟩)=true:=by kernel_rfl
end
end Go.Proofs.Ytdpajabhmmmjoaa.ofRun
namespace Go.DA
open Go.AM
section
open Go
abbrev Tb:=List (Nat×(Nat×Nat×AM.V))
def img(σ:DM.Sg)(T:Tb)(d:DM.D)(v:AM.V):AM.V:=match d with
 | .int k n=>.int k n
 | .bool b=>.bool b
 | .str l=>.str (l.map BX)
 | .sym k i=>match σ.t i with|none=>.int k (σ.n i)|some _=>.undef
 | .nils=>match v with| .sl k (.may false) []=>.sl k (.may false) []|_=>.undef
 | .sl id a len sz _=>match T.lookup id with
   |some (n,z,u)=>cond (Af a 0&&(Af n len&&Af z sz)) u .undef
   |none=>.undef
 |_=>.undef
def aac(σ:DM.Sg)(T:Tb):List DM.D->List AM.V->List AM.V
 |d::a,v::vs=>img σ T d v::aac σ T a vs
 |_,_=>[]
theorem xG{σ:DM.Sg}{T:Tb}:∀{b:List DM.D}{vs:List AM.V},aac σ T b vs=vs->∀(j:Nat) v,vs[j]? =some v->∃d,b[j]? =some d∧img σ T d v=v
 |_,[],_,j,v,h=>by simp at h
 | [],_::_,a,j,v,h=>by simp[aac] at a
 |d::b,u::vs,a,j,v,h=>by
  simp only[aac,Cw] at a;cases j with
  |zero=>simp only[Bl,Ab] at h;subst h;exact⟨d,by simp,a.1⟩
  |succ j=>simp only[A5] at h ⊢;exact xG a.2 j v h
section
variable{g:DM.Gh}{w:World}{I:Nat->Nat->Prop}
def yX(g:DM.Gh)(w:World)(I:Nat->Nat->Prop)(T:Tb):Prop:=∀id n z u,T.lookup id=some (n,z,u)->
 ∀c,n<=c->c<=AM.maxI->AM.VRel I (λ_=>0) 0 w u (.slice (some ⟨g.ρ id,0,none⟩) n c)
theorem val{T:Tb}(p:yX g w I T){d:DM.D}{cv:Value}(h:DM.VRel g d cv){v:AM.V}(a:img g.s.1 T d v=v):AM.VRel I (λ_=>0) 0 w v cv:=by
 cases h with
 |int k n h=>simp only[img] at a;subst a;exact .int k n h
 |bool b=>simp only[img] at a;subst a;exact .bool b
 |str l s m h=>
  simp only[img] at a;subst a;refine .str _ s ?_ h;rw[<-m,Cu]
  conv=>lhs;rw[<-List.map_id s.data.toList]
  refine AP λx _=>?_
  simp
 |sym k i j h=>simp only[img,j] at a;subst a;exact .int k _ h
 |symt k i l s j m h=>simp only[img,j] at a;subst a;exact .undef _
 |nils=>
  simp only[img] at a;split at a;·rw[<-a];exact .sln _ _
  ·subst a;exact .undef _
 |sl id f len sz cap c y A o q t=>
  simp only[img] at a;split at a
  ·rename_i n z u r;cases e:(Af f 0&&(Af n len&&Af z sz)) with
   |false=>rw[e] at a;subst a;exact .undef _
   |true=>rw[e] at a;simp only[cond_true] at a;subst a;simp only[Aa] at e;obtain rfl:=AA e.1;obtain rfl:=AA e.2.1;exact p _ _ _ _ r c o q
  ·subst a;exact .undef _
 |_=>simp only[img] at a;subst a;exact .undef _
theorem tab_nil:yX g w I []:=by intro id n z u h;simp at h
theorem tab_cons{H:Nat->Option DM.Obj}{N:Nat}(B:DM.HR g H N w)(L:∀id e f cs,H id=some (.cells e f cs)->∀j,j<cs.length->I (g.ρ id) j){T:Tb}(C:yX g w I T)
  {id e:Nat} {f:Bool} {cs:List DM.D} (E:H id=some (.cells e f cs)) (k:AM.EK) (xs:List (AM.Ty k)) (p:aac g.s.1 T cs (xs.flatMap (AM.enc k))=xs.flatMap (AM.enc k)) {z:Nat}:
  yX g w I ((id,(xs.length,z,.sl k (.may false) xs))::T):=by
 intro b n O u q c G F;rw[List.lookup_cons] at q;split at q
 ·rename_i y;obtain rfl:b=id:=by simpa using y
  simp only[Ab,Ae] at q;obtain⟨rfl,rfl,rfl⟩:=q;obtain⟨a,R,M,r⟩:=B.obj b e f cs E;have key:∀i x j v,xs[i]? =some x->(AM.enc k x)[j]? =some v->∃d u,cs[i*k.sz+j]? =some d∧a[i*k.sz+j]? =some u∧AM.VRel I (λ_=>0) 0 w v u:=by intro i x j v m t;obtain⟨d,o,P⟩:=xG p _ v (AM.flat_enc xs i j x v m t);have Q:=(Ad.1 o).1;have J:=r.len;have h:a[i*k.sz+j]? =some (a[i*k.sz+j]'(by omega)):=Ag _;exact⟨d,_,o,h,val C (r.rel _ _ _ o h) P⟩
  refine .sl k (.may false) xs (g.ρ b) 0 xs.length c rfl G F (by simp) (λi j=>a.getD (i*k.sz+j) undef) ?_ ?_ ?_;·intro i x j m A;obtain⟨d,u,o,h,_⟩:=key i x j _ m (Ac A);rw[Aw];exact L _ _ _ _ E _ (Ad.1 o).1
  ·intro i x j m A;obtain⟨d,u,o,h,_⟩:=key i x j _ m (Ac A);rw[Aw,AM.cell_of_heap M,h];simp[CU,h]
  ·intro i x j v m t;obtain⟨d,u,o,h,B⟩:=key i x j v m t;simp only[CU,h,Bw];exact B
 ·exact C b n O u q c G F
def calm:AM.V->Bool
 | .int .. | .bool _| .str _| .sl _ (.may false) _=>true
 |_=>false
theorem pure_of{P:Program}{f:FuncId}{vs:List AM.V}{aa J:List DM.D}{us:List AM.V}{hp':DM.Hp}(X:DM.FnOK P [] f aa ⟨0,.e⟩ (.agg J) hp')(σ:DM.Sig)
  (a3:vs.length=aa.length) (ha:∀(I:Nat->Nat->Prop)(ρ:Nat->Nat)(N:Nat)(w:World)(i:Nat) v d cv,vs[i]? =some v->aa[i]? =some d->AM.VRel I ρ N w v cv->DM.VRel ⟨λ_=>False,λ_=>0,λ_=>0,σ⟩ d cv)
  (T:Tb) (hT:∀(g:DM.Gh)(w:World)(I:Nat->Nat->Prop),g.s=σ->DM.HR g hp'.t.get hp'.n w->(∀id e f cs,hp'.t.get id=some (.cells e f cs)->∀j,j<cs.length->I (g.ρ id) j)->yX g w I T)
  (hu:aac σ.1 T J us=us) (hl:J.length=us.length) (m:us.all calm=true):AM.PureOK P f vs (.agg us):=by
 refine⟨[],?_⟩;intro w g cargs b0 y L H z;let g0:DM.Gh:=⟨λ_=>False,λ_=>0,λ_=>0,σ⟩
 have W:DM.HR g0 (DM.Tr.e:DM.Tr DM.Obj).get 0 w:=⟨λid e f cs h=>by simp[DM.Tr.get] at h,λid es h=>by simp[DM.Tr.get] at h,λid S o o' h=>by simp[DM.Tr.get] at h,λid o h=>by simp[DM.Tr.get] at h,λid h=>h.elim⟩
 refine(X w g0 cargs W (by simp) (by omega) (λi x cv hx q=>?_)).mono ?_
 ·have F:i<vs.length:=by have:=(Ad.1 hx).1;omega
  exact ha g.I g.ρ 0 w i vs[i] x cv (Ac F) hx (z i _ cv (Ac F) q)
 rintro e w' ⟨cv,Q,rfl,r1,u,v1, -⟩;let I':Nat->Nat->Prop:=λb j=>g.I b j∨(w.heap.size<=b∧(w'.cell? ⟨b,j,none⟩).isSome=true)
 let Y:AM.Gh:={I:=I',ρ:=g.ρ,O:=λb=>if b<w.heap.size then g.O b else none,β:=g.β}
 have C:∀b,b<w.heap.size->w'.heap[b]? =w.heap[b]?:=λb a=>u.block b a (by simp[DM.Tr.get])
 have A:∀b j,g.I b j->b<w.heap.size:=by intro b j p;obtain⟨v,M⟩:=A0.1 (y.exI b j p);exact BP _ _ M
 have r:∀b j,b<w.heap.size->w'.cell? ⟨b,j,none⟩=w.cell? ⟨b,j,none⟩:=λb j a=>by simp[Cc,C b a]
 have hs:Q.s=σ:=u.up.s;have hI:∀id e f cs,hp'.t.get id=some (.cells e f cs)->∀j,j<cs.length->I' (Q.ρ id) j:=by
  intro id e f cs B j hj;obtain⟨bs,fz,a,ad⟩:=r1.obj id e f cs B;refine .inr ⟨?_,?_⟩
  ·rcases u.live id _ B with h|⟨S,o',h,_⟩
   ·exact h
   ·simp[DM.Tr.get] at h
  ·have:=ad.len;rw[AM.cell_of_heap a,Ag (by omega)];rfl
 have tab:=hT Q w' I' hs r1 hI;cases v1 with
 |agg _ xs l1 h1 M=>
 have E:∀(i:Nat) c cv,us[i]? =some c->xs[i]? =some cv->AM.VRel I' (λ_=>0) 0 w' c cv:=by intro i c cv m q;obtain⟨d,X,he⟩:=xG hu i c m;exact val tab (M i d cv X q) (by rw[hs];exact he)
 have k:∀c∈us,calm c=true:=Ak.1 m;have one:∀c∈us,c.one=true:=by intro c m;have:=k c m;unfold calm at this;split at this<;>first|rfl|cases this
 have R:∀(c:AM.V) cv,calm c=true->AM.OwnNil c cv:=by intro c cv m;unfold calm at m;split at m<;>first|(unfold AM.OwnNil;trivial)|cases m
 have G:∀c∈us,∀cv,AM.VRel I' (λ_=>0) 0 w' c cv->AM.VRel I' g.ρ 0 w' c cv:=by intro c Z cv h;refine h.flat ?_;have:=k c Z;unfold calm at this;split at this<;>first|rfl|cases this
 refine⟨_,Y,rfl,⟨by simp,by simp,by simp,by simp,?_,?_⟩,⟨rfl,u.os,u.tape,u.output,u.size,λb a _ _=>C b a,⟨?_,?_,λ_ _=>rfl,Ao _⟩,?_,?_,by simp⟩,?_,?_⟩
 ·rintro b j (p|⟨_,p⟩);·rw[r b j (A b j p)];exact y.exI b j p
  ·exact p
 ·intro b o a;simp only[Y] at a;split at a;·have:=y.oLt b o a;have:=u.size;omega
  ·cases a
 ·exactλb j p=>.inl p
 ·exactλb j p=>r b j (A b j p)
 ·rintro b j a _ _ (p|⟨p,_⟩);·exact p
  ·omega
 ·intro b a _ hO;simp only[Y,if_pos a];exact hO
 ·refine .agg us xs (by omega) one (λi c cv m q=>R c cv (k c (Ap m))) (λi c cv m q=>?_);exact G c (Ap m) cv (E i c cv m q)
 ·simp[AM.OwnOK]
end
end
section
open Go
def aiW(a b c d e f:Nat):DM.Sg where
 n:=λj=>match j with
  |10=>.ofNat a|11=>.ofNat b|12=>.ofNat c|13=>.ofNat d|14=>.ofNat e|15=>.ofNat f
  |20=>DM.lookI DM.kindsL (.ofNat a)|21=>DM.lookI DM.kindsL (.ofNat b)|22=>DM.lookI DM.kindsL (.ofNat c)|23=>DM.lookI DM.kindsL (.ofNat d)|24=>DM.lookI DM.kindsL (.ofNat e)|25=>DM.lookI DM.kindsL (.ofNat f)
  |_=>0
 t:=λj=>match j with
  |0=>some []|1=>some [a]|2=>some [a,b]|3=>some [a,b,c]|4=>some [a,b,c,d]|5=>some [a,b,c,d,e]|6=>some [a,b,c,d,e,f]
  |_=>none
theorem ahI(a b c d e f:Nat):∀r∈DM.rows,r.ok (aiW a b c d e f):=by intro r g;simp only[DM.rows,AT,List.not_mem_nil,or_false] at g;rcases g with rfl|rfl|rfl|rfl|rfl|rfl|rfl|rfl|rfl|rfl|rfl|rfl|rfl|rfl|rfl|rfl|rfl|rfl|rfl|rfl|rfl|rfl|rfl|rfl|rfl|rfl|rfl|rfl|rfl|rfl|rfl|rfl|rfl|rfl<;>rfl
def sg(a b c d e f:Nat):DM.Sig:=⟨aiW a b c d e f,ahI a b c d e f⟩
end
end Go.DA
namespace Go.Proofs.Ytdpajabhmmmjoaa
open Go.AM
theorem of0:PureOK Try.prog jd [.str []] (.agg [.sl .atype (.may false) (ofS (aV []))]):=by
 obtain⟨hp,j,m⟩:=DM.knownN ofRun.ts_ok ofRun.ev0;refine DA.pure_of j (DA.sg  0 0 0 0 0 0) rfl ?_ [(1,(1,10,.sl .atype (.may false) (ofS (aV []))))] ?_ ?_ rfl rfl
 ·intro I ρ N w i v d cv a b h;match i,a,b with
  |0,a,b=>
   obtain rfl:=Ai a;obtain rfl:=Ai b;cases h with
   |str _ s k o=>exact .symt .u8 0 _ s rfl (by rw[k];rfl) o
  |i+1,a,b=>simp at a
 ·intro g w I c e f;exact DA.tab_cons e f DA.tab_nil (m _ _ (.head _)) .atype (ofS (aV [])) (by rw[c];kernel_rfl)
 ·kernel_rfl
theorem of1(b:UInt8):PureOK Try.prog jd [.str [b]] (.agg [.sl .atype (.may false) (ofS (aV [b]))]):=by
 obtain⟨hp,m,k⟩:=DM.knownN ofRun.ts_ok ofRun.ev1;refine DA.pure_of m (DA.sg b.toNat 0 0 0 0 0) rfl ?_ [(5,(2,10,.sl .atype (.may false) (ofS (aV [b])))),(22,(1,9,.sl .afield (.may false) ((AE 1).map jn)))] ?_ ?_ rfl rfl
 ·intro I ρ N w i v d cv a c h;match i,a,c with
  |0,a,c=>
   obtain rfl:=Ai a;obtain rfl:=Ai c;cases h with
   |str _ s o p=>exact .symt .u8 1 _ s rfl (by rw[o];rfl) p
  |i+1,a,c=>simp at a
 ·intro g w I e f j;exact DA.tab_cons f j (DA.tab_cons f j DA.tab_nil (k _ _ (.head _)) .afield ((AE 1).map jn) (by rw[e];kernel_rfl)) (k _ _ (.tail _ (.head _))) .atype (ofS (aV [b])) (by rw[e];kernel_rfl)
 ·kernel_rfl
theorem of2(c b:UInt8):PureOK Try.prog jd [.str [c,b]] (.agg [.sl .atype (.may false) (ofS (aV [c,b]))]):=by
 obtain⟨hp,o,m⟩:=DM.knownN ofRun.ts_ok ofRun.ev2;refine DA.pure_of o (DA.sg c.toNat b.toNat 0 0 0 0) rfl ?_ [(28,(3,10,.sl .atype (.may false) (ofS (aV [c,b])))),(45,(2,9,.sl .afield (.may false) ((AE 2).map jn)))] ?_ ?_ rfl rfl
 ·intro I ρ N w i v d cv a e h;match i,a,e with
  |0,a,e=>
   obtain rfl:=Ai a;obtain rfl:=Ai e;cases h with
   |str _ s p q=>exact .symt .u8 2 _ s rfl (by rw[p];rfl) q
  |i+1,a,e=>simp at a
 ·intro g w I f j k;exact DA.tab_cons j k (DA.tab_cons j k DA.tab_nil (m _ _ (.head _)) .afield ((AE 2).map jn) (by rw[f];kernel_rfl)) (m _ _ (.tail _ (.head _))) .atype (ofS (aV [c,b])) (by rw[f];kernel_rfl)
 ·kernel_rfl
theorem of3(c b e:UInt8):PureOK Try.prog jd [.str [c,b,e]] (.agg [.sl .atype (.may false) (ofS (aV [c,b,e]))]):=by
 obtain⟨hp,p,o⟩:=DM.knownN ofRun.ts_ok ofRun.ev3;refine DA.pure_of p (DA.sg c.toNat b.toNat e.toNat 0 0 0) rfl ?_ [(51,(4,10,.sl .atype (.may false) (ofS (aV [c,b,e])))),(68,(3,9,.sl .afield (.may false) ((AE 3).map jn)))] ?_ ?_ rfl rfl
 ·intro I ρ N w i v d cv a f h;match i,a,f with
  |0,a,f=>
   obtain rfl:=Ai a;obtain rfl:=Ai f;cases h with
   |str _ s q r=>exact .symt .u8 3 _ s rfl (by rw[q];rfl) r
  |i+1,a,f=>simp at a
 ·intro g w I j k m;exact DA.tab_cons k m (DA.tab_cons k m DA.tab_nil (o _ _ (.head _)) .afield ((AE 3).map jn) (by rw[j];kernel_rfl)) (o _ _ (.tail _ (.head _))) .atype (ofS (aV [c,b,e])) (by rw[j];kernel_rfl)
 ·kernel_rfl
theorem of4(e c f b:UInt8):PureOK Try.prog jd [.str [e,c,f,b]] (.agg [.sl .atype (.may false) (ofS (aV [e,c,f,b]))]):=by
 obtain⟨hp,q,p⟩:=DM.knownN ofRun.ts_ok ofRun.ev4;refine DA.pure_of q (DA.sg e.toNat c.toNat f.toNat b.toNat 0 0) rfl ?_ [(74,(5,10,.sl .atype (.may false) (ofS (aV [e,c,f,b])))),(91,(4,9,.sl .afield (.may false) ((AE 4).map jn)))] ?_ ?_ rfl rfl
 ·intro I ρ N w i v d cv a j h;match i,a,j with
  |0,a,j=>
   obtain rfl:=Ai a;obtain rfl:=Ai j;cases h with
   |str _ s r t=>exact .symt .u8 4 _ s rfl (by rw[r];rfl) t
  |i+1,a,j=>simp at a
 ·intro g w I k m o;exact DA.tab_cons m o (DA.tab_cons m o DA.tab_nil (p _ _ (.head _)) .afield ((AE 4).map jn) (by rw[k];kernel_rfl)) (p _ _ (.tail _ (.head _))) .atype (ofS (aV [e,c,f,b])) (by rw[k];kernel_rfl)
 ·kernel_rfl
theorem of5(f e j c a:UInt8):PureOK Try.prog jd [.str [f,e,j,c,a]] (.agg [.sl .atype (.may false) (ofS (aV [f,e,j,c,a]))]):=by
 obtain⟨hp,r,q⟩:=DM.knownN ofRun.ts_ok ofRun.ev5;refine DA.pure_of r (DA.sg f.toNat e.toNat j.toNat c.toNat a.toNat 0) rfl ?_ [(97,(6,10,.sl .atype (.may false) (ofS (aV [f,e,j,c,a])))),(114,(5,9,.sl .afield (.may false) ((AE 5).map jn)))] ?_ ?_ rfl rfl
 ·intro I ρ N w i v d cv b k h;match i,b,k with
  |0,b,k=>
   obtain rfl:=Ai b;obtain rfl:=Ai k;cases h with
   |str _ s t u=>exact .symt .u8 5 _ s rfl (by rw[t];rfl) u
  |i+1,b,k=>simp at b
 ·intro g w I m p o;exact DA.tab_cons p o (DA.tab_cons p o DA.tab_nil (q _ _ (.head _)) .afield ((AE 5).map jn) (by rw[m];kernel_rfl)) (q _ _ (.tail _ (.head _))) .atype (ofS (aV [f,e,j,c,a])) (by rw[m];kernel_rfl)
 ·kernel_rfl
theorem of6(j f k e a c:UInt8):PureOK Try.prog jd [.str [j,f,k,e,a,c]] (.agg [.sl .atype (.may false) (ofS (aV [j,f,k,e,a,c]))]):=by
 obtain⟨hp,t,r⟩:=DM.knownN ofRun.ts_ok ofRun.ev6;refine DA.pure_of t (DA.sg j.toNat f.toNat k.toNat e.toNat a.toNat c.toNat) rfl ?_ [(120,(7,10,.sl .atype (.may false) (ofS (aV [j,f,k,e,a,c])))),(137,(6,9,.sl .afield (.may false) ((AE 6).map jn)))] ?_ ?_ rfl rfl
 ·intro I ρ N w i v d cv b m h;match i,b,m with
  |0,b,m=>
   obtain rfl:=Ai b;obtain rfl:=Ai m;cases h with
   |str _ s u x=>exact .symt .u8 6 _ s rfl (by rw[u];rfl) x
  |i+1,b,m=>simp at b
 ·intro g w I o q p;exact DA.tab_cons q p (DA.tab_cons q p DA.tab_nil (r _ _ (.head _)) .afield ((AE 6).map jn) (by rw[o];kernel_rfl)) (r _ _ (.tail _ (.head _))) .atype (ofS (aV [j,f,k,e,a,c])) (by rw[o];kernel_rfl)
 ·kernel_rfl
theorem afP(s:List UInt8)(h:s.length<=6):∃r,gZ s r:=by
 refine⟨ofS (aV s),?_,rfl⟩;match s,h with
 | [],_=>exact of0
 | [a],_=>exact of1 a
 | [a,b],_=>exact of2 a b
 | [a,b,c],_=>exact of3 a b c
 | [a,b,c,d],_=>exact of4 a b c d
 | [a,b,c,d,e],_=>exact of5 a b c d e
 | [a,b,c,d,e,f],_=>exact of6 a b c d e f
 |_::_::_::_::_::_::_::_,h=>simp at h
abbrev iG(k:Int):List ab:=[⟨k,[],[],0,[],false,[],0,[],[]⟩]
theorem pi(k:Int)(h:k=3∨k=4):kr (iG k):=by refine⟨by simp[iG],λt a=>?_⟩;simp only[iG,Aq] at a;subst a;exact⟨by simp[iG],by simp,by simp,by simp,by simp,by simp,by simp,by simp only;omega,by simp only;omega,by simp only;omega,by simp,by simp,by simp,by simp⟩
theorem acZ(k:Int)(h:k=3∨k=4):lS (iG k)=[true]:=by
 have f:=pi k h;have m:=acn f;obtain⟨j,i⟩:=yy f;have a:0<=(rkB (iG k)).getD 0 0:=by
  rcases C7 ((rkB (iG k)).getD 0 0) 0 with e|e;·have g:=(i 0 (by simp[iG]) e).kind;have g:k=9∨k=14:=g;omega
  ·exact e
 have d:=j.len;cases b:rkB (iG k) with
 |nil=>rw[b] at d;simp[iG] at d
 |cons x l=>
  cases l with
  |cons y l=>rw[b] at d;simp[iG] at d
  |nil=>rw[b] at a;have a:0<=x:=a;simp[lS,b,a]
theorem afQ:∃r,kM r:=by apply yb 1;unfold sV sU;refine aH (qq (iG 3) (iG 4) 0 0 (tT.of (pi 4 (by simp)))) ?_;rintro _ ⟨-,rfl⟩;refine ak (λ_=>?_) (λh=>absurd h (by decide));refine aH (qq (iG 4) (iG 3) 0 0 (tT.of (pi 3 (by simp)))) ?_;rintro _ ⟨-,rfl⟩;refine ak (λ_=>?_) (λh=>absurd h (by decide));refine aH (aco (pi 3 (by simp)) (iG 4) (pi 4 (by simp)) 0 0) ?_;rintro d ⟨-,a⟩;have a:d=jO (lS (iG 3)) (iG 3) (iG 4) 0 0:=a;rw[acZ 3 (by simp)] at a;subst a;refine ak (λ_=>?_) (λh=>absurd h (by decide));refine aH (aco (pi 4 (by simp)) (iG 3) (pi 3 (by simp)) 0 0) ?_;rintro e ⟨-,b⟩;have b:e=jO (lS (iG 4)) (iG 4) (iG 3) 0 0:=b;rw[acZ 4 (by simp)] at b;subst b;exact ap ⟨_,_,rfl,rfl,by show (!_)=true;decide⟩
abbrev K8:Bs:=[105,108,102,100,115,98,110,111]
def pj(u:UInt8):UInt8:=K8.getD (u.toNat%8) 0
abbrev M8:List (Int×Bs):=[(105,[105,108,102,100]),(108,[108,102,100]),(102,[102,100]),(100,[100]),(115,[115,98]),(98,[98]),(110,[110]),(111,[111])]
abbrev rdT(c:UInt8):Bs:=mM (k:=.bs) M8 (c.toNat:Int)
theorem ac0(u:UInt8):pj u∈K8:=by
 have:∀n,n<8->K8.getD n 0∈K8:=by decide
 exact this _ (CB _ (by omega))
theorem ahb(c:Nat):(decide (0<=IntKind.u8.wrap (B6 (c:Int) 8+1))&&decide (IntKind.u8.wrap (B6 (c:Int) 8+1)<=(↑(An K8):Int))&&(decide (0<=B6 (c:Int) 8)&&decide (B6 (c:Int) 8<=IntKind.u8.wrap (B6 (c:Int) 8+1))))=true∧
  Dz (AC (B6 (c:Int) 8)) (Dy (AC (IntKind.u8.wrap (B6 (c:Int) 8+1))) K8)=[K8.getD (c%8) 0]:=by
 have h:B6 (c:Int) 8=((c%8:Nat):Int):=by rw[B4 (by omega)];omega
 rw[h]
 have:∀n,n<8->(decide (0<=IntKind.u8.wrap ((n:Nat)+1:Int))&&decide (IntKind.u8.wrap ((n:Nat)+1:Int)<=(↑(An K8):Int))&&(decide (0<=((n:Nat):Int))&&decide (((n:Nat):Int)<=IntKind.u8.wrap ((n:Nat)+1:Int))))=true∧
  Dz (AC ((n:Nat):Int)) (Dy (AC (IntKind.u8.wrap ((n:Nat)+1:Int))) K8)=[K8.getD n 0]:=by decide
 exact this _ (CB _ (by omega))
theorem aaH(a:Bs)(i:Int)(b:0<=i)(h:i<a.length):(a.take i.toNat).map pj++[K8.getD ((As a i.toNat 0).toNat%8) 0]=(a.take (i+1).toNat).map pj:=by rw[show (i+1).toNat=i.toNat+1 by omega,Ef,Cy,Ac (by omega:i.toNat<a.length)];simp[pj,Al,Ac (by omega:i.toNat<a.length)]
theorem afR:∀c∈K8,∀d∈K8,decide (d∈rdT c)=jM (jB (tP c.toNat)) (jB (tP d.toNat)):=by decide
theorem agT:∀c∈K8,1<=tP c.toNat∧tP c.toNat<=8:=by decide
theorem afS:∀c∈K8,(rdT c).length<=4:=by decide
section
variable{X Y:Bs}(hX:∀c∈X,c∈K8)(hY:∀c∈Y,c∈K8)(hx6:X.length<=6)(hy6:Y.length<=6)
include hX hY hx6 hy6
omit hX hY hx6 hy6 in
theorem ur(Z:Bs)(b:∀c∈Z,c∈K8):∀k∈aV Z,1<=k∧k<=8:=by intro k a;simp only[aV,Av] at a;obtain⟨c,d,rfl⟩:=a;exact agT c (b c d)
def py(X Y:Bs)(n:Nat):Bool:=decide (Y.length<=X.length)&&(AE n).all λi=>decide (Y.getD i 0∈rdT (X.getD i 0))
theorem agU(n:Nat)(k:n<=X.length∧n<=Y.length)(m:n=X.length∨n=Y.length):jO (lS (ofS (aV X))) (ofS (aV X)) (ofS (aV Y)) 0 0=py X Y n:=by
 have e:(aV X).length=X.length:=by simp[aV]
 have g:(aV Y).length=Y.length:=by simp[aV]
 rw[agi _ _ (by omega) (by omega) (ur X hX) (ur Y hY),e,g,py];by_cases b:Y.length<=X.length
 ·have:n=Y.length:=by omega
  subst this
  congr 1
  rw[A2];simp only[Ak,A6];have key:∀j,j<Y.length->jM (jB ((aV X).getD j 0)) (jB ((aV Y).getD j 0))=decide (Y.getD j 0∈rdT (X.getD j 0)):=by
   intro j a;have d:j<X.length:=by omega
   have e1:(aV X).getD j 0=tP (X.getD j 0).toNat:=by simp[aV,Al,Au,Ac d]
   have f:(aV Y).getD j 0=tP (Y.getD j 0).toNat:=by simp[aV,Al,Au,Ac a]
   have i:X.getD j 0∈X:=by rw[Al,Ac d];exact Bf _
   have m2:Y.getD j 0∈Y:=by rw[Al,Ac a];exact Bf _
   rw[e1,f,afR _ (hX _ i) _ (hY _ m2)]
  exact⟨λh j a=>(key j a).symm.trans (h j a),λh j a=>(key j a).trans (h j a)⟩
 ·rw[decide_eq_false b,Bool.false_and,Bool.false_and]
theorem adU{a:Bool}(n:Nat)(k:n<=X.length∧n<=Y.length)(o:n=X.length∨n=Y.length)(m:a=py X Y n)(p q:Bs):
  Tot (aZ (gZ X) (λ(g:List ab)=>aZ (gZ Y) (λ(e:List ab)=>aZ (dT g e 0 0) (λ(d:Bool)=>(some (.bool (d==a),[some [.mp .bs M8]]):Ro))))) (λz=>∃(j:Bool)(b:List al),z.1.dimR=.bool j∧z.2=b∧iN p q (j)):=by
 refine aH (afP X hx6) ?_;rintro g ⟨-,h⟩;have h:g=ofS (aV X):=h;subst h;refine aH (afP Y hy6) ?_;rintro e ⟨-,f⟩;have f:e=ofS (aV Y):=f;subst f;refine aH (aco (acr _ (by simp[aV];omega) (ur X hX)) _ (acr _ (by simp[aV];omega) (ur Y hY)) 0 0) ?_;rintro d ⟨-,i⟩;have i:d=jO (lS (ofS (aV X))) (ofS (aV X)) (ofS (aV Y)) 0 0:=i;refine ap ⟨_,_,rfl,rfl,?_⟩;show (d==a)=true;rw[i,m,agU hX hY hx6 hy6 n k o];simp
end
theorem xH(a b:Bs):∃r,ou a b r:=by
 apply sD 10;unfold nR eH;dsimp only;refine aH afQ ?_;rintro r ⟨-,P⟩;have P:r=true:=P;subst P;refine ak (λh=>absurd h (by simp)) (λ_=>?_);refine ak (λ_=>ap ⟨_,_,rfl,rfl,rfl⟩) (λR=>?_);refine ak (λ_=>ap ⟨_,_,rfl,rfl,rfl⟩) (λZ=>?_);have R:=of_decide_eq_false R;have Z:=of_decide_eq_false Z;refine ca (λx=>x=(a,b,K8,(a.take x.2.2.2.2.2.toNat).map pj,[],x.2.2.2.2.2)∧0<=x.2.2.2.2.2∧x.2.2.2.2.2<=(a.length:Int)) (λx=>(a.length-x.2.2.2.2.2:Int).toNat) ?_ _ _ ⟨rfl,by simp,by simp⟩ (by simp only;omega);rintro L ⟨p,H,q3,q4,q5,i⟩ ⟨e,Q,i2⟩ S;dsimp only at e Q i2 S;simp only[Ae] at e;obtain⟨rfl,rfl,rfl,rfl,rfl, -⟩:=e;unfold f5 fA;dsimp only;refine ak (λA=>?_) (λA=>?_);·have A:=of_decide_eq_true A;obtain⟨N,p2⟩:=ahb (As p i.toNat 0).toNat;refine aU (ixt (by omega)) (aU (ixt (by omega)) ?_);refine aU N ?_;show Tot (chk (decide (_+An (Dz _ (Dy _ K8))<=_)) _) _;rw[show (am .u8)=(0:UInt8) from rfl,p2];refine aU (decide_eq_true (by simp only[AU,B5,Ay,DO];omega)) ?_;rw[aaH p i Q A,aX (i+1) (by omega)];exact S _ ⟨rfl,by simp only;omega,by simp only;omega⟩ (by simp only;omega)
 have A:=of_decide_eq_false A;rw[show p.take i.toNat=p from B1 (by omega)];refine ca (λx=>x=(H,K8,p.map pj,(H.take x.2.2.2.2.toNat).map pj,x.2.2.2.2)∧0<=x.2.2.2.2∧x.2.2.2.2<=(H.length:Int)) (λx=>(H.length-x.2.2.2.2:Int).toNat) ?_ _ _ ⟨rfl,by simp,by simp⟩ (by simp only;omega);rintro G ⟨v,z3,z4,z5,k⟩ ⟨e,k1,k2⟩ B;dsimp only at e k1 k2 B;simp only[Ae] at e;obtain⟨rfl,rfl,rfl,rfl, -⟩:=e;unfold eo fy;dsimp only;refine ak (λz=>?_) (λz=>?_);·have z:=of_decide_eq_true z;obtain⟨N,p2⟩:=ahb (As v k.toNat 0).toNat;refine aU (ixt (by omega)) (aU (ixt (by omega)) ?_);refine aU N ?_;show Tot (chk (decide (_+An (Dz _ (Dy _ K8))<=_)) _) _;rw[show (am .u8)=(0:UInt8) from rfl,p2];refine aU (decide_eq_true (by simp only[AU,B5,Ay,DO];omega)) ?_;rw[aaH v k k1 z,aX (k+1) (by omega)];exact B _ ⟨rfl,by simp only;omega,by simp only;omega⟩ (by simp only;omega)
 have z:=of_decide_eq_false z;rw[show v.take k.toNat=v from B1 (by omega)];have hX:∀c∈p.map pj,c∈K8:=λc O=>by obtain⟨u,_,rfl⟩:=Av.1 O;exact ac0 u
 have hY:∀c∈v.map pj,c∈K8:=λc O=>by obtain⟨u,_,rfl⟩:=Av.1 O;exact ac0 u
 have hx6:(p.map pj).length<=6:=by rw[AU];omega
 have hy6:(v.map pj).length<=6:=by rw[AU];omega
 generalize p.map pj=X at*
 generalize v.map pj=Y at*
 refine ca (λx=>x=(X,Y,py X Y x.2.2.2.1.toNat,x.2.2.2.1,M8)∧0<=x.2.2.2.1∧x.2.2.2.1<=(X.length:Int)∧x.2.2.2.1<=(Y.length:Int)) (λx=>(X.length-x.2.2.2.1:Int).toNat) ?_ _ _ ⟨?_,by simp,by simp,by simp⟩ (by simp only;omega)
 ·rintro J ⟨q,s2,s3,n,s4⟩ ⟨e,n1,n2,n3⟩ y;dsimp only at e n1 n2 n3 y;simp only[Ae] at e;obtain⟨rfl,rfl,rfl, -,rfl⟩:=e;unfold eh fx;dsimp only;refine ak (λE=>?_) (λE=>?_)
  ·have E:=of_decide_eq_true E;refine ak (λC=>?_) (λC=>?_)
   ·have C:=of_decide_eq_true C;refine ca (λx=>x=(q,s2,py q s2 n.toNat,n,((rdT (q.getD n.toNat 0)).take x.2.2.2.2.2.1.toNat).any (λc=>c==s2.getD n.toNat 0),x.2.2.2.2.2.1,M8)∧0<=x.2.2.2.2.2.1∧x.2.2.2.2.2.1<=((rdT (q.getD n.toNat 0)).length:Int)) (λx=>((rdT (q.getD n.toNat 0)).length-x.2.2.2.2.2.1:Int).toNat) ?_ _ _ ⟨by simp,by simp,by simp⟩ ?_
    ·rintro I ⟨f,m,u3,d,u5,j,u6⟩ ⟨e,W,j2⟩ w;dsimp only at e W j2 w;simp only[Ae] at e;obtain⟨rfl,rfl,rfl,rfl,rfl, -,rfl⟩:=e;unfold ee;dsimp only;refine aU (ixt (by omega)) ?_;refine ak (λo=>?_) (λo=>?_)
     ·have o:=of_decide_eq_true o;have o:j<((rdT (f.getD d.toNat 0)).length:Int):=o;have F:j.toNat<(rdT (f.getD d.toNat 0)).length:=by omega
      have step:((rdT (f.getD d.toNat 0)).take (j+1).toNat).any (λc=>c==m.getD d.toNat 0)=(((rdT (f.getD d.toNat 0)).take j.toNat).any (λc=>c==m.getD d.toNat 0)||((rdT (f.getD d.toNat 0)).getD j.toNat 0==m.getD d.toNat 0)):=by
       have g:(rdT (f.getD d.toNat 0)).getD j.toNat 0=(rdT (f.getD d.toNat 0))[j.toNat]:=by
        generalize rdT (f.getD d.toNat 0)=l at*
        rw[Al,Ac F];rfl
       rw[show (j+1).toNat=j.toNat+1 by omega,Ef,List.any_append,Ac F,g];simp
      have M:=afS (f.getD d.toNat 0) (hX _ (by rw[Al,Ac (by omega:d.toNat<f.length)];exact Bf _));rw[aX (j+1) (by omega)];refine ak (λt=>?_) (λt=>?_);·refine w _ ⟨?_,by simp only;omega,by simp only;omega⟩ (by simp only;omega);rw[step,t];rfl
      ·refine aU (ixt (by omega)) (aU (ixt (show 0<=j∧j<((rdT (f.getD d.toNat 0)).length:Int) from ⟨W,o⟩)) (aU (ixt (by omega)) ?_));refine w _ ⟨?_,by simp only;omega,by simp only;omega⟩ (by simp only;omega);simp only;rw[step,t,Bool.false_or]
       congr 1
       congr 1
       congr 1
       congr 1
       congr 1
       rw[A2,beq_iff_eq,beq_iff_eq];constructor;·intro h;have h:(((rdT (f.getD d.toNat 0)).getD j.toNat 0).toNat:Int)=((m.getD d.toNat 0).toNat:Int):=h;exact DG.1 (by omega)
       ·intro h;show (((rdT (f.getD d.toNat 0)).getD j.toNat 0).toNat:Int)=((m.getD d.toNat 0).toNat:Int)
        rw[h]
     ·have o:=of_decide_eq_false o;have o:¬j<((rdT (f.getD d.toNat 0)).length:Int):=o;have full:((rdT (f.getD d.toNat 0)).take j.toNat).any (λc=>c==m.getD d.toNat 0)=decide (m.getD d.toNat 0∈rdT (f.getD d.toNat 0)):=by
       rw[B1 (by omega),A2];simp
      have step:py f m (d+1).toNat=(py f m d.toNat&&decide (m.getD d.toNat 0∈rdT (f.getD d.toNat 0))):=by rw[py,py,show (d+1).toNat=d.toNat+1 by omega,List.range_succ,List.all_append,Bool.and_assoc];simp
      rw[aX (d+1) (by omega)];refine ak (λt=>?_) (λt=>?_);·refine y _ ⟨?_,by simp only;omega,by simp only;omega,by simp only;omega⟩ (by simp only;omega);rw[step,t,Bool.true_and,full]
      ·refine y _ ⟨?_,by simp only;omega,by simp only;omega,by simp only;omega⟩ (by simp only;omega);rw[step,t,Bool.false_and]
    ·have M:=afS (q.getD n.toNat 0) (hX _ (by rw[Al,Ac (by omega:n.toNat<q.length)];exact Bf _));simp only;omega
   ·have C:=of_decide_eq_false C;exact adU hX hY hx6 hy6 n.toNat (by omega) (by omega) rfl _ _
  ·have E:=of_decide_eq_false E;exact adU hX hY hx6 hy6 n.toNat (by omega) (by omega) rfl _ _
 ·simp only[Ae,true_and];refine⟨?_,by decide⟩;rw[py];simp
theorem wG(a b:Bs):PureOK Try.prog ku [.sl .u8 (.may false) a,.sl .u8 (.may false) b] (.bool true):=by obtain⟨r,h,e⟩:=xH a b;have e:r=true:=e;subst e;exact h
section
open Go.ChangeShapes Go.WideShapes Go.AM
theorem adV{α:Type}{p:Nat->α->Prop}:∀n,(∀i,i<n->∃x,p i x)->∃l:List α,l.length=n∧∀i x,l[i]? =some x->p i x
 |0,_=>⟨[],rfl,by simp⟩
 |n+1,h=>by
  obtain⟨l,c,f⟩:=adV n λi b=>h i (by omega)
  obtain⟨x,d⟩:=h n (by omega);refine⟨l++[x],by simp[c],λi y a=>?_⟩;rcases AG i l.length with b|b;·rw[Am b] at a;exact f i y a
  ·rw[Aj b] at a;have e:i=n:=by
    have:=(Ad.1 a).1;simp at this;omega
   subst e;have:x=y:=by simpa [c] using a
   exact this▸d
section
variable{H:Type}{enc:TypeId×Value->H}{w:World}{base:Nat}{held:Bool}
theorem ahJ(k:EK){t e:TypeId}(ht:Try.prog.underlying t=some (.slice e))(hc:Try.prog.cellsOf e=k.sz){n:Nat}{cs:List Value}{x:DataW H×List MemPlace}
  (E:∀m,m+1=n->∀es y,DataW.trod enc Try.prog w base (λ_=>true) held m e es=some y->∃x:Ty k,∀(j:Nat) v u,(AM.enc k x)[j]? =some v->es[j]? =some u->VRel (iT w).I id 0 w v u)
  (h:DataW.trod enc Try.prog w base (λ_=>true) held n t cs=some x):∃(xs:List (Ty k))(cv:Value),cs=[cv]∧VRel (iT w).I id 0 w (.sl k (.may false) xs) cv:=by
 have J:0<k.sz:=by cases k<;>simp[EK.sz]
 rcases DataW.trod_slice ht h with⟨rfl, -⟩|⟨a,len,cap,q,C,m,rfl,rfl, -,hb,hl,O,P,z,G, -⟩
 ·exact⟨[],_,rfl,.sln _ _⟩
 obtain⟨W,Q⟩:=G rfl;rw[hc] at z Q;by_cases S:cap=0
 ·subst S;obtain rfl:len=0:=by omega
  exact⟨[],_,rfl,.sle _ _ a (by simp)⟩
 have first:∃es y,w.cells? base (a.add (0*k.sz)) k.sz=some es∧DataW.trod enc Try.prog w base (λ_=>true) held m e es=some y:=by
  by_cases F:len=0
  ·have c:=Q 0 (by omega);rw[F] at c;have f:0<C.length:=by omega
   rw[Ac f,Ck] at c;obtain⟨es,d,o⟩:=c;exact⟨es,_,d,o⟩
  ·have c:=z 0 (by omega);have f:0<q.length:=by omega
   rw[Ac f,Ck] at c;obtain⟨es,d,o⟩:=c;exact⟨es,_,d,o⟩
 have g:a.spot=none:=by
  obtain⟨es,y,c, -⟩:=first
  obtain⟨f,d,o⟩:=World.cells?_some c;have B:=o 0 J;rw[Ac (by omega)] at B;simp only[Nat.zero_mul,Addr.add,if_true,Cc] at B;split at B
  ·cases X:a.spot with
   |none=>rfl
   |some s=>simp[X] at B
  ·cases B
 obtain⟨b,A,R⟩:=a;simp only at g;subst g;obtain⟨xs,L,r⟩:=adV (α:=Ty k) (p:=λi x=>∀j v,(AM.enc k x)[j]? =some v->∃u,w.cell? ⟨b,A+i*k.sz+j,none⟩=some u∧VRel (iT w).I id 0 w v u) len (by
  intro i Y;have c:=z i Y;rw[Ac (by omega),Ck] at c;obtain⟨es,f,d⟩:=c;obtain⟨x,hx⟩:=E m rfl es _ d;obtain⟨o,B,Z⟩:=World.cells?_some f;refine⟨x,λj v N=>?_⟩;have hj:j<k.sz:=by
   have:=(Ad.1 N).1
   rwa [a8] at this
  have M:=Z j hj;rw[Ac (by omega),add_plain,add_plain] at M;exact⟨_,M,hx j v _ N (Ac (by omega))⟩)
 refine⟨xs,_,rfl,.sl k (.may false) xs b A len cap L (by omega) (by unfold maxLen at O;unfold maxI;exact O) (by simp) (λi j=>(w.cell? ⟨b,A+i*k.sz+j,none⟩).getD undef) ?_ ?_ ?_⟩;·intro i x j c f;obtain⟨u,d, -⟩:=r i x c j _ (Ac f);show (w.cell? _).isSome=true;rw[d];rfl
 ·intro i x j c f;obtain⟨u,d, -⟩:=r i x c j _ (Ac f);rw[d];rfl
 ·intro i x j v c f;obtain⟨u,d,o⟩:=r i x c j v f;rw[d];exact o
theorem aeZ{n:Nat}{cs:List Value}{x:DataW H×List MemPlace}(h:DataW.trod enc Try.prog w base (λ_=>true) held n 22 cs=some x):
  ∃(xs:List UInt8)(cv:Value),cs=[cv]∧VRel (iT w).I id 0 w (.sl .u8 (.may false) xs) cv:=
 ahJ .u8 Try.underlying22 (by kernel_rfl) (λm g es y e=>by
  obtain⟨c,rfl, -,b⟩:=DataW.trod_int Try.underlying5 e;have f:0<=c∧c<=255:=by simpa [Lit.wf,Cb,BR,Bh,Bu] using b
  refine⟨BX c.toNat,λj v u d a=>?_⟩;obtain rfl:j=0:=by have:=(Ad.1 a).1;simpa using this
  simp only[AM.enc,Bl,Ab] at d a;subst d a;have:((BX c.toNat).toNat:Int)=c:=by rw[UInt8.toNat_ofNat'];omega
  rw[this];exact .int _ _ (by simpa [Lit.wf] using b)) h
theorem yY{r:Reach}{i:Nat}{v:Value}{d:DataW H}{p:List MemPlace}(c:Value.okWide Try.prog w r i 22 v)(h:DataW.Trod enc Try.prog w base (λ_=>true) held 22 v d p):
  ∃xs:List UInt8,VRel (iT w).I id 0 w (.sl .u8 (.may false) xs) v:=by
 obtain⟨a,len,cap,rfl⟩:=okWide_slice Try.underlying22 c;obtain⟨b,g⟩:=h;obtain⟨xs,cv,e,f⟩:=aeZ g;have e:[Value.slice a len cap]=[cv]:=e;cases e;exact⟨xs,f⟩
end
end
end Go.Proofs.Ytdpajabhmmmjoaa
end
