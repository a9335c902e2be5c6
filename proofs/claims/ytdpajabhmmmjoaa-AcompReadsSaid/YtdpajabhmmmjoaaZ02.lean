import Derived.Below
import Derived.KernelRfl
import Derived.Test.YtdpajabhmmmjoaaChecked
import Derived.Test.YtdpajabhmmmjoaaZ00
import Derived.Test.YtdpajabhmmmjoaaZ01
noncomputable section
namespace Go.AM
set_option autoImplicit false
set_option linter.unusedSimpArgs false
set_option linter.unusedVariables false
def ael:List aO→List Operand→Bool
 | [],[]=>true
 |x::xs,y::ys=>bi x y&&ael xs ys
 |_,_=>false
def avB:Op→Option (FuncId×List Operand)
 | .call c=>match c.callee with| .value (.func f)=>some (f,c.args.toList)|_=>none
 |_=>none
def avC:Op→Option (Operand×List Operand)
 | .call c=>match c.callee with| .value (.tmp n)=>some (.tmp n,c.args.toList)|_=>none
 |_=>none
def ap0(P:Program)(f:FuncId):Bool:=match P.funcs[f]? with|some fn=>fn.body.isSome&&fn.name !="runtime.NumGoroutine"|none=>false
def ad9(P:Program)(o:IOp)(m:Oper):Bool:=
 match o with
 | .call d f avs=>(m.dst==d)&&(match avB m.op with|some (f',as')=>(f==f')&&(ael avs as'&&ap0 P f)|none=>false)
 | .dcall d f x avs=>(m.dst==d)&&(match avC m.op with|some (x',as')=>bi x x'&&(ael avs as'&&ap0 P f)|none=>false)
 |_=>false
def ayL(P:Program)(o:IOp)(m:Oper):Bool:=bz P o m||acf P o m||ad9 P o m||oP P o m||ayb P o m||ayd P o m||z7 P o m||nQ P o m||yb P o m
def arI(P:Program)(ops:Array Oper)(x:GOp)(m:Oper):Bool:=
 ayL P x.o m&&(x.o.dst==m.dst)&&(match x.g,m.guard with
  |none,none=>true
  |some (n,b),some (j,b')=>(b==b')&&((ops[j]?).bind (·.dst)==some n)
  |_,_=>false)
def aca(P:Program)(ops:Array Oper):Nat→List GOp→Bool
 |i,[]=>i==ops.size
 |i,x::l=>(match ops[i]? with|some m=>arI P ops x m|none=>false)&&aca P ops (i+1) l
def aea(P:Program)(imp:List Nat)(ops:Array Oper)(l:List GOp)(pre:List (List Nat)):Bool:=
 (P.follows .mixedOrders&&aca P ops 0 l)&&((List.range l.length).all fun j=>
  (match ops[j]? with
   |some m=>m.after.toList.all (fun e=> !Region.binds .any e||decide (e.on<j))&&(pre.getD j []).all (fun i=>m.after.toList.any fun e=>Region.binds .any e&&(e.on==i||(pre.getD e.on []).contains i))
   |none=>false)&&
  (match l[j]? with
   |some x=>(List.range j).all fun i=>(pre.getD j []).contains i||(match l[i]? with|some y=>apW imp y x|none=>false)
   |none=>false))
def dD(P:Program)(imp:List Nat)(base:Nat):IR→Code→Bool
 | .bad,_=>true
 | .skip,.skip=>true
 | .skip,.label _=>true
 | .reg l _,.region _ ops false=>aca P ops 0 l
 | .reg l pre,.region _ ops true=>aea P imp ops l pre
 | .seq x y,.seq c d=>dD P imp base x c&&dD P imp base y d
 | .cond v x y,.cond u c d=>bi v u&&(dD P imp base x c&&dD P imp base y d)
 | .block i x,.block j c=>i==j&&dD P imp base x c
 | .loop _ n x,.loop c=>Nat.ble base n&&dD P imp base x c
 | .cut _ n x,c=>Nat.ble base n&&dD P imp base x c
 | .gh _ x,c=>dD P imp base x c
 | .ghp _ x,c=>dD P imp base x c
 | .exit i,.exit j=>i==j
 | .ret,.ret=>true
 |_,_=>false
def iX(P:Program)(f:FuncId)(vs:List V)(hp:List aK)(v:V)(hp':List aK):Prop:=
 ∀(w:World)(g:Gh)(cargs:Array Value),g.β=lv P→HR g hp w→vs.length=cargs.size→(∀x∈vs,x.bare=true)→
  (∀(i:Nat) x cv,vs[i]? =some x→cargs[i]? =some cv→VRel g.I g.ρ hp.length w x cv)→
  Calls P f cargs w fun e w'=>∃cv g',e=.returned cv∧HR g' hp' w'∧FR g hp w g' hp' w'∧VRel g'.I g'.ρ hp'.length w' v cv∧aT g' w' .res v cv
def dR(P:Program)(Γ:aN):Prop:=∀f vs hp v hp',Γ f vs hp=some (true,v,hp')→iX P f vs hp v hp'
section
variable{w:World}{g:Gh}{s s':St}{a:Act}{P:Program}{Γ:aN}{m:Oper}{next:Act→World→Prop}{Q:Exit→Act→World→Prop}
theorem aoF(h:ER g s.hp.length w s.env a.tmps):∀(xs:List aO)(ys:List Operand),ael xs ys=true→xs.length=ys.length∧
  ∀(i:Nat) v cv,(xs.map fun x=>disown (x.ev s))[i]? =some v→(ys.map a.eval)[i]? =some cv→VRel g.I g.ρ s.hp.length w v cv
 | [],[],_=>⟨rfl,by simp⟩
 |x::xs,y::ys,hp=>by
  simp only[ael,Bool.and_eq_true] at hp
  obtain⟨k1,k2⟩:=aoF h xs ys hp.2
  refine⟨by simp[k1],?_⟩
  intro i v cv hv hcv
  cases i with
  |zero=>
   simp at hv hcv
   subst hv hcv
   exact(ba hp.1 h).disown
  |succ i=>exact k2 i v cv (by simpa using hv) (by simpa using hcv)
 | [],_::_,hp=>by simp[ael] at hp
 |_::_,[],hp=>by simp[ael] at hp
theorem axn{o:Op}{f:FuncId}{avs:List Operand}(h:avB o=some (f,avs)):∃ts,o=.call ⟨.value (.func f),⟨avs⟩,ts⟩:=by
 unfold avB at h
 split at h
 ·rename_i c
  obtain⟨callee,⟨args⟩,ats⟩:=c
  simp only at h
  split at h
  ·simp only[Option.some.injEq,Prod.mk.injEq] at h
   obtain⟨rfl,rfl⟩:=h
   exact⟨_,rfl⟩
  ·simp at h
 ·simp at h
def Gh.hide(g:Gh):Gh:={g with O:=fun b=>match g.O b with|some (.slot _)=>none|o=>o}
theorem HR.hide{hp:List aK}(h:HR g hp w):HR g.hide hp w:=by
 refine⟨?_,h.apart,h.notI,?_,h.exI,?_⟩
 ·intro id cs hid
  refine(h.obj id cs hid).keep rfl fun arr e fz h1 h2=>?_
  refine⟨h2.len,h2.plain,h2.typed,h2.cold,h2.one,h2.rel,?_,h2.bn⟩
  intro j c cv hc hcv
  have:=h2.own j c cv hc hcv
  refine dU this rfl (fun b j hi=>⟨hi,rfl⟩) ?_
  intro b hb
  exact⟨by simp[Gh.hide,hb],rfl,fun j hj=>hj⟩
 ·intro id cs hid
  simp[Gh.hide,h.notO id cs hid]
 ·intro b o hb
  cases hO:g.O b with
  |none=>simp[Gh.hide,hO] at hb
  |some o'=>exact h.oLt b o' hO
def Gh.back(g g':Gh)(dst:Option Nat):Gh:={I:=g'.I,ρ:=g'.ρ,β:=g'.β,O:=fun b=>match g.O b with
 |some (.slot n)=>some (.slot n)
 |_=>match g'.O b with
  |some .res=>dst.map .slot
  |some (.slot _)=>none
  |o=>o}
theorem Gh.back_else{g g':Gh}{dst:Option Nat}{b:Nat}(h:∀n,g.O b≠some (.slot n)):(g.back g' dst).O b=(match g'.O b with
  |some .res=>dst.map .slot
  |some (.slot _)=>none
  |o=>o):=by
 cases hO:g.O b with
 |none=>simp only[Gh.back,hO]
 |some o=>
  cases o with
  |slot n=>exact absurd hO (h n)
  |cell i j=>simp only[Gh.back,hO]
  |res=>simp only[Gh.back,hO]
theorem atj{hp':List aK}{w':World}{g':Gh}{dst:Option Nat}{v:V}{cv:Value}(h:SR g s w a)(q1:HR g' hp' w')(q2:FR g.hide s.hp w g' hp' w')
  (q3:VRel g'.I g'.ρ hp'.length w' v cv) (q4:aT g' w' .res v cv):
  SR (g.back g' dst) (St.setO {s with hp:=hp'} dst v) w' (a.put dst cv)∧FR g s.hp w (g.back g' dst) hp' w':=by
 have hidden:∀b n,g.O b=some (.slot n)→g.hide.O b=none:=fun b n hb=>by simp[Gh.hide,hb]
 have nonObj:∀b n,g.O b=some (.slot n)→∀(id:Nat) cs,s.hp[id]? =some (some cs)→g.hide.ρ id≠b:=by
  intro b n hb id cs hid e
  have:=h.hr.notO id cs hid
  rw[show g.ρ id=b from e,hb] at this
  simp at this
 have unslot:∀b o,g'.O b=some o→∀n,g.O b≠some (.slot n):=by
  intro b o hb n hn
  have:=q2.oSame b (h.hr.oLt _ _ hn) (nonObj b n hn) (hidden b n hn)
  rw[this] at hb
  simp at hb
 have backO:∀b o,g'.O b=some o→(∀n,o≠.slot n)→o≠.res→(g.back g' dst).O b=some o:=by
  intro b o hb h1 h2
  rw[Gh.back_else (unslot b o hb),hb]
  cases o with
  |slot n=>exact absurd rfl (h1 n)
  |cell i j=>rfl
  |res=>exact absurd rfl h2
 have blk:∀b n,g.O b=some (.slot n)→w'.heap[b]? =w.heap[b]?∧∀j,g'.I b j→g.I b j:=by
  intro b n hb
  have hlt:=h.hr.oLt _ _ hb
  exact⟨q2.block b hlt (nonObj b n hb) (hidden b n hb),fun j hj=>q2.iSame b j hlt (nonObj b n hb) (hidden b n hb) hj⟩
 have up:Up g.I g.ρ s.hp.length w g'.I g'.ρ hp'.length w':=q2.up
 have hs:SR (g.back g' dst) {s with hp:=hp'} w' a:=by
  refine⟨⟨?_,q1.apart,q1.notI,?_,q1.exI,?_⟩,⟨h.er.size,?_,?_⟩⟩
  ·intro id cs hid
   refine(q1.obj id cs hid).keep rfl fun arr e fz h1 h2=>?_
   refine⟨h2.len,h2.plain,h2.typed,h2.cold,h2.one,h2.rel,?_,h2.bn⟩
   intro j c cv hc hcv
   refine dU (h2.own j c cv hc hcv) rfl (fun b j hi=>⟨hi,rfl⟩) ?_
   intro b hb
   exact⟨backO b _ hb (by simp) (by simp),rfl,fun j hj=>hj⟩
  ·intro id cs hid
   have h0:=q1.notO id cs hid
   show (g.back g' dst).O (g'.ρ id)=none
   by_cases hsl:∃n,g.O (g'.ρ id)=some (.slot n)
   ·obtain⟨n,hn⟩:=hsl
    exfalso
    rcases q2.live id cs hid with⟨cs₀,hl⟩|⟨_,hl|hl|⟨id',cs',h5,h6⟩⟩
    ·have hlt:id<s.hp.length:=(List.getElem?_eq_some_iff.1 hl).1
     rw[show g'.ρ id=g.ρ id from q2.up.rho id hlt,h.hr.notO id cs₀ hl] at hn
     simp at hn
    ·have:=h.hr.oLt _ _ hn
     omega
    ·exact hl (hidden _ n hn)
    ·exact nonObj _ n hn id' cs' h5 h6
   ·rw[Gh.back_else (fun n hn=>hsl ⟨n,hn⟩),h0]
  ·intro b o hb
   by_cases hsl:∃n,g.O b=some (.slot n)
   ·obtain⟨n,hn⟩:=hsl
    have:=h.hr.oLt _ _ hn
    exact Nat.lt_of_lt_of_le this q2.size
   ·rw[Gh.back_else (fun n hn=>hsl ⟨n,hn⟩)] at hb
    cases hO:g'.O b with
    |none=>rw[hO] at hb;simp at hb
    |some o'=>exact q1.oLt b o' hO
  ·intro n v cv hv hcv
   exact(h.er.rel n v cv hv hcv).up up
  ·intro n v cv hv hcv
   refine dU (h.er.own n v cv hv hcv) q2.beta (fun b j hi=>⟨up.mono b j hi,up.cell b j hi⟩) ?_
   intro b hb
   obtain⟨b1,b2⟩:=blk b n hb
   exact⟨by simp[Gh.back,hb],b1,b2⟩
 have fr:FR g s.hp w (g.back g' dst) hp' w':=by
  refine⟨q2.beta,q2.os,q2.tape,q2.output,q2.size,?_,up,?_,?_,?_⟩
  ·intro b hb ho hO
   exact q2.block b hb ho (by simp[Gh.hide,hO])
  ·intro b j hb ho hO hj
   exact q2.iSame b j hb ho (by simp[Gh.hide,hO]) hj
  ·intro b hb ho hO
   have:=q2.oSame b hb ho (by simp[Gh.hide,hO])
   rw[Gh.back_else (by simp[hO]),this]
  ·intro id cs hid
   rcases q2.live id cs hid with hl|⟨h1,h2|h2|h2⟩
   ·exact .inl hl
   ·exact .inr ⟨h1,.inl h2⟩
   ·refine .inr ⟨h1,.inr (.inl fun h3=>h2 ?_)⟩
    show (match g.O (g'.ρ id) with|some (.slot _)=>none|o=>o)=none
    rw[show g.O (g'.ρ id)=none from h3]
   ·exact .inr ⟨h1,.inr (.inr h2)⟩
 refine⟨?_,fr⟩
 cases dst with
 |none=>exact hs
 |some d=>
  refine hs.set d q3 ?_
  cases v with
  |sl k o xs=>
   cases o with
   |may u=>simp[aT]
   |own=>
    cases cv with
    |slice ad len cap=>
     cases ad with
     |none=>simp[aT]
     |some ad=>
      obtain⟨o1,o2,o3⟩:=q4
      refine⟨?_,o2,o3⟩
      rw[Gh.back_else (unslot _ _ o1),o1]
      rfl
    |_=>simp[aT]
  |raw n=>
   cases cv with
   |pointer ad=>
    cases ad with
    |none=>simp[aT]
    |some ad=>
     obtain⟨o1,o2,o3⟩:=q4
     refine⟨?_,o2,o3⟩
     rw[Gh.back_else (unslot _ _ o1),o1]
     rfl
   |_=>simp[aT]
  |ul k xs=>
   rcases q4 with q4|⟨b,cap,arr,e,fz,m0,m1,m2,m3,m4,m5,m6,m7,m8,m9⟩
   ·exact .inl q4
   ·refine .inr ⟨b,cap,arr,e,fz,m0,m1,m2,m3,?_,m5,m6,m7,m8,m9⟩
    rw[Gh.back_else (unslot _ _ m4),m4]
    rfl
  |_=>simp[aT]
theorem aBx(hΓ:dR P Γ)(hβ:g.β=lv P){d:Option Nat}{f:Nat}{avs:List aO}(hc:ad9 P (.call d f avs) m=true)(hs:step Γ (.call d f avs) s=some (true,s'))(h:SR g s w a)(hn:cQ g s w a s' next):m.wp P a w next Q:=by
 obtain⟨dst,op,ty,pos,aft,gd⟩:=m
 simp only[ad9,Bool.and_eq_true,beq_iff_eq] at hc
 obtain⟨rfl,hc⟩:=hc
 split at hc
 ·rename_i f' as' hop
  obtain⟨ts,rfl⟩:=axn hop
  simp only[Bool.and_eq_true,beq_iff_eq] at hc
  obtain⟨rfl,h1,h2⟩:=hc
  simp only[step] at hs
  split at hs
  ·rename_i c v hp' hg
   simp only[Option.some.injEq,Prod.mk.injEq] at hs
   obtain⟨rfl,rfl⟩:=hs
   obtain⟨k1,k2⟩:=aoF h.er avs as' h1
   have hfn:=hΓ _ _ _ _ _ hg
   unfold ap0 at h2
   split at h2
   ·rename_i fn hfn'
    simp only[Bool.and_eq_true,bne_iff_ne,ne_eq] at h2
    obtain⟨h3,h4⟩:=h2
    have hnone:fn.body.isNone=false:=by cases hb:fn.body<;>simp_all
    have hrun:(execOp a.eval ⟨dst,.call ⟨.value (.func f),⟨as'⟩,ts⟩,ty,pos,aft,gd⟩).run P w=.ok (.enter f (as'.map a.eval).toArray) w:=by
     simp[execOp,resolve,Act.eval,Deferred.ofValue,invoke,callFunc,hfn',h4,hnone]
     intro hb0
     rw[hb0] at h3
     simp at h3
    unfold Oper.wp
    rw[hrun,Oper.upon_enter]
    refine(hfn w g.hide (as'.map a.eval).toArray hβ h.hr.hide (by simp[k1]) (by
     intro x hx
     obtain⟨y,_,rfl⟩:=List.mem_map.1 hx
     exact fw _) (fun i x cv hx hcv=>k2 i x cv hx (by simpa using hcv))).mono ?_
    rintro e w' ⟨cv,g',rfl,q1,q2,q3,q4⟩
    simp only
    obtain⟨r1,r2⟩:=atj (dst:=dst) h q1 q2 q3 q4
    refine hn _ _ _ r1 ?_ (by cases dst<;>rfl)
    cases dst<;>exact r2
   ·simp at h2
  ·simp at hs
 ·simp at hc
theorem axo{o:Op}{x:Operand}{avs:List Operand}(h:avC o=some (x,avs)):∃ts,o=.call ⟨.value x,⟨avs⟩,ts⟩:=by
 unfold avC at h
 split at h
 ·rename_i c
  obtain⟨callee,⟨args⟩,ats⟩:=c
  simp only at h
  split at h
  ·simp only[Option.some.injEq,Prod.mk.injEq] at h
   obtain⟨rfl,rfl⟩:=h
   exact⟨_,rfl⟩
  ·simp at h
 ·simp at h
theorem aAG(hΓ:dR P Γ)(hβ:g.β=lv P){d:Option Nat}{f:Nat}{x:aO}{avs:List aO}(hc:ad9 P (.dcall d f x avs) m=true)(hs:step Γ (.dcall d f x avs) s=some (true,s'))(h:SR g s w a)(hn:cQ g s w a s' next):m.wp P a w next Q:=by
 obtain⟨dst,op,ty,pos,aft,gd⟩:=m
 simp only[ad9,Bool.and_eq_true,beq_iff_eq] at hc
 obtain⟨rfl,hc⟩:=hc
 split at hc
 ·rename_i x' as' hop
  obtain⟨ts,rfl⟩:=axo hop
  simp only[Bool.and_eq_true,beq_iff_eq] at hc
  obtain⟨h0,h1,h2⟩:=hc
  have r0:=ba h0 h.er
  simp only[step] at hs
  split at hs
  ·rename_i f' abC hx
   rw[hx] at r0
   split at hs
   ·rename_i c v hp' hg
    simp only[Option.some.injEq,Prod.mk.injEq,Bool.and_eq_true] at hs
    obtain⟨⟨hff,rfl⟩,rfl⟩:=hs
    obtain rfl:=Nat.eq_of_beq_eq_true hff
    generalize hcv:a.eval x'=cv0 at r0
    cases r0 with
    |fn _ _ vs hl hv=>
    obtain⟨k1,k2⟩:=aoF h.er avs as' h1
    have hfn:=hΓ _ _ _ _ _ hg
    unfold ap0 at h2
    split at h2
    ·rename_i fn hfn'
     simp only[Bool.and_eq_true,bne_iff_ne,ne_eq] at h2
     obtain⟨h3,h4⟩:=h2
     have hnone:fn.body.isNone=false:=by cases hb:fn.body<;>simp_all
     have hrun:(execOp a.eval ⟨dst,.call ⟨.value x',⟨as'⟩,ts⟩,ty,pos,aft,gd⟩).run P w=.ok (.enter f' ((as'.map a.eval).toArray++vs)) w:=by
      simp[execOp,resolve,hcv,Deferred.ofValue,invoke,callFunc,hfn',h4,hnone]
      intro hb0
      rw[hb0] at h3
      simp at h3
     unfold Oper.wp
     rw[hrun,Oper.upon_enter]
     refine(hfn w g.hide ((as'.map a.eval).toArray++vs) hβ h.hr.hide (by simp[k1,hl]) (by
      intro x hx
      rcases List.mem_append.1 hx with hx|hx
      ·obtain⟨y,_,rfl⟩:=List.mem_map.1 hx
       exact fw _
      ·obtain⟨y,_,rfl⟩:=List.mem_map.1 hx
       exact fw _) (fun i x cv hx hcv=>by
       have hla:(avs.map fun y=>disown (y.ev s)).length=(as'.map a.eval).length:=by simp[k1]
       rcases Nat.lt_or_ge i (as'.map a.eval).length with hi|hi
       ·rw[List.getElem?_append_left (by rw[hla];exact hi)] at hx
        rw[Array.getElem?_append_left (by simpa using hi)] at hcv
        exact k2 i x cv hx (by simpa using hcv)
       ·rw[List.getElem?_append_right (by rw[hla];exact hi),List.getElem?_map,Option.map_eq_some_iff] at hx
        obtain⟨y,hy,rfl⟩:=hx
        rw[Array.getElem?_append_right (by simpa using hi)] at hcv
        refine(hv _ y cv hy ?_).disown
        rw[hla]
        simpa using hcv)).mono ?_
     rintro e w' ⟨cv,g',rfl,q1,q2,q3,q4⟩
     simp only
     obtain⟨r1,r2⟩:=atj (dst:=dst) h q1 q2 q3 q4
     refine hn _ _ _ r1 ?_ (by cases dst<;>rfl)
     cases dst<;>exact r2
    ·simp at h2
   ·simp at hs
  ·simp at hs
 ·simp at hc
theorem avD(hΓ:dR P Γ)(hβ:g.β=lv P){o:IOp}(hc:ayL P o m=true)(hs:step Γ o s=some (true,s'))(h:SR g s w a)(hn:cQ g s w a s' next):m.wp P a w next Q:=by
 unfold ayL at hc
 simp only[Bool.or_eq_true] at hc
 rcases hc with(((((((hc|hc)|hc)|hc)|hc)|hc)|hc)|hc)|hc
 ·cases o with
  |pick=>exact aBl hc hs h hn
  |bin=>exact aBV hc hs h hn
  |un=>exact aCz hc hs h hn
  |cvi=>exact aBS hc hs h hn
  |b2s=>exact aBT hc hs h hn
  |lens=>exact aBm hc hs h hn
  |lenl=>exact aBn hc hs h hn
  |idx=>exact aBU hc hs h hn
  |ixa=>exact aBW hc hs h hn
  |subs=>exact aBo hc hs h hn
  |subl=>exact aBp hc hs h hn
  |fad=>exact aBX hc hs h hn
  |ext=>exact aBY hc hs h hn
  |nck=>exact aBZ hc hs h hn
  |mx=>exact aCA hc hs h hn
  |snil=>exact aBq hc hs h hn
  |ld d n agg take x=>
   cases take with
   |false=>exact ayD hc hs h hn
   |true=>simp[bz] at hc
  |_=>simp[bz] at hc
 ·cases o with
  |mov=>exact aB0 hc hs h hn
  |bsl=>exact aB1 hβ hc hs h hn
  |app=>exact aB2 hβ hc hs h hn
  |_=>simp[acf] at hc
 ·cases o with
  |call=>exact aBx hΓ hβ hc hs h hn
  |dcall=>exact aAG hΓ hβ hc hs h hn
  |_=>simp[ad9] at hc
 ·cases o with
  |new=>exact aB3 hc hs h hn
  |box=>exact aB4 hc hs h hn
  |st=>exact aCB hc hs h hn
  |ld d n agg take x=>
   cases take with
   |true=>exact azs hc hs h hn
   |false=>simp[oP] at hc
  |bld=>exact aB5 hc hs h hn
  |mks=>exact aB6 hβ hc hs h hn
  |_=>simp[oP] at hc
 ·cases o with
  |_=>simp[ayb] at hc
 ·cases o with
  |_=>simp[ayd] at hc
 ·cases o with
  |boxe=>exact aBr hc hs h hn
  |alr=>exact aB8 hc hs h hn
  |frz=>exact aB9 hc hs h hn
  |lde=>exact aB7 hc hs h hn
  |mkf=>exact aCa hc hs h hn
  |_=>simp[z7] at hc
 ·cases o with
  |mku=>exact aCd hβ hc hs h hn
  |apu=>exact aCc hβ hc hs h hn
  |apw=>exact aCl hβ hc hs h hn
  |slw=>exact aCj hc hs h hn
  |apx=>exact aCk hc hs h hn
  |blu=>exact aCe hβ hc hs h hn
  |lnw=>exact aCf hc hs h hn
  |ixw=>exact aCg hc hs h hn
  |fdw=>exact aCh hc hs h hn
  |ldw=>exact aCi hc hs h hn
  |stw=>exact aCm hc hs h hn
  |_=>simp[nQ] at hc
 ·cases o with
  |mkm=>exact aCn hc hs h hn
  |mget=>exact aBu hc hs h hn
  |ment=>exact aBv hc hs h hn
  |mest=>exact aBw hc hs h hn
  |_=>simp[yb] at hc
structure Inv(g₀:Gh)(hp₀:List aK)(w₀:World)(df:List Deferred)(g:Gh)(s:St)(w:World)(a:Act):Prop where
 sr:SR g s w a
 fr:FR g₀ hp₀ w₀ g s.hp w
 df:a.defers=df
theorem SR.renew(h:SR g s w a)(n:Nat)(b:Bool)(hv:s.get n=.bool b):SR g (s.set n (.bool b)) w a:=by
 have:=h.bare n
 rw[hv] at this
 exact this
theorem atk(h:SR g s w a){o:Oper}{ops:Array Oper}{j n:Nat}{b b':Bool}(hj:(ops[j]?).bind (·.dst)=some n)(hg:o.guard=some (j,b'))(hv:s.get n=.bool b):
  Region.wanted o (yielded ops a.tmps)=(b==b'):=by
 have hn:n<s.env.length:=by
  rcases Nat.lt_or_ge n s.env.length with h1|h1
  ·exact h1
  ·simp[St.get,List.getD,List.getElem?_eq_none h1] at hv
 have hn':n<a.tmps.size:=by rw[←h.er.size];exact hn
 have r:=h.er.get n
 rw[hv] at r
 have ht:a.tmps[n]? =some (a.tmps.getD n undef):=by simp[Array.getD,hn',Array.getElem?_eq_getElem hn']
 generalize a.tmps.getD n undef=cv at r ht
 cases r
 simp[Region.wanted,hg,yielded,hj,ht]
theorem atl(h:SR g s w a){o:Oper}{ops:Array Oper}{j n:Nat}{b':Bool}(hj:(ops[j]?).bind (·.dst)=some n)(hg:o.guard=some (j,b'))(hv:s.get n=.tup []):
  Region.wanted o (yielded ops a.tmps)=false:=by
 have hn:n<s.env.length:=by
  rcases Nat.lt_or_ge n s.env.length with h1|h1
  ·exact h1
  ·simp[St.get,List.getD,List.getElem?_eq_none h1] at hv
 have hn':n<a.tmps.size:=by rw[←h.er.size];exact hn
 have r:=h.er.get n
 rw[hv] at r
 have ht:a.tmps[n]? =some (a.tmps.getD n undef):=by simp[Array.getD,hn',Array.getElem?_eq_getElem hn']
 generalize a.tmps.getD n undef=cv at r ht
 cases r
 simp[Region.wanted,hg,yielded,hj,ht]
theorem alw(h:SR g s w a)(d:Option Nat):SR g (s.setO d (.tup [])) w (a.put d undef):=by
 cases d with
 |none=>exact h
 |some d=>exact h.set d (.tup [] #[] rfl (by simp)) (by simp[aT])
theorem arJ(s:St)(d:Option Nat)(v:V):(s.setO d v).hp=s.hp:=by cases d<;>rfl
theorem avE(a:Act)(d:Option Nat)(v:Value):(a.put d v).defers=a.defers:=by cases d<;>rfl
theorem avF{R:Type}{c:Bool}{x:Option R}{r:R}(h:chk c x=some r):c=true∧x=some r:=by
 cases c with
 |true=>exact⟨rfl,h⟩
 |false=>simp[chk] at h
theorem aem(hΓ:dR P Γ){g₀:Gh}(hβ:g₀.β=lv P){R:Type}{K:St→Option R}{r:R}{ops:Array Oper}{hp₀:List aK}{w₀:World}{df:List Deferred}{Q:Exit→Act→World→Prop}
  (hQ:∀s g w a,K s=some r→Inv g₀ hp₀ w₀ df g s w a→Q .normal a w):∀(l:List GOp)(i:Nat),aca P ops i l=true→∀(s:St)(g:Gh)(w:World)(a:Act),
   f7 Γ l K s=some r→Inv g₀ hp₀ w₀ df g s w a→wpOps P ops Q (List.range' i (ops.size-i)) a w
 | [],i,hc,s,g,w,a,hr,h=>by
   simp only[aca,beq_iff_eq] at hc
   subst hc
   simp only[Nat.sub_self,List.range'_zero,wpOps]
   exact hQ s g w a hr h
 |⟨gd,o,ob⟩::l,i,hc,s,g,w,a,hr,h=>by
  simp only[aca,Bool.and_eq_true] at hc
  obtain⟨hc,hl⟩:=hc
  split at hc
  ·rename_i m hm
   have hi:i<ops.size:=by
    rcases Nat.lt_or_ge i ops.size with h1|h1
    ·exact h1
    ·simp[Array.getElem?_eq_none h1] at hm
   rw[show ops.size-i=(ops.size-(i+1))+1 by omega,List.range'_succ]
   simp only[arI,Bool.and_eq_true,beq_iff_eq] at hc
   obtain⟨⟨h1,h2⟩,h3⟩:=hc
   have doit:∀s₁,SR g s₁ w a→s₁.hp=s.hp→∀c s',nN Γ ob o s₁=some (c,s')→chk c (f7 Γ l K s')=some r→m.wp P a w (wpOps P ops Q (List.range' (i+1) (ops.size-(i+1)))) Q:=by
    intro s₁ hs₁ hhp c s' hst hch
    obtain⟨rfl,hch⟩:=avF hch
    refine avD hΓ (h.fr.beta.trans hβ) h1 (adP hst) hs₁ ?_
    intro a' w' g' hs' hf hd
    refine aem hΓ hβ hQ l (i+1) hl s' g' w' a' hch ⟨hs',?_,hd.trans h.df⟩
    rw[hhp] at hf
    exact h.fr.trans hf
   have skip:∀s₁,SR g s₁ w a→s₁.hp=s.hp→f7 Γ l K (s₁.setO o.dst (.tup []))=some r→wpOps P ops Q (List.range' (i+1) (ops.size-(i+1))) (a.put m.dst undef) w:=by
    intro s₁ hs₁ hhp hr'
    rw[h2] at hr'
    refine aem hΓ hβ hQ l (i+1) hl _ g w _ hr' ⟨alw hs₁ _,?_,(avE _ _ _).trans h.df⟩
    rw[arJ,hhp]
    exact h.fr
   simp only[wpOps,hm]
   match gd,h3,hr with
   |none,h3,hr=>
    cases hmg:m.guard with
    |some p=>rw[hmg] at h3;simp at h3
    |none=>
    rw[if_pos (by simp[Region.wanted,hmg])]
    left
    simp only[f7] at hr
    split at hr
    ·rename_i c s' hst
     exact doit s h.sr rfl c s' hst hr
    ·simp at hr
   |some (n,b),h3,hr=>
    cases hmg:m.guard with
    |none=>rw[hmg] at h3;simp at h3
    |some p=>
    obtain⟨j,b'⟩:=p
    rw[hmg] at h3
    simp only[Bool.and_eq_true,beq_iff_eq] at h3
    obtain⟨rfl,hj⟩:=h3
    simp only[f7] at hr
    split at hr
    ·rename_i t ht
     rw[atk h.sr hj hmg ht]
     have hs₁:=h.sr.renew n t ht
     cases t with
     |true=>
      simp only[cond_true] at hr
      cases b with
      |true=>
       simp only at hr
       rw[if_pos (by rfl)]
       left
       split at hr
       ·rename_i c s' hst
        exact doit _ hs₁ rfl c s' hst hr
       ·simp at hr
      |false=>
       rw[if_neg (by simp)]
       exact skip _ hs₁ rfl hr
     |false=>
      simp only[cond_false] at hr
      cases b with
      |false=>
       simp only at hr
       rw[if_pos (by rfl)]
       left
       split at hr
       ·rename_i c s' hst
        exact doit _ hs₁ rfl c s' hst hr
       ·simp at hr
      |true=>
       rw[if_neg (by simp)]
       exact skip _ hs₁ rfl hr
    ·rename_i ht
     rw[atl h.sr hj hmg ht,if_neg (by simp)]
     exact skip _ h.sr rfl hr
    ·simp at hr
  ·simp at hc
theorem alx{ops:Array Oper}:∀(l:List GOp)(i:Nat),aca P ops i l=true→ops.size=i+l.length∧∀(k:Nat) x,l[k]? =some x→∃m,ops[i+k]? =some m∧arI P ops x m=true
 | [],i,h=>by
   simp only[aca,beq_iff_eq] at h
   exact⟨by simp[h],by simp⟩
 |x::l,i,h=>by
  simp only[aca,Bool.and_eq_true] at h
  obtain⟨h1,h2⟩:=h
  obtain⟨k1,k2⟩:=alx l (i+1) h2
  refine⟨by simp[k1];omega,?_⟩
  intro k y hy
  cases k with
  |zero=>
   simp at hy
   subst hy
   split at h1
   ·rename_i m hm
    exact⟨m,hm,h1⟩
   ·simp at h1
  |succ k=>
   obtain⟨m,hm,hc⟩:=k2 k y (by simpa using hy)
   exact⟨m,by rw[←hm];congr 1;omega,hc⟩
theorem azG(hΓ:dR P Γ){g₀:Gh}(hβ:g₀.β=lv P){ops:Array Oper}{i:Nat}{m:Oper}{x:GOp}(hm:ops[i]? =some m)(hc:arI P ops x m=true){hp₀:List aK}{w₀:World}{df:List Deferred}{Q:Exit→Act→World→Prop}{K:Act→World→Prop}
  (hs:kc Γ x s=some s') (h:Inv g₀ hp₀ w₀ df g s w a) (hK:∀g' w' a',Inv g₀ hp₀ w₀ df g' s' w' a'→K a' w'):wpOp P ops Q i K a w:=by
 obtain⟨gd,o,ob⟩:=x
 simp only[arI,Bool.and_eq_true,beq_iff_eq] at hc
 obtain⟨⟨h1,h2⟩,h3⟩:=hc
 have doit:(match nN Γ ob o s with|some (c,s')=>chk c (some s')|none=>none)=some s'→m.wp P a w K Q:=by
  intro hst
  split at hst
  ·rename_i c s₁ hst'
   obtain⟨rfl,hch⟩:=avF hst
   obtain rfl:s₁=s':=by simpa using hch
   refine avD hΓ (h.fr.beta.trans hβ) h1 (adP hst') h.sr ?_
   intro a' w' g' hs' hf hd
   exact hK g' w' a' ⟨hs',h.fr.trans hf,hd.trans h.df⟩
  ·simp at hst
 unfold wpOp
 simp only[hm]
 match gd,h3,hs with
 |none,h3,hs=>
  cases hmg:m.guard with
  |some p=>rw[hmg] at h3;simp at h3
  |none=>
  rw[if_pos (by simp[Region.wanted,hmg])]
  exact .inl (doit hs)
 |some (n,b),h3,hs=>
  cases hmg:m.guard with
  |none=>rw[hmg] at h3;simp at h3
  |some p=>
  obtain⟨j,b'⟩:=p
  rw[hmg] at h3
  simp only[Bool.and_eq_true,beq_iff_eq] at h3
  obtain⟨rfl,hj⟩:=h3
  simp only[kc] at hs
  split at hs
  ·rename_i t ht
   rw[atk h.sr hj hmg ht]
   split at hs
   ·rename_i hb
    rw[if_pos hb]
    exact .inl (doit hs)
   ·rename_i hb
    rw[if_neg (by simp[hb])]
    obtain rfl:_=s':=by simpa using hs
    rw[←h2]
    exact hK g w _ ⟨alw h.sr _,by rw[arJ];exact h.fr,(avE _ _ _).trans h.df⟩
  ·rename_i ht
   rw[atl h.sr hj hmg ht,if_neg (by simp)]
   obtain rfl:_=s':=by simpa using hs
   rw[←h2]
   exact hK g w _ ⟨alw h.sr _,by rw[arJ];exact h.fr,(avE _ _ _).trans h.df⟩
  ·simp at hs
theorem azH(hΓ:dR P Γ){g₀:Gh}(hβ:g₀.β=lv P){imp:List Nat}(hP:ep Γ imp){R:Type}{K:St→Option R}{r:R}{ops:Array Oper}{l:List GOp}{pre:List (List Nat)}(hc:aea P imp ops l pre=true){hp₀:List aK}{w₀:World}{df:List Deferred}{Q:Exit→Act→World→Prop}
  (hQ:∀s g w a,K s=some r→Inv g₀ hp₀ w₀ df g s w a→Q .normal a w):∀(fuel:Nat)(rs:List Nat)(listed:Array Bool)(s:St)(g:Gh)(w:World)(a:Act),
   rs.length=fuel→rs.Pairwise (·<·)→(∀i,i∈rs↔i<l.length∧listed.getD i true=false)→listed.size=l.length→(∀j,j<l.length→j ∉ rs→∀i∈pre.getD j [],i ∉ rs)→
   f7 Γ (rs.filterMap fun i=>l[i]?) K s=some r→Inv g₀ hp₀ w₀ df g s w a→wpAny P .any ops Q fuel listed a w:=by
 simp only[aea,Bool.and_eq_true] at hc
 obtain⟨⟨-,hgs⟩,hall⟩:=hc
 obtain⟨hsize,hget⟩:=alx l 0 hgs
 simp only[Nat.zero_add] at hsize hget
 have hj:∀j,j<l.length→∃m x,ops[j]? =some m∧l[j]? =some x∧arI P ops x m=true∧(∀e∈m.after,Region.binds .any e=true→e.on<j)∧
   (∀i∈pre.getD j [],∃e∈m.after,Region.binds .any e=true∧(e.on=i∨i∈pre.getD e.on []))∧(∀i,i<j→i∈pre.getD j []∨∃y,l[i]? =some y∧apW imp y x=true):=by
  intro j hlt
  have h0:=List.all_eq_true.1 hall j (List.mem_range.2 hlt)
  simp only[Bool.and_eq_true] at h0
  obtain⟨h1,h2⟩:=h0
  have hx:l[j]? =some l[j]:=List.getElem?_eq_getElem hlt
  obtain⟨m,hm,hcg⟩:=hget j _ hx
  rw[hm] at h1
  rw[hx] at h2
  simp only[Bool.and_eq_true] at h1
  refine⟨m,l[j],hm,hx,hcg,?_,?_,?_⟩
  ·intro e he hb
   have:=List.all_eq_true.1 h1.1 e (by simpa using he)
   simpa [hb] using this
  ·intro i hi
   have:=List.all_eq_true.1 h1.2 i hi
   obtain⟨e,he,hb⟩:=List.any_eq_true.1 this
   simp only[Bool.and_eq_true,Bool.or_eq_true,beq_iff_eq,List.contains_iff_mem] at hb
   exact⟨e,by simpa using he,hb.1,hb.2⟩
  ·intro i hi
   have:=List.all_eq_true.1 h2 i (List.mem_range.2 hi)
   simp only[Bool.or_eq_true,List.contains_iff_mem] at this
   rcases this with h3|h3
   ·exact .inl h3
   ·right
    split at h3
    ·rename_i y hy;exact⟨y,hy,h3⟩
    ·simp at h3
 have ready:∀(rs:List Nat)(listed:Array Bool),(∀i,i∈rs↔i<l.length∧listed.getD i true=false)→listed.size=l.length→∀j m,ops[j]? =some m→(j∈Region.ready .any ops listed↔j∈rs∧∀e∈m.after,Region.binds .any e=true→e.on<l.length∧e.on ∉ rs):=by
  intro rs listed hrs hls j m hm
  have hlt:j<l.length:=by rw[←hsize];exact(Array.getElem?_eq_some_iff.1 hm).1
  have key:∀i,listed.getD i false=true↔i<l.length∧i ∉ rs:=by
   intro i
   rw[hrs i]
   rcases Nat.lt_or_ge i listed.size with h1|h1
   ·have h2:i<l.length:=by omega
    simp[Array.getD,h1,h2]
   ·have h2:¬i<l.length:=by omega
    have h3:¬i<listed.size:=by omega
    simp[Array.getD,h3,h2]
  rw[mem_ready,hrs j]
  constructor
  ·rintro⟨h1,o,ho,h2⟩
   rw[hm] at ho
   cases ho
   exact⟨⟨hlt,h1⟩,fun e he hb=>(key _).1 (h2 e he hb)⟩
  ·rintro⟨⟨_,h1⟩,h2⟩
   exact⟨h1,m,hm,fun e he hb=>(key _).2 (h2 e he hb)⟩
 intro fuel
 induction fuel with
 |zero=>
  intro rs listed s g w a hlen hpw hrs hls hpre hr h
  have:rs=[]:=List.eq_nil_of_length_eq_zero hlen
  subst this
  simp only[wpAny]
  refine⟨?_,hQ s g w a hr h⟩
  rw[List.eq_nil_iff_forall_not_mem]
  intro j hjr
  have:=mem_ready.1 hjr
  obtain⟨hu,o,ho,_⟩:=this
  exact absurd ((ready [] listed hrs hls j o ho).1 hjr).1 (by simp)
 |succ fuel ih=>
  intro rs listed s g w a hlen hpw hrs hls hpre hr h
  simp only[wpAny]
  refine⟨?_,?_⟩
  ·intro hno
   exfalso
   cases rs with
   |nil=>simp at hlen
   |cons j rs=>
    have hjl:=((hrs j).1 (List.mem_cons_self ..)).1
    obtain⟨m,x,hm,hx,hcg,he,hp,hi⟩:=hj j hjl
    have:j∈Region.ready .any ops listed:=by
     refine(ready _ listed hrs hls j m hm).2 ⟨List.mem_cons_self ..,fun e hee hb=>?_⟩
     have hlt:=he e hee hb
     refine⟨by omega,?_⟩
     intro hmem
     rcases List.mem_cons.1 hmem with h1|h1
     ·omega
     ·have:=(List.pairwise_cons.1 hpw).1 _ h1
      omega
    rw[hno] at this
    simp at this
  ·intro j hjr
   obtain⟨hu,o,ho,_⟩:=mem_ready.1 hjr
   obtain⟨hjm,hdeps⟩:=(ready rs listed hrs hls j o ho).1 hjr
   have hjl:=((hrs j).1 hjm).1
   obtain⟨m,x,hm,hx,hcg,he,hp,hi⟩:=hj j hjl
   rw[hm] at ho
   cases ho
   have hpj:∀i∈pre.getD j [],i ∉ rs:=by
    intro i hii
    obtain⟨e,hee,hb,hor⟩:=hp i hii
    obtain⟨d1,d2⟩:=hdeps e hee hb
    rcases hor with rfl|hor
    ·exact d2
    ·exact hpre _ d1 d2 i hor
   obtain⟨A,B,rfl⟩:=List.append_of_mem hjm
   have hA:∀i∈A,i<j:=by
    intro i hiA
    exact(List.pairwise_append.1 hpw).2.2 i hiA j (List.mem_cons_self ..)
   have hB:∀i∈B,j<i:=by
    intro i hiB
    exact(List.pairwise_cons.1 (List.pairwise_append.1 hpw).2.1).1 i hiB
   rw[List.filterMap_append,List.filterMap_cons_some hx] at hr
   obtain⟨s',hg,hr'⟩:=aBe hP _ s (by
    intro y hy
    obtain⟨i,hiA,hiy⟩:=List.mem_filterMap.1 hy
    rcases hi i (hA i hiA) with h1|⟨y',h1,h2⟩
    ·exact absurd (List.mem_append_left _ hiA) (hpj i h1)
    ·rw[hiy] at h1
     cases h1
     exact h2) hr
   rw[←List.filterMap_append] at hr'
   refine azG hΓ hβ hm hcg hg h ?_
   intro g' w' a' hinv
   have hmem:∀i,i∈A++B↔i∈A++j::B∧i≠j:=by
    intro i
    simp only[List.mem_append,List.mem_cons]
    constructor
    ·rintro(h1|h1)
     ·exact⟨.inl h1,by have:=hA i h1;omega⟩
     ·exact⟨.inr (.inr h1),by have:=hB i h1;omega⟩
    ·rintro⟨h1|h1|h1,h2⟩
     ·exact .inl h1
     ·exact absurd h1 h2
     ·exact .inr h1
   refine ih (A++B) (listed.setIfInBounds j true) s' g' w' a' ?_ ?_ ?_ (by simp[hls]) ?_ hr' hinv
   ·simp only[List.length_append,List.length_cons] at hlen ⊢
    omega
   ·exact hpw.sublist (List.Sublist.append_left (List.sublist_cons_self ..) _)
   ·intro i
    rw[hmem,hrs]
    by_cases hij:i=j
    ·subst hij
     have hsz:i<listed.size:=by omega
     simp[Array.getD,hsz]
    ·rw[getD_set_ne true (fun e=>hij e.symm)]
     simp[hij]
   ·intro j' hj' hnot i hii hmi
    obtain⟨h1,h2⟩:=(hmem i).1 hmi
    by_cases hjj:j'=j
    ·subst hjj
     exact hpj i hii h1
    ·exact hpre j' hj' (fun hm'=>hnot ((hmem j').2 ⟨hm',hjj⟩)) i hii h1
theorem afV{α:Type}:∀(l:List α),((List.range l.length).filterMap fun i=>l[i]?)=l
 | []=>rfl
 |x::l=>by
  rw[List.length_cons,List.range_succ_eq_map,List.filterMap_cons_some (b:=x) (by simp),List.filterMap_map]
  have:=afV l
  simp only[Function.comp_def,Nat.succ_eq_add_one,List.getElem?_cons_succ]
  rw[this]
theorem Inv.drew{g₀:Gh}{hp₀:List aK}{w₀:World}{df:List Deferred}(h:Inv g₀ hp₀ w₀ df g s w a):Inv g₀ hp₀ w₀ df g s w.drew a:=by
 have u:Up g.I g.ρ s.hp.length w g.I g.ρ s.hp.length w.drew:=⟨fun _ _ h=>h,fun _ _ _=>rfl,fun _ _=>rfl,Nat.le_refl _⟩
 refine⟨⟨h.sr.hr.drew,⟨h.sr.er.size,fun n v cv h1 h2=>(h.sr.er.rel n v cv h1 h2).up u,fun n v cv h1 h2=>dU (h.sr.er.own n v cv h1 h2) rfl (fun b j hi=>⟨hi,rfl⟩) (fun b hb=>⟨hb,rfl,fun j hj=>hj⟩)⟩⟩,?_,h.df⟩
 exact⟨h.fr.beta,h.fr.os,h.fr.tape,h.fr.output,h.fr.size,h.fr.block,h.fr.up.trans u,h.fr.iSame,h.fr.oSame,h.fr.live⟩
theorem ayM(hΓ:dR P Γ){g₀:Gh}(hβ:g₀.β=lv P){imp:List Nat}(hP:ep Γ imp){R:Type}{K:St→Option R}{r:R}{id:Nat}{ops:Array Oper}{l:List GOp}{pre:List (List Nat)}(hc:aea P imp ops l pre=true){hp₀:List aK}{w₀:World}{df:List Deferred}{Q:Exit→Act→World→Prop}
  (hQ:∀s g w a,K s=some r→Inv g₀ hp₀ w₀ df g s w a→Q .normal a w) (hr:f7 Γ l K s=some r) (h:Inv g₀ hp₀ w₀ df g s w a):(Code.region id ops true).wp P Q a w:=by
 have hc':=hc
 simp only[aea,Bool.and_eq_true] at hc'
 have hsize:ops.size=l.length:=by simpa using (alx l 0 hc'.1.2).1
 refine wp_region_any hc'.1.1 ?_
 rw[hsize]
 refine azH hΓ hβ hP hc hQ l.length (List.range l.length) _ s g _ a (by simp) List.pairwise_lt_range ?_ (by simp) ?_ (by rw[afV];exact hr) h.drew
 ·intro i
  by_cases hi:i<l.length<;>simp[Array.getD,hi]
 ·intro j hj hnot
  exact absurd (List.mem_range.2 hj) hnot
theorem vT(live:List Nat)(m:Nat):∀(env:List V)(i n:Nat)(v:V),(vN live m i env)[n]? =some v→v=.undef∨(v.lower m=true∧env[n]? =some v)
 | [],i,n,v,h=>by simp[vN] at h
 |x::env,i,n,v,h=>by
  simp only[vN] at h
  cases n with
  |zero=>
   simp only[List.getElem?_cons_zero,Option.some.injEq] at h
   split at h
   ·rename_i hc
    simp only[Bool.and_eq_true] at hc
    right;subst h;exact⟨hc.2,by simp⟩
   ·left;exact h.symm
  |succ n=>
   simp only[List.getElem?_cons_succ] at h ⊢
   exact vT live m env (i+1) n v h
theorem z9(live:List Nat)(m:Nat):∀(env:List V)(i:Nat),(vN live m i env).length=env.length
 | [],i=>rfl
 |x::env,i=>by simp[vN,z9 live m env (i+1)]
theorem w9{n:Nat}:∀{cs:List V},V.lowers n cs=true→∀(i:Nat) c,cs[i]? =some c→c.lower n=true
 | [],_,i,c,hc=>by simp at hc
 |x::cs,h,i,c,hc=>by
  simp only[V.lowers,Bool.and_eq_true] at h
  cases i with
  |zero=>simp at hc;subst hc;exact h.1
  |succ i=>exact w9 h.2 i c (by simpa using hc)
theorem axp{n:Nat}{cs:List V}(h:V.lowers n cs=true)(j:Nat)(c:V)(hc:(cellsOf cs)[j]? =some c):c.lower n=true:=by
 cases hr:gn cs with
 |false=>rw[sE hr] at hc;exact w9 h j c hc
 |true=>
  unfold gn at hr
  split at hr
  ·simp only[cellsOf,List.getElem?_map,Option.map_eq_some_iff] at hc
   obtain⟨_,_,rfl⟩:=hc
   rfl
  ·simp[V.lowers,V.lower] at h
  ·cases hr
theorem VRel.fewer{I:Nat→Nat→Prop}{ρ:Nat→Nat}{N n:Nat}{v:V}{cv:Value}(h:VRel I ρ N w v cv)(hb:v.lower n=true)(hn:n≤N):VRel I ρ n w v cv:=by
 induction h with
 |undef cv=>exact .undef cv
 |bool b=>exact .bool b
 |int k n h=>exact .int k n h
 |str l s hl h=>exact .str l s hl h
 |sln k o=>exact .sln k o
 |sle k o ad ho=>exact .sle k o ad ho
 |sl k o xs b off len cap hl hc hm hf f hI hw hv ih=>
  refine .sl k o xs b off len cap hl hc hm hf f hI hw (fun i x j v h1 h2=>ih i x j v h1 h2 ?_)
  have:v∈enc k x:=List.mem_of_getElem? h2
  cases k<;>simp[enc] at this<;>(first|(rcases this with rfl|rfl|rfl|rfl|rfl|rfl|rfl|rfl|rfl|rfl)|(rcases this with rfl|rfl|rfl|rfl|rfl|rfl|rfl|rfl|rfl)|(rcases this with rfl|rfl|rfl|rfl|rfl)|subst this)<;>rfl
 |agg cs vs hl h1 hb' hv ih=>exact .agg cs vs hl h1 hb' (fun i c cv hc hcv=>ih i c cv hc hcv (w9 (by simpa [V.lower] using hb) i c hc))
 |tup cs vs hl hv ih=>exact .tup cs vs hl (fun i c cv hc hcv=>ih i c cv hc hcv (w9 (by simpa [V.lower] using hb) i c hc))
 |ea cs b off f h1 hI hw hv ih=>exact .ea cs b off f h1 hI hw (fun j c hc=>ih j c hc (w9 (by simpa [V.lower] using hb) j c hc))
 |ptr id off h=>exact .ptr id off (by simpa [V.lower,Nat.blt_eq] using hb)
 |nilp=>exact .nilp
 |fn f cs vs hl hv ih=>exact .fn f cs vs hl (fun i c cv hc hcv=>ih i c cv hc hcv (w9 (by simpa [V.lower] using hb) i c hc))
 |nilif=>exact .nilif
 |bn E n p=>exact .bn E n p
 |junk cv h=>exact .junk cv h
 |so id m cap h hc hm=>exact .so id m cap (by simpa [V.lower,Nat.blt_eq] using hb) hc hm
 |raw n b=>exact .raw n b
 |ul k xs ad cap hm=>exact .ul k xs ad cap hm
 |hd n ad cap hm=>exact .hd n ad cap hm
 |sw k id m h hc hm=>exact .sw k id m (by simpa [V.lower,Nat.blt_eq] using hb) hc hm
 |sx k id off m ad cap h hc hm hl ha=>exact .sx k id off m ad cap (by simpa [V.lower,Nat.blt_eq] using hb) hc hm hl ha
 |wp id k i o h=>exact .wp id k i o (by simpa [V.lower,Nat.blt_eq] using hb)
 |mr id h=>exact .mr id (by simpa [V.lower,Nat.blt_eq] using hb)
 |nilm=>exact .nilm
theorem acS{n:Nat}:∀{hp:List aK},vO n hp=true→∀(id:Nat) cs,hp[id]? =some (some cs)→V.lowers n cs=true
 | [],_,id,cs,h=>by simp at h
 |none::hp,h0,id,cs,h=>by
  cases id with
  |zero=>simp at h
  |succ id=>exact acS (hp:=hp) (by simpa [vO] using h0) id cs (by simpa using h)
 |some x::hp,h0,id,cs,h=>by
  simp only[vO,Bool.and_eq_true] at h0
  cases id with
  |zero=>simp at h;subst h;exact h0.1
  |succ id=>exact acS h0.2 id cs (by simpa using h)
theorem SR.keepEnv(h:SR g s w a)(live:List Nat)(n:Nat):SR g {s with env:=vN live n 0 s.env} w a:=by
 refine⟨h.hr,⟨by simp[z9,h.er.size],?_,?_⟩⟩
 ·intro m v cv hv hcv
  rcases vT live n s.env 0 m v hv with rfl|⟨_,hv⟩
  ·exact .undef _
  ·exact h.er.rel m v cv hv hcv
 ·intro m v cv hv hcv
  rcases vT live n s.env 0 m v hv with rfl|⟨_,hv⟩
  ·simp[aT]
  ·exact h.er.own m v cv hv hcv
theorem Inv.keeps{g₀:Gh}{hp₀:List aK}{w₀:World}{df:List Deferred}(h:Inv g₀ hp₀ w₀ df g s w a)(live:List Nat){n:Nat}(hn:hp₀.length≤n):Inv g₀ hp₀ w₀ df g (s.keep live n) w a:=by
 unfold St.keep
 cases hob:vO n (s.hp.take n) with
 |false=>exact⟨h.sr.keepEnv live n,h.fr,h.df⟩
 |true=>
  simp only[cond_true]
  rcases Nat.lt_or_ge n s.hp.length with hlt|hge
  ·have hlen:(s.hp.take n).length=n:=by simp;omega
   have old:∀(id:Nat) cs,(s.hp.take n)[id]? =some (some cs)→s.hp[id]? =some (some cs):=by
    intro id cs hid
    rw[List.getElem?_take] at hid
    split at hid
    ·exact hid
    ·simp at hid
   have hb:=acS hob
   refine⟨⟨⟨?_,?_,?_,?_,h.sr.hr.exI,h.sr.hr.oLt⟩,⟨by simp[z9,h.sr.er.size],?_,?_⟩⟩,?_,h.df⟩
   ·intro id cs hid
    refine(h.sr.hr.obj id cs (old id cs hid)).keep rfl fun arr e fz h1 h2=>?_
    refine⟨h2.len,h2.plain,?_,h2.cold,h2.one,?_,h2.own,h2.bn⟩
    ·rintro k xs rfl
     have:=hb id _ hid
     simp[V.lowers,V.lower] at this
    intro j c cv hc hcv
    rw[hlen]
    exact(h2.rel j c cv hc hcv).fewer (axp (hb id cs hid) j c hc) (by omega)
   ·intro id id' cs cs' h1 h2 hne
    exact h.sr.hr.apart id id' cs cs' (old _ _ h1) (old _ _ h2) hne
   ·intro id cs hid
    exact h.sr.hr.notI id cs (old _ _ hid)
   ·intro id cs hid
    exact h.sr.hr.notO id cs (old _ _ hid)
   ·intro m v cv hv hcv
    rw[hlen]
    rcases vT live n s.env 0 m v hv with rfl|⟨hbv,hv⟩
    ·exact .undef _
    ·exact(h.sr.er.rel m v cv hv hcv).fewer hbv (by omega)
   ·intro m v cv hv hcv
    rcases vT live n s.env 0 m v hv with rfl|⟨_,hv⟩
    ·simp[aT]
    ·exact h.sr.er.own m v cv hv hcv
   ·refine⟨h.fr.beta,h.fr.os,h.fr.tape,h.fr.output,h.fr.size,h.fr.block,⟨h.fr.up.mono,h.fr.up.cell,h.fr.up.rho,by rw[hlen];exact hn⟩,h.fr.iSame,h.fr.oSame,?_⟩
    intro id cs hid
    exact h.fr.live id cs (old _ _ hid)
  ·rw[List.take_of_length_le hge]
   exact⟨h.sr.keepEnv live n,h.fr,h.df⟩
def acT:Ex→Exit→Prop
 | .normal,.normal=>True
 | .exit i,.exit j=>i=j
 | .ret,.ret=>True
 |_,_=>False
def ayN{R:Type}(g₀:Gh)(hp₀:List aK)(w₀:World)(df:List Deferred)(K:Ex→St→Option R)(r:R)(e:Exit)(a:Act)(w:World):Prop:=
 ∃x s g,acT x e∧K x s=some r∧Inv g₀ hp₀ w₀ df g s w a
theorem oC(hΓ:dR P Γ){g₀:Gh}(hβ:g₀.β=lv P){imp:List Nat}(hP:ep Γ imp)(n:Nat){R:Type}{hp₀:List aK}{base:Nat}(hbase:hp₀.length≤base){w₀:World}{df:List Deferred}{r:R}:∀(ir:IR)(c:Code),dD P imp base ir c=true→∀(K:Ex→St→Option R)(s:St)(a:Act)(w:World)(g:Gh),
  run Γ n ir K s=some r→Inv g₀ hp₀ w₀ df g s w a→c.wp P (ayN g₀ hp₀ w₀ df K r) a w
 | .bad,c,hc,K,s,a,w,g,hr,h=>by simp[run] at hr
 | .skip,c,hc,K,s,a,w,g,hr,h=>by
   cases c<;>simp[dD] at hc
   ·exact wp_skip ⟨.normal,s,g,trivial,hr,h⟩
   ·exact wp_label ⟨.normal,s,g,trivial,hr,h⟩
 | .reg l pre,c,hc,K,s,a,w,g,hr,h=>by
   cases c with
   |region id ops draw=>
    cases draw with
    |true=>
     have hc:aea P imp ops l pre=true:=by simpa only[dD] using hc
     exact ayM (Q:=ayN g₀ hp₀ w₀ df K r) hΓ hβ hP hc (K:=K .normal) (r:=r) (fun s g w a hk hi=>⟨.normal,s,g,trivial,hk,hi⟩) hr h
    |false=>
     have hc:aca P ops 0 l=true:=by simpa only[dD] using hc
     refine wp_region ?_
     have:=aem (Q:=ayN g₀ hp₀ w₀ df K r) hΓ hβ (K:=K .normal) (r:=r) (fun s g w a hk hi=>⟨.normal,s,g,trivial,hk,hi⟩) l 0 hc s g w a hr h
     rwa [Nat.sub_zero,←List.range_eq_range'] at this
   |_=>simp[dD] at hc
 | .seq x y,c,hc,K,s,a,w,g,hr,h=>by
   cases c<;>simp[dD] at hc
   rename_i c d
   refine wp_seq (wp_mono (oC hΓ hβ hP n hbase x c hc.1 _ s a w g hr h) ?_)
   rintro e a' w' ⟨ex,s',g',he,hk,hi⟩
   cases ex with
   |normal=>
    cases e<;>simp only[acT] at he
    exact oC hΓ hβ hP n hbase y d hc.2 K s' a' w' g' hk hi
   |exit i=>
    cases e<;>simp only[acT] at he
    exact⟨.exit i,s',g',he,hk,hi⟩
   |ret=>
    cases e<;>simp only[acT] at he
    exact⟨.ret,s',g',trivial,hk,hi⟩
 | .cond v x y,c,hc,K,s,a,w,g,hr,h=>by
   cases c<;>simp[dD] at hc
   rename_i u c d
   simp only[run] at hr
   split at hr
   ·rename_i t ht
    have rr:=ba hc.1 h.sr.er
    rw[ht] at rr
    generalize hcv:a.eval u=cv at rr
    cases rr
    refine wp_cond hcv ?_
    cases t with
    |true=>
     rw[aO.fix_eq ht] at hr
     exact oC hΓ hβ hP n hbase x c hc.2.1 K s a w g hr h
    |false=>
     simp only[cond_false] at hr
     rw[aO.fix_eq ht] at hr
     exact oC hΓ hβ hP n hbase y d hc.2.2 K s a w g hr h
   ·simp at hr
 | .block i x,c,hc,K,s,a,w,g,hr,h=>by
   cases c<;>simp[dD] at hc
   rename_i j c
   obtain⟨rfl,hc⟩:=hc
   refine wp_block (wp_mono (oC hΓ hβ hP n hbase x c hc _ s a w g hr h) ?_)
   rintro e a' w' ⟨ex,s',g',he,hk,hi⟩
   cases ex with
   |normal=>
    cases e<;>simp only[acT] at he
    exact⟨.normal,s',g',trivial,hk,hi⟩
   |exit k=>
    cases e<;>simp only[acT] at he
    subst he
    simp only[Exit.inBlock]
    by_cases hki:k=i
    ·subst hki
     simp only[if_true]
     simp only[aP,Nat.beq_refl,cond_true] at hk
     exact⟨.normal,s',g',trivial,hk,hi⟩
    ·simp only[hki,if_false]
     have hb:Nat.beq k i=false:=by
      cases hb:Nat.beq k i with
      |true=>exact absurd (Nat.eq_of_beq_eq_true hb) hki
      |false=>rfl
     simp only[aP,hb,cond_false] at hk
     exact⟨.exit k,s',g',rfl,hk,hi⟩
   |ret=>
    cases e<;>simp only[acT] at he
    exact⟨.ret,s',g',trivial,hk,hi⟩
 | .loop live q x,c,hc,K,s,a,w,g,hr,h=>by
   cases c<;>simp[dD] at hc
   rename_i c
   obtain⟨hq,hc⟩:=hc
   have hq:hp₀.length≤q:=Nat.le_trans hbase hq
   simp only[run] at hr
   have key:∀(m:Nat)(s:St)(a:Act)(w:World)(g:Gh),aX m (fun again s=>run Γ n x (bj again live q K) s) s=some r→Inv g₀ hp₀ w₀ df g s w a→
     Code.rounds P c (ayN g₀ hp₀ w₀ df K r) m a w:=by
    intro m
    induction m with
    |zero=>intro s a w g hr h;simp[aX] at hr
    |succ m ih=>
     intro s a w g hr h
     simp only[aX] at hr
     rw[rounds_succ]
     refine wp_mono (oC hΓ hβ hP n hbase x c hc _ s a w g hr h) ?_
     rintro e a' w' ⟨ex,s',g',he,hk,hi⟩
     cases ex with
     |normal=>
      cases e<;>simp only[acT] at he
      exact ih _ a' w' g' hk (hi.keeps live hq)
     |exit k=>
      cases e<;>simp only[acT] at he
      exact⟨.exit k,s',g',he,hk,hi⟩
     |ret=>
      cases e<;>simp only[acT] at he
      exact⟨.ret,s',g',trivial,hk,hi⟩
   exact wp_loop_rounds n (key n _ a w g hr (h.keeps live hq))
 | .cut live q x,c,hc,K,s,a,w,g,hr,h=>by
   simp only[dD,Bool.and_eq_true] at hc
   obtain⟨hq,hc⟩:=hc
   simp only[run] at hr
   exact oC hΓ hβ hP n hbase x c hc K _ a w g hr (h.keeps live (Nat.le_trans hbase (Nat.le_of_ble_eq_true hq)))
 | .gh x y,c,hc,K,s,a,w,g,hr,h=>by
   simp only[dD] at hc
   simp only[run] at hr
   split at hr
   ·rename_i t s' hs
    cases t with
    |false=>simp[chk] at hr
    |true=>
     obtain⟨g',h1,h2⟩:=anS h.sr hs
     exact oC hΓ hβ hP n hbase y c hc K s' a w g' hr ⟨h1,h.fr.trans h2,h.df⟩
   ·simp at hr
 | .ghp x y,c,hc,K,s,a,w,g,hr,h=>by
   simp only[dD] at hc
   simp only[run] at hr
   refine wp_mono (oC hΓ hβ hP n hbase y c hc _ s a w g hr h) ?_
   rintro e a' w' ⟨ex,s',g',he,hk,hi⟩
   cases ex with
   |normal=>
    simp only[ave] at hk
    split at hk
    ·rename_i t s2 hs
     cases t with
     |false=>simp[chk] at hk
     |true=>
      obtain⟨g2,h1,h2⟩:=anS hi.sr hs
      exact⟨.normal,s2,g2,he,hk,⟨h1,hi.fr.trans h2,hi.df⟩⟩
    ·simp at hk
   |exit i=>exact⟨.exit i,s',g',he,hk,hi⟩
   |ret=>exact⟨.ret,s',g',he,hk,hi⟩
 | .exit i,c,hc,K,s,a,w,g,hr,h=>by
   cases c<;>simp[dD] at hc
   subst hc
   exact wp_exit ⟨.exit i,s,g,rfl,hr,h⟩
 | .ret,c,hc,K,s,a,w,g,hr,h=>by
   cases c<;>simp[dD] at hc
   exact wp_ret ⟨.ret,s,g,trivial,hr,h⟩
end
end Go.AM
end
noncomputable section
namespace Go.AM
set_option autoImplicit false
set_option linter.unusedSimpArgs false
set_option linter.unusedVariables false
def am8(P:Program):RV→ResultVar→Bool
 | .t n,.tmp m=>n==m
 | .cell n size agg,.cell m t=>(n==m)&&((iq P t==some size)&&((rm P t==some agg)&&(agg||size==1)))
 |_,_=>false
def aaa(P:Program):List RV→List ResultVar→Bool
 | [],[]=>true
 |x::xs,y::ys=>am8 P x y&&aaa P xs ys
 |_,_=>false
section
variable{w:World}{g:Gh}{s s':St}{a:Act}{P:Program}{Γ:aN}
def ayO(g:Gh)(w:World)(x:RV)(v:V)(cv:Value):Prop:=match x with| .t n=>aT g w (.slot n) v cv| .cell .. =>v.bare=true
def aiK(tmps:Array Value):ResultVar→Sem Value
 | .tmp t=>pure (tmps.getD t undef)
 | .cell a t=>do loadVar t (←asAddr (tmps.getD a undef))
theorem aCo(h:SR g s w a){x:RV}{y:ResultVar}(hc:am8 P x y=true){v:V}(hv:x.ev s=some v):
  ∃cv,(aiK a.tmps y).run P w=.ok cv w∧VRel g.I g.ρ s.hp.length w v cv∧ayO g w x v cv:=by
 cases x with
 |t n=>
  cases y with
  |tmp m=>
   obtain rfl:n=m:=by simpa [am8] using hc
   simp only[RV.ev,Option.some.injEq] at hv
   subst hv
   exact⟨_,by simp[aiK],h.er.get n,h.er.getOwn n⟩
  |cell m t=>simp[am8] at hc
 |cell n size agg=>
  cases y with
  |tmp m=>simp[am8] at hc
  |cell m t=>
   simp only[am8,Bool.and_eq_true,beq_iff_eq,Bool.or_eq_true] at hc
   obtain⟨rfl,h1,h2,h3⟩:=hc
   have r1:=h.er.get n
   simp only[RV.ev] at hv
   have fin:∀b o (vs:List Value),a.tmps.getD n undef=.pointer (some ⟨b,o,none⟩)→vs.length=size→(∀(j:Nat) v,vs[j]? =some v→w.cell? ⟨b,o+j,none⟩=some v)→
     (aiK a.tmps (.cell n t)).run P w=.ok (if agg then .agg vs.toArray else vs.headD undef) w:=by
    intro b o vs hp hl hw
    have:=vQ (P:=P) (w:=w) (b:=b) (o:=o) (vs:=vs) h1 h2 h3 hl hw
    simp only[Instr.loadAt,Instr.sureAddr] at this
    simp[aiK,hp,asAddr]
    simpa using this
   split at hv
   ·rename_i id o hx
    rw[hx] at r1
    generalize hcv:a.tmps.getD n undef=cv at r1 fin
    cases r1 with
    |ptr _ _ hid=>
    split at hv
    ·rename_i cs ho
     split at hv
     ·rename_i hle
      obtain rfl:=Option.some.inj hv
      obtain⟨arr,e,hb,hok⟩:=zA h.hr ho
      have hlen:=hok.len
      have hrel:=z5 (agg:=agg) (cs:=(cs.drop o).take size) (vs:=(arr.toList.drop o).take size) (w:=w) (I:=g.I) (ρ:=g.ρ) (N:=s.hp.length)
       (fun c hcm=>hok.one c (List.mem_of_mem_drop (List.mem_of_mem_take hcm))) (by simp;omega) (by
        rcases h3 with h3|h3
        ·exact .inl h3
        ·right;simp;omega)
       (fun i c cv hc hcv=>by
        simp only[List.getElem?_take,List.getElem?_drop] at hc hcv
        split at hc
        ·rename_i hi
         simp only[hi,if_true] at hcv
         exact hok.rel _ _ _ hc (by simpa using hcv)
        ·simp at hc)
      refine⟨_,fin _ _ ((arr.toList.drop o).take size) rfl (by simp;omega) (fun j v hj=>?_),hrel.disown,fw _⟩
      rw[bb hb]
      simp only[List.getElem?_take,List.getElem?_drop] at hj
      split at hj
      ·simpa using hj
      ·simp at hj
     ·simp at hv
    ·simp at hv
   ·rename_i cs hx
    rw[hx] at r1
    generalize hcv:a.tmps.getD n undef=cv at r1 fin
    cases r1 with
    |ea _ b o f e1 hI hw hv'=>
    split at hv
    ·rename_i hle
     obtain rfl:=Option.some.inj hv
     have hrel:=z5 (agg:=agg) (cs:=cs.take size) (vs:=(List.range size).map f) (w:=w) (I:=g.I) (ρ:=g.ρ) (N:=s.hp.length)
      (fun c hcm=>e1 c (List.mem_of_mem_take hcm)) (by simp;omega) (by
       rcases h3 with h3|h3
       ·exact .inl h3
       ·right;simp;omega)
      (fun i c cv hc hcv=>by
       simp only[List.getElem?_take] at hc
       split at hc
       ·rename_i hi
        simp[hi] at hcv
        subst hcv
        exact hv' _ _ hc
       ·simp at hc)
     refine⟨_,fin _ _ ((List.range size).map f) rfl (by simp) (fun j v hj=>?_),hrel.disown,fw _⟩
     rw[List.getElem?_map,Option.map_eq_some_iff] at hj
     obtain⟨j',hj',rfl⟩:=hj
     obtain⟨hlt,rfl⟩:=List.getElem?_eq_some_iff.1 hj'
     simp only[List.length_range] at hlt
     simpa using hw j (by omega)
    ·simp at hv
   ·simp at hv
theorem ayg(h:SR g s w a):∀{xs:List RV}{ys:List ResultVar}{vs:List V},aaa P xs ys=true→rvs s xs=some vs→
  ∃cvs:List Value,cvs.length=vs.length∧xs.length=vs.length∧ys.length=vs.length∧(∀(i:Nat) y,ys[i]? =some y→∃cv,cvs[i]? =some cv∧(aiK a.tmps y).run P w=.ok cv w)∧
   (∀(i:Nat) v cv,vs[i]? =some v→cvs[i]? =some cv→VRel g.I g.ρ s.hp.length w v cv)∧
   (∀(i:Nat) x v cv,xs[i]? =some x→vs[i]? =some v→cvs[i]? =some cv→ayO g w x v cv)
 | [],[],vs,_,hv=>by
   simp only[rvs,Option.some.injEq] at hv
   subst hv
   exact⟨[],rfl,rfl,rfl,by simp,by simp,by simp⟩
 |x::xs,y::ys,vs,hc,hv=>by
  simp only[aaa,Bool.and_eq_true] at hc
  simp only[rvs] at hv
  split at hv
  ·rename_i v vs' h1 h2
   obtain rfl:=Option.some.inj hv
   obtain⟨cv,k1,k2,k3⟩:=aCo h hc.1 h1
   obtain⟨cvs,l1,l2,l3,l4,l5,l6⟩:=ayg h hc.2 h2
   refine⟨cv::cvs,by simp[l1],by simp[l2],by simp[l3],?_,?_,?_⟩
   ·intro i y' hy
    cases i with
    |zero=>simp at hy;subst hy;exact⟨cv,rfl,k1⟩
    |succ i=>simpa using l4 i y' (by simpa using hy)
   ·intro i v' cv' hv' hcv'
    cases i with
    |zero=>simp at hv' hcv';subst hv' hcv';exact k2
    |succ i=>exact l5 i v' cv' (by simpa using hv') (by simpa using hcv')
   ·intro i x' v' cv' hx' hv' hcv'
    cases i with
    |zero=>simp at hx' hv' hcv';subst hx' hv' hcv';exact k3
    |succ i=>exact l6 i x' v' cv' (by simpa using hx') (by simpa using hv') (by simpa using hcv')
  ·simp at hv
 | [],_::_,_,hc,_=>by simp[aaa] at hc
 |_::_,[],_,hc,_=>by simp[aaa] at hc
def Gh.hand(g:Gh)(r:Option Nat):Gh:={g with O:=fun b=>match g.O b with|some (.slot m)=>(if some m=r then some .res else none)|some .res=>none|o=>o}
theorem HR.hand{hp:List aK}(h:HR g hp w)(r:Option Nat):HR (g.hand r) hp w:=by
 refine⟨?_,h.apart,h.notI,?_,h.exI,?_⟩
 ·intro id cs hid
  refine(h.obj id cs hid).keep rfl fun arr e fz h1 h2=>?_
  refine⟨h2.len,h2.plain,h2.typed,h2.cold,h2.one,h2.rel,?_,h2.bn⟩
  intro j c cv hc hcv
  refine dU (h2.own j c cv hc hcv) rfl (fun b j hi=>⟨hi,rfl⟩) ?_
  intro b hb
  exact⟨by simp[Gh.hand,hb],rfl,fun j hj=>hj⟩
 ·intro id cs hid
  simp[Gh.hand,h.notO id cs hid]
 ·intro b o hb
  cases hO:g.O b with
  |none=>simp[Gh.hand,hO] at hb
  |some o'=>exact h.oLt b o' hO
theorem FR.hand{g₀:Gh}{hp₀ hp:List aK}{w₀:World}(h:FR g₀ hp₀ w₀ g hp w)(r:Option Nat):FR g₀ hp₀ w₀ (g.hand r) hp w:=
 ⟨h.beta,h.os,h.tape,h.output,h.size,h.block,h.up,h.iSame,fun b hb ho hO=>by simp[Gh.hand,h.oSame b hb ho hO],h.live⟩
def aiL:List Value→Value
 | [v]=>v
 |vs=>.tuple vs.toArray
theorem axq{fn:Func}{l:List ResultVar}{cvs:List Value}(hl:fn.results.toList=l)(hlen:l.length=cvs.length)(h5:l.length≤5)
  (h:∀(i:Nat) y,l[i]? =some y→∃cv,cvs[i]? =some cv∧(aiK a.tmps y).run P w=.ok cv w):
  (results fn a.tmps).run P w=.ok (aiL cvs) w:=by
 have e:fn.results=l.toArray:=by rw[←hl]
 have hr:results fn a.tmps=(do let vs ←fn.results.mapM (aiK a.tmps);pure (if h:vs.size=1 then vs[0] else .tuple vs)):=rfl
 rw[hr,e]
 match l,cvs,hlen,h5,h with
 | [],[],_,_,_=>simp[aiL]
 | [y0],[c0],_,_,h=>
   obtain⟨_,q0,r0⟩:=h 0 y0 rfl
   simp at q0;subst q0
   simp[r0,aiL]
 | [y0,y1],[c0,c1],_,_,h=>
   obtain⟨_,q0,r0⟩:=h 0 y0 rfl
   obtain⟨_,q1,r1⟩:=h 1 y1 rfl
   simp at q0 q1;subst q0 q1
   simp[r0,r1,aiL]
 | [y0,y1,y2],[c0,c1,c2],_,_,h=>
   obtain⟨_,q0,r0⟩:=h 0 y0 rfl
   obtain⟨_,q1,r1⟩:=h 1 y1 rfl
   obtain⟨_,q2,r2⟩:=h 2 y2 rfl
   simp at q0 q1 q2;subst q0 q1 q2
   simp[r0,r1,r2,aiL]
 | [y0,y1,y2,y3],[c0,c1,c2,c3],_,_,h=>
   obtain⟨_,q0,r0⟩:=h 0 y0 rfl
   obtain⟨_,q1,r1⟩:=h 1 y1 rfl
   obtain⟨_,q2,r2⟩:=h 2 y2 rfl
   obtain⟨_,q3,r3⟩:=h 3 y3 rfl
   simp at q0 q1 q2 q3;subst q0 q1 q2 q3
   simp[r0,r1,r2,r3,aiL]
 | [y0,y1,y2,y3,y4],[c0,c1,c2,c3,c4],_,_,h=>
   obtain⟨_,q0,r0⟩:=h 0 y0 rfl
   obtain⟨_,q1,r1⟩:=h 1 y1 rfl
   obtain⟨_,q2,r2⟩:=h 2 y2 rfl
   obtain⟨_,q3,r3⟩:=h 3 y3 rfl
   obtain⟨_,q4,r4⟩:=h 4 y4 rfl
   simp at q0 q1 q2 q3 q4;subst q0 q1 q2 q3 q4
   simp[r0,r1,r2,r3,r4,aiL]
theorem ayh(hΓ:dR P Γ){imp:List Nat}(hP:ep Γ imp){f:FuncId}{fn:Func}{code:Code}{ir:IR}{rs:List RV}{n:Nat}{vs:List V}{hp hp':List aK}{v:V}
  (hf:P.funcs[f]? =some fn) (hb:fn.body=some code) (hc:dD P imp hp.length ir code=true) (hrs:aaa P rs fn.results.toList=true) (h5:fn.results.toList.length≤5)
  (hrun:nO Γ n fn.ntmps rs ir vs hp=some (v,hp')):iX P f vs hp v hp':=by
 intro w g cargs hβ hhr hlen hbare hrel
 refine calls_of_wp hf hb ?_
 let act:Act:={tmps:=cargs++Array.replicate (fn.ntmps-cargs.size) undef,defers:=[]}
 have hsr:SR g (start fn.ntmps vs hp) w act:=by
  refine⟨hhr,⟨by simp[start,act,hlen],?_,?_⟩⟩
  ·intro n v cv hv hcv
   simp only[start,act] at hv hcv
   rcases Nat.lt_or_ge n vs.length with hn|hn
   ·rw[List.getElem?_append_left hn] at hv
    rw[Array.getElem?_append_left (by omega)] at hcv
    exact hrel n v cv hv hcv
   ·rw[List.getElem?_append_right hn,List.getElem?_replicate] at hv
    split at hv
    ·obtain rfl:=Option.some.inj hv
     exact .undef _
    ·simp at hv
  ·intro n v cv hv hcv
   simp only[start] at hv
   rcases Nat.lt_or_ge n vs.length with hn|hn
   ·rw[List.getElem?_append_left hn] at hv
    exact oO (hbare v (List.mem_of_getElem? hv)) _ _ _ _
   ·rw[List.getElem?_append_right hn,List.getElem?_replicate] at hv
    split at hv
    ·obtain rfl:=Option.some.inj hv
     simp[aT]
    ·simp at hv
 have hend:=oC (df:=[]) hΓ hβ hP n (Nat.le_refl _) ir code hc (fin rs) (start fn.ntmps vs hp) act w g hrun ⟨hsr,FR.refl _ _ _,rfl⟩
 refine wp_mono hend ?_
 rintro e a' w' ⟨ex,s',g',he,hk,hi⟩
 have main:∀v hp',(aiD s' rs).map (fun v=>(v,s'.hp))=some (v,hp')→a'.defers=[]∧∃cv,(results fn a'.tmps).run P w'=.ok cv w'∧
   (∃cv' g'',Ending.returned cv=.returned cv'∧HR g'' hp' w'∧FR g hp w g'' hp' w'∧VRel g''.I g''.ρ hp'.length w' v cv'∧aT g'' w' .res v cv'):=by
  intro v hp' hres
  refine⟨hi.df,?_⟩
  obtain⟨v',hv',hpe⟩:=Option.map_eq_some_iff.1 hres
  simp only[Prod.mk.injEq] at hpe
  obtain⟨rfl,rfl⟩:=hpe
  have hex:∃vs',rvs s' rs=some vs':=by
   unfold aiD at hv'
   cases hh:rvs s' rs with
   |none=>rw[hh] at hv';simp at hv'
   |some vs'=>exact⟨vs',rfl⟩
  obtain⟨vs',hvs⟩:=hex
  obtain⟨cvs,l1,l2,l3,l4,l5,l6⟩:=ayg hi.sr hrs hvs
  have hr:=axq (fn:=fn) (a:=a') (P:=P) (w:=w') rfl (by rw[l3,l1]) h5 l4
  unfold aiD at hv'
  rw[hvs] at hv'
  clear hvs l3 l4 hres
  match rs,vs',cvs,l1,l2,l5,l6,hr,hv' with
  | [x],[v0],[c0],_,_,l5,l6,hr,hv'=>
    simp only[Option.some.injEq] at hv'
    subst hv'
    have ho:=l6 0 x v0 c0 rfl rfl rfl
    have hvr:=l5 0 v0 c0 rfl rfl
    cases x with
    |t n=>
     simp only[ayO] at ho
     refine⟨c0,hr,c0,g'.hand (some n),rfl,hi.sr.hr.hand _,hi.fr.hand _,hvr,?_⟩
     unfold aT at ho ⊢
     split
     ·rename_i k xs ad len cap
      obtain⟨o1,o2,o3⟩:=ho
      exact⟨by simp[Gh.hand,o1],o2,o3⟩
     ·obtain⟨o1,o2,o3⟩:=ho
      exact⟨by simp[Gh.hand,o1],o2,o3⟩
     ·rcases ho with ho|⟨b,cap,arr,e,fz,m0,m1,m2,m3,m4,m5⟩
      ·exact .inl ho
      ·exact .inr ⟨b,cap,arr,e,fz,m0,m1,m2,m3,by simp[Gh.hand,m4],m5⟩
     ·trivial
    |cell n size agg=>
     exact⟨c0,hr,c0,g'.hand none,rfl,hi.sr.hr.hand _,hi.fr.hand _,hvr,oO ho _ _ _ _⟩
  | [],[],[],_,_,l5,l6,hr,hv'=>
    simp only[Option.some.injEq] at hv'
    subst hv'
    exact⟨_,hr,_,g'.hand none,rfl,hi.sr.hr.hand _,hi.fr.hand _,.tup [] #[] rfl (by simp),by simp[aT]⟩
  |x::y::rs,v0::v1::vs',c0::c1::cvs,l1,_,l5,l6,hr,hv'=>
   simp only[Option.some.injEq] at hv'
   subst hv'
   refine⟨_,hr,_,g'.hand none,rfl,hi.sr.hr.hand _,hi.fr.hand _,.tup _ _ (by simpa using l1.symm) ?_,by simp[aT]⟩
   intro i c cv hc hcv
   rw[List.getElem?_map,Option.map_eq_some_iff] at hc
   obtain⟨c',hc',rfl⟩:=hc
   exact(l5 i c' cv hc' (by simpa using hcv)).disown
 cases ex with
 |normal=>
  cases e<;>simp only[acT] at he
  exact main _ _ hk
 |exit i=>simp[fin] at hk
 |ret=>
  cases e<;>simp only[acT] at he
  exact main _ _ hk
end
end Go.AM
end
noncomputable section
namespace Go.AM
set_option autoImplicit false
set_option linter.unusedSimpArgs false
set_option linter.unusedVariables false
def V.flatE:V→Bool
 | .ea cs=>cs.all V.flat1
 |v=>v.flat1
def V.flat2:V→Bool
 | .agg cs=>cs.all V.flat1
 | .ea cs=>cs.all V.flat1
 | .fn _ cs=>cs.all V.flatE
 |v=>v.flat1
def V.flat:V→Bool
 | .tup cs=>cs.all V.flat2
 |v=>v.flat2
section
variable{I:Nat→Nat→Prop}{ρ ρ':Nat→Nat}{N N':Nat}{w:World}{P:Program}
theorem VRel.flatE{v:V}{cv:Value}(h:VRel I ρ N w v cv)(hf:v.flatE=true):VRel I ρ' N' w v cv:=by
 cases h with
 |ea cs b off f h1 hI hw hv=>
  simp only[V.flatE,List.all_eq_true] at hf
  exact .ea cs b off f h1 hI hw (fun j c hc=>(hv j c hc).flat1 (hf c (List.mem_of_getElem? hc)))
 |bool b=>exact .bool b
 |int k n h=>exact .int k n h
 |str l s hl h=>exact .str l s hl h
 |sln k o=>exact .sln k o
 |sle k o ad ho=>exact .sle k o ad ho
 |sl k o xs b off len cap hl hc hm hfl f hI hw hv=>exact(VRel.sl k o xs b off len cap hl hc hm hfl f hI hw hv).flat1 rfl
 |nilp=>exact .nilp
 |nilif=>exact .nilif
 |fn f cs vs hl hv=>
  cases cs with
  |nil=>exact .fn f [] vs hl (by simp)
  |cons c cs=>simp[V.flatE,V.flat1] at hf
 |_=>simp[V.flatE,V.flat1] at hf
theorem VRel.flat2{v:V}{cv:Value}(h:VRel I ρ N w v cv)(hf:v.flat2=true):VRel I ρ' N' w v cv:=by
 cases h with
 |ea cs b off f h1 hI hw hv=>exact(VRel.ea cs b off f h1 hI hw hv).flatE hf
 |agg cs vs hl h1 hb hv=>
  simp only[V.flat2,List.all_eq_true] at hf
  exact .agg cs vs hl h1 hb (fun i c cv hc hcv=>(hv i c cv hc hcv).flat1 (hf c (List.mem_of_getElem? hc)))
 |bool b=>exact .bool b
 |int k n h=>exact .int k n h
 |str l s hl h=>exact .str l s hl h
 |sln k o=>exact .sln k o
 |sle k o ad ho=>exact .sle k o ad ho
 |sl k o xs b off len cap hl hc hm hfl f hI hw hv=>exact(VRel.sl k o xs b off len cap hl hc hm hfl f hI hw hv).flat1 rfl
 |nilp=>exact .nilp
 |nilif=>exact .nilif
 |fn f cs vs hl hv=>
  simp only[V.flat2,List.all_eq_true] at hf
  exact .fn f cs vs hl (fun i c cv hc hcv=>(hv i c cv hc hcv).flatE (hf c (List.mem_of_getElem? hc)))
 |_=>simp[V.flat2,V.flat1] at hf
theorem VRel.flat{v:V}{cv:Value}(h:VRel I ρ N w v cv)(hf:v.flat=true):VRel I ρ' N' w v cv:=by
 cases h with
 |tup cs vs hl hv=>
  simp only[V.flat,List.all_eq_true] at hf
  exact .tup cs vs hl (fun i c cv hc hcv=>(hv i c cv hc hcv).flat2 (hf c (List.mem_of_getElem? hc)))
 |agg cs vs hl h1 hb hv=>exact(VRel.agg cs vs hl h1 hb hv).flat2 hf
 |bool b=>exact .bool b
 |int k n h=>exact .int k n h
 |str l s hl h=>exact .str l s hl h
 |sln k o=>exact .sln k o
 |sle k o ad ho=>exact .sle k o ad ho
 |sl k o xs b off len cap hl hc hm hfl f hI hw hv=>exact(VRel.sl k o xs b off len cap hl hc hm hfl f hI hw hv).flat1 rfl
 |nilp=>exact .nilp
 |nilif=>exact .nilif
 |fn f cs vs hl hv=>exact(VRel.fn f cs vs hl hv).flat2 hf
 |ea cs b off f h1 hI hw hv=>exact(VRel.ea cs b off f h1 hI hw hv).flat2 hf
 |_=>simp[V.flat,V.flat2,V.flat1] at hf
def aV(P:Program)(f:FuncId)(vs:List V)(v:V):Prop:=∃hp',iX P f vs [] v hp'
theorem aV.frame{f:FuncId}{vs:List V}{v:V}(h:aV P f vs v)(hf:vs.all V.flat=true)(hv:v.flat=true)(hp:List aK):iX P f vs hp v hp:=by
 obtain⟨hp',h⟩:=h
 intro w g cargs hβ hhr hlen hbare hrel
 let g₀:Gh:={I:=g.I,ρ:=g.ρ,O:=fun _=>none,β:=g.β}
 have h0:HR g₀ [] w:=⟨by simp,by simp,by simp,by simp,hhr.exI,by simp[g₀]⟩
 refine(h w g₀ cargs hβ h0 hlen hbare (fun i x cv hx hcv=>(hrel i x cv hx hcv).flat (List.all_eq_true.1 hf x (List.mem_of_getElem? hx)))).mono ?_
 rintro e w' ⟨cv,g₁,rfl,q1,q2,q3,q4⟩
 have blk:∀b,b<w.heap.size→w'.heap[b]? =w.heap[b]?:=fun b hb=>q2.block b hb (by simp) rfl
 have isame:∀b j,b<w.heap.size→g₁.I b j→g.I b j:=fun b j hb hi=>q2.iSame b j hb (by simp) rfl hi
 have osame:∀b,b<w.heap.size→g₁.O b=none:=fun b hb=>q2.oSame b hb (by simp) rfl
 let g₂:Gh:={I:=g₁.I,ρ:=g.ρ,O:=fun b=>if b<w.heap.size then g.O b else (if g₁.O b=some .res then some .res else none),β:=g.β}
 have up:Up g.I g.ρ hp.length w g₂.I g₂.ρ hp.length w':=⟨q2.up.mono,q2.up.cell,fun _ _=>rfl,Nat.le_refl _⟩
 have olt:∀(id:Nat) cs,hp[id]? =some (some cs)→g.ρ id<w.heap.size:=by
  intro id cs hid
  exact(hhr.obj id cs hid).lt
 have okeep:∀occ v cv,aT g w occ v cv→aT g₂ w' occ v cv:=by
  intro occ v cv ho
  refine dU ho rfl (fun b j hi=>⟨up.mono b j hi,up.cell b j hi⟩) ?_
  intro b hb
  have hlt:=hhr.oLt b occ hb
  exact⟨by simp[g₂,hlt,hb],blk b hlt,fun j hj=>isame b j hlt hj⟩
 refine⟨cv,g₂,rfl,⟨?_,hhr.apart,?_,?_,q1.exI,?_⟩,⟨rfl,q2.os,q2.tape,q2.output,q2.size,fun b hb _ _=>blk b hb,up,fun b j hb _ _ hi=>isame b j hb hi,?_,fun _ cs h=>.inl ⟨cs,h⟩⟩,?_,?_⟩
 ·intro id cs hid
  refine(hhr.obj id cs hid).keep (blk _ (olt id cs hid)) fun arr e fz h1 h2=>?_
  exact⟨h2.len,h2.plain,h2.typedUp rfl up.rho up.num rfl,h2.cold,h2.one,fun j c cv hc hcv=>(h2.rel j c cv hc hcv).up up,fun j c cv hc hcv=>okeep _ _ _ (h2.own j c cv hc hcv),h2.bn⟩
 ·intro id cs hid j hi
  exact hhr.notI id cs hid j (isame _ j (olt id cs hid) hi)
 ·intro id cs hid
  have:=olt id cs hid
  simp[g₂,this,hhr.notO id cs hid]
 ·intro b o hb
  simp only[g₂] at hb
  split at hb
  ·rename_i hlt
   exact Nat.lt_of_lt_of_le hlt q2.size
  ·split at hb
   ·rename_i hres
    exact q1.oLt b _ hres
   ·simp at hb
 ·intro b hb _ hO
  simp[g₂,hb,hO]
 ·exact q3.flat hv
 ·unfold aT at q4 ⊢
  split
  ·rename_i k xs ad len cap
   obtain⟨o1,o2,o3⟩:=q4
   refine⟨?_,(by obtain⟨arr,e,fz,a1,a2,a3⟩:=o2;exact⟨arr,e,fz,a1,a2,fun hk=>(a3 hk).trans q2.beta⟩),o3⟩
   have:¬ad.block<w.heap.size:=by
    intro hlt
    rw[osame _ hlt] at o1
    simp at o1
   simp[g₂,this,o1]
  ·simp[V.flat,V.flat2,V.flat1] at hv
  ·simp[V.flat,V.flat2,V.flat1] at hv
  ·trivial
def V.fits:V→Prop
 | .int k n=>k.min≤n∧n≤k.max
 | .str l=>l.length≤ey
 | .sl _ _ xs=>xs.length≤ey
 | .agg cs=>∀c∈cs,match c with
   | .int k n=>k.min≤n∧n≤k.max
   | .str l=>l.length≤ey
   | .sl _ _ xs=>xs.length≤ey
   |_=>True
 |_=>True
theorem VRel.fits{v:V}{cv:Value}(h:VRel I ρ N w v cv):v.fits:=by
 cases h with
 |int k n h=>exact h
 |str l s hl h=>subst hl;simpa [V.fits,sA] using h
 |sln=>simp[V.fits]
 |sle=>simp[V.fits]
 |sl k o xs b off len cap hl hc hm hf f hI hw hv=>simp only[V.fits];omega
 |agg cs vs hl h1 hb hv=>
  intro c hc
  obtain⟨i,hi,rfl⟩:=List.mem_iff_getElem.1 hc
  have hr:=hv i _ _ (List.getElem?_eq_getElem hi) (Array.getElem?_eq_getElem (by omega))
  generalize cs[i]=c at hr
  generalize vs[i]'(by omega)=cv at hr
  cases hr with
  |int k n h=>exact h
  |str l s hl h=>subst hl;simpa [sA] using h
  |sln=>simp
  |sle=>simp
  |sl k o xs b off len cap hl hc hm hf f hI hw hv=>simp only;omega
  |_=>trivial
 |_=>trivial
theorem aV.fits{f:FuncId}{vs:List V}{v:V}(h:(∀x∈vs,x.fits)→aV P f vs v):aV P f vs v:=by
 by_cases hf:∀x∈vs,x.fits
 ·exact h hf
 ·refine⟨[],?_⟩
  intro w g cargs hβ hhr hlen hbare hrel
  refine absurd ?_ hf
  intro x hx
  obtain⟨i,hi,rfl⟩:=List.mem_iff_getElem.1 hx
  exact(hrel i _ _ (List.getElem?_eq_getElem hi) (Array.getElem?_eq_getElem (by omega))).fits
end
end Go.AM
end
noncomputable section
namespace Go.AM
set_option autoImplicit false
set_option linter.unusedSimpArgs false
set_option linter.unusedVariables false
def V.flatO:V→Bool
 | .bn _ _=>true
 | .ul _ _=>true
 |v=>v.flat1
section
variable{I:Nat→Nat→Prop}{ρ ρ':Nat→Nat}{N N':Nat}{w:World}{P:Program}
theorem VRel.flatO{v:V}{cv:Value}(h:VRel I ρ N w v cv)(hf:v.flatO=true):VRel I ρ' N' w v cv:=by
 cases h with
 |bn E n p=>exact .bn E n p
 |ul k xs ad cap hm=>exact .ul k xs ad cap hm
 |bool b=>exact .bool b
 |int k n h=>exact .int k n h
 |str l s hl h=>exact .str l s hl h
 |sln k o=>exact .sln k o
 |sle k o ad ho=>exact .sle k o ad ho
 |sl k o xs b off len cap hl hc hm hfl f hI hw hv=>exact(VRel.sl k o xs b off len cap hl hc hm hfl f hI hw hv).flat1 rfl
 |nilp=>exact .nilp
 |nilif=>exact .nilif
 |fn f cs vs hl hv=>
  cases cs with
  |nil=>exact .fn f [] vs hl (by simp)
  |cons c cs=>simp[V.flatO,V.flat1] at hf
 |_=>simp[V.flatO,V.flat1] at hf
theorem aly{cs:List V}(h:cs.all V.flatO=true):gn cs=false:=by
 unfold gn
 split
 ·simp[V.flatO,V.flat1] at h
 ·simp[V.flatO,V.flat1] at h
 ·rfl
theorem aT.reloc{g g':Gh}{w:World}{occ occ':Occ}{v:V}{cv:Value}(h:aT g w occ v cv)(hβ:g'.β=g.β)(hI:g'.I=g.I)
  (hO:∀b,g.O b=some occ→g'.O b=some occ'):aT g' w occ' v cv:=by
 unfold aT at h ⊢
 split
 ·rename_i k xs a len cap
  obtain⟨o1,⟨arr2,e2,fz,b1,b2,b3⟩,o3⟩:=h
  exact⟨hO _ o1,⟨arr2,e2,fz,b1,b2,fun hk=>(b3 hk).trans hβ.symm⟩,by rw[hI];exact o3⟩
 ·obtain⟨o1,o2,o3⟩:=h
  exact⟨hO _ o1,o2,by rw[hI];exact o3⟩
 ·rcases h with h|⟨b,cap,arr,e,fz,h0,h1,h2,h3,h4,h5,h6,h7,h8,h9⟩
  ·exact .inl h
  ·exact .inr ⟨b,cap,arr,e,fz,h0,h1,h2,h3,hO _ h4,h5,h6,fun hk=>(h7 hk).trans hβ.symm,by rw[hI];exact h8,by rw[hI];exact h9⟩
 ·trivial
def V.ren(σ:Nat→Nat):V→V
 | .ptr i o=>.ptr (σ i) o
 |v=>v
def V.flatP(n:Nat):V→Bool
 | .ptr i 0=>decide (i<n)
 |v=>v.flat
theorem V.ren_flat{σ:Nat→Nat}{v:V}(h:v.flat=true):v.ren σ=v:=by
 cases v<;>simp[V.flat,V.flat2,V.flat1] at h<;>rfl
theorem V.ren_bare{σ:Nat→Nat}{v:V}:(v.ren σ).bare=v.bare:=by
 cases v<;>rfl
def b7(P:Program)(f:FuncId)(avs:List V)(css:List (List V))(v:V)(css':List (List V)):Prop:=
 css'.length=css.length∧∃rest,iX P f avs (css.map some) v (css'.map some++rest)
theorem b7.frame{f:FuncId}{avs:List V}{css css':List (List V)}{v:V}(h:b7 P f avs css v css')(ha:avs.all (V.flatP css.length)=true)(hv:v.flat=true)
  (hc:css.all (fun cs=>cs.all V.flatO)=true) (hc':css'.all (fun cs=>cs.all V.flatO)=true) {hp hp':List aK} {σ:Nat→Nat}
  (hσ:∀k k',k<css.length→k'<css.length→σ k=σ k'→k=k')
  (h1:∀(k:Nat) cs,css[k]? =some cs→hp[σ k]? =some (some cs)) (h2:hp'.length=hp.length)
  (h3:∀(k:Nat) cs,css'[k]? =some cs→hp'[σ k]? =some (some cs))
  (h4:∀id,(∀k,k<css.length→σ k≠id)→hp'[id]? =hp[id]?):iX P f (avs.map (V.ren σ)) hp v hp':=by
 obtain⟨hlen',rest,h⟩:=h
 intro w g cargs hβ hhr hlen hbare hrel
 have hcs:∀(k:Nat) cs,css[k]? =some cs→cs.all V.flatO=true:=fun k cs hk=>List.all_eq_true.1 hc cs (List.mem_of_getElem? hk)
 have hcs':∀(k:Nat) cs,css'[k]? =some cs→cs.all V.flatO=true:=fun k cs hk=>List.all_eq_true.1 hc' cs (List.mem_of_getElem? hk)
 have lt_of:∀(k:Nat) cs,css[k]? =some cs→k<css.length:=fun k cs hk=>(List.getElem?_eq_some_iff.1 hk).1
 have map_of:∀(k:Nat) cs,(css.map some)[k]? =some (some cs)→css[k]? =some cs:=by
  intro k cs hk
  rw[List.getElem?_map] at hk
  cases hq:css[k]? with
  |none=>rw[hq] at hk;simp at hk
  |some x=>rw[hq] at hk;simpa using hk
 have sub:∀k,k<css.length→∃cs,css[k]? =some cs∧hp[σ k]? =some (some cs):=fun k hk=>⟨css[k],List.getElem?_eq_getElem hk,h1 k _ (List.getElem?_eq_getElem hk)⟩
 let inv:Nat→Option Nat:=fun i=>(List.range css.length).find? fun k=>σ k==i
 have inv_some:∀i k,inv i=some k→k<css.length∧σ k=i:=by
  intro i k hk
  have m1:=List.mem_of_find?_eq_some hk
  have m2:=List.find?_some hk
  exact⟨List.mem_range.1 m1,by simpa using m2⟩
 have inv_of:∀k,k<css.length→inv (σ k)=some k:=by
  intro k hk
  cases hq:inv (σ k) with
  |none=>
   have:=List.find?_eq_none.1 hq k (List.mem_range.2 hk)
   simp at this
  |some k'=>
   obtain⟨m1,m2⟩:=inv_some _ _ hq
   rw[hσ k' k m1 hk m2]
 let g₀:Gh:={I:=g.I,ρ:=fun k=>g.ρ (σ k),O:=fun b=>match g.O b with|some (.cell i j)=>(inv i).map fun k=>.cell k j|_=>none,β:=g.β}
 have gO:∀b o,g₀.O b=some o→∃k j,k<css.length∧o=.cell k j∧g.O b=some (.cell (σ k) j):=by
  intro b o hb
  simp only[g₀] at hb
  split at hb
  ·rename_i i j hg
   cases hq:inv i with
   |none=>rw[hq] at hb;simp at hb
   |some k=>
    rw[hq] at hb
    obtain⟨m1,m2⟩:=inv_some _ _ hq
    exact⟨k,j,m1,by simpa using hb.symm,by rw[m2];exact hg⟩
  ·simp at hb
 have gN:∀b,(∀k j,k<css.length→g.O b≠some (.cell (σ k) j))→g₀.O b=none:=by
  intro b hb
  cases hq:g₀.O b with
  |none=>rfl
  |some o=>
   obtain⟨k,j,hk,_,hj⟩:=gO b o hq
   exact absurd hj (hb k j hk)
 have gC:∀b k j,k<css.length→g.O b=some (.cell (σ k) j)→g₀.O b=some (.cell k j):=by
  intro b k j hk hb
  simp[g₀,hb,inv_of k hk]
 have hO0:∀k,k<css.length→g₀.O (g.ρ (σ k))=none:=by
  intro k hk
  obtain⟨cs,_,hid⟩:=sub k hk
  exact gN _ (by intro k' j _ hj;rw[hhr.notO _ cs hid] at hj;cases hj)
 have h0:HR g₀ (css.map some) w:=by
  refine⟨?_,?_,?_,?_,hhr.exI,?_⟩
  ·intro k c hk
   have hk:=map_of k c hk
   refine(hhr.obj _ c (h1 k c hk)).keep rfl fun arr e fz a1 a2=>?_
   have hr:=aly (hcs k c hk)
   refine⟨a2.len,a2.plain,by rintro k xs rfl;simp[gn] at hr,a2.cold,a2.one,?_,?_,a2.bn⟩
   ·intro j c' cv hj hcv
    exact(a2.rel j c' cv hj hcv).flatO (List.all_eq_true.1 (hcs k c hk) c' (List.mem_of_getElem? (by rw[sE hr] at hj;exact hj)))
   ·intro j c' cv hj hcv
    exact(a2.own j c' cv hj hcv).reloc rfl rfl fun b hb=>gC b k j (lt_of k c hk) hb
  ·intro k k' c c' hk hk' hne
   have hk:=map_of k c hk
   have hk':=map_of k' c' hk'
   exact hhr.apart _ _ _ _ (h1 k c hk) (h1 k' c' hk') fun e=>hne (hσ k k' (lt_of k c hk) (lt_of k' c' hk') e)
  ·intro k c hk
   exact hhr.notI _ c (h1 k c (map_of k c hk))
  ·intro k c hk
   exact hO0 k (lt_of k c (map_of k c hk))
  ·intro b o hb
   obtain⟨k,j,_,_,hj⟩:=gO b o hb
   exact hhr.oLt b _ hj
 have hargs:∀(i:Nat) x cv,avs[i]? =some x→cargs[i]? =some cv→VRel g₀.I g₀.ρ (css.map some).length w x cv:=by
  intro i x cv hx hcv
  have hr:=hrel i (x.ren σ) cv (by rw[List.getElem?_map,hx];rfl) hcv
  have hx':=List.all_eq_true.1 ha x (List.mem_of_getElem? hx)
  unfold V.flatP at hx'
  split at hx'
  ·rename_i k
   have hk:k<css.length:=by simpa using hx'
   simp only[V.ren] at hr
   cases hr with
   |ptr _ _ _=>exact .ptr k 0 (by simpa using hk)
  ·rw[V.ren_flat hx'] at hr
   exact hr.flat hx'
 refine(h w g₀ cargs hβ h0 (by rw[←hlen,List.length_map]) (by
  intro x hx
  have:=hbare (x.ren σ) (List.mem_map_of_mem hx)
  rw[V.ren_bare] at this
  exact this) hargs).mono ?_
 rintro ex w' ⟨cv,g₁,rfl,q1,q2,q3,q4⟩
 have r0:∀k,k<css.length→g₁.ρ k=g.ρ (σ k):=fun k hk=>q2.up.rho k (by simpa using hk)
 have noO:∀b,(∀k,k<css.length→g.ρ (σ k)≠b)→∀(k:Nat) cs,(css.map some)[k]? =some (some cs)→g₀.ρ k≠b:=fun b hb k cs hk=>hb k (lt_of k cs (map_of k cs hk))
 have blk:∀b,b<w.heap.size→(∀k,k<css.length→g.ρ (σ k)≠b)→g₀.O b=none→w'.heap[b]? =w.heap[b]?:=fun b hb hne hO=>q2.block b hb (noO b hne) hO
 let g₂:Gh:={I:=g₁.I,ρ:=g.ρ,O:=fun b=>match g₁.O b with
  |some .res=>some .res
  |some (.cell k j)=>cond (Nat.blt k css.length) (some (.cell (σ k) j)) none
  |some (.slot _)=>none
  |none=>if b<w.heap.size∧g₀.O b=none then g.O b else none,β:=g.β}
 have up:Up g.I g.ρ hp.length w g₂.I g₂.ρ hp'.length w':=⟨q2.up.mono,q2.up.cell,fun _ _=>rfl,by rw[h2];exact Nat.le_refl _⟩
 have olt:∀(i:Nat) c,hp[i]? =some (some c)→g.ρ i<w.heap.size:=by
  intro i c hi
  obtain⟨ob,h1⟩:=(hhr.obj i c hi).block
  exact(Array.getElem?_eq_some_iff.1 h1).1
 have fst:∀(k:Nat) cs,css'[k]? =some cs→(css'.map some++rest)[k]? =some (some cs):=by
  intro k cs hk
  rw[List.getElem?_append_left (by simpa using (List.getElem?_eq_some_iff.1 hk).1),List.getElem?_map,hk];rfl
 have key:∀(i:Nat) c,hp'[i]? =some (some c)→(∃k c₀,k<css.length∧i=σ k∧css'[k]? =some c∧hp[i]? =some (some c₀))∨((∀k,k<css.length→σ k≠i)∧hp[i]? =some (some c)):=by
  intro i c hi
  by_cases hk:∃k,k<css.length∧σ k=i
  ·obtain⟨k,hk,rfl⟩:=hk
   obtain⟨c₀,_,hc₀⟩:=sub k hk
   have hk':k<css'.length:=by omega
   have:=h3 k _ (List.getElem?_eq_getElem hk')
   rw[this] at hi
   exact .inl ⟨k,c₀,hk,rfl,by rw[List.getElem?_eq_getElem hk'];simpa using hi,hc₀⟩
  ·have hn:∀k,k<css.length→σ k≠i:=fun k hk' e=>hk ⟨k,hk',e⟩
   exact .inr ⟨hn,(h4 i hn).symm.trans hi⟩
 have live₀:∀(i:Nat) c,hp'[i]? =some (some c)→∃c₀,hp[i]? =some (some c₀):=by
  intro i c hi
  rcases key i c hi with⟨_,c₀,_,_,_,h⟩|⟨_,h⟩
  ·exact⟨c₀,h⟩
  ·exact⟨c,h⟩
 have apartσ:∀(i:Nat) c,(∀k,k<css.length→σ k≠i)→hp[i]? =some (some c)→∀k,k<css.length→g.ρ (σ k)≠g.ρ i:=by
  intro i c hn hi k hk
  obtain⟨c₀,_,hc₀⟩:=sub k hk
  exact hhr.apart _ _ _ _ hc₀ hi (hn k hk)
 have g2same:∀b,b<w.heap.size→(∀k,k<css.length→g.ρ (σ k)≠b)→g₀.O b=none→g₂.O b=g.O b:=by
  intro b hb hne hO
  have:=q2.oSame b hb (noO b hne) hO
  simp only[g₂,this]
  rw[if_pos ⟨hb,hO⟩]
 have ownBlk:∀b o,g.O b=some o→∀k,k<css.length→g.ρ (σ k)≠b:=by
  intro b o hb k hk e
  obtain⟨c₀,_,hc₀⟩:=sub k hk
  rw[←e,hhr.notO _ c₀ hc₀] at hb
  cases hb
 refine⟨cv,g₂,rfl,⟨?_,?_,?_,?_,q1.exI,?_⟩,⟨rfl,q2.os,q2.tape,q2.output,q2.size,?_,up,?_,?_,?_⟩,?_,?_⟩
 ·intro i c hi
  rcases key i c hi with⟨k,c₀,hk,rfl,hk',hid⟩|⟨hne,hi⟩
  ·refine(q1.obj k c (fst k c hk')).keep (by rw[r0 k hk]) fun arr' e' fz a1 a2=>?_
   rw[r0 k hk] at a1
   have hr:=aly (hcs' k c hk')
   refine⟨a2.len,a2.plain,by rintro k xs rfl;simp[gn] at hr,a2.cold,a2.one,?_,?_,?_⟩
   ·intro j c' cv hj hcv
    exact(a2.rel j c' cv hj hcv).flatO (List.all_eq_true.1 (hcs' k c hk') c' (List.mem_of_getElem? (by rw[sE hr] at hj;exact hj)))
   ·intro j c' cv hj hcv
    refine(a2.own j c' cv hj hcv).reloc q2.beta.symm rfl fun b hb=>?_
    have hb':Nat.blt k css.length=true:=by rw[Nat.blt_eq];exact hk
    simp[g₂,hb,hb']
   ·intro j E n hj
    have:=a2.bn j E n hj
    rw[r0 k hk] at this
    exact this
  ·have hnO:g₀.O (g.ρ i)=none:=gN _ (by intro k j _ hj;rw[hhr.notO i c hi] at hj;cases hj)
   refine(hhr.obj i c hi).keep (blk _ (olt i c hi) (apartσ i c hne hi) hnO) fun arr' e' fz a1 a2=>?_
   refine⟨a2.len,a2.plain,a2.typedUp rfl (fun _ _=>rfl) up.num rfl,a2.cold,a2.one,fun j c cv hj hcv=>(a2.rel j c cv hj hcv).up up,?_,a2.bn⟩
   intro j c' cv hj hcv
   refine dU (a2.own j c' cv hj hcv) rfl (fun b j hi=>⟨up.mono b j hi,up.cell b j hi⟩) ?_
   intro b hb
   have hlt:=hhr.oLt b _ hb
   have hO:g₀.O b=none:=gN _ (by intro k j' hk hj';rw[hb] at hj';cases hj';exact hne k hk rfl)
   have hbne:=ownBlk b _ hb
   exact⟨(g2same b hlt hbne hO).trans hb,blk b hlt hbne hO,fun j hj=>q2.iSame b j hlt (noO b hbne) hO hj⟩
 ·intro i i' c c' hi hi' hne
  obtain⟨c₀,m1⟩:=live₀ i c hi
  obtain⟨c₁,m2⟩:=live₀ i' c' hi'
  exact hhr.apart _ _ _ _ m1 m2 hne
 ·intro i c hi j hj
  rcases key i c hi with⟨k,c₀,hk,rfl,hk',hid⟩|⟨hne,hi⟩
  ·have:=q1.notI k c (fst k c hk') j
   rw[r0 k hk] at this
   exact this hj
  ·have hnO:g₀.O (g.ρ i)=none:=gN _ (by intro k j _ hj;rw[hhr.notO i c hi] at hj;cases hj)
   exact hhr.notI i c hi j (q2.iSame _ j (olt i c hi) (noO _ (apartσ i c hne hi)) hnO hj)
 ·intro i c hi
  rcases key i c hi with⟨k,c₀,hk,rfl,hk',hid⟩|⟨hne,hi⟩
  ·have:=q1.notO k c (fst k c hk')
   rw[r0 k hk] at this
   simp only[g₂,this]
   split
   ·exact hhr.notO _ c₀ hid
   ·rfl
  ·have hnO:g₀.O (g.ρ i)=none:=gN _ (by intro k j _ hj;rw[hhr.notO i c hi] at hj;cases hj)
   exact(g2same _ (olt i c hi) (apartσ i c hne hi) hnO).trans (hhr.notO i c hi)
 ·intro b o hb
  simp only[g₂] at hb
  split at hb
  ·rename_i hq;exact q1.oLt b _ hq
  ·rename_i hq;exact q1.oLt b _ hq
  ·simp at hb
  ·split at hb
   ·rename_i hq;exact Nat.lt_of_lt_of_le hq.1 q2.size
   ·simp at hb
 ·intro b hb ho hO
  exact blk b hb (fun k hk e=>by obtain⟨c₀,_,hc₀⟩:=sub k hk;exact ho _ c₀ hc₀ e) (gN _ (by intro k j _ hj;rw[hO] at hj;cases hj))
 ·intro b j hb ho hO hi
  exact q2.iSame b j hb (noO b fun k hk e=>by obtain⟨c₀,_,hc₀⟩:=sub k hk;exact ho _ c₀ hc₀ e) (gN _ (by intro k j _ hj;rw[hO] at hj;cases hj)) hi
 ·intro b hb ho hO
  exact(g2same b hb (fun k hk e=>by obtain⟨c₀,_,hc₀⟩:=sub k hk;exact ho _ c₀ hc₀ e) (gN _ (by intro k j _ hj;rw[hO] at hj;cases hj))).trans hO
 ·intro i c hi
  exact .inl (live₀ i c hi)
 ·exact q3.flat hv
 ·exact q4.reloc q2.beta.symm rfl fun b hb=>by simp[g₂,hb]
def aBh(P:Program)(f:FuncId)(vs cs:List V)(v:V)(cs':List V):Prop:=∃rest,iX P f (.ptr 0 0::vs) [some cs] v (some cs'::rest)
theorem V.flatP_flat{n:Nat}{v:V}(h:v.flat=true):v.flatP n=true:=by
 unfold V.flatP
 split
 ·simp[V.flat,V.flat2,V.flat1] at h
 ·exact h
theorem atm{σ:Nat→Nat}:∀{vs:List V},vs.all V.flat=true→vs.map (V.ren σ)=vs
 | [],_=>rfl
 |v::vs,h=>by
  simp only[List.all_cons,Bool.and_eq_true] at h
  rw[List.map_cons,V.ren_flat h.1,atm h.2]
theorem aBh.frame{f:FuncId}{vs cs cs':List V}{v:V}(h:aBh P f vs cs v cs')(hf:vs.all V.flat=true)(hv:v.flat=true)(hc:cs.all V.flatO=true)(hc':cs'.all V.flatO=true)
  {hp:List aK} {id:Nat} (hid:hp[id]? =some (some cs)):iX P f (.ptr id 0::vs) hp v (hp.set id (some cs')):=by
 obtain⟨rest,h⟩:=h
 have hidl:id<hp.length:=(List.getElem?_eq_some_iff.1 hid).1
 have:=b7.frame (P:=P) (f:=f) (avs:=.ptr 0 0::vs) (css:=[cs]) (css':=[cs']) (v:=v) ⟨rfl,rest,h⟩ (hp:=hp) (hp':=hp.set id (some cs')) (σ:=fun _=>id)
  (by simp only[List.all_cons,Bool.and_eq_true];exact⟨rfl,List.all_eq_true.2 fun x hx=>V.flatP_flat (List.all_eq_true.1 hf x hx)⟩) hv (by simpa using hc) (by simpa using hc')
  (by intro k k' hk hk' _;simp at hk hk';omega) (by intro k cs₁ hk;cases k<;>simp at hk;rw[←hk];exact hid) (by simp)
  (by intro k cs₁ hk;cases k<;>simp at hk;rw[←hk];simp[hidl])
  (by intro i hi;rw[List.getElem?_set_ne (hi 0 (by simp))])
 rw[List.map_cons,atm hf] at this
 exact this
theorem ep.mono{Γ:aN}{imp imp':List Nat}(h:ep Γ imp)(hs:imp.all (fun x=>imp'.contains x)=true)(hm:imp'.all (fun x=>Nat.blt x 2000000||imp.contains x)=true):ep Γ imp':=by
 refine⟨?_,fun f vs hp c v hp' hf=>h.loc f vs hp c v hp' ?_⟩
 rotate_left
 ·have:=List.all_eq_true.1 hm (f+2000000) (by simpa using hf)
  simp only[Bool.or_eq_true,Nat.blt_eq] at this
  rcases this with h1|h1
  ·omega
  ·exact h1
 intro f vs hp hf
 refine h.pure f vs hp ?_
 cases hc:imp.contains f with
 |false=>rfl
 |true=>
  have:=List.all_eq_true.1 hs f (by simpa using hc)
  rw[this] at hf
  simp at hf
def xa:Nat→List V→List V
 |_,[]=>[]
 |k,.ptr _ 0::vs=>.ptr k 0::xa (k+1) vs
 |k,v::vs=>v::xa k vs
def rn(hp:List aK):List Nat→Option (List (List V))
 | []=>some []
 |i::is=>match hp.getD i none with
  |some cs=>match rn hp is with
   |some css=>some (cs::css)
   |none=>none
  |none=>none
def tI:List aK→List Nat→List (List V)→List aK
 |hp,i::is,c::cs=>tI (hp.set i (some c)) is cs
 |hp,_,_=>hp
def ahg:List Nat→Bool
 | []=>true
 |i::is=> !(is.any (Nat.beq i))&&ahg is
abbrev ap1:=Nat→List V→List (List V)→Option (Bool×V×List (List V))
def yd(G:ap1)(Γ:aN):aN:=fun f vs hp=>
 match rn hp (f6 vs) with
 |some css=>match G f (xa 0 vs) css with
  |some (c,v,css')=>cond (ahg (f6 vs)&&Nat.beq css'.length css.length&&(xa 0 vs).all (V.flatP css.length)&&v.flat&&css.all (fun cs=>cs.all V.flatO)&&css'.all (fun cs=>cs.all V.flatO))
    (some (c,v,tI hp (f6 vs) css')) none
  |none=>Γ f vs hp
 |none=>Γ f vs hp
theorem alz:∀{l:List Nat},ahg l=true→l.Nodup
 | [],_=>List.nodup_nil
 |i::is,h=>by
  simp only[ahg,Bool.and_eq_true,Bool.not_eq_true',List.any_eq_false] at h
  refine List.nodup_cons.2 ⟨fun hm=>?_,alz h.2⟩
  exact h.1 i hm (by simp)
theorem anW{hp:List aK}:∀{is:List Nat}{css:List (List V)},rn hp is=some css→css.length=is.length∧∀(k:Nat) cs,css[k]? =some cs→hp[is.getD k 0]? =some (some cs)
 | [],css,h=>by
   simp only[rn,Option.some.injEq] at h
   subst h
   simp
 |i::is,css,h=>by
  simp only[rn] at h
  split at h
  ·rename_i cs hcs
   split at h
   ·rename_i css₁ hs
    simp only[Option.some.injEq] at h
    subst h
    obtain⟨h1,h2⟩:=anW hs
    refine⟨by simp[h1],fun k c hk=>?_⟩
    cases k with
    |zero=>
     simp only[List.getElem?_cons_zero,Option.some.injEq] at hk
     subst hk
     rw[List.getD_eq_getElem?_getD] at hcs
     simp only[List.getD_cons_zero]
     cases hq:hp[i]? with
     |none=>rw[hq] at hcs;simp at hcs
     |some x=>rw[hq] at hcs;simpa using hcs
    |succ k=>
     simp only[List.getElem?_cons_succ] at hk
     simpa using h2 k c hk
   ·simp at h
  ·simp at h
theorem ajH:∀{is:List Nat}{hp:List aK}{css:List (List V)},(tI hp is css).length=hp.length
 | [],hp,css=>by cases css<;>rfl
 |i::is,hp,[]=>rfl
 |i::is,hp,c::cs=>by simp[tI,ajH]
theorem aiM:∀{is:List Nat}{hp:List aK}{css:List (List V)}{id:Nat},id ∉ is→(tI hp is css)[id]? =hp[id]?
 | [],hp,css,id,_=>by cases css<;>rfl
 |i::is,hp,[],id,_=>rfl
 |i::is,hp,c::cs,id,h=>by
  simp only[List.mem_cons,not_or] at h
  rw[tI,aiM h.2,List.getElem?_set_ne (fun e=>h.1 e.symm)]
theorem atn:∀{is:List Nat}{hp:List aK}{css:List (List V)},is.Nodup→(∀i∈is,i<hp.length)→∀(k:Nat) cs,k<is.length→css[k]? =some cs→(tI hp is css)[is.getD k 0]? =some (some cs)
 | [],_,_,_,_,k,_,hk,_=>by simp at hk
 |i::is,hp,[],_,_,k,_,_,h=>by simp at h
 |i::is,hp,c::cs,hn,hl,k,c',hk,h=>by
  obtain⟨hn1,hn2⟩:=List.nodup_cons.1 hn
  cases k with
  |zero=>
   simp only[List.getElem?_cons_zero,Option.some.injEq] at h
   subst h
   simp only[List.getD_cons_zero,tI]
   rw[aiM hn1]
   simp[hl i List.mem_cons_self]
  |succ k=>
   simp only[List.getElem?_cons_succ] at h
   simp only[List.getD_cons_succ,tI]
   exact atn hn2 (fun j hj=>by simpa using hl j (List.mem_cons_of_mem _ hj)) k c' (by simpa using hk) h
theorem alA{σ:Nat→Nat}{n:Nat}:∀{vs:List V}{k:Nat},(∀i,i<(f6 vs).length→σ (k+i)=(f6 vs).getD i 0)→(xa k vs).all (V.flatP n)=true→(xa k vs).map (V.ren σ)=vs
 | [],_,_,_=>rfl
 |v::vs,k,hσ,hf=>by
  by_cases hv:∃i,v=.ptr i 0
  ·obtain⟨i,rfl⟩:=hv
   simp only[xa,List.map_cons,V.ren]
   simp only[f6] at hσ
   simp only[xa,List.all_cons,Bool.and_eq_true] at hf
   have h0:=hσ 0 (by simp)
   simp only[Nat.add_zero,List.getD_cons_zero] at h0
   rw[h0,alA (fun j hj=>by have:=hσ (j+1) (by simp;omega);rw[List.getD_cons_succ] at this;rw[←this];congr 1;omega) hf.2]
  ·have e1:xa k (v::vs)=v::xa k vs:=by
    cases v<;>try rfl
    rename_i i o
    cases o with
    |zero=>exact absurd ⟨i,rfl⟩ hv
    |succ o=>rfl
   have e2:f6 (v::vs)=f6 vs:=by
    cases v<;>try rfl
    rename_i i o
    cases o with
    |zero=>exact absurd ⟨i,rfl⟩ hv
    |succ o=>rfl
   rw[e2] at hσ
   rw[e1] at hf ⊢
   simp only[List.all_cons,Bool.and_eq_true] at hf
   have hfl:v.flat=true:=by
    have:=hf.1
    unfold V.flatP at this
    split at this
    ·rename_i i
     exact absurd ⟨i,rfl⟩ hv
    ·exact this
   rw[List.map_cons,V.ren_flat hfl,alA hσ hf.2]
theorem azI{G:ap1}{Γ:aN}(hG:∀f avs css v css',G f avs css=some (true,v,css')→b7 P f avs css v css')(hΓ:dR P Γ):dR P (yd G Γ):=by
 intro f vs hp v hp' h
 unfold yd at h
 split at h
 ·rename_i css hcss
  split at h
  ·rename_i c v' css' hg
   cases hst:(ahg (f6 vs)&&Nat.beq css'.length css.length&&(xa 0 vs).all (V.flatP css.length)&&v'.flat&&css.all (fun cs=>cs.all V.flatO)&&css'.all (fun cs=>cs.all V.flatO)) with
   |false=>rw[hst] at h;simp at h
   |true=>
    rw[hst] at h
    simp only[cond_true,Option.some.injEq,Prod.mk.injEq] at h
    obtain⟨rfl,rfl,rfl⟩:=h
    simp only[Bool.and_eq_true] at hst
    obtain⟨⟨⟨⟨⟨n1,n2⟩,n3⟩,n4⟩,n5⟩,n6⟩:=hst
    obtain⟨c1,c2⟩:=anW hcss
    have hnd:=alz n1
    have hle:css'.length=css.length:=by simpa using n2
    have:=b7.frame (hG f _ css _ css' hg) n3 n4 n5 n6 (hp:=hp) (hp':=tI hp (f6 vs) css') (σ:=fun k=>(f6 vs).getD k 0)
     (by
      intro k k' hk hk' e
      rw[c1] at hk hk'
      simp only[List.getD_eq_getElem?_getD,List.getElem?_eq_getElem hk,List.getElem?_eq_getElem hk',Option.getD_some] at e
      exact(List.getElem_inj hnd).1 e)
     c2 ajH
     (by
      intro k cs hk
      have hkl:k<css'.length:=(List.getElem?_eq_some_iff.1 hk).1
      refine atn hnd ?_ k cs (by omega) hk
      intro i hi
      obtain⟨j,hj,rfl⟩:=List.mem_iff_getElem.1 hi
      have hj':j<css.length:=by omega
      have:=c2 j _ (List.getElem?_eq_getElem hj')
      rw[List.getD_eq_getElem?_getD,List.getElem?_eq_getElem hj,Option.getD_some] at this
      exact(List.getElem?_eq_some_iff.1 this).1)
     (by
      intro id hn
      refine aiM fun hm=>?_
      obtain⟨j,hj,rfl⟩:=List.mem_iff_getElem.1 hm
      exact hn j (by omega) (by rw[List.getD_eq_getElem?_getD,List.getElem?_eq_getElem hj,Option.getD_some]))
    rw[alA (n:=css.length) (fun i _=>by rw[Nat.zero_add]) n3] at this
    exact this
  ·exact hΓ _ _ _ _ _ h
 ·exact hΓ _ _ _ _ _ h
theorem alB{hp hp2:List aK}:∀{is:List Nat},(∀i∈is,hp2[i]? =hp[i]?)→rn hp2 is=rn hp is
 | [],_=>rfl
 |i::is,h=>by
  simp only[rn]
  rw[afT (h i (List.mem_cons_self ..)),alB fun j hj=>h j (List.mem_cons_of_mem _ hj)]
theorem aiN:∀(is:List Nat)(hp:List aK)(css:List (List V)),tI hp is css=als hp (is.zip (css.map some))
 | [],hp,css=>by cases css<;>rfl
 |i::is,hp,[]=>rfl
 |i::is,hp,c::css=>by
  simp only[tI,List.map_cons,List.zip_cons_cons]
  rw[aiN is]
  rfl
theorem axr{G:ap1}{Γ:aN}{imp:List Nat}(hG:∀f avs css,imp.contains f=false→G f avs css=none)(hΓ:ep Γ imp):ep (yd G Γ) imp:=by
 refine⟨?_,?_⟩
 ·intro f vs hp hf
  have e:∀hp,yd G Γ f vs hp=Γ f vs hp:=by
   intro hp
   unfold yd
   split
   ·rw[hG f _ _ hf]
   ·rfl
  rw[e,e]
  exact hΓ.pure f vs hp hf
 ·intro f vs hp c v hp' hf h
  have same:∀hp2:List aK,(∀i∈vM vs,hp2[i]? =hp[i]?)→rn hp2 (f6 vs)=rn hp (f6 vs):=fun hp2 hh=>alB fun i hi=>hh i (aiJ hi)
  unfold yd at h
  cases hcs:rn hp (f6 vs) with
  |none=>
   rw[hcs] at h
   obtain⟨q,q1,q2,q3⟩:=hΓ.loc f _ _ _ _ _ hf h
   refine⟨q,q1,q2,fun hp2 hl hh=>?_⟩
   simp only[yd,same hp2 hh,hcs]
   exact q3 hp2 hl hh
  |some css=>
   rw[hcs] at h
   simp only at h
   cases hg:G f (xa 0 vs) css with
   |none=>
    rw[hg] at h
    obtain⟨q,q1,q2,q3⟩:=hΓ.loc f _ _ _ _ _ hf h
    refine⟨q,q1,q2,fun hp2 hl hh=>?_⟩
    simp only[yd,same hp2 hh,hcs,hg]
    exact q3 hp2 hl hh
   |some x=>
    obtain⟨c',v',css'⟩:=x
    rw[hg] at h
    simp only at h
    cases hst:(ahg (f6 vs)&&Nat.beq css'.length css.length&&(xa 0 vs).all (V.flatP css.length)&&v'.flat&&css.all (fun cs=>cs.all V.flatO)&&css'.all (fun cs=>cs.all V.flatO)) with
    |false=>rw[hst] at h;simp at h
    |true=>
     rw[hst] at h
     simp only[cond_true,Option.some.injEq,Prod.mk.injEq] at h
     obtain⟨rfl,rfl,rfl⟩:=h
     refine⟨(f6 vs).zip (css'.map some),?_,aiN _ _ _,fun hp2 hl hh=>?_⟩
     ·intro p hp
      obtain⟨a,b⟩:=p
      exact(List.of_mem_zip hp).1
     ·simp only[yd,same hp2 hh,hcs,hg,hst,cond_true]
      rw[aiN]
end
end Go.AM
end
noncomputable section
namespace Go.AM
set_option autoImplicit false
set_option linter.unusedSimpArgs false
set_option linter.unusedVariables false
def V.lend1(hp:List aK):V→V
 | .sw _ id n=>match hp.getD id none with
   |some [.rw k xs]=>.sl k (.may false) xs
   |_=>.undef
 |v=>v
def V.lend(hp:List aK):V→V
 | .agg cs=>.agg (cs.map (V.lend1 hp))
 |v=>v.lend1 hp
def V.lendT(hp:List aK):V→Bool
 | .sw _ id n=>match hp.getD id none with
   |some [.rw _ xs]=>Nat.beq n xs.length
   |_=>false
 |_=>true
def V.isSw:V→Bool
 | .sw _ _ _=>true
 |_=>false
def aab(hp:List aK):List V→Bool→Bool
 | [],b=>b
 |v::r,b=>cond v.isSw (v.lendT hp&&aab hp r b) (aab hp r b)
def acg(hp:List aK):List V→Bool
 | []=>true
 |v::r=>aab hp v.cellsA (acg hp r)
def V.scal1:V→Bool
 | .bool _| .int _ _| .str _| .nilif=>true
 |_=>false
def V.scal:V→Bool
 | .tup cs=>cs.all V.scal1
 |v=>v.scal1
def aac(ls:List Nat)(G:Nat→List V→Option (Bool×V))(Γ:aN):aN:=fun f vs hp=>
 cond (ls.elem f) (match Γ f vs hp with
  |some r=>some r
  |none=>match G f (vs.map (V.lend hp)) with
   |some (c,v)=>cond (v.scal&&(vs.map (V.lend hp)).all V.flat) (some (c&&acg hp vs,v,hp)) none
   |none=>none) (Γ f vs hp)
section
variable{I I':Nat→Nat→Prop}{ρ ρ':Nat→Nat}{N N':Nat}{w w':World}{P:Program}
theorem VRel.scal1{v:V}{cv:Value}(h:VRel I ρ N w v cv)(hs:v.scal1=true):VRel I' ρ' N' w' v cv:=by
 cases h<;>simp[V.scal1] at hs
 ·exact .bool _
 ·exact .int _ _ (by assumption)
 ·exact .str _ _ (by assumption) (by assumption)
 ·exact .nilif
theorem VRel.scal{v:V}{cv:Value}(h:VRel I ρ N w v cv)(hs:v.scal=true):VRel I' ρ' N' w' v cv:=by
 by_cases ht:∃cs,v=.tup cs
 ·obtain⟨cs,rfl⟩:=ht
  cases h with
  |tup cs vs hl hv=>
   simp only[V.scal,List.all_eq_true] at hs
   exact .tup cs vs hl fun i c cv hc hcv=>(hv i c cv hc hcv).scal1 (hs c (List.mem_of_getElem? hc))
 ·refine h.scal1 ?_
  cases v<;>first|exact hs|exact absurd ⟨_,rfl⟩ ht
theorem aAH{v:V}(hs:v.scal=true)(g:Gh)(occ:Occ)(cv:Value):aT g w occ v cv:=by
 cases v<;>simp[V.scal,V.scal1] at hs<;>simp[aT]
theorem azJ{hp:List aK}{v:V}(h:(v.lend1 hp).flat1=true)(h1:v.one=true):(v.lend1 hp).one=true:=by
 generalize v.lend1 hp=u at h
 cases u<;>simp[V.flat1] at h<;>rfl
theorem ap2{hp:List aK}:∀{cs:List V}{b:Bool},aab hp cs b=true→b=true∧∀c∈cs,c.lendT hp=true
 | [],b,h=>⟨h,by simp⟩
 |v::r,b,h=>by
  simp only[aab] at h
  have hv:v.lendT hp=true∧aab hp r b=true:=by
   cases hs:v.isSw with
   |true=>rw[hs] at h;simpa using h
   |false=>
    rw[hs] at h
    refine⟨?_,by simpa using h⟩
    cases v<;>first|rfl|simp[V.isSw] at hs
  obtain⟨h1,h2⟩:=ap2 hv.2
  exact⟨h1,fun c hc=>by
   rcases List.mem_cons.1 hc with rfl|hc
   ·exact hv.1
   ·exact h2 c hc⟩
theorem ap3{hp:List aK}:∀{vs:List V},acg hp vs=true→∀v∈vs,∀c∈v.cellsA,c.lendT hp=true
 | [],_=>by simp
 |v::r,h=>by
  obtain⟨h1,h2⟩:=ap2 (b:=acg hp r) h
  intro u hu
  rcases List.mem_cons.1 hu with rfl|hu
  ·exact h2
  ·exact ap3 h1 u hu
theorem aAI{f:FuncId}{vs:List V}{hp:List aK}{v:V}(h:aV P f (vs.map (V.lend hp)) v)(hT:acg hp vs=true)(hs:v.scal=true)(hf:(vs.map (V.lend hp)).all V.flat=true):iX P f vs hp v hp:=by
 obtain⟨hp',h⟩:=h
 intro w g cargs hβ hhr hlen hbare hrel
 let J:Nat→Nat→Prop:=fun b j=>g.I b j∨∃(id:Nat)(k:EK)(xs:List (Ty k)),hp[id]? =some (some [.rw k xs])∧b=g.ρ id∧j<xs.length*k.sz
 let g₀:Gh:={I:=J,ρ:=g.ρ,O:=fun _=>none,β:=g.β}
 have h0:HR g₀ [] w:=by
  refine⟨by simp,by simp,by simp,by simp,?_,by simp[g₀]⟩
  intro b j hj
  rcases hj with hj|⟨id,k,xs,hid,rfl,hj⟩
  ·exact hhr.exI b j hj
  ·obtain⟨arr,e,fz,a1,a2⟩:=(hhr.obj id _ hid).row rfl
   have hl:=a2.len
   simp only[cellsOf] at hl
   rw[cJ] at hl
   rw[bb a1,Array.getElem?_eq_getElem (by omega)]
   rfl
 have upJ:∀N,Up g.I g.ρ N w J g.ρ N w:=fun N=>⟨fun b j hj=>.inl hj,fun _ _ _=>rfl,fun _ _=>rfl,Nat.le_refl _⟩
 have rel1:∀(x:V)(cv:Value),VRel g.I g.ρ hp.length w x cv→x.lendT hp=true→(x.lend1 hp).flat1=true→VRel J g.ρ 0 w (x.lend1 hp) cv:=by
  intro x cv hr hb hfl
  by_cases hx:∃k id n,x=.sw k id n
  ·obtain⟨k0,id,n,rfl⟩:=hx
   simp only[V.lend1] at hfl ⊢
   simp only[V.lendT] at hb
   split at hfl
   ·rename_i k xs hid
    have hid':hp[id]? =some (some [.rw k xs]):=by
     rw[List.getD_eq_getElem?_getD] at hid
     cases hq:hp[id]? with
     |none=>rw[hq] at hid;simp at hid
     |some y=>rw[hq] at hid;simpa using hid
    rw[hid] at hb
    ·obtain rfl:=Nat.eq_of_beq_eq_true hb
     cases hr with
     |sw _ _ _ h1 h2 h3=>
      obtain⟨arr,e,fz,a1,a2⟩:=(hhr.obj id _ hid').row rfl
      have hl:=a2.len
      simp only[cellsOf] at hl
      rw[cJ] at hl
      have inr:∀(i:Nat) x (j:Nat),xs[i]? =some x→j<(enc k x).length→i*k.sz+j<xs.length*k.sz:=by
       intro i x j hx hj
       rw[cF] at hj
       exact z8 (List.getElem?_eq_some_iff.1 hx).1 hj
      refine .sl k (.may false) xs (g.ρ id) 0 xs.length _ rfl h2 h3 (by simp) (fun i j=>arr.getD (i*k.sz+j) undef) ?_ ?_ ?_
      ·intro i x j hx hj
       exact .inr ⟨id,k,xs,hid',rfl,by rw[Nat.zero_add];exact inr i x j hx hj⟩
      ·intro i x j hx hj
       have:=inr i x j hx hj
       rw[Nat.zero_add,bb a1,Array.getElem?_eq_getElem (by omega)]
       simp[Array.getD,show i*k.sz+j<arr.size by omega]
      ·intro i x j v hx hv
       have hj:=(List.getElem?_eq_some_iff.1 hv).1
       have:=inr i x j hx hj
       have hrow:=a2.rel (i*k.sz+j) v (arr.getD (i*k.sz+j) undef) (by simp only[cellsOf];exact aiI xs i j x v hx hv) (by
        rw[Array.getElem?_eq_getElem (by omega)]
        simp[Array.getD,show i*k.sz+j<arr.size by omega])
       exact(zB (ρ':=g.ρ) (N':=0) hv hrow).up (upJ 0)
   ·simp[V.flat1] at hfl
  ·have e:x.lend1 hp=x:=by
    cases x<;>first|rfl|exact absurd ⟨_,_,_,rfl⟩ hx
   rw[e] at hfl ⊢
   exact(hr.flat1 (N':=0) hfl).up (upJ 0)
 have rel:∀(x:V)(cv:Value),VRel g.I g.ρ hp.length w x cv→(∀c∈x.cellsA,c.lendT hp=true)→(x.lend hp).flat=true→VRel J g.ρ 0 w (x.lend hp) cv:=by
  intro x cv hr hb' hfl
  by_cases hx:∃cs,x=.agg cs
  ·obtain⟨cs,rfl⟩:=hx
   simp only[V.cellsA] at hb'
   simp only[V.lend] at hfl ⊢
   simp only[V.flat,V.flat2,List.all_map,List.all_eq_true,Function.comp] at hfl
   cases hr with
   |agg cs us hl h1 hb hv=>
    refine .agg _ us (by simpa using hl) ?_ ?_ ?_
    ·intro c hc
     obtain⟨c',hc',rfl⟩:=List.mem_map.1 hc
     exact azJ (hfl c' hc') (h1 c' hc')
    ·intro i c cv hc hcv
     rw[List.getElem?_map] at hc
     cases hq:cs[i]? with
     |none=>rw[hq] at hc;simp at hc
     |some c'=>
      rw[hq] at hc
      simp only[Option.map_some,Option.some.injEq] at hc
      subst hc
      have:=hb i c' cv hq hcv
      unfold V.lend1
      split
      ·split
       ·simp[gU]
       ·simp[gU]
      ·exact this
    ·intro i c cv hc hcv
     rw[List.getElem?_map] at hc
     cases hq:cs[i]? with
     |none=>rw[hq] at hc;simp at hc
     |some c'=>
      rw[hq] at hc
      simp only[Option.map_some,Option.some.injEq] at hc
      subst hc
      exact rel1 c' cv (hv i c' cv hq hcv) (hb' c' (List.mem_of_getElem? hq)) (hfl c' (List.mem_of_getElem? hq))
  ·have e:x.lend hp=x.lend1 hp:=by
    cases x<;>first|rfl|exact absurd ⟨_,rfl⟩ hx
   rw[e] at hfl ⊢
   by_cases hy:∃k id n,x=.sw k id n
   ·refine rel1 x cv hr ?_ ?_
    ·obtain⟨k,id,n,rfl⟩:=hy
     exact hb' _ (by simp[V.cellsA])
    obtain⟨k,id,n,rfl⟩:=hy
    simp only[V.lend1] at hfl ⊢
    split at hfl
    ·simp[V.flat1]
    ·simp[V.flat,V.flat2,V.flat1] at hfl
   ·have e:x.lend1 hp=x:=by
     cases x<;>first|rfl|exact absurd ⟨_,_,_,rfl⟩ hy
    rw[e] at hfl ⊢
    exact(hr.flat (ρ':=g.ρ) (N':=0) hfl).up (upJ 0)
 have hargs:∀(i:Nat) x cv,(vs.map (V.lend hp))[i]? =some x→cargs[i]? =some cv→VRel g₀.I g₀.ρ ([]:List aK).length w x cv:=by
  intro i x cv hx hcv
  have hfx:=List.all_eq_true.1 hf x (List.mem_of_getElem? hx)
  rw[List.getElem?_map] at hx
  cases hq:vs[i]? with
  |none=>rw[hq] at hx;simp at hx
  |some y=>
   rw[hq] at hx
   simp only[Option.map_some,Option.some.injEq] at hx
   subst hx
   exact rel y cv (hrel i y cv hq hcv) (ap3 hT y (List.mem_of_getElem? hq)) hfx
 refine(h w g₀ cargs hβ h0 (by simpa using hlen) (by
  intro x hx
  have hfx:=List.all_eq_true.1 hf x hx
  cases x<;>first|rfl|(simp[V.flat,V.flat2,V.flat1] at hfx;done)|skip
  rename_i k o xs
  obtain⟨y,hy,e⟩:=List.mem_map.1 hx
  by_cases hsw:∃k id n,y=.sw k id n
  ·obtain⟨k',id,n,rfl⟩:=hsw
   simp only[V.lend,V.lend1] at e
   split at e
   ·simp at e
    obtain⟨rfl,rfl, -⟩:=e
    rfl
   ·simp at e
  ·have e':y.lend hp=y∨∃cs,y=.agg cs:=by
    cases y<;>first|exact .inl rfl|exact .inr ⟨_,rfl⟩|exact absurd ⟨_,_,_,rfl⟩ hsw
   rcases e' with e'|⟨cs,rfl⟩
   ·rw[←e,e'];exact hbare y hy
   ·simp[V.lend] at e) hargs).mono ?_
 rintro ex w' ⟨cv,g₁,rfl,q1,q2,q3,q4⟩
 have blk:∀b,b<w.heap.size→w'.heap[b]? =w.heap[b]?:=fun b hb=>q2.block b hb (by simp) rfl
 have cellI:∀b j,g.I b j→w'.cell? ⟨b,j,none⟩=w.cell? ⟨b,j,none⟩:=fun b j hj=>q2.up.cell b j (.inl hj)
 have up:Up g.I g.ρ hp.length w g.I g.ρ hp.length w':=⟨fun _ _ h=>h,cellI,fun _ _=>rfl,Nat.le_refl _⟩
 have olt:∀(id:Nat) cs,hp[id]? =some (some cs)→g.ρ id<w.heap.size:=by
  intro id cs hid
  obtain⟨ob,h1⟩:=(hhr.obj id cs hid).block
  exact(Array.getElem?_eq_some_iff.1 h1).1
 refine⟨cv,g,rfl,⟨?_,hhr.apart,hhr.notI,hhr.notO,?_,fun b o hb=>Nat.lt_of_lt_of_le (hhr.oLt b o hb) q2.size⟩,⟨rfl,q2.os,q2.tape,q2.output,q2.size,fun b hb _ _=>blk b hb,up,fun _ _ _ _ _ h=>h,fun _ _ _ h=>h,fun _ cs h=>.inl ⟨cs,h⟩⟩,q3.scal hs,aAH hs _ _ _⟩
 ·intro id cs hid
  refine(hhr.obj id cs hid).keep (blk _ (olt id cs hid)) fun arr e fz h1 h2=>?_
  refine⟨h2.len,h2.plain,h2.typed,h2.cold,h2.one,fun j c cv hc hcv=>(h2.rel j c cv hc hcv).up up,fun j c cv hc hcv=>?_,h2.bn⟩
  exact dU (h2.own j c cv hc hcv) rfl (fun b j hi=>⟨hi,cellI b j hi⟩) fun b hb=>⟨hb,blk b (hhr.oLt b _ hb),fun j hj=>hj⟩
 ·intro b j hj
  rw[cellI b j hj]
  exact hhr.exI b j hj
theorem aAJ{ls:List Nat}{G:Nat→List V→Option (Bool×V)}{Γ:aN}(hG:∀f vs v,G f vs=some (true,v)→aV P f vs v)(hΓ:dR P Γ):dR P (aac ls G Γ):=by
 intro f vs hp v hp' h
 unfold aac at h
 cases hl:ls.elem f with
 |false=>rw[hl] at h;exact hΓ _ _ _ _ _ h
 |true=>
  rw[hl] at h
  simp only[cond_true] at h
  split at h
  ·rename_i r hr
   rw[Option.some.inj h] at hr
   exact hΓ _ _ _ _ _ hr
  ·split at h
   ·rename_i c v' hg
    cases hst:(v'.scal&&(vs.map (V.lend hp)).all V.flat) with
    |false=>rw[hst] at h;simp at h
    |true=>
     rw[hst] at h
     simp only[cond_true,Option.some.injEq,Prod.mk.injEq] at h
     obtain⟨hc,rfl,rfl⟩:=h
     simp only[Bool.and_eq_true] at hst hc
     obtain⟨rfl,hT⟩:=hc
     exact aAI (hG f _ _ hg) hT hst.1 hst.2
   ·simp at h
theorem aiO{hp hp2:List aK}{v:V}(h:∀i∈v.id1,hp2[i]? =hp[i]?):v.lend1 hp2=v.lend1 hp∧v.lendT hp2=v.lendT hp:=by
 cases v with
 |sw k id n=>
  have e:=afT (h id (by simp[V.id1]))
  simp only[V.lend1,V.lendT,e,and_self]
 |_=>exact⟨rfl,rfl⟩
theorem azK{hp hp2:List aK}{v:V}(h:∀i∈v.cellsA.flatMap V.id1,hp2[i]? =hp[i]?):v.lend hp2=v.lend hp:=by
 cases v with
 |agg cs=>
  simp only[V.lend,V.agg.injEq]
  refine List.map_congr_left fun c hc=>(aiO fun i hi=>h i ?_).1
  simp only[V.cellsA,List.mem_flatMap]
  exact⟨c,hc,hi⟩
 |_=>exact(aiO fun i hi=>h i (by simpa [V.cellsA] using hi)).1
theorem anX{hp hp2:List aK}:∀{cs:List V}{b b':Bool},(∀i∈cs.flatMap V.id1,hp2[i]? =hp[i]?)→b'=b→aab hp2 cs b'=aab hp cs b
 | [],b,b',_,e=>e
 |v::r,b,b',h,e=>by
  simp only[aab]
  rw[(aiO (v:=v) fun i hi=>h i (by simp[hi])).2,anX (cs:=r) (fun i hi=>h i (by
   simp only[List.flatMap_cons,List.mem_append];exact .inr hi)) e]
theorem anY{hp hp2:List aK}:∀{vs:List V},(∀i∈vM vs,hp2[i]? =hp[i]?)→acg hp2 vs=acg hp vs
 | [],_=>rfl
 |v::r,h=>by
  simp only[acg]
  exact anX (fun i hi=>h i (by simp only[vM,List.flatMap_cons,List.mem_append];exact .inl hi)) (anY fun i hi=>h i (by simp only[vM,List.flatMap_cons,List.mem_append] at hi ⊢;exact .inr hi))
theorem ayP{ls:List Nat}{G:Nat→List V→Option (Bool×V)}{Γ:aN}{imp imp':List Nat}(hΓ:ep Γ imp)(hs:(ls++imp).all (fun x=>imp'.contains x)=true)
  (hm:imp'.all (fun x=>Nat.blt x 2000000||imp.contains x)=true):ep (aac ls G Γ) imp':=by
 simp only[List.all_append,Bool.and_eq_true] at hs
 refine⟨?_,?_⟩
 ·intro f vs hp hf
  have hl:ls.elem f=false:=by
   cases hc:ls.elem f with
   |false=>rfl
   |true=>
    have:=List.all_eq_true.1 hs.1 f (by simpa using hc)
    rw[this] at hf
    simp at hf
  have e:∀hp,aac ls G Γ f vs hp=Γ f vs hp:=by
   intro hp
   unfold aac
   rw[hl];rfl
  rw[e,e]
  exact(hΓ.mono hs.2 hm).pure f vs hp hf
 ·intro f vs hp c v hp' hf h
  have hloc:=(hΓ.mono hs.2 hm).loc f vs
  cases hl:ls.elem f with
  |false=>
   have e:∀hp,aac ls G Γ f vs hp=Γ f vs hp:=by
    intro hp
    unfold aac
    rw[hl];rfl
   rw[e] at h
   obtain⟨q,q1,q2,q3⟩:=hloc _ _ _ _ hf h
   exact⟨q,q1,q2,fun hp2 hl2 hh=>by rw[e];exact q3 hp2 hl2 hh⟩
  |true=>
   unfold aac at h
   rw[hl] at h
   simp only[cond_true] at h
   cases hg:Γ f vs hp with
   |some r=>
    rw[hg] at h
    simp only[Option.some.injEq] at h
    subst h
    obtain⟨q,q1,q2,q3⟩:=hloc _ _ _ _ hf hg
    refine⟨q,q1,q2,fun hp2 hl2 hh=>?_⟩
    unfold aac
    rw[hl,q3 hp2 hl2 hh]
    rfl
   |none=>
    rw[hg] at h
    simp only at h
    split at h
    ·rename_i c' v' hG
     cases hst:(v'.scal&&(vs.map (V.lend hp)).all V.flat) with
     |false=>rw[hst] at h;simp at h
     |true=>
      rw[hst] at h
      simp only[cond_true,Option.some.injEq,Prod.mk.injEq] at h
      obtain⟨rfl,rfl,rfl⟩:=h
      refine⟨[],by simp,rfl,fun hp2 hl2 hh=>?_⟩
      have hn:Γ f vs hp2=none:=by
       cases hq:Γ f vs hp2 with
       |none=>rfl
       |some r=>
        obtain⟨c2,v2,hp2'⟩:=r
        obtain⟨q,q1,q2,q3⟩:=hloc _ _ _ _ hf hq
        have:=q3 hp hl2.symm (fun i hi=>(hh i hi).symm)
        rw[this] at hg
        cases hg
      have em:vs.map (V.lend hp2)=vs.map (V.lend hp):=List.map_congr_left fun v hv=>azK fun i hi=>hh i (by
       simp only[vM,List.mem_flatMap] at hi ⊢
       exact⟨v,hv,hi⟩)
      unfold aac
      rw[hl,hn]
      simp only[cond_true,em,hG,hst,anY hh]
      rfl
    ·simp at h
end
end Go.AM
end
noncomputable section
namespace Go.AM
set_option autoImplicit false
set_option linter.unusedSimpArgs false
set_option linter.unusedVariables false
section
variable{I I':Nat→Nat→Prop}{ρ ρ':Nat→Nat}{N N':Nat}{w w':World}{P:Program}
def V.dim1:V→V
 | .sl k _ xs=>.sl k (.may false) xs
 |v=>v
def V.dim:V→V
 | .agg cs=>.agg (cs.map V.dim1)
 |v=>v.dim1
theorem VRel.dim1{v:V}{cv:Value}(h:VRel I ρ N w v cv):VRel I ρ N w v.dim1 cv:=by
 cases v<;>simp only[V.dim1]<;>first|exact h.own (by simp) (by simp)|exact h
theorem VRel.dim{v:V}{cv:Value}(h:VRel I ρ N w v cv):VRel I ρ N w v.dim cv:=by
 by_cases hv:∃cs,v=.agg cs
 ·obtain⟨cs,rfl⟩:=hv
  cases h with
  |agg cs vs hl h1 hb hv=>
   refine .agg _ vs (by simpa using hl) ?_ ?_ ?_
   ·intro c hc
    obtain⟨c',hc',rfl⟩:=List.mem_map.1 hc
    have:=h1 c' hc'
    cases c'<;>exact this
   ·intro i c cv hc hcv
    rw[List.getElem?_map,Option.map_eq_some_iff] at hc
    obtain⟨c',hc',rfl⟩:=hc
    have:=hb i c' cv hc' hcv
    cases c'<;>first|exact this|simp[V.dim1,gU]
   ·intro i c cv hc hcv
    rw[List.getElem?_map,Option.map_eq_some_iff] at hc
    obtain⟨c',hc',rfl⟩:=hc
    exact(hv i c' cv hc' hcv).dim1
 ·have e:v.dim=v.dim1:=by cases v<;>first|rfl|exact absurd ⟨_,rfl⟩ hv
  rw[e];exact h.dim1
theorem aAK{v:V}(h:v.bare=true):v.dim.bare=true:=by
 cases v<;>first|exact h|rfl
theorem iX.dim{f:FuncId}{vs us:List V}{hp hp':List aK}{v:V}(h:iX P f us hp v hp')(e:vs.map V.dim=us):iX P f vs hp v hp':=by
 subst e
 intro w g cargs hβ hhr hlen hbare hrel
 refine h w g cargs hβ hhr (by simpa using hlen) (by
  intro x hx
  obtain⟨y,hy,rfl⟩:=List.mem_map.1 hx
  exact aAK (hbare y hy)) ?_
 intro i x cv hx hcv
 rw[List.getElem?_map,Option.map_eq_some_iff] at hx
 obtain⟨y,hy,rfl⟩:=hx
 exact(hrel i y cv hy hcv).dim
theorem aV.dim{f:FuncId}{vs us:List V}{v:V}(h:aV P f us v)(e:vs.map V.dim=us):aV P f vs v:=by
 obtain⟨hp',h⟩:=h
 exact⟨hp',h.dim e⟩
def yM(P:Program)(f:FuncId)(vs cs:List V):Prop:=iX P f vs [] (.ptr 0 0) [some cs]
theorem yM.frame{f:FuncId}{vs cs:List V}(h:yM P f vs cs)(hf:vs.all V.flat=true)(hc:cs.all V.flatO=true)(hp:List aK):iX P f vs hp (.ptr hp.length 0) (hp++[some cs]):=by
 intro w g cargs hβ hhr hlen hbare hrel
 let g₀:Gh:={I:=g.I,ρ:=g.ρ,O:=fun _=>none,β:=g.β}
 have h0:HR g₀ [] w:=⟨by simp,by simp,by simp,by simp,hhr.exI,by simp[g₀]⟩
 refine(h w g₀ cargs hβ h0 hlen hbare (fun i x cv hx hcv=>(hrel i x cv hx hcv).flat (List.all_eq_true.1 hf x (List.mem_of_getElem? hx)))).mono ?_
 rintro e w' ⟨cv,g₁,rfl,q1,q2,q3,q4⟩
 have blk:∀b,b<w.heap.size→w'.heap[b]? =w.heap[b]?:=fun b hb=>q2.block b hb (by simp) rfl
 have isame:∀b j,b<w.heap.size→g₁.I b j→g.I b j:=fun b j hb hi=>q2.iSame b j hb (by simp) rfl hi
 have osame:∀b,b<w.heap.size→g₁.O b=none:=fun b hb=>q2.oSame b hb (by simp) rfl
 have hnew:w.heap.size≤g₁.ρ 0:=by
  rcases q2.live 0 cs rfl with⟨_,h⟩|⟨_,h|h|⟨_,_,h,_⟩⟩
  ·simp at h
  ·exact h
  ·simp[g₀] at h
  ·simp at h
 let g₂:Gh:={I:=g₁.I,ρ:=fun i=>if i=hp.length then g₁.ρ 0 else g.ρ i,β:=g.β,O:=fun b=>if b<w.heap.size then g.O b else (match g₁.O b with
  |some (.cell i j)=>if i=0 then some (.cell hp.length j) else none
  |some .res=>some .res
  |_=>none)}
 have rold:∀i,i<hp.length→g₂.ρ i=g.ρ i:=by
  intro i hi
  simp only[g₂]
  rw[if_neg (by omega)]
 have rnew:g₂.ρ hp.length=g₁.ρ 0:=by simp[g₂]
 have up:Up g.I g.ρ hp.length w g₂.I g₂.ρ (hp++[some cs]).length w':=⟨q2.up.mono,q2.up.cell,rold,by simp⟩
 have olt:∀(id:Nat) cs,hp[id]? =some (some cs)→g.ρ id<w.heap.size:=by
  intro id cs hid
  obtain⟨ob,h1⟩:=(hhr.obj id cs hid).block
  exact(Array.getElem?_eq_some_iff.1 h1).1
 have lt_of:∀(id:Nat) cs,hp[id]? =some (some cs)→id<hp.length:=fun id cs hid=>(List.getElem?_eq_some_iff.1 hid).1
 have key:∀(id:Nat) c,(hp++[some cs])[id]? =some (some c)→(id=hp.length∧c=cs)∨hp[id]? =some (some c):=by
  intro id c hid
  rcases Nat.lt_or_ge id hp.length with hl|hl
  ·rw[List.getElem?_append_left hl] at hid
   exact .inr hid
  ·rw[List.getElem?_append_right hl] at hid
   have:id-hp.length=0:=by
    have:=(List.getElem?_eq_some_iff.1 hid).1
    simp at this;omega
   rw[this] at hid
   exact .inl ⟨by omega,by simpa using hid.symm⟩
 have okeep:∀id j v cv,id<hp.length→aT g w (.cell id j) v cv→aT g₂ w' (.cell id j) v cv:=by
  intro id j v cv hid ho
  refine dU ho rfl (fun b j hi=>⟨q2.up.mono b j hi,q2.up.cell b j hi⟩) ?_
  intro b hb
  have hlt:=hhr.oLt b _ hb
  exact⟨by simp[g₂,hlt,hb],blk b hlt,fun j hj=>isame b j hlt hj⟩
 refine⟨cv,g₂,rfl,⟨?_,?_,?_,?_,q1.exI,?_⟩,⟨rfl,q2.os,q2.tape,q2.output,q2.size,fun b hb _ _=>blk b hb,up,fun b j hb _ _ hi=>isame b j hb hi,?_,?_⟩,?_,?_⟩
 ·intro id c hid
  rcases key id c hid with⟨rfl,rfl⟩|hid
  ·refine(q1.obj 0 c rfl).keep (by rw[rnew]) fun arr e fz a1 a2=>?_
   have hr:=aly hc
   refine⟨a2.len,a2.plain,by rintro k xs rfl;simp[gn] at hr,a2.cold,a2.one,?_,?_,?_⟩
   ·intro j c' cv hj hcv
    exact(a2.rel j c' cv hj hcv).flatO (List.all_eq_true.1 hc c' (List.mem_of_getElem? (by rw[sE hr] at hj;exact hj)))
   ·intro j c' cv hj hcv
    refine(a2.own j c' cv hj hcv).reloc q2.beta.symm rfl fun b hb=>?_
    have hb':¬b<w.heap.size:=by
     intro hlt
     rw[osame b hlt] at hb
     cases hb
    simp[g₂,hb,hb']
   ·intro j E n hj
    rw[rnew]
    exact a2.bn j E n hj
  ·have hl:=lt_of id c hid
   refine(hhr.obj id c hid).keep (by rw[rold id hl];exact blk _ (olt id c hid)) fun arr e fz h1 h2=>?_
   exact⟨h2.len,h2.plain,h2.typedUp rfl rold (by simp) rfl,h2.cold,h2.one,fun j c cv hc hcv=>(h2.rel j c cv hc hcv).up up,fun j c cv hc hcv=>okeep _ _ _ _ hl (h2.own j c cv hc hcv),fun j E n hj=>by rw[rold id hl];exact h2.bn j E n hj⟩
 ·intro id id' c c' hid hid' hne
  rcases key id c hid with⟨rfl,rfl⟩|h1
  ·rcases key id' c' hid' with⟨rfl,rfl⟩|h2
   ·exact absurd rfl hne
   ·rw[rnew,rold id' (lt_of id' c' h2)]
    have:=olt id' c' h2
    omega
  ·rcases key id' c' hid' with⟨rfl,rfl⟩|h2
   ·rw[rnew,rold id (lt_of id c h1)]
    have:=olt id c h1
    omega
   ·rw[rold id (lt_of id c h1),rold id' (lt_of id' c' h2)]
    exact hhr.apart _ _ _ _ h1 h2 hne
 ·intro id c hid j hj
  rcases key id c hid with⟨rfl,rfl⟩|hid
  ·rw[rnew] at hj
   exact q1.notI 0 c rfl j hj
  ·rw[rold id (lt_of id c hid)] at hj
   exact hhr.notI id c hid j (isame _ j (olt id c hid) hj)
 ·intro id c hid
  rcases key id c hid with⟨rfl,rfl⟩|hid
  ·rw[rnew]
   have h1:=q1.notO 0 c rfl
   have h2:¬g₁.ρ 0<w.heap.size:=by omega
   simp[g₂,h1,h2]
  ·rw[rold id (lt_of id c hid)]
   have:=olt id c hid
   simp[g₂,this,hhr.notO id c hid]
 ·intro b o hb
  simp only[g₂] at hb
  split at hb
  ·rename_i hlt
   exact Nat.lt_of_lt_of_le hlt q2.size
  ·split at hb
   ·rename_i hres
    exact q1.oLt b _ hres
   ·rename_i hres
    exact q1.oLt b _ hres
   ·simp at hb
 ·intro b hb _ hO
  simp[g₂,hb,hO]
 ·intro id c hid
  rcases key id c hid with⟨rfl,rfl⟩|hid
  ·exact .inr ⟨Nat.le_refl _,.inl (by rw[rnew];exact hnew)⟩
  ·exact .inl ⟨c,hid⟩
 ·cases q3 with
  |ptr _ _ _=>
   rw[←rnew]
   exact .ptr _ _ (by simp)
 ·simp[aT]
theorem yM.dim{f:FuncId}{vs us cs:List V}(h:yM P f us cs)(e:vs.map V.dim=us):yM P f vs cs:=iX.dim h e
theorem b7.dim{f:FuncId}{vs us:List V}{css css':List (List V)}{v:V}(h:b7 P f us css v css')(e:vs.map V.dim=us):b7 P f vs css v css':=by
 obtain⟨h1,rest,h2⟩:=h
 exact⟨h1,rest,h2.dim e⟩
def V.dimR:V→V
 | .tup vs=>.tup (vs.map V.dim)
 |v=>v.dim
theorem VRel.dimR{v:V}{cv:Value}(h:VRel I ρ N w v cv):VRel I ρ N w v.dimR cv:=by
 by_cases hv:∃cs,v=.tup cs
 ·obtain⟨cs,rfl⟩:=hv
  cases h with
  |tup cs vs hl hv=>
   refine .tup _ vs (by simpa using hl) ?_
   intro i c cv hc hcv
   rw[List.getElem?_map,Option.map_eq_some_iff] at hc
   obtain⟨c',hc',rfl⟩:=hc
   exact(hv i c' cv hc' hcv).dim
 ·have e:v.dimR=v.dim:=by cases v<;>first|rfl|exact absurd ⟨_,rfl⟩ hv
  rw[e];exact h.dim
theorem aT.dimR{g:Gh}{occ:Occ}{v:V}{cv:Value}(h:aT g w occ v cv):aT g w occ v.dimR cv:=by
 cases v<;>first|exact h|simp[V.dimR,V.dim,V.dim1,aT]
theorem iX.dimR{f:FuncId}{vs:List V}{hp hp':List aK}{v:V}(h:iX P f vs hp v hp'):iX P f vs hp v.dimR hp':=by
 intro w g cargs hβ hhr hlen hbare hrel
 refine(h w g cargs hβ hhr hlen hbare hrel).mono ?_
 rintro e w' ⟨cv,g',rfl,q1,q2,q3,q4⟩
 exact⟨cv,g',rfl,q1,q2,q3.dimR,q4.dimR⟩
theorem aV.dimR{f:FuncId}{vs:List V}{v u:V}(h:aV P f vs v)(e:v.dimR=u):aV P f vs u:=by
 subst e
 obtain⟨hp',h⟩:=h
 exact⟨hp',h.dimR⟩
theorem b7.dimR{f:FuncId}{vs:List V}{css css':List (List V)}{v u:V}(h:b7 P f vs css v css')(e:v.dimR=u):b7 P f vs css u css':=by
 subst e
 obtain⟨h1,rest,h2⟩:=h
 exact⟨h1,rest,h2.dimR⟩
abbrev avf:=Nat→List V→Option (Bool×List V)
def afW(G:avf)(Γ:aN):aN:=fun f vs hp=>
 match G f vs with
 |some (c,cs)=>cond (vs.all V.flat&&cs.all V.flatO) (some (c,.ptr hp.length 0,hp++[some cs])) none
 |none=>Γ f vs hp
theorem aAL{G:avf}{Γ:aN}(hG:∀f vs cs,G f vs=some (true,cs)→yM P f vs cs)(hΓ:dR P Γ):dR P (afW G Γ):=by
 intro f vs hp v hp' h
 unfold afW at h
 split at h
 ·rename_i c cs hg
  cases hst:(vs.all V.flat&&cs.all V.flatO) with
  |false=>rw[hst] at h;simp at h
  |true=>
   rw[hst] at h
   simp only[cond_true,Option.some.injEq,Prod.mk.injEq] at h
   obtain⟨rfl,rfl,rfl⟩:=h
   simp only[Bool.and_eq_true] at hst
   exact(hG f vs cs hg).frame hst.1 hst.2 hp
 ·exact hΓ _ _ _ _ _ h
theorem ayQ{G:avf}{Γ:aN}{imp:List Nat}(hG:∀f vs,imp.contains f=false→G f vs=none)(hG':∀f vs,imp.contains (f+2000000)=true→G f vs=none)(hΓ:ep Γ imp):ep (afW G Γ) imp:=by
 refine⟨?_,?_⟩
 ·intro f vs hp hf
  have e:∀hp,afW G Γ f vs hp=Γ f vs hp:=by
   intro hp
   unfold afW
   rw[hG f vs hf]
  rw[e,e]
  exact hΓ.pure f vs hp hf
 ·intro f vs hp c v hp' hf h
  have e:∀hp,afW G Γ f vs hp=Γ f vs hp:=by
   intro hp
   unfold afW
   rw[hG' f vs hf]
  rw[e] at h
  obtain⟨q,q1,q2,q3⟩:=hΓ.loc _ _ _ _ _ _ hf h
  exact⟨q,q1,q2,fun hp2 hl hh=>by rw[e];exact q3 hp2 hl hh⟩
def pick{R:Type}[Inhabited R](C:R→Prop):R:= @Classical.epsilon R ⟨default⟩ C
def can{R:Type}[Inhabited R](C:R→Prop):Bool:= @decide (C (pick C)) (Classical.propDecidable _)
theorem ap4{R:Type}[Inhabited R]{C:R→Prop}(h:∃r,C r):can C=true:= @decide_eq_true _ (Classical.propDecidable _) (Classical.epsilon_spec h)
theorem aad{R:Type}[Inhabited R]{C:R→Prop}(h:can C=true):C (pick C):= @of_decide_eq_true _ (Classical.propDecidable _) h
def aG{R R':Type}[Inhabited R'](C:R'→Prop)(K:R'→Option R):Option R:=chk (can C) (K (pick C))
def avg{R R':Type}[Inhabited R'](C:R'→Prop)(T:Bool)(K:R'→Option R):Option R:=chk (can C&&T) (K (pick C))
end
end Go.AM
end
noncomputable section
namespace Go.AM
set_option autoImplicit false
set_option linter.unusedSimpArgs false
theorem aBi{R:Type}(x:Option R):chk true x=x:=rfl
theorem aAM(k:IntKind)(hk:k.signed=false)(a:Nat):k.wrap (a:Int)=((a%2^k.bits:Nat):Int):=by
 cases k<;>simp[IntKind.signed] at hk<;>simp[IntKind.wrap,IntKind.signed,IntKind.bits]
theorem axs(k:IntKind)(hk:k.signed=false)(a:Nat)(h:a<2^k.bits):k.wrap (a:Int)=(a:Int):=by
 rw[aAM k hk,Nat.mod_eq_of_lt h]
theorem avG(n:Int):IntKind.u64.wrap n=n%18446744073709551616:=by simp[IntKind.wrap,IntKind.bits,IntKind.signed]
theorem avH(n:Int):IntKind.u32.wrap n=n%4294967296:=by simp[IntKind.wrap,IntKind.bits,IntKind.signed]
theorem aBy(n:Int):IntKind.u8.wrap n=n%256:=by simp[IntKind.wrap,IntKind.bits,IntKind.signed]
theorem aoG(n:Int):IntKind.i64.wrap n=(n+9223372036854775808)%18446744073709551616-9223372036854775808:=by
 simp[IntKind.wrap,IntKind.bits,IntKind.signed];omega
theorem avI(n:Int):IntKind.i32.wrap n=(n+2147483648)%4294967296-2147483648:=by
 simp[IntKind.wrap,IntKind.bits,IntKind.signed];omega
theorem aI(n:Int)(h:-9223372036854775808≤n∧n≤9223372036854775807):IntKind.i64.wrap n=n:=by rw[aoG];omega
theorem oD(n:Int)(h:0≤n∧n≤18446744073709551615):IntKind.u64.wrap n=n:=by rw[avG];omega
theorem anZ(n:Int)(h:0≤n∧n≤4294967295):IntKind.u32.wrap n=n:=by rw[avH];omega
theorem ap5(n:Int)(h:0≤n∧n≤255):IntKind.u8.wrap n=n:=by rw[aBy];omega
theorem azL(n a:Nat):(BitVec.ofInt n (a:Int)).toNat=a%2^n:=by simp
theorem aAN(k:IntKind)(hk:k.signed=false)(a b:Nat)(ha:a<2^k.bits)(hb:b<2^k.bits):eY .and k a b=((a&&& b:Nat):Int):=by
 unfold eY
 simp only[BitVec.toNat_and,azL,Nat.mod_eq_of_lt ha,Nat.mod_eq_of_lt hb]
 exact axs k hk _ (Nat.and_lt_two_pow a hb)
end Go.AM
end
noncomputable section
namespace Go.AM
set_option autoImplicit false
def uj(w:World):Gh:={I:=fun b j=>(w.cell? ⟨b,j,none⟩).isSome=true,ρ:=id,O:=fun _=>none,β:=0}
theorem azM{P:Program}{f:FuncId}{vs:List V}(h:aV P f vs (.bool true)){cargs:Array Value}{w:World}(hl:vs.length=cargs.size)(hb:∀x∈vs,x.bare=true)
  (hr:∀(i:Nat) x cv,vs[i]? =some x→cargs[i]? =some cv→VRel (uj w).I id 0 w x cv):
  Calls P f cargs w fun e w'=>e=.returned (.bool true)∧RowKit.Below w.heap.size w w':=by
 obtain⟨hp',h⟩:=h
 refine(h w {uj w with β:=lv P} cargs rfl ⟨by simp,by simp,by simp,by simp,fun b j hi=>hi,by simp[uj]⟩ hl hb hr).mono ?_
 rintro e w' ⟨cv,g',rfl,_,q2,q3,_⟩
 cases q3
 exact⟨rfl,q2.os,q2.tape,q2.output,q2.size,fun b hb=>q2.block b hb (by simp) rfl⟩
end Go.AM
end
noncomputable section
namespace Go.AM
set_option autoImplicit false
theorem dt{p:Prop}[Decidable p](h:p):decide p=true:=decide_eq_true h
theorem df{p:Prop}[Decidable p](h:¬p):decide p=false:=decide_eq_false h
theorem bt{a b:Int}(h:a=b):(a==b)=true:=by simp[h]
theorem bf{a b:Int}(h:a≠b):(a==b)=false:=by simp[h]
theorem it{α:Type}{p:Prop}[Decidable p]{a b:α}(h:p):(if p then a else b)=a:=if_pos h
theorem iF{α:Type}{p:Prop}[Decidable p]{a b:α}(h:¬p):(if p then a else b)=b:=if_neg h
theorem ayi{a b:Int}(h:0≤a):Int.tdiv a b=a / b:=Int.tdiv_eq_ediv_of_nonneg h
theorem ayj{a b:Int}(h:0≤a):Int.tmod a b=a%b:=Int.tmod_eq_emod_of_nonneg h
theorem ato{α β:Type}(f:α→β)(x:α):Option.map f (some x)=some (f x):=rfl
theorem an0(n:Int)(h:-2147483648≤n∧n≤2147483647):IntKind.i32.wrap n=n:=by rw[avI];omega
theorem avJ{cs:List V}(h:(V.agg cs).fits)(n:Int)(hm:V.int .u64 n∈cs):0≤n∧n≤18446744073709551615:=by
 have:=h _ hm
 simpa [IntKind.min,IntKind.max,IntKind.signed,IntKind.bits] using this
theorem avK{α:Type}(n:Int)(l:List α):(ixl n l=true)=(0≤n∧n<(l.length:Int)):=by simp[ixl]
theorem ixt{α:Type}{n:Int}{l:List α}(h:0≤n∧n<(l.length:Int)):ixl n l=true:=by rw[avK];exact h
theorem kd:type_of% @dt∧type_of% @ixt∧type_of% @df∧type_of% @it∧type_of% @iF∧type_of% @bt∧type_of% @bf∧type_of% @cond_true.{1}∧type_of% @cond_false.{1}∧type_of% @ato∧type_of% @aBi∧type_of% @Bool.and_true∧type_of% @Bool.true_and∧type_of% @Bool.and_false∧type_of% @Bool.false_and∧type_of% @Bool.or_true∧type_of% @Bool.true_or∧type_of% @Bool.or_false∧type_of% @Bool.false_or∧type_of% @Bool.not_true∧type_of% @Bool.not_false∧type_of% @if_true.{1}∧type_of% @if_false.{1}∧type_of% @beq_self_eq_true.{0}∧type_of% @aI∧type_of% @oD∧type_of% @an0∧type_of% @anZ∧type_of% @ap5∧type_of% @ayi∧type_of% @ayj∧type_of% @Int.toNat_natCast∧type_of% @List.take_length.{0}∧type_of% @List.drop_zero.{0}∧type_of% @or_true∧type_of% @true_or∧type_of% @or_false∧type_of% @false_or∧type_of% @or_self:=⟨@dt, @ixt, @df, @it, @iF, @bt, @bf, @cond_true.{1}, @cond_false.{1}, @ato, @aBi, @Bool.and_true, @Bool.true_and, @Bool.and_false, @Bool.false_and, @Bool.or_true, @Bool.true_or, @Bool.or_false, @Bool.false_or, @Bool.not_true, @Bool.not_false, @if_true.{1}, @if_false.{1}, @beq_self_eq_true.{0}, @aI, @oD, @an0, @anZ, @ap5, @ayi, @ayj, @Int.toNat_natCast, @List.take_length.{0}, @List.drop_zero.{0}, @or_true, @true_or, @or_false, @false_or, @or_self⟩
theorem bnl:type_of% @avK∧type_of% @decide_eq_true_eq∧type_of% @decide_eq_false_iff_not∧type_of% @Bool.and_eq_true∧type_of% @Bool.and_eq_false_iff∧type_of% @Bool.or_eq_true∧type_of% @Bool.or_eq_false_iff∧type_of% @Bool.not_eq_true'∧type_of% @Bool.not_eq_false'∧type_of% @beq_iff_eq.{0}∧type_of% @beq_eq_false_iff_ne.{0}∧type_of% @Int.not_lt∧type_of% @Int.not_le∧type_of% @Nat.not_lt∧type_of% @Nat.not_le∧type_of% @ne_eq.{1}∧type_of% @Nat.beq_eq∧type_of% @true_and∧type_of% @and_true∧type_of% @Bool.not_not:=⟨@avK, @decide_eq_true_eq, @decide_eq_false_iff_not, @Bool.and_eq_true, @Bool.and_eq_false_iff, @Bool.or_eq_true, @Bool.or_eq_false_iff, @Bool.not_eq_true', @Bool.not_eq_false', @beq_iff_eq.{0}, @beq_eq_false_iff_ne.{0}, @Int.not_lt, @Int.not_le, @Nat.not_lt, @Nat.not_le, @ne_eq.{1}, @Nat.beq_eq, @true_and, @and_true, @Bool.not_not⟩
theorem lnl:type_of% @List.length_append.{0}∧type_of% @List.length_cons.{0}∧type_of% @List.length_nil.{0}∧type_of% @List.length_drop.{0}∧type_of% @List.length_take.{0}∧type_of% @List.length_set.{0}∧type_of% @List.length_replicate.{0}:=⟨@List.length_append.{0}, @List.length_cons.{0}, @List.length_nil.{0}, @List.length_drop.{0}, @List.length_take.{0}, @List.length_set.{0}, @List.length_replicate.{0}⟩
end Go.AM
end
noncomputable section
namespace Go.AM
set_option autoImplicit false
set_option linter.unusedVariables false
def Tot{R:Type}(x:Option R)(Q:R→Prop):Prop:=∃r,x=some r∧Q r
section
variable{R:Type}{Q:R→Prop}
theorem aAO{x:Option R}{Q':R→Prop}(h:Tot x Q)(hq:∀r,Q r→Q' r):Tot x Q':=by
 obtain⟨r,e,h⟩:=h
 exact⟨r,e,hq r h⟩
theorem aU{α:Type}{B:(α→Option R)→α→Option R}(Inv:α→Prop)(μ:α→Nat)
  (step:∀(again:α→Option R) x,Inv x→(∀y,Inv y→μ y<μ x→Tot (again y) Q)→Tot (B again x) Q):∀n x,Inv x→μ x<n→Tot (aR n B x) Q
 |0,_,_,h=>by omega
 |n+1,x,hi,hm=>step (aR n B) x hi fun y hy hlt=>aU Inv μ step n y hy (by omega)
theorem aF{r:R}(h:Q r):Tot (some r) Q:=⟨r,rfl,h⟩
theorem aJ{c:Bool}{x:Option R}(hc:c=true)(h:Tot x Q):Tot (chk c x) Q:=by subst hc;exact h
theorem vck{c:Bool}{x:Option R}(h:Tot x Q)(hc:c=true:=by first|(simp only[bnl,lnl];done)|(simp only[bnl,lnl];omega)):Tot (chk c x) Q:=aJ hc h
theorem aC{b:Bool}{x y:Option R}(h1:b=true→Tot x Q)(h2:b=false→Tot y Q):Tot (cond b x y) Q:=by
 cases b with
 |true=>exact h1 rfl
 |false=>exact h2 rfl
theorem aeb{R:Type}[Inhabited R]{C:R→Prop}(h:∃r,C r):C (pick C):=aad (ap4 h)
theorem aE{R':Type}[Inhabited R']{C:R'→Prop}{K:R'→Option R}(h:∃r,C r)(hK:∀r,C r→Tot (K r) Q):Tot (aG C K) Q:=
 aJ (ap4 h) (hK _ (aeb h))
theorem ayk{R':Type}[Inhabited R']{C:R'→Prop}{T:Bool}{K:R'→Option R}(hT:T=true)(h:∃r,C r)(hK:∀r,C r→Tot (K r) Q):Tot (avg C T K) Q:=
 aJ (by rw[ap4 h,hT];rfl) (hK _ (aeb h))
end
end Go.AM
end
noncomputable section
namespace Go.AM
set_option autoImplicit false
set_option linter.unusedVariables false
def bY{R:Type}(C:Nat→St→Option R)(Γ:aN)(n:Nat):IR→(Ex→St→Option R)→St→Option R
 | .skip,K,s=>K .normal s
 | .bad,_,_=>none
 | .reg ops _,K,s=>f7 Γ ops (K .normal) s
 | .seq a b,K,s=>bY C Γ n a (bg (bY C Γ n b) K) s
 | .cond c a b,K,s=>match c.ev s with
   | .bool t=>cond t (bY C Γ n a K (c.fix s true)) (bY C Γ n b K (c.fix s false))
   |_=>none
 | .block id a,K,s=>bY C Γ n a (aP id K) s
 | .loop live m a,K,s=>C (live.getLastD 0) (s.keep live m)
 | .cut live m a,K,s=>C (live.getLastD 0) (s.keep live m)
 | .gh g a,K,s=>match g.step s with
   |some (c,s')=>chk c (bY C Γ n a K s')
   |none=>none
 | .ghp g a,K,s=>bY C Γ n a (ave g K) s
 | .exit id,K,s=>K (.exit id) s
 | .ret,K,s=>K .ret s
def bR{R:Type}(Γ:aN)(n:Nat):IR→(Ex→St→Option R)→List (Nat×(St→Option R))
 | .seq a b,K=>bR Γ n a (bg (run Γ n b) K)++bR Γ n b K
 | .cond _ a b,K=>bR Γ n a K++bR Γ n b K
 | .block id a,K=>bR Γ n a (aP id K)
 | .loop live m a,K=>[(live.getLastD 0,fun s=>aX n (fun again s=>run Γ n a (bj again live m K) s) s)]
 | .cut live m a,K=>[(live.getLastD 0,fun s=>run Γ n a K s)]
 | .gh g a,K=>bR Γ n a K
 | .ghp g a,K=>bR Γ n a (ave g K)
 |_,_=>[]
theorem arK{R:Type}{C:Nat→St→Option R}{Γ:aN}{n:Nat}:∀(ir:IR)(K:Ex→St→Option R),(∀p∈bR Γ n ir K,C p.1=p.2)→∀s,bY C Γ n ir K s=run Γ n ir K s:=by
 intro ir
 induction ir with
 |seq a b iha ihb=>
  intro K h s
  have e:bg (bY C Γ n b) K=bg (run Γ n b) K:=by
   funext e s
   cases e with
   |normal=>exact ihb K (fun p hp=>h p (List.mem_append_right _ hp)) s
   |_=>rfl
  show bY C Γ n a (bg (bY C Γ n b) K) s=run Γ n a (bg (run Γ n b) K) s
  rw[e]
  exact iha _ (fun p hp=>h p (List.mem_append_left _ hp)) s
 |cond c a b iha ihb=>
  intro K h s
  simp only[bY,run,iha K (fun p hp=>h p (List.mem_append_left _ hp)),ihb K (fun p hp=>h p (List.mem_append_right _ hp))]
  cases c.ev s<;>rfl
 |block id a iha=>intro K h s;exact iha _ h s
 |loop live m a iha=>
  intro K h s
  have:=h (live.getLastD 0,_) (List.mem_singleton.2 rfl)
  simp only[bY,run]
  rw[this]
 |cut live m a iha=>
  intro K h s
  have:=h (live.getLastD 0,_) (List.mem_singleton.2 rfl)
  simp only[bY,run]
  rw[this]
 |gh g a iha=>
  intro K h s
  simp only[bY,run,iha K h]
  cases g.step s<;>rfl
 |ghp g a iha=>intro K h s;exact iha _ h s
 |_=>intro K h s;rfl
def eZ{R:Type}:List (Nat×(St→Option R))→Nat→St→Option R
 | [],_=>fun _=>none
 |(j,f)::l,i=>cond (Nat.beq j i) f (eZ l i)
def aiP:List Nat→Bool
 | []=>true
 |i::l=> !(l.any (Nat.beq i))&&aiP l
theorem aY{R:Type}:∀{l:List (Nat×(St→Option R))},aiP (l.map Prod.fst)=true→∀p∈l,eZ l p.1=p.2
 | [],_,p,hp=>by simp at hp
 |(j,f)::l,h,p,hp=>by
  simp only[List.map_cons,aiP,Bool.and_eq_true,Bool.not_eq_true',List.any_eq_false] at h
  rcases List.mem_cons.1 hp with rfl|hp
  ·simp[eZ]
  ·have hne:Nat.beq j p.1=false:=by
    cases hb:Nat.beq j p.1 with
    |false=>rfl
    |true=>
     have:=h.1 p.1 (List.mem_map.2 ⟨p,hp,rfl⟩)
     exact absurd hb this
   simp only[eZ,hne,cond_false]
   exact aY h.2 p hp
theorem fL{R:Type}{C:Nat→St→Option R}{Γ:aN}{n:Nat}{b:IR}{K K':Ex→St→Option R}(h:∀p∈bR Γ n b K,C p.1=p.2)(e:K'=K):bg (bY C Γ n b) K'=bg (run Γ n b) K:=by
 subst e
 funext e s
 cases e with
 |normal=>exact arK b K' h s
 |_=>rfl
theorem cD{R:Type}{i:Nat}{K K':Ex→St→Option R}(e:K'=K):aP i K'=aP i K:=by rw[e]
theorem jd{R:Type}{again:St→Option R}{live:List Nat}{m:Nat}{K K':Ex→St→Option R}(e:K'=K):bj again live m K'=bj again live m K:=by rw[e]
theorem bS{R:Type}{C:Nat→St→Option R}{l l':List (Nat×(St→Option R))}(h:∀p∈l++l',C p.1=p.2):∀p∈l,C p.1=p.2:=fun p hp=>h p (List.mem_append_left _ hp)
theorem dP{R:Type}{C:Nat→St→Option R}{l l':List (Nat×(St→Option R))}(h:∀p∈l++l',C p.1=p.2):∀p∈l',C p.1=p.2:=fun p hp=>h p (List.mem_append_right _ hp)
theorem cW{R:Type}{C:Nat→St→Option R}{Γ:aN}{n:Nat}{ir:IR}{K K':Ex→St→Option R}(h:∀p∈bR Γ n ir K,C p.1=p.2)(e:K'=K)(s:St):run Γ n ir K s=bY C Γ n ir K' s:=by
 subst e
 exact(arK ir K' h s).symm
abbrev Ro:=Option (V×List aK)
abbrev Bs:=List UInt8
abbrev Bss:=List (List UInt8)
def U(n:Nat)(l:List V):List V:=List.replicate n .undef++l
def Pp(o:IOp):GOp:=⟨none,o,none⟩
def Mv(d x:Nat):GOp:=⟨none,.mov d (.t x),none⟩
def Fa(d o x:Nat):GOp:=⟨none,.fad d o (.t x),none⟩
def Ld(d n:Nat)(a:Bool)(x:Nat):GOp:=⟨none,.lde d n a (.t x),none⟩
def Pa(d c x:Nat):GOp:=⟨none,.pick d (.t c) (.t x) (.c (.bool false)),none⟩
def Po(d c x:Nat):GOp:=⟨none,.pick d (.t c) (.c (.bool true)) (.t x),none⟩
def Bi(d:Nat)(o:BinOp)(x y:Nat):GOp:=⟨none,.bin d o (.t x) (.t y),none⟩
def Bc(d:Nat)(o:BinOp)(x:Nat)(n:Int):GOp:=⟨none,.bin d o (.t x) (.c (.int .i64 n)),none⟩
def Ex_(d i x:Nat):GOp:=⟨none,.ext d i (.t x),none⟩
def Nk(d x:Nat):GOp:=⟨none,.nck (some d) (.t x),none⟩
instance (n:Nat):OfNat aO n:=⟨.t n⟩
instance (n:Nat):OfNat (Option Nat) n:=⟨some n⟩
def Rg(l:List GOp):IR:=.reg l []
def Rs(l:List GOp)(a:IR):IR:=.seq (.reg l []) a
def Sq(a b:IR):IR:=.seq a b
def Cn(c:Nat)(a b:IR):IR:=.cond (.t c) a b
def Gt(g:Nat)(o:IOp):GOp:=⟨some (g,true),o,none⟩
def Gf(g:Nat)(o:IOp):GOp:=⟨some (g,false),o,none⟩
def Fo(r w:List Nat)(o:IOp):GOp:=⟨none,o,some (r,w)⟩
def Mi(d:Nat)(n:Int):GOp:=⟨none,.mov d (.c (.int .i64 n)),none⟩
def Ms(d:Nat)(s:List UInt8):GOp:=⟨none,.mov d (.c (.str s)),none⟩
def Mb(d:Nat)(b:Bool):GOp:=⟨none,.mov d (.c (.bool b)),none⟩
def Lq(d x:Nat):GOp:=⟨none,.lde d 1 false (.t x),none⟩
def Lo(d x:Nat):GOp:=⟨none,.ld d 1 false false (.t x),none⟩
def Ca(d f:Nat)(l:List aO):GOp:=⟨none,.call (some d) f l,none⟩
def Ix(d:Nat)(k:EK)(x i:Nat):GOp:=⟨none,.ixa d k (.t x) (.t i),none⟩
def Ll(d x:Nat):GOp:=⟨none,.lenl d (.t x),none⟩
def Un(d x:Nat):GOp:=⟨none,.un d .not (.t x),none⟩
def Bx(d x:Nat):GOp:=⟨none,.boxe d (.t x),none⟩
def Fz(r n v:Nat):GOp:=⟨none,.frz none r n (.t v),none⟩
def Sv(n x v:Nat):GOp:=⟨none,.st none n (.t x) (.t v),none⟩
def Sk(n x v:Nat):GOp:=⟨none,.st none n (.t x) (.tk v),none⟩
def kI(n:Int):aO:=.c (.int .i64 n)
def kU(n:Int):aO:=.c (.int .u64 n)
def kS(s:List UInt8):aO:=.c (.str s)
def kB(b:Bool):aO:=.c (.bool b)
def vI(n:Int):V:=.int .i64 n
def vU(n:Int):V:=.int .u64 n
def vS:V:=.str []
def nl(k:EK):V:=.sl k .own []
def fu(k:EK)(b:Bool):V:=.sl k (.may b) []
def rg(a b:Nat):List Nat:=List.range' a (b+1-a)
theorem bo{Γ:aN}{N n:Nat}{rs:List RV}{ir:IR}{vs:List V}{hp:List aK}(l:List (Nat×(St→Ro)))(hl:aiP (l.map Prod.fst)=true)(e:l=bR Γ N ir (fin rs)++[])
  (S:(Nat→St→Ro)→Ro) (hS:∀C,bY C Γ N ir (fin rs) (AM.start n vs hp)=S C):nO Γ N n rs ir vs hp=S (eZ l):=by
 refine Eq.trans ?_ (hS _)
 exact(arK ir (fin rs) (fun p hp=>aY hl p (by rw[e];exact List.mem_append_left _ hp)) _).symm
section
variable{P:Program}
theorem am9{f:FuncId}{vs:List V}{a v:V}{R:Type}[Inhabited R]{C:R→Prop}(h:some (can C,a)=some (true,v))(k:C (pick C)→aV P f vs a)(hf:vs.all V.flat=true)(hv:a.flat=true):
  aV P f vs v∧vs.all V.flat=true∧v.flat=true:=by
 simp only[Option.some.injEq,Prod.mk.injEq] at h
 obtain⟨hc,rfl⟩:=h
 exact⟨k (aad hc),hf,hv⟩
theorem ana{f:FuncId}{vs:List V}{a v:V}{css cs cs':List (List V)}{R:Type}[Inhabited R]{C:R→Prop}(h:some (can C,a,cs)=some (true,v,cs'))(k:C (pick C)→b7 P f vs css a cs):b7 P f vs css v cs':=by
 simp only[Option.some.injEq,Prod.mk.injEq] at h
 obtain⟨hc,rfl,rfl⟩:=h
 exact k (aad hc)
theorem anb{f:FuncId}{vs cs cs':List V}{R:Type}[Inhabited R]{C:R→Prop}(h:some (can C,cs)=some (true,cs'))(k:C (pick C)→yM P f vs cs):yM P f vs cs':=by
 simp only[Option.some.injEq,Prod.mk.injEq] at h
 obtain⟨hc,rfl⟩:=h
 exact k (aad hc)
end
structure bA(P:Program) where
 id:Nat
 t:List V→Option (Bool×V)
 ok:∀vs v,t vs=some (true,v)→aV P id vs v∧vs.all V.flat=true∧v.flat=true:=by (intro _ _ h;split at h;(first|exact am9 h (fun h=>h.1.dim rfl) rfl rfl|exact am9 h (fun h=>h.dim rfl) rfl rfl|exact am9 h (fun h=>h.1) rfl rfl|exact am9 h (fun h=>h) rfl rfl);cases h)
structure gp(P:Program) where
 id:Nat
 t:List V→List (List V)→Option (Bool×V×List (List V))
 ok:∀us css v css',t us css=some (true,v,css')→b7 P id us css v css':=by (intro _ _ _ _ h;split at h;(first|exact ana h (fun h=>h.1.dim rfl)|exact ana h (fun h=>h.dim rfl)|exact ana h (fun h=>h.1)|exact ana h (fun h=>h));cases h)
structure aiQ(P:Program) where
 id:Nat
 t:List V→Option (Bool×List V)
 ok:∀us cs,t us=some (true,cs)→yM P id us cs:=by (intro _ _ h;split at h;(first|exact anb h (fun h=>h.1.dim rfl)|exact anb h (fun h=>h.dim rfl)|exact anb h (fun h=>h.1)|exact anb h (fun h=>h));cases h)
section
variable{P:Program}
def agG:List (bA P)→Nat→List V→Option (Bool×V)
 | [],_,_=>none
 |r::l,f,vs=>cond (Nat.beq r.id f) (r.t vs) (agG l f vs)
def aoH:List (gp P)→ap1
 | [],_,_,_=>none
 |r::l,f,us,css=>cond (Nat.beq r.id f) (r.t us css) (aoH l f us css)
def aoI:List (aiQ P)→avf
 | [],_,_=>none
 |r::l,f,us=>cond (Nat.beq r.id f) (r.t us) (aoI l f us)
theorem arL:∀(l:List (bA P)) f vs v,agG l f vs=some (true,v)→aV P f vs v∧vs.all V.flat=true∧v.flat=true
 | [],_,_,_,h=>by simp[agG] at h
 |r::l,f,vs,v,h=>by
  unfold agG at h
  cases hb:Nat.beq r.id f with
  |true=>
   rw[hb] at h
   have e:r.id=f:=Nat.eq_of_beq_eq_true hb
   subst e
   exact r.ok vs v h
  |false=>rw[hb] at h;exact arL l f vs v h
theorem ayl:∀(l:List (gp P)) f us css v css',aoH l f us css=some (true,v,css')→b7 P f us css v css'
 | [],_,_,_,_,_,h=>by simp[aoH] at h
 |r::l,f,us,css,v,css',h=>by
  unfold aoH at h
  cases hb:Nat.beq r.id f with
  |true=>
   rw[hb] at h
   have e:r.id=f:=Nat.eq_of_beq_eq_true hb
   subst e
   exact r.ok _ _ _ _ h
  |false=>rw[hb] at h;exact ayl l f us css v css' h
theorem aym:∀(l:List (aiQ P)) f us cs,aoI l f us=some (true,cs)→yM P f us cs
 | [],_,_,_,h=>by simp[aoI] at h
 |r::l,f,us,cs,h=>by
  unfold aoI at h
  cases hb:Nat.beq r.id f with
  |true=>
   rw[hb] at h
   have e:r.id=f:=Nat.eq_of_beq_eq_true hb
   subst e
   exact r.ok _ _ h
  |false=>rw[hb] at h;exact aym l f us cs h
theorem atp:∀(l:List (gp P)) f us css,(∀r∈l,r.id≠f)→aoH l f us css=none
 | [],_,_,_,_=>rfl
 |r::l,f,us,css,h=>by
  unfold aoH
  have hb:Nat.beq r.id f=false:=by
   cases hb:Nat.beq r.id f with
   |true=>exact absurd (Nat.eq_of_beq_eq_true hb) (h r (by simp))
   |false=>rfl
  rw[hb]
  exact atp l f us css fun r hr=>h r (by simp[hr])
theorem alC:∀(l:List (aiQ P)) f us,(∀r∈l,r.id≠f)→aoI l f us=none
 | [],_,_,_=>rfl
 |r::l,f,us,h=>by
  unfold aoI
  have hb:Nat.beq r.id f=false:=by
   cases hb:Nat.beq r.id f with
   |true=>exact absurd (Nat.eq_of_beq_eq_true hb) (h r (by simp))
   |false=>rfl
  rw[hb]
  exact alC l f us fun r hr=>h r (by simp[hr])
theorem aiR(l:List (bA P)):dR P (w7 (agG l)):=by
 intro f vs hp v hp' h0
 obtain⟨h,e⟩:=afU h0
 subst e
 obtain⟨h1,h2,h3⟩:=arL l f vs v h
 exact h1.frame h2 h3 _
def tab(N:List (aiQ P))(O:List (gp P))(ls:List Nat)(G:List (bA P)):aN:=afW (aoI N) (yd (aoH O) (aac ls (agG G) (w7 (agG G))))
theorem aCp(N:List (aiQ P))(O:List (gp P))(ls:List Nat)(G:List (bA P)):dR P (tab N O ls G):=
 aAL (aym N) (azI (ayl O) (aAJ (fun f vs v h=>(arL G f vs v h).1) (aiR G)))
def aAP(N:List (aiQ P))(O:List (gp P))(ls imp:List Nat):Bool:=
 N.all (fun r=>imp.contains r.id&& !imp.contains (r.id+2000000))&&O.all (fun r=>imp.contains r.id)&&(ls++imp.filter (fun x=> !Nat.blt x 2000000)).all (fun x=>imp.contains x)
theorem aAQ{N:List (aiQ P)}{O:List (gp P)}{ls:List Nat}{G:List (bA P)}{imp:List Nat}(h:aAP N O ls imp=true):ep (tab N O ls G) imp:=by
 simp only[aAP,Bool.and_eq_true,List.all_eq_true,Bool.not_eq_true'] at h
 obtain⟨⟨h1,h2⟩,h3⟩:=h
 refine ayQ (fun f us hf=>alC N f us ?_) (fun f us hf=>alC N f us ?_) (axr (fun f us css hf=>atp O f us css ?_) (ayP (sH _ _) (List.all_eq_true.2 h3) ?_))
 ·rintro r hr rfl
  rw[(h1 r hr).1] at hf
  cases hf
 ·rintro r hr rfl
  rw[(h1 r hr).2] at hf
  cases hf
 ·rintro r hr rfl
  rw[h2 r hr] at hf
  cases hf
 ·refine List.all_eq_true.2 fun x hx=>?_
  cases hb:Nat.blt x 2000000 with
  |true=>rfl
  |false=>
   simp only[Bool.false_or]
   rw[List.contains_iff_mem]
   exact List.mem_filter.2 ⟨hx,by simp[hb]⟩
end
structure FnC(P:Program)(Γ:aN)(imp:List Nat)(k:Nat)(f:FuncId)(fn:Func)(ir:IR)(rs:List RV):Prop where
 spec:dR P Γ
 imps:ep Γ imp
 func:P.funcs[f]? =some fn
 body:fn.body=some (fn.body.getD .skip)
 chk:(dD P imp k ir (fn.body.getD .skip)&&aaa P rs fn.results.toList)=true
 small:fn.results.toList.length≤5
section
variable{P:Program}{Γ:aN}{imp:List Nat}{k n:Nat}{f:FuncId}{fn:Func}{ir:IR}{rs:List RV}{vs:List V}{x:Ro}
theorem FnC.fnOK(h:FnC P Γ imp k f fn ir rs){hp hp':List aK}{v:V}(hk:hp.length=k)(hr:nO Γ n fn.ntmps rs ir vs hp=some (v,hp')):iX P f vs hp v hp':=by
 subst hk
 have hc:=h.chk
 simp only[Bool.and_eq_true] at hc
 exact ayh h.spec h.imps h.func h.body hc.1 hc.2 h.small hr
theorem FnC.pure(h:FnC P Γ imp 0 f fn ir rs)(hr:nO Γ n fn.ntmps rs ir vs []=x){v:V}{hp':List aK}(hz:x=some (v,hp')):aV P f vs v:=⟨hp',h.fnOK rfl (hr.trans hz)⟩
theorem FnC.newFn(h:FnC P Γ imp 0 f fn ir rs)(hr:nO Γ n fn.ntmps rs ir vs []=x){cs:List V}(hz:x=some (.ptr 0 0,[some cs])):yM P f vs cs:=h.fnOK rfl (hr.trans hz)
theorem FnC.objs{css css':List (List V)}{rest:List aK}(h:FnC P Γ imp css.length f fn ir rs)(hr:nO Γ n fn.ntmps rs ir vs (css.map some)=x){v:V}(hz:x=some (v,css'.map some++rest))(hl:css'.length=css.length):
  b7 P f vs css v css':=⟨hl,rest,h.fnOK (by simp) (hr.trans hz)⟩
section
variable{N:Nat}{R:Type}{ret:R→V}{p:R→Prop}{Q:V×List aK→Prop}
theorem FnC.finP(h:FnC P Γ imp 0 f fn ir rs)(hr:nO Γ N fn.ntmps rs ir vs []=x)(hx:Tot x Q)(k:∀z,Q z→∃r,z.1.dimR=ret r∧p r):∃r,aV P f vs (ret r)∧p r:=by
 obtain⟨z,hz,hq⟩:=hx
 obtain⟨r,e,hp⟩:=k z hq
 exact⟨r,(h.pure hr hz).dimR e,hp⟩
theorem FnC.finP0(h:FnC P Γ imp 0 f fn ir rs)(hr:nO Γ N fn.ntmps rs ir vs []=x)(hx:Tot x Q)(k:∀z,Q z→∃r,z.1.dimR=ret r):∃r,aV P f vs (ret r):=by
 obtain⟨z,hz,hq⟩:=hx
 obtain⟨r,e⟩:=k z hq
 exact⟨r,(h.pure hr hz).dimR e⟩
variable{css:List (List V)}{css':R→List (List V)}
theorem FnC.finO(h:FnC P Γ imp css.length f fn ir rs)(hr:nO Γ N fn.ntmps rs ir vs (css.map some)=x)(hx:Tot x Q)(k:∀z,Q z→∃r,z.1.dimR=ret r∧(∃rest,z.2=(css' r).map some++rest)∧p r)(hl:∀r,(css' r).length=css.length:=by exact fun _=>rfl):
  ∃r,b7 P f vs css (ret r) (css' r)∧p r:=by
 obtain⟨⟨v,hp⟩,hz,hq⟩:=hx
 obtain⟨r,e,⟨rest,e2⟩,hp⟩:=k _ hq
 simp only at e2
 subst e2
 exact⟨r,(h.objs hr hz (hl r)).dimR e,hp⟩
end
abbrev LB{α R:Type}(F:(St→Option R)→St→Option R)(mk:α→St)(B:(α→Option R)→α→Option R):Prop:=∀again x,F again (mk x)=B (fun y=>again (mk y)) x
abbrev LJ{α R:Type}(F:St→Option R)(mk:α→St)(J:α→Option R):Prop:=∀x,F (mk x)=J x
theorem fnC{N:List (aiQ P)}{O:List (gp P)}{ls:List Nat}{G:List (bA P)}(func:P.funcs[f]? =some fn)(h:aAP N O ls imp=true:=by kernel_rfl)(body:fn.body=some (fn.body.getD .skip):=by kernel_rfl)
  (chk:(dD P imp k ir (fn.body.getD .skip)&&aaa P rs fn.results.toList)=true:=by kernel_rfl) (small:fn.results.toList.length≤5:=by decide):FnC P (tab N O ls G) imp k f fn ir rs:=⟨aCp N O ls G,aAQ h,func,body,chk,small⟩
end
end Go.AM
end
noncomputable section
namespace Go.Proofs.Ytdpajabhmmmjoaa
open Go.AM
set_option autoImplicit false
set_option linter.unusedVariables false
def gly(r:Nat):List UInt8:=
 if r<128 then [UInt8.ofNat r]
 else if r<2048 then [UInt8.ofNat (192+r / 64),UInt8.ofNat (128+r%64)]
 else if (55296≤r∧r<57344)∨1114111<r then [239,191,189]
 else if r<65536 then [UInt8.ofNat (224+r / 4096),UInt8.ofNat (128+r / 64%64),UInt8.ofNat (128+r%64)]
 else [UInt8.ofNat (240+r / 262144),UInt8.ofNat (128+r / 4096%64),UInt8.ofNat (128+r / 64%64),UInt8.ofNat (128+r%64)]
def mA(n v:Nat)(s:List UInt8):Nat×Nat:=
 if s.length<n then (0,0)
 else
  let r:=(s.take n).tail.foldl (fun a b=>a*64+b.toNat%64) v
  if gly r=s.take n then (r,n) else (0,0)
def md(s:List UInt8):Nat×Nat:=
 match s with
 | []=>(0,0)
 |c::_=>
  if c.toNat<128 then (c.toNat,1)
  else if c.toNat / 32=6 then mA 2 (c.toNat%32) s
  else if c.toNat / 16=14 then mA 3 (c.toNat%16) s
  else if c.toNat / 8=30 then mA 4 (c.toNat%8) s
  else (0,0)
def ye(s:List UInt8):Int×Int:=(((md s).1 :Int),((md s).2 :Int))
def aen:Nat→List UInt8→Bool
 |_,[]=>true
 |0,_::_=>false
 |k+1,c::s=>if (md (c::s)).2 =0 then false else aen k ((c::s).drop (md (c::s)).2)
def iB(s:List UInt8):Bool:=aen s.length s
end Go.Proofs.Ytdpajabhmmmjoaa
end
noncomputable section
namespace Go.Proofs.Ytdpajabhmmmjoaa
open Go.AM
set_option autoImplicit false
set_option linter.unusedVariables false
def isT(ts:List aA)(t:Int):Bool:=decide (0≤t)&&decide (t<(ts.length:Int))
def dE(n:Int)(s:List UInt8)(l:List aH)(ks:List (List UInt8))(b:Int):Bool:=
 (n==0)&&(decide (s=([]:List UInt8))&&(((l.length:Int)==0)&&(((ks.length:Int)==0)&&(b==0))))
def vV(kind:Int)(syms:List (List UInt8))(n:Int):Bool:=
 cond (kind==2) (decide (0≤n)&&decide (n≤1)) (
  cond (kind==3) (n==IntKind.wrap .u64 (IntKind.wrap .i64 (IntKind.wrap .i32 (IntKind.wrap .u32 n)))) (
   cond (kind==5) (nM .u64 n 32==0) (
    cond (kind==10) (decide (0≤n)&&decide (n<IntKind.wrap .u64 (syms.length:Int))) (decide (0≤n)&&decide (n≤18446744073709551615)))))
def ap6(kind size:Int)(s:List UInt8):Bool:=
 cond (kind==8) (iB s) (cond (kind==11) ((s.length:Int)==size) true)
def sI(p:List UInt8):List (List UInt8)→Bool
 | []=>true
 |k::l=>iB k&&(Op.bytesLess p k&&sI k l)
def je:List (List UInt8)→Bool
 | []=>true
 |k::l=>iB k&&sI k l
mutual
def szV:aH→Nat
 | .mk _ _ l _ _=>szL l+1
def szL:List aH→Nat
 | []=>0
 |v::l=>szV v+szL l
end
mutual
def bm(ts:List aA)(t:Int):aH→Bool
 | .mk n s l ks b=>isT ts t&&(
   let k:=ts.getD t.toNat (aB .atype)
   cond (k.kind==1) (dE n s l ks b) (
   cond (k.kind==2||(k.kind==3||(k.kind==4||(k.kind==5||(k.kind==6||k.kind==10))))) (vV k.kind k.syms n&&dE 0 s l ks b) (
   cond (k.kind==7||(k.kind==8||k.kind==11)) (ap6 k.kind k.size s&&dE n [] l ks b) (
   cond (k.kind==12) (bV ts k.items l&&dE n s [] ks b) (
   cond (k.kind==13) ((((ks.length:Int)==(l.length:Int))&&(je ks&&bV ts k.items l))&&dE n s [] [] b) (
   cond (k.kind==9) ((decide (l.length=k.fields.length)&&oQ ts k.fields l)&&dE n s [] ks b) (
   cond (k.kind==14) ((decide (0≤b)&&(decide (b<(k.branches.length:Int))&&(((l.length:Int)==1)&&bV ts (k.branches.getD b.toNat 0) l)))&&dE n s [] ks 0)
   false)))))))
def bV(ts:List aA)(t:Int):List aH→Bool
 | []=>true
 |v::l=>bm ts t v&&bV ts t l
def oQ(ts:List aA)(fs:List aM):List aH→Bool
 | []=>true
 |v::l=>bm ts ((fs.headD (aB .afield)).typ) v&&oQ ts fs.tail l
end
def rp:List (List UInt8)→Nat
 | []=>0
 |k::l=>k.length+10+rp l
mutual
def wV:aH→Nat
 | .mk _ s l ks _=>40+s.length+rp ks+wL l
def wL:List aH→Nat
 | []=>0
 |v::l=>wV v+wL l
end
end Go.Proofs.Ytdpajabhmmmjoaa
end
noncomputable section
namespace Go.Proofs.Ytdpajabhmmmjoaa
open Go.AM
set_option autoImplicit false
set_option linter.unusedVariables false
inductive dq(b:Nat):aD→Prop where
 |mk (k n:Int) (s:List UInt8) (l:List aD) (names:List (List UInt8)) (h1:s.length≤100) (h2:l.length≤b) (h3:names.length≤l.length)
   (h4:∀x∈names,x.length≤100) (h5:k=6→names.length=l.length) (h6:∀c∈l,dq b c):dq b (.mk k n s l names)
abbrev bp:aD→Prop:=dq 8
abbrev sJ:aD→Prop:=dq 7
structure gu(m:Nat)(t:aA):Prop where
 items:0≤t.items∧t.items<m
 fields:∀f∈t.fields,0≤f.typ∧f.typ<m∧bp f.df
 nf:t.fields.length≤8
 branches:∀b∈t.branches,0≤b∧b<(m:Int)
 nb:t.branches.length≤100
 ns:t.syms.length≤100
 size:0≤t.size∧t.size≤5000
 done:t.kind=14→t.branches≠[]
 kind:1≤t.kind∧t.kind≤14
 enum:t.kind=10→t.syms≠[]
 only:t.kind≠9→t.fields=[]
 na:t.aliases.length≤100
 fal:∀f∈t.fields,f.aliases.length≤100
 edef:t.hasdef=true→t.df∈t.syms
def cw(ts:List aA):Prop:=(0<ts.length∧ts.length≤60)∧∀t∈ts,gu ts.length t
structure bF(ts:List aA)(e:Int)(ts':List aA)(e':Int):Prop where
 len:ts.length≤ts'.length
 cap:ts'.length≤60
 err:e'=0→e=0
 old:e'=0→∀i,i<ts.length→ts'[i]? =ts[i]?
 new:e'=0→∀(i:Nat) t,ts.length≤i→ts'[i]? =some t→gu ts'.length t
def eA(l:List UInt8)(n:Int):Prop:=0≤n∧n≤l.length∧l.length≤1000
def oR:List (List UInt8)→List aD→List UInt8→Option aD
 |x::ns,c::l,name=>if x=name then some c else oR ns l name
 |_,_,_=>none
def vW:Nat→Nat
 |0=>1
 |k+1=>1+4*vW k
def cE(l:List (List UInt8)):Prop:=∀x∈l,x.length≤100
def aa4(l:List UInt8)(n m:Int)(r:Int×List UInt8×Int):Prop:=0≤r.1∧r.1<m∧r.2.1=l∧eA l r.2.2
def aae(l:List UInt8)(n:Int)(r:Bool×List UInt8×Int):Prop:=r.2.1=l∧r.2.2=n
def ahh(l:List UInt8)(r:List UInt8×Int):Prop:=r=(l,0)
def ahi(s:List UInt8)(r:Int×Int×List UInt8×List aD×List (List UInt8)):Prop:=r=(4,0,s,[],[])
def afX(f0:Bool)(names:List (List UInt8))(f1:Bool)(l:List aD)(r:Int×Int×List UInt8×Bool×List aD×Bool×List (List UInt8)):Prop:=r=(6,0,[],f1,l,f0,names)
def aaf(o:Option aD):Int×Int×List UInt8×List aD×List (List UInt8)×Bool:=match o with
 |some c=>(c.kind,c.n,c.s,c.l,c.names,true)
 |none=>(0,0,[],[],[],false)
def yN(k n:Int)(s:List UInt8)(l:List aD)(names:List (List UInt8))(name:List UInt8)(r:Int×Int×List UInt8×List aD×List (List UInt8)×Bool):Prop:=r=aaf (oR names l name)
def dg(k n:Int)(s:List UInt8)(l:List aD)(names:List (List UInt8))(name:List UInt8)(r:Int×Int×List UInt8×List aD×List (List UInt8)×Bool):Prop:=r=aaf (if k=6 then oR names l name else none)
def aBj(a:List UInt8)(r:Int×Int×List UInt8×List aD×List (List UInt8)×List UInt8×Int):Prop:=
 sJ (.mk r.1 r.2.1 r.2.2.1 r.2.2.2.1 r.2.2.2.2.1)∧r.2.2.2.2.2.1=a∧eA a r.2.2.2.2.2.2
def ayR(k:Nat)(a:List UInt8)(ns:List (List UInt8))(r:Int×Int×List UInt8×List aD×List (List UInt8)×List UInt8×Int×List (List UInt8)):Prop:=
 sJ (.mk r.1 r.2.1 r.2.2.1 r.2.2.2.1 r.2.2.2.2.1)∧r.2.2.2.2.2.1=a∧eA a r.2.2.2.2.2.2.1∧cE r.2.2.2.2.2.2.2∧r.2.2.2.2.2.2.2.length≤ns.length+vW k
def gq(a:List UInt8)(n:Int)(ns:List (List UInt8))(deep:Int)(r:Int×Int×List UInt8×List aD×List (List UInt8)×List UInt8×Int×List (List UInt8)):Prop:=ayR (5-deep.toNat) a ns r
def zD(a:List UInt8)(n:Int)(ns:List (List UInt8))(deep:Int)(r:Int×Int×List UInt8×List aD×List (List UInt8)×List UInt8×Int×List (List UInt8)):Prop:=ayR (5-deep.toNat) a ns r
def yf(a:List UInt8)(n:Int)(ns:List (List UInt8))(name:List UInt8)(deep:Int)(r:Int×Int×List UInt8×List aD×List (List UInt8)×List UInt8×Int×List (List UInt8)):Prop:=
 ayR (5-deep.toNat) a ns r∧r.2.2.2.2.2.2.2.length+1≤ns.length+vW (5-deep.toNat)
def gv(a:List UInt8)(n c0 c1:Int)(c2:List UInt8)(c3:List aD)(c4:List (List UInt8))(r:Int×Int×List UInt8×List aD×List (List UInt8)×List UInt8×Int):Prop:=aBj a r
def yg(a:List UInt8)(n:Int)(r:Int×Int×List UInt8×List aD×List (List UInt8)×List UInt8×Int):Prop:=aBj a r
def mB(ts:List aA)(e c:Int)(r:Int×List aA×Int):Prop:=r=(0,ts,if e=0 then c else e)
def nR(ts:List aA)(e a0:Int)(a1:List UInt8)(a2:List (List UInt8))(a3:Int)(a4:List (List UInt8))(a5:Bool)(a6:List UInt8)(a7:Int)(a8:List aM)(a9:List Int)(r:Int×List aA×Int):Prop:=
 r=if 60≤ts.length then (0,ts,if e=0 then 3 else e) else ((ts.length:Int),ts++[⟨a0,a1,a2,a3,a4,a5,a6,a7,a8,a9⟩],e)
def zE(ts:List aA)(e:Int)(s:List UInt8)(r:Int×Bool×List aA×Int):Prop:=r.2.2=(ts,e)∧(r.2.1=true→0≤r.1∧r.1<ts.length)
def rq(ts:List aA)(e:Int)(s space:List UInt8)(r:Int×List aA×Int):Prop:=bF ts e r.2.1 r.2.2∧(r.2.2=0→0≤r.1∧r.1<r.2.1.length)
def fR(ts:List aA)(e c0 c1:Int)(c2:List UInt8)(c3:List aD)(c4:List (List UInt8))(space:List UInt8)(deep:Int)(r:Int×List aA×Int):Prop:=bF ts e r.2.1 r.2.2∧(r.2.2=0→0≤r.1∧r.1<r.2.1.length)
def yh(ts:List aA)(e c0 c1:Int)(c2:List UInt8)(c3:List aD)(c4:List (List UInt8))(space:List UInt8)(deep:Int)(r:Int×List aA×Int):Prop:=bF ts e r.2.1 r.2.2∧(r.2.2=0→0≤r.1∧r.1<r.2.1.length)
def gV(ts:List aA)(e c0 c1:Int)(c2:List UInt8)(c3:List aD)(c4:List (List UInt8))(k:Int)(space:List UInt8)(deep:Int)(r:Int×List aA×Int):Prop:=bF ts e r.2.1 r.2.2∧(r.2.2=0→0≤r.1∧r.1<r.2.1.length)
def zF(ts:List aA)(e c0 c1:Int)(c2:List UInt8)(c3:List aD)(c4:List (List UInt8))(name:List UInt8)(must:Bool)(r:List UInt8×List aA×Int):Prop:=r.1.length≤100∧r.2.1=ts∧(r.2.2=0→e=0)
def yi(ts:List aA)(e:Int)(name space:List UInt8)(r:List UInt8×List aA×Int):Prop:=r.1.length≤name.length+space.length+1∧r.2.1=ts∧(r.2.2=0→e=0)
def qk(ts:List aA)(e c0 c1:Int)(c2:List UInt8)(c3:List aD)(c4:List (List UInt8))(name:List UInt8)(r:List (List UInt8)×Bool×List aA×Int):Prop:=r.1.length≤100∧cE r.1∧r.2.2.1=ts∧(r.2.2.2=0→e=0)
def eB(ts:List aA)(e c0 c1:Int)(c2:List UInt8)(c3:List aD)(c4:List (List UInt8))(at_:Int)(r:List aA×Int):Prop:=
 (r.2=0→e=0)∧(r.2≠0→r.1=ts)∧(r.2=0→∃l h d,l≠[]∧l.length≤100∧(h=true→d∈l)∧∃t,ts[at_.toNat]? =some t∧r.1=ts.set at_.toNat {t with syms:=l,hasdef:=h,df:=d})
def eS(ts:List aA)(e c0 c1:Int)(c2:List UInt8)(c3:List aD)(c4:List (List UInt8))(at_:Int)(space:List UInt8)(deep:Int)(r:List aA×Int):Prop:=
 ∃ts2,bF ts e ts2 r.2∧(r.1=ts2∨∃l:List aM,l.length≤8∧(∀f∈l,0≤f.typ∧f.typ<ts2.length∧bp f.df)∧(∀f∈l,f.aliases.length≤100)∧∃t,ts2[at_.toNat]? =some t∧r.1=ts2.set at_.toNat {t with fields:=l})
def ap7:List (List UInt8):=[[110,117,108,108],[98,111,111,108,101,97,110],[105,110,116],[108,111,110,103],[102,108,111,97,116],[100,111,117,98,108,101],[98,121,116,101,115],[115,116,114,105,110,103],[114,101,99,111,114,100],[101,110,117,109],[102,105,120,101,100],[97,114,114,97,121],[109,97,112],[117,110,105,111,110]]
def afY(s:List UInt8)(r:Int):Prop:=0≤r∧r≤14∧(r=14→s=[117,110,105,111,110])∧(r=0→∀i<14,ap7.getD i []≠s)∧(r=10→s=[101,110,117,109])
def nt(s r:List UInt8):Prop:=r.length≤s.length
def xb(a b r:List UInt8):Prop:=r.length≤a.length+b.length+1
def afZ(c0 c1:Int)(c2:List UInt8)(c3:List aD)(c4:List (List UInt8))(r:List aA×Int):Prop:=r.2=0→cw r.1
def aeo(ts:List aA)(kind items:Int)(fields:List aM)(branches:List Int)(l:List aH)(ks:List (List UInt8))(b:Int):Bool:=
 cond (kind==9) (decide (l.length=fields.length)&&oQ ts fields l) (
 cond (kind==13) (((ks.length:Int)==(l.length:Int))&&(je ks&&bV ts items l)) (
 cond (kind==14) (decide (0≤b)&&(decide (b<(branches.length:Int))&&(((l.length:Int)==1)&&bV ts (branches.getD b.toNat 0) l))) (
 bV ts items l)))
def uI(ts:List aA)(t n:Int)(s:List UInt8)(l:List aH)(ks:List (List UInt8))(b:Int)(r:Bool):Prop:=r=bm ts t (.mk n s l ks b)
def dV(ts:List aA)(k0:Int)(k1:List UInt8)(k2:List (List UInt8))(k3:Int)(k4:List (List UInt8))(k5:Bool)(k6:List UInt8)(k7:Int)(k8:List aM)(k9:List Int)(n:Int)(s:List UInt8)(l:List aH)(ks:List (List UInt8))(b:Int)(r:Bool):Prop:=r=aeo ts k0 k3 k8 k9 l ks b
def aag(s:List UInt8)(r:Bool):Prop:=r=iB s
def yO(ts:List aA)(t:Int)(r:Bool):Prop:=r=isT ts t
def aAR(n:Int)(s:List UInt8)(l:List aH)(ks:List (List UInt8))(b:Int)(key:List UInt8)(w:aH)(r:Int×List UInt8×List aH×List (List UInt8)×Int):Prop:=
 r.1=n∧r.2.1=s∧r.2.2.2.2=b∧wL r.2.2.1≤wL l+wV w∧rp r.2.2.2.1≤rp ks+(key.length+10)∧(je ks=true→iB key=true→je r.2.2.2.1=true)∧
 (∀ts t,bV ts t l=true→bm ts t w=true→bV ts t r.2.2.1=true)∧((∀k∈ks,Op.bytesLess k key=true)→ks.length=l.length→r.2.2.1=l++[w]∧r.2.2.2.1=ks++[key])
def af0(s:List UInt8)(r:Int×Int):Prop:=r=ye s
def af1(s:List UInt8)(r:Int×Int):Prop:=r=ye s
def ahj(n:Int)(s:List UInt8)(l:List aH)(ks:List (List UInt8))(b:Int)(key:List UInt8)(w0:Int)(w1:List UInt8)(w2:List aH)(w3:List (List UInt8))(w4:Int)(r:Int×List UInt8×List aH×List (List UInt8)×Int):Prop:=
 r.2.2.2.1.length=r.2.2.1.length∧r.2.2.1.length≤l.length+1∧aAR n s l ks b key (.mk w0 w1 w2 w3 w4) r
def di(ts:List aA)(all t c0 c1:Int)(c2:List UInt8)(c3:List aD)(c4:List (List UInt8))(deep:Int)(r:Int×List UInt8×List aH×List (List UInt8)×Int×Int×List aA×Int):Prop:=r.2.2.2.2.2.2.1=ts
def xI(ts:List aA)(all k0:Int)(k1:List UInt8)(k2:List (List UInt8))(k3:Int)(k4:List (List UInt8))(k5:Bool)(k6:List UInt8)(k7:Int)(k8:List aM)(k9:List Int)(c0 c1:Int)(c2:List UInt8)(c3:List aD)(c4:List (List UInt8))(deep:Int)(r:Int×List UInt8×List aH×List (List UInt8)×Int×Int×List aA×Int):Prop:=r.2.2.2.2.2.2.1=ts
def vX(ts:List aA)(all k0:Int)(k1:List UInt8)(k2:List (List UInt8))(k3:Int)(k4:List (List UInt8))(k5:Bool)(k6:List UInt8)(k7:Int)(k8:List aM)(k9:List Int)(c0 c1:Int)(c2:List UInt8)(c3:List aD)(c4:List (List UInt8))(deep:Int)(r:Int×List UInt8×List aH×List (List UInt8)×Int×Int×List aA×Int):Prop:=r.2.2.2.2.2.2.1=ts
def okV(ts:List aA)(t c0 c1:Int)(c2:List UInt8)(c3:List aD)(c4:List (List UInt8)):Prop:=
 ∃r:Int×List UInt8×List aH×List (List UInt8)×Int×Int,r.2.2.2.2.2=0∧aV Try.prog 74 [.agg [.sl .atype (.may false) ts],.int .i64 t,.agg [.int .i64 c0,.int .i64 c1,.str c2,.sl .jnode (.may false) c3,.sl .str (.may false) c4]] (.tup [.agg [.int .u64 r.1,.str r.2.1,.sl .aval (.may false) r.2.2.1,.sl .str (.may false) r.2.2.2.1,.int .i64 r.2.2.2.2.1],.int .i64 r.2.2.2.2.2])
def aep(ts:List aA)(t c0 c1:Int)(c2:List UInt8)(c3:List aD)(c4:List (List UInt8))(r:Int×List UInt8×List aH×List (List UInt8)×Int×Int):Prop:=okV ts t c0 c1 c2 c3 c4→r.2.2.2.2.2=0
def rt(ts:List aA):Prop:=∀t∈ts,∀f∈t.fields,f.hasdef=true→okV ts f.typ f.df.kind f.df.n f.df.s f.df.l f.df.names
def aeq(ts:List aA)(r:Int×Int×Int):Prop:=r.1=0→rt ts
end Go.Proofs.Ytdpajabhmmmjoaa
end
noncomputable section
namespace Go.Proofs.Ytdpajabhmmmjoaa
open Go.AM
set_option autoImplicit false
set_option linter.unusedVariables false
set_option maxRecDepth 100000
abbrev aah:FuncId:=119
abbrev aer:FuncId:=60
abbrev adf:FuncId:=59
abbrev aa5:FuncId:=40
abbrev adg:FuncId:=117
abbrev aa6:FuncId:=73
abbrev ach:FuncId:=146
abbrev adh:FuncId:=116
abbrev aci:FuncId:=110
abbrev aai:FuncId:=144
abbrev acj:FuncId:=138
abbrev aa7:FuncId:=114
abbrev zG:FuncId:=145
abbrev ack:FuncId:=111
abbrev aa8:FuncId:=143
abbrev acl:FuncId:=72
abbrev aa9:FuncId:=112
abbrev aba:FuncId:=141
abbrev acm:FuncId:=140
abbrev aaj:FuncId:=148
abbrev zH:FuncId:=149
abbrev aak:FuncId:=120
abbrev an1:FuncId:=14
abbrev ap8:FuncId:=87
abbrev alD:FuncId:=118
abbrev an2:FuncId:=86
abbrev ajI:FuncId:=133
abbrev alE:FuncId:=132
abbrev alF:FuncId:=162
abbrev alG:FuncId:=46
abbrev an3:FuncId:=154
abbrev alH:FuncId:=79
abbrev ajJ:FuncId:=41
abbrev alI:FuncId:=39
abbrev ap9:FuncId:=45
abbrev an4:FuncId:=61
abbrev an5:FuncId:=139
abbrev ajK:FuncId:=74
abbrev alJ:FuncId:=158
abbrev ahk:FuncId:=142
abbrev alK:FuncId:=115
abbrev an6:FuncId:=147
abbrev alL:FuncId:=18
abbrev ajL:FuncId:=47
abbrev aqa:FuncId:=113
abbrev an7:FuncId:=161
abbrev alM:FuncId:=165
abbrev ajM:FuncId:=164
abbrev an8:FuncId:=159
abbrev alN:FuncId:=160
abbrev axt:=Bs×Int
noncomputable def uk(a:Bs)(r:axt):Prop:=yM Try.prog an1 [.sl .u8 (.may false) a] [.sl .u8 (.may false) r.1,.int .i64 r.2]∧ahh a r
noncomputable def axu:aiQ Try.prog:=.mk 14 fun us=>match us with
 | [.sl .u8 (.may _) a]=>let r:=pick (uk a);some (can (uk a),[.sl .u8 (.may false) r.1,.int .i64 r.2])
 |_=>none
abbrev avL:=Bool
noncomputable def gb(a:List aA)(g b:Int)(c:Bs)(d:List aH)(e:Bss)(f:Int)(r:avL):Prop:=aV Try.prog alL [.agg [.sl .atype (.may false) a],.int .i64 g,.agg [.int .u64 b,.str c,.sl .aval (.may false) d,.sl .str (.may false) e,.int .i64 f]] (.bool r)∧uI a g b c d e f r
noncomputable def alO:bA Try.prog:=.mk 18 fun us=>match us with
 | [.agg [.sl .atype (.may _) a],.int .i64 g,.agg [.int .u64 b,.str c,.sl .aval (.may _) d,.sl .str (.may _) e,.int .i64 f]]=>let r:=pick (gb a g b c d e f);some (can (gb a g b c d e f),.bool r)
 |_=>none
abbrev avM:=List aA×Int
noncomputable def ru(a b:Int)(c:Bs)(d:List aD)(e:Bss)(r:avM):Prop:=aV Try.prog alI [.agg [.int .i64 a,.int .i64 b,.str c,.sl .jnode (.may false) d,.sl .str (.may false) e]] (.tup [.agg [.sl .atype (.may false) r.1],.int .i64 r.2])∧afZ a b c d e r
noncomputable def avN:bA Try.prog:=.mk 39 fun us=>match us with
 | [.agg [.int .i64 a,.int .i64 b,.str c,.sl .jnode (.may _) d,.sl .str (.may _) e]]=>let r:=pick (ru a b c d e);some (can (ru a b c d e),.tup [.agg [.sl .atype (.may false) r.1],.int .i64 r.2])
 |_=>none
abbrev akE:=Int×Int×Bs×List aD×Bss×Bs×Int
noncomputable def kJ(a:Bs)(b:Int)(r:akE):Prop:=b7 Try.prog aa5 [.ptr 0 0] [[.sl .u8 (.may false) a,.int .i64 b]] (.agg [.int .i64 r.1,.int .i64 r.2.1,.str r.2.2.1,.sl .jnode (.may false) r.2.2.2.1,.sl .str (.may false) r.2.2.2.2.1]) [[.sl .u8 (.may false) r.2.2.2.2.2.1,.int .i64 r.2.2.2.2.2.2]]∧yg a b r
noncomputable def akF:gp Try.prog:=.mk 40 fun us css=>match us,css with
 | [.ptr 0 0],[[.sl .u8 (.may false) a,.int .i64 b]]=>let r:=pick (kJ a b);some (can (kJ a b),.agg [.int .i64 r.1,.int .i64 r.2.1,.str r.2.2.1,.sl .jnode (.may false) r.2.2.2.1,.sl .str (.may false) r.2.2.2.2.1],[[.sl .u8 (.may false) r.2.2.2.2.2.1,.int .i64 r.2.2.2.2.2.2]])
 |_,_=>none
abbrev atK:=Int×Int×Int
noncomputable def tJ(a:List aA)(r:atK):Prop:=aV Try.prog ajJ [.agg [.sl .atype (.may false) a]] (.tup [.int .i64 r.1,.int .i64 r.2.1,.int .i64 r.2.2])∧aeq a r
noncomputable def atL:bA Try.prog:=.mk 41 fun us=>match us with
 | [.agg [.sl .atype (.may _) a]]=>let r:=pick (tJ a);some (can (tJ a),.tup [.int .i64 r.1,.int .i64 r.2.1,.int .i64 r.2.2])
 |_=>none
abbrev ayS:=Bool
noncomputable def iv(a:List aA)(b:Int)(r:ayS):Prop:=aV Try.prog ap9 [.agg [.sl .atype (.may false) a],.int .i64 b] (.bool r)∧yO a b r
noncomputable def aal:bA Try.prog:=.mk 45 fun us=>match us with
 | [.agg [.sl .atype (.may _) a],.int .i64 b]=>let r:=pick (iv a b);some (can (iv a b),.bool r)
 |_=>none
abbrev avO:=Bool
noncomputable def rv(a:Bs)(r:avO):Prop:=aV Try.prog alG [.str a] (.bool r)∧aag a r
noncomputable def alP:bA Try.prog:=.mk 46 fun us=>match us with
 | [.str a]=>let r:=pick (rv a);some (can (rv a),.bool r)
 |_=>none
abbrev atM:=Bool
noncomputable def tK(a:List aA)(b:Int)(c:Bs)(d:Bss)(e:Int)(f:Bss)(g:Bool)(h:Bs)(i:Int)(j:List aM)(k:List Int)(l:Int)(m:Bs)(n:List aH)(o:Bss)(p:Int)(r:atM):Prop:=aV Try.prog ajL [.agg [.sl .atype (.may false) a],.agg [.int .i64 b,.str c,.sl .str (.may false) d,.int .i64 e,.sl .str (.may false) f,.bool g,.str h,.int .i64 i,.sl .afield (.may false) j,.sl (.num .i64) (.may false) k],.agg [.int .u64 l,.str m,.sl .aval (.may false) n,.sl .str (.may false) o,.int .i64 p]] (.bool r)∧dV a b c d e f g h i j k l m n o p r
noncomputable def atN:bA Try.prog:=.mk 47 fun us=>match us with
 | [.agg [.sl .atype (.may _) a],.agg [.int .i64 b,.str c,.sl .str (.may _) d,.int .i64 e,.sl .str (.may _) f,.bool g,.str h,.int .i64 i,.sl .afield (.may _) j,.sl (.num .i64) (.may _) k],.agg [.int .u64 l,.str m,.sl .aval (.may _) n,.sl .str (.may _) o,.int .i64 p]]=>let r:=pick (tK a b c d e f g h i j k l m n o p);some (can (tK a b c d e f g h i j k l m n o p),.bool r)
 |_=>none
abbrev ani:=Bool×Bs×Int
noncomputable def jN(a:Bs)(b:Int)(r:ani):Prop:=b7 Try.prog adf [.ptr 0 0] [[.sl .u8 (.may false) a,.int .i64 b]] (.bool r.1) [[.sl .u8 (.may false) r.2.1,.int .i64 r.2.2]]∧aae a b r
noncomputable def adi:gp Try.prog:=.mk 59 fun us css=>match us,css with
 | [.ptr 0 0],[[.sl .u8 (.may false) a,.int .i64 b]]=>let r:=pick (jN a b);some (can (jN a b),.bool r.1,[[.sl .u8 (.may false) r.2.1,.int .i64 r.2.2]])
 |_,_=>none
abbrev aoJ:=Int×Bs×Int
noncomputable def aQ(a:Bs)(b c:Int)(r:aoJ):Prop:=b7 Try.prog aer [.ptr 0 0,.int .i64 c] [[.sl .u8 (.may false) a,.int .i64 b]] (.int .i64 r.1) [[.sl .u8 (.may false) r.2.1,.int .i64 r.2.2]]∧aa4 a b c r
noncomputable def iy:gp Try.prog:=.mk 60 fun us css=>match us,css with
 | [.ptr 0 0,.int .i64 c],[[.sl .u8 (.may false) a,.int .i64 b]]=>let r:=pick (aQ a b c);some (can (aQ a b c),.int .i64 r.1,[[.sl .u8 (.may false) r.2.1,.int .i64 r.2.2]])
 |_,_=>none
abbrev axv:=Int×Bs×List aH×Bss×Int
noncomputable def lw(a:Int)(b:Bs)(c:List aH)(d:Bss)(e:Int)(k:Bs)(f:Int)(g:Bs)(h:List aH)(i:Bss)(j:Int)(r:axv):Prop:=aV Try.prog an4 [.agg [.int .u64 a,.str b,.sl .aval (.may false) c,.sl .str (.may false) d,.int .i64 e],.str k,.agg [.int .u64 f,.str g,.sl .aval (.may false) h,.sl .str (.may false) i,.int .i64 j]] (.agg [.int .u64 r.1,.str r.2.1,.sl .aval (.may false) r.2.2.1,.sl .str (.may false) r.2.2.2.1,.int .i64 r.2.2.2.2])∧ahj a b c d e k f g h i j r
noncomputable def an9:bA Try.prog:=.mk 61 fun us=>match us with
 | [.agg [.int .u64 a,.str b,.sl .aval (.may _) c,.sl .str (.may _) d,.int .i64 e],.str k,.agg [.int .u64 f,.str g,.sl .aval (.may _) h,.sl .str (.may _) i,.int .i64 j]]=>let r:=pick (lw a b c d e k f g h i j);some (can (lw a b c d e k f g h i j),.agg [.int .u64 r.1,.str r.2.1,.sl .aval (.may false) r.2.2.1,.sl .str (.may false) r.2.2.2.1,.int .i64 r.2.2.2.2])
 |_=>none
abbrev alQ:=Int×List aA×Int
noncomputable def cX(a:List aA)(b c d:Int)(e:Bs)(f:List aD)(g:Bss)(h:Bs)(i:Int)(r:alQ):Prop:=b7 Try.prog acl [.ptr 0 0,.agg [.int .i64 c,.int .i64 d,.str e,.sl .jnode (.may false) f,.sl .str (.may false) g],.str h,.int .i64 i] [[.ul .atype a,.int .i64 b]] (.int .i64 r.1) [[.ul .atype r.2.1,.int .i64 r.2.2]]∧fR a b c d e f g h i r
noncomputable def pN:gp Try.prog:=.mk 72 fun us css=>match us,css with
 | [.ptr 0 0,.agg [.int .i64 a,.int .i64 b,.str c,.sl .jnode (.may _) d,.sl .str (.may _) e],.str h,.int .i64 i],[[.ul .atype f,.int .i64 g]]=>let r:=pick (cX f g a b c d e h i);some (can (cX f g a b c d e h i),.int .i64 r.1,[[.ul .atype r.2.1,.int .i64 r.2.2]])
 |_,_=>none
abbrev akG:=Int×Int×Bs×List aD×Bss×Bs×Int×Bss
noncomputable def gS(a:Bs)(b:Int)(c:Bss)(d:Bs)(e:Int)(r:akG):Prop:=b7 Try.prog aa6 [.ptr 0 0,.str d,.int .i64 e,.ptr 1 0] [[.sl .u8 (.may false) a,.int .i64 b],[.sl .str .own c]] (.agg [.int .i64 r.1,.int .i64 r.2.1,.str r.2.2.1,.sl .jnode (.may false) r.2.2.2.1,.sl .str (.may false) r.2.2.2.2.1]) [[.sl .u8 (.may false) r.2.2.2.2.2.1,.int .i64 r.2.2.2.2.2.2.1],[.sl .str .own r.2.2.2.2.2.2.2]]∧yf a b c d e r
noncomputable def abb:gp Try.prog:=.mk 73 fun us css=>match us,css with
 | [.ptr 0 0,.str d,.int .i64 e,.ptr 1 0],[[.sl .u8 (.may false) a,.int .i64 b],[.sl .str .own c]]=>let r:=pick (gS a b c d e);some (can (gS a b c d e),.agg [.int .i64 r.1,.int .i64 r.2.1,.str r.2.2.1,.sl .jnode (.may false) r.2.2.2.1,.sl .str (.may false) r.2.2.2.2.1],[[.sl .u8 (.may false) r.2.2.2.2.2.1,.int .i64 r.2.2.2.2.2.2.1],[.sl .str .own r.2.2.2.2.2.2.2]])
 |_,_=>none
abbrev atO:=Int×Bs×List aH×Bss×Int×Int
noncomputable def pJ(a:List aA)(g b c:Int)(d:Bs)(e:List aD)(f:Bss)(r:atO):Prop:=aV Try.prog ajK [.agg [.sl .atype (.may false) a],.int .i64 g,.agg [.int .i64 b,.int .i64 c,.str d,.sl .jnode (.may false) e,.sl .str (.may false) f]] (.tup [.agg [.int .u64 r.1,.str r.2.1,.sl .aval (.may false) r.2.2.1,.sl .str (.may false) r.2.2.2.1,.int .i64 r.2.2.2.2.1],.int .i64 r.2.2.2.2.2])∧aep a g b c d e f r
noncomputable def ajN:bA Try.prog:=.mk 74 fun us=>match us with
 | [.agg [.sl .atype (.may _) a],.int .i64 g,.agg [.int .i64 b,.int .i64 c,.str d,.sl .jnode (.may _) e,.sl .str (.may _) f]]=>let r:=pick (pJ a g b c d e f);some (can (pJ a g b c d e f),.tup [.agg [.int .u64 r.1,.str r.2.1,.sl .aval (.may false) r.2.2.1,.sl .str (.may false) r.2.2.2.1,.int .i64 r.2.2.2.2.1],.int .i64 r.2.2.2.2.2])
 |_=>none
abbrev avP:=Int×Int
noncomputable def oS(a:Bs)(r:avP):Prop:=aV Try.prog alH [.str a] (.tup [.int .u32 r.1,.int .i64 r.2])∧af1 a r
noncomputable def alR:bA Try.prog:=.mk 79 fun us=>match us with
 | [.str a]=>let r:=pick (oS a);some (can (oS a),.tup [.int .u32 r.1,.int .i64 r.2])
 |_=>none
abbrev axw:=Int×Int×Bs×List aD×Bss
noncomputable def bk(a:Bs)(r:axw):Prop:=aV Try.prog an2 [.str a] (.agg [.int .i64 r.1,.int .i64 r.2.1,.str r.2.2.1,.sl .jnode (.may false) r.2.2.2.1,.sl .str (.may false) r.2.2.2.2])∧ahi a r
noncomputable def um:bA Try.prog:=.mk 86 fun us=>match us with
 | [.str a]=>let r:=pick (bk a);some (can (bk a),.agg [.int .i64 r.1,.int .i64 r.2.1,.str r.2.2.1,.sl .jnode (.may false) r.2.2.2.1,.sl .str (.may false) r.2.2.2.2])
 |_=>none
abbrev ayT:=Int×Int×Bs×List aD×Bss×Bool
noncomputable def sK(a b:Int)(c:Bs)(d:List aD)(e:Bss)(f:Bs)(r:ayT):Prop:=aV Try.prog ap8 [.agg [.int .i64 a,.int .i64 b,.str c,.sl .jnode (.may false) d,.sl .str (.may false) e],.str f] (.tup [.agg [.int .i64 r.1,.int .i64 r.2.1,.str r.2.2.1,.sl .jnode (.may false) r.2.2.2.1,.sl .str (.may false) r.2.2.2.2.1],.bool r.2.2.2.2.2])∧yN a b c d e f r
noncomputable def aqb:bA Try.prog:=.mk 87 fun us=>match us with
 | [.agg [.int .i64 a,.int .i64 b,.str c,.sl .jnode (.may _) d,.sl .str (.may _) e],.str f]=>let r:=pick (sK a b c d e f);some (can (sK a b c d e f),.tup [.agg [.int .i64 r.1,.int .i64 r.2.1,.str r.2.2.1,.sl .jnode (.may false) r.2.2.2.1,.sl .str (.may false) r.2.2.2.2.1],.bool r.2.2.2.2.2])
 |_=>none
abbrev alS:=Int×List aA×Int
noncomputable def aL(a:List aA)(b c:Int)(r:alS):Prop:=b7 Try.prog aci [.ptr 0 0,.int .i64 c] [[.ul .atype a,.int .i64 b]] (.int .i64 r.1) [[.ul .atype r.2.1,.int .i64 r.2.2]]∧mB a b c r
noncomputable def dz:gp Try.prog:=.mk 110 fun us css=>match us,css with
 | [.ptr 0 0,.int .i64 c],[[.ul .atype a,.int .i64 b]]=>let r:=pick (aL a b c);some (can (aL a b c),.int .i64 r.1,[[.ul .atype r.2.1,.int .i64 r.2.2]])
 |_,_=>none
abbrev alT:=Int×List aA×Int
noncomputable def iC(a:List aA)(b:Int)(c d:Bs)(r:alT):Prop:=b7 Try.prog ack [.ptr 0 0,.str c,.str d] [[.ul .atype a,.int .i64 b]] (.int .i64 r.1) [[.ul .atype r.2.1,.int .i64 r.2.2]]∧rq a b c d r
noncomputable def alU:gp Try.prog:=.mk 111 fun us css=>match us,css with
 | [.ptr 0 0,.str c,.str d],[[.ul .atype a,.int .i64 b]]=>let r:=pick (iC a b c d);some (can (iC a b c d),.int .i64 r.1,[[.ul .atype r.2.1,.int .i64 r.2.2]])
 |_,_=>none
abbrev akH:=Int×List aA×Int
noncomputable def kK(a:List aA)(b c d:Int)(e:Bs)(f:List aD)(g:Bss)(h:Bs)(i:Int)(r:akH):Prop:=b7 Try.prog aa9 [.ptr 0 0,.agg [.int .i64 c,.int .i64 d,.str e,.sl .jnode (.may false) f,.sl .str (.may false) g],.str h,.int .i64 i] [[.ul .atype a,.int .i64 b]] (.int .i64 r.1) [[.ul .atype r.2.1,.int .i64 r.2.2]]∧yh a b c d e f g h i r
noncomputable def akI:gp Try.prog:=.mk 112 fun us css=>match us,css with
 | [.ptr 0 0,.agg [.int .i64 a,.int .i64 b,.str c,.sl .jnode (.may _) d,.sl .str (.may _) e],.str h,.int .i64 i],[[.ul .atype f,.int .i64 g]]=>let r:=pick (kK f g a b c d e h i);some (can (kK f g a b c d e h i),.int .i64 r.1,[[.ul .atype r.2.1,.int .i64 r.2.2]])
 |_,_=>none
abbrev ayU:=Int×Int×Bs×List aD×Bss×Bool
noncomputable def dJ(a b:Int)(c:Bs)(d:List aD)(e:Bss)(f:Bs)(r:ayU):Prop:=aV Try.prog aqa [.agg [.int .i64 a,.int .i64 b,.str c,.sl .jnode (.may false) d,.sl .str (.may false) e],.str f] (.tup [.agg [.int .i64 r.1,.int .i64 r.2.1,.str r.2.2.1,.sl .jnode (.may false) r.2.2.2.1,.sl .str (.may false) r.2.2.2.2.1],.bool r.2.2.2.2.2])∧dg a b c d e f r
noncomputable def sL:bA Try.prog:=.mk 113 fun us=>match us with
 | [.agg [.int .i64 a,.int .i64 b,.str c,.sl .jnode (.may _) d,.sl .str (.may _) e],.str f]=>let r:=pick (dJ a b c d e f);some (can (dJ a b c d e f),.tup [.agg [.int .i64 r.1,.int .i64 r.2.1,.str r.2.2.1,.sl .jnode (.may false) r.2.2.2.1,.sl .str (.may false) r.2.2.2.2.1],.bool r.2.2.2.2.2])
 |_=>none
abbrev akJ:=Int×List aA×Int
noncomputable def kL(a:List aA)(b c d:Int)(e:Bs)(f:List aD)(g:Bss)(h:Int)(i:Bs)(j:Int)(r:akJ):Prop:=b7 Try.prog aa7 [.ptr 0 0,.agg [.int .i64 c,.int .i64 d,.str e,.sl .jnode (.may false) f,.sl .str (.may false) g],.int .i64 h,.str i,.int .i64 j] [[.ul .atype a,.int .i64 b]] (.int .i64 r.1) [[.ul .atype r.2.1,.int .i64 r.2.2]]∧gV a b c d e f g h i j r
noncomputable def akK:gp Try.prog:=.mk 114 fun us css=>match us,css with
 | [.ptr 0 0,.agg [.int .i64 a,.int .i64 b,.str c,.sl .jnode (.may _) d,.sl .str (.may _) e],.int .i64 h,.str i,.int .i64 j],[[.ul .atype f,.int .i64 g]]=>let r:=pick (kL f g a b c d e h i j);some (can (kL f g a b c d e h i j),.int .i64 r.1,[[.ul .atype r.2.1,.int .i64 r.2.2]])
 |_,_=>none
abbrev avQ:=Int
noncomputable def oT(a:Bs)(r:avQ):Prop:=aV Try.prog alK [.str a] (.int .i64 r)∧afY a r
noncomputable def alV:bA Try.prog:=.mk 115 fun us=>match us with
 | [.str a]=>let r:=pick (oT a);some (can (oT a),.int .i64 r)
 |_=>none
abbrev anj:=Int×List aA×Int
noncomputable def fB(a:List aA)(b c:Int)(d:Bs)(e:Bss)(f:Int)(g:Bss)(h:Bool)(i:Bs)(j:Int)(k:List aM)(l:List Int)(r:anj):Prop:=b7 Try.prog adh [.ptr 0 0,.agg [.int .i64 c,.str d,.sl .str (.may false) e,.int .i64 f,.sl .str (.may false) g,.bool h,.str i,.int .i64 j,.sl .afield (.may false) k,.sl (.num .i64) (.may false) l]] [[.ul .atype a,.int .i64 b]] (.int .i64 r.1) [[.ul .atype r.2.1,.int .i64 r.2.2]]∧nR a b c d e f g h i j k l r
noncomputable def qO:gp Try.prog:=.mk 116 fun us css=>match us,css with
 | [.ptr 0 0,.agg [.int .i64 a,.str b,.sl .str (.may _) c,.int .i64 d,.sl .str (.may _) e,.bool f,.str g,.int .i64 h,.sl .afield (.may _) i,.sl (.num .i64) (.may _) j]],[[.ul .atype k,.int .i64 l]]=>let r:=pick (fB k l a b c d e f g h i j);some (can (fB k l a b c d e f g h i j),.int .i64 r.1,[[.ul .atype r.2.1,.int .i64 r.2.2]])
 |_,_=>none
abbrev ank:=Int×Int×Bs×List aD×Bss×Bs×Int×Bss
noncomputable def dM(a:Bs)(b:Int)(c:Bss)(d:Int)(r:ank):Prop:=b7 Try.prog adg [.ptr 0 0,.int .i64 d,.ptr 1 0] [[.sl .u8 (.may false) a,.int .i64 b],[.sl .str .own c]] (.agg [.int .i64 r.1,.int .i64 r.2.1,.str r.2.2.1,.sl .jnode (.may false) r.2.2.2.1,.sl .str (.may false) r.2.2.2.2.1]) [[.sl .u8 (.may false) r.2.2.2.2.2.1,.int .i64 r.2.2.2.2.2.2.1],[.sl .str .own r.2.2.2.2.2.2.2]]∧gq a b c d r
noncomputable def xR:gp Try.prog:=.mk 117 fun us css=>match us,css with
 | [.ptr 0 0,.int .i64 d,.ptr 1 0],[[.sl .u8 (.may false) a,.int .i64 b],[.sl .str .own c]]=>let r:=pick (dM a b c d);some (can (dM a b c d),.agg [.int .i64 r.1,.int .i64 r.2.1,.str r.2.2.1,.sl .jnode (.may false) r.2.2.2.1,.sl .str (.may false) r.2.2.2.2.1],[[.sl .u8 (.may false) r.2.2.2.2.2.1,.int .i64 r.2.2.2.2.2.2.1],[.sl .str .own r.2.2.2.2.2.2.2]])
 |_,_=>none
abbrev avR:=Int×Int×Bs×Bool×List aD×Bool×Bss
noncomputable def eC(a:Bool)(c:Bss)(b:Bool)(d:List aD)(r:avR):Prop:=aV Try.prog alD [.sl .str (.may a) c,.sl .jnode (.may b) d] (.agg [.int .i64 r.1,.int .i64 r.2.1,.str r.2.2.1,.sl .jnode (.may r.2.2.2.1) r.2.2.2.2.1,.sl .str (.may r.2.2.2.2.2.1) r.2.2.2.2.2.2])∧afX a c b d r
noncomputable def aes:bA Try.prog:=.mk 118 fun us=>match us with
 | [.sl .str (.may a) c,.sl .jnode (.may b) d]=>let r:=pick (eC a c b d);some (can (eC a c b d),.agg [.int .i64 r.1,.int .i64 r.2.1,.str r.2.2.1,.sl .jnode (.may r.2.2.2.1) r.2.2.2.2.1,.sl .str (.may r.2.2.2.2.2.1) r.2.2.2.2.2.2])
 |_=>none
abbrev aiS:=Int×Int×Bs×List aD×Bss×Bs×Int
noncomputable def jf(a:Bs)(b c d:Int)(e:Bs)(f:List aD)(g:Bss)(r:aiS):Prop:=b7 Try.prog aah [.ptr 0 0,.agg [.int .i64 c,.int .i64 d,.str e,.sl .jnode (.may false) f,.sl .str (.may false) g]] [[.sl .u8 (.may false) a,.int .i64 b]] (.agg [.int .i64 r.1,.int .i64 r.2.1,.str r.2.2.1,.sl .jnode (.may false) r.2.2.2.1,.sl .str (.may false) r.2.2.2.2.1]) [[.sl .u8 (.may false) r.2.2.2.2.2.1,.int .i64 r.2.2.2.2.2.2]]∧gv a b c d e f g r
noncomputable def aiT:gp Try.prog:=.mk 119 fun us css=>match us,css with
 | [.ptr 0 0,.agg [.int .i64 a,.int .i64 b,.str c,.sl .jnode (.may _) d,.sl .str (.may _) e]],[[.sl .u8 (.may false) f,.int .i64 g]]=>let r:=pick (jf f g a b c d e);some (can (jf f g a b c d e),.agg [.int .i64 r.1,.int .i64 r.2.1,.str r.2.2.1,.sl .jnode (.may false) r.2.2.2.1,.sl .str (.may false) r.2.2.2.2.1],[[.sl .u8 (.may false) r.2.2.2.2.2.1,.int .i64 r.2.2.2.2.2.2]])
 |_,_=>none
abbrev aiU:=Int×Bs×List aH×Bss×Int×Int×List aA×Int
noncomputable def ct(a:List aA)(b h c d:Int)(e:Bs)(f:List aD)(g:Bss)(i:Int)(r:aiU):Prop:=b7 Try.prog aak [.ptr 0 0,.int .i64 h,.agg [.int .i64 c,.int .i64 d,.str e,.sl .jnode (.may false) f,.sl .str (.may false) g],.int .i64 i] [[.sl .atype (.may false) a,.int .i64 b]] (.tup [.agg [.int .u64 r.1,.str r.2.1,.sl .aval (.may false) r.2.2.1,.sl .str (.may false) r.2.2.2.1,.int .i64 r.2.2.2.2.1],.int .i64 r.2.2.2.2.2.1]) [[.sl .atype (.may false) r.2.2.2.2.2.2.1,.int .i64 r.2.2.2.2.2.2.2]]∧di a b h c d e f g i r
noncomputable def nS:gp Try.prog:=.mk 120 fun us css=>match us,css with
 | [.ptr 0 0,.int .i64 h,.agg [.int .i64 a,.int .i64 b,.str c,.sl .jnode (.may _) d,.sl .str (.may _) e],.int .i64 i],[[.sl .atype (.may false) f,.int .i64 g]]=>let r:=pick (ct f g h a b c d e i);some (can (ct f g h a b c d e i),.tup [.agg [.int .u64 r.1,.str r.2.1,.sl .aval (.may false) r.2.2.1,.sl .str (.may false) r.2.2.2.1,.int .i64 r.2.2.2.2.1],.int .i64 r.2.2.2.2.2.1],[[.sl .atype (.may false) r.2.2.2.2.2.2.1,.int .i64 r.2.2.2.2.2.2.2]])
 |_,_=>none
abbrev avS:=Int
noncomputable def rx(a:Int)(r:avS):Prop:=aV Try.prog alE [.int .i64 a] (.int .u32 r)
noncomputable def alW:bA Try.prog:=.mk 132 fun us=>match us with
 | [.int .i64 a]=>let r:=pick (rx a);some (can (rx a),.int .u32 r)
 |_=>none
abbrev atP:=Int
noncomputable def ng(a:Int)(r:atP):Prop:=aV Try.prog ajI [.int .i64 a] (.int .u64 r)
noncomputable def ajO:bA Try.prog:=.mk 133 fun us=>match us with
 | [.int .i64 a]=>let r:=pick (ng a);some (can (ng a),.int .u64 r)
 |_=>none
abbrev alX:=Int×Bool×List aA×Int
noncomputable def dA(a:List aA)(b:Int)(c:Bs)(r:alX):Prop:=b7 Try.prog acj [.ptr 0 0,.str c] [[.ul .atype a,.int .i64 b]] (.tup [.int .i64 r.1,.bool r.2.1]) [[.ul .atype r.2.2.1,.int .i64 r.2.2.2]]∧zE a b c r
noncomputable def acn:gp Try.prog:=.mk 138 fun us css=>match us,css with
 | [.ptr 0 0,.str c],[[.ul .atype a,.int .i64 b]]=>let r:=pick (dA a b c);some (can (dA a b c),.tup [.int .i64 r.1,.bool r.2.1],[[.ul .atype r.2.2.1,.int .i64 r.2.2.2]])
 |_,_=>none
abbrev axx:=Bs
noncomputable def uo(a:List aA)(b:Int)(r:axx):Prop:=aV Try.prog an5 [.agg [.sl .atype (.may false) a],.int .i64 b] (.str r)
noncomputable def axy:bA Try.prog:=.mk 139 fun us=>match us with
 | [.agg [.sl .atype (.may _) a],.int .i64 b]=>let r:=pick (uo a b);some (can (uo a b),.str r)
 |_=>none
abbrev alY:=Bs×List aA×Int
noncomputable def eP(a:List aA)(b c d:Int)(e:Bs)(f:List aD)(g:Bss)(h:Bs)(i:Bool)(r:alY):Prop:=b7 Try.prog acm [.ptr 0 0,.agg [.int .i64 c,.int .i64 d,.str e,.sl .jnode (.may false) f,.sl .str (.may false) g],.str h,.bool i] [[.ul .atype a,.int .i64 b]] (.str r.1) [[.ul .atype r.2.1,.int .i64 r.2.2]]∧zF a b c d e f g h i r
noncomputable def vY:gp Try.prog:=.mk 140 fun us css=>match us,css with
 | [.ptr 0 0,.agg [.int .i64 a,.int .i64 b,.str c,.sl .jnode (.may _) d,.sl .str (.may _) e],.str h,.bool i],[[.ul .atype f,.int .i64 g]]=>let r:=pick (eP f g a b c d e h i);some (can (eP f g a b c d e h i),.str r.1,[[.ul .atype r.2.1,.int .i64 r.2.2]])
 |_,_=>none
abbrev akL:=Bs×List aA×Int
noncomputable def gT(a:List aA)(b:Int)(c d:Bs)(r:akL):Prop:=b7 Try.prog aba [.ptr 0 0,.str c,.str d] [[.ul .atype a,.int .i64 b]] (.str r.1) [[.ul .atype r.2.1,.int .i64 r.2.2]]∧yi a b c d r
noncomputable def akM:gp Try.prog:=.mk 141 fun us css=>match us,css with
 | [.ptr 0 0,.str c,.str d],[[.ul .atype a,.int .i64 b]]=>let r:=pick (gT a b c d);some (can (gT a b c d),.str r.1,[[.ul .atype r.2.1,.int .i64 r.2.2]])
 |_,_=>none
abbrev arM:=Bs
noncomputable def ry(a:Bs)(r:arM):Prop:=aV Try.prog ahk [.str a] (.str r)∧nt a r
noncomputable def arN:bA Try.prog:=.mk 142 fun us=>match us with
 | [.str a]=>let r:=pick (ry a);some (can (ry a),.str r)
 |_=>none
abbrev akN:=Bss×Bool×List aA×Int
noncomputable def dK(a:List aA)(b c d:Int)(e:Bs)(f:List aD)(g:Bss)(h:Bs)(r:akN):Prop:=b7 Try.prog aa8 [.ptr 0 0,.agg [.int .i64 c,.int .i64 d,.str e,.sl .jnode (.may false) f,.sl .str (.may false) g],.str h] [[.ul .atype a,.int .i64 b]] (.tup [.sl .str (.may false) r.1,.bool r.2.1]) [[.ul .atype r.2.2.1,.int .i64 r.2.2.2]]∧qk a b c d e f g h r
noncomputable def uq:gp Try.prog:=.mk 143 fun us css=>match us,css with
 | [.ptr 0 0,.agg [.int .i64 a,.int .i64 b,.str c,.sl .jnode (.may _) d,.sl .str (.may _) e],.str h],[[.ul .atype f,.int .i64 g]]=>let r:=pick (dK f g a b c d e h);some (can (dK f g a b c d e h),.tup [.sl .str (.may false) r.1,.bool r.2.1],[[.ul .atype r.2.2.1,.int .i64 r.2.2.2]])
 |_,_=>none
abbrev aiV:=List aA×Int
noncomputable def jg(a:List aA)(b c d:Int)(e:Bs)(f:List aD)(g:Bss)(h:Int)(i:Bs)(j:Int)(r:aiV):Prop:=b7 Try.prog aai [.ptr 0 0,.agg [.int .i64 c,.int .i64 d,.str e,.sl .jnode (.may false) f,.sl .str (.may false) g],.int .i64 h,.str i,.int .i64 j] [[.ul .atype a,.int .i64 b]] (.tup []) [[.ul .atype r.1,.int .i64 r.2]]∧eS a b c d e f g h i j r
noncomputable def aiW:gp Try.prog:=.mk 144 fun us css=>match us,css with
 | [.ptr 0 0,.agg [.int .i64 a,.int .i64 b,.str c,.sl .jnode (.may _) d,.sl .str (.may _) e],.int .i64 h,.str i,.int .i64 j],[[.ul .atype f,.int .i64 g]]=>let r:=pick (jg f g a b c d e h i j);some (can (jg f g a b c d e h i j),.tup [],[[.ul .atype r.1,.int .i64 r.2]])
 |_,_=>none
abbrev ahl:=List aA×Int
noncomputable def iD(a:List aA)(b c d:Int)(e:Bs)(f:List aD)(g:Bss)(h:Int)(r:ahl):Prop:=b7 Try.prog zG [.ptr 0 0,.agg [.int .i64 c,.int .i64 d,.str e,.sl .jnode (.may false) f,.sl .str (.may false) g],.int .i64 h] [[.ul .atype a,.int .i64 b]] (.tup []) [[.ul .atype r.1,.int .i64 r.2]]∧eB a b c d e f g h r
noncomputable def ahm:gp Try.prog:=.mk 145 fun us css=>match us,css with
 | [.ptr 0 0,.agg [.int .i64 a,.int .i64 b,.str c,.sl .jnode (.may _) d,.sl .str (.may _) e],.int .i64 h],[[.ul .atype f,.int .i64 g]]=>let r:=pick (iD f g a b c d e h);some (can (iD f g a b c d e h),.tup [],[[.ul .atype r.1,.int .i64 r.2]])
 |_,_=>none
abbrev alZ:=Int×Int×Bs×List aD×Bss×Bs×Int×Bss
noncomputable def me(a:Bs)(b:Int)(c:Bss)(d:Int)(r:alZ):Prop:=b7 Try.prog ach [.ptr 0 0,.int .i64 d,.ptr 1 0] [[.sl .u8 (.may false) a,.int .i64 b],[.sl .str .own c]] (.agg [.int .i64 r.1,.int .i64 r.2.1,.str r.2.2.1,.sl .jnode (.may false) r.2.2.2.1,.sl .str (.may false) r.2.2.2.2.1]) [[.sl .u8 (.may false) r.2.2.2.2.2.1,.int .i64 r.2.2.2.2.2.2.1],[.sl .str .own r.2.2.2.2.2.2.2]]∧zD a b c d r
noncomputable def al0:gp Try.prog:=.mk 146 fun us css=>match us,css with
 | [.ptr 0 0,.int .i64 d,.ptr 1 0],[[.sl .u8 (.may false) a,.int .i64 b],[.sl .str .own c]]=>let r:=pick (me a b c d);some (can (me a b c d),.agg [.int .i64 r.1,.int .i64 r.2.1,.str r.2.2.1,.sl .jnode (.may false) r.2.2.2.1,.sl .str (.may false) r.2.2.2.2.1],[[.sl .u8 (.may false) r.2.2.2.2.2.1,.int .i64 r.2.2.2.2.2.2.1],[.sl .str .own r.2.2.2.2.2.2.2]])
 |_,_=>none
abbrev axz:=Bs×Bool
noncomputable def yj(a:Bs)(r:axz):Prop:=aV Try.prog an6 [.str a] (.tup [.str r.1,.bool r.2])
noncomputable def axA:bA Try.prog:=.mk 147 fun us=>match us with
 | [.str a]=>let r:=pick (yj a);some (can (yj a),.tup [.str r.1,.bool r.2])
 |_=>none
abbrev aiX:=Int×Bs×List aH×Bss×Int×Int×List aA×Int
noncomputable def jh(a:List aA)(b c:Int)(d:Bs)(e:Bss)(f:Int)(g:Bss)(h:Bool)(i:Bs)(j:Int)(k:List aM)(l:List Int)(m n:Int)(o:Bs)(p:List aD)(q:Bss)(s:Int)(r:aiX):Prop:=b7 Try.prog aaj [.ptr 0 0,.agg [.int .i64 c,.str d,.sl .str (.may false) e,.int .i64 f,.sl .str (.may false) g,.bool h,.str i,.int .i64 j,.sl .afield (.may false) k,.sl (.num .i64) (.may false) l],.agg [.int .i64 m,.int .i64 n,.str o,.sl .jnode (.may false) p,.sl .str (.may false) q],.int .i64 s] [[.sl .atype (.may false) a,.int .i64 b]] (.tup [.agg [.int .u64 r.1,.str r.2.1,.sl .aval (.may false) r.2.2.1,.sl .str (.may false) r.2.2.2.1,.int .i64 r.2.2.2.2.1],.int .i64 r.2.2.2.2.2.1]) [[.sl .atype (.may false) r.2.2.2.2.2.2.1,.int .i64 r.2.2.2.2.2.2.2]]∧xI a b c d e f g h i j k l m n o p q s r
noncomputable def aiY:gp Try.prog:=.mk 148 fun us css=>match us,css with
 | [.ptr 0 0,.agg [.int .i64 a,.str b,.sl .str (.may _) c,.int .i64 d,.sl .str (.may _) e,.bool f,.str g,.int .i64 h,.sl .afield (.may _) i,.sl (.num .i64) (.may _) j],.agg [.int .i64 k,.int .i64 l,.str m,.sl .jnode (.may _) n,.sl .str (.may _) o],.int .i64 s],[[.sl .atype (.may false) p,.int .i64 q]]=>let r:=pick (jh p q a b c d e f g h i j k l m n o s);some (can (jh p q a b c d e f g h i j k l m n o s),.tup [.agg [.int .u64 r.1,.str r.2.1,.sl .aval (.may false) r.2.2.1,.sl .str (.may false) r.2.2.2.1,.int .i64 r.2.2.2.2.1],.int .i64 r.2.2.2.2.2.1],[[.sl .atype (.may false) r.2.2.2.2.2.2.1,.int .i64 r.2.2.2.2.2.2.2]])
 |_,_=>none
abbrev ahn:=Int×Bs×List aH×Bss×Int×Int×List aA×Int
noncomputable def iE(a:List aA)(b c:Int)(d:Bs)(e:Bss)(f:Int)(g:Bss)(h:Bool)(i:Bs)(j:Int)(k:List aM)(l:List Int)(m n:Int)(o:Bs)(p:List aD)(q:Bss)(s:Int)(r:ahn):Prop:=b7 Try.prog zH [.ptr 0 0,.agg [.int .i64 c,.str d,.sl .str (.may false) e,.int .i64 f,.sl .str (.may false) g,.bool h,.str i,.int .i64 j,.sl .afield (.may false) k,.sl (.num .i64) (.may false) l],.agg [.int .i64 m,.int .i64 n,.str o,.sl .jnode (.may false) p,.sl .str (.may false) q],.int .i64 s] [[.sl .atype (.may false) a,.int .i64 b]] (.tup [.agg [.int .u64 r.1,.str r.2.1,.sl .aval (.may false) r.2.2.1,.sl .str (.may false) r.2.2.2.1,.int .i64 r.2.2.2.2.1],.int .i64 r.2.2.2.2.2.1]) [[.sl .atype (.may false) r.2.2.2.2.2.2.1,.int .i64 r.2.2.2.2.2.2.2]]∧vX a b c d e f g h i j k l m n o p q s r
noncomputable def aho:gp Try.prog:=.mk 149 fun us css=>match us,css with
 | [.ptr 0 0,.agg [.int .i64 a,.str b,.sl .str (.may _) c,.int .i64 d,.sl .str (.may _) e,.bool f,.str g,.int .i64 h,.sl .afield (.may _) i,.sl (.num .i64) (.may _) j],.agg [.int .i64 k,.int .i64 l,.str m,.sl .jnode (.may _) n,.sl .str (.may _) o],.int .i64 s],[[.sl .atype (.may false) p,.int .i64 q]]=>let r:=pick (iE p q a b c d e f g h i j k l m n o s);some (can (iE p q a b c d e f g h i j k l m n o s),.tup [.agg [.int .u64 r.1,.str r.2.1,.sl .aval (.may false) r.2.2.1,.sl .str (.may false) r.2.2.2.1,.int .i64 r.2.2.2.2.1],.int .i64 r.2.2.2.2.2.1],[[.sl .atype (.may false) r.2.2.2.2.2.2.1,.int .i64 r.2.2.2.2.2.2.2]])
 |_,_=>none
abbrev axB:=Int
noncomputable def oE(a b c:Int)(r:axB):Prop:=aV Try.prog an3 [.int .u64 a,.int .i64 b,.int .i64 c] (.int .u64 r)
noncomputable def aoa:bA Try.prog:=.mk 154 fun us=>match us with
 | [.int .u64 a,.int .i64 b,.int .i64 c]=>let r:=pick (oE a b c);some (can (oE a b c),.int .u64 r)
 |_=>none
abbrev avT:=Bs
noncomputable def vZ(a:Int)(r:avT):Prop:=aV Try.prog alJ [.int .i64 a] (.str r)
noncomputable def avU:bA Try.prog:=.mk 158 fun us=>match us with
 | [.int .i64 a]=>let r:=pick (vZ a);some (can (vZ a),.str r)
 |_=>none
abbrev axC:=Bs
noncomputable def yk(a b:Bs)(r:axC):Prop:=aV Try.prog an8 [.str a,.str b] (.str r)∧xb a b r
noncomputable def axD:bA Try.prog:=.mk 159 fun us=>match us with
 | [.str a,.str b]=>let r:=pick (yk a b);some (can (yk a b),.str r)
 |_=>none
abbrev avV:=Bool
noncomputable def wa(a:Bs)(r:avV):Prop:=aV Try.prog alN [.str a] (.bool r)
noncomputable def avW:bA Try.prog:=.mk 160 fun us=>match us with
 | [.str a]=>let r:=pick (wa a);some (can (wa a),.bool r)
 |_=>none
abbrev axE:=Bool
noncomputable def lz(a:Bs)(r:axE):Prop:=aV Try.prog an7 [.str a] (.bool r)
noncomputable def agH:bA Try.prog:=.mk 161 fun us=>match us with
 | [.str a]=>let r:=pick (lz a);some (can (lz a),.bool r)
 |_=>none
abbrev avX:=Int×Int
noncomputable def wb(a:Bs)(r:avX):Prop:=aV Try.prog alF [.str a] (.tup [.int .u32 r.1,.int .i64 r.2])∧af0 a r
noncomputable def avY:bA Try.prog:=.mk 162 fun us=>match us with
 | [.str a]=>let r:=pick (wb a);some (can (wb a),.tup [.int .u32 r.1,.int .i64 r.2])
 |_=>none
abbrev atQ:=Bool
noncomputable def tL(a:Int)(r:atQ):Prop:=aV Try.prog ajM [.int .u8 a] (.bool r)
noncomputable def atR:bA Try.prog:=.mk 164 fun us=>match us with
 | [.int .u8 a]=>let r:=pick (tL a);some (can (tL a),.bool r)
 |_=>none
abbrev avZ:=Bool
noncomputable def wc(a:Int)(r:avZ):Prop:=aV Try.prog alM [.int .u8 a] (.bool r)
noncomputable def av0:bA Try.prog:=.mk 165 fun us=>match us with
 | [.int .u8 a]=>let r:=pick (wc a);some (can (wc a),.bool r)
 |_=>none
end Go.Proofs.Ytdpajabhmmmjoaa
end
noncomputable section
namespace Go.AM
set_option autoImplicit false
def reJ(x:aD):aD:=.mk x.kind x.n x.s x.l x.names
def reA(x:aH):aH:=.mk x.n x.s x.l x.keys x.branch
def reF(x:aM):aM:=⟨x.name,x.aliases,x.typ,x.hasdef,reJ x.df⟩
instance:Inhabited aH:=⟨.mk 0 [] [] [] 0⟩
instance:Inhabited aD:=⟨.mk 0 0 [] [] []⟩
instance:Inhabited aM:=⟨⟨[],[],0,false,.mk 0 0 [] [] []⟩⟩
instance:Inhabited aA:=⟨⟨0,[],[],0,[],false,[],0,[],[]⟩⟩
theorem aqc:∀x,reJ x=x
 | .mk _ _ _ _ _=>rfl
theorem tM:∀x,reA x=x
 | .mk _ _ _ _ _=>rfl
theorem av1(x:aM):reF x=x:=by simp only[reF,aqc]
end Go.AM
end
noncomputable section
namespace Go.Proofs.Ytdpajabhmmmjoaa
open Go.AM
set_option autoImplicit false
set_option linter.unusedVariables false
def rk(r:List Int)(t:Int):Int:=r.getD t.toNat 0
structure wd(k:aA)(r:List Int)(m:Int):Prop where
 pos:1≤m
 uni:k.kind=14→∃b∈k.branches,0≤rk r b∧rk r b<m
 rcd:k.kind≠14→∀f∈k.fields,0≤rk r f.typ∧rk r f.typ<m
 pre:2≤m→∃j:Nat,j<r.length∧r.getD j 0+1=m
structure jO(ts:List aA)(r:List Int)(m:Int):Prop where
 len:r.length=ts.length
 low:∀i,i<r.length→-1≤r.getD i 0
 top:∀i,i<r.length→r.getD i 0≤m
 ok:∀i,i<r.length→1≤r.getD i 0→wd (ts.getD i (aB .atype)) r (r.getD i 0)
 nul:∀i,i<r.length→r.getD i 0=0→(ts.getD i (aB .atype)).kind≠9∧(ts.getD i (aB .atype)).kind≠14
def brT(k:aA)(j:Nat):Int:=k.branches.getD j 0
structure abE(k:aA)(r:List Int)(b:Int):Prop where
 nn:0≤b
 lt:b<k.branches.length
 least:∀j,j<k.branches.length→0≤rk r (brT k j)→0≤rk r (brT k b.toNat)∧rk r (brT k b.toNat)≤rk r (brT k j)
 first:∀j,j<b.toNat→0≤rk r (brT k j)→rk r (brT k b.toNat)<rk r (brT k j)
def oU(w:List Int):List aM→Int
 | []=>0
 |f::l=>rk w f.typ+oU w l
structure nh(k:aA)(r w:List Int)(m:Int):Prop where
 pos:1≤m
 top:m≤1000000
 rcd:k.kind=9→1+oU w k.fields≤m∨m=1000000
 uni:k.kind=14→∀b,abE k r b→1+rk w (brT k b.toNat)≤m∨m=1000000
structure zI(ts:List aA)(r w:List Int):Prop where
 len:w.length=ts.length
 ok:∀i,i<r.length→0≤r.getD i 0→nh (ts.getD i (aB .atype)) r w (w.getD i 0)
def aet(k:aA)(r:List Int):Prop:=(k.kind=14→∀b∈k.branches,rk r b<0)∧(k.kind≠14→∃f∈k.fields,rk r f.typ<0)
def anc(ts:List aA)(r:List Int):Prop:=∀i,i<ts.length→r.getD i 0<0→aet (ts.getD i (aB .atype)) r
def xS(ts:List aA)(t:Int)(r:List Int)(m:Int):Prop:=(m=-1∧aet (ts.getD t.toNat (aB .atype)) r)∨wd (ts.getD t.toNat (aB .atype)) r m
def zc(ts:List aA)(r:List Int):Prop:=jO ts r ts.length∧anc ts r
def adj(k:aA)(r:List Int)(b:Int):Prop:=abE k r b
def we(ts:List aA)(r w:List Int):Prop:=zI ts r w
end Go.Proofs.Ytdpajabhmmmjoaa
end
noncomputable section
namespace Go.Proofs.Ytdpajabhmmmjoaa
open Go.AM
set_option autoImplicit false
set_option linter.unusedVariables false
set_option maxRecDepth 100000
abbrev ahp:FuncId:=124
abbrev ahq:FuncId:=123
abbrev ajP:FuncId:=83
abbrev af2:FuncId:=84
abbrev atS:=List Int
noncomputable def pK(a:List aA)(r:atS):Prop:=aV Try.prog ajP [.agg [.sl .atype (.may false) a]] (.sl (.num .i64) (.may false) r)∧zc a r
noncomputable def atT:bA Try.prog:=.mk 83 fun us=>match us with
 | [.agg [.sl .atype (.may _) a]]=>let r:=pick (pK a);some (can (pK a),.sl (.num .i64) (.may false) r)
 |_=>none
abbrev aqd:=List Int
noncomputable def ji(a:List aA)(b:List Int)(r:aqd):Prop:=aV Try.prog af2 [.agg [.sl .atype (.may false) a],.sl (.num .i64) (.may false) b] (.sl (.num .i64) (.may false) r)∧we a b r
noncomputable def aqe:bA Try.prog:=.mk 84 fun us=>match us with
 | [.agg [.sl .atype (.may _) a],.sl (.num .i64) (.may _) b]=>let r:=pick (ji a b);some (can (ji a b),.sl (.num .i64) (.may false) r)
 |_=>none
abbrev arO:=Int
noncomputable def rz(a:List aA)(b:Int)(c:List Int)(r:arO):Prop:=aV Try.prog ahq [.agg [.sl .atype (.may false) a],.int .i64 b,.sl (.num .i64) (.may false) c] (.int .i64 r)∧xS a b c r
noncomputable def arP:bA Try.prog:=.mk 123 fun us=>match us with
 | [.agg [.sl .atype (.may _) a],.int .i64 b,.sl (.num .i64) (.may _) c]=>let r:=pick (rz a b c);some (can (rz a b c),.int .i64 r)
 |_=>none
abbrev arQ:=Int
noncomputable def oF(a:aA)(b:List Int)(r:arQ):Prop:=aV Try.prog ahp [.agg (enc .atype a),.sl (.num .i64) (.may false) b] (.int .i64 r)∧adj a b r
noncomputable def ahr:bA Try.prog:=.mk 124 fun us=>match us with
 | [.agg [.int .i64 a,.str b,.sl .str (.may _) c,.int .i64 d,.sl .str (.may _) e,.bool f,.str g,.int .i64 h,.sl .afield (.may _) i,.sl (.num .i64) (.may _) j],.sl (.num .i64) (.may _) k]=>let r:=pick (oF (⟨a,b,c,d,e,f,g,h,i,j⟩) k);some (can (oF (⟨a,b,c,d,e,f,g,h,i,j⟩) k),.int .i64 r)
 |_=>none
end Go.Proofs.Ytdpajabhmmmjoaa
end
noncomputable section
namespace Go.Proofs.Ytdpajabhmmmjoaa
open Go.AM
set_option autoImplicit false
set_option linter.unusedVariables false
def rkS(ts:List aA):List Int:=pick (pK ts)
def wtS(ts:List aA):List Int:=pick (ji ts (rkS ts))
def zd(ts:List aA)(t:Int):Bool:=isT ts t&&(decide (0≤rk (rkS ts) t)&&decide (rk (wtS ts) t≤2000))
def ayV(ts:List aA)(t:Int)(v:aH)(m:Nat):Prop:=bm ts t v=true∧wV v≤m
def bW:Nat→Nat
 |0=>12000000
 |k+1=>8*bW k+1000
def aeu(ts:List aA)(t:Int)(r:List Int)(v:Int×List UInt8×Bool×List aH×Bool×List (List UInt8)×Int):Prop:=
 bm ts t (.mk v.1 v.2.1 v.2.2.2.1 v.2.2.2.2.2.1 v.2.2.2.2.2.2)=true∧((ts.getD t.toNat (aB .atype)).kind≠9→v.2.2.1=true∧((ts.getD t.toNat (aB .atype)).kind≠14→v.2.2.2.1=[]∧v.2.2.2.2.2.1=[]))∧
 ∀w,zI ts r w→rk w t≤2000→(wV (.mk v.1 v.2.1 v.2.2.2.1 v.2.2.2.2.2.1 v.2.2.2.2.2.2):Int)≤6000*rk w t
def aev(ts:List aA)(t:Int)(v:Int×List UInt8×Bool×List aH×Bool×List (List UInt8)×Int×Bool):Prop:=
 v.2.2.2.2.2.2.2=zd ts t∧(v.2.2.2.2.2.2.2=true→ayV ts t (.mk v.1 v.2.1 v.2.2.2.1 v.2.2.2.2.2.1 v.2.2.2.2.2.2.1) 12000000∧((ts.getD t.toNat (aB .atype)).kind≠9→v.2.2.1=true∧((ts.getD t.toNat (aB .atype)).kind≠14→v.2.2.2.1=[]∧v.2.2.2.2.2.1=[])))
def dr(l:List UInt8)(n:Int)(ts:List aA)(t deep:Int)(r:aH×Bool×List UInt8×Int):Prop:=
 r.2.1=zd ts t∧(r.2.1=true→ayV ts t r.1 (bW (6-deep.toNat)))∧r.2.2.1=l∧eA l r.2.2.2
end Go.Proofs.Ytdpajabhmmmjoaa
end
noncomputable section
namespace Go.Proofs.Ytdpajabhmmmjoaa
open Go.AM
set_option autoImplicit false
set_option linter.unusedVariables false
def ze(k:aA)(r:List Int)(b:Int):Prop:=
 (b=-1∧∀j,j<k.branches.length→rk r (brT k j)<0)∨(abE k r b∧0≤rk r (brT k b.toNat))
structure af3(k:aA)(r:List Int)(m:Int):Prop where
 low:0≤m
 pos:(k.kind=9∨k.kind=14)→1≤m
 uni:k.kind=14→∃b∈k.branches,0≤rk r b∧rk r b<m
 rcd:k.kind=9→∀f∈k.fields,0≤rk r f.typ∧rk r f.typ<m
 pre:2≤m→∃j:Nat,j<r.length∧r.getD j 0+1=m
def aew(k:aA)(r:List Int):Prop:=(k.kind=9∧∃f∈k.fields,rk r f.typ<0)∨(k.kind=14∧∀b∈k.branches,rk r b<0)
theorem aew.kind{k:aA}{r:List Int}(h:aew k r):k.kind=9∨k.kind=14:=h.imp (·.1) (·.1)
def abF(k:aA)(r:List Int)(m:Int):Prop:=(m=-1∧aew k r)∨af3 k r m
structure ahs(ts:List aA)(r:List Int)(m:Int):Prop where
 len:r.length=ts.length
 low:∀i,i<r.length→-1≤r.getD i 0
 top:∀i,i<r.length→r.getD i 0≤m
 ok:∀i,i<r.length→0≤r.getD i 0→af3 (ts.getD i (aB .atype)) r (r.getD i 0)
def uJ(ts:List aA)(r:List Int):Prop:=ahs ts r ts.length∧∀i,i<ts.length→r.getD i 0<0→aew (ts.getD i (aB .atype)) r
def aBk(k:aA)(r l:List Int):Prop:=
 if k.kind=14 then ∃b,ze k r b∧0≤b∧l=k.fields.map (·.typ)++[brT k b.toNat] else l=k.fields.map (·.typ)
def arR(w:List Int):List Int→Int
 | []=>0
 |t::l=>rk w t+arR w l
def aCq(x:Int):Int:=if 1000000<x then 1000000 else x
structure av2(ts:List aA)(r w:List Int):Prop where
 len:w.length=ts.length
 low:∀i,i<ts.length→0≤w.getD i 0∧w.getD i 0≤1000000
 ok:∀i,i<ts.length→w.getD i 0≠0→0≤r.getD i 0∧∃l,aBk (ts.getD i (aB .atype)) r l∧(∀t∈l,rk w t≠0)∧w.getD i 0=aCq (1+arR w l)
end Go.Proofs.Ytdpajabhmmmjoaa
end
