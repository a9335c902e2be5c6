import Derived.KernelRfl
import Derived.WalkKit
import Derived.WalkSpells
import Derived.Laws.Externs
import Derived.Laws.AppendOwn
import Derived.Lib.SliceRun
import Derived.Lib.Walk
import Derived.Lib.Bytealg
import Derived.Below
import Derived.Deep.LoopGhost
import Derived.Test.YtkinflmjagfapaaDoorZ02
import Derived.Test.YtkinflmjagfapaaDoorZ03
open Bool renaming and_eq_true→Ab,false_eq_true→CJ
open Eq renaming trans→BB
open Go.IntKind renaming wrap→Ao
open Go.Lib renaming run_eql_slice_nil→Cs
open Go.World renaming cell?→Bn
open Int renaming toNat→Ag,tmod→Bl,toNat_natCast→Bz,tmod_nonneg→C8
open List renaming length→Aa,getElem?_eq_getElem→Ac,getElem?_eq_some_iff→Ad,mem_of_getElem?→Af,getD_eq_getElem?_getD→Ah,getElem?_append_right→An,getElem?_append_left→Ap,getD→Aq,getElem?_set→Aw,mem_append→Ay,mem_singleton→Az,mem_map→AA,length_set→AB,length_cons→AD,length_append→AG,mem_cons→AL,getElem_mem→AO,length_nil→AQ,getElem?_cons_succ→AR,mem_cons_of_mem→AS,getElem?_set_ne→AY,getElem?_cons_zero→AZ,take→A4,drop→A8,map_cons→Bf,set→Bg,length_singleton→Bh,length_take→Bv,getElem?_set_self→BE,map_append→BT,drop_eq_getElem_cons→BZ,drop_zero→B4,getD_cons_zero→Cb,take_of_length_le→Cp,nodup_nil→Cy,length_pos_iff→Dd,drop_succ_cons→De,mem_or_eq_of_mem_set→Dx
open Nat renaming le_refl→Aj,beq→Av,lt_of_lt_of_le→Ax,lt_or_ge→AE,le_trans→AF,zero_le→Bj,beq_refl→BL,le_add_right→CX
open Option renaming map_eq_some_iff→Ak,getD_some→A5,isSome_iff_exists→BK
open Option.some renaming injEq→Ae,inj→Ar
open UInt8 renaming ofNat→BG
set_option linter.all false
set_option maxRecDepth 100000
noncomputable section
namespace Go.Proofs.YtkinflmjagfapaaDoor
open Go.AM
noncomputable def mw:am:=tab (P:=Tryd.prog) [] [] [] []
def me:IR:=Rs [Pp (.mov 2 (.c (nl .jnode)))] (Sq (Rs [Mv 3 0,Pp (.snil 4 (.t 3))] (Cn 4 (Rs [Pp (.mov 2 (.c (nl .jnode)))] .ret) .skip)) (Rs [Pp (.bsl 5 .jnode [] false),Mv 6 0,Pp (.app 7 .jnode (.tk 5) 6),Pp (.mov 2 (.tk 7))] .ret))
def mf:List RV:=[.t 2]
theorem mg:FnC Tryd.prog mw [] 0 hD Tryd.f72 me mf:=fnC Tryd.func72
def gP(N:Nat)(a:List aa):Ro:=
 chk (decide (0<Aa a)) (
  chk (decide ((Aa ([]:List aa)+Aa a)*80<=140737488355328)) (
   let b:=(([]:List aa)++a)
   some (.sl .jnode .own b,[])))
def gQ(N:Nat)(a:List aa):Ro:=gP N a
theorem lR(N:Nat)(b:List aa)(h:Tot (gQ N b) (λz=>∃(a:List aa)(rest:List ah),z.1.dimR=.sl .jnode (.may false) a∧z.2=rest∧de b (a))):∃r,bK b r:=mg.finP (N:=N) (by kernel_rfl) h λ_ ⟨a,_,e,_,q⟩=>⟨(a),e,q⟩
noncomputable def pK:am:=tab (P:=Tryd.prog) [] [] [] []
def o8:IR:=Rs [Pp (.mov 2 (.c (nl .str)))] (Sq (Rs [Mv 3 0,Pp (.snil 4 (.t 3))] (Cn 4 (Rs [Pp (.mov 2 (.c (nl .str)))] .ret) .skip)) (Rs [Pp (.bsl 5 .str [] false),Mv 6 0,Pp (.app 7 .str (.tk 5) 6),Pp (.mov 2 (.tk 7))] .ret))
def o9:List RV:=[.t 2]
theorem pa:FnC Tryd.prog pK [] 0 jO Tryd.f73 o8 o9:=fnC Tryd.func73
def jw(N:Nat)(a:Bss):Ro:=
 chk (decide (0<Aa a)) (
  chk (decide ((Aa ([]:Bss)+Aa a)*16<=140737488355328)) (
   let b:=(([]:Bss)++a)
   some (.sl .str .own b,[])))
def jx(N:Nat)(a:Bss):Ro:=jw N a
theorem oM(N:Nat)(b:Bss)(h:Tot (jx N b) (λz=>∃(a:Bss)(rest:List ah),z.1.dimR=.sl .str (.may false) a∧z.2=rest∧ek b (a))):∃r,bO b r:=pa.finP (N:=N) (by kernel_rfl) h λ_ ⟨a,_,e,_,q⟩=>⟨(a),e,q⟩
noncomputable def qH:am:=tab (P:=Tryd.prog) [] [] [] [mu,jQ]
def rR:IR:=Rs [Bi 16 .lss 15 14] (Sq (Cn 16 .skip (.exit 0)) (Sq (.block 1 (Rs [Mv 17 15,Mv 3 17] .bad)) (Rg [Bc 28 .add 15 1,Mv 15 28])))
def rS:IR:=Rs [Pp (.ld 29 5 true false 1),Sv 5 2 29] .ret
def abS:IR:=Rs [Pp (.box 1 0),Pp (.new 2 [vI 0,vI 0,vS,nl .jnode,nl .str])] (Sq (.reg [Fa 4 3 1,Fo [0] [] (.ld 5 1 false false 4),Ca 6 72 [5],Fa 7 4 1,Fo [0] [] (.ld 8 1 false false 7),Ca 9 73 [8],Fa 10 3 1,Fo [] [0] (.st none 1 10 (.tk 6)),Fa 11 4 1,Fo [] [0] (.st none 1 11 (.tk 9))] [[],[0],[0,1],[],[3],rg 0 4,rg 0 4,rg 0 6,rg 0 7,rg 0 8]) (Sq (Rs [Fa 12 3 1,Lo 13 12,Ll 14 13,Mi 15 0] (.block 0 (.loop [1,2,14,15,1000000] 2 rR))) rS))
def tM:List RV:=[.cell 2 5 true]
theorem abT:FnC Tryd.prog qH [] 0 vj Tryd.f36 abS tM:=fnC Tryd.func36
def aaV(R:IR->(Ex->St->Ro)->St->Ro)(a:St->Ro):Ex->St->Ro:=(dv a [1,2,14,15,1000000] 2 (aQ 0 (cj (R rS) (fin tM))))
abbrev ll:Type:=(Int×Int×Int×Int×Bs×List aa×Bss×Int×Int×Bs×List aa×Bss)
def kC(x:ll):St:={env:=(.undef::.ptr 0 0::.ptr 1 0::(U 11 (.int .i64 x.1::.int .i64 x.2.1::(U 14 [])))),hp:=[some [.int .i64 x.2.2.1,.int .i64 x.2.2.2.1,.str x.2.2.2.2.1,.sl .jnode (.may false) x.2.2.2.2.2.1,.sl .str (.may false) x.2.2.2.2.2.2.1],some [.int .i64 x.2.2.2.2.2.2.2.1,.int .i64 x.2.2.2.2.2.2.2.2.1,.str x.2.2.2.2.2.2.2.2.2.1,.sl .jnode .own x.2.2.2.2.2.2.2.2.2.2.1,.sl .str .own x.2.2.2.2.2.2.2.2.2.2.2]]}
def oN(N:Nat):(St->Ro)->St->Ro:=λa s=>run qH N rR (aaV (run qH N) a) s
def oO(N:Nat)(f:ll->Ro)(x:ll):Ro:=
 let h:Int:=x.1;let g:Int:=x.2.1;let b:Int:=x.2.2.1;let a:Int:=x.2.2.2.1;let d:Bs:=x.2.2.2.2.1;let c:List aa:=x.2.2.2.2.2.1;let e:Bss:=x.2.2.2.2.2.2.1;let k:Int:=x.2.2.2.2.2.2.2.1;let j:Int:=x.2.2.2.2.2.2.2.2.1;let m:Bs:=x.2.2.2.2.2.2.2.2.2.1;let i:List aa:=x.2.2.2.2.2.2.2.2.2.2.1;let o:Bss:=x.2.2.2.2.2.2.2.2.2.2.2
 cond (decide (g<h)) (
  none) (
  some (.agg [.int .i64 b,.int .i64 a,.str d,.sl .jnode (.may false) c,.sl .str (.may false) e],[some [.int .i64 b,.int .i64 a,.str d,.sl .jnode (.may false) c,.sl .str (.may false) e],some [.int .i64 b,.int .i64 a,.str d,.sl .jnode (.may false) c,.sl .str (.may false) e]]))
theorem aah(N:Nat):LB (oN N) kC (oO N):=λ_ _=>by kernel_rfl
def jW(N:Nat)(a:aa)(e:ll->Ro):Ro:=
 ae (bK a.l) (λ(b:List aa)=>
  ae (bO a.names) (λ(c:Bss)=>
   let d:=(↑(Aa b):Int)
   e (d,0,a.kind,a.n,a.s,b,c,0,0,([]:Bs),([]:List aa),([]:Bss))))
def tN(N:Nat)(a:aa):Ro:=jW N a (λz=>b8 N (oO N) z)
theorem aaW(N:Nat)(a:aa)(h:Tot (tN N a) (λz=>∃(c:aa)(rest:List ah),z.1.dimR=.agg (enc .jnode c)∧z.2=rest∧rH a (c))):∃r,vl a r:=abT.finP (N:=N) ((gb _ (by kernel_rfl) rfl (λC=>jW N a (λz=>C 1000000 (kC z))) (λC=>by kernel_rfl)).trans (BB (b:=jW N a (λz=>bP N (oN N) (kC z))) (by kernel_rfl) (congrArg (jW N a) (funext λz=>cL (kC) (oN N) (oO N) (aah N) N z)))) h λ_ ⟨c,_,e,_,q⟩=>⟨(c),e,q⟩
noncomputable def qI:am:=tab (P:=Tryd.prog) [] [] [] [zp,lJ,jQ]
def rT:IR:=Rs [Bi 16 .lss 15 14] (Sq (Cn 16 .skip (.exit 0)) (Sq (.block 1 (Rs [Mv 17 15,Mv 3 17] (.gh (.opn (.cell 0 3)) (.ghp (.cls (.cell 0 3)) (.reg [Fa 18 3 1,Fo [0] [] (.ld 19 1 false false 18),Mv 20 3,Fa 21 3 1,Fo [0] [] (.ld 22 1 false false 21),Mv 23 3,Pp (.ixw 24 .jnode 22 23),Fo [2] [] (.ldw 25 5 true 24),Ca 26 36 [25],Pp (.ixw 27 .jnode 19 20),Fo [] [2] (.stw none 5 27 26)] [[],[0],[],[],[3],[],[3,4,5],rg 3 6,rg 3 7,rg 0 8,rg 0 9]))))) (Rg [Bc 28 .add 15 1,Mv 15 28])))
def rU:IR:=Sq (.gh (.fz (.cell 0 3)) (Rg [Pp (.ld 29 5 true false 1),Sv 5 2 29])) .ret
def abU:IR:=Rs [Pp (.box 1 0),Pp (.new 2 [vI 0,vI 0,vS,nl .jnode,nl .str])] (Sq (.reg [Fa 4 3 1,Fo [0] [] (.ld 5 1 false false 4),Ca 6 72 [5],Fa 7 4 1,Fo [0] [] (.ld 8 1 false false 7),Ca 9 73 [8],Fa 10 3 1,Fo [] [0] (.st none 1 10 (.tk 6)),Fa 11 4 1,Fo [] [0] (.st none 1 11 (.tk 9))] [[],[0],[0,1],[],[3],rg 0 4,rg 0 4,rg 0 6,rg 0 7,rg 0 8]) (Sq (Rs [Fa 12 3 1,Lo 13 12,Pp (.lnw 14 13),Mi 15 0] (.block 0 (.loop [1,2,14,15,1000000] 2 rT))) rU))
def tO:List RV:=[.cell 2 5 true]
theorem abV:FnC Tryd.prog qI [] 0 vk Tryd.f36 abU tO:=fnC Tryd.func36
def aaX(R:IR->(Ex->St->Ro)->St->Ro)(a:St->Ro):Ex->St->Ro:=(dv a [1,2,14,15,1000000] 2 (aQ 0 (cj (R rU) (fin tO))))
abbrev lm:Type:=(Int×Int×Int×Int×Bs×List aa×Bss×Int×Int×Bs×List aa×Bss)
def kD(x:lm):St:={env:=(.undef::.ptr 0 0::.ptr 1 0::(U 11 (.int .i64 x.1::.int .i64 x.2.1::(U 14 [])))),hp:=[some [.int .i64 x.2.2.1,.int .i64 x.2.2.2.1,.str x.2.2.2.2.1,.ul .jnode x.2.2.2.2.2.1,.sl .str (.may false) x.2.2.2.2.2.2.1],some [.int .i64 x.2.2.2.2.2.2.2.1,.int .i64 x.2.2.2.2.2.2.2.2.1,.str x.2.2.2.2.2.2.2.2.2.1,.sl .jnode .own x.2.2.2.2.2.2.2.2.2.2.1,.sl .str .own x.2.2.2.2.2.2.2.2.2.2.2]]}
def oP(N:Nat):(St->Ro)->St->Ro:=λa s=>run qI N rT (aaX (run qI N) a) s
def ln(N:Nat)(g:lm->Ro)(x:lm):Ro:=
 let m:Int:=x.1;let b:Int:=x.2.1;let e:Int:=x.2.2.1;let d:Int:=x.2.2.2.1;let f:Bs:=x.2.2.2.2.1;let a:List aa:=x.2.2.2.2.2.1;let c:Bss:=x.2.2.2.2.2.2.1;let k:Int:=x.2.2.2.2.2.2.2.1;let i:Int:=x.2.2.2.2.2.2.2.2.1;let j:Bs:=x.2.2.2.2.2.2.2.2.2.1;let h:List aa:=x.2.2.2.2.2.2.2.2.2.2.1;let o:Bss:=x.2.2.2.2.2.2.2.2.2.2.2
 cond (decide (b<m)) (
  chk (decide (0<Aa a)) (
   chk ((decide (0<=b)&&decide (b<↑(Aa a)))) (
    chk (decide ((Ag b)<Aa a)) (
     let r:=(Aq a (Ag b) (ao .jnode))
     ae (iw (reJ r)) (λ(t:aa)=>
      chk ((decide (0<=b)&&decide (b<↑(Aa a)))) (
       chk (decide ((Ag b)<Aa a)) (
        let p:=(Bg a (Ag b) (reJ t))
        chk (Av (Aa a) (Aa p)) (
         let q:=(Ao .i64 (b+1))
         g (m,q,e,d,f,p,c,k,i,j,h,o))))))))) (
  some (.agg [.int .i64 e,.int .i64 d,.str f,.sl .jnode (.may false) a,.sl .str (.may false) c],[some [.int .i64 e,.int .i64 d,.str f,.sl .jnode .own a,.sl .str (.may false) c],some [.int .i64 e,.int .i64 d,.str f,.sl .jnode (.may false) a,.sl .str (.may false) c]]))
theorem aai(N:Nat):LB (oP N) kD (ln N):=λ_ _=>by kernel_rfl
def jX(N:Nat)(a:aa)(e:lm->Ro):Ro:=
 ae (bu a.l) (λ(b:List aa)=>
  ae (bO a.names) (λ(c:Bss)=>
   let d:=(↑(Aa b):Int)
   e (d,0,a.kind,a.n,a.s,b,c,0,0,([]:Bs),([]:List aa),([]:Bss))))
def tP(N:Nat)(a:aa):Ro:=jX N a (λz=>b8 N (ln N) z)
theorem aaY(N:Nat)(a:aa)(h:Tot (tP N a) (λz=>∃(c:aa)(rest:List ah),z.1.dimR=.agg (enc .jnode c)∧z.2=rest∧rI a (c))):∃r,vm a r:=abV.finP (N:=N) ((gb _ (by kernel_rfl) rfl (λC=>jX N a (λz=>C 1000000 (kD z))) (λC=>by kernel_rfl)).trans (BB (b:=jX N a (λz=>bP N (oP N) (kD z))) (by kernel_rfl) (congrArg (jX N a) (funext λz=>cL (kD) (oP N) (ln N) (aai N) N z)))) h λ_ ⟨c,_,e,_,q⟩=>⟨(c),e,q⟩
noncomputable def lS:am:=tab (P:=Tryd.prog) [] [] [] []
def lq:IR:=Rs [Pp (.mov 2 (.c (.ul .jnode ([]:List aa))))] (Sq (Rs [Mv 3 0,Pp (.snil 4 (.t 3))] (Cn 4 (Rs [Pp (.mov 2 (.c (.ul .jnode ([]:List aa))))] .ret) .skip)) (Rs [Pp (.blu 5 .jnode),Mv 6 0,Pp (.apu 7 .jnode (.tk 5) 6),Pp (.mov 2 (.tk 7))] .ret))
def lr:List RV:=[.t 2]
theorem lu:FnC Tryd.prog lS [] 0 gf Tryd.f72 lq lr:=fnC Tryd.func72
def fR(N:Nat)(a:List aa):Ro:=
 chk (decide (0<Aa a)) (
  chk (decide ((Aa ([]:List aa)+Aa a)*80<=140737488355328)) (
   let b:=(([]:List aa)++a)
   some (.ul .jnode b,[])))
def fS(N:Nat)(a:List aa):Ro:=fR N a
theorem kW(N:Nat)(b:List aa)(h:Tot (fS N b) (λz=>∃(a:List aa)(rest:List ah),z.1.dimR=.ul .jnode a∧z.2=rest∧cT b (a))):∃r,bu b r:=lu.finP (N:=N) (by kernel_rfl) h λ_ ⟨a,_,e,_,q⟩=>⟨(a),e,q⟩
section
open Go.AM Go.RowKit Go.Lib
set_option maxHeartbeats 2000000 in
theorem ae5(w:World):Calls Tryd.prog 73 #[.slice none 0 0] w λe w'=>e=.returned (.slice none 0 0)∧w'=w:=by
 have q:∀(w:World)(a:Option Addr)(n c d b:Nat),(binOp .eql 31 (.slice a n c) (.slice none d b)).run Tryd.prog w=.ok (.bool a.isNone) w:=λw a n c d b=>Cs w _ _ a n c d b Tryd.underlying31
 go_enter Tryd.func73,Tryd.ntmps73
 go_wp2
 go_ret
 exact⟨rfl,rfl⟩
set_option maxHeartbeats 2000000 in
theorem ad4(a:Addr)(c:Nat)(w:World):Calls Tryd.prog 73 #[.slice (some a) 0 c] w λe w'=>∃f,e=.returned f∧w'.ownsRow w.heap.size 9 1 f 0 []∧Below w.heap.size w w':=by
 have q:∀(w:World)(a:Option Addr)(n c h p:Nat),(binOp .eql 31 (.slice a n c) (.slice none h p)).run Tryd.prog w=.ok (.bool a.isNone) w:=λw a n c h p=>Cs w _ _ a n c h p Tryd.underlying31
 obtain⟨g,v,z⟩:∃i,Tryd.prog.info? 9=some i∧(i.zero,i.size,i.bytes)=(some (.string {data:= #[]}),1,16):=Ak.1 (show (Tryd.prog.info? 9).map (λi=>(i.zero,i.size,i.bytes))=some (some (.string {data:= #[]}),1,16) by kernel_rfl);obtain⟨r,m,o⟩:g.zero=some (.string {data:= #[]})∧g.size=1∧g.bytes=16:=by simpa using z
 have u:∀w,Sem.run Tryd.prog (underlying 31) w=.ok (TypeDesc.slice 9) w:=run_underlying Tryd.underlying31
 go_enter Tryd.func73,Tryd.ntmps73
 go_wp2_with (at_builtin;refine wpList_append_own _ rfl _ _ 31 rfl w.heap.size 9 g (.string {data:= #[]}) 1 16 Tryd.underlying31 v r m o rfl (by decide) _ _ _ rfl (World.ownsRow_made w #[] 0 (Aj _) (Bj _) rfl) a 0 c [] rfl rfl (by intro j u A;simp at A) (by intro u y;cases y) (by unfold maxLen;omega) (by omega) (by simp) ?_)
 intro f B d b t
 go_wp2
 go_ret
 refine⟨f,rfl,by simpa using d,?_⟩;exact((Below.refl _ w).alloc (Aj _) _).grown b (by simp) (by intro k x;simp[Value.ownBlock] at x;omega)
set_option maxHeartbeats 2000000 in
theorem ae6(w:World):Calls Tryd.prog 72 #[.slice none 0 0] w λe w'=>e=.returned (.slice none 0 0)∧w'=w:=by
 have q:∀(w:World)(a:Option Addr)(n c d b:Nat),(binOp .eql 30 (.slice a n c) (.slice none d b)).run Tryd.prog w=.ok (.bool a.isNone) w:=λw a n c d b=>Cs w _ _ a n c d b Tryd.underlying30
 go_enter Tryd.func72,Tryd.ntmps72
 go_wp2
 go_ret
 exact⟨rfl,rfl⟩
set_option maxHeartbeats 2000000 in
theorem ad5(a:Addr)(c:Nat)(w:World):Calls Tryd.prog 72 #[.slice (some a) 0 c] w λe w'=>∃f,e=.returned f∧w'.ownsRow w.heap.size 33 5 f 0 []∧Below w.heap.size w w':=by
 have q:∀(w:World)(a:Option Addr)(n c h p:Nat),(binOp .eql 30 (.slice a n c) (.slice none h p)).run Tryd.prog w=.ok (.bool a.isNone) w:=λw a n c h p=>Cs w _ _ a n c h p Tryd.underlying30
 obtain⟨g,v,z⟩:∃i,Tryd.prog.info? 33=some i∧(i.zero,i.size,i.bytes)=(some (.agg #[.int .i64 0,.int .i64 0,.string {data:= #[]},.slice none 0 0,.slice none 0 0]),5,80):=Ak.1 (show (Tryd.prog.info? 33).map (λi=>(i.zero,i.size,i.bytes))=some (some (.agg #[.int .i64 0,.int .i64 0,.string {data:= #[]},.slice none 0 0,.slice none 0 0]),5,80) by kernel_rfl);obtain⟨r,m,o⟩:g.zero=some (.agg #[.int .i64 0,.int .i64 0,.string {data:= #[]},.slice none 0 0,.slice none 0 0])∧g.size=5∧g.bytes=80:=by simpa using z
 have u:∀w,Sem.run Tryd.prog (underlying 30) w=.ok (TypeDesc.slice 33) w:=run_underlying Tryd.underlying30
 go_enter Tryd.func72,Tryd.ntmps72
 go_wp2_with (at_builtin;refine wpList_append_own _ rfl _ _ 30 rfl w.heap.size 33 g (.agg #[.int .i64 0,.int .i64 0,.string {data:= #[]},.slice none 0 0,.slice none 0 0]) 5 80 Tryd.underlying30 v r m o rfl (by decide) _ _ _ rfl (World.ownsRow_made w #[] 0 (Aj _) (Bj _) rfl) a 0 c [] rfl rfl (by intro j u A;simp at A) (by intro u y;cases y) (by unfold maxLen;omega) (by omega) (by simp) ?_)
 intro f B d b t
 go_wp2
 go_ret
 refine⟨f,rfl,by simpa using d,?_⟩;exact((Below.refl _ w).alloc (Aj _) _).grown b (by simp) (by intro k x;simp[Value.ownBlock] at x;omega)
theorem agu{P:Program}{g:Gh}{w w':World}(h:HR g [] w)(a:Below w.heap.size w w'):HR g [] w'∧FR g [] w g [] w':=by
 have lt:∀b j,g.I b j->b<w.heap.size:=by intro b j c;exact(h.exI b j c).lt
 have d:∀b j,g.I b j->w'.cell? ⟨b,j,none⟩=w.cell? ⟨b,j,none⟩:=by intro b j c;simp only[Bn,a.block b (lt b j c)]
 refine⟨⟨by simp,by simp,by simp,by simp,λb j c=>(h.exI b j c).blk (a.block b (lt b j c)),λb o f=>Ax (h.oLt b o f) a.size⟩,?_⟩;exact⟨rfl,a.os,a.tape,a.output,a.size,λb e _ _=>a.block b e,⟨λ_ _ h=>h,d,λ_ _=>rfl,Aj _⟩,λ_ _ _ _ _ h=>h,λ_ _ _ h=>h,λ_ cs h=>by simp at h⟩
theorem vx{k:EK}{f:FuncId}{e:TypeId}{n:Nat}(u:∀w,Calls Tryd.prog f #[.slice none 0 0] w λe w'=>e=.returned (.slice none 0 0)∧w'=w)
  (H:∀(a:Addr)(c:Nat)(w:World),Calls Tryd.prog f #[.slice (some a) 0 c] w λx w'=>∃p,x=.returned p∧w'.ownsRow w.heap.size e n p 0 []∧Below w.heap.size w w'):aI Tryd.prog f [.sl k (.may false) []] (.sl k (.may false) []):=by
 refine⟨[],?_⟩;intro w g j v o i r h;match j,i,h with
 |⟨[E]⟩,i,h=>
  have F:=h 0 (.sl k (.may false) []) E rfl rfl;have d:∀(a:Addr)(c:Nat),Calls Tryd.prog f #[.slice (some a) 0 c] w λx w'=>∃cv m,x=.returned cv∧HR m [] w'∧FR g [] w m [] w'∧VRel m.I m.ρ 0 w' (.sl k (.may false) []) cv∧ai m w' .res (.sl k (.may false) []) cv:=by
   intro a c;refine(H a c w).mono ?_;rintro x w' ⟨p,rfl,⟨-,D⟩,C⟩;obtain⟨t,y⟩:=agu (P:=Tryd.prog) o C;refine⟨p,g,rfl,t,y,?_,by simp[ai]⟩;rcases D with⟨rfl,_⟩|⟨b,cap,B,rfl,_,_,_,A,_⟩
   ·exact .sln _ _
   ·exact .sl k _ [] b 0 0 cap rfl (Bj _) (AF A (by decide)) (by simp) (λ_ _=>.bool false) (by simp) (by simp) (by simp)
  cases F with
  |sln=>refine(u w).mono ?_;rintro x w' ⟨rfl,rfl⟩;exact⟨_,g,rfl,o,FR.refl _ _ _,.sln _ _,by simp[ai]⟩
  |sle _ _ z=>exact d z 0
  |sl _ _ _ b q G cap J=>cases J;exact d ⟨b,q,none⟩ cap
theorem aaZ(l:List (List UInt8))(a:l.length<=1000000):∃r,bO l r:=by
 by_cases h:l=[]
 ·subst h;exact⟨[],vx ae5 ad4,rfl⟩
 ·apply oM 1;unfold jx jw;refine cI (decide_eq_true (Dd.2 h)) (cI (decide_eq_true (by simp;omega)) (ak ⟨_,_,rfl,rfl,by simp[ek]⟩))
theorem agv(l:List aa)(a:l.length<=1000000):∃r,bK l r:=by
 by_cases h:l=[]
 ·subst h;exact⟨[],vx ae6 ad5,rfl⟩
 ·apply lR 1;unfold gQ gP;refine cI (decide_eq_true (Dd.2 h)) (cI (decide_eq_true (by simp;omega)) (ak ⟨_,_,rfl,rfl,by simp[de]⟩))
theorem agw(l:List aa)(h:l≠[])(a:l.length<=1000000):∃r,bu l r:=by apply kW 1;unfold fS fR;refine cI (decide_eq_true (Dd.2 h)) (cI (decide_eq_true (by simp;omega)) (ak ⟨_,_,rfl,rfl,by simp[cT]⟩))
end
theorem rG.mono{m m':Nat}{t:ab}(h:rG m t)(d:m<=m'):rG m' t:=
 ⟨⟨h.items.1,by have:=h.items.2;omega⟩,λf a=>⟨⟨(h.fields f a).1.1,by have:=(h.fields f a).1.2.1;omega,(h.fields f a).1.2.2⟩,(h.fields f a).2⟩,h.nf,
   λb c=>⟨(h.branches b c).1,by have:=(h.branches b c).2;omega⟩,h.nb,h.ns,h.size,h.kind,h.nl,h.sl,h.fk⟩
theorem hU.keep{k c:List ab}{n:Nat}(o:∀(i:Nat) t,k[i]? =some t->t.kind<=11->∃g:ab,c[i]? =some g∧g.kind<=11)(m:∀(i:Nat) t,n<=i->k[i]? =some t->¬t.kind<=11->c[i]? =some t)
  {i:Int} {b:Nat} (h:hU k n i b):hU c n i b:=by
 induction h with
 |leaf i t e h d=>obtain⟨g,a,b⟩:=o _ t h d;exact .leaf i g e a b
 |arr i t b e f h d _ j=>exact .arr i t b e f (m _ t f h (by omega)) d j
 |uni i t w e f h d _ j=>exact .uni i t w e f (m _ t f h (by omega)) d j
theorem hU.low{f:List ab}{n e:Nat}(j:e<=n){i:Int}{b:Nat}(h:hU f n i b):hU f e i b:=by
 induction h with
 |leaf i t c h a=>exact .leaf i t c h a
 |arr i t b c g h a _ d=>exact .arr i t b c (by omega) h a d
 |uni i t w c g h a _ d=>exact .uni i t w c (by omega) h a d
theorem hU.pos{a:List ab}{n:Nat}{i:Int}{b:Nat}(h:hU a n i b):1<=b:=by cases h<;>omega
theorem hU.grow{c a:List ab}{e d:Int}{n:Nat}(g:gU c e a d)(f:d=0){i:Int}{b:Nat}(h:hU c n i b):hU a n i b:=
 h.keep (λi t h j=>⟨t,(g.old f i (Ad.1 h).1).trans h,j⟩) (λi t _ h _=>(g.old f i (Ad.1 h).1).trans h)
theorem w7.grow{c a:List ab}{e d:Int}(g:gU c e a d)(o:d=0){i:Nat}{t:ab}(h:w7 c i t):w7 a i t:=λf j=>by obtain⟨b,k,m⟩:=h f j;exact⟨b,k,m.grow g o⟩
theorem w7.nil{b:List ab}{i:Nat}{t:ab}(h:t.fields=[]):w7 b i t:=λf a=>by rw[h] at a;cases a
theorem gU.refl{a:List ab}{e:Int}(h:a.length<=60):gU a e a e:=
 ⟨Aj _,h,λh=>h,λ_ _ _=>rfl,λ_ i t c b=>by
  have:=(Ad.1 b).1;omega,λ_ i t c b=>by
  have:=(Ad.1 b).1;omega⟩
theorem gU.bad{b:List ab}{e c:Int}(h:b.length<=60)(a:c≠0):gU b e b c:=
 ⟨Aj _,h,λh=>absurd h a,λh=>absurd h a,λh=>absurd h a,λh=>absurd h a⟩
theorem gU.trans{ts ts1 ts2:List ab}{e e1 e2:Int}(h:gU ts e ts1 e1)(h':gU ts1 e1 ts2 e2):gU ts e ts2 e2 where
 len:=AF h.len h'.len
 cap:=h'.cap
 err:=λhe=>h.err (h'.err he)
 old:=λhe i hi=>by have:=h.len;rw[h'.old he i (by omega),h.old (h'.err he) i hi]
 new:=λhe i t hi ht=>by
  rcases AE i ts1.length with hl|hl;·rw[h'.old he i hl] at ht;exact(h.new (h'.err he) i t hi ht).mono h'.len
  ·exact h'.new he i t hl ht
 ext:=λhe i t hi ht=>by
  rcases AE i ts1.length with hl|hl;·rw[h'.old he i hl] at ht;exact(h.ext (h'.err he) i t hi ht).grow h' he
  ·exact h'.ext he i t hl ht
theorem gU.weak{c a:List ab}{e b d:Int}(h:gU c b a d)(g:b=0->e=0):gU c e a d:=
 ⟨h.len,h.cap,λf=>g (h.err f),h.old,h.new,h.ext⟩
theorem gU.push{ts:List ab}{e:Int}(h:ts.length<60)(t:ab)(ht:rG (ts.length+1) t)(hf:t.fields=[]):gU ts e (ts++[t]) e where
 len:=by simp
 cap:=by simp;omega
 err:=λh=>h
 old:=λ_ i hi=>by rw[Ap hi]
 new:=λ_ i t' hi ht'=>by
  rw[An hi] at ht';have hl:=(Ad.1 ht').1;simp only[Bh] at hl;have:i-ts.length=0:=by omega
  rw[this] at ht';simp only[AZ,Ae] at ht';subst ht';simpa using ht
 ext:=λ_ i t' hi ht'=>by
  rw[An hi] at ht';have hl:=(Ad.1 ht').1;simp only[Bh] at hl;have:i-ts.length=0:=by omega
  rw[this] at ht';simp only[AZ,Ae] at ht';subst ht';exact .nil hf
def ah8(a t:ab):Prop:=(a.kind<=11∧t.kind<=11)∨¬a.kind<=11
theorem hU.set{m:List ab}{a:Nat}{j t:ab}(k:m[a]? =some j)(d:ah8 j t){n:Nat}(g:a<n∨j.kind<=11){i:Int}{b:Nat}(h:hU m n i b):hU (m.set a t) n i b:=by
 have o:=(Ad.1 k).1;refine h.keep (λi u c f=>?_) (λi u p c f=>?_)
 ·by_cases e:a=i
  ·subst e;rw[k] at c;cases c;rcases d with d|d;·exact⟨t,BE o,d.2⟩
   ·exact absurd f d
  ·exact⟨u,by rw[AY e,c],f⟩
 ·have e:a≠i:=by
   rintro rfl;rw[k] at c;cases c;rcases g with g|g;·omega
   ·exact f g
  rw[AY e,c]
theorem gU.at_open{b a:List ab}{e d:Int}{c:ab}(h:gU (b++[c]) e a d)(f:d=0):a[b.length]? =some c:=by rw[h.old f b.length (by simp),An (Aj _)];simp
theorem gU.close{ts ts2:List ab}{e e2:Int}{t0 t:ab}(h:gU (ts++[t0]) e ts2 e2)(ht:rG ts2.length t)
  (hs:e2=0->ah8 t0 t) (hx:e2=0->w7 (ts2.set ts.length t) ts.length t):gU ts e (ts2.set ts.length t) e2 where
 len:=by have:=h.len;simp at this ⊢;omega
 cap:=by simpa using h.cap
 err:=h.err
 old:=λhe i hi=>by rw[AY (by omega),h.old he i (by simp;omega),Ap hi]
 new:=λhe i t' hi ht'=>by
  have hlen:=h.len;simp only[AG,Bh] at hlen;simp only[AB] at ht' ⊢;rcases Nat.lt_or_eq_of_le hi with hl|hl;·rw[AY (by omega)] at ht';exact h.new he i t' (by simp;omega) ht'
  ·subst hl;rw[BE (by omega)] at ht';cases ht';exact ht
 ext:=λhe i t' hi ht'=>by
  have hlen:=h.len;simp only[AG,Bh] at hlen;rcases Nat.lt_or_eq_of_le hi with hl|hl;·rw[AY (by omega)] at ht';intro f hf;obtain⟨b,b1,b2⟩:=h.ext he i t' (by simp;omega) ht' f hf;exact⟨b,b1,b2.set (h.at_open he) (hs he) (.inl hl)⟩
  ·subst hl;rw[BE (by omega)] at ht';cases ht';exact hx he
theorem dw.kids{b:Nat}{k n:Int}{s:List UInt8}{l:List aa}{names:List (List UInt8)}(h:dw b (.mk k n s l names)):
  s.length<=100∧l.length<=b∧names.length<=l.length∧(∀x∈names,x.length<=100)∧(k=6->names.length=l.length)∧∀c∈l,dw b c:=by
 cases h with
 |mk _ _ _ _ _ a e f g d i=>exact⟨a,e,f,g,d,i⟩
theorem aa0{name:List UInt8}{q:aa->Prop}:∀{names:List (List UInt8)}{l:List aa}{c:aa},aN name q names l->fL names l name=some c->q c
 | [],l,c,_,h=>by simp[fL] at h
 |x::b,[],c,_,h=>by simp[fL] at h
 |x::b,d::l,c,a,h=>by
  simp only[fL] at h;simp only[aN] at a;split at h;·rename_i e;cases h;exact a.1 e
  ·exact aa0 a.2 h
theorem dw.named{b:Nat}{k n:Int}{s:List UInt8}{l:List aa}{names:List (List UInt8)}(h:dw b (.mk k n s l names)){c:aa}(d:fL names l [110,97,109,101]=some c):iR c.s:=by
 cases h with
 |mk _ _ _ _ _ e i j m g o f a=>exact aa0 a d
theorem dw.eta{b:Nat}{c:aa}:dw b (.mk c.kind c.n c.s c.l c.names)↔dw b c:=by cases c;exact Iff.rfl
theorem cV(k n:Int)(s:List UInt8)(l:List aa)(names:List (List UInt8)):szJ (.mk k n s l names)=co l+1:=rfl
theorem abW:∀(l:List aa)(c:aa),c∈l->szJ c<=co l
 | [],c,h=>by cases h
 |d::l,c,h=>by
  rcases AL.1 h with rfl|h;·simp only[co];omega
  ·have:=abW l c h;simp only[co];omega
theorem dw.zero{b:Nat}:dw b (.mk 0 0 [] [] []):=.mk _ _ _ _ _ (by simp) (by simp) (by simp) (by simp) (by simp) (by simp) (by simp[aN]) (by simp[aN])
theorem dw.getD{b:Nat}{l:List aa}(h:∀c∈l,dw b c)(i:Nat):dw b (l.getD i (ao .jnode)):=by
 rw[Ah];cases a:l[i]? with
 |none=>exact dw.zero
 |some c=>exact h c (Af a)
theorem dw.up{b a:Nat}(e:b<=a):∀{c:aa},dw b c->dw a c:=by
 intro c h;induction h with
 |mk k n s l names d m o p j _ g f i=>exact .mk k n s l names d (AF m e) o p j i g f
theorem aC.kids{k n:Int}{s:List UInt8}{l:List aa}{names:List (List UInt8)}(h:aC (.mk k n s l names)):
  s.length<=100∧l.length<=8∧names.length<=l.length∧(∀x∈names,x.length<=100)∧(k=6->names.length=l.length)∧∀c∈l,aC c:=dw.kids h
theorem aC.eta{c:aa}:aC (.mk c.kind c.n c.s c.l c.names)↔aC c:=dw.eta
theorem aC.zero:aC (.mk 0 0 [] [] []):=dw.zero
theorem aC.getD{l:List aa}(h:∀c∈l,aC c)(i:Nat):aC (l.getD i (ao .jnode)):=dw.getD h i
theorem ad6:∀{names:List (List UInt8)}{l:List aa}{name:List UInt8}{c:aa},fL names l name=some c->c∈l
 | [],l,_,_,h=>by simp[fL] at h
 |x::a,[],_,_,h=>by simp[fL] at h
 |x::a,d::l,name,c,h=>by
  simp only[fL] at h;split at h;·simp at h;simp[h]
  ·exact AS _ (ad6 h)
theorem At.ext{e:List ab}{m:Nat}{a:Int}{c:List ab}(h:At e m a c):∃b,b<=m∧hU c 0 a b:=by obtain⟨b,d,f⟩:=h.2.1;exact⟨b,d,f.low (Bj _)⟩
theorem At.leaf{d b:List ab}{m:Nat}{a:Int}{t:ab}(g:1<=m)(c:0<=a)(h:b[a.toNat]? =some t)(e:t.kind<=11)(f:d=[]->a=0):At d m a b:=
 ⟨⟨c,by have:=(Ad.1 h).1;omega⟩,⟨1,g,.leaf a t c h e⟩,f⟩
theorem At.up{d c:List ab}{m m':Nat}{a:Int}(h:At d m a c)(j:m<=m'):At d m' a c:=by obtain⟨e,⟨b,i,f⟩,g⟩:=h;exact⟨e,⟨b,by omega,f⟩,g⟩
theorem ahn(k n:Int)(s:List UInt8)(names:List (List UInt8))(b:names.length<=1000000):∃r,iw (.mk k n s [] names) r:=by show ∃r,vl (.mk k n s [] names) r;apply aaW 2;unfold tN jW;refine ac (agv _ (by simp[aa.l])) ?_;rintro _ ⟨-,rfl⟩;refine ac (aaZ _ b) ?_;rintro r ⟨-,a⟩;obtain rfl:names=r:=Eq.symm a;refine ak ⟨.mk k n s [] names,_,rfl,rfl,rfl⟩
theorem ah9{l:List aa}{i:Nat}(h:i<l.length):l.set i (l.getD i (ao .jnode))=l:=by rw[Ah,Ac h];simp
theorem aho(k n:Int)(s:List UInt8)(l:List aa)(names:List (List UInt8))(v:l≠[])(E:l.length<=8)(b:names.length<=1000000)(u:∀c∈l,∃r,iw c r):∃r,iw (.mk k n s l names) r:=by
 show ∃r,vm (.mk k n s l names) r;apply aaY 100;unfold tP jX;refine ac (agw _ v (by show l.length<=_;omega)) ?_;rintro r ⟨-,m⟩;obtain rfl:l=r:=Eq.symm m;refine ac (aaZ _ b) ?_;rintro r ⟨-,m⟩;obtain rfl:names=r:=Eq.symm m;dsimp only[aa.l,aa.names,aa.kind,aa.n,aa.s];refine cn (λx=>match x with|(a,i,h,p,j,f,o,_,_,_,_,_)=>a=(l.length:Int)∧(0<=i∧i<=(l.length:Int))∧h=k∧p=n∧j=s∧f=l∧o=names) (λx=>((l.length:Int)-x.2.1).toNat) ?_ _ _ ⟨rfl,⟨by simp,by simp⟩,rfl,rfl,rfl,rfl,rfl⟩ (by simp;omega);rintro g ⟨a,i,h,p,j,f,o,B,C,y,A,D⟩ ⟨rfl,⟨t,z⟩,rfl,rfl,rfl,rfl,rfl⟩ e;dsimp only at e;unfold ln;dsimp only;refine af (λq=>?_) (λq=>ak ⟨.mk h p j f o,_,rfl,rfl,rfl⟩);have d:i<(f.length:Int):=of_decide_eq_true q;have b:i.toNat<f.length:=by omega
 refine vck ?_ (decide_eq_true (by omega));refine vck ?_ (by simp[t,d]);refine vck ?_ (decide_eq_true b);refine ac (u _ ?_) ?_;·rw[cq,Ah,Ac b];exact AO _
 rintro _ ⟨-,rfl⟩;rw[cq,cq,ah9 b];refine vck ?_ (by simp[t,d]);refine vck ?_ (decide_eq_true b);refine vck ?_ (BL _);have w:IntKind.i64.wrap (i+1)=i+1:=ax (i+1) (by omega);rw[w];exact e _ ⟨rfl,⟨by dsimp only;omega,by dsimp only;omega⟩,rfl,rfl,rfl,rfl,rfl⟩ (by simp only;omega)
theorem aia(c:aa)(h:aC c):∃r,iw c r:=by
 induction h with
 |mk k n s l names f d e m j o i g b=>
  by_cases a:l=[]
  ·subst a;exact ahn k n s names (by have:names.length<=0:=e;omega)
  ·exact aho k n s l names a d (by omega) b
theorem s6:∃r,dR r:=by apply abO 1;unfold vq vp;exact ak ⟨_,_,rfl,rfl,rfl⟩
theorem agx(k:Int):∃r,mG k r:=by
 apply acI 1;unfold xV xU;have b:¬(1<=k∧k<=14)->(∃(c:List UInt8)(rest:List ah),(V.str []).dimR=.str c∧([]:List ah)=rest∧jH k c):=λh=>⟨_,_,rfl,rfl,by simp only[jH,sA,if_neg h]⟩
 repeat' (first|(with_reducible refine af ?_ ?_<;>(intro a;(try simp only[bnl] at a);(try revert a;intro _)))|with_reducible refine cI ?_ ?_|with_reducible refine ak ?_|(refine ac s6 ?_;rintro _ ⟨-,rfl⟩;try dsimp only)|fail)
 ·exact b (by omega)
 ·exact b (by omega)
 ·have:([]::pQ:List (List UInt8)).length=15:=rfl;simp only[bnl,this];omega
 ·rename_i d e;refine⟨_,_,rfl,rfl,?_⟩;simp only[jH,sA];rw[if_pos (by omega)];have:k.toNat=(k-1).toNat+1:=by omega
  rw[this];rfl
theorem uQ(s:List UInt8)(d:s.length<=1000000):∃r,ix s r:=by
 apply acJ 1;unfold xX xW;dsimp only;refine af (λh=>?_) (λh=>ak ⟨_,_,rfl,rfl,?_⟩)
 ·refine ac (ahm s d) ?_;rintro _ ⟨-,rfl⟩;refine af (λa=>?_) (λa=>ak ⟨_,_,rfl,rfl,?_⟩)
  ·cases s with
   |nil=>simp at h
   |cons c l=>
    refine vck ?_ (by simp;omega);have e:A8 0 (A4 (Ag 1) (c::l))=[c]:=by simp
    rw[e];refine ac (qG _ c) ?_;rintro _ ⟨-,rfl⟩;refine ak ⟨_,_,rfl,rfl,?_⟩;have b:decide (Go.Lib.trimS (c::l) (jk++nD)=[])=true:=a;show qC jk c=i9 (c::l);simp only[i9];rw[b];simp
  ·have b:decide (Go.Lib.trimS s (jk++nD)=[])=false:=a;show false=i9 s;simp only[i9];rw[b];simp
 ·have:s=[]:=by simpa using h
  subst this;rfl
theorem ahp(s:List UInt8)(a:s.length<=1000000):∃r,jR s r:=by
 apply abP 1;unfold vt vr;refine ac (ack s a) ?_;rintro _ ⟨-,rfl⟩;have:=s5 s;dsimp only;have e:(if Go.Lib.lastIndexByte ⟨s.toArray⟩ 46<0 then 0 else Go.Lib.lastIndexByte ⟨s.toArray⟩ 46)=((ma s).toNat:Int):=by show (if ma s<0 then 0 else ma s)=_;split<;>omega
 rw[e];refine vck ?_ (by simp;omega);exact ak ⟨_,_,rfl,rfl,by show A8 0 (A4 (Ag ((ma s).toNat:Int)) s)=bm s;rw[Bz,B4];rfl⟩
theorem ahq(s:List UInt8)(a:s.length<=1000000):∃r,lH s r:=by apply abQ 1;unfold vw vu;refine ac (ack s a) ?_;rintro _ ⟨-,rfl⟩;have:=s5 s;dsimp only;have e:IntKind.i64.wrap (Go.Lib.lastIndexByte ⟨s.toArray⟩ 46+1)=ma s+1:=ax (ma s+1) (by omega);rw[e];refine vck ?_ (by simp;omega);exact ak ⟨_,_,rfl,rfl,by simp[ot,ahc]⟩
theorem afx(b:List ab)(i:Int):∃r,mc b i r:=by
 apply ad1 1;unfold zr zq
 repeat' (first|(with_reducible refine af ?_ ?_<;>(intro a;(try simp only[bnl] at a);(try revert a;intro _)))|with_reducible refine cI ?_ ?_|with_reducible refine ak ?_|(refine ac (agx _) ?_;rintro _ ⟨-,rfl⟩;try dsimp only)|fail)
 all_goals first|(first|(simp only[bnl,lnl];done)|(simp only[bnl,lnl];omega))|skip
 all_goals refine⟨_,_,rfl,rfl,?_⟩
 all_goals simp only[qE,zW]
 all_goals first|(rw[if_neg (by omega)];done)|(rw[if_pos (by omega)];simp_all;done)
theorem rh:∀(l:List (List UInt8))(s:List UInt8), -1<=cF l s∧cF l s<(l.length:Int)
 | [],s=>by simp[cF]
 |x::l,s=>by
  have:=rh l s;unfold cF;simp only[AD];split;·omega
  ·split<;>omega
theorem nM{α:Type}{l:List α}{i:Int}{d:α}(h:0<=i∧i<(l.length:Int)):l.drop i.toNat=l.getD i.toNat d::l.drop (i+1).toNat:=by
 have a:i.toNat<l.length:=by omega
 rw[BZ a,Ah,Ac a,show (i+1).toNat=i.toNat+1 by omega];rfl
theorem lT{α:Type}{l:List α}{i:Int}(h:(l.length:Int)<=i):l.drop i.toNat=[]:=List.drop_eq_nil_of_le (by omega)
theorem sH(l:List (List UInt8))(s:List UInt8)(v:l.length<=1000000):∃r,aE l s r:=by
 apply oL 1000001;unfold jv ch;refine cn (λx=>match x with|(a,s',n,i)=>a=l∧s'=s∧n=(l.length:Int)∧(0<=i∧i<=(l.length:Int))∧cF l s=(if cF (l.drop i.toNat) s<0 then -1 else cF (l.drop i.toNat) s+i)) (λx=>((l.length:Int)-x.2.2.2).toNat) ?_ _ _ ⟨rfl,rfl,rfl,⟨by simp,by simp⟩,?_⟩ (by simp;omega)
 ·rintro k ⟨a,s',n,i⟩ ⟨rfl,rfl,rfl,⟨p,u⟩,b⟩ o;dsimp only at o;unfold da;dsimp only;refine af (λh=>?_) (λh=>ak ⟨_,_,rfl,rfl,?_⟩)
  ·have f:i<(a.length:Int):=of_decide_eq_true h;have t:=nM (d:=(ao .str:List UInt8)) ⟨p,f⟩;rw[t] at b;refine vck ?_ (by simp[ixl,p,f]);refine af (λc=>ak ⟨_,_,rfl,rfl,?_⟩) (λc=>?_)
   ·have c:s'=a.getD i.toNat (ao .str):=of_decide_eq_true c;have j:cF (a.getD i.toNat (ao .str)::a.drop (i+1).toNat) s'=0:=by rw[cF,if_pos c.symm]
    rw[j] at b;show i=cF a s';rw[b];simp
   ·have c:¬s'=a.getD i.toNat (ao .str):=of_decide_eq_false c;have q:IntKind.i64.wrap (i+1)=i+1:=ax (i+1) (by omega);rw[q];refine o _ ⟨rfl,rfl,rfl,⟨by dsimp only;omega,by dsimp only;omega⟩,?_⟩ (by simp only;omega);have j:cF (a.getD i.toNat (ao .str)::a.drop (i+1).toNat) s'=if cF (a.drop (i+1).toNat) s'<0 then -1 else cF (a.drop (i+1).toNat) s'+1:=by rw[cF,if_neg (λe=>c e.symm)]
    rw[j] at b;have:=rh (a.drop (i+1).toNat) s';dsimp only;rw[b];by_cases m:cF (a.drop (i+1).toNat) s'<0;·simp[m]
    ·simp only[m,if_false];rw[if_neg (by omega)];omega
  ·have g:(a.length:Int)<=i:=by have:=of_decide_eq_false h;omega
   rw[lT g] at b;simpa [ej,cF] using b.symm
 ·have:=rh l s;simp only[Int.toNat_zero,B4];split<;>omega
theorem ya(l:List (List UInt8))(s:List UInt8)(a:l.length<=1000000):∃r,bq l s r:=by apply mM 1;unfold iB iA;refine ac (sH l s a) ?_;rintro _ ⟨-,rfl⟩;exact ak ⟨_,_,rfl,rfl,rfl⟩
theorem agy(s:List UInt8)(a:s.length<=1000000):∃r,eb s r:=by apply sg 1;unfold mO mN;refine ac (uQ s a) ?_;rintro _ ⟨-,rfl⟩;exact ak ⟨_,_,rfl,rfl,rfl⟩
theorem acQ(l:List (List UInt8))(v:l.length<=1000000)(o:∀x∈l,x.length<=1000000):∃r,aJ l r:=by
 apply gw 1000001;unfold cQ aH;refine cn (λx=>match x with|(b,n,i)=>b=l∧n=(l.length:Int)∧(0<=i∧i<=(l.length:Int))∧(l.any λs=> !i9 s)=((l.drop i.toNat).any λs=> !i9 s)) (λx=>((l.length:Int)-x.2.2).toNat) ?_ _ _ ⟨rfl,rfl,⟨by simp,by simp⟩,by simp⟩ (by simp;omega);rintro g ⟨b,n,i⟩ ⟨rfl,rfl,⟨h,u⟩,a⟩ k;dsimp only at k;unfold aY;dsimp only;refine af (λf=>?_) (λf=>ak ⟨_,_,rfl,rfl,?_⟩)
 ·have c:i<(b.length:Int):=of_decide_eq_true f;have p:=nM (d:=(ao .str:List UInt8)) ⟨h,c⟩;have q:b.getD i.toNat (ao .str)∈b:=by
   have t:i.toNat<b.length:=by omega
   rw[Ah,Ac t];exact AO _
  rw[p,List.any_cons] at a;refine vck ?_ (by simp[ixl,h,c]);refine ac (agy _ (o _ q)) ?_;rintro _ ⟨-,rfl⟩;refine af (λj=>ak ⟨_,_,rfl,rfl,?_⟩) (λj=>?_);·rw[j] at a;show decide (0<=i)=_;rw[a];simp[h]
  ·rw[j] at a;have m:IntKind.i64.wrap (i+1)=i+1:=ax (i+1) (by omega);rw[m];exact k _ ⟨rfl,rfl,⟨by dsimp only;omega,by dsimp only;omega⟩,by simpa using a⟩ (by simp only;omega)
 ·have e:(b.length:Int)<=i:=by have:=of_decide_eq_false f;omega
  rw[lT e] at a;show decide (0<=(-1:Int))=_;rw[a];rfl
theorem aaj(l:List (List UInt8))(b:l.length<=1000000)(c:∀x∈l,x.length<=1000000):∃r,av l r:=by apply fD 1;unfold cu ct;refine ac (acQ l b c) ?_;intro r a;exact ak ⟨_,_,rfl,rfl,a.2⟩
theorem ad7:∀(names:List (List UInt8))(l:List aa)(s:List UInt8),fL names l s=if cF names s<0 then none else l[(cF names s).toNat]?
 | [],l,s=>by simp[fL,cF]
 |x::a,[],s=>by simp[fL]
 |x::a,c::l,s=>by
  have:=rh a s;unfold fL cF;by_cases h:x=s;·simp[h]
  ·simp only[if_neg h,ad7 a l s];by_cases b:cF a s<0;·simp[b]
   ·simp only[b,if_false];rw[if_neg (by omega),show (cF a s+1).toNat=(cF a s).toNat+1 by omega,AR]
theorem gY(n:aa)(name:List UInt8)(p:n.names.length<=1000000):∃r,b9 n name r:=by
 apply ad3 1;unfold zu zt;dsimp only;have j:(if n.kind=6 then fL n.names n.l name else none)=none->∃(m:aa)(k:Bool)(rest:List ah),(V.tup [.agg [.int .i64 0,.int .i64 0,.str [],.sl .jnode (.may true) [],.sl .str (.may true) []],.bool false]).dimR=.tup [.agg (enc .jnode m),.bool k]∧[some [.int .i64 0,.int .i64 0,.str [],.sl .jnode (.may true) [],.sl .str (.may true) []]]=rest∧kF n name (m,k):=λe=>⟨.mk 0 0 [] [] [],false,_,rfl,rfl,by simp only[kF,a7,e];rfl⟩
 refine af (λh=>ak (j (by rw[if_neg (by simpa using h)]))) (λh=>?_);have b:n.kind=6:=by simpa using h
 refine ac (sH _ _ p) ?_;rintro _ ⟨-,rfl⟩;have g:=ad7 n.names n.l name;refine af (λa=>ak (j (by rw[if_pos b,g,if_pos (of_decide_eq_true a)]))) (λa=>?_);have i:=of_decide_eq_false a;rw[if_neg i] at g;refine af (λd=>ak (j (by rw[if_pos b,g,List.getElem?_eq_none_iff];have:=of_decide_eq_true d;omega))) (λd=>?_);have o:=of_decide_eq_false d;refine vck ?_ (by simp only[ixl,Ab,decide_eq_true_eq];omega);have f:(cF n.names name).toNat<n.l.length:=by omega
 refine ak ⟨n.l.getD (cF n.names name).toNat (ao .jnode),true,_,?_,rfl,?_⟩;·generalize n.l.getD (cF n.names name).toNat (ao .jnode)=c;cases c;rfl
 ·simp only[kF,a7,if_pos b,g];rw[Ah,Ac f];rfl
theorem gz(h:List (List UInt8×Int))(g:List ab)(e d:Int)(b:Bool)(c:Int):∃r,ag h g e d b c r:=by
 apply uH 1;unfold pv pu;dsimp only;refine af (λa=>af (λf=>ak ⟨_,_,_,_,_,rfl,rfl,?_⟩) λf=>ak ⟨_,_,_,_,_,rfl,rfl,?_⟩) λa=>ak ⟨_,_,_,_,_,rfl,rfl,?_⟩
 ·simp only[d5,au,a,beq_iff_eq.1 f,and_self,if_true]
 ·have:e≠0:=by simpa using f
  simp only[d5,au,this,and_false,if_false]
 ·simp only[d5,au,a,false_and,if_false,CJ]
theorem bT(m:MS)(b:Bool)(c:Int):∃r,ag m.1 m.2.1 m.2.2.1 m.2.2.2 b c r:=gz _ _ _ _ b c
theorem bU{m:MS}{b:Bool}{c:Int}{r:MS}(h:ag m.1 m.2.1 m.2.2.1 m.2.2.2 b c r):r=au m b c:=h.2
theorem ad8(c:List (List UInt8×Int))(a:List ab)(e d:Int)(t:ab)(o:a.length<=60):∃r,bS c a e d t r:=by
 apply xL 1;unfold qY qX;dsimp only;refine ac (gz _ _ _ _ _ _) ?_;rintro _ ⟨-,rfl⟩;have j:decide ((60:Int)<=(a.length:Int))=decide (60<=a.length):=by
  by_cases h:60<=a.length;·rw[decide_eq_true h,decide_eq_true (by omega)]
  ·rw[decide_eq_false h,decide_eq_false (by omega)]
 rw[j];by_cases h:e≠0∨60<=a.length
 ·have g:(au (c,a,e,d) (decide (60<=a.length)) 3).2.2.1 ≠0:=by
   simp only[au];by_cases b:e=0;·rw[if_pos ⟨decide_eq_true (by rcases h with h|h;exact absurd b h;exact h),b⟩];decide
   ·rw[if_neg (λk=>b k.2)];exact b
  refine af (λ_=>ak ⟨_,_,_,_,_,_,rfl,rfl,?_⟩) (λf=>absurd (by simpa using f) g);simp only[iG,bX];rw[if_pos h]
 ·have b:e=0:=by omega
  have m:¬60<=a.length:=by omega
  subst b;have i:au (c,a,(0:Int),d) (decide (60<=a.length)) 3=(c,a,0,d):=by simp only[au,decide_eq_false m,CJ,false_and,if_false]
  rw[i];refine af (λf=>absurd f (by simp)) (λ_=>?_);refine vck ?_ (decide_eq_true (by simp;omega));refine ak ⟨_,_,_,_,_,_,rfl,rfl,?_⟩;simp only[iG,bX];rw[if_neg h];have:IntKind.i64.wrap (((a++[t]).length:Int)-1)=(a.length:Int):=by rw[ax _ (by simp;omega)];simp
  rw[this]
theorem ad9(m:MS)(t:ab)(a:m.2.1.length<=60):∃r,bS m.1 m.2.1 m.2.2.1 m.2.2.2 t r:=ad8 _ _ _ _ t a
theorem aea{m:MS}{t:ab}{r:Int×MS}(h:bS m.1 m.2.1 m.2.2.1 m.2.2.2 t r):r=bX m t:=h.2
theorem aeb(c:List (List UInt8×Int))(a:List ab)(e d:Int)(n:aa)(b:n.names.length<=1000000):∃r,eT c a e d n r:=by apply wo 1;unfold ql qk;rw[cq];refine ac (gY n _ b) ?_;rintro _ ⟨-,rfl⟩;refine ac (gz _ _ _ _ _ _) ?_;rintro _ ⟨-,rfl⟩;exact ak ⟨_,_,_,_,_,_,rfl,rfl,rfl⟩
theorem aib(k:Nat)(s:List UInt8):(Go.Lib.splitK [46] 0 k s).length<=k+1:=by
 induction k generalizing s with
 |zero=>simp[Go.Lib.splitK]
 |succ k a=>
  unfold Go.Lib.splitK;split;·simp
  ·simpa using a _
theorem zv(s:List UInt8)(d:s.length<=100000):(Go.Lib.split s [46]).length<=1000000∧∀x∈Go.Lib.split s [46],x.length<=1000000:=by
 have a:=aib (Go.Lib.count s [46]) s;have c:Go.Lib.count s [46]<=s.length:=by rw[Go.Lib.count_one];exact List.count_le_length
 refine⟨AF a (by omega),λx b=>?_⟩;have:=uP _ s x b;omega
theorem uR(g:List (List UInt8×Int))(k:List ab)(e d:Int)(name a:List UInt8)(A:name.length<=1000)(y:a.length<=10000):∃r,dm g k e d name a r:=by
 apply uK 1;unfold pz py;dsimp only;refine ac (qG _ 46) ?_;rintro _ ⟨-,rfl⟩
 have b:∀c:List UInt8,c.length<=100000->c=(if qC name 46=false∧a≠[] then a++[46]++name else name)->
   Tot (ae (eJ c [46]) λw=>ae (av w) λx=>ae (ag g k e d x 6) λf=>
    (some (.str c,[some [.mp .sn f.1],some [.ul .atype f.2.1,.mr 0,.int .i64 f.2.2.1,.int .i64 f.2.2.2]]):Ro))
    (λz=>∃(u:Bs)(q:List (Bs×Int))(o:List ab)(p t:Int)(rest:List ah),z.1.dimR=.str u∧z.2=some [.mp .sn q]::some [.ul .atype o,.mr 0,.int .i64 p,.int .i64 t]::rest∧gH g k e d name a (u,q,o,p,t)):=by
  intro c m v;refine ac (agt c m) ?_;rintro _ ⟨-,rfl⟩;refine ac (aaj _ (zv c m).1 (zv c m).2) ?_;rintro _ ⟨-,rfl⟩;refine ac (gz _ _ _ _ _ _) ?_;rintro _ ⟨-,rfl⟩;refine ak ⟨_,_,_,_,_,_,rfl,rfl,?_⟩;simp only[gH,ja];rw[<-v]
 refine af (λj=>af (λi=>?_) λi=>?_) λj=>?_
 ·refine vck ?_ (decide_eq_true (by simp;omega));refine vck ?_ (decide_eq_true (by simp;omega));refine b _ (by simp;omega) ?_;rw[if_pos ⟨by simpa using j,by simpa using i⟩]
 ·refine b _ (by omega) ?_;rw[if_neg (λh=>h.2 (by simpa using i))]
 ·refine b _ (by omega) ?_;rw[if_neg (λh=>absurd (h.1.symm.trans (show qC name 46=true by simpa using j)) (by decide))]
theorem aa1(c:List (List UInt8×Int))(j:List ab)(e d:Int)(s a:List UInt8)(w:s.length<=1000)(x:a.length<=10000):∃r,d8 c j e d s a r:=by
 apply uL 1;unfold pB pA;dsimp only
 have b:¬(a≠[]∧qC s 46=false∧(aU (k:=.sn) c (a++[46]++s)).isSome=true)->
   Tot (ae (ag c j e d (!(aU (k:=.sn) c s).isSome) 4) λf=>(some (.int .i64 (iy (k:=.sn) c s),[some [.mp .sn f.1],some [.ul .atype f.2.1,.mr 0,.int .i64 f.2.2.1,.int .i64 f.2.2.2]]):Ro))
    (λz=>∃(u:Int)(p:List (Bs×Int))(q:List ab)(v t:Int)(rest:List ah),z.1.dimR=.int .i64 u∧z.2=some [.mp .sn p]::some [.ul .atype q,.mr 0,.int .i64 v,.int .i64 t]::rest∧d6 c j e d s a (u,p,q,v,t)):=by
  intro o;refine ac (gz _ _ _ _ _ _) ?_;rintro _ ⟨-,rfl⟩;refine ak ⟨_,_,_,_,_,_,rfl,rfl,?_⟩;simp only[d6,jI];rw[if_neg o]
 refine af (λi=>?_) λi=>b (λh=>h.1 (by simpa using i))
 refine ac (qG _ 46) ?_;rintro _ ⟨-,rfl⟩;refine af (λm=>?_) λm=>b (λh=>absurd (h.2.1.symm.trans (show qC s 46=true by simpa using m)) (by decide))
 refine vck ?_ (decide_eq_true (by simp;omega));refine vck ?_ (decide_eq_true (by simp;omega));refine af (λg=>?_) λg=>b (λh=>by rw[g] at h;exact absurd h.2.2 (by decide))
 refine ak ⟨_,_,_,_,_,_,rfl,rfl,?_⟩;simp only[d6,jI];rw[if_pos ⟨by simpa using i,by simpa using m,g⟩]
theorem acl(j:List (List UInt8×Int))(g:List ab)(e d:Int)(s a:List UInt8)(k:g.length<=60)(f:s.length<=1000)(i:a.length<=10000):∃r,eS j g e d s a r:=by
 apply wz 1;unfold qn qm;dsimp only;refine ac s6 ?_;rintro _ ⟨-,rfl⟩;refine ac (sH _ _ (by decide)) ?_;rintro _ ⟨-,rfl⟩;refine af (λc=>af (λb=>?_) λb=>?_) λc=>?_
 ·refine ac (ad8 _ _ _ _ _ k) ?_;rintro _ ⟨-,rfl⟩;refine ak ⟨_,_,_,_,_,_,rfl,rfl,?_⟩;simp only[eF,fc];rw[if_pos ⟨of_decide_eq_true c,of_decide_eq_true b⟩];rfl
 ·refine ac (aa1 _ _ _ _ _ _ f i) ?_;rintro _ ⟨-,rfl⟩;refine ak ⟨_,_,_,_,_,_,rfl,rfl,?_⟩;simp only[eF,fc];rw[if_neg (λh=>of_decide_eq_false b h.2)]
 ·refine ac (aa1 _ _ _ _ _ _ f i) ?_;rintro _ ⟨-,rfl⟩;refine ak ⟨_,_,_,_,_,_,rfl,rfl,?_⟩;simp only[eF,fc];rw[if_neg (λh=>of_decide_eq_false c h.1)]
theorem uS(k:List (List UInt8×Int))(p:List ab)(e d:Int)(n:aa)(z:n.l.length<=1000):∃r,dn k p e d n r:=by
 apply uJ 2000;unfold px fC;refine ac (gz _ _ _ _ _ _) ?_;rintro _ ⟨-,rfl⟩;refine cn (λx=>match x with|(a,l,c,i,m)=>l=n.l∧c=(n.l.length:Int)∧(0<=i∧i<=(n.l.length:Int))∧a=(n.l.take i.toNat).map aa.s∧tl n.l (au (k,p,e,d) (!(n.kind==5)) 2)=tl (n.l.drop i.toNat) m) (λx=>((n.l.length:Int)-x.2.2.2.1).toNat) ?_ _ _ ⟨rfl,rfl,⟨by simp,by simp⟩,by simp,by simp⟩ (by simp;omega);rintro j ⟨a,l,c,i,m⟩ ⟨rfl,rfl,⟨q,y⟩,rfl,f⟩ o;dsimp only at o;unfold im;dsimp only;refine af (λh=>?_) (λh=>ak ⟨_,_,_,_,_,_,rfl,rfl,?_⟩)
 ·have b:i<(n.l.length:Int):=of_decide_eq_true h;have t:i.toNat<n.l.length:=by omega
  have w:=nM (d:=(ao .jnode:aa)) ⟨q,b⟩;rw[w] at f;refine vck ?_ (by simp[ixl,q,b]);refine ac (bT m _ _) ?_;intro r v;obtain rfl:=bU v;refine vck ?_ (decide_eq_true (by simp;omega));have u:IntKind.i64.wrap (i+1)=i+1:=ax (i+1) (by omega);rw[u];refine o _ ⟨rfl,rfl,⟨by dsimp only;omega,by dsimp only;omega⟩,?_,?_⟩ (by simp only;omega);·dsimp only;rw[show (i+1).toNat=i.toNat+1 by omega,List.take_succ,BT,Ac t,Ah,Ac t];rfl
  ·exact f
 ·have g:(n.l.length:Int)<=i:=by have:=of_decide_eq_false h;omega
  rw[lT g] at f;simp only[jK,dF];rw[f,Cp (by omega)];rfl
theorem aic(g:List (List UInt8×Int))(c:List ab)(e d:Int)(a s:List UInt8)(b:s.length<=1000)(f:a.length<=10000):∃r,fx g c e d a s r:=by apply tJ 1;unfold oJ oH;refine ac (uR _ _ _ _ _ _ b f) ?_;rintro _ ⟨-,rfl⟩;exact ak ⟨_,_,_,_,_,_,_,rfl,rfl,rfl⟩
theorem agz(b:List (List UInt8×Int))(a:List ab)(e d:Int)(s:List UInt8)(c:s.length<=1000):∃r,ec b a e d s r:=by apply sf 1;unfold mL mK;refine ac (uQ _ (by omega)) ?_;rintro _ ⟨-,rfl⟩;refine ac (gz _ _ _ _ _ _) ?_;rintro _ ⟨-,rfl⟩;exact ak ⟨_,_,_,_,_,_,rfl,rfl,rfl⟩
theorem lU{k:MK}:∀(es:List (k.K×k.T))(x y:k.K)(v:k.T),aU (bz es x v) y=if x=y then some v else aU es y
 | [],x,y,v=>rfl
 |e::r,x,y,v=>by
  unfold bz;by_cases h:e.1=x
  ·rw[if_pos h];unfold aU;by_cases a:x=y;·simp[a]
   ·rw[if_neg a,if_neg a,if_neg (λb=>a (h.symm.trans b))]
  ·rw[if_neg h];unfold aU;rw[lU r x y v];by_cases a:e.1=y;·rw[if_pos a,if_pos a,if_neg (λb=>h (a.trans b.symm))]
   ·rw[if_neg a,if_neg a]
def dL(m:MS):Prop:=∀(x:List UInt8)(i:Int),aU (k:=.sn) m.1 x=some i->0<=i∧i<(m.2.1.length:Int)
structure aG(m m':MS):Prop where
 map:dL m->dL m'
 len:m.2.1.length<=m'.2.1.length
 cap:m.2.1.length<=60->m'.2.1.length<=60
 dep:m'.2.2.2=m.2.2.2
 err:m'.2.2.1=0->m.2.2.1=0
 stay:m.2.2.1≠0->m'.2.2.1=m.2.2.1
theorem aG.refl(m:MS):aG m m:=⟨id,Aj _,id,rfl,id,λ_=>rfl⟩
theorem aG.trans{a b c:MS}(h:aG a b)(k:aG b c):aG a c:=⟨λx=>k.map (h.map x),AF h.len k.len,λx=>k.cap (h.cap x),k.dep.trans h.dep,λx=>h.err (k.err x),λd=>(k.stay (by rw[h.stay d];exact d)).trans (h.stay d)⟩
theorem ap(m:MS)(b:Bool)(c:Int)(a:c≠0:=by decide):aG m (au m b c):=by
 refine⟨id,Aj _,id,rfl,?_,λh=>if_neg λd=>h d.2⟩;simp only[au];intro h;split at h;·exact absurd h a
 ·exact h
theorem db{m:MS}{b:Bool}{c:Int}(h:(au m b c).2.2.1 =0)(a:c≠0:=by decide):b=false∧au m b c=m:=by
 have f:=(ap m b c a).err h;simp only[au,f,and_true] at h ⊢;cases b with
 |true=>exact absurd (by simpa using h) a
 |false=>obtain⟨m0,g,e,d⟩:=m;cases f;exact⟨rfl,by simp⟩
theorem acm(m:MS)(t:ab):((bX m t).2.2.2.1 ≠0∧(bX m t).1 =0∧(bX m t).2.2.1 =m.2.1∧(bX m t).2.1 =m.1∧(bX m t).2.2.2.2 =m.2.2.2)∨(m.2.2.1=0∧m.2.1.length<60∧bX m t=((m.2.1.length:Int),m.1,m.2.1++[t],0,m.2.2.2)):=by
 unfold bX;split
 ·rename_i h;left;refine⟨?_,rfl,rfl,rfl,rfl⟩;intro a;have c:=db (m:=m) a;have d:=(ap m (decide (60<=m.2.1.length)) 3).err a;rcases h with h|h;·exact h d
  ·have:=of_decide_eq_false c.1;exact this h
 ·rename_i h;right;have a:m.2.2.1=0:=by
   by_cases b:m.2.2.1=0;·exact b
   ·exact absurd (.inl b) h
  exact⟨a,by by_cases b:60<=m.2.1.length;exact absurd (.inr b) h;omega,by rw[a]⟩
theorem aid(m:MS)(t:ab)(h:m.2.2.1≠0):(bX m t).2.2.2.1 =m.2.2.1:=by unfold bX;rw[if_pos (.inl h)];exact(ap m _ 3).stay h
theorem lV(m:MS)(t:ab):aG m (bX m t).2 :=by
 have f:=aid m t;rcases acm m t with⟨b,e,a,g,d⟩|⟨b,e,a⟩
 ·exact⟨λh x i c=>by rw[a];rw[g] at c;exact h x i c,by rw[a];exact Aj _,λh=>by rw[a];exact h,d,λh=>absurd h b,f⟩
 ·rw[a];exact⟨λh x i c=>by have:=h x i c;simp;omega,by simp,λ_=>by simp;omega,rfl,λ_=>b,λh=>absurd b h⟩
theorem add_zero{m:MS}{t:ab}(h:(bX m t).2.2.2.1 =0):m.2.2.1=0∧m.2.1.length<60∧bX m t=((m.2.1.length:Int),m.1,m.2.1++[t],0,m.2.2.2):=by
 rcases acm m t with⟨b,_⟩|a;·exact absurd h b
 ·exact a
theorem oQ(m:MS)(a b:List UInt8):aG m (ja m a b).2 :=ap _ _ _
theorem agA(m:MS)(a b:List UInt8):aG m (jI m a b).2 :=by
 unfold jI;split;·exact aG.refl _
 ·exact ap _ _ _
theorem yb(m:MS)(a b:List UInt8):aG m (fc m a b).2 :=by
 unfold fc;split;·exact lV _ _
 ·exact agA _ _ _
theorem zw:∀(l:List aa)(m:MS),aG m (tl l m)
 | [],m=>aG.refl _
 |x::l,m=>(ap m _ 2).trans (zw l _)
theorem aa2(m:MS)(n:aa):aG m (dF m n).2 :=(ap m _ 2).trans (zw _ _)
theorem sI(m:MS)(n:aa):aG m (mb m n).2 :=ap _ _ _
theorem s7{a:MS->List UInt8->List UInt8×MS}(c:∀m s,aG m (a m s).2):∀(b l:List (List UInt8))(m:MS),aG m (gc a b l m).2
 | [],l,m=>aG.refl _
 |s::b,l,m=>by
  unfold gc;split;·exact(c m s).trans (s7 c b _ _)
  ·exact s7 c b _ _
theorem rV{a:MS->List UInt8->List UInt8×MS}(b:∀m s,aG m (a m s).2)(m:MS)(n:aa):aG m (aD a m n).2 :=by
 simp only[aD];split;·exact(aa2 m _).trans (s7 b _ _ _)
 ·exact aG.refl _
theorem acn(a:List UInt8)(m:MS)(s:List UInt8):aG m (dy a m s).2 :=oQ _ _ _
theorem ae7(m:MS)(s:List UInt8):aG m (jJ m s).2 :=ap _ _ _
def dW(T:TF):Prop:=∀m n a,aG m (T m n a).2
theorem nN(m:MS)(i:Int)(f:ab->ab):aG m (atT m i f):=⟨λh x j a=>by have:=h x j a;simpa [atT] using this,by simp[atT],by simp[atT],rfl,id,λ_=>rfl⟩
theorem aa3{T:TF}(b:dW T)(m:MS)(n:aa)(k:Int)(u a:List UInt8):aG m (dG T m n k u a).2 :=by
 simp only[dG];have h:=((lV m (fb k)).trans (ap _ (!(a7 n u).2) 2)).trans (b _ (a7 n u).1 a);split;·exact h.trans (nN _ _ _)
 ·exact h
theorem mP{T:TF}(c:dW T)(a:List UInt8):∀(xs:List aa)(l:List Int)(b:List (List UInt8×Bool))(m:MS),aG m (eE T a xs l b m).2
 | [],l,b,m=>aG.refl _
 |x::xs,l,b,m=>by
  unfold eE;split
  ·dsimp only;split;·exact((c m x a).trans (ap _ _ 6)).trans (mP c a xs _ _ _)
   ·exact c m x a
  ·exact aG.refl _
theorem aa4{T:TF}(b:dW T)(m:MS)(n:aa)(a:List UInt8):aG m (di T m n a).2 :=by
 simp only[di];have h:=(((lV m (fb 14)).trans (ap _ (decide (n.l.length=0)) 6)).trans (ap _ (decide (30<n.l.length)) 3)).trans (mP b a n.l [] [] _);split;·exact h.trans (nN _ _ _)
 ·exact h
theorem aco(m:MS)(n:aa)(names:List (List UInt8×Bool)):aG m (au (au (au (mb (au m (!(n.kind==6)) 2) n).2 (!i9 (mb (au m (!(n.kind==6)) 2) n).1) 6) (iy (k:=.sb) names (mb (au m (!(n.kind==6)) 2) n).1) 5) (!(a7 n [116,121,112,101]).2) 2):=
 ((((ap m _ 2).trans (sI _ _)).trans (ap _ _ 6)).trans (ap _ _ 5)).trans (ap _ _ 2)
theorem aa5{T:TF}(b:dW T)(m:MS)(n:aa)(names:List (List UInt8×Bool))(a:List UInt8):aG m (c8 T m n names a).2.1 :=by simp only[c8];exact((aco m n names).trans (b _ _ _)).trans (rV ae7 _ _)
theorem jY{T:TF}(b:dW T)(a:List UInt8):∀(xs:List aa)(l:List aq)(names:List (List UInt8×Bool))(m:MS),aG m (cY T a xs l names m).2
 | [],l,names,m=>aG.refl _
 |x::xs,l,names,m=>by
  unfold cY;split;·exact(aa5 b m x names a).trans (jY b a xs _ _ _)
  ·exact jY b a xs _ _ _
theorem zx{T:TF}(b:dW T)(m:MS)(c:List aq)(n:aa)(a:List UInt8):aG m (dz T m c n a).2 :=by simp only[dz];exact((ap m _ 2).trans (ap _ _ 3)).trans (jY b a _ _ _ _)
theorem aa6:∀(b a:List (List UInt8))(m:MS),aG m (le a b m)
 | [],a,m=>by unfold le;exact aG.refl _
 |s::b,a,m=>by unfold le;exact((ap m _ 6).trans (ap _ _ 5)).trans (aa6 b _ _)
theorem yc(m:MS)(n:aa)(a:Bool)(df:List UInt8):aG m (cp m n a df).2 :=by
 simp only[cp];have h:=((((ap m (!(a7 n [115,121,109,98,111,108,115]).2) 2).trans (aa2 _ (a7 n [115,121,109,98,111,108,115]).1)).trans (ap _ (decide ((dF (au m (!(a7 n [115,121,109,98,111,108,115]).2) 2) (a7 n [115,121,109,98,111,108,115]).1).1.length =0)) 6)).trans (ap _ (decide (30<(dF (au m (!(a7 n [115,121,109,98,111,108,115]).2) 2) (a7 n [115,121,109,98,111,108,115]).1).1.length)) 3)).trans (aa6 (dF (au m (!(a7 n [115,121,109,98,111,108,115]).2) 2) (a7 n [115,121,109,98,111,108,115]).1).1 [] _);split;·exact(h.trans (ap _ _ 2)).trans (ap _ _ 6)
 ·exact h
theorem acp{T:TF}(d:dW T)(m:MS)(n:aa)(k:Int)(a e:List UInt8)(c:List (List UInt8))(b:Int):aG m (w9 T m n k a e c b):=by
 simp only[w9];split
 ·have h:=zx d m [] n a;split;·exact h.trans (nN _ _ _)
  ·exact h
 ·split
  ·have h:=yc m n false [];split;·exact h.trans (nN _ _ _)
   ·exact h
  ·have h:=(ap m (!((a7 n [115,105,122,101]).1.kind ==3)) 2).trans (ap _ (decide ((a7 n [115,105,122,101]).1.n <0)||decide (5000<(a7 n [115,105,122,101]).1.n)) 6);split;·exact h.trans (nN _ _ _)
   ·exact h
theorem agB{T:TF}(e:dW T)(m0 m:MS)(x:List (List UInt8×Int))(h:aG m0 m)(f:dL m0->dL (x,m.2))(n:aa)(k:Int)(a g:List UInt8)(d:List (List UInt8))(c:Int):aG m0 (w9 T (x,m.2) n k a g d c):=
 aG.trans (b:=(x,m.2)) ⟨f,h.len,h.cap,h.dep,h.err,h.stay⟩ (acp e _ _ _ _ _ _ _)
theorem acq{T:TF}(g:dW T)(m m0:MS)(n:aa)(k:Int)(w:List UInt8×MS)(d:aG m0 w.2):aG m0 (kj T m n k w).2 :=by
 simp only[kj];have h:=((d.trans (rV (acn (bm w.1)) w.2 n)).trans (ap _ (aU (k:=.sn) (aD (dy (bm w.1)) w.2 n).2.1 w.1).isSome 5)).trans (lV _ ⟨k,w.1,(aD (dy (bm w.1)) w.2 n).1,0,[],false,[],0,[],[]⟩);split
 ·rename_i f;refine agB g m0 _ _ h (λe x i a=>?_) _ _ _ _ _ _;have c:=h.map e;obtain⟨o,p,j⟩:=add_zero f;dsimp only at a ⊢;rw[lU] at a;split at a;·have b:=Ar a;rw[j] at b ⊢;dsimp only at b ⊢;subst b;refine⟨Int.natCast_nonneg _,?_⟩;simp only[AG,AD,AQ];omega
  ·exact c x i a
 ·exact h
theorem bd{T:TF}(b:dW T)(m:MS)(n:aa)(k:Int)(a:List UInt8):aG m (dK T m n k a).2 :=by
 simp only[dK];split;·exact acq b _ _ _ _ _ (((sI m n).trans (ap _ _ 2)).trans (oQ _ _ _))
 ·exact acq b _ _ _ _ _ ((sI m n).trans (oQ _ _ _))
theorem aa7{T:TF}(b:dW T)(m:MS)(n:aa)(a:List UInt8):aG m (cS T m n a).2 :=by
 simp only[cS];have h:=ap m (!(a7 n [116,121,112,101]).2) 2
 repeat' split
 ·exact h.trans (b _ _ _)
 ·exact h.trans (bd b _ _ _ _)
 ·exact h.trans (bd b _ _ _ _)
 ·exact h.trans (bd b _ _ _ _)
 ·exact h.trans (aa3 b _ _ _ _ _)
 ·exact h.trans (aa3 b _ _ _ _ _)
 ·exact h.trans (yb _ _ _)
theorem acr{m m':MS}{d:Int}(h:aG (fU m d) m'):aG m (fU m' m.2.2.2):=⟨h.map,h.len,h.cap,rfl,h.err,h.stay⟩
theorem gA:∀k,dW (aS k)
 |0,m,n,a=>ap _ _ _
 |k+1,m,n,a=>by
  unfold aS;split;·exact aG.refl _
  ·dsimp only;have h:=ap (fU m (m.2.2.2+1)) (decide (20<m.2.2.2+1)) 3;split;·exact acr h
   ·refine acr (h.trans ?_)
    repeat' split
    ·exact yb _ _ _
    ·exact aa4 (gA k) _ _ _
    ·exact aa7 (gA k) _ _ _
    ·exact ap _ _ _
def TIn(T:TF):Prop:=∀m n a,(T m n a).2.2.2.1 =0->dL m->0<=(T m n a).1 ∧(T m n a).1 <((T m n a).2.2.1.length :Int)
theorem yd{m:MS}{t:ab}{m':MS}(h:aG (bX m t).2 m')(b:m'.2.2.1=0):0<=(bX m t).1 ∧(bX m t).1 <(m'.2.1.length:Int):=by have a:=h.len;obtain⟨d,e,c⟩:=add_zero (h.err b);rw[c] at a ⊢;simp at a;dsimp only;omega
theorem aie{m:MS}{s a:List UInt8}(d:(jI m s a).2.2.2.1 =0)(h:dL m):0<=(jI m s a).1 ∧(jI m s a).1 <((jI m s a).2.2.1.length :Int):=by
 unfold jI at d ⊢;split at d;·rename_i c;rw[if_pos c];obtain⟨i,b⟩:=BK.1 c.2.2;dsimp only;rw[iy,b];exact h _ _ b
 ·rename_i c;rw[if_neg c];have:=(db d).1;obtain⟨i,b⟩:=BK.1 (show (aU (k:=.sn) m.1 s).isSome=true by simpa using this);dsimp only[au];rw[iy,b];exact h _ _ b
theorem afy{m:MS}{s a:List UInt8}(b:(fc m s a).2.2.2.1 =0)(h:dL m):0<=(fc m s a).1 ∧(fc m s a).1 <((fc m s a).2.2.1.length :Int):=by
 unfold fc at b ⊢;split at b;·rename_i c;rw[if_pos c];exact yd (aG.refl _) b
 ·rename_i c;rw[if_neg c];exact aie b h
theorem aif{T:TF}(d:dW T){m:MS}{n:aa}{k:Int}{u a:List UInt8}(c:(dG T m n k u a).2.2.2.1 =0):0<=(dG T m n k u a).1 ∧(dG T m n k u a).1 <((dG T m n k u a).2.2.1.length :Int):=by
 simp only[dG] at c ⊢;have h:=(ap (bX m (fb k)).2 (!(a7 n u).2) 2).trans (d _ (a7 n u).1 a);split at c;·rename_i b;rw[if_pos b];exact yd (h.trans (nN _ _ _)) b
 ·rename_i b;exact absurd c b
theorem aig{T:TF}(d:dW T){m:MS}{n:aa}{a:List UInt8}(c:(di T m n a).2.2.2.1 =0):0<=(di T m n a).1 ∧(di T m n a).1 <((di T m n a).2.2.1.length :Int):=by
 simp only[di] at c ⊢;have h:=((ap (bX m (fb 14)).2 (decide (n.l.length=0)) 6).trans (ap _ (decide (30<n.l.length)) 3)).trans (mP d a n.l [] [] _);split at c;·rename_i b;rw[if_pos b];exact yd (h.trans (nN _ _ _)) b
 ·rename_i b;exact absurd c b
theorem afz{T:TF}(d:dW T){m:MS}{n:aa}{k:Int}{w:List UInt8×MS}(c:(kj T m n k w).2.2.2.1 =0):0<=(kj T m n k w).1 ∧(kj T m n k w).1 <((kj T m n k w).2.2.1.length :Int):=by
 simp only[kj] at c ⊢;split at c;·rename_i a;rw[if_pos a];have b:=(acp d (bz (k:=.sn) (bX (au (aD (dy (bm w.1)) w.2 n).2 (aU (k:=.sn) (aD (dy (bm w.1)) w.2 n).2.1 w.1).isSome 5) ⟨k,w.1,(aD (dy (bm w.1)) w.2 n).1,0,[],false,[],0,[],[]⟩).2.1 w.1 (bX (au (aD (dy (bm w.1)) w.2 n).2 (aU (k:=.sn) (aD (dy (bm w.1)) w.2 n).2.1 w.1).isSome 5) ⟨k,w.1,(aD (dy (bm w.1)) w.2 n).1,0,[],false,[],0,[],[]⟩).1,(bX (au (aD (dy (bm w.1)) w.2 n).2 (aU (k:=.sn) (aD (dy (bm w.1)) w.2 n).2.1 w.1).isSome 5) ⟨k,w.1,(aD (dy (bm w.1)) w.2 n).1,0,[],false,[],0,[],[]⟩).2.2) n k (bm w.1) w.1 (aD (dy (bm w.1)) w.2 n).1 (bX (au (aD (dy (bm w.1)) w.2 n).2 (aU (k:=.sn) (aD (dy (bm w.1)) w.2 n).2.1 w.1).isSome 5) ⟨k,w.1,(aD (dy (bm w.1)) w.2 n).1,0,[],false,[],0,[],[]⟩).1).len;obtain⟨f,g,e⟩:=add_zero a;dsimp only at b ⊢;rw[e] at b ⊢;simp only[AG,AD,AQ] at b;dsimp only at b ⊢;omega
 ·rename_i a;exact absurd c a
theorem ajC{T:TF}(d:dW T){m:MS}{n:aa}{k:Int}{a:List UInt8}(b:(dK T m n k a).2.2.2.1 =0):0<=(dK T m n k a).1 ∧(dK T m n k a).1 <((dK T m n k a).2.2.1.length :Int):=by
 simp only[dK] at b ⊢;split at b;·rename_i c;rw[if_pos c];exact afz d b
 ·rename_i c;rw[if_neg c];exact afz d b
theorem aih{T:TF}(c:dW T)(e:TIn T)(m:MS)(n:aa)(a:List UInt8)(b:(cS T m n a).2.2.2.1 =0)(h:dL m):0<=(cS T m n a).1 ∧(cS T m n a).1 <((cS T m n a).2.2.1.length :Int):=by
 simp only[cS] at b ⊢;have d:dL (au m (!(a7 n [116,121,112,101]).2) 2):=h
 repeat' split
 all_goals simp_all only[if_true,if_false,ne_eq,not_false_eq_true,not_true_eq_false]
 all_goals first|exact e _ _ _ b d|exact ajC c b|exact aif c b|exact afy b d|skip
theorem yG:∀k,TIn (aS k)
 |0,m,n,a=>by intro d h;exact absurd (db (m:=m) (b:=true) (c:=3) d).1 (by decide)
 |k+1,m,n,a=>by
  intro d h;have p:=gA k;have f:∀{e:MS},(cS (aS k) e n a).2.2.2.1 =0->dL e->0<=(cS (aS k) e n a).1 ∧(cS (aS k) e n a).1 <((cS (aS k) e n a).2.2.1.length :Int):=λd h=>aih p (yG k) _ _ _ d h
  unfold aS at d ⊢;split at d;·rename_i i;exact absurd d i
  ·rename_i i;rw[if_neg i];dsimp only at d ⊢;have r:dL (au (fU m (m.2.2.2+1)) (decide (20<m.2.2.2+1)) 3):=h;split at d;·rename_i g;exact absurd d g
   ·rename_i g;rw[if_neg g];by_cases o:n.kind=4;·simp only[o,if_true] at d ⊢;exact afy d r
    ·simp only[o,if_false] at d ⊢;by_cases q:n.kind=5;·simp only[q,if_true] at d ⊢;exact aig p d
     ·simp only[q,if_false] at d ⊢;by_cases j:n.kind=6;·simp only[j,if_true] at d ⊢;exact f d r
      ·simp only[j,if_false] at d ⊢;have:=db (m:=au (fU m (m.2.2.2+1)) (decide (20<m.2.2.2+1)) 3) (b:=true) (c:=2) d;exact absurd this.1 (by decide)
theorem fQ{n:aa}{s:List UInt8}(h:aC n):aC (a7 n s).1 :=by
 unfold a7;split
 ·cases a:fL n.names n.l s with
  |none=>exact aC.zero
  |some c=>show aC c;obtain⟨-, -, -, -, -,k⟩:=(aC.eta.2 h).kids;exact k c (ad6 a)
 ·exact aC.zero
theorem aC.sizes{n:aa}(h:aC n):n.s.length<=100∧n.l.length<=8∧n.names.length<=8∧∀c∈n.l,aC c:=by obtain⟨b,a,d, -, -,k⟩:=(aC.eta.2 h).kids;exact⟨b,a,AF d a,k⟩
theorem acs(m:MS)(a b:List UInt8):(ja m a b).1.length <=a.length+b.length+1:=by
 show (if qC a 46=false∧b≠[] then b++[46]++a else a).length<=_;split;·simp only[AG,AD,AQ];omega
 ·omega
theorem ahr(s:List UInt8):(bm s).length<=s.length:=by unfold bm;rw[Bv];omega
structure lW(k:Nat)(m:MS):Prop where
 cap:m.2.1.length<=60
 map:dL m
 d0:0<=m.2.2.2∧m.2.2.2<=20
 dk:21-m.2.2.2.toNat=k
theorem lW.keep{k:Nat}{m m':MS}(h:lW k m)(q:aG m m'):lW k m':=⟨q.cap h.cap,q.map h.map,by rw[q.dep];exact h.d0,by rw[q.dep];exact h.dk⟩
def TT(k:Nat):Prop:=∀(m:MS)(n:aa)(a:List UInt8),lW k m->aC n->a.length<=10000-300*k->∃r,bJ m.1 m.2.1 m.2.2.1 m.2.2.2 n a r
theorem rn{k:Nat}{m:MS}{n:aa}{a:List UInt8}{r:Int×MS}(h:bJ m.1 m.2.1 m.2.2.1 m.2.2.2 n a r)(g:lW k m):r=aS k m n a:=by have:=h.2;unfold eG aK at this;rw[g.dk] at this;exact this
theorem act{k:Nat}(F:TT k)(m:MS)(n:aa)(kind:Int)(u a:List UInt8)(g:lW k m)(p:aC n)(B:a.length<=10000-300*k):∃r,dl m.1 m.2.1 m.2.2.1 m.2.2.2 n kind u a r:=by
 apply uD 1;unfold pn pm;rw[cq];refine ac (ad9 m _ g.cap) ?_;intro b D;have f:=aea D;have y:aG m b.2:=by rw[f];exact lV _ _
 refine ac (gY n u (by have:=p.sizes;omega)) ?_;intro w z;have v:w=a7 n u:=z.2;refine ac (bT b.2 _ _) ?_;intro x A;have h:=bU A;have j:aG m x:=by rw[h];exact y.trans (ap _ _ _)
 rw[cq];refine ac (F x w.1 a (g.keep j) (by rw[v];exact fQ p) B) ?_;intro c C;have o:=rn C (g.keep j);have E:aG b.2 c.2:=by rw[o,h];exact(ap _ _ _).trans (gA k _ _ _)
 have q:dG (aK m.2.2.2) m n kind u a=(b.1,if c.2.2.2.1=0 then atT c.2 b.1 (zX · c.1) else c.2):=by simp only[dG,aK,g.dk];rw[show bX m (fb kind)=b from f.symm,<-v,<-h,<-o]
 refine af (λi=>?_) (λi=>ak ⟨_,_,_,_,_,_,rfl,rfl,?_⟩)
 ·have e:c.2.2.2.1=0:=by simpa using i
  have d:0<=b.1∧b.1<(c.2.2.1.length:Int):=by have:=yd (m:=m) (t:=fb kind) (m':=c.2) (by rw[show bX m (fb kind)=b from f.symm];exact E) e;rw[show bX m (fb kind)=b from f.symm] at this;exact this
  refine vck ?_ (decide_eq_true (by omega));refine vck ?_ (by simp[d.1,d.2]);refine vck ?_ (decide_eq_true (by omega));dsimp only;refine vck ?_ (by simp);refine ak ⟨_,_,_,_,_,_,rfl,rfl,?_⟩;show (_:Int×MS)=dG (aK m.2.2.2) m n kind u a;rw[q,if_pos e];rfl
 ·have e:¬c.2.2.2.1=0:=by simpa using i
  show (_:Int×MS)=dG (aK m.2.2.2) m n kind u a;rw[q,if_neg e]
theorem aec(n:Nat):((n:Int)==0)=decide (n=0):=by
 by_cases h:n=0;·subst h;rfl
 ·rw[decide_eq_false h];simpa using h
theorem aed(c n:Nat):decide ((c:Int)<(n:Int))=decide (c<n):=by
 by_cases h:c<n;·rw[decide_eq_true h,decide_eq_true (by omega)]
 ·rw[decide_eq_false h,decide_eq_false (by omega)]
theorem agC{k:Nat}(hT:TT k)(m:MS)(n:aa)(a:List UInt8)(g:lW k m)(hn:aC n)(ha:a.length<=10000-300*k):∃r,gg m.1 m.2.1 m.2.2.1 m.2.2.2 n a r:=by
 apply uG 100;unfold pt fB;obtain⟨bs,b3,cx,Y⟩:=hn.sizes;refine ac (ad9 m _ g.cap) ?_;intro c h1;have I:=aea h1;have q1:aG m c.2:=by rw[I];exact lV _ _
 dsimp only;refine ac (bT c.2 _ _) ?_;intro r2 h2;have Q:=bU h2;refine ac (bT r2 _ _) ?_;intro r3 h3;have J:=bU h3;rw[aec] at Q;rw[show (30:Int)=((30:Nat):Int) from rfl,aed] at J;have q3:aG c.2 r3:=by rw[J,Q];exact(ap _ _ _).trans (ap _ _ _)
 have H:∀(X:List Int)(m':MS),eE (aS k) a n.l [] [] r3=(X,m')->di (aK m.2.2.2) m n a=(c.1,if m'.2.2.1=0 then atT m' c.1 (sP · X) else m'):=by intro X m' h;simp only[di,aK,g.dk];rw[show bX m (fb 14)=c from I.symm,<-Q,<-J,h]
 have P:∀m':MS,aG c.2 m'->m'.2.2.1=0->0<=c.1∧c.1<(m'.2.1.length:Int):=by intro m' q y;have:=yd (m:=m) (t:=fb 14) (m':=m') (by rw[show bX m (fb 14)=c from I.symm];exact q) y;rw[show bX m (fb 14)=c from I.symm] at this;exact this
 refine cn (λx=>match x with|(v,E,l,xs,F,i,A,B,e,d,f)=>v=a∧E=c.1∧xs=n.l∧F=(n.l.length:Int)∧(0<=i∧i<=(n.l.length:Int))∧aG c.2 (A,B,e,d)∧(l.length:Int)<=i∧eE (aS k) a n.l [] [] r3=eE (aS k) a (n.l.drop i.toNat) l f (A,B,e,d)) (λx=>((n.l.length:Int)-x.2.2.2.2.2.1).toNat) ?_ _ _ ⟨rfl,rfl,rfl,rfl,⟨by simp,by simp⟩,q3,by simp,by simp⟩ (by simp;omega);rintro w ⟨v,E,l,xs,F,i,A,B,e,d,f⟩ ⟨rfl,rfl,rfl,rfl,⟨i1,i2⟩,q,hl,j⟩ ih;dsimp only at ih;unfold ik;dsimp only;have Z:lW k (A,B,e,d):=g.keep (q1.trans q);refine af (λN=>?_) (λN=>?_)
 ·have C:i<(n.l.length:Int):=of_decide_eq_true N;have hd:=nM (d:=(ao .jnode:aa)) ⟨i1,C⟩;have D:aC (n.l.getD i.toNat (ao .jnode)):=aC.getD Y _;rw[hd] at j;refine vck ?_ (by simp[ixl,i1,C]);rw[cq];generalize n.l.getD i.toNat (ao .jnode)=x at j D;refine af (λR=>?_) (λR=>?_)
  ·have u:¬e=0:=by simpa using R
   refine af (λh=>absurd (by simpa using h) u) (λ_=>ak ⟨_,_,_,_,_,_,rfl,rfl,?_⟩);rw[eE,if_neg u] at j;show (_:Int×MS)=di (aK m.2.2.2) m n v;rw[H _ _ j,if_neg u]
  ·have u:e=0:=by simpa using R
   rw[eE,if_pos u] at j;dsimp only at j;refine ac (hT (A,B,e,d) x v Z D ha) ?_;intro b h4;have G:=rn h4 Z;rw[<-G] at j;have q4:aG c.2 b.2:=by rw[G];exact q.trans (gA k _ _ _)
   refine af (λL=>?_) (λL=>?_)
   ·have o:¬b.2.2.2.1=0:=by simpa using L
    refine af (λh=>absurd (by simpa using h) o) (λ_=>ak ⟨_,_,_,_,_,_,rfl,rfl,?_⟩);rw[if_neg o] at j;show (_:Int×MS)=di (aK m.2.2.2) m n v;rw[H _ _ j,if_neg o]
   ·have o:b.2.2.2.1=0:=by simpa using L
    rw[if_pos o] at j;have hr:0<=b.1∧b.1<(b.2.2.1.length:Int):=by have:=yG k (A,B,e,d) x v (by rw[<-G];exact o) Z.map;rw[<-G] at this;exact this
    have ew:IntKind.i64.wrap (i+1)=i+1:=ax (i+1) (by omega);refine vck ?_ (decide_eq_true (by omega));refine aiS (by simp) (afx _ _) ?_;rintro _ ⟨-,rfl⟩;refine vck ?_ (BL _);refine vck ?_ (decide_eq_true (by omega));refine vck ?_ (by simp[hr.1,hr.2]);refine vck ?_ (decide_eq_true (by omega));refine vck ?_ (BL _);rw[ew]
    have next:∀p:MS,p=au b.2 ((b.2.2.1.getD b.1.toNat (ao .atype)).kind==14||iy (k:=.sb) f (zW b.2.2.1 b.1)) 6->Tot (chk (decide ((Aa l+Aa ([b.1]:List Int))*8<=140737488355328)) (w (v,c.1,l++[b.1],n.l,(n.l.length:Int),i+1,p.1,p.2.1,p.2.2.1,p.2.2.2,bz (k:=.sb) f (zW b.2.2.1 b.1) true)))
      (λz=>∃(y0:Int)(y1:List (Bs×Int))(y2:List ab)(y3 y4:Int)(rest:List ah),z.1.dimR=.int .i64 y0∧z.2=some [.mp .sn y1]::some [.ul .atype y2,.mr 0,.int .i64 y3,.int .i64 y4]::rest∧jL m.1 m.2.1 m.2.2.1 m.2.2.2 n v (y0,y1,y2,y3,y4)):=by
     intro p e6;refine vck ?_ (decide_eq_true (by simp;omega));refine ih _ ⟨rfl,rfl,rfl,rfl,⟨by dsimp only;omega,by dsimp only;omega⟩,?_,by simp;omega,?_⟩ (by simp only;omega);·show aG c.2 p;rw[e6];exact q4.trans (ap _ _ _)
     ·rw[j,e6]
    refine af (λS=>?_) (λS=>?_);·refine ac (bT b.2 _ _) ?_;intro p M;exact next p (by rw[bU M,S];rfl)
    ·refine ac (bT b.2 _ _) ?_;intro p M;exact next p (by rw[bU M,S];rfl)
 ·have W:(n.l.length:Int)<=i:=by have:=of_decide_eq_false N;omega
  rw[lT W,eE] at j;refine af (λO=>?_) (λO=>ak ⟨_,_,_,_,_,_,rfl,rfl,?_⟩)
  ·have y:e=0:=by simpa using O
   obtain⟨k1,k2⟩:=P _ q y;dsimp only at k2;refine vck ?_ (decide_eq_true (by omega));refine vck ?_ (by simp[k1,k2]);refine vck ?_ (decide_eq_true (by omega));refine vck ?_ (by simp);refine ak ⟨_,_,_,_,_,_,rfl,rfl,?_⟩;show (_:Int×MS)=di (aK m.2.2.2) m n v;rw[H _ _ j,if_pos y];rfl
  ·have y:¬e=0:=by simpa using O
   show (_:Int×MS)=di (aK m.2.2.2) m n v;rw[H _ _ j,if_neg y]
def OT(k:Nat):Prop:=∀(m:MS)(n:aa)(kind:Int)(a:List UInt8),lW k m->aC n->9<=kind∧kind<=11->a.length<=9700-300*k->∃r,dj m.1 m.2.1 m.2.2.1 m.2.2.2 n kind a r
theorem agD{k:Nat}(S:k<=21)(F:TT k)(L:OT k)(m:MS)(n:aa)(a:List UInt8)(g:lW k m)(p:aC n)(D:a.length<=9700-300*k):∃r,gi m.1 m.2.1 m.2.2.1 m.2.2.2 n a r:=by
 have E:a.length<=10000-300*k:=by omega
 apply uE 1;unfold pp po;dsimp only;rw[cq];refine ac (gY n _ (by have:=p.sizes;omega)) ?_;intro e P;have G:e=a7 n [116,121,112,101]:=P.2;refine ac (bT m _ _) ?_;intro b M;have C:=bU M;have j:lW k b:=g.keep (by rw[C];exact ap _ _ _);have W:b.2.2.2=m.2.2.2:=by rw[C];rfl
 have x:aC e.1:=by rw[G];exact fQ p
 have d:cS (aK m.2.2.2) m n a=(if e.1.kind≠4 then aS k b e.1 a
 else if e.1.s=[114,101,99,111,114,100] then dK (aS k) b n 9 a
 else if e.1.s=[101,110,117,109] then dK (aS k) b n 10 a
 else if e.1.s=[102,105,120,101,100] then dK (aS k) b n 11 a
 else if e.1.s=[97,114,114,97,121] then dG (aS k) b n 12 [105,116,101,109,115] a
 else if e.1.s=[109,97,112] then dG (aS k) b n 13 [118,97,108,117,101,115] a
 else fc b e.1.s a):=by simp only[cS,aK,g.dk];rw[<-G,<-C]
 have fin:∀(r:Int×MS),r=cS (aK m.2.2.2) m n a->Tot (some (.int .i64 r.1,[some [.mp .sn r.2.1],some [.ul .atype r.2.2.1,.mr 0,.int .i64 r.2.2.2.1,.int .i64 r.2.2.2.2]]):Ro) (λz=>∃(A:Int)(v:List (Bs×Int))(q:List ab)(t y:Int)(rest:List ah),z.1.dimR=.int .i64 A∧z.2=some [.mp .sn v]::some [.ul .atype q,.mr 0,.int .i64 t,.int .i64 y]::rest∧gI m.1 m.2.1 m.2.2.1 m.2.2.2 n a (A,v,q,t,y)):=
  λr h=>ak ⟨_,_,_,_,_,_,rfl,rfl,h⟩
 have own:∀(s:List UInt8)(kind:Int),cF ([]::pQ) s=kind->9<=kind∧kind<=11->cS (aK m.2.2.2) m n a=dK (aS k) b n kind a->e.1.s=s->
   Tot (ae (dR) λQ=>ae (aE Q e.1.s) λH=>ae (dj b.1 b.2.1 b.2.2.1 b.2.2.2 n H a) λi=>(some (.int .i64 i.1,[some [.mp .sn i.2.1],some [.ul .atype i.2.2.1,.mr 0,.int .i64 i.2.2.2.1,.int .i64 i.2.2.2.2]]):Ro)) (λz=>∃(A:Int)(v:List (Bs×Int))(q:List ab)(t y:Int)(rest:List ah),z.1.dimR=.int .i64 A∧z.2=some [.mp .sn v]::some [.ul .atype q,.mr 0,.int .i64 t,.int .i64 y]::rest∧gI m.1 m.2.1 m.2.2.1 m.2.2.2 n a (A,v,q,t,y)):=by
  intro s kind J B I f;refine ac s6 ?_;rintro _ ⟨-,rfl⟩;rw[f];refine ac (sH _ _ (by decide)) ?_;rintro _ ⟨-,rfl⟩;rw[J];refine ac (L b n kind a j p B D) ?_;intro i O;have o:i=dK (aK b.2.2.2) b n kind a:=O.2;unfold aK at o;rw[j.dk] at o;exact fin i (by rw[I,o])
 refine af (λc=>?_) (λc=>?_);·rw[cq];refine ac (F b e.1 a j x E) ?_;intro R N;refine fin R ?_;rw[d,if_pos (by simpa using c)];exact rn N j
 rw[if_neg (by simpa using c)] at d;refine af (λc=>?_) (λc=>?_);·have f:=of_decide_eq_true c;rw[if_pos f] at d;exact own _ 9 (by decide) (by decide) d f
 rw[if_neg (of_decide_eq_false c)] at d;refine af (λc=>?_) (λc=>?_);·have f:=of_decide_eq_true c;rw[if_pos f] at d;exact own _ 10 (by decide) (by decide) d f
 rw[if_neg (of_decide_eq_false c)] at d;refine af (λc=>?_) (λc=>?_);·have f:=of_decide_eq_true c;rw[if_pos f] at d;exact own _ 11 (by decide) (by decide) d f
 rw[if_neg (of_decide_eq_false c)] at d;have w:∀{r:Int×MS}{kind:Int}{u:List UInt8},dl b.1 b.2.1 b.2.2.1 b.2.2.2 n kind u a r->r=dG (aS k) b n kind u a:=by intro r kind u h;have o:r=dG (aK b.2.2.2) b n kind u a:=h.2;unfold aK at o;rw[j.dk] at o;exact o
 refine af (λc=>?_) (λc=>?_);·rw[if_pos (of_decide_eq_true c)] at d;refine ac (act F b n _ _ a j p E) ?_;intro r h;exact fin r (by rw[d];exact w h)
 rw[if_neg (of_decide_eq_false c)] at d;refine af (λc=>?_) (λc=>?_);·rw[if_pos (of_decide_eq_true c)] at d;refine ac (act F b n _ _ a j p E) ?_;intro r h;exact fin r (by rw[d];exact w h)
 rw[if_neg (of_decide_eq_false c)] at d;refine ac (acl _ _ _ _ _ _ j.cap (by have:=x.sizes;omega) (by omega)) ?_;intro r h;refine fin r ?_;rw[d];exact h.2
theorem aa8{k:Nat}(hk:k<=20)(R:1<=k->TT k)(X:1<=k->OT k):TT (k+1):=by
 intro m n a g P ha;apply we 1;unfold qj qi;dsimp only;have hd:=g.d0;have G:=g.dk
 have fin:∀(x:Int)(m':MS),m'.2.2.2=m.2.2.2->((x,m'):Int×MS)=aS (k+1) m n a->Tot (some (.int .i64 x,[some [.mp .sn m'.1],some [.ul .atype m'.2.1,.mr 0,.int .i64 m'.2.2.1,.int .i64 m'.2.2.2]]):Ro) (λz=>∃(C:Int)(w:List (Bs×Int))(j:List ab)(u A:Int)(rest:List ah),z.1.dimR=.int .i64 C∧z.2=some [.mp .sn w]::some [.ul .atype j,.mr 0,.int .i64 u,.int .i64 A]::rest∧eG m.1 m.2.1 m.2.2.1 m.2.2.2 n a (C,w,j,u,A)):=
  λx m' _ h=>ak ⟨_,_,_,_,_,_,rfl,rfl,by show (x,m')=aK m.2.2.2 m n a;unfold aK;rw[G];exact h⟩
 refine af (λJ=>?_) (λJ=>?_);·refine fin 0 m rfl ?_;unfold aS;rw[if_pos (by simpa using J)]
 have M:m.2.2.1=0:=by simpa using J
 have Z:IntKind.i64.wrap (m.2.2.2+1)=m.2.2.2+1:=ax _ (by omega);rw[Z];refine ac (bT (fU m (m.2.2.2+1)) _ _) ?_;intro d h1;have E:d=au (fU m (m.2.2.2+1)) (decide (20<m.2.2.2+1)) 3:=bU h1;have S:aG (fU m (m.2.2.2+1)) d:=by rw[E];exact ap _ _ _
 have t:∀m':MS,aG d m'->IntKind.i64.wrap (m'.2.2.2-1)=m.2.2.2:=by intro m' q;have p:=(S.trans q).dep;have Y:m'.2.2.2=m.2.2.2+1:=p;rw[Y,ax _ (by omega)];omega
 have I:aS (k+1) m n a=(if d.2.2.1≠0 then (0,fU d m.2.2.2) else
   (
    (if n.kind=4 then fc d n.s a else if n.kind=5 then di (aS k) d n a else if n.kind=6 then cS (aS k) d n a else (0,au d true 2)).1,
    fU (if n.kind=4 then fc d n.s a else if n.kind=5 then di (aS k) d n a else if n.kind=6 then cS (aS k) d n a else (0,au d true 2)).2 m.2.2.2)):=by
  rw[aS,if_neg (by simpa using M)];rw[<-E]
 refine af (λp=>?_) (λp=>?_);·rw[t d (aG.refl _)];refine fin 0 (fU d m.2.2.2) rfl ?_;rw[I,if_pos (by simpa using p)]
 have o:d.2.2.1=0:=by simpa using p
 rw[if_neg (by simpa using o)] at I;have Q:=db (m:=fU m (m.2.2.2+1)) (b:=decide (20<m.2.2.2+1)) (c:=3) (by rw[<-E];exact o);have W:¬(20<m.2.2.2+1):=of_decide_eq_false Q.1;have B:d=fU m (m.2.2.2+1):=E.trans Q.2;have v:lW k d:=by rw[B];exact⟨g.cap,g.map,⟨by show 0<=m.2.2.2+1;omega,by show m.2.2.2+1<=20;omega⟩,by show 21-(m.2.2.2+1).toNat=k;omega⟩
 have i:1<=k:=by omega
 have al:d.2.2.2=m.2.2.2+1:=by rw[B];rfl
 have N:a.length<=10000-300*k:=by omega
 have f:∀r:Int×MS,aG d r.2->r=(if n.kind=4 then fc d n.s a else if n.kind=5 then di (aS k) d n a else if n.kind=6 then cS (aS k) d n a else (0,au d true 2))->
   Tot (some (.int .i64 r.1,[some [.mp .sn r.2.1],some [.ul .atype r.2.2.1,.mr 0,.int .i64 r.2.2.2.1,.int .i64 (IntKind.i64.wrap (r.2.2.2.2-1))]]):Ro) (λz=>∃(C:Int)(w:List (Bs×Int))(j:List ab)(u A:Int)(rest:List ah),z.1.dimR=.int .i64 C∧z.2=some [.mp .sn w]::some [.ul .atype j,.mr 0,.int .i64 u,.int .i64 A]::rest∧eG m.1 m.2.1 m.2.2.1 m.2.2.2 n a (C,w,j,u,A)):=by
  intro r q e;rw[t r.2 q];refine fin r.1 (fU r.2 m.2.2.2) rfl ?_;rw[I,<-e]
 refine af (λO=>?_) (λO=>?_)
 ·have y:n.kind=4:=by simpa using O
  refine ac (acl _ _ _ _ _ _ v.cap (by have:=P.sizes;omega) (by omega)) ?_;intro r h;have e:r=fc d n.s a:=h.2;exact f r (by rw[e];exact yb _ _ _) (by rw[if_pos y];exact e)
 have y:¬n.kind=4:=by simpa using O
 refine af (λF=>?_) (λF=>?_)
 ·have D:n.kind=5:=by simpa using F
  rw[cq];refine ac (agC (R i) d n a v P N) ?_;intro r h;have e:r=di (aK d.2.2.2) d n a:=h.2;unfold aK at e;rw[v.dk] at e;exact f r (by rw[e];exact aa4 (gA k) _ _ _) (by rw[if_neg y,if_pos D];exact e)
 have D:¬n.kind=5:=by simpa using F
 refine af (λL=>?_) (λL=>?_)
 ·have H:n.kind=6:=by simpa using L
  rw[cq];refine ac (agD (by omega) (R i) (X i) d n a v P (by omega)) ?_;intro r h;have e:r=cS (aK d.2.2.2) d n a:=h.2;unfold aK at e;rw[v.dk] at e;exact f r (by rw[e];exact aa7 (gA k) _ _ _) (by rw[if_neg y,if_neg D,if_pos H];exact e)
 have H:¬n.kind=6:=by simpa using L
 refine ac (bT d _ _) ?_;intro r h;have e:=bU h;exact f (0,r) (by rw[e];exact ap _ _ _) (by rw[if_neg y,if_neg D,if_neg H,e])
theorem aee(m:MS)(b:List UInt8)(n:aa)(q:aC n)(D:b.length<=10000):∃r,aZ m.1 m.2.1 m.2.2.1 m.2.2.2 b n r:=by
 apply kv 2000;unfold eX bi;rw[cq];refine ac (gY n _ (by have:=q.sizes;omega)) ?_;intro u R;have H:u=a7 n [97,108,105,97,115,101,115]:=R.2;have F:aC u.1:=by rw[H];exact fQ q
 obtain⟨W,X,Y,O⟩:=F.sizes;refine af (λg=>?_) (λg=>ak ⟨_,_,_,_,_,_,_,rfl,rfl,?_⟩)
 ·rw[cq];refine ac (uS _ _ _ _ _ (by omega)) ?_;intro a N;have A:a=dF m u.1:=N.2;have z:aD (dy b) m n=gc (dy b) a.1 [] a.2:=by
   simp only[aD];rw[<-H,if_pos g,<-A]
  have Z:a.1.length<=8:=by rw[A];simp[dF];omega
  have M:∀s∈a.1,s.length<=1000:=by intro s E;rw[A] at E;simp only[dF,AA] at E;obtain⟨c,y,rfl⟩:=E;have:=(O c y).sizes;omega
  dsimp only;refine cn (λx=>match x with|(l,I,p,i,v,G,e,d,j)=>I=a.1∧p=(a.1.length:Int)∧(0<=i∧i<=(a.1.length:Int))∧j=b∧(l.length:Int)<=i∧aD (dy b) m n=gc (dy b) (a.1.drop i.toNat) l (v,G,e,d)) (λx=>((a.1.length:Int)-x.2.2.2.1).toNat) ?_ _ _ ⟨rfl,rfl,⟨by simp,by simp⟩,rfl,by simp,by simp[z]⟩ (by simp;omega);rintro w ⟨l,I,p,i,v,G,e,d,j⟩ ⟨rfl,rfl,⟨J,S⟩,rfl,L,f⟩ t;dsimp only at t;unfold bM;dsimp only;refine af (λg=>?_) (λg=>ak ⟨_,_,_,_,_,_,_,rfl,rfl,?_⟩)
  ·have k:i<(a.1.length:Int):=of_decide_eq_true g;have Q:=nM (d:=(ao .str:List UInt8)) ⟨J,k⟩;have o:(a.1.getD i.toNat (ao .str)).length<=1000:=by
    have q:i.toNat<a.1.length:=by omega
    refine M _ ?_;rw[Ah,Ac q];exact AO _
   rw[Q] at f;refine vck ?_ (by simp[ixl,J,k]);have P:IntKind.i64.wrap (i+1)=i+1:=ax (i+1) (by omega);rw[P];generalize a.1.getD i.toNat (ao .str)=x at f o;refine af (λB=>?_) (λB=>?_)
   ·have h:e=0:=by simpa using B
    rw[gc,if_pos h] at f;refine ac (aic _ _ _ _ _ _ o D) ?_;rintro _ ⟨-,rfl⟩;refine vck ?_ (decide_eq_true (by simp;omega));exact t _ ⟨rfl,rfl,⟨by dsimp only;omega,by dsimp only;omega⟩,rfl,by simp;omega,f⟩ (by simp only;omega)
   ·have h:¬e=0:=by simpa using B
    rw[gc,if_neg h] at f;exact t _ ⟨rfl,rfl,⟨by dsimp only;omega,by dsimp only;omega⟩,rfl,by dsimp only;omega,f⟩ (by simp only;omega)
  ·have C:(a.1.length:Int)<=i:=by have:=of_decide_eq_false g;omega
   rw[lT C,gc] at f;show _=_;rw[show aD (dy j) (m.1,m.2.1,m.2.2.1,m.2.2.2) n=(l,(v,G,e,d)) from f];rfl
 ·have z:aD (dy b) m n=([],m):=by
   simp only[aD];rw[<-H,if_neg (by rw[g];decide)]
  show _=_;rw[show aD (dy b) (m.1,m.2.1,m.2.2.1,m.2.2.2) n=([],m) from z];rfl
theorem aef(m:MS)(n:aa)(o:aC n):∃r,bg m.1 m.2.1 m.2.2.1 m.2.2.2 n r:=by
 apply jU 2000;unfold eu bc;rw[cq];refine ac (gY n _ (by have:=o.sizes;omega)) ?_;intro q O;have E:q=a7 n [97,108,105,97,115,101,115]:=O.2;have C:aC q.1:=by rw[E];exact fQ o
 obtain⟨Q,R,S,L⟩:=C.sizes;refine af (λf=>?_) (λf=>ak ⟨_,_,_,_,_,_,rfl,rfl,?_⟩)
 ·rw[cq];refine ac (uS _ _ _ _ _ (by omega)) ?_;intro a J;have y:a=dF m q.1:=J.2;have w:aD jJ m n=gc jJ a.1 [] a.2:=by
   simp only[aD];rw[<-E,if_pos f,<-y]
  have W:a.1.length<=8:=by rw[y];simp[dF];omega
  have I:∀s∈a.1,s.length<=1000:=by intro s B;rw[y] at B;simp only[dF,AA] at B;obtain⟨c,v,rfl⟩:=B;have:=(L c v).sizes;omega
  dsimp only;refine cn (λx=>match x with|(l,F,k,i,u,D,e,d)=>F=a.1∧k=(a.1.length:Int)∧(0<=i∧i<=(a.1.length:Int))∧(l.length:Int)<=i∧aD jJ m n=gc jJ (a.1.drop i.toNat) l (u,D,e,d)) (λx=>((a.1.length:Int)-x.2.2.2.1).toNat) ?_ _ _ ⟨rfl,rfl,⟨by simp,by simp⟩,by simp,by simp[w]⟩ (by simp;omega);rintro t ⟨l,F,k,i,u,D,e,d⟩ ⟨rfl,rfl,⟨G,P⟩,H,b⟩ p;dsimp only at p;unfold bC;dsimp only;refine af (λf=>?_) (λf=>ak ⟨_,_,_,_,_,_,rfl,rfl,?_⟩)
  ·have h:i<(a.1.length:Int):=of_decide_eq_true f;have N:=nM (d:=(ao .str:List UInt8)) ⟨G,h⟩;have j:(a.1.getD i.toNat (ao .str)).length<=1000:=by
    have o:i.toNat<a.1.length:=by omega
    refine I _ ?_;rw[Ah,Ac o];exact AO _
   rw[N] at b;refine vck ?_ (by simp[ixl,G,h]);have M:IntKind.i64.wrap (i+1)=i+1:=ax (i+1) (by omega);rw[M];generalize a.1.getD i.toNat (ao .str)=x at b j;refine af (λz=>?_) (λz=>?_)
   ·have g:e=0:=by simpa using z
    rw[gc,if_pos g] at b;refine ac (agz _ _ _ _ _ j) ?_;rintro _ ⟨-,rfl⟩;refine vck ?_ (decide_eq_true (by simp;omega));exact p _ ⟨rfl,rfl,⟨by dsimp only;omega,by dsimp only;omega⟩,by simp;omega,b⟩ (by simp only;omega)
   ·have g:¬e=0:=by simpa using z
    rw[gc,if_neg g] at b;exact p _ ⟨rfl,rfl,⟨by dsimp only;omega,by dsimp only;omega⟩,by dsimp only;omega,b⟩ (by simp only;omega)
  ·have A:(a.1.length:Int)<=i:=by have:=of_decide_eq_false f;omega
   rw[lT A,gc] at b;exact(show aD jJ (m.1,m.2.1,m.2.2.1,m.2.2.2) n=(l,(u,D,e,d)) from b).symm
 ·have w:aD jJ m n=([],m):=by
   simp only[aD];rw[<-E,if_neg (by rw[f];decide)]
  exact(show aD jJ (m.1,m.2.1,m.2.2.1,m.2.2.2) n=([],m) from w).symm
theorem ahs{k:Nat}(S:TT k)(m:MS)(names:List (List UInt8×Bool))(n:aa)(a:List UInt8)(g:lW k m)(i:aC n)(J:a.length<=10000-300*k):∃r,gj m.1 m.2.1 m.2.2.1 m.2.2.2 names n a r:=by
 apply uC 1;unfold pj pi;simp only[cq];have d:n.names.length<=1000000:=by have:=i.sizes;omega
 refine ac (bT m _ _) ?_;intro C O;have A:=bU O;refine ac (aeb _ _ _ _ n d) ?_;intro e G;have o:e=mb C n:=G.2;have X:e.1.length<=100:=by rw[o];exact(fQ i).sizes.1
 refine ac (uQ _ (by omega)) ?_;intro R H;have t:R=i9 e.1:=H.2;refine ac (bT e.2 _ _) ?_;intro W M;have w:=bU M;refine ac (bT W _ _) ?_;intro D B;have v:=bU B;refine ac (gY n _ d) ?_;intro x I;have q:x=a7 n [116,121,112,101]:=I.2;refine ac (bT D _ _) ?_;intro y E;have u:=bU E;have z:aG m y:=by rw[u,v,w,t,o,A,q];exact aco m n names
 refine ac (S y x.1 a (g.keep z) (by rw[q];exact fQ i) J) ?_;intro h P;have Q:=rn P (g.keep z);refine ac (gY n _ d) ?_;intro f N;have L:f=a7 n [100,101,102,97,117,108,116]:=N.2;refine ac (aef h.2 n i) ?_;intro b j;have p:b=aD jJ h.2 n:=j.2;refine ak ⟨⟨e.1,b.1,h.1,f.2,f.1⟩,_,_,_,_,_,_,?_,rfl,?_⟩;·generalize f.1=c;cases c;rfl
 ·have F:c8 (aK m.2.2.2) m n names a=(⟨e.1,b.1,h.1,f.2,f.1⟩,b.2,bz (k:=.sb) names e.1 true):=by
   simp only[c8,aK,g.dk];rw[<-A,<-o,<-t,<-w,<-v,<-q,<-u,<-Q,<-L,<-p]
  show _=((c8 (aK m.2.2.2) m n names a).1,msX (c8 (aK m.2.2.2) m n names a).2.1 (c8 (aK m.2.2.2) m n names a).2.2)
  rw[F];rfl
theorem ae8{k:Nat}(hT:TT k)(m:MS)(W:Int)(t1:List UInt8)(O:List (List UInt8))(Y:Int)(S:List (List UInt8))(t5:Bool)(Z:List UInt8)(Q:Int)(P:List Int)(n:aa)(a:List UInt8)(g:lW k m)(R:aC n)(ha:a.length<=10000-300*k):∃r,dP m.1 m.2.1 m.2.2.1 m.2.2.2 W t1 O Y S t5 Z Q [] P n a r:=by
 apply tE 100;unfold oG eM;rw[cq];refine ac (gY n _ (by have:=R.sizes;omega)) ?_;intro b h1;have e1:b=a7 n [102,105,101,108,100,115]:=h1.2;have J:aC b.1:=by rw[e1];exact fQ R
 obtain⟨s1,s2,s3,s4⟩:=J.sizes;refine ac (bT m _ _) ?_;intro r2 h2;have X:=bU h2;dsimp only;refine ac (bT r2 _ _) ?_;intro r3 h3;have w:=bU h3;rw[show (30:Int)=((30:Nat):Int) from rfl,aed] at w;have q3:aG m r3:=by rw[w,X];exact(ap _ _ _).trans (ap _ _ _)
 have fe:dz (aK m.2.2.2) m [] n a=cY (aS k) a b.1.l [] [] r3:=by simp only[dz,aK,g.dk];rw[<-e1,<-X,<-w]
 refine cn (λx=>match x with|(j,xs,v,i,o,p,e,d,L,I,D,H,B,M,N,G,fs,C,names)=>j=a∧xs=b.1.l∧v=(b.1.l.length:Int)∧(0<=i∧i<=(b.1.l.length:Int))∧aG m (o,p,e,d)∧(L=W∧I=t1∧D=O∧H=Y∧B=S∧M=t5∧N=Z∧G=Q∧C=P)∧(fs.length:Int)<=i∧dz (aK m.2.2.2) m [] n a=cY (aS k) a (b.1.l.drop i.toNat) fs names (o,p,e,d)) (λx=>((b.1.l.length:Int)-x.2.2.2.1).toNat) ?_ _ _ ⟨rfl,rfl,rfl,⟨by simp,by simp⟩,q3,⟨rfl,rfl,rfl,rfl,rfl,rfl,rfl,rfl,rfl⟩,by simp,by simp[fe]⟩ (by simp;omega);rintro z ⟨j,xs,v,i,o,p,e,d,L,I,D,H,B,M,N,G,fs,C,names⟩ ⟨rfl,rfl,rfl,⟨i1,i2⟩,q,⟨rfl,rfl,rfl,rfl,rfl,rfl,rfl,rfl,rfl⟩,hl,c⟩ y;dsimp only at y;unfold gK;dsimp only;refine af (λA=>?_) (λA=>ak ⟨_,_,_,_,_,_,_,_,_,_,_,_,_,_,_,rfl,rfl,?_⟩)
 ·have t:i<(b.1.l.length:Int):=of_decide_eq_true A;have hd:=nM (d:=(ao .jnode:aa)) ⟨i1,t⟩;have u:aC (b.1.l.getD i.toNat (ao .jnode)):=aC.getD s4 _;rw[hd] at c;refine vck ?_ (by simp[ixl,i1,t]);have ew:IntKind.i64.wrap (i+1)=i+1:=ax (i+1) (by omega);rw[ew,cq];generalize b.1.l.getD i.toNat (ao .jnode)=x at c u;refine af (λE=>?_) (λE=>?_)
  ·have f:e=0:=by simpa using E
   have gm:lW k (o,p,e,d):=g.keep q;refine ac (ahs hT (o,p,e,d) names x j gm u ha) ?_;rintro _ ⟨-,rfl⟩;have ed:aK d=aS k:=by have h:=gm.dk;dsimp only at h;unfold aK;rw[h]
   dsimp only[msX];rw[ed,ajB];rw[cY,if_pos f] at c;refine vck ?_ (decide_eq_true (by simp;omega));refine y _ ⟨rfl,rfl,rfl,⟨by dsimp only;omega,by dsimp only;omega⟩,?_,⟨rfl,rfl,rfl,rfl,rfl,rfl,rfl,rfl,rfl⟩,by simp;omega,c⟩ (by simp only;omega);exact q.trans (aa5 (gA k) (o,p,e,d) x names j)
  ·have f:¬e=0:=by simpa using E
   rw[cY,if_neg f] at c;exact y _ ⟨rfl,rfl,rfl,⟨by dsimp only;omega,by dsimp only;omega⟩,q,⟨rfl,rfl,rfl,rfl,rfl,rfl,rfl,rfl,rfl⟩,by dsimp only;omega,c⟩ (by simp only;omega)
 ·have F:(b.1.l.length:Int)<=i:=by have:=of_decide_eq_false A;omega
  rw[lT F,cY] at c;show _=msX (dz (aK m.2.2.2) m [] n j).2 (L,I,D,H,B,M,N,G,(dz (aK m.2.2.2) m [] n j).1,C);rw[c];rfl
theorem aeg(m:MS)(t0:Int)(t1:List UInt8)(S:List (List UInt8))(t3:Int)(t4:List (List UInt8))(z:Bool)(w:List UInt8)(X:Int)(R:List aq)(W:List Int)(n:aa)(hn:aC n):∃r,dB m.1 m.2.1 m.2.2.1 m.2.2.2 t0 t1 S t3 t4 z w X R W n r:=by
 apply sU 100;unfold nJ eg;rw[cq];have j:n.names.length<=1000000:=by have:=hn.sizes;omega
 refine ac (gY n _ j) ?_;intro E h1;have e1:E=a7 n [115,121,109,98,111,108,115]:=h1.2;have O:aC E.1:=by rw[e1];exact fQ hn
 obtain⟨s1,s2,s3,s4⟩:=O.sizes;refine ac (bT m _ _) ?_;intro r2 h2;have e2:=bU h2;rw[cq];refine ac (uS _ _ _ _ _ (by omega)) ?_;intro a h3;have D:a=dF r2 E.1:=h3.2;have hl:a.1.length<=8:=by rw[D];simp[dF];omega
 have hx:∀s∈a.1,s.length<=1000:=by intro s N;rw[D] at N;simp only[dF,AA] at N;obtain⟨c,G,rfl⟩:=N;have:=(s4 c G).sizes;omega
 dsimp only;refine ac (bT a.2 _ _) ?_;intro r4 h4;have e4:=bU h4;rw[aec] at e4;refine ac (bT r4 _ _) ?_;intro H h5;have Y:=bU h5;rw[show (30:Int)=((30:Nat):Int) from rfl,aed] at Y;have o:cp m n z w=(if (a7 n [100,101,102,97,117,108,116]).2 =true then ((a.1,true,(a7 n [100,101,102,97,117,108,116]).1.s),au (au (le [] a.1 H) (!((a7 n [100,101,102,97,117,108,116]).1.kind ==4)) 2) (!decide (0<=cF a.1 (a7 n [100,101,102,97,117,108,116]).1.s)) 6) else ((a.1,z,w),le [] a.1 H)):=by simp only[cp];rw[<-e1,<-e2,<-D,<-e4,<-Y]
 refine cn (λx=>match x with|(b,xs,p,i,Z,o1,e,d,C,B,v,A,u4,f,g,y,t,u)=>b=n∧xs=a.1∧p=(a.1.length:Int)∧(0<=i∧i<=(a.1.length:Int))∧(C=t0∧B=t1∧v=S∧A=t3∧u4=a.1∧f=z∧g=w∧y=X∧t=R∧u=W)∧le [] a.1 H=le (a.1.take i.toNat) (a.1.drop i.toNat) (Z,o1,e,d)) (λx=>((a.1.length:Int)-x.2.2.2.1).toNat) ?_ _ _ ⟨rfl,rfl,rfl,⟨by simp,by simp⟩,⟨rfl,rfl,rfl,rfl,rfl,rfl,rfl,rfl,rfl,rfl⟩,by simp⟩ (by simp;omega);rintro F ⟨b,xs,p,i,Z,o1,e,d,C,B,v,A,u4,f,g,y,t,u⟩ ⟨rfl,rfl,rfl,⟨P,i2⟩,⟨rfl,rfl,rfl,rfl,rfl,rfl,rfl,rfl,rfl,rfl⟩,q⟩ Q;dsimp only at Q;unfold fZ;dsimp only;refine af (λI=>?_) (λI=>?_)
 ·have k:i<(a.1.length:Int):=of_decide_eq_true I;have h:i.toNat<a.1.length:=by omega
  have hd:=nM (d:=(ao .str:List UInt8)) ⟨P,k⟩;have ht:a.1.take (i+1).toNat=a.1.take i.toNat++[a.1.getD i.toNat (ao .str)]:=by rw[show (i+1).toNat=i.toNat+1 by omega,List.take_succ,Ac h,Ah,Ac h];rfl
  have M:(a.1.getD i.toNat (ao .str)).length<=1000:=by refine hx _ ?_;rw[Ah,Ac h];exact AO _
  rw[hd,le,<-ht] at q;refine vck ?_ (by simp[ixl,P,k]);have ew:IntKind.i64.wrap (i+1)=i+1:=ax (i+1) (by omega);rw[ew];generalize a.1.getD i.toNat (ao .str)=x at q M;refine ac (uQ _ (by omega)) ?_;rintro _ ⟨-,rfl⟩;refine ac (gz _ _ _ _ _ _) ?_;rintro _ ⟨-,rfl⟩;refine vck ?_ (by simp[P];omega);rw[B4];refine ac (ya _ _ (by rw[Bv];omega)) ?_;rintro _ ⟨-,rfl⟩;refine ac (gz _ _ _ _ _ _) ?_;rintro _ ⟨-,rfl⟩;exact Q _ ⟨rfl,rfl,rfl,⟨by dsimp only;omega,by dsimp only;omega⟩,⟨rfl,rfl,rfl,rfl,rfl,rfl,rfl,rfl,rfl,rfl⟩,q⟩ (by simp only;omega)
 ·have L:(a.1.length:Int)<=i:=by have:=of_decide_eq_false I;omega
  rw[lT L,le] at q;rw[q] at o;rw[cq];refine ac (gY b _ j) ?_;rintro _ ⟨-,rfl⟩;refine af (λJ=>?_) (λJ=>ak ⟨_,_,_,_,_,_,_,_,_,_,_,_,_,_,_,rfl,rfl,?_⟩);·rw[if_pos J] at o;refine ac (gz _ _ _ _ _ _) ?_;rintro _ ⟨-,rfl⟩;refine ac (ya _ _ (by omega)) ?_;rintro _ ⟨-,rfl⟩;refine ac (gz _ _ _ _ _ _) ?_;rintro _ ⟨-,rfl⟩;refine ak ⟨_,_,_,_,_,_,_,_,_,_,_,_,_,_,_,rfl,rfl,?_⟩;show _=msX (cp m b f g).2 (C,B,v,A,(cp m b f g).1.1,(cp m b f g).1.2.1,(cp m b f g).1.2.2,y,t,u);rw[o];rfl
  ·rw[if_neg (by rw[J];decide)] at o;show _=msX (cp m b f g).2 (C,B,v,A,(cp m b f g).1.1,(cp m b f g).1.2.1,(cp m b f g).1.2.2,y,t,u);rw[o];rfl
theorem aiW{k:Nat}(hk:k<=20)(hT:TT k):OT k:=by
 intro m n kind a g G a0 ha;apply xD 1;unfold qW qV;simp only[cq];have y:n.names.length<=1000000:=by have:=G.sizes;omega
 refine ac (aeb _ _ _ _ n y) ?_;intro j h1;have e1:j=mb m n:=h1.2;have l1:j.1.length<=100:=by rw[e1];exact(fQ G).sizes.1
 refine ac (gY n _ y) ?_;intro z h2;have e2:z=a7 n [110,97,109,101,115,112,97,99,101]:=h2.2;have l2:z.1.s.length<=100:=by rw[e2];exact(fQ G).sizes.1
 have q1:aG m j.2:=by rw[e1];exact sI _ _
 have c:dK (aK m.2.2.2) m n kind a=(if z.2=true then kj (aS k) m n kind (ja (au j.2 (!(z.1.kind==4)) 2) j.1 z.1.s) else kj (aS k) m n kind (ja j.2 j.1 a)):=by simp only[dK,aK,g.dk];rw[<-e1,<-e2]
 have c3:∀w:List UInt8×MS,aG m w.2->w.1.length<=a.length+201->dK (aK m.2.2.2) m n kind a=kj (aS k) m n kind w->True:=λ_ _ _ _=>trivial
 refine af (λhc=>?_) (λhc=>?_);refine ac (bT j.2 _ _) ?_;intro r3 h3;have e3:=bU h3;refine ac (uR _ _ _ _ _ _ (by omega) (by omega)) ?_;intro w h4;have A:w=ja r3 j.1 z.1.s:=h4.2;have qw:aG m w.2:=by rw[A,e3];exact(q1.trans (ap _ _ _)).trans (oQ _ _ _)
 have lw:w.1.length<=a.length+201:=by have:=acs r3 j.1 z.1.s;rw[A];omega
 have fw:dK (aK m.2.2.2) m n kind a=kj (aS k) m n kind w:=by rw[c,if_pos hc,A,e3]
 rotate_left
 refine ac (uR _ _ _ _ _ _ (by omega) (by omega)) ?_;intro w h4;have A:w=ja j.2 j.1 a:=h4.2;have qw:aG m w.2:=by rw[A];exact q1.trans (oQ _ _ _)
 have lw:w.1.length<=a.length+201:=by have:=acs j.2 j.1 a;rw[A];omega
 have fw:dK (aK m.2.2.2) m n kind a=kj (aS k) m n kind w:=by rw[c,if_neg (by rw[hc];decide),A]
 all_goals
  clear c;have cs:=ahr w.1;refine ac (ahp _ (by omega)) ?_;rintro _ ⟨-,rfl⟩;refine ac (aee w.2 (bm w.1) n G (by omega)) ?_;intro r6 h6;obtain rfl:r6=((aD (dy (bm w.1)) w.2 n).1,msX (aD (dy (bm w.1)) w.2 n).2 (bm w.1)):=h6.2;have qa:aG m (aD (dy (bm w.1)) w.2 n).2 :=qw.trans (rV (acn _) _ _);generalize a3:aD (dy (bm w.1)) w.2 n=L at qa;dsimp only[msX];refine ac (bT L.2 _ _) ?_;intro Z h7;have e7:=bU h7;have q7:aG m Z:=by rw[e7];exact qa.trans (ap _ _ _)
  refine ac (ad9 Z _ (q7.cap g.cap)) ?_;intro b h8;have N:=aea h8;have q8:aG m b.2:=by rw[N];exact q7.trans (lV _ _)
  have c:dK (aK m.2.2.2) m n kind a=(if b.2.2.2.1=0 then (b.1,w9 (aS k) (bz (k:=.sn) b.2.1 w.1 b.1,b.2.2) n kind (bm w.1) w.1 L.1 b.1) else (0,b.2)):=by rw[fw];simp only[kj];rw[a3,<-e7,<-N]
  refine af (λS=>ak ⟨_,_,_,_,_,_,rfl,rfl,?_⟩) (λS=>?_);·show (_:Int×MS)=dK (aK m.2.2.2) m n kind a;rw[c,if_neg (by simpa using S)]
  have J:b.2.2.2.1=0:=by simpa using S
  rw[if_pos J] at c;obtain⟨z1,z2,z3⟩:=add_zero (m:=Z) (t:=⟨kind,w.1,L.1,0,[],false,[],0,[],[]⟩) (by rw[<-N];exact J);rw[<-N] at z3;have W:0<=b.1∧b.1<(b.2.2.1.length:Int):=by rw[z3];refine⟨Int.natCast_nonneg _,?_⟩;simp only[AG,AD,AQ];omega
  have g8:lW k ((bz (k:=.sn) b.2.1 w.1 b.1,b.2.2):MS):=by
   have M:=g.keep q8;refine⟨M.cap,λx i H=>?_,M.d0,M.dk⟩;dsimp only at H ⊢;rw[lU] at H;split at H;·have hi:=Ar H;rw[<-hi];exact W
   ·exact M.map x i H
  have R:(bm w.1).length<=10000-300*k:=by omega
  have D:∀m':MS,aG ((bz (k:=.sn) b.2.1 w.1 b.1,b.2.2):MS) m'->0<=b.1∧b.1<(m'.2.1.length:Int):=by intro m' q;have h:=q.len;dsimp only at h;omega
  refine af (λh9=>?_) (λh9=>?_)
  ·have k9:kind=9:=by simpa using h9
   refine ac (ae8 hT (bz (k:=.sn) b.2.1 w.1 b.1,b.2.2) kind w.1 L.1 0 [] false [] 0 [] n (bm w.1) g8 G R) ?_;intro r Q;have er:=Q.2;unfold jl aK at er;rw[g8.dk] at er;obtain rfl:=er;have E:=zx (gA k) (bz (k:=.sn) b.2.1 w.1 b.1,b.2.2) [] n (bm w.1);rw[w9,if_pos k9] at c;dsimp only at c;generalize hf:dz (aS k) (bz (k:=.sn) b.2.1 w.1 b.1,b.2.2) [] n (bm w.1)=f at c E;dsimp only[msX];have e:=D _ E;refine af (λp=>?_) (λp=>ak ⟨_,_,_,_,_,_,rfl,rfl,?_⟩);·refine vck ?_ (decide_eq_true (by omega));refine vck ?_ (by simp[e.1,e.2]);refine vck ?_ (decide_eq_true (by omega));refine vck ?_ (by simp);refine ak ⟨_,_,_,_,_,_,rfl,rfl,?_⟩;show (_:Int×MS)=dK (aK m.2.2.2) m n kind a;rw[c,if_pos (by simpa using p)];rfl
   ·show (_:Int×MS)=dK (aK m.2.2.2) m n kind a;rw[c,if_neg (by simpa using p)]
  rw[w9,if_neg (show ¬kind=9 by simpa using h9)] at c;refine af (λB=>?_) (λB=>?_)
  ·rw[if_pos (show kind=10 by simpa using B)] at c;refine ac (aeg (bz (k:=.sn) b.2.1 w.1 b.1,b.2.2) kind w.1 L.1 0 [] false [] 0 [] [] n G) ?_;intro r Q;obtain rfl:=Q.2;have E:=yc (bz (k:=.sn) b.2.1 w.1 b.1,b.2.2) n false [];dsimp only at c;generalize hf:cp (bz (k:=.sn) b.2.1 w.1 b.1,b.2.2) n false []=f at c E;dsimp only[msX];have e:=D _ E;refine af (λp=>?_) (λp=>ak ⟨_,_,_,_,_,_,rfl,rfl,?_⟩);·refine vck ?_ (decide_eq_true (by omega));refine vck ?_ (by simp[e.1,e.2]);refine vck ?_ (decide_eq_true (by omega));refine vck ?_ (by simp);refine ak ⟨_,_,_,_,_,_,rfl,rfl,?_⟩;show (_:Int×MS)=dK (aK m.2.2.2) m n kind a;rw[c,if_pos (by simpa using p)];rfl
   ·show (_:Int×MS)=dK (aK m.2.2.2) m n kind a;rw[c,if_neg (by simpa using p)]
  ·rw[if_neg (show ¬kind=10 by simpa using B)] at c;dsimp only at c;refine ac (gY n _ y) ?_;intro d X;have P:d=a7 n [115,105,122,101]:=X.2;rw[<-P] at c;refine ac (bT ((bz (k:=.sn) b.2.1 w.1 b.1,b.2.2):MS) _ _) ?_;intro u Y;have I:=bU (m:=((bz (k:=.sn) b.2.1 w.1 b.1,b.2.2):MS)) Y;rw[<-I] at c;have O:aG ((bz (k:=.sn) b.2.1 w.1 b.1,b.2.2):MS) u:=by rw[I];exact ap _ _ _
   have es:(if 5000<(if d.1.n<0 then 0 else d.1.n) then 5000 else (if d.1.n<0 then 0 else d.1.n))=af9 d.1.n:=by
    unfold af9;split;·rename_i h;simp[h]
    ·rfl
   refine af (λo=>?_) (λo=>?_);refine ac (bT u _ _) ?_;intro v F;have C:v=au u (decide (d.1.n<0)||decide (5000<d.1.n)) 6:=by rw[bU F,o];rfl
   rotate_left
   refine ac (bT u _ _) ?_;intro v F;have C:v=au u (decide (d.1.n<0)||decide (5000<d.1.n)) 6:=by rw[bU F,o];rfl
   all_goals
    rw[<-C] at c;have E:aG ((bz (k:=.sn) b.2.1 w.1 b.1,b.2.2):MS) v:=by rw[C];exact O.trans (ap _ _ _)
    have e:=D _ E;rw[es];refine af (λp=>?_) (λp=>ak ⟨_,_,_,_,_,_,rfl,rfl,?_⟩);·refine vck ?_ (decide_eq_true (by omega));refine vck ?_ (by simp[e.1,e.2]);refine vck ?_ (decide_eq_true (by omega));refine vck ?_ (by simp);refine ak ⟨_,_,_,_,_,_,rfl,rfl,?_⟩;show (_:Int×MS)=dK (aK m.2.2.2) m n kind a;rw[c,if_pos (by simpa using p)];rfl
    ·show (_:Int×MS)=dK (aK m.2.2.2) m n kind a;rw[c,if_neg (by simpa using p)]
theorem aa9:∀k,k<=20->TT (k+1)
 |0,h=>aa8 h (λa=>absurd a (by decide)) (λa=>absurd a (by decide))
 |k+1,h=>aa8 h (λ_=>aa9 k (by omega)) (λ_=>aiW h (aa9 k (by omega)))
structure bj(a b:List ab):Prop where
 len:a.length<=b.length
 tk:∀(i:Nat) t,a[i]? =some t->∃t',b[i]? =some t'∧t'.kind=t.kind∧t'.name=t.name
theorem bj.refl(a:List ab):bj a a:=⟨Aj _,λ_ t h=>⟨t,h,rfl,rfl⟩⟩
theorem bj.trans{a b c:List ab}(h:bj a b)(k:bj b c):bj a c:=⟨AF h.len k.len,λi t p=>by obtain⟨q,e,g,o⟩:=h.tk i t p;obtain⟨f,j,d,m⟩:=k.tk i q e;exact⟨f,j,d.trans g,m.trans o⟩⟩
theorem bj.app(a:List ab)(t:ab):bj a (a++[t]):=⟨by simp,λi u h=>⟨u,by rw[Ap];exact h;exact(Ad.1 h).1,rfl,rfl⟩⟩
def ye(a:List ab)(l:List Int):Prop:=∀b∈l,0<=b∧∃t,a[b.toNat]? =some t∧t.kind≠14
structure FOK(len:Nat)(f:aq):Prop where
 typ:0<=f.typ∧f.typ<(len:Int)
 nm:f.name≠[]
 df:aC f.df
structure TOK(ts:List ab)(t:ab):Prop where
 kind:1<=t.kind∧t.kind<=14
 named:t.name≠[]↔9<=t.kind∧t.kind<=11
 items:0<=t.items∧t.items<(ts.length:Int)
 br:ye ts t.branches
 fs:∀f∈t.fields,FOK ts.length f
 fn:(t.fields.map aq.name).Nodup
 fl:t.fields.length<=8
 bl:t.branches.length<=8
theorem ye.mono{a b:List ab}(h:bj a b){l:List Int}(k:ye a l):ye b l:=λx e=>by obtain⟨g,t,i,d⟩:=k x e;obtain⟨j,c,f, -⟩:=h.tk _ _ i;exact⟨g,j,c,by rw[f];exact d⟩
theorem FOK.mono{a b:Nat}(h:a<=b){f:aq}(k:FOK a f):FOK b f:=⟨⟨k.typ.1,by have:=k.typ.2;omega⟩,k.nm,k.df⟩
theorem TOK.mono{a b:List ab}(h:bj a b){t:ab}(k:TOK a t):TOK b t:=
 ⟨k.kind,k.named,⟨k.items.1,by have:=k.items.2;have:=h.len;omega⟩,k.br.mono h,λf c=>(k.fs f c).mono h.len,k.fn,k.fl,k.bl⟩
structure dC(m:MS):Prop where
 tok:∀t∈m.2.1,TOK m.2.1 t
 nm:∀(i:Nat) t,m.2.1[i]? =some t->t.name≠[]->aU (k:=.sn) m.1 t.name=some (i:Int)
 map:dL m
 mn:∀(x:List UInt8)(i:Int),aU (k:=.sn) m.1 x=some i->x≠[]∧∃t,m.2.1[i.toNat]? =some t∧t.name=x
theorem abX{M:List (List UInt8×Int)}{a b:List ab}(j:bj a b)(h:∀(x:List UInt8)(i:Int),aU (k:=.sn) M x=some i->x≠[]∧∃t,a[i.toNat]? =some t∧t.name=x):
  ∀(x:List UInt8)(i:Int),aU (k:=.sn) M x=some i->x≠[]∧∃t,b[i.toNat]? =some t∧t.name=x:=λx i f=>by
 obtain⟨g,t,o,e⟩:=h x i f;obtain⟨m,c, -,d⟩:=j.tk _ t o;exact⟨g,m,c,d.trans e⟩
theorem aht{b:List ab}{i:Nat}{t u:ab}(c:b[i]? =some t)(d:u.kind=t.kind)(e:u.name=t.name):bj b (b.set i u):=by
 refine⟨by simp,λj v a=>?_⟩;rw[Aw];by_cases h:i=j;·subst h;rw[c] at a;cases a;refine⟨u,?_,d,e⟩;rw[if_pos rfl,if_pos (Ad.1 c).1]
 ·rw[if_neg h];exact⟨v,a,rfl,rfl⟩
theorem aeh{m:MS}(h:dC m){i:Nat}{t:ab}(d:m.2.1[i]? =some t){j:Int}(v:j=(i:Int))(f:ab->ab)(r:(f t).kind=t.kind)(p:(f t).name=t.name)(q:TOK m.2.1 (f t)):
  dC (atT m j f)∧bj m.2.1 (atT m j f).2.1 :=by
 subst v;have o:m.2.1.getD (Ag i) (ao .atype)=t:=by rw[Ah,Bz,d];rfl
 have g:bj m.2.1 (atT m (i:Int) f).2.1 :=by show bj m.2.1 (m.2.1.set _ _);rw[o,Bz];exact aht d r p
 refine⟨⟨λu a=>?_,λj u a c=>?_,(nN m i f).map h.map,abX g h.mn⟩,g⟩
 ·refine TOK.mono g ?_;have a:u∈m.2.1.set _ _:=a;rcases Dx a with e|e;·exact h.tok u e
  ·rw[e,o];exact q
 ·have a:(m.2.1.set _ _)[j]? =some u:=a;rw[o,Bz,Aw] at a;show aU (k:=.sn) m.1 u.name=_;by_cases b:i=j;·subst b;rw[if_pos rfl,if_pos (Ad.1 d).1] at a;cases a;rw[p];exact h.nm i t d (by rw[<-p];exact c)
  ·rw[if_neg b] at a;exact h.nm j u a c
theorem qJ(a:List ab)(t:ab):(a++[t])[a.length]? =some t:=by simp
theorem abY{m:MS}(h:dC m){t:ab}(q:(bX m t).2.2.2.1 =0)(w:1<=t.kind∧t.kind<=14)(f:¬(9<=t.kind∧t.kind<=11))(k:t.name=[])(v:t.items=0)(e:t.branches=[])(g:t.fields=[]):
  dC (bX m t).2 ∧bj m.2.1 (bX m t).2.2.1 ∧(bX m t).1 =(m.2.1.length:Int)∧(bX m t).2.2.1[m.2.1.length]? =some t:=by
 have x:=lV m t;obtain⟨y,z,r⟩:=add_zero q;have p:=x.map h.map;rw[r] at p ⊢;have i:=bj.app m.2.1 t;refine⟨⟨λu a=>?_,λj u a d=>?_,p,abX i h.mn⟩,i,rfl,qJ _ _⟩
 ·rcases Ay.1 a with c|c;·exact(h.tok u c).mono i
  ·rw[Az.1 c];exact⟨w,by simp[k,f],by rw[v];simp only[AG,AD,AQ];omega,(by rw[e];exactλb e=>(by cases e)),(by rw[g];exactλb e=>(by cases e)),(by rw[g];exact Cy),by rw[g];exact Bj _,by rw[e];exact Bj _⟩
 ·have a:(m.2.1++[t])[j]? =some u:=a;rw[List.getElem?_append] at a;split at a;·exact h.nm j u a d
  ·have c:=Ad.1 a;obtain⟨c,o⟩:=c;simp only[AD,AQ] at c;have:j-m.2.1.length=0:=by omega
   simp only[this,List.getElem_cons_zero] at o;rw[<-o] at d;exact absurd k d
theorem aiX{m:MS}(h:dC m){t:ab}(q:aU (k:=.sn) m.1 t.name=none)(B:9<=t.kind∧t.kind<=11)(z:t.name≠[])(o:t.items=0)(g:t.branches=[])(p:t.fields=[])(e d:Int):
  dC (bz (k:=.sn) m.1 t.name (m.2.1.length:Int),m.2.1++[t],e,d):=by
 have y:=bj.app m.2.1 t;refine⟨λu f=>?_,λj u f v=>?_,λx i a=>?_,λx i a=>?_⟩
 ·rcases Ay.1 f with c|c;·exact(h.tok u c).mono y
  ·rw[Az.1 c];exact⟨by omega,by simp[z,B],by rw[o];simp only[AG,AD,AQ];omega,(by rw[g];exactλb g=>(by cases g)),(by rw[p];exactλb g=>(by cases g)),(by rw[p];exact Cy),by rw[p];exact Bj _,by rw[g];exact Bj _⟩
 ·have f:(m.2.1++[t])[j]? =some u:=f;show aU (k:=.sn) (bz (k:=.sn) m.1 t.name _) u.name=_;rw[lU];rw[List.getElem?_append] at f;split at f
  ·have c:=h.nm j u f v;rw[if_neg];·exact c
   ·intro r;rw[<-r,q] at c;cases c
  ·rename_i D;obtain⟨c,w⟩:=Ad.1 f;simp only[AD,AQ] at c;have A:j-m.2.1.length=0:=by omega
   simp only[A,List.getElem_cons_zero] at w;have C:m.2.1.length=j:=by omega
   rw[<-w,if_pos rfl,C]
 ·dsimp only at a ⊢;rw[lU] at a;simp only[AG,AD,AQ];split at a;·have o:=Ar a;rw[<-o];omega
  ·have:=h.map x i a;omega
 ·dsimp only at a ⊢;rw[lU] at a;split at a;·rename_i r;have o:=Ar a;rw[<-r,<-o,Bz];exact⟨z,t,qJ _ _,rfl⟩
  ·exact abX y h.mn x i a
def gB(m m':MS):Prop:=m'.2.2.1=0->m'=m
theorem gB.refl(m:MS):gB m m:=λ_=>rfl
theorem gB.trans{a b c:MS}(h:gB a b)(k:gB b c):gB a c:=λd=>by have:=k d;subst this;exact h d
theorem bh(m:MS)(b:Bool)(c:Int)(a:c≠0:=by decide):gB m (au m b c):=λh=>(db h a).2
theorem zy:∀(l:List aa)(m:MS),gB m (tl l m)
 | [],m=>gB.refl _
 |x::l,m=>(bh m _ 2).trans (zy l _)
theorem aba(m:MS)(n:aa):gB m (dF m n).2 :=(bh m _ 2).trans (zy _ _)
theorem s8{a:MS->List UInt8->List UInt8×MS}(c:∀m s,gB m (a m s).2):∀(b l:List (List UInt8))(m:MS),gB m (gc a b l m).2
 | [],l,m=>gB.refl _
 |s::b,l,m=>by
  unfold gc;split;·exact(c m s).trans (s8 c b _ _)
  ·exact s8 c b _ _
theorem yf{a:MS->List UInt8->List UInt8×MS}(b:∀m s,gB m (a m s).2)(m:MS)(n:aa):gB m (aD a m n).2 :=by
 simp only[aD];split;·exact(aba m _).trans (s8 b _ _ _)
 ·exact gB.refl _
theorem abb:∀(b a:List (List UInt8))(m:MS),gB m (le a b m)
 | [],a,m=>by unfold le;exact gB.refl _
 |s::b,a,m=>by unfold le;exact((bh m _ 6).trans (bh _ _ 5)).trans (abb b _ _)
theorem aei(m:MS)(n:aa)(a:Bool)(df:List UInt8):gB m (cp m n a df).2 :=by
 simp only[cp];have h:=((((bh m (!(a7 n [115,121,109,98,111,108,115]).2) 2).trans (aba _ (a7 n [115,121,109,98,111,108,115]).1)).trans (bh _ (decide ((dF (au m (!(a7 n [115,121,109,98,111,108,115]).2) 2) (a7 n [115,121,109,98,111,108,115]).1).1.length =0)) 6)).trans (bh _ (decide (30<(dF (au m (!(a7 n [115,121,109,98,111,108,115]).2) 2) (a7 n [115,121,109,98,111,108,115]).1).1.length)) 3)).trans (abb (dF (au m (!(a7 n [115,121,109,98,111,108,115]).2) 2) (a7 n [115,121,109,98,111,108,115]).1).1 [] _);split;·exact(h.trans (bh _ _ 2)).trans (bh _ _ 6)
 ·exact h
theorem agE(m:MS)(a b:List UInt8):gB m (jI m a b).2 :=by
 unfold jI;split;·exact gB.refl _
 ·exact bh _ _ _
theorem uT(m:MS)(a b:List UInt8):gB m (ja m a b).2 :=bh _ _ _
theorem aej{m:MS}{a b:List UInt8}(h:(ja m a b).2.2.2.1 =0):(ja m a b).1 ≠[]:=by intro c;have d:=(db (m:=m) h).1;have c:(if qC a 46=false∧b≠[] then b++[46]++a else a)=[]:=c;rw[c] at d;exact absurd d (by decide)
theorem aiY{s:List UInt8}(h:i9 s=true):s≠[]:=by intro e;subst e;exact absurd h (by decide)
def uU(T:TF):Prop:=∀m n a,aC n->dC m->(T m n a).2.2.2.1 =0->dC (T m n a).2 ∧bj m.2.1 (T m n a).2.2.1
theorem aek{m:MS}{s a:List UInt8}(h:dC m)(b:(fc m s a).2.2.2.1 =0):dC (fc m s a).2 ∧bj m.2.1 (fc m s a).2.2.1 :=by
 unfold fc at b ⊢;split at b;·rename_i c;rw[if_pos c];have:=abY h b (by show 1<=cF ([]::pQ) s∧cF ([]::pQ) s<=14;omega) (by show ¬(9<=cF ([]::pQ) s∧_);omega) rfl rfl rfl rfl;exact⟨this.1,this.2.1⟩
 ·rename_i c;rw[if_neg c];rw[agE m s a b];exact⟨h,bj.refl _⟩
theorem acu{T:TF}(y:dW T)(x:TIn T)(p:uU T){m:MS}{n:aa}(B:aC n){k:Int}(E:k=12∨k=13){u a:List UInt8}(h:dC m)(d:(dG T m n k u a).2.2.2.1 =0):
  dC (dG T m n k u a).2 ∧bj m.2.1 (dG T m n k u a).2.2.1 :=by
 simp only[dG] at d ⊢;split at d;·rename_i b;rw[if_pos b];have e:=(y _ _ _).err b;have r:=bh _ _ _ (by decide) e;rw[r] at e b ⊢;obtain⟨j,q,z,t⟩:=abY h e (by show 1<=k∧k<=14;omega) (by show ¬(9<=k∧k<=11);omega) rfl rfl rfl rfl;obtain⟨f,g⟩:=p (bX m (fb k)).2 (a7 n u).1 a (fQ B) j b;have w:=x (bX m (fb k)).2 (a7 n u).1 a b j.map;obtain⟨v,i,D,C⟩:=g.tk _ _ t;have c:=f.tok v (Af i);obtain⟨o,A⟩:=aeh f i z (zX · (T (bX m (fb k)).2 (a7 n u).1 a).1) rfl rfl ⟨c.kind,c.named,w,c.br,c.fs,c.fn,c.fl,c.bl⟩;exact⟨o,(q.trans g).trans A⟩
 ·rename_i b;exact absurd d b
theorem abc{T:TF}(A:dW T)(z:TIn T)(u:uU T)(a:List UInt8):∀(xs:List aa)(l:List Int)(c:List (List UInt8×Bool))(m:MS),(∀x∈xs,aC x)->dC m->ye m.2.1 l->(eE T a xs l c m).2.2.2.1 =0->
  dC (eE T a xs l c m).2 ∧bj m.2.1 (eE T a xs l c m).2.2.1 ∧ye (eE T a xs l c m).2.2.1 (eE T a xs l c m).1 ∧(eE T a xs l c m).1.length <=l.length+xs.length
 | [],l,c,m,_,h,o,_=>⟨h,bj.refl _,o,CX _ _⟩
 |x::xs,l,c,m,w,h,o,d=>by
  have e:eE T a (x::xs) l c m=(if m.2.2.1=0 then (if (T m x a).2.2.2.1 =0 then eE T a xs (l++[(T m x a).1]) (bz (k:=.sb) c (zW (T m x a).2.2.1 (T m x a).1) true) (au (T m x a).2 (((T m x a).2.2.1.getD (T m x a).1.toNat (ao .atype)).kind==14||iy (k:=.sb) c (zW (T m x a).2.2.1 (T m x a).1)) 6) else (l,(T m x a).2)) else (l,m)):=rfl;rw[e] at d ⊢;split at d
  ·rename_i j;rw[if_pos j];split at d
   ·rename_i g;rw[if_pos g];have F:=db ((mP A a xs _ _ _).err d);obtain⟨i,r⟩:=F;rw[r] at d ⊢;obtain⟨J,v⟩:=u m x a (w x (by simp)) h g;have C:=z m x a g h.map;have f:(T m x a).1.toNat <(T m x a).2.2.1.length :=by omega
    have p:ye (T m x a).2.2.1 (l++[(T m x a).1]):=by
     intro b t;rcases Ay.1 t with q|q;·exact(o.mono v) b q
     ·rw[Az.1 q];refine⟨C.1,_,Ac f,?_⟩;intro H;rw[Ah,Ac f] at i;simp[H] at i
    obtain⟨D,G,B,I⟩:=abc A z u a xs _ _ _ (λy E=>w y (by simp[E])) J p d;refine⟨D,v.trans G,B,?_⟩;simp only[AG,AD,AQ] at I ⊢;omega
   ·rename_i g;exact absurd d g
  ·rename_i j;exact absurd d j
theorem ahu{T:TF}(k:dW T)(y:TIn T)(r:uU T){m:MS}{n:aa}(o:aC n){a:List UInt8}(h:dC m)(e:(di T m n a).2.2.2.1 =0):
  dC (di T m n a).2 ∧bj m.2.1 (di T m n a).2.2.1 :=by
 simp only[di] at e ⊢;split at e;·rename_i c;rw[if_pos c];have f:=(mP k a n.l [] [] _).err c;have u:=((bh (bX m (fb 14)).2 (decide (n.l.length=0)) 6).trans (bh _ (decide (30<n.l.length)) 3)) f;rw[u] at f c ⊢;obtain⟨C,t,z,v⟩:=abY h f (by decide) (by decide) rfl rfl rfl rfl;obtain⟨g,i,p,A⟩:=abc k y r a n.l [] [] _ o.sizes.2.2.2 C (λb w=>by cases w) c;obtain⟨x,j,E,D⟩:=i.tk _ _ v;have d:=g.tok x (Af j);obtain⟨q,B⟩:=aeh g j z (sP · (eE T a n.l [] [] (bX m (fb 14)).2).1) rfl rfl ⟨d.kind,d.named,d.items,p,d.fs,d.fn,d.fl,AF A (by simpa using o.sizes.2.1)⟩;exact⟨q,(t.trans i).trans B⟩
 ·rename_i c;exact absurd e c
theorem ae9(m:MS)(s:List UInt8):gB m (jJ m s).2 :=bh _ _ _
theorem ahv(a:List UInt8)(m:MS)(s:List UInt8):gB m (dy a m s).2 :=uT _ _ _
theorem ahw{T:TF}(v:dW T)(q:TIn T)(r:uU T){m:MS}{n:aa}(i:aC n){names:List (List UInt8×Bool)}{a:List UInt8}(h:dC m)(b:(c8 T m n names a).2.1.2.2.1 =0):
  dC (c8 T m n names a).2.1 ∧bj m.2.1 (c8 T m n names a).2.1.2.1 ∧FOK (c8 T m n names a).2.1.2.1.length (c8 T m n names a).1 ∧iy (k:=.sb) names (c8 T m n names a).1.name =false∧(c8 T m n names a).2.2 =bz (k:=.sb) names (c8 T m n names a).1.name true:=by
 simp only[c8] at b ⊢;have o:=yf ae9 _ n b;rw[o] at b ⊢;have d:=(v _ _ _).err b;have c:=db d;have e:=db (c.2▸d);have f:=db (e.2▸c.2▸d);have t:(mb (au m (!(n.kind==6)) 2) n).2.2.2.1 =0:=f.2▸e.2▸c.2▸d;have j:(mb (au m (!(n.kind==6)) 2) n).2 =m:=((bh m _ 2).trans (show gB _ (mb _ n).2 from bh _ _ _)) t;have g:=((c.2.trans e.2).trans f.2).trans j;rw[g] at b ⊢;obtain⟨w,p⟩:=r m _ a (fQ i) h b;have u:=q m _ a b h.map;refine⟨w,p,⟨u,aiY (by simpa using f.1),fQ i⟩,e.1,trivial⟩
theorem zz{T:TF}(i:dW T)(B:TIn T)(t:uU T)(a:List UInt8):∀(xs:List aa)(l:List aq)(names:List (List UInt8×Bool))(m:MS),(∀x∈xs,aC x)->dC m->
  (∀f∈l,FOK m.2.1.length f∧iy (k:=.sb) names f.name=true)->(l.map aq.name).Nodup->(cY T a xs l names m).2.2.2.1 =0->
  dC (cY T a xs l names m).2 ∧bj m.2.1 (cY T a xs l names m).2.2.1 ∧(∀f∈(cY T a xs l names m).1,FOK (cY T a xs l names m).2.2.1.length f)∧((cY T a xs l names m).1.map aq.name).Nodup∧(cY T a xs l names m).1.length <=l.length+xs.length
 | [],l,names,m,_,h,e,p,_=>⟨h,bj.refl _,λf d=>(e f d).1,p,by simp[cY]⟩
 |x::xs,l,names,m,u,h,e,p,b=>by
  have c:cY T a (x::xs) l names m=(if m.2.2.1=0 then cY T a xs (l++[(c8 T m x names a).1]) (c8 T m x names a).2.2 (c8 T m x names a).2.1 else cY T a xs l names m):=rfl;rw[c] at b ⊢;have G:m.2.2.1=0:=by
   split at b;·assumption
   ·exact(jY i a xs _ _ _).err b
  rw[if_pos G] at b ⊢;obtain⟨C,o,q,w,A⟩:=ahw i B t (u x (by simp)) h ((jY i a xs _ _ _).err b);generalize c8 T m x names a=r at b C o q w A ⊢;have L:∀y,iy (k:=.sb) r.2.2 y=if r.1.name=y then true else iy (k:=.sb) names y:=by intro y;rw[A,iy,lU];split<;>rfl
  obtain⟨F,I,E,D,H⟩:=zz i B t a xs (l++[r.1]) r.2.2 r.2.1 (λy j=>u y (by simp[j])) C (λf d=>by
   rw[L];rcases Ay.1 d with g|g;·exact⟨(e f g).1.mono o.len,by rw[(e f g).2];simp⟩
   ·rw[Az.1 g];exact⟨q,by simp⟩) (by
   rw[BT,List.nodup_append];refine⟨p,by simp,λy j z v=>?_⟩;simp only[Bf,List.map_nil,Az] at v;subst v;obtain⟨f,d,rfl⟩:=AA.1 j;intro J;have:=(e f d).2;rw[J,w] at this;cases this) b
  refine⟨F,o.trans I,E,D,?_⟩;simp only[AG,AD,AQ] at H ⊢;omega
theorem agF{T:TF}(d:dW T)(o:TIn T)(p:uU T){m:MS}{n:aa}(u:aC n){a:List UInt8}(h:dC m)(b:(dz T m [] n a).2.2.2.1 =0):
  dC (dz T m [] n a).2 ∧bj m.2.1 (dz T m [] n a).2.2.1 ∧(∀f∈(dz T m [] n a).1,FOK (dz T m [] n a).2.2.1.length f)∧((dz T m [] n a).1.map aq.name).Nodup∧(dz T m [] n a).1.length <=8:=by
 have c:=fQ (s:=[102,105,101,108,100,115]) u;simp only[dz] at b ⊢;have g:=(jY d a _ _ _ _).err b;have t:=((bh m _ 2).trans (bh _ _ 3)) g;rw[t] at b ⊢;obtain⟨r,i,k,j,q⟩:=zz d o p a _ [] [] m c.sizes.2.2.2 h (λf e=>by cases e) Cy b;refine⟨r,i,k,j,?_⟩;have:=c.sizes.2.1;simp only[AQ] at q;omega
theorem abZ{T:TF}(hT:dW T)(hI:TIn T)(X:uU T){m:MS}{n:aa}(hn:aC n){k:Int}(y:9<=k∧k<=11){a:List UInt8}(h:dC m)(c:(dK T m n k a).2.2.2.1 =0):
  dC (dK T m n k a).2 ∧bj m.2.1 (dK T m n k a).2.2.1 :=by
 have o:∀w:List UInt8×MS,(w.2.2.2.1=0->w.2=m∧w.1≠[])->(kj T m n k w).2.2.2.1 =0->dC (kj T m n k w).2 ∧bj m.2.1 (kj T m n k w).2.2.1 :=by
  intro w Y c;simp only[kj] at c ⊢;split at c
  ·rename_i j;rw[if_pos j];obtain⟨C,z2,L⟩:=add_zero j;have x:=db C;have I:=yf (ahv (bm w.1)) w.2 n (x.2▸C);have J:w.2.2.2.1=0:=by rw[<-I];exact x.2▸C
   obtain⟨Q,z⟩:=Y J;have fr:aU (k:=.sn) m.1 w.1=none:=by have:=x.1;rw[I,Q] at this;simpa using this
   generalize a0:(aD (dy (bm w.1)) w.2 n).1 =g at c L ⊢;rw[L] at c ⊢;rw[x.2,I,Q] at c ⊢;dsimp only at c ⊢;have B:=aiX h (t:=⟨k,w.1,g,0,[],false,[],0,[],[]⟩) fr y z rfl rfl rfl 0 m.2.2.2;have N:=bj.app m.2.1 ⟨k,w.1,g,0,[],false,[],0,[],[]⟩;have F:=qJ m.2.1 ⟨k,w.1,g,0,[],false,[],0,[],[]⟩;generalize hM:((bz (k:=.sn) m.1 w.1 (m.2.1.length:Int),m.2.1++[⟨k,w.1,g,0,[],false,[],0,[],[]⟩],0,m.2.2.2):MS)=M at c B ⊢;have G:M.2.1=m.2.1++[⟨k,w.1,g,0,[],false,[],0,[],[]⟩]:=by rw[<-hM]
   rw[<-G] at N F;have base:∀(i:MS)(t:ab),dC i->bj M.2.1 i.2.1->t.kind=k->t.name=w.1->TOK i.2.1 t->dC (atT i (m.2.1.length:Int) λ_=>t)∧bj m.2.1 (atT i (m.2.1.length:Int) λ_=>t).2.1 :=by intro i t hi A tk tn to;obtain⟨t',g2,k2,E⟩:=A.tk _ _ F;obtain⟨R,s3⟩:=aeh hi g2 rfl (λ_=>t) (tk.trans k2.symm) (tn.trans E.symm) to;exact⟨R,(N.trans A).trans s3⟩
   have q:∀i:MS,bj M.2.1 i.2.1->(0:Int)<=0∧(0:Int)<(i.2.1.length:Int):=by intro i A;have:=(Ad.1 F).1;have:=A.len;omega
   have p:1<=k∧k<=14:=by omega
   have d:∀O,ye O []:=λO b hb=>by cases hb
   simp only[w9] at c ⊢;split at c
   ·rename_i H;rw[if_pos H];split at c;·rename_i e;rw[if_pos e];obtain⟨Z,P,W,S,E⟩:=agF hT hI X hn B e;exact base _ _ Z P rfl rfl ⟨p,by simp[z,y],q _ P,d _,W,S,E,Bj _⟩
    ·rename_i e;exact absurd c e
   ·rename_i H;rw[if_neg H];split at c
    ·rename_i r;rw[if_pos r];split at c;·rename_i e;rw[if_pos e];have:=aei M n false [] e;rw[this];exact base _ _ B (bj.refl _) rfl rfl ⟨p,by simp[z,y],q _ (bj.refl _),d _,(λf D=>by cases D),Cy,Bj _,Bj _⟩
     ·rename_i e;exact absurd c e
    ·rename_i r;rw[if_neg r];split at c;·rename_i e;rw[if_pos e];have:=((bh M (!((a7 n [115,105,122,101]).1.kind ==3)) 2).trans (bh _ (decide ((a7 n [115,105,122,101]).1.n <0)||decide (5000<(a7 n [115,105,122,101]).1.n)) 6)) e;rw[this];exact base _ _ B (bj.refl _) rfl rfl ⟨p,by simp[z,y],q _ (bj.refl _),d _,(λf D=>by cases D),Cy,Bj _,Bj _⟩
     ·rename_i e;exact absurd c e
  ·rename_i j;exact absurd c j
 simp only[dK] at c ⊢;have u:gB m (mb m n).2 :=bh _ _ _;split at c;·rename_i j;rw[if_pos j];exact o _ (λv=>⟨((u.trans (bh _ _ 2)).trans (uT _ _ _)) v,aej v⟩) c
 ·rename_i j;rw[if_neg j];exact o _ (λv=>⟨(u.trans (uT _ _ _)) v,aej v⟩) c
theorem ahx{T:TF}(j:dW T)(i:TIn T)(f:uU T){m:MS}{n:aa}(g:aC n){a:List UInt8}(h:dC m)(d:(cS T m n a).2.2.2.1 =0):
  dC (cS T m n a).2 ∧bj m.2.1 (cS T m n a).2.2.1 :=by
 have e:dC (au m (!(a7 n [116,121,112,101]).2) 2):=⟨h.tok,h.nm,h.map,h.mn⟩
 have k:∀{b:List ab},bj (au m (!(a7 n [116,121,112,101]).2) 2).2.1 b->bj m.2.1 b:=id;simp only[cS] at d ⊢;split at d;·rename_i c;rw[if_pos c];exact f _ _ _ (fQ g) e d
 rename_i c;rw[if_neg c];split at d;·rename_i c;rw[if_pos c];exact abZ j i f g (by decide) e d
 rename_i c;rw[if_neg c];split at d;·rename_i c;rw[if_pos c];exact abZ j i f g (by decide) e d
 rename_i c;rw[if_neg c];split at d;·rename_i c;rw[if_pos c];exact abZ j i f g (by decide) e d
 rename_i c;rw[if_neg c];split at d;·rename_i c;rw[if_pos c];exact acu j i f g (.inl rfl) e d
 rename_i c;rw[if_neg c];split at d;·rename_i c;rw[if_pos c];exact acu j i f g (.inr rfl) e d
 rename_i c;rw[if_neg c];exact aek e d
theorem ael:∀k,uU (aS k)
 |0,m,n,a=>by intro _ _ d;exact absurd (db (m:=m) (b:=true) (c:=3) d).1 (by decide)
 |k+1,m,n,a=>by
  intro u h d;have t:=gA k;have r:=yG k;have q:=ael k;unfold aS at d ⊢;split at d;·rename_i g;exact absurd d g
  ·rename_i g;rw[if_neg g];dsimp only at d ⊢;have i:dC (au (fU m (m.2.2.2+1)) (decide (20<m.2.2.2+1)) 3):=⟨h.tok,h.nm,h.map,h.mn⟩
   have fin:∀M:MS,dC M∧bj m.2.1 M.2.1->dC (fU M m.2.2.2)∧bj m.2.1 (fU M m.2.2.2).2.1 :=λM e=>⟨⟨e.1.tok,e.1.nm,e.1.map,e.1.mn⟩,e.2⟩
   split at d;·rename_i f;exact absurd d f
   ·rename_i f;rw[if_neg f];by_cases o:n.kind=4;·simp only[o,if_true] at d ⊢;exact fin _ (aek i d)
    ·simp only[o,if_false] at d ⊢;by_cases p:n.kind=5;·simp only[p,if_true] at d ⊢;exact fin _ (ahu t r q u i d)
     ·simp only[p,if_false] at d ⊢;by_cases j:n.kind=6;·simp only[j,if_true] at d ⊢;exact fin _ (ahx t r q u i d)
      ·simp only[j,if_false] at d ⊢;have:=db (m:=au (fU m (m.2.2.2+1)) (decide (20<m.2.2.2+1)) 3) (b:=true) (c:=2) d;exact absurd this.1 (by decide)
def m0:MS:=([],[],0,0)
theorem aem:dC m0:=⟨λt h=>(by cases h),λi t h=>(by simp[m0] at h),λx i h=>(by cases h),λx i h=>(by cases h)⟩
structure yg(ts:List ab):Prop where
 pos:0<ts.length
 cap:ts.length<=60
 tok:∀t∈ts,TOK ts t
 nm:∀(i j:Nat) t u,ts[i]? =some t->ts[j]? =some u->t.name≠[]->t.name=u.name->i=j
theorem yh{n:aa}(j:aC n)(e:(aS 21 m0 n []).2.2.2.1 =0):yg (aS 21 m0 n []).2.2.1 :=by obtain⟨i,s⟩:=ael 21 m0 n [] j aem e;have r:=yG 21 m0 n [] e aem.map;have c:=(gA 21 m0 n []).cap (by simp[m0]);refine⟨by omega,c,i.tok,λa b t u m k d g=>?_⟩;have h:=i.nm a t m d;have f:=i.nm b u k (by rw[<-g];exact d);rw[<-g,h] at f;have:=Ar f;omega
theorem aii{n:aa}(c:aC n)(a:(hY n).2 =0):yg (hY n).1 :=by
 have b:hY n=(if (aS 21 m0 n []).2.2.2.1 =0 then ((aS 21 m0 n []).2.2.1,0) else ([],(aS 21 m0 n []).2.2.2.1)):=rfl;rw[b] at a ⊢;split at a;·rename_i h;rw[if_pos h];exact yh c h
 ·rename_i h;exact absurd a h
theorem ahy{n:aa}(a:(hY n).2 ≠0):(hY n).1 =[]:=by
 have b:hY n=(if (aS 21 m0 n []).2.2.2.1 =0 then ((aS 21 m0 n []).2.2.1,0) else ([],(aS 21 m0 n []).2.2.2.1)):=rfl;rw[b] at a ⊢;split;·rename_i h;rw[if_pos h] at a;exact absurd rfl a
 ·rfl
noncomputable def ez:am:=d7 (z6 (P:=Tryd.prog) []) (ge (P:=Tryd.prog) 2 [eR] [] [] [] [zp])
def tQ:IR:=Rs [Bi 46 .lss 45 44] (Sq (Cn 46 .skip (.exit 2)) (Sq (.block 3 (Rs [Mv 47 45,Mv 7 47] (.wk [Mv 48 6,Nk 49 48,Pp (.fdw 50 8 (.t 49)),⟨none,.ldw 51 1 false (.t 50),some ([2],[])⟩,Mv 52 7,Mv 53 6,Nk 54 53,Pp (.fdw 55 8 (.t 54)),⟨none,.ldw 56 1 false (.t 55),some ([2],[])⟩,Mv 57 7,Pp (.ixa 58 .afield (.t 56) (.t 57)),Fa 59 4 58,⟨none,.ld 60 5 true false (.t 59),some ([],[])⟩,Pp (.call (some 61) 36 [.t 60]),Pp (.ixa 62 .afield (.t 51) (.t 52))] [[],[0],[0,1],[0,1,2],[],[],[5],[5,6],[5,6,7],[],[5,6,7,8,9],[5,6,7,8,9,10],[5,6,7,8,9,10,11],[5,6,7,8,9,10,11,12],[0,1,2,3,4,5,6,7,8,9,10,11,12,13]] [Fa 63 4 62] (.ste 5 (.t 63) (.t 61)) []))) (Rg [Bc 64 .add 45 1,Mv 45 64])))
def sJ:IR:=Rg [Bc 65 .add 30 1,Mv 30 65]
def lp:IR:=Rs [Bi 31 .lss 30 29] (Sq (Cn 31 .skip (.exit 0)) (Sq (.block 1 (Rs [Mv 32 30,Mv 5 32] (Rs [Mv 33 4,Nk 34 33,Fa 35 0 34,Fa 36 0 35,Lo 37 36,Mv 38 5,Pp (.ixw 39 .atype 37 38),Mv 6 39] (Rs [Mv 40 6,Nk 41 40,Pp (.fdw 42 8 41),Pp (.ldw 43 1 false 42),Ll 44 43,Mi 45 0] (.block 2 (.loop [2,4,6,29,30,44,45,1000000] 4 tQ)))))) sJ))
def oR:IR:=Sq (.gh (.cls (.cell 1 0)) (.gh (.fz (.cell 1 0)) (Rg [Mv 66 4,Nk 67 66,Fa 68 0 67,Pp (.ld 69 1 true false 68),Fz 2 1 69,Mi 3 0]))) .ret
def aen:IR:=Rs [Bx 1 0,Pp (.alr 2 1),Mi 3 0] (Rs [Pp (.mkm 8 .sn),Pp (.bld 9 [.ul .atype ([]:List ab),.nilm,vI 0,vI 0] [(1,1,8)]),Pp (.box 10 9),Mv 4 10] (Rs [Mv 11 4,Ld 12 5 true 1,Ca 13 35 [11,12,kS []]] (Sq (Rs [Mv 14 4,Nk 15 14,Fa 16 2 15,Lo 17 16,Bc 18 .neq 17 0] (Cn 18 (Sq (.reg [Pp (.bld 19 [fu .atype true] []),Mv 20 4,Nk 21 20,Fa 22 2 21,Fo [1] [] (.ld 23 1 false false 22),Fz 2 1 19,Mv 3 23] [[],[],[1],[1,2],[1,2,3],[0],rg 0 5]) .ret) .skip)) (Sq (Sq (.gh (.opn (.cell 1 0)) (Rg [Mv 24 4,Nk 25 24,Fa 26 0 25,Fa 27 0 26,Lo 28 27,Pp (.lnw 29 28),Mi 30 0])) (.block 0 (.loop [2,4,29,30,1000001] 4 lp))) oR))))
def rW:List RV:=[.cell 2 1 true,.t 3]
theorem aeo:adJ Tryd.prog ez [35,2000035] 0 zm Tryd.f21 aen rW:=ajA Tryd.func21
def mX(R:IR->(Ex->St->Ro)->St->Ro)(a:St->Ro):Ex->St->Ro:=(dv a [2,4,29,30,1000001] 4 (aQ 0 (cj (R oR) (fin rW))))
abbrev eY:Type:=(Int×Int×List (Bs×Int)×Nat×Int×Int×List ab)
def bZ(x:eY):St:={env:=(.undef::.undef::.raw 1::.undef::.ptr 1 0::(U 24 (.int .i64 x.1::.int .i64 x.2.1::(U 39 [])))),hp:=[some [.mp .sn x.2.2.1],some [.sw .atype 2 x.2.2.2.1,.mr 0,.int .i64 x.2.2.2.2.1,.int .i64 x.2.2.2.2.2.1],some [.rw .atype x.2.2.2.2.2.2],none]}
def acR(R:IR->(Ex->St->Ro)->St->Ro)(b a:St->Ro):Ex->St->Ro:=(dv a [2,4,6,29,30,44,45,1000000] 4 (aQ 2 (aQ 1 (cj (R sJ) (mX R b)))))
abbrev mY:Type:=(Nat×Int×Int×Int×Int×List (Bs×Int)×Nat×Int×Int×List ab)
def jZ(x:mY):St:={env:=(.undef::.undef::.raw 1::.undef::.ptr 1 0::.undef::.wp 2 .atype x.1 0::(U 22 (.int .i64 x.2.1::.int .i64 x.2.2.1::(U 13 (.int .i64 x.2.2.2.1::.int .i64 x.2.2.2.2.1::(U 24 [])))))),hp:=[some [.mp .sn x.2.2.2.2.2.1],some [.sw .atype 2 x.2.2.2.2.2.2.1,.mr 0,.int .i64 x.2.2.2.2.2.2.2.1,.int .i64 x.2.2.2.2.2.2.2.2.1],some [.rw .atype x.2.2.2.2.2.2.2.2.2],none]}
def mZ(N:Nat)(b:St->Ro):(St->Ro)->St->Ro:=λa s=>run ez N tQ (acR (run ez N) b a) s
def kK(N:Nat)(c:eY->Ro)(d:mY->Ro)(x:mY):Ro:=
 let k:Nat:=x.1;let j:Int:=x.2.1;let p:Int:=x.2.2.1;let i:Int:=x.2.2.2.1;let b:Int:=x.2.2.2.2.1;let g:List (Bs×Int):=x.2.2.2.2.2.1;let e:Nat:=x.2.2.2.2.2.2.1;let f:Int:=x.2.2.2.2.2.2.2.1;let h:Int:=x.2.2.2.2.2.2.2.2.1;let a:List ab:=x.2.2.2.2.2.2.2.2.2
 cond (decide (b<i)) (
  chk (decide (k<Aa a)) (
   let q:=(Aq a k (ao .atype)).fields
   chk (decide (k<Aa a)) (
    let r:=(Aq a k (ao .atype)).fields
    chk (ixl b r) (
     let u:=(Aq r (Ag b) (ao .afield))
     ae (iw (reJ u.df)) (λ(o:aa)=>
      chk (ixl b q) (
       let m:=(Aq q (Ag b) (ao .afield))
       chk ((aam [.int .i64 o.kind,.int .i64 o.n,.str o.s,.sl .jnode (.may false) o.l,.sl .str (.may false) o.names] [.int .i64 m.df.kind,.int .i64 m.df.n,.str m.df.s,.sl .jnode (.may false) m.df.l,.sl .str (.may false) m.df.names]&&true)) (
        let t:=(Ao .i64 (b+1))
        d (k,j,p,i,t,g,e,f,h,a)))))))) (
  let v:=(Ao .i64 (p+1))
  c (j,v,g,e,f,h,a))
theorem ab0(N:Nat)(a:St->Ro):LB (mZ N a) jZ (kK N (λy=>a (bZ y))):=λ_ _=>by kernel_rfl
def na(N:Nat):(St->Ro)->St->Ro:=λa s=>run ez N lp (mX (run ez N) a) s
def mh(N:Nat)(h:eY->Ro)(i:mY->Ro)(x:eY):Ro:=
 let g:Int:=x.1;let b:Int:=x.2.1;let e:List (Bs×Int):=x.2.2.1;let c:Nat:=x.2.2.2.1;let f:Int:=x.2.2.2.2.1;let d:Int:=x.2.2.2.2.2.1;let a:List ab:=x.2.2.2.2.2.2
 cond (decide (b<g)) (
  chk ((decide (0<=b)&&decide (b<↑c))) (
   chk (decide ((Ag b)<Aa a)) (
    let k:=(Aq a (Ag b) (ao .atype)).fields;let j:=(↑(Aa k):Int)
    i ((Ag b),g,b,j,0,e,c,f,d,a)))) (
  chk (Av c (Aa a)) (
   some (.tup [.agg [.sl .atype (.may false) a],.int .i64 0],[some [.mp .sn e],some [.sl .atype .own a,.mr 0,.int .i64 f,.int .i64 d],none,none])))
def nc(N:Nat)(a:eY->Ro)(x:eY):Ro:=mh N a (λz=>b8 N (kK N a) z) x
def qK(N:Nat)(a:St->Ro):List (Nat×(St->Ro)):=(dZ ez N lp (mX (run ez N) a)++(dZ ez N oR (fin rW)++[]))
theorem ab1(N:Nat):∀(a:St->Ro)(x:eY),na N a (bZ x)=nc N (λy=>a (bZ y)) x:=by
 intro a x;have b:∀C:Nat->St->Ro,dd C ez N lp (mX (dd C ez N) a) (bZ x)=mh N (λy=>a (bZ y)) (λz=>C 1000000 (jZ z)) x:=by intro C;kernel_rfl
 have h:na N a (bZ x)=mh N (λy=>a (bZ y)) (λz=>bP N (mZ N a) (jZ z)) x:=(lD (C:=l9 (qK N a)) (hR (cb (l:=(qK N a)) (by kernel_rfl))) (rF (jG (om (hR (iZ (cb (l:=(qK N a)) (by kernel_rfl)))) rfl))) _).trans ((b _).trans (by kernel_rfl));have c:(λz=>bP N (mZ N a) (jZ z))=(λz=>b8 N (kK N (λy=>a (bZ y))) z):=funext λz=>cL (jZ) (mZ N a) (kK N (λy=>a (bZ y))) (ab0 N a) N z
 rw[h,c];rfl
def lX(N:Nat)(d:aa)(b:eY->Ro):Ro:=
 ae (bJ ([]:List (Bs×Int)) ([]:List ab) 0 0 (reJ d) ([]:Bs)) (λa=>
  cond (!(a.2.2.2.1==0)) (
   some (.tup [.agg [.sl .atype (.may true) ([]:List ab)],.int .i64 a.2.2.2.1],[some [.mp .sn a.2.1],some [.ul .atype a.2.2.1,.mr 0,.int .i64 a.2.2.2.1,.int .i64 a.2.2.2.2]])) (
   chk (decide (0<Aa a.2.2.1)) (
    let c:=(↑(Aa a.2.2.1):Int)
    b (c,0,a.2.1,(Aa a.2.2.1),a.2.2.2.1,a.2.2.2.2,a.2.2.1))))
def yi(N:Nat)(a:aa):Ro:=lX N a (λz=>b8 N (nc N) z)
theorem acS(N:Nat)(a:aa)(h:Tot (yi N a) (λz=>∃(d:List ab)(c:Int)(rest:List ah),z.1.dimR=.tup [.agg [.sl .atype (.may false) d],.int .i64 c]∧z.2=rest∧pG a (d,c))):∃r,jn a r:=zZ.fin (p:=λr=>pG a r) aeo (N:=N) ((gb _ (by kernel_rfl) rfl (λC=>lX N a (λz=>C 1000001 (bZ z))) (λC=>by kernel_rfl)).trans (BB (b:=lX N a (λz=>bP N (na N) (bZ z))) (by kernel_rfl) (congrArg (lX N a) (funext λz=>cL (bZ) (na N) (nc N) (ab1 N) N z)))) h λ_ ⟨d,c,_,e,_,q⟩=>⟨(d,c),e,q⟩
theorem yH:lW 21 m0:=⟨by decide,aem.map,by decide,by decide⟩
theorem agG(l:List V):aam l l=true:=by simp[aam]
theorem ahz(n:aa)(Q:aC n):∃r,jn n r:=by
 obtain⟨N,Y⟩:∃N:Nat,N=100:=⟨_,rfl⟩
 apply acS N;unfold yi lX;simp only[cq];refine ac (aa9 20 (by decide) m0 n [] yH Q (by simp)) ?_;intro h P;have y:h=aS 21 m0 n []:=rn P yH;have v:hY n=(if h.2.2.2.1=0 then (h.2.2.1,0) else ([],h.2.2.2.1)):=by rw[y];rfl
 refine af (λf=>ak ⟨[],h.2.2.2.1,_,rfl,rfl,?_⟩) (λf=>?_);·show _=hY n;rw[v,if_neg (by simpa using f)]
 have I:h.2.2.2.1=0:=by simpa using f
 rw[if_pos I] at v;have b:=yh Q (by rw[<-y];exact I);rw[<-y] at b;clear y P;refine vck ?_ (decide_eq_true b.pos);obtain⟨m,F⟩:∃m,h.2.2.1=m:=⟨_,rfl⟩
 rw[F] at b v ⊢;have O:=b.cap;refine cn (λx=>match x with|(c,i,C,l,e,d,a)=>c=(m.length:Int)∧(0<=i∧i<=(m.length:Int))∧l=m.length∧a=m) (λx=>((m.length:Int)-x.2.1).toNat) ?_ _ _ ⟨rfl,⟨by simp,by simp⟩,rfl,rfl⟩ (by simp;omega);rintro B ⟨c,i,C,l,e,d,a⟩ ⟨rfl,⟨W,X⟩,rfl,rfl⟩ H;dsimp only at H;unfold nc mh;dsimp only;refine af (λf=>?_) (λf=>?_)
 ·have z:i<(a.length:Int):=of_decide_eq_true f;have g:i.toNat<a.length:=by omega
  have D:a[i.toNat]? =some (a.getD i.toNat (ao .atype)):=by rw[Ah,Ac g];rfl
  have k:=b.tok _ (Af D);refine vck ?_ (by simp[W,z]);refine vck ?_ (decide_eq_true g);generalize a.getD i.toNat (ao .atype)=t at D k ⊢;have S:a.getD i.toNat (ao .atype)=t:=by rw[Ah,D];rfl
  have R:=k.fl;refine cn (λx=>match x with|(L,c,p,M,j,C,l,e,d,u)=>L=i.toNat∧c=(a.length:Int)∧p=i∧M=(t.fields.length:Int)∧(0<=j∧j<=(t.fields.length:Int))∧l=a.length∧u=a) (λx=>((t.fields.length:Int)-x.2.2.2.2.1).toNat) ?_ _ _ ⟨rfl,rfl,rfl,rfl,⟨by simp,by simp⟩,rfl,rfl⟩ (by simp;omega);rintro w ⟨L,c,p,M,j,C,l,e,d,u⟩ ⟨rfl,rfl,rfl,rfl,⟨J,Z⟩,rfl,rfl⟩ o;dsimp only at o;unfold kK;dsimp only;refine af (λf=>?_) (λf=>?_)
  ·have q:j<(t.fields.length:Int):=of_decide_eq_true f;rw[S];refine vck ?_ (decide_eq_true g);refine vck ?_ (decide_eq_true g);refine vck ?_ (by simp[ixl,J,q]);have A:j.toNat<t.fields.length:=by omega
   have G:=k.fs (t.fields.getD j.toNat (ao .afield)) (by rw[Ah,Ac A];exact AO _);rw[cq];refine ac (aia _ G.df) ?_;rintro _ ⟨-,rfl⟩;refine vck ?_ (by simp[ixl,J,q]);refine vck ?_ (by simp only[agG,Bool.and_self]);have E:IntKind.i64.wrap (j+1)=j+1:=ax (j+1) (by omega);rw[E];exact o _ ⟨rfl,rfl,rfl,rfl,⟨by first|omega|(dsimp only;omega),by first|omega|(dsimp only;omega)⟩,rfl,rfl⟩ (by simp only;omega)
  ·have E:IntKind.i64.wrap (p+1)=p+1:=ax (p+1) (by omega);rw[E];exact H _ ⟨rfl,⟨by first|omega|(dsimp only;omega),by first|omega|(dsimp only;omega)⟩,rfl,rfl⟩ (by simp only;omega)
 ·refine vck ?_ (BL _);exact ak ⟨_,_,_,rfl,rfl,by show _=hY n;rw[v]⟩
noncomputable def ab2:am:=tab (P:=Tryd.prog) [] [] [] [tu]
def abd:IR:=Rs [Bx 3 0,Pp (.new 6 [vI 0,vI 0,vS,nl .jnode,nl .str])] (Sq (Rs [Mv 10 1,Ll 11 10,Bc 12 .eql 11 0,Mv 13 12,Gf 13 (.fad 14 3 3),Gf 13 (.lde 15 1 false 14),Gf 13 (.lenl 16 15),Gf 13 (.bin 17 .eql 16 (kI 0)),Po 18 13 17] (Cn 18 (Rs [Pp (.bsl 19 .str [kS [105,110,116],kS [115,116,114,105,110,103],kS [114,101,99,111,114,100],kS [101,110,117,109],kS [110,117,108,108],kS [120],kS [78,97],kS [115,46,84,111,112],kS [97,45,98],kS [],kS [109,97,112],kS [97,114,114,97,121],kS [102,105,120,101,100],kS [84,111,112],kS [115,46,78,97],kS [78,46,98]] true),Mv 7 19] (Sq (Rs [Mv 20 2,Pp (.bin 21 .rem 20 (.c (.int .u8 8)))] (.block 0 (Rs [Pp (.bin 23 .eql 21 (.c (.int .u8 0))),Mv 22 23] (Cn 22 (Rs [Mv 24 2,Pp (.cvi 25 .i64 24),Pp (.bld 26 [vI 0,vI 0,vS,fu .jnode true,fu .str true] [(0,1,kI 3),(1,1,25)]),Sv 5 6 26] .ret) (Rs [Pp (.bin 28 .eql 21 (.c (.int .u8 1))),Mv 27 28] (Cn 27 (Rs [Pp (.bld 29 [vI 0,vI 0,vS,fu .jnode true,fu .str true] [(0,1,kI 1)]),Sv 5 6 29] .ret) (Rs [Pp (.bin 31 .eql 21 (.c (.int .u8 2))),Mv 30 31] (Cn 30 (Rs [Fa 32 3 3,Lq 33 32,Pp (.bld 34 [vI 0,vI 0,vS,fu .jnode true,fu .str true] [(0,1,kI 5),(3,1,33)]),Sv 5 6 34] .ret) .skip)))))))) (Rs [Mv 35 7,Mv 36 2,Pp (.bin 37 .quo 36 (.c (.int .u8 8))),Pp (.cvi 38 .i64 37),Mv 39 7,Ll 40 39,Bi 41 .rem 38 40,Ix 42 .str 35 41,Lq 43 42,Pp (.bld 44 [vI 0,vI 0,vS,fu .jnode true,fu .str true] [(0,1,kI 4),(2,1,43)]),Sv 5 6 44] .ret))) .skip)) (Rs [Ld 45 5 true 3,Pp (.new 8 [vI 0,vI 0,vS,.ul .jnode ([]:List aa),.ul .str ([]:Bss)]),Sv 5 8 45] (Sq (.reg [Pp (.blu 46 .jnode),Fa 47 3 3,Lq 48 47,Pp (.apu 49 .jnode (.tk 46) 48),Pp (.blu 50 .str),Fa 51 4 3,Lq 52 51,Pp (.apu 53 .str (.tk 50) 52),Fa 54 3 8,Fo [] [1] (.st none 1 54 (.tk 49)),Fa 55 4 8,Fo [] [1] (.st none 1 55 (.tk 53))] [[],[],[1],[0,1,2],[],[],[5],rg 0 6,rg 0 3,rg 0 8,rg 0 9,rg 0 10]) (Sq (.reg [Mv 56 1,Pp (.ixa 57 .u8 56 (kI 0)),Lq 58 57,Pp (.cvi 59 .i64 58),Fa 60 3 3,Lq 61 60,Ll 62 61,Bi 63 .rem 59 62,Mv 9 63] [[],[0],[0,1],[0,1,2],[],[4],[4,5],rg 0 6,rg 0 7]) (Sq (.block 1 (Rs [Mv 78 1,Ll 79 78,Bc 80 .eql 79 1,Mv 81 80,Gt 81 (.mov 82 2),Gt 81 (.bin 83 .rem 82 (.c (.int .u8 5))),Gt 81 (.bin 84 .eql 83 (.c (.int .u8 0))),Pa 85 81 84,Mv 86 85,Gt 86 (.fad 87 4 8),Gt 86 (.ld 88 1 false false 87),Gt 86 (.lnw 89 88),Gt 86 (.fad 90 3 8),Gt 86 (.ld 91 1 false false 90),Gt 86 (.lnw 92 91),Gt 86 (.bin 93 .eql 89 92),Pa 94 86 93,Mv 77 94] (Cn 77 (.gh (.opn (.cell 1 3)) (.gh (.opn (.cell 1 4)) (.ghp (.cls (.cell 1 3)) (.ghp (.cls (.cell 1 4)) (.reg [Fa 95 3 8,Fo [1] [] (.ld 96 1 false false 95),Mv 97 9,Pp (.slw 98 .jnode (.t 96) none (some (.t 97))),Fa 99 3 8,Fo [1] [] (.ld 100 1 false false 99),Mv 101 9,Bc 102 .add 101 1,Pp (.slw 103 .jnode (.t 100) (some (.t 102)) none),Fo [] [2] (.apx 104 .jnode (.t 98) (.t 103)),Fa 105 4 8,Fo [1] [] (.ld 106 1 false false 105),Mv 107 9,Pp (.slw 108 .str (.t 106) none (some (.t 107))),Fa 109 4 8,Fo [1] [] (.ld 110 1 false false 109),Mv 111 9,Bc 112 .add 111 1,Pp (.slw 113 .str (.t 110) (some (.t 112)) none),Fo [] [4] (.apx 114 .str (.t 108) (.t 113)),Fa 115 3 8,Fo [] [1] (.st none 1 115 (.tk 104)),Fa 116 4 8,Fo [] [1] (.st none 1 116 (.tk 114))] [[],[0],[],[0,1,2],[],[4],[],[6],rg 4 7,rg 0 8,[],[10],[],[10,11,12],[],[14],[],[16],rg 14 17,rg 0 18,rg 0 11++[14,15],rg 0 20,rg 0 21,rg 0 22]))))) (Rs [Mv 118 1,Ll 119 118,Bc 120 .eql 119 1,Mv 121 120,Gt 121 (.mov 122 2),Gt 121 (.bin 123 .rem 122 (.c (.int .u8 5))),Gt 121 (.bin 124 .eql 123 (.c (.int .u8 1))),Pa 125 121 124,Mv 126 125,Gt 126 (.fad 127 0 3),Gt 126 (.lde 128 1 false 127),Gt 126 (.bin 129 .eql 128 (kI 5)),Pa 130 126 129,Mv 117 130] (Cn 117 (.gh (.fz (.cell 1 3)) (.reg [Fa 131 3 8,Fo [] [1] (.ld 132 1 false true 131),Fa 133 3 8,Fo [1] [] (.ld 134 1 false false 133),Mv 135 9,Ix 136 .jnode 134 135,Ld 137 5 true 136,Pp (.bsl 138 .jnode [137] true),Pp (.app 139 .jnode (.tk 132) 138),Fa 140 3 8,Fo [] [1] (.st none 1 140 (.tk 139))] [[],[0],[],[2],[],[2,3,4],rg 2 5,rg 2 6,rg 0 7,rg 0 8,rg 0 9])) (.gh (.opn (.cell 1 3)) (.ghp (.cls (.cell 1 3)) (.reg [Fa 64 3 8,Fo [1] [] (.ld 65 1 false false 64),Mv 66 9,Fa 67 3 3,Lq 68 67,Mv 69 9,Ix 70 .jnode 68 69,Ld 71 5 true 70,Mv 72 1,Pp (.subl 73 .u8 72 (some (kI 1)) none),Mv 74 2,Ca 75 11 [71,73,74],Pp (.ixw 76 .jnode 65 66),Fo [] [2] (.stw none 5 76 75)] [[],[0],[],[],[3],[],[3,4,5],rg 3 6,[],[8],[],rg 3 10,rg 0 11,rg 0 12])))))))) (Sq (.gh (.fz (.cell 1 4)) (.gh (.fz (.cell 1 3)) (Rg [Pp (.ld 141 5 true false 8),Sv 5 6 141]))) .ret))))))
def abe:List RV:=[.cell 6 5 true]
theorem abf:FnC Tryd.prog ab2 [] 0 tt Tryd.f11 abd abe:=fnC Tryd.func11
def oS(N:Nat)(c:aa)(e:Bs)(f:Int):Ro:=
 let x1:=(↑(Aa e):Int)
 let x:=λG H F g3 g4=>(some (.agg [.int .i64 G,.int .i64 H,.str F,.sl .jnode (.may g3) g4,.sl .str (.may true) ([]:Bss)],[some [.int .i64 G,.int .i64 H,.str F,.sl .jnode (.may g3) g4,.sl .str (.may true) ([]:Bss)]]):Ro)
 let i:=λG H F=>(some (.agg [.int .i64 c.kind,.int .i64 c.n,.str c.s,.sl .jnode (.may false) G,.sl .str (.may false) H],F):Ro)
 cond (x1==0) (
  cond ((Bl f 8)==0) (
   x 3 (Ao .i64 f) ([]:Bs) true ([]:List aa)) (
   cond ((Bl f 8)==1) (
    x 1 0 ([]:Bs) true ([]:List aa)) (
    cond ((Bl f 8)==2) (
     x 5 0 ([]:Bs) false c.l) (
     let x2:=(Ao .u8 (Int.tdiv f 8))
     let x3:=(↑(Aa ([([105,110,116]:Bs),([115,116,114,105,110,103]:Bs),([114,101,99,111,114,100]:Bs),([101,110,117,109]:Bs),([110,117,108,108]:Bs),([120]:Bs),([78,97]:Bs),([115,46,84,111,112]:Bs),([97,45,98]:Bs),([]:Bs),([109,97,112]:Bs),([97,114,114,97,121]:Bs),([102,105,120,101,100]:Bs),([84,111,112]:Bs),([115,46,78,97]:Bs),([78,46,98]:Bs)]:Bss)):Int)
     chk ((!(x3==0))) (
      let x4:=(Bl (Ao .i64 x2) x3)
      chk (ixl x4 ([([105,110,116]:Bs),([115,116,114,105,110,103]:Bs),([114,101,99,111,114,100]:Bs),([101,110,117,109]:Bs),([110,117,108,108]:Bs),([120]:Bs),([78,97]:Bs),([115,46,84,111,112]:Bs),([97,45,98]:Bs),([]:Bs),([109,97,112]:Bs),([97,114,114,97,121]:Bs),([102,105,120,101,100]:Bs),([84,111,112]:Bs),([115,46,78,97]:Bs),([78,46,98]:Bs)]:Bss)) (
       let x5:=Aq ([([105,110,116]:Bs),([115,116,114,105,110,103]:Bs),([114,101,99,111,114,100]:Bs),([101,110,117,109]:Bs),([110,117,108,108]:Bs),([120]:Bs),([78,97]:Bs),([115,46,84,111,112]:Bs),([97,45,98]:Bs),([]:Bs),([109,97,112]:Bs),([97,114,114,97,121]:Bs),([102,105,120,101,100]:Bs),([84,111,112]:Bs),([115,46,78,97]:Bs),([78,46,98]:Bs)]:Bss) (Ag x4) (ao .str)
       x 4 0 x5 true ([]:List aa))))))) (
  let x6:=(↑(Aa c.l):Int)
  cond (x6==0) (
   cond ((Bl f 8)==0) (
    x 3 (Ao .i64 f) ([]:Bs) true ([]:List aa)) (
    cond ((Bl f 8)==1) (
     x 1 0 ([]:Bs) true ([]:List aa)) (
     cond ((Bl f 8)==2) (
      x 5 0 ([]:Bs) false c.l) (
      let x7:=(Ao .u8 (Int.tdiv f 8))
      let x8:=(↑(Aa ([([105,110,116]:Bs),([115,116,114,105,110,103]:Bs),([114,101,99,111,114,100]:Bs),([101,110,117,109]:Bs),([110,117,108,108]:Bs),([120]:Bs),([78,97]:Bs),([115,46,84,111,112]:Bs),([97,45,98]:Bs),([]:Bs),([109,97,112]:Bs),([97,114,114,97,121]:Bs),([102,105,120,101,100]:Bs),([84,111,112]:Bs),([115,46,78,97]:Bs),([78,46,98]:Bs)]:Bss)):Int)
      chk ((!(x8==0))) (
       let x9:=(Bl (Ao .i64 x7) x8)
       chk (ixl x9 ([([105,110,116]:Bs),([115,116,114,105,110,103]:Bs),([114,101,99,111,114,100]:Bs),([101,110,117,109]:Bs),([110,117,108,108]:Bs),([120]:Bs),([78,97]:Bs),([115,46,84,111,112]:Bs),([97,45,98]:Bs),([]:Bs),([109,97,112]:Bs),([97,114,114,97,121]:Bs),([102,105,120,101,100]:Bs),([84,111,112]:Bs),([115,46,78,97]:Bs),([78,46,98]:Bs)]:Bss)) (
        let a3:=Aq ([([105,110,116]:Bs),([115,116,114,105,110,103]:Bs),([114,101,99,111,114,100]:Bs),([101,110,117,109]:Bs),([110,117,108,108]:Bs),([120]:Bs),([78,97]:Bs),([115,46,84,111,112]:Bs),([97,45,98]:Bs),([]:Bs),([109,97,112]:Bs),([97,114,114,97,121]:Bs),([102,105,120,101,100]:Bs),([84,111,112]:Bs),([115,46,78,97]:Bs),([78,46,98]:Bs)]:Bss) (Ag x9) (ao .str)
        x 4 0 a3 true ([]:List aa))))))) (
   chk (decide ((Aa ([]:List aa)+Aa c.l)*80<=140737488355328)) (
    let b:=(([]:List aa)++c.l)
    chk (decide ((Aa ([]:Bss)+Aa c.names)*16<=140737488355328)) (
     let d:=(([]:Bss)++c.names)
     chk (decide ((0:Int)<↑(Aa e))) (
      let bn:=(Aq e (Ag 0) (ao .u8)).toNat;let D:=(↑(Aa c.l):Int)
      chk ((!(D==0))) (
       let a:=(Bl (Ao .i64 bn) D)
       let a4:=(↑(Aa e):Int)
       cond (a4==1) (
        cond ((Bl f 5)==0) (
         let I:=(↑(Aa d):Int)
         let ad:=(↑(Aa b):Int)
         cond (I==ad) (
          chk (decide (0<Aa b)) (
           chk (decide (0<Aa d)) (
            chk ((decide (0<=a)&&decide (a<=(↑(Aa b):Int)))) (
             let h:=(Ao .i64 (a+1))
             chk ((decide (0<=h)&&decide (h<=(↑(Aa b):Int)))) (
              chk ((decide ((Ag a)<=(Ag h))&&decide ((Ag h)+((Aa b)-(Ag h))<=Aa b))) (
               let a1:=((Ag a)+((Aa b)-(Ag h)))
               let r:=((A4 (Ag a) b)++(A4 ((Aa b)-(Ag h)) (A8 (Ag h) b)))
               chk ((decide (0<=a)&&decide (a<=(↑(Aa d):Int)))) (
                let g:=(Ao .i64 (a+1))
                chk ((decide (0<=g)&&decide (g<=(↑(Aa d):Int)))) (
                 chk ((decide ((Ag a)<=(Ag g))&&decide ((Ag g)+((Aa d)-(Ag g))<=Aa d))) (
                  let bl:=((Ag a)+((Aa d)-(Ag g)))
                  let q:=((A4 (Ag a) d)++(A4 ((Aa d)-(Ag g)) (A8 (Ag g) d)))
                  chk (Av bl (Aa q)) (
                   chk (Av a1 (Aa r)) (
                    i r q [some [.int .i64 c.kind,.int .i64 c.n,.str c.s,.sl .jnode (.may false) r,.sl .str (.may false) q],some [.int .i64 c.kind,.int .i64 c.n,.str c.s,.sl .jnode .own r,.sl .str .own q],none,none,none,none]))))))))))) (
          let a2:=(↑(Aa e):Int)
          cond (a2==1) (
           cond ((Bl f 5)==1) (
            cond (c.kind==5) (
             chk (ixl a b) (
              let B:=(Aq b (Ag a) (ao .jnode))
              chk (decide ((Aa b+Aa ([(reJ B)]:List aa))*80<=140737488355328)) (
               let z:=(b++([(reJ B)]:List aa))
               i z d [some [.int .i64 c.kind,.int .i64 c.n,.str c.s,.sl .jnode (.may false) z,.sl .str (.may false) d],some [.int .i64 c.kind,.int .i64 c.n,.str c.s,.sl .jnode .own z,.sl .str .own d]]))) (
             chk (decide (0<Aa b)) (
              chk (ixl a c.l) (
               let R:=(Aq c.l (Ag a) (ao .jnode))
               chk ((decide (0<=1)&&decide (1<=(↑(Aa e):Int)))) (
                let L:=(A8 (Ag 1) (A4 (Aa e) e))
                ae (bA (reJ R) L f) (λ(r1:aa)=>
                 chk ((decide (0<=a)&&decide (a<↑(Aa b)))) (
                  chk (decide ((Ag a)<Aa b)) (
                   let t:=(Bg b (Ag a) (reJ r1))
                   chk (Av (Aa b) (Aa t)) (
                    i t d [some [.int .i64 c.kind,.int .i64 c.n,.str c.s,.sl .jnode (.may false) t,.sl .str (.may false) d],some [.int .i64 c.kind,.int .i64 c.n,.str c.s,.sl .jnode .own t,.sl .str .own d],none,none]))))))))) (
            chk (decide (0<Aa b)) (
             chk (ixl a c.l) (
              let S:=(Aq c.l (Ag a) (ao .jnode))
              chk ((decide (0<=1)&&decide (1<=(↑(Aa e):Int)))) (
               let X:=(A8 (Ag 1) (A4 (Aa e) e))
               ae (bA (reJ S) X f) (λ(r2:aa)=>
                chk ((decide (0<=a)&&decide (a<↑(Aa b)))) (
                 chk (decide ((Ag a)<Aa b)) (
                  let m:=(Bg b (Ag a) (reJ r2))
                  chk (Av (Aa b) (Aa m)) (
                   i m d [some [.int .i64 c.kind,.int .i64 c.n,.str c.s,.sl .jnode (.may false) m,.sl .str (.may false) d],some [.int .i64 c.kind,.int .i64 c.n,.str c.s,.sl .jnode .own m,.sl .str .own d],none,none]))))))))) (
           chk (decide (0<Aa b)) (
            chk (ixl a c.l) (
             let al:=(Aq c.l (Ag a) (ao .jnode))
             chk ((decide (0<=1)&&decide (1<=(↑(Aa e):Int)))) (
              let P:=(A8 (Ag 1) (A4 (Aa e) e))
              ae (bA (reJ al) P f) (λ(r3:aa)=>
               chk ((decide (0<=a)&&decide (a<↑(Aa b)))) (
                chk (decide ((Ag a)<Aa b)) (
                 let o:=(Bg b (Ag a) (reJ r3))
                 chk (Av (Aa b) (Aa o)) (
                  i o d [some [.int .i64 c.kind,.int .i64 c.n,.str c.s,.sl .jnode (.may false) o,.sl .str (.may false) d],some [.int .i64 c.kind,.int .i64 c.n,.str c.s,.sl .jnode .own o,.sl .str .own d],none,none])))))))))) (
         let Q:=(↑(Aa e):Int)
         cond (Q==1) (
          cond ((Bl f 5)==1) (
           cond (c.kind==5) (
            chk (ixl a b) (
             let E:=(Aq b (Ag a) (ao .jnode))
             chk (decide ((Aa b+Aa ([(reJ E)]:List aa))*80<=140737488355328)) (
              let y:=(b++([(reJ E)]:List aa))
              i y d [some [.int .i64 c.kind,.int .i64 c.n,.str c.s,.sl .jnode (.may false) y,.sl .str (.may false) d],some [.int .i64 c.kind,.int .i64 c.n,.str c.s,.sl .jnode .own y,.sl .str .own d]]))) (
            chk (decide (0<Aa b)) (
             chk (ixl a c.l) (
              let br:=(Aq c.l (Ag a) (ao .jnode))
              chk ((decide (0<=1)&&decide (1<=(↑(Aa e):Int)))) (
               let a5:=(A8 (Ag 1) (A4 (Aa e) e))
               ae (bA (reJ br) a5 f) (λ(r4:aa)=>
                chk ((decide (0<=a)&&decide (a<↑(Aa b)))) (
                 chk (decide ((Ag a)<Aa b)) (
                  let p:=(Bg b (Ag a) (reJ r4))
                  chk (Av (Aa b) (Aa p)) (
                   i p d [some [.int .i64 c.kind,.int .i64 c.n,.str c.s,.sl .jnode (.may false) p,.sl .str (.may false) d],some [.int .i64 c.kind,.int .i64 c.n,.str c.s,.sl .jnode .own p,.sl .str .own d],none,none]))))))))) (
           chk (decide (0<Aa b)) (
            chk (ixl a c.l) (
             let Z:=(Aq c.l (Ag a) (ao .jnode))
             chk ((decide (0<=1)&&decide (1<=(↑(Aa e):Int)))) (
              let a0:=(A8 (Ag 1) (A4 (Aa e) e))
              ae (bA (reJ Z) a0 f) (λ(r5:aa)=>
               chk ((decide (0<=a)&&decide (a<↑(Aa b)))) (
                chk (decide ((Ag a)<Aa b)) (
                 let u:=(Bg b (Ag a) (reJ r5))
                 chk (Av (Aa b) (Aa u)) (
                  i u d [some [.int .i64 c.kind,.int .i64 c.n,.str c.s,.sl .jnode (.may false) u,.sl .str (.may false) d],some [.int .i64 c.kind,.int .i64 c.n,.str c.s,.sl .jnode .own u,.sl .str .own d],none,none]))))))))) (
          chk (decide (0<Aa b)) (
           chk (ixl a c.l) (
            let M:=(Aq c.l (Ag a) (ao .jnode))
            chk ((decide (0<=1)&&decide (1<=(↑(Aa e):Int)))) (
             let ar:=(A8 (Ag 1) (A4 (Aa e) e))
             ae (bA (reJ M) ar f) (λ(r6:aa)=>
              chk ((decide (0<=a)&&decide (a<↑(Aa b)))) (
               chk (decide ((Ag a)<Aa b)) (
                let j:=(Bg b (Ag a) (reJ r6))
                chk (Av (Aa b) (Aa j)) (
                 i j d [some [.int .i64 c.kind,.int .i64 c.n,.str c.s,.sl .jnode (.may false) j,.sl .str (.may false) d],some [.int .i64 c.kind,.int .i64 c.n,.str c.s,.sl .jnode .own j,.sl .str .own d],none,none])))))))))) (
        let a9:=(↑(Aa e):Int)
        cond (a9==1) (
         cond ((Bl f 5)==1) (
          cond (c.kind==5) (
           chk (ixl a b) (
            let C:=(Aq b (Ag a) (ao .jnode))
            chk (decide ((Aa b+Aa ([(reJ C)]:List aa))*80<=140737488355328)) (
             let A:=(b++([(reJ C)]:List aa))
             i A d [some [.int .i64 c.kind,.int .i64 c.n,.str c.s,.sl .jnode (.may false) A,.sl .str (.may false) d],some [.int .i64 c.kind,.int .i64 c.n,.str c.s,.sl .jnode .own A,.sl .str .own d]]))) (
           chk (decide (0<Aa b)) (
            chk (ixl a c.l) (
             let Y:=(Aq c.l (Ag a) (ao .jnode))
             chk ((decide (0<=1)&&decide (1<=(↑(Aa e):Int)))) (
              let bx:=(A8 (Ag 1) (A4 (Aa e) e))
              ae (bA (reJ Y) bx f) (λ(r7:aa)=>
               chk ((decide (0<=a)&&decide (a<↑(Aa b)))) (
                chk (decide ((Ag a)<Aa b)) (
                 let k:=(Bg b (Ag a) (reJ r7))
                 chk (Av (Aa b) (Aa k)) (
                  i k d [some [.int .i64 c.kind,.int .i64 c.n,.str c.s,.sl .jnode (.may false) k,.sl .str (.may false) d],some [.int .i64 c.kind,.int .i64 c.n,.str c.s,.sl .jnode .own k,.sl .str .own d],none,none]))))))))) (
          chk (decide (0<Aa b)) (
           chk (ixl a c.l) (
            let W:=(Aq c.l (Ag a) (ao .jnode))
            chk ((decide (0<=1)&&decide (1<=(↑(Aa e):Int)))) (
             let bs:=(A8 (Ag 1) (A4 (Aa e) e))
             ae (bA (reJ W) bs f) (λ(r8:aa)=>
              chk ((decide (0<=a)&&decide (a<↑(Aa b)))) (
               chk (decide ((Ag a)<Aa b)) (
                let v:=(Bg b (Ag a) (reJ r8))
                chk (Av (Aa b) (Aa v)) (
                 i v d [some [.int .i64 c.kind,.int .i64 c.n,.str c.s,.sl .jnode (.may false) v,.sl .str (.may false) d],some [.int .i64 c.kind,.int .i64 c.n,.str c.s,.sl .jnode .own v,.sl .str .own d],none,none]))))))))) (
         chk (decide (0<Aa b)) (
          chk (ixl a c.l) (
           let O:=(Aq c.l (Ag a) (ao .jnode))
           chk ((decide (0<=1)&&decide (1<=(↑(Aa e):Int)))) (
            let J:=(A8 (Ag 1) (A4 (Aa e) e))
            ae (bA (reJ O) J f) (λ(r9:aa)=>
             chk ((decide (0<=a)&&decide (a<↑(Aa b)))) (
              chk (decide ((Ag a)<Aa b)) (
               let w:=(Bg b (Ag a) (reJ r9))
               chk (Av (Aa b) (Aa w)) (
                i w d [some [.int .i64 c.kind,.int .i64 c.n,.str c.s,.sl .jnode (.may false) w,.sl .str (.may false) d],some [.int .i64 c.kind,.int .i64 c.n,.str c.s,.sl .jnode .own w,.sl .str .own d],none,none])))))))))))))))
def oT(N:Nat)(c:aa)(a:Bs)(b:Int):Ro:=oS N c a b
theorem rX(N:Nat)(d:aa)(c:Bs)(b:Int)(h:Tot (oT N d c b) (λz=>∃(a:aa)(rest:List ah),z.1.dimR=.agg (enc .jnode a)∧z.2=rest∧qN d c b (a))):∃r,bA d c b r:=abf.finP (N:=N) (by kernel_rfl) h λ_ ⟨a,_,e,_,q⟩=>⟨(a),e,q⟩
noncomputable abbrev tb_:= @tab Tryd.prog
def bo:am:=tb_ [] [pf,km,ms,yL,xf] [] [xd,pS]
def io:IR:=Cn 62 (Sq (.reg [Mv 72 2,Nk 73 72,Fo [1] [] (.ld 74 1 false false 73),Mv 75 0,Mv 76 2,Nk 77 76,Fo [1] [] (.ld 78 1 false false 77),Ll 79 78,Fo [] [0] (.call 80 45 [75,79]),Ix 81 .str 74 80,Lq 82 81,Ca 83 48 [82],Fo [] [2] (.st none 5 6 83)] [[],[0],[0,1],[],[],[4],[4,5],[4,5,6],rg 3 7,rg 0 8,rg 0 9,rg 0 10,rg 0 11]) .ret) .skip
def nO:IR:=Rs [Mv 84 2,Nk 85 84,Lo 86 85,Ll 87 86,Bc 88 .rem 87 26,Pp (.bin 89 .add (kI 97) 88),Pp (.cvi 90 .u8 89),Pp (.bsl 91 .u8 [90] true),Pp (.b2s 92 91),Pp (.bin 93 .add (kS [78]) 92),Mv 9 93] (Rs [Mv 94 2,Mv 95 2,Nk 96 95,Pp (.ld 97 1 false true 96),Mv 98 9,Pp (.bsl 99 .str [98] true),Pp (.app 100 .str (.tk 97) 99),Nk 101 94,Sk 1 101 100] (Sq (.block 1 (Rs [Mv 103 7,Bc 104 .eql 103 15,Mv 102 104] (Cn 102 (Rs [Pp (.bsl 105 .str [kS [116,121,112,101],kS [110,97,109,101],kS [115,105,122,101]] true),Ca 106 48 [kS [102,105,120,101,100]],Mv 107 9,Ca 108 48 [107],Mv 109 0,Ca 110 45 [109,kI 4],Pp (.bld 111 [vI 0,vI 0,vS,fu .jnode true,fu .str true] [(0,1,kI 3),(1,1,110)]),Pp (.bsl 112 .jnode [106,108,111] true),Ca 113 47 [105,112],Sv 5 6 113] .ret) (Rs [Mv 115 7,Bc 116 .eql 115 16,Mv 114 116] (Cn 114 (Rs [Ca 117 48 [kS [88]],Ca 118 48 [kS [89]],Ca 119 48 [kS [90]],Pp (.bsl 120 .jnode [117,118,119] true),Mv 121 0,Ca 122 45 [121,kI 3],Pp (.bin 123 .add (kI 1) 122),Pp (.subl 124 .jnode 120 none (some 123)),Mv 10 124] (Rs [Pp (.bsl 125 .str [kS [116,121,112,101],kS [110,97,109,101],kS [115,121,109,98,111,108,115]] true),Ca 126 48 [kS [101,110,117,109]],Mv 127 9,Ca 128 48 [127],Mv 129 10,Pp (.bld 130 [vI 0,vI 0,vS,fu .jnode true,fu .str true] [(0,1,kI 5),(3,1,129)]),Pp (.bsl 131 .jnode [126,128,130] true),Ca 132 47 [125,131],Pp (.new 11 [vI 0,vI 0,vS,nl .jnode,nl .str]),Sv 5 11 132] (Sq (Rs [Mv 133 0,Ca 134 45 [133,kI 2],Bc 135 .eql 134 0] (Cn 135 (.reg [Fa 136 4 11,Fo [3] [] (.ld 137 1 false false 136),Pp (.bsl 138 .str [kS [100,101,102,97,117,108,116]] true),Pp (.app 139 .str (.tk 137) 138),Fa 140 3 11,Fo [3] [] (.ld 141 1 false false 140),Ca 142 48 [kS [88]],Pp (.bsl 143 .jnode [142] true),Pp (.app 144 .jnode (.tk 141) 143),Fa 145 4 11,Fo [] [3] (.st none 1 145 (.tk 139)),Fa 146 3 11,Fo [] [3] (.st none 1 146 (.tk 144))] [[],[0],[],[0,1,2],[],[4],rg 0 3,[0,1,2,3,6],rg 0 7,rg 0 5,rg 0 9,rg 0 10,rg 0 11]) .skip)) (Rs [Pp (.ld 147 5 true false 11),Sv 5 6 147] .ret)))) .skip))))) (Rs [Mv 148 0,Mv 149 9,Mv 150 1,Mv 151 2,Ca 152 24 [148,149,150,151],Sv 5 6 152] .ret)))
def j3:IR:=.cut [0,1,2,6,7,1000001] 3 nO
def gR:IR:=Rs [Pp (.bsl 22 .str [kS [105,110,116],kS [108,111,110,103],kS [115,116,114,105,110,103],kS [98,121,116,101,115],kS [98,111,111,108,101,97,110],kS [110,117,108,108],kS [102,108,111,97,116],kS [100,111,117,98,108,101]] true),Mv 8 22] (Sq (.block 0 (Rs [Mv 24 7,Bc 25 .lss 24 8,Mv 23 25] (Cn 23 (Rs [Mv 26 8,Mv 27 7,Ix 28 .str 26 27,Lq 29 28,Ca 30 48 [29],Sv 5 6 30] .ret) (Rs [Mv 32 7,Bc 33 .lss 32 10,Mv 31 33] (Cn 31 (Rs [Pp (.bsl 34 .str [kS [116,121,112,101],kS [105,116,101,109,115]] true),Ca 35 48 [kS [97,114,114,97,121]],Mv 36 0,Mv 37 1,Bc 38 .add 37 1,Mv 39 2,Ca 40 46 [36,38,39],Pp (.bsl 41 .jnode [35,40] true),Ca 42 47 [34,41],Sv 5 6 42] .ret) (Rs [Mv 44 7,Bc 45 .eql 44 10,Mv 43 45] (Cn 43 (Rs [Pp (.bsl 46 .str [kS [116,121,112,101],kS [118,97,108,117,101,115]] true),Ca 47 48 [kS [109,97,112]],Mv 48 0,Mv 49 1,Bc 50 .add 49 1,Mv 51 2,Ca 52 46 [48,50,51],Pp (.bsl 53 .jnode [47,52] true),Ca 54 47 [46,53],Sv 5 6 54] .ret) (Rs [Mv 56 7,Bc 57 .lss 56 14,Mv 55 57] (Cn 55 (Rs [Mv 58 0,Mv 59 1,Mv 60 2,Ca 61 84 [58,59,60],Sv 5 6 61] .ret) (Rs [Mv 63 7,Bc 64 .eql 63 14,Mv 65 64,Gt 65 (.mov 66 2),Gt 65 (.nck 67 66),Gt 65 (.ld 68 1 false false 67),Gt 65 (.lenl 69 68),Gt 65 (.bin 70 .gtr 69 (kI 0)),Pa 71 65 70,Mv 62 71] (.cut [0,1,2,6,7,62,1000000] 3 io))))))))))) j3)
def yj:IR:=Rs [Pp (.new 6 [vI 0,vI 0,vS,nl .jnode,nl .str])] (Rs [Mv 12 0,Ca 13 45 [12,kI 20],Mv 7 13] (Sq (Rs [Mv 14 1,Bc 15 .gtr 14 3,Mv 16 15,Gf 16 (.mov 17 0),Gf 16 (.call 18 83 [17]),Po 19 16 18] (Cn 19 (Rg [Mv 20 7,Bc 21 .rem 20 8,Mv 7 21]) .skip)) (.cut [0,1,2,6,7,1000002] 3 gR)))
def cK:List RV:=[.cell 6 5 true]
theorem yk:FnC Tryd.prog bo [24,45,46,83,84,2000024,2000045,2000046,2000083,2000084] 2 46 Tryd.f46 yj cK:=fnC Tryd.func46
abbrev ck:Type:=(Int×Int×Bs×Int×Bss×Int×Int×Bs×List aa×Bss)
def eO:ck->St:=λ(a,b,c,d,e,f,g,h,i,j)=>{env:=(.ptr 0 0::vI a::.ptr 1 0::(U 3 (.ptr 2 0::vI b::(U 145 [])))),hp:=[some [vF .u8 c,vI d],some [vO .str e],some [vI f,vI g,vT h,vO .jnode i,vO .str j]]}
abbrev fE:Type:=(Int×Int×Bool×Bs×Int×Bss×Int×Int×Bs×List aa×Bss)
def dD:fE->St:=λ(b,c,d,e,f,g,h,i,j,k,a)=>{env:=(.ptr 0 0::vI b::.ptr 1 0::(U 3 (.ptr 2 0::vI c::(U 54 (vB d::(U 90 [])))))),hp:=[some [vF .u8 e,vI f],some [vO .str g],some [vI h,vI i,vT j,vO .jnode k,vO .str a]]}
def kX(R:Go.AM.TR):TE:=(aQ 0 (cj (R j3) (fin cK)))
def ip:ck->St:=λ(a,b,c,d,e,f,g,h,i,j)=>{env:=(.ptr 0 0::vI a::.ptr 1 0::(U 3 (.ptr 2 0::vI b::(U 145 [])))),hp:=[some [vF .u8 c,vI d],some [vO .str e],some [vI f,vI g,vT h,vO .jnode i,vO .str j]]}
def kY(N:Nat):TS:=λs=>run bo N nO (fin cK) s
def fF(N:Nat):ck->Ro:=λ(I,x,h,i,j,_,_,_,_,_)=>let L:=(↑(Aa j):Int);let y:=(Ao .i64 (97+(Bl L 26)));let z:=λD A G E F B C H M J=>(some (.agg [vI D,vI A,vT G,.sl .jnode (.may E) F,.sl .str (.may B) C],[some [vF .u8 H,vI M],some [vO .str J],some [vI D,vI A,vT G,.sl .jnode (.may E) F,.sl .str (.may B) C]]):Ro);chk (decide (Aa ([78]:Bs)+Aa ([(BG (Ag (Ao .u8 y)))]:Bs)<=9223372036854775807)) (let v:=([78]++([(BG (Ag (Ao .u8 y)))]:Bs));chk (decide ((Aa j+Aa ([v]:Bss))*16<=140737488355328)) (let p:=(j++([v]:Bss));cond (x==15) (ae (aO [102,105,120,101,100]) (λk=>ae (aO v) (λl=>ae (aL h i 4) (λq=>ae (dQ true [([116,121,112,101]:Bs),([110,97,109,101]:Bs),([115,105,122,101]:Bs)] true ([⟨k.1,k.2.1,k.2.2.1,k.2.2.2.1,k.2.2.2.2⟩,⟨l.1,l.2.1,l.2.2.1,l.2.2.2.1,l.2.2.2.2⟩,⟨3,q.1,([]:Bs),([]:List aa),([]:Bss)⟩]:List aa)) (λg=>z g.1 g.2.1 g.2.2.1 g.2.2.2.1 g.2.2.2.2.1 g.2.2.2.2.2.1 g.2.2.2.2.2.2 q.2.1 q.2.2 p))))) (cond (x==16) (ae (aO [88]) (λc=>ae (aO [89]) (λd=>ae (aO [90]) (λe=>ae (aL h i 3) (λr=>let s:=(Ao .i64 (1+r.1));chk (decide (0<=s)&&decide (s<=(↑(Aa ([⟨c.1,c.2.1,c.2.2.1,c.2.2.2.1,c.2.2.2.2⟩,⟨d.1,d.2.1,d.2.2.1,d.2.2.2.1,d.2.2.2.2⟩,⟨e.1,e.2.1,e.2.2.1,e.2.2.2.1,e.2.2.2.2⟩]:List aa)):Int))) (let w:=(A8 0 (A4 (Ag s) ([⟨c.1,c.2.1,c.2.2.1,c.2.2.2.1,c.2.2.2.2⟩,⟨d.1,d.2.1,d.2.2.1,d.2.2.2.1,d.2.2.2.2⟩,⟨e.1,e.2.1,e.2.2.1,e.2.2.2.1,e.2.2.2.2⟩]:List aa)));ae (aO [101,110,117,109]) (λm=>ae (aO v) (λn=>ae (dQ true [([116,121,112,101]:Bs),([110,97,109,101]:Bs),([115,121,109,98,111,108,115]:Bs)] true ([⟨m.1,m.2.1,m.2.2.1,m.2.2.2.1,m.2.2.2.2⟩,⟨n.1,n.2.1,n.2.2.1,n.2.2.2.1,n.2.2.2.2⟩,⟨5,0,([]:Bs),w,([]:Bss)⟩]:List aa)) (λa=>ae (aL r.2.1 r.2.2 2) (λo=>cond (o.1==0) (chk ((a.2.2.2.2.2.1&&decide (0<Aa ([([100,101,102,97,117,108,116]:Bs)]:Bss)))&&decide ((Aa a.2.2.2.2.2.2+Aa ([([100,101,102,97,117,108,116]:Bs)]:Bss))*16<=140737488355328)) (let t:=(a.2.2.2.2.2.2++([([100,101,102,97,117,108,116]:Bs)]:Bss));ae (aO [88]) (λb=>chk ((a.2.2.2.1&&decide (0<Aa ([⟨b.1,b.2.1,b.2.2.1,b.2.2.2.1,b.2.2.2.2⟩]:List aa)))&&decide ((Aa a.2.2.2.2.1+Aa ([⟨b.1,b.2.1,b.2.2.1,b.2.2.2.1,b.2.2.2.2⟩]:List aa))*80<=140737488355328)) (let u:=(a.2.2.2.2.1++([⟨b.1,b.2.1,b.2.2.1,b.2.2.2.1,b.2.2.2.2⟩]:List aa));some (.agg [vI a.1,vI a.2.1,vT a.2.2.1,vF .jnode u,vF .str t],[some [vF .u8 o.2.1,vI o.2.2],some [vO .str p],some [vI a.1,vI a.2.1,vT a.2.2.1,vF .jnode u,vF .str t],some [vI a.1,vI a.2.1,vT a.2.2.1,vO .jnode u,vO .str t]]))))) (some (.agg [vI a.1,vI a.2.1,vT a.2.2.1,.sl .jnode (.may a.2.2.2.1) a.2.2.2.2.1,.sl .str (.may a.2.2.2.2.2.1) a.2.2.2.2.2.2],[some [vF .u8 o.2.1,vI o.2.2],some [vO .str p],some [vI a.1,vI a.2.1,vT a.2.2.1,.sl .jnode (.may a.2.2.2.1) a.2.2.2.2.1,.sl .str (.may a.2.2.2.2.2.1) a.2.2.2.2.2.2],some [vI a.1,vI a.2.1,vT a.2.2.1,.sl .jnode (.may a.2.2.2.1) a.2.2.2.2.1,.sl .str (.may a.2.2.2.2.2.1) a.2.2.2.2.2.2]])))))))))))) (ae (fp h i p v I) (λf=>z f.1 f.2.1 f.2.2.1 false f.2.2.2.1 false f.2.2.2.2.1 f.2.2.2.2.2.1 f.2.2.2.2.2.2.1 f.2.2.2.2.2.2.2)))))
theorem uV(N:Nat):LJ (kY N) ip (fF N):=λ_=>by kernel_rfl
def iL(N:Nat):TS:=λs=>run bo N io (kX (run bo N)) s
def iq(N:Nat)(l:ck->Ro):fE->Ro:=λ(m,n,k,d,e,b,f,g,h,i,j)=>cond k (let o:=(↑(Aa b):Int);ae (aL d e o) (λc=>chk (ixl c.1 b) (let p:=Aq b (Ag c.1) (ao .str);ae (aO p) (λa=>some (.agg [vI a.1,vI a.2.1,vT a.2.2.1,vF .jnode a.2.2.2.1,vF .str a.2.2.2.2],[some [vF .u8 c.2.1,vI c.2.2],some [vO .str b],some [vI a.1,vI a.2.1,vT a.2.2.1,vF .jnode a.2.2.2.1,vF .str a.2.2.2.2]]))))) (l (m,n,d,e,b,f,g,h,i,j))
def fG(N:Nat)(x:fE):Ro:=iq N (λz=>fF N z) x
def kZ(N:Nat):List (Nat×(TS)):=(dZ bo N io (kX (run bo N))++(dZ bo N j3 (fin cK)++[]))
theorem uW(N:Nat):∀(x:fE),iL N (dD x)=fG N x:=by
 intro x;have a:∀C:Nat->TS,dd C bo N io (kX (dd C bo N)) (dD x)=iq N (λz=>C 1000001 (ip z)) x:=by intro C;kernel_rfl
 have h:iL N (dD x)=iq N (λz=>kY N (ip z)) x:=(lD (C:=l9 (kZ N)) (hR (cb (l:=(kZ N)) (by kernel_rfl))) (jG (om (hR (iZ (cb (l:=(kZ N)) (by kernel_rfl)))) rfl)) _).trans ((a _).trans (by kernel_rfl));have b:(λz=>kY N (ip z))=(λz=>fF N z):=funext λz=>uV N z
 rw[h,b];rfl
def la(N:Nat):TS:=λs=>run bo N gR (fin cK) s
def iu(N:Nat)(D:fE->Ro):ck->Ro:=λ(r,d,b,c,a,j,k,l,m,n)=>let s:=λt u v w x y z E H F=>(some (.agg [vI t,vI u,vT v,.sl .jnode (.may w) x,.sl .str (.may y) z],[some [vF .u8 E,vI H],some [vO .str F],some [vI t,vI u,vT v,.sl .jnode (.may w) x,.sl .str (.may y) z]]):Ro);let A:=λt=>D (r,d,t,b,c,a,j,k,l,m,n);cond (decide (d<8)) (chk (ixl d [([105,110,116]:Bs),([108,111,110,103]:Bs),([115,116,114,105,110,103]:Bs),([98,121,116,101,115]:Bs),([98,111,111,108,101,97,110]:Bs),([110,117,108,108]:Bs),([102,108,111,97,116]:Bs),([100,111,117,98,108,101]:Bs)]) (let B:=Aq [([105,110,116]:Bs),([108,111,110,103]:Bs),([115,116,114,105,110,103]:Bs),([98,121,116,101,115]:Bs),([98,111,111,108,101,97,110]:Bs),([110,117,108,108]:Bs),([102,108,111,97,116]:Bs),([100,111,117,98,108,101]:Bs)] (Ag d) (ao .str);ae (aO B) (λo=>s o.1 o.2.1 o.2.2.1 false o.2.2.2.1 false o.2.2.2.2 b c a))) (cond (decide (d<10)) (ae (aO [97,114,114,97,121]) (λp=>let I:=(Ao .i64 (r+1));ae (cl b c a I) (λe=>ae (dQ true [([116,121,112,101]:Bs),([105,116,101,109,115]:Bs)] true ([⟨p.1,p.2.1,p.2.2.1,p.2.2.2.1,p.2.2.2.2⟩,⟨e.1,e.2.1,e.2.2.1,e.2.2.2.1,e.2.2.2.2.1⟩]:List aa)) (λh=>s h.1 h.2.1 h.2.2.1 h.2.2.2.1 h.2.2.2.2.1 h.2.2.2.2.2.1 h.2.2.2.2.2.2 e.2.2.2.2.2.1 e.2.2.2.2.2.2.1 e.2.2.2.2.2.2.2)))) (cond (d==10) (ae (aO [109,97,112]) (λq=>let G:=(Ao .i64 (r+1));ae (cl b c a G) (λf=>ae (dQ true [([116,121,112,101]:Bs),([118,97,108,117,101,115]:Bs)] true ([⟨q.1,q.2.1,q.2.2.1,q.2.2.2.1,q.2.2.2.2⟩,⟨f.1,f.2.1,f.2.2.1,f.2.2.2.1,f.2.2.2.2.1⟩]:List aa)) (λi=>s i.1 i.2.1 i.2.2.1 i.2.2.2.1 i.2.2.2.2.1 i.2.2.2.2.2.1 i.2.2.2.2.2.2 f.2.2.2.2.2.1 f.2.2.2.2.2.2.1 f.2.2.2.2.2.2.2)))) (cond (decide (d<14)) (ae (jb b c a r) (λg=>s g.1 g.2.1 g.2.2.1 false g.2.2.2.1 false g.2.2.2.2.1 g.2.2.2.2.2.1 g.2.2.2.2.2.2.1 g.2.2.2.2.2.2.2)) (cond (d==14) (let C:=(↑(Aa a):Int);A (decide (0<C))) (A false)))))
def iM(N:Nat)(x:ck):Ro:=iu N (λz=>fG N z) x
def pC(N:Nat):List (Nat×(TS)):=(dZ bo N gR (fin cK)++[])
theorem uX(N:Nat):∀(x:ck),la N (eO x)=iM N x:=by
 intro x;have a:∀C:Nat->TS,dd C bo N gR (fin cK) (eO x)=iu N (λz=>C 1000000 (dD z)) x:=by intro C;kernel_rfl
 have h:la N (eO x)=iu N (λz=>iL N (dD z)) x:=(lD (C:=l9 (pC N)) (hR (cb (l:=(pC N)) (by kernel_rfl))) rfl _).trans ((a _).trans (by kernel_rfl));have b:(λz=>iL N (dD z))=(λz=>fG N z):=funext λz=>uW N z
 rw[h,b];rfl
def gD(N:Nat)(c:Bs)(d:Int)(e:Bss)(g:Int)(h:ck->Ro):Ro:=let f:=λi j k=>h (g,i,j,k,e,0,0,[],[],[]);ae (aL c d 20) (λb=>cond (decide (3<g)) (f (Bl b.1 8) b.2.1 b.2.2) (ae (jB b.2.1 b.2.2) (λa=>cond a.1 (f (Bl b.1 8) a.2.1 a.2.2) (f b.1 a.2.1 a.2.2))))
def qo(N:Nat)(a:Bs)(b:Int)(c:Bss)(d:Int):Ro:=gD N a b c d (λz=>iM N z)
theorem wB(N:Nat)(a:Bs)(c:Int)(d:Bss)(g:Int)(h:Tot (qo N a c d g) (λz=>∃i j k l m n o p rest,z.1.dimR=.agg [vI i,vI j,vT k,vF .jnode l,vF .str m]∧z.2=some [vF .u8 n,vI o]::some [vO .str p]::rest∧dx a c d g (i,j,k,l,m,n,o,p))):∃r,cl a c d g r:=FnK.finO (css:=[[vF .u8 a,vI c],[vO .str d]]) yk (N:=N) ((gb _ (by kernel_rfl) rfl (λC=>gD N a c d g (λz=>C 1000002 (eO z))) (λC=>by kernel_rfl)).trans (BB (b:=gD N a c d g (λz=>la N (eO z))) (by kernel_rfl) (congrArg (gD N a c d g) (funext λz=>uX N z)))) h λ_ ⟨i,j,k,l,m,n,o,p,_,e,f,q⟩=>⟨(i,j,k,l,m,n,o,p),e,⟨_,f⟩,q⟩
def yl:am:=tb_ [] [km,ms] [] [pS]
def wC:IR:=Rs [Pp (.new 6 [vI 0,vI 0,vS,nl .jnode,nl .str])] (Rs [Ca 9 48 [kS [110,117,108,108]],Pp (.bsl 10 .jnode [9] true),Pp (.bld 11 [vI 0,vI 0,vS,nl .jnode,nl .str] [(0,1,kI 5),(3,1,10)]),Pp (.new 7 [vI 0,vI 0,vS,nl .jnode,nl .str]),Sv 5 7 11] (Sq (Rs [Mv 12 0,Ca 13 45 [12,kI 2],Bc 14 .eql 13 0] (Cn 14 (.reg [Fa 15 3 7,Fo [3] [] (.ld 16 1 false false 15),Pp (.bsl 17 .str [kS [105,110,116],kS [115,116,114,105,110,103]] true),Mv 18 0,Fo [] [0] (.call 19 45 [18,kI 2]),Ix 20 .str 17 19,Lq 21 20,Ca 22 48 [21],Pp (.bsl 23 .jnode [22] true),Pp (.app 24 .jnode (.tk 16) 23),Fa 25 3 7,Fo [] [3] (.st none 1 25 (.tk 24))] [[],[0],[],[],[3],[2,3,4],rg 2 5,rg 2 6,rg 2 7,rg 0 8,rg 0 9,rg 0 10]) .skip)) (Rs [Mv 26 0,Mv 27 1,Bc 28 .add 27 1,Mv 29 2,Ca 30 46 [26,28,29],Pp (.alr 8 5),Fz 8 5 30] (Sq (Rs [Fa 31 0 8,Lq 32 31,Bc 33 .eql 32 6] (Cn 33 (Rg [Fa 34 3 7,Pp (.ld 35 1 false true 34),Ld 36 5 true 8,Pp (.bsl 37 .jnode [36] true),Pp (.app 38 .jnode (.tk 35) 37),Fa 39 3 7,Sk 1 39 38]) .skip)) (Rs [Pp (.ld 40 5 true false 7),Sv 5 6 40] .ret)))))
theorem wD:FnC Tryd.prog yl [45,46,2000045,2000046] 2 84 Tryd.f84 wC cK:=fnC Tryd.func84
def pD(N:Nat)(f:Bs)(g:Int)(e:Bss)(l:Int):Ro:=let i:=λm n q r s t=>(some (.agg [vI 5,vI 0,vT [],.sl .jnode (.may m) n,vF .str []],[some [vF .u8 q,vI r],some [vO .str s],some [vI 5,vI 0,vT [],.sl .jnode (.may m) n,vF .str []],some [vI 5,vI 0,vT [],t,vO .str []]]):Ro);ae (aO [110,117,108,108]) (λa=>ae (aL f g 2) (λh=>cond (h.1==0) (ae (aL h.2.1 h.2.2 2) (λj=>chk (ixl j.1 [([105,110,116]:Bs),([115,116,114,105,110,103]:Bs)]) (let u:=Aq [([105,110,116]:Bs),([115,116,114,105,110,103]:Bs)] (Ag j.1) (ao .str);ae (aO u) (λd=>chk ((true&&decide (0<Aa ([⟨d.1,d.2.1,d.2.2.1,d.2.2.2.1,d.2.2.2.2⟩]:List aa)))&&decide ((Aa ([⟨a.1,a.2.1,a.2.2.1,a.2.2.2.1,a.2.2.2.2⟩]:List aa)+Aa ([⟨d.1,d.2.1,d.2.2.1,d.2.2.2.1,d.2.2.2.2⟩]:List aa))*80<=140737488355328)) (let k:=(([⟨a.1,a.2.1,a.2.2.1,a.2.2.2.1,a.2.2.2.2⟩]:List aa)++([⟨d.1,d.2.1,d.2.2.1,d.2.2.2.1,d.2.2.2.2⟩]:List aa));let v:=(Ao .i64 (l+1));ae (cl j.2.1 j.2.2 e v) (λc=>cond (c.1==6) (chk (decide ((Aa k+Aa ([⟨c.1,c.2.1,c.2.2.1,c.2.2.2.1,c.2.2.2.2.1⟩]:List aa))*80<=140737488355328)) (let o:=(k++([⟨c.1,c.2.1,c.2.2.1,c.2.2.2.1,c.2.2.2.2.1⟩]:List aa));i false o c.2.2.2.2.2.1 c.2.2.2.2.2.2.1 c.2.2.2.2.2.2.2 (vO .jnode o))) (i false k c.2.2.2.2.2.1 c.2.2.2.2.2.2.1 c.2.2.2.2.2.2.2 (vO .jnode k)))))))) (let w:=(Ao .i64 (l+1));ae (cl h.2.1 h.2.2 e w) (λb=>cond (b.1==6) (chk ((true&&decide (0<Aa ([⟨b.1,b.2.1,b.2.2.1,b.2.2.2.1,b.2.2.2.2.1⟩]:List aa)))&&decide ((Aa ([⟨a.1,a.2.1,a.2.2.1,a.2.2.2.1,a.2.2.2.2⟩]:List aa)+Aa ([⟨b.1,b.2.1,b.2.2.1,b.2.2.2.1,b.2.2.2.2.1⟩]:List aa))*80<=140737488355328)) (let p:=(([⟨a.1,a.2.1,a.2.2.1,a.2.2.2.1,a.2.2.2.2⟩]:List aa)++([⟨b.1,b.2.1,b.2.2.1,b.2.2.2.1,b.2.2.2.2.1⟩]:List aa));i false p b.2.2.2.2.2.1 b.2.2.2.2.2.2.1 b.2.2.2.2.2.2.2 (vO .jnode p))) (i true ([⟨a.1,a.2.1,a.2.2.1,a.2.2.2.1,a.2.2.2.2⟩]:List aa) b.2.2.2.2.2.1 b.2.2.2.2.2.2.1 b.2.2.2.2.2.2.2 (.sl .jnode (.may true) ([⟨a.1,a.2.1,a.2.2.1,a.2.2.2.1,a.2.2.2.2⟩]:List aa)))))))
def pE(N:Nat)(a:Bs)(b:Int)(c:Bss)(d:Int):Ro:=pD N a b c d
theorem uY(N:Nat)(a:Bs)(b:Int)(c:Bss)(o:Int)(h:Tot (pE N a b c o) (λz=>∃d g i j k l m n rest,z.1.dimR=.agg [vI d,vI g,vT i,vF .jnode j,vF .str k]∧z.2=some [vF .u8 l,vI m]::some [vO .str n]::rest∧nC a b c o (d,g,i,j,k,l,m,n))):∃r,jb a b c o r:=FnK.finO (css:=[[vF .u8 a,vI b],[vO .str c]]) wD (N:=N) (by kernel_rfl) h λ_ ⟨d,g,i,j,k,l,m,n,_,e,f,q⟩=>⟨(d,g,i,j,k,l,m,n),e,⟨_,f⟩,q⟩
def lb:am:=tb_ [] [km,ms,uu] [] [xd,pS]
def mQ:IR:=Sq (Rs [Mv 17 10,Mv 18 11,Bi 19 .lss 17 18] (Cn 19 .skip (.exit 0))) (Sq (.block 1 (Rs [Mv 22 0,Mv 23 2,Bc 24 .add 23 1,Mv 25 3,Ca 26 46 [22,24,25],Pp (.alr 12 5),Fz 12 5 26] (Sq (.reg [Pp (.bsl 27 .str [kS [110,97,109,101],kS [116,121,112,101]] true),Mv 28 10,Pp (.bin 29 .add (kI 97) 28),Pp (.cvi 30 .u8 29),Pp (.bsl 31 .u8 [30] true),Pp (.b2s 32 31),Pp (.bin 33 .add (kS [102]) 32),Ca 34 48 [33],Ld 35 5 true 12,Pp (.bsl 36 .jnode [34,35] true),Ca 37 47 [27,36],Pp (.new 13 [vI 0,vI 0,vS,nl .jnode,nl .str]),Fo [] [4] (.st none 5 13 37)] [[],[],[1],[1,2],[1,2,3],rg 1 4,rg 1 5,rg 1 6,[],rg 1 8,rg 0 9,[],rg 0 11]) (Sq (Rs [Mv 38 0,Ca 39 45 [38,kI 3],Bc 40 .eql 39 0] (Cn 40 (.reg [Fa 41 4 13,Fo [4] [] (.ld 42 1 false false 41),Pp (.bsl 43 .str [kS [100,101,102,97,117,108,116]] true),Pp (.app 44 .str (.tk 42) 43),Fa 45 3 13,Fo [4] [] (.ld 46 1 false false 45),Mv 47 0,Ld 48 5 true 12,Fo [] [0] (.call 49 49 [47,48]),Pp (.bsl 50 .jnode [49] true),Pp (.app 51 .jnode (.tk 46) 50),Fa 52 4 13,Fo [] [4] (.st none 1 52 (.tk 44)),Fa 53 3 13,Fo [] [4] (.st none 1 53 (.tk 51))] [[],[0],[],[0,1,2],[],[4],[],[],[0,1,2,3,6,7],[0,1,2,3,6,7,8],rg 0 9,rg 0 5,rg 0 11,rg 0 12,rg 0 13]) .skip)) (Rg [Fa 54 3 9,Pp (.ld 55 1 false true 54),Pp (.ld 56 5 true false 13),Pp (.bsl 57 .jnode [56] true),Pp (.app 58 .jnode (.tk 55) 57),Fa 59 3 9,Sk 1 59 58]))))) (Rg [Mv 20 10,Bc 21 .add 20 1,Mv 10 21]))
def mq:IR:=Sq (.reg [Pp (.bsl 60 .str [kS [116,121,112,101],kS [110,97,109,101],kS [110,97,109,101,115,112,97,99,101],kS [102,105,101,108,100,115]] true),Ca 61 48 [kS [114,101,99,111,114,100]],Mv 62 1,Ca 63 48 [62],Ca 64 48 [kS [115]],Fo [3] [] (.ld 65 5 true false 9),Pp (.bsl 66 .jnode [61,63,64,65] true),Ca 67 47 [60,66],Fo [] [2] (.st none 5 8 67)] [[],[],[],[1,2],[1,2,3],[],rg 1 5,rg 0 6,rg 0 7]) .ret
def uZ:IR:=Rs [Pp (.new 8 [vI 0,vI 0,vS,nl .jnode,nl .str])] (Rs [Pp (.bld 14 [vI 0,vI 0,vS,nl .jnode,nl .str] [(0,1,kI 5)]),Pp (.new 9 [vI 0,vI 0,vS,nl .jnode,nl .str]),Sv 5 9 14] (Sq (Rs [Mv 15 0,Ca 16 45 [15,kI 5],Mi 10 0,Mv 11 16] (.block 0 (.loop [0,1,2,3,8,9,10,11,1000000] 4 mQ))) mq))
def oU:List RV:=[.cell 8 5 true]
theorem va:FnC Tryd.prog lb [45,46,49,2000045,2000046,2000049] 2 24 Tryd.f24 uZ oU:=fnC Tryd.func24
def tR(R:Go.AM.TR)(a:TS):TE:=(dv a [0,1,2,3,8,9,10,11,1000000] 4 (aQ 0 (cj (R mq) (fin oU))))
abbrev gS:Type:=(Bs×Int×Int×Int×Bs×Int×Bss×Int×Int×Bs×List aa×Bss×Int×Int×Bs×List aa×Bss)
def f6:gS->St:=λ(h,i,j,k,l,m,n,o,p,q,a,b,c,d,e,f,g)=>{env:=(.ptr 0 0::vT h::vI i::.ptr 1 0::(U 4 (.ptr 2 0::.ptr 3 0::vI j::vI k::(U 56 [])))),hp:=[some [vF .u8 l,vI m],some [vO .str n],some [vI o,vI p,vT q,vO .jnode a,vO .str b],some [vI c,vI d,vT e,vO .jnode f,vO .str g]]}
def j4(N:Nat):TS->TS:=λa s=>run lb N mQ (tR (run lb N) a) s
def gT(N:Nat)(j:gS->Ro):gS->Ro:=λ(z,D,k,o,l,m,n,p,q,r,s,t,f,g,h,c,i)=>let E:=λP L M R G=>j (z,D,P,o,L,M,R,p,q,r,s,t,f,g,h,G,i);cond (decide (k<o)) (let F:=(Ao .i64 (D+1));ae (cl l m n F) (λe=>let B:=(Ao .i64 (97+k));chk (decide (Aa ([102]:Bs)+Aa ([(BG (Ag (Ao .u8 B)))]:Bs)<=9223372036854775807)) (let J:=([102]++([(BG (Ag (Ao .u8 B)))]:Bs));ae (aO J) (λu=>ae (dQ true [([110,97,109,101]:Bs),([116,121,112,101]:Bs)] true ([⟨u.1,u.2.1,u.2.2.1,u.2.2.2.1,u.2.2.2.2⟩,⟨e.1,e.2.1,e.2.2.1,e.2.2.2.1,e.2.2.2.2.1⟩]:List aa)) (λb=>ae (aL e.2.2.2.2.2.1 e.2.2.2.2.2.2.1 3) (λv=>cond (v.1==0) (chk ((b.2.2.2.2.2.1&&decide (0<Aa ([([100,101,102,97,117,108,116]:Bs)]:Bss)))&&decide ((Aa b.2.2.2.2.2.2+Aa ([([100,101,102,97,117,108,116]:Bs)]:Bss))*16<=140737488355328)) (let A:=(b.2.2.2.2.2.2++([([100,101,102,97,117,108,116]:Bs)]:Bss));ae (hZ v.2.1 v.2.2 e.1 e.2.1 e.2.2.1 e.2.2.2.1 e.2.2.2.2.1) (λd=>chk ((b.2.2.2.1&&decide (0<Aa ([⟨d.1,d.2.1,d.2.2.1,d.2.2.2.1,d.2.2.2.2.1⟩]:List aa)))&&decide ((Aa b.2.2.2.2.1+Aa ([⟨d.1,d.2.1,d.2.2.1,d.2.2.2.1,d.2.2.2.2.1⟩]:List aa))*80<=140737488355328)) (let C:=(b.2.2.2.2.1++([⟨d.1,d.2.1,d.2.2.1,d.2.2.2.1,d.2.2.2.2.1⟩]:List aa));chk (decide ((Aa c+Aa ([⟨b.1,b.2.1,b.2.2.1,C,A⟩]:List aa))*80<=140737488355328)) (let O:=(c++([⟨b.1,b.2.1,b.2.2.1,C,A⟩]:List aa));let I:=(Ao .i64 (k+1));E I d.2.2.2.2.2.1 d.2.2.2.2.2.2 e.2.2.2.2.2.2.2 O))))) (chk (decide ((Aa c+Aa ([⟨b.1,b.2.1,b.2.2.1,b.2.2.2.2.1,b.2.2.2.2.2.2⟩]:List aa))*80<=140737488355328)) (let H:=(c++([⟨b.1,b.2.1,b.2.2.1,b.2.2.2.2.1,b.2.2.2.2.2.2⟩]:List aa));let Q:=(Ao .i64 (k+1));E Q v.2.1 v.2.2 e.2.2.2.2.2.2.2 H)))))))) (ae (aO [114,101,99,111,114,100]) (λw=>ae (aO z) (λx=>ae (aO [115]) (λy=>ae (dQ true [([116,121,112,101]:Bs),([110,97,109,101]:Bs),([110,97,109,101,115,112,97,99,101]:Bs),([102,105,101,108,100,115]:Bs)] true ([⟨w.1,w.2.1,w.2.2.1,w.2.2.2.1,w.2.2.2.2⟩,⟨x.1,x.2.1,x.2.2.1,x.2.2.2.1,x.2.2.2.2⟩,⟨y.1,y.2.1,y.2.2.1,y.2.2.2.1,y.2.2.2.2⟩,⟨f,g,h,c,i⟩]:List aa)) (λa=>some (.agg [vI a.1,vI a.2.1,vT a.2.2.1,.sl .jnode (.may a.2.2.2.1) a.2.2.2.2.1,.sl .str (.may a.2.2.2.2.2.1) a.2.2.2.2.2.2],[some [vF .u8 l,vI m],some [vO .str n],some [vI a.1,vI a.2.1,vT a.2.2.1,.sl .jnode (.may a.2.2.2.1) a.2.2.2.2.1,.sl .str (.may a.2.2.2.2.2.1) a.2.2.2.2.2.2],some [vI f,vI g,vT h,vO .jnode c,vO .str i]]))))))
theorem s9(N:Nat):LB (j4 N) f6 (gT N):=λ_ _=>by kernel_rfl
def eP(N:Nat)(a:Bs)(b:Int)(c:Bss)(e:Bs)(f:Int)(g:gS->Ro):Ro:=ae (aL a b 5) (λd=>g (e,f,0,d.1,d.2.1,d.2.2,c,0,0,[],[],[],5,0,[],[],[]))
def oV(N:Nat)(a:Bs)(b:Int)(c:Bss)(d:Bs)(e:Int):Ro:=eP N a b c d e (λz=>b8 N (gT N) z)
theorem tS(N:Nat)(a:Bs)(c:Int)(d:Bss)(g:Bs)(i:Int)(h:Tot (oV N a c d g i) (λz=>∃j k l m n o p s rest,z.1.dimR=.agg [vI j,vI k,vT l,vF .jnode m,vF .str n]∧z.2=some [vF .u8 o,vI p]::some [vO .str s]::rest∧mD a c d g i (j,k,l,m,n,o,p,s))):∃r,fp a c d g i r:=FnK.finO (css:=[[vF .u8 a,vI c],[vO .str d]]) va (N:=N) ((gb _ (by kernel_rfl) rfl (λC=>eP N a c d g i (λz=>C 1000000 (f6 z))) (λC=>by kernel_rfl)).trans (BB (b:=eP N a c d g i (λz=>bP N (j4 N) (f6 z))) (by kernel_rfl) (congrArg (eP N a c d g i) (funext λz=>cL (f6) (j4 N) (gT N) (s9 N) N z)))) h λ_ ⟨j,k,l,m,n,o,p,s,_,e,f,q⟩=>⟨(j,k,l,m,n,o,p,s),e,⟨_,f⟩,q⟩
def bp:am:=tb_ [] [km] [] [pS,agb]
def eQ:IR:=Cn 12 (Rs [Mv 17 0,Ca 18 45 [17,kI 200],Bc 19 .sub 18 50,Pp (.bld 20 [vI 0,vI 0,vS,nl .jnode,nl .str] [(0,1,kI 3),(1,1,19)]),Sv 5 4 20] .ret) (Sq (Rs [Pp (.bin 22 .eql 11 (kS [115,116,114,105,110,103])),Mv 21 22] (Cn 21 .skip (Rg [Pp (.bin 23 .eql 11 (kS [98,121,116,101,115])),Mv 21 23]))) (Cn 21 (Rs [Pp (.bsl 24 .str [kS [],kS [100],kS [195,164]] true),Mv 25 0,Ca 26 45 [25,kI 3],Ix 27 .str 24 26,Lq 28 27,Ca 29 48 [28],Sv 5 4 29] .ret) (Rs [Pp (.bin 31 .eql 11 (kS [98,111,111,108,101,97,110])),Mv 30 31] (Cn 30 (Rs [Mv 32 0,Ca 33 45 [32,kI 2],Pp (.bld 34 [vI 0,vI 0,vS,nl .jnode,nl .str] [(0,1,kI 2),(1,1,33)]),Sv 5 4 34] .ret) (Rs [Pp (.bin 36 .eql 11 (kS [110,117,108,108])),Mv 35 36] (Cn 35 (Rs [Pp (.bld 37 [vI 0,vI 0,vS,nl .jnode,nl .str] [(0,1,kI 1)]),Sv 5 4 37] .ret) .skip))))))
def iC:IR:=Sq (Rs [Fa 38 0 3,Lq 39 38,Bc 40 .eql 39 5] (Cn 40 (Rs [Pp (.bld 41 [vI 0,vI 0,vS,nl .jnode,nl .str] [(0,1,kI 1)]),Sv 5 4 41] .ret) .skip)) (Rs [Ld 43 5 true 3,Ca 44 85 [43,kS [116,121,112,101]],Mv 42 44,Ex_ 45 0 42,Ex_ 46 1 42,Pp (.alr 5 5),Fz 5 5 45,Mv 6 46] (Sq (Rs [Fa 47 2 5,Lq 48 47] (.block 1 (Rs [Pp (.bin 50 .eql 48 (kS [97,114,114,97,121])),Mv 49 50] (Cn 49 (Rs [Pp (.bld 51 [vI 0,vI 0,vS,nl .jnode,nl .str] [(0,1,kI 5)]),Sv 5 4 51] .ret) (Rs [Pp (.bin 53 .eql 48 (kS [101,110,117,109])),Mv 52 53] (Cn 52 (Rs [Ca 54 48 [kS [88]],Sv 5 4 54] .ret) .skip)))))) (Rs [Pp (.bld 55 [vI 0,vI 0,vS,nl .jnode,nl .str] [(0,1,kI 6)]),Sv 5 4 55] .ret)))
def iD:IR:=.cut [3,4,1000001] 2 iC
def tT:IR:=Rs [Bx 3 1,Pp (.new 4 [vI 0,vI 0,vS,nl .jnode,nl .str])] (Sq (Rs [Fa 7 0 3,Lq 8 7,Bc 9 .eql 8 4] (Cn 9 (Rs [Fa 10 2 3,Lq 11 10] (.block 0 (Sq (Rs [Pp (.bin 13 .eql 11 (kS [105,110,116])),Mv 12 13] (Cn 12 .skip (Rs [Pp (.bin 14 .eql 11 (kS [108,111,110,103])),Mv 12 14] (Cn 12 .skip (Rs [Pp (.bin 15 .eql 11 (kS [102,108,111,97,116])),Mv 12 15] (Cn 12 .skip (Rg [Pp (.bin 16 .eql 11 (kS [100,111,117,98,108,101])),Mv 12 16]))))))) (.cut [0,3,4,11,12,1000000] 2 eQ)))) .skip)) iD)
def cw:List RV:=[.cell 4 5 true]
theorem tU:FnC Tryd.prog bp [45,2000045] 1 49 Tryd.f49 tT cw:=fnC Tryd.func49
abbrev dT:Type:=(Int×Int×Bs×List aa×Bss×Bs×Bool×Bs×Int×Int×Int×Bs×List aa×Bss)
def dJ:dT->St:=λ(e,f,g,h,i,j,k,l,m,n,a,b,c,d)=>{env:=(.ptr 0 0::.undef::.undef::.ea [vI e,vI f,vT g,vF .jnode h,vF .str i]::.ptr 1 0::(U 6 (vT j::vB k::(U 43 [])))),hp:=[some [vF .u8 l,vI m],some [vI n,vI a,vT b,vO .jnode c,vO .str d]]}
def jp(R:Go.AM.TR):TE:=(aQ 0 (cj (R iD) (fin cw)))
abbrev cZ:Type:=(Int×Int×Bs×List aa×Bss×Bs×Int×Int×Int×Bs×List aa×Bss)
def fh:cZ->St:=λ(c,d,e,f,g,h,i,j,k,l,a,b)=>{env:=(U 3 (.ea [vI c,vI d,vT e,vF .jnode f,vF .str g]::.ptr 1 0::(U 51 []))),hp:=[some [vF .u8 h,vI i],some [vI j,vI k,vT l,vO .jnode a,vO .str b]]}
def jq(N:Nat):TS:=λs=>run bp N iC (fin cw) s
def dU(N:Nat):cZ->Ro:=λ(a,c,d,e,f,g,h,_,_,_,_,_)=>let i:=λk l m o p q r=>(some (.agg [vI k,vI l,vT m,vF .jnode o,vF .str p],[some [vF .u8 g,vI h],some [vI k,vI l,vT m,q,r]]):Ro);cond (a==5) (i 1 0 [] [] [] (vO .jnode []) (vO .str [])) (ae (ov a c d e f [116,121,112,101]) (λn=>let s:=decide (n.2.2.1=[97,114,114,97,121]);cond s (i 5 0 [] [] [] (vO .jnode []) (vO .str [])) (let j:=decide (n.2.2.1=[101,110,117,109]);cond j (ae (aO [88]) (λb=>i b.1 b.2.1 b.2.2.1 b.2.2.2.1 b.2.2.2.2 (vF .jnode b.2.2.2.1) (vF .str b.2.2.2.2))) (i 6 0 [] [] [] (vO .jnode []) (vO .str [])))))
theorem sh(N:Nat):LJ (jq N) fh (dU N):=λ_=>by kernel_rfl
def jr(N:Nat):TS:=λs=>run bp N eQ (jp (run bp N)) s
def fj(N:Nat)(y:cZ->Ro):dT->Ro:=λ(f,g,h,i,j,c,s,a,b,k,l,m,n,o)=>let p:=λv w x z J F G B I=>(some (.agg [vI v,vI w,vT x,vF .jnode z,vF .str J],[some [vF .u8 F,vI G],some [vI v,vI w,vT x,B,I]]):Ro);cond s (ae (aL a b 200) (λt=>let E:=(Ao .i64 (t.1-50));p 3 E [] [] [] t.2.1 t.2.2 (vO .jnode []) (vO .str []))) (let H:=decide (c=[115,116,114,105,110,103]);cond H (ae (aL a b 3) (λq=>chk (ixl q.1 [([]:Bs),([100]:Bs),([195,164]:Bs)]) (let A:=Aq [([]:Bs),([100]:Bs),([195,164]:Bs)] (Ag q.1) (ao .str);ae (aO A) (λd=>p d.1 d.2.1 d.2.2.1 d.2.2.2.1 d.2.2.2.2 q.2.1 q.2.2 (vF .jnode d.2.2.2.1) (vF .str d.2.2.2.2))))) (let L:=decide (c=[98,121,116,101,115]);cond L (ae (aL a b 3) (λr=>chk (ixl r.1 [([]:Bs),([100]:Bs),([195,164]:Bs)]) (let C:=Aq [([]:Bs),([100]:Bs),([195,164]:Bs)] (Ag r.1) (ao .str);ae (aO C) (λe=>p e.1 e.2.1 e.2.2.1 e.2.2.2.1 e.2.2.2.2 r.2.1 r.2.2 (vF .jnode e.2.2.2.1) (vF .str e.2.2.2.2))))) (let D:=decide (c=[98,111,111,108,101,97,110]);cond D (ae (aL a b 2) (λu=>p 2 u.1 [] [] [] u.2.1 u.2.2 (vO .jnode []) (vO .str []))) (let M:=decide (c=[110,117,108,108]);cond M (p 1 0 [] [] [] a b (vO .jnode []) (vO .str [])) (y (f,g,h,i,j,a,b,k,l,m,n,o))))))
def f8(N:Nat)(x:dT):Ro:=fj N (λz=>dU N z) x
def jt(N:Nat):List (Nat×(TS)):=(dZ bp N eQ (jp (run bp N))++(dZ bp N iD (fin cw)++[]))
theorem si(N:Nat):∀(x:dT),jr N (dJ x)=f8 N x:=by
 intro x;have a:∀C:Nat->TS,dd C bp N eQ (jp (dd C bp N)) (dJ x)=fj N (λz=>C 1000001 (fh z)) x:=by intro C;kernel_rfl
 have h:jr N (dJ x)=fj N (λz=>jq N (fh z)) x:=(lD (C:=l9 (jt N)) (hR (cb (l:=(jt N)) (by kernel_rfl))) (jG (om (hR (iZ (cb (l:=(jt N)) (by kernel_rfl)))) rfl)) _).trans ((a _).trans (by kernel_rfl));have b:(λz=>jq N (fh z))=(λz=>dU N z):=funext λz=>sh N z
 rw[h,b];rfl
def iS:cZ->St:=λ(c,d,e,f,g,h,i,j,k,l,a,b)=>{env:=(U 3 (.ea [vI c,vI d,vT e,vF .jnode f,vF .str g]::.ptr 1 0::(U 51 []))),hp:=[some [vF .u8 h,vI i],some [vI j,vI k,vT l,vO .jnode a,vO .str b]]}
def mR(N:Nat):TS:=λs=>run bp N iC (fin cw) s
def f9(N:Nat):cZ->Ro:=λ(b,c,d,e,f,g,h,_,_,_,_,_)=>let i:=λl m n p q r s=>(some (.agg [vI l,vI m,vT n,vF .jnode p,vF .str q],[some [vF .u8 g,vI h],some [vI l,vI m,vT n,r,s]]):Ro);cond (b==5) (i 1 0 [] [] [] (vO .jnode []) (vO .str [])) (ae (ov b c d e f [116,121,112,101]) (λo=>let j:=decide (o.2.2.1=[97,114,114,97,121]);cond j (i 5 0 [] [] [] (vO .jnode []) (vO .str [])) (let k:=decide (o.2.2.1=[101,110,117,109]);cond k (ae (aO [88]) (λa=>i a.1 a.2.1 a.2.2.1 a.2.2.2.1 a.2.2.2.2 (vF .jnode a.2.2.2.1) (vF .str a.2.2.2.2))) (i 6 0 [] [] [] (vO .jnode []) (vO .str [])))))
theorem sj(N:Nat):LJ (mR N) iS (f9 N):=λ_=>by kernel_rfl
def eh(N:Nat)(c:Bs)(d b e:Int)(a:Bs)(f:List aa)(g:Bss)(l:dT->Ro)(m:cZ->Ro):Ro:=let h:=λn=>l (b,e,a,f,g,a,n,c,d,0,0,[],[],[]);cond (b==4) (let o:=decide (a=[105,110,116]);cond o (h true) (let i:=decide (a=[108,111,110,103]);cond i (h true) (let j:=decide (a=[102,108,111,97,116]);cond j (h true) (let k:=decide (a=[100,111,117,98,108,101]);h k)))) (m (b,e,a,f,g,c,d,0,0,[],[],[]))
def nP(N:Nat)(a:Bs)(b c d:Int)(e:Bs)(f:List aa)(g:Bss):Ro:=eh N a b c d e f g (λz=>f8 N z) (λz=>f9 N z)
theorem ta(N:Nat)(a:Bs)(c d g:Int)(i:Bs)(j:List aa)(k:Bss)(h:Tot (nP N a c d g i j k) (λz=>∃l m n o p s t rest,z.1.dimR=.agg [vI l,vI m,vT n,vF .jnode o,vF .str p]∧z.2=some [vF .u8 s,vI t]::rest∧dE a c d g i j k (l,m,n,o,p,s,t))):∃r,hZ a c d g i j k r:=FnK.finO (css:=[[vF .u8 a,vI c]]) tU (N:=N) ((gb _ (by kernel_rfl) rfl (λC=>eh N a c d g i j k (λz=>C 1000000 (dJ z)) (λz=>C 1000001 (iS z))) (λC=>by kernel_rfl)).trans (BB (b:=eh N a c d g i j k (λz=>jr N (dJ z)) (λz=>mR N (iS z))) (by kernel_rfl) (congr (congrArg (eh N a c d g i j k) (funext λz=>si N z)) (funext λz=>sj N z)))) h λ_ ⟨l,m,n,o,p,s,t,_,e,f,q⟩=>⟨(l,m,n,o,p,s,t),e,⟨_,f⟩,q⟩
def oW:List RV:=[.t 2]
def aep:List RV:=[.t 4]
def aak:am:=tb_ [] [] [] []
def za:IR:=Rs [Mi 4 0] (Sq (Sq (.reg [Mv 5 0,Nk 6 5,Fa 7 1 6,Fo [0] [] (.ld 8 1 false false 7),Mv 9 0,Nk 10 9,Fa 11 0 10,Fo [0] [] (.ld 12 1 false false 11),Ll 13 12,Bi 14 .geq 8 13] [[],[0],[0,1],[0,1,2],[],[4],[4,5],[4,5,6],rg 4 7,rg 0 8]) (Cn 14 (Rs [Mi 4 0] .ret) .skip)) (Rs [Mv 15 0,Nk 16 15,Fa 17 1 16,Lo 18 17,Bc 19 .add 18 1,Nk 20 15,Fa 21 1 20,Sv 1 21 19] (Sq (.reg [Mv 22 0,Nk 23 22,Fa 24 0 23,Fo [0] [] (.ld 25 1 false false 24),Mv 26 0,Nk 27 26,Fa 28 1 27,Fo [0] [] (.ld 29 1 false false 28),Bc 30 .sub 29 1,Ix 31 .u8 25 30,Lq 32 31,Pp (.cvi 33 .i64 32),Mv 34 1,Bi 35 .rem 33 34,Mv 4 35] [[],[0],[0,1],[0,1,2],[],[4],[4,5],[4,5,6],rg 4 7,rg 0 8,rg 0 9,rg 0 10,[],rg 0 12,rg 0 13]) .ret)))
theorem zb:FnC Tryd.prog aak [] 1 45 Tryd.f45 za aep:=fnC Tryd.func45
def qZ(N:Nat)(a:Bs)(b c:Int):Ro:=let g:=(↑(Aa a):Int);let d:=λh i=>(some (vI h,[some [vF .u8 a,vI i]]):Ro);cond (decide (g<=b)) (d 0 b) (let e:=(Ao .i64 (b+1));let f:=(Ao .i64 (e-1));chk (ixl f a) (let j:=(Aq a (Ag f) (ao .u8)).toNat;chk (!(c==0)) (let k:=(Bl (Ao .i64 j) c);d k e)))
def q9(N:Nat)(a:Bs)(b c:Int):Ro:=qZ N a b c
theorem ym(N:Nat)(a:Bs)(b i:Int)(h:Tot (q9 N a b i) (λz=>∃c d g rest,z.1.dimR=vI c∧z.2=some [vF .u8 d,vI g]::rest∧pc a b i (c,d,g))):∃r,aL a b i r:=FnK.finO (css:=[[vF .u8 a,vI b]]) zb (N:=N) (by kernel_rfl) h λ_ ⟨c,d,g,_,e,f,q⟩=>⟨(c,d,g),e,⟨_,f⟩,q⟩
def zc:am:=tb_ [] [] [] []
def yn:IR:=Rs [Mb 2 false] (Sq (.reg [Mv 3 0,Nk 4 3,Fa 5 1 4,Fo [0] [] (.ld 6 1 false false 5),Mv 7 0,Nk 8 7,Fa 9 0 8,Fo [0] [] (.ld 10 1 false false 9),Ll 11 10,Bi 12 .geq 6 11,Mv 2 12] [[],[0],[0,1],[0,1,2],[],[4],[4,5],[4,5,6],rg 4 7,rg 0 8,rg 0 9]) .ret)
theorem yo:FnC Tryd.prog zc [] 1 83 Tryd.f83 yn oW:=fnC Tryd.func83
def qp(N:Nat)(a:Bs)(b:Int):Ro:=let c:=(↑(Aa a):Int);some (vB (decide (c<=b)),[some [vF .u8 a,vI b]])
def qq(N:Nat)(a:Bs)(b:Int):Ro:=qp N a b
theorem wE(N:Nat)(a:Bs)(b:Int)(h:Tot (qq N a b) (λz=>∃c d g rest,z.1.dimR=vB c∧z.2=some [vF .u8 d,vI g]::rest∧oq a b (c,d,g))):∃r,jB a b r:=FnK.finO (css:=[[vF .u8 a,vI b]]) yo (N:=N) (by kernel_rfl) h λ_ ⟨c,d,g,_,e,f,q⟩=>⟨(c,d,g),e,⟨_,f⟩,q⟩
def zA:am:=tb_ [] [] [] []
def yp:IR:=Rs [Pp (.mov 2 (.c .nilp))] (Rs [Mv 3 0,Pp (.bld 4 [fu .u8 true,vI 0] [(0,1,3)]),Pp (.box 5 4),Mv 2 5] .ret)
theorem aeq:FnC Tryd.prog zA [] 0 12 Tryd.f12 yp oW:=fnC Tryd.func12
def yq(N:Nat)(a:Bs):Ro:=some (.ptr 0 0,[some [vF .u8 a,vI 0]])
def rY(N:Nat)(a:Bs):Ro:=yq N a
theorem acT(N:Nat)(a:Bs):pL zA N 6 oW yp [.sl .u8 (.may false) a] []=rY N a:=by kernel_rfl
theorem acU(N:Nat)(a:Bs)(h:Tot (rY N a) (λz=>∃(b c:_)(rest:List ah),z=(.ptr 0 0,[some [vF .u8 b,vI c]])∧ti a (b,c))):∃r,pR a r:=by obtain⟨z,d,b,c,rest,rfl,e⟩:=h;exact⟨(b,c),aeq.newFn (acT N a) d,e⟩
def afa:am:=tb_ [] [] [] []
def aer:IR:=Rs [Pp (.new 2 [vI 0,vI 0,vS,nl .jnode,nl .str])] (Rs [Mv 3 0,Pp (.bld 4 [vI 0,vI 0,vS,nl .jnode,nl .str] [(0,1,kI 4),(2,1,3)]),Sv 5 2 4] .ret)
def yr:List RV:=[.cell 2 5 true]
theorem aes:FnC Tryd.prog afa [] 0 48 Tryd.f48 aer yr:=fnC Tryd.func48
def yt(N:Nat)(a:Bs):Ro:=some (.agg [vI 4,vI 0,vT a,vF .jnode [],vF .str []],[some [vI 4,vI 0,vT a,vO .jnode [],vO .str []]])
def yu(N:Nat)(a:Bs):Ro:=yt N a
theorem acV(N:Nat)(g:Bs)(h:Tot (yu N g) (λz=>∃a b c d f rest,z.1.dimR=.agg [vI a,vI b,vT c,vF .jnode d,vF .str f]∧z.2=rest∧tj g (a,b,c,d,f))):∃r,aO g r:=aes.finP (N:=N) (by kernel_rfl) h λ_ ⟨a,b,c,d,f,_,e,_,q⟩=>⟨(a,b,c,d,f),e,q⟩
def yv:am:=tb_ [] [] [] []
def vy:IR:=Rs [Pp (.new 4 [vI 0,vI 0,vS,nl .jnode,nl .str])] (Rs [Mv 5 0,Mv 6 1,Pp (.bld 7 [vI 0,vI 0,vS,nl .jnode,nl .str] [(0,1,kI 6),(4,1,5),(3,1,6)]),Sv 5 4 7] .ret)
theorem acW:FnC Tryd.prog yv [] 0 47 Tryd.f47 vy cw:=fnC Tryd.func47
def vz(N:Nat)(a:Bool)(c:Bss)(b:Bool)(d:List aa):Ro:=some (.agg [vI 6,vI 0,vT [],.sl .jnode (.may b) d,.sl .str (.may a) c],[some [vI 6,vI 0,vT [],.sl .jnode (.may b) d,.sl .str (.may a) c]])
def qL(N:Nat)(a:Bool)(c:Bss)(b:Bool)(d:List aa):Ro:=vz N a c b d
theorem ab3(N:Nat)(a:Bool)(c:Bss)(b:Bool)(d:List aa):pL yv N 8 cw vy [.sl .str (.may a) c,.sl .jnode (.may b) d] []=qL N a c b d:=by kernel_rfl
theorem ab4(N:Nat)(a:Bool)(c:Bss)(b:Bool)(d:List aa)(h:Tot (qL N a c b d) (λz=>∃e f g i j k l rest,z.1=.agg [vI e,vI f,vT g,.sl .jnode (.may i) j,.sl .str (.may k) l]∧z.2=rest∧sv a c b d (e,f,g,i,j,k,l))):∃r,dQ a c b d r:=by obtain⟨⟨v,hp⟩,p,e,f,g,i,j,k,l,rest,m,o,q⟩:=h;simp only at m o;subst o;subst m;exact⟨(e,f,g,i,j,k,l),acW.pure (ab3 N a c b d) p,q⟩
def vb:am:=tb_ [] [] [] []
def vA:IR:=Sq (Rs [Mv 7 6,Fa 8 4 2,Lq 9 8,Ll 10 9,Bi 11 .lss 7 10] (Cn 11 .skip (.exit 0))) (Sq (.block 1 (Rs [Fa 14 4 2,Lq 15 14,Mv 16 6,Ix 17 .str 15 16,Lq 18 17,Mv 19 1,Bi 20 .eql 18 19] (Cn 20 (Rs [Fa 21 3 2,Lq 22 21,Mv 23 6,Ix 24 .jnode 22 23,Ld 25 5 true 24,Sv 5 4 25,Mb 5 true] .ret) .skip))) (Rg [Mv 12 6,Bc 13 .add 12 1,Mv 6 13]))
def vC:IR:=Rs [Pp (.bld 26 [vI 0,vI 0,vS,nl .jnode,nl .str] []),Sv 5 4 26,Mb 5 false] .ret
def afb:IR:=Rs [Bx 2 0,Pp (.new 4 [vI 0,vI 0,vS,nl .jnode,nl .str]),Mb 5 false] (Sq (Rs [Mi 6 0] (.block 0 (.loop [1,2,4,6,1000000] 1 vA))) vC)
def zB:List RV:=[.cell 4 5 true,.t 5]
theorem afc:FnC Tryd.prog vb [] 0 85 Tryd.f85 afb zB:=fnC Tryd.func85
def aet(R:Go.AM.TR)(a:TS):TE:=(dv a [1,2,4,6,1000000] 1 (aQ 0 (cj (R vC) (fin zB))))
abbrev oX:Type:=(Bs×Int×Int×Bs×List aa×Bss×Int×Int×Int×Bs×List aa×Bss)
def nd:oX->St:=λ(c,d,e,f,g,h,i,j,k,l,a,b)=>{env:=(.undef::vT c::.ea [vI d,vI e,vT f,vF .jnode g,vF .str h]::.undef::.ptr 0 0::.undef::vI i::(U 20 [])),hp:=[some [vI j,vI k,vT l,vO .jnode a,vO .str b]]}
def rZ(N:Nat):TS->TS:=λa s=>run vb N vA (aet (run vb N) a) s
def oY(N:Nat)(c:oX->Ro):oX->Ro:=λ(p,f,g,h,b,a,e,i,j,k,m,o)=>let v:=(↑(Aa a):Int);let q:=λr t u w x y z B=>(some (.tup [.agg [vI r,vI t,vT u,vF .jnode w,vF .str x],vB y],[some [vI r,vI t,vT u,z,B]]):Ro);cond (decide (e<v)) (chk (ixl e a) (let C:=Aq a (Ag e) (ao .str);cond (decide (C=p)) (chk (ixl e b) (let d:=(Aq b (Ag e) (ao .jnode));q d.kind d.n d.s d.l d.names true (vF .jnode d.l) (vF .str d.names))) (let A:=(Ao .i64 (e+1));c (p,f,g,h,b,a,A,i,j,k,m,o)))) (q 0 0 [] [] [] false (vO .jnode []) (vO .str []))
theorem acX(N:Nat):LB (rZ N) nd (oY N):=λ_ _=>by kernel_rfl
def mS(N:Nat)(a b:Int)(c:Bs)(d:List aa)(e:Bss)(f:Bs)(g:oX->Ro):Ro:=g (f,a,b,c,d,e,0,0,0,[],[],[])
def zC(N:Nat)(a b:Int)(c:Bs)(d:List aa)(e:Bss)(f:Bs):Ro:=mS N a b c d e f (λz=>b8 N (oY N) z)
theorem aeu(N:Nat)(a c:Int)(d:Bs)(f:List aa)(g:Bss)(i:Bs)(h:Tot (zC N a c d f g i) (λz=>∃j k l m n o rest,z.1.dimR=.tup [.agg [vI j,vI k,vT l,vF .jnode m,vF .str n],vB o]∧z.2=rest∧mV a c d f g i (j,k,l,m,n,o))):∃r,ov a c d f g i r:=afc.finP (N:=N) ((gb _ (by kernel_rfl) rfl (λC=>mS N a c d f g i (λz=>C 1000000 (nd z))) (λC=>by kernel_rfl)).trans (BB (b:=mS N a c d f g i (λz=>bP N (rZ N) (nd z))) (by kernel_rfl) (congrArg (mS N a c d f g i) (funext λz=>cL (nd) (rZ N) (oY N) (acX N) N z)))) h λ_ ⟨j,k,l,m,n,o,_,e,_,q⟩=>⟨(j,k,l,m,n,o),e,q⟩
def wF:am:=tb_ [] [pf] [] []
def vc:IR:=Rs [Pp (.new 2 [vI 0,vI 0,vS,nl .jnode,nl .str])] (Rs [Pp (.bsl 4 .str [kS [84,111,112]] false),Pp (.new 3 [nl .str]),Sk 1 3 4] (Rs [Mv 5 0,Ca 6 24 [5,kS [84,111,112],kI 0,3],Sv 5 2 6] .ret))
theorem vd:FnC Tryd.prog wF [24,2000024] 1 13 Tryd.f13 vc yr:=fnC Tryd.func13
def oZ(N:Nat)(b:Bs)(c:Int):Ro:=ae (fp b c [([84,111,112]:Bs)] [84,111,112] 0) (λa=>some (.agg [vI a.1,vI a.2.1,vT a.2.2.1,vF .jnode a.2.2.2.1,vF .str a.2.2.2.2.1],[some [vF .u8 a.2.2.2.2.2.1,vI a.2.2.2.2.2.2.1],some [vI a.1,vI a.2.1,vT a.2.2.1,vF .jnode a.2.2.2.1,vF .str a.2.2.2.2.1],some [vO .str a.2.2.2.2.2.2.2]]))
def o5(N:Nat)(a:Bs)(b:Int):Ro:=oZ N a b
theorem tV(N:Nat)(a:Bs)(b:Int)(h:Tot (o5 N a b) (λz=>∃c d g i j k l rest,z.1.dimR=.agg [vI c,vI d,vT g,vF .jnode i,vF .str j]∧z.2=some [vF .u8 k,vI l]::rest∧mE a b (c,d,g,i,j,k,l))):∃r,iH a b r:=FnK.finO (css:=[[vF .u8 a,vI b]]) vd (N:=N) (by kernel_rfl) h λ_ ⟨c,d,g,i,j,k,l,_,e,f,q⟩=>⟨(c,d,g,i,j,k,l),e,⟨_,f⟩,q⟩
theorem aev(l:List UInt8)(n m:Int)(h:kP l n)(b:0<m):∃r,aL l n m r:=by
 obtain⟨d,e,c⟩:=h;apply ym 1;unfold q9 qZ;dsimp only
 repeat' (first|(with_reducible refine af ?_ ?_<;>(intro a;(try simp only[bnl] at a);(try revert a;intro _)))|with_reducible refine cI ?_ ?_|with_reducible refine ak ?_|fail)
 ·exact⟨_,_,_,_,rfl,rfl,by simp,by simpa using b,rfl,d,e,c⟩
 ·simp(disch:=omega) only[ajH,bnl]
 ·simp only[bnl];omega
 ·refine⟨_,_,_,_,rfl,rfl,?_,?_,rfl,?_,?_,c⟩;·simp only;have:=UInt8.toNat_lt (l.getD (IntKind.i64.wrap (IntKind.i64.wrap (n+1)-1)).toNat (ao .u8));rw[ax _ (by omega)];exact C8 _ (by omega)
  ·simp only;exact Int.tmod_lt_of_pos _ b
  ·simp only;rw[ax _ (by omega)];omega
  ·simp only;rw[ax _ (by omega)];omega
theorem mi(l:List UInt8)(n m:Int)(h:kP l n)(b:0<m)(a:m<=1000):∃r,aL l n m r:=aev l n m h b
theorem aij(l:List UInt8)(n:Int):∃r,jB l n r:=by
 apply wE 1;unfold qq qp;dsimp only
 repeat' (first|(with_reducible refine af ?_ ?_<;>(intro a;(try simp only[bnl] at a);(try revert a;intro _)))|with_reducible refine cI ?_ ?_|with_reducible refine ak ?_|fail)
 exact⟨_,_,_,_,rfl,rfl,rfl,rfl⟩
theorem aik(l:List UInt8):∃r,pR l r:=by
 apply acU 1;unfold rY yq
 repeat' (first|(with_reducible refine af ?_ ?_<;>(intro a;(try simp only[bnl] at a);(try revert a;intro _)))|with_reducible refine cI ?_ ?_|with_reducible refine ak ?_|fail)
 exact⟨_,_,[],rfl,rfl⟩
theorem cz(s:List UInt8):∃r,aO s r:=by
 apply acV 1;unfold yu yt
 repeat' (first|(with_reducible refine af ?_ ?_<;>(intro a;(try simp only[bnl] at a);(try revert a;intro _)))|with_reducible refine cI ?_ ?_|with_reducible refine ak ?_|fail)
 exact⟨_,_,_,_,_,_,rfl,rfl,rfl⟩
theorem qr(c:Bool)(names:List (List UInt8))(b:Bool)(l:List aa):∃r,dQ c names b l r:=by
 apply ab4 1;unfold qL vz
 repeat' (first|(with_reducible refine af ?_ ?_<;>(intro a;(try simp only[bnl] at a);(try revert a;intro _)))|with_reducible refine cI ?_ ?_|with_reducible refine ak ?_|fail)
 exact⟨_,_,_,_,_,_,_,_,rfl,rfl,rfl⟩
theorem ab5:∀(names:List (List UInt8))(l:List aa)(name:List UInt8)(i:Nat),(∀j,j<i->names.getD j []≠name)->fL names l name=fL (names.drop i) (l.drop i) name
 |names,l,name,0,_=>rfl
 | [],l,name,i+1,h=>by simp[fL]
 |x::a,[],name,i+1,h=>by
  have:∀a:List (List UInt8),fL a [] name=none:=λa=>by cases a<;>rfl
  simp[fL,this]
 |x::a,c::l,name,i+1,h=>by have b:=h 0 (by omega);simp only[Cb] at b;simp only[fL,if_neg b,De];exact ab5 a l name i λj d=>by simpa using h (j+1) (by omega)
theorem ail{names:List (List UInt8)}{l:List aa}{name:List UInt8}{i:Nat}(a:i<names.length)(b:i<l.length)(h:∀j,j<i->names.getD j []≠name)(c:names.getD i []=name):
  fL names l name=some (l.getD i (ao .jnode)):=by
 rw[ab5 names l name i h,BZ a,BZ b];simp only[fL];rw[Ah,Ac a,A5] at c;rw[if_pos c,Ah,Ac b,A5]
theorem ahA{names:List (List UInt8)}{l:List aa}{name:List UInt8}{i:Nat}(h:∀j,j<i->names.getD j []≠name)(a:names.length<=i∨l.length<=i):fL names l name=none:=by
 rw[ab5 names l name i h];rcases a with a|a;·rw[List.drop_eq_nil_of_le a];rfl
 ·rw[List.drop_of_length_le (l:=l) a];cases names.drop i<;>rfl
theorem afA(k n:Int)(s:List UInt8)(l:List aa)(names:List (List UInt8))(name:List UInt8)(h:names.length<=l.length)(v:names.length<=1000):∃r,ov k n s l names name r:=by
 apply aeu 2000;unfold zC mS
 refine cn (λx=>x.1=name∧x.2.2.2.2.1=l∧x.2.2.2.2.2.1=names∧0<=x.2.2.2.2.2.2.1∧x.2.2.2.2.2.2.1<=(names.length:Int)∧∀j:Nat,(j:Int)<x.2.2.2.2.2.2.1->names.getD j []≠name)
  (λx=>((names.length:Int)-x.2.2.2.2.2.2.1).toNat) ?_ _ _ ⟨rfl,rfl,rfl,by simp,by simp,λj d=>by simp at d;omega⟩ (by simp;omega)
 rintro g ⟨t,A,z,E,o,p,i,y,B,w,D,C⟩ ⟨rfl,rfl,rfl,u,q,c⟩ m;simp only at u q c m h v ⊢;unfold oY;dsimp only
 repeat' (first|(with_reducible refine af ?_ ?_<;>(intro b;(try simp only[bnl] at b);(try revert b;intro _)))|with_reducible refine cI ?_ ?_|with_reducible refine ak ?_|fail)
 ·simp only[bnl];omega
 ·simp only[bnl];omega
 ·rename_i b a;have e:=ail (names:=p) (l:=o) (name:=t) (i:=i.toNat) (by omega) (by omega) (λj d=>c j (by omega)) a;refine⟨_,_,_,_,_,_,_,rfl,rfl,?_⟩;simp only[mV];rw[e];rfl
 ·rename_i b a;have f:=ax (i+1) (by omega);refine m _ ⟨rfl,rfl,rfl,?_,?_,?_⟩ ?_;·simp only[f];omega
  ·simp only[f];omega
  ·simp only[f];intro j d;by_cases e:(j:Int)=i
   ·have:i.toNat=j:=by omega
    rw[this] at a;exact a
   ·exact c j (by omega)
  ·simp only[f];omega
 ·rename_i b;refine⟨_,_,_,_,_,_,_,rfl,rfl,?_⟩;simp only[mV];rw[ahA (i:=i.toNat) (λj d=>c j (by omega)) (.inl (by omega))];rfl
theorem nz{e c:Int}(a:c≠0):(if e=0 then c else e)≠0:=by split<;>assumption
structure my(ts:List ab)(e:Int)(t0:ab)(at_:Int)(ts2:List ab)(e2:Int):Prop where
 len:ts.length<=ts2.length
 cap:ts2.length<=60
 grow:e2=0->at_=ts.length∧gU (ts++[t0]) e ts2 e2
theorem my.add{a:List ab}{e:Int}{c:ab}(h:a.length<=60){r:Int×List ab×Int}(b:r=if 60<=a.length then (0,a,if e=0 then 3 else e) else ((a.length:Int),a++[c],e)):my a e c r.1 r.2.1 r.2.2:=by
 by_cases d:60<=a.length;·rw[if_pos d] at b;subst b;exact⟨Aj _,h,λh=>absurd h (nz (by decide))⟩
 ·rw[if_neg d] at b;subst b;exact⟨by simp,by simp;omega,λh=>⟨rfl,gU.refl (by simp;omega)⟩⟩
theorem my.more{i b c:List ab}{e j f:Int}{g:ab}{a:Int}(h:my i e g a b j)(d:gU b j c f):my i e g a c f:=
 ⟨AF h.len d.len,d.cap,λk=>⟨(h.grow (d.err k)).1,(h.grow (d.err k)).2.trans d⟩⟩
theorem my.bad{f b:List ab}{e i c:Int}{d:ab}{a:Int}(h:my f e d a b i)(j:c≠0):my f e d a b c:=
 ⟨h.len,h.cap,λg=>absurd g j⟩
theorem my.range{f b:List ab}{e c:Int}{d:ab}{a:Int}(h:my f e d a b c)(i:c=0):0<=a∧a<b.length:=by obtain⟨rfl,g⟩:=h.grow i;have:=g.len;simp only[AG,Bh] at this;omega
theorem my.done{i b:List ab}{e c:Int}{d t:ab}{a:Int}(h:my i e d a b c)(k:c=0)(m:rG b.length t)(j:ah8 d t)(f:w7 (b.set a.toNat t) a.toNat t):gU i e (b.set a.toNat t) c:=by obtain⟨rfl,g⟩:=h.grow k;rw[Bz] at f ⊢;exact g.close m (λ_=>j) (λ_=>f)
theorem my.get{i b:List ab}{e d:Int}{c:ab}{a:Int}(h:my i e c a b d)(f:d=0):b[a.toNat]? =some c:=by obtain⟨rfl,g⟩:=h.grow f;rw[Bz];exact g.at_open f
theorem my.zero{c b:List ab}{e d:Int}{f:ab}{a:Int}(h:my c e f a b d)(i:d=0):a.toNat=c.length∧c.length<b.length∧(c=[]->a=0):=by obtain⟨rfl,g⟩:=h.grow i;have:=g.len;simp only[AG,Bh] at this;exact⟨by simp,by omega,λh=>by rw[h];rfl⟩
def ajD(a:List ab)(n:Nat)(b:List Int)(m:Nat):Prop:=∃w:Nat->Nat,af7 w b.length<=m∧∀(k:Nat) c,b[k]? =some c->hU a n c (w k)
theorem ajD.nil(a:List ab)(n:Nat):ajD a n [] 0:=⟨λ_=>0,Aj _,by simp⟩
theorem agH{l:List (List UInt8)}(h:ce l)(i:Nat):(l.getD i (ao .str)).length<=100:=by
 rw[Ah];cases a:l[i]? with
 |none=>exact Bj _
 |some y=>exact h y (Af a)
theorem zV.grow{d c:List ab}{e j:Int}{i:Nat}{l:List aq}(h:zV d i l)(g:gU d e c j)(o:j=0):zV c i l:=
 ⟨h.1,λf a=>⟨⟨(h.2.1 f a).1.1,by have:=(h.2.1 f a).1.2.1;have:=g.len;omega,(h.2.1 f a).1.2.2⟩,(h.2.1 f a).2⟩,λf a=>by obtain⟨b,m,k⟩:=h.2.2 f a;exact⟨b,m,k.grow g o⟩⟩
end Go.Proofs.YtkinflmjagfapaaDoor
end
