import Derived.KernelRfl
import Derived.Shelf.Strings.Builder1
import Derived.Shelf.Strings.Builder2
import Derived.Shelf.Strings.OnBuilder
import Derived.Shelf.Strconv.Itoa4
import Derived.Lib.AppendIntMem
import Derived.Test.YtkinflmjagfapaaDoorZ02
import Derived.Test.YtkinflmjagfapaaDoorZ03
open Bool renaming and_eq_true→Ac,or_eq_true→A7,and_eq_false_iff→B2,false_or→B8,eq_iff_iff→Ch
open Eq renaming trans→A8
open Go.IntKind renaming wrap→Ae
open Go.World renaming cell?→Bv,block_lt_of_cell?→C8
open Int renaming toNat→Ah,toNat_natCast→At,tmod→BG,tmod_eq_emod_of_nonneg→BJ,tdiv_eq_ediv_of_nonneg→BX,tdiv→Ck
open List renaming length→Aa,getElem?_eq_getElem→Ab,getElem?_eq_some_iff→Ad,length_cons→Af,length_append→Aj,length_nil→Ak,getD_eq_getElem?_getD→Al,mem_of_getElem?→Am,getD→An,all_eq_true→Ap,mem_singleton→Au,getElem?_append_right→Av,getElem?_append_left→Aw,mem_append→Az,getElem?_map→AA,mem_cons→AB,append_assoc→AC,mem_map→AG,cons_append→AI,drop_eq_getElem_cons→AK,mem_cons_of_mem→AL,mem_append_left→AN,length_set→AO,eq_nil_of_length_eq_zero→AT,range→AU,nil_append→AW,mem_cons_self→AY,mem_range→AZ,mem_iff_getElem→A0,map_cons→A2,not_mem_nil→A4,getElem?_set_ne→A5,length_map→A6,getElem?_cons_succ→A9,getElem?_eq_none→Ba,drop→Bd,getElem_mem→Bf,take_of_length_le→Bl,getElem?_drop→Bo,getElem?_cons_zero→Bq,take→Br,take_add_one→Bt,getElem?_set_self→Bw,drop_length→By,flatMap_cons→BC,map_append→BF,length_drop→BH,length_take→BI,append_nil→BL,take_length→BM,getElem?_of_mem→BO,foldl_cons→BS,drop_eq_nil_of_le→BW,nodup_nil→BY,mem_append_right→B0,zip_cons_cons→B3,zipWith→B6,drop_zero→Cc,map_map→Cg,all_cons→Cm,getD_cons_succ→Cx,set_cons_zero→CA,isPrefixOf_iff_prefix→CR,mem_map_of_mem→CT,length_zipWith→CU,nodup_cons→CV,set_cons_succ→C1,foldl_append→Da,flatten_cons→Dc,sizeOf_lt_of_mem→Dk,of_mem_zip→Dr,drop_take→DH,nodup_append→D2,prefix_iff_eq_take→Eb
open List.cons renaming inj→AV
open Nat renaming le_refl→Ar,lt_of_lt_of_le→AE,lt_or_ge→AH,add_mul→AP,le_trans→AR,mul_le_mul_right→A1,zero_le→BB,one_mul→B4,add_zero→B5,sub_self→Cf,ble→Cs,lt_trichotomy→CG,mul_le_mul_left→DA
open Ne renaming symm→Ci
open Option renaming map_eq_some_iff→Aq,getD_some→Bk,isSome_iff_exists→Bz
open Option.some renaming injEq→Ai,inj→Ax
open Prod.mk renaming injEq→Ao
open SizeOf renaming sizeOf→B7
open UInt8 renaming ofNat→AF,toNat→AJ,toNat_inj→BR,ofNat_toNat→CI,toNat_lt→DG,toNat_ofNat'→DM
set_option linter.all false
set_option maxRecDepth 100000
noncomputable section
namespace Go.Proofs.YtkinflmjagfapaaDoor
open Go.AM
def oh:rG:=λf us css=>match f,us,css with
 |27,[.ptr 1 0,.int .i64 q],[[.mp .ib a],[.sl .atype (.may false) b,.mr 0]]=>some (can (av a b q),.agg [.int .i64 (((pick (av a b q)).1).kind),.int .i64 (((pick (av a b q)).1).n),.str (((pick (av a b q)).1).s),.sl .jnode (.may false) (((pick (av a b q)).1).l),.sl .str (.may false) (((pick (av a b q)).1).names)],[[.mp .ib ((pick (av a b q)).2.1)],[.sl .atype (.may false) ((pick (av a b q)).2.2),.mr 0]])
 |59,[.ptr 1 0,.agg [.int .i64 i,.str j,.sl .str (.may _) h,.int .i64 p,.sl .str (.may _) k,.bool e,.str g,.int .i64 o,.sl .afield (.may _) m,.sl (.num .i64) (.may _) d]],[[.mp .ib a],[.sl .atype (.may false) b,.mr 0]]=>some (can (bh a b (⟨i,j,h,p,k,e,g,o,m,d⟩)),.agg [.int .i64 (((pick (bh a b (⟨i,j,h,p,k,e,g,o,m,d⟩))).1).kind),.int .i64 (((pick (bh a b (⟨i,j,h,p,k,e,g,o,m,d⟩))).1).n),.str (((pick (bh a b (⟨i,j,h,p,k,e,g,o,m,d⟩))).1).s),.sl .jnode (.may false) (((pick (bh a b (⟨i,j,h,p,k,e,g,o,m,d⟩))).1).l),.sl .str (.may false) (((pick (bh a b (⟨i,j,h,p,k,e,g,o,m,d⟩))).1).names)],[[.mp .ib ((pick (bh a b (⟨i,j,h,p,k,e,g,o,m,d⟩))).2.1)],[.sl .atype (.may false) ((pick (bh a b (⟨i,j,h,p,k,e,g,o,m,d⟩))).2.2),.mr 0]])
 |_,_,_=>none
noncomputable def ji:aq:=(pA 2 oh (su (aaR (P:=Tryd.prog) [ahF,ael,afY])))
theorem zP:cI ji [27,59,2000027,2000059]:=(adl (by intro f us css a;unfold oh;split<;>first|rfl|(simp at a)) (qF _ _))
theorem aa9:ca Tryd.prog ji:=by
 refine ah8 ?_ ?_
 ·intro f us css v css' h;unfold oh at h;split at h;·simp only[Ai,Ao] at h;obtain⟨a,rfl,rfl⟩:=h;exact((wC a).1).dim rfl
  ·simp only[Ai,Ao] at h;obtain⟨a,rfl,rfl⟩:=h;exact((wC a).1).dim rfl
  ·simp at h
 exact ade _
def rV:IR:=Rs [Bi 46 .lss 45 44] (Sq (Cn 46 .skip (.exit 1)) (Sq (.block 2 (Rs [Ix 47 (.num .i64) 43 45,Lq 48 47,Mv 8 48] (.reg [Fa 49 3 6,Fo [] [3] (.ld 50 1 false true 49),Mv 51 0,Mv 52 8,Fo [] [0,1] (.call 53 27 [51,52]),Pp (.bsl 54 .jnode [53] true),Pp (.app 55 .jnode (.tk 50) 54),Fa 56 3 6,Fo [] [3] (.st none 1 56 (.tk 55))] [[],[0],[],[],[2,3],[2,3,4],rg 0 5,rg 0 6,rg 0 7]))) (Rg [Bc 57 .add 45 1,Mv 45 57])))
def rW:IR:=Rs [Pp (.ld 58 5 true false 6),Sv 5 4 58] .ret
def rn:IR:=Rs [Fa 80 0 5,Lq 81 80,Ca 82 37 [81],Ca 83 58 [82],Sv 5 4 83] .ret
def adK:IR:=Rs [Pp (.new 4 [vI 0,vI 0,vS,nl .jnode,nl .str])] (Rs [Mv 9 0,Nk 10 9,Fa 11 0 10,Fa 12 0 11,Lo 13 12,Mv 14 1,Ix 15 .atype 13 14,Ld 16 10 true 15,Pp (.alr 5 10),Fz 5 10 16] (Sq (Rs [Fa 17 0 5,Lq 18 17] (.block 0 (Rs [Bc 20 .eql 18 12,Mv 19 20] (Cn 19 (Sq (.reg [Pp (.bsl 21 .str [kS [116,121,112,101],kS [105,116,101,109,115]] true),Ca 22 58 [kS [97,114,114,97,121]],Mv 23 0,Fa 24 3 5,Lq 25 24,Fo [] [0,1] (.call 26 27 [23,25]),Pp (.bsl 27 .jnode [22,26] true),Ca 28 57 [21,27],Fo [] [2] (.st none 5 4 28)] [[],[],[],[],[3],rg 1 4,rg 1 5,rg 0 6,rg 0 7]) .ret) (Rs [Bc 30 .eql 18 13,Mv 29 30] (Cn 29 (Sq (.reg [Pp (.bsl 31 .str [kS [116,121,112,101],kS [118,97,108,117,101,115]] true),Ca 32 58 [kS [109,97,112]],Mv 33 0,Fa 34 3 5,Lq 35 34,Fo [] [0,1] (.call 36 27 [33,35]),Pp (.bsl 37 .jnode [32,36] true),Ca 38 57 [31,37],Fo [] [2] (.st none 5 4 38)] [[],[],[],[],[3],rg 1 4,rg 1 5,rg 0 6,rg 0 7]) .ret) (Rs [Bc 40 .eql 18 14,Mv 39 40] (Cn 39 (Rs [Pp (.bld 41 [vI 0,vI 0,vS,nl .jnode,nl .str] [(0,1,kI 5)]),Pp (.new 6 [vI 0,vI 0,vS,nl .jnode,nl .str]),Sv 5 6 41] (Sq (Rs [Fa 42 9 5,Lq 43 42,Ll 44 43,Mi 45 0] (.block 1 (.loop [0,4,6,43,44,45,1000000] 4 rV))) rW)) (Sq (Rs [Bc 60 .eql 18 9,Mv 59 60] (Cn 59 .skip (Rs [Bc 61 .eql 18 10,Mv 59 61] (Cn 59 .skip (Rg [Bc 62 .eql 18 11,Mv 59 62]))))) (Cn 59 (Sq (Rs [Mv 63 0,Nk 64 63,Fa 65 1 64,Lo 66 65,Mv 67 1,Pp (.mget 68 .ib false (.t 66) (.t 67))] (Cn 68 (Rs [Fa 69 1 5,Lq 70 69,Ca 71 58 [70],Sv 5 4 71] .ret) .skip)) (Rs [Mv 72 0,Nk 73 72,Fa 74 1 73,Lo 75 74,Mv 76 1,Pp (.mput none .ib (.t 75) (.t 76) (.c (.bool true)))] (Rs [Mv 77 0,Ld 78 10 true 5,Ca 79 59 [77,78],Sv 5 4 79] .ret))) .skip)))))))))) rn))
def uJ:List RV:=[.cell 4 5 true]
theorem adL:FnC Tryd.prog ji [27,59,2000027,2000059] 2 ve Tryd.f27 adK uJ:=FnC.of aa9 zP Tryd.func27 (by kernel_rfl) (by kernel_rfl) (by decide)
def acf(R:IR->(Ex->St->Ro)->St->Ro)(a:St->Ro):Ex->St->Ro:=(b7 a [0,4,6,43,44,45,1000000] 4 (aJ 1 (kseq (R rW) (aJ 0 (kseq (R rn) (fin uJ))))))
abbrev j5:Type:=(List Int×Int×Int×List (Int×Bool)×List ac×Int×Int×Bs×List aa×Bss×Int×Int×Bs×List aa×Bss)
def jI(x:j5):St:={env:=(.ptr 1 0::(U 3 (.ptr 2 0::.undef::.ptr 3 0::(U 36 (.sl (.num .i64) (.may false) x.1::.int .i64 x.2.1::.int .i64 x.2.2.1::(U 38 [])))))),hp:=[some [.mp .ib x.2.2.2.1],some [.sl .atype (.may false) x.2.2.2.2.1,.mr 0],some [.int .i64 x.2.2.2.2.2.1,.int .i64 x.2.2.2.2.2.2.1,.str x.2.2.2.2.2.2.2.1,.sl .jnode .own x.2.2.2.2.2.2.2.2.1,.sl .str .own x.2.2.2.2.2.2.2.2.2.1],some [.int .i64 x.2.2.2.2.2.2.2.2.2.2.1,.int .i64 x.2.2.2.2.2.2.2.2.2.2.2.1,.str x.2.2.2.2.2.2.2.2.2.2.2.2.1,.sl .jnode .own x.2.2.2.2.2.2.2.2.2.2.2.2.2.1,.sl .str .own x.2.2.2.2.2.2.2.2.2.2.2.2.2.2]]}
def nA(N:Nat):(St->Ro)->St->Ro:=λa s=>run ji N rV (acf (run ji N) a) s
def j6(N:Nat)(g:j5->Ro)(x:j5):Ro:=
 let k:List Int:=x.1;let q:Int:=x.2.1;let h:Int:=x.2.2.1;let i:List (Int×Bool):=x.2.2.2.1;let j:List ac:=x.2.2.2.2.1;let m:Int:=x.2.2.2.2.2.1;let t:Int:=x.2.2.2.2.2.2.1;let p:Bs:=x.2.2.2.2.2.2.2.1;let o:List aa:=x.2.2.2.2.2.2.2.2.1;let u:Bss:=x.2.2.2.2.2.2.2.2.2.1;let d:Int:=x.2.2.2.2.2.2.2.2.2.2.1;let b:Int:=x.2.2.2.2.2.2.2.2.2.2.2.1;let f:Bs:=x.2.2.2.2.2.2.2.2.2.2.2.2.1;let a:List aa:=x.2.2.2.2.2.2.2.2.2.2.2.2.2.1;let e:Bss:=x.2.2.2.2.2.2.2.2.2.2.2.2.2.2
 cond (decide (h<q)) (
  chk (ixl h k) (
   let w:=An k (Ah h) (ao (.num .i64))
   af (av i j w) (λv=>
    chk (decide ((Aa a+Aa ([(reJ v.1)]:List aa))*80<=140737488355328)) (
     let A:=(a++([(reJ v.1)]:List aa))
     let y:=(Ae .i64 (h+1))
     g (k,q,y,v.2.1,v.2.2,m,t,p,o,u,d,b,f,A,e))))) (
  some (.agg [.int .i64 d,.int .i64 b,.str f,.sl .jnode (.may false) a,.sl .str (.may false) e],[some [.mp .ib i],some [.sl .atype (.may false) j,.mr 0],some [.int .i64 d,.int .i64 b,.str f,.sl .jnode (.may false) a,.sl .str (.may false) e],some [.int .i64 d,.int .i64 b,.str f,.sl .jnode .own a,.sl .str .own e]]))
theorem aba(N:Nat):LB (nA N) jI (j6 N):=λ_ _=>by kernel_rfl
def dQ(N:Nat)(a:List (Int×Bool))(b:List ac)(m:Int)(I:j5->Ro):Ro:=
 let j:=λB D E C G F A R L=>(some (.agg [.int .i64 B,.int .i64 D,.str E,.sl .jnode (.may C) G,.sl .str (.may F) A],[some [.mp .ib R],some [.sl .atype (.may false) L,.mr 0],some [.int .i64 B,.int .i64 D,.str E,.sl .jnode (.may C) G,.sl .str (.may F) A]]):Ro)
 chk (ixl m b) (
  let d:=(An b (Ah m) (ao .atype))
  cond (d.kind==12) (
   af (ch ([97,114,114,97,121]:Bs)) (λ(M:aa)=>
    af (av a b d.items) (λw=>
     af (eI true ([([116,121,112,101]:Bs),([105,116,101,109,115]:Bs)]:Bss) true ([(reJ M),(reJ w.1)]:List aa)) (λp=>
      j p.1 p.2.1 p.2.2.1 p.2.2.2.1 p.2.2.2.2.1 p.2.2.2.2.2.1 p.2.2.2.2.2.2 w.2.1 w.2.2)))) (
   cond (d.kind==13) (
    af (ch ([109,97,112]:Bs)) (λ(J:aa)=>
     af (av a b d.items) (λx=>
      af (eI true ([([116,121,112,101]:Bs),([118,97,108,117,101,115]:Bs)]:Bss) true ([(reJ J),(reJ x.1)]:List aa)) (λq=>
       j q.1 q.2.1 q.2.2.1 q.2.2.2.1 q.2.2.2.2.1 q.2.2.2.2.2.1 q.2.2.2.2.2.2 x.2.1 x.2.2)))) (
    cond (d.kind==14) (
     let Q:=(↑(Aa d.branches):Int)
     I (d.branches,Q,0,a,b,0,0,([]:Bs),([]:List aa),([]:Bss),5,0,([]:Bs),([]:List aa),([]:Bss))) (
     cond (d.kind==9) (
      let O:=(da (k:=.ib) a m)
      cond O (
       af (ch d.name) (λ(t:aa)=>
        j t.kind t.n t.s false t.l false t.names a b)) (
       let P:=(cE (k:=.ib) a m true)
       af (bh P b d) (λo=>
        j o.1.kind o.1.n o.1.s false o.1.l false o.1.names o.2.1 o.2.2))) (
      cond (d.kind==10) (
       let S:=(da (k:=.ib) a m)
       cond S (
        af (ch d.name) (λ(h:aa)=>
         j h.kind h.n h.s false h.l false h.names a b)) (
        let H:=(cE (k:=.ib) a m true)
        af (bh H b d) (λf=>
         j f.1.kind f.1.n f.1.s false f.1.l false f.1.names f.2.1 f.2.2))) (
       cond (d.kind==11) (
        let u:=(da (k:=.ib) a m)
        cond u (
         af (ch d.name) (λ(g:aa)=>
          j g.kind g.n g.s false g.l false g.names a b)) (
         let y:=(cE (k:=.ib) a m true)
         af (bh y b d) (λe=>
          j e.1.kind e.1.n e.1.s false e.1.l false e.1.names e.2.1 e.2.2))) (
        af (kJ d.kind) (λ(v:Bs)=>
         af (ch v) (λ(i:aa)=>
          j i.kind i.n i.s false i.l false i.names a b)))))))))
def kr(N:Nat)(b:List (Int×Bool))(a:List ac)(d:Int):Ro:=dQ N b a d (λz=>aK N (j6 N) z)
theorem nB(N:Nat)(a:List (Int×Bool))(d:List ac)(g:Int)(h:Tot (kr N a d g) (λz=>∃(j:aa)(k:List (Int×Bool))(i:List ac)(rest:List ai),z.1.dimR=.agg (enc .jnode j)∧z.2=some [.mp .ib k]::some [.sl .atype (.may false) i,.mr 0]::rest∧fv a d g (j,k,i))):∃r,av a d g r:=FnK.finO (css:=[[.mp .ib a],[.sl .atype (.may false) d,.mr 0]]) adL (N:=N) ((cz _ (by kernel_rfl) rfl (λC=>dQ N a d g (λz=>C 1000000 (jI z))) (λC=>by kernel_rfl)).trans (A8 (b:=dQ N a d g (λz=>bi N (nA N) (jI z))) (by kernel_rfl) (congrArg (dQ N a d g) (funext λz=>bm (jI) (nA N) (j6 N) (aba N) N z)))) h λ_ ⟨j,k,i,_,e,f,q⟩=>⟨(j,k,i),e,⟨_,f⟩,q⟩
def ph:rG:=λf us css=>match f,us,css with
 |27,[.ptr 1 0,.int .i64 d],[[.mp .ib b],[.sl .atype (.may false) a,.mr 0]]=>some (can (av b a d),.agg [.int .i64 (((pick (av b a d)).1).kind),.int .i64 (((pick (av b a d)).1).n),.str (((pick (av b a d)).1).s),.sl .jnode (.may false) (((pick (av b a d)).1).l),.sl .str (.may false) (((pick (av b a d)).1).names)],[[.mp .ib ((pick (av b a d)).2.1)],[.sl .atype (.may false) ((pick (av b a d)).2.2),.mr 0]])
 |_,_,_=>none
noncomputable def ez:aq:=(pA 2 ph (su (aaR (P:=Tryd.prog) [ahF,ael,afY])))
theorem abb:cI ez [27,2000027]:=(adl (by intro f us css a;unfold ph;split<;>first|rfl|(simp at a)) (qF _ _))
theorem acg:ca Tryd.prog ez:=by
 refine ah8 ?_ ?_
 ·intro f us css v css' h;unfold ph at h;split at h;·simp only[Ai,Ao] at h;obtain⟨a,rfl,rfl⟩:=h;exact((wC a).1).dim rfl
  ·simp at h
 exact ade _
def tu:IR:=Rs [Bi 50 .lss 49 48] (Sq (Cn 50 .skip (.exit 3)) (Sq (.block 4 (Rs [Ix 51 .str 47 49,Lq 52 51,Mv 9 52] (.reg [Fa 53 3 5,Fo [] [3] (.ld 54 1 false true 53),Mv 55 9,Ca 56 58 [55],Pp (.bsl 57 .jnode [56] true),Pp (.app 58 .jnode (.tk 54) 57),Fa 59 3 5,Fo [] [3] (.st none 1 59 (.tk 58))] [[],[0],[],[2],[2,3],rg 0 4,rg 0 5,rg 0 6]))) (Rg [Bc 60 .add 49 1,Mv 49 60])))
def rX:IR:=Rs [Bi 20 .lss 19 18] (Sq (Cn 20 .skip (.exit 1)) (Sq (.block 2 (Rs [Ix 21 .afield 17 19,Ld 22 9 true 21,Pp (.alr 11 9),Fz 11 9 22] (.reg [Fa 23 3 5,Fo [] [3] (.ld 24 1 false true 23),Pp (.bsl 25 .str [kS [110,97,109,101],kS [116,121,112,101]] true),Fa 26 0 11,Lq 27 26,Ca 28 58 [27],Mv 29 0,Fa 30 2 11,Lq 31 30,Fo [] [0,1] (.call 32 27 [29,31]),Pp (.bsl 33 .jnode [28,32] true),Ca 34 57 [25,33],Pp (.bsl 35 .jnode [34] true),Pp (.app 36 .jnode (.tk 24) 35),Fa 37 3 5,Fo [] [3] (.st none 1 37 (.tk 36))] [[],[0],[],[],[3],[3,4],[],[],[7],rg 3 8,rg 3 9,rg 2 10,rg 2 11,rg 0 12,rg 0 13,rg 0 14]))) (Rg [Bc 38 .add 19 1,Mv 19 38])))
def mD:IR:=Sq (.reg [Pp (.mov 61 (.tk 6)),Mv 62 7,Pp (.bsl 63 .str [62] true),Pp (.app 64 .str (.tk 61) 63),Fa 65 1 3,Lq 66 65,Ca 67 58 [66],Fa 68 0 3,Lq 69 68,Ca 70 37 [69],Ca 71 58 [70],Fo [3] [] (.ld 72 5 true false 5),Pp (.bsl 73 .jnode [67,71,72] true),Ca 74 57 [64,73],Fo [] [2] (.st none 5 4 74)] [[],[],[1],[0,1,2],[],[4],rg 0 5,[],[7],rg 0 8,rg 0 9,[],rg 0 11,rg 0 12,rg 0 13]) .ret
def afb:IR:=Rs [Bx 3 1,Pp (.new 4 [vI 0,vI 0,vS,nl .jnode,nl .str])] (Rs [Pp (.bld 12 [vI 0,vI 0,vS,nl .jnode,nl .str] [(0,1,kI 5)]),Pp (.new 5 [vI 0,vI 0,vS,nl .jnode,nl .str]),Sv 5 5 12] (Rs [Pp (.bsl 13 .str [kS [110,97,109,101],kS [116,121,112,101]] false),Pp (.mov 6 (.tk 13)),Ms 7 []] (Sq (Rs [Fa 14 0 3,Lq 15 14] (.block 0 (Rs [Bc 40 .eql 15 11,Mv 39 40] (Cn 39 (.reg [Fa 41 7 3,Lq 42 41,Pp (.bld 43 [vI 0,vI 0,vS,nl .jnode,nl .str] [(0,1,kI 3),(1,1,42)]),Ms 7 [115,105,122,101],Fo [] [3] (.st none 5 5 43)] [[],[0],[0,1],[],rg 0 3]) (Rs [Bc 45 .eql 15 10,Mv 44 45] (Cn 44 (Rs [Ms 7 [115,121,109,98,111,108,115]] (Rs [Fa 46 4 3,Lq 47 46,Ll 48 47,Mi 49 0] (.block 3 (.loop [3,4,5,6,7,47,48,49,1000000] 4 tu)))) (Rs [Ms 7 [102,105,101,108,100,115]] (Rs [Fa 16 8 3,Lq 17 16,Ll 18 17,Mi 19 0] (.block 1 (.loop [0,3,4,5,6,7,17,18,19,1000001] 4 rX)))))))))) mD)))
def pi:List RV:=[.cell 4 5 true]
theorem afc:FnC Tryd.prog ez [27,2000027] 2 wH Tryd.f59 afb pi:=FnC.of acg abb Tryd.func59 (by kernel_rfl) (by kernel_rfl) (by decide)
def adM(R:IR->(Ex->St->Ro)->St->Ro)(a:St->Ro):Ex->St->Ro:=(b7 a [3,4,5,6,7,47,48,49,1000000] 4 (aJ 3 (aJ 0 (kseq (R mD) (fin pi)))))
abbrev ks:Type:=(ac×Bss×Bs×Bss×Int×Int×List (Int×Bool)×List ac×Int×Int×Bs×List aa×Bss×Int×Int×Bs×List aa×Bss)
def j7(x:ks):St:={env:=(U 3 (.ea (enc .atype x.1)::.ptr 2 0::.ptr 3 0::.sl .str .own x.2.1::.str x.2.2.1::(U 39 (.sl .str (.may false) x.2.2.2.1::.int .i64 x.2.2.2.2.1::.int .i64 x.2.2.2.2.2.1::(U 25 []))))),hp:=[some [.mp .ib x.2.2.2.2.2.2.1],some [.sl .atype (.may false) x.2.2.2.2.2.2.2.1,.mr 0],some [.int .i64 x.2.2.2.2.2.2.2.2.1,.int .i64 x.2.2.2.2.2.2.2.2.2.1,.str x.2.2.2.2.2.2.2.2.2.2.1,.sl .jnode .own x.2.2.2.2.2.2.2.2.2.2.2.1,.sl .str .own x.2.2.2.2.2.2.2.2.2.2.2.2.1],some [.int .i64 x.2.2.2.2.2.2.2.2.2.2.2.2.2.1,.int .i64 x.2.2.2.2.2.2.2.2.2.2.2.2.2.2.1,.str x.2.2.2.2.2.2.2.2.2.2.2.2.2.2.2.1,.sl .jnode .own x.2.2.2.2.2.2.2.2.2.2.2.2.2.2.2.2.1,.sl .str .own x.2.2.2.2.2.2.2.2.2.2.2.2.2.2.2.2.2]]}
def oi(N:Nat):(St->Ro)->St->Ro:=λa s=>run ez N tu (adM (run ez N) a) s
def ku(N:Nat)(i:ks->Ro)(x:ks):Ro:=
 let A:ac:=x.1;let w:Bss:=x.2.1;let y:Bs:=x.2.2.1;let m:Bss:=x.2.2.2.1;let v:Int:=x.2.2.2.2.1;let h:Int:=x.2.2.2.2.2.1;let j:List (Int×Bool):=x.2.2.2.2.2.2.1;let k:List ac:=x.2.2.2.2.2.2.2.1;let o:Int:=x.2.2.2.2.2.2.2.2.1;let t:Int:=x.2.2.2.2.2.2.2.2.2.1;let q:Bs:=x.2.2.2.2.2.2.2.2.2.2.1;let p:List aa:=x.2.2.2.2.2.2.2.2.2.2.2.1;let u:Bss:=x.2.2.2.2.2.2.2.2.2.2.2.2.1;let e:Int:=x.2.2.2.2.2.2.2.2.2.2.2.2.2.1;let d:Int:=x.2.2.2.2.2.2.2.2.2.2.2.2.2.2.1;let g:Bs:=x.2.2.2.2.2.2.2.2.2.2.2.2.2.2.2.1;let a:List aa:=x.2.2.2.2.2.2.2.2.2.2.2.2.2.2.2.2.1;let f:Bss:=x.2.2.2.2.2.2.2.2.2.2.2.2.2.2.2.2.2
 cond (decide (h<v)) (
  chk (ixl h m) (
   let C:=An m (Ah h) (ao .str)
   af (ch C) (λ(B:aa)=>
    chk (decide ((Aa a+Aa ([(reJ B)]:List aa))*80<=140737488355328)) (
     let H:=(a++([(reJ B)]:List aa))
     let F:=(Ae .i64 (h+1))
     i (A,w,y,m,v,F,j,k,o,t,q,p,u,e,d,g,H,f))))) (
  chk (decide ((Aa w+Aa ([y]:Bss))*16<=140737488355328)) (
   let E:=(w++([y]:Bss))
   af (ch A.name) (λ(I:aa)=>
    af (kJ A.kind) (λ(G:Bs)=>
     af (ch G) (λ(D:aa)=>
      af (eI false E true ([(reJ I),(reJ D),⟨e,d,g,a,f⟩]:List aa)) (λb=>
       some (.agg [.int .i64 b.1,.int .i64 b.2.1,.str b.2.2.1,.sl .jnode (.may b.2.2.2.1) b.2.2.2.2.1,.sl .str (.may b.2.2.2.2.2.1) b.2.2.2.2.2.2],[some [.mp .ib j],some [.sl .atype (.may false) k,.mr 0],some [.int .i64 b.1,.int .i64 b.2.1,.str b.2.2.1,.sl .jnode (.may b.2.2.2.1) b.2.2.2.2.1,.sl .str (.may b.2.2.2.2.2.1) b.2.2.2.2.2.2],some [.int .i64 e,.int .i64 d,.str g,.sl .jnode .own a,.sl .str .own f]])))))))
theorem ach(N:Nat):LB (oi N) j7 (ku N):=λ_ _=>by kernel_rfl
def adN(R:IR->(Ex->St->Ro)->St->Ro)(a:St->Ro):Ex->St->Ro:=(b7 a [0,3,4,5,6,7,17,18,19,1000001] 4 (aJ 1 (aJ 0 (kseq (R mD) (fin pi)))))
abbrev kv:Type:=(ac×Bss×Bs×List aZ×Int×Int×List (Int×Bool)×List ac×Int×Int×Bs×List aa×Bss×Int×Int×Bs×List aa×Bss)
def j8(x:kv):St:={env:=(.ptr 1 0::.undef::.undef::.ea (enc .atype x.1)::.ptr 2 0::.ptr 3 0::.sl .str .own x.2.1::.str x.2.2.1::(U 9 (.sl .afield (.may false) x.2.2.2.1::.int .i64 x.2.2.2.2.1::.int .i64 x.2.2.2.2.2.1::(U 55 [])))),hp:=[some [.mp .ib x.2.2.2.2.2.2.1],some [.sl .atype (.may false) x.2.2.2.2.2.2.2.1,.mr 0],some [.int .i64 x.2.2.2.2.2.2.2.2.1,.int .i64 x.2.2.2.2.2.2.2.2.2.1,.str x.2.2.2.2.2.2.2.2.2.2.1,.sl .jnode .own x.2.2.2.2.2.2.2.2.2.2.2.1,.sl .str .own x.2.2.2.2.2.2.2.2.2.2.2.2.1],some [.int .i64 x.2.2.2.2.2.2.2.2.2.2.2.2.2.1,.int .i64 x.2.2.2.2.2.2.2.2.2.2.2.2.2.2.1,.str x.2.2.2.2.2.2.2.2.2.2.2.2.2.2.2.1,.sl .jnode .own x.2.2.2.2.2.2.2.2.2.2.2.2.2.2.2.2.1,.sl .str .own x.2.2.2.2.2.2.2.2.2.2.2.2.2.2.2.2.2]]}
def ol(N:Nat):(St->Ro)->St->Ro:=λa s=>run ez N rX (adN (run ez N) a) s
def kw(N:Nat)(i:kv->Ro)(x:kv):Ro:=
 let G:ac:=x.1;let B:Bss:=x.2.1;let C:Bs:=x.2.2.1;let o:List aZ:=x.2.2.2.1;let w:Int:=x.2.2.2.2.1;let j:Int:=x.2.2.2.2.2.1;let k:List (Int×Bool):=x.2.2.2.2.2.2.1;let m:List ac:=x.2.2.2.2.2.2.2.1;let q:Int:=x.2.2.2.2.2.2.2.2.1;let v:Int:=x.2.2.2.2.2.2.2.2.2.1;let u:Bs:=x.2.2.2.2.2.2.2.2.2.2.1;let t:List aa:=x.2.2.2.2.2.2.2.2.2.2.2.1;let y:Bss:=x.2.2.2.2.2.2.2.2.2.2.2.2.1;let f:Int:=x.2.2.2.2.2.2.2.2.2.2.2.2.2.1;let e:Int:=x.2.2.2.2.2.2.2.2.2.2.2.2.2.2.1;let h:Bs:=x.2.2.2.2.2.2.2.2.2.2.2.2.2.2.2.1;let d:List aa:=x.2.2.2.2.2.2.2.2.2.2.2.2.2.2.2.2.1;let g:Bss:=x.2.2.2.2.2.2.2.2.2.2.2.2.2.2.2.2.2
 cond (decide (j<w)) (
  chk (ixl j o) (
   let J:=(An o (Ah j) (ao .afield))
   af (ch J.name) (λ(D:aa)=>
    af (av k m J.typ) (λp=>
     af (eI true ([([110,97,109,101]:Bs),([116,121,112,101]:Bs)]:Bss) true ([(reJ D),(reJ p.1)]:List aa)) (λb=>
      chk (decide ((Aa d+Aa ([⟨b.1,b.2.1,b.2.2.1,b.2.2.2.2.1,b.2.2.2.2.2.2⟩]:List aa))*80<=140737488355328)) (
       let L:=(d++([⟨b.1,b.2.1,b.2.2.1,b.2.2.2.2.1,b.2.2.2.2.2.2⟩]:List aa))
       let E:=(Ae .i64 (j+1))
       i (G,B,C,o,w,E,p.2.1,p.2.2,q,v,u,t,y,f,e,h,L,g))))))) (
  chk (decide ((Aa B+Aa ([C]:Bss))*16<=140737488355328)) (
   let I:=(B++([C]:Bss))
   af (ch G.name) (λ(A:aa)=>
    af (kJ G.kind) (λ(F:Bs)=>
     af (ch F) (λ(H:aa)=>
      af (eI false I true ([(reJ A),(reJ H),⟨f,e,h,d,g⟩]:List aa)) (λa=>
       some (.agg [.int .i64 a.1,.int .i64 a.2.1,.str a.2.2.1,.sl .jnode (.may a.2.2.2.1) a.2.2.2.2.1,.sl .str (.may a.2.2.2.2.2.1) a.2.2.2.2.2.2],[some [.mp .ib k],some [.sl .atype (.may false) m,.mr 0],some [.int .i64 a.1,.int .i64 a.2.1,.str a.2.2.1,.sl .jnode (.may a.2.2.2.1) a.2.2.2.2.1,.sl .str (.may a.2.2.2.2.2.1) a.2.2.2.2.2.2],some [.int .i64 f,.int .i64 e,.str h,.sl .jnode .own d,.sl .str .own g]])))))))
theorem aci(N:Nat):LB (ol N) j8 (kw N):=λ_ _=>by kernel_rfl
def jj(N:Nat)(d:List (Int×Bool))(e:List ac)(b:ac)(o:ks->Ro)(f:kv->Ro):Ro:=
 cond (b.kind==11) (
  chk (decide ((Aa ([([110,97,109,101]:Bs),([116,121,112,101]:Bs)]:Bss)+Aa ([([115,105,122,101]:Bs)]:Bss))*16<=140737488355328)) (
   let g:=(([([110,97,109,101]:Bs),([116,121,112,101]:Bs)]:Bss)++([([115,105,122,101]:Bs)]:Bss))
   af (ch b.name) (λ(k:aa)=>
    af (kJ b.kind) (λ(m:Bs)=>
     af (ch m) (λ(i:aa)=>
      af (eI false g true ([(reJ k),(reJ i),⟨3,b.size,([]:Bs),([]:List aa),([]:Bss)⟩]:List aa)) (λa=>
       some (.agg [.int .i64 a.1,.int .i64 a.2.1,.str a.2.2.1,.sl .jnode (.may a.2.2.2.1) a.2.2.2.2.1,.sl .str (.may a.2.2.2.2.2.1) a.2.2.2.2.2.2],[some [.mp .ib d],some [.sl .atype (.may false) e,.mr 0],some [.int .i64 a.1,.int .i64 a.2.1,.str a.2.2.1,.sl .jnode (.may a.2.2.2.1) a.2.2.2.2.1,.sl .str (.may a.2.2.2.2.2.1) a.2.2.2.2.2.2],some [.int .i64 3,.int .i64 b.size,.str ([]:Bs),.sl .jnode .own ([]:List aa),.sl .str .own ([]:Bss)]]))))))) (
  cond (b.kind==10) (
   let j:=(↑(Aa b.syms):Int)
   o (b,([([110,97,109,101]:Bs),([116,121,112,101]:Bs)]:Bss),([115,121,109,98,111,108,115]:Bs),b.syms,j,0,d,e,0,0,([]:Bs),([]:List aa),([]:Bss),5,0,([]:Bs),([]:List aa),([]:Bss))) (
   let h:=(↑(Aa b.fields):Int)
   f (b,([([110,97,109,101]:Bs),([116,121,112,101]:Bs)]:Bss),([102,105,101,108,100,115]:Bs),b.fields,h,0,d,e,0,0,([]:Bs),([]:List aa),([]:Bss),5,0,([]:Bs),([]:List aa),([]:Bss))))
def vq(N:Nat)(b:List (Int×Bool))(a:List ac)(d:ac):Ro:=jj N b a d (λz=>aK N (ku N) z) (λz=>aK N (kw N) z)
theorem adO(N:Nat)(a:List (Int×Bool))(d:List ac)(g:ac)(h:Tot (vq N a d g) (λz=>∃(j:aa)(k:List (Int×Bool))(i:List ac)(rest:List ai),z.1.dimR=.agg (enc .jnode j)∧z.2=some [.mp .ib k]::some [.sl .atype (.may false) i,.mr 0]::rest∧ta a d g (j,k,i))):∃r,bh a d g r:=FnK.finO (css:=[[.mp .ib a],[.sl .atype (.may false) d,.mr 0]]) afc (N:=N) ((cz _ (by kernel_rfl) rfl (λC=>jj N a d g (λz=>C 1000000 (j7 z)) (λz=>C 1000001 (j8 z))) (λC=>by kernel_rfl)).trans (A8 (b:=jj N a d g (λz=>bi N (oi N) (j7 z)) (λz=>bi N (ol N) (j8 z))) (by kernel_rfl) (congr (congrArg (jj N a d g) (funext λz=>bm (j7) (oi N) (ku N) (ach N) N z)) (funext λz=>bm (j8) (ol N) (kw N) (aci N) N z)))) h λ_ ⟨j,k,i,_,e,f,q⟩=>⟨(j,k,i),e,⟨_,f⟩,q⟩
theorem o9{α:Type}{l:List α}{i:Nat}{x d:α}(h:l[i]? =some x):l.getD i d=x:=by rw[Al,h];rfl
theorem wS(s:List UInt8):∃r,ch s r:=by apply ak1 1;unfold aeB aeA;exact am ⟨aA s,_,rfl,rfl,rfl⟩
theorem yc(a:Bool)(names:List (List UInt8))(b:Bool)(l:List aa):∃r,eI a names b l r:=by apply ajA 1;unfold vP acb;exact am ⟨_,_,_,_,_,_,_,_,rfl,rfl,rfl⟩
theorem arq:∃r,qh r:=by apply ak0 1;unfold aez aey;exact am ⟨_,_,rfl,rfl,rfl⟩
theorem aat(k:Int):∃r,kJ k r:=by
 apply am7 1;unfold agp ago;have d:¬(1<=k∧k<=14)->(∃(a:List UInt8)(rest:List ai),(V.str []).dimR=.str a∧([]:List ai)=rest∧nd k a):=λh=>⟨_,_,rfl,rfl,by simp only[nd,bE,if_neg h]⟩
 repeat' (first|(with_reducible refine ab ?_ ?_<;>(intro b;(try simp only[bnl] at b);(try revert b;intro _)))|with_reducible refine ct ?_ ?_|with_reducible refine am ?_|(refine ah arq ?_;rintro _ ⟨-,rfl⟩;try dsimp only)|fail)
 ·exact d (by omega)
 ·exact d (by omega)
 ·have:([]::bj:List (List UInt8)).length=15:=rfl;simp only[bnl,this];omega
 ·rename_i e f;refine⟨_,_,rfl,rfl,?_⟩;simp only[nd,bE];rw[if_pos (by omega)];have:k.toNat=(k-1).toNat+1:=by omega
  rw[this];rfl
theorem li(L:List Int):(eR L).map (·.1)=L:=by unfold eR;rw[Cg];exact List.map_id _
theorem atL(L:List Int)(t:Int):da (k:=.ib) (eR L) t=decide (t∈L):=by
 induction L with
 |nil=>rfl
 |cons x L a=>
  simp only[da,eR,A2,aY] at a ⊢;by_cases h:x=t;·subst h;simp
  ·rw[if_neg h,a];simp[Ci h]
theorem aoV(L:List Int)(t:Int)(h:t ∉ L):cE (k:=.ib) (eR L) t true=eR (L++[t]):=by
 induction L with
 |nil=>rfl
 |cons x L a=>simp only[AB,not_or] at h;simp only[eR,A2,cE,AI] at a ⊢;rw[if_neg (Ci h.1),a h.2]
structure uK(t:ac):Prop where
 nf:t.fields.length<=8
 fn:∀f∈t.fields,f.name.length<=100
 nb:t.branches.length<=100
 ns:t.syms.length<=100
 size:0<=t.size∧t.size<=att
 nl:t.name.length<=5000
 sl:∀s∈t.syms,s.length<=100
def vQ(ts:List ac):Prop:=((0<ts.length∧ts.length<=60)∧∀t∈ts,uK t)∧(∀(i:Nat) t,ts[i]? =some t->aks ts i t)∧∃b,b<=xg∧ge ts 0 0 b
def LOK(ts:List ac)(L:List Int):Prop:=L.Nodup∧∀t∈L,0<=t∧t<(ts.length:Int)
theorem aoW:∀(n:Nat)(L:List Nat),L.Nodup->(∀t∈L,t<n)->L.length<=n
 |0,[],_,_=>Ar _
 |0,t::_,_,h=>by have:=h t (AY ..);omega
 |n+1,L,a,h=>by
  have d:=aoW n (L.erase n) (a.erase n) λt b=>by
   have:=h t (List.mem_of_mem_erase b);have:t≠n:=λe=>by subst e;exact(a.not_mem_erase) b
   omega
  have:L.length<=(L.erase n).length+1:=by rw[List.length_erase];split<;>omega
  omega
theorem LOK.le{ts:List ac}{L:List Int}(h:LOK ts L):L.length<=ts.length:=by
 have:=aoW ts.length (L.map Ah) ?_ ?_;·simpa using this
 ·exact(List.pairwise_map.2 (List.Pairwise.imp_of_mem (λ{a b} g f (d:a≠b) e=>d (by have:=h.2 a g;have:=h.2 b f;omega)) h.1))
 ·intro t i;obtain⟨x,j,rfl⟩:=AG.1 i;have:=h.2 x j;omega
theorem LOK.snoc{ts:List ac}{L:List Int}{t:Int}(h:LOK ts L)(g:t ∉ L)(j:0<=t)(k:t<(ts.length:Int)):LOK ts (L++[t]):=by
 refine⟨D2.2 ⟨h.1,CV.2 ⟨by simp,BY⟩,λa i b f=>?_⟩,λx d=>?_⟩
 ·simp at f;subst f
  exactλe=>g (e▸i)
 ·rcases Az.1 d with d|d;·exact h.2 x d
  ·simp at d;subst d;exact⟨j,k⟩
theorem ak3{ts:List ac}{t k:Int}(b:0<=t)(h:(tyA ts t).kind=k)(d:0<k):t<(ts.length:Int):=by
 rcases AH t.toNat ts.length with a|a;·omega
 ·have:(tyA ts t).kind=0:=by
   unfold tyA;rw[Al,Ba a];rfl
  omega
theorem TR.keeps{ts:List ac}{w:Tk}{L g:List Int}{o:List aa}(h:TR ts w L o g):LOK ts L->LOK ts g∧∃M,g=L++M:=by
 induction h with
 |arr t L j g e h i=>exact i
 |map t L j g e h i=>exact i
 |uni t L o g e h i=>exact i
 |told t L e d=>exactλa=>⟨a,[],by simp⟩
 |fix t L e d=>exactλa=>⟨a.snoc d.2 d.1 (ak3 d.1 e (by omega)),_,rfl⟩
 |enum t L e d=>exactλa=>⟨a.snoc d.2 d.1 (ak3 d.1 e (by omega)),_,rfl⟩
 |rcd t L o g e d h i=>intro a;obtain⟨p,M,rfl⟩:=i (a.snoc d.2 d.1 (ak3 d.1 e (by omega)));exact⟨p,t::M,by simp⟩
 |prim t L e=>exactλa=>⟨a,[],by simp⟩
 |rnil L=>exactλa=>⟨a,[],by simp⟩
 |fnil L=>exactλa=>⟨a,[],by simp⟩
 |rcons b A L j x o v h y k m=>intro a;obtain⟨p,M,rfl⟩:=k a;obtain⟨u,q,rfl⟩:=m p;exact⟨u,M++q,by simp⟩
 |fcons f fs L j x o v h y k m=>intro a;obtain⟨p,M,rfl⟩:=k a;obtain⟨u,q,rfl⟩:=m p;exact⟨u,M++q,by simp⟩
theorem TR.snoc{ts:List ac}{b:Int}{f g:List Int}{j:aa}(e:TR ts (.node b) f [j] g):∀{d L:List Int}{a:List aa},TR ts (.row d) L a f->TR ts (.row (d++[b])) L (a++[j]) g
 | [],L,a,h=>by cases h;exact .rcons _ _ _ _ _ _ _ e (.rnil _)
 |c::d,L,a,h=>by
  cases h with
  |rcons _ _ _ o M i _ k m=>exact .rcons _ _ _ _ _ _ _ k (TR.snoc e m)
theorem TR.snocF{ts:List ac}{f:aZ}{d e:List Int}{j:aa}(b:TR ts (.node f.typ) d [j] e):∀{fs:List aZ}{L:List Int}{a:List aa},TR ts (.flds fs) L a d->TR ts (.flds (fs++[f])) L (a++[bK [bX,bb] [aA f.name,j]]) e
 | [],L,a,h=>by cases h;exact .fcons _ _ _ _ _ _ _ b (.fnil _)
 |c::o,L,a,h=>by
  cases h with
  |fcons _ _ _ m M g _ i k=>exact .fcons _ _ _ _ _ _ _ i (TR.snocF b k)
theorem aau{α:Type}{l:List α}{i:Int}(d:α)(h:0<=i∧i<(l.length:Int)):l.take (i+1).toNat=l.take i.toNat++[l.getD i.toNat d]:=by
 have a:i.toNat<l.length:=by omega
 rw[show (i+1).toNat=i.toNat+1 by omega,Bt,Al,Ab a];rfl
def ars(ts:List ac)(K:Nat):Prop:=∀(L:List Int)(t:Int)(n b:Nat),LOK ts L->ts.length<=L.length+K->ge ts n t b->∃r,av (eR L) ts t r
def avy(ts:List ac)(K:Nat):Prop:=∀(L:List Int)(k:ac),k∈ts->9<=k.kind∧k.kind<=11->LOK ts L->ts.length<=L.length+K->∃r,bh (eR L) ts k r
theorem agZ{ts:List ac}{L:List Int}{t:Int}{r:aa×List (Int×Bool)×List ac}(h:av (eR L) ts t r):∃a,r.2.1=eR a∧r.2.2=ts∧TR ts (.node t) L [r.1] a:=by obtain⟨-,a,d,e,b⟩:=h;rw[li] at b;exact⟨a,d,e,b⟩
theorem avz{ts:List ac}{L:List Int}{k:ac}{r:aa×List (Int×Bool)×List ac}(h:bh (eR L) ts k r):∃a,r.2.1=eR a∧r.2.2=ts∧aqZ ts k L r.1 a:=by obtain⟨-,a,d,e,b⟩:=h;rw[li] at b;exact⟨a,d,e,b⟩
theorem atM{ts:List ac}(hX:vQ ts){K:Nat}(hT:ars ts K):avy ts K:=by
 intro L k F a9 hL hK;obtain⟨⟨bx,Y⟩,hx, -⟩:=hX;have tk:=Y k F;apply adO 2000;unfold vq jj;dsimp only
 repeat' (first|(with_reducible refine ab ?_ ?_<;>(intro p;(try simp only[bnl] at p);(try revert p;intro _)))|with_reducible refine ct ?_ ?_|with_reducible refine am ?_|(refine ah (wS _) ?_;rintro _ ⟨-,rfl⟩;try dsimp only[gP,reJ])|(refine ah (aat _) ?_;rintro _ ⟨-,rfl⟩;try dsimp only)|(refine ah (yc _ _ _ _) ?_;rintro _ ⟨-,rfl⟩;try dsimp only)|fail)
 ·first|(simp only[bnl,lnl];done)|(simp only[bnl,lnl];omega)
 ·rename_i I;refine⟨bK [bX,bb,[115,105,122,101]] [aA k.name,aA (bE 11),.mk 3 k.size [] [] []],eR L,ts,_,?_,rfl,L,rfl,rfl,?_,?_,?_⟩;·simp only[I];rfl
  ·rw[li];exactλ_=>⟨rfl,rfl⟩
  ·intro h;omega
  ·intro h;omega
 ·rename_i E;have bn:=tk.ns
  refine ba (λx=>match x with|(d,O,J,C,N,a,G,q,W,P,y,w,u,o,j,g,e,m)=>d=k∧O=[[110,97,109,101],[116,121,112,101]]∧J=[115,121,109,98,111,108,115]∧C=k.syms∧N=k.syms.length∧(0<=a∧a<=k.syms.length)∧G=eR L∧q=ts∧o=5∧j=0∧g=[]∧e=(k.syms.take a.toNat).map aA∧m=[]) (λx=>((k.syms.length:Int)-x.2.2.2.2.2.1).toNat) ?_ _ _
   ⟨rfl,rfl,rfl,rfl,rfl,by omega,rfl,rfl,rfl,rfl,rfl,rfl,rfl⟩ (by simp only;omega)
  rintro A ⟨d,O,J,C,N,a,G,q,W,P,y,w,u,o,j,g,e,m⟩ ⟨rfl,rfl,rfl,rfl,rfl,⟨X,i2⟩,rfl,rfl,rfl,rfl,rfl,rfl,rfl⟩ D;unfold ku;dsimp only at D ⊢;have t:a<d.syms.length->IntKind.i64.wrap (a+1)=a+1:=λh=>ax (a+1) (by omega)
  have el:((d.syms.take a.toNat).map aA).length<=100:=by simp;omega
  repeat' (first|(with_reducible refine ab ?_ ?_<;>(intro p;(try simp only[bnl] at p);(try revert p;intro _)))|with_reducible refine ct ?_ ?_|with_reducible refine am ?_|(refine ah (wS _) ?_;rintro _ ⟨-,rfl⟩;try dsimp only[gP])|(refine ah (aat _) ?_;rintro _ ⟨-,rfl⟩;try dsimp only)|(refine ah (yc _ _ _ _) ?_;rintro _ ⟨-,rfl⟩;try dsimp only)|fail)
  ·first|(simp only[bnl,lnl];done)|(simp only[bnl,lnl];omega)
  ·simp only[bnl,Af,Ak];omega
  ·rename_i f;refine D _ ⟨rfl,rfl,rfl,rfl,rfl,by simp only[t f];omega,rfl,rfl,rfl,rfl,rfl,?_,rfl⟩ (by simp only[t f];omega);simp only[t f,cn];rw[aau (ao .str) ⟨X,f⟩,BF];rfl
  ·first|(simp only[bnl,lnl];done)|(simp only[bnl,lnl];omega)
  ·rename_i f;have:d.syms.take a.toNat=d.syms:=Bl (by omega);refine⟨bK [bX,bb,[115,121,109,98,111,108,115]] [aA d.name,aA (bE 10),cJ (d.syms.map aA)],eR L,q,_,?_,rfl,L,rfl,rfl,?_,?_,?_⟩;·rw[this];simp only[E,cn];rfl
   ·intro h;omega
   ·rw[li];exactλ_=>⟨rfl,rfl⟩
   ·intro h;omega
 ·rename_i I E;have a5:=tk.nf
  refine ba (λx=>match x with|(d,O,J,C,N,a,G,q,W,P,y,w,u,o,j,g,e,m)=>d=k∧O=[[110,97,109,101],[116,121,112,101]]∧J=[102,105,101,108,100,115]∧C=k.fields∧N=k.fields.length∧(0<=a∧a<=k.fields.length)∧q=ts∧o=5∧j=0∧g=[]∧e.length=a.toNat∧(∃Z,G=eR Z∧TR ts (.flds (k.fields.take a.toNat)) L e Z)∧m=[]) (λx=>((k.fields.length:Int)-x.2.2.2.2.2.1).toNat) ?_ _ _
   ⟨rfl,rfl,rfl,rfl,rfl,by omega,rfl,rfl,rfl,rfl,rfl,⟨L,rfl,.fnil L⟩,rfl⟩ (by simp only;omega)
  rintro A ⟨d,O,J,C,N,a,G,q,W,P,y,w,u,o,j,g,e,m⟩ ⟨rfl,rfl,rfl,rfl,rfl,⟨X,i2⟩,rfl,rfl,rfl,rfl,il,⟨H,rfl,B⟩,rfl⟩ D;unfold kw;dsimp only at D il B ⊢;have t:a<d.fields.length->IntKind.i64.wrap (a+1)=a+1:=λh=>ax (a+1) (by omega)
  have S:=(B.keeps hL).1;have bY:L.length<=H.length:=by obtain⟨M,rfl⟩:=(B.keeps hL).2;simp
  have v:a<d.fields.length->∃r,av (eR H) q (d.fields.getD a.toNat (ao .afield)).typ r:=by
   intro f;have h1:a.toNat<d.fields.length:=by omega
   obtain⟨i,R⟩:=BO F;have hm:d.fields.getD a.toNat (ao .afield)∈d.fields:=by rw[Al,Ab h1];exact Bf h1
   obtain⟨b,p,hB⟩:=hx i d R _ hm;exact hT H _ _ b S (by omega) hB
  repeat' (first|(with_reducible refine ab ?_ ?_<;>(intro p;(try simp only[bnl] at p);(try revert p;intro _)))|with_reducible refine ct ?_ ?_|with_reducible refine am ?_|(refine ah (wS _) ?_;rintro _ ⟨-,rfl⟩;try dsimp only[gP])|(refine ah (aat _) ?_;rintro _ ⟨-,rfl⟩;try dsimp only)|(refine ah (yc _ _ _ _) ?_;rintro _ ⟨-,rfl⟩;try dsimp only)|(refine ah (v (by omega)) ?_;intro r hr;obtain⟨L2,e1,e2,Q⟩:=agZ hr;try dsimp only)|fail)
  ·first|(simp only[bnl,lnl];done)|(simp only[bnl,lnl];omega)
  ·simp only[bnl,Af,Ak];omega
  ·have f:a<(d.fields.length:Int):=by assumption
   rw[e1,e2];refine D _ ⟨rfl,rfl,rfl,rfl,rfl,by simp only[t f];omega,rfl,rfl,rfl,rfl,by simp only[t f,Aj,Af,Ak];omega,⟨L2,rfl,?_⟩,rfl⟩ (by simp only[t f];omega);simp only[t f,cn];rw[aau (ao .afield) ⟨X,f⟩];exact TR.snocF Q B
  ·first|(simp only[bnl,lnl];done)|(simp only[bnl,lnl];omega)
  ·rename_i f;have:d.fields.take a.toNat=d.fields:=Bl (by omega);rw[this] at B;refine⟨bK [bX,bb,[102,105,101,108,100,115]] [aA d.name,aA (bE 9),cJ e],eR H,q,_,?_,rfl,H,rfl,rfl,?_,?_,?_⟩
   ·have h9:d.kind=9:=by omega
    simp only[h9,cn];rfl
   ·intro h;omega
   ·intro h;omega
   ·rw[li];exactλ_=>⟨_,B,rfl⟩
theorem art{ts:List ac}{i:Int}{t:ac}(a:0<=i)(h:ts[i.toNat]? =some t):ixl i ts=true∧ts.getD i.toNat (ao .atype)=t:=by have:=(Ad.1 h).1;refine⟨ixt (by omega),o9 h⟩
theorem aru(j:aa):V.agg [V.int .i64 j.kind,V.int .i64 j.n,V.str j.s,V.sl .jnode (.may false) j.l,V.sl .str (.may false) j.names]=V.agg (enc .jnode j):=by cases j;rfl
theorem ajB{ts:List ac}(hX:vQ ts){K:Nat}(hO:∀K',K'+1=K->avy ts K'):ars ts K:=by
 intro L t n b X hK hB;have Y:=hX.1.2;induction hB generalizing L with
 |leaf i t u h hk=>
  obtain⟨B,g⟩:=art u h;have a:tyA ts i=t:=g;have br:=(Ad.1 h).1;have J:t∈ts:=Am h;apply nB 2000;unfold kr dQ;dsimp only;rw[g,atL];have done:∀(r:aa×List (Int×Bool)×List ac)(C:9<=t.kind∧t.kind<=11)(o:i ∉ L),(∃m,r.2.1=eR m∧r.2.2=ts∧aqZ ts t (L++[i]) r.1 m)->fv (eR L) ts i r:=by
   rintro r C o ⟨m,D,H,e3,e4,e5⟩;refine⟨m,D,H,?_⟩;rw[li];by_cases N:t.kind=11;·obtain⟨rfl,e⟩:=e3 N;rw[e,<-a];exact .fix i L (by rw[a];exact N) ⟨u,o⟩
   by_cases Q:t.kind=10;·obtain⟨rfl,e⟩:=e4 Q;rw[e,<-a];exact .enum i L (by rw[a];exact Q) ⟨u,o⟩
   have h9:t.kind=9:=by omega
   obtain⟨js,y,e⟩:=e5 h9;rw[e,<-a];exact .rcd i L js m (by rw[a];exact h9) ⟨u,o⟩ (by rw[a];exact y)
  have own:9<=t.kind∧t.kind<=11->i ∉ L->∃r,bh (cE (k:=.ib) (eR L) i true) ts t r:=by intro C o;rw[aoV L i o];have P:=X.snoc o u (by omega);have:=P.le;simp only[Aj,Af,Ak] at this;exact hO (K-1) (by omega) _ t J C P (by simp only[Aj,Af,Ak];omega)
  have d:∀{r},i ∉ L->bh (cE (k:=.ib) (eR L) i true) ts t r->∃m,r.2.1=eR m∧r.2.2=ts∧aqZ ts t (L++[i]) r.1 m:=by intro r o f;rw[aoV L i o] at f;exact avz f
  have p:9<=t.kind∧t.kind<=11->i∈L->fv (eR L) ts i (aA t.name,eR L,ts):=by intro C o;refine⟨L,rfl,rfl,?_⟩;rw[li,<-a];exact .told i L (by rw[a];exact C) o
  have R:t.kind<=8->fv (eR L) ts i (aA (bE t.kind),eR L,ts):=by intro C;refine⟨L,rfl,rfl,?_⟩;rw[li,<-a];exact .prim i L (by rw[a];exact C)
  repeat' (first|(with_reducible refine ab ?_ ?_<;>(intro j;(try simp only[bnl] at j);(try revert j;intro _)))|with_reducible refine ct ?_ ?_|with_reducible refine am ?_|(refine ah (wS _) ?_;rintro _ ⟨-,rfl⟩;try dsimp only[gP])|(refine ah (aat _) ?_;rintro _ ⟨-,rfl⟩;try dsimp only)|(refine ah (own (by omega) (by assumption)) ?_;intro r f;try dsimp only)|fail)
  ·exact B
  all_goals first|omega|skip
  ·exact⟨aA t.name,_,_,_,rfl,rfl,p (by omega) (by assumption)⟩
  ·rename_i r f;exact⟨r.1,_,_,_,congrArg V.dimR (aru r.1),rfl,done r (by omega) (by assumption) (d (by assumption) f)⟩
  ·exact⟨aA t.name,_,_,_,rfl,rfl,p (by omega) (by assumption)⟩
  ·rename_i r f;exact⟨r.1,_,_,_,congrArg V.dimR (aru r.1),rfl,done r (by omega) (by assumption) (d (by assumption) f)⟩
  ·exact⟨aA t.name,_,_,_,rfl,rfl,p (by omega) (by assumption)⟩
  ·rename_i r f;exact⟨r.1,_,_,_,congrArg V.dimR (aru r.1),rfl,done r (by omega) (by assumption) (d (by assumption) f)⟩
  ·exact⟨aA (bE t.kind),_,_,_,rfl,rfl,R (by omega)⟩
 |arr i t b u hn h hk f Z=>
  obtain⟨B,g⟩:=art u h;have a:tyA ts i=t:=g;apply nB 2000;unfold kr dQ;dsimp only;rw[g]
  repeat' (first|(with_reducible refine ab ?_ ?_<;>(intro j;(try simp only[bnl] at j);(try revert j;intro _)))|with_reducible refine ct ?_ ?_|with_reducible refine am ?_|(refine ah (wS _) ?_;rintro _ ⟨-,rfl⟩;try dsimp only[gP])|(refine ah (yc _ _ _ _) ?_;rintro _ ⟨-,rfl⟩;try dsimp only)|(refine ah (Z L X hK) ?_;intro r f;obtain⟨F,D,H,v⟩:=agZ f;try dsimp only)|fail)
  ·exact B
  all_goals first|omega|skip
  ·rename_i bl _;refine⟨bK [bb,[105,116,101,109,115]] [aA [97,114,114,97,121],r.1],_,_,_,by rw[cn,cn];rfl,rfl,F,D,H,?_⟩;rw[li];exact .arr i L r.1 F (by rw[a];assumption) (by rw[a];exact v)
  ·refine⟨bK [bb,[118,97,108,117,101,115]] [aA [109,97,112],r.1],_,_,_,by rw[cn,cn];rfl,rfl,F,D,H,?_⟩;rw[li];exact .map i L r.1 F (by rw[a];assumption) (by rw[a];exact v)
 |uni i t w u hn h hk f Z=>
  obtain⟨B,g⟩:=art u h;have a:tyA ts i=t:=g;have a5:=(Y t (Am h)).nb;apply nB 2000;unfold kr dQ;dsimp only;rw[g]
  repeat' (first|(with_reducible refine ab ?_ ?_<;>(intro j;(try simp only[bnl] at j);(try revert j;intro _)))|with_reducible refine ct ?_ ?_|with_reducible refine am ?_|fail)
  ·exact B
  all_goals first|omega|skip
  refine ba (λx=>match x with|(x0,B,g,a,x4,x5,x6,x7,x8,x9,ad,a1,al,O,an)=>x0=t.branches∧B=t.branches.length∧(0<=g∧g<=t.branches.length)∧x4=ts∧ad=5∧a1=0∧al=[]∧O.length=g.toNat∧(∃m,a=eR m∧TR ts (.row (t.branches.take g.toNat)) L O m)∧an=[]) (λx=>((t.branches.length:Int)-x.2.2.1).toNat) ?_ _ _
   ⟨rfl,rfl,by omega,rfl,rfl,rfl,rfl,rfl,⟨L,rfl,.rnil L⟩,rfl⟩ (by simp only;omega)
  rintro ar ⟨y0,y1,q,y3,y4,y5,y6,y7,y8,y9,bY,b0,b4,I,cd⟩ ⟨rfl,rfl,⟨i1,i2⟩,rfl,rfl,rfl,rfl,il,⟨G,rfl,y⟩,rfl⟩ S;unfold j6;dsimp only at S il y ⊢;have W:q<t.branches.length->IntKind.i64.wrap (q+1)=q+1:=λh=>ax (q+1) (by omega)
  have a0:=(y.keeps X).1;have cy:L.length<=G.length:=by obtain⟨M,rfl⟩:=(y.keeps X).2;simp
  have A:q<t.branches.length->∃r,av (eR G) y4 (t.branches.getD q.toNat (ao (.num .i64))) r:=by
   intro E;have h1:q.toNat<t.branches.length:=by omega
   exact Z q.toNat _ (by rw[Al,Ab h1];rfl) G a0 (by omega)
  repeat' (first|(with_reducible refine ab ?_ ?_<;>(intro j;(try simp only[bnl] at j);(try revert j;intro _)))|with_reducible refine ct ?_ ?_|with_reducible refine am ?_|(refine ah (A (by omega)) ?_;intro r f;obtain⟨F,D,H,v⟩:=agZ f;try dsimp only)|fail)
  ·first|(simp only[bnl,lnl];done)|(simp only[bnl,lnl];omega)
  ·simp only[bnl,Af,Ak];omega
  ·have E:q<(t.branches.length:Int):=by assumption
   rw[D,H];refine S _ ⟨rfl,rfl,by simp only[W E];omega,rfl,rfl,rfl,rfl,by simp only[W E,Aj,Af,Ak];omega,⟨F,rfl,?_⟩,rfl⟩ (by simp only[W E];omega);simp only[W E,cn];rw[aau (ao (.num .i64)) ⟨i1,E⟩];exact TR.snoc v y
  ·have:t.branches.take q.toNat=t.branches:=Bl (by omega);rw[this] at y;refine⟨cJ I,eR G,y4,_,rfl,rfl,G,rfl,rfl,?_⟩;rw[li];exact .uni i L I G (by rw[a];exact hk) (by rw[a];exact y)
theorem al8{ts:List ac}(a:vQ ts):∀K,ars ts K
 |0=>ajB a λb h=>by omega
 |K+1=>ajB a λb h=>by
  obtain rfl:b=K:=by omega
  exact atM a (al8 a b)
end Go.Proofs.YtkinflmjagfapaaDoor
namespace Go.Proofs
open Go.AM
section
open Go.Shelf
def Tryd.lays156_ren:Go.Shelf.Ren:=⟨λ|156=>55|165=>92|166=>90|169=>91|240=>109|241=>111|276=>129|277=>131|n=>n,λ|31=>31|9=>9|3=>3|4=>4|0=>0|20=>20|72=>122|76=>126|70=>120|37=>22|75=>124|127=>141|164=>155|5=>5|80=>104|n=>n,λ|n=>n⟩
theorem Tryd.lays156:Go.Proofs.Lays.n156 Tryd.prog Tryd.lays156_ren:={
 mixed:=by kernel_rfl
 f156:=Tryd.func55.trans (congrArg some (by kernel_rfl))
 f165:=Tryd.func92.trans (congrArg some (by kernel_rfl))
 f166:=Tryd.func90.trans (congrArg some (by kernel_rfl))
 f169:=Tryd.func91.trans (congrArg some (by kernel_rfl))
 f240:=Tryd.func109.trans (congrArg some (by kernel_rfl))
 f241:=Tryd.func111.trans (congrArg some (by kernel_rfl))
 f276:=Tryd.func129.trans (congrArg some (by kernel_rfl))
 f277:=Tryd.func131.trans (congrArg some (by kernel_rfl))
 t0:=Tryd.underlying0
 a0:=Tryd.isAgg0
 z0:=Tryd.sizeOf0
 v0:=Tryd.zeroValue0
 t3:=Tryd.underlying3
 a3:=Tryd.isAgg3
 z3:=Tryd.sizeOf3
 v3:=Tryd.zeroValue3
 t4:=Tryd.underlying4
 a4:=Tryd.isAgg4
 z4:=Tryd.sizeOf4
 v4:=Tryd.zeroValue4
 t9:=Tryd.underlying9
 a9:=Tryd.isAgg9
 z9:=Tryd.sizeOf9
 v9:=Tryd.zeroValue9
 t20:=Tryd.underlying20
 a20:=Tryd.isAgg20
 z20:=Tryd.sizeOf20
 v20:=Tryd.zeroValue20
 t31:=Tryd.underlying31
 a31:=Tryd.isAgg31
 z31:=Tryd.sizeOf31
 v31:=Tryd.zeroValue31
 t37:=Tryd.underlying22
 a37:=Tryd.isAgg22
 z37:=Tryd.sizeOf22
 v37:=Tryd.zeroValue22
 t70:=Tryd.underlying120
 a70:=Tryd.isAgg120
 z70:=Tryd.sizeOf120
 v70:=Tryd.zeroValue120
 t72:=Tryd.underlying122
 a72:=Tryd.isAgg122
 z72:=Tryd.sizeOf122
 v72:=Tryd.zeroValue122
 t75:=Tryd.underlying124
 a75:=Tryd.isAgg124
 z75:=Tryd.sizeOf124
 v75:=Tryd.zeroValue124
 t76:=Tryd.underlying126
 a76:=Tryd.isAgg126
 z76:=Tryd.sizeOf126
 v76:=Tryd.zeroValue126
 t127:=Tryd.underlying141
 a127:=Tryd.isAgg141
 z127:=Tryd.sizeOf141
 v127:=Tryd.zeroValue141
 t164:=Tryd.underlying155
 a164:=Tryd.isAgg155
 z164:=Tryd.sizeOf155
 v164:=Tryd.zeroValue155}
theorem Tryd.Builder_Extra_156:Builder.Extra Tryd.prog Tryd.lays156_ren:={
 sizeBuilder:=by kernel_rfl
 liesBuilder:=by kernel_rfl
 t5:=Tryd.underlying5
 a5:=Tryd.isAgg5
 z5:=Tryd.sizeOf5
 v5:=Tryd.zeroValue5
 infoByte:=by kernel_rfl
 cellsByte:=by kernel_rfl
 sizeByte:=by kernel_rfl
 neB5:=by decide}
end
end Go.Proofs
namespace Go.Proofs.YtkinflmjagfapaaDoor
open Go.AM
section
open Go.AM Go.RowKit
theorem ajC{P:Program}{f:FuncId}{vs:List V}{l:List UInt8}(h:∀(w:World)(I:Nat->Nat->Prop)(ρ:Nat->Nat)(a:Array Value),(nR≠[]->∃t,w.heap[tR]? =some (.cells nR.toArray t (0,0)))->vs.length=a.size->
  (∀(i:Nat) x cv,vs[i]? =some x->a[i]? =some cv->VRel I ρ 0 w x cv)->Calls P f a w λe w'=>e=.returned (.string ⟨l.toArray⟩)∧Below w.heap.size w w') (B:l.length<=9223372036854775807):aF P f vs (.str l):=by
 refine⟨[],λw g a y u C q m=>(h w g.I g.ρ a (λA=>(y.2 A).2.2.2) C m).mono ?_⟩;rintro e w' ⟨rfl,k⟩;have d:∀b j,g.I b j->w'.cell? ⟨b,j,none⟩=w.cell? ⟨b,j,none⟩:=by intro b j p;obtain⟨v,D⟩:=Bz.1 (u.exI b j p).1;simp only[Bv,k.block b (C8 _ _ D)]
 refine⟨_,g,rfl,⟨by simp,by simp,by simp,by simp,λb j p=>⟨by rw[d b j p];exact(u.exI b j p).1,λz _=>(show False from z).elim⟩,λb o q=>AE (u.oLt b o q) k.size⟩,
  ⟨rfl,k.os,k.tape,k.output,k.size,λb q _ _=>k.block b q,⟨λ_ _ h=>h,d,λ_ _=>rfl,Ar _⟩,λ_ _ _ _ _ h=>h,λ_ _ _ h=>h,by simp⟩,.str _ _ (by simp) ?_,by simp[ap]⟩
 show l.toArray.size<=_;simpa [dc] using B
theorem aoX{s:ByteArray}{l:List UInt8}(h:s.data.toList=l):s=⟨l.toArray⟩:=by subst h;simp
theorem asB(xs:List (List UInt8))(sep:List UInt8)(O:xs.length<=140737488355328)(J:(eQ sep xs).length<=140737488355328):aF Tryd.prog vD [.sl .str (.may false) xs,.str sep] (.str (eQ sep xs)):=by
 refine ajC ?_ (by omega);intro w I ρ i _ G m;obtain⟨o,q,rfl⟩:∃o q,i= #[o,q]:=by
  rcases i with⟨l⟩
  match l,G with
  | [o,q],_=>exact⟨o,q,rfl⟩
 have M:=m 0 _ o rfl rfl;have L:=m 1 _ q rfl rfl;cases L with
 |str _ s B _=>
 obtain rfl:=aoX B;have d:∀(a:Option Addr)(c:Nat),xs=[]->Calls Tryd.prog vD #[.slice a 0 c,.string ⟨sep.toArray⟩] w λe w'=>e=.returned (.string ⟨(eQ sep xs).toArray⟩)∧Below w.heap.size w w':=by rintro a c rfl;refine(Any.strings_Join_none Tryd.lays156 Tryd.Builder_Extra_156 a c ⟨sep.toArray⟩ w).mono ?_;rintro e w' ⟨A,rfl⟩;exact⟨by rw[A];rfl,Below.refl _ _⟩
 cases M with
 |sln=>exact d _ _ rfl
 |sle=>exact d _ _ rfl
 |sl _ _ _ b h len cap E Q S W f R F P=>
  cases xs with
  |nil=>obtain rfl:0=len:=E;exact d _ _ rfl
  |cons x r=>
   have g:∀(j:Nat) y,(x::r)[j]? =some y->w.cell? ⟨b,h+j,none⟩=some (.string ⟨y.toArray⟩):=by
    intro j y p;have D:=F j y 0 p (by show 0<1;omega);have C:=P j y 0 (.str y) p rfl;rw[show h+j*EK.sz .str+0=h+j from by show h+j*1+0=_;omega] at D;rw[D];generalize f j 0=u at C;cases C with
    |str _ s B _=>rw[aoX B]
   have v:=C8 _ _ (g 0 x rfl);subst E;have k:((x::r).map λy=>(⟨y.toArray⟩:ByteArray)).map (·.data.toList)=x::r:=by
    rw[Cg];have:((λs:ByteArray=>s.data.toList)∘λy:List UInt8=>(⟨y.toArray⟩:ByteArray))=id:=by funext y;simp
    rw[this,List.map_id]
   have:=Any.strings_Join Tryd.lays156 Tryd.Builder_Extra_156 b h cap ((x::r).map λy=>⟨y.toArray⟩) ⟨sep.toArray⟩ w (by intro j y p;rw[AA,Aq] at p;obtain⟨N,t,rfl⟩:=p;exact g j N t) v (by rw[A6];exact O) (by rw[A6];exact Q) (by rw[k];simpa [eQ] using J);rw[k,A6] at this;exact this.mono λe w' ⟨A,H⟩=>⟨by rw[A];simp[eQ],H⟩
theorem al9(xs:List (List UInt8))(sep:List UInt8)(b:xs.length<=140737488355328)(a:(eQ sep xs).length<=140737488355328):∃r,nk xs sep r:=⟨_,asB xs sep b a,rfl⟩
end
end Go.Proofs.YtkinflmjagfapaaDoor
namespace Go.Proofs
open Go.AM
section
open Go.Shelf
def Tryd.lays173_ren:Go.Shelf.Ren:=⟨λ|173=>53|246=>87|283=>105|284=>106|285=>107|286=>108|129=>125|317=>124|318=>126|319=>127|320=>128|337=>143|338=>144|n=>n,λ|2=>2|3=>3|9=>9|4=>4|171=>136|0=>0|53=>39|37=>22|5=>5|173=>139|212=>150|51=>151|20=>20|213=>152|46=>103|232=>172|233=>173|n=>n,λ|17=>1|18=>2|19=>3|n=>n⟩
theorem Tryd.lays173:Go.Proofs.LaysM.n173 Tryd.prog Tryd.lays173_ren:={
 mixed:=by kernel_rfl
 f129:=Tryd.func125.trans (congrArg some (by kernel_rfl))
 f173:=Tryd.func53.trans (congrArg some (by kernel_rfl))
 f246:=Tryd.func87.trans (congrArg some (by kernel_rfl))
 f283:=Tryd.func105.trans (congrArg some (by kernel_rfl))
 f284:=Tryd.func106.trans (congrArg some (by kernel_rfl))
 f285:=Tryd.func107.trans (congrArg some (by kernel_rfl))
 f286:=Tryd.func108.trans (congrArg some (by kernel_rfl))
 f317:=Tryd.func124.trans (congrArg some (by kernel_rfl))
 f318:=Tryd.func126.trans (congrArg some (by kernel_rfl))
 f319:=Tryd.func127.trans (congrArg some (by kernel_rfl))
 f320:=Tryd.func128.trans (congrArg some (by kernel_rfl))
 f337:=Tryd.func143.trans (congrArg some (by kernel_rfl))
 f338:=Tryd.func144.trans (congrArg some (by kernel_rfl))
 t0:=Tryd.underlying0
 a0:=Tryd.isAgg0
 z0:=Tryd.sizeOf0
 v0:=Tryd.zeroValue0
 t2:=Tryd.underlying2
 a2:=Tryd.isAgg2
 z2:=Tryd.sizeOf2
 v2:=Tryd.zeroValue2
 t3:=Tryd.underlying3
 a3:=Tryd.isAgg3
 z3:=Tryd.sizeOf3
 v3:=Tryd.zeroValue3
 t4:=Tryd.underlying4
 a4:=Tryd.isAgg4
 z4:=Tryd.sizeOf4
 v4:=Tryd.zeroValue4
 t5:=Tryd.underlying5
 a5:=Tryd.isAgg5
 z5:=Tryd.sizeOf5
 v5:=Tryd.zeroValue5
 t9:=Tryd.underlying9
 a9:=Tryd.isAgg9
 z9:=Tryd.sizeOf9
 v9:=Tryd.zeroValue9
 t20:=Tryd.underlying20
 a20:=Tryd.isAgg20
 z20:=Tryd.sizeOf20
 v20:=Tryd.zeroValue20
 t37:=Tryd.underlying22
 a37:=Tryd.isAgg22
 z37:=Tryd.sizeOf22
 v37:=Tryd.zeroValue22
 t46:=Tryd.underlying103
 a46:=Tryd.isAgg103
 z46:=Tryd.sizeOf103
 v46:=Tryd.zeroValue103
 t51:=Tryd.underlying151
 a51:=Tryd.isAgg151
 z51:=Tryd.sizeOf151
 v51:=Tryd.zeroValue151
 t53:=Tryd.underlying39
 a53:=Tryd.isAgg39
 z53:=Tryd.sizeOf39
 v53:=Tryd.zeroValue39
 t171:=Tryd.underlying136
 a171:=Tryd.isAgg136
 z171:=Tryd.sizeOf136
 v171:=Tryd.zeroValue136
 t173:=Tryd.underlying139
 a173:=Tryd.isAgg139
 z173:=Tryd.sizeOf139
 v173:=Tryd.zeroValue139
 t212:=Tryd.underlying150
 a212:=Tryd.isAgg150
 z212:=Tryd.sizeOf150
 v212:=Tryd.zeroValue150
 t213:=Tryd.underlying152
 a213:=Tryd.isAgg152
 z213:=Tryd.sizeOf152
 t232:=Tryd.underlying172
 a232:=Tryd.isAgg172
 z232:=Tryd.sizeOf172
 v232:=Tryd.zeroValue172
 t233:=Tryd.underlying173
 a233:=Tryd.isAgg173
 z233:=Tryd.sizeOf173
 v233:=Tryd.zeroValue173
 g17:=by kernel_rfl
 g18:=by kernel_rfl
 g19:=by kernel_rfl
 i0:=by kernel_rfl
 i2:=by kernel_rfl
 i3:=by kernel_rfl
 i4:=by kernel_rfl
 i5:=by kernel_rfl
 i9:=by kernel_rfl
 i20:=by kernel_rfl
 i37:=by kernel_rfl
 i46:=by kernel_rfl
 i51:=by kernel_rfl
 i53:=by kernel_rfl
 i171:=by kernel_rfl
 i173:=by kernel_rfl
 i212:=by kernel_rfl
 i232:=by kernel_rfl
 i233:=by kernel_rfl
 m17:=by kernel_rfl
 m18:=by kernel_rfl
 m19:=by kernel_rfl}
end
end Go.Proofs
namespace Go.Proofs.YtkinflmjagfapaaDoor
open Go.AM
section
open Go.AM Go.RowKit
theorem arv:(AU 256).all (λi=>Cs (Go.Lib.decDigits i).length 3)=true:=by kernel_rfl
theorem agq{n:Int}(h:0<=n∧n<=255):(Go.Lib.decDigits n.toNat).length<=3:=by have:=Ap.1 arv n.toNat (AZ.2 (by omega));simpa using this
theorem atN(n:Int)(h:0<=n):Go.Lib.itoa n=Go.Lib.decDigits n.toNat:=by unfold Go.Lib.itoa;rw[if_neg (by omega)]
theorem anb(n:Int)(h:0<=n∧n<=255):∃r,lw n 10 r:=by
 refine⟨Go.Lib.decDigits n.toNat,ajC (λw I ρ a i m b=>?_) (by have:=agq h;omega),rfl⟩;obtain⟨f,d,rfl⟩:∃f d,a= #[f,d]:=by
  rcases a with⟨l⟩
  match l,m with
  | [f,d],_=>exact⟨f,d,rfl⟩
 have q:=b 0 _ f rfl rfl;have p:=b 1 _ d rfl rfl;cases q;cases p;have j:Go.Lib.TabIs Tryd.prog w "internal/strconv.uint64pow10" .u64 Go.Lib.pow10Tab:=by obtain⟨t,i⟩:=i (by simp[nR,Go.Lib.pow10Tab]);unfold Go.Lib.TabIs World.var?;rw[Tryd.lays173.m17];have e:w.heap[Tryd.lays173_ren.g 17]? =some (.cells nR.toArray t (0,0)):=i;simp only[Option.bind_some,e];rfl
 refine(Any.strconv_FormatInt_10 Tryd.lays173 n (by omega) (by omega) w j).mono ?_;rintro e w' ⟨o,k,u,rfl⟩;exact⟨by rw[o,atN n h.1],Go.Lib.below_grow _ _ (Ar _) _ _⟩
end
theorem asC(b:Bool):∃r,gW b r:=by
 apply aa8 1;unfold tt tq;refine ah ?_ ?_
 ·apply tO 1;unfold ma l9;cases b;·exact am ⟨_,_,rfl,rfl,rfl⟩
  ·exact am ⟨_,_,rfl,rfl,rfl⟩
 ·rintro _ ⟨-,rfl⟩;exact am ⟨_,_,rfl,rfl,rfl⟩
theorem ajD(s:List UInt8)(h:s.length<=10000):∃r,oL s r:=⟨_,arh s h,rfl⟩
abbrev arw:Nat:=100000000000000
mutual
def xn:aa->Prop
 | .mk k n s l names=>(k=3->0<=n∧n<=255)∧(k=4->s.length<=10000)∧(k=5∨k=6->l.length<=1000∧mb l)∧(k=6->names.length=l.length∧0<l.length∧∀x∈names,x.length<=10)
def mb:List aa->Prop
 | []=>True
 |c::l=>xn c∧mb l
end
theorem jJ:∀l:List aa,bR l=l.map aw
 | []=>rfl
 |c::l=>by simp[bR,jJ l]
theorem ama:∀{l:List aa}{c:aa},mb l->c∈l->xn c
 |d::l,c,h,a=>by
  unfold mb at h;rcases AB.1 a with rfl|a;·exact h.1
  ·exact ama h.2 a
theorem amb{sep:List UInt8}:∀{xs:List (List UInt8)}{x:List UInt8},x∈xs->x.length<=(eQ sep xs).length
 |y::r,x,h=>by
  unfold eQ;rw[Go.Lib.join_cons];rcases AB.1 h with rfl|h;·simp
  ·have:∀{r:List (List UInt8)},x∈r->x.length<=(Go.Lib.joinTail sep r).length:=by
    intro r;induction r with
    |nil=>simp
    |cons z r a=>
     intro h;unfold Go.Lib.joinTail at a ⊢;simp only[A2,Dc,Aj] at a ⊢;rcases AB.1 h with rfl|h;·omega
     ·have:=a h;omega
   have:=this h;simp only[Aj];omega
theorem ahH(l:List aa)(q:l.length<=1000)(h:∀c∈l,∃r,gV c r):∃r,kM l r:=by
 apply aim 2000;unfold aas l8;dsimp only;refine ba (λx=>match x with|(k,b,j,a)=>k=bR (l.take a.toNat)∧b=l∧j=l.length∧(0<=a∧a<=l.length)) (λx=>((l.length:Int)-x.2.2.2).toNat) ?_ _ _ ⟨rfl,rfl,rfl,by omega⟩ (by simp only;omega);rintro f ⟨k,b,j,a⟩ ⟨rfl,rfl,rfl,p,u⟩ i;unfold og;dsimp only at i ⊢;have e:a<b.length->IntKind.i64.wrap (a+1)=a+1:=λh=>ax (a+1) (by omega)
 have t:(bR (b.take a.toNat)).length<=1000:=by rw[jJ];simp;omega
 have o:a<b.length->∃r,gV (b.getD a.toNat (ao .jnode)) r:=λd=>h _ (by rw[Al,Ab (show a.toNat<b.length by omega)];exact Bf _)
 have m:∀c:aa,aa.mk c.kind c.n c.s c.l c.names=c:=λc=>by cases c;rfl
 simp only[m]
 repeat' (first|(with_reducible refine ab ?_ ?_<;>(intro g;(try simp only[bnl] at g);(try revert g;intro _)))|with_reducible refine ct ?_ ?_|with_reducible refine am ?_|(refine ah (o (by omega)) ?_;rintro _ ⟨-,rfl⟩;try dsimp only)|fail)
 ·first|(simp only[bnl,lnl];done)|(simp only[bnl,lnl];omega)
 ·simp only[bnl,Af,Ak];omega
 ·have d:a<(b.length:Int):=by assumption
  refine i _ ⟨?_,rfl,rfl,by simp only[e d];omega⟩ (by simp only[e d];omega);simp only[e d];rw[aau (ao .jnode) ⟨p,d⟩,jJ,jJ,BF];rfl
 ·have:b.take a.toNat=b:=Bl (by omega);rw[this];exact⟨_,_,rfl,rfl,rfl⟩
theorem eV(s:List UInt8):(aX s).length<=6*s.length+2:=by
 have:(s.flatMap jd).length<=6*s.length:=by
  induction s with
  |nil=>simp
  |cons c s a=>have:=ado c;simp only[BC,Aj,Af];omega
 simp only[aX,Aj,Af,Ak];omega
abbrev sD(n t:List UInt8):List UInt8:=aX n++58::t
def rB(names ts:List (List UInt8))(i:Nat):List (List UInt8):=B6 sD (names.take i) (ts.take i)++ts.drop i
theorem atO{names ts:List (List UInt8)}(h:names.length=ts.length)(i:Nat):(rB names ts i).length=ts.length:=by simp only[rB,Aj,CU,BI,BH];omega
theorem aoY{names ts:List (List UInt8)}(h:names.length=ts.length){i:Nat}(a:i<ts.length)(d:List UInt8):(rB names ts i).getD i d=ts[i]:=by
 have b:(B6 sD (names.take i) (ts.take i)).length=i:=by simp only[CU,BI];omega
 rw[Al,rB,Av (by omega),b,Cf,Bo,B5,Ab a];rfl
theorem atP{names ts:List (List UInt8)}(h:names.length=ts.length){i:Nat}(a:i<ts.length):(rB names ts i).set i (sD (names[i]'(by omega)) ts[i])=rB names ts (i+1):=by
 have b:(B6 sD (names.take i) (ts.take i)).length=i:=by simp only[CU,BI];omega
 rw[rB,List.set_append_right _ _ (by omega),b,Cf,AK a,CA,rB,Bt,Bt,Ab a,Ab (show i<names.length by omega)];simp only[Option.toList];rw[List.zipWith_append (by simp only[BI];omega)];simp
theorem atQ{names ts:List (List UInt8)}(h:names.length=ts.length):rB names ts ts.length=B6 sD names ts:=by rw[rB,By,BL,BM,<-h,BM]
theorem aoZ{k n:Int}{s:List UInt8}{l:List aa}{names:List (List UInt8)}(d:k=5∨k=6)(b:k=6->names.length=l.length){c:aa}(g:c∈l):(aw c).length<=(aw (.mk k n s l names)).length:=by
 have a:aw c∈bR l:=by rw[jJ];exact CT g
 rcases d with rfl|rfl;·have:=amb (sep:=[44]) a;simp only[aw];simp;omega
 ·have b:=b rfl;obtain⟨i,j,f⟩:=A0.1 a;have m:(bR l).length=l.length:=by rw[jJ,A6]
  have h:sD (names[i]'(by omega)) (bR l)[i]∈B6 sD names (bR l):=by rw[A0];exact⟨i,by simp only[CU];omega,by rw[List.getElem_zipWith]⟩
  have:=amb (sep:=[44]) h;rw[f] at this;simp only[sD,Aj,Af] at this;have e:aw (.mk 6 n s l names)=123::(eQ [44] (B6 sD names (bR l))++[125]):=by simp only[aw];simp
  rw[e];simp only[Af,Aj,Ak];omega
theorem amc:(j:aa)->xn j->(aw j).length<=arw->∃r,gV j r
 | .mk k n s l names,hp,m=>by
   unfold xn at hp;obtain⟨Y,p4,N,B⟩:=hp;have kids:(k=5∨k=6)->∀c∈l,∃r,gV c r:=λO c w=>amc c (ama (N O).2 w) (AR (aoZ O (λh=>(B h).1) w) m)
   obtain⟨j,d⟩:∃j,aa.mk k n s l names=j:=⟨_,rfl⟩
   have Z:j.kind=k:=by rw[<-d];rfl
   have X:j.n=n:=by rw[<-d];rfl
   have es:j.s=s:=by rw[<-d];rfl
   have E:j.l=l:=by rw[<-d];rfl
   have q:j.names=names:=by rw[<-d];rfl
   rw[d];apply akZ 2000;unfold aex oQ;simp only[Z,X,es,E,q];have t:k=6->¬(names.length:Int)<(l.length:Int):=λh=>by have:=(B h).1;omega
   have m:(aw (.mk k n s l names)).length<=100000000000000:=m
   repeat' (first|(with_reducible refine ab ?_ ?_<;>(intro g;(try simp only[bnl] at g);(try revert g;intro _)))|with_reducible refine ct ?_ ?_|with_reducible refine am ?_|(refine ah (asC _) ?_;rintro _ ⟨-,rfl⟩;try dsimp only)|(refine ah (anb _ (Y (by assumption))) ?_;rintro _ ⟨-,rfl⟩;try dsimp only)|(refine ah (ajD _ (p4 (by assumption))) ?_;rintro _ ⟨-,rfl⟩;try dsimp only)|fail)
   ·exact⟨_,_,rfl,rfl,by subst d;simp only[fh,aw];rw[if_pos (by assumption)]⟩
   ·exact⟨_,_,rfl,rfl,by subst d;simp only[fh,aw];rw[if_neg (by omega),if_pos (by omega)]⟩
   ·exact⟨_,_,rfl,rfl,by subst d;simp only[fh,aw];rw[if_neg (by omega),if_neg (by omega),if_pos (by omega)]⟩
   ·have G:k=5:=by assumption
    have p:aw (.mk k n s l names)=91::(eQ [44] (bR l)++[93]):=by simp only[aw];rw[if_neg (by omega),if_neg (by omega),if_neg (by omega),if_pos G]
    rw[p] at m;simp only[Af,Aj,Ak] at m;have A:=N (.inl G);refine ah (ahH l A.1 (kids (.inl G))) ?_;rintro _ ⟨-,rfl⟩;refine ah (al9 _ _ (by rw[jJ,A6];omega) (by omega)) ?_;rintro _ ⟨-,rfl⟩
    repeat' (first|(with_reducible refine ab ?_ ?_<;>(intro g;(try simp only[bnl] at g);(try revert g;intro _)))|with_reducible refine ct ?_ ?_|with_reducible refine am ?_|fail)
    ·first|(simp only[bnl,lnl];done)|(simp only[bnl,lnl];omega)
    ·first|(simp only[bnl,lnl];done)|(simp only[bnl,lnl];omega)
    ·exact⟨_,_,rfl,rfl,by simp only[fh];rw[<-d,p];rfl⟩
   ·have i:k=6:=by assumption
    rw[if_neg (t i)];simp
   ·have i:k=6:=by assumption
    rw[if_neg (t i),At,BM,Cc];have A:=N (.inr i);obtain⟨F,h0,D⟩:=B i;refine ah (ahH l A.1 (kids (.inr i))) ?_;rintro _ ⟨-,rfl⟩;have p:aw (.mk k n s l names)=123::(eQ [44] (B6 sD names (bR l))++[125]):=by simp only[aw];rw[if_neg (by omega),if_neg (by omega),if_neg (by omega),if_neg (by omega),if_pos i]
    have J:=m;rw[p] at m;simp only[Af,Aj,Ak] at m;have R:(bR l).length=l.length:=by rw[jJ,A6]
    have e:names.length=(bR l).length:=by omega
    rw[R];refine ba (λx=>match x with|(W,S,Q,a)=>W=j∧S=rB names (bR l) a.toNat∧Q=l.length∧(0<=a∧a<=l.length)) (λx=>((l.length:Int)-x.2.2.2).toNat) ?_ _ _ ⟨rfl,rfl,rfl,by omega⟩ (by simp only;omega);rintro M ⟨W,S,Q,a⟩ ⟨rfl,rfl,rfl,i1,i2⟩ P;unfold qV;simp only[q];dsimp only at P;have C:=atO e a.toNat;rw[R] at C;have L:a<l.length->IntKind.i64.wrap (a+1)=a+1:=λh=>ax (a+1) (by omega)
    have o:a<l.length->(names.getD a.toNat (ao .str)).length<=10:=λf=>D _ (by rw[Al,Ab (show a.toNat<names.length by omega)];exact Bf _)
    have H:a<l.length->((rB names (bR l) a.toNat).getD a.toNat (ao .str)).length<=100000000000000:=λf=>by rw[aoY e (show a.toNat<(bR l).length by omega)];have I:(bR l)[a.toNat]'(by omega)∈bR l:=Bf _;generalize (bR l)[a.toNat]'(by omega)=u at I;rw[jJ] at I;obtain⟨c,w,rfl⟩:=AG.1 I;exact AR (aoZ (.inr i) (λ_=>F) w) J
    have y:a<l.length->(rB names (bR l) a.toNat).set a.toNat (aX (names.getD a.toNat (ao .str))++[58]++(rB names (bR l) a.toNat).getD a.toNat (ao .str))=rB names (bR l) (a+1).toNat:=λf=>by
     have v:a.toNat<(bR l).length:=by omega
     rw[aoY e v,Al,Ab (show a.toNat<names.length by omega),Bk];have:=atP e v;rw[show (a+1).toNat=a.toNat+1 by omega,<-this];simp[sD]
    have b:l.length<=a->rB names (bR l) a.toNat=B6 sD names (bR l):=λf=>by rw[show a.toNat=(bR l).length by omega];exact atQ e
    have ad:=A.1
    repeat' (first|(with_reducible refine ab ?_ ?_<;>(intro g;(try simp only[bnl] at g);(try revert g;intro _)))|with_reducible refine ct ?_ ?_|with_reducible refine am ?_|(refine ah (ajD _ (by have:=o (by omega);omega)) ?_;rintro _ ⟨-,rfl⟩;try dsimp only[yE])|(refine akp (by simp) (al9 _ _ (by omega) (by rw[b (by omega)];omega)) ?_;rintro _ ⟨-,rfl⟩;try dsimp only)|fail)
    all_goals first|(simp only[bnl,C];omega)|(rename_i f;simp only[bnl,AO,C];done)|skip
    ·simp only[bnl,Af,Ak];have:=o (by assumption);have:=eV (names.getD a.toNat (ao .str));omega
    ·simp only[bnl,Aj,Af,Ak];have:=o (by assumption);have:=eV (names.getD a.toNat (ao .str));have:=H (by assumption);omega
    ·have f:a<(l.length:Int):=by assumption
     refine P _ ⟨rfl,?_,rfl,by simp only[L f];omega⟩ (by simp only[L f];omega);simp only[L f];exact y f
    ·rw[b (by assumption)];simp only[bnl,Af,Ak];omega
    ·rw[b (by assumption)];simp only[bnl,Aj,Af,Ak];omega
    ·refine⟨_,_,rfl,rfl,?_⟩;simp only[fh];rw[<-d,p,b (by assumption)];rfl
   ·exact⟨_,_,rfl,rfl,by subst d;simp only[fh,aw];rw[if_neg (by omega),if_neg (by omega),if_neg (by omega),if_neg (by omega),if_neg (by omega)]⟩
termination_by j=>B7 j
decreasing_by
 have:=Dk w;simp only[aa.mk.sizeOf_spec];omega
def c7:List aa->Nat
 | []=>0
 |c::l=>(aw c).length+1+c7 l
theorem auI:∀(l:List aa),(eQ [44] (bR l)).length<=c7 l
 | []=>by simp[bR,eQ,Go.Lib.join_nil,c7]
 |c::l=>by
  unfold bR eQ;rw[Go.Lib.join_cons,Aj];have:∀l:List aa,(Go.Lib.joinTail [44] (bR l)).length<=c7 l:=by
   intro l;induction l with
   |nil=>simp[bR,Go.Lib.joinTail,c7]
   |cons d l a=>unfold Go.Lib.joinTail at a ⊢;simp only[bR,A2,Dc,Aj,Af,Ak,c7] at a ⊢;omega
  have:=this l;simp only[c7];omega
theorem ep(s:List UInt8):(aw (aA s)).length=(aX s).length:=by simp[aw]
theorem yt(l:List aa):(aw (cJ l)).length<=c7 l+2:=by have:=auI l;simp[aw];omega
theorem yY(e d:List UInt8)(a b:aa):(aw (bK [e,d] [a,b])).length=(aX e).length+(aw a).length+(aX d).length+(aw b).length+5:=by simp[aw,bR,eQ,Go.Lib.join_cons,Go.Lib.joinTail];omega
theorem vR(e d f:List UInt8)(a b c:aa):(aw (bK [e,d,f] [a,b,c])).length=(aX e).length+(aw a).length+(aX d).length+(aw b).length+(aX f).length+(aw c).length+7:=by simp[aw,bR,eQ,Go.Lib.join_cons,Go.Lib.joinTail];omega
theorem vU:∀k:Int,(bE k).length<=7:=by
 intro k;unfold bE;split
 ·have:∀n:Nat,n<14->(bj.getD n []).length<=7:=by decide
  exact this _ (by omega)
 ·simp
abbrev CC:Nat:=30100
abbrev WW:Nat:=250000000000
theorem abc(w:Nat->Nat):∀n,px w (n+1)=w 0+px (λk=>w (k+1)) n
 |0=>by simp[px]
 |n+1=>by rw[px,abc w n,px];omega
def Bnd(ts:List ac)(g:Tk)(L:List Int)(a:List aa)(e:List Int):Prop:=match g with
 | .node t=>∀n b,ge ts n t b->c7 a+WW*L.length<=CC*b+WW*e.length∧mb a
 | .row d=>∀n w,(∀(k:Nat) c,d[k]? =some c->ge ts n c (w k))->c7 a+WW*L.length<=CC*px w d.length+WW*e.length∧mb a∧a.length=d.length
 | .flds fs=>(∀f∈fs,f.name.length<=100∧∃n b,b<=xg∧ge ts n f.typ b)->c7 a+WW*L.length<=fs.length*(700+CC*xg)+WW*e.length∧mb a∧a.length=fs.length
theorem lM{s:List UInt8}(h:s.length<=10000):xn (aA s):=by unfold aA xn;exact⟨λh=>absurd h (by decide),λ_=>h,λh=>absurd h (by decide),λh=>absurd h (by decide)⟩
theorem ak4{l:List aa}(h:l.length<=1000)(hp:mb l):xn (cJ l):=by unfold cJ xn;exact⟨λh=>absurd h (by decide),λh=>absurd h (by decide),λ_=>⟨h,hp⟩,λh=>absurd h (by decide)⟩
theorem yu{names:List (List UInt8)}{l:List aa}(d:names.length=l.length)(a:0<l.length∧l.length<=1000)(b:∀x∈names,x.length<=10)(hp:mb l):xn (bK names l):=by unfold bK xn;exact⟨λh=>absurd h (by decide),λh=>absurd h (by decide),λ_=>⟨a.2,hp⟩,λ_=>⟨d,a.1,b⟩⟩
theorem atR{l:List (List UInt8)}(h:∀s∈l,s.length<=10000):mb (l.map aA):=by
 induction l with
 |nil=>simp[mb]
 |cons s l a=>simp only[A2,mb];exact⟨lM (h s (by simp)),a λx b=>h x (by simp[b])⟩
theorem atS{l:List (List UInt8)}{m:Nat}(h:∀s∈l,s.length<=m):c7 (l.map aA)<=l.length*(6*m+3):=by
 induction l with
 |nil=>simp[c7]
 |cons s l a=>
  have b:=a λx d=>h x (by simp[d])
  have f:=h s (by simp);have e:=eV s;simp only[A2,c7,ep,Af,AP,B4] at b ⊢;omega
theorem ge.at{ts:List ac}{n:Nat}{i:Int}{b:Nat}(h:ge ts n i b):ts[i.toNat]? =some (tyA ts i):=by
 cases h with
 |leaf _ t a h d=>rw[h,show tyA ts i=t from o9 h]
 |arr _ t b a f h d e=>rw[h,show tyA ts i=t from o9 h]
 |uni _ t w a f h d e=>rw[h,show tyA ts i=t from o9 h]
theorem TR.bnd{ts:List ac}(hX:vQ ts){tk:Tk}{L J:List Int}{D:List aa}(h:TR ts tk L D J):Bnd ts tk L D J:=by
 have q:=hX.1.2;induction h with
 |arr t L j J y h G=>
  intro n b d;have a:=d.at
  cases d with
  |leaf _ t' C e i=>rw[e] at a;cases a;omega
  |uni _ t' w C O e i x=>rw[e] at a;cases a;omega
  |arr _ t' b C O e i x=>rw[e] at a;cases a;obtain⟨m,o⟩:=G n b x;simp only[c7] at m ⊢;refine⟨?_,⟨yu rfl (by simp) (by simp) ⟨lM (by simp),o⟩,trivial⟩⟩;rw[yY,ep];have u:(aX bb).length=6:=rfl;have p:(aX [105,116,101,109,115]).length=7:=rfl;have A:(aX [97,114,114,97,121]).length=7:=rfl;rw[u,p,A];simp only[CC,Nat.mul_add] at m ⊢;omega
 |map t L j J y h G=>
  intro n b d;have a:=d.at
  cases d with
  |leaf _ t' C e i=>rw[e] at a;cases a;omega
  |uni _ t' w C O e i x=>rw[e] at a;cases a;omega
  |arr _ t' b C O e i x=>rw[e] at a;cases a;obtain⟨m,o⟩:=G n b x;simp only[c7] at m ⊢;refine⟨?_,⟨yu rfl (by simp) (by simp) ⟨lM (by simp),o⟩,trivial⟩⟩;rw[yY,ep];have u:(aX bb).length=6:=rfl;have p:(aX [118,97,108,117,101,115]).length=8:=rfl;have A:(aX [109,97,112]).length=5:=rfl;rw[u,p,A];simp only[CC,Nat.mul_add] at m ⊢;omega
 |uni t L D J y h G=>
  intro n b d;have a:=d.at
  cases d with
  |leaf _ t' C e i=>rw[e] at a;cases a;omega
  |arr _ t' b C O e i x=>rw[e] at a;cases a;omega
  |uni _ t' w C O e i x=>rw[e] at a;cases a;obtain⟨m,o,i3⟩:=G n w x;have a0:=(q _ (Am e)).nb;have hl:=yt D;refine⟨?_,ak4 (by omega) o,trivial⟩;simp only[c7];simp only[CC,Nat.mul_add] at m ⊢;omega
 |told t L y R=>
  intro n b d;have a:=d.at
  have N:1<=b:=by cases d<;>omega
  have E:=(q _ (Am a)).nl;refine⟨?_,lM (by omega),trivial⟩;have:=eV (tyA ts t).name;simp only[c7,ep,CC];omega
 |fix t L y R=>
  intro n b d;have a:=d.at
  have N:1<=b:=by cases d<;>omega
  have v:=q _ (Am a);have E:=v.nl;have B:=v.size;have B:0<=(tyA ts t).size∧(tyA ts t).size<=255:=B;have F:=vU 11;refine⟨?_,⟨yu rfl (by simp) (by simp) ⟨lM (by omega),lM (by omega),?_,trivial⟩,trivial⟩⟩
  ·have Q:=eV (tyA ts t).name;have q2:=eV (bE 11);have q3:=agq B;have e4:(aw (.mk 3 (tyA ts t).size [] [] [])).length<=3:=by simpa [aw] using q3
   simp only[c7,vR,ep,Aj,Af,Ak];have u:(aX bX).length=6:=rfl;have p:(aX bb).length=6:=rfl;have A:(aX [115,105,122,101]).length=6:=rfl;rw[u,p,A];simp only[CC,WW] at*
   omega
  ·unfold xn;exact⟨λ_=>B,λh=>absurd h (by decide),λh=>absurd h (by decide),λh=>absurd h (by decide)⟩
 |enum t L y R=>
  intro n b d;have a:=d.at
  have N:1<=b:=by cases d<;>omega
  have v:=q _ (Am a);have E:=v.nl;have a5:=v.ns;have F:=vU 10;have bl:=atS v.sl;refine⟨?_,⟨yu rfl (by simp) (by simp) ⟨lM (by omega),lM (by omega),ak4 (by simp;omega) (atR λs hs=>by have:=v.sl s hs;omega),trivial⟩,trivial⟩⟩;have Q:=eV (tyA ts t).name;have q2:=eV (bE 10);have hl:=yt ((tyA ts t).syms.map aA);simp only[c7,vR,ep,Aj,Af,Ak];have u:(aX bX).length=6:=rfl;have p:(aX bb).length=6:=rfl;have A:(aX [115,121,109,98,111,108,115]).length=9:=rfl;rw[u,p,A];simp only[CC,WW] at*
  omega
 |rcd t L D J y R h G=>
  intro n b d;have a:=d.at
  have N:1<=b:=by cases d<;>omega
  have v:=q _ (Am a);have E:=v.nl;have P:=v.nf;have F:=vU 9;obtain⟨m,o,i3⟩:=G λf M=>by obtain⟨b,S,Y⟩:=hX.2.1 _ _ a f M;exact⟨v.fn f M,_,b,S,Y⟩
  refine⟨?_,⟨yu rfl (by simp) (by simp) ⟨lM (by omega),lM (by omega),ak4 (by omega) o,trivial⟩,trivial⟩⟩;have Q:=eV (tyA ts t).name;have q2:=eV (bE 9);have hl:=yt D;have a1:(tyA ts t).fields.length*(700+CC*xg)<=8*(700+CC*xg):=A1 _ P;simp only[c7,vR,ep,Aj,Af,Ak] at m ⊢;have u:(aX bX).length=6:=rfl;have p:(aX bb).length=6:=rfl;have A:(aX [102,105,101,108,100,115]).length=8:=rfl;rw[u,p,A];simp only[CC,WW,xg] at*
  omega
 |prim t L y=>
  intro n b d;have N:1<=b:=by cases d<;>omega
  have F:=vU (tyA ts t).kind;refine⟨?_,lM (by omega),trivial⟩;have:=eV (bE (tyA ts t).kind);simp only[c7,ep,CC];omega
 |rnil L=>intro n w F;simp[c7,px,mb]
 |fnil L=>intro M;simp[c7,mb]
 |rcons b bs L j L1 D L2 h x H I=>
  intro n w F;obtain⟨m,o⟩:=H n (w 0) (F 0 b rfl);obtain⟨Z,X,W⟩:=I n (λk=>w (k+1)) λk c y=>F (k+1) c (by simpa using y)
  unfold mb at o;refine⟨?_,⟨o.1,X⟩,by simp[W]⟩;rw[Af,abc];simp only[c7,Nat.mul_add] at m Z ⊢;omega
 |fcons f fs L j L1 D L2 h x H I=>
  intro M;obtain⟨f1,n,b,S,Y⟩:=M f (by simp);obtain⟨m,o⟩:=H n b Y;obtain⟨Z,X,W⟩:=I λg hg=>M g (by simp[hg])
  unfold mb at o;refine⟨?_,⟨yu rfl (by simp) (by simp) ⟨lM (by omega),o.1,trivial⟩,X⟩,by simp[W]⟩;have Q:=eV f.name;have N:CC*b<=CC*xg:=DA _ S;rw[Af,AP,B4];simp only[c7,yY,ep] at m ⊢;have u:(aX bX).length=6:=rfl;have p:(aX bb).length=6:=rfl;rw[u,p];omega
theorem TR.tells{ts:List ac}(a:vQ ts){j:aa}{d:List Int}(h:TR ts (.node 0) [] [j] d):xn j∧(aw j).length<=arw:=by
 obtain⟨b,f,g⟩:=a.2.2;obtain⟨p,e⟩:=h.bnd a 0 b g;have m:=(h.keeps ⟨BY,by simp⟩).1.le;have i:=a.1.1.2;have k:CC*b<=CC*xg:=DA _ f;have o:WW*d.length<=WW*60:=DA _ (by omega);unfold mb at e;refine⟨e.1,?_⟩;simp only[c7,CC,WW,xg,arw,Ak] at*
 omega
theorem adP{c:UInt8}(h:aoj c=true):c≠34∧c≠92∧33<=c.toNat∧c.toNat<128∧jd c=[c]:=by
 have hd:(AU 256).all (λn=> !aoj (AF n)||(decide (n≠34∧n≠92∧33<=n∧n<128)&&jd (AF n)==[AF n]))=true:=by kernel_rfl
 have:=Ap.1 hd c.toNat (AZ.2 (DG _));simp only[CI,h,Bool.not_true,B8,Ac,decide_eq_true_eq,beq_iff_eq] at this;obtain⟨⟨f,g,d,a⟩,b⟩:=this;exact⟨λe=>f (by rw[e];rfl),λe=>g (by rw[e];rfl),d,a,b⟩
theorem dd{s:List UInt8}(h:dR s):aX s=34::(s++[34]):=by
 unfold aX
 congr 2
 induction s with
 |nil=>rfl
 |cons c s a=>rw[BC,(adP (h c (by simp))).2.2.2.2,a λx b=>h x (by simp[b])];rfl
theorem agr{s:List UInt8}(h:dR s):(34:UInt8) ∉ s:=λa=>(adP (h 34 a)).1 rfl
theorem bG.at{s:List UInt8}{i:Int}{c:UInt8}{t rest:List UInt8}(h:bG s i (c::t) rest):(0<=i∧i<(s.length:Int))∧s.getD i.toNat 0=c∧bG s (i+1) t rest:=by
 obtain⟨e,a⟩:=h;have b:i.toNat<s.length:=by
  rcases AH i.toNat s.length with h|h;·exact h
  ·rw[BW h] at a;cases a
 rw[AK b] at a;obtain⟨d,f⟩:=AV a;refine⟨⟨e,by omega⟩,?_,by omega,?_⟩;·rw[Al,Ab b,Bk,d]
 ·rw[show (i+1).toNat=i.toNat+1 by omega];exact f
theorem bG.app{s:List UInt8}{i:Int}{t t' rest:List UInt8}:bG s i (t++t') rest↔bG s i t (t'++rest):=by unfold bG;rw[AC]
theorem bG.step{s:List UInt8}{i:Int}{t t' rest:List UInt8}(h:bG s i t (t'++rest)):bG s (i+(t.length:Int)) t' rest:=by obtain⟨b,a⟩:=h;refine⟨by omega,?_⟩;rw[show (i+(t.length:Int)).toNat=i.toNat+t.length by omega,<-List.drop_drop,a,List.drop_left'];rfl
theorem bG.len{s:List UInt8}{i:Int}{t rest:List UInt8}(h:bG s i t rest)(a:i<=(s.length:Int)):i+(t.length:Int)+(rest.length:Int)=(s.length:Int):=by have:=congrArg Aa h.2;rw[BH,Aj] at this;have:=h.1;omega
theorem bG.pre{s:List UInt8}{i:Int}{t rest:List UInt8}(h:bG s i t rest):t.isPrefixOf (s.drop i.toNat)=true:=by rw[h.2,CR];exact List.prefix_append _ _
theorem ry.c{c:UInt8}{r:List UInt8}(h:c=44∨c=93∨c=125):ry (c::r):=.inr ⟨c,r,rfl,h⟩
theorem ajE:∀{s s' r b:List UInt8}{a:UInt8},a ∉ s->a ∉ s'->s++a::r=s'++a::b->s=s'∧r=b
 | [],[],r,b,a,_,_,h=>⟨rfl,(AV h).2⟩
 | [],c::s',r,b,a,_,f,h=>absurd (AV h).1 λe=>f (by simp[e])
 |c::s,[],r,b,a,g,_,h=>absurd (AV h).1.symm λe=>g (by simp[e])
 |c::s,o::s',r,b,a,g,f,h=>by obtain⟨i,m⟩:=AV h;obtain⟨k,j⟩:=ajE (λd=>g (AL _ d)) (λd=>f (AL _ d)) m;exact⟨by rw[i,k],j⟩
def dgV(l:List UInt8):Nat:=l.foldl (λv c=>v*10+(c.toNat-48)) 0
theorem yZ(n:Nat):dgV (Go.Lib.decDigits n)=n∧(∀c∈Go.Lib.decDigits n,48<=c.toNat∧c.toNat<=57)∧Go.Lib.decDigits n≠[]∧((Go.Lib.decDigits n).headD 0=48->n=0):=by
 have a:∀d:Nat,d<10->(AF (48+d)).toNat=48+d:=λd hd=>by rw[DM];omega
 induction n using Nat.strongRecOn with
 |ind n j=>
  rw[Go.Lib.decDigits];by_cases h:n<10
  ·rw[dif_pos h];refine⟨?_,?_,by simp,?_⟩;·simp only[dgV,BS,List.foldl_nil,a n h];omega
   ·intro c b;rw[Au.1 b,a n h];omega
   ·intro e;have:=congrArg AJ (show AF (48+n)=48 from e);rw[a n h] at this;have:(48:UInt8).toNat=48:=rfl;omega
  ·rw[dif_neg h];obtain⟨g,k,i,f⟩:=j (n / 10) (by omega);refine⟨?_,?_,by simp,?_⟩;·unfold dgV at g ⊢;rw[Da,g];simp only[BS,List.foldl_nil,a _ (show n%10<10 by omega)];omega
   ·intro c b;rcases Az.1 b with b|b;·exact k c b
    ·rw[Au.1 b,a _ (by omega)];omega
   ·intro e;cases hd:Go.Lib.decDigits (n / 10) with
    |nil=>exact absurd hd i
    |cons c l=>rw[hd] at e f;have:=f e;omega
theorem ajF{r:List UInt8}(h:ry r){c:UInt8}{t:List UInt8}(a:r=c::t):¬(48<=c.toNat∧c.toNat<=57)∧c.toNat≠46∧c.toNat≠101∧c.toNat≠69∧33<=c.toNat:=by
 rcases h with h|⟨d,e,h,b⟩
 ·rw[h] at a;cases a
 ·rw[h] at a;obtain⟨rfl, -⟩:=AV a;rcases b with rfl|rfl|rfl<;>decide
theorem asD:∀{a b r e:List UInt8},(∀c∈a,48<=c.toNat∧c.toNat<=57)->(∀c∈b,48<=c.toNat∧c.toNat<=57)->ry r->ry e->a++r=b++e->a=b∧r=e
 | [],[],r,e,_,_,_,_,h=>⟨rfl,h⟩
 | [],c::b,r,e,_,g,j,_,h=>absurd (g c (by simp)) (ajF j h).1
 |c::a,[],r,e,i,_,_,f,h=>absurd (i c (by simp)) (ajF f h.symm).1
 |c::a,d::b,r,e,i,g,j,f,h=>by obtain⟨m,q⟩:=AV h;obtain⟨p,o⟩:=asD (λx k=>i x (AL _ k)) (λx k=>g x (AL _ k)) j f q;exact⟨by rw[m,p],o⟩
abbrev dZ{α:Type}(tx:α->List UInt8)(l:List α):List UInt8:=Go.Lib.joinTail [44] (l.map tx)
theorem asE{α:Type}(tx:α->List UInt8):dZ tx []=[]:=rfl
theorem ig{α:Type}(tx:α->List UInt8)(x:α)(l:List α):dZ tx (x::l)=44::(tx x++dZ tx l):=by simp[dZ,Go.Lib.joinTail]
theorem kK{α:Type}(tx:α->List UInt8)(x:α)(l:List α):eQ [44] ((x::l).map tx)=tx x++dZ tx l:=by rw[A2,eQ,Go.Lib.join_cons]
theorem vV{α:Type}(tx:α->List UInt8)(l:List α){e:UInt8}(a:e=93∨e=125)(r:List UInt8):ry (dZ tx l++e::r):=by
 cases l with
 |nil=>exact .c (.inr a)
 |cons x l=>rw[ig];exact .c (.inl rfl)
def Uq{α:Type}(tx:α->List UInt8)(ok:α->Prop)(x:α):Prop:=∀y,ok y->∀r a,ry r->ry a->tx x++r=tx y++a->x=y∧r=a
theorem amd{α:Type}{tx:α->List UInt8}{ok:α->Prop}{e:UInt8}(d:e=93∨e=125):∀(l b:List α)(r a:List UInt8),(∀x∈l,Uq tx ok x)->(∀y∈b,ok y)->dZ tx l++e::r=dZ tx b++e::a->l=b∧r=a
 | [],[],r,a,_,_,h=>⟨rfl,(AV h).2⟩
 | [],y::b,r,a,_,_,h=>by rw[ig] at h;have h:=(AV h).1;rcases d with rfl|rfl<;>exact absurd h (by decide)
 |x::l,[],r,a,_,_,h=>by rw[ig] at h;have h:=(AV h).1;rcases d with rfl|rfl<;>exact absurd h (by decide)
 |x::l,y::b,r,a,i,g,h=>by rw[ig,ig,AI,AI,AC,AC] at h;obtain⟨j,o⟩:=i x (by simp) y (g y (by simp)) _ _ (vV tx l d r) (vV tx b d a) (AV h).2;obtain⟨m,k⟩:=amd d l b r a (λz f=>i z (by simp[f])) (λz f=>g z (by simp[f])) o;exact⟨by rw[j,m],k⟩
theorem ame{α:Type}{tx:α->List UInt8}{ok:α->Prop}(hd:∀x,ok x->∃c t,tx x=c::t∧c≠93∧c≠125){e:UInt8}(b:e=93∨e=125)(l a:List α)(r d:List UInt8)(m:∀x∈l,ok x∧Uq tx ok x)(i:∀y∈a,ok y)
  (h:eQ [44] (l.map tx)++e::r=eQ [44] (a.map tx)++e::d):l=a∧r=d:=by
 cases l with
 |nil=>cases a with
  |nil=>exact⟨rfl,(AV h).2⟩
  |cons y a=>
   rw[kK,AC] at h;obtain⟨c,t,j,g,k⟩:=hd y (i y (by simp));rw[j] at h;have:=(AV h).1;rcases b with rfl|rfl;·exact absurd this.symm g
   ·exact absurd this.symm k
 |cons x l=>cases a with
  |nil=>
   rw[kK,AC] at h;obtain⟨c,t,j,g,k⟩:=hd x (m x (by simp)).1;rw[j] at h;have:=(AV h).1;rcases b with rfl|rfl;·exact absurd this g
   ·exact absurd this k
  |cons y a=>rw[kK,kK,AC,AC] at h;obtain⟨p,o⟩:=(m x (by simp)).2 y (i y (by simp)) _ _ (vV tx l b r) (vV tx a b d) h;obtain⟨u,q⟩:=amd b l a r d (λz f=>(m z (by simp[f])).2) (λz f=>i z (by simp[f])) o;exact⟨by rw[p,u],q⟩
def d5(p:List UInt8×aa):List UInt8:=aX p.1++58::aw p.2
theorem amf:∀(names:List (List UInt8))(l:List aa),B6 (λn t=>aX n++58::t) names (bR l)=(names.zip l).map d5
 | [],_=>by simp
 |n::names,[]=>by simp[bR]
 |n::names,c::l=>by simp only[bR,List.zipWith_cons_cons,B3,A2,amf names l];rfl
theorem sY(s:List UInt8):aw (aA s)=aX s:=by simp[aw]
theorem om(n:Int):aw (.mk 3 n [] [] [])=Go.Lib.decDigits n.toNat:=by simp[aw]
theorem vW(l:List aa):aw (cJ l)=91::(eQ [44] (l.map aw)++[93]):=by simp[aw,jJ]
theorem vX(names:List (List UInt8))(l:List aa):aw (bK names l)=123::(eQ [44] ((names.zip l).map d5)++[125]):=by rw[<-amf];simp[aw]
def fkB(c:UInt8):Int:=if c=34 then 4 else if c=91 then 5 else if c=123 then 6 else 3
theorem PJ.head{j:aa}(h:PJ j):∃c t,aw j=c::t∧j.kind=fkB c∧33<=c.toNat∧(c=34∨c=91∨c=123∨(48<=c.toNat∧c.toNat<=57)):=by
 cases h with
 |txt s h a=>exact⟨34,_,by rw[sY];rfl,rfl,by decide,.inl rfl⟩
 |lst l h a=>exact⟨91,_,vW l,rfl,by decide,.inr (.inl rfl)⟩
 |tab names l e f hd hp h a=>exact⟨123,_,vX names l,rfl,by decide,.inr (.inr (.inl rfl))⟩
 |num n h=>
  obtain⟨-,d,b, -⟩:=yZ n.toNat;rw[om];cases hd:Go.Lib.decDigits n.toNat with
  |nil=>exact absurd hd b
  |cons c t=>have:=d c (by rw[hd];simp);refine⟨c,t,rfl,?_,by omega,.inr (.inr (.inr this))⟩;unfold fkB;rw[if_neg (by rintro rfl;revert this;decide),if_neg (by rintro rfl;revert this;decide),if_neg (by rintro rfl;revert this;decide)];rfl
theorem PJ.head2{j:aa}(h:PJ j):∃c t,aw j=c::t∧c≠93∧c≠125:=by
 obtain⟨c,t,b, -, -,a⟩:=h.head;refine⟨c,t,b,?_,?_⟩;·rintro rfl;revert a;decide
 ·rintro rfl;revert a;decide
theorem PJ.uniq{j:aa}(h:PJ j):Uq aw PJ j:=by
 have d:∀{j y:aa},PJ j->PJ y->∀r g:List UInt8,aw j++r=aw y++g->j.kind=y.kind:=by intro j y h w r g e;obtain⟨c,t,h1,Y, -⟩:=h.head;obtain⟨c',t',H,M, -⟩:=w.head;rw[h1,H] at e;rw[Y,M,(AV e).1]
 induction h with
 |txt s h D=>
  intro y k r g C i e;have f:=d (.txt s h D) k r g e;cases k with
  |txt s' w E=>rw[sY,sY,dd h,dd w,AI,AI] at e;have e:=(AV e).2;rw[AC,AC] at e;obtain⟨v,o⟩:=ajE (agr h) (agr w) e;exact⟨by rw[v],o⟩
  |num=>exact absurd f (show ¬(4:Int)=3 by decide)
  |lst=>exact absurd f (show ¬(4:Int)=5 by decide)
  |tab=>exact absurd f (show ¬(4:Int)=6 by decide)
 |num n h=>
  intro y k r g C i e;have f:=d (.num n h) k r g e;cases k with
  |num m w=>
   rw[om,om] at e;obtain⟨f1,f2, -⟩:=yZ n.toNat;obtain⟨W,g2, -⟩:=yZ m.toNat;obtain⟨v,o⟩:=asD f2 g2 C i e;rw[v,W] at f1;have:n=m:=by omega
   exact⟨by rw[this],o⟩
  |txt=>exact absurd f (show ¬(3:Int)=4 by decide)
  |lst=>exact absurd f (show ¬(3:Int)=5 by decide)
  |tab=>exact absurd f (show ¬(3:Int)=6 by decide)
 |lst l h D G=>
  intro y k r g C i e;have f:=d (.lst l h D) k r g e;cases k with
  |lst J w E=>rw[vW,vW,AI,AI] at e;have e:=(AV e).2;rw[AC,AC] at e;obtain⟨v,o⟩:=ame (ok:=PJ) (λx F=>F.head2) (.inl rfl) l J r g (λx F=>⟨h x F,G x F⟩) w e;exact⟨by rw[v],o⟩
  |txt=>exact absurd f (show ¬(5:Int)=4 by decide)
  |num=>exact absurd f (show ¬(5:Int)=3 by decide)
  |tab=>exact absurd f (show ¬(5:Int)=6 by decide)
 |tab names l O Q hd hp h D G=>
  intro y k r g C i e;have f:=d (.tab names l O Q hd hp h D) k r g e;cases k with
  |tab A J L S R hp' w E=>
   rw[vX,vX,AI,AI] at e;have e:=(AV e).2;rw[AC,AC] at e;obtain⟨v,o⟩:=ame (tx:=d5) (ok:=λp=>dR p.1∧PJ p.2) (λp hp=>⟨34,_,rfl,by decide,by decide⟩) (.inr rfl) (names.zip l) (A.zip J) r g (λp I=>by
    have B:=Dr (a:=p.1) (b:=p.2) I;refine⟨⟨(hp _ B.1).1,h _ B.2⟩,λq N r g C i e=>?_⟩;rw[d5,d5,dd (hp _ B.1).1,dd N.1] at e;simp only[AC,AI,AW] at e;have e:=(AV e).2;obtain⟨v,o⟩:=ajE (agr (hp _ B.1).1) (agr N.1) e;obtain⟨X,P⟩:=G _ B.2 q.2 N.2 r g C i (AV o).2;exact⟨Prod.ext v X,P⟩) (λp I=>by
    have B:=Dr (a:=p.1) (b:=p.2) I;exact⟨(hp' _ B.1).1,w _ B.2⟩) e
   have u:=congrArg List.unzip v;rw[List.unzip_zip O,List.unzip_zip L] at u;obtain⟨u1,Z⟩:=Prod.mk.inj u;exact⟨by rw[u1,Z],o⟩
  |txt=>exact absurd f (show ¬(6:Int)=4 by decide)
  |num=>exact absurd f (show ¬(6:Int)=3 by decide)
  |lst=>exact absurd f (show ¬(6:Int)=5 by decide)
theorem nW.get{s:List UInt8}{i e:Int}{q:aa->Prop}{r:aa×RT}(h:nW s i e q r){j:aa}{rest:List UInt8}(b:PJ j)(m:bG s i (aw j) rest)(k:ry rest):r=(j,s,i+((aw j).length:Int),e):=by obtain⟨d,a,p, -,t,o,f⟩:=h;obtain⟨g,u⟩:=b.uniq d p rest a k o (m.2.symm.trans t.2);rw[f,g]
theorem asF(c:UInt8)(t:List UInt8)(a:c.toNat<128):∃r,ql (c::t) r:=by apply akX 1;unfold aev oP;dsimp only;refine ab (λh=>absurd h (by simp only[Af,beq_iff_eq];omega)) (λ_=>?_);refine vck ?_ (by simp only[Af,decide_eq_true_eq];omega);have e:Ae .u32 (↑(AJ (An (c::t) (Ah 0) 0)):Int)=(c.toNat:Int):=o6 .u32 rfl _ (by show c.toNat<2^32;omega);rw[e];refine ab (λ_=>am ⟨_,_,_,rfl,rfl,rfl⟩) (λh=>absurd (of_decide_eq_false h) (by omega))
theorem asG(s:List UInt8)(e:s.length<=10000)(h:∀c∈s,c.toNat<128):∃r,qk s r:=by
 apply akV 20000;unfold aet oO;refine ba (λx=>x.length<=10000∧∀c∈x,c.toNat<128) (λx=>x.length) ?_ _ _ ⟨e,h⟩ (by omega);rintro a x ⟨g,b⟩ f;unfold qS;dsimp only;cases x with
 |nil=>refine ab (λh=>absurd (of_decide_eq_true h) (by simp)) (λ_=>am ⟨_,_,rfl,rfl,rfl⟩)
 |cons c t=>refine ab (λ_=>?_) (λh=>absurd (of_decide_eq_false h) (by simp only[Af];omega));refine ah (asF c t (b c (by simp))) ?_;rintro _ ⟨-,rfl⟩;refine ab (λh=>absurd h (show ¬(((1:Int)==0)=true) by decide)) (λ_=>?_);refine vck ?_ (by simp only[Af,Ac,decide_eq_true_eq];omega);rw[BM];exact f t ⟨by simp only[Af] at g;omega,λd hd=>b d (by simp[hd])⟩ (by simp)
theorem apT(x rest:List UInt8)(q:dR x)(E:x.length+rest.length<=10000):∃r,nx (34::(x++34::rest)) r:=by
 apply aii 20000;unfold aan l7;dsimp only;refine ab (λh=>absurd h (by simp only[Af,beq_iff_eq];omega)) (λ_=>?_);refine vck ?_ (by simp only[Af,decide_eq_true_eq];omega);refine ab (λh=>absurd h (show ¬((!((34:Int)==34))=true) by decide)) (λ_=>?_);refine ba (λy=>match y with|(s,o,i)=>s=34::(x++34::rest)∧∃d,x=o++d∧i=(o.length:Int)+1) (λy=>x.length+2-y.2.2.toNat) ?_ _ _ ⟨rfl,x,rfl,rfl⟩ (by simp only;omega);rintro f ⟨s,o,i⟩ ⟨rfl,d,e,rfl⟩ u;have p:bG (34::(x++34::rest)) ((o.length:Int)+1) (d++[34]) rest:=by
  refine⟨by omega,?_⟩;rw[show ((o.length:Int)+1).toNat=o.length+1 by omega,List.drop_succ_cons,e,AC,List.drop_left'];·simp
  ·rfl
 have F:(34::(x++34::rest)).length=x.length+rest.length+2:=by simp only[Af,Aj];omega
 have w:x.length=o.length+d.length:=by rw[e,Aj]
 unfold od;dsimp only at u ⊢;have D:Ae .i64 ((o.length:Int)+1+1)=(o.length:Int)+1+1:=ax _ (by omega);rw[D];cases d with
 |nil=>obtain⟨m,k,A⟩:=bG.at (c:=34) (t:=[]) p;refine ab (λ_=>?_) (λh=>absurd (of_decide_eq_false h) (by omega));refine vck ?_ (ixt m);rw[k];refine ab (λ_=>?_) (λh=>absurd h (by decide));rw[BL] at e;subst e;refine ah (asG _ (by omega) λc B=>(adP (q c B)).2.2.2.1) ?_;rintro _ ⟨-,rfl⟩;refine ab (λh=>absurd h (by decide)) (λ_=>?_);exact am ⟨_,_,_,_,rfl,rfl,_,rest,q,rfl,by simp only[Ao,true_and,and_true];omega⟩
 |cons c d=>
  obtain⟨m,k,A⟩:=bG.at (c:=c) (t:=d++[34]) p;have v:=adP (q c (by rw[e];simp));refine ab (λ_=>?_) (λh=>absurd (of_decide_eq_false h) (by omega));refine vck ?_ (ixt m);rw[k];have g:¬(c.toNat:Int)=34:=λh=>v.1 (by have:=BR (a:=c) (b:=34);exact this.1 (by have:(34:UInt8).toNat=34:=rfl;omega))
  have j:¬(c.toNat:Int)=92:=λh=>v.2.1 (by have:=BR (a:=c) (b:=92);exact this.1 (by have:(92:UInt8).toNat=92:=rfl;omega))
  refine ab (λh=>absurd (by simpa using h) g) (λ_=>?_);refine ab (λh=>absurd (of_decide_eq_true h) (by omega)) (λ_=>?_);refine ab (λ_=>?_) (λh=>absurd (by simpa using h) j);refine vck ?_ (by simp only[Ac,decide_eq_true_eq];omega);have C:Bd (Ah ((o.length:Int)+1)) (Br (Ah ((o.length:Int)+1+1)) (34::(x++34::rest)))=[c]:=by rw[show Ah ((o.length:Int)+1+1)=Ah ((o.length:Int)+1)+1 by omega,DH,show Ah ((o.length:Int)+1)+1-Ah ((o.length:Int)+1)=1 by omega,p.2];rfl
  rw[C];refine vck ?_ (by simp only[Af,Ak,decide_eq_true_eq];omega);refine u _ ⟨rfl,d,by rw[e];simp,by simp only[Aj,Af,Ak];omega⟩ (by simp only;omega)
noncomputable def vY:aq:=tab (P:=Tryd.prog) [] [] [] []
def xL:IR:=Sq (Rs [Mv 6 4,Mv 7 3,Ll 8 7,Bi 9 .lss 6 8] (Cn 9 .skip (.exit 0))) (Sq (.block 1 (Rs [Mv 12 3,Mv 13 4,Ix 14 .str 12 13,Lq 15 14,Mv 16 0,Bi 17 .eql 15 16] (Cn 17 (Rs [Mv 18 4,Bc 19 .add 18 1,Mv 2 19] .ret) .skip))) (Rg [Mv 10 4,Bc 11 .add 10 1,Mv 4 11]))
def xM:IR:=Rs [Mi 2 0] .ret
def ajG:IR:=Rs [Mi 2 0] (Rs [Pp (.bsl 5 .str [kS [110,117,108,108],kS [98,111,111,108,101,97,110],kS [105,110,116],kS [108,111,110,103],kS [102,108,111,97,116],kS [100,111,117,98,108,101],kS [98,121,116,101,115],kS [115,116,114,105,110,103],kS [114,101,99,111,114,100],kS [101,110,117,109],kS [102,105,120,101,100],kS [97,114,114,97,121],kS [109,97,112],kS [117,110,105,111,110]] true),Mv 3 5] (Sq (Rs [Mi 4 0] (.block 0 (.loop [0,3,4,1000000] 0 xL))) xM))
def aav:List RV:=[.t 2]
theorem ajH:FnC Tryd.prog vY [] 0 abQ Tryd.f43 ajG aav:=fnC Tryd.func43
def ain(R:IR->(Ex->St->Ro)->St->Ro)(a:St->Ro):Ex->St->Ro:=(b7 a [0,3,4,1000000] 0 (aJ 0 (kseq (R xM) (fin aav))))
abbrev oq:Type:=(Bs×Bool×Bss×Int)
def mS(x:oq):St:={env:=(.str x.1::.undef::.undef::.sl .str (.may x.2.1) x.2.2.1::.int .i64 x.2.2.2::(U 15 [])),hp:=[]}
def sZ(N:Nat):(St->Ro)->St->Ro:=λa s=>run vY N xL (ain (run vY N) a) s
def ot(N:Nat)(a:oq->Ro)(x:oq):Ro:=
 let f:Bs:=x.1;let d:Bool:=x.2.1;let e:Bss:=x.2.2.1;let b:Int:=x.2.2.2;let g:=(↑(Aa e):Int)
 cond (decide (b<g)) (
  chk (ixl b e) (
   let h:=An e (Ah b) (ao .str)
   cond (decide (h=f)) (
    let j:=(Ae .i64 (b+1))
    some (.int .i64 j,[])) (
    let i:=(Ae .i64 (b+1))
    a (f,d,e,i)))) (
  some (.int .i64 0,[]))
theorem ahh(N:Nat):LB (sZ N) mS (ot N):=λ_ _=>by kernel_rfl
def mc(N:Nat)(a:Bs)(b:oq->Ro):Ro:=
 b (a,true,([([110,117,108,108]:Bs),([98,111,111,108,101,97,110]:Bs),([105,110,116]:Bs),([108,111,110,103]:Bs),([102,108,111,97,116]:Bs),([100,111,117,98,108,101]:Bs),([98,121,116,101,115]:Bs),([115,116,114,105,110,103]:Bs),([114,101,99,111,114,100]:Bs),([101,110,117,109]:Bs),([102,105,120,101,100]:Bs),([97,114,114,97,121]:Bs),([109,97,112]:Bs),([117,110,105,111,110]:Bs)]:Bss),0)
def aaw(N:Nat)(a:Bs):Ro:=mc N a (λz=>aK N (ot N) z)
theorem aio(N:Nat)(a:Bs)(h:Tot (aaw N a) (λz=>∃(d:Int)(rest:List ai),z.1.dimR=.int .i64 d∧z.2=rest∧xy a (d))):∃r,dz a r:=ajH.finP (N:=N) ((cz _ (by kernel_rfl) rfl (λC=>mc N a (λz=>C 1000000 (mS z))) (λC=>by kernel_rfl)).trans (A8 (b:=mc N a (λz=>bi N (sZ N) (mS z))) (by kernel_rfl) (congrArg (mc N a) (funext λz=>bm (mS) (sZ N) (ot N) (ahh N) N z)))) h λ_ ⟨d,_,e,_,q⟩=>⟨(d),e,q⟩
noncomputable def ak5:aq:=tab (P:=Tryd.prog) [] [] [] []
def ajI:IR:=Rs [Ms 2 []] (Rs [Pp (.bsl 4 .str [kS [],kS [110,117,108,108],kS [98,111,111,108,101,97,110],kS [105,110,116],kS [108,111,110,103],kS [102,108,111,97,116],kS [100,111,117,98,108,101],kS [98,121,116,101,115],kS [115,116,114,105,110,103],kS [114,101,99,111,114,100],kS [101,110,117,109],kS [102,105,120,101,100],kS [97,114,114,97,121],kS [109,97,112],kS [117,110,105,111,110]] true),Mv 3 4] (Sq (Rs [Mv 5 0,Bc 6 .lss 5 1,Mv 7 6,Gf 7 (.mov 8 0),Gf 7 (.bin 9 .gtr 8 (kI 14)),Po 10 7 9] (Cn 10 (Rs [Ms 2 []] .ret) .skip)) (Rs [Mv 11 3,Mv 12 0,Ix 13 .str 11 12,Lq 14 13,Mv 2 14] .ret)))
def ajJ:List RV:=[.t 2]
theorem ajK:FnC Tryd.prog ak5 [] 0 abP Tryd.f50 ajI ajJ:=fnC Tryd.func50
def aax(N:Nat)(a:Int):Ro:=
 cond (decide (a<1)) (
  some (.str ([]:Bs),[])) (
  cond (decide (14<a)) (
   some (.str ([]:Bs),[])) (
   chk (ixl a ([([]:Bs),([110,117,108,108]:Bs),([98,111,111,108,101,97,110]:Bs),([105,110,116]:Bs),([108,111,110,103]:Bs),([102,108,111,97,116]:Bs),([100,111,117,98,108,101]:Bs),([98,121,116,101,115]:Bs),([115,116,114,105,110,103]:Bs),([114,101,99,111,114,100]:Bs),([101,110,117,109]:Bs),([102,105,120,101,100]:Bs),([97,114,114,97,121]:Bs),([109,97,112]:Bs),([117,110,105,111,110]:Bs)]:Bss)) (
    let b:=An ([([]:Bs),([110,117,108,108]:Bs),([98,111,111,108,101,97,110]:Bs),([105,110,116]:Bs),([108,111,110,103]:Bs),([102,108,111,97,116]:Bs),([100,111,117,98,108,101]:Bs),([98,121,116,101,115]:Bs),([115,116,114,105,110,103]:Bs),([114,101,99,111,114,100]:Bs),([101,110,117,109]:Bs),([102,105,120,101,100]:Bs),([97,114,114,97,121]:Bs),([109,97,112]:Bs),([117,110,105,111,110]:Bs)]:Bss) (Ah a) (ao .str)
    some (.str b,[]))))
def aay(N:Nat)(a:Int):Ro:=aax N a
theorem aip(N:Nat)(b:Int)(h:Tot (aay N b) (λz=>∃(a:Bs)(rest:List ai),z.1.dimR=.str a∧z.2=rest∧xz b (a))):∃r,nq b r:=ajK.finP (N:=N) (by kernel_rfl) h λ_ ⟨a,_,e,_,q⟩=>⟨(a),e,q⟩
noncomputable def anc:aq:=tab (P:=Tryd.prog) [] [] [] [akJ]
def ak6:IR:=Rs [Bx 2 0,Ms 4 []] (Sq (Rs [Mv 5 1,Bc 6 .lss 5 0,Mv 7 6,Gf 7 (.mov 8 1),Gf 7 (.fad 9 0 2),Gf 7 (.lde 10 1 false 9),Gf 7 (.lenl 11 10),Gf 7 (.bin 12 .geq 8 11),Po 13 7 12] (Cn 13 (Rs [Ms 4 []] .ret) .skip)) (Sq (Rs [Fa 14 0 2,Lq 15 14,Mv 16 1,Ix 17 .atype 15 16,Fa 18 1 17,Lo 19 18,Pp (.bin 20 .neq 19 (kS []))] (Cn 20 (Rs [Fa 21 0 2,Lq 22 21,Mv 23 1,Ix 24 .atype 22 23,Fa 25 1 24,Lo 26 25,Mv 4 26] .ret) .skip)) (Rs [Fa 27 0 2,Lq 28 27,Mv 29 1,Ix 30 .atype 28 29,Fa 31 0 30,Lo 32 31,Ca 33 50 [32],Mv 4 33] .ret)))
def ak7:List RV:=[.t 4]
theorem ak8:FnC Tryd.prog anc [] 0 aem Tryd.f76 ak6 ak7:=fnC Tryd.func76
def acj(N:Nat)(a:List ac)(b:Int):Ro:=
 cond (decide (b<0)) (
  some (.str ([]:Bs),[])) (
  let d:=(↑(Aa a):Int)
  cond (decide (d<=b)) (
   some (.str ([]:Bs),[])) (
   chk (ixl b a) (
    let f:=(An a (Ah b) (ao .atype))
    let i:=(!decide (f.name=([]:Bs)))
    cond i (
     chk (ixl b a) (
      let h:=(An a (Ah b) (ao .atype))
      some (.str h.name,[]))) (
     chk (ixl b a) (
      let e:=(An a (Ah b) (ao .atype))
      af (nq e.kind) (λ(g:Bs)=>
       some (.str g,[])))))))
def ack(N:Nat)(a:List ac)(b:Int):Ro:=acj N a b
theorem ajL(N:Nat)(a:List ac)(d:Int)(h:Tot (ack N a d) (λz=>∃(b:Bs)(rest:List ai),z.1.dimR=.str b∧z.2=rest∧yI a d (b))):∃r,lL a d r:=ak8.finP (N:=N) (by kernel_rfl) h λ_ ⟨b,_,e,_,q⟩=>⟨(b),e,q⟩
noncomputable def s0:aq:=tab (P:=Tryd.prog) [] [] [] []
def vr:IR:=Sq (Rs [Mv 7 3,Bc 8 .geq 7 0] (Cn 8 .skip (.exit 0))) (Sq (.block 1 (Rs [Mv 11 0,Mv 12 3,Pp (.idx 13 11 12),Pp (.bin 14 .eql 13 (.c (.int .u8 46)))] (Cn 14 (Rs [Mv 15 0,Mv 16 3,Pp (.subs 17 15 none (some 16)),Mv 2 17] .ret) .skip))) (Rg [Mv 9 3,Bc 10 .sub 9 1,Mv 3 10]))
def vt:IR:=Rs [Ms 2 []] .ret
def ahi:IR:=Rs [Ms 2 []] (Sq (Rs [Mv 4 0,Pp (.lens 5 4),Bc 6 .sub 5 1,Mv 3 6] (.block 0 (.loop [0,3,1000000] 0 vr))) vt)
def xN:List RV:=[.t 2]
theorem ahj:FnC Tryd.prog s0 [] 0 yL Tryd.f79 ahi xN:=fnC Tryd.func79
def ags(R:IR->(Ex->St->Ro)->St->Ro)(a:St->Ro):Ex->St->Ro:=(b7 a [0,3,1000000] 0 (aJ 0 (kseq (R vt) (fin xN))))
abbrev md:Type:=(Bs×Int)
def lB(x:md):St:={env:=(.str x.1::.undef::.undef::.int .i64 x.2::(U 14 [])),hp:=[]}
def qp(N:Nat):(St->Ro)->St->Ro:=λa s=>run s0 N vr (ags (run s0 N) a) s
def me(N:Nat)(a:md->Ro)(x:md):Ro:=
 let d:Bs:=x.1;let b:Int:=x.2
 cond (decide (0<=b)) (
  chk (ixl b d) (
   let g:=(↑(AJ (An d (Ah b) 0)):Int)
   cond (g==46) (
    chk ((decide (0<=b)&&decide (b<=(↑(Aa d):Int)))) (
     let f:=(Bd 0 (Br (Ah b) d))
     some (.str f,[]))) (
    let e:=(Ae .i64 (b-1))
    a (d,e)))) (
  some (.str ([]:Bs),[]))
theorem afd(N:Nat):LB (qp N) lB (me N):=λ_ _=>by kernel_rfl
def kh(N:Nat)(a:Bs)(e:md->Ro):Ro:=
 let b:=(↑(Aa a):Int)
 let d:=(Ae .i64 (b-1))
 e (a,d)
def xO(N:Nat)(a:Bs):Ro:=kh N a (λz=>aK N (me N) z)
theorem agt(N:Nat)(a:Bs)(h:Tot (xO N a) (λz=>∃(d:Bs)(rest:List ai),z.1.dimR=.str d∧z.2=rest∧va a (d))):∃r,ey a r:=ahj.finP (N:=N) ((cz _ (by kernel_rfl) rfl (λC=>kh N a (λz=>C 1000000 (lB z))) (λC=>by kernel_rfl)).trans (A8 (b:=kh N a (λz=>bi N (qp N) (lB z))) (by kernel_rfl) (congrArg (kh N a) (funext λz=>bm (lB) (qp N) (me N) (afd N) N z)))) h λ_ ⟨d,_,e,_,q⟩=>⟨(d),e,q⟩
noncomputable def za:aq:=tab (P:=Tryd.prog) [] [] [] []
def aaz:IR:=Sq (Rs [Fa 7 0 2,Lq 8 7,Bc 9 .eql 8 6,Mv 10 9,Gt 10 (.mov 11 6),Gt 10 (.fad 12 4 2),Gt 10 (.lde 13 1 false 12),Gt 10 (.lenl 14 13),Gt 10 (.bin 15 .lss 11 14),Pa 16 10 15,Mv 17 16,Gt 17 (.mov 18 6),Gt 17 (.fad 19 3 2),Gt 17 (.lde 20 1 false 19),Gt 17 (.lenl 21 20),Gt 17 (.bin 22 .lss 18 21),Pa 23 17 22] (Cn 23 .skip (.exit 0))) (Sq (.block 1 (Rs [Fa 26 4 2,Lq 27 26,Mv 28 6,Ix 29 .str 27 28,Lq 30 29,Mv 31 1,Bi 32 .eql 30 31] (Cn 32 (Rs [Fa 33 3 2,Lq 34 33,Mv 35 6,Ix 36 .jnode 34 35,Ld 37 5 true 36,Sv 5 4 37,Mb 5 true] .ret) .skip))) (Rg [Mv 24 6,Bc 25 .add 24 1,Mv 6 25]))
def aaA:IR:=Rs [Pp (.bld 38 [vI 0,vI 0,vS,fu .jnode true,fu .str true] []),Sv 5 4 38,Mb 5 false] .ret
def ane:IR:=Rs [Bx 2 0,Pp (.new 4 [vI 0,vI 0,vS,nl .jnode,nl .str]),Mb 5 false] (Sq (Rs [Mi 6 0] (.block 0 (.loop [1,2,4,6,1000000] 1 aaz))) aaA)
def aeD:List RV:=[.cell 4 5 true,.t 5]
theorem anf:FnC Tryd.prog za [] 0 af0 Tryd.f41 ane aeD:=fnC Tryd.func41
def ak9(R:IR->(Ex->St->Ro)->St->Ro)(a:St->Ro):Ex->St->Ro:=(b7 a [1,2,4,6,1000000] 1 (aJ 0 (kseq (R aaA) (fin aeD))))
abbrev qW:Type:=(Bs×aa×Int×Int×Int×Bs×List aa×Bss)
def pH(x:qW):St:={env:=(.undef::.str x.1::.ea (enc .jnode x.2.1)::.undef::.ptr 0 0::.undef::.int .i64 x.2.2.1::(U 32 [])),hp:=[some [.int .i64 x.2.2.2.1,.int .i64 x.2.2.2.2.1,.str x.2.2.2.2.2.1,.sl .jnode .own x.2.2.2.2.2.2.1,.sl .str .own x.2.2.2.2.2.2.2]]}
def vZ(N:Nat):(St->Ro)->St->Ro:=λa s=>run za N aaz (ak9 (run za N) a) s
def qX(N:Nat)(a:qW->Ro)(x:qW):Ro:=
 let v:Bs:=x.1;let b:aa:=x.2.1;let d:Int:=x.2.2.1;let f:Int:=x.2.2.2.1;let g:Int:=x.2.2.2.2.1;let h:Bs:=x.2.2.2.2.2.1;let e:List aa:=x.2.2.2.2.2.2.1;let i:Bss:=x.2.2.2.2.2.2.2;let m:=λo p q k u t w=>(some (.tup [.agg [.int .i64 o,.int .i64 p,.str q,.sl .jnode (.may k) u,.sl .str (.may k) t],.bool w],[some [.int .i64 o,.int .i64 p,.str q,.sl .jnode (.may k) u,.sl .str (.may k) t]]):Ro)
 cond (b.kind==6) (
  let C:=(↑(Aa b.names):Int)
  cond (decide (d<C)) (
   let B:=(↑(Aa b.l):Int)
   cond (decide (d<B)) (
    chk (ixl d b.names) (
     let y:=An b.names (Ah d) (ao .str)
     cond (decide (y=v)) (
      chk (ixl d b.l) (
       let j:=(An b.l (Ah d) (ao .jnode))
       m j.kind j.n j.s false j.l j.names true)) (
      let A:=(Ae .i64 (d+1))
      a (v,b,A,f,g,h,e,i)))) (
    m 0 0 ([]:Bs) true ([]:List aa) ([]:Bss) false)) (
   m 0 0 ([]:Bs) true ([]:List aa) ([]:Bss) false)) (
  m 0 0 ([]:Bs) true ([]:List aa) ([]:Bss) false)
theorem ajM(N:Nat):LB (vZ N) pH (qX N):=λ_ _=>by kernel_rfl
def oR(N:Nat)(b:aa)(a:Bs)(d:qW->Ro):Ro:=
 d (a,b,0,0,0,([]:Bs),([]:List aa),([]:Bss))
def aeE(N:Nat)(b:aa)(a:Bs):Ro:=oR N b a (λz=>aK N (qX N) z)
theorem ala(N:Nat)(d:aa)(a:Bs)(h:Tot (aeE N d a) (λz=>∃(f:aa)(g:Bool)(rest:List ai),z.1.dimR=.tup [.agg (enc .jnode f),.bool g]∧z.2=rest∧lT d a (f,g))):∃r,aR d a r:=anf.finP (N:=N) ((cz _ (by kernel_rfl) rfl (λC=>oR N d a (λz=>C 1000000 (pH z))) (λC=>by kernel_rfl)).trans (A8 (b:=oR N d a (λz=>bi N (vZ N) (pH z))) (by kernel_rfl) (congrArg (oR N d a) (funext λz=>bm (pH) (vZ N) (qX N) (ajM N) N z)))) h λ_ ⟨f,g,_,e,_,q⟩=>⟨(f,g),e,q⟩
noncomputable def ajN:aq:=tab (P:=Tryd.prog) [] [] [] []
def aiq:IR:=Rs [Mb 2 false] (Rs [Mv 3 0,Pp (.bin 4 .geq 3 (.c (.int .u8 97))),Mv 5 4,Gt 5 (.mov 6 0),Gt 5 (.bin 7 .leq 6 (.c (.int .u8 122))),Pa 8 5 7,Mv 9 8,Gf 9 (.mov 10 0),Gf 9 (.bin 11 .geq 10 (.c (.int .u8 65))),Gf 9 (.mov 12 11),Gt 12 (.mov 13 0),Gt 12 (.bin 14 .leq 13 (.c (.int .u8 90))),Gf 9 (.pick 15 12 14 (kB false)),Po 16 9 15,Mv 17 16,Gf 17 (.mov 18 0),Gf 17 (.bin 19 .eql 18 (.c (.int .u8 95))),Po 20 17 19,Mv 2 20] .ret)
def air:List RV:=[.t 2]
theorem ais:FnC Tryd.prog ajN [] 0 aal Tryd.f122 aiq air:=fnC Tryd.func122
def zb(N:Nat)(a:Int):Ro:=
 let b:=(some (.bool (a==95),[]):Ro)
 cond (decide (97<=a)) (
  cond (decide (a<=122)) (
   some (.bool true,[])) (
   cond (decide (65<=a)) (
    cond (decide (a<=90)) (
     some (.bool true,[])) (
     b)) (
    b))) (
  cond (decide (65<=a)) (
   cond (decide (a<=90)) (
    some (.bool true,[])) (
    b)) (
   b))
def zc(N:Nat)(a:Int):Ro:=zb N a
theorem ahk(N:Nat)(b:Int)(h:Tot (zc N b) (λz=>∃(a:Bool)(rest:List ai),z.1.dimR=.bool a∧z.2=rest∧wF b (a))):∃r,lZ b r:=ais.finP (N:=N) (by kernel_rfl) h λ_ ⟨a,_,e,_,q⟩=>⟨(a),e,q⟩
noncomputable def alb:aq:=tab (P:=Tryd.prog) [] [] [] []
def ajO:IR:=Rs [Mb 2 false] (Rs [Mv 3 0,Pp (.bin 4 .geq 3 (.c (.int .u8 48))),Mv 5 4,Gt 5 (.mov 6 0),Gt 5 (.bin 7 .leq 6 (.c (.int .u8 57))),Pa 8 5 7,Mv 2 8] .ret)
def ajP:List RV:=[.t 2]
theorem ajQ:FnC Tryd.prog alb [] 0 abR Tryd.f123 ajO ajP:=fnC Tryd.func123
def aaB(N:Nat)(a:Int):Ro:=
 cond (decide (48<=a)) (
  some (.bool (decide (a<=57)),[])) (
  some (.bool false,[]))
def aaC(N:Nat)(a:Int):Ro:=aaB N a
theorem ait(N:Nat)(b:Int)(h:Tot (aaC N b) (λz=>∃(a:Bool)(rest:List ai),z.1.dimR=.bool a∧z.2=rest∧xA b (a))):∃r,nv b r:=ajQ.finP (N:=N) (by kernel_rfl) h λ_ ⟨a,_,e,_,q⟩=>⟨(a),e,q⟩
noncomputable def xo:aq:=tab (P:=Tryd.prog) [] [] [] [ajo,akN]
def zd:IR:=Sq (Rs [Mv 4 3,Mv 5 0,Pp (.lens 6 5),Bi 7 .lss 4 6] (Cn 7 .skip (.exit 0))) (Sq (.block 1 (Rs [Mv 10 0,Mv 11 3,Pp (.idx 12 10 11),Ca 13 122 [12],Un 14 13,Mv 15 14,Gt 15 (.mov 16 3),Gt 15 (.bin 17 .eql 16 (kI 0)),Gt 15 (.mov 18 17),Gf 18 (.mov 19 0),Gf 18 (.mov 20 3),Gf 18 (.idx 21 19 20),Gf 18 (.call 22 123 [21]),Gf 18 (.un 23 .not 22),Gt 15 (.pick 24 18 (kB true) 23),Pa 25 15 24] (Cn 25 (Rs [Mb 2 false] .ret) .skip))) (Rg [Mv 8 3,Bc 9 .add 8 1,Mv 3 9]))
def ze:IR:=Rs [Mv 26 0,Pp (.lens 27 26),Bc 28 .gtr 27 0,Mv 2 28] .ret
def alc:IR:=Rs [Mb 2 false] (Sq (Rs [Mi 3 0] (.block 0 (.loop [0,3,1000000] 0 zd))) ze)
def acl:List RV:=[.t 2]
theorem ald:FnC Tryd.prog xo [] 0 aen Tryd.f104 alc acl:=fnC Tryd.func104
def ajR(R:IR->(Ex->St->Ro)->St->Ro)(a:St->Ro):Ex->St->Ro:=(b7 a [0,3,1000000] 0 (aJ 0 (kseq (R ze) (fin acl))))
abbrev pI:Type:=(Bs×Int)
def ou(x:pI):St:={env:=(.str x.1::.undef::.undef::.int .i64 x.2::(U 25 [])),hp:=[]}
def uL(N:Nat):(St->Ro)->St->Ro:=λa s=>run xo N zd (ajR (run xo N) a) s
def pJ(N:Nat)(a:pI->Ro)(x:pI):Ro:=
 let d:Bs:=x.1;let b:Int:=x.2;let f:=(↑(Aa d):Int)
 cond (decide (b<f)) (
  chk (ixl b d) (
   let h:=(↑(AJ (An d (Ah b) 0)):Int)
   af (lZ h) (λ(i:Bool)=>
    cond (!i) (
     cond (b==0) (
      some (.bool false,[])) (
      chk (ixl b d) (
       let j:=(↑(AJ (An d (Ah b) 0)):Int)
       af (nv j) (λ(k:Bool)=>
        cond (!k) (
         some (.bool false,[])) (
         let m:=(Ae .i64 (b+1))
         a (d,m)))))) (
     let g:=(Ae .i64 (b+1))
     a (d,g))))) (
  let e:=(↑(Aa d):Int)
  some (.bool (decide (0<e)),[]))
theorem aiu(N:Nat):LB (uL N) ou (pJ N):=λ_ _=>by kernel_rfl
def nC(N:Nat)(a:Bs)(b:pI->Ro):Ro:=
 b (a,0)
def acm(N:Nat)(a:Bs):Ro:=nC N a (λz=>aK N (pJ N) z)
theorem ajS(N:Nat)(a:Bs)(h:Tot (acm N a) (λz=>∃(d:Bool)(rest:List ai),z.1.dimR=.bool d∧z.2=rest∧sS a (d))):∃r,fU a r:=ald.finP (N:=N) ((cz _ (by kernel_rfl) rfl (λC=>nC N a (λz=>C 1000000 (ou z))) (λC=>by kernel_rfl)).trans (A8 (b:=nC N a (λz=>bi N (uL N) (ou z))) (by kernel_rfl) (congrArg (nC N a) (funext λz=>bm (ou) (uL N) (pJ N) (aiu N) N z)))) h λ_ ⟨d,_,e,_,q⟩=>⟨(d),e,q⟩
noncomputable def ang:aq:=tab (P:=Tryd.prog) [] [] [] []
def ale:IR:=Rs [Ms 4 []] (Sq (Rs [Mv 5 0,Pp (.bin 6 .eql 5 (kS [])),Mv 7 6,Gf 7 (.mov 8 1),Gf 7 (.bin 9 .eql 8 (kS [])),Po 10 7 9] (Cn 10 (Rs [Mv 11 0,Mv 12 1,Bi 13 .add 11 12,Mv 4 13] .ret) .skip)) (Rs [Mv 14 0,Pp (.bin 15 .add 14 (kS [46])),Mv 16 1,Bi 17 .add 15 16,Mv 4 17] .ret))
def alf:List RV:=[.t 4]
theorem alg:FnC Tryd.prog ang [] 0 aeo Tryd.f102 ale alf:=fnC Tryd.func102
def acn(N:Nat)(b a:Bs):Ro:=
 let e:=decide (b=([]:Bs))
 cond e (
  chk (decide (Aa b+Aa a<=9223372036854775807)) (
   some (.str (b++a),[]))) (
  let f:=decide (a=([]:Bs))
  cond f (
   chk (decide (Aa b+Aa a<=9223372036854775807)) (
    some (.str (b++a),[]))) (
   chk (decide (Aa b+Aa ([46]:Bs)<=9223372036854775807)) (
    let d:=(b++([46]:Bs))
    chk (decide (Aa d+Aa a<=9223372036854775807)) (
     some (.str (d++a),[])))))
def aco(N:Nat)(b a:Bs):Ro:=acn N b a
theorem ajT(N:Nat)(d b:Bs)(h:Tot (aco N d b) (λz=>∃(a:Bs)(rest:List ai),z.1.dimR=.str a∧z.2=rest∧kV d b (a))):∃r,oM d b r:=alg.finP (N:=N) (by kernel_rfl) h λ_ ⟨a,_,e,_,q⟩=>⟨(a),e,q⟩
noncomputable def wa:aq:=tab (P:=Tryd.prog) [] [] [] [xk]
def xP:IR:=Sq (Rs [Mv 5 4,Mv 6 0,Pp (.lens 7 6),Bi 8 .leq 5 7] (Cn 8 .skip (.exit 0))) (Sq (.block 1 (Sq (Rs [Mv 11 4,Mv 12 0,Pp (.lens 13 12),Bi 14 .lss 11 13,Mv 15 14,Gt 15 (.mov 16 0),Gt 15 (.mov 17 4),Gt 15 (.idx 18 16 17),Gt 15 (.bin 19 .neq 18 (.c (.int .u8 46))),Pa 20 15 19] (Cn 20 (Rs [Mv 21 3,Mv 22 0,Mv 23 4,Mv 24 4,Bc 25 .add 24 1,Pp (.subs 26 22 (some 23) (some 25)),Bi 27 .add 21 26,Mv 3 27] (.exit 1)) .skip)) (Sq (Rs [Mv 28 3,Ca 29 104 [28],Un 30 29] (Cn 30 (Rs [Mb 2 false] .ret) .skip)) (Rg [Ms 3 []])))) (Rg [Mv 9 4,Bc 10 .add 9 1,Mv 4 10]))
def wT:IR:=Rs [Mb 2 true] .ret
def ajU:IR:=Rs [Mb 2 false] (Rs [Ms 3 []] (Sq (Rs [Mi 4 0] (.block 0 (.loop [0,3,4,1000000] 0 xP))) wT))
def aaD:List RV:=[.t 2]
theorem ajV:FnC Tryd.prog wa [] 0 abS Tryd.f103 ajU aaD:=fnC Tryd.func103
def aiv(R:IR->(Ex->St->Ro)->St->Ro)(a:St->Ro):Ex->St->Ro:=(b7 a [0,3,4,1000000] 0 (aJ 0 (kseq (R wT) (fin aaD))))
abbrev ov:Type:=(Bs×Bs×Int)
def mT(x:ov):St:={env:=(.str x.1::.undef::.undef::.str x.2.1::.int .i64 x.2.2::(U 26 [])),hp:=[]}
def s5(N:Nat):(St->Ro)->St->Ro:=λa s=>run wa N xP (aiv (run wa N) a) s
def oz(N:Nat)(a:ov->Ro)(x:ov):Ro:=
 let d:Bs:=x.1;let e:Bs:=x.2.1;let b:Int:=x.2.2;let i:=(↑(Aa d):Int)
 cond (decide (b<=i)) (
  let k:=(↑(Aa d):Int)
  cond (decide (b<k)) (
   chk (ixl b d) (
    let o:=(↑(AJ (An d (Ah b) 0)):Int)
    cond (!(o==46)) (
     let f:=(Ae .i64 (b+1))
     chk ((decide (0<=f)&&decide (f<=(↑(Aa d):Int))&&(decide (0<=b)&&decide (b<=f)))) (
      let g:=(Bd (Ah b) (Br (Ah f) d))
      chk (decide (Aa e+Aa g<=9223372036854775807)) (
       let h:=(Ae .i64 (b+1))
       a (d,(e++g),h)))) (
     af (fU e) (λ(m:Bool)=>
      cond (!m) (
       some (.bool false,[])) (
       let j:=(Ae .i64 (b+1))
       a (d,([]:Bs),j)))))) (
   af (fU e) (λ(p:Bool)=>
    cond (!p) (
     some (.bool false,[])) (
     let q:=(Ae .i64 (b+1))
     a (d,([]:Bs),q))))) (
  some (.bool true,[]))
theorem ahl(N:Nat):LB (s5 N) mT (oz N):=λ_ _=>by kernel_rfl
def mf(N:Nat)(a:Bs)(b:ov->Ro):Ro:=
 b (a,([]:Bs),0)
def aaE(N:Nat)(a:Bs):Ro:=mf N a (λz=>aK N (oz N) z)
theorem aiw(N:Nat)(a:Bs)(h:Tot (aaE N a) (λz=>∃(d:Bool)(rest:List ai),z.1.dimR=.bool d∧z.2=rest∧xB a (d))):∃r,nu a r:=ajV.finP (N:=N) ((cz _ (by kernel_rfl) rfl (λC=>mf N a (λz=>C 1000000 (mT z))) (λC=>by kernel_rfl)).trans (A8 (b:=mf N a (λz=>bi N (s5 N) (mT z))) (by kernel_rfl) (congrArg (mf N a) (funext λz=>bm (mT) (s5 N) (oz N) (ahl N) N z)))) h λ_ ⟨d,_,e,_,q⟩=>⟨(d),e,q⟩
theorem uM:∀(l:List (List UInt8))(s:List UInt8), -1<=bV l s∧bV l s<(l.length:Int)
 | [],s=>by simp[bV]
 |x::l,s=>by
  have:=uM l s;unfold bV;simp only[Af];split;·omega
  ·split<;>omega
theorem tv{α:Type}{l:List α}{i:Int}{d:α}(h:0<=i∧i<(l.length:Int)):l.drop i.toNat=l.getD i.toNat d::l.drop (i+1).toNat:=by
 have a:i.toNat<l.length:=by omega
 rw[AK a,Al,Ab a,show (i+1).toNat=i.toNat+1 by omega];rfl
theorem ao0{α:Type}{l:List α}{i:Int}(h:(l.length:Int)<=i):l.drop i.toNat=[]:=BW (by omega)
theorem ao1{s:List UInt8}(a:s≠[]):nV s=if bV bj s<0 then 0 else bV bj s+1:=by
 have e:bV ([]::bj) s=if bV bj s<0 then -1 else bV bj s+1:=by rw[bV];exact if_neg λe=>a e.symm
 have:=uM bj s;unfold nV;rw[e];by_cases h:bV bj s<0;·simp[h]
 ·rw[if_neg h,if_neg (by omega),if_neg h]
theorem aaF(s:List UInt8):∃r,dz s r:=by
 obtain⟨N,A⟩:∃N:Nat,N=100:=⟨_,rfl⟩
 apply aio N;unfold aaw mc;have B:=uM bj s;refine ba (λx=>match x with|(s',f,l,i)=>s'=s∧l=bj∧(0<=i∧i<=(bj.length:Int))∧bV bj s=(if bV (bj.drop i.toNat) s<0 then -1 else bV (bj.drop i.toNat) s+i)) (λx=>((bj.length:Int)-x.2.2.2).toNat) ?_ _ _ ⟨rfl,rfl,⟨by simp,by simp⟩,?_⟩ (by rw[A];show ((14:Int)-0).toNat<100;decide)
 ·rintro m ⟨s',f,l,i⟩ ⟨rfl,rfl,⟨t,C⟩,a⟩ u;dsimp only at u;have y:bj.length=14:=rfl;unfold ot;dsimp only;have v:i<(bj.length:Int)->IntKind.i64.wrap (i+1)=i+1:=λh=>ax (i+1) (by omega)
  refine ab (λp=>?_) (λp=>am ⟨_,_,rfl,rfl,?_⟩)
  ·have b:i<(bj.length:Int):=of_decide_eq_true p;have hd:=tv (d:=(ao .str:List UInt8)) ⟨t,b⟩;rw[hd] at a;refine vck ?_ (ixt ⟨t,b⟩);refine ab (λg=>am ⟨_,_,rfl,rfl,?_⟩) (λg=>?_)
   ·have g:bj.getD i.toNat (ao .str)=s':=of_decide_eq_true g;have o:bV (bj.getD i.toNat (ao .str)::bj.drop (i+1).toNat) s'=0:=by rw[bV,if_pos g]
    rw[o] at a;simp only[Int.lt_irrefl,if_false,Int.zero_add] at a;show IntKind.i64.wrap (i+1)=nV s';rw[v b];have j:s'≠[]:=by
     rw[<-g];intro e;have:∀w∈bj,w≠[]:=by decide
     refine this (bj.getD i.toNat (ao .str)) ?_ e;rw[Al,Ab (by omega)];exact Bf _
    rw[ao1 j,a,if_neg (by omega)]
   ·have g:¬bj.getD i.toNat (ao .str)=s':=of_decide_eq_false g;rw[v b];refine u _ ⟨rfl,rfl,⟨by dsimp only;omega,by dsimp only;omega⟩,?_⟩ (by simp only;omega);have o:bV (bj.getD i.toNat (ao .str)::bj.drop (i+1).toNat) s'=if bV (bj.drop (i+1).toNat) s'<0 then -1 else bV (bj.drop (i+1).toNat) s'+1:=by rw[bV,if_neg g]
    rw[o] at a;have:=uM (bj.drop (i+1).toNat) s';dsimp only;rw[a];by_cases q:bV (bj.drop (i+1).toNat) s'<0;·simp[q]
    ·simp only[q,if_false];rw[if_neg (by omega)];omega
  ·have k:(bj.length:Int)<=i:=by have:=of_decide_eq_false p;omega
   rw[ao0 k] at a;have a:bV bj s'=-1:=by simpa [bV] using a
   show (0:Int)=nV s';by_cases j:s'=[]
   ·subst j;rfl
   ·rw[ao1 j,a];rfl
 ·simp only[Int.toNat_zero,Cc];split<;>omega
theorem asH(k:Int):∃r,nq k r:=by
 apply aip 1;unfold aay aax;refine ab (λh=>am ⟨_,_,rfl,rfl,?_⟩) (λh=>?_);·have:=of_decide_eq_true h;show []=bE k;rw[bE,if_neg (by omega)]
 refine ab (λa=>am ⟨_,_,rfl,rfl,?_⟩) (λa=>?_);·have:=of_decide_eq_true a;show []=bE k;rw[bE,if_neg (by omega)]
 have h:=of_decide_eq_false h;have a:=of_decide_eq_false a;refine vck ?_ (ixt ⟨by omega,by show k<(15:Int);omega⟩);refine am ⟨_,_,rfl,rfl,?_⟩;show An ([]::bj) k.toNat _=bE k;rw[bE,if_pos (by omega)];obtain⟨n,e⟩:∃n:Nat,k=n+1:=⟨(k-1).toNat,by omega⟩
 have b:k.toNat=n+1:=by omega
 have d:(k-1).toNat=n:=by omega
 rw[b,d,Cx];rfl
theorem ao2(ts:List ac)(i:Int):∃r,lL ts i r:=by
 apply ajL 1;unfold ack acj;refine ab (λh=>am ⟨_,_,rfl,rfl,?_⟩) (λh=>?_);·have:=of_decide_eq_true h;show []=fw ts i;rw[fw,if_neg (by omega)]
 have h:=of_decide_eq_false h;dsimp only;refine ab (λa=>am ⟨_,_,rfl,rfl,?_⟩) (λa=>?_);·have:=of_decide_eq_true a;show []=fw ts i;rw[fw,if_neg (by omega)]
 have a:=of_decide_eq_false a;refine vck ?_ (ixt ⟨by omega,by omega⟩);refine ab (λb=>?_) (λb=>?_);·refine vck ?_ (ixt ⟨by omega,by omega⟩);refine am ⟨_,_,rfl,rfl,?_⟩;show _=fw ts i;rw[fw,if_pos (by omega),if_pos (by simpa using b)]
 ·refine vck ?_ (ixt ⟨by omega,by omega⟩);refine ah (asH _) ?_;rintro _ ⟨-,rfl⟩;refine am ⟨_,_,rfl,rfl,?_⟩;show _=fw ts i;rw[fw,if_pos (by omega),if_neg (by simpa using b)]
theorem apU(s:List UInt8)(F:s.length<=1000000):∃r,ey s r:=by
 apply agt 1000002;unfold xO kh;dsimp only;have A:IntKind.i64.wrap ((s.length:Int)-1)=(s.length:Int)-1:=ax _ (by omega);rw[A];refine ba (λx=>match x with|(s',i)=>s'=s∧(-1<=i∧i<(s.length:Int))∧∀j:Nat,i<(j:Int)->j<s.length->s.getD j 0≠46) (λx=>(x.2+1).toNat) ?_ _ _ ⟨rfl,⟨by omega,by omega⟩,λj u v=>by omega⟩ (by simp only;omega);rintro g ⟨s',i⟩ ⟨rfl,⟨E,D⟩,m⟩ p;dsimp only at p;unfold me;dsimp only;have o:=ajv s';refine ab (λb=>?_) (λb=>am ⟨_,_,rfl,rfl,?_⟩)
 ·have b:=of_decide_eq_true b;refine vck ?_ (ixt ⟨b,D⟩);refine ab (λa=>?_) (λa=>?_)
  ·have a:s'.getD i.toNat 0=46:=by
    refine BR.1 ?_;have:((s'.getD i.toNat 0).toNat:Int)=46:=by simpa using a
    simpa using (by omega:(s'.getD i.toNat 0).toNat=46)
   refine vck ?_ (by simp;omega);refine am ⟨_,_,rfl,rfl,?_⟩;show Bd 0 (s'.take i.toNat)=aG s';rw[Cc,aG];rcases o with⟨y,t⟩|⟨k,d,q,f,w⟩
   ·exact absurd a (t _ (by omega))
   ·have:k=i.toNat:=by
     rcases CG k i.toNat with h|h|h;·exact absurd a (w _ h (by omega))
     ·exact h
     ·exact absurd f (m k (by omega) d)
    rw[q,this,At]
  ·have a:s'.getD i.toNat 0≠46:=by
    intro e;rw[e] at a;simp at a
   have C:IntKind.i64.wrap (i-1)=i-1:=ax (i-1) (by omega);rw[C];refine p _ ⟨rfl,⟨by first|omega|(dsimp only;omega),by first|omega|(dsimp only;omega)⟩,λj u v=>?_⟩ (by simp only;omega);by_cases B:i<(j:Int);·exact m j B v
   ·have:j=i.toNat:=by dsimp only at u;omega
    rw[this];exact a
 ·have b:=of_decide_eq_false b;show []=aG s';rw[aG];rcases o with⟨y,t⟩|⟨k,d,q,f,w⟩
  ·rw[y];rfl
  ·exact absurd f (m k (by omega) d)
theorem asI(names:List (List UInt8))(l:List aa)(name:List UInt8)(i:Nat)(a:i<names.length)(d:i<l.length)(b:names.getD i (ao .str)≠name):cb (names.drop i) (l.drop i) name=cb (names.drop (i+1)) (l.drop (i+1)) name:=by rw[AK a,AK d,cb,if_neg];rw[Al,Ab a] at b;exact b
theorem ii(n:aa)(name:List UInt8)(J:n.names.length<=1000000):∃r,aR n name r:=by
 apply ala 1000001;unfold aeE oR;have k:(if n.kind=6 then cb n.names n.l name else none)=none->∀(t w:Int)(y:List UInt8)(B:List aa)(A:List (List UInt8))(o:List ai),t=0->w=0->y=[]->B=[]->A=[]->Tot (some (.tup [.agg [.int .i64 t,.int .i64 w,.str y,.sl .jnode (.may true) B,.sl .str (.may true) A],.bool false],o):Ro) (λz=>∃(u:aa)(q:Bool)(rest:List ai),z.1.dimR=.tup [.agg (enc .jnode u),.bool q]∧z.2=rest∧lT n name (u,q)):=by rintro e _ _ _ _ _ o rfl rfl rfl rfl rfl;refine am ⟨.mk 0 0 [] [] [],false,_,rfl,rfl,?_⟩;simp only[lT,aj,e];rfl
 refine ba (λx=>match x with|(p,c,i,F,D,G,H,E)=>p=name∧c=n∧(0<=i∧i<=(n.names.length:Int))∧cb n.names n.l name=cb (n.names.drop i.toNat) (n.l.drop i.toNat) name) (λx=>((n.names.length:Int)-x.2.2.1).toNat) ?_ _ _ ⟨rfl,rfl,⟨by simp,by simp⟩,by simp⟩ (by simp;omega);rintro m ⟨p,c,i,F,D,G,H,E⟩ ⟨rfl,rfl,⟨C,L⟩,j⟩ v;dsimp only at v;unfold qX;dsimp only;refine ab (λd=>?_) (λd=>k (by rw[if_neg (by simpa using d)]) _ _ _ _ _ _ rfl rfl rfl rfl rfl);have d:c.kind=6:=by simpa using d
 refine ab (λh=>?_) (λh=>k ?_ _ _ _ _ _ _ rfl rfl rfl rfl rfl)
 ·have h:=of_decide_eq_true h;have f:i.toNat<c.names.length:=by omega
  refine ab (λg=>?_) (λg=>k ?_ _ _ _ _ _ _ rfl rfl rfl rfl rfl)
  ·have g:=of_decide_eq_true g;have b:i.toNat<c.l.length:=by omega
   refine vck ?_ (ixt ⟨C,h⟩);refine ab (λa=>?_) (λa=>?_)
   ·have a:=of_decide_eq_true a;refine vck ?_ (ixt ⟨C,g⟩);refine am ⟨c.l.getD i.toNat (ao .jnode),true,_,?_,rfl,?_⟩;·generalize c.l.getD i.toNat (ao .jnode)=x;cases x;rfl
    ·simp only[lT,aj,if_pos d];rw[j,AK f,AK b,cb,if_pos,Al,Ab b];·rfl
     ·rw[Al,Ab f] at a;exact a
   ·have a:=of_decide_eq_false a;have I:IntKind.i64.wrap (i+1)=i+1:=ax (i+1) (by omega);rw[I];refine v _ ⟨rfl,rfl,⟨by first|omega|(dsimp only;omega),by first|omega|(dsimp only;omega)⟩,?_⟩ (by simp only;omega);rw[j,asI _ _ _ _ f b a];dsimp only;rw[show (i+1).toNat=i.toNat+1 by omega]
  ·have g:=of_decide_eq_false g;rw[if_pos d,j,show Bd i.toNat c.l=[] from BW (by omega)];cases Bd i.toNat c.names<;>rfl
 ·have h:=of_decide_eq_false h;rw[if_pos d,j,show Bd i.toNat c.names=[] from BW (by omega)];rfl
theorem apV(c:Int)(d:0<=c∧c<=255):∃r,lZ c r:=by
 apply ahk 1;unfold zc zb;dsimp only;have a:=aro ⟨c.toNat,by omega⟩;dsimp only at a
 repeat' (first|(with_reducible refine ab ?_ ?_<;>(intro b;(try simp only[bnl] at b);(try revert b;intro _)))|with_reducible refine ct ?_ ?_|with_reducible refine am ?_|fail)
 all_goals
  refine⟨_,_,rfl,rfl,?_⟩;show _=dO jt _;rw[a,Ch];simp only[A7,Ac,decide_eq_true_eq,beq_iff_eq,true_iff];omega
theorem arx(c:Int)(b:0<=c∧c<=255):∃r,nv c r:=by
 apply ait 1;unfold aaC aaB;have a:=asA ⟨c.toNat,by omega⟩;dsimp only at a;refine ab (λh=>am ⟨_,_,rfl,rfl,?_⟩) (λh=>am ⟨_,_,rfl,rfl,?_⟩);·have h:=of_decide_eq_true h;show decide (c<=57)=_;rw[a,Ch];simp only[Ac,decide_eq_true_eq];omega
 ·have h:=of_decide_eq_false h;show false=_;rw[a,eq_comm,B2];simp only[decide_eq_false_iff_not];omega
theorem wU(s:List UInt8)(J:s.length<=1000000):∃r,fU s r:=by
 apply ajS 1000001;unfold acm nC;refine ba (λx=>match x with|(s',i)=>s'=s∧(0<=i∧i<=(s.length:Int))∧∀(j:Nat) c,(j:Int)<i->s[j]? =some c->okC j c=true) (λx=>((s.length:Int)-x.2).toNat) ?_ _ _ ⟨rfl,⟨by simp,by simp⟩,λj c k=>by omega⟩ (by simp;omega);rintro a ⟨s',i⟩ ⟨rfl,⟨E,L⟩,C⟩ A;dsimp only at A;unfold pJ;dsimp only;refine ab (λe=>?_) (λe=>am ⟨_,_,rfl,rfl,?_⟩)
 ·have e:=of_decide_eq_true e;have w:i.toNat<s'.length:=by omega
  have v:s'[i.toNat]? =some (s'.getD i.toNat 0):=by rw[Al,Ab w];rfl
  generalize s'.getD i.toNat 0=u at v ⊢;have I:=u.toNat_lt;have B:AF ((u.toNat:Int)).toNat=u:=by simp
  have D:IntKind.i64.wrap (i+1)=i+1:=ax (i+1) (by omega);have g:okC i.toNat u=false->sS s' false:=λh=>by
   show false=b9 s';cases hp:b9 s' with
   |false=>rfl
   |true=>have:=(agn s').1 hp |>.2 _ _ v;rw[h] at this;cases this
  have next:okC i.toNat u=true->∀Q,(∀y,(λx:List UInt8×Int=>match x with|(p,i)=>p=s'∧(0<=i∧i<=(s'.length:Int))∧∀(j:Nat) c,(j:Int)<i->s'[j]? =some c->okC j c=true) y->((s'.length:Int)-y.2).toNat<((s'.length:Int)-i).toNat->Tot (a y) Q)->Tot (a (s',i+1)) Q:=λh Q F=>by
   refine F _ ⟨rfl,⟨by omega,by omega⟩,λj c k d=>?_⟩ (by simp only;omega);by_cases q:(j:Int)<i;·exact C j c q d
   ·have:j=i.toNat:=by omega
    subst this;rw[v] at d;rw[<-Ax d];exact h
  refine vck ?_ (ixt ⟨E,e⟩);refine ah (apV _ ⟨by omega,by omega⟩) ?_;rintro G ⟨-,m⟩;have m:G=dO jt u:=by rw[<-B];exact m
  refine ab (λb=>?_) (λb=>?_)
  ·have b:dO jt u=false:=by rw[<-m];simpa using b
   refine ab (λf=>am ⟨_,_,rfl,rfl,g ?_⟩) (λf=>?_)
   ·have:i.toNat=0:=by
                 have:i=0:=by simpa using f
                 omega
    simp[okC,b,this]
   ·have f:¬i.toNat=0:=by
                   have:¬i=0:=by simpa using f
                   omega
    refine vck ?_ (ixt ⟨E,e⟩);refine ah (arx _ ⟨by omega,by omega⟩) ?_;rintro H ⟨-,o⟩;have o:H=dO o7 u:=by rw[<-B];exact o
    refine ab (λhd=>am ⟨_,_,rfl,rfl,g ?_⟩) (λhd=>?_)
    ·have hd:dO o7 u=false:=by rw[<-o];simpa using hd
     simp[okC,b,hd]
    ·have hd:dO o7 u=true:=by rw[<-o];simpa using hd
     rw[D];exact next (by simp[okC,b,hd,f]) _ A
  ·have b:dO jt u=true:=by rw[<-m];simpa using b
   rw[D];exact next (by simp[okC,b]) _ A
 ·have e:=of_decide_eq_false e;show decide (0<(s'.length:Int))=b9 s';by_cases t:s'=[]
  ·subst t;decide
  ·have:0<s'.length:=List.length_pos_iff.2 t;rw[(agn s').2 ⟨t,λj c k=>C j c (by have:=(Ad.1 k).1;omega) k⟩];simpa using this
theorem asJ(a b:List UInt8)(e:a.length<=1000000)(f:b.length<=1000000):∃r,oM a b r:=by
 apply ajT 1;unfold aco acn;dsimp only;refine ab (λh=>?_) (λh=>?_);·have h:=of_decide_eq_true h;refine vck ?_ (decide_eq_true (by omega));exact am ⟨_,_,rfl,rfl,by simp[kV,h]⟩
 have h:=of_decide_eq_false h;refine ab (λd=>?_) (λd=>?_);·have d:=of_decide_eq_true d;refine vck ?_ (decide_eq_true (by omega));exact am ⟨_,_,rfl,rfl,by simp[kV,d]⟩
 have d:=of_decide_eq_false d;refine vck ?_ (decide_eq_true (by simp only[Af,Ak];omega));refine vck ?_ (decide_eq_true (by simp only[Aj,Af,Ak];omega));exact am ⟨_,_,rfl,rfl,by simp[kV,h,d]⟩
theorem ary(s:List UInt8)(D:s.length<=1000000):∃r,nu s r:=by
 apply aiw 1000003;unfold aaE mf;refine ba (λx=>match x with|(s',p,i)=>s'=s∧0<=i∧(p.length:Int)<=i∧(i<=(s.length:Int)∧(Go.Lib.split s [46]).all b9=(ec p (s.drop i.toNat)).all b9∨i=(s.length:Int)+1∧(Go.Lib.split s [46]).all b9=true)) (λx=>((s.length:Int)+1-x.2.2).toNat) ?_ _ _ ⟨rfl,by simp,by simp,.inl ⟨by simp,by simp[aik]⟩⟩ (by simp;omega);rintro u ⟨s',p,i⟩ ⟨rfl,w,C,a⟩ m;dsimp only at m;unfold oz;dsimp only;refine ab (λk=>?_) (λk=>am ⟨_,_,rfl,rfl,?_⟩)
 ·have k:=of_decide_eq_true k;rcases a with⟨-,a⟩|⟨a, -⟩
  ·have t:IntKind.i64.wrap (i+1)=i+1:=ax (i+1) (by omega);refine ab (λg=>?_) (λg=>?_)
   ·have g:=of_decide_eq_true g;have j:i.toNat<s'.length:=by omega
    have hd:=tv (d:=(0:UInt8)) ⟨w,g⟩;have A:(i+1).toNat=i.toNat+1:=by omega
    rw[hd] at a;refine vck ?_ (ixt ⟨w,g⟩);refine ab (λo=>?_) (λo=>?_)
    ·have v:s'.getD i.toNat 0≠46:=by
      intro e;rw[e] at o;simp at o
     rw[t];refine vck ?_ (by simp;omega);have y:Bd i.toNat (s'.take (i+1).toNat)=[s'.getD i.toNat 0]:=by rw[A,Bt,Ab j,List.drop_append_of_le_length (by simp;omega),BW (by rw[BI];omega),Al,Ab j];rfl
     rw[y];refine vck ?_ (decide_eq_true (by simp only[Af,Ak];omega));refine m _ ⟨rfl,by first|omega|(dsimp only;omega),by simp only[Aj,Af,Ak];omega,.inl ⟨by first|omega|(dsimp only;omega),?_⟩⟩ (by simp only;omega);dsimp only;rw[a,ec,if_neg v]
    ·have B:s'.getD i.toNat 0=46:=by
      refine BR.1 ?_;have:((s'.getD i.toNat 0).toNat:Int)=46:=by simpa using o
      simpa using (by omega:(s'.getD i.toNat 0).toNat=46)
     rw[ec,if_pos B,Cm] at a;refine ah (wU _ (by omega)) ?_;rintro q ⟨-,f⟩;have f:q=b9 p:=f;refine ab (λb=>am ⟨_,_,rfl,rfl,?_⟩) (λb=>?_)
     ·have b:b9 p=false:=by rw[<-f];simpa using b
      show false=_;rw[a,b];rfl
     ·have b:b9 p=true:=by rw[<-f];simpa using b
      rw[t];refine m _ ⟨rfl,by first|omega|(dsimp only;omega),by simp only[Ak];omega,.inl ⟨by first|omega|(dsimp only;omega),?_⟩⟩ (by simp only;omega);dsimp only;rw[a,b,Bool.true_and]
   ·have g:=of_decide_eq_false g;rw[ao0 (by omega),ec] at a;refine ah (wU _ (by omega)) ?_;rintro q ⟨-,f⟩;have f:q=b9 p:=f;have a:(Go.Lib.split s' [46]).all b9=b9 p:=by rw[a];simp
    refine ab (λb=>am ⟨_,_,rfl,rfl,?_⟩) (λb=>?_);·show false=_;rw[a,<-f];simpa using b
    ·rw[t];refine m _ ⟨rfl,by first|omega|(dsimp only;omega),by simp only[Ak];omega,.inr ⟨by first|omega|(dsimp only;omega),?_⟩⟩ (by simp only;omega);rw[a,<-f];simpa using b
  ·omega
 ·have k:=of_decide_eq_false k;rcases a with⟨h, -⟩|⟨-,h⟩
  ·omega
  ·exact h.symm
def alh(s:List UInt8)(i:Int):Prop:=0<=i∧i<=(s.length:Int)∧∀c r,s.drop i.toNat=c::r->33<=c.toNat
theorem bG.nosp{s:List UInt8}{i:Int}{c:UInt8}{t rest:List UInt8}(h:bG s i (c::t) rest)(f:33<=c.toNat):alh s i:=by
 obtain⟨a,b,d⟩:=h.at
 refine⟨a.1,by omega,λx r e=>?_⟩;rw[h.2] at e;rw[<-(AV e).1];exact f
theorem bG.nospE{s:List UInt8}{i:Int}{rest:List UInt8}(h:bG s i [] rest)(b:i<=(s.length:Int))(d:ry rest):alh s i:=by refine⟨h.1,b,λx r a=>?_⟩;rw[h.2] at a;exact(ajF d a).2.2.2.2
theorem yd(s:List UInt8)(i e:Int)(h:alh s i):∃r,dm s i e r:=by
 obtain⟨a,m,j⟩:=h;apply ab3 2;unfold uC gY;refine ba (λx=>x=(s,i,e)) (λ_=>0) ?_ _ _ rfl (by decide);rintro b _ rfl k;unfold jX;dsimp only;refine ab (λh=>?_) (λh=>am ⟨_,_,_,_,rfl,rfl,rfl⟩);have h:=of_decide_eq_true h;have d:i.toNat<s.length:=by omega
 have g:=j _ _ (AK d);have f:s.getD i.toNat 0=s[i.toNat]:=by rw[Al,Ab d];rfl
 rw[f];generalize s[i.toNat]=c at g;refine vck ?_ (ixt ⟨a,h⟩);refine ab (λh=>absurd (show (c.toNat:Int)=9 by simpa using h) (by omega)) (λ_=>vck ?_ (ixt ⟨a,h⟩));refine ab (λh=>absurd (show (c.toNat:Int)=10 by simpa using h) (by omega)) (λ_=>vck ?_ (ixt ⟨a,h⟩));refine ab (λh=>absurd (show (c.toNat:Int)=13 by simpa using h) (by omega)) (λ_=>vck ?_ (ixt ⟨a,h⟩));refine ab (λh=>absurd (show (c.toNat:Int)=32 by simpa using h) (by omega)) (λ_=>am ⟨_,_,_,_,rfl,rfl,rfl⟩)
theorem wb(s:List UInt8)(i:Int)(t:List UInt8)(h:alh s i)(u:s.length<=10000)(v:t.length<=10):∃r,bC s i 0 t r:=by
 obtain⟨m,q,p⟩:=h;apply agj 1;unfold xI xH;dsimp only;refine ah (yd s i 0 ⟨m,q,p⟩) ?_;rintro _ ⟨-,rfl⟩;have o:Ae .i64 (i+(t.length:Int))=i+(t.length:Int):=ax _ (by omega);simp only[o];have j:¬t <+:s.drop i.toNat->∃(f:Bool)(g:List UInt8)(e d:Int)(rest:List ai),(V.bool false).dimR=.bool f∧([some [.str s,.int .i64 i,.int .i64 0]]:List ai)=some [.str g,.int .i64 e,.int .i64 d]::rest∧je s i 0 t (f,g,e,d):=by
  intro b;have b:t.isPrefixOf (s.drop i.toNat)=false:=by rw[Bool.eq_false_iff];exactλh=>b (CR.1 h)
  exact⟨_,_,_,_,_,rfl,rfl,by simp only[je,b];rfl⟩
 refine ab (λh=>absurd h (by decide)) (λ_=>?_);refine ab (λh=>am (j λhp=>?_)) (λh=>?_);·have:=hp.length_le;rw[BH] at this;have:=of_decide_eq_true h;omega
 have h:=of_decide_eq_false h;refine vck ?_ (by simp only[Ac,decide_eq_true_eq];omega);have k:Bd (Ah i) (Br (Ah (i+(t.length:Int))) s)=(s.drop i.toNat).take t.length:=by rw[DH,show Ah (i+(t.length:Int))-Ah i=t.length by omega]
 rw[k];refine ab (λa=>am (j λhp=>?_)) (λa=>?_)
 ·have a:¬(s.drop i.toNat).take t.length=t:=by simpa using a
  exact a (Eb.1 hp).symm
 ·have a:(s.drop i.toNat).take t.length=t:=by simpa using a
  have hp:t.isPrefixOf (s.drop i.toNat)=true:=CR.2 (Eb.2 a.symm);exact am ⟨_,_,_,_,_,rfl,rfl,by simp only[je,hp];rfl⟩
theorem wV(s:List UInt8)(i:Int)(c:UInt8)(t rest:List UInt8)(h:bG s i (c::t) rest)(b:33<=c.toNat)(a:s.length<=10000)(d:t.length<=9):∃r,bS s i 0 (c::t) r:=by apply adC 1;unfold vj vi;refine ah (wb s i (c::t) (h.nosp b) a (by simp only[Af];omega)) ?_;rintro _ ⟨-,rfl⟩;simp only[h.pre];refine ab (λh=>absurd h (by decide)) (λ_=>?_);exact am ⟨_,_,_,_,rfl,rfl,rfl⟩
theorem amg(s:List UInt8)(i:Int)(x rest:List UInt8)(b:dR x)(h:bG s i (34::(x++[34])) rest)(p:s.length<=10000):∃r,gj s i 0 r:=by
 apply adE 1;unfold vn vm;dsimp only;obtain⟨q,o,m⟩:=h.at
 refine ah (yd s i 0 (h.nosp (by decide))) ?_;rintro _ ⟨-,rfl⟩;have f:=h.len (by omega);simp only[Af,Aj,Ak] at f;have e:Bd (Ah i) (Br (Aa s) s)=34::(x++34::rest):=by rw[BM,h.2];simp
 refine ab (λh=>absurd h (show ¬((!((0:Int)==0))=true) by decide)) (λ_=>?_);refine vck ?_ (by simp only[Ac,decide_eq_true_eq];omega);rw[e];refine ah (apT x rest b (by omega)) ?_;rintro t ⟨-,y,a,g,d,rfl⟩;obtain⟨k,j⟩:=ajE (agr b) (agr g) (AV d).2;subst k j;refine ab (λh=>absurd h (show ¬((!((0:Int)==0))=true) by decide)) (λ_=>?_);refine am ⟨_,_,_,_,_,rfl,rfl,x,rest,b,h,?_⟩;simp only[Ao,true_and,and_true];rw[ax _ (by omega)];omega
theorem ao3{s:List UInt8}{i e:Int}{r:List UInt8×RT}(hp:ni s i e r){x rest:List UInt8}(j:dR x)(h:bG s i (34::(x++[34])) rest):r=(x,s,i+(x.length:Int)+2,e):=by obtain⟨y,a,d,g,rfl⟩:=hp;have b:=h.2.symm.trans g.2;simp only[AI,AC,AW] at b;obtain⟨f, -⟩:=ajE (agr j) (agr d) (AV b).2;rw[f]
theorem aqn:∀(l:List UInt8)(v:Nat),v<=l.foldl (λv c=>v*10+(c.toNat-48)) v
 | [],v=>Ar _
 |c::l,v=>by rw[BS];have:=aqn l (v*10+(c.toNat-48));omega
theorem auJ(a:List UInt8)(c:UInt8)(b:List UInt8):dgV a<=dgV (a++c::b)∧dgV (a++[c])=dgV a*10+(c.toNat-48):=by unfold dgV;rw[Da,Da];exact⟨aqn _ _,rfl⟩
theorem arz(s:List UInt8)(i:Int)(v:Nat)(rest:List UInt8)(hv:v<=255)(h:bG s i (Go.Lib.decDigits v) rest)(hr:ry rest)(hs:s.length<=10000):∃r,eU s i 0 r:=by
 obtain⟨f1,f2,f3,f4⟩:=yZ v;obtain⟨C,t0,hd⟩:∃c t,Go.Lib.decDigits v=c::t:=by
  cases hd:Go.Lib.decDigits v with
  |nil=>exact absurd hd f3
  |cons c t=>exact⟨c,t,rfl⟩
 have hq:∃j rest,PJ j∧j.kind=3∧bG s i (aw j) rest∧ry rest∧((.mk 3 (v:Int) [] [] [],s,i+((Go.Lib.decDigits v).length:Int),0):aa×RT)=(j,s,i+((aw j).length:Int),0):=
  ⟨.mk 3 (v:Int) [] [] [],rest,.num _ ⟨by omega,by omega⟩,rfl,by rw[om];exact h,hr,by rw[om];rfl⟩
 obtain⟨a1,a2, -⟩:=bG.at (hd▸h)
 have Z:=h.len (by omega);apply aa6 100000;unfold tm gm;dsimp only;rw[a2];have bx:=f2 C (by rw[hd];simp);refine vck ?_ (ixt a1);refine ab (λh=>absurd (show (C.toNat:Int)=45 by simpa using h) (by omega)) (λP=>?_);rw[P];unfold mC iO;dsimp only
 refine ba (λx=>match x with|(v4,d,Y,s',i',e',X,R,W,o3,S)=>v4=false∧d=i∧s'=s∧e'=0∧X=0∧R=0∧W=[]∧o3=[]∧S=[]∧∃b o,Go.Lib.decDigits v=b++o∧i'=i+(b.length:Int)∧Y=(dgV b:Int))
  (λx=>(i+((Go.Lib.decDigits v).length:Int)-x.2.2.2.2.1).toNat) ?_ _ _ ⟨rfl,rfl,rfl,rfl,rfl,rfl,rfl,rfl,rfl,[],_,rfl,by simp,rfl⟩ (by simp only;omega)
 rintro N ⟨v4,d,Y,s',i',e',X,R,W,o3,S⟩ ⟨rfl,rfl,rfl,rfl,rfl,rfl,rfl,rfl,rfl,b,o,a,rfl,rfl⟩ ih;dsimp only at ih;have hh:bG s' (d+(b.length:Int)) o rest:=bG.step (by rw[a] at h;exact bG.app.1 h);have H:(Go.Lib.decDigits v).length=b.length+o.length:=by rw[a,Aj]
 unfold fJ iN;dsimp only;cases o with
 |cons c o=>
  obtain⟨I,b2,b3⟩:=hh.at
  have cd:=f2 c (by rw[a];simp);obtain⟨m1,m2⟩:=auJ b c o;rw[<-a,f1] at m1;rw[b2];refine ab (λ_=>?_) (λh=>absurd (of_decide_eq_false h) (by omega));refine vck ?_ (ixt I);refine ab (λ_=>?_) (λh=>absurd (of_decide_eq_false h) (by omega));refine vck ?_ (ixt I);refine ab (λ_=>?_) (λh=>absurd (of_decide_eq_false h) (by omega));unfold jz;dsimp only;rw[b2];have w1:Ae .u8 ((c.toNat:Int)-48)=((c.toNat-48:Nat):Int):=by rw[xX _ (by omega)];omega
  have w2:Ae .u64 ((c.toNat-48:Nat):Int)=((c.toNat-48:Nat):Int):=by rw[gJ _ (by omega)]
  have w3:Ae .u64 (9223372036854775808-((c.toNat-48:Nat):Int))=9223372036854775808-((c.toNat-48:Nat):Int):=by rw[gJ _ (by omega)]
  have w4:Ae .u64 (Ck (9223372036854775808-((c.toNat-48:Nat):Int)) 10)=(9223372036854775808-((c.toNat-48:Nat):Int)) / 10:=by rw[BX (by omega),gJ _ (by omega)]
  have w5:Ae .u64 ((dgV b:Int)*10)=(dgV b:Int)*10:=by rw[gJ _ (by omega)]
  have w6:Ae .u64 ((dgV b:Int)*10+((c.toNat-48:Nat):Int))=(dgV (b++[c]):Int):=by rw[gJ _ (by omega),m2];omega
  have w7:Ae .i64 (d+(b.length:Int)+1)=d+(b.length:Int)+1:=ax _ (by omega);rw[w1,w2,w3,w4,w5,w6,w7];refine vck ?_ (ixt I);refine ab (λh=>absurd (of_decide_eq_true h) (by omega)) (λ_=>?_);refine ih _ ⟨rfl,rfl,rfl,rfl,rfl,rfl,rfl,rfl,rfl,b++[c],o,by rw[a];simp,by simp only[Aj,Af,Ak];omega,rfl⟩ (by simp only[Af] at H;simp only;omega)
 |nil=>
  rw[BL] at a;subst a;have fin:Tot (fH 100000 (false,d,(dgV (Go.Lib.decDigits v):Int),false,s',d+((Go.Lib.decDigits v).length:Int),0,0,0,[],[],[])) (λz=>∃(y:aa)(u:List UInt8)(A w:Int)(rest:List ai),z.1.dimR=.agg (enc .jnode y)∧z.2=some [.str u,.int .i64 A,.int .i64 w]::rest∧iG s' d 0 (y,u,A,w)):=by
   rw[f1];unfold fH iM;dsimp only;have m:Tot (fG 100000 (false,(v:Int),false,s',d+((Go.Lib.decDigits v).length:Int),0,0,0,[],[],[])) (λz=>∃(y:aa)(u:List UInt8)(A w:Int)(rest:List ai),z.1.dimR=.agg (enc .jnode y)∧z.2=some [.str u,.int .i64 A,.int .i64 w]::rest∧iG s' d 0 (y,u,A,w)):=by unfold fG iL;refine ab (λh=>absurd h (show ¬(false=true) by decide)) (λ_=>?_);unfold jE iK;refine ab (λh=>absurd h (show ¬(false=true) by decide)) (λ_=>?_);unfold jC iJ;refine ab (λh=>absurd h (show ¬(false=true) by decide)) (λ_=>?_);unfold jA;dsimp only;rw[ax (v:Int) (by omega)];exact am ⟨.mk 3 (v:Int) [] [] [],_,_,_,_,rfl,rfl,hq⟩
   have O:(decide ((9223372036854775807:Int)<(v:Int)))=false:=decide_eq_false (by omega);refine ab (λh=>absurd (show d+((Go.Lib.decDigits v).length:Int)=d by simpa using h) (by rw[hd];simp only[Af];omega)) (λ_=>?_);refine vck ?_ (ixt a1);rw[a2,O];refine ab (λh=>?_) (λ_=>?_)
   ·have p:C.toNat=48:=by
                    have:(C.toNat:Int)=48:=by simpa using h
                    omega
    have E:v=0:=f4 (by rw[hd];exact BR.1 p);rw[ax _ (by omega)];refine ab (λh=>absurd (of_decide_eq_true h) ?_) (λ_=>?_);·rw[E,Go.Lib.decDigits_one (by decide)];simp
    ·exact m
   ·exact m
  have L:=λc t (e:rest=c::t)=>ajF hr e
  have g:bG s' (d+((Go.Lib.decDigits v).length:Int)) [] rest:=hh;generalize d+((Go.Lib.decDigits v).length:Int)=k at*
  have q:∀(c:UInt8)(t:List UInt8),rest=c::t->(0<=k∧k<(s'.length:Int))∧s'.getD k.toNat 0=c:=by
   intro c t e;obtain⟨f,J, -⟩:=bG.at (s:=s') (i:=k) (c:=c) (t:=[]) (rest:=t) ⟨g.1,by rw[g.2,e];rfl⟩
   exact⟨f,J⟩
  have hk:k<(s'.length:Int)->∃c t,rest=c::t:=λB=>by
   cases D:rest with
   |nil=>have:=g.2;rw[D] at this;have:=congrArg Aa this;rw[BH] at this;simp at this;have:=g.1;omega
   |cons c t=>exact⟨c,t,rfl⟩
  have bn:∀(Q:Ro->Prop)(c:UInt8),True:=λ_ _=>trivial
  refine ab (λB=>?_) (λM=>?_)
  ·obtain⟨c,t,e⟩:=hk (of_decide_eq_true B);obtain⟨f,J⟩:=q c t e;obtain⟨n1,n2,n3,n4,n5⟩:=L c t e;rw[J];refine vck ?_ (ixt f);have G:((c.toNat:Int)==69)=false:=by rw[beq_eq_false_iff_ne];omega
   rw[G];refine ab (λp=>?_) (λ_=>?_);·refine vck ?_ (ixt f);refine ab (λF=>absurd (of_decide_eq_true F) (by have:=of_decide_eq_true p;omega)) (λ_=>?_);refine ab (λ_=>?_) (λh=>absurd (of_decide_eq_false h) (by omega));refine vck ?_ (ixt f);refine ab (λh=>absurd (show (c.toNat:Int)=46 by simpa using h) (by omega)) (λ_=>vck ?_ (ixt f));refine ab (λh=>absurd (show (c.toNat:Int)=101 by simpa using h) (by omega)) (λ_=>vck ?_ (ixt f));exact fin
   ·refine ab (λ_=>?_) (λh=>absurd (of_decide_eq_false h) (by omega));refine vck ?_ (ixt f);refine ab (λh=>absurd (show (c.toNat:Int)=46 by simpa using h) (by omega)) (λ_=>vck ?_ (ixt f));refine ab (λh=>absurd (show (c.toNat:Int)=101 by simpa using h) (by omega)) (λ_=>vck ?_ (ixt f));exact fin
  ·refine ab (λh=>absurd (of_decide_eq_true h) (of_decide_eq_false M)) (λ_=>?_);exact fin
theorem bG.to{s:List UInt8}{i:Int}{t rest:List UInt8}(h:bG s i t rest):bG s (i+(t.length:Int)) [] rest:=bG.step (t':=[]) h
theorem bG.hd{s:List UInt8}{i:Int}{c:UInt8}{rest:List UInt8}(h:bG s i [] (c::rest)):bG s i [c] rest:=h
theorem aix{s:List UInt8}{i:Int}{c d:UInt8}{t rest:List UInt8}(h:bG s i (c::t) rest):[d].isPrefixOf (s.drop i.toNat)=(d==c):=by rw[h.2];simp[List.isPrefixOf]
def RdT(j:aa):Prop:=∀(s:List UInt8)(i deep:Int)(rest:List UInt8),s.length<=10000->bG s i (aw j) rest->ry rest->1<=deep->deep+dJ j<=21->∃r,db s i 0 deep r
theorem atU(l:List aa)(Q:l.length<=8)(y:∀c∈l,PJ c)(ih:∀c∈l,RdT c)(s:List UInt8)(i deep:Int)(rest:List UInt8)(u:s.length<=10000)(h:bG s i (aw (cJ l)) rest)(hr:ry rest)(hd:1<=deep)(D:deep+dJ (cJ l)<=21):
  ∃r,gk s i 0 deep r:=by
 have I:nW s i 0 (λ_=>True) (cJ l,s,i+((aw (cJ l)).length:Int),0):=⟨_,_,.lst l y Q,trivial,h,hr,rfl⟩
 have ht:=vW l;generalize hT:aw (cJ l)=T at*
 subst ht;rw[cT] at D;apply adG 1000;unfold vp jh;obtain⟨a1,a2,k⟩:=h.at
 refine ah (wV s i 91 [] _ (bG.app (t:=[91]).1 h) (by decide) u (by simp)) ?_;rintro _ ⟨-,rfl⟩;have e1:i+(([91]:List UInt8).length:Int)=i+1:=by simp
 simp only[e1];have G:alh s (i+1):=by
  cases l with
  |nil=>exact bG.nosp (c:=93) (t:=[]) k (by decide)
  |cons c l=>obtain⟨x,t,F, -,S, -⟩:=(y c (by simp)).head;rw[kK,F] at k;exact bG.nosp (c:=x) k S
 refine ah (wb s (i+1) [93] G u (by simp)) ?_;rintro _ ⟨-,rfl⟩;cases l with
 |nil=>
  have p:[93].isPrefixOf (s.drop (i+1).toNat)=true:=by rw[aix (c:=93) (t:=[]) k];rfl
  simp only[p];refine ab (λ_=>am ⟨cJ [],_,_,_,_,rfl,rfl,?_⟩) (λh=>absurd h (by decide));have:(i+1+(([93]:List UInt8).length:Int))=i+((91::(eQ [44] (([]:List aa).map aw)++[93])).length:Int):=by simp[eQ,Go.Lib.join_nil];omega
  simp only[if_true];rw[this];exact I
 |cons c l=>
  obtain⟨x,t,F, -,S,g4⟩:=(y c (by simp)).head;have p:[93].isPrefixOf (s.drop (i+1).toNat)=false:=by have a4:=k;rw[kK,F] at a4;rw[aix (c:=x) a4];rw[beq_eq_false_iff_ne];rintro rfl;revert g4;decide
  simp only[p];refine ab (λh=>absurd h (by decide)) (λ_=>?_);rw[if_neg (by decide)];rw[kK] at I k;have E:bG s (i+1) (aw c) (dZ aw l++93::rest):=by
   rw[AC] at k;have:=bG.app.1 k
   rwa [AC] at this
  refine ba (λx=>match x with|(B,s',f,R,N,J,M,X,L,P,O,p2,A,Y)=>B=deep∧s'=s∧R=0∧N=0∧J=0∧M=[]∧X=[]∧L=[]∧P=5∧O=0∧p2=[]∧Y=[]∧∃d o,c::l=A++d::o∧bG s f (aw d) (dZ aw o++93::rest)∧f<=(s.length:Int)∧f+((aw d).length:Int)+((dZ aw o).length:Int)=i+1+((aw c++dZ aw l).length:Int))
   (λx=>100-x.2.2.2.2.2.2.2.2.2.2.2.2.1.length) ?_ _ _ ⟨rfl,rfl,rfl,rfl,rfl,rfl,rfl,rfl,rfl,rfl,rfl,rfl,c,l,rfl,E,by omega,by rw[Aj];omega⟩ (by simp only[Ak];omega)
  rintro H ⟨B,s',f,R,N,J,M,X,L,P,O,p2,A,Y⟩ ⟨rfl,rfl,rfl,rfl,rfl,rfl,rfl,rfl,rfl,rfl,rfl,rfl,d,o,g,w,C,b⟩ v;dsimp only at v;have q:d∈c::l:=by rw[g];simp
  have bl:A.length+o.length+1<=100:=by have:=congrArg Aa g;simp only[Aj,Af] at this Q;omega
  have bn:=abH _ d q;unfold kq;dsimp only;refine ab (λ_=>?_) (λh=>absurd h (by decide));rw[ax (B+1) (by omega)];have j:=vV aw o (e:=93) (.inl rfl) rest;refine ah (ih d q s' f (B+1) _ u w j (by omega) (by omega)) ?_;rintro r3 ⟨-,h3⟩;obtain rfl:=nW.get h3 (y d q) w j;dsimp only;rw[cn];refine vck ?_ (by simp only[Af,Ak,decide_eq_true_eq];omega);have a:=w.len C;rw[Aj,Af] at a;cases o with
  |nil=>
   have m:bG s' (f+((aw d).length:Int)) [93] rest:=w.to.hd;refine ah (wb s' _ [93] (m.nosp (by decide)) u (by simp)) ?_;rintro _ ⟨-,rfl⟩;have p:[93].isPrefixOf (s'.drop (f+((aw d).length:Int)).toNat)=true:=by rw[aix m];rfl
   simp only[p];refine ab (λ_=>am ⟨cJ (A++[d]),_,_,_,_,rfl,rfl,?_⟩) (λh=>absurd h (by decide));rw[<-g];simp only[if_true];rw[show f+((aw d).length:Int)+(([93]:List UInt8).length:Int)=i+((91::(aw c++dZ aw l++[93])).length:Int) by simp only[Aj,Af,Ak,asE] at b ⊢;omega];exact I
  |cons d2 Z=>
   have m:bG s' (f+((aw d).length:Int)) [44] (aw d2++(dZ aw Z++93::rest)):=by have:=w.to;rw[ig,AI,AC] at this;exact this.hd
   refine ah (wb s' _ [93] (m.nosp (by decide)) u (by simp)) ?_;rintro _ ⟨-,rfl⟩;have p:[93].isPrefixOf (s'.drop (f+((aw d).length:Int)).toNat)=false:=by rw[aix m];rfl
   simp only[p];refine ab (λh=>absurd h (by decide)) (λ_=>?_);rw[if_neg (by decide)];refine ah (wV s' _ 44 [] _ m (by decide) u (by simp)) ?_;rintro _ ⟨-,rfl⟩;have W:=bG.step (t:=[44]) m;rw[ig] at b a;simp only[Af,Aj,Ak] at W b a ⊢;refine v _ ⟨rfl,rfl,rfl,rfl,rfl,rfl,rfl,rfl,rfl,rfl,rfl,rfl,d2,Z,by rw[g];simp,W,by dsimp only;omega,by dsimp only;rw[Aj];omega⟩ (by simp only[Aj,Af,Ak];omega)
theorem amh{x:List UInt8}:∀{names:List (List UInt8)}{l:List aa},x ∉ names->cb names l x=none
 | [],l,_=>by simp[cb]
 |y::a,[],_=>by simp[cb]
 |y::a,d::l,h=>by simp only[AB,not_or] at h;simp only[cb,if_neg (Ci h.1)];exact amh h.2
theorem ami(x:List UInt8)(d:aa)(a:dR x):(d5 (x,d)).length=x.length+3+(aw d).length:=by simp only[d5,dd a,Aj,Af,Ak];omega
theorem arA(names:List (List UInt8))(l:List aa)(Q:names.length=l.length)(h0:l≠[])(D:names.Nodup)(hp:∀x∈names,dR x∧x.length<=100)(hl:l.length<=8)(hP:∀c∈l,PJ c)(ih:∀c∈l,RdT c)
  (s:List UInt8) (i deep:Int) (rest:List UInt8) (v:s.length<=10000) (h:bG s i (aw (bK names l)) rest) (hr:ry rest) (hd:1<=deep) (W:deep+dJ (bK names l)<=21):
  ∃r,fq s i 0 deep r:=by
 have hq:nW s i 0 (λ_=>True) (bK names l,s,i+((aw (bK names l)).length:Int),0):=⟨_,_,.tab names l Q h0 D hp hP hl,trivial,h,hr,rfl⟩
 have ht:=vX names l;generalize hT:aw (bK names l)=T at*
 subst ht;rw[cT] at W;apply ab8 1000;unfold uE ic;obtain⟨a1,a2,Y⟩:=h.at
 refine ah (wV s i 123 [] _ (bG.app (t:=[123]).1 h) (by decide) v (by simp)) ?_;rintro _ ⟨-,rfl⟩;have e1:i+(([123]:List UInt8).length:Int)=i+1:=by simp
 simp only[e1];cases l with
 |nil=>exact absurd rfl h0
 |cons c l=>
 cases names with
 |nil=>cases Q
 |cons F names=>
  have p0:=hp F (by simp);rw[B3,kK] at hq Y;have C:bG s (i+1) (d5 (F,c)) (dZ d5 (names.zip l)++125::rest):=by
   rw[AC] at Y;have:=bG.app.1 Y
   rwa [AC] at this
  have ad:alh s (i+1):=bG.nosp (c:=34) C (by decide);refine ah (wb s (i+1) [125] ad v (by simp)) ?_;rintro _ ⟨-,rfl⟩;have p:[125].isPrefixOf (s.drop (i+1).toNat)=false:=by rw[aix (c:=34) C];rfl
  simp only[p];refine ab (λh=>absurd h (by decide)) (λ_=>?_);rw[if_neg (by decide)]
  refine ba (λx=>match x with|(O,s',b,e',o0,o1,o2,o3,o4,p0,p1,p2,G,B)=>O=deep∧s'=s∧e'=0∧o0=0∧o1=0∧o2=[]∧o3=[]∧o4=[]∧p0=6∧p1=0∧p2=[]∧B.length=G.length∧∃y k d m,F::names=B++y::k∧c::l=G++d::m∧bG s b (d5 (y,d)) (dZ d5 (k.zip m)++125::rest)∧b<=(s.length:Int)∧b+((d5 (y,d)).length:Int)+((dZ d5 (k.zip m)).length:Int)=i+1+((d5 (F,c)++dZ d5 (names.zip l)).length:Int))
   (λx=>100-x.2.2.2.2.2.2.2.2.2.2.2.2.1.length) ?_ _ _ ⟨rfl,rfl,rfl,rfl,rfl,rfl,rfl,rfl,rfl,rfl,rfl,rfl,F,names,c,l,rfl,rfl,C,by omega,by rw[Aj];omega⟩ (by simp only[Ak];omega)
  rintro ae ⟨O,s',b,e',o0,o1,o2,o3,o4,q0,q1,q2,G,B⟩ ⟨rfl,rfl,rfl,rfl,rfl,rfl,rfl,rfl,rfl,rfl,rfl,P,y,k,d,m,g,o,hh,S,f⟩ I;dsimp only at I P;have E:d∈c::l:=by rw[o];simp
  have Z:y∈F::names:=by rw[g];simp
  have L:=hp y Z;have R:y ∉ B:=by rw[g] at D;intro hm;exact(D2.1 D).2.2 y hm y (by simp) rfl
  have cv:G.length+m.length+1<=100:=by have:=congrArg Aa o;simp only[Aj,Af] at this hl;omega
  have q:k.length=m.length:=by have N:=congrArg Aa o;have H:=congrArg Aa g;simp only[Aj,Af] at N H Q;omega
  have cx:=abH _ d E;have J:=ami y d L.1;have u:=vV d5 (k.zip m) (e:=125) (.inr rfl) rest;have j:=hh.len S;rw[Aj,Af] at j;have w:bG s' b (34::(y++[34])) (58::(aw d++(dZ d5 (k.zip m)++125::rest))):=by have:=hh;rw[d5,dd L.1] at this;exact bG.app.1 this
  have N:bG s' (b+(y.length:Int)+2) [58] (aw d++(dZ d5 (k.zip m)++125::rest)):=by have:=w.to;simp only[Af,Aj,Ak] at this;rw[show b+(y.length:Int)+2=b+((y.length+(0+1)+1:Nat):Int) by omega];exact this.hd
  have H:bG s' (b+(y.length:Int)+3) (aw d) (dZ d5 (k.zip m)++125::rest):=by have:=bG.step (t:=[58]) N;rw[show b+(y.length:Int)+3=b+(y.length:Int)+2+(([58]:List UInt8).length:Int) by simp;omega];exact this
  unfold j4;dsimp only;refine ab (λ_=>?_) (λh=>absurd h (by decide));rw[ax (O+1) (by omega)];refine ah (amg s' b y _ L.1 w v) ?_;rintro r3 ⟨-,h3⟩;obtain rfl:=ao3 h3 L.1 w;refine ah (ii ⟨6,0,[],G,B⟩ y (by simp only[aa.names];omega)) ?_;rintro r4 ⟨-,rfl⟩;have hg:(aj ⟨6,0,[],G,B⟩ y).2 =false:=by simp[aj,aa.kind,aa.names,aa.l,amh R,agW]
  rw[hg];refine ab (λh=>absurd h (by decide)) (λ_=>?_);dsimp only;refine ah (wV s' _ 58 [] _ N (by decide) v (by simp)) ?_;rintro _ ⟨-,rfl⟩;refine vck ?_ (by simp only[Af,Ak,decide_eq_true_eq];omega);dsimp only;rw[show b+(y.length:Int)+2+(([58]:List UInt8).length:Int)=b+(y.length:Int)+3 by simp;omega];refine ah (ih d E s' _ (O+1) _ v H u (by omega) (by omega)) ?_;rintro r5 ⟨-,M⟩;obtain rfl:=nW.get M (hP d E) H u;dsimp only;rw[cn];refine vck ?_ (by simp only[Af,Ak,decide_eq_true_eq];omega);cases m with
  |nil=>
   obtain rfl:k=[]:=AT q;have A:bG s' (b+(y.length:Int)+3+((aw d).length:Int)) [125] rest:=H.to.hd;refine ah (wb s' _ [125] (A.nosp (by decide)) v (by simp)) ?_;rintro _ ⟨-,rfl⟩;have p:[125].isPrefixOf (s'.drop (b+(y.length:Int)+3+((aw d).length:Int)).toNat)=true:=by rw[aix A];rfl
   simp only[p];refine ab (λ_=>am ⟨bK (B++[y]) (G++[d]),_,_,_,_,rfl,rfl,?_⟩) (λh=>absurd h (by decide));rw[<-o,<-g];simp only[if_true];rw[show b+(y.length:Int)+3+((aw d).length:Int)+(([125]:List UInt8).length:Int)=i+((123::(d5 (F,c)++dZ d5 (names.zip l)++[125])).length:Int) by rw[J] at f;rw[show (dZ d5 ([].zip ([]:List aa))).length=0 from rfl] at f;rw[Af (a:=123),Aj];simp only[Af,Ak];omega];exact hq
  |cons d2 l3=>
   cases k with
   |nil=>cases q
   |cons y2 n3=>
   have A:bG s' (b+(y.length:Int)+3+((aw d).length:Int)) [44] (d5 (y2,d2)++(dZ d5 (n3.zip l3)++125::rest)):=by have:=H.to;rw[B3,ig,AI,AC] at this;exact this.hd
   refine ah (wb s' _ [125] (A.nosp (by decide)) v (by simp)) ?_;rintro _ ⟨-,rfl⟩;have p:[125].isPrefixOf (s'.drop (b+(y.length:Int)+3+((aw d).length:Int)).toNat)=false:=by rw[aix A];rfl
   simp only[p];refine ab (λh=>absurd h (by decide)) (λ_=>?_);rw[if_neg (by decide)];refine ah (wV s' _ 44 [] _ A (by decide) v (by simp)) ?_;rintro _ ⟨-,rfl⟩;have M:=bG.step (t:=[44]) A;rw[B3,ig,Af,Aj] at f j;rw[J] at f j;have X:(([44]:List UInt8).length:Int)=1:=rfl;simp only[X] at M ⊢;refine I _ ⟨rfl,rfl,rfl,rfl,rfl,rfl,rfl,rfl,rfl,rfl,rfl,by simp only[Aj,Af,Ak];omega,y2,n3,d2,l3,by rw[g];simp,by rw[o];simp,M,by dsimp only;omega,by dsimp only;omega⟩ (by simp only[Aj,Af,Ak];omega)
noncomputable def zf:aq:=tab (P:=Tryd.prog) [] [] [] []
def zg:IR:=Sq (Rs [Mv 6 4,Mv 7 0,Pp (.lens 8 7),Bi 9 .lss 6 8] (Cn 9 .skip (.exit 0))) (Sq (.block 1 (Rs [Mv 12 0,Mv 13 4,Pp (.idx 14 12 13),Mv 5 14] (.block 2 (Rs [Mv 23 5,Pp (.bin 24 .eql 23 (.c (.int .u8 34))),Mv 25 24,Gf 25 (.mov 26 5),Gf 25 (.bin 27 .eql 26 (.c (.int .u8 92))),Po 28 25 27,Mv 22 28] (Cn 22 (Rg [Mv 29 3,Pp (.bin 30 .add 29 (kS [92])),Mv 31 0,Mv 32 4,Mv 33 4,Bc 34 .add 33 1,Pp (.subs 35 31 (some 32) (some 34)),Bi 36 .add 30 35,Mv 3 36]) (Rs [Mv 38 5,Pp (.bin 39 .eql 38 (.c (.int .u8 8))),Mv 37 39] (Cn 37 (Rg [Mv 40 3,Pp (.bin 41 .add 40 (kS [92,98])),Mv 3 41]) (Rs [Mv 43 5,Pp (.bin 44 .eql 43 (.c (.int .u8 12))),Mv 42 44] (Cn 42 (Rg [Mv 45 3,Pp (.bin 46 .add 45 (kS [92,102])),Mv 3 46]) (Rs [Mv 48 5,Pp (.bin 49 .eql 48 (.c (.int .u8 10))),Mv 47 49] (Cn 47 (Rg [Mv 50 3,Pp (.bin 51 .add 50 (kS [92,110])),Mv 3 51]) (Rs [Mv 53 5,Pp (.bin 54 .eql 53 (.c (.int .u8 13))),Mv 52 54] (Cn 52 (Rg [Mv 55 3,Pp (.bin 56 .add 55 (kS [92,114])),Mv 3 56]) (Rs [Mv 58 5,Pp (.bin 59 .eql 58 (.c (.int .u8 9))),Mv 57 59] (Cn 57 (Rg [Mv 60 3,Pp (.bin 61 .add 60 (kS [92,116])),Mv 3 61]) (Rs [Mv 63 5,Pp (.bin 64 .lss 63 (.c (.int .u8 32))),Mv 62 64] (Cn 62 (.reg [Mv 65 3,Pp (.bin 66 .add 65 (kS [92,117,48,48])),Mv 67 5,Pp (.bin 68 .quo 67 (.c (.int .u8 16))),Mv 69 5,Pp (.bin 70 .quo 69 (.c (.int .u8 16))),Pp (.bin 71 .add 70 (.c (.int .u8 1))),Pp (.subs 72 (kS [48,49,50,51,52,53,54,55,56,57,97,98,99,100,101,102]) (some 68) (some 71)),Bi 73 .add 66 72,Mv 74 5,Pp (.bin 75 .rem 74 (.c (.int .u8 16))),Mv 76 5,Pp (.bin 77 .rem 76 (.c (.int .u8 16))),Pp (.bin 78 .add 77 (.c (.int .u8 1))),Pp (.subs 79 (kS [48,49,50,51,52,53,54,55,56,57,97,98,99,100,101,102]) (some 75) (some 78)),Bi 80 .add 73 79,Mv 3 80] [[],[0],[],[2],[],[4],[4,5],rg 2 6,rg 0 7,[],[9],[],[11],[11,12],rg 9 13,rg 0 14,rg 0 15]) (Rg [Mv 15 3,Mv 16 0,Mv 17 4,Mv 18 4,Bc 19 .add 18 1,Pp (.subs 20 16 (some 17) (some 19)),Bi 21 .add 15 20,Mv 3 21])))))))))))))))))) (Rg [Mv 10 4,Bc 11 .add 10 1,Mv 4 11]))
def zh:IR:=Rs [Mv 81 3,Pp (.bin 82 .add 81 (kS [34])),Mv 2 82] .ret
def anh:IR:=Rs [Ms 2 []] (Rs [Ms 3 [34]] (Sq (Rs [Mi 4 0] (.block 0 (.loop [0,3,4,1000000] 0 zg))) zh))
def aeF:List RV:=[.t 2]
theorem ani:FnC Tryd.prog zf [] 0 af3 Tryd.f33 anh aeF:=fnC Tryd.func33
def ali(R:IR->(Ex->St->Ro)->St->Ro)(a:St->Ro):Ex->St->Ro:=(b7 a [0,3,4,1000000] 0 (aJ 0 (kseq (R zh) (fin aeF))))
abbrev qY:Type:=(Bs×Bs×Int)
def pK(x:qY):St:={env:=(.str x.1::.undef::.undef::.str x.2.1::.int .i64 x.2.2::(U 78 [])),hp:=[]}
def wc(N:Nat):(St->Ro)->St->Ro:=λa s=>run zf N zg (ali (run zf N) a) s
def d6(N:Nat)(a:qY->Ro)(x:qY):Ro:=
 let e:Bs:=x.1;let d:Bs:=x.2.1;let b:Int:=x.2.2;let S:=(↑(Aa e):Int)
 cond (decide (b<S)) (
  chk (ixl b e) (
   let f:=(↑(AJ (An e (Ah b) 0)):Int)
   cond (f==34) (
    chk (decide (Aa d+Aa ([92]:Bs)<=9223372036854775807)) (
     let O:=(d++([92]:Bs))
     let q:=(Ae .i64 (b+1))
     chk ((decide (0<=q)&&decide (q<=(↑(Aa e):Int))&&(decide (0<=b)&&decide (b<=q)))) (
      let Q:=(Bd (Ah b) (Br (Ah q) e))
      chk (decide (Aa O+Aa Q<=9223372036854775807)) (
       let R:=(Ae .i64 (b+1))
       a (e,(O++Q),R))))) (
    cond (f==92) (
     chk (decide (Aa d+Aa ([92]:Bs)<=9223372036854775807)) (
      let P:=(d++([92]:Bs))
      let t:=(Ae .i64 (b+1))
      chk ((decide (0<=t)&&decide (t<=(↑(Aa e):Int))&&(decide (0<=b)&&decide (b<=t)))) (
       let M:=(Bd (Ah b) (Br (Ah t) e))
       chk (decide (Aa P+Aa M<=9223372036854775807)) (
        let D:=(Ae .i64 (b+1))
        a (e,(P++M),D))))) (
     cond (f==8) (
      chk (decide (Aa d+Aa ([92,98]:Bs)<=9223372036854775807)) (
       let C:=(d++([92,98]:Bs))
       let w:=(Ae .i64 (b+1))
       a (e,C,w))) (
      cond (f==12) (
       chk (decide (Aa d+Aa ([92,102]:Bs)<=9223372036854775807)) (
        let H:=(d++([92,102]:Bs))
        let E:=(Ae .i64 (b+1))
        a (e,H,E))) (
       cond (f==10) (
        chk (decide (Aa d+Aa ([92,110]:Bs)<=9223372036854775807)) (
         let u:=(d++([92,110]:Bs))
         let y:=(Ae .i64 (b+1))
         a (e,u,y))) (
        cond (f==13) (
         chk (decide (Aa d+Aa ([92,114]:Bs)<=9223372036854775807)) (
          let F:=(d++([92,114]:Bs))
          let v:=(Ae .i64 (b+1))
          a (e,F,v))) (
         cond (f==9) (
          chk (decide (Aa d+Aa ([92,116]:Bs)<=9223372036854775807)) (
           let G:=(d++([92,116]:Bs))
           let I:=(Ae .i64 (b+1))
           a (e,G,I))) (
          cond (decide (f<32)) (
           chk (decide (Aa d+Aa ([92,117,48,48]:Bs)<=9223372036854775807)) (
            let k:=(d++([92,117,48,48]:Bs))
            let j:=(Ae .u8 (Ck f 16))
            let A:=(Ae .u8 (Ck f 16))
            let i:=(Ae .u8 (A+1))
            chk ((decide (0<=i)&&decide (i<=(↑(Aa ([48,49,50,51,52,53,54,55,56,57,97,98,99,100,101,102]:Bs)):Int))&&(decide (0<=j)&&decide (j<=i)))) (
             let m:=(Bd (Ah j) (Br (Ah i) ([48,49,50,51,52,53,54,55,56,57,97,98,99,100,101,102]:Bs)))
             chk (decide (Aa k+Aa m<=9223372036854775807)) (
              let h:=(Ae .u8 ((BG f 16)+1))
              chk ((decide (0<=h)&&decide (h<=(↑(Aa ([48,49,50,51,52,53,54,55,56,57,97,98,99,100,101,102]:Bs)):Int))&&(decide (0<=(BG f 16))&&decide ((BG f 16)<=h)))) (
               let o:=(Bd (Ah (BG f 16)) (Br (Ah h) ([48,49,50,51,52,53,54,55,56,57,97,98,99,100,101,102]:Bs)))
               chk (decide (Aa (k++m)+Aa o<=9223372036854775807)) (
                let B:=(Ae .i64 (b+1))
                a (e,((k++m)++o),B))))))) (
           let g:=(Ae .i64 (b+1))
           chk ((decide (0<=g)&&decide (g<=(↑(Aa e):Int))&&(decide (0<=b)&&decide (b<=g)))) (
            let p:=(Bd (Ah b) (Br (Ah g) e))
            chk (decide (Aa d+Aa p<=9223372036854775807)) (
             let L:=(Ae .i64 (b+1))
             a (e,(d++p),L))))))))))))) (
  chk (decide (Aa d+Aa ([34]:Bs)<=9223372036854775807)) (
   let J:=(d++([34]:Bs))
   some (.str J,[])))
theorem ajW(N:Nat):LB (wc N) pK (d6 N):=λ_ _=>by kernel_rfl
def oS(N:Nat)(a:Bs)(b:qY->Ro):Ro:=
 b (a,([34]:Bs),0)
def aeG(N:Nat)(a:Bs):Ro:=oS N a (λz=>aK N (d6 N) z)
theorem alj(N:Nat)(a:Bs)(h:Tot (aeG N a) (λz=>∃(d:Bs)(rest:List ai),z.1.dimR=.str d∧z.2=rest∧ud a (d))):∃r,lc a r:=ani.finP (N:=N) ((cz _ (by kernel_rfl) rfl (λC=>oS N a (λz=>C 1000000 (pK z))) (λC=>by kernel_rfl)).trans (A8 (b:=oS N a (λz=>bi N (wc N) (pK z))) (by kernel_rfl) (congrArg (oS N a) (funext λz=>bm (pK) (wc N) (d6 N) (ajW N) N z)))) h λ_ ⟨d,_,e,_,q⟩=>⟨(d),e,q⟩
noncomputable def zi:aq:=tab (P:=Tryd.prog) [] [] [] []
def aaG:IR:=.block 1 (Rs [Mv 4 0,Pp (.bin 5 .rem 4 (kU 10)),Pp (.bin 6 .add (kU 48) 5),Pp (.cvi 7 .u8 6),Pp (.bsl 8 .u8 [7] true),Pp (.b2s 9 8),Mv 10 3,Bi 11 .add 9 10,Mv 3 11] (Rs [Mv 12 0,Pp (.bin 13 .quo 12 (kU 10)),Mv 0 13] (Rs [Mv 14 0,Pp (.bin 15 .eql 14 (kU 0))] (Cn 15 (Rs [Mv 16 3,Mv 2 16] .ret) .skip))))
def anj:IR:=Rs [Ms 2 []] (Rs [Ms 3 []] (.block 0 (.loop [0,3,1000000] 0 aaG)))
def aeH:List RV:=[.t 2]
theorem ank:FnC Tryd.prog zi [] 0 af2 Tryd.f65 anj aeH:=fnC Tryd.func65
def alk(R:IR->(Ex->St->Ro)->St->Ro)(a:St->Ro):Ex->St->Ro:=(b7 a [0,3,1000000] 0 (aJ 0 (fin aeH)))
abbrev qZ:Type:=(Int×Bs)
def pL(x:qZ):St:={env:=(.int .u64 x.1::.undef::.undef::.str x.2::(U 13 [])),hp:=[]}
def wd(N:Nat):(St->Ro)->St->Ro:=λa s=>run zi N aaG (alk (run zi N) a) s
def q8(N:Nat)(a:qZ->Ro)(x:qZ):Ro:=
 let e:Int:=x.1;let b:Bs:=x.2;let d:=(Ae .u64 (48+(BG e 10)))
 chk (decide (Aa ([(AF (Ah (Ae .u8 d)))]:Bs)+Aa b<=9223372036854775807)) (
  let f:=(([(AF (Ah (Ae .u8 d)))]:Bs)++b)
  let g:=(Ae .u64 (Ck e 10))
  cond (g==0) (
   some (.str f,[])) (
   a (g,f)))
theorem ajX(N:Nat):LB (wd N) pL (q8 N):=λ_ _=>by kernel_rfl
def oT(N:Nat)(a:Int)(b:qZ->Ro):Ro:=
 b (a,([]:Bs))
def aeI(N:Nat)(a:Int):Ro:=oT N a (λz=>aK N (q8 N) z)
theorem alm(N:Nat)(a:Int)(h:Tot (aeI N a) (λz=>∃(d:Bs)(rest:List ai),z.1.dimR=.str d∧z.2=rest∧uf a (d))):∃r,nw a r:=ank.finP (N:=N) ((cz _ (by kernel_rfl) rfl (λC=>oT N a (λz=>C 1000000 (pL z))) (λC=>by kernel_rfl)).trans (A8 (b:=oT N a (λz=>bi N (wd N) (pL z))) (by kernel_rfl) (congrArg (oT N a) (funext λz=>bm (pL) (wd N) (q8 N) (ajX N) N z)))) h λ_ ⟨d,_,e,_,q⟩=>⟨(d),e,q⟩
noncomputable def apW:aq:=tab (P:=Tryd.prog) [] [] [] [aoK]
def ao4:IR:=Rs [Ms 2 []] (Sq (Rs [Mv 3 0,Bc 4 .lss 3 0] (Cn 4 (Rs [Mv 5 0,Bc 6 .add 5 1,Pp (.un 7 .neg 6),Pp (.cvi 8 .u64 7),Pp (.bin 9 .add 8 (kU 1)),Ca 10 65 [9],Pp (.bin 11 .add (kS [45]) 10),Mv 2 11] .ret) .skip)) (Rs [Mv 12 0,Pp (.cvi 13 .u64 12),Ca 14 65 [13],Mv 2 14] .ret))
def ao5:List RV:=[.t 2]
theorem ao6:FnC Tryd.prog apW [] 0 ahG Tryd.f32 ao4 ao5:=fnC Tryd.func32
def agu(N:Nat)(a:Int):Ro:=
 cond (decide (a<0)) (
  let d:=(Ae .i64 (a+1))
  let e:=(Ae .i64 (0-d))
  let f:=(Ae .u64 ((Ae .u64 e)+1))
  af (nw f) (λ(b:Bs)=>
   chk (decide (Aa ([45]:Bs)+Aa b<=9223372036854775807)) (
    let h:=(([45]:Bs)++b)
    some (.str h,[])))) (
  af (nw (Ae .u64 a)) (λ(g:Bs)=>
   some (.str g,[])))
def agv(N:Nat)(a:Int):Ro:=agu N a
theorem anl(N:Nat)(b:Int)(h:Tot (agv N b) (λz=>∃(a:Bs)(rest:List ai),z.1.dimR=.str a∧z.2=rest∧abI b (a))):∃r,rP b r:=ao6.finP (N:=N) (by kernel_rfl) h λ_ ⟨a,_,e,_,q⟩=>⟨(a),e,q⟩
theorem ao7(l:List UInt8)(i:Nat)(h:i<l.length):Bd i (Br (i+1) l)=[l.getD i 0]:=by rw[DH,show i+1-i=1 by omega,AK h,List.take_succ_cons,List.take_zero];simp[An,h]
theorem ao8(N:Nat)(rec:(List UInt8×List UInt8×Int)->Option (V×List ai))(s o:List UInt8)(i:Nat)(O:i<s.length)(S:s.length<=9223372036854775806)(R:o.length<=100000000):
  d6 N rec (s,o,(i:Int))=rec (s,o++jd (s.getD i 0),((i+1:Nat):Int)):=by
 obtain⟨c,j⟩:∃c,s.getD i 0=c:=⟨_,rfl⟩
 have Q:=DG c;have e:=ao7 s i O;rw[j] at e;have b:∀n:Nat,n<256->c.toNat=n->c=AF n:=by intro n a h;rw[<-h];simp
 have a:∀n:Nat,n<256->¬c.toNat=n->¬c=AF n:=by rintro n a h rfl;apply h;simp;omega
 have f:((i:Int)+1).toNat=i+1:=by omega
 have M:ixl (i:Int) s=true:=ixt (by omega);simp only[d6,At,j,M];by_cases F:c.toNat=34;·have:=b 34 (by omega) F;subst this;simp(disch:=omega) only[mN,f,e,Aj,Af,Ak,AC,AI,AW];rfl
 by_cases B:c.toNat=92;·have:=b 92 (by omega) B;subst this;simp(disch:=omega) only[mN,f,e,Aj,Af,Ak,AC,AI,AW];rfl
 by_cases t:c.toNat=8;·have:=b 8 (by omega) t;subst this;simp(disch:=omega) only[mN,Aj,Af,Ak];rfl
 by_cases p:c.toNat=12;·have:=b 12 (by omega) p;subst this;simp(disch:=omega) only[mN,Aj,Af,Ak];rfl
 by_cases q:c.toNat=10;·have:=b 10 (by omega) q;subst this;simp(disch:=omega) only[mN,Aj,Af,Ak];rfl
 by_cases m:c.toNat=13;·have:=b 13 (by omega) m;subst this;simp(disch:=omega) only[mN,Aj,Af,Ak];rfl
 by_cases x:c.toNat=9;·have:=b 9 (by omega) x;subst this;simp(disch:=omega) only[mN,Aj,Af,Ak];rfl
 have y:¬c=34:=a 34 (by omega) F;have C:¬c=92:=a 92 (by omega) B;have u:¬c=8:=a 8 (by omega) t;have G:¬c=12:=a 12 (by omega) p;have E:¬c=10:=a 10 (by omega) q;have k:¬c=13:=a 13 (by omega) m;have D:¬c=9:=a 9 (by omega) x;by_cases A:c.toNat<32
 ·have J:∀d:Nat,d<16->[([48,49,50,51,52,53,54,55,56,57,97,98,99,100,101,102]:List UInt8).getD d 0]=[akt d]:=by
   intro d hd;have:∀d:Fin 16,[([48,49,50,51,52,53,54,55,56,57,97,98,99,100,101,102]:List UInt8).getD d.val 0]=[akt d.val]:=by decide
   exact this ⟨d,hd⟩
  have L:Ck (c.toNat:Int) 16=((c.toNat / 16:Nat):Int):=ato _ 16;have I:BG (c.toNat:Int) 16=((c.toNat%16:Nat):Int):=atp _ 16;have v:=ao7 [48,49,50,51,52,53,54,55,56,57,97,98,99,100,101,102] (c.toNat / 16) (by simp;omega);have w:=ao7 [48,49,50,51,52,53,54,55,56,57,97,98,99,100,101,102] (c.toNat%16) (by simp;omega);rw[J _ (by omega)] at v w;have H:(((c.toNat / 16:Nat):Int)+1).toNat=c.toNat / 16+1:=by omega
  have P:(((c.toNat%16:Nat):Int)+1).toNat=c.toNat%16+1:=by omega
  have g:jd c=[92,117,48,48,akt (c.toNat / 16),akt (c.toNat%16)]:=by unfold jd;rw[if_neg y,if_neg C,if_neg u,if_neg G,if_neg E,if_neg k,if_neg D,if_pos A]
  rw[g];simp only[L,I];simp(disch:=omega) only[mN,H,P,v,w,Aj,Af,Ak,AC,AI,AW];rfl
 ·have g:jd c=[c]:=by
   unfold jd;rw[if_neg y,if_neg C,if_neg u,if_neg G,if_neg E,if_neg k,if_neg D,if_neg A]
  rw[g];simp(disch:=omega) only[mN,f,e,Af,Ak];rfl
theorem ahI(N:Nat)(s:List UInt8)(b:s.length<=10000):∀(k M i:Nat)(o:List UInt8),i+k=s.length->o.length<=1+6*i->
  aK (M+k+1) (d6 N) (s,o,(i:Int))=some (.str (o++((s.drop i).flatMap jd++[34])),[])
 |0,M,i,o,d,a=>by
  show d6 N _ _=_;have e:i=s.length:=by omega
  subst e;simp only[d6,By,List.flatMap_nil,AW];simp(disch:=omega) only[mN,Af,Ak]
 |k+1,M,i,o,d,a=>by show d6 N (aK (M+k+1) (d6 N)) _=_;have f:=ado (s.getD i 0);rw[ao8 N _ s o i (by omega) (by omega) (by omega),ahI N s b k M (i+1) _ (by omega) (by rw[Aj];omega)];rw[AK (show i<s.length by omega),BC];simp[An,show i<s.length by omega]
theorem adQ(s:List UInt8)(a:s.length<=10000):∃r,lc s r:=by apply alj 10002;have:=ahI 10002 s a s.length (10001-s.length) 0 [34] (by omega) (by simp);rw[show 10001-s.length+s.length+1=10002 by omega] at this;unfold aeG oS;refine⟨_,this,_,_,rfl,rfl,?_⟩;simp[ud,aX]
theorem asK(v:Int)(u:0<=v∧v<=1000000):∃r,nw v r:=by
 apply alm 2000000;unfold aeI oT;refine ba (λx=>∃a:Nat,x.1=(a:Int)∧a<=1000000∧x.2.length+a<=1000000∧Go.Lib.decDigits v.toNat=Go.Lib.decDigits a++x.2) (λx=>x.1.toNat) ?_ _ _ ⟨v.toNat,by simp only;omega,by omega,by simp only[Ak];omega,by simp⟩ (by simp only;omega);rintro b ⟨t,o⟩ ⟨a,rfl,w,q,d⟩ g;dsimp only at g q d;have i:BG (a:Int) 10=((a%10:Nat):Int):=by rw[BJ (by omega)];omega
 have m:Ck (a:Int) 10=((a / 10:Nat):Int):=by rw[BX (by omega)];omega
 have k:Ae .u64 (48+((a%10:Nat):Int))=((48+a%10:Nat):Int):=by rw[gJ _ (by omega)];omega
 have j:Ae .u8 ((48+a%10:Nat):Int)=((48+a%10:Nat):Int):=by rw[xX _ (by omega)]
 have p:Ae .u64 ((a / 10:Nat):Int)=((a / 10:Nat):Int):=by rw[gJ _ (by omega)]
 unfold q8;dsimp only;simp only[i,m,k,j,p,At]
 repeat' (first|(with_reducible refine ab ?_ ?_<;>(intro f;(try simp only[bnl] at f);(try revert f;intro _)))|with_reducible refine ct ?_ ?_|with_reducible refine am ?_|fail)
 ·simp only[bnl,Af,Ak];omega
 ·rename_i h;refine⟨_,_,rfl,rfl,?_⟩;simp only[uf];rw[d,Go.Lib.decDigits,dif_pos (show a<10 by omega),show a%10=a by omega]
 ·rename_i h;refine g _ ⟨a / 10,rfl,by omega,by simp only[Aj,Af,Ak];omega,?_⟩ (by simp only[At];omega);simp only;rw[d];by_cases e:a<10;·exfalso;omega
  ·rw[Go.Lib.decDigits,dif_neg e];simp
theorem atV(v:Int)(a:0<=v∧v<=1000000):∃r,rP v r:=by apply anl 1;unfold agv agu;dsimp only;refine ab (λh=>absurd (of_decide_eq_true h) (by omega)) (λ_=>?_);rw[gJ v (by omega)];refine ah (asK v a) ?_;rintro _ ⟨-,rfl⟩;exact am ⟨_,_,rfl,rfl,rfl⟩
theorem aaH{j:aa}(h:PJ j)(y:∀c∈j.l,RdT c):RdT j:=by
 intro s i deep rest q b e hd g;have u:nW s i 0 (λ_=>True) (j,s,i+((aw j).length:Int),0):=⟨_,_,h,trivial,b,e,rfl⟩
 obtain⟨c,t,a,F,A,G⟩:=h.head;have d:=b;rw[a] at d;obtain⟨C,B,E⟩:=d.at
 apply adD 1;unfold vl vk;dsimp only;refine ah (yd s i 0 (d.nosp A)) ?_;rintro _ ⟨-,rfl⟩;refine ab (λh=>absurd h (show ¬((!((0:Int)==0))=true) by decide)) (λ_=>?_);refine ab (λh=>absurd (show i=(s.length:Int) by simpa using h) (by omega)) (λ_=>?_);dsimp only;refine vck ?_ (ixt C);rw[B];cases h with
 |txt x p f=>
  obtain rfl:(34:UInt8)=c:=by rw[sY] at a;exact(AV a).1
  refine ab (λ_=>?_) (λh=>absurd h (by decide));have w:bG s i (34::(x++[34])) rest:=by rw[<-dd p,<-sY];exact b
  refine ah (amg s i x rest p w q) ?_;rintro r ⟨-,hp⟩;obtain rfl:=ao3 hp p w;refine am ⟨aA x,_,_,_,_,rfl,rfl,?_⟩;have:i+(x.length:Int)+2=i+((aw (aA x)).length:Int):=by rw[sY,dd p];simp only[Af,Aj,Ak];omega
  dsimp only;rw[this];exact u
 |lst l k f=>
  obtain rfl:(91:UInt8)=c:=by rw[vW] at a;exact(AV a).1
  rw[cT] at g;refine ab (λh=>absurd h (by decide)) (λ_=>?_);refine ab (λ_=>?_) (λh=>absurd h (by decide));refine ab (λh=>absurd (of_decide_eq_true h) (by omega)) (λ_=>?_);refine ab (λ_=>?_) (λh=>absurd h (by decide));refine ah (atU l f k y s i deep rest q b e hd (by rw[cT];omega)) ?_;rintro r ⟨-,hp⟩;obtain rfl:=nW.get hp (.lst l k f) b e;exact am ⟨cJ l,_,_,_,_,rfl,rfl,u⟩
 |tab names l o v m hp k f=>
  obtain rfl:(123:UInt8)=c:=by rw[vX] at a;exact(AV a).1
  rw[cT] at g;refine ab (λh=>absurd h (by decide)) (λ_=>?_);refine ab (λh=>absurd h (by decide)) (λ_=>?_);refine ab (λ_=>?_) (λh=>absurd h (by decide));refine ab (λh=>absurd (of_decide_eq_true h) (by omega)) (λ_=>?_);refine ab (λh=>absurd h (by decide)) (λ_=>?_);refine ah (arA names l o v m hp f k y s i deep rest q b e hd (by rw[cT];omega)) ?_;rintro r ⟨-,hp'⟩;obtain rfl:=nW.get hp' (.tab names l o v m hp k f) b e;exact am ⟨bK names l,_,_,_,_,rfl,rfl,u⟩
 |num n o=>
  have D:48<=c.toNat∧c.toNat<=57:=by rw[om] at a;exact(yZ n.toNat).2.1 c (by rw[a];simp)
  refine ab (λh=>absurd (show (c.toNat:Int)=34 by simpa using h) (by omega)) (λ_=>?_);refine ab (λh=>absurd (show (c.toNat:Int)=91 by simpa using h) (by omega)) (λ_=>?_);refine ab (λh=>absurd (show (c.toNat:Int)=123 by simpa using h) (by omega)) (λ_=>?_);refine ab (λh=>absurd (show (c.toNat:Int)=45 by simpa using h) (by omega)) (λ_=>?_);refine ab (λ_=>?_) (λh=>absurd (of_decide_eq_false h) (by omega));refine ab (λ_=>?_) (λh=>absurd (of_decide_eq_false h) (by omega));refine ah (arz s i n.toNat rest (by omega) (by rw[<-om];exact b) e q) ?_;rintro r ⟨-,hp⟩;obtain rfl:=nW.get hp (.num n o) b e;exact am ⟨.mk 3 n [] [] [],_,_,_,_,rfl,rfl,u⟩
theorem atW{j:aa}(h:PJ j):RdT j:=by
 induction h with
 |txt s h a=>exact aaH (.txt s h a) (by simp[aa.l])
 |num n h=>exact aaH (.num n h) (by simp[aa.l])
 |lst l h a b=>exact aaH (.lst l h a) b
 |tab names l d e hd hp h a b=>exact aaH (.tab names l d e hd hp h a) b
theorem asL{j:aa}(h:PJ j)(hd:dJ j<=20)(b:(aw j).length<=10000):∃r,qi (aw j) r:=by
 apply akT 1;unfold aer aeq;dsimp only;have a:bG (aw j) 0 (aw j) []:=⟨by omega,by simp⟩
 refine ab (λh=>absurd (of_decide_eq_true h) (by omega)) (λ_=>?_);refine ah (atW h (aw j) 0 1 [] b a (.inl rfl) (by omega) (by omega)) ?_;rintro r ⟨-,hp⟩;obtain rfl:=nW.get hp h a (.inl rfl);refine ah (yd (aw j) (0+((aw j).length:Int)) 0 (a.to.nospE (by omega) (.inl rfl))) ?_;rintro _ ⟨-,rfl⟩;refine ab (λh=>absurd (of_decide_eq_true h) (by dsimp only;omega)) (λ_=>?_);refine ab (λh=>absurd h (show ¬((!((0:Int)==0))=true) by decide)) (λ_=>?_);refine am ⟨j,0,_,?_,rfl,j,h,rfl,rfl⟩;cases j;rfl
theorem asM{j:aa}(h:PJ j){r:aa×Int}(hp:ug (aw j) r):r=(j,0):=by obtain⟨b,a,e,rfl⟩:=hp;obtain⟨rfl, -⟩:=h.uniq b a [] [] (.inl rfl) (.inl rfl) (by rw[BL,BL];exact e);rfl
theorem ao9{α:Type}{l a b:List α}{d x:α}(h:l=a++d::b):l.getD a.length x=d∧ixl (a.length:Int) l=true:=by subst h;refine⟨by simp[Al],ixt ⟨by omega,by simp only[Aj,Af];omega⟩⟩
def WrT(j:aa):Prop:=(aw j).length<=10000->∃r,dS j r
theorem ye{j:aa}(h:PJ j)(A:∀c∈j.l,WrT c):WrT j:=by
 intro Z;apply akS 1000;unfold aep oN;cases h with
 |txt x hx Y=>refine ab (λh=>absurd h (show ¬(((4:Int)==2)=true) by decide)) (λ_=>?_);refine ab (λh=>absurd h (show ¬(((4:Int)==3)=true) by decide)) (λ_=>?_);refine ab (λ_=>?_) (λh=>absurd h (show ¬(((4:Int)==4)=false) by decide));refine ah (adQ x (by omega)) ?_;rintro _ ⟨-,rfl⟩;exact am ⟨_,_,rfl,rfl,(sY x).symm⟩
 |num n g=>refine ab (λh=>absurd h (show ¬(((3:Int)==2)=true) by decide)) (λ_=>?_);refine ab (λ_=>?_) (λh=>absurd h (show ¬(((3:Int)==3)=false) by decide));refine ah (atV n (by omega)) ?_;rintro _ ⟨-,rfl⟩;exact am ⟨_,_,rfl,rfl,(om n).symm⟩
 |lst l hP Y=>
  refine ab (λh=>absurd h (show ¬(((5:Int)==2)=true) by decide)) (λ_=>?_);refine ab (λh=>absurd h (show ¬(((5:Int)==3)=true) by decide)) (λ_=>?_);refine ab (λh=>absurd h (show ¬(((5:Int)==4)=true) by decide)) (λ_=>?_);refine ab (λ_=>?_) (λh=>absurd h (show ¬(((5:Int)==5)=false) by decide));have L:=vW l;refine ba (λx=>match x with|(J,q,G)=>J=cJ l∧∃a o,l=a++o∧G=(a.length:Int)∧(a=[]->q=[91])∧(a≠[]->q++(dZ aw o++[93])=aw (cJ l))) (λx=>200-x.2.2.toNat) ?_ _ _ ⟨rfl,[],l,rfl,rfl,λ_=>rfl,λh=>absurd rfl h⟩ (by simp only;omega);rintro k ⟨J,q,G⟩ ⟨rfl,a,o,b,rfl,M,I⟩ p;dsimp only at p;have f:a.length+o.length=l.length:=by rw[b,Aj]
  unfold qO;dsimp only;simp only[show (cJ l).l=l from rfl] at A ⊢;cases o with
  |nil=>
   refine ab (λh=>absurd (of_decide_eq_true h) (by simp only[Ak] at f;omega)) (λ_=>?_);have e:q++[93]=aw (cJ l):=by
    by_cases g:a=[]
    ·rw[M g,L,b,g];rfl
    ·exact I g
   have:=congrArg Aa e;rw[Aj] at this;refine vck ?_ (by simp only[Af,Ak,decide_eq_true_eq] at this ⊢;omega);exact am ⟨_,_,rfl,rfl,e⟩
  |cons d w=>
   obtain⟨H,F⟩:=ao9 (x:=ao .jnode) b;have t:d∈l:=by rw[b];simp
   have S:Ae .i64 ((a.length:Int)+1)=((a++[d]).length:Int):=by rw[ax _ (by omega)];simp
   have next:∀i,i++(dZ aw w++[93])=aw (cJ l)->Tot (k (cJ l,i,Ae .i64 ((a.length:Int)+1))) (λz=>∃(E:List UInt8)(rest:List ai),z.1.dimR=.str E∧z.2=rest∧pz (cJ l) E):=λi W=>by rw[S];refine p _ ⟨rfl,a++[d],w,by rw[b];simp,rfl,λh=>absurd h (by simp),λ_=>W⟩ ?_;simp only[Aj,Af,Ak] at f ⊢;omega
   refine ab (λ_=>?_) (λh=>absurd (of_decide_eq_false h) (by simp only[Af] at f;omega));refine ab (λhp=>?_) (λhp=>?_)
   ·have g:a≠[]:=by rintro rfl;exact absurd (of_decide_eq_true hp) (by simp)
    have e:=I g;rw[ig] at e;have v:=congrArg Aa e;simp only[Aj,Af,Ak] at v;refine vck ?_ (by simp only[Af,Ak,decide_eq_true_eq];omega);refine vck ?_ F;rw[At,H,cn];refine ah (A d t (by omega)) ?_;rintro _ ⟨-,rfl⟩;refine vck ?_ (by simp only[Aj,Af,Ak,decide_eq_true_eq];omega);exact next _ (by rw[<-e];simp)
   ·have g:a=[]:=by
     have:=of_decide_eq_false hp;exact AT (by omega)
    have e:q++aw d++(dZ aw w++[93])=aw (cJ l):=by rw[M g,L,b,g,AW,kK];simp
    have v:=congrArg Aa e;simp only[Aj,Af,Ak] at v;refine vck ?_ F;rw[At,H,cn];refine ah (A d t (by omega)) ?_;rintro _ ⟨-,rfl⟩;refine vck ?_ (by simp only[decide_eq_true_eq];omega);exact next _ e
 |tab names l g h0 an hp hP Y=>
  refine ab (λh=>absurd h (show ¬(((6:Int)==2)=true) by decide)) (λ_=>?_);refine ab (λh=>absurd h (show ¬(((6:Int)==3)=true) by decide)) (λ_=>?_);refine ab (λh=>absurd h (show ¬(((6:Int)==4)=true) by decide)) (λ_=>?_);refine ab (λh=>absurd h (show ¬(((6:Int)==5)=true) by decide)) (λ_=>?_);refine ab (λ_=>?_) (λh=>absurd h (show ¬(((6:Int)==6)=false) by decide));have L:=vX names l;refine ba (λx=>match x with|(J,q,G)=>J=bK names l∧∃a o C B,l=a++o∧names=C++B∧C.length=a.length∧G=(a.length:Int)∧(a=[]->q=[123])∧(a≠[]->q++(dZ d5 (B.zip o)++[125])=aw (bK names l))) (λx=>200-x.2.2.toNat) ?_ _ _ ⟨rfl,[],l,[],names,rfl,rfl,rfl,rfl,λ_=>rfl,λh=>absurd rfl h⟩ (by simp only;omega);rintro k ⟨J,q,G⟩ ⟨rfl,a,o,C,B,b,m,u,rfl,M,I⟩ p;dsimp only at p;have f:a.length+o.length=l.length:=by rw[b,Aj]
  have D:C.length+B.length=names.length:=by rw[m,Aj]
  unfold qQ;dsimp only;simp only[show (bK names l).l=l from rfl,show (bK names l).names=names from rfl] at A ⊢;cases o with
  |nil=>
   refine ab (λh=>absurd (of_decide_eq_true h) (by simp only[Ak] at f;omega)) (λ_=>?_);obtain rfl:B=[]:=AT (by simp only[Ak] at f;omega);have N:a≠[]:=by rintro rfl;exact h0 b
   have e:q++[125]=aw (bK names l):=I N;have:=congrArg Aa e;rw[Aj] at this;refine vck ?_ (by simp only[Af,Ak,decide_eq_true_eq] at this ⊢;omega);exact am ⟨_,_,rfl,rfl,e⟩
  |cons d w=>
   cases B with
   |nil=>simp only[Af,Ak] at f D;omega
   |cons y X=>
   obtain⟨H,F⟩:=ao9 (x:=ao .jnode) b;obtain⟨P,Q⟩:=ao9 (x:=ao .str) m;rw[u] at P Q;have t:d∈l:=by rw[b];simp
   have R:=hp y (by rw[m];simp);have ar:=ami y d R.1;have al:=eV y;have S:Ae .i64 ((a.length:Int)+1)=((a++[d]).length:Int):=by rw[ax _ (by omega)];simp
   have next:∀i,i++(dZ d5 (X.zip w)++[125])=aw (bK names l)->Tot (k (bK names l,i,Ae .i64 ((a.length:Int)+1))) (λz=>∃(E:List UInt8)(rest:List ai),z.1.dimR=.str E∧z.2=rest∧pz (bK names l) E):=λi W=>by rw[S];refine p _ ⟨rfl,a++[d],w,C++[y],X,by rw[b];simp,by rw[m];simp,by simp[u],rfl,λh=>absurd h (by simp),λ_=>W⟩ ?_;simp only[Aj,Af,Ak] at f ⊢;omega
   refine ab (λ_=>?_) (λh=>absurd (of_decide_eq_false h) (by simp only[Af] at f;omega));refine ab (λ_=>?_) (λh=>absurd (of_decide_eq_false h) (by simp only[Af] at D;omega));refine ab (λhp=>?_) (λhp=>?_)
   ·have g:a≠[]:=by rintro rfl;exact absurd (of_decide_eq_true hp) (by simp)
    have e:=I g;rw[B3,ig] at e;have v:=congrArg Aa e;simp only[Aj,Af,Ak] at v;refine vck ?_ (by simp only[Af,Ak,decide_eq_true_eq];omega);refine vck ?_ Q;rw[At,P];refine ah (adQ y (by omega)) ?_;rintro _ ⟨-,rfl⟩;refine vck ?_ (by simp only[Aj,Af,Ak,decide_eq_true_eq];omega);refine vck ?_ (by simp only[Aj,Af,Ak,decide_eq_true_eq];omega);refine vck ?_ F;rw[H,cn];refine ah (A d t (by omega)) ?_;rintro _ ⟨-,rfl⟩;refine vck ?_ (by simp only[Aj,Af,Ak,decide_eq_true_eq];omega);exact next _ (by rw[<-e];simp[d5])
   ·have g:a=[]:=by
     have:=of_decide_eq_false hp;exact AT (by omega)
    have O:C=[]:=AT (by rw[u,g];rfl);have e:q++aX y++[58]++aw d++(dZ d5 (X.zip w)++[125])=aw (bK names l):=by rw[M g,L,b,g,m,O,AW,AW,B3,kK];simp[d5]
    have v:=congrArg Aa e;simp only[Aj,Af,Ak] at v;refine vck ?_ Q;rw[At,P];refine ah (adQ y (by omega)) ?_;rintro _ ⟨-,rfl⟩;refine vck ?_ (by simp only[Aj,Af,Ak,decide_eq_true_eq];omega);refine vck ?_ (by simp only[Aj,Af,Ak,decide_eq_true_eq];omega);refine vck ?_ F;rw[H,cn];refine ah (A d t (by omega)) ?_;rintro _ ⟨-,rfl⟩;refine vck ?_ (by simp only[Aj,Af,Ak,decide_eq_true_eq];omega);exact next _ e
theorem asN{j:aa}(h:PJ j):WrT j:=by
 induction h with
 |txt s h a=>exact ye (.txt s h a) (by simp[aa.l])
 |num n h=>exact ye (.num n h) (by simp[aa.l])
 |lst l h a b=>exact ye (.lst l h a) b
 |tab names l d e hd hp h a b=>exact ye (.tab names l d e hd hp h a) b
theorem acp(c:aa):1<=dJ c:=by cases c;simp[dJ]
theorem amj:∀(s p:List UInt8),46 ∉ s->ec p s=[p++s]
 | [],p,_=>by simp[ec]
 |c::s,p,h=>by simp only[AB,not_or] at h;rw[ec,if_neg (Ci h.1),amj s _ h.2];simp
theorem adR{s:List UInt8}(h:b9 s=true):dR s:=by
 intro c b;obtain⟨i,a⟩:=BO b;have:=((agn s).1 h).2 i c a;unfold aoj;rw[sW];unfold okC at this;rw[A7,Ac,sW,sW] at this;rcases this with h|h;·exact AL _ (AN _ h)
 ·exact AL _ (B0 _ h.2)
abbrev aO(a:List UInt8):List UInt8:=[115]++[46]++a
theorem ajY{a:List UInt8}(h:46 ∉ a):aG (aO a)=[115]:=by
 have key:∀i:Nat,2<=i->i<(aO a).length->(aO a).getD i 0≠46:=by
  intro i b d e;obtain⟨j,rfl⟩:∃j,i=j+2:=⟨i-2,by omega⟩
  have d:j<a.length:=by simp[aO] at d;omega
  have e:a.getD j 0=46:=by simpa [aO,Al] using e
  rw[Al,Ab d] at e;exact h (by rw[<-show a[j]=46 from e];exact Bf d)
 rcases ajv (aO a) with⟨g,f⟩|⟨i,g,f,m,k⟩
 ·exact absurd rfl (f 1 (by simp[aO]))
 ·have:i=1:=by
   rcases CG i 1 with b|b|b;·exact absurd rfl (k 1 b (by simp[aO]))
   ·exact b
   ·exact absurd m (key i b g)
  subst this;rw[aG,f];rfl
theorem apa:∀(l:List (List UInt8))(s:List UInt8),0<=bV l s->l.getD (bV l s).toNat []=s
 | [],s,h=>absurd (show (0:Int)<=-1 from h) (by decide)
 |x::l,s,h=>by
  by_cases a:x=s;·rw[bV,if_pos a];exact a
  ·rw[bV,if_neg a] at h ⊢;split at h;·exact absurd h (by decide)
   ·rename_i b;rw[if_neg b,show (bV l s+1).toNat=(bV l s).toNat+1 by omega,Cx];exact apa l s (by omega)
theorem aqo{s:List UInt8}(h:1<=bV ([]::bj) s∧bV ([]::bj) s<=8):s=bE (bV ([]::bj) s):=by have:=apa ([]::bj) s (by omega);rw[bE,if_pos (by omega)];rw[show (bV ([]::bj) s).toNat=(bV ([]::bj) s-1).toNat+1 by omega,Cx] at this;exact this.symm
theorem atX{s:List UInt8}(h:(46:UInt8)∈s):¬(1<=bV ([]::bj) s∧bV ([]::bj) s<=8):=λa=>by
 have e:=aqo a;have:∀n:Nat,n<14->(46:UInt8) ∉ bj.getD n []:=by decide
 rw[e,bE,if_pos (by omega)] at h;exact this _ (by omega) h
def uN(f:aZ):aZ:=⟨f.name,[],f.typ,false,.mk 0 0 [] [] []⟩
def gp(t:ac):ac:=⟨t.kind,t.name,[],t.items,t.syms,false,[],t.size,t.fields.map uN,t.branches⟩
theorem yf(p:List ac)(i:Nat):(p.map gp).getD i (ao .atype)=gp (p.getD i (ao .atype)):=by rw[Al,Al,AA];cases p[i]?<;>rfl
theorem asO(p:List ac)(i:Int):fw (p.map gp) i=fw p i:=by unfold fw;rw[yf,A6];rfl
abbrev bu(m:MS)(d:Int):MS:=(m.1,m.2.1.map gp,0,d)
theorem agw(m:MS)(d i:Int){f a:ac->ac}(h:∀t,gp (f t)=a (gp t)):atT (bu m d) i a=bu (atT m i f) d:=by unfold atT bu;rw[yf,<-h,List.map_set]
def nmK:Int->List ac->List Int
 |_,[]=>[]
 |i,t::l=>if 9<=t.kind∧t.kind<=11 then i::nmK (i+1) l else nmK (i+1) l
abbrev nmL(p:List ac):List Int:=nmK 0 p
theorem aln:∀(a b:List ac)(i:Int),nmK i (a++b)=nmK i a++nmK (i+(a.length:Int)) b
 | [],b,i=>by simp[nmK]
 |t::a,b,i=>by
  have e:i+1+(a.length:Int)=i+((t::a).length:Int):=by simp only[Af];omega
  simp only[AI,nmK,aln a b (i+1),e];split<;>simp
theorem alo(p:List ac)(t:ac)(h:9<=t.kind∧t.kind<=11):nmL (p++[t])=nmL p++[(p.length:Int)]:=by rw[nmL,aln];simp[nmK,h]
theorem apb(p:List ac)(t:ac)(h:¬(9<=t.kind∧t.kind<=11)):nmL (p++[t])=nmL p:=by rw[nmL,aln];simp only[nmK,if_neg h,BL]
theorem aqp:∀(p:List ac)(j:Nat)(t u:ac)(i:Int),p[j]? =some t->u.kind=t.kind->nmK i (p.set j u)=nmK i p
 | [],j,t,u,i,h,_=>by simp at h
 |x::p,0,t,u,i,h,a=>by simp only[Bq,Ai] at h;subst h;simp only[CA,nmK,a]
 |x::p,j+1,t,u,i,h,a=>by simp only[A9] at h;simp only[C1,nmK,aqp p j t u (i+1) h a]
theorem aqq:∀(p:List ac)(i t:Int),t∈nmK i p↔i<=t∧∃u,p[(t-i).toNat]? =some u∧9<=u.kind∧u.kind<=11
 | [],i,t=>by simp[nmK]
 |x::p,i,t=>by
  have h:=aqq p (i+1) t;have step:t∈nmK (i+1) p↔i<t∧∃u,(x::p)[(t-i).toNat]? =some u∧9<=u.kind∧u.kind<=11:=by
   rw[h];constructor;·rintro⟨b,a⟩;refine⟨by omega,?_⟩;rw[show (t-i).toNat=(t-(i+1)).toNat+1 by omega,A9];exact a
   ·rintro⟨b,a⟩;refine⟨by omega,?_⟩;rw[show (t-i).toNat=(t-(i+1)).toNat+1 by omega,A9] at a;exact a
  have g:∀u,(x::p)[(i-i).toNat]? =some u↔x=u:=by intro u;rw[show (i-i).toNat=0 by omega];simp
  rw[nmK];split
  ·rename_i d;rw[AB,step];constructor
   ·rintro(rfl|⟨b,a⟩);·exact⟨Int.le_refl _,x,(g x).2 rfl,d⟩
    ·exact⟨by omega,a⟩
   ·rintro⟨b,a⟩;by_cases e:t=i;·exact .inl e
    ·exact .inr ⟨by omega,a⟩
  ·rename_i d;rw[step];constructor;·rintro⟨b,a⟩;exact⟨by omega,a⟩
   ·rintro⟨b,u,a,f⟩;refine⟨?_,u,a,f⟩;by_cases e:t=i;·subst e;obtain rfl:=(g u).1 a;exact absurd f d
    ·omega
theorem aqr(p:List ac)(t:Int):t∈nmL p↔0<=t∧∃u,p[t.toNat]? =some u∧9<=u.kind∧u.kind<=11:=by rw[nmL,aqq,Int.sub_zero]
theorem auK(p:List ac):(p.length:Int) ∉ nmL p:=λh=>by obtain⟨-,u,a, -⟩:=(aqr _ _).1 h;rw[At,Ba (Ar _)] at a;cases a
def lE(n:Nat)(q ts:List ac):Prop:=∀(t:Nat) u,q[t]? =some u->∃u',ts[t]? =some u'∧u'.kind=u.kind∧u'.name=u.name∧(n<=t->u'=u)
theorem lE.refl(n:Nat)(q:List ac):lE n q q:=λt u h=>⟨u,h,rfl,rfl,λ_=>rfl⟩
theorem lE.low{n:Nat}{p q ts:List ac}(h:lE n q ts)(hp:Pre p q):lE n p ts:=λt u a=>h t u (by rw[hp.2 t (Ad.1 a).1];exact a)
theorem lE.mono{n n':Nat}{q ts:List ac}(h:lE n q ts)(g:n<=n'):lE n' q ts:=λt u d=>by obtain⟨u',e,f,b,a⟩:=h t u d;exact⟨u',e,f,b,λi=>a (by omega)⟩
theorem lE.set{n n':Nat}{q ts:List ac}{i:Nat}{u b:ac}(h:lE n (q.set i u) ts)(j:q[i]? =some b)(w:u.kind=b.kind)(o:u.name=b.name)(m:i<n')(x:n<=n'):lE n' q ts:=λt v d=>by
 by_cases e:i=t;·subst e;rw[j] at d;cases d;obtain⟨u',g,f,a, -⟩:=h i u (Bw (Ad.1 j).1);exact⟨u',g,f.trans w,a.trans o,λp=>absurd m (by omega)⟩
 ·obtain⟨u',g,f,a,k⟩:=h t v (by rw[A5 e];exact d);exact⟨u',g,f,a,λp=>k (by omega)⟩
theorem lE.ty{n:Nat}{q ts:List ac}(h:lE n q ts){t:Nat}{u:ac}(f:q[t]? =some u):ts[t]? =some (tyA ts (t:Int))∧(tyA ts (t:Int)).kind=u.kind∧(tyA ts (t:Int)).name=u.name∧(n<=t->tyA ts (t:Int)=u):=by obtain⟨u',a,g,d,b⟩:=h t u f;have e:tyA ts (t:Int)=u':=o9 a;rw[e];exact⟨a,g,d,b⟩
def adS(u:ac):Prop:=9<=u.kind∧u.kind<=11->dR u.name∧u.name.length<=5∧(46:UInt8)∈u.name
def arB(ts:List ac)(n d:Nat):Tk->Prop
 | .node i=>∃b,b<=d+1∧ge ts n i b
 | .row a=>∃w:Nat->Nat,(∀(k:Nat) c,a[k]? =some c->ge ts n c (w k))∧px w a.length<=d+a.length
 | .flds fs=>∀f∈fs,∃b,b<=d+1∧ge ts n f.typ b
structure d8(p q:List ac)(tk:Tk)(js:List aa)(D c:Nat):Prop where
 pre:Pre p q
 tr:∀ts,lE p.length q ts->TR ts tk (nmL p) js (nmL q)
 pj:∀j∈js,PJ j∧dJ j<=D
 sz:c7 js+164*p.length<=164*q.length+c*js.length
 ext:∀ts,lE p.length q ts->arB ts p.length (8*(q.length-p.length)) tk
 new:∀(t:Nat) u,p.length<=t->q[t]? =some u->uK u∧adS u∧∀ts,lE p.length q ts->aks ts t u
theorem d8.rnil(p:List ac)(D c:Nat):d8 p p (.row []) [] D c:=
 ⟨Pre.refl p,λts _=>.rnil _,by simp,by simp[c7],λts _=>⟨λ_=>0,by simp,by simp[px]⟩,λt u b a=>absurd (Ad.1 a).1 (by omega)⟩
theorem d8.fnil(p:List ac)(D c:Nat):d8 p p (.flds []) [] D c:=
 ⟨Pre.refl p,λts _=>.fnil _,by simp,by simp[c7],λts _ f a=>(by cases a),λt u d b=>absurd (Ad.1 b).1 (by omega)⟩
theorem d8.new2{p r q:List ac}{o j:Tk}{w g:List aa}{D v c m:Nat}(h:d8 p r o w D c)(k:d8 r q j g v m)(t:Nat)(u:ac)(x:p.length<=t)(i:q[t]? =some u):uK u∧adS u∧∀ts,lE p.length q ts->aks ts t u:=by
 rcases AH t r.length with f|f;·rw[k.pre.2 t f] at i;obtain⟨a,b,d⟩:=h.new t u x i;exact⟨a,b,λts e=>d ts (e.low k.pre)⟩
 ·obtain⟨a,b,d⟩:=k.new t u f i;exact⟨a,b,λts e=>d ts (e.mono h.pre.1)⟩
theorem d8.rcons{p r q:List ac}{b:Int}{bs:List Int}{j:aa}{js:List aa}{D:Nat}(h:d8 p r (.node b) [j] D 8)(h':d8 r q (.row bs) js D 8):d8 p q (.row (b::bs)) (j::js) D 8 where
 pre:=h.pre.trans h'.pre
 tr:=λts hts=>.rcons _ _ _ _ _ _ _ (h.tr ts (hts.low h'.pre)) (h'.tr ts (hts.mono h.pre.1))
 pj:=λx hx=>by
  rcases AB.1 hx with rfl|hx;·exact h.pj x (by simp)
  ·exact h'.pj x hx
 sz:=by have h1:=h.sz;have h2:=h'.sz;simp only[c7,Af,Ak] at h1 h2 ⊢;omega
 ext:=λts hts=>by
  obtain⟨x,x1,x2⟩:=h.ext ts (hts.low h'.pre);obtain⟨w,w1,w2⟩:=h'.ext ts (hts.mono h.pre.1);have l1:=h.pre.1;have l2:=h'.pre.1;refine⟨λk=>if k=0 then x else w (k-1),λk c hk=>?_,?_⟩
  ·cases k with
   |zero=>simp only[Bq,Ai] at hk;subst hk;exact x2
   |succ k=>simp only[A9] at hk;exact(w1 k c hk).low l1
  ·rw[Af,abc];have:px (λk=>if k+1=0 then x else w (k+1-1)) bs.length=px w bs.length:=by
    congr 1
   rw[this];simp only[if_true];omega
 new:=h.new2 h'
theorem d8.fcons{p r q:List ac}{f:aZ}{fs:List aZ}{j:aa}{js:List aa}{D:Nat}(hf:dR f.name∧f.name.length<=3)(h:d8 p r (.node f.typ) [j] D 8)(h':d8 r q (.flds fs) js (D+1) 30):
  d8 p q (.flds (f::fs)) (bK [bX,bb] [aA f.name,j]::js) (D+1) 30 where
 pre:=h.pre.trans h'.pre
 tr:=λts hts=>.fcons _ _ _ _ _ _ _ (h.tr ts (hts.low h'.pre)) (h'.tr ts (hts.mono h.pre.1))
 pj:=λx hx=>by
  rcases AB.1 hx with rfl|hx
  ·obtain⟨h1,h2⟩:=h.pj j (by simp);have hpl:∀x∈([bX,bb]:List (List UInt8)),dR x∧x.length<=100:=by decide
   refine⟨.tab _ _ rfl (by simp) (by decide) hpl (λc hc=>?_) (by simp),?_⟩
   ·simp only[AB,A4,or_false] at hc;rcases hc with rfl|rfl;·exact .txt _ hf.1 (by omega)
    ·exact h1
   ·have:=acp j;simp only[cT,dJL];omega
  ·exact h'.pj x hx
 sz:=by
  have h1:=h.sz;have h2:=h'.sz;have e1:(aX bX).length=6:=rfl;have e2:(aX bb).length=6:=rfl;have e3:(aX f.name).length=f.name.length+2:=by rw[dd hf.1];simp
  simp only[c7,Af,Ak,yY,ep,e1,e2,e3] at h1 h2 ⊢;omega
 ext:=λts hts g hg=>by
  have l1:=h.pre.1;have l2:=h'.pre.1;rcases AB.1 hg with rfl|hg;·obtain⟨x,x1,x2⟩:=h.ext ts (hts.low h'.pre);exact⟨x,by omega,x2⟩
  ·obtain⟨x,x1,x2⟩:=h'.ext ts (hts.mono h.pre.1) g hg;exact⟨x,by omega,x2.low l1⟩
 new:=h.new2 h'
structure MI(m:MS):Prop where
 inv:dx m
 cap:m.2.1.length<=60
 nmx:∀u∈m.2.1,adS u
 e:m.2.2.1=0
abbrev sE:aa->Prop:=dq qJ 8
def Rd(k:Nat)(m:MS)(i:Int)(a:MS)(j:aa):Prop:=∀(k':Nat)(d:Int)(a':List UInt8),k<=k'->d<=m.2.2.2->aL k' (bu m d) j a'=(i,bu a d)
def RdU(k:Nat)(m:MS)(i:Int)(a:MS)(j:aa):Prop:=∀(k':Nat)(d:Int)(a':List UInt8),k<=k'->d+1<=m.2.2.2->aL (k'+1) (bu m d) j a'=(i,bu a d)
def Old(p:List ac)(i:Int):Prop:=i=(p.length:Int)∨i∈nmL p
def agx(k:Nat):Prop:=∀(m:MS)(n:aa)(a:List UInt8),sE n->MI m->(a=[115]∨adg n)->(aL k m n a).2.2.2.1 =0->
 ∃j,d8 m.2.1 (aL k m n a).2.2.1 (.node (aL k m n a).1) [j] (dJ n) 8∧Old m.2.1 (aL k m n a).1 ∧Rd k m (aL k m n a).1 (aL k m n a).2 j
def abd(k:Nat)(m:MS)(r:Int×MS)(D:Nat):Prop:=∃j,d8 m.2.1 r.2.2.1 (.node r.1) [j] D 8∧Old m.2.1 r.1∧RdU k m r.1 r.2 j
def q9(T:TF)(m:MS)(n:aa)(a:List UInt8):Int×MS:=if n.kind=4 then dr m n.s a else if n.kind=5 then dk T m n a else if n.kind=6 then cm T m n a else (0,ak m true 2)
theorem cG(m:MS)(c:Int):ak m false c=m:=by unfold ak;rw[if_neg (by simp)]
theorem atY{k:Nat}{m b:MS}{d i:Int}{j:aa}{a:List UInt8}(hd:d+1<=20)(h:q9 (aL k) (bu m (d+1)) j a=(i,bu b (d+1))):aL (k+1) (bu m d) j a=(i,bu b d):=by
 unfold aL;rw[if_neg (show ¬((0:Int)≠0) by decide)];dsimp only;have e:ak (bZ (bu m d) (d+1)) (decide (20<d+1)) 3=bu m (d+1):=by rw[decide_eq_false (by omega),cG];rfl
 rw[e,if_neg (show ¬((0:Int)≠0) by decide)];have f:(if j.kind=4 then dr (bu m (d+1)) j.s a else if j.kind=5 then dk (aL k) (bu m (d+1)) j a else if j.kind=6 then cm (aL k) (bu m (d+1)) j a else (0,ak (bu m (d+1)) true 2))=(i,bu b (d+1)):=h;rw[f];rfl
theorem RdU.of{k:Nat}{m a:MS}{i:Int}{j:aa}(b:m.2.2.2<=20)(h:∀(k':Nat)(d:Int)(a':List UInt8),k<=k'->d<=m.2.2.2->q9 (aL k') (bu m d) j a'=(i,bu a d)):RdU k m i a j:=
 λk' d a' e hd=>atY (by omega) (h k' (d+1) a' e hd)
theorem ag0{m:MS}{t:ac}(h:m.2.1.length<60)(d:Int){t':ac}(f:gp t=t')(e b:Int):a7 (bu m d) t'=((m.2.1.length:Int),bu (m.1,m.2.1++[t],e,b) d):=by
 unfold a7;have a:((bu m d).2.1.length :Nat)=m.2.1.length:=by simp[bu]
 rw[a,if_neg (by rintro(h|h);exact h rfl;omega)];simp[bu,f]
theorem oA{names:List (List UInt8)}{l:List aa}{name:List UInt8}{c:aa}(h:cb names l name=some c):aj (bK names l) name=(c,true):=by simp[aj,h,agW,aa.kind,aa.names,aa.l]
theorem zj{names:List (List UInt8)}{l:List aa}{name:List UInt8}(h:cb names l name=none):aj (bK names l) name=(.mk 0 0 [] [] [],false):=by simp[aj,h,agW,aa.kind,aa.names,aa.l]
theorem abe{n:aa}(h:sE n){name:List UInt8}(f:(aj n name).2 =true):sE (aj n name).1 ∧dJ (aj n name).1 +1<=dJ n∧qJ name (aj n name).1 :=by
 have h:=dq.eta.2 h;cases a:(if n.kind=6 then cb n.names n.l name else none) with
 |none=>simp[aj,a,agW] at f
 |some c=>
  have e:aj n name=(c,true):=by simp[aj,a,agW]
  rw[e];have d:cb n.names n.l name=some c:=by
   split at a;·exact a
   ·cases a
  have b:=ah3 d;obtain⟨-, -, -, -, -,k⟩:=h.kids;refine⟨k c b,?_,h.good d⟩;have:=abH n.l c b;rw[<-ai3 n,cT];exact Nat.succ_le_succ this
theorem ajZ(k:Int):dR (bE k):=by
 unfold bE;split
 ·have:∀n:Nat,n<14->(bj.getD n []).all aoj=true:=by decide
  have h:=this (k-1).toNat (by omega)
  exactλc a=>Ap.1 h c a
 ·exactλc a=>by cases a
theorem zk{ts:List ac}{i:Nat}{t:ac}(h:t.fields=[]):aks ts i t:=λf a=>by rw[h] at a;cases a
theorem auL{p:List ac}{v:ac}(d:uK v)(f:adS v)(e:v.fields=[])(t:Nat)(u:ac)(g:p.length<=t)(a:(p++[v])[t]? =some u):uK u∧adS u∧∀ts,lE p.length (p++[v]) ts->aks ts t u:=by
 have b:=(Ad.1 a).1;simp only[Aj,Af,Ak] at b;obtain rfl:t=p.length:=by omega
 rw[c8] at a;cases a;exact⟨d,f,λts _=>zk e⟩
theorem uK.leaf(k:Int):uK (aE k):=⟨by simp[aE],by simp[aE],by simp[aE],by simp[aE],by simp[aE],by simp[aE],by simp[aE]⟩
theorem d8.node{p r:List ac}{v u':ac}{o:Tk}{m:List aa}{D A c:Nat}(h:d8 (p++[v]) r o m D c)(y:u'.kind=v.kind)(J:u'.name=v.name)(E:uK u')(N:adS u')
  (P:∀ts,arB ts (p.length+1) (8*(r.length-(p.length+1))) o->aks ts p.length u') {j:aa}
  (F:∀ts,tyA ts (p.length:Int)=u'->TR ts o (nmL (p++[v])) m (nmL r)->TR ts (.node (p.length:Int)) (nmL p) [j] (nmL r))
  (L:(∀x∈m,PJ x∧dJ x<=D)->PJ j∧dJ j<=A) (sz:(aw j).length+1+c*m.length<=c7 m+172)
  (ext:∀ts d,ts[p.length]? =some u'->arB ts (p.length+1) d o->∃b,b<=d+9∧ge ts p.length (p.length:Int) b):d8 p (r.set p.length u') (.node (p.length:Int)) [j] A 8:=by
 have C:r[p.length]? =some v:=by rw[h.pre.2 p.length (by simp),c8]
 have H:=h.pre.1;simp only[Aj,Af,Ak] at H;have k:(r.set p.length u')[p.length]? =some u':=Bw (by omega);have g:∀ts,lE p.length (r.set p.length u') ts->lE (p++[v]).length r ts:=λts f=>f.set C y J (by simp) (by simp)
 refine⟨⟨by simp;omega,λi O=>?_⟩,λts f=>?_,λx G=>?_,?_,λts f=>?_,λt u Q q=>?_⟩;·rw[A5 (by omega),h.pre.2 i (by simp;omega),Aw O]
 ·have:=F ts ((f.ty k).2.2.2 (Ar _)) (h.tr ts (g ts f));rw[show nmL (r.set p.length u')=nmL r from aqp r p.length v u' 0 C y];exact this
 ·rw[Au.1 G];exact L h.pj
 ·have:=h.sz;simp only[c7,Aj,Af,Ak,AO] at this ⊢;omega
 ·have w:=h.ext ts (g ts f);simp only[Aj,Af,Ak] at w;obtain⟨B, -, -,I⟩:=f.ty k;rw[I (Ar _)] at B;obtain⟨b,R,M⟩:=ext ts _ B w;refine⟨b,?_,M⟩;rw[AO];omega
 ·by_cases e:p.length=t;·subst e;rw[k] at q;cases q;refine⟨E,N,λts f=>P ts ?_⟩;have w:=h.ext ts (g ts f);simpa using w
  ·rw[A5 e] at q;obtain⟨a,b,d⟩:=h.new t u (by simp;omega) q;exact⟨a,b,λts f=>d ts (g ts f)⟩
theorem apc{k:Nat}{m:MS}{s a:List UInt8}{D:Nat}(I:MI m)(F:m.2.2.2<=20)(o:(dr m s a).2.2.2.1 =0)(hD:1<=D):abd k m (dr m s a) D:=by
 have Q:∀x:List UInt8,dJ (aA x)<=D:=λx=>by simp only[cT,dJL];omega
 unfold dr at o ⊢;split at o
 ·rename_i v;rw[if_pos v];have w:=aqo v;generalize bV ([]::bj) s=b at v w o ⊢;obtain⟨z1,S,z3⟩:=add_zero o;rw[z3];have G:dR s:=w▸ajZ b;have ad:s.length<=7:=w▸vU b;have B:¬(9<=(aE b).kind∧(aE b).kind<=11):=by show ¬(9<=b∧b<=11);omega
  have P:(aX s).length=s.length+2:=by rw[dd G];simp
  refine⟨aA s,⟨Pre.app _ _,λts e=>?_,λx J=>?_,?_,λts e=>?_,?_⟩,.inl rfl,.of F λk' d a' A hd=>?_⟩;·have f:=(e.ty (c8 m.2.1 (aE b))).2.2.2 (Ar _);have:=TR.prim (ts:=ts) (m.2.1.length:Int) (nmL m.2.1) (by rw[f];show b<=8;omega);rw[f,show bE (aE b).kind=s from w.symm] at this;show TR ts _ _ _ (nmL (m.2.1++[aE b]));rw[apb _ _ B];exact this
  ·rw[Au.1 J];exact⟨.txt s G (by omega),Q s⟩
  ·show c7 [aA s]+164*m.2.1.length<=164*(m.2.1++[aE b]).length+8*1;simp only[c7,ep,P,Aj,Af,Ak];omega
  ·have f:=e.ty (c8 m.2.1 (aE b));exact⟨1,by omega,.leaf _ _ (by omega) f.1 (by rw[f.2.1];show b<=11;omega)⟩
  ·exact auL (uK.leaf b) (λh=>absurd h B) rfl
  ·unfold q9;rw[if_pos (show (aA s).kind=4 from rfl)];show dr (bu m d) s a'=_;unfold dr;have L:bV ([]::bj) s=b:=by
    rw[w];have:∀n:Nat,n<8->bV ([]::bj) (bE (n+1))=n+1:=by decide
    have:=this (b-1).toNat (by omega);rw[show (((b-1).toNat:Nat):Int)+1=b by omega] at this;exact this
   rw[L,if_pos v];exact ag0 (t:=aE b) (t':=aE b) S d rfl 0 m.2.2.2
 ·rename_i v;rw[if_neg v];have J:∃(x:List UInt8)(i:Int),aY (k:=.sn) m.1 x=some i∧fx m s a=(i,m):=by
   unfold fx at o ⊢;split at o;·rename_i H;rw[if_pos H];obtain⟨i,g⟩:=Bz.1 H.2.2;exact⟨_,i,g,by rw[da,g];rfl⟩
   ·rename_i H;rw[if_neg H];obtain⟨f1,f2⟩:=aS o;obtain⟨i,g⟩:=Bz.1 (show (aY (k:=.sn) m.1 s).isSome=true by simpa using f1);refine⟨s,i,g,?_⟩;show (da (k:=.sn) m.1 s,ak m (!(aY (k:=.sn) m.1 s).isSome) 4)=_;rw[f2,da,g];rfl
  obtain⟨x,i,g,Y⟩:=J;rw[Y];obtain⟨O,t,f,p⟩:=I.inv.mn x i g;have j:=Am f;have A:=(I.inv.tok t j).named.1 (by rw[p];exact O);obtain⟨M,W,N⟩:=I.nmx t j A;rw[p] at M W N;have E:=(I.inv.map x i g).1;have C:i∈nmL m.2.1:=(aqr _ _).2 ⟨E,t,f,A⟩;have P:(aX x).length=x.length+2:=by rw[dd M];simp
  have R:((i.toNat:Nat):Int)=i:=by omega
  refine⟨aA x,⟨Pre.refl _,λts e=>?_,λy X=>?_,?_,λts e=>?_,λt' u Z hu=>absurd (Ad.1 hu).1 (by dsimp only;omega)⟩,.inr C,.of F λk' d a' an hd=>?_⟩;·have q:=e.ty f;rw[R] at q;have:=TR.told (ts:=ts) i (nmL m.2.1) (by rw[q.2.1];exact A) C;rw[q.2.2.1,p] at this;exact this
  ·rw[Au.1 X];exact⟨.txt x M (by omega),Q x⟩
  ·simp only[c7,ep,P,Af,Ak];omega
  ·have q:=e.ty f;rw[R] at q;exact⟨1,by omega,.leaf _ _ E q.1 (by rw[q.2.1];exact A.2)⟩
  ·unfold q9;rw[if_pos (show (aA x).kind=4 from rfl)];show dr (bu m d) x a'=_;unfold dr;rw[if_neg (atX N)];unfold fx;rw[if_neg (λh=>by rw[(sW x 46).2 N] at h;exact absurd h.2.1 (by decide))];show (da (k:=.sn) m.1 x,ak (bu m d) (!(aY (k:=.sn) m.1 x).isSome) 4)=_;rw[da,g];exact congrArg (Prod.mk i) (cG _ _)
theorem amk{k:Nat}{m:MS}{n:aa}{a:List UInt8}{e:Int}{u w:List UInt8}(ih:agx k)(R:MI m)(P:m.2.2.2<=20)(S:sE n)(ha:a=[115])(i:(e=12∧u=[105,116,101,109,115]∧w=[97,114,114,97,121])∨(e=13∧u=[118,97,108,117,101,115]∧w=[109,97,112]))
  (I:(dF (aL k) m n e u a).2.2.2.1 =0):abd k m (dF (aL k) m n e u a) (dJ n):=by
 have O:e=12∨e=13:=by rcases i with h|h;exact .inl h.1;exact .inr h.1
 simp only[dF] at I ⊢;split at I
 ·rename_i f;rw[if_pos f];have H:=(dl k _ _ _).err f;obtain⟨N,h2⟩:=aS H;rw[h2] at H f ⊢;have N:(aj n u).2 =true:=by simpa using N
  obtain⟨g1,g2, -⟩:=abe S N;obtain⟨z1,Z,z3⟩:=add_zero H;have G:=(vA R.inv H (by show 1<=e∧e<=14;omega) (by show ¬(9<=e∧e<=11);omega) rfl rfl rfl rfl).1;rw[z3] at f G ⊢;dsimp only at f G ⊢;have q:¬(9<=(aE e).kind∧(aE e).kind<=11):=by show ¬(9<=e∧e<=11);omega
  generalize F:((m.1,m.2.1++[aE e],0,m.2.2.2):MS)=M at f G ⊢;have p:M.2.1=m.2.1++[aE e]:=by rw[<-F]
  have al:M.2.2.2=m.2.2.2:=by rw[<-F]
  have mi:MI M:=⟨G,by rw[p];simp;omega,λv o=>by
   rw[p] at o;rcases Az.1 o with o|o;·exact R.nmx v o
   ·rw[Au.1 o];exactλh=>absurd h q,by rw[<-F]⟩
  obtain⟨j,L, -,hr⟩:=ih M (aj n u).1 a g1 mi (.inl ha) f;generalize hT:aL k M (aj n u).1 a=T at*
  rw[p] at L;have o:T.2.2.1[m.2.1.length]? =some (aE e):=by rw[L.pre.2 m.2.1.length (by simp),c8]
  have hd:T.2.2.1.getD (m.2.1.length:Int).toNat (ao .atype)=aE e:=by rw[At];exact o9 o
  have E:(atT T.2 (m.2.1.length:Int) (sQ · T.1)).2.1 =T.2.2.1.set m.2.1.length (sQ (aE e) T.1):=by show T.2.2.1.set _ _=_;rw[hd,At]
  refine⟨bK [bb,u] [aA w,j],?_,.inl rfl,.of P λk' d a' Q an=>?_⟩
  ·show d8 m.2.1 (atT T.2 (m.2.1.length:Int) (sQ · T.1)).2.1 _ _ _ _;rw[E];have C:∀x∈([bb,u]:List (List UInt8)),dR x∧x.length<=100:=by rcases i with⟨-,rfl,rfl⟩|⟨-,rfl,rfl⟩<;>decide
   have B:dR w∧w.length<=5:=by rcases i with⟨-,rfl,rfl⟩|⟨-,rfl,rfl⟩<;>decide
   have hu:u.length<=6:=by rcases i with⟨-,rfl,rfl⟩|⟨-,rfl,rfl⟩<;>decide
   refine L.node (u':=sQ (aE e) T.1) rfl rfl (have l:=uK.leaf e;⟨l.nf,l.fn,l.nb,l.ns,l.size,l.nl,l.sl⟩) (λh=>absurd h q) (λts _=>zk rfl) (λts g y=>?_) (λhp=>?_) ?_ (λts d J Y=>?_)
   ·rw[apb _ _ q] at y;rcases i with⟨rfl,rfl,rfl⟩|⟨rfl,rfl,rfl⟩
    ·exact .arr _ _ _ _ (by rw[g];rfl) (by rw[g];exact y)
    ·exact .map _ _ _ _ (by rw[g];rfl) (by rw[g];exact y)
   ·obtain⟨X,p2⟩:=hp j (by simp);refine⟨.tab _ _ rfl (by simp) (by rcases i with⟨-,rfl,rfl⟩|⟨-,rfl,rfl⟩<;>decide) C (λc f=>?_) (by simp),?_⟩
    ·simp only[AB,A4,or_false] at f;rcases f with rfl|rfl;·exact .txt _ B.1 (by omega)
     ·exact X
    ·have:=acp j;simp only[cT,dJL];omega
   ·have e1:(aX bb).length=6:=rfl;have W:(aX u).length=u.length+2:=by rw[dd (C u (by simp)).1];simp
    have e3:(aX w).length=w.length+2:=by rw[dd B.1];simp
    simp only[c7,yY,ep,e1,W,e3,Af,Ak];omega
   ·obtain⟨b,b1,b2⟩:=Y;exact⟨b+1,by omega,.arr _ _ _ (by omega) (by omega) (by rw[At];exact J) O (ge.low (n:=m.2.1.length+1) (n':=m.2.1.length) (by omega) b2)⟩
  ·have A:(bK [bb,u] [aA w,j]).kind=6:=rfl;have gt:aj (bK [bb,u] [aA w,j]) bb=(aA w,true):=oA (by simp[cb]);have gu:aj (bK [bb,u] [aA w,j]) u=(j,true):=oA (by rcases i with⟨-,rfl,rfl⟩|⟨-,rfl,rfl⟩<;>simp[cb]);have D:dF (aL k') (bu m d) (bK [bb,u] [aA w,j]) e u a'=((m.2.1.length:Int),bu (atT T.2 (m.2.1.length:Int) (sQ · T.1)) d):=by
    simp only[dF];rw[ag0 (t:=aE e) (t':=aE e) Z d rfl 0 m.2.2.2,gu,F];dsimp only;rw[show ak (bu M d) (!true) 2=bu M d from cG _ _,hr k' d a' Q (by omega)];rw[if_pos rfl];exact congrArg (Prod.mk _) (agw _ _ _ λt=>rfl)
   unfold q9;rw[if_neg (by rw[A];decide),if_neg (by rw[A];decide),if_pos A];simp only[cm];rw[show ([116,121,112,101]:List UInt8)=bb from rfl,gt];dsimp only;rw[show ak (bu m d) (!true) 2=bu m d from cG _ _,if_neg (show ¬((aA w).kind≠4) from λh=>h rfl)];rcases i with⟨rfl,rfl,rfl⟩|⟨rfl,rfl,rfl⟩
   ·rw[if_neg (by decide),if_neg (by decide),if_neg (by decide),if_pos (show (aA [97,114,114,97,121]).s=[97,114,114,97,121] from rfl)];exact D
   ·rw[if_neg (by decide),if_neg (by decide),if_neg (by decide),if_neg (by decide),if_pos (show (aA [109,97,112]).s=[109,97,112] from rfl)];exact D
 ·rename_i f;exact absurd I f
theorem MI.next{m b:MS}{i:Tk}{o:List aa}{D c:Nat}(e:MI m)(h:d8 m.2.1 b.2.1 i o D c)(f:dx b)(k:cg m b)(j:b.2.2.1=0):MI b:=
 ⟨f,k.cap e.cap,λu a=>by
  obtain⟨t,g,rfl⟩:=A0.1 a;have a:=Ab g;rcases AH t m.2.1.length with d|d;·rw[h.pre.2 t d] at a;exact e.nmx _ (Am a)
  ·exact(h.new t _ d a).2.1,j⟩
theorem d8.up{p q:List ac}{b:Tk}{e:List aa}{D d c:Nat}(h:d8 p q b e D c)(f:D<=d):d8 p q b e d c:=
 ⟨h.pre,h.tr,λj a=>⟨(h.pj j a).1,AR (h.pj j a).2 f⟩,h.sz,h.ext,h.new⟩
theorem aj0{b:Nat}:∀{l:List aa},(∀x∈l,dJ x<=b)->dJL l<=b
 | [],_=>BB _
 |c::l,h=>by
  have e:=h c (by simp);have d:=aj0 (l:=l) λx a=>h x (by simp[a])
  simp only[dJL];omega
theorem aj1{k:Nat}(B:agx k){a:List UInt8}(E:a=[115]){D:Nat}:∀(xs:List aa)(l:List Int)(b:List (List UInt8×Bool))(m:MS),(∀x∈xs,sE x∧dJ x<=D)->MI m->(bW (aL k) a xs l b m).2.2.2.1 =0->
  ∃o g,o.length=xs.length∧g.length=xs.length∧(bW (aL k) a xs l b m).1 =l++g∧d8 m.2.1 (bW (aL k) a xs l b m).2.2.1 (.row g) o D 8∧
   ∀(k':Nat)(d:Int)(a':List UInt8),k<=k'->d<=m.2.2.2->bW (aL k') a' o l b (bu m d)=(l++g,bu (bW (aL k) a xs l b m).2 d)
 | [],l,b,m,_,p,_=>⟨[],[],rfl,rfl,(BL l).symm,d8.rnil _ _ _,λk' d a' _ _=>by rw[BL];rfl⟩
 |x::xs,l,b,m,q,p,h=>by
  have f:∀(T:TF)(a:List UInt8)(x:aa)(xs:List aa)(m:MS),bW T a (x::xs) l b m=(if m.2.2.1=0 then (if (T m x a).2.2.2.1 =0 then bW T a xs (l++[(T m x a).1]) (cE (k:=.sb) b (fw (T m x a).2.2.1 (T m x a).1) true) (ak (T m x a).2 (((T m x a).2.2.1.getD (T m x a).1.toNat (ao .atype)).kind==14||da (k:=.sb) b (fw (T m x a).2.2.1 (T m x a).1)) 6) else (l,(T m x a).2)) else (l,m)):=λ_ _ _ _ _=>rfl
  rw[f,if_pos p.e] at h ⊢;split at h
  ·rename_i i;rw[if_pos i];obtain⟨w,t⟩:=aS ((kH (dl k) a xs _ _ _).err h);rw[t] at h ⊢;obtain⟨j,C, -,J⟩:=B m x a (q x (by simp)).1 p (.inl E) i;have F:=dl k m x a;have L:=p.next C (adj k m x a (q x (by simp)).1.any p.inv i).1 F i
   generalize aL k m x a=T at*
   obtain⟨o,g,M,H,G,u,v⟩:=aj1 B E xs (l++[T.1]) (cE (k:=.sb) b (fw T.2.2.1 T.1) true) T.2 (λy I=>q y (by simp[I])) L h;refine⟨j::o,T.1::g,by simp[M],by simp[H],by rw[G];simp,(C.up (q x (by simp)).2).rcons u,λk' d a' A hd=>?_⟩;rw[f,J k' d a' A hd,if_pos (show (bu m d).2.2.1 =0 from rfl)];dsimp only;rw[if_pos rfl,asO,yf,show (gp (T.2.2.1.getD T.1.toNat (ao .atype))).kind=(T.2.2.1.getD T.1.toNat (ao .atype)).kind from rfl,w,cG];rw[v k' d a' A (by rw[F.dep];exact hd)];simp
  ·rename_i i;exact absurd h i
theorem asP{k:Nat}{m:MS}{n:aa}{a:List UInt8}(ih:agx k)(S:MI m)(O:m.2.2.2<=20)(Y:sE n)(ha:a=[115])(H:(dk (aL k) m n a).2.2.2.1 =0):abd k m (dk (aL k) m n a) (dJ n):=by
 simp only[dk] at H ⊢;split at H
 ·rename_i b;rw[if_pos b];have A:=(kH (dl k) a n.l [] [] _).err b;have L:=aS A;have P:=aS (L.2▸A);have a4:=P.2;rw[L.2,P.2] at A b ⊢;obtain⟨z1,Z,z3⟩:=add_zero A;have F:=(vA S.inv A (by decide) (by decide) rfl rfl rfl rfl).1;rw[z3] at b F ⊢;dsimp only at b F ⊢;have o:¬(9<=(aE 14).kind∧(aE 14).kind<=11):=by decide
  generalize E:((m.1,m.2.1++[aE 14],0,m.2.2.2):MS)=M at b F ⊢;have j:M.2.1=m.2.1++[aE 14]:=by rw[<-E]
  have ae:M.2.2.2=m.2.2.2:=by rw[<-E]
  have mi:MI M:=⟨F,by rw[j];simp;omega,λv g=>by
   rw[j] at g;rcases Az.1 g with g|g;·exact S.nmx v g
   ·rw[Au.1 g];exactλh=>absurd h o,by rw[<-E]⟩
  have e:=(dq.eta.2 Y).kids;have X:dJ n=dJL n.l+1:=by rw[<-ai3 n,cT]
  obtain⟨p,q,W,l2,N,J,hr⟩:=aj1 ih ha (D:=dJL n.l) n.l [] [] M (λx C=>⟨e.2.2.2.2.2 x C,abH _ _ C⟩) mi b;generalize hU:bW (aL k) a n.l [] [] M=U at*
  rw[AW] at N;rw[j] at J;have g:U.2.2.1[m.2.1.length]? =some (aE 14):=by rw[J.pre.2 m.2.1.length (by simp),c8]
  have hd:U.2.2.1.getD (m.2.1.length:Int).toNat (ao .atype)=aE 14:=by rw[At];exact o9 g
  have B:(atT U.2 (m.2.1.length:Int) (gK · U.1)).2.1 =U.2.2.1.set m.2.1.length (gK (aE 14) q):=by show U.2.2.1.set _ _=_;rw[hd,At,N]
  have G:p.length<=8:=by rw[W];exact e.2.1
  refine⟨cJ p,?_,.inl rfl,.of O λk' d a' R al=>?_⟩
  ·show d8 m.2.1 (atT U.2 (m.2.1.length:Int) (gK · U.1)).2.1 _ _ _ _;rw[B];refine J.node (u':=gK (aE 14) q) rfl rfl (have l:=uK.leaf 14;⟨l.nf,l.fn,by show q.length<=100;omega,l.ns,l.size,l.nl,l.sl⟩) (λh=>absurd h o) (λts _=>zk rfl) (λts u y=>?_) (λhp=>?_) ?_ (λts d I C=>?_);·rw[apb _ _ o] at y;exact .uni _ _ _ _ (by rw[u];rfl) (by rw[u];exact y)
   ·refine⟨.lst _ (λc b=>(hp c b).1) G,?_⟩;have:=aj0 λc b=>(hp c b).2
    rw[cT];omega
   ·have:=yt p;omega
   ·obtain⟨w,w1,w2⟩:=C;refine⟨px w q.length+1,by omega,.uni (m.2.1.length:Int) (gK (aE 14) q) w (by omega) (by omega) (by rw[At];exact I) rfl λi c hi=>ge.low (n:=m.2.1.length+1) (n':=m.2.1.length) (by omega) (w1 i c hi)⟩
  ·unfold q9;rw[if_neg (show ¬(cJ p).kind=4 from λh=>absurd (show (5:Int)=4 from h) (by decide)),if_pos (show (cJ p).kind=5 from rfl)];simp only[dk];have Q:(cJ p).l=p:=rfl;rw[ag0 (t:=aE 14) (t':=aE 14) Z d rfl 0 m.2.2.2,E,Q,W,P.1];dsimp only;rw[cG,L.1,cG,hr k' d a' R (by omega)];rw[if_pos (show (bu U.2 d).2.2.1 =0 from rfl),AW];dsimp only;rw[agw (f:=(gK · q)) _ _ _ λt=>rfl,N]
 ·rename_i b;exact absurd H b
theorem asQ{k:Nat}(O:agx k){m:MS}{x:aa}{names:List (List UInt8×Bool)}{a:List UInt8}(Y:a=[115])(w:sE x)(t:MI m)(e:(cW (aL k) m x names a).2.1.2.2.1 =0):
  ∃f j T,cW (aL k) m x names a=(f,T,cE (k:=.sb) names f.name true)∧(dR f.name∧f.name.length<=3)∧d8 m.2.1 T.2.1 (.node f.typ) [j] (dJ x-1) 8∧MI T∧T.2.2.2=m.2.2.2∧
   ∀(k':Nat)(d:Int)(a':List UInt8),k<=k'->d<=m.2.2.2->cW (aL k') (bu m d) (bK [bX,bb] [aA f.name,j]) names a'=(uN f,bu T d,cE (k:=.sb) names f.name true):=by
 simp only[cW] at e ⊢;have R:=nh aaX _ x e;rw[R] at e ⊢;have h:=(dl k _ _ _).err e;have g:=aS h;have i:=aS (g.2▸h);have p:=aS (i.2▸g.2▸h);have J:(dP (ak m (!(x.kind==6)) 2) x).2.2.2.1 =0:=p.2▸i.2▸g.2▸h;have D:(dP (ak m (!(x.kind==6)) 2) x).2 =m:=((a8 m _ 2).trans (show gI _ (dP _ x).2 from a8 _ _ _)) J;have u:=((g.2.trans i.2).trans p.2).trans D;rw[u] at e ⊢;have H:(dP (ak m (!(x.kind==6)) 2) x).1 =(aj x [110,97,109,101]).1.s :=rfl;have y:=p.1;have v:=i.1;have Q:=g.1;rw[H] at y v ⊢;have hp:b9 (aj x [110,97,109,101]).1.s =true:=by simpa using y
 have L:(aj x [116,121,112,101]).2 =true:=by simpa using Q
 have q:(aj x [110,97,109,101]).2 =true:=by
  cases o:(aj x [110,97,109,101]).2 with
  |true=>rfl
  |false=>
   have:(aj x [110,97,109,101]).1.s =[]:=by
    unfold aj at o ⊢;cases hc:(if x.kind=6 then cb x.names x.l [110,97,109,101] else none) with
    |none=>rfl
    |some c=>rw[hc] at o;cases o
   rw[this] at hp;exact absurd hp (by decide)
 have N:=(abe w q).2.2.2.1 rfl;obtain⟨A,g2, -⟩:=abe w L;obtain⟨j,B, -,S⟩:=O m (aj x [116,121,112,101]).1 a A t (.inl Y) e;have C:=dl k m (aj x [116,121,112,101]).1 a;have Z:=t.next B (adj k m _ a A.any t.inv e).1 C e
 generalize aL k m (aj x [116,121,112,101]).1 a=T at*
 generalize (aj x [110,97,109,101]).1.s =b at*
 refine⟨_,j,T.2,rfl,⟨adR hp,N.1⟩,B.up (by omega),Z,C.dep,λk' d a' G hd=>?_⟩;have E:aj (bK [bX,bb] [aA b,j]) bX=(aA b,true):=oA (by simp[cb]);have W:aj (bK [bX,bb] [aA b,j]) bb=(j,true):=oA (by simp[cb]);have X:aj (bK [bX,bb] [aA b,j]) [100,101,102,97,117,108,116]=(.mk 0 0 [] [] [],false):=zj (by simp[cb]);have I:aj (bK [bX,bb] [aA b,j]) [97,108,105,97,115,101,115]=(.mk 0 0 [] [] [],false):=zj (by simp[cb]);have P:dP (ak (bu m d) (!((bK [bX,bb] [aA b,j]).kind==6)) 2) (bK [bX,bb] [aA b,j])=(b,bu m d):=by unfold dP;rw[show ([110,97,109,101]:List UInt8)=bX from rfl,E];exact congrArg (Prod.mk b) ((cG _ 2).trans (cG _ 2))
 have F:∀M:MS,aB lR M (bK [bX,bb] [aA b,j])=([],M):=λM=>by simp only[aB];rw[I];rfl
 rw[P,show ([116,121,112,101]:List UInt8)=bb from rfl,W,X,F];dsimp only;rw[hp,v];rw[show ak (ak (ak (bu m d) (!true) 6) false 5) (!true) 2=bu m d from ((cG _ 2).trans (cG _ 5)).trans (cG _ 6),S k' d a' G hd];rfl
theorem ahJ{k:Nat}(A:agx k){a:List UInt8}(C:a=[115]){D:Nat}:∀(xs:List aa)(l:List aZ)(names:List (List UInt8×Bool))(m:MS),(∀x∈xs,sE x∧dJ x<=D+1)->MI m->(bP (aL k) a xs l names m).2.2.2.1 =0->
  ∃i fs,i.length=xs.length∧fs.length=xs.length∧(∀f∈fs,f.name.length<=3)∧(bP (aL k) a xs l names m).1 =l++fs∧d8 m.2.1 (bP (aL k) a xs l names m).2.2.1 (.flds fs) i (D+1) 30∧
   ∀(k':Nat)(d:Int)(a':List UInt8),k<=k'->d<=m.2.2.2->bP (aL k') a' i (l.map uN) names (bu m d)=((l++fs).map uN,bu (bP (aL k) a xs l names m).2 d)
 | [],l,names,m,_,u,_=>⟨[],[],rfl,rfl,by simp,(BL l).symm,d8.fnil _ _ _,λk' d a' _ _=>by rw[BL];rfl⟩
 |x::xs,l,names,m,p,u,h=>by
  have b:∀(T:TF)(a:List UInt8)(x:aa)(xs:List aa)(l:List aZ)(m:MS),bP T a (x::xs) l names m=(if m.2.2.1=0 then bP T a xs (l++[(cW T m x names a).1]) (cW T m x names a).2.2 (cW T m x names a).2.1 else bP T a xs l names m):=λ_ _ _ _ _ _=>rfl
  rw[b,if_pos u.e] at h ⊢;obtain⟨f,j,T,F,B,J,M,o,I⟩:=asQ A C (p x (by simp)).1 u ((gR (dl k) a xs _ _ _).err h);rw[F] at h ⊢;dsimp only at h ⊢;obtain⟨i,fs,N,G,L,E,t,v⟩:=ahJ A C xs (l++[f]) (cE (k:=.sb) names f.name true) T (λy H=>p y (by simp[H])) M h;refine⟨_::i,f::fs,by simp[N],by simp[G],λg q=>?_,by rw[E];simp,d8.fcons B (J.up (by have:=(p x (by simp)).2;omega)) t,λk' d a' w hd=>?_⟩
  ·rcases AB.1 q with rfl|q;·exact B.2
   ·exact L g q
  ·rw[b,if_pos (show (bu m d).2.2.1 =0 from rfl),I k' d a' w hd];dsimp only;have:=v k' d a' w (by rw[o];exact hd);rw[BF] at this;rw[show [uN f]=[f].map uN from rfl,this];simp
end Go.Proofs.YtkinflmjagfapaaDoor
end
