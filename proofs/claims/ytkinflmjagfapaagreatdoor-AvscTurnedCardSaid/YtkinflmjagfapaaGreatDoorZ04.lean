import Derived.KernelRfl
import Derived.Lib.SplitLaws
import Derived.Lib.IndexBytes
import Derived.Lib.IndexLaws
import Derived.Shelf.Strings.Search3
import Derived.Shelf.Strings.LastIndex
import Derived.Shelf.Strings.SlTrimAscii
import Derived.Shelf.Strings.Split
import Derived.Below
import Derived.WalkKit
import Derived.WalkSpells
import Derived.Laws.Externs
import Derived.Laws.AppendOwn
import Derived.Lib.SliceRun
import Derived.Lib.Walk
import Derived.Lib.Bytealg
import Derived.Deep.LoopGhost
import Derived.Test.YtkinflmjagfapaaGreatDoorZ02
import Derived.Test.YtkinflmjagfapaaGreatDoorZ03
open Array renaming getElem?_eq_getElem→Ao,getElem?_eq_some_iff→AP,getElem?_push→CM
open Bool renaming and_eq_true→Ac,or_eq_true→Ba,not_eq_true'→Bk,and_eq_false_iff→BI,false_or→BO,false_eq_true→B3,eq_iff_iff→B5,or_false→C6
open Eq renaming trans→A3
open Go.Ending renaming returned→Dn
open Go.IntKind renaming wrap→Aj,signed→Bb,bits→Bo,max→BT,min→B2
open Go.Lib renaming run_eql_slice_nil→CB,countB→CG
open Go.Value renaming string→Ci
open Go.World renaming cell?→By
open Int renaming toNat→Ae,toNat_natCast→AR
open List renaming length→Aa,getElem?_eq_getElem→Ab,getElem?_eq_some_iff→Ad,getD_eq_getElem?_getD→Af,mem_of_getElem?→Ai,getD→Ak,all_eq_true→Al,getElem?_append_right→Aq,getElem?_append_left→Ar,length_cons→Av,mem_append→Aw,getElem?_map→Ay,mem_singleton→Az,length_nil→AA,length_append→AD,mem_flatMap→AG,set→AJ,getElem_mem→AK,getElem?_take→AO,mem_cons→AQ,mem_cons_of_mem→AT,getElem?_cons_succ→AV,getElem?_set_ne→AW,drop→AY,getElem?_eq_none→AZ,take→A5,length_singleton→Bh,drop_eq_getElem_cons→Bl,cons_append→Bp,length_map→Bt,take_of_length_le→Bv,length_take→Bw,getElem?_set_self→BG,take_add_one→BH,length_drop→BJ,map_append→BL,contains_iff_mem→BP,drop_zero→BS,drop_length→BZ,drop_eq_nil_of_le→B1,all_cons→B7,getElem?_of_mem→Cc,map_map→Ch,size_toArray→Cz,length_pos_iff→CN,mem_map_of_mem→CO,ext_getElem?→C3,take_length→C7,set_set→Di,getD_cons_succ→Dq
open Nat renaming le_refl→Am,beq→As,lt_of_lt_of_le→AC,le_trans→AH,lt_or_ge→AI,zero_le→Br,beq_refl→BF,add_zero→Cl,lt_trichotomy→C2
open Option renaming map_eq_some_iff→An
open Option.some renaming inj→Au
open UInt8 renaming ofNat→Bq,toNat→CL,toNat_inj→CQ
set_option linter.all false
set_option maxRecDepth 100000
noncomputable section
namespace Go.Proofs.YtkinflmjagfapaaGreatDoor
open Go.AM
noncomputable def wh:av:=tab (P:=Tryz.prog) [] [] [] []
def xQ:IR:=Sq (Rs [Mv 6 4,Mv 7 3,Ll 8 7,Bi 9 .lss 6 8] (Cn 9 .skip (.exit 0))) (Sq (.block 1 (Rs [Mv 12 3,Mv 13 4,Ix 14 .str 12 13,Lq 15 14,Mv 16 0,Bi 17 .eql 15 16] (Cn 17 (Rs [Mv 18 4,Bc 19 .add 18 1,Mv 2 19] .ret) .skip))) (Rg [Mv 10 4,Bc 11 .add 10 1,Mv 4 11]))
def xR:IR:=Rs [Mi 2 0] .ret
def ajp:IR:=Rs [Mi 2 0] (Rs [Pp (.bsl 5 .str [kS [110,117,108,108],kS [98,111,111,108,101,97,110],kS [105,110,116],kS [108,111,110,103],kS [102,108,111,97,116],kS [100,111,117,98,108,101],kS [98,121,116,101,115],kS [115,116,114,105,110,103],kS [114,101,99,111,114,100],kS [101,110,117,109],kS [102,105,120,101,100],kS [97,114,114,97,121],kS [109,97,112],kS [117,110,105,111,110]] true),Mv 3 5] (Sq (Rs [Mi 4 0] (.block 0 (.loop [0,3,4,1000000] 0 xQ))) xR))
def aaf:List RV:=[.t 2]
theorem ajq:FnC Tryz.prog wh [] 0 abz Tryz.f38 ajp aaf:=fnC Tryz.func38
def aia(R:IR->(Ex->St->Ro)->St->Ro)(a:St->Ro):Ex->St->Ro:=(ce a [0,3,4,1000000] 0 (aG 0 (bR (R xR) (fin aaf))))
abbrev oQ:Type:=(Bs×Bool×Bss×Int)
def nu(x:oQ):St:={env:=(.str x.1::.undef::.undef::.sl .str (.may x.2.1) x.2.2.1::.int .i64 x.2.2.2::(U 15 [])),hp:=[]}
def sX(N:Nat):(St->Ro)->St->Ro:=λa s=>run wh N xQ (aia (run wh N) a) s
def oR(N:Nat)(a:oQ->Ro)(x:oQ):Ro:=
 let e:Bs:=x.1;let b:Bool:=x.2.1;let d:Bss:=x.2.2.1;let c:Int:=x.2.2.2;let f:=(↑(Aa d):Int)
 cond (decide (c<f)) (
  chk (ixl c d) (
   let h:=Ak d (Ae c) (am .str)
   cond (decide (h=e)) (
    let i:=(Aj .i64 (c+1))
    some (.int .i64 i,[])) (
    let g:=(Aj .i64 (c+1))
    a (e,b,d,g)))) (
  some (.int .i64 0,[]))
theorem agP(N:Nat):LB (sX N) nu (oR N):=λ_ _=>by kernel_rfl
def mE(N:Nat)(a:Bs)(b:oQ->Ro):Ro:=
 b (a,true,([([110,117,108,108]:Bs),([98,111,111,108,101,97,110]:Bs),([105,110,116]:Bs),([108,111,110,103]:Bs),([102,108,111,97,116]:Bs),([100,111,117,98,108,101]:Bs),([98,121,116,101,115]:Bs),([115,116,114,105,110,103]:Bs),([114,101,99,111,114,100]:Bs),([101,110,117,109]:Bs),([102,105,120,101,100]:Bs),([97,114,114,97,121]:Bs),([109,97,112]:Bs),([117,110,105,111,110]:Bs)]:Bss),0)
def aag(N:Nat)(a:Bs):Ro:=mE N a (λz=>aO N (oR N) z)
theorem aib(N:Nat)(a:Bs)(h:Tot (aag N a) (λz=>∃(c:Int)(rest:List ai),z.1.dimR=.int .i64 c∧z.2=rest∧xF a (c))):∃r,dM a r:=ajq.finP (N:=N) ((cV _ (by kernel_rfl) rfl (λC=>mE N a (λz=>C 1000000 (nu z))) (λC=>by kernel_rfl)).trans (A3 (b:=mE N a (λz=>bg N (sX N) (nu z))) (by kernel_rfl) (congrArg (mE N a) (funext λz=>bz (nu) (sX N) (oR N) (agP N) N z)))) h λ_ ⟨c,_,e,_,q⟩=>⟨(c),e,q⟩
noncomputable def akC:av:=tab (P:=Tryz.prog) [] [] [] []
def ajr:IR:=Rs [Ms 2 []] (Rs [Pp (.bsl 4 .str [kS [],kS [110,117,108,108],kS [98,111,111,108,101,97,110],kS [105,110,116],kS [108,111,110,103],kS [102,108,111,97,116],kS [100,111,117,98,108,101],kS [98,121,116,101,115],kS [115,116,114,105,110,103],kS [114,101,99,111,114,100],kS [101,110,117,109],kS [102,105,120,101,100],kS [97,114,114,97,121],kS [109,97,112],kS [117,110,105,111,110]] true),Mv 3 4] (Sq (Rs [Mv 5 0,Bc 6 .lss 5 1,Mv 7 6,Gf 7 (.mov 8 0),Gf 7 (.bin 9 .gtr 8 (kI 14)),Po 10 7 9] (Cn 10 (Rs [Ms 2 []] .ret) .skip)) (Rs [Mv 11 3,Mv 12 0,Ix 13 .str 11 12,Lq 14 13,Mv 2 14] .ret)))
def ajs:List RV:=[.t 2]
theorem ajt:FnC Tryz.prog akC [] 0 aby Tryz.f67 ajr ajs:=fnC Tryz.func67
def aah(N:Nat)(a:Int):Ro:=
 cond (decide (a<1)) (
  some (.str ([]:Bs),[])) (
  cond (decide (14<a)) (
   some (.str ([]:Bs),[])) (
   chk (ixl a ([([]:Bs),([110,117,108,108]:Bs),([98,111,111,108,101,97,110]:Bs),([105,110,116]:Bs),([108,111,110,103]:Bs),([102,108,111,97,116]:Bs),([100,111,117,98,108,101]:Bs),([98,121,116,101,115]:Bs),([115,116,114,105,110,103]:Bs),([114,101,99,111,114,100]:Bs),([101,110,117,109]:Bs),([102,105,120,101,100]:Bs),([97,114,114,97,121]:Bs),([109,97,112]:Bs),([117,110,105,111,110]:Bs)]:Bss)) (
    let b:=Ak ([([]:Bs),([110,117,108,108]:Bs),([98,111,111,108,101,97,110]:Bs),([105,110,116]:Bs),([108,111,110,103]:Bs),([102,108,111,97,116]:Bs),([100,111,117,98,108,101]:Bs),([98,121,116,101,115]:Bs),([115,116,114,105,110,103]:Bs),([114,101,99,111,114,100]:Bs),([101,110,117,109]:Bs),([102,105,120,101,100]:Bs),([97,114,114,97,121]:Bs),([109,97,112]:Bs),([117,110,105,111,110]:Bs)]:Bss) (Ae a) (am .str)
    some (.str b,[]))))
def aai(N:Nat)(a:Int):Ro:=aah N a
theorem aic(N:Nat)(b:Int)(h:Tot (aai N b) (λz=>∃(a:Bs)(rest:List ai),z.1.dimR=.str a∧z.2=rest∧xG b (a))):∃r,nQ b r:=ajt.finP (N:=N) (by kernel_rfl) h λ_ ⟨a,_,e,_,q⟩=>⟨(a),e,q⟩
noncomputable def al0:av:=tab (P:=Tryz.prog) [] [] [] [akw]
def akD:IR:=Rs [Bx 2 0,Ms 4 []] (Sq (Rs [Mv 5 1,Bc 6 .lss 5 0,Mv 7 6,Gf 7 (.mov 8 1),Gf 7 (.fad 9 0 2),Gf 7 (.lde 10 1 false 9),Gf 7 (.lenl 11 10),Gf 7 (.bin 12 .geq 8 11),Po 13 7 12] (Cn 13 (Rs [Ms 4 []] .ret) .skip)) (Sq (Rs [Fa 14 0 2,Lq 15 14,Mv 16 1,Ix 17 .atype 15 16,Fa 18 1 17,Lo 19 18,Pp (.bin 20 .neq 19 (kS []))] (Cn 20 (Rs [Fa 21 0 2,Lq 22 21,Mv 23 1,Ix 24 .atype 22 23,Fa 25 1 24,Lo 26 25,Mv 4 26] .ret) .skip)) (Rs [Fa 27 0 2,Lq 28 27,Mv 29 1,Ix 30 .atype 28 29,Fa 31 0 30,Lo 32 31,Ca 33 67 [32],Mv 4 33] .ret)))
def akE:List RV:=[.t 4]
theorem akF:FnC Tryz.prog al0 [] 0 adN Tryz.f52 akD akE:=fnC Tryz.func52
def abY(N:Nat)(a:List ab)(b:Int):Ro:=
 cond (decide (b<0)) (
  some (.str ([]:Bs),[])) (
  let c:=(↑(Aa a):Int)
  cond (decide (c<=b)) (
   some (.str ([]:Bs),[])) (
   chk (ixl b a) (
    let e:=(Ak a (Ae b) (am .atype))
    let g:=(!decide (e.name=([]:Bs)))
    cond g (
     chk (ixl b a) (
      let d:=(Ak a (Ae b) (am .atype))
      some (.str d.name,[]))) (
     chk (ixl b a) (
      let f:=(Ak a (Ae b) (am .atype))
      af (nQ f.kind) (λ(h:Bs)=>
       some (.str h,[])))))))
def abZ(N:Nat)(a:List ab)(b:Int):Ro:=abY N a b
theorem aju(N:Nat)(a:List ab)(c:Int)(h:Tot (abZ N a c) (λz=>∃(b:Bs)(rest:List ai),z.1.dimR=.str b∧z.2=rest∧yP a c (b))):∃r,mq a c r:=akF.finP (N:=N) (by kernel_rfl) h λ_ ⟨b,_,e,_,q⟩=>⟨(b),e,q⟩
noncomputable def sY:av:=tab (P:=Tryz.prog) [] [] [] []
def vy:IR:=Sq (Rs [Mv 7 3,Bc 8 .geq 7 0] (Cn 8 .skip (.exit 0))) (Sq (.block 1 (Rs [Mv 11 0,Mv 12 3,Pp (.idx 13 11 12),Pp (.bin 14 .eql 13 (.c (.int .u8 46)))] (Cn 14 (Rs [Mv 15 0,Mv 16 3,Pp (.subs 17 15 none (some 16)),Mv 2 17] .ret) .skip))) (Rg [Mv 9 3,Bc 10 .sub 9 1,Mv 3 10]))
def vz:IR:=Rs [Ms 2 []] .ret
def agQ:IR:=Rs [Ms 2 []] (Sq (Rs [Mv 4 0,Pp (.lens 5 4),Bc 6 .sub 5 1,Mv 3 6] (.block 0 (.loop [0,3,1000000] 0 vy))) vz)
def xS:List RV:=[.t 2]
theorem agR:FnC Tryz.prog sY [] 0 yV Tryz.f55 agQ xS:=fnC Tryz.func55
def afL(R:IR->(Ex->St->Ro)->St->Ro)(a:St->Ro):Ex->St->Ro:=(ce a [0,3,1000000] 0 (aG 0 (bR (R vz) (fin xS))))
abbrev mF:Type:=(Bs×Int)
def lW(x:mF):St:={env:=(.str x.1::.undef::.undef::.int .i64 x.2::(U 14 [])),hp:=[]}
def qJ(N:Nat):(St->Ro)->St->Ro:=λa s=>run sY N vy (afL (run sY N) a) s
def mG(N:Nat)(a:mF->Ro)(x:mF):Ro:=
 let c:Bs:=x.1;let b:Int:=x.2
 cond (decide (0<=b)) (
  chk (ixl b c) (
   let f:=(↑(CL (Ak c (Ae b) 0)):Int)
   cond (f==46) (
    chk ((decide (0<=b)&&decide (b<=(↑(Aa c):Int)))) (
     let d:=(AY 0 (A5 (Ae b) c))
     some (.str d,[]))) (
    let e:=(Aj .i64 (b-1))
    a (c,e)))) (
  some (.str ([]:Bs),[]))
theorem aed(N:Nat):LB (qJ N) lW (mG N):=λ_ _=>by kernel_rfl
def la(N:Nat)(a:Bs)(c:mF->Ro):Ro:=
 let b:=(↑(Aa a):Int)
 let d:=(Aj .i64 (b-1))
 c (a,d)
def xT(N:Nat)(a:Bs):Ro:=la N a (λz=>aO N (mG N) z)
theorem afM(N:Nat)(a:Bs)(h:Tot (xT N a) (λz=>∃(c:Bs)(rest:List ai),z.1.dimR=.str c∧z.2=rest∧vn a (c))):∃r,fm a r:=agR.finP (N:=N) ((cV _ (by kernel_rfl) rfl (λC=>la N a (λz=>C 1000000 (lW z))) (λC=>by kernel_rfl)).trans (A3 (b:=la N a (λz=>bg N (qJ N) (lW z))) (by kernel_rfl) (congrArg (la N a) (funext λz=>bz (lW) (qJ N) (mG N) (aed N) N z)))) h λ_ ⟨c,_,e,_,q⟩=>⟨(c),e,q⟩
noncomputable def zf:av:=tab (P:=Tryz.prog) [] [] [] []
def aaj:IR:=Sq (Rs [Fa 7 0 2,Lq 8 7,Bc 9 .eql 8 6,Mv 10 9,Gt 10 (.mov 11 6),Gt 10 (.fad 12 4 2),Gt 10 (.lde 13 1 false 12),Gt 10 (.lenl 14 13),Gt 10 (.bin 15 .lss 11 14),Pa 16 10 15,Mv 17 16,Gt 17 (.mov 18 6),Gt 17 (.fad 19 3 2),Gt 17 (.lde 20 1 false 19),Gt 17 (.lenl 21 20),Gt 17 (.bin 22 .lss 18 21),Pa 23 17 22] (Cn 23 .skip (.exit 0))) (Sq (.block 1 (Rs [Fa 26 4 2,Lq 27 26,Mv 28 6,Ix 29 .str 27 28,Lq 30 29,Mv 31 1,Bi 32 .eql 30 31] (Cn 32 (Rs [Fa 33 3 2,Lq 34 33,Mv 35 6,Ix 36 .jnode 34 35,Ld 37 5 true 36,Sv 5 4 37,Mb 5 true] .ret) .skip))) (Rg [Mv 24 6,Bc 25 .add 24 1,Mv 6 25]))
def aak:IR:=Rs [Pp (.bld 38 [vI 0,vI 0,vS,fu .jnode true,fu .str true] []),Sv 5 4 38,Mb 5 false] .ret
def al1:IR:=Rs [Bx 2 0,Pp (.new 4 [vI 0,vI 0,vS,nl .jnode,nl .str]),Mb 5 false] (Sq (Rs [Mi 6 0] (.block 0 (.loop [1,2,4,6,1000000] 1 aaj))) aak)
def adQ:List RV:=[.cell 4 5 true,.t 5]
theorem al2:FnC Tryz.prog zf [] 0 afG Tryz.f36 al1 adQ:=fnC Tryz.func36
def akG(R:IR->(Ex->St->Ro)->St->Ro)(a:St->Ro):Ex->St->Ro:=(ce a [1,2,4,6,1000000] 1 (aG 0 (bR (R aak) (fin adQ))))
abbrev rc:Type:=(Bs×aa×Int×Int×Int×Bs×List aa×Bss)
def pT(x:rc):St:={env:=(.undef::.str x.1::.ea (enc .jnode x.2.1)::.undef::.ptr 0 0::.undef::.int .i64 x.2.2.1::(U 32 [])),hp:=[some [.int .i64 x.2.2.2.1,.int .i64 x.2.2.2.2.1,.str x.2.2.2.2.2.1,.sl .jnode .own x.2.2.2.2.2.2.1,.sl .str .own x.2.2.2.2.2.2.2]]}
def wi(N:Nat):(St->Ro)->St->Ro:=λa s=>run zf N aaj (akG (run zf N) a) s
def re(N:Nat)(a:rc->Ro)(x:rc):Ro:=
 let m:Bs:=x.1;let b:aa:=x.2.1;let c:Int:=x.2.2.1;let e:Int:=x.2.2.2.1;let h:Int:=x.2.2.2.2.1;let f:Bs:=x.2.2.2.2.2.1;let d:List aa:=x.2.2.2.2.2.2.1;let g:Bss:=x.2.2.2.2.2.2.2;let j:=λt r p k q o w=>(some (.tup [.agg [.int .i64 t,.int .i64 r,.str p,.sl .jnode (.may k) q,.sl .str (.may k) o],.bool w],[some [.int .i64 t,.int .i64 r,.str p,.sl .jnode (.may k) q,.sl .str (.may k) o]]):Ro)
 cond (b.kind==6) (
  let u:=(↑(Aa b.names):Int)
  cond (decide (c<u)) (
   let v:=(↑(Aa b.l):Int)
   cond (decide (c<v)) (
    chk (ixl c b.names) (
     let A:=Ak b.names (Ae c) (am .str)
     cond (decide (A=m)) (
      chk (ixl c b.l) (
       let i:=(Ak b.l (Ae c) (am .jnode))
       j i.kind i.n i.s false i.l i.names true)) (
      let y:=(Aj .i64 (c+1))
      a (m,b,y,e,h,f,d,g)))) (
    j 0 0 ([]:Bs) true ([]:List aa) ([]:Bss) false)) (
   j 0 0 ([]:Bs) true ([]:List aa) ([]:Bss) false)) (
  j 0 0 ([]:Bs) true ([]:List aa) ([]:Bss) false)
theorem ajv(N:Nat):LB (wi N) pT (re N):=λ_ _=>by kernel_rfl
def pl(N:Nat)(a:aa)(b:Bs)(c:rc->Ro):Ro:=
 c (b,a,0,0,0,([]:Bs),([]:List aa),([]:Bss))
def adR(N:Nat)(a:aa)(b:Bs):Ro:=pl N a b (λz=>aO N (re N) z)
theorem akH(N:Nat)(a:aa)(c:Bs)(h:Tot (adR N a c) (λz=>∃(d:aa)(f:Bool)(rest:List ai),z.1.dimR=.tup [.agg (enc .jnode d),.bool f]∧z.2=rest∧mB a c (d,f))):∃r,aU a c r:=al2.finP (N:=N) ((cV _ (by kernel_rfl) rfl (λC=>pl N a c (λz=>C 1000000 (pT z))) (λC=>by kernel_rfl)).trans (A3 (b:=pl N a c (λz=>bg N (wi N) (pT z))) (by kernel_rfl) (congrArg (pl N a c) (funext λz=>bz (pT) (wi N) (re N) (ajv N) N z)))) h λ_ ⟨d,f,_,e,_,q⟩=>⟨(d,f),e,q⟩
noncomputable def ajw:av:=tab (P:=Tryz.prog) [] [] [] []
def aid:IR:=Rs [Mb 2 false] (Rs [Mv 3 0,Pp (.bin 4 .geq 3 (.c (.int .u8 97))),Mv 5 4,Gt 5 (.mov 6 0),Gt 5 (.bin 7 .leq 6 (.c (.int .u8 122))),Pa 8 5 7,Mv 9 8,Gf 9 (.mov 10 0),Gf 9 (.bin 11 .geq 10 (.c (.int .u8 65))),Gf 9 (.mov 12 11),Gt 12 (.mov 13 0),Gt 12 (.bin 14 .leq 13 (.c (.int .u8 90))),Gf 9 (.pick 15 12 14 (kB false)),Po 16 9 15,Mv 17 16,Gf 17 (.mov 18 0),Gf 17 (.bin 19 .eql 18 (.c (.int .u8 95))),Po 20 17 19,Mv 2 20] .ret)
def aie:List RV:=[.t 2]
theorem aif:FnC Tryz.prog ajw [] 0 aac Tryz.f79 aid aie:=fnC Tryz.func79
def zg(N:Nat)(a:Int):Ro:=
 let b:=(some (.bool (a==95),[]):Ro)
 cond (decide (97<=a)) (
  cond (decide (a<=122)) (
   some (.bool true,[])) (
   cond (decide (65<=a)) (
    cond (decide (a<=90)) (
     some (.bool true,[])) (
     b)) (
    b))) (
  cond (decide (65<=a)) (
   cond (decide (a<=90)) (
    some (.bool true,[])) (
    b)) (
   b))
def zh(N:Nat)(a:Int):Ro:=zg N a
theorem agS(N:Nat)(b:Int)(h:Tot (zh N b) (λz=>∃(a:Bool)(rest:List ai),z.1.dimR=.bool a∧z.2=rest∧wL b (a))):∃r,mD b r:=aif.finP (N:=N) (by kernel_rfl) h λ_ ⟨a,_,e,_,q⟩=>⟨(a),e,q⟩
noncomputable def akI:av:=tab (P:=Tryz.prog) [] [] [] []
def ajx:IR:=Rs [Mb 2 false] (Rs [Mv 3 0,Pp (.bin 4 .geq 3 (.c (.int .u8 48))),Mv 5 4,Gt 5 (.mov 6 0),Gt 5 (.bin 7 .leq 6 (.c (.int .u8 57))),Pa 8 5 7,Mv 2 8] .ret)
def ajy:List RV:=[.t 2]
theorem ajz:FnC Tryz.prog akI [] 0 abA Tryz.f80 ajx ajy:=fnC Tryz.func80
def aal(N:Nat)(a:Int):Ro:=
 cond (decide (48<=a)) (
  some (.bool (decide (a<=57)),[])) (
  some (.bool false,[]))
def aam(N:Nat)(a:Int):Ro:=aal N a
theorem aig(N:Nat)(b:Int)(h:Tot (aam N b) (λz=>∃(a:Bool)(rest:List ai),z.1.dimR=.bool a∧z.2=rest∧xH b (a))):∃r,nS b r:=ajz.finP (N:=N) (by kernel_rfl) h λ_ ⟨a,_,e,_,q⟩=>⟨(a),e,q⟩
noncomputable def xv:av:=tab (P:=Tryz.prog) [] [] [] [ajl,akA]
def zi:IR:=Sq (Rs [Mv 4 3,Mv 5 0,Pp (.lens 6 5),Bi 7 .lss 4 6] (Cn 7 .skip (.exit 0))) (Sq (.block 1 (Rs [Mv 10 0,Mv 11 3,Pp (.idx 12 10 11),Ca 13 79 [12],Un 14 13,Mv 15 14,Gt 15 (.mov 16 3),Gt 15 (.bin 17 .eql 16 (kI 0)),Gt 15 (.mov 18 17),Gf 18 (.mov 19 0),Gf 18 (.mov 20 3),Gf 18 (.idx 21 19 20),Gf 18 (.call 22 80 [21]),Gf 18 (.un 23 .not 22),Gt 15 (.pick 24 18 (kB true) 23),Pa 25 15 24] (Cn 25 (Rs [Mb 2 false] .ret) .skip))) (Rg [Mv 8 3,Bc 9 .add 8 1,Mv 3 9]))
def zj:IR:=Rs [Mv 26 0,Pp (.lens 27 26),Bc 28 .gtr 27 0,Mv 2 28] .ret
def akJ:IR:=Rs [Mb 2 false] (Sq (Rs [Mi 3 0] (.block 0 (.loop [0,3,1000000] 0 zi))) zj)
def ab0:List RV:=[.t 2]
theorem akK:FnC Tryz.prog xv [] 0 adO Tryz.f70 akJ ab0:=fnC Tryz.func70
def ajA(R:IR->(Ex->St->Ro)->St->Ro)(a:St->Ro):Ex->St->Ro:=(ce a [0,3,1000000] 0 (aG 0 (bR (R zj) (fin ab0))))
abbrev pU:Type:=(Bs×Int)
def oS(x:pU):St:={env:=(.str x.1::.undef::.undef::.int .i64 x.2::(U 25 [])),hp:=[]}
def uH(N:Nat):(St->Ro)->St->Ro:=λa s=>run xv N zi (ajA (run xv N) a) s
def pV(N:Nat)(a:pU->Ro)(x:pU):Ro:=
 let c:Bs:=x.1;let b:Int:=x.2;let d:=(↑(Aa c):Int)
 cond (decide (b<d)) (
  chk (ixl b c) (
   let f:=(↑(CL (Ak c (Ae b) 0)):Int)
   af (mD f) (λ(k:Bool)=>
    cond (!k) (
     cond (b==0) (
      some (.bool false,[])) (
      chk (ixl b c) (
       let g:=(↑(CL (Ak c (Ae b) 0)):Int)
       af (nS g) (λ(h:Bool)=>
        cond (!h) (
         some (.bool false,[])) (
         let e:=(Aj .i64 (b+1))
         a (c,e)))))) (
     let i:=(Aj .i64 (b+1))
     a (c,i))))) (
  let j:=(↑(Aa c):Int)
  some (.bool (decide (0<j)),[]))
theorem aih(N:Nat):LB (uH N) oS (pV N):=λ_ _=>by kernel_rfl
def nW(N:Nat)(a:Bs)(b:pU->Ro):Ro:=
 b (a,0)
def ab1(N:Nat)(a:Bs):Ro:=nW N a (λz=>aO N (pV N) z)
theorem ajB(N:Nat)(a:Bs)(h:Tot (ab1 N a) (λz=>∃(c:Bool)(rest:List ai),z.1.dimR=.bool c∧z.2=rest∧sV a (c))):∃r,gu a r:=akK.finP (N:=N) ((cV _ (by kernel_rfl) rfl (λC=>nW N a (λz=>C 1000000 (oS z))) (λC=>by kernel_rfl)).trans (A3 (b:=nW N a (λz=>bg N (uH N) (oS z))) (by kernel_rfl) (congrArg (nW N a) (funext λz=>bz (oS) (uH N) (pV N) (aih N) N z)))) h λ_ ⟨c,_,e,_,q⟩=>⟨(c),e,q⟩
noncomputable def al3:av:=tab (P:=Tryz.prog) [] [] [] []
def akL:IR:=Rs [Ms 4 []] (Sq (Rs [Mv 5 0,Pp (.bin 6 .eql 5 (kS [])),Mv 7 6,Gf 7 (.mov 8 1),Gf 7 (.bin 9 .eql 8 (kS [])),Po 10 7 9] (Cn 10 (Rs [Mv 11 0,Mv 12 1,Bi 13 .add 11 12,Mv 4 13] .ret) .skip)) (Rs [Mv 14 0,Pp (.bin 15 .add 14 (kS [46])),Mv 16 1,Bi 17 .add 15 16,Mv 4 17] .ret))
def akM:List RV:=[.t 4]
theorem akN:FnC Tryz.prog al3 [] 0 adP Tryz.f68 akL akM:=fnC Tryz.func68
def ab2(N:Nat)(a b:Bs):Ro:=
 let d:=decide (a=([]:Bs))
 cond d (
  chk (decide (Aa a+Aa b<=9223372036854775807)) (
   some (.str (a++b),[]))) (
  let e:=decide (b=([]:Bs))
  cond e (
   chk (decide (Aa a+Aa b<=9223372036854775807)) (
    some (.str (a++b),[]))) (
   chk (decide (Aa a+Aa ([46]:Bs)<=9223372036854775807)) (
    let c:=(a++([46]:Bs))
    chk (decide (Aa c+Aa b<=9223372036854775807)) (
     some (.str (c++b),[])))))
def ab3(N:Nat)(a b:Bs):Ro:=ab2 N a b
theorem ajC(N:Nat)(b c:Bs)(h:Tot (ab3 N b c) (λz=>∃(a:Bs)(rest:List ai),z.1.dimR=.str a∧z.2=rest∧lI b c (a))):∃r,pg b c r:=akN.finP (N:=N) (by kernel_rfl) h λ_ ⟨a,_,e,_,q⟩=>⟨(a),e,q⟩
noncomputable def wj:av:=tab (P:=Tryz.prog) [] [] [] [xq]
def xU:IR:=Sq (Rs [Mv 5 4,Mv 6 0,Pp (.lens 7 6),Bi 8 .leq 5 7] (Cn 8 .skip (.exit 0))) (Sq (.block 1 (Sq (Rs [Mv 11 4,Mv 12 0,Pp (.lens 13 12),Bi 14 .lss 11 13,Mv 15 14,Gt 15 (.mov 16 0),Gt 15 (.mov 17 4),Gt 15 (.idx 18 16 17),Gt 15 (.bin 19 .neq 18 (.c (.int .u8 46))),Pa 20 15 19] (Cn 20 (Rs [Mv 21 3,Mv 22 0,Mv 23 4,Mv 24 4,Bc 25 .add 24 1,Pp (.subs 26 22 (some 23) (some 25)),Bi 27 .add 21 26,Mv 3 27] (.exit 1)) .skip)) (Sq (Rs [Mv 28 3,Ca 29 70 [28],Un 30 29] (Cn 30 (Rs [Mb 2 false] .ret) .skip)) (Rg [Ms 3 []])))) (Rg [Mv 9 4,Bc 10 .add 9 1,Mv 4 10]))
def wX:IR:=Rs [Mb 2 true] .ret
def ajD:IR:=Rs [Mb 2 false] (Rs [Ms 3 []] (Sq (Rs [Mi 4 0] (.block 0 (.loop [0,3,4,1000000] 0 xU))) wX))
def aan:List RV:=[.t 2]
theorem ajE:FnC Tryz.prog wj [] 0 abB Tryz.f69 ajD aan:=fnC Tryz.func69
def aii(R:IR->(Ex->St->Ro)->St->Ro)(a:St->Ro):Ex->St->Ro:=(ce a [0,3,4,1000000] 0 (aG 0 (bR (R wX) (fin aan))))
abbrev oT:Type:=(Bs×Bs×Int)
def nv(x:oT):St:={env:=(.str x.1::.undef::.undef::.str x.2.1::.int .i64 x.2.2::(U 26 [])),hp:=[]}
def sZ(N:Nat):(St->Ro)->St->Ro:=λa s=>run wj N xU (aii (run wj N) a) s
def oU(N:Nat)(a:oT->Ro)(x:oT):Ro:=
 let c:Bs:=x.1;let e:Bs:=x.2.1;let b:Int:=x.2.2;let g:=(↑(Aa c):Int)
 cond (decide (b<=g)) (
  let i:=(↑(Aa c):Int)
  cond (decide (b<i)) (
   chk (ixl b c) (
    let j:=(↑(CL (Ak c (Ae b) 0)):Int)
    cond (!(j==46)) (
     let d:=(Aj .i64 (b+1))
     chk ((decide (0<=d)&&decide (d<=(↑(Aa c):Int))&&(decide (0<=b)&&decide (b<=d)))) (
      let f:=(AY (Ae b) (A5 (Ae d) c))
      chk (decide (Aa e+Aa f<=9223372036854775807)) (
       let m:=(Aj .i64 (b+1))
       a (c,(e++f),m)))) (
     af (gu e) (λ(p:Bool)=>
      cond (!p) (
       some (.bool false,[])) (
       let h:=(Aj .i64 (b+1))
       a (c,([]:Bs),h)))))) (
   af (gu e) (λ(k:Bool)=>
    cond (!k) (
     some (.bool false,[])) (
     let o:=(Aj .i64 (b+1))
     a (c,([]:Bs),o))))) (
  some (.bool true,[]))
theorem agT(N:Nat):LB (sZ N) nv (oU N):=λ_ _=>by kernel_rfl
def mH(N:Nat)(a:Bs)(b:oT->Ro):Ro:=
 b (a,([]:Bs),0)
def aao(N:Nat)(a:Bs):Ro:=mH N a (λz=>aO N (oU N) z)
theorem aij(N:Nat)(a:Bs)(h:Tot (aao N a) (λz=>∃(c:Bool)(rest:List ai),z.1.dimR=.bool c∧z.2=rest∧xI a (c))):∃r,nR a r:=ajE.finP (N:=N) ((cV _ (by kernel_rfl) rfl (λC=>mH N a (λz=>C 1000000 (nv z))) (λC=>by kernel_rfl)).trans (A3 (b:=mH N a (λz=>bg N (sZ N) (nv z))) (by kernel_rfl) (congrArg (mH N a) (funext λz=>bz (nv) (sZ N) (oU N) (agT N) N z)))) h λ_ ⟨c,_,e,_,q⟩=>⟨(c),e,q⟩
theorem ask(c:UInt8):dq [] c=false:=rfl
theorem arn(b:UInt8)(l:List UInt8)(c:UInt8):dq (b::l) c=(b==c||dq l c):=by
 unfold dq;have:=Go.Lib.indexByte_ge l c;rw[Go.Lib.indexByte];cases a:b==c with
 |true=>simp
 |false=>
  simp only[B3,if_false,BO];by_cases h:Go.Lib.indexByte l c=-1;·simp[h]
  ·rw[if_neg (by simpa using h)];apply decide_eq_decide.2;omega
theorem agE:∀(l:List UInt8)(c:UInt8),dq l c=l.contains c
 | [],c=>rfl
 |b::l,c=>by rw[arn,agE l c,List.contains_cons,Bool.beq_comm]
theorem asl(l:List UInt8)(c:UInt8):dq l c=true↔c∈l:=by rw[agE];exact BP
theorem aqf:∀n:Fin 256,dq dJ (Bq n.val)=(decide (97<=n.val)&&decide (n.val<=122)||(decide (65<=n.val)&&decide (n.val<=90)||n.val==95)):=by decide+kernel
theorem aro:∀n:Fin 256,dq iV (Bq n.val)=(decide (48<=n.val)&&decide (n.val<=57)):=by decide+kernel
theorem asm(l cs:List UInt8):Go.Lib.trimS l cs=[]↔∀c∈l,cs.contains c=true:=by
 have i:∀l:List UInt8,l.dropWhile (cs.contains ·)=[]↔∀c∈l,cs.contains c=true:=by
  intro l;induction l with
  |nil=>simp
  |cons b l j=>
   rw[List.dropWhile_cons];split
   ·rename_i h;rw[j];refine⟨λd c a=>?_,λd c a=>d c (AT _ a)⟩;rcases AQ.1 a with rfl|a;·exact h
    ·exact d c a
   ·rename_i h;exact⟨λe=>(by cases e),λd=>absurd (d b (by simp)) h⟩
 unfold Go.Lib.trimS Go.Lib.trimLeftS Go.Lib.trimRightS;rw[i];constructor
 ·intro h;by_cases f:l.reverse.dropWhile (cs.contains ·)=[]
  ·intro c a;exact(i l.reverse).1 f c (by simpa using a)
  ·exfalso;have g:=List.head_dropWhile_not (cs.contains ·) f;have k:=h (List.head _ f) (by simp[List.head_mem]);rw[k] at g;cases g
 ·intro h c a;have:c∈l.reverse.dropWhile (cs.contains ·):=by simpa using a
  exact h c (by simpa using (List.dropWhile_sublist _).mem this)
def okC(i:Nat)(c:UInt8):Bool:=dq dJ c||(!decide (i=0)&&dq iV c)
theorem alD(s:List UInt8):cf s=true↔s≠[]∧∀(i:Nat) c,s[i]? =some c->okC i c=true:=by
 have f:∀c,(dJ++iV).contains c=(dq dJ c||dq iV c):=by intro c;rw[agE,agE];simp[List.contains_eq_mem]
 unfold cf;simp only[Ac,Bk,decide_eq_false_iff_not,decide_eq_true_eq,asm,f];constructor
 ·rintro⟨⟨a,d⟩,h⟩;refine⟨a,λi c e=>?_⟩;unfold okC;have g:=d c (Ai e);cases i with
  |zero=>
   have:s.headD 0=c:=by cases s with
    |nil=>exact absurd rfl a
    |cons b l=>simpa using e
   rw[<-this,h];rfl
  |succ i=>simpa using g
 ·rintro⟨a,d⟩;refine⟨⟨a,λc e=>?_⟩,?_⟩
  ·obtain⟨i,k⟩:=Cc e;have:=d i c k;unfold okC at this;cases j:dq dJ c with
   |true=>rfl
   |false=>rw[j] at this;simp only[BO,Ac] at this;exact this.2
  ·cases s with
   |nil=>exact absurd rfl a
   |cons b l=>have:=d 0 b rfl;simpa [okC] using this
def kp:List UInt8->List UInt8->List (List UInt8)
 |p,[]=>[p]
 |p,c::s=>if c=46 then p::kp [] s else kp (p++[c]) s
theorem aik:∀(s:List UInt8)(k:Nat),s.count 46<=k->∃x l,Go.Lib.splitK [46] 0 k s=x::l∧∀p,kp p s=(p++x)::l
 | [],0,_=>⟨[],[],rfl,λp=>by simp[kp]⟩
 | [],k+1,_=>⟨[],[],rfl,λp=>by simp[kp]⟩
 |c::s,k,h=>by
  by_cases f:c=46
  ·subst f;rw[List.count_cons_self] at h;obtain⟨k,rfl⟩:∃k',k=k'+1:=⟨k-1,by omega⟩
   obtain⟨x,l,a,m⟩:=aik s k (by omega);have g:Go.Lib.index (46::s) [46]=0:=by simp[Go.Lib.index]
   refine⟨[],x::l,?_,λp=>?_⟩;·rw[Go.Lib.splitK,g];simp[a]
   ·rw[kp,if_pos rfl,m []];simp
  ·rw[List.count_cons_of_ne (λe=>f e)] at h;obtain⟨x,l,a,m⟩:=aik s k h;have g:Go.Lib.index (c::s) [46]=if Go.Lib.index s [46]== -1 then -1 else Go.Lib.index s [46]+1:=by
    rw[Go.Lib.index,if_neg];simp only[List.isPrefixOf,Bool.and_true];intro e;exact f (by simpa using (beq_iff_eq.1 e).symm)
   have hp:∀p,kp p (c::s)=kp (p++[c]) s:=λp=>by rw[kp,if_neg f]
   have r:=Go.Lib.index_ge s [46];refine⟨c::x,l,?_,λp=>by rw[hp,m];simp⟩;cases k with
   |zero=>rw[Go.Lib.splitK] at a ⊢;cases a;rfl
   |succ k=>
    rw[Go.Lib.splitK] at a ⊢;rw[g];by_cases o:Go.Lib.index s [46]=-1;·rw[if_pos (by simpa using o)] at a;rw[if_pos (by simp[o])];cases a;rfl
    ·obtain⟨i,j⟩:∃i:Nat,Go.Lib.index s [46]=i:=⟨(Go.Lib.index s [46]).toNat,by omega⟩
     rw[j] at a ⊢;have b:((i:Int)== -1)=false:=by rw[beq_eq_false_iff_ne];omega
     rw[if_neg (by simp[b])] at a;simp only[b,B3,if_false];have d:((i:Int)+1== -1)=false:=by rw[beq_eq_false_iff_ne];omega
     rw[if_neg (by simp[d])];have q:((i:Int)+1).toNat=i+1:=by omega
     have t:((i:Int)).toNat=i:=by omega
     rw[t] at a;rw[q];simp only[Cl,Av,AA,List.cons.injEq] at a ⊢;exact⟨by rw[<-a.1];simp,by rw[<-a.2];simp⟩
theorem anu(s:List UInt8):Go.Lib.split s [46]=kp [] s:=by obtain⟨x,l,b,a⟩:=aik s (Go.Lib.count s [46]) (by rw[Go.Lib.count_one];exact Am _);rw[Go.Lib.split,b,a];simp
theorem aqg(x:List UInt8):∀p,[]∈kp p (x++[46]):=by
 induction x with
 |nil=>intro p;simp[kp]
 |cons c x a=>
  intro p;rw[Bp,kp];split;·exact AT _ (a _)
  ·exact a _
theorem as9(l:List (List UInt8)):(l.any λs=> !cf s)= !(l.all cf):=by
 induction l with
 |nil=>rfl
 |cons x l a=>simp only[List.any_cons,B7,a,Bool.not_and]
theorem aqh(s:List UInt8):(oG s=-1∧∀j:Nat,j<s.length->s.getD j 0≠46)∨(∃i:Nat,i<s.length∧oG s=i∧s.getD i 0=46∧∀j:Nat,i<j->j<s.length->s.getD j 0≠46):=by
 have key:∀j:Nat,(s.toArray[j]!)=s.getD j 0:=by intro j;simp[getElem!_def,Af];cases s[j]?<;>rfl
 have c:∀u:UInt8,((u.toNat:Int)≠46)↔u≠46:=by
  intro u;constructor;·rintro h rfl;exact h rfl
  ·intro h e;refine h (CQ.1 ?_);simpa using (by omega:u.toNat=46)
 have f:(⟨s.toArray⟩:ByteArray).size=s.length:=by show s.toArray.size=_;simp
 rcases Go.Lib.lastIndexByte_spec ⟨s.toArray⟩ 46 with⟨a,d⟩|⟨i,a,d,g,k⟩
 ·refine .inl ⟨a,λj b=>?_⟩;have:=d j (by rw[f];exact b);rw[show (⟨s.toArray⟩:ByteArray).data=s.toArray from rfl,key] at this;exact(c _).1 this
 ·refine .inr ⟨i,by rw[f] at a;exact a,d,?_,λj b m=>?_⟩
  ·rw[show (⟨s.toArray⟩:ByteArray).data=s.toArray from rfl,key] at g;by_cases h:s.getD i 0=46;·exact h
   ·exact absurd g ((c _).2 h)
  ·have:=k j b (by rw[f];exact m);rw[show (⟨s.toArray⟩:ByteArray).data=s.toArray from rfl,key] at this;exact(c _).1 this
noncomputable def anv:av:=tab (P:=Tryz.prog) [] [] [] []
def al4:IR:=Rs [Pp (.mov 0 (.c (nl .str)))] (Rs [Pp (.bsl 1 .str [kS [],kS [110,117,108,108],kS [98,111,111,108,101,97,110],kS [105,110,116],kS [108,111,110,103],kS [102,108,111,97,116],kS [100,111,117,98,108,101],kS [98,121,116,101,115],kS [115,116,114,105,110,103],kS [114,101,99,111,114,100],kS [101,110,117,109],kS [102,105,120,101,100],kS [97,114,114,97,121],kS [109,97,112],kS [117,110,105,111,110]] false),Pp (.mov 0 (.tk 1))] .ret)
def al5:List RV:=[.t 0]
theorem al6:FnC Tryz.prog anv [] 0 afp Tryz.f41 al4 al5:=fnC Tryz.func41
def adS(N:Nat):Ro:=
 some (.sl .str .own ([([]:Bs),([110,117,108,108]:Bs),([98,111,111,108,101,97,110]:Bs),([105,110,116]:Bs),([108,111,110,103]:Bs),([102,108,111,97,116]:Bs),([100,111,117,98,108,101]:Bs),([98,121,116,101,115]:Bs),([115,116,114,105,110,103]:Bs),([114,101,99,111,114,100]:Bs),([101,110,117,109]:Bs),([102,105,120,101,100]:Bs),([97,114,114,97,121]:Bs),([109,97,112]:Bs),([117,110,105,111,110]:Bs)]:Bss),[])
def adT(N:Nat):Ro:=adS N
theorem akO(N:Nat)(h:Tot (adT N) (λz=>∃(a:Bss)(rest:List ai),z.1.dimR=.sl .str (.may false) a∧z.2=rest∧zX  (a))):∃r,gf  r:=al6.finP (N:=N) (by kernel_rfl) h λ_ ⟨a,_,e,_,q⟩=>⟨(a),e,q⟩
noncomputable def aoy:av:=tab (P:=Tryz.prog) [] [] [] [yU]
def anw:IR:=Rs [Ms 2 []] (Sq (Rs [Mv 3 0,Bc 4 .lss 3 1,Mv 5 4,Gf 5 (.mov 6 0),Gf 5 (.bin 7 .gtr 6 (kI 14)),Po 8 5 7] (Cn 8 (Rs [Ms 2 []] .ret) .skip)) (Rs [Ca 9 41 [],Mv 10 0,Ix 11 .str 9 10,Lq 12 11,Mv 2 12] .ret))
def anx:List RV:=[.t 2]
theorem anz:FnC Tryz.prog aoy [] 0 ahn Tryz.f20 anw anx:=fnC Tryz.func20
def afN(N:Nat)(a:Int):Ro:=
 cond (decide (a<1)) (
  some (.str ([]:Bs),[])) (
  cond (decide (14<a)) (
   some (.str ([]:Bs),[])) (
   af (gf) (λ(b:Bss)=>
    chk (ixl a b) (
     let c:=Ak b (Ae a) (am .str)
     some (.str c,[])))))
def afO(N:Nat)(a:Int):Ro:=afN N a
theorem al7(N:Nat)(b:Int)(h:Tot (afO N b) (λz=>∃(a:Bs)(rest:List ai),z.1.dimR=.str a∧z.2=rest∧nB b (a))):∃r,rT b r:=anz.finP (N:=N) (by kernel_rfl) h λ_ ⟨a,_,e,_,q⟩=>⟨(a),e,q⟩
noncomputable def aoz:av:=tab (P:=Tryz.prog) [] [] [] [qA,akr]
def anA:IR:=Rs [Mb 2 false] (Rs [Mv 3 0,Pp (.bin 4 .neq 3 (kS [])),Mv 5 4,Gt 5 (.mov 6 0),Gt 5 (.call 7 84 [6,kS [65,66,67,68,69,70,71,72,73,74,75,76,77,78,79,80,81,82,83,84,85,86,87,88,89,90,97,98,99,100,101,102,103,104,105,106,107,108,109,110,111,112,113,114,115,116,117,118,119,120,121,122,95,48,49,50,51,52,53,54,55,56,57]]),Gt 5 (.bin 8 .eql 7 (kS [])),Pa 9 5 8,Mv 10 9,Gt 10 (.mov 11 0),Gt 10 (.subs 12 11 none (some (kI 1))),Gt 10 (.call 13 59 [kS [65,66,67,68,69,70,71,72,73,74,75,76,77,78,79,80,81,82,83,84,85,86,87,88,89,90,97,98,99,100,101,102,103,104,105,106,107,108,109,110,111,112,113,114,115,116,117,118,119,120,121,122,95],12]),Pa 14 10 13,Mv 2 14] .ret)
def anB:List RV:=[.t 2]
theorem anC:FnC Tryz.prog aoz [] 0 aho Tryz.f75 anA anB:=fnC Tryz.func75
def afP(N:Nat)(a:Bs):Ro:=
 let b:=(!decide (a=([]:Bs)))
 cond b (
  af (ra a ([65,66,67,68,69,70,71,72,73,74,75,76,77,78,79,80,81,82,83,84,85,86,87,88,89,90,97,98,99,100,101,102,103,104,105,106,107,108,109,110,111,112,113,114,115,116,117,118,119,120,121,122,95,48,49,50,51,52,53,54,55,56,57]:Bs)) (λ(f:Bs)=>
   let c:=decide (f=([]:Bs))
   cond c (
    chk ((decide (0<=1)&&decide (1<=(↑(Aa a):Int)))) (
     let e:=(AY 0 (A5 (Ae 1) a))
     af (gJ ([65,66,67,68,69,70,71,72,73,74,75,76,77,78,79,80,81,82,83,84,85,86,87,88,89,90,97,98,99,100,101,102,103,104,105,106,107,108,109,110,111,112,113,114,115,116,117,118,119,120,121,122,95]:Bs) e) (λ(d:Bool)=>
      some (.bool d,[])))) (
    some (.bool false,[])))) (
  some (.bool false,[]))
def afQ(N:Nat)(a:Bs):Ro:=afP N a
theorem al8(N:Nat)(b:Bs)(h:Tot (afQ N b) (λz=>∃(a:Bool)(rest:List ai),z.1.dimR=.bool a∧z.2=rest∧abm b (a))):∃r,lF b r:=anC.finP (N:=N) (by kernel_rfl) h λ_ ⟨a,_,e,_,q⟩=>⟨(a),e,q⟩
noncomputable def anD:av:=tab (P:=Tryz.prog) [] [] [] [rt]
def al9:IR:=Rs [Ms 2 []] (Rs [Mv 3 0,Mv 4 0,Ca 5 19 [4,.c (.int .u8 46)],Pp (.mx 6 false 5 (kI 0)),Pp (.subs 7 3 none (some 6)),Mv 2 7] .ret)
def ama:List RV:=[.t 2]
theorem amb:FnC Tryz.prog anD [] 0 afo Tryz.f62 al9 ama:=fnC Tryz.func62
def adU(N:Nat)(b:Bs):Ro:=
 af (fL b 46) (λ(c:Int)=>
  let a:=(if c<0 then 0 else c)
  chk ((decide (0<=a)&&decide (a<=(↑(Aa b):Int)))) (
   let d:=(AY 0 (A5 (Ae a) b))
   some (.str d,[])))
def adV(N:Nat)(a:Bs):Ro:=adU N a
theorem akP(N:Nat)(b:Bs)(h:Tot (adV N b) (λz=>∃(a:Bs)(rest:List ai),z.1.dimR=.str a∧z.2=rest∧zY b (a))):∃r,nM b r:=amb.finP (N:=N) (by kernel_rfl) h λ_ ⟨a,_,e,_,q⟩=>⟨(a),e,q⟩
noncomputable def aqi:av:=tab (P:=Tryz.prog) [] [] [] [aov]
def aoA:IR:=Rs [Bx 2 0,Ms 4 []] (Sq (Rs [Mv 5 1,Bc 6 .lss 5 0,Mv 7 6,Gf 7 (.mov 8 1),Gf 7 (.fad 9 0 2),Gf 7 (.lde 10 1 false 9),Gf 7 (.lenl 11 10),Gf 7 (.bin 12 .geq 8 11),Po 13 7 12] (Cn 13 (Rs [Ms 4 []] .ret) .skip)) (Sq (Rs [Fa 14 0 2,Lq 15 14,Mv 16 1,Ix 17 .atype 15 16,Fa 18 1 17,Lo 19 18,Pp (.bin 20 .neq 19 (kS []))] (Cn 20 (Rs [Fa 21 0 2,Lq 22 21,Mv 23 1,Ix 24 .atype 22 23,Fa 25 1 24,Lo 26 25,Mv 4 26] .ret) .skip)) (Rs [Fa 27 0 2,Lq 28 27,Mv 29 1,Ix 30 .atype 28 29,Fa 31 0 30,Lo 32 31,Ca 33 20 [32],Mv 4 33] .ret)))
def aoB:List RV:=[.t 4]
theorem aoC:FnC Tryz.prog aqi [] 0 aje Tryz.f12 aoA aoB:=fnC Tryz.func12
def ahs(N:Nat)(a:List ab)(b:Int):Ro:=
 cond (decide (b<0)) (
  some (.str ([]:Bs),[])) (
  let c:=(↑(Aa a):Int)
  cond (decide (c<=b)) (
   some (.str ([]:Bs),[])) (
   chk (ixl b a) (
    let e:=(Ak a (Ae b) (am .atype))
    let g:=(!decide (e.name=([]:Bs)))
    cond g (
     chk (ixl b a) (
      let d:=(Ak a (Ae b) (am .atype))
      some (.str d.name,[]))) (
     chk (ixl b a) (
      let f:=(Ak a (Ae b) (am .atype))
      af (rT f.kind) (λ(h:Bs)=>
       some (.str h,[])))))))
def aht(N:Nat)(a:List ab)(b:Int):Ro:=ahs N a b
theorem anE(N:Nat)(a:List ab)(c:Int)(h:Tot (aht N a c) (λz=>∃(b:Bs)(rest:List ai),z.1.dimR=.str b∧z.2=rest∧xo a c (b))):∃r,q9 a c r:=aoC.finP (N:=N) (by kernel_rfl) h λ_ ⟨b,_,e,_,q⟩=>⟨(b),e,q⟩
noncomputable def anF:av:=tab (P:=Tryz.prog) [] [] [] [rt]
def amc:IR:=Rs [Ms 2 []] (Rs [Mv 3 0,Mv 4 0,Ca 5 19 [4,.c (.int .u8 46)],Bc 6 .add 5 1,Pp (.subs 7 3 (some 6) none),Mv 2 7] .ret)
def amd:List RV:=[.t 2]
theorem ame:FnC Tryz.prog anF [] 0 afn Tryz.f11 amc amd:=fnC Tryz.func11
def adW(N:Nat)(a:Bs):Ro:=
 af (fL a 46) (λ(d:Int)=>
  let b:=(Aj .i64 (d+1))
  chk ((decide (0<=b)&&decide (b<=(↑(Aa a):Int)))) (
   let c:=(AY (Ae b) (A5 (Aa a) a))
   some (.str c,[])))
def adX(N:Nat)(a:Bs):Ro:=adW N a
theorem akQ(N:Nat)(b:Bs)(h:Tot (adX N b) (λz=>∃(a:Bs)(rest:List ai),z.1.dimR=.str a∧z.2=rest∧um b (a))):∃r,qt b r:=ame.finP (N:=N) (by kernel_rfl) h λ_ ⟨a,_,e,_,q⟩=>⟨(a),e,q⟩
noncomputable def aqj:av:=tab (P:=Tryz.prog) [] [] [] [fD]
def aoD:IR:=Rs [Bx 2 0,Pp (.new 4 [vI 0,vI 0,vS,nl .jnode,nl .str]),Mb 5 false] (Sq (Rs [Fa 7 0 2,Lq 8 7,Bc 9 .neq 8 6] (Cn 9 (Rs [Pp (.bld 10 [vI 0,vI 0,vS,fu .jnode true,fu .str true] []),Sv 5 4 10,Mb 5 false] .ret) .skip)) (Rs [Fa 11 4 2,Lq 12 11,Mv 13 1,Ca 14 45 [12,13],Mv 6 14] (Sq (Rs [Mv 15 6,Bc 16 .lss 15 0,Mv 17 16,Gf 17 (.mov 18 6),Gf 17 (.fad 19 3 2),Gf 17 (.lde 20 1 false 19),Gf 17 (.lenl 21 20),Gf 17 (.bin 22 .geq 18 21),Po 23 17 22] (Cn 23 (Rs [Pp (.bld 24 [vI 0,vI 0,vS,fu .jnode true,fu .str true] []),Sv 5 4 24,Mb 5 false] .ret) .skip)) (Rs [Fa 25 3 2,Lq 26 25,Mv 27 6,Ix 28 .jnode 26 27,Ld 29 5 true 28,Sv 5 4 29,Mb 5 true] .ret))))
def aoE:List RV:=[.cell 4 5 true,.t 5]
theorem aoF:FnC Tryz.prog aqj [] 0 ajf Tryz.f48 aoD aoE:=fnC Tryz.func48
def ahu(N:Nat)(b:aa)(o:Bs):Ro:=
 let c:=λf j h d i g m=>(some (.tup [.agg [.int .i64 f,.int .i64 j,.str h,.sl .jnode (.may d) i,.sl .str (.may d) g],.bool m],[some [.int .i64 f,.int .i64 j,.str h,.sl .jnode (.may d) i,.sl .str (.may d) g]]):Ro)
 cond (!(b.kind==6)) (
  c 0 0 ([]:Bs) true ([]:List aa) ([]:Bss) false) (
  af (aZ b.names o) (λ(e:Int)=>
   cond (decide (e<0)) (
    c 0 0 ([]:Bs) true ([]:List aa) ([]:Bss) false) (
    let k:=(↑(Aa b.l):Int)
    cond (decide (k<=e)) (
     c 0 0 ([]:Bs) true ([]:List aa) ([]:Bss) false) (
     chk (ixl e b.l) (
      let a:=(Ak b.l (Ae e) (am .jnode))
      c a.kind a.n a.s false a.l a.names true)))))
def ahv(N:Nat)(a:aa)(b:Bs):Ro:=ahu N a b
theorem anG(N:Nat)(c:aa)(d:Bs)(h:Tot (ahv N c d) (λz=>∃(a:aa)(b:Bool)(rest:List ai),z.1.dimR=.tup [.agg (enc .jnode a),.bool b]∧z.2=rest∧pe c d (a,b))):∃r,du c d r:=aoF.finP (N:=N) (by kernel_rfl) h λ_ ⟨a,b,_,e,_,q⟩=>⟨(a,b),e,q⟩
noncomputable def jN:av:=tab (P:=Tryz.prog) [] [] [] []
def l9:IR:=Rs [Bi 9 .lss 8 7] (Sq (Cn 9 .skip (.exit 0)) (Sq (.block 1 (Rs [Mv 10 8,Mv 5 10] (Rs [Mv 11 1,Mv 12 0,Mv 13 5,Ix 14 .str 12 13,Lq 15 14,Bi 16 .eql 11 15] (Cn 16 (Rs [Mv 17 5,Mv 4 17] .ret) .skip)))) (Rg [Bc 18 .add 8 1,Mv 8 18])))
def ma:IR:=Rs [Mi 4 (-1)] .ret
def vg:IR:=Rs [Mi 4 0] (Sq (Rs [Mv 6 0,Ll 7 6,Mi 8 0] (.block 0 (.loop [0,1,7,8,1000000] 0 l9))) ma)
def nc:List RV:=[.t 4]
theorem vh:FnC Tryz.prog jN [] 0 nK Tryz.f45 vg nc:=fnC Tryz.func45
def uI(R:IR->(Ex->St->Ro)->St->Ro)(a:St->Ro):Ex->St->Ro:=(ce a [0,1,7,8,1000000] 0 (aG 0 (bR (R ma) (fin nc))))
abbrev eS:Type:=(Bss×Bs×Int×Int)
def eI(x:eS):St:={env:=(.sl .str (.may false) x.1::.str x.2.1::(U 5 (.int .i64 x.2.2.1::.int .i64 x.2.2.2::(U 10 [])))),hp:=[]}
def iK(N:Nat):(St->Ro)->St->Ro:=λa s=>run jN N l9 (uI (run jN N) a) s
def eU(N:Nat)(a:eS->Ro)(x:eS):Ro:=
 let c:Bss:=x.1;let e:Bs:=x.2.1;let d:Int:=x.2.2.1;let b:Int:=x.2.2.2
 cond (decide (b<d)) (
  chk (ixl b c) (
   let f:=Ak c (Ae b) (am .str)
   cond (decide (e=f)) (
    some (.int .i64 b,[])) (
    let g:=(Aj .i64 (b+1))
    a (c,e,d,g)))) (
  some (.int .i64 (-1),[]))
theorem tQ(N:Nat):LB (iK N) eI (eU N):=λ_ _=>by kernel_rfl
def dC(N:Nat)(a:Bss)(c:Bs)(d:eS->Ro):Ro:=
 let b:=(↑(Aa a):Int)
 d (a,c,b,0)
def nd(N:Nat)(a:Bss)(b:Bs):Ro:=dC N a b (λz=>aO N (eU N) z)
theorem uJ(N:Nat)(a:Bss)(c:Bs)(h:Tot (nd N a c) (λz=>∃(d:Int)(rest:List ai),z.1.dimR=.int .i64 d∧z.2=rest∧hZ a c (d))):∃r,aZ a c r:=vh.finP (N:=N) ((cV _ (by kernel_rfl) rfl (λC=>dC N a c (λz=>C 1000000 (eI z))) (λC=>by kernel_rfl)).trans (A3 (b:=dC N a c (λz=>bg N (iK N) (eI z))) (by kernel_rfl) (congrArg (dC N a c) (funext λz=>bz (eI) (iK N) (eU N) (tQ N) N z)))) h λ_ ⟨d,_,e,_,q⟩=>⟨(d),e,q⟩
noncomputable def tR:av:=tab (P:=Tryz.prog) [] [] [] [fD]
def s0:IR:=Rs [Mb 4 false] (Rs [Mv 5 0,Mv 6 1,Ca 7 45 [5,6],Bc 8 .geq 7 0,Mv 4 8] .ret)
def s5:List RV:=[.t 4]
theorem s6:FnC Tryz.prog tR [] 0 l8 Tryz.f78 s0 s5:=fnC Tryz.func78
def lM(N:Nat)(a:Bss)(b:Bs):Ro:=
 af (aZ a b) (λ(c:Int)=>
  some (.bool (decide (0<=c)),[]))
def lN(N:Nat)(a:Bss)(b:Bs):Ro:=lM N a b
theorem se(N:Nat)(b:Bss)(c:Bs)(h:Tot (lN N b c) (λz=>∃(a:Bool)(rest:List ai),z.1.dimR=.bool a∧z.2=rest∧kY b c (a))):∃r,cA b c r:=s6.finP (N:=N) (by kernel_rfl) h λ_ ⟨a,_,e,_,q⟩=>⟨(a),e,q⟩
noncomputable def ab4:av:=tab (P:=Tryz.prog) [] [] [] [wC]
def aaY:IR:=Rs [Mb 2 false] (Rs [Mv 3 0,Ca 4 75 [3],Un 5 4,Mv 2 5] .ret)
def aaZ:List RV:=[.t 2]
theorem aa0:FnC Tryz.prog ab4 [] 0 tl Tryz.f74 aaY aaZ:=fnC Tryz.func74
def sf(N:Nat)(a:Bs):Ro:=
 af (lF a) (λ(b:Bool)=>
  some (.bool (!b),[]))
def sg(N:Nat)(a:Bs):Ro:=sf N a
theorem zN(N:Nat)(b:Bs)(h:Tot (sg N b) (λz=>∃(a:Bool)(rest:List ai),z.1.dimR=.bool a∧z.2=rest∧qp b (a))):∃r,gK b r:=aa0.finP (N:=N) (by kernel_rfl) h λ_ ⟨a,_,e,_,q⟩=>⟨(a),e,q⟩
noncomputable def cL:av:=tab (P:=Tryz.prog) [] [] [] [abu]
def dY:IR:=Rs [Bi 9 .lss 8 7] (Sq (Cn 9 .skip (.exit 0)) (Sq (.block 1 (Rs [Mv 10 8,Mv 5 10] (Rs [Mv 11 1,Mv 12 0,Mv 13 5,Ix 14 .str 12 13,Lq 15 14,Pp (.dcall (some 16) 74 (.t 11) [.t 15])] (Cn 16 (Rs [Mv 17 5,Mv 4 17] .ret) .skip)))) (Rg [Bc 18 .add 8 1,Mv 8 18])))
def dZ:IR:=Rs [Mi 4 (-1)] .ret
def kv:IR:=Rs [Mi 4 0] (Sq (Rs [Mv 6 0,Ll 7 6,Mi 8 0] (.block 0 (.loop [0,1,7,8,1000000] 0 dY))) dZ)
def ej:List RV:=[.t 4]
theorem kw:FnC Tryz.prog cL [] 0 eu Tryz.f82 kv ej:=fnC Tryz.func82
def kq(R:IR->(Ex->St->Ro)->St->Ro)(a:St->Ro):Ex->St->Ro:=(ce a [0,1,7,8,1000000] 0 (aG 0 (bR (R dZ) (fin ej))))
abbrev bL:Type:=(Bss×Int×Int)
def bH(x:bL):St:={env:=(.sl .str (.may false) x.1::.fn 74 []::(U 5 (.int .i64 x.2.1::.int .i64 x.2.2::(U 10 [])))),hp:=[]}
def cD(N:Nat):(St->Ro)->St->Ro:=λa s=>run cL N dY (kq (run cL N) a) s
def bM(N:Nat)(a:bL->Ro)(x:bL):Ro:=
 let c:Bss:=x.1;let d:Int:=x.2.1;let b:Int:=x.2.2
 cond (decide (b<d)) (
  chk (ixl b c) (
   let e:=Ak c (Ae b) (am .str)
   af (gK e) (λ(g:Bool)=>
    cond g (
     some (.int .i64 b,[])) (
     let f:=(Aj .i64 (b+1))
     a (c,d,f))))) (
  some (.int .i64 (-1),[]))
theorem j3(N:Nat):LB (cD N) bH (bM N):=λ_ _=>by kernel_rfl
def bc(N:Nat)(a:Bss)(c:bL->Ro):Ro:=
 let b:=(↑(Aa a):Int)
 c (a,b,0)
def eo(N:Nat)(a:Bss):Ro:=bc N a (λz=>aO N (bM N) z)
theorem kr(N:Nat)(a:Bss)(h:Tot (eo N a) (λz=>∃(c:Int)(rest:List ai),z.1.dimR=.int .i64 c∧z.2=rest∧dW a (c))):∃r,bd a r:=kw.finP (N:=N) ((cV _ (by kernel_rfl) rfl (λC=>bc N a (λz=>C 1000000 (bH z))) (λC=>by kernel_rfl)).trans (A3 (b:=bc N a (λz=>bg N (cD N) (bH z))) (by kernel_rfl) (congrArg (bc N a) (funext λz=>bz (bH) (cD N) (bM N) (j3 N) N z)))) h λ_ ⟨c,_,e,_,q⟩=>⟨(c),e,q⟩
noncomputable def j4:av:=tab (P:=Tryz.prog) [] [] [] [kU]
def jO:IR:=Rs [Mb 4 false] (Rs [Mv 5 0,Mv 6 1,Ca 7 82 [5,6],Bc 8 .geq 7 0,Mv 4 8] .ret)
def jP:List RV:=[.t 4]
theorem jQ:FnC Tryz.prog j4 [] 0 dX Tryz.f72 jO jP:=fnC Tryz.func72
def dQ(N:Nat)(a:Bss):Ro:=
 af (bd a) (λ(b:Int)=>
  some (.bool (decide (0<=b)),[]))
def dR(N:Nat)(a:Bss):Ro:=dQ N a
theorem jC(N:Nat)(b:Bss)(h:Tot (dR N b) (λz=>∃(a:Bool)(rest:List ai),z.1.dimR=.bool a∧z.2=rest∧dA b (a))):∃r,aD b r:=jQ.finP (N:=N) (by kernel_rfl) h λ_ ⟨a,_,e,_,q⟩=>⟨(a),e,q⟩
end Go.Proofs.YtkinflmjagfapaaGreatDoor
namespace Go.AM
def V.dull:V->Bool
 | .sl _ .own _=>false
 |v=>v.flat1
section
variable{I:Nat->Nat->Prop}{ρ ρ':Nat->Nat}{N N':Nat}{w:World}{P:Program}
theorem V.dull_flat1{v:V}(h:v.dull=true):v.flat1=true:=by
 unfold V.dull at h;split at h;·cases h
 ·exact h
theorem V.dull_own{v:V}(h:v.dull=true)(g:Gh)(w:World)(a:Occ)(cv:Value):au g w a v cv:=by
 cases v with
 |sl k o xs=>cases o<;>first|(simp[V.dull] at h;done)|simp[au]
 |raw n=>simp[V.dull,V.flat1] at h
 |ul k xs=>simp[V.dull,V.flat1] at h
 |_=>simp[au]
theorem V.dull_nil{v:V}(h:v.dull=true)(cv:Value):d7 v cv:=by
 cases v with
 |sl k o xs=>cases o<;>first|(simp[V.dull] at h;done)|simp[d7]
 |raw n=>simp[V.dull,V.flat1] at h
 |ul k xs=>simp[V.dull,V.flat1] at h
 |bn E n=>simp[V.dull,V.flat1] at h
 |_=>simp[d7]
theorem V.dull_row{cs:List V}(h:cs.all V.dull=true):dm cs=false:=by
 unfold dm;split;·simp[V.dull,V.flat1] at h
 ·simp[V.dull,V.flat1] at h
 ·simp[V.dull,V.flat1] at h
 ·rfl
def ail(P:Program)(f:FuncId)(avs:List V)(css:List (List V))(k:EK)(xs:List (Ty k))(cs:List V)(css':List (List V)):Prop:=
 css'.length=css.length∧∃(id:Nat)(hp':List ai),io P f avs (css.map some) (.agg (.sw k id xs.length::cs)) hp'∧css.length<=id∧hp'[id]? =some (some [.rw k xs])∧
  ∀(i:Nat) c,css'[i]? =some c->hp'[i]? =some (some c)
theorem ail.dim{f:FuncId}{avs us:List V}{css css':List (List V)}{k:EK}{xs:List (Ty k)}{cs:List V}(h:ail P f us css k xs cs css')(e:avs.map V.dim=us):ail P f avs css k xs cs css':=by obtain⟨b,id,hp',c,a⟩:=h;exact⟨b,id,hp',c.dim e,a⟩
theorem ail.frame{f:FuncId}{avs:List V}{css css':List (List V)}{k:EK}{xs:List (Ty k)}{cs:List V}(h:ail P f avs css k xs cs css')(ha:avs.all (V.flatP css.length)=true)(hv:cs.all V.dull=true)
  (S:css.all (λc=>c.all V.dull)=true) (ae:css'.all (λc=>c.all V.dull)=true) {hp hp':List ai} {σ:Nat->Nat}
  (el:∀k k',k<css.length->k'<css.length->σ k=σ k'->k=k')
  (h1:∀(k:Nat) cs,css[k]? =some cs->hp[σ k]? =some (some cs)) (h2:hp'.length=hp.length)
  (h3:∀(k:Nat) cs,css'[k]? =some cs->hp'[σ k]? =some (some cs))
  (h4:∀id,(∀k,k<css.length->σ k≠id)->hp'[id]? =hp[id]?):io P f (avs.map (V.ren σ)) hp (.agg (.sw k hp.length xs.length::cs)) (hp'++[some [.rw k xs],none]):=by
 obtain⟨ek,L,ew,h,es,Y,a4⟩:=h;intro w g an ei F cy b1 ci;have cc:∀(k:Nat) cs,css[k]? =some cs->cs.all V.dull=true:=λk cs m=>Al.1 S cs (Ai m)
 have bx:∀(k:Nat) cs,css'[k]? =some cs->cs.all V.dull=true:=λk cs m=>Al.1 ae cs (Ai m)
 have Q:∀(k:Nat) cs,css[k]? =some cs->k<css.length:=λk cs m=>(Ad.1 m).1
 have v:∀(k:Nat) cs,(css.map some)[k]? =some (some cs)->css[k]? =some cs:=by
  intro k cs m;rw[Ay] at m;cases hq:css[k]? with
  |none=>rw[hq] at m;simp at m
  |some x=>rw[hq] at m;simpa using m
 have sub:∀k,k<css.length->∃cs,css[k]? =some cs∧hp[σ k]? =some (some cs):=λk m=>⟨css[k],Ab m,h1 k _ (Ab m)⟩
 let g₀:Gh:={I:=g.I,ρ:=λk=>g.ρ (σ k),O:=λ_=>none,β:=g.β}
 have h0:HR g₀ (css.map some) w:=by
  refine⟨?_,?_,?_,λ_ _ _=>rfl,F.exI,by simp[g₀]⟩
  ·intro k c m;have m:=v k c m;refine(F.obj _ c (h1 k c m)).keep rfl λea e fz a1 C=>?_
   have hr:=V.dull_row (cc k c m);have W:∀(j:Nat) B,(cellsOf c)[j]? =some B->B.dull=true:=λj B D=>Al.1 (cc k c m) B (Ai (by rw[eN hr] at D;exact D))
   refine⟨C.len,C.plain,by rw[jU hr];simp,C.cold,C.one,?_,?_,C.bn⟩;·intro j B cv D t;exact(C.rel j B cv D t).flat1 (V.dull_flat1 (W j B D))
   ·intro j B cv D t;exact V.dull_own (W j B D) _ _ _ _
  ·intro k k' c B m A J;have m:=v k c m;have A:=v k' B A;exact F.apart _ _ _ _ (h1 k c m) (h1 k' B A) λe=>J (el k k' (Q k c m) (Q k' B A) e)
  ·intro k c m;exact F.notI _ c (h1 k c (v k c m))
 have b2:∀(i:Nat) x cv,avs[i]? =some x->an[i]? =some cv->VRel g₀.I g₀.ρ (css.map some).length w x cv:=by
  intro i x cv hx t;have hr:=ci i (x.ren σ) cv (by rw[Ay,hx];rfl) t;have ar:=Al.1 ha x (Ai hx);unfold V.flatP at ar;split at ar
  ·rename_i k;have m:k<css.length:=by simpa using ar
   simp only[V.ren] at hr;cases hr with
   |ptr _ _ _=>exact .ptr k 0 (by simpa using m)
  ·rw[V.ren_flat ar] at hr;exact hr.flat ar
 refine(h w g₀ an (ei.sub rfl (λh=>h) (λh=>by simp[g₀,h])) h0 (by rw[<-cy,Bt]) (by intro x hx;have:=b1 (x.ren σ) (CO hx);rw[V.ren_bare] at this;exact this) b2).mono ?_;rintro ex w' ⟨cv,g₁,rfl,q1,Z,q3,q4⟩;have r0:∀k,k<css.length->g₁.ρ k=g.ρ (σ k):=λk m=>Z.up.rho k (by simpa using m)
 have br:∀b,(∀k,k<css.length->g.ρ (σ k)≠b)->∀(k:Nat) cs,(css.map some)[k]? =some (some cs)->g₀.ρ k≠b:=λb M k cs m=>M k (Q k cs (v k cs m))
 have blk:∀b,b<w.heap.size->(∀k,k<css.length->g.ρ (σ k)≠b)->w'.heap[b]? =w.heap[b]?:=λb M J=>Z.block b M (br b J) rfl
 have dp:w.heap.size<=g₁.ρ L:=by
  rcases Z.live L _ Y with⟨_,hh⟩|⟨_,hh|hh|⟨i,c,a,em⟩⟩
  ·have:=(Ad.1 hh).1;simp at this;omega
  ·exact hh
  ·simp[g₀] at hh
  ·exfalso;have a:=v i c a;have er:=Q i c a;have c1:i<css'.length:=by omega
   have:=q1.apart i L _ _ (a4 i _ (Ab c1)) Y (by omega);exact this (by rw[r0 i er];exact em)
 let p:Gh:={I:=g₁.I,ρ:=λi=>if i=hp.length then g₁.ρ L else if i=hp.length+1 then g₁.ρ (L+1) else g.ρ i,β:=g.β,O:=λb=>if b<w.heap.size then g.O b else none}
 have q:∀i,i<hp.length->p.ρ i=g.ρ i:=by intro i a;simp only[p];rw[if_neg (by omega),if_neg (by omega)]
 have H:p.ρ hp.length=g₁.ρ L:=by simp[p]
 have X:p.ρ (hp.length+1)=g₁.ρ (L+1):=by simp[p]
 have up:Up g.I g.ρ hp.length w p.I p.ρ (hp'++[some [V.rw k xs],none]).length w':=⟨Z.up.mono,Z.up.cell,q,by simp[h2]⟩
 have al:∀(i:Nat) c,hp[i]? =some (some c)->g.ρ i<w.heap.size:=by intro i c a;obtain⟨ob,h1⟩:=(F.obj i c a).block;exact(AP.1 h1).1
 have G:∀(i:Nat) c,hp[i]? =some (some c)->i<hp.length:=λi c a=>(Ad.1 a).1
 have a0:∀(i:Nat) c,hp'[i]? =some (some c)->(∃k d,k<css.length∧i=σ k∧css'[k]? =some c∧hp[i]? =some (some d))∨((∀k,k<css.length->σ k≠i)∧hp[i]? =some (some c)):=by
  intro i c a;by_cases m:∃k,k<css.length∧σ k=i
  ·obtain⟨k,m,rfl⟩:=m;obtain⟨d,_,r⟩:=sub k m;have A:k<css'.length:=by omega
   have:=h3 k _ (Ab A);rw[this] at a;exact .inl ⟨k,d,m,rfl,by rw[Ab A];simpa using a,r⟩
  ·have hn:∀k,k<css.length->σ k≠i:=λk A e=>m ⟨k,A,e⟩
   exact .inr ⟨hn,(h4 i hn).symm.trans a⟩
 have key:∀(i:Nat) c,(hp'++[some [V.rw k xs],none])[i]? =some (some c)->(i=hp.length∧c=[V.rw k xs])∨hp'[i]? =some (some c):=by
  intro i c hid;rcases AI i hp'.length with hl|hl;·rw[Ar hl] at hid;exact .inr hid
  ·rw[Aq hl] at hid;match hq:i-hp'.length,hid with
   |0,hid=>simp at hid;exact .inl ⟨by omega,hid.symm⟩
   |1,hid=>simp at hid
   |n+2,hid=>simp at hid
 have u:∀(i:Nat) c,hp'[i]? =some (some c)->∃d,hp[i]? =some (some d):=by
  intro i c a;rcases a0 i c a with⟨_,d,_,_,_,h⟩|⟨_,h⟩
  ·exact⟨d,h⟩
  ·exact⟨c,h⟩
 have R:∀(i:Nat) c,(∀k,k<css.length->σ k≠i)->hp[i]? =some (some c)->∀k,k<css.length->g.ρ (σ k)≠g.ρ i:=by intro i c hn a k m;obtain⟨d,_,r⟩:=sub k m;exact F.apart _ _ _ _ r a (hn k m)
 have bl:∀b o,g.O b=some o->∀k,k<css.length->g.ρ (σ k)≠b:=by intro b o M k m e;obtain⟨d,_,r⟩:=sub k m;rw[<-e,F.notO _ d r] at M;cases M
 refine⟨cv,p,rfl,⟨?_,?_,?_,?_,q1.exI,?_⟩,⟨rfl,Z.os,Z.tape,Z.output,Z.size,?_,up,?_,?_,?_⟩,?_,by simp[au]⟩
 ·intro i c a;rcases key i c a with⟨rfl,rfl⟩|a
  ·refine(q1.obj L _ Y).keep (by rw[H]) λea e fz a1 C=>?_
   refine⟨C.len,C.plain,?_,C.cold,C.one,?_,?_,?_⟩;·intro k2 ys hz;obtain⟨t1,t2,t3,t4⟩:=C.typed k2 ys hz;refine⟨t1,?_,by simp[h2],λm=>(t4 m).trans Z.beta⟩;rw[X];exact t2
   ·intro j c cv S t;have ae:=S;simp only[cellsOf] at ae;obtain⟨y,hy,ae⟩:=cX _ j _ ae;exact tb ae (C.rel j c cv S t)
   ·intro j c cv S t;have hm:=Ai S;simp only[cellsOf,AG] at hm;obtain⟨y,_,hm⟩:=hm;exact il (oD k y c hm) _ _ _ _
   ·intro j E n S;simp only[cellsOf] at S;obtain⟨y,_,S⟩:=cX _ j _ S;exact absurd S (sS k y _ E n)
  ·rcases a0 i c a with⟨kk,d,m,rfl,A,hid⟩|⟨J,a⟩
   ·refine(q1.obj kk c (a4 kk c A)).keep (by rw[r0 kk m,q _ (G _ _ hid)]) λds e' fz a1 C=>?_
    have hr:=V.dull_row (bx kk c A);have W:∀(j:Nat) B,(cellsOf c)[j]? =some B->B.dull=true:=λj B D=>Al.1 (bx kk c A) B (Ai (by rw[eN hr] at D;exact D))
    refine⟨C.len,C.plain,by rw[jU hr];simp,C.cold,C.one,?_,?_,?_⟩;·intro j B cv D t;exact(C.rel j B cv D t).flat1 (V.dull_flat1 (W j B D))
    ·intro j B cv D t;exact V.dull_own (W j B D) _ _ _ _
    ·intro j E n D;have:=C.bn j E n D;rw[r0 kk m,<-q _ (G _ _ hid)] at this;exact this
   ·refine(F.obj i c a).keep (by rw[q i (G i c a)];exact blk _ (al i c a) (R i c J a)) λds e' fz a1 C=>?_
    refine⟨C.len,C.plain,C.typedUp rfl q up.num rfl,C.cold,C.one,λj c cv D t=>(C.rel j c cv D t).up up,?_,by rw[q i (G i c a)];exact C.bn⟩;intro j B cv D t;refine b7 (C.own j B cv D t) rfl (λb j a=>⟨up.mono b j a,up.cell b j a⟩) ?_;intro b M;have a3:=F.oLt b _ M;have b0:=bl b _ M;exact⟨by simp[p,a3,M],blk b a3 b0,λj D=>Z.iSame b j a3 (br b b0) rfl D⟩
 ·intro i i' c B a ad J;rcases key i c a with⟨rfl,rfl⟩|a
  ·rcases key i' B ad with⟨rfl,rfl⟩|ad;·exact absurd rfl J
   ·obtain⟨c4,m2⟩:=u i' B ad;rw[H,q i' (G i' _ m2)];have:=al i' _ m2;omega
  ·obtain⟨d,m1⟩:=u i c a;rcases key i' B ad with⟨rfl,rfl⟩|ad;·rw[H,q i (G i _ m1)];have:=al i _ m1;omega
   ·obtain⟨c4,m2⟩:=u i' B ad;rw[q i (G i _ m1),q i' (G i' _ m2)];exact F.apart _ _ _ _ m1 m2 J
 ·intro i c a j D;rcases key i c a with⟨rfl,rfl⟩|a;·rw[H] at D;exact q1.notI L _ Y j D
  ·rcases a0 i c a with⟨kk,d,m,rfl,A,hid⟩|⟨J,a⟩
   ·have:=q1.notI kk c (a4 kk c A) j;rw[r0 kk m,<-q _ (G _ _ hid)] at this;exact this D
   ·rw[q i (G i c a)] at D;exact F.notI i c a j (Z.iSame _ j (al i c a) (br _ (R i c J a)) rfl D)
 ·intro i c a;rcases key i c a with⟨rfl,rfl⟩|a
  ·rw[H];have h2:¬g₁.ρ L<w.heap.size:=by omega
   simp[p,h2]
  ·obtain⟨d,m1⟩:=u i c a;rw[q i (G i _ m1)];have:=al i _ m1;simp[p,this,F.notO i _ m1]
 ·intro b o M;simp only[p] at M;split at M;·rename_i hq;exact AC hq Z.size
  ·simp at M
 ·intro b M ho hO;exact blk b M (λk m e=>by obtain⟨d,_,r⟩:=sub k m;exact ho _ d r e)
 ·intro b j M ho hO a;exact Z.iSame b j M (br b λk m e=>by obtain⟨d,_,r⟩:=sub k m;exact ho _ d r e) rfl a
 ·intro b M ho hO;simp[p,M,hO]
 ·intro i c a;rcases key i c a with⟨rfl,rfl⟩|a;·exact .inr ⟨Am _,.inl (by rw[H];exact dp)⟩
  ·exact .inl (u i c a)
 ·cases q3 with
  |agg _ vs hl ho M cx=>
  refine .agg _ vs hl ?_ ?_ ?_
  ·intro c S;rcases AQ.1 S with rfl|S;·rfl
   ·exact ho c (AT _ S)
  ·intro i c cv a t;cases i with
   |zero=>simp at a;subst a;simp[d7]
   |succ i=>simp only[AV] at a;exact V.dull_nil (Al.1 hv c (Ai a)) cv
  ·intro i c cv a t;cases i with
   |zero=>
    simp at a;subst a;have ed:=cx 0 _ cv rfl t;cases ed with
    |sw _ _ _ hN S hm=>
    have:=VRel.sw (I:=p.I) (ρ:=p.ρ) (N:=(hp'++[some [V.rw k xs],none]).length) (w:=w') k hp.length xs.length (by simp[h2]) (by rw[X];exact S) (by rw[X];exact hm);rw[X,H] at this;exact this
   |succ i=>have:=cx (i+1) c cv a t;simp only[AV] at a;exact this.flat1 (V.dull_flat1 (Al.1 hv c (Ai a)))
theorem ail.laid{f:FuncId}{avs:List V}{css css':List (List V)}{k:EK}{xs:List (Ty k)}{cs:List V}(h:ail P f avs css k xs cs css')(W:cs.all V.dull=true):aS P f avs css (.agg (.sl k (.may false) xs::cs)) css':=by
 obtain⟨y,b,hp',h,Q,m,A⟩:=h;refine⟨y,(hp'.set b none).drop css'.length,?_⟩;have ad:b<hp'.length:=(Ad.1 m).1;have H:css'.map some++(hp'.set b none).drop css'.length=hp'.set b none:=by
  rw[<-List.take_append_drop css'.length (hp'.set b none)]
  congr 1
  ·apply C3;intro i;rw[Ay,AO];by_cases j:i<css'.length;·rw[if_pos j,AW (by omega),A i _ (Ab j),Ab j];rfl
   ·rw[if_neg j,AZ (by omega)];rfl
  ·simp
 rw[H];intro w g o G F hl p t;refine(h w g o G F hl p t).mono ?_;rintro e w' ⟨cv,g₁,rfl,Y,q2,q3,q4⟩;cases q3 with
 |agg _ vs r S hb u=>
 have J:0<vs.size:=by simp at r;omega
 have D:=u 0 _ vs[0] rfl (Ao J);let s:St:={env:=[.sw k b xs.length],hp:=hp'}
 have hs:SR g₁ s w' {tmps:= #[vs[0]],defers:=[]}:=by
  refine⟨Y,⟨rfl,?_,?_⟩⟩
  ·intro n v cv d a;match n,d,a with
   |0,d,a=>simp[s] at d a;subst d a;exact D
   |n+1,d,_=>simp[s] at d
  ·intro n v cv d a;match n,d,a with
   |0,d,a=>simp[s] at d;subst d;simp[au]
   |n+1,d,_=>simp[s] at d
 have hw:s.rowW b=some ⟨k,xs⟩:=by simp[St.rowW,s,Af,m]
 have B:(eV.cls (.slot 0)).step s=some (true,{env:=[.ul k xs],hp:=hp'.set b none}):=by show (match s.rowW b with|some ⟨k',xs⟩=>_|none=>none)=_;rw[hw];simp[s,St.put?,St.set]
 obtain⟨L,X,R⟩:=alg hs B;have C:(eV.fz (.slot 0)).step ({env:=[.ul k xs],hp:=hp'.set b none}:St)=some (true,{env:=[.sl k .own xs],hp:=hp'.set b none}):=rfl;obtain⟨q,O,Z⟩:=amG X C;have M:=R.trans Z;refine⟨_,q,rfl,O.hr,q2.trans M,?_,by simp[au]⟩;refine .agg _ vs (by simpa using r) ?_ ?_ ?_
 ·intro c E;rcases AQ.1 E with rfl|E;·rfl
  ·exact S c (AT _ E)
 ·intro i c cv j a;cases i with
  |zero=>simp at j;subst j;simp[d7]
  |succ i=>simp only[AV] at j;exact V.dull_nil (Al.1 W c (Ai j)) cv
 ·intro i c cv j a;cases i with
  |zero=>simp at j;subst j;have:=O.er.rel 0 (.sl k .own xs) vs[0] rfl rfl;rw[Ao J] at a;cases a;exact this.own (by simp) (by simp)
  |succ i=>exact(u (i+1) c cv j a).up M.up
end
section
variable{P:Program}{Γ:av}{imp:List Nat}{k n:Nat}{f:FuncId}{fn:Func}{ir:IR}{rs:List RV}{vs:List V}{x:Ro}{call:Nat->List V->List ai->Ro}
end
end Go.AM
namespace Go.Proofs
open Go.AM
section
open Go.Shelf
def Tryz.lays160_ren:Go.Shelf.Ren:=⟨λ|160=>84|232=>93|231=>92|227=>94|234=>96|233=>95|236=>98|235=>97|228=>104|271=>106|151=>105|197=>102|120=>109|152=>108|260=>107|137=>110|119=>111|224=>88|225=>87|217=>86|266=>99|n=>n,λ|9=>9|4=>4|3=>3|5=>5|117=>113|116=>112|0=>0|124=>116|21=>21|105=>120|46=>108|119=>124|139=>127|138=>126|n=>n,λ|3=>1|4=>2|n=>n⟩
theorem Tryz.lays160:Go.Proofs.Lays.n160 Tryz.prog Tryz.lays160_ren:={
 mixed:=by kernel_rfl
 f119:=Tryz.func111.trans (congrArg some (by kernel_rfl))
 f120:=Tryz.func109.trans (congrArg some (by kernel_rfl))
 f137:=Tryz.func110.trans (congrArg some (by kernel_rfl))
 f151:=Tryz.func105.trans (congrArg some (by kernel_rfl))
 f152:=Tryz.func108.trans (congrArg some (by kernel_rfl))
 f160:=Tryz.func84.trans (congrArg some (by kernel_rfl))
 f197:=Tryz.func102.trans (congrArg some (by kernel_rfl))
 f217:=Tryz.func86.trans (congrArg some (by kernel_rfl))
 f224:=Tryz.func88.trans (congrArg some (by kernel_rfl))
 f225:=Tryz.func87.trans (congrArg some (by kernel_rfl))
 f227:=Tryz.func94.trans (congrArg some (by kernel_rfl))
 f228:=Tryz.func104.trans (congrArg some (by kernel_rfl))
 f231:=Tryz.func92.trans (congrArg some (by kernel_rfl))
 f232:=Tryz.func93.trans (congrArg some (by kernel_rfl))
 f233:=Tryz.func95.trans (congrArg some (by kernel_rfl))
 f234:=Tryz.func96.trans (congrArg some (by kernel_rfl))
 f235:=Tryz.func97.trans (congrArg some (by kernel_rfl))
 f236:=Tryz.func98.trans (congrArg some (by kernel_rfl))
 f260:=Tryz.func107.trans (congrArg some (by kernel_rfl))
 f266:=Tryz.func99.trans (congrArg some (by kernel_rfl))
 f271:=Tryz.func106.trans (congrArg some (by kernel_rfl))
 t0:=Tryz.underlying0
 a0:=Tryz.isAgg0
 z0:=Tryz.sizeOf0
 v0:=Tryz.zeroValue0
 t3:=Tryz.underlying3
 a3:=Tryz.isAgg3
 z3:=Tryz.sizeOf3
 v3:=Tryz.zeroValue3
 t4:=Tryz.underlying4
 a4:=Tryz.isAgg4
 z4:=Tryz.sizeOf4
 v4:=Tryz.zeroValue4
 t5:=Tryz.underlying5
 a5:=Tryz.isAgg5
 z5:=Tryz.sizeOf5
 v5:=Tryz.zeroValue5
 t9:=Tryz.underlying9
 a9:=Tryz.isAgg9
 z9:=Tryz.sizeOf9
 v9:=Tryz.zeroValue9
 t21:=Tryz.underlying21
 a21:=Tryz.isAgg21
 z21:=Tryz.sizeOf21
 v21:=Tryz.zeroValue21
 t46:=Tryz.underlying108
 a46:=Tryz.isAgg108
 z46:=Tryz.sizeOf108
 v46:=Tryz.zeroValue108
 t105:=Tryz.underlying120
 a105:=Tryz.isAgg120
 z105:=Tryz.sizeOf120
 v105:=Tryz.zeroValue120
 t116:=Tryz.underlying112
 a116:=Tryz.isAgg112
 z116:=Tryz.sizeOf112
 t117:=Tryz.underlying113
 a117:=Tryz.isAgg113
 z117:=Tryz.sizeOf113
 v117:=Tryz.zeroValue113
 t119:=Tryz.underlying124
 a119:=Tryz.isAgg124
 z119:=Tryz.sizeOf124
 t124:=Tryz.underlying116
 a124:=Tryz.isAgg116
 z124:=Tryz.sizeOf116
 v124:=Tryz.zeroValue116
 t138:=Tryz.underlying126
 a138:=Tryz.isAgg126
 z138:=Tryz.sizeOf126
 v138:=Tryz.zeroValue126
 t139:=Tryz.underlying127
 a139:=Tryz.isAgg127
 z139:=Tryz.sizeOf127
 v139:=Tryz.zeroValue127
 g3:=by kernel_rfl
 g4:=by kernel_rfl}
def Tryz.lays144_ren:Go.Shelf.Ren:=⟨λ|144=>59|143=>71|219=>81|217=>86|225=>87|224=>88|267=>89|266=>99|314=>100|n=>n,λ|9=>9|4=>4|3=>3|5=>5|46=>108|146=>118|51=>117|n=>n,λ|1=>0|n=>n⟩
theorem Tryz.lays144:Go.Proofs.Lays.n144 Tryz.prog Tryz.lays144_ren:={
 mixed:=by kernel_rfl
 f143:=Tryz.func71.trans (congrArg some (by kernel_rfl))
 f144:=Tryz.func59.trans (congrArg some (by kernel_rfl))
 f217:=Tryz.func86.trans (congrArg some (by kernel_rfl))
 f219:=Tryz.func81.trans (congrArg some (by kernel_rfl))
 f224:=Tryz.func88.trans (congrArg some (by kernel_rfl))
 f225:=Tryz.func87.trans (congrArg some (by kernel_rfl))
 f266:=Tryz.func99.trans (congrArg some (by kernel_rfl))
 f267:=Tryz.func89.trans (congrArg some (by kernel_rfl))
 f314:=Tryz.func100.trans (congrArg some (by kernel_rfl))
 t3:=Tryz.underlying3
 a3:=Tryz.isAgg3
 z3:=Tryz.sizeOf3
 v3:=Tryz.zeroValue3
 t4:=Tryz.underlying4
 a4:=Tryz.isAgg4
 z4:=Tryz.sizeOf4
 v4:=Tryz.zeroValue4
 t5:=Tryz.underlying5
 a5:=Tryz.isAgg5
 z5:=Tryz.sizeOf5
 v5:=Tryz.zeroValue5
 t9:=Tryz.underlying9
 a9:=Tryz.isAgg9
 z9:=Tryz.sizeOf9
 v9:=Tryz.zeroValue9
 t46:=Tryz.underlying108
 a46:=Tryz.isAgg108
 z46:=Tryz.sizeOf108
 v46:=Tryz.zeroValue108
 t51:=Tryz.underlying117
 a51:=Tryz.isAgg117
 z51:=Tryz.sizeOf117
 v51:=Tryz.zeroValue117
 t146:=Tryz.underlying118
 a146:=Tryz.isAgg118
 z146:=Tryz.sizeOf118
 v146:=Tryz.zeroValue118
 g1:=by kernel_rfl}
def Tryz.lays149_ren:Go.Shelf.Ren:=⟨λ|149=>19|222=>40|n=>n,λ|9=>9|5=>5|3=>3|4=>4|n=>n,λ|n=>n⟩
theorem Tryz.lays149:Go.Proofs.Lays.n149 Tryz.prog Tryz.lays149_ren:={
 mixed:=by kernel_rfl
 f149:=Tryz.func19.trans (congrArg some (by kernel_rfl))
 f222:=Tryz.func40.trans (congrArg some (by kernel_rfl))
 t3:=Tryz.underlying3
 a3:=Tryz.isAgg3
 z3:=Tryz.sizeOf3
 v3:=Tryz.zeroValue3
 t4:=Tryz.underlying4
 a4:=Tryz.isAgg4
 z4:=Tryz.sizeOf4
 v4:=Tryz.zeroValue4
 t5:=Tryz.underlying5
 a5:=Tryz.isAgg5
 z5:=Tryz.sizeOf5
 v5:=Tryz.zeroValue5
 t9:=Tryz.underlying9
 a9:=Tryz.isAgg9
 z9:=Tryz.sizeOf9
 v9:=Tryz.zeroValue9}
def Tryz.lays146_ren:Go.Shelf.Ren:=⟨λ|146=>73|221=>83|268=>90|138=>91|143=>71|195=>101|197=>102|218=>103|219=>81|260=>107|217=>86|225=>87|224=>88|267=>89|266=>99|314=>100|n=>n,λ|9=>9|31=>25|3=>3|4=>4|0=>0|105=>120|21=>21|5=>5|46=>108|119=>124|139=>127|138=>126|146=>118|51=>117|n=>n,λ|1=>0|3=>1|4=>2|n=>n⟩
theorem Tryz.lays146:Go.Proofs.Lays.n146 Tryz.prog Tryz.lays146_ren:={
 mixed:=by kernel_rfl
 f138:=Tryz.func91.trans (congrArg some (by kernel_rfl))
 f143:=Tryz.func71.trans (congrArg some (by kernel_rfl))
 f146:=Tryz.func73.trans (congrArg some (by kernel_rfl))
 f195:=Tryz.func101.trans (congrArg some (by kernel_rfl))
 f197:=Tryz.func102.trans (congrArg some (by kernel_rfl))
 f217:=Tryz.func86.trans (congrArg some (by kernel_rfl))
 f218:=Tryz.func103.trans (congrArg some (by kernel_rfl))
 f219:=Tryz.func81.trans (congrArg some (by kernel_rfl))
 f221:=Tryz.func83.trans (congrArg some (by kernel_rfl))
 f224:=Tryz.func88.trans (congrArg some (by kernel_rfl))
 f225:=Tryz.func87.trans (congrArg some (by kernel_rfl))
 f260:=Tryz.func107.trans (congrArg some (by kernel_rfl))
 f266:=Tryz.func99.trans (congrArg some (by kernel_rfl))
 f267:=Tryz.func89.trans (congrArg some (by kernel_rfl))
 f268:=Tryz.func90.trans (congrArg some (by kernel_rfl))
 f314:=Tryz.func100.trans (congrArg some (by kernel_rfl))
 t0:=Tryz.underlying0
 a0:=Tryz.isAgg0
 z0:=Tryz.sizeOf0
 v0:=Tryz.zeroValue0
 t3:=Tryz.underlying3
 a3:=Tryz.isAgg3
 z3:=Tryz.sizeOf3
 v3:=Tryz.zeroValue3
 t4:=Tryz.underlying4
 a4:=Tryz.isAgg4
 z4:=Tryz.sizeOf4
 v4:=Tryz.zeroValue4
 t5:=Tryz.underlying5
 a5:=Tryz.isAgg5
 z5:=Tryz.sizeOf5
 v5:=Tryz.zeroValue5
 t9:=Tryz.underlying9
 a9:=Tryz.isAgg9
 z9:=Tryz.sizeOf9
 v9:=Tryz.zeroValue9
 t21:=Tryz.underlying21
 a21:=Tryz.isAgg21
 z21:=Tryz.sizeOf21
 v21:=Tryz.zeroValue21
 t31:=Tryz.underlying25
 a31:=Tryz.isAgg25
 z31:=Tryz.sizeOf25
 v31:=Tryz.zeroValue25
 t46:=Tryz.underlying108
 a46:=Tryz.isAgg108
 z46:=Tryz.sizeOf108
 v46:=Tryz.zeroValue108
 t51:=Tryz.underlying117
 a51:=Tryz.isAgg117
 z51:=Tryz.sizeOf117
 v51:=Tryz.zeroValue117
 t105:=Tryz.underlying120
 a105:=Tryz.isAgg120
 z105:=Tryz.sizeOf120
 v105:=Tryz.zeroValue120
 t119:=Tryz.underlying124
 a119:=Tryz.isAgg124
 z119:=Tryz.sizeOf124
 t138:=Tryz.underlying126
 a138:=Tryz.isAgg126
 z138:=Tryz.sizeOf126
 v138:=Tryz.zeroValue126
 t139:=Tryz.underlying127
 a139:=Tryz.isAgg127
 z139:=Tryz.sizeOf127
 v139:=Tryz.zeroValue127
 t146:=Tryz.underlying118
 a146:=Tryz.isAgg118
 z146:=Tryz.sizeOf118
 v146:=Tryz.zeroValue118
 g1:=by kernel_rfl
 g3:=by kernel_rfl
 g4:=by kernel_rfl}
end
section
open Go.Shelf Go.RowKit Go.Lib
variable{P:Program}{ρ:Ren}
set_option maxHeartbeats 1000000 in
theorem Any.split1(L:Lays.n146 P ρ)(j:(P.info? (ρ.t 9)).map (λi=>(i.zero,i.size,i.bytes))=some (some (.string ByteArray.empty),1,16))(s:ByteArray)(b:UInt8)(w:World)(B:s.size<4294967281):
  Calls P (ρ.f 146) #[.string s,.string ⟨#[b]⟩] w λe w'=>
   e=.returned (.slice (some ⟨w.heap.size,0,none⟩) (CG s ⟨#[b]⟩+1) (CG s ⟨#[b]⟩+1))∧w'=w.alloc (.cells ((Lib.splitB ⟨#[b]⟩ 0 (CG s ⟨#[b]⟩) s).map Ci).toArray (ρ.t 9)):=by
 have h:1<=(⟨#[b]⟩:ByteArray).size:=Am _;have u:=Lib.countB_le ⟨#[b]⟩ h s.size s (Am _);have a:=Lib.splitB_all ⟨#[b]⟩ h 0 _ s rfl;have o:∀(x:ByteArray)(c:Array Value),x.size<=s.size->Calls P (ρ.f 143) #[.string x,.string ⟨#[b]⟩] (w.alloc (.cells c (ρ.t 9))) λe w'=>e=.returned (.int .i64 (Lib.indexB x ⟨#[b]⟩))∧w'=w.alloc (.cells c (ρ.t 9)):=λx c _=>by
  refine(Any.strings_Index_one {L with} x b _).mono λe w' ⟨k,g⟩=>⟨?_,g⟩
  rw[k];show _=Dn (Value.int .i64 (Lib.index x.data.toList [b]));rw[Lib.index_one]
 have A:Calls P (ρ.f 138) #[.string s,.string ⟨#[b]⟩] w λe w'=>e=.returned (.int .i64 (CG s ⟨#[b]⟩))∧w'=w:=by
  refine(Any.strings_Count_one {L with} s b w).mono λe w' ⟨k,g⟩=>⟨?_,g⟩
  rw[k];show _=Dn (Value.int .i64 ((Lib.count s.data.toList [b]:Nat):Int));rw[Lib.count_one];rfl
 have c:=Any.strings_genSplit_core {L with} j s ⟨#[b]⟩ 0 (-1) (CG s ⟨#[b]⟩+1) w B h (Br _) o A (by decide) (by decide) (by rw[if_pos (by decide)];omega);rw[Nat.add_sub_cancel,a] at c;have r:Lib.cellsOf (Lib.splitB ⟨#[b]⟩ 0 (CG s ⟨#[b]⟩) s) (CG s ⟨#[b]⟩+1)=((Lib.splitB ⟨#[b]⟩ 0 (CG s ⟨#[b]⟩) s).map Ci).toArray:=by rw[<-a];exact Lib.cellsOf_full _
 rw[r] at c;have E:=L.t3;have F:=L.t9;have y:=L.t31;have J:=L.a3;have C:=L.a9;have v:=L.a31;have D:=L.z3;have I:=L.v3;have G:=L.z9;have H:=L.v9;have q:=L.z31;have p:=L.v31;have m:∀d w,(callFunc (ρ.f 221) d).run P w=.ok (.enter (ρ.f 221) d) w:=enters_of L.f221 (by kernel_rfl) rfl
 go_enter L.f146,Body.n146_ntmps ρ
 go_wp2_with (go_at_fn (ρ.f 221);refine c.mono ?_;rintro e w' ⟨rfl,g⟩;rw[g])
 go_ret
 exact⟨rfl,rfl⟩
end
end Go.Proofs
namespace Go.Proofs.YtkinflmjagfapaaGreatDoor
open Go.AM
section
open Go.AM Go.RowKit
theorem xw{α:Type}(p:α->Bool):∀l:List α,(l.dropWhile p).length<=l.length
 | []=>Am _
 |a::l=>by
  rw[List.dropWhile_cons];split;·exact Nat.le_succ_of_le (xw p l)
  ·exact Am _
theorem arp(l cs:List UInt8):(Go.Lib.trimS l cs).length<=l.length:=by unfold Go.Lib.trimS Go.Lib.trimLeftS Go.Lib.trimRightS;refine AH (xw _ _) ?_;rw[List.length_reverse];refine AH (xw _ _) ?_;rw[List.length_reverse];exact Am _
theorem aa1(s:List UInt8):-1<=oG s∧oG s<(s.length:Int):=by
 have:=Go.Lib.lastIndexByte_spec ⟨s.toArray⟩ 46;have e:(⟨s.toArray⟩:ByteArray).size=s.length:=by show s.toArray.size=_;simp
 unfold oG;rcases this with⟨h,_⟩|⟨i,a,h,_⟩
 ·rw[h];omega
 ·rw[h];omega
theorem afR{s:ByteArray}{l:List UInt8}(h:s.data.toList=l):s=⟨l.toArray⟩:=by subst h;simp
theorem afS{P:Program}{f:FuncId}{vs:List V}{v:V}(h:∀(w:World)(I:Nat->Nat->Prop)(ρ:Nat->Nat)(a:Array Value),vs.length=a.size->
  (∀(i:Nat) x cv,vs[i]? =some x->a[i]? =some cv->VRel I ρ 0 w x cv)->Calls P f a w λe w'=>∃cv,e=.returned cv∧Below w.heap.size w w'∧(∀I ρ N w,VRel I ρ N w v cv)∧∀g w,au g w .res v cv):aK P f vs v:=by
 refine⟨[],λw g a u m r q k=>(h w g.I g.ρ a r k).mono ?_⟩;rintro e w' ⟨cv,rfl,c,y,t⟩;have d:∀b j,g.I b j->w'.cell? ⟨b,j,none⟩=w.cell? ⟨b,j,none⟩:=by intro b j p;simp only[By,c.block b (m.exI b j p).lt]
 refine⟨_,g,rfl,⟨by simp,by simp,by simp,by simp,λb j p=>(m.exI b j p).blk (c.block b (m.exI b j p).lt),λb o q=>AC (m.oLt b o q) c.size⟩,
  ⟨rfl,c.os,c.tape,c.output,c.size,λb q _ _=>c.block b q,⟨λ_ _ h=>h,d,λ_ _=>rfl,Am _⟩,λ_ _ _ _ _ h=>h,λ_ _ _ h=>h,by simp⟩,y _ _ _ _,t _ _⟩
theorem akR{a b:List UInt8}{I:Nat->Nat->Prop}{ρ:Nat->Nat}{w:World}{c:Array Value}(h:[V.str a,V.str b].length=c.size)(d:∀(i:Nat) x cv,[V.str a,V.str b][i]? =some x->c[i]? =some cv->VRel I ρ 0 w x cv):c= #[.string ⟨a.toArray⟩,.string ⟨b.toArray⟩]:=by
 obtain⟨e,f,rfl⟩:∃e f,c= #[e,f]:=by
  rcases c with⟨l⟩
  match l,h with
  | [e,f],_=>exact⟨e,f,rfl⟩
 have k:=d 0 _ e rfl rfl;have m:=d 1 _ f rfl rfl;cases k with
 |str _ s j _=>
 cases m with
 |str _ s' g _=>rw[afR j,afR g]
theorem arq(s:List UInt8)(g:s.length<=1000000):∃r,ra s (dJ++iV) r:=by refine⟨_,afS (v:=.str (Go.Lib.trimS s (dJ++iV))) (λw I ρ b c a=>?_),rfl⟩;obtain rfl:=akR c a;refine(Any.strings_Trim_laid Tryz.lays160 (by kernel_rfl) ⟨s.toArray⟩ ⟨(dJ++iV).toArray⟩ w (by show s.toArray.size<=_;simp;omega) (by decide) (ascii_of_all (by decide))).mono ?_;rintro e w' ⟨d,f⟩;refine⟨_,d,f,λI ρ N w=>.str _ _ (by simp) ?_,by simp[au]⟩;have:=arp s (dJ++iV);show (Go.Lib.trimS s (dJ++iV)).toArray.size<=dl;simp only[Cz,dl];omega
theorem xx(s:List UInt8)(c:UInt8):∃r,gJ s [c] r:=by refine⟨_,afS (v:=.bool (dq s c)) (λw I ρ b d a=>?_),rfl⟩;obtain rfl:=akR d a;refine(Any.strings_Contains_one Tryz.lays144 ⟨s.toArray⟩ c w).mono ?_;rintro e w' ⟨f,rfl⟩;exact⟨_,f,Below.refl _ _,λI ρ N w=>.bool _,by simp[au]⟩
theorem alE(s:List UInt8)(k:s.length<=1000000):∃r,fL s 46 r:=by
 refine⟨_,afS (v:=.int .i64 (oG s)) (λw I ρ a g b=>?_),rfl⟩;obtain⟨c,d,rfl⟩:∃c d,a= #[c,d]:=by
  rcases a with⟨l⟩
  match l,g with
  | [c,d],_=>exact⟨c,d,rfl⟩
 have i:=b 0 _ c rfl rfl;have j:=b 1 _ d rfl rfl;cases i with
 |str _ s' f _=>
 cases j with
 |int _ _ _=>
 obtain rfl:=afR f;refine(Any.strings_LastIndexByte Tryz.lays149 ⟨s.toArray⟩ 46 (by show s.toArray.size<_;simp;omega) w).mono ?_;rintro e w' ⟨h,rfl⟩;refine⟨_,h,Below.refl _ _,λI ρ N w=>.int _ _ ?_,by simp[au]⟩;have:=aa1 s;unfold oG at*
 simp only[B2,BT,Bb,Bo];simp only[if_true];omega
theorem aoG{P:Program}{f:FuncId}{vs:List V}{xs:List (List UInt8)}{ty:TypeId}(h:∀(w:World)(I:Nat->Nat->Prop)(ρ:Nat->Nat)(a:Array Value),vs.length=a.size->
  (∀(i:Nat) x cv,vs[i]? =some x->a[i]? =some cv->VRel I ρ 0 w x cv)->Calls P f a w λe w'=>e=.returned (.slice (some ⟨w.heap.size,0,none⟩) xs.length xs.length)∧w'=w.alloc (.cells (xs.map λx=>Ci ⟨x.toArray⟩).toArray ty))
  (L:xs.length<=1000000) (J:∀x∈xs,x.length<=1000000):aK P f vs (.sl .str (.may false) xs):=by
 refine⟨[],λw g a G C E A u=>(h w g.I g.ρ a E u).mono ?_⟩;rintro e w' ⟨rfl,rfl⟩;have blk:∀b,b<w.heap.size->(w.alloc (.cells (xs.map λx=>Ci ⟨x.toArray⟩).toArray ty)).heap[b]? =w.heap[b]?:=λb y=>Below.heap_alloc w _ b y
 have q:(w.alloc (.cells (xs.map λx=>Ci ⟨x.toArray⟩).toArray ty)).heap[w.heap.size]? =some (.cells (xs.map λx=>Ci ⟨x.toArray⟩).toArray ty):=by show (w.heap.push _)[w.heap.size]? =_;rw[CM,if_pos rfl]
 have D:(w.alloc (.cells (xs.map λx=>Ci ⟨x.toArray⟩).toArray ty)).heap.size=w.heap.size+1:=World.size_alloc ..;generalize m:w.alloc (.cells (xs.map λx=>Ci ⟨x.toArray⟩).toArray ty)=w' at*
 let H:Gh:={g with I:=λb j=>g.I b j∨(b=w.heap.size∧j<xs.length)}
 have p:∀b j,g.I b j->b<w.heap.size:=λb j c=>(C.exI b j c).lt
 have t:∀b j,g.I b j->w'.cell? ⟨b,j,none⟩=w.cell? ⟨b,j,none⟩:=λb j c=>by simp only[By,blk b (p b j c)]
 have k:∀(j:Nat) x,xs[j]? =some x->w'.cell? ⟨w.heap.size,j,none⟩=some (.string ⟨x.toArray⟩):=by intro j x d;simp[By,q,d]
 refine⟨_,H,rfl,⟨by simp,by simp,by simp,by simp,?_,?_⟩,⟨rfl,by rw[<-m];rfl,by rw[<-m];rfl,by rw[<-m];rfl,by omega,λb A _ _=>blk b A,⟨λ_ _ h=>.inl h,t,λ_ _=>rfl,Am _⟩,?_,λ_ _ _ h=>h,by simp⟩,?_,by simp[au]⟩
 ·rintro b j (c|⟨rfl,d⟩);·exact(C.exI b j c).blk (blk b (p b j c))
  ·exact py.row q (by simpa using d) (λ_ B=>absurd B (by simp))
 ·intro b o A;have:=C.oLt b o A;omega
 ·rintro b j y _ _ (c|⟨rfl,d⟩);·exact c
  ·omega
 ·refine .sl .str (.may false) xs w.heap.size 0 xs.length xs.length rfl (Am _) (by simp only[dl];omega) (by simp) (λi _=>.string ⟨(xs.getD i []).toArray⟩) ?_ ?_ ?_;·intro i x j c d;have r:j<1:=d;have F:i<xs.length:=(Ad.1 c).1;refine .inr ⟨rfl,?_⟩;show 0+i*1+j<_;omega
  ·intro i x j c d;have r:j<1:=d;rw[show 0+i*EK.sz .str+j=i from by show 0+i*1+j=i;omega,k i x c,Af,c];rfl
  ·intro i x j v c d;have r:j<1:=(Ad.1 d).1;obtain rfl:j=0:=by omega
   obtain rfl:V.str x=v:=by simpa [enc] using d
   rw[Af,c];refine .str _ _ (by simp) ?_;have:=J x (Ai c);show x.toArray.size<=_;simp only[Cz,dl];omega
theorem ac3:∀(k:Nat)(s:List UInt8),(∀x∈Go.Lib.splitK [46] 0 k s,x.length<=s.length)
 |0,s=>by simp[Go.Lib.splitK]
 |k+1,s=>by
  unfold Go.Lib.splitK;intro x a;split at a;·simp at a;subst a;exact Am _
  ·rcases AQ.1 a with rfl|h;·rw[Bw];omega
   ·have:=ac3 k _ x h;rw[BJ] at this;omega
theorem aqk(s:List UInt8)(m:s.length<=100000):∃r,iA s [46] r:=by
 have k:(⟨s.toArray⟩:ByteArray).size=s.length:=by show s.toArray.size=_;simp
 have a:=Go.Lib.splitB_all ⟨#[46]⟩ (Am _) 0 _ ⟨s.toArray⟩ rfl;have i:=Go.Lib.countB_le ⟨#[46]⟩ (Am _) s.length ⟨s.toArray⟩ (by omega);have j:=Go.Lib.splitB_data ⟨#[46]⟩ 0 (Go.Lib.countB ⟨s.toArray⟩ ⟨#[46]⟩) ⟨s.toArray⟩;have d:Go.Lib.split s [46]=(Go.Lib.splitB ⟨#[46]⟩ 0 (Go.Lib.countB ⟨s.toArray⟩ ⟨#[46]⟩) ⟨s.toArray⟩).map (·.data.toList):=by rw[j];rfl
 refine⟨Go.Lib.split s [46],aoG (ty:=Tryz.lays146_ren.t 9) (λw I ρ c f b=>?_) ?_ ?_,rfl⟩
 ·obtain rfl:=akR f b;refine(Any.split1 Tryz.lays146 (by kernel_rfl) ⟨s.toArray⟩ 46 w (by omega)).mono ?_;rintro e w' ⟨rfl,rfl⟩;have g:(Go.Lib.split s [46]).length=Go.Lib.countB ⟨s.toArray⟩ ⟨#[46]⟩+1:=by rw[d,Bt,a]
  refine⟨by rw[g],?_⟩;rw[d,Ch]
  congr 3
 ·rw[d,Bt,a];omega
 ·intro x h;have:=ac3 _ s x h;omega
end
noncomputable def rG:av:=tab (P:=Tryz.prog) [] [] [] []
def rh:IR:=Rs [Pp (.mov 2 (.c (nl .jnode)))] (Sq (Rs [Mv 3 0,Pp (.snil 4 (.t 3))] (Cn 4 (Rs [Pp (.mov 2 (.c (nl .jnode)))] .ret) .skip)) (Rs [Pp (.bsl 5 .jnode [] false),Mv 6 0,Pp (.app 7 .jnode (.tk 5) 6),Pp (.mov 2 (.tk 7))] .ret))
def ri:List RV:=[.t 2]
theorem rj:FnC Tryz.prog rG [] 0 kZ Tryz.f31 rh ri:=fnC Tryz.func31
def kD(N:Nat)(a:List aa):Ro:=
 chk (decide (0<Aa a)) (
  chk (decide ((Aa ([]:List aa)+Aa a)*80<=140737488355328)) (
   let b:=(([]:List aa)++a)
   some (.sl .jnode .own b,[])))
def kE(N:Nat)(a:List aa):Ro:=kD N a
theorem qK(N:Nat)(b:List aa)(h:Tot (kE N b) (λz=>∃(a:List aa)(rest:List ai),z.1.dimR=.sl .jnode (.may false) a∧z.2=rest∧eW b (a))):∃r,cS b r:=rj.finP (N:=N) (by kernel_rfl) h λ_ ⟨a,_,e,_,q⟩=>⟨(a),e,q⟩
noncomputable def wl:av:=tab (P:=Tryz.prog) [] [] [] []
def vi:IR:=Rs [Pp (.mov 2 (.c (nl .str)))] (Sq (Rs [Mv 3 0,Pp (.snil 4 (.t 3))] (Cn 4 (Rs [Pp (.mov 2 (.c (nl .str)))] .ret) .skip)) (Rs [Pp (.bsl 5 .str [] false),Mv 6 0,Pp (.app 7 .str (.tk 5) 6),Pp (.mov 2 (.tk 7))] .ret))
def vj:List RV:=[.t 2]
theorem vk:FnC Tryz.prog wl [] 0 nJ Tryz.f32 vi vj:=fnC Tryz.func32
def ng(N:Nat)(a:Bss):Ro:=
 chk (decide (0<Aa a)) (
  chk (decide ((Aa ([]:Bss)+Aa a)*16<=140737488355328)) (
   let b:=(([]:Bss)++a)
   some (.sl .str .own b,[])))
def ni(N:Nat)(a:Bss):Ro:=ng N a
theorem uK(N:Nat)(b:Bss)(h:Tot (ni N b) (λz=>∃(a:Bss)(rest:List ai),z.1.dimR=.sl .str (.may false) a∧z.2=rest∧ia b (a))):∃r,cW b r:=vk.finP (N:=N) (by kernel_rfl) h λ_ ⟨a,_,e,_,q⟩=>⟨(a),e,q⟩
noncomputable def xy:av:=tab (P:=Tryz.prog) [] [] [] [rF,nL]
def zk:IR:=Rs [Bi 16 .lss 15 14] (Sq (Cn 16 .skip (.exit 0)) (Sq (.block 1 (Rs [Mv 17 15,Mv 3 17] .bad)) (Rg [Bc 28 .add 15 1,Mv 15 28])))
def zl:IR:=Rs [Pp (.ld 29 5 true false 1),Sv 5 2 29] .ret
def akS:IR:=Rs [Pp (.box 1 0),Pp (.new 2 [vI 0,vI 0,vS,nl .jnode,nl .str])] (Sq (.reg [Fa 4 3 1,Fo [0] [] (.ld 5 1 false false 4),Ca 6 31 [5],Fa 7 4 1,Fo [0] [] (.ld 8 1 false false 7),Ca 9 32 [8],Fa 10 3 1,Fo [] [0] (.st none 1 10 (.tk 6)),Fa 11 4 1,Fo [] [0] (.st none 1 11 (.tk 9))] [[],[0],[0,1],[],[3],rg 0 4,rg 0 4,rg 0 6,rg 0 7,rg 0 8]) (Sq (Rs [Fa 12 3 1,Lo 13 12,Ll 14 13,Mi 15 0] (.block 0 (.loop [1,2,14,15,1000000] 2 zk))) zl))
def ab5:List RV:=[.cell 2 5 true]
theorem akT:FnC Tryz.prog xy [] 0 adH Tryz.f15 akS ab5:=fnC Tryz.func15
def ajF(R:IR->(Ex->St->Ro)->St->Ro)(a:St->Ro):Ex->St->Ro:=(ce a [1,2,14,15,1000000] 2 (aG 0 (bR (R zl) (fin ab5))))
abbrev pW:Type:=(Int×Int×Int×Int×Bs×List aa×Bss×Int×Int×Bs×List aa×Bss)
def oV(x:pW):St:={env:=(.undef::.ptr 0 0::.ptr 1 0::(U 11 (.int .i64 x.1::.int .i64 x.2.1::(U 14 [])))),hp:=[some [.int .i64 x.2.2.1,.int .i64 x.2.2.2.1,.str x.2.2.2.2.1,.sl .jnode (.may false) x.2.2.2.2.2.1,.sl .str (.may false) x.2.2.2.2.2.2.1],some [.int .i64 x.2.2.2.2.2.2.2.1,.int .i64 x.2.2.2.2.2.2.2.2.1,.str x.2.2.2.2.2.2.2.2.2.1,.sl .jnode .own x.2.2.2.2.2.2.2.2.2.2.1,.sl .str .own x.2.2.2.2.2.2.2.2.2.2.2]]}
def uL(N:Nat):(St->Ro)->St->Ro:=λa s=>run xy N zk (ajF (run xy N) a) s
def uM(N:Nat)(f:pW->Ro)(x:pW):Ro:=
 let h:Int:=x.1;let g:Int:=x.2.1;let a:Int:=x.2.2.1;let d:Int:=x.2.2.2.1;let e:Bs:=x.2.2.2.2.1;let b:List aa:=x.2.2.2.2.2.1;let c:Bss:=x.2.2.2.2.2.2.1;let i:Int:=x.2.2.2.2.2.2.2.1;let j:Int:=x.2.2.2.2.2.2.2.2.1;let k:Bs:=x.2.2.2.2.2.2.2.2.2.1;let o:List aa:=x.2.2.2.2.2.2.2.2.2.2.1;let m:Bss:=x.2.2.2.2.2.2.2.2.2.2.2
 cond (decide (g<h)) (
  none) (
  some (.agg [.int .i64 a,.int .i64 d,.str e,.sl .jnode (.may false) b,.sl .str (.may false) c],[some [.int .i64 a,.int .i64 d,.str e,.sl .jnode (.may false) b,.sl .str (.may false) c],some [.int .i64 a,.int .i64 d,.str e,.sl .jnode (.may false) b,.sl .str (.may false) c]]))
theorem aim(N:Nat):LB (uL N) oV (uM N):=λ_ _=>by kernel_rfl
def nX(N:Nat)(a:aa)(e:pW->Ro):Ro:=
 af (cS a.l) (λ(b:List aa)=>
  af (cW a.names) (λ(d:Bss)=>
   let c:=(↑(Aa b):Int)
   e (c,0,a.kind,a.n,a.s,b,d,0,0,([]:Bs),([]:List aa),([]:Bss))))
def ab6(N:Nat)(a:aa):Ro:=nX N a (λz=>aO N (uM N) z)
theorem ajG(N:Nat)(a:aa)(h:Tot (ab6 N a) (λz=>∃(c:aa)(rest:List ai),z.1.dimR=.agg (enc .jnode c)∧z.2=rest∧yK a (c))):∃r,adJ a r:=akT.finP (N:=N) ((cV _ (by kernel_rfl) rfl (λC=>nX N a (λz=>C 1000000 (oV z))) (λC=>by kernel_rfl)).trans (A3 (b:=nX N a (λz=>bg N (uL N) (oV z))) (by kernel_rfl) (congrArg (nX N a) (funext λz=>bz (oV) (uL N) (uM N) (aim N) N z)))) h λ_ ⟨c,_,e,_,q⟩=>⟨(c),e,q⟩
noncomputable def xz:av:=tab (P:=Tryz.prog) [] [] [] [ahp,qv,nL]
def zm:IR:=Rs [Bi 16 .lss 15 14] (Sq (Cn 16 .skip (.exit 0)) (Sq (.block 1 (Rs [Mv 17 15,Mv 3 17] (.gh (.opn (.cell 0 3)) (.ghp (.cls (.cell 0 3)) (.reg [Fa 18 3 1,Fo [0] [] (.ld 19 1 false false 18),Mv 20 3,Fa 21 3 1,Fo [0] [] (.ld 22 1 false false 21),Mv 23 3,Pp (.ixw 24 .jnode 22 23),Fo [2] [] (.ldw 25 5 true 24),Ca 26 15 [25],Pp (.ixw 27 .jnode 19 20),Fo [] [2] (.stw none 5 27 26)] [[],[0],[],[],[3],[],[3,4,5],rg 3 6,rg 3 7,rg 0 8,rg 0 9]))))) (Rg [Bc 28 .add 15 1,Mv 15 28])))
def zn:IR:=Sq (.gh (.fz (.cell 0 3)) (Rg [Pp (.ld 29 5 true false 1),Sv 5 2 29])) .ret
def akU:IR:=Rs [Pp (.box 1 0),Pp (.new 2 [vI 0,vI 0,vS,nl .jnode,nl .str])] (Sq (.reg [Fa 4 3 1,Fo [0] [] (.ld 5 1 false false 4),Ca 6 31 [5],Fa 7 4 1,Fo [0] [] (.ld 8 1 false false 7),Ca 9 32 [8],Fa 10 3 1,Fo [] [0] (.st none 1 10 (.tk 6)),Fa 11 4 1,Fo [] [0] (.st none 1 11 (.tk 9))] [[],[0],[0,1],[],[3],rg 0 4,rg 0 4,rg 0 6,rg 0 7,rg 0 8]) (Sq (Rs [Fa 12 3 1,Lo 13 12,Pp (.lnw 14 13),Mi 15 0] (.block 0 (.loop [1,2,14,15,1000000] 2 zm))) zn))
def ab7:List RV:=[.cell 2 5 true]
theorem akV:FnC Tryz.prog xz [] 0 adI Tryz.f15 akU ab7:=fnC Tryz.func15
def ajH(R:IR->(Ex->St->Ro)->St->Ro)(a:St->Ro):Ex->St->Ro:=(ce a [1,2,14,15,1000000] 2 (aG 0 (bR (R zn) (fin ab7))))
abbrev pX:Type:=(Int×Int×Int×Int×Bs×List aa×Bss×Int×Int×Bs×List aa×Bss)
def oW(x:pX):St:={env:=(.undef::.ptr 0 0::.ptr 1 0::(U 11 (.int .i64 x.1::.int .i64 x.2.1::(U 14 [])))),hp:=[some [.int .i64 x.2.2.1,.int .i64 x.2.2.2.1,.str x.2.2.2.2.1,.ul .jnode x.2.2.2.2.2.1,.sl .str (.may false) x.2.2.2.2.2.2.1],some [.int .i64 x.2.2.2.2.2.2.2.1,.int .i64 x.2.2.2.2.2.2.2.2.1,.str x.2.2.2.2.2.2.2.2.2.1,.sl .jnode .own x.2.2.2.2.2.2.2.2.2.2.1,.sl .str .own x.2.2.2.2.2.2.2.2.2.2.2]]}
def uN(N:Nat):(St->Ro)->St->Ro:=λa s=>run xz N zm (ajH (run xz N) a) s
def pY(N:Nat)(g:pX->Ro)(x:pX):Ro:=
 let o:Int:=x.1;let b:Int:=x.2.1;let c:Int:=x.2.2.1;let e:Int:=x.2.2.2.1;let f:Bs:=x.2.2.2.2.1;let a:List aa:=x.2.2.2.2.2.1;let d:Bss:=x.2.2.2.2.2.2.1;let h:Int:=x.2.2.2.2.2.2.2.1;let j:Int:=x.2.2.2.2.2.2.2.2.1;let k:Bs:=x.2.2.2.2.2.2.2.2.2.1;let i:List aa:=x.2.2.2.2.2.2.2.2.2.2.1;let m:Bss:=x.2.2.2.2.2.2.2.2.2.2.2
 cond (decide (b<o)) (
  chk (decide (0<Aa a)) (
   chk ((decide (0<=b)&&decide (b<↑(Aa a)))) (
    chk (decide ((Ae b)<Aa a)) (
     let r:=(Ak a (Ae b) (am .jnode))
     af (lE (reJ r)) (λ(t:aa)=>
      chk ((decide (0<=b)&&decide (b<↑(Aa a)))) (
       chk (decide ((Ae b)<Aa a)) (
        let p:=(AJ a (Ae b) (reJ t))
        chk (As (Aa a) (Aa p)) (
         let q:=(Aj .i64 (b+1))
         g (o,q,c,e,f,p,d,h,j,k,i,m))))))))) (
  some (.agg [.int .i64 c,.int .i64 e,.str f,.sl .jnode (.may false) a,.sl .str (.may false) d],[some [.int .i64 c,.int .i64 e,.str f,.sl .jnode .own a,.sl .str (.may false) d],some [.int .i64 c,.int .i64 e,.str f,.sl .jnode (.may false) a,.sl .str (.may false) d]]))
theorem ain(N:Nat):LB (uN N) oW (pY N):=λ_ _=>by kernel_rfl
def nY(N:Nat)(a:aa)(e:pX->Ro):Ro:=
 af (cC a.l) (λ(b:List aa)=>
  af (cW a.names) (λ(d:Bss)=>
   let c:=(↑(Aa b):Int)
   e (c,0,a.kind,a.n,a.s,b,d,0,0,([]:Bs),([]:List aa),([]:Bss))))
def ab8(N:Nat)(a:aa):Ro:=nY N a (λz=>aO N (pY N) z)
theorem ajI(N:Nat)(a:aa)(h:Tot (ab8 N a) (λz=>∃(c:aa)(rest:List ai),z.1.dimR=.agg (enc .jnode c)∧z.2=rest∧yL a (c))):∃r,adK a r:=akV.finP (N:=N) ((cV _ (by kernel_rfl) rfl (λC=>nY N a (λz=>C 1000000 (oW z))) (λC=>by kernel_rfl)).trans (A3 (b:=nY N a (λz=>bg N (uN N) (oW z))) (by kernel_rfl) (congrArg (nY N a) (funext λz=>bz (oW) (uN N) (pY N) (ain N) N z)))) h λ_ ⟨c,_,e,_,q⟩=>⟨(c),e,q⟩
noncomputable def qL:av:=tab (P:=Tryz.prog) [] [] [] []
def qe:IR:=Rs [Pp (.mov 2 (.c (.ul .jnode ([]:List aa))))] (Sq (Rs [Mv 3 0,Pp (.snil 4 (.t 3))] (Cn 4 (Rs [Pp (.mov 2 (.c (.ul .jnode ([]:List aa))))] .ret) .skip)) (Rs [Pp (.blu 5 .jnode),Mv 6 0,Pp (.apu 7 .jnode (.tk 5) 6),Pp (.mov 2 (.tk 7))] .ret))
def qg:List RV:=[.t 2]
theorem qh:FnC Tryz.prog qL [] 0 kg Tryz.f31 qe qg:=fnC Tryz.func31
def jS(N:Nat)(a:List aa):Ro:=
 chk (decide (0<Aa a)) (
  chk (decide ((Aa ([]:List aa)+Aa a)*80<=140737488355328)) (
   let b:=(([]:List aa)++a)
   some (.ul .jnode b,[])))
def jT(N:Nat)(a:List aa):Ro:=jS N a
theorem pE(N:Nat)(b:List aa)(h:Tot (jT N b) (λz=>∃(a:List aa)(rest:List ai),z.1.dimR=.ul .jnode a∧z.2=rest∧ep b (a))):∃r,cC b r:=qh.finP (N:=N) (by kernel_rfl) h λ_ ⟨a,_,e,_,q⟩=>⟨(a),e,q⟩
section
open Go.AM Go.RowKit Go.Lib
set_option maxHeartbeats 2000000 in
theorem aoH(w:World):Calls Tryz.prog 32 #[.slice none 0 0] w λe w'=>e=.returned (.slice none 0 0)∧w'=w:=by
 have q:∀(w:World)(a:Option Addr)(n c b d:Nat),(binOp .eql 25 (.slice a n c) (.slice none b d)).run Tryz.prog w=.ok (.bool a.isNone) w:=λw a n c b d=>CB w _ _ a n c b d Tryz.underlying25
 go_enter Tryz.func32,Tryz.ntmps32
 go_wp2
 go_ret
 exact⟨rfl,rfl⟩
set_option maxHeartbeats 2000000 in
theorem anH(a:Addr)(c:Nat)(w:World):Calls Tryz.prog 32 #[.slice (some a) 0 c] w λe w'=>∃f,e=.returned f∧w'.ownsRow w.heap.size 9 1 f 0 []∧Below w.heap.size w w':=by
 have q:∀(w:World)(a:Option Addr)(n c r h:Nat),(binOp .eql 25 (.slice a n c) (.slice none r h)).run Tryz.prog w=.ok (.bool a.isNone) w:=λw a n c r h=>CB w _ _ a n c r h Tryz.underlying25
 obtain⟨g,x,A⟩:∃i,Tryz.prog.info? 9=some i∧(i.zero,i.size,i.bytes)=(some (.string {data:= #[]}),1,16):=An.1 (show (Tryz.prog.info? 9).map (λi=>(i.zero,i.size,i.bytes))=some (some (.string {data:= #[]}),1,16) by kernel_rfl);obtain⟨m,o,p⟩:g.zero=some (.string {data:= #[]})∧g.size=1∧g.bytes=16:=by simpa using A
 have u:∀w,Sem.run Tryz.prog (underlying 25) w=.ok (TypeDesc.slice 9) w:=run_underlying Tryz.underlying25
 go_enter Tryz.func32,Tryz.ntmps32
 go_wp2_with (at_builtin;refine wpList_append_own _ rfl _ _ 25 rfl w.heap.size 9 g (.string {data:= #[]}) 1 16 Tryz.underlying25 x m o p rfl (by decide) _ _ _ rfl (World.ownsRow_made w #[] 0 (Am _) (Br _) rfl) a 0 c [] rfl rfl (by intro j u v;simp at v) (by intro u B;cases B) (by unfold maxLen;omega) (by omega) (by simp) ?_)
 intro f C d b t
 go_wp2
 go_ret
 refine⟨f,rfl,by simpa using d,?_⟩;exact((Below.refl _ w).alloc (Am _) _).grown b (by simp) (by intro k y;simp[Value.ownBlock] at y;omega)
set_option maxHeartbeats 2000000 in
theorem aoI(w:World):Calls Tryz.prog 31 #[.slice none 0 0] w λe w'=>e=.returned (.slice none 0 0)∧w'=w:=by
 have q:∀(w:World)(a:Option Addr)(n c b d:Nat),(binOp .eql 24 (.slice a n c) (.slice none b d)).run Tryz.prog w=.ok (.bool a.isNone) w:=λw a n c b d=>CB w _ _ a n c b d Tryz.underlying24
 go_enter Tryz.func31,Tryz.ntmps31
 go_wp2
 go_ret
 exact⟨rfl,rfl⟩
set_option maxHeartbeats 2000000 in
theorem anI(a:Addr)(c:Nat)(w:World):Calls Tryz.prog 31 #[.slice (some a) 0 c] w λe w'=>∃f,e=.returned f∧w'.ownsRow w.heap.size 27 5 f 0 []∧Below w.heap.size w w':=by
 have q:∀(w:World)(a:Option Addr)(n c r h:Nat),(binOp .eql 24 (.slice a n c) (.slice none r h)).run Tryz.prog w=.ok (.bool a.isNone) w:=λw a n c r h=>CB w _ _ a n c r h Tryz.underlying24
 obtain⟨g,x,A⟩:∃i,Tryz.prog.info? 27=some i∧(i.zero,i.size,i.bytes)=(some (.agg #[.int .i64 0,.int .i64 0,.string {data:= #[]},.slice none 0 0,.slice none 0 0]),5,80):=An.1 (show (Tryz.prog.info? 27).map (λi=>(i.zero,i.size,i.bytes))=some (some (.agg #[.int .i64 0,.int .i64 0,.string {data:= #[]},.slice none 0 0,.slice none 0 0]),5,80) by kernel_rfl);obtain⟨m,o,p⟩:g.zero=some (.agg #[.int .i64 0,.int .i64 0,.string {data:= #[]},.slice none 0 0,.slice none 0 0])∧g.size=5∧g.bytes=80:=by simpa using A
 have u:∀w,Sem.run Tryz.prog (underlying 24) w=.ok (TypeDesc.slice 27) w:=run_underlying Tryz.underlying24
 go_enter Tryz.func31,Tryz.ntmps31
 go_wp2_with (at_builtin;refine wpList_append_own _ rfl _ _ 24 rfl w.heap.size 27 g (.agg #[.int .i64 0,.int .i64 0,.string {data:= #[]},.slice none 0 0,.slice none 0 0]) 5 80 Tryz.underlying24 x m o p rfl (by decide) _ _ _ rfl (World.ownsRow_made w #[] 0 (Am _) (Br _) rfl) a 0 c [] rfl rfl (by intro j u v;simp at v) (by intro u B;cases B) (by unfold maxLen;omega) (by omega) (by simp) ?_)
 intro f C d b t
 go_wp2
 go_ret
 refine⟨f,rfl,by simpa using d,?_⟩;exact((Below.refl _ w).alloc (Am _) _).grown b (by simp) (by intro k y;simp[Value.ownBlock] at y;omega)
theorem aql{P:Program}{g:Gh}{w w':World}(h:HR g [] w)(a:Below w.heap.size w w'):HR g [] w'∧FR g [] w g [] w':=by
 have lt:∀b j,g.I b j->b<w.heap.size:=by intro b j c;exact(h.exI b j c).lt
 have d:∀b j,g.I b j->w'.cell? ⟨b,j,none⟩=w.cell? ⟨b,j,none⟩:=by intro b j c;simp only[By,a.block b (lt b j c)]
 refine⟨⟨by simp,by simp,by simp,by simp,λb j c=>(h.exI b j c).blk (a.block b (lt b j c)),λb o f=>AC (h.oLt b o f) a.size⟩,?_⟩;exact⟨rfl,a.os,a.tape,a.output,a.size,λb e _ _=>a.block b e,⟨λ_ _ h=>h,d,λ_ _=>rfl,Am _⟩,λ_ _ _ _ _ h=>h,λ_ _ _ h=>h,λ_ cs h=>by simp at h⟩
theorem adY{k:EK}{f:FuncId}{e:TypeId}{n:Nat}(v:∀w,Calls Tryz.prog f #[.slice none 0 0] w λe w'=>e=.returned (.slice none 0 0)∧w'=w)
  (A:∀(a:Addr)(c:Nat)(w:World),Calls Tryz.prog f #[.slice (some a) 0 c] w λx w'=>∃p,x=.returned p∧w'.ownsRow w.heap.size e n p 0 []∧Below w.heap.size w w'):aK Tryz.prog f [.sl k (.may false) []] (.sl k (.may false) []):=by
 refine⟨[],?_⟩;intro w g j F m i r h;match j,i,h with
 |⟨[u]⟩,i,h=>
  have G:=h 0 (.sl k (.may false) []) u rfl rfl;have d:∀(a:Addr)(c:Nat),Calls Tryz.prog f #[.slice (some a) 0 c] w λx w'=>∃cv o,x=.returned cv∧HR o [] w'∧FR g [] w o [] w'∧VRel o.I o.ρ 0 w' (.sl k (.may false) []) cv∧au o w' .res (.sl k (.may false) []) cv:=by
   intro a c;refine(A a c w).mono ?_;rintro x w' ⟨p,rfl,⟨-,y⟩,E⟩;obtain⟨B,H⟩:=aql (P:=Tryz.prog) m E;refine⟨p,g,rfl,B,H,?_,by simp[au]⟩;rcases y with⟨rfl,_⟩|⟨b,cap,J,rfl,_,_,_,L,_⟩
   ·exact .sln _ _
   ·exact .sl k _ [] b 0 0 cap rfl (Br _) (AH L (by decide)) (by simp) (λ_ _=>.bool false) (by simp) (by simp) (by simp)
  cases G with
  |sln=>refine(v w).mono ?_;rintro x w' ⟨rfl,rfl⟩;exact⟨_,g,rfl,m,FR.refl _ _ _,.sln _ _,by simp[au]⟩
  |sle _ _ t=>exact d t 0
  |sl _ _ _ b q D cap C=>cases C;exact d ⟨b,q,none⟩ cap
theorem ajJ(l:List (List UInt8))(a:l.length<=1000000):∃r,cW l r:=by
 by_cases h:l=[]
 ·subst h;exact⟨[],adY aoH anH,rfl⟩
 ·apply uK 1;unfold ni ng;refine dH (decide_eq_true (CN.2 h)) (dH (decide_eq_true (by simp;omega)) (aj ⟨_,_,rfl,rfl,by simp[ia]⟩))
theorem aqm(l:List aa)(a:l.length<=1000000):∃r,cS l r:=by
 by_cases h:l=[]
 ·subst h;exact⟨[],adY aoI anI,rfl⟩
 ·apply qK 1;unfold kE kD;refine dH (decide_eq_true (CN.2 h)) (dH (decide_eq_true (by simp;omega)) (aj ⟨_,_,rfl,rfl,by simp[eW]⟩))
theorem aqn(l:List aa)(h:l≠[])(a:l.length<=1000000):∃r,cC l r:=by apply pE 1;unfold jT jS;refine dH (decide_eq_true (CN.2 h)) (dH (decide_eq_true (by simp;omega)) (aj ⟨_,_,rfl,rfl,by simp[ep]⟩))
end
theorem ars(k n:Int)(s:List UInt8)(names:List (List UInt8))(a:names.length<=1000000):∃r,lE (.mk k n s [] names) r:=by show ∃r,adJ (.mk k n s [] names) r;apply ajG 2;unfold ab6 nX;refine ag (aqm _ (by simp[aa.l])) ?_;rintro _ ⟨-,rfl⟩;refine ag (ajJ _ a) ?_;rintro r ⟨-,b⟩;obtain rfl:names=r:=Eq.symm b;refine aj ⟨.mk k n s [] names,_,rfl,rfl,rfl⟩
theorem asn{l:List aa}{i:Nat}(h:i<l.length):l.set i (l.getD i (am .jnode))=l:=by rw[Af,Ab h];simp
theorem art(k n:Int)(s:List UInt8)(l:List aa)(names:List (List UInt8))(u:l≠[])(F:l.length<=8)(b:names.length<=1000000)(w:∀c∈l,∃r,lE c r):∃r,lE (.mk k n s l names) r:=by
 show ∃r,adK (.mk k n s l names) r;apply ajI 100;unfold ab8 nY;refine ag (aqn _ u (by show l.length<=_;omega)) ?_;rintro r ⟨-,j⟩;obtain rfl:l=r:=Eq.symm j;refine ag (ajJ _ b) ?_;rintro r ⟨-,j⟩;obtain rfl:names=r:=Eq.symm j;dsimp only[aa.l,aa.names,aa.kind,aa.n,aa.s];refine a8 (λx=>match x with|(a,i,p,g,o,d,h,_,_,_,_,_)=>a=(l.length:Int)∧(0<=i∧i<=(l.length:Int))∧p=k∧g=n∧o=s∧d=l∧h=names) (λx=>((l.length:Int)-x.2.1).toNat) ?_ _ _ ⟨rfl,⟨by simp,by simp⟩,rfl,rfl,rfl,rfl,rfl⟩ (by simp;omega);rintro m ⟨a,i,p,g,o,d,h,E,B,y,A,D⟩ ⟨rfl,⟨t,C⟩,rfl,rfl,rfl,rfl,rfl⟩ e;dsimp only at e;unfold pY;dsimp only;refine ac (λq=>?_) (λq=>aj ⟨.mk p g o d h,_,rfl,rfl,rfl⟩);have f:i<(d.length:Int):=of_decide_eq_true q;have b:i.toNat<d.length:=by omega
 refine vck ?_ (decide_eq_true (by omega));refine vck ?_ (by simp[t,f]);refine vck ?_ (decide_eq_true b);refine ag (w _ ?_) ?_;·rw[bo,Af,Ab b];exact AK _
 rintro _ ⟨-,rfl⟩;rw[bo,bo,asn b];refine vck ?_ (by simp[t,f]);refine vck ?_ (decide_eq_true b);refine vck ?_ (BF _);have v:IntKind.i64.wrap (i+1)=i+1:=ax (i+1) (by omega);rw[v];exact e _ ⟨rfl,⟨by dsimp only;omega,by dsimp only;omega⟩,rfl,rfl,rfl,rfl,rfl⟩ (by simp only;omega)
theorem aso(c:aa)(h:aE c):∃r,lE c r:=by
 induction h with
 |mk k n s l names g e b f i o m j d=>
  by_cases a:l=[]
  ·subst a;exact ars k n s names (by have:names.length<=0:=b;omega)
  ·exact art k n s l names a e (by omega) d
theorem aa2:∃r,gf r:=by apply akO 1;unfold adT adS;exact aj ⟨_,_,rfl,rfl,rfl⟩
theorem aqo(k:Int):∃r,rT k r:=by
 apply al7 1;unfold afO afN;have b:¬(1<=k∧k<=14)->(∃(a:List UInt8)(rest:List ai),(V.str []).dimR=.str a∧([]:List ai)=rest∧nB k a):=λh=>⟨_,_,rfl,rfl,by simp only[nB,uk,if_neg h]⟩
 repeat' (first|(with_reducible refine ac ?_ ?_<;>(intro c;(try simp only[bnl] at c);(try revert c;intro _)))|with_reducible refine dH ?_ ?_|with_reducible refine aj ?_|(refine ag aa2 ?_;rintro _ ⟨-,rfl⟩;try dsimp only)|fail)
 ·exact b (by omega)
 ·exact b (by omega)
 ·have:([]::b8:List (List UInt8)).length=15:=rfl;simp only[bnl,this];omega
 ·rename_i d e;refine⟨_,_,rfl,rfl,?_⟩;simp only[nB,uk];rw[if_pos (by omega)];have:k.toNat=(k-1).toNat+1:=by omega
  rw[this];rfl
theorem ac4(s:List UInt8)(d:s.length<=1000000):∃r,lF s r:=by
 apply al8 1;unfold afQ afP;dsimp only;refine ac (λh=>?_) (λh=>aj ⟨_,_,rfl,rfl,?_⟩)
 ·refine ag (arq s d) ?_;rintro _ ⟨-,rfl⟩;refine ac (λa=>?_) (λa=>aj ⟨_,_,rfl,rfl,?_⟩)
  ·cases s with
   |nil=>simp at h
   |cons c l=>
    refine vck ?_ (by simp;omega);have e:AY 0 (A5 (Ae 1) (c::l))=[c]:=by simp
    rw[e];refine ag (xx _ c) ?_;rintro _ ⟨-,rfl⟩;refine aj ⟨_,_,rfl,rfl,?_⟩;have b:decide (Go.Lib.trimS (c::l) (dJ++iV)=[])=true:=a;show dq dJ c=cf (c::l);simp only[cf];rw[b];simp
  ·have b:decide (Go.Lib.trimS s (dJ++iV)=[])=false:=a;show false=cf s;simp only[cf];rw[b];simp
 ·have:s=[]:=by simpa using h
  subst this;rfl
theorem aru(s:List UInt8)(a:s.length<=1000000):∃r,nM s r:=by
 apply akP 1;unfold adV adU;refine ag (alE s a) ?_;rintro _ ⟨-,rfl⟩;have:=aa1 s;dsimp only;have e:(if Go.Lib.lastIndexByte ⟨s.toArray⟩ 46<0 then 0 else Go.Lib.lastIndexByte ⟨s.toArray⟩ 46)=((oG s).toNat:Int):=by show (if oG s<0 then 0 else oG s)=_;split<;>omega
 rw[e];refine vck ?_ (by simp;omega);exact aj ⟨_,_,rfl,rfl,by show AY 0 (A5 (Ae ((oG s).toNat:Int)) s)=aC s;rw[AR,BS];rfl⟩
theorem arv(s:List UInt8)(a:s.length<=1000000):∃r,qt s r:=by apply akQ 1;unfold adX adW;refine ag (alE s a) ?_;rintro _ ⟨-,rfl⟩;have:=aa1 s;dsimp only;have e:IntKind.i64.wrap (Go.Lib.lastIndexByte ⟨s.toArray⟩ 46+1)=oG s+1:=ax (oG s+1) (by omega);rw[e];refine vck ?_ (by simp;omega);exact aj ⟨_,_,rfl,rfl,by simp[um,aq7]⟩
theorem apc(b:List ab)(i:Int):∃r,q9 b i r:=by
 apply anE 1;unfold aht ahs
 repeat' (first|(with_reducible refine ac ?_ ?_<;>(intro a;(try simp only[bnl] at a);(try revert a;intro _)))|with_reducible refine dH ?_ ?_|with_reducible refine aj ?_|(refine ag (aqo _) ?_;rintro _ ⟨-,rfl⟩;try dsimp only)|fail)
 all_goals first|(first|(simp only[bnl,lnl];done)|(simp only[bnl,lnl];omega))|skip
 all_goals refine⟨_,_,rfl,rfl,?_⟩
 all_goals simp only[xo,hY]
 all_goals first|(rw[if_neg (by omega)];done)|(rw[if_pos (by omega)];simp_all;done)
theorem mI:∀(l:List (List UInt8))(s:List UInt8), -1<=bE l s∧bE l s<(l.length:Int)
 | [],s=>by simp[bE]
 |x::l,s=>by
  have:=mI l s;unfold bE;simp only[Av];split;·omega
  ·split<;>omega
theorem iZ{α:Type}{l:List α}{i:Int}{d:α}(h:0<=i∧i<(l.length:Int)):l.drop i.toNat=l.getD i.toNat d::l.drop (i+1).toNat:=by
 have a:i.toNat<l.length:=by omega
 rw[Bl a,Af,Ab a,show (i+1).toNat=i.toNat+1 by omega];rfl
theorem mU{α:Type}{l:List α}{i:Int}(h:(l.length:Int)<=i):l.drop i.toNat=[]:=B1 (by omega)
theorem aap(l:List (List UInt8))(s:List UInt8)(v:l.length<=1000000):∃r,aZ l s r:=by
 apply uJ 1000001;unfold nd dC;refine a8 (λx=>match x with|(a,s',n,i)=>a=l∧s'=s∧n=(l.length:Int)∧(0<=i∧i<=(l.length:Int))∧bE l s=(if bE (l.drop i.toNat) s<0 then -1 else bE (l.drop i.toNat) s+i)) (λx=>((l.length:Int)-x.2.2.2).toNat) ?_ _ _ ⟨rfl,rfl,rfl,⟨by simp,by simp⟩,?_⟩ (by simp;omega)
 ·rintro g ⟨a,s',n,i⟩ ⟨rfl,rfl,rfl,⟨m,u⟩,c⟩ o;dsimp only at o;unfold eU;dsimp only;refine ac (λj=>?_) (λj=>aj ⟨_,_,rfl,rfl,?_⟩)
  ·have f:i<(a.length:Int):=of_decide_eq_true j;have t:=iZ (d:=(am .str:List UInt8)) ⟨m,f⟩;rw[t] at c;refine vck ?_ (by simp[ixl,m,f]);refine ac (λb=>aj ⟨_,_,rfl,rfl,?_⟩) (λb=>?_)
   ·have b:s'=a.getD i.toNat (am .str):=of_decide_eq_true b;have k:bE (a.getD i.toNat (am .str)::a.drop (i+1).toNat) s'=0:=by rw[bE,if_pos b.symm]
    rw[k] at c;show i=bE a s';rw[c];simp
   ·have b:¬s'=a.getD i.toNat (am .str):=of_decide_eq_false b;have q:IntKind.i64.wrap (i+1)=i+1:=ax (i+1) (by omega);rw[q];refine o _ ⟨rfl,rfl,rfl,⟨by dsimp only;omega,by dsimp only;omega⟩,?_⟩ (by simp only;omega);have k:bE (a.getD i.toNat (am .str)::a.drop (i+1).toNat) s'=if bE (a.drop (i+1).toNat) s'<0 then -1 else bE (a.drop (i+1).toNat) s'+1:=by rw[bE,if_neg (λe=>b e.symm)]
    rw[k] at c;have:=mI (a.drop (i+1).toNat) s';dsimp only;rw[c];by_cases p:bE (a.drop (i+1).toNat) s'<0;·simp[p]
    ·simp only[p,if_false];rw[if_neg (by omega)];omega
  ·have h:(a.length:Int)<=i:=by have:=of_decide_eq_false j;omega
   rw[mU h] at c;simpa [hZ,bE] using c.symm
 ·have:=mI l s;simp only[Int.toNat_zero,BS];split<;>omega
theorem afT(l:List (List UInt8))(s:List UInt8)(a:l.length<=1000000):∃r,cA l s r:=by apply se 1;unfold lN lM;refine ag (aap l s a) ?_;rintro _ ⟨-,rfl⟩;exact aj ⟨_,_,rfl,rfl,rfl⟩
theorem aqp(s:List UInt8)(a:s.length<=1000000):∃r,gK s r:=by apply zN 1;unfold sg sf;refine ag (ac4 s a) ?_;rintro _ ⟨-,rfl⟩;exact aj ⟨_,_,rfl,rfl,rfl⟩
theorem amf(l:List (List UInt8))(v:l.length<=1000000)(p:∀x∈l,x.length<=1000000):∃r,bd l r:=by
 apply kr 1000001;unfold eo bc;refine a8 (λx=>match x with|(a,n,i)=>a=l∧n=(l.length:Int)∧(0<=i∧i<=(l.length:Int))∧(l.any λs=> !cf s)=((l.drop i.toNat).any λs=> !cf s)) (λx=>((l.length:Int)-x.2.2).toNat) ?_ _ _ ⟨rfl,rfl,⟨by simp,by simp⟩,by simp⟩ (by simp;omega);rintro e ⟨a,n,i⟩ ⟨rfl,rfl,⟨g,u⟩,b⟩ k;dsimp only at k;unfold bM;dsimp only;refine ac (λj=>?_) (λj=>aj ⟨_,_,rfl,rfl,?_⟩)
 ·have c:i<(a.length:Int):=of_decide_eq_true j;have q:=iZ (d:=(am .str:List UInt8)) ⟨g,c⟩;have t:a.getD i.toNat (am .str)∈a:=by
   have m:i.toNat<a.length:=by omega
   rw[Af,Ab m];exact AK _
  rw[q,List.any_cons] at b;refine vck ?_ (by simp[ixl,g,c]);refine ag (aqp _ (p _ t)) ?_;rintro _ ⟨-,rfl⟩;refine ac (λf=>aj ⟨_,_,rfl,rfl,?_⟩) (λf=>?_);·rw[f] at b;show decide (0<=i)=_;rw[b];simp[g]
  ·rw[f] at b;have o:IntKind.i64.wrap (i+1)=i+1:=ax (i+1) (by omega);rw[o];exact k _ ⟨rfl,rfl,⟨by dsimp only;omega,by dsimp only;omega⟩,by simpa using b⟩ (by simp only;omega)
 ·have h:(a.length:Int)<=i:=by have:=of_decide_eq_false j;omega
  rw[mU h] at b;show decide (0<=(-1:Int))=_;rw[b];rfl
theorem aio(l:List (List UInt8))(c:l.length<=1000000)(b:∀x∈l,x.length<=1000000):∃r,aD l r:=by apply jC 1;unfold dR dQ;refine ag (amf l c b) ?_;intro r a;exact aj ⟨_,_,rfl,rfl,a.2⟩
theorem anJ:∀(names:List (List UInt8))(l:List aa)(s:List UInt8),fa names l s=if bE names s<0 then none else l[(bE names s).toNat]?
 | [],l,s=>by simp[fa,bE]
 |x::a,[],s=>by simp[fa]
 |x::a,c::l,s=>by
  have:=mI a s;unfold fa bE;by_cases h:x=s;·simp[h]
  ·simp only[if_neg h,anJ a l s];by_cases b:bE a s<0;·simp[b]
   ·simp only[b,if_false];rw[if_neg (by omega),show (bE a s+1).toNat=(bE a s).toNat+1 by omega,AV]
theorem kW(n:aa)(name:List UInt8)(o:n.names.length<=1000000):∃r,du n name r:=by
 apply anG 1;unfold ahv ahu;dsimp only;have d:(if n.kind=6 then fa n.names n.l name else none)=none->∃(k:aa)(m:Bool)(rest:List ai),(V.tup [.agg [.int .i64 0,.int .i64 0,.str [],.sl .jnode (.may true) [],.sl .str (.may true) []],.bool false]).dimR=.tup [.agg (enc .jnode k),.bool m]∧[some [.int .i64 0,.int .i64 0,.str [],.sl .jnode (.may true) [],.sl .str (.may true) []]]=rest∧pe n name (k,m):=λe=>⟨.mk 0 0 [] [] [],false,_,rfl,rfl,by simp only[pe,ao,e];rfl⟩
 refine ac (λh=>aj (d (by rw[if_neg (by simpa using h)]))) (λh=>?_);have i:n.kind=6:=by simpa using h
 refine ag (aap _ _ o) ?_;rintro _ ⟨-,rfl⟩;have g:=anJ n.names n.l name;refine ac (λa=>aj (d (by rw[if_pos i,g,if_pos (of_decide_eq_true a)]))) (λa=>?_);have b:=of_decide_eq_false a;rw[if_neg b] at g;refine ac (λj=>aj (d (by rw[if_pos i,g,List.getElem?_eq_none_iff];have:=of_decide_eq_true j;omega))) (λj=>?_);have p:=of_decide_eq_false j;refine vck ?_ (by simp only[ixl,Ac,decide_eq_true_eq];omega);have f:(bE n.names name).toNat<n.l.length:=by omega
 refine aj ⟨n.l.getD (bE n.names name).toNat (am .jnode),true,_,?_,rfl,?_⟩;·generalize n.l.getD (bE n.names name).toNat (am .jnode)=c;cases c;rfl
 ·simp only[pe,ao,if_pos i,g];rw[Af,Ab f];rfl
theorem anK{s:List UInt8}(a:s≠[]):oH s=if bE b8 s<0 then 0 else bE b8 s+1:=by
 have e:bE ([]::b8) s=if bE b8 s<0 then -1 else bE b8 s+1:=by rw[bE];exact if_neg λe=>a e.symm
 have:=mI b8 s;unfold oH;rw[e];by_cases h:bE b8 s<0;·simp[h]
 ·rw[if_neg h,if_neg (by omega),if_neg h]
theorem aaq(s:List UInt8):∃r,dM s r:=by
 obtain⟨N,y⟩:∃N:Nat,N=100:=⟨_,rfl⟩
 apply aib N;unfold aag mE;have C:=mI b8 s;refine a8 (λx=>match x with|(s',f,l,i)=>s'=s∧l=b8∧(0<=i∧i<=(b8.length:Int))∧bE b8 s=(if bE (b8.drop i.toNat) s<0 then -1 else bE (b8.drop i.toNat) s+i)) (λx=>((b8.length:Int)-x.2.2.2).toNat) ?_ _ _ ⟨rfl,rfl,⟨by simp,by simp⟩,?_⟩ (by rw[y];show ((14:Int)-0).toNat<100;decide)
 ·rintro j ⟨s',f,l,i⟩ ⟨rfl,rfl,⟨p,B⟩,a⟩ t;dsimp only at t;have A:b8.length=14:=rfl;unfold oR;dsimp only;have q:i<(b8.length:Int)->IntKind.i64.wrap (i+1)=i+1:=λh=>ax (i+1) (by omega)
  refine ac (λm=>?_) (λm=>aj ⟨_,_,rfl,rfl,?_⟩)
  ·have b:i<(b8.length:Int):=of_decide_eq_true m;have v:=iZ (d:=(am .str:List UInt8)) ⟨p,b⟩;rw[v] at a;refine vck ?_ (ixt ⟨p,b⟩);refine ac (λc=>aj ⟨_,_,rfl,rfl,?_⟩) (λc=>?_)
   ·have c:b8.getD i.toNat (am .str)=s':=of_decide_eq_true c;have o:bE (b8.getD i.toNat (am .str)::b8.drop (i+1).toNat) s'=0:=by rw[bE,if_pos c]
    rw[o] at a;simp only[Int.lt_irrefl,if_false,Int.zero_add] at a;show IntKind.i64.wrap (i+1)=oH s';rw[q b];have g:s'≠[]:=by
     rw[<-c];intro e;have:∀w∈b8,w≠[]:=by decide
     refine this (b8.getD i.toNat (am .str)) ?_ e;rw[Af,Ab (by omega)];exact AK _
    rw[anK g,a,if_neg (by omega)]
   ·have c:¬b8.getD i.toNat (am .str)=s':=of_decide_eq_false c;rw[q b];refine t _ ⟨rfl,rfl,⟨by dsimp only;omega,by dsimp only;omega⟩,?_⟩ (by simp only;omega);have o:bE (b8.getD i.toNat (am .str)::b8.drop (i+1).toNat) s'=if bE (b8.drop (i+1).toNat) s'<0 then -1 else bE (b8.drop (i+1).toNat) s'+1:=by rw[bE,if_neg c]
    rw[o] at a;have:=mI (b8.drop (i+1).toNat) s';dsimp only;rw[a];by_cases u:bE (b8.drop (i+1).toNat) s'<0;·simp[u]
    ·simp only[u,if_false];rw[if_neg (by omega)];omega
  ·have k:(b8.length:Int)<=i:=by have:=of_decide_eq_false m;omega
   rw[mU k] at a;have a:bE b8 s'=-1:=by simpa [bE] using a
   show (0:Int)=oH s';by_cases g:s'=[]
   ·subst g;rfl
   ·rw[anK g,a];rfl
 ·simp only[Int.toNat_zero,BS];split<;>omega
theorem arw(k:Int):∃r,nQ k r:=by
 apply aic 1;unfold aai aah;refine ac (λh=>aj ⟨_,_,rfl,rfl,?_⟩) (λh=>?_);·have:=of_decide_eq_true h;show []=uk k;rw[uk,if_neg (by omega)]
 refine ac (λa=>aj ⟨_,_,rfl,rfl,?_⟩) (λa=>?_);·have:=of_decide_eq_true a;show []=uk k;rw[uk,if_neg (by omega)]
 have h:=of_decide_eq_false h;have a:=of_decide_eq_false a;refine vck ?_ (ixt ⟨by omega,by show k<(15:Int);omega⟩);refine aj ⟨_,_,rfl,rfl,?_⟩;show Ak ([]::b8) k.toNat _=uk k;rw[uk,if_pos (by omega)];obtain⟨n,d⟩:∃n:Nat,k=n+1:=⟨(k-1).toNat,by omega⟩
 have c:k.toNat=n+1:=by omega
 have b:(k-1).toNat=n:=by omega
 rw[c,b,Dq];rfl
theorem anL(a:List ab)(i:Int):∃r,mq a i r:=by
 apply aju 1;unfold abZ abY;refine ac (λh=>aj ⟨_,_,rfl,rfl,?_⟩) (λh=>?_);·have:=of_decide_eq_true h;show []=hY a i;rw[hY,if_neg (by omega)]
 have h:=of_decide_eq_false h;dsimp only;refine ac (λb=>aj ⟨_,_,rfl,rfl,?_⟩) (λb=>?_);·have:=of_decide_eq_true b;show []=hY a i;rw[hY,if_neg (by omega)]
 have b:=of_decide_eq_false b;refine vck ?_ (ixt ⟨by omega,by omega⟩);refine ac (λc=>?_) (λc=>?_);·refine vck ?_ (ixt ⟨by omega,by omega⟩);refine aj ⟨_,_,rfl,rfl,?_⟩;show _=hY a i;rw[hY,if_pos (by omega),if_pos (by simpa using c)]
 ·refine vck ?_ (ixt ⟨by omega,by omega⟩);refine ag (arw _) ?_;rintro _ ⟨-,rfl⟩;refine aj ⟨_,_,rfl,rfl,?_⟩;show _=hY a i;rw[hY,if_pos (by omega),if_neg (by simpa using c)]
theorem aoJ(s:List UInt8)(E:s.length<=1000000):∃r,fm s r:=by
 apply afM 1000002;unfold xT la;dsimp only;have A:IntKind.i64.wrap ((s.length:Int)-1)=(s.length:Int)-1:=ax _ (by omega);rw[A];refine a8 (λx=>match x with|(s',i)=>s'=s∧(-1<=i∧i<(s.length:Int))∧∀j:Nat,i<(j:Int)->j<s.length->s.getD j 0≠46) (λx=>(x.2+1).toNat) ?_ _ _ ⟨rfl,⟨by omega,by omega⟩,λj m t=>by omega⟩ (by simp only;omega);rintro g ⟨s',i⟩ ⟨rfl,⟨D,B⟩,c⟩ v;dsimp only at v;unfold mG;dsimp only;have w:=aqh s';refine ac (λb=>?_) (λb=>aj ⟨_,_,rfl,rfl,?_⟩)
 ·have b:=of_decide_eq_true b;refine vck ?_ (ixt ⟨b,B⟩);refine ac (λa=>?_) (λa=>?_)
  ·have a:s'.getD i.toNat 0=46:=by
    refine CQ.1 ?_;have:((s'.getD i.toNat 0).toNat:Int)=46:=by simpa using a
    simpa using (by omega:(s'.getD i.toNat 0).toNat=46)
   refine vck ?_ (by simp;omega);refine aj ⟨_,_,rfl,rfl,?_⟩;show AY 0 (s'.take i.toNat)=aC s';rw[BS,aC];rcases w with⟨q,p⟩|⟨k,d,o,f,u⟩
   ·exact absurd a (p _ (by omega))
   ·have:k=i.toNat:=by
     rcases C2 k i.toNat with h|h|h;·exact absurd a (u _ h (by omega))
     ·exact h
     ·exact absurd f (c k (by omega) d)
    rw[o,this,AR]
  ·have a:s'.getD i.toNat 0≠46:=by
    intro e;rw[e] at a;simp at a
   have y:IntKind.i64.wrap (i-1)=i-1:=ax (i-1) (by omega);rw[y];refine v _ ⟨rfl,⟨by first|omega|(dsimp only;omega),by first|omega|(dsimp only;omega)⟩,λj m t=>?_⟩ (by simp only;omega);by_cases C:i<(j:Int);·exact c j C t
   ·have:j=i.toNat:=by dsimp only at m;omega
    rw[this];exact a
 ·have b:=of_decide_eq_false b;show []=aC s';rw[aC];rcases w with⟨q,p⟩|⟨k,d,o,f,u⟩
  ·rw[q];rfl
  ·exact absurd f (c k (by omega) d)
theorem arx(names:List (List UInt8))(l:List aa)(name:List UInt8)(i:Nat)(b:i<names.length)(c:i<l.length)(a:names.getD i (am .str)≠name):fa (names.drop i) (l.drop i) name=fa (names.drop (i+1)) (l.drop (i+1)) name:=by rw[Bl b,Bl c,fa,if_neg];rw[Af,Ab b] at a;exact a
theorem jR(n:aa)(name:List UInt8)(J:n.names.length<=1000000):∃r,aU n name r:=by
 apply akH 1000001;unfold adR pl;have m:(if n.kind=6 then fa n.names n.l name else none)=none->∀(y u:Int)(q:List UInt8)(t:List aa)(p:List (List UInt8))(o:List ai),y=0->u=0->q=[]->t=[]->p=[]->Tot (some (.tup [.agg [.int .i64 y,.int .i64 u,.str q,.sl .jnode (.may true) t,.sl .str (.may true) p],.bool false],o):Ro) (λz=>∃(w:aa)(A:Bool)(rest:List ai),z.1.dimR=.tup [.agg (enc .jnode w),.bool A]∧z.2=rest∧mB n name (w,A)):=by rintro e _ _ _ _ _ o rfl rfl rfl rfl rfl;refine aj ⟨.mk 0 0 [] [] [],false,_,rfl,rfl,?_⟩;simp only[mB,ao,e];rfl
 refine a8 (λx=>match x with|(v,c,i,H,E,I,D,F)=>v=name∧c=n∧(0<=i∧i<=(n.names.length:Int))∧fa n.names n.l name=fa (n.names.drop i.toNat) (n.l.drop i.toNat) name) (λx=>((n.names.length:Int)-x.2.2.1).toNat) ?_ _ _ ⟨rfl,rfl,⟨by simp,by simp⟩,by simp⟩ (by simp;omega);rintro k ⟨v,c,i,H,E,I,D,F⟩ ⟨rfl,rfl,⟨B,L⟩,j⟩ C;dsimp only at C;unfold re;dsimp only;refine ac (λd=>?_) (λd=>m (by rw[if_neg (by simpa using d)]) _ _ _ _ _ _ rfl rfl rfl rfl rfl);have d:c.kind=6:=by simpa using d
 refine ac (λg=>?_) (λg=>m ?_ _ _ _ _ _ _ rfl rfl rfl rfl rfl)
 ·have g:=of_decide_eq_true g;have f:i.toNat<c.names.length:=by omega
  refine ac (λh=>?_) (λh=>m ?_ _ _ _ _ _ _ rfl rfl rfl rfl rfl)
  ·have h:=of_decide_eq_true h;have b:i.toNat<c.l.length:=by omega
   refine vck ?_ (ixt ⟨B,g⟩);refine ac (λa=>?_) (λa=>?_)
   ·have a:=of_decide_eq_true a;refine vck ?_ (ixt ⟨B,h⟩);refine aj ⟨c.l.getD i.toNat (am .jnode),true,_,?_,rfl,?_⟩;·generalize c.l.getD i.toNat (am .jnode)=x;cases x;rfl
    ·simp only[mB,ao,if_pos d];rw[j,Bl f,Bl b,fa,if_pos,Af,Ab b];·rfl
     ·rw[Af,Ab f] at a;exact a
   ·have a:=of_decide_eq_false a;have G:IntKind.i64.wrap (i+1)=i+1:=ax (i+1) (by omega);rw[G];refine C _ ⟨rfl,rfl,⟨by first|omega|(dsimp only;omega),by first|omega|(dsimp only;omega)⟩,?_⟩ (by simp only;omega);rw[j,arx _ _ _ _ f b a];dsimp only;rw[show (i+1).toNat=i.toNat+1 by omega]
  ·have h:=of_decide_eq_false h;rw[if_pos d,j,show AY i.toNat c.l=[] from B1 (by omega)];cases AY i.toNat c.names<;>rfl
 ·have g:=of_decide_eq_false g;rw[if_pos d,j,show AY i.toNat c.names=[] from B1 (by omega)];rfl
theorem aoK(c:Int)(d:0<=c∧c<=255):∃r,mD c r:=by
 apply agS 1;unfold zh zg;dsimp only;have b:=aqf ⟨c.toNat,by omega⟩;dsimp only at b
 repeat' (first|(with_reducible refine ac ?_ ?_<;>(intro a;(try simp only[bnl] at a);(try revert a;intro _)))|with_reducible refine dH ?_ ?_|with_reducible refine aj ?_|fail)
 all_goals
  refine⟨_,_,rfl,rfl,?_⟩;show _=dq dJ _;rw[b,B5];simp only[Ba,Ac,decide_eq_true_eq,beq_iff_eq,true_iff];omega
theorem aqq(c:Int)(b:0<=c∧c<=255):∃r,nS c r:=by
 apply aig 1;unfold aam aal;have a:=aro ⟨c.toNat,by omega⟩;dsimp only at a;refine ac (λh=>aj ⟨_,_,rfl,rfl,?_⟩) (λh=>aj ⟨_,_,rfl,rfl,?_⟩);·have h:=of_decide_eq_true h;show decide (c<=57)=_;rw[a,B5];simp only[Ac,decide_eq_true_eq];omega
 ·have h:=of_decide_eq_false h;show false=_;rw[a,eq_comm,BI];simp only[decide_eq_false_iff_not];omega
theorem wY(s:List UInt8)(L:s.length<=1000000):∃r,gu s r:=by
 apply ajB 1000001;unfold ab1 nW;refine a8 (λx=>match x with|(s',i)=>s'=s∧(0<=i∧i<=(s.length:Int))∧∀(j:Nat) c,(j:Int)<i->s[j]? =some c->okC j c=true) (λx=>((s.length:Int)-x.2).toNat) ?_ _ _ ⟨rfl,⟨by simp,by simp⟩,λj c o=>by omega⟩ (by simp;omega);rintro a ⟨s',i⟩ ⟨rfl,⟨E,J⟩,C⟩ v;dsimp only at v;unfold pV;dsimp only;refine ac (λe=>?_) (λe=>aj ⟨_,_,rfl,rfl,?_⟩)
 ·have e:=of_decide_eq_true e;have t:i.toNat<s'.length:=by omega
  have w:s'[i.toNat]? =some (s'.getD i.toNat 0):=by rw[Af,Ab t];rfl
  generalize s'.getD i.toNat 0=u at w ⊢;have I:=u.toNat_lt;have B:Bq ((u.toNat:Int)).toNat=u:=by simp
  have D:IntKind.i64.wrap (i+1)=i+1:=ax (i+1) (by omega);have bad:okC i.toNat u=false->sV s' false:=λh=>by
   show false=cf s';cases hp:cf s' with
   |false=>rfl
   |true=>have:=(alD s').1 hp |>.2 _ _ w;rw[h] at this;cases this
  have next:okC i.toNat u=true->∀Q,(∀y,(λx:List UInt8×Int=>match x with|(A,i)=>A=s'∧(0<=i∧i<=(s'.length:Int))∧∀(j:Nat) c,(j:Int)<i->s'[j]? =some c->okC j c=true) y->((s'.length:Int)-y.2).toNat<((s'.length:Int)-i).toNat->Tot (a y) Q)->Tot (a (s',i+1)) Q:=λh Q H=>by
   refine H _ ⟨rfl,⟨by omega,by omega⟩,λj c o d=>?_⟩ (by simp only;omega);by_cases q:(j:Int)<i;·exact C j c q d
   ·have:j=i.toNat:=by omega
    subst this;rw[w] at d;rw[<-Au d];exact h
  refine vck ?_ (ixt ⟨E,e⟩);refine ag (aoK _ ⟨by omega,by omega⟩) ?_;rintro G ⟨-,k⟩;have k:G=dq dJ u:=by rw[<-B];exact k
  refine ac (λb=>?_) (λb=>?_)
  ·have b:dq dJ u=false:=by rw[<-k];simpa using b
   refine ac (λg=>aj ⟨_,_,rfl,rfl,bad ?_⟩) (λg=>?_)
   ·have:i.toNat=0:=by
                 have:i=0:=by simpa using g
                 omega
    simp[okC,b,this]
   ·have g:¬i.toNat=0:=by
                   have:¬i=0:=by simpa using g
                   omega
    refine vck ?_ (ixt ⟨E,e⟩);refine ag (aqq _ ⟨by omega,by omega⟩) ?_;rintro F ⟨-,m⟩;have m:F=dq iV u:=by rw[<-B];exact m
    refine ac (λf=>aj ⟨_,_,rfl,rfl,bad ?_⟩) (λf=>?_)
    ·have f:dq iV u=false:=by rw[<-m];simpa using f
     simp[okC,b,f]
    ·have f:dq iV u=true:=by rw[<-m];simpa using f
     rw[D];exact next (by simp[okC,b,f,g]) _ v
  ·have b:dq dJ u=true:=by rw[<-k];simpa using b
   rw[D];exact next (by simp[okC,b]) _ v
 ·have e:=of_decide_eq_false e;show decide (0<(s'.length:Int))=cf s';by_cases p:s'=[]
  ·subst p;decide
  ·have:0<s'.length:=CN.2 p;rw[(alD s').2 ⟨p,λj c o=>C j c (by have:=(Ad.1 o).1;omega) o⟩];simpa using this
theorem ary(a b:List UInt8)(e:a.length<=1000000)(d:b.length<=1000000):∃r,pg a b r:=by
 apply ajC 1;unfold ab3 ab2;dsimp only;refine ac (λh=>?_) (λh=>?_);·have h:=of_decide_eq_true h;refine vck ?_ (decide_eq_true (by omega));exact aj ⟨_,_,rfl,rfl,by simp[lI,h]⟩
 have h:=of_decide_eq_false h;refine ac (λc=>?_) (λc=>?_);·have c:=of_decide_eq_true c;refine vck ?_ (decide_eq_true (by omega));exact aj ⟨_,_,rfl,rfl,by simp[lI,c]⟩
 have c:=of_decide_eq_false c;refine vck ?_ (decide_eq_true (by simp only[Av,AA];omega));refine vck ?_ (decide_eq_true (by simp only[AD,Av,AA];omega));exact aj ⟨_,_,rfl,rfl,by simp[lI,h,c]⟩
theorem aqr(s:List UInt8)(D:s.length<=1000000):∃r,nR s r:=by
 apply aij 1000003;unfold aao mH;refine a8 (λx=>match x with|(s',p,i)=>s'=s∧0<=i∧(p.length:Int)<=i∧(i<=(s.length:Int)∧(Go.Lib.split s [46]).all cf=(kp p (s.drop i.toNat)).all cf∨i=(s.length:Int)+1∧(Go.Lib.split s [46]).all cf=true)) (λx=>((s.length:Int)+1-x.2.2).toNat) ?_ _ _ ⟨rfl,by simp,by simp,.inl ⟨by simp,by simp[anu]⟩⟩ (by simp;omega);rintro t ⟨s',p,i⟩ ⟨rfl,v,C,a⟩ m;dsimp only at m;unfold oU;dsimp only;refine ac (λg=>?_) (λg=>aj ⟨_,_,rfl,rfl,?_⟩)
 ·have g:=of_decide_eq_true g;rcases a with⟨-,a⟩|⟨a, -⟩
  ·have q:IntKind.i64.wrap (i+1)=i+1:=ax (i+1) (by omega);refine ac (λf=>?_) (λf=>?_)
   ·have f:=of_decide_eq_true f;have j:i.toNat<s'.length:=by omega
    have y:=iZ (d:=(0:UInt8)) ⟨v,f⟩;have B:(i+1).toNat=i.toNat+1:=by omega
    rw[y] at a;refine vck ?_ (ixt ⟨v,f⟩);refine ac (λk=>?_) (λk=>?_)
    ·have u:s'.getD i.toNat 0≠46:=by
      intro e;rw[e] at k;simp at k
     rw[q];refine vck ?_ (by simp;omega);have w:AY i.toNat (s'.take (i+1).toNat)=[s'.getD i.toNat 0]:=by rw[B,BH,Ab j,List.drop_append_of_le_length (by simp;omega),B1 (by rw[Bw];omega),Af,Ab j];rfl
     rw[w];refine vck ?_ (decide_eq_true (by simp only[Av,AA];omega));refine m _ ⟨rfl,by first|omega|(dsimp only;omega),by simp only[AD,Av,AA];omega,.inl ⟨by first|omega|(dsimp only;omega),?_⟩⟩ (by simp only;omega);dsimp only;rw[a,kp,if_neg u]
    ·have A:s'.getD i.toNat 0=46:=by
      refine CQ.1 ?_;have:((s'.getD i.toNat 0).toNat:Int)=46:=by simpa using k
      simpa using (by omega:(s'.getD i.toNat 0).toNat=46)
     rw[kp,if_pos A,B7] at a;refine ag (wY _ (by omega)) ?_;rintro o ⟨-,c⟩;have c:o=cf p:=c;refine ac (λb=>aj ⟨_,_,rfl,rfl,?_⟩) (λb=>?_)
     ·have b:cf p=false:=by rw[<-c];simpa using b
      show false=_;rw[a,b];rfl
     ·have b:cf p=true:=by rw[<-c];simpa using b
      rw[q];refine m _ ⟨rfl,by first|omega|(dsimp only;omega),by simp only[AA];omega,.inl ⟨by first|omega|(dsimp only;omega),?_⟩⟩ (by simp only;omega);dsimp only;rw[a,b,Bool.true_and]
   ·have f:=of_decide_eq_false f;rw[mU (by omega),kp] at a;refine ag (wY _ (by omega)) ?_;rintro o ⟨-,c⟩;have c:o=cf p:=c;have a:(Go.Lib.split s' [46]).all cf=cf p:=by rw[a];simp
    refine ac (λb=>aj ⟨_,_,rfl,rfl,?_⟩) (λb=>?_);·show false=_;rw[a,<-c];simpa using b
    ·rw[q];refine m _ ⟨rfl,by first|omega|(dsimp only;omega),by simp only[AA];omega,.inr ⟨by first|omega|(dsimp only;omega),?_⟩⟩ (by simp only;omega);rw[a,<-c];simpa using b
  ·omega
 ·have g:=of_decide_eq_false g;rcases a with⟨h, -⟩|⟨-,h⟩
  ·omega
  ·exact h.symm
theorem aar(l:List UInt8)(c:UInt8):dq (l++[c]) 46=(dq l 46||c==46):=by rw[B5];simp only[Ba,asl,Aw,Az,beq_iff_eq];constructor<;>rintro(h|h)<;>simp[h]
theorem bF(m:MS)(b:Bool)(c:Int):(ak m b c).2.2.1 =if b=true then aN m.2.2.1 c else m.2.2.1:=by unfold ak aN;by_cases d:b=true<;>by_cases a:m.2.2.1=0<;>simp[d,a]
theorem eL{e c:Int}(h:e≠0):aN e c=e:=if_neg h
theorem da{e c:Int}(a:c≠0:=by decide):aN e c≠0:=by
 unfold aN;split;·exact a
 ·assumption
theorem aV(a:List ab)(e c:Int):∃r,ah a e c r:=by
 apply aaO 1;unfold tx tw;dsimp only;refine ac (λh=>aj ⟨_,_,_,_,rfl,rfl,?_⟩) (λh=>aj ⟨_,_,_,_,rfl,rfl,?_⟩)
 ·have h:e=0:=by simpa using h
  simp[jh,aN,h]
 ·have h:e≠0:=by simpa using h
  simp[jh,aN,h]
theorem zo(a:List ab)(e:Int)(t:ab)(h:a.length<=60):∃r,bD a e t r:=by
 apply abQ 1;unfold uG uE;refine ac (λb=>?_) (λb=>?_)
 ·have b:=of_decide_eq_true b;refine ag (aV _ _ _) ?_;rintro _ ⟨-,rfl⟩;refine aj ⟨_,_,_,_,rfl,rfl,?_⟩;show _=if 60<=a.length then _ else _
  rw[if_pos (by omega)]
 ·have b:=of_decide_eq_false b;refine vck ?_ (decide_eq_true (by simp only[Av,AA];omega));refine aj ⟨_,_,_,_,rfl,rfl,?_⟩;show _=if 60<=a.length then _ else _
  rw[if_neg (by omega)];have:IntKind.i64.wrap (((a++[t]).length:Int)-1)=(a.length:Int):=by rw[AD,Bh,ax _ (by omega)];omega
  rw[this]
theorem afU{a:List ab}{m:MS}{t:ab}(f:OfS a 0 m)(h:a.length<=60){r:Int×RS}(d:r=if 60<=a.length then (0,a,aN 0 3) else ((a.length:Int),a++[t],0)):AgI (aR m t) r:=by
 obtain⟨b,e, -⟩:=f.z;unfold aR;by_cases c:60<=a.length
 ·rw[if_pos c] at d;rw[if_pos (.inr (by rw[b];exact c))];subst d;refine⟨⟨h,?_,λh=>?_⟩,λ_=>rfl⟩;·simp[bF,e,b,c]
  ·exact absurd h (show aN 0 3≠0 by decide)
 ·rw[if_neg c] at d;rw[if_neg (by rw[b,e];simpa using c)];subst d;refine⟨⟨by simp;omega,e.symm,λ_=>by rw[<-b]⟩,λ_=>by rw[<-b]⟩
theorem afV(c:List ab)(e:Int)(s:List UInt8)(h:c.length<=60):∃r,bS c e s r:=by
 obtain⟨N,M⟩:∃N:Nat,N=100:=⟨_,rfl⟩
 apply aaQ N;unfold tA gP;refine a8 (λx=>match x with|(s',i,a,q)=>s'=s∧a=c∧q=e∧(0<=i∧i<=(c.length:Int))∧∀(j:Nat) t,(j:Int)<i->c[j]? =some t->t.name=s->¬(9<=t.kind∧t.kind<=11)) (λx=>((c.length:Int)-x.2.1).toNat) ?_ _ _ ⟨rfl,rfl,rfl,⟨by simp,by simp⟩,λj t p=>by omega⟩ (by simp;omega);rintro b ⟨s',i,a,q⟩ ⟨rfl,rfl,rfl,⟨I,O⟩,H⟩ v;dsimp only at v;unfold jY;dsimp only;refine ac (λd=>?_) (λd=>?_)
 ·have d:=of_decide_eq_true d;have m:i.toNat<a.length:=by omega
  have k:a[i.toNat]? =some (a.getD i.toNat (am .atype)):=by rw[Af,Ab m];rfl
  generalize a.getD i.toNat (am .atype)=t at k ⊢;have next:¬(t.name=s'∧9<=t.kind∧t.kind<=11)->∀Q,(∀y,(λx:List UInt8×Int×List ab×Int=>match x with|(G,i,g,C)=>G=s'∧g=a∧C=q∧(0<=i∧i<=(a.length:Int))∧∀(j:Nat) t,(j:Int)<i->a[j]? =some t->t.name=s'->¬(9<=t.kind∧t.kind<=11)) y->((a.length:Int)-y.2.1).toNat<((a.length:Int)-i).toNat->Tot (b y) Q)->Tot (b (s',IntKind.i64.wrap (i+1),a,q)) Q:=λA Q L=>by
   rw[ax (i+1) (by omega)];refine L _ ⟨rfl,rfl,rfl,⟨by omega,by omega⟩,λj u p F f=>?_⟩ (by simp only;omega);by_cases E:(j:Int)<i;·exact H j u E F f
   ·have:j=i.toNat:=by omega
    subst this;rw[k] at F;rw[<-Au F] at f ⊢
    exactλJ=>A ⟨f,J⟩
  refine vck ?_ (decide_eq_true (by omega));refine vck ?_ (by simp[I,d]);refine vck ?_ (decide_eq_true m);refine vck ?_ (BF _);refine ac (λw=>?_) (λw=>next (λo=>of_decide_eq_false w o.1) _ v);refine ac (λD=>?_) (λD=>next (λo=>of_decide_eq_false D o.2.1) _ v);refine ac (λB=>?_) (λB=>next (λo=>of_decide_eq_false B o.2.2) _ v);exact aj ⟨_,_,_,_,_,rfl,rfl,rfl,λ_=>⟨I,t,k,of_decide_eq_true w,of_decide_eq_true D,of_decide_eq_true B⟩,(λh=>(by cases h))⟩
 ·have d:=of_decide_eq_false d;refine aj ⟨_,_,_,_,_,rfl,rfl,rfl,(λh=>(by cases h)),λ_=>⟨rfl,λt k f=>?_⟩⟩;obtain⟨j,p⟩:=Cc k;exact H j t (by have:=(Ad.1 p).1;omega) p f
theorem wo{m:MS}(f:ec m){e:Int}{s:List UInt8}{r:Int×Bool×RS}(h:dh m.2.1 e s r):r.2.1=(aX (k:=.sn) m.1 s).isSome∧(r.2.1=true->aX (k:=.sn) m.1 s=some r.1):=by
 obtain⟨-,j,o⟩:=h;cases g:r.2.1 with
 |true=>obtain⟨u,t,c,d,q⟩:=j g;have a:=f.tok t (Ai c);have b:t.name≠[]:=a.named.2 q;have:=f.nm _ t c b;rw[d,Int.toNat_of_nonneg u] at this;rw[this];exact⟨rfl,λ_=>rfl⟩
 |false=>
  refine⟨?_,λh=>by cases h⟩;cases p:aX (k:=.sn) m.1 s with
  |none=>rfl
  |some i=>obtain⟨b,t,c,d⟩:=f.mn s i p;have a:=f.tok t (Ai c);exact absurd (a.named.1 (by rw[d];exact b)) ((o g).2 t (Ai c) d)
theorem ahw(s:List UInt8):(1<=oH s∧oH s<=8)↔(1<=bE ([]::b8) s∧bE ([]::b8) s<=8):=by unfold oH;split<;>omega
theorem alF(A:List ab)(s a:List UInt8)(h:A.length<=60)(hs:s.length<=1000000)(a1:a.length<=1000000):∃r,fF A 0 s a r:=by
 apply aaS 1000001;unfold tC gQ
 have fin:∀(x:Int)(t:List ab)(e:Int),(∀m,OfS A 0 m->AgI (dE m s a) (x,t,e))->Tot (some (.int .i64 x,[some [.ul .atype t,.int .i64 e]]):Ro) (λz=>∃(v:Int)(y:List ab)(u:Int)(rest:List ai),z.1.dimR=.int .i64 v∧z.2=some [.ul .atype y,.int .i64 u]::rest∧fJ A 0 s a (v,y,u)):=
  λx t e hx=>aj ⟨_,_,_,_,rfl,rfl,λ_=>hx⟩
 refine ag (aaq s) ?_;rintro _ ⟨-,rfl⟩;have q:¬(1<=oH s∧oH s<=8)->Tot (aO 1000001 (gj 1000001) (s,a,false,0,A,0)) (λz=>∃(v:Int)(y:List ab)(u:Int)(rest:List ai),z.1.dimR=.int .i64 v∧z.2=some [.ul .atype y,.int .i64 u]::rest∧fJ A 0 s a (v,y,u)):=by
  intro hk;have D:∀m,dE m s a=ga m s a:=λm=>by rw[dE,if_neg (λg=>hk ((ahw s).2 g))]
  refine a8 (λx=>match x with|(s',sp,b,i,d,e')=>s'=s∧sp=a∧d=A∧e'=0∧(0<=i∧i<=(s.length:Int))∧b=dq (s.take i.toNat) 46) (λx=>((s.length:Int)-x.2.2.2.1).toNat) ?_ _ _ ⟨rfl,rfl,rfl,rfl,⟨by simp,by simp⟩,rfl⟩ (by simp;omega);rintro X ⟨s',sp,b,i,d,e'⟩ ⟨rfl,rfl,rfl,rfl,⟨i1,i2⟩,Q⟩ Y;dsimp only at Y;unfold gj;dsimp only;refine ac (λE=>?_) (λE=>?_)
  ·have E:=of_decide_eq_true E;have L:i.toNat<s'.length:=by omega
   have ew:IntKind.i64.wrap (i+1)=i+1:=ax (i+1) (by omega);have G:s'.take (i+1).toNat=s'.take i.toNat++[s'.getD i.toNat 0]:=by rw[show (i+1).toNat=i.toNat+1 by omega,BH,Ab L,Af,Ab L];rfl
   rw[ew];refine ac (λc=>?_) (λc=>?_);·refine Y _ ⟨rfl,rfl,rfl,rfl,⟨by first|omega|(dsimp only;omega),by first|omega|(dsimp only;omega)⟩,?_⟩ (by simp only;omega);dsimp only;rw[G,aar,<-Q,c];rfl
   ·refine vck ?_ (ixt ⟨i1,E⟩);refine Y _ ⟨rfl,rfl,rfl,rfl,⟨by first|omega|(dsimp only;omega),by first|omega|(dsimp only;omega)⟩,?_⟩ (by simp only;omega);dsimp only;rw[G,aar,<-Q,c,BO,B5];simp only[beq_iff_eq];constructor;·intro hu;refine CQ.1 ?_;simpa using (by omega:(s'.getD i.toNat 0).toNat=46)
    ·intro hu;rw[hu];rfl
  ·have E:=of_decide_eq_false E;have hd:b=dq s' 46:=by rw[Q,Bv (by omega)]
   have j:(∀m,OfS d 0 m->ga m s' sp=(dv (k:=.sn) m.1 s',ak m (!(aX (k:=.sn) m.1 s').isSome) 4))->Tot (af (bS d 0 s') (λF=>
     cond (!F.2.1) (
      af (ah F.2.2.1 F.2.2.2 4) (λZ=>
       (some (.int .i64 Z.1,[some [.ul .atype Z.2.1,.int .i64 Z.2.2]]):Ro))) (
      some (.int .i64 F.1,[some [.ul .atype F.2.2.1,.int .i64 F.2.2.2]])))) (λz=>∃(v:Int)(y:List ab)(u:Int)(rest:List ai),z.1.dimR=.int .i64 v∧z.2=some [.ul .atype y,.int .i64 u]::rest∧fJ d 0 s' sp (v,y,u)):=by
    intro hn;refine ag (afV _ _ _ h) ?_;rintro r ⟨-,o⟩;have C:r.2.2=(d,0):=o.1;refine ac (λc=>?_) (λc=>?_)
    ·rw[C];refine ag (aV _ _ _) ?_;rintro _ ⟨-,rfl⟩;refine fin _ _ _ λm f=>?_
     obtain⟨B,N,M⟩:=f.z;have w:=wo (M rfl) (by rw[B];exact o);rw[D,hn m f];have R:(aX (k:=.sn) m.1 s').isSome=false:=by rw[<-w.1];simpa using c
     rw[R];exact⟨⟨h,by simp[bF,N],λW=>absurd W (show aN 0 4≠0 by decide)⟩,λW=>absurd W (show aN 0 4≠0 by decide)⟩
    ·have I:r.2.1=true:=by simpa using c
     clear c;obtain⟨r0,rb,rs⟩:=r;dsimp only at C I ⊢;subst C;refine fin _ _ _ λm f=>?_
     obtain⟨B,N,M⟩:=f.z;have w:=wo (M rfl) (by rw[B];exact o);have p:=w.2 I;rw[D,hn m f,p];exact⟨⟨h,by simp[bF,N],λ_=>B.symm⟩,λ_=>by rw[dv,p];rfl⟩
   refine ac (λc=>?_) (λc=>j λm f=>?_)
   ·have c:dq s' 46=false:=by rw[<-hd];simpa using c
    refine ac (λhp=>?_) (λhp=>j λm f=>?_)
    ·have hp:sp≠[]:=by simpa using hp
     refine vck ?_ (decide_eq_true (by simp only[Av,AA];omega));refine vck ?_ (decide_eq_true (by simp only[AD,Av,AA];omega));refine ag (afV _ _ _ h) ?_;rintro r ⟨-,o⟩;obtain⟨r0,rb,rs⟩:=r;obtain rfl:rs=(d,0):=o.1;dsimp only;refine ac (λO=>?_) (λO=>j λm f=>?_)
     ·refine fin _ _ _ λm f=>?_
      obtain⟨B,N,M⟩:=f.z;have w:=wo (M rfl) (by rw[B];exact o);have p:=w.2 O;rw[D,ga,if_pos ⟨hp,c,by rw[<-w.1];exact O⟩];exact⟨⟨h,N.symm,λ_=>B.symm⟩,λ_=>by rw[dv,p];rfl⟩
     ·have w:=wo (f.2 rfl).2 (by rw[(f.2 rfl).1];exact o);rw[ga,if_neg];rintro⟨-, -,g⟩;rw[<-w.1] at g;rw[O] at g;cases g
    ·have hp:sp=[]:=by simpa using hp
     rw[ga,if_neg (λg=>g.1 hp)]
   ·have c:dq s' 46=true:=by rw[<-hd];simpa using c
    rw[ga,if_neg (λg=>by rw[c] at g;cases g.2.1)]
 refine ac (λH=>?_) (λH=>q (λg=>of_decide_eq_false H g.1));refine ac (λJ=>?_) (λJ=>q (λg=>of_decide_eq_false J g.2));have H:=of_decide_eq_true H;have J:=of_decide_eq_true J;refine ag (zo _ _ _ h) ?_;rintro r ⟨-,o⟩;refine fin _ _ _ λm f=>?_
 have P:=(ahw s).1 ⟨H,J⟩;rw[dE,if_pos P];have S:oH s=bE ([]::b8) s:=by unfold oH;rw[if_neg (by omega)]
 refine afU f h ?_;rw[<-S];exact o
def lO:List aa->Int->Int
 | [],e=>e
 |x::l,e=>lO l (if x.kind=4 then e else aN e 2)
theorem tG:∀(l:List aa){e:Int},e≠0->lO l e=e
 | [],e,h=>rfl
 |x::l,e,h=>by rw[lO,eL h];simp only[ite_self];exact tG l h
theorem anM:∀(l:List aa)(m:MS),(rP l m).2.2.1 =lO l m.2.2.1
 | [],m=>rfl
 |x::l,m=>by
  rw[rP,anM l,lO,bF]
  congr 1
  by_cases h:x.kind=4<;>simp[h]
theorem wq(m:MS)(n:aa):(b9 m n).2.2.2.1 =lO n.l (if n.kind=5 then m.2.2.1 else aN m.2.2.1 2):=by
 show (rP n.l _).2.2.1 =_;rw[anM,bF]
 congr 1
 by_cases h:n.kind=5<;>simp[h]
theorem yp(D:List ab)(e:Int)(n:aa)(name:List UInt8)(R:aE n):∃r,bI D e n name r:=by
 obtain⟨N,hN⟩:∃N:Nat,N=100:=⟨_,rfl⟩
 apply zK N;unfold rZ gk;rw[bo];refine ag (jR n name (by have:=R.sizes;omega)) ?_;intro r1 h1;obtain rfl:r1=ao n name:=h1.2;have S:=(dK (s:=name) R).sizes;refine ac (λj=>aj ⟨_,_,_,_,_,rfl,rfl,?_⟩) (λj=>?_)
 ·have j:(ao n name).2 =false:=by simpa using j
  exact⟨rfl,j.symm,⟨by simp,by simp⟩,λ_=>⟨rfl,rfl⟩,(λh=>(by rw[j] at h;cases h))⟩
 have j:(ao n name).2 =true:=by simpa using j
 have o:∀q:Int,q=(if (ao n name).1.kind =5 then e else aN e 2)->Tot (aO N (fO N) ((ao n name).1,[],0,D,q)) (λz=>∃(Z:List (List UInt8))(y1:Bool)(W:List ab)(y3:Int)(rest:List ai),z.1.dimR=.tup [.sl .str (.may false) Z,.bool y1]∧z.2=some [.ul .atype W,.int .i64 y3]::rest∧c5 D e n name (Z,y1,W,y3)):=by
  intro q t;generalize hG:(ao n name).1 =G at t S;refine a8 (λx=>match x with|(b,a,i,c,k)=>b=G∧c=D∧(0<=i∧i<=(G.l.length:Int))∧((a.length:Int)<=i∧∀x∈a,x.length<=100)∧lO G.l q=lO (G.l.drop i.toNat) k∧(k=0->a=(G.l.take i.toNat).map aa.s)) (λx=>((G.l.length:Int)-x.2.2.1).toNat) ?_ _ _ ⟨rfl,rfl,⟨by simp,by simp⟩,⟨by simp,by simp⟩,by simp,λ_=>by simp⟩ (by simp;omega);rintro g ⟨b,a,i,c,k⟩ ⟨rfl,rfl,⟨E,i2⟩,⟨i3,Y⟩,M,X⟩ O;dsimp only at O;unfold fO;dsimp only;have fin:(k≠0∨i=(b.l.length:Int))->c5 c e n name (a,true,c,k):=by
   intro v;have A:lO b.l q=k:=by
    rw[M];rcases v with h|h;·exact tG _ h
    ·rw[h,AR,BZ];rfl
   refine⟨rfl,j.symm,⟨by dsimp only;omega,Y⟩,(λh=>(by rw[j] at h;cases h)),λ_ m hm=>?_⟩;rw[wq,hG,hm,<-t,A];refine⟨rfl,λI=>?_⟩;rcases v with h|h;·exact absurd I h
   ·show a=b.l.map aa.s;rw[X I,h,AR,C7]
  refine ac (λp=>?_) (λp=>aj ⟨_,_,_,_,_,rfl,rfl,fin (.inr (by have:=of_decide_eq_false p;omega))⟩);have p:=of_decide_eq_true p;have B:i.toNat<b.l.length:=by omega
  refine ac (λC=>?_) (λC=>aj ⟨_,_,_,_,_,rfl,rfl,fin (.inl (by simpa using C))⟩);have C:k=0:=by simpa using C
  have hd:=iZ (d:=(am .jnode:aa)) ⟨E,p⟩;have F:b.l.take (i+1).toNat=b.l.take i.toNat++[b.l.getD i.toNat (am .jnode)]:=by rw[show (i+1).toNat=i.toNat+1 by omega,BH,Ab B,Af,Ab B];rfl
  have P:aE (b.l.getD i.toNat (am .jnode)):=aE.getD S.2.2.2 _;have L:=P.sizes.1;rw[hd,lO] at M;have ew:IntKind.i64.wrap (i+1)=i+1:=ax (i+1) (by omega);rw[ew];have next:∀J:Int,J=(if (b.l.getD i.toNat (am .jnode)).kind=4 then k else aN k 2)->∀Q,(∀y,(λx:aa×List (List UInt8)×Int×List ab×Int=>match x with|(H,a,i,u,w)=>H=b∧u=c∧(0<=i∧i<=(b.l.length:Int))∧((a.length:Int)<=i∧∀x∈a,x.length<=100)∧lO b.l q=lO (b.l.drop i.toNat) w∧(w=0->a=(b.l.take i.toNat).map aa.s)) y->((b.l.length:Int)-y.2.2.1).toNat<((b.l.length:Int)-i).toNat->Tot (g y) Q)->Tot (g (b,a++[(b.l.getD i.toNat (am .jnode)).s],i+1,c,J)) Q:=λJ h2 Q hQ=>by
   refine hQ _ ⟨rfl,rfl,⟨by omega,by omega⟩,⟨by simp only[AD,Av,AA];omega,λx hx=>?_⟩,by rw[M,h2],λI=>?_⟩ (by simp only;omega)
   ·rcases Aw.1 hx with h|h;·exact Y x h
    ·rw[Az.1 h];exact L
   ·rw[F,BL,X C];rfl
  refine vck ?_ (ixt ⟨E,p⟩);refine ac (λf=>?_) (λf=>?_)
  ·have f:(b.l.getD i.toNat (am .jnode)).kind≠4:=by simpa using f
   refine ag (aV _ _ _) ?_;rintro _ ⟨-,rfl⟩;refine vck ?_ (ixt ⟨E,p⟩);refine vck ?_ (decide_eq_true (by simp only[Av,AA];omega));exact next _ (by rw[if_neg f]) _ O
  ·have f:(b.l.getD i.toNat (am .jnode)).kind=4:=by simpa using f
   refine vck ?_ (ixt ⟨E,p⟩);refine vck ?_ (decide_eq_true (by simp only[Av,AA];omega));exact next _ (by rw[if_pos f]) _ O
 refine ac (λf=>?_) (λf=>?_);·refine ag (aV _ _ _) ?_;rintro _ ⟨-,rfl⟩;exact o _ (by rw[if_neg (by simpa using f)])
 ·exact o _ (by rw[if_pos (by simpa using f)])
theorem aas(i:List ab)(e:Int)(n:aa)(name:List UInt8)(a:Bool)(f:n.names.length<=1000000):∃r,cu i e n name a r:=by
 apply aaV 1;unfold tE tD;rw[bo];refine ag (jR n name f) ?_;intro j g;obtain rfl:j=ao n name:=g.2;dsimp only;refine ac (λb=>?_) (λb=>?_)
 ·have b:(ao n name).2 =false:=by simpa using b
  refine ac (λd=>aj ⟨_,_,_,_,rfl,rfl,?_⟩) (λd=>?_)
  ·have d:a=false:=by simpa using d
   simp[d9,b,d]
  ·have d:a=true:=by simpa using d
   refine ac (λ_=>?_) (λh=>absurd h (by simp[b]));refine ag (aV _ _ _) ?_;rintro _ ⟨-,rfl⟩;exact aj ⟨_,_,_,_,rfl,rfl,by simp[d9,b,d]⟩
 ·have b:(ao n name).2 =true:=by simpa using b
  refine ac (λh=>absurd h (by simp[b])) (λ_=>?_);refine ac (λc=>?_) (λc=>?_)
  ·have c:(ao n name).1.kind ≠4:=by simpa using c
   refine ag (aV _ _ _) ?_;rintro _ ⟨-,rfl⟩;exact aj ⟨_,_,_,_,rfl,rfl,by simp[d9,b,c]⟩
  ·have c:(ao n name).1.kind =4:=by simpa using c
   exact aj ⟨_,_,_,_,rfl,rfl,by simp[d9,b,c]⟩
theorem agF(m:MS)(name a:List UInt8):(bJ m name a).2.2.2.1 =if (Go.Lib.split (bJ m name a).1 [46]).all cf=true then m.2.2.1 else aN m.2.2.1 6:=by show (ak m _ 6).2.2.1 =_;rw[bF,as9];show (if (!(Go.Lib.split (bJ m name a).1 [46]).all cf)=true then _ else _)=_;cases (Go.Lib.split (bJ m name a).1 [46]).all cf<;>simp
theorem ajK(C:List ab)(e:Int)(name a:List UInt8)(I:name.length<=400000)(J:a.length<=400000):∃r,cH C e name a r:=by
 apply zM 1000001;unfold sd gl;refine ag (ary _ _ (by omega) (by omega)) ?_;intro y f;have f:y=if a=[]∨name=[] then a++name else a++[46]++name:=f.2
 have H:y.length<=name.length+a.length+1:=by rw[f];split<;>simp only[AD,Av,AA]<;>omega
 refine a8 (λx=>match x with|(b,s,i,p,w)=>b=name∧p=C∧w=e∧(0<=i∧i<=(name.length:Int))∧s=if dq (name.take i.toNat) 46=true then name else y) (λx=>((name.length:Int)-x.2.2.1).toNat) ?_ _ _ ⟨rfl,rfl,rfl,⟨by simp,by simp⟩,by simp[ask]⟩ (by simp;omega);rintro A ⟨b,s,i,p,w⟩ ⟨rfl,rfl,rfl,⟨G,L⟩,v⟩ B;dsimp only at B;unfold ju;dsimp only;refine ac (λo=>?_) (λo=>?_)
 ·have o:=of_decide_eq_true o;have u:i.toNat<b.length:=by omega
  have F:IntKind.i64.wrap (i+1)=i+1:=ax (i+1) (by omega);have q:b.take (i+1).toNat=b.take i.toNat++[b.getD i.toNat 0]:=by rw[show (i+1).toNat=i.toNat+1 by omega,BH,Ab u,Af,Ab u];rfl
  rw[F];refine vck ?_ (ixt ⟨G,o⟩);refine ac (λg=>?_) (λg=>?_)
  ·have g:b.getD i.toNat 0=46:=by
    refine CQ.1 ?_;have:((b.getD i.toNat 0).toNat:Int)=46:=by simpa using g
    simpa using (by omega:(b.getD i.toNat 0).toNat=46)
   refine B _ ⟨rfl,rfl,rfl,⟨by first|omega|(dsimp only;omega),by first|omega|(dsimp only;omega)⟩,?_⟩ (by simp only;omega);dsimp only;rw[q,aar,g];simp
  ·have g:b.getD i.toNat 0≠46:=by
    intro E;rw[E] at g;simp at g
   refine B _ ⟨rfl,rfl,rfl,⟨by first|omega|(dsimp only;omega),by first|omega|(dsimp only;omega)⟩,?_⟩ (by simp only;omega);dsimp only;rw[q,aar,v];have:(b.getD i.toNat 0==46)=false:=by simpa using g
   rw[this,C6]
 ·have o:=of_decide_eq_false o;rw[Bv (by omega)] at v;have j:s.length<=b.length+a.length+1:=by
   rw[v];split<;>omega
  have D:∀m:MS,(bJ m b a).1 =if dq b 46=false∧a≠[] then a++[46]++b else b:=λ_=>rfl
  have bad:b=[]->∀m:MS,m.2.2.1=w->(bJ m b a).2.2.2.1 =aN w 6:=by
   intro c m k;rw[agF,k,if_neg];rw[D,c];by_cases d:a=[]
   ·rw[d];decide
   ·rw[if_pos ⟨rfl,d⟩,anu];intro t;have:=Al.1 t [] (by simpa using aqg a []);exact absurd this (by decide)
  have same:b≠[]->∀m:MS,(bJ m b a).1 =s:=by
   intro c m;rw[D,v,f];cases E:dq b 46 with
   |true=>simp
   |false=>
    by_cases d:a=[]
    ·simp[d]
    ·simp[d,c]
  refine ac (λc=>?_) (λc=>?_);·have c:=of_decide_eq_true c;refine ag (aV _ _ _) ?_;rintro _ ⟨-,rfl⟩;refine aj ⟨_,_,_,_,rfl,rfl,rfl,j,λm k=>⟨(bad c m k).symm,λh=>absurd h (da (by decide))⟩⟩
  ·have c:=of_decide_eq_false c;refine ag (aqr _ (by omega)) ?_;rintro _ ⟨-,rfl⟩;refine ac (λhp=>?_) (λhp=>?_);·refine ag (aV _ _ _) ?_;rintro _ ⟨-,rfl⟩;refine aj ⟨_,_,_,_,rfl,rfl,rfl,j,λm k=>⟨?_,λh=>absurd h (da (by decide))⟩⟩;rw[agF,same c,k,if_neg (by simpa using hp)]
   ·refine aj ⟨_,_,_,_,rfl,rfl,rfl,j,λm k=>⟨?_,λ_=>(same c m).symm⟩⟩;rw[agF,same c,k,if_pos (by simpa using hp)]
theorem aip:∀(l:List (List UInt8))(s:List UInt8),0<=bE l s↔s∈l
 | [],s=>by simp[bE]
 |x::l,s=>by
  have b:=aip l s;have c:=mI l s;rw[bE,AQ];by_cases h:x=s;·simp[h]
  ·rw[if_neg h];have a:¬s=x:=λe=>h e.symm
   simp only[a,false_or];rw[<-b];split<;>omega
def gA(s:List UInt8)(e:Int):Int:=if cf s=true then e else aN e 6
def aqs(a:List (List UInt8))(s:List UInt8)(e:Int):Int:=if s∈a then aN (gA s e) 5 else gA s e
def uO:List (List UInt8)->List (List UInt8)->Int->Int
 |_,[],e=>e
 |before,s::a,e=>uO (before++[s]) a (aqs before s e)
theorem s7{s:List UInt8}{e:Int}(h:e≠0):gA s e=e:=by unfold gA;rw[eL h];simp
theorem ata{b:List (List UInt8)}{s:List UInt8}{e:Int}(h:e≠0):aqs b s e=e:=by unfold aqs;rw[s7 h,eL h];simp
theorem ac5:∀(a b:List (List UInt8)){e:Int},e≠0->uO b a e=e
 | [],b,e,h=>rfl
 |s::a,b,e,h=>by rw[uO,ata h];exact ac5 a _ h
theorem apd:∀(a b:List (List UInt8))(m:MS),(lf b a m).2.2.1 =uO b a m.2.2.1
 | [],b,m=>rfl
 |s::a,b,m=>by
  rw[lf,apd a,uO,bF,bF]
  congr 1
  unfold aqs gA;simp only[decide_eq_true_eq,aip];cases cf s<;>simp
def ifE(b:Bool)(e c:Int):Int:=if b=true then aN e c else e
theorem zp{b:Bool}{e c:Int}(h:e≠0):ifE b e c=e:=by unfold ifE;rw[eL h];simp
def syL(n:aa):List (List UInt8):=(ao n [115,121,109,98,111,108,115]).1.l.map aa.s
def syT(n:aa):Int:=lO (ao n [115,121,109,98,111,108,115]).1.l (if (ao n [115,121,109,98,111,108,115]).1.kind =5 then ifE (!(ao n [115,121,109,98,111,108,115]).2) 0 2 else aN (ifE (!(ao n [115,121,109,98,111,108,115]).2) 0 2) 2)
def aa3(l:List (List UInt8))(e:Int):Int:=ifE (decide (30<l.length)) (ifE (decide (l.length=0)) e 6) 3
def syM(n:aa):Int:=uO [] (syL n) (aa3 (syL n) (syT n))
def syD(n:aa):aa×Bool:=ao n [100,101,102,97,117,108,116]
def syF(n:aa):Int:=if (syD n).2 =true then ifE (!decide (0<=bE (syL n) (syD n).1.s)) (ifE (!((syD n).1.kind ==4)) (syM n) 2) 6 else syM n
theorem ac6(m:MS)(n:aa)(h:m.2.2.1=0):(bP m n false []).2.2.2.1 =syF n∧(bP m n false []).1 =(syL n,(syD n).2,if (syD n).2 =true then (syD n).1.s else []):=by
 have d:(b9 (ak m (!(ao n [115,121,109,98,111,108,115]).2) 2) (ao n [115,121,109,98,111,108,115]).1).2.2.2.1 =syT n:=by rw[wq,bF,h];rfl
 have c:(lf [] (b9 (ak m (!(ao n [115,121,109,98,111,108,115]).2) 2) (ao n [115,121,109,98,111,108,115]).1).1 (ak (ak (b9 (ak m (!(ao n [115,121,109,98,111,108,115]).2) 2) (ao n [115,121,109,98,111,108,115]).1).2 (decide ((b9 (ak m (!(ao n [115,121,109,98,111,108,115]).2) 2) (ao n [115,121,109,98,111,108,115]).1).1.length =0)) 6) (decide (30<(b9 (ak m (!(ao n [115,121,109,98,111,108,115]).2) 2) (ao n [115,121,109,98,111,108,115]).1).1.length)) 3)).2.2.1 =syM n:=by rw[apd,bF,bF,d];rfl
 simp only[bP];by_cases a:(ao n [100,101,102,97,117,108,116]).2 =true
 ·rw[if_pos a];refine⟨?_,?_⟩
  ·rw[bF,bF,c];show _=if (syD n).2 =true then _ else _
   rw[if_pos (show (syD n).2 =true from a)];rfl
  ·rw[show (syD n).2 =true from a];rfl
 ·rw[if_neg a];have b:(syD n).2 =false:=by
   show (ao n [100,101,102,97,117,108,116]).2 =false;simpa using a
  refine⟨?_,?_⟩
  ·rw[c];show _=if (syD n).2 =true then _ else _
   rw[if_neg (show ¬(syD n).2 =true from a)]
  ·rw[b];rfl
theorem ac7{α:Type}{l:List α}{i:Nat}{x d:α}(h:l[i]? =some x):l.getD i d=x:=by rw[Af,h];rfl
theorem anN(ts:List ab)(n:aa)(j:Int)(hn:aE n)(J:0<=j∧j<(ts.length:Int)):∃r,bq ts 0 n j r:=by
 obtain⟨N,hN⟩:∃N:Nat,N=100:=⟨_,rfl⟩
 apply pS N;have bs:n.names.length<=1000000:=by have:=hn.sizes;omega
 unfold lL dP;rw[bo];refine ag (yp ts 0 n _ hn) ?_;rintro⟨l,e0,A,e1⟩ ⟨-,p1,p2,⟨p3,p4⟩,p5,p6⟩;dsimp only at p1 p2 p3 p4 p5 p6 ⊢;subst p1 p2;have eC:(l.length:Int)<=8:=by omega
 have G:∀(d:List UInt8)(e9:Int),(syF n=if (syD n).2 =true∧¬d∈l then aN e9 6 else e9)->(syF n=0->l=syL n∧d=if (syD n).2 =true then (syD n).1.s else [])->
   Tot (aO N (bp N) (j,l,(syD n).2,d,false,0,A,e9)) (λz=>∃(E:List ab)(D:Int)(rest:List ai),z.1.dimR=.tup []∧z.2=some [.ul .atype E,.int .i64 D]::rest∧aP A 0 n j (E,D)):=by
  intro d e9 hF L;refine a8 (λx=>match x with|(a,e,hs,d',b,i,c,w)=>a=j∧e=l∧hs=(syD n).2 ∧d'=d∧c=A∧w=e9∧(0<=i∧i<=(l.length:Int))∧b=decide (d∈l.take i.toNat)) (λx=>((l.length:Int)-x.2.2.2.2.2.1).toNat) ?_ _ _ ⟨rfl,rfl,rfl,rfl,rfl,rfl,⟨by simp,by simp⟩,by simp⟩ (by simp;omega);rintro R ⟨a,e,hs,d',b,i,c,w⟩ ⟨rfl,rfl,rfl,rfl,rfl,rfl,⟨i1,i2⟩,I⟩ ih;dsimp only at ih;have ew:i<(e.length:Int)->IntKind.i64.wrap (i+1)=i+1:=λh=>ax (i+1) (by omega)
  unfold bp;dsimp only;refine ac (λv=>?_) (λv=>?_)
  ·have v:=of_decide_eq_true v;have M:i.toNat<e.length:=by omega
   have ad:e.take (i+1).toNat=e.take i.toNat++[e.getD i.toNat (am .str)]:=by rw[show (i+1).toNat=i.toNat+1 by omega,BH,Ab M,Af,Ab M];rfl
   rw[ew v];refine ac (λy=>?_) (λy=>?_)
   ·refine ih _ ⟨rfl,rfl,rfl,rfl,rfl,rfl,⟨by first|omega|(dsimp only;omega),by first|omega|(dsimp only;omega)⟩,?_⟩ (by simp only;omega);have:d'∈e.take i.toNat:=by rw[y] at I;simpa using I.symm
    dsimp only;rw[ad];simp[this]
   ·refine vck ?_ (ixt ⟨i1,v⟩);refine ih _ ⟨rfl,rfl,rfl,rfl,rfl,rfl,⟨by first|omega|(dsimp only;omega),by first|omega|(dsimp only;omega)⟩,?_⟩ (by simp only;omega);have:¬d'∈e.take i.toNat:=by rw[y] at I;simpa using I.symm
    dsimp only;rw[ad,decide_eq_decide];simp only[Aw,this,false_or,Az];exact eq_comm
  ·have v:=of_decide_eq_false v;rw[Bv (by omega)] at I;have P:a.toNat<c.length:=by omega
   have ht:c[a.toNat]? =some (c.getD a.toNat (am .atype)):=by rw[Af,Ab P];rfl
   have b6:∀x:ab,(c.set a.toNat x).getD a.toNat (am .atype)=x:=λx=>ac7 (BG P)
   have F:∀g:Int,g=syF n->g≠0->aP c 0 n a (c,g):=λg h1 C=>⟨λh=>absurd rfl h,λ_=>⟨rfl,λm Z=>⟨h1.trans (ac6 m n Z).1.symm,λh=>absurd h C⟩⟩⟩
   have a0:∀(g:Int),g=syF n->g=0->aP c 0 n a (c.set a.toNat ⟨(c.getD a.toNat (am .atype)).kind,(c.getD a.toNat (am .atype)).name,(c.getD a.toNat (am .atype)).aliases,(c.getD a.toNat (am .atype)).items,e,(syD n).2,d',(c.getD a.toNat (am .atype)).size,(c.getD a.toNat (am .atype)).fields,(c.getD a.toNat (am .atype)).branches⟩,g):=by intro g h1 C;refine⟨λh=>absurd rfl h,λ_=>⟨by simp,λm Z=>⟨h1.trans (ac6 m n Z).1.symm,λ_ t dw=>?_⟩⟩⟩;rw[(ac6 m n Z).2];obtain⟨k1,k2⟩:=L (h1.symm.trans C);rw[ac7 dw];dsimp only;rw[<-k1,<-k2]
   have ae:∀g:Int,g=syF n->g=0->Tot (
     chk (decide (0<Aa c)) (
      chk ((decide (0<=a)&&decide (a<↑(Aa c)))) (
       chk (decide ((Ae a)<Aa c)) (
        let a1:=(AJ c (Ae a) (let p:=Ak c (Ae a) (am .atype);⟨p.kind,p.name,p.aliases,p.items,e,p.hasdef,p.df,p.size,p.fields,p.branches⟩))
        chk ((decide (0<=a)&&decide (a<↑(Aa c)))) (
         chk (decide ((Ae a)<Aa a1)) (
          let a5:=(AJ a1 (Ae a) (let p:=Ak a1 (Ae a) (am .atype);⟨p.kind,p.name,p.aliases,p.items,p.syms,(syD n).2,p.df,p.size,p.fields,p.branches⟩))
          chk ((decide (0<=a)&&decide (a<↑(Aa c)))) (
           chk (decide ((Ae a)<Aa a5)) (
            let bY:=(AJ a5 (Ae a) (let p:=Ak a5 (Ae a) (am .atype);⟨p.kind,p.name,p.aliases,p.items,p.syms,p.hasdef,d',p.size,p.fields,p.branches⟩))
            chk (As (Aa c) (Aa bY)) (
             (some (.tup [],[some [.ul .atype bY,.int .i64 g],none,none]):Ro)))))))))) (λz=>∃(E:List ab)(D:Int)(rest:List ai),z.1.dimR=.tup []∧z.2=some [.ul .atype E,.int .i64 D]::rest∧aP c 0 n a (E,D)):=by
    intro g h1 C;dsimp only;refine vck ?_ (decide_eq_true (by omega));refine vck ?_ (by simp[J.1,J.2]);refine vck ?_ (decide_eq_true P);refine vck ?_ (by simp[J.1,J.2]);refine vck ?_ (decide_eq_true (by simpa using P));refine vck ?_ (by simp[J.1,J.2]);refine vck ?_ (decide_eq_true (by simpa using P));refine vck ?_ (by simp);refine aj ⟨_,_,_,rfl,rfl,?_⟩;have:=a0 g h1 C;simpa only[Di,b6] using this
   refine ac (λhh=>?_) (λhh=>?_)
   ·refine ac (λy=>?_) (λy=>?_)
    ·have a2:¬d'∈e:=by
      have y:b=false:=by simpa using y
      rw[y] at I;simpa using I.symm
     rw[if_pos ⟨hh,a2⟩] at hF;refine ag (aV _ _ _) ?_;rintro _ ⟨-,rfl⟩;refine ac (λo=>absurd (by simpa using o) (da (by decide))) (λo=>aj ⟨_,_,_,rfl,rfl,F _ hF.symm (da (by decide))⟩)
    ·have a2:d'∈e:=by
      have y:b=true:=by simpa using y
      rw[y] at I;simpa using I.symm
     rw[if_neg (λh=>h.2 a2)] at hF;refine ac (λo=>ae _ hF.symm (by simpa using o)) (λo=>aj ⟨_,_,_,rfl,rfl,F _ hF.symm (by simpa using o)⟩)
   ·rw[if_neg (λh=>by rw[hh] at h;cases h.1)] at hF;refine ac (λo=>ae _ hF.symm (by simpa using o)) (λo=>aj ⟨_,_,_,rfl,rfl,F _ hF.symm (by simpa using o)⟩)
 have W:∀u:Int,uO [] l u=syM n->(u=0->l=syL n)->Tot (aO N (aW N) (j,n,l,0,A,u)) (λz=>∃(E:List ab)(D:Int)(rest:List ai),z.1.dimR=.tup []∧z.2=some [.ul .atype E,.int .i64 D]::rest∧aP A 0 n j (E,D)):=by
  intro u hM hL;refine a8 (λx=>match x with|(a,f,e,i,c,w)=>a=j∧f=n∧e=l∧c=A∧(0<=i∧i<=(l.length:Int))∧uO [] l u=uO (l.take i.toNat) (l.drop i.toNat) w∧(w=0->u=0)) (λx=>((l.length:Int)-x.2.2.2.1).toNat) ?_ _ _ ⟨rfl,rfl,rfl,rfl,⟨by simp,by simp⟩,by simp,id⟩ (by simp;omega);rintro R ⟨a,f,e,i,c,w⟩ ⟨rfl,rfl,rfl,rfl,⟨i1,i2⟩,I,i4⟩ ih;dsimp only at ih;unfold aW eG;dsimp only
  have go:(w≠0∨i=(e.length:Int))->Tot (af (aU (reJ f) ([100,101,102,97,117,108,116]:Bs)) (λd1=>
   af (cu c w (reJ f) ([100,101,102,97,117,108,116]:Bs) false) (λa4=>
    aO N (bp N) (a,e,d1.2,a4.1,false,0,a4.2.1,a4.2.2)))) (λz=>∃(E:List ab)(D:Int)(rest:List ai),z.1.dimR=.tup []∧z.2=some [.ul .atype E,.int .i64 D]::rest∧aP c 0 f a (E,D)):=by
   intro c3;have O:w=syM f:=by
    rw[<-hM,I];rcases c3 with h|h;·exact(ac5 _ _ h).symm
    ·rw[h,AR,BZ];rfl
   rw[bo];refine ag (jR f _ bs) ?_;rintro _ ⟨-,rfl⟩;refine ag (aas _ _ _ _ _ bs) ?_;rintro _ ⟨-,rfl⟩;show Tot (aO N (bp N) (a,e,(syD f).2,_,false,0,_,_)) _;have hl:syM f=0->e=syL f:=λh=>hL (i4 (O.trans h))
   have dp:∀x:Int,¬((ao f [100,101,102,97,117,108,116]).2 =false∧false=false)->(syD f).2 =true:=λ_ h=>by
    cases B:(syD f).2 with
    |true=>rfl
    |false=>exact absurd ⟨B,rfl⟩ h
   split
   ·rename_i h;have B:(syD f).2 =false:=h.1;refine G [] w ?_ ?_;·unfold syF;rw[B];simpa using O.symm
    ·unfold syF;rw[B];intro L;exact⟨hl (by simpa using L),by simp⟩
   ·rename_i h;have B:(syD f).2 =true:=dp 0 h;split
    ·rename_i C;have hk:(syD f).1.kind ≠4:=by
      rcases C with C|C;·rw[show (ao f [100,101,102,97,117,108,116]).2 =true from B] at C;cases C
      ·exact C
     have hf:syF f=aN w 2:=by
      unfold syF;rw[if_pos B];have:(!((syD f).1.kind ==4))=true:=by simpa using hk
      rw[this,<-O,show ifE true w 2=aN w 2 from rfl,zp (da (by decide))]
     refine G [] (aN w 2) ?_ (λL=>absurd (hf.symm.trans L) (da (by decide)));rw[hf];split;·rw[eL (da (by decide))]
     ·rfl
    ·rename_i C;have hk:(syD f).1.kind =4:=by
      by_cases hk:(syD f).1.kind =4;·exact hk
      ·exact absurd (.inr hk) C
     have hf:syF f=ifE (!decide (0<=bE (syL f) (syD f).1.s)) w 6:=by
      unfold syF;rw[if_pos B];have:(!((syD f).1.kind ==4))=false:=by simp[hk]
      rw[this,<-O];rfl
     refine G (syD f).1.s w ?_ (λL=>?_)
     ·rw[hf];by_cases o:w=0
      ·rw[<-hl (O.symm.trans o)];unfold ifE;have Z:=aip e (syD f).1.s;by_cases hi:(syD f).1.s ∈e;·rw[if_neg (by simp[Z.2 hi]),if_neg (λh=>h.2 hi)]
       ·rw[if_pos (by
         have:¬0<=bE e (syD f).1.s :=λh=>hi (Z.1 h)
         simp[this]),if_pos ⟨B,hi⟩]
      ·rw[zp o,eL o];simp
     ·have o:w=0:=by
       rw[hf] at L;by_cases o:w=0;·exact o
       ·rw[zp o] at L;exact L
      exact⟨hl (O.symm.trans o),by rw[if_pos B]⟩
  refine ac (λv=>?_) (λv=>go (.inr (by have:=of_decide_eq_false v;omega)));have v:=of_decide_eq_true v;have M:i.toNat<e.length:=by omega
  refine ac (λO=>?_) (λO=>go (.inl (by simpa using O)));have O:w=0:=by simpa using O
  have hd:=iZ (d:=(am .str:List UInt8)) ⟨i1,v⟩;have ad:e.take (i+1).toNat=e.take i.toNat++[e.getD i.toNat (am .str)]:=by rw[show (i+1).toNat=i.toNat+1 by omega,BH,Ab M,Af,Ab M];rfl
  have ds:(e.getD i.toNat (am .str)).length<=1000000:=by have:=p4 (e.getD i.toNat (am .str)) (by rw[Af,Ab M];exact AK _);omega
  rw[hd,uO] at I;refine vck ?_ (ixt ⟨i1,v⟩);refine ag (wY _ ds) ?_;rintro _ ⟨-,rfl⟩;have X:∀H:Int,H=gA (e.getD i.toNat (am .str)) w->Tot (aO N (dz N R) (a,f,e,i,0,c,H)) (λz=>∃(E:List ab)(D:Int)(rest:List ai),z.1.dimR=.tup []∧z.2=some [.ul .atype E,.int .i64 D]::rest∧aP c 0 f a (E,D)):=by
   intro H d0;refine a8 (λx=>match x with|(a',n2,S,i',k,b5,e4)=>a'=a∧n2=f∧S=e∧i=i'∧b5=c∧(0<=k∧k<=i)∧e4=if e.getD i.toNat (am .str)∈e.take k.toNat then aN H 5 else H) (λx=>(i-x.2.2.2.2.1).toNat) ?_ _ _ ⟨rfl,rfl,rfl,rfl,rfl,⟨by simp,i1⟩,by simp⟩ (by simp;omega);rintro cx ⟨a',n2,S,i',k,b5,e4⟩ ⟨rfl,rfl,rfl,rfl,rfl,⟨k1,k2⟩,k3⟩ a3;dsimp only at a3;unfold dz;dsimp only;refine ac (λQ=>?_) (λQ=>?_)
   ·have Q:=of_decide_eq_true Q;have b3:k.toNat<S.length:=by omega
    have al:S.take (k+1).toNat=S.take k.toNat++[S.getD k.toNat (am .str)]:=by rw[show (k+1).toNat=k.toNat+1 by omega,BH,Ab b3,Af,Ab b3];rfl
    have ew:IntKind.i64.wrap (k+1)=k+1:=ax (k+1) (by omega);rw[ew];refine vck ?_ (ixt ⟨k1,by omega⟩);refine vck ?_ (ixt ⟨i1,v⟩);refine ac (λB=>?_) (λB=>?_)
    ·have B:=of_decide_eq_true B;refine ag (aV _ _ _) ?_;rintro _ ⟨-,rfl⟩;refine a3 _ ⟨rfl,rfl,rfl,rfl,rfl,⟨by first|omega|(dsimp only;omega),by first|omega|(dsimp only;omega)⟩,?_⟩ (by simp only;omega);dsimp only;rw[al,if_pos (Aw.2 (.inr (Az.2 B.symm))),k3];split;·rw[eL (da (by decide))]
     ·rfl
    ·have B:=of_decide_eq_false B;refine a3 _ ⟨rfl,rfl,rfl,rfl,rfl,⟨by first|omega|(dsimp only;omega),by first|omega|(dsimp only;omega)⟩,?_⟩ (by simp only;omega);dsimp only;rw[al,k3];have:(S.getD i.toNat (am .str)∈S.take k.toNat++[S.getD k.toNat (am .str)])↔S.getD i.toNat (am .str)∈S.take k.toNat:=by
      rw[Aw,Az];exact⟨λh=>h.elim id (λh=>absurd h.symm B),.inl⟩
     simp only[this]
   ·have Q:=of_decide_eq_false Q;have c0:k=i:=by omega
    rw[c0] at k3;have ew:IntKind.i64.wrap (i+1)=i+1:=ax (i+1) (by omega);rw[ew];refine ih _ ⟨rfl,rfl,rfl,rfl,⟨by first|omega|(dsimp only;omega),by first|omega|(dsimp only;omega)⟩,?_,λ_=>i4 O⟩ (by simp only;omega);dsimp only;rw[I,ad,k3,d0];rfl
  refine ac (λhp=>?_) (λhp=>?_);·refine ag (aV _ _ _) ?_;rintro _ ⟨-,rfl⟩;refine X _ ?_;unfold gA;rw[if_neg (by simpa using hp)]
  ·refine X _ ?_;unfold gA;rw[if_pos (by simpa using hp)]
 have first:∀u:Int,u=syT n->(u=0->l=syL n)->Tot (cond ((l.length:Int)==0) (
     af (ah A u 6) (λr3=>
      cond (decide (30<(l.length:Int))) (
       af (ah r3.2.1 r3.2.2 3) (λr4=>
        aO N (aW N) (j,n,l,0,r4.2.1,r4.2.2))) (
       aO N (aW N) (j,n,l,0,r3.2.1,r3.2.2)))) (
     cond (decide (30<(l.length:Int))) (
      af (ah A u 3) (λb2=>
       aO N (aW N) (j,n,l,0,b2.2.1,b2.2.2))) (
      aO N (aW N) (j,n,l,0,A,u)))) (λz=>∃(E:List ab)(D:Int)(rest:List ai),z.1.dimR=.tup []∧z.2=some [.ul .atype E,.int .i64 D]::rest∧aP A 0 n j (E,D)):=by
  intro u C b0;have hM:∀H,H=aa3 l u->uO [] l H=syM n:=by
   rintro H rfl;unfold syM;rw[<-C];by_cases o:u=0;·rw[b0 o]
   ·have h3:∀q,aa3 q u=u:=λq=>by unfold aa3;rw[zp o,zp o]
    rw[h3,h3,ac5 _ _ o,ac5 _ _ o]
  have bx:∀H,H=aa3 l u->H=0->l=syL n:=by
   rintro H rfl L;refine b0 ?_;by_cases o:u=0;·exact o
   ·unfold aa3 at L;rw[zp o,zp o] at L;exact L
  refine ac (λv=>?_) (λv=>?_)
  ·have v:l.length=0:=by simpa using v
   refine ag (aV _ _ _) ?_;rintro _ ⟨-,rfl⟩;refine ac (λY=>absurd (of_decide_eq_true Y) (by omega)) (λY=>?_);have:aN u 6=aa3 l u:=by unfold aa3 ifE;rw[v];rfl
   exact W _ (hM _ this) (bx _ this)
  ·have v:¬l.length=0:=by simpa using v
   refine ac (λY=>absurd (of_decide_eq_true Y) (by omega)) (λY=>?_);have:u=aa3 l u:=by unfold aa3 ifE;rw[if_neg (by simp;omega),if_neg (by simpa using v)]
   exact W _ (hM _ this) (bx _ this)
 refine ac (λy=>?_) (λy=>?_)
 ·have y:(ao n [115,121,109,98,111,108,115]).2 =false:=by simpa using y
  refine ag (aV _ _ _) ?_;rintro _ ⟨-,rfl⟩;obtain⟨q1,q2⟩:=p5 y;have C:syT n=2:=by unfold syT;rw[y];show lO _ (if _ then (2:Int) else aN 2 2)=2;rw[show aN 2 2=2 from rfl];simp only[ite_self];exact tG _ (by decide)
  refine first _ ?_ (λh=>absurd h (da (by decide)))
  rw[C,q2];rfl
 ·have y:(ao n [115,121,109,98,111,108,115]).2 =true:=by simpa using y
  have Z:=p6 y m0 rfl;refine first _ ?_ (λh=>?_)
  ·rw[Z.1,wq];unfold syT;rw[y];rfl
  ·exact Z.2 h
theorem aoL(D:List ab)(e:Int)(n:aa)(g:Int)(u:e≠0)(O:aE n):∃r,bq D e n g r:=by
 obtain⟨N,hN⟩:∃N:Nat,N=100:=⟨_,rfl⟩
 apply pS N;have y:n.names.length<=1000000:=by have:=O.sizes;omega
 have fin:∀o,Tot (some (.tup [],some [.ul .atype D,.int .i64 e]::o):Ro) (λz=>∃(p:List ab)(q:Int)(rest:List ai),z.1.dimR=.tup []∧z.2=some [.ul .atype p,.int .i64 q]::rest∧aP D e n g (p,q)):=
  λo=>aj ⟨_,_,_,rfl,rfl,λ_=>rfl,λh=>absurd h u⟩
 unfold lL dP;rw[bo];refine ag (yp D e n _ O) ?_;rintro⟨l,ae,j,m⟩ ⟨-,S,Z,⟨p3,p4⟩,R,W⟩;dsimp only at S Z p3 p4 R W ⊢;obtain rfl:m=e:=by
  by_cases Q:(ao n [115,121,109,98,111,108,115]).2 =true;·have:=(W Q ([],[],e,0) rfl).1;rw[wq] at this;rw[this,eL u];simp only[ite_self];exact tG _ u
  ·exact(R (by simpa using Q)).2
 subst S;have an:(l.length:Int)<=8:=by omega
 have v:∀(Y:Bool)(d:List UInt8),Tot (aO N (bp N) (g,l,Y,d,false,0,j,m)) (λz=>∃(p:List ab)(q:Int)(rest:List ai),z.1.dimR=.tup []∧z.2=some [.ul .atype p,.int .i64 q]::rest∧aP j m n g (p,q)):=by
  intro Y d;refine a8 (λx=>match x with|(a,P,E,d',b,i,A,H)=>P=l∧A=j∧H=m∧(0<=i∧i<=(l.length:Int))) (λx=>((l.length:Int)-x.2.2.2.2.2.1).toNat) ?_ _ _ ⟨rfl,rfl,rfl,⟨by simp,by simp⟩⟩ (by simp;omega);rintro I ⟨a,P,E,d',b,i,A,H⟩ ⟨rfl,rfl,rfl,⟨i1,i2⟩⟩ L;dsimp only at L;unfold bp;dsimp only;refine ac (λt=>?_) (λt=>?_)
  ·have t:=of_decide_eq_true t;rw[ax (i+1) (by omega)];refine ac (λB=>?_) (λB=>?_);·exact L _ ⟨rfl,rfl,rfl,⟨by first|omega|(dsimp only;omega),by first|omega|(dsimp only;omega)⟩⟩ (by simp only;omega)
   ·refine vck ?_ (ixt ⟨i1,t⟩);exact L _ ⟨rfl,rfl,rfl,⟨by first|omega|(dsimp only;omega),by first|omega|(dsimp only;omega)⟩⟩ (by simp only;omega)
  ·have C:(H==0)=false:=by simpa using u
   refine ac (λhh=>?_) (λhh=>?_)
   ·refine ac (λB=>?_) (λB=>?_);·refine ag (aV _ _ _) ?_;rintro _ ⟨-,rfl⟩;dsimp only;rw[eL u];exact ac (λh=>absurd h (by rw[C];simp)) (λ_=>fin _)
    ·exact ac (λh=>absurd h (by rw[C];simp)) (λ_=>fin _)
   ·exact ac (λh=>absurd h (by rw[C];simp)) (λ_=>fin _)
 have f:Tot (aO N (aW N) (g,n,l,0,j,m)) (λz=>∃(p:List ab)(q:Int)(rest:List ai),z.1.dimR=.tup []∧z.2=some [.ul .atype p,.int .i64 q]::rest∧aP j m n g (p,q)):=by
  obtain⟨M,rfl⟩:∃M,N=M+1:=⟨N-1,by omega⟩
  show Tot (aW (M+1) (aO M (aW (M+1))) _) _;unfold aW eG;dsimp only
  have X:Tot (af (aU (reJ n) ([100,101,102,97,117,108,116]:Bs)) (λJ=>
   af (cu j m (reJ n) ([100,101,102,97,117,108,116]:Bs) false) (λw=>
    aO (M+1) (bp (M+1)) (g,l,J.2,w.1,false,0,w.2.1,w.2.2)))) (λz=>∃(p:List ab)(q:Int)(rest:List ai),z.1.dimR=.tup []∧z.2=some [.ul .atype p,.int .i64 q]::rest∧aP j m n g (p,q)):=by
   rw[bo];refine ag (jR n _ y) ?_;rintro _ ⟨-,rfl⟩;refine ag (aas _ _ _ _ _ y) ?_;intro r F;have F:r=_:=F.2;have:r.2=(j,m):=by
    rw[F];split;·rfl
    ·split;·rw[eL u]
     ·rfl
   rw[this];exact v _ _
  have C:(m==0)=false:=by simpa using u
  exact ac (λ_=>ac (λh=>absurd h (by rw[C];simp)) (λ_=>X)) (λ_=>X)
 have G:∀{c:Int},aN m c=m:=λ{c}=>eL u
 refine ac (λB=>?_) (λB=>?_)
 ·refine ag (aV _ _ _) ?_;rintro _ ⟨-,rfl⟩;dsimp only;rw[G];refine ac (λt=>?_) (λt=>?_);·refine ag (aV _ _ _) ?_;rintro _ ⟨-,rfl⟩;dsimp only;rw[G];exact ac (λk=>absurd (of_decide_eq_true k) (by omega)) (λ_=>f)
  ·exact ac (λk=>absurd (of_decide_eq_true k) (by omega)) (λ_=>f)
 ·refine ac (λt=>?_) (λt=>?_);·refine ag (aV _ _ _) ?_;rintro _ ⟨-,rfl⟩;dsimp only;rw[G];exact ac (λk=>absurd (of_decide_eq_true k) (by omega)) (λ_=>f)
  ·exact ac (λk=>absurd (of_decide_eq_true k) (by omega)) (λ_=>f)
def ac8(deep:Int):Prop:=∀(b:List ab)(e:Int)(n:aa)(a:List UInt8),(e=0->∃m,OfS b 0 m)->b.length<=60->aE n->(a.length:Int)<=300*deep->∃r,bb b e n a deep r
theorem fW(m:MS)(c:Int):ak m false c=m:=by obtain⟨a,b,e,d⟩:=m;simp[ak]
theorem Ag.of{a:MS}{r:RS}(h:Ag a r)(c:r.2=0->ec a):OfS r.1 r.2 a:=⟨h.2.1.symm,λb=>⟨(h.2.2 b).symm,c b⟩⟩
theorem OfS.deep{b:List ab}{e:Int}{m:MS}(h:OfS b e m)(d:Int):OfS b e (bZ m d):=⟨h.1,λa=>⟨(h.2 a).1,⟨(h.2 a).2.tok,(h.2 a).2.nm,(h.2 a).2.map,(h.2 a).2.mn⟩⟩⟩
theorem oX(d:Int):eP (aq d):=fU _
theorem asq(d:Int):TIn (aq d):=abn _
theorem alG(d:Int):aaE (aq d):=ahX _
theorem aat(d:Int):xp (aq d):=ahY _
theorem afW{T:TF}{a:List UInt8}{xs:List aa}{l:List Int}{b:List (List UInt8×Bool)}{m:MS}(h:m.2.2.1≠0):cg T a xs l b m=(l,m):=by
 cases xs with
 |nil=>rfl
 |cons x xs=>rw[cg,if_neg h]
theorem ape{a b:List ab}(h:Pre a b){i:Int}(d:0<=i∧i<(a.length:Int)):hY b i=hY a i:=by
 have e:=h.1;have c:b.getD i.toNat (am .atype)=a.getD i.toNat (am .atype):=by rw[Af,Af,h.2 _ (by omega)]
 unfold hY;rw[if_pos d,if_pos (by omega),c]
def atU(g:List ab)(n:aa)(a:List UInt8)(deep e:Int)(l:List Int)(i:Int)(d:List ab)(f:Int):Prop:=
 ∀m,OfS g 0 m->m.2.2.2=deep->∃(c:List (List UInt8×Bool))(m':MS),OfS d f m'∧m'.2.2.2=deep∧(f=0->(aR m (bk 14)).1 =e)∧
  cg (aq deep) a n.l [] [] (aR m (bk 14)).2 =cg (aq deep) a (n.l.drop i.toNat) l c m'∧
  (f=0->(∀x,dv (k:=.sb) c x=true↔∃b∈l,hY d b=x)∧∀b∈l,0<=b∧b<(d.length:Int))
theorem aqt(deep:Int)(hd:1<=deep∧deep<=20)(hT:ac8 (deep+1))(I:List ab)(n:aa)(a:List UInt8)(br:∃m,OfS I 0 m)(h:I.length<=60)(hn:aE n)(hs:(a.length:Int)<=300*deep):∃r,gM I 0 n a deep r:=by
 obtain⟨N,hN⟩:∃N:Nat,N=100:=⟨_,rfl⟩
 apply zE N;have e8:=hn.sizes.2.1;unfold rX gi
 have fin:∀(x:Int)(t:List ab)(e:Int)(o:List ai),(∀m,OfS I 0 m->m.2.2.2=deep->AgI (cP (aq deep) m n a) (x,t,e))->Tot (some (.int .i64 x,some [.ul .atype t,.int .i64 e]::o):Ro) (λz=>∃(X:Int)(S:List ab)(R:Int)(rest:List ai),z.1.dimR=.int .i64 X∧z.2=some [.ul .atype S,.int .i64 R]::rest∧dL I 0 n a deep (X,S,R)):=
  λx t e o hx=>aj ⟨_,_,_,_,rfl,rfl,λ_=>hx⟩
 refine ag (zo I 0 _ h) ?_;rintro D ⟨-,b0⟩;have O:∀m,OfS I 0 m->AgI (aR m (bk 14)) D:=λm C=>afU C h b0
 have W:D.2.1.length<=60:=by obtain⟨m,C⟩:=br;exact(O m C).1.1
 have uF:∀m,cP (aq deep) m n a=((aR m (bk 14)).1,if (cg (aq deep) a n.l [] [] (ak (aR m (bk 14)).2 (decide (n.l.length=0)) 6)).2.2.2.1 =0 then atT (cg (aq deep) a n.l [] [] (ak (aR m (bk 14)).2 (decide (n.l.length=0)) 6)).2 (aR m (bk 14)).1 (rQ · (cg (aq deep) a n.l [] [] (ak (aR m (bk 14)).2 (decide (n.l.length=0)) 6)).1) else (cg (aq deep) a n.l [] [] (ak (aR m (bk 14)).2 (decide (n.l.length=0)) 6)).2):=by intro m;simp only[cP];rw[show decide (30<n.l.length)=false from decide_eq_false (by omega),fW]
 refine ac (λhc=>?_) (λhc=>?_)
 ·have hc:n.l.length=0:=by simpa using hc
  refine ag (aV _ _ _) ?_;rintro _ ⟨-,rfl⟩;refine fin _ _ _ _ λm C w=>?_
  have ey:n.l=[]:=List.length_eq_zero_iff.1 hc;have F:(ak (aR m (bk 14)).2 (decide (n.l.length=0)) 6).2.2.1 =aN D.2.2 6:=by rw[bF,if_pos (by simp[hc]),(O m C).1.2.1]
  rw[uF,afW (by rw[F];exact da (by decide)),if_neg (by rw[F];exact da (by decide))];exact⟨⟨W,F.symm,λh=>absurd h (da (by decide))⟩,λh=>absurd h (da (by decide))⟩
 have hc:n.l.length≠0:=by simpa using hc
 have Y:∀m,cP (aq deep) m n a=((aR m (bk 14)).1,if (cg (aq deep) a n.l [] [] (aR m (bk 14)).2).2.2.2.1 =0 then atT (cg (aq deep) a n.l [] [] (aR m (bk 14)).2).2 (aR m (bk 14)).1 (rQ · (cg (aq deep) a n.l [] [] (aR m (bk 14)).2).1) else (cg (aq deep) a n.l [] [] (aR m (bk 14)).2).2):=by intro m;rw[uF,show decide (n.l.length=0)=false from decide_eq_false hc,fW]
 refine ac (λc4=>absurd (of_decide_eq_true c4) (by omega)) (λc4=>?_);have b1:atU I n a deep D.1 [] 0 D.2.1 D.2.2:=by intro m C w;refine⟨[],(aR m (bk 14)).2,(O m C).1.of λA=>?_,(mP m _).dep.trans w,λA=>((O m C).2 A).symm,by simp,λ_=>⟨λx=>by simp[dv,aX,MK.zero],by simp⟩⟩;exact(abo (C.2 rfl).2 (by rw[<-(O m C).1.2.1];exact A) (by decide) (by decide) rfl rfl rfl rfl).1
 have b5:D.2.2=0->0<=D.1∧D.1<(D.2.1.length:Int):=by intro A;obtain⟨m,C⟩:=br;have ha:=O m C;have:=yM (m:=m) (t:=bk 14) (a6.refl _) (by rw[<-ha.1.2.1];exact A);rw[ha.2 A,ha.1.2.2 A];exact this
 clear b0;refine a8 (λx=>match x with|(sp,u,L,a',l,i,q,e')=>sp=a∧u=deep∧L=n∧a'=D.1∧(0<=i∧i<=(n.l.length:Int))∧q.length<=60∧(l.length:Int)<=i∧atU I n a deep D.1 l i q e'∧(e'=0->0<=D.1∧D.1<(q.length:Int))) (λx=>((n.l.length:Int)-x.2.2.2.2.2.1).toNat) ?_ _ _ ⟨rfl,rfl,rfl,rfl,⟨by simp,by simp⟩,W,by simp,b1,b5⟩ (by simp;omega);rintro d1 ⟨sp,u,L,a',l,i,q,e'⟩ ⟨rfl,rfl,rfl,rfl,⟨i1,i2⟩,i3,i4,hU,hr⟩ ih;dsimp only at ih;unfold jo iC;dsimp only;have bad:e'≠0->∀(x:Int)(o:List ai),Tot (some (.int .i64 x,some [.ul .atype q,.int .i64 e']::o):Ro) (λz=>∃(X:Int)(S:List ab)(R:Int)(rest:List ai),z.1.dimR=.int .i64 X∧z.2=some [.ul .atype S,.int .i64 R]::rest∧dL I 0 L sp u (X,S,R)):=by
  intro F x o;refine fin _ _ _ _ λm C w=>?_
  obtain⟨c,m',p, -, -,E, -⟩:=hU m C w;have Z:m'.2.2.1≠0:=by rw[p.1];exact F
  rw[Y,E,afW Z,if_neg Z];exact⟨⟨i3,p.1.symm,λh=>absurd h F⟩,λh=>absurd h F⟩
 have done:e'=0->i=(L.l.length:Int)->Tot (
   chk (decide (0<Aa q)) (
    chk ((decide (0<=D.1)&&decide (D.1<↑(Aa q)))) (
     chk (decide ((Ae D.1)<Aa q)) (
      let cv:=(AJ q (Ae D.1) (let e_:=Ak q (Ae D.1) (am .atype);⟨e_.kind,e_.name,e_.aliases,e_.items,e_.syms,e_.hasdef,e_.df,e_.size,e_.fields,l⟩))
      chk (As (Aa q) (Aa cv)) (
       (some (.int .i64 D.1,[some [.ul .atype cv,.int .i64 e'],none,none]):Ro)))))) (λz=>∃(X:Int)(S:List ab)(R:Int)(rest:List ai),z.1.dimR=.int .i64 X∧z.2=some [.ul .atype S,.int .i64 R]::rest∧dL I 0 L sp u (X,S,R)):=by
  intro F hi;have ci:=hr F;refine vck ?_ (decide_eq_true (by omega));refine vck ?_ (by simp[ci.1,ci.2]);refine vck ?_ (decide_eq_true (by omega));refine vck ?_ (by simp);refine fin _ _ _ _ λm C w=>?_
  obtain⟨c,m',p, -,M,E, -⟩:=hU m C w;rw[hi,AR,BZ] at E;have E:cg (aq u) sp L.l [] [] (aR m (bk 14)).2 =(l,m'):=E;rw[Y,E,if_pos (p.1.trans F),M F];refine⟨⟨by simpa using i3,p.1.symm,λ_=>?_⟩,λ_=>rfl⟩;show _=m'.2.1.set _ _;rw[(p.2 F).1];rfl
 refine ac (λH=>?_) (λH=>?_)
 ·have H:=of_decide_eq_true H;have e7:i.toNat<L.l.length:=by omega
  refine ac (λF=>?_) (λF=>?_)
  ·have F:e'=0:=by simpa using F
   subst F;have bn:=iZ (d:=(am .jnode:aa)) ⟨i1,H⟩;have bl:aE (L.l.getD i.toNat (am .jnode)):=aE.getD hn.sizes.2.2.2 _;generalize hx:L.l.getD i.toNat (am .jnode)=x at bn bl;have ed:IntKind.i64.wrap (u+1)=u+1:=ax (u+1) (by omega);obtain⟨b6,a0⟩:=br;obtain⟨-,w0,ae,d3, -⟩:=hU (bZ b6 u) (a0.deep u) rfl;refine vck ?_ (ixt ⟨i1,H⟩);rw[bo,ed];refine ag (hT q 0 x sp (λ_=>⟨w0,ae⟩) i3 bl (by omega)) ?_;rintro f ⟨-,h4⟩;have h4:∀m',OfS q 0 m'->m'.2.2.2=u->AgI (aq u m' x sp) f:=by
    intro m' q1 q2;have:=h4 m' q1 (by rw[q2];omega)
    rwa [show u+1-1=u by omega] at this
   have g4:=h4 w0 ae d3;refine ac (λA=>?_) (λA=>?_)
   ·have A:f.2.2≠0:=by simpa using A
    refine fin _ _ _ _ λm C w=>?_
    obtain⟨c,m',p,G, -,E, -⟩:=hU m C w;have g:=h4 m' p G;have P:(aq u m' x sp).2.2.2.1 ≠0:=by rw[<-g.1.2.1];exact A
    rw[bn,cg,if_pos p.1] at E;dsimp only at E;rw[if_neg P] at E;rw[Y,E,if_neg P];exact⟨⟨g.1.1,g.1.2.1,λh=>absurd h A⟩,λh=>absurd h A⟩
   have A:f.2.2=0:=by simpa using A
   have a4:0<=f.1∧f.1<(f.2.1.length:Int):=by have:=asq u w0 x sp (by rw[<-g4.1.2.1];exact A) (ae.2 rfl).2.map;rw[g4.2 A,g4.1.2.2 A];exact this
   have eC:q.length<=f.2.1.length:=by have:=(aat u w0 x sp).1;rw[g4.1.2.2 A,<-(ae.2 rfl).1];exact this
   have c3:=g4.1.1;refine vck ?_ (decide_eq_true (by omega));refine vck ?_ (by simp[a4.1,a4.2]);refine vck ?_ (decide_eq_true (by omega));refine vck ?_ (BF _)
   have step:∀m,OfS I 0 m->m.2.2.2=u->∃(c:List (List UInt8×Bool))(m':MS),OfS f.2.1 0 m'∧m'.2.2.2=u∧(aR m (bk 14)).1 =D.1∧
     cg (aq u) sp L.l [] [] (aR m (bk 14)).2 =cg (aq u) sp (L.l.drop (i+1).toNat) (l++[f.1]) (cm (k:=.sb) c (hY f.2.1 f.1) true) (ak m' ((f.2.1.getD f.1.toNat (am .atype)).kind==14||dv (k:=.sb) c (hY f.2.1 f.1)) 6)∧
     (∀x,dv (k:=.sb) c x=true↔∃b∈l,hY f.2.1 b=x)∧∀b∈l,0<=b∧b<(q.length:Int):=by
    intro m C w;obtain⟨c,m',p,G,M,E,a2⟩:=hU m C w;have g:=h4 m' p G;have P:(aq u m' x sp).2.2.2.1 =0:=by rw[<-g.1.2.1];exact A
    rw[bn,cg,if_pos p.1] at E;dsimp only at E;rw[if_pos P,<-g.1.2.2 A,<-g.2 A] at E;have hP:=aat u m' x sp;rw[(p.2 rfl).1,<-g.1.2.2 A] at hP;obtain⟨t1,t2⟩:=a2 rfl;refine⟨c,(aq u m' x sp).2,⟨P,λ_=>⟨(g.1.2.2 A).symm,(alG u m' x sp bl (p.2 rfl).2 P).1⟩⟩,((oX u m' x sp).dep).trans G,M rfl,E,λy=>?_,t2⟩;rw[t1];constructor;·rintro⟨b,B,e⟩;exact⟨b,B,(ape hP (t2 b B)).trans e⟩
    ·rintro⟨b,B,e⟩;exact⟨b,B,(ape hP (t2 b B)).symm.trans e⟩
   have Q:(∀m,OfS I 0 m->m.2.2.2=u->∀c:List (List UInt8×Bool),(∀x,dv (k:=.sb) c x=true↔∃b∈l,hY f.2.1 b=x)->((f.2.1.getD f.1.toNat (am .atype)).kind==14||dv (k:=.sb) c (hY f.2.1 f.1))=true)->
     ∀(y:Int)(o:List ai),Tot (some (.int .i64 y,some [.ul .atype f.2.1,.int .i64 (aN f.2.2 6)]::o):Ro) (λz=>∃(X:Int)(S:List ab)(R:Int)(rest:List ai),z.1.dimR=.int .i64 X∧z.2=some [.ul .atype S,.int .i64 R]::rest∧dL I 0 L sp u (X,S,R)):=by
    intro b3 y o;refine fin _ _ _ _ λm C w=>?_
    obtain⟨c,m',p,G,M,E,t1, -⟩:=step m C w;have B:=b3 m C w c t1;have a3:(ak m' ((f.2.1.getD f.1.toNat (am .atype)).kind==14||dv (k:=.sb) c (hY f.2.1 f.1)) 6).2.2.1 =aN f.2.2 6:=by rw[bF,if_pos B,p.1,A]
    have an:aN f.2.2 6≠0:=da (by decide);rw[Y,E,afW (by rw[a3];exact an),if_neg (by rw[a3];exact an)];exact⟨⟨c3,a3.symm,λh=>absurd h an⟩,λh=>absurd h an⟩
   refine ac (λhk=>?_) (λhk=>?_);·refine ag (aV _ _ _) ?_;rintro _ ⟨-,rfl⟩;exact Q (λm _ _ c _=>by rw[hk];rfl) _ _
   have e6:∀b∈l,0<=b∧b<(q.length:Int):=by obtain⟨c,m', -, -, -, -,a2⟩:=hU (bZ b6 u) (a0.deep u) rfl;exact(a2 rfl).2
   refine a8 (λx=>match x with|(b4,c0,n2,a',l',i',v,k,cy,e2)=>b4=sp∧c0=u∧n2=L∧a'=D.1∧l'=l∧i=i'∧v=f.1∧cy=f.2.1∧e2=f.2.2∧(0<=k∧k<=(l.length:Int))∧∀(j:Nat) b,(j:Int)<k->l[j]? =some b->hY f.2.1 b≠hY f.2.1 f.1) (λx=>((l.length:Int)-x.2.2.2.2.2.2.2.1).toNat) ?_ _ _ ⟨rfl,rfl,rfl,rfl,rfl,rfl,rfl,rfl,rfl,⟨by simp,by simp⟩,λj b hj=>by omega⟩ (by simp;omega);rintro dk ⟨b4,c0,n2,a',l',i',v,k,cy,e2⟩ ⟨rfl,rfl,rfl,rfl,rfl,rfl,rfl,rfl,rfl,⟨k1,k2⟩,k3⟩ cx;dsimp only at cx;unfold fN;dsimp only;refine ac (λJ=>?_) (λJ=>?_)
   ·have J:=of_decide_eq_true J;have d0:k.toNat<l'.length:=by omega
    have B:l'[k.toNat]? =some (l'.getD k.toNat (am (.num .i64))):=by rw[Af,Ab d0];rfl
    refine vck ?_ (decide_eq_true (by omega));refine vck ?_ (ixt ⟨k1,J⟩);refine akc (by simp) (anL _ _) ?_;rintro _ ⟨-,rfl⟩;refine akc (by simp) (anL _ _) ?_;rintro _ ⟨-,rfl⟩;refine vck ?_ (BF _);refine ac (λhq=>?_) (λhq=>?_);·have hq:=of_decide_eq_true hq;refine ag (aV _ _ _) ?_;rintro _ ⟨-,rfl⟩;refine Q (λm _ _ c ht=>?_) _ _;rw[(ht _).2 ⟨_,Ai B,hq⟩];simp
    ·have hq:=of_decide_eq_false hq;rw[ax (k+1) (by omega)];refine cx _ ⟨rfl,rfl,rfl,rfl,rfl,rfl,rfl,rfl,rfl,⟨by first|omega|(dsimp only;omega),by first|omega|(dsimp only;omega)⟩,λj b hj a9=>?_⟩ (by simp only;omega);by_cases ea:(j:Int)<k;·exact k3 j b ea a9
     ·have:j=k.toNat:=by dsimp only at hj;omega
      subst this;rw[B] at a9;rw[<-Au a9];exact hq
   ·have J:=of_decide_eq_false J;refine vck ?_ (decide_eq_true (by simp only[Av,AA];omega));rw[ax (i+1) (by omega)];refine ih _ ⟨rfl,rfl,rfl,rfl,⟨by first|omega|(dsimp only;omega),by first|omega|(dsimp only;omega)⟩,c3,by simp only[AD,Av,AA];omega,?_,λ_=>by have:=hr rfl;dsimp only;omega⟩ (by simp only;omega);intro m C w;obtain⟨c,m',p,G,M,E,t1,t2⟩:=step m C w;have dw:dv (k:=.sb) c (hY f.2.1 f.1)=false:=by
     cases hq:dv (k:=.sb) c (hY f.2.1 f.1) with
     |false=>rfl
     |true=>obtain⟨b,B,e⟩:=(t1 _).1 hq;obtain⟨j,hj⟩:=Cc B;exact absurd e (k3 j b (by have:=(Ad.1 hj).1;omega) hj)
    rw[hk,dw,C6,fW] at E;refine⟨_,m',⟨p.1.trans A.symm,λ_=>p.2 rfl⟩,G,λ_=>M,E,λ_=>⟨λy=>?_,λb B=>?_⟩⟩
    ·rw[dv,mA];constructor
     ·intro hy;split at hy;·rename_i e;exact⟨f.1,by simp,e⟩
      ·obtain⟨b,B,e⟩:=(t1 y).1 hy;exact⟨b,by simp[B],e⟩
     ·rintro⟨b,B,e⟩;split;·rfl
      ·rename_i Z;rcases Aw.1 B with B|B;·exact(t1 y).2 ⟨b,B,e⟩
       ·rw[Az.1 B] at e;exact absurd e Z
    ·rcases Aw.1 B with B|B;·have:=t2 b B;dsimp only;omega
     ·rw[Az.1 B];exact a4
  ·exact ac (λhz=>absurd hz (by rw[F];simp)) (λ_=>bad (by simpa using F) _ _)
 ·have H:=of_decide_eq_false H;refine ac (λhz=>done (by simpa using hz) (by omega)) (λhz=>bad (by simpa using hz) _ _)
theorem ab9{n:aa}{s:List UInt8}(h:(ao n s).2 =false):(ao n s).1 =.mk 0 0 [] [] []:=by
 unfold ao at h ⊢;split at h
 ·rename_i a;rw[if_pos a];cases b:fa n.names n.l s with
  |none=>rfl
  |some c=>rw[b] at h;cases h
 ·rename_i a;rw[if_neg a];rfl
def qM:List (List UInt8)->Int->Int
 | [],e=>e
 |s::a,e=>qM a (gA s e)
theorem wZ:∀(a:List (List UInt8)){e:Int},e≠0->qM a e=e
 | [],e,h=>rfl
 |s::a,e,h=>by rw[qM,s7 h];exact wZ a h
theorem ajL(m:MS)(s:List UInt8):(ak m (!cf s) 6).2.2.1 =gA s m.2.2.1:=by rw[bF];unfold gA;cases cf s<;>simp
theorem aiq:∀(a l:List (List UInt8))(m:MS),(dr fb a l m).2.2.2.1 =qM a m.2.2.1∧((dr fb a l m).2.2.2.1 =0->(dr fb a l m).1 =l++a)
 | [],l,m=>⟨rfl,λ_=>by simp[dr]⟩
 |s::a,l,m=>by
  rw[dr,qM];split;·have c:=aiq a (l++[(fb m s).1]) (fb m s).2;have d:(fb m s).2.2.2.1 =gA s m.2.2.1:=ajL m s;rw[d] at c;refine⟨c.1,λh=>?_⟩;rw[c.2 h];show l++[s]++a=_;simp
  ·rename_i b;have c:=aiq a l m;rw[s7 b];refine⟨c.1,λh=>?_⟩;rw[c.1,wZ a b] at h;exact absurd h b
theorem asr{o:List ab}{e:Int}{n:aa}{r:List (List UInt8)×Bool×RS}(h:c5 o e n [97,108,105,97,115,101,115] r)(m:MS)(j:m.2.2.1=e):
  (az fb m n).2.2.2.1 =qM r.1 r.2.2.2∧(qM r.1 r.2.2.2=0->(az fb m n).1 =r.1):=by
 obtain⟨-, -, -,k,p⟩:=h;simp only[az];by_cases b:(ao n [97,108,105,97,115,101,115]).2 =true
 ·rw[if_pos b];obtain⟨f,d⟩:=p b m j;obtain⟨a,i⟩:=aiq (b9 m (ao n [97,108,105,97,115,101,115]).1).1 [] (b9 m (ao n [97,108,105,97,115,101,115]).1).2;rw[<-f] at a;by_cases c:r.2.2.2=0;·rw[<-d c] at a i ⊢;refine⟨a,λg=>?_⟩;rw[i (by rw[a];exact g)];simp
  ·rw[wZ _ c] at a;rw[wZ _ c];exact⟨a,λg=>absurd g c⟩
 ·rw[if_neg b];obtain⟨f,d⟩:=k (by simpa using b);rw[f,d];exact⟨j,λ_=>rfl⟩
def oY(m:MS)(x:aa)(names:List (List UInt8×Bool)):MS:=
 ak (ak (ak (ak m (!((ao x [110,97,109,101]).1.kind ==4)) 2) (!cf (ao x [110,97,109,101]).1.s) 6) (dv (k:=.sb) names (ao x [110,97,109,101]).1.s) 5) (!(ao x [116,121,112,101]).2) 2
theorem alH(m:MS)(x:aa)(names:List (List UInt8×Bool)):a6 m (oY m x names):=(((ay m _ 2).trans (ay _ _ 6)).trans (ay _ _ 5)).trans (ay _ _ 2)
theorem alI(m:MS)(x:aa)(names:List (List UInt8×Bool)):je m (oY m x names):=(((bA m _ 2).trans (bA _ _ 6)).trans (bA _ _ 5)).trans (bA _ _ 2)
theorem arz(T:TF)(m:MS)(x:aa)(names:List (List UInt8×Bool))(a:List UInt8)(b:x.kind=6):
  cZ T m x names a=(⟨(ao x [110,97,109,101]).1.s,(az fb (T (oY m x names) (ao x [116,121,112,101]).1 a).2 x).1,(T (oY m x names) (ao x [116,121,112,101]).1 a).1,(ao x [100,101,102,97,117,108,116]).2,(ao x [100,101,102,97,117,108,116]).1⟩,
   (az fb (T (oY m x names) (ao x [116,121,112,101]).1 a).2 x).2,cm (k:=.sb) names (ao x [110,97,109,101]).1.s true):=by
 have c:ak m (!(x.kind==6)) 2=m:=by rw[show (!(x.kind==6))=false from by simp[b],fW]
 simp only[cZ,c];rfl
theorem yq{T:TF}{a:List UInt8}{l:List aA}{names:List (List UInt8×Bool)}{m:MS}(h:m.2.2.1≠0):∀xs:List aa,cp T a xs l names m=(l,m)
 | []=>rfl
 |x::xs=>by rw[cp,if_neg h];exact yq h xs
def at6(h:List ab)(g:aa)(a:List UInt8)(deep:Int)(c:List aA)(i:Int)(d:List ab)(e:Int):Prop:=
 ∀m,OfS h 0 m->m.2.2.2=deep->∃(b:List aA)(names:List (List UInt8×Bool))(m':MS),OfS d e m'∧m'.2.2.2=deep∧
  cp (aq deep) a g.l [] [] m=cp (aq deep) a (g.l.drop i.toNat) b names m'∧
  (e=0->b=c∧∀x,dv (k:=.sb) names x=true↔∃f∈c,f.name=x)
theorem aoM(deep:Int)(hd:1<=deep∧deep<=20)(hT:ac8 (deep+1))(ts:List ab)(n:aa)(O:Int)(a:List UInt8)(ht:∃m,OfS ts 0 m)(h:ts.length<=60)(fn:0<=O∧O<(ts.length:Int))(hn:aE n)(hs:(a.length:Int)<=300*(deep+1)):∃r,bB ts 0 n O a deep r:=by
 obtain⟨N,hN⟩:∃N:Nat,N=100:=⟨_,rfl⟩
 apply qE N;have gy:n.names.length<=1000000:=by have:=hn.sizes;omega
 unfold mf eb
 have fin:∀(t:List ab)(e:Int)(o:List ai),(∀m,OfS ts 0 m->m.2.2.2=deep->t.length<=60∧e=(bX (aq deep) m [] n a).2.2.2.1 ∧
  (e=0->∀u,(bX (aq deep) m [] n a).2.2.1[O.toNat]? =some u->t=(bX (aq deep) m [] n a).2.2.1.set O.toNat {u with fields:=(bX (aq deep) m [] n a).1}))->
  Tot (some (.tup [],some [.ul .atype t,.int .i64 e]::o):Ro) (λz=>∃(L:List ab)(J:Int)(rest:List ai),z.1.dimR=.tup []∧z.2=some [.ul .atype L,.int .i64 J]::rest∧bm ts 0 n O a deep (L,J)):=
  λt e o hx=>aj ⟨_,_,_,rfl,rfl,λh=>absurd rfl h,λ_=>hx⟩
 dsimp only;rw[bo];refine ag (jR n _ gy) ?_;rintro _ ⟨-,rfl⟩;have hg:=(dK (s:=[102,105,101,108,100,115]) hn).sizes;have a3:=ab9 (n:=n) (s:=[102,105,101,108,100,115]);have b3:(ao n [102,105,101,108,100,115]).1.kind ≠5->Tot (af (ah ts 0 2) (λr2=>(some (.tup [],[some [.ul .atype r2.2.1,.int .i64 r2.2.2]]):Ro))) (λz=>∃(L:List ab)(J:Int)(rest:List ai),z.1.dimR=.tup []∧z.2=some [.ul .atype L,.int .i64 J]::rest∧bm ts 0 n O a deep (L,J)):=by
  intro hk;refine ag (aV _ _ _) ?_;rintro _ ⟨-,rfl⟩;refine fin _ _ _ λm hm H=>?_
  have S:(ak (ak m (!((ao n [102,105,101,108,100,115]).1.kind ==5)) 2) (decide (30<(ao n [102,105,101,108,100,115]).1.l.length)) 3).2.2.1 =aN 0 2:=by rw[show decide (30<(ao n [102,105,101,108,100,115]).1.l.length)=false from decide_eq_false (by omega),fW,bF,hm.1,if_pos (by simpa using hk)]
  have R:bX (aq deep) m [] n a=([],ak (ak m (!((ao n [102,105,101,108,100,115]).1.kind ==5)) 2) (decide (30<(ao n [102,105,101,108,100,115]).1.l.length)) 3):=by simp only[bX];exact yq (by rw[S];exact da (by decide)) _
  rw[R];exact⟨h,S.symm,λD=>absurd D (show aN 0 2≠0 by decide)⟩
 generalize hG:ao n [102,105,101,108,100,115]=G at hg a3 b3;refine ac (λhb=>b3 ?_) (λhb=>?_);·rw[a3 (by simpa using hb)];show (0:Int)≠5;decide
 refine ac (λhk=>b3 (by simpa using hk)) (λhk=>?_);have hk:G.1.kind=5:=by simpa using hk
 refine ac (λhc=>absurd (of_decide_eq_true hc) (by omega)) (λ_=>?_);have hF:∀m,bX (aq deep) m [] n a=cp (aq deep) a G.1.l [] [] m:=by intro m;simp only[bX];rw[hG,show (!(G.1.kind==5))=false from by simp[hk],fW,show decide (30<G.1.l.length)=false from decide_eq_false (by omega),fW]
 clear b3 a3 hG;generalize G.1=g at hg hk hF;refine a8 (λx=>match x with|(W,sp,A,g',w,i,c,e')=>W=O∧sp=a∧A=deep∧g'=g∧(0<=i∧i<=(g.l.length:Int))∧c.length<=60∧(w.length:Int)<=i∧at6 ts g a deep w i c e'∧(e'=0->O<(c.length:Int))) (λx=>((g.l.length:Int)-x.2.2.2.2.2.1).toNat) ?_ _ _ ⟨rfl,rfl,rfl,rfl,⟨by simp,by simp⟩,h,by simp,λm hm H=>⟨[],[],m,hm,H,by simp,λ_=>⟨rfl,λx=>by simp[dv,aX,MK.zero]⟩⟩,λ_=>fn.2⟩ (by simp;omega);rintro Y ⟨W,sp,A,g',w,i,c,e'⟩ ⟨rfl,rfl,rfl,rfl,⟨i1,i2⟩,i3,i4,hU,hr⟩ ih;dsimp only at ih;unfold c9 eR;dsimp only;have bad:e'≠0->∀(o:List ai),Tot (some (.tup [],some [.ul .atype c,.int .i64 e']::o):Ro) (λz=>∃(L:List ab)(J:Int)(rest:List ai),z.1.dimR=.tup []∧z.2=some [.ul .atype L,.int .i64 J]::rest∧bm ts 0 n W sp A (L,J)):=by
  intro S o;refine fin _ _ _ λm hm H=>?_
  obtain⟨b5,names,m',v, -,hL, -⟩:=hU m hm H;rw[hF,hL,yq (by rw[v.1];exact S)];exact⟨i3,v.1.symm,λD=>absurd D S⟩
 have done:e'=0->i=(g'.l.length:Int)->Tot (
   chk (decide (0<Aa c)) (
    chk ((decide (0<=W)&&decide (W<↑(Aa c)))) (
     chk (decide ((Ae W)<Aa c)) (
      let en:=(AJ c (Ae W) (let e_:=Ak c (Ae W) (am .atype);⟨e_.kind,e_.name,e_.aliases,e_.items,e_.syms,e_.hasdef,e_.df,e_.size,w,e_.branches⟩))
      chk (As (Aa c) (Aa en)) (
       (some (.tup [],[some [.ul .atype en,.int .i64 e'],none,none]):Ro)))))) (λz=>∃(L:List ab)(J:Int)(rest:List ai),z.1.dimR=.tup []∧z.2=some [.ul .atype L,.int .i64 J]::rest∧bm ts 0 n W sp A (L,J)):=by
  intro S hi;have ha:=hr S;refine vck ?_ (decide_eq_true (by omega));refine vck ?_ (by simp[fn.1,ha]);refine vck ?_ (decide_eq_true (by omega));refine vck ?_ (by simp);refine fin _ _ _ λm hm H=>?_
  obtain⟨b5,names,m',v, -,hL,hl⟩:=hU m hm H;rw[hi,AR,BZ] at hL;have hL:cp (aq A) sp g'.l [] [] m=(b5,m'):=hL;rw[hF,hL];refine⟨by simpa using i3,v.1.symm,λD u hu=>?_⟩;dsimp only at hu ⊢;rw[(v.2 S).1] at hu ⊢;rw[ac7 hu,(hl S).1]
 refine ac (λae=>?_) (λae=>?_)
 ·have ae:=of_decide_eq_true ae;have j2:i.toNat<g'.l.length:=by omega
  refine ac (λS=>?_) (λS=>?_)
  ·have S:e'=0:=by simpa using S
   subst S;have d0:=iZ (d:=(am .jnode:aa)) ⟨i1,ae⟩;have bs:aE (g'.l.getD i.toNat (am .jnode)):=aE.getD hg.2.2.2 _;generalize hx:g'.l.getD i.toNat (am .jnode)=x at d0 bs;have dk:x.names.length<=1000000:=by have:=bs.sizes;omega
   have ed:IntKind.i64.wrap (A+1)=A+1:=ax (A+1) (by omega);have ei:IntKind.i64.wrap (i+1)=i+1:=ax (i+1) (by omega);obtain⟨g8,e8⟩:=ht;obtain⟨hX,ar,w0,ds,ho, -,ey⟩:=hU (bZ g8 A) (e8.deep A) rfl;refine vck ?_ (ixt ⟨i1,ae⟩);refine ac (λX=>?_) (λX=>?_)
   ·have X:x.kind≠6:=by simpa using X
    refine ag (aV _ _ _) ?_;rintro _ ⟨-,rfl⟩;refine fin _ _ _ λm hm H=>?_
    obtain⟨b5,names,m',v,a4,hL,hl⟩:=hU m hm H;rw[d0,cp,if_pos v.1] at hL;have gN:a6 (ak m' (!(x.kind==6)) 2) (cZ (aq A) m' x names sp).2.1 :=by simp only[cZ];exact((((((ay (ak m' (!(x.kind==6)) 2) _ 2).trans (ay _ _ 6)).trans (ay _ _ 5)).trans (ay _ _ 2)).trans (oX A _ _ _)).trans (lH aaC _ _))
    have h2:(ak m' (!(x.kind==6)) 2).2.2.1 =aN 0 2:=by rw[bF,v.1,if_pos (by simpa using X)]
    have ff:(cZ (aq A) m' x names sp).2.1.2.2.1 =aN 0 2:=by rw[<-h2];exact gN.stay (by rw[h2];exact da (by decide))
    rw[hF,hL,yq (by rw[ff];exact da (by decide))];exact⟨i3,ff.symm,λD=>absurd D (show aN 0 2≠0 by decide)⟩
   have X:x.kind=6:=by simpa using X
   rw[bo];refine ag (aas _ _ _ _ _ dk) ?_;intro r6 er;obtain⟨I,M,es,hB,c3⟩:∃I M,r6=(I,c,M)∧M=(if (ao x [110,97,109,101]).1.kind =4 then 0 else aN 0 2)∧(M=0->I=(ao x [110,97,109,101]).1.s)∧I.length<=100:=by
    have h6:r6=_:=er.2;rw[if_neg (λhh=>by cases hh.2)] at h6;by_cases F:(ao x [110,97,109,101]).1.kind =4
    ·have hb:(ao x [110,97,109,101]).2 ≠false:=λhb=>by
      rw[ab9 hb] at F;exact absurd F (by decide)
     rw[if_neg (λhh=>hh.elim hb (λq=>q F))] at h6;exact⟨_,0,h6,by rw[if_pos F],λ_=>rfl,(dK bs).sizes.1⟩
    ·rw[if_pos (.inr F)] at h6;exact⟨_,aN 0 2,h6,by rw[if_neg F],λD=>absurd D (show aN 0 2≠0 by decide),by simp⟩
   subst es;dsimp only;clear er
   have hI:∀(names:List (List UInt8×Bool))(m':MS),OfS c 0 m'->m'.2.2.2=A->(∀y,dv (k:=.sb) names y=true↔∃f∈w,f.name=y)->∀eD,eD=(if (∃f∈w,f.name=I) then aN (gA I M) 5 else gA I M)->
     (oY m' x names).2.2.1 =ifE (!(ao x [116,121,112,101]).2) eD 2∧OfS c (ifE (!(ao x [116,121,112,101]).2) eD 2) (oY m' x names)∧(oY m' x names).2.2.2 =A:=by
    intro names m' v a4 al eD hD;have e1:(ak m' (!((ao x [110,97,109,101]).1.kind ==4)) 2).2.2.1 =M:=by rw[bF,v.1,hB];by_cases F:(ao x [110,97,109,101]).1.kind =4<;>simp[F]
    have Z:(ak (ak m' (!((ao x [110,97,109,101]).1.kind ==4)) 2) (!cf (ao x [110,97,109,101]).1.s) 6).2.2.1 =gA I M:=by
     rw[ajL,e1];by_cases E:M=0;·rw[<-c3.1 E]
     ·rw[s7 E,s7 E]
    have e3:(ak (ak (ak m' (!((ao x [110,97,109,101]).1.kind ==4)) 2) (!cf (ao x [110,97,109,101]).1.s) 6) (dv (k:=.sb) names (ao x [110,97,109,101]).1.s) 5).2.2.1 =eD:=by
     rw[bF,Z,hD];by_cases E:gA I M=0
     ·have cy:M=0:=by
       by_cases C:M=0;·exact C
       ·rw[s7 C] at E;exact E
      rw[<-c3.1 cy];by_cases C:∃f∈w,f.name=I;·rw[if_pos ((al I).2 C),if_pos C]
      ·rw[if_neg (λhh=>C ((al I).1 hh)),if_neg C]
     ·rw[eL E];simp
    have e4:(oY m' x names).2.2.1 =ifE (!(ao x [116,121,112,101]).2) eD 2:=by unfold oY;rw[bF,e3];rfl
    refine⟨e4,⟨e4,λD=>?_⟩,(alH m' x names).dep.trans a4⟩;rw[alI m' x names (e4.trans D)];exact v.2 rfl
   have cs:∀eD,eD=(if (∃f∈w,f.name=I) then aN (gA I M) 5 else gA I M)->∀eE,eE=ifE (!(ao x [116,121,112,101]).2) eD 2->
     Tot (af (bb c eE (reJ (ao x [116,121,112,101]).1) sp (A+1)) (λj=>
      af (aU (reJ x) ([100,101,102,97,117,108,116]:Bs)) (λa1=>
       af (bI j.2.1 j.2.2 (reJ x) ([97,108,105,97,115,101,115]:Bs)) (λp=>
        aO N (dN N Y) (W,sp,A,g',w,i,0,p.2.2.1,p.2.2.2,I,p.1,j.1,a1.2,a1.1.kind,a1.1.n,a1.1.s,a1.1.l,a1.1.names))))) (λz=>∃(L:List ab)(J:Int)(rest:List ai),z.1.dimR=.tup []∧z.2=some [.ul .atype L,.int .i64 J]::rest∧bm ts 0 n W sp A (L,J)):=by
    intro eD hD eE hE;rw[bo,bo];have tok:aE (ao x [116,121,112,101]).1 :=dK bs;refine ag (hT c eE _ sp (λ_=>⟨w0,ds⟩) i3 tok hs) ?_;rintro j ⟨-,b4⟩;have b4:∀(names:List (List UInt8×Bool))(m':MS),OfS c 0 m'->m'.2.2.2=A->(∀y,dv (k:=.sb) names y=true↔∃f∈w,f.name=y)->AgI (aq A (oY m' x names) (ao x [116,121,112,101]).1 sp) j∧(j.2.2=0->ec (aq A (oY m' x names) (ao x [116,121,112,101]).1 sp).2 ∧oY m' x names=m'):=by
     intro names m' q1 q2 q3;obtain⟨p1,p2,p3⟩:=hI names m' q1 q2 q3 eD hD;rw[<-hE] at p1 p2;have:=b4 (oY m' x names) p2 (by rw[p3];omega);rw[show A+1-1=A by omega] at this;refine⟨this,λD=>?_⟩;have el:(aq A (oY m' x names) (ao x [116,121,112,101]).1 sp).2.2.2.1 =0:=by rw[<-this.1.2.1];exact D
     have e0:(oY m' x names).2.2.1 =0:=(oX A _ _ _).err el;exact⟨(alG A _ _ _ tok (p2.2 (p1.symm.trans e0)).2 el).1,alI m' x names e0⟩
    have cc:=b4 ar w0 ds ho (ey rfl).2;have fk:=cc.1.1.1;have fl:j.2.2=0->W<(j.2.1.length:Int):=by intro D;have:=(aat A (oY w0 x ar) (ao x [116,121,112,101]).1 sp).1;rw[(cc.2 D).2,(ds.2 rfl).1] at this;have C:=cc.1.1.2.2 D;rw[(cc.2 D).2] at C;rw[<-C] at this;have:=hr rfl;omega
    refine ag (jR x _ dk) ?_;rintro _ ⟨-,rfl⟩;refine ag (yp _ _ _ _ bs) ?_;rintro p ⟨-,a5⟩;have hw:p.2.2.1=j.2.1:=a5.1;have g4:=a5.2.2.1;refine a8 (λy=>match y with|(a2,Q,P,g2,b,i2,k,br,Z,f0,f1,f2,f3,f4,f5,f6,f7,f8)=>a2=W∧Q=sp∧P=A∧g2=g'∧b=w∧i=i2∧br=j.2.1∧(f0=I∧f1=p.1∧f2=j.1∧f3=(ao x [100,101,102,97,117,108,116]).2 ∧aa.mk f4 f5 f6 f7 f8=(ao x [100,101,102,97,117,108,116]).1)∧(0<=k∧k<=(p.1.length:Int))∧qM p.1 p.2.2.2=qM (p.1.drop k.toNat) Z∧(Z=0->j.2.2=0)) (λy=>((p.1.length:Int)-y.2.2.2.2.2.2.1).toNat) ?_ _ _ ⟨rfl,rfl,rfl,rfl,rfl,rfl,hw,⟨rfl,rfl,rfl,rfl,(aa.eta _).symm⟩,⟨by simp,by simp⟩,by simp,?_⟩ (by simp;omega)
    rotate_left
    ·intro D;by_cases C:(ao x [97,108,105,97,115,101,115]).2 =true
     ·by_cases E:j.2.2=0;·exact E
      ·have:=(a5.2.2.2.2 C ([],[],j.2.2,0) rfl).1;rw[wq] at this;have cy:lO (ao x [97,108,105,97,115,101,115]).1.l (if (ao x [97,108,105,97,115,101,115]).1.kind =5 then j.2.2 else aN j.2.2 2)=j.2.2:=by
        rw[eL E];simp only[ite_self];exact tG _ E
       exact((this.trans cy).symm.trans D)
     ·exact((a5.2.2.2.1 (by simpa using C)).2).symm.trans D
    rintro gd ⟨a2,Q,P,g2,b,i2,k,br,Z,f0,f1,f2,f3,f4,f5,f6,f7,f8⟩ ⟨rfl,rfl,rfl,rfl,rfl,rfl,rfl,⟨rfl,rfl,rfl,rfl,c2⟩,⟨k1,k2⟩,k3,k4⟩ c4;dsimp only at c4;unfold dN;dsimp only;have app:(Z≠0∨k=(p.1.length:Int))->Tot (Y (a2,Q,P,g2,b++[⟨f0,p.1,j.1,(ao x [100,101,102,97,117,108,116]).2,⟨f4,f5,f6,f7,f8⟩⟩],i+1,j.2.1,Z)) (λz=>∃(L:List ab)(J:Int)(rest:List ai),z.1.dimR=.tup []∧z.2=some [.ul .atype L,.int .i64 J]::rest∧bm ts 0 n a2 Q P (L,J)):=by
     intro g0;have eT:qM p.1 p.2.2.2=Z:=by
      rw[k3];rcases g0 with C|C;·exact wZ _ C
      ·rw[C,AR,BZ];rfl
     refine ih _ ⟨rfl,rfl,rfl,rfl,⟨by first|omega|(dsimp only;omega),by first|omega|(dsimp only;omega)⟩,fk,by simp only[AD,Av,AA];omega,?_,λD=>fl (k4 D)⟩ (by simp only;omega);intro m hm H;obtain⟨b5,names,m',v,a4,hL,hl⟩:=hU m hm H;obtain⟨g9,c0⟩:=hl rfl;obtain⟨q1,q2⟩:=b4 names m' v a4 c0;obtain⟨b1,b2⟩:=asr a5 (aq P (oY m' x names) (ao x [116,121,112,101]).1 Q).2 q1.1.2.1.symm;rw[eT] at b1 b2;rw[d0,cp,if_pos v.1] at hL;dsimp only at hL;rw[arz _ _ _ _ _ X] at hL;refine⟨_,_,_,⟨b1,λD=>?_⟩,?_,hL,λD=>?_⟩;·have a9:=k4 D;dsimp only;rw[ur ahk _ _ (b1.trans D)];exact⟨(q1.1.2.2 a9).symm,(q2 a9).1⟩
     ·exact(((alH m' x names).trans (oX P _ _ _)).trans (lH aaC _ _)).dep.trans a4
     ·have a9:=k4 D;have hO:M=0:=by
       have g1:=(q2 a9).2
       have e1:(ak m' (!((ao x [110,97,109,101]).1.kind ==4)) 2).2.2.1 =0:=
        (((ay _ _ 6).trans (ay _ _ 5)).trans (ay _ _ 2)).err (show (oY m' x names).2.2.1 =0 by rw[g1];exact v.1)
       rw[bF,v.1] at e1;rw[hB];by_cases F:(ao x [110,97,109,101]).1.kind =4;·rw[if_pos F]
       ·rw[if_pos (by simpa using F)] at e1;exact absurd e1 (show aN 0 2≠0 by decide)
      rw[<-c3.1 hO,b2 D,<-q1.2 a9,g9,c2];refine⟨rfl,λy=>?_⟩;rw[dv,mA];constructor
      ·intro hy;split at hy;·rename_i e;exact⟨_,Aw.2 (.inr (Az.2 rfl)),e⟩
       ·obtain⟨f,R,e⟩:=(c0 y).1 hy;exact⟨f,Aw.2 (.inl R),e⟩
      ·rintro⟨f,R,e⟩;split;·rfl
       ·rename_i g3;rcases Aw.1 R with R|R;·exact(c0 y).2 ⟨f,R,e⟩
        ·rw[Az.1 R] at e;exact absurd e g3
    refine ac (λB=>?_) (λB=>?_)
    ·have B:=of_decide_eq_true B;have b6:k.toNat<p.1.length:=by omega
     have gO:=iZ (d:=(am .str:List UInt8)) ⟨k1,B⟩;refine ac (λE=>?_) (λE=>?_)
     ·have ek:IntKind.i64.wrap (k+1)=k+1:=ax (k+1) (by omega);have hj:(p.1.getD k.toNat (am .str)).length<=1000000:=by
       have:=g4.2 (p.1.getD k.toNat (am .str)) (by rw[Af,Ab b6];exact AK _);omega
      rw[gO,qM] at k3;rw[ek];have ew:Z=0:=by simpa using E
      refine vck ?_ (ixt ⟨k1,B⟩);refine ag (wY _ hj) ?_;rintro _ ⟨-,rfl⟩;refine ac (λhp=>?_) (λhp=>?_);·refine ag (aV _ _ _) ?_;rintro _ ⟨-,rfl⟩;refine c4 _ ⟨rfl,rfl,rfl,rfl,rfl,rfl,rfl,⟨rfl,rfl,rfl,rfl,c2⟩,⟨by first|omega|(dsimp only;omega),by first|omega|(dsimp only;omega)⟩,?_,λ_=>k4 ew⟩ (by simp only;omega);dsimp only;rw[k3];unfold gA;rw[if_neg (by simpa using hp)]
      ·refine c4 _ ⟨rfl,rfl,rfl,rfl,rfl,rfl,rfl,⟨rfl,rfl,rfl,rfl,c2⟩,⟨by first|omega|(dsimp only;omega),by first|omega|(dsimp only;omega)⟩,?_,λ_=>k4 ew⟩ (by simp only;omega);dsimp only;rw[k3];unfold gA;rw[if_pos (by simpa using hp)]
     ·refine vck ?_ (decide_eq_true (by simp only[Av,AA];omega));rw[ei];exact app (.inl (by simpa using E))
    ·have B:=of_decide_eq_false B;refine vck ?_ (decide_eq_true (by simp only[Av,AA];omega));rw[ei];exact app (.inr (by omega))
   have ad:∀eC,eC=gA I M->Tot (aO N (dO N Y) (W,sp,A,g',w,i,x,0,c,eC,I,[],0,false,0,0,[],[],[])) (λz=>∃(L:List ab)(J:Int)(rest:List ai),z.1.dimR=.tup []∧z.2=some [.ul .atype L,.int .i64 J]::rest∧bm ts 0 n W sp A (L,J)):=by
    intro eC hC;refine a8 (λy=>match y with|(a2,Q,P,g2,b,i2,x2,k,br,Z,f0,f1,f2,f3,f4,f5,f6,f7,f8)=>a2=W∧Q=sp∧P=A∧g2=g'∧b=w∧i=i2∧x2=x∧br=c∧f0=I∧(0<=k∧k<=(w.length:Int))∧Z=if (∃f∈w.take k.toNat,f.name=I) then aN eC 5 else eC) (λy=>((w.length:Int)-y.2.2.2.2.2.2.2.1).toNat) ?_ _ _ ⟨rfl,rfl,rfl,rfl,rfl,rfl,rfl,rfl,rfl,⟨by simp,by simp⟩,by simp⟩ (by simp;omega);rintro f9 ⟨a2,Q,P,g2,b,i2,x2,k,br,Z,f0,f1,f2,f3,f4,f5,f6,f7,f8⟩ ⟨rfl,rfl,rfl,rfl,rfl,rfl,rfl,rfl,rfl,⟨k1,k2⟩,k3⟩ dw;dsimp only at dw;unfold dO gW;dsimp only;refine ac (λB=>?_) (λB=>?_)
    ·have B:=of_decide_eq_true B;have b6:k.toNat<b.length:=by omega
     have ea:b.take (k+1).toNat=b.take k.toNat++[b.getD k.toNat (am .afield)]:=by rw[show (k+1).toNat=k.toNat+1 by omega,BH,Ab b6,Af,Ab b6];rfl
     have ek:IntKind.i64.wrap (k+1)=k+1:=ax (k+1) (by omega);rw[ek];refine vck ?_ (ixt ⟨k1,B⟩);refine ac (λC=>?_) (λC=>?_)
     ·have C:=of_decide_eq_true C;refine ag (aV _ _ _) ?_;rintro _ ⟨-,rfl⟩;refine dw _ ⟨rfl,rfl,rfl,rfl,rfl,rfl,rfl,rfl,rfl,⟨by first|omega|(dsimp only;omega),by first|omega|(dsimp only;omega)⟩,?_⟩ (by simp only;omega);dsimp only;rw[ea,if_pos ⟨_,Aw.2 (.inr (Az.2 rfl)),C⟩,k3];split;·rw[eL (da (by decide))]
      ·rfl
     ·have C:=of_decide_eq_false C;refine dw _ ⟨rfl,rfl,rfl,rfl,rfl,rfl,rfl,rfl,rfl,⟨by first|omega|(dsimp only;omega),by first|omega|(dsimp only;omega)⟩,?_⟩ (by simp only;omega);dsimp only;have:(∃f∈b.take k.toNat++[b.getD k.toNat (am .afield)],f.name=f0)↔∃f∈b.take k.toNat,f.name=f0:=by
       constructor
       ·rintro⟨f,R,e⟩;rcases Aw.1 R with R|R;·exact⟨f,R,e⟩
        ·rw[Az.1 R] at e;exact absurd e C
       ·rintro⟨f,R,e⟩;exact⟨f,Aw.2 (.inl R),e⟩
      rw[ea,k3];simp only[this]
    ·have B:=of_decide_eq_false B;rw[Bv (by omega)] at k3;rw[bo,ed];refine ag (jR x2 _ dk) ?_;rintro _ ⟨-,rfl⟩;have hD:Z=(if (∃f∈b,f.name=f0) then aN (gA f0 M) 5 else gA f0 M):=by rw[k3,hC]
     refine ac (λC=>?_) (λC=>?_);·refine ag (aV _ _ _) ?_;rintro _ ⟨-,rfl⟩;exact cs Z hD _ (by rw[C];rfl)
     ·exact cs Z hD _ (by rw[C];rfl)
   refine ac (λE=>?_) (λE=>ad _ ?_)
   ·have E:M=0:=by simpa using E
    refine ag (wY _ (by omega)) ?_;rintro _ ⟨-,rfl⟩;refine ac (λhp=>?_) (λhp=>?_);·refine ag (aV _ _ _) ?_;rintro _ ⟨-,rfl⟩;refine ad _ ?_;unfold gA;rw[if_neg (by simpa using hp)]
    ·refine ad _ ?_;unfold gA;rw[if_pos (by simpa using hp)]
   ·rw[s7 (by simpa using E)]
  ·exact ac (λE=>absurd E (by rw[S];simp)) (λ_=>bad (by simpa using S) _)
 ·have ae:=of_decide_eq_false ae;refine ac (λE=>done (by simpa using E) (by omega)) (λE=>bad (by simpa using E) _)
theorem aqu(i:List ab)(e:Int)(n:aa)(b:Int)(a:List UInt8)(deep:Int)(j:e≠0)(q:aE n):∃r,bB i e n b a deep r:=by
 obtain⟨N,t⟩:∃N:Nat,N=100:=⟨_,rfl⟩
 apply qE N;have k:n.names.length<=1000000:=by have:=q.sizes;omega
 have fin:∀o,Tot (some (.tup [],some [.ul .atype i,.int .i64 e]::o):Ro) (λz=>∃(f:List ab)(g:Int)(rest:List ai),z.1.dimR=.tup []∧z.2=some [.ul .atype f,.int .i64 g]::rest∧bm i e n b a deep (f,g)):=
  λo=>aj ⟨_,_,_,rfl,rfl,λ_=>rfl,λh=>absurd h j⟩
 unfold mf eb;dsimp only;rw[bo];refine ag (jR n _ k) ?_;rintro _ ⟨-,rfl⟩;have d:∀c,Tot (af (ah i e c) (λp=>(some (.tup [],[some [.ul .atype p.2.1,.int .i64 p.2.2]]):Ro))) (λz=>∃(f:List ab)(g:Int)(rest:List ai),z.1.dimR=.tup []∧z.2=some [.ul .atype f,.int .i64 g]::rest∧bm i e n b a deep (f,g)):=by intro c;refine ag (aV _ _ _) ?_;rintro _ ⟨-,rfl⟩;dsimp only;rw[eL j];exact fin _
 refine ac (λ_=>d _) (λ_=>?_);refine ac (λ_=>d _) (λ_=>?_);refine ac (λ_=>d _) (λ_=>?_);obtain⟨M,rfl⟩:∃M,N=M+1:=⟨N-1,by omega⟩
 show Tot (c9 (M+1) (aO M (c9 (M+1))) _) _;unfold c9 eR;dsimp only;have m:(e==0)=false:=by simpa using j
 refine ac (λ_=>ac (λh=>absurd h (by rw[m];simp)) (λ_=>?_)) (λ_=>?_);·exact ac (λh=>absurd h (by rw[m];simp)) (λ_=>fin _)
 ·exact ac (λh=>absurd h (by rw[m];simp)) (λ_=>fin _)
end Go.Proofs.YtkinflmjagfapaaGreatDoor
end
