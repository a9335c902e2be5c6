import Derived.Test.YtndccphabnjkhaaGreatChecked
import Derived.KernelRfl
import Derived.Test.YtndccphabnjkhaaGreatZ02
set_option linter.all false
open BitVec renaming ofInt→AT,allOnes→Dg,xor_allOnes→DU
open Bool renaming and_eq_true→Ac,not_false→Bh,eq_iff_iff→BH,and_true→CF
open Eq renaming trans→AB
open Go.IntKind renaming wrap→Ab,signed→AN,bits→A6,max→Bo,min→BI
open Int renaming toNat→Ad,toNat_natCast→AK,tmod→AQ,tdiv→Bn,fdiv_eq_ediv_of_nonneg→B1,natCast_nonneg→Ch,le_of_lt→DD,toNat_zero→DI,pow_pos→DO
open List renaming length→Aa,getD→Af,getElem?_eq_getElem→Ah,length_cons→Ai,length_append→Ak,length_nil→Al,drop→An,take→Ao,getD_eq_getElem?_getD→Aq,mem_singleton→Ay,length_drop→AL,append_assoc→AP,take_length→AZ,length_singleton→Ba,getD_cons_zero→Bm,length_take→Bt,drop_zero→Bz,drop_eq_getElem_cons→BD,foldl_cons→BG,getD_cons_succ→BR,length_pos_iff→Cc,take_succ_cons→Cd,take_zero→CR,tail_cons→CT,drop_take→CW,foldl_nil→CZ,drop_eq_nil_of_le→Dm,length_eq_zero_iff→Ea
open List.cons renaming injEq→CG
open Nat renaming le_refl→Ap,lt_or_ge→AG,mod_eq_of_lt→Br,mul_comm→BT,add_assoc→Co,pow_le_pow_right→Ct,div_lt_of_lt_mul→Cu,mul_one→Cv,shiftLeft_eq→Cz,pow_succ→CA,div_add_mod→CJ,shiftLeft_add_eq_or_of_lt→CN,add_comm→C0,and_two_pow_sub_one_eq_mod→DF,add_sub_cancel→DR
open Option renaming getD_some→A8
open Option.some renaming injEq→Ae
open Prod.mk renaming injEq→Aj
open UInt8 renaming ofNat→AC,toNat→AW,toNat_lt→BP
set_option maxRecDepth 100000
noncomputable section
namespace Go.Proofs.YtndccphabnjkhaaGreat
open Go.AM
def aop:Nat->List V->Option (Bool×V):=λ_ _=>none
def mS:aG:=(fa aop)
theorem atq:co mS []:=(cR _ _)
theorem au2:bC Tryz.prog mS:=by intro f vs hp v hp' h;obtain⟨h, -⟩:=du h;simp[aop] at h
def af1:IR:=Sq (Rs [Mv 6 3,Mv 7 0,Pp (.lens 8 7),Bi 9 .lss 6 8,Mv 10 9,Gt 10 (.mov 11 3),Gt 10 (.bin 12 .lss 11 (kI 10)),Pa 13 10 12] (Cn 13 .skip (.exit 0))) (.block 1 (Rs [Mv 14 0,Mv 15 3,Pp (.idx 16 14 15),Pp (.cvi 17 .u64 16),Mv 5 17] (Sq (Rs [Mv 18 3,Bc 19 .eql 18 9,Mv 20 19,Gt 20 (.mov 21 5),Gt 20 (.bin 22 .gtr 21 (kU 1)),Pa 23 20 22] (Cn 23 (Rs [Pp (.mov 2 (kU 0)),Mi 3 0,Mi 4 2] .ret) .skip)) (Rs [Mv 24 2,Mv 25 5,Pp (.bin 26 .rem 25 (kU 128)),Mv 27 3,Pp (.bin 28 .mul (kI 7) 27),Bi 29 .shl 26 28,Bi 30 .or 24 29,Mv 2 30] (Rs [Mv 31 3,Bc 32 .add 31 1,Mv 3 32] (Rs [Mv 33 5,Pp (.bin 34 .lss 33 (kU 128))] (Cn 34 (Rs [Mv 35 2,Mv 36 3,Mv 2 35,Mv 3 36,Mi 4 0] .ret) .skip)))))))
def af2:IR:=Rs [Pp (.mov 2 (kU 0)),Mi 3 0,Mi 4 2] .ret
def aec:IR:=Rs [Pp (.mov 2 (kU 0)),Mi 3 0,Mi 4 0] (Sq (.block 0 (.loop [0,2,3,1000000] 0 af1)) af2)
def eV:List RV:=[.t 2,.t 3,.t 4]
theorem axd:(bL Tryz.prog [] 0 aec (Tryz.f197.body.getD .skip)&&dy Tryz.prog eV Tryz.f197.results.toList)=true:=by kernel_rfl
theorem au3:Tryz.f197.body=some (Tryz.f197.body.getD .skip):=by kernel_rfl
def axe(R:TR)(a:TS):TE:=(bo a [0,2,3,1000000] 0 (aQ 0 (kseq (R af2) (fin eV))))
abbrev cZ:Type:=(Bs×Int×Int)
def tp:cZ->St:=λ(a,b,c)=>{env:=(vT a::.undef::vU b::vI c::(U 33 [])),hp:=[]}
def aca(N:Nat):TS->TS:=λa s=>run mS N af1 (axe (run mS N) a) s
def mL(N:Nat)(a:cZ->Ro):cZ->Ro:=λ(c,j,b)=>let n:=(↑(Aa c):Int);let h:=λo p q=>(some (.tup [vU o,vI p,vI q],[]):Ro);cond (decide (b<n)) (cond (decide (b<10)) (chk (ixl b c) (let d:=(↑(AW (Af c (Ad b) 0)):Int);cond (b==9) (let r:=decide (1<(Ab .u64 d));cond r (some (.tup [vU 0,vI 0,vI 2],[])) (let s:=(AQ (Ab .u64 d) 128);let k:=(Ab .i64 (7*b));chk (decide (0<=k)) (let l:=(bE .or .u64 j (ic .u64 s k));let m:=(Ab .i64 (b+1));let t:=decide ((Ab .u64 d)<128);cond t (h l m 0) (a (c,l,m))))) (let u:=(AQ (Ab .u64 d) 128);let e:=(Ab .i64 (7*b));chk (decide (0<=e)) (let f:=(bE .or .u64 j (ic .u64 u e));let g:=(Ab .i64 (b+1));let i:=decide ((Ab .u64 d)<128);cond i (h f g 0) (a (c,f,g)))))) (h 0 0 2)) (h 0 0 2)
theorem au4(N:Nat):LB (aca N) tp (mL N):=λ_ _=>by kernel_rfl
def xq(N:Nat)(a:Bs)(b:cZ->Ro):Ro:=b (a,0,0)
def aed(N:Nat)(a:Bs):Ro:=xq N a (λz=>aO N (mL N) z)
def aCC(N:Nat):List (Nat×(TS)):=cT mS N aec (fin eV)++[]
theorem axf(N:Nat)(a:Bs):callF mS N 37 eV aec [.str a] []=aed N a:=
 ((bD (aCC N) (by kernel_rfl) rfl (λC=>xq N a (λz=>C 1000000 (tp z))) (λC=>by kernel_rfl)).trans (AB (b:=xq N a (λz=>aZ N (aca N) (tp z))) (by kernel_rfl) (congrArg (xq N a) (funext λz=>aU (tp) (aca N) (mL N) (au4 N) N z))))
theorem azT(c:bC Tryz.prog mS)(N:Nat)(a:Bs){v:V}{hp:List aK}(h:aed N a=some (v,hp)):aH Tryz.prog 197 [.str a] v:=by have b:=axd;simp only[Ac] at b;exact⟨hp,eu c atq Tryz.func197 au3 b.1 b.2 (by decide) ((axf N a).trans h)⟩
def alT:Nat->List V->Option (Bool×V):=λ_ _=>none
def lz:aG:=(fa alT)
theorem arc:co lz []:=(cR _ _)
theorem atr:bC Tryz.prog lz:=by intro f vs hp v hp' h;obtain⟨h, -⟩:=du h;simp[alT] at h
def aeH:IR:=Sq (Rs [Mv 8 6,Bc 9 .lss 8 10] (Cn 9 .skip (.exit 0))) (Sq (.block 1 (Sq (Rs [Mv 12 6,Mv 13 0,Pp (.lens 14 13),Bi 15 .eql 12 14] (Cn 15 (.exit 0) .skip)) (Rs [Mv 16 0,Mv 17 6,Pp (.idx 18 16 17),Pp (.cvi 19 .u64 18),Mv 7 19] (Sq (Rs [Mv 20 6,Bc 21 .eql 20 9,Mv 22 21,Gt 22 (.mov 23 7),Gt 22 (.bin 24 .gtr 23 (kU 1)),Pa 25 22 24] (Cn 25 (.exit 0) .skip)) (Rs [Mv 26 5,Mv 27 7,Pp (.bin 28 .rem 27 (kU 128)),Mv 29 6,Pp (.bin 30 .mul (kI 7) 29),Bi 31 .shl 28 30,Bi 32 .or 26 31,Mv 5 32] (Rs [Mv 33 7,Pp (.bin 34 .lss 33 (kU 128))] (Cn 34 (Rs [Mv 35 5,Mv 36 6,Bc 37 .add 36 1,Mv 2 35,Mv 3 37,Mi 4 0] .ret) .skip))))))) (Rg [Mv 10 6,Bc 11 .add 10 1,Mv 6 11]))
def aeI:IR:=Rs [Pp (.mov 2 (kU 0)),Mi 3 0,Mi 4 2] .ret
def acb:IR:=Rs [Pp (.mov 2 (kU 0)),Mi 3 0,Mi 4 0] (Rs [Pp (.mov 5 (kU 0))] (Sq (Rs [Mi 6 0] (.block 0 (.loop [0,5,6,1000000] 0 aeH))) aeI))
theorem au5:(bL Tryz.prog [] 0 acb (Tryz.f56.body.getD .skip)&&dy Tryz.prog eV Tryz.f56.results.toList)=true:=by kernel_rfl
theorem att:Tryz.f56.body=some (Tryz.f56.body.getD .skip):=by kernel_rfl
def au6(R:TR)(a:TS):TE:=(bo a [0,5,6,1000000] 0 (aQ 0 (kseq (R aeI) (fin eV))))
def qT:cZ->St:=λ(a,b,c)=>{env:=(vT a::(U 4 (vU b::vI c::(U 31 [])))),hp:=[]}
def zM(N:Nat):TS->TS:=λa s=>run lz N aeH (au6 (run lz N) a) s
def kW(N:Nat)(a:cZ->Ro):cZ->Ro:=λ(c,l,b)=>let d:=λo p q=>(some (.tup [vU o,vI p,vI q],[]):Ro);cond (decide (b<10)) (let r:=(↑(Aa c):Int);cond (b==r) (d 0 0 2) (chk (ixl b c) (let e:=(↑(AW (Af c (Ad b) 0)):Int);cond (b==9) (let s:=decide (1<(Ab .u64 e));cond s (d 0 0 2) (let t:=(AQ (Ab .u64 e) 128);let m:=(Ab .i64 (7*b));chk (decide (0<=m)) (let n:=(bE .or .u64 l (ic .u64 t m));let u:=decide ((Ab .u64 e)<128);cond u (let v:=(Ab .i64 (b+1));d n v 0) (let w:=(Ab .i64 (b+1));a (c,n,w))))) (let h:=(AQ (Ab .u64 e) 128);let f:=(Ab .i64 (7*b));chk (decide (0<=f)) (let g:=(bE .or .u64 l (ic .u64 h f));let i:=decide ((Ab .u64 e)<128);cond i (let j:=(Ab .i64 (b+1));d g j 0) (let k:=(Ab .i64 (b+1));a (c,g,k))))))) (d 0 0 2)
theorem atu(N:Nat):LB (zM N) qT (kW N):=λ_ _=>by kernel_rfl
def u9(N:Nat)(a:Bs)(b:cZ->Ro):Ro:=b (a,0,0)
def acd(N:Nat)(a:Bs):Ro:=u9 N a (λz=>aO N (kW N) z)
def azU(N:Nat):List (Nat×(TS)):=cT lz N acb (fin eV)++[]
theorem au7(N:Nat)(a:Bs):callF lz N 38 eV acb [.str a] []=acd N a:=
 ((bD (azU N) (by kernel_rfl) rfl (λC=>u9 N a (λz=>C 1000000 (qT z))) (λC=>by kernel_rfl)).trans (AB (b:=u9 N a (λz=>aZ N (zM N) (qT z))) (by kernel_rfl) (congrArg (u9 N a) (funext λz=>aU (qT) (zM N) (kW N) (atu N) N z))))
theorem axg(c:bC Tryz.prog lz)(N:Nat)(a:Bs){v:V}{hp:List aK}(h:acd N a=some (v,hp)):aH Tryz.prog 56 [.str a] v:=by have b:=au5;simp only[Ac] at b;exact⟨hp,eu c arc Tryz.func56 att b.1 b.2 (by decide) ((au7 N a).trans h)⟩
def ahx:Nat->List V->Option (Bool×V):=λ_ _=>none
def il:aG:=(fa ahx)
theorem amM:co il []:=(cR _ _)
theorem aoq:bC Tryz.prog il:=by intro f vs hp v hp' h;obtain⟨h, -⟩:=du h;simp[ahx] at h
def ade:IR:=Sq (Rs [Mv 4 0,Pp (.bin 5 .geq 4 (kU 128))] (Cn 5 .skip (.exit 0))) (.block 1 (Rs [Pp (.mov 6 (.tk 3)),Mv 7 0,Pp (.bin 8 .rem 7 (kU 128)),Pp (.bin 9 .add 8 (kU 128)),Pp (.cvi 10 .u8 9),Pp (.bsl 11 .u8 [10] false),Pp (.app 12 .u8 (.tk 6) 11),Pp (.mov 3 (.tk 12))] (Rg [Mv 13 0,Pp (.bin 14 .shr 13 (kU 7)),Mv 0 14])))
def adf:IR:=Rs [Pp (.mov 15 (.tk 3)),Mv 16 0,Pp (.cvi 17 .u8 16),Pp (.bsl 18 .u8 [17] false),Pp (.app 19 .u8 (.tk 15) 18),Pp (.b2s 20 19),Mv 2 20] .ret
def yf:IR:=Rs [Ms 2 []] (Rs [Pp (.mov 3 (.c (nl .u8)))] (Sq (.block 0 (.loop [0,3,1000000] 0 ade)) adf))
def aF:List RV:=[.t 2]
theorem ard:(bL Tryz.prog [] 0 yf (Tryz.f192.body.getD .skip)&&dy Tryz.prog aF Tryz.f192.results.toList)=true:=by kernel_rfl
theorem aor:Tryz.f192.body=some (Tryz.f192.body.getD .skip):=by kernel_rfl
def are(R:TR)(a:TS):TE:=(bo a [0,3,1000000] 0 (aQ 0 (kseq (R adf) (fin aF))))
abbrev fg:Type:=(Int×Bs)
def n9:fg->St:=λ(a,b)=>{env:=(vU a::.undef::.undef::vO .u8 b::(U 17 [])),hp:=[]}
def we(N:Nat):TS->TS:=λa s=>run il N ade (are (run il N) a) s
def lH(N:Nat)(a:fg->Ro):fg->Ro:=λ(b,c)=>cond (decide (128<=b)) (let d:=(Ab .u64 ((AQ b 128)+128));chk (decide ((Aa c+Aa ([(AC (Ad (Ab .u8 d)))]:Bs))*1<=140737488355328)) (let e:=(c++([(AC (Ad (Ab .u8 d)))]:Bs));a ((ep .u64 b 7),e))) (chk (decide ((Aa c+Aa ([(AC (Ad (Ab .u8 b)))]:Bs))*1<=140737488355328)) (let f:=(c++([(AC (Ad (Ab .u8 b)))]:Bs));some (vT f,[])))
theorem aos(N:Nat):LB (we N) n9 (lH N):=λ_ _=>by kernel_rfl
def qU(N:Nat)(a:Int)(b:fg->Ro):Ro:=b (a,[])
def yg(N:Nat)(a:Int):Ro:=qU N a (λz=>aO N (lH N) z)
def au8(N:Nat):List (Nat×(TS)):=cT il N yf (fin aF)++[]
theorem arf(N:Nat)(a:Int):callF il N 21 aF yf [.int .u64 a] []=yg N a:=
 ((bD (au8 N) (by kernel_rfl) rfl (λC=>qU N a (λz=>C 1000000 (n9 z))) (λC=>by kernel_rfl)).trans (AB (b:=qU N a (λz=>aZ N (we N) (n9 z))) (by kernel_rfl) (congrArg (qU N a) (funext λz=>aU (n9) (we N) (lH N) (aos N) N z))))
theorem atv(c:bC Tryz.prog il)(N:Nat)(a:Int){v:V}{hp:List aK}(h:yg N a=some (v,hp)):aH Tryz.prog 192 [.int .u64 a] v:=by have b:=ard;simp only[Ac] at b;exact⟨hp,eu c amM Tryz.func192 aor b.1 b.2 (by decide) ((arf N a).trans h)⟩
def au9:Nat->List V->Option (Bool×V):=λ_ _=>none
def afr:aG:=(fa au9)
theorem axh:co afr []:=(cR _ _)
theorem azV:bC Tryz.prog afr:=by intro f vs hp v hp' h;obtain⟨h, -⟩:=du h;simp[au9] at h
def ass:IR:=Rs [Mi 2 0] (Sq (Rs [Mv 3 0,Bc 4 .eql 3 1] (Cn 4 (Rs [Mi 2 8] .ret) .skip)) (Rs [Mi 2 4] .ret))
theorem aCD:(bL Tryz.prog [] 0 ass (Tryz.f193.body.getD .skip)&&dy Tryz.prog aF Tryz.f193.results.toList)=true:=by kernel_rfl
theorem azW:Tryz.f193.body=some (Tryz.f193.body.getD .skip):=by kernel_rfl
def ast(N:Nat)(a:Int):Ro:=cond (a==1) (some (vI 8,[])) (some (vI 4,[]))
def acO(N:Nat)(a:Int):Ro:=ast N a
theorem aCE(N:Nat)(a:Int):callF afr N 5 aF ass [.int .i64 a] []=acO N a:=by kernel_rfl
theorem aE8(c:bC Tryz.prog afr)(N:Nat)(a:Int){v:V}{hp:List aK}(h:acO N a=some (v,hp)):aH Tryz.prog 193 [.int .i64 a] v:=by have b:=aCD;simp only[Ac] at b;exact⟨hp,eu c axh Tryz.func193 azW b.1 b.2 (by decide) ((aCE N a).trans h)⟩
def asu:Nat->List V->Option (Bool×V):=λ_ _=>none
def oW:aG:=(fa asu)
theorem ava:co oW []:=(cR _ _)
theorem axi:bC Tryz.prog oW:=by intro f vs hp v hp' h;obtain⟨h, -⟩:=du h;simp[asu] at h
def aiW:IR:=Sq (Rs [Mv 7 3,Bc 8 .geq 7 0] (Cn 8 .skip (.exit 0))) (Sq (.block 1 (Rg [Mv 11 2,Pp (.bin 12 .shl 11 (kU 8)),Mv 13 0,Mv 14 3,Pp (.idx 15 13 14),Pp (.cvi 16 .u64 15),Bi 17 .or 12 16,Mv 2 17])) (Rg [Mv 9 3,Bc 10 .sub 9 1,Mv 3 10]))
def aiX:IR:=Rs [Mv 18 2,Mv 2 18] .ret
def af3:IR:=Rs [Pp (.mov 2 (kU 0))] (Sq (Rs [Mv 4 0,Pp (.lens 5 4),Bc 6 .sub 5 1,Mv 3 6] (.block 0 (.loop [0,2,3,1000000] 0 aiW))) aiX)
theorem azX:(bL Tryz.prog [] 0 af3 (Tryz.f198.body.getD .skip)&&dy Tryz.prog aF Tryz.f198.results.toList)=true:=by kernel_rfl
theorem axj:Tryz.f198.body=some (Tryz.f198.body.getD .skip):=by kernel_rfl
def azY(R:TR)(a:TS):TE:=(bo a [0,2,3,1000000] 0 (aQ 0 (kseq (R aiX) (fin aF))))
def va:cZ->St:=λ(a,b,c)=>{env:=(vT a::.undef::vU b::vI c::(U 15 [])),hp:=[]}
def aee(N:Nat):TS->TS:=λa s=>run oW N aiW (azY (run oW N) a) s
def xr(N:Nat)(a:cZ->Ro):cZ->Ro:=λ(c,d,b)=>cond (decide (0<=b)) (chk (ixl b c) (let e:=(↑(AW (Af c (Ad b) 0)):Int);let f:=(bE .or .u64 (ic .u64 d 8) (Ab .u64 e));let g:=(Ab .i64 (b-1));a (c,f,g))) (some (vU d,[]))
theorem axk(N:Nat):LB (aee N) va (xr N):=λ_ _=>by kernel_rfl
def uo(N:Nat)(a:Bs)(b:cZ->Ro):Ro:=let c:=(↑(Aa a):Int);let d:=(Ab .i64 (c-1));b (a,0,d)
def zN(N:Nat)(a:Bs):Ro:=uo N a (λz=>aO N (xr N) z)
def aE9(N:Nat):List (Nat×(TS)):=cT oW N af3 (fin aF)++[]
theorem azZ(N:Nat)(a:Bs):callF oW N 19 aF af3 [.str a] []=zN N a:=
 ((bD (aE9 N) (by kernel_rfl) rfl (λC=>uo N a (λz=>C 1000000 (va z))) (λC=>by kernel_rfl)).trans (AB (b:=uo N a (λz=>aZ N (aee N) (va z))) (by kernel_rfl) (congrArg (uo N a) (funext λz=>aU (va) (aee N) (xr N) (axk N) N z))))
theorem aCF(c:bC Tryz.prog oW)(N:Nat)(a:Bs){v:V}{hp:List aK}(h:zN N a=some (v,hp)):aH Tryz.prog 198 [.str a] v:=by have b:=azX;simp only[Ac] at b;exact⟨hp,eu c ava Tryz.func198 axj b.1 b.2 (by decide) ((azZ N a).trans h)⟩
def avb:Nat->List V->Option (Bool×V):=λ_ _=>none
def qV:aG:=(fa avb)
theorem axl:co qV []:=(cR _ _)
theorem az0:bC Tryz.prog qV:=by intro f vs hp v hp' h;obtain⟨h, -⟩:=du h;simp[avb] at h
def alU:IR:=Sq (Rs [Mv 8 4,Bc 9 .geq 8 0] (Cn 9 .skip (.exit 0))) (Sq (.block 1 (Rg [Mv 12 3,Pp (.bin 13 .mul 12 (kU 256)),Mv 14 0,Mv 15 4,Pp (.idx 16 14 15),Pp (.cvi 17 .u64 16),Bi 18 .add 13 17,Mv 3 18])) (Rg [Mv 10 4,Bc 11 .sub 10 1,Mv 4 11]))
def alV:IR:=Rs [Mv 19 3,Mv 2 19] .ret
def aip:IR:=Rs [Pp (.mov 2 (kU 0))] (Rs [Pp (.mov 3 (kU 0))] (Sq (Rs [Mv 5 0,Pp (.lens 6 5),Bc 7 .sub 6 1,Mv 4 7] (.block 0 (.loop [0,3,4,1000000] 0 alU))) alV))
theorem aCG:(bL Tryz.prog [] 0 aip (Tryz.f57.body.getD .skip)&&dy Tryz.prog aF Tryz.f57.results.toList)=true:=by kernel_rfl
theorem az1:Tryz.f57.body=some (Tryz.f57.body.getD .skip):=by kernel_rfl
def aCH(R:TR)(a:TS):TE:=(bo a [0,3,4,1000000] 0 (aQ 0 (kseq (R alV) (fin aF))))
def xt:cZ->St:=λ(a,b,c)=>{env:=(vT a::.undef::.undef::vU b::vI c::(U 15 [])),hp:=[]}
def af4(N:Nat):TS->TS:=λa s=>run qV N alU (aCH (run qV N) a) s
def zO(N:Nat)(a:cZ->Ro):cZ->Ro:=λ(c,d,b)=>cond (decide (0<=b)) (let e:=(Ab .u64 (d*256));chk (ixl b c) (let f:=(↑(AW (Af c (Ad b) 0)):Int);let g:=(Ab .u64 (e+(Ab .u64 f)));let h:=(Ab .i64 (b-1));a (c,g,h))) (some (vU d,[]))
theorem az2(N:Nat):LB (af4 N) xt (zO N):=λ_ _=>by kernel_rfl
def wF(N:Nat)(a:Bs)(b:cZ->Ro):Ro:=let c:=(↑(Aa a):Int);let d:=(Ab .i64 (c-1));b (a,0,d)
def acP(N:Nat)(a:Bs):Ro:=wF N a (λz=>aO N (zO N) z)
def aHi(N:Nat):List (Nat×(TS)):=cT qV N aip (fin aF)++[]
theorem aCI(N:Nat)(a:Bs):callF qV N 20 aF aip [.str a] []=acP N a:=
 ((bD (aHi N) (by kernel_rfl) rfl (λC=>wF N a (λz=>C 1000000 (xt z))) (λC=>by kernel_rfl)).trans (AB (b:=wF N a (λz=>aZ N (af4 N) (xt z))) (by kernel_rfl) (congrArg (wF N a) (funext λz=>aU (xt) (af4 N) (zO N) (az2 N) N z))))
theorem aFa(c:bC Tryz.prog qV)(N:Nat)(a:Bs){v:V}{hp:List aK}(h:acP N a=some (v,hp)):aH Tryz.prog 57 [.str a] v:=by have b:=aCG;simp only[Ac] at b;exact⟨hp,eu c axl Tryz.func57 az1 b.1 b.2 (by decide) ((aCI N a).trans h)⟩
def avc:Nat->List V->Option (Bool×V):=λ_ _=>none
def qW:aG:=(fa avc)
theorem axm:co qW []:=(cR _ _)
theorem az3:bC Tryz.prog qW:=by intro f vs hp v hp' h;obtain⟨h, -⟩:=du h;simp[avc] at h
def alW:IR:=Sq (Rs [Mv 7 6,Mv 8 1,Bi 9 .lss 7 8] (Cn 9 .skip (.exit 0))) (Sq (.block 1 (Rs [Mv 12 5,Mv 13 0,Pp (.bin 14 .rem 13 (kU 256)),Pp (.cvi 15 .u8 14),Pp (.bsl 16 .u8 [15] false),Pp (.b2s 17 16),Bi 18 .add 12 17,Mv 5 18] (Rg [Mv 19 0,Pp (.bin 20 .quo 19 (kU 256)),Mv 0 20]))) (Rg [Mv 10 6,Bc 11 .add 10 1,Mv 6 11]))
def alX:IR:=Rs [Mv 21 5,Mv 4 21] .ret
def aiq:IR:=Rs [Ms 4 []] (Rs [Ms 5 []] (Sq (Rs [Mi 6 0] (.block 0 (.loop [0,1,5,6,1000000] 0 alW))) alX))
def aR:List RV:=[.t 4]
theorem aCJ:(bL Tryz.prog [] 0 aiq (Tryz.f59.body.getD .skip)&&dy Tryz.prog aR Tryz.f59.results.toList)=true:=by kernel_rfl
theorem az4:Tryz.f59.body=some (Tryz.f59.body.getD .skip):=by kernel_rfl
def aCK(R:TR)(a:TS):TE:=(bo a [0,1,5,6,1000000] 0 (aQ 0 (kseq (R alX) (fin aR))))
abbrev zP:Type:=(Int×Int×Bs×Int)
def xu:zP->St:=λ(a,b,c,d)=>{env:=(vU a::vI b::(U 3 (vT c::vI d::(U 15 [])))),hp:=[]}
def af5(N:Nat):TS->TS:=λa s=>run qW N alW (aCK (run qW N) a) s
def pV(N:Nat)(a:zP->Ro):zP->Ro:=λ(c,d,b,e)=>cond (decide (e<d)) (let f:=(Ab .u8 (AQ c 256));chk (decide (Aa b+Aa ([(AC (Ad f))]:Bs)<=9223372036854775807)) (let g:=(b++([(AC (Ad f))]:Bs));let h:=(Ab .u64 (Bn c 256));let i:=(Ab .i64 (e+1));a (h,d,g,i))) (some (vT b,[]))
theorem az5(N:Nat):LB (af5 N) xu (pV N):=λ_ _=>by kernel_rfl
def acQ(N:Nat)(a b:Int)(c:zP->Ro):Ro:=c (a,b,[],0)
def air(N:Nat)(a b:Int):Ro:=acQ N a b (λz=>aO N (pV N) z)
def aHj(N:Nat):List (Nat×(TS)):=cT qW N aiq (fin aR)++[]
theorem aCL(N:Nat)(a c:Int):callF qW N 22 aR aiq [.int .u64 a,.int .i64 c] []=air N a c:=
 ((bD (aHj N) (by kernel_rfl) rfl (λC=>acQ N a c (λz=>C 1000000 (xu z))) (λC=>by kernel_rfl)).trans (AB (b:=acQ N a c (λz=>aZ N (af5 N) (xu z))) (by kernel_rfl) (congrArg (acQ N a c) (funext λz=>aU (xu) (af5 N) (pV N) (az5 N) N z))))
theorem aFb(d:bC Tryz.prog qW)(N:Nat)(a b:Int){v:V}{hp:List aK}(h:air N a b=some (v,hp)):aH Tryz.prog 59 [.int .u64 a,.int .i64 b] v:=by have c:=aCJ;simp only[Ac] at c;exact⟨hp,eu d axm Tryz.func59 az4 c.1 c.2 (by decide) ((aCL N a b).trans h)⟩
def azp:Nat->List V->Option (Bool×V):=λf vs=>match f,vs with
 |193,[.int .i64 a]=>some (true,.int .i64 (pv a))
 |197,[.str a]=>some (true,.tup [.int .u64 ((aV a).1),.int .i64 ((aV a).2.1),.int .i64 ((aV a).2.2)])
 |198,[.str a]=>some (true,.int .u64 (lw a))
 |_,_=>none
def ahy:aG:=(fa azp)
theorem az6:co ahy []:=(cR _ _)
theorem aCM(d:∀(a:Int),aH Tryz.prog 193 [vI a] (vI (pv a)))(b:∀(a:Bs),aH Tryz.prog 197 [vT a] (.tup [vU ((aV a).1),vI ((aV a).2.1),vI ((aV a).2.2)]))(c:∀(a:Bs),aH Tryz.prog 198 [vT a] (vU (lw a))):bC Tryz.prog ahy:=by
 intro f vs hp v hp' j;obtain⟨h,i⟩:=du j;subst i;unfold azp at h;split at h;·simp only[Ae,Aj] at h;obtain⟨e,rfl⟩:=h;exact((d _).dim rfl).frame rfl rfl _
 ·simp only[Ae,Aj] at h;obtain⟨e,rfl⟩:=h;exact((b _).dim rfl).frame rfl rfl _
 ·simp only[Ae,Aj] at h;obtain⟨e,rfl⟩:=h;exact((c _).dim rfl).frame rfl rfl _
 ·simp at h
def avd:IR:=Rs [Pp (.new 2 [vI 0,vI 0,vU 0,vS,vS]),Mi 3 0] (Rs [Mv 12 0,Ca 13 197 [12],Mv 11 13,Ex_ 14 0 11,Ex_ 15 1 11,Ex_ 16 2 11,Mv 4 14,Mv 5 15,Mv 3 16] (Sq (Rs [Mv 17 3,Bc 18 .neq 17 0,Mv 19 18,Gf 19 (.mov 20 4),Gf 19 (.bin 21 .quo 20 (kU 8)),Gf 19 (.bin 22 .lss 21 (kU 1)),Po 23 19 22,Mv 24 23,Gf 24 (.mov 25 4),Gf 24 (.bin 26 .quo 25 (kU 8)),Gf 24 (.bin 27 .gtr 26 (kU 536870911)),Po 28 24 27] (Cn 28 (Rs [Pp (.ld 29 5 true false 2),Sv 5 2 29,Mi 3 2] .ret) .skip)) (Rs [Mv 30 4,Pp (.bin 31 .quo 30 (kU 8)),Pp (.cvi 32 .i64 31),Mv 33 4,Pp (.bin 34 .rem 33 (kU 8)),Pp (.cvi 35 .i64 34),Fa 36 0 2,Sv 1 36 32,Fa 37 1 2,Sv 1 37 35] (Rs [Mv 38 0,Mv 39 5,Pp (.subs 40 38 (some 39) none),Mv 6 40] (Sq (Rs [Fa 41 1 2,Lo 42 41] (.block 0 (Sq (Rs [Bc 45 .eql 42 0,Mv 44 45] (Cn 44 .skip (Rg [Bc 46 .eql 42 2,Mv 44 46]))) (Cn 44 (Rs [Mv 48 6,Ca 49 197 [48],Mv 47 49,Ex_ 50 0 47,Ex_ 51 1 47,Ex_ 52 2 47,Mv 7 50,Mv 8 51,Mv 9 52] (Sq (Rs [Mv 53 9,Bc 54 .neq 53 0] (Cn 54 (Rs [Pp (.bld 55 [vI 0,vI 0,vU 0,vS,vS] []),Mv 56 9,Sv 5 2 55,Mv 3 56] .ret) .skip)) (Sq (.reg [Mv 57 5,Mv 58 8,Bi 59 .add 57 58,Mv 60 6,Mv 61 8,Pp (.subs 62 60 (some 61) none),Mv 5 59,Mv 6 62] [[],[],[0,1],[],[],[3,4],[0,1,2],rg 0 6]) (Sq (Rs [Fa 63 1 2,Lo 64 63,Bc 65 .eql 64 0] (Cn 65 (Rs [Mv 66 7,Fa 67 2 2,Sv 1 67 66] (.exit 0)) .skip)) (Sq (Rs [Mv 68 7,Mv 69 6,Pp (.lens 70 69),Pp (.cvi 71 .u64 70),Bi 72 .gtr 68 71] (Cn 72 (Rs [Pp (.bld 73 [vI 0,vI 0,vU 0,vS,vS] []),Sv 5 2 73,Mi 3 2] .ret) .skip)) (Rs [Mv 74 6,Mv 75 7,Pp (.subs 76 74 none (some 75)),Fa 77 3 2,Sv 1 77 76] (Rg [Mv 78 5,Fa 79 3 2,Lo 80 79,Pp (.lens 81 80),Bi 82 .add 78 81,Mv 5 82]))))))) (Sq (Rs [Bc 84 .eql 42 1,Mv 83 84] (Cn 83 .skip (Rg [Bc 85 .eql 42 5,Mv 83 85]))) (Cn 83 (Rs [Fa 86 1 2,Lo 87 86,Ca 88 193 [87],Mv 10 88] (Sq (Rs [Mv 89 6,Pp (.lens 90 89),Mv 91 10,Bi 92 .lss 90 91] (Cn 92 (Rs [Pp (.bld 93 [vI 0,vI 0,vU 0,vS,vS] []),Sv 5 2 93,Mi 3 2] .ret) .skip)) (Rs [Mv 94 6,Mv 95 10,Pp (.subs 96 94 none (some 95)),Ca 97 198 [96],Fa 98 2 2,Sv 1 98 97] (Rg [Mv 99 5,Mv 100 10,Bi 101 .add 99 100,Mv 5 101])))) (Rs [Pp (.bld 43 [vI 0,vI 0,vU 0,vS,vS] []),Sv 5 2 43,Mi 3 2] .ret))))))) (Rs [Mv 102 0,Mv 103 5,Pp (.subs 104 102 none (some 103)),Fa 105 4 2,Sv 1 105 104] (Rs [Pp (.ld 106 5 true false 2),Sv 5 2 106,Mi 3 0] .ret)))))))
def ave:List RV:=[.cell 2 5 true,.t 3]
theorem aFc:(bL Tryz.prog [] 0 avd (Tryz.f156.body.getD .skip)&&dy Tryz.prog ave Tryz.f156.results.toList)=true:=by kernel_rfl
theorem aCN:Tryz.f156.body=some (Tryz.f156.body.getD .skip):=by kernel_rfl
def avf(N:Nat)(b:Bs):Ro:=let F:=(!(((aV b).2.2)==0));let c:=λD C B A E Y=>(some (.tup [.agg [vI D,vI C,vU B,vT A,vT E],vI Y],[some [vI D,vI C,vU B,vT A,vT E]]):Ro);cond F (c 0 0 0 [] [] 2) (let x2:=(Ab .u64 (Bn ((aV b).1) 8));cond (decide (x2<1)) (c 0 0 0 [] [] 2) (let S:=(Ab .u64 (Bn ((aV b).1) 8));cond (decide (536870911<S)) (c 0 0 0 [] [] 2) (let n:=(Ab .u64 (Bn ((aV b).1) 8));let d:=(AQ ((aV b).1) 8);chk (decide (0<=((aV b).2.1))&&decide (((aV b).2.1)<=(↑(Aa b):Int))) (let a:=(An (Ad ((aV b).2.1)) (Ao (Aa b) b));let Z:=((Ab .i64 d)==0);cond Z (let J:=(!(((aV a).2.2)==0));cond J (c 0 0 0 [] [] ((aV a).2.2)) (let q:=(Ab .i64 (((aV b).2.1)+((aV a).2.1)));chk (decide (0<=((aV a).2.1))&&decide (((aV a).2.1)<=(↑(Aa a):Int))) (let h:=(An (Ad ((aV a).2.1)) (Ao (Aa a) a));let r:=((Ab .i64 d)==0);cond r (chk (decide (0<=q)&&decide (q<=(↑(Aa b):Int))) (let s:=(An 0 (Ao (Ad q) b));c (Ab .i64 n) (Ab .i64 d) ((aV a).1) [] s 0)) (let t:=(↑(Aa h):Int);let u:=decide ((Ab .u64 t)<((aV a).1));cond u (c 0 0 0 [] [] 2) (chk (decide (0<=((aV a).1))&&decide (((aV a).1)<=(↑(Aa h):Int))) (let o:=(An 0 (Ao (Ad ((aV a).1)) h));let v:=(↑(Aa o):Int);let i:=(Ab .i64 (q+v));chk (decide (0<=i)&&decide (i<=(↑(Aa b):Int))) (let w:=(An 0 (Ao (Ad i) b));c (Ab .i64 n) (Ab .i64 d) 0 o w 0))))))) (let x:=((Ab .i64 d)==2);cond x (let y:=(!(((aV a).2.2)==0));cond y (c 0 0 0 [] [] ((aV a).2.2)) (let g:=(Ab .i64 (((aV b).2.1)+((aV a).2.1)));chk (decide (0<=((aV a).2.1))&&decide (((aV a).2.1)<=(↑(Aa a):Int))) (let j:=(An (Ad ((aV a).2.1)) (Ao (Aa a) a));let z:=((Ab .i64 d)==0);cond z (chk (decide (0<=g)&&decide (g<=(↑(Aa b):Int))) (let H:=(An 0 (Ao (Ad g) b));c (Ab .i64 n) (Ab .i64 d) ((aV a).1) [] H 0)) (let W:=(↑(Aa j):Int);let G:=decide ((Ab .u64 W)<((aV a).1));cond G (c 0 0 0 [] [] 2) (chk (decide (0<=((aV a).1))&&decide (((aV a).1)<=(↑(Aa j):Int))) (let p:=(An 0 (Ao (Ad ((aV a).1)) j));let O:=(↑(Aa p):Int);let k:=(Ab .i64 (g+O));chk (decide (0<=k)&&decide (k<=(↑(Aa b):Int))) (let M:=(An 0 (Ao (Ad k) b));c (Ab .i64 n) (Ab .i64 d) 0 p M 0))))))) (let P:=((Ab .i64 d)==1);cond P (let e:=(pv (Ab .i64 d));let X:=(↑(Aa a):Int);cond (decide (X<e)) (c 0 0 0 [] [] 2) (chk (decide (0<=e)&&decide (e<=(↑(Aa a):Int))) (let R:=(An 0 (Ao (Ad e) a));let l:=(Ab .i64 (((aV b).2.1)+e));chk (decide (0<=l)&&decide (l<=(↑(Aa b):Int))) (let ai:=(An 0 (Ao (Ad l) b));c (Ab .i64 n) (Ab .i64 d) (lw R) [] ai 0)))) (let Q:=((Ab .i64 d)==5);cond Q (let f:=(pv (Ab .i64 d));let I:=(↑(Aa a):Int);cond (decide (I<f)) (c 0 0 0 [] [] 2) (chk (decide (0<=f)&&decide (f<=(↑(Aa a):Int))) (let L:=(An 0 (Ao (Ad f) a));let m:=(Ab .i64 (((aV b).2.1)+f));chk (decide (0<=m)&&decide (m<=(↑(Aa b):Int))) (let am:=(An 0 (Ao (Ad m) b));c (Ab .i64 n) (Ab .i64 d) (lw L) [] am 0)))) (c 0 0 0 [] [] 2))))))))
def afs(N:Nat)(a:Bs):Ro:=avf N a
theorem aFd(N:Nat)(a:Bs):callF ahy N 107 ave avd [.str a] []=afs N a:=by kernel_rfl
theorem aHk(c:bC Tryz.prog ahy)(N:Nat)(a:Bs){v:V}{hp:List aK}(h:afs N a=some (v,hp)):aH Tryz.prog 156 [.str a] v:=by have b:=aFc;simp only[Ac] at b;exact⟨hp,eu c az6 Tryz.func156 aCN b.1 b.2 (by decide) ((aFd N a).trans h)⟩
def asv:Nat->List V->Option (Bool×V):=λf vs=>match f,vs with
 |156,[.str a]=>some (true,.tup [.agg [.int .i64 (((eU a).1).num),.int .i64 (((eU a).1).wire),.int .u64 (((eU a).1).n),.str (((eU a).1).s),.str (((eU a).1).raw)],.int .i64 ((eU a).2)])
 |_,_=>none
def oX:aG:=(fa asv)
theorem avg:co oX []:=(cR _ _)
theorem axn(b:∀(a:Bs),aH Tryz.prog 156 [vT a] (.tup [.agg [vI (((eU a).1).num),vI (((eU a).1).wire),vU (((eU a).1).n),vT (((eU a).1).s),vT (((eU a).1).raw)],vI ((eU a).2)])):bC Tryz.prog oX:=by
 intro f vs hp v hp' d;obtain⟨h,c⟩:=du d;subst c;unfold asv at h;split at h;·simp only[Ae,Aj] at h;obtain⟨e,rfl⟩:=h;exact((b _).dim rfl).frame rfl rfl _
 ·simp at h
def aiY:IR:=Sq (Rs [Mv 10 0,Pp (.bin 11 .neq 10 (kS []))] (Cn 11 .skip (.exit 0))) (.block 1 (Rs [Mv 13 0,Ca 14 156 [13],Mv 12 14,Ex_ 15 0 12,Ex_ 16 1 12,Pp (.alr 5 5),Fz 5 5 15,Mv 6 16] (Sq (Rs [Mv 17 6,Bc 18 .neq 17 0] (Cn 18 (Rs [Mv 19 6,Pp (.mov 2 (.c (nl .record))),Mv 3 19] .ret) .skip)) (.reg [Pp (.mov 20 (.tk 4)),Ld 21 5 true 5,Pp (.bsl 22 .record [21] false),Pp (.app 23 .record (.tk 20) 22),Mv 24 0,Fa 25 4 5,Lq 26 25,Pp (.lens 27 26),Pp (.subs 28 24 (some 27) none),Pp (.mov 4 (.tk 23)),Mv 0 28] [[],[],[1],[0,1,2],[],[],[5],[5,6],rg 4 7,rg 0 3,rg 0 9]))))
def ahz:IR:=Rs [Mv 29 4,Mv 2 29,Mi 3 0] .ret
def af6:IR:=Rs [Pp (.mov 2 (.c (nl .record))),Mi 3 0] (Sq (Rs [Mv 7 0,Pp (.lens 8 7),Bc 9 .gtr 8 5000] (Cn 9 (Rs [Pp (.mov 2 (.c (nl .record))),Mi 3 3] .ret) .skip)) (Rs [Pp (.mov 4 (.c (nl .record)))] (Sq (.block 0 (.loop [0,4,1000000] 0 aiY)) ahz)))
def dB:List RV:=[.t 2,.t 3]
theorem az7:(bL Tryz.prog [] 0 af6 (Tryz.f102.body.getD .skip)&&dy Tryz.prog dB Tryz.f102.results.toList)=true:=by kernel_rfl
theorem axo:Tryz.f102.body=some (Tryz.f102.body.getD .skip):=by kernel_rfl
def az8(R:TR)(a:TS):TE:=(bo a [0,4,1000000] 0 (aQ 0 (kseq (R ahz) (fin dB))))
abbrev iW:Type:=(Bs×List bF)
def vb:iW->St:=λ(a,b)=>{env:=(vT a::(U 3 (vO .record b::(U 25 [])))),hp:=[]}
def aef(N:Nat):TS->TS:=λa s=>run oX N aiY (az8 (run oX N) a) s
def xv(N:Nat)(b:iW->Ro):iW->Ro:=λ(a,c)=>let e:=(!decide (a=[]));cond e (cond (!(((eU a).2)==0)) (some (.tup [vF .record [],vI ((eU a).2)],[])) (chk (decide ((Aa c+Aa ([⟨((eU a).1).num,((eU a).1).wire,((eU a).1).n,((eU a).1).s,((eU a).1).raw⟩]:List bF))*56<=140737488355328)) (let f:=(c++([⟨((eU a).1).num,((eU a).1).wire,((eU a).1).n,((eU a).1).s,((eU a).1).raw⟩]:List bF));let d:=(↑(Aa (((eU a).1).raw)):Int);chk (decide (0<=d)&&decide (d<=(↑(Aa a):Int))) (let g:=(An (Ad d) (Ao (Aa a) a));b (g,f))))) (some (.tup [vF .record c,vI 0],[]))
theorem axp(N:Nat):LB (aef N) vb (xv N):=λ_ _=>by kernel_rfl
def uq(N:Nat)(a:Bs)(b:iW->Ro):Ro:=let c:=(↑(Aa a):Int);cond (decide (5000<c)) (some (.tup [vF .record [],vI 3],[])) (b (a,[]))
def zQ(N:Nat)(a:Bs):Ro:=uq N a (λz=>aO N (xv N) z)
def aFe(N:Nat):List (Nat×(TS)):=cT oX N af6 (fin dB)++[]
theorem az9(N:Nat)(a:Bs):callF oX N 30 dB af6 [.str a] []=zQ N a:=
 ((bD (aFe N) (by kernel_rfl) rfl (λC=>uq N a (λz=>C 1000000 (vb z))) (λC=>by kernel_rfl)).trans (AB (b:=uq N a (λz=>aZ N (aef N) (vb z))) (by kernel_rfl) (congrArg (uq N a) (funext λz=>aU (vb) (aef N) (xv N) (axp N) N z))))
theorem aCO(c:bC Tryz.prog oX)(N:Nat)(a:Bs){v:V}{hp:List aK}(h:zQ N a=some (v,hp)):aH Tryz.prog 102 [.str a] v:=by have b:=az7;simp only[Ac] at b;exact⟨hp,eu c avg Tryz.func102 axo b.1 b.2 (by decide) ((az9 N a).trans h)⟩
def aot:Nat->List V->Option (Bool×V):=λf vs=>match f,vs with
 |56,[.str a]=>some (true,.tup [.int .u64 ((aV a).1),.int .i64 ((aV a).2.1),.int .i64 ((aV a).2.2)])
 |57,[.str a]=>some (true,.int .u64 (lw a))
 |_,_=>none
def mT:aG:=(fa aot)
theorem atw:co mT []:=(cR _ _)
theorem avh(b:∀(a:Bs),aH Tryz.prog 56 [vT a] (.tup [vU ((aV a).1),vI ((aV a).2.1),vI ((aV a).2.2)]))(c:∀(a:Bs),aH Tryz.prog 57 [vT a] (vU (lw a))):bC Tryz.prog mT:=by
 intro f vs hp v hp' i;obtain⟨h,d⟩:=du i;subst d;unfold aot at h;split at h;·simp only[Ae,Aj] at h;obtain⟨e,rfl⟩:=h;exact((b _).dim rfl).frame rfl rfl _
 ·simp only[Ae,Aj] at h;obtain⟨e,rfl⟩:=h;exact((c _).dim rfl).frame rfl rfl _
 ·simp at h
def af7:IR:=Sq (Rs [Mv 20 0,Pp (.lens 21 20),Bc 22 .gtr 21 0] (Cn 22 .skip (.exit 0))) (.block 1 (Rs [Mv 24 0,Ca 25 56 [24],Mv 23 25,Ex_ 26 0 23,Ex_ 27 1 23,Ex_ 28 2 23,Mv 5 26,Mv 6 27,Mv 7 28] (Sq (Rs [Mv 29 7,Bc 30 .neq 29 0,Mv 31 30,Gf 31 (.mov 32 5),Gf 31 (.bin 33 .quo 32 (kU 8)),Gf 31 (.bin 34 .lss 33 (kU 1)),Po 35 31 34,Mv 36 35,Gf 36 (.mov 37 5),Gf 36 (.bin 38 .quo 37 (kU 8)),Gf 36 (.bin 39 .gtr 38 (kU 536870911)),Po 40 36 39] (Cn 40 (Rs [Pp (.mov 2 (.c (nl .record))),Mi 3 2] .ret) .skip)) (Rs [Mv 41 5,Pp (.bin 42 .quo 41 (kU 8)),Pp (.cvi 43 .i64 42),Mv 44 5,Pp (.bin 45 .rem 44 (kU 8)),Pp (.cvi 46 .i64 45),Pp (.bld 47 [vI 0,vI 0,vU 0,vS,vS] [(0,1,43),(1,1,46)]),Pp (.new 8 [vI 0,vI 0,vU 0,vS,vS]),Sv 5 8 47] (Rs [Mv 48 6,Mv 9 48] (Sq (Rs [Fa 49 1 8,Lo 50 49] (.block 2 (Rs [Bc 52 .eql 50 0,Mv 51 52] (Cn 51 (Rs [Mv 54 0,Mv 55 6,Pp (.subs 56 54 (some 55) none),Ca 57 56 [56],Mv 53 57,Ex_ 58 0 53,Ex_ 59 1 53,Ex_ 60 2 53,Mv 10 58,Mv 11 59,Mv 12 60] (Sq (Rs [Mv 61 12,Bc 62 .neq 61 0] (Cn 62 (Rs [Mv 63 12,Pp (.mov 2 (.c (nl .record))),Mv 3 63] .ret) .skip)) (Rg [Mv 64 10,Mv 65 6,Mv 66 11,Bi 67 .add 65 66,Fa 68 2 8,Sv 1 68 64,Mv 9 67]))) (Sq (Rs [Bc 70 .eql 50 1,Mv 69 70] (Cn 69 .skip (Rg [Bc 71 .eql 50 5,Mv 69 71]))) (Cn 69 (Rs [Mi 13 4] (Sq (Rs [Fa 72 1 8,Lo 73 72,Bc 74 .eql 73 1] (Cn 74 (Rg [Mi 13 8]) .skip)) (Sq (Rs [Mv 75 0,Pp (.lens 76 75),Mv 77 6,Bi 78 .sub 76 77,Mv 79 13,Bi 80 .lss 78 79] (Cn 80 (Rs [Pp (.mov 2 (.c (nl .record))),Mi 3 2] .ret) .skip)) (Rg [Mv 81 0,Mv 82 6,Mv 83 6,Mv 84 13,Bi 85 .add 83 84,Pp (.subs 86 81 (some 82) (some 85)),Ca 87 57 [86],Mv 88 6,Mv 89 13,Bi 90 .add 88 89,Fa 91 2 8,Sv 1 91 87,Mv 9 90])))) (Rs [Bc 93 .eql 50 2,Mv 92 93] (Cn 92 (Rs [Mv 95 0,Mv 96 6,Pp (.subs 97 95 (some 96) none),Ca 98 56 [97],Mv 94 98,Ex_ 99 0 94,Ex_ 100 1 94,Ex_ 101 2 94,Mv 14 99,Mv 15 100,Mv 16 101] (Sq (Rs [Mv 102 16,Bc 103 .neq 102 0,Mv 104 103,Gf 104 (.mov 105 14),Gf 104 (.mov 106 0),Gf 104 (.lens 107 106),Gf 104 (.mov 108 6),Gf 104 (.bin 109 .sub 107 108),Gf 104 (.mov 110 15),Gf 104 (.bin 111 .sub 109 110),Gf 104 (.cvi 112 .u64 111),Gf 104 (.bin 113 .gtr 105 112),Po 114 104 113] (Cn 114 (Rs [Pp (.mov 2 (.c (nl .record))),Mi 3 2] .ret) .skip)) (Rs [Mv 115 6,Mv 116 15,Bi 117 .add 115 116,Mv 118 14,Pp (.cvi 119 .i64 118),Bi 120 .add 117 119,Mv 9 120] (Rg [Mv 121 0,Mv 122 6,Mv 123 15,Bi 124 .add 122 123,Mv 125 9,Pp (.subs 126 121 (some 124) (some 125)),Fa 127 3 8,Sv 1 127 126])))) (Rs [Pp (.mov 2 (.c (nl .record))),Mi 3 2] .ret))))))))) (Rs [Mv 128 0,Mv 129 9,Pp (.subs 130 128 none (some 129)),Fa 131 4 8,Sv 1 131 130] (Rs [Mv 132 0,Mv 133 9,Pp (.subs 134 132 (some 133) none),Mv 0 134] (Rg [Pp (.mov 135 (.tk 4)),Pp (.ld 136 5 true false 8),Pp (.bsl 137 .record [136] false),Pp (.app 138 .record (.tk 135) 137),Pp (.mov 4 (.tk 138))])))))))))
def af8:IR:=Rs [Mv 139 4,Mv 2 139,Mi 3 0] .ret
def aeg:IR:=Rs [Pp (.mov 2 (.c (nl .record))),Mi 3 0] (Sq (Rs [Mv 17 0,Pp (.lens 18 17),Bc 19 .gtr 18 5000] (Cn 19 (Rs [Pp (.mov 2 (.c (nl .record))),Mi 3 3] .ret) .skip)) (Rs [Pp (.mov 4 (.c (nl .record)))] (Sq (.block 0 (.loop [0,4,1000000] 0 af7)) af8)))
theorem axq:(bL Tryz.prog [] 0 aeg (Tryz.f19.body.getD .skip)&&dy Tryz.prog dB Tryz.f19.results.toList)=true:=by kernel_rfl
theorem avi:Tryz.f19.body=some (Tryz.f19.body.getD .skip):=by kernel_rfl
def axr(R:TR)(a:TS):TE:=(bo a [0,4,1000000] 0 (aQ 0 (kseq (R af8) (fin dB))))
def tq:iW->St:=λ(a,b)=>{env:=(vT a::(U 3 (vO .record b::(U 135 [])))),hp:=[]}
def ace(N:Nat):TS->TS:=λa s=>run mT N af7 (axr (run mT N) a) s
def vc(N:Nat)(b:iW->Ro):iW->Ro:=λ(a,f)=>let x2:=(↑(Aa a):Int);let m:=λH F=>(some (.tup [vF .record [],vI H],F):Ro);cond (decide (0<x2)) (let x3:=(!(((aV a).2.2)==0));cond x3 (m 2 []) (let x4:=(Ab .u64 (Bn ((aV a).1) 8));cond (decide (x4<1)) (m 2 []) (let L:=(Ab .u64 (Bn ((aV a).1) 8));cond (decide (536870911<L)) (m 2 []) (let e:=(Ab .u64 (Bn ((aV a).1) 8));let c:=(AQ ((aV a).1) 8);let R:=((Ab .i64 c)==0);cond R (chk (decide (0<=((aV a).2.1))&&decide (((aV a).2.1)<=(↑(Aa a):Int))) (let s:=(An (Ad ((aV a).2.1)) (Ao (Aa a) a));let Z:=(!(((aV s).2.2)==0));cond Z (m ((aV s).2.2) [some [vI (Ab .i64 e),vI (Ab .i64 c),vU 0,vT [],vT []]]) (let g:=(Ab .i64 (((aV a).2.1)+((aV s).2.1)));chk (decide (0<=g)&&decide (g<=(↑(Aa a):Int))) (let t:=(An 0 (Ao (Ad g) a));chk (decide (0<=g)&&decide (g<=(↑(Aa a):Int))) (let af:=(An (Ad g) (Ao (Aa a) a));chk (decide ((Aa f+Aa ([⟨(Ab .i64 e),(Ab .i64 c),(aV s).1,([]:Bs),t⟩]:List bF))*56<=140737488355328)) (let ag:=(f++([⟨(Ab .i64 e),(Ab .i64 c),(aV s).1,([]:Bs),t⟩]:List bF));b (af,ag))))))) (let ah:=((Ab .i64 c)==1);cond ah (let ai:=((Ab .i64 c)==1);cond ai (let aj:=(↑(Aa a):Int);let M:=(Ab .i64 (aj-((aV a).2.1)));cond (decide (M<8)) (m 2 [some [vI (Ab .i64 e),vI (Ab .i64 c),vU 0,vT [],vT []]]) (let n:=(Ab .i64 (((aV a).2.1)+8));chk (decide (0<=n)&&decide (n<=(↑(Aa a):Int))&&(decide (0<=((aV a).2.1))&&decide (((aV a).2.1)<=n))) (let u:=(An (Ad ((aV a).2.1)) (Ao (Ad n) a));let h:=(Ab .i64 (((aV a).2.1)+8));chk (decide (0<=h)&&decide (h<=(↑(Aa a):Int))) (let v:=(An 0 (Ao (Ad h) a));chk (decide (0<=h)&&decide (h<=(↑(Aa a):Int))) (let S:=(An (Ad h) (Ao (Aa a) a));chk (decide ((Aa f+Aa ([⟨(Ab .i64 e),(Ab .i64 c),(lw u),([]:Bs),v⟩]:List bF))*56<=140737488355328)) (let am:=(f++([⟨(Ab .i64 e),(Ab .i64 c),(lw u),([]:Bs),v⟩]:List bF));b (S,am))))))) (let an:=(↑(Aa a):Int);let X:=(Ab .i64 (an-((aV a).2.1)));cond (decide (X<4)) (m 2 [some [vI (Ab .i64 e),vI (Ab .i64 c),vU 0,vT [],vT []]]) (let o:=(Ab .i64 (((aV a).2.1)+4));chk (decide (0<=o)&&decide (o<=(↑(Aa a):Int))&&(decide (0<=((aV a).2.1))&&decide (((aV a).2.1)<=o))) (let w:=(An (Ad ((aV a).2.1)) (Ao (Ad o) a));let i:=(Ab .i64 (((aV a).2.1)+4));chk (decide (0<=i)&&decide (i<=(↑(Aa a):Int))) (let x:=(An 0 (Ao (Ad i) a));chk (decide (0<=i)&&decide (i<=(↑(Aa a):Int))) (let ap:=(An (Ad i) (Ao (Aa a) a));chk (decide ((Aa f+Aa ([⟨(Ab .i64 e),(Ab .i64 c),(lw w),([]:Bs),x⟩]:List bF))*56<=140737488355328)) (let P:=(f++([⟨(Ab .i64 e),(Ab .i64 c),(lw w),([]:Bs),x⟩]:List bF));b (ap,P)))))))) (let J:=((Ab .i64 c)==5);cond J (let au:=((Ab .i64 c)==1);cond au (let E:=(↑(Aa a):Int);let aw:=(Ab .i64 (E-((aV a).2.1)));cond (decide (aw<8)) (m 2 [some [vI (Ab .i64 e),vI (Ab .i64 c),vU 0,vT [],vT []]]) (let p:=(Ab .i64 (((aV a).2.1)+8));chk (decide (0<=p)&&decide (p<=(↑(Aa a):Int))&&(decide (0<=((aV a).2.1))&&decide (((aV a).2.1)<=p))) (let y:=(An (Ad ((aV a).2.1)) (Ao (Ad p) a));let j:=(Ab .i64 (((aV a).2.1)+8));chk (decide (0<=j)&&decide (j<=(↑(Aa a):Int))) (let z:=(An 0 (Ao (Ad j) a));chk (decide (0<=j)&&decide (j<=(↑(Aa a):Int))) (let G:=(An (Ad j) (Ao (Aa a) a));chk (decide ((Aa f+Aa ([⟨(Ab .i64 e),(Ab .i64 c),(lw y),([]:Bs),z⟩]:List bF))*56<=140737488355328)) (let O:=(f++([⟨(Ab .i64 e),(Ab .i64 c),(lw y),([]:Bs),z⟩]:List bF));b (G,O))))))) (let az:=(↑(Aa a):Int);let a0:=(Ab .i64 (az-((aV a).2.1)));cond (decide (a0<4)) (m 2 [some [vI (Ab .i64 e),vI (Ab .i64 c),vU 0,vT [],vT []]]) (let q:=(Ab .i64 (((aV a).2.1)+4));chk (decide (0<=q)&&decide (q<=(↑(Aa a):Int))&&(decide (0<=((aV a).2.1))&&decide (((aV a).2.1)<=q))) (let B:=(An (Ad ((aV a).2.1)) (Ao (Ad q) a));let k:=(Ab .i64 (((aV a).2.1)+4));chk (decide (0<=k)&&decide (k<=(↑(Aa a):Int))) (let D:=(An 0 (Ao (Ad k) a));chk (decide (0<=k)&&decide (k<=(↑(Aa a):Int))) (let a1:=(An (Ad k) (Ao (Aa a) a));chk (decide ((Aa f+Aa ([⟨(Ab .i64 e),(Ab .i64 c),(lw B),([]:Bs),D⟩]:List bF))*56<=140737488355328)) (let a2:=(f++([⟨(Ab .i64 e),(Ab .i64 c),(lw B),([]:Bs),D⟩]:List bF));b (a1,a2)))))))) (let a3:=((Ab .i64 c)==2);cond a3 (chk (decide (0<=((aV a).2.1))&&decide (((aV a).2.1)<=(↑(Aa a):Int))) (let l:=(An (Ad ((aV a).2.1)) (Ao (Aa a) a));let Q:=(!(((aV l).2.2)==0));cond Q (m 2 [some [vI (Ab .i64 e),vI (Ab .i64 c),vU 0,vT [],vT []]]) (let a5:=(↑(Aa a):Int);let Y:=(Ab .i64 (a5-((aV a).2.1)));let a7:=(Ab .i64 (Y-((aV l).2.1)));let a8:=decide ((Ab .u64 a7)<((aV l).1));cond a8 (m 2 [some [vI (Ab .i64 e),vI (Ab .i64 c),vU 0,vT [],vT []]]) (let a9:=(Ab .i64 (((aV a).2.1)+((aV l).2.1)));let ba:=(Ab .i64 ((aV l).1));let d:=(Ab .i64 (a9+ba));let r:=(Ab .i64 (((aV a).2.1)+((aV l).2.1)));chk (decide (0<=d)&&decide (d<=(↑(Aa a):Int))&&(decide (0<=r)&&decide (r<=d))) (let A:=(An (Ad r) (Ao (Ad d) a));chk (decide (0<=d)&&decide (d<=(↑(Aa a):Int))) (let C:=(An 0 (Ao (Ad d) a));chk (decide (0<=d)&&decide (d<=(↑(Aa a):Int))) (let W:=(An (Ad d) (Ao (Aa a) a));chk (decide ((Aa f+Aa ([⟨(Ab .i64 e),(Ab .i64 c),0,A,C⟩]:List bF))*56<=140737488355328)) (let I:=(f++([⟨(Ab .i64 e),(Ab .i64 c),0,A,C⟩]:List bF));b (W,I))))))))) (m 2 [some [vI (Ab .i64 e),vI (Ab .i64 c),vU 0,vT [],vT []]])))))))) (some (.tup [vF .record f,vI 0],[]))
theorem avj(N:Nat):LB (ace N) tq (vc N):=λ_ _=>by kernel_rfl
def rV(N:Nat)(a:Bs)(b:iW->Ro):Ro:=let c:=(↑(Aa a):Int);cond (decide (5000<c)) (some (.tup [vF .record [],vI 3],[])) (b (a,[]))
def xw(N:Nat)(a:Bs):Ro:=rV N a (λz=>aO N (vc N) z)
def aCP(N:Nat):List (Nat×(TS)):=cT mT N aeg (fin dB)++[]
theorem axs(N:Nat)(a:Bs):callF mT N 140 dB aeg [.str a] []=xw N a:=
 ((bD (aCP N) (by kernel_rfl) rfl (λC=>rV N a (λz=>C 1000000 (tq z))) (λC=>by kernel_rfl)).trans (AB (b:=rV N a (λz=>aZ N (ace N) (tq z))) (by kernel_rfl) (congrArg (rV N a) (funext λz=>aU (tq) (ace N) (vc N) (avj N) N z))))
theorem aAa(c:bC Tryz.prog mT)(N:Nat)(a:Bs){v:V}{hp:List aK}(h:xw N a=some (v,hp)):aH Tryz.prog 19 [.str a] v:=by have b:=axq;simp only[Ac] at b;exact⟨hp,eu c atw Tryz.func19 avi b.1 b.2 (by decide) ((axs N a).trans h)⟩
def af9(N:Nat):Nat->List V->Option (Bool×V):=λf vs=>match f,vs with
 |58,[.int .u64 a]=>some (decide (1000000<=N-Ad a),.str (dK a))
 |_,_=>none
def qX(N:Nat):aG:=(fa (af9 N))
theorem akK(N:Nat):co (qX N) []:=(cR _ _)
theorem aa6(N:Nat)(b:∀(a:Int),(decide (1000000<=N-Ad a))=true->aH Tryz.prog 58 [vU a] (vT (dK a))):bC Tryz.prog (qX N):=by
 intro f vs hp v hp' e;obtain⟨h,c⟩:=du e;subst c;unfold af9 at h;split at h;·simp only[Ae,Aj] at h;obtain⟨d,rfl⟩:=h;exact((b _ d).dim rfl).frame rfl rfl _
 ·simp at h
def aeJ:IR:=Rs [Ms 2 []] (Sq (Rs [Mv 3 0,Pp (.bin 4 .lss 3 (kU 128))] (Cn 4 (Rs [Mv 5 0,Pp (.cvi 6 .u8 5),Pp (.bsl 7 .u8 [6] false),Pp (.b2s 8 7),Mv 2 8] .ret) .skip)) (Sq (.reg [Mv 9 0,Pp (.bin 10 .rem 9 (kU 128)),Pp (.cvi 11 .u8 10),Pp (.bin 12 .add 11 (.c (.int .u8 128))),Pp (.bsl 13 .u8 [12] false),Pp (.b2s 14 13),Mv 15 0,Pp (.bin 16 .quo 15 (kU 128)),Ca 17 58 [16],Bi 18 .add 14 17,Mv 2 18] [[],[0],[0,1],[0,1,2],rg 0 3,rg 0 4,[],[6],[6,7],rg 0 8,rg 0 9]) .ret))
theorem aou:(bL Tryz.prog [] 0 aeJ (Tryz.f58.body.getD .skip)&&dy Tryz.prog aF Tryz.f58.results.toList)=true:=by kernel_rfl
theorem amN:Tryz.f58.body=some (Tryz.f58.body.getD .skip):=by kernel_rfl
def aeK(N:Nat)(a:Int):Ro:=cond (decide (a<128)) (some (vT ([(AC (Ad (Ab .u8 a)))]:Bs),[])) (let d:=(Ab .u8 (AQ a 128));let c:=(Ab .u8 (d+128));let b:=(Ab .u64 (Bn a 128));chk (decide (1000000<=N-Ad b)) (chk (decide (Aa ([(AC (Ad c))]:Bs)+Aa (dK b)<=9223372036854775807)) (let e:=(([(AC (Ad c))]:Bs)++(dK b));some (vT e,[]))))
def pw(N:Nat)(a:Int):Ro:=aeK N a
theorem aov(N:Nat)(a:Int):callF (qX N) N 19 aF aeJ [.int .u64 a] []=pw N a:=by kernel_rfl
theorem aeL(N:Nat)(c:bC Tryz.prog (qX N))(a:Int){v:V}{hp:List aK}(h:pw N a=some (v,hp)):aH Tryz.prog 58 [.int .u64 a] v:=by have b:=aou;simp only[Ac] at b;exact⟨hp,eu c (akK N) Tryz.func58 amN b.1 b.2 (by decide) ((aov N a).trans h)⟩
def azq:Nat->List V->Option (Bool×V):=λf vs=>match f,vs with
 |192,[.int .u64 a]=>some (true,.str (dK a))
 |193,[.int .i64 a]=>some (true,.int .i64 (pv a))
 |_,_=>none
def ur:aG:=(fa azq)
theorem aAb:co ur []:=(cR _ _)
theorem aCQ(b:∀(a:Int),aH Tryz.prog 192 [vU a] (vT (dK a)))(c:∀(a:Int),aH Tryz.prog 193 [vI a] (vI (pv a))):bC Tryz.prog ur:=by
 intro f vs hp v hp' i;obtain⟨h,d⟩:=du i;subst d;unfold azq at h;split at h;·simp only[Ae,Aj] at h;obtain⟨e,rfl⟩:=h;exact((b _).dim rfl).frame rfl rfl _
 ·simp only[Ae,Aj] at h;obtain⟨e,rfl⟩:=h;exact((c _).dim rfl).frame rfl rfl _
 ·simp at h
def aow:IR:=Rs [Bi 52 .lss 51 50] (Sq (Cn 52 .skip (.exit 1)) (Sq (.block 2 (Rs [Mv 53 51,Mv 5 53] (Rg [Pp (.mov 54 (.tk 4)),Fa 55 2 1,Lq 56 55,Mv 57 5,Pp (.bin 58 .mul (kI 8) 57),Bi 59 .shr 56 58,Pp (.cvi 60 .u8 59),Pp (.bsl 61 .u8 [60] false),Pp (.app 62 .u8 (.tk 54) 61),Pp (.mov 4 (.tk 62))]))) (Rg [Bc 63 .add 51 1,Mv 51 63])))
def alY:IR:=Rs [Mv 64 3,Mv 65 4,Pp (.b2s 66 65),Bi 67 .add 64 66,Mv 2 67] .ret
def alZ:IR:=Rs [Ms 2 []] .ret
def akL:IR:=Rs [Bx 1 0,Ms 2 []] (Sq (Rs [Fa 6 0 1,Lq 7 6,Bc 8 .lss 7 1,Mv 9 8,Gf 9 (.fad 10 0 1),Gf 9 (.lde 11 1 false 10),Gf 9 (.bin 12 .gtr 11 (kI 536870911)),Po 13 9 12] (Cn 13 (Rs [Ms 2 []] .ret) .skip)) (Rs [Fa 14 0 1,Lq 15 14,Pp (.cvi 16 .u64 15),Pp (.bin 17 .mul 16 (kU 8)),Fa 18 1 1,Lq 19 18,Bc 20 .and 19 7,Pp (.cvi 21 .u64 20),Bi 22 .add 17 21,Ca 23 192 [22],Mv 3 23] (Sq (Rs [Fa 24 1 1,Lq 25 24] (.block 0 (Rs [Bc 27 .eql 25 0,Mv 26 27] (Cn 26 (Rs [Mv 28 3,Fa 29 2 1,Lq 30 29,Ca 31 192 [30],Bi 32 .add 28 31,Mv 2 32] .ret) (Rs [Bc 34 .eql 25 2,Mv 33 34] (Cn 33 (Sq (.reg [Mv 35 3,Fa 36 3 1,Lq 37 36,Pp (.lens 38 37),Pp (.cvi 39 .u64 38),Ca 40 192 [39],Bi 41 .add 35 40,Fa 42 3 1,Lq 43 42,Bi 44 .add 41 43,Mv 2 44] [[],[],[1],[1,2],[1,2,3],rg 1 4,rg 0 5,[],[7],rg 0 8,rg 0 9]) .ret) (Sq (Rs [Bc 46 .eql 25 1,Mv 45 46] (Cn 45 .skip (Rg [Bc 47 .eql 25 5,Mv 45 47]))) (Cn 45 (Rs [Pp (.mov 4 (.c (nl .u8)))] (Sq (Rs [Fa 48 1 1,Lq 49 48,Ca 50 193 [49],Mi 51 0] (.block 1 (.loop [1,3,4,50,51,1000000] 0 aow))) alY)) .skip)))))))) alZ)))
theorem aFf:(bL Tryz.prog [] 0 akL (Tryz.f148.body.getD .skip)&&dy Tryz.prog aF Tryz.f148.results.toList)=true:=by kernel_rfl
theorem aCR:Tryz.f148.body=some (Tryz.f148.body.getD .skip):=by kernel_rfl
def aFg(R:TR)(a:TS):TE:=(bo a [1,3,4,50,51,1000000] 0 (aQ 1 (kseq (R alY) (aQ 0 (kseq (R alZ) (fin aF))))))
abbrev acR:Type:=(Int×Int×Int×Bs×Bs×Bs×Bs×Int×Int)
def zR:acR->St:=λ(a,b,c,d,e,f,g,h,i)=>{env:=(.undef::.ea [vI a,vI b,vU c,vT d,vT e]::.undef::vT f::vO .u8 g::(U 45 (vI h::vI i::(U 16 [])))),hp:=[]}
def ais(N:Nat):TS->TS:=λa s=>run ur N aow (aFg (run ur N) a) s
def wG(N:Nat)(a:acR->Ro):acR->Ro:=λ(d,e,b,f,g,k,j,h,c)=>cond (decide (c<h)) (let n:=(Ab .i64 (8*c));chk (decide (0<=n)) (let i:=(Ab .u8 (ep .u64 b n));chk (decide ((Aa j+Aa ([(AC (Ad i))]:Bs))*1<=140737488355328)) (let l:=(j++([(AC (Ad i))]:Bs));let m:=(Ab .i64 (c+1));a (d,e,b,f,g,k,l,h,m)))) (chk (decide (Aa k+Aa j<=9223372036854775807)) (some (vT (k++j),[])))
theorem aCS(N:Nat):LB (ais N) zR (wG N):=λ_ _=>by kernel_rfl
def zS(N:Nat)(b a d:Int)(c f:Bs)(j:acR->Ro):Ro:=let g:=(some (vT [],[]):Ro);let i:=λk=>j (b,a,d,c,f,(dK k),[],(pv a),0);cond (decide (b<1)) (g) (let l:=decide (536870911<b);cond l (g) (let m:=(Ab .u64 ((Ab .u64 b)*8));let n:=(Ab .u64 (bE .and .i64 a 7));let e:=(Ab .u64 (m+n));cond (a==0) (chk (decide (Aa (dK e)+Aa (dK d)<=9223372036854775807)) (let o:=((dK e)++(dK d));some (vT o,[]))) (cond (a==2) (let p:=(↑(Aa c):Int);let h:=(dK (Ab .u64 p));chk (decide (Aa (dK e)+Aa h<=9223372036854775807)) (chk (decide (Aa ((dK e)++h)+Aa c<=9223372036854775807)) (let q:=(((dK e)++h)++c);some (vT q,[])))) (cond (a==1) (i e) (cond (a==5) (i e) (g))))))
def afu(N:Nat)(a b c:Int)(d e:Bs):Ro:=zS N a b c d e (λz=>aO N (wG N) z)
def aIO(N:Nat):List (Nat×(TS)):=cT ur N akL (fin aF)++[]
theorem aFh(N:Nat)(a c d:Int)(e f:Bs):callF ur N 68 aF akL [.agg [.int .i64 a,.int .i64 c,.int .u64 d,.str e,.str f]] []=afu N a c d e f:=
 ((bD (aIO N) (by kernel_rfl) rfl (λC=>zS N a c d e f (λz=>C 1000000 (zR z))) (λC=>by kernel_rfl)).trans (AB (b:=zS N a c d e f (λz=>aZ N (ais N) (zR z))) (by kernel_rfl) (congrArg (zS N a c d e f) (funext λz=>aU (zR) (ais N) (wG N) (aCS N) N z))))
theorem aHl(i:bC Tryz.prog ur)(N:Nat)(a b c:Int)(d e:Bs){v:V}{hp:List aK}(h:afu N a b c d e=some (v,hp)):aH Tryz.prog 148 [.agg [.int .i64 a,.int .i64 b,.int .u64 c,.str d,.str e]] v:=by have f:=aFf;simp only[Ac] at f;exact⟨hp,eu i aAb Tryz.func148 aCR f.1 f.2 (by decide) ((aFh N a b c d e).trans h)⟩
def avk:Nat->List V->Option (Bool×V):=λf vs=>match f,vs with
 |58,[.int .u64 a]=>some (true,.str (dK a))
 |59,[.int .u64 a,.int .i64 b]=>some (decide ((b:Int)<=1000),.str (gX a b))
 |_,_=>none
def afv:aG:=(fa avk)
theorem axt:co afv []:=(cR _ _)
theorem aAc(c:∀(a:Int),aH Tryz.prog 58 [vU a] (vT (dK a)))(d:∀(a:Int)(b:Int),(decide ((b:Int)<=1000))=true->aH Tryz.prog 59 [vU a,vI b] (vT (gX a b))):bC Tryz.prog afv:=by
 intro f vs hp v hp' j;obtain⟨h,i⟩:=du j;subst i;unfold avk at h;split at h;·simp only[Ae,Aj] at h;obtain⟨e,rfl⟩:=h;exact((c _).dim rfl).frame rfl rfl _
 ·simp only[Ae,Aj] at h;obtain⟨e,rfl⟩:=h;exact((d _ _ e).dim rfl).frame rfl rfl _
 ·simp at h
def asw:IR:=Rs [Bx 1 0,Ms 2 []] (Sq (Rs [Fa 4 0 1,Lq 5 4,Bc 6 .lss 5 1,Mv 7 6,Gf 7 (.fad 8 0 1),Gf 7 (.lde 9 1 false 8),Gf 7 (.bin 10 .gtr 9 (kI 536870911)),Po 11 7 10] (Cn 11 (Rs [Ms 2 []] .ret) .skip)) (Rs [Fa 12 0 1,Lq 13 12,Pp (.cvi 14 .u64 13),Pp (.bin 15 .mul 14 (kU 8)),Fa 16 1 1,Lq 17 16,Pp (.cvi 18 .u64 17),Bi 19 .add 15 18,Ca 20 58 [19],Mv 3 20] (Sq (Rs [Fa 21 1 1,Lq 22 21] (.block 0 (Rs [Bc 24 .eql 22 0,Mv 23 24] (Cn 23 (Rs [Mv 25 3,Fa 26 2 1,Lq 27 26,Ca 28 58 [27],Bi 29 .add 25 28,Mv 2 29] .ret) (Rs [Bc 31 .eql 22 1,Mv 30 31] (Cn 30 (Rs [Mv 32 3,Fa 33 2 1,Lq 34 33,Ca 35 59 [34,kI 8],Bi 36 .add 32 35,Mv 2 36] .ret) (Rs [Bc 38 .eql 22 5,Mv 37 38] (Cn 37 (Rs [Mv 39 3,Fa 40 2 1,Lq 41 40,Ca 42 59 [41,kI 4],Bi 43 .add 39 42,Mv 2 43] .ret) (Rs [Bc 45 .eql 22 2,Mv 44 45] (Cn 44 (Sq (.reg [Mv 46 3,Fa 47 3 1,Lq 48 47,Pp (.lens 49 48),Pp (.cvi 50 .u64 49),Ca 51 58 [50],Bi 52 .add 46 51,Fa 53 3 1,Lq 54 53,Bi 55 .add 52 54,Mv 2 55] [[],[],[1],[1,2],[1,2,3],rg 1 4,rg 0 5,[],[7],rg 0 8,rg 0 9]) .ret) .skip)))))))))) (Rs [Ms 2 []] .ret))))
theorem aCT:(bL Tryz.prog [] 0 asw (Tryz.f20.body.getD .skip)&&dy Tryz.prog aF Tryz.f20.results.toList)=true:=by kernel_rfl
theorem aAd:Tryz.f20.body=some (Tryz.f20.body.getD .skip):=by kernel_rfl
def asx(N:Nat)(c b a:Int)(d h:Bs):Ro:=let f:=(some (vT [],[]):Ro);cond (decide (c<1)) (f) (let i:=decide (536870911<c);cond i (f) (let j:=(Ab .u64 ((Ab .u64 c)*8));let e:=(Ab .u64 (j+(Ab .u64 b)));cond (b==0) (chk (decide (Aa (dK e)+Aa (dK a)<=9223372036854775807)) (let k:=((dK e)++(dK a));some (vT k,[]))) (cond (b==1) (chk (decide ((8:Int)<=1000)) (chk (decide (Aa (dK e)+Aa (gX a 8)<=9223372036854775807)) (let l:=((dK e)++(gX a 8));some (vT l,[])))) (cond (b==5) (chk (decide ((4:Int)<=1000)) (chk (decide (Aa (dK e)+Aa (gX a 4)<=9223372036854775807)) (let m:=((dK e)++(gX a 4));some (vT m,[])))) (cond (b==2) (let n:=(↑(Aa d):Int);let g:=(dK (Ab .u64 n));chk (decide (Aa (dK e)+Aa g<=9223372036854775807)) (chk (decide (Aa ((dK e)++g)+Aa d<=9223372036854775807)) (let o:=(((dK e)++g)++d);some (vT o,[])))) (f))))))
def acS(N:Nat)(a b c:Int)(d e:Bs):Ro:=asx N a b c d e
theorem aCU(N:Nat)(a b c:Int)(d e:Bs):callF afv N 56 aF asw [.agg [.int .i64 a,.int .i64 b,.int .u64 c,.str d,.str e]] []=acS N a b c d e:=by kernel_rfl
theorem aFi(i:bC Tryz.prog afv)(N:Nat)(a b c:Int)(d e:Bs){v:V}{hp:List aK}(h:acS N a b c d e=some (v,hp)):aH Tryz.prog 20 [.agg [.int .i64 a,.int .i64 b,.int .u64 c,.str d,.str e]] v:=by have f:=aCT;simp only[Ac] at f;exact⟨hp,eu i axt Tryz.func20 aAd f.1 f.2 (by decide) ((aCU N a b c d e).trans h)⟩
def F11(x:List UInt8×Int×Int):V×List aK:=
 match ik (10-x.2.2.toNat) (x.1.drop x.2.2.toNat) with
 |some (u,m)=>(.tup [.int .u64 ((x.2.1.toNat+128^x.2.2.toNat*u:Nat):Int),.int .i64 ((x.2.2.toNat+m:Nat):Int),.int .i64 0],[])
 |none=>(.tup [.int .u64 0,.int .i64 0,.int .i64 2],[])
theorem aCV(v c n:Nat)(i:v<128^n)(l:c<128)(m:n<=9)(j:n=9->c<=1):
  bE .or .u64 (v:Int) (ic .u64 (c:Int) ((7*n:Nat):Int))=((v+128^n*c:Nat):Int)∧v+128^n*c<2^64∧(n<9->v+128^n*c<128^(n+1)):=by
 have hp:128^n=2^(7*n):=by rw[Nat.pow_mul]
 have b:v+128^n*c<128^(n+1):=by
  rw[CA]
  calc v+128^n*c<128^n+128^n*c:=by omega
   _=128^n*(c+1):=by rw[Nat.mul_add,Cv,C0]
   _<=128^n*128:=Nat.mul_le_mul_left _ (by omega)
 have e:v+128^n*c<2^64:=by
  by_cases d:n=9
  ·subst d;have:=j rfl;have f:128^9*c<=128^9*1:=Nat.mul_le_mul_left _ this;have h:(128:Nat)^9=9223372036854775808:=by decide
   omega
  ·have f:(128:Nat)^(n+1)<=128^9:=Ct (by omega) (by omega);have h:(128:Nat)^9=9223372036854775808:=by decide
   omega
 have a:c*2^(7*n)=128^n*c:=by rw[hp,BT]
 refine⟨?_,e,λ_=>b⟩;rw[atl .u64 rfl _ _ (by show 7*n<=64;omega)];have k:c*2^(7*n)%2^IntKind.u64.bits=c*2^(7*n):=Br (by rw[a];show _<2^64;omega);rw[k,aw5 .u64 rfl _ _ (by show _<2^64;omega) (by rw[a];show _<2^64;omega)]
 congr 1
 rw[Nat.or_comm,<-Cz,<-CN (by rw[<-hp];exact i),Cz,a,C0]
theorem azr(s:List UInt8)(n:Nat)(d:n<10)(b:n<s.length):ik (10-n) (s.drop n)=
  if n=9∧1<(s.getD n 0).toNat then none
  else if (s.getD n 0).toNat<128 then some ((s.getD n 0).toNat,1)
  else match ik (10-(n+1)) (s.drop (n+1)) with
   |some (v,m)=>some ((s.getD n 0).toNat%128+128*v,m+1)
   |none=>none:=by
 have c:s.drop n=s.getD n 0::s.drop (n+1):=by rw[BD b];simp[Af,b]
 rw[c,show 10-n=(10-(n+1))+1 by omega];simp only[ik];have e:(10-(n+1)=0∧1<(s.getD n 0).toNat)↔(n=9∧1<(s.getD n 0).toNat):=by omega
 by_cases a:n=9∧1<(s.getD n 0).toNat;·rw[if_pos a,if_pos (e.2 a)]
 ·rw[if_neg a,if_neg (λh=>a (e.1 h))];rfl
structure aLj(s:List UInt8)(w i:Int):Prop where
 ex:∃n v:Nat,i=(n:Int)∧w=(v:Int)∧n<=10∧n<=s.length∧(n<=9->v<128^n)
theorem atx(N:Nat)(s:List UInt8)(L:s.length<=cj)(Q:20<N):aed N s=some (.tup [.int .u64 (aV s).1,.int .i64 (aV s).2.1,.int .i64 (aV s).2.2],[]):=by
 have Z:(s.length:Int)<=9223372036854775807:=by unfold cj at L;omega
 have key:aO N (mL N) (s,0,0)=some (F11 (s,0,0)):=by
  refine nZ (λx=>x.1=s∧aLj s x.2.1 x.2.2) (λx=>11-x.2.2.toNat) F11 ?_ N _ ⟨rfl,⟨0,0,rfl,rfl,by omega,by omega,by intro;simp⟩⟩ (by simp;omega);rintro rec ⟨d,v2,Y⟩ ⟨y,⟨n,v,z,w,X,S,O⟩⟩ f;simp only at y w z f ⊢;subst y w z;simp only[mL,F11,AK];by_cases e:n<d.length
  ·have j:decide ((n:Int)<(d.length:Int))=true:=by simpa using e
   have C:decide ((0:Int)<=(n:Int))=true:=decide_eq_true (Ch _);by_cases k:n<10
   ·have q:decide ((n:Int)<10)=true:=by simp;omega
    rw[azr d n k e];simp only[ixl,j,C,q,CF,cond_true,afp,Aq,Ah e,A8];generalize d[n]=c;have hc:=c.toNat_lt;have J:Ab .u64 ((c.toNat:Nat):Int)=(c.toNat:Int):=wA .u64 rfl _ (by show _<2^64;omega);have F:AQ (c.toNat:Int) 128=((c.toNat%128:Nat):Int):=yb _ _;have M:Ab .i64 (7*(n:Int))=((7*n:Nat):Int):=by rw[aT _ (by omega)];norm_cast
    have G:Ab .i64 ((n:Int)+1)=((n+1:Nat):Int):=by rw[aT _ (by omega)];rfl
    have D:decide ((0:Int)<=((7*n:Nat):Int))=true:=decide_eq_true (Ch _);have H:(!((128:Int)==0))=true:=rfl;have P:decide ((c.toNat:Int)<128)=decide (c.toNat<128):=by rw[BH,decide_eq_true_iff,decide_eq_true_iff];omega
    have I:decide (1<(c.toNat:Int))=decide (1<c.toNat):=by rw[BH,decide_eq_true_iff,decide_eq_true_iff];omega
    have back:(n=9->c.toNat<=1)->cond (decide (c.toNat<128)) (some (V.tup [.int .u64 (bE .or .u64 (v:Int) (ic .u64 ((c.toNat%128:Nat):Int) ((7*n:Nat):Int))),.int .i64 ((n+1:Nat):Int),.int .i64 0],([]:List aK)))
       (rec (d,bE .or .u64 (v:Int) (ic .u64 ((c.toNat%128:Nat):Int) ((7*n:Nat):Int)),((n+1:Nat):Int)))=
      some (match (if n=9∧1<c.toNat then none else if c.toNat<128 then some (c.toNat,1) else match ik (10-(n+1)) (d.drop (n+1)) with|some (v,m)=>some (c.toNat%128+128*v,m+1)|none=>none:Option (Nat×Nat)) with
       |some (u,m)=>(V.tup [.int .u64 ((v+128^n*u:Nat):Int),.int .i64 ((n+m:Nat):Int),.int .i64 0],[])
       |none=>(.tup [.int .u64 0,.int .i64 0,.int .i64 2],[])):=by
     intro t;obtain⟨E,W,A⟩:=aCV v (c.toNat%128) n (O (by omega)) (by omega) (by omega) (λh=>by have:=t h;omega);have l:¬(n=9∧1<c.toNat):=by rintro⟨B,R⟩;have:=t B;omega
     rw[if_neg l,E];by_cases b:c.toNat<128;·have:c.toNat%128=c.toNat:=Br b;simp only[b,decide_true,cond_true,if_true,this]
     ·simp only[b,decide_false,cond_false,if_false];have a:n<9:=by
       rcases AG n 9 with h|h;·exact h
       ·have:=t (by omega);omega
      rw[f (d,((v+128^n*(c.toNat%128):Nat):Int),((n+1:Nat):Int)) ⟨rfl,⟨n+1,_,rfl,rfl,by omega,by omega,λ_=>A a⟩⟩ (by simp;omega)];simp only[F11,AK];cases ik (10-(n+1)) (d.drop (n+1)) with
      |none=>rfl
      |some p=>obtain⟨u,m⟩:=p;simp only[Ae,Aj,and_true];rw[CA,Nat.mul_add,<-Nat.mul_assoc,Co,show n+1+m=n+(m+1) by omega]
    simp only[ixl,J,F,M,G,D,H,P,I,Bh,afp];by_cases a:n=9
    ·have r:((n:Int)==9)=true:=by simp[a]
     simp only[r,cond_true];by_cases i:1<c.toNat;·rw[if_pos ⟨a,i⟩,decide_eq_true i];rfl
     ·rw[decide_eq_false i];exact back (λ_=>by omega)
    ·have r:((n:Int)==9)=false:=by simp;omega
     simp only[r,cond_false];exact back (λh=>absurd h a)
   ·have q:decide ((n:Int)<10)=false:=by simp;omega
    obtain rfl:n=10:=by omega
    simp only[j,q,cond_true,cond_false];rfl
  ·have j:decide ((n:Int)<(d.length:Int))=false:=by simpa using e
   simp only[j,cond_false];rw[Dm (by omega)];cases 10-n<;>rfl
 show aO N (mL N) (s,0,0)=_;rw[key];simp only[F11,aV,DI,Bz,Nat.sub_zero];cases ik 10 s with
 |none=>rfl
 |some p=>simp
theorem arg(N:Nat)(s:List UInt8)(M:s.length<=cj)(R:20<N):acd N s=some (.tup [.int .u64 (aV s).1,.int .i64 (aV s).2.1,.int .i64 (aV s).2.2],[]):=by
 have hm:(s.length:Int)<=9223372036854775807:=by unfold cj at M;omega
 have key:aO N (kW N) (s,0,0)=some (F11 (s,0,0)):=by
  refine nZ (λx=>x.1=s∧aLj s x.2.1 x.2.2) (λx=>11-x.2.2.toNat) F11 ?_ N _ ⟨rfl,⟨0,0,rfl,rfl,by omega,by omega,by intro;simp⟩⟩ (by simp;omega);rintro rec ⟨d,v2,Z⟩ ⟨y,⟨n,v,z,w,Y,W,P⟩⟩ e;simp only at y w z e ⊢;subst y w z;simp only[kW,F11,AK];by_cases k:n<10
  ·have j:decide ((n:Int)<10)=true:=by simp;omega
   by_cases i:n<d.length
   ·have D:decide ((n:Int)<(d.length:Int))=true:=by simpa using i
    have r:((n:Int)==(d.length:Int))=false:=by simp;omega
    have C:decide ((0:Int)<=(n:Int))=true:=decide_eq_true (Ch _);rw[azr d n k i];simp only[ixl,r,D,C,j,CF,cond_false,cond_true,afp,Aq,Ah i,A8];generalize d[n]=c;have hc:=c.toNat_lt;have L:Ab .u64 ((c.toNat:Nat):Int)=(c.toNat:Int):=wA .u64 rfl _ (by show _<2^64;omega);have G:AQ (c.toNat:Int) 128=((c.toNat%128:Nat):Int):=yb _ _;have O:Ab .i64 (7*(n:Int))=((7*n:Nat):Int):=by rw[aT _ (by omega)];norm_cast
    have H:Ab .i64 ((n:Int)+1)=((n+1:Nat):Int):=by rw[aT _ (by omega)];rfl
    have E:decide ((0:Int)<=((7*n:Nat):Int))=true:=decide_eq_true (Ch _);have I:(!((128:Int)==0))=true:=rfl;have Q:decide ((c.toNat:Int)<128)=decide (c.toNat<128):=by rw[BH,decide_eq_true_iff,decide_eq_true_iff];omega
    have J:decide (1<(c.toNat:Int))=decide (1<c.toNat):=by rw[BH,decide_eq_true_iff,decide_eq_true_iff];omega
    have back:(n=9->c.toNat<=1)->cond (decide (c.toNat<128)) (some (V.tup [.int .u64 (bE .or .u64 (v:Int) (ic .u64 ((c.toNat%128:Nat):Int) ((7*n:Nat):Int))),.int .i64 ((n+1:Nat):Int),.int .i64 0],([]:List aK)))
       (rec (d,bE .or .u64 (v:Int) (ic .u64 ((c.toNat%128:Nat):Int) ((7*n:Nat):Int)),((n+1:Nat):Int)))=
      some (match (if n=9∧1<c.toNat then none else if c.toNat<128 then some (c.toNat,1) else match ik (10-(n+1)) (d.drop (n+1)) with|some (v,m)=>some (c.toNat%128+128*v,m+1)|none=>none:Option (Nat×Nat)) with
       |some (u,m)=>(V.tup [.int .u64 ((v+128^n*u:Nat):Int),.int .i64 ((n+m:Nat):Int),.int .i64 0],[])
       |none=>(.tup [.int .u64 0,.int .i64 0,.int .i64 2],[])):=by
     intro t;obtain⟨F,X,A⟩:=aCV v (c.toNat%128) n (P (by omega)) (by omega) (by omega) (λh=>by have:=t h;omega);have l:¬(n=9∧1<c.toNat):=by rintro⟨B,S⟩;have:=t B;omega
     rw[if_neg l,F];by_cases b:c.toNat<128;·have:c.toNat%128=c.toNat:=Br b;simp only[b,decide_true,cond_true,if_true,this]
     ·simp only[b,decide_false,cond_false,if_false];have a:n<9:=by
       rcases AG n 9 with h|h;·exact h
       ·have:=t (by omega);omega
      rw[e (d,((v+128^n*(c.toNat%128):Nat):Int),((n+1:Nat):Int)) ⟨rfl,⟨n+1,_,rfl,rfl,by omega,by omega,λ_=>A a⟩⟩ (by simp;omega)];simp only[F11,AK];cases ik (10-(n+1)) (d.drop (n+1)) with
      |none=>rfl
      |some p=>obtain⟨u,m⟩:=p;simp only[Ae,Aj,and_true];rw[CA,Nat.mul_add,<-Nat.mul_assoc,Co,show n+1+m=n+(m+1) by omega]
    simp only[ixl,L,G,O,H,E,I,Q,J,Bh,afp];by_cases a:n=9
    ·have q:((n:Int)==9)=true:=by simp[a]
     simp only[q,cond_true];by_cases f:1<c.toNat;·rw[if_pos ⟨a,f⟩,decide_eq_true f];rfl
     ·rw[decide_eq_false f];exact back (λ_=>by omega)
    ·have q:((n:Int)==9)=false:=by simp;omega
     simp only[q,cond_false];exact back (λh=>absurd h a)
   ·have r:((n:Int)==(d.length:Int))=true:=by simp;omega
    simp only[r,j,cond_true];rw[Dm (by omega)];cases 10-n<;>rfl
  ·have j:decide ((n:Int)<10)=false:=by simp;omega
   obtain rfl:n=10:=by omega
   simp only[j,cond_false];rfl
 show aO N (kW N) (s,0,0)=_;rw[key];simp only[F11,aV,DI,Bz,Nat.sub_zero];cases ik 10 s with
 |none=>rfl
 |some p=>simp
theorem aGz:∀(k v:Nat),v<128^(k+1)->wb (k+1) v=wb k v
 |0,v,h=>by simp at h;simp[wb,h]
 |k+1,v,h=>by
  rw[wb]
  conv=>rhs;rw[wb]
  split;·rfl
  ·rw[aGz k (v / 128) (by rw[CA] at h;exact Cu (by rw[BT];exact h))]
theorem azs(v:Nat)(h:v<2^64)(a:128<=v):wb 9 v=AC (v%128+128)::wb 9 (v / 128):=by
 rw[wb,if_neg (by omega),aGz 8 (v / 128)];have:(2:Nat)^64<=128*128^9:=by decide
 exact Cu (by omega)
theorem aCW(v:Nat)(h:v<128):wb 9 v=[AC v]:=by rw[wb,if_pos h]
def F13(x:Int×List UInt8):V×List aK:=(.str (x.2++wb 9 x.1.toNat),[])
structure aOb(w:Int)(b:List UInt8):Prop where
 ex:∃v:Nat,w=(v:Int)∧v<2^64∧v<128^(10-b.length)∧b.length<=9
theorem amO(N:Nat)(p:Int)(hp:0<=p∧p<=18446744073709551615)(A:2^64<N):yg N p=some (.str (dK p),[]):=by
 obtain⟨v,rfl⟩:∃v:Nat,p=(v:Int):=⟨p.toNat,by omega⟩
 have t:v<2^64:=by omega
 show aO N (lH N) ((v:Int),([]:List UInt8))=some (F13 ((v:Int),[]));refine nZ (λx=>aOb x.1 x.2) (λx=>x.1.toNat) F13 ?_ N _ ⟨v,rfl,t,?_,by simp⟩ (by simp;omega)
 ·rintro rec ⟨w,b⟩ ⟨v,rfl,e,j,y⟩ a;simp only at j y a ⊢;simp only[lH,F13,AK];by_cases d:128<=v
  ·have i:decide ((128:Int)<=(v:Int))=true:=decide_eq_true (by omega);have l:AQ (v:Int) 128=((v%128:Nat):Int):=yb _ _;have q:Ab .u64 (((v%128:Nat):Int)+128)=((v%128+128:Nat):Int):=by rw[dz _ (by omega)];rfl
   have k:Ab .u8 ((v%128+128:Nat):Int)=((v%128+128:Nat):Int):=jX _ (by omega);have m:ep .u64 (v:Int) 7=((v / 128:Nat):Int):=qO .u64 v 7 (by decide);have f:∀c:UInt8,decide ((b.length+[c].length)*1<=140737488355328)=true:=λc=>decide_eq_true (by simp;omega)
   have u:decide ((0:Int)<=7)=true:=rfl;have r:(!((128:Int)==0))=true:=rfl;simp only[i,cond_true,l,q,k,m,u,AK,ui r,ui (f _),afp];have z:2<=10-b.length:=by
    rcases AG (10-b.length) 2 with h|h;·have:(128:Nat)^(10-b.length)<=128^1:=Ct (by omega) (by omega);omega
    ·exact h
   rw[a (((v / 128:Nat):Int),b++[AC (v%128+128)]) ⟨v / 128,rfl,by omega,?_,by simp;omega⟩ (by simp;omega)];·simp only[F13,AK];rw[azs v e d,AP];rfl
   ·simp only[Ak,Ba];refine Cu ?_;rw[show 10-b.length=(10-(b.length+1))+1 by omega,CA,BT] at j;exact j
  ·have i:decide ((128:Int)<=(v:Int))=false:=decide_eq_false (by omega);have k:Ab .u8 (v:Int)=(v:Int):=jX _ (by omega);have f:∀c:UInt8,decide ((b.length+[c].length)*1<=140737488355328)=true:=λc=>decide_eq_true (by simp;omega)
   simp only[i,cond_false,k,AK,ui (f _)];rw[aCW v (by omega)]
 ·have:(2:Nat)^64<=128^10:=by decide
  simp;omega
theorem aty:∀(k v:Nat),(wb k v).length<=k+1
 |0,v=>by simp[wb]
 |k+1,v=>by
  rw[wb];split;·simp
  ·have:=aty k (v / 128);simp;omega
theorem zT(v:Nat)(m:v<2^64):pw (v+999999) (v:Int)=some (.str (dK v),[]):=by
 simp only[pw,aeK,dK,AK];by_cases a:v<128;·have d:decide ((v:Int)<128)=true:=decide_eq_true (by omega);have e:Ab .u8 (v:Int)=(v:Int):=jX _ (by omega);simp only[d,cond_true,e,AK];rw[aCW v a]
 ·have d:decide ((v:Int)<128)=false:=decide_eq_false (by omega);have p:AQ (v:Int) 128=((v%128:Nat):Int):=yb _ _;have q:Bn (v:Int) 128=((v / 128:Nat):Int):=akD _ _;have j:Ab .u64 ((v / 128:Nat):Int)=((v / 128:Nat):Int):=dz _ (by omega);have e:Ab .u8 ((v%128:Nat):Int)=((v%128:Nat):Int):=jX _ (by omega);have i:Ab .u8 (((v%128:Nat):Int)+128)=((v%128+128:Nat):Int):=by rw[jX _ (by omega)];rfl
  have k:(!((128:Int)==0))=true:=rfl;have f:decide (1000000<=v+999999-v / 128)=true:=decide_eq_true (by omega);have b:∀(c:UInt8)(l:List UInt8),l.length<=10->decide ([c].length+l.length<=9223372036854775807)=true:=λc l h=>decide_eq_true (by simp;omega)
  simp only[d,cond_false,q,p,j,e,i,AK,ui k,ui f,ui (b _ _ (aty 9 (v / 128)))];rw[azs v m (by omega)];rfl
theorem ahb:∀(m v:Nat),v<=m->v<2^64->aH Tryz.prog 58 [.int .u64 (v:Int)] (.str (dK v)):=by
 intro m;induction m with
 |zero=>intro v h c;refine aeL (v+999999) (aa6 _ ?_) _ (zT v c);intro d a;have:=of_decide_eq_true a;omega
 |succ m i=>
  intro v h c;refine aeL (v+999999) (aa6 _ ?_) _ (zT v c);intro d a;have a:=of_decide_eq_true a;refine aH.fits λf=>?_
  have e:=f _ (Ay.2 rfl);simp only[V.fits,BI,Bo,AN,A6] at e;simp at e;obtain⟨b,rfl⟩:∃b:Nat,d=(b:Int):=⟨d.toNat,by omega⟩
  exact i b (by omega) (by omega)
def F28(x:List UInt8×Int×Int):V×List aK:=(.int .u64 (lw x.1),[])
structure aLk(s:List UInt8)(w i:Int):Prop where
 ex:∃j:Nat,i=(j:Int)-1∧j<=s.length∧w=((akI (s.drop j)%2^64:Nat):Int)
theorem aNi(a c:Nat)(e:a<2^64)(f:c<256):bE .or .u64 (ic .u64 (a:Int) 8) (c:Int)=(((a*256+c)%2^64:Nat):Int):=by
 have b:ic .u64 (a:Int) 8=((a*2^8%2^64:Nat):Int):=atl .u64 rfl a 8 (by decide);have d:a*2^8%2^64=(a%2^56) <<<8:=by rw[Cz];omega
 rw[b,d,aw5 .u64 rfl _ _ (by rw[Cz];show _<2^64;omega) (by show _<2^64;omega)]
 congr 1
 rw[<-CN (by omega),Cz];omega
theorem aCX(s:List UInt8)(j:Nat)(h:j<s.length):akI (s.drop j)=(s.getD j 0).toNat+256*akI (s.drop (j+1)):=by rw[BD h,akI];simp[Af,h]
theorem avl(N:Nat)(s:List UInt8)(p:s.length<=cj)(t:s.length<N):zN N s=some (.int .u64 (lw s),[]):=by
 have w:(s.length:Int)<=9223372036854775807:=by unfold cj at p;omega
 have k:Ab .i64 ((s.length:Int)-1)=(s.length:Int)-1:=aT _ (by omega);simp only[zN,uo,k];refine nZ (λx=>x.1=s∧aLk s x.2.1 x.2.2) (λx=>(x.2.2+1).toNat) F28 ?_ N _ ⟨rfl,s.length,rfl,by omega,by simp[akI]⟩ (by simp;omega);rintro rec ⟨b,A,v⟩ ⟨e,j,f,z,d⟩ a;simp only at e d f a ⊢;subst e d f;simp only[xr,F28];by_cases u:0<j
 ·obtain⟨i,rfl⟩:∃i,j=i+1:=⟨j-1,by omega⟩
  have m:((i+1:Nat):Int)-1=(i:Int):=by omega
  have c:decide ((0:Int)<=(i:Int))=true:=decide_eq_true (by omega);have h:decide ((i:Int)<(b.length:Int))=true:=decide_eq_true (by omega);have r:decide ((0:Int)<=8)=true:=rfl;have y:=(b.getD i 0).toNat_lt;have l:Ab .u64 (((b.getD i 0).toNat:Nat):Int)=((b.getD i 0).toNat:Int):=dz _ (by omega);have q:Ab .i64 ((i:Int)-1)=(i:Int)-1:=aT _ (by omega);simp only[ixl,m,c,h,r,CF,cond_true,afp,AK,l,q];rw[aNi _ _ (Nat.mod_lt _ (by decide)) (by omega)];rw[a _ ⟨rfl,i,rfl,by omega,?_⟩ (by simp only;omega)];·rfl
  ·simp only;rw[aCX b i (by omega)]
   congr 1
   omega
 ·obtain rfl:j=0:=by omega
  have c:decide ((0:Int)<=((0:Nat):Int)-1)=false:=rfl;simp only[c,cond_false,Bz,lw]
theorem axu(N:Nat)(s:List UInt8)(q:s.length<=cj)(u:s.length<N):acP N s=some (.int .u64 (lw s),[]):=by
 have y:(s.length:Int)<=9223372036854775807:=by unfold cj at q;omega
 have l:Ab .i64 ((s.length:Int)-1)=(s.length:Int)-1:=aT _ (by omega);simp only[acP,wF,l];refine nZ (λx=>x.1=s∧aLk s x.2.1 x.2.2) (λx=>(x.2.2+1).toNat) F28 ?_ N _ ⟨rfl,s.length,rfl,by omega,by simp[akI]⟩ (by simp;omega);rintro rec ⟨b,A,w⟩ ⟨f,j,h,z,e⟩ a;simp only at f e h a ⊢;subst f e h;simp only[zO,F28];by_cases v:0<j
 ·obtain⟨i,rfl⟩:∃i,j=i+1:=⟨j-1,by omega⟩
  have p:((i+1:Nat):Int)-1=(i:Int):=by omega
  have d:decide ((0:Int)<=(i:Int))=true:=decide_eq_true (by omega);have k:decide ((i:Int)<(b.length:Int))=true:=decide_eq_true (by omega);have t:=(b.getD i 0).toNat_lt;have m:Ab .u64 (((b.getD i 0).toNat:Nat):Int)=((b.getD i 0).toNat:Int):=dz _ (by omega);have r:Ab .i64 ((i:Int)-1)=(i:Int)-1:=aT _ (by omega);simp only[ixl,p,d,k,CF,cond_true,afp,AK,m,r];rw[a _ ⟨rfl,i,rfl,by omega,?_⟩ (by simp only;omega)];·rfl
  ·simp only;rw[aCX b i (by omega),uj,uj];generalize akI (b.drop (i+1))=L;generalize (b.getD i 0).toNat=c at t;omega
 ·obtain rfl:j=0:=by omega
  have d:decide ((0:Int)<=((0:Nat):Int)-1)=false:=rfl;simp only[d,cond_false,Bz,lw]
theorem axv(N:Nat)(p:Int):acO N p=some (.int .i64 (pv p),[]):=by
 simp only[acO,ast,pv];by_cases h:p=1;·subst h;rfl
 ·have:(p==1)=false:=by simpa using h
  rw[this,if_neg h];rfl
def F25(x:Int×Int×List UInt8×Int):V×List aK:=(.str (x.2.2.1++zA (x.2.1-x.2.2.2).toNat x.1.toNat),[])
structure aNj(n w:Int)(b:List UInt8)(i:Int):Prop where
 ex:∃v:Nat,w=(v:Int)∧v<2^64
 i0:0<=i
 bl:(b.length:Int)=i
theorem axw(N:Nat)(p n:Int)(hp:0<=p∧p<=18446744073709551615)(B:n<=1000)(z:1000<N):air N p n=some (.str (gX p n),[]):=by
 show aO N (pV N) (p,n,([]:List UInt8),0)=_;have key:aO N (pV N) (p,n,([]:List UInt8),0)=some (F25 (p,n,([]:List UInt8),0)):=by
  refine nZ (λx=>x.2.1=n∧aNj n x.1 x.2.2.1 x.2.2.2) (λx=>(n-x.2.2.2).toNat) F25 ?_ N _ ⟨rfl,⟨p.toNat,by simp;omega,by omega⟩,by simp,by simp⟩ (by simp;omega);rintro rec ⟨A,d,l,b⟩ ⟨i,⟨v,f,C⟩,u,j⟩ a;simp only at i f u j a ⊢;subst i f;simp only[pV,F25];by_cases h:b<d
  ·have e:decide (b<d)=true:=decide_eq_true h;have y:(!((256:Int)==0))=true:=rfl;have t:AQ (v:Int) 256=((v%256:Nat):Int):=yb _ _;have m:Ab .u8 ((v%256:Nat):Int)=((v%256:Nat):Int):=jX _ (by omega);have w:Bn (v:Int) 256=((v / 256:Nat):Int):=akD _ _;have q:Ab .u64 ((v / 256:Nat):Int)=((v / 256:Nat):Int):=dz _ (by omega);have k:Ab .i64 (b+1)=b+1:=aT _ (by omega);have r:∀c:UInt8,decide (l.length+[c].length<=9223372036854775807)=true:=λc=>decide_eq_true (by simp;omega)
   simp only[e,cond_true,t,m,w,q,k,ui y,ui (r _),AK];rw[a _ ⟨rfl,⟨v / 256,rfl,by omega⟩,by simp only;omega,by simp;omega⟩ (by simp only;omega)];simp only[F25,AK];rw[show (d-b).toNat=(d-(b+1)).toNat+1 by omega,zA,AP];rfl
  ·have e:decide (b<d)=false:=decide_eq_false h;simp only[e,cond_false];rw[show (d-b).toNat=0 by omega];simp[zA]
 rw[key];simp[F25,gX]
theorem azt:∀(k:Nat)(s:List UInt8)(v n:Nat),ik k s=some (v,n)->1<=n∧n<=s.length∧n<=k∧v<128^(k-1)*2
 |0,s,v,n,h=>by simp[ik] at h
 |k+1,[],v,n,h=>by simp[ik] at h
 |k+1,c::r,v,n,h=>by
  simp only[ik] at h;have l:=c.toNat_lt;split at h;·simp at h
  ·rename_i f;split at h
   ·rename_i d;simp only[Ae,Aj] at h;obtain⟨rfl,rfl⟩:=h;refine⟨Ap _,by simp,by omega,?_⟩;rw[DR];cases k with
    |zero=>simp;omega
    |succ k=>rw[CA];have:=Nat.pow_pos (n:=k) (show 0<128 by omega);omega
   ·split at h
    ·rename_i a e b;simp only[Ae,Aj] at h;obtain⟨rfl,rfl⟩:=h;obtain⟨j,m,p,i⟩:=azt k r a e b;refine⟨by omega,by simp;omega,by omega,?_⟩;rw[DR];cases k with
     |zero=>omega
     |succ k=>rw[DR] at i;rw[CA];omega
    ·simp at h
theorem acf{s:List UInt8}{v n:Nat}(h:ik 10 s=some (v,n)):1<=n∧n<=s.length∧n<=10∧v<2^64:=by
 obtain⟨a,b,c,d⟩:=azt 10 s v n h;refine⟨a,b,c,?_⟩;have:(128:Nat)^(10-1)*2=2^64:=by decide
 omega
def zU(r:bF):V:=.agg [.int .i64 r.num,.int .i64 r.wire,.int .u64 r.n,.str r.s,.str r.raw]
theorem aAe(N:Nat)(s:List UInt8)(y:s.length<=cj):(afs N s).map (·.1)=some (.tup [zU (eU s).1,.int .i64 (eU s).2]):=by
 simp only[afs,avf,cj] at y ⊢;cases h:ik 10 s with
 |none=>simp[aV,eU,wc,h,zB,zU]
 |some p=>
  obtain⟨t,n⟩:=p;obtain⟨F,H,M,P⟩:=acf h;have b:aV s=((t:Int),(n:Int),0):=by simp[aV,h]
  have m:Ab .u64 (Bn (t:Int) 8)=((t / 8:Nat):Int):=by rw[show Bn (t:Int) 8=((t / 8:Nat):Int) from akD _ _,dz _ (by omega)]
  have j:AQ (t:Int) 8=((t%8:Nat):Int):=yb _ _;have q:Ab .i64 ((t%8:Nat):Int)=((t%8:Nat):Int):=aT _ (by omega);have l:Ab .i64 ((t / 8:Nat):Int)=((t / 8:Nat):Int):=aT _ (by omega);simp only[b,m,j,q,l,AK,AZ,Bz];have L:(s.drop n).length=s.length-n:=AL;have G:t / 8<2^61:=by omega
  have D:t%8<8:=by omega
  simp only[eU,wc,h];generalize t / 8=A at*
  generalize t%8=B at*
  generalize s.drop n=r at*
  have d:B=0∨B=1∨B=2∨B=5∨(B≠0∧B≠1∧B≠2∧B≠5):=by omega
  clear m j q l D b;by_cases a:A<1∨536870911<A
  ·rcases a with a|a;·simp(disch:=omega) only[bj,zU,zB]
   ·simp(disch:=omega) only[bj,zU,zB]
  cases i:ik 10 r with
  |none=>
   have b:aV r=(0,0,2):=by simp[aV,i]
   rcases d with rfl|rfl|rfl|rfl|⟨w,u,C,z⟩
   ·simp(disch:=omega) only[bj,zU,zB,b]
   ·by_cases e:r.length<8;all_goals simp(disch:=omega) only[bj,zU,zB,b,pv]
    rw[ii (show (n:Int)+8=((n+8:Nat):Int) by omega)];rfl
   ·simp(disch:=omega) only[bj,zU,zB,b]
   ·by_cases e:r.length<4;all_goals simp(disch:=omega) only[bj,zU,zB,b,pv]
    rw[ii (show (n:Int)+4=((n+4:Nat):Int) by omega)];rfl
   ·simp(disch:=omega) only[bj,zU,zB,b]
  |some p=>
   obtain⟨v,k⟩:=p;obtain⟨J,I,E,O⟩:=acf i;have c:aV r=((v:Int),(k:Int),0):=by simp[aV,i]
   rcases d with rfl|rfl|rfl|rfl|⟨w,u,C,z⟩
   ·simp(disch:=omega) only[bj,zU,zB,c];rw[ii (show (n:Int)+k=((n+k:Nat):Int) by omega)];rfl
   ·by_cases e:r.length<8;all_goals simp(disch:=omega) only[bj,zU,zB,c,pv]
    rw[ii (show (n:Int)+8=((n+8:Nat):Int) by omega)];rfl
   ·have x:(r.drop k).length=r.length-k:=AL;by_cases e:(r.drop k).length<v;all_goals simp(disch:=omega) only[bj,zU,zB,c]
    have f:((r.drop k).take v).length=v:=by rw[Bt];omega
    simp(disch:=omega) only[bj,f];rw[ii (show (n:Int)+k+v=((n+k+v:Nat):Int) by omega)];rfl
   ·by_cases e:r.length<4;all_goals simp(disch:=omega) only[bj,zU,zB,c,pv]
    rw[ii (show (n:Int)+4=((n+4:Nat):Int) by omega)];rfl
   ·simp(disch:=omega) only[bj,zU,zB,c]
theorem oY(s:List UInt8)(m:Nat)(h:m<=s.length):(s.take m).length=m:=by rw[Bt];omega
theorem atz{s:List UInt8}{r:bF}(h:wc s=some r):1<=r.raw.length∧r.raw.length<=s.length∧r.raw=s.take r.raw.length:=by
 have key:∀m,1<=m->m<=s.length->r.raw=s.take m->1<=r.raw.length∧r.raw.length<=s.length∧r.raw=s.take r.raw.length:=by
  intro m e b d;have:r.raw.length=m:=by rw[d,oY s m b]
  rw[this];exact⟨e,b,d⟩
 unfold wc at h;cases c:ik 10 s with
 |none=>simp[c] at h
 |some p=>
  obtain⟨t,n⟩:=p;obtain⟨e,b,d,w⟩:=acf c;have x:(s.drop n).length=s.length-n:=AL;simp only[c] at h;split at h;·simp at h
  ·split at h
   ·cases a:ik 10 (s.drop n) with
    |none=>simp[a] at h
    |some q=>obtain⟨v,k⟩:=q;obtain⟨i,l,f,u⟩:=acf a;simp only[a,Ae] at h;exact key (n+k) (by omega) (by omega) (by rw[<-h])
   ·split at h
    ·cases a:ik 10 (s.drop n) with
     |none=>simp[a] at h
     |some q=>
      obtain⟨v,k⟩:=q;obtain⟨i,l,f,u⟩:=acf a;have j:((s.drop n).drop k).length=(s.drop n).length-k:=AL;simp only[a] at h;split at h;·simp at h
      ·simp only[Ae] at h;exact key (n+k+v) (by omega) (by omega) (by rw[<-h])
    ·split at h
     ·split at h;·simp at h
      ·simp only[Ae] at h;exact key (n+8) (by omega) (by omega) (by rw[<-h])
     ·split at h
      ·split at h;·simp at h
       ·simp only[Ae] at h;exact key (n+4) (by omega) (by omega) (by rw[<-h])
      ·simp at h
theorem asy:∀(k j:Nat)(s:List UInt8),s.length<=k->s.length<=j->jh k s=jh j s
 |0,j,s,h,_=>by obtain rfl:s=[]:=Ea.1 (by omega);cases j<;>rfl
 |k+1,j,[],_,_=>by cases j<;>rfl
 |k+1,0,c::s,_,h=>by simp at h
 |k+1,j+1,c::s,b,d=>by
  simp only[jh];cases a:wc (c::s) with
  |none=>rfl
  |some r=>have:=(atz a).1;simp only;rw[asy k j _ (by simp at b ⊢;omega) (by simp at d ⊢;omega)]
theorem asz(s:List UInt8)(b:s≠[]):jh s.length s=match wc s with
  |none=>none
  |some r=>(jh (s.drop r.raw.length).length (s.drop r.raw.length)).map (r::·):=by
 cases s with
 |nil=>exact absurd rfl b
 |cons c s=>
  simp only[Ai,jh];cases a:wc (c::s) with
  |none=>rfl
  |some r=>have:=(atz a).1;simp only;rw[asy s.length ((c::s).drop r.raw.length).length _ (by simp;omega) (Ap _)];cases jh ((c::s).drop r.raw.length).length ((c::s).drop r.raw.length)<;>rfl
def uu(x:List UInt8×List bF):V:=
 match jh x.1.length x.1 with
 |some l=>.tup [.sl .record (.may false) (x.2++l),.int .i64 0]
 |none=>.tup [.sl .record (.may false) ([]:List bF),.int .i64 2]
theorem avm(l:List bF):uu ([],l)=.tup [.sl .record (.may false) l,.int .i64 0]:=by simp[uu,jh]
theorem fM{s:List UInt8}(l:List bF)(a:s≠[])(h:wc s=none):uu (s,l)=.tup [.sl .record (.may false) ([]:List bF),.int .i64 2]:=by simp only[uu];rw[asz s a,h]
theorem oZ{s:List UInt8}(l:List bF)(a:s≠[]){r:bF}(h:wc s=some r):uu (s,l)=uu (s.drop r.raw.length,l++[r]):=by simp only[uu];rw[asz s a,h];dsimp only;generalize jh (s.drop r.raw.length).length (s.drop r.raw.length)=o;cases o<;>simp
theorem azu(s:List UInt8):V.tup [.sl .record (.may false) (fo s).1,.int .i64 (fo s).2]=if 5000<s.length then V.tup [.sl .record (.may false) ([]:List bF),.int .i64 3] else uu (s,[]):=by
 unfold fo uu;split;·rfl
 ·cases jh s.length s<;>simp
structure aGA(n:Nat)(x:List UInt8×List bF):Prop where
 le:x.1.length+x.2.length<=n
theorem avn(N:Nat)(s:List UInt8)(i:s.length<=cj)(h:s.length<N):(zQ N s).map (·.1)=some (.tup [.sl .record (.may false) (fo s).1,.int .i64 (fo s).2]):=by
 rw[azu];simp only[zQ,uq,cj] at i ⊢;by_cases m:5000<s.length;·simp(disch:=omega) only[bj,]
 ·simp(disch:=omega) only[bj,];refine ahs (aGA 5000) (λx=>x.1.length) uu ?_ N _ ⟨by simp;omega⟩ h;rintro rec ⟨d,f⟩ ⟨j⟩ a;simp only at j a ⊢;simp only[xv];by_cases c:d=[]
  ·subst c;rw[avm];rfl
  ·simp only[c,decide_false,Bh,cond_true];cases b:wc d with
   |none=>rw[fM f c b];simp only[eU,b];rfl
   |some r=>
    obtain⟨l,p,k⟩:=atz b;have e:eU d=(r,0):=by simp[eU,b]
    rw[oZ f c b,<-a (d.drop r.raw.length,f++[r]) ⟨by simp;omega⟩ (by simp;omega)];simp(disch:=omega) only[bj,e,EK.bytes,jV,Ba]
theorem atA(N:Nat)(s:List UInt8)(I:s.length<=cj)(C:s.length<N):(xw N s).map (·.1)=some (.tup [.sl .record (.may false) (fo s).1,.int .i64 (fo s).2]):=by
 rw[azu];simp only[xw,rV,cj] at I ⊢;by_cases R:5000<s.length;·simp(disch:=omega) only[bj,]
 ·simp(disch:=omega) only[bj,];refine ahs (aGA 5000) (λx=>x.1.length) uu ?_ N _ ⟨by simp;omega⟩ C;rintro rec ⟨s,l⟩ ⟨j⟩ c;simp only at j c ⊢;simp only[vc];by_cases e:s=[]
  ·subst e;rw[avm];rfl
  have r:0<s.length:=Cc.2 e;cases m:ik 10 s with
  |none=>
   have D:wc s=none:=by simp[wc,m]
   rw[fM l e D];have h:aV s=(0,0,2):=by simp[aV,m]
   simp(disch:=omega) only[bj,h]
  |some p=>
  obtain⟨t,n⟩:=p;obtain⟨O,Q,Y,h4⟩:=acf m;have h:aV s=((t:Int),(n:Int),0):=by simp[aV,m]
  have y:Ab .u64 (Bn (t:Int) 8)=((t / 8:Nat):Int):=by rw[show Bn (t:Int) 8=((t / 8:Nat):Int) from akD _ _,dz _ (by omega)]
  have u:AQ (t:Int) 8=((t%8:Nat):Int):=yb _ _;have z:Ab .i64 ((t%8:Nat):Int)=((t%8:Nat):Int):=aT _ (by omega);have w:Ab .i64 ((t / 8:Nat):Int)=((t / 8:Nat):Int):=aT _ (by omega);simp only[h,y,u,z,w,AK,AZ,Bz];have X:(s.drop n).length=s.length-n:=AL;have P:t / 8<2^61:=by omega
  have H:t%8<8:=by omega
  have b:wc s=(if t / 8<1∨536870911<t / 8 then none
   else if t%8=0 then
    match ik 10 (s.drop n) with
    |none=>none
    |some (v,k)=>some ⟨(t / 8:Nat),0,(v:Nat),[],s.take (n+k)⟩
   else if t%8=2 then
    match ik 10 (s.drop n) with
    |none=>none
    |some (v,k)=>if ((s.drop n).drop k).length<v then none else some ⟨(t / 8:Nat),2,0,((s.drop n).drop k).take v,s.take (n+k+v)⟩
   else if t%8=1 then
    if (s.drop n).length<8 then none else some ⟨(t / 8:Nat),1,lw ((s.drop n).take 8),[],s.take (n+8)⟩
   else if t%8=5 then
    if (s.drop n).length<4 then none else some ⟨(t / 8:Nat),5,lw ((s.drop n).take 4),[],s.take (n+4)⟩
   else none):=by unfold wc;rw[m];rfl
  generalize t / 8=A at*
  generalize t%8=B at*
  have q:B=0∨B=1∨B=2∨B=5∨(B≠0∧B≠1∧B≠2∧B≠5):=by omega
  clear y u z w H h m;by_cases a:A<1∨536870911<A;·rw[if_pos a] at b;rw[fM l e b];rcases a with a|a<;>simp(disch:=omega) only[bj,]
  rw[if_neg a] at b;cases i:ik 10 (s.drop n) with
  |none=>
   have h:aV (s.drop n)=(0,0,2):=by simp[aV,i]
   rcases q with rfl|rfl|rfl|rfl|⟨F,E,L,J⟩
   ·simp(disch:=omega) only[bj,i] at b;rw[fM l e b];simp(disch:=omega) only[bj,h]
   ·by_cases j:(s.drop n).length<8;all_goals simp(disch:=omega) only[bj,] at b
    ·rw[fM l e b];simp(disch:=omega) only[bj,]
    ·rw[oZ l e b,<-c (s.drop (s.take (n+8)).length,l++[_]) ⟨by simp;omega⟩ (by simp;omega)];have d:(s.take (n+8)).length=n+8:=oY _ _ (by omega);have f:(s.drop n).take 8=(s.take (n+8)).drop n:=by rw[CW];congr 1;omega
     simp(disch:=omega) only[bj,EK.bytes,jV,Ba,d,f,ii (show (n:Int)+8=((n+8:Nat):Int) by omega)];rfl
   ·simp(disch:=omega) only[bj,i] at b;rw[fM l e b];simp(disch:=omega) only[bj,h]
   ·by_cases j:(s.drop n).length<4;all_goals simp(disch:=omega) only[bj,] at b
    ·rw[fM l e b];simp(disch:=omega) only[bj,]
    ·rw[oZ l e b,<-c (s.drop (s.take (n+4)).length,l++[_]) ⟨by simp;omega⟩ (by simp;omega)];have d:(s.take (n+4)).length=n+4:=oY _ _ (by omega);have f:(s.drop n).take 4=(s.take (n+4)).drop n:=by rw[CW];congr 1;omega
     simp(disch:=omega) only[bj,EK.bytes,jV,Ba,d,f,ii (show (n:Int)+4=((n+4:Nat):Int) by omega)];rfl
   ·simp(disch:=omega) only[bj,i] at b;rw[fM l e b];simp(disch:=omega) only[bj,h]
  |some p=>
   obtain⟨v,k⟩:=p;obtain⟨W,S,M,Z⟩:=acf i;have h:aV (s.drop n)=((v:Int),(k:Int),0):=by simp[aV,i]
   have G:((s.drop n).drop k).length=(s.drop n).length-k:=AL;rcases q with rfl|rfl|rfl|rfl|⟨F,E,L,J⟩
   ·simp(disch:=omega) only[bj,i] at b;rw[oZ l e b,<-c (s.drop (s.take (n+k)).length,l++[_]) ⟨by simp;omega⟩ (by simp;omega)];have d:(s.take (n+k)).length=n+k:=oY _ _ (by omega);simp(disch:=omega) only[bj,h,EK.bytes,jV,Ba,d,ii (show (n:Int)+k=((n+k:Nat):Int) by omega)];rfl
   ·by_cases j:(s.drop n).length<8;all_goals simp(disch:=omega) only[bj,] at b
    ·rw[fM l e b];simp(disch:=omega) only[bj,]
    ·rw[oZ l e b,<-c (s.drop (s.take (n+8)).length,l++[_]) ⟨by simp;omega⟩ (by simp;omega)];have d:(s.take (n+8)).length=n+8:=oY _ _ (by omega);have f:(s.drop n).take 8=(s.take (n+8)).drop n:=by rw[CW];congr 1;omega
     simp(disch:=omega) only[bj,EK.bytes,jV,Ba,d,f,ii (show (n:Int)+8=((n+8:Nat):Int) by omega)];rfl
   ·by_cases j:((s.drop n).drop k).length<v;all_goals simp(disch:=omega) only[bj,i] at b
    ·rw[fM l e b];simp(disch:=omega) only[bj,h]
    ·rw[oZ l e b,<-c (s.drop (s.take (n+k+v)).length,l++[_]) ⟨by simp;omega⟩ (by simp;omega)];have d:(s.take (n+k+v)).length=n+k+v:=oY _ _ (by omega);have f:((s.drop n).drop k).take v=(s.take (n+k+v)).drop (n+k):=by rw[CW,List.drop_drop];congr 1;omega
     simp(disch:=omega) only[bj,h,EK.bytes,jV,Ba,d,f,ii (show (n:Int)+k+v=((n+k+v:Nat):Int) by omega),ii (show (n:Int)+k=((n+k:Nat):Int) by omega)];rfl
   ·by_cases j:(s.drop n).length<4;all_goals simp(disch:=omega) only[bj,] at b
    ·rw[fM l e b];simp(disch:=omega) only[bj,]
    ·rw[oZ l e b,<-c (s.drop (s.take (n+4)).length,l++[_]) ⟨by simp;omega⟩ (by simp;omega)];have d:(s.take (n+4)).length=n+4:=oY _ _ (by omega);have f:(s.drop n).take 4=(s.take (n+4)).drop n:=by rw[CW];congr 1;omega
     simp(disch:=omega) only[bj,EK.bytes,jV,Ba,d,f,ii (show (n:Int)+4=((n+4:Nat):Int) by omega)];rfl
   ·simp(disch:=omega) only[bj,i] at b;rw[fM l e b];simp(disch:=omega) only[bj,h]
theorem aKd(n i:Nat)(a:i<8):Ab .u8 (ep .u64 (n:Int) (8*(i:Int)))=((n / 2^(8*i)%256:Nat):Int):=by rw[show (8*(i:Int))=((8*i:Nat):Int) by norm_cast,qO .u64 n (8*i) (by show 8*i<=64;omega),aGt];omega
theorem azv:∀(k v:Nat),(zA k v).length=k
 |0,v=>rfl
 |k+1,v=>by simp[zA,azv k]
def aHm(x:Int×Int×Int×List UInt8×List UInt8×List UInt8×List UInt8×Int×Int):V:=
 .str (x.2.2.2.2.2.1++(x.2.2.2.2.2.2.1++zA (x.2.2.2.2.2.2.2.1-x.2.2.2.2.2.2.2.2).toNat (x.2.2.1.toNat / 2^(8*x.2.2.2.2.2.2.2.2.toNat))))
structure aNk(x:Int×Int×Int×List UInt8×List UInt8×List UInt8×List UInt8×Int×Int):Prop where
 tl:x.2.2.2.2.2.1.length<=10
 bl:(x.2.2.2.2.2.2.1.length:Int)=x.2.2.2.2.2.2.2.2
 le:x.2.2.2.2.2.2.2.2<=x.2.2.2.2.2.2.2.1∧x.2.2.2.2.2.2.2.1<=8
 n0:0<=x.2.2.1
theorem aox(N:Nat)(A:10<N)(t:List UInt8)(y:t.length<=10)(k:Nat)(F:k<=8)(a b n:Int)(v:0<=n)(s r:List UInt8):
  (aO N (wG N) (a,b,n,s,r,t,([]:List UInt8),(k:Int),0)).map (·.1)=some (.str (t++zA k n.toNat)):=by
 refine(ahs aNk (λx=>(x.2.2.2.2.2.2.2.1-x.2.2.2.2.2.2.2.2).toNat) aHm ?_ N _ ⟨y,by simp,by simp;omega,v⟩ (by simp;omega)).trans ?_
 ·rintro rec ⟨E,B,u,D,C,w,j,c,f⟩ ⟨l,q,z,p⟩ d;simp only at l q z p d ⊢;obtain⟨i,rfl⟩:∃i:Nat,f=(i:Int):=⟨j.length,q.symm⟩
  obtain⟨m,rfl⟩:∃m:Nat,u=(m:Int):=⟨u.toNat,by omega⟩
  simp only[wG,aHm,cj,EK.bytes,jV];by_cases h:(i:Int)<c
  ·have e:=aKd m i (by omega);simp(disch:=omega) only[bj,Ba,e];rw[d _ ⟨l,by simp;omega,by simp;omega,p⟩ (by simp;omega)];simp only[aHm,AK]
   rw[show (c-(i:Int)).toNat=(c-((i:Int)+1)).toNat+1 by omega,zA,ii (show (i:Int)+1=((i+1:Nat):Int) by omega),Nat.div_div_eq_div_mul,
    show 2^(8*i)*256=2^(8*(i+1)) by rw[Nat.mul_add,Nat.pow_add]]
   simp
  ·simp(disch:=omega) only[bj,];have G:w.length+j.length<=9223372036854775807:=by omega
   rw[show (c-(i:Int)).toNat=0 by omega];simp[zA]
 ·simp[aHm]
theorem fD(v:Int):(dK v).length<=10:=aty 9 _
theorem yN(v n:Int):(gX v n).length=n.toNat:=azv _ _
theorem aAf(N:Nat)(d:10<N)(a b n:Int)(s r:List UInt8)(t:-9223372036854775808<=b∧b<=9223372036854775807)(h:0<=n)(j:s.length<=9223372036854000000):
  (afu N a b n s r).map (·.1)=some (.str (i9 ⟨a,b,n,s,r⟩)):=by
 simp only[afu,zS,i9,cj];by_cases k:a<1;·simp(disch:=omega) only[bj,or_true,true_or]
 by_cases m:536870911<a;·simp(disch:=omega) only[bj,or_true,true_or]
 have c:b=0∨b=1∨b=2∨b=5∨(b≠0∧b≠1∧b≠2∧b≠5):=by omega
 have p:=fD n;rcases c with rfl|rfl|rfl|rfl|⟨v,q,l,i⟩
 ·have e:bE .and .i64 0 7=0:=by decide
  have f:=fD (a*8+0%8);simp(disch:=omega) only[bj,e];have f:=fD (a*8+0);simp(disch:=omega) only[bj,];simp
 ·have e:bE .and .i64 1 7=1:=by decide
  simp(disch:=omega) only[bj,e,pv];exact aox N d _ (fD _) 8 (by omega) _ _ _ h _ _
 ·have e:bE .and .i64 2 7=2:=by decide
  have f:=fD (a*8+2);have u:=fD (s.length:Int);simp(disch:=omega) only[bj,e,Ak];simp
 ·have e:bE .and .i64 5 7=5:=by decide
  simp(disch:=omega) only[bj,e,pv];exact aox N d _ (fD _) 4 (by omega) _ _ _ h _ _
 ·simp(disch:=omega) only[bj,]
theorem axx(N:Nat)(a b n:Int)(s r:List UInt8)(q:-9223372036854775808<=b∧b<=9223372036854775807)(f:s.length<=9223372036854000000):
  (acS N a b n s r).map (·.1)=some (.str (i9 ⟨a,b,n,s,r⟩)):=by
 simp only[acS,asx,i9,cj];by_cases i:a<1;·simp(disch:=omega) only[bj,or_true,true_or]
 by_cases j:536870911<a;·simp(disch:=omega) only[bj,or_true,true_or]
 have c:b=0∨b=1∨b=2∨b=5∨(b≠0∧b≠1∧b≠2∧b≠5):=by omega
 have k:=fD n;have l:(gX n 4).length=4:=yN n 4;have m:(gX n 8).length=8:=yN n 8;rcases c with rfl|rfl|rfl|rfl|⟨u,p,h,e⟩
 ·have d:=fD (a*8+0);simp(disch:=omega) only[bj,];simp
 ·have d:=fD (a*8+1);simp(disch:=omega) only[bj,];simp
 ·have d:=fD (a*8+2);have t:=fD (s.length:Int);simp(disch:=omega) only[bj,Ak];simp
 ·have d:=fD (a*8+5);simp(disch:=omega) only[bj,];simp
 ·simp(disch:=omega) only[bj,]
theorem avo(a:List UInt8):aH Tryz.prog 197 [.str a] (.tup [.int .u64 ((aV a).1),.int .i64 ((aV a).2.1),.int .i64 ((aV a).2.2)]):=by
 refine aH.fits λb=>?_
 have r0:=qP (b (.str a) (by simp));exact azT au2 1000 a (atx 1000 a (by unfold cj;omega) (by omega))
theorem atB(a:List UInt8):aH Tryz.prog 56 [.str a] (.tup [.int .u64 ((aV a).1),.int .i64 ((aV a).2.1),.int .i64 ((aV a).2.2)]):=by
 refine aH.fits λb=>?_
 have r0:=qP (b (.str a) (by simp));exact axg atr 1000 a (arg 1000 a (by unfold cj;omega) (by omega))
theorem aoy(a:Int):aH Tryz.prog 192 [.int .u64 a] (.str (dK a)):=by
 refine aH.fits λb=>?_
 have r0:=jK (b (.int .u64 a) (by simp));exact atv aoq (2^64+1) a (amO (2^64+1) a r0 (by omega))
theorem aa7(a:Int):aH Tryz.prog 58 [.int .u64 a] (.str (dK a)):=by
 refine aH.fits λb=>?_
 have r0:=jK (b (.int .u64 a) (by simp));obtain⟨v,rfl⟩:∃v:Nat,a=(v:Int):=⟨a.toNat,by omega⟩
 exact ahb v v (Ap _) (by omega)
theorem al0(a:Int):aH Tryz.prog 193 [.int .i64 a] (.int .i64 (pv a)):=by
 refine aH.fits λb=>?_
 have r0:=afU (b (.int .i64 a) (by simp));exact aE8 azV 1000 a (axv _ a)
theorem axy(a:List UInt8):aH Tryz.prog 198 [.str a] (.int .u64 (lw a)):=by
 refine aH.fits λb=>?_
 have r0:=qP (b (.str a) (by simp));exact aCF axi (a.length+1) a (avl _ a (by unfold cj;omega) (by omega))
theorem aAg(a:List UInt8):aH Tryz.prog 57 [.str a] (.int .u64 (lw a)):=by
 refine aH.fits λb=>?_
 have r0:=qP (b (.str a) (by simp));exact aFa az0 (a.length+1) a (axu _ a (by unfold cj;omega) (by omega))
theorem aCY(a:List UInt8):aH Tryz.prog 156 [.str a] (.tup [.agg [.int .i64 (((eU a).1).num),.int .i64 (((eU a).1).wire),.int .u64 (((eU a).1).n),.str (((eU a).1).s),.str (((eU a).1).raw)],.int .i64 ((eU a).2)]):=by
 refine aH.fits λb=>?_
 have r0:=qP (b (.str a) (by simp));obtain⟨hp,h⟩:=aod (aAe 1000 a (by unfold cj;omega));exact aHk (aCM al0 avo axy) 1000 a h
theorem axz(a:List UInt8):aH Tryz.prog 102 [.str a] (.tup [.sl .record (.may false) ((fo a).1),.int .i64 ((fo a).2)]):=by
 refine aH.fits λb=>?_
 have r0:=qP (b (.str a) (by simp));obtain⟨hp,h⟩:=aod (avn (a.length+1) a (by unfold cj;omega) (by omega));exact aCO (axn aCY) (a.length+1) a h
theorem avp(a:List UInt8):aH Tryz.prog 19 [.str a] (.tup [.sl .record (.may false) ((fo a).1),.int .i64 ((fo a).2)]):=by
 refine aH.fits λb=>?_
 have r0:=qP (b (.str a) (by simp));obtain⟨hp,h⟩:=aod (atA (a.length+1) a (by unfold cj;omega) (by omega));exact aAa (avh atB aAg) (a.length+1) a h
theorem al1(b a:Int)(e:decide ((a:Int)<=1000)=true):aH Tryz.prog 59 [.int .u64 b,.int .i64 a] (.str (gX b a)):=by
 refine aH.fits λd=>?_
 have r0:=jK (d (.int .u64 b) (by simp));have f:=afU (d (.int .i64 a) (by simp));have c:a<=1000:=of_decide_eq_true e;exact aFb az3 1001 b a (axw _ b a r0 c (by omega))
theorem aCZ(c d e:Int)(a b:List UInt8)(j:decide (Aa a<=9223372036854000000)=true):aH Tryz.prog 148 [.agg [.int .i64 c,.int .i64 d,.int .u64 e,.str a,.str b]] (.str (i9 ⟨c,d,e,a,b⟩)):=by
 refine aH.fits λf=>?_
 have r0:=zy (f (.agg [.int .i64 c,.int .i64 d,.int .u64 e,.str a,.str b]) (by simp)) (c) (by simp);have l:=zy (f (.agg [.int .i64 c,.int .i64 d,.int .u64 e,.str a,.str b]) (by simp)) (d) (by simp);have k:=aoe (f (.agg [.int .i64 c,.int .i64 d,.int .u64 e,.str a,.str b]) (by simp)) (e) (by simp);have m:=zz (f (.agg [.int .i64 c,.int .i64 d,.int .u64 e,.str a,.str b]) (by simp)) (a) (by simp);have p:=zz (f (.agg [.int .i64 c,.int .i64 d,.int .u64 e,.str a,.str b]) (by simp)) (b) (by simp);have i:a.length<=9223372036854000000:=of_decide_eq_true j;obtain⟨hp,h⟩:=aod (aAf 1000 (by omega) c d e a b l k.1 i);exact aHl (aCQ aoy al0) 1000 c d e a b h
theorem aAh(c d e:Int)(a b:List UInt8)(j:decide (Aa a<=9223372036854000000)=true):aH Tryz.prog 20 [.agg [.int .i64 c,.int .i64 d,.int .u64 e,.str a,.str b]] (.str (i9 ⟨c,d,e,a,b⟩)):=by
 refine aH.fits λf=>?_
 have r0:=zy (f (.agg [.int .i64 c,.int .i64 d,.int .u64 e,.str a,.str b]) (by simp)) (c) (by simp);have k:=zy (f (.agg [.int .i64 c,.int .i64 d,.int .u64 e,.str a,.str b]) (by simp)) (d) (by simp);have p:=aoe (f (.agg [.int .i64 c,.int .i64 d,.int .u64 e,.str a,.str b]) (by simp)) (e) (by simp);have l:=zz (f (.agg [.int .i64 c,.int .i64 d,.int .u64 e,.str a,.str b]) (by simp)) (a) (by simp);have m:=zz (f (.agg [.int .i64 c,.int .i64 d,.int .u64 e,.str a,.str b]) (by simp)) (b) (by simp);have i:a.length<=9223372036854000000:=of_decide_eq_true j;obtain⟨hp,h⟩:=aod (axx 1000 c d e a b k i);exact aFi (aAc aa7 al1) 1000 c d e a b h
def aoz:Nat->List V->Option (Bool×V):=λ_ _=>none
def zV:aG:=(fa aoz)
theorem atC:co zV []:=(cR _ _)
theorem avq:bC Tryz.prog zV:=by intro f vs hp v hp' h;obtain⟨h, -⟩:=du h;simp[aoz] at h
def al2:IR:=Rs [Pp (.mov 2 (kU 0))] (Rs [Mv 3 0,Pp (.cvi 4 .u32 3),Pp (.cvi 5 .i32 4),Pp (.cvi 6 .i64 5),Pp (.cvi 7 .u64 6),Mv 2 7] .ret)
theorem axA:(bL Tryz.prog [] 0 al2 (Tryz.f199.body.getD .skip)&&dy Tryz.prog aF Tryz.f199.results.toList)=true:=by kernel_rfl
theorem avr:Tryz.f199.body=some (Tryz.f199.body.getD .skip):=by kernel_rfl
def al3(N:Nat)(a:Int):Ro:=let b:=(Ab .i32 (Ab .u32 a));let c:=(Ab .u64 (Ab .i64 b));some (vU c,[])
def xx(N:Nat)(a:Int):Ro:=al3 N a
theorem axB(N:Nat)(a:Int):callF zV N 8 aF al2 [.int .u64 a] []=xx N a:=by kernel_rfl
theorem aAi(c:bC Tryz.prog zV)(N:Nat)(a:Int){v:V}{hp:List aK}(h:xx N a=some (v,hp)):aH Tryz.prog 199 [.int .u64 a] v:=by have b:=axA;simp only[Ac] at b;exact⟨hp,eu c atC Tryz.func199 avr b.1 b.2 (by decide) ((axB N a).trans h)⟩
def asA:Nat->List V->Option (Bool×V):=λ_ _=>none
def acT:aG:=(fa asA)
theorem avt:co acT []:=(cR _ _)
theorem axC:bC Tryz.prog acT:=by intro f vs hp v hp' h;obtain⟨h, -⟩:=du h;simp[asA] at h
def aoA:IR:=Rs [Mi 2 0] (Sq (Rs [Mv 3 0] (.block 0 (Sq (Rs [Bc 5 .eql 3 1,Mv 4 5] (Cn 4 .skip (Rs [Bc 6 .eql 3 10,Mv 4 6] (Cn 4 .skip (Rg [Bc 7 .eql 3 12,Mv 4 7]))))) (Cn 4 (Rs [Mi 2 1] .ret) (Sq (Rs [Bc 9 .eql 3 2,Mv 8 9] (Cn 8 .skip (Rs [Bc 10 .eql 3 9,Mv 8 10] (Cn 8 .skip (Rg [Bc 11 .eql 3 11,Mv 8 11]))))) (Cn 8 (Rs [Mi 2 5] .ret) (Sq (Rs [Bc 13 .eql 3 14,Mv 12 13] (Cn 12 .skip (Rs [Bc 14 .eql 3 15,Mv 12 14] (Cn 12 .skip (Rg [Bc 15 .eql 3 16,Mv 12 15]))))) (Cn 12 (Rs [Mi 2 2] .ret) (Sq (Rs [Bc 17 .eql 3 3,Mv 16 17] (Cn 16 .skip (Rs [Bc 18 .eql 3 4,Mv 16 18] (Cn 16 .skip (Rs [Bc 19 .eql 3 5,Mv 16 19] (Cn 16 .skip (Rs [Bc 20 .eql 3 6,Mv 16 20] (Cn 16 .skip (Rs [Bc 21 .eql 3 7,Mv 16 21] (Cn 16 .skip (Rs [Bc 22 .eql 3 8,Mv 16 22] (Cn 16 .skip (Rs [Bc 23 .eql 3 13,Mv 16 23] (Cn 16 .skip (Rg [Bc 24 .eql 3 17,Mv 16 24]))))))))))))))) (Cn 16 (Rs [Mi 2 0] .ret) .skip)))))))))) (Rs [Mi 2 (-1)] .ret))
theorem aAj:(bL Tryz.prog [] 0 aoA (Tryz.f158.body.getD .skip)&&dy Tryz.prog aF Tryz.f158.results.toList)=true:=by kernel_rfl
theorem axD:Tryz.f158.body=some (Tryz.f158.body.getD .skip):=by kernel_rfl
def aga(N:Nat)(a:Int):Ro:=cond (a==1) (some (vI 1,[])) (cond (a==10) (some (vI 1,[])) (cond (a==12) (some (vI 1,[])) (cond (a==2) (some (vI 5,[])) (cond (a==9) (some (vI 5,[])) (cond (a==11) (some (vI 5,[])) (cond (a==14) (some (vI 2,[])) (cond (a==15) (some (vI 2,[])) (cond (a==16) (some (vI 2,[])) (cond (a==3) (some (vI 0,[])) (cond (a==4) (some (vI 0,[])) (cond (a==5) (some (vI 0,[])) (cond (a==6) (some (vI 0,[])) (cond (a==7) (some (vI 0,[])) (cond (a==8) (some (vI 0,[])) (cond (a==13) (some (vI 0,[])) (cond (a==17) (some (vI 0,[])) (some (vI (-1),[]))))))))))))))))))
def agb(N:Nat)(a:Int):Ro:=aga N a
theorem aAk(N:Nat)(a:Int):callF acT N 25 aF aoA [.int .i64 a] []=agb N a:=by kernel_rfl
theorem aC0(c:bC Tryz.prog acT)(N:Nat)(a:Int){v:V}{hp:List aK}(h:agb N a=some (v,hp)):aH Tryz.prog 158 [.int .i64 a] v:=by have b:=aAj;simp only[Ac] at b;exact⟨hp,eu c avt Tryz.func158 axD b.1 b.2 (by decide) ((aAk N a).trans h)⟩
def azw:Nat->List V->Option (Bool×V):=λf vs=>match f,vs with
 |199,[.int .u64 a]=>some (true,.int .u64 (xm a))
 |_,_=>none
def ahA:aG:=(fa azw)
theorem aAl:co ahA []:=(cR _ _)
theorem aC1(b:∀(a:Int),aH Tryz.prog 199 [vU a] (vU (xm a))):bC Tryz.prog ahA:=by
 intro f vs hp v hp' d;obtain⟨h,c⟩:=du d;subst c;unfold azw at h;split at h;·simp only[Ae,Aj] at h;obtain⟨e,rfl⟩:=h;exact((b _).dim rfl).frame rfl rfl _
 ·simp at h
def avu:IR:=Rs [Pp (.mov 4 (kU 0))] (Sq (Rs [Mv 7 0] (.block 0 (Sq (Rs [Bc 9 .eql 7 3,Mv 8 9] (Cn 8 .skip (Rg [Bc 10 .eql 7 17,Mv 8 10]))) (Cn 8 (Rs [Mv 11 1,Ca 12 199 [11],Mv 4 12] .ret) (Sq (Rs [Bc 14 .eql 7 5,Mv 13 14] (Cn 13 .skip (Rs [Bc 15 .eql 7 9,Mv 13 15] (Cn 13 .skip (Rs [Bc 16 .eql 7 2,Mv 13 16] (Cn 13 .skip (Rg [Bc 17 .eql 7 11,Mv 13 17]))))))) (Cn 13 (Rs [Mv 18 1,Pp (.cvi 19 .u32 18),Pp (.cvi 20 .u64 19),Mv 4 20] .ret) (Rs [Bc 22 .eql 7 13,Mv 21 22] (Cn 21 (Rs [Mv 23 1,Pp (.mx 24 true 23 (kU 1)),Mv 4 24] .ret) (Rs [Bc 26 .eql 7 7,Mv 25 26] (Cn 25 (Rs [Mv 27 1,Pp (.cvi 28 .u32 27),Pp (.cvi 29 .i32 28),Mv 5 29] (Rs [Mv 30 5,Pp (.bin 31 .shl 30 (kU 1)),Mv 32 5,Pp (.bin 33 .shr 32 (kU 31)),Bi 34 .xor 31 33,Pp (.cvi 35 .u32 34),Pp (.cvi 36 .u64 35),Mv 4 36] .ret)) (Rs [Bc 38 .eql 7 8,Mv 37 38] (Cn 37 (Rs [Mv 39 1,Pp (.cvi 40 .i64 39),Mv 6 40] (Rs [Mv 41 6,Pp (.bin 42 .shl 41 (kU 1)),Mv 43 6,Pp (.bin 44 .shr 43 (kU 63)),Bi 45 .xor 42 44,Pp (.cvi 46 .u64 45),Mv 4 46] .ret)) .skip)))))))))))) (Rs [Mv 47 1,Mv 4 47] .ret))
theorem aFj:(bL Tryz.prog [] 0 avu (Tryz.f160.body.getD .skip)&&dy Tryz.prog aR Tryz.f160.results.toList)=true:=by kernel_rfl
theorem aC2:Tryz.f160.body=some (Tryz.f160.body.getD .skip):=by kernel_rfl
def akM(N:Nat)(b a:Int):Ro:=cond (b==3) (some (vU (xm a),[])) (cond (b==17) (some (vU (xm a),[])) (cond (b==5) (let f:=(Ab .u64 (Ab .u32 a));some (vU f,[])) (cond (b==9) (let g:=(Ab .u64 (Ab .u32 a));some (vU g,[])) (cond (b==2) (let h:=(Ab .u64 (Ab .u32 a));some (vU h,[])) (cond (b==11) (let i:=(Ab .u64 (Ab .u32 a));some (vU i,[])) (cond (b==13) (let j:=(if 1<a then 1 else a);some (vU j,[])) (cond (b==7) (let e:=(Ab .i32 (Ab .u32 a));let k:=(bE .xor .i32 (ic .i32 e 1) (ep .i32 e 31));let l:=(Ab .u64 (Ab .u32 k));some (vU l,[])) (cond (b==8) (let m:=(ic .i64 (Ab .i64 a) 1);let c:=(ep .i64 (Ab .i64 a) 63);let d:=(Ab .u64 (bE .xor .i64 m c));some (vU d,[])) (some (vU a,[]))))))))))
def akN(N:Nat)(a b:Int):Ro:=akM N a b
theorem aFk(N:Nat)(a b:Int):callF ahA N 48 aR avu [.int .i64 a,.int .u64 b] []=akN N a b:=by kernel_rfl
theorem aHn(d:bC Tryz.prog ahA)(N:Nat)(a b:Int){v:V}{hp:List aK}(h:akN N a b=some (v,hp)):aH Tryz.prog 160 [.int .i64 a,.int .u64 b] v:=by have c:=aFj;simp only[Ac] at c;exact⟨hp,eu d aAl Tryz.func160 aC2 c.1 c.2 (by decide) ((aFk N a b).trans h)⟩
def asB:Nat->List V->Option (Bool×V):=λf vs=>match f,vs with
 |199,[.int .u64 a]=>some (true,.int .u64 (xm a))
 |_,_=>none
def acU:aG:=(fa asB)
theorem avv:co acU []:=(cR _ _)
theorem axE(b:∀(a:Int),aH Tryz.prog 199 [vU a] (vU (xm a))):bC Tryz.prog acU:=by
 intro f vs hp v hp' d;obtain⟨h,c⟩:=du d;subst c;unfold asB at h;split at h;·simp only[Ae,Aj] at h;obtain⟨e,rfl⟩:=h;exact((b _).dim rfl).frame rfl rfl _
 ·simp at h
def aoB:IR:=Rs [Mb 4 false] (Sq (Rs [Mv 5 0] (.block 0 (Sq (Rs [Bc 7 .eql 5 3,Mv 6 7] (Cn 6 .skip (Rs [Bc 8 .eql 5 7,Mv 6 8] (Cn 6 .skip (Rs [Bc 9 .eql 5 11,Mv 6 9] (Cn 6 .skip (Rg [Bc 10 .eql 5 17,Mv 6 10]))))))) (Cn 6 (Rs [Mv 11 1,Mv 12 1,Ca 13 199 [12],Bi 14 .eql 11 13,Mv 4 14] .ret) (Sq (Rs [Bc 16 .eql 5 5,Mv 15 16] (Cn 15 .skip (Rs [Bc 17 .eql 5 9,Mv 15 17] (Cn 15 .skip (Rg [Bc 18 .eql 5 2,Mv 15 18]))))) (Cn 15 (Rs [Mv 19 1,Pp (.bin 20 .shr 19 (kU 32)),Pp (.bin 21 .eql 20 (kU 0)),Mv 4 21] .ret) (Rs [Bc 23 .eql 5 13,Mv 22 23] (Cn 22 (Rs [Mv 24 1,Pp (.bin 25 .leq 24 (kU 1)),Mv 4 25] .ret) (Sq (Rs [Bc 27 .eql 5 4,Mv 26 27] (Cn 26 .skip (Rs [Bc 28 .eql 5 8,Mv 26 28] (Cn 26 .skip (Rs [Bc 29 .eql 5 12,Mv 26 29] (Cn 26 .skip (Rs [Bc 30 .eql 5 6,Mv 26 30] (Cn 26 .skip (Rs [Bc 31 .eql 5 10,Mv 26 31] (Cn 26 .skip (Rg [Bc 32 .eql 5 1,Mv 26 32]))))))))))) (Cn 26 (Rs [Mb 4 true] .ret) .skip)))))))))) (Rs [Mb 4 false] .ret))
theorem aAm:(bL Tryz.prog [] 0 aoB (Tryz.f190.body.getD .skip)&&dy Tryz.prog aR Tryz.f190.results.toList)=true:=by kernel_rfl
theorem axF:Tryz.f190.body=some (Tryz.f190.body.getD .skip):=by kernel_rfl
def agc(N:Nat)(a b:Int):Ro:=let c:=(some (vB (b==(xm b)),[]):Ro);let d:=(some (vB ((ep .u64 b 32)==0),[]):Ro);cond (a==3) (c) (cond (a==7) (c) (cond (a==11) (c) (cond (a==17) (c) (cond (a==5) (d) (cond (a==9) (d) (cond (a==2) (d) (cond (a==13) (some (vB (decide (b<=1)),[])) (cond (a==4) (some (vB true,[])) (cond (a==8) (some (vB true,[])) (cond (a==12) (some (vB true,[])) (cond (a==6) (some (vB true,[])) (cond (a==10) (some (vB true,[])) (cond (a==1) (some (vB true,[])) (some (vB false,[])))))))))))))))
def agd(N:Nat)(a b:Int):Ro:=agc N a b
theorem aAn(N:Nat)(a b:Int):callF acU N 33 aR aoB [.int .i64 a,.int .u64 b] []=agd N a b:=by kernel_rfl
theorem aC3(d:bC Tryz.prog acU)(N:Nat)(a b:Int){v:V}{hp:List aK}(h:agd N a b=some (v,hp)):aH Tryz.prog 190 [.int .i64 a,.int .u64 b] v:=by have c:=aAm;simp only[Ac] at c;exact⟨hp,eu d avv Tryz.func190 axF c.1 c.2 (by decide) ((aAn N a b).trans h)⟩
end Go.Proofs.YtndccphabnjkhaaGreat
namespace Go.AM
theorem aLC(a b:Int)(h:0<=b∧b<=64):ep .u64 a b=a / (2^b.toNat:Nat):=by
 unfold ep;rw[show min b.toNat IntKind.u64.bits=b.toNat from by show min _ 64=_;omega,B1 _ (DD (DO (by omega)))]
 norm_cast
theorem aLD(a b:Int)(h:0<=b∧b<=32):ep .i32 a b=a / (2^b.toNat:Nat):=by
 unfold ep;rw[show min b.toNat IntKind.i32.bits=b.toNat from by show min _ 32=_;omega,B1 _ (DD (DO (by omega)))]
 norm_cast
theorem aLE(a b:Int)(h:0<=b∧b<=64):ep .i64 a b=a / (2^b.toNat:Nat):=by
 unfold ep;rw[show min b.toNat IntKind.i64.bits=b.toNat from by show min _ 64=_;omega,B1 _ (DD (DO (by omega)))]
 norm_cast
theorem aLF(k:Nat)(b:k<=32)(a:Int)(c:0<=a∧a<=4294967295):bE .and .u32 a ((2^k-1:Nat):Int)=a%(2^k:Nat):=by
 obtain⟨n,rfl⟩:∃n:Nat,a=(n:Int):=⟨a.toNat,by omega⟩
 have hp:2^k<=2^32:=Ct (by omega) b;have d:0<2^k:=Nat.pow_pos (by omega);rw[aCo .u32 rfl _ _ (by show _<2^32;omega) (by show _<2^32;omega),DF]
 norm_cast
theorem aoC(k:Nat)(a b:Int)(h:0<=a∧a<=4294967295)(e:a%(2^k:Nat)=0)(i:0<=b∧b<(2^k:Nat))(d:k<=32):bE .or .u32 a b=a+b:=by
 obtain⟨n,rfl⟩:∃n:Nat,a=(n:Int):=⟨a.toNat,by omega⟩
 obtain⟨m,rfl⟩:∃m:Nat,b=(m:Int):=⟨b.toNat,by omega⟩
 have hp:2^k<=2^32:=Ct (by omega) d;have c:m<2^k:=by omega
 have f:n%2^k=0:=by norm_cast at e
 rw[aw5 .u32 rfl _ _ (by show _<2^32;omega) (by show _<2^32;omega)];have:n=(n / 2^k) <<<k:=by rw[Cz];have:=CJ n (2^k);rw[f,BT] at this;omega
 rw[this,<-CN c]
 norm_cast
theorem aFl(a:Int)(b:0<=a∧a<=18446744073709551615):bE .xor .u64 a 18446744073709551615=18446744073709551615-a:=by
 obtain⟨n,rfl⟩:∃n:Nat,a=(n:Int):=⟨a.toNat,by omega⟩
 have h:=aCn .u64 rfl n 18446744073709551615 (by show _<2^64;omega) (by decide);have e:n ^^^18446744073709551615=18446744073709551615-n:=by
  have:(BitVec.ofNat 64 n ^^^Dg 64).toNat=(~~~ (BitVec.ofNat 64 n)).toNat:=by rw[DU]
  rw[BitVec.toNat_xor,BitVec.toNat_not,BitVec.toNat_ofNat,Br (by omega:n<2^64)] at this;simpa using this
 rw[e] at h;rw[show (18446744073709551615:Int)=((18446744073709551615:Nat):Int) from rfl,h];omega
theorem xor_zero(k:IntKind)(b:k.signed=false)(a:Int)(c:0<=a∧a<(2^k.bits:Nat)):bE .xor k a 0=a:=by
 obtain⟨n,rfl⟩:∃n:Nat,a=(n:Int):=⟨a.toNat,by omega⟩
 have h:=aCn k b n 0 (by omega) (Nat.pow_pos (by omega));rw[show (0:Int)=((0:Nat):Int) from rfl,h,Nat.xor_zero]
end Go.AM
namespace Go.Proofs.YtndccphabnjkhaaGreat
open Go.AM
theorem atD(N:Nat)(p:Int)(hp:0<=p∧p<=18446744073709551615):xx N p=some (.int .u64 (xm p),[]):=by
 simp only[xx,al3,aol,eJ,qM,qN,mR,uj]
 congr 3
 split<;>omega
theorem aHo(k:Int):k=1∨k=2∨k=3∨k=4∨k=5∨k=6∨k=7∨k=8∨k=9∨k=10∨k=11∨k=12∨k=13∨k=14∨k=15∨k=16∨k=17∨(k<1∨17<k):=by omega
set_option maxHeartbeats 4000000 in
theorem avw(N:Nat)(k:Int):agb N k=some (.int .i64 (ei k),[]):=by
 show aga N k=_;rw[uk];rcases aHo k with rfl|rfl|rfl|rfl|rfl|rfl|rfl|rfl|rfl|rfl|rfl|rfl|rfl|rfl|rfl|rfl|rfl|h;case inr.inr.inr.inr.inr.inr.inr.inr.inr.inr.inr.inr.inr.inr.inr.inr.inr=>simp only[aga,acN];rcases h with h|h<;>simp(disch:=omega) only[bj,]
 all_goals first|rfl|simp(disch:=omega) only[bj,]
theorem azx(a:Int):(((AT 32 a).toNat:Nat):Int)=a%4294967296:=by rw[BitVec.toNat_ofInt];exact Int.toNat_of_nonneg (Int.emod_nonneg _ (by decide))
theorem aIP(a:Int):bE .xor .i32 a 0=Ab .i32 a:=by have e:bE .xor .i32 a 0=Ab .i32 ((AT 32 a ^^^0#32).toNat:Nat):=rfl;rw[e,BitVec.xor_zero,azx,qN,qN];omega
theorem aIQ(a:Int):bE .xor .i32 a (-1)=Ab .i32 (-1-a):=by
 have e:bE .xor .i32 a (-1)=Ab .i32 ((AT 32 a ^^^Dg 32).toNat:Nat):=by show Ab .i32 ((AT 32 a ^^^AT 32 (-1)).toNat:Nat)=_;rw[show AT 32 (-1)=Dg 32 from by decide]
 have d:(AT 32 a).toNat<4294967296:=(AT 32 a).isLt;have b:=azx a;rw[e,DU,BitVec.toNat_not,qN,qN];have c:((2^32-1-(AT 32 a).toNat:Nat):Int)=4294967296-1-a%4294967296:=by
  rw[<-b];generalize (AT 32 a).toNat=q at*
  omega
 rw[c];omega
theorem azy(a:Int):(((AT 64 a).toNat:Nat):Int)=a%18446744073709551616:=by rw[BitVec.toNat_ofInt];exact Int.toNat_of_nonneg (Int.emod_nonneg _ (by decide))
theorem aIR(a:Int):bE .xor .i64 a 0=Ab .i64 a:=by have e:bE .xor .i64 a 0=Ab .i64 ((AT 64 a ^^^0#64).toNat:Nat):=rfl;rw[e,BitVec.xor_zero,azy,mR,mR];omega
theorem aIS(a:Int):bE .xor .i64 a (-1)=Ab .i64 (-1-a):=by
 have e:bE .xor .i64 a (-1)=Ab .i64 ((AT 64 a ^^^Dg 64).toNat:Nat):=by show Ab .i64 ((AT 64 a ^^^AT 64 (-1)).toNat:Nat)=_;rw[show AT 64 (-1)=Dg 64 from by decide]
 have d:(AT 64 a).toNat<18446744073709551616:=(AT 64 a).isLt;have b:=azy a;rw[e,DU,BitVec.toNat_not,mR,mR];have c:((2^64-1-(AT 64 a).toNat:Nat):Int)=18446744073709551616-1-a%18446744073709551616:=by
  rw[<-b];generalize (AT 64 a).toNat=q at*
  omega
 rw[c];omega
theorem aOc(n:Int)(d:0<=n∧n<=18446744073709551615):
  Ab .u64 (Ab .u32 (bE .xor .i32 (ic .i32 (Ab .i32 (Ab .u32 n)) 1) (ep .i32 (Ab .i32 (Ab .u32 n)) 31)))=(if n%4294967296<2147483648 then n%4294967296*2 else (4294967295-n%4294967296)*2+1):=by
 have a:Ab .i32 (Ab .u32 n)=if n%4294967296<2147483648 then n%4294967296 else n%4294967296-4294967296:=by simp only[qN,qM];split<;>omega
 have c:ep .i32 (Ab .i32 (Ab .u32 n)) 31=if n%4294967296<2147483648 then 0 else -1:=by rw[a,aLD _ _ (by omega)];show _ / (2147483648:Int)=_;split<;>omega
 have b:ic .i32 (Ab .i32 (Ab .u32 n)) 1=Ab .i32 ((Ab .i32 (Ab .u32 n))*2):=rfl;rw[c,b,a];by_cases h:n%4294967296<2147483648;·rw[if_pos h,if_pos h,if_pos h,aIP];simp only[qN,qM,uj];omega
 ·rw[if_neg h,if_neg h,if_neg h,aIQ];simp only[qN,qM,uj];omega
theorem aOd(n:Int)(d:0<=n∧n<=18446744073709551615):
  Ab .u64 (bE .xor .i64 (ic .i64 (Ab .i64 n) 1) (ep .i64 (Ab .i64 n) 63))=(if n<9223372036854775808 then n*2 else (18446744073709551615-n)*2+1):=by
 have a:Ab .i64 n=if n<9223372036854775808 then n else n-18446744073709551616:=by simp only[mR,qM];split<;>omega
 have c:ep .i64 (Ab .i64 n) 63=if n<9223372036854775808 then 0 else -1:=by rw[a,aLE _ _ (by omega)];show _ / (9223372036854775808:Int)=_;split<;>omega
 have b:ic .i64 (Ab .i64 n) 1=Ab .i64 ((Ab .i64 n)*2):=rfl;rw[c,b,a];by_cases h:n<9223372036854775808;·rw[if_pos h,if_pos h,if_pos h,aIR];simp only[mR,qM,uj];omega
 ·rw[if_neg h,if_neg h,if_neg h,aIS];simp only[mR,qM,uj];omega
set_option maxHeartbeats 4000000 in
theorem aAo(N:Nat)(k n:Int)(d:0<=n∧n<=18446744073709551615):akN N k n=some (.int .u64 (toR k n),[]):=by
 show akM N k n=_;have a:=aOc n d;have b:=aOd n d;have c:Ab .u64 (Ab .u32 n)=n%4294967296:=by rw[qM,dz _ (by omega)]
 simp only[akM,a,b,c];rw[aq3];unfold toD;simp only[<-aol];clear a b c;rcases aHo k with rfl|rfl|rfl|rfl|rfl|rfl|rfl|rfl|rfl|rfl|rfl|rfl|rfl|rfl|rfl|rfl|rfl|h;case inr.inr.inr.inr.inr.inr.inr.inr.inr.inr.inr.inr.inr.inr.inr.inr.inr=>rcases h with h|h<;>simp(disch:=omega) only[bj,]
 all_goals first|rfl|simp(disch:=omega) only[bj,]
set_option maxHeartbeats 4000000 in
theorem avx(N:Nat)(k n:Int)(c:0<=n∧n<=18446744073709551615):agd N k n=some (.bool (afq k n),[]):=by
 show agc N k n=_;have a:(ep .u64 n 32==0)=decide (n<4294967296):=by rw[aLC _ _ (by omega)];show (n / 4294967296==0)=_;rw[BH];simp;omega
 have b:(n==xm n)=decide (n=xm n):=by rw[BH];simp
 simp only[agc,a,b];rw[aom];unfold xl;simp only[<-aol];clear a b;rcases aHo k with rfl|rfl|rfl|rfl|rfl|rfl|rfl|rfl|rfl|rfl|rfl|rfl|rfl|rfl|rfl|rfl|rfl|h;case inr.inr.inr.inr.inr.inr.inr.inr.inr.inr.inr.inr.inr.inr.inr.inr.inr=>rcases h with h|h<;>simp(disch:=omega) only[bj,]
 all_goals first|rfl|simp(disch:=omega) only[bj,]
theorem ahB(a:Int):aH Tryz.prog 199 [.int .u64 a] (.int .u64 (xm a)):=by
 refine aH.fits λb=>?_
 have r0:=jK (b (.int .u64 a) (by simp));exact aAi avq 1000 a (atD _ a r0)
theorem axG(a:Int):aH Tryz.prog 158 [.int .i64 a] (.int .i64 (ei a)):=by
 refine aH.fits λb=>?_
 have r0:=afU (b (.int .i64 a) (by simp));exact aC0 axC 1000 a (avw _ a)
theorem aC4(a b:Int):aH Tryz.prog 160 [.int .i64 a,.int .u64 b] (.int .u64 (toR a b)):=by
 refine aH.fits λc=>?_
 have r0:=afU (c (.int .i64 a) (by simp));have d:=jK (c (.int .u64 b) (by simp));exact aHn (aC1 ahB) 1000 a b (aAo _ a b d)
theorem axH(a b:Int):aH Tryz.prog 190 [.int .i64 a,.int .u64 b] (.bool (afq a b)):=by
 refine aH.fits λc=>?_
 have r0:=afU (c (.int .i64 a) (by simp));have d:=jK (c (.int .u64 b) (by simp));exact aC3 (axE ahB) 1000 a b (avx _ a b d)
def aoD:Nat->List V->Option (Bool×V):=λ_ _=>none
def zW:aG:=(fa aoD)
theorem atE:co zW []:=(cR _ _)
theorem avy:bC Tryz.prog zW:=by intro f vs hp v hp' h;obtain⟨h, -⟩:=du h;simp[aoD] at h
def al4:IR:=Rs [Pp (.mov 4 (.c (.int .u8 0)))] (Rs [Mv 5 0,Mv 6 1,Bi 7 .shr 5 6,Pp (.bin 8 .and 7 (.c (.int .u32 63))),Pp (.bin 9 .or (.c (.int .u32 128)) 8),Pp (.cvi 10 .u8 9),Mv 4 10] .ret)
theorem axI:(bL Tryz.prog [] 0 al4 (Tryz.f241.body.getD .skip)&&dy Tryz.prog aR Tryz.f241.results.toList)=true:=by kernel_rfl
theorem avz:Tryz.f241.body=some (Tryz.f241.body.getD .skip):=by kernel_rfl
def al5(N:Nat)(b a:Int):Ro:=chk (decide (0<=a)) (let c:=(bE .and .u32 (ep .u32 b a) 63);let d:=(Ab .u8 (bE .or .u32 128 c));some (.int .u8 d,[]))
def xy(N:Nat)(a b:Int):Ro:=al5 N a b
theorem axJ(N:Nat)(a b:Int):callF zW N 11 aR al4 [.int .u32 a,.int .i64 b] []=xy N a b:=by kernel_rfl
theorem aAp(d:bC Tryz.prog zW)(N:Nat)(a b:Int){v:V}{hp:List aK}(h:xy N a b=some (v,hp)):aH Tryz.prog 241 [.int .u32 a,.int .i64 b] v:=by have c:=axI;simp only[Ac] at c;exact⟨hp,eu d atE Tryz.func241 avz c.1 c.2 (by decide) ((axJ N a b).trans h)⟩
def asC(N:Nat):Nat->List V->Option (Bool×V):=λf vs=>match f,vs with
 |226,[.int .u32 a]=>some ((decide ((a:Int)=65533)&&decide (0<N)),.str (afW a))
 |241,[.int .u32 a,.int .i64 b]=>some ((decide (0<=(b:Int))&&decide ((b:Int)<=32)),.int .u8 (n7 a b))
 |_,_=>none
def acV(N:Nat):aG:=(fa (asC N))
theorem avA(N:Nat):co (acV N) []:=(cR _ _)
theorem aiZ(N:Nat)(d:∀(a:Int),(decide ((a:Int)=65533)&&decide (0<N))=true->aH Tryz.prog 226 [.int .u32 a] (vT (afW a)))(c:∀(a:Int)(b:Int),(decide (0<=(b:Int))&&decide ((b:Int)<=32))=true->aH Tryz.prog 241 [.int .u32 a,vI b] (.int .u8 (n7 a b))):bC Tryz.prog (acV N):=by
 intro f vs hp v hp' j;obtain⟨h,i⟩:=du j;subst i;unfold asC at h;split at h;·simp only[Ae,Aj] at h;obtain⟨e,rfl⟩:=h;exact((d _ e).dim rfl).frame rfl rfl _
 ·simp only[Ae,Aj] at h;obtain⟨e,rfl⟩:=h;exact((c _ _ e).dim rfl).frame rfl rfl _
 ·simp at h
def aoE:IR:=Rs [Ms 2 []] (Sq (.block 0 (Rs [Mv 4 0,Pp (.bin 5 .lss 4 (.c (.int .u32 128))),Mv 3 5] (Cn 3 (Rs [Mv 6 0,Pp (.cvi 7 .u8 6),Pp (.bsl 8 .u8 [7] false),Pp (.b2s 9 8),Mv 2 9] .ret) (Rs [Mv 11 0,Pp (.bin 12 .lss 11 (.c (.int .u32 2048))),Mv 10 12] (Cn 10 (Rs [Mv 13 0,Pp (.bin 14 .shr 13 (kU 6)),Pp (.bin 15 .or (.c (.int .u32 192)) 14),Pp (.cvi 16 .u8 15),Mv 17 0,Ca 18 241 [17,kI 0],Pp (.bsl 19 .u8 [16,18] false),Pp (.b2s 20 19),Mv 2 20] .ret) (Rs [Mv 22 0,Pp (.bin 23 .geq 22 (.c (.int .u32 55296))),Mv 24 23,Gt 24 (.mov 25 0),Gt 24 (.bin 26 .lss 25 (.c (.int .u32 57344))),Pa 27 24 26,Mv 28 27,Gf 28 (.mov 29 0),Gf 28 (.bin 30 .gtr 29 (.c (.int .u32 1114111))),Po 31 28 30,Mv 21 31] (Cn 21 (Rs [Ca 32 226 [.c (.int .u32 65533)],Mv 2 32] .ret) (Rs [Mv 34 0,Pp (.bin 35 .lss 34 (.c (.int .u32 65536))),Mv 33 35] (Cn 33 (Rs [Mv 36 0,Pp (.bin 37 .shr 36 (kU 12)),Pp (.bin 38 .or (.c (.int .u32 224)) 37),Pp (.cvi 39 .u8 38),Mv 40 0,Ca 41 241 [40,kI 6],Mv 42 0,Ca 43 241 [42,kI 0],Pp (.bsl 44 .u8 [39,41,43] false),Pp (.b2s 45 44),Mv 2 45] .ret) .skip))))))))) (Rs [Mv 46 0,Pp (.bin 47 .shr 46 (kU 18)),Pp (.bin 48 .or (.c (.int .u32 240)) 47),Pp (.cvi 49 .u8 48),Mv 50 0,Ca 51 241 [50,kI 12],Mv 52 0,Ca 53 241 [52,kI 6],Mv 54 0,Ca 55 241 [54,kI 0],Pp (.bsl 56 .u8 [49,51,53,55] false),Pp (.b2s 57 56),Mv 2 57] .ret))
theorem aAq:(bL Tryz.prog [] 0 aoE (Tryz.f226.body.getD .skip)&&dy Tryz.prog aF Tryz.f226.results.toList)=true:=by kernel_rfl
theorem axK:Tryz.f226.body=some (Tryz.f226.body.getD .skip):=by kernel_rfl
def aoF(N:Nat)(a:Int):Ro:=let b:=(some (vT (afW 65533),[]):Ro);let d:=λc=>(some (vT ([(AC (Ad (Ab .u8 c))),(AC (Ad (n7 a 6))),(AC (Ad (n7 a 0)))]:Bs),[]):Ro);let e:=λc=>(some (vT ([(AC (Ad (Ab .u8 c))),(AC (Ad (n7 a 12))),(AC (Ad (n7 a 6))),(AC (Ad (n7 a 0)))]:Bs),[]):Ro);cond (decide (a<128)) (some (vT ([(AC (Ad (Ab .u8 a)))]:Bs),[])) (cond (decide (a<2048)) (let f:=(bE .or .u32 192 (ep .u32 a 6));chk (decide (0<=(0:Int))&&decide ((0:Int)<=32)) (some (vT ([(AC (Ad (Ab .u8 f))),(AC (Ad (n7 a 0)))]:Bs),[]))) (cond (decide (55296<=a)) (cond (decide (a<57344)) (chk (decide ((65533:Int)=65533)&&decide (0<N)) (b)) (cond (decide (1114111<a)) (chk (decide ((65533:Int)=65533)&&decide (0<N)) (b)) (cond (decide (a<65536)) (let g:=(bE .or .u32 224 (ep .u32 a 12));chk (decide (0<=(6:Int))&&decide ((6:Int)<=32)) (chk (decide (0<=(0:Int))&&decide ((0:Int)<=32)) (d g))) (let h:=(bE .or .u32 240 (ep .u32 a 18));chk (decide (0<=(12:Int))&&decide ((12:Int)<=32)) (chk (decide (0<=(6:Int))&&decide ((6:Int)<=32)) (chk (decide (0<=(0:Int))&&decide ((0:Int)<=32)) (e h))))))) (cond (decide (1114111<a)) (chk (decide ((65533:Int)=65533)&&decide (0<N)) (b)) (cond (decide (a<65536)) (let i:=(bE .or .u32 224 (ep .u32 a 12));chk (decide (0<=(6:Int))&&decide ((6:Int)<=32)) (chk (decide (0<=(0:Int))&&decide ((0:Int)<=32)) (d i))) (let j:=(bE .or .u32 240 (ep .u32 a 18));chk (decide (0<=(12:Int))&&decide ((12:Int)<=32)) (chk (decide (0<=(6:Int))&&decide ((6:Int)<=32)) (chk (decide (0<=(0:Int))&&decide ((0:Int)<=32)) (e j))))))))
def zX(N:Nat)(a:Int):Ro:=aoF N a
theorem aAr(N:Nat)(a:Int):callF (acV N) N 58 aF aoE [.int .u32 a] []=zX N a:=by kernel_rfl
theorem aoG(N:Nat)(c:bC Tryz.prog (acV N))(a:Int){v:V}{hp:List aK}(h:zX N a=some (v,hp)):aH Tryz.prog 226 [.int .u32 a] v:=by have b:=aAq;simp only[Ac] at b;exact⟨hp,eu c (avA N) Tryz.func226 axK b.1 b.2 (by decide) ((aAr N a).trans h)⟩
def al6:Nat->List V->Option (Bool×V):=λf vs=>match f,vs with
 |226,[.int .u32 a]=>some (true,.str (afW a))
 |_,_=>none
def lA:aG:=(fa al6)
theorem arh:co lA []:=(cR _ _)
theorem atF(b:∀(a:Int),aH Tryz.prog 226 [.int .u32 a] (vT (afW a))):bC Tryz.prog lA:=by
 intro f vs hp v hp' d;obtain⟨h,c⟩:=du d;subst c;unfold al6 at h;split at h;·simp only[Ae,Aj] at h;obtain⟨e,rfl⟩:=h;exact((b _).dim rfl).frame rfl rfl _
 ·simp at h
def aeM:IR:=Sq (Rs [Mv 42 5,Mv 43 3,Bi 44 .lss 42 43] (Cn 44 .skip (.exit 1))) (Sq (.block 2 (Rg [Mv 47 2,Pp (.bin 48 .shl 47 (kU 6)),Mv 49 0,Mv 50 5,Pp (.idx 51 49 50),Pp (.bin 52 .and 51 (.c (.int .u8 63))),Pp (.cvi 53 .u32 52),Bi 54 .or 48 53,Mv 2 54])) (Rg [Mv 45 5,Bc 46 .add 45 1,Mv 5 46]))
def aeN:IR:=Sq (Sq (.reg [Mv 55 2,Ca 56 226 [55],Mv 57 0,Mv 58 3,Pp (.subs 59 57 none (some 58)),Bi 60 .neq 56 59] [[],[0],[],[],[2,3],rg 0 4]) (Cn 60 (Rs [Pp (.mov 2 (.c (.int .u32 0))),Mi 3 0] .ret) .skip)) (Rs [Mv 61 2,Mv 62 3,Mv 2 61,Mv 3 62] .ret)
def acg:IR:=Rs [Pp (.mov 2 (.c (.int .u32 0))),Mi 3 0] (Rs [Mv 6 0,Pp (.idx 7 6 (kI 0)),Mv 4 7] (Sq (.block 0 (Rs [Mv 9 4,Pp (.bin 10 .lss 9 (.c (.int .u8 128))),Mv 8 10] (Cn 8 (Rs [Mv 11 4,Pp (.cvi 12 .u32 11),Mv 2 12,Mi 3 1] .ret) (Rs [Mv 14 4,Pp (.bin 15 .shr 14 (kU 5)),Pp (.bin 16 .eql 15 (.c (.int .u8 6))),Mv 13 16] (Cn 13 (Rg [Mv 17 4,Pp (.bin 18 .and 17 (.c (.int .u8 31))),Pp (.cvi 19 .u32 18),Mv 2 19,Mi 3 2]) (Rs [Mv 21 4,Pp (.bin 22 .shr 21 (kU 4)),Pp (.bin 23 .eql 22 (.c (.int .u8 14))),Mv 20 23] (Cn 20 (Rg [Mv 24 4,Pp (.bin 25 .and 24 (.c (.int .u8 15))),Pp (.cvi 26 .u32 25),Mv 2 26,Mi 3 3]) (Rs [Mv 28 4,Pp (.bin 29 .shr 28 (kU 3)),Pp (.bin 30 .eql 29 (.c (.int .u8 30))),Mv 27 30] (Cn 27 (Rg [Mv 31 4,Pp (.bin 32 .and 31 (.c (.int .u8 7))),Pp (.cvi 33 .u32 32),Mv 2 33,Mi 3 4]) .skip))))))))) (Sq (Rs [Mv 34 3,Bc 35 .eql 34 0,Mv 36 35,Gf 36 (.mov 37 3),Gf 36 (.mov 38 0),Gf 36 (.lens 39 38),Gf 36 (.bin 40 .gtr 37 39),Po 41 36 40] (Cn 41 (Rs [Pp (.mov 2 (.c (.int .u32 0))),Mi 3 0] .ret) .skip)) (Sq (Rs [Mi 5 1] (.block 1 (.loop [0,2,3,5,1000000] 0 aeM))) aeN))))
theorem avB:(bL Tryz.prog [] 0 acg (Tryz.f202.body.getD .skip)&&dy Tryz.prog dB Tryz.f202.results.toList)=true:=by kernel_rfl
theorem atG:Tryz.f202.body=some (Tryz.f202.body.getD .skip):=by kernel_rfl
def avC(R:TR)(a:TS):TE:=(bo a [0,2,3,5,1000000] 0 (aQ 1 (kseq (R aeN) (fin dB))))
abbrev cD:Type:=(Bs×Int×Int×Int)
def qY:cD->St:=λ(a,b,c,d)=>{env:=(vT a::.undef::.int .u32 b::vI c::.undef::vI d::(U 57 [])),hp:=[]}
def zY(N:Nat):TS->TS:=λa s=>run lA N aeM (avC (run lA N) a) s
def eD(N:Nat)(a:cD->Ro):cD->Ro:=λ(c,e,b,d)=>cond (decide (d<b)) (chk (ixl d c) (let f:=(↑(AW (Af c (Ad d) 0)):Int);let g:=(Ab .u32 (bE .and .u8 f 63));let h:=(bE .or .u32 (ic .u32 e 6) g);let i:=(Ab .i64 (d+1));a (c,h,b,i))) (chk (decide (0<=b)&&decide (b<=(↑(Aa c):Int))) (let j:=(An 0 (Ao (Ad b) c));let k:=(!decide ((afW e)=j));cond k (some (.tup [.int .u32 0,vI 0],[])) (some (.tup [.int .u32 e,vI b],[]))))
theorem atH(N:Nat):LB (zY N) qY (eD N):=λ_ _=>by kernel_rfl
def pW(N:Nat)(a:Bs)(d:cD->Ro):Ro:=let b:=(some (.tup [.int .u32 0,vI 0],[]):Ro);chk (decide ((0:Int)<↑(Aa a))) (let c:=(↑(AW (Af a (Ad 0) 0)):Int);cond (decide (c<128)) (some (.tup [.int .u32 (Ab .u32 c),vI 1],[])) (cond ((ep .u8 c 5)==6) (let j:=(Ab .u32 (bE .and .u8 c 31));cond (2==0) (b) (let k:=(↑(Aa a):Int);cond (decide (k<2)) (b) (d (a,j,2,1)))) (cond ((ep .u8 c 4)==14) (let e:=(Ab .u32 (bE .and .u8 c 15));cond (3==0) (b) (let f:=(↑(Aa a):Int);cond (decide (f<3)) (b) (d (a,e,3,1)))) (cond ((ep .u8 c 3)==30) (let g:=(Ab .u32 (bE .and .u8 c 7));cond (4==0) (b) (let h:=(↑(Aa a):Int);cond (decide (h<4)) (b) (d (a,g,4,1)))) (cond (0==0) (b) (let i:=(↑(Aa a):Int);cond (decide (i<0)) (b) (d (a,0,0,1))))))))
def vd(N:Nat)(a:Bs):Ro:=pW N a (λz=>aO N (eD N) z)
def aAs(N:Nat):List (Nat×(TS)):=cT lA N acg (fin dB)++[]
theorem avD(N:Nat)(a:Bs):callF lA N 63 dB acg [.str a] []=vd N a:=
 ((bD (aAs N) (by kernel_rfl) rfl (λC=>pW N a (λz=>C 1000000 (qY z))) (λC=>by kernel_rfl)).trans (AB (b:=pW N a (λz=>aZ N (zY N) (qY z))) (by kernel_rfl) (congrArg (pW N a) (funext λz=>aU (qY) (zY N) (eD N) (atH N) N z))))
theorem axL(c:bC Tryz.prog lA)(N:Nat)(a:Bs){v:V}{hp:List aK}(h:vd N a=some (v,hp)):aH Tryz.prog 202 [.str a] v:=by have b:=avB;simp only[Ac] at b;exact⟨hp,eu c arh Tryz.func202 atG b.1 b.2 (by decide) ((avD N a).trans h)⟩
def al7:Nat->List V->Option (Bool×V):=λf vs=>match f,vs with
 |202,[.str a]=>some ((!decide (a=[])),.tup [.int .u32 ((fC a).1),.int .i64 ((fC a).2)])
 |_,_=>none
def lB:aG:=(fa al7)
theorem ari:co lB []:=(cR _ _)
theorem atI(b:∀(a:Bs),(!decide (a=[]))=true->aH Tryz.prog 202 [vT a] (.tup [.int .u32 ((fC a).1),vI ((fC a).2)])):bC Tryz.prog lB:=by
 intro f vs hp v hp' e;obtain⟨h,c⟩:=du e;subst c;unfold al7 at h;split at h;·simp only[Ae,Aj] at h;obtain⟨d,rfl⟩:=h;exact((b _ d).dim rfl).frame rfl rfl _
 ·simp at h
def age:IR:=Sq (Rs [Mv 5 0,Pp (.bin 6 .neq 5 (kS []))] (Cn 6 .skip (.exit 0))) (.block 1 (Rs [Mv 8 0,Ca 9 202 [8],Mv 7 9,Ex_ 10 0 7,Ex_ 11 1 7,Mv 3 10,Mv 4 11] (Sq (Rs [Mv 12 4,Bc 13 .eql 12 0] (Cn 13 (Rs [Mb 2 false] .ret) .skip)) (Rg [Mv 14 0,Mv 15 4,Pp (.subs 16 14 (some 15) none),Mv 0 16]))))
def agf:IR:=Rs [Mb 2 true] .ret
def ach:IR:=Rs [Mb 2 false] (Sq (.block 0 (.loop [0,1000000] 0 age)) agf)
theorem avE:(bL Tryz.prog [] 0 ach (Tryz.f172.body.getD .skip)&&dy Tryz.prog aF Tryz.f172.results.toList)=true:=by kernel_rfl
theorem atJ:Tryz.f172.body=some (Tryz.f172.body.getD .skip):=by kernel_rfl
def avF(R:TR)(a:TS):TE:=(bo a [0,1000000] 0 (aQ 0 (kseq (R agf) (fin aF))))
abbrev f8:Type:=(Bs)
def qZ(x:f8):St:={env:=(vT x::(U 16 [])),hp:=[]}
def zZ(N:Nat):TS->TS:=λa s=>run lB N age (avF (run lB N) a) s
def oa(N:Nat)(a:f8->Ro)(x:f8):Ro:=let b:Bs:=x;let c:=(!decide (b=[]));cond c (chk (!decide (b=[])) (cond (((fC b).2)==0) (some (vB false,[])) (chk (decide (0<=((fC b).2))&&decide (((fC b).2)<=(↑(Aa b):Int))) (let d:=(An (Ad ((fC b).2)) (Ao (Aa b) b));a (d))))) (some (vB true,[]))
theorem atK(N:Nat):LB (zZ N) qZ (oa N):=λ_ _=>by kernel_rfl
def ve(N:Nat)(a:Bs)(b:f8->Ro):Ro:=b (a)
def aci(N:Nat)(a:Bs):Ro:=ve N a (λz=>aO N (oa N) z)
def aAt(N:Nat):List (Nat×(TS)):=cT lB N ach (fin aF)++[]
theorem avG(N:Nat)(a:Bs):callF lB N 17 aF ach [.str a] []=aci N a:=
 ((bD (aAt N) (by kernel_rfl) rfl (λC=>ve N a (λz=>C 1000000 (qZ z))) (λC=>by kernel_rfl)).trans (AB (b:=ve N a (λz=>aZ N (zZ N) (qZ z))) (by kernel_rfl) (congrArg (ve N a) (funext λz=>aU (qZ) (zZ N) (oa N) (atK N) N z))))
theorem axM(c:bC Tryz.prog lB)(N:Nat)(a:Bs){v:V}{hp:List aK}(h:aci N a=some (v,hp)):aH Tryz.prog 172 [.str a] v:=by have b:=avE;simp only[Ac] at b;exact⟨hp,eu c ari Tryz.func172 atJ b.1 b.2 (by decide) ((avG N a).trans h)⟩
theorem afw(a:UInt8)(n:Nat)(h:n<256):(AC n=a)↔(n=a.toNat):=by
 constructor;·rintro rfl;simp;omega
 ·intro h;subst h;simp
theorem aOs(a b:UInt8)(v:Nat)(e:v<32)(d:a.toNat=192+v):
  gly (v*64+b.toNat%64)=[a,b]↔(128<=b.toNat∧b.toNat<=191∧128<=v*64+b.toNat%64):=by
 have f:=BP b;unfold gly;by_cases c:v*64+b.toNat%64<128
 ·rw[if_pos c];constructor;·intro h;simp at h
  ·omega
 ·rw[if_neg c,if_pos (by omega)];simp only[CG,and_true];rw[afw _ _ (by omega),afw _ _ (by omega)];omega
theorem aOt(a b c:UInt8)(v:Nat)(l:v<16)(i:a.toNat=224+v)(r:Nat)(j:r=(v*64+b.toNat%64)*64+c.toNat%64):
  gly r=[a,b,c]↔(128<=b.toNat∧b.toNat<=191∧128<=c.toNat∧c.toNat<=191∧2048<=r∧¬(55296<=r∧r<=57343)):=by
 have m:=BP b;have k:=BP c;unfold gly;by_cases d:r<128
 ·rw[if_pos d];constructor;·intro h;simp at h
  ·omega
 by_cases e:r<2048
 ·rw[if_neg d,if_pos e];constructor;·intro h;simp at h
  ·omega
 by_cases f:(55296<=r∧r<57344)∨1114111<r
 ·rw[if_neg d,if_neg e,if_pos f];constructor;·intro h;simp only[CG,and_true] at h;obtain⟨rfl,rfl,rfl⟩:=h;simp at i j;omega
  ·omega
 ·rw[if_neg d,if_neg e,if_neg f,if_pos (by omega)];simp only[CG,and_true];rw[afw _ _ (by omega),afw _ _ (by omega),afw _ _ (by omega)];omega
theorem aOu(a b c d:UInt8)(v:Nat)(p:v<8)(k:a.toNat=240+v)(r:Nat)(m:r=((v*64+b.toNat%64)*64+c.toNat%64)*64+d.toNat%64):
  gly r=[a,b,c,d]↔(128<=b.toNat∧b.toNat<=191∧128<=c.toNat∧c.toNat<=191∧128<=d.toNat∧d.toNat<=191∧65536<=r∧r<=1114111):=by
 have t:=BP b;have l:=BP c;have q:=BP d;unfold gly;by_cases e:r<128
 ·rw[if_pos e];constructor;·intro h;simp at h
  ·omega
 by_cases f:r<2048
 ·rw[if_neg e,if_pos f];constructor;·intro h;simp at h
  ·omega
 by_cases i:(55296<=r∧r<57344)∨1114111<r
 ·rw[if_neg e,if_neg f,if_pos i];constructor;·intro h;simp at h
  ·omega
 by_cases j:r<65536
 ·rw[if_neg e,if_neg f,if_neg i,if_pos j];constructor;·intro h;simp at h
  ·omega
 ·rw[if_neg e,if_neg f,if_neg i,if_neg j];simp only[CG,and_true];rw[afw _ _ (by omega),afw _ _ (by omega),afw _ _ (by omega),afw _ _ (by omega)];omega
theorem atL(n v:Nat)(s:List UInt8):(dT n v s).2 <=s.length:=by
 unfold dT;split;·simp
 ·dsimp only;split;·dsimp only;omega
  ·simp
theorem aC5(s:List UInt8):(fY s).2 <=s.length:=by
 unfold fY;split;·simp
 ·rename_i c t;split;·simp
  ·split;·exact atL _ _ _
   ·split;·exact atL _ _ _
    ·split;·exact atL _ _ _
     ·simp
theorem acW:∀(k:Nat)(s:List UInt8),s.length<=k->afX k s=afX s.length s
 |k,[],h=>by cases k<;>rfl
 |0,_::_,h=>by simp at h
 |k+1,c::s,h=>by
  have d:s.length+1<=k+1:=h;show (if (fY (c::s)).2 =0 then false else afX k ((c::s).drop (fY (c::s)).2))=(if (fY (c::s)).2 =0 then false else afX s.length ((c::s).drop (fY (c::s)).2))
  split;·rfl
  ·rename_i hp;have b:((c::s).drop (fY (c::s)).2).length<=s.length:=by simp;omega
   rw[acW k _ (by omega)];by_cases a:s.length=k;·rw[a];exact(acW k _ (by omega)).symm
   ·exact(acW s.length _ b).symm
termination_by k=>k
decreasing_by all_goals (try simp_wf);all_goals omega
theorem asD(c:UInt8)(s:List UInt8):rU (c::s)=if (fY (c::s)).2 =0 then false else rU ((c::s).drop (fY (c::s)).2):=by
 show (if (fY (c::s)).2 =0 then false else afX s.length ((c::s).drop (fY (c::s)).2))=_;split;·rfl
 ·exact acW _ _ (by simp;omega)
theorem atM(N:Nat)(r k:Int)(e:0<=r∧r<=4294967295)(f:0<=k∧k<=32):xy N r k=some (.int .u8 (n7 r k),[]):=by
 obtain⟨p,rfl⟩:∃p:Nat,r=(p:Int):=⟨r.toNat,by omega⟩
 obtain⟨j,rfl⟩:∃j:Nat,k=(j:Int):=⟨k.toNat,by omega⟩
 have d:=qO .u32 p j (by show j<=32;omega);have a:p / 2^j<=p:=Nat.div_le_self _ _;simp only[xy,al5,n7,AK,d];generalize p / 2^j=q at a;have c:bE .and .u32 (q:Int) 63=((q%64:Nat):Int):=aLF 6 (by omega) _ (by omega);have b:bE .or .u32 128 ((q%64:Nat):Int)=128+((q%64:Nat):Int):=aoC 6 128 _ (by omega) (by decide) (by omega) (by omega);simp(disch:=omega) only[bj,c,b];rfl
theorem ahC(N:Nat)(r:Int)(u:0<=r∧r<=4294967295)(l:(r<65536∧(r<55296∨57344<=r))∨0<N):zX N r=some (.str (afW r),[]):=by
 obtain⟨p,rfl⟩:∃p:Nat,r=(p:Int):=⟨r.toNat,by omega⟩
 have h:ep .u32 (p:Int) 6=((p / 64:Nat):Int):=qO .u32 p 6 (by decide);have b:ep .u32 (p:Int) 12=((p / 4096:Nat):Int):=qO .u32 p 12 (by decide);have c:ep .u32 (p:Int) 18=((p / 262144:Nat):Int):=qO .u32 p 18 (by decide);have j:n7 (p:Int) 0=((128+p%64:Nat):Int):=by simp[n7]
 have f:n7 (p:Int) 6=((128+p / 64%64:Nat):Int):=by simp[n7]
 have a:n7 (p:Int) 12=((128+p / 4096%64:Nat):Int):=by simp[n7]
 simp only[zX,aoF,afW,AK,gly,h,b,c,j,f,a];by_cases q:p<128;·simp(disch:=omega) only[bj,]
 by_cases v:p<2048;·have e:bE .or .u32 192 ((p / 64:Nat):Int)=((192+p / 64:Nat):Int):=(aoC 6 192 _ (by omega) (by decide) (by omega) (by omega)).trans (by omega);simp(disch:=omega) only[bj,e]
 have d:∀m:1114111<p∨(55296<=p∧p<57344),0<N:=by omega
 by_cases i:1114111<p;·have:=d (.inl i);simp(disch:=omega) only[bj,];rfl
 by_cases k:55296<=p∧p<57344;·have:=d (.inr k);simp(disch:=omega) only[bj,];rfl
 by_cases w:p<65536;·have e:bE .or .u32 224 ((p / 4096:Nat):Int)=((224+p / 4096:Nat):Int):=(aoC 5 224 _ (by omega) (by decide) (by omega) (by omega)).trans (by omega);by_cases t:55296<=p<;>simp(disch:=omega) only[bj,e]
 ·have e:bE .or .u32 240 ((p / 262144:Nat):Int)=((240+p / 262144:Nat):Int):=(aoC 4 240 _ (by omega) (by decide) (by omega) (by omega)).trans (by omega);simp(disch:=omega) only[bj,e]
theorem avH(k:Nat)(c:k<=8)(a:Nat)(b:a<256):bE .and .u8 (a:Int) ((2^k-1:Nat):Int)=((a%2^k:Nat):Int):=by have d:2^k<=2^8:=Ct (by omega) c;have e:1<=2^k:=Nat.one_le_two_pow;rw[aCo .u8 rfl a (2^k-1) b (by show 2^k-1<2^8;omega),DF]
theorem aNl(v c:Nat)(b:v<2^26)(a:c<64):bE .or .u32 (ic .u32 (v:Int) 6) (c:Int)=((v*64+c:Nat):Int):=by
 have e:ic .u32 (v:Int) 6=((v*64:Nat):Int):=by rw[show (6:Int)=((6:Nat):Int) by rfl,atl .u32 rfl v 6 (by decide)];show ((v*64%2^32:Nat):Int)=_;rw[Br (by omega)]
 rw[e,aoC 6 ((v*64:Nat):Int) c (by omega) (by omega) (by omega) (by omega)];omega
theorem sQ(N:Nat)(rec:(List UInt8×Int×Int×Int)->Option (V×List aK))(s:List UInt8)(v n i:Nat)(a:v<2^26)(f:i<n)(e:n<=s.length)(h:n<=4):
  eD N rec (s,(v:Int),(n:Int),(i:Int))=rec (s,((v*64+(s.getD i 0).toNat%64:Nat):Int),(n:Int),((i+1:Nat):Int)):=by
 have c:(s.getD i 0).toNat<256:=BP _;have d:bE .and .u8 (((s.getD i 0).toNat:Nat):Int) 63=(((s.getD i 0).toNat%64:Nat):Int):=avH 6 (by omega) _ c;have b:=aNl v ((s.getD i 0).toNat%64) a (by omega);simp only[eD];simp(disch:=omega) only[bj,d,b];rfl
theorem aoH(N:Nat)(rec:(List UInt8×Int×Int×Int)->Option (V×List aK))(s:List UInt8)(v n:Nat)(a:n<=s.length):
  eD N rec (s,(v:Int),(n:Int),(n:Int))=if gly v=s.take n then some (.tup [.int .u32 v,.int .i64 n],[]) else some (.tup [.int .u32 0,.int .i64 0],[]):=by
 simp only[eD,afW];by_cases h:gly v=s.take n;·simp(disch:=omega) only[bj,h,decide_true]
 ·simp(disch:=omega) only[bj,h,decide_false]
theorem lU{α R:Type}(n:Nat)(B:(α->Option R)->α->Option R)(x:α):aO (n+1) B x=B (aO n B) x:=rfl
theorem aLG(M:Nat)(a b:UInt8)(t:List UInt8)(v:Nat)(c:v<32):
  aO (M+5) (eD (M+5)) (a::b::t,(v:Int),((2:Nat):Int),((1:Nat):Int))=some (.tup [.int .u32 (dT 2 v (a::b::t)).1,.int .i64 (dT 2 v (a::b::t)).2],[]):=by
 rw[lU,sQ _ _ _ _ 2 1 (by omega) (by omega) (by simp) (by omega),lU,aoH _ _ _ _ 2 (by simp)];simp only[dT,BR,Bm];rw[if_neg (show ¬(a::b::t).length<2 by simp)];simp only[Cd,CR,CT,BG,CZ];by_cases h:gly (v*64+b.toNat%64)=[a,b]
 ·simp only[h,if_true]
 ·simp only[h,if_false];rfl
theorem aLH(M:Nat)(a b c:UInt8)(t:List UInt8)(v:Nat)(d:v<32):
  aO (M+5) (eD (M+5)) (a::b::c::t,(v:Int),((3:Nat):Int),((1:Nat):Int))=some (.tup [.int .u32 (dT 3 v (a::b::c::t)).1,.int .i64 (dT 3 v (a::b::c::t)).2],[]):=by
 rw[lU,sQ _ _ _ _ 3 1 (by omega) (by omega) (by simp) (by omega),lU,sQ _ _ _ _ 3 2 (by omega) (by omega) (by simp) (by omega),lU,aoH _ _ _ _ 3 (by simp)];simp only[dT,BR,Bm];rw[if_neg (show ¬(a::b::c::t).length<3 by simp)];simp only[Cd,CR,CT,BG,CZ];by_cases h:gly ((v*64+b.toNat%64)*64+c.toNat%64)=[a,b,c]
 ·simp only[h,if_true]
 ·simp only[h,if_false];rfl
theorem aLI(M:Nat)(a b c d:UInt8)(t:List UInt8)(v:Nat)(e:v<32):
  aO (M+5) (eD (M+5)) (a::b::c::d::t,(v:Int),((4:Nat):Int),((1:Nat):Int))=some (.tup [.int .u32 (dT 4 v (a::b::c::d::t)).1,.int .i64 (dT 4 v (a::b::c::d::t)).2],[]):=by
 rw[lU,sQ _ _ _ _ 4 1 (by omega) (by omega) (by simp) (by omega),lU,sQ _ _ _ _ 4 2 (by omega) (by omega) (by simp) (by omega),lU,sQ _ _ _ _ 4 3 (by omega) (by omega) (by simp) (by omega),lU,aoH _ _ _ _ 4 (by simp)];simp only[dT,BR,Bm];rw[if_neg (show ¬(a::b::c::d::t).length<4 by simp)];simp only[Cd,CR,CT,BG,CZ];by_cases h:gly (((v*64+b.toNat%64)*64+c.toNat%64)*64+d.toNat%64)=[a,b,c,d]
 ·simp only[h,if_true]
 ·simp only[h,if_false];rfl
theorem arj(M:Nat)(s:List UInt8)(j:s≠[])(a:s.length<=9223372036854775807):
  vd (M+5) s=some (.tup [.int .u32 (fC s).1,.int .i64 (fC s).2],[]):=by
 obtain⟨c,t,rfl⟩:=List.exists_cons_of_ne_nil j;have f:c.toNat<256:=BP _;have m:ep .u8 (c.toNat:Int) 5=((c.toNat / 32:Nat):Int):=qO .u8 c.toNat 5 (by decide);have p:ep .u8 (c.toNat:Int) 4=((c.toNat / 16:Nat):Int):=qO .u8 c.toNat 4 (by decide);have l:ep .u8 (c.toNat:Int) 3=((c.toNat / 8:Nat):Int):=qO .u8 c.toNat 3 (by decide);have i:bE .and .u8 (c.toNat:Int) 31=((c.toNat%32:Nat):Int):=avH 5 (by omega) _ f;have h:bE .and .u8 (c.toNat:Int) 15=((c.toNat%16:Nat):Int):=avH 4 (by omega) _ f;have r:bE .and .u8 (c.toNat:Int) 7=((c.toNat%8:Nat):Int):=avH 3 (by omega) _ f;rw[Ai] at a;simp only[vd,pW,fC,fY,Ai,DI,Bm,m,p,l,i,h,r];by_cases v:c.toNat<128;·simp(disch:=omega) only[bj,];rfl
 by_cases k:c.toNat / 32=6
 ·match t with
  | []=>simp(disch:=omega) only[bj,dT,Ai,Al];rfl
  |b::t=>rw[Ai] at a;simp(disch:=omega) only[bj,k,Ai];exact aLG M c b t _ (by omega)
 by_cases q:c.toNat / 16=14
 ·match t with
  | []=>simp(disch:=omega) only[bj,dT,Ai,Al];rfl
  | [b]=>simp(disch:=omega) only[bj,dT,Ai,Al];rfl
  |b::d::t=>rw[Ai,Ai] at a;simp(disch:=omega) only[bj,q,Ai];exact aLH M c b d t _ (by omega)
 by_cases u:c.toNat / 8=30
 ·match t with
  | []=>simp(disch:=omega) only[bj,dT,Ai,Al];rfl
  | [b]=>simp(disch:=omega) only[bj,dT,Ai,Al];rfl
  | [b,d]=>simp(disch:=omega) only[bj,dT,Ai,Al];rfl
  |b::d::e::t=>rw[Ai,Ai,Ai] at a;simp(disch:=omega) only[bj,u,Ai];exact aLI M c b d e t _ (by omega)
 ·simp(disch:=omega) only[bj,];rfl
theorem ark(N:Nat)(s:List UInt8)(i:s.length<=9223372036854775807)(f:s.length<N):aci N s=some (.bool (rU s),[]):=by
 show aO N (oa N) s=_;refine nZ (λx:List UInt8=>x.length<=9223372036854775807) (λx=>x.length) (λx=>(V.bool (rU x),([]:List aK))) ?_ N s i f;rintro rec x k a;match x with
 | []=>rfl
 |c::t=>
  have h:=aC5 (c::t);have d:(fC (c::t)).2 =((fY (c::t)).2 :Int):=rfl;have b:decide (c::t=[])=false:=by simp
  have j:(c::t).length=t.length+1:=rfl;have l:(c::t).length<=9223372036854775807:=k;simp only[oa,asD];generalize (fC (c::t)).2 =p at d;by_cases hp:(fY (c::t)).2 =0;·rw[if_pos hp];simp(disch:=omega) only[bj,b]
  ·rw[if_neg hp];have e:p.toNat=(fY (c::t)).2 :=by omega
   simp(disch:=omega) only[bj,b,e];exact a ((c::t).drop (fY (c::t)).2) (by simp only[AL];omega) (by simp only[AL];omega)
theorem ahD(b a:Int)(e:(decide (0<=(a:Int))&&decide ((a:Int)<=32))=true):aH Tryz.prog 241 [.int .u32 b,.int .i64 a] (.int .u8 (n7 b a)):=by
 refine aH.fits λd=>?_
 have r0:=aCp (d (.int .u32 b) (by simp));have c:0<=a∧a<=32:=by simpa using e
 exact aAp avy 1000 b a (atM 1000 b a r0 c)
theorem amP:aH Tryz.prog 226 [.int .u32 65533] (.str (afW 65533)):=
 aoG 0 (aiZ 0 (by intro a h;simp at h) ahD) 65533 (ahC 0 65533 (by omega) (.inl (by omega)))
theorem axN(a:Int):aH Tryz.prog 226 [.int .u32 a] (.str (afW a)):=by
 refine aH.fits λc=>?_
 have r0:=aCp (c (.int .u32 a) (by simp));refine aoG 1 (aiZ 1 (λb h=>?_) ahD) a (ahC 1 a r0 (.inr (by omega)));have d:b=65533:=by simpa using h
 subst d;exact amP
theorem atN(a:List UInt8)(d:(!decide (a=[]))=true):aH Tryz.prog 202 [.str a] (.tup [.int .u32 ((fC a).1),.int .i64 ((fC a).2)]):=by
 refine aH.fits λc=>?_
 have r0:=qP (c (.str a) (by simp));have b:a≠[]:=by simpa using d
 exact axL (atF axN) 1000 a (arj 995 a b r0)
theorem atO(a:List UInt8):aH Tryz.prog 172 [.str a] (.bool (rU a)):=by
 refine aH.fits λb=>?_
 have r0:=qP (b (.str a) (by simp));exact axM (atI atN) (a.length+1) a (ark (a.length+1) a r0 (by omega))
abbrev aoI:=List bF×Int
def agh(a:Bs)(r:aoI):Prop:=aH Tryz.prog 19 [vT a] (.tup [vF .record r.1,vI r.2])∧au0 a r
def aC6:bq Tryz.prog:=.mk 19 λ
 | [.str a]=>pk (agh a) λr=>.tup [vF .record r.1,vI r.2]
 |_=>none
def q8(a:bF)(r:Bs):Prop:=aH Tryz.prog 20 [.agg (enc .record a)] (vT r)∧azR a r
def akO:bq Tryz.prog:=.mk 20 λ
 | [.agg [.int .i64 a,.int .i64 b,.int .u64 c,.str d,.str e]]=>pk (q8 (⟨a,b,c,d,e⟩)) λr=>.str r
 |_=>none
abbrev ai0:=PMs×Bool
def gw(a:List PMs)(b:List PEn)(c:Bs)(r:ai0):Prop:=aH Tryz.prog 41 [.agg [vF .pms a,vF .pen b],vT c] (.tup [.agg (enc .pms r.1),vB r.2])∧aeG a b c r
def vf:bq Tryz.prog:=.mk 41 λ
 | [.agg [.sl .pms (.may _) a,.sl .pen (.may _) b],.str c]=>pk (gw a b c) λr=>.tup [.agg (enc .pms r.1),vB r.2]
 |_=>none
abbrev aoJ:=PFl×Bool
def mU(a:PMs)(b:Int)(r:aoJ):Prop:=aH Tryz.prog 52 [.agg (enc .pms a),vI b] (.tup [.agg (enc .pfl r.1),vB r.2])∧ahv a b r
def aoK:bq Tryz.prog:=.mk 52 λ
 | [.agg [.str a,.sl .pfl (.may _) b,.sl .str (.may _) c],.int .i64 d]=>pk (mU (⟨a,b,c⟩) d) λr=>.tup [.agg (enc .pfl r.1),vB r.2]
 |_=>none
def j3(a r:Int):Prop:=aH Tryz.prog 53 [vI a] (vI r)∧ab5 a r
def wH:bq Tryz.prog:=.mk 53 λ
 | [.int .i64 a]=>pk (j3 a) λr=>vI r
 |_=>none
def yh(a:Int)(r:Bs):Prop:=aH Tryz.prog 58 [vU a] (vT r)∧amL a r
def atP:bq Tryz.prog:=.mk 58 λ
 | [.int .u64 a]=>pk (yh a) λr=>.str r
 |_=>none
def afx(a b:Int)(r:Bs):Prop:=aH Tryz.prog 59 [vU a,vI b] (vT r)∧azS a b r
def aHp:bq Tryz.prog:=.mk 59 λ
 | [.int .u64 a,.int .i64 b]=>pk (afx a b) λr=>.str r
 |_=>none
def mV(a:Bs)(r:Bool):Prop:=aH Tryz.prog 74 [vT a] (vB r)∧zC a r
def aoL:bq Tryz.prog:=.mk 74 λ
 | [.str a]=>pk (mV a) λr=>vB r
 |_=>none
abbrev aFm:=List ch×Int×Bs×Int
def acX(a:List eS)(r:aFm):Prop:=aH Tryz.prog 76 [vF .src a] (.tup [vF .fil r.1,vI r.2.1,vT r.2.2.1,vI r.2.2.2])∧ab9 a r
def aFn:bq Tryz.prog:=.mk 76 λ
 | [.sl .src (.may _) a]=>pk (acX a) λr=>.tup [vF .fil r.1,vI r.2.1,vT r.2.2.1,vI r.2.2.2]
 |_=>none
abbrev aAu:=List PMs×List PEn×Int×Bs
def xz(a:List ch)(r:aAu):Prop:=aH Tryz.prog 77 [vF .fil a] (.tup [.agg [vF .pms r.1,vF .pen r.2.1],vI r.2.2.1,vT r.2.2.2])∧ye a r
def aAv:bq Tryz.prog:=.mk 77 λ
 | [.sl .fil (.may _) a]=>pk (xz a) λr=>.tup [.agg [vF .pms r.1,vF .pen r.2.1],vI r.2.2.1,vT r.2.2.2]
 |_=>none
def yO(a b r:Int):Prop:=aH Tryz.prog 100 [vI a,vU b] (vU r)∧afY a b r
def aoM:bq Tryz.prog:=.mk 100 λ
 | [.int .i64 a,.int .u64 b]=>pk (yO a b) λr=>vU r
 |_=>none
def ait(a:Bs)(r:aoI):Prop:=aH Tryz.prog 102 [vT a] (.tup [vF .record r.1,vI r.2])∧axa a r
def aFo:bq Tryz.prog:=.mk 102 λ
 | [.str a]=>pk (ait a) λr=>.tup [vF .record r.1,vI r.2]
 |_=>none
abbrev aC7:=Int×Int
def z3(a:Bs)(r:aC7):Prop:=aH Tryz.prog 125 [vT a] (.tup [.int .u32 r.1,vI r.2])∧aht a r
def aC8:bq Tryz.prog:=.mk 125 λ
 | [.str a]=>pk (z3 a) λr=>.tup [.int .u32 r.1,vI r.2]
 |_=>none
abbrev adg:=List eS×List ch×Int×Bs×Int
def ks(a:List eS)(b:List ch)(c:Int)(d:Bs)(e:Int)(f:Bs)(g:Bss)(r:adg):Prop:=bv Tryz.prog 126 [.ptr 0 0,vT f,vF .str g] [[vF .src a,vO .fil b,vI c,vT d,vI e]] (.tup []) [[vF .src r.1,vO .fil r.2.1,vI r.2.2.1,vT r.2.2.2.1,vI r.2.2.2.2]]∧pU a b c d e f g r
def adh:db Tryz.prog:=.mk 126 λ
 | [.ptr 0 0,.str f,.sl .str (.may _) g],[[.sl .src (.may false) a,.sl .fil .own b,.int .i64 c,.str d,.int .i64 e]]=>pk (ks a b c d e f g) λr=>(.tup [],[[vF .src r.1,vO .fil r.2.1,vI r.2.2.1,vT r.2.2.2.1,vI r.2.2.2.2]])
 |_,_=>none
abbrev avI:=List PNm
def vg(a:List ch)(r:avI):Prop:=aH Tryz.prog 127 [vF .fil a] (vF .nms r)∧alQ a r
def avJ:bq Tryz.prog:=.mk 127 λ
 | [.sl .fil (.may _) a]=>pk (vg a) λr=>vF .nms r
 |_=>none
def acY(a:PEn)(r:Int):Prop:=aH Tryz.prog 128 [.agg (enc .pen a)] (vI r)
def aFp:bq Tryz.prog:=.mk 128 λ
 | [.agg [.str a,.sl .pvl (.may _) b]]=>pk (acY (⟨a,b⟩)) λr=>vI r
 |_=>none
abbrev axO:=List PEn
def vh(a:List PEn)(b:PEn)(r:axO):Prop:=aH Tryz.prog 129 [vF .pen a,.agg (enc .pen b)] (vF .pen r)∧aeF a b r
def axP:bq Tryz.prog:=.mk 129 λ
 | [.sl .pen (.may _) c,.agg [.str a,.sl .pvl (.may _) b]]=>pk (vh c (⟨a,b⟩)) λr=>vF .pen r
 |_=>none
abbrev axQ:=PMs×Int
def vi(a:List ch)(b:PNm)(r:axQ):Prop:=aH Tryz.prog 130 [vF .fil a,.agg (enc .nms b)] (.tup [.agg (enc .pms r.1),vI r.2])∧wd a b r
def axR:bq Tryz.prog:=.mk 130 λ
 | [.sl .fil (.may _) m,.agg [.str c,.int .i64 d,.str e,.sl .ffld (.may _) f,.sl .str (.may _) g,.sl .fmsg (.may _) h,.sl .pen (.may _) i,.sl .u2 (.may _) j,.sl .str (.may _) k,.str l,.sl .pvl (.may _) a,.str b]]=>pk (vi m (⟨c,d,.mk e f g h i j k,⟨l,a⟩,b⟩)) λr=>.tup [.agg (enc .pms r.1),vI r.2]
 |_=>none
abbrev arl:=List PMs
def px(a:List PMs)(b:PMs)(r:arl):Prop:=aH Tryz.prog 131 [vF .pms a,.agg (enc .pms b)] (vF .pms r)∧zL a b r
def arm:bq Tryz.prog:=.mk 131 λ
 | [.sl .pms (.may _) d,.agg [.str a,.sl .pfl (.may _) b,.sl .str (.may _) c]]=>pk (px d (⟨a,b,c⟩)) λr=>vF .pms r
 |_=>none
def hY(a:Int)(r:Bs):Prop:=aH Tryz.prog 134 [vI a] (vT r)∧u6 a r
def asE:bq Tryz.prog:=.mk 134 λ
 | [.int .i64 a]=>pk (hY a) λr=>.str r
 |_=>none
def wI(a b r:Int):Prop:=aH Tryz.prog 137 [vI a,vU b] (vU r)∧ab6 a b r
def asF:bq Tryz.prog:=.mk 137 λ
 | [.int .i64 a,.int .u64 b]=>pk (wI a b) λr=>vU r
 |_=>none
def qG(a:bF)(r:Bs):Prop:=aH Tryz.prog 148 [.agg (enc .record a)] (vT r)∧aCy a r
def azz:bq Tryz.prog:=.mk 148 λ
 | [.agg [.int .i64 a,.int .i64 b,.int .u64 c,.str d,.str e]]=>pk (qG (⟨a,b,c,d,e⟩)) λr=>.str r
 |_=>none
def fN(a r:Int):Prop:=aH Tryz.prog 153 [vU a] (vU r)∧qR a r
def al8:bq Tryz.prog:=.mk 153 λ
 | [.int .u64 a]=>pk (fN a) λr=>vU r
 |_=>none
def z4(a r:Int):Prop:=aH Tryz.prog 154 [vU a] (vU r)∧xo a r
def aHq:bq Tryz.prog:=.mk 154 λ
 | [.int .u64 a]=>pk (z4 a) λr=>vU r
 |_=>none
def wJ(a r:Int):Prop:=aH Tryz.prog 158 [vI a] (vI r)∧axb a r
def aiu:bq Tryz.prog:=.mk 158 λ
 | [.int .i64 a]=>pk (wJ a) λr=>vI r
 |_=>none
def aoN(a b r:Int):Prop:=aH Tryz.prog 160 [vI a,vU b] (vU r)∧aCz a b r
def aIT:bq Tryz.prog:=.mk 160 λ
 | [.int .i64 a,.int .u64 b]=>pk (aoN a b) λr=>vU r
 |_=>none
def acZ(a b:Int)(r:Bool):Prop:=aH Tryz.prog 161 [vI a,vU b] (vB r)∧ab7 a b r
def aFq:bq Tryz.prog:=.mk 161 λ
 | [.int .i64 a,.int .u64 b]=>pk (acZ a b) λr=>vB r
 |_=>none
def aeh(a:Bs)(r:Bool):Prop:=aH Tryz.prog 172 [vT a] (vB r)∧atp a r
def aAw:bq Tryz.prog:=.mk 172 λ
 | [.str a]=>pk (aeh a) λr=>vB r
 |_=>none
abbrev akP:=Bs×Bool×List eS×List ch×Int×Bs×Int
def io(a:List eS)(b:List ch)(c:Int)(d:Bs)(e:Int)(f:Bs)(r:akP):Prop:=bv Tryz.prog 176 [.ptr 0 0,vT f] [[vF .src a,vO .fil b,vI c,vT d,vI e]] (.tup [vT r.1,vB r.2.1]) [[vF .src r.2.2.1,vO .fil r.2.2.2.1,vI r.2.2.2.2.1,vT r.2.2.2.2.2.1,vI r.2.2.2.2.2.2]]∧jc a b c d e f r
def akQ:db Tryz.prog:=.mk 176 λ
 | [.ptr 0 0,.str f],[[.sl .src (.may false) a,.sl .fil .own b,.int .i64 c,.str d,.int .i64 e]]=>pk (io a b c d e f) λr=>(.tup [vT r.1,vB r.2.1],[[vF .src r.2.2.1,vO .fil r.2.2.2.1,vI r.2.2.2.2.1,vT r.2.2.2.2.2.1,vI r.2.2.2.2.2.2]])
 |_,_=>none
abbrev aC9:=Bs×Bss×List bi×List PEn×Int×Int
def z5(a:Bs)(r:aC9):Prop:=aH Tryz.prog 177 [vT a] (.tup [.agg [vT r.1,vF .str r.2.1,vF .fmsg r.2.2.1,vF .pen r.2.2.2.1],vI r.2.2.2.2.1,vI r.2.2.2.2.2])∧zJ a r
def aDa:bq Tryz.prog:=.mk 177 λ
 | [.str a]=>pk (z5 a) λr=>.tup [.agg [vT r.1,vF .str r.2.1,vF .fmsg r.2.2.1,vF .pen r.2.2.2.1],vI r.2.2.2.2.1,vI r.2.2.2.2.2]
 |_=>none
def gz(a:List eS)(b:List ch)(c:Int)(d:Bs)(e f:Int)(g:Bs)(h:Int)(r:adg):Prop:=bv Tryz.prog 178 [.ptr 0 0,vI f,vT g,vI h] [[vF .src a,vO .fil b,vI c,vT d,vI e]] (.tup []) [[vF .src r.1,vO .fil r.2.1,vI r.2.2.1,vT r.2.2.2.1,vI r.2.2.2.2]]∧yM a b c d e f g h r
def aoO:db Tryz.prog:=.mk 178 λ
 | [.ptr 0 0,.int .i64 f,.str g,.int .i64 h],[[.sl .src (.may false) a,.sl .fil .own b,.int .i64 c,.str d,.int .i64 e]]=>pk (gz a b c d e f g h) λr=>(.tup [],[[vF .src r.1,vO .fil r.2.1,vI r.2.2.1,vT r.2.2.2.1,vI r.2.2.2.2]])
 |_,_=>none
def eL(a:Bss)(b:Bs)(r:Bool):Prop:=aH Tryz.prog 179 [vF .str a,vT b] (vB r)∧alP a b r
def afy:bq Tryz.prog:=.mk 179 λ
 | [.sl .str (.may _) a,.str b]=>pk (eL a b) λr=>vB r
 |_=>none
def rW(a:List bi)(b:List PEn)(c d:Bs)(r:avI):Prop:=aH Tryz.prog 180 [vF .fmsg a,vF .pen b,vT c,vT d] (vF .nms r)∧yd a b c d r
def al9:bq Tryz.prog:=.mk 180 λ
 | [.sl .fmsg (.may _) a,.sl .pen (.may _) b,.str c,.str d]=>pk (rW a b c d) λr=>vF .nms r
 |_=>none
def afz(a:bi)(b:bM)(r:Bool):Prop:=aH Tryz.prog 181 [.agg (enc .fmsg a),.agg (enc .ffld b)] (vB r)∧alS a b r
def aHr:bq Tryz.prog:=.mk 181 λ
 | [.agg [.str a,.sl .ffld (.may _) b,.sl .str (.may _) c,.sl .fmsg (.may _) d,.sl .pen (.may _) e,.sl .u2 (.may _) f,.sl .str (.may _) g],.agg [.int .i64 h,.str i,.str j,.str k,.int .u64 l,.int .i64 m,.int .i64 n]]=>pk (afz (.mk a b c d e f g) (⟨h,i,j,k,l,m,n⟩)) λr=>vB r
 |_=>none
def o7(a:Bs)(r:Int):Prop:=aH Tryz.prog 182 [vT a] (vI r)∧aiU a r
def asG:bq Tryz.prog:=.mk 182 λ
 | [.str a]=>pk (o7 a) λr=>vI r
 |_=>none
abbrev aFr:=Bs×Int×Int
def ac0(a:List ch)(b c d:Bs)(r:aFr):Prop:=aH Tryz.prog 183 [vF .fil a,vT b,vT c,vT d] (.tup [vT r.1,vI r.2.1,vI r.2.2])∧ab8 a b c d r
def aFs:bq Tryz.prog:=.mk 183 λ
 | [.sl .fil (.may _) a,.str b,.str c,.str d]=>pk (ac0 a b c d) λr=>.tup [vT r.1,vI r.2.1,vI r.2.2]
 |_=>none
def uv(a:Int)(r:Bs):Prop:=aH Tryz.prog 184 [vU a] (vT r)∧kV a r
def aDb:bq Tryz.prog:=.mk 184 λ
 | [.int .u64 a]=>pk (uv a) λr=>.str r
 |_=>none
def z6(a r:Int):Prop:=aH Tryz.prog 185 [vU a] (vU r)∧xn a r
def aHs:bq Tryz.prog:=.mk 185 λ
 | [.int .u64 a]=>pk (z6 a) λr=>vU r
 |_=>none
def aiv(a b:Int)(r:Bool):Prop:=aH Tryz.prog 190 [vI a,vU b] (vB r)∧axc a b r
def aFt:bq Tryz.prog:=.mk 190 λ
 | [.int .i64 a,.int .u64 b]=>pk (aiv a b) λr=>vB r
 |_=>none
abbrev aHt:=List Tok×Int×Int
def afA(a:Bs)(r:aHt):Prop:=aH Tryz.prog 204 [vT a] (.tup [vF .tok r.1,vI r.2.1,vI r.2.2])∧aea a r
def aHu:bq Tryz.prog:=.mk 204 λ
 | [.str a]=>pk (afA a) λr=>.tup [vF .tok r.1,vI r.2.1,vI r.2.2]
 |_=>none
abbrev od:=Bool×List Tok×Int×Int×Int
def bU(a:List Tok)(b c d:Int)(e:Bs)(r:od):Prop:=bv Tryz.prog 205 [.ptr 0 0,vT e] [[vF .tok a,vI b,vI c,vI d]] (vB r.1) [[vF .tok r.2.1,vI r.2.2.1,vI r.2.2.2.1,vI r.2.2.2.2]]∧yG a b c d e r
def oe:db Tryz.prog:=.mk 205 λ
 | [.ptr 0 0,.str e],[[.sl .tok (.may false) a,.int .i64 b,.int .i64 c,.int .i64 d]]=>pk (bU a b c d e) λr=>(vB r.1,[[vF .tok r.2.1,vI r.2.2.1,vI r.2.2.2.1,vI r.2.2.2.2]])
 |_,_=>none
abbrev adi:=List Tok×Int×Int×Int
def aN(a:List Tok)(b c d e:Int)(r:adi):Prop:=bv Tryz.prog 206 [.ptr 0 0,vI e] [[vF .tok a,vI b,vI c,vI d]] (.tup []) [[vF .tok r.1,vI r.2.1,vI r.2.2.1,vI r.2.2.2]]∧yC a b c d e r
def cE:db Tryz.prog:=.mk 206 λ
 | [.ptr 0 0,.int .i64 e],[[.sl .tok (.may false) a,.int .i64 b,.int .i64 c,.int .i64 d]]=>pk (aN a b c d e) λr=>(.tup [],[[vF .tok r.1,vI r.2.1,vI r.2.2.1,vI r.2.2.2]])
 |_,_=>none
def aJ(a:List Tok)(b c d:Int)(e:Bs)(r:adi):Prop:=bv Tryz.prog 207 [.ptr 0 0,vT e] [[vF .tok a,vI b,vI c,vI d]] (.tup []) [[vF .tok r.1,vI r.2.1,vI r.2.2.1,vI r.2.2.2]]∧yF a b c d e r
def fE:db Tryz.prog:=.mk 207 λ
 | [.ptr 0 0,.str e],[[.sl .tok (.may false) a,.int .i64 b,.int .i64 c,.int .i64 d]]=>pk (aJ a b c d e) λr=>(.tup [],[[vF .tok r.1,vI r.2.1,vI r.2.2.1,vI r.2.2.2]])
 |_,_=>none
abbrev arn:=Tok×List Tok×Int×Int×Int
def aY(a:List Tok)(b c d:Int)(r:arn):Prop:=bv Tryz.prog 208 [.ptr 0 0] [[vF .tok a,vI b,vI c,vI d]] (.agg (enc .tok r.1)) [[vF .tok r.2.1,vI r.2.2.1,vI r.2.2.2.1,vI r.2.2.2.2]]∧zH a b c d r
def dc:db Tryz.prog:=.mk 208 λ
 | [.ptr 0 0],[[.sl .tok (.may false) a,.int .i64 b,.int .i64 c,.int .i64 d]]=>pk (aY a b c d) λr=>(.agg (enc .tok r.1),[[vF .tok r.2.1,vI r.2.2.1,vI r.2.2.2.1,vI r.2.2.2.2]])
 |_,_=>none
abbrev uw:=Bs×List Tok×Int×Int×Int
def bG(a:List Tok)(b c d:Int)(r:uw):Prop:=bv Tryz.prog 209 [.ptr 0 0] [[vF .tok a,vI b,vI c,vI d]] (vT r.1) [[vF .tok r.2.1,vI r.2.2.1,vI r.2.2.2.1,vI r.2.2.2.2]]∧yI a b c d r
def adj:db Tryz.prog:=.mk 209 λ
 | [.ptr 0 0],[[.sl .tok (.may false) a,.int .i64 b,.int .i64 c,.int .i64 d]]=>pk (bG a b c d) λr=>(vT r.1,[[vF .tok r.2.1,vI r.2.2.1,vI r.2.2.2.1,vI r.2.2.2.2]])
 |_,_=>none
def bw(a:List Tok)(b c d:Int)(e:Bs)(r:od):Prop:=bv Tryz.prog 210 [.ptr 0 0,vT e] [[vF .tok a,vI b,vI c,vI d]] (vB r.1) [[vF .tok r.2.1,vI r.2.2.1,vI r.2.2.2.1,vI r.2.2.2.2]]∧yD a b c d e r
def fF:db Tryz.prog:=.mk 210 λ
 | [.ptr 0 0,.str e],[[.sl .tok (.may false) a,.int .i64 b,.int .i64 c,.int .i64 d]]=>pk (bw a b c d e) λr=>(vB r.1,[[vF .tok r.2.1,vI r.2.2.1,vI r.2.2.2.1,vI r.2.2.2.2]])
 |_,_=>none
def cl(a:List Tok)(b c d:Int)(e:Bs)(r:od):Prop:=bv Tryz.prog 211 [.ptr 0 0,vT e] [[vF .tok a,vI b,vI c,vI d]] (vB r.1) [[vF .tok r.2.1,vI r.2.2.1,vI r.2.2.2.1,vI r.2.2.2.2]]∧yE a b c d e r
def og:db Tryz.prog:=.mk 211 λ
 | [.ptr 0 0,.str e],[[.sl .tok (.may false) a,.int .i64 b,.int .i64 c,.int .i64 d]]=>pk (cl a b c d e) λr=>(vB r.1,[[vF .tok r.2.1,vI r.2.2.1,vI r.2.2.2.1,vI r.2.2.2.2]])
 |_,_=>none
def dh(a:List Tok)(b c d:Int)(r:uw):Prop:=bv Tryz.prog 212 [.ptr 0 0] [[vF .tok a,vI b,vI c,vI d]] (vT r.1) [[vF .tok r.2.1,vI r.2.2.1,vI r.2.2.2.1,vI r.2.2.2.2]]∧yH a b c d r
def uz:db Tryz.prog:=.mk 212 λ
 | [.ptr 0 0],[[.sl .tok (.may false) a,.int .i64 b,.int .i64 c,.int .i64 d]]=>pk (dh a b c d) λr=>(vT r.1,[[vF .tok r.2.1,vI r.2.2.1,vI r.2.2.2.1,vI r.2.2.2.2]])
 |_,_=>none
def bI(a:List Tok)(b c d e:Int)(r:od):Prop:=bv Tryz.prog 213 [.ptr 0 0,vI e] [[vF .tok a,vI b,vI c,vI d]] (vB r.1) [[vF .tok r.2.1,vI r.2.2.1,vI r.2.2.2.1,vI r.2.2.2.2]]∧yJ a b c d e r
def gA:db Tryz.prog:=.mk 213 λ
 | [.ptr 0 0,.int .i64 e],[[.sl .tok (.may false) a,.int .i64 b,.int .i64 c,.int .i64 d]]=>pk (bI a b c d e) λr=>(vB r.1,[[vF .tok r.2.1,vI r.2.2.1,vI r.2.2.2.1,vI r.2.2.2.2]])
 |_,_=>none
abbrev ai1:=bi×List Tok×Int×Int×Int
def gB(a:List Tok)(b c d e:Int)(r:ai1):Prop:=bv Tryz.prog 214 [.ptr 0 0,vI e] [[vF .tok a,vI b,vI c,vI d]] (.agg (enc .fmsg r.1)) [[vF .tok r.2.1,vI r.2.2.1,vI r.2.2.2.1,vI r.2.2.2.2]]∧um a b c d e r
def yP:db Tryz.prog:=.mk 214 λ
 | [.ptr 0 0,.int .i64 e],[[.sl .tok (.may false) a,.int .i64 b,.int .i64 c,.int .i64 d]]=>pk (gB a b c d e) λr=>(.agg (enc .fmsg r.1),[[vF .tok r.2.1,vI r.2.2.1,vI r.2.2.2.1,vI r.2.2.2.2]])
 |_,_=>none
abbrev aoP:=PEn×List Tok×Int×Int×Int
def ku(a:List Tok)(b c d:Int)(r:aoP):Prop:=bv Tryz.prog 215 [.ptr 0 0] [[vF .tok a,vI b,vI c,vI d]] (.agg (enc .pen r.1)) [[vF .tok r.2.1,vI r.2.2.1,vI r.2.2.2.1,vI r.2.2.2.2]]∧yL a b c d r
def adk:db Tryz.prog:=.mk 215 λ
 | [.ptr 0 0],[[.sl .tok (.may false) a,.int .i64 b,.int .i64 c,.int .i64 d]]=>pk (ku a b c d) λr=>(.agg (enc .pen r.1),[[vF .tok r.2.1,vI r.2.2.1,vI r.2.2.2.1,vI r.2.2.2.2]])
 |_,_=>none
def o8(a b r:Bs):Prop:=aH Tryz.prog 216 [vT a,vT b] (vT r)∧aiV a b r
def asH:bq Tryz.prog:=.mk 216 λ
 | [.str a,.str b]=>pk (o8 a b) λr=>.str r
 |_=>none
def lI(a b:Bs)(r:Int):Prop:=aH Tryz.prog 217 [vT a,vT b] (vI r)∧qQ a b r
def aro:bq Tryz.prog:=.mk 217 λ
 | [.str a,.str b]=>pk (lI a b) λr=>vI r
 |_=>none
abbrev aoQ:=Bs×Int×Int×Int
def oh(a:Bs)(b c d:Int)(r:aoQ):Prop:=bv Tryz.prog 227 [.ptr 0 0] [[vT a,vI b,vI c,vI d]] (.tup []) [[vT r.1,vI r.2.1,vI r.2.2.1,vI r.2.2.2]]∧dk a b c d r
def aoR:db Tryz.prog:=.mk 227 λ
 | [.ptr 0 0],[[.str a,.int .i64 b,.int .i64 c,.int .i64 d]]=>pk (oh a b c d) λr=>(.tup [],[[vT r.1,vI r.2.1,vI r.2.2.1,vI r.2.2.2]])
 |_,_=>none
abbrev py:=Tok×Bs×Int×Int×Int
def pz(a:Bs)(b c d:Int)(r:py):Prop:=bv Tryz.prog 228 [.ptr 0 0] [[vT a,vI b,vI c,vI d]] (.agg (enc .tok r.1)) [[vT r.2.1,vI r.2.2.1,vI r.2.2.2.1,vI r.2.2.2.2]]∧zG a b c d r
def arp:db Tryz.prog:=.mk 228 λ
 | [.ptr 0 0],[[.str a,.int .i64 b,.int .i64 c,.int .i64 d]]=>pk (pz a b c d) λr=>(.agg (enc .tok r.1),[[vT r.2.1,vI r.2.2.1,vI r.2.2.2.1,vI r.2.2.2.2]])
 |_,_=>none
def dn(a:List Tok)(b c d:Int)(r:uw):Prop:=bv Tryz.prog 229 [.ptr 0 0] [[vF .tok a,vI b,vI c,vI d]] (vT r.1) [[vF .tok r.2.1,vI r.2.2.1,vI r.2.2.2.1,vI r.2.2.2.2]]∧wC a b c d r
def ji:db Tryz.prog:=.mk 229 λ
 | [.ptr 0 0],[[.sl .tok (.may false) a,.int .i64 b,.int .i64 c,.int .i64 d]]=>pk (dn a b c d) λr=>(vT r.1,[[vF .tok r.2.1,vI r.2.2.1,vI r.2.2.2.1,vI r.2.2.2.2]])
 |_,_=>none
abbrev jj:=List Tok×Int×Int×Int×Bs×List bM×Bss×List bi×List PEn×List (Int×Int)×Bss
def nD(a:List Tok)(b c d:Int)(e:Bs)(f:List bM)(g:Bss)(h:List bi)(i:List PEn)(j:List (Int×Int))(k:Bss)(r:jj):Prop:=bv Tryz.prog 230 [.ptr 0 0,.ptr 1 0] [[vF .tok a,vI b,vI c,vI d],[vT e,vO .ffld f,vO .str g,.ul .fmsg h,vO .pen i,vO .u2 j,vO .str k]] (.tup []) [[vF .tok r.1,vI r.2.1,vI r.2.2.1,vI r.2.2.2.1],[vT r.2.2.2.2.1,vO .ffld r.2.2.2.2.2.1,vO .str r.2.2.2.2.2.2.1,.ul .fmsg r.2.2.2.2.2.2.2.1,vO .pen r.2.2.2.2.2.2.2.2.1,vO .u2 r.2.2.2.2.2.2.2.2.2.1,vO .str r.2.2.2.2.2.2.2.2.2.2]]∧wE a b c d e f g h i j k r
def amQ:db Tryz.prog:=.mk 230 λ
 | [.ptr 0 0,.ptr 1 0],[[.sl .tok (.may false) a,.int .i64 b,.int .i64 c,.int .i64 d],[.str e,.sl .ffld .own f,.sl .str .own g,.ul .fmsg h,.sl .pen .own i,.sl .u2 .own j,.sl .str .own k]]=>pk (nD a b c d e f g h i j k) λr=>(.tup [],[[vF .tok r.1,vI r.2.1,vI r.2.2.1,vI r.2.2.2.1],[vT r.2.2.2.2.1,vO .ffld r.2.2.2.2.2.1,vO .str r.2.2.2.2.2.2.1,.ul .fmsg r.2.2.2.2.2.2.2.1,vO .pen r.2.2.2.2.2.2.2.2.1,vO .u2 r.2.2.2.2.2.2.2.2.2.1,vO .str r.2.2.2.2.2.2.2.2.2.2]])
 |_,_=>none
def j4(a:List Tok)(b c d:Int)(e:Bs)(f:List bM)(g:Bss)(h:List bi)(i:List PEn)(j:List (Int×Int))(k:Bss)(r:jj):Prop:=bv Tryz.prog 231 [.ptr 0 0,.ptr 1 0] [[vF .tok a,vI b,vI c,vI d],[vT e,vO .ffld f,vO .str g,.ul .fmsg h,vO .pen i,vO .u2 j,vO .str k]] (.tup []) [[vF .tok r.1,vI r.2.1,vI r.2.2.1,vI r.2.2.2.1],[vT r.2.2.2.2.1,vO .ffld r.2.2.2.2.2.1,vO .str r.2.2.2.2.2.2.1,.ul .fmsg r.2.2.2.2.2.2.2.1,vO .pen r.2.2.2.2.2.2.2.2.1,vO .u2 r.2.2.2.2.2.2.2.2.2.1,vO .str r.2.2.2.2.2.2.2.2.2.2]]∧tm a b c d e f g h i j k r
def aiw:db Tryz.prog:=.mk 231 λ
 | [.ptr 0 0,.ptr 1 0],[[.sl .tok (.may false) a,.int .i64 b,.int .i64 c,.int .i64 d],[.str e,.sl .ffld .own f,.sl .str .own g,.ul .fmsg h,.sl .pen .own i,.sl .u2 .own j,.sl .str .own k]]=>pk (j4 a b c d e f g h i j k) λr=>(.tup [],[[vF .tok r.1,vI r.2.1,vI r.2.2.1,vI r.2.2.2.1],[vT r.2.2.2.2.1,vO .ffld r.2.2.2.2.2.1,vO .str r.2.2.2.2.2.2.1,.ul .fmsg r.2.2.2.2.2.2.2.1,vO .pen r.2.2.2.2.2.2.2.2.1,vO .u2 r.2.2.2.2.2.2.2.2.2.1,vO .str r.2.2.2.2.2.2.2.2.2.2]])
 |_,_=>none
def ga(a:List Tok)(b c d:Int)(e:Bs)(f:List bM)(g:Bss)(h:List bi)(i:List PEn)(j:List (Int×Int))(k:Bss)(r:jj):Prop:=bv Tryz.prog 232 [.ptr 0 0,.ptr 1 0] [[vF .tok a,vI b,vI c,vI d],[vT e,vO .ffld f,vO .str g,.ul .fmsg h,vO .pen i,vO .u2 j,vO .str k]] (.tup []) [[vF .tok r.1,vI r.2.1,vI r.2.2.1,vI r.2.2.2.1],[vT r.2.2.2.2.1,vO .ffld r.2.2.2.2.2.1,vO .str r.2.2.2.2.2.2.1,.ul .fmsg r.2.2.2.2.2.2.2.1,vO .pen r.2.2.2.2.2.2.2.2.1,vO .u2 r.2.2.2.2.2.2.2.2.2.1,vO .str r.2.2.2.2.2.2.2.2.2.2]]∧oV a b c d e f g h i j k r
def aa8:db Tryz.prog:=.mk 232 λ
 | [.ptr 0 0,.ptr 1 0],[[.sl .tok (.may false) a,.int .i64 b,.int .i64 c,.int .i64 d],[.str e,.sl .ffld .own f,.sl .str .own g,.ul .fmsg h,.sl .pen .own i,.sl .u2 .own j,.sl .str .own k]]=>pk (ga a b c d e f g h i j k) λr=>(.tup [],[[vF .tok r.1,vI r.2.1,vI r.2.2.1,vI r.2.2.2.1],[vT r.2.2.2.2.1,vO .ffld r.2.2.2.2.2.1,vO .str r.2.2.2.2.2.2.1,.ul .fmsg r.2.2.2.2.2.2.2.1,vO .pen r.2.2.2.2.2.2.2.2.1,vO .u2 r.2.2.2.2.2.2.2.2.2.1,vO .str r.2.2.2.2.2.2.2.2.2.2]])
 |_,_=>none
def nE(a:List Tok)(b c d:Int)(e:Bs)(f:List bM)(g:Bss)(h:List bi)(i:List PEn)(j:List (Int×Int))(k:Bss)(r:jj):Prop:=bv Tryz.prog 233 [.ptr 0 0,.ptr 1 0] [[vF .tok a,vI b,vI c,vI d],[vT e,vO .ffld f,vO .str g,.ul .fmsg h,vO .pen i,vO .u2 j,vO .str k]] (.tup []) [[vF .tok r.1,vI r.2.1,vI r.2.2.1,vI r.2.2.2.1],[vT r.2.2.2.2.1,vO .ffld r.2.2.2.2.2.1,vO .str r.2.2.2.2.2.2.1,.ul .fmsg r.2.2.2.2.2.2.2.1,vO .pen r.2.2.2.2.2.2.2.2.1,vO .u2 r.2.2.2.2.2.2.2.2.2.1,vO .str r.2.2.2.2.2.2.2.2.2.2]]∧wD a b c d e f g h i j k r
def amR:db Tryz.prog:=.mk 233 λ
 | [.ptr 0 0,.ptr 1 0],[[.sl .tok (.may false) a,.int .i64 b,.int .i64 c,.int .i64 d],[.str e,.sl .ffld .own f,.sl .str .own g,.ul .fmsg h,.sl .pen .own i,.sl .u2 .own j,.sl .str .own k]]=>pk (nE a b c d e f g h i j k) λr=>(.tup [],[[vF .tok r.1,vI r.2.1,vI r.2.2.1,vI r.2.2.2.1],[vT r.2.2.2.2.1,vO .ffld r.2.2.2.2.2.1,vO .str r.2.2.2.2.2.2.1,.ul .fmsg r.2.2.2.2.2.2.2.1,vO .pen r.2.2.2.2.2.2.2.2.1,vO .u2 r.2.2.2.2.2.2.2.2.2.1,vO .str r.2.2.2.2.2.2.2.2.2.2]])
 |_,_=>none
def pX(a:Bs)(r:Bool):Prop:=aH Tryz.prog 234 [vT a] (vB r)
def aoS:bq Tryz.prog:=.mk 234 λ
 | [.str a]=>pk (pX a) λr=>vB r
 |_=>none
abbrev arq:=Int×List Tok×Int×Int×Int
def dv(a:List Tok)(b c d:Int)(r:arq):Prop:=bv Tryz.prog 235 [.ptr 0 0] [[vF .tok a,vI b,vI c,vI d]] (vU r.1) [[vF .tok r.2.1,vI r.2.2.1,vI r.2.2.2.1,vI r.2.2.2.2]]∧zI a b c d r
def pA:db Tryz.prog:=.mk 235 λ
 | [.ptr 0 0],[[.sl .tok (.may false) a,.int .i64 b,.int .i64 c,.int .i64 d]]=>pk (dv a b c d) λr=>(vU r.1,[[vF .tok r.2.1,vI r.2.2.1,vI r.2.2.2.1,vI r.2.2.2.2]])
 |_,_=>none
abbrev amS:=Bool×Bs×Int×Int×Int
def cG(a:Bs)(b c d:Int)(e:Bs)(r:amS):Prop:=bv Tryz.prog 242 [.ptr 0 0,vT e] [[vT a,vI b,vI c,vI d]] (vB r.1) [[vT r.2.1,vI r.2.2.1,vI r.2.2.2.1,vI r.2.2.2.2]]∧wB a b c d e r
def aa9:db Tryz.prog:=.mk 242 λ
 | [.ptr 0 0,.str e],[[.str a,.int .i64 b,.int .i64 c,.int .i64 d]]=>pk (cG a b c d e) λr=>(vB r.1,[[vT r.2.1,vI r.2.2.1,vI r.2.2.2.1,vI r.2.2.2.2]])
 |_,_=>none
def bH(a:Bs)(b c d e f:Int)(r:py):Prop:=bv Tryz.prog 243 [.ptr 0 0,vI e,vI f] [[vT a,vI b,vI c,vI d]] (.agg (enc .tok r.1)) [[vT r.2.1,vI r.2.2.1,vI r.2.2.2.1,vI r.2.2.2.2]]∧qS a b c d e f r
def pB:db Tryz.prog:=.mk 243 λ
 | [.ptr 0 0,.int .i64 e,.int .i64 f],[[.str a,.int .i64 b,.int .i64 c,.int .i64 d]]=>pk (bH a b c d e f) λr=>(.agg (enc .tok r.1),[[vT r.2.1,vI r.2.2.1,vI r.2.2.2.1,vI r.2.2.2.2]])
 |_,_=>none
def ej(a:Int)(r:Bool):Prop:=aH Tryz.prog 244 [.int .u8 a] (vB r)∧afZ a r
def aei:bq Tryz.prog:=.mk 244 λ
 | [.int .u8 a]=>pk (ej a) λr=>vB r
 |_=>none
abbrev ars:=Int×Bs×Int×Int×Int
def cB(a:Bs)(b c d e:Int)(r:ars):Prop:=bv Tryz.prog 245 [.ptr 0 0,vI e] [[vT a,vI b,vI c,vI d]] (.int .u8 r.1) [[vT r.2.1,vI r.2.2.1,vI r.2.2.2.1,vI r.2.2.2.2]]∧zE a b c d e r
def wg:db Tryz.prog:=.mk 245 λ
 | [.ptr 0 0,.int .i64 e],[[.str a,.int .i64 b,.int .i64 c,.int .i64 d]]=>pk (cB a b c d e) λr=>(.int .u8 r.1,[[vT r.2.1,vI r.2.2.1,vI r.2.2.2.1,vI r.2.2.2.2]])
 |_,_=>none
def fG(a:Int)(r:Bool):Prop:=aH Tryz.prog 246 [.int .u8 a] (vB r)∧ahu a r
def agi:bq Tryz.prog:=.mk 246 λ
 | [.int .u8 a]=>pk (fG a) λr=>vB r
 |_=>none
def jk(a:Bs)(b c d:Int)(r:py):Prop:=bv Tryz.prog 247 [.ptr 0 0] [[vT a,vI b,vI c,vI d]] (.agg (enc .tok r.1)) [[vT r.2.1,vI r.2.2.1,vI r.2.2.2.1,vI r.2.2.2.2]]∧oU a b c d r
def amT:db Tryz.prog:=.mk 247 λ
 | [.ptr 0 0],[[.str a,.int .i64 b,.int .i64 c,.int .i64 d]]=>pk (jk a b c d) λr=>(.agg (enc .tok r.1),[[vT r.2.1,vI r.2.2.1,vI r.2.2.2.1,vI r.2.2.2.2]])
 |_,_=>none
def f6(a:Bs)(b c d:Int)(r:py):Prop:=bv Tryz.prog 248 [.ptr 0 0] [[vT a,vI b,vI c,vI d]] (.agg (enc .tok r.1)) [[vT r.2.1,vI r.2.2.1,vI r.2.2.2.1,vI r.2.2.2.2]]∧zF a b c d r
def art:db Tryz.prog:=.mk 248 λ
 | [.ptr 0 0],[[.str a,.int .i64 b,.int .i64 c,.int .i64 d]]=>pk (f6 a b c d) λr=>(.agg (enc .tok r.1),[[vT r.2.1,vI r.2.2.1,vI r.2.2.2.1,vI r.2.2.2.2]])
 |_,_=>none
def dV(a:List Tok)(b c d:Int)(e:Bs)(f:List bM)(g:Bss)(h:List bi)(i:List PEn)(j:List (Int×Int))(k:Bss)(l:bM)(r:jj):Prop:=bv Tryz.prog 249 [.ptr 0 0,.ptr 1 0,.agg (enc .ffld l)] [[vF .tok a,vI b,vI c,vI d],[vT e,vO .ffld f,vO .str g,.ul .fmsg h,vO .pen i,vO .u2 j,vO .str k]] (.tup []) [[vF .tok r.1,vI r.2.1,vI r.2.2.1,vI r.2.2.2.1],[vT r.2.2.2.2.1,vO .ffld r.2.2.2.2.2.1,vO .str r.2.2.2.2.2.2.1,.ul .fmsg r.2.2.2.2.2.2.2.1,vO .pen r.2.2.2.2.2.2.2.2.1,vO .u2 r.2.2.2.2.2.2.2.2.2.1,vO .str r.2.2.2.2.2.2.2.2.2.2]]∧yK a b c d e f g h i j k l r
def adl:db Tryz.prog:=.mk 249 λ
 | [.ptr 0 0,.ptr 1 0,.agg [.int .i64 a,.str b,.str c,.str d,.int .u64 e,.int .i64 f,.int .i64 g]],[[.sl .tok (.may false) h,.int .i64 i,.int .i64 j,.int .i64 k],[.str l,.sl .ffld .own m,.sl .str .own n,.ul .fmsg o,.sl .pen .own p,.sl .u2 .own q,.sl .str .own s]]=>pk (dV h i j k l m n o p q s (⟨a,b,c,d,e,f,g⟩)) λr=>(.tup [],[[vF .tok r.1,vI r.2.1,vI r.2.2.1,vI r.2.2.2.1],[vT r.2.2.2.2.1,vO .ffld r.2.2.2.2.2.1,vO .str r.2.2.2.2.2.2.1,.ul .fmsg r.2.2.2.2.2.2.2.1,vO .pen r.2.2.2.2.2.2.2.2.1,vO .u2 r.2.2.2.2.2.2.2.2.2.1,vO .str r.2.2.2.2.2.2.2.2.2.2]])
 |_,_=>none
def wK(a:Bs)(r:Bool):Prop:=aH Tryz.prog 250 [vT a] (vB r)
def aFu:bq Tryz.prog:=.mk 250 λ
 | [.str a]=>pk (wK a) λr=>vB r
 |_=>none
def mW(a r:Int):Prop:=aH Tryz.prog 252 [.int .u8 a] (vI r)∧zD a r
def aDc:bq Tryz.prog:=.mk 252 λ
 | [.int .u8 a]=>pk (mW a) λr=>vI r
 |_=>none
abbrev tb_:= @tab Tryz.prog
def aAx:aG:=tb_ [] [] [] []
def ai2:IR:=Rs [Mb 2 false] (Rs [Mv 3 0,Pp (.bin 4 .geq 3 (.c (.int .u8 97))),Mv 5 4,Gt 5 (.mov 6 0),Gt 5 (.bin 7 .leq 6 (.c (.int .u8 122))),Pa 8 5 7,Mv 9 8,Gf 9 (.mov 10 0),Gf 9 (.bin 11 .geq 10 (.c (.int .u8 65))),Gf 9 (.mov 12 11),Gt 12 (.mov 13 0),Gt 12 (.bin 14 .leq 13 (.c (.int .u8 90))),Gf 9 (.pick 15 12 14 (kB false)),Po 16 9 15,Mv 17 16,Gf 17 (.mov 18 0),Gf 17 (.bin 19 .eql 18 (.c (.int .u8 95))),Po 20 17 19,Mv 2 20] .ret)
theorem axS:FnC Tryz.prog aAx [] 0 244 Tryz.f244 ai2 aF:=fnC Tryz.func244
def ai3(N:Nat)(a:Int):Ro:=let b:=(some (vB (a==95),[]):Ro);cond (decide (97<=a)) (cond (decide (a<=122)) (some (vB true,[])) (cond (decide (65<=a)) (cond (decide (a<=90)) (some (vB true,[])) (b)) (b))) (cond (decide (65<=a)) (cond (decide (a<=90)) (some (vB true,[])) (b)) (b))
def ai4(N:Nat)(a:Int):Ro:=ai3 N a
theorem avK(N:Nat)(b:Int)(h:Tot (ai4 N b) (λz=>∃a rest,z.1.dimR=vB a∧z.2=rest∧afZ b (a))):∃r,ej b r:=axS.finP (N:=N) (by kernel_rfl) h λ_ ⟨a,_,e,_,q⟩=>⟨(a),e,q⟩
def aDd:aG:=tb_ [] [] [] []
def ama:IR:=Rs [Mb 2 false] (Rs [Mv 3 0,Pp (.bin 4 .geq 3 (.c (.int .u8 48))),Mv 5 4,Gt 5 (.mov 6 0),Gt 5 (.bin 7 .leq 6 (.c (.int .u8 57))),Pa 8 5 7,Mv 2 8] .ret)
theorem aAy:FnC Tryz.prog aDd [] 0 246 Tryz.f246 ama aF:=fnC Tryz.func246
def amb(N:Nat)(a:Int):Ro:=cond (decide (48<=a)) (some (vB (decide (a<=57)),[])) (some (vB false,[]))
def amc(N:Nat)(a:Int):Ro:=amb N a
theorem axT(N:Nat)(b:Int)(h:Tot (amc N b) (λz=>∃a rest,z.1.dimR=vB a∧z.2=rest∧ahu b (a))):∃r,fG b r:=aAy.finP (N:=N) (by kernel_rfl) h λ_ ⟨a,_,e,_,q⟩=>⟨(a),e,q⟩
def aix:aG:=tb_ [] [] [] [aei,agi]
def ai5:IR:=Sq (Rs [Mv 4 3,Mv 5 0,Pp (.lens 6 5),Bi 7 .lss 4 6] (Cn 7 .skip (.exit 0))) (Sq (.block 1 (Rs [Mv 10 0,Mv 11 3,Pp (.idx 12 10 11),Ca 13 244 [12],Un 14 13,Mv 15 14,Gt 15 (.mov 16 3),Gt 15 (.bin 17 .eql 16 (kI 0)),Gt 15 (.mov 18 17),Gf 18 (.mov 19 0),Gf 18 (.mov 20 3),Gf 18 (.idx 21 19 20),Gf 18 (.call 22 246 [21]),Gf 18 (.un 23 .not 22),Gt 15 (.pick 24 18 (kB true) 23),Pa 25 15 24] (Cn 25 (Rs [Mb 2 false] .ret) .skip))) (Rg [Mv 8 3,Bc 9 .add 8 1,Mv 3 9]))
def ai6:IR:=Rs [Mv 26 0,Pp (.lens 27 26),Bc 28 .gtr 27 0,Mv 2 28] .ret
def aDe:IR:=Rs [Mb 2 false] (Sq (Rs [Mi 3 0] (.block 0 (.loop [0,3,1000000] 0 ai5))) ai6)
theorem aDf:FnC Tryz.prog aix [] 0 250 Tryz.f250 aDe aF:=fnC Tryz.func250
def aAz(R:TR)(a:TS):TE:=(bo a [0,3,1000000] 0 (aQ 0 (kseq (R ai6) (fin aF))))
abbrev fO:Type:=(Bs×Int)
def vj:fO->St:=λ(a,b)=>{env:=(vT a::.undef::.undef::vI b::(U 25 [])),hp:=[]}
def aej(N:Nat):TS->TS:=λa s=>run aix N ai5 (aAz (run aix N) a) s
def xA(N:Nat)(a:fO->Ro):fO->Ro:=λ(b,c)=>let d:=(↑(Aa b):Int);cond (decide (c<d)) (chk (ixl c b) (let e:=(↑(AW (Af b (Ad c) 0)):Int);aA (ej e) (λ(f:Bool)=>cond (!f) (cond (c==0) (some (vB false,[])) (chk (ixl c b) (let g:=(↑(AW (Af b (Ad c) 0)):Int);aA (fG g) (λ(h:Bool)=>cond (!h) (some (vB false,[])) (let i:=(Ab .i64 (c+1));a (b,i)))))) (let j:=(Ab .i64 (c+1));a (b,j))))) (let k:=(↑(Aa b):Int);some (vB (decide (0<k)),[]))
theorem axU(N:Nat):LB (aej N) vj (xA N):=λ_ _=>by kernel_rfl
def uA(N:Nat)(a:Bs)(b:fO->Ro):Ro:=b (a,0)
def aoT(N:Nat)(a:Bs):Ro:=uA N a (λz=>aO N (xA N) z)
theorem aAA(N:Nat)(a:Bs)(h:Tot (aoT N a) (λz=>∃c rest,z.1.dimR=vB c∧z.2=rest)):∃r,wK a r:=aDf.finP0 (N:=N) ((bD _ (by kernel_rfl) rfl (λC=>uA N a (λz=>C 1000000 (vj z))) (λC=>by kernel_rfl)).trans (AB (b:=uA N a (λz=>aZ N (aej N) (vj z))) (by kernel_rfl) (congrArg (uA N a) (funext λz=>aU (vj) (aej N) (xA N) (axU N) N z)))) h λ_ ⟨c,_,e,_⟩=>⟨(c),e⟩
def aDg:aG:=tb_ [] [] [] []
def amd:IR:=Rs [Mi 2 0] (Sq (.block 0 (Rs [Mv 4 0,Pp (.bin 5 .geq 4 (.c (.int .u8 48))),Mv 6 5,Gt 6 (.mov 7 0),Gt 6 (.bin 8 .leq 7 (.c (.int .u8 57))),Pa 9 6 8,Mv 3 9] (Cn 3 (Rs [Mv 10 0,Pp (.bin 11 .sub 10 (.c (.int .u8 48))),Pp (.cvi 12 .i64 11),Mv 2 12] .ret) (Rs [Mv 14 0,Pp (.bin 15 .geq 14 (.c (.int .u8 97))),Mv 16 15,Gt 16 (.mov 17 0),Gt 16 (.bin 18 .leq 17 (.c (.int .u8 102))),Pa 19 16 18,Mv 13 19] (Cn 13 (Rs [Mv 20 0,Pp (.bin 21 .sub 20 (.c (.int .u8 97))),Pp (.cvi 22 .i64 21),Bc 23 .add 22 10,Mv 2 23] .ret) (Rs [Mv 25 0,Pp (.bin 26 .geq 25 (.c (.int .u8 65))),Mv 27 26,Gt 27 (.mov 28 0),Gt 27 (.bin 29 .leq 28 (.c (.int .u8 70))),Pa 30 27 29,Mv 24 30] (Cn 24 (Rs [Mv 31 0,Pp (.bin 32 .sub 31 (.c (.int .u8 65))),Pp (.cvi 33 .i64 32),Bc 34 .add 33 10,Mv 2 34] .ret) .skip))))))) (Rs [Mi 2 (-1)] .ret))
theorem aAB:FnC Tryz.prog aDg [] 0 252 Tryz.f252 amd aF:=fnC Tryz.func252
def ame(N:Nat)(a:Int):Ro:=let b:=(some (vI (-1),[]):Ro);cond (decide (48<=a)) (cond (decide (a<=57)) (let g:=(Ab .u8 (a-48));some (vI (Ab .i64 g),[])) (cond (decide (97<=a)) (cond (decide (a<=102)) (let h:=(Ab .u8 (a-97));let i:=(Ab .i64 ((Ab .i64 h)+10));some (vI i,[])) (cond (decide (65<=a)) (cond (decide (a<=70)) (let j:=(Ab .u8 (a-65));let k:=(Ab .i64 ((Ab .i64 j)+10));some (vI k,[])) (b)) (b))) (cond (decide (65<=a)) (cond (decide (a<=70)) (let l:=(Ab .u8 (a-65));let m:=(Ab .i64 ((Ab .i64 l)+10));some (vI m,[])) (b)) (b)))) (cond (decide (97<=a)) (cond (decide (a<=102)) (let n:=(Ab .u8 (a-97));let o:=(Ab .i64 ((Ab .i64 n)+10));some (vI o,[])) (cond (decide (65<=a)) (cond (decide (a<=70)) (let c:=(Ab .u8 (a-65));let d:=(Ab .i64 ((Ab .i64 c)+10));some (vI d,[])) (b)) (b))) (cond (decide (65<=a)) (cond (decide (a<=70)) (let e:=(Ab .u8 (a-65));let f:=(Ab .i64 ((Ab .i64 e)+10));some (vI f,[])) (b)) (b)))
def amf(N:Nat)(a:Int):Ro:=ame N a
theorem axV(N:Nat)(b:Int)(h:Tot (amf N b) (λz=>∃a rest,z.1.dimR=vI a∧z.2=rest∧zD b (a))):∃r,mW b r:=aAB.finP (N:=N) (by kernel_rfl) h λ_ ⟨a,_,e,_,q⟩=>⟨(a),e,q⟩
def aru:aG:=tb_ [] [] [] []
def adm:IR:=Rs [Pp (.new 6 [vI 0,vS,vU 0,vI 0])] (Rs [Mv 7 0,Mv 8 0,Mv 9 1,Mv 10 2,Nk 11 7,Fa 12 2 11,Sv 1 12 9,Nk 13 8,Fa 14 3 13,Sv 1 14 10] (Rs [Pp (.bld 15 [vI 0,vS,vU 0,vI 0] []),Sv 4 6 15] .ret))
def adn:List RV:=[.cell 6 4 true]
theorem aoU:FnC Tryz.prog aru [] 1 243 Tryz.f243 adm adn:=fnC Tryz.func243
def ado(N:Nat)(a:Bs)(b c d e f:Int):Ro:=some (.agg [vI 0,vT [],vU 0,vI 0],[some [vT a,vI b,vI e,vI f],some [vI 0,vT [],vU 0,vI 0]])
def adp(N:Nat)(a:Bs)(b c d e f:Int):Ro:=ado N a b c d e f
theorem amU(N:Nat)(a:Bs)(b c d m n:Int)(h:Tot (adp N a b c d m n) (λz=>∃g i j k l rest,z.1.dimR=.agg (enc .tok g)∧z.2=some [vT i,vI j,vI k,vI l]::rest∧qS a b c d m n (g,i,j,k,l))):∃r,bH a b c d m n r:=FnC.finO (css:=[[vT a,vI b,vI c,vI d]]) aoU (N:=N) (by kernel_rfl) h λ_ ⟨g,i,j,k,l,_,e,f,q⟩=>⟨(g,i,j,k,l),e,⟨_,f⟩,q⟩
def amV:aG:=tb_ [] [] [] []
def z7:IR:=Rs [Mb 4 false] (Sq (.reg [Mv 5 0,Nk 6 5,Fa 7 1 6,Fo [0] [] (.ld 8 1 false false 7),Mv 9 1,Pp (.lens 10 9),Bi 11 .add 8 10,Mv 12 0,Nk 13 12,Fa 14 0 13,Fo [0] [] (.ld 15 1 false false 14),Pp (.lens 16 15),Bi 17 .leq 11 16,Mv 18 17,Gt 18 (.mov 19 0),Gt 18 (.nck 20 19),Gt 18 (.fad 21 0 20),⟨some (18,true),.ld 22 1 false false 21,some ([0],[])⟩,Gt 18 (.mov 23 0),Gt 18 (.nck 24 23),Gt 18 (.fad 25 1 24),⟨some (18,true),.ld 26 1 false false 25,some ([0],[])⟩,Gt 18 (.mov 27 0),Gt 18 (.nck 28 27),Gt 18 (.fad 29 1 28),⟨some (18,true),.ld 30 1 false false 29,some ([0],[])⟩,Gt 18 (.mov 31 1),Gt 18 (.lens 32 31),Gt 18 (.bin 33 .add 30 32),Gt 18 (.subs 34 22 (some 26) (some 33)),Gt 18 (.mov 35 1),Gt 18 (.bin 36 .eql 34 35),Pa 37 18 36,Mv 4 37] [[],[0],[0,1],[0,1,2],[],[4],rg 0 5,[],[7],[7,8],[7,8,9],rg 7 10,rg 0 11,rg 0 12,rg 0 13,rg 0 14,rg 0 15,rg 0 16,rg 0 13,rg 0 13++[18],rg 0 13++[18,19],rg 0 13++[18,19,20],rg 0 13,rg 0 13++[22],rg 0 13++[22,23],rg 0 13++[22,23,24],rg 0 13,rg 0 13++[26],rg 0 13++rg 22 27,rg 0 28,rg 0 13,rg 0 30,rg 0 31,rg 0 32]) .ret)
theorem akR:FnC Tryz.prog amV [] 1 242 Tryz.f242 z7 aR:=fnC Tryz.func242
def z8(N:Nat)(b:Bs)(a c d:Int)(f:Bs):Ro:=let h:=(↑(Aa f):Int);let i:=(Ab .i64 (a+h));let j:=(↑(Aa b):Int);let g:=λk=>(some (vB k,[some [vT b,vI a,vI c,vI d]]):Ro);cond (decide (i<=j)) (let l:=(↑(Aa f):Int);let e:=(Ab .i64 (a+l));chk (decide (0<=e)&&decide (e<=(↑(Aa b):Int))&&(decide (0<=a)&&decide (a<=e))) (let m:=(An (Ad a) (Ao (Ad e) b));g (decide (m=f)))) (g false)
def z9(N:Nat)(a:Bs)(b c d:Int)(e:Bs):Ro:=z8 N a b c d e
theorem ai7(N:Nat)(a:Bs)(b c d:Int)(m:Bs)(h:Tot (z9 N a b c d m) (λz=>∃g i j k l rest,z.1.dimR=vB g∧z.2=some [vT i,vI j,vI k,vI l]::rest∧wB a b c d m (g,i,j,k,l))):∃r,cG a b c d m r:=FnC.finO (css:=[[vT a,vI b,vI c,vI d]]) akR (N:=N) (by kernel_rfl) h λ_ ⟨g,i,j,k,l,_,e,f,q⟩=>⟨(g,i,j,k,l),e,⟨_,f⟩,q⟩
def arv:aG:=tb_ [] [] [] []
def adq:IR:=Rs [Pp (.mov 4 (.c (.int .u8 0)))] (Sq (Sq (.reg [Mv 5 0,Nk 6 5,Fa 7 1 6,Fo [0] [] (.ld 8 1 false false 7),Mv 9 1,Bi 10 .add 8 9,Mv 11 0,Nk 12 11,Fa 13 0 12,Fo [0] [] (.ld 14 1 false false 13),Pp (.lens 15 14),Bi 16 .lss 10 15] [[],[0],[0,1],[0,1,2],[],rg 0 4,[],[6],[6,7],[6,7,8],rg 6 9,rg 0 10]) (Cn 16 (Sq (.reg [Mv 17 0,Nk 18 17,Fa 19 0 18,Fo [0] [] (.ld 20 1 false false 19),Mv 21 0,Nk 22 21,Fa 23 1 22,Fo [0] [] (.ld 24 1 false false 23),Mv 25 1,Bi 26 .add 24 25,Pp (.idx 27 20 26),Mv 4 27] [[],[0],[0,1],[0,1,2],[],[4],[4,5],[4,5,6],[],rg 4 8,rg 0 9,rg 0 10]) .ret) .skip)) (Rs [Pp (.mov 4 (.c (.int .u8 0)))] .ret))
theorem aoV:FnC Tryz.prog arv [] 1 245 Tryz.f245 adq aR:=fnC Tryz.func245
def adr(N:Nat)(a:Bs)(b c d e:Int):Ro:=let h:=(Ab .i64 (b+e));let i:=(↑(Aa a):Int);let f:=λj=>(some (.int .u8 j,[some [vT a,vI b,vI c,vI d]]):Ro);cond (decide (h<i)) (let g:=(Ab .i64 (b+e));chk (ixl g a) (let k:=(↑(AW (Af a (Ad g) 0)):Int);f k)) (f 0)
def ads(N:Nat)(a:Bs)(b c d e:Int):Ro:=adr N a b c d e
theorem amW(N:Nat)(a:Bs)(b c d m:Int)(h:Tot (ads N a b c d m) (λz=>∃g i j k l rest,z.1.dimR=.int .u8 g∧z.2=some [vT i,vI j,vI k,vI l]::rest∧zE a b c d m (g,i,j,k,l))):∃r,cB a b c d m r:=FnC.finO (css:=[[vT a,vI b,vI c,vI d]]) aoV (N:=N) (by kernel_rfl) h λ_ ⟨g,i,j,k,l,_,e,f,q⟩=>⟨(g,i,j,k,l),e,⟨_,f⟩,q⟩
def di:aG:=tb_ [] [aa9,pB] [] []
def yQ:IR:=Sq (Sq (.reg [Mv 51 0,Nk 52 51,Fa 53 1 52,Fo [0] [] (.ld 54 1 false false 53),Mv 55 0,Nk 56 55,Fa 57 0 56,Fo [0] [] (.ld 58 1 false false 57),Pp (.lens 59 58),Bi 60 .lss 54 59,Mv 61 60,Gt 61 (.mov 62 0),Gt 61 (.nck 63 62),Gt 61 (.fad 64 0 63),⟨some (61,true),.ld 65 1 false false 64,some ([0],[])⟩,Gt 61 (.mov 66 0),Gt 61 (.nck 67 66),Gt 61 (.fad 68 1 67),⟨some (61,true),.ld 69 1 false false 68,some ([0],[])⟩,Gt 61 (.idx 70 65 69),Gt 61 (.bin 71 .neq 70 (.c (.int .u8 10))),Pa 72 61 71] [[],[0],[0,1],[0,1,2],[],[4],[4,5],[4,5,6],rg 4 7,rg 0 8,rg 0 9,rg 0 10,rg 0 11,rg 0 12,rg 0 13,rg 0 10,rg 0 10++[15],rg 0 10++[15,16],rg 0 10++[15,16,17],rg 0 18,rg 0 19,rg 0 20]) (Cn 72 .skip (.exit 3))) (.block 4 (Rg [Mv 73 0,Nk 74 73,Fa 75 1 74,Lo 76 75,Bc 77 .add 76 1,Nk 78 73,Fa 79 1 78,Sv 1 79 77]))
def yR:IR:=Sq (Sq (.reg [Mv 95 0,Nk 96 95,Fa 97 1 96,Fo [0] [] (.ld 98 1 false false 97),Mv 99 0,Nk 100 99,Fa 101 0 100,Fo [0] [] (.ld 102 1 false false 101),Pp (.lens 103 102),Bi 104 .lss 98 103,Mv 105 104,Gt 105 (.mov 106 0),⟨some (105,true),.call 107 242 [106,kS [42,47]],some ([],[0])⟩,Gt 105 (.un 108 .not 107),Pa 109 105 108] [[],[0],[0,1],[0,1,2],[],[4],[4,5],[4,5,6],rg 4 7,rg 0 8,rg 0 9,rg 0 10,rg 0 11,rg 0 12,rg 0 13]) (Cn 109 .skip (.exit 5))) (.block 6 (Rg [Mv 110 0,Nk 111 110,Fa 112 1 111,Lo 113 112,Bc 114 .add 113 1,Nk 115 110,Fa 116 1 115,Sv 1 116 114]))
def wL:IR:=Sq (Sq (.reg [Mv 117 0,Nk 118 117,Fa 119 1 118,Fo [0] [] (.ld 120 1 false false 119),Mv 121 0,Nk 122 121,Fa 123 0 122,Fo [0] [] (.ld 124 1 false false 123),Pp (.lens 125 124),Bi 126 .geq 120 125] [[],[0],[0,1],[0,1,2],[],[4],[4,5],[4,5,6],rg 4 7,rg 0 8]) (Cn 126 (Rs [Mv 127 0,Mv 128 3,Ca 129 243 [127,kI 2,128]] .ret) .skip)) (Rg [Mv 130 0,Mv 131 0,Nk 132 131,Fa 133 1 132,Lo 134 133,Bc 135 .add 134 2,Nk 136 130,Fa 137 1 136,Sv 1 137 135])
def j5:IR:=Sq (Sq (.reg [Mv 4 0,Nk 5 4,Fa 6 1 5,Fo [0] [] (.ld 7 1 false false 6),Mv 8 0,Nk 9 8,Fa 10 0 9,Fo [0] [] (.ld 11 1 false false 10),Pp (.lens 12 11),Bi 13 .lss 7 12,Mv 14 13,Gt 14 (.mov 15 0),Gt 14 (.nck 16 15),Gt 14 (.fad 17 2 16),⟨some (14,true),.ld 18 1 false false 17,some ([0],[])⟩,Gt 14 (.bin 19 .eql 18 (kI 0)),Pa 20 14 19] [[],[0],[0,1],[0,1,2],[],[4],[4,5],[4,5,6],rg 4 7,rg 0 8,rg 0 9,rg 0 10,rg 0 11,rg 0 12,rg 0 13,rg 0 14,rg 0 15]) (Cn 20 .skip (.exit 0))) (.block 1 (Sq (.reg [Mv 21 0,Nk 22 21,Fa 23 0 22,Fo [0] [] (.ld 24 1 false false 23),Mv 25 0,Nk 26 25,Fa 27 1 26,Fo [0] [] (.ld 28 1 false false 27),Pp (.idx 29 24 28),Mv 2 29] [[],[0],[0,1],[0,1,2],[],[4],[4,5],[4,5,6],rg 0 7,rg 0 8]) (.block 2 (Rs [Mv 31 2,Pp (.bin 32 .geq 31 (.c (.int .u8 9))),Mv 33 32,Gt 33 (.mov 34 2),Gt 33 (.bin 35 .leq 34 (.c (.int .u8 13))),Pa 36 33 35,Mv 37 36,Gf 37 (.mov 38 2),Gf 37 (.bin 39 .eql 38 (.c (.int .u8 32))),Po 40 37 39,Mv 30 40] (Cn 30 (Rg [Mv 41 0,Nk 42 41,Fa 43 1 42,Lo 44 43,Bc 45 .add 44 1,Nk 46 41,Fa 47 1 46,Sv 1 47 45]) (Rs [Mv 49 0,Ca 50 242 [49,kS [47,47]],Mv 48 50] (Cn 48 (.block 3 (.loop [0,1000000] 1 yQ)) (Rs [Mv 81 0,Ca 82 242 [81,kS [47,42]],Mv 80 82] (Cn 80 (Rs [Mv 83 0,Nk 84 83,Fa 85 1 84,Lo 86 85,Mv 3 86] (Rs [Mv 87 0,Mv 88 0,Nk 89 88,Fa 90 1 89,Lo 91 90,Bc 92 .add 91 2,Nk 93 87,Fa 94 1 93,Sv 1 94 92] (Sq (.block 5 (.loop [0,3,1000001] 1 yR)) wL))) .ret)))))))))
def aba:IR:=.block 0 (.loop [0,1000002] 1 j5)
def bp:List RV:=[]
theorem amX:FnC Tryz.prog di [242,243,2000242,2000243] 1 227 Tryz.f227 aba bp:=fnC Tryz.func227
def ip(R:TR)(a:TS):TE:=(bo a [0,1000002] 1 (aQ 0 (fin bp)))
def bQ:cD->St:=λ(a,b,c,d)=>{env:=(.ptr 0 0::(U 137 [])),hp:=[some [vT a,vI b,vI c,vI d]]}
def akS(R:TR)(a b:TS):TE:=(bo b [0,1000000] 1 (aQ 3 (aQ 2 (aQ 1 (ip R a)))))
def gD:cD->St:=λ(a,b,c,d)=>{env:=(.ptr 0 0::(U 137 [])),hp:=[some [vT a,vI b,vI c,vI d]]}
def lV(N:Nat)(a:TS):TS->TS:=λb s=>run di N yQ (akS (run di N) a b) s
def eM(N:Nat)(c f:cD->Ro):cD->Ro:=λ(a,b,d,e)=>let g:=(↑(Aa a):Int);cond (decide (b<g)) (chk (ixl b a) (let h:=(↑(AW (Af a (Ad b) 0)):Int);cond (!(h==10)) (let i:=(Ab .i64 (b+1));f (a,i,d,e)) (c (a,b,d,e)))) (c (a,b,d,e))
theorem ai8(N:Nat)(a:TS):LB (lV N a) gD (eM N (λy=>a (bQ y))):=λ_ _=>by kernel_rfl
def akT(R:TR)(a b:TS):TE:=(bo b [0,3,1000001] 1 (aQ 5 (kseq (R wL) (aQ 2 (aQ 1 (ip R a))))))
abbrev iq:Type:=(Int×Bs×Int×Int×Int)
def gE:iq->St:=λ(a,b,c,d,e)=>{env:=(.ptr 0 0::.undef::.undef::vI a::(U 134 [])),hp:=[some [vT b,vI c,vI d,vI e]]}
def lW(N:Nat)(a:TS):TS->TS:=λb s=>run di N yR (akT (run di N) a b) s
def eN(N:Nat)(d:cD->Ro)(g:iq->Ro):iq->Ro:=λ(j,a,b,e,f)=>let p:=(↑(Aa a):Int);cond (decide (b<p)) (aA (cG a b e f [42,47]) (λc=>cond (!c.1) (let k:=(Ab .i64 (c.2.2.1+1));g (j,c.2.1,k,c.2.2.2.1,c.2.2.2.2)) (let l:=(↑(Aa c.2.1):Int);cond (decide (l<=c.2.2.1)) (aA (bH c.2.1 c.2.2.1 c.2.2.2.1 c.2.2.2.2 2 j) (λh=>some (.tup [],[some [vT h.2.1,vI h.2.2.1,vI h.2.2.2.1,vI h.2.2.2.2]]))) (let m:=(Ab .i64 (c.2.2.1+2));d (c.2.1,m,c.2.2.2.1,c.2.2.2.2))))) (let n:=(↑(Aa a):Int);cond (decide (n<=b)) (aA (bH a b e f 2 j) (λi=>some (.tup [],[some [vT i.2.1,vI i.2.2.1,vI i.2.2.2.1,vI i.2.2.2.2]]))) (let o:=(Ab .i64 (b+2));d (a,o,e,f)))
theorem ai9(N:Nat)(a:TS):LB (lW N a) gE (eN N (λy=>a (bQ y))):=λ_ _=>by kernel_rfl
def lX(N:Nat):TS->TS:=λa s=>run di N j5 (ip (run di N) a) s
def kX(N:Nat)(e n:cD->Ro)(o:iq->Ro):cD->Ro:=λ(a,b,c,d)=>let p:=(↑(Aa a):Int);let j:=λq r s t=>(some (.tup [],[some [vT q,vI r,vI s,vI t]]):Ro);cond (decide (b<p)) (cond (c==0) (chk (ixl b a) (let k:=(↑(AW (Af a (Ad b) 0)):Int);cond (decide (9<=k)) (cond (decide (k<=13)) (let u:=(Ab .i64 (b+1));e (a,u,c,d)) (cond (k==32) (let v:=(Ab .i64 (b+1));e (a,v,c,d)) (aA (cG a b c d [47,47]) (λh=>cond h.1 (n (h.2.1,h.2.2.1,h.2.2.2.1,h.2.2.2.2)) (aA (cG h.2.1 h.2.2.1 h.2.2.2.1 h.2.2.2.2 [47,42]) (λf=>cond f.1 (let w:=(Ab .i64 (f.2.2.1+2));o (f.2.2.1,f.2.1,w,f.2.2.2.1,f.2.2.2.2)) (j f.2.1 f.2.2.1 f.2.2.2.1 f.2.2.2.2))))))) (cond (k==32) (let l:=(Ab .i64 (b+1));e (a,l,c,d)) (aA (cG a b c d [47,47]) (λi=>cond i.1 (n (i.2.1,i.2.2.1,i.2.2.2.1,i.2.2.2.2)) (aA (cG i.2.1 i.2.2.1 i.2.2.2.1 i.2.2.2.2 [47,42]) (λg=>cond g.1 (let m:=(Ab .i64 (g.2.2.1+2));o (g.2.2.1,g.2.1,m,g.2.2.2.1,g.2.2.2.2)) (j g.2.1 g.2.2.1 g.2.2.2.1 g.2.2.2.2)))))))) (j a b c d)) (j a b c d)
def lY(N:Nat)(a:cD->Ro)(x:cD):Ro:=kX N a (λz=>aO N (eM N a) z) (λz=>aO N (eN N a) z) x
def aaa(N:Nat)(a:TS):List (Nat×(TS)):=(cT di N j5 (ip (run di N) a)++[])
theorem aja(N:Nat):∀(a:TS)(x:cD),lX N a (bQ x)=lY N (λy=>a (bQ y)) x:=by
 intro a x;have c:∀C:Nat->TS,c8 C di N j5 (ip (c8 C di N) a) (bQ x)=kX N (λy=>a (bQ y)) (λz=>C 1000000 (gD z)) (λz=>C 1000001 (gE z)) x:=by intro C;kernel_rfl
 have h:lX N a (bQ x)=kX N (λy=>a (bQ y)) (λz=>aZ N (lV N a) (gD z)) (λz=>aZ N (lW N a) (gE z)) x:=(eI (C:=gW (aaa N a)) (dI (bX (l:=(aaa N a)) (by kernel_rfl))) (ij (ew rfl)) _).trans ((c _).trans (by kernel_rfl));have d:(λz=>aZ N (lV N a) (gD z))=(λz=>aO N (eM N (λy=>a (bQ y))) z):=funext λz=>aU (gD) (lV N a) (eM N (λy=>a (bQ y))) (ai8 N a) N z
 have b:(λz=>aZ N (lW N a) (gE z))=(λz=>aO N (eN N (λy=>a (bQ y))) z):=funext λz=>aU (gE) (lW N a) (eN N (λy=>a (bQ y))) (ai9 N a) N z
 rw[h,d,b];rfl
def jl(N:Nat)(a:Bs)(b c d:Int)(e:cD->Ro):Ro:=e (a,b,c,d)
def abb(N:Nat)(a:Bs)(b c d:Int):Ro:=jl N a b c d (λz=>aO N (lY N) z)
theorem akU(N:Nat)(a:Bs)(c d g:Int)(h:Tot (abb N a c d g) (λz=>∃i j k l rest,z.1.dimR=.tup []∧z.2=some [vT i,vI j,vI k,vI l]::rest∧dk a c d g (i,j,k,l))):∃r,oh a c d g r:=FnC.finO (css:=[[vT a,vI c,vI d,vI g]]) amX (N:=N) ((bD _ (by kernel_rfl) rfl (λC=>jl N a c d g (λz=>C 1000002 (bQ z))) (λC=>by kernel_rfl)).trans (AB (b:=jl N a c d g (λz=>aZ N (lX N) (bQ z))) (by kernel_rfl) (congrArg (jl N a c d g) (funext λz=>aU (bQ) (lX N) (lY N) (aja N) N z)))) h λ_ ⟨i,j,k,l,_,e,f,q⟩=>⟨(i,j,k,l),e,⟨_,f⟩,q⟩
def sX:aG:=tb_ [] [aa9,pB,wg] [] [aei,agi,aDc]
def vR:IR:=Sq (Sq (.reg [Mv 39 0,Nk 40 39,Fa 41 1 40,Fo [0] [] (.ld 42 1 false false 41),Mv 43 0,Nk 44 43,Fa 45 0 44,Fo [0] [] (.ld 46 1 false false 45),Pp (.lens 47 46),Bi 48 .lss 42 47] [[],[0],[0,1],[0,1,2],[],[4],[4,5],[4,5,6],rg 4 7,rg 0 8]) (Cn 48 .skip (.exit 0))) (.block 1 (Sq (.reg [Mv 49 0,Nk 50 49,Fa 51 0 50,Fo [0] [] (.ld 52 1 false false 51),Mv 53 0,Nk 54 53,Fa 55 1 54,Fo [0] [] (.ld 56 1 false false 55),Pp (.idx 57 52 56),Ca 58 252 [57],Mv 6 58] [[],[0],[0,1],[0,1,2],[],[4],[4,5],[4,5,6],rg 0 7,rg 0 8,rg 0 9]) (Sq (Rs [Mv 59 6,Bc 60 .lss 59 0,Mv 61 60,Gf 61 (.mov 62 6),Gf 61 (.cvi 63 .u64 62),Gf 61 (.mov 64 4),Gf 61 (.bin 65 .geq 63 64),Po 66 61 65] (Cn 66 (.exit 0) .skip)) (Sq (Rs [Mv 67 5,Mv 68 6,Pp (.cvi 69 .u64 68),Pp (.bin 70 .sub (kU 18446744073709551615) 69),Mv 71 4,Bi 72 .quo 70 71,Bi 73 .gtr 67 72] (Cn 73 (Rs [Mv 74 0,Mv 75 3,Ca 76 243 [74,kI 3,75],Sv 4 2 76] .ret) .skip)) (Rs [Mv 77 5,Mv 78 4,Bi 79 .mul 77 78,Mv 80 6,Pp (.cvi 81 .u64 80),Bi 82 .add 79 81,Mv 5 82] (Rg [Mv 83 0,Nk 84 83,Fa 85 1 84,Lo 86 85,Bc 87 .add 86 1,Nk 88 83,Fa 89 1 88,Sv 1 89 87]))))))
def vV:IR:=Rs [Mv 90 0,Ca 91 245 [90,kI 0],Mv 7 91] (Sq (Rs [Mv 92 7,Ca 93 244 [92],Mv 94 93,Gf 94 (.mov 95 7),Gf 94 (.call 96 246 [95]),Po 97 94 96,Mv 98 97,Gf 98 (.mov 99 7),Gf 98 (.bin 100 .eql 99 (.c (.int .u8 46))),Po 101 98 100] (Cn 101 (Rs [Mv 102 0,Mv 103 3,Ca 104 243 [102,kI 2,103],Sv 4 2 104] .ret) .skip)) (Rs [Mv 105 5,Mv 106 3,Pp (.bld 107 [vI 0,vS,vU 0,vI 0] [(0,1,kI 2),(2,1,105),(3,1,106)]),Sv 4 2 107] .ret))
def aab:IR:=Rs [Pp (.new 2 [vI 0,vS,vU 0,vI 0])] (Rs [Mv 8 0,Nk 9 8,Fa 10 1 9,Lo 11 10,Mv 3 11] (Rs [Pp (.mov 4 (kU 10))] (Sq (Rs [Mv 12 0,Ca 13 242 [12,kS [48,120]],Mv 14 13,Gf 14 (.mov 15 0),Gf 14 (.call 16 242 [15,kS [48,88]]),Po 17 14 16,Mv 18 17,Gt 18 (.mov 19 0),Gt 18 (.call 20 245 [19,kI 2]),Gt 18 (.call 21 252 [20]),Gt 18 (.bin 22 .geq 21 (kI 0)),Pa 23 18 22] (Cn 23 (Rs [Pp (.mov 4 (kU 16))] (Rg [Mv 24 0,Mv 25 0,Nk 26 25,Fa 27 1 26,Lo 28 27,Bc 29 .add 28 2,Nk 30 24,Fa 31 1 30,Sv 1 31 29])) (Rs [Mv 32 0,Nk 33 32,Fa 34 0 33,Lo 35 34,Mv 36 3,Pp (.idx 37 35 36),Pp (.bin 38 .eql 37 (.c (.int .u8 48)))] (Cn 38 (Rg [Pp (.mov 4 (kU 8))]) .skip)))) (Rs [Pp (.mov 5 (kU 0))] (Sq (.block 0 (.loop [0,2,3,4,5,1000000] 2 vR)) vV)))))
def cL:List RV:=[.cell 2 4 true]
theorem akV:FnC Tryz.prog sX [242,243,245,2000242,2000243,2000245] 1 247 Tryz.f247 aab cL:=fnC Tryz.func247
def ajb(R:TR)(a:TS):TE:=(bo a [0,2,3,4,5,1000000] 2 (aQ 0 (kseq (R vV) (fin cL))))
abbrev c9:Type:=(Int×Int×Int×Bs×Int×Int×Int×Int×Bs×Int×Int)
def j6:c9->St:=λ(b,c,d,e,f,g,h,i,j,k,a)=>{env:=(.ptr 0 0::.undef::.ptr 1 0::vI b::vU c::vU d::(U 102 [])),hp:=[some [vT e,vI f,vI g,vI h],some [vI i,vT j,vU k,vI a]]}
def pY(N:Nat):TS->TS:=λa s=>run sX N vR (ajb (run sX N) a) s
def gF(N:Nat)(s:c9->Ro):c9->Ro:=λ(q,v,w,c,d,f,g,x,y,z,H)=>let x2:=(↑(Aa c):Int);let r:=λE D C B L Y O F=>(some (.agg [vI E,vT D,vU C,vI B],[some [vT L,vI Y,vI O,vI F],some [vI E,vT D,vU C,vI B]]):Ro);cond (decide (d<x2)) (chk (ixl d c) (let X:=(↑(AW (Af c (Ad d) 0)):Int);aA (mW X) (λ(A:Int)=>cond (decide (A<0)) (aA (cB c d f g 0) (λe=>aA (ej e.1) (λ(W:Bool)=>cond W (aA (bH e.2.1 e.2.2.1 e.2.2.2.1 e.2.2.2.2 2 q) (λt=>r t.1.kind t.1.text t.1.n t.1.pos t.2.1 t.2.2.1 t.2.2.2.1 t.2.2.2.2)) (aA (fG e.1) (λ(S:Bool)=>cond S (aA (bH e.2.1 e.2.2.1 e.2.2.2.1 e.2.2.2.2 2 q) (λu=>r u.1.kind u.1.text u.1.n u.1.pos u.2.1 u.2.2.1 u.2.2.2.1 u.2.2.2.2)) (cond (e.1==46) (aA (bH e.2.1 e.2.2.1 e.2.2.2.1 e.2.2.2.2 2 q) (λh=>r h.1.kind h.1.text h.1.n h.1.pos h.2.1 h.2.2.1 h.2.2.2.1 h.2.2.2.2)) (r 2 [] w q e.2.1 e.2.2.1 e.2.2.2.1 e.2.2.2.2))))))) (let x4:=decide (v<=(Ab .u64 A));cond x4 (aA (cB c d f g 0) (λa=>aA (ej a.1) (λ(G:Bool)=>cond G (aA (bH a.2.1 a.2.2.1 a.2.2.2.1 a.2.2.2.2 2 q) (λi=>r i.1.kind i.1.text i.1.n i.1.pos i.2.1 i.2.2.1 i.2.2.2.1 i.2.2.2.2)) (aA (fG a.1) (λ(Q:Bool)=>cond Q (aA (bH a.2.1 a.2.2.1 a.2.2.2.1 a.2.2.2.2 2 q) (λj=>r j.1.kind j.1.text j.1.n j.1.pos j.2.1 j.2.2.1 j.2.2.2.1 j.2.2.2.2)) (cond (a.1==46) (aA (bH a.2.1 a.2.2.1 a.2.2.2.1 a.2.2.2.2 2 q) (λk=>r k.1.kind k.1.text k.1.n k.1.pos k.2.1 k.2.2.1 k.2.2.2.1 k.2.2.2.2)) (r 2 [] w q a.2.1 a.2.2.1 a.2.2.2.1 a.2.2.2.2))))))) (let x5:=(Ab .u64 (18446744073709551615-(Ab .u64 A)));chk (!(v==0)) (let J:=(Ab .u64 (Bn x5 v));cond (decide (J<w)) (aA (bH c d f g 3 q) (λl=>r l.1.kind l.1.text l.1.n l.1.pos l.2.1 l.2.2.1 l.2.2.2.1 l.2.2.2.2)) (let Z:=(Ab .u64 (w*v));let M:=(Ab .u64 (Z+(Ab .u64 A)));let I:=(Ab .i64 (d+1));s (q,v,M,c,I,f,g,x,y,z,H)))))))) (aA (cB c d f g 0) (λb=>aA (ej b.1) (λ(P:Bool)=>cond P (aA (bH b.2.1 b.2.2.1 b.2.2.2.1 b.2.2.2.2 2 q) (λm=>r m.1.kind m.1.text m.1.n m.1.pos m.2.1 m.2.2.1 m.2.2.2.1 m.2.2.2.2)) (aA (fG b.1) (λ(R:Bool)=>cond R (aA (bH b.2.1 b.2.2.1 b.2.2.2.1 b.2.2.2.2 2 q) (λo=>r o.1.kind o.1.text o.1.n o.1.pos o.2.1 o.2.2.1 o.2.2.2.1 o.2.2.2.2)) (cond (b.1==46) (aA (bH b.2.1 b.2.2.1 b.2.2.2.1 b.2.2.2.2 2 q) (λp=>r p.1.kind p.1.text p.1.n p.1.pos p.2.1 p.2.2.1 p.2.2.2.1 p.2.2.2.2)) (r 2 [] w q b.2.1 b.2.2.1 b.2.2.2.1 b.2.2.2.2)))))))
theorem aiy(N:Nat):LB (pY N) j6 (gF N):=λ_ _=>by kernel_rfl
def iu(N:Nat)(g:Bs)(a h i:Int)(f:c9->Ro):Ro:=aA (cG g a h i [48,120]) (λe=>cond e.1 (aA (cB e.2.1 e.2.2.1 e.2.2.2.1 e.2.2.2.2 2) (λd=>aA (mW d.1) (λ(o:Int)=>cond (decide (0<=o)) (let p:=(Ab .i64 (d.2.2.1+2));f (a,16,0,d.2.1,p,d.2.2.2.1,d.2.2.2.2,0,[],0,0)) (chk (ixl a d.2.1) (let j:=(↑(AW (Af d.2.1 (Ad a) 0)):Int);cond (j==48) (f (a,8,0,d.2.1,d.2.2.1,d.2.2.2.1,d.2.2.2.2,0,[],0,0)) (f (a,10,0,d.2.1,d.2.2.1,d.2.2.2.1,d.2.2.2.2,0,[],0,0))))))) (aA (cG e.2.1 e.2.2.1 e.2.2.2.1 e.2.2.2.2 [48,88]) (λb=>cond b.1 (aA (cB b.2.1 b.2.2.1 b.2.2.2.1 b.2.2.2.2 2) (λc=>aA (mW c.1) (λ(k:Int)=>cond (decide (0<=k)) (let l:=(Ab .i64 (c.2.2.1+2));f (a,16,0,c.2.1,l,c.2.2.2.1,c.2.2.2.2,0,[],0,0)) (chk (ixl a c.2.1) (let m:=(↑(AW (Af c.2.1 (Ad a) 0)):Int);cond (m==48) (f (a,8,0,c.2.1,c.2.2.1,c.2.2.2.1,c.2.2.2.2,0,[],0,0)) (f (a,10,0,c.2.1,c.2.2.1,c.2.2.2.1,c.2.2.2.2,0,[],0,0))))))) (chk (ixl a b.2.1) (let n:=(↑(AW (Af b.2.1 (Ad a) 0)):Int);cond (n==48) (f (a,8,0,b.2.1,b.2.2.1,b.2.2.2.1,b.2.2.2.2,0,[],0,0)) (f (a,10,0,b.2.1,b.2.2.1,b.2.2.2.1,b.2.2.2.2,0,[],0,0)))))))
def aac(N:Nat)(a:Bs)(b c d:Int):Ro:=iu N a b c d (λz=>aO N (gF N) z)
theorem ajc(N:Nat)(a:Bs)(c d g:Int)(h:Tot (aac N a c d g) (λz=>∃i j k l m rest,z.1.dimR=.agg (enc .tok i)∧z.2=some [vT j,vI k,vI l,vI m]::rest∧oU a c d g (i,j,k,l,m))):∃r,jk a c d g r:=FnC.finO (css:=[[vT a,vI c,vI d,vI g]]) akV (N:=N) ((bD _ (by kernel_rfl) rfl (λC=>iu N a c d g (λz=>C 1000000 (j6 z))) (λC=>by kernel_rfl)).trans (AB (b:=iu N a c d g (λz=>aZ N (pY N) (j6 z))) (by kernel_rfl) (congrArg (iu N a c d g) (funext λz=>aU (j6) (pY N) (gF N) (aiy N) N z)))) h λ_ ⟨i,j,k,l,m,_,e,f,q⟩=>⟨(i,j,k,l,m),e,⟨_,f⟩,q⟩
def wh:aG:=tb_ [] [pB,wg] [] [aoL]
def yS:IR:=Sq (Sq (.reg [Mv 22 0,Nk 23 22,Fa 24 1 23,Fo [0] [] (.ld 25 1 false false 24),Mv 26 0,Nk 27 26,Fa 28 0 27,Fo [0] [] (.ld 29 1 false false 28),Pp (.lens 30 29),Bi 31 .lss 25 30] [[],[0],[0,1],[0,1,2],[],[4],[4,5],[4,5,6],rg 4 7,rg 0 8]) (Cn 31 .skip (.exit 0))) (Sq (.block 1 (Sq (.reg [Mv 39 0,Nk 40 39,Fa 41 0 40,Fo [0] [] (.ld 42 1 false false 41),Mv 43 0,Nk 44 43,Fa 45 1 44,Fo [0] [] (.ld 46 1 false false 45),Pp (.idx 47 42 46),Mv 6 47] [[],[0],[0,1],[0,1,2],[],[4],[4,5],[4,5,6],rg 0 7,rg 0 8]) (Sq (.block 2 (Rs [Mv 49 6,Mv 50 4,Bi 51 .eql 49 50,Mv 48 51] (Cn 48 (Rs [Mv 52 0,Nk 53 52,Fa 54 1 53,Lo 55 54,Bc 56 .add 55 1,Nk 57 52,Fa 58 1 57,Sv 1 58 56] (Sq (Rs [Mv 59 5,Ca 60 74 [59],Un 61 60] (Cn 61 (Rs [Mv 62 0,Mv 63 3,Ca 64 243 [62,kI 2,63],Sv 4 2 64] .ret) .skip)) (Rs [Mv 65 5,Mv 66 3,Pp (.bld 67 [vI 0,vS,vU 0,vI 0] [(0,1,kI 3),(1,1,65),(3,1,66)]),Sv 4 2 67] .ret))) (Rs [Mv 69 6,Pp (.bin 70 .eql 69 (.c (.int .u8 10))),Mv 68 70] (Cn 68 (Rs [Mv 71 0,Mv 72 3,Ca 73 243 [71,kI 2,72],Sv 4 2 73] .ret) (Rs [Mv 75 6,Pp (.bin 76 .neq 75 (.c (.int .u8 92))),Mv 74 76] (Cn 74 (Sq (.reg [Mv 77 5,Mv 78 0,Nk 79 78,Fa 80 0 79,Fo [0] [] (.ld 81 1 false false 80),Mv 82 0,Nk 83 82,Fa 84 1 83,Fo [0] [] (.ld 85 1 false false 84),Mv 86 0,Nk 87 86,Fa 88 1 87,Fo [0] [] (.ld 89 1 false false 88),Bc 90 .add 89 1,Pp (.subs 91 81 (some 85) (some 90)),Bi 92 .add 77 91,Mv 5 92] [[],[],[1],[1,2],[1,2,3],[],[5],[5,6],[5,6,7],[],[9],[9,10],[9,10,11],rg 9 12,rg 1 13,rg 0 14,rg 0 15]) (.exit 1)) .skip))))))) (Rs [Mv 93 0,Nk 94 93,Fa 95 1 94,Lo 96 95,Bc 97 .add 96 1,Nk 98 93,Fa 99 1 98,Sv 1 99 97] (Rs [Mv 100 0,Ca 101 245 [100,kI 0]] (.block 3 (Rs [Pp (.bin 106 .eql 101 (.c (.int .u8 110))),Mv 105 106] (Cn 105 (Rg [Mv 107 5,Pp (.bin 108 .add 107 (kS [10])),Mv 5 108]) (Sq (Rs [Pp (.bin 110 .eql 101 (.c (.int .u8 92))),Mv 109 110] (Cn 109 .skip (Rs [Pp (.bin 111 .eql 101 (.c (.int .u8 34))),Mv 109 111] (Cn 109 .skip (Rg [Pp (.bin 112 .eql 101 (.c (.int .u8 39))),Mv 109 112]))))) (Cn 109 (.reg [Mv 113 5,Mv 114 0,Nk 115 114,Fa 116 0 115,Fo [0] [] (.ld 117 1 false false 116),Mv 118 0,Nk 119 118,Fa 120 1 119,Fo [0] [] (.ld 121 1 false false 120),Mv 122 0,Nk 123 122,Fa 124 1 123,Fo [0] [] (.ld 125 1 false false 124),Bc 126 .add 125 1,Pp (.subs 127 117 (some 121) (some 126)),Bi 128 .add 113 127,Mv 5 128] [[],[],[1],[1,2],[1,2,3],[],[5],[5,6],[5,6,7],[],[9],[9,10],[9,10,11],rg 9 12,rg 1 13,rg 0 14,rg 0 15]) (Rs [Mv 102 0,Mv 103 3,Ca 104 243 [102,kI 2,103],Sv 4 2 104] .ret))))))))))) (Rg [Mv 32 0,Nk 33 32,Fa 34 1 33,Lo 35 34,Bc 36 .add 35 1,Nk 37 32,Fa 38 1 37,Sv 1 38 36]))
def yT:IR:=Rs [Mv 129 0,Mv 130 3,Ca 131 243 [129,kI 2,130],Sv 4 2 131] .ret
def adt:IR:=Rs [Pp (.new 2 [vI 0,vS,vU 0,vI 0])] (Rs [Mv 7 0,Nk 8 7,Fa 9 1 8,Lo 10 9,Mv 3 10] (Rs [Mv 11 0,Nk 12 11,Fa 13 0 12,Lo 14 13,Mv 15 3,Pp (.idx 16 14 15),Mv 4 16] (Rs [Ms 5 []] (Sq (Rs [Mv 17 0,Mv 18 3,Bc 19 .add 18 1,Nk 20 17,Fa 21 1 20,Sv 1 21 19] (.block 0 (.loop [0,2,3,4,5,1000000] 2 yS))) yT))))
theorem aoW:FnC Tryz.prog wh [243,245,2000243,2000245] 1 248 Tryz.f248 adt cL:=fnC Tryz.func248
def amY(R:TR)(a:TS):TE:=(bo a [0,2,3,4,5,1000000] 2 (aQ 0 (kseq (R yT) (fin cL))))
abbrev jm:Type:=(Int×Int×Bs×Bs×Int×Int×Int×Int×Bs×Int×Int)
def lZ:jm->St:=λ(b,c,d,e,f,g,h,i,j,k,a)=>{env:=(.ptr 0 0::.undef::.ptr 1 0::vI b::.int .u8 c::vT d::(U 126 [])),hp:=[some [vT e,vI f,vI g,vI h],some [vI i,vT j,vU k,vI a]]}
def sY(N:Nat):TS->TS:=λa s=>run wh N yS (amY (run wh N) a) s
def nF(N:Nat)(d:jm->Ro):jm->Ro:=λ(l,u,k,c,b,e,f,g,h,i,j)=>let W:=(↑(Aa c):Int);let v:=λE D C B M Y P I=>(some (.agg [vI E,vT D,vU C,vI B],[some [vT M,vI Y,vI P,vI I],some [vI E,vT D,vU C,vI B]]):Ro);cond (decide (b<W)) (chk (ixl b c) (let A:=(↑(AW (Af c (Ad b) 0)):Int);cond (A==u) (let G:=(Ab .i64 (b+1));aA (mV k) (λ(H:Bool)=>cond (!H) (aA (bH c G e f 2 l) (λq=>v q.1.kind q.1.text q.1.n q.1.pos q.2.1 q.2.2.1 q.2.2.2.1 q.2.2.2.2)) (v 3 k 0 l c G e f))) (cond (A==10) (aA (bH c b e f 2 l) (λr=>v r.1.kind r.1.text r.1.n r.1.pos r.2.1 r.2.2.1 r.2.2.2.1 r.2.2.2.2)) (cond (!(A==92)) (let z:=(Ab .i64 (b+1));chk (decide (0<=z)&&decide (z<=(↑(Aa c):Int))&&(decide (0<=b)&&decide (b<=z))) (let F:=(An (Ad b) (Ao (Ad z) c));chk (decide (Aa k+Aa F<=9223372036854775807)) (let O:=(Ab .i64 (b+1));d (l,u,(k++F),c,O,e,f,g,h,i,j)))) (let L:=(Ab .i64 (b+1));aA (cB c L e f 0) (λa=>cond (a.1==110) (chk (decide (Aa k+Aa ([10]:Bs)<=9223372036854775807)) (let X:=(k++([10]:Bs));let J:=(Ab .i64 (a.2.2.1+1));d (l,u,X,a.2.1,J,a.2.2.2.1,a.2.2.2.2,g,h,i,j))) (cond (a.1==92) (let m:=(Ab .i64 (a.2.2.1+1));chk (decide (0<=m)&&decide (m<=(↑(Aa a.2.1):Int))&&(decide (0<=a.2.2.1)&&decide (a.2.2.1<=m))) (let w:=(An (Ad a.2.2.1) (Ao (Ad m) a.2.1));chk (decide (Aa k+Aa w<=9223372036854775807)) (let R:=(Ab .i64 (a.2.2.1+1));d (l,u,(k++w),a.2.1,R,a.2.2.2.1,a.2.2.2.2,g,h,i,j)))) (cond (a.1==34) (let o:=(Ab .i64 (a.2.2.1+1));chk (decide (0<=o)&&decide (o<=(↑(Aa a.2.1):Int))&&(decide (0<=a.2.2.1)&&decide (a.2.2.1<=o))) (let x:=(An (Ad a.2.2.1) (Ao (Ad o) a.2.1));chk (decide (Aa k+Aa x<=9223372036854775807)) (let Q:=(Ab .i64 (a.2.2.1+1));d (l,u,(k++x),a.2.1,Q,a.2.2.2.1,a.2.2.2.2,g,h,i,j)))) (cond (a.1==39) (let p:=(Ab .i64 (a.2.2.1+1));chk (decide (0<=p)&&decide (p<=(↑(Aa a.2.1):Int))&&(decide (0<=a.2.2.1)&&decide (a.2.2.1<=p))) (let y:=(An (Ad a.2.2.1) (Ao (Ad p) a.2.1));chk (decide (Aa k+Aa y<=9223372036854775807)) (let S:=(Ab .i64 (a.2.2.1+1));d (l,u,(k++y),a.2.1,S,a.2.2.2.1,a.2.2.2.2,g,h,i,j)))) (aA (bH a.2.1 a.2.2.1 a.2.2.2.1 a.2.2.2.2 2 l) (λs=>v s.1.kind s.1.text s.1.n s.1.pos s.2.1 s.2.2.1 s.2.2.2.1 s.2.2.2.2))))))))))) (aA (bH c b e f 2 l) (λt=>v t.1.kind t.1.text t.1.n t.1.pos t.2.1 t.2.2.1 t.2.2.2.1 t.2.2.2.2))
theorem akW(N:Nat):LB (sY N) lZ (nF N):=λ_ _=>by kernel_rfl
def kw(N:Nat)(b:Bs)(a c d:Int)(e:jm->Ro):Ro:=chk (ixl a b) (let f:=(↑(AW (Af b (Ad a) 0)):Int);let g:=(Ab .i64 (a+1));e (a,f,[],b,g,c,d,0,[],0,0))
def adu(N:Nat)(a:Bs)(b c d:Int):Ro:=kw N a b c d (λz=>aO N (nF N) z)
theorem amZ(N:Nat)(a:Bs)(c d g:Int)(h:Tot (adu N a c d g) (λz=>∃i j k l m rest,z.1.dimR=.agg (enc .tok i)∧z.2=some [vT j,vI k,vI l,vI m]::rest∧zF a c d g (i,j,k,l,m))):∃r,f6 a c d g r:=FnC.finO (css:=[[vT a,vI c,vI d,vI g]]) aoW (N:=N) ((bD _ (by kernel_rfl) rfl (λC=>kw N a c d g (λz=>C 1000000 (lZ z))) (λC=>by kernel_rfl)).trans (AB (b:=kw N a c d g (λz=>aZ N (sY N) (lZ z))) (by kernel_rfl) (congrArg (kw N a c d g) (funext λz=>aU (lZ) (sY N) (nF N) (akW N) N z)))) h λ_ ⟨i,j,k,l,m,_,e,f,q⟩=>⟨(i,j,k,l,m),e,⟨_,f⟩,q⟩
def lJ:aG:=tb_ [] [pB,wg,amT,art] [] [aei,agi]
def aad:IR:=Sq (Rs [Mv 42 0,Ca 43 245 [42,kI 0],Ca 44 244 [43],Mv 45 44,Gf 45 (.mov 46 0),Gf 45 (.call 47 245 [46,kI 0]),Gf 45 (.call 48 246 [47]),Po 49 45 48,Mv 50 49,Gf 50 (.mov 51 0),Gf 50 (.call 52 245 [51,kI 0]),Gf 50 (.bin 53 .eql 52 (.c (.int .u8 46))),Gf 50 (.mov 54 53),Gt 54 (.mov 55 0),Gt 54 (.call 56 245 [55,kI 1]),Gt 54 (.call 57 244 [56]),Gf 50 (.pick 58 54 57 (kB false)),Po 59 50 58] (Cn 59 .skip (.exit 1))) (.block 2 (Rg [Mv 60 0,Nk 61 60,Fa 62 1 61,Lo 63 62,Bc 64 .add 63 1,Nk 65 60,Fa 66 1 65,Sv 1 66 64]))
def aae:IR:=Sq (.reg [Mv 67 0,Nk 68 67,Fa 69 0 68,Fo [0] [] (.ld 70 1 false false 69),Mv 71 3,Mv 72 0,Nk 73 72,Fa 74 1 73,Fo [0] [] (.ld 75 1 false false 74),Pp (.subs 76 70 (some 71) (some 75)),Mv 77 3,Pp (.bld 78 [vI 0,vS,vU 0,vI 0] [(0,1,kI 1),(1,1,76),(3,1,77)]),Fo [] [1] (.st none 4 2 78)] [[],[0],[0,1],[0,1,2],[],[],[5],[5,6],[5,6,7],rg 0 8,[],rg 0 10,rg 0 11]) .ret
def yU:IR:=Sq (Rs [Mv 93 5,Bc 94 .lss 93 12] (Cn 94 .skip (.exit 3))) (Sq (.block 4 (Rs [Mv 97 5,Pp (.idx 98 (kS [123,125,40,41,91,93,61,59,44,60,62,45]) 97),Mv 99 4,Bi 100 .eql 98 99] (Cn 100 (Rs [Mv 101 0,Nk 102 101,Fa 103 1 102,Lo 104 103,Bc 105 .add 104 1,Nk 106 101,Fa 107 1 106,Sv 1 107 105] (Sq (.reg [Mv 108 0,Nk 109 108,Fa 110 0 109,Fo [0] [] (.ld 111 1 false false 110),Mv 112 3,Mv 113 0,Nk 114 113,Fa 115 1 114,Fo [0] [] (.ld 116 1 false false 115),Pp (.subs 117 111 (some 112) (some 116)),Mv 118 3,Pp (.bld 119 [vI 0,vS,vU 0,vI 0] [(0,1,kI 4),(1,1,117),(3,1,118)]),Fo [] [1] (.st none 4 2 119)] [[],[0],[0,1],[0,1,2],[],[],[5],[5,6],[5,6,7],rg 0 8,[],rg 0 10,rg 0 11]) .ret)) .skip))) (Rg [Mv 95 5,Bc 96 .add 95 1,Mv 5 96]))
def yV:IR:=Rs [Mv 120 0,Mv 121 3,Ca 122 243 [120,kI 2,121],Sv 4 2 122] .ret
def yW:IR:=Sq (Rs [Mi 5 0] (.block 3 (.loop [0,2,3,4,5,1000001] 2 yU))) yV
def adv:IR:=Rs [Pp (.new 2 [vI 0,vS,vU 0,vI 0])] (Rs [Mv 6 0,Nk 7 6,Fa 8 1 7,Lo 9 8,Mv 3 9] (Sq (Rs [Mv 10 3,Mv 11 0,Nk 12 11,Fa 13 0 12,Lo 14 13,Pp (.lens 15 14),Bi 16 .eql 10 15] (Cn 16 (Rs [Mv 17 3,Pp (.bld 18 [vI 0,vS,vU 0,vI 0] [(0,1,kI 5),(3,1,17)]),Sv 4 2 18] .ret) .skip)) (Rs [Mv 19 0,Nk 20 19,Fa 21 0 20,Lo 22 21,Mv 23 3,Pp (.idx 24 22 23),Mv 4 24] (Sq (.block 0 (Sq (Rs [Mv 26 4,Ca 27 244 [26],Mv 25 27] (Cn 25 .skip (Rg [Mv 28 4,Pp (.bin 29 .eql 28 (.c (.int .u8 46))),Mv 30 29,Gt 30 (.mov 31 0),Gt 30 (.call 32 245 [31,kI 1]),Gt 30 (.call 33 244 [32]),Pa 34 30 33,Mv 25 34]))) (Cn 25 (Rs [Mv 35 0,Nk 36 35,Fa 37 1 36,Lo 38 37,Bc 39 .add 38 1,Nk 40 35,Fa 41 1 40,Sv 1 41 39] (Sq (.block 1 (.loop [0,2,3,1000000] 2 aad)) aae)) (Rs [Mv 80 4,Ca 81 246 [80],Mv 79 81] (Cn 79 (Rs [Mv 82 0,Ca 83 247 [82],Sv 4 2 83] .ret) (Rs [Mv 85 4,Pp (.bin 86 .eql 85 (.c (.int .u8 34))),Mv 87 86,Gf 87 (.mov 88 4),Gf 87 (.bin 89 .eql 88 (.c (.int .u8 39))),Po 90 87 89,Mv 84 90] (Cn 84 (Rs [Mv 91 0,Ca 92 248 [91],Sv 4 2 92] .ret) .skip))))))) yW))))
theorem aoX:FnC Tryz.prog lJ [243,245,247,248,2000243,2000245,2000247,2000248] 1 228 Tryz.f228 adv cL:=fnC Tryz.func228
def am0(R:TR)(a:TS):TE:=(bo a [0,2,3,1000000] 2 (aQ 1 (kseq (R aae) (aQ 0 (kseq (R yW) (fin cL))))))
abbrev jn:Type:=(Int×Bs×Int×Int×Int×Int×Bs×Int×Int)
def l7:jn->St:=λ(a,b,c,d,e,f,g,h,i)=>{env:=(.ptr 0 0::.undef::.ptr 1 0::vI a::(U 119 [])),hp:=[some [vT b,vI c,vI d,vI e],some [vI f,vT g,vU h,vI i]]}
def sZ(N:Nat):TS->TS:=λa s=>run lJ N aad (am0 (run lJ N) a) s
def jo(N:Nat)(a:jn->Ro):jn->Ro:=λ(d,k,l,m,n,e,f,g,h)=>let o:=λp q r s t=>(some (.agg [vI 1,vT p,vU 0,vI d],[some [vT q,vI r,vI s,vI t],some [vI 1,vT p,vU 0,vI d]]):Ro);aA (cB k l m n 0) (λi=>aA (ej i.1) (λ(u:Bool)=>cond u (let v:=(Ab .i64 (i.2.2.1+1));a (d,i.2.1,v,i.2.2.2.1,i.2.2.2.2,e,f,g,h)) (aA (cB i.2.1 i.2.2.1 i.2.2.2.1 i.2.2.2.2 0) (λj=>aA (fG j.1) (λ(w:Bool)=>cond w (let x:=(Ab .i64 (j.2.2.1+1));a (d,j.2.1,x,j.2.2.2.1,j.2.2.2.2,e,f,g,h)) (aA (cB j.2.1 j.2.2.1 j.2.2.2.1 j.2.2.2.2 0) (λb=>cond (b.1==46) (aA (cB b.2.1 b.2.2.1 b.2.2.2.1 b.2.2.2.2 1) (λc=>aA (ej c.1) (λ(y:Bool)=>cond y (let z:=(Ab .i64 (c.2.2.1+1));a (d,c.2.1,z,c.2.2.2.1,c.2.2.2.2,e,f,g,h)) (chk (decide (0<=c.2.2.1)&&decide (c.2.2.1<=(↑(Aa c.2.1):Int))&&(decide (0<=d)&&decide (d<=c.2.2.1))) (let A:=(An (Ad d) (Ao (Ad c.2.2.1) c.2.1));o A c.2.1 c.2.2.1 c.2.2.2.1 c.2.2.2.2))))) (chk (decide (0<=b.2.2.1)&&decide (b.2.2.1<=(↑(Aa b.2.1):Int))&&(decide (0<=d)&&decide (d<=b.2.2.1))) (let B:=(An (Ad d) (Ao (Ad b.2.2.1) b.2.1));o B b.2.1 b.2.2.1 b.2.2.2.1 b.2.2.2.2)))))))))
theorem akX(N:Nat):LB (sZ N) l7 (jo N):=λ_ _=>by kernel_rfl
def am1(R:TR)(a:TS):TE:=(bo a [0,2,3,4,5,1000001] 2 (aQ 3 (kseq (R yV) (fin cL))))
def l9:c9->St:=λ(b,c,d,e,f,g,h,i,j,k,a)=>{env:=(.ptr 0 0::.undef::.ptr 1 0::vI b::.int .u8 c::vI d::(U 117 [])),hp:=[some [vT e,vI f,vI g,vI h],some [vI i,vT j,vU k,vI a]]}
def s0(N:Nat):TS->TS:=λa s=>run lJ N yU (am1 (run lJ N) a) s
def jp(N:Nat)(g:c9->Ro):c9->Ro:=λ(h,r,m,a,c,d,e,i,j,k,l)=>let s:=λt u v w x y z A=>(some (.agg [vI t,vT u,vU v,vI w],[some [vT x,vI y,vI z,vI A],some [vI t,vT u,vU v,vI w]]):Ro);cond (decide (m<12)) (chk (ixl m [123,125,40,41,91,93,61,59,44,60,62,45]) (let o:=(↑(AW (Af [123,125,40,41,91,93,61,59,44,60,62,45] (Ad m) 0)):Int);cond (o==r) (let f:=(Ab .i64 (c+1));chk (decide (0<=f)&&decide (f<=(↑(Aa a):Int))&&(decide (0<=h)&&decide (h<=f))) (let p:=(An (Ad h) (Ao (Ad f) a));s 4 p 0 h a f d e)) (let q:=(Ab .i64 (m+1));g (h,r,q,a,c,d,e,i,j,k,l)))) (aA (bH a c d e 2 h) (λb=>s b.1.kind b.1.text b.1.n b.1.pos b.2.1 b.2.2.1 b.2.2.2.1 b.2.2.2.2))
theorem akY(N:Nat):LB (s0 N) l9 (jp N):=λ_ _=>by kernel_rfl
def kz(N:Nat)(b:Bs)(a c d:Int)(r:jn->Ro)(s:c9->Ro):Ro:=let x:=(↑(Aa b):Int);let m:=λt u v w y z C A=>(some (.agg [vI t,vT u,vU v,vI w],[some [vT y,vI z,vI C,vI A],some [vI t,vT u,vU v,vI w]]):Ro);cond (a==x) (m 5 [] 0 a b a c d) (chk (ixl a b) (let l:=(↑(AW (Af b (Ad a) 0)):Int);aA (ej l) (λ(E:Bool)=>cond E (let B:=(Ab .i64 (a+1));r (a,b,B,c,d,0,[],0,0)) (cond (l==46) (aA (cB b a c d 1) (λe=>aA (ej e.1) (λ(o:Bool)=>cond o (let D:=(Ab .i64 (e.2.2.1+1));r (a,e.2.1,D,e.2.2.2.1,e.2.2.2.2,0,[],0,0)) (aA (fG l) (λ(p:Bool)=>cond p (aA (jk e.2.1 e.2.2.1 e.2.2.2.1 e.2.2.2.2) (λf=>m f.1.kind f.1.text f.1.n f.1.pos f.2.1 f.2.2.1 f.2.2.2.1 f.2.2.2.2)) (cond (l==34) (aA (f6 e.2.1 e.2.2.1 e.2.2.2.1 e.2.2.2.2) (λg=>m g.1.kind g.1.text g.1.n g.1.pos g.2.1 g.2.2.1 g.2.2.2.1 g.2.2.2.2)) (cond (l==39) (aA (f6 e.2.1 e.2.2.1 e.2.2.2.1 e.2.2.2.2) (λh=>m h.1.kind h.1.text h.1.n h.1.pos h.2.1 h.2.2.1 h.2.2.2.1 h.2.2.2.2)) (s (a,l,0,e.2.1,e.2.2.1,e.2.2.2.1,e.2.2.2.2,0,[],0,0))))))))) (aA (fG l) (λ(q:Bool)=>cond q (aA (jk b a c d) (λi=>m i.1.kind i.1.text i.1.n i.1.pos i.2.1 i.2.2.1 i.2.2.2.1 i.2.2.2.2)) (cond (l==34) (aA (f6 b a c d) (λj=>m j.1.kind j.1.text j.1.n j.1.pos j.2.1 j.2.2.1 j.2.2.2.1 j.2.2.2.2)) (cond (l==39) (aA (f6 b a c d) (λk=>m k.1.kind k.1.text k.1.n k.1.pos k.2.1 k.2.2.1 k.2.2.2.1 k.2.2.2.2)) (s (a,l,0,b,a,c,d,0,[],0,0))))))))))
def adw(N:Nat)(a:Bs)(b c d:Int):Ro:=kz N a b c d (λz=>aO N (jo N) z) (λz=>aO N (jp N) z)
theorem am2(N:Nat)(a:Bs)(c d g:Int)(h:Tot (adw N a c d g) (λz=>∃i j k l m rest,z.1.dimR=.agg (enc .tok i)∧z.2=some [vT j,vI k,vI l,vI m]::rest∧zG a c d g (i,j,k,l,m))):∃r,pz a c d g r:=FnC.finO (css:=[[vT a,vI c,vI d,vI g]]) aoX (N:=N) ((bD _ (by kernel_rfl) rfl (λC=>kz N a c d g (λz=>C 1000000 (l7 z)) (λz=>C 1000001 (l9 z))) (λC=>by kernel_rfl)).trans (AB (b:=kz N a c d g (λz=>aZ N (sZ N) (l7 z)) (λz=>aZ N (s0 N) (l9 z))) (by kernel_rfl) (congr (congrArg (kz N a c d g) (funext λz=>aU (l7) (sZ N) (jo N) (akX N) N z)) (funext λz=>aU (l9) (s0 N) (jp N) (akY N) N z)))) h λ_ ⟨i,j,k,l,m,_,e,f,q⟩=>⟨(i,j,k,l,m),e,⟨_,f⟩,q⟩
end Go.Proofs.YtndccphabnjkhaaGreat
end
