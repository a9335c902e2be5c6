import Derived.Test.YtkinflmjagfapaaDoorChecked
import Derived.KernelRfl
import Derived.WalkKit
import Derived.WalkSpells
import Derived.Laws.Externs
import Derived.Lib.Bytealg
import Derived.Defers
import Derived.Lib.SplitLaws
import Derived.Lib.IndexBytes
import Derived.Lib.IndexLaws
import Derived.Test.YtkinflmjagfapaaDoorZ02
open Array renaming getElem?_eq_some_iff→AQ,getD→Bg
open Bool renaming and_eq_true→Ac,or_eq_true→A7,not_eq_true'→BK,false_or→B8,or_false→Cl,false_eq_true→CD,or_eq_false_iff→CP
open Eq renaming trans→A8
open Go.Instr renaming sureAddr→BZ,storeAt→DW
open Go.IntKind renaming wrap→Ae
open Go.Lib renaming indexByte→Df
open Go.Oper renaming wp→C7,upon_value→Ds
open Go.Region renaming binds→BU,wanted→Cz,ready→C2
open Go.World renaming cell?_setCells_out→Bp,cell?→Bv,frozen?→BD,cell?_setCells_in→BQ
open Int renaming toNat→Ah,toNat_natCast→At,tdiv→Ck
open List renaming length→Aa,getElem?_eq_getElem→Ab,getElem?_eq_some_iff→Ad,length_cons→Af,length_append→Aj,length_nil→Ak,getD_eq_getElem?_getD→Al,mem_of_getElem?→Am,getD→An,all_eq_true→Ap,mem_append→Az,getElem?_map→AA,mem_cons→AB,append_assoc→AC,mem_map→AG,cons_append→AI,drop_eq_getElem_cons→AK,mem_cons_of_mem→AL,mem_append_left→AN,eq_nil_of_length_eq_zero→AT,range→AU,nil_append→AW,mem_flatMap→AX,mem_cons_self→AY,mem_range→AZ,mem_iff_getElem→A0,getElem?_take→A3,not_mem_nil→A4,set→Bb,drop→Bd,getElem_mem→Bf,range'→Bm,mem_of_mem_take→Bn,take→Br,drop_length→By,flatMap_cons→BC,getElem?_of_mem→BO,contains_iff_mem→B1,all_cons→Cm,any_eq_true→Cu,range'_succ→Cv,filterMap_append→CM,pairwise_append→CO,mem_map_of_mem→CT,filterMap_cons_some→CY,contains_cons→C4,pairwise_cons→C5,sizeOf_lt_of_mem→Dk,range_eq_range'→Dq,eq_nil_iff_forall_not_mem→Dt,range'_append→DN,contains_nil→D1
open List.Sublist renaming append_left→D8
open Nat renaming le_refl→Ar,beq→AD,lt_of_lt_of_le→AE,lt_or_ge→AH,le_trans→AR,eq_of_beq_eq_true→AS,zero_add→Be,one_mul→B4,add_zero→B5,blt→B9,blt_eq→Cp,ble→Cs,lt_trichotomy→CG,le_add_right→Dg,beq_refl→Do,eq_zero_or_pos→DK
open Option renaming map_eq_some_iff→Aq,map_some→BE
open Option.some renaming injEq→Ai,inj→Ax
open Prod.mk renaming injEq→Ao
open SizeOf renaming sizeOf→B7
open UInt8 renaming ofNat→AF,toNat→AJ,toNat_inj→BR,ofNat_toNat→CI,toNat_lt→DG
set_option linter.all false
set_option maxRecDepth 100000
noncomputable section
namespace Go.Proofs.YtkinflmjagfapaaDoor
open Go.AM
def akz(E n o:Nat):Bool:=(E==122&&n==2&&o==0)
theorem al5{E n o:Nat}(h:akz E n o=true):ah9 E n o=true:=by simp only[akz,A7,Ac,beq_iff_eq] at h;obtain⟨⟨rfl,rfl⟩,rfl⟩:=h;kernel_rfl
theorem getD_some{hp:List ai}{id:Nat}{cs:List V}(h:hp.getD id none=some cs):hp[id]? =some (some cs):=by
 rw[Al] at h;cases a:hp[id]? with
 |none=>rw[a] at h;simp at h
 |some x=>rw[a] at h;simpa using h
theorem wG{cs:List V}{o:Nat}{v:V}(h:cs.getD o .undef=v)(b:v≠.undef):cs[o]? =some v:=by
 rw[Al] at h;cases a:cs[o]? with
 |none=>rw[a] at h;exact absurd h.symm b
 |some x=>rw[a] at h;simpa using h
def gWS(id o:Nat)(s:List UInt8)(hp:List ai):Option (Bool×V×List ai):=
 match hp.getD id none with
 |some cs=>match cs.getD o .undef,cs.getD (o+1) .undef with
  | .bn E n,.sl .u8 .own l=>cond (akz E n o) (some (decide (l.length+s.length<=140737488355328),.tup [.int .i64 (s.length:Int),.nilif],hp.set id (some (cs.set (o+1) (.sl .u8 .own (l++s)))))) none
  |_,_=>none
 |none=>none
def gST(id o:Nat)(hp:List ai):Option (Bool×V×List ai):=
 match hp.getD id none with
 |some cs=>match cs.getD (o+1) .undef with
  | .sl .u8 .own l=>some (true,.str l,hp.set id (some (cs.set (o+1) (.sl .u8 (.may false) l))))
  |_=>none
 |none=>none
def gWB(id o:Nat)(c:Int)(hp:List ai):Option (Bool×V×List ai):=
 match hp.getD id none with
 |some cs=>match cs.getD o .undef,cs.getD (o+1) .undef with
  | .bn E n,.sl .u8 .own l=>cond (akz E n o) (some (decide (l.length+1<=140737488355328),.nilif,hp.set id (some (cs.set (o+1) (.sl .u8 .own (l++[AF c.toNat])))))) none
  |_,_=>none
 |none=>none
theorem avp{id o:Nat}{c:Int}{hp hp':List ai}{v:V}(h:gWB id o c hp=some (true,v,hp')):eO Tryd.prog 88 [.ptr id o,.int .u8 c] hp v hp':=by
 unfold gWB at h;split at h
 ·rename_i cs d;split at h
  ·rename_i E n l f e;cases a:akz E n o with
   |false=>rw[a] at h;simp at h
   |true=>rw[a] at h;simp only[cond_true,Ai,Ao,decide_eq_true_eq] at h;obtain⟨b,rfl,rfl⟩:=h;exact avN (getD_some d) (wG f (by simp)) (al5 a) (wG e (by simp)) b
  ·simp at h
 ·simp at h
theorem avq{id o:Nat}{s:List UInt8}{hp hp':List ai}{v:V}(h:gWS id o s hp=some (true,v,hp')):eO Tryd.prog 90 [.ptr id o,.str s] hp v hp':=by
 unfold gWS at h;split at h
 ·rename_i cs d;split at h
  ·rename_i E n l f e;cases a:akz E n o with
   |false=>rw[a] at h;simp at h
   |true=>rw[a] at h;simp only[cond_true,Ai,Ao,decide_eq_true_eq] at h;obtain⟨b,rfl,rfl⟩:=h;exact avL (getD_some d) (wG f (by simp)) (al5 a) (wG e (by simp)) b
  ·simp at h
 ·simp at h
theorem avr{id o:Nat}{hp hp':List ai}{v:V}(h:gST id o hp=some (true,v,hp')):eO Tryd.prog 91 [.ptr id o] hp v hp':=by
 unfold gST at h;split at h
 ·rename_i cs a;split at h;·rename_i l b;simp only[Ai,Ao,true_and] at h;obtain⟨rfl,rfl⟩:=h;exact avO (getD_some a) (wG b (by simp))
  ·simp at h
 ·simp at h
def ajd(Γ:aq):aq:=λf vs hp=>
 if f=90 then
  match vs with
  | [.ptr id o,.str s]=>gWS id o s hp
  |_=>none
 else if f=91 then
  match vs with
  | [.ptr id o]=>gST id o hp
  |_=>none
 else if f=88 then
  match vs with
  | [.ptr id o,.int .u8 c]=>gWB id o c hp
  |_=>none
 else Γ f vs hp
theorem atD{Γ:aq}(b:ca Tryd.prog Γ):ca Tryd.prog (ajd Γ):=by
 intro f vs hp v hp' h;unfold ajd at h;split at h
 ·rename_i a;subst a;split at h;·exact avq h
  ·simp at h
 ·split at h
  ·rename_i a;subst a;split at h;·exact avr h
   ·simp at h
  ·split at h
   ·rename_i a;subst a;split at h;·exact avp h
    ·simp at h
   ·exact b _ _ _ _ _ h
theorem arf{Γ:aq}(b:cI Γ []):cI (ajd Γ) [90,91,88]:=by
 refine⟨?_,?_⟩;·intro f vs hp a;simp only[C4,D1,Cl,CP,beq_eq_false_iff_ne,ne_eq,decide_eq_true_eq,Bool.not_eq_true,AB,A4,not_or,not_false_eq_true,or_false] at a;simp only[ajd,a,if_false];exact b.pure f vs hp (by simp)
 ·intro f vs hp c v hp' a h;simp only[C4,D1,Cl,A7,beq_iff_eq] at a;omega
abbrev la:FuncId:=110
abbrev xj:FuncId:=54
abbrev pe:FuncId:=89
def vd:Nat->List V->Option (Bool×V):=λf vs=>match f,vs with
 |110,[.str a,.int .u8 b]=>some (true,.int .i64 (kR a b))
 |_,_=>none
def lv:aq:=(su vd)
theorem zE:cI lv []:=(qF _ _)
theorem aa0(a:∀(b:Bs)(d:Int),aF Tryd.prog la [.str b,.int .u8 d] (.int .i64 (kR b d))):ca Tryd.prog lv:=by
 intro f vs hp v hp' g;obtain⟨h,e⟩:=afu g;subst e;unfold vd at h;split at h;·simp only[Ai,Ao] at h;obtain⟨i,rfl⟩:=h;exact((a _ _).dim rfl).frame rfl rfl _
 ·simp at h
def ui:IR:=Rs [Mi 4 0] (Rs [Mv 5 0,Mv 6 1,Ca 7 110 [5,6],Mv 4 7] .ret)
def uj:List RV:=[.t 4]
theorem abK:(bd Tryd.prog [] 0 ui (Tryd.f89.body.getD .skip)&&jQ Tryd.prog uj Tryd.f89.results.toList)=true:=by kernel_rfl
theorem aa1:Tryd.f89.body=some (Tryd.f89.body.getD .skip):=by kernel_rfl
def adm(N:Nat)(b:Bs)(a:Int):Ro:=
 some (.int .i64 (kR b a),[])
def uk(N:Nat)(b:Bs)(a:Int):Ro:=adm N b a
theorem abL(N:Nat)(b:Bs)(a:Int):callF lv N 8 uj ui [.str b,.int .u8 a] []=uk N b a:=by kernel_rfl
theorem adn(a:ca Tryd.prog lv)(N:Nat)(e:Bs)(d:Int){v:V}{hp:List ai}(h:uk N e d=some (v,hp)):aF Tryd.prog pe [.str e,.int .u8 d] v:=by have b:=abK;simp only[Ac] at b;exact⟨hp,abD a zE Tryd.func89 aa1 b.1 b.2 (by decide) ((abL N e d).trans h)⟩
def aeg:Nat->List V->Option (Bool×V):=λf vs=>match f,vs with
 |89,[.str a,.int .u8 b]=>some (true,.int .i64 (kR a b))
 |_,_=>none
def ke:aq:=(ajd (su aeg))
theorem ag8:cI ke [90,91,88]:=((arf (qF _ _)).mono (by decide) (by decide))
theorem aia(a:∀(b:Bs)(d:Int),aF Tryd.prog pe [.str b,.int .u8 d] (.int .i64 (kR b d))):ca Tryd.prog ke:=by
 refine atD ?_;intro f vs hp v hp' g;obtain⟨h,e⟩:=afu g;subst e;unfold aeg at h;split at h;·simp only[Ai,Ao] at h;obtain⟨i,rfl⟩:=h;exact((a _ _).dim rfl).frame rfl rfl _
 ·simp at h
def xE:IR:=Rs [Bi 11 .lss 10 9] (Sq (Cn 11 .skip (.exit 0)) (Sq (.block 1 (Rs [Mv 12 10,Mv 4 12] (Rs [Mv 13 0,Mv 14 4,Pp (.idx 15 13 14),Mv 5 15] (Rs [Mv 16 5,Ca 17 89 [kS [34,92,8,12,10,13,9],16],Mv 6 17] (Rs [Mv 18 6,Bc 19 .geq 18 0] (Cn 19 (Rs [Ca 20 88 [3,.c (.int .u8 92)]] (Rg [Mv 21 6,Pp (.idx 22 (kS [34,92,98,102,110,114,116]) 21),Ca 23 88 [3,22]])) (Rs [Mv 24 5,Pp (.bin 25 .lss 24 (.c (.int .u8 32)))] (Cn 25 (Rs [Ca 26 90 [3,kS [92,117,48,48]]] (Rs [Mv 27 5,Pp (.bin 28 .shr 27 (kU 4)),Pp (.idx 29 (kS [48,49,50,51,52,53,54,55,56,57,97,98,99,100,101,102]) 28),Ca 30 88 [3,29]] (Rg [Mv 31 5,Pp (.bin 32 .and 31 (.c (.int .u8 15))),Pp (.idx 33 (kS [48,49,50,51,52,53,54,55,56,57,97,98,99,100,101,102]) 32),Ca 34 88 [3,33]]))) (Rg [Mv 35 5,Ca 36 88 [3,35]]))))))))) (Rg [Bc 37 .add 10 1,Mv 10 37])))
def xF:IR:=Rs [Ca 38 88 [3,.c (.int .u8 34)]] (Rs [Ca 39 91 [3],Mv 2 39] .ret)
def vC:IR:=Rs [Ms 2 []] (Rs [Pp (.newb 3 [.bn 122 2,.sl .u8 .own ([]:Bs)])] (Rs [Ca 7 88 [3,.c (.int .u8 34)]] (Sq (Rs [Mv 8 0,Pp (.lens 9 8),Mi 10 0] (.block 0 (.loop [0,3,9,10,1000000] 1 xE))) xF)))
def qK:List RV:=[.t 2]
theorem aje:(bd Tryd.prog [90,91,88] 0 vC (Tryd.f54.body.getD .skip)&&jQ Tryd.prog qK Tryd.f54.results.toList)=true:=by kernel_rfl
theorem aib:Tryd.f54.body=some (Tryd.f54.body.getD .skip):=by kernel_rfl
def ajf(R:IR->(Ex->St->Ro)->St->Ro)(a:St->Ro):Ex->St->Ro:=(b7 a [0,3,9,10,1000000] 1 (aJ 0 (kseq (R xF) (fin qK))))
abbrev pB:Type:=(Bs×Int×Int×Bs)
def nZ(x:pB):St:={env:=(.str x.1::.undef::.undef::.ptr 0 0::(U 5 (.int .i64 x.2.1::.int .i64 x.2.2.1::(U 29 [])))),hp:=[some [.bn 122 2,.sl .u8 .own x.2.2.2]]}
def um(N:Nat):(St->Ro)->St->Ro:=λa s=>run ke N xE (ajf (run ke N) a) s
def fj(N:Nat)(b:pB->Ro)(x:pB):Ro:=
 let f:Bs:=x.1;let g:Int:=x.2.1;let d:Int:=x.2.2.1;let a:Bs:=x.2.2.2
 cond (decide (d<g)) (
  chk (ixl d f) (
   let e:=(↑(AJ (An f (Ah d) 0)):Int)
   let i:=(kR ([34,92,8,12,10,13,9]:Bs) e)
   cond (decide (0<=i)) (
    chk (decide (Aa a+1<=140737488355328)) (
     chk (ixl i ([34,92,98,102,110,114,116]:Bs)) (
      let q:=(↑(AJ (An ([34,92,98,102,110,114,116]:Bs) (Ah i) 0)):Int)
      chk (decide (Aa (a++[AF (Ah 92)])+1<=140737488355328)) (
       let m:=(Ae .i64 (d+1))
       b (f,g,m,((a++[AF (Ah 92)])++[AF (Ah q)])))))) (
    cond (decide (e<32)) (
     chk (decide (Aa a+Aa ([92,117,48,48]:Bs)<=140737488355328)) (
      let t:=(↑(Aa ([92,117,48,48]:Bs)):Int)
      chk (ixl (tQ .u8 e 4) ([48,49,50,51,52,53,54,55,56,57,97,98,99,100,101,102]:Bs)) (
       let k:=(↑(AJ (An ([48,49,50,51,52,53,54,55,56,57,97,98,99,100,101,102]:Bs) (Ah (tQ .u8 e 4)) 0)):Int)
       chk (decide (Aa (a++([92,117,48,48]:Bs))+1<=140737488355328)) (
        chk (ixl (de .and .u8 e 15) ([48,49,50,51,52,53,54,55,56,57,97,98,99,100,101,102]:Bs)) (
         let p:=(↑(AJ (An ([48,49,50,51,52,53,54,55,56,57,97,98,99,100,101,102]:Bs) (Ah (de .and .u8 e 15)) 0)):Int)
         chk (decide (Aa ((a++([92,117,48,48]:Bs))++[AF (Ah k)])+1<=140737488355328)) (
          let o:=(Ae .i64 (d+1))
          b (f,g,o,(((a++([92,117,48,48]:Bs))++[AF (Ah k)])++[AF (Ah p)])))))))) (
     chk (decide (Aa a+1<=140737488355328)) (
      let j:=(Ae .i64 (d+1))
      b (f,g,j,(a++[AF (Ah e)]))))))) (
  chk (decide (Aa a+1<=140737488355328)) (
   let h:=(a++[AF (Ah 34)])
   some (.str h,[some [.bn 122 2,.sl .u8 (.may false) (a++[AF (Ah 34)])]])))
theorem aic(N:Nat):LB (um N) nZ (fj N):=λ_ _=>by kernel_rfl
def nj(N:Nat)(a:Bs)(d:pB->Ro):Ro:=
 chk (decide (Aa ([]:Bs)+1<=140737488355328)) (
  let b:=(↑(Aa a):Int)
  d (a,b,0,(([]:Bs)++[AF (Ah 34)])))
def qL(N:Nat)(a:Bs):Ro:=nj N a (λz=>aK N (fj N) z)
def amB(N:Nat):List (Nat×(St->Ro)):=dv ke N vC (fin qK)++[]
theorem ajg(N:Nat)(a:Bs):callF ke N 40 qK vC [.str a] []=qL N a:=
 ((cz (amB N) (by kernel_rfl) rfl (λC=>nj N a (λz=>C 1000000 (nZ z))) (λC=>by kernel_rfl)).trans (A8 (b:=nj N a (λz=>bi N (um N) (nZ z))) (by kernel_rfl) (congrArg (nj N a) (funext λz=>bm (nZ) (um N) (fj N) (aic N) N z))))
theorem akA(b:ca Tryd.prog ke)(N:Nat)(a:Bs){v:V}{hp:List ai}(h:qL N a=some (v,hp)):aF Tryd.prog xj [.str a] v:=by have d:=aje;simp only[Ac] at d;exact⟨hp,abD b ag8 Tryd.func54 aib d.1 d.2 (by decide) ((ajg N a).trans h)⟩
section
open Go.AM Go.RowKit
theorem auC(s:ByteArray)(c:Int)(w:World):(callFunc 130 #[.string s,.int .u8 c]).run Tryd.prog w=.ok (.value (.int .i64 (Df s.data.toList c.toNat.toUInt8))) w:=by rw[run_callFunc_extern Tryd.func130 (by kernel_rfl) (by kernel_rfl) (by kernel_rfl) (e:=Extern.BytealgIndexByte.indexByte) (by kernel_rfl)];rw[Lib.run_indexByteString];rfl
set_option maxHeartbeats 1000000 in
theorem auD(s:ByteArray)(c:Int)(w:World):Calls Tryd.prog 110 #[.string s,.int .u8 c] w λe w'=>e=.returned (.int .i64 (Df s.data.toList c.toNat.toUInt8))∧w'=w:=by
 go_enter Tryd.func110,Tryd.ntmps110
 go_wp2
 rw[auC];rw[Ds]
 go_wp2
 go_ret
 exact⟨rfl,rfl⟩
theorem aoo:∀(l:List UInt8)(c:Nat),c<256->Df l c.toUInt8=kR l (c:Int)∧ -1<=kR l (c:Int)∧kR l (c:Int)<=(l.length:Int)
 | [],c,h=>by simp[Df,kR,afG]
 |b::l,c,h=>by
  have a:=aoo l c h;have g:(b==c.toUInt8)=decide (b.toNat=c):=by
   have e:(c.toUInt8).toNat=c:=by simp[Nat.toUInt8];omega
   by_cases d:b.toNat=c
   ·have:b=c.toUInt8:=by apply BR.1;rw[e];exact d
    simp[this,e]
   ·have:b≠c.toUInt8:=by rintro rfl;exact d e
    simp[this,d]
  simp only[Df,kR,afG,At,g] at a ⊢;by_cases d:b.toNat=c;·simp[d];omega
  ·simp only[d,decide_false,if_false,CD];cases f:afG l c with
   |none=>rw[f] at a;simp at a ⊢;simp[a];omega
   |some k=>
    rw[f] at a;simp only[BE] at a ⊢;rw[a.1];have:((k:Int)== -1)=false:=by simp
    rw[this];simp;omega
theorem qM(s:List UInt8)(c:Int):aF Tryd.prog la [.str s,.int .u8 c] (.int .i64 (kR s c)):=by
 refine⟨[],?_⟩;intro w g f t j a i d;match f,a,d with
 |⟨[u,o]⟩,a,d=>
  have y:=d 0 (.str s) u rfl rfl;have v:=d 1 (.int .u8 c) o rfl rfl;cases y with
  |str _ b m p=>
  cases v with
  |int _ _ k=>
  subst m;refine(auD b c w).mono ?_;rintro e w' ⟨rfl,rfl⟩;obtain⟨n,rfl⟩:∃n:Nat,c=(n:Int):=⟨c.toNat,by have:(0:Int)<=c:=k.1;omega⟩
  have q:n<256:=by have:(n:Int)<=255:=k.2;omega
  have h:=aoo b.data.toList n q;have x:(b.data.toList.length:Int)<=9223372036854775807:=by
   have B:b.size<=9223372036854775807:=p;have A:b.data.toList.length=b.size:=by simp
   omega
  refine⟨_,g,rfl,j,FR.refl _ _ _,?_,by simp[ap]⟩;rw[At,h.1];exact .int _ _ ⟨by show (-9223372036854775808:Int)<=_;omega,by show _<=(9223372036854775807:Int);omega⟩
 |⟨[]⟩,a,_=>simp at a
 |⟨[_]⟩,a,_=>simp at a
 |⟨_::_::_::_⟩,a,_=>simp at a
end
theorem avt(k:Nat)(b:k<=8)(a:Nat)(d:a<256):de .and .u8 (a:Int) ((2^k-1:Nat):Int)=((a%2^k:Nat):Int):=by have e:2^k<=2^8:=Nat.pow_le_pow_right (by omega) b;have f:1<=2^k:=Nat.one_le_two_pow;rw[ada .u8 rfl a (2^k-1) d (by show 2^k-1<2^8;omega),Nat.and_two_pow_sub_one_eq_mod]
theorem asv(p:Nat->Bool)(h:(AU 256).all p=true):∀n,n<256->p n=true:=λn a=>Ap.1 h n (AZ.2 a)
def atE(n:Nat):Bool:=
 let k:=kR [34,92,8,12,10,13,9] (n:Int)
 if 0<=k then decide (k<7)&&decide (jd (AF n)=[92,([34,92,98,102,110,114,116]:List UInt8).getD k.toNat 0])
 else if n<32 then decide (jd (AF n)=[92,117,48,48,([48,49,50,51,52,53,54,55,56,57,97,98,99,100,101,102]:List UInt8).getD (n / 16) 0,([48,49,50,51,52,53,54,55,56,57,97,98,99,100,101,102]:List UInt8).getD (n%16) 0])
 else decide (jd (AF n)=[AF n])
theorem auE:(AU 256).all atE=true:=by kernel_rfl
theorem apK(N:Nat)(rec:(List UInt8×Int×Int×List UInt8)->Option (V×List ai))(s o:List UInt8)(i:Nat)(t:i<s.length)(v:s.length<=9223372036854775806)(u:o.length<=100000000):
  fj N rec (s,(s.length:Int),(i:Int),o)=rec (s,(s.length:Int),((i+1:Nat):Int),o++jd (s.getD i 0)):=by
 have b:(s.getD i 0).toNat<256:=DG _;have a:=asv atE auE _ b;simp only[fj,At];obtain⟨c,p⟩:∃c,s.getD i 0=c:=⟨_,rfl⟩
 simp only[p] at b a ⊢;have k:tQ .u8 (c.toNat:Int) 4=((c.toNat / 16:Nat):Int):=an9 .u8 c.toNat 4 (by decide);have f:de .and .u8 (c.toNat:Int) 15=((c.toNat%16:Nat):Int):=avt 4 (by omega) _ b;simp only[atE,CI] at a;by_cases e:(0:Int)<=kR [34,92,8,12,10,13,9] (c.toNat:Int);·rw[if_pos e] at a;simp only[Ac,decide_eq_true_eq] at a;obtain⟨h,d⟩:=a;have q:([34,92,98,102,110,114,116]:List UInt8).length=7:=rfl;simp(disch:=omega) only[mN,e,d,q,Aj,Af,Ak,CI,AC,AI,AW];rfl
 ·rw[if_neg e] at a;by_cases g:c.toNat<32;·rw[if_pos g] at a;simp only[decide_eq_true_eq] at a;have j:ixl ((c.toNat / 16:Nat):Int) ([48,49,50,51,52,53,54,55,56,57,97,98,99,100,101,102]:List UInt8)=true:=ixt (by simp only[Af,Ak];omega);have m:ixl ((c.toNat%16:Nat):Int) ([48,49,50,51,52,53,54,55,56,57,97,98,99,100,101,102]:List UInt8)=true:=ixt (by simp only[Af,Ak];omega);simp(disch:=omega) only[mN,a,j,m,k,f,Aj,Af,Ak,CI,AC,AI,AW];rfl
  ·rw[if_neg g] at a;simp only[decide_eq_true_eq] at a;simp(disch:=omega) only[mN,a,CI];rfl
theorem ado(c:UInt8):(jd c).length<=6:=by
 unfold jd
 repeat' split
 all_goals simp
theorem ag9(N:Nat)(s:List UInt8)(t:s.length<=10000)(p:s.length<N):(qL N s).map (·.1)=some (.str (aX s)):=by
 have h:(aK N (fj N) (s,(s.length:Int),(0:Int),[34])).map (·.1)=some (V.str (aX s)):=by
  have key:=alV (B:=fj N) (λx:List UInt8×Int×Int×List UInt8=>x.1=s∧x.2.1=(s.length:Int)∧∃i:Nat,x.2.2.1=(i:Int)∧i<=s.length∧x.2.2.2.length<=1+6*i)
   (λx=>s.length-x.2.2.1.toNat) (λx=>V.str (x.2.2.2++((s.drop x.2.2.1.toNat).flatMap jd++[34]))) ?_ N (s,(s.length:Int),(0:Int),[34]) ⟨rfl,rfl,0,rfl,by omega,by simp⟩ (by simpa using p)
  ·rw[key];rfl
  ·rintro rec ⟨a,q,u,o⟩ ⟨g,j,i,f,k,m⟩ b;dsimp only at g j f k m;subst g j f;by_cases d:i<a.length;·rw[apK N rec a o i d (by omega) (by omega)];have v:=ado (a.getD i 0);rw[b (a,(a.length:Int),((i+1:Nat):Int),o++jd (a.getD i 0)) ⟨rfl,rfl,i+1,rfl,by omega,by simp only[Aj];omega⟩ (by simp;omega)];simp only[At];rw[AK d,BC];simp[An,d]
   ·have e:i=a.length:=by omega
    subst e;simp only[fj,At,By,List.flatMap_nil,AW];simp(disch:=omega) only[mN,];rfl
 simp only[qL,nj];simp(disch:=omega) only[mN,Ak,AW];exact h
theorem arg(a:List UInt8)(b:Int):aF Tryd.prog pe [.str a,.int .u8 b] (.int .i64 (kR a b)):=
 adn (aa0 qM) 1000 a b rfl
theorem arh(s:List UInt8)(b:s.length<=10000):aF Tryd.prog xj [.str s] (.str (aX s)):=by obtain⟨d,a⟩:=avk (ag9 10001 s b (by omega));exact akA (aia arg) 10001 s a
abbrev wH:FuncId:=59
abbrev ve:FuncId:=27
abbrev mL:FuncId:=86
abbrev ahD:FuncId:=37
abbrev afT:FuncId:=74
abbrev aeh:FuncId:=16
abbrev afU:FuncId:=15
abbrev aei:FuncId:=57
abbrev afV:FuncId:=58
abbrev ahE:FuncId:=28
abbrev afW:FuncId:=26
abbrev abM:FuncId:=56
abbrev aej:FuncId:=9
abbrev aek:FuncId:=17
abbrev uo:FuncId:=52
abbrev aeR:FuncId:=53
abbrev vD:FuncId:=55
abbrev amC:=Bool
noncomputable def oH(r:amC):Prop:=aF Tryd.prog aej [] (.bool r)∧sP  r
noncomputable def amD:cV Tryd.prog:=.mk 9 λus=>match us with
 | []=>let r:=pick oH;some (can oH,.bool r)
 |_=>none
abbrev aop:=Bs
noncomputable def gU(a:List ac)(r:aop):Prop:=aF Tryd.prog afU [.agg [.sl .atype (.may false) a]] (.str r)∧aah a r
noncomputable def yJ:cV Tryd.prog:=.mk 15 λus=>match us with
 | [.agg [.sl .atype (.may _) a]]=>let r:=pick (gU a);some (can (gU a),.str r)
 |_=>none
abbrev amE:=Int
noncomputable def oJ(a:List ac)(r:amE):Prop:=aF Tryd.prog aeh [.agg [.sl .atype (.may false) a]] (.int .u64 r)∧yG a r
noncomputable def amF:cV Tryd.prog:=.mk 16 λus=>match us with
 | [.agg [.sl .atype (.may _) a]]=>let r:=pick (oJ a);some (can (oJ a),.int .u64 r)
 |_=>none
abbrev amG:=Int
noncomputable def oK(a:Bs)(r:amG):Prop:=aF Tryd.prog aek [.str a] (.int .u64 r)∧sO a r
noncomputable def amH:cV Tryd.prog:=.mk 17 λus=>match us with
 | [.str a]=>let r:=pick (oK a);some (can (oK a),.int .u64 r)
 |_=>none
abbrev aoq:=Bs
noncomputable def gV(a:aa)(r:aoq):Prop:=aF Tryd.prog afW [.agg (enc .jnode a)] (.str r)∧fh a r
noncomputable def afX:cV Tryd.prog:=.mk 26 λus=>match us with
 | [.agg [.int .i64 f,.int .i64 b,.str e,.sl .jnode (.may _) d,.sl .str (.may _) a]]=>let r:=pick (gV (⟨f,b,e,d,a⟩));some (can (gV (⟨f,b,e,d,a⟩)),.str r)
 |_=>none
abbrev aeS:=aa×List (Int×Bool)×List ac
noncomputable def av(b:List (Int×Bool))(a:List ac)(d:Int)(r:aeS):Prop:=be Tryd.prog ve [.ptr 1 0,.int .i64 d] [[.mp .ib b],[.sl .atype (.may false) a,.mr 0]] (.agg (enc .jnode r.1)) [[.mp .ib r.2.1],[.sl .atype (.may false) r.2.2,.mr 0]]∧fv b a d r
abbrev apL:=Int
noncomputable def rN(a:Bs)(r:apL):Prop:=aF Tryd.prog ahE [.str a] (.int .u64 r)∧vz a r
noncomputable def apM:cV Tryd.prog:=.mk 28 λus=>match us with
 | [.str a]=>let r:=pick (rN a);some (can (rN a),.int .u64 r)
 |_=>none
abbrev apN:=Bs
noncomputable def kJ(a:Int)(r:apN):Prop:=aF Tryd.prog ahD [.int .i64 a] (.str r)∧nd a r
noncomputable def ahF:cV Tryd.prog:=.mk 37 λus=>match us with
 | [.int .i64 a]=>let r:=pick (kJ a);some (can (kJ a),.str r)
 |_=>none
abbrev adp:=Bs
noncomputable def gW(a:Bool)(r:adp):Prop:=aF Tryd.prog uo [.bool a] (.str r)∧rh a r
noncomputable def adq:cV Tryd.prog:=.mk 52 λus=>match us with
 | [.bool a]=>let r:=pick (gW a);some (can (gW a),.str r)
 |_=>none
abbrev aeT:=Bs
noncomputable def lw(a b:Int)(r:aeT):Prop:=aF Tryd.prog aeR [.int .i64 a,.int .i64 b] (.str r)∧aaS a b r
noncomputable def aeU:cV Tryd.prog:=.mk 53 λus=>match us with
 | [.int .i64 a,.int .i64 b]=>let r:=pick (lw a b);some (can (lw a b),.str r)
 |_=>none
abbrev amI:=Bs
noncomputable def oL(a:Bs)(r:amI):Prop:=aF Tryd.prog xj [.str a] (.str r)∧yE a r
noncomputable def amJ:cV Tryd.prog:=.mk 54 λus=>match us with
 | [.str a]=>let r:=pick (oL a);some (can (oL a),.str r)
 |_=>none
abbrev akB:=Bs
noncomputable def nk(a:Bss)(b:Bs)(r:akB):Prop:=aF Tryd.prog vD [.sl .str (.may false) a,.str b] (.str r)∧ag5 a b r
noncomputable def akC:cV Tryd.prog:=.mk 55 λus=>match us with
 | [.sl .str (.may _) a,.str b]=>let r:=pick (nk a b);some (can (nk a b),.str r)
 |_=>none
abbrev akD:=Bss
noncomputable def kM(a:List aa)(r:akD):Prop:=aF Tryd.prog abM [.sl .jnode (.may false) a] (.ul .str r)∧xx a r
noncomputable def akE:cV Tryd.prog:=.mk 56 λus=>match us with
 | [.sl .jnode (.may _) a]=>let r:=pick (kM a);some (can (kM a),.ul .str r)
 |_=>none
abbrev amK:=Int×Int×Bs×Bool×List aa×Bool×Bss
noncomputable def eI(b:Bool)(d:Bss)(a:Bool)(e:List aa)(r:amK):Prop:=aF Tryd.prog aei [.sl .str (.may b) d,.sl .jnode (.may a) e] (.agg [.int .i64 r.1,.int .i64 r.2.1,.str r.2.2.1,.sl .jnode (.may r.2.2.2.1) r.2.2.2.2.1,.sl .str (.may r.2.2.2.2.2.1) r.2.2.2.2.2.2])∧yF b d a e r
noncomputable def ael:cV Tryd.prog:=.mk 57 λus=>match us with
 | [.sl .str (.may b) d,.sl .jnode (.may a) e]=>let r:=pick (eI b d a e);some (can (eI b d a e),.agg [.int .i64 r.1,.int .i64 r.2.1,.str r.2.2.1,.sl .jnode (.may r.2.2.2.1) r.2.2.2.2.1,.sl .str (.may r.2.2.2.2.2.1) r.2.2.2.2.2.2])
 |_=>none
abbrev aor:=aa
noncomputable def ch(a:Bs)(r:aor):Prop:=aF Tryd.prog afV [.str a] (.agg (enc .jnode r))∧gP a r
noncomputable def afY:cV Tryd.prog:=.mk 58 λus=>match us with
 | [.str a]=>let r:=pick (ch a);some (can (ch a),.agg (enc .jnode r))
 |_=>none
abbrev afZ:=aa×List (Int×Bool)×List ac
noncomputable def bh(b:List (Int×Bool))(a:List ac)(d:ac)(r:afZ):Prop:=be Tryd.prog wH [.ptr 1 0,.agg (enc .atype d)] [[.mp .ib b],[.sl .atype (.may false) a,.mr 0]] (.agg (enc .jnode r.1)) [[.mp .ib r.2.1],[.sl .atype (.may false) r.2.2,.mr 0]]∧ta b a d r
abbrev aos:=Bss
noncomputable def qh(r:aos):Prop:=aF Tryd.prog afT [] (.sl .str (.may false) r)∧aag  r
noncomputable def aot:cV Tryd.prog:=.mk 74 λus=>match us with
 | []=>let r:=pick qh;some (can qh,.sl .str (.may false) r)
 |_=>none
abbrev u0:=Bs
noncomputable def et(a:Bool)(r:u0):Prop:=aF Tryd.prog mL [.bool a] (.str r)∧kT a r
noncomputable def u6:cV Tryd.prog:=.mk 86 λus=>match us with
 | [.bool a]=>let r:=pick (et a);some (can (et a),.str r)
 |_=>none
end Go.Proofs.YtkinflmjagfapaaDoor
namespace Go.AM
def DX:Nat:=1000000
def strip:IR->IR
 | .exit i=>cond (AD i DX) .ret (.exit i)
 | .seq a b=>.seq (strip a) (strip b)
 | .cond c a b=>.cond c (strip a) (strip b)
 | .block i a=>.block i (strip a)
 | .cut l m a=>.cut l m (strip a)
 | .gh g a=>.gh g (strip a)
 | .ghp g a=>.ghp g (strip a)
 |x=>x
section
variable{R:Type}{Γ:aq}{n:Nat}
end
def avP(P:Program)(f:FuncId)(vs:List V)(hp:List ai)(v:V)(hp':List ai):Prop:=
 ∀(w:World)(g:Gh)(a:Array Value)(u:FrameMode),tV P g w->HR g hp w->vs.length=a.size->(∀x∈vs,x.bare=true)->
  (∀(i:Nat) x cv,vs[i]? =some x->a[i]? =some cv->VRel g.I g.ρ hp.length w x cv)->CallsD P f a u w λe u' w'=>u'=u∧RQ g hp w v hp' e w'
structure FnD(P:Program)(g:FuncId)(C:List V->List ai->Ro):Prop where
 body:yB P g=true
 ok:∀vs hp v hp',C vs hp=some (v,hp')->avP P g vs hp v hp'
theorem FnD.of{P:Program}{Γ:aq}{imp:List Nat}{f:FuncId}{fn:Func}{o:IR}{p:List RV}{n:Nat}(b:ca P Γ)(e:cI Γ imp)(h:P.funcs[f]? =some fn)(i:yB P f=true)(d:fn.body=some (fn.body.getD .skip))
  (chk:∀k,(bd P imp k o (fn.body.getD .skip)&&jQ P p fn.results.toList)=true) (a:fn.results.toList.length<=5):FnD P f (callF Γ n fn.ntmps p o):=⟨i,λvs hp v hp' y w g m u B A x q t=>by
 have j:=chk hp.length;simp only[Ac] at j;exact callsD_of_wp h d (auh b e j.1 j.2 a y B A x q t)⟩
section
variable{P:Program}{Γ:aq}{imp:List Nat}
end
def yK:Value->Bool
 | .slice _ _ _=>true
 |_=>false
def ari(g:Gh)(w:World)(b:Nat):Prop:=∀j,g.I b j->∃v,w.cell? ⟨b,j,none⟩=some v∧yK v=false
structure FRW(g₀:Gh)(hp₀:List ai)(w₀:World)(g:Gh)(hp:List ai)(w:World):Prop where
 beta:g.β=g₀.β
 os:w.os=w₀.os
 tape:w.tape=w₀.tape
 output:w.output=w₀.output
 size:w₀.heap.size<=w.heap.size
 block:∀b,b<w₀.heap.size->(∀(id:Nat) cs,hp₀[id]? =some (some cs)->g₀.ρ id≠b)->g₀.O b=none->ari g₀ w₀ b->w.heap[b]? =w₀.heap[b]?
 mono:∀b j,g₀.I b j->g.I b j
 cell:∀b j v,g₀.I b j->w₀.cell? ⟨b,j,none⟩=some v->yK v=false->w.cell? ⟨b,j,none⟩=some v
 rho:∀id,id<hp₀.length->g.ρ id=g₀.ρ id
 num:hp₀.length<=hp.length
 iSame:∀b j,b<w₀.heap.size->(∀(id:Nat) cs,hp₀[id]? =some (some cs)->g₀.ρ id≠b)->g₀.O b=none->g.I b j->g₀.I b j
 oSame:∀b,b<w₀.heap.size->(∀(id:Nat) cs,hp₀[id]? =some (some cs)->g₀.ρ id≠b)->g₀.O b=none->g.O b=none
 live:∀(id:Nat) cs,hp[id]? =some (some cs)->(∃cs₀,hp₀[id]? =some (some cs₀))∨(hp₀.length<=id∧(w₀.heap.size<=g.ρ id∨g₀.O (g.ρ id)≠none∨∃(id':Nat)(cs':List V),hp₀[id']? =some (some cs')∧g₀.ρ id'=g.ρ id))
 reads:∀(ρ ρ':Nat->Nat)(N N':Nat)(c:V)(cv:Value),c.cellS=true->VRel g₀.I ρ N w₀ c cv->VRel g.I ρ' N' w c cv
 turn:∀b j v,g₀.I b j->w₀.cell? ⟨b,j,none⟩=some v->∃v',w.cell? ⟨b,j,none⟩=some v'∧∀(ρ ρ':Nat->Nat)(N N':Nat)(c:V),c.cellS=true->VRel g₀.I ρ N w₀ c v->VRel g.I ρ' N' w c v'
theorem o8{c:V}(h:c.cellS=true):c.flat1=true:=by revert h;cases c<;>simp[V.cellS,V.flat1]
theorem FR.toW{g₀ g:Gh}{hp₀ hp:List ai}{w₀ w:World}(h:FR g₀ hp₀ w₀ g hp w):FRW g₀ hp₀ w₀ g hp w:=
 ⟨h.beta,h.os,h.tape,h.output,h.size,λb m k i _=>h.block b m k i,h.up.mono,λb j v e a _=>(h.up.cell b j e).trans a,h.up.rho,h.up.num,h.iSame,h.oSame,h.live,λρ ρ' N N' c cv d a=>((a.flat1 (o8 d)).up h.up).flat1 (o8 d),λb j v e a=>⟨v,(h.up.cell b j e).trans a,λρ ρ' N N' c d a=>((a.flat1 (o8 d)).up h.up).flat1 (o8 d)⟩⟩
theorem FRW.noObj{g₀ g₁:Gh}{hp₀ hp₁:List ai}{w₀ w₁:World}(h:FRW g₀ hp₀ w₀ g₁ hp₁ w₁){b:Nat}(t:b<w₀.heap.size)(k:∀(id:Nat) cs,hp₀[id]? =some (some cs)->g₀.ρ id≠b)(q:g₀.O b=none):
  ∀(id:Nat) cs,hp₁[id]? =some (some cs)->g₁.ρ id≠b:=by
 intro id cs i e;rcases h.live id cs i with⟨a,m⟩|⟨_,d|d|⟨j,g,d,p⟩⟩
 ·exact k id a m ((h.rho id (Ad.1 m).1).symm.trans e)
 ·omega
 ·rw[e] at d;exact d q
 ·exact k j g d (p.trans e)
theorem FRW.hard{g₀ g₁:Gh}{hp₀ hp₁:List ai}{w₀ w₁:World}(h:FRW g₀ hp₀ w₀ g₁ hp₁ w₁){b:Nat}(d:b<w₀.heap.size)(e:∀(id:Nat) cs,hp₀[id]? =some (some cs)->g₀.ρ id≠b)(i:g₀.O b=none)(m:ari g₀ w₀ b):ari g₁ w₁ b:=by intro j a;obtain⟨v,k,g⟩:=m j (h.iSame b j d e i a);exact⟨v,h.cell b j v (h.iSame b j d e i a) k g,g⟩
theorem FRW.trans{g₀ g₁ d:Gh}{hp₀ hp₁ p:List ai}{w₀ w₁ B:World}(h:FRW g₀ hp₀ w₀ g₁ hp₁ w₁)(k:FRW g₁ hp₁ w₁ d p B):FRW g₀ hp₀ w₀ d p B:=by
 refine⟨k.beta.trans h.beta,k.os.trans h.os,k.tape.trans h.tape,k.output.trans h.output,AR h.size k.size,?_,λb j A=>k.mono b j (h.mono b j A),λb j v A D L=>k.cell b j v (h.mono b j A) (h.cell b j v A D L) L,
  λid y=>(k.rho id (AE y h.num)).trans (h.rho id y),AR h.num k.num,?_,?_,?_,λρ ρ' N N' c cv F D=>k.reads ρ ρ' N N' c cv F (h.reads ρ ρ N N c cv F D),λb j v A D=>by
  obtain⟨X,Q,P⟩:=h.turn b j v A D;obtain⟨W,R,S⟩:=k.turn b j X (h.mono b j A) Q;exact⟨W,R,λρ ρ' N N' c F D=>S ρ ρ' N N' c F (P ρ ρ N N c F D)⟩⟩
 ·intro b a i m J;exact(k.block b (AE a h.size) (h.noObj a i m) (h.oSame b a i m) (h.hard a i m J)).trans (h.block b a i m J)
 ·intro b j a i m A;exact h.iSame b j a i m (k.iSame b j (AE a h.size) (h.noObj a i m) (h.oSame b a i m) A)
 ·intro b a i m;exact k.oSame b (AE a h.size) (h.noObj a i m) (h.oSame b a i m)
 ·intro id cs y;rcases k.live id cs y with⟨C,x⟩|⟨t,x|x|⟨e,q,x,E⟩⟩
  ·rcases h.live id C x with⟨g,G⟩|⟨t,E⟩
   ·exact .inl ⟨g,G⟩
   ·refine .inr ⟨t,?_⟩;rw[k.rho id (Ad.1 x).1];exact E
  ·exact .inr ⟨AR h.num t,.inl (AR h.size x)⟩
  ·refine .inr ⟨AR h.num t,?_⟩;rcases AH (d.ρ id) w₀.heap.size with a|a
   ·refine .inr ?_;by_cases m:g₀.O (d.ρ id)=none
    ·by_cases i:∃(e:Nat)(q:List V),hp₀[e]? =some (some q)∧g₀.ρ e=d.ρ id;·exact .inr i
     ·exact absurd (h.oSame _ a (λe q x E=>i ⟨e,q,x,E⟩) m) x
    ·exact .inl m
   ·exact .inl a
  ·refine .inr ⟨AR h.num t,?_⟩;rcases h.live e q x with⟨g,G⟩|⟨H,M⟩
   ·refine .inr (.inr ⟨e,g,G,?_⟩);rw[<-E,h.rho e (Ad.1 G).1]
   ·rw[<-E];exact M
theorem FRW.hand{g₀ g:Gh}{hp₀ hp:List ai}{w₀ w:World}(h:FRW g₀ hp₀ w₀ g hp w)(r:Option Nat):FRW g₀ hp₀ w₀ (g.hand r) hp w:=
 ⟨h.beta,h.os,h.tape,h.output,h.size,h.block,h.mono,h.cell,h.rho,h.num,h.iSame,λb d a e=>by simp[Gh.hand,h.oSame b d a e],h.live,h.reads,h.turn⟩
section
variable{I:Nat->Nat->Prop}{ρ:Nat->Nat}{N:Nat}{w w':World}
theorem aou{k:EK}{o:Fl}{xs:List (Ty k)}{cv:Value}(h:VRel I ρ N w (.sl k o xs) cv):yK cv=true:=by cases h<;>rfl
theorem aov{k k':EK}{o o':Fl}{cv:Value}(h:VRel I ρ N w (.sl k o []) cv)(g:o'=.may false):VRel I ρ N w (.sl k' o' []) cv:=by
 subst g;cases h with
 |sln=>exact .sln _ _
 |sle=>exact .sle _ _ _ (by simp)
 |sl _ _ _ b a len cap d p e q f m i j=>subst d;exact .sl k' _ [] b a 0 cap rfl (by simp) e (by simp) f (by simp) (by simp) (by simp)
theorem aql:∀{xs ys:List (Ty .str)}{o o':Fl}{cv:Value},VRel I ρ N w (.sl .str o xs) cv->VRel I ρ N w (.sl .str o' ys) cv->xs=ys:=by
 intro xs ys o o' cv h j;have d:xs.length=ys.length:=by
  cases h with
  |sln=>cases j<;>rfl
  |sle=>cases j with|sle=>rfl|sl _ _ _ _ _ _ _ a=>simpa using a.symm
  |sl _ _ _ b p len cap a F O P f G y C=>
   cases j with
   |sle=>simpa using a
   |sl _ _ _ _ _ _ _ g=>rw[a,g]
 refine List.ext_getElem d λi k v=>?_
 cases h with
 |sln=>simp at k
 |sle=>simp at k
 |sl _ _ _ b p len cap a F O P f G y C=>
  cases j with
  |sle=>simp at v
  |sl _ _ _ _ _ _ _ g E L H A D m x=>
   have M:=y i _ 0 (Ab k) (by simp[enc]);have J:=m i _ 0 (Ab v) (by simp[enc]);have e:f i 0=A i 0:=Ax (M.symm.trans J);have q:=C i _ 0 _ (Ab k) rfl;have B:=x i _ 0 _ (Ab v) rfl;rw[e] at q;generalize A i 0=u at q B;cases q with
   |str _ s Q _=>cases B with|str _ _ t _=>exact Q.symm.trans t
end
theorem aa.eta(x:aa):x=.mk x.kind x.n x.s x.l x.names:=by cases x;rfl
theorem aa.l_lt(x:aa):B7 x.l<B7 x:=by cases x;simp[aa.l];omega
section
variable{I:Nat->Nat->Prop}{ρ:Nat->Nat}{N:Nat}{w w':World}
theorem aqm{k:IntKind}{a b:Int}{cv:Value}(h:VRel I ρ N w (.int k a) cv)(d:VRel I ρ N w (.int k b) cv):a=b:=by cases h;cases d;rfl
theorem auF{a b:List UInt8}{cv:Value}(h:VRel I ρ N w (.str a) cv)(g:VRel I ρ N w (.str b) cv):a=b:=by
 cases h with
 |str _ s e _=>cases g with|str _ _ d _=>exact e.symm.trans d
theorem avu:∀(n:Nat){xs ys:List (Ty .jnode)}{o o':Fl}{cv:Value},B7 xs<=n->VRel I ρ N w (.sl .jnode o xs) cv->VRel I ρ N w (.sl .jnode o' ys) cv->xs=ys:=by
 intro n;induction n with
 |zero=>intro xs ys o o' cv B;cases xs<;>simp at B
 |succ n J=>
  intro xs ys o o' cv B h t;have p:xs.length=ys.length:=by
   cases h with
   |sln=>cases t<;>rfl
   |sle=>cases t with|sle=>rfl|sl _ _ _ _ _ _ _ m=>simpa using m.symm
   |sl _ _ _ b y len cap m G Q Y f H A k=>
    cases t with
    |sle=>simpa using m
    |sl _ _ _ _ _ _ _ q=>rw[m,q]
  refine List.ext_getElem p λi v D=>?_
  cases h with
  |sln=>simp at v
  |sle=>simp at v
  |sl _ _ _ b y len cap m G Q Y f H A k=>
   cases t with
   |sle=>simp at D
   |sl _ _ _ _ _ _ _ q F M L W E x a=>
    have d:xs[i]? =some xs[i]:=Ab v;have g:ys[i]? =some ys[i]:=Ab D;have e:∀j,j<5->f i j=W i j:=λj C=>Ax ((A i _ j d (by simpa [enc] using C)).symm.trans (x i _ j g (by simpa [enc] using C)))
    have hx:B7 xs[i]<B7 xs:=Dk (Bf v);have R:=aa.l_lt xs[i];rw[aa.eta xs[i],aa.eta ys[i]];have P:=aqm (k i _ 0 _ d rfl) (e 0 (by omega)▸a i _ 0 _ g rfl);have Z:=aqm (k i _ 1 _ d rfl) (e 1 (by omega)▸a i _ 1 _ g rfl);have X:=auF (k i _ 2 _ d rfl) (e 2 (by omega)▸a i _ 2 _ g rfl);have S:=J (by omega) (k i _ 3 _ d rfl) (e 3 (by omega)▸a i _ 3 _ g rfl);have O:=aql (k i _ 4 _ d rfl) (e 4 (by omega)▸a i _ 4 _ g rfl);rw[P,Z,X,S,O]
theorem asw{xs:List (Ty .jnode)}{ys:List (Ty .str)}{o o':Fl}{cv:Value}(h:VRel I ρ N w (.sl .jnode o xs) cv)(i:VRel I ρ N w (.sl .str o' ys) cv):xs=[]∧ys=[]:=by
 have a:xs.length=ys.length:=by
  cases h with
  |sln=>cases i<;>rfl
  |sle=>cases i with|sle=>rfl|sl _ _ _ _ _ _ _ d=>simpa using d.symm
  |sl _ _ _ b k len cap d J G H f D q A=>
   cases i with
   |sle=>simpa using d
   |sl _ _ _ _ _ _ _ g=>rw[d,g]
 rcases xs with _|⟨x,xs⟩
 ·exact⟨rfl,by simpa using a.symm⟩
 ·rcases ys with _|⟨y,ys⟩
  ·simp at a
  ·cases h with
   |sl _ _ _ b k len cap d J G H f D q A=>
    cases i with
    |sl _ _ _ _ _ _ _ g C F E t B j p=>have e:f 0 0=t 0 0:=Ax ((q 0 x 0 rfl (by simp[enc])).symm.trans (j 0 y 0 rfl (by simp[enc])));have m:=A 0 x 0 _ rfl rfl;have v:=p 0 y 0 _ rfl rfl;rw[e] at m;generalize t 0 0=u at m v;cases m;cases v
end
structure jg(I:Nat->Nat->Prop)(w w':World)(b o n:Nat)(cs:List V)(f u:Nat->Value):Prop where
 out:∀b' j,(b'≠b∨j<o∨o+n<=j)->w'.cell? ⟨b',j,none⟩=w.cell? ⟨b',j,none⟩
 new:∀j,j<n->w'.cell? ⟨b,o+j,none⟩=some (u j)
 old:∀j,j<n->w.cell? ⟨b,o+j,none⟩=some (f j)
 len:cs.length=n
 ok:∀c∈cs,c.cellS=true
 rf:∀(ρ:Nat->Nat)(N j:Nat) c,cs[j]? =some c->VRel I ρ N w c (f j)
 ru:∀(ρ:Nat->Nat)(N j:Nat) c,cs[j]? =some c->VRel I ρ N w c (u j)
section
variable{I:Nat->Nat->Prop}{ρ:Nat->Nat}{N:Nat}{w w':World}{b o n:Nat}{cs:List V}{f u:Nat->Value}
theorem atF{s t:ByteArray}(h:s.data.toList=t.data.toList):s=t:=by cases s;cases t;simp only at h;rw[Array.toList_inj.1 h]
theorem jg.cellOne(h:jg I w w' b o n cs f u){j:Nat}(A:j<n){c:V}(q:c.cellS=true)(i:VRel I ρ N w c (f j)):VRel I ρ N w c (u j)∧(yK (f j)=false->u j=f j):=by
 obtain⟨d,hd⟩:∃d,cs[j]? =some d:=⟨cs[j]'(by rw[h.len];exact A),Ab _⟩
 have g:=h.rf ρ N j d hd;have m:=h.ru ρ N j d hd;have p:=h.ok d (Am hd);generalize f j=x at*
 generalize u j=y at*
 have same:x=y->VRel I ρ N w c y∧(yK x=false->y=x):=λe=>by subst e;exact⟨i,λ_=>rfl⟩
 cases d with
 |int k a=>cases g;cases m;exact same rfl
 |bool a=>cases g;cases m;exact same rfl
 |nilp=>cases g;cases m;exact same rfl
 |str a=>
  cases g with
  |str _ s C _=>cases m with|str _ s' t _=>exact same (by rw[atF (C.trans t.symm)])
 |sl k E l=>
  refine⟨?_,λe=>by rw[aou g] at e;cases e⟩;cases c with
  |sl k' v F=>
   cases k<;>cases k'<;>cases E<;>cases v<;>simp only[V.cellS] at q p<;>first|contradiction|skip
   all_goals rename_i B D;cases B<;>cases D<;>simp only[V.cellS] at q p<;>first|contradiction|skip
   ·rw[aql i g];exact m
   ·obtain⟨rfl,rfl⟩:=asw i g;exact aov m rfl
   ·obtain⟨rfl,rfl⟩:=asw g i;exact aov m rfl
   ·rw[avu _ (Ar _) i g];exact m
  |int k a=>cases i;cases g
  |bool a=>cases i;cases g
  |nilp=>cases i;cases g
  |str a=>cases i;cases g
  |_=>simp[V.cellS] at q
 |_=>simp[V.cellS] at p
theorem jg.at(h:jg I w w' b o n cs f u){a j:Nat}{x:Value}(p:w.cell? ⟨a,j,none⟩=some x):∃y,w'.cell? ⟨a,j,none⟩=some y∧∀(ρ:Nat->Nat)(N:Nat)(c:V),c.cellS=true->VRel I ρ N w c x->VRel I ρ N w c y:=by
 by_cases g:a=b∧o<=j∧j<o+n
 ·obtain⟨rfl,v,t⟩:=g;have d:j-o<n:=by omega
  have e:o+(j-o)=j:=by omega
  have k:=h.new (j-o) d;have i:=h.old (j-o) d;rw[e] at k i;rw[p] at i;refine⟨_,k,λρ N c q m=>?_⟩;rw[Ax i] at m;exact(h.cellOne d q m).1
 ·exact⟨x,(h.out a j (by omega)).trans p,λ_ _ _ _ h=>h⟩
theorem jg.list(h:jg I w w' b o n cs f u){k:EK}{v:Fl}{xs:List (Ty k)}{cv:Value}(E:∀(i:Nat) x (j:Nat) c,xs[i]? =some x->(enc k x)[j]? =some c->c.cellS=true∧∀cv,VRel I ρ N w c cv->VRel I ρ N w' c cv)
  (O:VRel I ρ N w (.sl k v xs) cv):VRel I ρ N w' (.sl k v xs) cv:=by
 cases O with
 |sln=>exact .sln _ _
 |sle _ _ L A=>exact .sle _ _ L A
 |sl _ _ _ t e len cap F a H M g D B J=>
  have key:∀(i:Nat) x (j:Nat),xs[i]? =some x->j<(enc k x).length->∃y,w'.cell? ⟨t,e+i*k.sz+j,none⟩=some y∧∀c,(enc k x)[j]? =some c->VRel I ρ N w' c y:=by
   intro i x j d p;obtain⟨y,m,q⟩:=h.at (B i x j d p)
   refine⟨y,m,λc a=>?_⟩;obtain⟨C,G⟩:=E i x j c d a;exact G y (q ρ N c C (J i x j c d a))
  refine .sl k v xs t e len cap F a H M (λi j=>(w'.cell? ⟨t,e+i*k.sz+j,none⟩).getD undef) D ?_ ?_;·intro i x j d p;obtain⟨y,m,_⟩:=key i x j d p;rw[m];rfl
  ·intro i x j c d a;obtain⟨y,m,q⟩:=key i x j d (Ad.1 a).1;rw[m];exact q c a
theorem kf{c:V}{cv:Value}(d:(match c with| .int .. | .bool _| .str _| .nilp=>true|_=>false)=true)(a:VRel I ρ N w c cv):VRel I ρ N w' c cv:=by
 cases c<;>simp at d;·cases a;exact .bool _
 ·cases a;exact .int _ _ (by assumption)
 ·cases a;exact .str _ _ (by assumption) (by assumption)
 ·cases a;exact .nilp
theorem jg.strs(h:jg I w w' b o n cs f u){e:Fl}{xs:List (Ty .str)}{cv:Value}(a:VRel I ρ N w (.sl .str e xs) cv):VRel I ρ N w' (.sl .str e xs) cv:=by
 refine h.list ?_ a;intro i x j c g d;have:c=.str x:=by
  cases j with
  |zero=>simpa [enc] using d.symm
  |succ j=>simp[enc] at d
 subst this;exact⟨rfl,λcv a=>kf rfl a⟩
theorem jg.trees(h:jg I w w' b o n cs f u):∀(m:Nat){e:Fl}{xs:List (Ty .jnode)}{cv:Value},B7 xs<=m->VRel I ρ N w (.sl .jnode e xs) cv->VRel I ρ N w' (.sl .jnode e xs) cv:=by
 intro m;induction m with
 |zero=>intro e xs cv g;cases xs<;>simp at g
 |succ m k=>
  intro e xs cv g d;refine h.list ?_ d;intro i x j c q a;have p:B7 x<B7 xs:=Dk (Am q);have t:=aa.l_lt x;match j,a with
  |0,a=>simp[enc] at a;subst a;exact⟨rfl,λcv d=>kf rfl d⟩
  |1,a=>simp[enc] at a;subst a;exact⟨rfl,λcv d=>kf rfl d⟩
  |2,a=>simp[enc] at a;subst a;exact⟨rfl,λcv d=>kf rfl d⟩
  |3,a=>simp[enc] at a;subst a;exact⟨rfl,λcv d=>k (by omega) d⟩
  |4,a=>simp[enc] at a;subst a;exact⟨rfl,λcv d=>h.strs d⟩
  |j+5,a=>simp[enc] at a
theorem jg.cellS(h:jg I w w' b o n cs f u){c:V}{cv:Value}(e:c.cellS=true)(d:VRel I ρ N w c cv):VRel I ρ N w' c cv:=by
 cases c with
 |int k a=>exact kf rfl d
 |bool a=>exact kf rfl d
 |str a=>exact kf rfl d
 |nilp=>exact kf rfl d
 |sl k g l=>
  cases k<;>cases g<;>simp only[V.cellS] at e<;>first|contradiction|skip
  ·exact h.strs d
  ·exact h.trees _ (Ar _) d
 |_=>simp[V.cellS] at e
theorem asx{k:EK}(a:k.soft=true)(x:Ty k):∀c∈enc k x,c.cellS=true:=by cases k<;>simp[EK.soft] at a<;>simp[enc,V.cellS]
theorem jg.soft1(h:jg I w w' b o n cs f u){c:V}{cv:Value}(g:c.soft1=true)(d:VRel I ρ N w c cv):VRel I ρ N w' c cv:=by
 cases c with
 |sl k m l=>
  have q:k.soft=true:=by cases m<;>simp[V.soft1] at g;exact g
  refine h.list ?_ d;intro i x j c v g;have:=asx q x c (Am g);exact⟨this,λcv d=>h.cellS this d⟩
 |undef=>exact .undef _
 |bool a=>exact kf rfl d
 |int k a=>exact kf rfl d
 |str a=>exact kf rfl d
 |nilp=>exact kf rfl d
 |ptr id o=>cases d;exact .ptr _ _ (by assumption)
 |nilif=>cases d;exact .nilif
 |hd n=>cases d;exact .hd _ _ _ (by assumption)
 |sw k id n=>cases d with|sw _ _ _ e t p=>exact .sw _ _ _ e t p
 |wp id k i o=>cases d with|wp _ _ _ _ e=>exact .wp _ _ _ _ e
 |mr id=>cases d with|mr _ e=>exact .mr _ e
 |nilm=>cases d;exact .nilm
 |raw n=>cases d with|raw _ b=>exact .raw _ _
 |_=>simp[V.soft1] at g
theorem al6{k:EK}(a:k.softE=true)(x:Ty k):∀c∈enc k x,c.soft1=true:=by cases k<;>simp[EK.softE,EK.soft] at a<;>simp[enc,V.soft1,EK.soft]
theorem jg.soft(h:jg I w w' b o n cs f u){c:V}{cv:Value}(e:c.soft=true)(q:VRel I ρ N w c cv):VRel I ρ N w' c cv:=by
 cases c with
 |agg l=>
  simp only[V.soft,Ap] at e;cases q with
  |agg _ vs t B E m=>exact .agg l vs t B E λi c cv p x=>h.soft1 (e c (Am p)) (m i c cv p x)
 |tup l=>
  simp only[V.soft,Ap] at e;cases q with
  |tup _ vs t m=>exact .tup l vs t λi c cv p x=>h.soft1 (e c (Am p)) (m i c cv p x)
 |ea l=>
  simp only[V.soft,Ap] at e;cases q with
  |ea _ C d g B G F m=>
   have key:∀j,j<l.length->∃y,w'.cell? ⟨C,d+j,none⟩=some y∧∀c,l[j]? =some c->VRel I ρ N w' c y:=by
    intro j v;obtain⟨y,k,A⟩:=h.at (F j v)
    refine⟨y,k,λc a=>?_⟩;have D:=e c (Am a);exact h.cellS D (A ρ N c D (m j c a))
   refine .ea l C d (λj=>(w'.cell? ⟨C,d+j,none⟩).getD undef) B G ?_ ?_;·intro j v;obtain⟨y,k,_⟩:=key j v;rw[k];rfl
   ·intro j c a;obtain⟨y,k,A⟩:=key j (Ad.1 a).1;rw[k];exact A c a
 |_=>exact h.soft1 e q
end
theorem aow{g:Gh}{w w':World}{d:Occ}{c:V}{cv:Value}{b q:Nat}(y:g.I b q)(B:∀c,c≠b->w'.heap[c]? =w.heap[c]?)(o:c.soft=true)(h:ap g w d c cv):ap g w' d c cv:=by
 cases c with
 |sl k C l=>cases C<;>simp[V.soft,V.soft1] at o<;>simp[ap]
 |raw n=>
  cases cv with
  |pointer p=>
   cases p with
   |some A=>
    obtain⟨t,⟨f,e,x,u⟩,j⟩:=h;have i:A.block≠b:=by intro v;exact j q (v▸y)
    exact⟨t,⟨f,e,(B _ i).trans x,u⟩,j⟩
   |none=>simp[ap]
  |_=>simp[ap]
 |ul=>simp[V.soft,V.soft1] at o
 |_=>simp[ap]
theorem arj{c:V}(h:c.soft1=true):c.soft=true:=by cases c<;>first|exact h|simp[V.soft1] at h
theorem ajh{cs:List V}(h:aqA (some cs)=true){j:Nat}{c:V}(d:(cellsOf cs)[j]? =some c):c.soft1=true∨(∃k xs,c=.ul k xs∧k.softE=true)∨∃k es,c=.mp k es:=by
 unfold aqA at h;split at h;·simp at*
 ·rename_i k es b;obtain rfl:=Ax b;cases j with
  |zero=>simp[cellsOf] at d;exact .inr (.inr ⟨_,_,d.symm⟩)
  |succ j=>simp[cellsOf] at d
 ·rename_i k xs b;obtain rfl:=Ax b;have e:=Am d;simp only[cellsOf,AX] at e;obtain⟨x,_,e⟩:=e;exact .inl (al6 h x c e)
 ·rename_i o q i b;obtain rfl:=Ax b;have p:cF cs=false:=by
   cases f:cF cs with
   |false=>rfl
   |true=>unfold cF at f;split at f<;>first|(simp[V.soft1] at h;done)|(exact absurd rfl (i _ _))|simp at f
  rw[eM p] at d;have:=Ap.1 h c (Am d);split at this;·exact .inr (.inl ⟨_,_,rfl,this⟩)
  ·exact .inl this
theorem auG{g:Gh}{s:St}{w w':World}{a:Act}{b o n:Nat}{cs:List V}{f u:Nat->Value}(h:SR g s w a)(t:jg g.I w w' b o n cs f u)(Z:∀j,j<n->g.I b (o+j))(hs:aqB s=true)
  {b5 a0:Array Value} {e:TypeId} {fz:Nat×Nat} (h0:w.heap[b]? =some (.cells b5 e fz)) (h1:w'.heap[b]? =some (.cells a0 e fz)) (W:∀c,c≠b->w'.heap[c]? =w.heap[c]?) (h3:w'.heap.size=w.heap.size)
  (bs:w'.os=w.os) (a9:w'.tape=w.tape) (Y:w'.output=w.output) (bx:∀j,j<n->w.frozen? ⟨b,o+j,none⟩=false) (b0:∃j,j<n∧yK (f j)=true):
  SR g s w' a∧FRW g s.hp w g s.hp w':=by
 simp only[aqB,Ac,Ap] at hs;obtain⟨X,C,al⟩:=b0;have bl:∀(id:Nat) q,s.hp[id]? =some (some q)->g.ρ id≠b:=by rintro id q A rfl;exact h.hr.notI id q A _ (Z X C)
 have ul:∀M k (xs:List (Ty k)) cv,k.softE=true->aaN g w M k xs cv->aaN g w' M k xs cv:=by
  intro M k xs cv hk hu;rcases hu with hu|⟨b2,cap,ar,e2,ae,k0,k1,G,k3,k4,k5,k6,k7,k8,k9⟩
  ·exact .inl hu
  ·have b6:b2≠b:=by rintro rfl;exact k8 _ (Z X C)
   refine .inr ⟨b2,cap,ar,e2,ae,k0,k1,G,k3,k4,(W b2 b6).trans k5,k6,k7,k8,λi x j v y H F a3=>?_⟩;exact t.soft1 (al6 hk x v (Am F)) (k9 i x j v y H F a3)
 refine⟨⟨⟨?_,h.hr.apart,h.hr.notI,h.hr.notO,?_,λE oc b1=>by rw[h3];exact h.hr.oLt E oc b1⟩,⟨h.er.size,?_,?_⟩⟩,⟨rfl,bs,a9,Y,by rw[h3];exact Ar _,?_,λ_ _ S=>S,?_,λ_ _=>rfl,Ar _,λ_ _ _ _ _ S=>S,λ_ _ _ hO=>hO,λ_ q A=>.inl ⟨q,A⟩,λρ ρ' N N' c cv D p=>(t.cellS D p).flat1 (o8 D),λb j v S p=>by obtain⟨y,H,F⟩:=t.at p;exact⟨y,H,λρ ρ' N N' c D p=>(t.cellS D (F ρ N c D p)).flat1 (o8 D)⟩⟩⟩
 ·intro id q A;have an:=hs.2 _ (Am A);refine(h.hr.obj id q A).keep (W _ (bl id q A)) λar e2 ae k1 G=>⟨G.len,G.plain,G.typed,G.cold,G.one,?_,?_,G.bn⟩
  ·intro j c cv D B;have hr:=G.rel j c cv D B;rcases ajh an D with L|⟨k,xs,rfl,hk⟩|⟨k,es,rfl⟩
   ·exact t.soft1 L hr
   ·cases hr;exact .ul _ _ _ _ (by assumption)
   ·cases hr
  ·intro j c cv D B;have ho:=G.own j c cv D B;rcases ajh an D with L|⟨k,xs,rfl,hk⟩|⟨k,es,rfl⟩
   ·exact aow (Z X C) W (arj L) ho
   ·exact ul _ k xs cv hk ho
   ·simp[ap]
 ·intro E j S;by_cases O:E=b∧o<=j∧j<o+n
  ·obtain⟨rfl,q1,q2⟩:=O;have e1:o+(j-o)=j:=by omega
   have H:=t.new (j-o) (by omega);have F:=bx (j-o) (by omega);rw[e1] at H F;refine⟨by rw[H];rfl,λ_ hz=>?_⟩;have:w'.frozen? ⟨E,j,none⟩=w.frozen? ⟨E,j,none⟩:=by simp only[BD,h0,h1]
   rw[this,F] at hz;cases hz
  ·exact(h.hr.exI E j S).set (t.out E j (by omega)) h0 h1 W
 ·intro m v cv p B;exact t.soft (hs.1 v (Am p)) (h.er.rel m v cv p B)
 ·intro m v cv p B;exact aow (Z X C) W (hs.1 v (Am p)) (h.er.own m v cv p B)
 ·intro E _ _ _ hh;refine W E ?_;rintro rfl;obtain⟨v,p,R⟩:=hh _ (Z X C);rw[t.old X C] at p;rw[Ax p,R] at al;cases al
 ·intro E j v S p R;by_cases O:E=b∧o<=j∧j<o+n
  ·obtain⟨rfl,q1,q2⟩:=O;have e1:o+(j-o)=j:=by omega
   have J:j-o<n:=by omega
   have H:=t.new (j-o) J;have F:=t.old (j-o) J;rw[e1] at H F;rw[F] at p;have e2:=Ax p;obtain⟨d,hd⟩:∃d,cs[j-o]? =some d:=⟨cs[j-o]'(by rw[t.len];exact J),Ab _⟩
   have:=(t.cellOne (ρ:=g.ρ) (N:=0) J (t.ok d (Am hd)) (t.rf _ _ _ d hd)).2 (by rw[e2];exact R);rw[H,this,e2]
  ·exact(t.out E j (by omega)).trans p
section
variable{w:World}{g:Gh}{s s':St}{a:Act}{P:Program}{Γ:aq}{m:Oper}{next:Act->World->Prop}{Q:Exit->Act->World->Prop}
def ark(g:Gh)(s:St)(w:World)(a:Act)(s':St)(next:Act->World->Prop):Prop:=
 ∀a' w' b,SR b s' w' a'->FRW g s.hp w b s'.hp w'->a'.defers=a.defers->next a' w'
def aox(P:Program)(n:Nat)(x v:ASrc)(m:Oper):Bool:=match m.dst with
 |none=>(match m.op with| .store t d b=>(fe P t==some n)&&(aH x d&&aH v b)|_=>false)
 |_=>false
theorem avv(hz:Zed){n:Nat}{x v:ASrc}(A:aox P n x v m=true)(hs:(WOp.ste n x v).step Γ s=some (true,s'))(h:SR g s w a)(hn:ark g s w a s' next):m.wp P a w next Q:=by
 obtain⟨dst,op,ty,pos,b3,gd⟩:=m;unfold aox at A;simp only at A;split at A
 ·split at A
  ·rename_i t x' C;simp only[Ac,beq_iff_eq] at A;obtain⟨h1,h2,h3⟩:=A;have r1:=aP h2 h.er;have r2:=aP h3 h.er;simp only[WOp.step] at hs;split at hs
   ·rename_i cs hx;simp only[Ai,Ao,Ac,Nat.ble_eq] at hs;obtain⟨⟨a1,p,G,S⟩,rfl⟩:=hs;have p:(v.ev s).cells.map disown=cs.take n:=by simpa [aub] using p
    simp only[at9,Ac,Ap,Cu] at G;obtain⟨G,c0,J,y⟩:=G;rw[hx] at r1;generalize b2:a.eval x'=cx at r1;cases r1 with
    |ea _ b o f Z hI hw hv=>
    have H:∀c∈cs.take n,c.cellS=true∧∀z,c≠.int .u8 z:=by
     intro c B;have:=G c B;split at this;·cases this
     ·rename_i M;exact⟨this,λz e=>M z e⟩
    have O:∀c∈cs.take n,c.one=true:=λc B=>Z c (Bn B)
    have al:(v.ev s).cells.all V.one=true:=by
     refine Ap.2 λc B=>?_
     have:disown c∈cs.take n:=by rw[<-p];exact CT B
     rw[<-lO];exact O _ this
    obtain⟨c1,c2,c3⟩:=wv r2 al;have b0:(v.ev s).cells.length=n:=by have:=congrArg Aa p;simpa [Nat.min_eq_left a1] using this
    have X:(a.eval C).cells.size=n:=by rw[<-c1];exact b0
    have bY:(a.eval C).cells.toList.length=n:=by simpa using X
    have bl:(cs.take n).length=n:=by simp[Nat.min_eq_left a1]
    have q:∀j,j<n->j<cs.length:=λj i=>by omega
    have F:∀j (i:j<n),(cs.take n)[j]? =some (cs[j]'(q j i)):=by intro j i;rw[A3];simp[i,Ab (q j i)]
    have es:0<n:=by
     rcases DK n with e|e;·rw[e] at J;simp at J
     ·exact e
    obtain⟨R,e,fz,hb⟩:∃R e fz,w.heap[b]? =some (.cells R e fz):=by
     have:=hw 0 (by omega);unfold Bv at this;split at this;·exact⟨_,_,_,by assumption⟩
     ·cases this
    have a0:∀j,j<n->w.frozen? ⟨b,o+j,none⟩=false:=by
     intro j i;cases hq:w.frozen? ⟨b,o+j,none⟩ with
     |false=>rfl
     |true=>obtain⟨z,ar⟩:=(h.hr.exI b (o+j) (hI j (q j i))).2 hz hq;rw[hw j (q j i)] at ar;have k:=hv j _ (Ab (q j i));rw[Ax ar] at k;have hm:cs[j]'(by omega)∈cs.take n:=Am (F j i);obtain⟨q1,q2⟩:=H _ hm;generalize cs[j]'(by omega)=c at k q1 q2;cases k<;>first|exact absurd rfl (q2 _)|simp[V.cellS] at q1
    have E:∀j,j<n->(w.cell? ⟨b,o+j,none⟩).isSome=true:=λj i=>by rw[hw j (q j i)];rfl
    have W:(execOp a.eval ⟨none,.store t x' C,ty,pos,b3,gd⟩).run P w=.ok .skip (w.setCells b o (a.eval C).cells.toList):=by
     have:=run_storeCells_cells (P:=P) b o (a.eval C).cells.toList 0 w
      (λj i=>by have:=E j (by omega);simpa using this)
      (λj i=>by have:=a0 j (by omega);simpa using this)
      (λu hu=>by
       obtain⟨j,i,rfl⟩:=A0.1 hu;have D:j<(v.ev s).cells.length:=by rw[c1];simpa using i
       exact(c3 j _ _ (Ab D) (by simp)).oneCell (c2 _ (Bf D)))
     simp[execOp,b2,DW,BZ,storeVar,nL h1,X,this]
    obtain⟨⟨ci,q1,q2⟩,q3,q4,q5,q6,q7⟩:=kc b (a.eval C).cells.toList o w R e fz hb;have ht:jg g.I w (w.setCells b o (a.eval C).cells.toList) b o n (cs.take n) f (λj=>(a.eval C).cells.toList.getD j undef):=by
     refine⟨?_,?_,λj i=>hw j (q j i),bl,λc B=>(H c B).1,?_,?_⟩
     ·intro b' j ae;refine Bp b _ o w _ ?_;intro an _;simp only at an ⊢;subst an;rw[bY];rcases ae with M|Y|b1;·exact absurd rfl M
      ·exact .inl Y
      ·exact .inr b1
     ·intro j i;have:=BQ b (a.eval C).cells.toList o w (λj' D=>E j' (by omega)) j (by omega);rw[this,An,Ab];rfl
     ·intro ρ N j c A;have i:j<n:=by have:=(Ad.1 A).1;omega
      rw[F j i] at A;obtain rfl:=Ax A;have k:=hv j _ (Ab (q j i));refine k.flat1 ?_;have:=(H _ (Am (F j i))).1;revert this;generalize cs[j]'(by omega)=c;cases c<;>simp[V.cellS,V.flat1]
     ·intro ρ N j c A;have i:j<n:=by have:=(Ad.1 A).1;omega
      have ad:=A;rw[<-p,AA,Aq] at ad;obtain⟨d,hd,rfl⟩:=ad;have L:j<(a.eval C).cells.toList.length:=by omega
      have k:=(c3 j d ((a.eval C).cells[j]'(by simpa using L)) hd (by simp)).disown;have e1:(a.eval C).cells.toList.getD j undef=(a.eval C).cells[j]'(by simpa using L):=by rw[An,Ab L];simp
      show VRel g.I ρ N w (disown d) ((a.eval C).cells.toList.getD j undef);rw[e1];refine k.flat1 ?_;have:=(H _ (Am A)).1;revert this;generalize disown d=c;cases c<;>simp[V.cellS,V.flat1]
    have bn:∃j,j<n∧yK (f j)=true:=by
     obtain⟨j,i,rfl⟩:=A0.1 J;have D:j<n:=by omega
     refine⟨j,D,?_⟩;have k:=hv j _ (Ab (q j D));have e1:(cs.take n)[j]=cs[j]'(by omega):=by simp
     rw[e1] at y;revert y k;generalize cs[j]'(by omega)=c;intro y k;split at y;·exact aou k
     ·cases y
    obtain⟨k1,k2⟩:=auG h ht (λj i=>hI j (q j i)) S hb q1 q3 q4 q5 q6 q7 a0 bn;unfold C7;rw[W];exact hn _ _ _ k1 k2 rfl
   ·cases hs
  ·cases A
 ·cases A
end
def yb(P:Program)(f:FuncId)(vs:List V)(v:V):Prop:=∃hp':List ai,∀(w:World)(g:Gh)(b:Array Value),tV P g w->HR g [] w->vs.length=b.size->(∀x∈vs,x.bare=true)->
    (∀(i:Nat) x cv,vs[i]? =some x->b[i]? =some cv->VRel g.I g.ρ 0 w x cv)->
    Calls P f b w λe w'=>∃cv d,e=.returned cv∧HR d hp' w'∧FRW g [] w d hp' w'∧VRel d.I d.ρ hp'.length w' v cv∧ap d w' .res v cv
def abN(k:Nat)(W:Nat->List V->Option (Bool×V))(Γ:aq):aq:=λf vs hp=>cond (Cs k f) ((W (f-k) vs).map λp=>(p.1,p.2,hp)) (Γ f vs hp)
def jR(W:Nat->List V->Option (Bool×V))(Γ:aq):aq:=abN WX W Γ
theorem arl{k:Nat}{W:Nat->List V->Option (Bool×V)}{Γ:aq}{f:Nat}{vs:List V}{hp:List ai}:abN k W Γ (k+f) vs hp=(W f vs).map λp=>(p.1,p.2,hp):=by unfold abN;rw[show Cs k (k+f)=true from by rw[Nat.ble_eq];exact Dg k f,cond_true,Nat.add_sub_cancel_left]
theorem aji{k:Nat}{W:Nat->List V->Option (Bool×V)}{Γ:aq}{f:Nat}{vs:List V}{hp:List ai}(h:Cs k f=false):abN k W Γ f vs hp=Γ f vs hp:=by unfold abN;rw[h,cond_false]
def aoy(P:Program)(W:Nat->List V->Option (Bool×V)):Prop:=∀f vs v,W f vs=some (true,v)->yb P f vs v∧vs.all V.flat=true∧v.flat=true∧(match v with| .tup _=>true|v=>v.bare)=true
def IOp.strong:IOp->Bool
 | .call _ f _| .callz _ f _=> !(Cs WX f)
 |_=>true
def nn(l:List GOp):Bool:=l.all λx=>x.o.strong
section
variable{w:World}{g:Gh}{s s':St}{a:Act}{P:Program}{Γ:aq}{W:Nat->List V->Option (Bool×V)}{m:Oper}{next:Act->World->Prop}{Q:Exit->Act->World->Prop}
theorem arm{o:IOp}(h:o.strong=true)(s:St):step (jR W Γ) o s=step Γ o s:=by
 cases o with
 |call d f avs=>
  have b:Cs WX f=false:=by simpa [IOp.strong] using h
  simp only[step,jR,aji b]
 |callz d f avs=>
  have b:Cs WX f=false:=by simpa [IOp.strong] using h
  simp only[step,jR,aji b]
 |_=>rfl
theorem apO{x:GOp}(h:x.o.strong=true)(s:St):cX (jR W Γ) x s=cX Γ x s:=by unfold cX stepO;simp only[arm h]
theorem np{R:Type}:∀(l:List GOp),nn l=true->∀(K:St->Option R)(s:St),runOps (jR W Γ) l K s=runOps Γ l K s
 | [],_,K,s=>rfl
 |x::l,h,K,s=>by
  simp only[nn,Cm,Ac] at h;rw[mZ,mZ,apO h.1];cases cX Γ x s with
  |none=>rfl
  |some s'=>exact np l h.2 K s'
theorem atG{I I':Nat->Nat->Prop}{ρ ρ':Nat->Nat}{N N':Nat}{w w':World}{c:V}{cv:Value}(d:(match c with| .int .. | .bool _| .str _| .nilp=>true|_=>false)=true)(b:VRel I ρ N w c cv):yK cv=false∧VRel I' ρ' N' w' c cv:=by
 cases c<;>simp at d;·cases b;exact⟨rfl,.bool _⟩
 ·cases b;exact⟨rfl,.int _ _ (by assumption)⟩
 ·cases b;exact⟨rfl,.str _ _ (by assumption) (by assumption)⟩
 ·cases b;exact⟨rfl,.nilp⟩
theorem atH{k:EK}(b:k.hard=true)(x:Ty k):∃c,enc k x=[c]∧(match c with| .int .. | .bool _| .str _| .nilp=>true|_=>false)=true:=by cases k<;>simp[EK.hard] at b<;>exact⟨_,rfl,rfl⟩
theorem al7{I I':Nat->Nat->Prop}{ρ ρ':Nat->Nat}{N N':Nat}{w w':World}(R:∀b j,I b j->I' b j)(hc:∀b j v,I b j->w.cell? ⟨b,j,none⟩=some v->yK v=false->w'.cell? ⟨b,j,none⟩=some v)
  (M:∀(c:V)(cv:Value),c.cellS=true->VRel I ρ N w c cv->VRel I' ρ' N' w' c cv)
  {v:V} {cv:Value} (G:v.hard1=true) (hp:∀id o,v=.ptr id o->id<N'∧ρ' id=ρ id) (h:VRel I ρ N w v cv):VRel I' ρ' N' w' v cv:=by
 by_cases t:v.cellS=true;·exact M v cv t h
 cases h with
 |undef=>exact .undef _
 |bool b=>exact .bool b
 |int k n h=>exact .int k n h
 |str l s A h=>exact .str l s A h
 |nilp=>exact .nilp
 |nilif=>exact .nilif
 |ptr id o h=>obtain⟨O,Y⟩:=hp id o rfl;rw[<-Y];exact .ptr id o O
 |sln k o=>exact .sln k o
 |sle k o X H=>exact .sle k o X H
 |sl k o xs b C len cap A y B Z f E J S=>
  have L:k.hard=true:=by cases k<;>cases o<;>simp[V.hard1,EK.hard,V.cellS] at G t ⊢ <;>rename_i q<;>cases q<;>simp_all [V.hard1,V.cellS]
  have F:∀(i:Nat) x (j:Nat) c,xs[i]? =some x->(enc k x)[j]? =some c->yK (f i j)=false∧VRel I' ρ' N' w' c (f i j):=by
   intro i x j c p d;obtain⟨c',e,hs⟩:=atH L x;have D:=S i x j c p d;rw[e] at d;cases j with
   |zero=>simp at d;subst d;exact atG hs D
   |succ j=>simp at d
  exact .sl k o xs b C len cap A y B Z f (λi x j p u=>R _ _ (E i x j p u)) (λi x j p u=>hc _ _ _ (E i x j p u) (J i x j p u) (F i x j _ p (Ab u)).1) (λi x j c p d=>(F i x j c p d).2)
 |_=>simp[V.hard1] at G
theorem atI{I I':Nat->Nat->Prop}{ρ ρ':Nat->Nat}{N N':Nat}{w w':World}(C:∀b j,I b j->I' b j)(J:∀b j v,I b j->w.cell? ⟨b,j,none⟩=some v->yK v=false->w'.cell? ⟨b,j,none⟩=some v)
  (G:∀(c:V)(cv:Value),c.cellS=true->VRel I ρ N w c cv->VRel I' ρ' N' w' c cv)
  (R:∀b j v,I b j->w.cell? ⟨b,j,none⟩=some v->∃E,w'.cell? ⟨b,j,none⟩=some E∧∀c:V,c.cellS=true->VRel I ρ N w c v->VRel I' ρ' N' w' c E)
  {v:V} {cv:Value} (q:v.hard=true) (hp:∀(u:V)(cv:Value)(id o:Nat),VRel I ρ N w u cv->u=.ptr id o->id<N'∧ρ' id=ρ id) (h:VRel I ρ N w v cv):VRel I' ρ' N' w' v cv:=by
 cases v with
 |agg l=>
  simp only[V.hard,Ap] at q;cases h with
  |agg _ vs O B L t=>exact .agg l vs O B L λi c cv D H=>al7 C J G (q c (Am D)) (λid o e=>hp c cv id o (t i c cv D H) e) (t i c cv D H)
 |ea l=>
  simp only[V.hard,Ap] at q;cases h with
  |ea _ x f g B F M t=>
   have key:∀j,j<l.length->∃y,w'.cell? ⟨x,f+j,none⟩=some y∧∀c,l[j]? =some c->VRel I' ρ' N' w' c y:=by intro j k;obtain⟨y,p,A⟩:=R x (f+j) _ (F j k) (M j k);exact⟨y,p,λc d=>A c (q c (Am d)) (t j c d)⟩
   refine .ea l x f (λj=>(w'.cell? ⟨x,f+j,none⟩).getD undef) B (λj k=>C _ _ (F j k)) ?_ ?_;·intro j k;obtain⟨y,p,_⟩:=key j k;rw[p];rfl
   ·intro j c d;obtain⟨y,p,A⟩:=key j (Ad.1 d).1;rw[p];exact A c d
 |_=>exact al7 C J G q (λid o e=>hp _ cv id o h e) h
theorem aoz{v:V}(d:v.hard=true)(g:Gh)(w:World)(b:Occ)(cv:Value):ap g w b v cv:=by
 cases v with
 |sl k o l=>cases o<;>cases k<;>simp[V.hard,V.hard1] at d<;>simp[ap]
 |raw=>simp[V.hard,V.hard1] at d
 |ul=>simp[V.hard,V.hard1] at d
 |_=>simp[ap]
def aoA(P:Program)(d f:Nat)(avs:List ASrc)(m:Oper):Bool:=(m.dst==some d)&&(match afx m.op with|some (e,b)=>f==e&&(wz avs b&&yB P f)|none=>false)
theorem avw(hT:nR=[])(hW:aoy P W)(bY:g.β=gM P){d f:Nat}{avs:List ASrc}(t:aoA P d f avs m=true)(Z:(WOp.call d f avs).step (jR W Γ) s=some (true,s'))(h:SR g s w a)(hn:ark g s w a s' next):m.wp P a w next Q:=by
 obtain⟨dst,op,ty,pos,b3,gd⟩:=m;simp only[aoA,Ac,beq_iff_eq] at t;obtain⟨rfl,t⟩:=t;split at t
 ·rename_i f' H b5;obtain⟨ts,rfl⟩:=ahv b5;simp only[Ac,beq_iff_eq] at t;obtain⟨rfl,h1,S⟩:=t;simp only[WOp.step,jR,arl] at Z;cases hg:W f (avs.map λx=>disown (x.ev s)) with
  |none=>rw[hg] at Z;simp at Z
  |some p=>
  obtain⟨c,v⟩:=p;rw[hg] at Z;simp only[BE,Ai,Ao] at Z;obtain⟨rfl,rfl⟩:=Z;obtain⟨⟨hp',bx⟩,a5,ar,a9⟩:=hW _ _ _ hg;obtain⟨k1,k2⟩:=ah0 h.er avs H h1;have al:(execOp a.eval ⟨some d,.call ⟨.value (.func f),⟨H⟩,ts⟩,ty,pos,b3,gd⟩).run P w=.ok (.enter f (H.map a.eval).toArray) w:=by
   unfold yB at S;split at S
   ·rename_i fn a0;simp only[Ac,bne_iff_ne,ne_eq] at S;obtain⟨h3,h4⟩:=S;have N:fn.body.isNone=false:=by cases Y:fn.body<;>simp_all
    simp[execOp,resolve,Act.eval,Deferred.ofValue,invoke,callFunc,a0,h4,N];intro b4;rw[b4] at h3;simp at h3
   ·simp at S
  unfold C7;rw[al,Oper.upon_enter];let g₀:Gh:={I:=g.I,ρ:=g.ρ,O:=λ_=>none,β:=g.β}
  have h0:HR g₀ [] w:=⟨by simp,by simp,by simp,by simp,h.hr.exI,by simp[g₀]⟩
  refine(bx w g₀ (H.map a.eval).toArray ⟨bY,λX=>absurd hT X⟩ h0 (by simp[k1]) (by intro x hx;obtain⟨y,_,rfl⟩:=AG.1 hx;exact eH _) (λi x cv hx B=>(k2 i x cv hx (by simpa using B)).flat (Ap.1 a5 x (Am hx)))).mono ?_;rintro e w' ⟨cv,g₁,rfl,q1,A,q3,q4⟩;simp only;let q:Gh:={I:=g₁.I,ρ:=g.ρ,O:=λ_=>none,β:=g.β}
  have bl:∀(id:Nat) cs,s.hp[id]? =some (some cs)->ari g₀ w (g.ρ id):=λid cs k j J=>absurd J (h.hr.notI id cs k j)
  have an:∀(id:Nat) cs,s.hp[id]? =some (some cs)->g.ρ id<w.heap.size:=λid cs k=>(h.hr.obj id cs k).lt
  have F:∀b j,b<w.heap.size->g₁.I b j->g.I b j:=λb j Y J=>A.iSame b j Y (by simp) rfl J
  have hp:∀(v:V)(cv:Value)(id o:Nat),VRel g.I g.ρ s.hp.length w v cv->v=.ptr id o->id<s.hp.length∧q.ρ id=g.ρ id:=by rintro v cv id o G rfl;cases G;exact⟨by assumption,rfl⟩
  have tr:∀(v:V)(cv:Value),v.hard=true->VRel g.I g.ρ s.hp.length w v cv->VRel q.I q.ρ s.hp.length w' v cv:=
   λv cv G hr=>atI A.mono A.cell (λc cv t hr=>A.reads _ _ _ _ c cv t hr) (λb j v J G=>by obtain⟨v',a1,L⟩:=A.turn b j v J G;exact⟨v',a1,λc t hr=>L _ _ _ _ c t hr⟩) G hp hr
  have E:∀(id:Nat) cs,(s.hp.map yn)[id]? =some (some cs)->s.hp[id]? =some (some cs)∧∀c∈cs,c.hard=true∧c.one=true:=by
   intro id cs k;rw[AA,Aq] at k;obtain⟨o,ho,he⟩:=k;unfold yn at he;split at he;·rename_i M;subst he;simp only[aua,Ap,Ac] at M;exact⟨ho,M⟩
   ·cases he
  have C:(s.hp.map yn).length=s.hp.length:=by simp
  have bs:SR q ⟨s.env.map V.harden,s.hp.map yn⟩ w' a:=by
   refine⟨⟨?_,?_,?_,λ_ _ _=>rfl,q1.exI,by simp[q]⟩,⟨by simp[h.er.size],?_,?_⟩⟩
   ·intro id cs k;obtain⟨k,R⟩:=E id cs k;have D:cF cs=false:=alI λc t=>(R c t).2
    rw[C];refine(h.hr.obj id cs k).keep (A.block _ (an id cs k) (by simp) rfl (bl id cs k)) λdp e fz a1 L=>⟨L.len,L.plain,?_,L.cold,L.one,?_,?_,L.bn⟩
    ·rw[mh D];simp
    ·intro j c cv t B;have ad:=t;rw[eM D] at ad;exact tr c cv (R c (Am ad)).1 (L.rel j c cv t B)
    ·intro j c cv t B;rw[eM D] at t;exact aoz (R c (Am t)).1 _ _ _ _
   ·intro id b1 cs b2 h1 S X;exact h.hr.apart id b1 cs b2 (E _ _ h1).1 (E _ _ S).1 X
   ·intro id cs k j J;have k:=(E id cs k).1;exact h.hr.notI id cs k j (F _ j (an id cs k) J)
   ·intro n v cv G B;simp only[AA,Aq] at G;obtain⟨u,hu,rfl⟩:=G;rw[C];unfold V.harden;split;·rename_i M;exact tr u cv M (h.er.rel n u cv hu B)
    ·exact .undef _
   ·intro n v cv G B;simp only[AA,Aq] at G;obtain⟨u,hu,rfl⟩:=G;unfold V.harden;split;·rename_i M;exact aoz M _ _ _ _
    ·simp[ap]
  refine hn _ _ q (bs.set d (q3.flat ar) ?_) ?_ rfl
  ·cases v with
   |tup=>simp[ap]
   |_=>exact kP a9 _ _ _ _
  ·refine⟨rfl,A.os,A.tape,A.output,A.size,λb Y _ _ M=>A.block b Y (by simp) rfl M,A.mono,A.cell,λ_ _=>rfl,by show s.hp.length<=(s.hp.map yn).length;rw[C];exact Ar _,λb j Y _ _ J=>F b j Y J,λ_ _ _ _=>rfl,λid cs k=>.inl ⟨cs,(E id cs k).1⟩,A.reads,A.turn⟩
 ·simp at t
end
section
variable{w:World}{g:Gh}{s s':St}{a:Act}{P:Program}{Γ:aq}{W:Nat->List V->Option (Bool×V)}{imp:List Nat}
structure sT(g₀:Gh)(hp₀:List ai)(w₀:World)(g:Gh)(s:St)(w:World)(a:Act):Prop where
 sr:SR g s w a
 fr:FRW g₀ hp₀ w₀ g s.hp w
 df:a.defers=[]
theorem sT.on{g₀:Gh}{hp₀:List ai}{w₀:World}{g₁:Gh}{d:St}{w₁:World}{b:Act}(h:sT g₀ hp₀ w₀ g s w a)(k:Inv g s.hp w [] g₁ d w₁ b):sT g₀ hp₀ w₀ g₁ d w₁ b:=⟨k.sr,h.fr.trans k.fr.toW,k.df⟩
theorem sT.inv{g₀:Gh}{hp₀:List ai}{w₀:World}(h:sT g₀ hp₀ w₀ g s w a):Inv g s.hp w [] g s w a:=⟨h.sr,FR.refl _ _ _,h.df⟩
theorem sT.base{g₀:Gh}{hp₀:List ai}{w₀:World}(h:sT g₀ hp₀ w₀ g s w a)(e:nR=[])(b:g₀.β=gM P):tW P g s.hp w:=⟨⟨h.fr.beta.trans b,λd=>absurd e d⟩,h.sr.hr.notI⟩
theorem sT.keeps{g₀:Gh}{hp₀:List ai}{w₀:World}(h:sT g₀ hp₀ w₀ g s w a)(b:List Nat){n:Nat}(e:hp₀.length<=n):sT g₀ hp₀ w₀ g (s.keep b n) w a:=
 ⟨h.sr.keeps b n,⟨h.fr.beta,h.fr.os,h.fr.tape,h.fr.output,h.fr.size,h.fr.block,h.fr.mono,h.fr.cell,h.fr.rho,an4 e h.fr.num,h.fr.iSame,h.fr.oSame,λid cs d=>h.fr.live id cs (an3 d),h.fr.reads,h.fr.turn⟩,h.df⟩
def ajj(P:Program)(o:WOp)(m:Oper):Bool:=(match m.guard with|none=>true|_=>false)&&(match o with
 | .ste n x v=>aox P n x v m
 | .call d f avs=>aoA P d f avs m)
theorem asy(k:Zed)(p:nR=[])(q:aoy P W)(b:g.β=gM P){o:WOp}{m:Oper}{next:Act->World->Prop}{Q:Exit->Act->World->Prop}(e:ajj P o m=true)(j:o.step (jR W Γ) s=some (true,s'))(h:SR g s w a)(i:ark g s w a s' next):m.wp P a w next Q:=by
 simp only[ajj,Ac] at e;cases o with
 |ste n x v=>exact avv k e.2 j h i
 |call d f avs=>exact avw p q b e.2 j h i
def anE(b:Array Oper)(k j:Nat):Bool:=match b[j]? with
 |some m=>m.after.toList.all (λe=> !Region.binds .any e||decide (e.on<j))&&(AU j).all λi=>(B9 k j&& !Nat.beq (i+1) j)||m.after.toList.any λe=>BU .any e&&e.on==i
 |none=>false
theorem aa2{d:Array Oper}{k j:Nat}(h:anE d k j=true):∃m,d[j]? =some m∧(∀e∈m.after,BU .any e=true->e.on<j)∧∀i,i<j->(k<j->i+1=j)->∃e∈m.after,BU .any e=true∧e.on=i:=by
 unfold anE at h;split at h
 ·rename_i m q;simp only[Ac] at h;refine⟨m,q,λe o b=>?_,λi p t=>?_⟩;·have:=Ap.1 h.1 e (by simpa using o);simpa [b] using this
  ·have:=Ap.1 h.2 i (AZ.2 p);have f:(B9 k j&& !Nat.beq (i+1) j)=false:=by
    cases b:B9 k j with
    |false=>rfl
    |true=>simp[t (by simpa [Cp] using b)]
   rw[f,B8] at this;obtain⟨e,o,b⟩:=Cu.1 this;simp only[Ac,beq_iff_eq] at b;exact⟨e,by simpa using o,b.1,b.2⟩
 ·cases h
theorem aoB{k0:Nat}{d:Array Oper}{Q:Exit->Act->World->Prop}:∀(n k:Nat)(b:Array Bool)(a:Act)(w:World),k+n=d.size->(k0<=k∧∀j,k<=j->j<d.size->anE d k0 j=true)->b.size=d.size->(∀i,i<k->b.getD i false=true)->(∀i,k<=i->i<d.size->b.getD i true=false)->
  wpOps P d Q (Bm k n) a w->wpAny P .any d Q n b a w
 |0,k,b,a,w,N,y,D,C,G,h=>by
  refine⟨?_,by simpa [wpOps] using h⟩;rw[Dt];intro j A;obtain⟨u,o,v,_⟩:=mem_ready.1 A;have f:j<d.size:=(AQ.1 v).1;have p:=C j (by omega);have q:j<b.size:=by omega
  simp[Bg,q] at u p;rw[u] at p;cases p
 |n+1,k,b,a,w,N,y,D,C,G,h=>by
  have key:∀j,j∈C2 .any d b->j=k:=by
   intro j A;obtain⟨u,o,v,hd⟩:=mem_ready.1 A;have f:j<d.size:=(AQ.1 v).1;have q:j<b.size:=by omega
   rcases CG j k with p|p|p;·have t:=C j p;simp[Bg,q] at u t;rw[u] at t;cases t
   ·exact p
   ·obtain⟨m,M,_,B⟩:=aa2 (y.2 j (by omega) f);rw[M] at v;cases v;obtain⟨e,J,H,L⟩:=B (j-1) (by omega) (by omega);have t:=hd e J H;rw[L] at t;have I:=G (j-1) (by omega) (by omega);have x:j-1<b.size:=by omega
    simp[Bg,x] at t I;rw[t] at I;cases I
  have F:k∈C2 .any d b:=by obtain⟨m,M,f,_⟩:=aa2 (y.2 k (Ar _) (by omega));exact mem_ready.2 ⟨G k (Ar _) (by omega),m,M,λe J H=>C _ (f e J H)⟩
  refine⟨λe=>?_,λj A=>?_⟩;·rw[e] at F;simp at F
  ·obtain rfl:=key j A;rw[Cv,wpOps_cons] at h;refine wpOp_mono (λa' w' O=>?_) h;refine aoB n (j+1) _ a' w' (by omega) ⟨by have:=y.1;omega,λi u p=>y.2 i (by omega) p⟩ (by simpa using D) ?_ ?_ O
   ·intro i R;by_cases E:i=j
    ·subst E;have f:i<b.size:=by omega
     simp[Bg,f]
    ·rw[getD_set_ne false (λe=>E e.symm)];exact C i (by omega)
   ·intro i u p;rw[getD_set_ne true (by omega)];exact G i (by omega) p
def adr(P:Program)(imp:List Nat)(b:Array Oper)(l:List GOp)(pre:List (List Nat)):Bool:=
 (P.follows .mixedOrders&&rF P b 0 l)&&(((AU l.length).all λj=>
  (match b[j]? with
   |some m=>m.after.toList.all (λe=> !Region.binds .any e||decide (e.on<j))&&(pre.getD j []).all (λi=>m.after.toList.any λe=>BU .any e&&(e.on==i||(pre.getD e.on []).contains i))
   |none=>false)&&
  (match l[j]? with
   |some x=>(AU j).all λi=>(pre.getD j []).contains i||(match l[i]? with|some y=>ac1 imp y x|none=>false)
   |none=>false))&&((AU b.size).all λj=>decide (j<l.length)||anE b l.length j))
theorem ajk{b:Array Oper}:∀(l:List GOp)(i:Nat),rF P b i l=true->∀(k:Nat) x,l[k]? =some x->∃m,b[i+k]? =some m∧ac4 P b x m=true
 | [],i,h=>by simp
 |x::l,i,h=>by
  simp only[rF,Ac] at h;obtain⟨e,o⟩:=h;intro k y d;cases k with
  |zero=>
   simp at d;subst d;split at e;·exact⟨_,by simpa using (by assumption),e⟩
   ·cases e
  |succ k=>obtain⟨m,f,j⟩:=ajk l (i+1) o k y (by simpa using d);exact⟨m,by rw[<-f];congr 1;omega,j⟩
theorem arn(ci:ca P Γ){g₀:Gh}{hp₀:List ai}{w₀:World}(c2:tW P g₀ hp₀ w₀){imp:List Nat}(hP:cI Γ imp){R:Type}{K:St->Option R}{r:R}{f:Array Oper}{l:List GOp}{pre:List (List Nat)}(hc:adr P imp f l pre=true){n:Nat}(b4:f.size=l.length+n){df:List Deferred}{Q:Exit->Act->World->Prop}
  (hQ:∀(b:Array Bool) s g w a,b.size=f.size->(∀i,i<l.length->b.getD i false=true)->(∀i,l.length<=i->i<f.size->b.getD i true=false)->K s=some r->Inv g₀ hp₀ w₀ df g s w a->wpAny P .any f Q n b a w):∀(k:Nat)(q:List Nat)(b:Array Bool)(s:St)(g:Gh)(w:World)(a:Act),
   q.length=k->q.Pairwise (·<·)->(∀i,i∈q↔i<l.length∧b.getD i true=false)->b.size=f.size->(∀i,l.length<=i->i<f.size->b.getD i true=false)->(∀j,j<l.length->j ∉ q->∀i∈pre.getD j [],i ∉ q)->
   runOps Γ (q.filterMap λi=>l[i]?) K s=some r->Inv g₀ hp₀ w₀ df g s w a->wpAny P .any f Q (k+n) b a w:=by
 simp only[adr,Ac] at hc;obtain⟨⟨-,c4⟩,bx,b3⟩:=hc;have ae:=ajk l 0 c4;simp only[Be] at ae
 have hj:∀j,j<l.length->∃m x,f[j]? =some m∧l[j]? =some x∧ac4 P f x m=true∧(∀e∈m.after,BU .any e=true->e.on<j)∧
   (∀i∈pre.getD j [],∃e∈m.after,BU .any e=true∧(e.on=i∨i∈pre.getD e.on []))∧(∀i,i<j->i∈pre.getD j []∨∃y,l[i]? =some y∧ac1 imp y x=true):=by
  intro j D;have h0:=Ap.1 bx j (AZ.2 D);simp only[Ac] at h0;obtain⟨d,E⟩:=h0;have hx:l[j]? =some l[j]:=Ab D;obtain⟨m,H,X⟩:=ae j _ hx;rw[H] at d;rw[hx] at E;simp only[Ac] at d;refine⟨m,l[j],H,hx,X,?_,?_,?_⟩;·intro e G t;have:=Ap.1 d.1 e (by simpa using G);simpa [t] using this
  ·intro i hi;have:=Ap.1 d.2 i hi;obtain⟨e,G,t⟩:=Cu.1 this;simp only[Ac,A7,beq_iff_eq,B1] at t;exact⟨e,by simpa using G,t.1,t.2⟩
  ·intro i hi;have:=Ap.1 E i (AZ.2 hi);simp only[A7,B1] at this;rcases this with v|v;·exact .inl v
   ·right;split at v;·rename_i y hy;exact⟨y,hy,v⟩
    ·simp at v
 have M:∀(q:List Nat)(b:Array Bool),(∀i,i∈q↔i<l.length∧b.getD i true=false)->b.size=f.size->∀j m,j<l.length->f[j]? =some m->(j∈C2 .any f b↔j∈q∧∀e∈m.after,BU .any e=true->e.on<l.length∧e.on ∉ q):=by
  intro q b p I j m D H;obtain⟨m',x',O,_,_,al,_,_⟩:=hj j D;rw[H] at O;cases O;have key:∀i,i<l.length->(b.getD i false=true↔i<l.length∧i ∉ q):=by
   intro i E;rw[p i];have d:i<b.size:=by omega
   simp[Bg,d,E]
  rw[mem_ready,p j];constructor;·rintro⟨d,o,Y,E⟩;rw[H] at Y;cases Y;exact⟨⟨D,d⟩,λe G t=>(key _ (Nat.lt_trans (al e G t) D)).1 (E e G t)⟩
  ·rintro⟨⟨_,d⟩,E⟩;exact⟨d,m,H,λe G t=>(key _ (Nat.lt_trans (al e G t) D)).2 (E e G t)⟩
 intro k;induction k with
 |zero=>
  intro q b s g w a F J p I u L hr h;have:q=[]:=AT F;subst this;rw[Be];refine hQ b s g w a I (λi hi=>?_) u hr h;have E:i<b.size:=by omega
  have v:¬(i<l.length∧b.getD i true=false):=λhh=>absurd ((p i).2 hh) (by simp)
  simp[Bg,E] at v ⊢;cases hh:b[i] with
  |true=>rfl
  |false=>exact absurd hh (by simpa using v hi)
 |succ k ih=>
  intro q b s g w a F J p I u L hr h;rw[show k+1+n=(k+n)+1 by omega];simp only[wpAny];refine⟨?_,?_⟩
  ·intro dj;exfalso;cases q with
   |nil=>simp at F
   |cons j q=>
    have N:=((p j).1 (AY ..)).1;obtain⟨m,x,H,hx,X,G,hp,hi⟩:=hj j N;have:j∈C2 .any f b:=by
     refine(M _ b p I j m N H).2 ⟨AY ..,λe ar t=>?_⟩;have D:=G e ar t;refine⟨by omega,?_⟩;intro C;rcases AB.1 C with d|d;·omega
     ·have:=(C5.1 J).1 _ d;omega
    rw[dj] at this;simp at this
  ·intro j a2;obtain⟨hu,o,Y,_⟩:=mem_ready.1 a2;have N:j<l.length:=by
    rcases AH j l.length with d|d;·exact d
    ·exfalso;have cv:j<f.size:=(AQ.1 Y).1;have bn:=Ap.1 b3 j (AZ.2 cv);have c1:¬j<l.length:=by omega
     simp only[c1,decide_false,B8] at bn;obtain⟨m,H,_,bY⟩:=aa2 bn;rw[H] at Y;cases Y;cases q with
     |nil=>simp at F
     |cons i0 q=>
      obtain⟨q1,q2⟩:=(p i0).1 (AY ..);obtain⟨_,o2,bl,b0⟩:=mem_ready.1 a2;rw[H] at bl;cases bl;rcases AH l.length j with b6|b6
      ·obtain⟨e,G,t,an⟩:=bY (j-1) (by omega) (by omega);have v:=b0 e G t;rw[an] at v;have q3:=u (j-1) (by omega) (by omega);have h4:j-1<b.size:=by omega
       simp[Bg,h4] at q3 v;rw[q3] at v;cases v
      ·obtain⟨e,G,t,an⟩:=bY i0 (by omega) (by omega);have v:=b0 e G t;rw[an] at v;have h4:i0<b.size:=by omega
       simp[Bg,h4] at q2 v;rw[q2] at v;cases v
   obtain⟨dw,a1⟩:=(M q b p I j o N Y).1 a2;obtain⟨m,x,H,hx,X,G,hp,hi⟩:=hj j N;rw[H] at Y;cases Y;have bs:∀i∈pre.getD j [],i ∉ q:=by
    intro i S;obtain⟨e,ar,t,a0⟩:=hp i S;obtain⟨d1,d2⟩:=a1 e ar t;rcases a0 with rfl|a0;·exact d2
    ·exact L _ d1 d2 i a0
   obtain⟨A,B,rfl⟩:=List.append_of_mem dw;have hA:∀i∈A,i<j:=by intro i Z;exact(CO.1 J).2.2 i Z j (AY ..)
   have hB:∀i∈B,j<i:=by intro i c5;exact(C5.1 (CO.1 J).2.1).1 i c5
   rw[CM,CY hx] at hr;obtain⟨s',hg,a9⟩:=aqO hP _ s (by
    intro y hy;obtain⟨i,Z,cd⟩:=List.mem_filterMap.1 hy;rcases hi i (hA i Z) with d|⟨y',d,E⟩
    ·exact absurd (AN _ Z) (bs i d)
    ·rw[cd] at d;cases d;exact E) hr
   rw[<-CM] at a9;refine afA ci c2 H X hg h ?_;intro g' w' a' br;have C:∀i,i∈A++B↔i∈A++j::B∧i≠j:=by
    intro i;simp only[Az,AB];constructor
    ·rintro(d|d);·exact⟨.inl d,by have:=hA i d;omega⟩
     ·exact⟨.inr (.inr d),by have:=hB i d;omega⟩
    ·rintro⟨d|d|d,E⟩;·exact .inl d
     ·exact absurd d E
     ·exact .inr d
   refine ih (A++B) (b.setIfInBounds j true) s' g' w' a' ?_ ?_ ?_ (by simp[I]) ?_ ?_ a9 br;·simp only[Aj,Af] at F ⊢;omega
   ·exact J.sublist (D8 (List.sublist_cons_self ..) _)
   ·intro i;rw[C,p];by_cases a3:i=j
    ·subst a3;have b5:i<b.size:=by omega
     simp[Bg,b5]
    ·rw[getD_set_ne true (λe=>a3 e.symm)];simp[a3]
   ·intro i d E;rw[getD_set_ne true (by omega)];exact u i d E
   ·intro j' c0 a5 i S cy;obtain⟨d,E⟩:=(C i).1 cy;by_cases b1:j'=j;·subst b1;exact bs i S d
    ·exact L j' c0 (λO=>a5 ((C j').2 ⟨O,b1⟩)) i S d
end
def yr(P:Program)(b:Array Oper)(l mid:List GOp)(o:WOp)(d:List GOp):Bool:=
 rF P b l.length mid&&((match b[l.length+mid.length]? with|some m=>ajj P o m|none=>false)&&(rF P b (l.length+mid.length+1) d&&(b.size==l.length+mid.length+1+d.length)))
def ce(P:Program)(imp:List Nat)(base:Nat):IR->Code->Bool
 | .skip,c=>bd P imp base .skip c
 | .reg l pre,c=>nn l&&bd P imp 0 (.reg l pre) c
 | .wk l pre mid o b,.region _ e false=>(nn l&&(nn mid&&nn b))&&(yr P e l mid o b&&rF P e 0 l)
 | .wk l pre mid o b,.region _ e true=>(nn l&&(nn mid&&nn b))&&(yr P e l mid o b&&adr P imp e l pre)
 | .seq x y,.seq c d=>ce P imp base x c&&ce P imp base y d
 | .cond v x y,.cond u c d=>aH v u&&(ce P imp base x c&&ce P imp base y d)
 | .block i x,.block j c=>i==j&&ce P imp base x c
 | .loop _ q x,.loop c=>Cs base q&&ce P imp base x c
 | .cut _ q x,c=>Cs base q&&ce P imp base x c
 | .gh _ x,c=>ce P imp base x c
 | .ope _ x,c=>ce P imp base x c
 | .ghp _ x,c=>ce P imp base x c
 | .exit i,.exit j=>i==j
 | .ret,.ret=>true
 |_,_=>false
section
variable{w:World}{g:Gh}{s s':St}{a:Act}{P:Program}{Γ:aq}{W:Nat->List V->Option (Bool×V)}{imp:List Nat}
def ajl{R:Type}(g₀:Gh)(hp₀:List ai)(w₀:World)(K:Ex->St->Option R)(r:R)(e:Exit)(a:Act)(w:World):Prop:=
 ∃x s g,km x e∧K x s=some r∧sT g₀ hp₀ w₀ g s w a
theorem apP(a m k:Nat):Bm a (m+1+k)=Bm a m++(a+m)::Bm (a+m+1) k:=by
 have b:Bm a (m+1+k)=Bm a m++Bm (a+m) (1+k):=by rw[show m+1+k=m+(1+k) by omega,<-DN];simp
 rw[b,show 1+k=k+1 by omega,Cv]
theorem ajm(H:Zed)(u:nR=[])(k:ca P Γ)(O:aoy P W){g₀:Gh}{hp₀:List ai}{w₀:World}(e:g₀.β=gM P){R:Type}{K:Ex->St->Option R}{r:R}{q:Array Oper}{l mid b:List GOp}{o:WOp}(G:yr P q l mid o b=true)(t:nn mid=true)(x:nn b=true)
  {s:St} {g:Gh} {w:World} {a:Act} (E:runOps (jR W Γ) mid (λs=>match o.step (jR W Γ) s with|some (c,s')=>chk c (runOps (jR W Γ) b (K .normal) s')|none=>none) s=some r) (h:sT g₀ hp₀ w₀ g s w a):
  wpOps P q (ajl g₀ hp₀ w₀ K r) (Bm l.length (mid.length+1+b.length)) a w:=by
 simp only[yr,Ac] at G;obtain⟨X,j,N,h4⟩:=G;rw[np mid t] at E;rw[apP];refine wA k (h.base u e) (λs1 g1 w1 a1 i hi=>?_) mid l.length X s g w a E h.inv;split at j
 ·rename_i m Y;rw[wpOps_cons];unfold wpOp;rw[Y];simp only;have A:m.guard=none:=by
   simp only[ajj,Ac] at j;cases M:m.guard with
   |none=>rfl
   |some p=>rw[M] at j;simp at j
  rw[if_pos (by simp[Cz,A])];have d:=h.on hi;split at i
  ·rename_i c C B;obtain⟨rfl,i⟩:=ac5 i;rw[np b x] at i;refine .inl (asy H u O (d.fr.beta.trans e) j B d.sr ?_);intro D F t I S L;have f:sT g₀ hp₀ w₀ t C F D:=⟨I,d.fr.trans S,L.trans d.df⟩
   have:=wA (rest:=[]) (Q:=ajl g₀ hp₀ w₀ K r) k (f.base u e) (λJ x w3 Z y v=>(⟨.normal,J,x,trivial,y,f.on v⟩:ajl g₀ hp₀ w₀ K r .normal Z w3)) b _ N C t F D i f.inv;simpa using this
  ·cases i
 ·cases j
theorem gX(M:Zed)(I:nR=[])(A:ca P Γ)(O:aoy P W){g₀:Gh}{hp₀:List ai}{w₀:World}(B:g₀.β=gM P)(N:cI Γ imp)(n:Nat){R:Type}{base:Nat}(p:hp₀.length<=base){r:R}:∀(ir:IR)(c:Code),ce P imp base ir c=true->∀(K:Ex->St->Option R)(s:St)(a:Act)(w:World)(g:Gh),
  run (jR W Γ) n ir K s=some r->sT g₀ hp₀ w₀ g s w a->c.wp P (ajl g₀ hp₀ w₀ K r) a w
 | .bad,c,f,K,s,a,w,g,b,h=>by simp[run] at b
 | .rgs ..,c,f,K,s,a,w,g,b,h=>by cases c<;>simp[ce] at f
 | .skip,c,f,K,s,a,w,g,b,h=>by
   cases c<;>simp[ce,bd] at f;·exact wp_skip ⟨.normal,s,g,trivial,b,h⟩
   ·exact wp_label ⟨.normal,s,g,trivial,b,h⟩
 | .reg l pre,c,f,K,s,a,w,g,b,h=>by
   simp only[ce,Ac] at f;have br:run Γ n (.reg l pre) K s=some r:=by
    simp only[run] at b ⊢
    rwa [np l f.1] at b
   have a9:bd P imp s.hp.length (.reg l pre) c=true:=by
    have:=f.2;cases c with
    |region id X S=>cases S<;>simpa only[bd] using this
    |_=>simp[bd] at this
   refine wp_mono (iB (df:=[]) A (h.base I B) N n (Ar _) (.reg l pre) c a9 K s a w g br h.inv) ?_;rintro e a' w' ⟨x,s',C,F,D,E⟩;exact⟨x,s',C,F,D,h.on E⟩
 | .wk l pre mid o H,c,f,K,s,a,w,g,b,h=>by
   cases c with
   |region id X S=>
    simp only[run] at b;cases S with
    |false=>
     simp only[ce,Ac] at f;obtain⟨⟨g1,g2,g3⟩,J,Q⟩:=f;rw[np l g1] at b;have L:X.size=l.length+(mid.length+1+H.length):=by simp only[yr,Ac,beq_iff_eq] at J;omega
     refine wp_region ?_;rw[Dq,L,<-DN];simp only[Be,B4];refine wA A (h.base I B) (λs1 g1 w1 a1 D E=>?_) l 0 Q s g w a b h.inv;exact ajm M I A O B J g2 g3 D (h.on E)
    |true=>
     simp only[ce,Ac] at f;obtain⟨⟨g1,g2,g3⟩,J,Q⟩:=f;rw[np l g1] at b;have L:X.size=l.length+(mid.length+1+H.length):=by simp only[yr,Ac,beq_iff_eq] at J;omega
     have Z:=Q;simp only[adr,Ac] at Z;refine wp_region_any Z.1.1 ?_;rw[show X.size=l.length+(mid.length+1+H.length) from L];refine arn (g₀:=g) (hp₀:=s.hp) (w₀:=w) (df:=[]) A (h.base I B) N Q L (λY s1 g1 w1 a1 q1 q2 q3 D E=>?_) l.length (AU l.length) _ s g _ a (by simp) List.pairwise_lt_range ?_ (by simp[L]) ?_ ?_ (by rw[tX];exact b) h.inv.drew;·refine aoB (k0:=l.length) _ l.length Y a1 w1 L.symm ⟨Ar _,?_⟩ q1 q2 q3 (ajm M I A O B J g2 g3 D (h.on E));intro j h3 h4;have:=Ap.1 Z.2.2 j (AZ.2 h4);simpa [Nat.not_lt.2 h3] using this
     ·intro i;by_cases E:i<l.length
      ·have:i<l.length+(mid.length+1+H.length):=by omega
       simp[Bg,E,this]
      ·simp[E]
     ·intro i h3 h4;have:i<l.length+(mid.length+1+H.length):=by omega
      simp[Bg,this]
     ·intro j hj a0;exact absurd (AZ.2 hj) a0
   |_=>simp[ce] at f
 | .seq x y,c,f,K,s,a,w,g,b,h=>by
   cases c<;>simp[ce] at f;rename_i c d;refine wp_seq (wp_mono (gX M I A O B N n p x c f.1 _ s a w g b h) ?_);rintro e a' w' ⟨ex,s',C,F,D,E⟩;cases ex with
   |normal=>cases e<;>simp only[km] at F;exact gX M I A O B N n p y d f.2 K s' a' w' C D E
   |exit i=>cases e<;>simp only[km] at F;exact⟨.exit i,s',C,F,D,E⟩
   |ret=>cases e<;>simp only[km] at F;exact⟨.ret,s',C,trivial,D,E⟩
 | .cond v x y,c,f,K,s,a,w,g,b,h=>by
   cases c<;>simp[ce] at f;rename_i u c d;simp only[run] at b;split at b
   ·rename_i t ht;have rr:=aP f.1 h.sr.er;rw[ht] at rr;generalize bs:a.eval u=cv at rr;cases rr;refine wp_cond bs ?_;cases t with
    |true=>rw[ASrc.fix_eq ht] at b;exact gX M I A O B N n p x c f.2.1 K s a w g b h
    |false=>simp only[cond_false] at b;rw[ASrc.fix_eq ht] at b;exact gX M I A O B N n p y d f.2.2 K s a w g b h
   ·simp at b
 | .block i x,c,f,K,s,a,w,g,b,h=>by
   cases c<;>simp[ce] at f;rename_i j c;obtain⟨rfl,f⟩:=f;refine wp_block (wp_mono (gX M I A O B N n p x c f _ s a w g b h) ?_);rintro e a' w' ⟨ex,s',C,F,D,E⟩;cases ex with
   |normal=>cases e<;>simp only[km] at F;exact⟨.normal,s',C,trivial,D,E⟩
   |exit k=>
    cases e<;>simp only[km] at F;subst F;simp only[Exit.inBlock];by_cases ad:k=i;·subst ad;simp only[if_true];simp only[aJ,Do,cond_true] at D;exact⟨.normal,s',C,trivial,D,E⟩
    ·simp only[ad,if_false];have hb:AD k i=false:=by
      cases hb:AD k i with
      |true=>exact absurd (AS hb) ad
      |false=>rfl
     simp only[aJ,hb,cond_false] at D;exact⟨.exit k,s',C,rfl,D,E⟩
   |ret=>cases e<;>simp only[km] at F;exact⟨.ret,s',C,trivial,D,E⟩
 | .loop G q x,c,f,K,s,a,w,g,b,h=>by
   cases c<;>simp[ce] at f;rename_i c;obtain⟨hq,f⟩:=f;have hq:hp₀.length<=q:=AR p hq;simp only[run] at b
   have key:∀(m:Nat)(s:St)(a:Act)(w:World)(g:Gh),bi m (λae s=>run (jR W Γ) n x (b7 ae G q K) s) s=some r->sT g₀ hp₀ w₀ g s w a->
     Code.rounds P c (ajl g₀ hp₀ w₀ K r) m a w:=by
    intro m;induction m with
    |zero=>intro s a w g b h;simp[bi] at b
    |succ m ih=>
     intro s a w g b h;simp only[bi] at b;rw[rounds_succ];refine wp_mono (gX M I A O B N n p x c f _ s a w g b h) ?_;rintro e a' w' ⟨ex,s',C,F,D,E⟩;cases ex with
     |normal=>cases e<;>simp only[km] at F;exact ih _ a' w' C D (E.keeps G hq)
     |exit k=>cases e<;>simp only[km] at F;exact⟨.exit k,s',C,F,D,E⟩
     |ret=>cases e<;>simp only[km] at F;exact⟨.ret,s',C,trivial,D,E⟩
   exact wp_loop_rounds n (key n _ a w g b (h.keeps G hq))
 | .cut G q x,c,f,K,s,a,w,g,b,h=>by simp only[ce,Ac] at f;obtain⟨hq,f⟩:=f;simp only[run] at b;exact gX M I A O B N n p x c f K _ a w g b (h.keeps G (AR p (Nat.le_of_ble_eq_true hq)))
 | .gh x y,c,f,K,s,a,w,g,b,h=>by
   simp only[ce] at f;simp only[run] at b;split at b
   ·rename_i t s' hs;cases t with
    |false=>simp[chk] at b
    |true=>obtain⟨C,J,Q⟩:=mj h.sr hs;exact gX M I A O B N n p y c f K s' a w C b ⟨J,h.fr.trans Q.toW,h.df⟩
   ·simp at b
 | .ope x y,c,f,K,s,a,w,g,b,h=>by
   simp only[ce] at f;simp only[run] at b;have go:∀q:eL,(match q.step s with|some (c,s')=>chk c (run (jR W Γ) n y K s')|none=>none)=some r->∃s' C,run (jR W Γ) n y K s'=some r∧SR C s' w a∧FR g s.hp w C s'.hp w:=λq b=>by
    split at b
    ·rename_i t s' hs;cases t with
     |false=>simp[chk] at b
     |true=>obtain⟨C,J,Q⟩:=mj h.sr hs;exact⟨s',C,b,J,Q⟩
    ·simp at b
   have bx:∃s' C,run (jR W Γ) n y K s'=some r∧SR C s' w a∧FR g s.hp w C s'.hp w:=by
    cases hb:aqz s x with
    |true=>rw[hb] at b;exact go _ b
    |false=>rw[hb] at b;exact go _ b
   obtain⟨s',C,b,J,Q⟩:=bx;exact gX M I A O B N n p y c f K s' a w C b ⟨J,h.fr.trans Q.toW,h.df⟩
 | .ghp x y,c,f,K,s,a,w,g,b,h=>by
   simp only[ce] at f;simp only[run] at b;refine wp_mono (gX M I A O B N n p y c f _ s a w g b h) ?_;rintro e a' w' ⟨ex,s',C,F,D,E⟩;cases ex with
   |normal=>
    simp only[aiI] at D;split at D
    ·rename_i t s2 hs;cases t with
     |false=>simp[chk] at D
     |true=>obtain⟨g2,J,Q⟩:=mj E.sr hs;exact⟨.normal,s2,g2,F,D,⟨J,E.fr.trans Q.toW,E.df⟩⟩
    ·simp at D
   |exit i=>exact⟨.exit i,s',C,F,D,E⟩
   |ret=>exact⟨.ret,s',C,F,D,E⟩
 | .exit i,c,f,K,s,a,w,g,b,h=>by cases c<;>simp[ce] at f;subst f;exact wp_exit ⟨.exit i,s,g,rfl,b,h⟩
 | .ret,c,f,K,s,a,w,g,b,h=>by cases c<;>simp[ce] at f;exact wp_ret ⟨.ret,s,g,trivial,b,h⟩
structure aoC(P:Program)(k:Nat)(f:FuncId)(call:Nat->List V->List ai->Ro):Prop where
 fnOK:∀{n:Nat}{vs:List V}{hp hp':List ai}{v:V},hp.length=k->call n vs hp=some (v,hp')->∀(w:World)(g:Gh)(cargs:Array Value),tV P g w->HR g hp w->vs.length=cargs.size->(∀x∈vs,x.bare=true)->
  (∀(i:Nat) x cv,vs[i]? =some x->cargs[i]? =some cv->VRel g.I g.ρ hp.length w x cv)->
  Calls P f cargs w λe w'=>∃cv g',e=.returned cv∧HR g' hp' w'∧FRW g hp w g' hp' w'∧VRel g'.I g'.ρ hp'.length w' v cv∧ap g' w' .res v cv
abbrev avx(P:Program)(Γ:aq)(imp:List Nat)(k:Nat)(f:FuncId)(fn:Func)(d:IR)(b:List RV):Prop:=aoC P k f λn vs hp=>callF Γ n fn.ntmps b d vs hp
theorem avx.of(N:Zed)(O:nR=[]){k:Nat}{f:FuncId}{fn:Func}{E:IR}{B:List RV}(D:ca P Γ)(R:aoy P W)(Q:cI Γ imp)(x:P.funcs[f]? =some fn)(u:fn.body=some (fn.body.getD .skip))
  (chk:(ce P imp k E (fn.body.getD .skip)&&jQ P B fn.results.toList)=true) (m:fn.results.toList.length<=5):avx P (jR W Γ) imp k f fn E B:=⟨λ{n vs hp hp' v} q S w g J G C t o A=>by
 subst q;simp only[Ac] at chk;refine calls_of_wp x u ?_;have y:=gX N O D R G.1 Q n (Ar _) E _ chk.1 (fin B) (start fn.ntmps vs hp) _ w g S ⟨an6 C t o A,(FR.refl _ _ _).toW,rfl⟩;refine wp_mono y ?_;rintro e a' w' ⟨X,s',L,M,q,H⟩;have h:∀v hp',(resultOf s' B).map (λv=>(v,s'.hp))=some (v,hp')->a'.defers=[]∧∃cv,(results fn a'.tmps).run P w'=.ok cv w'∧∃j b,Ending.returned cv=.returned j∧HR b hp' w'∧FRW g hp w b hp' w'∧VRel b.I b.ρ hp'.length w' v j∧ap b w' .res v j:=by
  intro v hp' d;have e:hp'=s'.hp:=by obtain⟨Y,_,p⟩:=Aq.1 d;simp only[Ao] at p;exact p.2.symm
  subst e;exact⟨H.df,aqd (F:=λL=>FRW g hp w L s'.hp w') chk.2 m H.sr (λr=>H.fr.hand r) d⟩
 cases X with
 |normal=>cases e<;>simp only[km] at M;exact h _ _ q
 |exit i=>simp[fin] at q
 |ret=>cases e<;>simp only[km] at M;exact h _ _ q⟩
theorem aoC.pure{f:FuncId}{b:Nat->List V->List ai->Ro}{vs:List V}{n:Nat}{x:Ro}(h:aoC P 0 f b)(m:b n vs []=x){v:V}{hp':List ai}(e:x=some (v,hp')):yb P f vs v:=
 ⟨hp',λw g d o p k i j=>h.fnOK rfl (m.trans e) w g d o p k i j⟩
end
section
variable{I:Nat->Nat->Prop}{ρ:Nat->Nat}{N m n:Nat}{w:World}{P:Program}{σ:Nat->Nat}
end
section
variable{P:Program}
theorem yb.dim{f:FuncId}{vs us:List V}{v:V}(h:yb P f us v)(e:vs.map V.dim=us):yb P f vs v:=by subst e;obtain⟨hp',h⟩:=h;refine⟨hp',λw g b p q d a j=>h w g b p q (by simpa using d) (by intro x k;obtain⟨y,o,rfl⟩:=AG.1 k;exact an7 (a y o)) ?_⟩;intro i x cv k m;rw[AA,Aq] at k;obtain⟨y,o,rfl⟩:=k;exact(j i y cv o m).dim
theorem yb.dimR{f:FuncId}{vs:List V}{v u:V}(h:yb P f vs v)(e:v.dimR=u):yb P f vs u:=by subst e;obtain⟨hp',h⟩:=h;refine⟨hp',λw g a q t m b k=>(h w g a q t m b k).mono ?_⟩;rintro e w' ⟨cv,o,rfl,d,i,j,p⟩;exact⟨cv,o,rfl,d,i,j.dimR,p.dimR⟩
theorem aoC.fin{R:Type}{b:R->V}{p:R->Prop}{Q:V×List ai->Prop}{f:FuncId}{a:Nat->List V->List ai->Ro}{vs:List V}{N:Nat}{x:Ro}(h:aoC P 0 f a)(i:a N vs []=x)(j:Tot x Q)(k:∀z,Q z->∃r,z.1.dimR=b r∧p r):∃r,yb P f vs (b r)∧p r:=by obtain⟨z,d,g⟩:=j;obtain⟨r,e,hp⟩:=k z g;exact⟨r,(h.pure i d).dimR e,hp⟩
end
def reJ(x:aa):aa:=.mk x.kind x.n x.s x.l x.names
instance:Inhabited tP:=⟨.mk 0 [] [] [] 0⟩
instance:Inhabited aa:=⟨.mk 0 0 [] [] []⟩
instance:Inhabited aZ:=⟨⟨[],[],0,false,.mk 0 0 [] [] []⟩⟩
instance:Inhabited ac:=⟨⟨0,[],[],0,[],false,[],0,[],[]⟩⟩
theorem cn:∀x,reJ x=x
 | .mk _ _ _ _ _=>rfl
end Go.AM
namespace Go.Proofs.YtkinflmjagfapaaDoor
open Go.AM
abbrev vf:FuncId:=44
abbrev uq:FuncId:=38
abbrev rO:FuncId:=81
abbrev ur:FuncId:=75
abbrev tf:FuncId:=42
abbrev ri:FuncId:=82
abbrev uu:FuncId:=39
abbrev tg:FuncId:=80
abbrev uv:FuncId:=23
abbrev th:FuncId:=40
abbrev tl:FuncId:=78
abbrev uw:FuncId:=77
abbrev abO:FuncId:=10
abbrev aem:FuncId:=76
abbrev abP:FuncId:=50
abbrev yL:FuncId:=79
abbrev abQ:FuncId:=43
abbrev af0:FuncId:=41
abbrev aen:FuncId:=104
abbrev abR:FuncId:=123
abbrev aal:FuncId:=122
abbrev aeo:FuncId:=102
abbrev abS:FuncId:=103
abbrev akF:=List ac×Int
noncomputable def kN(a:aa)(r:akF):Prop:=aF Tryd.prog abO [.agg (enc .jnode a)] (.tup [.agg [.sl .atype (.may false) r.1],.int .i64 r.2])∧xC a r
noncomputable def akG:cV Tryd.prog:=.mk 10 λus=>match us with
 | [.agg [.int .i64 f,.int .i64 b,.str e,.sl .jnode (.may _) d,.sl .str (.may _) a]]=>let r:=pick (kN (⟨f,b,e,d,a⟩));some (can (kN (⟨f,b,e,d,a⟩)),.tup [.agg [.sl .atype (.may false) r.1],.int .i64 r.2])
 |_=>none
abbrev ads:=Int×List ac×Int
noncomputable def bc(a:List ac)(b:Int)(f:aa)(e:Bs)(d:Int)(r:ads):Prop:=be Tryd.prog uv [.ptr 0 0,.agg (enc .jnode f),.str e,.int .i64 d] [[.ul .atype a,.int .i64 b]] (.int .i64 r.1) [[.ul .atype r.2.1,.int .i64 r.2.2]]∧c6 a b f e d r
noncomputable def ko:eh Tryd.prog:=.mk 23 λus css=>match us,css with
 | [.ptr 0 0,.agg [.int .i64 g,.int .i64 d,.str b,.sl .jnode (.may _) h,.sl .str (.may _) e],.str j,.int .i64 i],[[.ul .atype a,.int .i64 f]]=>let r:=pick (bc a f (⟨g,d,b,h,e⟩) j i);some (can (bc a f (⟨g,d,b,h,e⟩) j i),.int .i64 r.1,[[.ul .atype r.2.1,.int .i64 r.2.2]])
 |_,_=>none
abbrev adt:=Int×List ac×Int
noncomputable def ag(a:List ac)(b d:Int)(r:adt):Prop:=be Tryd.prog uq [.ptr 0 0,.int .i64 d] [[.ul .atype a,.int .i64 b]] (.int .i64 r.1) [[.ul .atype r.2.1,.int .i64 r.2.2]]∧iE a b d r
noncomputable def cp:eh Tryd.prog:=.mk 38 λus css=>match us,css with
 | [.ptr 0 0,.int .i64 d],[[.ul .atype a,.int .i64 b]]=>let r:=pick (ag a b d);some (can (ag a b d),.int .i64 r.1,[[.ul .atype r.2.1,.int .i64 r.2.2]])
 |_,_=>none
abbrev adu:=Int×List ac×Int
noncomputable def eS(b:List ac)(a:Int)(e d:Bs)(r:adu):Prop:=be Tryd.prog uu [.ptr 0 0,.str e,.str d] [[.ul .atype b,.int .i64 a]] (.int .i64 r.1) [[.ul .atype r.2.1,.int .i64 r.2.2]]∧eY b a e d r
noncomputable def adv:eh Tryd.prog:=.mk 39 λus css=>match us,css with
 | [.ptr 0 0,.str e,.str d],[[.ul .atype b,.int .i64 a]]=>let r:=pick (eS b a e d);some (can (eS b a e d),.int .i64 r.1,[[.ul .atype r.2.1,.int .i64 r.2.2]])
 |_,_=>none
abbrev abT:=Int×List ac×Int
noncomputable def gg(a:List ac)(b:Int)(f:aa)(e:Bs)(d:Int)(r:abT):Prop:=be Tryd.prog th [.ptr 0 0,.agg (enc .jnode f),.str e,.int .i64 d] [[.ul .atype a,.int .i64 b]] (.int .i64 r.1) [[.ul .atype r.2.1,.int .i64 r.2.2]]∧dy a b f e d r
noncomputable def abU:eh Tryd.prog:=.mk 40 λus css=>match us,css with
 | [.ptr 0 0,.agg [.int .i64 g,.int .i64 d,.str b,.sl .jnode (.may _) h,.sl .str (.may _) e],.str j,.int .i64 i],[[.ul .atype a,.int .i64 f]]=>let r:=pick (gg a f (⟨g,d,b,h,e⟩) j i);some (can (gg a f (⟨g,d,b,h,e⟩) j i),.int .i64 r.1,[[.ul .atype r.2.1,.int .i64 r.2.2]])
 |_,_=>none
abbrev aoD:=aa×Bool
noncomputable def aR(a:aa)(b:Bs)(r:aoD):Prop:=aF Tryd.prog af0 [.agg (enc .jnode a),.str b] (.tup [.agg (enc .jnode r.1),.bool r.2])∧lT a b r
noncomputable def lb:cV Tryd.prog:=.mk 41 λus=>match us with
 | [.agg [.int .i64 f,.int .i64 b,.str e,.sl .jnode (.may _) d,.sl .str (.may _) a],.str g]=>let r:=pick (aR (⟨f,b,e,d,a⟩) g);some (can (aR (⟨f,b,e,d,a⟩) g),.tup [.agg (enc .jnode r.1),.bool r.2])
 |_=>none
abbrev abV:=Int×List ac×Int
noncomputable def cU(a:List ac)(b:Int)(g:aa)(f:Int)(d:Bs)(e:Int)(r:abV):Prop:=be Tryd.prog tf [.ptr 0 0,.agg (enc .jnode g),.int .i64 f,.str d,.int .i64 e] [[.ul .atype a,.int .i64 b]] (.int .i64 r.1) [[.ul .atype r.2.1,.int .i64 r.2.2]]∧aU a b g f d e r
noncomputable def abW:eh Tryd.prog:=.mk 42 λus css=>match us,css with
 | [.ptr 0 0,.agg [.int .i64 g,.int .i64 d,.str b,.sl .jnode (.may _) h,.sl .str (.may _) e],.int .i64 k,.str i,.int .i64 j],[[.ul .atype a,.int .i64 f]]=>let r:=pick (cU a f (⟨g,d,b,h,e⟩) k i j);some (can (cU a f (⟨g,d,b,h,e⟩) k i j),.int .i64 r.1,[[.ul .atype r.2.1,.int .i64 r.2.2]])
 |_,_=>none
abbrev akH:=Int
noncomputable def dz(a:Bs)(r:akH):Prop:=aF Tryd.prog abQ [.str a] (.int .i64 r)∧xy a r
noncomputable def abX:cV Tryd.prog:=.mk 43 λus=>match us with
 | [.str a]=>let r:=pick (dz a);some (can (dz a),.int .i64 r)
 |_=>none
abbrev aeV:=Int×List ac×Int
noncomputable def bF(a:List ac)(b:Int)(d:ac)(r:aeV):Prop:=be Tryd.prog vf [.ptr 0 0,.agg (enc .atype d)] [[.ul .atype a,.int .i64 b]] (.int .i64 r.1) [[.ul .atype r.2.1,.int .i64 r.2.2]]∧fy a b d r
noncomputable def lz:eh Tryd.prog:=.mk 44 λus css=>match us,css with
 | [.ptr 0 0,.agg [.int .i64 g,.str h,.sl .str (.may _) f,.int .i64 o,.sl .str (.may _) i,.bool b,.str e,.int .i64 m,.sl .afield (.may _) k,.sl (.num .i64) (.may _) a]],[[.ul .atype d,.int .i64 j]]=>let r:=pick (bF d j (⟨g,h,f,o,i,b,e,m,k,a⟩));some (can (bF d j (⟨g,h,f,o,i,b,e,m,k,a⟩)),.int .i64 r.1,[[.ul .atype r.2.1,.int .i64 r.2.2]])
 |_,_=>none
abbrev akI:=Bs
noncomputable def nq(a:Int)(r:akI):Prop:=aF Tryd.prog abP [.int .i64 a] (.str r)∧xz a r
noncomputable def akJ:cV Tryd.prog:=.mk 50 λus=>match us with
 | [.int .i64 a]=>let r:=pick (nq a);some (can (nq a),.str r)
 |_=>none
abbrev adw:=Int×Bool×List ac×Int
noncomputable def bO(a:List ac)(b:Int)(d:Bs)(r:adw):Prop:=be Tryd.prog ur [.ptr 0 0,.str d] [[.ul .atype a,.int .i64 b]] (.tup [.int .i64 r.1,.bool r.2.1]) [[.ul .atype r.2.2.1,.int .i64 r.2.2.2]]∧cZ a b d r
noncomputable def uz:eh Tryd.prog:=.mk 75 λus css=>match us,css with
 | [.ptr 0 0,.str d],[[.ul .atype a,.int .i64 b]]=>let r:=pick (bO a b d);some (can (bO a b d),.tup [.int .i64 r.1,.bool r.2.1],[[.ul .atype r.2.2.1,.int .i64 r.2.2.2]])
 |_,_=>none
abbrev amL:=Bs
noncomputable def lL(a:List ac)(b:Int)(r:amL):Prop:=aF Tryd.prog aem [.agg [.sl .atype (.may false) a],.int .i64 b] (.str r)∧yI a b r
noncomputable def amM:cV Tryd.prog:=.mk 76 λus=>match us with
 | [.agg [.sl .atype (.may _) a],.int .i64 b]=>let r:=pick (lL a b);some (can (lL a b),.str r)
 |_=>none
abbrev adx:=Bs×List ac×Int
noncomputable def cq(a:List ac)(b:Int)(f:aa)(e:Bs)(d:Bool)(r:adx):Prop:=be Tryd.prog uw [.ptr 0 0,.agg (enc .jnode f),.str e,.bool d] [[.ul .atype a,.int .i64 b]] (.str r.1) [[.ul .atype r.2.1,.int .i64 r.2.2]]∧dH a b f e d r
noncomputable def n7:eh Tryd.prog:=.mk 77 λus css=>match us,css with
 | [.ptr 0 0,.agg [.int .i64 g,.int .i64 d,.str b,.sl .jnode (.may _) h,.sl .str (.may _) e],.str j,.bool i],[[.ul .atype a,.int .i64 f]]=>let r:=pick (cq a f (⟨g,d,b,h,e⟩) j i);some (can (cq a f (⟨g,d,b,h,e⟩) j i),.str r.1,[[.ul .atype r.2.1,.int .i64 r.2.2]])
 |_,_=>none
abbrev abY:=Bs×List ac×Int
noncomputable def cA(b:List ac)(a:Int)(e d:Bs)(r:abY):Prop:=be Tryd.prog tl [.ptr 0 0,.str e,.str d] [[.ul .atype b,.int .i64 a]] (.str r.1) [[.ul .atype r.2.1,.int .i64 r.2.2]]∧qg b a e d r
noncomputable def abZ:eh Tryd.prog:=.mk 78 λus css=>match us,css with
 | [.ptr 0 0,.str e,.str d],[[.ul .atype b,.int .i64 a]]=>let r:=pick (cA b a e d);some (can (cA b a e d),.str r.1,[[.ul .atype r.2.1,.int .i64 r.2.2]])
 |_,_=>none
abbrev aid:=Bs
noncomputable def ey(a:Bs)(r:aid):Prop:=aF Tryd.prog yL [.str a] (.str r)∧va a r
noncomputable def aie:cV Tryd.prog:=.mk 79 λus=>match us with
 | [.str a]=>let r:=pick (ey a);some (can (ey a),.str r)
 |_=>none
abbrev ab0:=Bss×Bool×List ac×Int
noncomputable def bJ(b:List ac)(a:Int)(e:aa)(d:Bs)(r:ab0):Prop:=be Tryd.prog tg [.ptr 0 0,.agg (enc .jnode e),.str d] [[.ul .atype b,.int .i64 a]] (.tup [.sl .str (.may false) r.1,.bool r.2.1]) [[.ul .atype r.2.2.1,.int .i64 r.2.2.2]]∧cO b a e d r
noncomputable def nr:eh Tryd.prog:=.mk 80 λus css=>match us,css with
 | [.ptr 0 0,.agg [.int .i64 g,.int .i64 d,.str b,.sl .jnode (.may _) h,.sl .str (.may _) e],.str i],[[.ul .atype a,.int .i64 f]]=>let r:=pick (bJ a f (⟨g,d,b,h,e⟩) i);some (can (bJ a f (⟨g,d,b,h,e⟩) i),.tup [.sl .str (.may false) r.1,.bool r.2.1],[[.ul .atype r.2.2.1,.int .i64 r.2.2.2]])
 |_,_=>none
abbrev aa3:=List ac×Int
noncomputable def bD(a:List ac)(b:Int)(g:aa)(f:Int)(d:Bs)(e:Int)(r:aa3):Prop:=be Tryd.prog rO [.ptr 0 0,.agg (enc .jnode g),.int .i64 f,.str d,.int .i64 e] [[.ul .atype a,.int .i64 b]] (.tup []) [[.ul .atype r.1,.int .i64 r.2]]∧bq a b g f d e r
noncomputable def aa4:eh Tryd.prog:=.mk 81 λus css=>match us,css with
 | [.ptr 0 0,.agg [.int .i64 g,.int .i64 d,.str b,.sl .jnode (.may _) h,.sl .str (.may _) e],.int .i64 k,.str i,.int .i64 j],[[.ul .atype a,.int .i64 f]]=>let r:=pick (bD a f (⟨g,d,b,h,e⟩) k i j);some (can (bD a f (⟨g,d,b,h,e⟩) k i j),.tup [],[[.ul .atype r.1,.int .i64 r.2]])
 |_,_=>none
abbrev zF:=List ac×Int
noncomputable def bw(b:List ac)(a:Int)(e:aa)(d:Int)(r:zF):Prop:=be Tryd.prog ri [.ptr 0 0,.agg (enc .jnode e),.int .i64 d] [[.ul .atype b,.int .i64 a]] (.tup []) [[.ul .atype r.1,.int .i64 r.2]]∧aN b a e d r
noncomputable def zG:eh Tryd.prog:=.mk 82 λus css=>match us,css with
 | [.ptr 0 0,.agg [.int .i64 g,.int .i64 d,.str b,.sl .jnode (.may _) h,.sl .str (.may _) e],.int .i64 i],[[.ul .atype a,.int .i64 f]]=>let r:=pick (bw a f (⟨g,d,b,h,e⟩) i);some (can (bw a f (⟨g,d,b,h,e⟩) i),.tup [],[[.ul .atype r.1,.int .i64 r.2]])
 |_,_=>none
abbrev amN:=Bs
noncomputable def oM(a b:Bs)(r:amN):Prop:=aF Tryd.prog aeo [.str a,.str b] (.str r)∧kV a b r
noncomputable def amO:cV Tryd.prog:=.mk 102 λus=>match us with
 | [.str a,.str b]=>let r:=pick (oM a b);some (can (oM a b),.str r)
 |_=>none
abbrev akK:=Bool
noncomputable def nu(a:Bs)(r:akK):Prop:=aF Tryd.prog abS [.str a] (.bool r)∧xB a r
noncomputable def akL:cV Tryd.prog:=.mk 103 λus=>match us with
 | [.str a]=>let r:=pick (nu a);some (can (nu a),.bool r)
 |_=>none
abbrev amP:=Bool
noncomputable def fU(a:Bs)(r:amP):Prop:=aF Tryd.prog aen [.str a] (.bool r)∧sS a r
noncomputable def xk:cV Tryd.prog:=.mk 104 λus=>match us with
 | [.str a]=>let r:=pick (fU a);some (can (fU a),.bool r)
 |_=>none
abbrev ajn:=Bool
noncomputable def lZ(a:Int)(r:ajn):Prop:=aF Tryd.prog aal [.int .u8 a] (.bool r)∧wF a r
noncomputable def ajo:cV Tryd.prog:=.mk 122 λus=>match us with
 | [.int .u8 a]=>let r:=pick (lZ a);some (can (lZ a),.bool r)
 |_=>none
abbrev akM:=Bool
noncomputable def nv(a:Int)(r:akM):Prop:=aF Tryd.prog abR [.int .u8 a] (.bool r)∧xA a r
noncomputable def akN:cV Tryd.prog:=.mk 123 λus=>match us with
 | [.int .u8 a]=>let r:=pick (nv a);some (can (nv a),.bool r)
 |_=>none
abbrev af1:FuncId:=31
abbrev yM:FuncId:=64
abbrev wI:FuncId:=61
abbrev wJ:FuncId:=94
abbrev uA:FuncId:=63
abbrev vg:FuncId:=30
abbrev vh:FuncId:=62
abbrev wK:FuncId:=60
abbrev wL:FuncId:=29
abbrev rA:FuncId:=4
abbrev af2:FuncId:=65
abbrev af3:FuncId:=33
abbrev ahG:FuncId:=32
abbrev ab1:FuncId:=93
abbrev af4:FuncId:=112
abbrev amQ:FuncId:=113
abbrev af5:FuncId:=132
abbrev af6:FuncId:=18
abbrev af7:FuncId:=19
abbrev aha:=Bool
noncomputable def xG(a:Bs)(r:aha):Prop:=aF Tryd.prog rA [.sl .u8 (.may false) a] (.bool r)∧nX a r
abbrev aoE:=aa×Int
noncomputable def qi(a:Bs)(r:aoE):Prop:=aF Tryd.prog af6 [.str a] (.tup [.agg (enc .jnode r.1),.int .i64 r.2])∧ug a r
noncomputable def aoF:cV Tryd.prog:=.mk 18 λus=>match us with
 | [.str a]=>let r:=pick (qi a);some (can (qi a),.tup [.agg (enc .jnode r.1),.int .i64 r.2])
 |_=>none
abbrev aoG:=Bs
noncomputable def dS(a:aa)(r:aoG):Prop:=aF Tryd.prog af7 [.agg (enc .jnode a)] (.str r)∧pz a r
noncomputable def af8:cV Tryd.prog:=.mk 19 λus=>match us with
 | [.agg [.int .i64 f,.int .i64 b,.str e,.sl .jnode (.may _) d,.sl .str (.may _) a]]=>let r:=pick (dS (⟨f,b,e,d,a⟩));some (can (dS (⟨f,b,e,d,a⟩)),.str r)
 |_=>none
abbrev af9:=aa×Bs×Int×Int
noncomputable def db(d:Bs)(a b e:Int)(r:af9):Prop:=be Tryd.prog wL [.ptr 0 0,.int .i64 e] [[.str d,.int .i64 a,.int .i64 b]] (.agg (enc .jnode r.1)) [[.str r.2.1,.int .i64 r.2.2.1,.int .i64 r.2.2.2]]∧td d a b e r
noncomputable def qj:eh Tryd.prog:=.mk 29 λus css=>match us,css with
 | [.ptr 0 0,.int .i64 e],[[.str d,.int .i64 a,.int .i64 b]]=>let r:=pick (db d a b e);some (can (db d a b e),.agg (enc .jnode r.1),[[.str r.2.1,.int .i64 r.2.2.1,.int .i64 r.2.2.2]])
 |_,_=>none
abbrev aeW:=Bs×Int×Int
noncomputable def dm(b:Bs)(d a:Int)(r:aeW):Prop:=be Tryd.prog vg [.ptr 0 0] [[.str b,.int .i64 d,.int .i64 a]] (.tup []) [[.str r.1,.int .i64 r.2.1,.int .i64 r.2.2]]∧rL b d a r
noncomputable def lA:eh Tryd.prog:=.mk 30 λus css=>match us,css with
 | [.ptr 0 0],[[.str b,.int .i64 d,.int .i64 a]]=>let r:=pick (dm b d a);some (can (dm b d a),.tup [],[[.str r.1,.int .i64 r.2.1,.int .i64 r.2.2]])
 |_,_=>none
abbrev aga:=Bs×Int×Int
noncomputable def bL(d:Bs)(a b e:Int)(r:aga):Prop:=be Tryd.prog af1 [.ptr 0 0,.int .i64 e] [[.str d,.int .i64 a,.int .i64 b]] (.tup []) [[.str r.1,.int .i64 r.2.1,.int .i64 r.2.2]]∧abJ d a b e r
noncomputable def gi:eh Tryd.prog:=.mk 31 λus css=>match us,css with
 | [.ptr 0 0,.int .i64 e],[[.str d,.int .i64 a,.int .i64 b]]=>let r:=pick (bL d a b e);some (can (bL d a b e),.tup [],[[.str r.1,.int .i64 r.2.1,.int .i64 r.2.2]])
 |_,_=>none
abbrev apQ:=Bs
noncomputable def rP(a:Int)(r:apQ):Prop:=aF Tryd.prog ahG [.int .i64 a] (.str r)∧abI a r
noncomputable def apR:cV Tryd.prog:=.mk 32 λus=>match us with
 | [.int .i64 a]=>let r:=pick (rP a);some (can (rP a),.str r)
 |_=>none
abbrev aoH:=Bs
noncomputable def lc(a:Bs)(r:aoH):Prop:=aF Tryd.prog af3 [.str a] (.str r)∧ud a r
noncomputable def aoI:cV Tryd.prog:=.mk 33 λus=>match us with
 | [.str a]=>let r:=pick (lc a);some (can (lc a),.str r)
 |_=>none
abbrev agb:=Bs×Bs×Int×Int
noncomputable def gj(b:Bs)(d a:Int)(r:agb):Prop:=be Tryd.prog wK [.ptr 0 0] [[.str b,.int .i64 d,.int .i64 a]] (.str r.1) [[.str r.2.1,.int .i64 r.2.2.1,.int .i64 r.2.2.2]]∧ni b d a r
noncomputable def wM:eh Tryd.prog:=.mk 60 λus css=>match us,css with
 | [.ptr 0 0],[[.str b,.int .i64 d,.int .i64 a]]=>let r:=pick (gj b d a);some (can (gj b d a),.str r.1,[[.str r.2.1,.int .i64 r.2.2.1,.int .i64 r.2.2.2]])
 |_,_=>none
abbrev agc:=aa×Bs×Int×Int
noncomputable def gk(d:Bs)(a b e:Int)(r:agc):Prop:=be Tryd.prog wI [.ptr 0 0,.int .i64 e] [[.str d,.int .i64 a,.int .i64 b]] (.agg (enc .jnode r.1)) [[.str r.2.1,.int .i64 r.2.2.1,.int .i64 r.2.2.2]]∧te d a b e r
noncomputable def agd:eh Tryd.prog:=.mk 61 λus css=>match us,css with
 | [.ptr 0 0,.int .i64 e],[[.str d,.int .i64 a,.int .i64 b]]=>let r:=pick (gk d a b e);some (can (gk d a b e),.agg (enc .jnode r.1),[[.str r.2.1,.int .i64 r.2.2.1,.int .i64 r.2.2.2]])
 |_,_=>none
abbrev aeX:=aa×Bs×Int×Int
noncomputable def fq(d:Bs)(a b e:Int)(r:aeX):Prop:=be Tryd.prog vh [.ptr 0 0,.int .i64 e] [[.str d,.int .i64 a,.int .i64 b]] (.agg (enc .jnode r.1)) [[.str r.2.1,.int .i64 r.2.2.1,.int .i64 r.2.2.2]]∧rM d a b e r
noncomputable def aeY:eh Tryd.prog:=.mk 62 λus css=>match us,css with
 | [.ptr 0 0,.int .i64 e],[[.str d,.int .i64 a,.int .i64 b]]=>let r:=pick (fq d a b e);some (can (fq d a b e),.agg (enc .jnode r.1),[[.str r.2.1,.int .i64 r.2.2.1,.int .i64 r.2.2.2]])
 |_,_=>none
abbrev ady:=aa×Bs×Int×Int
noncomputable def eU(b:Bs)(d a:Int)(r:ady):Prop:=be Tryd.prog uA [.ptr 0 0] [[.str b,.int .i64 d,.int .i64 a]] (.agg (enc .jnode r.1)) [[.str r.2.1,.int .i64 r.2.2.1,.int .i64 r.2.2.2]]∧iG b d a r
noncomputable def adz:eh Tryd.prog:=.mk 63 λus css=>match us,css with
 | [.ptr 0 0],[[.str b,.int .i64 d,.int .i64 a]]=>let r:=pick (eU b d a);some (can (eU b d a),.agg (enc .jnode r.1),[[.str r.2.1,.int .i64 r.2.2.1,.int .i64 r.2.2.2]])
 |_,_=>none
abbrev aif:=Bool×Bs×Int×Int
noncomputable def bC(d:Bs)(a b:Int)(e:Bs)(r:aif):Prop:=be Tryd.prog yM [.ptr 0 0,.str e] [[.str d,.int .i64 a,.int .i64 b]] (.bool r.1) [[.str r.2.1,.int .i64 r.2.2.1,.int .i64 r.2.2.2]]∧je d a b e r
noncomputable def n8:eh Tryd.prog:=.mk 64 λus css=>match us,css with
 | [.ptr 0 0,.str e],[[.str d,.int .i64 a,.int .i64 b]]=>let r:=pick (bC d a b e);some (can (bC d a b e),.bool r.1,[[.str r.2.1,.int .i64 r.2.2.1,.int .i64 r.2.2.2]])
 |_,_=>none
abbrev aoJ:=Bs
noncomputable def nw(a:Int)(r:aoJ):Prop:=aF Tryd.prog af2 [.int .u64 a] (.str r)∧uf a r
noncomputable def aoK:cV Tryd.prog:=.mk 65 λus=>match us with
 | [.int .u64 a]=>let r:=pick (nw a);some (can (nw a),.str r)
 |_=>none
abbrev akO:=Bs×Int×Int
noncomputable def nx(a:Bs)(r:akO):Prop:=aF Tryd.prog ab1 [.str a] (.tup [.str r.1,.int .i64 r.2.1,.int .i64 r.2.2])∧xD a r
noncomputable def akP:cV Tryd.prog:=.mk 93 λus=>match us with
 | [.str a]=>let r:=pick (nx a);some (can (nx a),.tup [.str r.1,.int .i64 r.2.1,.int .i64 r.2.2])
 |_=>none
abbrev age:=Bs×Int×Int
noncomputable def bS(d:Bs)(a b:Int)(e:Bs)(r:age):Prop:=be Tryd.prog wJ [.ptr 0 0,.str e] [[.str d,.int .i64 a,.int .i64 b]] (.tup []) [[.str r.1,.int .i64 r.2.1,.int .i64 r.2.2]]∧tc d a b e r
noncomputable def wN:eh Tryd.prog:=.mk 94 λus css=>match us,css with
 | [.ptr 0 0,.str e],[[.str d,.int .i64 a,.int .i64 b]]=>let r:=pick (bS d a b e);some (can (bS d a b e),.tup [],[[.str r.1,.int .i64 r.2.1,.int .i64 r.2.2]])
 |_,_=>none
abbrev aoL:=Bool
noncomputable def qk(a:Bs)(r:aoL):Prop:=aF Tryd.prog af4 [.str a] (.bool r)∧aaj a r
noncomputable def aoM:cV Tryd.prog:=.mk 112 λus=>match us with
 | [.str a]=>let r:=pick (qk a);some (can (qk a),.bool r)
 |_=>none
abbrev amR:=Bs×Int
noncomputable def xl(a:Bs)(r:amR):Prop:=aF Tryd.prog amQ [.str a] (.tup [.str r.1,.int .i64 r.2])
noncomputable def amS:cV Tryd.prog:=.mk 113 λus=>match us with
 | [.str a]=>let r:=pick (xl a);some (can (xl a),.tup [.str r.1,.int .i64 r.2])
 |_=>none
abbrev aoN:=Int×Int
noncomputable def ql(a:Bs)(r:aoN):Prop:=aF Tryd.prog af5 [.str a] (.tup [.int .u32 r.1,.int .i64 r.2])∧aai a r
noncomputable def aoO:cV Tryd.prog:=.mk 132 λus=>match us with
 | [.str a]=>let r:=pick (ql a);some (can (ql a),.tup [.int .u32 r.1,.int .i64 r.2])
 |_=>none
noncomputable def ahb:aq:=tab (P:=Tryd.prog) [apF] [aeP] [] [amD,akG,yJ,aoF,af8]
def agf:IR:=Rs [Mb 2 false] (Sq (Rs [Ca 10 9 [],Un 11 10] (Cn 11 (Rs [Mb 2 false] .ret) .skip)) (Sq (Rs [Mv 12 0,Ll 13 12,Bc 14 .gtr 13 120] (Cn 14 (Rs [Mb 2 true] .ret) .skip)) (Rs [Mv 16 0,Ca 17 12 [16],Ca 18 13 [17],Ca 19 10 [18],Mv 15 19,Ex_ 20 0 15,Ex_ 21 1 15,Pp (.alr 3 1),Fz 3 1 20,Mv 4 21] (Sq (Rs [Mv 22 4,Bc 23 .neq 22 0] (Cn 23 (Rs [Mb 2 true] .ret) .skip)) (Rs [Ld 24 1 true 3,Ca 25 15 [24],Mv 5 25] (Rs [Mv 27 5,Ca 28 18 [27],Mv 26 28,Ex_ 29 0 26,Ex_ 30 1 26,Pp (.alr 6 5),Fz 6 5 29,Mv 7 30] (Rs [Ld 32 5 true 6,Ca 33 10 [32],Mv 31 33,Ex_ 34 0 31,Ex_ 35 1 31,Pp (.alr 8 1),Fz 8 1 34,Mv 9 35] (Rs [Mv 36 7,Bc 37 .eql 36 0,Mv 38 37,Gt 38 (.mov 39 9),Gt 38 (.bin 40 .eql 39 (kI 0)),Gt 38 (.mov 41 40),Gf 41 (.mov 42 9),Gf 41 (.bin 43 .eql 42 (kI 3)),Gt 38 (.pick 44 41 (kB true) 43),Pa 45 38 44,Mv 46 45,Gt 46 (.mov 47 9),Gt 46 (.bin 48 .neq 47 (kI 0)),Gt 46 (.mov 49 48),Gf 49 (.lde 50 1 true 8),Gf 49 (.call 51 15 [50]),Gf 49 (.mov 52 5),Gf 49 (.bin 53 .eql 51 52),Gf 49 (.mov 54 53),Gt 54 (.fad 55 0 8),Gt 54 (.lde 56 1 false 55),Gt 54 (.lenl 57 56),Gt 54 (.fad 58 0 3),Gt 54 (.lde 59 1 false 58),Gt 54 (.lenl 60 59),Gt 54 (.bin 61 .eql 57 60),Gf 49 (.pick 62 54 61 (kB false)),Gt 46 (.pick 63 49 (kB true) 62),Pa 64 46 63,Mv 65 64,Gt 65 (.lde 66 5 true 6),Gt 65 (.call 67 19 [66]),Gt 65 (.mov 68 5),Gt 65 (.bin 69 .eql 67 68),Pa 70 65 69,Mv 2 70] .ret))))))))
def agh:List RV:=[.t 2]
theorem agi:FnC Tryd.prog ahb [12,13,2000013] 0 rA Tryd.f4 agf agh:=fnC Tryd.func4
def wO(N:Nat)(m:Bs):Ro:=
 let d:=λp x A=>(some (.bool p,[some [.sl .u8 (.may false) x,.int .i64 A]]):Ro)
 af (oH) (λ(v:Bool)=>
  cond (!v) (
   some (.bool false,[])) (
   let B:=(↑(Aa m):Int)
   cond (decide (120<B)) (
    some (.bool true,[])) (
    af (wq m) (λo=>
     af (lu o.1 o.2) (λa=>
      af (kN ⟨a.1,a.2.1,a.2.2.1,a.2.2.2.1,a.2.2.2.2.1⟩) (λg=>
       cond (!(g.2==0)) (
        d true a.2.2.2.2.2.1 a.2.2.2.2.2.2) (
        af (gU g.1) (λ(f:Bs)=>
         af (qi f) (λb=>
          af (kN ⟨b.1.kind,b.1.n,b.1.s,b.1.l,b.1.names⟩) (λe=>
           cond (b.2==0) (
            cond (e.2==0) (
             cond (!(e.2==0)) (
              af (dS ⟨b.1.kind,b.1.n,b.1.s,b.1.l,b.1.names⟩) (λ(u:Bs)=>
               d (decide (u=f)) a.2.2.2.2.2.1 a.2.2.2.2.2.2)) (
              af (gU e.1) (λ(t:Bs)=>
               cond (decide (t=f)) (
                let y:=(↑(Aa e.1):Int)
                let q:=(↑(Aa g.1):Int)
                cond (y==q) (
                 af (dS ⟨b.1.kind,b.1.n,b.1.s,b.1.l,b.1.names⟩) (λ(j:Bs)=>
                  d (decide (j=f)) a.2.2.2.2.2.1 a.2.2.2.2.2.2)) (
                 d false a.2.2.2.2.2.1 a.2.2.2.2.2.2)) (
                d false a.2.2.2.2.2.1 a.2.2.2.2.2.2)))) (
             cond (e.2==3) (
              cond (!(e.2==0)) (
               af (dS ⟨b.1.kind,b.1.n,b.1.s,b.1.l,b.1.names⟩) (λ(k:Bs)=>
                d (decide (k=f)) a.2.2.2.2.2.1 a.2.2.2.2.2.2)) (
               af (gU e.1) (λ(i:Bs)=>
                cond (decide (i=f)) (
                 let C:=(↑(Aa e.1):Int)
                 let w:=(↑(Aa g.1):Int)
                 cond (C==w) (
                  af (dS ⟨b.1.kind,b.1.n,b.1.s,b.1.l,b.1.names⟩) (λ(h:Bs)=>
                   d (decide (h=f)) a.2.2.2.2.2.1 a.2.2.2.2.2.2)) (
                  d false a.2.2.2.2.2.1 a.2.2.2.2.2.2)) (
                 d false a.2.2.2.2.2.1 a.2.2.2.2.2.2)))) (
              d false a.2.2.2.2.2.1 a.2.2.2.2.2.2))) (
            d false a.2.2.2.2.2.1 a.2.2.2.2.2.2)))))))))))
def wP(N:Nat)(a:Bs):Ro:=wO N a
theorem aeZ(N:Nat)(b:Bs)(h:Tot (wP N b) (λz=>∃(a:Bool)(rest:List ai),z.1.dimR=.bool a∧z.2=rest∧nX b (a))):∃r,xG b r:=agi.finP (N:=N) (by kernel_rfl) h λ_ ⟨a,_,e,_,q⟩=>⟨(a),e,q⟩
noncomputable def qm:aq:=tab (P:=Tryd.prog) [] [] [] [af8,apR,aoI]
def yN:IR:=Sq (Rs [Mv 26 4,Fa 27 3 1,Lq 28 27,Ll 29 28,Bi 30 .lss 26 29] (Cn 30 .skip (.exit 1))) (Sq (.block 2 (Sq (Rs [Mv 33 4,Bc 34 .gtr 33 0] (Cn 34 (Rg [Mv 35 3,Pp (.bin 36 .add 35 (kS [44])),Mv 3 36]) .skip)) (Rg [Mv 37 3,Fa 38 3 1,Lq 39 38,Mv 40 4,Ix 41 .jnode 39 40,Ld 42 5 true 41,Ca 43 19 [42],Bi 44 .add 37 43,Mv 3 44]))) (Rg [Mv 31 4,Bc 32 .add 31 1,Mv 4 32]))
def yO:IR:=Rs [Mv 45 3,Pp (.bin 46 .add 45 (kS [93])),Mv 2 46] .ret
def yP:IR:=Sq (Rs [Mv 49 6,Fa 50 3 1,Lq 51 50,Ll 52 51,Bi 53 .lss 49 52,Mv 54 53,Gt 54 (.mov 55 6),Gt 54 (.fad 56 4 1),Gt 54 (.lde 57 1 false 56),Gt 54 (.lenl 58 57),Gt 54 (.bin 59 .lss 55 58),Pa 60 54 59] (Cn 60 .skip (.exit 3))) (Sq (.block 4 (Sq (Rs [Mv 63 6,Bc 64 .gtr 63 0] (Cn 64 (Rg [Mv 65 5,Pp (.bin 66 .add 65 (kS [44])),Mv 5 66]) .skip)) (.reg [Mv 67 5,Fa 68 4 1,Lq 69 68,Mv 70 6,Ix 71 .str 69 70,Lq 72 71,Ca 73 33 [72],Bi 74 .add 67 73,Pp (.bin 75 .add 74 (kS [58])),Fa 76 3 1,Lq 77 76,Mv 78 6,Ix 79 .jnode 77 78,Ld 80 5 true 79,Ca 81 19 [80],Bi 82 .add 75 81,Mv 5 82] [[],[],[1],[],[1,2,3],rg 1 4,rg 1 5,rg 0 6,rg 0 7,[],[9],[],[9,10,11],rg 9 12,rg 1 6++rg 9 13,rg 0 14,rg 0 15]))) (Rg [Mv 61 6,Bc 62 .add 61 1,Mv 6 62]))
def yQ:IR:=Rs [Mv 83 5,Pp (.bin 84 .add 83 (kS [125])),Mv 2 84] .ret
def sU:IR:=Rs [Ms 2 [110,117,108,108]] .ret
def amT:IR:=Rs [Bx 1 0,Ms 2 []] (Sq (Rs [Fa 7 0 1,Lq 8 7] (.block 0 (Rs [Bc 10 .eql 8 2,Mv 9 10] (Cn 9 (Sq (Rs [Fa 11 1 1,Lq 12 11,Bc 13 .eql 12 0] (Cn 13 (Rs [Ms 2 [102,97,108,115,101]] .ret) .skip)) (Rs [Ms 2 [116,114,117,101]] .ret)) (Rs [Bc 15 .eql 8 3,Mv 14 15] (Cn 14 (Rs [Fa 16 1 1,Lq 17 16,Ca 18 32 [17],Mv 2 18] .ret) (Rs [Bc 20 .eql 8 4,Mv 19 20] (Cn 19 (Rs [Fa 21 2 1,Lq 22 21,Ca 23 33 [22],Mv 2 23] .ret) (Rs [Bc 25 .eql 8 5,Mv 24 25] (Cn 24 (Rs [Ms 3 [91]] (Sq (Rs [Mi 4 0] (.block 1 (.loop [1,3,4,1000000] 0 yN))) yO)) (Rs [Bc 48 .eql 8 6,Mv 47 48] (Cn 47 (Rs [Ms 5 [123]] (Sq (Rs [Mi 6 0] (.block 3 (.loop [1,5,6,1000001] 0 yP))) yQ)) .skip)))))))))))) sU)
def xm:List RV:=[.t 2]
theorem amU:FnC Tryd.prog qm [] 0 af7 Tryd.f19 amT xm:=fnC Tryd.func19
def akQ(R:IR->(Ex->St->Ro)->St->Ro)(a:St->Ro):Ex->St->Ro:=(b7 a [1,3,4,1000000] 0 (aJ 1 (kseq (R yO) (aJ 0 (kseq (R sU) (fin xm))))))
abbrev qN:Type:=(aa×Bs×Int)
def pC(x:qN):St:={env:=(.undef::.ea (enc .jnode x.1)::.undef::.str x.2.1::.int .i64 x.2.2::(U 80 [])),hp:=[]}
def vE(N:Nat):(St->Ro)->St->Ro:=λa s=>run qm N yN (akQ (run qm N) a) s
def qO(N:Nat)(a:qN->Ro)(x:qN):Ro:=
 let d:aa:=x.1;let e:Bs:=x.2.1;let b:Int:=x.2.2;let j:=(↑(Aa d.l):Int)
 cond (decide (b<j)) (
  cond (decide (0<b)) (
   chk (decide (Aa e+Aa ([44]:Bs)<=9223372036854775807)) (
    let h:=(e++([44]:Bs))
    chk (ixl b d.l) (
     let p:=(An d.l (Ah b) (ao .jnode))
     af (dS (reJ p)) (λ(g:Bs)=>
      chk (decide (Aa h+Aa g<=9223372036854775807)) (
       let o:=(Ae .i64 (b+1))
       a (d,(h++g),o)))))) (
   chk (ixl b d.l) (
    let k:=(An d.l (Ah b) (ao .jnode))
    af (dS (reJ k)) (λ(f:Bs)=>
     chk (decide (Aa e+Aa f<=9223372036854775807)) (
      let i:=(Ae .i64 (b+1))
      a (d,(e++f),i)))))) (
  chk (decide (Aa e+Aa ([93]:Bs)<=9223372036854775807)) (
   let m:=(e++([93]:Bs))
   some (.str m,[])))
theorem ajp(N:Nat):LB (vE N) pC (qO N):=λ_ _=>by kernel_rfl
def akR(R:IR->(Ex->St->Ro)->St->Ro)(a:St->Ro):Ex->St->Ro:=(b7 a [1,5,6,1000001] 0 (aJ 3 (kseq (R yQ) (aJ 0 (kseq (R sU) (fin xm))))))
abbrev qP:Type:=(aa×Bs×Int)
def pD(x:qP):St:={env:=(.undef::.ea (enc .jnode x.1)::(U 3 (.str x.2.1::.int .i64 x.2.2::(U 78 [])))),hp:=[]}
def vG(N:Nat):(St->Ro)->St->Ro:=λa s=>run qm N yP (akR (run qm N) a) s
def qQ(N:Nat)(a:qP->Ro)(x:qP):Ro:=
 let d:aa:=x.1;let e:Bs:=x.2.1;let b:Int:=x.2.2;let B:=(↑(Aa d.l):Int)
 cond (decide (b<B)) (
  let A:=(↑(Aa d.names):Int)
  cond (decide (b<A)) (
   cond (decide (0<b)) (
    chk (decide (Aa e+Aa ([44]:Bs)<=9223372036854775807)) (
     let f:=(e++([44]:Bs))
     chk (ixl b d.names) (
      let v:=An d.names (Ah b) (ao .str)
      af (lc v) (λ(u:Bs)=>
       chk (decide (Aa f+Aa u<=9223372036854775807)) (
        chk (decide (Aa (f++u)+Aa ([58]:Bs)<=9223372036854775807)) (
         let g:=((f++u)++([58]:Bs))
         chk (ixl b d.l) (
          let t:=(An d.l (Ah b) (ao .jnode))
          af (dS (reJ t)) (λ(y:Bs)=>
           chk (decide (Aa g+Aa y<=9223372036854775807)) (
            let k:=(Ae .i64 (b+1))
            a (d,(g++y),k)))))))))) (
    chk (ixl b d.names) (
     let i:=An d.names (Ah b) (ao .str)
     af (lc i) (λ(p:Bs)=>
      chk (decide (Aa e+Aa p<=9223372036854775807)) (
       chk (decide (Aa (e++p)+Aa ([58]:Bs)<=9223372036854775807)) (
        let h:=((e++p)++([58]:Bs))
        chk (ixl b d.l) (
         let m:=(An d.l (Ah b) (ao .jnode))
         af (dS (reJ m)) (λ(w:Bs)=>
          chk (decide (Aa h+Aa w<=9223372036854775807)) (
           let j:=(Ae .i64 (b+1))
           a (d,(h++w),j)))))))))) (
   chk (decide (Aa e+Aa ([125]:Bs)<=9223372036854775807)) (
    let o:=(e++([125]:Bs))
    some (.str o,[])))) (
  chk (decide (Aa e+Aa ([125]:Bs)<=9223372036854775807)) (
   let q:=(e++([125]:Bs))
   some (.str q,[])))
theorem ajq(N:Nat):LB (vG N) pD (qQ N):=λ_ _=>by kernel_rfl
def oN(N:Nat)(a:aa)(f:qN->Ro)(b:qP->Ro):Ro:=
 cond (a.kind==2) (
  cond (a.n==0) (
   some (.str ([102,97,108,115,101]:Bs),[])) (
   some (.str ([116,114,117,101]:Bs),[]))) (
  cond (a.kind==3) (
   af (rP a.n) (λ(d:Bs)=>
    some (.str d,[]))) (
   cond (a.kind==4) (
    af (lc a.s) (λ(e:Bs)=>
     some (.str e,[]))) (
    cond (a.kind==5) (
     f (a,([91]:Bs),0)) (
     cond (a.kind==6) (
      b (a,([123]:Bs),0)) (
      some (.str ([110,117,108,108]:Bs),[]))))))
def aep(N:Nat)(a:aa):Ro:=oN N a (λz=>aK N (qO N) z) (λz=>aK N (qQ N) z)
theorem akS(N:Nat)(a:aa)(h:Tot (aep N a) (λz=>∃(d:Bs)(rest:List ai),z.1.dimR=.str d∧z.2=rest∧pz a (d))):∃r,dS a r:=amU.finP (N:=N) ((cz _ (by kernel_rfl) rfl (λC=>oN N a (λz=>C 1000000 (pC z)) (λz=>C 1000001 (pD z))) (λC=>by kernel_rfl)).trans (A8 (b:=oN N a (λz=>bi N (vE N) (pC z)) (λz=>bi N (vG N) (pD z))) (by kernel_rfl) (congr (congrArg (oN N a) (funext λz=>bm (pC) (vE N) (qO N) (ajp N) N z)) (funext λz=>bm (pD) (vG N) (qQ N) (ajq N) N z)))) h λ_ ⟨d,_,e,_,q⟩=>⟨(d),e,q⟩
noncomputable def aoP:aq:=tab (P:=Tryd.prog) [] [qj,lA,gi] [] []
def amV:IR:=Rs [Pp (.new 2 [vI 0,vI 0,vS,nl .jnode,nl .str]),Mi 3 0] (Sq (Rs [Mv 6 0,Pp (.lens 7 6),Bc 8 .gtr 7 10000] (Cn 8 (Rs [Pp (.bld 9 [vI 0,vI 0,vS,fu .jnode true,fu .str true] []),Sv 5 2 9,Mi 3 3] .ret) .skip)) (Rs [Mv 10 0,Pp (.bld 11 [vS,vI 0,vI 0] [(0,1,10)]),Pp (.box 12 11),Mv 4 12] (Rs [Mv 13 4,Ca 14 29 [13,kI 1],Pp (.alr 5 5),Fz 5 5 14] (Rs [Mv 15 4,Ca 16 30 [15]] (Sq (Rs [Mv 17 4,Nk 18 17,Fa 19 1 18,Lo 20 19,Mv 21 0,Pp (.lens 22 21),Bi 23 .lss 20 22] (Cn 23 (Rg [Mv 24 4,Ca 25 31 [24,kI 2]]) .skip)) (Sq (Rs [Mv 26 4,Nk 27 26,Fa 28 2 27,Lo 29 28,Bc 30 .neq 29 0] (Cn 30 (Sq (.reg [Pp (.bld 31 [vI 0,vI 0,vS,fu .jnode true,fu .str true] []),Mv 32 4,Nk 33 32,Fa 34 2 33,Fo [1] [] (.ld 35 1 false false 34),Fo [] [0] (.st none 5 2 31),Mv 3 35] [[],[],[1],[1,2],[1,2,3],[0],rg 0 5]) .ret) .skip)) (Rs [Ld 36 5 true 5,Sv 5 2 36,Mi 3 0] .ret)))))))
def amW:List RV:=[.cell 2 5 true,.t 3]
theorem amX:FnC Tryd.prog aoP [29,30,31,2000029,2000030,2000031] 0 af6 Tryd.f18 amV amW:=fnC Tryd.func18
def aeq(N:Nat)(i:Bs):Ro:=
 let q:=(↑(Aa i):Int)
 let j:=λg f=>(some (.tup [.agg [.int .i64 0,.int .i64 0,.str ([]:Bs),.sl .jnode (.may true) ([]:List aa),.sl .str (.may true) ([]:Bss)],.int .i64 g],f):Ro)
 let h:=λg f k e o m t p w u=>(some (.tup [.agg [.int .i64 g,.int .i64 f,.str k,.sl .jnode (.may e) o,.sl .str (.may e) m],.int .i64 t],[some [.int .i64 g,.int .i64 f,.str k,.sl .jnode (.may e) o,.sl .str (.may e) m],some [.str p,.int .i64 w,.int .i64 u]]):Ro)
 cond (decide (10000<q)) (
  j 3 [some [.int .i64 0,.int .i64 0,.str ([]:Bs),.sl .jnode (.may true) ([]:List aa),.sl .str (.may true) ([]:Bss)]]) (
  af (db i 0 0 1) (λa=>
   af (dm a.2.1 a.2.2.1 a.2.2.2) (λb=>
    let v:=(↑(Aa i):Int)
    cond (decide (b.2.1<v)) (
     af (bL b.1 b.2.1 b.2.2 2) (λd=>
      cond (!(d.2.2==0)) (
       j d.2.2 [some [.int .i64 0,.int .i64 0,.str ([]:Bs),.sl .jnode (.may true) ([]:List aa),.sl .str (.may true) ([]:Bss)],some [.str d.1,.int .i64 d.2.1,.int .i64 d.2.2]]) (
       h a.1.kind a.1.n a.1.s false a.1.l a.1.names 0 d.1 d.2.1 d.2.2))) (
     cond (!(b.2.2==0)) (
      h 0 0 ([]:Bs) true ([]:List aa) ([]:Bss) b.2.2 b.1 b.2.1 b.2.2) (
      h a.1.kind a.1.n a.1.s false a.1.l a.1.names 0 b.1 b.2.1 b.2.2)))))
def aer(N:Nat)(a:Bs):Ro:=aeq N a
theorem akT(N:Nat)(d:Bs)(h:Tot (aer N d) (λz=>∃(a:aa)(b:Int)(rest:List ai),z.1.dimR=.tup [.agg (enc .jnode a),.int .i64 b]∧z.2=rest∧ug d (a,b))):∃r,qi d r:=amX.finP (N:=N) (by kernel_rfl) h λ_ ⟨a,b,_,e,_,q⟩=>⟨(a,b),e,q⟩
noncomputable def pf:aq:=tab (P:=Tryd.prog) [] [] [] []
def rQ:IR:=Sq (Sq (.reg [Mv 2 0,Nk 3 2,Fa 4 1 3,Fo [0] [] (.ld 5 1 false false 4),Mv 6 0,Nk 7 6,Fa 8 0 7,Fo [0] [] (.ld 9 1 false false 8),Pp (.lens 10 9),Bi 11 .lss 5 10,Mv 12 11,Gt 12 (.mov 13 0),Gt 12 (.nck 14 13),Gt 12 (.fad 15 0 14),⟨some (12,true),.ld 16 1 false false 15,some ([0],[])⟩,Gt 12 (.mov 17 0),Gt 12 (.nck 18 17),Gt 12 (.fad 19 1 18),⟨some (12,true),.ld 20 1 false false 19,some ([0],[])⟩,Gt 12 (.idx 21 16 20),Gt 12 (.bin 22 .eql 21 (.c (.int .u8 9))),Gt 12 (.mov 23 22),Gf 23 (.mov 24 0),Gf 23 (.nck 25 24),Gf 23 (.fad 26 0 25),⟨some (23,false),.ld 27 1 false false 26,some ([0],[])⟩,Gf 23 (.mov 28 0),Gf 23 (.nck 29 28),Gf 23 (.fad 30 1 29),⟨some (23,false),.ld 31 1 false false 30,some ([0],[])⟩,Gf 23 (.idx 32 27 31),Gf 23 (.bin 33 .eql 32 (.c (.int .u8 10))),Gt 12 (.pick 34 23 (kB true) 33),Gt 12 (.mov 35 34),Gf 35 (.mov 36 0),Gf 35 (.nck 37 36),Gf 35 (.fad 38 0 37),⟨some (35,false),.ld 39 1 false false 38,some ([0],[])⟩,Gf 35 (.mov 40 0),Gf 35 (.nck 41 40),Gf 35 (.fad 42 1 41),⟨some (35,false),.ld 43 1 false false 42,some ([0],[])⟩,Gf 35 (.idx 44 39 43),Gf 35 (.bin 45 .eql 44 (.c (.int .u8 13))),Gt 12 (.pick 46 35 (kB true) 45),Gt 12 (.mov 47 46),Gf 47 (.mov 48 0),Gf 47 (.nck 49 48),Gf 47 (.fad 50 0 49),⟨some (47,false),.ld 51 1 false false 50,some ([0],[])⟩,Gf 47 (.mov 52 0),Gf 47 (.nck 53 52),Gf 47 (.fad 54 1 53),⟨some (47,false),.ld 55 1 false false 54,some ([0],[])⟩,Gf 47 (.idx 56 51 55),Gf 47 (.bin 57 .eql 56 (.c (.int .u8 32))),Gt 12 (.pick 58 47 (kB true) 57),Pa 59 12 58] [[],[0],[0,1],[0,1,2],[],[4],[4,5],[4,5,6],rg 4 7,rg 0 8,rg 0 9,rg 0 10,rg 0 11,rg 0 12,rg 0 13,rg 0 10,rg 0 10++[15],rg 0 10++[15,16],rg 0 10++[15,16,17],rg 0 18,rg 0 19,rg 0 20,rg 0 21,rg 0 22,rg 0 23,rg 0 24,rg 0 21,rg 0 21++[26],rg 0 21++[26,27],rg 0 21++[26,27,28],rg 0 29,rg 0 30,rg 0 31,rg 0 32,rg 0 33,rg 0 34,rg 0 35,rg 0 36,rg 0 33,rg 0 33++[38],rg 0 33++[38,39],rg 0 33++[38,39,40],rg 0 41,rg 0 42,rg 0 43,rg 0 44,rg 0 45,rg 0 46,rg 0 47,rg 0 48,rg 0 45,rg 0 45++[50],rg 0 45++[50,51],rg 0 45++[50,51,52],rg 0 53,rg 0 54,rg 0 55,rg 0 56]) (Cn 59 .skip (.exit 0))) (.block 1 (Rg [Mv 60 0,Nk 61 60,Fa 62 1 61,Lo 63 62,Bc 64 .add 63 1,Nk 65 60,Fa 66 1 65,Sv 1 66 64]))
def adA:IR:=.block 0 (.loop [0,1000000] 1 rQ)
def uB:List RV:=[]
theorem adB:FnC Tryd.prog pf [] 1 vg Tryd.f30 adA uB:=fnC Tryd.func30
def ab2(R:IR->(Ex->St->Ro)->St->Ro)(a:St->Ro):Ex->St->Ro:=(b7 a [0,1000000] 1 (aJ 0 (fin uB)))
abbrev jW:Type:=(Bs×Int×Int)
def jx(x:jW):St:={env:=(.ptr 0 0::(U 66 [])),hp:=[some [.str x.1,.int .i64 x.2.1,.int .i64 x.2.2]]}
def ny(N:Nat):(St->Ro)->St->Ro:=λa s=>run pf N rQ (ab2 (run pf N) a) s
def jX(N:Nat)(d:jW->Ro)(x:jW):Ro:=
 let a:Bs:=x.1;let b:Int:=x.2.1;let e:Int:=x.2.2;let h:=(↑(Aa a):Int)
 let f:=(some (.tup [],[some [.str a,.int .i64 b,.int .i64 e]]):Ro)
 cond (decide (b<h)) (
  chk (ixl b a) (
   let m:=(↑(AJ (An a (Ah b) 0)):Int)
   cond (m==9) (
    let p:=(Ae .i64 (b+1))
    d (a,p,e)) (
    chk (ixl b a) (
     let o:=(↑(AJ (An a (Ah b) 0)):Int)
     cond (o==10) (
      let j:=(Ae .i64 (b+1))
      d (a,j,e)) (
      chk (ixl b a) (
       let g:=(↑(AJ (An a (Ah b) 0)):Int)
       cond (g==13) (
        let i:=(Ae .i64 (b+1))
        d (a,i,e)) (
        chk (ixl b a) (
         let q:=(↑(AJ (An a (Ah b) 0)):Int)
         cond (q==32) (
          let k:=(Ae .i64 (b+1))
          d (a,k,e)) (
          f))))))))) (
  f)
theorem aa5(N:Nat):LB (ny N) jx (jX N):=λ_ _=>by kernel_rfl
def gY(N:Nat)(d:Bs)(a b:Int)(e:jW->Ro):Ro:=
 e (d,a,b)
def uC(N:Nat)(d:Bs)(a b:Int):Ro:=gY N d a b (λz=>aK N (jX N) z)
theorem ab3(N:Nat)(a:Bs)(g d:Int)(h:Tot (uC N a g d) (λz=>∃(j:Bs)(k:Int)(i:Int)(rest:List ai),z.1.dimR=.tup []∧z.2=some [.str j,.int .i64 k,.int .i64 i]::rest∧rL a g d (j,k,i))):∃r,dm a g d r:=FnK.finO (css:=[[.str a,.int .i64 g,.int .i64 d]]) adB (N:=N) ((cz _ (by kernel_rfl) rfl (λC=>gY N a g d (λz=>C 1000000 (jx z))) (λC=>by kernel_rfl)).trans (A8 (b:=gY N a g d (λz=>bi N (ny N) (jx z))) (by kernel_rfl) (congrArg (gY N a g d) (funext λz=>bm (jx) (ny N) (jX N) (aa5 N) N z)))) h λ_ ⟨j,k,i,_,e,f,q⟩=>⟨(j,k,i),e,⟨_,f⟩,q⟩
noncomputable def aig:aq:=tab (P:=Tryd.prog) [] [lA] [] []
def ahc:IR:=Rs [Mb 4 false] (Rs [Mv 5 0,Ca 6 30 [5]] (Sq (Sq (.reg [Mv 7 0,Nk 8 7,Fa 9 2 8,Fo [0] [] (.ld 10 1 false false 9),Bc 11 .neq 10 0,Mv 12 11,Gf 12 (.mov 13 0),Gf 12 (.nck 14 13),Gf 12 (.fad 15 1 14),⟨some (12,false),.ld 16 1 false false 15,some ([0],[])⟩,Gf 12 (.mov 17 1),Gf 12 (.lens 18 17),Gf 12 (.bin 19 .add 16 18),Gf 12 (.mov 20 0),Gf 12 (.nck 21 20),Gf 12 (.fad 22 0 21),⟨some (12,false),.ld 23 1 false false 22,some ([0],[])⟩,Gf 12 (.lens 24 23),Gf 12 (.bin 25 .gtr 19 24),Po 26 12 25,Mv 27 26,Gf 27 (.mov 28 0),Gf 27 (.nck 29 28),Gf 27 (.fad 30 0 29),⟨some (27,false),.ld 31 1 false false 30,some ([0],[])⟩,Gf 27 (.mov 32 0),Gf 27 (.nck 33 32),Gf 27 (.fad 34 1 33),⟨some (27,false),.ld 35 1 false false 34,some ([0],[])⟩,Gf 27 (.mov 36 0),Gf 27 (.nck 37 36),Gf 27 (.fad 38 1 37),⟨some (27,false),.ld 39 1 false false 38,some ([0],[])⟩,Gf 27 (.mov 40 1),Gf 27 (.lens 41 40),Gf 27 (.bin 42 .add 39 41),Gf 27 (.subs 43 31 (some 35) (some 42)),Gf 27 (.mov 44 1),Gf 27 (.bin 45 .neq 43 44),Po 46 27 45] [[],[0],[0,1],[0,1,2],rg 0 3,rg 0 4,rg 0 5,rg 0 6,rg 0 7,rg 0 8,rg 0 5,rg 0 5++[10],rg 0 11,rg 0 5,rg 0 5++[13],rg 0 5++[13,14],rg 0 5++[13,14,15],rg 0 5++rg 13 16,rg 0 17,rg 0 18,rg 0 19,rg 0 20,rg 0 21,rg 0 22,rg 0 23,rg 0 20,rg 0 20++[25],rg 0 20++[25,26],rg 0 20++[25,26,27],rg 0 20,rg 0 20++[29],rg 0 20++[29,30],rg 0 20++[29,30,31],rg 0 20,rg 0 20++[33],rg 0 20++rg 29 34,rg 0 35,rg 0 20,rg 0 37,rg 0 38]) (Cn 46 (Rs [Mb 4 false] .ret) .skip)) (Rs [Mv 47 0,Mv 48 0,Nk 49 48,Fa 50 1 49,Lo 51 50,Mv 52 1,Pp (.lens 53 52),Bi 54 .add 51 53,Nk 55 47,Fa 56 1 55,Sv 1 56 54] (Rs [Mb 4 true] .ret))))
def ahd:List RV:=[.t 4]
theorem ahe:FnC Tryd.prog aig [30,2000030] 1 yM Tryd.f64 ahc ahd:=fnC Tryd.func64
def xH(N:Nat)(b:Bs)(e d:Int)(h:Bs):Ro:=
 let f:=λt p i o=>(some (.bool t,[some [.str p,.int .i64 i,.int .i64 o]]):Ro)
 af (dm b e d) (λa=>
  cond (!(a.2.2==0)) (
   f false a.1 a.2.1 a.2.2) (
   let m:=(↑(Aa h):Int)
   let q:=(Ae .i64 (a.2.1+m))
   let v:=(↑(Aa a.1):Int)
   cond (decide (v<q)) (
    f false a.1 a.2.1 a.2.2) (
    let u:=(↑(Aa h):Int)
    let g:=(Ae .i64 (a.2.1+u))
    chk ((decide (0<=g)&&decide (g<=(↑(Aa a.1):Int))&&(decide (0<=a.2.1)&&decide (a.2.1<=g)))) (
     let j:=(Bd (Ah a.2.1) (Br (Ah g) a.1))
     cond (!decide (j=h)) (
      f false a.1 a.2.1 a.2.2) (
      let k:=(↑(Aa h):Int)
      let w:=(Ae .i64 (a.2.1+k))
      f true a.1 w a.2.2)))))
def xI(N:Nat)(b:Bs)(d a:Int)(e:Bs):Ro:=xH N b d a e
theorem agj(N:Nat)(a:Bs)(d b:Int)(m:Bs)(h:Tot (xI N a d b m) (λz=>∃(j:Bool)(k:Bs)(i:Int)(g:Int)(rest:List ai),z.1.dimR=.bool j∧z.2=some [.str k,.int .i64 i,.int .i64 g]::rest∧je a d b m (j,k,i,g))):∃r,bC a d b m r:=FnK.finO (css:=[[.str a,.int .i64 d,.int .i64 b]]) ahe (N:=N) (by kernel_rfl) h λ_ ⟨j,k,i,g,_,e,f,q⟩=>⟨(j,k,i,g),e,⟨_,f⟩,q⟩
noncomputable def agk:aq:=tab (P:=Tryd.prog) [] [gi,n8] [] []
def ae0:IR:=Rs [Mv 4 0,Mv 5 1,Ca 6 64 [4,5],Un 7 6] (Cn 7 (Rg [Mv 8 0,Ca 9 31 [8,kI 2]]) .skip)
def ae1:List RV:=[]
theorem ae2:FnC Tryd.prog agk [31,64,2000031,2000064] 1 wJ Tryd.f94 ae0 ae1:=fnC Tryd.func94
def vi(N:Nat)(b:Bs)(e d:Int)(g:Bs):Ro:=
 af (bC b e d g) (λa=>
  cond (!a.1) (
   af (bL a.2.1 a.2.2.1 a.2.2.2 2) (λf=>
    some (.tup [],[some [.str f.1,.int .i64 f.2.1,.int .i64 f.2.2]]))) (
   some (.tup [],[some [.str a.2.1,.int .i64 a.2.2.1,.int .i64 a.2.2.2]])))
def vj(N:Nat)(b:Bs)(d a:Int)(e:Bs):Ro:=vi N b d a e
theorem adC(N:Nat)(a:Bs)(d b:Int)(k:Bs)(h:Tot (vj N a d b k) (λz=>∃(i:Bs)(j:Int)(g:Int)(rest:List ai),z.1.dimR=.tup []∧z.2=some [.str i,.int .i64 j,.int .i64 g]::rest∧tc a d b k (i,j,g))):∃r,bS a d b k r:=FnK.finO (css:=[[.str a,.int .i64 d,.int .i64 b]]) ae2 (N:=N) (by kernel_rfl) h λ_ ⟨i,j,g,_,e,f,q⟩=>⟨(i,j,g),e,⟨_,f⟩,q⟩
noncomputable def agl:aq:=tab (P:=Tryd.prog) [] [lA,gi,wM,agd,aeY,adz,n8] [] []
def ae3:IR:=Rs [Pp (.new 4 [vI 0,vI 0,vS,nl .jnode,nl .str])] (Rs [Mv 6 0,Ca 7 30 [6]] (Sq (Sq (.reg [Mv 8 0,Nk 9 8,Fa 10 2 9,Fo [0] [] (.ld 11 1 false false 10),Bc 12 .neq 11 0,Mv 13 12,Gf 13 (.mov 14 0),Gf 13 (.nck 15 14),Gf 13 (.fad 16 1 15),⟨some (13,false),.ld 17 1 false false 16,some ([0],[])⟩,Gf 13 (.mov 18 0),Gf 13 (.nck 19 18),Gf 13 (.fad 20 0 19),⟨some (13,false),.ld 21 1 false false 20,some ([0],[])⟩,Gf 13 (.lens 22 21),Gf 13 (.bin 23 .eql 17 22),Po 24 13 23] [[],[0],[0,1],[0,1,2],rg 0 3,rg 0 4,rg 0 5,rg 0 6,rg 0 7,rg 0 8,rg 0 5,rg 0 5++[10],rg 0 5++[10,11],rg 0 5++[10,11,12],rg 0 5++rg 10 13,rg 0 14,rg 0 15]) (Cn 24 (Rs [Mv 25 0,Ca 26 31 [25,kI 2]] (Rs [Pp (.bld 27 [vI 0,vI 0,vS,fu .jnode true,fu .str true] []),Sv 5 4 27] .ret)) .skip)) (Sq (.reg [Mv 28 0,Nk 29 28,Fa 30 0 29,Fo [0] [] (.ld 31 1 false false 30),Mv 32 0,Nk 33 32,Fa 34 1 33,Fo [0] [] (.ld 35 1 false false 34),Pp (.idx 36 31 35),Mv 5 36] [[],[0],[0,1],[0,1,2],[],[4],[4,5],[4,5,6],rg 0 7,rg 0 8]) (Sq (.block 0 (Rs [Mv 38 5,Pp (.bin 39 .eql 38 (.c (.int .u8 34))),Mv 37 39] (Cn 37 (Rs [Mv 40 0,Ca 41 60 [40],Pp (.bld 42 [vI 0,vI 0,vS,fu .jnode true,fu .str true] [(0,1,kI 4),(2,1,41)]),Sv 5 4 42] .ret) (Rs [Mv 44 5,Pp (.bin 45 .eql 44 (.c (.int .u8 91))),Mv 46 45,Gf 46 (.mov 47 5),Gf 46 (.bin 48 .eql 47 (.c (.int .u8 123))),Po 49 46 48,Mv 43 49] (Cn 43 (Sq (Rs [Mv 50 1,Bc 51 .gtr 50 20] (Cn 51 (Rs [Mv 52 0,Ca 53 31 [52,kI 3]] (Rs [Pp (.bld 54 [vI 0,vI 0,vS,fu .jnode true,fu .str true] []),Sv 5 4 54] .ret)) .skip)) (Sq (Rs [Mv 55 5,Pp (.bin 56 .eql 55 (.c (.int .u8 91)))] (Cn 56 (Rs [Mv 57 0,Mv 58 1,Ca 59 61 [57,58],Sv 5 4 59] .ret) .skip)) (Rs [Mv 60 0,Mv 61 1,Ca 62 62 [60,61],Sv 5 4 62] .ret))) (Rs [Mv 64 5,Pp (.bin 65 .eql 64 (.c (.int .u8 45))),Mv 66 65,Gf 66 (.mov 67 5),Gf 66 (.bin 68 .geq 67 (.c (.int .u8 48))),Gf 66 (.mov 69 68),Gt 69 (.mov 70 5),Gt 69 (.bin 71 .leq 70 (.c (.int .u8 57))),Gf 66 (.pick 72 69 71 (kB false)),Po 73 66 72,Mv 63 73] (Cn 63 (Rs [Mv 74 0,Ca 75 63 [74],Sv 5 4 75] .ret) (Rs [Mv 77 0,Ca 78 64 [77,kS [110,117,108,108]],Mv 76 78] (Cn 76 (Rs [Pp (.bld 79 [vI 0,vI 0,vS,fu .jnode true,fu .str true] [(0,1,kI 1)]),Sv 5 4 79] .ret) (Rs [Mv 81 0,Ca 82 64 [81,kS [116,114,117,101]],Mv 80 82] (Cn 80 (Rs [Pp (.bld 83 [vI 0,vI 0,vS,fu .jnode true,fu .str true] [(0,1,kI 2),(1,1,kI 1)]),Sv 5 4 83] .ret) (Rs [Mv 85 0,Ca 86 64 [85,kS [102,97,108,115,101]],Mv 84 86] (Cn 84 (Rs [Pp (.bld 87 [vI 0,vI 0,vS,fu .jnode true,fu .str true] [(0,1,kI 2)]),Sv 5 4 87] .ret) .skip))))))))))))) (Rs [Mv 88 0,Ca 89 31 [88,kI 2]] (Rs [Pp (.bld 90 [vI 0,vI 0,vS,fu .jnode true,fu .str true] []),Sv 5 4 90] .ret))))))
def ae4:List RV:=[.cell 4 5 true]
theorem ae5:FnC Tryd.prog agl [30,31,60,61,62,63,64,2000030,2000031,2000060,2000061,2000062,2000063,2000064] 1 wL Tryd.f29 ae3 ae4:=fnC Tryd.func29
def vk(N:Nat)(x:Bs)(y A w:Int):Ro:=
 let b:=λH I J C M L O Q P=>(some (.agg [.int .i64 H,.int .i64 I,.str J,.sl .jnode (.may C) M,.sl .str (.may C) L],[some [.str O,.int .i64 Q,.int .i64 P],some [.int .i64 H,.int .i64 I,.str J,.sl .jnode (.may C) M,.sl .str (.may C) L]]):Ro)
 af (dm x y A) (λa=>
  cond (!(a.2.2==0)) (
   af (bL a.1 a.2.1 a.2.2 2) (λF=>
    b 0 0 ([]:Bs) true ([]:List aa) ([]:Bss) F.1 F.2.1 F.2.2)) (
   let R:=(↑(Aa a.1):Int)
   cond (a.2.1==R) (
    af (bL a.1 a.2.1 a.2.2 2) (λE=>
     b 0 0 ([]:Bs) true ([]:List aa) ([]:Bss) E.1 E.2.1 E.2.2)) (
    chk (ixl a.2.1 a.1) (
     let p:=(↑(AJ (An a.1 (Ah a.2.1) 0)):Int)
     cond (p==34) (
      af (gj a.1 a.2.1 a.2.2) (λB=>
       b 4 0 B.1 true ([]:List aa) ([]:Bss) B.2.1 B.2.2.1 B.2.2.2)) (
      cond (p==91) (
       cond (decide (20<w)) (
        af (bL a.1 a.2.1 a.2.2 3) (λG=>
         b 0 0 ([]:Bs) true ([]:List aa) ([]:Bss) G.1 G.2.1 G.2.2)) (
        cond (p==91) (
         af (gk a.1 a.2.1 a.2.2 w) (λt=>
          b t.1.kind t.1.n t.1.s false t.1.l t.1.names t.2.1 t.2.2.1 t.2.2.2)) (
         af (fq a.1 a.2.1 a.2.2 w) (λq=>
          b q.1.kind q.1.n q.1.s false q.1.l q.1.names q.2.1 q.2.2.1 q.2.2.2)))) (
       cond (p==123) (
        cond (decide (20<w)) (
         af (bL a.1 a.2.1 a.2.2 3) (λD=>
          b 0 0 ([]:Bs) true ([]:List aa) ([]:Bss) D.1 D.2.1 D.2.2)) (
         cond (p==91) (
          af (gk a.1 a.2.1 a.2.2 w) (λo=>
           b o.1.kind o.1.n o.1.s false o.1.l o.1.names o.2.1 o.2.2.1 o.2.2.2)) (
          af (fq a.1 a.2.1 a.2.2 w) (λe=>
           b e.1.kind e.1.n e.1.s false e.1.l e.1.names e.2.1 e.2.2.1 e.2.2.2)))) (
        cond (p==45) (
         af (eU a.1 a.2.1 a.2.2) (λf=>
          b f.1.kind f.1.n f.1.s false f.1.l f.1.names f.2.1 f.2.2.1 f.2.2.2)) (
         cond (decide (48<=p)) (
          cond (decide (p<=57)) (
           af (eU a.1 a.2.1 a.2.2) (λd=>
            b d.1.kind d.1.n d.1.s false d.1.l d.1.names d.2.1 d.2.2.1 d.2.2.2)) (
           af (bC a.1 a.2.1 a.2.2 ([110,117,108,108]:Bs)) (λg=>
            cond g.1 (
             b 1 0 ([]:Bs) true ([]:List aa) ([]:Bss) g.2.1 g.2.2.1 g.2.2.2) (
             af (bC g.2.1 g.2.2.1 g.2.2.2 ([116,114,117,101]:Bs)) (λj=>
              cond j.1 (
               b 2 1 ([]:Bs) true ([]:List aa) ([]:Bss) j.2.1 j.2.2.1 j.2.2.2) (
               af (bC j.2.1 j.2.2.1 j.2.2.2 ([102,97,108,115,101]:Bs)) (λm=>
                cond m.1 (
                 b 2 0 ([]:Bs) true ([]:List aa) ([]:Bss) m.2.1 m.2.2.1 m.2.2.2) (
                 af (bL m.2.1 m.2.2.1 m.2.2.2 2) (λv=>
                  b 0 0 ([]:Bs) true ([]:List aa) ([]:Bss) v.1 v.2.1 v.2.2))))))))) (
          af (bC a.1 a.2.1 a.2.2 ([110,117,108,108]:Bs)) (λk=>
           cond k.1 (
            b 1 0 ([]:Bs) true ([]:List aa) ([]:Bss) k.2.1 k.2.2.1 k.2.2.2) (
            af (bC k.2.1 k.2.2.1 k.2.2.2 ([116,114,117,101]:Bs)) (λi=>
             cond i.1 (
              b 2 1 ([]:Bs) true ([]:List aa) ([]:Bss) i.2.1 i.2.2.1 i.2.2.2) (
              af (bC i.2.1 i.2.2.1 i.2.2.2 ([102,97,108,115,101]:Bs)) (λh=>
               cond h.1 (
                b 2 0 ([]:Bs) true ([]:List aa) ([]:Bss) h.2.1 h.2.2.1 h.2.2.2) (
                af (bL h.2.1 h.2.2.1 h.2.2.2 2) (λu=>
                 b 0 0 ([]:Bs) true ([]:List aa) ([]:Bss) u.1 u.2.1 u.2.2))))))))))))))))
def vl(N:Nat)(b:Bs)(d a e:Int):Ro:=vk N b d a e
theorem adD(N:Nat)(a:Bs)(d b m:Int)(h:Tot (vl N a d b m) (λz=>∃(j:aa)(k:Bs)(i:Int)(g:Int)(rest:List ai),z.1.dimR=.agg (enc .jnode j)∧z.2=some [.str k,.int .i64 i,.int .i64 g]::rest∧td a d b m (j,k,i,g))):∃r,db a d b m r:=FnK.finO (css:=[[.str a,.int .i64 d,.int .i64 b]]) ae5 (N:=N) (by kernel_rfl) h λ_ ⟨j,k,i,g,_,e,f,q⟩=>⟨(j,k,i,g),e,⟨_,f⟩,q⟩
noncomputable def agm:aq:=tab (P:=Tryd.prog) [] [lA,gi] [] [akP]
def ae6:IR:=Rs [Ms 2 []] (Rs [Mv 6 0,Ca 7 30 [6]] (Sq (Rs [Mv 8 0,Nk 9 8,Fa 10 2 9,Lo 11 10,Bc 12 .neq 11 0] (Cn 12 (Rs [Ms 2 []] .ret) .skip)) (Sq (.reg [Mv 14 0,Nk 15 14,Fa 16 0 15,Fo [0] [] (.ld 17 1 false false 16),Mv 18 0,Nk 19 18,Fa 20 1 19,Fo [0] [] (.ld 21 1 false false 20),Pp (.subs 22 17 (some 21) none),Ca 23 93 [22],Mv 13 23,Ex_ 24 0 13,Ex_ 25 1 13,Ex_ 26 2 13,Mv 3 24,Mv 4 25,Mv 5 26] [[],[0],[0,1],[0,1,2],[],[4],[4,5],[4,5,6],rg 0 7,rg 0 8,rg 0 9,rg 0 10,rg 0 10,rg 0 10,rg 0 11,rg 0 12++[14],rg 0 15]) (Sq (Rs [Mv 27 5,Bc 28 .neq 27 0] (Cn 28 (Rs [Mv 29 0,Mv 30 5,Ca 31 31 [29,30]] (Rs [Ms 2 []] .ret)) .skip)) (Rs [Mv 32 0,Mv 33 0,Nk 34 33,Fa 35 1 34,Lo 36 35,Mv 37 4,Bi 38 .add 36 37,Nk 39 32,Fa 40 1 39,Sv 1 40 38] (Rs [Mv 41 3,Mv 2 41] .ret))))))
def ae7:List RV:=[.t 2]
theorem ae8:FnC Tryd.prog agm [30,31,2000030,2000031] 1 wK Tryd.f60 ae6 ae7:=fnC Tryd.func60
def vm(N:Nat)(b:Bs)(e d:Int):Ro:=
 let g:=λp m i k=>(some (.str p,[some [.str m,.int .i64 i,.int .i64 k]]):Ro)
 af (dm b e d) (λa=>
  cond (!(a.2.2==0)) (
   g ([]:Bs) a.1 a.2.1 a.2.2) (
   chk ((decide (0<=a.2.1)&&decide (a.2.1<=(↑(Aa a.1):Int)))) (
    let j:=(Bd (Ah a.2.1) (Br (Aa a.1) a.1))
    af (nx j) (λf=>
     cond (!(f.2.2==0)) (
      af (bL a.1 a.2.1 a.2.2 f.2.2) (λh=>
       g ([]:Bs) h.1 h.2.1 h.2.2)) (
      let o:=(Ae .i64 (a.2.1+f.2.1))
      g f.1 a.1 o a.2.2)))))
def vn(N:Nat)(b:Bs)(d a:Int):Ro:=vm N b d a
theorem adE(N:Nat)(a:Bs)(d b:Int)(h:Tot (vn N a d b) (λz=>∃(j:Bs)(k:Bs)(i:Int)(g:Int)(rest:List ai),z.1.dimR=.str j∧z.2=some [.str k,.int .i64 i,.int .i64 g]::rest∧ni a d b (j,k,i,g))):∃r,gj a d b r:=FnK.finO (css:=[[.str a,.int .i64 d,.int .i64 b]]) ae8 (N:=N) (by kernel_rfl) h λ_ ⟨j,k,i,g,_,e,f,q⟩=>⟨(j,k,i,g),e,⟨_,f⟩,q⟩
noncomputable def au:aq:=tab (P:=Tryd.prog) [] [gi] [] []
def rk:IR:=.block 1 (Sq (.reg [Mv 66 0,Nk 67 66,Fa 68 0 67,Fo [0] [] (.ld 69 1 false false 68),Mv 70 0,Nk 71 70,Fa 72 1 71,Fo [0] [] (.ld 73 1 false false 72),Pp (.idx 74 69 73),Pp (.bin 75 .sub 74 (.c (.int .u8 48))),Pp (.cvi 76 .u64 75),Mv 7 76] [[],[0],[0,1],[0,1,2],[],[4],[4,5],[4,5,6],rg 0 7,rg 0 8,rg 0 9,rg 0 10]) (Sq (Rs [Mv 77 6,Mv 78 7,Pp (.bin 79 .sub (kU 9223372036854775808) 78),Pp (.bin 80 .quo 79 (kU 10)),Bi 81 .gtr 77 80] (Cn 81 (Rs [Mv 82 0,Ca 83 31 [82,kI 2]] (Rs [Pp (.bld 84 [vI 0,vI 0,vS,fu .jnode true,fu .str true] []),Sv 5 2 84] .ret)) .skip)) (Rs [Mv 85 6,Pp (.bin 86 .mul 85 (kU 10)),Mv 87 7,Bi 88 .add 86 87,Mv 6 88] (Rg [Mv 89 0,Nk 90 89,Fa 91 1 90,Lo 92 91,Bc 93 .add 92 1,Nk 94 89,Fa 95 1 94,Sv 1 95 93]))))
def gZ:IR:=Sq (Sq (.reg [Mv 32 0,Nk 33 32,Fa 34 1 33,Fo [0] [] (.ld 35 1 false false 34),Mv 36 0,Nk 37 36,Fa 38 0 37,Fo [0] [] (.ld 39 1 false false 38),Pp (.lens 40 39),Bi 41 .lss 35 40,Mv 42 41,Gt 42 (.mov 43 0),Gt 42 (.nck 44 43),Gt 42 (.fad 45 0 44),⟨some (42,true),.ld 46 1 false false 45,some ([0],[])⟩,Gt 42 (.mov 47 0),Gt 42 (.nck 48 47),Gt 42 (.fad 49 1 48),⟨some (42,true),.ld 50 1 false false 49,some ([0],[])⟩,Gt 42 (.idx 51 46 50),Gt 42 (.bin 52 .geq 51 (.c (.int .u8 48))),Pa 53 42 52,Mv 54 53,Gt 54 (.mov 55 0),Gt 54 (.nck 56 55),Gt 54 (.fad 57 0 56),⟨some (54,true),.ld 58 1 false false 57,some ([0],[])⟩,Gt 54 (.mov 59 0),Gt 54 (.nck 60 59),Gt 54 (.fad 61 1 60),⟨some (54,true),.ld 62 1 false false 61,some ([0],[])⟩,Gt 54 (.idx 63 58 62),Gt 54 (.bin 64 .leq 63 (.c (.int .u8 57))),Pa 65 54 64] [[],[0],[0,1],[0,1,2],[],[4],[4,5],[4,5,6],rg 4 7,rg 0 8,rg 0 9,rg 0 10,rg 0 11,rg 0 12,rg 0 13,rg 0 10,rg 0 10++[15],rg 0 10++[15,16],rg 0 10++[15,16,17],rg 0 18,rg 0 19,rg 0 20,rg 0 21,rg 0 22,rg 0 23,rg 0 24,rg 0 25,rg 0 22,rg 0 22++[27],rg 0 22++[27,28],rg 0 22++[27,28,29],rg 0 30,rg 0 31,rg 0 32]) (Cn 65 .skip (.exit 0))) (.cut [0,2,4,5,6,1000000] 2 rk)
def hH:IR:=Cn 176 (Rs [Mv 177 0,Ca 178 31 [177,kI 2]] (Rs [Pp (.bld 179 [vI 0,vI 0,vS,fu .jnode true,fu .str true] []),Sv 5 2 179] .ret)) .skip
def hJ:IR:=Cn 184 (Rs [Mv 185 6,Pp (.bin 186 .sub 185 (kU 1)),Pp (.cvi 187 .i64 186),Pp (.un 188 .neg 187),Bc 189 .sub 188 1,Pp (.bld 190 [vI 0,vI 0,vS,fu .jnode true,fu .str true] [(0,1,kI 3),(1,1,189)]),Sv 5 2 190] .ret) .skip
def qn:IR:=Rs [Mv 191 6,Pp (.cvi 192 .i64 191),Pp (.bld 193 [vI 0,vI 0,vS,fu .jnode true,fu .str true] [(0,1,kI 3),(1,1,192)]),Sv 5 2 193] .ret
def lf:IR:=.cut [2,6,1000004] 2 qn
def hY:IR:=Sq (Rs [Mv 180 4,Mv 181 180,Gt 181 (.mov 182 6),Gt 181 (.bin 183 .gtr 182 (kU 0)),Pa 184 181 183] (.cut [2,6,184,1000003] 2 hJ)) lf
def lg:IR:=.cut [2,4,6,1000005] 2 hY
def hZ:IR:=Sq (Rs [Mv 142 0,Nk 143 142,Fa 144 1 143,Lo 145 144,Mv 146 5,Bi 147 .eql 145 146,Mv 148 147,Gf 148 (.mov 149 0),Gf 148 (.nck 150 149),Gf 148 (.fad 151 0 150),Gf 148 (.ld 152 1 false false 151),Gf 148 (.mov 153 5),Gf 148 (.idx 154 152 153),Gf 148 (.bin 155 .eql 154 (.c (.int .u8 48))),Gf 148 (.mov 156 155),Gt 156 (.mov 157 0),Gt 156 (.nck 158 157),Gt 156 (.fad 159 1 158),Gt 156 (.ld 160 1 false false 159),Gt 156 (.mov 161 5),Gt 156 (.bin 162 .add 161 (kI 1)),Gt 156 (.bin 163 .gtr 160 162),Gf 148 (.pick 164 156 163 (kB false)),Po 165 148 164,Mv 166 165,Gf 166 (.mov 167 8),Po 168 166 167,Mv 169 168,Gf 169 (.mov 170 4),Gf 169 (.un 171 .not 170),Gf 169 (.mov 172 171),Gt 172 (.mov 173 6),Gt 172 (.bin 174 .gtr 173 (kU 9223372036854775807)),Gf 169 (.pick 175 172 174 (kB false)),Po 176 169 175] (.cut [0,2,4,6,176,1000002] 2 hH)) lg
def lh:IR:=Sq (.reg [Mv 96 0,Nk 97 96,Fa 98 1 97,Fo [0] [] (.ld 99 1 false false 98),Mv 100 0,Nk 101 100,Fa 102 0 101,Fo [0] [] (.ld 103 1 false false 102),Pp (.lens 104 103),Bi 105 .lss 99 104,Mv 106 105,Gt 106 (.mov 107 0),Gt 106 (.nck 108 107),Gt 106 (.fad 109 0 108),⟨some (106,true),.ld 110 1 false false 109,some ([0],[])⟩,Gt 106 (.mov 111 0),Gt 106 (.nck 112 111),Gt 106 (.fad 113 1 112),⟨some (106,true),.ld 114 1 false false 113,some ([0],[])⟩,Gt 106 (.idx 115 110 114),Gt 106 (.bin 116 .eql 115 (.c (.int .u8 46))),Gt 106 (.mov 117 116),Gf 117 (.mov 118 0),Gf 117 (.nck 119 118),Gf 117 (.fad 120 0 119),⟨some (117,false),.ld 121 1 false false 120,some ([0],[])⟩,Gf 117 (.mov 122 0),Gf 117 (.nck 123 122),Gf 117 (.fad 124 1 123),⟨some (117,false),.ld 125 1 false false 124,some ([0],[])⟩,Gf 117 (.idx 126 121 125),Gf 117 (.bin 127 .eql 126 (.c (.int .u8 101))),Gt 106 (.pick 128 117 (kB true) 127),Gt 106 (.mov 129 128),Gf 129 (.mov 130 0),Gf 129 (.nck 131 130),Gf 129 (.fad 132 0 131),⟨some (129,false),.ld 133 1 false false 132,some ([0],[])⟩,Gf 129 (.mov 134 0),Gf 129 (.nck 135 134),Gf 129 (.fad 136 1 135),⟨some (129,false),.ld 137 1 false false 136,some ([0],[])⟩,Gf 129 (.idx 138 133 137),Gf 129 (.bin 139 .eql 138 (.c (.int .u8 69))),Gt 106 (.pick 140 129 (kB true) 139),Pa 141 106 140,Mv 8 141] [[],[0],[0,1],[0,1,2],[],[4],[4,5],[4,5,6],rg 4 7,rg 0 8,rg 0 9,rg 0 10,rg 0 11,rg 0 12,rg 0 13,rg 0 10,rg 0 10++[15],rg 0 10++[15,16],rg 0 10++[15,16,17],rg 0 18,rg 0 19,rg 0 20,rg 0 21,rg 0 22,rg 0 23,rg 0 24,rg 0 21,rg 0 21++[26],rg 0 21++[26,27],rg 0 21++[26,27,28],rg 0 29,rg 0 30,rg 0 31,rg 0 32,rg 0 33,rg 0 34,rg 0 35,rg 0 36,rg 0 33,rg 0 33++[38],rg 0 33++[38,39],rg 0 33++[38,39,40],rg 0 41,rg 0 42,rg 0 43,rg 0 44,rg 0 45]) (.cut [0,2,4,5,6,8,1000006] 2 hZ)
def ia:IR:=Rs [Mv 28 0,Nk 29 28,Fa 30 1 29,Lo 31 30,Mv 5 31] (Rs [Pp (.mov 6 (kU 0))] (Sq (.block 0 (.loop [0,2,4,5,6,1000001] 2 gZ)) lh))
def ab4:IR:=Rs [Pp (.new 2 [vI 0,vI 0,vS,nl .jnode,nl .str])] (Rs [Mv 9 0,Nk 10 9,Fa 11 1 10,Lo 12 11,Mv 3 12] (Rs [Mv 13 0,Nk 14 13,Fa 15 0 14,Lo 16 15,Mv 17 3,Pp (.idx 18 16 17),Pp (.bin 19 .eql 18 (.c (.int .u8 45))),Mv 4 19] (Sq (Rs [Mv 20 4] (Cn 20 (Rg [Mv 21 0,Nk 22 21,Fa 23 1 22,Lo 24 23,Bc 25 .add 24 1,Nk 26 21,Fa 27 1 26,Sv 1 27 25]) .skip)) (.cut [0,2,4,1000007] 2 ia))))
def aQ:List RV:=[.cell 2 5 true]
theorem ab5:FnC Tryd.prog au [31,2000031] 1 uA Tryd.f63 ab4 aQ:=fnC Tryd.func63
abbrev fB:Type:=(Bool×Bs×Int×Int×Int×Int×Bs×List aa×Bss)
def eZ(x:fB):St:={env:=(.ptr 0 0::.undef::.ptr 1 0::.undef::.bool x.1::(U 189 [])),hp:=[some [.str x.2.1,.int .i64 x.2.2.1,.int .i64 x.2.2.2.1],some [.int .i64 x.2.2.2.2.1,.int .i64 x.2.2.2.2.2.1,.str x.2.2.2.2.2.2.1,.sl .jnode .own x.2.2.2.2.2.2.2.1,.sl .str .own x.2.2.2.2.2.2.2.2]]}
def jy(R:IR->(Ex->St->Ro)->St->Ro)(a:St->Ro):Ex->St->Ro:=(b7 a [0,2,4,5,6,1000001] 2 (aJ 0 (kseq (R lh) (fin aQ))))
abbrev cK:Type:=(Bool×Int×Int×Bs×Int×Int×Int×Int×Bs×List aa×Bss)
def bz(x:cK):St:={env:=(.ptr 0 0::.undef::.ptr 1 0::.undef::.bool x.1::.int .i64 x.2.1::.int .u64 x.2.2.1::(U 187 [])),hp:=[some [.str x.2.2.2.1,.int .i64 x.2.2.2.2.1,.int .i64 x.2.2.2.2.2.1],some [.int .i64 x.2.2.2.2.2.2.1,.int .i64 x.2.2.2.2.2.2.2.1,.str x.2.2.2.2.2.2.2.2.1,.sl .jnode .own x.2.2.2.2.2.2.2.2.2.1,.sl .str .own x.2.2.2.2.2.2.2.2.2.2]]}
abbrev mq:Type:=(Bool×Int×Int×Bs×Int×Int×Int×Int×Bs×List aa×Bss)
def iH(x:mq):St:={env:=(.ptr 0 0::.undef::.ptr 1 0::.undef::.bool x.1::.int .i64 x.2.1::.int .u64 x.2.2.1::(U 187 [])),hp:=[some [.str x.2.2.2.1,.int .i64 x.2.2.2.2.1,.int .i64 x.2.2.2.2.2.1],some [.int .i64 x.2.2.2.2.2.2.1,.int .i64 x.2.2.2.2.2.2.2.1,.str x.2.2.2.2.2.2.2.2.1,.sl .jnode .own x.2.2.2.2.2.2.2.2.2.1,.sl .str .own x.2.2.2.2.2.2.2.2.2.2]]}
def ms(N:Nat)(a:St->Ro):St->Ro:=λs=>run au N rk (jy (run au N) a) s
def jz(N:Nat)(d:cK->Ro)(x:mq):Ro:=
 let w:Bool:=x.1;let v:Int:=x.2.1;let q:Int:=x.2.2.1;let a:Bs:=x.2.2.2.1;let b:Int:=x.2.2.2.2.1;let e:Int:=x.2.2.2.2.2.1;let g:Int:=x.2.2.2.2.2.2.1;let j:Int:=x.2.2.2.2.2.2.2.1;let f:Bs:=x.2.2.2.2.2.2.2.2.1;let h:List aa:=x.2.2.2.2.2.2.2.2.2.1;let i:Bss:=x.2.2.2.2.2.2.2.2.2.2
 chk (ixl b a) (
  let y:=(↑(AJ (An a (Ah b) 0)):Int)
  let t:=(Ae .u8 (y-48))
  let A:=(Ae .u64 (9223372036854775808-(Ae .u64 t)))
  let u:=(Ae .u64 (Ck A 10))
  cond (decide (u<q)) (
   af (bL a b e 2) (λm=>
    some (.agg [.int .i64 0,.int .i64 0,.str ([]:Bs),.sl .jnode (.may true) ([]:List aa),.sl .str (.may true) ([]:Bss)],[some [.str m.1,.int .i64 m.2.1,.int .i64 m.2.2],some [.int .i64 0,.int .i64 0,.str ([]:Bs),.sl .jnode (.may true) ([]:List aa),.sl .str (.may true) ([]:Bss)]]))) (
   let o:=(Ae .u64 (q*10))
   let p:=(Ae .u64 (o+(Ae .u64 t)))
   let k:=(Ae .i64 (b+1))
   d (w,v,p,a,k,e,g,j,f,h,i)))
theorem zH(N:Nat)(a:St->Ro):LJ (ms N a) iH (jz N (λy=>a (bz y))):=λ_=>by kernel_rfl
abbrev fC:Type:=(Bool×Int×Int×Bool×Bs×Int×Int×Int×Int×Bs×List aa×Bss)
def dI(x:fC):St:={env:=(.ptr 0 0::.undef::.ptr 1 0::.undef::.bool x.1::.int .i64 x.2.1::.int .u64 x.2.2.1::.undef::.bool x.2.2.2.1::(U 185 [])),hp:=[some [.str x.2.2.2.2.1,.int .i64 x.2.2.2.2.2.1,.int .i64 x.2.2.2.2.2.2.1],some [.int .i64 x.2.2.2.2.2.2.2.1,.int .i64 x.2.2.2.2.2.2.2.2.1,.str x.2.2.2.2.2.2.2.2.2.1,.sl .jnode .own x.2.2.2.2.2.2.2.2.2.2.1,.sl .str .own x.2.2.2.2.2.2.2.2.2.2.2]]}
abbrev fD:Type:=(Bool×Int×Bool×Bs×Int×Int×Int×Int×Bs×List aa×Bss)
def dK(x:fD):St:={env:=(.ptr 0 0::.undef::.ptr 1 0::.undef::.bool x.1::.undef::.int .u64 x.2.1::(U 169 (.bool x.2.2.1::(U 17 [])))),hp:=[some [.str x.2.2.2.1,.int .i64 x.2.2.2.2.1,.int .i64 x.2.2.2.2.2.1],some [.int .i64 x.2.2.2.2.2.2.1,.int .i64 x.2.2.2.2.2.2.2.1,.str x.2.2.2.2.2.2.2.2.1,.sl .jnode .own x.2.2.2.2.2.2.2.2.2.1,.sl .str .own x.2.2.2.2.2.2.2.2.2.2]]}
def mt(R:IR->(Ex->St->Ro)->St->Ro):Ex->St->Ro:=(kseq (R lg) (fin aQ))
abbrev fE:Type:=(Bool×Int×Bs×Int×Int×Int×Int×Bs×List aa×Bss)
def dL(x:fE):St:={env:=(.undef::.undef::.ptr 1 0::.undef::.bool x.1::.undef::.int .u64 x.2.1::(U 187 [])),hp:=[some [.str x.2.2.1,.int .i64 x.2.2.2.1,.int .i64 x.2.2.2.2.1],some [.int .i64 x.2.2.2.2.2.1,.int .i64 x.2.2.2.2.2.2.1,.str x.2.2.2.2.2.2.2.1,.sl .jnode .own x.2.2.2.2.2.2.2.2.1,.sl .str .own x.2.2.2.2.2.2.2.2.2]]}
abbrev fF:Type:=(Int×Bool×Bs×Int×Int×Int×Int×Bs×List aa×Bss)
def dM(x:fF):St:={env:=(.undef::.undef::.ptr 1 0::(U 3 (.int .u64 x.1::(U 177 (.bool x.2.1::(U 9 [])))))),hp:=[some [.str x.2.2.1,.int .i64 x.2.2.2.1,.int .i64 x.2.2.2.2.1],some [.int .i64 x.2.2.2.2.2.1,.int .i64 x.2.2.2.2.2.2.1,.str x.2.2.2.2.2.2.2.1,.sl .jnode .own x.2.2.2.2.2.2.2.2.1,.sl .str .own x.2.2.2.2.2.2.2.2.2]]}
def mu(R:IR->(Ex->St->Ro)->St->Ro):Ex->St->Ro:=(kseq (R lf) (fin aQ))
abbrev mv:Type:=(Int×Bs×Int×Int×Int×Int×Bs×List aa×Bss)
def iI(x:mv):St:={env:=(.undef::.undef::.ptr 1 0::(U 3 (.int .u64 x.1::(U 187 [])))),hp:=[some [.str x.2.1,.int .i64 x.2.2.1,.int .i64 x.2.2.2.1],some [.int .i64 x.2.2.2.2.1,.int .i64 x.2.2.2.2.2.1,.str x.2.2.2.2.2.2.1,.sl .jnode .own x.2.2.2.2.2.2.2.1,.sl .str .own x.2.2.2.2.2.2.2.2]]}
def mw(N:Nat):St->Ro:=λs=>run au N qn (fin aQ) s
def jA(N:Nat)(x:mv):Ro:=
 let f:Int:=x.1;let a:Bs:=x.2.1;let d:Int:=x.2.2.1;let b:Int:=x.2.2.2.1;let h:Int:=x.2.2.2.2.1;let j:Int:=x.2.2.2.2.2.1;let g:Bs:=x.2.2.2.2.2.2.1;let i:List aa:=x.2.2.2.2.2.2.2.1;let e:Bss:=x.2.2.2.2.2.2.2.2
 some (.agg [.int .i64 3,.int .i64 (Ae .i64 f),.str ([]:Bs),.sl .jnode (.may true) ([]:List aa),.sl .str (.may true) ([]:Bss)],[some [.str a,.int .i64 d,.int .i64 b],some [.int .i64 3,.int .i64 (Ae .i64 f),.str ([]:Bs),.sl .jnode (.may true) ([]:List aa),.sl .str (.may true) ([]:Bss)]])
theorem zI(N:Nat):LJ (mw N) iI (jA N):=λ_=>by kernel_rfl
def jB(N:Nat):St->Ro:=λs=>run au N hJ (mu (run au N)) s
def iJ(N:Nat)(q:mv->Ro)(x:fF):Ro:=
 let p:Int:=x.1;let h:Bool:=x.2.1;let a:Bs:=x.2.2.1;let d:Int:=x.2.2.2.1;let b:Int:=x.2.2.2.2.1;let i:Int:=x.2.2.2.2.2.1;let k:Int:=x.2.2.2.2.2.2.1;let g:Bs:=x.2.2.2.2.2.2.2.1;let j:List aa:=x.2.2.2.2.2.2.2.2.1;let e:Bss:=x.2.2.2.2.2.2.2.2.2
 cond h (
  let m:=(Ae .u64 (p-1))
  let o:=(Ae .i64 (0-(Ae .i64 m)))
  let f:=(Ae .i64 (o-1))
  some (.agg [.int .i64 3,.int .i64 f,.str ([]:Bs),.sl .jnode (.may true) ([]:List aa),.sl .str (.may true) ([]:Bss)],[some [.str a,.int .i64 d,.int .i64 b],some [.int .i64 3,.int .i64 f,.str ([]:Bs),.sl .jnode (.may true) ([]:List aa),.sl .str (.may true) ([]:Bss)]])) (
  q (p,a,d,b,i,k,g,j,e))
def jC(N:Nat)(x:fF):Ro:=iJ N (λz=>jA N z) x
def my(N:Nat):List (Nat×(St->Ro)):=(dv au N hJ (mu (run au N))++(dv au N lf (fin aQ)++[]))
theorem zJ(N:Nat):∀(x:fF),jB N (dM x)=jC N x:=by
 intro x;have b:∀C:Nat->St->Ro,cN C au N hJ (mu (cN C au N)) (dM x)=iJ N (λz=>C 1000004 (iI z)) x:=by intro C;kernel_rfl
 have h:jB N (dM x)=iJ N (λz=>mw N (iI z)) x:=(fZ (C:=jV (my N)) (eq (bU (l:=(my N)) (by kernel_rfl))) (qI (eq (mO (bU (l:=(my N)) (by kernel_rfl)))) rfl) _).trans ((b _).trans (by kernel_rfl));have a:(λz=>mw N (iI z))=(λz=>jA N z):=funext λz=>zI N z
 rw[h,a];rfl
def jD(N:Nat):St->Ro:=λs=>run au N hY (fin aQ) s
def iK(N:Nat)(m:fF->Ro)(x:fE):Ro:=
 let o:Bool:=x.1;let j:Int:=x.2.1;let b:Bs:=x.2.2.1;let f:Int:=x.2.2.2.1;let e:Int:=x.2.2.2.2.1;let g:Int:=x.2.2.2.2.2.1;let i:Int:=x.2.2.2.2.2.2.1;let d:Bs:=x.2.2.2.2.2.2.2.1;let h:List aa:=x.2.2.2.2.2.2.2.2.1;let a:Bss:=x.2.2.2.2.2.2.2.2.2;let k:=λp=>m (j,p,b,f,e,g,i,d,h,a)
 cond o (
  k (decide (0<j))) (
  k false)
def jE(N:Nat)(x:fE):Ro:=iK N (λz=>jC N z) x
def rR(N:Nat):List (Nat×(St->Ro)):=(dv au N hY (fin aQ)++[])
theorem zK(N:Nat):∀(x:fE),jD N (dL x)=jE N x:=by
 intro x;have a:∀C:Nat->St->Ro,cN C au N hY (fin aQ) (dL x)=iK N (λz=>C 1000003 (dM z)) x:=by intro C;kernel_rfl
 have h:jD N (dL x)=iK N (λz=>jB N (dM z)) x:=(fZ (C:=jV (rR N)) (eq (bU (l:=(rR N)) (by kernel_rfl))) rfl _).trans ((a _).trans (by kernel_rfl));have b:(λz=>jB N (dM z))=(λz=>jC N z):=funext λz=>zJ N z
 rw[h,b];rfl
def jF(N:Nat):St->Ro:=λs=>run au N hH (mt (run au N)) s
def iL(N:Nat)(m:fE->Ro)(x:fD):Ro:=
 let p:Bool:=x.1;let o:Int:=x.2.1;let f:Bool:=x.2.2.1;let a:Bs:=x.2.2.2.1;let d:Int:=x.2.2.2.2.1;let b:Int:=x.2.2.2.2.2.1;let h:Int:=x.2.2.2.2.2.2.1;let j:Int:=x.2.2.2.2.2.2.2.1;let g:Bs:=x.2.2.2.2.2.2.2.2.1;let i:List aa:=x.2.2.2.2.2.2.2.2.2.1;let e:Bss:=x.2.2.2.2.2.2.2.2.2.2
 cond f (
  af (bL a d b 2) (λk=>
   some (.agg [.int .i64 0,.int .i64 0,.str ([]:Bs),.sl .jnode (.may true) ([]:List aa),.sl .str (.may true) ([]:Bss)],[some [.str k.1,.int .i64 k.2.1,.int .i64 k.2.2],some [.int .i64 0,.int .i64 0,.str ([]:Bs),.sl .jnode (.may true) ([]:List aa),.sl .str (.may true) ([]:Bss)]]))) (
  m (p,o,a,d,b,h,j,g,i,e))
def fG(N:Nat)(x:fD):Ro:=iL N (λz=>jE N z) x
def mz(N:Nat):List (Nat×(St->Ro)):=(dv au N hH (mt (run au N))++(dv au N lg (fin aQ)++[]))
theorem zL(N:Nat):∀(x:fD),jF N (dK x)=fG N x:=by
 intro x;have b:∀C:Nat->St->Ro,cN C au N hH (mt (cN C au N)) (dK x)=iL N (λz=>C 1000005 (dL z)) x:=by intro C;kernel_rfl
 have h:jF N (dK x)=iL N (λz=>jD N (dL z)) x:=(fZ (C:=jV (mz N)) (eq (bU (l:=(mz N)) (by kernel_rfl))) (qI (eq (mO (bU (l:=(mz N)) (by kernel_rfl)))) rfl) _).trans ((b _).trans (by kernel_rfl));have a:(λz=>jD N (dL z))=(λz=>jE N z):=funext λz=>zK N z
 rw[h,a];rfl
def jG(N:Nat):St->Ro:=λs=>run au N hZ (fin aQ) s
def iM(N:Nat)(y:fD->Ro)(x:fC):Ro:=
 let p:Bool:=x.1;let k:Int:=x.2.1;let o:Int:=x.2.2.1;let v:Bool:=x.2.2.2.1;let a:Bs:=x.2.2.2.2.1;let b:Int:=x.2.2.2.2.2.1;let f:Int:=x.2.2.2.2.2.2.1;let g:Int:=x.2.2.2.2.2.2.2.1;let j:Int:=x.2.2.2.2.2.2.2.2.1;let e:Bs:=x.2.2.2.2.2.2.2.2.2.1;let h:List aa:=x.2.2.2.2.2.2.2.2.2.2.1;let i:Bss:=x.2.2.2.2.2.2.2.2.2.2.2;let d:=λw=>y (p,o,w,a,b,f,g,j,e,h,i)
 cond (b==k) (
  d true) (
  chk (ixl k a) (
   let m:=(↑(AJ (An a (Ah k) 0)):Int)
   cond (m==48) (
    let q:=(Ae .i64 (k+1))
    cond (decide (q<b)) (
     d true) (
     cond v (
      d true) (
      cond (!p) (
       let t:=decide (9223372036854775807<o)
       d t) (
       d false)))) (
    cond v (
     d true) (
     cond (!p) (
      let u:=decide (9223372036854775807<o)
      d u) (
      d false)))))
def fH(N:Nat)(x:fC):Ro:=iM N (λz=>fG N z) x
def rS(N:Nat):List (Nat×(St->Ro)):=(dv au N hZ (fin aQ)++[])
theorem zM(N:Nat):∀(x:fC),jG N (dI x)=fH N x:=by
 intro x;have b:∀C:Nat->St->Ro,cN C au N hZ (fin aQ) (dI x)=iM N (λz=>C 1000002 (dK z)) x:=by intro C;kernel_rfl
 have h:jG N (dI x)=iM N (λz=>jF N (dK z)) x:=(fZ (C:=jV (rS N)) (eq (bU (l:=(rS N)) (by kernel_rfl))) rfl _).trans ((b _).trans (by kernel_rfl));have a:(λz=>jF N (dK z))=(λz=>fG N z):=funext λz=>zL N z
 rw[h,a];rfl
def fI(N:Nat):(St->Ro)->St->Ro:=λa s=>run au N gZ (jy (run au N) a) s
def iN(N:Nat)(k:cK->Ro)(J:mq->Ro)(G:fC->Ro)(x:cK):Ro:=
 let F:Bool:=x.1;let E:Int:=x.2.1;let D:Int:=x.2.2.1;let a:Bs:=x.2.2.2.1;let b:Int:=x.2.2.2.2.1;let f:Int:=x.2.2.2.2.2.1;let g:Int:=x.2.2.2.2.2.2.1;let j:Int:=x.2.2.2.2.2.2.2.1;let e:Bs:=x.2.2.2.2.2.2.2.2.1;let h:List aa:=x.2.2.2.2.2.2.2.2.2.1;let i:Bss:=x.2.2.2.2.2.2.2.2.2.2;let I:=(↑(Aa a):Int)
 let d:=λH=>G (F,E,D,H,a,b,f,g,j,e,h,i)
 cond (decide (b<I)) (
  chk (ixl b a) (
   let M:=(↑(AJ (An a (Ah b) 0)):Int)
   cond (decide (48<=M)) (
    chk (ixl b a) (
     let L:=(↑(AJ (An a (Ah b) 0)):Int)
     cond (decide (L<=57)) (
      J (F,E,D,a,b,f,g,j,e,h,i)) (
      let A:=(↑(Aa a):Int)
      cond (decide (b<A)) (
       chk (ixl b a) (
        let y:=(↑(AJ (An a (Ah b) 0)):Int)
        cond (y==46) (
         d true) (
         chk (ixl b a) (
          let m:=(↑(AJ (An a (Ah b) 0)):Int)
          cond (m==101) (
           d true) (
           chk (ixl b a) (
            let q:=(↑(AJ (An a (Ah b) 0)):Int)
            d (q==69))))))) (
       d false)))) (
    let u:=(↑(Aa a):Int)
    cond (decide (b<u)) (
     chk (ixl b a) (
      let B:=(↑(AJ (An a (Ah b) 0)):Int)
      cond (B==46) (
       d true) (
       chk (ixl b a) (
        let p:=(↑(AJ (An a (Ah b) 0)):Int)
        cond (p==101) (
         d true) (
         chk (ixl b a) (
          let t:=(↑(AJ (An a (Ah b) 0)):Int)
          d (t==69))))))) (
     d false)))) (
  let v:=(↑(Aa a):Int)
  cond (decide (b<v)) (
   chk (ixl b a) (
    let o:=(↑(AJ (An a (Ah b) 0)):Int)
    cond (o==46) (
     d true) (
     chk (ixl b a) (
      let w:=(↑(AJ (An a (Ah b) 0)):Int)
      cond (w==101) (
       d true) (
       chk (ixl b a) (
        let C:=(↑(AJ (An a (Ah b) 0)):Int)
        d (C==69))))))) (
   d false))
def fJ(N:Nat)(a:cK->Ro)(x:cK):Ro:=iN N a (λz=>jz N a z) (λz=>fH N z) x
def mA(N:Nat)(a:St->Ro):List (Nat×(St->Ro)):=(dv au N gZ (jy (run au N) a)++(dv au N lh (fin aQ)++[]))
theorem zN(N:Nat):∀(a:St->Ro)(x:cK),fI N a (bz x)=fJ N (λy=>a (bz y)) x:=by
 intro a x;have b:∀C:Nat->St->Ro,cN C au N gZ (jy (cN C au N) a) (bz x)=iN N (λy=>a (bz y)) (λz=>C 1000000 (iH z)) (λz=>C 1000006 (dI z)) x:=by intro C;kernel_rfl
 have h:fI N a (bz x)=iN N (λy=>a (bz y)) (λz=>ms N a (iH z)) (λz=>jG N (dI z)) x:=(fZ (C:=jV (mA N a)) (eq (bU (l:=(mA N a)) (by kernel_rfl))) (wD (nc (qI (eq (mO (bU (l:=(mA N a)) (by kernel_rfl)))) rfl))) _).trans ((b _).trans (by kernel_rfl));have e:(λz=>ms N a (iH z))=(λz=>jz N (λy=>a (bz y)) z):=funext λz=>zH N a z
 have d:(λz=>jG N (dI z))=(λz=>fH N z):=funext λz=>zM N z
 rw[h,e,d];rfl
def mB(N:Nat):St->Ro:=λs=>run au N ia (fin aQ) s
def iO(N:Nat)(j:cK->Ro)(x:fB):Ro:=
 let k:Bool:=x.1;let d:Bs:=x.2.1;let a:Int:=x.2.2.1;let f:Int:=x.2.2.2.1;let g:Int:=x.2.2.2.2.1;let i:Int:=x.2.2.2.2.2.1;let e:Bs:=x.2.2.2.2.2.2.1;let h:List aa:=x.2.2.2.2.2.2.2.1;let b:Bss:=x.2.2.2.2.2.2.2.2
 j (k,a,0,d,a,f,g,i,e,h,b)
def mC(N:Nat)(x:fB):Ro:=iO N (λz=>aK N (fJ N) z) x
def rT(N:Nat):List (Nat×(St->Ro)):=(dv au N ia (fin aQ)++[])
theorem zO(N:Nat):∀(x:fB),mB N (eZ x)=mC N x:=by
 intro x;have b:∀C:Nat->St->Ro,cN C au N ia (fin aQ) (eZ x)=iO N (λz=>C 1000001 (bz z)) x:=by intro C;kernel_rfl
 have h:mB N (eZ x)=iO N (λz=>bi N (fI N) (bz z)) x:=(fZ (C:=jV (rT N)) (eq (bU (l:=(rT N)) (by kernel_rfl))) rfl _).trans ((b _).trans (by kernel_rfl));have a:(λz=>bi N (fI N) (bz z))=(λz=>aK N (fJ N) z):=funext λz=>bm (bz) (fI N) (fJ N) (zN N) N z
 rw[h,a];rfl
def gm(N:Nat)(b:Bs)(a d:Int)(j:fB->Ro):Ro:=
 let f:=λi g=>j (i,b,g,d,0,0,([]:Bs),([]:List aa),([]:Bss))
 chk (ixl a b) (
  let e:=(↑(AJ (An b (Ah a) 0)):Int)
  cond (e==45) (
   let h:=(Ae .i64 (a+1))
   f (e==45) h) (
   f (e==45) a))
def tm(N:Nat)(d:Bs)(a b:Int):Ro:=gm N d a b (λz=>mC N z)
theorem aa6(N:Nat)(a:Bs)(g d:Int)(h:Tot (tm N a g d) (λz=>∃(k:aa)(m:Bs)(j:Int)(i:Int)(rest:List ai),z.1.dimR=.agg (enc .jnode k)∧z.2=some [.str m,.int .i64 j,.int .i64 i]::rest∧iG a g d (k,m,j,i))):∃r,eU a g d r:=FnK.finO (css:=[[.str a,.int .i64 g,.int .i64 d]]) ab5 (N:=N) ((cz _ (by kernel_rfl) rfl (λC=>gm N a g d (λz=>C 1000007 (eZ z))) (λC=>by kernel_rfl)).trans (A8 (b:=gm N a g d (λz=>mB N (eZ z))) (by kernel_rfl) (congrArg (gm N a g d) (funext λz=>zO N z)))) h λ_ ⟨k,m,j,i,_,e,f,q⟩=>⟨(k,m,j,i),e,⟨_,f⟩,q⟩
noncomputable def qo:aq:=tab (P:=Tryd.prog) [] [qj,n8,wN] [] []
def tp:IR:=Sq (Rs [Mv 12 0,Nk 13 12,Fa 14 2 13,Lo 15 14,Bc 16 .eql 15 0] (Cn 16 .skip (.exit 0))) (.block 1 (Sq (.reg [Fa 17 3 5,Fo [] [2] (.ld 18 1 false true 17),Mv 19 0,Mv 20 1,Bc 21 .add 20 1,Fo [] [0] (.call 22 29 [19,21]),Pp (.bsl 23 .jnode [22] true),Pp (.app 24 .jnode (.tk 18) 23),Fa 25 3 5,Fo [] [2] (.st none 1 25 (.tk 24))] [[],[0],[],[],[3],[2,3,4],rg 2 5,rg 0 6,rg 0 7,rg 0 8]) (Sq (Rs [Mv 26 0,Ca 27 64 [26,kS [93]]] (Cn 27 (Rs [Pp (.ld 28 5 true false 5),Sv 5 4 28] .ret) .skip)) (Rg [Mv 29 0,Ca 30 94 [29,kS [44]]]))))
def rU:IR:=Rs [Pp (.ld 31 5 true false 5),Sv 5 4 31] .ret
def ae9:IR:=Rs [Pp (.new 4 [vI 0,vI 0,vS,nl .jnode,nl .str])] (Rs [Pp (.bld 6 [vI 0,vI 0,vS,nl .jnode,nl .str] [(0,1,kI 5)]),Pp (.new 5 [vI 0,vI 0,vS,nl .jnode,nl .str]),Sv 5 5 6] (Rs [Mv 7 0,Ca 8 94 [7,kS [91]]] (Sq (Rs [Mv 9 0,Ca 10 64 [9,kS [93]]] (Cn 10 (Rs [Pp (.ld 11 5 true false 5),Sv 5 4 11] .ret) .skip)) (Sq (.block 0 (.loop [0,1,4,5,1000000] 3 tp)) rU))))
def vo:List RV:=[.cell 4 5 true]
theorem afa:FnC Tryd.prog qo [29,64,94,2000029,2000064,2000094] 1 wI Tryd.f61 ae9 vo:=fnC Tryd.func61
def adF(R:IR->(Ex->St->Ro)->St->Ro)(a:St->Ro):Ex->St->Ro:=(b7 a [0,1,4,5,1000000] 3 (aJ 0 (kseq (R rU) (fin vo))))
abbrev kp:Type:=(Int×Bs×Int×Int×Int×Int×Bs×List aa×Bss×Int×Int×Bs×List aa×Bss)
def jY(x:kp):St:={env:=(.ptr 0 0::.int .i64 x.1::.undef::.undef::.ptr 1 0::.ptr 2 0::(U 26 [])),hp:=[some [.str x.2.1,.int .i64 x.2.2.1,.int .i64 x.2.2.2.1],some [.int .i64 x.2.2.2.2.1,.int .i64 x.2.2.2.2.2.1,.str x.2.2.2.2.2.2.1,.sl .jnode .own x.2.2.2.2.2.2.2.1,.sl .str .own x.2.2.2.2.2.2.2.2.1],some [.int .i64 x.2.2.2.2.2.2.2.2.2.1,.int .i64 x.2.2.2.2.2.2.2.2.2.2.1,.str x.2.2.2.2.2.2.2.2.2.2.2.1,.sl .jnode .own x.2.2.2.2.2.2.2.2.2.2.2.2.1,.sl .str .own x.2.2.2.2.2.2.2.2.2.2.2.2.2]]}
def n9(N:Nat):(St->Ro)->St->Ro:=λa s=>run qo N tp (adF (run qo N) a) s
def kq(N:Nat)(h:kp->Ro)(x:kp):Ro:=
 let B:Int:=x.1;let i:Bs:=x.2.1;let j:Int:=x.2.2.1;let g:Int:=x.2.2.2.1;let o:Int:=x.2.2.2.2.1;let u:Int:=x.2.2.2.2.2.1;let m:Bs:=x.2.2.2.2.2.2.1;let p:List aa:=x.2.2.2.2.2.2.2.1;let q:Bss:=x.2.2.2.2.2.2.2.2.1;let a:Int:=x.2.2.2.2.2.2.2.2.2.1;let d:Int:=x.2.2.2.2.2.2.2.2.2.2.1;let b:Bs:=x.2.2.2.2.2.2.2.2.2.2.2.1;let f:List aa:=x.2.2.2.2.2.2.2.2.2.2.2.2.1;let e:Bss:=x.2.2.2.2.2.2.2.2.2.2.2.2.2;let y:=λv D E C=>(some (.agg [.int .i64 a,.int .i64 d,.str b,.sl .jnode (.may false) v,.sl .str (.may false) e],[some [.str D,.int .i64 E,.int .i64 C],some [.int .i64 a,.int .i64 d,.str b,.sl .jnode (.may false) v,.sl .str (.may false) e],some [.int .i64 a,.int .i64 d,.str b,.sl .jnode .own v,.sl .str .own e]]):Ro)
 cond (g==0) (
  let F:=(Ae .i64 (B+1))
  af (db i j g F) (λt=>
   chk (decide ((Aa f+Aa ([(reJ t.1)]:List aa))*80<=140737488355328)) (
    let A:=(f++([(reJ t.1)]:List aa))
    af (bC t.2.1 t.2.2.1 t.2.2.2 ([93]:Bs)) (λk=>
     cond k.1 (
      y A k.2.1 k.2.2.1 k.2.2.2) (
      af (bS k.2.1 k.2.2.1 k.2.2.2 ([44]:Bs)) (λw=>
       h (B,w.1,w.2.1,w.2.2,o,u,m,p,q,a,d,b,A,e))))))) (
  y f i j g)
theorem ab6(N:Nat):LB (n9 N) jY (kq N):=λ_ _=>by kernel_rfl
def jh(N:Nat)(b:Bs)(e d g:Int)(h:kp->Ro):Ro:=
 af (bS b e d ([91]:Bs)) (λf=>
  af (bC f.1 f.2.1 f.2.2 ([93]:Bs)) (λa=>
   cond a.1 (
    some (.agg [.int .i64 5,.int .i64 0,.str ([]:Bs),.sl .jnode (.may false) ([]:List aa),.sl .str (.may false) ([]:Bss)],[some [.str a.2.1,.int .i64 a.2.2.1,.int .i64 a.2.2.2],some [.int .i64 5,.int .i64 0,.str ([]:Bs),.sl .jnode (.may false) ([]:List aa),.sl .str (.may false) ([]:Bss)],some [.int .i64 5,.int .i64 0,.str ([]:Bs),.sl .jnode .own ([]:List aa),.sl .str .own ([]:Bss)]])) (
    h (g,a.2.1,a.2.2.1,a.2.2.2,0,0,([]:Bs),([]:List aa),([]:Bss),5,0,([]:Bs),([]:List aa),([]:Bss)))))
def vp(N:Nat)(a:Bs)(d b e:Int):Ro:=jh N a d b e (λz=>aK N (kq N) z)
theorem adG(N:Nat)(a:Bs)(g d i:Int)(h:Tot (vp N a g d i) (λz=>∃(m:aa)(o:Bs)(k:Int)(j:Int)(rest:List ai),z.1.dimR=.agg (enc .jnode m)∧z.2=some [.str o,.int .i64 k,.int .i64 j]::rest∧te a g d i (m,o,k,j))):∃r,gk a g d i r:=FnK.finO (css:=[[.str a,.int .i64 g,.int .i64 d]]) afa (N:=N) ((cz _ (by kernel_rfl) rfl (λC=>jh N a g d i (λz=>C 1000000 (jY z))) (λC=>by kernel_rfl)).trans (A8 (b:=jh N a g d i (λz=>bi N (n9 N) (jY z))) (by kernel_rfl) (congrArg (jh N a g d i) (funext λz=>bm (jY) (n9 N) (kq N) (ab6 N) N z)))) h λ_ ⟨m,o,k,j,_,e,f,q⟩=>⟨(m,o,k,j),e,⟨_,f⟩,q⟩
noncomputable def pg:aq:=tab (P:=Tryd.prog) [] [qj,gi,wM,n8,wN] [] [lb]
def rl:IR:=Sq (Rs [Mv 15 0,Nk 16 15,Fa 17 2 16,Lo 18 17,Bc 19 .eql 18 0] (Cn 19 .skip (.exit 0))) (.block 1 (Rs [Mv 20 0,Ca 21 60 [20],Mv 6 21] (Rs [Pp (.ld 23 5 true false 5),Mv 24 6,Ca 25 41 [23,24],Mv 22 25,Ex_ 26 0 22,Ex_ 27 1 22,Pp (.alr 7 5),Fz 7 5 26,Mv 8 27] (Sq (Rs [Mv 28 8,Mv 29 28,Gt 29 (.mov 30 0),Gt 29 (.nck 31 30),Gt 29 (.fad 32 2 31),Gt 29 (.ld 33 1 false false 32),Gt 29 (.bin 34 .eql 33 (kI 0)),Pa 35 29 34] (Cn 35 (Rg [Mv 36 0,Ca 37 31 [36,kI 5]]) .skip)) (Rs [Mv 38 0,Ca 39 94 [38,kS [58]]] (Rs [Fa 40 4 5,Pp (.ld 41 1 false true 40),Mv 42 6,Pp (.bsl 43 .str [42] true),Pp (.app 44 .str (.tk 41) 43),Fa 45 4 5,Sk 1 45 44] (Sq (.reg [Fa 46 3 5,Fo [] [2] (.ld 47 1 false true 46),Mv 48 0,Mv 49 1,Bc 50 .add 49 1,Fo [] [0] (.call 51 29 [48,50]),Pp (.bsl 52 .jnode [51] true),Pp (.app 53 .jnode (.tk 47) 52),Fa 54 3 5,Fo [] [2] (.st none 1 54 (.tk 53))] [[],[0],[],[],[3],[2,3,4],rg 2 5,rg 0 6,rg 0 7,rg 0 8]) (Sq (Rs [Mv 55 0,Ca 56 64 [55,kS [125]]] (Cn 56 (Rs [Pp (.ld 57 5 true false 5),Sv 5 4 57] .ret) .skip)) (Rg [Mv 58 0,Ca 59 94 [58,kS [44]]])))))))))
def rm:IR:=Rs [Pp (.ld 60 5 true false 5),Sv 5 4 60] .ret
def adH:IR:=Rs [Pp (.new 4 [vI 0,vI 0,vS,nl .jnode,nl .str])] (Rs [Pp (.bld 9 [vI 0,vI 0,vS,nl .jnode,nl .str] [(0,1,kI 6)]),Pp (.new 5 [vI 0,vI 0,vS,nl .jnode,nl .str]),Sv 5 5 9] (Rs [Mv 10 0,Ca 11 94 [10,kS [123]]] (Sq (Rs [Mv 12 0,Ca 13 64 [12,kS [125]]] (Cn 13 (Rs [Pp (.ld 14 5 true false 5),Sv 5 4 14] .ret) .skip)) (Sq (.block 0 (.loop [0,1,4,5,1000000] 3 rl)) rm))))
def uD:List RV:=[.cell 4 5 true]
theorem adI:FnC Tryd.prog pg [29,31,60,64,94,2000029,2000031,2000060,2000064,2000094] 1 vh Tryd.f62 adH uD:=fnC Tryd.func62
def ab7(R:IR->(Ex->St->Ro)->St->Ro)(a:St->Ro):Ex->St->Ro:=(b7 a [0,1,4,5,1000000] 3 (aJ 0 (kseq (R rm) (fin uD))))
abbrev jZ:Type:=(Int×Bs×Int×Int×Int×Int×Bs×List aa×Bss×Int×Int×Bs×List aa×Bss)
def jH(x:jZ):St:={env:=(.ptr 0 0::.int .i64 x.1::.undef::.undef::.ptr 1 0::.ptr 2 0::(U 55 [])),hp:=[some [.str x.2.1,.int .i64 x.2.2.1,.int .i64 x.2.2.2.1],some [.int .i64 x.2.2.2.2.1,.int .i64 x.2.2.2.2.2.1,.str x.2.2.2.2.2.2.1,.sl .jnode .own x.2.2.2.2.2.2.2.1,.sl .str .own x.2.2.2.2.2.2.2.2.1],some [.int .i64 x.2.2.2.2.2.2.2.2.2.1,.int .i64 x.2.2.2.2.2.2.2.2.2.2.1,.str x.2.2.2.2.2.2.2.2.2.2.2.1,.sl .jnode .own x.2.2.2.2.2.2.2.2.2.2.2.2.1,.sl .str .own x.2.2.2.2.2.2.2.2.2.2.2.2.2]]}
def nz(N:Nat):(St->Ro)->St->Ro:=λa s=>run pg N rl (ab7 (run pg N) a) s
def j4(N:Nat)(g:jZ->Ro)(x:jZ):Ro:=
 let F:Int:=x.1;let w:Bs:=x.2.1;let y:Int:=x.2.2.1;let o:Int:=x.2.2.2.1;let p:Int:=x.2.2.2.2.1;let v:Int:=x.2.2.2.2.2.1;let k:Bs:=x.2.2.2.2.2.2.1;let q:List aa:=x.2.2.2.2.2.2.2.1;let t:Bss:=x.2.2.2.2.2.2.2.2.1;let d:Int:=x.2.2.2.2.2.2.2.2.2.1;let f:Int:=x.2.2.2.2.2.2.2.2.2.2.1;let e:Bs:=x.2.2.2.2.2.2.2.2.2.2.2.1;let a:List aa:=x.2.2.2.2.2.2.2.2.2.2.2.2.1;let b:Bss:=x.2.2.2.2.2.2.2.2.2.2.2.2.2;let H:=λI J g2 Z g4=>(some (.agg [.int .i64 d,.int .i64 f,.str e,.sl .jnode (.may false) I,.sl .str (.may false) J],[some [.str g2,.int .i64 Z,.int .i64 g4],some [.int .i64 d,.int .i64 f,.str e,.sl .jnode (.may false) I,.sl .str (.may false) J],some [.int .i64 d,.int .i64 f,.str e,.sl .jnode .own I,.sl .str .own J]]):Ro)
 cond (o==0) (
  af (gj w y o) (λh=>
   af (aR ⟨d,f,e,a,b⟩ h.1) (λY=>
    cond Y.2 (
     cond (h.2.2.2==0) (
      af (bL h.2.1 h.2.2.1 h.2.2.2 5) (λM=>
       af (bS M.1 M.2.1 M.2.2 ([58]:Bs)) (λL=>
        chk (decide ((Aa b+Aa ([h.1]:Bss))*16<=140737488355328)) (
         let W:=(b++([h.1]:Bss))
         let x2:=(Ae .i64 (F+1))
         af (db L.1 L.2.1 L.2.2 x2) (λG=>
          chk (decide ((Aa a+Aa ([(reJ G.1)]:List aa))*80<=140737488355328)) (
           let Q:=(a++([(reJ G.1)]:List aa))
           af (bC G.2.1 G.2.2.1 G.2.2.2 ([125]:Bs)) (λB=>
            cond B.1 (
             H Q W B.2.1 B.2.2.1 B.2.2.2) (
             af (bS B.2.1 B.2.2.1 B.2.2.2 ([44]:Bs)) (λO=>
              g (F,O.1,O.2.1,O.2.2,p,v,k,q,t,d,f,e,Q,W)))))))))) (
      af (bS h.2.1 h.2.2.1 h.2.2.2 ([58]:Bs)) (λC=>
       chk (decide ((Aa b+Aa ([h.1]:Bss))*16<=140737488355328)) (
        let X:=(b++([h.1]:Bss))
        let x5:=(Ae .i64 (F+1))
        af (db C.1 C.2.1 C.2.2 x5) (λm=>
         chk (decide ((Aa a+Aa ([(reJ m.1)]:List aa))*80<=140737488355328)) (
          let R:=(a++([(reJ m.1)]:List aa))
          af (bC m.2.1 m.2.2.1 m.2.2.2 ([125]:Bs)) (λi=>
           cond i.1 (
            H R X i.2.1 i.2.2.1 i.2.2.2) (
            af (bS i.2.1 i.2.2.1 i.2.2.2 ([44]:Bs)) (λA=>
             g (F,A.1,A.2.1,A.2.2,p,v,k,q,t,d,f,e,R,X)))))))))) (
     af (bS h.2.1 h.2.2.1 h.2.2.2 ([58]:Bs)) (λD=>
      chk (decide ((Aa b+Aa ([h.1]:Bss))*16<=140737488355328)) (
       let S:=(b++([h.1]:Bss))
       let x8:=(Ae .i64 (F+1))
       af (db D.1 D.2.1 D.2.2 x8) (λu=>
        chk (decide ((Aa a+Aa ([(reJ u.1)]:List aa))*80<=140737488355328)) (
         let P:=(a++([(reJ u.1)]:List aa))
         af (bC u.2.1 u.2.2.1 u.2.2.2 ([125]:Bs)) (λj=>
          cond j.1 (
           H P S j.2.1 j.2.2.1 j.2.2.2) (
           af (bS j.2.1 j.2.2.1 j.2.2.2 ([44]:Bs)) (λE=>
            g (F,E.1,E.2.1,E.2.2,p,v,k,q,t,d,f,e,P,S)))))))))))) (
  H a b w y o)
theorem aa7(N:Nat):LB (nz N) jH (j4 N):=λ_ _=>by kernel_rfl
def ic(N:Nat)(b:Bs)(e d g:Int)(h:jZ->Ro):Ro:=
 af (bS b e d ([123]:Bs)) (λf=>
  af (bC f.1 f.2.1 f.2.2 ([125]:Bs)) (λa=>
   cond a.1 (
    some (.agg [.int .i64 6,.int .i64 0,.str ([]:Bs),.sl .jnode (.may false) ([]:List aa),.sl .str (.may false) ([]:Bss)],[some [.str a.2.1,.int .i64 a.2.2.1,.int .i64 a.2.2.2],some [.int .i64 6,.int .i64 0,.str ([]:Bs),.sl .jnode (.may false) ([]:List aa),.sl .str (.may false) ([]:Bss)],some [.int .i64 6,.int .i64 0,.str ([]:Bs),.sl .jnode .own ([]:List aa),.sl .str .own ([]:Bss)]])) (
    h (g,a.2.1,a.2.2.1,a.2.2.2,0,0,([]:Bs),([]:List aa),([]:Bss),6,0,([]:Bs),([]:List aa),([]:Bss)))))
def uE(N:Nat)(a:Bs)(d b e:Int):Ro:=ic N a d b e (λz=>aK N (j4 N) z)
theorem ab8(N:Nat)(a:Bs)(g d i:Int)(h:Tot (uE N a g d i) (λz=>∃(m:aa)(o:Bs)(k:Int)(j:Int)(rest:List ai),z.1.dimR=.agg (enc .jnode m)∧z.2=some [.str o,.int .i64 k,.int .i64 j]::rest∧rM a g d i (m,o,k,j))):∃r,fq a g d i r:=FnK.finO (css:=[[.str a,.int .i64 g,.int .i64 d]]) adI (N:=N) ((cz _ (by kernel_rfl) rfl (λC=>ic N a g d i (λz=>C 1000000 (jH z))) (λC=>by kernel_rfl)).trans (A8 (b:=ic N a g d i (λz=>bi N (nz N) (jH z))) (by kernel_rfl) (congrArg (ic N a g d i) (funext λz=>bm (jH) (nz N) (j4 N) (aa7 N) N z)))) h λ_ ⟨m,o,k,j,_,e,f,q⟩=>⟨(m,o,k,j),e,⟨_,f⟩,q⟩
noncomputable def vH:aq:=tab (P:=Tryd.prog) [] [] [] [aoM,amS]
def wQ:IR:=Sq (Rs [Mv 18 6,Mv 19 0,Pp (.lens 20 19),Bi 21 .lss 18 20] (Cn 21 .skip (.exit 0))) (.block 1 (Rs [Mv 22 0,Mv 23 6,Pp (.idx 24 22 23),Mv 7 24] (.block 2 (Rs [Mv 41 7,Pp (.bin 42 .eql 41 (.c (.int .u8 34))),Mv 40 42] (Cn 40 (Sq (Rs [Mv 43 5,Ca 44 112 [43],Un 45 44] (Cn 45 (Rs [Ms 2 [],Mi 3 0,Mi 4 2] .ret) .skip)) (Rs [Mv 46 5,Mv 47 6,Bc 48 .add 47 1,Mv 2 46,Mv 3 48,Mi 4 0] .ret)) (Rs [Mv 50 7,Pp (.bin 51 .lss 50 (.c (.int .u8 32))),Mv 49 51] (Cn 49 (Rs [Ms 2 [],Mi 3 0,Mi 4 2] .ret) (Rs [Mv 53 7,Pp (.bin 54 .neq 53 (.c (.int .u8 92))),Mv 52 54] (Cn 52 (Rs [Mv 55 5,Mv 56 0,Mv 57 6,Mv 58 6,Bc 59 .add 58 1,Pp (.subs 60 56 (some 57) (some 59)),Bi 61 .add 55 60,Mv 5 61] (Rg [Mv 62 6,Bc 63 .add 62 1,Mv 6 63])) (Rs [Mv 26 0,Mv 27 6,Pp (.subs 28 26 (some 27) none),Ca 29 113 [28],Mv 25 29,Ex_ 30 0 25,Ex_ 31 1 25,Mv 8 30,Mv 9 31] (Sq (Rs [Mv 32 9,Bc 33 .eql 32 0] (Cn 33 (Rs [Ms 2 [],Mi 3 0,Mi 4 2] .ret) .skip)) (Rg [Mv 34 5,Mv 35 8,Bi 36 .add 34 35,Mv 37 6,Mv 38 9,Bi 39 .add 37 38,Mv 5 36,Mv 6 39]))))))))))))
def wR:IR:=Rs [Ms 2 [],Mi 3 0,Mi 4 2] .ret
def ajr:IR:=Rs [Ms 2 [],Mi 3 0,Mi 4 0] (Rs [Ms 5 []] (Sq (Rs [Mv 10 0,Pp (.lens 11 10),Bc 12 .eql 11 0,Mv 13 12,Gf 13 (.mov 14 0),Gf 13 (.idx 15 14 (kI 0)),Gf 13 (.bin 16 .neq 15 (.c (.int .u8 34))),Po 17 13 16] (Cn 17 (Rs [Ms 2 [],Mi 3 0,Mi 4 2] .ret) .skip)) (Sq (Rs [Mi 6 1] (.block 0 (.loop [0,5,6,1000000] 0 wQ))) wR)))
def aam:List RV:=[.t 2,.t 3,.t 4]
theorem ajs:FnC Tryd.prog vH [] 0 ab1 Tryd.f93 ajr aam:=fnC Tryd.func93
def aih(R:IR->(Ex->St->Ro)->St->Ro)(a:St->Ro):Ex->St->Ro:=(b7 a [0,5,6,1000000] 0 (aJ 0 (kseq (R wR) (fin aam))))
abbrev oa:Type:=(Bs×Bs×Int)
def mQ(x:oa):St:={env:=(.str x.1::(U 4 (.str x.2.1::.int .i64 x.2.2::(U 57 [])))),hp:=[]}
def sV(N:Nat):(St->Ro)->St->Ro:=λa s=>run vH N wQ (aih (run vH N) a) s
def od(N:Nat)(a:oa->Ro)(x:oa):Ro:=
 let d:Bs:=x.1;let e:Bs:=x.2.1;let b:Int:=x.2.2;let q:=(↑(Aa d):Int)
 let f:=(some (.tup [.str ([]:Bs),.int .i64 0,.int .i64 2],[]):Ro)
 cond (decide (b<q)) (
  chk (ixl b d) (
   let i:=(↑(AJ (An d (Ah b) 0)):Int)
   cond (i==34) (
    af (qk e) (λ(p:Bool)=>
     cond (!p) (
      f) (
      let m:=(Ae .i64 (b+1))
      some (.tup [.str e,.int .i64 m,.int .i64 0],[])))) (
    cond (decide (i<32)) (
     f) (
     cond (!(i==92)) (
      let g:=(Ae .i64 (b+1))
      chk ((decide (0<=g)&&decide (g<=(↑(Aa d):Int))&&(decide (0<=b)&&decide (b<=g)))) (
       let k:=(Bd (Ah b) (Br (Ah g) d))
       chk (decide (Aa e+Aa k<=9223372036854775807)) (
        let t:=(Ae .i64 (b+1))
        a (d,(e++k),t)))) (
      chk ((decide (0<=b)&&decide (b<=(↑(Aa d):Int)))) (
       let o:=(Bd (Ah b) (Br (Aa d) d))
       af (xl o) (λh=>
        cond (h.2==0) (
         f) (
         chk (decide (Aa e+Aa h.1<=9223372036854775807)) (
          let j:=(Ae .i64 (b+h.2))
          a (d,(e++h.1),j)))))))))) (
  f)
theorem ahf(N:Nat):LB (sV N) mQ (od N):=λ_ _=>by kernel_rfl
def l7(N:Nat)(a:Bs)(f:oa->Ro):Ro:=
 let d:=(↑(Aa a):Int)
 let b:=(some (.tup [.str ([]:Bs),.int .i64 0,.int .i64 2],[]):Ro)
 cond (d==0) (
  b) (
  chk (decide ((0:Int)<↑(Aa a))) (
   let e:=(↑(AJ (An a (Ah 0) 0)):Int)
   cond (!(e==34)) (
    b) (
    f (a,([]:Bs),1))))
def aan(N:Nat)(a:Bs):Ro:=l7 N a (λz=>aK N (od N) z)
theorem aii(N:Nat)(a:Bs)(h:Tot (aan N a) (λz=>∃(f:Bs)(g:Int)(d:Int)(rest:List ai),z.1.dimR=.tup [.str f,.int .i64 g,.int .i64 d]∧z.2=rest∧xD a (f,g,d))):∃r,nx a r:=ajs.finP (N:=N) ((cz _ (by kernel_rfl) rfl (λC=>l7 N a (λz=>C 1000000 (mQ z))) (λC=>by kernel_rfl)).trans (A8 (b:=l7 N a (λz=>bi N (sV N) (mQ z))) (by kernel_rfl) (congrArg (l7 N a) (funext λz=>bm (mQ) (sV N) (od N) (ahf N) N z)))) h λ_ ⟨f,g,d,_,e,_,q⟩=>⟨(f,g,d),e,q⟩
noncomputable def yR:aq:=tab (P:=Tryd.prog) [] [] [] [aoO]
def aao:IR:=Sq (Rs [Mv 5 0,Pp (.lens 6 5),Bc 7 .gtr 6 0] (Cn 7 .skip (.exit 0))) (.block 1 (Rs [Mv 9 0,Ca 10 132 [9],Mv 8 10,Ex_ 11 0 8,Ex_ 12 1 8,Mv 3 11,Mv 4 12] (Sq (Rs [Mv 13 4,Bc 14 .eql 13 0] (Cn 14 (Rs [Mb 2 false] .ret) .skip)) (Rg [Mv 15 0,Mv 16 4,Pp (.subs 17 15 (some 16) none),Mv 0 17]))))
def aap:IR:=Rs [Mb 2 true] .ret
def amY:IR:=Rs [Mb 2 false] (Sq (.block 0 (.loop [0,1000000] 0 aao)) aap)
def aes:List RV:=[.t 2]
theorem amZ:FnC Tryd.prog yR [] 0 af4 Tryd.f112 amY aes:=fnC Tryd.func112
def akU(R:IR->(Ex->St->Ro)->St->Ro)(a:St->Ro):Ex->St->Ro:=(b7 a [0,1000000] 0 (aJ 0 (kseq (R aap) (fin aes))))
abbrev qR:Type:=(Bs)
def pE(x:qR):St:={env:=(.str x::(U 17 [])),hp:=[]}
def vJ(N:Nat):(St->Ro)->St->Ro:=λa s=>run yR N aao (akU (run yR N) a) s
def qS(N:Nat)(a:qR->Ro)(x:qR):Ro:=
 let b:Bs:=x;let e:=(↑(Aa b):Int)
 cond (decide (0<e)) (
  af (ql b) (λd=>
   cond (d.2==0) (
    some (.bool false,[])) (
    chk ((decide (0<=d.2)&&decide (d.2<=(↑(Aa b):Int)))) (
     let f:=(Bd (Ah d.2) (Br (Aa b) b))
     a (f))))) (
  some (.bool true,[]))
theorem ajt(N:Nat):LB (vJ N) pE (qS N):=λ_ _=>by kernel_rfl
def oO(N:Nat)(a:Bs)(b:qR->Ro):Ro:=
 b (a)
def aet(N:Nat)(a:Bs):Ro:=oO N a (λz=>aK N (qS N) z)
theorem akV(N:Nat)(a:Bs)(h:Tot (aet N a) (λz=>∃(d:Bool)(rest:List ai),z.1.dimR=.bool d∧z.2=rest∧aaj a (d))):∃r,qk a r:=amZ.finP (N:=N) ((cz _ (by kernel_rfl) rfl (λC=>oO N a (λz=>C 1000000 (pE z))) (λC=>by kernel_rfl)).trans (A8 (b:=oO N a (λz=>bi N (vJ N) (pE z))) (by kernel_rfl) (congrArg (oO N a) (funext λz=>bm (pE) (vJ N) (qS N) (ajt N) N z)))) h λ_ ⟨d,_,e,_,q⟩=>⟨(d),e,q⟩
noncomputable def yS:aq:=tab (P:=Tryd.prog) [] [] [] []
def yT:IR:=Sq (Rs [Mv 50 8,Mv 51 5,Bi 52 .lss 50 51] (Cn 52 .skip (.exit 1))) (Sq (.block 2 (Sq (Rs [Mv 55 0,Mv 56 8,Pp (.idx 57 55 56),Pp (.bin 58 .lss 57 (.c (.int .u8 128))),Mv 59 58,Gf 59 (.mov 60 0),Gf 59 (.mov 61 8),Gf 59 (.idx 62 60 61),Gf 59 (.bin 63 .gtr 62 (.c (.int .u8 191))),Po 64 59 63] (Cn 64 (Rs [Pp (.mov 2 (.c (.int .u32 0))),Mi 3 0] .ret) .skip)) (Rg [Mv 65 6,Pp (.bin 66 .mul 65 (.c (.int .u32 64))),Mv 67 0,Mv 68 8,Pp (.idx 69 67 68),Pp (.bin 70 .sub 69 (.c (.int .u8 128))),Pp (.cvi 71 .u32 70),Bi 72 .add 66 71,Mv 6 72]))) (Rg [Mv 53 8,Bc 54 .add 53 1,Mv 8 54]))
def yU:IR:=Sq (Rs [Mv 73 6,Mv 74 7,Bi 75 .lss 73 74,Mv 76 75,Gf 76 (.mov 77 6),Gf 76 (.bin 78 .gtr 77 (.c (.int .u32 1114111))),Po 79 76 78,Mv 80 79,Gf 80 (.mov 81 6),Gf 80 (.bin 82 .geq 81 (.c (.int .u32 55296))),Gf 80 (.mov 83 82),Gt 83 (.mov 84 6),Gt 83 (.bin 85 .leq 84 (.c (.int .u32 57343))),Gf 80 (.pick 86 83 85 (kB false)),Po 87 80 86] (Cn 87 (Rs [Pp (.mov 2 (.c (.int .u32 0))),Mi 3 0] .ret) .skip)) (Rs [Mv 88 6,Mv 89 5,Mv 2 88,Mv 3 89] .ret)
def am0:IR:=Rs [Pp (.mov 2 (.c (.int .u32 0))),Mi 3 0] (Sq (Rs [Mv 9 0,Pp (.lens 10 9),Bc 11 .eql 10 0] (Cn 11 (Rs [Pp (.mov 2 (.c (.int .u32 0))),Mi 3 0] .ret) .skip)) (Rs [Mv 12 0,Pp (.idx 13 12 (kI 0)),Pp (.cvi 14 .u32 13),Mv 4 14] (Rs [Mi 5 0,Pp (.mov 6 (.c (.int .u32 0))),Pp (.mov 7 (.c (.int .u32 0)))] (Sq (.block 0 (Rs [Mv 16 4,Pp (.bin 17 .lss 16 (.c (.int .u32 128))),Mv 15 17] (Cn 15 (Rs [Mv 18 4,Mv 2 18,Mi 3 1] .ret) (Rs [Mv 20 4,Pp (.bin 21 .geq 20 (.c (.int .u32 192))),Mv 22 21,Gt 22 (.mov 23 4),Gt 22 (.bin 24 .lss 23 (.c (.int .u32 224))),Pa 25 22 24,Mv 19 25] (Cn 19 (Rg [Mv 26 4,Pp (.bin 27 .sub 26 (.c (.int .u32 192))),Mi 5 2,Mv 6 27,Pp (.mov 7 (.c (.int .u32 128)))]) (Rs [Mv 29 4,Pp (.bin 30 .geq 29 (.c (.int .u32 224))),Mv 31 30,Gt 31 (.mov 32 4),Gt 31 (.bin 33 .lss 32 (.c (.int .u32 240))),Pa 34 31 33,Mv 28 34] (Cn 28 (Rg [Mv 35 4,Pp (.bin 36 .sub 35 (.c (.int .u32 224))),Mi 5 3,Mv 6 36,Pp (.mov 7 (.c (.int .u32 2048)))]) (Rs [Mv 38 4,Pp (.bin 39 .geq 38 (.c (.int .u32 240))),Mv 40 39,Gt 40 (.mov 41 4),Gt 40 (.bin 42 .lss 41 (.c (.int .u32 248))),Pa 43 40 42,Mv 37 43] (Cn 37 (Rg [Mv 44 4,Pp (.bin 45 .sub 44 (.c (.int .u32 240))),Mi 5 4,Mv 6 45,Pp (.mov 7 (.c (.int .u32 65536)))]) (Rs [Pp (.mov 2 (.c (.int .u32 0))),Mi 3 0] .ret)))))))))) (Sq (Rs [Mv 46 0,Pp (.lens 47 46),Mv 48 5,Bi 49 .lss 47 48] (Cn 49 (Rs [Pp (.mov 2 (.c (.int .u32 0))),Mi 3 0] .ret) .skip)) (Sq (Rs [Mi 8 1] (.block 1 (.loop [0,5,6,7,8,1000000] 0 yT))) yU))))))
def aeu:List RV:=[.t 2,.t 3]
theorem am1:FnC Tryd.prog yS [] 0 af5 Tryd.f132 am0 aeu:=fnC Tryd.func132
def akW(R:IR->(Ex->St->Ro)->St->Ro)(a:St->Ro):Ex->St->Ro:=(b7 a [0,5,6,7,8,1000000] 0 (aJ 1 (kseq (R yU) (fin aeu))))
abbrev qT:Type:=(Bs×Int×Int×Int×Int)
def pF(x:qT):St:={env:=(.str x.1::(U 4 (.int .i64 x.2.1::.int .u32 x.2.2.1::.int .u32 x.2.2.2.1::.int .i64 x.2.2.2.2::(U 81 [])))),hp:=[]}
def vK(N:Nat):(St->Ro)->St->Ro:=λa s=>run yS N yT (akW (run yS N) a) s
def vL(N:Nat)(a:qT->Ro)(x:qT):Ro:=
 let d:Bs:=x.1;let h:Int:=x.2.1;let e:Int:=x.2.2.1;let o:Int:=x.2.2.2.1;let b:Int:=x.2.2.2.2;let f:=(some (.tup [.int .u32 0,.int .i64 0],[]):Ro)
 let p:=(some (.tup [.int .u32 e,.int .i64 h],[]):Ro)
 cond (decide (b<h)) (
  chk (ixl b d) (
   let t:=(↑(AJ (An d (Ah b) 0)):Int)
   cond (decide (t<128)) (
    f) (
    chk (ixl b d) (
     let q:=(↑(AJ (An d (Ah b) 0)):Int)
     cond (decide (191<q)) (
      f) (
      let m:=(Ae .u32 (e*64))
      chk (ixl b d) (
       let j:=(↑(AJ (An d (Ah b) 0)):Int)
       let k:=(Ae .u8 (j-128))
       let i:=(Ae .u32 (m+(Ae .u32 k)))
       let g:=(Ae .i64 (b+1))
       a (d,h,i,o,g))))))) (
  cond (decide (e<o)) (
   f) (
   cond (decide (1114111<e)) (
    f) (
    cond (decide (55296<=e)) (
     cond (decide (e<=57343)) (
      f) (
      p)) (
     p))))
theorem aju(N:Nat):LB (vK N) pF (vL N):=λ_ _=>by kernel_rfl
def oP(N:Nat)(b:Bs)(e:qT->Ro):Ro:=
 let O:=(↑(Aa b):Int)
 let d:=(some (.tup [.int .u32 0,.int .i64 0],[]):Ro)
 cond (O==0) (
  d) (
  chk (decide ((0:Int)<↑(Aa b))) (
   let a:=(↑(AJ (An b (Ah 0) 0)):Int)
   let I:=decide ((Ae .u32 a)<128)
   cond I (
    some (.tup [.int .u32 (Ae .u32 a),.int .i64 1],[])) (
    let P:=decide (192<=(Ae .u32 a))
    cond P (
     let M:=decide ((Ae .u32 a)<224)
     cond M (
      let J:=(Ae .u32 ((Ae .u32 a)-192))
      let L:=(↑(Aa b):Int)
      cond (decide (L<2)) (
       d) (
       e (b,2,J,128,1))) (
      let g:=decide (224<=(Ae .u32 a))
      cond g (
       let o:=decide ((Ae .u32 a)<240)
       cond o (
        let x:=(Ae .u32 ((Ae .u32 a)-224))
        let h:=(↑(Aa b):Int)
        cond (decide (h<3)) (
         d) (
         e (b,3,x,2048,1))) (
        let y:=decide (240<=(Ae .u32 a))
        cond y (
         let A:=decide ((Ae .u32 a)<248)
         cond A (
          let B:=(Ae .u32 ((Ae .u32 a)-240))
          let f:=(↑(Aa b):Int)
          cond (decide (f<4)) (
           d) (
           e (b,4,B,65536,1))) (
          d)) (
         d))) (
       let p:=decide (240<=(Ae .u32 a))
       cond p (
        let t:=decide ((Ae .u32 a)<248)
        cond t (
         let C:=(Ae .u32 ((Ae .u32 a)-240))
         let k:=(↑(Aa b):Int)
         cond (decide (k<4)) (
          d) (
          e (b,4,C,65536,1))) (
         d)) (
        d)))) (
     let q:=decide (224<=(Ae .u32 a))
     cond q (
      let u:=decide ((Ae .u32 a)<240)
      cond u (
       let j:=(Ae .u32 ((Ae .u32 a)-224))
       let v:=(↑(Aa b):Int)
       cond (decide (v<3)) (
        d) (
        e (b,3,j,2048,1))) (
       let F:=decide (240<=(Ae .u32 a))
       cond F (
        let E:=decide ((Ae .u32 a)<248)
        cond E (
         let D:=(Ae .u32 ((Ae .u32 a)-240))
         let H:=(↑(Aa b):Int)
         cond (decide (H<4)) (
          d) (
          e (b,4,D,65536,1))) (
         d)) (
        d))) (
      let m:=decide (240<=(Ae .u32 a))
      cond m (
       let i:=decide ((Ae .u32 a)<248)
       cond i (
        let G:=(Ae .u32 ((Ae .u32 a)-240))
        let w:=(↑(Aa b):Int)
        cond (decide (w<4)) (
         d) (
         e (b,4,G,65536,1))) (
        d)) (
       d))))))
def aev(N:Nat)(a:Bs):Ro:=oP N a (λz=>aK N (vL N) z)
theorem akX(N:Nat)(a:Bs)(h:Tot (aev N a) (λz=>∃(d:Int)(f:Int)(rest:List ai),z.1.dimR=.tup [.int .u32 d,.int .i64 f]∧z.2=rest∧aai a (d,f))):∃r,ql a r:=am1.finP (N:=N) ((cz _ (by kernel_rfl) rfl (λC=>oP N a (λz=>C 1000000 (pF z))) (λC=>by kernel_rfl)).trans (A8 (b:=oP N a (λz=>bi N (vK N) (pF z))) (by kernel_rfl) (congrArg (oP N a) (funext λz=>bm (pF) (vK N) (vL N) (aju N) N z)))) h λ_ ⟨d,f,_,e,_,q⟩=>⟨(d,f),e,q⟩
theorem atJ(c:UInt8):dO [] c=false:=rfl
theorem asz(b:UInt8)(l:List UInt8)(c:UInt8):dO (b::l) c=(b==c||dO l c):=by
 unfold dO;have:=Go.Lib.indexByte_ge l c;rw[Go.Lib.indexByte];cases a:b==c with
 |true=>simp
 |false=>
  simp only[CD,if_false,B8];by_cases h:Go.Lib.indexByte l c=-1;·simp[h]
  ·rw[if_neg (by simpa using h)];apply decide_eq_decide.2;omega
theorem agY:∀(l:List UInt8)(c:UInt8),dO l c=l.contains c
 | [],c=>rfl
 |b::l,c=>by rw[asz,agY l c,C4,Bool.beq_comm]
theorem sW(l:List UInt8)(c:UInt8):dO l c=true↔c∈l:=by rw[agY];exact B1
theorem aro:∀n:Fin 256,dO jt (AF n.val)=(decide (97<=n.val)&&decide (n.val<=122)||(decide (65<=n.val)&&decide (n.val<=90)||n.val==95)):=by decide+kernel
theorem asA:∀n:Fin 256,dO o7 (AF n.val)=(decide (48<=n.val)&&decide (n.val<=57)):=by decide+kernel
theorem atK(l cs:List UInt8):Go.Lib.trimS l cs=[]↔∀c∈l,cs.contains c=true:=by
 have g:∀l:List UInt8,l.dropWhile (cs.contains ·)=[]↔∀c∈l,cs.contains c=true:=by
  intro l;induction l with
  |nil=>simp
  |cons b l j=>
   rw[List.dropWhile_cons];split
   ·rename_i h;rw[j];refine⟨λd c a=>?_,λd c a=>d c (AL _ a)⟩;rcases AB.1 a with rfl|a;·exact h
    ·exact d c a
   ·rename_i h;exact⟨λe=>(by cases e),λd=>absurd (d b (by simp)) h⟩
 unfold Go.Lib.trimS Go.Lib.trimLeftS Go.Lib.trimRightS;rw[g];constructor
 ·intro h;by_cases f:l.reverse.dropWhile (cs.contains ·)=[]
  ·intro c a;exact(g l.reverse).1 f c (by simpa using a)
  ·exfalso;have i:=List.head_dropWhile_not (cs.contains ·) f;have k:=h (List.head _ f) (by simp[List.head_mem]);rw[k] at i;cases i
 ·intro h c a;have:c∈l.reverse.dropWhile (cs.contains ·):=by simpa using a
  exact h c (by simpa using (List.dropWhile_sublist _).mem this)
def okC(i:Nat)(c:UInt8):Bool:=dO jt c||(!decide (i=0)&&dO o7 c)
theorem agn(s:List UInt8):b9 s=true↔s≠[]∧∀(i:Nat) c,s[i]? =some c->okC i c=true:=by
 have f:∀c,(jt++o7).contains c=(dO jt c||dO o7 c):=by intro c;rw[agY,agY];simp[List.contains_eq_mem]
 unfold b9;simp only[Ac,BK,decide_eq_false_iff_not,decide_eq_true_eq,atK,f];constructor
 ·rintro⟨⟨a,e⟩,k⟩;refine⟨a,λi c d=>?_⟩;unfold okC;have g:=e c (Am d);cases i with
  |zero=>
   have:s.headD 0=c:=by cases s with
    |nil=>exact absurd rfl a
    |cons b l=>simpa using d
   rw[<-this,k];rfl
  |succ i=>simpa using g
 ·rintro⟨a,e⟩;refine⟨⟨a,λc d=>?_⟩,?_⟩
  ·obtain⟨i,h⟩:=BO d;have:=e i c h;unfold okC at this;cases j:dO jt c with
   |true=>rfl
   |false=>rw[j] at this;simp only[B8,Ac] at this;exact this.2
  ·cases s with
   |nil=>exact absurd rfl a
   |cons b l=>have:=e 0 b rfl;simpa [okC] using this
def ec:List UInt8->List UInt8->List (List UInt8)
 |p,[]=>[p]
 |p,c::s=>if c=46 then p::ec [] s else ec (p++[c]) s
theorem aij:∀(s:List UInt8)(k:Nat),s.count 46<=k->∃x l,Go.Lib.splitK [46] 0 k s=x::l∧∀p,ec p s=(p++x)::l
 | [],0,_=>⟨[],[],rfl,λp=>by simp[ec]⟩
 | [],k+1,_=>⟨[],[],rfl,λp=>by simp[ec]⟩
 |c::s,k,h=>by
  by_cases f:c=46
  ·subst f;rw[List.count_cons_self] at h;obtain⟨k,rfl⟩:∃k',k=k'+1:=⟨k-1,by omega⟩
   obtain⟨x,l,a,m⟩:=aij s k (by omega);have g:Go.Lib.index (46::s) [46]=0:=by simp[Go.Lib.index]
   refine⟨[],x::l,?_,λp=>?_⟩;·rw[Go.Lib.splitK,g];simp[a]
   ·rw[ec,if_pos rfl,m []];simp
  ·rw[List.count_cons_of_ne (λe=>f e)] at h;obtain⟨x,l,a,m⟩:=aij s k h;have g:Go.Lib.index (c::s) [46]=if Go.Lib.index s [46]== -1 then -1 else Go.Lib.index s [46]+1:=by
    rw[Go.Lib.index,if_neg];simp only[List.isPrefixOf,Bool.and_true];intro e;exact f (by simpa using (beq_iff_eq.1 e).symm)
   have hp:∀p,ec p (c::s)=ec (p++[c]) s:=λp=>by rw[ec,if_neg f]
   have t:=Go.Lib.index_ge s [46];refine⟨c::x,l,?_,λp=>by rw[hp,m];simp⟩;cases k with
   |zero=>rw[Go.Lib.splitK] at a ⊢;cases a;rfl
   |succ k=>
    rw[Go.Lib.splitK] at a ⊢;rw[g];by_cases o:Go.Lib.index s [46]=-1;·rw[if_pos (by simpa using o)] at a;rw[if_pos (by simp[o])];cases a;rfl
    ·obtain⟨i,j⟩:∃i:Nat,Go.Lib.index s [46]=i:=⟨(Go.Lib.index s [46]).toNat,by omega⟩
     rw[j] at a ⊢;have d:((i:Int)== -1)=false:=by rw[beq_eq_false_iff_ne];omega
     rw[if_neg (by simp[d])] at a;simp only[d,CD,if_false];have b:((i:Int)+1== -1)=false:=by rw[beq_eq_false_iff_ne];omega
     rw[if_neg (by simp[b])];have u:((i:Int)+1).toNat=i+1:=by omega
     have q:((i:Int)).toNat=i:=by omega
     rw[q] at a;rw[u];simp only[B5,Af,Ak,List.cons.injEq] at a ⊢;exact⟨by rw[<-a.1];simp,by rw[<-a.2];simp⟩
theorem aik(s:List UInt8):Go.Lib.split s [46]=ec [] s:=by obtain⟨x,l,b,a⟩:=aij s (Go.Lib.count s [46]) (by rw[Go.Lib.count_one];exact Ar _);rw[Go.Lib.split,b,a];simp
theorem arp(x:List UInt8):∀p,[]∈ec p (x++[46]):=by
 induction x with
 |nil=>intro p;simp[ec]
 |cons c x a=>
  intro p;rw[AI,ec];split;·exact AL _ (a _)
  ·exact a _
theorem auH(l:List (List UInt8)):(l.any λs=> !b9 s)= !(l.all b9):=by
 induction l with
 |nil=>rfl
 |cons x l a=>simp only[List.any_cons,Cm,a,Bool.not_and]
theorem ajv(s:List UInt8):(aq1 s=-1∧∀j:Nat,j<s.length->s.getD j 0≠46)∨(∃i:Nat,i<s.length∧aq1 s=i∧s.getD i 0=46∧∀j:Nat,i<j->j<s.length->s.getD j 0≠46):=by
 have key:∀j:Nat,(s.toArray[j]!)=s.getD j 0:=by intro j;simp[getElem!_def,Al];cases s[j]?<;>rfl
 have ne:∀u:UInt8,((u.toNat:Int)≠46)↔u≠46:=by
  intro u;constructor;·rintro h rfl;exact h rfl
  ·intro h e;refine h (BR.1 ?_);simpa using (by omega:u.toNat=46)
 have d:(⟨s.toArray⟩:ByteArray).size=s.length:=by show s.toArray.size=_;simp
 rcases Go.Lib.lastIndexByte_spec ⟨s.toArray⟩ 46 with⟨a,f⟩|⟨i,a,f,g,k⟩
 ·refine .inl ⟨a,λj b=>?_⟩;have:=f j (by rw[d];exact b);rw[show (⟨s.toArray⟩:ByteArray).data=s.toArray from rfl,key] at this;exact(ne _).1 this
 ·refine .inr ⟨i,by rw[d] at a;exact a,f,?_,λj b m=>?_⟩
  ·rw[show (⟨s.toArray⟩:ByteArray).data=s.toArray from rfl,key] at g;by_cases h:s.getD i 0=46;·exact h
   ·exact absurd g ((ne _).2 h)
  ·have:=k j b (by rw[d];exact m);rw[show (⟨s.toArray⟩:ByteArray).data=s.toArray from rfl,key] at this;exact(ne _).1 this
noncomputable def yV:aq:=tab (P:=Tryd.prog) [] [] [55] [adq,aeU,amJ,akC,akE]
def aaq:IR:=Rs [Bi 47 .lss 46 45] (Sq (Cn 47 .skip (.exit 1)) (Sq (.block 2 (Rs [Mv 48 46,Mv 4 48] (.gh (.opn (.slot 3)) (.ghp (.cls (.slot 3)) (.reg [Mv 49 3,Mv 50 4,Fa 51 4 1,Lq 52 51,Mv 53 4,Ix 54 .str 52 53,Lq 55 54,Ca 56 54 [55],Pp (.bin 57 .add 56 (kS [58])),Mv 58 3,Mv 59 4,Pp (.ixw 60 .str 58 59),Fo [0] [] (.ldw 61 1 false 60),Bi 62 .add 57 61,Pp (.ixw 63 .str 49 50),Fo [] [0] (.stw none 1 63 62)] [[],[],[],[2],[],[2,3,4],rg 2 5,rg 2 6,rg 2 7,[],[],[9,10],[9,10,11],rg 2 12,rg 0 13,rg 0 14]))))) (Rg [Bc 64 .add 46 1,Mv 46 64])))
def yW:IR:=Sq (.gh (.opn (.slot 3)) (.ghp (.cls (.slot 3)) (Rg [Mv 65 3,Ca 66 55 [65,kS [44]],Pp (.bin 67 .add (kS [123]) 66),Pp (.bin 68 .add 67 (kS [125])),Mv 2 68]))) .ret
def yX:IR:=Rs [Ms 2 [110,117,108,108]] .ret
def am2:IR:=Rs [Bx 1 0,Ms 2 []] (Sq (Rs [Fa 5 0 1,Lq 6 5] (.block 0 (Rs [Bc 8 .eql 6 2,Mv 7 8] (Cn 7 (Rs [Fa 9 1 1,Lq 10 9,Bc 11 .neq 10 0,Ca 12 52 [11],Mv 2 12] .ret) (Rs [Bc 14 .eql 6 3,Mv 13 14] (Cn 13 (Rs [Fa 15 1 1,Lq 16 15,Ca 17 53 [16,kI 10],Mv 2 17] .ret) (Rs [Bc 19 .eql 6 4,Mv 18 19] (Cn 18 (Rs [Fa 20 2 1,Lq 21 20,Ca 22 54 [21],Mv 2 22] .ret) (Rs [Bc 24 .eql 6 5,Mv 23 24] (Cn 23 (Rs [Fa 25 3 1,Lq 26 25,Pp (.callz 27 56 [.t 26]),Ca 28 55 [27,kS [44]],Pp (.bin 29 .add (kS [91]) 28),Pp (.bin 30 .add 29 (kS [93])),Mv 2 30] .ret) (Rs [Bc 32 .eql 6 6,Mv 31 32] (Cn 31 (Rs [Fa 33 3 1,Lq 34 33,Fa 35 3 1,Lq 36 35,Ll 37 36,Fa 38 4 1,Lq 39 38,Ll 40 39,Pp (.mx 41 true 37 40),Pp (.subl 42 .jnode 34 none (some 41)),Ca 43 56 [42],Pp (.mov 3 (.tk 43))] (Sq (Rs [Mv 44 3,Pp (.lnw 45 44),Mi 46 0] (.block 1 (.loop [1,3,45,46,1000000] 0 aaq))) yW)) .skip)))))))))))) yX)
def aew:List RV:=[.t 2]
theorem am3:FnC Tryd.prog yV [55,2000055] 0 afW Tryd.f26 am2 aew:=fnC Tryd.func26
def akY(R:IR->(Ex->St->Ro)->St->Ro)(a:St->Ro):Ex->St->Ro:=(b7 a [1,3,45,46,1000000] 0 (aJ 1 (kseq (R yW) (aJ 0 (kseq (R yX) (fin aew))))))
abbrev qU:Type:=(aa×Bss×Int×Int)
def pG(x:qU):St:={env:=(.undef::.ea (enc .jnode x.1)::.undef::.ul .str x.2.1::(U 41 (.int .i64 x.2.2.1::.int .i64 x.2.2.2::(U 22 [])))),hp:=[]}
def vM(N:Nat):(St->Ro)->St->Ro:=λa s=>run yV N aaq (akY (run yV N) a) s
def qV(N:Nat)(d:qU->Ro)(x:qU):Ro:=
 let k:aa:=x.1;let b:Bss:=x.2.1;let e:Int:=x.2.2.1;let a:Int:=x.2.2.2
 cond (decide (a<e)) (
  chk (decide (0<Aa b)) (
   chk (ixl a k.names) (
    let q:=An k.names (Ah a) (ao .str)
    af (oL q) (λ(p:Bs)=>
     chk (decide (Aa p+Aa ([58]:Bs)<=9223372036854775807)) (
      let m:=(p++([58]:Bs))
      chk ((decide (0<=a)&&decide (a<↑(Aa b)))) (
       chk (decide ((Ah a)<Aa b)) (
        let h:=An b (Ah a) (ao .str)
        chk (decide (Aa m+Aa h<=9223372036854775807)) (
         chk ((decide (0<=a)&&decide (a<↑(Aa b)))) (
          chk (decide ((Ah a)<Aa b)) (
           let f:=(Bb b (Ah a) (m++h))
           chk (AD (Aa b) (Aa f)) (
            let j:=(Ae .i64 (a+1))
            d (k,f,e,j)))))))))))) (
  chk (decide (0<Aa b)) (
   anD (nk b ([44]:Bs)) ((AD (Aa b) (Aa b)&&true)) (λ(o:Bs)=>
    chk (decide (Aa ([123]:Bs)+Aa o<=9223372036854775807)) (
     let g:=(([123]:Bs)++o)
     chk (decide (Aa g+Aa ([125]:Bs)<=9223372036854775807)) (
      let i:=(g++([125]:Bs))
      chk (AD (Aa b) (Aa b)) (
       some (.str i,[none,none])))))))
theorem ajw(N:Nat):LB (vM N) pG (qV N):=λ_ _=>by kernel_rfl
def oQ(N:Nat)(a:aa)(t:qU->Ro):Ro:=
 cond (a.kind==2) (
  af (gW (!(a.n==0))) (λ(p:Bs)=>
   some (.str p,[]))) (
  cond (a.kind==3) (
   af (lw a.n 10) (λ(q:Bs)=>
    some (.str q,[]))) (
   cond (a.kind==4) (
    af (oL a.s) (λ(m:Bs)=>
     some (.str m,[]))) (
    cond (a.kind==5) (
     af (kM a.l) (λ(i:Bss)=>
      af (nk i ([44]:Bs)) (λ(f:Bs)=>
       chk (decide (Aa ([91]:Bs)+Aa f<=9223372036854775807)) (
        let e:=(([91]:Bs)++f)
        chk (decide (Aa e+Aa ([93]:Bs)<=9223372036854775807)) (
         let o:=(e++([93]:Bs))
         some (.str o,[])))))) (
     cond (a.kind==6) (
      let h:=(↑(Aa a.l):Int)
      let g:=(↑(Aa a.names):Int)
      let b:=(if g<h then g else h)
      chk ((decide (0<=b)&&decide (b<=(↑(Aa a.l):Int)))) (
       let j:=(Bd 0 (Br (Ah b) a.l))
       af (kM j) (λ(d:Bss)=>
        let k:=(↑(Aa d):Int)
        t (a,d,k,0)))) (
      some (.str ([110,117,108,108]:Bs),[]))))))
def aex(N:Nat)(a:aa):Ro:=oQ N a (λz=>aK N (qV N) z)
theorem akZ(N:Nat)(a:aa)(h:Tot (aex N a) (λz=>∃(d:Bs)(rest:List ai),z.1.dimR=.str d∧z.2=rest∧fh a (d))):∃r,gV a r:=am3.finP (N:=N) ((cz _ (by kernel_rfl) rfl (λC=>oQ N a (λz=>C 1000000 (pG z))) (λC=>by kernel_rfl)).trans (A8 (b:=oQ N a (λz=>bi N (vM N) (pG z))) (by kernel_rfl) (congrArg (oQ N a) (funext λz=>bm (pG) (vM N) (qV N) (ajw N) N z)))) h λ_ ⟨d,_,e,_,q⟩=>⟨(d),e,q⟩
noncomputable def vN:aq:=tab (P:=Tryd.prog) [] [] [] [afX]
def xJ:IR:=Rs [Bi 9 .lss 8 7] (Sq (Cn 9 .skip (.exit 0)) (Sq (.block 1 (Rs [Ix 10 .jnode 6 8,Ld 11 5 true 10,Pp (.alr 5 5),Fz 5 5 11] (Rg [Pp (.mov 12 (.tk 3)),Ld 13 5 true 5,Ca 14 26 [13],Pp (.bsl 15 .str [14] true),Pp (.apu 16 .str (.tk 12) 15),Pp (.mov 3 (.tk 16))]))) (Rg [Bc 17 .add 8 1,Mv 8 17])))
def xK:IR:=Rs [Pp (.mov 18 (.tk 3)),Pp (.mov 2 (.tk 18))] .ret
def ajx:IR:=Rs [Pp (.mov 2 (.c (.ul .str ([]:Bss))))] (Rs [Pp (.mov 3 (.c (.ul .str ([]:Bss))))] (Sq (Rs [Mv 6 0,Ll 7 6,Mi 8 0] (.block 0 (.loop [3,6,7,8,1000000] 0 xJ))) xK))
def aar:List RV:=[.t 2]
theorem ajy:FnC Tryd.prog vN [] 0 abM Tryd.f56 ajx aar:=fnC Tryd.func56
def ail(R:IR->(Ex->St->Ro)->St->Ro)(a:St->Ro):Ex->St->Ro:=(b7 a [3,6,7,8,1000000] 0 (aJ 0 (kseq (R xK) (fin aar))))
abbrev oe:Type:=(Bss×List aa×Int×Int)
def mR(x:oe):St:={env:=(U 3 (.ul .str x.1::.undef::.undef::.sl .jnode (.may false) x.2.1::.int .i64 x.2.2.1::.int .i64 x.2.2.2::(U 10 []))),hp:=[]}
def sX(N:Nat):(St->Ro)->St->Ro:=λa s=>run vN N xJ (ail (run vN N) a) s
def og(N:Nat)(a:oe->Ro)(x:oe):Ro:=
 let f:Bss:=x.1;let e:List aa:=x.2.1;let g:Int:=x.2.2.1;let d:Int:=x.2.2.2
 cond (decide (d<g)) (
  chk (ixl d e) (
   let b:=(An e (Ah d) (ao .jnode))
   af (gV ⟨b.kind,b.n,b.s,b.l,b.names⟩) (λ(h:Bs)=>
    chk (decide ((Aa f+Aa ([h]:Bss))*16<=140737488355328)) (
     let i:=(f++([h]:Bss))
     let j:=(Ae .i64 (d+1))
     a (i,e,g,j))))) (
  some (.ul .str f,[]))
theorem ahg(N:Nat):LB (sX N) mR (og N):=λ_ _=>by kernel_rfl
def l8(N:Nat)(a:List aa)(d:oe->Ro):Ro:=
 let b:=(↑(Aa a):Int)
 d (([]:Bss),a,b,0)
def aas(N:Nat)(a:List aa):Ro:=l8 N a (λz=>aK N (og N) z)
theorem aim(N:Nat)(a:List aa)(h:Tot (aas N a) (λz=>∃(d:Bss)(rest:List ai),z.1.dimR=.ul .str d∧z.2=rest∧xx a (d))):∃r,kM a r:=ajy.finP (N:=N) ((cz _ (by kernel_rfl) rfl (λC=>l8 N a (λz=>C 1000000 (mR z))) (λC=>by kernel_rfl)).trans (A8 (b:=l8 N a (λz=>bi N (sX N) (mR z))) (by kernel_rfl) (congrArg (l8 N a) (funext λz=>bm (mR) (sX N) (og N) (ahg N) N z)))) h λ_ ⟨d,_,e,_,q⟩=>⟨(d),e,q⟩
noncomputable def aoQ:aq:=tab (P:=Tryd.prog) [] [] [] []
def am4:IR:=Rs [Pp (.mov 0 (.c (nl .str)))] (Rs [Pp (.bsl 1 .str [kS [],kS [110,117,108,108],kS [98,111,111,108,101,97,110],kS [105,110,116],kS [108,111,110,103],kS [102,108,111,97,116],kS [100,111,117,98,108,101],kS [98,121,116,101,115],kS [115,116,114,105,110,103],kS [114,101,99,111,114,100],kS [101,110,117,109],kS [102,105,120,101,100],kS [97,114,114,97,121],kS [109,97,112],kS [117,110,105,111,110]] false),Pp (.mov 0 (.tk 1))] .ret)
def am5:List RV:=[.t 0]
theorem am6:FnC Tryd.prog aoQ [] 0 afT Tryd.f74 am4 am5:=fnC Tryd.func74
def aey(N:Nat):Ro:=
 some (.sl .str .own ([([]:Bs),([110,117,108,108]:Bs),([98,111,111,108,101,97,110]:Bs),([105,110,116]:Bs),([108,111,110,103]:Bs),([102,108,111,97,116]:Bs),([100,111,117,98,108,101]:Bs),([98,121,116,101,115]:Bs),([115,116,114,105,110,103]:Bs),([114,101,99,111,114,100]:Bs),([101,110,117,109]:Bs),([102,105,120,101,100]:Bs),([97,114,114,97,121]:Bs),([109,97,112]:Bs),([117,110,105,111,110]:Bs)]:Bss),[])
def aez(N:Nat):Ro:=aey N
theorem ak0(N:Nat)(h:Tot (aez N) (λz=>∃(a:Bss)(rest:List ai),z.1.dimR=.sl .str (.may false) a∧z.2=rest∧aag  (a))):∃r,qh  r:=am6.finP (N:=N) (by kernel_rfl) h λ_ ⟨a,_,e,_,q⟩=>⟨(a),e,q⟩
noncomputable def apS:aq:=tab (P:=Tryd.prog) [] [] [] [aot]
def aoR:IR:=Rs [Ms 2 []] (Sq (Rs [Mv 3 0,Bc 4 .lss 3 1,Mv 5 4,Gf 5 (.mov 6 0),Gf 5 (.bin 7 .gtr 6 (kI 14)),Po 8 5 7] (Cn 8 (Rs [Ms 2 []] .ret) .skip)) (Rs [Ca 9 74 [],Mv 10 0,Ix 11 .str 9 10,Lq 12 11,Mv 2 12] .ret))
def aoS:List RV:=[.t 2]
theorem aoT:FnC Tryd.prog apS [] 0 ahD Tryd.f37 aoR aoS:=fnC Tryd.func37
def ago(N:Nat)(a:Int):Ro:=
 cond (decide (a<1)) (
  some (.str ([]:Bs),[])) (
  cond (decide (14<a)) (
   some (.str ([]:Bs),[])) (
   af (qh) (λ(b:Bss)=>
    chk (ixl a b) (
     let d:=An b (Ah a) (ao .str)
     some (.str d,[])))))
def agp(N:Nat)(a:Int):Ro:=ago N a
theorem am7(N:Nat)(b:Int)(h:Tot (agp N b) (λz=>∃(a:Bs)(rest:List ai),z.1.dimR=.str a∧z.2=rest∧nd b (a))):∃r,kJ b r:=aoT.finP (N:=N) (by kernel_rfl) h λ_ ⟨a,_,e,_,q⟩=>⟨(a),e,q⟩
noncomputable def aoU:aq:=tab (P:=Tryd.prog) [] [] [] []
def am8:IR:=Rs [Pp (.new 2 [vI 0,vI 0,vS,nl .jnode,nl .str])] (Rs [Mv 3 0,Pp (.bld 4 [vI 0,vI 0,vS,fu .jnode true,fu .str true] [(0,1,kI 4),(2,1,3)]),Sv 5 2 4] .ret)
def am9:List RV:=[.cell 2 5 true]
theorem ana:FnC Tryd.prog aoU [] 0 afV Tryd.f58 am8 am9:=fnC Tryd.func58
def aeA(N:Nat)(a:Bs):Ro:=
 some (.agg [.int .i64 4,.int .i64 0,.str a,.sl .jnode (.may true) ([]:List aa),.sl .str (.may true) ([]:Bss)],[some [.int .i64 4,.int .i64 0,.str a,.sl .jnode (.may true) ([]:List aa),.sl .str (.may true) ([]:Bss)]])
def aeB(N:Nat)(a:Bs):Ro:=aeA N a
theorem ak1(N:Nat)(b:Bs)(h:Tot (aeB N b) (λz=>∃(a:aa)(rest:List ai),z.1.dimR=.agg (enc .jnode a)∧z.2=rest∧gP b (a))):∃r,ch b r:=ana.finP (N:=N) (by kernel_rfl) h λ_ ⟨a,_,e,_,q⟩=>⟨(a),e,q⟩
noncomputable def aeC:aq:=tab (P:=Tryd.prog) [] [] [] []
def ab9:IR:=Rs [Pp (.new 4 [vI 0,vI 0,vS,nl .jnode,nl .str])] (Rs [Mv 5 0,Mv 6 1,Pp (.bld 7 [vI 0,vI 0,vS,fu .jnode true,fu .str true] [(0,1,kI 6),(4,1,5),(3,1,6)]),Sv 5 4 7] .ret)
def aca:List RV:=[.cell 4 5 true]
theorem ak2:FnC Tryd.prog aeC [] 0 aei Tryd.f57 ab9 aca:=fnC Tryd.func57
def acb(N:Nat)(a:Bool)(e:Bss)(b:Bool)(d:List aa):Ro:=
 some (.agg [.int .i64 6,.int .i64 0,.str ([]:Bs),.sl .jnode (.may b) d,.sl .str (.may a) e],[some [.int .i64 6,.int .i64 0,.str ([]:Bs),.sl .jnode (.may b) d,.sl .str (.may a) e]])
def vP(N:Nat)(a:Bool)(e:Bss)(b:Bool)(d:List aa):Ro:=acb N a e b d
theorem ajz(N:Nat)(a:Bool)(e:Bss)(b:Bool)(d:List aa):callF aeC N 8 aca ab9 [.sl .str (.may a) e,.sl .jnode (.may b) d] []=vP N a e b d:=by kernel_rfl
theorem ajA(N:Nat)(b:Bool)(o:Bss)(a:Bool)(k:List aa)(h:Tot (vP N b o a k) (λz=>∃(e:Int)(i:Int)(f:Bs)(d:Bool)(g:List aa)(m:Bool)(j:Bss)(rest:List ai),z.1=.agg [.int .i64 e,.int .i64 i,.str f,.sl .jnode (.may d) g,.sl .str (.may m) j]∧z.2=rest∧yF b o a k (e,i,f,d,g,m,j))):∃r,eI b o a k r:=by obtain⟨⟨v,hp⟩,t,e,i,f,d,g,m,j,rest,p,q,u⟩:=h;simp only at p q;subst q;subst p;exact⟨(e,i,f,d,g,m,j),ak2.pure (ajz N b o a k) t,u⟩
noncomputable def adJ:aq:=tab (P:=Tryd.prog) [] [] [] [u6]
def acc:IR:=Rs [Ms 2 []] (Rs [Mv 3 0,Ca 4 86 [3],Mv 2 4] .ret)
def acd:List RV:=[.t 2]
theorem ace:FnC Tryd.prog adJ [] 0 uo Tryd.f52 acc acd:=fnC Tryd.func52
def tq(N:Nat)(a:Bool):Ro:=
 af (et a) (λ(b:Bs)=>
  some (.str b,[]))
def tt(N:Nat)(a:Bool):Ro:=tq N a
theorem aa8(N:Nat)(b:Bool)(h:Tot (tt N b) (λz=>∃(a:Bs)(rest:List ai),z.1.dimR=.str a∧z.2=rest∧rh b (a))):∃r,gW b r:=ace.finP (N:=N) (by kernel_rfl) h λ_ ⟨a,_,e,_,q⟩=>⟨(a),e,q⟩
noncomputable def u7:aq:=tab (P:=Tryd.prog) [] [] [] []
def uG:IR:=Rs [Ms 2 []] (Sq (Rs [Mv 3 0] (Cn 3 (Rs [Ms 2 [116,114,117,101]] .ret) .skip)) (Rs [Ms 2 [102,97,108,115,101]] .ret))
def uH:List RV:=[.t 2]
theorem uI:FnC Tryd.prog u7 [] 0 mL Tryd.f86 uG uH:=fnC Tryd.func86
def l9(N:Nat)(a:Bool):Ro:=
 cond a (
  some (.str ([116,114,117,101]:Bs),[])) (
  some (.str ([102,97,108,115,101]:Bs),[]))
def ma(N:Nat)(a:Bool):Ro:=l9 N a
theorem tO(N:Nat)(b:Bool)(h:Tot (ma N b) (λz=>∃(a:Bs)(rest:List ai),z.1.dimR=.str a∧z.2=rest∧kT b (a))):∃r,et b r:=uI.finP (N:=N) (by kernel_rfl) h λ_ ⟨a,_,e,_,q⟩=>⟨(a),e,q⟩
end Go.Proofs.YtkinflmjagfapaaDoor
end
