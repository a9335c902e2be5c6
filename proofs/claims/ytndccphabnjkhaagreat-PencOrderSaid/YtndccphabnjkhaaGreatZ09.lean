import Derived.KernelRfl
import Derived.Test.YtndccphabnjkhaaGreatChecked
import Derived.ChangeArms
import Derived.ChangeSlices
import Derived.WideShapes
import Derived.WideKeyArgs
import Derived.Test.YtndccphabnjkhaaGreatZ02
import Derived.Test.YtndccphabnjkhaaGreatZ06
import Derived.Test.YtndccphabnjkhaaGreatZ07
import Derived.Test.YtndccphabnjkhaaGreatZ08
open Bool renaming and_eq_true→Ac,or_eq_true→Bl,or_eq_false_iff→Cj,not_eq_true→CK,or_false→CM
open Eq renaming trans→AE
open Go.IntKind renaming wrap→Ab,signed→AU,bits→A8,max→Bz,min→BU
open Go.World renaming cell?→BM
open Int renaming toNat→Ad,le_refl→As,toNat_natCast→AC
open List renaming length→Aa,length_cons→Af,getElem?_eq_some_iff→Ag,getElem?_eq_getElem→Ah,getD→Ai,length_append→Aj,length_nil→Ak,drop→An,take→Ao,getD_eq_getElem?_getD→Ar,getElem?_append_right→Au,mem_singleton→Av,getElem?_append_left→Ax,append_assoc→AB,mem_map→AD,map_append→AK,map_cons→AL,mem_cons→AN,take_length→AQ,length_drop→AT,mem_cons_self→AZ,mem_cons_of_mem→A3,append_nil→A5,take_append_drop→Ba,drop_zero→Bm,pairwise_append→By,pairwise_cons→BA,drop_left→BB,getElem?_cons_zero→BN,length_map→BY,mem_append_right→Cd,find?_eq_none→Cx,contains_cons→Df,contains_nil→D5
open Nat renaming le_refl→Ap,lt_or_ge→AH,add_comm→C2,strongRecOn→DG
open Option renaming bind_eq_some_iff→Co
open Option.some renaming injEq→Ae
open Prod renaming fst→BP
open Prod.mk renaming injEq→Al
open UInt8 renaming ofNat→Az,toNat_ofNat'→CP
set_option linter.all false
set_option maxRecDepth 100000
noncomputable section
namespace Go.Proofs.YtndccphabnjkhaaGreat
open Go.AM
def aF9(E n o:Nat):Bool:=(E==168&&n==2&&o==0)
theorem aHZ{E n o:Nat}(h:aF9 E n o=true):aCN E n o=true:=by simp only[aF9,Bl,Ac,beq_iff_eq] at h;obtain⟨⟨rfl,rfl⟩,rfl⟩:=h;kernel_rfl
theorem getD_some{hp:List aJ}{id:Nat}{cs:List V}(h:hp.getD id none=some cs):hp[id]? =some (some cs):=by
 rw[Ar] at h;cases a:hp[id]? with
 |none=>rw[a] at h;simp at h
 |some x=>rw[a] at h;simpa using h
theorem ao8{cs:List V}{o:Nat}{v:V}(h:cs.getD o .undef=v)(b:v≠.undef):cs[o]? =some v:=by
 rw[Ar] at h;cases a:cs[o]? with
 |none=>rw[a] at h;exact absurd h.symm b
 |some x=>rw[a] at h;simpa using h
def gWS(id o:Nat)(s:List UInt8)(hp:List aJ):Option (Bool×V×List aJ):=
 match hp.getD id none with
 |some cs=>match cs.getD o .undef,cs.getD (o+1) .undef with
  | .bn E n,.sl .u8 .own l=>cond (aF9 E n o) (some (decide (l.length+s.length<=140737488355328),.tup [.int .i64 (s.length:Int),.nilif],hp.set id (some (cs.set (o+1) (.sl .u8 .own (l++s)))))) none
  |_,_=>none
 |none=>none
def gST(id o:Nat)(hp:List aJ):Option (Bool×V×List aJ):=
 match hp.getD id none with
 |some cs=>match cs.getD (o+1) .undef with
  | .sl .u8 .own l=>some (true,.str l,hp.set id (some (cs.set (o+1) (.sl .u8 (.may false) l))))
  |_=>none
 |none=>none
theorem aL4{id o:Nat}{s:List UInt8}{hp hp':List aJ}{v:V}(h:gWS id o s hp=some (true,v,hp')):gc Tryz.prog 91 [.ptr id o,.str s] hp v hp':=by
 unfold gWS at h;split at h
 ·rename_i cs c;split at h
  ·rename_i E n l e d;cases a:aF9 E n o with
   |false=>rw[a] at h;simp at h
   |true=>rw[a] at h;simp only[cond_true,Ae,Al,decide_eq_true_eq] at h;obtain⟨b,rfl,rfl⟩:=h;exact aMP (getD_some c) (ao8 e (by simp)) (aHZ a) (ao8 d (by simp)) b
  ·simp at h
 ·simp at h
theorem aL5{id o:Nat}{hp hp':List aJ}{v:V}(h:gST id o hp=some (true,v,hp')):gc Tryz.prog 93 [.ptr id o] hp v hp':=by
 unfold gST at h;split at h
 ·rename_i cs a;split at h;·rename_i l b;simp only[Ae,Al,true_and] at h;obtain⟨rfl,rfl⟩:=h;exact aMQ (getD_some a) (ao8 b (by simp))
  ·simp at h
 ·simp at h
def apz(Γ:aI):aI:=λf vs hp=>
 if f=91 then
  match vs with
  | [.ptr id o,.str s]=>gWS id o s hp
  |_=>none
 else if f=93 then
  match vs with
  | [.ptr id o]=>gST id o hp
  |_=>none
 else Γ f vs hp
theorem aCP{Γ:aI}(b:bB Tryz.prog Γ):bB Tryz.prog (apz Γ):=by
 intro f vs hp v hp' h;unfold apz at h;split at h
 ·rename_i a;subst a;split at h;·exact aL4 h
  ·simp at h
 ·split at h
  ·rename_i a;subst a;split at h;·exact aL5 h
   ·simp at h
  ·exact b _ _ _ _ _ h
theorem auN{Γ:aI}(b:cE Γ []):cE (apz Γ) [91,93]:=by
 refine⟨?_,?_⟩;·intro f vs hp a;simp only[Df,D5,CM,Cj,beq_eq_false_iff_ne,ne_eq,decide_eq_true_eq,CK,AN,List.not_mem_nil,not_or,not_false_eq_true,or_false] at a;simp only[apz,a,if_false];exact b.pure f vs hp (by simp)
 ·intro f vs hp c v hp' a h;simp only[Df,D5,CM,Bl,beq_iff_eq] at a;omega
def aGa:aI:=tb_ [] [] [] [aix,axs,ag5,aGX]
def aD9:IR:=Rs [Bx 5 0,Bx 9 4,Ms 10 []] (Sq (.reg [Mv 12 1,Mv 13 2,Ca 14 158 [13],Fa 15 1 9,Lq 16 15,Pp (.bld 17 [vI 0,vI 0,vU 0,vS,vS] [(0,1,12),(1,1,14),(3,1,16)]),Pp (.new 11 [vI 0,vI 0,vU 0,vS,vS]),Fo [] [0] (.st none 5 11 17)] [[],[],[1],[],[3],rg 0 4,[],rg 0 6]) (Sq (Rs [Fa 18 1 11,Lo 19 18,Bc 20 .neq 19 2] (Cn 20 (Rg [Mv 21 2,Fa 22 0 9,Lq 23 22,Ca 24 160 [21,23],Fa 25 2 11,Sv 1 25 24]) .skip)) (Sq (Rs [Mv 26 2,Bc 27 .eql 26 16] (Cn 27 (Rg [Ld 28 2 true 5,Mv 29 3,Fa 30 2 9,Ld 31 2 true 30,Ca 32 49 [28,29,31],Fa 33 3 11,Sv 1 33 32]) .skip)) (Rs [Pp (.ld 34 5 true false 11),Ca 35 148 [34],Mv 10 35] .ret))))
theorem aEa:FnC Tryz.prog aGa [] 0 147 Tryz.f147 aD9 auy:=fnC Tryz.func147
def arj(N:Nat)(c:List PMs)(d:List PEn)(e f:Int)(i:Bs)(a:aC):Ro:=let g:=λl m o p=>(some (vT l,[some [vI e,vI m,vU o,vT p,vT []]]):Ro);aA (v8 f) (λ(b:Int)=>cond (!(b==2)) (aA (anj f a.n) (λ(h:Int)=>cond (f==16) (aA (gZ c d i a.fs a.rest) (λ(j:Bs)=>aA (qi ⟨e,b,h,j,[]⟩) (λ(q:Bs)=>g q b h j))) (aA (qi ⟨e,b,h,a.s,[]⟩) (λ(r:Bs)=>g r b h a.s)))) (cond (f==16) (aA (gZ c d i a.fs a.rest) (λ(k:Bs)=>aA (qi ⟨e,b,0,k,[]⟩) (λ(t:Bs)=>g t b 0 k))) (aA (qi ⟨e,b,0,a.s,[]⟩) (λ(u:Bs)=>g u b 0 a.s))))
def ark(N:Nat)(a:List PMs)(b:List PEn)(c d:Int)(e:Bs)(f:aC):Ro:=arj N a b c d e f
theorem aCQ(N:Nat)(a:List PMs)(b:List PEn)(d f:Int)(g:Bs)(i:aC)(h:Tot (ark N a b d f g i) (λz=>∃c rest,z.1.dimR=vT c∧z.2=rest∧alb a b d f g i (c))):∃r,oE a b d f g i r:=aEa.finP (N:=N) (by kernel_rfl) h λ_ ⟨c,_,e,_,q⟩=>⟨(c),e,q⟩
def aEb:aI:=tb_ [] [] [] [auo]
def aCR:IR:=Rs [Bx 3 1,Ms 4 []] (Rs [Pp (.bld 6 [fu .pms true,fu .pen true] []),Mv 7 0,Ld 8 4 true 3,Ca 9 147 [6,kI 1,7,kS [],8],Mv 5 9] (Rs [Mv 10 5,Pp (.subs 11 10 (some (kI 1)) none),Mv 4 11] .ret))
theorem aCS:FnC Tryz.prog aEb [] 0 149 Tryz.f149 aCR aR:=fnC Tryz.func149
def ao9(N:Nat)(b:Int)(c:aC):Ro:=aA (oE [] [] 1 b [] (reP c)) (λ(a:Bs)=>chk (decide (0<=1)&&decide (1<=(↑(Aa a):Int))) (let d:=(An (Ad 1) (Ao (Aa a) a));some (vT d,[])))
def apa(N:Nat)(a:Int)(b:aC):Ro:=ao9 N a b
theorem azv(N:Nat)(b:Int)(c:aC)(h:Tot (apa N b c) (λz=>∃a rest,z.1.dimR=vT a∧z.2=rest∧aiw b c (a))):∃r,ace b c r:=aCS.finP (N:=N) (by kernel_rfl) h λ_ ⟨a,_,e,_,q⟩=>⟨(a),e,q⟩
def iX:aI:=(apz (eW (ajd (P:=Tryz.prog) [auo,axs,aDP])))
theorem asL:cE iX [91,93]:=((auN (cK _ _)).mono (by decide) (by decide))
theorem auO:bB Tryz.prog iX:=by refine aCP ?_;exact arA _
def agT:IR:=Sq (Rs [Mv 35 8,Bc 36 .add 35 1,Mv 37 2,Ll 38 37,Bi 39 .lss 36 38] (Cn 39 .skip (.exit 3))) (Sq (.block 4 (Sq (.reg [Ld 42 2 true 3,Fa 43 5 4,Lq 44 43,Mv 45 2,Mv 46 8,Ix 47 .pval 45 46,Ld 48 4 true 47,Ca 49 147 [42,kI 1,44,kS [],48],Ld 50 2 true 3,Fa 51 3 4,Lq 52 51,Fa 53 4 4,Lq 54 53,Mv 55 2,Mv 56 8,Bc 57 .add 56 1,Ix 58 .pval 55 57,Ld 59 4 true 58,Ca 60 147 [50,kI 2,52,54,59],Bi 61 .add 49 60,Mv 9 61] [[],[],[1],[],[],[3,4],[3,4,5],rg 0 6,[],[],[9],[],[11],[],[],[14],[13,14,15],rg 13 16,rg 0 17,rg 0 18,rg 0 19]) (Rg [Fa 62 0 4,Lq 63 62,Mv 64 9,Pp (.bld 65 [vI 0,vI 0,vU 0,vS,vS] [(0,1,63),(1,1,kI 2),(3,1,64)]),Ca 66 148 [65],Ca 67 91 [7,66]]))) (Rg [Mv 40 8,Bc 41 .add 40 2,Mv 8 41]))
def afN:IR:=Rs [Bi 74 .lss 73 72] (Sq (Cn 74 .skip (.exit 5)) (Sq (.block 6 (Rs [Ix 75 .pval 71 73,Ld 76 4 true 75,Pp (.alr 11 4),Fz 11 4 76] (Rg [Fa 77 3 4,Lq 78 77,Ld 79 4 true 11,Ca 80 149 [78,79],Ca 81 91 [7,80]]))) (Rg [Bc 82 .add 73 1,Mv 73 82])))
def afO:IR:=Sq (.reg [Fa 83 0 4,Lq 84 83,Fo [] [0] (.call 85 93 [7]),Pp (.bld 86 [vI 0,vI 0,vU 0,vS,vS] [(0,1,84),(1,1,kI 2),(3,1,85)]),Ca 87 148 [86],Mv 6 87] [[],[0],[],[0,1,2],rg 0 3,rg 0 4]) .ret
def afP:IR:=Rs [Bi 17 .lss 16 15] (Sq (Cn 17 .skip (.exit 1)) (Sq (.block 2 (Rs [Ix 18 .pval 14 16,Ld 19 4 true 18,Pp (.alr 13 4),Fz 13 4 19] (Rg [Ld 20 2 true 3,Fa 21 0 4,Lq 22 21,Fa 23 3 4,Lq 24 23,Fa 25 4 4,Lq 26 25,Ld 27 4 true 13,Ca 28 147 [20,22,24,26,27],Ca 29 91 [7,28]]))) (Rg [Bc 30 .add 16 1,Mv 16 30])))
def rn:IR:=Rs [Ca 88 93 [7],Mv 6 88] .ret
def azw:IR:=Rs [Bx 3 0,Bx 4 1,Ms 6 []] (Rs [Pp (.newb 7 [.bn 168 2,.sl .u8 .own ([]:Bs)])] (Sq (.block 0 (Rs [Fa 32 2 4,Lq 33 32,Bc 34 .eql 33 3,Mv 31 34] (Cn 31 (Rs [Mi 8 0] (.block 3 (.loop [2,3,4,7,8,1000000] 1 agT))) (Rs [Fa 69 6 4,Lq 70 69,Mv 68 70] (Cn 68 (Sq (Rs [Mv 71 2,Ll 72 71,Mi 73 0] (.block 5 (.loop [4,7,71,72,73,1000001] 1 afN))) afO) (Rs [Mv 14 2,Ll 15 14,Mi 16 0] (.block 1 (.loop [3,4,7,14,15,16,1000002] 1 afP)))))))) rn))
theorem azx:FnC Tryz.prog iX [91,93] 0 92 Tryz.f92 azw br:=⟨auO,asL,Tryz.func92,by kernel_rfl,by kernel_rfl,by decide⟩
def awW(R:TRr)(a:TS):TE:=(bu a [2,3,4,7,8,1000000] 1 (aP 3 (aP 0 (kseq (R rn) (fin br)))))
abbrev qd:Type:=(List aC×List PMs×List PEn×PFl×Int×Bs)
def tA:qd->St:=λ(a,b,c,d,e,f)=>{env:=(.undef::.undef::vF .pval a::.ea [vF .pms b,vF .pen c]::.ea (enc .pfl d)::.undef::.undef::.ptr 0 0::vI e::(U 80 [])),hp:=[some [.bn 168 2,vO .u8 f]]}
def abR(N:Nat):TS->TS:=λa s=>run iX N agT (awW (run iX N) a) s
def vk(N:Nat)(d:qd->Ro):qd->Ro:=λ(e,b,c,f,g,a)=>let l:=(Ab .i64 (g+1));let m:=(↑(Aa e):Int);cond (decide (l<m)) (chk (ixl g e) (let n:=(Ai e (Ad g) (aK .pval));aA (oE b c 1 f.key [] (reP n)) (λ(h:Bs)=>let i:=(Ab .i64 (g+1));chk (ixl i e) (let o:=(Ai e (Ad i) (aK .pval));aA (oE b c 2 f.kind f.typ (reP o)) (λ(j:Bs)=>chk (decide (Aa h+Aa j<=9223372036854775807)) (aA (qi ⟨f.num,2,0,(h++j),[]⟩) (λ(k:Bs)=>chk (decide (Aa a+Aa k<=140737488355328)) (let p:=(Ab .i64 (g+2));d (e,b,c,f,p,(a++k)))))))))) (some (vT a,[some [.bn 168 2,vF .u8 a]]))
theorem auP(N:Nat):LB (abR N) tA (vk N):=λ_ _=>by kernel_rfl
def awX(R:TRr)(a:TS):TE:=(bu a [4,7,71,72,73,1000001] 1 (aP 5 (kseq (R afO) (aP 0 (kseq (R rn) (fin br))))))
abbrev qe:Type:=(PFl×List aC×Int×Int×Bs)
def tB:qe->St:=λ(a,b,c,d,e)=>{env:=(U 4 (.ea (enc .pfl a)::.undef::.undef::.ptr 0 0::(U 63 (vF .pval b::vI c::vI d::(U 15 []))))),hp:=[some [.bn 168 2,vO .u8 e]]}
def abS(N:Nat):TS->TS:=λa s=>run iX N afN (awX (run iX N) a) s
def vl(N:Nat)(b:qe->Ro):qe->Ro:=λ(f,d,e,c,a)=>cond (decide (c<e)) (chk (ixl c d) (let i:=(Ai d (Ad c) (aK .pval));aA (ace f.kind (reP i)) (λ(h:Bs)=>chk (decide (Aa a+Aa h<=140737488355328)) (let g:=(Ab .i64 (c+1));b (f,d,e,g,(a++h)))))) (aA (qi ⟨f.num,2,0,a,[]⟩) (λ(j:Bs)=>some (vT j,[some [.bn 168 2,vF .u8 a]])))
theorem auQ(N:Nat):LB (abS N) tB (vl N):=λ_ _=>by kernel_rfl
def awY(R:TRr)(a:TS):TE:=(bu a [3,4,7,14,15,16,1000002] 1 (aP 1 (aP 0 (kseq (R rn) (fin br)))))
abbrev qf:Type:=(List PMs×List PEn×PFl×List aC×Int×Int×Bs)
def tC:qf->St:=λ(a,b,c,d,e,f,g)=>{env:=(U 3 (.ea [vF .pms a,vF .pen b]::.ea (enc .pfl c)::.undef::.undef::.ptr 0 0::(U 6 (vF .pval d::vI e::vI f::(U 72 []))))),hp:=[some [.bn 168 2,vO .u8 g]]}
def abT(N:Nat):TS->TS:=λa s=>run iX N afP (awY (run iX N) a) s
def vm(N:Nat)(b:qf->Ro):qf->Ro:=λ(d,e,h,f,g,c,a)=>cond (decide (c<g)) (chk (ixl c f) (let i:=(Ai f (Ad c) (aK .pval));aA (oE d e h.num h.kind h.typ (reP i)) (λ(k:Bs)=>chk (decide (Aa a+Aa k<=140737488355328)) (let j:=(Ab .i64 (c+1));b (d,e,h,f,g,j,(a++k)))))) (some (vT a,[some [.bn 168 2,vF .u8 a]]))
theorem auR(N:Nat):LB (abT N) tC (vm N):=λ_ _=>by kernel_rfl
def rZ(N:Nat)(a:List PMs)(b:List PEn)(c:PFl)(d:List aC)(f:qd->Ro)(g:qe->Ro)(h:qf->Ro):Ro:=cond (c.label==3) (f (d,a,b,c,0,[])) (cond c.packed (let i:=(↑(Aa d):Int);g (c,d,i,0,[])) (let e:=(↑(Aa d):Int);h (a,b,c,d,e,0,[])))
def alm(N:Nat)(a:List PMs)(b:List PEn)(c:PFl)(d:List aC):Ro:=rZ N a b c d (λz=>aN N (vk N) z) (λz=>aN N (vl N) z) (λz=>aN N (vm N) z)
theorem awZ(N:Nat)(a:List PMs)(c:List PEn)(d:PFl)(f:List aC)(h:Tot (alm N a c d f) (λz=>∃g rest,z.1.dimR=vT g∧z.2=rest∧agF a c d f (g))):∃r,aae a c d f r:=azx.finP (N:=N) ((bK _ (by kernel_rfl) rfl (λC=>rZ N a c d f (λz=>C 1000000 (tA z)) (λz=>C 1000001 (tB z)) (λz=>C 1000002 (tC z))) (λC=>by kernel_rfl)).trans (AE (b:=rZ N a c d f (λz=>aZ N (abR N) (tA z)) (λz=>aZ N (abS N) (tB z)) (λz=>aZ N (abT N) (tC z))) (by kernel_rfl) (congr (congr (congrArg (rZ N a c d f) (funext λz=>aW (tA) (abR N) (vk N) (auP N) N z)) (funext λz=>aW (tB) (abS N) (vl N) (auQ N) N z)) (funext λz=>aW (tC) (abT N) (vm N) (auR N) N z)))) h λ_ ⟨g,_,e,_,q⟩=>⟨(g),e,q⟩
def qg:aI:=(apz (eW (ajd (P:=Tryz.prog) [aad,adw,aBG])))
theorem apb:cE qg [91,93]:=((auN (cK _ _)).mono (by decide) (by decide))
theorem aqv:bB Tryz.prog qg:=by refine aCP ?_;exact arA _
def ad7:IR:=Rs [Bi 24 .lss 23 22] (Sq (Cn 24 .skip (.exit 0)) (Sq (.block 1 (Rs [Ix 25 .pfd 21 23,Ld 26 2 true 25,Pp (.alr 11 2),Fz 11 2 26] (Rs [Ld 28 3 true 7,Fa 29 0 11,Lq 30 29,Ca 31 89 [28,30],Mv 27 31,Ex_ 32 0 27,Ex_ 33 1 27,Pp (.alr 12 8),Fz 12 8 32,Mv 13 33] (Rg [Ld 34 2 true 3,Ld 35 8 true 12,Fa 36 1 11,Lq 37 36,Ca 38 92 [34,35,37],Ca 39 91 [9,38]])))) (Rg [Bc 40 .add 23 1,Mv 23 40])))
def ad8:IR:=Rs [Fa 41 1 5,Lq 42 41,Ca 43 91 [9,42]] (Rs [Ca 44 93 [9],Mv 6 44] .ret)
def auS:IR:=Rs [Bx 3 0,Bx 5 2,Ms 6 []] (Rs [Ld 15 2 true 3,Mv 16 1,Ca 17 47 [15,16],Mv 14 17,Ex_ 18 0 14,Ex_ 19 1 14,Pp (.alr 7 3),Fz 7 3 18,Mv 8 19] (Rs [Pp (.newb 9 [.bn 168 2,.sl .u8 .own ([]:Bs)])] (Sq (Rs [Fa 20 0 5,Lq 21 20,Ll 22 21,Mi 23 0] (.block 0 (.loop [3,5,7,9,21,22,23,1000000] 1 ad7))) ad8)))
theorem auT:FnC Tryz.prog qg [91,93] 0 49 Tryz.f49 auS br:=⟨aqv,apb,Tryz.func49,by kernel_rfl,by kernel_rfl,by decide⟩
def asM(R:TRr)(a:TS):TE:=(bu a [3,5,7,9,21,22,23,1000000] 1 (aP 0 (kseq (R ad8) (fin br))))
abbrev nf:Type:=(List PMs×List PEn×List (Int×List aC)×Bs×PMs×List (Int×List aC)×Int×Int×Bs)
def pB:nf->St:=λ(a,b,c,d,e,f,g,h,i)=>{env:=(U 3 (.ea [vF .pms a,vF .pen b]::.undef::.ea [vF .pfd c,vT d]::.undef::.ea (enc .pms e)::.undef::.ptr 0 0::(U 11 (vF .pfd f::vI g::vI h::(U 21 []))))),hp:=[some [.bn 168 2,vO .u8 i]]}
def xH(N:Nat):TS->TS:=λa s=>run qg N ad7 (asM (run qg N) a) s
def rp(N:Nat)(c:nf->Ro):nf->Ro:=λ(e,f,h,b,j,g,i,d,a)=>cond (decide (d<i)) (chk (ixl d g) (let k:=(Ai g (Ad d) (aK .pfd));aA (lr j k.1) (λm=>aA (aae e f m.1 k.2) (λ(l:Bs)=>chk (decide (Aa a+Aa l<=140737488355328)) (let n:=(Ab .i64 (d+1));c (e,f,h,b,j,g,i,n,(a++l))))))) (chk (decide (Aa a+Aa b<=140737488355328)) (some (vT (a++b),[some [.bn 168 2,vF .u8 (a++b)]])))
theorem aqw(N:Nat):LB (xH N) pB (rp N):=λ_ _=>by kernel_rfl
def oG(N:Nat)(b:List PMs)(c:List PEn)(e:Bs)(a:List (Int×List aC))(d:Bs)(f:nf->Ro):Ro:=aA (iT b c e) (λg=>let h:=(↑(Aa a):Int);f (b,c,a,d,g.1,a,h,0,[]))
def agU(N:Nat)(a:List PMs)(b:List PEn)(e:Bs)(c:List (Int×List aC))(d:Bs):Ro:=oG N a b e c d (λz=>aN N (rp N) z)
theorem asN(N:Nat)(a:List PMs)(c:List PEn)(g:Bs)(d:List (Int×List aC))(f:Bs)(h:Tot (agU N a c g d f) (λz=>∃i rest,z.1.dimR=vT i∧z.2=rest∧ad2 a c g d f (i))):∃r,gZ a c g d f r:=auT.finP (N:=N) ((bK _ (by kernel_rfl) rfl (λC=>oG N a c g d f (λz=>C 1000000 (pB z))) (λC=>by kernel_rfl)).trans (AE (b:=oG N a c g d f (λz=>aZ N (xH N) (pB z))) (by kernel_rfl) (congrArg (oG N a c g d f) (funext λz=>aW (pB) (xH N) (rp N) (aqw N) N z)))) h λ_ ⟨i,_,e,_,q⟩=>⟨(i),e,q⟩
def azy:aI:=tb_ [] [] [] [aad,arb,aix]
def aw0:IR:=Rs [Bx 3 0,Bx 5 2,Pp (.mov 6 (.c (nl .u8))),Mi 7 0] (Sq (Rs [Ld 12 2 true 3,Mv 13 1,Ca 14 47 [12,13],Mv 11 14,Ex_ 15 0 11,Ex_ 16 1 11,Pp (.alr 8 3),Fz 8 3 15,Mv 9 16] (Rs [Mv 17 9,Un 18 17] (Cn 18 (Rs [Pp (.mov 6 (.c (nl .u8))),Mi 7 1] .ret) .skip))) (Sq (Rs [Ld 19 2 true 3,Mv 20 1,Ld 21 2 true 5,Ca 22 48 [19,20,21],Un 23 22] (Cn 23 (Rs [Pp (.mov 6 (.c (nl .u8))),Mi 7 7] .ret) .skip)) (Rs [Ld 24 2 true 3,Mv 25 1,Ld 26 2 true 5,Ca 27 49 [24,25,26],Mv 10 27] (Sq (Rs [Mv 28 10,Pp (.lens 29 28),Bc 30 .gtr 29 5000] (Cn 30 (Rs [Pp (.mov 6 (.c (nl .u8))),Mi 7 3] .ret) .skip)) (Rs [Mv 31 10,Pp (.s2b 32 31),Mv 6 32,Mi 7 0] .ret)))))
theorem aw1:FnC Tryz.prog azy [] 0 14 Tryz.f14 aw0 aux:=fnC Tryz.func14
def aiT(N:Nat)(a:List PMs)(b:List PEn)(f:Bs)(c:List (Int×List aC))(d:Bs):Ro:=let e:=λh i=>(some (.tup [vF .u8 h,vI i],[]):Ro);aA (iT a b f) (λj=>cond (!j.2) (e [] 1) (aA (fP a b f c d) (λ(k:Bool)=>cond (!k) (e [] 7) (aA (gZ a b f c d) (λ(g:Bs)=>let l:=(↑(Aa g):Int);cond (decide (5000<l)) (e [] 3) (e g 0))))))
def aiU(N:Nat)(a:List PMs)(b:List PEn)(e:Bs)(c:List (Int×List aC))(d:Bs):Ro:=aiT N a b e c d
theorem auU(N:Nat)(a:List PMs)(b:List PEn)(i:Bs)(c:List (Int×List aC))(d:Bs)(h:Tot (aiU N a b i c d) (λz=>∃f g rest,z.1.dimR=.tup [vF .u8 f,vI g]∧z.2=rest∧afs a b i c d (f,g))):∃r,nJ a b i c d r:=aw1.finP (N:=N) (by kernel_rfl) h λ_ ⟨f,g,_,e,_,q⟩=>⟨(f,g),e,q⟩
theorem axL(num n m:Int)(s a:Bs):dE ⟨num,2,n,s,a⟩=dE ⟨num,2,m,s,a⟩:=rfl
theorem aGb{k:Int}(h:1<=k∧k<=17)(a:dO k≠2):dO k=0∨dO k=1∨dO k=5:=by revert a;rw[tN];unfold af7;(repeat' split)<;>omega
theorem aKY{k:Int}(h:1<=k∧k<=17)(a:dO k≠2)(n:Int)(s:Bs):1<=(dE ⟨1,dO k,toR k n,s,[]⟩).length∧(dE ⟨1,dO k,toR k n,s,[]⟩).drop 1=agB k n:=by
 unfold dE agB;rcases aGb h a with e|e|e<;>rw[e]
 ·have:dP 8=[8]:=by decide
  simp[this,C2]
 ·have:dP 9=[9]:=by decide
  simp[this,C2]
 ·have:dP 13=[13]:=by decide
  simp[this,C2]
section
variable{Q:V×List aJ->Prop}
def aGc(n:Nat):Prop:=∀(ms:List PMs)(es:List PEn)(t:Bs)(fs:List (Int×List aC))(rest:Bs),ajh ms->eH fs<=n->rest.length<=20000000000000->∃r,gZ ms es t fs rest r
theorem aH0(ms:List PMs)(es:List PEn)(num k:Int)(t:Bs)(v:aC)(f:wtV v<=20000000000000)(c:k=16->∃r,gZ ms es t v.fs v.rest r):∃r,oE ms es num k t v r:=by
 apply aCQ 1;show Tot _ (SrQ (nB ms num k t v));unfold ark arj;dsimp only;have e:=aey v;have d:=aJt ms t v.fs v.rest;rw[asK];refine aT (aoy _) (λ_ h=>h.2) (aB (λb=>aT (aKq _ _) (λ_ h=>h.2) (aB (λa=>aT (c (by simpa using a)) (λ_ h=>h.2) (aT (aex _ (by dsimp only;omega)) (λ_ h=>h.2) (aao _ ?_))) (λa=>aT (aex _ (by dsimp only;omega)) (λ_ h=>h.2) (aao _ ?_)))) (λb=>aB (λa=>aT (c (by simpa using a)) (λ_ h=>h.2) (aT (aex _ (by dsimp only;omega)) (λ_ h=>h.2) (aao _ ?_))) (λa=>aT (aex _ (by dsimp only;omega)) (λ_ h=>h.2) (aao _ ?_))));·rw[if_pos (by simpa using a)]
 ·rw[if_neg (by simpa using a)]
 ·rw[if_pos (by simpa using a),show dO k=2 by simpa using b];exact axL _ _ _ _ _
 ·rw[if_neg (by simpa using a),show dO k=2 by simpa using b];exact axL _ _ _ _ _
theorem aJx(k:Int)(v:aC)(d:wtV v<=20000000000000)(h:1<=k∧k<=17)(b:dO k≠2):∃r,ace k v r:=by
 apply azv 1;show Tot _ (SrQ (agB k v.n));unfold apa ao9;rw[nQ];have a:k≠16:=by rintro rfl;exact b (by rw[tN];rfl)
 refine aT (aH0 [] [] 1 k [] v d (λh=>absurd h a)) (λ_ h=>h.2) ?_;have e:nB [] 1 k [] v=dE ⟨1,dO k,toR k v.n,v.s,[]⟩:=by rw[asK,if_neg a]
 have c:=aKY h b v.n v.s;rw[e];refine aD (by simp only[Ac,decide_eq_true_eq];omega) (aao _ ?_);rw[AQ];exact c.2
theorem aH1(ms:List PMs)(es:List PEn)(f:PFl)(l:List aC)(hw:wtL l<=20000000000000)(Z:f.packed=true->dO f.kind≠2∧1<=f.kind∧f.kind<=17)(R:∀v∈l,∀t,∃r,gZ ms es t v.fs v.rest r):∃r,aae ms es f l r:=by
 obtain⟨N,hN⟩:∃N:Nat,N=300000000000:=⟨_,rfl⟩
 apply awZ N;show Tot _ (SrQ (adv ms f l));unfold alm rZ;have Y:=aiN l;have z:∀v∈l,∀(num k:Int)(t:Bs),∃r,oE ms es num k t v r:=λv M num k t=>aH0 ms es num k t v (by have:=yt M;omega) (λ_=>R v M t)
 refine aB (λI=>?_) (λI=>aB (λhp=>?_) (λhp=>?_))
 ·have H:adv ms f l=k8 ms f l:=by rw[akq,if_pos (by simpa using I)]
  rw[H];have d:=ao6 ms f l;refine bj (λ(x:qd)=>match x with|(C,p,w,B,k,b)=>(C,p,w,B)=(l,ms,es,f)∧0<=k∧k<=l.length+1∧k8 ms f l=b++k8 ms f (l.drop k.toNat)) (λx=>(l.length+1-x.2.2.2.2.1).toNat) ?_ _ _ ⟨rfl,As _,by omega,rfl⟩ (by dsimp only;omega);rintro u ⟨C,p,w,B,k,b⟩ ⟨q,m,O,e⟩ A;cases q;dsimp only at A;unfold vk;dsimp only;simp only[nQ];rw[dj m (by omega),aQ (k+2) (by omega)];refine aB (λc=>?_) (λc=>?_)
  ·have c:=of_decide_eq_true c;have i:=fp (l:=l) (aK .pval) m (by omega);have G:=fp (l:=l) (k:=k+1) (aK .pval) (by omega) c;rw[show k+1+1=k+2 by omega] at G;have j:=d8 (l:=l) (aK .pval) m (by omega);have D:=d8 (l:=l) (k:=k+1) (aK .pval) (by omega) c;rw[G] at i;obtain⟨x,F⟩:∃x,x=Ai l k.toNat (aK .pval):=⟨_,rfl⟩
   obtain⟨y,hy⟩:∃y,y=Ai l (k+1).toNat (aK .pval):=⟨_,rfl⟩
   rw[<-F] at i j ⊢;rw[<-hy] at i D ⊢;rw[i] at e;simp only[k8] at e;have E:b.length+((dE ⟨f.num,2,0,nB ms 1 f.key [] x++nB ms 2 f.kind f.typ y,[]⟩).length+(k8 ms f (l.drop (k+2).toNat)).length)<=wtL l:=by rw[e] at d;simpa only[Aj] using d
   have ab:=afM ms 1 f.key [] x;have P:=afM ms 2 f.kind f.typ y;have W:=yt j;have S:=yt D;refine aD (ixt ⟨m,by omega⟩) (aT (z x j 1 f.key []) (λ_ h=>h.2) (aD (ixt ⟨by omega,c⟩) (aT (z y D 2 f.kind f.typ) (λ_ h=>h.2) (aD (decide_eq_true (by omega)) (aT (aex _ (by simp only[Aj];omega)) (λ_ h=>h.2) (aD (decide_eq_true (by omega)) (A _ ⟨rfl,by first|omega|(dsimp only;omega),by first|omega|(dsimp only;omega),?_⟩ (by first|omega|(dsimp only;omega)))))))));rw[e,AB]
  ·have c:=of_decide_eq_false c;have:k8 ms f (l.drop k.toNat)=[]:=by
    have X:(l.drop k.toNat).length<=1:=by rw[AT];omega
    match h:l.drop k.toNat,X with
    | [],_=>simp[k8]
    | [a],_=>simp[k8]
   rw[this,A5] at e;exact aao _ e.symm
 ·have H:adv ms f l=dE ⟨f.num,2,0,tp f.kind l,[]⟩:=by rw[akq,if_neg (by simpa using I),if_pos hp]
  rw[H];obtain⟨J,L⟩:=Z hp;have d:=ao5 f.kind l;dsimp only;refine bj (λ(x:qe)=>match x with|(B,C,n,k,b)=>(B,C,n)=(f,l,(l.length:Int))∧0<=k∧k<=l.length∧tp f.kind l=b++tp f.kind (l.drop k.toNat)) (λx=>(l.length-x.2.2.2.1).toNat) ?_ _ _ ⟨rfl,As _,by omega,rfl⟩ (by dsimp only;omega);rintro u ⟨B,C,n,k,b⟩ ⟨q,m,O,e⟩ A;cases q;dsimp only at A;unfold vl;dsimp only;simp only[nQ];rw[dj m (by omega)];refine aB (λc=>?_) (λc=>?_)
  ·have c:=of_decide_eq_true c;have i:=fp (l:=l) (aK .pval) m c;have j:=d8 (l:=l) (aK .pval) m c;obtain⟨x,F⟩:∃x,x=Ai l k.toNat (aK .pval):=⟨_,rfl⟩
   rw[<-F] at i j ⊢;rw[i] at e;simp only[tp] at e;have E:b.length+((agB f.kind x.n).length+(tp f.kind (l.drop (k+1).toNat)).length)<=wtL l:=by rw[e] at d;simpa only[Aj] using d
   exact aD (ixt ⟨m,c⟩) (aT (aJx _ x (by have:=yt j;omega) L J) (λ_ h=>h.2) (aD (decide_eq_true (by omega)) (A _ ⟨rfl,by first|omega|(dsimp only;omega),by first|omega|(dsimp only;omega),by rw[e,AB]⟩ (by first|omega|(dsimp only;omega)))))
  ·have c:=of_decide_eq_false c;rw[gB c] at e;simp only[tp,A5] at e;rw[<-e];exact aT (aex _ (by dsimp only;omega)) (λ_ h=>h.2) (aao _ rfl)
 ·have H:adv ms f l=oq ms f l:=by rw[akq,if_neg (by simpa using I),if_neg (by simpa using hp)]
  rw[H];have d:=ao7 ms f l;dsimp only;refine bj (λ(x:qf)=>match x with|(p,w,B,C,n,k,b)=>(p,w,B,C,n)=(ms,es,f,l,(l.length:Int))∧0<=k∧k<=l.length∧oq ms f l=b++oq ms f (l.drop k.toNat)) (λx=>(l.length-x.2.2.2.2.2.1).toNat) ?_ _ _ ⟨rfl,As _,by omega,rfl⟩ (by dsimp only;omega);rintro u ⟨p,w,B,C,n,k,b⟩ ⟨q,m,O,e⟩ A;cases q;dsimp only at A;unfold vm;dsimp only;simp only[nQ];rw[dj m (by omega)];refine aB (λc=>?_) (λc=>?_)
  ·have c:=of_decide_eq_true c;have i:=fp (l:=l) (aK .pval) m c;have j:=d8 (l:=l) (aK .pval) m c;obtain⟨x,F⟩:∃x,x=Ai l k.toNat (aK .pval):=⟨_,rfl⟩
   rw[<-F] at i j ⊢;rw[i] at e;simp only[oq] at e;have E:b.length+((nB ms f.num f.kind f.typ x).length+(oq ms f (l.drop (k+1).toNat)).length)<=wtL l:=by rw[e] at d;simpa only[Aj] using d
   exact aD (ixt ⟨m,c⟩) (aT (z x j f.num f.kind f.typ) (λ_ h=>h.2) (aD (decide_eq_true (by omega)) (A _ ⟨rfl,by first|omega|(dsimp only;omega),by first|omega|(dsimp only;omega),by rw[e,AB]⟩ (by first|omega|(dsimp only;omega)))))
  ·have c:=of_decide_eq_false c;rw[gB c] at e;simp only[oq,A5] at e;exact aao _ e.symm
theorem aJy{p:PMs}{n:Int}(h:(cQ p n).2 =false):(cQ p n).1 =⟨0,[],0,0,[],0,false,0⟩:=by
 unfold cQ at h ⊢;split at h;·simp at h
 ·rfl
theorem azz(n:Nat)(L:∀k,k<n->aGc k)(X:n<=20000000000000):aGc n:=by
 intro ms es t fs rest B Z S;obtain⟨N,W⟩:∃N:Nat,N=300000000000:=⟨_,rfl⟩
 apply asN N;show Tot _ (SrQ (zU ms t fs rest));unfold agU oG;dsimp only;have hp:=aiB t B;have O:=akf fs;have a:=agS ms (dh ms t).1 fs;refine ahm B ?_;have I:zU ms t fs rest=ep ms (dh ms t).1 fs++rest:=rfl;obtain⟨p,C⟩:∃p,p=(dh ms t).1 :=⟨_,rfl⟩
 rw[<-C] at hp I a ⊢;have R:=hp.1;rw[I];refine bj (λ(x:nf)=>match x with|(j,r,i,F,H,u,m,k,b)=>(j,r,i,F,H,u,m)=(ms,es,fs,rest,p,fs,(fs.length:Int))∧0<=k∧k<=fs.length∧ep ms p fs=b++ep ms p (fs.drop k.toNat)) (λx=>(fs.length-x.2.2.2.2.2.2.2.1).toNat) ?_ _ _ ⟨rfl,As _,by omega,rfl⟩ (by dsimp only;omega);rintro A ⟨j,r,i,F,H,u,m,k,b⟩ ⟨q,z,Y,f⟩ D;cases q;dsimp only at D;unfold rp;dsimp only;rw[dj z (by omega)];refine aB (λd=>?_) (λd=>?_)
 ·have d:=of_decide_eq_true d;have e:=ixt (l:=fs) ⟨z,d⟩;have y:=fp (l:=fs) (aK .pfd) z d;have w:=d8 (l:=fs) (aK .pfd) z d;obtain⟨x,M⟩:∃x,x=Ai fs k.toNat (aK .pfd):=⟨_,rfl⟩
  rw[<-M] at y w ⊢;rw[y,akr] at f;have P:=awJ w;have J:b.length+((adv ms (cQ p x.1).1 x.2).length+(ep ms p (fs.drop (k+1).toNat)).length)<=eH fs:=by rw[f] at a;simpa only[Aj] using a
  have c:(cQ p x.1).1.packed =true->dO (cQ p x.1).1.kind ≠2∧1<=(cQ p x.1).1.kind ∧(cQ p x.1).1.kind <=17:=by
   intro c;cases E:(cQ p x.1).2 with
   |true=>have:=(yp x.1 hp E).1;exact⟨(this.pk c).1,this.k⟩
   |false=>rw[aJy E] at c;simp at c
  refine aD e (aoR (by omega) (aT (aH1 ms es _ x.2 (by omega) c (λv G t=>L (eH v.fs) (by have:=yt G;have:=aey v;omega) ms es t v.fs v.rest B (Ap _) (by have:=yt G;have:=aey v;omega))) (λ_ h=>h.2) (aD (decide_eq_true (by omega)) (D _ ⟨rfl,by first|omega|(dsimp only;omega),by first|omega|(dsimp only;omega),by rw[f,AB]⟩ (by first|omega|(dsimp only;omega))))))
 ·have d:=of_decide_eq_false d;rw[gB d] at f;simp only[ep,A5] at f;rw[f] at a ⊢;exact aD (decide_eq_true (by omega)) (aao _ rfl)
theorem aCT(n:Nat)(b:n<=20000000000000):aGc n:=by
 induction n using DG with
 |_ n a=>exact azz n (λk c=>a k c (by omega)) b
theorem ahp(ms:List PMs)(es:List PEn)(t:Bs)(fs:List (Int×List aC))(rest:Bs)(c:ajh ms)(d:eH fs<=20000000000000)(e:rest.length<=20000000000000):∃r,nJ ms es t fs rest r:=by
 apply auU 1;unfold aiU aiT;dsimp only;refine ahm c (aB (λh=>aG ⟨_,_,_,rfl,rfl,?_⟩) (λh=>aJg c d (aB (λa=>aG ⟨_,_,_,rfl,rfl,?_⟩) (λa=>aT (aCT _ d ms es t fs rest c (Ap _) e) (λ_ h=>h.2) (aB (λb=>aG ⟨_,_,_,rfl,rfl,?_⟩) (λb=>aG ⟨_,_,_,rfl,rfl,?_⟩))))));all_goals show _=yi ms t fs rest
 all_goals unfold yi
 ·rw[if_pos (by simpa using h)]
 ·rw[if_neg (by simpa using h),if_pos (by simpa using a)]
 ·rw[if_neg (by simpa using h),if_neg (by simpa using a),if_pos (by have:=of_decide_eq_true b;omega)]
 ·rw[if_neg (by simpa using h),if_neg (by simpa using a),if_neg (by have:=of_decide_eq_false b;omega)]
end
def scW:List PMs:=[⟨[65],[⟨1,[98],0,3,[],0,false,0⟩],[]⟩]
def aw2(s:List UInt8)(r:List PMs×List PEn×Bool):Prop:=r=(scW,[],true)
def ac4(r:Bool):Prop:=r=true
def aap(a b:List UInt8)(r:Bool):Prop:=r=true
def ad9(a b:Bs)(r:Bool):Prop:=aH Tryz.prog 5 [vF .u8 a,vF .u8 b] (vB r)∧aap a b r
def oH(r:Bool):Prop:=aH Tryz.prog 10 [] (vB r)∧ac4  r
def auV:bA Tryz.prog:=.mk 10 λ
 | []=>let r:=pick oH;some (can oH,vB r)
 |_=>none
def arl(a:Bs)(r:axt):Prop:=aH Tryz.prog 39 [vT a] (.tup [.agg [vF .pms r.1,vF .pen r.2.1],vB r.2.2])∧aw2 a r
def aEc:bA Tryz.prog:=.mk 39 λ
 | [.str a]=>pk (arl a) λr=>.tup [.agg [vF .pms r.1,vF .pen r.2.1],vB r.2.2]
 |_=>none
def auW:aI:=tb_ [] [] [] [alc,aEc]
def asO:IR:=Rs [Mb 0 false] (Rs [Ca 8 39 [kS [115,121,110,116,97,120,61,39,112,114,111,116,111,51,39,59,32,109,101,115,115,97,103,101,32,65,32,123,32,105,110,116,51,50,32,98,32,61,32,49,59,32,125]],Mv 7 8,Ex_ 9 0 7,Ex_ 10 1 7,Pp (.alr 1 2),Fz 1 2 9,Mv 2 10] (Rs [Ld 12 2 true 1,Pp (.bld 13 [vU 0,vS,fu .pfd true,vS] [(0,1,kU 5)]),Pp (.bsl 14 .pval [13] true),Pp (.bld 15 [vI 0,fu .pval true] [(0,1,kI 1),(1,1,14)]),Pp (.bsl 16 .pfd [15] true),Pp (.bld 17 [fu .pfd true,vS] [(0,1,16),(1,1,kS [16,1])]),Ca 18 14 [12,kS [65],17],Mv 11 18,Ex_ 19 0 11,Ex_ 20 1 11,Mv 3 19,Mv 4 20] (Rs [Ld 22 2 true 1,Pp (.bld 23 [fu .pfd true,vS] []),Ca 24 14 [22,kS [66],23],Mv 21 24,Ex_ 25 0 21,Ex_ 26 1 21,Mv 5 25,Mv 6 26] (Rs [Mv 27 4,Bc 28 .eql 27 0,Mv 29 28,Gt 29 (.mov 30 3),Gt 29 (.b2s 31 30),Gt 29 (.bin 32 .eql 31 (kS [8,5,16,1])),Pa 33 29 32,Mv 34 33,Gt 34 (.mov 35 6),Gt 34 (.bin 36 .eql 35 (kI 1)),Pa 37 34 36,Mv 0 37] .ret))))
def asP:List RV:=[.t 0]
theorem asQ:FnC Tryz.prog auW [] 0 10 Tryz.f10 asO asP:=fnC Tryz.func10
def afQ(N:Nat):Ro:=aA (arl [115,121,110,116,97,120,61,39,112,114,111,116,111,51,39,59,32,109,101,115,115,97,103,101,32,65,32,123,32,105,110,116,51,50,32,98,32,61,32,49,59,32,125]) (λa=>aA (nJ a.1 a.2.1 [65] ([⟨1,([(.mk 5 [] ([]:List (Int×List aC)) [])]:List aC)⟩]:List (Int×List aC)) [16,1]) (λb=>aA (nJ a.1 a.2.1 [66] ([]:List (Int×List aC)) []) (λc=>cond (b.2==0) (let d:=decide (b.1=[8,5,16,1]);cond d (some (vB (c.2==1),[])) (some (vB false,[]))) (some (vB false,[])))))
def afR(N:Nat):Ro:=afQ N
theorem aqx(N:Nat)(h:Tot (afR N) (λz=>∃a rest,z.1.dimR=vB a∧z.2=rest∧ac4  (a))):∃r,oH  r:=asQ.finP (N:=N) (by kernel_rfl) h λ_ ⟨a,_,e,_,q⟩=>⟨(a),e,q⟩
theorem aH2:ajh scW:=by refine⟨by decide,?_⟩;intro m b;simp only[scW,Av] at b;subst b;refine⟨by decide,?_,by decide,by decide⟩;intro f a;simp only[Av] at a;subst a;exact⟨by decide,by decide,by decide,by decide,λh=>by simp at h,by decide,by decide,λh=>by simp at h⟩
theorem aMR:yi scW [65] [(1,[.mk 5 [] [] []])] [16,1]=([8,5,16,1],0):=by
 have a:dh scW [65]=(⟨[65],[⟨1,[98],0,3,[],0,false,0⟩],[]⟩,true):=rfl;have c:cQ ⟨[65],[⟨1,[98],0,3,[],0,false,0⟩],[]⟩ 1=(⟨1,[98],0,3,[],0,false,0⟩,true):=rfl;have e:u9 ⟨[65],[⟨1,[98],0,3,[],0,false,0⟩],[]⟩ [16,1]=true:=by unfold u9;rw[show fT [16,1]=([⟨2,0,1,[],[16,1]⟩],0) by decide];decide
 have i:dO 3=0:=by rw[tN];decide
 have f:toR 3 5=5:=by rw[avb];decide
 have b:yH 3 5=true:=by rw[af8];decide
 have d:ui scW [65] [(1,[.mk 5 [] [] []])] [16,1]=true:=by simp[ui,nq,asf,iK,gj,a,c,e,b,lq,qU,aC.n,aC.s]
 have h:zU scW [65] [(1,[.mk 5 [] [] []])] [16,1]=[8,5,16,1]:=by simp only[zU,ep,asg,oq,nB,a,c,i,f];decide
 unfold yi;rw[d,h,a];rfl
theorem aMS:yi scW [66] [] []=([],1):=by unfold yi;rw[if_pos (by decide)]
theorem aH3:∃r,oH r:=by apply aqx 1;unfold afR afQ;refine aT (r0:=(scW,[],true)) ⟨(scW,[],true),aNj,rfl⟩ (λ_ h=>h.2) ?_;refine aT (ahp scW [] [65] _ _ aH2 (by decide) (by decide)) (λ_ h=>h.2) ?_;refine aT (ahp scW [] [66] _ _ aH2 (by decide) (by decide)) (λ_ h=>h.2) ?_;rw[aMR,aMS];exact aB (λ_=>aB (λ_=>aG ⟨_,_,rfl,rfl,rfl⟩) (λh=>by simp at h)) (λh=>by simp at h)
theorem aL6{k n:Int}(s:Bs)(e:1<=k∧k<=17)(c:0<=n∧n<=18446744073709551615)(d:s.length<=5000):azI (dO k) (toR k n) s:=by
 have h:∀w m:Int,w=af7 k->m=toD k n->azI w m s:=by
  intro w m b a;unfold af7 at b;unfold toD sL at a;unfold azI
  (repeat' split at b)<;>(repeat' split at a)<;>omega
 exact h _ _ (by rw[tN]) (by rw[avb])
def Own(n:Int)(r:bi):Prop:=r.num=n∧dE r=r.raw∧r.s.length<=5000
theorem auX{n w:Int}{s:Bs}(a:w=2->s.length<=5000):∀r:bi,(((r.num=n∧r.wire=w)∧r.s=(if w=2 then s else []))∧dE r=r.raw)->Own n r:=λr h=>⟨h.1.1.1,h.2,by rw[h.1.2];split;exact a (by assumption);simp⟩
theorem apc(num m:Int)(s:Bs)(b:1<=num∧num<=536870911):s.length<=(dE ⟨num,2,m,s,[]⟩).length:=by
 have a:¬(num<1∨536870911<num):=by omega
 simp only[dE];rw[if_neg a,if_neg (by decide),if_pos trivial];simp only[Aj];omega
theorem aL7{ms:List PMs}{num k:Int}{t:Bs}{v:aC}(a:1<=num∧num<=536870911)(i:1<=k∧k<=17)(f:RgV v)(b:(nB ms num k t v).length<=5000):∃L,il (Own num) (nB ms num k t v) L:=by
 rw[asK] at b ⊢;by_cases c:dO k=2;·have d:=apc num (toR k v.n) (if k=16 then zU ms t v.fs v.rest else v.s) a;rw[c] at b ⊢;exact⟨_,(aiS num 2 _ _ a (.inr (.inr (.inl ⟨rfl,by omega⟩)))).mono (auX λ_=>by omega)⟩
 ·have e:=aL6 [] i f (by simp);obtain⟨s,d⟩:∃s,s=(if k=16 then zU ms t v.fs v.rest else v.s):=⟨_,rfl⟩
  rw[<-d] at b ⊢;refine⟨_,(aiS num (dO k) (toR k v.n) s a ?_).mono (auX λh=>absurd h c)⟩;rcases e with h|h|h|h;·exact .inl h
  ·exact .inr (.inl h)
  ·exact absurd h.1 c
  ·exact .inr (.inr (.inr h))
theorem aEP{ms:List PMs}{f:PFl}(a:aps f):∀{l:List aC},rgL l->(oq ms f l).length<=5000->∃L,il (Own f.num) (oq ms f l) L
 | [],_,_=>⟨[],by simp only[oq];exact il.nil _⟩
 |v::l,h,b=>by rw[gE] at h;simp only[oq,Aj] at b ⊢;obtain⟨i,d⟩:=aL7 (ms:=ms) (t:=f.typ) (num:=f.num) (by have:=a.n;omega) a.k (aF5 h.1) (by omega);obtain⟨e,c⟩:=aEP (ms:=ms) a h.2 (by omega);exact⟨_,d.app c⟩
theorem aEQ{ms:List PMs}{f:PFl}(d:aps f):∀{l:List aC},(k8 ms f l).length<=5000->∃L,il (Own f.num) (k8 ms f l) L
 | [],_=>⟨[],by simp only[k8];exact il.nil _⟩
 | [a],_=>⟨[],by simp only[k8];exact il.nil _⟩
 |a::b::l,e=>by
  simp only[k8,Aj] at e ⊢;have c:1<=f.num∧f.num<=536870911:=by have:=d.n;omega
  have k:=apc f.num 0 (nB ms 1 f.key [] a++nB ms 2 f.kind f.typ b) c;have i:=(aiS f.num 2 0 (nB ms 1 f.key [] a++nB ms 2 f.kind f.typ b) c (.inr (.inr (.inl ⟨rfl,by omega⟩)))).mono (auX λ_=>by omega);obtain⟨j,h⟩:=aEQ (ms:=ms) d (l:=l) (by omega);exact⟨_,i.app h⟩
theorem aL8{ms:List PMs}{f:PFl}(b:aps f){l:List aC}(h:rgL l)(a:(adv ms f l).length<=5000):∃L,il (Own f.num) (adv ms f l) L:=by
 rw[akq] at a ⊢;by_cases d:f.label=3;·rw[if_pos d] at a ⊢;exact aEQ b a
 ·rw[if_neg d] at a ⊢;by_cases hp:f.packed=true
  ·rw[if_pos hp] at a ⊢;have c:1<=f.num∧f.num<=536870911:=by have:=b.n;omega
   have e:=apc f.num 0 (tp f.kind l) c;exact⟨_,(aiS f.num 2 0 _ c (.inr (.inr (.inl ⟨rfl,by omega⟩)))).mono (auX λ_=>by omega)⟩
  ·rw[if_neg hp] at a ⊢;exact aEP b h a
theorem aER{ms:List PMs}{p:PMs}(hp:sQ p):∀{fs:List (Int×List aC)},(fs.map BP).Pairwise (·<·)->(∀x∈fs,(cQ p x.1).2 =true)->uj fs->(ep ms p fs).length<=5000->∃L,il (λr=>r.num∈fs.map BP∧dE r=r.raw∧r.s.length<=5000) (ep ms p fs) L∧(L.map bi.num).Pairwise (·<=·)
 | [],_,_,_,_=>⟨[],by simp only[ep];exact il.nil _,by simp⟩
 |x::fs,e,v,l,w=>by
  rw[AL,BA] at e;rw[akl] at l;rw[akr,Aj] at w;rw[akr];obtain⟨B,z, -⟩:=yp x.1 hp (v x (by simp));obtain⟨u,c⟩:=aL8 (ms:=ms) B (l x (by simp)) (by omega);obtain⟨A,m,C⟩:=aER (ms:=ms) hp e.2 (λy i=>v y (by simp[i])) (akl.2 λy i=>l y (by simp[i])) (by omega);rw[z] at c;refine⟨u++A,(c.mono λr h=>⟨by rw[h.1];simp,h.2⟩).app (m.mono λr h=>⟨by rw[AL];exact A3 _ h.1,h.2⟩),?_⟩;rw[AK,By];refine⟨?_,C,λa d b j=>?_⟩;·rw[List.pairwise_map];exact List.Pairwise.imp_of_mem (λ{a b} d j _=>by rw[(c.2 a d).1,(c.2 b j).1];exact As _) (List.pairwise_of_forall (λ_ _=>trivial):u.Pairwise (λ_ _=>True))
  ·obtain⟨r,k,rfl⟩:=AD.1 d;obtain⟨q,f,rfl⟩:=AD.1 j;rw[(c.2 r k).1];have:=e.1 _ (m.2 q f).1;omega
theorem aL9{fs:List (Int×List aC)}{n:Int}(h:n∈fs.map BP):(mV fs n).2 =true:=by
 obtain⟨x,a,rfl⟩:=AD.1 h;unfold mV;cases b:fs.find? (λy=>y.1==x.1) with
 |some y=>rfl
 |none=>exact absurd (Cx.1 b x a) (by simp)
def vK:aI:=tab (P:=Tryz.prog) [aDE] [an1,afn] [] [auV,alc,aA0,atX,aq7]
def yu:IR:=Sq (Rs [Mv 81 13,Mv 82 10,Ll 83 82,Bi 84 .lss 81 83] (Cn 84 .skip (.exit 0))) (Sq (.block 1 (Sq (Sq (.reg [Mv 87 10,Mv 88 13,Ix 89 .record 87 88,Fa 90 0 89,Fo [] [] (.ld 91 1 false false 90),Mv 92 12,Bi 93 .lss 91 92,Mv 94 93,Gf 94 (.mov 95 10),Gf 94 (.mov 96 13),Gf 94 (.ixa 97 .record 95 96),Gf 94 (.lde 98 5 true 97),Gf 94 (.call 99 20 [98]),Gf 94 (.mov 100 10),Gf 94 (.mov 101 13),Gf 94 (.ixa 102 .record 100 101),Gf 94 (.fad 103 4 102),⟨some (94,false),.ld 104 1 false false 103,some ([],[])⟩,Gf 94 (.bin 105 .neq 99 104),Po 106 94 105] [[],[],[0,1],[0,1,2],rg 0 3,[],rg 0 5,rg 0 6,rg 0 7,rg 0 7,rg 0 9,rg 0 10,rg 0 11,rg 0 7,rg 0 7,rg 0 7++[13,14],rg 0 7++[13,14,15],rg 0 7++rg 13 16,rg 0 17,rg 0 18]) (Cn 106 (Rs [Mb 4 false] .ret) .skip)) (Sq (.reg [Ld 108 2 true 7,Mv 109 10,Mv 110 13,Ix 111 .record 109 110,Fa 112 0 111,Fo [] [] (.ld 113 1 false false 112),Ca 114 21 [108,113],Mv 107 114,Ex_ 115 0 107,Ex_ 116 1 107,Mv 14 115,Mv 15 116] [[],[],[],[1,2],[1,2,3],rg 1 4,rg 0 5,rg 0 6,rg 0 7,rg 0 7,rg 0 8,rg 0 10]) (Sq (Rs [Mv 117 15,Un 118 117] (Cn 118 (Rs [Mb 4 false] .ret) .skip)) (Rg [Mv 119 10,Mv 120 13,Ix 121 .record 119 120,Fa 122 0 121,Lo 123 122,Mv 12 123]))))) (Rg [Mv 85 13,Bc 86 .add 85 1,Mv 13 86]))
def yv:IR:=Rs [Mv 124 11,Bc 125 .eql 124 0,Mv 4 125] .ret
def apd:IR:=Rs [Mb 4 false] (Sq (Rs [Ca 16 10 [],Un 17 16] (Cn 17 (Rs [Mb 4 false] .ret) .skip)) (Sq (Rs [Mv 18 0,Ll 19 18,Bc 20 .gtr 19 120,Mv 21 20,Gf 21 (.mov 22 1),Gf 21 (.lenl 23 22),Gf 21 (.bin 24 .gtr 23 (kI 60)),Po 25 21 24] (Cn 25 (Rs [Mb 4 true] .ret) .skip)) (Rs [Mv 27 0,Ca 28 11 [27],Ca 29 12 [28],Mv 26 29,Ex_ 30 0 26,Ex_ 31 1 26,Pp (.alr 5 2),Fz 5 2 30,Mv 6 31] (Sq (Rs [Mv 32 6,Un 33 32] (Cn 33 (Rs [Mb 4 true] .ret) .skip)) (Sq (.reg [Mv 34 1,Ca 35 11 [34],Ld 36 2 true 5,Fo [] [0,1] (.call 37 13 [35,36,kS [97,46,77],kI 0]),Pp (.alr 7 2),Fz 7 2 37] [[],[0],[],[0,1,2],[],rg 0 4]) (Rs [Ld 39 2 true 5,Ld 40 2 true 7,Ca 41 14 [39,kS [97,46,77],40],Mv 38 41,Ex_ 42 0 38,Ex_ 43 1 38,Mv 8 42,Mv 9 43] (Sq (Rs [Mv 44 9,Bc 45 .neq 44 0] (Cn 45 (Rs [Mv 46 9,Bc 47 .eql 46 3,Mv 4 47] .ret) .skip)) (Sq (Sq (.reg [Mv 48 8,Ll 49 48,Fa 50 1 7,Lq 51 50,Pp (.lens 52 51),Bi 53 .lss 49 52,Mv 54 53,Gf 54 (.mov 55 8),Gf 54 (.mov 56 8),Gf 54 (.lenl 57 56),Gf 54 (.fad 58 1 7),Gf 54 (.lde 59 1 false 58),Gf 54 (.lens 60 59),Gf 54 (.bin 61 .sub 57 60),Gf 54 (.subl 62 .u8 55 (some 61) none),Gf 54 (.b2s 63 62),Gf 54 (.fad 64 1 7),Gf 54 (.lde 65 1 false 64),Gf 54 (.bin 66 .neq 63 65),Po 67 54 66] [[],[0],[],[2],[2,3],rg 0 4,rg 0 5,rg 0 6,rg 0 6,rg 0 6++[8],rg 0 6,rg 0 6++[10],rg 0 6++[10,11],rg 0 6++rg 8 12,rg 0 13,rg 0 14,rg 0 6,rg 0 6++[16],rg 0 17,rg 0 18]) (Cn 67 (Rs [Mb 4 false] .ret) .skip)) (Rs [Mv 69 8,Mv 70 8,Ll 71 70,Fa 72 1 7,Lq 73 72,Pp (.lens 74 73),Bi 75 .sub 71 74,Pp (.subl 76 .u8 69 none (some 75)),Pp (.b2s 77 76),Ca 78 19 [77],Mv 68 78,Ex_ 79 0 68,Ex_ 80 1 68,Mv 10 79,Mv 11 80] (Rs [Mi 12 0] (Sq (Rs [Mi 13 0] (.block 0 (.loop [7,10,11,12,13,1000000] 2 yu))) yv)))))))))))
def ac5:List RV:=[.t 4]
theorem ape:FnC Tryz.prog vK [11,12,13,2000012,2000013] 0 5 Tryz.f5 apd ac5:=fnC Tryz.func5
def ams(R:IR->(Ex->St->Ro)->St->Ro)(a:St->Ro):Ex->St->Ro:=(bu a [7,10,11,12,13,1000000] 2 (aP 0 (kseq (R yv) (fin ac5))))
abbrev jH:Type:=(List (Int×List aC)×Bs×List bi×Int×Int×Int×Bs×Int×Bs×Int)
def mv(x:jH):St:={env:=(U 7 (.ea [.sl .pfd (.may false) x.1,.str x.2.1]::.undef::.undef::.sl .record (.may false) x.2.2.1::.int .i64 x.2.2.2.1::.int .i64 x.2.2.2.2.1::.int .i64 x.2.2.2.2.2.1::(U 112 []))),hp:=[some [.sl .u8 (.may false) x.2.2.2.2.2.2.1,.int .i64 x.2.2.2.2.2.2.2.1],some [.sl .u8 (.may false) x.2.2.2.2.2.2.2.2.1,.int .i64 x.2.2.2.2.2.2.2.2.2]]}
def sJ(N:Nat):(St->Ro)->St->Ro:=λa s=>run vK N yu (ams (run vK N) a) s
def nw(N:Nat)(c:jH->Ro)(x:jH):Ro:=
 let i:List (Int×List aC):=x.1;let f:Bs:=x.2.1;let a:List bi:=x.2.2.1;let k:Int:=x.2.2.2.1;let y:Int:=x.2.2.2.2.1;let b:Int:=x.2.2.2.2.2.1;let d:Bs:=x.2.2.2.2.2.2.1;let e:Int:=x.2.2.2.2.2.2.2.1;let j:Bs:=x.2.2.2.2.2.2.2.2.1;let h:Int:=x.2.2.2.2.2.2.2.2.2;let w:=(↑(Aa a):Int)
 let l:=λB=>(some (.bool B,[some [.sl .u8 (.may false) d,.int .i64 e],some [.sl .u8 (.may false) j,.int .i64 h]]):Ro)
 cond (decide (b<w)) (
  chk (ixl b a) (
   let p:=(Ai a (Ad b) (aK .record))
   cond (decide (p.num<y)) (
    l false) (
    chk (ixl b a) (
     let q:=(Ai a (Ad b) (aK .record))
     aA (aek q) (λ(z:Bs)=>
      chk (ixl b a) (
       let u:=(Ai a (Ad b) (aK .record))
       cond (!decide (z=u.raw)) (
        l false) (
        chk (ixl b a) (
         let v:=(Ai a (Ad b) (aK .record))
         aA (si i f v.num) (λA=>
          cond (!A.2) (
           l false) (
           chk (ixl b a) (
            let r:=(Ai a (Ad b) (aK .record))
            let m:=(Ab .i64 (b+1))
            c (i,f,a,k,r.num,m,d,e,j,h)))))))))))) (
  l (k==0))
theorem aks(N:Nat):LB (sJ N) mv (nw N):=λ_ _=>by kernel_rfl
def kG(N:Nat)(k j:Bs)(z:jH->Ro):Ro:=
 let i:=λD w u E x=>(some (.bool D,[some [.sl .u8 (.may false) w,.int .i64 u],some [.sl .u8 (.may false) E,.int .i64 x]]):Ro)
 aA (oH) (λ(B:Bool)=>
  cond (!B) (
   some (.bool false,[])) (
   let C:=(↑(Aa k):Int)
   cond (decide (120<C)) (
    some (.bool true,[])) (
    let r:=(↑(Aa j):Int)
    cond (decide (60<r)) (
     some (.bool true,[])) (
     aA (wu k) (λl=>
      aA (ot l.1 l.2) (λb=>
       cond (!b.2.2.1) (
        some (.bool true,[some [.sl .u8 (.may false) b.2.2.2.1,.int .i64 b.2.2.2.2]])) (
        aA (wu j) (λp=>
         aA (fG p.1 p.2 b.1 b.2.1 ([97,46,77]:Bs) 0) (λa=>
          aA (nJ b.1 b.2.1 ([97,46,77]:Bs) a.1 a.2.1) (λc=>
           cond (!(c.2==0)) (
            i (c.2==3) b.2.2.2.1 b.2.2.2.2 a.2.2.1 a.2.2.2) (
            let F:=(↑(Aa c.1):Int)
            let v:=(↑(Aa a.2.1):Int)
            cond (decide (F<v)) (
             i false b.2.2.2.1 b.2.2.2.2 a.2.2.1 a.2.2.2) (
             let q:=(↑(Aa c.1):Int)
             let A:=(↑(Aa a.2.1):Int)
             let f:=(Ab .i64 (q-A))
             chk ((decide (0<=f)&&decide (f<=(↑(Aa c.1):Int)))) (
              let G:=(An (Ad f) (Ao (Aa c.1) c.1))
              cond (!decide (G=a.2.1)) (
               i false b.2.2.2.1 b.2.2.2.2 a.2.2.1 a.2.2.2) (
               let y:=(↑(Aa c.1):Int)
               let e:=(↑(Aa a.2.1):Int)
               let d:=(Ab .i64 (y-e))
               chk ((decide (0<=d)&&decide (d<=(↑(Aa c.1):Int)))) (
                let h:=(An 0 (Ao (Ad d) c.1))
                aA (ae1 h) (λm=>
                 z (a.1,a.2.1,m.1,m.2,0,0,b.2.2.2.1,b.2.2.2.2,a.2.2.1,a.2.2.2)))))))))))))))))
def ac6(N:Nat)(a b:Bs):Ro:=kG N a b (λz=>aN N (nw N) z)
theorem amt(N:Nat)(c a:Bs)(h:Tot (ac6 N c a) (λz=>∃(d:Bool)(rest:List aJ),z.1.dimR=.bool d∧z.2=rest∧aap c a (d))):∃r,ad9 c a r:=ape.finP (N:=N) ((bK _ (by kernel_rfl) rfl (λC=>kG N c a (λz=>C 1000000 (mv z))) (λC=>by kernel_rfl)).trans (AE (b:=kG N c a (λz=>aZ N (sJ N) (mv z))) (by kernel_rfl) (congrArg (kG N c a) (funext λz=>aW (mv) (sJ N) (nw N) (aks N) N z)))) h λ_ ⟨d,_,e,_,q⟩=>⟨(d),e,q⟩
def LwQ:V×List aJ->Prop:=λz=>∃(a:Bool)(rest:List aJ),z.1.dimR=.bool a∧z.2=rest∧a=true
theorem lwt{hp:List aJ}:Tot (some ((.bool true,hp):V×List aJ)) LwQ:=aG ⟨true,_,rfl,rfl,rfl⟩
theorem aCU:∀{l:List Int},l.Pairwise (·<·)->∀a b:Int,(∀n∈l,a<=n∧n<=b)->a<=b+1->(l.length:Int)<=b-a+1
 | [],_,a,b,_,h=>by simp only[Ak];omega
 |x::l,c,a,b,h,e=>by rw[BA] at c;have f:=h x (by simp);have:=aCU c.2 (x+1) b (λn d=>⟨by have:=c.1 n d;omega,(h n (by simp[d])).2⟩) (by omega);rw[Af];omega
theorem azA(M I:Bs):∃r,ad9 M I r:=by
 obtain⟨N,hN⟩:∃N:Nat,N=6000:=⟨_,rfl⟩
 apply amt N;show Tot _ LwQ;unfold ac6 kG;refine aT aH3 (λ_ h=>h.2) (aB (λh=>by simp at h) (λ_=>aB (λ_=>lwt) (λhp=>aB (λ_=>lwt) (λZ=>?_))));have hp:=of_decide_eq_false hp;have Z:=of_decide_eq_false Z;refine aT (aCw M) (λ_ h=>h.2) ?_;dsimp only;refine aY (aHN M 0 ⟨As _,by omega,by omega⟩) ?_;rintro⟨ms,es,is,l0,n0⟩ ⟨-,j⟩;dsimp only[pY] at j ⊢;refine aB (λ_=>lwt) (λQ=>?_);have j:=j (by simpa using Q);have u:=axK j.2.2;refine aT (aCw I) (λ_ h=>h.2) ?_;dsimp only;refine aY (aEO 5 I 0 ms es [97,46,77] 0 (by decide) (by decide) (by decide) j u ⟨As _,by omega,by omega⟩) ?_;rintro⟨fs,c,l1,n1⟩ ⟨-,hw, -, -,a⟩;dsimp only at hw a ⊢;obtain⟨a,H⟩:=a j u;have al:=(aCI (5-0:Int).toNat (by decide)).1;refine aT (ahp ms es [97,46,77] fs c j.1 (by omega) (by omega)) (λ_ h=>h.2) ?_;obtain⟨p,v⟩:∃p,p=(dh ms [97,46,77]).1 :=⟨_,rfl⟩
 have i:=aiB [97,46,77] j.1;rw[<-v] at i;have hE:zU ms [97,46,77] fs c=ep ms p fs++c:=by rw[v];rfl
 unfold yi;rw[if_neg (by rw[u];decide),if_neg (by rw[a];decide),hE];by_cases J:5000<(ep ms p fs++c).length;·rw[if_pos J];exact aB (λ_=>lwt) (λh=>by simp at h)
 rw[if_neg J];unfold ui at a;rw[<-v,Ac,Ac] at a;obtain⟨-,f,d⟩:=aCG _ _ a.2.1;have S:(ep ms p fs).length+c.length<=5000:=by rw[Aj] at J;omega
 obtain⟨L,X,B⟩:=aER (ms:=ms) i f (λx C=>(d x C).1) H (by omega);have D:=X.split (by omega);have e1:(((ep ms p fs++c).length:Nat):Int)-((c.length:Nat):Int)=((ep ms p fs).length:Int):=by rw[Aj];omega
 refine aB (λh=>absurd h (by simp)) (λ_=>aB (λh=>absurd (of_decide_eq_true h) (by rw[Aj];omega)) (λ_=>?_));dsimp only;rw[e1,aQ _ (by omega)];have W:(decide (0<=((ep ms p fs).length:Int))&&decide (((ep ms p fs).length:Int)<=(((ep ms p fs++c).length:Nat):Int)))=true:=by simp only[Ac,decide_eq_true_eq,Aj];omega
 have e3:An (Ad ((ep ms p fs).length:Int)) (Ao (ep ms p fs++c).length (ep ms p fs++c))=c:=by rw[AQ,AC,BB]
 have e4:An 0 (Ao (Ad ((ep ms p fs).length:Int)) (ep ms p fs++c))=ep ms p fs:=by rw[Bm,AC,List.take_left]
 rw[e3,e4];refine aD W (aB (λh=>by simp at h) (λ_=>aD W (aT (aFN _) (λ_ h=>h.2) ?_)));rw[D];dsimp only;have ah:fs.length<=899:=by have:=aCU f 1 899 (λn hn=>by obtain⟨x,C,rfl⟩:=AD.1 hn;obtain⟨O,g2, -⟩:=yp x.1 i (d x C).1;have:=O.n;omega) (by decide);rw[BY] at this;omega
 have ak:L.length<=5000:=by have:=axG (ep ms p fs);rw[D] at this;exact this
 refine bj (λ(x:jH)=>match x with|(y,E,l,e,b,k,_,_,_,_)=>(y,E,l,e)=(fs,c,L,0)∧0<=k∧k<=L.length∧(b=0∨b∈(L.take k.toNat).map bi.num)) (λx=>(L.length-x.2.2.2.2.2.1).toNat) ?_ _ _ ⟨rfl,As _,by omega,.inl rfl⟩ (by dsimp only;omega);rintro P ⟨y,E,l,e,b,k,o0,o1,o2,o3⟩ ⟨q,G,k1,m⟩ R;cases q;dsimp only at R;unfold nw;dsimp only;refine aB (λw=>?_) (λ_=>lwt);have w:=of_decide_eq_true w;have e:=ixt (l:=L) ⟨G,w⟩;have A:=d8 (aK .record) G w;have F:=lj (aK .record) G w;obtain⟨r,z⟩:∃r,r=Ai L k.toNat (aK .record):=⟨_,rfl⟩
 rw[<-z] at A F ⊢;obtain⟨Y,r2,r3⟩:=X.2 r A;have aa:1<=r.num:=by obtain⟨x,C,ao⟩:=AD.1 Y;obtain⟨O,g2, -⟩:=yp x.1 i (d x C).1;have:=O.n;omega
 have ai:b<=r.num:=by
  rcases m with rfl|h;·omega
  ·have e0:L.map bi.num=(L.take k.toNat).map bi.num++(L.drop k.toNat).map bi.num:=by rw[<-AK,Ba]
   rw[e0,fp (aK .record) G w,<-z,AL,By] at B;exact B.2.2 b h _ (AZ ..)
 refine aD e (aB (λh=>absurd (of_decide_eq_true h) (by omega)) (λ_=>aD e (aT (aBT _ (by omega)) (λ_ h=>h.2) (aD e (aB (λh=>by rw[r2] at h;simp at h) (λ_=>aD e (aHx (by omega) (aB (λh=>by rw[aL9 Y] at h;simp at h) (λ_=>aD e ?_)))))))));rw[aQ (k+1) (by omega)];refine R _ ⟨rfl,by first|omega|(dsimp only;omega),by first|omega|(dsimp only;omega),.inr ?_⟩ (by first|omega|(dsimp only;omega));dsimp only;rw[F,AK];exact Cd _ (by simp)
theorem aw3(a b:Bs):aH Tryz.prog 5 [.sl .u8 (.may false) a,.sl .u8 (.may false) b] (.bool true):=by obtain⟨r,h,c⟩:=azA a b;rw[show r=true from c] at h;exact h
section
open Go.ChangeShapes Go.WideShapes Go.AM
theorem aES{α:Type}{p:Nat->α->Prop}:∀n,(∀i,i<n->∃x,p i x)->∃l:List α,l.length=n∧∀i x,l[i]? =some x->p i x
 |0,_=>⟨[],rfl,by simp⟩
 |n+1,h=>by
  obtain⟨l,c,d⟩:=aES n λi b=>h i (by omega)
  obtain⟨x,f⟩:=h n (by omega);refine⟨l++[x],by simp[c],λi y a=>?_⟩;rcases AH i l.length with b|b;·rw[Ax b] at a;exact d i y a
  ·rw[Au b] at a;have e:i=n:=by
    have:=(Ag.1 a).1;simp at this;omega
   subst e;have:x=y:=by simpa [c] using a
   exact this▸f
section
variable{H:Type}{enc:TypeId×Value->H}{w:World}{base:Nat}{held:Bool}
theorem aKZ(k:EK){t e:TypeId}(W:Tryz.prog.underlying t=some (.slice e))(hc:Tryz.prog.cellsOf e=k.sz){n:Nat}{cs:List Value}{x:DataW H×List MemPlace}
  (D:∀m,m+1=n->∀es y,DataW.trod enc Tryz.prog w base (λ_=>true) held m e es=some y->∃x:Ty k,∀(j:Nat) v u,(AM.enc k x)[j]? =some v->es[j]? =some u->VRel (nF w).I id 0 w v u)
  (h:DataW.trod enc Tryz.prog w base (λ_=>true) held n t cs=some x):∃(xs:List (Ty k))(cv:Value),cs=[cv]∧VRel (nF w).I id 0 w (.sl k (.may false) xs) cv:=by
 have E:0<k.sz:=by cases k<;>simp[EK.sz]
 rcases DataW.trod_slice W h with⟨rfl, -⟩|⟨a,len,cap,B,rest,m,rfl,rfl, -,hb,hl,N,Q,A,G, -⟩
 ·exact⟨[],_,rfl,.sln _ _⟩
 obtain⟨aa,O⟩:=G rfl;rw[hc] at A O;by_cases h0:cap=0
 ·subst h0;obtain rfl:len=0:=by omega
  exact⟨[],_,rfl,.sle _ _ a (by simp)⟩
 have first:∃es y,w.cells? base (a.add (0*k.sz)) k.sz=some es∧DataW.trod enc Tryz.prog w base (λ_=>true) held m e es=some y:=by
  by_cases J:len=0
  ·have c:=O 0 (by omega);rw[J] at c;have d:0<rest.length:=by omega
   rw[Ah d,Co] at c;obtain⟨es,f,q⟩:=c;exact⟨es,_,f,q⟩
  ·have c:=A 0 (by omega);have d:0<B.length:=by omega
   rw[Ah d,Co] at c;obtain⟨es,f,q⟩:=c;exact⟨es,_,f,q⟩
 have l:a.spot=none:=by
  obtain⟨es,y,c, -⟩:=first
  obtain⟨d,f,q⟩:=World.cells?_some c;have C:=q 0 E;rw[Ah (by omega)] at C;simp only[Nat.zero_mul,Addr.add,if_true,BM] at C;split at C
  ·cases S:a.spot with
   |none=>rfl
   |some s=>simp[S] at C
  ·cases C
 obtain⟨b,z,M⟩:=a;simp only at l;subst l;obtain⟨xs,F,r⟩:=aES (α:=Ty k) (p:=λi x=>∀j v,(AM.enc k x)[j]? =some v->∃u,w.cell? ⟨b,z+i*k.sz+j,none⟩=some u∧VRel (nF w).I id 0 w v u) len (by
  intro i Z;have c:=A i Z;rw[Ah (by omega),Co] at c;obtain⟨es,d,f⟩:=c;obtain⟨x,Y⟩:=D m rfl es _ f;obtain⟨q,C,R⟩:=World.cells?_some d;refine⟨x,λj v P=>?_⟩;have X:j<k.sz:=by
   have:=(Ag.1 P).1
   rwa [cP] at this
  have L:=R j X;rw[Ah (by omega),add_plain,add_plain] at L;exact⟨_,L,Y j v _ P (Ah (by omega))⟩)
 refine⟨xs,_,rfl,.sl k (.may false) xs b z len cap F (by omega) (by unfold maxLen at N;unfold cw;exact N) (by simp) (λi j=>(w.cell? ⟨b,z+i*k.sz+j,none⟩).getD undef) ?_ ?_ ?_⟩;·intro i x j c d;obtain⟨u,f, -⟩:=r i x c j _ (Ah d);show (w.cell? _).isSome=true;rw[f];rfl
 ·intro i x j c d;obtain⟨u,f, -⟩:=r i x c j _ (Ah d);rw[f];rfl
 ·intro i x j v c d;obtain⟨u,f,q⟩:=r i x c j v d;rw[f];exact q
theorem aGd{n:Nat}{cs:List Value}{x:DataW H×List MemPlace}(h:DataW.trod enc Tryz.prog w base (λ_=>true) held n 22 cs=some x):
  ∃(xs:List UInt8)(cv:Value),cs=[cv]∧VRel (nF w).I id 0 w (.sl .u8 (.may false) xs) cv:=
 aKZ .u8 Tryz.underlying22 (by kernel_rfl) (λm f es y e=>by
  obtain⟨c,rfl, -,d⟩:=DataW.trod_int Tryz.underlying5 e;have i:0<=c∧c<=255:=by simpa [Lit.wf,BU,Bz,AU,A8] using d
  refine⟨Az c.toNat,λj v u b a=>?_⟩;obtain rfl:j=0:=by have:=(Ag.1 a).1;simpa using this
  simp only[AM.enc,BN,Ae] at b a;subst b a;have:((Az c.toNat).toNat:Int)=c:=by rw[CP];omega
  rw[this];exact .int _ _ (by simpa [Lit.wf] using d)) h
theorem auY{r:Reach}{c:Nat}{v:Value}{d:DataW H}{p:List MemPlace}(i:Value.okWide Tryz.prog w r c 22 v)(h:DataW.Trod enc Tryz.prog w base (λ_=>true) held 22 v d p):
  ∃xs:List UInt8,VRel (nF w).I id 0 w (.sl .u8 (.may false) xs) v:=by
 obtain⟨a,len,cap,rfl⟩:=okWide_slice Tryz.underlying22 i;obtain⟨b,j⟩:=h;obtain⟨xs,cv,e,f⟩:=aGd j;have e:[Value.slice a len cap]=[cv]:=e;cases e;exact⟨xs,f⟩
end
end
end Go.Proofs.YtndccphabnjkhaaGreat
end
