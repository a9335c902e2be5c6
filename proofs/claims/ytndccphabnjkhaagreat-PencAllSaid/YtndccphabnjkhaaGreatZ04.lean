import Derived.KernelRfl
import Derived.Test.YtndccphabnjkhaaGreatZ02
import Derived.Test.YtndccphabnjkhaaGreatZ03
set_option linter.all false
open Eq renaming trans→AB
open Go.IntKind renaming wrap→Ab,signed→AN,max→Bo
open Go.Op renaming bytesLess→A2
open Int renaming toNat→Ad,tmod→AQ,tdiv→Bn
open List renaming length→Aa,getD→Af,drop→An,take→Ao,set→BV
open Nat renaming beq→AI
open UInt8 renaming ofNat→AC,toNat→AW
set_option maxRecDepth 100000
noncomputable section
namespace Go.Proofs.YtndccphabnjkhaaGreat
open Go.AM
def arx:aG:=tb_ [] [] [] []
def adx:IR:=Rs [Pp (.new 2 [vI 0,vS,vU 0,vI 0])] (Sq (.reg [Mv 3 0,Nk 4 3,Fa 5 0 4,Fo [0] [] (.ld 6 1 false false 5),Mv 7 0,Nk 8 7,Fa 9 1 8,Fo [0] [] (.ld 10 1 false false 9),Ix 11 .tok 6 10,Ld 12 4 true 11,Fo [] [1] (.st none 4 2 12)] [[],[0],[0,1],[0,1,2],[],[4],[4,5],[4,5,6],rg 0 7,rg 0 8,rg 0 9]) .ret)
theorem aoY:FnC Tryz.prog arx [] 1 208 Tryz.f208 adx cL:=fnC Tryz.func208
def ady(N:Nat)(a:List Tok)(b d e:Int):Ro:=chk (ixl b a) (let c:=(Af a (Ad b) (aI .tok));some (.agg [vI c.kind,vT c.text,vU c.n,vI c.pos],[some [vF .tok a,vI b,vI d,vI e],some [vI c.kind,vT c.text,vU c.n,vI c.pos]]))
def adz(N:Nat)(a:List Tok)(b c d:Int):Ro:=ady N a b c d
theorem am3(N:Nat)(a:List Tok)(b c d:Int)(h:Tot (adz N a b c d) (λz=>∃g i j k l rest,z.1.dimR=.agg (enc .tok g)∧z.2=some [vF .tok i,vI j,vI k,vI l]::rest∧zH a b c d (g,i,j,k,l))):∃r,aY a b c d r:=FnC.finO (css:=[[vF .tok a,vI b,vI c,vI d]]) aoY (N:=N) (by kernel_rfl) h λ_ ⟨g,i,j,k,l,_,e,f,q⟩=>⟨(g,i,j,k,l),e,⟨_,f⟩,q⟩
def aoZ:aG:=tb_ [] [dc] [] []
def abc:IR:=Rs [Mv 4 0,Nk 5 4,Fa 6 2 5,Lo 7 6,Bc 8 .eql 7 0] (Cn 8 (Rg [Mv 9 0,Mv 10 0,Mv 11 1,Mv 12 0,Ca 13 208 [12],Pp (.fld 14 3 1 false 13),Nk 15 9,Fa 16 2 15,Sv 1 16 11,Nk 17 10,Fa 18 3 17,Sv 1 18 14]) .skip)
theorem am4:FnC Tryz.prog aoZ [208,2000208] 1 206 Tryz.f206 abc bp:=fnC Tryz.func206
def abd(N:Nat)(b:List Tok)(c a d g:Int):Ro:=let f:=λh i j k=>(some (.tup [],[some [vF .tok h,vI i,vI j,vI k]]):Ro);cond (a==0) (aA (aY b c a d) (λe=>f e.2.1 e.2.2.1 g e.1.pos)) (f b c a d)
def abe(N:Nat)(a:List Tok)(b c d e:Int):Ro:=abd N a b c d e
theorem akZ(N:Nat)(a:List Tok)(b c d l:Int)(h:Tot (abe N a b c d l) (λz=>∃g i j k rest,z.1.dimR=.tup []∧z.2=some [vF .tok g,vI i,vI j,vI k]::rest∧yC a b c d l (g,i,j,k))):∃r,aN a b c d l r:=FnC.finO (css:=[[vF .tok a,vI b,vI c,vI d]]) am4 (N:=N) (by kernel_rfl) h λ_ ⟨g,i,j,k,_,e,f,q⟩=>⟨(g,i,j,k),e,⟨_,f⟩,q⟩
def ao0:aG:=tb_ [] [dc] [] []
def abf:IR:=Rs [Mb 4 false] (Rs [Mv 5 0,Nk 6 5,Fa 7 2 6,Lo 8 7,Bc 9 .eql 8 0,Mv 10 9,Gt 10 (.mov 11 0),Gt 10 (.call 12 208 [11]),Gt 10 (.fld 13 0 1 false 12),Gt 10 (.bin 14 .eql 13 (kI 4)),Pa 15 10 14,Mv 16 15,Gt 16 (.mov 17 0),Gt 16 (.call 18 208 [17]),Gt 16 (.fld 19 1 1 false 18),Gt 16 (.mov 20 1),Gt 16 (.bin 21 .eql 19 20),Pa 22 16 21,Mv 4 22] .ret)
theorem am5:FnC Tryz.prog ao0 [208,2000208] 1 210 Tryz.f210 abf aR:=fnC Tryz.func210
def abg(N:Nat)(c:List Tok)(d a e:Int)(h:Bs):Ro:=let g:=λi j k l m=>(some (vB i,[some [vF .tok j,vI k,vI l,vI m]]):Ro);cond (a==0) (aA (aY c d a e) (λb=>cond (b.1.kind==4) (aA (aY b.2.1 b.2.2.1 b.2.2.2.1 b.2.2.2.2) (λf=>g (decide (f.1.text=h)) f.2.1 f.2.2.1 f.2.2.2.1 f.2.2.2.2)) (g false b.2.1 b.2.2.1 b.2.2.2.1 b.2.2.2.2))) (g false c d a e)
def abh(N:Nat)(a:List Tok)(b c d:Int)(e:Bs):Ro:=abg N a b c d e
theorem ak0(N:Nat)(a:List Tok)(b c d:Int)(m:Bs)(h:Tot (abh N a b c d m) (λz=>∃g i j k l rest,z.1.dimR=vB g∧z.2=some [vF .tok i,vI j,vI k,vI l]::rest∧yD a b c d m (g,i,j,k,l))):∃r,bw a b c d m r:=FnC.finO (css:=[[vF .tok a,vI b,vI c,vI d]]) am5 (N:=N) (by kernel_rfl) h λ_ ⟨g,i,j,k,l,_,e,f,q⟩=>⟨(g,i,j,k,l),e,⟨_,f⟩,q⟩
def ao1:aG:=tb_ [] [dc] [] []
def abi:IR:=Rs [Mb 4 false] (Rs [Mv 5 0,Nk 6 5,Fa 7 2 6,Lo 8 7,Bc 9 .eql 8 0,Mv 10 9,Gt 10 (.mov 11 0),Gt 10 (.call 12 208 [11]),Gt 10 (.fld 13 0 1 false 12),Gt 10 (.bin 14 .eql 13 (kI 1)),Pa 15 10 14,Mv 16 15,Gt 16 (.mov 17 0),Gt 16 (.call 18 208 [17]),Gt 16 (.fld 19 1 1 false 18),Gt 16 (.mov 20 1),Gt 16 (.bin 21 .eql 19 20),Pa 22 16 21,Mv 4 22] .ret)
theorem am6:FnC Tryz.prog ao1 [208,2000208] 1 211 Tryz.f211 abi aR:=fnC Tryz.func211
def abj(N:Nat)(c:List Tok)(d a e:Int)(h:Bs):Ro:=let g:=λi j k l m=>(some (vB i,[some [vF .tok j,vI k,vI l,vI m]]):Ro);cond (a==0) (aA (aY c d a e) (λb=>cond (b.1.kind==1) (aA (aY b.2.1 b.2.2.1 b.2.2.2.1 b.2.2.2.2) (λf=>g (decide (f.1.text=h)) f.2.1 f.2.2.1 f.2.2.2.1 f.2.2.2.2)) (g false b.2.1 b.2.2.1 b.2.2.2.1 b.2.2.2.2))) (g false c d a e)
def abk(N:Nat)(a:List Tok)(b c d:Int)(e:Bs):Ro:=abj N a b c d e
theorem ak1(N:Nat)(a:List Tok)(b c d:Int)(m:Bs)(h:Tot (abk N a b c d m) (λz=>∃g i j k l rest,z.1.dimR=vB g∧z.2=some [vF .tok i,vI j,vI k,vI l]::rest∧yE a b c d m (g,i,j,k,l))):∃r,cl a b c d m r:=FnC.finO (css:=[[vF .tok a,vI b,vI c,vI d]]) am6 (N:=N) (by kernel_rfl) h λ_ ⟨g,i,j,k,l,_,e,f,q⟩=>⟨(g,i,j,k,l),e,⟨_,f⟩,q⟩
def ao2:aG:=tb_ [] [cE,fF] [] []
def abl:IR:=Sq (Rs [Mv 4 0,Mv 5 1,Ca 6 210 [4,5],Un 7 6] (Cn 7 (Rs [Mv 8 0,Ca 9 206 [8,kI 2]] .ret) .skip)) (Rg [Mv 10 0,Nk 11 10,Fa 12 1 11,Lo 13 12,Bc 14 .add 13 1,Nk 15 10,Fa 16 1 15,Sv 1 16 14])
theorem am7:FnC Tryz.prog ao2 [206,210,2000206,2000210] 1 207 Tryz.f207 abl bp:=fnC Tryz.func207
def abm(N:Nat)(b:List Tok)(c d e:Int)(h:Bs):Ro:=let g:=λi j k l=>(some (.tup [],[some [vF .tok i,vI j,vI k,vI l]]):Ro);aA (bw b c d e h) (λa=>cond (!a.1) (aA (aN a.2.1 a.2.2.1 a.2.2.2.1 a.2.2.2.2 2) (λf=>g f.1 f.2.1 f.2.2.1 f.2.2.2)) (let m:=(Ab .i64 (a.2.2.1+1));g a.2.1 m a.2.2.2.1 a.2.2.2.2))
def abn(N:Nat)(a:List Tok)(b c d:Int)(e:Bs):Ro:=abm N a b c d e
theorem ak2(N:Nat)(a:List Tok)(b c d:Int)(l:Bs)(h:Tot (abn N a b c d l) (λz=>∃g i j k rest,z.1.dimR=.tup []∧z.2=some [vF .tok g,vI i,vI j,vI k]::rest∧yF a b c d l (g,i,j,k))):∃r,aJ a b c d l r:=FnC.finO (css:=[[vF .tok a,vI b,vI c,vI d]]) am7 (N:=N) (by kernel_rfl) h λ_ ⟨g,i,j,k,_,e,f,q⟩=>⟨(g,i,j,k),e,⟨_,f⟩,q⟩
def ao3:aG:=tb_ [] [og] [] []
def abo:IR:=Rs [Mb 4 false] (Sq (Rs [Mv 5 0,Mv 6 1,Ca 7 211 [5,6]] (Cn 7 (Rs [Mv 8 0,Nk 9 8,Fa 10 1 9,Lo 11 10,Bc 12 .add 11 1,Nk 13 8,Fa 14 1 13,Sv 1 14 12] (Rs [Mb 4 true] .ret)) .skip)) (Rs [Mb 4 false] .ret))
theorem am8:FnC Tryz.prog ao3 [211,2000211] 1 205 Tryz.f205 abo aR:=fnC Tryz.func205
def abp(N:Nat)(b:List Tok)(c d e:Int)(g:Bs):Ro:=let f:=λh i j k l=>(some (vB h,[some [vF .tok i,vI j,vI k,vI l]]):Ro);aA (cl b c d e g) (λa=>cond a.1 (let m:=(Ab .i64 (a.2.2.1+1));f true a.2.1 m a.2.2.2.1 a.2.2.2.2) (f false a.2.1 a.2.2.1 a.2.2.2.1 a.2.2.2.2))
def abq(N:Nat)(a:List Tok)(b c d:Int)(e:Bs):Ro:=abp N a b c d e
theorem ak3(N:Nat)(a:List Tok)(b c d:Int)(m:Bs)(h:Tot (abq N a b c d m) (λz=>∃g i j k l rest,z.1.dimR=vB g∧z.2=some [vF .tok i,vI j,vI k,vI l]::rest∧yG a b c d m (g,i,j,k,l))):∃r,bU a b c d m r:=FnC.finO (css:=[[vF .tok a,vI b,vI c,vI d]]) am8 (N:=N) (by kernel_rfl) h λ_ ⟨g,i,j,k,l,_,e,f,q⟩=>⟨(g,i,j,k,l),e,⟨_,f⟩,q⟩
def am9:aG:=tb_ [] [cE,dc] [] [aoS]
def aaf:IR:=Rs [Ms 2 []] (Rs [Mv 4 0,Ca 5 208 [4],Pp (.alr 3 4),Fz 3 4 5] (Sq (Rs [Mv 6 0,Nk 7 6,Fa 8 2 7,Lo 9 8,Bc 10 .neq 9 0,Mv 11 10,Gf 11 (.fad 12 0 3),Gf 11 (.lde 13 1 false 12),Gf 11 (.bin 14 .neq 13 (kI 1)),Po 15 11 14,Mv 16 15,Gf 16 (.fad 17 1 3),Gf 16 (.lde 18 1 false 17),Gf 16 (.call 19 234 [18]),Gf 16 (.un 20 .not 19),Po 21 16 20] (Cn 21 (Rs [Mv 22 0,Ca 23 206 [22,kI 2]] (Rs [Ms 2 []] .ret)) .skip)) (Rs [Mv 24 0,Nk 25 24,Fa 26 1 25,Lo 27 26,Bc 28 .add 27 1,Nk 29 24,Fa 30 1 29,Sv 1 30 28] (Rs [Fa 31 1 3,Lq 32 31,Mv 2 32] .ret))))
theorem ak4:FnC Tryz.prog am9 [206,208,2000206,2000208] 1 229 Tryz.f229 aaf aF:=fnC Tryz.func229
def aag(N:Nat)(b:List Tok)(c d e:Int):Ro:=let f:=λj k l m n=>(some (vT j,[some [vF .tok k,vI l,vI m,vI n]]):Ro);aA (aY b c d e) (λa=>cond (!(a.2.2.2.1==0)) (aA (aN a.2.1 a.2.2.1 a.2.2.2.1 a.2.2.2.2 2) (λg=>f [] g.1 g.2.1 g.2.2.1 g.2.2.2)) (cond (!(a.1.kind==1)) (aA (aN a.2.1 a.2.2.1 a.2.2.2.1 a.2.2.2.2 2) (λh=>f [] h.1 h.2.1 h.2.2.1 h.2.2.2)) (aA (pX a.1.text) (λ(o:Bool)=>cond (!o) (aA (aN a.2.1 a.2.2.1 a.2.2.2.1 a.2.2.2.2 2) (λi=>f [] i.1 i.2.1 i.2.2.1 i.2.2.2)) (let p:=(Ab .i64 (a.2.2.1+1));f a.1.text a.2.1 p a.2.2.2.1 a.2.2.2.2)))))
def aah(N:Nat)(a:List Tok)(b c d:Int):Ro:=aag N a b c d
theorem ajd(N:Nat)(a:List Tok)(b c d:Int)(h:Tot (aah N a b c d) (λz=>∃g i j k l rest,z.1.dimR=vT g∧z.2=some [vF .tok i,vI j,vI k,vI l]::rest∧wC a b c d (g,i,j,k,l))):∃r,dn a b c d r:=FnC.finO (css:=[[vF .tok a,vI b,vI c,vI d]]) ak4 (N:=N) (by kernel_rfl) h λ_ ⟨g,i,j,k,l,_,e,f,q⟩=>⟨(g,i,j,k,l),e,⟨_,f⟩,q⟩
def ao4:aG:=tb_ [] [cE,dc] [] []
def abr:IR:=Rs [Ms 2 []] (Rs [Mv 4 0,Ca 5 208 [4],Pp (.alr 3 4),Fz 3 4 5] (Sq (Rs [Mv 6 0,Nk 7 6,Fa 8 2 7,Lo 9 8,Bc 10 .neq 9 0,Mv 11 10,Gf 11 (.fad 12 0 3),Gf 11 (.lde 13 1 false 12),Gf 11 (.bin 14 .neq 13 (kI 1)),Po 15 11 14] (Cn 15 (Rs [Mv 16 0,Ca 17 206 [16,kI 2]] (Rs [Ms 2 []] .ret)) .skip)) (Rs [Mv 18 0,Nk 19 18,Fa 20 1 19,Lo 21 20,Bc 22 .add 21 1,Nk 23 18,Fa 24 1 23,Sv 1 24 22] (Rs [Fa 25 1 3,Lq 26 25,Mv 2 26] .ret))))
theorem ana:FnC Tryz.prog ao4 [206,208,2000206,2000208] 1 212 Tryz.f212 abr aF:=fnC Tryz.func212
def abt(N:Nat)(b:List Tok)(c d e:Int):Ro:=let h:=λi j k l m=>(some (vT i,[some [vF .tok j,vI k,vI l,vI m]]):Ro);aA (aY b c d e) (λa=>cond (!(a.2.2.2.1==0)) (aA (aN a.2.1 a.2.2.1 a.2.2.2.1 a.2.2.2.2 2) (λf=>h [] f.1 f.2.1 f.2.2.1 f.2.2.2)) (cond (!(a.1.kind==1)) (aA (aN a.2.1 a.2.2.1 a.2.2.2.1 a.2.2.2.2 2) (λg=>h [] g.1 g.2.1 g.2.2.1 g.2.2.2)) (let n:=(Ab .i64 (a.2.2.1+1));h a.1.text a.2.1 n a.2.2.2.1 a.2.2.2.2)))
def abu(N:Nat)(a:List Tok)(b c d:Int):Ro:=abt N a b c d
theorem ak5(N:Nat)(a:List Tok)(b c d:Int)(h:Tot (abu N a b c d) (λz=>∃g i j k l rest,z.1.dimR=vT g∧z.2=some [vF .tok i,vI j,vI k,vI l]::rest∧yH a b c d (g,i,j,k,l))):∃r,dh a b c d r:=FnC.finO (css:=[[vF .tok a,vI b,vI c,vI d]]) ana (N:=N) (by kernel_rfl) h λ_ ⟨g,i,j,k,l,_,e,f,q⟩=>⟨(g,i,j,k,l),e,⟨_,f⟩,q⟩
def ary:aG:=tb_ [] [cE,dc] [] []
def adA:IR:=Rs [Pp (.mov 2 (kU 0))] (Rs [Mv 4 0,Ca 5 208 [4],Pp (.alr 3 4),Fz 3 4 5] (Sq (Rs [Mv 6 0,Nk 7 6,Fa 8 2 7,Lo 9 8,Bc 10 .neq 9 0,Mv 11 10,Gf 11 (.fad 12 0 3),Gf 11 (.lde 13 1 false 12),Gf 11 (.bin 14 .neq 13 (kI 2)),Po 15 11 14] (Cn 15 (Rs [Mv 16 0,Ca 17 206 [16,kI 2]] (Rs [Pp (.mov 2 (kU 0))] .ret)) .skip)) (Rs [Mv 18 0,Nk 19 18,Fa 20 1 19,Lo 21 20,Bc 22 .add 21 1,Nk 23 18,Fa 24 1 23,Sv 1 24 22] (Rs [Fa 25 2 3,Lq 26 25,Mv 2 26] .ret))))
theorem ao5:FnC Tryz.prog ary [206,208,2000206,2000208] 1 235 Tryz.f235 adA aF:=fnC Tryz.func235
def adB(N:Nat)(b:List Tok)(c d e:Int):Ro:=let h:=λi j k l m=>(some (vU i,[some [vF .tok j,vI k,vI l,vI m]]):Ro);aA (aY b c d e) (λa=>cond (!(a.2.2.2.1==0)) (aA (aN a.2.1 a.2.2.1 a.2.2.2.1 a.2.2.2.2 2) (λf=>h 0 f.1 f.2.1 f.2.2.1 f.2.2.2)) (cond (!(a.1.kind==2)) (aA (aN a.2.1 a.2.2.1 a.2.2.2.1 a.2.2.2.2 2) (λg=>h 0 g.1 g.2.1 g.2.2.1 g.2.2.2)) (let o:=(Ab .i64 (a.2.2.1+1));h a.1.n a.2.1 o a.2.2.2.1 a.2.2.2.2)))
def adC(N:Nat)(a:List Tok)(b c d:Int):Ro:=adB N a b c d
theorem anb(N:Nat)(a:List Tok)(b c d:Int)(h:Tot (adC N a b c d) (λz=>∃g i j k l rest,z.1.dimR=vU g∧z.2=some [vF .tok i,vI j,vI k,vI l]::rest∧zI a b c d (g,i,j,k,l))):∃r,dv a b c d r:=FnC.finO (css:=[[vF .tok a,vI b,vI c,vI d]]) ao5 (N:=N) (by kernel_rfl) h λ_ ⟨g,i,j,k,l,_,e,f,q⟩=>⟨(g,i,j,k,l),e,⟨_,f⟩,q⟩
def ao6:aG:=tb_ [] [cE,dc] [] []
def abv:IR:=Rs [Ms 2 []] (Rs [Mv 4 0,Ca 5 208 [4],Pp (.alr 3 4),Fz 3 4 5] (Sq (Rs [Mv 6 0,Nk 7 6,Fa 8 2 7,Lo 9 8,Bc 10 .neq 9 0,Mv 11 10,Gf 11 (.fad 12 0 3),Gf 11 (.lde 13 1 false 12),Gf 11 (.bin 14 .neq 13 (kI 3)),Po 15 11 14] (Cn 15 (Rs [Mv 16 0,Ca 17 206 [16,kI 2]] (Rs [Ms 2 []] .ret)) .skip)) (Rs [Mv 18 0,Nk 19 18,Fa 20 1 19,Lo 21 20,Bc 22 .add 21 1,Nk 23 18,Fa 24 1 23,Sv 1 24 22] (Rs [Fa 25 1 3,Lq 26 25,Mv 2 26] .ret))))
theorem anc:FnC Tryz.prog ao6 [206,208,2000206,2000208] 1 209 Tryz.f209 abv aF:=fnC Tryz.func209
def abw(N:Nat)(b:List Tok)(c d e:Int):Ro:=let h:=λi j k l m=>(some (vT i,[some [vF .tok j,vI k,vI l,vI m]]):Ro);aA (aY b c d e) (λa=>cond (!(a.2.2.2.1==0)) (aA (aN a.2.1 a.2.2.1 a.2.2.2.1 a.2.2.2.2 2) (λf=>h [] f.1 f.2.1 f.2.2.1 f.2.2.2)) (cond (!(a.1.kind==3)) (aA (aN a.2.1 a.2.2.1 a.2.2.2.1 a.2.2.2.2 2) (λg=>h [] g.1 g.2.1 g.2.2.1 g.2.2.2)) (let n:=(Ab .i64 (a.2.2.1+1));h a.1.text a.2.1 n a.2.2.2.1 a.2.2.2.2)))
def abx(N:Nat)(a:List Tok)(b c d:Int):Ro:=abw N a b c d
theorem ak6(N:Nat)(a:List Tok)(b c d:Int)(h:Tot (abx N a b c d) (λz=>∃g i j k l rest,z.1.dimR=vT g∧z.2=some [vF .tok i,vI j,vI k,vI l]::rest∧yI a b c d (g,i,j,k,l))):∃r,bG a b c d r:=FnC.finO (css:=[[vF .tok a,vI b,vI c,vI d]]) anc (N:=N) (by kernel_rfl) h λ_ ⟨g,i,j,k,l,_,e,f,q⟩=>⟨(g,i,j,k,l),e,⟨_,f⟩,q⟩
def agj:aG:=tb_ [] [] [] []
def ahE:IR:=Sq (Rs [Mv 4 3,Mv 5 0,Pp (.lens 6 5),Bi 7 .lss 4 6] (Cn 7 .skip (.exit 0))) (Sq (.block 1 (Rs [Mv 10 0,Mv 11 3,Pp (.idx 12 10 11),Pp (.bin 13 .eql 12 (.c (.int .u8 46)))] (Cn 13 (Rs [Mb 2 false] .ret) .skip))) (Rg [Mv 8 3,Bc 9 .add 8 1,Mv 3 9]))
def ahF:IR:=Rs [Mv 14 0,Pp (.bin 15 .neq 14 (kS [])),Mv 2 15] .ret
def amg:IR:=Rs [Mb 2 false] (Sq (Rs [Mi 3 0] (.block 0 (.loop [0,3,1000000] 0 ahE))) ahF)
theorem aAC:FnC Tryz.prog agj [] 0 234 Tryz.f234 amg aF:=fnC Tryz.func234
def axW(R:TR)(a:TS):TE:=(bo a [0,3,1000000] 0 (aQ 0 (kseq (R ahF) (fin aF))))
def tr:fO->St:=λ(a,b)=>{env:=(vT a::.undef::.undef::vI b::(U 12 [])),hp:=[]}
def acj(N:Nat):TS->TS:=λa s=>run agj N ahE (axW (run agj N) a) s
def vk(N:Nat)(a:fO->Ro):fO->Ro:=λ(b,c)=>let d:=(↑(Aa b):Int);cond (decide (c<d)) (chk (ixl c b) (let e:=(↑(AW (Af b (Ad c) 0)):Int);cond (e==46) (some (vB false,[])) (let f:=(Ab .i64 (c+1));a (b,f)))) (let g:=(!decide (b=[]));some (vB g,[]))
theorem avL(N:Nat):LB (acj N) tr (vk N):=λ_ _=>by kernel_rfl
def rX(N:Nat)(a:Bs)(b:fO->Ro):Ro:=b (a,0)
def amh(N:Nat)(a:Bs):Ro:=rX N a (λz=>aO N (vk N) z)
theorem axX(N:Nat)(a:Bs)(h:Tot (amh N a) (λz=>∃c rest,z.1.dimR=vB c∧z.2=rest)):∃r,pX a r:=aAC.finP0 (N:=N) ((bD _ (by kernel_rfl) rfl (λC=>rX N a (λz=>C 1000000 (tr z))) (λC=>by kernel_rfl)).trans (AB (b:=rX N a (λz=>aZ N (acj N) (tr z))) (by kernel_rfl) (congrArg (rX N a) (funext λz=>aU (tr) (acj N) (vk N) (avL N) N z)))) h λ_ ⟨c,_,e,_⟩=>⟨(c),e⟩
def aiz:aG:=tb_ [] [] [] []
def aje:IR:=Sq (Rs [Mv 6 4,Mv 7 3,Ll 8 7,Bi 9 .lss 6 8] (Cn 9 .skip (.exit 0))) (Sq (.block 1 (Rs [Mv 12 3,Mv 13 4,Ix 14 .str 12 13,Lq 15 14,Mv 16 0,Bi 17 .eql 15 16] (Cn 17 (Rs [Mv 18 4,Bc 19 .add 18 1,Mv 2 19] .ret) .skip))) (Rg [Mv 10 4,Bc 11 .add 10 1,Mv 4 11]))
def ajf:IR:=Rs [Mi 2 0] .ret
def ao7:IR:=Rs [Mi 2 0] (Rs [Pp (.bsl 5 .str [kS [100,111,117,98,108,101],kS [102,108,111,97,116],kS [105,110,116,51,50],kS [105,110,116,54,52],kS [117,105,110,116,51,50],kS [117,105,110,116,54,52],kS [115,105,110,116,51,50],kS [115,105,110,116,54,52],kS [102,105,120,101,100,51,50],kS [102,105,120,101,100,54,52],kS [115,102,105,120,101,100,51,50],kS [115,102,105,120,101,100,54,52],kS [98,111,111,108],kS [115,116,114,105,110,103],kS [98,121,116,101,115]] true),Mv 3 5] (Sq (Rs [Mi 4 0] (.block 0 (.loop [0,3,4,1000000] 0 aje))) ajf))
theorem aDh:FnC Tryz.prog aiz [] 0 182 Tryz.f182 ao7 aF:=fnC Tryz.func182
def aAD(R:TR)(a:TS):TE:=(bo a [0,3,4,1000000] 0 (aQ 0 (kseq (R ajf) (fin aF))))
abbrev rY:Type:=(Bs×Bool×Bss×Int)
def vl:rY->St:=λ(a,b,c,d)=>{env:=(vT a::.undef::.undef::.sl .str (.may b) c::vI d::(U 15 [])),hp:=[]}
def aek(N:Nat):TS->TS:=λa s=>run aiz N aje (aAD (run aiz N) a) s
def xB(N:Nat)(a:rY->Ro):rY->Ro:=λ(e,b,d,c)=>let f:=(↑(Aa d):Int);cond (decide (c<f)) (chk (ixl c d) (let g:=Af d (Ad c) (aI .str);cond (decide (g=e)) (let h:=(Ab .i64 (c+1));some (vI h,[])) (let i:=(Ab .i64 (c+1));a (e,b,d,i)))) (some (vI 0,[]))
theorem axY(N:Nat):LB (aek N) vl (xB N):=λ_ _=>by kernel_rfl
def uB(N:Nat)(a:Bs)(b:rY->Ro):Ro:=b (a,true,[([100,111,117,98,108,101]:Bs),([102,108,111,97,116]:Bs),([105,110,116,51,50]:Bs),([105,110,116,54,52]:Bs),([117,105,110,116,51,50]:Bs),([117,105,110,116,54,52]:Bs),([115,105,110,116,51,50]:Bs),([115,105,110,116,54,52]:Bs),([102,105,120,101,100,51,50]:Bs),([102,105,120,101,100,54,52]:Bs),([115,102,105,120,101,100,51,50]:Bs),([115,102,105,120,101,100,54,52]:Bs),([98,111,111,108]:Bs),([115,116,114,105,110,103]:Bs),([98,121,116,101,115]:Bs)],0)
def ao8(N:Nat)(a:Bs):Ro:=uB N a (λz=>aO N (xB N) z)
theorem aAE(N:Nat)(a:Bs)(h:Tot (ao8 N a) (λz=>∃c rest,z.1.dimR=vI c∧z.2=rest∧aiU a (c))):∃r,o7 a r:=aDh.finP (N:=N) ((bD _ (by kernel_rfl) rfl (λC=>uB N a (λz=>C 1000000 (vl z))) (λC=>by kernel_rfl)).trans (AB (b:=uB N a (λz=>aZ N (aek N) (vl z))) (by kernel_rfl) (congrArg (uB N a) (funext λz=>aU (vl) (aek N) (xB N) (axY N) N z)))) h λ_ ⟨c,_,e,_,q⟩=>⟨(c),e,q⟩
def ao9:aG:=tb_ [] [cE] [] []
def aby:IR:=Rs [Mb 4 false] (Sq (Rs [Mv 5 0,Nk 6 5,Fa 7 2 6,Lo 8 7,Bc 9 .eql 8 0,Mv 10 9,Gt 10 (.mov 11 1),Gt 10 (.bin 12 .geq 11 (kI 30)),Pa 13 10 12] (Cn 13 (Rg [Mv 14 0,Ca 15 206 [14,kI 3]]) .skip)) (Rs [Mv 16 0,Nk 17 16,Fa 18 2 17,Lo 19 18,Bc 20 .neq 19 0,Mv 4 20] .ret))
theorem ane:FnC Tryz.prog ao9 [206,2000206] 1 213 Tryz.f213 aby aR:=fnC Tryz.func213
def abz(N:Nat)(b:List Tok)(c a d g:Int):Ro:=let f:=λh i j k l=>(some (vB (!(h)),[some [vF .tok i,vI j,vI k,vI l]]):Ro);cond (a==0) (cond (decide (30<=g)) (aA (aN b c a d 3) (λe=>f (e.2.2.1==0) e.1 e.2.1 e.2.2.1 e.2.2.2)) (f (a==0) b c a d)) (f (a==0) b c a d)
def abA(N:Nat)(a:List Tok)(b c d e:Int):Ro:=abz N a b c d e
theorem ak7(N:Nat)(a:List Tok)(b c d m:Int)(h:Tot (abA N a b c d m) (λz=>∃g i j k l rest,z.1.dimR=vB g∧z.2=some [vF .tok i,vI j,vI k,vI l]::rest∧yJ a b c d m (g,i,j,k,l))):∃r,bI a b c d m r:=FnC.finO (css:=[[vF .tok a,vI b,vI c,vI d]]) ane (N:=N) (by kernel_rfl) h λ_ ⟨g,i,j,k,l,_,e,f,q⟩=>⟨(g,i,j,k,l),e,⟨_,f⟩,q⟩
def anf:aG:=tb_ [] [cE,dc,gA] [] []
def aai:IR:=Sq (Rs [Mv 4 0,Nk 5 4,Fa 6 2 5,Lo 7 6,Bc 8 .eql 7 0,Mv 9 8,Gt 9 (.mov 10 0),Gt 9 (.call 11 208 [10]),Gt 9 (.fld 12 0 1 false 11),Gt 9 (.bin 13 .neq 12 (kI 1)),Pa 14 9 13] (Cn 14 (Rg [Mv 15 0,Ca 16 206 [15,kI 2]]) .skip)) (Rg [Mv 17 0,Mv 18 1,Nk 19 18,Fa 20 1 19,Lo 21 20,Ll 22 21,Ca 23 213 [17,22]])
theorem ak8:FnC Tryz.prog anf [206,208,213,2000206,2000208,2000213] 2 232 Tryz.f232 aai bp:=fnC Tryz.func232
def aaj(N:Nat)(d:List Tok)(e b f:Int)(g:Bs)(a:List bM)(h:Bss)(i:List bi)(j:List PEn)(k:List (Int×Int))(l:Bss):Ro:=let q:=λr s t u=>(some (.tup [],[some [vF .tok r,vI s,vI t,vI u],some [vT g,vO .ffld a,vO .str h,.ul .fmsg i,vO .pen j,vO .u2 k,vO .str l]]):Ro);cond (b==0) (aA (aY d e b f) (λc=>cond (!(c.1.kind==1)) (aA (aN c.2.1 c.2.2.1 c.2.2.2.1 c.2.2.2.2 2) (λm=>let v:=(↑(Aa a):Int);aA (bI m.1 m.2.1 m.2.2.1 m.2.2.2 v) (λn=>q n.2.1 n.2.2.1 n.2.2.2.1 n.2.2.2.2))) (let w:=(↑(Aa a):Int);aA (bI c.2.1 c.2.2.1 c.2.2.2.1 c.2.2.2.2 w) (λo=>q o.2.1 o.2.2.1 o.2.2.2.1 o.2.2.2.2)))) (let x:=(↑(Aa a):Int);aA (bI d e b f x) (λp=>q p.2.1 p.2.2.1 p.2.2.2.1 p.2.2.2.2))
def aak(N:Nat)(a:List Tok)(b c d:Int)(e:Bs)(f:List bM)(g:Bss)(h:List bi)(i:List PEn)(j:List (Int×Int))(k:Bss):Ro:=aaj N a b c d e f g h i j k
theorem ajg(N:Nat)(a:List Tok)(b c d:Int)(g:Bs)(i:List bM)(j:Bss)(k:List bi)(l:List PEn)(m:List (Int×Int))(n:Bss)(h:Tot (aak N a b c d g i j k l m n) (λz=>∃p s t u v w x y A B o rest,z.1.dimR=.tup []∧z.2=some [vF .tok p,vI s,vI t,vI u]::some [vT v,vO .ffld w,vO .str x,.ul .fmsg y,vO .pen A,vO .u2 B,vO .str o]::rest∧oV a b c d g i j k l m n (p,s,t,u,v,w,x,y,A,B,o))):∃r,ga a b c d g i j k l m n r:=FnC.finO (css:=[[vF .tok a,vI b,vI c,vI d],[vT g,vO .ffld i,vO .str j,.ul .fmsg k,vO .pen l,vO .u2 m,vO .str n]]) ak8 (N:=N) (by kernel_rfl) h λ_ ⟨p,s,t,u,v,w,x,y,A,B,o,_,e,f,q⟩=>⟨(p,s,t,u,v,w,x,y,A,B,o),e,⟨_,f⟩,q⟩
def apa:aG:=tb_ [] [oe,cE,fE,fF,uz,ji,pA] [] []
def abB:IR:=Rs [Pp (.box 5 2)] (Rs [Mv 6 0,Ca 7 212 [6],Fa 8 1 5,Sv 1 8 7] (Rs [Mv 9 0,Ca 10 229 [9],Fa 11 3 5,Sv 1 11 10] (Rs [Mv 12 0,Ca 13 207 [12,kS [61]]] (Rs [Mv 14 0,Ca 15 235 [14],Fa 16 4 5,Sv 1 16 15] (Sq (Rs [Mv 17 0,Ca 18 210 [17,kS [91]]] (Cn 18 (Rs [Mv 19 0,Nk 20 19,Fa 21 1 20,Lo 22 21,Bc 23 .add 22 1,Nk 24 19,Fa 25 1 24,Sv 1 25 23] (Sq (Rs [Mv 26 0,Ca 27 205 [26,kS [112,97,99,107,101,100]],Un 28 27] (Cn 28 (Rg [Mv 29 0,Ca 30 206 [29,kI 2]]) .skip)) (Rs [Mv 31 0,Ca 32 207 [31,kS [61]]] (Rs [Fa 33 5 5,Pp (.st none 1 33 (kI 1))] (Sq (Rs [Mv 34 0,Ca 35 205 [34,kS [102,97,108,115,101]]] (Cn 35 (Rg [Fa 36 5 5,Pp (.st none 1 36 (kI 2))]) (Rs [Mv 37 0,Ca 38 205 [37,kS [116,114,117,101]],Un 39 38] (Cn 39 (Rg [Mv 40 0,Ca 41 206 [40,kI 2]]) .skip)))) (Rg [Mv 42 0,Ca 43 207 [42,kS [93]]])))))) .skip)) (Rs [Mv 44 0,Ca 45 207 [44,kS [59]]] (.reg [Mv 46 1,Mv 47 1,Nk 48 47,Fa 49 1 48,Fo [] [1] (.ld 50 1 false true 49),Fo [2] [] (.ld 51 7 true false 5),Pp (.bsl 52 .ffld [51] true),Pp (.app 53 .ffld (.tk 50) 52),Nk 54 46,Fa 55 1 54,Fo [] [1] (.st none 1 55 (.tk 53))] [[],[],[1],[1,2],[1,2,3],[],[5],rg 1 6,rg 0 7,rg 0 8,rg 0 9])))))))
theorem ang:FnC Tryz.prog apa [205,206,207,210,212,229,235,2000205,2000206,2000207,2000210,2000212,2000229,2000235] 2 249 Tryz.f249 abB bp:=fnC Tryz.func249
def abC(N:Nat)(M:List Tok)(Z Y af:Int)(ag:Bs)(b:List bM)(ah:Bss)(ai:List bi)(aj:List PEn)(P:List (Int×Int))(S:Bss)(a:bM):Ro:=let A:=λO L I F R g5 X J H=>(some (.tup [],[some [vF .tok O,vI L,vI I,vI F],some [vT ag,vO .ffld R,vO .str ah,.ul .fmsg ai,vO .pen aj,vO .u2 P,vO .str S],some [vI a.label,vT g5,vT a.key,vT X,vU J,vI H,vI a.oneof]]):Ro);aA (dh M Z Y af) (λc=>aA (dn c.2.1 c.2.2.1 c.2.2.2.1 c.2.2.2.2) (λd=>aA (aJ d.2.1 d.2.2.1 d.2.2.2.1 d.2.2.2.2 [61]) (λC=>aA (dv C.1 C.2.1 C.2.2.1 C.2.2.2) (λe=>aA (bw e.2.1 e.2.2.1 e.2.2.2.1 e.2.2.2.2 [91]) (λi=>cond i.1 (let G:=(Ab .i64 (i.2.2.1+1));aA (bU i.2.1 G i.2.2.2.1 i.2.2.2.2 [112,97,99,107,101,100]) (λj=>cond (!j.1) (aA (aN j.2.1 j.2.2.1 j.2.2.2.1 j.2.2.2.2 2) (λB=>aA (aJ B.1 B.2.1 B.2.2.1 B.2.2.2 [61]) (λE=>aA (bU E.1 E.2.1 E.2.2.1 E.2.2.2 [102,97,108,115,101]) (λk=>cond k.1 (aA (aJ k.2.1 k.2.2.1 k.2.2.2.1 k.2.2.2.2 [93]) (λl=>aA (aJ l.1 l.2.1 l.2.2.1 l.2.2.2 [59]) (λm=>chk (decide ((Aa b+Aa ([⟨a.label,c.1,a.key,d.1,e.1,2,a.oneof⟩]:List bM))*80<=140737488355328)) (let x2:=(b++([⟨a.label,c.1,a.key,d.1,e.1,2,a.oneof⟩]:List bM));A m.1 m.2.1 m.2.2.1 m.2.2.2 x2 c.1 d.1 e.1 2)))) (aA (bU k.2.1 k.2.2.1 k.2.2.2.1 k.2.2.2.2 [116,114,117,101]) (λf=>cond (!f.1) (aA (aN f.2.1 f.2.2.1 f.2.2.2.1 f.2.2.2.2 2) (λn=>aA (aJ n.1 n.2.1 n.2.2.1 n.2.2.2 [93]) (λo=>aA (aJ o.1 o.2.1 o.2.2.1 o.2.2.2 [59]) (λp=>chk (decide ((Aa b+Aa ([⟨a.label,c.1,a.key,d.1,e.1,1,a.oneof⟩]:List bM))*80<=140737488355328)) (let x3:=(b++([⟨a.label,c.1,a.key,d.1,e.1,1,a.oneof⟩]:List bM));A p.1 p.2.1 p.2.2.1 p.2.2.2 x3 c.1 d.1 e.1 1))))) (aA (aJ f.2.1 f.2.2.1 f.2.2.2.1 f.2.2.2.2 [93]) (λq=>aA (aJ q.1 q.2.1 q.2.2.1 q.2.2.2 [59]) (λr=>chk (decide ((Aa b+Aa ([⟨a.label,c.1,a.key,d.1,e.1,1,a.oneof⟩]:List bM))*80<=140737488355328)) (let x4:=(b++([⟨a.label,c.1,a.key,d.1,e.1,1,a.oneof⟩]:List bM));A r.1 r.2.1 r.2.2.1 r.2.2.2 x4 c.1 d.1 e.1 1)))))))))) (aA (aJ j.2.1 j.2.2.1 j.2.2.2.1 j.2.2.2.2 [61]) (λs=>aA (bU s.1 s.2.1 s.2.2.1 s.2.2.2 [102,97,108,115,101]) (λg=>cond g.1 (aA (aJ g.2.1 g.2.2.1 g.2.2.2.1 g.2.2.2.2 [93]) (λt=>aA (aJ t.1 t.2.1 t.2.2.1 t.2.2.2 [59]) (λu=>chk (decide ((Aa b+Aa ([⟨a.label,c.1,a.key,d.1,e.1,2,a.oneof⟩]:List bM))*80<=140737488355328)) (let x5:=(b++([⟨a.label,c.1,a.key,d.1,e.1,2,a.oneof⟩]:List bM));A u.1 u.2.1 u.2.2.1 u.2.2.2 x5 c.1 d.1 e.1 2)))) (aA (bU g.2.1 g.2.2.1 g.2.2.2.1 g.2.2.2.2 [116,114,117,101]) (λh=>cond (!h.1) (aA (aN h.2.1 h.2.2.1 h.2.2.2.1 h.2.2.2.2 2) (λv=>aA (aJ v.1 v.2.1 v.2.2.1 v.2.2.2 [93]) (λw=>aA (aJ w.1 w.2.1 w.2.2.1 w.2.2.2 [59]) (λx=>chk (decide ((Aa b+Aa ([⟨a.label,c.1,a.key,d.1,e.1,1,a.oneof⟩]:List bM))*80<=140737488355328)) (let Q:=(b++([⟨a.label,c.1,a.key,d.1,e.1,1,a.oneof⟩]:List bM));A x.1 x.2.1 x.2.2.1 x.2.2.2 Q c.1 d.1 e.1 1))))) (aA (aJ h.2.1 h.2.2.1 h.2.2.2.1 h.2.2.2.2 [93]) (λy=>aA (aJ y.1 y.2.1 y.2.2.1 y.2.2.2 [59]) (λz=>chk (decide ((Aa b+Aa ([⟨a.label,c.1,a.key,d.1,e.1,1,a.oneof⟩]:List bM))*80<=140737488355328)) (let x7:=(b++([⟨a.label,c.1,a.key,d.1,e.1,1,a.oneof⟩]:List bM));A z.1 z.2.1 z.2.2.1 z.2.2.2 x7 c.1 d.1 e.1 1))))))))))) (aA (aJ i.2.1 i.2.2.1 i.2.2.2.1 i.2.2.2.2 [59]) (λD=>chk (decide ((Aa b+Aa ([⟨a.label,c.1,a.key,d.1,e.1,a.packed,a.oneof⟩]:List bM))*80<=140737488355328)) (let W:=(b++([⟨a.label,c.1,a.key,d.1,e.1,a.packed,a.oneof⟩]:List bM));A D.1 D.2.1 D.2.2.1 D.2.2.2 W c.1 d.1 e.1 a.packed))))))))
def abD(N:Nat)(a:List Tok)(b c d:Int)(e:Bs)(f:List bM)(g:Bss)(h:List bi)(i:List PEn)(j:List (Int×Int))(k:Bss)(l:bM):Ro:=abC N a b c d e f g h i j k l
theorem ak9(N:Nat)(a:List Tok)(b c d:Int)(g:Bs)(i:List bM)(j:Bss)(k:List bi)(l:List PEn)(m:List (Int×Int))(n:Bss)(C:bM)(h:Tot (abD N a b c d g i j k l m n C) (λz=>∃p s t u v w x y A B o rest,z.1.dimR=.tup []∧z.2=some [vF .tok p,vI s,vI t,vI u]::some [vT v,vO .ffld w,vO .str x,.ul .fmsg y,vO .pen A,vO .u2 B,vO .str o]::rest∧yK a b c d g i j k l m n C (p,s,t,u,v,w,x,y,A,B,o))):∃r,dV a b c d g i j k l m n C r:=FnC.finO (css:=[[vF .tok a,vI b,vI c,vI d],[vT g,vO .ffld i,vO .str j,.ul .fmsg k,vO .pen l,vO .u2 m,vO .str n]]) ang (N:=N) (by kernel_rfl) h λ_ ⟨p,s,t,u,v,w,x,y,A,B,o,_,e,f,q⟩=>⟨(p,s,t,u,v,w,x,y,A,B,o),e,⟨_,f⟩,q⟩
def s7:aG:=tb_ [] [oe,cE,fE,dc,uz,ji,pA,adl] [] [asG]
def vW:IR:=Rs [Mv 45 0,Ca 46 212 [45],Fa 47 0 4,Pp (.st none 1 47 (kI 3)),Fa 48 2 4,Sv 1 48 46] (Rs [Mv 49 0,Ca 50 207 [49,kS [44]]] (Rs [Mv 51 0,Ca 52 212 [51],Fa 53 1 4,Sv 1 53 52] (Rs [Mv 54 0,Ca 55 207 [54,kS [62]]] (Rs [Mv 56 0,Ca 57 229 [56],Fa 58 3 4,Sv 1 58 57] (Rs [Mv 59 0,Ca 60 207 [59,kS [61]]] (Rs [Mv 61 0,Ca 62 235 [61],Fa 63 4 4,Sv 1 63 62] (Rs [Mv 64 0,Ca 65 207 [64,kS [59]]] (Sq (.reg [Mv 66 1,Mv 67 1,Nk 68 67,Fa 69 1 68,Fo [] [1] (.ld 70 1 false true 69),Fo [2] [] (.ld 71 7 true false 4),Pp (.bsl 72 .ffld [71] true),Pp (.app 73 .ffld (.tk 70) 72),Nk 74 66,Fa 75 1 74,Fo [] [1] (.st none 1 75 (.tk 73))] [[],[],[1],[1,2],[1,2,3],[],[5],rg 1 6,rg 0 7,rg 0 8,rg 0 9]) .ret))))))))
def vX:IR:=Sq (Rs [Mv 76 0,Ca 77 205 [76,kS [111,112,116,105,111,110,97,108]]] (Cn 77 (Rg [Fa 78 0 4,Pp (.st none 1 78 (kI 1))]) (Rs [Mv 79 0,Ca 80 205 [79,kS [114,101,112,101,97,116,101,100]]] (Cn 80 (Rg [Fa 81 0 4,Pp (.st none 1 81 (kI 2))]) .skip)))) (Rg [Mv 82 0,Mv 83 1,Pp (.ld 84 7 true false 4),Ca 85 249 [82,83,84]])
def aal:IR:=Rs [Pp (.bld 7 [vI 0,vS,vS,vS,vU 0,vI 0,vI 0] []),Pp (.new 4 [vI 0,vS,vS,vS,vU 0,vI 0,vI 0]),Sv 7 4 7] (Sq (Rs [Mv 8 0,Ca 9 205 [8,kS [109,97,112]]] (Cn 9 (Rs [Mv 10 0,Ca 11 207 [10,kS [60]]] (Rs [Mv 12 0,Ca 13 208 [12],Pp (.alr 5 4),Fz 5 4 13] (Rs [Fa 14 1 5,Lq 15 14,Ca 16 182 [15],Mv 6 16] (Sq (Rs [Mv 17 0,Nk 18 17,Fa 19 2 18,Lo 20 19,Bc 21 .eql 20 0,Mv 22 21,Gt 22 (.fad 23 0 5),Gt 22 (.lde 24 1 false 23),Gt 22 (.bin 25 .neq 24 (kI 1)),Gt 22 (.mov 26 25),Gf 26 (.mov 27 6),Gf 26 (.bin 28 .eql 27 (kI 0)),Gt 22 (.pick 29 26 (kB true) 28),Gt 22 (.mov 30 29),Gf 30 (.mov 31 6),Gf 30 (.bin 32 .eql 31 (kI 1)),Gt 22 (.pick 33 30 (kB true) 32),Gt 22 (.mov 34 33),Gf 34 (.mov 35 6),Gf 34 (.bin 36 .eql 35 (kI 2)),Gt 22 (.pick 37 34 (kB true) 36),Gt 22 (.mov 38 37),Gf 38 (.mov 39 6),Gf 38 (.bin 40 .eql 39 (kI 15)),Gt 22 (.pick 41 38 (kB true) 40),Pa 42 22 41] (Cn 42 (Rg [Mv 43 0,Ca 44 206 [43,kI 2]]) .skip)) (.cut [0,1,4,1000000] 3 vW))))) .skip)) vX)
theorem ala:FnC Tryz.prog s7 [205,206,207,208,212,229,235,249,2000205,2000206,2000207,2000208,2000212,2000229,2000235,2000249] 2 233 Tryz.f233 aal bp:=fnC Tryz.func233
abbrev pZ:Type:=(List Tok×Int×Int×Int×Bs×List bM×Bss×List bi×List PEn×List (Int×Int)×Bss×Int×Bs×Bs×Bs×Int×Int×Int)
def o9:pZ->St:=λ(i,j,k,l,m,n,o,p,q,r,a,b,c,d,e,f,g,h)=>{env:=(.ptr 0 0::.ptr 1 0::.undef::.undef::.ptr 2 0::(U 81 [])),hp:=[some [vF .tok i,vI j,vI k,vI l],some [vT m,vO .ffld n,vO .str o,.ul .fmsg p,vO .pen q,vO .u2 r,vO .str a],some [vI b,vT c,vT d,vT e,vU f,vI g,vI h]]}
def ajh(R:TR):TE:=(kseq (R vX) (fin bp))
def yX(N:Nat):TS:=λs=>run s7 N vW (ajh (run s7 N)) s
def kY(N:Nat):pZ->Ro:=λ(j,k,l,m,n,g,o,p,q,r,s,_,_,_,_,_,c,d)=>aA (dh j k l m) (λh=>aA (aJ h.2.1 h.2.2.1 h.2.2.2.1 h.2.2.2.2 [44]) (λt=>aA (dh t.1 t.2.1 t.2.2.1 t.2.2.2) (λi=>aA (aJ i.2.1 i.2.2.1 i.2.2.2.1 i.2.2.2.2 [62]) (λu=>aA (dn u.1 u.2.1 u.2.2.1 u.2.2.2) (λa=>aA (aJ a.2.1 a.2.2.1 a.2.2.2.1 a.2.2.2.2 [61]) (λe=>aA (dv e.1 e.2.1 e.2.2.1 e.2.2.2) (λb=>aA (aJ b.2.1 b.2.2.1 b.2.2.2.1 b.2.2.2.2 [59]) (λf=>chk (decide ((Aa g+Aa ([⟨3,i.1,h.1,a.1,b.1,c,d⟩]:List bM))*80<=140737488355328)) (let v:=(g++([⟨3,i.1,h.1,a.1,b.1,c,d⟩]:List bM));some (.tup [],[some [vF .tok f.1,vI f.2.1,vI f.2.2.1,vI f.2.2.2],some [vT n,vO .ffld v,vO .str o,.ul .fmsg p,vO .pen q,vO .u2 r,vO .str s],some [vI 3,vT i.1,vT h.1,vT a.1,vU b.1,vI c,vI d]]))))))))))
theorem aiA(N:Nat):LJ (yX N) o9 (kY N):=λ_=>by kernel_rfl
def iv(N:Nat)(t:List Tok)(u v w:Int)(g:Bs)(h:List bM)(i:Bss)(j:List bi)(k:List PEn)(l:List (Int×Int))(m:Bss)(D:pZ->Ro):Ro:=let s:=λC B E A=>D (C,B,E,A,g,h,i,j,k,l,m,0,[],[],[],0,0,0);aA (bU t u v w [109,97,112]) (λn=>cond n.1 (aA (aJ n.2.1 n.2.2.1 n.2.2.2.1 n.2.2.2.2 [60]) (λx=>aA (aY x.1 x.2.1 x.2.2.1 x.2.2.2) (λa=>aA (o7 a.1.text) (λ(y:Int)=>cond (a.2.2.2.1==0) (cond (!(a.1.kind==1)) (aA (aN a.2.1 a.2.2.1 a.2.2.2.1 a.2.2.2.2 2) (λz=>s z.1 z.2.1 z.2.2.1 z.2.2.2)) (cond (y==0) (aA (aN a.2.1 a.2.2.1 a.2.2.2.1 a.2.2.2.2 2) (λo=>s o.1 o.2.1 o.2.2.1 o.2.2.2)) (cond (y==1) (aA (aN a.2.1 a.2.2.1 a.2.2.2.1 a.2.2.2.2 2) (λp=>s p.1 p.2.1 p.2.2.1 p.2.2.2)) (cond (y==2) (aA (aN a.2.1 a.2.2.1 a.2.2.2.1 a.2.2.2.2 2) (λq=>s q.1 q.2.1 q.2.2.1 q.2.2.2)) (cond (y==15) (aA (aN a.2.1 a.2.2.1 a.2.2.2.1 a.2.2.2.2 2) (λr=>s r.1 r.2.1 r.2.2.1 r.2.2.2)) (s a.2.1 a.2.2.1 a.2.2.2.1 a.2.2.2.2)))))) (s a.2.1 a.2.2.1 a.2.2.2.1 a.2.2.2.2))))) (aA (bU n.2.1 n.2.2.1 n.2.2.2.1 n.2.2.2.2 [111,112,116,105,111,110,97,108]) (λe=>cond e.1 (aA (dV e.2.1 e.2.2.1 e.2.2.2.1 e.2.2.2.2 g h i j k l m ⟨1,[],[],[],0,0,0⟩) (λb=>some (.tup [],[some [vF .tok b.1,vI b.2.1,vI b.2.2.1,vI b.2.2.2.1],some [vT b.2.2.2.2.1,vO .ffld b.2.2.2.2.2.1,vO .str b.2.2.2.2.2.2.1,.ul .fmsg b.2.2.2.2.2.2.2.1,vO .pen b.2.2.2.2.2.2.2.2.1,vO .u2 b.2.2.2.2.2.2.2.2.2.1,vO .str b.2.2.2.2.2.2.2.2.2.2],some [vI 1,vT [],vT [],vT [],vU 0,vI 0,vI 0]]))) (aA (bU e.2.1 e.2.2.1 e.2.2.2.1 e.2.2.2.2 [114,101,112,101,97,116,101,100]) (λf=>cond f.1 (aA (dV f.2.1 f.2.2.1 f.2.2.2.1 f.2.2.2.2 g h i j k l m ⟨2,[],[],[],0,0,0⟩) (λc=>some (.tup [],[some [vF .tok c.1,vI c.2.1,vI c.2.2.1,vI c.2.2.2.1],some [vT c.2.2.2.2.1,vO .ffld c.2.2.2.2.2.1,vO .str c.2.2.2.2.2.2.1,.ul .fmsg c.2.2.2.2.2.2.2.1,vO .pen c.2.2.2.2.2.2.2.2.1,vO .u2 c.2.2.2.2.2.2.2.2.2.1,vO .str c.2.2.2.2.2.2.2.2.2.2],some [vI 2,vT [],vT [],vT [],vU 0,vI 0,vI 0]]))) (aA (dV f.2.1 f.2.2.1 f.2.2.2.1 f.2.2.2.2 g h i j k l m ⟨0,[],[],[],0,0,0⟩) (λd=>some (.tup [],[some [vF .tok d.1,vI d.2.1,vI d.2.2.1,vI d.2.2.2.1],some [vT d.2.2.2.2.1,vO .ffld d.2.2.2.2.2.1,vO .str d.2.2.2.2.2.2.1,.ul .fmsg d.2.2.2.2.2.2.2.1,vO .pen d.2.2.2.2.2.2.2.2.1,vO .u2 d.2.2.2.2.2.2.2.2.2.1,vO .str d.2.2.2.2.2.2.2.2.2.2],some [vI 0,vT [],vT [],vT [],vU 0,vI 0,vI 0]]))))))))
def aam(N:Nat)(a:List Tok)(b c d:Int)(e:Bs)(f:List bM)(g:Bss)(h:List bi)(i:List PEn)(j:List (Int×Int))(k:Bss):Ro:=iv N a b c d e f g h i j k (λz=>kY N z)
theorem aji(N:Nat)(a:List Tok)(c d g:Int)(i:Bs)(j:List bM)(k:Bss)(l:List bi)(m:List PEn)(n:List (Int×Int))(o:Bss)(h:Tot (aam N a c d g i j k l m n o) (λz=>∃s t u v w x y D A B p rest,z.1.dimR=.tup []∧z.2=some [vF .tok s,vI t,vI u,vI v]::some [vT w,vO .ffld x,vO .str y,.ul .fmsg D,vO .pen A,vO .u2 B,vO .str p]::rest∧wD a c d g i j k l m n o (s,t,u,v,w,x,y,D,A,B,p))):∃r,nE a c d g i j k l m n o r:=FnC.finO (css:=[[vF .tok a,vI c,vI d,vI g],[vT i,vO .ffld j,vO .str k,.ul .fmsg l,vO .pen m,vO .u2 n,vO .str o]]) ala (N:=N) ((bD _ (by kernel_rfl) rfl (λC=>iv N a c d g i j k l m n o (λz=>C 1000000 (o9 z))) (λC=>by kernel_rfl)).trans (AB (b:=iv N a c d g i j k l m n o (λz=>yX N (o9 z))) (by kernel_rfl) (congrArg (iv N a c d g i j k l m n o) (funext λz=>aiA N z)))) h λ_ ⟨s,t,u,v,w,x,y,D,A,B,p,_,e,f,q⟩=>⟨(s,t,u,v,w,x,y,D,A,B,p),e,⟨_,f⟩,q⟩
def dp:aG:=tb_ [] [cE,fE,fF,og,gA,ji,aa8,adl] [] []
def wM:IR:=Sq (Rs [Mv 51 6,Mv 52 4,Ll 53 52,Bi 54 .lss 51 53] (Cn 54 .skip (.exit 2))) (Sq (.block 3 (Rs [Mv 57 0,Mv 58 4,Mv 59 6,Ix 60 .str 58 59,Lq 61 60,Ca 62 211 [57,61]] (Cn 62 (Rg [Mv 63 0,Ca 64 206 [63,kI 2]]) .skip))) (Rg [Mv 55 6,Bc 56 .add 55 1,Mv 6 56]))
def vY:IR:=Rs [Mv 65 0,Mv 66 1,Ca 67 232 [65,66]] (Rs [Mv 68 0,Nk 69 68,Fa 70 2 69,Lo 71 70,Bc 72 .eql 71 0] (Cn 72 (Rg [Mv 73 0,Mv 74 1,Mv 75 1,Nk 76 75,Fa 77 2 76,Lo 78 77,Ll 79 78,Pp (.bld 80 [vI 0,vS,vS,vS,vU 0,vI 0,vI 0] [(6,1,79)]),Ca 81 249 [73,74,80]]) .skip))
def vZ:IR:=Rg [Mv 49 5,Bc 50 .add 49 1,Mv 5 50]
def jd:IR:=Sq (Rs [Mv 35 0,Nk 36 35,Fa 37 2 36,Lo 38 37,Bc 39 .eql 38 0,Mv 40 39,Gt 40 (.mov 41 5),Gt 40 (.bin 42 .eql 41 (kI 0)),Gt 40 (.mov 43 42),Gf 43 (.mov 44 0),Gf 43 (.call 45 210 [44,kS [125]]),Gf 43 (.un 46 .not 45),Gt 40 (.pick 47 43 (kB true) 46),Pa 48 40 47] (Cn 48 .skip (.exit 0))) (Sq (.block 1 (Sq (Rs [Mi 6 0] (.block 2 (.loop [0,1,4,5,6,1000000] 2 wM))) vY)) vZ)
def nM:IR:=Rg [Mv 82 0,Ca 83 207 [82,kS [125]]]
def alb:IR:=Sq (Rs [Mv 7 0,Mv 8 1,Nk 9 8,Fa 10 2 9,Lo 11 10,Ll 12 11,Ca 13 213 [7,12]] (Cn 13 .ret .skip)) (Rs [Mv 14 0,Nk 15 14,Fa 16 1 15,Lo 17 16,Bc 18 .add 17 1,Nk 19 14,Fa 20 1 19,Sv 1 20 18] (Sq (.reg [Mv 21 1,Mv 22 1,Nk 23 22,Fa 24 2 23,Fo [] [1] (.ld 25 1 false true 24),Mv 26 0,Fo [] [0] (.call 27 229 [26]),Pp (.bsl 28 .str [27] true),Pp (.app 29 .str (.tk 25) 28),Nk 30 21,Fa 31 2 30,Fo [] [1] (.st none 1 31 (.tk 29))] [[],[],[1],[1,2],[1,2,3],[],[5],[5,6],rg 1 7,rg 0 8,rg 0 9,rg 0 10]) (Rs [Mv 32 0,Ca 33 207 [32,kS [123]]] (Rs [Pp (.bsl 34 .str [kS [111,112,116,105,111,110,97,108],kS [114,101,112,101,97,116,101,100],kS [109,97,112],kS [109,101,115,115,97,103,101],kS [101,110,117,109],kS [111,110,101,111,102],kS [114,101,115,101,114,118,101,100]] true),Mv 4 34] (Sq (Rs [Mi 5 0] (.block 0 (.loop [0,1,4,5,1000001] 2 jd))) nM)))))
theorem alc:FnC Tryz.prog dp [206,207,210,211,213,229,232,249,2000206,2000207,2000210,2000211,2000213,2000229,2000232,2000249] 2 230 Tryz.f230 alb bp:=fnC Tryz.func230
def kZ(R:TR)(a:TS):TE:=(bo a [0,1,4,5,1000001] 2 (aQ 0 (kseq (R nM) (fin bp))))
abbrev dl:Type:=(Bool×Bss×Int×List Tok×Int×Int×Int×Bs×List bM×Bss×List bi×List PEn×List (Int×Int)×Bss)
def cm:dl->St:=λ(e,f,g,h,i,j,k,l,m,n,a,b,c,d)=>{env:=(.ptr 0 0::.ptr 1 0::.undef::.undef::.sl .str (.may e) f::vI g::(U 78 [])),hp:=[some [vF .tok h,vI i,vI j,vI k],some [vT l,vO .ffld m,vO .str n,.ul .fmsg a,vO .pen b,vO .u2 c,vO .str d]]}
def ajj(R:TR)(a b:TS):TE:=(bo b [0,1,4,5,6,1000000] 2 (aQ 2 (kseq (R vY) (aQ 1 (kseq (R vZ) (kZ R a))))))
abbrev gG:Type:=(Bool×Bss×Int×Int×List Tok×Int×Int×Int×Bs×List bM×Bss×List bi×List PEn×List (Int×Int)×Bss)
def gc:gG->St:=λ(f,g,h,i,j,k,l,m,n,o,a,b,c,d,e)=>{env:=(.ptr 0 0::.ptr 1 0::.undef::.undef::.sl .str (.may f) g::vI h::vI i::(U 77 [])),hp:=[some [vF .tok j,vI k,vI l,vI m],some [vT n,vO .ffld o,vO .str a,.ul .fmsg b,vO .pen c,vO .u2 d,vO .str e]]}
def k8(N:Nat)(a:TS):TS->TS:=λb s=>run dp N wM (ajj (run dp N) a b) s
def ft(N:Nat)(b:dl->Ro)(c:gG->Ro):gG->Ro:=λ(d,r,t,s,n,o,p,q,e,f,g,h,i,j,k)=>let w:=(↑(Aa r):Int);cond (decide (s<w)) (chk (ixl s r) (let x:=Af r (Ad s) (aI .str);aA (cl n o p q x) (λm=>cond m.1 (aA (aN m.2.1 m.2.2.1 m.2.2.2.1 m.2.2.2.2 2) (λu=>let y:=(Ab .i64 (s+1));c (d,r,t,y,u.1,u.2.1,u.2.2.1,u.2.2.2,e,f,g,h,i,j,k))) (let z:=(Ab .i64 (s+1));c (d,r,t,z,m.2.1,m.2.2.1,m.2.2.2.1,m.2.2.2.2,e,f,g,h,i,j,k))))) (aA (ga n o p q e f g h i j k) (λa=>cond (a.2.2.1==0) (let B:=(↑(Aa a.2.2.2.2.2.2.1):Int);aA (dV a.1 a.2.1 a.2.2.1 a.2.2.2.1 a.2.2.2.2.1 a.2.2.2.2.2.1 a.2.2.2.2.2.2.1 a.2.2.2.2.2.2.2.1 a.2.2.2.2.2.2.2.2.1 a.2.2.2.2.2.2.2.2.2.1 a.2.2.2.2.2.2.2.2.2.2 ⟨0,[],[],[],0,0,B⟩) (λl=>let A:=(Ab .i64 (t+1));b (d,r,A,l.1,l.2.1,l.2.2.1,l.2.2.2.1,l.2.2.2.2.1,l.2.2.2.2.2.1,l.2.2.2.2.2.2.1,l.2.2.2.2.2.2.2.1,l.2.2.2.2.2.2.2.2.1,l.2.2.2.2.2.2.2.2.2.1,l.2.2.2.2.2.2.2.2.2.2))) (let v:=(Ab .i64 (t+1));b (d,r,v,a.1,a.2.1,a.2.2.1,a.2.2.2.1,a.2.2.2.2.1,a.2.2.2.2.2.1,a.2.2.2.2.2.2.1,a.2.2.2.2.2.2.2.1,a.2.2.2.2.2.2.2.2.1,a.2.2.2.2.2.2.2.2.2.1,a.2.2.2.2.2.2.2.2.2.2))))
theorem aiB(N:Nat)(a:TS):LB (k8 N a) gc (ft N (λy=>a (cm y))):=λ_ _=>by kernel_rfl
def k9(N:Nat):TS->TS:=λa s=>run dp N jd (kZ (run dp N) a) s
def j7(N:Nat)(o:dl->Ro)(r:gG->Ro):dl->Ro:=λ(n,s,q,b,c,a,d,e,f,g,h,i,j,k)=>let t:=λu v w x=>(some (.tup [],[some [vF .tok u,vI v,vI w,vI x],some [vT e,vO .ffld f,vO .str g,.ul .fmsg h,vO .pen i,vO .u2 j,vO .str k]]):Ro);cond (a==0) (cond (q==0) (r (n,s,q,0,b,c,a,d,e,f,g,h,i,j,k)) (aA (bw b c a d [125]) (λl=>cond (!l.1) (r (n,s,q,0,l.2.1,l.2.2.1,l.2.2.2.1,l.2.2.2.2,e,f,g,h,i,j,k)) (aA (aJ l.2.1 l.2.2.1 l.2.2.2.1 l.2.2.2.2 [125]) (λp=>t p.1 p.2.1 p.2.2.1 p.2.2.2))))) (aA (aJ b c a d [125]) (λm=>t m.1 m.2.1 m.2.2.1 m.2.2.2))
def lb(N:Nat)(a:dl->Ro)(x:dl):Ro:=j7 N a (λz=>aO N (ft N a) z) x
def p6(N:Nat)(a:TS):List (Nat×(TS)):=(cT dp N jd (kZ (run dp N) a)++(cT dp N nM (fin bp)++[]))
theorem aiC(N:Nat):∀(a:TS)(x:dl),k9 N a (cm x)=lb N (λy=>a (cm y)) x:=by
 intro a x;have b:∀C:Nat->TS,c8 C dp N jd (kZ (c8 C dp N) a) (cm x)=j7 N (λy=>a (cm y)) (λz=>C 1000000 (gc z)) x:=by intro C;kernel_rfl
 have h:k9 N a (cm x)=j7 N (λy=>a (cm y)) (λz=>aZ N (k8 N a) (gc z)) x:=(eI (C:=gW (p6 N a)) (dI (bX (l:=(p6 N a)) (by kernel_rfl))) (ij (ew (nC (dI (jY (bX (l:=(p6 N a)) (by kernel_rfl)))) rfl))) _).trans ((b _).trans (by kernel_rfl));have c:(λz=>aZ N (k8 N a) (gc z))=(λz=>aO N (ft N (λy=>a (cm y))) z):=funext λz=>aU (gc) (k8 N a) (ft N (λy=>a (cm y))) (aiB N a) N z
 rw[h,c];rfl
def iw(N:Nat)(j:List Tok)(k l m:Int)(c:Bs)(d:List bM)(a:Bss)(e:List bi)(f:List PEn)(g:List (Int×Int))(h:Bss)(o:dl->Ro):Ro:=let p:=(↑(Aa a):Int);aA (bI j k l m p) (λb=>cond b.1 (some (.tup [],[some [vF .tok b.2.1,vI b.2.2.1,vI b.2.2.2.1,vI b.2.2.2.2],some [vT c,vO .ffld d,vO .str a,.ul .fmsg e,vO .pen f,vO .u2 g,vO .str h]])) (let q:=(Ab .i64 (b.2.2.1+1));aA (dn b.2.1 q b.2.2.2.1 b.2.2.2.2) (λi=>chk (decide ((Aa a+Aa ([i.1]:Bss))*16<=140737488355328)) (let r:=(a++([i.1]:Bss));aA (aJ i.2.1 i.2.2.1 i.2.2.2.1 i.2.2.2.2 [123]) (λn=>o (true,[([111,112,116,105,111,110,97,108]:Bs),([114,101,112,101,97,116,101,100]:Bs),([109,97,112]:Bs),([109,101,115,115,97,103,101]:Bs),([101,110,117,109]:Bs),([111,110,101,111,102]:Bs),([114,101,115,101,114,118,101,100]:Bs)],0,n.1,n.2.1,n.2.2.1,n.2.2.2,c,d,r,e,f,g,h))))))
def aan(N:Nat)(a:List Tok)(b c d:Int)(e:Bs)(f:List bM)(g:Bss)(h:List bi)(i:List PEn)(j:List (Int×Int))(k:Bss):Ro:=iw N a b c d e f g h i j k (λz=>aO N (lb N) z)
theorem ajk(N:Nat)(a:List Tok)(c d g:Int)(i:Bs)(j:List bM)(k:Bss)(l:List bi)(m:List PEn)(n:List (Int×Int))(o:Bss)(h:Tot (aan N a c d g i j k l m n o) (λz=>∃s t u v w x y D A B p rest,z.1.dimR=.tup []∧z.2=some [vF .tok s,vI t,vI u,vI v]::some [vT w,vO .ffld x,vO .str y,.ul .fmsg D,vO .pen A,vO .u2 B,vO .str p]::rest∧wE a c d g i j k l m n o (s,t,u,v,w,x,y,D,A,B,p))):∃r,nD a c d g i j k l m n o r:=FnC.finO (css:=[[vF .tok a,vI c,vI d,vI g],[vT i,vO .ffld j,vO .str k,.ul .fmsg l,vO .pen m,vO .u2 n,vO .str o]]) alc (N:=N) ((bD _ (by kernel_rfl) rfl (λC=>iw N a c d g i j k l m n o (λz=>C 1000001 (cm z))) (λC=>by kernel_rfl)).trans (AB (b:=iw N a c d g i j k l m n o (λz=>aZ N (k9 N) (cm z))) (by kernel_rfl) (congrArg (iw N a c d g i j k l m n o) (funext λz=>aU (cm) (k9 N) (lb N) (aiC N) N z)))) h λ_ ⟨s,t,u,v,w,x,y,D,A,B,p,_,e,f,q⟩=>⟨(s,t,u,v,w,x,y,D,A,B,p),e,⟨_,f⟩,q⟩
def pa:aG:=tb_ [] [oe,cE,fE,dc,adj,fF,gA,pA] [] [aFu]
def rZ:IR:=Sq (Rs [Mv 26 0,Nk 27 26,Fa 28 2 27,Lo 29 28,Bc 30 .eql 29 0] (Cn 30 .skip (.exit 0))) (.block 1 (Sq (Rs [Mv 31 4] (Cn 31 (Rs [Mv 32 0,Ca 33 208 [32],Pp (.alr 5 4),Fz 5 4 33] (Sq (Rs [Fa 34 0 5,Lq 35 34,Bc 36 .neq 35 3,Mv 37 36,Gf 37 (.fad 38 1 5),Gf 37 (.lde 39 1 false 38),Gf 37 (.call 40 250 [39]),Gf 37 (.un 41 .not 40),Po 42 37 41] (Cn 42 (Rg [Mv 43 0,Ca 44 206 [43,kI 2]]) .skip)) (Rs [Mv 45 0,Mv 46 1,Nk 47 46,Fa 48 6 47,Lo 49 48,Ll 50 49,Ca 51 213 [45,50]] (.reg [Mv 52 1,Mv 53 1,Nk 54 53,Fa 55 6 54,Fo [] [1] (.ld 56 1 false true 55),Mv 57 0,Fo [] [0] (.call 58 209 [57]),Pp (.bsl 59 .str [58] true),Pp (.app 60 .str (.tk 56) 59),Nk 61 52,Fa 62 6 61,Fo [] [1] (.st none 1 62 (.tk 60))] [[],[],[1],[1,2],[1,2,3],[],[5],[5,6],rg 1 7,rg 0 8,rg 0 9,rg 0 10])))) (Sq (Rs [Mv 63 0,Ca 64 208 [63],Pp (.fld 65 0 1 false 64),Bc 66 .neq 65 2] (Cn 66 (Rg [Mv 67 0,Ca 68 206 [67,kI 2]]) .skip)) (Rs [Mv 69 0,Mv 70 1,Nk 71 70,Fa 72 5 71,Lo 73 72,Ll 74 73,Ca 75 213 [69,74]] (Rs [Mv 76 0,Ca 77 235 [76],Mv 6 77] (Rs [Mv 78 6,Mv 7 78] (Sq (Rs [Mv 79 0,Ca 80 205 [79,kS [116,111]]] (Cn 80 (Rs [Pp (.mov 7 (kU 536870911))] (Rs [Mv 81 0,Ca 82 205 [81,kS [109,97,120]],Un 83 82] (Cn 83 (Rg [Mv 84 0,Ca 85 235 [84],Mv 7 85]) .skip))) .skip)) (Rg [Mv 86 1,Mv 87 1,Nk 88 87,Fa 89 5 88,Pp (.ld 90 1 false true 89),Mv 91 6,Mv 92 7,Pp (.bld 93 [vU 0,vU 0] [(0,1,91),(1,1,92)]),Pp (.bsl 94 .u2 [93] true),Pp (.app 95 .u2 (.tk 90) 94),Nk 96 86,Fa 97 5 96,Sk 1 97 95])))))))) (Sq (Rs [Mv 98 0,Ca 99 210 [98,kS [59]]] (Cn 99 (Rs [Mv 100 0,Nk 101 100,Fa 102 1 101,Lo 103 102,Bc 104 .add 103 1,Nk 105 100,Fa 106 1 105,Sv 1 106 104] .ret) .skip)) (Rg [Mv 107 0,Ca 108 207 [107,kS [44]]]))))
def ahc:IR:=Rs [Mv 8 0,Nk 9 8,Fa 10 1 9,Lo 11 10,Bc 12 .add 11 1,Nk 13 8,Fa 14 1 13,Sv 1 14 12] (Rs [Mv 15 0,Nk 16 15,Fa 17 2 16,Lo 18 17,Bc 19 .eql 18 0,Mv 20 19,Gt 20 (.mov 21 0),Gt 20 (.call 22 208 [21]),Gt 20 (.fld 23 0 1 false 22),Gt 20 (.bin 24 .eql 23 (kI 3)),Pa 25 20 24,Mv 4 25] (.block 0 (.loop [0,1,4,1000000] 2 rZ)))
theorem ahd:FnC Tryz.prog pa [205,206,207,208,209,210,213,235,2000205,2000206,2000207,2000208,2000209,2000210,2000213,2000235] 2 231 Tryz.f231 ahc bp:=fnC Tryz.func231
def agk(R:TR)(a:TS):TE:=(bo a [0,1,4,1000000] 2 (aQ 0 (fin bp)))
abbrev fH:Type:=(Bool×List Tok×Int×Int×Int×Bs×List bM×Bss×List bi×List PEn×List (Int×Int)×Bss)
def gY:fH->St:=λ(c,d,e,f,g,h,i,j,k,l,a,b)=>{env:=(.ptr 0 0::.ptr 1 0::.undef::.undef::vB c::(U 104 [])),hp:=[some [vF .tok d,vI e,vI f,vI g],some [vT h,vO .ffld i,vO .str j,.ul .fmsg k,vO .pen l,vO .u2 a,vO .str b]]}
def mX(N:Nat):TS->TS:=λa s=>run pa N rZ (agk (run pa N) a) s
def fI(N:Nat)(c:fH->Ro):fH->Ro:=λ(A,ad,ae,x,af,d,e,f,g,h,b,a)=>let B:=λg0 g1 g2 g3 g4 g5=>(some (.tup [],[some [vF .tok g0,vI g1,vI g2,vI g3],some [vT d,vO .ffld e,vO .str f,.ul .fmsg g,vO .pen h,vO .u2 g4,vO .str g5]]):Ro);cond (x==0) (cond A (aA (aY ad ae x af) (λy=>cond (!(y.1.kind==3)) (aA (aN y.2.1 y.2.2.1 y.2.2.2.1 y.2.2.2.2 2) (λL=>let x2:=(↑(Aa a):Int);aA (bI L.1 L.2.1 L.2.2.1 L.2.2.2 x2) (λI=>aA (bG I.2.1 I.2.2.1 I.2.2.2.1 I.2.2.2.2) (λD=>chk (decide ((Aa a+Aa ([D.1]:Bss))*16<=140737488355328)) (let x3:=(a++([D.1]:Bss));aA (bw D.2.1 D.2.2.1 D.2.2.2.1 D.2.2.2.2 [59]) (λC=>cond C.1 (let x4:=(Ab .i64 (C.2.2.1+1));B C.2.1 x4 C.2.2.2.1 C.2.2.2.2 b x3) (aA (aJ C.2.1 C.2.2.1 C.2.2.2.1 C.2.2.2.2 [44]) (λH=>c (A,H.1,H.2.1,H.2.2.1,H.2.2.2,d,e,f,g,h,b,x3))))))))) (aA (wK y.1.text) (λ(r8:Bool)=>cond (!r8) (aA (aN y.2.1 y.2.2.1 y.2.2.2.1 y.2.2.2.2 2) (λR=>let x5:=(↑(Aa a):Int);aA (bI R.1 R.2.1 R.2.2.1 R.2.2.2 x5) (λY=>aA (bG Y.2.1 Y.2.2.1 Y.2.2.2.1 Y.2.2.2.2) (λz=>chk (decide ((Aa a+Aa ([z.1]:Bss))*16<=140737488355328)) (let x6:=(a++([z.1]:Bss));aA (bw z.2.1 z.2.2.1 z.2.2.2.1 z.2.2.2.2 [59]) (λk=>cond k.1 (let x7:=(Ab .i64 (k.2.2.1+1));B k.2.1 x7 k.2.2.2.1 k.2.2.2.2 b x6) (aA (aJ k.2.1 k.2.2.1 k.2.2.2.1 k.2.2.2.2 [44]) (λP=>c (A,P.1,P.2.1,P.2.2.1,P.2.2.2,d,e,f,g,h,b,x6))))))))) (let x8:=(↑(Aa a):Int);aA (bI y.2.1 y.2.2.1 y.2.2.2.1 y.2.2.2.2 x8) (λS=>aA (bG S.2.1 S.2.2.1 S.2.2.2.1 S.2.2.2.2) (λF=>chk (decide ((Aa a+Aa ([F.1]:Bss))*16<=140737488355328)) (let x9:=(a++([F.1]:Bss));aA (bw F.2.1 F.2.2.1 F.2.2.2.1 F.2.2.2.2 [59]) (λl=>cond l.1 (let a9:=(Ab .i64 (l.2.2.1+1));B l.2.1 a9 l.2.2.2.1 l.2.2.2.2 b x9) (aA (aJ l.2.1 l.2.2.1 l.2.2.2.1 l.2.2.2.2 [44]) (λX=>c (A,X.1,X.2.1,X.2.2.1,X.2.2.2,d,e,f,g,h,b,x9)))))))))))) (aA (aY ad ae x af) (λm=>cond (!(m.1.kind==2)) (aA (aN m.2.1 m.2.2.1 m.2.2.2.1 m.2.2.2.2 2) (λan=>let ba:=(↑(Aa b):Int);aA (bI an.1 an.2.1 an.2.2.1 an.2.2.2 ba) (λW=>aA (dv W.2.1 W.2.2.1 W.2.2.2.1 W.2.2.2.2) (λi=>aA (bU i.2.1 i.2.2.1 i.2.2.2.1 i.2.2.2.2 [116,111]) (λn=>cond n.1 (aA (bU n.2.1 n.2.2.1 n.2.2.2.1 n.2.2.2.2 [109,97,120]) (λo=>cond (!o.1) (aA (dv o.2.1 o.2.2.1 o.2.2.2.1 o.2.2.2.2) (λG=>chk (decide ((Aa b+Aa ([⟨i.1,G.1⟩]:List (Int×Int)))*16<=140737488355328)) (let az:=(b++([⟨i.1,G.1⟩]:List (Int×Int)));aA (bw G.2.1 G.2.2.1 G.2.2.2.1 G.2.2.2.2 [59]) (λp=>cond p.1 (let bb:=(Ab .i64 (p.2.2.1+1));B p.2.1 bb p.2.2.2.1 p.2.2.2.2 az a) (aA (aJ p.2.1 p.2.2.1 p.2.2.2.1 p.2.2.2.2 [44]) (λap=>c (A,ap.1,ap.2.1,ap.2.2.1,ap.2.2.2,d,e,f,g,h,az,a))))))) (chk (decide ((Aa b+Aa ([⟨i.1,536870911⟩]:List (Int×Int)))*16<=140737488355328)) (let a0:=(b++([⟨i.1,536870911⟩]:List (Int×Int)));aA (bw o.2.1 o.2.2.1 o.2.2.2.1 o.2.2.2.2 [59]) (λq=>cond q.1 (let bc:=(Ab .i64 (q.2.2.1+1));B q.2.1 bc q.2.2.2.1 q.2.2.2.2 a0 a) (aA (aJ q.2.1 q.2.2.1 q.2.2.2.1 q.2.2.2.2 [44]) (λQ=>c (A,Q.1,Q.2.1,Q.2.2.1,Q.2.2.2,d,e,f,g,h,a0,a)))))))) (chk (decide ((Aa b+Aa ([⟨i.1,i.1⟩]:List (Int×Int)))*16<=140737488355328)) (let a1:=(b++([⟨i.1,i.1⟩]:List (Int×Int)));aA (bw n.2.1 n.2.2.1 n.2.2.2.1 n.2.2.2.2 [59]) (λr=>cond r.1 (let bd:=(Ab .i64 (r.2.2.1+1));B r.2.1 bd r.2.2.2.1 r.2.2.2.2 a1 a) (aA (aJ r.2.1 r.2.2.1 r.2.2.2.1 r.2.2.2.2 [44]) (λO=>c (A,O.1,O.2.1,O.2.2.1,O.2.2.2,d,e,f,g,h,a1,a))))))))))) (let be:=(↑(Aa b):Int);aA (bI m.2.1 m.2.2.1 m.2.2.2.1 m.2.2.2.2 be) (λau=>aA (dv au.2.1 au.2.2.1 au.2.2.2.1 au.2.2.2.2) (λj=>aA (bU j.2.1 j.2.2.1 j.2.2.2.1 j.2.2.2.2 [116,111]) (λs=>cond s.1 (aA (bU s.2.1 s.2.2.1 s.2.2.2.1 s.2.2.2.2 [109,97,120]) (λt=>cond (!t.1) (aA (dv t.2.1 t.2.2.1 t.2.2.2.1 t.2.2.2.2) (λE=>chk (decide ((Aa b+Aa ([⟨j.1,E.1⟩]:List (Int×Int)))*16<=140737488355328)) (let a2:=(b++([⟨j.1,E.1⟩]:List (Int×Int)));aA (bw E.2.1 E.2.2.1 E.2.2.2.1 E.2.2.2.2 [59]) (λu=>cond u.1 (let bf:=(Ab .i64 (u.2.2.1+1));B u.2.1 bf u.2.2.2.1 u.2.2.2.2 a2 a) (aA (aJ u.2.1 u.2.2.1 u.2.2.2.1 u.2.2.2.2 [44]) (λJ=>c (A,J.1,J.2.1,J.2.2.1,J.2.2.2,d,e,f,g,h,a2,a))))))) (chk (decide ((Aa b+Aa ([⟨j.1,536870911⟩]:List (Int×Int)))*16<=140737488355328)) (let a3:=(b++([⟨j.1,536870911⟩]:List (Int×Int)));aA (bw t.2.1 t.2.2.1 t.2.2.2.1 t.2.2.2.2 [59]) (λv=>cond v.1 (let bg:=(Ab .i64 (v.2.2.1+1));B v.2.1 bg v.2.2.2.1 v.2.2.2.2 a3 a) (aA (aJ v.2.1 v.2.2.1 v.2.2.2.1 v.2.2.2.2 [44]) (λZ=>c (A,Z.1,Z.2.1,Z.2.2.1,Z.2.2.2,d,e,f,g,h,a3,a)))))))) (chk (decide ((Aa b+Aa ([⟨j.1,j.1⟩]:List (Int×Int)))*16<=140737488355328)) (let a4:=(b++([⟨j.1,j.1⟩]:List (Int×Int)));aA (bw s.2.1 s.2.2.1 s.2.2.2.1 s.2.2.2.2 [59]) (λw=>cond w.1 (let bh:=(Ab .i64 (w.2.2.1+1));B w.2.1 bh w.2.2.2.1 w.2.2.2.2 a4 a) (aA (aJ w.2.1 w.2.2.1 w.2.2.2.1 w.2.2.2.2 [44]) (λM=>c (A,M.1,M.2.1,M.2.2.1,M.2.2.2,d,e,f,g,h,a4,a))))))))))))) (B ad ae x af b a)
theorem afB(N:Nat):LB (mX N) gY (fI N):=λ_ _=>by kernel_rfl
def fZ(N:Nat)(b:List Tok)(k a c:Int)(d:Bs)(e:List bM)(f:Bss)(g:List bi)(h:List PEn)(i:List (Int×Int))(j:Bss)(m:fH->Ro):Ro:=let n:=(Ab .i64 (k+1));cond (a==0) (aA (aY b n a c) (λl=>m ((l.1.kind==3),l.2.1,l.2.2.1,l.2.2.2.1,l.2.2.2.2,d,e,f,g,h,i,j))) (m (false,b,n,a,c,d,e,f,g,h,i,j))
def v7(N:Nat)(a:List Tok)(b c d:Int)(e:Bs)(f:List bM)(g:Bss)(h:List bi)(i:List PEn)(j:List (Int×Int))(k:Bss):Ro:=fZ N a b c d e f g h i j k (λz=>aO N (fI N) z)
theorem agl(N:Nat)(a:List Tok)(c d g:Int)(i:Bs)(j:List bM)(k:Bss)(l:List bi)(m:List PEn)(n:List (Int×Int))(o:Bss)(h:Tot (v7 N a c d g i j k l m n o) (λz=>∃s t u v w x y D A B p rest,z.1.dimR=.tup []∧z.2=some [vF .tok s,vI t,vI u,vI v]::some [vT w,vO .ffld x,vO .str y,.ul .fmsg D,vO .pen A,vO .u2 B,vO .str p]::rest∧tm a c d g i j k l m n o (s,t,u,v,w,x,y,D,A,B,p))):∃r,j4 a c d g i j k l m n o r:=FnC.finO (css:=[[vF .tok a,vI c,vI d,vI g],[vT i,vO .ffld j,vO .str k,.ul .fmsg l,vO .pen m,vO .u2 n,vO .str o]]) ahd (N:=N) ((bD _ (by kernel_rfl) rfl (λC=>fZ N a c d g i j k l m n o (λz=>C 1000000 (gY z))) (λC=>by kernel_rfl)).trans (AB (b:=fZ N a c d g i j k l m n o (λz=>aZ N (mX N) (gY z))) (by kernel_rfl) (congrArg (fZ N a c d g i j k l m n o) (funext λz=>aU (gY) (mX N) (fI N) (afB N) N z)))) h λ_ ⟨s,t,u,v,w,x,y,D,A,B,p,_,e,f,q⟩=>⟨(s,t,u,v,w,x,y,D,A,B,p),e,⟨_,f⟩,q⟩
def bV:aG:=tb_ [] [cE,fE,dc,fF,gA,ji,pA] [] [aoS]
def wN:IR:=Rs [Mv 99 0,Ca 100 235 [99],Pp (.cvi 101 .i64 100),Fa 102 1 4,Sv 1 102 101] (Sq (Rs [Mv 103 5] (Cn 103 (Rg [Fa 104 1 4,Lo 105 104,Pp (.un 106 .neg 105),Fa 107 1 4,Sv 1 107 106]) .skip)) (Rs [Mv 108 0,Ca 109 207 [108,kS [59]]] (Rg [Fa 110 1 3,Pp (.ld 111 1 false true 110),Pp (.ld 112 2 true false 4),Pp (.bsl 113 .pvl [112] true),Pp (.app 114 .pvl (.tk 111) 113),Fa 115 1 3,Sk 1 115 114])))
def j8:IR:=Rs [Mv 50 0,Fa 51 1 3,Lo 52 51,Ll 53 52,Ca 54 213 [50,53]] (Rs [Mv 55 0,Ca 56 229 [55],Pp (.bld 57 [vS,vI 0] [(0,1,56)]),Pp (.new 4 [vS,vI 0]),Sv 2 4 57] (Rs [Mv 58 0,Ca 59 207 [58,kS [61]]] (Rs [Mv 60 0,Ca 61 210 [60,kS [45]],Mv 5 61] (Sq (Rs [Mv 62 5] (Cn 62 (Rg [Mv 63 0,Nk 64 63,Fa 65 1 64,Lo 66 65,Bc 67 .add 66 1,Nk 68 63,Fa 69 1 68,Sv 1 69 67]) .skip)) (Sq (Rs [Mv 70 0,Nk 71 70,Fa 72 2 71,Lo 73 72,Bc 74 .eql 73 0,Mv 75 74,Gt 75 (.mov 76 0),Gt 75 (.call 77 208 [76]),Gt 75 (.fld 78 0 1 false 77),Gt 75 (.bin 79 .eql 78 (kI 2)),Pa 80 75 79,Mv 81 80,Gt 81 (.mov 82 0),Gt 81 (.call 83 208 [82]),Gt 81 (.fld 84 2 1 false 83),Gt 81 (.bin 85 .gtr 84 (kU 2147483648)),Gt 81 (.mov 86 85),Gf 86 (.mov 87 0),Gf 86 (.call 88 208 [87]),Gf 86 (.fld 89 2 1 false 88),Gf 86 (.bin 90 .eql 89 (kU 2147483648)),Gf 86 (.mov 91 90),Gt 91 (.mov 92 5),Gt 91 (.un 93 .not 92),Gf 86 (.pick 94 91 93 (kB false)),Gt 81 (.pick 95 86 (kB true) 94),Pa 96 81 95] (Cn 96 (Rg [Mv 97 0,Ca 98 206 [97,kI 3]]) .skip)) (.cut [0,2,3,4,5,1000000] 4 wN))))))
def j9:IR:=Sq (Rs [Mv 18 0,Nk 19 18,Fa 20 2 19,Lo 21 20,Bc 22 .eql 21 0,Mv 23 22,Gt 23 (.mov 24 0),Gt 23 (.call 25 210 [24,kS [125]]),Gt 23 (.un 26 .not 25),Pa 27 23 26] (Cn 27 .skip (.exit 0))) (.block 1 (Sq (Rs [Mv 28 0,Ca 29 210 [28,kS [59]]] (Cn 29 (Rs [Mv 30 0,Nk 31 30,Fa 32 1 31,Lo 33 32,Bc 34 .add 33 1,Nk 35 30,Fa 36 1 35,Sv 1 36 34] (.exit 1)) .skip)) (Sq (Rs [Mv 37 0,Ca 38 208 [37],Pp (.fld 39 0 1 false 38),Bc 40 .neq 39 1,Mv 41 40,Gf 41 (.mov 42 0),Gf 41 (.call 43 208 [42]),Gf 41 (.fld 44 1 1 false 43),Gf 41 (.call 45 234 [44]),Gf 41 (.un 46 .not 45),Po 47 41 46] (Cn 47 (Rg [Mv 48 0,Ca 49 206 [48,kI 2]]) .skip)) (.cut [0,2,3,1000001] 3 j8))))
def ka:IR:=Rs [Mv 116 0,Ca 117 207 [116,kS [125]]] (Rs [Pp (.ld 118 2 true false 3),Sv 2 2 118] .ret)
def anh:IR:=Rs [Pp (.new 2 [vS,nl .pvl])] (Rs [Mv 6 0,Nk 7 6,Fa 8 1 7,Lo 9 8,Bc 10 .add 9 1,Nk 11 6,Fa 12 1 11,Sv 1 12 10] (Rs [Mv 13 0,Ca 14 229 [13],Pp (.bld 15 [vS,nl .pvl] [(0,1,14)]),Pp (.new 3 [vS,nl .pvl]),Sv 2 3 15] (Rs [Mv 16 0,Ca 17 207 [16,kS [123]]] (Sq (.block 0 (.loop [0,2,3,1000002] 3 j9)) ka))))
def nG:List RV:=[.cell 2 2 true]
theorem ani:FnC Tryz.prog bV [206,207,208,210,213,229,235,2000206,2000207,2000208,2000210,2000213,2000229,2000235] 1 215 Tryz.f215 anh nG:=fnC Tryz.func215
def ma(R:TR)(a:TS):TE:=(bo a [0,2,3,1000002] 3 (aQ 0 (kseq (R ka) (fin nG))))
abbrev bZ:Type:=(List Tok×Int×Int×Int×Bs×List PVl×Bs×List PVl)
def bR:bZ->St:=λ(a,b,c,d,e,f,g,h)=>{env:=(.ptr 0 0::.undef::.ptr 1 0::.ptr 2 0::(U 115 [])),hp:=[some [vF .tok a,vI b,vI c,vI d],some [vT e,vO .pvl f],some [vT g,vO .pvl h]]}
def fv:bZ->St:=λ(a,b,c,d,e,f,g,h)=>{env:=(.ptr 0 0::.undef::.ptr 1 0::.ptr 2 0::(U 115 [])),hp:=[some [vF .tok a,vI b,vI c,vI d],some [vT e,vO .pvl f],some [vT g,vO .pvl h]]}
def mb(R:TR)(a:TS):TE:=(aQ 1 (ma R a))
abbrev q9:Type:=(Bool×List Tok×Int×Int×Int×Bs×List PVl×Bs×List PVl×Bs×Int)
def lc:q9->St:=λ(b,c,d,e,f,g,h,i,j,k,a)=>{env:=(.ptr 0 0::.undef::.ptr 1 0::.ptr 2 0::.ptr 3 0::vB b::(U 113 [])),hp:=[some [vF .tok c,vI d,vI e,vI f],some [vT g,vO .pvl h],some [vT i,vO .pvl j],some [vT k,vI a]]}
def ra(N:Nat)(a:TS):TS:=λs=>run bV N wN (mb (run bV N) a) s
def ix(N:Nat)(b:bZ->Ro):q9->Ro:=λ(p,j,k,l,m,g,h,i,c,d,_)=>aA (dv j k l m) (λa=>let n:=(Ab .i64 a.1);cond p (let o:=(Ab .i64 (0-n));aA (aJ a.2.1 a.2.2.1 a.2.2.2.1 a.2.2.2.2 [59]) (λe=>chk (decide ((Aa c+Aa ([⟨d,o⟩]:List PVl))*24<=140737488355328)) (let q:=(c++([⟨d,o⟩]:List PVl));b (e.1,e.2.1,e.2.2.1,e.2.2.2,g,h,i,q)))) (aA (aJ a.2.1 a.2.2.1 a.2.2.2.1 a.2.2.2.2 [59]) (λf=>chk (decide ((Aa c+Aa ([⟨d,n⟩]:List PVl))*24<=140737488355328)) (let r:=(c++([⟨d,n⟩]:List PVl));b (f.1,f.2.1,f.2.2.1,f.2.2.2,g,h,i,r)))))
theorem ajl(N:Nat)(a:TS):LJ (ra N a) lc (ix N (λy=>a (bR y))):=λ_=>by kernel_rfl
def mc(N:Nat)(a:TS):TS:=λs=>run bV N j8 (mb (run bV N) a) s
def lf(N:Nat)(w:bZ->Ro)(m:q9->Ro):bZ->Ro:=λ(s,t,u,v,c,d,e,b)=>let B:=(↑(Aa b):Int);aA (bI s t u v B) (λx=>aA (dn x.2.1 x.2.2.1 x.2.2.2.1 x.2.2.2.2) (λl=>aA (aJ l.2.1 l.2.2.1 l.2.2.2.1 l.2.2.2.2 [61]) (λy=>aA (bw y.1 y.2.1 y.2.2.1 y.2.2.2 [45]) (λa=>cond a.1 (let A:=(Ab .i64 (a.2.2.1+1));cond (a.2.2.2.1==0) (aA (aY a.2.1 A a.2.2.2.1 a.2.2.2.2) (λh=>cond (h.1.kind==2) (aA (aY h.2.1 h.2.2.1 h.2.2.2.1 h.2.2.2.2) (λi=>let C:=decide (2147483648<i.1.n);cond C (aA (aN i.2.1 i.2.2.1 i.2.2.2.1 i.2.2.2.2 3) (λo=>m (a.1,o.1,o.2.1,o.2.2.1,o.2.2.2,c,d,e,b,l.1,0))) (aA (aY i.2.1 i.2.2.1 i.2.2.2.1 i.2.2.2.2) (λf=>cond (f.1.n==2147483648) (cond (!a.1) (aA (aN f.2.1 f.2.2.1 f.2.2.2.1 f.2.2.2.2 3) (λp=>m (a.1,p.1,p.2.1,p.2.2.1,p.2.2.2,c,d,e,b,l.1,0))) (m (a.1,f.2.1,f.2.2.1,f.2.2.2.1,f.2.2.2.2,c,d,e,b,l.1,0))) (m (a.1,f.2.1,f.2.2.1,f.2.2.2.1,f.2.2.2.2,c,d,e,b,l.1,0)))))) (m (a.1,h.2.1,h.2.2.1,h.2.2.2.1,h.2.2.2.2,c,d,e,b,l.1,0)))) (m (a.1,a.2.1,A,a.2.2.2.1,a.2.2.2.2,c,d,e,b,l.1,0))) (cond (a.2.2.2.1==0) (aA (aY a.2.1 a.2.2.1 a.2.2.2.1 a.2.2.2.2) (λj=>cond (j.1.kind==2) (aA (aY j.2.1 j.2.2.1 j.2.2.2.1 j.2.2.2.2) (λk=>let z:=decide (2147483648<k.1.n);cond z (aA (aN k.2.1 k.2.2.1 k.2.2.2.1 k.2.2.2.2 3) (λq=>m (a.1,q.1,q.2.1,q.2.2.1,q.2.2.2,c,d,e,b,l.1,0))) (aA (aY k.2.1 k.2.2.1 k.2.2.2.1 k.2.2.2.2) (λg=>cond (g.1.n==2147483648) (cond (!a.1) (aA (aN g.2.1 g.2.2.1 g.2.2.2.1 g.2.2.2.2 3) (λr=>m (a.1,r.1,r.2.1,r.2.2.1,r.2.2.2,c,d,e,b,l.1,0))) (m (a.1,g.2.1,g.2.2.1,g.2.2.2.1,g.2.2.2.2,c,d,e,b,l.1,0))) (m (a.1,g.2.1,g.2.2.1,g.2.2.2.1,g.2.2.2.2,c,d,e,b,l.1,0)))))) (m (a.1,j.2.1,j.2.2.1,j.2.2.2.1,j.2.2.2.2,c,d,e,b,l.1,0)))) (m (a.1,a.2.1,a.2.2.1,a.2.2.2.1,a.2.2.2.2,c,d,e,b,l.1,0)))))))
def iy(N:Nat)(a:bZ->Ro)(x:bZ):Ro:=lf N a (λz=>ix N a z) x
def rc(N:Nat)(a:TS):List (Nat×(TS)):=(cT bV N j8 (mb (run bV N) a)++(cT bV N ka (fin nG)++[]))
theorem ajm(N:Nat)(a:TS):∀(x:bZ),mc N a (fv x)=iy N (λy=>a (bR y)) x:=by
 intro x;have c:∀C:Nat->TS,c8 C bV N j8 (mb (c8 C bV N) a) (fv x)=lf N (λy=>a (bR y)) (λz=>C 1000000 (lc z)) x:=by intro C;kernel_rfl
 have h:mc N a (fv x)=lf N (λy=>a (bR y)) (λz=>ra N a (lc z)) x:=(eI (C:=gW (rc N a)) (dI (bX (l:=(rc N a)) (by kernel_rfl))) (ew (ij (ew (nC (dI (jY (bX (l:=(rc N a)) (by kernel_rfl)))) rfl)))) _).trans ((c _).trans (by kernel_rfl));have b:(λz=>ra N a (lc z))=(λz=>ix N (λy=>a (bR y)) z):=funext λz=>ajl N a z
 rw[h,b];rfl
def md(N:Nat):TS->TS:=λa s=>run bV N j9 (ma (run bV N) a) s
def lg(N:Nat)(g r:bZ->Ro):bZ->Ro:=λ(n,o,f,p,d,e,a,b)=>let t:=λu v w x=>(some (.agg [vT a,vF .pvl b],[some [vF .tok u,vI v,vI w,vI x],some [vT a,vF .pvl b],some [vT a,vO .pvl b]]):Ro);cond (f==0) (aA (bw n o f p [125]) (λh=>cond (!h.1) (aA (bw h.2.1 h.2.2.1 h.2.2.2.1 h.2.2.2.2 [59]) (λi=>cond i.1 (let y:=(Ab .i64 (i.2.2.1+1));g (i.2.1,y,i.2.2.2.1,i.2.2.2.2,d,e,a,b)) (aA (aY i.2.1 i.2.2.1 i.2.2.2.1 i.2.2.2.2) (λj=>cond (!(j.1.kind==1)) (aA (aN j.2.1 j.2.2.1 j.2.2.2.1 j.2.2.2.2 2) (λq=>r (q.1,q.2.1,q.2.2.1,q.2.2.2,d,e,a,b))) (aA (aY j.2.1 j.2.2.1 j.2.2.2.1 j.2.2.2.2) (λc=>aA (pX c.1.text) (λ(s:Bool)=>cond (!s) (aA (aN c.2.1 c.2.2.1 c.2.2.2.1 c.2.2.2.2 2) (λk=>r (k.1,k.2.1,k.2.2.1,k.2.2.2,d,e,a,b))) (r (c.2.1,c.2.2.1,c.2.2.2.1,c.2.2.2.2,d,e,a,b))))))))) (aA (aJ h.2.1 h.2.2.1 h.2.2.2.1 h.2.2.2.2 [125]) (λl=>t l.1 l.2.1 l.2.2.1 l.2.2.2)))) (aA (aJ n o f p [125]) (λm=>t m.1 m.2.1 m.2.2.1 m.2.2.2))
def me(N:Nat)(a:bZ->Ro)(x:bZ):Ro:=lg N a (λz=>iy N a z) x
def rh(N:Nat)(a:TS):List (Nat×(TS)):=(cT bV N j9 (ma (run bV N) a)++(cT bV N ka (fin nG)++[]))
theorem ajn(N:Nat):∀(a:TS)(x:bZ),md N a (bR x)=me N (λy=>a (bR y)) x:=by
 intro a x;have b:∀C:Nat->TS,c8 C bV N j9 (ma (c8 C bV N) a) (bR x)=lg N (λy=>a (bR y)) (λz=>C 1000001 (fv z)) x:=by intro C;kernel_rfl
 have h:md N a (bR x)=lg N (λy=>a (bR y)) (λz=>mc N a (fv z)) x:=(eI (C:=gW (rh N a)) (dI (bX (l:=(rh N a)) (by kernel_rfl))) (ij (ew (nC (dI (jY (bX (l:=(rh N a)) (by kernel_rfl)))) rfl))) _).trans ((b _).trans (by kernel_rfl));have c:(λz=>mc N a (fv z))=(λz=>iy N (λy=>a (bR y)) z):=funext λz=>ajm N a z
 rw[h,c];rfl
def jq(N:Nat)(a:List Tok)(b c d:Int)(g:bZ->Ro):Ro:=let h:=(Ab .i64 (b+1));aA (dn a h c d) (λe=>aA (aJ e.2.1 e.2.2.1 e.2.2.2.1 e.2.2.2.2 [123]) (λf=>g (f.1,f.2.1,f.2.2.1,f.2.2.2,[],[],e.1,[])))
def abE(N:Nat)(a:List Tok)(b c d:Int):Ro:=jq N a b c d (λz=>aO N (me N) z)
theorem ald(N:Nat)(a:List Tok)(c d g:Int)(h:Tot (abE N a c d g) (λz=>∃i j k l m rest,z.1.dimR=.agg (enc .pen i)∧z.2=some [vF .tok j,vI k,vI l,vI m]::rest∧yL a c d g (i,j,k,l,m))):∃r,ku a c d g r:=FnC.finO (css:=[[vF .tok a,vI c,vI d,vI g]]) ani (N:=N) ((bD _ (by kernel_rfl) rfl (λC=>jq N a c d g (λz=>C 1000002 (bR z))) (λC=>by kernel_rfl)).trans (AB (b:=jq N a c d g (λz=>aZ N (md N) (bR z))) (by kernel_rfl) (congrArg (jq N a c d g) (funext λz=>aU (bR) (md N) (me N) (ajn N) N z)))) h λ_ ⟨i,j,k,l,m,_,e,f,q⟩=>⟨(i,j,k,l,m),e,⟨_,f⟩,q⟩
def p7:aG:=tb_ [] [cE,fE,fF,og,gA,yP,adk,ji,amQ,aiw,aa8,amR] [] []
def tt:IR:=Sq (Rs [Mv 23 0,Nk 24 23,Fa 25 2 24,Lo 26 25,Bc 27 .eql 26 0,Mv 28 27,Gt 28 (.mov 29 0),Gt 28 (.call 30 210 [29,kS [125]]),Gt 28 (.un 31 .not 30),Pa 32 28 31] (Cn 32 .skip (.exit 0))) (.block 1 (.block 2 (Rs [Mv 38 0,Ca 39 210 [38,kS [59]],Mv 37 39] (Cn 37 (Rg [Mv 40 0,Nk 41 40,Fa 42 1 41,Lo 43 42,Bc 44 .add 43 1,Nk 45 40,Fa 46 1 45,Sv 1 46 44]) (Rs [Mv 48 0,Ca 49 211 [48,kS [109,101,115,115,97,103,101]],Mv 47 49] (Cn 47 (Rs [Mv 50 0,Fa 51 3 5,Lo 52 51,Pp (.lnw 53 52),Ca 54 213 [50,53],Un 55 54] (Cn 55 (.ghp (.cls (.cell 2 3)) (.reg [Fa 56 3 5,Fo [] [2] (.ld 57 1 false true 56),Mv 58 0,Mv 59 1,Bc 60 .add 59 1,Fo [] [0] (.call 61 214 [58,60]),Pp (.lnw 62 57),Pp (.bsl 63 .fmsg [.c (.agg [vS,fu .ffld true,fu .str true,fu .fmsg true,fu .pen true,fu .u2 true,fu .str true])] true),Pp (.apo 64 .fmsg (.tk 57) (.t 63)),Pp (.ixw 65 .fmsg 64 62),Fo [] [3] (.stw none 7 65 61),Fa 66 3 5,Fo [] [2] (.st none 1 66 64)] [[],[0],[],[],[3],[2,3,4],[0,1],[],rg 0 7,rg 0 8,rg 0 9,rg 0 8,rg 0 8++[11]])) .skip)) (Rs [Mv 68 0,Ca 69 211 [68,kS [101,110,117,109]],Mv 67 69] (Cn 67 (Rs [Mv 70 0,Fa 71 4 5,Lo 72 71,Ll 73 72,Ca 74 213 [70,73],Un 75 74] (Cn 75 (.reg [Fa 76 4 5,Fo [] [2] (.ld 77 1 false true 76),Mv 78 0,Fo [] [0] (.call 79 215 [78]),Pp (.bsl 80 .pen [79] true),Pp (.app 81 .pen (.tk 77) 80),Fa 82 4 5,Fo [] [2] (.st none 1 82 (.tk 81))] [[],[0],[],[2],[2,3],rg 0 4,rg 0 5,rg 0 6]) .skip)) (Rs [Mv 84 0,Ca 85 211 [84,kS [111,110,101,111,102]],Mv 83 85] (Cn 83 (Rg [Mv 86 0,Ca 87 230 [86,5]]) (Rs [Mv 89 0,Ca 90 211 [89,kS [114,101,115,101,114,118,101,100]],Mv 88 90] (Cn 88 (Rg [Mv 91 0,Ca 92 231 [91,5]]) (Rs [Mv 33 0,Ca 34 232 [33,5]] (Rg [Mv 35 0,Ca 36 233 [35,5]]))))))))))))))
def tu:IR:=Rs [Mv 93 0,Ca 94 207 [93,kS [125]]] (Sq (.gh (.fz (.cell 2 3)) (Rg [Pp (.ld 95 7 true false 5),Sv 7 4 95])) .ret)
def wO:IR:=Rs [Pp (.new 4 [vS,nl .ffld,nl .str,nl .fmsg,nl .pen,nl .u2,nl .str])] (Sq (Rs [Mv 6 1,Bc 7 .gtr 6 20] (Cn 7 (Rs [Mv 8 0,Ca 9 206 [8,kI 3]] (Rs [Pp (.bld 10 [vS,fu .ffld true,fu .str true,.ul .fmsg ([]:List bi),fu .pen true,fu .u2 true,fu .str true] []),Sv 7 4 10] (.gh (.fz (.cell 1 3)) .ret))) .skip)) (Rs [Mv 11 0,Nk 12 11,Fa 13 1 12,Lo 14 13,Bc 15 .add 14 1,Nk 16 11,Fa 17 1 16,Sv 1 17 15] (Rs [Mv 18 0,Ca 19 229 [18],Pp (.bld 20 [vS,nl .ffld,nl .str,.ul .fmsg ([]:List bi),nl .pen,nl .u2,nl .str] [(0,1,19)]),Pp (.new 5 [vS,nl .ffld,nl .str,.ul .fmsg ([]:List bi),nl .pen,nl .u2,nl .str]),Sv 7 5 20] (Rs [Mv 21 0,Ca 22 207 [21,kS [123]]] (Sq (.block 0 (.loop [0,1,4,5,1000000] 3 tt)) tu)))))
def pc:List RV:=[.cell 4 7 true]
theorem aiD:FnC Tryz.prog p7 [206,207,210,211,213,214,215,229,230,231,232,233,2000206,2000207,2000210,2000211,2000213,2000214,2000215,2000229,2000230,2000231,2000232,2000233] 1 214 Tryz.f214 wO pc:=fnC Tryz.func214
def ahe(R:TR)(a:TS):TE:=(bo a [0,1,4,5,1000000] 3 (aQ 0 (kseq (R tu) (fin pc))))
abbrev f4:Type:=(Int×List Tok×Int×Int×Int×Bs×List bM×Bss×List bi×List PEn×List (Int×Int)×Bss×Bs×List bM×Bss×List bi×List PEn×List (Int×Int)×Bss)
def iz:f4->St:=λ(j,k,l,m,n,o,p,q,r,s,a,b,c,d,e,f,g,h,i)=>{env:=(.ptr 0 0::vI j::.undef::.undef::.ptr 1 0::.ptr 2 0::(U 90 [])),hp:=[some [vF .tok k,vI l,vI m,vI n],some [vT o,vO .ffld p,vO .str q,vO .fmsg r,vO .pen s,vO .u2 a,vO .str b],some [vT c,vO .ffld d,vO .str e,.ul .fmsg f,vO .pen g,vO .u2 h,vO .str i]]}
def nN(N:Nat):TS->TS:=λa s=>run p7 N tt (ahe (run p7 N) a) s
def je(N:Nat)(c:f4->Ro):f4->Ro:=λ(E,R,X,x,S,p,q,r,s,t,u,v,d,e,f,a,b,g,h)=>let D:=λO M L J g4 g5=>c (E,O,M,L,J,p,q,r,s,t,u,v,d,e,f,g4,g5,g,h);let W:=λO M L J=>(some (.agg [vT d,vF .ffld e,vF .str f,vF .fmsg a,vF .pen b,vF .u2 g,vF .str h],[some [vF .tok O,vI M,vI L,vI J],some [vT d,vF .ffld e,vF .str f,vF .fmsg a,vF .pen b,vF .u2 g,vF .str h],some [vT d,vO .ffld e,vO .str f,vO .fmsg a,vO .pen b,vO .u2 g,vO .str h]]):Ro);cond (x==0) (aA (bw R X x S [125]) (λy=>cond (!y.1) (aA (bw y.2.1 y.2.2.1 y.2.2.2.1 y.2.2.2.2 [59]) (λz=>cond z.1 (let x2:=(Ab .i64 (z.2.2.1+1));D z.2.1 x2 z.2.2.2.1 z.2.2.2.2 a b) (aA (cl z.2.1 z.2.2.1 z.2.2.2.1 z.2.2.2.2 [109,101,115,115,97,103,101]) (λC=>cond C.1 (let x3:=(↑(Aa a):Int);aA (bI C.2.1 C.2.2.1 C.2.2.2.1 C.2.2.2.2 x3) (λA=>cond (!A.1) (let x4:=(Ab .i64 (E+1));aA (gB A.2.1 A.2.2.1 A.2.2.2.1 A.2.2.2.2 x4) (λF=>let I:=(↑(Aa a):Int);chk (decide ((Aa a+Aa ([(.mk [] [] [] [] [] ([]:List (Int×Int)) [])]:List bi))*160<=140737488355328)&&decide (0<Aa (a++([(.mk [] [] [] [] [] ([]:List (Int×Int)) [])]:List bi)))) (let P:=(Aa (a++([(.mk [] [] [] [] [] ([]:List (Int×Int)) [])]:List bi)));let Y:=(a++([(.mk [] [] [] [] [] ([]:List (Int×Int)) [])]:List bi));chk (decide (0<=I)&&decide (I<↑P)) (chk (decide ((Ad I)<Aa Y)) (let Q:=(BV Y (Ad I) (reM F.1));chk (AI P (Aa Q)) (D F.2.1 F.2.2.1 F.2.2.2.1 F.2.2.2.2 Q b)))))) (D A.2.1 A.2.2.1 A.2.2.2.1 A.2.2.2.2 a b))) (aA (cl C.2.1 C.2.2.1 C.2.2.2.1 C.2.2.2.2 [101,110,117,109]) (λB=>cond B.1 (let Z:=(↑(Aa b):Int);aA (bI B.2.1 B.2.2.1 B.2.2.2.1 B.2.2.2.2 Z) (λm=>cond (!m.1) (aA (ku m.2.1 m.2.2.1 m.2.2.2.1 m.2.2.2.2) (λw=>chk (decide ((Aa b+Aa ([w.1]:List PEn))*40<=140737488355328)) (let aq:=(b++([w.1]:List PEn));D w.2.1 w.2.2.1 w.2.2.2.1 w.2.2.2.2 a aq))) (D m.2.1 m.2.2.1 m.2.2.2.1 m.2.2.2.2 a b))) (aA (cl B.2.1 B.2.2.1 B.2.2.2.1 B.2.2.2.2 [111,110,101,111,102]) (λn=>cond n.1 (aA (nD n.2.1 n.2.2.1 n.2.2.2.1 n.2.2.2.2 d e f a b g h) (λi=>c (E,i.1,i.2.1,i.2.2.1,i.2.2.2.1,p,q,r,s,t,u,v,i.2.2.2.2.1,i.2.2.2.2.2.1,i.2.2.2.2.2.2.1,i.2.2.2.2.2.2.2.1,i.2.2.2.2.2.2.2.2.1,i.2.2.2.2.2.2.2.2.2.1,i.2.2.2.2.2.2.2.2.2.2))) (aA (cl n.2.1 n.2.2.1 n.2.2.2.1 n.2.2.2.2 [114,101,115,101,114,118,101,100]) (λo=>cond o.1 (aA (j4 o.2.1 o.2.2.1 o.2.2.2.1 o.2.2.2.2 d e f a b g h) (λj=>c (E,j.1,j.2.1,j.2.2.1,j.2.2.2.1,p,q,r,s,t,u,v,j.2.2.2.2.1,j.2.2.2.2.2.1,j.2.2.2.2.2.2.1,j.2.2.2.2.2.2.2.1,j.2.2.2.2.2.2.2.2.1,j.2.2.2.2.2.2.2.2.2.1,j.2.2.2.2.2.2.2.2.2.2))) (aA (ga o.2.1 o.2.2.1 o.2.2.2.1 o.2.2.2.2 d e f a b g h) (λk=>aA (nE k.1 k.2.1 k.2.2.1 k.2.2.2.1 k.2.2.2.2.1 k.2.2.2.2.2.1 k.2.2.2.2.2.2.1 k.2.2.2.2.2.2.2.1 k.2.2.2.2.2.2.2.2.1 k.2.2.2.2.2.2.2.2.2.1 k.2.2.2.2.2.2.2.2.2.2) (λl=>c (E,l.1,l.2.1,l.2.2.1,l.2.2.2.1,p,q,r,s,t,u,v,l.2.2.2.2.1,l.2.2.2.2.2.1,l.2.2.2.2.2.2.1,l.2.2.2.2.2.2.2.1,l.2.2.2.2.2.2.2.2.1,l.2.2.2.2.2.2.2.2.2.1,l.2.2.2.2.2.2.2.2.2.2)))))))))))))) (aA (aJ y.2.1 y.2.2.1 y.2.2.2.1 y.2.2.2.2 [125]) (λH=>W H.1 H.2.1 H.2.2.1 H.2.2.2)))) (aA (aJ R X x S [125]) (λG=>W G.1 G.2.1 G.2.2.1 G.2.2.2))
theorem agm(N:Nat):LB (nN N) iz (je N):=λ_ _=>by kernel_rfl
def ge(N:Nat)(a:List Tok)(b c d h:Int)(i:f4->Ro):Ro:=cond (decide (20<h)) (aA (aN a b c d 3) (λf=>some (.agg [vT [],.sl .ffld (.may true) [],.sl .str (.may true) [],vF .fmsg [],.sl .pen (.may true) [],.sl .u2 (.may true) ([]:List (Int×Int)),.sl .str (.may true) []],[some [vF .tok f.1,vI f.2.1,vI f.2.2.1,vI f.2.2.2],some [vT [],.sl .ffld (.may true) [],.sl .str (.may true) [],vO .fmsg [],.sl .pen (.may true) [],.sl .u2 (.may true) ([]:List (Int×Int)),.sl .str (.may true) []]]))) (let j:=(Ab .i64 (b+1));aA (dn a j c d) (λe=>aA (aJ e.2.1 e.2.2.1 e.2.2.2.1 e.2.2.2.2 [123]) (λg=>i (h,g.1,g.2.1,g.2.2.1,g.2.2.2,[],[],[],[],[],([]:List (Int×Int)),[],e.1,[],[],[],[],([]:List (Int×Int)),[]))))
def wP(N:Nat)(a:List Tok)(b c d e:Int):Ro:=ge N a b c d e (λz=>aO N (je N) z)
theorem ahf(N:Nat)(a:List Tok)(c d g i:Int)(h:Tot (wP N a c d g i) (λz=>∃j k l m n rest,z.1.dimR=.agg (enc .fmsg j)∧z.2=some [vF .tok k,vI l,vI m,vI n]::rest∧um a c d g i (j,k,l,m,n))):∃r,gB a c d g i r:=FnC.finO (css:=[[vF .tok a,vI c,vI d,vI g]]) aiD (N:=N) ((bD _ (by kernel_rfl) rfl (λC=>ge N a c d g i (λz=>C 1000000 (iz z))) (λC=>by kernel_rfl)).trans (AB (b:=ge N a c d g i (λz=>aZ N (nN N) (iz z))) (by kernel_rfl) (congrArg (ge N a c d g i) (funext λz=>aU (iz) (nN N) (je N) (agm N) N z)))) h λ_ ⟨j,k,l,m,n,_,e,f,q⟩=>⟨(j,k,l,m,n),e,⟨_,f⟩,q⟩
def agn:aG:=tb_ [] [oe,cE,fE,dc,adj,fF,og,uz,gA,yP,adk] [] [aHu]
def ago:IR:=Sq (Rs [Mv 56 8,Nk 57 56,Fa 58 2 57,Lo 59 58,Bc 60 .eql 59 0,Mv 61 60,Gt 61 (.mov 62 8),Gt 61 (.call 63 208 [62]),Gt 61 (.fld 64 0 1 false 63),Gt 61 (.bin 65 .neq 64 (kI 5)),Pa 66 61 65] (Cn 66 .skip (.exit 0))) (.block 1 (.block 2 (Rs [Mv 70 8,Ca 71 210 [70,kS [59]],Mv 69 71] (Cn 69 (Rg [Mv 72 8,Nk 73 72,Fa 74 1 73,Lo 75 74,Bc 76 .add 75 1,Nk 77 72,Fa 78 1 77,Sv 1 78 76]) (Rs [Mv 80 8,Ca 81 211 [80,kS [112,97,99,107,97,103,101]],Mv 79 81] (Cn 79 (Sq (Rs [Mv 82 10,Bc 83 .gtr 82 0] (Cn 83 (Rs [Mv 84 8,Ca 85 206 [84,kI 5]] (.exit 2)) .skip)) (Rs [Mv 86 10,Bc 87 .add 86 1,Mv 10 87] (Rs [Mv 88 8,Nk 89 88,Fa 90 1 89,Lo 91 90,Bc 92 .add 91 1,Nk 93 88,Fa 94 1 93,Sv 1 94 92] (Sq (Rs [Mv 95 8,Ca 96 208 [95],Pp (.fld 97 0 1 false 96),Bc 98 .eql 97 1,Mv 99 98,Gt 99 (.mov 100 8),Gt 99 (.call 101 208 [100]),Gt 99 (.fld 102 1 1 false 101),Gt 99 (.idx 103 102 (kI 0)),Gt 99 (.bin 104 .eql 103 (.c (.int .u8 46))),Pa 105 99 104] (Cn 105 (Rg [Mv 106 8,Ca 107 206 [106,kI 2]]) .skip)) (Rs [Mv 108 8,Ca 109 212 [108],Fa 110 0 9,Sv 1 110 109] (Rg [Mv 111 8,Ca 112 207 [111,kS [59]]])))))) (Rs [Mv 114 8,Ca 115 211 [114,kS [105,109,112,111,114,116]],Mv 113 115] (Cn 113 (Rs [Mv 116 8,Fa 117 1 9,Lo 118 117,Ll 119 118,Ca 120 213 [116,119],Un 121 120] (Cn 121 (Rs [Mv 122 8,Nk 123 122,Fa 124 1 123,Lo 125 124,Bc 126 .add 125 1,Nk 127 122,Fa 128 1 127,Sv 1 128 126] (Sq (.reg [Fa 129 1 9,Fo [] [2] (.ld 130 1 false true 129),Mv 131 8,Fo [] [0,1] (.call 132 209 [131]),Pp (.bsl 133 .str [132] true),Pp (.app 134 .str (.tk 130) 133),Fa 135 1 9,Fo [] [2] (.st none 1 135 (.tk 134))] [[],[0],[],[2],[2,3],rg 0 4,rg 0 5,rg 0 6]) (Rg [Mv 136 8,Ca 137 207 [136,kS [59]]]))) .skip)) (Rs [Mv 139 8,Ca 140 211 [139,kS [109,101,115,115,97,103,101]],Mv 138 140] (Cn 138 (Rs [Mv 141 8,Fa 142 2 9,Lo 143 142,Ll 144 143,Ca 145 213 [141,144],Un 146 145] (Cn 146 (.reg [Fa 147 2 9,Fo [] [2] (.ld 148 1 false true 147),Mv 149 8,Fo [] [0,1] (.call 150 214 [149,kI 1]),Pp (.bsl 151 .fmsg [150] true),Pp (.app 152 .fmsg (.tk 148) 151),Fa 153 2 9,Fo [] [2] (.st none 1 153 (.tk 152))] [[],[0],[],[2],[2,3],rg 0 4,rg 0 5,rg 0 6]) .skip)) (Rs [Mv 155 8,Ca 156 211 [155,kS [101,110,117,109]],Mv 154 156] (Cn 154 (Rs [Mv 157 8,Fa 158 3 9,Lo 159 158,Ll 160 159,Ca 161 213 [157,160],Un 162 161] (Cn 162 (.reg [Fa 163 3 9,Fo [] [2] (.ld 164 1 false true 163),Mv 165 8,Fo [] [0,1] (.call 166 215 [165]),Pp (.bsl 167 .pen [166] true),Pp (.app 168 .pen (.tk 164) 167),Fa 169 3 9,Fo [] [2] (.st none 1 169 (.tk 168))] [[],[0],[],[2],[2,3],rg 0 4,rg 0 5,rg 0 6]) .skip)) (Rg [Mv 67 8,Ca 68 206 [67,kI 2]])))))))))))))
def agp:IR:=Sq (Rs [Mv 170 8,Nk 171 170,Fa 172 2 171,Lo 173 172,Bc 174 .neq 173 0] (Cn 174 (Sq (.reg [Pp (.bld 175 [vS,fu .str true,fu .fmsg true,fu .pen true] []),Mv 176 8,Nk 177 176,Fa 178 2 177,Fo [1] [] (.ld 179 1 false false 178),Mv 180 8,Nk 181 180,Fa 182 3 181,Fo [1] [] (.ld 183 1 false false 182),Fo [] [0] (.st none 4 2 175),Mv 3 179,Mv 4 183] [[],[],[1],[1,2],[1,2,3],[],[5],[5,6],[5,6,7],[0],rg 0 4++[9],rg 0 10]) .ret) .skip)) (Rs [Pp (.ld 184 4 true false 9),Sv 4 2 184,Mi 3 0,Mi 4 0] .ret)
def ami:IR:=Rs [Pp (.new 2 [vS,nl .str,nl .fmsg,nl .pen]),Mi 3 0,Mi 4 0] (Rs [Mv 12 0,Ca 13 204 [12],Mv 11 13,Ex_ 14 0 11,Ex_ 15 1 11,Ex_ 16 2 11,Mv 5 14,Mv 6 15,Mv 7 16] (Sq (Rs [Mv 17 6,Bc 18 .neq 17 0] (Cn 18 (Rs [Pp (.bld 19 [vS,fu .str true,fu .fmsg true,fu .pen true] []),Mv 20 6,Mv 21 7,Sv 4 2 19,Mv 3 20,Mv 4 21] .ret) .skip)) (Rs [Mv 22 5,Pp (.bld 23 [nl .tok,vI 0,vI 0,vI 0] [(0,1,22)]),Pp (.box 24 23),Mv 8 24] (Rs [Pp (.bld 25 [vS,nl .str,nl .fmsg,nl .pen] []),Pp (.new 9 [vS,nl .str,nl .fmsg,nl .pen]),Sv 4 9 25] (Sq (Rs [Mv 26 8,Ca 27 205 [26,kS [115,121,110,116,97,120]],Un 28 27] (Cn 28 (Rg [Mv 29 8,Ca 30 206 [29,kI 2]]) .skip)) (Rs [Mv 31 8,Ca 32 207 [31,kS [61]]] (Sq (Rs [Mv 33 8,Nk 34 33,Fa 35 2 34,Lo 36 35,Bc 37 .eql 36 0,Mv 38 37,Gt 38 (.mov 39 8),Gt 38 (.call 40 208 [39]),Gt 38 (.fld 41 0 1 false 40),Gt 38 (.bin 42 .neq 41 (kI 3)),Gt 38 (.mov 43 42),Gf 43 (.mov 44 8),Gf 43 (.call 45 208 [44]),Gf 43 (.fld 46 1 1 false 45),Gf 43 (.bin 47 .neq 46 (kS [112,114,111,116,111,51])),Gt 38 (.pick 48 43 (kB true) 47),Pa 49 38 48] (Cn 49 (Rg [Mv 50 8,Ca 51 206 [50,kI 2]]) .skip)) (Rs [Mv 52 8,Ca 53 209 [52]] (Rs [Mv 54 8,Ca 55 207 [54,kS [59]]] (Rs [Mi 10 0] (Sq (.block 0 (.loop [2,8,9,10,1000000] 3 ago)) agp)))))))))))
def ael:List RV:=[.cell 2 4 true,.t 3,.t 4]
theorem aAF:FnC Tryz.prog agn [205,206,207,208,209,210,211,212,213,214,215,2000205,2000206,2000207,2000208,2000209,2000210,2000211,2000212,2000213,2000214,2000215] 0 177 Tryz.f177 ami ael:=fnC Tryz.func177
def axZ(R:TR)(a:TS):TE:=(bo a [2,8,9,10,1000000] 3 (aQ 0 (kseq (R agp) (fin ael))))
abbrev p8:Type:=(Int×Bs×Bss×List bi×List PEn×List Tok×Int×Int×Int×Bs×Bss×List bi×List PEn)
def tv:p8->St:=λ(d,e,f,g,h,i,j,k,l,m,a,b,c)=>{env:=(.undef::.undef::.ptr 0 0::(U 5 (.ptr 1 0::.ptr 2 0::vI d::(U 174 [])))),hp:=[some [vT e,vO .str f,vO .fmsg g,vO .pen h],some [vF .tok i,vI j,vI k,vI l],some [vT m,vO .str a,vO .fmsg b,vO .pen c]]}
def ack(N:Nat):TS->TS:=λa s=>run agn N ago (axZ (run agn N) a) s
def fb(N:Nat)(r:p8->Ro):p8->Ro:=λ(f,P,L,M,O,w,x,h,s,c,a,b,d)=>let y:=λY X S Q g4 g5 g6 W=>r (Y,P,L,M,O,X,S,Q,g4,g5,g6,W,d);cond (h==0) (aA (aY w x h s) (λq=>cond (!(q.1.kind==5)) (aA (bw q.2.1 q.2.2.1 q.2.2.2.1 q.2.2.2.2 [59]) (λi=>cond i.1 (let R:=(Ab .i64 (i.2.2.1+1));y f i.2.1 R i.2.2.2.1 i.2.2.2.2 c a b) (aA (cl i.2.1 i.2.2.1 i.2.2.2.1 i.2.2.2.2 [112,97,99,107,97,103,101]) (λe=>cond e.1 (cond (decide (0<f)) (aA (aN e.2.1 e.2.2.1 e.2.2.2.1 e.2.2.2.2 5) (λC=>y f C.1 C.2.1 C.2.2.1 C.2.2.2 c a b)) (let J:=(Ab .i64 (f+1));let x3:=(Ab .i64 (e.2.2.1+1));aA (aY e.2.1 x3 e.2.2.2.1 e.2.2.2.2) (λj=>cond (j.1.kind==1) (aA (aY j.2.1 j.2.2.1 j.2.2.2.1 j.2.2.2.2) (λg=>chk (decide ((0:Int)<↑(Aa g.1.text))) (let x4:=(↑(AW (Af g.1.text (Ad 0) 0)):Int);cond (x4==46) (aA (aN g.2.1 g.2.2.1 g.2.2.2.1 g.2.2.2.2 2) (λE=>aA (dh E.1 E.2.1 E.2.2.1 E.2.2.2) (λz=>aA (aJ z.2.1 z.2.2.1 z.2.2.2.1 z.2.2.2.2 [59]) (λD=>y J D.1 D.2.1 D.2.2.1 D.2.2.2 z.1 a b)))) (aA (dh g.2.1 g.2.2.1 g.2.2.2.1 g.2.2.2.2) (λA=>aA (aJ A.2.1 A.2.2.1 A.2.2.2.1 A.2.2.2.2 [59]) (λF=>y J F.1 F.2.1 F.2.2.1 F.2.2.2 A.1 a b)))))) (aA (dh j.2.1 j.2.2.1 j.2.2.2.1 j.2.2.2.2) (λB=>aA (aJ B.2.1 B.2.2.1 B.2.2.2.1 B.2.2.2.2 [59]) (λH=>y J H.1 H.2.1 H.2.2.1 H.2.2.2 B.1 a b)))))) (aA (cl e.2.1 e.2.2.1 e.2.2.2.1 e.2.2.2.2 [105,109,112,111,114,116]) (λk=>cond k.1 (let x5:=(↑(Aa a):Int);aA (bI k.2.1 k.2.2.1 k.2.2.2.1 k.2.2.2.2 x5) (λl=>cond (!l.1) (let x6:=(Ab .i64 (l.2.2.1+1));aA (bG l.2.1 x6 l.2.2.2.1 l.2.2.2.2) (λt=>chk (decide ((Aa a+Aa ([t.1]:Bss))*16<=140737488355328)) (let x7:=(a++([t.1]:Bss));aA (aJ t.2.1 t.2.2.1 t.2.2.2.1 t.2.2.2.2 [59]) (λG=>y f G.1 G.2.1 G.2.2.1 G.2.2.2 c x7 b)))) (y f l.2.1 l.2.2.1 l.2.2.2.1 l.2.2.2.2 c a b))) (aA (cl k.2.1 k.2.2.1 k.2.2.2.1 k.2.2.2.2 [109,101,115,115,97,103,101]) (λm=>cond m.1 (let x8:=(↑(Aa b):Int);aA (bI m.2.1 m.2.2.1 m.2.2.2.1 m.2.2.2.2 x8) (λn=>cond (!n.1) (aA (gB n.2.1 n.2.2.1 n.2.2.2.1 n.2.2.2.2 1) (λu=>chk (decide ((Aa b+Aa ([(reM u.1)]:List bi))*160<=140737488355328)) (let Z:=(b++([(reM u.1)]:List bi));y f u.2.1 u.2.2.1 u.2.2.2.1 u.2.2.2.2 c a Z))) (y f n.2.1 n.2.2.1 n.2.2.2.1 n.2.2.2.2 c a b))) (aA (cl m.2.1 m.2.2.1 m.2.2.2.1 m.2.2.2.2 [101,110,117,109]) (λo=>cond o.1 (let ao:=(↑(Aa d):Int);aA (bI o.2.1 o.2.2.1 o.2.2.2.1 o.2.2.2.2 ao) (λp=>cond (!p.1) (aA (ku p.2.1 p.2.2.1 p.2.2.2.1 p.2.2.2.2) (λv=>chk (decide ((Aa d+Aa ([v.1]:List PEn))*40<=140737488355328)) (let ap:=(d++([v.1]:List PEn));r (f,P,L,M,O,v.2.1,v.2.2.1,v.2.2.2.1,v.2.2.2.2,c,a,b,ap)))) (y f p.2.1 p.2.2.1 p.2.2.2.1 p.2.2.2.2 c a b))) (aA (aN o.2.1 o.2.2.1 o.2.2.2.1 o.2.2.2.2 2) (λI=>y f I.1 I.2.1 I.2.2.1 I.2.2.2 c a b)))))))))))) (cond (!(q.2.2.2.1==0)) (some (.tup [.agg [vT [],.sl .str (.may true) [],.sl .fmsg (.may true) [],.sl .pen (.may true) []],vI q.2.2.2.1,vI q.2.2.2.2],[some [vT [],.sl .str (.may true) [],.sl .fmsg (.may true) [],.sl .pen (.may true) []],some [vF .tok q.2.1,vI q.2.2.1,vI q.2.2.2.1,vI q.2.2.2.2],some [vT c,vO .str a,vO .fmsg b,vO .pen d]])) (some (.tup [.agg [vT c,vF .str a,vF .fmsg b,vF .pen d],vI 0,vI 0],[some [vT c,vF .str a,vF .fmsg b,vF .pen d],some [vF .tok q.2.1,vI q.2.2.1,vI q.2.2.2.1,vI q.2.2.2.2],some [vT c,vO .str a,vO .fmsg b,vO .pen d]]))))) (cond (!(h==0)) (some (.tup [.agg [vT [],.sl .str (.may true) [],.sl .fmsg (.may true) [],.sl .pen (.may true) []],vI h,vI s],[some [vT [],.sl .str (.may true) [],.sl .fmsg (.may true) [],.sl .pen (.may true) []],some [vF .tok w,vI x,vI h,vI s],some [vT c,vO .str a,vO .fmsg b,vO .pen d]])) (some (.tup [.agg [vT c,vF .str a,vF .fmsg b,vF .pen d],vI 0,vI 0],[some [vT c,vF .str a,vF .fmsg b,vF .pen d],some [vF .tok w,vI x,vI h,vI s],some [vT c,vO .str a,vO .fmsg b,vO .pen d]])))
theorem avM(N:Nat):LB (ack N) tv (fb N):=λ_ _=>by kernel_rfl
def sa(N:Nat)(J:Bs)(I:p8->Ro):Ro:=let y:=λH G F E=>I (0,[],[],[],[],H,G,F,E,[],[],[],[]);aA (afA J) (λz=>cond (!(z.2.1==0)) (some (.tup [.agg [vT [],.sl .str (.may true) [],.sl .fmsg (.may true) [],.sl .pen (.may true) []],vI z.2.1,vI z.2.2],[some [vT [],.sl .str (.may true) [],.sl .fmsg (.may true) [],.sl .pen (.may true) []]])) (aA (bU z.1 0 0 0 [115,121,110,116,97,120]) (λe=>cond (!e.1) (aA (aN e.2.1 e.2.2.1 e.2.2.2.1 e.2.2.2.2 2) (λB=>aA (aJ B.1 B.2.1 B.2.2.1 B.2.2.2 [61]) (λf=>cond (f.2.2.1==0) (aA (aY f.1 f.2.1 f.2.2.1 f.2.2.2) (λg=>cond (!(g.1.kind==3)) (aA (aN g.2.1 g.2.2.1 g.2.2.2.1 g.2.2.2.2 2) (λD=>aA (bG D.1 D.2.1 D.2.2.1 D.2.2.2) (λA=>aA (aJ A.2.1 A.2.2.1 A.2.2.2.1 A.2.2.2.2 [59]) (λC=>y C.1 C.2.1 C.2.2.1 C.2.2.2)))) (aA (aY g.2.1 g.2.2.1 g.2.2.2.1 g.2.2.2.2) (λa=>let L:=(!decide (a.1.text=[112,114,111,116,111,51]));cond L (aA (aN a.2.1 a.2.2.1 a.2.2.2.1 a.2.2.2.2 2) (λh=>aA (bG h.1 h.2.1 h.2.2.1 h.2.2.2) (λi=>aA (aJ i.2.1 i.2.2.1 i.2.2.2.1 i.2.2.2.2 [59]) (λj=>y j.1 j.2.1 j.2.2.1 j.2.2.2)))) (aA (bG a.2.1 a.2.2.1 a.2.2.2.1 a.2.2.2.2) (λk=>aA (aJ k.2.1 k.2.2.1 k.2.2.2.1 k.2.2.2.2 [59]) (λl=>y l.1 l.2.1 l.2.2.1 l.2.2.2))))))) (aA (bG f.1 f.2.1 f.2.2.1 f.2.2.2) (λm=>aA (aJ m.2.1 m.2.2.1 m.2.2.2.1 m.2.2.2.2 [59]) (λn=>y n.1 n.2.1 n.2.2.1 n.2.2.2)))))) (aA (aJ e.2.1 e.2.2.1 e.2.2.2.1 e.2.2.2.2 [61]) (λb=>cond (b.2.2.1==0) (aA (aY b.1 b.2.1 b.2.2.1 b.2.2.2) (λc=>cond (!(c.1.kind==3)) (aA (aN c.2.1 c.2.2.1 c.2.2.2.1 c.2.2.2.2 2) (λo=>aA (bG o.1 o.2.1 o.2.2.1 o.2.2.2) (λp=>aA (aJ p.2.1 p.2.2.1 p.2.2.2.1 p.2.2.2.2 [59]) (λq=>y q.1 q.2.1 q.2.2.1 q.2.2.2)))) (aA (aY c.2.1 c.2.2.1 c.2.2.2.1 c.2.2.2.2) (λd=>let M:=(!decide (d.1.text=[112,114,111,116,111,51]));cond M (aA (aN d.2.1 d.2.2.1 d.2.2.2.1 d.2.2.2.2 2) (λr=>aA (bG r.1 r.2.1 r.2.2.1 r.2.2.2) (λs=>aA (aJ s.2.1 s.2.2.1 s.2.2.2.1 s.2.2.2.2 [59]) (λt=>y t.1 t.2.1 t.2.2.1 t.2.2.2)))) (aA (bG d.2.1 d.2.2.1 d.2.2.2.1 d.2.2.2.2) (λu=>aA (aJ u.2.1 u.2.2.1 u.2.2.2.1 u.2.2.2.2 [59]) (λv=>y v.1 v.2.1 v.2.2.1 v.2.2.2))))))) (aA (bG b.1 b.2.1 b.2.2.1 b.2.2.2) (λw=>aA (aJ w.2.1 w.2.2.1 w.2.2.2.1 w.2.2.2.2 [59]) (λx=>y x.1 x.2.1 x.2.2.1 x.2.2.2))))))))
def amj(N:Nat)(a:Bs):Ro:=sa N a (λz=>aO N (fb N) z)
theorem ax0(N:Nat)(a:Bs)(h:Tot (amj N a) (λz=>∃c d f g i j rest,z.1.dimR=.tup [.agg [vT c,vF .str d,vF .fmsg f,vF .pen g],vI i,vI j]∧z.2=rest∧zJ a (c,d,f,g,i,j))):∃r,z5 a r:=aAF.finP (N:=N) ((bD _ (by kernel_rfl) rfl (λC=>sa N a (λz=>C 1000000 (tv z))) (λC=>by kernel_rfl)).trans (AB (b:=sa N a (λz=>aZ N (ack N) (tv z))) (by kernel_rfl) (congrArg (sa N a) (funext λz=>aU (tv) (ack N) (fb N) (avM N) N z)))) h λ_ ⟨c,d,f,g,i,j,_,e,_,q⟩=>⟨(c,d,f,g,i,j),e,q⟩
def ale:aG:=tb_ [] [aoR,arp] [] []
def ajo:IR:=.block 1 (Rs [Mv 14 5,Ca 15 227 [14]] (Rs [Pp (.bld 16 [vI 0,vS,vU 0,vI 0] []),Pp (.new 7 [vI 0,vS,vU 0,vI 0]),Sv 4 7 16] (Sq (Rs [Mv 17 5,Nk 18 17,Fa 19 2 18,Lo 20 19,Bc 21 .eql 20 0] (Cn 21 (Rg [Mv 22 5,Ca 23 228 [22],Sv 4 7 23]) .skip)) (Sq (Rs [Mv 24 5,Nk 25 24,Fa 26 2 25,Lo 27 26,Bc 28 .neq 27 0] (Cn 28 (Sq (.reg [Mv 29 5,Nk 30 29,Fa 31 2 30,Fo [0] [] (.ld 32 1 false false 31),Mv 33 5,Nk 34 33,Fa 35 3 34,Fo [0] [] (.ld 36 1 false false 35),Pp (.mov 2 (.c (nl .tok))),Mv 3 32,Mv 4 36] [[],[0],[0,1],[0,1,2],[],[4],[4,5],[4,5,6],[],[0,1,2,3,8],rg 0 9]) .ret) .skip)) (Rs [Pp (.mov 37 (.tk 6)),Pp (.ld 38 4 true false 7),Pp (.bsl 39 .tok [38] true),Pp (.app 40 .tok (.tk 37) 39),Pp (.mov 6 (.tk 40))] (Rs [Fa 41 0 7,Lo 42 41,Bc 43 .eql 42 5] (Cn 43 (Rs [Mv 44 6,Mv 2 44,Mi 3 0,Mi 4 0] .ret) .skip)))))))
def asI:IR:=Rs [Pp (.mov 2 (.c (nl .tok))),Mi 3 0,Mi 4 0] (Sq (Rs [Mv 8 0,Pp (.lens 9 8),Bc 10 .gtr 9 3000] (Cn 10 (Rs [Pp (.mov 2 (.c (nl .tok))),Mi 3 3,Mi 4 0] .ret) .skip)) (Rs [Mv 11 0,Pp (.bld 12 [vS,vI 0,vI 0,vI 0] [(0,1,11)]),Pp (.box 13 12),Mv 5 13] (Rs [Pp (.mov 6 (.c (nl .tok)))] (.block 0 (.loop [5,6,1000000] 1 ajo)))))
theorem aFv:FnC Tryz.prog ale [227,228,2000227,2000228] 0 204 Tryz.f204 asI eV:=fnC Tryz.func204
def aDi(R:TR)(a:TS):TE:=(bo a [5,6,1000000] 1 (aQ 0 (fin eV)))
abbrev uC:Type:=(List Tok×Bs×Int×Int×Int)
def xC:uC->St:=λ(a,b,c,d,e)=>{env:=(U 5 (.ptr 0 0::vO .tok a::(U 38 []))),hp:=[some [vT b,vI c,vI d,vI e]]}
def agq(N:Nat):TS->TS:=λa s=>run ale N ajo (aDi (run ale N) a) s
def aao(N:Nat)(c:uC->Ro):uC->Ro:=λ(h,d,e,f,g)=>aA (oh d e f g) (λb=>cond (b.2.2.1==0) (aA (pz b.1 b.2.1 b.2.2.1 b.2.2.2) (λa=>cond (!(a.2.2.2.1==0)) (some (.tup [vF .tok [],vI a.2.2.2.1,vI a.2.2.2.2],[some [vT a.2.1,vI a.2.2.1,vI a.2.2.2.1,vI a.2.2.2.2],some [vI a.1.kind,vT a.1.text,vU a.1.n,vI a.1.pos]])) (chk (decide ((Aa h+Aa ([a.1]:List Tok))*40<=140737488355328)) (let i:=(h++([a.1]:List Tok));cond (a.1.kind==5) (some (.tup [vF .tok i,vI 0,vI 0],[some [vT a.2.1,vI a.2.2.1,vI a.2.2.2.1,vI a.2.2.2.2],some [vI a.1.kind,vT a.1.text,vU a.1.n,vI a.1.pos]])) (c (i,a.2.1,a.2.2.1,a.2.2.2.1,a.2.2.2.2)))))) (cond (!(b.2.2.1==0)) (some (.tup [vF .tok [],vI b.2.2.1,vI b.2.2.2],[some [vT b.1,vI b.2.1,vI b.2.2.1,vI b.2.2.2],some [vI 0,vT [],vU 0,vI 0]])) (chk (decide ((Aa h+Aa ([⟨0,([]:Bs),0,0⟩]:List Tok))*40<=140737488355328)) (let j:=(h++([⟨0,([]:Bs),0,0⟩]:List Tok));cond (0==5) (some (.tup [vF .tok j,vI 0,vI 0],[some [vT b.1,vI b.2.1,vI b.2.2.1,vI b.2.2.2],some [vI 0,vT [],vU 0,vI 0]])) (c (j,b.1,b.2.1,b.2.2.1,b.2.2.2))))))
theorem aAG(N:Nat):LB (agq N) xC (aao N):=λ_ _=>by kernel_rfl
def wQ(N:Nat)(a:Bs)(b:uC->Ro):Ro:=let c:=(↑(Aa a):Int);cond (decide (3000<c)) (some (.tup [vF .tok [],vI 3,vI 0],[])) (b ([],a,0,0,0))
def asJ(N:Nat)(a:Bs):Ro:=wQ N a (λz=>aO N (aao N) z)
theorem aDj(N:Nat)(a:Bs)(h:Tot (asJ N a) (λz=>∃c d f rest,z.1.dimR=.tup [vF .tok c,vI d,vI f]∧z.2=rest∧aea a (c,d,f))):∃r,afA a r:=aFv.finP (N:=N) ((bD _ (by kernel_rfl) rfl (λC=>wQ N a (λz=>C 1000000 (xC z))) (λC=>by kernel_rfl)).trans (AB (b:=wQ N a (λz=>aZ N (agq N) (xC z))) (by kernel_rfl) (congrArg (wQ N a) (funext λz=>aU (xC) (agq N) (aao N) (aAG N) N z)))) h λ_ ⟨c,d,f,_,e,_,q⟩=>⟨(c,d,f),e,q⟩
def alf:aG:=tb_ [] [] [] []
def amk:IR:=Sq (Rs [Mv 6 5,Mv 7 0,Ll 8 7,Bi 9 .lss 6 8] (Cn 9 .skip (.exit 0))) (Sq (.block 1 (Rs [Mv 12 0,Mv 13 5,Ix 14 .str 12 13,Lq 15 14,Mv 16 1,Bi 17 .eql 15 16] (Cn 17 (Rs [Mb 4 true] .ret) .skip))) (Rg [Mv 10 5,Bc 11 .add 10 1,Mv 5 11]))
def aml:IR:=Rs [Mb 4 false] .ret
def asK:IR:=Rs [Mb 4 false] (Sq (Rs [Mi 5 0] (.block 0 (.loop [0,1,5,1000000] 0 amk))) aml)
theorem aFw:FnC Tryz.prog alf [] 0 179 Tryz.f179 asK aR:=fnC Tryz.func179
def aDk(R:TR)(a:TS):TE:=(bo a [0,1,5,1000000] 0 (aQ 0 (kseq (R aml) (fin aR))))
abbrev uD:Type:=(Bss×Bs×Int)
def xD:uD->St:=λ(a,b,c)=>{env:=(vF .str a::vT b::(U 3 (vI c::(U 12 [])))),hp:=[]}
def agr(N:Nat):TS->TS:=λa s=>run alf N amk (aDk (run alf N) a) s
def aap(N:Nat)(a:uD->Ro):uD->Ro:=λ(b,d,c)=>let e:=(↑(Aa b):Int);cond (decide (c<e)) (chk (ixl c b) (let f:=Af b (Ad c) (aI .str);cond (decide (f=d)) (some (vB true,[])) (let g:=(Ab .i64 (c+1));a (b,d,g)))) (some (vB false,[]))
theorem aAH(N:Nat):LB (agr N) xD (aap N):=λ_ _=>by kernel_rfl
def wR(N:Nat)(a:Bss)(b:Bs)(c:uD->Ro):Ro:=c (a,b,0)
def asL(N:Nat)(a:Bss)(b:Bs):Ro:=wR N a b (λz=>aO N (aap N) z)
theorem aDl(N:Nat)(a:Bss)(c:Bs)(h:Tot (asL N a c) (λz=>∃d rest,z.1.dimR=vB d∧z.2=rest∧alP a c (d))):∃r,eL a c r:=aFw.finP (N:=N) ((bD _ (by kernel_rfl) rfl (λC=>wR N a c (λz=>C 1000000 (xD z))) (λC=>by kernel_rfl)).trans (AB (b:=wR N a c (λz=>aZ N (agr N) (xD z))) (by kernel_rfl) (congrArg (wR N a c) (funext λz=>aU (xD) (agr N) (aap N) (aAH N) N z)))) h λ_ ⟨d,_,e,_,q⟩=>⟨(d),e,q⟩
def aFx:aG:=tb_ [] [] [] []
def apb:IR:=Rs [Ms 4 []] (Sq (Rs [Mv 5 0,Pp (.bin 6 .eql 5 (kS [])),Mv 7 6,Gf 7 (.mov 8 1),Gf 7 (.bin 9 .eql 8 (kS [])),Po 10 7 9] (Cn 10 (Rs [Mv 11 0,Mv 12 1,Bi 13 .add 11 12,Mv 4 13] .ret) .skip)) (Rs [Mv 14 0,Pp (.bin 15 .add 14 (kS [46])),Mv 16 1,Bi 17 .add 15 16,Mv 4 17] .ret))
theorem aDm:FnC Tryz.prog aFx [] 0 216 Tryz.f216 apb aR:=fnC Tryz.func216
def apc(N:Nat)(a b:Bs):Ro:=let d:=decide (a=[]);cond d (chk (decide (Aa a+Aa b<=9223372036854775807)) (some (vT (a++b),[]))) (let e:=decide (b=[]);cond e (chk (decide (Aa a+Aa b<=9223372036854775807)) (some (vT (a++b),[]))) (chk (decide (Aa a+Aa ([46]:Bs)<=9223372036854775807)) (let c:=(a++([46]:Bs));chk (decide (Aa c+Aa b<=9223372036854775807)) (some (vT (c++b),[])))))
def apd(N:Nat)(a b:Bs):Ro:=apc N a b
theorem aAI(N:Nat)(b c:Bs)(h:Tot (apd N b c) (λz=>∃a rest,z.1.dimR=vT a∧z.2=rest∧aiV b c (a))):∃r,o8 b c r:=aDm.finP (N:=N) (by kernel_rfl) h λ_ ⟨a,_,e,_,q⟩=>⟨(a),e,q⟩
def fP:aG:=tb_ [] [] [] [al9,asH]
def ri:IR:=Sq (Rs [Mv 13 10,Mv 14 0,Ll 15 14,Bi 16 .lss 13 15] (Cn 16 .skip (.exit 0))) (Sq (.block 1 (Rs [Mv 19 2,Mv 20 0,Mv 21 10,Ix 22 .fmsg 20 21,Fa 23 0 22,Lo 24 23,Ca 25 216 [19,24],Mv 11 25] (Rs [Pp (.mov 26 (.tk 9)),Mv 27 11,Mv 28 0,Mv 29 10,Ix 30 .fmsg 28 29,Ld 31 7 true 30,Mv 32 3,Pp (.bld 33 [vS,vI 0,vS,fu .ffld true,fu .str true,fu .fmsg true,fu .pen true,fu .u2 true,fu .str true,vS,fu .pvl true,vS] [(0,1,27),(1,1,kI 16),(2,7,31),(11,1,32)]),Pp (.bsl 34 .nms [33] true),Pp (.app 35 .nms (.tk 26) 34),Pp (.mov 9 (.tk 35))] (.reg [Pp (.mov 36 (.tk 9)),Mv 37 0,Mv 38 10,Ix 39 .fmsg 37 38,Fa 40 3 39,Fo [] [] (.ld 41 1 false false 40),Mv 42 0,Mv 43 10,Ix 44 .fmsg 42 43,Fa 45 4 44,Fo [] [] (.ld 46 1 false false 45),Mv 47 11,Mv 48 3,Ca 49 180 [41,46,47,48],Pp (.app 50 .nms (.tk 36) 49),Pp (.mov 9 (.tk 50))] [[],[],[],[1,2],[1,2,3],rg 1 4,[],[],[6,7],[6,7,8],rg 6 9,[],[],rg 1 12,rg 0 13,rg 0 14])))) (Rg [Mv 17 10,Bc 18 .add 17 1,Mv 10 18]))
def aeO:IR:=Sq (Rs [Mv 51 12,Mv 52 1,Ll 53 52,Bi 54 .lss 51 53] (Cn 54 .skip (.exit 2))) (Sq (.block 3 (.reg [Pp (.mov 57 (.tk 9)),Mv 58 2,Mv 59 1,Mv 60 12,Ix 61 .pen 59 60,Fa 62 0 61,Fo [] [] (.ld 63 1 false false 62),Ca 64 216 [58,63],Mv 65 1,Mv 66 12,Ix 67 .pen 65 66,Ld 68 2 true 67,Mv 69 3,Pp (.bld 70 [vS,vI 0,vS,fu .ffld true,fu .str true,fu .fmsg true,fu .pen true,fu .u2 true,fu .str true,vS,fu .pvl true,vS] [(0,1,64),(1,1,kI 17),(9,2,68),(11,1,69)]),Pp (.bsl 71 .nms [70] true),Pp (.app 72 .nms (.tk 57) 71),Pp (.mov 9 (.tk 72))] [[],[],[],[],[2,3],[2,3,4],rg 2 5,rg 1 6,[],[],[8,9],[8,9,10],[],rg 1 12,rg 1 13,rg 0 14,rg 0 15])) (Rg [Mv 55 12,Bc 56 .add 55 1,Mv 12 56]))
def aeP:IR:=Rs [Pp (.mov 73 (.tk 9)),Pp (.mov 8 (.tk 73))] .ret
def wi:IR:=Sq (Rs [Mi 12 0] (.block 2 (.loop [1,2,3,9,12,1000001] 0 aeO))) aeP
def ajp:IR:=Rs [Pp (.mov 8 (.c (nl .nms)))] (Rs [Pp (.mov 9 (.c (nl .nms)))] (Sq (Rs [Mi 10 0] (.block 0 (.loop [0,1,2,3,9,10,1000000] 0 ri))) wi))
def fT:List RV:=[.t 8]
theorem ax1:FnC Tryz.prog fP [] 0 180 Tryz.f180 ajp fT:=fnC Tryz.func180
def aaq(R:TR)(a:TS):TE:=(bo a [0,1,2,3,9,10,1000000] 0 (aQ 0 (kseq (R wi) (fin fT))))
abbrev f9:Type:=(List bi×List PEn×Bs×Bs×List PNm×Int)
def eO:f9->St:=λ(a,b,c,d,e,f)=>{env:=(vF .fmsg a::vF .pen b::vT c::vT d::(U 5 (vO .nms e::vI f::(U 63 [])))),hp:=[]}
def avN(R:TR)(a:TS):TE:=(bo a [1,2,3,9,12,1000001] 0 (aQ 2 (kseq (R aeP) (fin fT))))
abbrev oi:Type:=(List PEn×Bs×Bs×List PNm×Int)
def mY:oi->St:=λ(a,b,c,d,e)=>{env:=(.undef::vF .pen a::vT b::vT c::(U 5 (vO .nms d::.undef::.undef::vI e::(U 61 [])))),hp:=[]}
def tw(N:Nat):TS->TS:=λa s=>run fP N aeO (avN (run fP N) a) s
def oj(N:Nat)(b:oi->Ro):oi->Ro:=λ(d,i,e,f,a)=>let k:=(↑(Aa d):Int);cond (decide (a<k)) (chk (ixl a d) (let l:=(Af d (Ad a) (aI .pen));aA (o8 i l.name) (λ(j:Bs)=>chk (ixl a d) (let c:=(Af d (Ad a) (aI .pen));chk (decide ((Aa f+Aa ([⟨j,17,.mk [] [] [] [] [] ([]:List (Int×Int)) [],⟨c.name,c.values⟩,e⟩]:List PNm))*240<=140737488355328)) (let g:=(f++([⟨j,17,.mk [] [] [] [] [] ([]:List (Int×Int)) [],⟨c.name,c.values⟩,e⟩]:List PNm));let h:=(Ab .i64 (a+1));b (d,i,e,g,h)))))) (some (vO .nms f,[]))
theorem atQ(N:Nat):LB (tw N) mY (oj N):=λ_ _=>by kernel_rfl
def tz(N:Nat):TS->TS:=λa s=>run fP N ri (aaq (run fP N) a) s
def rj(N:Nat)(d:f9->Ro)(l:oi->Ro):f9->Ro:=λ(c,i,f,e,g,a)=>let m:=(↑(Aa c):Int);cond (decide (a<m)) (chk (ixl a c) (let n:=(Af c (Ad a) (aI .fmsg));aA (o8 f n.name) (λ(h:Bs)=>chk (ixl a c) (let b:=(Af c (Ad a) (aI .fmsg));chk (decide ((Aa g+Aa ([⟨h,16,.mk b.name b.fields b.oneofs b.msgs b.enums b.nums b.names,⟨([]:Bs),([]:List PVl)⟩,e⟩]:List PNm))*240<=140737488355328)) (let j:=(g++([⟨h,16,.mk b.name b.fields b.oneofs b.msgs b.enums b.nums b.names,⟨([]:Bs),([]:List PVl)⟩,e⟩]:List PNm));chk (ixl a c) (let o:=(Af c (Ad a) (aI .fmsg));chk (ixl a c) (let p:=(Af c (Ad a) (aI .fmsg));aA (rW o.msgs p.enums h e) (λ(k:List PNm)=>chk (decide ((Aa j+Aa k)*240<=140737488355328)) (let q:=(Ab .i64 (a+1));d (c,i,f,e,(j++k),q)))))))))) (l (i,f,e,g,0))
def tA(N:Nat)(a:f9->Ro)(x:f9):Ro:=rj N a (λz=>aO N (oj N) z) x
def aar(N:Nat)(a:TS):List (Nat×(TS)):=(cT fP N ri (aaq (run fP N) a)++(cT fP N wi (fin fT)++[]))
theorem atR(N:Nat):∀(a:TS)(x:f9),tz N a (eO x)=tA N (λy=>a (eO y)) x:=by
 intro a x;have b:∀C:Nat->TS,c8 C fP N ri (aaq (c8 C fP N) a) (eO x)=rj N (λy=>a (eO y)) (λz=>C 1000001 (mY z)) x:=by intro C;kernel_rfl
 have h:tz N a (eO x)=rj N (λy=>a (eO y)) (λz=>aZ N (tw N) (mY z)) x:=(eI (C:=gW (aar N a)) (dI (bX (l:=(aar N a)) (by kernel_rfl))) (ij (ew (nC (dI (jY (bX (l:=(aar N a)) (by kernel_rfl)))) rfl))) _).trans ((b _).trans (by kernel_rfl));have c:(λz=>aZ N (tw N) (mY z))=(λz=>aO N (oj N) z):=funext λz=>aU (mY) (tw N) (oj N) (atQ N) N z
 rw[h,c];rfl
def p9(N:Nat)(a:List bi)(b:List PEn)(c d:Bs)(e:f9->Ro):Ro:=e (a,b,c,d,[],0)
def ajq(N:Nat)(a:List bi)(b:List PEn)(c d:Bs):Ro:=p9 N a b c d (λz=>aO N (tA N) z)
theorem avO(N:Nat)(a:List bi)(c:List PEn)(d f:Bs)(h:Tot (ajq N a c d f) (λz=>∃g rest,z.1.dimR=vF .nms g∧z.2=rest∧yd a c d f (g))):∃r,rW a c d f r:=ax1.finP (N:=N) ((bD _ (by kernel_rfl) rfl (λC=>p9 N a c d f (λz=>C 1000000 (eO z))) (λC=>by kernel_rfl)).trans (AB (b:=p9 N a c d f (λz=>aZ N (tz N) (eO z))) (by kernel_rfl) (congrArg (p9 N a c d f) (funext λz=>aU (eO) (tz N) (tA N) (atR N) N z)))) h λ_ ⟨g,_,e,_,q⟩=>⟨(g),e,q⟩
def alg:aG:=tb_ [] [] [] [al9]
def amm:IR:=Sq (Rs [Mv 5 4,Mv 6 0,Ll 7 6,Bi 8 .lss 5 7] (Cn 8 .skip (.exit 0))) (Sq (.block 1 (.reg [Pp (.mov 11 (.tk 3)),Mv 12 0,Mv 13 4,Ix 14 .fil 12 13,Fa 15 1 14,Fa 16 2 15,Fo [] [] (.ld 17 1 false false 16),Mv 18 0,Mv 19 4,Ix 20 .fil 18 19,Fa 21 1 20,Fa 22 3 21,Fo [] [] (.ld 23 1 false false 22),Mv 24 0,Mv 25 4,Ix 26 .fil 24 25,Fa 27 1 26,Fa 28 0 27,Fo [] [] (.ld 29 1 false false 28),Mv 30 0,Mv 31 4,Ix 32 .fil 30 31,Fa 33 0 32,Fo [] [] (.ld 34 1 false false 33),Ca 35 180 [17,23,29,34],Pp (.app 36 .nms (.tk 11) 35),Pp (.mov 3 (.tk 36))] [[],[],[],[1,2],[1,2,3],rg 1 4,rg 1 5,[],[],[7,8],[7,8,9],rg 7 10,rg 7 11,[],[],[13,14],[13,14,15],rg 13 16,rg 13 17,[],[],[19,20],[19,20,21],rg 19 22,rg 1 23,rg 0 24,rg 0 25])) (Rg [Mv 9 4,Bc 10 .add 9 1,Mv 4 10]))
def amn:IR:=Rs [Pp (.mov 37 (.tk 3)),Pp (.mov 2 (.tk 37))] .ret
def asM:IR:=Rs [Pp (.mov 2 (.c (nl .nms)))] (Rs [Pp (.mov 3 (.c (nl .nms)))] (Sq (Rs [Mi 4 0] (.block 0 (.loop [0,3,4,1000000] 0 amm))) amn))
theorem aFy:FnC Tryz.prog alg [] 0 127 Tryz.f127 asM aF:=fnC Tryz.func127
def aDn(R:TR)(a:TS):TE:=(bo a [0,3,4,1000000] 0 (aQ 0 (kseq (R amn) (fin aF))))
abbrev uE:Type:=(List ch×List PNm×Int)
def xE:uE->St:=λ(a,b,c)=>{env:=(vF .fil a::.undef::.undef::vO .nms b::vI c::(U 33 [])),hp:=[]}
def ags(N:Nat):TS->TS:=λa s=>run alg N amm (aDn (run alg N) a) s
def aas(N:Nat)(c:uE->Ro):uE->Ro:=λ(a,d,b)=>let f:=(↑(Aa a):Int);cond (decide (b<f)) (chk (ixl b a) (let g:=(Af a (Ad b) (aI .fil));chk (ixl b a) (let h:=(Af a (Ad b) (aI .fil));chk (ixl b a) (let i:=(Af a (Ad b) (aI .fil));chk (ixl b a) (let j:=(Af a (Ad b) (aI .fil));aA (rW g.msgs h.enums i.pack j.name) (λ(e:List PNm)=>chk (decide ((Aa d+Aa e)*240<=140737488355328)) (let k:=(Ab .i64 (b+1));c (a,(d++e),k)))))))) (some (vO .nms d,[]))
theorem aAJ(N:Nat):LB (ags N) xE (aas N):=λ_ _=>by kernel_rfl
def wS(N:Nat)(a:List ch)(b:uE->Ro):Ro:=b (a,[],0)
def asN(N:Nat)(a:List ch):Ro:=wS N a (λz=>aO N (aas N) z)
theorem aDo(N:Nat)(a:List ch)(h:Tot (asN N a) (λz=>∃c rest,z.1.dimR=vF .nms c∧z.2=rest∧alQ a (c))):∃r,vg a r:=aFy.finP (N:=N) ((bD _ (by kernel_rfl) rfl (λC=>wS N a (λz=>C 1000000 (xE z))) (λC=>by kernel_rfl)).trans (AB (b:=wS N a (λz=>aZ N (ags N) (xE z))) (by kernel_rfl) (congrArg (wS N a) (funext λz=>aU (xE) (ags N) (aas N) (aAJ N) N z)))) h λ_ ⟨c,_,e,_,q⟩=>⟨(c),e,q⟩
def cr:aG:=tb_ [] [] [] [avJ,afy,asH]
def vm:IR:=Sq (Rs [Mv 17 12,Mv 18 0,Ll 19 18,Bi 20 .lss 17 19] (Cn 20 .skip (.exit 0))) (Sq (.block 1 (Rs [Mv 23 0,Mv 24 12,Ix 25 .fil 23 24,Fa 26 0 25,Lo 27 26,Mv 28 1,Bi 29 .eql 27 28] (Cn 29 (Rg [Mv 30 0,Mv 31 12,Ix 32 .fil 30 31,Fa 33 5 32,Lo 34 33,Mv 11 34]) .skip))) (Rg [Mv 21 12,Bc 22 .add 21 1,Mv 12 22]))
def tB:IR:=Sq (Rs [Mv 49 15,Mv 50 13,Ll 51 50,Bi 52 .lss 49 51] (Cn 52 .skip (.exit 4))) (Sq (.block 5 (Rs [Mv 55 13,Mv 56 15,Ix 57 .nms 55 56,Fa 58 0 57,Lo 59 58,Mv 60 14,Bi 61 .eql 59 60,Mv 62 61,Gt 62 (.mov 63 11),Gt 62 (.mov 64 13),Gt 62 (.mov 65 15),Gt 62 (.ixa 66 .nms 64 65),Gt 62 (.fad 67 11 66),Gt 62 (.ld 68 1 false false 67),Gt 62 (.call 69 179 [63,68]),Pa 70 62 69] (Cn 70 (Sq (.reg [Mv 71 14,Mv 72 13,Mv 73 15,Ix 74 .nms 72 73,Fa 75 1 74,Fo [] [] (.ld 76 1 false false 75),Mv 8 71,Mv 9 76,Mi 10 0] [[],[],[],[1,2],[1,2,3],rg 1 4,[0],rg 0 6,rg 0 7]) .ret) .skip))) (Rg [Mv 53 15,Bc 54 .add 53 1,Mv 15 54]))
def ahG:IR:=Sq (Rs [Mv 82 16,Bc 83 .geq 82 0,Mv 84 83,Gt 84 (.mov 85 2),Gt 84 (.mov 86 16),Gt 84 (.idx 87 85 86),Gt 84 (.bin 88 .neq 87 (.c (.int .u8 46))),Pa 89 84 88] (Cn 89 .skip (.exit 6))) (.block 7 (Rg [Mv 90 16,Bc 91 .sub 90 1,Mv 16 91]))
def ahH:IR:=Rg [Mv 92 2,Mv 93 16,Pp (.mx 94 false 93 (kI 0)),Pp (.subs 95 92 none (some 94)),Mv 2 95]
def aat:IR:=Sq (Rs [Mv 77 2,Pp (.bin 78 .eql 77 (kS []))] (Cn 78 (Rs [Ms 8 [],Mi 9 0,Mi 10 4] .ret) .skip)) (Rs [Mv 79 2,Pp (.lens 80 79),Bc 81 .sub 80 1,Mv 16 81] (Sq (.block 6 (.loop [2,3,11,13,16,1000002] 0 ahG)) ahH))
def tC:IR:=.block 3 (Rs [Mv 37 2,Mv 38 3,Ca 39 216 [37,38],Mv 14 39] (Sq (Rs [Mv 40 3,Pp (.bin 41 .neq 40 (kS [])),Mv 42 41,Gt 42 (.mov 43 3),Gt 42 (.idx 44 43 (kI 0)),Gt 42 (.bin 45 .eql 44 (.c (.int .u8 46))),Pa 46 42 45] (Cn 46 (Rg [Mv 47 3,Pp (.subs 48 47 (some (kI 1)) none),Mv 14 48,Ms 2 []]) .skip)) (Sq (Rs [Mi 15 0] (.block 4 (.loop [2,3,11,13,14,15,1000001] 0 tB))) aat)))
def aau:IR:=Rs [Mv 35 0,Ca 36 127 [35],Mv 13 36] (.block 2 (.loop [2,3,11,13,1000003] 0 tC))
def aDp:IR:=Rs [Ms 8 [],Mi 9 0,Mi 10 0] (Rs [Pp (.mov 11 (.c (fu .str false)))] (Sq (Rs [Mi 12 0] (.block 0 (.loop [0,1,2,3,11,12,1000000] 0 vm))) aau))
def aav:List RV:=[.t 8,.t 9,.t 10]
theorem aDq:FnC Tryz.prog cr [] 0 183 Tryz.f183 aDp aav:=fnC Tryz.func183
def aem(R:TR)(a:TS):TE:=(bo a [0,1,2,3,11,12,1000000] 0 (aQ 0 (kseq (R aau) (fin aav))))
abbrev iX:Type:=(List ch×Bs×Bs×Bs×Bss×Int)
def fU:iX->St:=λ(a,b,c,d,e,f)=>{env:=(vF .fil a::vT b::vT c::vT d::(U 7 (vF .str e::vI f::(U 83 [])))),hp:=[]}
def nR(R:TR)(a:TS):TE:=(bo a [2,3,11,13,1000003] 0 (aQ 2 (fin aav)))
abbrev eW:Type:=(Bs×Bs×Bss×List PNm)
def cH:eW->St:=λ(a,b,c,d)=>{env:=(.undef::.undef::vT a::vT b::(U 7 (vF .str c::.undef::vF .nms d::(U 82 [])))),hp:=[]}
def aen(R:TR)(a b:TS):TE:=(bo b [2,3,11,13,14,15,1000001] 0 (aQ 4 (kseq (R aat) (aQ 3 (nR R a)))))
abbrev iY:Type:=(Bs×Bs×Bss×List PNm×Bs×Int)
def fc:iY->St:=λ(a,b,c,d,e,f)=>{env:=(.undef::.undef::vT a::vT b::(U 7 (vF .str c::.undef::vF .nms d::vT e::vI f::(U 80 [])))),hp:=[]}
def aAK(R:TR)(a b:TS):TE:=(bo b [2,3,11,13,16,1000002] 0 (aQ 6 (kseq (R ahH) (aQ 3 (nR R a)))))
abbrev sb:Type:=(Bs×Bs×Bss×List PNm×Int)
def qa:sb->St:=λ(a,b,c,d,e)=>{env:=(.undef::.undef::vT a::vT b::(U 7 (vF .str c::.undef::vF .nms d::.undef::.undef::vI e::(U 79 [])))),hp:=[]}
def xF(N:Nat)(a:TS):TS->TS:=λb s=>run cr N ahG (aAK (run cr N) a b) s
def sd(N:Nat)(b:eW->Ro)(c:sb->Ro):sb->Ro:=λ(d,i,e,f,a)=>cond (decide (0<=a)) (chk (ixl a d) (let j:=(↑(AW (Af d (Ad a) 0)):Int);cond (!(j==46)) (let k:=(Ab .i64 (a-1));c (d,i,e,f,k)) (let g:=(if a<0 then 0 else a);chk (decide (0<=g)&&decide (g<=(↑(Aa d):Int))) (let l:=(An 0 (Ao (Ad g) d));b (l,i,e,f))))) (let h:=(if a<0 then 0 else a);chk (decide (0<=h)&&decide (h<=(↑(Aa d):Int))) (let m:=(An 0 (Ao (Ad h) d));b (m,i,e,f)))
theorem ax2(N:Nat)(a:TS):LB (xF N a) qa (sd N (λy=>a (cH y))):=λ_ _=>by kernel_rfl
def sf(N:Nat)(a:TS):TS->TS:=λb s=>run cr N tB (aen (run cr N) a b) s
def vn(N:Nat)(g:eW->Ro)(c:iY->Ro)(q:sb->Ro):iY->Ro:=λ(f,h,d,a,e,b)=>let r:=(↑(Aa a):Int);cond (decide (b<r)) (chk (ixl b a) (let i:=(Af a (Ad b) (aI .nms));cond (decide (i.name=e)) (chk (ixl b a) (let j:=(Af a (Ad b) (aI .nms));aA (eL d j.file) (λ(s:Bool)=>cond s (chk (ixl b a) (let k:=(Af a (Ad b) (aI .nms));some (.tup [vT e,vI k.kind,vI 0],[]))) (let l:=(Ab .i64 (b+1));c (f,h,d,a,e,l))))) (let m:=(Ab .i64 (b+1));c (f,h,d,a,e,m)))) (let n:=decide (f=[]);cond n (some (.tup [vT [],vI 0,vI 4],[])) (let o:=(↑(Aa f):Int);let p:=(Ab .i64 (o-1));q (f,h,d,a,p)))
def nS(N:Nat)(a:eW->Ro)(b:iY->Ro)(x:iY):Ro:=vn N a b (λz=>aO N (sd N a) z) x
def aeo(N:Nat)(a b:TS):List (Nat×(TS)):=(cT cr N tB (aen (run cr N) a b)++(cT cr N aat (aQ 3 (nR (run cr N) a))++[]))
theorem ax3(N:Nat)(a:TS):∀(b:TS)(x:iY),sf N a b (fc x)=nS N (λy=>a (cH y)) (λy=>b (fc y)) x:=by
 intro b x;have d:∀C:Nat->TS,c8 C cr N tB (aen (c8 C cr N) a b) (fc x)=vn N (λy=>a (cH y)) (λy=>b (fc y)) (λz=>C 1000002 (qa z)) x:=by intro C;kernel_rfl
 have h:sf N a b (fc x)=vn N (λy=>a (cH y)) (λy=>b (fc y)) (λz=>aZ N (xF N a) (qa z)) x:=(eI (C:=gW (aeo N a b)) (dI (bX (l:=(aeo N a b)) (by kernel_rfl))) (ij (ew (nC (dI (jY (bX (l:=(aeo N a b)) (by kernel_rfl)))) (ew (ij (ew rfl)))))) _).trans ((d _).trans (by kernel_rfl));have c:(λz=>aZ N (xF N a) (qa z))=(λz=>aO N (sd N (λy=>a (cH y))) z):=funext λz=>aU (qa) (xF N a) (sd N (λy=>a (cH y))) (ax2 N a) N z
 rw[h,c];rfl
def sg(N:Nat):TS->TS:=λa s=>run cr N tC (nR (run cr N) a) s
def vo(N:Nat)(d:eW->Ro)(e:iY->Ro):eW->Ro:=λ(f,a,b,c)=>aA (o8 f a) (λ(g:Bs)=>let h:=(!decide (a=[]));cond h (chk (decide ((0:Int)<↑(Aa a))) (let i:=(↑(AW (Af a (Ad 0) 0)):Int);cond (i==46) (chk (decide (0<=1)&&decide (1<=(↑(Aa a):Int))) (let j:=(An (Ad 1) (Ao (Aa a) a));e ([],a,b,c,j,0))) (e (f,a,b,c,g,0)))) (e (f,a,b,c,g,0)))
def nT(N:Nat)(a:eW->Ro)(x:eW):Ro:=vo N a (λz=>aO N (nS N a) z) x
def amo(N:Nat)(a:TS):List (Nat×(TS)):=(cT cr N tC (nR (run cr N) a)++[])
theorem ax4(N:Nat):∀(a:TS)(x:eW),sg N a (cH x)=nT N (λy=>a (cH y)) x:=by
 intro a x;have c:∀C:Nat->TS,c8 C cr N tC (nR (c8 C cr N) a) (cH x)=vo N (λy=>a (cH y)) (λz=>C 1000001 (fc z)) x:=by intro C;kernel_rfl
 have h:sg N a (cH x)=vo N (λy=>a (cH y)) (λz=>aZ N (sf N a) (fc z)) x:=(eI (C:=gW (amo N a)) (dI (bX (l:=(amo N a)) (by kernel_rfl))) (ij (ew rfl)) _).trans ((c _).trans (by kernel_rfl));have b:(λz=>aZ N (sf N a) (fc z))=(λz=>aO N (nS N (λy=>a (cH y))) z):=funext λz=>aU (fc) (sf N a) (nS N (λy=>a (cH y))) (ax3 N a) N z
 rw[h,b];rfl
def xG(N:Nat):TS->TS:=λa s=>run cr N vm (aem (run cr N) a) s
def vp(N:Nat)(b:iX->Ro)(h:eW->Ro):iX->Ro:=λ(c,e,f,g,d,a)=>let i:=(↑(Aa c):Int);cond (decide (a<i)) (chk (ixl a c) (let j:=(Af c (Ad a) (aI .fil));cond (decide (j.name=e)) (chk (ixl a c) (let k:=(Af c (Ad a) (aI .fil));let l:=(Ab .i64 (a+1));b (c,e,f,g,k.sees,l))) (let m:=(Ab .i64 (a+1));b (c,e,f,g,d,m)))) (aA (vg c) (λ(n:List PNm)=>h (f,g,d,n)))
def xH(N:Nat)(a:iX->Ro)(x:iX):Ro:=vp N a (λz=>aO N (nT N) z) x
def aep(N:Nat)(a:TS):List (Nat×(TS)):=(cT cr N vm (aem (run cr N) a)++(cT cr N aau (fin aav)++[]))
theorem ax5(N:Nat):∀(a:TS)(x:iX),xG N a (fU x)=xH N (λy=>a (fU y)) x:=by
 intro a x;have b:∀C:Nat->TS,c8 C cr N vm (aem (c8 C cr N) a) (fU x)=vp N (λy=>a (fU y)) (λz=>C 1000003 (cH z)) x:=by intro C;kernel_rfl
 have h:xG N a (fU x)=vp N (λy=>a (fU y)) (λz=>aZ N (sg N) (cH z)) x:=(eI (C:=gW (aep N a)) (dI (bX (l:=(aep N a)) (by kernel_rfl))) (ij (ew (nC (dI (jY (bX (l:=(aep N a)) (by kernel_rfl)))) rfl))) _).trans ((b _).trans (by kernel_rfl));have c:(λz=>aZ N (sg N) (cH z))=(λz=>aO N (nT N) z):=funext λz=>aU (cH) (sg N) (nT N) (ax4 N) N z
 rw[h,c];rfl
def uF(N:Nat)(a:List ch)(b c d:Bs)(e:iX->Ro):Ro:=e (a,b,c,d,[],0)
def ape(N:Nat)(a:List ch)(b c d:Bs):Ro:=uF N a b c d (λz=>aO N (xH N) z)
theorem aAL(N:Nat)(a:List ch)(c d f:Bs)(h:Tot (ape N a c d f) (λz=>∃g i j rest,z.1.dimR=.tup [vT g,vI i,vI j]∧z.2=rest∧ab8 a c d f (g,i,j))):∃r,ac0 a c d f r:=aDq.finP (N:=N) ((bD _ (by kernel_rfl) rfl (λC=>uF N a c d f (λz=>C 1000000 (fU z))) (λC=>by kernel_rfl)).trans (AB (b:=uF N a c d f (λz=>aZ N (xG N) (fU z))) (by kernel_rfl) (congrArg (uF N a c d f) (funext λz=>aU (fU) (xG N) (xH N) (ax5 N) N z)))) h λ_ ⟨g,i,j,_,e,_,q⟩=>⟨(g,i,j),e,q⟩
def acl:aG:=tb_ [] [] [] []
def aeQ:IR:=Sq (Sq (.reg [Mv 6 5,Mv 7 0,Ll 8 7,Bi 9 .lss 6 8,Mv 10 9,Gt 10 (.mov 11 0),Gt 10 (.mov 12 5),Gt 10 (.ixa 13 .pen 11 12),Gt 10 (.fad 14 0 13),⟨some (10,true),.ld 15 1 false false 14,some ([],[])⟩,Gt 10 (.fad 16 0 3),Gt 10 (.lde 17 1 false 16),Gt 10 (.bin 18 .lss 15 17),Pa 19 10 18] [[],[],[1],[0,1,2],rg 0 3,rg 0 4,rg 0 4,rg 0 6,rg 0 7,rg 0 8,rg 0 4,rg 0 4++[10],rg 0 11,rg 0 12]) (Cn 19 .skip (.exit 0))) (.block 1 (Rg [Mv 20 5,Bc 21 .add 20 1,Mv 5 21]))
def aeR:IR:=Sq (.reg [Pp (.bsl 22 .pen [] false),Mv 23 0,Mv 24 5,Pp (.subl 25 .pen 23 none (some 24)),Pp (.app 26 .pen (.tk 22) 25),Ld 27 2 true 3,Pp (.bsl 28 .pen [27] true),Pp (.app 29 .pen (.tk 26) 28),Mv 30 0,Mv 31 5,Pp (.subl 32 .pen 30 (some 31) none),Pp (.app 33 .pen (.tk 29) 32),Pp (.mov 4 (.tk 33))] [[],[],[],[1,2],rg 0 3,[],[5],rg 0 6,[],[],[8,9],rg 0 10,rg 0 11]) .ret
def avP:IR:=Rs [Bx 3 1,Pp (.mov 4 (.c (nl .pen)))] (Rs [Mi 5 0] (Sq (.block 0 (.loop [0,3,5,1000000] 0 aeQ)) aeR))
theorem avQ:FnC Tryz.prog acl [] 0 129 Tryz.f129 avP aR:=fnC Tryz.func129
def atS(R:TR)(a:TS):TE:=(bo a [0,3,5,1000000] 0 (aQ 0 (kseq (R aeR) (fin aR))))
abbrev mZ:Type:=(List PEn×PEn×Int)
def pC:mZ->St:=λ(a,b,c)=>{env:=(vF .pen a::.undef::.undef::.ea (enc .pen b)::.undef::vI c::(U 28 [])),hp:=[]}
def yi(N:Nat):TS->TS:=λa s=>run acl N aeQ (atS (run acl N) a) s
def rk(N:Nat)(c:mZ->Ro):mZ->Ro:=λ(b,d,a)=>let k:=(↑(Aa b):Int);cond (decide (a<k)) (chk (ixl a b) (let l:=(Af b (Ad a) (aI .pen));let m:=(A2 l.name d.name);cond m (let n:=(Ab .i64 (a+1));c (b,d,n)) (chk (decide (0<=a)&&decide (a<=(↑(Aa b):Int))) (let f:=(An 0 (Ao (Ad a) b));chk (decide ((Aa ([]:List PEn)+Aa f)*40<=140737488355328)) (chk (decide ((Aa ([]++f)+Aa ([d]:List PEn))*40<=140737488355328)) (let h:=(([]++f)++([d]:List PEn));chk (decide (0<=a)&&decide (a<=(↑(Aa b):Int))) (let i:=(An (Ad a) (Ao (Aa b) b));chk (decide ((Aa h+Aa i)*40<=140737488355328)) (some (vO .pen (h++i),[]))))))))) (chk (decide (0<=a)&&decide (a<=(↑(Aa b):Int))) (let g:=(An 0 (Ao (Ad a) b));chk (decide ((Aa ([]:List PEn)+Aa g)*40<=140737488355328)) (chk (decide ((Aa ([]++g)+Aa ([d]:List PEn))*40<=140737488355328)) (let j:=(([]++g)++([d]:List PEn));chk (decide (0<=a)&&decide (a<=(↑(Aa b):Int))) (let e:=(An (Ad a) (Ao (Aa b) b));chk (decide ((Aa j+Aa e)*40<=140737488355328)) (some (vO .pen (j++e),[])))))))
theorem arz(N:Nat):LB (yi N) pC (rk N):=λ_ _=>by kernel_rfl
def ol(N:Nat)(a:List PEn)(b:PEn)(c:mZ->Ro):Ro:=c (a,b,0)
def ahI(N:Nat)(a:List PEn)(b:PEn):Ro:=ol N a b (λz=>aO N (rk N) z)
theorem atT(N:Nat)(a:List PEn)(c:PEn)(h:Tot (ahI N a c) (λz=>∃d rest,z.1.dimR=vF .pen d∧z.2=rest∧aeF a c (d))):∃r,vh a c r:=avQ.finP (N:=N) ((bD _ (by kernel_rfl) rfl (λC=>ol N a c (λz=>C 1000000 (pC z))) (λC=>by kernel_rfl)).trans (AB (b:=ol N a c (λz=>aZ N (yi N) (pC z))) (by kernel_rfl) (congrArg (ol N a c) (funext λz=>aU (pC) (yi N) (rk N) (arz N) N z)))) h λ_ ⟨d,_,e,_,q⟩=>⟨(d),e,q⟩
def wj:aG:=tb_ [] [] [] []
def aaw:IR:=Sq (Sq (.reg [Mv 6 5,Mv 7 0,Ll 8 7,Bi 9 .lss 6 8,Mv 10 9,Gt 10 (.mov 11 0),Gt 10 (.mov 12 5),Gt 10 (.ixa 13 .pms 11 12),Gt 10 (.fad 14 0 13),⟨some (10,true),.ld 15 1 false false 14,some ([],[])⟩,Gt 10 (.fad 16 0 3),Gt 10 (.lde 17 1 false 16),Gt 10 (.bin 18 .lss 15 17),Pa 19 10 18] [[],[],[1],[0,1,2],rg 0 3,rg 0 4,rg 0 4,rg 0 6,rg 0 7,rg 0 8,rg 0 4,rg 0 4++[10],rg 0 11,rg 0 12]) (Cn 19 .skip (.exit 0))) (.block 1 (Rg [Mv 20 5,Bc 21 .add 20 1,Mv 5 21]))
def aax:IR:=Sq (.reg [Pp (.bsl 22 .pms [] false),Mv 23 0,Mv 24 5,Pp (.subl 25 .pms 23 none (some 24)),Pp (.app 26 .pms (.tk 22) 25),Ld 27 3 true 3,Pp (.bsl 28 .pms [27] true),Pp (.app 29 .pms (.tk 26) 28),Mv 30 0,Mv 31 5,Pp (.subl 32 .pms 30 (some 31) none),Pp (.app 33 .pms (.tk 29) 32),Pp (.mov 4 (.tk 33))] [[],[],[],[1,2],rg 0 3,[],[5],rg 0 6,[],[],[8,9],rg 0 10,rg 0 11]) .ret
def adD:IR:=Rs [Bx 3 1,Pp (.mov 4 (.c (nl .pms)))] (Rs [Mi 5 0] (Sq (.block 0 (.loop [0,3,5,1000000] 0 aaw)) aax))
theorem apf:FnC Tryz.prog wj [] 0 131 Tryz.f131 adD aR:=fnC Tryz.func131
def anj(R:TR)(a:TS):TE:=(bo a [0,3,5,1000000] 0 (aQ 0 (kseq (R aax) (fin aR))))
abbrev jr:Type:=(List PMs×PMs×Int)
def mf:jr->St:=λ(a,b,c)=>{env:=(vF .pms a::.undef::.undef::.ea (enc .pms b)::.undef::vI c::(U 28 [])),hp:=[]}
def s8(N:Nat):TS->TS:=λa s=>run wj N aaw (anj (run wj N) a) s
def nH(N:Nat)(c:jr->Ro):jr->Ro:=λ(b,d,a)=>let k:=(↑(Aa b):Int);cond (decide (a<k)) (chk (ixl a b) (let l:=(Af b (Ad a) (aI .pms));let m:=(A2 l.name d.name);cond m (let n:=(Ab .i64 (a+1));c (b,d,n)) (chk (decide (0<=a)&&decide (a<=(↑(Aa b):Int))) (let f:=(An 0 (Ao (Ad a) b));chk (decide ((Aa ([]:List PMs)+Aa f)*64<=140737488355328)) (chk (decide ((Aa ([]++f)+Aa ([d]:List PMs))*64<=140737488355328)) (let h:=(([]++f)++([d]:List PMs));chk (decide (0<=a)&&decide (a<=(↑(Aa b):Int))) (let i:=(An (Ad a) (Ao (Aa b) b));chk (decide ((Aa h+Aa i)*64<=140737488355328)) (some (vO .pms (h++i),[]))))))))) (chk (decide (0<=a)&&decide (a<=(↑(Aa b):Int))) (let g:=(An 0 (Ao (Ad a) b));chk (decide ((Aa ([]:List PMs)+Aa g)*64<=140737488355328)) (chk (decide ((Aa ([]++g)+Aa ([d]:List PMs))*64<=140737488355328)) (let j:=(([]++g)++([d]:List PMs));chk (decide (0<=a)&&decide (a<=(↑(Aa b):Int))) (let e:=(An (Ad a) (Ao (Aa b) b));chk (decide ((Aa j+Aa e)*64<=140737488355328)) (some (vO .pms (j++e),[])))))))
theorem alh(N:Nat):LB (s8 N) mf (nH N):=λ_ _=>by kernel_rfl
def kA(N:Nat)(a:List PMs)(b:PMs)(c:jr->Ro):Ro:=c (a,b,0)
def adE(N:Nat)(a:List PMs)(b:PMs):Ro:=kA N a b (λz=>aO N (nH N) z)
theorem ank(N:Nat)(a:List PMs)(c:PMs)(h:Tot (adE N a c) (λz=>∃d rest,z.1.dimR=vF .pms d∧z.2=rest∧zL a c (d))):∃r,px a c r:=apf.finP (N:=N) ((bD _ (by kernel_rfl) rfl (λC=>kA N a c (λz=>C 1000000 (mf z))) (λC=>by kernel_rfl)).trans (AB (b:=kA N a c (λz=>aZ N (s8 N) (mf z))) (by kernel_rfl) (congrArg (kA N a c) (funext λz=>aU (mf) (s8 N) (nH N) (alh N) N z)))) h λ_ ⟨d,_,e,_,q⟩=>⟨(d),e,q⟩
def hZ:aG:=tb_ [] [] [] []
def ajr:IR:=Sq (Rs [Mv 24 4,Mv 25 3,Bi 26 .lss 24 25] (Cn 26 .skip (.exit 2))) (Sq (.block 3 (Sq (.reg [Fa 29 1 1,Lq 30 29,Mv 31 4,Ix 32 .pvl 30 31,Fa 33 0 32,Fo [] [] (.ld 34 1 false false 33),Fa 35 1 1,Lq 36 35,Mv 37 3,Ix 38 .pvl 36 37,Fa 39 0 38,Fo [] [] (.ld 40 1 false false 39),Bi 41 .eql 34 40,Mv 42 41,Gf 42 (.fad 43 1 1),Gf 42 (.lde 44 1 false 43),Gf 42 (.mov 45 4),Gf 42 (.ixa 46 .pvl 44 45),Gf 42 (.fad 47 1 46),⟨some (42,false),.ld 48 1 false false 47,some ([],[])⟩,Gf 42 (.fad 49 1 1),Gf 42 (.lde 50 1 false 49),Gf 42 (.mov 51 3),Gf 42 (.ixa 52 .pvl 50 51),Gf 42 (.fad 53 1 52),⟨some (42,false),.ld 54 1 false false 53,some ([],[])⟩,Gf 42 (.bin 55 .eql 48 54),Po 56 42 55] [[],[0],[],[0,1,2],rg 0 3,rg 0 4,[],[6],[],[6,7,8],rg 6 9,rg 6 10,rg 0 11,rg 0 12,rg 0 13,rg 0 14,rg 0 13,rg 0 16,rg 0 17,rg 0 18,rg 0 13,rg 0 13++[20],rg 0 13,rg 0 13++[20,21,22],rg 0 13++rg 20 23,rg 0 13++rg 20 24,rg 0 25,rg 0 26]) (Cn 56 (Rs [Mi 2 5] .ret) .skip))) (Rg [Mv 27 4,Bc 28 .add 27 1,Mv 4 28]))
def ahJ:IR:=Rg [Mv 22 3,Bc 23 .add 22 1,Mv 3 23]
def tD:IR:=Sq (Rs [Mv 17 3,Fa 18 1 1,Lq 19 18,Ll 20 19,Bi 21 .lss 17 20] (Cn 21 .skip (.exit 0))) (Sq (.block 1 (Rs [Mi 4 0] (.block 2 (.loop [1,3,4,1000000] 0 ajr)))) ahJ)
def aay:IR:=Rs [Mi 2 0] .ret
def aDr:IR:=Rs [Bx 1 0,Mi 2 0] (Sq (Rs [Fa 5 1 1,Lq 6 5,Ll 7 6,Bc 8 .eql 7 0,Mv 9 8,Gf 9 (.fad 10 1 1),Gf 9 (.lde 11 1 false 10),Gf 9 (.ixa 12 .pvl 11 (kI 0)),Gf 9 (.fad 13 1 12),Gf 9 (.ld 14 1 false false 13),Gf 9 (.bin 15 .neq 14 (kI 0)),Po 16 9 15] (Cn 16 (Rs [Mi 2 6] .ret) .skip)) (Sq (Rs [Mi 3 0] (.block 0 (.loop [1,3,1000001] 0 tD))) aay))
theorem aDs:FnC Tryz.prog hZ [] 0 128 Tryz.f128 aDr aF:=fnC Tryz.func128
def xI(R:TR)(a:TS):TE:=(bo a [1,3,1000001] 0 (aQ 0 (kseq (R aay) (fin aF))))
abbrev gk:Type:=(PEn×Int)
def dQ:gk->St:=λ(a,b)=>{env:=(.undef::.ea (enc .pen a)::.undef::vI b::(U 53 [])),hp:=[]}
def aAM(R:TR)(a b:TS):TE:=(bo b [1,3,4,1000000] 0 (aQ 2 (aQ 1 (kseq (R ahJ) (xI R a)))))
abbrev sh:Type:=(PEn×Int×Int)
def qb:sh->St:=λ(a,b,c)=>{env:=(.undef::.ea (enc .pen a)::.undef::vI b::vI c::(U 52 [])),hp:=[]}
def xJ(N:Nat)(a:TS):TS->TS:=λb s=>run hZ N ajr (aAM (run hZ N) a b) s
def si(N:Nat)(b:gk->Ro)(c:sh->Ro):sh->Ro:=λ(a,d,e)=>cond (decide (e<d)) (chk (ixl e a.values) (let g:=(Af a.values (Ad e) (aI .pvl));chk (ixl d a.values) (let h:=(Af a.values (Ad d) (aI .pvl));let i:=decide (g.name=h.name);cond i (some (vI 5,[])) (chk (ixl e a.values) (let j:=(Af a.values (Ad e) (aI .pvl));chk (ixl d a.values) (let k:=(Af a.values (Ad d) (aI .pvl));cond (j.n==k.n) (some (vI 5,[])) (let l:=(Ab .i64 (e+1));c (a,d,l)))))))) (let f:=(Ab .i64 (d+1));b (a,f))
theorem ax6(N:Nat)(a:TS):LB (xJ N a) qb (si N (λy=>a (dQ y))):=λ_ _=>by kernel_rfl
def xK(N:Nat):TS->TS:=λa s=>run hZ N tD (xI (run hZ N) a) s
def vq(N:Nat)(a:gk->Ro)(d:sh->Ro):gk->Ro:=λ(b,c)=>let e:=(↑(Aa b.values):Int);cond (decide (c<e)) (d (b,c,0)) (some (vI 0,[]))
def xL(N:Nat)(a:gk->Ro)(x:gk):Ro:=vq N a (λz=>aO N (si N a) z) x
def aeq(N:Nat)(a:TS):List (Nat×(TS)):=(cT hZ N tD (xI (run hZ N) a)++(cT hZ N aay (fin aF)++[]))
theorem ax7(N:Nat):∀(a:TS)(x:gk),xK N a (dQ x)=xL N (λy=>a (dQ y)) x:=by
 intro a x;have b:∀C:Nat->TS,c8 C hZ N tD (xI (c8 C hZ N) a) (dQ x)=vq N (λy=>a (dQ y)) (λz=>C 1000000 (qb z)) x:=by intro C;kernel_rfl
 have h:xK N a (dQ x)=vq N (λy=>a (dQ y)) (λz=>aZ N (xJ N a) (qb z)) x:=(eI (C:=gW (aeq N a)) (dI (bX (l:=(aeq N a)) (by kernel_rfl))) (ij (ew (nC (dI (jY (bX (l:=(aeq N a)) (by kernel_rfl)))) rfl))) _).trans ((b _).trans (by kernel_rfl));have c:(λz=>aZ N (xJ N a) (qb z))=(λz=>aO N (si N (λy=>a (dQ y))) z):=funext λz=>aU (qb) (xJ N a) (si N (λy=>a (dQ y))) (ax6 N a) N z
 rw[h,c];rfl
def uG(N:Nat)(a:PEn)(b:gk->Ro):Ro:=let c:=(↑(Aa a.values):Int);cond (c==0) (some (vI 6,[])) (chk (decide ((0:Int)<↑(Aa a.values))) (let d:=(Af a.values (Ad 0) (aI .pvl));cond (!(d.n==0)) (some (vI 6,[])) (b (a,0))))
def apg(N:Nat)(a:PEn):Ro:=uG N a (λz=>aO N (xL N) z)
theorem aAN(N:Nat)(a:PEn)(h:Tot (apg N a) (λz=>∃c rest,z.1.dimR=vI c∧z.2=rest)):∃r,acY a r:=aDs.finP0 (N:=N) ((bD _ (by kernel_rfl) rfl (λC=>uG N a (λz=>C 1000001 (dQ z))) (λC=>by kernel_rfl)).trans (AB (b:=uG N a (λz=>aZ N (xK N) (dQ z))) (by kernel_rfl) (congrArg (uG N a) (funext λz=>aU (dQ) (xK N) (xL N) (ax7 N) N z)))) h λ_ ⟨c,_,e,_⟩=>⟨(c),e⟩
def ali:aG:=tb_ [] [] [] [afy]
def amp:IR:=Sq (Rs [Mv 31 5,Fa 32 5 2,Lq 33 32,Ll 34 33,Bi 35 .lss 31 34] (Cn 35 .skip (.exit 0))) (Sq (.block 1 (Sq (.reg [Fa 38 4 3,Lq 39 38,Fa 40 5 2,Lq 41 40,Mv 42 5,Ix 43 .u2 41 42,Pp (.ixe 44 2 (.t 43) (.c (.int .i64 0))),Fo [] [] (.ld 45 1 false false 44),Bi 46 .geq 39 45,Mv 47 46,Gt 47 (.fad 48 4 3),Gt 47 (.lde 49 1 false 48),Gt 47 (.fad 50 5 2),Gt 47 (.lde 51 1 false 50),Gt 47 (.mov 52 5),Gt 47 (.ixa 53 .u2 51 52),Gt 47 (.ixe 54 2 (.t 53) (.c (.int .i64 1))),⟨some (47,true),.ld 55 1 false false 54,some ([],[])⟩,Gt 47 (.bin 56 .leq 49 55),Pa 57 47 56] [[],[0],[],[2],[],[2,3,4],rg 2 5,rg 2 6,rg 0 7,rg 0 8,rg 0 9,rg 0 10,rg 0 9,rg 0 9++[12],rg 0 9,rg 0 9++[12,13,14],rg 0 9++rg 12 15,rg 0 9++rg 12 16,rg 0 17,rg 0 18]) (Cn 57 (Rs [Mb 4 true] .ret) .skip))) (Rg [Mv 36 5,Bc 37 .add 36 1,Mv 5 37]))
def ajs:IR:=Rs [Mb 4 false] .ret
def asO:IR:=Rs [Bx 2 0,Bx 3 1,Mb 4 false] (Sq (Rs [Fa 6 4 3,Lq 7 6,Pp (.bin 8 .lss 7 (kU 1)),Mv 9 8,Gf 9 (.fad 10 4 3),Gf 9 (.lde 11 1 false 10),Gf 9 (.bin 12 .gtr 11 (kU 536870911)),Po 13 9 12,Mv 14 13,Gf 14 (.fad 15 4 3),Gf 14 (.lde 16 1 false 15),Gf 14 (.bin 17 .geq 16 (kU 19000)),Gf 14 (.mov 18 17),Gt 18 (.fad 19 4 3),Gt 18 (.lde 20 1 false 19),Gt 18 (.bin 21 .leq 20 (kU 19999)),Gf 14 (.pick 22 18 21 (kB false)),Po 23 14 22,Mv 24 23,Gf 24 (.fad 25 6 2),Gf 24 (.lde 26 1 false 25),Gf 24 (.fad 27 3 3),Gf 24 (.lde 28 1 false 27),Gf 24 (.call 29 179 [26,28]),Po 30 24 29] (Cn 30 (Rs [Mb 4 true] .ret) .skip)) (Sq (Rs [Mi 5 0] (.block 0 (.loop [2,3,5,1000000] 0 amp))) ajs))
theorem aFz:FnC Tryz.prog ali [] 0 181 Tryz.f181 asO aR:=fnC Tryz.func181
def aDt(R:TR)(a:TS):TE:=(bo a [2,3,5,1000000] 0 (aQ 0 (kseq (R ajs) (fin aR))))
abbrev uH:Type:=(bi×bM×Int)
def xM:uH->St:=λ(a,b,c)=>{env:=(.undef::.undef::.ea (enc .fmsg a)::.ea (enc .ffld b)::.undef::vI c::(U 52 [])),hp:=[]}
def agt(N:Nat):TS->TS:=λa s=>run ali N amp (aDt (run ali N) a) s
def qc(N:Nat)(a:uH->Ro):uH->Ro:=λ(b,d,c)=>let e:=(↑(Aa b.nums):Int);cond (decide (c<e)) (chk (ixl c b.nums) (let f:=(Af b.nums (Ad c) (aI .u2));chk (decide (0<=(0:Int))&&decide ((0:Int)<2)) (cond (decide (f.1<=d.num)) (chk (ixl c b.nums) (let g:=(Af b.nums (Ad c) (aI .u2));chk (decide (0<=(1:Int))&&decide ((1:Int)<2)) (cond (decide (d.num<=g.2)) (some (vB true,[])) (let h:=(Ab .i64 (c+1));a (b,d,h))))) (let i:=(Ab .i64 (c+1));a (b,d,i))))) (some (vB false,[]))
theorem aAO(N:Nat):LB (agt N) xM (qc N):=λ_ _=>by kernel_rfl
def wT(N:Nat)(b:bi)(a:bM)(c:uH->Ro):Ro:=cond (decide (a.num<1)) (some (vB true,[])) (let d:=decide (536870911<a.num);cond d (some (vB true,[])) (cond (decide (19000<=a.num)) (cond (decide (a.num<=19999)) (some (vB true,[])) (aA (eL b.names a.name) (λ(e:Bool)=>cond e (some (vB true,[])) (c (b,a,0))))) (aA (eL b.names a.name) (λ(f:Bool)=>cond f (some (vB true,[])) (c (b,a,0))))))
def asP(N:Nat)(a:bi)(b:bM):Ro:=wT N a b (λz=>aO N (qc N) z)
theorem aDu(N:Nat)(a:bi)(c:bM)(h:Tot (asP N a c) (λz=>∃d rest,z.1.dimR=vB d∧z.2=rest∧alS a c (d))):∃r,afz a c r:=aFz.finP (N:=N) ((bD _ (by kernel_rfl) rfl (λC=>wT N a c (λz=>C 1000000 (xM z))) (λC=>by kernel_rfl)).trans (AB (b:=wT N a c (λz=>aZ N (agt N) (xM z))) (by kernel_rfl) (congrArg (wT N a c) (funext λz=>aU (xM) (agt N) (qc N) (aAO N) N z)))) h λ_ ⟨d,_,e,_,q⟩=>⟨(d),e,q⟩
def bz:aG:=tb_ [] [] [] [wH,afy,aHr,asG,aFs]
def pD:IR:=Sq (Rs [Mv 43 9,Mv 44 7,Bi 45 .lss 43 44] (Cn 45 .skip (.exit 2))) (Sq (.block 3 (Sq (.reg [Fa 48 2 3,Fa 49 1 48,Lq 50 49,Mv 51 9,Ix 52 .ffld 50 51,Fa 53 4 52,Fo [] [] (.ld 54 1 false false 53),Fa 55 4 8,Lq 56 55,Bi 57 .eql 54 56,Mv 58 57,Gf 58 (.fad 59 2 3),Gf 58 (.fad 60 1 59),Gf 58 (.lde 61 1 false 60),Gf 58 (.mov 62 9),Gf 58 (.ixa 63 .ffld 61 62),Gf 58 (.fad 64 3 63),⟨some (58,false),.ld 65 1 false false 64,some ([],[])⟩,Gf 58 (.fad 66 3 8),Gf 58 (.lde 67 1 false 66),Gf 58 (.bin 68 .eql 65 67),Po 69 58 68] [[],[0],[0,1],[],rg 0 3,rg 0 4,rg 0 5,[],[7],rg 0 8,rg 0 9,rg 0 10,rg 0 11,rg 0 12,rg 0 10,rg 0 14,rg 0 15,rg 0 16,rg 0 10,rg 0 10++[18],rg 0 19,rg 0 20]) (Cn 69 (Rs [Pp (.ld 70 3 true false 6),Sv 3 4 70,Mi 5 5] .ret) .skip))) (Rg [Mv 46 9,Bc 47 .add 46 1,Mv 9 47]))
def adF:IR:=Sq (Sq (.reg [Mv 146 15,Fa 147 1 6,Fo [1] [] (.ld 148 1 false false 147),Ll 149 148,Bi 150 .lss 146 149,Mv 151 150,Gt 151 (.fad 152 1 6),⟨some (151,true),.ld 153 1 false false 152,some ([1],[])⟩,Gt 151 (.mov 154 15),Gt 151 (.ixa 155 .pfl 153 154),Gt 151 (.fad 156 0 155),⟨some (151,true),.ld 157 1 false false 156,some ([],[])⟩,Gt 151 (.fad 158 0 10),⟨some (151,true),.ld 159 1 false false 158,some ([2],[])⟩,Gt 151 (.bin 160 .lss 157 159),Pa 161 151 160] [[],[],[1],[1,2],rg 0 3,rg 0 4,rg 0 5,rg 0 6,rg 0 5,rg 0 8,rg 0 9,rg 0 10,rg 0 5,rg 0 5++[12],rg 0 13,rg 0 14]) (Cn 161 .skip (.exit 4))) (.block 5 (Rg [Mv 162 15,Bc 163 .add 162 1,Mv 15 163]))
def adG:IR:=.reg [Pp (.bsl 164 .pfl [] false),Fa 165 1 6,Fo [1] [] (.ld 166 1 false false 165),Mv 167 15,Pp (.subl 168 .pfl 166 none (some 167)),Pp (.app 169 .pfl (.tk 164) 168),Fo [2] [] (.ld 170 8 true false 10),Pp (.bsl 171 .pfl [170] true),Pp (.app 172 .pfl (.tk 169) 171),Fa 173 1 6,Fo [1] [] (.ld 174 1 false false 173),Mv 175 15,Pp (.subl 176 .pfl 174 (some 175) none),Pp (.app 177 .pfl (.tk 172) 176),Fa 178 1 6,Fo [] [1] (.st none 1 178 (.tk 177))] [[],[],[1],[],[1,2,3],rg 0 4,[],[6],rg 0 7,[],[9],[],[9,10,11],rg 0 12,rg 0 13,rg 0 14]
def uI:IR:=Sq (Rs [Fa 71 2 3,Fa 72 2 71,Lq 73 72,Fa 74 3 8,Lq 75 74,Ca 76 179 [73,75]] (Cn 76 (Rs [Pp (.ld 77 3 true false 6),Sv 3 4 77,Mi 5 5] .ret) .skip)) (Sq (.reg [Fa 78 4 8,Lq 79 78,Pp (.cvi 80 .i64 79),Fa 81 3 8,Lq 82 81,Fa 83 0 8,Lq 84 83,Fa 85 1 8,Lq 86 85,Ca 87 182 [86],Fa 88 2 8,Lq 89 88,Ca 90 182 [89],Fa 91 6 8,Lq 92 91,Pp (.bld 93 [vI 0,vS,vI 0,vI 0,vS,vI 0,.bool false,vI 0] [(0,1,80),(1,1,82),(2,1,84),(3,1,87),(5,1,90),(7,1,92)]),Pp (.new 10 [vI 0,vS,vI 0,vI 0,vS,vI 0,.bool false,vI 0]),Fo [] [2] (.st none 8 10 93)] [[],[0],[0,1],[],[3],[],[5],[],[7],[7,8],[],[10],rg 7 11,[],[13],rg 0 14,[],rg 0 16]) (Sq (Rs [Fa 94 3 10,Lo 95 94,Bc 96 .eql 95 0] (Cn 96 (Rs [Mv 98 0,Fa 99 11 3,Lq 100 99,Fa 101 0 3,Lq 102 101,Fa 103 1 8,Lq 104 103,Ca 105 183 [98,100,102,104],Mv 97 105,Ex_ 106 0 97,Ex_ 107 1 97,Ex_ 108 2 97,Mv 11 106,Mv 12 107,Mv 13 108] (Sq (Rs [Mv 109 13,Bc 110 .neq 109 0] (Cn 110 (Rs [Pp (.ld 111 3 true false 6),Mv 112 13,Sv 3 4 111,Mv 5 112] .ret) .skip)) (Rg [Mv 113 11,Mv 114 12,Fa 115 4 10,Sv 1 115 113,Fa 116 3 10,Sv 1 116 114]))) .skip)) (Rs [Fa 117 3 10,Lo 118 117,Ca 119 53 [118],Bc 120 .neq 119 2,Mv 14 120] (Sq (Rs [Fa 121 5 8,Lq 122 121,Bc 123 .neq 122 0,Mv 124 123,Gt 124 (.fad 125 0 8),Gt 124 (.lde 126 1 false 125),Gt 124 (.bin 127 .neq 126 (kI 2)),Gt 124 (.mov 128 127),Gf 128 (.mov 129 14),Gf 128 (.un 130 .not 129),Gt 124 (.pick 131 128 (kB true) 130),Pa 132 124 131] (Cn 132 (Rs [Pp (.ld 133 3 true false 6),Sv 3 4 133,Mi 5 6] .ret) .skip)) (Rs [Fa 134 0 8,Lq 135 134,Bc 136 .eql 135 2,Mv 137 136,Gt 137 (.mov 138 14),Pa 139 137 138,Mv 140 139,Gt 140 (.fad 141 5 8),Gt 140 (.lde 142 1 false 141),Gt 140 (.bin 143 .neq 142 (kI 2)),Pa 144 140 143,Fa 145 6 10,Sv 1 145 144] (Rs [Mi 15 0] (Sq (.block 4 (.loop [0,3,4,6,7,10,15,1000001] 3 adF)) adG)))))))
def kC:IR:=Rg [Mv 30 7,Bc 31 .add 30 1,Mv 7 31]
def om:IR:=Sq (Rs [Mv 24 7,Fa 25 2 3,Fa 26 1 25,Lq 27 26,Ll 28 27,Bi 29 .lss 24 28] (Cn 29 .skip (.exit 0))) (Sq (.block 1 (Rs [Fa 32 2 3,Fa 33 1 32,Lq 34 33,Mv 35 7,Ix 36 .ffld 34 35,Ld 37 7 true 36,Pp (.alr 8 7),Fz 8 7 37] (Sq (Rs [Fa 38 2 3,Ld 39 7 true 38,Ld 40 7 true 8,Ca 41 181 [39,40]] (Cn 41 (Rs [Pp (.ld 42 3 true false 6),Sv 3 4 42,Mi 5 6] .ret) .skip)) (Sq (Rs [Mi 9 0] (.block 2 (.loop [0,3,4,6,7,8,9,1000000] 2 pD))) uI)))) kC)
def adH:IR:=Sq (Rs [Mv 187 17,Mv 188 16,Bi 189 .lss 187 188] (Cn 189 .skip (.exit 8))) (Sq (.block 9 (Sq (.reg [Fa 192 2 3,Fa 193 2 192,Lq 194 193,Mv 195 17,Ix 196 .str 194 195,Lq 197 196,Fa 198 2 3,Fa 199 2 198,Lq 200 199,Mv 201 16,Ix 202 .str 200 201,Lq 203 202,Bi 204 .eql 197 203] [[],[0],[0,1],[],rg 0 3,rg 0 4,[],[6],[6,7],[],rg 6 9,rg 6 10,rg 0 11]) (Cn 204 (Rs [Pp (.ld 205 3 true false 6),Sv 3 4 205,Mi 5 5] .ret) .skip))) (Rg [Mv 190 17,Bc 191 .add 190 1,Mv 17 191]))
def adI:IR:=Rg [Mv 185 16,Bc 186 .add 185 1,Mv 16 186]
def oq:IR:=Sq (Rs [Mv 179 16,Fa 180 2 3,Fa 181 2 180,Lq 182 181,Ll 183 182,Bi 184 .lss 179 183] (Cn 184 .skip (.exit 6))) (Sq (.block 7 (Rs [Mi 17 0] (.block 8 (.loop [3,4,6,16,17,1000003] 2 adH)))) adI)
def uJ:IR:=Rs [Pp (.ld 206 3 true false 6),Sv 3 4 206,Mi 5 0] .ret
def ot:IR:=Sq (Rs [Mi 16 0] (.block 6 (.loop [3,4,6,16,1000004] 2 oq))) uJ
def ahK:IR:=Rs [Bx 3 1,Pp (.new 4 [vS,nl .pfl,nl .str]),Mi 5 0] (Rs [Fa 18 0 3,Lq 19 18,Fa 20 2 3,Fa 21 2 20,Lq 22 21,Pp (.bld 23 [vS,nl .pfl,nl .str] [(0,1,19),(2,1,22)]),Pp (.new 6 [vS,nl .pfl,nl .str]),Sv 3 6 23] (Sq (Rs [Mi 7 0] (.block 0 (.loop [0,3,4,6,7,1000002] 2 om))) ot))
def eE:List RV:=[.cell 4 3 true,.t 5]
theorem avR:FnC Tryz.prog bz [] 0 130 Tryz.f130 ahK eE:=fnC Tryz.func130
def gn(R:TR)(a:TS):TE:=(bo a [0,3,4,6,7,1000002] 2 (aQ 0 (kseq (R ot) (fin eE))))
abbrev dC:Type:=(List ch×PNm×Int×Bs×List PFl×Bss×Bs×List PFl×Bss)
def ca:dC->St:=λ(a,b,c,d,e,f,g,h,i)=>{env:=(vF .fil a::.undef::.undef::.ea (enc .nms b)::.ptr 0 0::.undef::.ptr 1 0::vI c::(U 199 [])),hp:=[some [vT d,vO .pfl e,vO .str f],some [vT g,vO .pfl h,vF .str i]]}
def yj(R:TR)(a b:TS):TE:=(bo b [0,3,4,6,7,8,9,1000000] 2 (aQ 2 (kseq (R uI) (aQ 1 (kseq (R kC) (gn R a))))))
abbrev fJ:Type:=(List ch×PNm×Int×bM×Int×Bs×List PFl×Bss×Bs×List PFl×Bss)
def dL:fJ->St:=λ(b,c,d,e,f,g,h,i,j,k,a)=>{env:=(vF .fil b::.undef::.undef::.ea (enc .nms c)::.ptr 0 0::.undef::.ptr 1 0::vI d::.ea (enc .ffld e)::vI f::(U 197 [])),hp:=[some [vT g,vO .pfl h,vO .str i],some [vT j,vO .pfl k,vF .str a]]}
def atU(R:TR)(a b:TS):TE:=(bo b [0,3,4,6,7,10,15,1000001] 3 (aQ 4 (kseq (R adG) (aQ 1 (kseq (R kC) (gn R a))))))
abbrev na:Type:=(List ch×PNm×Int×Int×Bs×List PFl×Bss×Bs×List PFl×Bss×Int×Bs×Int×Int×Bs×Int×Bool×Int)
def lK:na->St:=λ(i,j,k,l,m,n,o,p,q,r,a,b,c,d,e,f,g,h)=>{env:=(vF .fil i::.undef::.undef::.ea (enc .nms j)::.ptr 0 0::.undef::.ptr 1 0::vI k::.undef::.undef::.ptr 2 0::(U 4 (vI l::(U 191 [])))),hp:=[some [vT m,vO .pfl n,vO .str o],some [vT p,vO .pfl q,vF .str r],some [vI a,vT b,vI c,vI d,vT e,vI f,vB g,vI h]]}
def rl(N:Nat)(a:TS):TS->TS:=λb s=>run bz N adF (atU (run bz N) a b) s
def jL(N:Nat)(k:dC->Ro)(q:na->Ro):na->Ro:=λ(x,y,z,b,l,m,n,o,a,p,c,d,e,f,g,h,i,j)=>let E:=(↑(Aa a):Int);cond (decide (b<E)) (chk (ixl b a) (let D:=(Af a (Ad b) (aI .pfl));cond (decide (D.num<c)) (let C:=(Ab .i64 (b+1));q (x,y,z,C,l,m,n,o,a,p,c,d,e,f,g,h,i,j)) (chk (decide (0<=b)&&decide (b<=(↑(Aa a):Int))) (let r:=(An 0 (Ao (Ad b) a));chk (decide ((Aa ([]:List PFl)+Aa r)*80<=140737488355328)) (chk (decide ((Aa ([]++r)+Aa ([⟨c,d,e,f,g,h,i,j⟩]:List PFl))*80<=140737488355328)) (let t:=(([]++r)++([⟨c,d,e,f,g,h,i,j⟩]:List PFl));chk (decide (0<=b)&&decide (b<=(↑(Aa a):Int))) (let u:=(An (Ad b) (Ao (Aa a) a));chk (decide ((Aa t+Aa u)*80<=140737488355328)) (let B:=(Ab .i64 (z+1));k (x,y,B,l,m,n,o,(t++u),p))))))))) (chk (decide (0<=b)&&decide (b<=(↑(Aa a):Int))) (let s:=(An 0 (Ao (Ad b) a));chk (decide ((Aa ([]:List PFl)+Aa s)*80<=140737488355328)) (chk (decide ((Aa ([]++s)+Aa ([⟨c,d,e,f,g,h,i,j⟩]:List PFl))*80<=140737488355328)) (let v:=(([]++s)++([⟨c,d,e,f,g,h,i,j⟩]:List PFl));chk (decide (0<=b)&&decide (b<=(↑(Aa a):Int))) (let w:=(An (Ad b) (Ao (Aa a) a));chk (decide ((Aa v+Aa w)*80<=140737488355328)) (let A:=(Ab .i64 (z+1));k (x,y,A,l,m,n,o,(v++w),p)))))))
theorem arA(N:Nat)(a:TS):LB (rl N a) lK (jL N (λy=>a (ca y))):=λ_ _=>by kernel_rfl
def nb(N:Nat)(a:TS):TS->TS:=λb s=>run bz N pD (yj (run bz N) a b) s
def pE(N:Nat)(r:dC->Ro)(j:fJ->Ro)(D:na->Ro):fJ->Ro:=λ(s,k,t,a,p,l,n,o,b,c,d)=>let u:=(some (.tup [.agg [vT b,vF .pfl c,vF .str d],vI 5],[some [vT b,vF .pfl c,vF .str d],some [vT b,vO .pfl c,vF .str d]]):Ro);let q:=λv w x y z=>(some (.tup [.agg [vT b,vF .pfl c,vF .str d],vI v],[some [vT b,vF .pfl c,vF .str d],some [vT b,vO .pfl c,vF .str d],some [vI w,vT a.name,vI a.label,vI x,vT y,vI z,vB false,vI a.oneof]]):Ro);let h:=λv w x y z=>D (s,k,t,0,l,n,o,b,c,d,v,a.name,a.label,w,x,y,z,a.oneof);cond (decide (p<t)) (chk (ixl p k.m.fields) (let C:=(Af k.m.fields (Ad p) (aI .ffld));cond (C.num==a.num) (u) (chk (ixl p k.m.fields) (let G:=(Af k.m.fields (Ad p) (aI .ffld));let F:=decide (G.name=a.name);cond F (u) (let H:=(Ab .i64 (p+1));j (s,k,t,a,H,l,n,o,b,c,d)))))) (aA (eL k.m.oneofs a.name) (λ(E:Bool)=>cond E (u) (let f:=(Ab .i64 a.num);aA (o7 a.typ) (λ(i:Int)=>aA (o7 a.key) (λ(g:Int)=>cond (i==0) (aA (ac0 s k.file k.name a.typ) (λe=>cond (!(e.2.2==0)) (q e.2.2 f i [] g) (aA (j3 e.2.1) (λ(A:Int)=>cond (!(a.packed==0)) (cond (!(a.label==2)) (q 6 f e.2.1 e.1 g) (cond (!(!(A==2))) (q 6 f e.2.1 e.1 g) (cond (a.label==2) (cond (!(A==2)) (h f e.2.1 e.1 g (!(a.packed==2))) (h f e.2.1 e.1 g false)) (h f e.2.1 e.1 g false)))) (cond (a.label==2) (cond (!(A==2)) (h f e.2.1 e.1 g (!(a.packed==2))) (h f e.2.1 e.1 g false)) (h f e.2.1 e.1 g false)))))) (aA (j3 i) (λ(B:Int)=>cond (!(a.packed==0)) (cond (!(a.label==2)) (q 6 f i [] g) (cond (!(!(B==2))) (q 6 f i [] g) (cond (a.label==2) (cond (!(B==2)) (h f i [] g (!(a.packed==2))) (h f i [] g false)) (h f i [] g false)))) (cond (a.label==2) (cond (!(B==2)) (h f i [] g (!(a.packed==2))) (h f i [] g false)) (h f i [] g false)))))))))
def nc(N:Nat)(a:dC->Ro)(b:fJ->Ro)(x:fJ):Ro:=pE N a b (λz=>aO N (jL N a) z) x
def nd(N:Nat)(a b:TS):List (Nat×(TS)):=(cT bz N pD (yj (run bz N) a b)++(cT bz N uI (aQ 1 (kseq (run bz N kC) (gn (run bz N) a)))++(cT bz N kC (gn (run bz N) a)++(cT bz N ot (fin eE)++[]))))
theorem arB(N:Nat)(a:TS):∀(b:TS)(x:fJ),nb N a b (dL x)=nc N (λy=>a (ca y)) (λy=>b (dL y)) x:=by
 intro b x;have d:∀C:Nat->TS,c8 C bz N pD (yj (c8 C bz N) a b) (dL x)=pE N (λy=>a (ca y)) (λy=>b (dL y)) (λz=>C 1000001 (lK z)) x:=by intro C;kernel_rfl
 have h:nb N a b (dL x)=pE N (λy=>a (ca y)) (λy=>b (dL y)) (λz=>aZ N (rl N a) (lK z)) x:=(eI (C:=gW (nd N a b)) (dI (bX (l:=(nd N a b)) (by kernel_rfl))) (ij (ew (nC (dI (jY (bX (l:=(nd N a b)) (by kernel_rfl)))) (ew (nC (dI (jY (jY (bX (l:=(nd N a b)) (by kernel_rfl))))) (ij (ew (nC (dI (jY (jY (jY (bX (l:=(nd N a b)) (by kernel_rfl)))))) rfl)))))))) _).trans ((d _).trans (by kernel_rfl));have c:(λz=>aZ N (rl N a) (lK z))=(λz=>aO N (jL N (λy=>a (ca y))) z):=funext λz=>aU (lK) (rl N a) (jL N (λy=>a (ca y))) (arA N a) N z
 rw[h,c];rfl
def rm(R:TR)(a:TS):TE:=(bo a [3,4,6,16,1000004] 2 (aQ 6 (kseq (R uJ) (fin eE))))
abbrev eP:Type:=(PNm×Int×Bs×List PFl×Bss×Bs×List PFl×Bss)
def c5:eP->St:=λ(a,b,c,d,e,f,g,h)=>{env:=(U 3 (.ea (enc .nms a)::.ptr 0 0::.undef::.ptr 1 0::(U 9 (vI b::(U 190 []))))),hp:=[some [vT c,vO .pfl d,vO .str e],some [vT f,vO .pfl g,vF .str h]]}
def atV(R:TR)(a b:TS):TE:=(bo b [3,4,6,16,17,1000003] 2 (aQ 8 (aQ 7 (kseq (R adI) (rm R a)))))
abbrev ne:Type:=(PNm×Int×Int×Bs×List PFl×Bss×Bs×List PFl×Bss)
def lL:ne->St:=λ(a,b,c,d,e,f,g,h,i)=>{env:=(U 3 (.ea (enc .nms a)::.ptr 0 0::.undef::.ptr 1 0::(U 9 (vI b::vI c::(U 189 []))))),hp:=[some [vT d,vO .pfl e,vO .str f],some [vT g,vO .pfl h,vF .str i]]}
def rn(N:Nat)(a:TS):TS->TS:=λb s=>run bz N adH (atV (run bz N) a b) s
def nf(N:Nat)(e:eP->Ro)(f:ne->Ro):ne->Ro:=λ(k,d,g,h,i,j,a,b,c)=>cond (decide (g<d)) (chk (ixl g k.m.oneofs) (let l:=Af k.m.oneofs (Ad g) (aI .str);chk (ixl d k.m.oneofs) (let n:=Af k.m.oneofs (Ad d) (aI .str);cond (decide (l=n)) (some (.tup [.agg [vT a,vF .pfl b,vF .str c],vI 5],[some [vT a,vF .pfl b,vF .str c],some [vT a,vO .pfl b,vF .str c]])) (let o:=(Ab .i64 (g+1));f (k,d,o,h,i,j,a,b,c))))) (let p:=(Ab .i64 (d+1));e (k,p,h,i,j,a,b,c))
theorem arC(N:Nat)(a:TS):LB (rn N a) lL (nf N (λy=>a (c5 y))):=λ_ _=>by kernel_rfl
def ng(N:Nat):TS->TS:=λa s=>run bz N oq (rm (run bz N) a) s
def pF(N:Nat)(h:eP->Ro)(k:ne->Ro):eP->Ro:=λ(j,d,e,f,g,a,b,c)=>let i:=(↑(Aa j.m.oneofs):Int);cond (decide (d<i)) (k (j,d,0,e,f,g,a,b,c)) (some (.tup [.agg [vT a,vF .pfl b,vF .str c],vI 0],[some [vT a,vF .pfl b,vF .str c],some [vT a,vO .pfl b,vF .str c]]))
def nh(N:Nat)(a:eP->Ro)(x:eP):Ro:=pF N a (λz=>aO N (nf N a) z) x
def yk(N:Nat)(a:TS):List (Nat×(TS)):=(cT bz N oq (rm (run bz N) a)++(cT bz N uJ (fin eE)++[]))
theorem arD(N:Nat):∀(a:TS)(x:eP),ng N a (c5 x)=nh N (λy=>a (c5 y)) x:=by
 intro a x;have b:∀C:Nat->TS,c8 C bz N oq (rm (c8 C bz N) a) (c5 x)=pF N (λy=>a (c5 y)) (λz=>C 1000003 (lL z)) x:=by intro C;kernel_rfl
 have h:ng N a (c5 x)=pF N (λy=>a (c5 y)) (λz=>aZ N (rn N a) (lL z)) x:=(eI (C:=gW (yk N a)) (dI (bX (l:=(yk N a)) (by kernel_rfl))) (ij (ew (nC (dI (jY (bX (l:=(yk N a)) (by kernel_rfl)))) rfl))) _).trans ((b _).trans (by kernel_rfl));have c:(λz=>aZ N (rn N a) (lL z))=(λz=>aO N (nf N (λy=>a (c5 y))) z):=funext λz=>aU (lL) (rn N a) (nf N (λy=>a (c5 y))) (arC N a) N z
 rw[h,c];rfl
def rp(N:Nat):TS->TS:=λa s=>run bz N om (gn (run bz N) a) s
def pG(N:Nat)(h:dC->Ro)(k:fJ->Ro)(l:eP->Ro):dC->Ro:=λ(n,g,i,d,e,f,a,b,c)=>let o:=(↑(Aa g.m.fields):Int);cond (decide (i<o)) (chk (ixl i g.m.fields) (let j:=(Af g.m.fields (Ad i) (aI .ffld));aA (afz (reM g.m) j) (λ(p:Bool)=>cond p (some (.tup [.agg [vT a,vF .pfl b,vF .str c],vI 6],[some [vT a,vF .pfl b,vF .str c],some [vT a,vO .pfl b,vF .str c]])) (k (n,g,i,j,0,d,e,f,a,b,c))))) (l (g,0,d,e,f,a,b,c))
def rq(N:Nat)(a:dC->Ro)(x:dC):Ro:=pG N a (λz=>aO N (nc N a) z) (λz=>aO N (nh N) z) x
def yl(N:Nat)(a:TS):List (Nat×(TS)):=(cT bz N om (gn (run bz N) a)++(cT bz N ot (fin eE)++[]))
theorem arE(N:Nat):∀(a:TS)(x:dC),rp N a (ca x)=rq N (λy=>a (ca y)) x:=by
 intro a x;have c:∀C:Nat->TS,c8 C bz N om (gn (c8 C bz N) a) (ca x)=pG N (λy=>a (ca y)) (λz=>C 1000000 (dL z)) (λz=>C 1000004 (c5 z)) x:=by intro C;kernel_rfl
 have h:rp N a (ca x)=pG N (λy=>a (ca y)) (λz=>aZ N (nb N a) (dL z)) (λz=>aZ N (ng N) (c5 z)) x:=(eI (C:=gW (yl N a)) (dI (bX (l:=(yl N a)) (by kernel_rfl))) (ij (ew (nC (dI (jY (bX (l:=(yl N a)) (by kernel_rfl)))) rfl))) _).trans ((c _).trans (by kernel_rfl));have d:(λz=>aZ N (nb N a) (dL z))=(λz=>aO N (nc N (λy=>a (ca y))) z):=funext λz=>aU (dL) (nb N a) (nc N (λy=>a (ca y))) (arB N a) N z
 have b:(λz=>aZ N (ng N) (c5 z))=(λz=>aO N (nh N) z):=funext λz=>aU (c5) (ng N) (nh N) (arD N) N z
 rw[h,d,b];rfl
def ou(N:Nat)(b:List ch)(a:PNm)(c:dC->Ro):Ro:=c (b,a,0,[],[],[],a.name,[],a.m.oneofs)
def ahL(N:Nat)(a:List ch)(b:PNm):Ro:=ou N a b (λz=>aO N (rq N) z)
theorem atW(N:Nat)(a:List ch)(c:PNm)(h:Tot (ahL N a c) (λz=>∃d f rest,z.1.dimR=.tup [.agg (enc .pms d),vI f]∧z.2=rest∧wd a c (d,f))):∃r,vi a c r:=avR.finP (N:=N) ((bD _ (by kernel_rfl) rfl (λC=>ou N a c (λz=>C 1000002 (ca z))) (λC=>by kernel_rfl)).trans (AB (b:=ou N a c (λz=>aZ N (rp N) (ca z))) (by kernel_rfl) (congrArg (ou N a c) (funext λz=>aU (ca) (rp N) (rq N) (arE N) N z)))) h λ_ ⟨d,f,_,e,_,q⟩=>⟨(d,f),e,q⟩
def eo:aG:=tb_ [] [] [] [avJ,aFp,axP,axR,arm]
def agu:IR:=Sq (Rs [Mv 20 7,Mv 21 6,Bi 22 .lss 20 21] (Cn 22 .skip (.exit 2))) (Sq (.block 3 (Sq (.reg [Mv 25 5,Mv 26 7,Ix 27 .nms 25 26,Fa 28 0 27,Fo [] [] (.ld 29 1 false false 28),Mv 30 5,Mv 31 6,Ix 32 .nms 30 31,Fa 33 0 32,Fo [] [] (.ld 34 1 false false 33),Bi 35 .eql 29 34] [[],[],[0,1],[0,1,2],rg 0 3,[],[],[5,6],[5,6,7],rg 5 8,rg 0 9]) (Cn 35 (Sq (.reg [Pp (.bld 36 [fu .pms false,fu .pen false] []),Mv 37 5,Mv 38 6,Ix 39 .nms 37 38,Fa 40 0 39,Fo [] [] (.ld 41 1 false false 40),Fo [] [0] (.st none 2 2 36),Mi 3 5,Mv 4 41] [[],[],[],[1,2],[1,2,3],rg 1 4,[0],[0,6],rg 0 7]) .ret) .skip))) (Rg [Mv 23 7,Bc 24 .add 23 1,Mv 7 24]))
def agv:IR:=Rg [Mv 18 6,Bc 19 .add 18 1,Mv 6 19]
def pH:IR:=Sq (Rs [Mv 14 6,Mv 15 5,Ll 16 15,Bi 17 .lss 14 16] (Cn 17 .skip (.exit 0))) (Sq (.block 1 (Rs [Mi 7 0] (.block 2 (.loop [0,2,5,6,7,1000000] 1 agu)))) agv)
def aeS:IR:=Sq (Rs [Mv 50 9,Mv 51 5,Ll 52 51,Bi 53 .lss 50 52] (Cn 53 .skip (.exit 4))) (Sq (.block 5 (Rs [Mi 10 0] (Sq (Rs [Mv 56 5,Mv 57 9,Ix 58 .nms 56 57,Fa 59 1 58,Lo 60 59,Bc 61 .eql 60 17] (Cn 61 (Rs [Mv 62 5,Mv 63 9,Ix 64 .nms 62 63,Fa 65 9 64,Pp (.ld 66 2 true false 65),Ca 67 128 [66],Mv 10 67] (.reg [Fa 68 1 8,Fo [1] [] (.ld 69 1 false false 68),Mv 70 5,Mv 71 9,Ix 72 .nms 70 71,Fa 73 0 72,Fo [] [] (.ld 74 1 false false 73),Mv 75 5,Mv 76 9,Ix 77 .nms 75 76,Fa 78 9 77,Fa 79 1 78,Fo [] [] (.ld 80 1 false false 79),Pp (.bld 81 [vS,fu .pvl false] [(0,1,74),(1,1,80)]),Ca 82 129 [69,81],Fa 83 1 8,Fo [] [1] (.st none 1 83 (.tk 82))] [[],[0],[],[],[2,3],[2,3,4],rg 2 5,[],[],[7,8],[7,8,9],rg 7 10,rg 7 11,rg 2 12,rg 0 13,rg 0 14,rg 0 15])) (Rs [Pp (.bld 84 [vS,fu .pfl false,fu .str false] []),Pp (.new 11 [vS,fu .pfl false,fu .str false]),Sv 3 11 84] (Rs [Mv 86 0,Mv 87 5,Mv 88 9,Ix 89 .nms 87 88,Ld 90 12 true 89,Ca 91 130 [86,90],Mv 85 91,Ex_ 92 0 85,Ex_ 93 1 85,Sv 3 11 92,Mv 10 93] (Rg [Fa 94 0 8,Lo 95 94,Pp (.ld 96 3 true false 11),Ca 97 131 [95,96],Fa 98 0 8,Sk 1 98 97]))))) (Rs [Mv 99 10,Bc 100 .neq 99 0] (Cn 100 (Sq (.reg [Pp (.bld 101 [fu .pms false,fu .pen false] []),Mv 102 10,Mv 103 5,Mv 104 9,Ix 105 .nms 103 104,Fa 106 0 105,Fo [] [] (.ld 107 1 false false 106),Fo [] [0] (.st none 2 2 101),Mv 3 102,Mv 4 107] [[],[],[],[],[2,3],[2,3,4],rg 2 5,[0],[0,1,7],rg 0 8]) .ret) .skip))))) (Rg [Mv 54 9,Bc 55 .add 54 1,Mv 9 55]))
def aeT:IR:=Rs [Pp (.ld 108 2 true false 8),Sv 2 2 108,Mi 3 0,Ms 4 []] .ret
def wk:IR:=Sq (Rs [Mv 42 5,Ll 43 42,Bc 44 .gtr 43 60] (Cn 44 (Sq (.reg [Pp (.bld 45 [fu .pms false,fu .pen false] []),Mv 46 5,Pp (.ixa 47 .nms 46 (kI 60)),Fa 48 0 47,Fo [] [] (.ld 49 1 false false 48),Fo [] [0] (.st none 2 2 45),Mi 3 3,Mv 4 49] [[],[],[1],[1,2],[1,2,3],[0],[0,5],rg 0 6]) .ret) .skip)) (Rs [Pp (.new 8 [fu .pms false,fu .pen false])] (Sq (Rs [Mi 9 0] (.block 4 (.loop [0,2,5,8,9,1000002] 2 aeS))) aeT))
def ajt:IR:=Rs [Pp (.new 2 [fu .pms false,fu .pen false]),Mi 3 0,Ms 4 []] (Rs [Mv 12 0,Ca 13 127 [12],Mv 5 13] (Sq (Rs [Mi 6 0] (.block 0 (.loop [0,2,5,6,1000001] 1 pH))) wk))
def qd:List RV:=[.cell 2 2 true,.t 3,.t 4]
theorem ax8:FnC Tryz.prog eo [] 0 77 Tryz.f77 ajt qd:=fnC Tryz.func77
def tE(R:TR)(a:TS):TE:=(bo a [0,2,5,6,1000001] 1 (aQ 0 (kseq (R wk) (fin qd))))
abbrev fp:Type:=(List ch×List PNm×Int×List PMs×List PEn)
def dq:fp->St:=λ(a,b,c,d,e)=>{env:=(vF .fil a::.undef::.ptr 0 0::.undef::.undef::vF .nms b::vI c::(U 102 [])),hp:=[some [vF .pms d,vF .pen e]]}
def avS(R:TR)(a b:TS):TE:=(bo b [0,2,5,6,7,1000000] 1 (aQ 2 (aQ 1 (kseq (R agv) (tE R a)))))
abbrev oz:Type:=(List ch×List PNm×Int×Int×List PMs×List PEn)
def ni:oz->St:=λ(a,b,c,d,e,f)=>{env:=(vF .fil a::.undef::.ptr 0 0::.undef::.undef::vF .nms b::vI c::vI d::(U 101 [])),hp:=[some [vF .pms e,vF .pen f]]}
def tF(N:Nat)(a:TS):TS->TS:=λb s=>run eo N agu (avS (run eo N) a b) s
def oA(N:Nat)(a:fp->Ro)(b:oz->Ro):oz->Ro:=λ(h,c,f,g,d,e)=>cond (decide (g<f)) (chk (ixl g c) (let i:=(Af c (Ad g) (aI .nms));chk (ixl f c) (let j:=(Af c (Ad f) (aI .nms));let k:=decide (i.name=j.name);cond k (chk (ixl f c) (let l:=(Af c (Ad f) (aI .nms));some (.tup [.agg [vF .pms [],vF .pen []],vI 5,vT l.name],[some [vF .pms [],vF .pen []]]))) (let m:=(Ab .i64 (g+1));b (h,c,f,m,d,e))))) (let n:=(Ab .i64 (f+1));a (h,c,n,d,e))
theorem atX(N:Nat)(a:TS):LB (tF N a) ni (oA N (λy=>a (dq y))):=λ_ _=>by kernel_rfl
def avT(R:TR)(a:TS):TE:=(bo a [0,2,5,8,9,1000002] 2 (aQ 4 (kseq (R aeT) (fin qd))))
abbrev tG:Type:=(List ch×List PNm×Int×List PMs×List PEn×List PMs×List PEn)
def nj:tG->St:=λ(a,b,c,d,e,f,g)=>{env:=(vF .fil a::.undef::.ptr 0 0::.undef::.undef::vF .nms b::.undef::.undef::.ptr 1 0::vI c::(U 99 [])),hp:=[some [vF .pms d,vF .pen e],some [vF .pms f,vF .pen g]]}
def tH(N:Nat):TS->TS:=λa s=>run eo N aeS (avT (run eo N) a) s
def oB(N:Nat)(e:tG->Ro):tG->Ro:=λ(i,c,d,f,g,a,b)=>let j:=(↑(Aa c):Int);let k:=λy z B A C=>(some (.tup [.agg [vF .pms y,vF .pen z],vI B,vT A],C):Ro);cond (decide (d<j)) (chk (ixl d c) (let l:=(Af c (Ad d) (aI .nms));cond (l.kind==17) (chk (ixl d c) (let m:=(Af c (Ad d) (aI .nms));aA (acY m.x) (λ(u:Int)=>chk (ixl d c) (let n:=(Af c (Ad d) (aI .nms));chk (ixl d c) (let o:=(Af c (Ad d) (aI .nms));aA (vh b ⟨n.name,o.x.values⟩) (λ(v:List PEn)=>cond (!(u==0)) (chk (ixl d c) (let p:=(Af c (Ad d) (aI .nms));k [] [] u p.name [some [vF .pms [],vF .pen []],some [vF .pms a,vF .pen v]])) (let q:=(Ab .i64 (d+1));e (i,c,q,f,g,a,v)))))))) (chk (ixl d c) (let r:=(Af c (Ad d) (aI .nms));aA (vi i (reN r)) (λh=>aA (px a h.1) (λ(w:List PMs)=>cond (!(h.2==0)) (chk (ixl d c) (let s:=(Af c (Ad d) (aI .nms));k [] [] h.2 s.name [some [vF .pms [],vF .pen []],some [vF .pms w,vF .pen b],some [vT h.1.name,vF .pfl h.1.fields,vF .str h.1.oneofs]])) (let t:=(Ab .i64 (d+1));e (i,c,t,f,g,w,b)))))))) (k a b 0 [] [some [vF .pms a,vF .pen b],some [vF .pms a,vF .pen b]])
theorem atY(N:Nat):LB (tH N) nj (oB N):=λ_ _=>by kernel_rfl
def tI(N:Nat):TS->TS:=λa s=>run eo N pH (tE (run eo N) a) s
def rt(N:Nat)(d:fp->Ro)(g:oz->Ro)(h:tG->Ro):fp->Ro:=λ(e,c,f,a,b)=>let i:=(↑(Aa c):Int);cond (decide (f<i)) (g (e,c,f,0,a,b)) (let j:=(↑(Aa c):Int);cond (decide (60<j)) (chk (decide ((60:Int)<↑(Aa c))) (let k:=(Af c (Ad 60) (aI .nms));some (.tup [.agg [vF .pms [],vF .pen []],vI 3,vT k.name],[some [vF .pms [],vF .pen []]]))) (h (e,c,0,a,b,[],[])))
def tJ(N:Nat)(a:fp->Ro)(x:fp):Ro:=rt N a (λz=>aO N (oA N a) z) (λz=>aO N (oB N) z) x
def aaz(N:Nat)(a:TS):List (Nat×(TS)):=(cT eo N pH (tE (run eo N) a)++(cT eo N wk (fin qd)++[]))
theorem atZ(N:Nat):∀(a:TS)(x:fp),tI N a (dq x)=tJ N (λy=>a (dq y)) x:=by
 intro a x;have c:∀C:Nat->TS,c8 C eo N pH (tE (c8 C eo N) a) (dq x)=rt N (λy=>a (dq y)) (λz=>C 1000000 (ni z)) (λz=>C 1000002 (nj z)) x:=by intro C;kernel_rfl
 have h:tI N a (dq x)=rt N (λy=>a (dq y)) (λz=>aZ N (tF N a) (ni z)) (λz=>aZ N (tH N) (nj z)) x:=(eI (C:=gW (aaz N a)) (dI (bX (l:=(aaz N a)) (by kernel_rfl))) (ij (ew (nC (dI (jY (bX (l:=(aaz N a)) (by kernel_rfl)))) rfl))) _).trans ((c _).trans (by kernel_rfl));have d:(λz=>aZ N (tF N a) (ni z))=(λz=>aO N (oA N (λy=>a (dq y))) z):=funext λz=>aU (ni) (tF N a) (oA N (λy=>a (dq y))) (atX N a) N z
 have b:(λz=>aZ N (tH N) (nj z))=(λz=>aO N (oB N) z):=funext λz=>aU (nj) (tH N) (oB N) (atY N) N z
 rw[h,d,b];rfl
def qe(N:Nat)(a:List ch)(b:fp->Ro):Ro:=aA (vg a) (λ(c:List PNm)=>b (a,c,0,[],[]))
def aju(N:Nat)(a:List ch):Ro:=qe N a (λz=>aO N (tJ N) z)
theorem avU(N:Nat)(a:List ch)(h:Tot (aju N a) (λz=>∃c d f g rest,z.1.dimR=.tup [.agg [vF .pms c,vF .pen d],vI f,vT g]∧z.2=rest∧ye a (c,d,f,g))):∃r,xz a r:=ax8.finP (N:=N) ((bD _ (by kernel_rfl) rfl (λC=>qe N a (λz=>C 1000001 (dq z))) (λC=>by kernel_rfl)).trans (AB (b:=qe N a (λz=>aZ N (tI N) (dq z))) (by kernel_rfl) (congrArg (qe N a) (funext λz=>aU (dq) (tI N) (tJ N) (atZ N) N z)))) h λ_ ⟨c,d,f,g,_,e,_,q⟩=>⟨(c,d,f,g),e,q⟩
def ia:aG:=tb_ [] [adh] [] []
def ajv:IR:=Sq (Rs [Mv 18 7,Mv 19 6,Bi 20 .lss 18 19] (Cn 20 .skip (.exit 2))) (Sq (.block 3 (Sq (.reg [Mv 23 0,Mv 24 7,Ix 25 .src 23 24,Fa 26 0 25,Fo [] [] (.ld 27 1 false false 26),Mv 28 0,Mv 29 6,Ix 30 .src 28 29,Fa 31 0 30,Fo [] [] (.ld 32 1 false false 31),Bi 33 .eql 27 32] [[],[],[0,1],[0,1,2],rg 0 3,[],[],[5,6],[5,6,7],rg 5 8,rg 0 9]) (Cn 33 (Sq (.reg [Mv 34 0,Mv 35 6,Ix 36 .src 34 35,Fa 37 0 36,Fo [] [] (.ld 38 1 false false 37),Pp (.mov 2 (.c (nl .fil))),Mi 3 5,Mv 4 38,Mi 5 0] [[],[],[0,1],[0,1,2],rg 0 3,[],[5],rg 0 6,rg 0 7]) .ret) .skip))) (Rg [Mv 21 7,Bc 22 .add 21 1,Mv 7 22]))
def ahM:IR:=Rg [Mv 16 6,Bc 17 .add 16 1,Mv 6 17]
def tK:IR:=Sq (Rs [Mv 12 6,Mv 13 0,Ll 14 13,Bi 15 .lss 12 14] (Cn 15 .skip (.exit 0))) (Sq (.block 1 (Rs [Mi 7 0] (.block 2 (.loop [0,6,7,1000000] 0 ajv)))) ahM)
def aaA:IR:=Rs [Mv 39 0,Pp (.bld 40 [nl .src,nl .fil,vI 0,vS,vI 0] [(0,1,39)]),Pp (.box 41 40),Mv 8 41] (Rs [Mv 42 8,Mv 43 0,Pp (.ixa 44 .src 43 (kI 0)),Fa 45 0 44,Lo 46 45,Ca 47 126 [42,46,.c (nl .str)]] (Sq (Rs [Mv 48 8,Nk 49 48,Fa 50 2 49,Lo 51 50,Bc 52 .neq 51 0] (Cn 52 (Sq (.reg [Mv 53 8,Nk 54 53,Fa 55 2 54,Fo [0] [] (.ld 56 1 false false 55),Mv 57 8,Nk 58 57,Fa 59 3 58,Fo [0] [] (.ld 60 1 false false 59),Mv 61 8,Nk 62 61,Fa 63 4 62,Fo [0] [] (.ld 64 1 false false 63),Pp (.mov 2 (.c (nl .fil))),Mv 3 56,Mv 4 60,Mv 5 64] [[],[0],[0,1],[0,1,2],[],[4],[4,5],[4,5,6],[],[8],[8,9],[8,9,10],[],[0,1,2,3,12],rg 0 7++[12,13],rg 0 14]) .ret) .skip)) (Rs [Mv 65 8,Nk 66 65,Fa 67 1 66,Lo 68 67,Mv 2 68,Mi 3 0,Ms 4 [],Mi 5 0] .ret)))
def aph:IR:=Rs [Pp (.mov 2 (.c (nl .fil))),Mi 3 0,Ms 4 [],Mi 5 0] (Sq (Rs [Mv 9 0,Ll 10 9,Bc 11 .eql 10 0] (Cn 11 (Rs [Pp (.mov 2 (.c (nl .fil))),Mi 3 10,Ms 4 [],Mi 5 0] .ret) .skip)) (Sq (Rs [Mi 6 0] (.block 0 (.loop [0,6,1000001] 0 tK))) aaA))
def aaB:List RV:=[.t 2,.t 3,.t 4,.t 5]
theorem aDv:FnC Tryz.prog ia [126,2000126] 0 76 Tryz.f76 aph aaB:=fnC Tryz.func76
def xN(R:TR)(a:TS):TE:=(bo a [0,6,1000001] 0 (aQ 0 (kseq (R aaA) (fin aaB))))
abbrev gl:Type:=(List eS×Int)
def dR:gl->St:=λ(a,b)=>{env:=(vF .src a::(U 5 (vI b::(U 62 [])))),hp:=[]}
def aAP(R:TR)(a b:TS):TE:=(bo b [0,6,7,1000000] 0 (aQ 2 (aQ 1 (kseq (R ahM) (xN R a)))))
abbrev sj:Type:=(List eS×Int×Int)
def qf:sj->St:=λ(a,b,c)=>{env:=(vF .src a::(U 5 (vI b::vI c::(U 61 [])))),hp:=[]}
def xO(N:Nat)(a:TS):TS->TS:=λb s=>run ia N ajv (aAP (run ia N) a b) s
def sk(N:Nat)(a:gl->Ro)(b:sj->Ro):sj->Ro:=λ(c,d,e)=>cond (decide (e<d)) (chk (ixl e c) (let f:=(Af c (Ad e) (aI .src));chk (ixl d c) (let g:=(Af c (Ad d) (aI .src));let h:=decide (f.name=g.name);cond h (chk (ixl d c) (let i:=(Af c (Ad d) (aI .src));some (.tup [vF .fil [],vI 5,vT i.name,vI 0],[]))) (let j:=(Ab .i64 (e+1));b (c,d,j))))) (let k:=(Ab .i64 (d+1));a (c,k))
theorem ax9(N:Nat)(a:TS):LB (xO N a) qf (sk N (λy=>a (dR y))):=λ_ _=>by kernel_rfl
def xP(N:Nat):TS->TS:=λa s=>run ia N tK (xN (run ia N) a) s
def vr(N:Nat)(c:gl->Ro)(f:sj->Ro):gl->Ro:=λ(b,d)=>let g:=(↑(Aa b):Int);let e:=λh i j k l m n o p=>(some (.tup [vF .fil h,vI i,vT j,vI k],[some [vF .src l,vO .fil m,vI n,vT o,vI p]]):Ro);cond (decide (d<g)) (f (b,d,0)) (chk (decide ((0:Int)<↑(Aa b))) (let q:=(Af b (Ad 0) (aI .src));aA (ks b [] 0 [] 0 q.name []) (λa=>cond (!(a.2.2.1==0)) (e [] a.2.2.1 a.2.2.2.1 a.2.2.2.2 a.1 a.2.1 a.2.2.1 a.2.2.2.1 a.2.2.2.2) (e a.2.1 0 [] 0 a.1 a.2.1 a.2.2.1 a.2.2.2.1 a.2.2.2.2))))
def xQ(N:Nat)(a:gl->Ro)(x:gl):Ro:=vr N a (λz=>aO N (sk N a) z) x
def aer(N:Nat)(a:TS):List (Nat×(TS)):=(cT ia N tK (xN (run ia N) a)++(cT ia N aaA (fin aaB)++[]))
theorem aya(N:Nat):∀(a:TS)(x:gl),xP N a (dR x)=xQ N (λy=>a (dR y)) x:=by
 intro a x;have b:∀C:Nat->TS,c8 C ia N tK (xN (c8 C ia N) a) (dR x)=vr N (λy=>a (dR y)) (λz=>C 1000000 (qf z)) x:=by intro C;kernel_rfl
 have h:xP N a (dR x)=vr N (λy=>a (dR y)) (λz=>aZ N (xO N a) (qf z)) x:=(eI (C:=gW (aer N a)) (dI (bX (l:=(aer N a)) (by kernel_rfl))) (ij (ew (nC (dI (jY (bX (l:=(aer N a)) (by kernel_rfl)))) rfl))) _).trans ((b _).trans (by kernel_rfl));have c:(λz=>aZ N (xO N a) (qf z))=(λz=>aO N (sk N (λy=>a (dR y))) z):=funext λz=>aU (qf) (xO N a) (sk N (λy=>a (dR y))) (ax9 N a) N z
 rw[h,c];rfl
def uK(N:Nat)(a:List eS)(b:gl->Ro):Ro:=let c:=(↑(Aa a):Int);cond (c==0) (some (.tup [vF .fil [],vI 10,vT [],vI 0],[])) (b (a,0))
def api(N:Nat)(a:List eS):Ro:=uK N a (λz=>aO N (xQ N) z)
theorem aAQ(N:Nat)(a:List eS)(h:Tot (api N a) (λz=>∃c d f g rest,z.1.dimR=.tup [vF .fil c,vI d,vT f,vI g]∧z.2=rest∧ab9 a (c,d,f,g))):∃r,acX a r:=aDv.finP (N:=N) ((bD _ (by kernel_rfl) rfl (λC=>uK N a (λz=>C 1000001 (dR z))) (λC=>by kernel_rfl)).trans (AB (b:=uK N a (λz=>aZ N (xP N) (dR z))) (by kernel_rfl) (congrArg (uK N a) (funext λz=>aU (dR) (xP N) (xQ N) (aya N) N z)))) h λ_ ⟨c,d,f,g,_,e,_,q⟩=>⟨(c,d,f,g),e,q⟩
def acm:aG:=tb_ [] [] [] []
def aeU:IR:=Sq (Rs [Mv 7 6,Fa 8 0 2,Lq 9 8,Ll 10 9,Bi 11 .lss 7 10] (Cn 11 .skip (.exit 0))) (Sq (.block 1 (Rs [Fa 14 0 2,Lq 15 14,Mv 16 6,Ix 17 .pms 15 16,Fa 18 0 17,Lo 19 18,Mv 20 1,Bi 21 .eql 19 20] (Cn 21 (Rs [Fa 22 0 2,Lq 23 22,Mv 24 6,Ix 25 .pms 23 24,Ld 26 3 true 25,Sv 3 4 26,Mb 5 true] .ret) .skip))) (Rg [Mv 12 6,Bc 13 .add 12 1,Mv 6 13]))
def aeV:IR:=Rs [Pp (.bld 27 [vS,fu .pfl true,fu .str true] []),Sv 3 4 27,Mb 5 false] .ret
def avV:IR:=Rs [Bx 2 0,Pp (.new 4 [vS,nl .pfl,nl .str]),Mb 5 false] (Sq (Rs [Mi 6 0] (.block 0 (.loop [1,2,4,6,1000000] 1 aeU))) aeV)
theorem avW:FnC Tryz.prog acm [] 0 41 Tryz.f41 avV eE:=fnC Tryz.func41
def at0(R:TR)(a:TS):TE:=(bo a [1,2,4,6,1000000] 1 (aQ 0 (kseq (R aeV) (fin eE))))
abbrev nk:Type:=(Bs×List PMs×List PEn×Int×Bs×List PFl×Bss)
def pI:nk->St:=λ(a,b,c,d,e,f,g)=>{env:=(.undef::vT a::.ea [vF .pms b,vF .pen c]::.undef::.ptr 0 0::.undef::vI d::(U 21 [])),hp:=[some [vT e,vO .pfl f,vO .str g]]}
def ym(N:Nat):TS->TS:=λa s=>run acm N aeU (at0 (run acm N) a) s
def ru(N:Nat)(b:nk->Ro):nk->Ro:=λ(j,a,d,c,e,f,g)=>let o:=(↑(Aa a):Int);let k:=λl h m n p=>(some (.tup [.agg [vT l,.sl .pfl (.may h) m,.sl .str (.may h) n],vB p],[some [vT l,.sl .pfl (.may h) m,.sl .str (.may h) n]]):Ro);cond (decide (c<o)) (chk (ixl c a) (let q:=(Af a (Ad c) (aI .pms));cond (decide (q.name=j)) (chk (ixl c a) (let i:=(Af a (Ad c) (aI .pms));k i.name false i.fields i.oneofs true)) (let r:=(Ab .i64 (c+1));b (j,a,d,r,e,f,g)))) (k [] true [] [] false)
theorem arF(N:Nat):LB (ym N) pI (ru N):=λ_ _=>by kernel_rfl
def oC(N:Nat)(a:List PMs)(b:List PEn)(c:Bs)(d:nk->Ro):Ro:=d (c,a,b,0,[],[],[])
def ahN(N:Nat)(a:List PMs)(b:List PEn)(c:Bs):Ro:=oC N a b c (λz=>aO N (ru N) z)
theorem at1(N:Nat)(a:List PMs)(c:List PEn)(d:Bs)(h:Tot (ahN N a c d) (λz=>∃f g rest,z.1.dimR=.tup [.agg (enc .pms f),vB g]∧z.2=rest∧aeG a c d (f,g))):∃r,gw a c d r:=avW.finP (N:=N) ((bD _ (by kernel_rfl) rfl (λC=>oC N a c d (λz=>C 1000000 (pI z))) (λC=>by kernel_rfl)).trans (AB (b:=oC N a c d (λz=>aZ N (ym N) (pI z))) (by kernel_rfl) (congrArg (oC N a c d) (funext λz=>aU (pI) (ym N) (ru N) (arF N) N z)))) h λ_ ⟨f,g,_,e,_,q⟩=>⟨(f,g),e,q⟩
def agw:aG:=tb_ [] [] [] []
def ahO:IR:=Sq (Rs [Mv 7 6,Fa 8 1 2,Lq 9 8,Ll 10 9,Bi 11 .lss 7 10] (Cn 11 .skip (.exit 0))) (Sq (.block 1 (Rs [Fa 14 1 2,Lq 15 14,Mv 16 6,Ix 17 .pfl 15 16,Fa 18 0 17,Lo 19 18,Mv 20 1,Bi 21 .eql 19 20] (Cn 21 (Rs [Fa 22 1 2,Lq 23 22,Mv 24 6,Ix 25 .pfl 23 24,Ld 26 8 true 25,Sv 8 4 26,Mb 5 true] .ret) .skip))) (Rg [Mv 12 6,Bc 13 .add 12 1,Mv 6 13]))
def ahP:IR:=Rs [Pp (.bld 27 [vI 0,vS,vI 0,vI 0,vS,vI 0,.bool false,vI 0] []),Sv 8 4 27,Mb 5 false] .ret
def aAR:IR:=Rs [Bx 2 0,Pp (.new 4 [vI 0,vS,vI 0,vI 0,vS,vI 0,.bool false,vI 0]),Mb 5 false] (Sq (Rs [Mi 6 0] (.block 0 (.loop [1,2,4,6,1000000] 1 ahO))) ahP)
def aes:List RV:=[.cell 4 8 true,.t 5]
theorem aAS:FnC Tryz.prog agw [] 0 52 Tryz.f52 aAR aes:=fnC Tryz.func52
def ayb(R:TR)(a:TS):TE:=(bo a [1,2,4,6,1000000] 1 (aQ 0 (kseq (R ahP) (fin aes))))
abbrev qg:Type:=(Int×PMs×Int×Int×Bs×Int×Int×Bs×Int×Bool×Int)
def tL:qg->St:=λ(b,c,d,e,f,g,h,i,j,k,a)=>{env:=(.undef::vI b::.ea (enc .pms c)::.undef::.ptr 0 0::.undef::vI d::(U 21 [])),hp:=[some [vI e,vT f,vI g,vI h,vT i,vI j,vB k,vI a]]}
def acn(N:Nat):TS->TS:=λa s=>run agw N ahO (ayb (run agw N) a) s
def vt(N:Nat)(a:qg->Ro):qg->Ro:=λ(m,c,d,e,f,g,h,i,j,k,l)=>let w:=(↑(Aa c.fields):Int);let n:=λo p q r s t u v x=>(some (.tup [.agg [vI o,vT p,vI q,vI r,vT s,vI t,vB u,vI v],vB x],[some [vI o,vT p,vI q,vI r,vT s,vI t,vB u,vI v]]):Ro);cond (decide (d<w)) (chk (ixl d c.fields) (let y:=(Af c.fields (Ad d) (aI .pfl));cond (y.num==m) (chk (ixl d c.fields) (let b:=(Af c.fields (Ad d) (aI .pfl));n b.num b.name b.label b.kind b.typ b.key b.packed b.oneof true)) (let z:=(Ab .i64 (d+1));a (m,c,z,e,f,g,h,i,j,k,l)))) (n 0 [] 0 0 [] 0 false 0 false)
theorem avX(N:Nat):LB (acn N) tL (vt N):=λ_ _=>by kernel_rfl
def sm(N:Nat)(a:PMs)(b:Int)(c:qg->Ro):Ro:=c (b,a,0,0,[],0,0,[],0,false,0)
def amq(N:Nat)(a:PMs)(b:Int):Ro:=sm N a b (λz=>aO N (vt N) z)
theorem ayc(N:Nat)(a:PMs)(c:Int)(h:Tot (amq N a c) (λz=>∃d f rest,z.1.dimR=.tup [.agg (enc .pfl d),vB f]∧z.2=rest∧ahv a c (d,f))):∃r,mU a c r:=aAS.finP (N:=N) ((bD _ (by kernel_rfl) rfl (λC=>sm N a c (λz=>C 1000000 (tL z))) (λC=>by kernel_rfl)).trans (AB (b:=sm N a c (λz=>aZ N (acn N) (tL z))) (by kernel_rfl) (congrArg (sm N a c) (funext λz=>aU (tL) (acn N) (vt N) (avX N) N z)))) h λ_ ⟨d,f,_,e,_,q⟩=>⟨(d,f),e,q⟩
def apj:aG:=tb_ [] [] [] []
def anl:IR:=Rs [Mv 8 0,Nk 9 8,Fa 10 2 9,Lo 11 10,Bc 12 .eql 11 0] (Cn 12 (Rg [Mv 13 0,Mv 14 0,Mv 15 0,Mv 16 1,Mv 17 2,Mv 18 3,Nk 19 13,Fa 20 2 19,Sv 1 20 16,Nk 21 14,Fa 22 3 21,Sv 1 22 17,Nk 23 15,Fa 24 4 23,Sv 1 24 18]) .skip)
theorem anm:FnC Tryz.prog apj [] 1 178 Tryz.f178 anl bp:=fnC Tryz.func178
def abF(N:Nat)(b:List eS)(c:List ch)(a:Int)(d:Bs)(e g:Int)(h:Bs)(i:Int):Ro:=let f:=λj k l=>(some (.tup [],[some [vF .src b,vO .fil c,vI j,vT k,vI l]]):Ro);cond (a==0) (f g h i) (f a d e)
def abG(N:Nat)(a:List eS)(b:List ch)(c:Int)(d:Bs)(e f:Int)(g:Bs)(h:Int):Ro:=abF N a b c d e f g h
theorem alj(N:Nat)(a:List eS)(b:List ch)(c:Int)(d:Bs)(g n:Int)(o:Bs)(p:Int)(h:Tot (abG N a b c d g n o p) (λz=>∃i j k l m rest,z.1.dimR=.tup []∧z.2=some [vF .src i,vO .fil j,vI k,vT l,vI m]::rest∧yM a b c d g n o p (i,j,k,l,m))):∃r,gz a b c d g n o p r:=FnC.finO (css:=[[vF .src a,vO .fil b,vI c,vT d,vI g]]) anm (N:=N) (by kernel_rfl) h λ_ ⟨i,j,k,l,m,_,e,f,q⟩=>⟨(i,j,k,l,m),e,⟨_,f⟩,q⟩
def rv:aG:=tb_ [] [] [] []
def v8:IR:=Sq (Rs [Mv 7 6,Mv 8 0,Nk 9 8,Fa 10 0 9,Lo 11 10,Ll 12 11,Bi 13 .lss 7 12] (Cn 13 .skip (.exit 0))) (Sq (.block 1 (Rs [Mv 16 0,Nk 17 16,Fa 18 0 17,Lo 19 18,Mv 20 6,Ix 21 .src 19 20,Fa 22 0 21,Lo 23 22,Mv 24 1,Bi 25 .eql 23 24] (Cn 25 (Rs [Mv 26 0,Nk 27 26,Fa 28 0 27,Lo 29 28,Mv 30 6,Ix 31 .src 29 30,Fa 32 1 31,Lo 33 32,Mv 4 33,Mb 5 true] .ret) .skip))) (Rg [Mv 14 6,Bc 15 .add 14 1,Mv 6 15]))
def v9:IR:=Rs [Ms 4 [],Mb 5 false] .ret
def yY:IR:=Rs [Ms 4 [],Mb 5 false] (Sq (Rs [Mi 6 0] (.block 0 (.loop [0,1,6,1000000] 1 v8))) v9)
def gH:List RV:=[.t 4,.t 5]
theorem ajw:FnC Tryz.prog rv [] 1 176 Tryz.f176 yY gH:=fnC Tryz.func176
def aiE(R:TR)(a:TS):TE:=(bo a [0,1,6,1000000] 1 (aQ 0 (kseq (R v9) (fin gH))))
abbrev gf:Type:=(Bs×Int×List eS×List ch×Int×Bs×Int)
def jf:gf->St:=λ(a,b,c,d,e,f,g)=>{env:=(.ptr 0 0::vT a::(U 4 (vI b::(U 27 [])))),hp:=[some [vF .src c,vO .fil d,vI e,vT f,vI g]]}
def pd(N:Nat):TS->TS:=λa s=>run rv N v8 (aiE (run rv N) a) s
def kb(N:Nat)(b:gf->Ro):gf->Ro:=λ(h,g,a,c,d,e,f)=>let j:=(↑(Aa a):Int);let i:=λk l=>(some (.tup [vT k,vB l],[some [vF .src a,vO .fil c,vI d,vT e,vI f]]):Ro);cond (decide (g<j)) (chk (ixl g a) (let m:=(Af a (Ad g) (aI .src));cond (decide (m.name=h)) (chk (ixl g a) (let n:=(Af a (Ad g) (aI .src));i n.text true)) (let o:=(Ab .i64 (g+1));b (h,o,a,c,d,e,f)))) (i [] false)
theorem ahg(N:Nat):LB (pd N) jf (kb N):=λ_ _=>by kernel_rfl
def gI(N:Nat)(a:List eS)(b:List ch)(c:Int)(d:Bs)(e:Int)(f:Bs)(g:gf->Ro):Ro:=g (f,0,a,b,c,d,e)
def yZ(N:Nat)(a:List eS)(b:List ch)(c:Int)(d:Bs)(e:Int)(f:Bs):Ro:=gI N a b c d e f (λz=>aO N (kb N) z)
theorem aiF(N:Nat)(a:List eS)(c:List ch)(d:Int)(g:Bs)(i:Int)(j:Bs)(h:Tot (yZ N a c d g i j) (λz=>∃k l m n o p s rest,z.1.dimR=.tup [vT k,vB l]∧z.2=some [vF .src m,vO .fil n,vI o,vT p,vI s]::rest∧jc a c d g i j (k,l,m,n,o,p,s))):∃r,io a c d g i j r:=FnC.finO (css:=[[vF .src a,vO .fil c,vI d,vT g,vI i]]) ajw (N:=N) ((bD _ (by kernel_rfl) rfl (λC=>gI N a c d g i j (λz=>C 1000000 (jf z))) (λC=>by kernel_rfl)).trans (AB (b:=gI N a c d g i j (λz=>aZ N (pd N) (jf z))) (by kernel_rfl) (congrArg (gI N a c d g i j) (funext λz=>aU (jf) (pd N) (kb N) (ahg N) N z)))) h λ_ ⟨k,l,m,n,o,p,s,_,e,f,q⟩=>⟨(k,l,m,n,o,p,s),e,⟨_,f⟩,q⟩
def dA:aG:=tb_ [] [adh,akQ,aoO] [] [aDa,afy]
def za:IR:=Sq (Rs [Mv 68 17,Mv 69 0,Nk 70 69,Fa 71 1 70,Lo 72 71,Ll 73 72,Bi 74 .lss 68 73] (Cn 74 .skip (.exit 2))) (Sq (.block 3 (Rg [Mv 77 16,Mv 78 77,Gf 78 (.mov 79 0),Gf 78 (.nck 80 79),Gf 78 (.fad 81 1 80),Gf 78 (.ld 82 1 false false 81),Gf 78 (.mov 83 17),Gf 78 (.ixa 84 .fil 82 83),Gf 78 (.fad 85 0 84),Gf 78 (.ld 86 1 false false 85),Gf 78 (.mov 87 13),Gf 78 (.bin 88 .eql 86 87),Po 89 78 88,Mv 16 89])) (Rg [Mv 75 17,Bc 76 .add 75 1,Mv 17 76]))
def wU:IR:=Sq (.block 4 (Rs [Mv 91 15,Un 92 91,Mv 90 92] (Cn 90 (Rg [Mv 93 0,Mv 94 1,Ca 95 178 [93,kI 10,94,kI 0]]) (Rs [Mv 97 2,Mv 98 13,Ca 99 179 [97,98],Mv 96 99] (Cn 96 (Rg [Mv 100 0,Mv 101 1,Ca 102 178 [100,kI 6,101,kI 0]]) (Rs [Mv 104 16,Un 105 104,Mv 103 105] (Cn 103 (Rg [Mv 106 0,Mv 107 13,Mv 108 2,Ca 109 126 [106,107,108]]) .skip))))))) (Rs [Mv 110 11,Mv 111 13,Ca 112 179 [110,111],Un 113 112] (Cn 113 (Rg [Pp (.mov 114 (.tk 11)),Mv 115 13,Pp (.bsl 116 .str [115] true),Pp (.app 117 .str (.tk 114) 116),Pp (.mov 11 (.tk 117))]) .skip))
def wV:IR:=Rg [Mv 55 12,Bc 56 .add 55 1,Mv 12 56]
def kc:IR:=Sq (Rs [Mv 43 12,Fa 44 1 8,Lq 45 44,Ll 46 45,Bi 47 .lss 43 46,Mv 48 47,Gt 48 (.mov 49 0),Gt 48 (.nck 50 49),Gt 48 (.fad 51 2 50),Gt 48 (.ld 52 1 false false 51),Gt 48 (.bin 53 .eql 52 (kI 0)),Pa 54 48 53] (Cn 54 .skip (.exit 0))) (Sq (.block 1 (Rs [Fa 57 1 8,Lq 58 57,Mv 59 12,Ix 60 .str 58 59,Lq 61 60,Mv 13 61] (Rs [Mv 63 0,Mv 64 13,Ca 65 176 [63,64],Mv 62 65,Ex_ 66 0 62,Ex_ 67 1 62,Mv 14 66,Mv 15 67] (Rs [Mb 16 false] (Sq (Rs [Mi 17 0] (.block 2 (.loop [0,1,2,8,11,12,13,15,16,17,1000000] 1 za))) wU))))) wV)
def pe:IR:=.reg [Mv 118 0,Mv 119 0,Nk 120 119,Fa 121 1 120,Fo [] [0] (.ld 122 1 false true 121),Mv 123 1,Ld 124 4 true 8,Pp (.mov 125 (.tk 11)),Mv 126 1,Pp (.bsl 127 .str [126] true),Pp (.app 128 .str (.tk 125) 127),Pp (.bld 129 [vS,vS,fu .str true,fu .fmsg true,fu .pen true,fu .str true] [(0,1,123),(1,4,124),(5,1,128)]),Pp (.bsl 130 .fil [129] true),Pp (.app 131 .fil (.tk 122) 130),Nk 132 118,Fa 133 1 132,Fo [] [0] (.st none 1 133 (.tk 131))] [[],[],[1],[1,2],[1,2,3],[],[],[],[],[8],[7,8,9],rg 5 10,rg 5 11,rg 1 12,rg 0 13,rg 0 14,rg 0 15]
def abH:IR:=Rs [Mv 19 0,Mv 20 1,Ca 21 176 [19,20],Mv 18 21,Ex_ 22 0 18,Ex_ 23 1 18,Mv 6 22,Mv 7 23] (Rs [Mv 25 6,Ca 26 177 [25],Mv 24 26,Ex_ 27 0 24,Ex_ 28 1 24,Ex_ 29 2 24,Pp (.alr 8 4),Fz 8 4 27,Mv 9 28,Mv 10 29] (Sq (Rs [Mv 30 9,Bc 31 .neq 30 0] (Cn 31 (Rs [Mv 32 0,Mv 33 9,Mv 34 1,Mv 35 10,Ca 36 178 [32,33,34,35]] .ret) .skip)) (Rs [Pp (.bsl 37 .str [] false),Mv 38 2,Pp (.app 39 .str (.tk 37) 38),Mv 40 1,Pp (.bsl 41 .str [40] true),Pp (.app 42 .str (.tk 39) 41),Mv 2 42] (Rs [Pp (.mov 11 (.c (nl .str)))] (Sq (Rs [Mi 12 0] (.block 0 (.loop [0,1,2,8,11,12,1000001] 1 kc))) pe)))))
theorem ann:FnC Tryz.prog dA [126,176,178,2000126,2000176,2000178] 1 126 Tryz.f126 abH bp:=fnC Tryz.func126
def mg(R:TR)(a:TS):TE:=(bo a [0,1,2,8,11,12,1000001] 1 (aQ 0 (kseq (R pe) (fin bp))))
abbrev dw:Type:=(Bs×Bss×Bs×Bss×List bi×List PEn×Bss×Int×List eS×List ch×Int×Bs×Int)
def cz:dw->St:=λ(d,e,f,g,h,i,j,k,l,m,a,b,c)=>{env:=(.ptr 0 0::vT d::vF .str e::(U 5 (.ea [vT f,vF .str g,vF .fmsg h,vF .pen i]::.undef::.undef::vO .str j::vI k::(U 121 [])))),hp:=[some [vF .src l,vO .fil m,vI a,vT b,vI c]]}
def alk(R:TR)(a b:TS):TE:=(bo b [0,1,2,8,11,12,13,15,16,17,1000000] 1 (aQ 2 (kseq (R wU) (aQ 1 (kseq (R wV) (mg R a))))))
abbrev mh:Type:=(Bs×Bss×Bs×Bss×List bi×List PEn×Bss×Int×Bs×Bool×Bool×Int×List eS×List ch×Int×Bs×Int)
def gJ:mh->St:=λ(h,i,j,k,l,m,n,o,p,q,a,b,c,d,e,f,g)=>{env:=(.ptr 0 0::vT h::vF .str i::(U 5 (.ea [vT j,vF .str k,vF .fmsg l,vF .pen m]::.undef::.undef::vO .str n::vI o::vT p::.undef::vB q::vB a::vI b::(U 116 [])))),hp:=[some [vF .src c,vO .fil d,vI e,vT f,vI g]]}
def mi(N:Nat)(a:TS):TS->TS:=λb s=>run dA N za (alk (run dA N) a b) s
def fV(N:Nat)(a:dw->Ro)(t:mh->Ro):mh->Ro:=λ(p,q,d,e,f,g,b,j,c,u,v,o,k,h,l,m,n)=>let Z:=(↑(Aa h):Int);let A:=λw x=>t (p,q,d,e,f,g,b,j,c,u,w,x,k,h,l,m,n);let B:=λw x=>a (p,q,d,e,f,g,w,x,k,h,l,m,n);cond (decide (o<Z)) (cond v (let I:=(Ab .i64 (o+1));A true I) (chk (ixl o h) (let X:=(Af h (Ad o) (aI .fil));let J:=(Ab .i64 (o+1));A (decide (X.name=c)) J))) (cond (!u) (aA (gz k h l m n 10 p 0) (λr=>aA (eL b c) (λ(R:Bool)=>cond (!R) (chk (decide ((Aa b+Aa ([c]:Bss))*16<=140737488355328)) (let F:=(b++([c]:Bss));let y:=(Ab .i64 (j+1));a (p,q,d,e,f,g,F,y,r.1,r.2.1,r.2.2.1,r.2.2.2.1,r.2.2.2.2))) (let z:=(Ab .i64 (j+1));a (p,q,d,e,f,g,b,z,r.1,r.2.1,r.2.2.1,r.2.2.2.1,r.2.2.2.2))))) (aA (eL q c) (λ(C:Bool)=>cond C (aA (gz k h l m n 6 p 0) (λs=>aA (eL b c) (λ(H:Bool)=>cond (!H) (chk (decide ((Aa b+Aa ([c]:Bss))*16<=140737488355328)) (let E:=(b++([c]:Bss));let S:=(Ab .i64 (j+1));a (p,q,d,e,f,g,E,S,s.1,s.2.1,s.2.2.1,s.2.2.2.1,s.2.2.2.2))) (let D:=(Ab .i64 (j+1));a (p,q,d,e,f,g,b,D,s.1,s.2.1,s.2.2.1,s.2.2.2.1,s.2.2.2.2))))) (cond (!v) (aA (ks k h l m n c q) (λi=>aA (eL b c) (λ(M:Bool)=>cond (!M) (chk (decide ((Aa b+Aa ([c]:Bss))*16<=140737488355328)) (let L:=(b++([c]:Bss));let O:=(Ab .i64 (j+1));a (p,q,d,e,f,g,L,O,i.1,i.2.1,i.2.2.1,i.2.2.2.1,i.2.2.2.2))) (let W:=(Ab .i64 (j+1));a (p,q,d,e,f,g,b,W,i.1,i.2.1,i.2.2.1,i.2.2.2.1,i.2.2.2.2))))) (aA (eL b c) (λ(Q:Bool)=>cond (!Q) (chk (decide ((Aa b+Aa ([c]:Bss))*16<=140737488355328)) (let Y:=(b++([c]:Bss));let P:=(Ab .i64 (j+1));B Y P)) (let G:=(Ab .i64 (j+1));B b G)))))))
theorem ajx(N:Nat)(a:TS):LB (mi N a) gJ (fV N (λy=>a (cz y))):=λ_ _=>by kernel_rfl
def mj(N:Nat):TS->TS:=λa s=>run dA N kc (mg (run dA N) a) s
def lh(N:Nat)(p:dw->Ro)(u:mh->Ro):dw->Ro:=λ(h,v,b,a,c,d,f,i,j,e,g,k,l)=>let w:=(↑(Aa a):Int);let s:=λx=>(some (.tup [],[some [vF .src j,vO .fil x,vI g,vT k,vI l]]):Ro);cond (decide (i<w)) (cond (g==0) (chk (ixl i a) (let t:=Af a (Ad i) (aI .str);aA (io j e g k l t) (λm=>u (h,v,b,a,c,d,f,i,t,m.2.1,false,0,m.2.2.1,m.2.2.2.1,m.2.2.2.2.1,m.2.2.2.2.2.1,m.2.2.2.2.2.2)))) (chk (decide ((Aa f+Aa ([h]:Bss))*16<=140737488355328)) (let n:=(f++([h]:Bss));chk (decide ((Aa e+Aa ([⟨h,b,a,c,d,n⟩]:List ch))*128<=140737488355328)) (let q:=(e++([⟨h,b,a,c,d,n⟩]:List ch));s q)))) (chk (decide ((Aa f+Aa ([h]:Bss))*16<=140737488355328)) (let o:=(f++([h]:Bss));chk (decide ((Aa e+Aa ([⟨h,b,a,c,d,o⟩]:List ch))*128<=140737488355328)) (let r:=(e++([⟨h,b,a,c,d,o⟩]:List ch));s r)))
def ml(N:Nat)(a:dw->Ro)(x:dw):Ro:=lh N a (λz=>aO N (fV N a) z) x
def rx(N:Nat)(a:TS):List (Nat×(TS)):=(cT dA N kc (mg (run dA N) a)++(cT dA N pe (fin bp)++[]))
theorem ajy(N:Nat):∀(a:TS)(x:dw),mj N a (cz x)=ml N (λy=>a (cz y)) x:=by
 intro a x;have b:∀C:Nat->TS,c8 C dA N kc (mg (c8 C dA N) a) (cz x)=lh N (λy=>a (cz y)) (λz=>C 1000000 (gJ z)) x:=by intro C;kernel_rfl
 have h:mj N a (cz x)=lh N (λy=>a (cz y)) (λz=>aZ N (mi N a) (gJ z)) x:=(eI (C:=gW (rx N a)) (dI (bX (l:=(rx N a)) (by kernel_rfl))) (ij (ew (nC (dI (jY (bX (l:=(rx N a)) (by kernel_rfl)))) rfl))) _).trans ((b _).trans (by kernel_rfl));have c:(λz=>aZ N (mi N a) (gJ z))=(λz=>aO N (fV N (λy=>a (cz y))) z):=funext λz=>aU (gJ) (mi N a) (fV N (λy=>a (cz y))) (ajx N a) N z
 rw[h,c];rfl
def js(N:Nat)(c:List eS)(d:List ch)(e:Int)(f:Bs)(g:Int)(h:Bs)(j:Bss)(l:dw->Ro):Ro:=aA (io c d e f g h) (λa=>aA (z5 a.1) (λb=>cond (!(b.2.2.2.2.1==0)) (aA (gz a.2.2.1 a.2.2.2.1 a.2.2.2.2.1 a.2.2.2.2.2.1 a.2.2.2.2.2.2 b.2.2.2.2.1 h b.2.2.2.2.2) (λi=>some (.tup [],[some [vF .src i.1,vO .fil i.2.1,vI i.2.2.1,vT i.2.2.2.1,vI i.2.2.2.2]]))) (chk (decide ((Aa ([]:Bss)+Aa j)*16<=140737488355328)) (let k:=([]++j);chk (decide ((Aa k+Aa ([h]:Bss))*16<=140737488355328)) (let m:=(k++([h]:Bss));l (h,m,b.1,b.2.1,b.2.2.1,b.2.2.2.1,[],0,a.2.2.1,a.2.2.2.1,a.2.2.2.2.1,a.2.2.2.2.2.1,a.2.2.2.2.2.2))))))
def abI(N:Nat)(a:List eS)(b:List ch)(c:Int)(d:Bs)(e:Int)(f:Bs)(g:Bss):Ro:=js N a b c d e f g (λz=>aO N (ml N) z)
theorem alm(N:Nat)(a:List eS)(c:List ch)(d:Int)(g:Bs)(i:Int)(j:Bs)(k:Bss)(h:Tot (abI N a c d g i j k) (λz=>∃l m n o p rest,z.1.dimR=.tup []∧z.2=some [vF .src l,vO .fil m,vI n,vT o,vI p]::rest∧pU a c d g i j k (l,m,n,o,p))):∃r,ks a c d g i j k r:=FnC.finO (css:=[[vF .src a,vO .fil c,vI d,vT g,vI i]]) ann (N:=N) ((bD _ (by kernel_rfl) rfl (λC=>js N a c d g i j k (λz=>C 1000001 (cz z))) (λC=>by kernel_rfl)).trans (AB (b:=js N a c d g i j k (λz=>aZ N (mj N) (cz z))) (by kernel_rfl) (congrArg (js N a c d g i j k) (funext λz=>aU (cz) (mj N) (ml N) (ajy N) N z)))) h λ_ ⟨l,m,n,o,p,_,e,f,q⟩=>⟨(l,m,n,o,p),e,⟨_,f⟩,q⟩
def aFA:aG:=tb_ [] [] [] [aDb]
def aDw:IR:=Rs [Ms 2 []] (Sq (Rs [Mv 3 0,Bc 4 .lss 3 0] (Cn 4 (Rs [Mv 5 0,Bc 6 .add 5 1,Pp (.un 7 .neg 6),Pp (.cvi 8 .u64 7),Pp (.bin 9 .add 8 (kU 1)),Ca 10 184 [9],Pp (.bin 11 .add (kS [45]) 10),Mv 2 11] .ret) .skip)) (Rs [Mv 12 0,Pp (.cvi 13 .u64 12),Ca 14 184 [13],Mv 2 14] .ret))
theorem aDx:FnC Tryz.prog aFA [] 0 134 Tryz.f134 aDw aF:=fnC Tryz.func134
def apk(N:Nat)(a:Int):Ro:=cond (decide (a<0)) (let c:=(Ab .i64 (a+1));let d:=(Ab .i64 (0-c));let e:=(Ab .u64 ((Ab .u64 d)+1));aA (uv e) (λ(b:Bs)=>chk (decide (Aa ([45]:Bs)+Aa b<=9223372036854775807)) (let f:=([45]++b);some (vT f,[])))) (aA (uv (Ab .u64 a)) (λ(g:Bs)=>some (vT g,[])))
def apl(N:Nat)(a:Int):Ro:=apk N a
theorem aAT(N:Nat)(b:Int)(h:Tot (apl N b) (λz=>∃a rest,z.1.dimR=vT a∧z.2=rest∧u6 b (a))):∃r,hY b r:=aDx.finP (N:=N) (by kernel_rfl) h λ_ ⟨a,_,e,_,q⟩=>⟨(a),e,q⟩
def agx:aG:=tb_ [] [] [] []
def ahQ:IR:=.block 1 (Rs [Mv 4 0,Pp (.bin 5 .rem 4 (kU 10)),Pp (.bin 6 .add (kU 48) 5),Pp (.cvi 7 .u8 6),Pp (.bsl 8 .u8 [7] true),Pp (.b2s 9 8),Mv 10 3,Bi 11 .add 9 10,Mv 3 11] (Rs [Mv 12 0,Pp (.bin 13 .quo 12 (kU 10)),Mv 0 13] (Rs [Mv 14 0,Pp (.bin 15 .eql 14 (kU 0))] (Cn 15 (Rs [Mv 16 3,Mv 2 16] .ret) .skip))))
def aAU:IR:=Rs [Ms 2 []] (Rs [Ms 3 []] (.block 0 (.loop [0,3,1000000] 0 ahQ)))
theorem aAV:FnC Tryz.prog agx [] 0 184 Tryz.f184 aAU aF:=fnC Tryz.func184
def ayd(R:TR)(a:TS):TE:=(bo a [0,3,1000000] 0 (aQ 0 (fin aF)))
def tM:fg->St:=λ(a,b)=>{env:=(vU a::.undef::.undef::vT b::(U 13 [])),hp:=[]}
def aco(N:Nat):TS->TS:=λa s=>run agx N ahQ (ayd (run agx N) a) s
def vu(N:Nat)(a:fg->Ro):fg->Ro:=λ(b,c)=>let d:=(Ab .u64 (48+(AQ b 10)));chk (decide (Aa ([(AC (Ad (Ab .u8 d)))]:Bs)+Aa c<=9223372036854775807)) (let e:=(([(AC (Ad (Ab .u8 d)))]:Bs)++c);let f:=(Ab .u64 (Bn b 10));cond (f==0) (some (vT e,[])) (a (f,e)))
theorem avY(N:Nat):LB (aco N) tM (vu N):=λ_ _=>by kernel_rfl
def sp(N:Nat)(a:Int)(b:fg->Ro):Ro:=b (a,[])
def amr(N:Nat)(a:Int):Ro:=sp N a (λz=>aO N (vu N) z)
theorem aye(N:Nat)(a:Int)(h:Tot (amr N a) (λz=>∃c rest,z.1.dimR=vT c∧z.2=rest∧kV a (c))):∃r,uv a r:=aAV.finP (N:=N) ((bD _ (by kernel_rfl) rfl (λC=>sp N a (λz=>C 1000000 (tM z))) (λC=>by kernel_rfl)).trans (AB (b:=sp N a (λz=>aZ N (aco N) (tM z))) (by kernel_rfl) (congrArg (sp N a) (funext λz=>aU (tM) (aco N) (vu N) (avY N) N z)))) h λ_ ⟨c,_,e,_,q⟩=>⟨(c),e,q⟩
def aFB:aG:=tb_ [] [] [] []
def apm:IR:=Rs [Mi 2 0] (Sq (Rs [Mv 3 0] (.block 0 (Sq (Rs [Bc 5 .eql 3 1,Mv 4 5] (Cn 4 .skip (Rs [Bc 6 .eql 3 10,Mv 4 6] (Cn 4 .skip (Rg [Bc 7 .eql 3 12,Mv 4 7]))))) (Cn 4 (Rs [Mi 2 1] .ret) (Sq (Rs [Bc 9 .eql 3 2,Mv 8 9] (Cn 8 .skip (Rs [Bc 10 .eql 3 9,Mv 8 10] (Cn 8 .skip (Rg [Bc 11 .eql 3 11,Mv 8 11]))))) (Cn 8 (Rs [Mi 2 5] .ret) (Sq (Rs [Bc 13 .eql 3 14,Mv 12 13] (Cn 12 .skip (Rs [Bc 14 .eql 3 15,Mv 12 14] (Cn 12 .skip (Rg [Bc 15 .eql 3 16,Mv 12 15]))))) (Cn 12 (Rs [Mi 2 2] .ret) (Sq (Rs [Bc 17 .eql 3 3,Mv 16 17] (Cn 16 .skip (Rs [Bc 18 .eql 3 4,Mv 16 18] (Cn 16 .skip (Rs [Bc 19 .eql 3 5,Mv 16 19] (Cn 16 .skip (Rs [Bc 20 .eql 3 6,Mv 16 20] (Cn 16 .skip (Rs [Bc 21 .eql 3 7,Mv 16 21] (Cn 16 .skip (Rs [Bc 22 .eql 3 8,Mv 16 22] (Cn 16 .skip (Rs [Bc 23 .eql 3 13,Mv 16 23] (Cn 16 .skip (Rg [Bc 24 .eql 3 17,Mv 16 24]))))))))))))))) (Cn 16 (Rs [Mi 2 0] .ret) .skip)))))))))) (Rs [Mi 2 (-1)] .ret))
theorem aDy:FnC Tryz.prog aFB [] 0 53 Tryz.f53 apm aF:=fnC Tryz.func53
def apn(N:Nat)(a:Int):Ro:=cond (a==1) (some (vI 1,[])) (cond (a==10) (some (vI 1,[])) (cond (a==12) (some (vI 1,[])) (cond (a==2) (some (vI 5,[])) (cond (a==9) (some (vI 5,[])) (cond (a==11) (some (vI 5,[])) (cond (a==14) (some (vI 2,[])) (cond (a==15) (some (vI 2,[])) (cond (a==16) (some (vI 2,[])) (cond (a==3) (some (vI 0,[])) (cond (a==4) (some (vI 0,[])) (cond (a==5) (some (vI 0,[])) (cond (a==6) (some (vI 0,[])) (cond (a==7) (some (vI 0,[])) (cond (a==8) (some (vI 0,[])) (cond (a==13) (some (vI 0,[])) (cond (a==17) (some (vI 0,[])) (some (vI (-1),[]))))))))))))))))))
def apq(N:Nat)(a:Int):Ro:=apn N a
theorem aAW(N:Nat)(b:Int)(h:Tot (apq N b) (λz=>∃a rest,z.1.dimR=vI a∧z.2=rest∧ab5 b (a))):∃r,j3 b r:=aDy.finP (N:=N) (by kernel_rfl) h λ_ ⟨a,_,e,_,q⟩=>⟨(a),e,q⟩
def aAX:aG:=tb_ [] [] [] []
def ayf:IR:=Rs [Pp (.mov 2 (kU 0))] (Rs [Mv 3 0,Pp (.bin 4 .rem 3 (kU 4294967296)),Mv 0 4] (Sq (Rs [Mv 5 0,Pp (.bin 6 .geq 5 (kU 2147483648))] (Cn 6 (Rs [Mv 7 0,Pp (.bin 8 .add 7 (kU 18446744069414584320)),Mv 2 8] .ret) .skip)) (Rs [Mv 9 0,Mv 2 9] .ret)))
theorem ayg:FnC Tryz.prog aAX [] 0 153 Tryz.f153 ayf aF:=fnC Tryz.func153
def ajz(N:Nat)(a:Int):Ro:=let b:=decide (2147483648<=(AQ a 4294967296));cond b (let c:=(Ab .u64 ((AQ a 4294967296)+18446744069414584320));some (vU c,[])) (some (vU (AQ a 4294967296),[]))
def ajA(N:Nat)(a:Int):Ro:=ajz N a
theorem avZ(N:Nat)(b:Int)(h:Tot (ajA N b) (λz=>∃a rest,z.1.dimR=vU a∧z.2=rest∧qR b (a))):∃r,fN b r:=ayg.finP (N:=N) (by kernel_rfl) h λ_ ⟨a,_,e,_,q⟩=>⟨(a),e,q⟩
def aHv:aG:=tb_ [] [] [] []
def aFC:IR:=Rs [Pp (.mov 2 (kU 0))] (Sq (Rs [Mv 3 0,Pp (.bin 4 .rem 3 (kU 2)),Pp (.bin 5 .eql 4 (kU 1))] (Cn 5 (Rs [Mv 6 0,Pp (.bin 7 .quo 6 (kU 2)),Pp (.un 8 .xor 7),Mv 2 8] .ret) .skip)) (Rs [Mv 9 0,Pp (.bin 10 .quo 9 (kU 2)),Mv 2 10] .ret))
theorem aFD:FnC Tryz.prog aHv [] 0 185 Tryz.f185 aFC aF:=fnC Tryz.func185
def asQ(N:Nat)(a:Int):Ro:=cond ((AQ a 2)==1) (let b:=(Ab .u64 (Bn a 2));let c:=(bE .xor .u64 (if AN .u64 then -1 else Bo .u64) b);some (vU c,[])) (let d:=(Ab .u64 (Bn a 2));some (vU d,[]))
def asR(N:Nat)(a:Int):Ro:=asQ N a
theorem aDz(N:Nat)(b:Int)(h:Tot (asR N b) (λz=>∃a rest,z.1.dimR=vU a∧z.2=rest∧xn b (a))):∃r,z6 b r:=aFD.finP (N:=N) (by kernel_rfl) h λ_ ⟨a,_,e,_,q⟩=>⟨(a),e,q⟩
def aHw:aG:=tb_ [] [] [] []
def aFE:IR:=Rs [Pp (.mov 2 (kU 0))] (Sq (Rs [Mv 3 0,Pp (.bin 4 .geq 3 (kU 9223372036854775808))] (Cn 4 (Rs [Mv 5 0,Pp (.un 6 .xor 5),Pp (.bin 7 .mul 6 (kU 2)),Pp (.bin 8 .add 7 (kU 1)),Mv 2 8] .ret) .skip)) (Rs [Mv 9 0,Pp (.bin 10 .mul 9 (kU 2)),Mv 2 10] .ret))
theorem aFF:FnC Tryz.prog aHw [] 0 154 Tryz.f154 aFE aF:=fnC Tryz.func154
def asS(N:Nat)(a:Int):Ro:=let b:=decide (9223372036854775808<=a);cond b (let c:=(bE .xor .u64 (if AN .u64 then -1 else Bo .u64) a);let d:=(Ab .u64 (c*2));let e:=(Ab .u64 (d+1));some (vU e,[])) (let f:=(Ab .u64 (a*2));some (vU f,[]))
def asT(N:Nat)(a:Int):Ro:=asS N a
theorem aDA(N:Nat)(b:Int)(h:Tot (asT N b) (λz=>∃a rest,z.1.dimR=vU a∧z.2=rest∧xo b (a))):∃r,z4 b r:=aFF.finP (N:=N) (by kernel_rfl) h λ_ ⟨a,_,e,_,q⟩=>⟨(a),e,q⟩
def aFG:aG:=tb_ [] [] [] [al8,aHs]
def aDB:IR:=Rs [Pp (.mov 4 (kU 0))] (Sq (Rs [Mv 5 0] (.block 0 (Sq (Rs [Bc 7 .eql 5 3,Mv 6 7] (Cn 6 .skip (Rs [Bc 8 .eql 5 17,Mv 6 8] (Cn 6 .skip (Rg [Bc 9 .eql 5 11,Mv 6 9]))))) (Cn 6 (Rs [Mv 10 1,Ca 11 153 [10],Mv 4 11] .ret) (Sq (Rs [Bc 13 .eql 5 5,Mv 12 13] (Cn 12 .skip (Rs [Bc 14 .eql 5 9,Mv 12 14] (Cn 12 .skip (Rg [Bc 15 .eql 5 2,Mv 12 15]))))) (Cn 12 (Rs [Mv 16 1,Pp (.bin 17 .rem 16 (kU 4294967296)),Mv 4 17] .ret) (Rs [Bc 19 .eql 5 13,Mv 18 19] (Cn 18 (Rs [Mv 20 1,Pp (.mx 21 true 20 (kU 1)),Mv 4 21] .ret) (Rs [Bc 23 .eql 5 7,Mv 22 23] (Cn 22 (Rs [Mv 24 1,Pp (.bin 25 .rem 24 (kU 4294967296)),Ca 26 185 [25],Ca 27 153 [26],Mv 4 27] .ret) (Rs [Bc 29 .eql 5 8,Mv 28 29] (Cn 28 (Rs [Mv 30 1,Ca 31 185 [30],Mv 4 31] .ret) .skip)))))))))))) (Rs [Mv 32 1,Mv 4 32] .ret))
theorem aDC:FnC Tryz.prog aFG [] 0 137 Tryz.f137 aDB aR:=fnC Tryz.func137
def apr(N:Nat)(a b:Int):Ro:=let c:=(some (vU (AQ b 4294967296),[]):Ro);cond (a==3) (aA (fN b) (λ(d:Int)=>some (vU d,[]))) (cond (a==17) (aA (fN b) (λ(e:Int)=>some (vU e,[]))) (cond (a==11) (aA (fN b) (λ(f:Int)=>some (vU f,[]))) (cond (a==5) (c) (cond (a==9) (c) (cond (a==2) (c) (cond (a==13) (let g:=(if 1<b then 1 else b);some (vU g,[])) (cond (a==7) (aA (z6 (AQ b 4294967296)) (λ(h:Int)=>aA (fN h) (λ(i:Int)=>some (vU i,[])))) (cond (a==8) (aA (z6 b) (λ(j:Int)=>some (vU j,[]))) (some (vU b,[]))))))))))
def aps(N:Nat)(a b:Int):Ro:=apr N a b
theorem aAY(N:Nat)(b c:Int)(h:Tot (aps N b c) (λz=>∃a rest,z.1.dimR=vU a∧z.2=rest∧ab6 b c (a))):∃r,wI b c r:=aDC.finP (N:=N) (by kernel_rfl) h λ_ ⟨a,_,e,_,q⟩=>⟨(a),e,q⟩
def aIU:aG:=tb_ [] [] [] [al8,aHq]
def aHx:IR:=Rs [Pp (.mov 4 (kU 0))] (Sq (Rs [Mv 5 0] (.block 0 (Sq (Rs [Bc 7 .eql 5 3,Mv 6 7] (Cn 6 .skip (Rg [Bc 8 .eql 5 17,Mv 6 8]))) (Cn 6 (Rs [Mv 9 1,Ca 10 153 [9],Mv 4 10] .ret) (Sq (Rs [Bc 12 .eql 5 5,Mv 11 12] (Cn 11 .skip (Rs [Bc 13 .eql 5 9,Mv 11 13] (Cn 11 .skip (Rs [Bc 14 .eql 5 2,Mv 11 14] (Cn 11 .skip (Rg [Bc 15 .eql 5 11,Mv 11 15]))))))) (Cn 11 (Rs [Mv 16 1,Pp (.bin 17 .rem 16 (kU 4294967296)),Mv 4 17] .ret) (Rs [Bc 19 .eql 5 13,Mv 18 19] (Cn 18 (Rs [Mv 20 1,Pp (.mx 21 true 20 (kU 1)),Mv 4 21] .ret) (Rs [Bc 23 .eql 5 7,Mv 22 23] (Cn 22 (Rs [Mv 24 1,Ca 25 153 [24],Ca 26 154 [25],Pp (.bin 27 .rem 26 (kU 4294967296)),Mv 4 27] .ret) (Rs [Bc 29 .eql 5 8,Mv 28 29] (Cn 28 (Rs [Mv 30 1,Ca 31 154 [30],Mv 4 31] .ret) .skip)))))))))))) (Rs [Mv 32 1,Mv 4 32] .ret))
theorem aHy:FnC Tryz.prog aIU [] 0 100 Tryz.f100 aHx aR:=fnC Tryz.func100
def av0(N:Nat)(b a:Int):Ro:=let c:=λd=>(some (vU (AQ d 4294967296),[]):Ro);cond (b==3) (aA (fN a) (λ(e:Int)=>some (vU e,[]))) (cond (b==17) (aA (fN a) (λ(f:Int)=>some (vU f,[]))) (cond (b==5) (c a) (cond (b==9) (c a) (cond (b==2) (c a) (cond (b==11) (c a) (cond (b==13) (let g:=(if 1<a then 1 else a);some (vU g,[])) (cond (b==7) (aA (fN a) (λ(h:Int)=>aA (z4 h) (λ(i:Int)=>c i))) (cond (b==8) (aA (z4 a) (λ(j:Int)=>some (vU j,[]))) (some (vU a,[]))))))))))
def av1(N:Nat)(a b:Int):Ro:=av0 N a b
theorem aFH(N:Nat)(b c:Int)(h:Tot (av1 N b c) (λz=>∃a rest,z.1.dimR=vU a∧z.2=rest∧afY b c (a))):∃r,yO b c r:=aHy.finP (N:=N) (by kernel_rfl) h λ_ ⟨a,_,e,_,q⟩=>⟨(a),e,q⟩
def aFI:aG:=tb_ [] [] [] [wH,aoM,asF]
def aDD:IR:=Rs [Mb 4 false] (Rs [Mv 5 0,Bc 6 .geq 5 1,Mv 7 6,Gt 7 (.mov 8 0),Gt 7 (.bin 9 .leq 8 (kI 17)),Pa 10 7 9,Mv 11 10,Gt 11 (.mov 12 0),Gt 11 (.call 13 53 [12]),Gt 11 (.bin 14 .neq 13 (kI 2)),Pa 15 11 14,Mv 16 15,Gt 16 (.mov 17 0),Gt 16 (.mov 18 0),Gt 16 (.mov 19 1),Gt 16 (.call 20 100 [18,19]),Gt 16 (.call 21 137 [17,20]),Gt 16 (.mov 22 1),Gt 16 (.bin 23 .eql 21 22),Pa 24 16 23,Mv 4 24] .ret)
theorem aDE:FnC Tryz.prog aFI [] 0 161 Tryz.f161 aDD aR:=fnC Tryz.func161
def apt(N:Nat)(a b:Int):Ro:=cond (decide (1<=a)) (cond (decide (a<=17)) (aA (j3 a) (λ(c:Int)=>cond (!(c==2)) (aA (yO a b) (λ(d:Int)=>aA (wI a d) (λ(e:Int)=>some (vB (e==b),[])))) (some (vB false,[])))) (some (vB false,[]))) (some (vB false,[]))
def apv(N:Nat)(a b:Int):Ro:=apt N a b
theorem aAZ(N:Nat)(b c:Int)(h:Tot (apv N b c) (λz=>∃a rest,z.1.dimR=vB a∧z.2=rest∧ab7 b c (a))):∃r,acZ b c r:=aDE.finP (N:=N) (by kernel_rfl) h λ_ ⟨a,_,e,_,q⟩=>⟨(a),e,q⟩
def agy:aG:=tb_ [] [] [] []
def agz:IR:=Sq (Rs [Mv 50 8,Mv 51 5,Bi 52 .lss 50 51] (Cn 52 .skip (.exit 1))) (Sq (.block 2 (Sq (Rs [Mv 55 0,Mv 56 8,Pp (.idx 57 55 56),Pp (.bin 58 .lss 57 (.c (.int .u8 128))),Mv 59 58,Gf 59 (.mov 60 0),Gf 59 (.mov 61 8),Gf 59 (.idx 62 60 61),Gf 59 (.bin 63 .gtr 62 (.c (.int .u8 191))),Po 64 59 63] (Cn 64 (Rs [Pp (.mov 2 (.c (.int .u32 0))),Mi 3 0] .ret) .skip)) (Rg [Mv 65 6,Pp (.bin 66 .mul 65 (.c (.int .u32 64))),Mv 67 0,Mv 68 8,Pp (.idx 69 67 68),Pp (.bin 70 .sub 69 (.c (.int .u8 128))),Pp (.cvi 71 .u32 70),Bi 72 .add 66 71,Mv 6 72]))) (Rg [Mv 53 8,Bc 54 .add 53 1,Mv 8 54]))
def agA:IR:=Sq (Rs [Mv 73 6,Mv 74 7,Bi 75 .lss 73 74,Mv 76 75,Gf 76 (.mov 77 6),Gf 76 (.bin 78 .gtr 77 (.c (.int .u32 1114111))),Po 79 76 78,Mv 80 79,Gf 80 (.mov 81 6),Gf 80 (.bin 82 .geq 81 (.c (.int .u32 55296))),Gf 80 (.mov 83 82),Gt 83 (.mov 84 6),Gt 83 (.bin 85 .leq 84 (.c (.int .u32 57343))),Gf 80 (.pick 86 83 85 (kB false)),Po 87 80 86] (Cn 87 (Rs [Pp (.mov 2 (.c (.int .u32 0))),Mi 3 0] .ret) .skip)) (Rs [Mv 88 6,Mv 89 5,Mv 2 88,Mv 3 89] .ret)
def ams:IR:=Rs [Pp (.mov 2 (.c (.int .u32 0))),Mi 3 0] (Sq (Rs [Mv 9 0,Pp (.lens 10 9),Bc 11 .eql 10 0] (Cn 11 (Rs [Pp (.mov 2 (.c (.int .u32 0))),Mi 3 0] .ret) .skip)) (Rs [Mv 12 0,Pp (.idx 13 12 (kI 0)),Pp (.cvi 14 .u32 13),Mv 4 14] (Rs [Mi 5 0,Pp (.mov 6 (.c (.int .u32 0))),Pp (.mov 7 (.c (.int .u32 0)))] (Sq (.block 0 (Rs [Mv 16 4,Pp (.bin 17 .lss 16 (.c (.int .u32 128))),Mv 15 17] (Cn 15 (Rs [Mv 18 4,Mv 2 18,Mi 3 1] .ret) (Rs [Mv 20 4,Pp (.bin 21 .geq 20 (.c (.int .u32 192))),Mv 22 21,Gt 22 (.mov 23 4),Gt 22 (.bin 24 .lss 23 (.c (.int .u32 224))),Pa 25 22 24,Mv 19 25] (Cn 19 (Rg [Mv 26 4,Pp (.bin 27 .sub 26 (.c (.int .u32 192))),Mi 5 2,Mv 6 27,Pp (.mov 7 (.c (.int .u32 128)))]) (Rs [Mv 29 4,Pp (.bin 30 .geq 29 (.c (.int .u32 224))),Mv 31 30,Gt 31 (.mov 32 4),Gt 31 (.bin 33 .lss 32 (.c (.int .u32 240))),Pa 34 31 33,Mv 28 34] (Cn 28 (Rg [Mv 35 4,Pp (.bin 36 .sub 35 (.c (.int .u32 224))),Mi 5 3,Mv 6 36,Pp (.mov 7 (.c (.int .u32 2048)))]) (Rs [Mv 38 4,Pp (.bin 39 .geq 38 (.c (.int .u32 240))),Mv 40 39,Gt 40 (.mov 41 4),Gt 40 (.bin 42 .lss 41 (.c (.int .u32 248))),Pa 43 40 42,Mv 37 43] (Cn 37 (Rg [Mv 44 4,Pp (.bin 45 .sub 44 (.c (.int .u32 240))),Mi 5 4,Mv 6 45,Pp (.mov 7 (.c (.int .u32 65536)))]) (Rs [Pp (.mov 2 (.c (.int .u32 0))),Mi 3 0] .ret)))))))))) (Sq (Rs [Mv 46 0,Pp (.lens 47 46),Mv 48 5,Bi 49 .lss 47 48] (Cn 49 (Rs [Pp (.mov 2 (.c (.int .u32 0))),Mi 3 0] .ret) .skip)) (Sq (Rs [Mi 8 1] (.block 1 (.loop [0,5,6,7,8,1000000] 0 agz))) agA))))))
theorem aA0:FnC Tryz.prog agy [] 0 125 Tryz.f125 ams dB:=fnC Tryz.func125
def ayh(R:TR)(a:TS):TE:=(bo a [0,5,6,7,8,1000000] 0 (aQ 1 (kseq (R agA) (fin dB))))
abbrev vv:Type:=(Bs×Int×Int×Int×Int)
def tN:vv->St:=λ(a,b,c,d,e)=>{env:=(vT a::(U 4 (vI b::.int .u32 c::.int .u32 d::vI e::(U 81 [])))),hp:=[]}
def acp(N:Nat):TS->TS:=λa s=>run agy N agz (ayh (run agy N) a) s
def fe(N:Nat)(a:vv->Ro):vv->Ro:=λ(c,f,d,l,b)=>let e:=(some (.tup [.int .u32 0,vI 0],[]):Ro);let m:=(some (.tup [.int .u32 d,vI f],[]):Ro);cond (decide (b<f)) (chk (ixl b c) (let n:=(↑(AW (Af c (Ad b) 0)):Int);cond (decide (n<128)) (e) (chk (ixl b c) (let o:=(↑(AW (Af c (Ad b) 0)):Int);cond (decide (191<o)) (e) (let g:=(Ab .u32 (d*64));chk (ixl b c) (let h:=(↑(AW (Af c (Ad b) 0)):Int);let i:=(Ab .u8 (h-128));let j:=(Ab .u32 (g+(Ab .u32 i)));let k:=(Ab .i64 (b+1));a (c,f,j,l,k))))))) (cond (decide (d<l)) (e) (cond (decide (1114111<d)) (e) (cond (decide (55296<=d)) (cond (decide (d<=57343)) (e) (m)) (m))))
theorem av2(N:Nat):LB (acp N) tN (fe N):=λ_ _=>by kernel_rfl
def sq(N:Nat)(b:Bs)(d:vv->Ro):Ro:=let A:=(↑(Aa b):Int);let c:=(some (.tup [.int .u32 0,vI 0],[]):Ro);cond (A==0) (c) (chk (decide ((0:Int)<↑(Aa b))) (let a:=(↑(AW (Af b (Ad 0) 0)):Int);let B:=decide ((Ab .u32 a)<128);cond B (some (.tup [.int .u32 (Ab .u32 a),vI 1],[])) (let G:=decide (192<=(Ab .u32 a));cond G (let F:=decide ((Ab .u32 a)<224);cond F (let H:=(Ab .u32 ((Ab .u32 a)-192));let E:=(↑(Aa b):Int);cond (decide (E<2)) (c) (d (b,2,H,128,1))) (let e:=decide (224<=(Ab .u32 a));cond e (let f:=decide ((Ab .u32 a)<240);cond f (let g:=(Ab .u32 ((Ab .u32 a)-224));let h:=(↑(Aa b):Int);cond (decide (h<3)) (c) (d (b,3,g,2048,1))) (let i:=decide (240<=(Ab .u32 a));cond i (let j:=decide ((Ab .u32 a)<248);cond j (let k:=(Ab .u32 ((Ab .u32 a)-240));let l:=(↑(Aa b):Int);cond (decide (l<4)) (c) (d (b,4,k,65536,1))) (c)) (c))) (let m:=decide (240<=(Ab .u32 a));cond m (let n:=decide ((Ab .u32 a)<248);cond n (let o:=(Ab .u32 ((Ab .u32 a)-240));let p:=(↑(Aa b):Int);cond (decide (p<4)) (c) (d (b,4,o,65536,1))) (c)) (c)))) (let q:=decide (224<=(Ab .u32 a));cond q (let r:=decide ((Ab .u32 a)<240);cond r (let s:=(Ab .u32 ((Ab .u32 a)-224));let t:=(↑(Aa b):Int);cond (decide (t<3)) (c) (d (b,3,s,2048,1))) (let u:=decide (240<=(Ab .u32 a));cond u (let v:=decide ((Ab .u32 a)<248);cond v (let w:=(Ab .u32 ((Ab .u32 a)-240));let x:=(↑(Aa b):Int);cond (decide (x<4)) (c) (d (b,4,w,65536,1))) (c)) (c))) (let y:=decide (240<=(Ab .u32 a));cond y (let z:=decide ((Ab .u32 a)<248);cond z (let D:=(Ab .u32 ((Ab .u32 a)-240));let C:=(↑(Aa b):Int);cond (decide (C<4)) (c) (d (b,4,D,65536,1))) (c)) (c))))))
def aet(N:Nat)(a:Bs):Ro:=sq N a (λz=>aO N (fe N) z)
theorem ayi(N:Nat)(a:Bs)(h:Tot (aet N a) (λz=>∃c d rest,z.1.dimR=.tup [.int .u32 c,vI d]∧z.2=rest∧aht a (c,d))):∃r,z3 a r:=aA0.finP (N:=N) ((bD _ (by kernel_rfl) rfl (λC=>sq N a (λz=>C 1000000 (tN z))) (λC=>by kernel_rfl)).trans (AB (b:=sq N a (λz=>aZ N (acp N) (tN z))) (by kernel_rfl) (congrArg (sq N a) (funext λz=>aU (tN) (acp N) (fe N) (av2 N) N z)))) h λ_ ⟨c,d,_,e,_,q⟩=>⟨(c,d),e,q⟩
def agB:aG:=tb_ [] [] [] [aC8]
def ahR:IR:=Sq (Rs [Mv 5 0,Pp (.lens 6 5),Bc 7 .gtr 6 0] (Cn 7 .skip (.exit 0))) (.block 1 (Rs [Mv 9 0,Ca 10 125 [9],Mv 8 10,Ex_ 11 0 8,Ex_ 12 1 8,Mv 3 11,Mv 4 12] (Sq (Rs [Mv 13 4,Bc 14 .eql 13 0] (Cn 14 (Rs [Mb 2 false] .ret) .skip)) (Rg [Mv 15 0,Mv 16 4,Pp (.subs 17 15 (some 16) none),Mv 0 17]))))
def ahS:IR:=Rs [Mb 2 true] .ret
def amt:IR:=Rs [Mb 2 false] (Sq (.block 0 (.loop [0,1000000] 0 ahR)) ahS)
theorem aA1:FnC Tryz.prog agB [] 0 74 Tryz.f74 amt aF:=fnC Tryz.func74
def ayj(R:TR)(a:TS):TE:=(bo a [0,1000000] 0 (aQ 0 (kseq (R ahS) (fin aF))))
def tO(x:f8):St:={env:=(vT x::(U 17 [])),hp:=[]}
def acq(N:Nat):TS->TS:=λa s=>run agB N ahR (ayj (run agB N) a) s
def vw(N:Nat)(a:f8->Ro)(x:f8):Ro:=let b:Bs:=x;let d:=(↑(Aa b):Int);cond (decide (0<d)) (aA (z3 b) (λc=>cond (c.2==0) (some (vB false,[])) (chk (decide (0<=c.2)&&decide (c.2<=(↑(Aa b):Int))) (let e:=(An (Ad c.2) (Ao (Aa b) b));a (e))))) (some (vB true,[]))
theorem av3(N:Nat):LB (acq N) tO (vw N):=λ_ _=>by kernel_rfl
def su(N:Nat)(a:Bs)(b:f8->Ro):Ro:=b (a)
def amu(N:Nat)(a:Bs):Ro:=su N a (λz=>aO N (vw N) z)
theorem ayk(N:Nat)(a:Bs)(h:Tot (amu N a) (λz=>∃c rest,z.1.dimR=vB c∧z.2=rest∧zC a (c))):∃r,mV a r:=aA1.finP (N:=N) ((bD _ (by kernel_rfl) rfl (λC=>su N a (λz=>C 1000000 (tO z))) (λC=>by kernel_rfl)).trans (AB (b:=su N a (λz=>aZ N (acq N) (tO z))) (by kernel_rfl) (congrArg (su N a) (funext λz=>aU (tO) (acq N) (vw N) (av3 N) N z)))) h λ_ ⟨c,_,e,_,q⟩=>⟨(c),e,q⟩
def cU(l:List UInt8)(n:Int):Prop:=0<=n∧n<=l.length∧l.length<=1000
def abJ(l:List UInt8)(n m:Int)(r:Int×List UInt8×Int):Prop:=0<=r.1∧r.1<m∧r.2.1=l∧cU l r.2.2
def aaC(l:List UInt8)(n:Int)(r:Bool×List UInt8×Int):Prop:=r.2.1=l∧r.2.2=n
def ajB(l:List UInt8)(r:List UInt8×Int):Prop:=r=(l,0)
def TxR(b:Nat)(l:List UInt8)(r:List UInt8×List UInt8×Int):Prop:=r.1.length<=b∧r.2.1=l∧cU l r.2.2
def aaD(l:List UInt8)(n:Int)(r:List UInt8×List UInt8×Int):Prop:=TxR 10 l r
def wW(l:List UInt8)(n:Int)(r:List UInt8×List UInt8×Int):Prop:=TxR 10 l r
def zb(l:List UInt8)(n a:Int)(c:Bool)(r:List UInt8×List UInt8×Int):Prop:=TxR 200 l r
def aaE(l:List UInt8)(n m:Int)(c:Bool)(r:List UInt8×List UInt8×Int):Prop:=TxR 100000 l r
def aaF(l:List UInt8)(n:Int)(c:Bool)(r:List UInt8×List UInt8×Int):Prop:=TxR 1000000 l r
def apw(s:List UInt8)(r:List PMs×List PEn×Bool):Prop:=r.2.2=true->nL r.1
def zc(l:List UInt8)(n:Int)(r:List PMs×List PEn×Bool×List UInt8×Int):Prop:=r.2.2.1=true->nL r.1
def wX(l:List UInt8)(n k:Int)(r:Int×List UInt8×Int):Prop:=r.2.1=l∧cU l r.2.2
mutual
def wtV:aC->Nat
 | .mk _ s fs rest=>100+s.length+rest.length+cM fs
def cM:List (Int×List aC)->Nat
 | []=>0
 |x::r=>100+wtP x+cM r
def wtP:Int×List aC->Nat
 |(_,l)=>wtL l
def wtL:List aC->Nat
 | []=>0
 |v::r=>wtV v+wtL r
end
def oD:Nat->Nat
 |0=>0
 |n+1=>100*oD n+100000
def abK(l:List UInt8)(n:Int)(a:List PMs)(es:List PEn)(k:Int)(t:List UInt8)(d:Int)(r:aC×List UInt8×Int):Prop:=wtV r.1<=200+(if k=16 then oD (4-d).toNat else 0)∧r.2.1=l∧cU l r.2.2
def ano(l:List UInt8)(n:Int)(a:List PMs)(es:List PEn)(s:List UInt8)(d:Int)(r:List (Int×List aC)×List UInt8×List UInt8×Int):Prop:=cM r.1+r.2.1.length<=oD (5-d).toNat∧r.2.2.1=l∧cU l r.2.2.2
def aiG(k:Int):Bool:=k==3||k==4||k==7||k==8||k==11||k==12||k==17
def aKe(a b:List UInt8):Int:=if A2 a b then -1 else if a=b then 0 else 1
def ayl(a b:Int):Int:=if a<b then -1 else if a=b then 0 else 1
def nn(k:Int)(a b:aC):Int:=if k=16 then 0 else if k=14∨k=15 then aKe a.s b.s else if a.n=b.n then 0 else if aiG k then (if Ab .i64 a.n<Ab .i64 b.n then -1 else 1) else if a.n<b.n then -1 else 1
def ry(k:Int)(v:aC):Bool:= !(k==16)&&(v.n==0&&decide (v.s=[]))
def mo(f:PFl):Bool:=f.label==0&&(f.oneof==0&& !(f.kind==16))
def sA(f:PFl)(w:Int):Bool:=if f.label=3 then w==2 else w==ei f.kind||f.label==2&&(!(ei f.kind==2)&&w==2)
def s9(k:Int)(r:Bool):Prop:=r=aiG k
def ajC(k:Int)(a b:aC)(r:Int):Prop:=r=nn k a b
def aaG(k:Int)(v:aC)(r:Bool):Prop:=r=ry k v
def ta(f:PFl)(r:Bool):Prop:=r=mo f
def yn(f:PFl)(w:Int)(r:Bool):Prop:=r=sA f w
def qh(n:Int)(l:List aC)(r:List (Int×List aC)):List (Int×List aC):=if l=[] then r else (n,l)::r
def ee:List (Int×List aC)->Int->List aC->List (Int×List aC)
 | [],n,l=>qh n l []
 |x::r,n,l=>if x.1<n then x::ee r n l else qh n l (if x.1=n then r else x::r)
def qi(fs:List (Int×List aC))(n:Int):List aC×Bool:=match fs.find? (λx=>x.1==n) with|some x=>(x.2,true)|none=>([],false)
def alR(p:List PFl)(fs:List (Int×List aC))(f:PFl):List (Int×List aC):=match p with
 | []=>fs
 |x::r=>alR r (if x.oneof=f.oneof∧x.num≠f.num then ee fs x.num [] else fs) f
def jt(p:PMs)(fs:List (Int×List aC))(f:PFl):List (Int×List aC):=if 0<f.oneof then alR p.fields fs f else fs
def mq(k:Int):List aC->aC->aC->List aC
 |a::b::r,x,y=>if nn k a x<0 then a::b::mq k r x y else if nn k a x=0 then x::y::r else x::y::a::b::r
 |_,x,y=>[x,y]
def oE(k:Int)(l:List aC):List aC->List aC
 |x::y::r=>oE k (mq k l x y) r
 |_=>l
def ajD(fs:List (Int×List aC))(rest:List UInt8)(n:Int)(l:List aC)(r:List (Int×List aC)×List UInt8):Prop:=r=(ee fs n l,rest)
def ajE(fs:List (Int×List aC))(rest:List UInt8)(n:Int)(r:List aC×Bool):Prop:=r=qi fs n
def agC(p:PMs)(fs:List (Int×List aC))(rest:List UInt8)(f:PFl)(r:List (Int×List aC)×List UInt8):Prop:=r=(jt p fs f,rest)
def ajF(k:Int)(l:List aC)(x y:aC)(r:List aC):Prop:=r=mq k l x y
def xR(p:PMs)(f:PFl)(fs:List (Int×List aC))(l:List aC):List (Int×List aC):=ee (jt p fs f) f.num (if f.label=3 then oE f.key [] l else l)
def rz(p:PMs)(rest:List UInt8):Bool:=(fo rest).2 ==0&&(fo rest).1.all (λx=> !((cK p x.num).2 &&sA (cK p x.num).1 x.wire))
mutual
noncomputable def pf(ms:List PMs)(k:Int)(t:List UInt8):aC->Bool
 | .mk n s fs rest=>if k=16 then n==0&&(decide (s=[])&&((dU ms t).2 &&(jg ms (dU ms t).1 none [] fs&&rz (dU ms t).1 rest))) else if k=14∨k=15 then n==0&&(decide (fs.length=0)&&(decide (rest=[])&&(k==15||rU s))) else decide (s=[])&&(decide (fs.length=0)&&(decide (rest=[])&&afq k n))
noncomputable def jg(ms:List PMs)(p:PMs)(last:Option Int)(ones:List Int):List (Int×List aC)->Bool
 | []=>true
 |x::r=>(cK p x.1).2 &&((match last with|none=>true|some n=>decide (n<x.1))&&(aym ms (cK p x.1).1 x&&(!(decide (0<(cK p x.1).1.oneof)&&ones.contains (cK p x.1).1.oneof)&&jg ms p (some x.1) (if 0<(cK p x.1).1.oneof then (cK p x.1).1.oneof ::ones else ones) r)))
noncomputable def aym(ms:List PMs)(f:PFl):Int×List aC->Bool
 |(_,l)=>decide (l.length≠0)&&((f.label==2||(f.label==3||decide (l.length=1)))&&((!(f.label==3)||decide (l.length%2=0))&&qj ms f true none l))
noncomputable def qj(ms:List PMs)(f:PFl)(even:Bool)(pk:Option aC):List aC->Bool
 | []=>true
 |v::r=>pf ms (if (f.label==3&&even)=true then f.key else f.kind) f.typ v&&(!(mo f&&ry f.kind v)&&((match pk with|none=>true|some q=> !(f.label==3&&even)||decide (nn f.key q v<0))&&qj ms f (!even) (if even then some v else pk) r))
end
def uL(a:List PMs)(t:List UInt8)(fs:List (Int×List aC))(rest:List UInt8):Bool:=(dU a t).2 &&(jg a (dU a t).1 none [] fs&&rz (dU a t).1 rest)
def nO(a:List PMs)(f:PFl)(l:List aC):Bool:=aym a f (0,l)
def ahT(a:List PMs)(es:List PEn)(t:List UInt8)(fs:List (Int×List aC))(rest:List UInt8)(r:Bool):Prop:=r=uL a t fs rest
def ahU(a:List PMs)(es:List PEn)(f:PFl)(l:List aC)(r:Bool):Prop:=r=nO a f l
def ajG(a:List PMs)(es:List PEn)(k:Int)(t:List UInt8)(v:aC)(r:Bool):Prop:=r=pf a k t v
def pJ(k n:Int):List UInt8:=if ei k=0 then dK (toR k n) else if ei k=1 then gX (toR k n) 8 else gX (toR k n) 4
mutual
noncomputable def pg(ms:List PMs)(num k:Int)(t:List UInt8):aC->List UInt8
 | .mk n s fs rest=>i9 ⟨num,ei k,toR k n,if k=16 then li ms (dU ms t).1 fs++rest else s,[]⟩
noncomputable def li(ms:List PMs)(p:PMs):List (Int×List aC)->List UInt8
 | []=>[]
 |x::r=>at2 ms (cK p x.1).1 x++li ms p r
noncomputable def at2(ms:List PMs)(f:PFl):Int×List aC->List UInt8
 |(_,l)=>if f.label=3 then iA ms f l else if f.packed=true then i9 ⟨f.num,2,0,lj f.kind l,[]⟩ else mt ms f l
noncomputable def iA(ms:List PMs)(f:PFl):List aC->List UInt8
 |a::b::r=>i9 ⟨f.num,2,0,pg ms 1 f.key [] a++pg ms 2 f.kind f.typ b,[]⟩++iA ms f r
 |_=>[]
noncomputable def lj(k:Int):List aC->List UInt8
 | []=>[]
 |v::r=>pJ k v.n++lj k r
noncomputable def mt(ms:List PMs)(f:PFl):List aC->List UInt8
 | []=>[]
 |v::r=>pg ms f.num f.kind f.typ v++mt ms f r
end
def aaH(a:List PMs)(t:List UInt8)(fs:List (Int×List aC))(rest:List UInt8):List UInt8:=li a (dU a t).1 fs++rest
def wl(a:List PMs)(f:PFl)(l:List aC):List UInt8:=at2 a f (0,l)
def sR(a:List PMs)(t:List UInt8)(fs:List (Int×List aC))(rest:List UInt8):List UInt8×Int:=if (dU a t).2 =false then ([],1) else if uL a t fs rest=false then ([],7) else if 5000<(aaH a t fs rest).length then ([],3) else (aaH a t fs rest,0)
def aeW(b:List PMs)(es:List PEn)(a k:Int)(t:List UInt8)(v:aC)(r:List UInt8):Prop:=r=pg b a k t v
def adJ(a:List PMs)(es:List PEn)(f:PFl)(l:List aC)(r:List UInt8):Prop:=r=wl a f l
def aeX(a:List PMs)(es:List PEn)(t:List UInt8)(fs:List (Int×List aC))(rest r:List UInt8):Prop:=r=aaH a t fs rest
def aeY(a:List PMs)(es:List PEn)(t:List UInt8)(fs:List (Int×List aC))(rest:List UInt8)(r:List UInt8×Int):Prop:=r=sR a t fs rest
abbrev aiH:=Bs×Int
def ph(a:Bs)(r:aiH):Prop:=xj Tryz.prog 11 [vF .u8 a] [vF .u8 r.1,vI r.2]∧ajB a r
def asU:afV Tryz.prog:=.mk 11 λ
 | [.sl .u8 (.may _) a]=>pk (ph a) λr=>[.sl .u8 (.may false) r.1,.int .i64 r.2]
 |_=>none
abbrev apx:=List PMs×List PEn×Bool×Bs×Int
def bm(a:Bs)(b:Int)(r:apx):Prop:=bv Tryz.prog 12 [.ptr 0 0] [[vF .u8 a,vI b]] (.tup [.agg [vF .pms r.1,vF .pen r.2.1],vB r.2.2.1]) [[vF .u8 r.2.2.2.1,vI r.2.2.2.2]]∧zc a b r
def adK:db Tryz.prog:=.mk 12 λ
 | [.ptr 0 0],[[.sl .u8 (.may false) a,.int .i64 b]]=>pk (bm a b) λr=>(.tup [.agg [vF .pms r.1,vF .pen r.2.1],vB r.2.2.1],[[vF .u8 r.2.2.2.1,vI r.2.2.2.2]])
 |_,_=>none
abbrev yo:=List (Int×List aC)×Bs×Bs×Int
def eQ(a:Bs)(b:Int)(c:List PMs)(d:List PEn)(e:Bs)(f:Int)(r:yo):Prop:=bv Tryz.prog 13 [.ptr 0 0,.agg [vF .pms c,vF .pen d],vT e,vI f] [[vF .u8 a,vI b]] (.agg [vF .pfd r.1,vT r.2.1]) [[vF .u8 r.2.2.1,vI r.2.2.2]]∧ano a b c d e f r
def at3:db Tryz.prog:=.mk 13 λ
 | [.ptr 0 0,.agg [.sl .pms (.may _) a,.sl .pen (.may _) b],.str e,.int .i64 f],[[.sl .u8 (.may false) c,.int .i64 d]]=>pk (eQ c d a b e f) λr=>(.agg [vF .pfd r.1,vT r.2.1],[[vF .u8 r.2.2.1,vI r.2.2.2]])
 |_,_=>none
def qk(a:List PMs)(b:List PEn)(e:Bs)(c:List (Int×List aC))(d:Bs)(r:aiH):Prop:=aH Tryz.prog 15 [.agg [vF .pms a,vF .pen b],vT e,.agg [vF .pfd c,vT d]] (.tup [vF .u8 r.1,vI r.2])∧aeY a b e c d r
def ajH:bq Tryz.prog:=.mk 15 λ
 | [.agg [.sl .pms (.may _) a,.sl .pen (.may _) b],.str e,.agg [.sl .pfd (.may _) c,.str d]]=>pk (qk a b e c d) λr=>.tup [vF .u8 r.1,vI r.2]
 |_=>none
abbrev aFJ:=List aC×Bool
def wY(a:List (Int×List aC))(b:Bs)(c:Int)(r:aFJ):Prop:=aH Tryz.prog 21 [.agg [vF .pfd a,vT b],vI c] (.tup [vF .pval r.1,vB r.2])∧ajE a b c r
def aFK:bq Tryz.prog:=.mk 21 λ
 | [.agg [.sl .pfd (.may _) a,.str b],.int .i64 c]=>pk (wY a b c) λr=>.tup [vF .pval r.1,vB r.2]
 |_=>none
def iB(a:List PMs)(b:List PEn)(e:Bs)(c:List (Int×List aC))(d:Bs)(r:Bool):Prop:=aH Tryz.prog 25 [.agg [vF .pms a,vF .pen b],vT e,.agg [vF .pfd c,vT d]] (vB r)∧ahT a b e c d r
def apy:bq Tryz.prog:=.mk 25 λ
 | [.agg [.sl .pms (.may _) a,.sl .pen (.may _) b],.str e,.agg [.sl .pfd (.may _) c,.str d]]=>pk (iB a b e c d) λr=>vB r
 |_=>none
abbrev azA:=List PMs×List PEn×Bool
def ahV(a:Bs)(r:azA):Prop:=aH Tryz.prog 39 [vT a] (.tup [.agg [vF .pms r.1,vF .pen r.2.1],vB r.2.2])∧apw a r
def aIV:bq Tryz.prog:=.mk 39 λ
 | [.str a]=>pk (ahV a) λr=>.tup [.agg [vF .pms r.1,vF .pen r.2.1],vB r.2.2]
 |_=>none
abbrev lM:=Bs×Bs×Int
def lN(a:Bs)(b:Int)(c:Bool)(r:lM):Prop:=bv Tryz.prog 40 [.ptr 0 0,vB c] [[vF .u8 a,vI b]] (vT r.1) [[vF .u8 r.2.1,vI r.2.2]]∧aaF a b c r
def arG:db Tryz.prog:=.mk 40 λ
 | [.ptr 0 0,.bool c],[[.sl .u8 (.may false) a,.int .i64 b]]=>pk (lN a b c) λr=>(vT r.1,[[vF .u8 r.2.1,vI r.2.2]])
 |_,_=>none
abbrev arH:=Bool×Bs×Int
def lO(a:Bs)(b:Int)(r:arH):Prop:=bv Tryz.prog 42 [.ptr 0 0] [[vF .u8 a,vI b]] (vB r.1) [[vF .u8 r.2.1,vI r.2.2]]∧aaC a b r
def arI:db Tryz.prog:=.mk 42 λ
 | [.ptr 0 0],[[.sl .u8 (.may false) a,.int .i64 b]]=>pk (lO a b) λr=>(vB r.1,[[vF .u8 r.2.1,vI r.2.2]])
 |_,_=>none
abbrev agD:=Int×Bs×Int
def br(a:Bs)(b c:Int)(r:agD):Prop:=bv Tryz.prog 43 [.ptr 0 0,vI c] [[vF .u8 a,vI b]] (vI r.1) [[vF .u8 r.2.1,vI r.2.2]]∧abJ a b c r
def gp:db Tryz.prog:=.mk 43 λ
 | [.ptr 0 0,.int .i64 c],[[.sl .u8 (.may false) a,.int .i64 b]]=>pk (br a b c) λr=>(vI r.1,[[vF .u8 r.2.1,vI r.2.2]])
 |_,_=>none
abbrev aFL:=List aC
def pi(a:Int)(b:List aC)(c d:aC)(r:aFL):Prop:=aH Tryz.prog 44 [vI a,vF .pval b,.agg (enc .pval c),.agg (enc .pval d)] (vF .pval r)∧ajF a b c d r
def asV:bq Tryz.prog:=.mk 44 λ
 | [.int .i64 i,.sl .pval (.may _) j,.agg [.int .u64 a,.str b,.sl .pfd (.may _) c,.str d],.agg [.int .u64 e,.str f,.sl .pfd (.may _) g,.str h]]=>pk (pi i j (.mk a b c d) (.mk e f g h)) λr=>vF .pval r
 |_=>none
abbrev at4:=aC×Bs×Int
def d6(a:Bs)(b:Int)(c:List PMs)(d:List PEn)(e:Int)(f:Bs)(g:Int)(r:at4):Prop:=bv Tryz.prog 45 [.ptr 0 0,.agg [vF .pms c,vF .pen d],vI e,vT f,vI g] [[vF .u8 a,vI b]] (.agg (enc .pval r.1)) [[vF .u8 r.2.1,vI r.2.2]]∧abK a b c d e f g r
def at5:db Tryz.prog:=.mk 45 λ
 | [.ptr 0 0,.agg [.sl .pms (.may _) a,.sl .pen (.may _) b],.int .i64 e,.str f,.int .i64 g],[[.sl .u8 (.may false) c,.int .i64 d]]=>pk (d6 c d a b e f g) λr=>(.agg (enc .pval r.1),[[vF .u8 r.2.1,vI r.2.2]])
 |_,_=>none
abbrev uM:=List (Int×List aC)×Bs
def jM(a:List PMs)(b:List PEn)(e:Bs)(c:List (Int×List aC))(d r:Bs):Prop:=aH Tryz.prog 50 [.agg [vF .pms a,vF .pen b],vT e,.agg [vF .pfd c,vT d]] (vT r)∧aeX a b e c d r
def ajI:bq Tryz.prog:=.mk 50 λ
 | [.agg [.sl .pms (.may _) a,.sl .pen (.may _) b],.str e,.agg [.sl .pfd (.may _) c,.str d]]=>pk (jM a b e c d) λr=>.str r
 |_=>none
def tP(a:List PMs)(b:List PEn)(c:PFl)(d:List aC)(r:Bs):Prop:=aH Tryz.prog 54 [.agg [vF .pms a,vF .pen b],.agg (enc .pfl c),vF .pval d] (vT r)∧adJ a b c d r
def av4:bq Tryz.prog:=.mk 54 λ
 | [.agg [.sl .pms (.may _) a,.sl .pen (.may _) b],.agg [.int .i64 c,.str d,.int .i64 e,.int .i64 f,.str g,.int .i64 h,.bool i,.int .i64 j],.sl .pval (.may _) k]=>pk (tP a b (⟨c,d,e,f,g,h,i,j⟩) k) λr=>.str r
 |_=>none
def ql(a:List PMs)(b:List PEn)(c:PFl)(d:List aC)(r:Bool):Prop:=aH Tryz.prog 62 [.agg [vF .pms a,vF .pen b],.agg (enc .pfl c),vF .pval d] (vB r)∧ahU a b c d r
def aDF:bq Tryz.prog:=.mk 62 λ
 | [.agg [.sl .pms (.may _) a,.sl .pen (.may _) b],.agg [.int .i64 c,.str d,.int .i64 e,.int .i64 f,.str g,.int .i64 h,.bool i,.int .i64 j],.sl .pval (.may _) k]=>pk (ql a b (⟨c,d,e,f,g,h,i,j⟩) k) λr=>vB r
 |_=>none
def sB(a:PFl)(b:Int)(r:Bool):Prop:=aH Tryz.prog 63 [.agg (enc .pfl a),vI b] (vB r)∧yn a b r
def aA2:bq Tryz.prog:=.mk 63 λ
 | [.agg [.int .i64 a,.str b,.int .i64 c,.int .i64 d,.str e,.int .i64 f,.bool g,.int .i64 h],.int .i64 i]=>pk (sB (⟨a,b,c,d,e,f,g,h⟩) i) λr=>vB r
 |_=>none
def iS(a:Bs)(b c:Int)(d:Bool)(r:lM):Prop:=bv Tryz.prog 78 [.ptr 0 0,vI c,vB d] [[vF .u8 a,vI b]] (vT r.1) [[vF .u8 r.2.1,vI r.2.2]]∧aaE a b c d r
def arJ:db Tryz.prog:=.mk 78 λ
 | [.ptr 0 0,.int .i64 c,.bool d],[[.sl .u8 (.may false) a,.int .i64 b]]=>pk (iS a b c d) λr=>(vT r.1,[[vF .u8 r.2.1,vI r.2.2]])
 |_,_=>none
def ff(a:Int)(b c:aC)(r:Int):Prop:=aH Tryz.prog 79 [vI a,.agg (enc .pval b),.agg (enc .pval c)] (vI r)∧ajC a b c r
def asW:bq Tryz.prog:=.mk 79 λ
 | [.int .i64 i,.agg [.int .u64 a,.str b,.sl .pfd (.may _) c,.str d],.agg [.int .u64 e,.str f,.sl .pfd (.may _) g,.str h]]=>pk (ff i (.mk a b c d) (.mk e f g h)) λr=>vI r
 |_=>none
def ju(a:Bs)(b c:Int)(r:agD):Prop:=bv Tryz.prog 80 [.ptr 0 0,vI c] [[vF .u8 a,vI b]] (vU r.1) [[vF .u8 r.2.1,vI r.2.2]]∧wX a b c r
def anp:db Tryz.prog:=.mk 80 λ
 | [.ptr 0 0,.int .i64 c],[[.sl .u8 (.may false) a,.int .i64 b]]=>pk (ju a b c) λr=>(vU r.1,[[vF .u8 r.2.1,vI r.2.2]])
 |_,_=>none
def sC(c:PMs)(a:List (Int×List aC))(b:Bs)(d:PFl)(r:uM):Prop:=aH Tryz.prog 81 [.agg (enc .pms c),.agg [vF .pfd a,vT b],.agg (enc .pfl d)] (.agg [vF .pfd r.1,vT r.2])∧agC c a b d r
def aA3:bq Tryz.prog:=.mk 81 λ
 | [.agg [.str a,.sl .pfl (.may _) b,.sl .str (.may _) c],.agg [.sl .pfd (.may _) d,.str e],.agg [.int .i64 f,.str g,.int .i64 h,.int .i64 i,.str j,.int .i64 k,.bool l,.int .i64 m]]=>pk (sC (⟨a,b,c⟩) d e (⟨f,g,h,i,j,k,l,m⟩)) λr=>.agg [vF .pfd r.1,vT r.2]
 |_=>none
def amv(a:List PMs)(b:List PEn)(g:Bs)(c:List (Int×List aC))(d:Bs)(e:List (Int×List aC))(f:Bs)(r:uM):Prop:=aH Tryz.prog 82 [.agg [vF .pms a,vF .pen b],vT g,.agg [vF .pfd c,vT d],.agg [vF .pfd e,vT f]] (.agg [vF .pfd r.1,vT r.2])
def aA4:bq Tryz.prog:=.mk 82 λ
 | [.agg [.sl .pms (.may _) a,.sl .pen (.may _) b],.str g,.agg [.sl .pfd (.may _) c,.str d],.agg [.sl .pfd (.may _) e,.str f]]=>pk (amv a b g c d e f) λr=>.agg [vF .pfd r.1,vT r.2]
 |_=>none
def wZ(a:List (Int×List aC))(b:Bs)(c:Int)(d:List aC)(r:uM):Prop:=aH Tryz.prog 83 [.agg [vF .pfd a,vT b],vI c,vF .pval d] (.agg [vF .pfd r.1,vT r.2])∧ajD a b c d r
def aFM:bq Tryz.prog:=.mk 83 λ
 | [.agg [.sl .pfd (.may _) a,.str b],.int .i64 c,.sl .pval (.may _) d]=>pk (wZ a b c d) λr=>.agg [vF .pfd r.1,vT r.2]
 |_=>none
def gq(a:PFl)(r:Bool):Prop:=aH Tryz.prog 97 [.agg (enc .pfl a)] (vB r)∧ta a r
def at6:bq Tryz.prog:=.mk 97 λ
 | [.agg [.int .i64 a,.str b,.int .i64 c,.int .i64 d,.str e,.int .i64 f,.bool g,.int .i64 h]]=>pk (gq (⟨a,b,c,d,e,f,g,h⟩)) λr=>vB r
 |_=>none
def np(a:Int)(b:aC)(r:Bool):Prop:=aH Tryz.prog 98 [vI a,.agg (enc .pval b)] (vB r)∧aaG a b r
def aDG:bq Tryz.prog:=.mk 98 λ
 | [.int .i64 e,.agg [.int .u64 a,.str b,.sl .pfd (.may _) c,.str d]]=>pk (np e (.mk a b c d)) λr=>vB r
 |_=>none
def jN(a:List PMs)(b:List PEn)(c d:Int)(e:Bs)(f:aC)(r:Bs):Prop:=aH Tryz.prog 99 [.agg [vF .pms a,vF .pen b],vI c,vI d,vT e,.agg (enc .pval f)] (vT r)∧aeW a b c d e f r
def ayn:bq Tryz.prog:=.mk 99 λ
 | [.agg [.sl .pms (.may _) a,.sl .pen (.may _) b],.int .i64 g,.int .i64 h,.str i,.agg [.int .u64 c,.str d,.sl .pfd (.may _) e,.str f]]=>pk (jN a b g h i (.mk c d e f)) λr=>.str r
 |_=>none
def sS(a:List PMs)(b:List PEn)(c:Int)(d:Bs)(e:aC)(r:Bool):Prop:=aH Tryz.prog 107 [.agg [vF .pms a,vF .pen b],vI c,vT d,.agg (enc .pval e)] (vB r)∧ajG a b c d e r
def aFN:bq Tryz.prog:=.mk 107 λ
 | [.agg [.sl .pms (.may _) a,.sl .pen (.may _) b],.int .i64 g,.str h,.agg [.int .u64 c,.str d,.sl .pfd (.may _) e,.str f]]=>pk (sS a b g h (.mk c d e f)) λr=>vB r
 |_=>none
def iT(a:Bs)(b:Int)(r:lM):Prop:=bv Tryz.prog 132 [.ptr 0 0] [[vF .u8 a,vI b]] (vT r.1) [[vF .u8 r.2.1,vI r.2.2]]∧aaD a b r
def aeZ:db Tryz.prog:=.mk 132 λ
 | [.ptr 0 0],[[.sl .u8 (.may false) a,.int .i64 b]]=>pk (iT a b) λr=>(vT r.1,[[vF .u8 r.2.1,vI r.2.2]])
 |_,_=>none
def gb(a:Bs)(b:Int)(r:lM):Prop:=bv Tryz.prog 133 [.ptr 0 0] [[vF .u8 a,vI b]] (vT r.1) [[vF .u8 r.2.1,vI r.2.2]]∧wW a b r
def abL:db Tryz.prog:=.mk 133 λ
 | [.ptr 0 0],[[.sl .u8 (.may false) a,.int .i64 b]]=>pk (gb a b) λr=>(vT r.1,[[vF .u8 r.2.1,vI r.2.2]])
 |_,_=>none
def kD(a:Bs)(b c:Int)(d:Bool)(r:lM):Prop:=bv Tryz.prog 135 [.ptr 0 0,vI c,vB d] [[vF .u8 a,vI b]] (vT r.1) [[vF .u8 r.2.1,vI r.2.2]]∧zb a b c d r
def apz:db Tryz.prog:=.mk 135 λ
 | [.ptr 0 0,.int .i64 c,.bool d],[[.sl .u8 (.may false) a,.int .i64 b]]=>pk (kD a b c d) λr=>(vT r.1,[[vF .u8 r.2.1,vI r.2.2]])
 |_,_=>none
def gr(a:Int)(r:Bool):Prop:=aH Tryz.prog 136 [vI a] (vB r)∧s9 a r
def at7:bq Tryz.prog:=.mk 136 λ
 | [.int .i64 a]=>pk (gr a) λr=>vB r
 |_=>none
end Go.Proofs.YtndccphabnjkhaaGreat
end
