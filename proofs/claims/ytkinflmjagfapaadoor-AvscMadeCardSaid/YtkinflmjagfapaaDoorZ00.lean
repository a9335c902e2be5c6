import GoSem.Core.Code
import GoSem.Op.String
import GoSem.Core.Utf8
import Derived.WalkKit
import Derived.Deep.AppendSrc
import Derived.Laws.Cover4
import Derived.Laws.IdiomStrings
import Derived.Lib.ConvBytes
import Derived.Laws.Tables
import Derived.Laws.StructEq
import Derived.Laws.MakeOwn
open Array renaming getElem?_eq_getElem→Am,getElem?_eq_some_iff→AK,getD→A3,length_toList→BD,getElem?_append_left→BU,getElem?_push→CE,getElem?_eq_none→CT,getElem?_modify→CY,eq_empty_of_size_eq_zero→C6,getElem?_setIfInBounds→Dg
open BitVec renaming ofInt→B7
open Bool renaming and_eq_true→Ab,or_eq_true→Be,not_eq_true'→Bk,and_eq_false_iff→BJ
open Classical renaming propDecidable→Cc
open Function renaming comp→Dq,comp_def→Du
open Go.Addr renaming add_lit→Bw
open Go.Builtin renaming append_→Cj,len_→C5
open Go.Instr renaming sureAddr→BH,sliceAt→Ce,fill→Ch,sliceBounds→Cq,slice→CD,loadAt→C7,storeAt→Dm
open Go.IntKind renaming wrap→Ao,signed→Bb,bits→Br,max→B2,min→Cm
open Go.Op renaming stringOp→Co,bytesLess→CO,equalIn→CP,intCmp→C2,intBits→C3,intArith→Dh
open Go.Oper renaming wp→Cw,upon→CZ
open Go.Value renaming cells→B1,oneCell'→Df
open Go.World renaming cell?_setCells_out→AX,cell?→Bn,frozen?→Bq,cell?_setCells_in→Bt
open Int renaming tmod_eq_emod_of_nonneg→By,tmod_nonneg→C8,emod_lt_of_pos→Dk
open List renaming length→Aa,getElem?_eq_getElem→Ac,getElem?_eq_some_iff→Ad,mem_of_getElem?→Af,getD_eq_getElem?_getD→Ah,all_eq_true→Ai,getElem?_append_right→An,getElem?_append_left→Ap,getD→Aq,getElem?_map→Au,getElem?_set→Aw,mem_append→Ay,mem_singleton→Az,mem_map→AA,length_set→AB,mem_flatMap→AC,length_cons→AD,length_append→AG,getElem?_take→AJ,mem_cons_self→AN,getElem_mem→AO,mem_iff_getElem→AP,length_nil→AQ,mem_cons_of_mem→AS,getElem?_eq_none→AU,getElem?_drop→A0,eq_nil_of_length_eq_zero→A1,range→A2,range'→A6,mem_of_mem_take→A7,map_cons→Bf,length_map→Bm,mem_of_mem_drop→Bu,length_drop→BA,getElem?_set_self→BE,append_assoc→BN,drop_eq_getElem_cons→BZ,range'_succ→B6,map_map→B9,size_toArray→Cr,all_cons→CB,foldl_cons→CG,ext_getElem?→CS,getElem?_toArray→C0,getElem?_range→Dc,length_range→Dt
open Nat renaming le_refl→Aj,eq_of_beq_eq_true→As,beq→Av,lt_of_lt_of_le→Ax,lt_or_ge→AE,le_trans→AF,add_mul→AH,mul_le_mul_right→AI,zero_add→AW,ne_of_lt→Ba,ble→BM,blt→BP,mul_comm→BR,one_mul→Cl,add_zero→Cu,eq_zero_or_pos→CN,le_mul_of_pos_right→CR,add_assoc→CU,le_of_not_lt→CV,le_add_right→CX,mul_one→Di
open Option renaming map_eq_some_iff→Ak,getD_some→A5,map_some→A9,isSome_iff_exists→BK
open Option.some renaming injEq→Ae,inj→Ar
open Prod.mk renaming injEq→Al
open UInt8 renaming ofNat→BG
set_option linter.all false
noncomputable section
namespace Go.AM
structure ai0 where
 num:Int
 wire:Int
 n:Int
 s:List UInt8
 raw:List UInt8
 deriving DecidableEq
inductive aa where
 |mk (kind n:Int) (s:List UInt8) (l:List aa) (names:List (List UInt8))
def aa.kind:aa->Int| .mk a _ _ _ _=>a
def aa.n:aa->Int| .mk _ a _ _ _=>a
def aa.s:aa->List UInt8| .mk _ _ a _ _=>a
def aa.l:aa->List aa| .mk _ _ _ a _=>a
def aa.names:aa->List (List UInt8)| .mk _ _ _ _ a=>a
structure aq where
 name:List UInt8
 aliases:List (List UInt8)
 typ:Int
 hasdef:Bool
 df:aa
structure ab where
 kind:Int
 name:List UInt8
 aliases:List (List UInt8)
 items:Int
 syms:List (List UInt8)
 hasdef:Bool
 df:List UInt8
 size:Int
 fields:List aq
 branches:List Int
inductive nV where
 |mk (n:Int) (s:List UInt8) (l:List nV) (keys:List (List UInt8)) (branch:Int)
def nV.n:nV->Int| .mk a _ _ _ _=>a
def nV.s:nV->List UInt8| .mk _ a _ _ _=>a
def nV.l:nV->List nV| .mk _ _ a _ _=>a
def nV.keys:nV->List (List UInt8)| .mk _ _ _ a _=>a
def nV.branch:nV->Int| .mk _ _ _ _ a=>a
inductive EK where
 |u8|num (k:IntKind)|str|bool|record|ints|jnode|afield|atype|aval
 deriving DecidableEq
abbrev Ty:EK->Type
 | .u8=>UInt8
 | .num _=>Int
 | .str=>List UInt8
 | .bool=>Bool
 | .record=>ai0
 | .ints=>List Int
 | .jnode=>aa
 | .afield=>aq
 | .atype=>ab
 | .aval=>nV
inductive Fl where
 |own
 |may (b:Bool)
 deriving DecidableEq
def Fl.dis:Fl->Fl
 | .own=>.may false
 | .may b=>.may b
def Fl.app:Fl->Nat->Bool
 | .own,_=>true
 | .may b,n=>b&&decide (0<n)
inductive MK where
 |pb|bs|bn|ib|sn|sb
 deriving DecidableEq
abbrev MK.K:MK->Type
 | .pb=>Int×Int
 | .bs| .bn| .ib=>Int
 | .sn| .sb=>List UInt8
abbrev MK.T:MK->Type
 | .pb| .ib| .sb=>Bool
 | .bs=>List UInt8
 | .bn| .sn=>Int
inductive V where
 |undef
 |bool (b:Bool)
 |int (k:IntKind) (n:Int)
 |str (s:List UInt8)
 |sl (k:EK) (o:Fl) (xs:List (Ty k))
 |agg (cs:List V)
 |tup (vs:List V)
 |ea (cs:List V)
 |ptr (id off:Nat)
 |nilp
 |fn (f:Nat) (cap:List V)
 |nilif
 |bn (E n:Nat)
 |junk
 |rb (xs:List UInt8)
 |so (id n:Nat)
 |raw (n:Nat)
 |ul (k:EK) (xs:List (Ty k))
 |hd (n:Nat)
 |rw(k:EK) (xs:List (Ty k))
 |sw (k:EK) (id n:Nat)
 |sx (k:EK) (id off n:Nat)
 |wp (id:Nat) (k:EK) (i o:Nat)
 |mp (k:MK) (es:List (k.K×k.T))
 |mr (id:Nat)
 |nilm
instance:Inhabited V:=⟨.undef⟩
def EK.sz:EK->Nat
 | .record=>5
 | .jnode=>5
 | .afield=>9
 | .atype=>10
 | .aval=>5
 |_=>1
def zE:IntKind->Nat
 | .i8| .u8=>1
 | .i16| .u16=>2
 | .i32| .u32=>4
 | .i64| .u64=>8
def EK.bytes:EK->Nat
 | .u8=>1
 | .num k=>zE k
 | .str=>16
 | .bool=>1
 | .record=>56
 | .ints=>24
 | .jnode=>80
 | .afield=>136
 | .atype=>160
 | .aval=>80
def EK.isAgg:EK->Bool
 | .record| .jnode| .afield| .atype| .aval=>true
 |_=>false
def enc:(k:EK)->Ty k->List V
 | .u8,x=>[.int .u8 x.toNat]
 | .num k,x=>[.int k x]
 | .str,x=>[.str x]
 | .bool,x=>[.bool x]
 | .record,x=>[.int .i64 x.num,.int .i64 x.wire,.int .u64 x.n,.str x.s,.str x.raw]
 | .ints,x=>[.sl (.num .i64) (.may false) x]
 | .jnode,x=>[.int .i64 x.kind,.int .i64 x.n,.str x.s,.sl .jnode (.may false) x.l,.sl .str (.may false) x.names]
 | .afield,x=>[.str x.name,.sl .str (.may false) x.aliases,.int .i64 x.typ,.bool x.hasdef,.int .i64 x.df.kind,.int .i64 x.df.n,.str x.df.s,.sl .jnode (.may false) x.df.l,.sl .str (.may false) x.df.names]
 | .atype,x=>[.int .i64 x.kind,.str x.name,.sl .str (.may false) x.aliases,.int .i64 x.items,.sl .str (.may false) x.syms,.bool x.hasdef,.str x.df,.int .i64 x.size,.sl .afield (.may false) x.fields,.sl (.num .i64) (.may false) x.branches]
 | .aval,x=>[.int .u64 x.n,.str x.s,.sl .aval (.may false) x.l,.sl .str (.may false) x.keys,.int .i64 x.branch]
def dec:(k:EK)->List V->Option (Ty k)
 | .u8,[.int .u8 n]=>some (BG n.toNat)
 | .num .i8,[.int .i8 n]=>some n
 | .num .i16,[.int .i16 n]=>some n
 | .num .i32,[.int .i32 n]=>some n
 | .num .i64,[.int .i64 n]=>some n
 | .num .u8,[.int .u8 n]=>some n
 | .num .u16,[.int .u16 n]=>some n
 | .num .u32,[.int .u32 n]=>some n
 | .num .u64,[.int .u64 n]=>some n
 | .str,[.str s]=>some s
 | .bool,[.bool b]=>some b
 | .record,[.int .i64 a,.int .i64 b,.int .u64 c,.str s,.str r]=>some ⟨a,b,c,s,r⟩
 | .ints,[.sl (.num .i64) _ x]=>some x
 | .jnode,[.int .i64 a,.int .i64 b,.str c,.sl .jnode _ d,.sl .str _ e]=>some (.mk a b c d e)
 | .afield,[.str a,.sl .str _ b,.int .i64 c,.bool d,.int .i64 e,.int .i64 f,.str g,.sl .jnode _ h,.sl .str _ i]=>some ⟨a,b,c,d,.mk e f g h i⟩
 | .atype,[.int .i64 a,.str b,.sl .str _ c,.int .i64 d,.sl .str _ e,.bool f,.str g,.int .i64 h,.sl .afield _ i,.sl (.num .i64) _ j]=>some ⟨a,b,c,d,e,f,g,h,i,j⟩
 | .aval,[.int .u64 a,.str b,.sl .aval _ c,.sl .str _ d,.int .i64 e]=>some (.mk a b c d e)
 |_,_=>none
def ao:(k:EK)->Ty k
 | .u8=>0
 | .num _=>0
 | .str=>[]
 | .bool=>false
 | .record=>⟨0,0,0,[],[]⟩
 | .ints=>[]
 | .jnode=>.mk 0 0 [] [] []
 | .afield=>⟨[],[],0,false,.mk 0 0 [] [] []⟩
 | .atype=>⟨0,[],[],0,[],false,[],0,[],[]⟩
 | .aval=>.mk 0 [] [] [] 0
def MK.key:(k:MK)->k.K->V
 | .pb,x=>.agg [.int .i64 x.1,.int .i64 x.2]
 | .bs,x=>.int .u8 x
 | .bn,x=>.int .u8 x
 | .ib,x=>.int .i64 x
 | .sn,x=>.str x
 | .sb,x=>.str x
def MK.val:(k:MK)->k.T->V
 | .pb,x=>.bool x
 | .bs,x=>.str x
 | .bn,x=>.int .i64 x
 | .ib,x=>.bool x
 | .sn,x=>.int .i64 x
 | .sb,x=>.bool x
def MK.zero:(k:MK)->k.T
 | .pb| .ib| .sb=>false
 | .bs=>[]
 | .bn| .sn=>(0:Int)
def afD:V->Option (Int×Int)| .agg [.int .i64 a,.int .i64 b]=>some (a,b)|_=>none
def u8V:V->Option Int| .int .u8 a=>some a|_=>none
def ac2:V->Option Int| .int .i64 a=>some a|_=>none
def afE:V->Option (List UInt8)| .str s=>some s|_=>none
def aal:V->Option Bool| .bool b=>some b|_=>none
def MK.dkey:(k:MK)->V->Option k.K
 | .pb=>afD
 | .bs=>u8V
 | .bn=>u8V
 | .ib=>ac2
 | .sn| .sb=>afE
def MK.dval:(k:MK)->V->Option k.T
 | .pb=>aal
 | .bs=>afE
 | .bn=>ac2
 | .ib=>aal
 | .sn=>ac2
 | .sb=>aal
instance MK.decK:(k:MK)->DecidableEq k.K
 | .pb=>inferInstanceAs (DecidableEq (Int×Int))
 | .bs| .bn| .ib=>inferInstanceAs (DecidableEq Int)
 | .sn| .sb=>inferInstanceAs (DecidableEq (List UInt8))
def aU{k:MK}(es:List (k.K×k.T))(x:k.K):Option k.T:=match es with
 | []=>none
 |e::r=>if e.1=x then some e.2 else aU r x
def bz{k:MK}(es:List (k.K×k.T))(x:k.K)(v:k.T):List (k.K×k.T):=match es with
 | []=>[(x,v)]
 |e::r=>if e.1=x then (x,v)::r else e::bz r x v
def kb{k:MK}(es:List (k.K×k.T))(x:k.K):Nat:=match es with
 | []=>0
 |e::r=>if e.1=x then 0 else kb r x+1
def iy{k:MK}(es:List (k.K×k.T))(x:k.K):k.T:=(aU es x).getD k.zero
def wG(k:MK)(a:Bool)(r:Option k.T):V:=cond a (.tup [k.val (r.getD k.zero),.bool r.isSome]) (k.val (r.getD k.zero))
def V.cells:V->List V
 | .agg cs=>cs
 |v=>[v]
def V.one:V->Bool
 | .undef| .agg _| .tup _| .rb _| .raw _| .rw _ _| .mp _ _=>false
 |_=>true
def disown:V->V
 | .raw _=>.undef
 | .sl k o xs=>.sl k o.dis xs
 | .bn _ _=>.junk
 | .ul _ xs=>.hd xs.length
 |v=>v
def V.laid:V->V
 | .ul k xs=>.sl k .own xs
 |v=>v
def V.weak:V->V
 | .sl k _ xs=>.sl k (.may false) xs
 |v=>disown v
def qt:V->Bool
 | .bn _ _=>false
 |_=>true
inductive aj where
 |t (n:Nat)
 |tk (n:Nat)
 |c (v:V)
abbrev ah:=Option (List V)
structure St where
 env:List V
 hp:List ah
def St.get(s:St)(n:Nat):V:=s.env.getD n .undef
def St.set(s:St)(n:Nat)(v:V):St:={s with env:=s.env.set n v}
def aj.ev(s:St):aj->V
 | .t n=>disown (s.get n)
 | .tk n=>s.get n
 | .c v=>v
def aj.after(s:St):aj->St
 | .tk n=>s.set n (disown (s.get n))
 |_=>s
def aj.fix(s:St)(t:Bool):aj->St
 | .t n=>s.set n (.bool t)
 |_=>s
theorem aj.fix_eq{s:St}{t:Bool}:∀{c:aj},c.ev s=.bool t->c.fix s t=s
 | .t n,h=>by
   have d:s.env.getD n .undef=.bool t:=by have h:disown (s.env.getD n .undef)=.bool t:=h;revert h;generalize s.env.getD n .undef=v;cases v<;>simp[disown]
   obtain⟨a,hp⟩:=s;show St.mk (a.set n (.bool t)) hp=St.mk a hp;have f:a.set n (.bool t)=a:=by
    apply CS;intro i;rw[Aw];split
    ·rename_i e;subst e;split;·rename_i b;simp only[Ah,Ac b,A5] at d;rw[Ac b,d]
     ·rename_i b;rw[AU (by omega)]
    ·rfl
   rw[f]
 | .tk n,_=>rfl
 | .c v,_=>rfl
inductive IOp where
 |mov (d:Nat) (x:aj)
 |pick (d:Nat) (c a b:aj)
 |bin (d:Nat) (o:BinOp) (x y:aj)
 |un (d:Nat) (o:UnOp) (x:aj)
 |cvi (d:Nat) (k:IntKind) (x:aj)
 |b2s (d:Nat) (x:aj)
 |lenl (d:Nat) (x:aj)
 |ixa (d:Nat) (k:EK) (x i:aj)
 |subs (d:Nat) (x:aj) (lo hi:Option aj)
 |subl (d:Nat) (k:EK) (x:aj) (lo hi:Option aj)
 |bsl (d:Nat) (k:EK) (sm:List aj) (u:Bool)
 |bld (d:Nat) (zero:List V) (sm:List (Nat×Nat×aj))
 |new (d:Nat) (zero:List V)
 |box (d:Nat) (x:aj)
 |fad (d:Nat) (off:Nat) (x:aj)
 |ld (d:Nat) (n:Nat) (agg take:Bool) (x:aj)
 |st (d:Option Nat) (n:Nat) (x v:aj)
 |app (d:Nat) (k:EK) (x y:aj)
 |ext (d:Nat) (i:Nat) (x:aj)
 |nck (d:Option Nat) (x:aj)
 |call (d:Option Nat) (f:Nat) (args:List aj)
 |mx (d:Nat) (mn:Bool) (x y:aj)
 |beq (d:Nat) (neg:Bool) (x y:aj)
 |boxe (d:Nat) (x:aj)
 |alr (d n:Nat)
 |frz (d:Option Nat) (r n:Nat) (v:aj)
 |lde (d:Nat) (n:Nat) (agg:Bool) (x:aj)
 |mkf (d f:Nat) (hJ:List aj)
 |dcall (d:Option Nat) (f:Nat) (x:aj) (args:List aj)
 |apu (d:Nat) (k:EK) (x y:aj)
 |slw (d:Nat) (k:EK) (x:aj) (lo hi:Option aj)
 |apx (d:Nat) (k:EK) (x y:aj)
 |blu (d:Nat) (k:EK)
 |snil (d:Nat) (x:aj)
 |lnw (d:Nat) (x:aj)
 |ixw (d:Nat) (k:EK) (x i:aj)
 |fdw (d off:Nat) (x:aj)
 |ldw (d n:Nat) (agg:Bool) (x:aj)
 |stw (d:Option Nat) (n:Nat) (x v:aj)
 |mkm (d:Nat) (k:MK)
 |mget (d:Nat) (k:MK) (ok:Bool) (x y:aj)
 |mput (d:Option Nat) (k:MK) (x y z:aj)
 |apo (d:Nat) (k:EK) (x y:aj)
structure GOp where
 g:Option (Nat×Bool)
 o:IOp
 ob:Option (List Nat×List Nat)
def kc(o:BinOp)(k:IntKind)(a b:Int):Int:=
 match o with
 | .and=>k.wrap (B7 k.bits a&&& B7 k.bits b).toNat
 | .or=>k.wrap (B7 k.bits a|||B7 k.bits b).toNat
 | .xor=>k.wrap (B7 k.bits a ^^^B7 k.bits b).toNat
 |_=>k.wrap (B7 k.bits a&&& ~~~B7 k.bits b).toNat
def abk(k:IntKind)(a b:Int):Int:=k.wrap (a*2^(min b.toNat k.bits))
def abl(k:IntKind)(a b:Int):Int:=a.fdiv (2^(min b.toNat k.bits))
def cR:Nat:=9223372036854775807
def nW:Nat:=140737488355328
def ac3(o:BinOp)(k:IntKind)(a b:Int):Option (Bool×V):=
 match o with
 | .add=>some (true,.int k (k.wrap (a+b)))
 | .sub=>some (true,.int k (k.wrap (a-b)))
 | .mul=>some (true,.int k (k.wrap (a*b)))
 | .quo=>some (!(b==0),.int k (k.wrap (a.tdiv b)))
 | .rem=>some (!(b==0),.int k (a.tmod b))
 | .and=>some (true,.int k (kc .and k a b))
 | .or=>some (true,.int k (kc .or k a b))
 | .xor=>some (true,.int k (kc .xor k a b))
 | .andNot=>some (true,.int k (kc .andNot k a b))
 | .eql=>some (true,.bool (a==b))
 | .neq=>some (true,.bool (!(a==b)))
 | .lss=>some (true,.bool (decide (a<b)))
 | .leq=>some (true,.bool (decide (a<=b)))
 | .gtr=>some (true,.bool (decide (b<a)))
 | .geq=>some (true,.bool (decide (b<=a)))
 |_=>none
def ac4(o:BinOp)(a b:List UInt8):Option (Bool×V):=
 match o with
 | .add=>some (decide (a.length+b.length<=cR),.str (a++b))
 | .eql=>some (true,.bool (decide (a=b)))
 | .neq=>some (true,.bool (!decide (a=b)))
 | .lss=>some (true,.bool (CO a b))
 | .leq=>some (true,.bool (CO a b||decide (a=b)))
 | .gtr=>some (true,.bool (!(CO a b||decide (a=b))))
 | .geq=>some (true,.bool (!Op.bytesLess a b))
 |_=>none
def ahC(o:BinOp)(x y:V):Option (Bool×V):=
 match x,y with
 | .int k a,.int k' b=>
   match o with
   | .shl=>some (decide (0<=b),.int k (abk k a b))
   | .shr=>some (decide (0<=b),.int k (abl k a b))
   |o=>if k=k' then ac3 o k a b else none
 | .str a,.str b=>ac4 o a b
 |_,_=>none
def unV(o:UnOp)(x:V):Option V:=
 match o,x with
 | .not,.bool b=>some (.bool (!b))
 | .neg,.int k n=>some (.int k (k.wrap (0-n)))
 | .xor,.int k n=>some (.int k (kc .xor k (if k.signed then -1 else k.max) n))
 |_,_=>none
def lay(cells:List V):List (Nat×Nat×V)->Option (List V)
 | []=>some cells
 |(a,n,v)::r=>if (v.cells.length==n&&v.cells.all V.one)&&decide (a+n<=cells.length) then lay (cells.take a++v.cells.map disown++cells.drop (a+n)) r else none
def td(k:EK):List V->Option (List (Ty k))
 | []=>some []
 |v::r=>match dec k v.cells,td k r with|some x,some l=>some (x::l)|_,_=>none
def qu(c:Nat):Option V->Option V->Option (Bool×Nat×Nat)
 |none,none=>some (true,0,c)
 |some (.int _ a),none=>some (decide (0<=a)&&decide (a<=c),a.toNat,c)
 |none,some (.int _ b)=>some (decide (0<=b)&&decide (b<=c),0,b.toNat)
 |some (.int _ a),some (.int _ b)=>some (decide (0<=b)&&decide (b<=c)&&(decide (0<=a)&&decide (a<=b)),a.toNat,b.toNat)
 |_,_=>none
def c5(s:St):Option aj->Option V
 |none=>none
 |some x=>some (x.ev s)
def b7:List V->Bool
 | [.rb _]=>true
 | [.rw _ _]=>true
 | [.tup _]=>true
 |_=>false
def St.obj(s:St)(id:Nat):Option (List V):=match s.hp.getD id none with|some [.rb _]=>none|some [.rw _ _]=>none|some [.mp _ _]=>none|some [.tup _]=>none|o=>o
def pU(k:EK)(x:Ty k)(o:Nat)(vs:List V):Option (Ty k):=dec k (((enc k x).take o++vs.map V.weak)++(enc k x).drop (o+vs.length))
def St.rowW(s:St)(id:Nat):Option ((k:EK)×List (Ty k)):=match s.hp.getD id none with|some [.rw k xs]=>some ⟨k,xs⟩|_=>none
def St.row(s:St)(id:Nat):Option (List UInt8):=match s.hp.getD id none with|some [.rb xs]=>some xs|_=>none
structure Hol where
 k:EK
 xs:List (Ty k)
 k2:EK
 id2:Nat
 n2:Nat
 i:Nat
 o:Nat
def St.rowH(s:St)(id:Nat):Option Hol:=match s.hp.getD id none with|some [.tup [.rw k xs,.sw b a c,.wp _ _ i o]]=>some ⟨k,xs,b,a,c,i,o⟩|_=>none
def St.mapO(s:St)(id:Nat):Option ((k:MK)×List (k.K×k.T)):=match s.hp.getD id none with|some [.mp k es]=>some ⟨k,es⟩|_=>none
def St.setObj(s:St)(id:Nat)(cs:List V):St:={s with hp:=s.hp.set id (some cs)}
def cG(agg:Bool)(cs:List V):V:=if agg then .agg (cs.map disown) else cs.headD .undef
abbrev am:=Nat->List V->List ah->Option (Bool×V×List ah)
def St.setO(s:St)(d:Option Nat)(v:V):St:=match d with|some d=>s.set d v|none=>s
def acY(t:Bool)(a b:V):V:=
 match a,b with
 | .bool x,.bool y=>.bool (cond t x y)
 | .int k x,.int k' y=>if k=k' then .int k (cond t x y) else cond t (.int k x) (.int k' y)
 | .str x,.str y=>.str (cond t x y)
 |a,b=>cond t a b
theorem ahD(t:Bool)(a b:V):acY t a b=cond t a b:=by
 unfold acY;split;·cases t<;>rfl
 ·split;·rename_i h;subst h;cases t<;>rfl
  ·rfl
 ·cases t<;>rfl
 ·rfl
def ahE(k:EK)(v:V)(a b:Option V):Option (Bool×V):=match v with
 | .sw k' id n=>if k'=k then (qu n a b).map λe=>(e.1,match a with|none=>.sw k' id e.2.2|some _=>.sx k' id e.2.1 (e.2.2-e.2.1)) else none
 |_=>none
def abm(hp:List ah)(k:EK)(x y:V):Option (Bool×V×Nat×V):=match x,y with
 | .sw d id n,.sx e c a b=>match St.rowW ⟨[],hp⟩ id with
   |some ⟨k',xs⟩=>if d=k'∧(e=k'∧(k=k'∧c=id)) then some (decide (n<=a)&&decide (a+b<=xs.length),.sw k' id (n+b),id,.rw k' (xs.take n++(xs.drop a).take b)) else none
   |none=>none
 |_,_=>none
def step(Γ:am)(o:IOp)(s:St):Option (Bool×St):=
 match o with
 | .mov d x=>some (true,(x.after s).set d (x.ev s))
 | .pick d c a b=>match c.ev s with| .bool t=>some (true,s.set d (acY t (disown (a.ev s)) (disown (b.ev s))))|_=>none
 | .bin d o x y=>(ahC o (x.ev s) (y.ev s)).map λ(c,v)=>(c,s.set d v)
 | .un d o x=>(unV o (x.ev s)).map λv=>(true,s.set d v)
 | .cvi d k x=>match x.ev s with| .int _ n=>some (true,s.set d (.int k (k.wrap n)))|_=>none
 | .b2s d x=>match x.ev s with| .sl .u8 _ l=>some (true,s.set d (.str l))|_=>none
 | .lenl d x=>match x.ev s with| .sl _ _ l=>some (true,s.set d (.int .i64 l.length))|_=>none
 | .lnw d x=>match x.ev s with| .hd n=>some (true,s.set d (.int .i64 n))| .sw _ _ n=>some (true,s.set d (.int .i64 n))|_=>none
 | .apu d k x y=>match x.ev s,y.ev s with
   | .ul k' l,.sl g _ m=>if k'=k then if h:g=k' then some (decide ((l.length+m.length)*k'.bytes<=nW),(x.after s).set d (.ul k' (l++(h▸m)))) else none else none
   |_,_=>none
 | .slw d k x w j=>(ahE k (x.ev s) (c5 s w) (c5 s j)).map λp=>(p.1,s.set d p.2)
 | .apx d k x y=>(abm s.hp k (x.ev s) (y.ev s)).map λp=>(p.1,(s.setObj p.2.2.1 [p.2.2.2]).set d p.2.1)
 | .blu d k=>some (true,s.set d (.ul k []))
 | .snil d x=>match x.ev s with| .sl _ _ xs=>some (decide (0<xs.length),s.set d (.bool false))|_=>none
 | .ixw d k x i=>match x.ev s,i.ev s with
   | .sw k' id n,.int _ i=>if k'=k then some (decide (0<=i)&&decide (i<n),s.set d (.wp id k' i.toNat 0)) else none
   |_,_=>none
 | .fdw d e x=>match x.ev s with| .wp id k i o=>some (true,s.set d (.wp id k i (o+e)))|_=>none
 | .ldw d n agg x=>match x.ev s with
   | .wp id k i o=>match s.rowW id with
     |some ⟨k',xs⟩=>if k'=k∧o+n<=k'.sz then some (decide (i<xs.length),s.set d (disown (cG agg (((enc k' (xs.getD i (ao k'))).drop o).take n)))) else none
     |none=>none
   |_=>none
 | .stw d n x v=>match x.ev s with
   | .wp id k i o=>match s.rowW id with
     |some ⟨k',xs⟩=>if k'=k∧(o+n<=k'.sz∧((v.ev s).cells.length==n&&(v.ev s).cells.all V.one)=true) then
       match pU k' (xs.getD i (ao k')) o (v.ev s).cells with
       |some F=>some (decide (i<xs.length),(s.setObj id [.rw k' (xs.set i F)]).setO d .undef)
       |none=>none
      else none
     |none=>none
   |_=>none
 | .ixa d k x i=>match x.ev s,i.ev s with
   | .sl k' _ l,.int _ i=>if k'=k then some (decide (0<=i)&&decide (i<l.length),s.set d (.ea (enc k' (l.getD i.toNat (ao k'))))) else none
   |_,_=>none
 | .subs d x w j=>match x.ev s with
   | .str l=>(qu l.length (c5 s w) (c5 s j)).map λ(c,a,b)=>(c,s.set d (.str ((l.take b).drop a)))
   |_=>none
 | .subl d k x w j=>match x.ev s with
   | .sl k' _ l=>if k'=k then (qu l.length (c5 s w) (c5 s j)).map λ(c,a,b)=>(c,s.set d (.sl k' (.may false) ((l.take b).drop a))) else none
   |_=>none
 | .bsl d k D u=>(td k (D.map (·.ev s))).map λl=>(true,s.set d (.sl k (cond u (.may true) .own) l))
 | .bld d zero D=>(lay zero (D.map λ(e,n,x)=>(e,n,x.ev s))).map λcs=>(true,s.set d (.agg cs))
 | .new d zero=>some (true,{s.set d (.ptr s.hp.length 0) with hp:=s.hp++[some zero]})
 | .box d x=>match x.ev s with
   | .agg cs=>some (true,{s.set d (.ptr s.hp.length 0) with hp:=s.hp++[some cs]})
   |v=>if v.one then some (true,{s.set d (.ptr s.hp.length 0) with hp:=s.hp++[some [disown v]]}) else none
 | .fad d e x=>match x.ev s with
   | .ea cs=>some (true,s.set d (.ea (cs.drop e)))
   | .ptr id o=>some (true,s.set d (.ptr id (o+e)))
   |_=>none
 | .ld d n agg B x=>match x.ev s with
   | .ea cs=>if n<=cs.length then some (true,s.set d (disown (cG agg (cs.take n)))) else none
   | .ptr id o=>match s.obj id with
     |some cs=>if o+n<=cs.length then
       (if B then (if qt (cs.getD o .undef) then some (true,(s.setObj id (cs.set o (disown (cs.getD o .undef)))).set d (cG agg ((cs.drop o).take n))) else none)
       else some (true,s.set d (disown (cG agg ((cs.drop o).take n)))))
      else none
     |none=>none
   |_=>none
 | .st d n x v=>match x.ev s with
   | .ptr id o=>match s.obj id with
     |some cs=>if ((v.ev s).cells.length==n&&(v.ev s).cells.all V.one)&&(decide (o+n<=cs.length)&&(v.ev s).cells.all qt) then
       some (true,((v.after s).setObj id (cs.take o++(v.ev s).cells++cs.drop (o+n))).setO d .undef) else none
     |none=>none
   |_=>none
 | .app d k x y=>match x.ev s,y.ev s with
   | .sl k' o l,.sl g _ m=>
     if k'=k then
      if h:g=k' then some (o.app m.length&&decide ((l.length+m.length)*k'.bytes<=nW),(x.after s).set d (.sl k' .own (l++(h▸m)))) else none
     else none
   |_,_=>none
 | .ext d i x=>match x.ev s with
   | .tup vs=>if i<vs.length then some (true,s.set d (disown (vs.getD i .undef))) else none
   |_=>none
 | .nck d x=>match x.ev s with
   | .ptr id o=>some (true,s.setO d (.ptr id o))
   | .ea cs=>some (true,s.setO d (.ea cs))
   | .wp id k i o=>some (true,s.setO d (.wp id k i o))
   |_=>none
 | .call d f avs=>match Γ f (avs.map λx=>disown (x.ev s)) s.hp with
   |some (c,v,hp)=>some (c,{s with hp:=hp}.setO d v)
   |none=>none
 | .beq d C x y=>match x.ev s,y.ev s with
   | .bool p,.bool q=>some (true,s.set d (.bool (cond C (!(p==q)) (p==q))))
   |_,_=>none
 | .alr d n=>some (true,s.set d (.raw n))
 | .frz d r n v=>match s.get r with
   | .raw m=>if Av m n&&((v.ev s).cells.length==n&&(v.ev s).cells.all V.one) then some (true,(s.set r (.ea ((v.ev s).cells.map disown))).setO d .undef) else none
   |_=>none
 | .lde d n agg x=>match x.ev s with
   | .ea cs=>if n<=cs.length then some (true,s.set d (disown (cG agg (cs.take n)))) else none
   |_=>none
 | .boxe d x=>match x.ev s with
   | .agg cs=>some (true,s.set d (.ea (cs.map disown)))
   |v=>if v.one then some (true,s.set d (.ea [disown v])) else none
 | .mkf d f hJ=>some (true,s.set d (.fn f (hJ.map λx=>disown (x.ev s))))
 | .dcall d f x A=>match x.ev s with
   | .fn H hJ=>match Γ f (A.map (λy=>disown (y.ev s))++hJ.map disown) s.hp with
     |some (c,v,hp)=>some (Av H f&&c,{s with hp:=hp}.setO d v)
     |none=>none
   |_=>none
 | .mkm d k=>some (true,{s.set d (.mr s.hp.length) with hp:=s.hp++[some [.mp k []]]})
 | .mget d k E x y=>match x.ev s with
   | .nilm=>(k.dkey (y.ev s)).map λ_=>(true,s.set d (wG k E none))
   | .mr id=>match s.mapO id with
     |some ⟨k',es⟩=>if k'=k then (k'.dkey (y.ev s)).map λkey=>(true,s.set d (wG k' E (aU es key))) else none
     |none=>none
   |_=>none
 | .mput d k x y z=>match x.ev s with
   | .mr id=>match s.mapO id with
     |some ⟨k',es⟩=>if k'=k then
       match k'.dkey (y.ev s),k'.dval (z.ev s) with
       |some key,some v=>some (true,(s.setObj id [.mp k' (bz es key v)]).setO d .undef)
       |_,_=>none
      else none
     |none=>none
   |_=>none
 | .apo d k x y=>match x.ev s,y.ev s with
   | .ul k' l,.sl g _ m=>if k'=k then if h:g=k' then if d<s.env.length then some (decide ((l.length+m.length)*k'.bytes<=nW)&&decide (0<(l++(h▸m)).length),{(x.after s).set d (.sw k' s.hp.length (l++(h▸m)).length) with hp:=s.hp++[some [.rw k' (l++(h▸m))],none]}) else none else none else none
   |_,_=>none
 | .mx d G x y=>match x.ev s,y.ev s with
   | .int k a,.int k' b=>if k=k' then some (true,s.set d (.int k (if G then (if b<a then b else a) else (if a<b then b else a)))) else none
   |_,_=>none
def IOp.dst:IOp->Option Nat
 | .mov d _| .pick d .. | .bin d .. | .un d .. | .cvi d .. | .b2s d _| .lenl d _| .ixa d .. | .subs d .. | .subl d .. | .bsl d ..
 | .bld d .. | .new d _| .box d _| .fad d .. | .ld d .. | .app d .. | .ext d .. | .mx d .. | .beq d .. | .boxe d .. | .mkf d .. | .alr d _| .lde d .. | .apu d .. | .slw d .. | .apx d .. | .blu d _| .snil d _| .lnw d _| .ixw d .. | .fdw d .. | .ldw d .. | .mkm d _| .mget d .. | .apo d ..=>some d
 | .st d .. | .nck d _| .call d .. | .dcall d .. | .frz d .. | .stw d .. | .mput d ..=>d
def ixl{α:Type}(n:Int)(l:List α):Bool:=decide (0<=n)&&decide (n<↑(Aa l))
def chk{R:Type}(c:Bool)(x:Option R):Option R:=match c with|true=>x|false=>none
def V.cellsA:V->List V
 | .agg cs=>cs
 |v=>[v]
def V.id1:V->List Nat
 | .ptr id _=>[id]
 | .sw _ id _=>[id]
 | .sx _ id _ _=>[id]
 |_=>[]
def mz(vs:List V):List Nat:=vs.flatMap λv=>v.cellsA.flatMap V.id1
def dh:List V->List Nat
 | []=>[]
 | .ptr i 0::vs=>i::dh vs
 |_::vs=>dh vs
def afF(l:List Nat):List Nat:=l.flatMap λi=>A2 (i+1)
def V.ea1:V->List Nat
 | .ea [.ptr i _]=>[i]
 |_=>[]
def V.mr1:V->List Nat
 | .mr i=>[i]
 |_=>[]
def V.pm1:V->List Nat
 | .ptr i _=>[i]
 | .mr i=>[i]
 |_=>[]
def air(vs:List V):List Nat:=vs.flatMap λv=>match v with| .fn _ cs=>cs.flatMap V.ea1|v=>v.ea1
def ais(vs:List V):List Nat:=vs.flatMap λv=>match v with| .fn _ cs=>cs.flatMap V.pm1|v=>v.mr1
def te(vs:List V):List Nat:=afF (mz vs++air vs)++ais vs
def nX(vs:List V):List Nat:=afF (dh vs++air vs)++ais vs
def IOp.foot(o:IOp)(s:St):Option (List Nat×List Nat):=
 match o with
 | .ld _ _ _ a x=>match x.ev s with
   | .ptr id _=>some (cond a ([],[id]) ([id],[]))
   | .ea _=>some ([],[])
   |_=>none
 | .st _ _ x _=>match x.ev s with| .ptr id _=>some ([],[id])|_=>none
 | .call _ _ avs=>some (te (avs.map λx=>disown (x.ev s)),nX (avs.map λx=>disown (x.ev s)))
 | .ldw _ _ _ x=>match x.ev s with| .wp id _ _ _=>some ([id],[])|_=>none
 | .stw _ _ x _=>match x.ev s with| .wp id _ _ _=>some ([],[id])|_=>none
 | .apx _ _ x _=>match x.ev s with| .sw _ id _=>some ([],[id])|_=>none
 |_=>none
def IOp.within(o:IOp)(l:List Nat×List Nat)(s:St):Bool:=match o.foot s with
 |some (r,w)=>r.all (λi=>l.1.any (Av i)||l.2.any (Av i))&&w.all (λi=>l.2.any (Av i))
 |none=>false
def eZ(Γ:am)(a:Option (List Nat×List Nat))(o:IOp)(s:St):Option (Bool×St):=match a with
 |none=>step Γ o s
 |some l=>cond (o.within l s) (step Γ o s) none
theorem iV{Γ:am}{b:Option (List Nat×List Nat)}{o:IOp}{s:St}{p:Bool×St}(h:eZ Γ b o s=some p):step Γ o s=some p:=by
 unfold eZ at h;split at h;·exact h
 ·rename_i l;cases a:o.within l s with
  |true=>rw[a] at h;exact h
  |false=>rw[a] at h;simp at h
def bk{R:Type}(Γ:am):List GOp->(St->Option R)->St->Option R
 | [],K,s=>K s
 |⟨none,o,a⟩::r,K,s=>match eZ Γ a o s with
  |some (c,s')=>chk c (bk Γ r K s')
  |none=>none
 |⟨some (g,w),o,a⟩::r,K,s=>match s.get g with
  | .bool b=>cond b
    (match w with
     |true=>match eZ Γ a o (s.set g (.bool true)) with
      |some (c,s')=>chk c (bk Γ r K s')
      |none=>none
     |false=>bk Γ r K ((s.set g (.bool true)).setO o.dst (.tup [])))
    (match w with
     |false=>match eZ Γ a o (s.set g (.bool false)) with
      |some (c,s')=>chk c (bk Γ r K s')
      |none=>none
     |true=>bk Γ r K ((s.set g (.bool false)).setO o.dst (.tup [])))
  | .tup []=>bk Γ r K (s.setO o.dst (.tup []))
  |_=>none
inductive Occ where
 |slot (n:Nat)
 |cell (id j:Nat)
 |res
 deriving DecidableEq
inductive dc where
 |opn (o:Occ)
 |cls (o:Occ)
 |fz (o:Occ)
 |hol (n:Nat)
 |isf (d g:Nat) (cs:List V)
def St.at?(s:St):Occ->V
 | .slot n=>s.get n
 | .cell id j=>match s.obj id with|some cs=>cs.getD j .undef|none=>.undef
 | .res=>.undef
def St.put?(s:St)(o:Occ)(v:V):St:=match o with
 | .slot n=>s.set n v
 | .cell id j=>match s.obj id with|some cs=>s.setObj id (cs.set j v)|none=>s
 | .res=>s
def rp:List V->List V->Bool
 | [],[]=>true
 | .ptr i o::l,.ptr j q::m=>Av i j&&(Av o q&&rp l m)
 | .ea [.ptr i o]::l,.ea [.ptr j q]::m=>Av i j&&(Av o q&&rp l m)
 |_,_=>false
def dc.step(a:dc)(s:St):Option (Bool×St):=match a with
 | .opn o=>match s.at? o with
   | .ul k xs=>some (decide (0<xs.length),{s.put? o (.sw k s.hp.length xs.length) with hp:=(s.put? o (.sw k s.hp.length xs.length)).hp++[some [.rw k xs],none]})
   |_=>some (true,s)
 | .cls o=>match s.at? o with
   | .sw k id n=>match s.rowW id with
     |some ⟨k',xs⟩=>if k'=k then some (Av n xs.length,{s.put? o (.ul k' xs) with hp:=(s.put? o (.ul k' xs)).hp.set id none}) else none
     |none=>none
   |_=>some (true,s)
 | .fz o=>match s.at? o with
   | .ul k xs=>some (true,s.put? o (.sl k .own xs))
   |_=>some (true,s)
 | .hol n=>match s.get n with
   | .sw _ id _=>match s.rowH id with
     |some h=>match s.rowW h.id2 with
      |some ⟨b,ys⟩=>if b=h.k2 then
        match pU h.k (h.xs.getD h.i (ao h.k)) h.o [.sl b (.may false) ys] with
        |some e=>some (Av h.n2 ys.length&&decide (h.i<h.xs.length),{s with hp:=(s.hp.set id (some [.rw h.k (h.xs.set h.i e)])).set h.id2 none})
        |none=>none
       else none
      |none=>none
     |none=>none
   |_=>none
 | .isf d g cs=>match s.get d with
   | .fn c hJ=>some (Av c g&&rp hJ cs,s)
   |_=>none
def afG(s:St)(o:Occ):Bool:=match s.at? o with| .ul _ xs=>xs.isEmpty|_=>true
def WX:Nat:=3000000
def EK.soft:EK->Bool
 | .u8| .num _| .str| .bool| .jnode| .afield=>true
 |_=>false
def EK.hard:EK->Bool
 | .u8| .num _| .str| .bool=>true
 |_=>false
def EK.softE:EK->Bool
 | .atype=>true
 |k=>k.soft
def V.cellS:V->Bool
 | .int .. | .bool _| .str _| .nilp=>true
 | .sl .jnode (.may false) _| .sl .str (.may false) _=>true
 |_=>false
def V.soft1:V->Bool
 | .undef| .bool _| .int .. | .str _| .ptr .. | .nilp| .nilif| .hd .. | .sw .. | .wp .. | .mr _| .nilm| .raw _=>true
 | .sl k (.may _) _=>k.soft
 |_=>false
def V.soft:V->Bool
 | .agg cs| .tup cs=>cs.all V.soft1
 | .ea cs=>cs.all V.cellS
 |v=>v.soft1
def afH:ah->Bool
 |none=>true
 |some [.mp _ _]=>true
 |some [.rw k _]=>k.softE
 |some cs=>cs.all λc=>match c with
  | .ul k _=>k.softE
  |c=>c.soft1
def afI(s:St):Bool:=s.env.all V.soft&&s.hp.all afH
def ait(cs:List V):Bool:=cs.all (λc=>match c with| .int .u8 _=>false|c=>c.cellS)&&cs.any λc=>match c with| .sl .. =>true|_=>false
def V.hard:V->Bool
 | .undef| .bool _| .int .. | .str _| .nilp| .nilif| .ptr .. =>true
 | .sl k (.may _) _=>k.hard
 |_=>false
def V.harden(v:V):V:=match v.hard with|true=>v|false=>.undef
def aiu:ah->Bool
 |none=>true
 |some cs=>cs.all λc=>c.hard&&c.one
def aam(a b:List V):Bool:= @decide (a=b) (Cc _)
def rj(o:ah):ah:=match aiu o with|true=>o|false=>none
inductive WOp where
 |ste (n:Nat) (x v:aj)
 |call (d f:Nat) (args:List aj)
def WOp.step(Γ:am)(o:WOp)(s:St):Option (Bool×St):=match o with
 | .ste n x v=>match x.ev s with
   | .ea cs=>some (BM n cs.length&&(aam ((v.ev s).cells.map disown) (cs.take n)&&(ait (cs.take n)&&afI s)),s)
   |_=>none
 | .call d f avs=>match Γ (WX+f) (avs.map λx=>disown (x.ev s)) [] with
   |some (c,v,_)=>some (c,⟨(s.env.map V.harden).set d v,s.hp.map rj⟩)
   |none=>none
inductive IR where
 |skip
 |bad
 |reg (ops:List GOp) (pre:List (List Nat))
 |rgs (l:List (List dc×List GOp))
 |wk (l:List GOp) (pre:List (List Nat)) (mid:List GOp) (o:WOp) (more:List GOp)
 |seq (a b:IR)
 |cond (c:aj) (a b:IR)
 |block (id:Nat) (a:IR)
 |loop (live:List Nat) (n:Nat) (a:IR)
 |cut (live:List Nat) (n:Nat) (a:IR)
 |gh (g:dc) (a:IR)
 |ope (o:Occ) (a:IR)
 |ghp (g:dc) (a:IR)
 |exit (id:Nat)
 |ret
inductive Ex where
 |normal
 |exit (id:Nat)
 |ret
mutual
def V.lower(n:Nat):V->Bool
 | .ptr id _=>BP id n
 | .so id _=>BP id n
 | .rw _ _=>false
 | .sw _ id _=>BP (id+1) n
 | .sx _ id _ _=>BP (id+1) n
 | .wp id _ _ _=>BP (id+1) n
 | .mr id=>BP id n
 | .agg cs=>V.lowers n cs
 | .tup cs=>V.lowers n cs
 | .ea cs=>V.lowers n cs
 | .fn _ cs=>V.lowers n cs
 |_=>true
def V.lowers(n:Nat):List V->Bool
 | []=>true
 |v::r=>V.lower n v&&V.lowers n r
end
def lv(a:List Nat)(n:Nat):Nat->List V->List V
 |_,[]=>[]
 |i,v::r=>(if a.elem i&&v.lower n then v else .undef)::lv a n (i+1) r
def j8(n:Nat):List ah->Bool
 | []=>true
 |none::r=>j8 n r
 |some cs::r=>V.lowers n cs&&j8 n r
def St.keep(s:St)(a:List Nat)(n:Nat):St:={env:=lv a n 0 s.env,hp:=cond (j8 n (s.hp.take n)) (s.hp.take n) s.hp}
def bP{R:Type}:Nat->((St->Option R)->St->Option R)->St->Option R
 |0,_,_=>none
 |n+1,F,s=>F (bP n F) s
def cj{R:Type}(b:(Ex->St->Option R)->St->Option R)(K:Ex->St->Option R):Ex->St->Option R
 | .normal,s=>b K s
 |e,s=>K e s
def aQ{R:Type}(id:Nat)(K:Ex->St->Option R):Ex->St->Option R
 | .exit j,s=>cond (Av j id) (K .normal s) (K (.exit j) s)
 |e,s=>K e s
def dv{R:Type}(a:St->Option R)(b:List Nat)(n:Nat)(K:Ex->St->Option R):Ex->St->Option R
 | .normal,s=>a (s.keep b n)
 |e,s=>K e s
def nY{R:Type}(g:dc)(K:Ex->St->Option R):Ex->St->Option R
 | .normal,s=>match g.step s with
   |some (c,s')=>chk c (K .normal s')
   |none=>none
 |e,s=>K e s
def yy{R:Type}:List dc->(St->Option R)->St->Option R
 | [],K,s=>K s
 |a::l,K,s=>match a.step s with
  |some (c,s')=>chk c (yy l K s')
  |none=>none
def tf{R:Type}(Γ:am):List (List dc×List GOp)->(St->Option R)->St->Option R
 | [],K,s=>K s
 |x::l,K,s=>yy x.1 (λs=>bk Γ x.2 (tf Γ l K) s) s
def run{R:Type}(Γ:am)(n:Nat):IR->(Ex->St->Option R)->St->Option R
 | .skip,K,s=>K .normal s
 | .bad,_,_=>none
 | .reg f _,K,s=>bk Γ f (K .normal) s
 | .rgs l,K,s=>tf Γ l (K .normal) s
 | .wk l _ h o more,K,s=>bk Γ l (bk Γ h λs=>match o.step Γ s with|some (c,s')=>chk c (bk Γ more (K .normal) s')|none=>none) s
 | .seq a b,K,s=>run Γ n a (cj (run Γ n b) K) s
 | .cond c a b,K,s=>match c.ev s with
   | .bool t=>cond t (run Γ n a K (c.fix s true)) (run Γ n b K (c.fix s false))
   |_=>none
 | .block id a,K,s=>run Γ n a (aQ id K) s
 | .loop d m a,K,s=>bP n (λe s=>run Γ n a (dv e d m K) s) (s.keep d m)
 | .cut d m a,K,s=>run Γ n a K (s.keep d m)
 | .gh g a,K,s=>match g.step s with
   |some (c,s')=>chk c (run Γ n a K s')
   |none=>none
 | .ope o a,K,s=>cond (afG s o) (match (dc.fz o).step s with
   |some (c,s')=>chk c (run Γ n a K s')
   |none=>none) (match (dc.opn o).step s with
   |some (c,s')=>chk c (run Γ n a K s')
   |none=>none)
 | .ghp g a,K,s=>run Γ n a (nY g K) s
 | .exit id,K,s=>K (.exit id) s
 | .ret,K,s=>K .ret s
def b8{α R:Type}:Nat->((α->Option R)->α->Option R)->α->Option R
 |0,_,_=>none
 |n+1,B,x=>B (b8 n B) x
theorem cL{α R:Type}(b:α->St)(F:(St->Option R)->St->Option R)(B:(α->Option R)->α->Option R)
  (h:∀a x,F a (b x)=B (λy=>a (b y)) x):∀m x,bP m F (b x)=b8 m B x
 |0,_=>rfl
 |m+1,x=>by
  show F (bP m F) (b x)=B (b8 m B) x;rw[h]
  congr 1
  funext y;exact cL b F B h m y
inductive RV where
 |t (n:Nat)
 |cell (n size:Nat) (agg:Bool)
def RV.ev(s:St):RV->Option V
 | .t n=>some (s.get n)
 | .cell n a agg=>match s.get n with
   | .ptr id o=>match s.obj id with
     |some cs=>if o+a<=cs.length then some (disown (cG agg ((cs.drop o).take a))) else none
     |none=>none
   | .ea cs=>if a<=cs.length then some (disown (cG agg (cs.take a))) else none
   |_=>none
def rvs(s:St):List RV->Option (List V)
 | []=>some []
 |r::l=>match r.ev s,rvs s l with|some v,some vs=>some (v::vs)|_,_=>none
def ne(s:St)(a:List RV):Option V:=
 match rvs s a with
 |some [v]=>some v
 |some vs=>some (.tup (vs.map disown))
 |none=>none
def fin(a:List RV):Ex->St->Option (V×List ah)
 | .normal,s| .ret,s=>(ne s a).map λv=>(v,s.hp)
 |_,_=>none
def start(b:Nat)(a:List V)(hp:List ah):St:={env:=a++List.replicate (b-a.length) .undef,hp}
def pL(Γ:am)(n a:Nat)(d:List RV)(b:IR)(c:List V)(hp:List ah):Option (V×List ah):=
 run Γ n b (fin d) (start a c hp)
def Zed:Prop:=True
structure Gh where
 I:Nat->Nat->Prop
 ρ:Nat->Nat
 O:Nat->Option Occ
 β:Nat
def cH(c:V)(cv:Value):Prop:=
 match c,cv with
 | .sl _ .own _,.slice (some _) _ _=>False
 | .bn _ _,_=>False
 | .raw _,_=>False
 | .ul _ xs,cv=>xs.length=0∧cv=.slice none 0 0
 |_,_=>True
inductive VRel(I:Nat->Nat->Prop)(ρ:Nat->Nat)(N:Nat)(w:World):V->Value->Prop where
 |undef (cv:Value):VRel I ρ N w .undef cv
 |bool (b:Bool):VRel I ρ N w (.bool b) (.bool b)
 |int (k:IntKind) (n:Int) (h:k.min<=n∧n<=k.max):VRel I ρ N w (.int k n) (.int k n)
 |str (l:List UInt8) (s:ByteArray) (hl:s.data.toList=l) (h:s.size<=cR):VRel I ρ N w (.str l) (.string s)
 |sln (k:EK) (o:Fl):VRel I ρ N w (.sl k o []) (.slice none 0 0)
 |sle (k:EK) (o:Fl) (ad:Addr) (ho:o≠.own):VRel I ρ N w (.sl k o []) (.slice (some ad) 0 0)
 |sl (k:EK) (o:Fl) (xs:List (Ty k)) (b off len cap:Nat) (hl:xs.length=len) (hc:xs.length<=cap) (hm:cap<=cR) (hf:o=.may true->len=cap) (f:Nat->Nat->Value)
   (hI:∀i x j,xs[i]? =some x->j<(enc k x).length->I b (off+i*k.sz+j))
   (hw:∀i x j,xs[i]? =some x->j<(enc k x).length->w.cell? ⟨b,off+i*k.sz+j,none⟩=some (f i j))
   (hv:∀i x j v,xs[i]? =some x->(enc k x)[j]? =some v->VRel I ρ N w v (f i j)):
   VRel I ρ N w (.sl k o xs) (.slice (some ⟨b,off,none⟩) len cap)
 |agg (cs:List V) (vs:Array Value) (hl:cs.length=vs.size) (h1:∀c∈cs,c.one=true) (hb:∀(i:Nat) c cv,cs[i]? =some c->vs[i]? =some cv->cH c cv)
   (hv:∀(i:Nat) c cv,cs[i]? =some c->vs[i]? =some cv->VRel I ρ N w c cv):VRel I ρ N w (.agg cs) (.agg vs)
 |tup (cs:List V) (vs:Array Value) (hl:cs.length=vs.size)
   (hv:∀(i:Nat) c cv,cs[i]? =some c->vs[i]? =some cv->VRel I ρ N w c cv):VRel I ρ N w (.tup cs) (.tuple vs)
 |ea (cs:List V) (b off:Nat) (f:Nat->Value) (h1:∀c∈cs,c.one=true)
   (hI:∀j,j<cs.length->I b (off+j))
   (hw:∀j,j<cs.length->w.cell? ⟨b,off+j,none⟩=some (f j))
   (hv:∀(j:Nat) c,cs[j]? =some c->VRel I ρ N w c (f j)):VRel I ρ N w (.ea cs) (.pointer (some ⟨b,off,none⟩))
 |ptr (id off:Nat) (h:id<N):VRel I ρ N w (.ptr id off) (.pointer (some ⟨ρ id,off,none⟩))
 |nilp:VRel I ρ N w .nilp (.pointer none)
 |fn (f:Nat) (cs:List V) (vs:Array Value) (hl:cs.length=vs.size)
   (hv:∀(i:Nat) c cv,cs[i]? =some c->vs[i]? =some cv->VRel I ρ N w c cv):VRel I ρ N w (.fn f cs) (.func (.func f) #[] vs)
 |nilif:VRel I ρ N w .nilif .nilIface
 |bn (E n:Nat) (p:Option Addr):VRel I ρ N w (.bn E n) (.pointer p)
 |junk (cv:Value) (h:cv.oneCell'=true):VRel I ρ N w .junk cv
 |so (id n cap:Nat) (h:id<N) (hc:n<=cap) (hm:cap<=cR):VRel I ρ N w (.so id n) (.slice (some ⟨ρ id,0,none⟩) n cap)
 |raw (n b:Nat):VRel I ρ N w (.raw n) (.pointer (some ⟨b,0,none⟩))
 |ul (k:EK) (xs:List (Ty k)) (ad:Option Addr) (cap:Nat) (hm:xs.length<=cR):VRel I ρ N w (.ul k xs) (.slice ad xs.length cap)
 |hd (n:Nat) (ad:Option Addr) (cap:Nat) (hm:n<=cR):VRel I ρ N w (.hd n) (.slice ad n cap)
 |sw (k:EK) (id n:Nat) (h:id+1<N) (hc:n<=ρ (id+1)) (hm:ρ (id+1)<=cR):VRel I ρ N w (.sw k id n) (.slice (some ⟨ρ id,0,none⟩) n (ρ (id+1)))
 |sx (k:EK) (id off n ad cap:Nat) (h:id+1<N) (hc:off+n<=ρ (id+1)) (hm:ρ (id+1)<=cR) (hl:n<=cap) (ha:0<n->ad=off*k.sz):VRel I ρ N w (.sx k id off n) (.slice (some ⟨ρ id,ad,none⟩) n cap)
 |wp (id:Nat) (k:EK) (i o:Nat) (h:id+1<N):VRel I ρ N w (.wp id k i o) (.pointer (some ⟨ρ id,i*k.sz+o,none⟩))
 |mr (id:Nat) (h:id<N):VRel I ρ N w (.mr id) (.map (some (ρ id)))
 |nilm:VRel I ρ N w .nilm (.map none)
structure Up(I:Nat->Nat->Prop)(ρ:Nat->Nat)(N:Nat)(w:World)(I':Nat->Nat->Prop)(ρ':Nat->Nat)(N':Nat)(w':World):Prop where
 mono:∀b j,I b j->I' b j
 cell:∀b j,I b j->w'.cell? ⟨b,j,none⟩=w.cell? ⟨b,j,none⟩
 rho:∀id,id<N->ρ' id=ρ id
 num:N<=N'
theorem Up.refl(I:Nat->Nat->Prop)(ρ:Nat->Nat)(N:Nat)(w:World):Up I ρ N w I ρ N w:=⟨λ_ _ h=>h,λ_ _ _=>rfl,λ_ _=>rfl,Aj _⟩
theorem Up.trans{I I' e:Nat->Nat->Prop}{ρ ρ' a:Nat->Nat}{N N' c:Nat}{w w' d:World}(h:Up I ρ N w I' ρ' N' w')(k:Up I' ρ' N' w' e a c d):
  Up I ρ N w e a c d:=
 ⟨λb j f=>k.mono b j (h.mono b j f),λb j f=>(k.cell b j (h.mono b j f)).trans (h.cell b j f),
  λid hid=>(k.rho id (Ax hid h.num)).trans (h.rho id hid),AF h.num k.num⟩
theorem VRel.up{I I':Nat->Nat->Prop}{ρ ρ':Nat->Nat}{N N':Nat}{w w':World}(u:Up I ρ N w I' ρ' N' w'){v:V}{cv:Value}(h:VRel I ρ N w v cv):
  VRel I' ρ' N' w' v cv:=by
 induction h with
 |undef cv=>exact .undef cv
 |bool b=>exact .bool b
 |int k n h=>exact .int k n h
 |str l s d h=>exact .str l s d h
 |sln k o=>exact .sln k o
 |sle k o r F=>exact .sle k o r F
 |sl k o xs b a C cap d q c D f t A z g=>exact .sl k o xs b a C cap d q c D f (λi x j m y=>u.mono _ _ (t i x j m y)) (λi x j m y=>(u.cell _ _ (t i x j m y)).trans (A i x j m y)) g
 |agg cs vs d m G z g=>exact .agg cs vs d m G g
 |tup cs vs d z g=>exact .tup cs vs d g
 |ea cs b a f m t A z g=>exact .ea cs b a f m (λj h=>u.mono _ _ (t j h)) (λj h=>(u.cell _ _ (t j h)).trans (A j h)) g
 |ptr id a h=>rw[<-u.rho id h];exact .ptr id a (Ax h u.num)
 |nilp=>exact .nilp
 |fn f cs vs d z g=>exact .fn f cs vs d g
 |nilif=>exact .nilif
 |bn E n p=>exact .bn E n p
 |junk cv h=>exact .junk cv h
 |so id n cap h q c=>rw[<-u.rho id h];exact .so id n cap (Ax h u.num) q c
 |raw n b=>exact .raw n b
 |ul k xs r cap c=>exact .ul k xs r cap c
 |hd n r cap c=>exact .hd n r cap c
 |sw k id n h q c=>have e:=u.rho (id+1) h;have B:id+1<N':=Ax h u.num;rw[<-u.rho id (by omega),<-e];exact .sw k id n B (by rw[e];exact q) (by rw[e];exact c)
 |sx k id a n r cap h q c d H=>have e:=u.rho (id+1) h;have B:id+1<N':=Ax h u.num;rw[<-u.rho id (by omega)];exact .sx k id a n r cap B (by rw[e];exact q) (by rw[e];exact c) d H
 |wp id k i o h=>rw[<-u.rho id (by omega)];exact .wp id k i o (Ax h u.num)
 |mr id h=>rw[<-u.rho id h];exact .mr id (Ax h u.num)
 |nilm=>exact .nilm
section
variable{I:Nat->Nat->Prop}{ρ:Nat->Nat}{N:Nat}{w:World}
theorem VRel.own{k:EK}{o o':Fl}{xs:List (Ty k)}{cv:Value}(h:VRel I ρ N w (.sl k o xs) cv)(e:o'=.may true->o=.may true)(t:o'≠.own):VRel I ρ N w (.sl k o' xs) cv:=by
 cases h with
 |sln=>exact .sln _ _
 |sle _ _ j _=>exact .sle _ _ j t
 |sl _ _ _ b a c cap r i q d f p m g=>exact .sl k o' xs b a c cap r i q (λh=>d (e h)) f p m g
theorem VRel.disown{v:V}{cv:Value}(h:VRel I ρ N w v cv):VRel I ρ N w (disown v) cv:=by cases v<;>simp only[AM.disown]<;>first|exact h|exact h.own (by rename_i o _;cases o<;>simp[Fl.dis]) (by rename_i o _;cases o<;>simp[Fl.dis])|(cases h;exact .junk _ rfl)|(cases h;rename_i a;exact .hd _ _ _ a)|exact .undef _
theorem tX(v:V)(cv:Value):cH (AM.disown v) cv:=by
 cases v with
 |sl k o xs=>cases o<;>simp[AM.disown,cH,Fl.dis]
 |_=>simp[AM.disown,cH]
theorem iW(v:V):(disown v).one=v.one:=by cases v<;>rfl
theorem VRel.oneCell{v:V}{cv:Value}(h:VRel I ρ N w v cv)(a:v.one=true):cv.oneCell'=true:=by cases h<;>first|rfl|assumption|simp[V.one] at a
theorem nw(k:EK)(x:Ty k):∀c∈enc k x,c.one=true:=by cases k<;>simp[enc,V.one]
theorem ba(k:EK)(x:Ty k):(enc k x).length=k.sz:=by cases k<;>rfl
theorem VRel.weak{v:V}{cv:Value}(h:VRel I ρ N w v cv):VRel I ρ N w v.weak cv:=by cases v<;>simp only[V.weak]<;>first|exact h.own (by simp) (by simp)|exact h.disown
theorem VRel.full{k:EK}{xs:List (Ty k)}{a:Addr}{c cap:Nat}(h:VRel I ρ N w (.sl k (.may true) xs) (.slice (some a) c cap)):c=cap:=by
 cases h with
 |sle=>rfl
 |sl _ _ _ b e _ _ p i o d f j m g=>exact d rfl
theorem ac5(k:EK)(x:Ty k):(enc k x).map V.weak=enc k x:=by cases k<;>rfl
def V.inRange:V->Prop
 | .int k n=>k.min<=n∧n<=k.max
 |_=>True
theorem VRel.inRange{v:V}{cv:Value}(h:VRel I ρ N w v cv):v.inRange:=by cases h<;>simp only[V.inRange]<;>assumption
theorem abn{k:EK}{cs:List V}{x:Ty k}(h:dec k cs=some x)(a:∀c∈cs,c.inRange):enc k x=cs.map V.weak:=by
 unfold dec at h
 split at h<;>first
  |(cases Ar h;rfl)
  |(cases Ar h;simp[enc,V.weak,AM.disown];done)
  |(
    cases Ar h;have:=a _ (Az.2 rfl);simp only[V.inRange,Cm,B2,Bb,Br] at this;simp[enc,V.weak,AM.disown] at this ⊢;omega)
  |exact absurd h (by simp)
end
def V.flat1:V->Bool
 | .bool _| .int _ _| .str _| .sl _ _ _| .nilp| .nilif| .fn _ []=>true
 |_=>false
section
variable{I:Nat->Nat->Prop}{ρ ρ':Nat->Nat}{N N':Nat}{w:World}
theorem tY(k:EK)(x:Ty k):∀c∈enc k x,c.flat1=true:=by cases k<;>simp[enc,V.flat1]
theorem VRel.flat1{v:V}{cv:Value}(h:VRel I ρ N w v cv):v.flat1=true->VRel I ρ' N' w v cv:=by
 induction h with
 |undef cv=>intro a;simp[V.flat1] at a
 |bool b=>intro _;exact .bool b
 |int k n h=>intro _;exact .int k n h
 |str l s d h=>intro _;exact .str l s d h
 |sln k o=>intro _;exact .sln k o
 |sle k o y r=>intro _;exact .sle k o y r
 |sl k o xs b e g cap d u B a f A z t m=>intro _;exact .sl k o xs b e g cap d u B a f A z (λi x j v q p=>m i x j v q p (tY k x v (Af p)))
 |agg=>intro a;simp[V.flat1] at a
 |tup=>intro a;simp[V.flat1] at a
 |ea=>intro a;simp[V.flat1] at a
 |ptr=>intro a;simp[V.flat1] at a
 |nilp=>intro _;exact .nilp
 |fn f cs vs d t m=>
  intro a;cases cs with
  |nil=>exact .fn f [] vs d (by simp)
  |cons c cs=>simp[V.flat1] at a
 |nilif=>intro _;exact .nilif
 |bn=>intro a;simp[V.flat1] at a
 |junk=>intro a;simp[V.flat1] at a
 |so=>intro a;simp[V.flat1] at a
 |raw=>intro a;simp[V.flat1] at a
 |ul=>intro a;simp[V.flat1] at a
 |hd=>intro a;simp[V.flat1] at a
 |sw=>intro a;simp[V.flat1] at a
 |sx=>intro a;simp[V.flat1] at a
 |wp=>intro a;simp[V.flat1] at a
 |mr=>intro a;simp[V.flat1] at a
 |nilm=>intro a;simp[V.flat1] at a
end
def wH(a:Nat×Nat)(n:Nat):Prop:=∀j,j<n->¬(a.1<=j∧j<a.2)
theorem aiv(n:Nat):wH (0,0) n:=by intro j _;simp
def sL(g:Gh)(w:World)(c:Occ)(k:EK)(xs:List (Ty k))(cv:Value):Prop:=
 (xs=[]∧cv=.slice none 0 0)∨
 ∃b cap a e d,wH d a.size∧cv=.slice (some ⟨b,0,none⟩) xs.length cap∧xs.length<=cap∧cap<=cR∧g.O b=some c∧w.heap[b]? =some (.cells a e d)∧cap*k.sz<=a.size∧(k=.u8->e=g.β)∧
  (∀j,¬g.I b j)∧∀(i:Nat) x (j:Nat) v u,xs[i]? =some x->(enc k x)[j]? =some v->a[i*k.sz+j]? =some u->VRel g.I (λ_=>0) 0 w v u
def ai(g:Gh)(w:World)(c:Occ)(v:V)(cv:Value):Prop:=
 match v,cv with
 | .sl k .own _,.slice (some a) d cap=>
   g.O a.block=some c∧(∃b e f,w.heap[a.block]? =some (.cells b e f)∧a.off+cap*k.sz<=b.size∧(k=.u8->e=g.β))∧
    ∀j,a.off+d*k.sz<=j->j<a.off+cap*k.sz->¬g.I a.block j∧w.frozen? ⟨a.block,j,none⟩=false
 | .raw n,.pointer (some a)=>g.O a.block=some c∧(∃b e,w.heap[a.block]? =some (.cells b e (0,0))∧b.size=n)∧∀j,¬g.I a.block j
 | .ul k xs,cv=>sL g w c k xs cv
 |_,_=>True
theorem sL.keep{g c:Gh}{w w':World}{a:Occ}{k:EK}{xs:List (Ty k)}{cv:Value}(h:sL g w a k xs cv)(d:c.β=g.β)
  (p:∀b j,g.I b j->c.I b j∧w'.cell? ⟨b,j,none⟩=w.cell? ⟨b,j,none⟩)
  (o:∀b,g.O b=some a->c.O b=some a∧w'.heap[b]? =w.heap[b]?∧∀j,c.I b j->g.I b j):sL c w' a k xs cv:=by
 rcases h with h|⟨b,cap,m,e,B,t,M,D,E,H,q,F,z,P,J⟩
 ·exact .inl h
 ·obtain⟨r,G,L⟩:=o b H;refine .inr ⟨b,cap,m,e,B,t,M,D,E,r,G.trans q,F,λo=>(z o).trans d.symm,λj y=>P j (L j y),λi x j v u C A Q=>?_⟩;exact(J i x j v u C A Q).up ⟨λb j f=>(p b j f).1,λb j f=>(p b j f).2,λ_ _=>rfl,Aj _⟩
theorem bd{g d:Gh}{w w':World}{a:Occ}{v:V}{cv:Value}(h:ai g w a v cv)
  (f:d.β=g.β) (E:∀b j,g.I b j->d.I b j∧w'.cell? ⟨b,j,none⟩=w.cell? ⟨b,j,none⟩)
  (i:∀b,g.O b=some a->d.O b=some a∧w'.heap[b]? =w.heap[b]?∧∀j,d.I b j->g.I b j):ai d w' a v cv:=by
 unfold ai at h ⊢;split;·rename_i k xs G D cap;obtain⟨x,⟨c,e,C,r,t,A⟩,u⟩:=h;obtain⟨p,m,y⟩:=i _ x;refine⟨p,⟨c,e,C,m.trans r,t,λi=>by rw[f];exact A i⟩,λj z o=>?_⟩;obtain⟨F,B⟩:=u j z o;refine⟨λq=>F (y j q),?_⟩;simpa [Bq,m] using B
 ·obtain⟨x,⟨c,e,r,t⟩,u⟩:=h;obtain⟨p,m,y⟩:=i _ x;exact⟨p,⟨c,e,m.trans r,t⟩,λj q=>u j (y j q)⟩
 ·exact sL.keep h f E i
 ·trivial
theorem ai.disown(g:Gh)(w:World)(a:Occ)(v:V)(cv:Value):ai g w a (AM.disown v) cv:=by
 cases v with
 |sl k o xs=>cases o<;>simp[AM.disown,ai,Fl.dis]
 |_=>simp only[AM.disown,ai]
def cellsOf:List V->List V
 | [.rb xs]=>xs.map λb=>.int .u8 b.toNat
 | [.rw k xs]=>xs.flatMap (enc k)
 | [.tup [.rw k xs,.sw c a d,.wp _ _ i o]]=>(xs.flatMap (enc k)).set (i*k.sz+o) (.sw c a d)
 |cs=>cs
theorem c7{cs:List V}(h:b7 cs=false):cellsOf cs=cs:=by
 unfold cellsOf;split;·simp[b7] at h
 ·simp[b7] at h
 ·simp[b7] at h
 ·rfl
theorem agN{vs:List V}{j:Nat}{c:V}(a:(cellsOf [.tup vs])[j]? =some c)(h:c.one=true):(∃k x,c∈enc k x)∨∃f b g,vs.any (λv=>match v with| .sw k id n=>decide (k=f∧id=b∧n=g)|_=>false)=true∧c=.sw f b g:=by
 unfold cellsOf at a;split at a;·rename_i e;cases e
 ·rename_i e;cases e
 ·rename_i k xs f b g _ _ i o e;cases e;rw[Aw] at a;split at a
  ·split at a;·obtain rfl:=Ar a;exact .inr ⟨f,b,g,by simp,rfl⟩
   ·simp at a
  ·have d:=Af a;simp only[AC] at d;obtain⟨y,_,d⟩:=d;exact .inl ⟨k,y,d⟩
 ·have d:=Af a;simp only[Az] at d;subst d;simp[V.one] at h
def yz:List V->Option ((k:EK)×List (Ty k))
 | [.rw k xs]=>some ⟨k,xs⟩
 | [.tup [.rw k xs,.sw _ _ _,.wp _ _ _ _]]=>some ⟨k,xs⟩
 |_=>none
theorem fT{cs:List V}(h:b7 cs=false):yz cs=none:=by
 unfold yz;split;·simp[b7] at h
 ·simp[b7] at h
 ·rfl
structure lc(g:Gh)(N:Nat)(w:World)(id:Nat)(cs:List V)(arr:Array Value)(e:TypeId)(fz:Nat×Nat):Prop where
 len:(cellsOf cs).length<=arr.size
 plain:b7 cs=false->cs.length=arr.size∧fz=(0,0)
 typed:∀k xs,yz cs=some ⟨k,xs⟩->wH fz arr.size∧g.ρ (id+1)*k.sz<=arr.size∧id+1<N∧(k=.u8->e=g.β)
 cold:∀j,j<(cellsOf cs).length->¬(fz.1<=j∧j<fz.2)
 one:∀c∈cellsOf cs,c.one=true
 rel:∀(j:Nat) c cv,(cellsOf cs)[j]? =some c->arr[j]? =some cv->VRel g.I g.ρ N w c cv
 own:∀(j:Nat) c cv,(cellsOf cs)[j]? =some c->arr[j]? =some cv->ai g w (.cell id j) c cv
 bn:∀(j E n:Nat),(cellsOf cs)[j]? =some (.bn E n)->E=e∧n=arr.size∧(arr[j]? =some (.pointer none)∨arr[j]? =some (.pointer (some ⟨g.ρ id,j,none⟩)))
theorem lc.typedUp{g j:Gh}{N N':Nat}{w:World}{id:Nat}{cs:List V}{i f:Array Value}{e:TypeId}{o:Nat×Nat}(h:lc g N w id cs i e o)
  (m:j.β=g.β) (t:∀id,id<N->j.ρ id=g.ρ id) (u:N<=N') (p:i.size=f.size):
  ∀k xs,yz cs=some ⟨k,xs⟩->wH o f.size∧j.ρ (id+1)*k.sz<=f.size∧id+1<N'∧(k=.u8->e=j.β):=by
 intro k xs q;obtain⟨a,b,c,d⟩:=h.typed k xs q;exact⟨p▸a,by rw[t _ c];omega,by omega,λr=>(d r).trans m.symm⟩
structure wI(g:Gh)(N:Nat)(w:World)(id:Nat)(cs:List V)(arr:Array Value)(e:TypeId):Prop where
 len:cs.length=arr.size
 one:∀c∈cs,c.one=true
 rel:∀(j:Nat) c cv,cs[j]? =some c->arr[j]? =some cv->VRel g.I g.ρ N w c cv
 own:∀(j:Nat) c cv,cs[j]? =some c->arr[j]? =some cv->ai g w (.cell id j) c cv
 bn:∀(j E n:Nat),cs[j]? =some (.bn E n)->E=e∧n=arr.size∧(arr[j]? =some (.pointer none)∨arr[j]? =some (.pointer (some ⟨g.ρ id,j,none⟩)))
theorem ab6{cs:List V}(h:∀c∈cs,c.one=true):b7 cs=false:=by
 unfold b7;split;·have:=h _ (Az.2 rfl);simp[V.one] at this
 ·have:=h _ (Az.2 rfl);simp[V.one] at this
 ·have:=h _ (Az.2 rfl);simp[V.one] at this
 ·rfl
theorem lc.low{g:Gh}{N:Nat}{w:World}{id:Nat}{cs:List V}{j:Array Value}{e:TypeId}{m:Nat×Nat}(h:lc g N w id cs j e m)(k:b7 cs=false):
  m=(0,0)∧wI g N w id cs j e:=by
 have o:=c7 k;obtain⟨a,b,t,c,d,f,g,i⟩:=h;rw[o] at d f g i;exact⟨(b k).2,(b k).1,d,f,g,i⟩
theorem wI.high{g:Gh}{N:Nat}{w:World}{id:Nat}{cs:List V}{c:Array Value}{e:TypeId}(h:wI g N w id cs c e):lc g N w id cs c e (0,0):=by have k:=ab6 h.one;have b:=c7 k;obtain⟨a,d,f,g,i⟩:=h;exact⟨by rw[b,a];exact Aj _,λ_=>⟨a,rfl⟩,by rw[fT k];simp,by intro j _;simp,by rw[b];exact d,by rw[b];exact f,by rw[b];exact g,by rw[b];exact i⟩
def MK.keyV:(k:MK)->k.K->Value
 | .pb,x=>.agg #[.int .i64 x.1,.int .i64 x.2]
 | .bs,x=>.int .u8 x
 | .bn,x=>.int .u8 x
 | .ib,x=>.int .i64 x
 | .sn,x=>.string ⟨x.toArray⟩
 | .sb,x=>.string ⟨x.toArray⟩
def MK.valV:(k:MK)->k.T->Value
 | .pb,x=>.bool x
 | .bs,x=>.string ⟨x.toArray⟩
 | .bn,x=>.int .i64 x
 | .ib,x=>.bool x
 | .sn,x=>.int .i64 x
 | .sb,x=>.bool x
def kd:List V->Bool
 | [.mp _ _]=>true
 |_=>false
def MK.okT:(k:MK)->k.T->Prop
 | .pb,_=>True
 | .bs,x=>x.length<=cR
 | .bn,x=>IntKind.i64.min<=x∧x<=IntKind.i64.max
 | .ib,_=>True
 | .sb,_=>True
 | .sn,x=>IntKind.i64.min<=x∧x<=IntKind.i64.max
def dL{k:MK}(es:List (k.K×k.T))(ents:Array MapEntry)(clock:Nat):Prop:=
 es.length=ents.size∧clock=ents.size∧∀(i:Nat) e en,es[i]? =some e->ents[i]? =some en->en.born=i∧en.key=k.keyV e.1∧en.val=k.valV e.2∧k.okT e.2
structure fa(g:Gh)(N:Nat)(w:World)(id:Nat)(cs:List V):Prop where
 row:kd cs=false->∃arr e fz,w.heap[g.ρ id]? =some (.cells arr e fz)∧lc g N w id cs arr e fz
 map:∀(k:MK) es,cs=[.mp k es]->∃ents clock,w.heap[g.ρ id]? =some (.map ents clock)∧dL es ents clock
theorem tZ{cs:List V}(h:kd cs=true):∃k es,cs=[.mp k es]:=by
 unfold kd at h;split at h;·exact⟨_,_,rfl⟩
 ·simp at h
theorem fa.block{g:Gh}{N:Nat}{w:World}{id:Nat}{cs:List V}(h:fa g N w id cs):∃x,w.heap[g.ρ id]? =some x:=by
 cases b:kd cs with
 |false=>obtain⟨d,e,f,a,_⟩:=h.row b;exact⟨_,a⟩
 |true=>obtain⟨k,es,rfl⟩:=tZ b;obtain⟨ents,c,a,_⟩:=h.map k es rfl;exact⟨_,a⟩
theorem fa.lt{g:Gh}{N:Nat}{w:World}{id:Nat}{cs:List V}(h:fa g N w id cs):g.ρ id<w.heap.size:=by obtain⟨x,a⟩:=h.block;exact(AK.1 a).1
theorem fa.keep{g i:Gh}{N N':Nat}{w w':World}{id b:Nat}{cs:List V}(h:fa g N w id cs)(m:w'.heap[i.ρ b]? =w.heap[g.ρ id]?)(p:∀a e d,w.heap[g.ρ id]? =some (.cells a e d)->lc g N w id cs a e d->lc i N' w' b cs a e d):fa i N' w' b cs:=
 ⟨λq=>by obtain⟨a,e,d,f,j⟩:=h.row q;exact⟨a,e,d,m.trans f,p a e d f j⟩,λk es o=>by obtain⟨ents,c,f,j⟩:=h.map k es o;exact⟨ents,c,m.trans f,j⟩⟩
theorem fa.ofRow{g:Gh}{N:Nat}{w:World}{id:Nat}{cs:List V}{a:Array Value}{e:TypeId}{b:Nat×Nat}(c:w.heap[g.ρ id]? =some (.cells a e b))(f:lc g N w id cs a e b)(h:kd cs=false):fa g N w id cs:=
 ⟨λ_=>⟨a,e,b,c,f⟩,λk es d=>by subst d;simp[kd] at h⟩
theorem agO{cs:List V}(h:∀c∈cs,c.one=true):kd cs=false:=by
 cases a:kd cs with
 |false=>rfl
 |true=>obtain⟨k,es,rfl⟩:=tZ a;have:=h _ (Az.2 rfl);simp[V.one] at this
theorem fa.ofRow0{g:Gh}{N:Nat}{w:World}{id:Nat}{cs:List V}{a:Array Value}{e:TypeId}(c:w.heap[g.ρ id]? =some (.cells a e (0,0)))(b:wI g N w id cs a e):fa g N w id cs:=
 .ofRow c b.high (agO b.one)
def kO(w:World)(b j:Nat):Prop:=(w.cell? ⟨b,j,none⟩).isSome=true∧(Zed->w.frozen? ⟨b,j,none⟩=true->∃n,w.cell? ⟨b,j,none⟩=some (.int .u8 n))
theorem kO.blk{w w':World}{b j:Nat}(h:kO w b j)(a:w'.heap[b]? =w.heap[b]?):kO w' b j:=by
 unfold kO Bn Bq at*
 rw[a];exact h
theorem kO.same{w w':World}{b j:Nat}(h:kO w b j)(c:w'.cell? ⟨b,j,none⟩=w.cell? ⟨b,j,none⟩)(a:w'.frozen? ⟨b,j,none⟩=w.frozen? ⟨b,j,none⟩):kO w' b j:=by
 unfold kO at*
 rw[c,a];exact h
theorem kO.row{w:World}{b j:Nat}{a:Array Value}{e:TypeId}{c:Nat×Nat}(h:w.heap[b]? =some (.cells a e c))(i:j<a.size)(g:Zed->c.1<=j∧j<c.2->∃n,a[j]? =some (.int .u8 n)):kO w b j:=by
 have d:w.cell? ⟨b,j,none⟩=a[j]?:=by simp[Bn,h]
 refine⟨by rw[d,Am i];rfl,λz f=>?_⟩;rw[d];refine g z ?_;simp only[Bq,h,Ab,decide_eq_true_eq] at f;exact f
theorem kO.set{w w':World}{b a j:Nat}{f d:Array Value}{e:TypeId}{i:Nat×Nat}(h:kO w a j)(m:w'.cell? ⟨a,j,none⟩=w.cell? ⟨a,j,none⟩)(o:w.heap[b]? =some (.cells f e i))(k:w'.heap[b]? =some (.cells d e i))(p:∀c,c≠b->w'.heap[c]? =w.heap[c]?):kO w' a j:=by
 refine h.same m ?_;unfold Bq;by_cases g:a=b;·subst g;simp only[o,k]
 ·simp only[p a g]
theorem kO.lt{w:World}{b j:Nat}(h:kO w b j):b<w.heap.size:=by obtain⟨v,a⟩:=BK.1 h.1;exact World.block_lt_of_cell? _ _ a
structure HR(g:Gh)(hp:List ah)(w:World):Prop where
 obj:∀(id:Nat) cs,hp[id]? =some (some cs)->fa g hp.length w id cs
 apart:∀(id id':Nat) cs cs',hp[id]? =some (some cs)->hp[id']? =some (some cs')->id≠id'->g.ρ id≠g.ρ id'
 notI:∀(id:Nat) cs,hp[id]? =some (some cs)->∀j,¬g.I (g.ρ id) j
 notO:∀(id:Nat) cs,hp[id]? =some (some cs)->g.O (g.ρ id)=none
 exI:∀b j,g.I b j->kO w b j
 oLt:∀b o,g.O b=some o->b<w.heap.size
structure ER(g:Gh)(N:Nat)(w:World)(env:List V)(tmps:Array Value):Prop where
 size:env.length=tmps.size
 rel:∀(n:Nat) v cv,env[n]? =some v->tmps[n]? =some cv->VRel g.I g.ρ N w v cv
 own:∀(n:Nat) v cv,env[n]? =some v->tmps[n]? =some cv->ai g w (.slot n) v cv
structure FR(g₀:Gh)(hp₀:List ah)(w₀:World)(g:Gh)(hp:List ah)(w:World):Prop where
 beta:g.β=g₀.β
 os:w.os=w₀.os
 tape:w.tape=w₀.tape
 output:w.output=w₀.output
 size:w₀.heap.size<=w.heap.size
 block:∀b,b<w₀.heap.size->(∀(id:Nat) cs,hp₀[id]? =some (some cs)->g₀.ρ id≠b)->g₀.O b=none->w.heap[b]? =w₀.heap[b]?
 up:Up g₀.I g₀.ρ hp₀.length w₀ g.I g.ρ hp.length w
 iSame:∀b j,b<w₀.heap.size->(∀(id:Nat) cs,hp₀[id]? =some (some cs)->g₀.ρ id≠b)->g₀.O b=none->g.I b j->g₀.I b j
 oSame:∀b,b<w₀.heap.size->(∀(id:Nat) cs,hp₀[id]? =some (some cs)->g₀.ρ id≠b)->g₀.O b=none->g.O b=none
 live:∀(id:Nat) cs,hp[id]? =some (some cs)->(∃cs₀,hp₀[id]? =some (some cs₀))∨(hp₀.length<=id∧(w₀.heap.size<=g.ρ id∨g₀.O (g.ρ id)≠none∨∃(id':Nat)(cs':List V),hp₀[id']? =some (some cs')∧g₀.ρ id'=g.ρ id))
theorem FR.refl(g:Gh)(hp:List ah)(w:World):FR g hp w g hp w:=
 ⟨rfl,rfl,rfl,rfl,Aj _,λ_ _ _ _=>rfl,Up.refl _ _ _ _,λ_ _ _ _ _ h=>h,λ_ _ _ h=>h,λ_ cs h=>.inl ⟨cs,h⟩⟩
theorem FR.noObj{g₀ g₁:Gh}{hp₀ hp₁:List ah}{w₀ w₁:World}(h:FR g₀ hp₀ w₀ g₁ hp₁ w₁){b:Nat}(o:b<w₀.heap.size)(i:∀(id:Nat) cs,hp₀[id]? =some (some cs)->g₀.ρ id≠b)(k:g₀.O b=none):
  ∀(id:Nat) cs,hp₁[id]? =some (some cs)->g₁.ρ id≠b:=by
 intro id cs hid e;rcases h.live id cs hid with⟨a,j⟩|⟨_,c|c|⟨d,f,c,m⟩⟩
 ·refine i id a j ?_;have g:id<hp₀.length:=(Ad.1 j).1;rw[<-h.up.rho id g];exact e
 ·omega
 ·rw[e] at c;exact c k
 ·exact i d f c (m.trans e)
theorem FR.trans{g₀ g₁ a:Gh}{hp₀ hp₁ f:List ah}{w₀ w₁ i:World}(h:FR g₀ hp₀ w₀ g₁ hp₁ w₁)(k:FR g₁ hp₁ w₁ a f i):FR g₀ hp₀ w₀ a f i:=by
 refine⟨k.beta.trans h.beta,k.os.trans h.os,k.tape.trans h.tape,k.output.trans h.output,AF h.size k.size,?_,h.up.trans k.up,?_,?_,?_⟩;·intro b e c d;exact(k.block b (Ax e h.size) (h.noObj e c d) (h.oSame b e c d)).trans (h.block b e c d)
 ·intro b j e c d v;exact h.iSame b j e c d (k.iSame b j (Ax e h.size) (h.noObj e c d) (h.oSame b e c d) v)
 ·intro b e c d;exact k.oSame b (Ax e h.size) (h.noObj e c d) (h.oSame b e c d)
 ·intro id cs hid;rcases k.live id cs hid with⟨o,p⟩|⟨p,y⟩
  ·rcases h.live id o p with q|⟨q,r⟩
   ·exact .inl q
   ·refine .inr ⟨q,?_⟩;rw[k.up.rho id (Ad.1 p).1];exact r
  ·refine .inr ⟨AF h.up.num p,?_⟩;by_cases m:a.ρ id<w₀.heap.size
   ·right;by_cases d:g₀.O (a.ρ id)=none
    ·right;by_cases c:∀(g:Nat) cs,hp₀[g]? =some (some cs)->g₀.ρ g≠a.ρ id;·exact absurd rfl (FR.noObj k (Ax m h.size) (h.noObj m c d) (h.oSame _ m c d) id cs hid)
     ·exact Classical.byContradiction λx=>c λg t r u=>x ⟨g,t,r,u⟩
    ·left;exact d
   ·left;omega
def ua:Nat:=0
def sM:List Value:=[]
structure SR(g:Gh)(s:St)(w:World)(a:Act):Prop where
 hr:HR g s.hp w
 er:ER g s.hp.length w s.env a.tmps
def bI(g:Gh)(s:St)(w:World)(a:Act)(s':St)(next:Act->World->Prop):Prop:=
 ∀b w' c,SR c s' w' b->FR g s.hp w c s'.hp w'->b.defers=a.defers->next b w'
def nZ:V->Value->Bool
 | .int k n,.int k' c=>decide (k=k')&&(n==c&&(decide (k.min<=n)&&decide (n<=k.max)))
 | .bool b,.bool d=>b==d
 | .str l,.string s=>decide (s.data.toList=l)&&decide (s.size<=cR)
 | .sl _ _ xs,.slice none 0 0=>xs.isEmpty
 | .ul _ xs,.slice none 0 0=>xs.isEmpty
 | .nilp,.pointer none=>true
 | .nilif,.nilIface=>true
 | .nilm,.map none=>true
 |_,_=>false
def fH:List V->List Value->Bool
 | [],[]=>true
 |c::cs,v::vs=>nZ c v&&fH cs vs
 |_,_=>false
def tg:V->Value->Bool
 | .agg cs,.agg vs=>fH cs vs.toList
 |v,cv=>nZ v cv
def ay:aj->Operand->Bool
 | .t n,.tmp k=>n==k
 | .tk n,.tmp k=>n==k
 | .c v,.const cv=>tg v cv
 | .c (.fn f []),.func h=>f==h
 |_,_=>false
section
variable{I:Nat->Nat->Prop}{ρ:Nat->Nat}{N:Nat}{w:World}{g:Gh}{s:St}{a:Act}{P:Program}
theorem aan{v:V}{cv:Value}(h:nZ v cv=true):VRel I ρ N w v cv∧v.one=true:=by
 unfold nZ at h;split at h;·simp only[Ab,decide_eq_true_eq,beq_iff_eq] at h;obtain⟨rfl,rfl,c,b⟩:=h;exact⟨.int _ _ ⟨c,b⟩,rfl⟩
 ·obtain rfl:=by simpa using h
  exact⟨.bool _,rfl⟩
 ·simp only[Ab,decide_eq_true_eq] at h;exact⟨.str _ _ h.1 h.2,rfl⟩
 ·rename_i xs;cases xs with
  |nil=>exact⟨.sln _ _,rfl⟩
  |cons x xs=>simp at h
 ·rename_i k xs;cases xs with
  |nil=>exact⟨.ul k [] none 0 (by simp),rfl⟩
  |cons x xs=>simp at h
 ·exact⟨.nilp,rfl⟩
 ·exact⟨.nilif,rfl⟩
 ·exact⟨.nilm,rfl⟩
 ·simp at h
theorem afJ{v:V}{cv:Value}(h:nZ v cv=true):cH v cv:=by unfold nZ at h;split at h<;>first|(simp[cH];done)|(simp at h;done)|(simp[cH];exact h)|(simp[cH];simp at h;exact h)|simp at h
theorem kL:∀{cs:List V}{vs:List Value},fH cs vs=true->∀(i:Nat) c cv,cs[i]? =some c->vs[i]? =some cv->cH c cv
 | [],[],_,i,c,cv,b,d=>by simp at b
 |c::cs,v::vs,h,i,f,e,b,d=>by
  simp only[fH,Ab] at h;cases i with
  |zero=>simp at b d;subst b d;exact afJ h.1
  |succ i=>exact kL h.2 i f e (by simpa using b) (by simpa using d)
 | [],_::_,h,_,_,_,_,_=>by simp[fH] at h
 |_::_,[],h,_,_,_,_,_=>by simp[fH] at h
theorem kM:∀{cs:List V}{vs:List Value},fH cs vs=true->cs.length=vs.length∧(∀c∈cs,c.one=true)∧
  ∀(i:Nat) c cv,cs[i]? =some c->vs[i]? =some cv->VRel I ρ N w c cv
 | [],[],_=>⟨rfl,by simp,by simp⟩
 |c::cs,v::vs,h=>by
  simp only[fH,Ab] at h;obtain⟨j,o⟩:=aan (I:=I) (ρ:=ρ) (N:=N) (w:=w) h.1;obtain⟨k,e,f⟩:=kM h.2;refine⟨by simp[k],by simpa using ⟨o,e⟩,?_⟩;intro i p m d b;cases i with
  |zero=>simp at d b;subst d b;exact j
  |succ i=>simp at d b;exact f i _ _ d b
 | [],_::_,h=>by simp[fH] at h
 |_::_,[],h=>by simp[fH] at h
theorem aey{v:V}{cv:Value}(h:tg v cv=true):VRel I ρ N w v cv:=by
 unfold tg at h;split at h;·rename_i cs vs;obtain⟨e,f,j⟩:=kM (I:=I) (ρ:=ρ) (N:=N) (w:=w) h;exact .agg _ _ (by simpa using e) f (λi c cv d b=>kL h i c cv d (by simpa using b)) (λi c cv d b=>j i c cv d (by simpa using b))
 ·exact(aan h).1
theorem pM{v:V}{cv:Value}(h:tg v cv=true)(b:Occ):ai g w b v cv:=by
 unfold tg at h;split at h;·simp[ai]
 ·unfold nZ at h;split at h<;>first|(simp[ai];done)|(exact .inl ⟨by simpa using h,rfl⟩)|simp at h
theorem ER.get(h:ER g N w s.env a.tmps)(n:Nat):VRel g.I g.ρ N w (s.get n) (a.tmps.getD n undef):=by
 by_cases c:n<s.env.length
 ·have b:n<a.tmps.size:=by rw[<-h.size];exact c
  refine h.rel n _ _ ?_ ?_;·simp[St.get,Aq,Ac c]
  ·simp[A3,b,Am b]
 ·have:s.get n=.undef:=by simp[St.get,Aq,AU (CV c)]
  rw[this];exact .undef _
theorem ER.getOwn(h:ER g N w s.env a.tmps)(n:Nat):ai g w (.slot n) (s.get n) (a.tmps.getD n undef):=by
 by_cases c:n<s.env.length
 ·have b:n<a.tmps.size:=by rw[<-h.size];exact c
  refine h.own n _ _ ?_ ?_;·simp[St.get,Aq,Ac c]
  ·simp[A3,b,Am b]
 ·have:s.get n=.undef:=by simp[St.get,Aq,AU (CV c)]
  rw[this];simp[ai]
theorem aB{x:aj}{o:Operand}(h:ay x o=true)(e:ER g N w s.env a.tmps):VRel g.I g.ρ N w (x.ev s) (a.eval o):=by
 unfold ay at h;split at h
 ·obtain rfl:=by simpa using h
  exact(e.get _).disown
 ·obtain rfl:=by simpa using h
  exact e.get _
 ·exact aey h
 ·obtain rfl:=by simpa using h
  exact .fn _ [] #[] rfl (by simp)
 ·simp at h
theorem ER.set(h:ER g N w s.env a.tmps)(d:Nat){v:V}{cv:Value}(k:VRel g.I g.ρ N w v cv)(j:ai g w (.slot d) v cv):
  ER g N w (s.set d v).env (a.put (some d) cv).tmps:=by
 refine⟨by simp[St.set,Act.put,h.size],?_,?_⟩
 ·intro n i f c b;simp only[St.set,Act.put,Aw,Dg] at c b;by_cases e:d=n;·subst e;simp only[if_true] at c b;split at c<;>split at b<;>simp_all
  ·simp only[e,if_false] at c b;exact h.rel n _ _ c b
 ·intro n i f c b;simp only[St.set,Act.put,Aw,Dg] at c b;by_cases e:d=n;·subst e;simp only[if_true] at c b;split at c<;>split at b<;>simp_all
  ·simp only[e,if_false] at c b;exact h.own n _ _ c b
theorem SR.set(h:SR g s w a)(d:Nat){v:V}{cv:Value}(c:VRel g.I g.ρ s.hp.length w v cv)(b:ai g w (.slot d) v cv):
  SR g (s.set d v) w (a.put (some d) cv):=⟨h.hr,h.er.set d c b⟩
def V.bare:V->Bool
 | .sl _ .own _=>false
 | .raw _=>false
 | .ul _ _=>false
 |_=>true
theorem eA{v:V}(h:v.bare=true)(g:Gh)(w:World)(b:Occ)(cv:Value):ai g w b v cv:=by
 cases v with
 |sl k o xs=>cases o<;>first|simp[V.bare] at h;done|simp[ai]
 |raw n=>simp[V.bare] at h
 |ul k xs=>simp[V.bare] at h
 |_=>simp[ai]
theorem cA(v:V):(disown v).bare=true:=by
 cases v with
 |sl k o xs=>cases o<;>rfl
 |_=>rfl
theorem HR.drew{hp:List ah}(h:HR g hp w):HR g hp w.drew:=by
 refine⟨?_,h.apart,h.notI,h.notO,h.exI,h.oLt⟩;intro id cs hid;refine(h.obj id cs hid).keep rfl λp e r q d=>?_
 have u:Up g.I g.ρ hp.length w g.I g.ρ hp.length w.drew:=⟨λ_ _ h=>h,λ_ _ _=>rfl,λ_ _=>rfl,Aj _⟩
 exact⟨d.len,d.plain,d.typed,d.cold,d.one,λj c cv i f=>(d.rel j c cv i f).up u,λj c cv i f=>bd (d.own j c cv i f) rfl (λb j m=>⟨m,rfl⟩) (λb k=>⟨k,rfl,λj o=>o⟩),d.bn⟩
theorem az{m:Oper}{d:Nat}{v:V}{cv:Value}{next:Act->World->Prop}{Q:Exit->Act->World->Prop}(h:SR g s w a)(f:m.dst=some d)
  (b:(execOp a.eval m).run P w=.ok (.value cv) w) (e:VRel g.I g.ρ s.hp.length w v cv) (c:v.bare=true)
  (i:bI g s w a (s.set d v) next):m.wp P a w next Q:=by
 unfold Cw CZ;rw[b,f];exact i _ _ g (h.set d e (eA c _ _ _ _)) (FR.refl _ _ _) rfl
end
def ga:Option aj->Option Operand->Bool
 |none,none=>true
 |some x,some y=>ay x y
 |_,_=>false
def zF:aj->Bool
 | .tk _=>false
 |_=>true
def abo(P:Program)(t:TypeId)(k:IntKind):Bool:=match P.underlying t with|some (.int k')=>decide (k=k')|_=>false
def jD(P:Program)(t:TypeId):Option Bool:=match P.underlying t with|some (.struct _)|some (.array _ _)=>some true|some _=>some false|none=>none
def dM(P:Program)(t:TypeId):Option Nat:=(P.info? t).map (·.size)
def zG(P:Program)(t:TypeId):Bool:=match dM P t with|some n=>n !=0|none=>false
def jz(P:Program):Nat:=((A2 P.types.size).find? λt=>match P.underlying t with|some (.int .u8)=>true|_=>false).getD 0
def pV(P:Program)(e:TypeId)(k:EK):Bool:=
 (match k with| .u8=>e==jz P|_=>true)&&
 (match P.info? e with
 |some i=>i.size==k.sz&&(i.bytes==k.bytes&&(jD P e==some k.isAgg&&(match i.zero with|some z=>fH (enc k (ao k)) z.cells.toList&&(z.cells.size==k.sz)|none=>false)))
 |none=>false)
def gG(P:Program)(t:TypeId)(k:EK):Bool:=match P.underlying t with|some (.slice e)=>pV P e k|_=>false
def sk:Op->Option (Builtin×List Operand×List TypeId)
 | .call c=>match c.callee with| .builtin b=>some (b,c.args.toList,c.argTypes.toList)|_=>none
 |_=>none
theorem ke{o:Op}{b:Builtin}{avs:List Operand}{e:List TypeId}(h:sk o=some (b,avs,e)):o=.call ⟨.builtin b,⟨avs⟩,⟨e⟩⟩:=by
 unfold sk at h;split at h
 ·rename_i c;obtain⟨d,⟨f⟩,⟨i⟩⟩:=c;simp only at h;split at h;·simp only[Ae,Al] at h;obtain⟨rfl,rfl,rfl⟩:=h;rfl
  ·simp at h
 ·simp at h
def aM(P:Program)(o:IOp)(m:Oper):Bool:=
 match o with
 | .pick d c x y=>(m.dst==some d)&&(match m.op with| .pick D h j=>ay c D&&(ay x h&&ay y j)&&(zF x&&zF y)|_=>false)
 | .bin d o x y=>(m.dst==some d)&&(match m.op with| .binOp o' _ h j _=>decide (o=o')&&(ay x h&&ay y j)|_=>false)
 | .un d o x=>(m.dst==some d)&&(match m.op with| .unOp o' _ h=>decide (o=o')&&ay x h|_=>false)
 | .cvi d k x=>(m.dst==some d)&&(match m.op with| .convert a b h=>(P.underlying a).isSome&&(abo P b k&&ay x h)|_=>false)
 | .b2s d x=>(m.dst==some d)&&(match m.op with| .convert a b h=>(match P.underlying a,P.underlying b with|some (.slice e),some .string=>abo P e .u8|_,_=>false)&&ay x h|_=>false)
 | .lenl d x=>(m.dst==some d)&&(match sk m.op with|some (.len,[h],[t])=>(match P.underlying t with|some (.slice _)=>true|_=>false)&&ay x h|_=>false)
 | .ixa d k x i=>(m.dst==some d)&&(match m.op with| .indexAddr t h v=>gG P t k&&(ay x h&&ay i v)|_=>false)
 | .subs d x r u=>(m.dst==some d)&&(match m.op with| .slice t h q p none=>(match P.underlying t with|some .string=>true|_=>false)&&(ay x h&&(ga r q&&ga u p))|_=>false)
 | .subl d k x r u=>(m.dst==some d)&&(match m.op with| .slice t h q p none=>gG P t k&&(ay x h&&(ga r q&&ga u p))|_=>false)
 | .fad d A x=>(m.dst==some d)&&(match m.op with| .fieldAddr t h f=>(match P.underlying t with|some (.struct fs)=>(match fs[f]? with|some B=>(B.offset==A)&&zG P B.type|none=>false)|_=>false)&&ay x h|_=>false)
 | .ext d i x=>(m.dst==some d)&&(match m.op with| .extract h v=>i==v&&ay x h|_=>false)
 | .nck d x=>(m.dst==d)&&(match m.op with| .nilCheck h=>ay x h|_=>false)
 | .ld d n agg false x=>(m.dst==some d)&&(match m.op with| .load t h=>(dM P t==some n)&&((jD P t==some agg)&&((agg||n==1)&&ay x h))|_=>false)
 | .beq d z x y=>(m.dst==some d)&&(match m.op with| .binOp o' t h j _=>decide (o'=if z then .neq else .eql)&&((match P.underlying t with|some .bool=>true|_=>false)&&(ay x h&&ay y j))|_=>false)
 | .snil d x=>(m.dst==some d)&&(match m.op with| .binOp o' t h j _=>decide (o'=.eql)&&((match P.underlying t with|some (.slice _)=>true|_=>false)&&(ay x h&&(match j with| .const (.slice none 0 0)=>true|_=>false)))|_=>false)
 | .mx d C x y=>(m.dst==some d)&&(match sk m.op with|some (.min,[h,j],_)=>C&&(ay x h&&ay y j)|some (.max,[h,j],_)=> !C&&(ay x h&&ay y j)|_=>false)
 |_=>false
section
variable{w:World}{g:Gh}{s s':St}{a:Act}{P:Program}{Γ:am}{m:Oper}{next:Act->World->Prop}{Q:Exit->Act->World->Prop}
theorem dV(k:IntKind)(n:Int):k.min<=k.wrap n∧k.wrap n<=k.max:=by cases k<;>simp[Ao,Cm,B2,Br,Bb]<;>omega
theorem aao(k:IntKind):k.min<=0∧0<=k.max:=by cases k<;>decide
theorem ac6(x y:Int)(e:0<=x):x%y<=x:=by
 by_cases d:y=0;·subst d;simp
 ·rcases Int.lt_or_gt_of_ne d with h|h
  ·rw[<-Int.emod_neg];by_cases c:x< -y;·rw[Int.emod_eq_of_lt e c];omega
   ·have:=Dk x (b:=-y) (by omega);omega
  ·by_cases c:x<y;·rw[Int.emod_eq_of_lt e c];omega
   ·have:=Dk x h;omega
theorem afK(k:IntKind)(x y:Int)(h:k.min<=x∧x<=k.max):k.min<=x.tmod y∧x.tmod y<=k.max:=by
 have f:=aao k;rcases Int.le_total 0 x with c|c
 ·have d:=C8 y c;have e:x.tmod y<=x:=by
   rw[By c];exact ac6 _ _ c
  omega
 ·have b:0<=-x:=by omega
  have d:=C8 y b;have e:(-x).tmod y<=-x:=by rw[By b];exact ac6 _ _ b
  rw[Int.neg_tmod] at d e;omega
theorem agP(k:IntKind)(x:Int)(n:Nat)(h:k.min<=x∧x<=k.max):k.min<=x.fdiv (2^n)∧x.fdiv (2^n)<=k.max:=by
 have e:=aao k;have hp:(0:Int)<2^n:=Int.pow_pos (by omega);have hp':(1:Int)<=2^n:=hp;rw[Int.fdiv_eq_ediv_of_nonneg _ (by omega)];generalize (2:Int)^n=p at*
 rcases Int.le_total 0 x with b|b;·have c:=Int.ediv_nonneg b (Int.le_of_lt hp);have d:=Int.ediv_le_self p b;omega
 ·have d:x / p<=0:=by
   have:=Int.ediv_le_ediv hp b;simpa using this
  have c:x<=x / p:=by refine(Int.le_ediv_iff_mul_le hp).2 ?_;have:=Int.mul_le_mul_of_nonpos_left b hp';simpa using this
  omega
theorem aiE{d:Nat}{c x y:aj}(e:aM P (.pick d c x y) m=true)(i:step Γ (.pick d c x y) s=some (true,s'))(h:SR g s w a)(k:bI g s w a s' next):m.wp P a w next Q:=by
 obtain⟨dst,G,ty,pos,v,E⟩:=m;simp only[aM,Ab,beq_iff_eq] at e;obtain⟨rfl,e⟩:=e;split at e
 ·rename_i o u C;simp only[Ab] at e;obtain⟨⟨z,q,r⟩,F,D⟩:=e;have f:=aB z h.er;have A:=(aB q h.er).disown;have B:=(aB r h.er).disown;simp only[step] at i;split at i
  ·rename_i t p;obtain rfl:_=s':=by simpa using i
   rw[ahD] at k;rw[p] at f;cases j:a.eval o with
   |bool b=>
    rw[j] at f;cases f;refine az h rfl (cv:=if t then a.eval u else a.eval C) (by simp[execOp,j,asBool]) ?_ (by cases t<;>exact cA _) k;cases t;·exact B
    ·exact A
   |_=>rw[j] at f;cases f
  ·simp at i
 ·simp at e
theorem ai1{d:Nat}{k:IntKind}{x:aj}(b:aM P (.cvi d k x) m=true)(e:step Γ (.cvi d k x) s=some (true,s'))(h:SR g s w a)(z:bI g s w a s' next):m.wp P a w next Q:=by
 obtain⟨dst,C,ty,pos,r,B⟩:=m;simp only[aM,Ab,beq_iff_eq] at b;obtain⟨rfl,b⟩:=b;split at b
 ·rename_i D A q;simp only[Ab] at b;obtain⟨u,c,p⟩:=b;have f:=aB p h.er;simp only[step] at e;split at e
  ·rename_i k' n j;obtain rfl:_=s':=by simpa using e
   rw[j] at f;obtain⟨v,y⟩:=BK.1 u;unfold abo at c;split at c
   ·rename_i t o;obtain rfl:k=t:=by simpa using c
    generalize i:a.eval q=cv at f;cases f;refine az h rfl (cv:=.int k (k.wrap n)) ?_ (.int _ _ (dV _ _)) rfl z;simp only[execOp,i,convert];cases v<;>simp[run_underlying y,run_underlying o,Conv.intToInt]
   ·simp at c
  ·simp at e
 ·simp at b
theorem qM(c:List Int):∀b:ByteArray,(c.foldl (λ(r:ByteArray) n=>r.push (BG n.toNat)) b).data.toList=b.data.toList++c.map λn=>BG n.toNat:=by
 induction c with
 |nil=>intro b;simp
 |cons n c d=>intro b;rw[CG,d];simp[ByteArray.push]
theorem aap:ByteArray.empty.data.toList=[]:=rfl
theorem wJ(s:ByteArray):s.data.toList.length=s.size:=by rw[BD];rfl
theorem ai2{d:Nat}{x:aj}(p:aM P (.b2s d x) m=true)(z:step Γ (.b2s d x) s=some (true,s'))(h:SR g s w a)(H:bI g s w a s' next):m.wp P a w next Q:=by
 obtain⟨dst,op,ty,pos,W,gd⟩:=m;simp only[aM,Ab,beq_iff_eq] at p;obtain⟨rfl,p⟩:=p;split at p
 ·rename_i t1 t2 S;simp only[Ab] at p;obtain⟨t,R⟩:=p;have A:=aB R h.er;simp only[step] at z;split at z
  ·rename_i o l O;obtain rfl:_=s':=by simpa using z
   rw[O] at A;split at t
   ·rename_i e G E;unfold abo at t;split at t
    ·rename_i X F;obtain rfl:IntKind.u8=X:=by simpa using t
     generalize q:a.eval S=cv at A;cases A with
     |sln=>exact az h rfl (cv:=.string .empty) (by simp[execOp,q,run_convert_bytes_string w _ _ _ _ _ _ G F E,Conv.bytesToString]) (.str _ _ rfl (by simp[cR])) rfl H
     |sle=>exact az h rfl (cv:=.string .empty) (by simp[execOp,q,run_convert_bytes_string w _ _ _ _ _ _ G F E,Conv.bytesToString,loadCells,loadCellsFrom]) (.str _ _ rfl (by simp[cR])) rfl H
     |sl _ _ _ b D Z cap hl L hm N f hI M Y=>
      subst hl;have i:(loadCells ⟨b,D,none⟩ l.length).run P w=.ok ((l.map λc:UInt8=>(c.toNat:Int)).map (Value.int .u8)).toArray w:=by
       have u:l.length=((l.map λc:UInt8=>(c.toNat:Int)).map (Value.int .u8)).length:=by simp
       rw[u];refine run_loadCells_list w _ _ ?_;intro j v B;have C:j<l.length:=by simpa using (Ad.1 B).1
       have k:l[j]? =some l[j]:=Ac C;have I:=M j l[j] 0 k (by simp[enc]);have J:=Y j l[j] 0 (.int .u8 l[j].toNat) k (by simp[enc]);simp only[EK.sz,Di,Cu] at I;rw[Bw,I];simp only[B9,Au,k,A9,Ae,Dq] at B;subst B;generalize hf:f j 0=y at J;cases J;rfl
      refine az h rfl (cv:=.string ((l.map λc:UInt8=>(c.toNat:Int)).foldl (λ(r:ByteArray) n=>r.push (BG n.toNat)) ByteArray.empty)) ?_ (.str _ _ ?_ ?_) rfl H;·simp[execOp,q,run_convert_bytes_string w _ _ _ _ _ _ G F E,run_bytesToString w _ _ _ _ i]
      ·rw[qM,aap];simp[Du]
      ·rw[<-wJ,qM,aap];simp;omega
    ·simp at t
   ·simp at t
  ·simp at z
 ·simp at p
theorem aiF{d:Nat}{x:aj}(c:aM P (.lenl d x) m=true)(i:step Γ (.lenl d x) s=some (true,s'))(h:SR g s w a)(r:bI g s w a s' next):m.wp P a w next Q:=by
 obtain⟨dst,H,ty,pos,C,G⟩:=m;simp only[aM,Ab,beq_iff_eq] at c;obtain⟨rfl,c⟩:=c;split at c
 ·rename_i A t p;obtain rfl:=ke p;simp only[Ab] at c;obtain⟨v,z⟩:=c;have j:=aB z h.er;simp only[step] at i;split at i
  ·rename_i k o l y;obtain rfl:_=s':=by simpa using i
   rw[y] at j;split at v
   ·rename_i e q;generalize f:a.eval A=cv at j;cases j with
    |sle=>exact az h rfl (cv:=.int .i64 0) (by simp[execOp,resolve,f,invoke,builtin,C5,run_underlying q,goInt]) (.int _ _ (by decide)) rfl r
    |sln=>exact az h rfl (cv:=.int .i64 0) (by simp[execOp,resolve,f,invoke,builtin,C5,run_underlying q,goInt]) (.int _ _ (by decide)) rfl r
    |sl _ _ _ b B D cap E u F=>subst E;refine az h rfl (cv:=.int .i64 l.length) (by simp[execOp,resolve,f,invoke,builtin,C5,run_underlying q,goInt]) ?_ rfl r;exact .int _ _ (by simp[Cm,B2,Bb,Br,cR] at *;omega)
   ·simp at v
  ·simp at i
 ·simp at c
theorem ajE{d:Nat}{o:UnOp}{x:aj}(c:aM P (.un d o x) m=true)(p:step Γ (.un d o x) s=some (true,s'))(h:SR g s w a)(q:bI g s w a s' next):m.wp P a w next Q:=by
 obtain⟨dst,z,ty,pos,y,A⟩:=m;simp only[aM,Ab,beq_iff_eq] at c;obtain⟨rfl,c⟩:=c;split at c
 ·rename_i o' t u;simp only[Ab,decide_eq_true_eq] at c;obtain⟨rfl,r⟩:=c;have e:=aB r h.er;simp only[step,Ak] at p;obtain⟨v,i,p⟩:=p;obtain rfl:_=s':=by simpa using p
  generalize f:a.eval u=cv at e;unfold unV at i;split at i;·rename_i b j;cases Ar i;rw[j] at e;cases e;exact az h rfl (cv:=.bool (!b)) (by simp[execOp,f,Op.unary]) (.bool _) rfl q
  ·rename_i k n j;cases Ar i;rw[j] at e;cases e;exact az h rfl (cv:=.int k (k.wrap (0-n))) (by simp[execOp,f,Op.unary,Dh]) (.int _ _ (dV _ _)) rfl q
  ·rename_i k n j;cases Ar i;rw[j] at e;cases e;exact az h rfl (cv:=.int k (kc .xor k (if k.signed then -1 else k.max) n)) (by simp[execOp,f,Op.unary,C3,kc]) (.int _ _ (dV _ _)) rfl q
  ·simp at i
 ·simp at c
theorem afL{o:BinOp}{k:IntKind}{x y:Int}{v:V}(b:ac3 o k x y=some (true,v))(d:k.min<=x∧x<=k.max):
  ∃cv,(∀w:World,(if o=.add∨o=.sub∨o=.mul then Dh o k x y else if o=.quo∨o=.rem then Op.intDiv o k x y else if o=.and∨o=.or∨o=.xor∨o=.andNot then C3 o k x y else C2 o x y).run P w=.ok cv w)
   ∧(∀I ρ N w,VRel I ρ N w v cv)∧v.bare=true:=by
 unfold ac3 at b;split at b<;>(try simp only[Ae,Al,true_and,Bk,beq_eq_false_iff_ne] at b)<;>(try (obtain⟨c,b⟩:=b))<;>(try subst b)
 ·exact⟨.int k (k.wrap (x+y)),λw=>by simp[Dh],λ_ _ _ _=>.int _ _ (dV _ _),rfl⟩
 ·exact⟨.int k (k.wrap (x-y)),λw=>by simp[Dh],λ_ _ _ _=>.int _ _ (dV _ _),rfl⟩
 ·exact⟨.int k (k.wrap (x*y)),λw=>by simp[Dh],λ_ _ _ _=>.int _ _ (dV _ _),rfl⟩
 ·exact⟨.int k (k.wrap (x.tdiv y)),λw=>by simp[Op.intDiv,c],λ_ _ _ _=>.int _ _ (dV _ _),rfl⟩
 ·exact⟨.int k (x.tmod y),λw=>by simp[Op.intDiv,c],λ_ _ _ _=>.int _ _ (afK _ _ _ d),rfl⟩
 ·exact⟨.int k (kc .and k x y),λw=>by simp[C3,kc],λ_ _ _ _=>.int _ _ (dV _ _),rfl⟩
 ·exact⟨.int k (kc .or k x y),λw=>by simp[C3,kc],λ_ _ _ _=>.int _ _ (dV _ _),rfl⟩
 ·exact⟨.int k (kc .xor k x y),λw=>by simp[C3,kc],λ_ _ _ _=>.int _ _ (dV _ _),rfl⟩
 ·exact⟨.int k (kc .andNot k x y),λw=>by simp[C3,kc],λ_ _ _ _=>.int _ _ (dV _ _),rfl⟩
 ·exact⟨.bool (x==y),λw=>by simp[C2],λ_ _ _ _=>.bool _,rfl⟩
 ·exact⟨.bool (!(x==y)),λw=>by simp[C2,bne],λ_ _ _ _=>.bool _,rfl⟩
 ·exact⟨.bool (decide (x<y)),λw=>by simp[C2],λ_ _ _ _=>.bool _,rfl⟩
 ·exact⟨.bool (decide (x<=y)),λw=>by simp[C2],λ_ _ _ _=>.bool _,rfl⟩
 ·exact⟨.bool (decide (y<x)),λw=>by simp[C2],λ_ _ _ _=>.bool _,rfl⟩
 ·exact⟨.bool (decide (y<=x)),λw=>by simp[C2],λ_ _ _ _=>.bool _,rfl⟩
theorem kN(s:ByteArray):s.toList=s.data.toList:=ByteArray.toList_eq s
theorem afM(x y:List UInt8):(x==y)=decide (x=y):=by rw[Bool.eq_iff_iff];simp
theorem afN{o:BinOp}{x y:ByteArray}{v:V}(b:ac4 o x.data.toList y.data.toList=some (true,v)):
  ∃cv,(∀w:World,(Co o x y).run P w=.ok cv w)∧(∀I ρ N w,VRel I ρ N w v cv)∧v.bare=true:=by
 unfold ac4 at b;split at b<;>(try simp only[Ae,Al,true_and,decide_eq_true_eq,wJ] at b)
 ·obtain⟨c,rfl⟩:=b;refine⟨.string (x++y),λw=>?_,λ_ _ _ _=>.str _ _ (by simp) (by simpa [ByteArray.size_append] using c),rfl⟩;have:¬(9223372036854775807<(x.size:Int)+(y.size:Int)):=by unfold cR at c;omega
  simp[Co,B2,Bb,Br,this]
 ·subst b;exact⟨.bool (decide (x.data.toList=y.data.toList)),λw=>by simp only[Co,kN,afM];rfl,λ_ _ _ _=>.bool _,rfl⟩
 ·subst b;exact⟨.bool (!decide (x.data.toList=y.data.toList)),λw=>by simp only[Co,kN,afM];rfl,λ_ _ _ _=>.bool _,rfl⟩
 ·subst b;exact⟨.bool (CO x.data.toList y.data.toList),λw=>by simp[Co,kN],λ_ _ _ _=>.bool _,rfl⟩
 ·subst b;exact⟨.bool (CO x.data.toList y.data.toList||decide (x.data.toList=y.data.toList)),λw=>by simp only[Co,kN,afM];rfl,λ_ _ _ _=>.bool _,rfl⟩
 ·subst b;exact⟨.bool (!(CO x.data.toList y.data.toList||decide (x.data.toList=y.data.toList))),λw=>by simp only[Co,kN,afM];rfl,λ_ _ _ _=>.bool _,rfl⟩
 ·subst b;exact⟨.bool (!Op.bytesLess x.data.toList y.data.toList),λw=>by simp[Co,kN],λ_ _ _ _=>.bool _,rfl⟩
 ·simp at b
end
section
variable{w:World}{g:Gh}{s s':St}{a:Act}{P:Program}{Γ:am}{m:Oper}{next:Act->World->Prop}{Q:Exit->Act->World->Prop}
theorem ab7{k k':IntKind}{x y:Int}(d:0<=y)(c:k.min<=x∧x<=k.max):
  (∀w:World,(Op.shift .shl k x k' y).run P w=.ok (.int k (abk k x y)) w)∧(∀w:World,(Op.shift .shr k x k' y).run P w=.ok (.int k (abl k x y)) w)
   ∧(∀I ρ N w,VRel I ρ N w (.int k (abk k x y)) (.int k (abk k x y)))∧(∀I ρ N w,VRel I ρ N w (.int k (abl k x y)) (.int k (abl k x y))):=by
 have b:¬y<0:=by omega
 exact⟨λw=>by simp[Op.shift,b,abk],λw=>by simp[Op.shift,b,abl],λ_ _ _ _=>.int _ _ (dV _ _),λ_ _ _ _=>.int _ _ (agP _ _ _ c)⟩
theorem ai3{d:Nat}{o:BinOp}{x y:aj}(e:aM P (.bin d o x y) m=true)(u:step Γ (.bin d o x y) s=some (true,s'))(h:SR g s w a)(B:bI g s w a s' next):m.wp P a w next Q:=by
 obtain⟨dst,op,ty,pos,S,gd⟩:=m;simp only[aM,Ab,beq_iff_eq] at e;obtain⟨rfl,e⟩:=e;split at e
 ·rename_i o' t R y' t';simp only[Ab,decide_eq_true_eq] at e;obtain⟨rfl,h1,O⟩:=e;have j:=aB h1 h.er;have A:=aB O h.er;simp only[step,Ak] at u;obtain⟨⟨c,v⟩,b,u⟩:=u;simp only[Al] at u;obtain⟨rfl,rfl⟩:=u;generalize r:a.eval R=cx at j;generalize z:a.eval y'=cy at A;unfold ahC at b;split at b
  ·rename_i k p k' q H E;rw[H] at j;rw[E] at A;cases j with
   |int _ _ hp=>
   cases A with
   |int _ _ hq=>
   split at b;·simp only[Ae,Al,decide_eq_true_eq] at b;obtain⟨f,rfl⟩:=b;obtain⟨M,L,I,J⟩:=ab7 (P:=P) (k':=k') f hp;refine az h rfl (cv:=.int k (abk k p q)) ?_ (I _ _ _ _) rfl B;simp[execOp,r,z,eqGuard,binOp,M]
   ·simp only[Ae,Al,decide_eq_true_eq] at b;obtain⟨f,rfl⟩:=b;obtain⟨M,L,I,J⟩:=ab7 (P:=P) (k':=k') f hp;refine az h rfl (cv:=.int k (abl k p q)) ?_ (J _ _ _ _) rfl B;simp[execOp,r,z,eqGuard,binOp,L]
   ·rename_i N W;split at b;·rename_i X;subst X;obtain⟨cv,i,C,F⟩:=afL (P:=P) b hp;have i:=i w;refine az h rfl (cv:=cv) ?_ (C _ _ _ _) F B;cases o<;>simp_all [execOp,eqGuard,binOp]
    ·simp at b
  ·rename_i p q H E;rw[H] at j;rw[E] at A;cases j with
   |str _ sx G Z=>
   cases A with
   |str _ sy D Y=>
   subst G D;obtain⟨cv,i,C,F⟩:=afN (P:=P) b;have i:=i w;refine az h rfl (cv:=cv) ?_ (C _ _ _ _) F B;cases o<;>simp_all [execOp,eqGuard,binOp]
  ·simp at b
 ·simp at e
theorem eB{e:TypeId}{k:EK}(h:pV P e k=true):∃i z,P.info? e=some i∧i.size=k.sz∧i.bytes=k.bytes∧i.zero=some z∧jD P e=some k.isAgg∧
  fH (enc k (ao k)) z.cells.toList=true∧z.cells.size=k.sz:=by
 unfold pV at h;rw[Ab] at h;obtain⟨-,h⟩:=h;split at h
 ·rename_i i d;simp only[Ab,beq_iff_eq] at h;obtain⟨c,j,o,b⟩:=h;split at b;·rename_i z f;simp only[Ab,beq_iff_eq] at b;exact⟨i,z,d,c,j,f,o,b.1,b.2⟩
  ·simp at b
 ·simp at h
theorem pN{e:TypeId}{k:EK}(h:pV P e k=true)(b:k=.u8):e=jz P:=by subst b;unfold pV at h;rw[Ab] at h;simpa using h.1
theorem cm{t:TypeId}{k:EK}(h:gG P t k=true):∃e,P.underlying t=some (.slice e)∧pV P e k=true:=by
 unfold gG at h;split at h;·rename_i e b;exact⟨e,b,h⟩
 ·simp at h
theorem j9{t:TypeId}{n:Nat}(h:dM P t=some n)(w:World):(sizeOf t).run P w=.ok n w:=by unfold dM at h;obtain⟨i,b,rfl⟩:=Ak.1 h;simp[sizeOf,typeInfo,b]
theorem ub{t:TypeId}{b:Bool}(h:jD P t=some b)(w:World):(isAgg t).run P w=.ok b w:=by
 unfold jD at h;split at h;·rename_i f e;obtain rfl:=Ar h;simp[isAgg,run_underlying e]
 ·rename_i f c e;obtain rfl:=Ar h;simp[isAgg,run_underlying e]
 ·rename_i d j i e;obtain rfl:=Ar h;cases d<;>simp_all [isAgg,run_underlying e]
 ·simp at h
theorem ai4{d:Nat}{k:EK}{x i:aj}(q:aM P (.ixa d k x i) m=true)(r:step Γ (.ixa d k x i) s=some (true,s'))(h:SR g s w a)(hn:bI g s w a s' next):m.wp P a w next Q:=by
 obtain⟨dst,op,ty,pos,W,gd⟩:=m;simp only[aM,Ab,beq_iff_eq] at q;obtain⟨rfl,q⟩:=q;split at q
 ·rename_i t S Z;simp only[Ab] at q;obtain⟨F,O,R⟩:=q;have y:=aB O h.er;have G:=aB R h.er;simp only[step] at r;split at r
  ·rename_i k' o l ki n N M;split at r
   ·rename_i hk;subst hk;simp only[Ae,Al,Ab,decide_eq_true_eq] at r;obtain⟨⟨X,C⟩,rfl⟩:=r;rw[N] at y;rw[M] at G;obtain⟨e,u1,F⟩:=cm F;obtain⟨inf,z,i1,J,i3,i4,i5,_⟩:=eB F;generalize D:a.eval S=cv at y;generalize E:a.eval Z=ci at G;cases G;cases y with
    |sln=>simp at C;omega
    |sle=>simp at C;omega
    |sl _ _ _ b B a0 cap hl H hm L f hI I Y=>
     subst hl;have A:n.toNat<l.length:=by omega
     have p:l[n.toNat]? =some l[n.toNat]:=Ac A;have hd:l.getD n.toNat (ao k')=l[n.toNat]:=by simp[Aq,p]
     have v:∀w':World,(sizeOf e).run P w'=.ok k'.sz w':=λw'=>by simp[sizeOf,typeInfo,i1,J]
     refine az h rfl (cv:=.pointer (some ⟨b,B+n.toNat*k'.sz,none⟩)) ?_ ?_ rfl hn;·simp[execOp,D,E,Instr.indexAt,asIntOf,run_underlying u1,X,C,v,Bw]
     ·rw[hd];exact .ea _ _ _ (f n.toNat) (nw _ _) (λj u=>hI _ _ _ p u) (λj u=>I _ _ _ p u) (λj c u=>Y _ _ _ _ p u)
   ·simp at r
  ·simp at r
 ·simp at q
theorem mT{v:Value}{k:IntKind}{n:Int}{y:Nat}{b:BoundsCode}(d:0<=n)(c:n<=y)(w:World):(Instr.sliceBound (.int k n) y b).run P w=.ok n.toNat w:=by simp[Instr.sliceBound,asIntOf,d,c]
theorem rt{e cap:Nat}{isS:Bool}{D z:Option aj}{d c:Option Operand}{p q:Nat}(L:e<=cap)(t:ga D d=true)(i:ga z c=true)
  (b:qu e (c5 s D) (c5 s z)=some (true,p,q)) (h:SR g s w a):
  (Cq isS e cap (d.map a.eval) (c.map a.eval) none).run P w=.ok (p,q,cap) w∧p<=q∧q<=e:=by
 have f:∀(x:aj)(y:Operand)(k:IntKind)(n:Int),ay x y=true->x.ev s=.int k n->a.eval y=.int k n:=by intro x y k n A j;have r:=aB A h.er;rw[j] at r;generalize H:a.eval y=cv at r;cases r;rfl
 cases D with
 |none=>
  cases d with
  |some _=>simp[ga] at t
  |none=>
  cases z with
  |none=>
   cases c with
   |some _=>simp[ga] at i
   |none=>
   simp only[c5,qu,Ae,Al,true_and] at b;obtain⟨rfl,rfl⟩:=b;refine⟨by simp[Cq],by omega,by omega⟩
  |some y=>
   cases c with
   |none=>simp[ga] at i
   |some J=>
   simp only[ga] at i;simp only[c5] at b;cases o:y.ev s<;>rw[o] at b<;>simp[qu] at b;rename_i k n;obtain⟨⟨u,B⟩,rfl,rfl⟩:=b;have:=f _ _ _ _ i o;refine⟨?_,by omega,by omega⟩;simp[Cq,this,mT (P:=P) (v:=.int k n) u (show n<=(cap:Int) by omega)]
 |some x=>
  cases d with
  |none=>simp[ga] at t
  |some N=>
  simp only[ga] at t;cases z with
  |none=>
   cases c with
   |some _=>simp[ga] at i
   |none=>
   simp only[c5] at b;cases j:x.ev s<;>rw[j] at b<;>simp[qu] at b;rename_i k n;obtain⟨⟨u,B⟩,rfl,rfl⟩:=b;have:=f _ _ _ _ t j;refine⟨?_,by omega,by omega⟩;simp[Cq,this,mT (P:=P) (v:=.int k n) u B]
  |some y=>
   cases c with
   |none=>simp[ga] at i
   |some J=>
   simp only[ga] at i;simp only[c5] at b;cases j:x.ev s<;>rw[j] at b<;>cases o:y.ev s<;>rw[o] at b<;>simp[qu] at b;rename_i k n I C;obtain⟨⟨⟨u,B⟩,E,M⟩,rfl,rfl⟩:=b;have F:=f _ _ _ _ t j;have G:=f _ _ _ _ i o;refine⟨?_,by omega,by omega⟩;simp[Cq,F,G,mT (P:=P) (v:=.int I C) u (show C<=(cap:Int) by omega),mT (P:=P) (v:=.int k n) E (show n<=(C.toNat:Int) by omega)]
theorem aiG{d:Nat}{x:aj}{o k:Option aj}(f:aM P (.subs d x o k) m=true)(e:step Γ (.subs d x o k) s=some (true,s'))(h:SR g s w a)(I:bI g s w a s' next):m.wp P a w next Q:=by
 obtain⟨dst,O,ty,pos,D,N⟩:=m;simp only[aM,Ab,beq_iff_eq] at f;obtain⟨rfl,f⟩:=f;split at f
 ·rename_i t C y v;simp only[Ab] at f;obtain⟨u,A,B,F⟩:=f;have i:=aB A h.er;simp only[step] at e;split at e
  ·rename_i l z;simp only[Ak] at e;obtain⟨⟨c,p,q⟩,r,e⟩:=e;simp only[Al] at e;obtain⟨rfl,rfl⟩:=e;rw[z] at i;split at u
   ·rename_i E;generalize j:a.eval C=cv at i;cases i with
    |str _ b H L=>
     subst H;rw[wJ] at r;obtain⟨G,M,J⟩:=rt (P:=P) (isS:=false) (Aj _) B F r h;refine az h rfl (cv:=.string (b.extract p q)) ?_ (.str _ _ ?_ ?_) rfl I;·simp[execOp,j,Ce,CD,run_underlying E,G]
     ·simp[List.extract_eq_take_drop,List.drop_take]
     ·simp[ByteArray.size_extract];omega
   ·simp at u
  ·simp at e
 ·simp at f
theorem aiH{d:Nat}{k:EK}{x:aj}{lo E:Option aj}(G:aM P (.subl d k x lo E) m=true)(B:step Γ (.subl d k x lo E) s=some (true,s'))(h:SR g s w a)(S:bI g s w a s' next):m.wp P a w next Q:=by
 obtain⟨dst,op,ty,pos,bx,gd⟩:=m;simp only[aM,Ab,beq_iff_eq] at G;obtain⟨rfl,G⟩:=G;split at G
 ·rename_i t x' a5 a9;simp only[Ab] at G;obtain⟨h1,h2,X,Z⟩:=G;have W:=aB h2 h.er;simp only[step] at B;split at B
  ·rename_i k' o l hx;split at B
   ·rename_i hk;subst hk;simp only[Ak] at B;obtain⟨⟨c,p,q⟩,Y,B⟩:=B;simp only[Al] at B;obtain⟨rfl,rfl⟩:=B;rw[hx] at W;obtain⟨e,R,h1⟩:=cm h1;obtain⟨inf,z,i1,i2,i3,i4,i5,_⟩:=eB h1;have C:∀w':World,(sizeOf e).run P w'=.ok k'.sz w':=λw'=>by simp[sizeOf,typeInfo,i1,i2]
    generalize D:a.eval x'=cv at W;cases W with
    |sln=>
     obtain⟨F,e2,O⟩:=rt (P:=P) (isS:=true) (Aj _) X Z Y h;simp only[AQ] at F O;obtain rfl:q=0:=by omega
     obtain rfl:p=0:=by omega
     refine az h rfl (cv:=.slice none 0 0) ?_ ?_ rfl S;·simp[execOp,D,Ce,CD,run_underlying R,F,C]
     ·simpa using VRel.sln (I:=g.I) (ρ:=g.ρ) (N:=s.hp.length) (w:=w) k' (.may false)
    |sle _ _ ad _=>
     obtain⟨F,e2,O⟩:=rt (P:=P) (isS:=true) (Aj _) X Z Y h;simp only[AQ] at F O;obtain rfl:q=0:=by omega
     obtain rfl:p=0:=by omega
     refine az h rfl (cv:=.slice (some ad) 0 0) ?_ ?_ rfl S;·simp[execOp,D,Ce,CD,run_underlying R,F,C]
     ·simpa using VRel.sle (I:=g.I) (ρ:=g.ρ) (N:=s.hp.length) (w:=w) k' (.may false) ad (by simp)
    |sl _ _ _ b r b0 cap hl L hm bl f hI hw ar=>
     subst hl;obtain⟨F,e2,O⟩:=rt (P:=P) (isS:=true) L X Z Y h;by_cases J:cap=p
     ·subst J;have hq:q=cap:=by omega
      subst hq;have M:(l.take q).drop q=[]:=by simp
      refine az h rfl (cv:=.slice (some ⟨b,r,none⟩) 0 0) ?_ ?_ rfl S;·simp[execOp,D,Ce,CD,run_underlying R,F,C]
      ·rw[M];exact .sl k' (.may false) [] b r 0 0 rfl (by simp) (by simp[cR]) (by simp) f (λi x j E=>by simp at E) (λi x j E=>by simp at E) (λi x j v E=>by simp at E)
     ·refine az h rfl (cv:=.slice (some ⟨b,r+p*k'.sz,none⟩) (q-p) (cap-p)) ?_ ?_ rfl S;·simp[execOp,D,Ce,CD,run_underlying R,F,C,J,Bw]
      ·have u:∀(i:Nat) y,((l.take q).drop p)[i]? =some y->l[p+i]? =some y:=by
        intro i y A;simp only[A0,AJ] at A;split at A;·exact A
        ·simp at A
       refine .sl k' (.may false) _ b _ _ _ ?_ ?_ (by omega) (by simp) (λi j=>f (p+i) j) ?_ ?_ ?_;·simp;omega
       ·simp;omega
       ·intro i y j A H;have:=hI _ _ _ (u i y A) H
        rwa [show r+p*k'.sz+i*k'.sz+j=r+(p+i)*k'.sz+j by rw[AH];omega]
       ·intro i y j A H;have:=hw _ _ _ (u i y A) H
        rwa [show r+p*k'.sz+i*k'.sz+j=r+(p+i)*k'.sz+j by rw[AH];omega]
       ·intro i y j v A H;exact ar _ _ _ _ (u i y A) H
   ·simp at B
  ·simp at B
 ·simp at G
theorem ai5{d e:Nat}{x:aj}(q:aM P (.fad d e x) m=true)(y:step Γ (.fad d e x) s=some (true,s'))(h:SR g s w a)(F:bI g s w a s' next):m.wp P a w next Q:=by
 obtain⟨dst,X,ty,pos,L,W⟩:=m;simp only[aM,Ab,beq_iff_eq] at q;obtain⟨rfl,q⟩:=q;split at q
 ·rename_i t E I;simp only[Ab] at q;obtain⟨k,J⟩:=q;have u:=aB J h.er;split at k
  ·rename_i fs O;split at k
   ·rename_i M z;simp only[Ab,beq_iff_eq] at k;obtain⟨H,k⟩:=k;have p:∀w':World,∃n,n≠0∧(sizeOf M.type).run P w'=.ok n w':=by
     intro w';unfold zG dM at k;split at k;·rename_i n A;exact⟨n,by simpa using k,j9 (by simpa [dM] using A) w'⟩
     ·simp at k
    obtain⟨n,C,p⟩:=p w;have i:∀b o,(Instr.fieldAt t (.pointer (some ⟨b,o,none⟩)) I).run P w=.ok (.pointer (some ⟨b,o+e,none⟩)) w:=by intro b o;simp[Instr.fieldAt,run_underlying O,z,BH,fieldPlace,p,C,H,Bw]
    simp only[step] at y;split at y
    ·rename_i cs B;obtain rfl:_=s':=by simpa using y
     rw[B] at u;generalize r:a.eval E=cv at u;cases u with
     |ea _ b o f S R G N=>
      refine az h rfl (cv:=.pointer (some ⟨b,o+e,none⟩)) (by simp[execOp,r,i]) ?_ rfl F;refine .ea _ _ _ (λj=>f (e+j)) (λc D=>S c (Bu D)) ?_ ?_ ?_
      ·intro j v;simp only[BA] at v;have:=R (e+j) (by omega)
       rwa [CU]
      ·intro j v;simp only[BA] at v;have:=G (e+j) (by omega)
       rwa [CU]
      ·intro j c v;rw[A0] at v;exact N _ _ v
    ·rename_i id o B;obtain rfl:_=s':=by simpa using y
     rw[B] at u;generalize r:a.eval E=cv at u;cases u with
     |ptr _ _ hid=>exact az h rfl (cv:=.pointer (some ⟨g.ρ id,o+e,none⟩)) (by simp[execOp,r,i]) (.ptr _ _ hid) rfl F
    ·simp at y
   ·simp at k
  ·simp at k
 ·simp at q
theorem n7{I:Nat->Nat->Prop}{ρ:Nat->Nat}{N:Nat}{agg:Bool}{cs:List V}{vs:List Value}(o:∀c∈cs,c.one=true)(k:cs.length=vs.length)(h:agg=true∨cs.length=1)
  (j:∀(i:Nat) c cv,cs[i]? =some c->vs[i]? =some cv->VRel I ρ N w c cv):VRel I ρ N w (cG agg cs) (if agg then .agg vs.toArray else vs.headD undef):=by
 cases agg with
 |true=>
  simp only[cG,if_true];refine .agg _ _ (by simpa using k) ?_ ?_ ?_;·intro c b;obtain⟨e,d,rfl⟩:=AA.1 b;rw[iW];exact o e d
  ·intro i c cv b _;rw[Au,Ak] at b;obtain⟨e,_,rfl⟩:=b;exact tX e cv
  ·intro i c cv b f;rw[Au,Ak] at b;obtain⟨e,d,rfl⟩:=b;exact(j i _ _ d (by simpa using f)).disown
 |false=>
  have h:cs.length=1:=by simpa using h
  match cs,vs,k,h with
  | [c],[v],_,_=>exact j 0 c v rfl rfl
theorem ai6{d i:Nat}{x:aj}(b:aM P (.ext d i x) m=true)(c:step Γ (.ext d i x) s=some (true,s'))(h:SR g s w a)(y:bI g s w a s' next):m.wp P a w next Q:=by
 obtain⟨dst,B,ty,pos,u,z⟩:=m;simp only[aM,Ab,beq_iff_eq] at b;obtain⟨rfl,b⟩:=b;split at b
 ·rename_i t A;simp only[Ab,beq_iff_eq] at b;obtain⟨rfl,j⟩:=b;have k:=aB j h.er;simp only[step] at c;split at c
  ·rename_i vs r;split at c
   ·rename_i o;obtain rfl:_=s':=by simpa using c
    rw[r] at k;generalize p:a.eval t=cv at k;cases k with
    |tup _ cvs C v=>
     have q:vs[i]? =some vs[i]:=Ac o;have f:i<cvs.size:=by omega
     have j:cvs[i]? =some cvs[i]:=Am f;have e:vs[i]?.getD V.undef=vs[i]:=by simp[q]
     refine az h rfl (cv:=cvs[i]) (by simp[execOp,p,Instr.extract,j]) ?_ (cA _) y;rw[e];exact(v _ _ _ q j).disown
   ·simp at c
  ·simp at c
 ·simp at b
theorem ai7{d:Option Nat}{x:aj}(f:aM P (.nck d x) m=true)(j:step Γ (.nck d x) s=some (true,s'))(h:SR g s w a)(t:bI g s w a s' next):m.wp P a w next Q:=by
 obtain⟨dst,C,ty,pos,r,z⟩:=m;simp only[aM,Ab,beq_iff_eq] at f;obtain⟨rfl,f⟩:=f;split at f
 ·rename_i q;have b:=aB f h.er;have key:∀v cv,VRel g.I g.ρ s.hp.length w v cv->v.bare=true->(execOp a.eval ⟨dst,.nilCheck q,ty,pos,r,z⟩).run P w=.ok (.value cv) w->bI g s w a (s.setO dst v) next->(⟨dst,.nilCheck q,ty,pos,r,z⟩:Oper).wp P a w next Q:=by
   intro v cv B A y u;cases dst with
   |some d=>exact az h rfl y B A u
   |none=>unfold Cw CZ;rw[y];exact u _ _ g h (FR.refl _ _ _) rfl
  simp only[step] at j;split at j
  ·rename_i id o p;obtain rfl:_=s':=by simpa using j
   rw[p] at b;generalize e:a.eval q=cv at b;have c:=b;cases b;exact key _ _ c rfl (by simp[execOp,e]) t
  ·rename_i cs p;obtain rfl:_=s':=by simpa using j
   rw[p] at b;generalize e:a.eval q=cv at b;have c:=b;cases b;exact key _ _ c rfl (by simp[execOp,e]) t
  ·rename_i id k i o p;obtain rfl:_=s':=by simpa using j
   rw[p] at b;generalize e:a.eval q=cv at b;have c:=b;cases b;exact key _ _ c rfl (by simp[execOp,e]) t
  ·simp at j
 ·simp at f
theorem lz{t:TypeId}{n:Nat}{agg:Bool}{b o:Nat}{vs:List Value}(d:dM P t=some n)(c:jD P t=some agg)(e:agg=true∨n=1)(h:vs.length=n)
  (f:∀(j:Nat) v,vs[j]? =some v->w.cell? ⟨b,o+j,none⟩=some v):
  (C7 t (.pointer (some ⟨b,o,none⟩))).run P w=.ok (if agg then .agg vs.toArray else vs.headD undef) w:=by
 cases agg with
 |true=>have:=run_loadCells_list (P:=P) w ⟨b,o,none⟩ vs (λj v i=>by rw[Bw];exact f j v i);rw[h] at this;simp[C7,BH,loadVar,ub c,j9 d,this]
 |false=>
  have e:n=1:=by simpa using e
  subst e;match vs,h with
  | [v],_=>have:=f 0 v rfl;simp only[Cu] at this;simp[C7,BH,loadVar,ub c,this]
theorem zH{id:Nat}{cs:List V}(b:s.obj id=some cs):s.hp[id]? =some (some cs)∧b7 cs=false∧kd cs=false:=by
 unfold St.obj at b;simp only[Aq] at b;cases i:s.hp[id]? with
 |none=>rw[i] at b;simp at b
 |some x=>
  rw[i] at b;simp only[A5] at b;split at b;·cases b
  ·cases b
  ·cases b
  ·cases b
  ·rename_i h d f e;subst b;refine⟨rfl,?_,?_⟩
   rotate_left
   ·cases j:kd cs with
    |false=>rfl
    |true=>obtain⟨k,es,rfl⟩:=tZ j;exact(f _ _ rfl).elim
   cases c:b7 cs with
   |false=>rfl
   |true=>
    unfold b7 at c;split at c;·exact(h _ rfl).elim
    ·exact(d _ _ rfl).elim
    ·exact(e _ rfl).elim
    ·cases c
theorem fI{id:Nat}{cs:List V}(b:s.obj id=some cs):s.hp[id]? =some (some cs)∧b7 cs=false:=⟨(zH b).1,(zH b).2.1⟩
theorem nx{id:Nat}{cs:List V}(h:HR g s.hp w)(d:s.obj id=some cs):∃b e,w.heap[g.ρ id]? =some (.cells b e (0,0))∧wI g s.hp.length w id cs b e:=by obtain⟨c,i,j⟩:=zH d;obtain⟨b,e,p,k,o⟩:=(h.obj id cs c).row j;obtain⟨rfl,f⟩:=o.low i;exact⟨b,e,k,f⟩
theorem aA{b:Nat}{c:Array Value}{e:TypeId}{d:Nat×Nat}(h:w.heap[b]? =some (.cells c e d))(j:Nat):w.cell? ⟨b,j,none⟩=c[j]?:=by simp[Bn,h]
theorem afO{d n:Nat}{agg:Bool}{x:aj}(p:aM P (.ld d n agg false x) m=true)(r:step Γ (.ld d n agg false x) s=some (true,s'))(h:SR g s w a)(R:bI g s w a s' next):m.wp P a w next Q:=by
 obtain⟨dst,op,ty,pos,X,gd⟩:=m;simp only[aM,Ab,beq_iff_eq] at p;obtain⟨rfl,p⟩:=p;split at p
 ·rename_i t L;simp only[Ab,beq_iff_eq,Be] at p;obtain⟨M,J,u,h4⟩:=p;have C:=aB h4 h.er;simp only[step] at r;split at r
  ·rename_i cs G;split at r
   ·rename_i H;obtain rfl:_=s':=by simpa using r
    rw[G] at C;generalize k:a.eval L=cv at C;cases C with
    |ea _ b o f e1 hI S Z=>
     have q:=n7 (agg:=agg) (cs:=cs.take n) (vs:=(A2 n).map f) (w:=w) (I:=g.I) (ρ:=g.ρ) (N:=s.hp.length)
      (λc B=>e1 c (A7 B)) (by simp;omega) (by
       rcases u with u|u;·exact .inl u
       ·right;simp;omega)
      (λi c cv p k=>by
       simp only[AJ] at p;split at p;·rename_i F;simp[F] at k;subst k;exact Z _ _ p
       ·simp at p)
     refine az h rfl (cv:=if agg then .agg ((A2 n).map f).toArray else ((A2 n).map f).headD undef) ?_ q.disown (cA _) R;have:=lz (P:=P) (w:=w) (b:=b) (o:=o) (vs:=(A2 n).map f) M J u (by simp) (λj v A=>by rw[Au,Ak] at A;obtain⟨j',E,rfl⟩:=A;obtain⟨D,rfl⟩:=Ad.1 E;simp only[Dt] at D;simpa using S j (by omega));simp[execOp,k,this]
   ·simp at r
  ·rename_i id o G;split at r
   ·rename_i cs W;split at r
    ·rename_i H;obtain rfl:_=s':=by simpa using r
     rw[G] at C;generalize k:a.eval L=cv at C;cases C with
     |ptr _ _ hid=>
      obtain⟨y,e,Y,z⟩:=nx h.hr W;have O:=z.len
      have q:=n7 (agg:=agg) (cs:=(cs.drop o).take n) (vs:=(y.toList.drop o).take n) (w:=w) (I:=g.I) (ρ:=g.ρ) (N:=s.hp.length)
       (λc B=>z.one c (Bu (A7 B))) (by simp;omega) (by
        rcases u with u|u;·exact .inl u
        ·right;simp;omega)
       (λi c cv p k=>by
        simp only[AJ,A0] at p k;split at p;·rename_i F;simp only[F,if_true] at k;exact z.rel _ _ _ p (by simpa using k)
        ·simp at p)
      refine az h rfl (cv:=if agg then .agg ((y.toList.drop o).take n).toArray else ((y.toList.drop o).take n).headD undef) ?_ q.disown (cA _) R;have:=lz (P:=P) (w:=w) (b:=g.ρ id) (o:=o) (vs:=(y.toList.drop o).take n) M J u (by simp;omega) (λj v A=>by
       rw[aA Y];simp only[AJ,A0] at A;split at A;·simpa using A
       ·simp at A)
      simp[execOp,k,this]
    ·simp at r
   ·simp at r
  ·simp at r
 ·simp at p
theorem ajF{d:Nat}{z:Bool}{x y:aj}(c:aM P (.mx d z x y) m=true)(j:step Γ (.mx d z x y) s=some (true,s'))(h:SR g s w a)(G:bI g s w a s' next):m.wp P a w next Q:=by
 obtain⟨dst,F,ty,pos,C,J⟩:=m;simp only[aM,Ab,beq_iff_eq] at c;obtain⟨rfl,c⟩:=c;simp only[step] at j;have fin:∀e f v (b:Builtin),F=.call ⟨.builtin b,⟨[e,f]⟩,v⟩->(b=if z then Builtin.min else Builtin.max)->ay x e=true->ay y f=true->(⟨some d,F,ty,pos,C,J⟩:Oper).wp P a w next Q:=by
  rintro e f v b rfl E u r;have A:=aB u h.er;have D:=aB r h.er;split at j
  ·rename_i k p k' q I H;split at j
   ·rename_i L;subst L;obtain rfl:_=s':=by simpa using j
    rw[I] at A;rw[H] at D;generalize o:a.eval e=N at A;generalize t:a.eval f=M at D;cases A with
    |int _ _ hp=>
    cases D with
    |int _ _ O=>
    cases z with
    |true=>subst E;refine az h rfl (cv:=.int k (if q<p then q else p)) ?_ (.int _ _ (by split<;>assumption)) rfl G;simp[execOp,resolve,o,t,invoke,builtin,Builtin.min_,Builtin.min2]
    |false=>subst E;refine az h rfl (cv:=.int k (if p<q then q else p)) ?_ (.int _ _ (by split<;>assumption)) rfl G;simp[execOp,resolve,o,t,invoke,builtin,Builtin.max_,Builtin.max2]
   ·simp at j
  ·simp at j
 split at c;·rename_i e f v i;simp only[Ab] at c;obtain⟨B,u,r⟩:=c;exact fin e f _ .min (ke i) (by simp[B]) u r
 ·rename_i e f v i;simp only[Ab,Bk] at c;obtain⟨B,u,r⟩:=c;exact fin e f _ .max (ke i) (by simp[B]) u r
 ·simp at c
theorem abp{t:TypeId}(b:P.underlying t=some .bool)(p q:Bool)(w:World):(Op.equal t (.bool p) (.bool q)).run P w=.ok (p==q) w:=by show (CP (9999+1) t _ _).run P w=_;rw[CP];simp[run_underlying b]
theorem ai8{d:Nat}{b:Bool}{x y:aj}(c:aM P (.beq d b x y) m=true)(e:step Γ (.beq d b x y) s=some (true,s'))(h:SR g s w a)(E:bI g s w a s' next):m.wp P a w next Q:=by
 obtain⟨dst,J,ty,pos,B,G⟩:=m;simp only[aM,Ab,beq_iff_eq] at c;obtain⟨rfl,c⟩:=c;split at c
 ·rename_i o' t A D H;simp only[Ab,decide_eq_true_eq] at c;obtain⟨rfl,o,C,z⟩:=c;have r:P.underlying t=some .bool:=by
   split at o;·assumption
   ·simp at o
  have f:=aB C h.er;have k:=aB z h.er;simp only[step] at e;generalize i:a.eval A=I at f;generalize j:a.eval D=F at k;split at e
  ·rename_i p q v u;obtain rfl:_=s':=by simpa using e
   rw[v] at f;rw[u] at k;cases f with
   |bool=>
   cases k with
   |bool=>
   refine az h rfl (cv:=.bool (cond b (!(p==q)) (p==q))) ?_ (.bool _) rfl E;cases b<;>simp[execOp,i,j,eqGuard,binOp,abp r]
  ·simp at e
 ·simp at c
theorem ac7{t e:TypeId}(b:P.underlying t=some (.slice e))(a:Addr)(l c:Nat)(w:World):(Op.equal t (.slice (some a) l c) (.slice none 0 0)).run P w=.ok false w:=by show (CP (9999+1) t _ _).run P w=_;rw[CP];simp[run_underlying b]
theorem aiI{d:Nat}{x:aj}(i:aM P (.snil d x) m=true)(j:step Γ (.snil d x) s=some (true,s'))(h:SR g s w a)(G:bI g s w a s' next):m.wp P a w next Q:=by
 obtain⟨dst,R,ty,pos,C,L⟩:=m;simp only[aM,Ab,beq_iff_eq] at i;obtain⟨rfl,i⟩:=i;split at i
 ·rename_i o' t A W N;simp only[Ab,decide_eq_true_eq] at i;obtain⟨rfl,u,F,v⟩:=i;obtain⟨e,y⟩:∃e,P.underlying t=some (.slice e):=by
   split at u;·exact⟨_,by assumption⟩
   ·simp at u
  split at v
  ·have p:=aB F h.er;simp only[step] at j;generalize q:a.eval A=O at p;split at j
   ·rename_i k o xs z;simp only[Ae,Al,decide_eq_true_eq] at j;obtain⟨c,rfl⟩:=j;rw[z] at p;cases p with
    |sln=>simp at c
    |sle=>simp at c
    |sl _ _ _ b B E cap X D J I f S H M=>
    refine az h rfl (cv:=.bool false) ?_ (.bool _) rfl G;have r:a.eval (.const (.slice none 0 0))=.slice none 0 0:=rfl;simp[execOp,q,r,eqGuard,binOp,ac7 y]
   ·simp at j
  ·simp at v
 ·simp at i
end
section
variable{w w':World}{g g':Gh}{s s':St}{a:Act}{P:Program}
theorem kf(k:EK)(x:Ty k):∀c∈enc k x,c.bare=true:=by cases k<;>simp[enc,V.bare]
def n8(p:Option Occ)(s:St):Prop:=
 match p with
 |some (.slot n)=>∀v,s.env[n]? =some v->v.bare=true
 |some (.cell id j)=>∀cs v,s.hp[id]? =some (some cs)->cs[j]? =some v->v.bare=true
 |_=>True
theorem SR.keep(h:SR g s w a)(p:Option Occ)(hp:n8 p s)(r:g'.β=g.β)(u:Up g.I g.ρ s.hp.length w g'.I g'.ρ s.hp.length w')
  (M:∀d b,g.O b=some d->p≠some d->g'.O b=some d∧w'.heap[b]? =w.heap[b]?∧∀j,g'.I b j->g.I b j)
  (D:∀(id:Nat) cs,s.hp[id]? =some (some cs)->w'.heap[g.ρ id]? =w.heap[g.ρ id]?∧g'.O (g.ρ id)=none∧∀j,g'.I (g.ρ id) j->g.I (g.ρ id) j)
  (F:∀b j,g'.I b j->kO w' b j) (C:∀b o,g'.O b=some o->b<w'.heap.size):SR g' s w' a:=by
 have own:∀d v cv,ai g w d v cv->(p=some d->v.bare=true)->ai g' w' d v cv:=by
  intro d v cv y i;by_cases e:p=some d;·exact eA (i e) _ _ _ _
  ·exact bd y r (λb j t=>⟨u.mono b j t,u.cell b j t⟩) (λb L=>M d b L e)
 have lt:∀(id:Nat) cs,s.hp[id]? =some (some cs)->id<s.hp.length:=λid cs hid=>(Ad.1 hid).1
 refine⟨⟨?_,?_,?_,?_,F,C⟩,⟨h.er.size,?_,?_⟩⟩
 ·intro id cs hid;refine(h.hr.obj id cs hid).keep ?_ λJ e Q y i=>⟨i.len,i.plain,i.typedUp r u.rho u.num rfl,i.cold,i.one,λj c cv m f=>(i.rel j c cv m f).up u,λj c cv m f=>?_,by rw[u.rho id (lt id cs hid)];exact i.bn⟩
  ·rw[u.rho id (lt id cs hid),(D id cs hid).1]
  ·refine own _ _ _ (i.own j c cv m f) ?_;rintro rfl;cases B:b7 cs with
   |false=>rw[c7 B] at m;exact hp cs c hid m
   |true=>
    unfold b7 at B;split at B;·simp only[cellsOf,Au,Ak] at m;obtain⟨_,_,rfl⟩:=m;rfl
    ·rename_i k xs;have H:=Af m;simp only[cellsOf,AC] at H;obtain⟨x,_,E⟩:=H;exact kf k x c E
    ·rcases agN m (i.one c (Af m)) with⟨k,x,E⟩|⟨S,N,R,_,rfl⟩
     ·exact kf k x c E
     ·rfl
    ·cases B
 ·intro id q cs z y i G;rw[u.rho id (lt id cs y),u.rho q (lt q z i)];exact h.hr.apart id q cs z y i G
 ·intro id cs hid j t;rw[u.rho id (lt id cs hid)] at t;exact h.hr.notI id cs hid j ((D id cs hid).2.2 j t)
 ·intro id cs hid;rw[u.rho id (lt id cs hid)];exact(D id cs hid).2.1
 ·intro n v cv A f;exact(h.er.rel n v cv A f).up u
 ·intro n v cv A f;refine own _ _ _ (h.er.own n v cv A f) ?_;rintro rfl;exact hp v A
theorem SR.bare(h:SR g s w a)(n:Nat):SR g (s.set n (disown (s.get n))) w a:=by
 refine⟨h.hr,⟨by simp[St.set,h.er.size],?_,?_⟩⟩
 ·intro m v cv b c;simp only[St.set,Aw] at b;by_cases e:n=m
  ·subst e;simp only[if_true] at b;split at b
   ·cases Ar b;rename_i d;have:s.env[n]? =some (s.get n):=by simp[St.get,Aq,Ac d]
    exact(h.er.rel n _ cv this c).disown
   ·simp at b
  ·simp only[e,if_false] at b;exact h.er.rel m v cv b c
 ·intro m v cv b c;simp only[St.set,Aw] at b;by_cases e:n=m
  ·subst e;simp only[if_true] at b;split at b;·cases Ar b;exact ai.disown _ _ _ _ _
   ·simp at b
  ·simp only[e,if_false] at b;exact h.er.own m v cv b c
theorem SR.after(h:SR g s w a)(x:aj):SR g (x.after s) w a:=by
 cases x with
 |tk n=>exact h.bare n
 |_=>exact h
theorem kg(x:aj)(s:St):(x.after s).hp=s.hp:=by cases x<;>rfl
theorem pO(n:Nat)(s:St):n8 (some (.slot n)) ((aj.tk n).after s):=by
 intro v b;simp only[aj.after,St.set,Aw,if_true] at b;split at b;·cases Ar b;exact cA _
 ·simp at b
def Gh.reown(g:Gh)(b:Nat)(o:Occ):Gh:={g with O:=λc=>if c=b then some o else g.O c}
theorem SR.reown(h:SR g s w a){p q:Occ}(hp:n8 (some p) s){b:Nat}(d:g.O b=some p):SR (g.reown b q) s w a:=by
 refine h.keep (some p) hp rfl (Up.refl _ _ _ _) ?_ ?_ h.hr.exI ?_
 ·intro r m c k;have:m≠b:=by
   rintro rfl;rw[d] at c;exact k c
  exact⟨by simp[Gh.reown,this,c],rfl,λj i=>i⟩
 ·intro id cs hid;refine⟨rfl,?_,λj i=>i⟩;have f:=h.hr.notO id cs hid;have:g.ρ id≠b:=by
   rintro e;rw[e,d] at f;simp at f
  simp[Gh.reown,this,f]
 ·intro m o c;simp only[Gh.reown] at c;split at c;·rename_i e;subst e;exact h.hr.oLt _ _ d
  ·exact h.hr.oLt _ _ c
theorem FR.reown{hp:List ah}{p q:Occ}{b:Nat}(d:g.O b=some p):FR g hp w (g.reown b q) hp w:=by
 refine⟨rfl,rfl,rfl,rfl,Aj _,λ_ _ _ _=>rfl,Up.refl _ _ _ _,λ_ _ _ _ _ e=>e,?_,λ_ cs h=>.inl ⟨cs,h⟩⟩;intro f _ _ c;have:f≠b:=by rintro rfl;rw[d] at c;simp at c
 simp[Gh.reown,this,c]
theorem zI{p q:Occ}{v:V}{cv:Value}(h:SR g s w a)(hp:n8 (some p) s)(f:ai g w p v cv):
  ∃g₁,SR g₁ s w a∧FR g s.hp w g₁ s.hp w∧g₁.I=g.I∧g₁.ρ=g.ρ∧ai g₁ w q v cv:=by
 cases v with
 |sl k o xs=>
  cases o with
  |may u=>exact⟨g,h,FR.refl _ _ _,rfl,rfl,by simp[ai]⟩
  |own=>
   cases cv with
   |slice d z cap=>
    cases d with
    |none=>exact⟨g,h,FR.refl _ _ _,rfl,rfl,by simp[ai]⟩
    |some d=>obtain⟨c,i,j⟩:=f;exact⟨g.reown d.block q,h.reown hp c,FR.reown c,rfl,rfl,by simp[Gh.reown],i,j⟩
   |_=>exact⟨g,h,FR.refl _ _ _,rfl,rfl,by simp[ai]⟩
 |raw n=>
  cases cv with
  |pointer d=>
   cases d with
   |none=>exact⟨g,h,FR.refl _ _ _,rfl,rfl,by simp[ai]⟩
   |some d=>obtain⟨c,i,j⟩:=f;exact⟨g.reown d.block q,h.reown hp c,FR.reown c,rfl,rfl,by simp[Gh.reown],i,j⟩
  |_=>exact⟨g,h,FR.refl _ _ _,rfl,rfl,by simp[ai]⟩
 |ul k xs=>
  rcases f with f|⟨b,cap,m,e,t,y,c,i,j,r,x⟩
  ·exact⟨g,h,FR.refl _ _ _,rfl,rfl,.inl f⟩
  ·exact⟨g.reown b q,h.reown hp r,FR.reown r,rfl,rfl,.inr ⟨b,cap,m,e,t,y,c,i,j,by simp[Gh.reown],x⟩⟩
 |_=>exact⟨g,h,FR.refl _ _ _,rfl,rfl,by simp[ai]⟩
theorem SR.newRow(h:SR g s w a)(k:EK)(xs:List (Ty k))(cap d:Nat)(m:Array Value)(e:TypeId)(H:Nat×Nat)
  (ad:w'.heap.size=w.heap.size+1) (f:∀b,b<w.heap.size->w'.heap[b]? =w.heap[b]?) (p:w'.heap[w.heap.size]? =some (.cells m e H))
  (R:w'.os=w.os) (N:w'.tape=w.tape) (G:w'.output=w.output)
  {o:Fl} (Y:o=.may true->xs.length=cap) (M:xs.length<=cap) (hm:cap<=cR) (t:cap*k.sz<=m.size) (L:k=.u8->e=g.β)
  (X:∀j,xs.length*k.sz<=j->j<cap*k.sz->¬(H.1<=j∧j<H.2))
  (S:∀(i:Nat) x j v,xs[i]? =some x->(enc k x)[j]? =some v->∃cv,m[i*k.sz+j]? =some cv∧VRel g.I g.ρ s.hp.length w v cv) (Q:k=.u8∨H=(0,0):=by first|exact .inl rfl|exact .inr rfl):
  ∃g',SR g' (s.set d (.sl k o xs)) w' (a.put (some d) (.slice (some ⟨w.heap.size,0,none⟩) xs.length cap))∧FR g s.hp w g' s.hp w':=by
 let g':Gh:={I:=λb j=>g.I b j∨(b=w.heap.size∧j<xs.length*k.sz),ρ:=g.ρ,O:=λb=>if b=w.heap.size then some (.slot d) else g.O b,β:=g.β}
 have z:∀b j,g.I b j->b<w.heap.size:=by intro b j y;exact(h.hr.exI b j y).lt
 have D:∀b j,b<w.heap.size->w'.cell? ⟨b,j,none⟩=w.cell? ⟨b,j,none⟩:=by intro b j q;simp[Bn,f b q]
 have u:Up g.I g.ρ s.hp.length w g'.I g'.ρ s.hp.length w':=⟨λb j y=>.inl y,λb j y=>D b j (z b j y),λ_ _=>rfl,Aj _⟩
 have C:∀j,w'.cell? ⟨w.heap.size,j,none⟩=m[j]?:=λj=>aA p j
 have Z:xs.length*k.sz<=m.size:=AF (AI _ M) t;have hs:SR g' s w' a:=by
  refine h.keep none trivial rfl u ?_ ?_ ?_ ?_
  ·intro W b q _;have r:=h.hr.oLt b W q;refine⟨by simp[g',Ba r,q],f b r,?_⟩;rintro j (c|⟨c,_⟩);·exact c
   ·omega
  ·intro id cs hid;have r:=(h.hr.obj id cs hid).lt;refine⟨f _ r,by simp[g',Ba r,h.hr.notO id cs hid],?_⟩;rintro j (c|⟨c,_⟩);·exact c
   ·omega
  ·rintro b j (c|⟨rfl,c⟩);·exact(h.hr.exI b j c).blk (by first|exact f b (z b j c)|exact f2 b (z b j c))
   ·refine .row p (by omega) λ_ hz=>?_
    rcases Q with rfl|rfl;·simp only[EK.sz,Di] at c;obtain⟨cv,A,E⟩:=S j _ 0 _ (Ac c) rfl;simp only[EK.sz,Di,Cu] at A;cases E;exact⟨_,A⟩
    ·simp at hz
  ·intro b o q;simp only[g'] at q;split at q;·omega
   ·have:=h.hr.oLt b o q;omega
 have J:∀(i:Nat) x,xs[i]? =some x->i<xs.length:=λi x B=>(Ad.1 B).1
 have F:∀(i j:Nat),i<xs.length->j<k.sz->i*k.sz+j<xs.length*k.sz:=by
  intro i j y c
  calc i*k.sz+j<i*k.sz+k.sz:=by omega
   _=(i+1)*k.sz:=by rw[AH,Cl]
   _<=xs.length*k.sz:=AI _ y
 refine⟨g',hs.set d ?_ ?_,⟨rfl,R,N,G,by omega,λb q _ _=>f b q,u,?_,?_,λ_ cs h=>.inl ⟨cs,h⟩⟩⟩
 ·refine .sl k o xs _ _ _ _ rfl M hm Y (λi j=>m[i*k.sz+j]?.getD undef) ?_ ?_ ?_;·intro i x j B c;rw[ba] at c;exact .inr ⟨rfl,by have:=F i j (J i x B) c;omega⟩
  ·intro i x j B c;obtain⟨cv,A,_⟩:=S i x j _ B (Ac c);rw[AW,C,A];rfl
  ·intro i x j v B c;obtain⟨cv,A,E⟩:=S i x j v B c;rw[A];exact E.up u
 ·cases o with
  |may u=>simp[ai]
  |own=>
  refine⟨by simp[g'],⟨m,e,H,p,by simpa using t,L⟩,?_⟩;intro j A E;simp only[AW] at A E;refine⟨?_,?_⟩
  ·rintro(y|⟨_,y⟩);·exact absurd (z _ _ y) (by simp)
   ·omega
  ·have:=X j A E;simp only[Bq,p];simpa using this
 ·rintro b j q _ _ (c|⟨c,_⟩);·exact c
  ·omega
 ·intro b q _ hO;simp[g',Ba q,hO]
end
section
variable{w w':World}{g g':Gh}{s s':St}{a:Act}{P:Program}{Γ:am}{m:Oper}{next:Act->World->Prop}{Q:Exit->Act->World->Prop}
theorem dg{d:Nat}{cv:Value}(f:m.dst=some d)(b:(execOp a.eval m).run P w=.ok (.value cv) w')
  (h:∃g',SR g' s' w' (a.put (some d) cv)∧FR g s.hp w g' s'.hp w') (i:bI g s w a s' next):m.wp P a w next Q:=by
 unfold Cw CZ;rw[b,f];obtain⟨g',c,e⟩:=h;exact i _ _ g' c e rfl
def sm:List aj->List (Nat×Operand)->Nat->Bool
 | [],[],_=>true
 |x::xs,(i,y)::ys,n=>(i==n)&&(ay x y&&sm xs ys (n+1))
 |_,_,_=>false
def rv(P:Program)(fs:Array Field):List (Nat×Nat×aj)->List (Nat×Operand)->Bool
 | [],[]=>true
 |(b,n,x)::xs,(i,y)::ys=>(match fs[i]? with|some f=>(f.offset==b)&&(dM P f.type==some n)|none=>false)&&(ay x y&&rv P fs xs ys)
 |_,_=>false
def aaq(P:Program)(t:TypeId)(zero:List V):Bool:=match P.info? t with|some i=>(match i.zero with|some z=>fH zero z.cells.toList|none=>false)|none=>false
def pW(P:Program)(o:IOp)(m:Oper):Bool:=
 match o with
 | .mov d x=>(m.dst==some d)&&(match m.op with| .move y=>ay x y| .assign y=>ay x y|_=>false)
 | .bsl d k b _=>(m.dst==some d)&&(match m.op with| .buildSlice t n e=>gG P t k&&(n==b.length&&(decide (b.length*k.sz<=16777216)&&sm b e.toList 0))|_=>false)
 | .app d k x y=>(m.dst==some d)&&(match sk m.op with|some (.append,[f,c],[t,u])=>gG P t k&&(gG P u k&&(ay x f&&ay y c))|_=>false)
 |_=>false
theorem ai9{d:Nat}{x:aj}(f:pW P (.mov d x) m=true)(D:step Γ (.mov d x) s=some (true,s'))(h:SR g s w a)(G:bI g s w a s' next):m.wp P a w next Q:=by
 obtain⟨dst,u,ty,pos,i,p⟩:=m;simp only[pW,Ab,beq_iff_eq] at f;obtain⟨rfl,f⟩:=f;obtain rfl:_=s':=by simpa [step] using D
 have fin:∀y,ay x y=true->(execOp a.eval ⟨some d,u,ty,pos,i,p⟩).run P w=.ok (.value (a.eval y)) w->(⟨some d,u,ty,pos,i,p⟩:Oper).wp P a w next Q:=by
  intro y b C;have r:=aB b h.er;refine dg rfl C ?_ G;cases x with
  |t n=>exact⟨g,h.set d r (eA (cA _) _ _ _ _),FR.refl _ _ _⟩
  |c v=>
   refine⟨g,h.set d r ?_,FR.refl _ _ _⟩;unfold ay at b;split at b;·rename_i e;cases e
   ·rename_i e;cases e
   ·rename_i e;cases e;exact pM b _
   ·rename_i e;cases e;simp[aj.ev,ai]
   ·simp at b
  |tk n=>
   have j:y=.tmp n:=by
    unfold ay at b;split at b;·rename_i e;cases e
    ·rename_i k e;cases e;rw[show k=n by simpa using (beq_iff_eq.1 b).symm]
    ·rename_i e;cases e
    ·rename_i e;cases e
    ·simp at b
   subst j;have A:=h.er.getOwn n;obtain⟨g₁,F,o,B,E,z⟩:=zI (q:=.slot d) (h.after (.tk n)) (pO n s) A;refine⟨g₁,F.set d ?_ z,?_⟩;·rw[B,E];exact r
   ·rw[kg] at o;simpa [St.set,kg] using o
 split at f;·rename_i y;exact fin y f (by simp[execOp])
 ·rename_i y;exact fin y f (by simp[execOp])
 ·simp at f
theorem wK:∀(vs:List Value)(b j:Nat)(cells:Array Value),b+j+vs.length<=cells.size->
  ((vs.zipIdx j).foldl (λ(cs:Array Value)(x:Value×Nat)=>cs.setIfInBounds (b+x.2) x.1) cells).toList=cells.toList.take (b+j)++vs++cells.toList.drop (b+j+vs.length)
 | [],b,j,cells,h=>by simp
 |v::vs,b,j,cells,h=>by
  simp only[AD] at h;rw[List.zipIdx_cons,CG,wK vs b (j+1) _ (by simp;omega)];simp only[Array.toList_setIfInBounds,AD];have c:b+j<cells.toList.length:=by rw[BD];omega
  rw[show b+(j+1)=b+j+1 by omega,List.take_succ_eq_append_getElem (by simpa using c),List.take_set_of_le (by omega),List.drop_set_of_lt (by omega)];simp[BN];omega
theorem ac8(sz:Nat):∀(vs:List (Array Value))(i:Nat)(cells:Array Value),(∀v∈vs,v.size=sz)->(i+vs.length)*sz<=cells.size->∀(d:List (Nat×Value)),d.map (·.1)=A6 i vs.length->d.map (·.2.cells)=vs->
  Ch (λi=>some (i*sz,sz)) cells d=some (cells.toList.take (i*sz)++(vs.map (·.toList)).flatten++cells.toList.drop ((i+vs.length)*sz)).toArray
 | [],i,cells,j,e,d,t,f=>by
   have:d=[]:=by simpa using f
   subst this;simp[Ch]
 |v::vs,i,cells,j,e,d,t,f=>by
  match d,t,f with
  |(b,x)::h,k,p=>
  simp only[Bf,AD,B6,List.cons.injEq] at k p;obtain⟨rfl,A⟩:=k;obtain⟨rfl,z⟩:=p;have c:x.cells.size=sz:=j _ (AN ..);simp only[AD] at e;have B:(b+(vs.length+1))*sz=b*sz+sz+vs.length*sz:=by rw[AH,AH];omega
  have r:b*sz+sz<=cells.size:=by omega
  have o:(x.cells.zipIdx.foldl (λ(cs:Array Value)(y:Value×Nat)=>cs.setIfInBounds (b*sz+y.2) y.1) cells).toList=cells.toList.take (b*sz)++x.cells.toList++cells.toList.drop (b*sz+sz):=by have:=wK x.cells.toList (b*sz) 0 cells (by simp[c];omega);simp only[Cu,BD,c] at this;rw[<-this,<-Array.foldl_toList,Array.toList_zipIdx]
  have u:(x.cells.zipIdx.foldl (λ(cs:Array Value)(y:Value×Nat)=>cs.setIfInBounds (b*sz+y.2) y.1) cells).size=cells.size:=by rw[<-BD,o];simp[c];omega
  simp only[Ch,c];rw[if_neg (by simp;omega)];rw[ac8 sz vs (b+1) _ (λv c=>j v (AS _ c)) (by rw[u];rw[show (b+1+vs.length)=b+(vs.length+1) by omega];exact e) h A z,o];have C:x.cells.toList.length=sz:=by simp[c]
  have q:(cells.toList.take (b*sz)++x.cells.toList).length=b*sz+sz:=by simp[c];omega
  rw[show (b+1)*sz=b*sz+sz by rw[AH];omega,show (b+1+vs.length)*sz=(b*sz+sz)+vs.length*sz by rw[AH,AH];omega,AD,B];rw[List.take_left' q,<-List.drop_drop,List.drop_left' q,List.drop_drop];simp[BN]
theorem aar{I:Nat->Nat->Prop}{ρ:Nat->Nat}{N:Nat}{k:EK}:∀{vs:List V}{xs:List (Ty k)}{cvs:List Value},td k vs=some xs->cvs.length=vs.length->
  (∀(i:Nat) v cv,vs[i]? =some v->cvs[i]? =some cv->VRel I ρ N w v cv)->
  xs.length=vs.length∧(∀cv∈cvs,cv.cells.size=k.sz)∧
   ∀(i:Nat) x (j:Nat) v,xs[i]? =some x->(enc k x)[j]? =some v->∃(cv u:Value),cvs[i]? =some cv∧cv.cells[j]? =some u∧VRel I ρ N w v u
 | [],xs,cvs,h,t,F=>by
   have:cvs=[]:=by simpa using t
   subst this;simp only[td,Ae] at h;subst h;exact⟨rfl,by simp,by simp⟩
 |v::vs,xs,cv::cvs,h,t,F=>by
  simp only[td] at h;split at h
  ·rename_i x l d z;obtain rfl:=Ar h;obtain⟨M,O,R⟩:=aar (vs:=vs) (cvs:=cvs) z (by simpa using t) (λi v cv e r=>F (i+1) v cv (by simpa using e) (by simpa using r));have L:=F 0 v cv rfl rfl;have G:=L;have o:v.cells.length=cv.cells.size∧(∀(j:Nat) c u,v.cells[j]? =some c->cv.cells[j]? =some u->VRel I ρ N w c u):=by
    cases L with
    |agg cs us C e S J=>exact⟨by simpa [V.cells,B1] using C,by simpa [V.cells,B1] using J⟩
    |undef cv=>cases k<;>simp[V.cells,dec] at d<;>(rename_i p;cases p<;>simp at d)
    |tup cs us t J=>cases k<;>simp[V.cells,dec] at d<;>(rename_i p;cases p<;>simp at d)
    |junk cv=>cases k<;>simp[V.cells,dec] at d<;>(rename_i p;cases p<;>simp at d)
    |_=>
     refine⟨by simp[V.cells,B1],?_⟩;intro j c u e r;cases j with
     |zero=>simp[V.cells,B1] at e r;subst e r;exact G
     |succ j=>simp[V.cells] at e
   have E:∀c∈v.cells,c.inRange:=by
    intro c b;obtain⟨j,q,rfl⟩:=AP.1 b;have:j<cv.cells.size:=by rw[<-o.1];exact q
    exact(o.2 j _ _ (Ac q) (Am this)).inRange
   have H:=abn d E;have A:cv.cells.size=k.sz:=by rw[<-o.1,<-ba k x,H,Bm]
   refine⟨by simp[M],by simpa using ⟨A,O⟩,?_⟩;intro i y j u D B;cases i with
   |succ i=>simpa using R i y j u (by simpa using D) B
   |zero=>
    simp at D;subst D;rw[H,Au,Ak] at B;obtain⟨c,b,rfl⟩:=B;have q:j<v.cells.length:=(Ad.1 b).1;have f:j<cv.cells.size:=by rw[<-o.1];exact q
    exact⟨cv,cv.cells[j],rfl,Am f,(o.2 j _ _ b (Am f)).weak⟩
  ·simp at h
theorem ac9(sz:Nat):∀(cvs:List Value),(∀cv∈cvs,cv.cells.size=sz)->∀(i j:Nat) cv u,cvs[i]? =some cv->cv.cells[j]? =some u->
  ((cvs.map (·.cells.toList)).flatten)[i*sz+j]? =some u
 | [],_,i,j,cv,u,b,_=>by simp at b
 |c::cvs,e,0,j,cv,u,b,d=>by
  simp at b;subst b;have p:j<c.cells.size:=by
   rcases AE j c.cells.size with h|h;·exact h
   ·simp[CT h] at d
  simp only[Bf,List.flatten_cons,Nat.zero_mul,AW];rw[Ap (by simpa using p)];simpa using d
 |c::cvs,e,i+1,j,cv,u,b,d=>by
  have k:=e c (AN ..);have o:=ac9 sz cvs (λcv f=>e cv (AS _ f)) i j cv u (by simpa using b) d;simp only[Bf,List.flatten_cons];rw[An (by simp[k,AH];omega)];rw[<-o]
  congr 1
  simp[k,AH];omega
theorem ab8(h:ER g s.hp.length w s.env a.tmps):∀(c:List aj)(d:List (Nat×Operand))(n:Nat),sm c d n=true->
  (d.map λq=>(q.1,a.eval q.2)).map (·.1)=A6 n c.length∧d.length=c.length∧
   ∀(i:Nat) v cv,(c.map (·.ev s))[i]? =some v->(d.map λq=>a.eval q.2)[i]? =some cv->VRel g.I g.ρ s.hp.length w v cv
 | [],[],n,_=>by simp
 |x::c,(i,y)::d,n,hp=>by
  simp only[sm,Ab,beq_iff_eq] at hp;obtain⟨rfl,f,r⟩:=hp;obtain⟨p,k,o⟩:=ab8 h c d (i+1) r;refine⟨?_,by simp[k],?_⟩;·simp only[Bf,AD,B6];rw[p]
  ·intro j v cv e b;cases j with
   |zero=>simp at e b;subst e b;exact aB f h
   |succ j=>exact o j v cv (by simpa using e) (by simpa using b)
 | [],_::_,n,hp=>by simp[sm] at hp
 |_::_,[],n,hp=>by simp[sm] at hp
theorem iv(w:World)(o:Go.Obj):(w.alloc o).heap.size=w.heap.size+1∧(∀b,b<w.heap.size->(w.alloc o).heap[b]? =w.heap[b]?)∧(w.alloc o).heap[w.heap.size]? =some o:=by
 refine⟨by simp,?_,?_⟩;·intro b c;show (w.heap.push o)[b]? =_;rw[CE,if_neg (by omega)]
 ·show (w.heap.push o)[w.heap.size]? =_;simp
theorem aja{d:Nat}{k:EK}{A:List aj}{u:Bool}(O:g.β=jz P)(B:pW P (.bsl d k A u) m=true)(L:step Γ (.bsl d k A u) s=some (true,s'))(h:SR g s w a)(hn:bI g s w a s' next):m.wp P a w next Q:=by
 obtain⟨dst,op,ty,pos,bs,gd⟩:=m;simp only[pW,Ab,beq_iff_eq] at B;obtain⟨rfl,B⟩:=B;split at B
 ·rename_i t n y;simp only[Ab,beq_iff_eq,decide_eq_true_eq] at B;obtain⟨H,rfl,h2,h3⟩:=B;simp only[step,Ak] at L;obtain⟨xs,S,L⟩:=L;obtain rfl:_=s':=by simpa using L
  obtain⟨e,u1,H⟩:=cm H;obtain⟨inf,z,i1,i2,i3,i4,i5,i6,i7⟩:=eB H;obtain⟨k1,F,k3⟩:=ab8 h.er A y.toList 0 h3;obtain⟨J,r2,r3⟩:=aar (cvs:=y.toList.map λq=>a.eval q.2) S (by simp[F]) k3;simp only[Bm] at J;have b2:z.cells.size=k.sz:=i7;have X:0<k.sz:=by cases k<;>simp[EK.sz]
  let D:Array Value:=(Array.range (A.length*k.sz)).map (λj=>z.cells[j%z.cells.size]!);have r:D.size=A.length*k.sz:=by simp[D]
  have p:Ch (λi=>some (i*k.sz,k.sz)) D ((y.map λx=>(x.1,a.eval x.2)).toList)=some ((y.toList.map λq=>a.eval q.2).map (·.cells.toList)).flatten.toArray:=by have:=ac8 k.sz ((y.toList.map λq=>a.eval q.2).map (·.cells)) 0 D (by intro v Z;obtain⟨cv,C,rfl⟩:=AA.1 Z;exact r2 cv C) (by simp[r,F]) ((y.map λx=>(x.1,a.eval x.2)).toList) (by simpa [F] using k1) (by simp);rw[this];simp[F,r,B9,Du]
  have I:((y.toList.map λq=>a.eval q.2).map (·.cells.toList)).flatten.length=xs.length*k.sz:=by
   rw[List.length_flatten,B9];have:∀l:List Value,(∀cv∈l,cv.cells.size=k.sz)->(l.map (Aa∘λx:Value=>x.cells.toList)).sum=l.length*k.sz:=by
    intro l hl;induction l with
    |nil=>simp
    |cons c l ih=>simp only[Bf,List.sum_cons,AD,ih (λcv C=>hl cv (AS _ C)),AH,Dq];have:=hl c (AN ..);simp[this];omega
   rw[this _ r2,Bm,F,J]
  let b:Array Value:=((y.toList.map λq=>a.eval q.2).map (·.cells.toList)).flatten.toArray;have f:=iv w (.cells b e);refine dg rfl (w':=w.alloc (.cells b e)) (cv:=.slice (some ⟨w.heap.size,0,none⟩) xs.length xs.length) ?_ ?_ hn
  ·have E:¬(16777216<A.length*k.sz):=by omega
   have a2:D.size=A.length*k.sz:=r;simp only[Array.toList_map,D] at p;by_cases N:A.length*k.sz=0
   ·have W:A.length=0:=by
     rcases Nat.mul_eq_zero.1 N with h|h;·exact h
     ·omega
    have al:y.toList=[]:=A1 (by omega);have Y:xs.length=0:=by omega
    have G:y= #[]:=by simpa using al
    simp[execOp,Instr.buildSlice,run_underlying u1,sizeOf,typeInfo,i1,i2,E,N,W,G,Y,Ch,newRow,b];rw[show Array.range 0= #[] from C6 (by simp),Array.map_empty]
   ·simp[execOp,Instr.buildSlice,run_underlying u1,sizeOf,typeInfo,i1,i2,E,N,zeroValue,i4,p,newRow,J,b]
  ·obtain⟨g',M,R⟩:=h.newRow (w':=w.alloc (.cells b e)) k xs xs.length d b e (0,0) f.1 f.2.1 f.2.2 rfl rfl rfl (o:=cond u (.may true) .own) (λ_=>rfl) (Aj _) (by unfold cR;have:xs.length<=xs.length*k.sz:=CR _ X;rw[J] at *;omega)
    (by simp only[b,Cr,I];exact Aj _) (λhk=>by rw[O];exact pN H hk) (by intro j H h2;omega) (by intro i x j v S Z;obtain⟨cv,u,M,R,q3⟩:=r3 i x j v S Z;refine⟨u,?_,q3⟩;simp only[b,C0];exact ac9 k.sz _ r2 i j cv u M R)
   exact⟨g',M,R⟩
 ·simp at B
end
section
variable{w w':World}{g g':Gh}{s s':St}{a:Act}{P:Program}{Γ:am}{m:Oper}{next:Act->World->Prop}{Q:Exit->Act->World->Prop}
theorem eU(b:Nat):∀(vs:List Value)(o:Nat)(w:World)(d:Array Value)(e:TypeId)(f:Nat×Nat),w.heap[b]? =some (.cells d e f)->
  (∃c,(w.setCells b o vs).heap[b]? =some (.cells c e f)∧c.size=d.size)∧(∀i,i≠b->(w.setCells b o vs).heap[i]? =w.heap[i]?)∧
   (w.setCells b o vs).heap.size=w.heap.size∧(w.setCells b o vs).os=w.os∧(w.setCells b o vs).tape=w.tape∧(w.setCells b o vs).output=w.output
 | [],o,w,d,e,f,h=>⟨⟨d,h,rfl⟩,λ_ _=>rfl,rfl,rfl,rfl,rfl⟩
 |v::vs,o,w,d,e,f,h=>by
  have p:(w.setCell ⟨b,o,none⟩ v).heap[b]? =some (.cells (d.setIfInBounds o v) e f):=by simp[World.setCell,CY,h]
  obtain⟨⟨c,x,k⟩,r,t,u,q,y⟩:=eU b vs (o+1) (w.setCell ⟨b,o,none⟩ v) _ e f p;refine⟨⟨c,x,by simpa using k⟩,λi j=>?_,t.trans (by simp[World.setCell]),u,q,y⟩;rw[show (w.setCells b o (v::vs))=(w.setCell ⟨b,o,none⟩ v).setCells b (o+1) vs from rfl,r i j];simp only[World.setCell,CY];rw[if_neg (by simpa using Ne.symm j)]
theorem aas{k:EK}{o:Fl}{xs:List (Ty k)}{cv:Value}(h:VRel g.I g.ρ s.hp.length w (.sl k o xs) cv):
  ∃(L:List Value),L.length=xs.length*k.sz∧(∀u∈L,u.oneCell'=true)∧
   (∀(i:Nat) x (j:Nat) v,xs[i]? =some x->(enc k x)[j]? =some v->∃u,L[i*k.sz+j]? =some u∧VRel g.I g.ρ s.hp.length w v u)∧
   ((xs=[]∧∃A,cv=.slice A 0 0∧(o=.own->A=none))∨∃b c cap,cv=.slice (some ⟨b,c,none⟩) xs.length cap∧xs.length<=cap∧cap<=cR∧∀(j:Nat) u,L[j]? =some u->w.cell? ⟨b,c+j,none⟩=some u):=by
 cases h with
 |sln=>exact⟨[],by simp,by simp,by simp,.inl ⟨rfl,none,rfl,λ_=>rfl⟩⟩
 |sle _ _ A J=>exact⟨[],by simp,by simp,by simp,.inl ⟨rfl,some A,rfl,λh=>absurd h J⟩⟩
 |sl _ _ _ b c S cap X N O Y f Z H F=>
  subst X;have t:0<k.sz:=by cases k<;>simp[EK.sz]
  have D:∀(i j:Nat),j<k.sz->(i*k.sz+j) / k.sz=i∧(i*k.sz+j)%k.sz=j:=by
   intro i j p;constructor;·rw[Nat.add_comm,Nat.add_mul_div_right _ _ t,Nat.div_eq_of_lt p];omega
   ·rw[Nat.add_comm,Nat.add_mul_mod_self_right,Nat.mod_eq_of_lt p]
  have e:∀(q:Nat),q<xs.length*k.sz->q / k.sz<xs.length∧q%k.sz<k.sz∧q / k.sz*k.sz+q%k.sz=q:=by intro q B;exact⟨Nat.div_lt_of_lt_mul (by rwa [BR]),Nat.mod_lt _ t,Nat.div_add_mod' q k.sz⟩
  refine⟨(A2 (xs.length*k.sz)).map λq=>f (q / k.sz) (q%k.sz),by simp,?_,?_,.inr ⟨b,c,cap,rfl,N,O,?_⟩⟩
  ·intro u z;obtain⟨q,B,rfl⟩:=AA.1 z;obtain⟨E,C,R⟩:=e q (by simpa using B);have r:xs[q / k.sz]? =some xs[q / k.sz]:=Ac E;have p:q%k.sz<(enc k xs[q / k.sz]).length:=by rw[ba];exact C
   exact(F _ _ _ _ r (Ac p)).oneCell (nw _ _ _ (AO p))
  ·intro i x j v r y;have p:j<k.sz:=by
    have:=(Ad.1 y).1
    rwa [ba] at this
   have M:i<xs.length:=(Ad.1 r).1;have d:i*k.sz+j<xs.length*k.sz:=by
    calc i*k.sz+j<i*k.sz+k.sz:=by omega
     _=(i+1)*k.sz:=by rw[AH,Cl]
     _<=xs.length*k.sz:=AI _ M
   obtain⟨W,G⟩:=D i j p;refine⟨f i j,?_,F i x j v r y⟩;simp[Au,Dc d,W,G]
  ·intro j u z;rw[Au,Ak] at z;obtain⟨q,B,rfl⟩:=z;obtain⟨d,rfl⟩:=Ad.1 B;simp only[Dt] at d;obtain⟨E,C,R⟩:=e j d;have r:xs[j / k.sz]? =some xs[j / k.sz]:=Ac E;have:=H _ _ (j%k.sz) r (by rw[ba];exact C);rw[show c+j / k.sz*k.sz+j%k.sz=c+j by omega] at this;simpa using this
theorem SR.inPlace(h:SR g s w a){p:Occ}(hp:n8 (some p) s)(k:EK)(xs ys:List (Ty k))(b t cap d:Nat)(news:List Value)
  (hx:VRel g.I g.ρ s.hp.length w (.sl k .own xs) (.slice (some ⟨b,t,none⟩) xs.length cap)) (S:ai g w p (.sl k .own xs) (.slice (some ⟨b,t,none⟩) xs.length cap))
  (F:xs.length+ys.length<=cap) (hl:news.length=ys.length*k.sz)
  (hv:∀(i:Nat) x (j:Nat) v,ys[i]? =some x->(enc k x)[j]? =some v->∃u,news[i*k.sz+j]? =some u∧VRel g.I g.ρ s.hp.length w v u):
  ∃g',SR g' (s.set d (.sl k .own (xs++ys))) (w.setCells b (t+xs.length*k.sz) news) (a.put (some d) (.slice (some ⟨b,t,none⟩) (xs.length+ys.length) cap))∧
   FR g s.hp w g' s.hp (w.setCells b (t+xs.length*k.sz) news):=by
 obtain⟨M,⟨a2,e,fz,X,o3,bn⟩,o4⟩:=S;simp only at M X o3 o4;let C:=t+xs.length*k.sz;have bs:C+news.length<=t+cap*k.sz:=by have:(xs.length+ys.length)*k.sz<=cap*k.sz:=AI _ F;rw[AH] at this;simp only[C,hl];omega
 obtain⟨⟨Z,q1,q2⟩,q3,q4,q5,q6,q7⟩:=eU b news C w a2 e fz X;let w':=w.setCells b C news;let g':Gh:={I:=λr j=>g.I r j∨(r=b∧C<=j∧j<C+news.length),ρ:=g.ρ,O:=λr=>if r=b then some (.slot d) else g.O r,β:=g.β}
 have W:∀j,C<=j->j<t+cap*k.sz->¬g.I b j:=λj c z=>(o4 j c z).1
 have D:∀r j,g.I r j->w'.cell? ⟨r,j,none⟩=w.cell? ⟨r,j,none⟩:=by
  intro r j B;refine AX b news C w _ ?_;rintro rfl _;rcases AE j C with c|c;·exact .inl c
  ·rcases AE j (t+cap*k.sz) with z|z;·exact absurd B (W j c z)
   ·right;show C+news.length<=j;omega
 have J:∀j (q:j<news.length),w'.cell? ⟨b,C+j,none⟩=some news[j]:=by intro j q;refine Bt b news C w (λj' b6=>?_) j q;rw[aA X,Am (by omega)];rfl
 have a0:∀(id:Nat) cs,s.hp[id]? =some (some cs)->g.ρ id≠b:=by intro id cs hid e';have:=h.hr.notO id cs hid;rw[e',M] at this;simp at this
 have u:Up g.I g.ρ s.hp.length w g'.I g'.ρ s.hp.length w':=⟨λb j B=>.inl B,D,λ_ _=>rfl,Aj _⟩
 have hs:SR g' s w' a:=by
  refine h.keep (some p) hp rfl u ?_ ?_ ?_ ?_
  ·intro c3 r A bl;have y:r≠b:=by
    rintro rfl;rw[M] at A;exact bl A
   refine⟨by simp[g',y,A],q3 r y,?_⟩;rintro j (q|⟨q,_⟩);·exact q
   ·exact absurd q y
  ·intro id cs hid;have y:=a0 id cs hid;refine⟨q3 _ y,by simp[g',y,h.hr.notO id cs hid],?_⟩;rintro j (q|⟨q,_⟩);·exact q
   ·exact absurd q y
  ·rintro r j (q|⟨rfl,c,z⟩);·exact(h.hr.exI r j q).set (D r j q) X q1 q3
   ·refine .row q1 (by rw[q2];omega) λ_ hz=>?_
    have:=(o4 j c (by omega)).2;simp only[Bq,X,BJ,decide_eq_false_iff_not] at this;omega
  ·intro r o A;simp only[g'] at A;rw[q4];split at A;·rename_i e';subst e';exact h.hr.oLt _ _ M
   ·exact h.hr.oLt _ _ A
 obtain⟨L,l1,l2,l3,l4⟩:=aas hx;have a4:cap<=cR:=by
  cases hx with
  |sle _ _ _ S=>exact absurd rfl S
  |sl=>assumption
 have E:∀(i:Nat) x,(xs++ys)[i]? =some x->(i<xs.length∧xs[i]? =some x)∨(xs.length<=i∧ys[i-xs.length]? =some x):=by
  intro i x B;rcases AE i xs.length with c|c;·rw[Ap c] at B;exact .inl ⟨c,B⟩
  ·rw[An c] at B;exact .inr ⟨c,B⟩
 have H:∀(i j:Nat),xs.length<=i->t+i*k.sz+j=C+((i-xs.length)*k.sz+j):=by
  intro i j B;have:i*k.sz=xs.length*k.sz+(i-xs.length)*k.sz:=by rw[<-AH];congr 1;omega
  simp only[C];omega
 have Y:VRel g'.I g'.ρ s.hp.length w' (.sl k .own (xs++ys)) (.slice (some ⟨b,t,none⟩) (xs.length+ys.length) cap):=by
  cases hx with
  |sle _ _ _ S=>exact absurd rfl S
  |sl _ _ _ _ _ _ _ b4 cx ci cc f hI hw br=>
  refine .sl k .own _ _ _ _ _ (by simp) (by simpa using F) a4 (by simp) (λi j=>if i<xs.length then f i j else news[(i-xs.length)*k.sz+j]?.getD undef) ?_ ?_ ?_
  ·intro i x j B q;rcases E i x B with⟨c,z⟩|⟨c,z⟩
   ·exact .inl (hI i x j z q)
   ·obtain⟨u,N,_⟩:=hv _ x j _ z (Ac q);have:=(Ad.1 N).1;refine .inr ⟨rfl,?_⟩;rw[H i j c];omega
  ·intro i x j B q;rcases E i x B with⟨c,z⟩|⟨c,z⟩
   ·simp only[c,if_true];rw[D _ _ (hI i x j z q)];exact hw i x j z q
   ·obtain⟨u,N,_⟩:=hv _ x j _ z (Ac q);have R:=(Ad.1 N).1;simp only[Nat.not_lt.2 c,if_false];rw[H i j c,J _ R,Ac R];rfl
  ·intro i x j v B q;rcases E i x B with⟨c,z⟩|⟨c,z⟩
   ·simp only[c,if_true];exact(br i x j v z q).up u
   ·obtain⟨u',N,hr⟩:=hv _ x j v z q;simp only[Nat.not_lt.2 c,if_false,N];exact hr.up u
 refine⟨g',hs.set d Y ?_,⟨rfl,q5,q6,q7,by rw[q4];exact Aj _,λr A _ G=>?_,u,?_,?_,λ_ cs h=>.inl ⟨cs,h⟩⟩⟩
 ·refine⟨by simp[g'],⟨Z,e,fz,q1,by rw[q2];exact o3,bn⟩,?_⟩;intro j c z;simp only at c z;have a5:C+news.length<=j:=by
   simp only[C,hl];rw[AH] at c;omega
  have:=o4 j (by simp only[C] at a5;omega) z;refine⟨?_,?_⟩
  ·rintro(B|⟨_,_,B⟩);·exact this.1 B
   ·omega
  ·rw[World.frozen?_setCells];exact this.2
 ·have y:r≠b:=by rintro rfl;rw[M] at G;simp at G
  exact q3 r y
 ·rintro r j A _ G (q|⟨q,_⟩);·exact q
  ·subst q;rw[M] at G;simp at G
 ·intro r A _ G;have y:r≠b:=by rintro rfl;rw[M] at G;simp at G
  simp[g',y,G]
theorem afg{k k':EK}(h:k'=k){o:Fl}{m:List (Ty k')}{I:Nat->Nat->Prop}{ρ:Nat->Nat}{N:Nat}{w:World}{cv:Value}(r:VRel I ρ N w (.sl k' o m) cv):VRel I ρ N w (.sl k o (h▸m)) cv:=by subst h;exact r
theorem zJ{k k':EK}(h:k'=k)(m:List (Ty k')):(h▸m:List (Ty k)).length=m.length:=by subst h;rfl
theorem aez(b2:g.β=jz P){d:Nat}{k:EK}{x:aj}{J S:Operand}{xs ys:List (Ty k)}{ty t u e:TypeId}{pos:String}{M:Array Edge}{gd:Option (Nat×Bool)}(h:SR g s w a)
  (C:ay x J=true) {o:Fl} (r:x.ev s=.sl k o xs) (F:o.app ys.length=true) (ut:P.underlying t=some (.slice e)) (he:pV P e k=true) (news:List Value)
  (O:_root_.Go.Src P k.sz u (a.eval S) ys.length news w) (hv:∀(i:Nat) x (j:Nat) v,ys[i]? =some x->(enc k x)[j]? =some v->∃u,news[i*k.sz+j]? =some u∧VRel g.I g.ρ s.hp.length w v u)
  (X:(xs.length+ys.length)*k.bytes<=nW)
  (hn:bI g s w a ((x.after s).set d (.sl k .own (xs++ys))) next):
  (⟨some d,.call ⟨.builtin .append,⟨[J,S]⟩,⟨[t,u]⟩⟩,ty,pos,M,gd⟩:Oper).wp P a w next Q:=by
 obtain⟨inf,z,i1,Z,i3,i4,i5,i6,i7⟩:=eB he;have r1:=aB C h.er;rw[r] at r1;have c4:0<k.bytes:=by cases k<;>simp[EK.bytes];rename_i kk;cases kk<;>simp[zE]
 have Y:xs.length+ys.length<=nW:=AF (CR _ c4) X;have bl:o=.own->∃p,n8 (some p) (x.after s)∧ai g w p (.sl k .own xs) (a.eval J):=by
  rintro rfl;unfold ay at C;split at C
  ·rename_i n k';obtain rfl:=by simpa using C
   simp only[aj.ev] at r;exfalso;cases hg:s.get n<;>rw[hg] at r<;>simp[disown] at r;rename_i o' _;cases o'<;>simp[Fl.dis] at r
  ·rename_i n k';obtain rfl:=by simpa using C
   refine⟨.slot n,pO n s,?_⟩;have:=h.er.getOwn n
   rwa [show s.get n=.sl k .own xs from r] at this
  ·rename_i v cv;simp only[aj.ev] at r;subst r;exact⟨.res,trivial,pM C _⟩
  ·rename_i f hf;simp only[aj.ev] at r;cases r
  ·simp at C
 have h1:=h.after x;obtain⟨L,l1,l2,l3,l4⟩:=aas r1;have D:∀cv w',(Cj #[t,u] ty #[a.eval J,a.eval S]).run P w=.ok cv w'->(execOp a.eval ⟨some d,.call ⟨.builtin .append,⟨[J,S]⟩,⟨[t,u]⟩⟩,ty,pos,M,gd⟩).run P w=.ok (.value cv) w':=by intro cv w' W;simp[execOp,resolve,invoke,builtin,W]
 have y:(x.after s).hp=s.hp:=kg x s
 have grow:∀(base:Option Addr)(cap:Nat),a.eval J=.slice base xs.length cap->cap<xs.length+ys.length->
   (Builtin.firstCells k.sz xs.length (.slice base xs.length cap)).run P w.drew=.ok L.toArray w.drew->
   (⟨some d,.call ⟨.builtin .append,⟨[J,S]⟩,⟨[t,u]⟩⟩,ty,pos,M,gd⟩:Oper).wp P a w next Q:=by
  intro base cap hb G br
  have W:=run_append_grow_src w t u ty e inf z ut i1 i4 base xs.length cap L (by rw[Z];exact br) (a.eval S) ys.length news (by rw[Z];exact O) G (by unfold nW at Y;omega)
   (growslice_fits G (by rw[i3];exact X))
  have a1:xs.length+ys.length<=grownCap w (xs.length+ys.length) cap e:=by unfold grownCap Question.cut;exact CX _ _
  have a5:grownCap w (xs.length+ys.length) cap e<=cR:=by have:=grownCap_le_maxLen w (xs.length+ys.length) cap e (by unfold maxLen;unfold nW at Y;omega);simpa [maxLen,cR] using this
  let c:Array Value:=(L++news).toArray++Builtin.zeroCells z.cells (grownCap w (xs.length+ys.length) cap e-(xs.length+ys.length));have cy:=O.newsLen;have bn:c.size=grownCap w (xs.length+ys.length) cap e*k.sz:=by
   simp only[c,Array.size_append,Cr,AG,l1,cy,size_zeroCells,i7];rw[<-AH,<-AH]
   congr 1
   omega
  have f:=iv w.drew (.cells c e);obtain⟨g',q1,q2⟩:=h1.newRow (w':=w.drew.alloc (.cells c e)) k (xs++ys) (grownCap w (xs.length+ys.length) cap e) d c e (0,0) f.1 f.2.1 f.2.2 rfl rfl rfl (o:=.own) (by simp) (by simpa using a1) a5 (by rw[bn];exact Aj _) (λhk=>by rw[b2];exact pN he hk) (by intro j h1 h2;omega) (by
   intro i x j v C a0;have hj:j<k.sz:=by
    have:=(Ad.1 a0).1
    rwa [ba] at this
   have H:∀(q:Nat) u,(L++news)[q]? =some u->c[q]? =some u:=by intro q u hq;have ci:=(Ad.1 hq).1;simp only[c];rw[BU (by simpa using ci)];simpa using hq
   rcases AE i xs.length with hi|hi;·rw[Ap hi] at C;obtain⟨u,e1,e2⟩:=l3 i x j v C a0;refine⟨u,H _ _ ?_,by rw[y];exact e2⟩;rw[Ap (Ad.1 e1).1];exact e1
   ·rw[An hi] at C;obtain⟨u,e1,e2⟩:=hv _ x j v C a0;refine⟨u,H _ _ ?_,by rw[y];exact e2⟩;have:i*k.sz=xs.length*k.sz+(i-xs.length)*k.sz:=by rw[<-AH];congr 1;omega
    rw[An (by rw[l1];omega),l1,<-e1]
    congr 1
    omega)
  have ar:(execOp a.eval ⟨some d,.call ⟨.builtin .append,⟨[J,S]⟩,⟨[t,u]⟩⟩,ty,pos,M,gd⟩).run P w=.ok (.value (.slice (some ⟨w.heap.size,0,none⟩) (xs++ys).length (grownCap w (xs.length+ys.length) cap e))) (w.drew.alloc (.cells c e)):=by refine D _ _ ?_;rw[hb,W];simp[c]
  refine dg rfl ar ⟨g',q1,?_⟩ hn;rw[y] at q2;show FR g s.hp w g' (x.after s).hp _;rw[y];exact q2
 rcases l4 with⟨rfl,ad,A,c2⟩|⟨b,E,cap,A,G,a5,R⟩
 ·by_cases h0:ys.length=0
  ·have c1:ys=[]:=A1 h0;subst c1;obtain rfl:ad=none:=c2 (by
    cases o with
    |own=>rfl
    |may u=>simp[Fl.app] at F)
   have W:(Cj #[t,u] ty #[a.eval J,a.eval S]).run P w=.ok (.slice none 0 0) w:=by
    have b6:news=[]:=by have:=O.newsLen;simpa using this
    have hc:=O.cells;rw[A];rcases O.kind with⟨e',hk⟩|hk<;>simp[Cj,run_underlying ut,run_underlying hk,sizeOf,typeInfo,i1,Z,O.len] at* <;>simp[hc]
   refine dg rfl (D _ _ W) ⟨g,?_,?_⟩ hn;·exact h1.set d (by simpa using VRel.sln (I:=g.I) (ρ:=g.ρ) (N:=(x.after s).hp.length) (w:=w) k .own) (by simp[ai])
   ·have:=FR.refl g s.hp w;simpa [St.set,y] using this
  ·exact grow ad 0 (by simpa using A) (by simp;omega) (by
    have hL:L=[]:=by simpa using l1
    subst hL;cases ad with
    |none=>simpa using run_firstCells_none (P:=P) w.drew k.sz 0 0 0
    |some ad=>simpa using run_firstCells_some (P:=P) w.drew k.sz 0 ad 0 0 [] (by simp) (by intro j v hj;simp at hj))
 ·by_cases B:xs.length+ys.length<=cap
  ·have al:o=.own:=by
    cases o with
    |own=>rfl
    |may u=>simp only[Fl.app,Ab,decide_eq_true_eq] at F;obtain⟨rfl,d3⟩:=F;rw[A] at r1;have:=r1.full;omega
   subst al;obtain⟨p,hp,ho⟩:=bl rfl;rw[A] at ho r1;obtain⟨o1,⟨c,e',fz,o2,o3⟩,o4⟩:=ho;simp only at o1 o2 o3 o4;have ds:E+xs.length*k.sz+news.length<=E+cap*k.sz:=by have:(xs.length+ys.length)*k.sz<=cap*k.sz:=AI _ B;rw[AH] at this;rw[O.newsLen];omega
   have W:=run_append_room_src w t u ty e inf ut i1 b E xs.length cap (a.eval S) ys.length news (by rw[Z];exact O) B (by
    intro j hj;rw[Z,aA o2,Am (by omega)];rfl) (by
    intro j hj;rw[Z];exact(o4 _ (by omega) (by omega)).2)
   rw[Z] at W;have q:=h1.inPlace hp k xs ys b E cap d news (by rw[y];exact r1) ⟨o1,⟨c,e',fz,o2,o3⟩,o4⟩ B O.newsLen (by rw[y];exact hv);rw[y] at q;refine dg rfl (D _ _ (by rw[A];exact W)) ?_ hn;obtain⟨g',q1,q2⟩:=q;exact⟨g',q1,by simpa [St.set,y] using q2⟩
  ·exact grow _ cap A (by omega) (run_firstCells_some w.drew k.sz xs.length ⟨b,E,none⟩ xs.length cap L (by simpa using l1) (by intro j v hj;rw[Bw];exact R j v hj))
theorem ajb{d:Nat}{k:EK}{x y:aj}(C:g.β=jz P)(p:pW P (.app d k x y) m=true)(c:step Γ (.app d k x y) s=some (true,s'))(h:SR g s w a)(hn:bI g s w a s' next):m.wp P a w next Q:=by
 obtain⟨dst,op,ty,pos,Y,gd⟩:=m;simp only[pW,Ab,beq_iff_eq] at p;obtain⟨rfl,p⟩:=p;split at p
 ·rename_i x' y' t u E;obtain rfl:=ke E;simp only[Ab] at p;obtain⟨h1,R,S,h4⟩:=p;obtain⟨e,u1,e1⟩:=cm h1;obtain⟨e',F,e2⟩:=cm R;simp only[step] at c;split at c
  ·rename_i k' ox l X o mm O N;split at c
   ·rename_i hk;subst hk;split at c
    ·rename_i z;simp only[Ae,Al,Ab,decide_eq_true_eq] at c;obtain⟨⟨r,A⟩,rfl⟩:=c;have B:=aB h4 h.er;rw[N] at B;have B:=afg z B;obtain⟨L,G,l2,M,J⟩:=aas B;refine aez C h S O (by rw[zJ];exact r) u1 e1 L (ys:=z▸mm) ?_ M (by rw[zJ];exact A) hn;rcases J with⟨i,H,q, -⟩|⟨b,W,cap,q,I,al,f⟩
     ·rw[q,i];have Z:L=[]:=by rw[i] at G;simpa using G
      rw[Z];cases H with
      |none=>exact _root_.Go.Src.ofNil w F 0
      |some H=>exact _root_.Go.Src.ofSlice w F _ _ _ _ (by simp) (by intro j v D;simp at D) (by simp)
     ·rw[q];exact _root_.Go.Src.ofSlice w F _ _ _ _ G (by intro j v D;rw[Bw];exact f j v D) l2
    ·simp at c
   ·simp at c
  ·simp at c
 ·simp at p
end
def agQ(e:TypeId)(o:Nat):Field:={(default:Field) with type:=e,offset:=o}
def ahF(n sz:Nat)(e:TypeId):Array Field:=⟨(A2 n).map λi=>agQ e (i*sz)⟩
def jE(P:Program)(o:IOp)(m:Oper):Bool:=
 match o with
 | .new d zero=>(m.dst==some d)&&(match m.op with| .alloc t=>aaq P t zero|_=>false)
 | .box d x=>(m.dst==some d)&&(match m.op with| .box t y=>ay x y&&zF x|_=>false)
 | .st d n x v=>(m.dst==d)&&(match m.op with| .store t b i=>(dM P t==some n)&&(ay x b&&ay v i)|_=>false)
 | .ld d n agg true x=>(m.dst==some d)&&(match m.op with| .load t b=>(dM P t==some n)&&((jD P t==some agg)&&((!agg&&n==1)&&ay x b))|_=>false)
 | .bld d zero c=>(m.dst==some d)&&(match m.op with| .build t h=>aaq P t zero&&(match P.underlying t with|some (.struct fs)=>rv P fs c h.toList&&fs.all (λf=>(P.info? f.type).isSome)|some (.array n e)=>(match dM P e with|some sz=>rv P (ahF n sz e) c h.toList|none=>false)|_=>false)|_=>false)
 |_=>false
section
variable{w w':World}{g g':Gh}{s s':St}{a:Act}{P:Program}{Γ:am}{m:Oper}{next:Act->World->Prop}{Q:Exit->Act->World->Prop}
theorem rx{t:TypeId}{zero:List V}(h:aaq P t zero=true):∃i z,P.info? t=some i∧i.zero=some z∧fH zero z.cells.toList=true:=by
 unfold aaq at h;split at h
 ·rename_i i b;split at h;·rename_i z c;exact⟨i,z,b,c,h⟩
  ·simp at h
 ·simp at h
theorem cH.own{c:V}{cv:Value}(h:cH c cv)(g:Gh)(w:World)(b:Occ):ai g w b c cv:=by
 unfold ai;split;·simp[cH] at h
 ·simp[cH] at h
 ·exact .inl ⟨A1 h.1,h.2⟩
 ·trivial
theorem ada{cs:List V}{b:Array Value}(h:fH cs b.toList=true){e:TypeId}:∀(j E n:Nat),cs[j]? =some (.bn E n)->E=e∧n=b.size∧b[j]? =some (.pointer none):=by intro j E n c;exfalso;have f:=(kM (I:=λ_ _=>False) (ρ:=λx=>x) (N:=0) (w:=default) h).1;have d:=(Ad.1 c).1;have:=kL h j _ (b.toList[j]'(by omega)) c (Ac (by omega));simp[cH] at this
theorem ahG{cs:List V}{b:Array Value}{e:TypeId}(k:cs.length=b.size)(f:∀(i:Nat) c cv,cs[i]? =some c->b[i]? =some cv->cH c cv):∀(j E n:Nat),cs[j]? =some (.bn E n)->E=e∧n=b.size∧b[j]? =some (.pointer none):=by intro j E n d;exfalso;have h:=(Ad.1 d).1;have:=f j _ (b[j]'(by omega)) d (Am (by omega));simp[cH] at this
theorem SR.newObj(h:SR g s w a)(cs:List V)(r:Array Value)(e:TypeId)(hl:cs.length=r.size)(h1:∀c∈cs,c.one=true)
  (hv:∀(i:Nat) c cv,cs[i]? =some c->r[i]? =some cv->VRel g.I g.ρ s.hp.length w c cv) (y:∀(i:Nat) c cv,cs[i]? =some c->r[i]? =some cv->qt c=true->cH c cv)
  (D:∀(j E n:Nat),cs[j]? =some (.bn E n)->E=e∧n=r.size∧r[j]? =some (.pointer none)) (d:Nat):
  ∃g',SR g' {s.set d (.ptr s.hp.length 0) with hp:=s.hp++[some cs]} (w.alloc (.cells r e)) (a.put (some d) (.pointer (some ⟨w.heap.size,0,none⟩)))∧
   FR g s.hp w g' (s.hp++[some cs]) (w.alloc (.cells r e)):=by
 obtain⟨Y,L,f3⟩:=iv w (.cells r e);let w':=w.alloc (.cells r e);let g':Gh:={g with ρ:=λid=>if id=s.hp.length then w.heap.size else g.ρ id}
 have A:∀b j,g.I b j->b<w.heap.size:=by intro b j p;exact(h.hr.exI b j p).lt
 have H:∀b j,b<w.heap.size->w'.cell? ⟨b,j,none⟩=w.cell? ⟨b,j,none⟩:=by intro b j y;simp only[w',Bn,L b y]
 have u:Up g.I g.ρ s.hp.length w g'.I g'.ρ (s.hp++[some cs]).length w':=
  ⟨λb j p=>p,λb j p=>H b j (A b j p),λid hid=>by simp[g',Ba hid],by simp⟩
 have C:∀(id:Nat) cs,s.hp[id]? =some (some cs)->g.ρ id<w.heap.size:=by intro id cs hid;exact(h.hr.obj id cs hid).lt
 have t:∀B v cv,ai g w B v cv->ai g' w' B v cv:=by intro B v cv ho;refine bd ho rfl (λb j p=>⟨u.mono b j p,u.cell b j p⟩) ?_;intro b y;exact⟨y,L b (h.hr.oLt b B y),λj M=>M⟩
 have split:∀(id:Nat) o,(s.hp++[some cs])[id]? =some (some o)->(id<s.hp.length∧s.hp[id]? =some (some o))∨(id=s.hp.length∧o=cs):=by
  intro id o hid;rcases AE id s.hp.length with p|p;·rw[Ap p] at hid;exact .inl ⟨p,hid⟩
  ·rw[An p] at hid;have W:id-s.hp.length=0:=by
    rcases CN (id-s.hp.length) with W|W;·exact W
    ·rw[AU (by simp;omega)] at hid;simp at hid
   rw[W] at hid;simp at hid;exact .inr ⟨by omega,hid.symm⟩
 have k:g'.ρ s.hp.length=w.heap.size:=by simp[g']
 have f:∀id,id<s.hp.length->g'.ρ id=g.ρ id:=λid hid=>by simp[g',Ba hid]
 have hs:SR g' {s with hp:=s.hp++[some cs]} w' a:=by
  refine⟨⟨?_,?_,?_,?_,?_,?_⟩,⟨h.er.size,?_,?_⟩⟩
  ·intro id o hid;rcases split id o hid with⟨p,hid⟩|⟨rfl,rfl⟩
   ·refine(h.hr.obj id o hid).keep ?_ λar e' fz Z x=>⟨x.len,x.plain,x.typedUp rfl u.rho u.num rfl,x.cold,x.one,λj c cv F q=>(x.rel j c cv F q).up u,λj c cv F q=>t _ _ _ (x.own j c cv F q),by rw[f id p];exact x.bn⟩
    rw[f id p];exact L _ (C id o hid)
   ·refine fa.ofRow0 ?_ ⟨hl,h1,λj c cv F q=>(hv j c cv F q).up u,λj c cv F q=>?_,λj E n M=>⟨(D j E n M).1,(D j E n M).2.1,.inl (D j E n M).2.2⟩⟩;·rw[k];exact f3
    ·cases R:qt c with
     |true=>exact(y j c cv F q R).own _ _ _
     |false=>cases c<;>simp[qt] at R;simp[ai]
  ·intro id G o o' Z x S;rcases split id o Z with⟨p,m1⟩|⟨e1, -⟩<;>rcases split G o' x with⟨N,m2⟩|⟨e2, -⟩
   ·rw[f _ p,f _ N];exact h.hr.apart id G o o' m1 m2 S
   ·rw[f _ p,e2,k];exact Ba (C id o m1)
   ·rw[f _ N,e1,k];exact(Ba (C G o' m2)).symm
   ·exact absurd (e1.trans e2.symm) S
  ·intro id o hid j p;rcases split id o hid with⟨z,hid⟩|⟨rfl,rfl⟩
   ·rw[f _ z] at p;exact h.hr.notI id o hid j p
   ·rw[k] at p;have:=A _ _ p;omega
  ·intro id o hid;rcases split id o hid with⟨z,hid⟩|⟨rfl,rfl⟩
   ·rw[f _ z];exact h.hr.notO id o hid
   ·rw[k];cases X:g.O w.heap.size with
    |none=>rfl
    |some oc=>have:=h.hr.oLt _ _ X;omega
  ·intro b j p;exact(h.hr.exI b j p).blk (by first|exact hold b (A b j p)|exact L b (A b j p))
  ·intro b oc y;have:=h.hr.oLt b oc y;show b<w'.heap.size;rw[Y];omega
  ·intro n v cv J q;exact(h.er.rel n v cv J q).up u
  ·intro n v cv J q;exact t _ _ _ (h.er.own n v cv J q)
 refine⟨g',?_,rfl,rfl,rfl,rfl,by rw[Y];omega,λb y _ _=>L b y,u,λb j _ _ _ p=>p,λb _ _ X=>X,?_⟩
 ·have:=hs.set d (v:=.ptr s.hp.length 0) (cv:=.pointer (some ⟨w.heap.size,0,none⟩)) (by
   rw[<-k];exact .ptr _ _ (by simp)) (by simp[ai])
  exact this
 ·intro id o hid;rcases split id o hid with⟨z,hid⟩|⟨rfl,rfl⟩
  ·exact .inl ⟨o,hid⟩
  ·exact .inr ⟨Aj _,.inl (by rw[k];exact Aj _)⟩
theorem ajc{d:Nat}{zero:List V}(b:jE P (.new d zero) m=true)(u:step Γ (.new d zero) s=some (true,s'))(h:SR g s w a)(o:bI g s w a s' next):m.wp P a w next Q:=by
 obtain⟨dst,x,ty,pos,v,y⟩:=m;simp only[jE,Ab,beq_iff_eq] at b;obtain⟨rfl,b⟩:=b;split at b
 ·rename_i t;obtain⟨i,z,p,r,e⟩:=rx b;obtain rfl:_=s':=by simpa [step] using u
  obtain⟨q,j,k⟩:=kM (I:=g.I) (ρ:=g.ρ) (N:=s.hp.length) (w:=w) e;refine dg rfl (w':=w.alloc (.cells z.cells t)) (cv:=.pointer (some ⟨w.heap.size,0,none⟩)) ?_ (h.newObj zero z.cells t (by simpa using q) j (λi c cv b f=>k i c cv b (by simpa using f)) (λi c cv b f _=>kL e i c cv b (by simpa using f)) (ada e) d) o;simp[execOp,Instr.alloc,zeroValue,typeInfo,p,r,newVar,newRow]
 ·simp at b
def afh(P:Program)(o:IOp)(m:Oper):Bool:=
 match o with
 |_=>false
theorem pX{I:Nat->Nat->Prop}{ρ:Nat->Nat}{N:Nat}{v:V}{cv:Value}(h:VRel I ρ N w v cv)(b:v.cells.all V.one=true):
  v.cells.length=cv.cells.size∧(∀c∈v.cells,c.one=true)∧∀(j:Nat) c u,v.cells[j]? =some c->cv.cells[j]? =some u->VRel I ρ N w c u:=by
 have e:∀c∈v.cells,c.one=true:=λc q=>Ai.1 b c q
 have k:=h;cases h with
 |agg cs us i _ r p=>exact⟨by simpa [V.cells,B1] using i,e,by simpa [V.cells,B1] using p⟩
 |undef=>simp[V.cells,V.one] at b
 |tup=>simp[V.cells,V.one] at b
 |junk cv o=>
  have d:cv.cells= #[cv]:=by cases cv<;>simp[Df] at o<;>rfl
  refine⟨by simp[V.cells,d],e,?_⟩;intro j c u b f;rw[d] at f;cases j with
  |zero=>simp[V.cells] at b f;subst b f;exact k
  |succ j=>simp[V.cells] at b
 |_=>
  refine⟨by simp[V.cells,B1],e,?_⟩;intro j c u b f;cases j with
  |zero=>simp[V.cells,B1] at b f;subst b f;exact k
  |succ j=>simp[V.cells] at b
theorem ajd{d:Nat}{x:aj}(b:jE P (.box d x) m=true)(p:step Γ (.box d x) s=some (true,s'))(h:SR g s w a)(D:bI g s w a s' next):m.wp P a w next Q:=by
 obtain⟨dst,M,ty,pos,z,F⟩:=m;simp only[jE,Ab,beq_iff_eq] at b;obtain⟨rfl,b⟩:=b;split at b
 ·rename_i t y;simp only[Ab] at b;obtain⟨I,L⟩:=b;have q:=aB I h.er;have f:(execOp a.eval ⟨some d,.box t y,ty,pos,z,F⟩).run P w=.ok (.value (.pointer (some ⟨w.heap.size,0,none⟩))) (w.alloc (.cells (a.eval y).cells t)):=by
   simp[execOp,Instr.box,newVar,newRow]
  simp only[step] at p;split at p
  ·rename_i cs A;obtain rfl:_=s':=by simpa using p
   rw[A] at q;generalize a.eval y=cv at q f;cases q with
   |agg _ vs C J B H=>exact dg rfl f (h.newObj cs vs t C J H (λi c cv b e _=>B i c cv b e) (ahG C B) d) D
  ·rename_i v A G;split at p
   ·rename_i k;obtain rfl:_=s':=by simpa using p
    have o:(a.eval y).cells= #[a.eval y]:=by have:=q.oneCell k;cases u:a.eval y<;>rw[u] at this<;>simp[Df] at this<;>rfl
    rw[o] at f;refine dg rfl f (h.newObj [disown (x.ev s)] #[a.eval y] t rfl (by simpa [iW] using k) ?_ ?_ ?_ d) D
    ·intro i c cv b e;cases i with
     |zero=>simp at b e;subst b e;exact q.disown
     |succ i=>simp at b
    ·intro i c cv b e;cases i with
     |zero=>intro _;simp at b e;subst b e;exact tX _ _
     |succ i=>simp at b
    ·intro j E n r;cases j with
     |zero=>simp at r;cases u:x.ev s<;>rw[u] at r<;>simp[disown] at r
     |succ j=>simp at r
   ·simp at p
 ·simp at b
theorem ahH{x:aj}{y:Operand}{q:Occ}(b:ay x y=true)(h:SR g s w a):
  ∃g₁,SR g₁ (x.after s) w a∧FR g s.hp w g₁ s.hp w∧g₁.I=g.I∧g₁.ρ=g.ρ∧ai g₁ w q (x.ev s) (a.eval y):=by
 cases x with
 |t n=>exact⟨g,h,FR.refl _ _ _,rfl,rfl,ai.disown _ _ _ _ _⟩
 |c v=>
  refine⟨g,h,FR.refl _ _ _,rfl,rfl,?_⟩;unfold ay at b;split at b;·rename_i e;cases e
  ·rename_i e;cases e
  ·rename_i e;cases e;exact pM b _
  ·rename_i e;cases e;simp[aj.ev,ai]
  ·simp at b
 |tk n=>
  have d:y=.tmp n:=by
   unfold ay at b;split at b;·rename_i e;cases e
   ·rename_i k e;cases e;rw[show k=n by simpa using (beq_iff_eq.1 b).symm]
   ·rename_i e;cases e
   ·rename_i e;cases e
   ·simp at b
  subst d;have i:=h.er.getOwn n;obtain⟨g₁,f,o,p,r,j⟩:=zI (q:=q) (h.after (.tk n)) (pO n s) i;exact⟨g₁,f,by simpa [kg] using o,p,r,j⟩
theorem SR.putCells(h:SR g s w a){id o:Nat}{cs news:List V}{us:List Value}(ho:s.obj id=some cs)(Z:news.length=us.length)(h1:∀c∈news,c.one=true)
  (dk:o+news.length<=cs.length) (hv:∀(i:Nat) c cv,news[i]? =some c->us[i]? =some cv->VRel g.I g.ρ s.hp.length w c cv)
  (R:∀(i:Nat) c cv,news[i]? =some c->us[i]? =some cv->ai g w (.cell id (o+i)) c cv) (a2:∀(i E n:Nat),news[i]? =some (.bn E n)->cs[o+i]? =some (.bn E n)∧(us[i]? =some (.pointer none)∨us[i]? =some (.pointer (some ⟨g.ρ id,o+i,none⟩)))):
  SR g (s.setObj id (cs.take o++news++cs.drop (o+news.length))) (w.setCells (g.ρ id) o us) a∧
   FR g s.hp w g (s.hp.set id (some (cs.take o++news++cs.drop (o+news.length)))) (w.setCells (g.ρ id) o us):=by
 obtain⟨hid,bs⟩:=fI ho;obtain⟨M,e,Y,x⟩:=nx h.hr ho;obtain⟨⟨N,q1,q2⟩,X,q4,q5,q6,q7⟩:=eU (g.ρ id) us o w M e (0,0) Y;let w':=w.setCells (g.ρ id) o us;let r:=cs.take o++news++cs.drop (o+news.length);have S:=x.len;have a1:∀b j,g.I b j->b≠g.ρ id:=by rintro b j C rfl;exact h.hr.notI id cs hid j C
 have D:∀b j,g.I b j->w'.cell? ⟨b,j,none⟩=w.cell? ⟨b,j,none⟩:=by intro b j C;exact AX _ us o w _ (λe=>absurd e (a1 b j C))
 have u:Up g.I g.ρ s.hp.length w g.I g.ρ s.hp.length w':=⟨λ_ _ h=>h,D,λ_ _=>rfl,Aj _⟩
 have q:∀J v cv,ai g w J v cv->ai g w' J v cv:=by intro J v cv a3;refine bd a3 rfl (λb j C=>⟨u.mono b j C,u.cell b j C⟩) ?_;intro b B;refine⟨B,X b ?_,λj t=>t⟩;rintro rfl;rw[h.hr.notO id cs hid] at B;simp at B
 have y:∀j,N[j]? =if o<=j∧j<o+us.length then us[j-o]? else M[j]?:=by
  intro j;rw[<-aA q1 j];split;·rename_i t;have:=Bt (g.ρ id) us o w (λj' b1=>by rw[aA Y,Am (by omega)];rfl) (j-o) (by omega);rw[show o+(j-o)=j by omega] at this;rw[this,Ac]
  ·rename_i t;rw[AX _ us o w _ (λ_ _=>by simp only;omega),aA Y]
 have G:∀j,r[j]? =if o<=j∧j<o+news.length then news[j-o]? else cs[j]?:=by
  intro j;have ht:(cs.take o).length=o:=by simp;omega
  simp only[r];split;·rename_i t;rw[BN,An (by omega),ht,Ap (by omega)]
  ·rename_i t;rcases AE j o with h'|h';·rw[BN,Ap (by omega),AJ,if_pos h']
   ·rw[An (by simp;omega),A0]
    congr 1
    simp;omega
 have a5:r.length=cs.length:=by simp[r];omega
 have O:∀c∈r,c.one=true:=by
  intro c k;simp only[r,Ay] at k;rcases k with(k|k)|k;·exact x.one c (A7 k)
  ·exact h1 c k
  ·exact x.one c (Bu k)
 have al:id<s.hp.length:=(Ad.1 hid).1;have split:∀(f:Nat) o',(s.hp.set id (some r))[f]? =some (some o')->(f=id∧o'=r)∨(f≠id∧s.hp[f]? =some (some o')):=by
  intro f o' p;rw[Aw] at p;split at p;·rename_i e;simp[al] at p;exact .inl ⟨e.symm,p.symm⟩
  ·rename_i e;exact .inr ⟨λe'=>e e'.symm,p⟩
 have F:∀(f:Nat) o',(s.hp.set id (some r))[f]? =some (some o')->∃H,s.hp[f]? =some (some H):=by
  intro f o' p;rcases split f o' p with⟨rfl,_⟩|⟨_,p⟩
  ·exact⟨cs,hid⟩
  ·exact⟨_,p⟩
 refine⟨⟨⟨?_,?_,?_,?_,?_,?_⟩,⟨h.er.size,?_,?_⟩⟩,⟨rfl,q5,q6,q7,by rw[q4];exact Aj _,?_,?_,λ_ _ _ _ _ C=>C,λ_ _ _ hO=>hO,?_⟩⟩
 ·intro f o' p;simp only[St.setObj,AB];rcases split f o' p with⟨rfl,rfl⟩|⟨L,p⟩
  ·refine fa.ofRow0 q1 ⟨by rw[a5,q2,S],O,?_,?_,?_⟩
   ·intro j c cv k d;rw[G] at k;rw[y] at d;rw[<-Z] at d;split at k;·rename_i t;rw[if_pos t] at d;exact(hv _ c cv k d).up u
    ·rename_i t;rw[if_neg t] at d;exact(x.rel j c cv k d).up u
   ·intro j c cv k d;rw[G] at k;rw[y] at d;rw[<-Z] at d;split at k;·rename_i t;rw[if_pos t] at d;have:=R _ c cv k d;rw[show o+(j-o)=j by omega] at this;exact q _ _ _ this
    ·rename_i t;rw[if_neg t] at d;exact q _ _ _ (x.own j c cv k d)
   ·intro j E n k;rw[G] at k;split at k;·rename_i t;obtain⟨m1,m2⟩:=a2 _ E n k;rw[show o+(j-o)=j by omega] at m1 m2;obtain⟨m3,m4, -⟩:=x.bn j E n m1;refine⟨m3,by rw[q2];exact m4,?_⟩;rw[y,<-Z,if_pos t];exact m2
    ·rename_i t;rw[y,<-Z,if_neg t,q2];exact x.bn j E n k
  ·refine(h.hr.obj f o' p).keep ?_ λbl e2 fz z A=>⟨A.len,A.plain,A.typedUp rfl u.rho u.num rfl,A.cold,A.one,λj c cv k d=>(A.rel j c cv k d).up u,λj c cv k d=>q _ _ _ (A.own j c cv k d),A.bn⟩
   rw[X _ (h.hr.apart f id o' cs p hid L)]
 ·intro id1 a4 W c2 z A L;obtain⟨_,z⟩:=F id1 W z;obtain⟨_,A⟩:=F a4 c2 A;exact h.hr.apart _ _ _ _ z A L
 ·intro id1 W z;obtain⟨_,z⟩:=F id1 W z;exact h.hr.notI _ _ z
 ·intro id1 W z;obtain⟨_,z⟩:=F id1 W z;exact h.hr.notO _ _ z
 ·intro b j C;exact(h.hr.exI b j C).set (D b j C) Y q1 X
 ·intro b oc B;rw[q4];exact h.hr.oLt b oc B
 ·intro n v cv p d;simp only[St.setObj,AB];exact(h.er.rel n v cv p d).up u
 ·intro n v cv p d;exact q _ _ _ (h.er.own n v cv p d)
 ·intro b _ a0 _;exact X b (λe=>a0 id cs hid e.symm)
 ·simp only[AB];exact u
 ·intro f o' p;obtain⟨H,p⟩:=F f o' p;exact .inl ⟨H,p⟩
theorem SR.bareCell(h:SR g s w a){id o:Nat}{cs:List V}(F:s.obj id=some cs):
  SR g (s.setObj id (cs.set o (disown (cs.getD o .undef)))) w a∧FR g s.hp w g (s.hp.set id (some (cs.set o (disown (cs.getD o .undef))))) w:=by
 obtain⟨hid,G⟩:=fI F;have C:id<s.hp.length:=(Ad.1 hid).1;let q:=cs.set o (disown (cs.getD o .undef));have split:∀(b:Nat) o',(s.hp.set id (some q))[b]? =some (some o')->(b=id∧o'=q)∨(b≠id∧s.hp[b]? =some (some o')):=by
  intro b o' i;rw[Aw] at i;split at i;·rename_i e;simp[C] at i;exact .inl ⟨e.symm,i.symm⟩
  ·rename_i e;exact .inr ⟨λO=>e O.symm,i⟩
 have x:∀(b:Nat) o',(s.hp.set id (some q))[b]? =some (some o')->∃y,s.hp[b]? =some (some y):=by
  intro b o' i;rcases split b o' i with⟨rfl,_⟩|⟨_,i⟩
  ·exact⟨cs,hid⟩
  ·exact⟨_,i⟩
 have p:∀(j:Nat) c,q[j]? =some c->∃r,cs[j]? =some r∧(c=r∨c=disown r):=by
  intro j c k;simp only[q,Aw] at k;split at k
  ·rename_i e;subst e;split at k;·rename_i z;refine⟨cs[o],Ac z,.inr ?_⟩;simp only[Ae] at k;rw[<-k];simp[Aq,Ac z]
   ·simp at k
  ·exact⟨c,k,.inl rfl⟩
 refine⟨⟨⟨?_,?_,?_,?_,h.hr.exI,h.hr.oLt⟩,⟨h.er.size,?_,h.er.own⟩⟩,⟨rfl,rfl,rfl,rfl,Aj _,λ_ _ _ _=>rfl,?_,λ_ _ _ _ _ J=>J,λ_ _ _ L=>L,?_⟩⟩
 ·intro b o' i;simp only[St.setObj,AB];rcases split b o' i with⟨rfl,rfl⟩|⟨B,i⟩
  ·obtain⟨M,e,N,t⟩:=nx h.hr F;refine fa.ofRow0 N ⟨by simp[q,t.len],?_,?_,?_,?_⟩
   ·intro c k;obtain⟨j,H,rfl⟩:=AP.1 k;obtain⟨r,f,d⟩:=p j _ (Ac H);have:=t.one r (Af f);rcases d with d|d<;>rw[d];·exact this
    ·rw[iW];exact this
   ·intro j c cv k u;obtain⟨r,f,d⟩:=p j _ k;have:=t.rel j r cv f u;rcases d with d|d<;>rw[d];·exact this
    ·exact this.disown
   ·intro j c cv k u;obtain⟨r,f,d⟩:=p j _ k;have:=t.own j r cv f u;rcases d with d|d<;>rw[d];·exact this
    ·exact ai.disown _ _ _ _ _
   ·intro j E n k;obtain⟨r,f,d⟩:=p j _ k;rcases d with d|d;·exact t.bn j E n (by rw[d];exact f)
    ·cases r<;>simp[disown] at d
  ·exact h.hr.obj b o' i
 ·intro id1 D A I f d B;obtain⟨_,f⟩:=x id1 A f;obtain⟨_,d⟩:=x D I d;exact h.hr.apart _ _ _ _ f d B
 ·intro id1 A f;obtain⟨_,f⟩:=x id1 A f;exact h.hr.notI _ _ f
 ·intro id1 A f;obtain⟨_,f⟩:=x id1 A f;exact h.hr.notO _ _ f
 ·intro n v cv i u;simp only[St.setObj,AB];exact h.er.rel n v cv i u
 ·simp only[AB];exact Up.refl _ _ _ _
 ·intro b o' i;obtain⟨y,i⟩:=x b o' i;exact .inl ⟨y,i⟩
theorem agR{d n:Nat}{agg:Bool}{x:aj}(r:jE P (.ld d n agg true x) m=true)(f:step Γ (.ld d n agg true x) s=some (true,s'))(h:SR g s w a)(X:bI g s w a s' next):m.wp P a w next Q:=by
 obtain⟨dst,op,ty,pos,L,gd⟩:=m;simp only[jE,Ab,beq_iff_eq] at r;obtain⟨rfl,r⟩:=r;split at r
 ·rename_i t O;simp only[Ab,beq_iff_eq,Bk] at r;obtain⟨S,N,⟨rfl,rfl⟩,R⟩:=r;have G:=aB R h.er;simp only[step] at f;split at f
  ·rename_i cs J;have y:aM P (.ld d 1 false false x) ⟨some d,.load t O,ty,pos,L,gd⟩=true:=by
    simp[aM,S,N,R]
   refine afO (Γ:=Γ) y ?_ h X;simp only[step,J];exact f
  ·rename_i id o J;split at f
   ·rename_i cs I;split at f
    ·rename_i a4;simp only[if_true] at f;cases D:qt (cs.getD o .undef) with
     |false=>rw[D] at f;simp at f
     |true=>
     rw[D] at f;simp only[if_true] at f;obtain rfl:_=s':=by simpa using f
     rw[J] at G;generalize M:a.eval O=cv at G;cases G with
     |ptr _ _ hid=>
      obtain⟨i,e,hb,k⟩:=nx h.hr I;have W:=k.len;have A:o<cs.length:=by omega
      have F:o<i.size:=by omega
      have B:=lz (P:=P) (w:=w) (b:=g.ρ id) (o:=o) (vs:=[i[o]]) S N (.inr rfl) rfl (λj v H=>by
       cases j with
       |zero=>simp at H;subst H;rw[aA hb];simp[F]
       |succ j=>simp at H)
      have C:cs[o]? =some cs[o]:=Ac A;have E:i[o]? =some i[o]:=Am F;obtain⟨b1,Y⟩:=h.bareCell (o:=o) I;obtain⟨g₁,t1,Z,t3,t4,t5⟩:=zI (q:=.slot d) b1 (p:=.cell id o) (by intro a3 v c z;simp only[St.setObj] at c;rw[BE (Ad.1 (fI I).1).1] at c;simp only[Ae] at c;subst c;rw[BE A] at z;simp only[Ae] at z;subst z;exact cA _) (k.own o _ _ C E);have u:(C7 t (.pointer (some ⟨g.ρ id,o,none⟩))).run P w=.ok i[o] w:=B;refine dg rfl (cv:=i[o]) (w':=w) (by simp[execOp,M,u]) ⟨g₁,?_,?_⟩ X
      ·have hl:cG false ((cs.drop o).take 1)=cs[o]:=by
        rw[BZ A];rfl
       rw[hl];refine t1.set d ?_ t5;rw[t3,t4];simpa [St.setObj] using k.rel o _ _ C E
      ·exact Y.trans (by simpa [St.set,St.setObj] using Z)
    ·simp at f
   ·simp at f
  ·simp at f
 ·simp at r
theorem ajG{d:Option Nat}{n:Nat}{x v:aj}(b:jE P (.st d n x v) m=true)(A:step Γ (.st d n x v) s=some (true,s'))(h:SR g s w a)(hn:bI g s w a s' next):m.wp P a w next Q:=by
 obtain⟨dst,op,ty,pos,ar,gd⟩:=m;simp only[jE,Ab,beq_iff_eq] at b;obtain⟨rfl,b⟩:=b;split at b
 ·rename_i t x' y;simp only[Ab,beq_iff_eq] at b;obtain⟨h1,h2,h3⟩:=b;have S:=aB h2 h.er;have H:=aB h3 h.er;simp only[step] at A;split at A
  ·rename_i id o hx;split at A
   ·rename_i cs ho;split at A
    ·rename_i p;simp only[Ab,beq_iff_eq,decide_eq_true_eq] at p;obtain⟨⟨G,F⟩,ci,a0⟩:=p;obtain rfl:_=s':=by simpa using A
     rw[hx] at S;generalize Y:a.eval x'=cx at S;cases S with
     |ptr _ _ hid=>
      obtain⟨b6,e,hb,X⟩:=nx h.hr ho;have bx:=X.len;obtain⟨c1,Z,c3⟩:=pX H F;have O:(a.eval y).cells.size=n:=by rw[<-c1];exact G
      have C:(execOp a.eval ⟨dst,.store t x' y,ty,pos,ar,gd⟩).run P w=.ok .skip (w.setCells (g.ρ id) o (a.eval y).cells.toList):=by
       have:=run_storeCells_cells (P:=P) (g.ρ id) o (a.eval y).cells.toList 0 w
        (λj L=>by rw[aA hb,Am (by simp at L;omega)];rfl)
        (λj L=>by simp[Bq,hb])
        (λu hu=>by
         obtain⟨j,L,rfl⟩:=AP.1 hu;have D:j<(v.ev s).cells.length:=by rw[c1];simpa using L
         exact(c3 j _ _ (Ac D) (by simp)).oneCell (Z _ (AO D)))
       simp[execOp,Y,Dm,BH,storeVar,j9 h1,O,this]
      have key:∃g₁,SR g₁ (v.after s) w a∧FR g s.hp w g₁ s.hp w∧g₁.I=g.I∧g₁.ρ=g.ρ∧
        ∀(i:Nat) c cv,(v.ev s).cells[i]? =some c->(a.eval y).cells.toList[i]? =some cv->ai g₁ w (.cell id (o+i)) c cv:=by
       by_cases k:∃cs,v.ev s=.agg cs
       ·obtain⟨b5,k⟩:=k;refine⟨g,h.after v,FR.refl _ _ _,rfl,rfl,?_⟩;rw[k] at H;generalize a.eval y=b1 at H;cases H with
        |agg _ c0 _ _ a5 _=>intro i c cv b f;rw[k] at b;exact(a5 i c cv (by simpa [V.cells] using b) (by simpa [B1] using f)).own _ _ _
       ·have r:(v.ev s).cells=[v.ev s]:=by
         cases hh:v.ev s<;>first|rfl|(rw[hh] at k;exact absurd ⟨_,rfl⟩ k)
        obtain⟨g₁,W,M,k3,N,k5⟩:=ahH (q:=.cell id o) h3 h;refine⟨g₁,W,M,k3,N,?_⟩;have B:(v.ev s).one=true:=Z _ (by rw[r];exact Az.2 rfl);have z:(a.eval y).cells= #[a.eval y]:=by have:=H.oneCell B;cases hh:a.eval y<;>rw[hh] at this<;>simp[Df] at this<;>rfl
        intro i c cv b f;rw[r] at b;rw[z] at f;cases i with
        |zero=>simp at b f;subst b f;exact k5
        |succ i=>simp at b
      obtain⟨g₁,W,M,k3,N,k5⟩:=key;have a3:(v.after s).obj id=some cs:=by unfold St.obj;rw[kg];exact ho
      have J:g₁.ρ id=g.ρ id:=by rw[N]
      obtain⟨p1,R⟩:=W.putCells (o:=o) (news:=(v.ev s).cells) (us:=(a.eval y).cells.toList) a3 (by simpa using c1) Z (by omega)
       (λi c cv b f=>by rw[k3,N,kg];exact c3 i c cv b (by simpa using f)) k5 (λi E n hi=>absurd (Ai.1 a0 _ (Af hi)) (by simp[qt]))
      rw[J,G,BN] at p1 R;unfold Cw CZ;rw[C];cases dst with
      |none=>refine hn _ _ g₁ p1 ?_ rfl;refine M.trans ?_;simpa [St.setObj,St.setO,kg] using R
      |some d=>refine hn _ _ g₁ (p1.set d (.undef _) (by simp[ai])) ?_ rfl;refine M.trans ?_;simpa [St.setObj,St.setO,St.set,kg] using R
    ·simp at A
   ·simp at A
  ·simp at A
 ·simp at b
theorem uc{α:Type}(l news:List α)(o:Nat)(d:o+news.length<=l.length)(j:Nat):
  (l.take o++news++l.drop (o+news.length))[j]? =if o<=j∧j<o+news.length then news[j-o]? else l[j]?:=by
 have e:(l.take o).length=o:=by simp;omega
 split;·rename_i c;rw[BN,An (by omega),e,Ap (by omega)]
 ·rename_i c;rcases AE j o with b|b;·rw[BN,Ap (by omega),AJ,if_pos b]
  ·rw[An (by simp;omega),A0]
   congr 1
   simp;omega
structure Row(I:Nat->Nat->Prop)(ρ:Nat->Nat)(N:Nat)(w:World)(cs:List V)(us:List Value):Prop where
 len:cs.length=us.length
 one:∀c∈cs,c.one=true
 rel:∀(i:Nat) c cv,cs[i]? =some c->us[i]? =some cv->VRel I ρ N w c cv
 nil:∀(i:Nat) c cv,cs[i]? =some c->us[i]? =some cv->cH c cv
theorem Row.over{I:Nat->Nat->Prop}{ρ:Nat->Nat}{N:Nat}{cs news:List V}{us vs:List Value}(h:Row I ρ N w cs us)(k:Row I ρ N w news vs)(o:Nat)(f:o+news.length<=cs.length):
  Row I ρ N w (cs.take o++news++cs.drop (o+news.length)) (us.take o++vs++us.drop (o+vs.length)):=by
 have r:=h.len;have j:=k.len;have p:=uc cs news o f;have q:=uc us vs o (by omega);refine⟨by simp;omega,?_,?_,?_⟩
 ·intro c d;simp only[Ay] at d;rcases d with(d|d)|d;·exact h.one c (A7 d)
  ·exact k.one c d
  ·exact h.one c (Bu d)
 ·intro i c cv d b;rw[p] at d;rw[q,<-j] at b;split at d;·rename_i e;rw[if_pos e] at b;exact k.rel _ _ _ d b
  ·rename_i e;rw[if_neg e] at b;exact h.rel _ _ _ d b
 ·intro i c cv d b;rw[p] at d;rw[q,<-j] at b;split at d;·rename_i e;rw[if_pos e] at b;exact k.nil _ _ _ d b
  ·rename_i e;rw[if_neg e] at b;exact h.nil _ _ _ d b
theorem agS(fs:List Field)(h:fs.all (λf=>(P.info? f.type).isSome)=true):
  ∃places,fs.mapM (λf=>(P.info? f.type).map λi=>(f.offset,i.size))=some places∧∀(i:Nat) f n,fs[i]? =some f->dM P f.type=some n->places[i]? =some (f.offset,n):=by
 induction fs with
 |nil=>exact⟨[],rfl,by simp⟩
 |cons f fs k=>
  simp only[CB,Ab] at h;obtain⟨places,e,o⟩:=k h.2;obtain⟨i,d⟩:=BK.1 h.1;refine⟨(f.offset,i.size)::places,by simp[List.mapM_cons,d,e],?_⟩;intro j p n b c;cases j with
  |zero=>simp at b;subst b;simp[dM,d] at c;simp[c]
  |succ j=>exact o j p n (by simpa using b) c
theorem zK(h:SR g s w a){fs:Array Field}{places:Nat->Option (Nat×Nat)}(hp:∀(i:Nat) f n,fs[i]? =some f->dM P f.type=some n->places i=some (f.offset,n)):
  ∀(F:List (Nat×Nat×aj))(G:List (Nat×Operand))(cs o:List V)(b:Array Value),rv P fs F G=true->Row g.I g.ρ s.hp.length w cs b.toList->
   lay cs (F.map λ(B,n,x)=>(B,n,x.ev s))=some o->∃e,Ch places b (G.map λ(i,y)=>(i,a.eval y))=some e∧Row g.I g.ρ s.hp.length w o e.toList
 | [],[],cs,o,b,_,E,u=>by simp[lay] at u;subst u;exact⟨b,by simp[Ch],E⟩
 |(B,n,x)::F,(i,y)::G,cs,o,b,v,E,u=>by
  simp only[rv,Ab] at v;obtain⟨q,M,J⟩:=v;split at q
  ·rename_i f W;simp only[Ab,beq_iff_eq] at q;obtain⟨rfl,hn⟩:=q;simp only[Bf,lay] at u;split at u
   ·rename_i k;simp only[Ab,beq_iff_eq,decide_eq_true_eq] at k;obtain⟨⟨t,C⟩,Y⟩:=k;obtain⟨O,S,Z⟩:=pX (aB M h.er) C;have A:Row g.I g.ρ s.hp.length w ((x.ev s).cells.map disown) (a.eval y).cells.toList:=by
     refine⟨by simp[O],?_,?_,?_⟩;·intro c r;obtain⟨H,p,rfl⟩:=AA.1 r;rw[iW];exact S H p
     ·intro j c cv r L;rw[Au,Ak] at r;obtain⟨H,p,rfl⟩:=r;exact(Z j _ _ p (by simpa using L)).disown
     ·intro j c cv r _;rw[Au,Ak] at r;obtain⟨H,p,rfl⟩:=r;exact tX _ _
    have z:(a.eval y).cells.size=n:=by rw[<-O];exact t
    have N:b.size=cs.length:=by have:=E.len;simpa using this.symm
    have D:=wK (a.eval y).cells.toList f.offset 0 b (by simp[z];omega);simp only[Cu,BD] at D;have d:=E.over A f.offset (by simp[t];omega);simp only[Bm,t,BD] at d;rw[<-D] at d;obtain⟨e,R,X⟩:=zK h hp F G _ o _ J d u;refine⟨e,?_,X⟩;simp only[Bf,Ch,hp i f n W hn,z];rw[if_neg (by simp;omega)];rw[<-R]
    congr 1
    rw[<-Array.foldl_toList,Array.toList_zipIdx]
   ·simp at u
  ·simp at q
 | [],_::_,_,_,_,v,_,_=>by simp[rv] at v
 |_::_,[],_,_,_,v,_,_=>by simp[rv] at v
theorem aje{d:Nat}{zero:List V}{G:List (Nat×Nat×aj)}(k:jE P (.bld d zero G) m=true)(x:step Γ (.bld d zero G) s=some (true,s'))(h:SR g s w a)(v:bI g s w a s' next):m.wp P a w next Q:=by
 obtain⟨dst,op,ty,pos,ar,gd⟩:=m;simp only[jE,Ab,beq_iff_eq] at k;obtain⟨rfl,k⟩:=k;split at k
 ·rename_i t H;simp only[Ab] at k;obtain⟨Z,u⟩:=k;split at u
  ·rename_i fs W;simp only[Ab] at u;obtain⟨u,h3⟩:=u;obtain⟨i,z,E,R,q⟩:=rx Z;obtain⟨L,S,X⟩:=kM (I:=g.I) (ρ:=g.ρ) (N:=s.hp.length) (w:=w) q;obtain⟨places,e1,e2⟩:=agS (P:=P) fs.toList (by simpa using h3);simp only[step,Ak] at x;obtain⟨B,Y,x⟩:=x;obtain rfl:_=s':=by simpa using x
   obtain⟨o,J,r⟩:=zK (P:=P) (fs:=fs) (places:=λi=>places.toArray[i]?) h (λi f n C v=>by simpa using e2 i f n (by simpa using C) v) G H.toList zero B z.cells u ⟨L,S,X,λi c cv k b=>kL q i c cv k b⟩ Y;have p:=run_build (P:=P) w t (H.map λ(i,y)=>(i,a.eval y)) o (by simp only[Program.built,E,W,R,e1];simpa using J);refine az h rfl (cv:=.agg o) (by simp[execOp,p]) (.agg _ _ (by simpa using r.len) r.one (λi c cv k b=>r.nil i c cv k (by simpa using b)) (λi c cv k b=>r.rel i c cv k (by simpa using b))) rfl v
  ·rename_i F e W;split at u
   ·rename_i sz A;obtain⟨i,z,E,R,q⟩:=rx Z;obtain⟨L,S,X⟩:=kM (I:=g.I) (ρ:=g.ρ) (N:=s.hp.length) (w:=w) q;simp only[step,Ak] at x;obtain⟨B,Y,x⟩:=x;obtain rfl:_=s':=by simpa using x
    obtain⟨ie,O,M⟩:∃i,P.info? e=some i∧i.size=sz:=by unfold dM at A;obtain⟨i,E,h⟩:=Ak.1 A;exact⟨i,E,h⟩
    obtain⟨o,J,r⟩:=zK (P:=P) (fs:=ahF F sz e) (places:=λi=>some (i*sz,sz)) h (λi f n C v=>by
     have C:(List.map (λi=>agQ e (i*sz)) (A2 F))[i]? =some f:=by simpa [ahF] using C
     rw[Au,Ak] at C;obtain⟨j,D,rfl⟩:=C;have D:j=i:=by
      rw[Dc] at D;·exact(Ar D).symm
      ·exact(by simpa using (Ad.1 D).1)
     subst D;have v:dM P e=some n:=v;rw[A] at v;cases v;rfl) G H.toList zero B z.cells u ⟨L,S,X,λi c cv k b=>kL q i c cv k b⟩ Y
    have p:=run_build (P:=P) w t (H.map λ(i,y)=>(i,a.eval y)) o (by simp only[Program.built,E,W,R,O,M];simpa using J);refine az h rfl (cv:=.agg o) (by simp[execOp,p]) (.agg _ _ (by simpa using r.len) r.one (λi c cv k b=>r.nil i c cv k (by simpa using b)) (λi c cv k b=>r.rel i c cv k (by simpa using b))) rfl v
   ·simp at u
  ·simp at u
 ·simp at k
end
def hJ:List aj->List Operand->Bool
 | [],[]=>true
 |x::xs,y::ys=>ay x y&&hJ xs ys
 |_,_=>false
def n9(P:Program)(o:IOp)(m:Oper):Bool:=
 match o with
 | .alr d n=>(m.dst==some d)&&(match m.op with| .alloc t=>(match P.info? t with|some i=>(match i.zero with|some z=>z.cells.size==n|none=>false)|none=>false)|_=>false)
 | .frz d r n v=>(m.dst==d)&&(match m.op with| .store t (.tmp c) b=>(r==c)&&((dM P t==some n)&&ay v b)|_=>false)
 | .lde d n agg x=>aM P (.ld d n agg false x) m
 | .boxe d x=>(m.dst==some d)&&(match m.op with| .box t y=>ay x y|_=>false)
 | .mkf d f xs=>(m.dst==some d)&&(match m.op with| .makeFunc (.func e) first ys=>(f==e)&&(first.isEmpty&&hJ xs ys.toList)|_=>false)
 |_=>false
section
variable{w w':World}{g g':Gh}{s s':St}{a:Act}{P:Program}{Γ:am}{m:Oper}{next:Act->World->Prop}{Q:Exit->Act->World->Prop}
theorem SR.newLaid(h:SR g s w a)(cs:List V)(d:Nat)(f:Array Value)(e:TypeId)
  (F:cs.length=f.size) (E:∀c∈cs,c.one=true)
  (C:∀(j:Nat) c cv,cs[j]? =some c->f[j]? =some cv->VRel g.I g.ρ s.hp.length w c cv):
  ∃g',SR g' (s.set d (.ea cs)) (w.alloc (.cells f e)) (a.put (some d) (.pointer (some ⟨w.heap.size,0,none⟩)))∧FR g s.hp w g' s.hp (w.alloc (.cells f e)):=by
 obtain⟨B,i,q⟩:=iv w (.cells f e);let g':Gh:={I:=λb j=>g.I b j∨(b=w.heap.size∧j<cs.length),ρ:=g.ρ,O:=g.O,β:=g.β}
 have v:∀b j,g.I b j->b<w.heap.size:=by intro b j t;exact(h.hr.exI b j t).lt
 have y:∀b j,b<w.heap.size->(w.alloc (.cells f e)).cell? ⟨b,j,none⟩=w.cell? ⟨b,j,none⟩:=by intro b j p;simp[Bn,i b p]
 have u:Up g.I g.ρ s.hp.length w g'.I g'.ρ s.hp.length (w.alloc (.cells f e)):=⟨λb j t=>.inl t,λb j t=>y b j (v b j t),λ_ _=>rfl,Aj _⟩
 have x:∀j,(w.alloc (.cells f e)).cell? ⟨w.heap.size,j,none⟩=f[j]?:=λj=>aA q j
 have D:SR g' s (w.alloc (.cells f e)) a:=by
  refine h.keep none trivial rfl u ?_ ?_ ?_ ?_
  ·intro z b p _;have r:=h.hr.oLt b z p;refine⟨p,i b r,?_⟩;rintro j (k|⟨k,_⟩);·exact k
   ·omega
  ·intro id cs hid;have r:=(h.hr.obj id cs hid).lt;refine⟨i _ r,h.hr.notO id cs hid,?_⟩;rintro j (k|⟨k,_⟩);·exact k
   ·omega
  ·rintro b j (k|⟨rfl,k⟩);·exact(h.hr.exI b j k).blk (by first|exact i b (v b j k)|exact f2 b (v b j k))
   ·exact .row q (by omega) (λ_ H=>by omega)
  ·intro b o p;have:=h.hr.oLt b o p;omega
 refine⟨g',D.set d ?_ (by simp[ai]),⟨rfl,rfl,rfl,rfl,by omega,λb p _ _=>i b p,u,?_,λ_ _ _ h=>h,λ_ cs h=>.inl ⟨cs,h⟩⟩⟩
 ·refine .ea cs _ _ (λj=>f[j]?.getD undef) E ?_ ?_ ?_;·intro j k;exact .inr ⟨rfl,by omega⟩
  ·intro j k;rw[AW,x,Am (by omega)];rfl
  ·intro j c A;have k:j<f.size:=by rw[<-F];exact(Ad.1 A).1
   have:=C j c _ A (Am k);rw[Am k];exact this.up u
 ·rintro b j p _ G (t|⟨rfl,_⟩);·exact t
  ·omega
theorem aiJ{d:Nat}{x:aj}(b:n9 P (.boxe d x) m=true)(q:step Γ (.boxe d x) s=some (true,s'))(h:SR g s w a)(B:bI g s w a s' next):m.wp P a w next Q:=by
 obtain⟨dst,J,ty,pos,z,C⟩:=m;simp only[n9,Ab,beq_iff_eq] at b;obtain⟨rfl,b⟩:=b;split at b
 ·rename_i t y;have r:=aB b h.er;have e:(execOp a.eval ⟨some d,.box t y,ty,pos,z,C⟩).run P w=.ok (.value (.pointer (some ⟨w.heap.size,0,none⟩))) (w.alloc (.cells (a.eval y).cells t)):=by
   simp[execOp,Instr.box,newVar,newRow]
  simp only[step] at q;split at q
  ·rename_i cs A;obtain rfl:_=s':=by simpa using q
   rw[A] at r;generalize a.eval y=cv at r e;cases r with
   |agg _ vs H G I F=>
    refine dg rfl e (h.newLaid (cs.map disown) d vs t (by simpa using H) ?_ ?_) B;·intro c b;obtain⟨u,o,rfl⟩:=AA.1 b;rw[iW];exact G u o
    ·intro j c cv b f;rw[Au,Ak] at b;obtain⟨u,o,rfl⟩:=b;exact(F j u cv o f).disown
  ·rename_i v A E;split at q
   ·rename_i k;obtain rfl:_=s':=by simpa using q
    have p:(a.eval y).cells= #[a.eval y]:=by have:=r.oneCell k;cases D:a.eval y<;>rw[D] at this<;>simp[Df] at this<;>rfl
    rw[p] at e;refine dg rfl e (h.newLaid [disown (x.ev s)] d #[a.eval y] t rfl (by simpa [iW] using k) ?_) B;intro i c cv b f;cases i with
    |zero=>simp at b f;subst b f;exact r.disown
    |succ i=>simp at b
   ·simp at q
 ·simp at b
theorem ajf{d n:Nat}{agg:Bool}{x:aj}(c:n9 P (.lde d n agg x) m=true)(b:step Γ (.lde d n agg x) s=some (true,s'))(h:SR g s w a)(f:bI g s w a s' next):m.wp P a w next Q:=by
 refine afO (Γ:=Γ) (d:=d) (n:=n) (agg:=agg) (x:=x) c ?_ h f;simp only[step] at b ⊢;split at b;·rename_i cs e;rw[e];exact b
 ·simp at b
theorem ajg{d n:Nat}(p:n9 P (.alr d n) m=true)(B:step Γ (.alr d n) s=some (true,s'))(h:SR g s w a)(H:bI g s w a s' next):m.wp P a w next Q:=by
 obtain⟨dst,L,ty,pos,F,J⟩:=m;simp only[n9,Ab,beq_iff_eq] at p;obtain⟨rfl,p⟩:=p;split at p
 ·rename_i t;split at p
  ·rename_i i r;split at p
   ·rename_i z E;have A:z.cells.size=n:=by simpa using p
    obtain rfl:_=s':=by simpa [step] using B
    have f:=iv w (.cells z.cells t);obtain⟨G,c,y⟩:=f;refine dg rfl (w':=w.alloc (.cells z.cells t)) (cv:=.pointer (some ⟨w.heap.size,0,none⟩)) (by simp[execOp,Instr.alloc,zeroValue,typeInfo,r,E,newVar,newRow]) ?_ H;let g':Gh:={I:=g.I,ρ:=g.ρ,O:=λb=>if b=w.heap.size then some (.slot d) else g.O b,β:=g.β}
    have v:∀b j,g.I b j->b<w.heap.size:=by intro b j r;exact(h.hr.exI b j r).lt
    have x:∀b j,b<w.heap.size->(w.alloc (.cells z.cells t)).cell? ⟨b,j,none⟩=w.cell? ⟨b,j,none⟩:=by intro b j e;simp[Bn,c b e]
    have u:Up g.I g.ρ s.hp.length w g'.I g'.ρ s.hp.length (w.alloc (.cells z.cells t)):=⟨λb j r=>r,λb j r=>x b j (v b j r),λ_ _=>rfl,Aj _⟩
    have B:SR g' s (w.alloc (.cells z.cells t)) a:=by
     refine h.keep none trivial rfl u ?_ ?_ ?_ ?_;·intro C b e _;have k:=h.hr.oLt b C e;exact⟨by simp[g',Ba k,e],c b k,λj q=>q⟩
     ·intro id cs hid;have k:=(h.hr.obj id cs hid).lt;exact⟨c _ k,by simp[g',Ba k,h.hr.notO id cs hid],λj q=>q⟩
     ·intro b j q;exact(h.hr.exI b j q).blk (by first|exact c b (v b j q)|exact f2 b (v b j q))
     ·intro b o e;simp only[g'] at e;split at e;·omega
      ·have:=h.hr.oLt b o e;omega
    refine⟨g',B.set d (.raw n _) ?_,⟨rfl,rfl,rfl,rfl,by omega,λb e _ _=>c b e,u,λb j _ _ _ r=>r,?_,λ_ cs h=>.inl ⟨cs,h⟩⟩⟩;·refine⟨by simp[g'],⟨z.cells,t,y,A⟩,λj q=>?_⟩;exact absurd (v _ _ q) (Nat.lt_irrefl _)
    ·intro b e D;simp[g',Ba e,D]
   ·simp at p
  ·simp at p
 ·simp at p
theorem ER.put'{N:Nat}(h:ER g N w s.env a.tmps)(d:Nat){v:V}(o:VRel g.I g.ρ N w v (a.tmps.getD d undef))(j:ai g w (.slot d) v (a.tmps.getD d undef)):
  ER g N w (s.set d v).env a.tmps:=by
 refine⟨by simp[St.set,h.size],?_,?_⟩
 ·intro n k i b c;simp only[St.set,Aw] at b;by_cases e:d=n
  ·subst e;simp only[if_true] at b;split at b;·obtain rfl:=Ar b;obtain⟨f,rfl⟩:=AK.1 c;simpa [A3,f] using o
   ·simp at b
  ·simp only[e,if_false] at b;exact h.rel n _ _ b c
 ·intro n k i b c;simp only[St.set,Aw] at b;by_cases e:d=n
  ·subst e;simp only[if_true] at b;split at b;·obtain rfl:=Ar b;obtain⟨f,rfl⟩:=AK.1 c;simpa [A3,f] using j
   ·simp at b
  ·simp only[e,if_false] at b;exact h.own n _ _ b c
theorem ajh{d:Option Nat}{r n:Nat}{v:aj}(q:n9 P (.frz d r n v) m=true)(J:step Γ (.frz d r n v) s=some (true,s'))(h:SR g s w a)(hn:bI g s w a s' next):m.wp P a w next Q:=by
 obtain⟨dst,op,ty,pos,a3,gd⟩:=m;simp only[n9,Ab,beq_iff_eq] at q;obtain⟨rfl,q⟩:=q;split at q
 ·rename_i t r' Y;simp only[Ab,beq_iff_eq] at q;obtain⟨rfl,h1,h3⟩:=q;have r2:=aB h3 h.er;simp only[step] at J;split at J
  ·rename_i m hr;split at J
   ·rename_i y;simp only[Ab,beq_iff_eq] at y;obtain⟨hm,F,X⟩:=y;obtain rfl:=As hm;obtain rfl:_=s':=by simpa using J
    have r1:=h.er.get r;have ro:=h.er.getOwn r;rw[hr] at r1 ro;obtain⟨c1,c2,c3⟩:=pX r2 X;have M:(a.eval Y).cells.size=m:=by rw[<-c1];exact F
    generalize R:a.tmps.getD r undef=cx at r1 ro;cases r1 with
    |raw _ b=>
     obtain⟨Z,⟨a2,e,S,b6⟩,o3⟩:=ro;simp only at Z S o3;have a1:SR g (s.set r .undef) w a:=by have:=h.bare r;rw[hr] at this;exact this
     let us:=(a.eval Y).cells.toList;have b4:us.length=m:=by simpa [us] using M
     obtain⟨⟨bs,q1,q2⟩,q3,q4,q5,q6,q7⟩:=eU b us 0 w a2 e (0,0) S;let w':=w.setCells b 0 us;have L:(execOp a.eval ⟨dst,.store t (.tmp r) Y,ty,pos,a3,gd⟩).run P w=.ok .skip (w.setCells b 0 us):=by
      have:=run_storeCells_cells (P:=P) b 0 us 0 w
       (λj k=>by rw[aA S,Am (by omega)];rfl)
       (λj k=>by simp[Bq,S])
       (λu hu=>by
        obtain⟨j,k,rfl⟩:=AP.1 hu;have x:j<(v.ev s).cells.length:=by rw[c1];simpa [us] using k
        exact(c3 j _ _ (Ac x) (by simp[us])).oneCell (c2 _ (AO x)))
      have he:a.eval (.tmp r)=.pointer (some ⟨b,0,none⟩):=R;simp[execOp,he,Dm,BH,storeVar,j9 h1,M];have B:Sem.run P (storeCells {block:=b,off:=0} (a.eval Y).cells.toList) w=Result.ok () (w.setCells b 0 (a.eval Y).cells.toList):=by simpa [us] using this
      rw[B];rfl
     have N:∀f j,g.I f j->f≠b:=by rintro f j C rfl;exact o3 j C
     let g':Gh:={I:=λf j=>g.I f j∨(f=b∧j<m),ρ:=g.ρ,O:=λf=>if f=b then none else g.O f,β:=g.β}
     have H:∀f j,f≠b->w'.cell? ⟨f,j,none⟩=w.cell? ⟨f,j,none⟩:=by intro f j E;exact AX _ us 0 w _ (λe=>absurd e E)
     have u:Up g.I g.ρ s.hp.length w g'.I g'.ρ s.hp.length w':=⟨λb j C=>.inl C,λf j C=>H f j (N f j C),λ_ _=>rfl,Aj _⟩
     have G:∀j,j<m->w'.cell? ⟨b,j,none⟩=us[j]?:=by intro j k;have:=Bt b us 0 w (λj' x=>by rw[aA S,Am (by omega)];rfl) j (by omega);rw[AW] at this;rw[this,Ac]
     have W:SR g' (s.set r .undef) w' a:=by
      refine a1.keep (some (.slot r)) ?_ rfl u ?_ ?_ ?_ ?_;·intro v hv;simp only[St.set,Aw] at hv;simp at hv;obtain⟨_,rfl⟩:=hv;rfl
      ·intro d0 f i E;have p:f≠b:=by
        rintro rfl;rw[Z] at i;exact E i
       refine⟨by simp[g',p,i],q3 f p,?_⟩;rintro j (k|⟨k,_⟩);·exact k
       ·exact absurd k p
      ·intro id cs hid;have p:g.ρ id≠b:=by
        intro e;have:=h.hr.notO id cs hid;rw[e,Z] at this;cases this
       refine⟨q3 _ p,by simp[g',p,h.hr.notO id cs hid],?_⟩;rintro j (k|⟨k,_⟩);·exact k
       ·exact absurd k p
      ·rintro f j (k|⟨rfl,k⟩);·exact(h.hr.exI f j k).blk (q3 f (N f j k))
       ·exact .row q1 (by omega) (λ_ hz=>by simp at hz)
      ·intro f o i;simp only[g'] at i;split at i;·cases i
       ·have:=h.hr.oLt f o i;rw[q4];exact this
     have al:VRel g'.I g'.ρ s.hp.length w' (.ea ((v.ev s).cells.map disown)) (.pointer (some ⟨b,0,none⟩)):=by
      refine .ea _ _ _ (λj=>us[j]?.getD undef) ?_ ?_ ?_ ?_;·intro c q;obtain⟨c',z,rfl⟩:=AA.1 q;rw[iW];exact c2 c' z
      ·intro j k;exact .inr ⟨rfl,by simp[F] at k;omega⟩
      ·intro j k;have x:j<m:=by simp[F] at k;omega
       rw[AW,G j x,Ac (by omega)];rfl
      ·intro j c q;rw[Au,Ak] at q;obtain⟨c',z,rfl⟩:=q;have k:j<us.length:=by have:=(Ad.1 z).1;omega
       rw[Ac k];exact((c3 j c' us[j] z (by simp[us])).up u).disown
     have A:SR g' (s.set r (.ea ((v.ev s).cells.map disown))) w' a:=by
      refine⟨W.hr,?_⟩;have:=W.er.put' r (v:=.ea ((v.ev s).cells.map disown)) (by rw[R];exact al) (by simp[ai]);have e2:((s.set r .undef).set r (.ea ((v.ev s).cells.map disown))).env=(s.set r (.ea ((v.ev s).cells.map disown))).env:=by simp[St.set]
      rw[e2] at this;exact this
     have fr:FR g s.hp w g' s.hp w':=by
      refine⟨rfl,q5,q6,q7,by rw[q4];exact Aj _,?_,u,?_,?_,λ_ cs h=>.inl ⟨cs,h⟩⟩;·intro f i _ D;refine q3 f ?_;rintro rfl;rw[Z] at D;cases D
      ·rintro f j i _ D (C|⟨rfl,_⟩);·exact C
       ·rw[Z] at D;cases D
      ·intro f i _ D;simp[g',D]
     unfold Cw CZ;rw[L];cases dst with
     |none=>exact hn _ _ g' A fr rfl
     |some d=>exact hn _ _ g' (A.set d (.undef _) (by simp[ai])) fr rfl
   ·simp at J
  ·simp at J
 ·simp at q
theorem adb(h:ER g s.hp.length w s.env a.tmps):∀(xs:List aj)(ys:List Operand),hJ xs ys=true->xs.length=ys.length∧
  ∀(i:Nat) v cv,(xs.map λx=>disown (x.ev s))[i]? =some v->(ys.map a.eval)[i]? =some cv->VRel g.I g.ρ s.hp.length w v cv
 | [],[],_=>⟨rfl,by simp⟩
 |x::xs,y::ys,hp=>by
  simp only[hJ,Ab] at hp;obtain⟨e,d⟩:=adb h xs ys hp.2;refine⟨by simp[e],?_⟩;intro i v cv c b;cases i with
  |zero=>simp at c b;subst c b;exact(aB hp.1 h).disown
  |succ i=>exact d i v cv (by simpa using c) (by simpa using b)
 | [],_::_,hp=>by simp[hJ] at hp
 |_::_,[],hp=>by simp[hJ] at hp
theorem aji{d f:Nat}{xs:List aj}(b:n9 P (.mkf d f xs) m=true)(u:step Γ (.mkf d f xs) s=some (true,s'))(h:SR g s w a)(q:bI g s w a s' next):m.wp P a w next Q:=by
 obtain⟨dst,x,ty,pos,j,v⟩:=m;simp only[n9,Ab,beq_iff_eq] at b;obtain⟨rfl,b⟩:=b;split at b
 ·rename_i y first ys
  simp only[Ab,beq_iff_eq] at b;obtain⟨rfl,o,t⟩:=b;obtain rfl:first= #[]:=by simpa using o
  obtain rfl:_=s':=by simpa [step] using u
  obtain⟨r,p⟩:=adb h.er xs ys.toList t;have e:(execOp a.eval ⟨some d,.makeFunc (.func f) #[] ys,ty,pos,j,v⟩).run P w=.ok (.value (.func (.func f) #[] (ys.map a.eval))) w:=by simp[execOp,Instr.makeFunc]
  refine az h rfl e (.fn _ _ _ (by simp[r]) (λi c cv b k=>p i c cv b (by simpa using k))) rfl q
 ·simp at b
end
end Go.AM
end
