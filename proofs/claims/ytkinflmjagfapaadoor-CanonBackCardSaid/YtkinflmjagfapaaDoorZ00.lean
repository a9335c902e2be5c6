import GoSem.Core.Code
import GoSem.Op.String
import GoSem.Core.Utf8
import Derived.WalkKit
import Derived.Deep.AppendSrc
import Derived.Lib.ItoaNum
import Derived.Laws.Cover4
import Derived.Laws.IdiomStrings
import Derived.Lib.ConvBytes
import Derived.Laws.Tables
import Derived.Laws.StructEq
import Derived.Laws.MakeOwn
open Array renaming getElem?_eq_getElem→As,getElem?_eq_some_iff→AQ,getD→Bg,length_toList→BT,getElem?_eq_none→Cd,getElem?_modify→Cj,getElem?_append_left→CQ,getElem?_push→DD,getElem?_setIfInBounds→DE
open BitVec renaming ofInt→Ce
open Bool renaming and_eq_true→Ac,or_eq_true→A7,not_eq_true'→BK,and_eq_false_iff→B2,eq_iff_iff→Ch
open Classical renaming propDecidable→Cy
open Function renaming comp_def→D4
open Go.Addr renaming add_lit→BV
open Go.Builtin renaming append_→CB,len_→CZ
open Go.Instr renaming sureAddr→BZ,sliceBounds→CH,fill→CN,sliceAt→De,loadAt→Dw,slice→DJ,storeAt→DW
open Go.IntKind renaming wrap→Ae,signed→Bj,bits→BA,max→Cr,min→CF
open Go.Op renaming stringOp→CE,bytesLess→C3,intCmp→Dj,intBits→Dy,intArith→DI
open Go.Oper renaming wp→C7,upon→Di
open Go.Value renaming cells→Cq,int→Dn,oneCell'→DF
open Go.World renaming cell?_setCells_out→Bp,cell?→Bv,frozen?→BD,cell?_setCells_in→BQ,block_lt_of_cell?→C8
open Int renaming tmod_eq_emod_of_nonneg→BJ,tmod_nonneg→CX,fdiv_eq_ediv_of_nonneg→DR
open List renaming length→Aa,getElem?_eq_getElem→Ab,getElem?_eq_some_iff→Ad,length_cons→Af,length_append→Aj,length_nil→Ak,getD_eq_getElem?_getD→Al,mem_of_getElem?→Am,getD→An,all_eq_true→Ap,mem_singleton→Au,getElem?_append_right→Av,getElem?_append_left→Aw,getElem?_set→Ay,mem_append→Az,getElem?_map→AA,mem_cons→AB,append_assoc→AC,mem_map→AG,drop_eq_getElem_cons→AK,mem_cons_of_mem→AL,length_set→AO,eq_nil_of_length_eq_zero→AT,range→AU,mem_flatMap→AX,mem_cons_self→AY,mem_iff_getElem→A0,map_cons→A2,getElem?_take→A3,length_map→A6,getElem?_eq_none→Ba,getElem_mem→Bf,range'→Bm,mem_of_mem_take→Bn,getElem?_drop→Bo,getElem?_set_self→Bw,length_drop→BH,mem_of_mem_drop→BN,foldl_cons→BS,map_map→Cg,all_cons→Cm,range'_succ→Cv,ext_getElem?→Db,flatten_cons→Dc,drop_set_of_lt→Dz,getElem?_range→DB,take_set_of_le→DC,drop_take→DH,length_range→DY,size_toArray→D0
open Nat renaming le_refl→Ar,beq→AD,lt_of_lt_of_le→AE,lt_or_ge→AH,add_mul→AP,le_trans→AR,eq_of_beq_eq_true→AS,mul_le_mul_right→A1,zero_add→Be,ne_of_lt→Bu,one_mul→B4,add_zero→B5,blt→B9,ble→Cs,mod_eq_of_lt→Ct,mul_comm→CJ,mul_one→CS,le_mul_of_pos_right→C9,le_add_right→Dg,le_of_not_lt→Dh,eq_zero_or_pos→DK,add_assoc→DU
open Ne renaming symm→Ci
open Option renaming map_eq_some_iff→Aq,getD_some→Bk,isSome_iff_exists→Bz,map_some→BE
open Option.some renaming injEq→Ai,inj→Ax
open Prod.mk renaming injEq→Ao
open UInt8 renaming ofNat→AF
set_option linter.all false
noncomputable section
namespace Go.AM
structure auR where
 num:Int
 wire:Int
 n:Int
 s:List UInt8
 raw:List UInt8
 deriving DecidableEq
inductive aa where
 |mk (kind n:Int) (s:List UInt8) (l:List aa) (names:List (List UInt8))
def aa.kind:aa->Int| .mk a _ _ _ _=>a
def aa.n:aa->Int| .mk _ a _ _ _=>a
def aa.s:aa->List UInt8| .mk _ _ a _ _=>a
def aa.l:aa->List aa| .mk _ _ _ a _=>a
def aa.names:aa->List (List UInt8)| .mk _ _ _ _ a=>a
structure aZ where
 name:List UInt8
 aliases:List (List UInt8)
 typ:Int
 hasdef:Bool
 df:aa
structure ac where
 kind:Int
 name:List UInt8
 aliases:List (List UInt8)
 items:Int
 syms:List (List UInt8)
 hasdef:Bool
 df:List UInt8
 size:Int
 fields:List aZ
 branches:List Int
inductive tP where
 |mk (n:Int) (s:List UInt8) (l:List tP) (keys:List (List UInt8)) (branch:Int)
def tP.n:tP->Int| .mk a _ _ _ _=>a
def tP.s:tP->List UInt8| .mk _ a _ _ _=>a
def tP.l:tP->List tP| .mk _ _ a _ _=>a
def tP.keys:tP->List (List UInt8)| .mk _ _ _ a _=>a
def tP.branch:tP->Int| .mk _ _ _ _ a=>a
inductive EK where
 |u8|num (k:IntKind)|str|bool|record|ints|jnode|afield|atype|aval
 deriving DecidableEq
abbrev Ty:EK->Type
 | .u8=>UInt8
 | .num _=>Int
 | .str=>List UInt8
 | .bool=>Bool
 | .record=>auR
 | .ints=>List Int
 | .jnode=>aa
 | .afield=>aZ
 | .atype=>ac
 | .aval=>tP
inductive Fl where
 |own
 |may (b:Bool)
 deriving DecidableEq
def Fl.dis:Fl->Fl
 | .own=>.may false
 | .may b=>.may b
def Fl.app:Fl->Nat->Bool
 | .own,_=>true
 | .may b,n=>b&&decide (0<n)
inductive MK where
 |pb|bs|bn|ib|sn|sb
 deriving DecidableEq
abbrev MK.K:MK->Type
 | .pb=>Int×Int
 | .bs| .bn| .ib=>Int
 | .sn| .sb=>List UInt8
abbrev MK.T:MK->Type
 | .pb| .ib| .sb=>Bool
 | .bs=>List UInt8
 | .bn| .sn=>Int
inductive V where
 |undef
 |bool (b:Bool)
 |int (k:IntKind) (n:Int)
 |str (s:List UInt8)
 |sl (k:EK) (o:Fl) (xs:List (Ty k))
 |agg (cs:List V)
 |tup (vs:List V)
 |ea (cs:List V)
 |ptr (id off:Nat)
 |nilp
 |fn (f:Nat) (cap:List V)
 |nilif
 |bn (E n:Nat)
 |junk
 |rb (xs:List UInt8)
 |so (id n:Nat)
 |raw (n:Nat)
 |ul (k:EK) (xs:List (Ty k))
 |hd (n:Nat)
 |rw(k:EK) (xs:List (Ty k))
 |sw (k:EK) (id n:Nat)
 |sx (k:EK) (id off n:Nat)
 |wp (id:Nat) (k:EK) (i o:Nat)
 |mp (k:MK) (es:List (k.K×k.T))
 |mr (id:Nat)
 |nilm
instance:Inhabited V:=⟨.undef⟩
def EK.sz:EK->Nat
 | .record=>5
 | .jnode=>5
 | .afield=>9
 | .atype=>10
 | .aval=>5
 |_=>1
def ahP:IntKind->Nat
 | .i8| .u8=>1
 | .i16| .u16=>2
 | .i32| .u32=>4
 | .i64| .u64=>8
def EK.bytes:EK->Nat
 | .u8=>1
 | .num k=>ahP k
 | .str=>16
 | .bool=>1
 | .record=>56
 | .ints=>24
 | .jnode=>80
 | .afield=>136
 | .atype=>160
 | .aval=>80
def EK.isAgg:EK->Bool
 | .record| .jnode| .afield| .atype| .aval=>true
 |_=>false
def enc:(k:EK)->Ty k->List V
 | .u8,x=>[.int .u8 x.toNat]
 | .num k,x=>[.int k x]
 | .str,x=>[.str x]
 | .bool,x=>[.bool x]
 | .record,x=>[.int .i64 x.num,.int .i64 x.wire,.int .u64 x.n,.str x.s,.str x.raw]
 | .ints,x=>[.sl (.num .i64) (.may false) x]
 | .jnode,x=>[.int .i64 x.kind,.int .i64 x.n,.str x.s,.sl .jnode (.may false) x.l,.sl .str (.may false) x.names]
 | .afield,x=>[.str x.name,.sl .str (.may false) x.aliases,.int .i64 x.typ,.bool x.hasdef,.int .i64 x.df.kind,.int .i64 x.df.n,.str x.df.s,.sl .jnode (.may false) x.df.l,.sl .str (.may false) x.df.names]
 | .atype,x=>[.int .i64 x.kind,.str x.name,.sl .str (.may false) x.aliases,.int .i64 x.items,.sl .str (.may false) x.syms,.bool x.hasdef,.str x.df,.int .i64 x.size,.sl .afield (.may false) x.fields,.sl (.num .i64) (.may false) x.branches]
 | .aval,x=>[.int .u64 x.n,.str x.s,.sl .aval (.may false) x.l,.sl .str (.may false) x.keys,.int .i64 x.branch]
def dec:(k:EK)->List V->Option (Ty k)
 | .u8,[.int .u8 n]=>some (AF n.toNat)
 | .num .i8,[.int .i8 n]=>some n
 | .num .i16,[.int .i16 n]=>some n
 | .num .i32,[.int .i32 n]=>some n
 | .num .i64,[.int .i64 n]=>some n
 | .num .u8,[.int .u8 n]=>some n
 | .num .u16,[.int .u16 n]=>some n
 | .num .u32,[.int .u32 n]=>some n
 | .num .u64,[.int .u64 n]=>some n
 | .str,[.str s]=>some s
 | .bool,[.bool b]=>some b
 | .record,[.int .i64 a,.int .i64 b,.int .u64 c,.str s,.str r]=>some ⟨a,b,c,s,r⟩
 | .ints,[.sl (.num .i64) _ x]=>some x
 | .jnode,[.int .i64 a,.int .i64 b,.str c,.sl .jnode _ d,.sl .str _ e]=>some (.mk a b c d e)
 | .afield,[.str a,.sl .str _ b,.int .i64 c,.bool d,.int .i64 e,.int .i64 f,.str g,.sl .jnode _ h,.sl .str _ i]=>some ⟨a,b,c,d,.mk e f g h i⟩
 | .atype,[.int .i64 a,.str b,.sl .str _ c,.int .i64 d,.sl .str _ e,.bool f,.str g,.int .i64 h,.sl .afield _ i,.sl (.num .i64) _ j]=>some ⟨a,b,c,d,e,f,g,h,i,j⟩
 | .aval,[.int .u64 a,.str b,.sl .aval _ c,.sl .str _ d,.int .i64 e]=>some (.mk a b c d e)
 |_,_=>none
def ao:(k:EK)->Ty k
 | .u8=>0
 | .num _=>0
 | .str=>[]
 | .bool=>false
 | .record=>⟨0,0,0,[],[]⟩
 | .ints=>[]
 | .jnode=>.mk 0 0 [] [] []
 | .afield=>⟨[],[],0,false,.mk 0 0 [] [] []⟩
 | .atype=>⟨0,[],[],0,[],false,[],0,[],[]⟩
 | .aval=>.mk 0 [] [] [] 0
def MK.key:(k:MK)->k.K->V
 | .pb,x=>.agg [.int .i64 x.1,.int .i64 x.2]
 | .bs,x=>.int .u8 x
 | .bn,x=>.int .u8 x
 | .ib,x=>.int .i64 x
 | .sn,x=>.str x
 | .sb,x=>.str x
def MK.val:(k:MK)->k.T->V
 | .pb,x=>.bool x
 | .bs,x=>.str x
 | .bn,x=>.int .i64 x
 | .ib,x=>.bool x
 | .sn,x=>.int .i64 x
 | .sb,x=>.bool x
def MK.zero:(k:MK)->k.T
 | .pb| .ib| .sb=>false
 | .bs=>[]
 | .bn| .sn=>(0:Int)
def aqx:V->Option (Int×Int)| .agg [.int .i64 a,.int .i64 b]=>some (a,b)|_=>none
def u8V:V->Option Int| .int .u8 a=>some a|_=>none
def anF:V->Option Int| .int .i64 a=>some a|_=>none
def aqy:V->Option (List UInt8)| .str s=>some s|_=>none
def aiH:V->Option Bool| .bool b=>some b|_=>none
def MK.dkey:(k:MK)->V->Option k.K
 | .pb=>aqx
 | .bs=>u8V
 | .bn=>u8V
 | .ib=>anF
 | .sn| .sb=>aqy
def MK.dval:(k:MK)->V->Option k.T
 | .pb=>aiH
 | .bs=>aqy
 | .bn=>anF
 | .ib=>aiH
 | .sn=>anF
 | .sb=>aiH
instance MK.decK:(k:MK)->DecidableEq k.K
 | .pb=>inferInstanceAs (DecidableEq (Int×Int))
 | .bs| .bn| .ib=>inferInstanceAs (DecidableEq Int)
 | .sn| .sb=>inferInstanceAs (DecidableEq (List UInt8))
def aY{k:MK}(es:List (k.K×k.T))(x:k.K):Option k.T:=match es with
 | []=>none
 |e::r=>if e.1=x then some e.2 else aY r x
def cE{k:MK}(es:List (k.K×k.T))(x:k.K)(v:k.T):List (k.K×k.T):=match es with
 | []=>[(x,v)]
 |e::r=>if e.1=x then (x,v)::r else e::cE r x v
def nQ{k:MK}(es:List (k.K×k.T))(x:k.K):Nat:=match es with
 | []=>0
 |e::r=>if e.1=x then 0 else nQ r x+1
def da{k:MK}(es:List (k.K×k.T))(x:k.K):k.T:=(aY es x).getD k.zero
def afk(k:MK)(ok:Bool)(r:Option k.T):V:=cond ok (.tup [k.val (r.getD k.zero),.bool r.isSome]) (k.val (r.getD k.zero))
def V.cells:V->List V
 | .agg cs=>cs
 |v=>[v]
def V.one:V->Bool
 | .undef| .agg _| .tup _| .rb _| .raw _| .rw _ _| .mp _ _=>false
 |_=>true
def disown:V->V
 | .raw _=>.undef
 | .sl k o xs=>.sl k o.dis xs
 | .bn _ _=>.junk
 | .ul _ xs=>.hd xs.length
 |v=>v
def V.laid:V->V
 | .ul k xs=>.sl k .own xs
 |v=>v
def V.weak:V->V
 | .sl k _ xs=>.sl k (.may false) xs
 |v=>disown v
def noBn:V->Bool
 | .bn _ _=>false
 |_=>true
inductive ASrc where
 |t (n:Nat)
 |tk (n:Nat)
 |c (v:V)
abbrev ai:=Option (List V)
structure St where
 env:List V
 hp:List ai
def St.get(s:St)(n:Nat):V:=s.env.getD n .undef
def St.set(s:St)(n:Nat)(v:V):St:={s with env:=s.env.set n v}
def ASrc.ev(s:St):ASrc->V
 | .t n=>disown (s.get n)
 | .tk n=>s.get n
 | .c v=>v
def ASrc.after(s:St):ASrc->St
 | .tk n=>s.set n (disown (s.get n))
 |_=>s
def ASrc.fix(s:St)(t:Bool):ASrc->St
 | .t n=>s.set n (.bool t)
 |_=>s
theorem ASrc.fix_eq{s:St}{t:Bool}:∀{c:ASrc},c.ev s=.bool t->c.fix s t=s
 | .t n,h=>by
   have d:s.env.getD n .undef=.bool t:=by have h:disown (s.env.getD n .undef)=.bool t:=h;revert h;generalize s.env.getD n .undef=v;cases v<;>simp[disown]
   obtain⟨a,hp⟩:=s;show St.mk (a.set n (.bool t)) hp=St.mk a hp;have f:a.set n (.bool t)=a:=by
    apply Db;intro i;rw[Ay];split
    ·rename_i e;subst e;split;·rename_i b;simp only[Al,Ab b,Bk] at d;rw[Ab b,d]
     ·rename_i b;rw[Ba (by omega)]
    ·rfl
   rw[f]
 | .tk n,_=>rfl
 | .c v,_=>rfl
inductive IOp where
 |mov (d:Nat) (x:ASrc)
 |pick (d:Nat) (c a b:ASrc)
 |bin (d:Nat) (o:BinOp) (x y:ASrc)
 |un (d:Nat) (o:UnOp) (x:ASrc)
 |cvi (d:Nat) (k:IntKind) (x:ASrc)
 |b2s (d:Nat) (x:ASrc)
 |lens (d:Nat) (x:ASrc)
 |lenl (d:Nat) (x:ASrc)
 |idx (d:Nat) (x i:ASrc)
 |ixa (d:Nat) (k:EK) (x i:ASrc)
 |subs (d:Nat) (x:ASrc) (lo hi:Option ASrc)
 |subl (d:Nat) (k:EK) (x:ASrc) (lo hi:Option ASrc)
 |bsl (d:Nat) (k:EK) (aac:List ASrc) (u:Bool)
 |bld (d:Nat) (zero:List V) (aac:List (Nat×Nat×ASrc))
 |new (d:Nat) (zero:List V)
 |box (d:Nat) (x:ASrc)
 |newb (d:Nat) (zero:List V)
 |fad (d:Nat) (off:Nat) (x:ASrc)
 |ld (d:Nat) (n:Nat) (agg take:Bool) (x:ASrc)
 |st (d:Option Nat) (n:Nat) (x v:ASrc)
 |app (d:Nat) (k:EK) (x y:ASrc)
 |apps (d:Nat) (x y:ASrc)
 |ext (d:Nat) (i:Nat) (x:ASrc)
 |nck (d:Option Nat) (x:ASrc)
 |call (d:Option Nat) (f:Nat) (args:List ASrc)
 |callz (d:Nat) (f:Nat) (args:List ASrc)
 |mx (d:Nat) (mn:Bool) (x y:ASrc)
 |boxe (d:Nat) (x:ASrc)
 |alr (d n:Nat)
 |frz (d:Option Nat) (r n:Nat) (v:ASrc)
 |lde (d:Nat) (n:Nat) (agg:Bool) (x:ASrc)
 |apu (d:Nat) (k:EK) (x y:ASrc)
 |lnw (d:Nat) (x:ASrc)
 |ixw (d:Nat) (k:EK) (x i:ASrc)
 |fdw (d off:Nat) (x:ASrc)
 |ldw (d n:Nat) (agg:Bool) (x:ASrc)
 |stw (d:Option Nat) (n:Nat) (x v:ASrc)
 |mkm (d:Nat) (k:MK)
 |mget (d:Nat) (k:MK) (ok:Bool) (x y:ASrc)
 |mput (d:Option Nat) (k:MK) (x y z:ASrc)
 |apo (d:Nat) (k:EK) (x y:ASrc)
structure GOp where
 g:Option (Nat×Bool)
 o:IOp
 ob:Option (List Nat×List Nat)
def de(o:BinOp)(k:IntKind)(a b:Int):Int:=
 match o with
 | .and=>k.wrap (Ce k.bits a&&& Ce k.bits b).toNat
 | .or=>k.wrap (Ce k.bits a|||Ce k.bits b).toNat
 | .xor=>k.wrap (Ce k.bits a ^^^Ce k.bits b).toNat
 |_=>k.wrap (Ce k.bits a&&& ~~~Ce k.bits b).toNat
def akg(k:IntKind)(a b:Int):Int:=k.wrap (a*2^(min b.toNat k.bits))
def tQ(k:IntKind)(a b:Int):Int:=a.fdiv (2^(min b.toNat k.bits))
def dc:Nat:=9223372036854775807
def pu:Nat:=140737488355328
def anG(o:BinOp)(k:IntKind)(a b:Int):Option (Bool×V):=
 match o with
 | .add=>some (true,.int k (k.wrap (a+b)))
 | .sub=>some (true,.int k (k.wrap (a-b)))
 | .mul=>some (true,.int k (k.wrap (a*b)))
 | .quo=>some (!(b==0),.int k (k.wrap (a.tdiv b)))
 | .rem=>some (!(b==0),.int k (a.tmod b))
 | .and=>some (true,.int k (de .and k a b))
 | .or=>some (true,.int k (de .or k a b))
 | .xor=>some (true,.int k (de .xor k a b))
 | .andNot=>some (true,.int k (de .andNot k a b))
 | .eql=>some (true,.bool (a==b))
 | .neq=>some (true,.bool (!(a==b)))
 | .lss=>some (true,.bool (decide (a<b)))
 | .leq=>some (true,.bool (decide (a<=b)))
 | .gtr=>some (true,.bool (decide (b<a)))
 | .geq=>some (true,.bool (decide (b<=a)))
 |_=>none
def anH(o:BinOp)(a b:List UInt8):Option (Bool×V):=
 match o with
 | .add=>some (decide (a.length+b.length<=dc),.str (a++b))
 | .eql=>some (true,.bool (decide (a=b)))
 | .neq=>some (true,.bool (!decide (a=b)))
 | .lss=>some (true,.bool (C3 a b))
 | .leq=>some (true,.bool (C3 a b||decide (a=b)))
 | .gtr=>some (true,.bool (!(C3 a b||decide (a=b))))
 | .geq=>some (true,.bool (!Op.bytesLess a b))
 |_=>none
def as1(o:BinOp)(x y:V):Option (Bool×V):=
 match x,y with
 | .int k a,.int k' b=>
   match o with
   | .shl=>some (decide (0<=b),.int k (akg k a b))
   | .shr=>some (decide (0<=b),.int k (tQ k a b))
   |o=>if k=k' then anG o k a b else none
 | .str a,.str b=>anH o a b
 |_,_=>none
def unV(o:UnOp)(x:V):Option V:=
 match o,x with
 | .not,.bool b=>some (.bool (!b))
 | .neg,.int k n=>some (.int k (k.wrap (0-n)))
 | .xor,.int k n=>some (.int k (de .xor k (if k.signed then -1 else k.max) n))
 |_,_=>none
def lay(cells:List V):List (Nat×Nat×V)->Option (List V)
 | []=>some cells
 |(a,n,v)::r=>if (v.cells.length==n&&v.cells.all V.one)&&decide (a+n<=cells.length) then lay (cells.take a++v.cells.map disown++cells.drop (a+n)) r else none
def decAll(k:EK):List V->Option (List (Ty k))
 | []=>some []
 |v::r=>match dec k v.cells,decAll k r with|some x,some l=>some (x::l)|_,_=>none
def acS(len:Nat):Option V->Option V->Option (Bool×Nat×Nat)
 |none,none=>some (true,0,len)
 |some (.int _ a),none=>some (decide (0<=a)&&decide (a<=len),a.toNat,len)
 |none,some (.int _ b)=>some (decide (0<=b)&&decide (b<=len),0,b.toNat)
 |some (.int _ a),some (.int _ b)=>some (decide (0<=b)&&decide (b<=len)&&(decide (0<=a)&&decide (a<=b)),a.toNat,b.toNat)
 |_,_=>none
def jo(s:St):Option ASrc->Option V
 |none=>none
 |some x=>some (x.ev s)
def cF:List V->Bool
 | [.rb _]=>true
 | [.rw _ _]=>true
 | [.tup _]=>true
 |_=>false
def St.obj(s:St)(id:Nat):Option (List V):=match s.hp.getD id none with|some [.rb _]=>none|some [.rw _ _]=>none|some [.mp _ _]=>none|some [.tup _]=>none|o=>o
def wt(k:EK)(x:Ty k)(o:Nat)(vs:List V):Option (Ty k):=dec k (((enc k x).take o++vs.map V.weak)++(enc k x).drop (o+vs.length))
def St.rowW(s:St)(id:Nat):Option ((k:EK)×List (Ty k)):=match s.hp.getD id none with|some [.rw k xs]=>some ⟨k,xs⟩|_=>none
def St.row(s:St)(id:Nat):Option (List UInt8):=match s.hp.getD id none with|some [.rb xs]=>some xs|_=>none
structure Hol where
 k:EK
 xs:List (Ty k)
 k2:EK
 id2:Nat
 n2:Nat
 i:Nat
 o:Nat
def St.rowH(s:St)(id:Nat):Option Hol:=match s.hp.getD id none with|some [.tup [.rw k xs,.sw d a b,.wp _ _ i o]]=>some ⟨k,xs,d,a,b,i,o⟩|_=>none
def St.mapO(s:St)(id:Nat):Option ((k:MK)×List (k.K×k.T)):=match s.hp.getD id none with|some [.mp k es]=>some ⟨k,es⟩|_=>none
def St.setObj(s:St)(id:Nat)(cs:List V):St:={s with hp:=s.hp.set id (some cs)}
def loaded(agg:Bool)(cs:List V):V:=if agg then .agg (cs.map disown) else cs.headD .undef
abbrev aq:=Nat->List V->List ai->Option (Bool×V×List ai)
def St.setO(s:St)(d:Option Nat)(v:V):St:=match d with|some d=>s.set d v|none=>s
def anA(t:Bool)(a b:V):V:=
 match a,b with
 | .bool x,.bool y=>.bool (cond t x y)
 | .int k x,.int k' y=>if k=k' then .int k (cond t x y) else cond t (.int k x) (.int k' y)
 | .str x,.str y=>.str (cond t x y)
 |a,b=>cond t a b
theorem as2(t:Bool)(a b:V):anA t a b=cond t a b:=by
 unfold anA;split;·cases t<;>rfl
 ·split;·rename_i h;subst h;cases t<;>rfl
  ·rfl
 ·cases t<;>rfl
 ·rfl
def step(Γ:aq)(o:IOp)(s:St):Option (Bool×St):=
 match o with
 | .mov d x=>some (true,(x.after s).set d (x.ev s))
 | .pick d c a b=>match c.ev s with| .bool t=>some (true,s.set d (anA t (disown (a.ev s)) (disown (b.ev s))))|_=>none
 | .bin d o x y=>(as1 o (x.ev s) (y.ev s)).map λ(c,v)=>(c,s.set d v)
 | .un d o x=>(unV o (x.ev s)).map λv=>(true,s.set d v)
 | .cvi d k x=>match x.ev s with| .int _ n=>some (true,s.set d (.int k (k.wrap n)))|_=>none
 | .b2s d x=>match x.ev s with| .sl .u8 _ l=>some (true,s.set d (.str l))|_=>none
 | .lens d x=>match x.ev s with| .str l=>some (true,s.set d (.int .i64 l.length))|_=>none
 | .lenl d x=>match x.ev s with| .sl _ _ l=>some (true,s.set d (.int .i64 l.length))|_=>none
 | .lnw d x=>match x.ev s with| .hd n=>some (true,s.set d (.int .i64 n))| .sw _ _ n=>some (true,s.set d (.int .i64 n))|_=>none
 | .apu d k x y=>match x.ev s,y.ev s with
   | .ul k' l,.sl g _ m=>if k'=k then if h:g=k' then some (decide ((l.length+m.length)*k'.bytes<=pu),(x.after s).set d (.ul k' (l++(h▸m)))) else none else none
   |_,_=>none
 | .ixw d k x i=>match x.ev s,i.ev s with
   | .sw k' id n,.int _ i=>if k'=k then some (decide (0<=i)&&decide (i<n),s.set d (.wp id k' i.toNat 0)) else none
   |_,_=>none
 | .fdw d e x=>match x.ev s with| .wp id k i o=>some (true,s.set d (.wp id k i (o+e)))|_=>none
 | .ldw d n agg x=>match x.ev s with
   | .wp id k i o=>match s.rowW id with
     |some ⟨k',xs⟩=>if k'=k∧o+n<=k'.sz then some (decide (i<xs.length),s.set d (disown (loaded agg (((enc k' (xs.getD i (ao k'))).drop o).take n)))) else none
     |none=>none
   |_=>none
 | .stw d n x v=>match x.ev s with
   | .wp id k i o=>match s.rowW id with
     |some ⟨k',xs⟩=>if k'=k∧(o+n<=k'.sz∧((v.ev s).cells.length==n&&(v.ev s).cells.all V.one)=true) then
       match wt k' (xs.getD i (ao k')) o (v.ev s).cells with
       |some B=>some (decide (i<xs.length),(s.setObj id [.rw k' (xs.set i B)]).setO d .undef)
       |none=>none
      else none
     |none=>none
   |_=>none
 | .idx d x i=>match x.ev s,i.ev s with
   | .str l,.int _ i=>some (decide (0<=i)&&decide (i<l.length),s.set d (.int .u8 (l.getD i.toNat 0).toNat))
   |_,_=>none
 | .ixa d k x i=>match x.ev s,i.ev s with
   | .sl k' _ l,.int _ i=>if k'=k then some (decide (0<=i)&&decide (i<l.length),s.set d (.ea (enc k' (l.getD i.toNat (ao k'))))) else none
   |_,_=>none
 | .subs d x q p=>match x.ev s with
   | .str l=>(acS l.length (jo s q) (jo s p)).map λ(c,a,b)=>(c,s.set d (.str ((l.take b).drop a)))
   |_=>none
 | .subl d k x q p=>match x.ev s with
   | .sl k' _ l=>if k'=k then (acS l.length (jo s q) (jo s p)).map λ(c,a,b)=>(c,s.set d (.sl k' (.may false) ((l.take b).drop a))) else none
   |_=>none
 | .bsl d k w u=>(decAll k (w.map (·.ev s))).map λl=>(true,s.set d (.sl k (cond u (.may true) .own) l))
 | .bld d zero w=>(lay zero (w.map λ(e,n,x)=>(e,n,x.ev s))).map λcs=>(true,s.set d (.agg cs))
 | .new d zero=>some (true,{s.set d (.ptr s.hp.length 0) with hp:=s.hp++[some zero]})
 | .box d x=>match x.ev s with
   | .agg cs=>some (true,{s.set d (.ptr s.hp.length 0) with hp:=s.hp++[some cs]})
   |v=>if v.one then some (true,{s.set d (.ptr s.hp.length 0) with hp:=s.hp++[some [disown v]]}) else none
 | .newb d zero=>some (true,{s.set d (.ptr s.hp.length 0) with hp:=s.hp++[some zero]})
 | .fad d e x=>match x.ev s with
   | .ea cs=>some (true,s.set d (.ea (cs.drop e)))
   | .ptr id o=>some (true,s.set d (.ptr id (o+e)))
   |_=>none
 | .ld d n agg j x=>match x.ev s with
   | .ea cs=>if n<=cs.length then some (true,s.set d (disown (loaded agg (cs.take n)))) else none
   | .ptr id o=>match s.obj id with
     |some cs=>if o+n<=cs.length then
       (if j then (if noBn (cs.getD o .undef) then some (true,(s.setObj id (cs.set o (disown (cs.getD o .undef)))).set d (loaded agg ((cs.drop o).take n))) else none)
       else some (true,s.set d (disown (loaded agg ((cs.drop o).take n)))))
      else none
     |none=>none
   |_=>none
 | .st d n x v=>match x.ev s with
   | .ptr id o=>match s.obj id with
     |some cs=>if ((v.ev s).cells.length==n&&(v.ev s).cells.all V.one)&&(decide (o+n<=cs.length)&&(v.ev s).cells.all noBn) then
       some (true,((v.after s).setObj id (cs.take o++(v.ev s).cells++cs.drop (o+n))).setO d .undef) else none
     |none=>none
   |_=>none
 | .app d k x y=>match x.ev s,y.ev s with
   | .sl k' o l,.sl g _ m=>
     if k'=k then
      if h:g=k' then some (o.app m.length&&decide ((l.length+m.length)*k'.bytes<=pu),(x.after s).set d (.sl k' .own (l++(h▸m)))) else none
     else none
   |_,_=>none
 | .apps d x y=>match x.ev s,y.ev s with
   | .sl .u8 .own l,.str m=>some (decide (l.length+m.length<=pu),(x.after s).set d (.sl .u8 .own (l++m)))
   |_,_=>none
 | .ext d i x=>match x.ev s with
   | .tup vs=>if i<vs.length then some (true,s.set d (disown (vs.getD i .undef))) else none
   |_=>none
 | .nck d x=>match x.ev s with
   | .ptr id o=>some (true,s.setO d (.ptr id o))
   | .ea cs=>some (true,s.setO d (.ea cs))
   | .wp id k i o=>some (true,s.setO d (.wp id k i o))
   |_=>none
 | .callz d f avs=>match Γ f (avs.map λx=>disown (x.ev s)) s.hp with
   |some (c,v,hp)=>some (c,({s with hp:=hp}:St).set d v.laid)
   |none=>none
 | .call d f avs=>match Γ f (avs.map λx=>disown (x.ev s)) s.hp with
   |some (c,v,hp)=>some (c,{s with hp:=hp}.setO d v)
   |none=>none
 | .alr d n=>some (true,s.set d (.raw n))
 | .frz d r n v=>match s.get r with
   | .raw m=>if AD m n&&((v.ev s).cells.length==n&&(v.ev s).cells.all V.one) then some (true,(s.set r (.ea ((v.ev s).cells.map disown))).setO d .undef) else none
   |_=>none
 | .lde d n agg x=>match x.ev s with
   | .ea cs=>if n<=cs.length then some (true,s.set d (disown (loaded agg (cs.take n)))) else none
   |_=>none
 | .boxe d x=>match x.ev s with
   | .agg cs=>some (true,s.set d (.ea (cs.map disown)))
   |v=>if v.one then some (true,s.set d (.ea [disown v])) else none
 | .mkm d k=>some (true,{s.set d (.mr s.hp.length) with hp:=s.hp++[some [.mp k []]]})
 | .mget d k ok x y=>match x.ev s with
   | .nilm=>(k.dkey (y.ev s)).map λ_=>(true,s.set d (afk k ok none))
   | .mr id=>match s.mapO id with
     |some ⟨k',es⟩=>if k'=k then (k'.dkey (y.ev s)).map λkey=>(true,s.set d (afk k' ok (aY es key))) else none
     |none=>none
   |_=>none
 | .mput d k x y z=>match x.ev s with
   | .mr id=>match s.mapO id with
     |some ⟨k',es⟩=>if k'=k then
       match k'.dkey (y.ev s),k'.dval (z.ev s) with
       |some key,some v=>some (true,(s.setObj id [.mp k' (cE es key v)]).setO d .undef)
       |_,_=>none
      else none
     |none=>none
   |_=>none
 | .apo d k x y=>match x.ev s,y.ev s with
   | .ul k' l,.sl g _ m=>if k'=k then if h:g=k' then if d<s.env.length then some (decide ((l.length+m.length)*k'.bytes<=pu)&&decide (0<(l++(h▸m)).length),{(x.after s).set d (.sw k' s.hp.length (l++(h▸m)).length) with hp:=s.hp++[some [.rw k' (l++(h▸m))],none]}) else none else none else none
   |_,_=>none
 | .mx d A x y=>match x.ev s,y.ev s with
   | .int k a,.int k' b=>if k=k' then some (true,s.set d (.int k (if A then (if b<a then b else a) else (if a<b then b else a)))) else none
   |_,_=>none
def IOp.dst:IOp->Option Nat
 | .mov d _| .pick d .. | .bin d .. | .un d .. | .cvi d .. | .b2s d _| .lens d _| .lenl d _| .idx d .. | .ixa d .. | .subs d .. | .subl d .. | .bsl d ..
 | .bld d .. | .new d _| .box d _| .newb d _| .fad d .. | .ld d .. | .app d .. | .apps d .. | .ext d .. | .mx d .. | .boxe d .. | .alr d _| .lde d .. | .apu d .. | .lnw d _| .ixw d .. | .fdw d .. | .ldw d .. | .mkm d _| .mget d .. | .callz d .. | .apo d ..=>some d
 | .st d .. | .nck d _| .call d .. | .frz d .. | .stw d .. | .mput d ..=>d
def ixl{α:Type}(n:Int)(l:List α):Bool:=decide (0<=n)&&decide (n<↑(Aa l))
def chk{R:Type}(c:Bool)(x:Option R):Option R:=match c with|true=>x|false=>none
def V.cellsA:V->List V
 | .agg cs=>cs
 |v=>[v]
def V.id1:V->List Nat
 | .ptr id _=>[id]
 | .sw _ id _=>[id]
 | .sx _ id _ _=>[id]
 |_=>[]
def pY(vs:List V):List Nat:=vs.flatMap λv=>v.cellsA.flatMap V.id1
def di:List V->List Nat
 | []=>[]
 | .ptr i 0::vs=>i::di vs
 |_::vs=>di vs
def anB(l:List Nat):List Nat:=l.flatMap λi=>AU (i+1)
def V.ea1:V->List Nat
 | .ea [.ptr i _]=>[i]
 |_=>[]
def V.mr1:V->List Nat
 | .mr i=>[i]
 |_=>[]
def V.pm1:V->List Nat
 | .ptr i _=>[i]
 | .mr i=>[i]
 |_=>[]
def at7(vs:List V):List Nat:=vs.flatMap λv=>match v with| .fn _ cs=>cs.flatMap V.ea1|v=>v.ea1
def at8(vs:List V):List Nat:=vs.flatMap λv=>match v with| .fn _ cs=>cs.flatMap V.pm1|v=>v.mr1
def yv(vs:List V):List Nat:=anB (pY vs++at7 vs)++at8 vs
def afl(vs:List V):List Nat:=anB (di vs++at7 vs)++at8 vs
def IOp.foot(o:IOp)(s:St):Option (List Nat×List Nat):=
 match o with
 | .ld _ _ _ a x=>match x.ev s with
   | .ptr id _=>some (cond a ([],[id]) ([id],[]))
   | .ea _=>some ([],[])
   |_=>none
 | .st _ _ x _=>match x.ev s with| .ptr id _=>some ([],[id])|_=>none
 | .call _ _ avs=>some (yv (avs.map λx=>disown (x.ev s)),afl (avs.map λx=>disown (x.ev s)))
 | .ldw _ _ _ x=>match x.ev s with| .wp id _ _ _=>some ([id],[])|_=>none
 | .stw _ _ x _=>match x.ev s with| .wp id _ _ _=>some ([],[id])|_=>none
 |_=>none
def IOp.within(o:IOp)(l:List Nat×List Nat)(s:St):Bool:=match o.foot s with
 |some (r,w)=>r.all (λi=>l.1.any (AD i)||l.2.any (AD i))&&w.all (λi=>l.2.any (AD i))
 |none=>false
def stepO(Γ:aq)(a:Option (List Nat×List Nat))(o:IOp)(s:St):Option (Bool×St):=match a with
 |none=>step Γ o s
 |some l=>cond (o.within l s) (step Γ o s) none
theorem lN{Γ:aq}{b:Option (List Nat×List Nat)}{o:IOp}{s:St}{p:Bool×St}(h:stepO Γ b o s=some p):step Γ o s=some p:=by
 unfold stepO at h;split at h;·exact h
 ·rename_i l;cases a:o.within l s with
  |true=>rw[a] at h;exact h
  |false=>rw[a] at h;simp at h
def runOps{R:Type}(Γ:aq):List GOp->(St->Option R)->St->Option R
 | [],K,s=>K s
 |⟨none,o,a⟩::r,K,s=>match stepO Γ a o s with
  |some (c,s')=>chk c (runOps Γ r K s')
  |none=>none
 |⟨some (g,w),o,a⟩::r,K,s=>match s.get g with
  | .bool b=>cond b
    (match w with
     |true=>match stepO Γ a o (s.set g (.bool true)) with
      |some (c,s')=>chk c (runOps Γ r K s')
      |none=>none
     |false=>runOps Γ r K ((s.set g (.bool true)).setO o.dst (.tup [])))
    (match w with
     |false=>match stepO Γ a o (s.set g (.bool false)) with
      |some (c,s')=>chk c (runOps Γ r K s')
      |none=>none
     |true=>runOps Γ r K ((s.set g (.bool false)).setO o.dst (.tup [])))
  | .tup []=>runOps Γ r K (s.setO o.dst (.tup []))
  |_=>none
inductive Occ where
 |slot (n:Nat)
 |cell (id j:Nat)
 |res
 deriving DecidableEq
inductive eL where
 |opn (o:Occ)
 |cls (o:Occ)
 |fz (o:Occ)
 |hol (n:Nat)
 |isf (d g:Nat) (cs:List V)
def St.at?(s:St):Occ->V
 | .slot n=>s.get n
 | .cell id j=>match s.obj id with|some cs=>cs.getD j .undef|none=>.undef
 | .res=>.undef
def St.put?(s:St)(o:Occ)(v:V):St:=match o with
 | .slot n=>s.set n v
 | .cell id j=>match s.obj id with|some cs=>s.setObj id (cs.set j v)|none=>s
 | .res=>s
def anI:List V->List V->Bool
 | [],[]=>true
 | .ptr i o::l,.ptr j q::m=>AD i j&&(AD o q&&anI l m)
 | .ea [.ptr i o]::l,.ea [.ptr j q]::m=>AD i j&&(AD o q&&anI l m)
 |_,_=>false
def eL.step(a:eL)(s:St):Option (Bool×St):=match a with
 | .opn o=>match s.at? o with
   | .ul k xs=>some (decide (0<xs.length),{s.put? o (.sw k s.hp.length xs.length) with hp:=(s.put? o (.sw k s.hp.length xs.length)).hp++[some [.rw k xs],none]})
   |_=>some (true,s)
 | .cls o=>match s.at? o with
   | .sw k id n=>match s.rowW id with
     |some ⟨k',xs⟩=>if k'=k then some (AD n xs.length,{s.put? o (.ul k' xs) with hp:=(s.put? o (.ul k' xs)).hp.set id none}) else none
     |none=>none
   |_=>some (true,s)
 | .fz o=>match s.at? o with
   | .ul k xs=>some (true,s.put? o (.sl k .own xs))
   |_=>some (true,s)
 | .hol n=>match s.get n with
   | .sw _ id _=>match s.rowH id with
     |some h=>match s.rowW h.id2 with
      |some ⟨b,ys⟩=>if b=h.k2 then
        match wt h.k (h.xs.getD h.i (ao h.k)) h.o [.sl b (.may false) ys] with
        |some e=>some (AD h.n2 ys.length&&decide (h.i<h.xs.length),{s with hp:=(s.hp.set id (some [.rw h.k (h.xs.set h.i e)])).set h.id2 none})
        |none=>none
       else none
      |none=>none
     |none=>none
   |_=>none
 | .isf d g cs=>match s.get d with
   | .fn f as6=>some (AD f g&&anI as6 cs,s)
   |_=>none
def aqz(s:St)(o:Occ):Bool:=match s.at? o with| .ul _ xs=>xs.isEmpty|_=>true
def WX:Nat:=3000000
def EK.soft:EK->Bool
 | .u8| .num _| .str| .bool| .jnode| .afield=>true
 |_=>false
def EK.hard:EK->Bool
 | .u8| .num _| .str| .bool=>true
 |_=>false
def EK.softE:EK->Bool
 | .atype=>true
 |k=>k.soft
def V.cellS:V->Bool
 | .int .. | .bool _| .str _| .nilp=>true
 | .sl .jnode (.may false) _| .sl .str (.may false) _=>true
 |_=>false
def V.soft1:V->Bool
 | .undef| .bool _| .int .. | .str _| .ptr .. | .nilp| .nilif| .hd .. | .sw .. | .wp .. | .mr _| .nilm| .raw _=>true
 | .sl k (.may _) _=>k.soft
 |_=>false
def V.soft:V->Bool
 | .agg cs| .tup cs=>cs.all V.soft1
 | .ea cs=>cs.all V.cellS
 |v=>v.soft1
def aqA:ai->Bool
 |none=>true
 |some [.mp _ _]=>true
 |some [.rw k _]=>k.softE
 |some cs=>cs.all λc=>match c with
  | .ul k _=>k.softE
  |c=>c.soft1
def aqB(s:St):Bool:=s.env.all V.soft&&s.hp.all aqA
def at9(cs:List V):Bool:=cs.all (λc=>match c with| .int .u8 _=>false|c=>c.cellS)&&cs.any λc=>match c with| .sl .. =>true|_=>false
def V.hard1:V->Bool
 | .undef| .bool _| .int .. | .str _| .nilp| .nilif| .ptr .. =>true
 | .sl .jnode (.may false) _=>true
 | .sl k (.may _) _=>k.hard
 |_=>false
def V.hard:V->Bool
 | .agg cs=>cs.all V.hard1
 | .ea cs=>cs.all V.cellS
 |v=>v.hard1
def V.harden(v:V):V:=match v.hard with|true=>v|false=>.undef
def aua:ai->Bool
 |none=>true
 |some cs=>cs.all λc=>c.hard&&c.one
def aub(a b:List V):Bool:= @decide (a=b) (Cy _)
def yn(o:ai):ai:=match aua o with|true=>o|false=>none
inductive WOp where
 |ste (n:Nat) (x v:ASrc)
 |call (d f:Nat) (args:List ASrc)
def WOp.step(Γ:aq)(o:WOp)(s:St):Option (Bool×St):=match o with
 | .ste n x v=>match x.ev s with
   | .ea cs=>some (Cs n cs.length&&(aub ((v.ev s).cells.map disown) (cs.take n)&&(at9 (cs.take n)&&aqB s)),s)
   |_=>none
 | .call d f avs=>match Γ (WX+f) (avs.map λx=>disown (x.ev s)) [] with
   |some (c,v,_)=>some (c,⟨(s.env.map V.harden).set d v,s.hp.map yn⟩)
   |none=>none
inductive IR where
 |skip
 |bad
 |reg (ops:List GOp) (pre:List (List Nat))
 |rgs (l:List (List eL×List GOp))
 |wk (l:List GOp) (pre:List (List Nat)) (mid:List GOp) (o:WOp) (more:List GOp)
 |seq (a b:IR)
 |cond (c:ASrc) (a b:IR)
 |block (id:Nat) (a:IR)
 |loop (live:List Nat) (n:Nat) (a:IR)
 |cut (live:List Nat) (n:Nat) (a:IR)
 |gh (g:eL) (a:IR)
 |ope (o:Occ) (a:IR)
 |ghp (g:eL) (a:IR)
 |exit (id:Nat)
 |ret
inductive Ex where
 |normal
 |exit (id:Nat)
 |ret
mutual
def V.lower(n:Nat):V->Bool
 | .ptr id _=>B9 id n
 | .so id _=>B9 id n
 | .rw _ _=>false
 | .sw _ id _=>B9 (id+1) n
 | .sx _ id _ _=>B9 (id+1) n
 | .wp id _ _ _=>B9 (id+1) n
 | .mr id=>B9 id n
 | .agg cs=>V.lowers n cs
 | .tup cs=>V.lowers n cs
 | .ea cs=>V.lowers n cs
 | .fn _ cs=>V.lowers n cs
 |_=>true
def V.lowers(n:Nat):List V->Bool
 | []=>true
 |v::r=>V.lower n v&&V.lowers n r
end
def pZ(a:List Nat)(n:Nat):Nat->List V->List V
 |_,[]=>[]
 |i,v::r=>(if a.elem i&&v.lower n then v else .undef)::pZ a n (i+1) r
def nK(n:Nat):List ai->Bool
 | []=>true
 |none::r=>nK n r
 |some cs::r=>V.lowers n cs&&nK n r
def St.keep(s:St)(a:List Nat)(n:Nat):St:={env:=pZ a n 0 s.env,hp:=cond (nK n (s.hp.take n)) (s.hp.take n) s.hp}
def bi{R:Type}:Nat->((St->Option R)->St->Option R)->St->Option R
 |0,_,_=>none
 |n+1,F,s=>F (bi n F) s
def kseq{R:Type}(b:(Ex->St->Option R)->St->Option R)(K:Ex->St->Option R):Ex->St->Option R
 | .normal,s=>b K s
 |e,s=>K e s
def aJ{R:Type}(id:Nat)(K:Ex->St->Option R):Ex->St->Option R
 | .exit j,s=>cond (AD j id) (K .normal s) (K (.exit j) s)
 |e,s=>K e s
def b7{R:Type}(a:St->Option R)(b:List Nat)(n:Nat)(K:Ex->St->Option R):Ex->St->Option R
 | .normal,s=>a (s.keep b n)
 |e,s=>K e s
def aiI{R:Type}(g:eL)(K:Ex->St->Option R):Ex->St->Option R
 | .normal,s=>match g.step s with
   |some (c,s')=>chk c (K .normal s')
   |none=>none
 |e,s=>K e s
def agO{R:Type}:List eL->(St->Option R)->St->Option R
 | [],K,s=>K s
 |a::l,K,s=>match a.step s with
  |some (c,s')=>chk c (agO l K s')
  |none=>none
def abz{R:Type}(Γ:aq):List (List eL×List GOp)->(St->Option R)->St->Option R
 | [],K,s=>K s
 |x::l,K,s=>agO x.1 (λs=>runOps Γ x.2 (abz Γ l K) s) s
def run{R:Type}(Γ:aq)(n:Nat):IR->(Ex->St->Option R)->St->Option R
 | .skip,K,s=>K .normal s
 | .bad,_,_=>none
 | .reg h _,K,s=>runOps Γ h (K .normal) s
 | .rgs l,K,s=>abz Γ l (K .normal) s
 | .wk l _ mid o f,K,s=>runOps Γ l (runOps Γ mid λs=>match o.step Γ s with|some (c,s')=>chk c (runOps Γ f (K .normal) s')|none=>none) s
 | .seq a b,K,s=>run Γ n a (kseq (run Γ n b) K) s
 | .cond c a b,K,s=>match c.ev s with
   | .bool t=>cond t (run Γ n a K (c.fix s true)) (run Γ n b K (c.fix s false))
   |_=>none
 | .block id a,K,s=>run Γ n a (aJ id K) s
 | .loop d m a,K,s=>bi n (λe s=>run Γ n a (b7 e d m K) s) (s.keep d m)
 | .cut d m a,K,s=>run Γ n a K (s.keep d m)
 | .gh g a,K,s=>match g.step s with
   |some (c,s')=>chk c (run Γ n a K s')
   |none=>none
 | .ope o a,K,s=>cond (aqz s o) (match (eL.fz o).step s with
   |some (c,s')=>chk c (run Γ n a K s')
   |none=>none) (match (eL.opn o).step s with
   |some (c,s')=>chk c (run Γ n a K s')
   |none=>none)
 | .ghp g a,K,s=>run Γ n a (aiI g K) s
 | .exit id,K,s=>K (.exit id) s
 | .ret,K,s=>K .ret s
def aK{α R:Type}:Nat->((α->Option R)->α->Option R)->α->Option R
 |0,_,_=>none
 |n+1,B,x=>B (aK n B) x
theorem bm{α R:Type}(b:α->St)(F:(St->Option R)->St->Option R)(B:(α->Option R)->α->Option R)
  (h:∀a x,F a (b x)=B (λy=>a (b y)) x):∀m x,bi m F (b x)=aK m B x
 |0,_=>rfl
 |m+1,x=>by
  show F (bi m F) (b x)=B (aK m B) x;rw[h]
  congr 1
  funext y;exact bm b F B h m y
inductive RV where
 |t (n:Nat)
 |cell (n size:Nat) (agg:Bool)
def RV.ev(s:St):RV->Option V
 | .t n=>some (s.get n)
 | .cell n a agg=>match s.get n with
   | .ptr id o=>match s.obj id with
     |some cs=>if o+a<=cs.length then some (disown (loaded agg ((cs.drop o).take a))) else none
     |none=>none
   | .ea cs=>if a<=cs.length then some (disown (loaded agg (cs.take a))) else none
   |_=>none
def rvs(s:St):List RV->Option (List V)
 | []=>some []
 |r::l=>match r.ev s,rvs s l with|some v,some vs=>some (v::vs)|_,_=>none
def resultOf(s:St)(a:List RV):Option V:=
 match rvs s a with
 |some [v]=>some v
 |some vs=>some (.tup (vs.map disown))
 |none=>none
def fin(a:List RV):Ex->St->Option (V×List ai)
 | .normal,s| .ret,s=>(resultOf s a).map λv=>(v,s.hp)
 |_,_=>none
def start(b:Nat)(a:List V)(hp:List ai):St:={env:=a++List.replicate (b-a.length) .undef,hp}
def callF(Γ:aq)(n a:Nat)(e:List RV)(b:IR)(d:List V)(hp:List ai):Option (V×List ai):=
 run Γ n b (fin e) (start a d hp)
def Zed:Prop:=False
structure Gh where
 I:Nat->Nat->Prop
 ρ:Nat->Nat
 O:Nat->Option Occ
 β:Nat
def eu(c:V)(cv:Value):Prop:=
 match c,cv with
 | .sl _ .own _,.slice (some _) _ _=>False
 | .bn _ _,_=>False
 | .raw _,_=>False
 | .ul _ xs,cv=>xs.length=0∧cv=.slice none 0 0
 |_,_=>True
inductive VRel(I:Nat->Nat->Prop)(ρ:Nat->Nat)(N:Nat)(w:World):V->Value->Prop where
 |undef (cv:Value):VRel I ρ N w .undef cv
 |bool (b:Bool):VRel I ρ N w (.bool b) (.bool b)
 |int (k:IntKind) (n:Int) (h:k.min<=n∧n<=k.max):VRel I ρ N w (.int k n) (.int k n)
 |str (l:List UInt8) (s:ByteArray) (hl:s.data.toList=l) (h:s.size<=dc):VRel I ρ N w (.str l) (.string s)
 |sln (k:EK) (o:Fl):VRel I ρ N w (.sl k o []) (.slice none 0 0)
 |sle (k:EK) (o:Fl) (ad:Addr) (ho:o≠.own):VRel I ρ N w (.sl k o []) (.slice (some ad) 0 0)
 |sl (k:EK) (o:Fl) (xs:List (Ty k)) (b off len cap:Nat) (hl:xs.length=len) (hc:xs.length<=cap) (hm:cap<=dc) (hf:o=.may true->len=cap) (f:Nat->Nat->Value)
   (hI:∀i x j,xs[i]? =some x->j<(enc k x).length->I b (off+i*k.sz+j))
   (hw:∀i x j,xs[i]? =some x->j<(enc k x).length->w.cell? ⟨b,off+i*k.sz+j,none⟩=some (f i j))
   (hv:∀i x j v,xs[i]? =some x->(enc k x)[j]? =some v->VRel I ρ N w v (f i j)):
   VRel I ρ N w (.sl k o xs) (.slice (some ⟨b,off,none⟩) len cap)
 |agg (cs:List V) (vs:Array Value) (hl:cs.length=vs.size) (h1:∀c∈cs,c.one=true) (hb:∀(i:Nat) c cv,cs[i]? =some c->vs[i]? =some cv->eu c cv)
   (hv:∀(i:Nat) c cv,cs[i]? =some c->vs[i]? =some cv->VRel I ρ N w c cv):VRel I ρ N w (.agg cs) (.agg vs)
 |tup (cs:List V) (vs:Array Value) (hl:cs.length=vs.size)
   (hv:∀(i:Nat) c cv,cs[i]? =some c->vs[i]? =some cv->VRel I ρ N w c cv):VRel I ρ N w (.tup cs) (.tuple vs)
 |ea (cs:List V) (b off:Nat) (f:Nat->Value) (h1:∀c∈cs,c.one=true)
   (hI:∀j,j<cs.length->I b (off+j))
   (hw:∀j,j<cs.length->w.cell? ⟨b,off+j,none⟩=some (f j))
   (hv:∀(j:Nat) c,cs[j]? =some c->VRel I ρ N w c (f j)):VRel I ρ N w (.ea cs) (.pointer (some ⟨b,off,none⟩))
 |ptr (id off:Nat) (h:id<N):VRel I ρ N w (.ptr id off) (.pointer (some ⟨ρ id,off,none⟩))
 |nilp:VRel I ρ N w .nilp (.pointer none)
 |fn (f:Nat) (cs:List V) (vs:Array Value) (hl:cs.length=vs.size)
   (hv:∀(i:Nat) c cv,cs[i]? =some c->vs[i]? =some cv->VRel I ρ N w c cv):VRel I ρ N w (.fn f cs) (.func (.func f) #[] vs)
 |nilif:VRel I ρ N w .nilif .nilIface
 |bn (E n:Nat) (p:Option Addr):VRel I ρ N w (.bn E n) (.pointer p)
 |junk (cv:Value) (h:cv.oneCell'=true):VRel I ρ N w .junk cv
 |so (id n cap:Nat) (h:id<N) (hc:n<=cap) (hm:cap<=dc):VRel I ρ N w (.so id n) (.slice (some ⟨ρ id,0,none⟩) n cap)
 |raw (n b:Nat):VRel I ρ N w (.raw n) (.pointer (some ⟨b,0,none⟩))
 |ul (k:EK) (xs:List (Ty k)) (ad:Option Addr) (cap:Nat) (hm:xs.length<=dc):VRel I ρ N w (.ul k xs) (.slice ad xs.length cap)
 |hd (n:Nat) (ad:Option Addr) (cap:Nat) (hm:n<=dc):VRel I ρ N w (.hd n) (.slice ad n cap)
 |sw (k:EK) (id n:Nat) (h:id+1<N) (hc:n<=ρ (id+1)) (hm:ρ (id+1)<=dc):VRel I ρ N w (.sw k id n) (.slice (some ⟨ρ id,0,none⟩) n (ρ (id+1)))
 |sx (k:EK) (id off n ad cap:Nat) (h:id+1<N) (hc:off+n<=ρ (id+1)) (hm:ρ (id+1)<=dc) (hl:n<=cap) (ha:0<n->ad=off*k.sz):VRel I ρ N w (.sx k id off n) (.slice (some ⟨ρ id,ad,none⟩) n cap)
 |wp (id:Nat) (k:EK) (i o:Nat) (h:id+1<N):VRel I ρ N w (.wp id k i o) (.pointer (some ⟨ρ id,i*k.sz+o,none⟩))
 |mr (id:Nat) (h:id<N):VRel I ρ N w (.mr id) (.map (some (ρ id)))
 |nilm:VRel I ρ N w .nilm (.map none)
structure Up(I:Nat->Nat->Prop)(ρ:Nat->Nat)(N:Nat)(w:World)(I':Nat->Nat->Prop)(ρ':Nat->Nat)(N':Nat)(w':World):Prop where
 mono:∀b j,I b j->I' b j
 cell:∀b j,I b j->w'.cell? ⟨b,j,none⟩=w.cell? ⟨b,j,none⟩
 rho:∀id,id<N->ρ' id=ρ id
 num:N<=N'
theorem Up.refl(I:Nat->Nat->Prop)(ρ:Nat->Nat)(N:Nat)(w:World):Up I ρ N w I ρ N w:=⟨λ_ _ h=>h,λ_ _ _=>rfl,λ_ _=>rfl,Ar _⟩
theorem Up.trans{I I' g:Nat->Nat->Prop}{ρ ρ' a:Nat->Nat}{N N' e:Nat}{w w' f:World}(h:Up I ρ N w I' ρ' N' w')(k:Up I' ρ' N' w' g a e f):
  Up I ρ N w g a e f:=
 ⟨λb j i=>k.mono b j (h.mono b j i),λb j i=>(k.cell b j (h.mono b j i)).trans (h.cell b j i),
  λid d=>(k.rho id (AE d h.num)).trans (h.rho id d),AR h.num k.num⟩
theorem VRel.up{I I':Nat->Nat->Prop}{ρ ρ':Nat->Nat}{N N':Nat}{w w':World}(u:Up I ρ N w I' ρ' N' w'){v:V}{cv:Value}(h:VRel I ρ N w v cv):
  VRel I' ρ' N' w' v cv:=by
 induction h with
 |undef cv=>exact .undef cv
 |bool b=>exact .bool b
 |int k n h=>exact .int k n h
 |str l s d h=>exact .str l s d h
 |sln k o=>exact .sln k o
 |sle k o y H=>exact .sle k o y H
 |sl k o xs b a len cap d t g J f A D C m=>exact .sl k o xs b a len cap d t g J f (λi x j q B=>u.mono _ _ (A i x j q B)) (λi x j q B=>(u.cell _ _ (A i x j q B)).trans (D i x j q B)) m
 |agg cs vs d q G C m=>exact .agg cs vs d q G m
 |tup cs vs d C m=>exact .tup cs vs d m
 |ea cs b a f q A D C m=>exact .ea cs b a f q (λj h=>u.mono _ _ (A j h)) (λj h=>(u.cell _ _ (A j h)).trans (D j h)) m
 |ptr id a h=>rw[<-u.rho id h];exact .ptr id a (AE h u.num)
 |nilp=>exact .nilp
 |fn f cs vs d C m=>exact .fn f cs vs d m
 |nilif=>exact .nilif
 |bn E n p=>exact .bn E n p
 |junk cv h=>exact .junk cv h
 |so id n cap h t g=>rw[<-u.rho id h];exact .so id n cap (AE h u.num) t g
 |raw n b=>exact .raw n b
 |ul k xs y cap g=>exact .ul k xs y cap g
 |hd n y cap g=>exact .hd n y cap g
 |sw k id n h t g=>have e:=u.rho (id+1) h;have F:id+1<N':=AE h u.num;rw[<-u.rho id (by omega),<-e];exact .sw k id n F (by rw[e];exact t) (by rw[e];exact g)
 |sx k id a n y cap h t g d L=>have e:=u.rho (id+1) h;have F:id+1<N':=AE h u.num;rw[<-u.rho id (by omega)];exact .sx k id a n y cap F (by rw[e];exact t) (by rw[e];exact g) d L
 |wp id k i o h=>rw[<-u.rho id (by omega)];exact .wp id k i o (AE h u.num)
 |mr id h=>rw[<-u.rho id h];exact .mr id (AE h u.num)
 |nilm=>exact .nilm
section
variable{I:Nat->Nat->Prop}{ρ:Nat->Nat}{N:Nat}{w:World}
theorem VRel.own{k:EK}{o o':Fl}{xs:List (Ty k)}{cv:Value}(h:VRel I ρ N w (.sl k o xs) cv)(g:o'=.may true->o=.may true)(j:o'≠.own):VRel I ρ N w (.sl k o' xs) cv:=by
 cases h with
 |sln=>exact .sln _ _
 |sle _ _ m _=>exact .sle _ _ m j
 |sl _ _ _ b a len cap d q e u f p i t=>exact .sl k o' xs b a len cap d q e (λh=>u (g h)) f p i t
theorem VRel.disown{v:V}{cv:Value}(h:VRel I ρ N w v cv):VRel I ρ N w (disown v) cv:=by cases v<;>simp only[AM.disown]<;>first|exact h|exact h.own (by rename_i o _;cases o<;>simp[Fl.dis]) (by rename_i o _;cases o<;>simp[Fl.dis])|(cases h;exact .junk _ rfl)|(cases h;rename_i a;exact .hd _ _ _ a)|exact .undef _
theorem acT(v:V)(cv:Value):eu (AM.disown v) cv:=by
 cases v with
 |sl k o xs=>cases o<;>simp[AM.disown,eu,Fl.dis]
 |_=>simp[AM.disown,eu]
theorem lO(v:V):(disown v).one=v.one:=by cases v<;>rfl
theorem VRel.oneCell{v:V}{cv:Value}(h:VRel I ρ N w v cv)(a:v.one=true):cv.oneCell'=true:=by cases h<;>first|rfl|assumption|simp[V.one] at a
theorem yo(k:EK)(x:Ty k):∀c∈enc k x,c.one=true:=by cases k<;>simp[enc,V.one]
theorem bT(k:EK)(x:Ty k):(enc k x).length=k.sz:=by cases k<;>rfl
theorem VRel.weak{v:V}{cv:Value}(h:VRel I ρ N w v cv):VRel I ρ N w v.weak cv:=by cases v<;>simp only[V.weak]<;>first|exact h.own (by simp) (by simp)|exact h.disown
theorem VRel.full{k:EK}{xs:List (Ty k)}{a:Addr}{len cap:Nat}(h:VRel I ρ N w (.sl k (.may true) xs) (.slice (some a) len cap)):len=cap:=by
 cases h with
 |sle=>rfl
 |sl _ _ _ b d _ _ g p i e f o j m=>exact e rfl
theorem anJ(k:EK)(x:Ty k):(enc k x).map V.weak=enc k x:=by cases k<;>rfl
def V.inRange:V->Prop
 | .int k n=>k.min<=n∧n<=k.max
 |_=>True
theorem VRel.inRange{v:V}{cv:Value}(h:VRel I ρ N w v cv):v.inRange:=by cases h<;>simp only[V.inRange]<;>assumption
theorem akh{k:EK}{cs:List V}{x:Ty k}(h:dec k cs=some x)(a:∀c∈cs,c.inRange):enc k x=cs.map V.weak:=by
 unfold dec at h
 split at h<;>first
  |(cases Ax h;rfl)
  |(cases Ax h;simp[enc,V.weak,AM.disown];done)
  |(
    cases Ax h;have:=a _ (Au.2 rfl);simp only[V.inRange,CF,Cr,Bj,BA] at this;simp[enc,V.weak,AM.disown] at this ⊢;omega)
  |exact absurd h (by simp)
end
def V.flat1:V->Bool
 | .bool _| .int _ _| .str _| .sl _ _ _| .nilp| .nilif| .fn _ []=>true
 |_=>false
section
variable{I:Nat->Nat->Prop}{ρ ρ':Nat->Nat}{N N':Nat}{w:World}
theorem acU(k:EK)(x:Ty k):∀c∈enc k x,c.flat1=true:=by cases k<;>simp[enc,V.flat1]
theorem VRel.flat1{v:V}{cv:Value}(h:VRel I ρ N w v cv):v.flat1=true->VRel I ρ' N' w v cv:=by
 induction h with
 |undef cv=>intro a;simp[V.flat1] at a
 |bool b=>intro _;exact .bool b
 |int k n h=>intro _;exact .int k n h
 |str l s d h=>intro _;exact .str l s d h
 |sln k o=>intro _;exact .sln k o
 |sle k o y q=>intro _;exact .sle k o y q
 |sl k o xs b e len cap d t p a f A u C g=>intro _;exact .sl k o xs b e len cap d t p a f A u (λi x j v B m=>g i x j v B m (acU k x v (Am m)))
 |agg=>intro a;simp[V.flat1] at a
 |tup=>intro a;simp[V.flat1] at a
 |ea=>intro a;simp[V.flat1] at a
 |ptr=>intro a;simp[V.flat1] at a
 |nilp=>intro _;exact .nilp
 |fn f cs vs d C g=>
  intro a;cases cs with
  |nil=>exact .fn f [] vs d (by simp)
  |cons c cs=>simp[V.flat1] at a
 |nilif=>intro _;exact .nilif
 |bn=>intro a;simp[V.flat1] at a
 |junk=>intro a;simp[V.flat1] at a
 |so=>intro a;simp[V.flat1] at a
 |raw=>intro a;simp[V.flat1] at a
 |ul=>intro a;simp[V.flat1] at a
 |hd=>intro a;simp[V.flat1] at a
 |sw=>intro a;simp[V.flat1] at a
 |sx=>intro a;simp[V.flat1] at a
 |wp=>intro a;simp[V.flat1] at a
 |mr=>intro a;simp[V.flat1] at a
 |nilm=>intro a;simp[V.flat1] at a
end
def afm(a:Nat×Nat)(n:Nat):Prop:=∀j,j<n->¬(a.1<=j∧j<a.2)
theorem avE(n:Nat):afm (0,0) n:=by intro j _;simp
def aaN(g:Gh)(w:World)(d:Occ)(k:EK)(xs:List (Ty k))(cv:Value):Prop:=
 (xs=[]∧cv=.slice none 0 0)∨
 ∃b cap a e f,afm f a.size∧cv=.slice (some ⟨b,0,none⟩) xs.length cap∧xs.length<=cap∧cap<=dc∧g.O b=some d∧w.heap[b]? =some (.cells a e f)∧cap*k.sz<=a.size∧(k=.u8->e=g.β)∧
  (∀j,¬g.I b j)∧∀(i:Nat) x (j:Nat) v u,xs[i]? =some x->(enc k x)[j]? =some v->a[i*k.sz+j]? =some u->VRel g.I (λ_=>0) 0 w v u
def ap(g:Gh)(w:World)(d:Occ)(v:V)(cv:Value):Prop:=
 match v,cv with
 | .sl k .own _,.slice (some a) len cap=>
   g.O a.block=some d∧(∃b e f,w.heap[a.block]? =some (.cells b e f)∧a.off+cap*k.sz<=b.size∧(k=.u8->e=g.β))∧
    ∀j,a.off+len*k.sz<=j->j<a.off+cap*k.sz->¬g.I a.block j∧w.frozen? ⟨a.block,j,none⟩=false
 | .raw n,.pointer (some a)=>g.O a.block=some d∧(∃b e,w.heap[a.block]? =some (.cells b e (0,0))∧b.size=n)∧∀j,¬g.I a.block j
 | .ul k xs,cv=>aaN g w d k xs cv
 |_,_=>True
theorem aaN.keep{g d:Gh}{w w':World}{a:Occ}{k:EK}{xs:List (Ty k)}{cv:Value}(h:aaN g w a k xs cv)(m:d.β=g.β)
  (q:∀b j,g.I b j->d.I b j∧w'.cell? ⟨b,j,none⟩=w.cell? ⟨b,j,none⟩)
  (f:∀b,g.O b=some a->d.O b=some a∧w'.heap[b]? =w.heap[b]?∧∀j,d.I b j->g.I b j):aaN d w' a k xs cv:=by
 rcases h with h|⟨b,cap,p,e,W,t,M,S,F,C,E,A,J,R,P⟩
 ·exact .inl h
 ·obtain⟨y,L,B⟩:=f b C;refine .inr ⟨b,cap,p,e,W,t,M,S,F,y,L.trans E,A,λf=>(J f).trans m.symm,λj D=>R j (B j D),λi x j v u H G Q=>?_⟩;exact(P i x j v u H G Q).up ⟨λb j o=>(q b j o).1,λb j o=>(q b j o).2,λ_ _=>rfl,Ar _⟩
theorem cH{g f:Gh}{w w':World}{a:Occ}{v:V}{cv:Value}(h:ap g w a v cv)
  (m:f.β=g.β) (D:∀b j,g.I b j->f.I b j∧w'.cell? ⟨b,j,none⟩=w.cell? ⟨b,j,none⟩)
  (i:∀b,g.O b=some a->f.O b=some a∧w'.heap[b]? =w.heap[b]?∧∀j,f.I b j->g.I b j):ap f w' a v cv:=by
 unfold ap at h ⊢;split;·rename_i k xs J len cap;obtain⟨C,⟨d,e,H,A,x,E⟩,t⟩:=h;obtain⟨p,o,q⟩:=i _ C;refine⟨p,⟨d,e,H,o.trans A,x,λi=>by rw[m];exact E i⟩,λj y u=>?_⟩;obtain⟨G,F⟩:=t j y u;refine⟨λB=>G (q j B),?_⟩;simpa [BD,o] using F
 ·obtain⟨C,⟨d,e,A,x⟩,t⟩:=h;obtain⟨p,o,q⟩:=i _ C;exact⟨p,⟨d,e,o.trans A,x⟩,λj B=>t j (q j B)⟩
 ·exact aaN.keep h m D i
 ·trivial
theorem ap.disown(g:Gh)(w:World)(a:Occ)(v:V)(cv:Value):ap g w a (AM.disown v) cv:=by
 cases v with
 |sl k o xs=>cases o<;>simp[AM.disown,ap,Fl.dis]
 |_=>simp only[AM.disown,ap]
def cellsOf:List V->List V
 | [.rb xs]=>xs.map λb=>.int .u8 b.toNat
 | [.rw k xs]=>xs.flatMap (enc k)
 | [.tup [.rw k xs,.sw e a d,.wp _ _ i o]]=>(xs.flatMap (enc k)).set (i*k.sz+o) (.sw e a d)
 |cs=>cs
theorem eM{cs:List V}(h:cF cs=false):cellsOf cs=cs:=by
 unfold cellsOf;split;·simp[cF] at h
 ·simp[cF] at h
 ·simp[cF] at h
 ·rfl
theorem arS{vs:List V}{j:Nat}{c:V}(a:(cellsOf [.tup vs])[j]? =some c)(h:c.one=true):(∃k x,c∈enc k x)∨∃g b f,vs.any (λv=>match v with| .sw k id n=>decide (k=g∧id=b∧n=f)|_=>false)=true∧c=.sw g b f:=by
 unfold cellsOf at a;split at a;·rename_i e;cases e
 ·rename_i e;cases e
 ·rename_i k xs g b f _ _ i o e;cases e;rw[Ay] at a;split at a
  ·split at a;·obtain rfl:=Ax a;exact .inr ⟨g,b,f,by simp,rfl⟩
   ·simp at a
  ·have d:=Am a;simp only[AX] at d;obtain⟨y,_,d⟩:=d;exact .inl ⟨k,y,d⟩
 ·have d:=Am a;simp only[Au] at d;subst d;simp[V.one] at h
def agP:List V->Option ((k:EK)×List (Ty k))
 | [.rw k xs]=>some ⟨k,xs⟩
 | [.tup [.rw k xs,.sw _ _ _,.wp _ _ _ _]]=>some ⟨k,xs⟩
 |_=>none
theorem mh{cs:List V}(h:cF cs=false):agP cs=none:=by
 unfold agP;split;·simp[cF] at h
 ·simp[cF] at h
 ·rfl
structure pv(g:Gh)(N:Nat)(w:World)(id:Nat)(cs:List V)(arr:Array Value)(e:TypeId)(fz:Nat×Nat):Prop where
 len:(cellsOf cs).length<=arr.size
 plain:cF cs=false->cs.length=arr.size∧fz=(0,0)
 typed:∀k xs,agP cs=some ⟨k,xs⟩->afm fz arr.size∧g.ρ (id+1)*k.sz<=arr.size∧id+1<N∧(k=.u8->e=g.β)
 cold:∀j,j<(cellsOf cs).length->¬(fz.1<=j∧j<fz.2)
 one:∀c∈cellsOf cs,c.one=true
 rel:∀(j:Nat) c cv,(cellsOf cs)[j]? =some c->arr[j]? =some cv->VRel g.I g.ρ N w c cv
 own:∀(j:Nat) c cv,(cellsOf cs)[j]? =some c->arr[j]? =some cv->ap g w (.cell id j) c cv
 bn:∀(j E n:Nat),(cellsOf cs)[j]? =some (.bn E n)->E=e∧n=arr.size∧(arr[j]? =some (.pointer none)∨arr[j]? =some (.pointer (some ⟨g.ρ id,j,none⟩)))
theorem pv.typedUp{g j:Gh}{N N':Nat}{w:World}{id:Nat}{cs:List V}{i f:Array Value}{e:TypeId}{o:Nat×Nat}(h:pv g N w id cs i e o)
  (m:j.β=g.β) (t:∀id,id<N->j.ρ id=g.ρ id) (v:N<=N') (p:i.size=f.size):
  ∀k xs,agP cs=some ⟨k,xs⟩->afm o f.size∧j.ρ (id+1)*k.sz<=f.size∧id+1<N'∧(k=.u8->e=j.β):=by
 intro k xs q;obtain⟨a,b,c,d⟩:=h.typed k xs q;exact⟨p▸a,by rw[t _ c];omega,by omega,λu=>(d u).trans m.symm⟩
structure afn(g:Gh)(N:Nat)(w:World)(id:Nat)(cs:List V)(arr:Array Value)(e:TypeId):Prop where
 len:cs.length=arr.size
 one:∀c∈cs,c.one=true
 rel:∀(j:Nat) c cv,cs[j]? =some c->arr[j]? =some cv->VRel g.I g.ρ N w c cv
 own:∀(j:Nat) c cv,cs[j]? =some c->arr[j]? =some cv->ap g w (.cell id j) c cv
 bn:∀(j E n:Nat),cs[j]? =some (.bn E n)->E=e∧n=arr.size∧(arr[j]? =some (.pointer none)∨arr[j]? =some (.pointer (some ⟨g.ρ id,j,none⟩)))
theorem alI{cs:List V}(h:∀c∈cs,c.one=true):cF cs=false:=by
 unfold cF;split;·have:=h _ (Au.2 rfl);simp[V.one] at this
 ·have:=h _ (Au.2 rfl);simp[V.one] at this
 ·have:=h _ (Au.2 rfl);simp[V.one] at this
 ·rfl
theorem pv.low{g:Gh}{N:Nat}{w:World}{id:Nat}{cs:List V}{j:Array Value}{e:TypeId}{m:Nat×Nat}(h:pv g N w id cs j e m)(k:cF cs=false):
  m=(0,0)∧afn g N w id cs j e:=by
 have o:=eM k;obtain⟨a,b,t,c,d,f,g,i⟩:=h;rw[o] at d f g i;exact⟨(b k).2,(b k).1,d,f,g,i⟩
theorem afn.high{g:Gh}{N:Nat}{w:World}{id:Nat}{cs:List V}{k:Array Value}{e:TypeId}(h:afn g N w id cs k e):pv g N w id cs k e (0,0):=by have m:=alI h.one;have b:=eM m;obtain⟨a,d,f,g,i⟩:=h;exact⟨by rw[b,a];exact Ar _,λ_=>⟨a,rfl⟩,by rw[mh m];simp,by intro j _;simp,by rw[b];exact d,by rw[b];exact f,by rw[b];exact g,by rw[b];exact i⟩
def MK.keyV:(k:MK)->k.K->Value
 | .pb,x=>.agg #[.int .i64 x.1,.int .i64 x.2]
 | .bs,x=>.int .u8 x
 | .bn,x=>.int .u8 x
 | .ib,x=>.int .i64 x
 | .sn,x=>.string ⟨x.toArray⟩
 | .sb,x=>.string ⟨x.toArray⟩
def MK.valV:(k:MK)->k.T->Value
 | .pb,x=>.bool x
 | .bs,x=>.string ⟨x.toArray⟩
 | .bn,x=>.int .i64 x
 | .ib,x=>.bool x
 | .sn,x=>.int .i64 x
 | .sb,x=>.bool x
def kj:List V->Bool
 | [.mp _ _]=>true
 |_=>false
def MK.okT:(k:MK)->k.T->Prop
 | .pb,_=>True
 | .bs,x=>x.length<=dc
 | .bn,x=>IntKind.i64.min<=x∧x<=IntKind.i64.max
 | .ib,_=>True
 | .sb,_=>True
 | .sn,x=>IntKind.i64.min<=x∧x<=IntKind.i64.max
def fR{k:MK}(es:List (k.K×k.T))(ents:Array MapEntry)(clock:Nat):Prop:=
 es.length=ents.size∧clock=ents.size∧∀(i:Nat) e en,es[i]? =some e->ents[i]? =some en->en.born=i∧en.key=k.keyV e.1∧en.val=k.valV e.2∧k.okT e.2
structure jw(g:Gh)(N:Nat)(w:World)(id:Nat)(cs:List V):Prop where
 row:kj cs=false->∃arr e fz,w.heap[g.ρ id]? =some (.cells arr e fz)∧pv g N w id cs arr e fz
 map:∀(k:MK) es,cs=[.mp k es]->∃ents clock,w.heap[g.ρ id]? =some (.map ents clock)∧fR es ents clock
theorem yw{cs:List V}(h:kj cs=true):∃k es,cs=[.mp k es]:=by
 unfold kj at h;split at h;·exact⟨_,_,rfl⟩
 ·simp at h
theorem jw.block{g:Gh}{N:Nat}{w:World}{id:Nat}{cs:List V}(h:jw g N w id cs):∃x,w.heap[g.ρ id]? =some x:=by
 cases b:kj cs with
 |false=>obtain⟨d,e,f,a,_⟩:=h.row b;exact⟨_,a⟩
 |true=>obtain⟨k,es,rfl⟩:=yw b;obtain⟨ents,c,a,_⟩:=h.map k es rfl;exact⟨_,a⟩
theorem jw.lt{g:Gh}{N:Nat}{w:World}{id:Nat}{cs:List V}(h:jw g N w id cs):g.ρ id<w.heap.size:=by obtain⟨x,a⟩:=h.block;exact(AQ.1 a).1
theorem jw.keep{g i:Gh}{N N':Nat}{w w':World}{id b:Nat}{cs:List V}(h:jw g N w id cs)(m:w'.heap[i.ρ b]? =w.heap[g.ρ id]?)(p:∀a e d,w.heap[g.ρ id]? =some (.cells a e d)->pv g N w id cs a e d->pv i N' w' b cs a e d):jw i N' w' b cs:=
 ⟨λo=>by obtain⟨a,e,d,f,j⟩:=h.row o;exact⟨a,e,d,m.trans f,p a e d f j⟩,λk es q=>by obtain⟨ents,c,f,j⟩:=h.map k es q;exact⟨ents,c,m.trans f,j⟩⟩
theorem jw.ofRow{g:Gh}{N:Nat}{w:World}{id:Nat}{cs:List V}{a:Array Value}{e:TypeId}{b:Nat×Nat}(i:w.heap[g.ρ id]? =some (.cells a e b))(h:pv g N w id cs a e b)(d:kj cs=false):jw g N w id cs:=
 ⟨λ_=>⟨a,e,b,i,h⟩,λk es f=>by subst f;simp[kj] at d⟩
theorem arT{cs:List V}(h:∀c∈cs,c.one=true):kj cs=false:=by
 cases a:kj cs with
 |false=>rfl
 |true=>obtain⟨k,es,rfl⟩:=yw a;have:=h _ (Au.2 rfl);simp[V.one] at this
theorem jw.ofRow0{g:Gh}{N:Nat}{w:World}{id:Nat}{cs:List V}{a:Array Value}{e:TypeId}(d:w.heap[g.ρ id]? =some (.cells a e (0,0)))(b:afn g N w id cs a e):jw g N w id cs:=
 .ofRow d b.high (arT b.one)
def p7(w:World)(b j:Nat):Prop:=(w.cell? ⟨b,j,none⟩).isSome=true∧(Zed->w.frozen? ⟨b,j,none⟩=true->∃n,w.cell? ⟨b,j,none⟩=some (.int .u8 n))
theorem p7.blk{w w':World}{b j:Nat}(h:p7 w b j)(a:w'.heap[b]? =w.heap[b]?):p7 w' b j:=by
 unfold p7 Bv BD at*
 rw[a];exact h
theorem p7.same{w w':World}{b j:Nat}(h:p7 w b j)(a:w'.cell? ⟨b,j,none⟩=w.cell? ⟨b,j,none⟩)(d:w'.frozen? ⟨b,j,none⟩=w.frozen? ⟨b,j,none⟩):p7 w' b j:=by
 unfold p7 at*
 rw[a,d];exact h
theorem p7.row{w:World}{b j:Nat}{a:Array Value}{e:TypeId}{d:Nat×Nat}(h:w.heap[b]? =some (.cells a e d))(i:j<a.size)(k:Zed->d.1<=j∧j<d.2->∃n,a[j]? =some (.int .u8 n)):p7 w b j:=by
 have g:w.cell? ⟨b,j,none⟩=a[j]?:=by simp[Bv,h]
 refine⟨by rw[g,As i];rfl,λz f=>?_⟩;rw[g];refine k z ?_;simp only[BD,h,Ac,decide_eq_true_eq] at f;exact f
theorem p7.set{w w':World}{b a j:Nat}{f d:Array Value}{e:TypeId}{i:Nat×Nat}(h:p7 w a j)(k:w'.cell? ⟨a,j,none⟩=w.cell? ⟨a,j,none⟩)(m:w.heap[b]? =some (.cells f e i))(p:w'.heap[b]? =some (.cells d e i))(o:∀c,c≠b->w'.heap[c]? =w.heap[c]?):p7 w' a j:=by
 refine h.same k ?_;unfold BD;by_cases g:a=b;·subst g;simp only[m,p]
 ·simp only[o a g]
theorem p7.lt{w:World}{b j:Nat}(h:p7 w b j):b<w.heap.size:=by obtain⟨v,a⟩:=Bz.1 h.1;exact C8 _ _ a
structure HR(g:Gh)(hp:List ai)(w:World):Prop where
 obj:∀(id:Nat) cs,hp[id]? =some (some cs)->jw g hp.length w id cs
 apart:∀(id id':Nat) cs cs',hp[id]? =some (some cs)->hp[id']? =some (some cs')->id≠id'->g.ρ id≠g.ρ id'
 notI:∀(id:Nat) cs,hp[id]? =some (some cs)->∀j,¬g.I (g.ρ id) j
 notO:∀(id:Nat) cs,hp[id]? =some (some cs)->g.O (g.ρ id)=none
 exI:∀b j,g.I b j->p7 w b j
 oLt:∀b o,g.O b=some o->b<w.heap.size
structure ER(g:Gh)(N:Nat)(w:World)(env:List V)(tmps:Array Value):Prop where
 size:env.length=tmps.size
 rel:∀(n:Nat) v cv,env[n]? =some v->tmps[n]? =some cv->VRel g.I g.ρ N w v cv
 own:∀(n:Nat) v cv,env[n]? =some v->tmps[n]? =some cv->ap g w (.slot n) v cv
structure FR(g₀:Gh)(hp₀:List ai)(w₀:World)(g:Gh)(hp:List ai)(w:World):Prop where
 beta:g.β=g₀.β
 os:w.os=w₀.os
 tape:w.tape=w₀.tape
 output:w.output=w₀.output
 size:w₀.heap.size<=w.heap.size
 block:∀b,b<w₀.heap.size->(∀(id:Nat) cs,hp₀[id]? =some (some cs)->g₀.ρ id≠b)->g₀.O b=none->w.heap[b]? =w₀.heap[b]?
 up:Up g₀.I g₀.ρ hp₀.length w₀ g.I g.ρ hp.length w
 iSame:∀b j,b<w₀.heap.size->(∀(id:Nat) cs,hp₀[id]? =some (some cs)->g₀.ρ id≠b)->g₀.O b=none->g.I b j->g₀.I b j
 oSame:∀b,b<w₀.heap.size->(∀(id:Nat) cs,hp₀[id]? =some (some cs)->g₀.ρ id≠b)->g₀.O b=none->g.O b=none
 live:∀(id:Nat) cs,hp[id]? =some (some cs)->(∃cs₀,hp₀[id]? =some (some cs₀))∨(hp₀.length<=id∧(w₀.heap.size<=g.ρ id∨g₀.O (g.ρ id)≠none∨∃(id':Nat)(cs':List V),hp₀[id']? =some (some cs')∧g₀.ρ id'=g.ρ id))
theorem FR.refl(g:Gh)(hp:List ai)(w:World):FR g hp w g hp w:=
 ⟨rfl,rfl,rfl,rfl,Ar _,λ_ _ _ _=>rfl,Up.refl _ _ _ _,λ_ _ _ _ _ h=>h,λ_ _ _ h=>h,λ_ cs h=>.inl ⟨cs,h⟩⟩
theorem FR.noObj{g₀ g₁:Gh}{hp₀ hp₁:List ai}{w₀ w₁:World}(h:FR g₀ hp₀ w₀ g₁ hp₁ w₁){b:Nat}(q:b<w₀.heap.size)(k:∀(id:Nat) cs,hp₀[id]? =some (some cs)->g₀.ρ id≠b)(p:g₀.O b=none):
  ∀(id:Nat) cs,hp₁[id]? =some (some cs)->g₁.ρ id≠b:=by
 intro id cs g e;rcases h.live id cs g with⟨a,m⟩|⟨_,d|d|⟨i,f,d,o⟩⟩
 ·refine k id a m ?_;have j:id<hp₀.length:=(Ad.1 m).1;rw[<-h.up.rho id j];exact e
 ·omega
 ·rw[e] at d;exact d p
 ·exact k i f d (o.trans e)
theorem FR.trans{g₀ g₁ a:Gh}{hp₀ hp₁ g:List ai}{w₀ w₁ m:World}(h:FR g₀ hp₀ w₀ g₁ hp₁ w₁)(k:FR g₁ hp₁ w₁ a g m):FR g₀ hp₀ w₀ a g m:=by
 refine⟨k.beta.trans h.beta,k.os.trans h.os,k.tape.trans h.tape,k.output.trans h.output,AR h.size k.size,?_,h.up.trans k.up,?_,?_,?_⟩;·intro b f d e;exact(k.block b (AE f h.size) (h.noObj f d e) (h.oSame b f d e)).trans (h.block b f d e)
 ·intro b j f d e A;exact h.iSame b j f d e (k.iSame b j (AE f h.size) (h.noObj f d e) (h.oSame b f d e) A)
 ·intro b f d e;exact k.oSame b (AE f h.size) (h.noObj f d e) (h.oSame b f d e)
 ·intro id cs q;rcases k.live id cs q with⟨o,t⟩|⟨t,C⟩
  ·rcases h.live id o t with u|⟨u,v⟩
   ·exact .inl u
   ·refine .inr ⟨u,?_⟩;rw[k.up.rho id (Ad.1 t).1];exact v
  ·refine .inr ⟨AR h.up.num t,?_⟩;by_cases p:a.ρ id<w₀.heap.size
   ·right;by_cases e:g₀.O (a.ρ id)=none
    ·right;by_cases d:∀(i:Nat) cs,hp₀[i]? =some (some cs)->g₀.ρ i≠a.ρ id;·exact absurd rfl (FR.noObj k (AE p h.size) (h.noObj p d e) (h.oSame _ p d e) id cs q)
     ·exact Classical.byContradiction λy=>d λi x v B=>y ⟨i,x,v,B⟩
    ·left;exact e
   ·left;omega
def tR:Nat:=1
def nR:List Value:=Go.Lib.pow10Tab.map λz=>Dn .u64 z
structure SR(g:Gh)(s:St)(w:World)(a:Act):Prop where
 hr:HR g s.hp w
 er:ER g s.hp.length w s.env a.tmps
def cL(g:Gh)(s:St)(w:World)(a:Act)(s':St)(next:Act->World->Prop):Prop:=
 ∀a' w' b,SR b s' w' a'->FR g s.hp w b s'.hp w'->a'.defers=a.defers->next a' w'
def p8:V->Value->Bool
 | .int k n,.int k' n'=>decide (k=k')&&(n==n'&&(decide (k.min<=n)&&decide (n<=k.max)))
 | .bool b,.bool d=>b==d
 | .str l,.string s=>decide (s.data.toList=l)&&decide (s.size<=dc)
 | .sl _ _ xs,.slice none 0 0=>xs.isEmpty
 | .ul _ xs,.slice none 0 0=>xs.isEmpty
 | .nilp,.pointer none=>true
 | .nilif,.nilIface=>true
 | .nilm,.map none=>true
 |_,_=>false
def jp:List V->List Value->Bool
 | [],[]=>true
 |c::cs,v::vs=>p8 c v&&jp cs vs
 |_,_=>false
def abA:V->Value->Bool
 | .agg cs,.agg vs=>jp cs vs.toList
 |v,cv=>p8 v cv
def aH:ASrc->Operand->Bool
 | .t n,.tmp k=>n==k
 | .tk n,.tmp k=>n==k
 | .c v,.const cv=>abA v cv
 | .c (.fn f []),.func h=>f==h
 |_,_=>false
section
variable{I:Nat->Nat->Prop}{ρ:Nat->Nat}{N:Nat}{w:World}{g:Gh}{s:St}{a:Act}{P:Program}
theorem acV{v:V}{cv:Value}(h:p8 v cv=true):VRel I ρ N w v cv∧v.one=true:=by
 unfold p8 at h;split at h;·simp only[Ac,decide_eq_true_eq,beq_iff_eq] at h;obtain⟨rfl,rfl,d,b⟩:=h;exact⟨.int _ _ ⟨d,b⟩,rfl⟩
 ·obtain rfl:=by simpa using h
  exact⟨.bool _,rfl⟩
 ·simp only[Ac,decide_eq_true_eq] at h;exact⟨.str _ _ h.1 h.2,rfl⟩
 ·rename_i xs;cases xs with
  |nil=>exact⟨.sln _ _,rfl⟩
  |cons x xs=>simp at h
 ·rename_i k xs;cases xs with
  |nil=>exact⟨.ul k [] none 0 (by simp),rfl⟩
  |cons x xs=>simp at h
 ·exact⟨.nilp,rfl⟩
 ·exact⟨.nilif,rfl⟩
 ·exact⟨.nilm,rfl⟩
 ·simp at h
theorem aiJ{v:V}{cv:Value}(h:p8 v cv=true):eu v cv:=by unfold p8 at h;split at h<;>first|(simp[eu];done)|(simp at h;done)|(simp[eu];exact h)|(simp[eu];simp at h;exact h)|simp at h
theorem oY:∀{cs:List V}{vs:List Value},jp cs vs=true->∀(i:Nat) c cv,cs[i]? =some c->vs[i]? =some cv->eu c cv
 | [],[],_,i,c,cv,b,d=>by simp at b
 |c::cs,v::vs,h,i,f,e,b,d=>by
  simp only[jp,Ac] at h;cases i with
  |zero=>simp at b d;subst b d;exact aiJ h.1
  |succ i=>exact oY h.2 i f e (by simpa using b) (by simpa using d)
 | [],_::_,h,_,_,_,_,_=>by simp[jp] at h
 |_::_,[],h,_,_,_,_,_=>by simp[jp] at h
theorem oZ:∀{cs:List V}{vs:List Value},jp cs vs=true->cs.length=vs.length∧(∀c∈cs,c.one=true)∧
  ∀(i:Nat) c cv,cs[i]? =some c->vs[i]? =some cv->VRel I ρ N w c cv
 | [],[],_=>⟨rfl,by simp,by simp⟩
 |c::cs,v::vs,h=>by
  simp only[jp,Ac] at h;obtain⟨o,k⟩:=acV (I:=I) (ρ:=ρ) (N:=N) (w:=w) h.1;obtain⟨j,e,m⟩:=oZ h.2;refine⟨by simp[j],by simpa using ⟨k,e⟩,?_⟩;intro i p f d b;cases i with
  |zero=>simp at d b;subst d b;exact o
  |succ i=>simp at d b;exact m i _ _ d b
 | [],_::_,h=>by simp[jp] at h
 |_::_,[],h=>by simp[jp] at h
theorem apt{v:V}{cv:Value}(h:abA v cv=true):VRel I ρ N w v cv:=by
 unfold abA at h;split at h;·rename_i cs vs;obtain⟨f,j,e⟩:=oZ (I:=I) (ρ:=ρ) (N:=N) (w:=w) h;exact .agg _ _ (by simpa using f) j (λi c cv b d=>oY h i c cv b (by simpa using d)) (λi c cv b d=>e i c cv b (by simpa using d))
 ·exact(acV h).1
theorem wj{v:V}{cv:Value}(h:abA v cv=true)(b:Occ):ap g w b v cv:=by
 unfold abA at h;split at h;·simp[ap]
 ·unfold p8 at h;split at h<;>first|(simp[ap];done)|(exact .inl ⟨by simpa using h,rfl⟩)|simp at h
theorem ER.get(h:ER g N w s.env a.tmps)(n:Nat):VRel g.I g.ρ N w (s.get n) (a.tmps.getD n undef):=by
 by_cases d:n<s.env.length
 ·have b:n<a.tmps.size:=by rw[<-h.size];exact d
  refine h.rel n _ _ ?_ ?_;·simp[St.get,An,Ab d]
  ·simp[Bg,b,As b]
 ·have:s.get n=.undef:=by simp[St.get,An,Ba (Dh d)]
  rw[this];exact .undef _
theorem ER.getOwn(h:ER g N w s.env a.tmps)(n:Nat):ap g w (.slot n) (s.get n) (a.tmps.getD n undef):=by
 by_cases d:n<s.env.length
 ·have b:n<a.tmps.size:=by rw[<-h.size];exact d
  refine h.own n _ _ ?_ ?_;·simp[St.get,An,Ab d]
  ·simp[Bg,b,As b]
 ·have:s.get n=.undef:=by simp[St.get,An,Ba (Dh d)]
  rw[this];simp[ap]
theorem aP{x:ASrc}{o:Operand}(h:aH x o=true)(e:ER g N w s.env a.tmps):VRel g.I g.ρ N w (x.ev s) (a.eval o):=by
 unfold aH at h;split at h
 ·obtain rfl:=by simpa using h
  exact(e.get _).disown
 ·obtain rfl:=by simpa using h
  exact e.get _
 ·exact apt h
 ·obtain rfl:=by simpa using h
  exact .fn _ [] #[] rfl (by simp)
 ·simp at h
theorem ER.set(h:ER g N w s.env a.tmps)(d:Nat){v:V}{cv:Value}(m:VRel g.I g.ρ N w v cv)(k:ap g w (.slot d) v cv):
  ER g N w (s.set d v).env (a.put (some d) cv).tmps:=by
 refine⟨by simp[St.set,Act.put,h.size],?_,?_⟩
 ·intro n j i f b;simp only[St.set,Act.put,Ay,DE] at f b;by_cases e:d=n;·subst e;simp only[if_true] at f b;split at f<;>split at b<;>simp_all
  ·simp only[e,if_false] at f b;exact h.rel n _ _ f b
 ·intro n j i f b;simp only[St.set,Act.put,Ay,DE] at f b;by_cases e:d=n;·subst e;simp only[if_true] at f b;split at f<;>split at b<;>simp_all
  ·simp only[e,if_false] at f b;exact h.own n _ _ f b
theorem SR.set(h:SR g s w a)(d:Nat){v:V}{cv:Value}(e:VRel g.I g.ρ s.hp.length w v cv)(b:ap g w (.slot d) v cv):
  SR g (s.set d v) w (a.put (some d) cv):=⟨h.hr,h.er.set d e b⟩
def V.bare:V->Bool
 | .sl _ .own _=>false
 | .raw _=>false
 | .ul _ _=>false
 |_=>true
theorem kP{v:V}(h:v.bare=true)(g:Gh)(w:World)(b:Occ)(cv:Value):ap g w b v cv:=by
 cases v with
 |sl k o xs=>cases o<;>first|simp[V.bare] at h;done|simp[ap]
 |raw n=>simp[V.bare] at h
 |ul k xs=>simp[V.bare] at h
 |_=>simp[ap]
theorem eH(v:V):(disown v).bare=true:=by
 cases v with
 |sl k o xs=>cases o<;>rfl
 |_=>rfl
theorem HR.drew{hp:List ai}(h:HR g hp w):HR g hp w.drew:=by
 refine⟨?_,h.apart,h.notI,h.notO,h.exI,h.oLt⟩;intro id cs k;refine(h.obj id cs k).keep rfl λp e t v d=>?_
 have u:Up g.I g.ρ hp.length w g.I g.ρ hp.length w.drew:=⟨λ_ _ h=>h,λ_ _ _=>rfl,λ_ _=>rfl,Ar _⟩
 exact⟨d.len,d.plain,d.typed,d.cold,d.one,λj c cv i f=>(d.rel j c cv i f).up u,λj c cv i f=>cH (d.own j c cv i f) rfl (λb j m=>⟨m,rfl⟩) (λb q=>⟨q,rfl,λj o=>o⟩),d.bn⟩
theorem aM{m:Oper}{d:Nat}{v:V}{cv:Value}{next:Act->World->Prop}{Q:Exit->Act->World->Prop}(h:SR g s w a)(hd:m.dst=some d)
  (b:(execOp a.eval m).run P w=.ok (.value cv) w) (i:VRel g.I g.ρ s.hp.length w v cv) (e:v.bare=true)
  (f:cL g s w a (s.set d v) next):m.wp P a w next Q:=by
 unfold C7 Di;rw[b,hd];exact f _ _ g (h.set d i (kP e _ _ _ _)) (FR.refl _ _ _) rfl
end
def kQ:Option ASrc->Option Operand->Bool
 |none,none=>true
 |some x,some y=>aH x y
 |_,_=>false
def ahQ:ASrc->Bool
 | .tk _=>false
 |_=>true
def aki(P:Program)(t:TypeId)(k:IntKind):Bool:=match P.underlying t with|some (.int k')=>decide (k=k')|_=>false
def mV(P:Program)(t:TypeId):Option Bool:=match P.underlying t with|some (.struct _)|some (.array _ _)=>some true|some _=>some false|none=>none
def fe(P:Program)(t:TypeId):Option Nat:=(P.info? t).map (·.size)
def ahR(P:Program)(t:TypeId):Bool:=match fe P t with|some n=>n !=0|none=>false
def gM(P:Program):Nat:=((AU P.types.size).find? λt=>match P.underlying t with|some (.int .u8)=>true|_=>false).getD 0
def wu(P:Program)(e:TypeId)(k:EK):Bool:=
 (match k with| .u8=>e==gM P|_=>true)&&
 (match P.info? e with
 |some i=>i.size==k.sz&&(i.bytes==k.bytes&&(mV P e==some k.isAgg&&(match i.zero with|some z=>jp (enc k (ao k)) z.cells.toList&&(z.cells.size==k.sz)|none=>false)))
 |none=>false)
def mW(P:Program)(t:TypeId)(k:EK):Bool:=match P.underlying t with|some (.slice e)=>wu P e k|_=>false
def xS:Op->Option (Builtin×List Operand×List TypeId)
 | .call c=>match c.callee with| .builtin b=>some (b,c.args.toList,c.argTypes.toList)|_=>none
 |_=>none
theorem lP{o:Op}{b:Builtin}{avs:List Operand}{ts:List TypeId}(h:xS o=some (b,avs,ts)):o=.call ⟨.builtin b,⟨avs⟩,⟨ts⟩⟩:=by
 unfold xS at h;split at h
 ·rename_i c;obtain⟨d,⟨e⟩,⟨f⟩⟩:=c;simp only at h;split at h;·simp only[Ai,Ao] at h;obtain⟨rfl,rfl,rfl⟩:=h;rfl
  ·simp at h
 ·simp at h
def bo(P:Program)(o:IOp)(m:Oper):Bool:=
 match o with
 | .pick d c x y=>(m.dst==some d)&&(match m.op with| .pick E h q=>aH c E&&(aH x h&&aH y q)&&(ahQ x&&ahQ y)|_=>false)
 | .bin d o x y=>(m.dst==some d)&&(match m.op with| .binOp o' _ h q _=>decide (o=o')&&(aH x h&&aH y q)|_=>false)
 | .un d o x=>(m.dst==some d)&&(match m.op with| .unOp o' _ h=>decide (o=o')&&aH x h|_=>false)
 | .cvi d k x=>(m.dst==some d)&&(match m.op with| .convert a b h=>(P.underlying a).isSome&&(aki P b k&&aH x h)|_=>false)
 | .b2s d x=>(m.dst==some d)&&(match m.op with| .convert a b h=>(match P.underlying a,P.underlying b with|some (.slice e),some .string=>aki P e .u8|_,_=>false)&&aH x h|_=>false)
 | .lens d x=>(m.dst==some d)&&(match xS m.op with|some (.len,[h],[t])=>(match P.underlying t with|some .string=>true|_=>false)&&aH x h|_=>false)
 | .lenl d x=>(m.dst==some d)&&(match xS m.op with|some (.len,[h],[t])=>(match P.underlying t with|some (.slice _)=>true|_=>false)&&aH x h|_=>false)
 | .idx d x i=>(m.dst==some d)&&(match m.op with| .index t h u=>(match P.underlying t with|some .string=>true|_=>false)&&(aH x h&&aH i u)|_=>false)
 | .ixa d k x i=>(m.dst==some d)&&(match m.op with| .indexAddr t h u=>mW P t k&&(aH x h&&aH i u)|_=>false)
 | .subs d x B v=>(m.dst==some d)&&(match m.op with| .slice t h p j none=>(match P.underlying t with|some .string=>true|_=>false)&&(aH x h&&(kQ B p&&kQ v j))|_=>false)
 | .subl d k x B v=>(m.dst==some d)&&(match m.op with| .slice t h p j none=>mW P t k&&(aH x h&&(kQ B p&&kQ v j))|_=>false)
 | .fad d A x=>(m.dst==some d)&&(match m.op with| .fieldAddr t h f=>(match P.underlying t with|some (.struct fs)=>(match fs[f]? with|some D=>(D.offset==A)&&ahR P D.type|none=>false)|_=>false)&&aH x h|_=>false)
 | .ext d i x=>(m.dst==some d)&&(match m.op with| .extract h u=>i==u&&aH x h|_=>false)
 | .nck d x=>(m.dst==d)&&(match m.op with| .nilCheck h=>aH x h|_=>false)
 | .ld d n agg false x=>(m.dst==some d)&&(match m.op with| .load t h=>(fe P t==some n)&&((mV P t==some agg)&&((agg||n==1)&&aH x h))|_=>false)
 | .mx d C x y=>(m.dst==some d)&&(match xS m.op with|some (.min,[h,q],_)=>C&&(aH x h&&aH y q)|some (.max,[h,q],_)=> !C&&(aH x h&&aH y q)|_=>false)
 |_=>false
section
variable{w:World}{g:Gh}{s s':St}{a:Act}{P:Program}{Γ:aq}{m:Oper}{next:Act->World->Prop}{Q:Exit->Act->World->Prop}
theorem fS(k:IntKind)(n:Int):k.min<=k.wrap n∧k.wrap n<=k.max:=by cases k<;>simp[Ae,CF,Cr,BA,Bj]<;>omega
theorem aiK(k:IntKind):k.min<=0∧0<=k.max:=by cases k<;>decide
theorem anK(x y:Int)(f:0<=x):x%y<=x:=by
 by_cases e:y=0;·subst e;simp
 ·rcases Int.lt_or_gt_of_ne e with h|h
  ·rw[<-Int.emod_neg];by_cases d:x< -y;·rw[Int.emod_eq_of_lt f d];omega
   ·have:=Int.emod_lt_of_pos x (b:=-y) (by omega);omega
  ·by_cases d:x<y;·rw[Int.emod_eq_of_lt f d];omega
   ·have:=Int.emod_lt_of_pos x h;omega
theorem aqC(k:IntKind)(x y:Int)(h:k.min<=x∧x<=k.max):k.min<=x.tmod y∧x.tmod y<=k.max:=by
 have i:=aiK k;rcases Int.le_total 0 x with d|d
 ·have e:=CX y d;have f:x.tmod y<=x:=by
   rw[BJ d];exact anK _ _ d
  omega
 ·have b:0<=-x:=by omega
  have e:=CX y b;have f:(-x).tmod y<=-x:=by rw[BJ b];exact anK _ _ b
  rw[Int.neg_tmod] at e f;omega
theorem arU(k:IntKind)(x:Int)(n:Nat)(h:k.min<=x∧x<=k.max):k.min<=x.fdiv (2^n)∧x.fdiv (2^n)<=k.max:=by
 have f:=aiK k;have hp:(0:Int)<2^n:=Int.pow_pos (by omega);have hp':(1:Int)<=2^n:=hp;rw[DR _ (by omega)];generalize (2:Int)^n=p at*
 rcases Int.le_total 0 x with b|b;·have d:=Int.ediv_nonneg b (Int.le_of_lt hp);have e:=Int.ediv_le_self p b;omega
 ·have e:x / p<=0:=by
   have:=Int.ediv_le_ediv hp b;simpa using this
  have d:x<=x / p:=by refine(Int.le_ediv_iff_mul_le hp).2 ?_;have:=Int.mul_le_mul_of_nonpos_left b hp';simpa using this
  omega
theorem aul{d:Nat}{c x y:ASrc}(e:bo P (.pick d c x y) m=true)(i:step Γ (.pick d c x y) s=some (true,s'))(h:SR g s w a)(k:cL g s w a s' next):m.wp P a w next Q:=by
 obtain⟨dst,I,ty,pos,A,G⟩:=m;simp only[bo,Ac,beq_iff_eq] at e;obtain⟨rfl,e⟩:=e;split at e
 ·rename_i v q E;simp only[Ac] at e;obtain⟨⟨u,C,p⟩,F,H⟩:=e;have f:=aP u h.er;have D:=(aP C h.er).disown;have B:=(aP p h.er).disown;simp only[step] at i;split at i
  ·rename_i t o;obtain rfl:_=s':=by simpa using i
   rw[as2] at k;rw[o] at f;cases j:a.eval v with
   |bool b=>
    rw[j] at f;cases f;refine aM h rfl (cv:=if t then a.eval q else a.eval E) (by simp[execOp,j,asBool]) ?_ (by cases t<;>exact eH _) k;cases t;·exact B
    ·exact D
   |_=>rw[j] at f;cases f
  ·simp at i
 ·simp at e
theorem auS{d:Nat}{k:IntKind}{x:ASrc}(b:bo P (.cvi d k x) m=true)(f:step Γ (.cvi d k x) s=some (true,s'))(h:SR g s w a)(o:cL g s w a s' next):m.wp P a w next Q:=by
 obtain⟨dst,G,ty,pos,C,E⟩:=m;simp only[bo,Ac,beq_iff_eq] at b;obtain⟨rfl,b⟩:=b;split at b
 ·rename_i D F v;simp only[Ac] at b;obtain⟨B,e,u⟩:=b;have i:=aP u h.er;simp only[step] at f;split at f
  ·rename_i k' n t;obtain rfl:_=s':=by simpa using f
   rw[t] at i;obtain⟨q,y⟩:=Bz.1 B;unfold aki at e;split at e
   ·rename_i A p;obtain rfl:k=A:=by simpa using e
    generalize j:a.eval v=cv at i;cases i;refine aM h rfl (cv:=.int k (k.wrap n)) ?_ (.int _ _ (fS _ _)) rfl o;simp only[execOp,j,convert];cases q<;>simp[run_underlying y,run_underlying p,Conv.intToInt]
   ·simp at e
  ·simp at f
 ·simp at b
theorem xw(d:List Int):∀b:ByteArray,(d.foldl (λ(r:ByteArray) n=>r.push (AF n.toNat)) b).data.toList=b.data.toList++d.map λn=>AF n.toNat:=by
 induction d with
 |nil=>intro b;simp
 |cons n d e=>intro b;rw[BS,e];simp[ByteArray.push]
theorem aiL(c:UInt8):IntKind.u8.min<=(c.toNat:Int)∧(c.toNat:Int)<=IntKind.u8.max:=by have:=c.toNat_lt;simp[CF,Cr,Bj,BA];omega
theorem aiM:ByteArray.empty.data.toList=[]:=rfl
theorem p9(s:ByteArray):s.data.toList.length=s.size:=by rw[BT];rfl
theorem auT{d:Nat}{x:ASrc}(q:bo P (.b2s d x) m=true)(A:step Γ (.b2s d x) s=some (true,s'))(h:SR g s w a)(C:cL g s w a s' next):m.wp P a w next Q:=by
 obtain⟨dst,op,ty,pos,Z,gd⟩:=m;simp only[bo,Ac,beq_iff_eq] at q;obtain⟨rfl,q⟩:=q;split at q
 ·rename_i t1 t2 X;simp only[Ac] at q;obtain⟨t,W⟩:=q;have E:=aP W h.er;simp only[step] at A;split at A
  ·rename_i o l R;obtain rfl:_=s':=by simpa using A
   rw[R] at E;split at t
   ·rename_i e H G;unfold aki at t;split at t
    ·rename_i Y B;obtain rfl:IntKind.u8=Y:=by simpa using t
     generalize k:a.eval X=cv at E;cases E with
     |sln=>exact aM h rfl (cv:=.string .empty) (by simp[execOp,k,run_convert_bytes_string w _ _ _ _ _ _ H B G,Conv.bytesToString]) (.str _ _ rfl (by simp[dc])) rfl C
     |sle=>exact aM h rfl (cv:=.string .empty) (by simp[execOp,k,run_convert_bytes_string w _ _ _ _ _ _ H B G,Conv.bytesToString,loadCells,loadCellsFrom]) (.str _ _ rfl (by simp[dc])) rfl C
     |sl _ _ _ b F len cap S M hm O f hI N hv=>
      subst S;have i:(loadCells ⟨b,F,none⟩ l.length).run P w=.ok ((l.map λc:UInt8=>(c.toNat:Int)).map (Dn .u8)).toArray w:=by
       have u:l.length=((l.map λc:UInt8=>(c.toNat:Int)).map (Dn .u8)).length:=by simp
       rw[u];refine run_loadCells_list w _ _ ?_;intro j v D;have I:j<l.length:=by simpa using (Ad.1 D).1
       have p:l[j]? =some l[j]:=Ab I;have L:=N j l[j] 0 p (by simp[enc]);have J:=hv j l[j] 0 (.int .u8 l[j].toNat) p (by simp[enc]);simp only[EK.sz,CS,B5] at L;rw[BV,L];simp only[Cg,AA,p,BE,Ai,Function.comp] at D;subst D;generalize hf:f j 0=y at J;cases J;rfl
      refine aM h rfl (cv:=.string ((l.map λc:UInt8=>(c.toNat:Int)).foldl (λ(r:ByteArray) n=>r.push (AF n.toNat)) ByteArray.empty)) ?_ (.str _ _ ?_ ?_) rfl C;·simp[execOp,k,run_convert_bytes_string w _ _ _ _ _ _ H B G,run_bytesToString w _ _ _ _ i]
      ·rw[xw,aiM];simp[D4]
      ·rw[<-p9,xw,aiM];simp;omega
    ·simp at t
   ·simp at t
  ·simp at A
 ·simp at q
theorem aum{d:Nat}{x:ASrc}(e:bo P (.lens d x) m=true)(f:step Γ (.lens d x) s=some (true,s'))(h:SR g s w a)(p:cL g s w a s' next):m.wp P a w next Q:=by
 obtain⟨dst,E,ty,pos,A,C⟩:=m;simp only[bo,Ac,beq_iff_eq] at e;obtain⟨rfl,e⟩:=e;split at e
 ·rename_i y t k;obtain rfl:=lP k;simp only[Ac] at e;obtain⟨o,v⟩:=e;have i:=aP v h.er;simp only[step] at f;split at f
  ·rename_i l q;obtain rfl:_=s':=by simpa using f
   rw[q] at i;split at o
   ·rename_i B;generalize j:a.eval y=cv at i;cases i with
    |str _ b u D=>subst u;refine aM h rfl (cv:=.int .i64 b.size) (by simp[execOp,resolve,j,invoke,builtin,CZ,run_underlying B,goInt]) ?_ rfl p;rw[p9];exact .int _ _ (by simp[CF,Cr,Bj,BA,dc] at *;omega)
   ·simp at o
  ·simp at f
 ·simp at e
theorem aun{d:Nat}{x:ASrc}(i:bo P (.lenl d x) m=true)(j:step Γ (.lenl d x) s=some (true,s'))(h:SR g s w a)(p:cL g s w a s' next):m.wp P a w next Q:=by
 obtain⟨dst,J,ty,pos,G,H⟩:=m;simp only[bo,Ac,beq_iff_eq] at i;obtain⟨rfl,i⟩:=i;split at i
 ·rename_i E t u;obtain rfl:=lP u;simp only[Ac] at i;obtain⟨y,D⟩:=i;have q:=aP D h.er;simp only[step] at j;split at j
  ·rename_i k o l B;obtain rfl:_=s':=by simpa using j
   rw[B] at q;split at y
   ·rename_i e v;generalize f:a.eval E=cv at q;cases q with
    |sle=>exact aM h rfl (cv:=.int .i64 0) (by simp[execOp,resolve,f,invoke,builtin,CZ,run_underlying v,goInt]) (.int _ _ (by decide)) rfl p
    |sln=>exact aM h rfl (cv:=.int .i64 0) (by simp[execOp,resolve,f,invoke,builtin,CZ,run_underlying v,goInt]) (.int _ _ (by decide)) rfl p
    |sl _ _ _ b F len cap C A I=>subst C;refine aM h rfl (cv:=.int .i64 l.length) (by simp[execOp,resolve,f,invoke,builtin,CZ,run_underlying v,goInt]) ?_ rfl p;exact .int _ _ (by simp[CF,Cr,Bj,BA,dc] at *;omega)
   ·simp at y
  ·simp at j
 ·simp at i
theorem auU{d:Nat}{x i:ASrc}(e:bo P (.idx d x i) m=true)(j:step Γ (.idx d x i) s=some (true,s'))(h:SR g s w a)(A:cL g s w a s' next):m.wp P a w next Q:=by
 obtain⟨dst,S,ty,pos,F,N⟩:=m;simp only[bo,Ac,beq_iff_eq] at e;obtain⟨rfl,e⟩:=e;split at e
 ·rename_i t E M;simp only[Ac] at e;obtain⟨y,H,D⟩:=e;have q:=aP H h.er;have v:=aP D h.er;simp only[step] at j;split at j
  ·rename_i l k n B J;simp only[Ai,Ao,Ac,decide_eq_true_eq] at j;obtain⟨⟨G,L⟩,rfl⟩:=j;rw[B] at q;rw[J] at v;split at y
   ·rename_i I;generalize u:a.eval E=cv at q;generalize p:a.eval M=O at v;cases v;cases q with
    |str _ b C R=>
     subst C;have o:n.toNat<b.size:=by rw[p9] at L;omega
     have f:b[n.toNat]? =some (b.data.toList.getD n.toNat 0):=by
      rw[getElem?_pos b n.toNat o];have:n.toNat<b.data.toList.length:=by rw[p9];exact o
      simp only[An,Ab this,Bk];rfl
     refine aM h rfl (cv:=.int .u8 (b.data.toList.getD n.toNat 0).toNat) ?_ ?_ rfl A;·simp[execOp,u,p,Instr.index,asIntOf,run_underlying I,G,f]
     ·exact .int _ _ (aiL _)
   ·simp at y
  ·simp at j
 ·simp at e
theorem avF{d:Nat}{o:UnOp}{x:ASrc}(f:bo P (.un d o x) m=true)(q:step Γ (.un d o x) s=some (true,s'))(h:SR g s w a)(u:cL g s w a s' next):m.wp P a w next Q:=by
 obtain⟨dst,D,ty,pos,y,C⟩:=m;simp only[bo,Ac,beq_iff_eq] at f;obtain⟨rfl,f⟩:=f;split at f
 ·rename_i o' t B;simp only[Ac,decide_eq_true_eq] at f;obtain⟨rfl,A⟩:=f;have i:=aP A h.er;simp only[step,Aq] at q;obtain⟨v,j,q⟩:=q;obtain rfl:_=s':=by simpa using q
  generalize e:a.eval B=cv at i;unfold unV at j;split at j;·rename_i b p;cases Ax j;rw[p] at i;cases i;exact aM h rfl (cv:=.bool (!b)) (by simp[execOp,e,Op.unary]) (.bool _) rfl u
  ·rename_i k n p;cases Ax j;rw[p] at i;cases i;exact aM h rfl (cv:=.int k (k.wrap (0-n))) (by simp[execOp,e,Op.unary,DI]) (.int _ _ (fS _ _)) rfl u
  ·rename_i k n p;cases Ax j;rw[p] at i;cases i;exact aM h rfl (cv:=.int k (de .xor k (if k.signed then -1 else k.max) n)) (by simp[execOp,e,Op.unary,Dy,de]) (.int _ _ (fS _ _)) rfl u
  ·simp at j
 ·simp at f
theorem aqD{o:BinOp}{k:IntKind}{x y:Int}{v:V}(b:anG o k x y=some (true,v))(e:k.min<=x∧x<=k.max):
  ∃cv,(∀w:World,(if o=.add∨o=.sub∨o=.mul then DI o k x y else if o=.quo∨o=.rem then Op.intDiv o k x y else if o=.and∨o=.or∨o=.xor∨o=.andNot then Dy o k x y else Dj o x y).run P w=.ok cv w)
   ∧(∀I ρ N w,VRel I ρ N w v cv)∧v.bare=true:=by
 unfold anG at b;split at b<;>(try simp only[Ai,Ao,true_and,BK,beq_eq_false_iff_ne] at b)<;>(try (obtain⟨d,b⟩:=b))<;>(try subst b)
 ·exact⟨.int k (k.wrap (x+y)),λw=>by simp[DI],λ_ _ _ _=>.int _ _ (fS _ _),rfl⟩
 ·exact⟨.int k (k.wrap (x-y)),λw=>by simp[DI],λ_ _ _ _=>.int _ _ (fS _ _),rfl⟩
 ·exact⟨.int k (k.wrap (x*y)),λw=>by simp[DI],λ_ _ _ _=>.int _ _ (fS _ _),rfl⟩
 ·exact⟨.int k (k.wrap (x.tdiv y)),λw=>by simp[Op.intDiv,d],λ_ _ _ _=>.int _ _ (fS _ _),rfl⟩
 ·exact⟨.int k (x.tmod y),λw=>by simp[Op.intDiv,d],λ_ _ _ _=>.int _ _ (aqC _ _ _ e),rfl⟩
 ·exact⟨.int k (de .and k x y),λw=>by simp[Dy,de],λ_ _ _ _=>.int _ _ (fS _ _),rfl⟩
 ·exact⟨.int k (de .or k x y),λw=>by simp[Dy,de],λ_ _ _ _=>.int _ _ (fS _ _),rfl⟩
 ·exact⟨.int k (de .xor k x y),λw=>by simp[Dy,de],λ_ _ _ _=>.int _ _ (fS _ _),rfl⟩
 ·exact⟨.int k (de .andNot k x y),λw=>by simp[Dy,de],λ_ _ _ _=>.int _ _ (fS _ _),rfl⟩
 ·exact⟨.bool (x==y),λw=>by simp[Dj],λ_ _ _ _=>.bool _,rfl⟩
 ·exact⟨.bool (!(x==y)),λw=>by simp[Dj,bne],λ_ _ _ _=>.bool _,rfl⟩
 ·exact⟨.bool (decide (x<y)),λw=>by simp[Dj],λ_ _ _ _=>.bool _,rfl⟩
 ·exact⟨.bool (decide (x<=y)),λw=>by simp[Dj],λ_ _ _ _=>.bool _,rfl⟩
 ·exact⟨.bool (decide (y<x)),λw=>by simp[Dj],λ_ _ _ _=>.bool _,rfl⟩
 ·exact⟨.bool (decide (y<=x)),λw=>by simp[Dj],λ_ _ _ _=>.bool _,rfl⟩
theorem o5(s:ByteArray):s.toList=s.data.toList:=ByteArray.toList_eq s
theorem aqE(x y:List UInt8):(x==y)=decide (x=y):=by rw[Ch];simp
theorem aqF{o:BinOp}{x y:ByteArray}{v:V}(b:anH o x.data.toList y.data.toList=some (true,v)):
  ∃cv,(∀w:World,(CE o x y).run P w=.ok cv w)∧(∀I ρ N w,VRel I ρ N w v cv)∧v.bare=true:=by
 unfold anH at b;split at b<;>(try simp only[Ai,Ao,true_and,decide_eq_true_eq,p9] at b)
 ·obtain⟨d,rfl⟩:=b;refine⟨.string (x++y),λw=>?_,λ_ _ _ _=>.str _ _ (by simp) (by simpa [ByteArray.size_append] using d),rfl⟩;have:¬(9223372036854775807<(x.size:Int)+(y.size:Int)):=by unfold dc at d;omega
  simp[CE,Cr,Bj,BA,this]
 ·subst b;exact⟨.bool (decide (x.data.toList=y.data.toList)),λw=>by simp only[CE,o5,aqE];rfl,λ_ _ _ _=>.bool _,rfl⟩
 ·subst b;exact⟨.bool (!decide (x.data.toList=y.data.toList)),λw=>by simp only[CE,o5,aqE];rfl,λ_ _ _ _=>.bool _,rfl⟩
 ·subst b;exact⟨.bool (C3 x.data.toList y.data.toList),λw=>by simp[CE,o5],λ_ _ _ _=>.bool _,rfl⟩
 ·subst b;exact⟨.bool (C3 x.data.toList y.data.toList||decide (x.data.toList=y.data.toList)),λw=>by simp only[CE,o5,aqE];rfl,λ_ _ _ _=>.bool _,rfl⟩
 ·subst b;exact⟨.bool (!(C3 x.data.toList y.data.toList||decide (x.data.toList=y.data.toList))),λw=>by simp only[CE,o5,aqE];rfl,λ_ _ _ _=>.bool _,rfl⟩
 ·subst b;exact⟨.bool (!Op.bytesLess x.data.toList y.data.toList),λw=>by simp[CE,o5],λ_ _ _ _=>.bool _,rfl⟩
 ·simp at b
end
section
variable{w:World}{g:Gh}{s s':St}{a:Act}{P:Program}{Γ:aq}{m:Oper}{next:Act->World->Prop}{Q:Exit->Act->World->Prop}
theorem alJ{k k':IntKind}{x y:Int}(e:0<=y)(d:k.min<=x∧x<=k.max):
  (∀w:World,(Op.shift .shl k x k' y).run P w=.ok (.int k (akg k x y)) w)∧(∀w:World,(Op.shift .shr k x k' y).run P w=.ok (.int k (tQ k x y)) w)
   ∧(∀I ρ N w,VRel I ρ N w (.int k (akg k x y)) (.int k (akg k x y)))∧(∀I ρ N w,VRel I ρ N w (.int k (tQ k x y)) (.int k (tQ k x y))):=by
 have b:¬y<0:=by omega
 exact⟨λw=>by simp[Op.shift,b,akg],λw=>by simp[Op.shift,b,tQ],λ_ _ _ _=>.int _ _ (fS _ _),λ_ _ _ _=>.int _ _ (arU _ _ _ d)⟩
theorem auV{d:Nat}{o:BinOp}{x y:ASrc}(f:bo P (.bin d o x y) m=true)(C:step Γ (.bin d o x y) s=some (true,s'))(h:SR g s w a)(D:cL g s w a s' next):m.wp P a w next Q:=by
 obtain⟨dst,op,ty,pos,Z,gd⟩:=m;simp only[bo,Ac,beq_iff_eq] at f;obtain⟨rfl,f⟩:=f;split at f
 ·rename_i o' t W y' t';simp only[Ac,decide_eq_true_eq] at f;obtain⟨rfl,Y,h2⟩:=f;have j:=aP Y h.er;have u:=aP h2 h.er;simp only[step,Aq] at C;obtain⟨⟨c,v⟩,b,C⟩:=C;simp only[Ao] at C;obtain⟨rfl,rfl⟩:=C;generalize A:a.eval W=cx at j;generalize i:a.eval y'=cy at u;unfold as1 at b;split at b
  ·rename_i k p k' q F I;rw[F] at j;rw[I] at u;cases j with
   |int _ _ hp=>
   cases u with
   |int _ _ hq=>
   split at b;·simp only[Ai,Ao,decide_eq_true_eq] at b;obtain⟨e,rfl⟩:=b;obtain⟨N,M,O,L⟩:=alJ (P:=P) (k':=k') e hp;refine aM h rfl (cv:=.int k (akg k p q)) ?_ (O _ _ _ _) rfl D;simp[execOp,A,i,eqGuard,binOp,N]
   ·simp only[Ai,Ao,decide_eq_true_eq] at b;obtain⟨e,rfl⟩:=b;obtain⟨N,M,O,L⟩:=alJ (P:=P) (k':=k') e hp;refine aM h rfl (cv:=.int k (tQ k p q)) ?_ (L _ _ _ _) rfl D;simp[execOp,A,i,eqGuard,binOp,M]
   ·rename_i an X;split at b;·rename_i S;subst S;obtain⟨cv,B,J,H⟩:=aqD (P:=P) b hp;have B:=B w;refine aM h rfl (cv:=cv) ?_ (J _ _ _ _) H D;cases o<;>simp_all [execOp,eqGuard,binOp]
    ·simp at b
  ·rename_i p q F I;rw[F] at j;rw[I] at u;cases j with
   |str _ sx E al=>
   cases u with
   |str _ sy G R=>
   subst E G;obtain⟨cv,B,J,H⟩:=aqF (P:=P) b;have B:=B w;refine aM h rfl (cv:=cv) ?_ (J _ _ _ _) H D;cases o<;>simp_all [execOp,eqGuard,binOp]
  ·simp at b
 ·simp at f
theorem mX{e:TypeId}{k:EK}(h:wu P e k=true):∃i z,P.info? e=some i∧i.size=k.sz∧i.bytes=k.bytes∧i.zero=some z∧mV P e=some k.isAgg∧
  jp (enc k (ao k)) z.cells.toList=true∧z.cells.size=k.sz:=by
 unfold wu at h;rw[Ac] at h;obtain⟨-,h⟩:=h;split at h
 ·rename_i i f;simp only[Ac,beq_iff_eq] at h;obtain⟨o,p,j,b⟩:=h;split at b;·rename_i z d;simp only[Ac,beq_iff_eq] at b;exact⟨i,z,f,o,p,d,j,b.1,b.2⟩
  ·simp at b
 ·simp at h
theorem aaO{e:TypeId}{k:EK}(h:wu P e k=true)(b:k=.u8):e=gM P:=by subst b;unfold wu at h;rw[Ac] at h;simpa using h.1
theorem fT{t:TypeId}{k:EK}(h:mW P t k=true):∃e,P.underlying t=some (.slice e)∧wu P e k=true:=by
 unfold mW at h;split at h;·rename_i e b;exact⟨e,b,h⟩
 ·simp at h
theorem nL{t:TypeId}{n:Nat}(h:fe P t=some n)(w:World):(sizeOf t).run P w=.ok n w:=by unfold fe at h;obtain⟨i,b,rfl⟩:=Aq.1 h;simp[sizeOf,typeInfo,b]
theorem acW{t:TypeId}{b:Bool}(h:mV P t=some b)(w:World):(isAgg t).run P w=.ok b w:=by
 unfold mV at h;split at h;·rename_i f e;obtain rfl:=Ax h;simp[isAgg,run_underlying e]
 ·rename_i f c e;obtain rfl:=Ax h;simp[isAgg,run_underlying e]
 ·rename_i d j i e;obtain rfl:=Ax h;cases d<;>simp_all [isAgg,run_underlying e]
 ·simp at h
theorem auW{d:Nat}{k:EK}{x i:ASrc}(u:bo P (.ixa d k x i) m=true)(q:step Γ (.ixa d k x i) s=some (true,s'))(h:SR g s w a)(L:cL g s w a s' next):m.wp P a w next Q:=by
 obtain⟨dst,op,ty,pos,Y,gd⟩:=m;simp only[bo,Ac,beq_iff_eq] at u;obtain⟨rfl,u⟩:=u;split at u
 ·rename_i t X i';simp only[Ac] at u;obtain⟨B,h2,W⟩:=u;have A:=aP h2 h.er;have E:=aP W h.er;simp only[step] at q;split at q
  ·rename_i k' o l ki n R hi;split at q
   ·rename_i O;subst O;simp only[Ai,Ao,Ac,decide_eq_true_eq] at q;obtain⟨⟨Z,F⟩,rfl⟩:=q;rw[R] at A;rw[hi] at E;obtain⟨e,u1,B⟩:=fT B;obtain⟨inf,z,i1,i2,i3,i4,i5,_⟩:=mX B;generalize D:a.eval X=cv at A;generalize y:a.eval i'=ci at E;cases E;cases A with
    |sln=>simp at F;omega
    |sle=>simp at F;omega
    |sl _ _ _ b C len cap S I hm M f N J hv=>
     subst S;have H:n.toNat<l.length:=by omega
     have p:l[n.toNat]? =some l[n.toNat]:=Ab H;have hd:l.getD n.toNat (ao k')=l[n.toNat]:=by simp[An,p]
     have G:∀w':World,(sizeOf e).run P w'=.ok k'.sz w':=λw'=>by simp[sizeOf,typeInfo,i1,i2]
     refine aM h rfl (cv:=.pointer (some ⟨b,C+n.toNat*k'.sz,none⟩)) ?_ ?_ rfl L;·simp[execOp,D,y,Instr.indexAt,asIntOf,run_underlying u1,Z,F,G,BV]
     ·rw[hd];exact .ea _ _ _ (f n.toNat) (yo _ _) (λj v=>N _ _ _ p v) (λj v=>J _ _ _ p v) (λj c v=>hv _ _ _ _ p v)
   ·simp at q
  ·simp at q
 ·simp at u
theorem sq{v:Value}{k:IntKind}{n:Int}{y:Nat}{b:BoundsCode}(e:0<=n)(d:n<=y)(w:World):(Instr.sliceBound (.int k n) y b).run P w=.ok n.toNat w:=by simp[Instr.sliceBound,asIntOf,e,d]
theorem acX{len cap:Nat}{isS:Bool}{C A:Option ASrc}{f d:Option Operand}{p q:Nat}(M:len<=cap)(t:kQ C f=true)(i:kQ A d=true)
  (b:acS len (jo s C) (jo s A)=some (true,p,q)) (h:SR g s w a):
  (CH isS len cap (f.map a.eval) (d.map a.eval) none).run P w=.ok (p,q,cap) w∧p<=q∧q<=len:=by
 have e:∀(x:ASrc)(y:Operand)(k:IntKind)(n:Int),aH x y=true->x.ev s=.int k n->a.eval y=.int k n:=by intro x y k n E j;have r:=aP E h.er;rw[j] at r;generalize I:a.eval y=cv at r;cases r;rfl
 cases C with
 |none=>
  cases f with
  |some _=>simp[kQ] at t
  |none=>
  cases A with
  |none=>
   cases d with
   |some _=>simp[kQ] at i
   |none=>
   simp only[jo,acS,Ai,Ao,true_and] at b;obtain⟨rfl,rfl⟩:=b;refine⟨by simp[CH],by omega,by omega⟩
  |some y=>
   cases d with
   |none=>simp[kQ] at i
   |some L=>
   simp only[kQ] at i;simp only[jo] at b;cases u:y.ev s<;>rw[u] at b<;>simp[acS] at b;rename_i k n;obtain⟨⟨o,B⟩,rfl,rfl⟩:=b;have:=e _ _ _ _ i u;refine⟨?_,by omega,by omega⟩;simp[CH,this,sq (P:=P) (v:=.int k n) o (show n<=(cap:Int) by omega)]
 |some x=>
  cases f with
  |none=>simp[kQ] at t
  |some O=>
  simp only[kQ] at t;cases A with
  |none=>
   cases d with
   |some _=>simp[kQ] at i
   |none=>
   simp only[jo] at b;cases j:x.ev s<;>rw[j] at b<;>simp[acS] at b;rename_i k n;obtain⟨⟨o,B⟩,rfl,rfl⟩:=b;have:=e _ _ _ _ t j;refine⟨?_,by omega,by omega⟩;simp[CH,this,sq (P:=P) (v:=.int k n) o B]
  |some y=>
   cases d with
   |none=>simp[kQ] at i
   |some L=>
   simp only[kQ] at i;simp only[jo] at b;cases j:x.ev s<;>rw[j] at b<;>cases u:y.ev s<;>rw[u] at b<;>simp[acS] at b;rename_i k n G D;obtain⟨⟨⟨o,B⟩,J,N⟩,rfl,rfl⟩:=b;have H:=e _ _ _ _ t j;have F:=e _ _ _ _ i u;refine⟨?_,by omega,by omega⟩;simp[CH,H,F,sq (P:=P) (v:=.int G D) o (show D<=(cap:Int) by omega),sq (P:=P) (v:=.int k n) J (show n<=(D.toNat:Int) by omega)]
theorem auo{d:Nat}{x:ASrc}{k o:Option ASrc}(f:bo P (.subs d x k o) m=true)(e:step Γ (.subs d x k o) s=some (true,s'))(h:SR g s w a)(y:cL g s w a s' next):m.wp P a w next Q:=by
 obtain⟨dst,S,ty,pos,H,N⟩:=m;simp only[bo,Ac,beq_iff_eq] at f;obtain⟨rfl,f⟩:=f;split at f
 ·rename_i t F L A;simp only[Ac] at f;obtain⟨v,I,E,C⟩:=f;have i:=aP I h.er;simp only[step] at e;split at e
  ·rename_i l B;simp only[Aq] at e;obtain⟨⟨c,p,q⟩,u,e⟩:=e;simp only[Ao] at e;obtain⟨rfl,rfl⟩:=e;rw[B] at i;split at v
   ·rename_i J;generalize j:a.eval F=cv at i;cases i with
    |str _ b D O=>
     subst D;rw[p9] at u;obtain⟨G,M,R⟩:=acX (P:=P) (isS:=false) (Ar _) E C u h;refine aM h rfl (cv:=.string (b.extract p q)) ?_ (.str _ _ ?_ ?_) rfl y;·simp[execOp,j,De,DJ,run_underlying J,G]
     ·simp[List.extract_eq_take_drop,DH]
     ·simp[ByteArray.size_extract];omega
   ·simp at v
  ·simp at e
 ·simp at f
theorem aup{d:Nat}{k:EK}{x:ASrc}{lo G:Option ASrc}(H:bo P (.subl d k x lo G) m=true)(C:step Γ (.subl d k x lo G) s=some (true,s'))(h:SR g s w a)(R:cL g s w a s' next):m.wp P a w next Q:=by
 obtain⟨dst,op,ty,pos,bs,gd⟩:=m;simp only[bo,Ac,beq_iff_eq] at H;obtain⟨rfl,H⟩:=H;split at H
 ·rename_i t x' bY a3;simp only[Ac] at H;obtain⟨h1,h2,Y,X⟩:=H;have Z:=aP h2 h.er;simp only[step] at C;split at C
  ·rename_i k' o l hx;split at C
   ·rename_i hk;subst hk;simp only[Aq] at C;obtain⟨⟨c,p,q⟩,hv,C⟩:=C;simp only[Ao] at C;obtain⟨rfl,rfl⟩:=C;rw[hx] at Z;obtain⟨e,W,h1⟩:=fT h1;obtain⟨inf,z,i1,i2,i3,i4,i5,_⟩:=mX h1;have E:∀w':World,(sizeOf e).run P w'=.ok k'.sz w':=λw'=>by simp[sizeOf,typeInfo,i1,i2]
    generalize D:a.eval x'=cv at Z;cases Z with
    |sln=>
     obtain⟨F,e2,S⟩:=acX (P:=P) (isS:=true) (Ar _) Y X hv h;simp only[Ak] at F S;obtain rfl:q=0:=by omega
     obtain rfl:p=0:=by omega
     refine aM h rfl (cv:=.slice none 0 0) ?_ ?_ rfl R;·simp[execOp,D,De,DJ,run_underlying W,F,E]
     ·simpa using VRel.sln (I:=g.I) (ρ:=g.ρ) (N:=s.hp.length) (w:=w) k' (.may false)
    |sle _ _ ad _=>
     obtain⟨F,e2,S⟩:=acX (P:=P) (isS:=true) (Ar _) Y X hv h;simp only[Ak] at F S;obtain rfl:q=0:=by omega
     obtain rfl:p=0:=by omega
     refine aM h rfl (cv:=.slice (some ad) 0 0) ?_ ?_ rfl R;·simp[execOp,D,De,DJ,run_underlying W,F,E]
     ·simpa using VRel.sle (I:=g.I) (ρ:=g.ρ) (N:=s.hp.length) (w:=w) k' (.may false) ad (by simp)
    |sl _ _ _ b u len cap hl O hm a4 f hI hw al=>
     subst hl;obtain⟨F,e2,S⟩:=acX (P:=P) (isS:=true) O Y X hv h;by_cases M:cap=p
     ·subst M;have hq:q=cap:=by omega
      subst hq;have J:(l.take q).drop q=[]:=by simp
      refine aM h rfl (cv:=.slice (some ⟨b,u,none⟩) 0 0) ?_ ?_ rfl R;·simp[execOp,D,De,DJ,run_underlying W,F,E]
      ·rw[J];exact .sl k' (.may false) [] b u 0 0 rfl (by simp) (by simp[dc]) (by simp) f (λi x j G=>by simp at G) (λi x j G=>by simp at G) (λi x j v G=>by simp at G)
     ·refine aM h rfl (cv:=.slice (some ⟨b,u+p*k'.sz,none⟩) (q-p) (cap-p)) ?_ ?_ rfl R;·simp[execOp,D,De,DJ,run_underlying W,F,E,M,BV]
      ·have A:∀(i:Nat) y,((l.take q).drop p)[i]? =some y->l[p+i]? =some y:=by
        intro i y B;simp only[Bo,A3] at B;split at B;·exact B
        ·simp at B
       refine .sl k' (.may false) _ b _ _ _ ?_ ?_ (by omega) (by simp) (λi j=>f (p+i) j) ?_ ?_ ?_;·simp;omega
       ·simp;omega
       ·intro i y j B L;have:=hI _ _ _ (A i y B) L
        rwa [show u+p*k'.sz+i*k'.sz+j=u+(p+i)*k'.sz+j by rw[AP];omega]
       ·intro i y j B L;have:=hw _ _ _ (A i y B) L
        rwa [show u+p*k'.sz+i*k'.sz+j=u+(p+i)*k'.sz+j by rw[AP];omega]
       ·intro i y j v B L;exact al _ _ _ _ (A i y B) L
   ·simp at C
  ·simp at C
 ·simp at H
theorem auX{d e:Nat}{x:ASrc}(q:bo P (.fad d e x) m=true)(A:step Γ (.fad d e x) s=some (true,s'))(h:SR g s w a)(H:cL g s w a s' next):m.wp P a w next Q:=by
 obtain⟨dst,op,ty,pos,O,Z⟩:=m;simp only[bo,Ac,beq_iff_eq] at q;obtain⟨rfl,q⟩:=q;split at q
 ·rename_i t I X;simp only[Ac] at q;obtain⟨k,R⟩:=q;have y:=aP R h.er;split at k
  ·rename_i fs S;split at k
   ·rename_i W E;simp only[Ac,beq_iff_eq] at k;obtain⟨L,k⟩:=k;have u:∀w':World,∃n,n≠0∧(sizeOf W.type).run P w'=.ok n w':=by
     intro w';unfold ahR fe at k;split at k;·rename_i n F;exact⟨n,by simpa using k,nL (by simpa [fe] using F) w'⟩
     ·simp at k
    obtain⟨n,C,u⟩:=u w;have i:∀b o,(Instr.fieldAt t (.pointer (some ⟨b,o,none⟩)) X).run P w=.ok (.pointer (some ⟨b,o+e,none⟩)) w:=by intro b o;simp[Instr.fieldAt,run_underlying S,E,BZ,fieldPlace,u,C,L,BV]
    simp only[step] at A;split at A
    ·rename_i cs B;obtain rfl:_=s':=by simpa using A
     rw[B] at y;generalize p:a.eval I=cv at y;cases y with
     |ea _ b o f N M J Y=>
      refine aM h rfl (cv:=.pointer (some ⟨b,o+e,none⟩)) (by simp[execOp,p,i]) ?_ rfl H;refine .ea _ _ _ (λj=>f (e+j)) (λc G=>N c (BN G)) ?_ ?_ ?_
      ·intro j v;simp only[BH] at v;have:=M (e+j) (by omega)
       rwa [DU]
      ·intro j v;simp only[BH] at v;have:=J (e+j) (by omega)
       rwa [DU]
      ·intro j c v;rw[Bo] at v;exact Y _ _ v
    ·rename_i id o B;obtain rfl:_=s':=by simpa using A
     rw[B] at y;generalize p:a.eval I=cv at y;cases y with
     |ptr _ _ D=>exact aM h rfl (cv:=.pointer (some ⟨g.ρ id,o+e,none⟩)) (by simp[execOp,p,i]) (.ptr _ _ D) rfl H
    ·simp at A
   ·simp at k
  ·simp at k
 ·simp at q
theorem tS{I:Nat->Nat->Prop}{ρ:Nat->Nat}{N:Nat}{agg:Bool}{cs:List V}{vs:List Value}(o:∀c∈cs,c.one=true)(j:cs.length=vs.length)(h:agg=true∨cs.length=1)
  (k:∀(i:Nat) c cv,cs[i]? =some c->vs[i]? =some cv->VRel I ρ N w c cv):VRel I ρ N w (loaded agg cs) (if agg then .agg vs.toArray else vs.headD undef):=by
 cases agg with
 |true=>
  simp only[loaded,if_true];refine .agg _ _ (by simpa using j) ?_ ?_ ?_;·intro c d;obtain⟨e,b,rfl⟩:=AG.1 d;rw[lO];exact o e b
  ·intro i c cv d _;rw[AA,Aq] at d;obtain⟨e,_,rfl⟩:=d;exact acT e cv
  ·intro i c cv d f;rw[AA,Aq] at d;obtain⟨e,b,rfl⟩:=d;exact(k i _ _ b (by simpa using f)).disown
 |false=>
  have h:cs.length=1:=by simpa using h
  match cs,vs,j,h with
  | [c],[v],_,_=>exact k 0 c v rfl rfl
theorem auY{d i:Nat}{x:ASrc}(b:bo P (.ext d i x) m=true)(f:step Γ (.ext d i x) s=some (true,s'))(h:SR g s w a)(u:cL g s w a s' next):m.wp P a w next Q:=by
 obtain⟨dst,F,ty,pos,A,D⟩:=m;simp only[bo,Ac,beq_iff_eq] at b;obtain⟨rfl,b⟩:=b;split at b
 ·rename_i y E;simp only[Ac,beq_iff_eq] at b;obtain⟨rfl,k⟩:=b;have o:=aP k h.er;simp only[step] at f;split at f
  ·rename_i vs v;split at f
   ·rename_i q;obtain rfl:_=s':=by simpa using f
    rw[v] at o;generalize p:a.eval y=cv at o;cases o with
    |tup _ cvs C B=>
     have t:vs[i]? =some vs[i]:=Ab q;have j:i<cvs.size:=by omega
     have k:cvs[i]? =some cvs[i]:=As j;have e:vs[i]?.getD V.undef=vs[i]:=by simp[t]
     refine aM h rfl (cv:=cvs[i]) (by simp[execOp,p,Instr.extract,k]) ?_ (eH _) u;rw[e];exact(B _ _ _ t k).disown
   ·simp at f
  ·simp at f
 ·simp at b
theorem auZ{d:Option Nat}{x:ASrc}(p:bo P (.nck d x) m=true)(j:step Γ (.nck d x) s=some (true,s'))(h:SR g s w a)(y:cL g s w a s' next):m.wp P a w next Q:=by
 obtain⟨dst,F,ty,pos,u,A⟩:=m;simp only[bo,Ac,beq_iff_eq] at p;obtain⟨rfl,p⟩:=p;split at p
 ·rename_i t;have b:=aP p h.er;have key:∀v cv,VRel g.I g.ρ s.hp.length w v cv->v.bare=true->(execOp a.eval ⟨dst,.nilCheck t,ty,pos,u,A⟩).run P w=.ok (.value cv) w->cL g s w a (s.setO dst v) next->(⟨dst,.nilCheck t,ty,pos,u,A⟩:Oper).wp P a w next Q:=by
   intro v cv E D C B;cases dst with
   |some d=>exact aM h rfl C E D B
   |none=>unfold C7 Di;rw[C];exact B _ _ g h (FR.refl _ _ _) rfl
  simp only[step] at j;split at j
  ·rename_i id o q;obtain rfl:_=s':=by simpa using j
   rw[q] at b;generalize e:a.eval t=cv at b;have f:=b;cases b;exact key _ _ f rfl (by simp[execOp,e]) y
  ·rename_i cs q;obtain rfl:_=s':=by simpa using j
   rw[q] at b;generalize e:a.eval t=cv at b;have f:=b;cases b;exact key _ _ f rfl (by simp[execOp,e]) y
  ·rename_i id k i o q;obtain rfl:_=s':=by simpa using j
   rw[q] at b;generalize e:a.eval t=cv at b;have f:=b;cases b;exact key _ _ f rfl (by simp[execOp,e]) y
  ·simp at j
 ·simp at p
theorem qa{t:TypeId}{n:Nat}{agg:Bool}{b o:Nat}{vs:List Value}(f:fe P t=some n)(d:mV P t=some agg)(e:agg=true∨n=1)(h:vs.length=n)
  (i:∀(j:Nat) v,vs[j]? =some v->w.cell? ⟨b,o+j,none⟩=some v):
  (Dw t (.pointer (some ⟨b,o,none⟩))).run P w=.ok (if agg then .agg vs.toArray else vs.headD undef) w:=by
 cases agg with
 |true=>have:=run_loadCells_list (P:=P) w ⟨b,o,none⟩ vs (λj v k=>by rw[BV];exact i j v k);rw[h] at this;simp[Dw,BZ,loadVar,acW d,nL f,this]
 |false=>
  have e:n=1:=by simpa using e
  subst e;match vs,h with
  | [v],_=>have:=i 0 v rfl;simp only[B5] at this;simp[Dw,BZ,loadVar,acW d,this]
theorem ahS{id:Nat}{cs:List V}(b:s.obj id=some cs):s.hp[id]? =some (some cs)∧cF cs=false∧kj cs=false:=by
 unfold St.obj at b;simp only[An] at b;cases j:s.hp[id]? with
 |none=>rw[j] at b;simp at b
 |some x=>
  rw[j] at b;simp only[Bk] at b;split at b;·cases b
  ·cases b
  ·cases b
  ·cases b
  ·rename_i i f e h;subst b;refine⟨rfl,?_,?_⟩
   rotate_left
   ·cases o:kj cs with
    |false=>rfl
    |true=>obtain⟨k,es,rfl⟩:=yw o;exact(e _ _ rfl).elim
   cases d:cF cs with
   |false=>rfl
   |true=>
    unfold cF at d;split at d;·exact(i _ rfl).elim
    ·exact(f _ _ rfl).elim
    ·exact(h _ rfl).elim
    ·cases d
theorem jq{id:Nat}{cs:List V}(b:s.obj id=some cs):s.hp[id]? =some (some cs)∧cF cs=false:=⟨(ahS b).1,(ahS b).2.1⟩
theorem s7{id:Nat}{cs:List V}(h:HR g s.hp w)(i:s.obj id=some cs):∃b e,w.heap[g.ρ id]? =some (.cells b e (0,0))∧afn g s.hp.length w id cs b e:=by obtain⟨p,o,f⟩:=ahS i;obtain⟨b,e,q,j,d⟩:=(h.obj id cs p).row f;obtain⟨rfl,k⟩:=d.low o;exact⟨b,e,j,k⟩
theorem aT{b:Nat}{d:Array Value}{e:TypeId}{f:Nat×Nat}(h:w.heap[b]? =some (.cells d e f))(j:Nat):w.cell? ⟨b,j,none⟩=d[j]?:=by simp[Bv,h]
theorem aqG{d n:Nat}{agg:Bool}{x:ASrc}(p:bo P (.ld d n agg false x) m=true)(u:step Γ (.ld d n agg false x) s=some (true,s'))(h:SR g s w a)(M:cL g s w a s' next):m.wp P a w next Q:=by
 obtain⟨dst,op,ty,pos,an,gd⟩:=m;simp only[bo,Ac,beq_iff_eq] at p;obtain⟨rfl,p⟩:=p;split at p
 ·rename_i t R;simp only[Ac,beq_iff_eq,A7] at p;obtain⟨S,W,y,h4⟩:=p;have E:=aP h4 h.er;simp only[step] at u;split at u
  ·rename_i cs F;split at u
   ·rename_i G;obtain rfl:_=s':=by simpa using u
    rw[F] at E;generalize k:a.eval R=cv at E;cases E with
    |ea _ b o f e1 hI Z hv=>
     have q:=tS (agg:=agg) (cs:=cs.take n) (vs:=(AU n).map f) (w:=w) (I:=g.I) (ρ:=g.ρ) (N:=s.hp.length)
      (λc D=>e1 c (Bn D)) (by simp;omega) (by
       rcases y with y|y;·exact .inl y
       ·right;simp;omega)
      (λi c cv p k=>by
       simp only[A3] at p;split at p;·rename_i H;simp[H] at k;subst k;exact hv _ _ p
       ·simp at p)
     refine aM h rfl (cv:=if agg then .agg ((AU n).map f).toArray else ((AU n).map f).headD undef) ?_ q.disown (eH _) M;have:=qa (P:=P) (w:=w) (b:=b) (o:=o) (vs:=(AU n).map f) S W y (by simp) (λj v C=>by rw[AA,Aq] at C;obtain⟨j',J,rfl⟩:=C;obtain⟨L,rfl⟩:=Ad.1 J;simp only[DY] at L;simpa using Z j (by omega));simp[execOp,k,this]
   ·simp at u
  ·rename_i id o F;split at u
   ·rename_i cs Y;split at u
    ·rename_i G;obtain rfl:_=s':=by simpa using u
     rw[F] at E;generalize k:a.eval R=cv at E;cases E with
     |ptr _ _ al=>
      obtain⟨A,e,X,B⟩:=s7 h.hr Y;have O:=B.len
      have q:=tS (agg:=agg) (cs:=(cs.drop o).take n) (vs:=(A.toList.drop o).take n) (w:=w) (I:=g.I) (ρ:=g.ρ) (N:=s.hp.length)
       (λc D=>B.one c (BN (Bn D))) (by simp;omega) (by
        rcases y with y|y;·exact .inl y
        ·right;simp;omega)
       (λi c cv p k=>by
        simp only[A3,Bo] at p k;split at p;·rename_i H;simp only[H,if_true] at k;exact B.rel _ _ _ p (by simpa using k)
        ·simp at p)
      refine aM h rfl (cv:=if agg then .agg ((A.toList.drop o).take n).toArray else ((A.toList.drop o).take n).headD undef) ?_ q.disown (eH _) M;have:=qa (P:=P) (w:=w) (b:=g.ρ id) (o:=o) (vs:=(A.toList.drop o).take n) S W y (by simp;omega) (λj v C=>by
       rw[aT X];simp only[A3,Bo] at C;split at C;·simpa using C
       ·simp at C)
      simp[execOp,k,this]
    ·simp at u
   ·simp at u
  ·simp at u
 ·simp at p
theorem avG{d:Nat}{B:Bool}{x y:ASrc}(e:bo P (.mx d B x y) m=true)(o:step Γ (.mx d B x y) s=some (true,s'))(h:SR g s w a)(H:cL g s w a s' next):m.wp P a w next Q:=by
 obtain⟨dst,I,ty,pos,D,M⟩:=m;simp only[bo,Ac,beq_iff_eq] at e;obtain⟨rfl,e⟩:=e;simp only[step] at o;have fin:∀f i ts (b:Builtin),I=.call ⟨.builtin b,⟨[f,i]⟩,ts⟩->(b=if B then Builtin.min else Builtin.max)->aH x f=true->aH y i=true->(⟨some d,I,ty,pos,D,M⟩:Oper).wp P a w next Q:=by
  rintro f i ts b rfl G u v;have C:=aP u h.er;have F:=aP v h.er;split at o
  ·rename_i k p k' q L N;split at o
   ·rename_i J;subst J;obtain rfl:_=s':=by simpa using o
    rw[L] at C;rw[N] at F;generalize A:a.eval f=R at C;generalize t:a.eval i=O at F;cases C with
    |int _ _ hp=>
    cases F with
    |int _ _ S=>
    cases B with
    |true=>subst G;refine aM h rfl (cv:=.int k (if q<p then q else p)) ?_ (.int _ _ (by split<;>assumption)) rfl H;simp[execOp,resolve,A,t,invoke,builtin,Builtin.min_,Builtin.min2]
    |false=>subst G;refine aM h rfl (cv:=.int k (if p<q then q else p)) ?_ (.int _ _ (by split<;>assumption)) rfl H;simp[execOp,resolve,A,t,invoke,builtin,Builtin.max_,Builtin.max2]
   ·simp at o
  ·simp at o
 split at e;·rename_i f i ts j;simp only[Ac] at e;obtain⟨E,u,v⟩:=e;exact fin f i _ .min (lP j) (by simp[E]) u v
 ·rename_i f i ts j;simp only[Ac,BK] at e;obtain⟨E,u,v⟩:=e;exact fin f i _ .max (lP j) (by simp[E]) u v
 ·simp at e
end
section
variable{w w':World}{g g':Gh}{s s':St}{a:Act}{P:Program}
theorem sL(k:EK)(x:Ty k):∀c∈enc k x,c.bare=true:=by cases k<;>simp[enc,V.bare]
def tT(p:Option Occ)(s:St):Prop:=
 match p with
 |some (.slot n)=>∀v,s.env[n]? =some v->v.bare=true
 |some (.cell id j)=>∀cs v,s.hp[id]? =some (some cs)->cs[j]? =some v->v.bare=true
 |_=>True
theorem SR.keep(h:SR g s w a)(p:Option Occ)(hp:tT p s)(y:g'.β=g.β)(u:Up g.I g.ρ s.hp.length w g'.I g'.ρ s.hp.length w')
  (Q:∀f b,g.O b=some f->p≠some f->g'.O b=some f∧w'.heap[b]? =w.heap[b]?∧∀j,g'.I b j->g.I b j)
  (F:∀(id:Nat) cs,s.hp[id]? =some (some cs)->w'.heap[g.ρ id]? =w.heap[g.ρ id]?∧g'.O (g.ρ id)=none∧∀j,g'.I (g.ρ id) j->g.I (g.ρ id) j)
  (H:∀b j,g'.I b j->p7 w' b j) (L:∀b o,g'.O b=some o->b<w'.heap.size):SR g' s w' a:=by
 have own:∀f v cv,ap g w f v cv->(p=some f->v.bare=true)->ap g' w' f v cv:=by
  intro f v cv C m;by_cases e:p=some f;·exact kP (m e) _ _ _ _
  ·exact cH C y (λb j B=>⟨u.mono b j B,u.cell b j B⟩) (λb N=>Q f b N e)
 have lt:∀(id:Nat) cs,s.hp[id]? =some (some cs)->id<s.hp.length:=λid cs d=>(Ad.1 d).1
 refine⟨⟨?_,?_,?_,?_,H,L⟩,⟨h.er.size,?_,?_⟩⟩
 ·intro id cs d;refine(h.hr.obj id cs d).keep ?_ λR e Y C m=>⟨m.len,m.plain,m.typedUp y u.rho u.num rfl,m.cold,m.one,λj c cv q i=>(m.rel j c cv q i).up u,λj c cv q i=>?_,by rw[u.rho id (lt id cs d)];exact m.bn⟩
  ·rw[u.rho id (lt id cs d),(F id cs d).1]
  ·refine own _ _ _ (m.own j c cv q i) ?_;rintro rfl;cases D:cF cs with
   |false=>rw[eM D] at q;exact hp cs c d q
   |true=>
    unfold cF at D;split at D;·simp only[cellsOf,AA,Aq] at q;obtain⟨_,_,rfl⟩:=q;rfl
    ·rename_i k xs;have M:=Am q;simp only[cellsOf,AX] at M;obtain⟨x,_,G⟩:=M;exact sL k x c G
    ·rcases arS q (m.one c (Am q)) with⟨k,x,G⟩|⟨X,S,W,_,rfl⟩
     ·exact sL k x c G
     ·rfl
    ·cases D
 ·intro id t cs A C m J;rw[u.rho id (lt id cs C),u.rho t (lt t A m)];exact h.hr.apart id t cs A C m J
 ·intro id cs d j B;rw[u.rho id (lt id cs d)] at B;exact h.hr.notI id cs d j ((F id cs d).2.2 j B)
 ·intro id cs d;rw[u.rho id (lt id cs d)];exact(F id cs d).2.1
 ·intro n v cv E i;exact(h.er.rel n v cv E i).up u
 ·intro n v cv E i;refine own _ _ _ (h.er.own n v cv E i) ?_;rintro rfl;exact hp v E
theorem SR.bare(h:SR g s w a)(n:Nat):SR g (s.set n (disown (s.get n))) w a:=by
 refine⟨h.hr,⟨by simp[St.set,h.er.size],?_,?_⟩⟩
 ·intro m v cv b d;simp only[St.set,Ay] at b;by_cases e:n=m
  ·subst e;simp only[if_true] at b;split at b
   ·cases Ax b;rename_i f;have:s.env[n]? =some (s.get n):=by simp[St.get,An,Ab f]
    exact(h.er.rel n _ cv this d).disown
   ·simp at b
  ·simp only[e,if_false] at b;exact h.er.rel m v cv b d
 ·intro m v cv b d;simp only[St.set,Ay] at b;by_cases e:n=m
  ·subst e;simp only[if_true] at b;split at b;·cases Ax b;exact ap.disown _ _ _ _ _
   ·simp at b
  ·simp only[e,if_false] at b;exact h.er.own m v cv b d
theorem SR.after(h:SR g s w a)(x:ASrc):SR g (x.after s) w a:=by
 cases x with
 |tk n=>exact h.bare n
 |_=>exact h
theorem nS(x:ASrc)(s:St):(x.after s).hp=s.hp:=by cases x<;>rfl
theorem wl(n:Nat)(s:St):tT (some (.slot n)) ((ASrc.tk n).after s):=by
 intro v b;simp only[ASrc.after,St.set,Ay,if_true] at b;split at b;·cases Ax b;exact eH _
 ·simp at b
def Gh.reown(g:Gh)(b:Nat)(o:Occ):Gh:={g with O:=λd=>if d=b then some o else g.O d}
theorem SR.reown(h:SR g s w a){p q:Occ}(hp:tT (some p) s){b:Nat}(i:g.O b=some p):SR (g.reown b q) s w a:=by
 refine h.keep (some p) hp rfl (Up.refl _ _ _ _) ?_ ?_ h.hr.exI ?_
 ·intro v u d m;have:u≠b:=by
   rintro rfl;rw[i] at d;exact m d
  exact⟨by simp[Gh.reown,this,d],rfl,λj f=>f⟩
 ·intro id cs t;refine⟨rfl,?_,λj f=>f⟩;have k:=h.hr.notO id cs t;have:g.ρ id≠b:=by
   rintro e;rw[e,i] at k;simp at k
  simp[Gh.reown,this,k]
 ·intro u o d;simp only[Gh.reown] at d;split at d;·rename_i e;subst e;exact h.hr.oLt _ _ i
  ·exact h.hr.oLt _ _ d
theorem FR.reown{hp:List ai}{p q:Occ}{b:Nat}(f:g.O b=some p):FR g hp w (g.reown b q) hp w:=by
 refine⟨rfl,rfl,rfl,rfl,Ar _,λ_ _ _ _=>rfl,Up.refl _ _ _ _,λ_ _ _ _ _ e=>e,?_,λ_ cs h=>.inl ⟨cs,h⟩⟩;intro i _ _ d;have:i≠b:=by rintro rfl;rw[f] at d;simp at d
 simp[Gh.reown,this,d]
theorem ahT{p q:Occ}{v:V}{cv:Value}(h:SR g s w a)(hp:tT (some p) s)(i:ap g w p v cv):
  ∃g₁,SR g₁ s w a∧FR g s.hp w g₁ s.hp w∧g₁.I=g.I∧g₁.ρ=g.ρ∧ap g₁ w q v cv:=by
 cases v with
 |sl k o xs=>
  cases o with
  |may u=>exact⟨g,h,FR.refl _ _ _,rfl,rfl,by simp[ap]⟩
  |own=>
   cases cv with
   |slice d len cap=>
    cases d with
    |none=>exact⟨g,h,FR.refl _ _ _,rfl,rfl,by simp[ap]⟩
    |some d=>obtain⟨f,m,j⟩:=i;exact⟨g.reown d.block q,h.reown hp f,FR.reown f,rfl,rfl,by simp[Gh.reown],m,j⟩
   |_=>exact⟨g,h,FR.refl _ _ _,rfl,rfl,by simp[ap]⟩
 |raw n=>
  cases cv with
  |pointer d=>
   cases d with
   |none=>exact⟨g,h,FR.refl _ _ _,rfl,rfl,by simp[ap]⟩
   |some d=>obtain⟨f,m,j⟩:=i;exact⟨g.reown d.block q,h.reown hp f,FR.reown f,rfl,rfl,by simp[Gh.reown],m,j⟩
  |_=>exact⟨g,h,FR.refl _ _ _,rfl,rfl,by simp[ap]⟩
 |ul k xs=>
  rcases i with i|⟨b,cap,t,e,A,B,f,m,j,x,y⟩
  ·exact⟨g,h,FR.refl _ _ _,rfl,rfl,.inl i⟩
  ·exact⟨g.reown b q,h.reown hp x,FR.reown x,rfl,rfl,.inr ⟨b,cap,t,e,A,B,f,m,j,by simp[Gh.reown],y⟩⟩
 |_=>exact⟨g,h,FR.refl _ _ _,rfl,rfl,by simp[ap]⟩
theorem SR.newRow(h:SR g s w a)(k:EK)(xs:List (Ty k))(cap d:Nat)(p:Array Value)(e:TypeId)(S:Nat×Nat)
  (a3:w'.heap.size=w.heap.size+1) (m:∀b,b<w.heap.size->w'.heap[b]? =w.heap[b]?) (q:w'.heap[w.heap.size]? =some (.cells p e S))
  (Y:w'.os=w.os) (W:w'.tape=w.tape) (L:w'.output=w.output)
  {o:Fl} (al:o=.may true->xs.length=cap) (R:xs.length<=cap) (hm:cap<=dc) (y:cap*k.sz<=p.size) (N:k=.u8->e=g.β)
  (ad:∀j,xs.length*k.sz<=j->j<cap*k.sz->¬(S.1<=j∧j<S.2))
  (hv:∀(i:Nat) x j v,xs[i]? =some x->(enc k x)[j]? =some v->∃cv,p[i*k.sz+j]? =some cv∧VRel g.I g.ρ s.hp.length w v cv) (Z:k=.u8∨S=(0,0):=by first|exact .inl rfl|exact .inr rfl):
  ∃g',SR g' (s.set d (.sl k o xs)) w' (a.put (some d) (.slice (some ⟨w.heap.size,0,none⟩) xs.length cap))∧FR g s.hp w g' s.hp w':=by
 let g':Gh:={I:=λb j=>g.I b j∨(b=w.heap.size∧j<xs.length*k.sz),ρ:=g.ρ,O:=λb=>if b=w.heap.size then some (.slot d) else g.O b,β:=g.β}
 have D:∀b j,g.I b j->b<w.heap.size:=by intro b j B;exact(h.hr.exI b j B).lt
 have E:∀b j,b<w.heap.size->w'.cell? ⟨b,j,none⟩=w.cell? ⟨b,j,none⟩:=by intro b j t;simp[Bv,m b t]
 have u:Up g.I g.ρ s.hp.length w g'.I g'.ρ s.hp.length w':=⟨λb j B=>.inl B,λb j B=>E b j (D b j B),λ_ _=>rfl,Ar _⟩
 have F:∀j,w'.cell? ⟨w.heap.size,j,none⟩=p[j]?:=λj=>aT q j
 have an:xs.length*k.sz<=p.size:=AR (A1 _ R) y;have hs:SR g' s w' a:=by
  refine h.keep none trivial rfl u ?_ ?_ ?_ ?_
  ·intro X b t _;have A:=h.hr.oLt b X t;refine⟨by simp[g',Bu A,t],m b A,?_⟩;rintro j (f|⟨f,_⟩);·exact f
   ·omega
  ·intro id cs Q;have A:=(h.hr.obj id cs Q).lt;refine⟨m _ A,by simp[g',Bu A,h.hr.notO id cs Q],?_⟩;rintro j (f|⟨f,_⟩);·exact f
   ·omega
  ·rintro b j (f|⟨rfl,f⟩);·exact(h.hr.exI b j f).blk (by first|exact m b (D b j f)|exact f2 b (D b j f))
   ·refine .row q (by omega) λ_ hz=>?_
    rcases Z with rfl|rfl;·simp only[EK.sz,CS] at f;obtain⟨cv,C,H⟩:=hv j _ 0 _ (Ab f) rfl;simp only[EK.sz,CS,B5] at C;cases H;exact⟨_,C⟩
    ·simp at hz
  ·intro b o t;simp only[g'] at t;split at t;·omega
   ·have:=h.hr.oLt b o t;omega
 have J:∀(i:Nat) x,xs[i]? =some x->i<xs.length:=λi x G=>(Ad.1 G).1
 have M:∀(i j:Nat),i<xs.length->j<k.sz->i*k.sz+j<xs.length*k.sz:=by
  intro i j B f
  calc i*k.sz+j<i*k.sz+k.sz:=by omega
   _=(i+1)*k.sz:=by rw[AP,B4]
   _<=xs.length*k.sz:=A1 _ B
 refine⟨g',hs.set d ?_ ?_,⟨rfl,Y,W,L,by omega,λb t _ _=>m b t,u,?_,?_,λ_ cs h=>.inl ⟨cs,h⟩⟩⟩
 ·refine .sl k o xs _ _ _ _ rfl R hm al (λi j=>p[i*k.sz+j]?.getD undef) ?_ ?_ ?_;·intro i x j G f;rw[bT] at f;exact .inr ⟨rfl,by have:=M i j (J i x G) f;omega⟩
  ·intro i x j G f;obtain⟨cv,C,_⟩:=hv i x j _ G (Ab f);rw[Be,F,C];rfl
  ·intro i x j v G f;obtain⟨cv,C,H⟩:=hv i x j v G f;rw[C];exact H.up u
 ·cases o with
  |may u=>simp[ap]
  |own=>
  refine⟨by simp[g'],⟨p,e,S,q,by simpa using y,N⟩,?_⟩;intro j C H;simp only[Be] at C H;refine⟨?_,?_⟩
  ·rintro(B|⟨_,B⟩);·exact absurd (D _ _ B) (by simp)
   ·omega
  ·have:=ad j C H;simp only[BD,q];simpa using this
 ·rintro b j t _ _ (f|⟨f,_⟩);·exact f
  ·omega
 ·intro b t _ hO;simp[g',Bu t,hO]
end
section
variable{w w':World}{g g':Gh}{s s':St}{a:Act}{P:Program}{Γ:aq}{m:Oper}{next:Act->World->Prop}{Q:Exit->Act->World->Prop}
theorem eN{d:Nat}{cv:Value}(hd:m.dst=some d)(b:(execOp a.eval m).run P w=.ok (.value cv) w')
  (h:∃g',SR g' s' w' (a.put (some d) cv)∧FR g s.hp w g' s'.hp w') (e:cL g s w a s' next):m.wp P a w next Q:=by
 unfold C7 Di;rw[b,hd];obtain⟨g',f,i⟩:=h;exact e _ _ g' f i rfl
def aac:List ASrc->List (Nat×Operand)->Nat->Bool
 | [],[],_=>true
 |x::xs,(i,y)::ys,n=>(i==n)&&(aH x y&&aac xs ys (n+1))
 |_,_,_=>false
def yx(P:Program)(fs:Array Field):List (Nat×Nat×ASrc)->List (Nat×Operand)->Bool
 | [],[]=>true
 |(b,n,x)::xs,(i,y)::ys=>(match fs[i]? with|some f=>(f.offset==b)&&(fe P f.type==some n)|none=>false)&&(aH x y&&yx P fs xs ys)
 |_,_=>false
def aiN(P:Program)(t:TypeId)(zero:List V):Bool:=match P.info? t with|some i=>(match i.zero with|some z=>jp zero z.cells.toList|none=>false)|none=>false
def rD(P:Program)(o:IOp)(m:Oper):Bool:=
 match o with
 | .mov d x=>(m.dst==some d)&&(match m.op with| .move y=>aH x y| .assign y=>aH x y|_=>false)
 | .bsl d k f _=>(m.dst==some d)&&(match m.op with| .buildSlice t n h=>mW P t k&&(n==f.length&&(decide (f.length*k.sz<=16777216)&&aac f h.toList 0))|_=>false)
 | .app d k x y=>(m.dst==some d)&&(match xS m.op with|some (.append,[b,e],[t,u])=>mW P t k&&(mW P u k&&(aH x b&&aH y e))|_=>false)
 | .apps d x y=>(m.dst==some d)&&(match xS m.op with|some (.append,[b,e],[t,u])=>mW P t .u8&&((match P.underlying u with|some .string=>true|_=>false)&&(aH x b&&aH y e))|_=>false)
 |_=>false
theorem au0{d:Nat}{x:ASrc}(f:rD P (.mov d x) m=true)(H:step Γ (.mov d x) s=some (true,s'))(h:SR g s w a)(B:cL g s w a s' next):m.wp P a w next Q:=by
 obtain⟨dst,u,ty,pos,i,o⟩:=m;simp only[rD,Ac,beq_iff_eq] at f;obtain⟨rfl,f⟩:=f;obtain rfl:_=s':=by simpa [step] using H
 have fin:∀y,aH x y=true->(execOp a.eval ⟨some d,u,ty,pos,i,o⟩).run P w=.ok (.value (a.eval y)) w->(⟨some d,u,ty,pos,i,o⟩:Oper).wp P a w next Q:=by
  intro y b G;have r:=aP b h.er;refine eN rfl G ?_ B;cases x with
  |t n=>exact⟨g,h.set d r (kP (eH _) _ _ _ _),FR.refl _ _ _⟩
  |c v=>
   refine⟨g,h.set d r ?_,FR.refl _ _ _⟩;unfold aH at b;split at b;·rename_i e;cases e
   ·rename_i e;cases e
   ·rename_i e;cases e;exact wj b _
   ·rename_i e;cases e;simp[ASrc.ev,ap]
   ·simp at b
  |tk n=>
   have j:y=.tmp n:=by
    unfold aH at b;split at b;·rename_i e;cases e
    ·rename_i k e;cases e;rw[show k=n by simpa using (beq_iff_eq.1 b).symm]
    ·rename_i e;cases e
    ·rename_i e;cases e
    ·simp at b
   subst j;have A:=h.er.getOwn n;obtain⟨g₁,F,p,D,C,E⟩:=ahT (q:=.slot d) (h.after (.tk n)) (wl n s) A;refine⟨g₁,F.set d ?_ E,?_⟩;·rw[D,C];exact r
   ·rw[nS] at p;simpa [St.set,nS] using p
 split at f;·rename_i y;exact fin y f (by simp[execOp])
 ·rename_i y;exact fin y f (by simp[execOp])
 ·simp at f
theorem afo:∀(vs:List Value)(b j:Nat)(cells:Array Value),b+j+vs.length<=cells.size->
  ((vs.zipIdx j).foldl (λ(cs:Array Value)(x:Value×Nat)=>cs.setIfInBounds (b+x.2) x.1) cells).toList=cells.toList.take (b+j)++vs++cells.toList.drop (b+j+vs.length)
 | [],b,j,cells,h=>by simp
 |v::vs,b,j,cells,h=>by
  simp only[Af] at h;rw[List.zipIdx_cons,BS,afo vs b (j+1) _ (by simp;omega)];simp only[Array.toList_setIfInBounds,Af];have d:b+j<cells.toList.length:=by rw[BT];omega
  rw[show b+(j+1)=b+j+1 by omega,List.take_succ_eq_append_getElem (by simpa using d),DC (by omega),Dz (by omega)];simp[AC];omega
theorem anL(sz:Nat):∀(vs:List (Array Value))(i:Nat)(cells:Array Value),(∀v∈vs,v.size=sz)->(i+vs.length)*sz<=cells.size->∀(e:List (Nat×Value)),e.map (·.1)=Bm i vs.length->e.map (·.2.cells)=vs->
  CN (λi=>some (i*sz,sz)) cells e=some (cells.toList.take (i*sz)++(vs.map (·.toList)).flatten++cells.toList.drop ((i+vs.length)*sz)).toArray
 | [],i,cells,k,f,e,A,h=>by
   have:e=[]:=by simpa using h
   subst this;simp[CN]
 |v::vs,i,cells,k,f,e,A,h=>by
  match e,A,h with
  |(b,x)::j,o,u=>
  simp only[A2,Af,Cv,List.cons.injEq] at o u;obtain⟨rfl,B⟩:=o;obtain⟨rfl,E⟩:=u;have d:x.cells.size=sz:=k _ (AY ..);simp only[Af] at f;have C:(b+(vs.length+1))*sz=b*sz+sz+vs.length*sz:=by rw[AP,AP];omega
  have t:b*sz+sz<=cells.size:=by omega
  have p:(x.cells.zipIdx.foldl (λ(cs:Array Value)(y:Value×Nat)=>cs.setIfInBounds (b*sz+y.2) y.1) cells).toList=cells.toList.take (b*sz)++x.cells.toList++cells.toList.drop (b*sz+sz):=by have:=afo x.cells.toList (b*sz) 0 cells (by simp[d];omega);simp only[B5,BT,d] at this;rw[<-this,<-Array.foldl_toList,Array.toList_zipIdx]
  have D:(x.cells.zipIdx.foldl (λ(cs:Array Value)(y:Value×Nat)=>cs.setIfInBounds (b*sz+y.2) y.1) cells).size=cells.size:=by rw[<-BT,p];simp[d];omega
  simp only[CN,d];rw[if_neg (by simp;omega)];rw[anL sz vs (b+1) _ (λv d=>k v (AL _ d)) (by rw[D];rw[show (b+1+vs.length)=b+(vs.length+1) by omega];exact f) j B E,p];have F:x.cells.toList.length=sz:=by simp[d]
  have q:(cells.toList.take (b*sz)++x.cells.toList).length=b*sz+sz:=by simp[d];omega
  rw[show (b+1)*sz=b*sz+sz by rw[AP];omega,show (b+1+vs.length)*sz=(b*sz+sz)+vs.length*sz by rw[AP,AP];omega,Af,C];rw[List.take_left' q,<-List.drop_drop,List.drop_left' q,List.drop_drop];simp[AC]
theorem aiO{I:Nat->Nat->Prop}{ρ:Nat->Nat}{N:Nat}{k:EK}:∀{vs:List V}{xs:List (Ty k)}{cvs:List Value},decAll k vs=some xs->cvs.length=vs.length->
  (∀(i:Nat) v cv,vs[i]? =some v->cvs[i]? =some cv->VRel I ρ N w v cv)->
  xs.length=vs.length∧(∀cv∈cvs,cv.cells.size=k.sz)∧
   ∀(i:Nat) x (j:Nat) v,xs[i]? =some x->(enc k x)[j]? =some v->∃(cv u:Value),cvs[i]? =some cv∧cv.cells[j]? =some u∧VRel I ρ N w v u
 | [],xs,cvs,h,q,E=>by
   have:cvs=[]:=by simpa using q
   subst this;simp only[decAll,Ai] at h;subst h;exact⟨rfl,by simp,by simp⟩
 |v::vs,xs,cv::cvs,h,q,E=>by
  simp only[decAll] at h;split at h
  ·rename_i x l d H;obtain rfl:=Ax h;obtain⟨R,W,S⟩:=aiO (vs:=vs) (cvs:=cvs) H (by simpa using q) (λi v cv e A=>E (i+1) v cv (by simpa using e) (by simpa using A));have M:=E 0 v cv rfl rfl;have F:=M;have f:v.cells.length=cv.cells.size∧(∀(j:Nat) c u,v.cells[j]? =some c->cv.cells[j]? =some u->VRel I ρ N w c u):=by
    cases M with
    |agg cs us D e X O=>exact⟨by simpa [V.cells,Cq] using D,by simpa [V.cells,Cq] using O⟩
    |undef cv=>cases k<;>simp[V.cells,dec] at d<;>(rename_i o;cases o<;>simp at d)
    |tup cs us q O=>cases k<;>simp[V.cells,dec] at d<;>(rename_i o;cases o<;>simp at d)
    |junk cv=>cases k<;>simp[V.cells,dec] at d<;>(rename_i o;cases o<;>simp at d)
    |_=>
     refine⟨by simp[V.cells,Cq],?_⟩;intro j c u e A;cases j with
     |zero=>simp[V.cells,Cq] at e A;subst e A;exact F
     |succ j=>simp[V.cells] at e
   have B:∀c∈v.cells,c.inRange:=by
    intro c b;obtain⟨j,t,rfl⟩:=A0.1 b;have:j<cv.cells.size:=by rw[<-f.1];exact t
    exact(f.2 j _ _ (Ab t) (As this)).inRange
   have L:=akh d B;have J:cv.cells.size=k.sz:=by rw[<-f.1,<-bT k x,L,A6]
   refine⟨by simp[R],by simpa using ⟨J,W⟩,?_⟩;intro i y j u C G;cases i with
   |succ i=>simpa using S i y j u (by simpa using C) G
   |zero=>
    simp at C;subst C;rw[L,AA,Aq] at G;obtain⟨c,b,rfl⟩:=G;have t:j<v.cells.length:=(Ad.1 b).1;have p:j<cv.cells.size:=by rw[<-f.1];exact t
    exact⟨cv,cv.cells[j],rfl,As p,(f.2 j _ _ b (As p)).weak⟩
  ·simp at h
theorem anM(sz:Nat):∀(cvs:List Value),(∀cv∈cvs,cv.cells.size=sz)->∀(i j:Nat) cv u,cvs[i]? =some cv->cv.cells[j]? =some u->
  ((cvs.map (·.cells.toList)).flatten)[i*sz+j]? =some u
 | [],_,i,j,cv,u,b,_=>by simp at b
 |c::cvs,f,0,j,cv,u,b,d=>by
  simp at b;subst b;have o:j<c.cells.size:=by
   rcases AH j c.cells.size with h|h;·exact h
   ·simp[Cd h] at d
  simp only[A2,Dc,Nat.zero_mul,Be];rw[Aw (by simpa using o)];simpa using d
 |c::cvs,f,i+1,j,cv,u,b,d=>by
  have k:=f c (AY ..);have p:=anM sz cvs (λcv e=>f cv (AL _ e)) i j cv u (by simpa using b) d;simp only[A2,Dc];rw[Av (by simp[k,AP];omega)];rw[<-p]
  congr 1
  simp[k,AP];omega
theorem alK(h:ER g s.hp.length w s.env a.tmps):∀(e:List ASrc)(d:List (Nat×Operand))(n:Nat),aac e d n=true->
  (d.map λq=>(q.1,a.eval q.2)).map (·.1)=Bm n e.length∧d.length=e.length∧
   ∀(i:Nat) v cv,(e.map (·.ev s))[i]? =some v->(d.map λq=>a.eval q.2)[i]? =some cv->VRel g.I g.ρ s.hp.length w v cv
 | [],[],n,_=>by simp
 |x::e,(i,y)::d,n,hp=>by
  simp only[aac,Ac,beq_iff_eq] at hp;obtain⟨rfl,p,t⟩:=hp;obtain⟨o,k,u⟩:=alK h e d (i+1) t;refine⟨?_,by simp[k],?_⟩;·simp only[A2,Af,Cv];rw[o]
  ·intro j v cv f b;cases j with
   |zero=>simp at f b;subst f b;exact aP p h
   |succ j=>exact u j v cv (by simpa using f) (by simpa using b)
 | [],_::_,n,hp=>by simp[aac] at hp
 |_::_,[],n,hp=>by simp[aac] at hp
theorem kG(w:World)(o:Go.Obj):(w.alloc o).heap.size=w.heap.size+1∧(∀b,b<w.heap.size->(w.alloc o).heap[b]? =w.heap[b]?)∧(w.alloc o).heap[w.heap.size]? =some o:=by
 refine⟨by simp,?_,?_⟩;·intro b d;show (w.heap.push o)[b]? =_;rw[DD,if_neg (by omega)]
 ·show (w.heap.push o)[w.heap.size]? =_;simp
theorem au1{d:Nat}{k:EK}{B:List ASrc}{u:Bool}(S:g.β=gM P)(D:rD P (.bsl d k B u) m=true)(L:step Γ (.bsl d k B u) s=some (true,s'))(h:SR g s w a)(hn:cL g s w a s' next):m.wp P a w next Q:=by
 obtain⟨dst,op,ty,pos,bY,gd⟩:=m;simp only[rD,Ac,beq_iff_eq] at D;obtain⟨rfl,D⟩:=D;split at D
 ·rename_i t n A;simp only[Ac,beq_iff_eq,decide_eq_true_eq] at D;obtain⟨H,rfl,h2,h3⟩:=D;simp only[step,Aq] at L;obtain⟨xs,O,L⟩:=L;obtain rfl:_=s':=by simpa using L
  obtain⟨e,u1,H⟩:=fT H;obtain⟨inf,z,i1,i2,i3,i4,i5,i6,i7⟩:=mX H;obtain⟨k1,G,k3⟩:=alK h.er B A.toList 0 h3;obtain⟨J,Y,r3⟩:=aiO (cvs:=A.toList.map λq=>a.eval q.2) O (by simp[G]) k3;simp only[A6] at J;have bx:z.cells.size=k.sz:=i7;have Z:0<k.sz:=by cases k<;>simp[EK.sz]
  let zs:Array Value:=(Array.range (B.length*k.sz)).map (λj=>z.cells[j%z.cells.size]!);have p:zs.size=B.length*k.sz:=by simp[zs]
  have y:CN (λi=>some (i*k.sz,k.sz)) zs ((A.map λx=>(x.1,a.eval x.2)).toList)=some ((A.toList.map λq=>a.eval q.2).map (·.cells.toList)).flatten.toArray:=by have:=anL k.sz ((A.toList.map λq=>a.eval q.2).map (·.cells)) 0 zs (by intro v hv;obtain⟨cv,C,rfl⟩:=AG.1 hv;exact Y cv C) (by simp[p,G]) ((A.map λx=>(x.1,a.eval x.2)).toList) (by simpa [G] using k1) (by simp);rw[this];simp[G,p,Cg,D4]
  have F:((A.toList.map λq=>a.eval q.2).map (·.cells.toList)).flatten.length=xs.length*k.sz:=by
   rw[List.length_flatten,Cg];have:∀l:List Value,(∀cv∈l,cv.cells.size=k.sz)->(l.map (Aa∘λx:Value=>x.cells.toList)).sum=l.length*k.sz:=by
    intro l hl;induction l with
    |nil=>simp
    |cons c l ih=>simp only[A2,List.sum_cons,Af,ih (λcv C=>hl cv (AL _ C)),AP,Function.comp];have:=hl c (AY ..);simp[this];omega
   rw[this _ Y,A6,G,J]
  let b:Array Value:=((A.toList.map λq=>a.eval q.2).map (·.cells.toList)).flatten.toArray;have f:=kG w (.cells b e);refine eN rfl (w':=w.alloc (.cells b e)) (cv:=.slice (some ⟨w.heap.size,0,none⟩) xs.length xs.length) ?_ ?_ hn
  ·have I:¬(16777216<B.length*k.sz):=by omega
   have ar:zs.size=B.length*k.sz:=p;simp only[Array.toList_map,zs] at y;by_cases M:B.length*k.sz=0
   ·have N:B.length=0:=by
     rcases Nat.mul_eq_zero.1 M with h|h;·exact h
     ·omega
    have X:A.toList=[]:=AT (by omega);have ad:xs.length=0:=by omega
    have E:A= #[]:=by simpa using X
    simp[execOp,Instr.buildSlice,run_underlying u1,sizeOf,typeInfo,i1,i2,I,M,N,E,ad,CN,newRow,b];rw[show Array.range 0= #[] from Array.eq_empty_of_size_eq_zero (by simp),Array.map_empty]
   ·simp[execOp,Instr.buildSlice,run_underlying u1,sizeOf,typeInfo,i1,i2,I,M,zeroValue,i4,y,newRow,J,b]
  ·obtain⟨g',W,R⟩:=h.newRow (w':=w.alloc (.cells b e)) k xs xs.length d b e (0,0) f.1 f.2.1 f.2.2 rfl rfl rfl (o:=cond u (.may true) .own) (λ_=>rfl) (Ar _) (by unfold dc;have:xs.length<=xs.length*k.sz:=C9 _ Z;rw[J] at *;omega)
    (by simp only[b,D0,F];exact Ar _) (λhk=>by rw[S];exact aaO H hk) (by intro j H h2;omega) (by intro i x j v O hv;obtain⟨cv,u,W,R,q3⟩:=r3 i x j v O hv;refine⟨u,?_,q3⟩;simp only[b,List.getElem?_toArray];exact anM k.sz _ Y i j cv u W R)
   exact⟨g',W,R⟩
 ·simp at D
end
section
variable{w w':World}{g g':Gh}{s s':St}{a:Act}{P:Program}{Γ:aq}{m:Oper}{next:Act->World->Prop}{Q:Exit->Act->World->Prop}
theorem kc(b:Nat):∀(vs:List Value)(o:Nat)(w:World)(f:Array Value)(e:TypeId)(i:Nat×Nat),w.heap[b]? =some (.cells f e i)->
  (∃d,(w.setCells b o vs).heap[b]? =some (.cells d e i)∧d.size=f.size)∧(∀j,j≠b->(w.setCells b o vs).heap[j]? =w.heap[j]?)∧
   (w.setCells b o vs).heap.size=w.heap.size∧(w.setCells b o vs).os=w.os∧(w.setCells b o vs).tape=w.tape∧(w.setCells b o vs).output=w.output
 | [],o,w,f,e,i,h=>⟨⟨f,h,rfl⟩,λ_ _=>rfl,rfl,rfl,rfl,rfl⟩
 |v::vs,o,w,f,e,i,h=>by
  have B:(w.setCell ⟨b,o,none⟩ v).heap[b]? =some (.cells (f.setIfInBounds o v) e i):=by simp[World.setCell,Cj,h]
  obtain⟨⟨d,u,q⟩,A,x,p,y,t⟩:=kc b vs (o+1) (w.setCell ⟨b,o,none⟩ v) _ e i B;refine⟨⟨d,u,by simpa using q⟩,λj k=>?_,x.trans (by simp[World.setCell]),p,y,t⟩;rw[show (w.setCells b o (v::vs))=(w.setCell ⟨b,o,none⟩ v).setCells b (o+1) vs from rfl,A j k];simp only[World.setCell,Cj];rw[if_neg (by simpa using Ci k)]
theorem aiP{k:EK}{o:Fl}{xs:List (Ty k)}{cv:Value}(h:VRel g.I g.ρ s.hp.length w (.sl k o xs) cv):
  ∃(L:List Value),L.length=xs.length*k.sz∧(∀u∈L,u.oneCell'=true)∧
   (∀(i:Nat) x (j:Nat) v,xs[i]? =some x->(enc k x)[j]? =some v->∃u,L[i*k.sz+j]? =some u∧VRel g.I g.ρ s.hp.length w v u)∧
   ((xs=[]∧∃C,cv=.slice C 0 0∧(o=.own->C=none))∨∃b d cap,cv=.slice (some ⟨b,d,none⟩) xs.length cap∧xs.length<=cap∧cap<=dc∧∀(j:Nat) u,L[j]? =some u->w.cell? ⟨b,d+j,none⟩=some u):=by
 cases h with
 |sln=>exact⟨[],by simp,by simp,by simp,.inl ⟨rfl,none,rfl,λ_=>rfl⟩⟩
 |sle _ _ C M=>exact⟨[],by simp,by simp,by simp,.inl ⟨rfl,some C,rfl,λh=>absurd h M⟩⟩
 |sl _ _ _ b d len cap S N X hf f hI O J=>
  subst S;have B:0<k.sz:=by cases k<;>simp[EK.sz]
  have G:∀(i j:Nat),j<k.sz->(i*k.sz+j) / k.sz=i∧(i*k.sz+j)%k.sz=j:=by
   intro i j t;constructor;·rw[Nat.add_comm,Nat.add_mul_div_right _ _ B,Nat.div_eq_of_lt t];omega
   ·rw[Nat.add_comm,Nat.add_mul_mod_self_right,Ct t]
  have p:∀(q:Nat),q<xs.length*k.sz->q / k.sz<xs.length∧q%k.sz<k.sz∧q / k.sz*k.sz+q%k.sz=q:=by intro q E;exact⟨Nat.div_lt_of_lt_mul (by rwa [CJ]),Nat.mod_lt _ B,Nat.div_add_mod' q k.sz⟩
  refine⟨(AU (xs.length*k.sz)).map λq=>f (q / k.sz) (q%k.sz),by simp,?_,?_,.inr ⟨b,d,cap,rfl,N,X,?_⟩⟩
  ·intro u D;obtain⟨q,E,rfl⟩:=AG.1 D;obtain⟨H,F,W⟩:=p q (by simpa using E);have y:xs[q / k.sz]? =some xs[q / k.sz]:=Ab H;have t:q%k.sz<(enc k xs[q / k.sz]).length:=by rw[bT];exact F
   exact(J _ _ _ _ y (Ab t)).oneCell (yo _ _ _ (Bf t))
  ·intro i x j v y A;have t:j<k.sz:=by
    have:=(Ad.1 A).1
    rwa [bT] at this
   have Z:i<xs.length:=(Ad.1 y).1;have e:i*k.sz+j<xs.length*k.sz:=by
    calc i*k.sz+j<i*k.sz+k.sz:=by omega
     _=(i+1)*k.sz:=by rw[AP,B4]
     _<=xs.length*k.sz:=A1 _ Z
   obtain⟨R,Y⟩:=G i j t;refine⟨f i j,?_,J i x j v y A⟩;simp[AA,DB e,R,Y]
  ·intro j u D;rw[AA,Aq] at D;obtain⟨q,E,rfl⟩:=D;obtain⟨e,rfl⟩:=Ad.1 E;simp only[DY] at e;obtain⟨H,F,W⟩:=p j e;have y:xs[j / k.sz]? =some xs[j / k.sz]:=Ab H;have:=O _ _ (j%k.sz) y (by rw[bT];exact F);rw[show d+j / k.sz*k.sz+j%k.sz=d+j by omega] at this;simpa using this
theorem SR.inPlace(h:SR g s w a){p:Occ}(hp:tT (some p) s)(k:EK)(xs ys:List (Ty k))(b A cap d:Nat)(news:List Value)
  (hx:VRel g.I g.ρ s.hp.length w (.sl k .own xs) (.slice (some ⟨b,A,none⟩) xs.length cap)) (Y:ap g w p (.sl k .own xs) (.slice (some ⟨b,A,none⟩) xs.length cap))
  (J:xs.length+ys.length<=cap) (hl:news.length=ys.length*k.sz)
  (hv:∀(i:Nat) x (j:Nat) v,ys[i]? =some x->(enc k x)[j]? =some v->∃u,news[i*k.sz+j]? =some u∧VRel g.I g.ρ s.hp.length w v u):
  ∃g',SR g' (s.set d (.sl k .own (xs++ys))) (w.setCells b (A+xs.length*k.sz) news) (a.put (some d) (.slice (some ⟨b,A,none⟩) (xs.length+ys.length) cap))∧
   FR g s.hp w g' s.hp (w.setCells b (A+xs.length*k.sz) news):=by
 obtain⟨W,⟨a3,e,fz,Z,o3,br⟩,o4⟩:=Y;simp only at W Z o3 o4;let F:=A+xs.length*k.sz;have b3:F+news.length<=A+cap*k.sz:=by have:(xs.length+ys.length)*k.sz<=cap*k.sz:=A1 _ J;rw[AP] at this;simp only[F,hl];omega
 obtain⟨⟨ae,q1,q2⟩,q3,q4,q5,q6,q7⟩:=kc b news F w a3 e fz Z;let w':=w.setCells b F news;let g':Gh:={I:=λy j=>g.I y j∨(y=b∧F<=j∧j<F+news.length),ρ:=g.ρ,O:=λy=>if y=b then some (.slot d) else g.O y,β:=g.β}
 have X:∀j,F<=j->j<A+cap*k.sz->¬g.I b j:=λj q C=>(o4 j q C).1
 have G:∀y j,g.I y j->w'.cell? ⟨y,j,none⟩=w.cell? ⟨y,j,none⟩:=by
  intro y j E;refine Bp b news F w _ ?_;rintro rfl _;rcases AH j F with q|q;·exact .inl q
  ·rcases AH j (A+cap*k.sz) with C|C;·exact absurd E (X j q C)
   ·right;show F+news.length<=j;omega
 have S:∀j (t:j<news.length),w'.cell? ⟨b,F+j,none⟩=some news[j]:=by intro j t;refine BQ b news F w (λj' c1=>?_) j t;rw[aT Z,As (by omega)];rfl
 have a1:∀(id:Nat) cs,s.hp[id]? =some (some cs)->g.ρ id≠b:=by intro id cs N e';have:=h.hr.notO id cs N;rw[e',W] at this;simp at this
 have u:Up g.I g.ρ s.hp.length w g'.I g'.ρ s.hp.length w':=⟨λb j E=>.inl E,G,λ_ _=>rfl,Ar _⟩
 have hs:SR g' s w' a:=by
  refine h.keep (some p) hp rfl u ?_ ?_ ?_ ?_
  ·intro cv y D bx;have B:y≠b:=by
    rintro rfl;rw[W] at D;exact bx D
   refine⟨by simp[g',B,D],q3 y B,?_⟩;rintro j (t|⟨t,_⟩);·exact t
   ·exact absurd t B
  ·intro id cs N;have B:=a1 id cs N;refine⟨q3 _ B,by simp[g',B,h.hr.notO id cs N],?_⟩;rintro j (t|⟨t,_⟩);·exact t
   ·exact absurd t B
  ·rintro y j (t|⟨rfl,q,C⟩);·exact(h.hr.exI y j t).set (G y j t) Z q1 q3
   ·refine .row q1 (by rw[q2];omega) λ_ hz=>?_
    have:=(o4 j q (by omega)).2;simp only[BD,Z,B2,decide_eq_false_iff_not] at this;omega
  ·intro y o D;simp only[g'] at D;rw[q4];split at D;·rename_i e';subst e';exact h.hr.oLt _ _ W
   ·exact h.hr.oLt _ _ D
 obtain⟨L,l1,l2,l3,l4⟩:=aiP hx;have bn:cap<=dc:=by
  cases hx with
  |sle _ _ _ Y=>exact absurd rfl Y
  |sl=>assumption
 have H:∀(i:Nat) x,(xs++ys)[i]? =some x->(i<xs.length∧xs[i]? =some x)∨(xs.length<=i∧ys[i-xs.length]? =some x):=by
  intro i x E;rcases AH i xs.length with q|q;·rw[Aw q] at E;exact .inl ⟨q,E⟩
  ·rw[Av q] at E;exact .inr ⟨q,E⟩
 have R:∀(i j:Nat),xs.length<=i->A+i*k.sz+j=F+((i-xs.length)*k.sz+j):=by
  intro i j E;have:i*k.sz=xs.length*k.sz+(i-xs.length)*k.sz:=by rw[<-AP];congr 1;omega
  simp only[F];omega
 have ad:VRel g'.I g'.ρ s.hp.length w' (.sl k .own (xs++ys)) (.slice (some ⟨b,A,none⟩) (xs.length+ys.length) cap):=by
  cases hx with
  |sle _ _ _ Y=>exact absurd rfl Y
  |sl _ _ _ _ _ _ _ c3 cc cx ci f hI hw a9=>
  refine .sl k .own _ _ _ _ _ (by simp) (by simpa using J) bn (by simp) (λi j=>if i<xs.length then f i j else news[(i-xs.length)*k.sz+j]?.getD undef) ?_ ?_ ?_
  ·intro i x j E t;rcases H i x E with⟨q,C⟩|⟨q,C⟩
   ·exact .inl (hI i x j C t)
   ·obtain⟨u,hu,_⟩:=hv _ x j _ C (Ab t);have:=(Ad.1 hu).1;refine .inr ⟨rfl,?_⟩;rw[R i j q];omega
  ·intro i x j E t;rcases H i x E with⟨q,C⟩|⟨q,C⟩
   ·simp only[q,if_true];rw[G _ _ (hI i x j C t)];exact hw i x j C t
   ·obtain⟨u,hu,_⟩:=hv _ x j _ C (Ab t);have an:=(Ad.1 hu).1;simp only[Nat.not_lt.2 q,if_false];rw[R i j q,S _ an,Ab an];rfl
  ·intro i x j v E t;rcases H i x E with⟨q,C⟩|⟨q,C⟩
   ·simp only[q,if_true];exact(a9 i x j v C t).up u
   ·obtain⟨u',hu,hr⟩:=hv _ x j v C t;simp only[Nat.not_lt.2 q,if_false,hu];exact hr.up u
 refine⟨g',hs.set d ad ?_,⟨rfl,q5,q6,q7,by rw[q4];exact Ar _,λy D _ M=>?_,u,?_,?_,λ_ cs h=>.inl ⟨cs,h⟩⟩⟩
 ·refine⟨by simp[g'],⟨ae,e,fz,q1,by rw[q2];exact o3,br⟩,?_⟩;intro j q C;simp only at q C;have bl:F+news.length<=j:=by
   simp only[F,hl];rw[AP] at q;omega
  have:=o4 j (by simp only[F] at bl;omega) C;refine⟨?_,?_⟩
  ·rintro(E|⟨_,_,E⟩);·exact this.1 E
   ·omega
  ·rw[World.frozen?_setCells];exact this.2
 ·have B:y≠b:=by rintro rfl;rw[W] at M;simp at M
  exact q3 y B
 ·rintro y j D _ M (t|⟨t,_⟩);·exact t
  ·subst t;rw[W] at M;simp at M
 ·intro y D _ M;have B:y≠b:=by rintro rfl;rw[W] at M;simp at M
  simp[g',B,M]
theorem ap5{k k':EK}(h:k'=k){o:Fl}{m:List (Ty k')}{I:Nat->Nat->Prop}{ρ:Nat->Nat}{N:Nat}{w:World}{cv:Value}(r:VRel I ρ N w (.sl k' o m) cv):VRel I ρ N w (.sl k o (h▸m)) cv:=by subst h;exact r
theorem ahU{k k':EK}(h:k'=k)(m:List (Ty k')):(h▸m:List (Ty k)).length=m.length:=by subst h;rfl
theorem ahq(cx:g.β=gM P){d:Nat}{k:EK}{x:ASrc}{O W:Operand}{xs ys:List (Ty k)}{ty t u e:TypeId}{pos:String}{S:Array Edge}{gd:Option (Nat×Bool)}(h:SR g s w a)
  (E:aH x O=true) {o:Fl} (A:x.ev s=.sl k o xs) (H:o.app ys.length=true) (ut:P.underlying t=some (.slice e)) (he:wu P e k=true) (news:List Value)
  (X:_root_.Go.Src P k.sz u (a.eval W) ys.length news w) (hv:∀(i:Nat) x (j:Nat) v,ys[i]? =some x->(enc k x)[j]? =some v->∃u,news[i*k.sz+j]? =some u∧VRel g.I g.ρ s.hp.length w v u)
  (Y:(xs.length+ys.length)*k.bytes<=pu)
  (hn:cL g s w a ((x.after s).set d (.sl k .own (xs++ys))) next):
  (⟨some d,.call ⟨.builtin .append,⟨[O,W]⟩,⟨[t,u]⟩⟩,ty,pos,S,gd⟩:Oper).wp P a w next Q:=by
 obtain⟨inf,z,i1,i2,i3,i4,i5,i6,i7⟩:=mX he;have r1:=aP E h.er;rw[A] at r1;have c3:0<k.bytes:=by cases k<;>simp[EK.bytes];rename_i kk;cases kk<;>simp[ahP]
 have Z:xs.length+ys.length<=pu:=AR (C9 _ c3) Y;have br:o=.own->∃p,tT (some p) (x.after s)∧ap g w p (.sl k .own xs) (a.eval O):=by
  rintro rfl;unfold aH at E;split at E
  ·rename_i n k';obtain rfl:=by simpa using E
   simp only[ASrc.ev] at A;exfalso;cases hg:s.get n<;>rw[hg] at A<;>simp[disown] at A;rename_i o' _;cases o'<;>simp[Fl.dis] at A
  ·rename_i n k';obtain rfl:=by simpa using E
   refine⟨.slot n,wl n s,?_⟩;have:=h.er.getOwn n
   rwa [show s.get n=.sl k .own xs from A] at this
  ·rename_i v cv;simp only[ASrc.ev] at A;subst A;exact⟨.res,trivial,wj E _⟩
  ·rename_i f hf;simp only[ASrc.ev] at A;cases A
  ·simp at E
 have h1:=h.after x;obtain⟨L,l1,l2,l3,l4⟩:=aiP r1;have F:∀cv w',(CB #[t,u] ty #[a.eval O,a.eval W]).run P w=.ok cv w'->(execOp a.eval ⟨some d,.call ⟨.builtin .append,⟨[O,W]⟩,⟨[t,u]⟩⟩,ty,pos,S,gd⟩).run P w=.ok (.value cv) w':=by intro cv w' hr;simp[execOp,resolve,invoke,builtin,hr]
 have B:(x.after s).hp=s.hp:=nS x s
 have al:∀(base:Option Addr)(cap:Nat),a.eval O=.slice base xs.length cap->cap<xs.length+ys.length->
   (Builtin.firstCells k.sz xs.length (.slice base xs.length cap)).run P w.drew=.ok L.toArray w.drew->
   (⟨some d,.call ⟨.builtin .append,⟨[O,W]⟩,⟨[t,u]⟩⟩,ty,pos,S,gd⟩:Oper).wp P a w next Q:=by
  intro base cap hb M bl
  have hr:=run_append_grow_src w t u ty e inf z ut i1 i4 base xs.length cap L (by rw[i2];exact bl) (a.eval W) ys.length news (by rw[i2];exact X) M (by unfold pu at Z;omega)
   (growslice_fits M (by rw[i3];exact Y))
  have a0:xs.length+ys.length<=grownCap w (xs.length+ys.length) cap e:=by unfold grownCap Question.cut;exact Dg _ _
  have a5:grownCap w (xs.length+ys.length) cap e<=dc:=by have:=grownCap_le_maxLen w (xs.length+ys.length) cap e (by unfold maxLen;unfold pu at Z;omega);simpa [maxLen,dc] using this
  let y:Array Value:=(L++news).toArray++Builtin.zeroCells z.cells (grownCap w (xs.length+ys.length) cap e-(xs.length+ys.length));have cd:=X.newsLen;have bn:y.size=grownCap w (xs.length+ys.length) cap e*k.sz:=by
   simp only[y,Array.size_append,D0,Aj,l1,cd,size_zeroCells,i7];rw[<-AP,<-AP]
   congr 1
   omega
  have f:=kG w.drew (.cells y e);obtain⟨g',q1,q2⟩:=h1.newRow (w':=w.drew.alloc (.cells y e)) k (xs++ys) (grownCap w (xs.length+ys.length) cap e) d y e (0,0) f.1 f.2.1 f.2.2 rfl rfl rfl (o:=.own) (by simp) (by simpa using a0) a5 (by rw[bn];exact Ar _) (λhk=>by rw[cx];exact aaO he hk) (by intro j h1 h2;omega) (by
   intro i x j v E a2;have hj:j<k.sz:=by
    have:=(Ad.1 a2).1
    rwa [bT] at this
   have G:∀(q:Nat) u,(L++news)[q]? =some u->y[q]? =some u:=by intro q u hq;have b6:=(Ad.1 hq).1;simp only[y];rw[CQ (by simpa using b6)];simpa using hq
   rcases AH i xs.length with hi|hi;·rw[Aw hi] at E;obtain⟨u,e1,e2⟩:=l3 i x j v E a2;refine⟨u,G _ _ ?_,by rw[B];exact e2⟩;rw[Aw (Ad.1 e1).1];exact e1
   ·rw[Av hi] at E;obtain⟨u,e1,e2⟩:=hv _ x j v E a2;refine⟨u,G _ _ ?_,by rw[B];exact e2⟩;have:i*k.sz=xs.length*k.sz+(i-xs.length)*k.sz:=by rw[<-AP];congr 1;omega
    rw[Av (by rw[l1];omega),l1,<-e1]
    congr 1
    omega)
  have a1:(execOp a.eval ⟨some d,.call ⟨.builtin .append,⟨[O,W]⟩,⟨[t,u]⟩⟩,ty,pos,S,gd⟩).run P w=.ok (.value (.slice (some ⟨w.heap.size,0,none⟩) (xs++ys).length (grownCap w (xs.length+ys.length) cap e))) (w.drew.alloc (.cells y e)):=by refine F _ _ ?_;rw[hb,hr];simp[y]
  refine eN rfl a1 ⟨g',q1,?_⟩ hn;rw[B] at q2;show FR g s.hp w g' (x.after s).hp _;rw[B];exact q2
 rcases l4 with⟨rfl,ad,D,b5⟩|⟨b,J,cap,D,M,a5,R⟩
 ·by_cases h0:ys.length=0
  ·have ci:ys=[]:=AT h0;subst ci;obtain rfl:ad=none:=b5 (by
    cases o with
    |own=>rfl
    |may u=>simp[Fl.app] at H)
   have hr:(CB #[t,u] ty #[a.eval O,a.eval W]).run P w=.ok (.slice none 0 0) w:=by
    have c4:news=[]:=by have:=X.newsLen;simpa using this
    have hc:=X.cells;rw[D];rcases X.kind with⟨e',hk⟩|hk<;>simp[CB,run_underlying ut,run_underlying hk,sizeOf,typeInfo,i1,i2,X.len] at* <;>simp[hc]
   refine eN rfl (F _ _ hr) ⟨g,?_,?_⟩ hn;·exact h1.set d (by simpa using VRel.sln (I:=g.I) (ρ:=g.ρ) (N:=(x.after s).hp.length) (w:=w) k .own) (by simp[ap])
   ·have:=FR.refl g s.hp w;simpa [St.set,B] using this
  ·exact al ad 0 (by simpa using D) (by simp;omega) (by
    have hL:L=[]:=by simpa using l1
    subst hL;cases ad with
    |none=>simpa using run_firstCells_none (P:=P) w.drew k.sz 0 0 0
    |some ad=>simpa using run_firstCells_some (P:=P) w.drew k.sz 0 ad 0 0 [] (by simp) (by intro j v hj;simp at hj))
 ·by_cases C:xs.length+ys.length<=cap
  ·have an:o=.own:=by
    cases o with
    |own=>rfl
    |may u=>simp only[Fl.app,Ac,decide_eq_true_eq] at H;obtain⟨rfl,d3⟩:=H;rw[D] at r1;have:=r1.full;omega
   subst an;obtain⟨p,hp,ho⟩:=br rfl;rw[D] at ho r1;obtain⟨o1,⟨y,e',fz,o2,o3⟩,o4⟩:=ho;simp only at o1 o2 o3 o4;have d0:J+xs.length*k.sz+news.length<=J+cap*k.sz:=by have:(xs.length+ys.length)*k.sz<=cap*k.sz:=A1 _ C;rw[AP] at this;rw[X.newsLen];omega
   have hr:=run_append_room_src w t u ty e inf ut i1 b J xs.length cap (a.eval W) ys.length news (by rw[i2];exact X) C (by
    intro j hj;rw[i2,aT o2,As (by omega)];rfl) (by
    intro j hj;rw[i2];exact(o4 _ (by omega) (by omega)).2)
   rw[i2] at hr;have q:=h1.inPlace hp k xs ys b J cap d news (by rw[B];exact r1) ⟨o1,⟨y,e',fz,o2,o3⟩,o4⟩ C X.newsLen (by rw[B];exact hv);rw[B] at q;refine eN rfl (F _ _ (by rw[D];exact hr)) ?_ hn;obtain⟨g',q1,q2⟩:=q;exact⟨g',q1,by simpa [St.set,B] using q2⟩
  ·exact al _ cap D (by omega) (run_firstCells_some w.drew k.sz xs.length ⟨b,J,none⟩ xs.length cap L (by simpa using l1) (by intro j v hj;rw[BV];exact R j v hj))
theorem au2{d:Nat}{k:EK}{x y:ASrc}(G:g.β=gM P)(A:rD P (.app d k x y) m=true)(i:step Γ (.app d k x y) s=some (true,s'))(h:SR g s w a)(O:cL g s w a s' next):m.wp P a w next Q:=by
 obtain⟨dst,op,ty,pos,a0,gd⟩:=m;simp only[rD,Ac,beq_iff_eq] at A;obtain⟨rfl,A⟩:=A;split at A
 ·rename_i x' y' t u I;obtain rfl:=lP I;simp only[Ac] at A;obtain⟨h1,h2,Z,Y⟩:=A;obtain⟨e,u1,e1⟩:=fT h1;obtain⟨e',H,e2⟩:=fT h2;simp only[step] at i;split at i
  ·rename_i k' ox l S o mm X hy;split at i
   ·rename_i R;subst R;split at i
    ·rename_i C;simp only[Ai,Ao,Ac,decide_eq_true_eq] at i;obtain⟨⟨D,B⟩,rfl⟩:=i;have E:=aP Y h.er;rw[hy] at E;have E:=ap5 C E;obtain⟨L,J,l2,l3,l4⟩:=aiP E;refine ahq G h Z X (by rw[ahU];exact D) u1 e1 L (ys:=C▸mm) ?_ l3 (by rw[ahU];exact B) O;rcases l4 with⟨p,M,q, -⟩|⟨b,ar,cap,q,N,a5,f⟩
     ·rw[q,p];have W:L=[]:=by rw[p] at J;simpa using J
      rw[W];cases M with
      |none=>exact _root_.Go.Src.ofNil w H 0
      |some M=>exact _root_.Go.Src.ofSlice w H _ _ _ _ (by simp) (by intro j v F;simp at F) (by simp)
     ·rw[q];exact _root_.Go.Src.ofSlice w H _ _ _ _ J (by intro j v F;rw[BV];exact f j v F) l2
    ·simp at i
   ·simp at i
  ·simp at i
 ·simp at A
theorem auq{d:Nat}{x y:ASrc}(q:g.β=gM P)(f:rD P (.apps d x y) m=true)(p:step Γ (.apps d x y) s=some (true,s'))(h:SR g s w a)(G:cL g s w a s' next):m.wp P a w next Q:=by
 obtain⟨dst,op,ty,pos,R,Z⟩:=m;simp only[rD,Ac,beq_iff_eq] at f;obtain⟨rfl,f⟩:=f;split at f
 ·rename_i x' W t u D;obtain rfl:=lP D;simp only[Ac] at f;obtain⟨O,F,M,I⟩:=f;obtain⟨e,Y,N⟩:=fT O;split at F
  ·rename_i X;simp only[step] at p;split at p
   ·rename_i l mm H S;simp only[Ai,Ao,decide_eq_true_eq] at p;obtain⟨o,rfl⟩:=p;have C:=aP I h.er;rw[S] at C;generalize A:a.eval W=cv at C;cases C with
    |str _ b J hm=>
    subst J;refine ahq q (k:=.u8) (ys:=b.data.toList) h M H rfl Y N (byteCells b) ?_ ?_ (by simpa [EK.bytes] using o) G;·rw[A];have:=_root_.Go.Src.ofString (P:=P) w X b;rw[<-p9] at this;exact this
    ·intro i x j v B E;have L:j=0:=by
      have:=(Ad.1 E).1;simp[enc] at this;exact this
     subst L;simp[enc] at E;subst E;refine⟨.int .u8 x.toNat,?_,.int _ _ (aiL x)⟩;simp only[byteCells,EK.sz,CS,B5,AA,B,BE]
   ·simp at p
  ·simp at F
 ·simp at f
end
def arV(e:TypeId)(o:Nat):Field:={(default:Field) with type:=e,offset:=o}
def as3(n sz:Nat)(e:TypeId):Array Field:=⟨(AU n).map λi=>arV e (i*sz)⟩
def mY(P:Program)(o:IOp)(m:Oper):Bool:=
 match o with
 | .new d zero=>(m.dst==some d)&&(match m.op with| .alloc t=>aiN P t zero|_=>false)
 | .box d x=>(m.dst==some d)&&(match m.op with| .box t y=>aH x y&&ahQ x|_=>false)
 | .st d n x v=>(m.dst==d)&&(match m.op with| .store t b j=>(fe P t==some n)&&(aH x b&&aH v j)|_=>false)
 | .ld d n agg true x=>(m.dst==some d)&&(match m.op with| .load t b=>(fe P t==some n)&&((mV P t==some agg)&&((!agg&&n==1)&&aH x b))|_=>false)
 | .bld d zero h=>(m.dst==some d)&&(match m.op with| .build t i=>aiN P t zero&&(match P.underlying t with|some (.struct fs)=>yx P fs h i.toList&&fs.all (λf=>(P.info? f.type).isSome)|some (.array n e)=>(match fe P e with|some sz=>yx P (as3 n sz e) h i.toList|none=>false)|_=>false)|_=>false)
 |_=>false
section
variable{w w':World}{g g':Gh}{s s':St}{a:Act}{P:Program}{Γ:aq}{m:Oper}{next:Act->World->Prop}{Q:Exit->Act->World->Prop}
theorem yy{t:TypeId}{zero:List V}(h:aiN P t zero=true):∃i z,P.info? t=some i∧i.zero=some z∧jp zero z.cells.toList=true:=by
 unfold aiN at h;split at h
 ·rename_i i d;split at h;·rename_i z b;exact⟨i,z,d,b,h⟩
  ·simp at h
 ·simp at h
theorem eu.own{c:V}{cv:Value}(h:eu c cv)(g:Gh)(w:World)(b:Occ):ap g w b c cv:=by
 unfold ap;split;·simp[eu] at h
 ·simp[eu] at h
 ·exact .inl ⟨AT h.1,h.2⟩
 ·trivial
theorem anN{cs:List V}{b:Array Value}(h:jp cs b.toList=true){e:TypeId}:∀(j E n:Nat),cs[j]? =some (.bn E n)->E=e∧n=b.size∧b[j]? =some (.pointer none):=by intro j E n d;exfalso;have i:=(oZ (I:=λ_ _=>False) (ρ:=λx=>x) (N:=0) (w:=default) h).1;have f:=(Ad.1 d).1;have:=oY h j _ (b.toList[j]'(by omega)) d (Ab (by omega));simp[eu] at this
theorem as4{cs:List V}{b:Array Value}{e:TypeId}(k:cs.length=b.size)(f:∀(i:Nat) c cv,cs[i]? =some c->b[i]? =some cv->eu c cv):∀(j E n:Nat),cs[j]? =some (.bn E n)->E=e∧n=b.size∧b[j]? =some (.pointer none):=by intro j E n d;exfalso;have h:=(Ad.1 d).1;have:=f j _ (b[j]'(by omega)) d (As (by omega));simp[eu] at this
theorem SR.newObj(h:SR g s w a)(cs:List V)(x:Array Value)(e:TypeId)(hl:cs.length=x.size)(h1:∀c∈cs,c.one=true)
  (hv:∀(i:Nat) c cv,cs[i]? =some c->x[i]? =some cv->VRel g.I g.ρ s.hp.length w c cv) (A:∀(i:Nat) c cv,cs[i]? =some c->x[i]? =some cv->noBn c=true->eu c cv)
  (J:∀(j E n:Nat),cs[j]? =some (.bn E n)->E=e∧n=x.size∧x[j]? =some (.pointer none)) (d:Nat):
  ∃g',SR g' {s.set d (.ptr s.hp.length 0) with hp:=s.hp++[some cs]} (w.alloc (.cells x e)) (a.put (some d) (.pointer (some ⟨w.heap.size,0,none⟩)))∧
   FR g s.hp w g' (s.hp++[some cs]) (w.alloc (.cells x e)):=by
 obtain⟨f1,Y,f3⟩:=kG w (.cells x e);let w':=w.alloc (.cells x e);let g':Gh:={g with ρ:=λid=>if id=s.hp.length then w.heap.size else g.ρ id}
 have D:∀b j,g.I b j->b<w.heap.size:=by intro b j q;exact(h.hr.exI b j q).lt
 have H:∀b j,b<w.heap.size->w'.cell? ⟨b,j,none⟩=w.cell? ⟨b,j,none⟩:=by intro b j A;simp only[w',Bv,Y b A]
 have u:Up g.I g.ρ s.hp.length w g'.I g'.ρ (s.hp++[some cs]).length w':=
  ⟨λb j q=>q,λb j q=>H b j (D b j q),λid f=>by simp[g',Bu f],by simp⟩
 have N:∀(id:Nat) cs,s.hp[id]? =some (some cs)->g.ρ id<w.heap.size:=by intro id cs f;exact(h.hr.obj id cs f).lt
 have y:∀C v cv,ap g w C v cv->ap g' w' C v cv:=by intro C v cv ho;refine cH ho rfl (λb j q=>⟨u.mono b j q,u.cell b j q⟩) ?_;intro b A;exact⟨A,Y b (h.hr.oLt b C A),λj W=>W⟩
 have split:∀(id:Nat) o,(s.hp++[some cs])[id]? =some (some o)->(id<s.hp.length∧s.hp[id]? =some (some o))∨(id=s.hp.length∧o=cs):=by
  intro id o f;rcases AH id s.hp.length with q|q;·rw[Aw q] at f;exact .inl ⟨q,f⟩
  ·rw[Av q] at f;have Z:id-s.hp.length=0:=by
    rcases DK (id-s.hp.length) with Z|Z;·exact Z
    ·rw[Ba (by simp;omega)] at f;simp at f
   rw[Z] at f;simp at f;exact .inr ⟨by omega,f.symm⟩
 have p:g'.ρ s.hp.length=w.heap.size:=by simp[g']
 have k:∀id,id<s.hp.length->g'.ρ id=g.ρ id:=λid f=>by simp[g',Bu f]
 have hs:SR g' {s with hp:=s.hp++[some cs]} w' a:=by
  refine⟨⟨?_,?_,?_,?_,?_,?_⟩,⟨h.er.size,?_,?_⟩⟩
  ·intro id o f;rcases split id o f with⟨q,f⟩|⟨rfl,rfl⟩
   ·refine(h.hr.obj id o f).keep ?_ λa2 e' fz k1 B=>⟨B.len,B.plain,B.typedUp rfl u.rho u.num rfl,B.cold,B.one,λj c cv G t=>(B.rel j c cv G t).up u,λj c cv G t=>y _ _ _ (B.own j c cv G t),by rw[k id q];exact B.bn⟩
    rw[k id q];exact Y _ (N id o f)
   ·refine jw.ofRow0 ?_ ⟨hl,h1,λj c cv G t=>(hv j c cv G t).up u,λj c cv G t=>?_,λj E n W=>⟨(J j E n W).1,(J j E n W).2.1,.inl (J j E n W).2.2⟩⟩;·rw[p];exact f3
    ·cases R:noBn c with
     |true=>exact(A j c cv G t R).own _ _ _
     |false=>cases c<;>simp[noBn] at R;simp[ap]
  ·intro id L o o' k1 B X;rcases split id o k1 with⟨q,m1⟩|⟨e1, -⟩<;>rcases split L o' B with⟨S,m2⟩|⟨e2, -⟩
   ·rw[k _ q,k _ S];exact h.hr.apart id L o o' m1 m2 X
   ·rw[k _ q,e2,p];exact Bu (N id o m1)
   ·rw[k _ S,e1,p];exact(Bu (N L o' m2)).symm
   ·exact absurd (e1.trans e2.symm) X
  ·intro id o f j q;rcases split id o f with⟨F,f⟩|⟨rfl,rfl⟩
   ·rw[k _ F] at q;exact h.hr.notI id o f j q
   ·rw[p] at q;have:=D _ _ q;omega
  ·intro id o f;rcases split id o f with⟨F,f⟩|⟨rfl,rfl⟩
   ·rw[k _ F];exact h.hr.notO id o f
   ·rw[p];cases hO:g.O w.heap.size with
    |none=>rfl
    |some oc=>have:=h.hr.oLt _ _ hO;omega
  ·intro b j q;exact(h.hr.exI b j q).blk (by first|exact hold b (D b j q)|exact Y b (D b j q))
  ·intro b oc A;have:=h.hr.oLt b oc A;show b<w'.heap.size;rw[f1];omega
  ·intro n v cv M t;exact(h.er.rel n v cv M t).up u
  ·intro n v cv M t;exact y _ _ _ (h.er.own n v cv M t)
 refine⟨g',?_,rfl,rfl,rfl,rfl,by rw[f1];omega,λb A _ _=>Y b A,u,λb j _ _ _ q=>q,λb _ _ hO=>hO,?_⟩
 ·have:=hs.set d (v:=.ptr s.hp.length 0) (cv:=.pointer (some ⟨w.heap.size,0,none⟩)) (by
   rw[<-p];exact .ptr _ _ (by simp)) (by simp[ap])
  exact this
 ·intro id o f;rcases split id o f with⟨F,f⟩|⟨rfl,rfl⟩
  ·exact .inl ⟨o,f⟩
  ·exact .inr ⟨Ar _,.inl (by rw[p];exact Ar _)⟩
theorem au3{d:Nat}{zero:List V}(b:mY P (.new d zero) m=true)(u:step Γ (.new d zero) s=some (true,s'))(h:SR g s w a)(p:cL g s w a s' next):m.wp P a w next Q:=by
 obtain⟨dst,A,ty,pos,o,y⟩:=m;simp only[mY,Ac,beq_iff_eq] at b;obtain⟨rfl,b⟩:=b;split at b
 ·rename_i t;obtain⟨i,z,k,j,f⟩:=yy b;obtain rfl:_=s':=by simpa [step] using u
  obtain⟨q,v,x⟩:=oZ (I:=g.I) (ρ:=g.ρ) (N:=s.hp.length) (w:=w) f;refine eN rfl (w':=w.alloc (.cells z.cells t)) (cv:=.pointer (some ⟨w.heap.size,0,none⟩)) ?_ (h.newObj zero z.cells t (by simpa using q) v (λi c cv b e=>x i c cv b (by simpa using e)) (λi c cv b e _=>oY f i c cv b (by simpa using e)) (anN f) d) p;simp[execOp,Instr.alloc,zeroValue,typeInfo,k,j,newVar,newRow]
 ·simp at b
def anO(t n:Nat):V->Value->Bool
 | .bn E m,.pointer none=>E==t&&m==n
 | .bn _ _,_=>false
 |v,cv=>p8 v cv
def yp(t n:Nat):List V->List Value->Bool
 | [],[]=>true
 |v::vs,c::cs=>anO t n v c&&yp t n vs cs
 |_,_=>false
def auc(P:Program)(t:TypeId)(zero:List V):Bool:=match P.info? t with|some i=>(match i.zero with|some z=>yp t z.cells.size zero z.cells.toList|none=>false)|none=>false
theorem ahr{I:Nat->Nat->Prop}{ρ:Nat->Nat}{N t n:Nat}:∀{cs:List V}{vs:List Value},yp t n cs vs=true->cs.length=vs.length∧(∀c∈cs,c.one=true)∧
  (∀(i:Nat) c cv,cs[i]? =some c->vs[i]? =some cv->VRel I ρ N w c cv∧(noBn c=true->eu c cv))∧(∀(j E m:Nat),cs[j]? =some (.bn E m)->E=t∧m=n∧vs[j]? =some (.pointer none))
 | [],[],_=>⟨rfl,by simp,by simp,by simp⟩
 |v::vs,c::cs,h=>by
  simp only[yp,Ac] at h;obtain⟨b,J⟩:=h;obtain⟨y,F,B,L⟩:=ahr (I:=I) (ρ:=ρ) (N:=N) J;have o:v.one=true∧VRel I ρ N w v c∧(noBn v=true->eu v c)∧(∀E m,v=.bn E m->E=t∧m=n∧c=.pointer none):=by
   cases p:noBn v with
   |true=>
    have k:p8 v c=true:=by
     unfold anO at b;split at b;·simp[noBn] at p
     ·simp at b
     ·exact b
    obtain⟨G,C⟩:=acV (I:=I) (ρ:=ρ) (N:=N) (w:=w) k;exact⟨C,G,λ_=>aiJ k,λE m e=>by subst e;simp[noBn] at p⟩
   |false=>
    cases v<;>simp[noBn] at p;rename_i E m;unfold anO at b;split at b;·rename_i O M e;cases e;simp only[Ac,beq_iff_eq] at b;exact⟨rfl,.bn _ _ _,by simp[noBn],λE m e=>by cases e;exact⟨b.1,b.2,rfl⟩⟩
    ·simp at b
    ·rename_i q _;exact absurd rfl (q _ _)
  refine⟨by simp[y],?_,?_,?_⟩
  ·intro x d;rcases AB.1 d with rfl|d;·exact o.1
   ·exact F x d
  ·intro i x cv d f;cases i with
   |zero=>simp at d f;subst d f;exact⟨o.2.1,o.2.2.1⟩
   |succ i=>exact B i x cv (by simpa using d) (by simpa using f)
  ·intro j E m u;cases j with
   |zero=>simp at u;obtain⟨D,A,H⟩:=o.2.2.2 E m u;exact⟨D,A,by simp[H]⟩
   |succ j=>simpa using L j E m (by simpa using u)
 | [],_::_,h=>by simp[yp] at h
 |_::_,[],h=>by simp[yp] at h
def agQ(P:Program)(o:IOp)(m:Oper):Bool:=
 match o with
 | .newb d zero=>(m.dst==some d)&&(match m.op with| .alloc t=>auc P t zero|_=>false)
 |_=>false
theorem aur{d:Nat}{zero:List V}(b:agQ P (.newb d zero) m=true)(A:step Γ (.newb d zero) s=some (true,s'))(h:SR g s w a)(o:cL g s w a s' next):m.wp P a w next Q:=by
 obtain⟨dst,C,ty,pos,v,B⟩:=m;simp only[agQ,Ac,beq_iff_eq] at b;obtain⟨rfl,b⟩:=b;split at b
 ·rename_i t;unfold auc at b;split at b
  ·rename_i i y;split at b
   ·rename_i z k;obtain rfl:_=s':=by simpa [step] using A
    obtain⟨p,u,f,x⟩:=ahr (I:=g.I) (ρ:=g.ρ) (N:=s.hp.length) (w:=w) b;refine eN rfl (w':=w.alloc (.cells z.cells t)) (cv:=.pointer (some ⟨w.heap.size,0,none⟩)) ?_ (h.newObj zero z.cells t (by simpa using p) u (λi c cv b e=>(f i c cv b (by simpa using e)).1) (λi c cv b e=>(f i c cv b (by simpa using e)).2) (λj E n q=>by simpa using x j E n q) d) o;simp[execOp,Instr.alloc,zeroValue,typeInfo,y,k,newVar,newRow]
   ·simp at b
  ·simp at b
 ·simp at b
theorem wv{I:Nat->Nat->Prop}{ρ:Nat->Nat}{N:Nat}{v:V}{cv:Value}(h:VRel I ρ N w v cv)(d:v.cells.all V.one=true):
  v.cells.length=cv.cells.size∧(∀c∈v.cells,c.one=true)∧∀(j:Nat) c u,v.cells[j]? =some c->cv.cells[j]? =some u->VRel I ρ N w c u:=by
 have e:∀c∈v.cells,c.one=true:=λc q=>Ap.1 d c q
 have k:=h;cases h with
 |agg cs us i _ t p=>exact⟨by simpa [V.cells,Cq] using i,e,by simpa [V.cells,Cq] using p⟩
 |undef=>simp[V.cells,V.one] at d
 |tup=>simp[V.cells,V.one] at d
 |junk cv o=>
  have b:cv.cells= #[cv]:=by cases cv<;>simp[DF] at o<;>rfl
  refine⟨by simp[V.cells,b],e,?_⟩;intro j c u d f;rw[b] at f;cases j with
  |zero=>simp[V.cells] at d f;subst d f;exact k
  |succ j=>simp[V.cells] at d
 |_=>
  refine⟨by simp[V.cells,Cq],e,?_⟩;intro j c u d f;cases j with
  |zero=>simp[V.cells,Cq] at d f;subst d f;exact k
  |succ j=>simp[V.cells] at d
theorem au4{d:Nat}{x:ASrc}(b:mY P (.box d x) m=true)(p:step Γ (.box d x) s=some (true,s'))(h:SR g s w a)(D:cL g s w a s' next):m.wp P a w next Q:=by
 obtain⟨dst,O,ty,pos,A,H⟩:=m;simp only[mY,Ac,beq_iff_eq] at b;obtain⟨rfl,b⟩:=b;split at b
 ·rename_i t y;simp only[Ac] at b;obtain⟨L,N⟩:=b;have q:=aP L h.er;have f:(execOp a.eval ⟨some d,.box t y,ty,pos,A,H⟩).run P w=.ok (.value (.pointer (some ⟨w.heap.size,0,none⟩))) (w.alloc (.cells (a.eval y).cells t)):=by
   simp[execOp,Instr.box,newVar,newRow]
  simp only[step] at p;split at p
  ·rename_i cs F;obtain rfl:_=s':=by simpa using p
   rw[F] at q;generalize a.eval y=cv at q f;cases q with
   |agg _ vs G I C M=>exact eN rfl f (h.newObj cs vs t G I M (λi c cv b e _=>C i c cv b e) (as4 G C) d) D
  ·rename_i v F J;split at p
   ·rename_i k;obtain rfl:_=s':=by simpa using p
    have o:(a.eval y).cells= #[a.eval y]:=by have:=q.oneCell k;cases B:a.eval y<;>rw[B] at this<;>simp[DF] at this<;>rfl
    rw[o] at f;refine eN rfl f (h.newObj [disown (x.ev s)] #[a.eval y] t rfl (by simpa [lO] using k) ?_ ?_ ?_ d) D
    ·intro i c cv b e;cases i with
     |zero=>simp at b e;subst b e;exact q.disown
     |succ i=>simp at b
    ·intro i c cv b e;cases i with
     |zero=>intro _;simp at b e;subst b e;exact acT _ _
     |succ i=>simp at b
    ·intro j E n u;cases j with
     |zero=>simp at u;cases B:x.ev s<;>rw[B] at u<;>simp[disown] at u
     |succ j=>simp at u
   ·simp at p
 ·simp at b
theorem as5{x:ASrc}{y:Operand}{q:Occ}(b:aH x y=true)(h:SR g s w a):
  ∃g₁,SR g₁ (x.after s) w a∧FR g s.hp w g₁ s.hp w∧g₁.I=g.I∧g₁.ρ=g.ρ∧ap g₁ w q (x.ev s) (a.eval y):=by
 cases x with
 |t n=>exact⟨g,h,FR.refl _ _ _,rfl,rfl,ap.disown _ _ _ _ _⟩
 |c v=>
  refine⟨g,h,FR.refl _ _ _,rfl,rfl,?_⟩;unfold aH at b;split at b;·rename_i e;cases e
  ·rename_i e;cases e
  ·rename_i e;cases e;exact wj b _
  ·rename_i e;cases e;simp[ASrc.ev,ap]
  ·simp at b
 |tk n=>
  have d:y=.tmp n:=by
   unfold aH at b;split at b;·rename_i e;cases e
   ·rename_i k e;cases e;rw[show k=n by simpa using (beq_iff_eq.1 b).symm]
   ·rename_i e;cases e
   ·rename_i e;cases e
   ·simp at b
  subst d;have i:=h.er.getOwn n;obtain⟨g₁,p,u,j,f,o⟩:=ahT (q:=q) (h.after (.tk n)) (wl n s) i;exact⟨g₁,p,by simpa [nS] using u,j,f,o⟩
theorem SR.putCells(h:SR g s w a){id o:Nat}{cs news:List V}{us:List Value}(ho:s.obj id=some cs)(hl:news.length=us.length)(h1:∀c∈news,c.one=true)
  (cy:o+news.length<=cs.length) (hv:∀(i:Nat) c cv,news[i]? =some c->us[i]? =some cv->VRel g.I g.ρ s.hp.length w c cv)
  (W:∀(i:Nat) c cv,news[i]? =some c->us[i]? =some cv->ap g w (.cell id (o+i)) c cv) (an:∀(i E n:Nat),news[i]? =some (.bn E n)->cs[o+i]? =some (.bn E n)∧(us[i]? =some (.pointer none)∨us[i]? =some (.pointer (some ⟨g.ρ id,o+i,none⟩)))):
  SR g (s.setObj id (cs.take o++news++cs.drop (o+news.length))) (w.setCells (g.ρ id) o us) a∧
   FR g s.hp w g (s.hp.set id (some (cs.take o++news++cs.drop (o+news.length)))) (w.setCells (g.ρ id) o us):=by
 obtain⟨B,bs⟩:=jq ho;obtain⟨Z,e,hb,y⟩:=s7 h.hr ho;obtain⟨⟨X,q1,q2⟩,q3,q4,q5,q6,q7⟩:=kc (g.ρ id) us o w Z e (0,0) hb;let w':=w.setCells (g.ρ id) o us;let t:=cs.take o++news++cs.drop (o+news.length);have R:=y.len;have a5:∀b j,g.I b j->b≠g.ρ id:=by rintro b j J rfl;exact h.hr.notI id cs B j J
 have F:∀b j,g.I b j->w'.cell? ⟨b,j,none⟩=w.cell? ⟨b,j,none⟩:=by intro b j J;exact Bp _ us o w _ (λe=>absurd e (a5 b j J))
 have u:Up g.I g.ρ s.hp.length w g.I g.ρ s.hp.length w':=⟨λ_ _ h=>h,F,λ_ _=>rfl,Ar _⟩
 have q:∀N v cv,ap g w N v cv->ap g w' N v cv:=by intro N v cv a4;refine cH a4 rfl (λb j J=>⟨u.mono b j J,u.cell b j J⟩) ?_;intro b G;refine⟨G,q3 b ?_,λj x=>x⟩;rintro rfl;rw[h.hr.notO id cs B] at G;simp at G
 have A:∀j,X[j]? =if o<=j∧j<o+us.length then us[j-o]? else Z[j]?:=by
  intro j;rw[<-aT q1 j];split;·rename_i x;have:=BQ (g.ρ id) us o w (λj' c3=>by rw[aT hb,As (by omega)];rfl) (j-o) (by omega);rw[show o+(j-o)=j by omega] at this;rw[this,Ab]
  ·rename_i x;rw[Bp _ us o w _ (λ_ _=>by simp only;omega),aT hb]
 have L:∀j,t[j]? =if o<=j∧j<o+news.length then news[j-o]? else cs[j]?:=by
  intro j;have ht:(cs.take o).length=o:=by simp;omega
  simp only[t];split;·rename_i x;rw[AC,Av (by omega),ht,Aw (by omega)]
  ·rename_i x;rcases AH j o with h'|h';·rw[AC,Aw (by omega),A3,if_pos h']
   ·rw[Av (by simp;omega),Bo]
    congr 1
    simp;omega
 have a1:t.length=cs.length:=by simp[t];omega
 have S:∀c∈t,c.one=true:=by
  intro c k;simp only[t,Az] at k;rcases k with(k|k)|k;·exact y.one c (Bn k)
  ·exact h1 c k
  ·exact y.one c (BN k)
 have a9:id<s.hp.length:=(Ad.1 B).1;have split:∀(f:Nat) o',(s.hp.set id (some t))[f]? =some (some o')->(f=id∧o'=t)∨(f≠id∧s.hp[f]? =some (some o')):=by
  intro f o' p;rw[Ay] at p;split at p;·rename_i e;simp[a9] at p;exact .inl ⟨e.symm,p.symm⟩
  ·rename_i e;exact .inr ⟨λe'=>e e'.symm,p⟩
 have H:∀(f:Nat) o',(s.hp.set id (some t))[f]? =some (some o')->∃M,s.hp[f]? =some (some M):=by
  intro f o' p;rcases split f o' p with⟨rfl,_⟩|⟨_,p⟩
  ·exact⟨cs,B⟩
  ·exact⟨_,p⟩
 refine⟨⟨⟨?_,?_,?_,?_,?_,?_⟩,⟨h.er.size,?_,?_⟩⟩,⟨rfl,q5,q6,q7,by rw[q4];exact Ar _,?_,?_,λ_ _ _ _ _ J=>J,λ_ _ _ hO=>hO,?_⟩⟩
 ·intro f o' p;simp only[St.setObj,AO];rcases split f o' p with⟨rfl,rfl⟩|⟨O,p⟩
  ·refine jw.ofRow0 q1 ⟨by rw[a1,q2,R],S,?_,?_,?_⟩
   ·intro j c cv k d;rw[L] at k;rw[A] at d;rw[<-hl] at d;split at k;·rename_i x;rw[if_pos x] at d;exact(hv _ c cv k d).up u
    ·rename_i x;rw[if_neg x] at d;exact(y.rel j c cv k d).up u
   ·intro j c cv k d;rw[L] at k;rw[A] at d;rw[<-hl] at d;split at k;·rename_i x;rw[if_pos x] at d;have:=W _ c cv k d;rw[show o+(j-o)=j by omega] at this;exact q _ _ _ this
    ·rename_i x;rw[if_neg x] at d;exact q _ _ _ (y.own j c cv k d)
   ·intro j E n k;rw[L] at k;split at k;·rename_i x;obtain⟨m1,m2⟩:=an _ E n k;rw[show o+(j-o)=j by omega] at m1 m2;obtain⟨m3,m4, -⟩:=y.bn j E n m1;refine⟨m3,by rw[q2];exact m4,?_⟩;rw[A,<-hl,if_pos x];exact m2
    ·rename_i x;rw[A,<-hl,if_neg x,q2];exact y.bn j E n k
  ·refine(h.hr.obj f o' p).keep ?_ λbl e2 fz C D=>⟨D.len,D.plain,D.typedUp rfl u.rho u.num rfl,D.cold,D.one,λj c cv k d=>(D.rel j c cv k d).up u,λj c cv k d=>q _ _ _ (D.own j c cv k d),D.bn⟩
   rw[q3 _ (h.hr.apart f id o' cs p B O)]
 ·intro id1 a3 Y c2 C D O;obtain⟨_,C⟩:=H id1 Y C;obtain⟨_,D⟩:=H a3 c2 D;exact h.hr.apart _ _ _ _ C D O
 ·intro id1 Y C;obtain⟨_,C⟩:=H id1 Y C;exact h.hr.notI _ _ C
 ·intro id1 Y C;obtain⟨_,C⟩:=H id1 Y C;exact h.hr.notO _ _ C
 ·intro b j J;exact(h.hr.exI b j J).set (F b j J) hb q1 q3
 ·intro b oc G;rw[q4];exact h.hr.oLt b oc G
 ·intro n v cv p d;simp only[St.setObj,AO];exact(h.er.rel n v cv p d).up u
 ·intro n v cv p d;exact q _ _ _ (h.er.own n v cv p d)
 ·intro b _ a0 _;exact q3 b (λe=>a0 id cs B e.symm)
 ·simp only[AO];exact u
 ·intro f o' p;obtain⟨M,p⟩:=H f o' p;exact .inl ⟨M,p⟩
theorem SR.bareCell(h:SR g s w a){id o:Nat}{cs:List V}(I:s.obj id=some cs):
  SR g (s.setObj id (cs.set o (disown (cs.getD o .undef)))) w a∧FR g s.hp w g (s.hp.set id (some (cs.set o (disown (cs.getD o .undef))))) w:=by
 obtain⟨B,J⟩:=jq I;have H:id<s.hp.length:=(Ad.1 B).1;let q:=cs.set o (disown (cs.getD o .undef));have split:∀(b:Nat) o',(s.hp.set id (some q))[b]? =some (some o')->(b=id∧o'=q)∨(b≠id∧s.hp[b]? =some (some o')):=by
  intro b o' i;rw[Ay] at i;split at i;·rename_i e;simp[H] at i;exact .inl ⟨e.symm,i.symm⟩
  ·rename_i e;exact .inr ⟨λO=>e O.symm,i⟩
 have u:∀(b:Nat) o',(s.hp.set id (some q))[b]? =some (some o')->∃A,s.hp[b]? =some (some A):=by
  intro b o' i;rcases split b o' i with⟨rfl,_⟩|⟨_,i⟩
  ·exact⟨cs,B⟩
  ·exact⟨_,i⟩
 have p:∀(j:Nat) c,q[j]? =some c->∃x,cs[j]? =some x∧(c=x∨c=disown x):=by
  intro j c k;simp only[q,Ay] at k;split at k
  ·rename_i e;subst e;split at k;·rename_i C;refine⟨cs[o],Ab C,.inr ?_⟩;simp only[Ai] at k;rw[<-k];simp[An,Ab C]
   ·simp at k
  ·exact⟨c,k,.inl rfl⟩
 refine⟨⟨⟨?_,?_,?_,?_,h.hr.exI,h.hr.oLt⟩,⟨h.er.size,?_,h.er.own⟩⟩,⟨rfl,rfl,rfl,rfl,Ar _,λ_ _ _ _=>rfl,?_,λ_ _ _ _ _ W=>W,λ_ _ _ R=>R,?_⟩⟩
 ·intro b o' i;simp only[St.setObj,AO];rcases split b o' i with⟨rfl,rfl⟩|⟨F,i⟩
  ·obtain⟨N,e,L,t⟩:=s7 h.hr I;refine jw.ofRow0 L ⟨by simp[q,t.len],?_,?_,?_,?_⟩
   ·intro c k;obtain⟨j,M,rfl⟩:=A0.1 k;obtain⟨x,f,d⟩:=p j _ (Ab M);have:=t.one x (Am f);rcases d with d|d<;>rw[d];·exact this
    ·rw[lO];exact this
   ·intro j c cv k y;obtain⟨x,f,d⟩:=p j _ k;have:=t.rel j x cv f y;rcases d with d|d<;>rw[d];·exact this
    ·exact this.disown
   ·intro j c cv k y;obtain⟨x,f,d⟩:=p j _ k;have:=t.own j x cv f y;rcases d with d|d<;>rw[d];·exact this
    ·exact ap.disown _ _ _ _ _
   ·intro j E n k;obtain⟨x,f,d⟩:=p j _ k;rcases d with d|d;·exact t.bn j E n (by rw[d];exact f)
    ·cases x<;>simp[disown] at d
  ·exact h.hr.obj b o' i
 ·intro id1 G D S f d F;obtain⟨_,f⟩:=u id1 D f;obtain⟨_,d⟩:=u G S d;exact h.hr.apart _ _ _ _ f d F
 ·intro id1 D f;obtain⟨_,f⟩:=u id1 D f;exact h.hr.notI _ _ f
 ·intro id1 D f;obtain⟨_,f⟩:=u id1 D f;exact h.hr.notO _ _ f
 ·intro n v cv i y;simp only[St.setObj,AO];exact h.er.rel n v cv i y
 ·simp only[AO];exact Up.refl _ _ _ _
 ·intro b o' i;obtain⟨A,i⟩:=u b o' i;exact .inl ⟨A,i⟩
theorem arW{d n:Nat}{agg:Bool}{x:ASrc}(D:mY P (.ld d n agg true x) m=true)(i:step Γ (.ld d n agg true x) s=some (true,s'))(h:SR g s w a)(S:cL g s w a s' next):m.wp P a w next Q:=by
 obtain⟨dst,op,ty,pos,R,gd⟩:=m;simp only[mY,Ac,beq_iff_eq] at D;obtain⟨rfl,D⟩:=D;split at D
 ·rename_i t Y;simp only[Ac,beq_iff_eq,BK] at D;obtain⟨Z,h2,⟨rfl,rfl⟩,W⟩:=D;have N:=aP W h.er;simp only[step] at i;split at i
  ·rename_i cs L;have B:bo P (.ld d 1 false false x) ⟨some d,.load t Y,ty,pos,R,gd⟩=true:=by
    simp[bo,Z,h2,W]
   refine aqG (Γ:=Γ) B ?_ h S;simp only[step,L];exact i
  ·rename_i id o L;split at i
   ·rename_i cs J;split at i
    ·rename_i bl;simp only[if_true] at i;cases E:noBn (cs.getD o .undef) with
     |false=>rw[E] at i;simp at i
     |true=>
     rw[E] at i;simp only[if_true] at i;obtain rfl:_=s':=by simpa using i
     rw[L] at N;generalize O:a.eval Y=cv at N;cases N with
     |ptr _ _ a2=>
      obtain⟨k,e,hb,u⟩:=s7 h.hr J;have X:=u.len;have A:o<cs.length:=by omega
      have I:o<k.size:=by omega
      have H:=qa (P:=P) (w:=w) (b:=g.ρ id) (o:=o) (vs:=[k[o]]) Z h2 (.inr rfl) rfl (λj v M=>by
       cases j with
       |zero=>simp at M;subst M;rw[aT hb];simp[I]
       |succ j=>simp at M)
      have G:cs[o]? =some cs[o]:=Ab A;have F:k[o]? =some k[o]:=As I;obtain⟨b1,b2⟩:=h.bareCell (o:=o) J;obtain⟨g₁,t1,t2,t3,t4,t5⟩:=ahT (q:=.slot d) b1 (p:=.cell id o) (by intro a3 v f C;simp only[St.setObj] at f;rw[Bw (Ad.1 (jq J).1).1] at f;simp only[Ai] at f;subst f;rw[Bw A] at C;simp only[Ai] at C;subst C;exact eH _) (u.own o _ _ G F);have y:(Dw t (.pointer (some ⟨g.ρ id,o,none⟩))).run P w=.ok k[o] w:=H;refine eN rfl (cv:=k[o]) (w':=w) (by simp[execOp,O,y]) ⟨g₁,?_,?_⟩ S
      ·have hl:loaded false ((cs.drop o).take 1)=cs[o]:=by
        rw[AK A];rfl
       rw[hl];refine t1.set d ?_ t5;rw[t3,t4];simpa [St.setObj] using u.rel o _ _ G F
      ·exact b2.trans (by simpa [St.set,St.setObj] using t2)
    ·simp at i
   ·simp at i
  ·simp at i
 ·simp at D
theorem avH{d:Option Nat}{n:Nat}{x v:ASrc}(b:mY P (.st d n x v) m=true)(C:step Γ (.st d n x v) s=some (true,s'))(h:SR g s w a)(hn:cL g s w a s' next):m.wp P a w next Q:=by
 obtain⟨dst,op,ty,pos,an,gd⟩:=m;simp only[mY,Ac,beq_iff_eq] at b;obtain⟨rfl,b⟩:=b;split at b
 ·rename_i t x' A;simp only[Ac,beq_iff_eq] at b;obtain⟨h1,h2,h3⟩:=b;have r1:=aP h2 h.er;have H:=aP h3 h.er;simp only[step] at C;split at C
  ·rename_i id o hx;split at C
   ·rename_i cs ho;split at C
    ·rename_i y;simp only[Ac,beq_iff_eq,decide_eq_true_eq] at y;obtain⟨⟨L,J⟩,cy,W⟩:=y;obtain rfl:_=s':=by simpa using C
     rw[hx] at r1;generalize a1:a.eval x'=cx at r1;cases r1 with
     |ptr _ _ b6=>
      obtain⟨b4,e,hb,S⟩:=s7 h.hr ho;have br:=S.len;obtain⟨c1,c2,c3⟩:=wv H J;have a5:(a.eval A).cells.size=n:=by rw[<-c1];exact L
      have G:(execOp a.eval ⟨dst,.store t x' A,ty,pos,an,gd⟩).run P w=.ok .skip (w.setCells (g.ρ id) o (a.eval A).cells.toList):=by
       have:=run_storeCells_cells (P:=P) (g.ρ id) o (a.eval A).cells.toList 0 w
        (λj N=>by rw[aT hb,As (by simp at N;omega)];rfl)
        (λj N=>by simp[BD,hb])
        (λu hu=>by
         obtain⟨j,N,rfl⟩:=A0.1 hu;have M:j<(v.ev s).cells.length:=by rw[c1];simpa using N
         exact(c3 j _ _ (Ab M) (by simp)).oneCell (c2 _ (Bf M)))
       simp[execOp,a1,DW,BZ,storeVar,nL h1,a5,this]
      have key:∃g₁,SR g₁ (v.after s) w a∧FR g s.hp w g₁ s.hp w∧g₁.I=g.I∧g₁.ρ=g.ρ∧
        ∀(i:Nat) c cv,(v.ev s).cells[i]? =some c->(a.eval A).cells.toList[i]? =some cv->ap g₁ w (.cell id (o+i)) c cv:=by
       by_cases k:∃cs,v.ev s=.agg cs
       ·obtain⟨b2,k⟩:=k;refine⟨g,h.after v,FR.refl _ _ _,rfl,rfl,?_⟩;rw[k] at H;generalize a.eval A=b0 at H;cases H with
        |agg _ b5 _ _ a2 _=>intro i c cv b f;rw[k] at b;exact(a2 i c cv (by simpa [V.cells] using b) (by simpa [Cq] using f)).own _ _ _
       ·have p:(v.ev s).cells=[v.ev s]:=by
         cases hh:v.ev s<;>first|rfl|(rw[hh] at k;exact absurd ⟨_,rfl⟩ k)
        obtain⟨g₁,X,O,Z,R,k5⟩:=as5 (q:=.cell id o) h3 h;refine⟨g₁,X,O,Z,R,?_⟩;have D:(v.ev s).one=true:=c2 _ (by rw[p];exact Au.2 rfl);have B:(a.eval A).cells= #[a.eval A]:=by have:=H.oneCell D;cases hh:a.eval A<;>rw[hh] at this<;>simp[DF] at this<;>rfl
        intro i c cv b f;rw[p] at b;rw[B] at f;cases i with
        |zero=>simp at b f;subst b f;exact k5
        |succ i=>simp at b
      obtain⟨g₁,X,O,Z,R,k5⟩:=key;have al:(v.after s).obj id=some cs:=by unfold St.obj;rw[nS];exact ho
      have F:g₁.ρ id=g.ρ id:=by rw[R]
      obtain⟨Y,p2⟩:=X.putCells (o:=o) (news:=(v.ev s).cells) (us:=(a.eval A).cells.toList) al (by simpa using c1) c2 (by omega)
       (λi c cv b f=>by rw[Z,R,nS];exact c3 i c cv b (by simpa using f)) k5 (λi E n hi=>absurd (Ap.1 W _ (Am hi)) (by simp[noBn]))
      rw[F,L,AC] at Y p2;unfold C7 Di;rw[G];cases dst with
      |none=>refine hn _ _ g₁ Y ?_ rfl;refine O.trans ?_;simpa [St.setObj,St.setO,nS] using p2
      |some d=>refine hn _ _ g₁ (Y.set d (.undef _) (by simp[ap])) ?_ rfl;refine O.trans ?_;simpa [St.setObj,St.setO,St.set,nS] using p2
    ·simp at C
   ·simp at C
  ·simp at C
 ·simp at b
theorem acY{α:Type}(l news:List α)(o:Nat)(d:o+news.length<=l.length)(j:Nat):
  (l.take o++news++l.drop (o+news.length))[j]? =if o<=j∧j<o+news.length then news[j-o]? else l[j]?:=by
 have f:(l.take o).length=o:=by simp;omega
 split;·rename_i e;rw[AC,Av (by omega),f,Aw (by omega)]
 ·rename_i e;rcases AH j o with b|b;·rw[AC,Aw (by omega),A3,if_pos b]
  ·rw[Av (by simp;omega),Bo]
   congr 1
   simp;omega
structure Row(I:Nat->Nat->Prop)(ρ:Nat->Nat)(N:Nat)(w:World)(cs:List V)(us:List Value):Prop where
 len:cs.length=us.length
 one:∀c∈cs,c.one=true
 rel:∀(i:Nat) c cv,cs[i]? =some c->us[i]? =some cv->VRel I ρ N w c cv
 nil:∀(i:Nat) c cv,cs[i]? =some c->us[i]? =some cv->eu c cv
theorem Row.over{I:Nat->Nat->Prop}{ρ:Nat->Nat}{N:Nat}{cs news:List V}{us vs:List Value}(h:Row I ρ N w cs us)(k:Row I ρ N w news vs)(o:Nat)(f:o+news.length<=cs.length):
  Row I ρ N w (cs.take o++news++cs.drop (o+news.length)) (us.take o++vs++us.drop (o+vs.length)):=by
 have t:=h.len;have q:=k.len;have p:=acY cs news o f;have j:=acY us vs o (by omega);refine⟨by simp;omega,?_,?_,?_⟩
 ·intro c d;simp only[Az] at d;rcases d with(d|d)|d;·exact h.one c (Bn d)
  ·exact k.one c d
  ·exact h.one c (BN d)
 ·intro i c cv d b;rw[p] at d;rw[j,<-q] at b;split at d;·rename_i e;rw[if_pos e] at b;exact k.rel _ _ _ d b
  ·rename_i e;rw[if_neg e] at b;exact h.rel _ _ _ d b
 ·intro i c cv d b;rw[p] at d;rw[j,<-q] at b;split at d;·rename_i e;rw[if_pos e] at b;exact k.nil _ _ _ d b
  ·rename_i e;rw[if_neg e] at b;exact h.nil _ _ _ d b
theorem arX(fs:List Field)(h:fs.all (λf=>(P.info? f.type).isSome)=true):
  ∃places,fs.mapM (λf=>(P.info? f.type).map λi=>(f.offset,i.size))=some places∧∀(i:Nat) f n,fs[i]? =some f->fe P f.type=some n->places[i]? =some (f.offset,n):=by
 induction fs with
 |nil=>exact⟨[],rfl,by simp⟩
 |cons f fs k=>
  simp only[Cm,Ac] at h;obtain⟨places,p,q⟩:=k h.2;obtain⟨i,e⟩:=Bz.1 h.1;refine⟨(f.offset,i.size)::places,by simp[List.mapM_cons,e,p],?_⟩;intro j o n d b;cases j with
  |zero=>simp at d;subst d;simp[fe,e] at b;simp[b]
  |succ j=>exact q j o n (by simpa using d) b
theorem ahV(h:SR g s w a){fs:Array Field}{places:Nat->Option (Nat×Nat)}(hp:∀(i:Nat) f n,fs[i]? =some f->fe P f.type=some n->places i=some (f.offset,n)):
  ∀(G:List (Nat×Nat×ASrc))(J:List (Nat×Operand))(cs k:List V)(d:Array Value),yx P fs G J=true->Row g.I g.ρ s.hp.length w cs d.toList->
   lay cs (G.map λ(C,n,x)=>(C,n,x.ev s))=some k->∃e,CN places d (J.map λ(i,y)=>(i,a.eval y))=some e∧Row g.I g.ρ s.hp.length w k e.toList
 | [],[],cs,k,d,_,H,u=>by simp[lay] at u;subst u;exact⟨d,by simp[CN],H⟩
 |(C,n,x)::G,(i,y)::J,cs,k,d,A,H,u=>by
  simp only[yx,Ac] at A;obtain⟨p,O,N⟩:=A;split at p
  ·rename_i f hf;simp only[Ac,beq_iff_eq] at p;obtain⟨rfl,W⟩:=p;simp only[A2,lay] at u;split at u
   ·rename_i o;simp only[Ac,beq_iff_eq,decide_eq_true_eq] at o;obtain⟨⟨v,D⟩,ae⟩:=o;obtain⟨S,c2,Z⟩:=wv (aP O h.er) D;have B:Row g.I g.ρ s.hp.length w ((x.ev s).cells.map disown) (a.eval y).cells.toList:=by
     refine⟨by simp[S],?_,?_,?_⟩;·intro c t;obtain⟨M,q,rfl⟩:=AG.1 t;rw[lO];exact c2 M q
     ·intro j c cv t L;rw[AA,Aq] at t;obtain⟨M,q,rfl⟩:=t;exact(Z j _ _ q (by simpa using L)).disown
     ·intro j c cv t _;rw[AA,Aq] at t;obtain⟨M,q,rfl⟩:=t;exact acT _ _
    have F:(a.eval y).cells.size=n:=by rw[<-S];exact v
    have R:d.size=cs.length:=by have:=H.len;simpa using this.symm
    have E:=afo (a.eval y).cells.toList f.offset 0 d (by simp[F];omega);simp only[B5,BT] at E;have b:=H.over B f.offset (by simp[v];omega);simp only[A6,v,BT] at b;rw[<-E] at b;obtain⟨e,X,Y⟩:=ahV h hp G J _ k _ N b u;refine⟨e,?_,Y⟩;simp only[A2,CN,hp i f n hf W,F];rw[if_neg (by simp;omega)];rw[<-X]
    congr 1
    rw[<-Array.foldl_toList,Array.toList_zipIdx]
   ·simp at u
  ·simp at p
 | [],_::_,_,_,_,A,_,_=>by simp[yx] at A
 |_::_,[],_,_,_,A,_,_=>by simp[yx] at A
theorem au5{d:Nat}{zero:List V}{G:List (Nat×Nat×ASrc)}(k:mY P (.bld d zero G) m=true)(A:step Γ (.bld d zero G) s=some (true,s'))(h:SR g s w a)(u:cL g s w a s' next):m.wp P a w next Q:=by
 obtain⟨dst,op,ty,pos,an,gd⟩:=m;simp only[mY,Ac,beq_iff_eq] at k;obtain⟨rfl,k⟩:=k;split at k
 ·rename_i t H;simp only[Ac] at k;obtain⟨Z,v⟩:=k;split at v
  ·rename_i fs X;simp only[Ac] at v;obtain⟨v,h3⟩:=v;obtain⟨i,z,F,J,p⟩:=yy Z;obtain⟨M,W,O⟩:=oZ (I:=g.I) (ρ:=g.ρ) (N:=s.hp.length) (w:=w) p;obtain⟨places,e1,e2⟩:=arX (P:=P) fs.toList (by simpa using h3);simp only[step,Aq] at A;obtain⟨B,R,A⟩:=A;obtain rfl:_=s':=by simpa using A
   obtain⟨o,Y,x⟩:=ahV (P:=P) (fs:=fs) (places:=λi=>places.toArray[i]?) h (λi f n D u=>by simpa using e2 i f n (by simpa using D) u) G H.toList zero B z.cells v ⟨M,W,O,λi c cv k b=>oY p i c cv k b⟩ R;have q:=run_build (P:=P) w t (H.map λ(i,y)=>(i,a.eval y)) o (by simp only[Program.built,F,X,J,e1];simpa using Y);refine aM h rfl (cv:=.agg o) (by simp[execOp,q]) (.agg _ _ (by simpa using x.len) x.one (λi c cv k b=>x.nil i c cv k (by simpa using b)) (λi c cv k b=>x.rel i c cv k (by simpa using b))) rfl u
  ·rename_i len e X;split at v
   ·rename_i sz C;obtain⟨i,z,F,J,p⟩:=yy Z;obtain⟨M,W,O⟩:=oZ (I:=g.I) (ρ:=g.ρ) (N:=s.hp.length) (w:=w) p;simp only[step,Aq] at A;obtain⟨B,R,A⟩:=A;obtain rfl:_=s':=by simpa using A
    obtain⟨ie,S,L⟩:∃i,P.info? e=some i∧i.size=sz:=by unfold fe at C;obtain⟨i,F,h⟩:=Aq.1 C;exact⟨i,F,h⟩
    obtain⟨o,Y,x⟩:=ahV (P:=P) (fs:=as3 len sz e) (places:=λi=>some (i*sz,sz)) h (λi f n D u=>by
     have D:(List.map (λi=>arV e (i*sz)) (AU len))[i]? =some f:=by simpa [as3] using D
     rw[AA,Aq] at D;obtain⟨j,E,rfl⟩:=D;have E:j=i:=by
      rw[DB] at E;·exact(Ax E).symm
      ·exact(by simpa using (Ad.1 E).1)
     subst E;have u:fe P e=some n:=u;rw[C] at u;cases u;rfl) G H.toList zero B z.cells v ⟨M,W,O,λi c cv k b=>oY p i c cv k b⟩ R
    have q:=run_build (P:=P) w t (H.map λ(i,y)=>(i,a.eval y)) o (by simp only[Program.built,F,X,J,S,L];simpa using Y);refine aM h rfl (cv:=.agg o) (by simp[execOp,q]) (.agg _ _ (by simpa using x.len) x.one (λi c cv k b=>x.nil i c cv k (by simpa using b)) (λi c cv k b=>x.rel i c cv k (by simpa using b))) rfl u
   ·simp at v
  ·simp at v
 ·simp at k
end
def as6:List ASrc->List Operand->Bool
 | [],[]=>true
 |x::xs,y::ys=>aH x y&&as6 xs ys
 |_,_=>false
def xT(P:Program)(o:IOp)(m:Oper):Bool:=
 match o with
 | .alr d n=>(m.dst==some d)&&(match m.op with| .alloc t=>(match P.info? t with|some i=>(match i.zero with|some z=>z.cells.size==n|none=>false)|none=>false)|_=>false)
 | .frz d r n v=>(m.dst==d)&&(match m.op with| .store t (.tmp e) b=>(r==e)&&((fe P t==some n)&&aH v b)|_=>false)
 | .lde d n agg x=>bo P (.ld d n agg false x) m
 | .boxe d x=>(m.dst==some d)&&(match m.op with| .box t y=>aH x y|_=>false)
 |_=>false
section
variable{w w':World}{g g':Gh}{s s':St}{a:Act}{P:Program}{Γ:aq}{m:Oper}{next:Act->World->Prop}{Q:Exit->Act->World->Prop}
theorem SR.newLaid(h:SR g s w a)(cs:List V)(d:Nat)(f:Array Value)(e:TypeId)
  (E:cs.length=f.size) (F:∀c∈cs,c.one=true)
  (H:∀(j:Nat) c cv,cs[j]? =some c->f[j]? =some cv->VRel g.I g.ρ s.hp.length w c cv):
  ∃g',SR g' (s.set d (.ea cs)) (w.alloc (.cells f e)) (a.put (some d) (.pointer (some ⟨w.heap.size,0,none⟩)))∧FR g s.hp w g' s.hp (w.alloc (.cells f e)):=by
 obtain⟨J,i,q⟩:=kG w (.cells f e);let g':Gh:={I:=λb j=>g.I b j∨(b=w.heap.size∧j<cs.length),ρ:=g.ρ,O:=g.O,β:=g.β}
 have x:∀b j,g.I b j->b<w.heap.size:=by intro b j y;exact(h.hr.exI b j y).lt
 have t:∀b j,b<w.heap.size->(w.alloc (.cells f e)).cell? ⟨b,j,none⟩=w.cell? ⟨b,j,none⟩:=by intro b j p;simp[Bv,i b p]
 have u:Up g.I g.ρ s.hp.length w g'.I g'.ρ s.hp.length (w.alloc (.cells f e)):=⟨λb j y=>.inl y,λb j y=>t b j (x b j y),λ_ _=>rfl,Ar _⟩
 have v:∀j,(w.alloc (.cells f e)).cell? ⟨w.heap.size,j,none⟩=f[j]?:=λj=>aT q j
 have G:SR g' s (w.alloc (.cells f e)) a:=by
  refine h.keep none trivial rfl u ?_ ?_ ?_ ?_
  ·intro C b p _;have A:=h.hr.oLt b C p;refine⟨p,i b A,?_⟩;rintro j (k|⟨k,_⟩);·exact k
   ·omega
  ·intro id cs B;have A:=(h.hr.obj id cs B).lt;refine⟨i _ A,h.hr.notO id cs B,?_⟩;rintro j (k|⟨k,_⟩);·exact k
   ·omega
  ·rintro b j (k|⟨rfl,k⟩);·exact(h.hr.exI b j k).blk (by first|exact i b (x b j k)|exact f2 b (x b j k))
   ·exact .row q (by omega) (λ_ L=>by omega)
  ·intro b o p;have:=h.hr.oLt b o p;omega
 refine⟨g',G.set d ?_ (by simp[ap]),⟨rfl,rfl,rfl,rfl,by omega,λb p _ _=>i b p,u,?_,λ_ _ _ h=>h,λ_ cs h=>.inl ⟨cs,h⟩⟩⟩
 ·refine .ea cs _ _ (λj=>f[j]?.getD undef) F ?_ ?_ ?_;·intro j k;exact .inr ⟨rfl,by omega⟩
  ·intro j k;rw[Be,v,As (by omega)];rfl
  ·intro j c D;have k:j<f.size:=by rw[<-E];exact(Ad.1 D).1
   have:=H j c _ D (As k);rw[As k];exact this.up u
 ·rintro b j p _ M (y|⟨rfl,_⟩);·exact y
  ·omega
theorem aus{d:Nat}{x:ASrc}(b:xT P (.boxe d x) m=true)(q:step Γ (.boxe d x) s=some (true,s'))(h:SR g s w a)(C:cL g s w a s' next):m.wp P a w next Q:=by
 obtain⟨dst,M,ty,pos,B,F⟩:=m;simp only[xT,Ac,beq_iff_eq] at b;obtain⟨rfl,b⟩:=b;split at b
 ·rename_i t y;have u:=aP b h.er;have e:(execOp a.eval ⟨some d,.box t y,ty,pos,B,F⟩).run P w=.ok (.value (.pointer (some ⟨w.heap.size,0,none⟩))) (w.alloc (.cells (a.eval y).cells t)):=by
   simp[execOp,Instr.box,newVar,newRow]
  simp only[step] at q;split at q
  ·rename_i cs D;obtain rfl:_=s':=by simpa using q
   rw[D] at u;generalize a.eval y=cv at u e;cases u with
   |agg _ vs E G L J=>
    refine eN rfl e (h.newLaid (cs.map disown) d vs t (by simpa using E) ?_ ?_) C;·intro c b;obtain⟨A,o,rfl⟩:=AG.1 b;rw[lO];exact G A o
    ·intro j c cv b f;rw[AA,Aq] at b;obtain⟨A,o,rfl⟩:=b;exact(J j A cv o f).disown
  ·rename_i v D H;split at q
   ·rename_i k;obtain rfl:_=s':=by simpa using q
    have p:(a.eval y).cells= #[a.eval y]:=by have:=u.oneCell k;cases I:a.eval y<;>rw[I] at this<;>simp[DF] at this<;>rfl
    rw[p] at e;refine eN rfl e (h.newLaid [disown (x.ev s)] d #[a.eval y] t rfl (by simpa [lO] using k) ?_) C;intro i c cv b f;cases i with
    |zero=>simp at b f;subst b f;exact u.disown
    |succ i=>simp at b
   ·simp at q
 ·simp at b
theorem au6{d n:Nat}{agg:Bool}{x:ASrc}(f:xT P (.lde d n agg x) m=true)(b:step Γ (.lde d n agg x) s=some (true,s'))(h:SR g s w a)(e:cL g s w a s' next):m.wp P a w next Q:=by
 refine aqG (Γ:=Γ) (d:=d) (n:=n) (agg:=agg) (x:=x) f ?_ h e;simp only[step] at b ⊢;split at b;·rename_i cs i;rw[i];exact b
 ·simp at b
theorem au7{d n:Nat}(q:xT P (.alr d n) m=true)(E:step Γ (.alr d n) s=some (true,s'))(h:SR g s w a)(H:cL g s w a s' next):m.wp P a w next Q:=by
 obtain⟨dst,R,ty,pos,L,N⟩:=m;simp only[xT,Ac,beq_iff_eq] at q;obtain⟨rfl,q⟩:=q;split at q
 ·rename_i t;split at q
  ·rename_i i y;split at q
   ·rename_i z G;have F:z.cells.size=n:=by simpa using q
    obtain rfl:_=s':=by simpa [step] using E
    have f:=kG w (.cells z.cells t);obtain⟨M,e,C⟩:=f;refine eN rfl (w':=w.alloc (.cells z.cells t)) (cv:=.pointer (some ⟨w.heap.size,0,none⟩)) (by simp[execOp,Instr.alloc,zeroValue,typeInfo,y,G,newVar,newRow]) ?_ H;let g':Gh:={I:=g.I,ρ:=g.ρ,O:=λb=>if b=w.heap.size then some (.slot d) else g.O b,β:=g.β}
    have x:∀b j,g.I b j->b<w.heap.size:=by intro b j y;exact(h.hr.exI b j y).lt
    have A:∀b j,b<w.heap.size->(w.alloc (.cells z.cells t)).cell? ⟨b,j,none⟩=w.cell? ⟨b,j,none⟩:=by intro b j k;simp[Bv,e b k]
    have u:Up g.I g.ρ s.hp.length w g'.I g'.ρ s.hp.length (w.alloc (.cells z.cells t)):=⟨λb j y=>y,λb j y=>A b j (x b j y),λ_ _=>rfl,Ar _⟩
    have E:SR g' s (w.alloc (.cells z.cells t)) a:=by
     refine h.keep none trivial rfl u ?_ ?_ ?_ ?_;·intro D b k _;have p:=h.hr.oLt b D k;exact⟨by simp[g',Bu p,k],e b p,λj v=>v⟩
     ·intro id cs B;have p:=(h.hr.obj id cs B).lt;exact⟨e _ p,by simp[g',Bu p,h.hr.notO id cs B],λj v=>v⟩
     ·intro b j v;exact(h.hr.exI b j v).blk (by first|exact e b (x b j v)|exact f2 b (x b j v))
     ·intro b o k;simp only[g'] at k;split at k;·omega
      ·have:=h.hr.oLt b o k;omega
    refine⟨g',E.set d (.raw n _) ?_,⟨rfl,rfl,rfl,rfl,by omega,λb k _ _=>e b k,u,λb j _ _ _ y=>y,?_,λ_ cs h=>.inl ⟨cs,h⟩⟩⟩;·refine⟨by simp[g'],⟨z.cells,t,C,F⟩,λj v=>?_⟩;exact absurd (x _ _ v) (Nat.lt_irrefl _)
    ·intro b k J;simp[g',Bu k,J]
   ·simp at q
  ·simp at q
 ·simp at q
theorem ER.put'{N:Nat}(h:ER g N w s.env a.tmps)(d:Nat){v:V}(p:VRel g.I g.ρ N w v (a.tmps.getD d undef))(k:ap g w (.slot d) v (a.tmps.getD d undef)):
  ER g N w (s.set d v).env a.tmps:=by
 refine⟨by simp[St.set,h.size],?_,?_⟩
 ·intro n o j b f;simp only[St.set,Ay] at b;by_cases e:d=n
  ·subst e;simp only[if_true] at b;split at b;·obtain rfl:=Ax b;obtain⟨i,rfl⟩:=AQ.1 f;simpa [Bg,i] using p
   ·simp at b
  ·simp only[e,if_false] at b;exact h.rel n _ _ b f
 ·intro n o j b f;simp only[St.set,Ay] at b;by_cases e:d=n
  ·subst e;simp only[if_true] at b;split at b;·obtain rfl:=Ax b;obtain⟨i,rfl⟩:=AQ.1 f;simpa [Bg,i] using k
   ·simp at b
  ·simp only[e,if_false] at b;exact h.own n _ _ b f
theorem au8{d:Option Nat}{r n:Nat}{v:ASrc}(q:xT P (.frz d r n v) m=true)(L:step Γ (.frz d r n v) s=some (true,s'))(h:SR g s w a)(hn:cL g s w a s' next):m.wp P a w next Q:=by
 obtain⟨dst,op,ty,pos,a3,gd⟩:=m;simp only[xT,Ac,beq_iff_eq] at q;obtain⟨rfl,q⟩:=q;split at q
 ·rename_i t r' R;simp only[Ac,beq_iff_eq] at q;obtain⟨rfl,h1,h3⟩:=q;have r2:=aP h3 h.er;simp only[step] at L;split at L
  ·rename_i m hr;split at L
   ·rename_i x;simp only[Ac,beq_iff_eq] at x;obtain⟨hm,G,Z⟩:=x;obtain rfl:=AS hm;obtain rfl:_=s':=by simpa using L
    have r1:=h.er.get r;have ro:=h.er.getOwn r;rw[hr] at r1 ro;obtain⟨c1,c2,c3⟩:=wv r2 Z;have ae:(a.eval R).cells.size=m:=by rw[<-c1];exact G
    generalize ad:a.tmps.getD r undef=cx at r1 ro;cases r1 with
    |raw _ b=>
     obtain⟨N,⟨ar,e,M,c4⟩,o3⟩:=ro;simp only at N M o3;have a4:SR g (s.set r .undef) w a:=by have:=h.bare r;rw[hr] at this;exact this
     let us:=(a.eval R).cells.toList;have b4:us.length=m:=by simpa [us] using ae
     obtain⟨⟨b1,q1,q2⟩,q3,q4,q5,q6,q7⟩:=kc b us 0 w ar e (0,0) M;let w':=w.setCells b 0 us;have Y:(execOp a.eval ⟨dst,.store t (.tmp r) R,ty,pos,a3,gd⟩).run P w=.ok .skip (w.setCells b 0 us):=by
      have:=run_storeCells_cells (P:=P) b 0 us 0 w
       (λj k=>by rw[aT M,As (by omega)];rfl)
       (λj k=>by simp[BD,M])
       (λu hu=>by
        obtain⟨j,k,rfl⟩:=A0.1 hu;have y:j<(v.ev s).cells.length:=by rw[c1];simpa [us] using k
        exact(c3 j _ _ (Ab y) (by simp[us])).oneCell (c2 _ (Bf y)))
      have he:a.eval (.tmp r)=.pointer (some ⟨b,0,none⟩):=ad;simp[execOp,he,DW,BZ,storeVar,nL h1,ae];have E:Sem.run P (storeCells {block:=b,off:=0} (a.eval R).cells.toList) w=Result.ok () (w.setCells b 0 (a.eval R).cells.toList):=by simpa [us] using this
      rw[E];rfl
     have W:∀f j,g.I f j->f≠b:=by rintro f j H rfl;exact o3 j H
     let g':Gh:={I:=λf j=>g.I f j∨(f=b∧j<m),ρ:=g.ρ,O:=λf=>if f=b then none else g.O f,β:=g.β}
     have C:∀f j,f≠b->w'.cell? ⟨f,j,none⟩=w.cell? ⟨f,j,none⟩:=by intro f j J;exact Bp _ us 0 w _ (λe=>absurd e J)
     have u:Up g.I g.ρ s.hp.length w g'.I g'.ρ s.hp.length w':=⟨λb j H=>.inl H,λf j H=>C f j (W f j H),λ_ _=>rfl,Ar _⟩
     have D:∀j,j<m->w'.cell? ⟨b,j,none⟩=us[j]?:=by intro j k;have:=BQ b us 0 w (λj' y=>by rw[aT M,As (by omega)];rfl) j (by omega);rw[Be] at this;rw[this,Ab]
     have S:SR g' (s.set r .undef) w' a:=by
      refine a4.keep (some (.slot r)) ?_ rfl u ?_ ?_ ?_ ?_;·intro v hv;simp only[St.set,Ay] at hv;simp at hv;obtain⟨_,rfl⟩:=hv;rfl
      ·intro cc f i J;have p:f≠b:=by
        rintro rfl;rw[N] at i;exact J i
       refine⟨by simp[g',p,i],q3 f p,?_⟩;rintro j (k|⟨k,_⟩);·exact k
       ·exact absurd k p
      ·intro id cs X;have p:g.ρ id≠b:=by
        intro e;have:=h.hr.notO id cs X;rw[e,N] at this;cases this
       refine⟨q3 _ p,by simp[g',p,h.hr.notO id cs X],?_⟩;rintro j (k|⟨k,_⟩);·exact k
       ·exact absurd k p
      ·rintro f j (k|⟨rfl,k⟩);·exact(h.hr.exI f j k).blk (q3 f (W f j k))
       ·exact .row q1 (by omega) (λ_ hz=>by simp at hz)
      ·intro f o i;simp only[g'] at i;split at i;·cases i
       ·have:=h.hr.oLt f o i;rw[q4];exact this
     have an:VRel g'.I g'.ρ s.hp.length w' (.ea ((v.ev s).cells.map disown)) (.pointer (some ⟨b,0,none⟩)):=by
      refine .ea _ _ _ (λj=>us[j]?.getD undef) ?_ ?_ ?_ ?_;·intro c q;obtain⟨c',A,rfl⟩:=AG.1 q;rw[lO];exact c2 c' A
      ·intro j k;exact .inr ⟨rfl,by simp[G] at k;omega⟩
      ·intro j k;have y:j<m:=by simp[G] at k;omega
       rw[Be,D j y,Ab (by omega)];rfl
      ·intro j c q;rw[AA,Aq] at q;obtain⟨c',A,rfl⟩:=q;have k:j<us.length:=by have:=(Ad.1 A).1;omega
       rw[Ab k];exact((c3 j c' us[j] A (by simp[us])).up u).disown
     have B:SR g' (s.set r (.ea ((v.ev s).cells.map disown))) w' a:=by
      refine⟨S.hr,?_⟩;have:=S.er.put' r (v:=.ea ((v.ev s).cells.map disown)) (by rw[ad];exact an) (by simp[ap]);have e2:((s.set r .undef).set r (.ea ((v.ev s).cells.map disown))).env=(s.set r (.ea ((v.ev s).cells.map disown))).env:=by simp[St.set]
      rw[e2] at this;exact this
     have fr:FR g s.hp w g' s.hp w':=by
      refine⟨rfl,q5,q6,q7,by rw[q4];exact Ar _,?_,u,?_,?_,λ_ cs h=>.inl ⟨cs,h⟩⟩;·intro f i _ F;refine q3 f ?_;rintro rfl;rw[N] at F;cases F
      ·rintro f j i _ F (H|⟨rfl,_⟩);·exact H
       ·rw[N] at F;cases F
      ·intro f i _ F;simp[g',F]
     unfold C7 Di;rw[Y];cases dst with
     |none=>exact hn _ _ g' B fr rfl
     |some d=>exact hn _ _ g' (B.set d (.undef _) (by simp[ap])) fr rfl
   ·simp at L
  ·simp at L
 ·simp at q
end
end Go.AM
end
