import GoSem.Core.Code
import GoSem.Op.String
import GoSem.Core.Utf8
import Derived.WalkKit
import Derived.Deep.AppendSrc
import Derived.Laws.Cover4
import Derived.Laws.IdiomStrings
import Derived.Lib.ConvBytes
import Derived.Laws.Tables
import Derived.Laws.StructEq
import Derived.Laws.MakeOwn
open Array renaming getElem?_eq_getElem→Ao,getElem?_eq_some_iff→AP,getD→A9,length_toList→BM,getElem?_append_left→B8,getElem?_push→CM,getElem?_eq_none→C4,getElem?_modify→De,eq_empty_of_size_eq_zero→Dj,getElem?_setIfInBounds→Ds
open BitVec renaming ofInt→Cj
open Bool renaming and_eq_true→Ac,or_eq_true→Ba,not_eq_true'→Bk,and_eq_false_iff→BI,eq_iff_iff→B5
open Classical renaming propDecidable→Co
open Function renaming comp→Dy,comp_def→DE
open Go.Addr renaming add_lit→BD
open Go.Builtin renaming append_→Cv,len_→CS
open Go.Instr renaming sureAddr→BQ,sliceAt→Cp,fill→Cs,sliceBounds→Cy,slice→CK,loadAt→Dh,storeAt→DC
open Go.IntKind renaming wrap→Aj,signed→Bb,bits→Bo,max→BT,min→B2
open Go.Op renaming stringOp→Cx,bytesLess→CR,equalIn→C0,intCmp→Dc,intBits→Dm,intArith→Dv
open Go.Oper renaming wp→CF,upon→Df
open Go.Value renaming cells→Ce,oneCell'→Dt
open Go.World renaming cell?_setCells_out→A2,cell?→By,frozen?→BA,cell?_setCells_in→BB
open Int renaming tmod_eq_emod_of_nonneg→BE,tmod_nonneg→Dk,emod_lt_of_pos→Dx
open List renaming length→Aa,getElem?_eq_getElem→Ab,getElem?_eq_some_iff→Ad,getD_eq_getElem?_getD→Af,mem_of_getElem?→Ai,getD→Ak,all_eq_true→Al,getElem?_append_right→Aq,getElem?_append_left→Ar,length_cons→Av,mem_append→Aw,getElem?_map→Ay,mem_singleton→Az,length_nil→AA,getElem?_set→AB,length_append→AD,mem_map→AE,length_set→AF,mem_flatMap→AG,getElem_mem→AK,getElem?_take→AO,mem_iff_getElem→AS,mem_cons_of_mem→AT,mem_cons_self→AU,getElem?_eq_none→AZ,getElem?_drop→A6,eq_nil_of_length_eq_zero→A7,range→A8,mem_of_mem_take→Be,range'→Bf,drop_eq_getElem_cons→Bl,map_cons→Bn,length_map→Bt,mem_of_mem_drop→BC,getElem?_set_self→BG,length_drop→BJ,append_assoc→BW,all_cons→B7,map_map→Ch,range'_succ→Ck,size_toArray→Cz,foldl_cons→CP,ext_getElem?→C3,getElem?_toArray→Db,getElem?_range→Dp,length_range→DH
open Nat renaming le_refl→Am,beq→As,eq_of_beq_eq_true→Ax,lt_of_lt_of_le→AC,le_trans→AH,lt_or_ge→AI,add_mul→AL,mul_le_mul_right→AN,zero_add→A1,ne_of_lt→Bj,ble→BV,blt→B0,mul_comm→B4,add_zero→Cl,one_mul→Cw,eq_zero_or_pos→CX,le_mul_of_pos_right→C1,add_assoc→C5,le_add_right→C8,le_of_not_lt→C9,mul_one→Du
open Option renaming map_eq_some_iff→An,getD_some→Bd,map_some→Bg,isSome_iff_exists→BU
open Option.some renaming injEq→Ah,inj→Au
open Prod.mk renaming injEq→Ap
open UInt8 renaming ofNat→Bq
set_option linter.all false
noncomputable section
namespace Go.AM
structure ate where
 num:Int
 wire:Int
 n:Int
 s:List UInt8
 raw:List UInt8
 deriving DecidableEq
inductive aa where
 |mk (kind n:Int) (s:List UInt8) (l:List aa) (names:List (List UInt8))
def aa.kind:aa->Int| .mk a _ _ _ _=>a
def aa.n:aa->Int| .mk _ a _ _ _=>a
def aa.s:aa->List UInt8| .mk _ _ a _ _=>a
def aa.l:aa->List aa| .mk _ _ _ a _=>a
def aa.names:aa->List (List UInt8)| .mk _ _ _ _ a=>a
structure aA where
 name:List UInt8
 aliases:List (List UInt8)
 typ:Int
 hasdef:Bool
 df:aa
structure ab where
 kind:Int
 name:List UInt8
 aliases:List (List UInt8)
 items:Int
 syms:List (List UInt8)
 hasdef:Bool
 df:List UInt8
 size:Int
 fields:List aA
 branches:List Int
inductive tS where
 |mk (n:Int) (s:List UInt8) (l:List tS) (keys:List (List UInt8)) (branch:Int)
def tS.n:tS->Int| .mk a _ _ _ _=>a
def tS.s:tS->List UInt8| .mk _ a _ _ _=>a
def tS.l:tS->List tS| .mk _ _ a _ _=>a
def tS.keys:tS->List (List UInt8)| .mk _ _ _ a _=>a
def tS.branch:tS->Int| .mk _ _ _ _ a=>a
inductive EK where
 |u8|num (k:IntKind)|str|bool|record|ints|jnode|afield|atype|aval
 deriving DecidableEq
abbrev Ty:EK->Type
 | .u8=>UInt8
 | .num _=>Int
 | .str=>List UInt8
 | .bool=>Bool
 | .record=>ate
 | .ints=>List Int
 | .jnode=>aa
 | .afield=>aA
 | .atype=>ab
 | .aval=>tS
inductive Fl where
 |own
 |may (b:Bool)
 deriving DecidableEq
def Fl.dis:Fl->Fl
 | .own=>.may false
 | .may b=>.may b
def Fl.app:Fl->Nat->Bool
 | .own,_=>true
 | .may b,n=>b&&decide (0<n)
inductive MK where
 |pb|bs|bn|ib|sn|sb
 deriving DecidableEq
abbrev MK.K:MK->Type
 | .pb=>Int×Int
 | .bs| .bn| .ib=>Int
 | .sn| .sb=>List UInt8
abbrev MK.T:MK->Type
 | .pb| .ib| .sb=>Bool
 | .bs=>List UInt8
 | .bn| .sn=>Int
inductive V where
 |undef
 |bool (b:Bool)
 |int (k:IntKind) (n:Int)
 |str (s:List UInt8)
 |sl (k:EK) (o:Fl) (xs:List (Ty k))
 |agg (cs:List V)
 |tup (vs:List V)
 |ea (cs:List V)
 |ptr (id off:Nat)
 |nilp
 |fn (f:Nat) (cap:List V)
 |nilif
 |bn (E n:Nat)
 |junk
 |rb (xs:List UInt8)
 |so (id n:Nat)
 |raw (n:Nat)
 |ul (k:EK) (xs:List (Ty k))
 |hd (n:Nat)
 |rw(k:EK) (xs:List (Ty k))
 |sw (k:EK) (id n:Nat)
 |sx (k:EK) (id off n:Nat)
 |wp (id:Nat) (k:EK) (i o:Nat)
 |mp (k:MK) (es:List (k.K×k.T))
 |mr (id:Nat)
 |nilm
instance:Inhabited V:=⟨.undef⟩
def EK.sz:EK->Nat
 | .record=>5
 | .jnode=>5
 | .afield=>9
 | .atype=>10
 | .aval=>5
 |_=>1
def ahC:IntKind->Nat
 | .i8| .u8=>1
 | .i16| .u16=>2
 | .i32| .u32=>4
 | .i64| .u64=>8
def EK.bytes:EK->Nat
 | .u8=>1
 | .num k=>ahC k
 | .str=>16
 | .bool=>1
 | .record=>56
 | .ints=>24
 | .jnode=>80
 | .afield=>136
 | .atype=>160
 | .aval=>80
def EK.isAgg:EK->Bool
 | .record| .jnode| .afield| .atype| .aval=>true
 |_=>false
def enc:(k:EK)->Ty k->List V
 | .u8,x=>[.int .u8 x.toNat]
 | .num k,x=>[.int k x]
 | .str,x=>[.str x]
 | .bool,x=>[.bool x]
 | .record,x=>[.int .i64 x.num,.int .i64 x.wire,.int .u64 x.n,.str x.s,.str x.raw]
 | .ints,x=>[.sl (.num .i64) (.may false) x]
 | .jnode,x=>[.int .i64 x.kind,.int .i64 x.n,.str x.s,.sl .jnode (.may false) x.l,.sl .str (.may false) x.names]
 | .afield,x=>[.str x.name,.sl .str (.may false) x.aliases,.int .i64 x.typ,.bool x.hasdef,.int .i64 x.df.kind,.int .i64 x.df.n,.str x.df.s,.sl .jnode (.may false) x.df.l,.sl .str (.may false) x.df.names]
 | .atype,x=>[.int .i64 x.kind,.str x.name,.sl .str (.may false) x.aliases,.int .i64 x.items,.sl .str (.may false) x.syms,.bool x.hasdef,.str x.df,.int .i64 x.size,.sl .afield (.may false) x.fields,.sl (.num .i64) (.may false) x.branches]
 | .aval,x=>[.int .u64 x.n,.str x.s,.sl .aval (.may false) x.l,.sl .str (.may false) x.keys,.int .i64 x.branch]
def dec:(k:EK)->List V->Option (Ty k)
 | .u8,[.int .u8 n]=>some (Bq n.toNat)
 | .num .i8,[.int .i8 n]=>some n
 | .num .i16,[.int .i16 n]=>some n
 | .num .i32,[.int .i32 n]=>some n
 | .num .i64,[.int .i64 n]=>some n
 | .num .u8,[.int .u8 n]=>some n
 | .num .u16,[.int .u16 n]=>some n
 | .num .u32,[.int .u32 n]=>some n
 | .num .u64,[.int .u64 n]=>some n
 | .str,[.str s]=>some s
 | .bool,[.bool b]=>some b
 | .record,[.int .i64 a,.int .i64 b,.int .u64 c,.str s,.str r]=>some ⟨a,b,c,s,r⟩
 | .ints,[.sl (.num .i64) _ x]=>some x
 | .jnode,[.int .i64 a,.int .i64 b,.str c,.sl .jnode _ d,.sl .str _ e]=>some (.mk a b c d e)
 | .afield,[.str a,.sl .str _ b,.int .i64 c,.bool d,.int .i64 e,.int .i64 f,.str g,.sl .jnode _ h,.sl .str _ i]=>some ⟨a,b,c,d,.mk e f g h i⟩
 | .atype,[.int .i64 a,.str b,.sl .str _ c,.int .i64 d,.sl .str _ e,.bool f,.str g,.int .i64 h,.sl .afield _ i,.sl (.num .i64) _ j]=>some ⟨a,b,c,d,e,f,g,h,i,j⟩
 | .aval,[.int .u64 a,.str b,.sl .aval _ c,.sl .str _ d,.int .i64 e]=>some (.mk a b c d e)
 |_,_=>none
def am:(k:EK)->Ty k
 | .u8=>0
 | .num _=>0
 | .str=>[]
 | .bool=>false
 | .record=>⟨0,0,0,[],[]⟩
 | .ints=>[]
 | .jnode=>.mk 0 0 [] [] []
 | .afield=>⟨[],[],0,false,.mk 0 0 [] [] []⟩
 | .atype=>⟨0,[],[],0,[],false,[],0,[],[]⟩
 | .aval=>.mk 0 [] [] [] 0
def MK.key:(k:MK)->k.K->V
 | .pb,x=>.agg [.int .i64 x.1,.int .i64 x.2]
 | .bs,x=>.int .u8 x
 | .bn,x=>.int .u8 x
 | .ib,x=>.int .i64 x
 | .sn,x=>.str x
 | .sb,x=>.str x
def MK.val:(k:MK)->k.T->V
 | .pb,x=>.bool x
 | .bs,x=>.str x
 | .bn,x=>.int .i64 x
 | .ib,x=>.bool x
 | .sn,x=>.int .i64 x
 | .sb,x=>.bool x
def MK.zero:(k:MK)->k.T
 | .pb| .ib| .sb=>false
 | .bs=>[]
 | .bn| .sn=>(0:Int)
def api:V->Option (Int×Int)| .agg [.int .i64 a,.int .i64 b]=>some (a,b)|_=>none
def u8V:V->Option Int| .int .u8 a=>some a|_=>none
def amv:V->Option Int| .int .i64 a=>some a|_=>none
def apj:V->Option (List UInt8)| .str s=>some s|_=>none
def aiy:V->Option Bool| .bool b=>some b|_=>none
def MK.dkey:(k:MK)->V->Option k.K
 | .pb=>api
 | .bs=>u8V
 | .bn=>u8V
 | .ib=>amv
 | .sn| .sb=>apj
def MK.dval:(k:MK)->V->Option k.T
 | .pb=>aiy
 | .bs=>apj
 | .bn=>amv
 | .ib=>aiy
 | .sn=>amv
 | .sb=>aiy
instance MK.decK:(k:MK)->DecidableEq k.K
 | .pb=>inferInstanceAs (DecidableEq (Int×Int))
 | .bs| .bn| .ib=>inferInstanceAs (DecidableEq Int)
 | .sn| .sb=>inferInstanceAs (DecidableEq (List UInt8))
def aX{k:MK}(es:List (k.K×k.T))(x:k.K):Option k.T:=match es with
 | []=>none
 |e::r=>if e.1=x then some e.2 else aX r x
def cm{k:MK}(es:List (k.K×k.T))(x:k.K)(v:k.T):List (k.K×k.T):=match es with
 | []=>[(x,v)]
 |e::r=>if e.1=x then (x,v)::r else e::cm r x v
def oA{k:MK}(es:List (k.K×k.T))(x:k.K):Nat:=match es with
 | []=>0
 |e::r=>if e.1=x then 0 else oA r x+1
def dv{k:MK}(es:List (k.K×k.T))(x:k.K):k.T:=(aX es x).getD k.zero
def aeN(k:MK)(a:Bool)(r:Option k.T):V:=cond a (.tup [k.val (r.getD k.zero),.bool r.isSome]) (k.val (r.getD k.zero))
def V.cells:V->List V
 | .agg cs=>cs
 |v=>[v]
def V.one:V->Bool
 | .undef| .agg _| .tup _| .rb _| .raw _| .rw _ _| .mp _ _=>false
 |_=>true
def disown:V->V
 | .raw _=>.undef
 | .sl k o xs=>.sl k o.dis xs
 | .bn _ _=>.junk
 | .ul _ xs=>.hd xs.length
 |v=>v
def V.laid:V->V
 | .ul k xs=>.sl k .own xs
 |v=>v
def V.weak:V->V
 | .sl k _ xs=>.sl k (.may false) xs
 |v=>disown v
def xj:V->Bool
 | .bn _ _=>false
 |_=>true
inductive aw where
 |t (n:Nat)
 |tk (n:Nat)
 |c (v:V)
abbrev ai:=Option (List V)
structure St where
 env:List V
 hp:List ai
def St.get(s:St)(n:Nat):V:=s.env.getD n .undef
def St.set(s:St)(n:Nat)(v:V):St:={s with env:=s.env.set n v}
def aw.ev(s:St):aw->V
 | .t n=>disown (s.get n)
 | .tk n=>s.get n
 | .c v=>v
def aw.after(s:St):aw->St
 | .tk n=>s.set n (disown (s.get n))
 |_=>s
def aw.fix(s:St)(t:Bool):aw->St
 | .t n=>s.set n (.bool t)
 |_=>s
theorem aw.fix_eq{s:St}{t:Bool}:∀{c:aw},c.ev s=.bool t->c.fix s t=s
 | .t n,h=>by
   have d:s.env.getD n .undef=.bool t:=by have h:disown (s.env.getD n .undef)=.bool t:=h;revert h;generalize s.env.getD n .undef=v;cases v<;>simp[disown]
   obtain⟨a,hp⟩:=s;show St.mk (a.set n (.bool t)) hp=St.mk a hp;have f:a.set n (.bool t)=a:=by
    apply C3;intro i;rw[AB];split
    ·rename_i e;subst e;split;·rename_i b;simp only[Af,Ab b,Bd] at d;rw[Ab b,d]
     ·rename_i b;rw[AZ (by omega)]
    ·rfl
   rw[f]
 | .tk n,_=>rfl
 | .c v,_=>rfl
inductive IOp where
 |mov (d:Nat) (x:aw)
 |pick (d:Nat) (c a b:aw)
 |bin (d:Nat) (o:BinOp) (x y:aw)
 |un (d:Nat) (o:UnOp) (x:aw)
 |cvi (d:Nat) (k:IntKind) (x:aw)
 |b2s (d:Nat) (x:aw)
 |lens (d:Nat) (x:aw)
 |lenl (d:Nat) (x:aw)
 |idx (d:Nat) (x i:aw)
 |ixa (d:Nat) (k:EK) (x i:aw)
 |subs (d:Nat) (x:aw) (lo hi:Option aw)
 |subl (d:Nat) (k:EK) (x:aw) (lo hi:Option aw)
 |bsl (d:Nat) (k:EK) (zT:List aw) (u:Bool)
 |bld (d:Nat) (zero:List V) (zT:List (Nat×Nat×aw))
 |new (d:Nat) (zero:List V)
 |box (d:Nat) (x:aw)
 |fad (d:Nat) (off:Nat) (x:aw)
 |ld (d:Nat) (n:Nat) (agg take:Bool) (x:aw)
 |st (d:Option Nat) (n:Nat) (x v:aw)
 |app (d:Nat) (k:EK) (x y:aw)
 |ext (d:Nat) (i:Nat) (x:aw)
 |nck (d:Option Nat) (x:aw)
 |call (d:Option Nat) (f:Nat) (args:List aw)
 |mx (d:Nat) (mn:Bool) (x y:aw)
 |beq (d:Nat) (neg:Bool) (x y:aw)
 |boxe (d:Nat) (x:aw)
 |alr (d n:Nat)
 |frz (d:Option Nat) (r n:Nat) (v:aw)
 |lde (d:Nat) (n:Nat) (agg:Bool) (x:aw)
 |mkf (d f:Nat) (lc:List aw)
 |dcall (d:Option Nat) (f:Nat) (x:aw) (args:List aw)
 |apu (d:Nat) (k:EK) (x y:aw)
 |slw (d:Nat) (k:EK) (x:aw) (lo hi:Option aw)
 |apx (d:Nat) (k:EK) (x y:aw)
 |blu (d:Nat) (k:EK)
 |snil (d:Nat) (x:aw)
 |lnw (d:Nat) (x:aw)
 |ixw (d:Nat) (k:EK) (x i:aw)
 |fdw (d off:Nat) (x:aw)
 |ldw (d n:Nat) (agg:Bool) (x:aw)
 |stw (d:Option Nat) (n:Nat) (x v:aw)
 |mkm (d:Nat) (k:MK)
 |mget (d:Nat) (k:MK) (ok:Bool) (x y:aw)
 |mput (d:Option Nat) (k:MK) (x y z:aw)
 |apo (d:Nat) (k:EK) (x y:aw)
structure GOp where
 g:Option (Nat×Bool)
 o:IOp
 ob:Option (List Nat×List Nat)
def oB(o:BinOp)(k:IntKind)(a b:Int):Int:=
 match o with
 | .and=>k.wrap (Cj k.bits a&&& Cj k.bits b).toNat
 | .or=>k.wrap (Cj k.bits a|||Cj k.bits b).toNat
 | .xor=>k.wrap (Cj k.bits a ^^^Cj k.bits b).toNat
 |_=>k.wrap (Cj k.bits a&&& ~~~Cj k.bits b).toNat
def aj0(k:IntKind)(a b:Int):Int:=k.wrap (a*2^(min b.toNat k.bits))
def aj1(k:IntKind)(a b:Int):Int:=a.fdiv (2^(min b.toNat k.bits))
def dl:Nat:=9223372036854775807
def tT:Nat:=140737488355328
def amw(o:BinOp)(k:IntKind)(a b:Int):Option (Bool×V):=
 match o with
 | .add=>some (true,.int k (k.wrap (a+b)))
 | .sub=>some (true,.int k (k.wrap (a-b)))
 | .mul=>some (true,.int k (k.wrap (a*b)))
 | .quo=>some (!(b==0),.int k (k.wrap (a.tdiv b)))
 | .rem=>some (!(b==0),.int k (a.tmod b))
 | .and=>some (true,.int k (oB .and k a b))
 | .or=>some (true,.int k (oB .or k a b))
 | .xor=>some (true,.int k (oB .xor k a b))
 | .andNot=>some (true,.int k (oB .andNot k a b))
 | .eql=>some (true,.bool (a==b))
 | .neq=>some (true,.bool (!(a==b)))
 | .lss=>some (true,.bool (decide (a<b)))
 | .leq=>some (true,.bool (decide (a<=b)))
 | .gtr=>some (true,.bool (decide (b<a)))
 | .geq=>some (true,.bool (decide (b<=a)))
 |_=>none
def amx(o:BinOp)(a b:List UInt8):Option (Bool×V):=
 match o with
 | .add=>some (decide (a.length+b.length<=dl),.str (a++b))
 | .eql=>some (true,.bool (decide (a=b)))
 | .neq=>some (true,.bool (!decide (a=b)))
 | .lss=>some (true,.bool (CR a b))
 | .leq=>some (true,.bool (CR a b||decide (a=b)))
 | .gtr=>some (true,.bool (!(CR a b||decide (a=b))))
 | .geq=>some (true,.bool (!Op.bytesLess a b))
 |_=>none
def arH(o:BinOp)(x y:V):Option (Bool×V):=
 match x,y with
 | .int k a,.int k' b=>
   match o with
   | .shl=>some (decide (0<=b),.int k (aj0 k a b))
   | .shr=>some (decide (0<=b),.int k (aj1 k a b))
   |o=>if k=k' then amw o k a b else none
 | .str a,.str b=>amx o a b
 |_,_=>none
def unV(o:UnOp)(x:V):Option V:=
 match o,x with
 | .not,.bool b=>some (.bool (!b))
 | .neg,.int k n=>some (.int k (k.wrap (0-n)))
 | .xor,.int k n=>some (.int k (oB .xor k (if k.signed then -1 else k.max) n))
 |_,_=>none
def lay(cells:List V):List (Nat×Nat×V)->Option (List V)
 | []=>some cells
 |(a,n,v)::r=>if (v.cells.length==n&&v.cells.all V.one)&&decide (a+n<=cells.length) then lay (cells.take a++v.cells.map disown++cells.drop (a+n)) r else none
def abe(k:EK):List V->Option (List (Ty k))
 | []=>some []
 |v::r=>match dec k v.cells,abe k r with|some x,some l=>some (x::l)|_,_=>none
def xk(c:Nat):Option V->Option V->Option (Bool×Nat×Nat)
 |none,none=>some (true,0,c)
 |some (.int _ a),none=>some (decide (0<=a)&&decide (a<=c),a.toNat,c)
 |none,some (.int _ b)=>some (decide (0<=b)&&decide (b<=c),0,b.toNat)
 |some (.int _ a),some (.int _ b)=>some (decide (0<=b)&&decide (b<=c)&&(decide (0<=a)&&decide (a<=b)),a.toNat,b.toNat)
 |_,_=>none
def eK(s:St):Option aw->Option V
 |none=>none
 |some x=>some (x.ev s)
def dm:List V->Bool
 | [.rb _]=>true
 | [.rw _ _]=>true
 | [.tup _]=>true
 |_=>false
def St.obj(s:St)(id:Nat):Option (List V):=match s.hp.getD id none with|some [.rb _]=>none|some [.rw _ _]=>none|some [.mp _ _]=>none|some [.tup _]=>none|o=>o
def wD(k:EK)(x:Ty k)(o:Nat)(vs:List V):Option (Ty k):=dec k (((enc k x).take o++vs.map V.weak)++(enc k x).drop (o+vs.length))
def St.rowW(s:St)(id:Nat):Option ((k:EK)×List (Ty k)):=match s.hp.getD id none with|some [.rw k xs]=>some ⟨k,xs⟩|_=>none
def St.row(s:St)(id:Nat):Option (List UInt8):=match s.hp.getD id none with|some [.rb xs]=>some xs|_=>none
structure Hol where
 k:EK
 xs:List (Ty k)
 k2:EK
 id2:Nat
 n2:Nat
 i:Nat
 o:Nat
def St.rowH(s:St)(id:Nat):Option Hol:=match s.hp.getD id none with|some [.tup [.rw k xs,.sw c a b,.wp _ _ i o]]=>some ⟨k,xs,c,a,b,i,o⟩|_=>none
def St.mapO(s:St)(id:Nat):Option ((k:MK)×List (k.K×k.T)):=match s.hp.getD id none with|some [.mp k es]=>some ⟨k,es⟩|_=>none
def St.setObj(s:St)(id:Nat)(cs:List V):St:={s with hp:=s.hp.set id (some cs)}
def d6(agg:Bool)(cs:List V):V:=if agg then .agg (cs.map disown) else cs.headD .undef
abbrev av:=Nat->List V->List ai->Option (Bool×V×List ai)
def St.setO(s:St)(d:Option Nat)(v:V):St:=match d with|some d=>s.set d v|none=>s
def amr(t:Bool)(a b:V):V:=
 match a,b with
 | .bool x,.bool y=>.bool (cond t x y)
 | .int k x,.int k' y=>if k=k' then .int k (cond t x y) else cond t (.int k x) (.int k' y)
 | .str x,.str y=>.str (cond t x y)
 |a,b=>cond t a b
theorem arI(t:Bool)(a b:V):amr t a b=cond t a b:=by
 unfold amr;split;·cases t<;>rfl
 ·split;·rename_i h;subst h;cases t<;>rfl
  ·rfl
 ·cases t<;>rfl
 ·rfl
def arJ(k:EK)(v:V)(a b:Option V):Option (Bool×V):=match v with
 | .sw k' id n=>if k'=k then (xk n a b).map λe=>(e.1,match a with|none=>.sw k' id e.2.2|some _=>.sx k' id e.2.1 (e.2.2-e.2.1)) else none
 |_=>none
def aj2(hp:List ai)(k:EK)(x y:V):Option (Bool×V×Nat×V):=match x,y with
 | .sw e id n,.sx d c a b=>match St.rowW ⟨[],hp⟩ id with
   |some ⟨k',xs⟩=>if e=k'∧(d=k'∧(k=k'∧c=id)) then some (decide (n<=a)&&decide (a+b<=xs.length),.sw k' id (n+b),id,.rw k' (xs.take n++(xs.drop a).take b)) else none
   |none=>none
 |_,_=>none
def step(Γ:av)(o:IOp)(s:St):Option (Bool×St):=
 match o with
 | .mov d x=>some (true,(x.after s).set d (x.ev s))
 | .pick d c a b=>match c.ev s with| .bool t=>some (true,s.set d (amr t (disown (a.ev s)) (disown (b.ev s))))|_=>none
 | .bin d o x y=>(arH o (x.ev s) (y.ev s)).map λ(c,v)=>(c,s.set d v)
 | .un d o x=>(unV o (x.ev s)).map λv=>(true,s.set d v)
 | .cvi d k x=>match x.ev s with| .int _ n=>some (true,s.set d (.int k (k.wrap n)))|_=>none
 | .b2s d x=>match x.ev s with| .sl .u8 _ l=>some (true,s.set d (.str l))|_=>none
 | .lens d x=>match x.ev s with| .str l=>some (true,s.set d (.int .i64 l.length))|_=>none
 | .lenl d x=>match x.ev s with| .sl _ _ l=>some (true,s.set d (.int .i64 l.length))|_=>none
 | .lnw d x=>match x.ev s with| .hd n=>some (true,s.set d (.int .i64 n))| .sw _ _ n=>some (true,s.set d (.int .i64 n))|_=>none
 | .apu d k x y=>match x.ev s,y.ev s with
   | .ul k' l,.sl g _ m=>if k'=k then if h:g=k' then some (decide ((l.length+m.length)*k'.bytes<=tT),(x.after s).set d (.ul k' (l++(h▸m)))) else none else none
   |_,_=>none
 | .slw d k x w j=>(arJ k (x.ev s) (eK s w) (eK s j)).map λp=>(p.1,s.set d p.2)
 | .apx d k x y=>(aj2 s.hp k (x.ev s) (y.ev s)).map λp=>(p.1,(s.setObj p.2.2.1 [p.2.2.2]).set d p.2.1)
 | .blu d k=>some (true,s.set d (.ul k []))
 | .snil d x=>match x.ev s with| .sl _ _ xs=>some (decide (0<xs.length),s.set d (.bool false))|_=>none
 | .ixw d k x i=>match x.ev s,i.ev s with
   | .sw k' id n,.int _ i=>if k'=k then some (decide (0<=i)&&decide (i<n),s.set d (.wp id k' i.toNat 0)) else none
   |_,_=>none
 | .fdw d e x=>match x.ev s with| .wp id k i o=>some (true,s.set d (.wp id k i (o+e)))|_=>none
 | .ldw d n agg x=>match x.ev s with
   | .wp id k i o=>match s.rowW id with
     |some ⟨k',xs⟩=>if k'=k∧o+n<=k'.sz then some (decide (i<xs.length),s.set d (disown (d6 agg (((enc k' (xs.getD i (am k'))).drop o).take n)))) else none
     |none=>none
   |_=>none
 | .stw d n x v=>match x.ev s with
   | .wp id k i o=>match s.rowW id with
     |some ⟨k',xs⟩=>if k'=k∧(o+n<=k'.sz∧((v.ev s).cells.length==n&&(v.ev s).cells.all V.one)=true) then
       match wD k' (xs.getD i (am k')) o (v.ev s).cells with
       |some G=>some (decide (i<xs.length),(s.setObj id [.rw k' (xs.set i G)]).setO d .undef)
       |none=>none
      else none
     |none=>none
   |_=>none
 | .idx d x i=>match x.ev s,i.ev s with
   | .str l,.int _ i=>some (decide (0<=i)&&decide (i<l.length),s.set d (.int .u8 (l.getD i.toNat 0).toNat))
   |_,_=>none
 | .ixa d k x i=>match x.ev s,i.ev s with
   | .sl k' _ l,.int _ i=>if k'=k then some (decide (0<=i)&&decide (i<l.length),s.set d (.ea (enc k' (l.getD i.toNat (am k'))))) else none
   |_,_=>none
 | .subs d x w j=>match x.ev s with
   | .str l=>(xk l.length (eK s w) (eK s j)).map λ(c,a,b)=>(c,s.set d (.str ((l.take b).drop a)))
   |_=>none
 | .subl d k x w j=>match x.ev s with
   | .sl k' _ l=>if k'=k then (xk l.length (eK s w) (eK s j)).map λ(c,a,b)=>(c,s.set d (.sl k' (.may false) ((l.take b).drop a))) else none
   |_=>none
 | .bsl d k D u=>(abe k (D.map (·.ev s))).map λl=>(true,s.set d (.sl k (cond u (.may true) .own) l))
 | .bld d zero D=>(lay zero (D.map λ(e,n,x)=>(e,n,x.ev s))).map λcs=>(true,s.set d (.agg cs))
 | .new d zero=>some (true,{s.set d (.ptr s.hp.length 0) with hp:=s.hp++[some zero]})
 | .box d x=>match x.ev s with
   | .agg cs=>some (true,{s.set d (.ptr s.hp.length 0) with hp:=s.hp++[some cs]})
   |v=>if v.one then some (true,{s.set d (.ptr s.hp.length 0) with hp:=s.hp++[some [disown v]]}) else none
 | .fad d e x=>match x.ev s with
   | .ea cs=>some (true,s.set d (.ea (cs.drop e)))
   | .ptr id o=>some (true,s.set d (.ptr id (o+e)))
   |_=>none
 | .ld d n agg A x=>match x.ev s with
   | .ea cs=>if n<=cs.length then some (true,s.set d (disown (d6 agg (cs.take n)))) else none
   | .ptr id o=>match s.obj id with
     |some cs=>if o+n<=cs.length then
       (if A then (if xj (cs.getD o .undef) then some (true,(s.setObj id (cs.set o (disown (cs.getD o .undef)))).set d (d6 agg ((cs.drop o).take n))) else none)
       else some (true,s.set d (disown (d6 agg ((cs.drop o).take n)))))
      else none
     |none=>none
   |_=>none
 | .st d n x v=>match x.ev s with
   | .ptr id o=>match s.obj id with
     |some cs=>if ((v.ev s).cells.length==n&&(v.ev s).cells.all V.one)&&(decide (o+n<=cs.length)&&(v.ev s).cells.all xj) then
       some (true,((v.after s).setObj id (cs.take o++(v.ev s).cells++cs.drop (o+n))).setO d .undef) else none
     |none=>none
   |_=>none
 | .app d k x y=>match x.ev s,y.ev s with
   | .sl k' o l,.sl g _ m=>
     if k'=k then
      if h:g=k' then some (o.app m.length&&decide ((l.length+m.length)*k'.bytes<=tT),(x.after s).set d (.sl k' .own (l++(h▸m)))) else none
     else none
   |_,_=>none
 | .ext d i x=>match x.ev s with
   | .tup vs=>if i<vs.length then some (true,s.set d (disown (vs.getD i .undef))) else none
   |_=>none
 | .nck d x=>match x.ev s with
   | .ptr id o=>some (true,s.setO d (.ptr id o))
   | .ea cs=>some (true,s.setO d (.ea cs))
   | .wp id k i o=>some (true,s.setO d (.wp id k i o))
   |_=>none
 | .call d f avs=>match Γ f (avs.map λx=>disown (x.ev s)) s.hp with
   |some (c,v,hp)=>some (c,{s with hp:=hp}.setO d v)
   |none=>none
 | .beq d C x y=>match x.ev s,y.ev s with
   | .bool p,.bool q=>some (true,s.set d (.bool (cond C (!(p==q)) (p==q))))
   |_,_=>none
 | .alr d n=>some (true,s.set d (.raw n))
 | .frz d r n v=>match s.get r with
   | .raw m=>if As m n&&((v.ev s).cells.length==n&&(v.ev s).cells.all V.one) then some (true,(s.set r (.ea ((v.ev s).cells.map disown))).setO d .undef) else none
   |_=>none
 | .lde d n agg x=>match x.ev s with
   | .ea cs=>if n<=cs.length then some (true,s.set d (disown (d6 agg (cs.take n)))) else none
   |_=>none
 | .boxe d x=>match x.ev s with
   | .agg cs=>some (true,s.set d (.ea (cs.map disown)))
   |v=>if v.one then some (true,s.set d (.ea [disown v])) else none
 | .mkf d f lc=>some (true,s.set d (.fn f (lc.map λx=>disown (x.ev s))))
 | .dcall d f x B=>match x.ev s with
   | .fn H lc=>match Γ f (B.map (λy=>disown (y.ev s))++lc.map disown) s.hp with
     |some (c,v,hp)=>some (As H f&&c,{s with hp:=hp}.setO d v)
     |none=>none
   |_=>none
 | .mkm d k=>some (true,{s.set d (.mr s.hp.length) with hp:=s.hp++[some [.mp k []]]})
 | .mget d k E x y=>match x.ev s with
   | .nilm=>(k.dkey (y.ev s)).map λ_=>(true,s.set d (aeN k E none))
   | .mr id=>match s.mapO id with
     |some ⟨k',es⟩=>if k'=k then (k'.dkey (y.ev s)).map λkey=>(true,s.set d (aeN k' E (aX es key))) else none
     |none=>none
   |_=>none
 | .mput d k x y z=>match x.ev s with
   | .mr id=>match s.mapO id with
     |some ⟨k',es⟩=>if k'=k then
       match k'.dkey (y.ev s),k'.dval (z.ev s) with
       |some key,some v=>some (true,(s.setObj id [.mp k' (cm es key v)]).setO d .undef)
       |_,_=>none
      else none
     |none=>none
   |_=>none
 | .apo d k x y=>match x.ev s,y.ev s with
   | .ul k' l,.sl g _ m=>if k'=k then if h:g=k' then if d<s.env.length then some (decide ((l.length+m.length)*k'.bytes<=tT)&&decide (0<(l++(h▸m)).length),{(x.after s).set d (.sw k' s.hp.length (l++(h▸m)).length) with hp:=s.hp++[some [.rw k' (l++(h▸m))],none]}) else none else none else none
   |_,_=>none
 | .mx d F x y=>match x.ev s,y.ev s with
   | .int k a,.int k' b=>if k=k' then some (true,s.set d (.int k (if F then (if b<a then b else a) else (if a<b then b else a)))) else none
   |_,_=>none
def IOp.dst:IOp->Option Nat
 | .mov d _| .pick d .. | .bin d .. | .un d .. | .cvi d .. | .b2s d _| .lens d _| .lenl d _| .idx d .. | .ixa d .. | .subs d .. | .subl d .. | .bsl d ..
 | .bld d .. | .new d _| .box d _| .fad d .. | .ld d .. | .app d .. | .ext d .. | .mx d .. | .beq d .. | .boxe d .. | .mkf d .. | .alr d _| .lde d .. | .apu d .. | .slw d .. | .apx d .. | .blu d _| .snil d _| .lnw d _| .ixw d .. | .fdw d .. | .ldw d .. | .mkm d _| .mget d .. | .apo d ..=>some d
 | .st d .. | .nck d _| .call d .. | .dcall d .. | .frz d .. | .stw d .. | .mput d ..=>d
def ixl{α:Type}(n:Int)(l:List α):Bool:=decide (0<=n)&&decide (n<↑(Aa l))
def chk{R:Type}(c:Bool)(x:Option R):Option R:=match c with|true=>x|false=>none
def V.cellsA:V->List V
 | .agg cs=>cs
 |v=>[v]
def V.id1:V->List Nat
 | .ptr id _=>[id]
 | .sw _ id _=>[id]
 | .sx _ id _ _=>[id]
 |_=>[]
def rJ(vs:List V):List Nat:=vs.flatMap λv=>v.cellsA.flatMap V.id1
def eZ:List V->List Nat
 | []=>[]
 | .ptr i 0::vs=>i::eZ vs
 |_::vs=>eZ vs
def apk(l:List Nat):List Nat:=l.flatMap λi=>A8 (i+1)
def V.ea1:V->List Nat
 | .ea [.ptr i _]=>[i]
 |_=>[]
def V.mr1:V->List Nat
 | .mr i=>[i]
 |_=>[]
def V.pm1:V->List Nat
 | .ptr i _=>[i]
 | .mr i=>[i]
 |_=>[]
def asE(vs:List V):List Nat:=vs.flatMap λv=>match v with| .fn _ cs=>cs.flatMap V.ea1|v=>v.ea1
def asF(vs:List V):List Nat:=vs.flatMap λv=>match v with| .fn _ cs=>cs.flatMap V.pm1|v=>v.mr1
def abf(vs:List V):List Nat:=apk (rJ vs++asE vs)++asF vs
def tU(vs:List V):List Nat:=apk (eZ vs++asE vs)++asF vs
def IOp.foot(o:IOp)(s:St):Option (List Nat×List Nat):=
 match o with
 | .ld _ _ _ a x=>match x.ev s with
   | .ptr id _=>some (cond a ([],[id]) ([id],[]))
   | .ea _=>some ([],[])
   |_=>none
 | .st _ _ x _=>match x.ev s with| .ptr id _=>some ([],[id])|_=>none
 | .call _ _ avs=>some (abf (avs.map λx=>disown (x.ev s)),tU (avs.map λx=>disown (x.ev s)))
 | .ldw _ _ _ x=>match x.ev s with| .wp id _ _ _=>some ([id],[])|_=>none
 | .stw _ _ x _=>match x.ev s with| .wp id _ _ _=>some ([],[id])|_=>none
 | .apx _ _ x _=>match x.ev s with| .sw _ id _=>some ([],[id])|_=>none
 |_=>none
def IOp.within(o:IOp)(l:List Nat×List Nat)(s:St):Bool:=match o.foot s with
 |some (r,w)=>r.all (λi=>l.1.any (As i)||l.2.any (As i))&&w.all (λi=>l.2.any (As i))
 |none=>false
def jf(Γ:av)(a:Option (List Nat×List Nat))(o:IOp)(s:St):Option (Bool×St):=match a with
 |none=>step Γ o s
 |some l=>cond (o.within l s) (step Γ o s) none
theorem mt{Γ:av}{b:Option (List Nat×List Nat)}{o:IOp}{s:St}{p:Bool×St}(h:jf Γ b o s=some p):step Γ o s=some p:=by
 unfold jf at h;split at h;·exact h
 ·rename_i l;cases a:o.within l s with
  |true=>rw[a] at h;exact h
  |false=>rw[a] at h;simp at h
def cq{R:Type}(Γ:av):List GOp->(St->Option R)->St->Option R
 | [],K,s=>K s
 |⟨none,o,a⟩::r,K,s=>match jf Γ a o s with
  |some (c,s')=>chk c (cq Γ r K s')
  |none=>none
 |⟨some (g,w),o,a⟩::r,K,s=>match s.get g with
  | .bool b=>cond b
    (match w with
     |true=>match jf Γ a o (s.set g (.bool true)) with
      |some (c,s')=>chk c (cq Γ r K s')
      |none=>none
     |false=>cq Γ r K ((s.set g (.bool true)).setO o.dst (.tup [])))
    (match w with
     |false=>match jf Γ a o (s.set g (.bool false)) with
      |some (c,s')=>chk c (cq Γ r K s')
      |none=>none
     |true=>cq Γ r K ((s.set g (.bool false)).setO o.dst (.tup [])))
  | .tup []=>cq Γ r K (s.setO o.dst (.tup []))
  |_=>none
inductive Occ where
 |slot (n:Nat)
 |cell (id j:Nat)
 |res
 deriving DecidableEq
inductive eV where
 |opn (o:Occ)
 |cls (o:Occ)
 |fz (o:Occ)
 |hol (n:Nat)
 |isf (d g:Nat) (cs:List V)
def St.at?(s:St):Occ->V
 | .slot n=>s.get n
 | .cell id j=>match s.obj id with|some cs=>cs.getD j .undef|none=>.undef
 | .res=>.undef
def St.put?(s:St)(o:Occ)(v:V):St:=match o with
 | .slot n=>s.set n v
 | .cell id j=>match s.obj id with|some cs=>s.setObj id (cs.set j v)|none=>s
 | .res=>s
def yy:List V->List V->Bool
 | [],[]=>true
 | .ptr i o::l,.ptr j q::m=>As i j&&(As o q&&yy l m)
 | .ea [.ptr i o]::l,.ea [.ptr j q]::m=>As i j&&(As o q&&yy l m)
 |_,_=>false
def eV.step(a:eV)(s:St):Option (Bool×St):=match a with
 | .opn o=>match s.at? o with
   | .ul k xs=>some (decide (0<xs.length),{s.put? o (.sw k s.hp.length xs.length) with hp:=(s.put? o (.sw k s.hp.length xs.length)).hp++[some [.rw k xs],none]})
   |_=>some (true,s)
 | .cls o=>match s.at? o with
   | .sw k id n=>match s.rowW id with
     |some ⟨k',xs⟩=>if k'=k then some (As n xs.length,{s.put? o (.ul k' xs) with hp:=(s.put? o (.ul k' xs)).hp.set id none}) else none
     |none=>none
   |_=>some (true,s)
 | .fz o=>match s.at? o with
   | .ul k xs=>some (true,s.put? o (.sl k .own xs))
   |_=>some (true,s)
 | .hol n=>match s.get n with
   | .sw _ id _=>match s.rowH id with
     |some h=>match s.rowW h.id2 with
      |some ⟨b,ys⟩=>if b=h.k2 then
        match wD h.k (h.xs.getD h.i (am h.k)) h.o [.sl b (.may false) ys] with
        |some e=>some (As h.n2 ys.length&&decide (h.i<h.xs.length),{s with hp:=(s.hp.set id (some [.rw h.k (h.xs.set h.i e)])).set h.id2 none})
        |none=>none
       else none
      |none=>none
     |none=>none
   |_=>none
 | .isf d g cs=>match s.get d with
   | .fn c lc=>some (As c g&&yy lc cs,s)
   |_=>none
def apl(s:St)(o:Occ):Bool:=match s.at? o with| .ul _ xs=>xs.isEmpty|_=>true
def WX:Nat:=3000000
def EK.soft:EK->Bool
 | .u8| .num _| .str| .bool| .jnode| .afield=>true
 |_=>false
def EK.hard:EK->Bool
 | .u8| .num _| .str| .bool=>true
 |_=>false
def EK.softE:EK->Bool
 | .atype=>true
 |k=>k.soft
def V.cellS:V->Bool
 | .int .. | .bool _| .str _| .nilp=>true
 | .sl .jnode (.may false) _| .sl .str (.may false) _=>true
 |_=>false
def V.soft1:V->Bool
 | .undef| .bool _| .int .. | .str _| .ptr .. | .nilp| .nilif| .hd .. | .sw .. | .wp .. | .mr _| .nilm| .raw _=>true
 | .sl k (.may _) _=>k.soft
 |_=>false
def V.soft:V->Bool
 | .agg cs| .tup cs=>cs.all V.soft1
 | .ea cs=>cs.all V.cellS
 |v=>v.soft1
def apm:ai->Bool
 |none=>true
 |some [.mp _ _]=>true
 |some [.rw k _]=>k.softE
 |some cs=>cs.all λc=>match c with
  | .ul k _=>k.softE
  |c=>c.soft1
def apn(s:St):Bool:=s.env.all V.soft&&s.hp.all apm
def asG(cs:List V):Bool:=cs.all (λc=>match c with| .int .u8 _=>false|c=>c.cellS)&&cs.any λc=>match c with| .sl .. =>true|_=>false
def V.hard1:V->Bool
 | .undef| .bool _| .int .. | .str _| .nilp| .nilif| .ptr .. =>true
 | .sl .jnode (.may false) _=>true
 | .sl k (.may _) _=>k.hard
 |_=>false
def V.hard:V->Bool
 | .agg cs=>cs.all V.hard1
 | .ea cs=>cs.all V.cellS
 |v=>v.hard1
def V.harden(v:V):V:=match v.hard with|true=>v|false=>.undef
def asH:ai->Bool
 |none=>true
 |some cs=>cs.all λc=>c.hard&&c.one
def aiz(a b:List V):Bool:= @decide (a=b) (Co _)
def yt(o:ai):ai:=match asH o with|true=>o|false=>none
inductive WOp where
 |ste (n:Nat) (x v:aw)
 |call (d f:Nat) (args:List aw)
def WOp.step(Γ:av)(o:WOp)(s:St):Option (Bool×St):=match o with
 | .ste n x v=>match x.ev s with
   | .ea cs=>some (BV n cs.length&&(aiz ((v.ev s).cells.map disown) (cs.take n)&&(asG (cs.take n)&&apn s)),s)
   |_=>none
 | .call d f avs=>match Γ (WX+f) (avs.map λx=>disown (x.ev s)) [] with
   |some (c,v,_)=>some (c,⟨(s.env.map V.harden).set d v,s.hp.map yt⟩)
   |none=>none
inductive IR where
 |skip
 |bad
 |reg (ops:List GOp) (pre:List (List Nat))
 |rgs (l:List (List eV×List GOp))
 |wk (l:List GOp) (pre:List (List Nat)) (mid:List GOp) (o:WOp) (more:List GOp)
 |seq (a b:IR)
 |cond (c:aw) (a b:IR)
 |block (id:Nat) (a:IR)
 |loop (live:List Nat) (n:Nat) (a:IR)
 |cut (live:List Nat) (n:Nat) (a:IR)
 |gh (g:eV) (a:IR)
 |ope (o:Occ) (a:IR)
 |ghp (g:eV) (a:IR)
 |exit (id:Nat)
 |ret
inductive Ex where
 |normal
 |exit (id:Nat)
 |ret
mutual
def V.lower(n:Nat):V->Bool
 | .ptr id _=>B0 id n
 | .so id _=>B0 id n
 | .rw _ _=>false
 | .sw _ id _=>B0 (id+1) n
 | .sx _ id _ _=>B0 (id+1) n
 | .wp id _ _ _=>B0 (id+1) n
 | .mr id=>B0 id n
 | .agg cs=>V.lowers n cs
 | .tup cs=>V.lowers n cs
 | .ea cs=>V.lowers n cs
 | .fn _ cs=>V.lowers n cs
 |_=>true
def V.lowers(n:Nat):List V->Bool
 | []=>true
 |v::r=>V.lower n v&&V.lowers n r
end
def qi(a:List Nat)(n:Nat):Nat->List V->List V
 |_,[]=>[]
 |i,v::r=>(if a.elem i&&v.lower n then v else .undef)::qi a n (i+1) r
def ol(n:Nat):List ai->Bool
 | []=>true
 |none::r=>ol n r
 |some cs::r=>V.lowers n cs&&ol n r
def St.keep(s:St)(a:List Nat)(n:Nat):St:={env:=qi a n 0 s.env,hp:=cond (ol n (s.hp.take n)) (s.hp.take n) s.hp}
def bg{R:Type}:Nat->((St->Option R)->St->Option R)->St->Option R
 |0,_,_=>none
 |n+1,F,s=>F (bg n F) s
def bR{R:Type}(b:(Ex->St->Option R)->St->Option R)(K:Ex->St->Option R):Ex->St->Option R
 | .normal,s=>b K s
 |e,s=>K e s
def aG{R:Type}(id:Nat)(K:Ex->St->Option R):Ex->St->Option R
 | .exit j,s=>cond (As j id) (K .normal s) (K (.exit j) s)
 |e,s=>K e s
def ce{R:Type}(a:St->Option R)(b:List Nat)(n:Nat)(K:Ex->St->Option R):Ex->St->Option R
 | .normal,s=>a (s.keep b n)
 |e,s=>K e s
def tV{R:Type}(g:eV)(K:Ex->St->Option R):Ex->St->Option R
 | .normal,s=>match g.step s with
   |some (c,s')=>chk c (K .normal s')
   |none=>none
 |e,s=>K e s
def agw{R:Type}:List eV->(St->Option R)->St->Option R
 | [],K,s=>K s
 |a::l,K,s=>match a.step s with
  |some (c,s')=>chk c (agw l K s')
  |none=>none
def abg{R:Type}(Γ:av):List (List eV×List GOp)->(St->Option R)->St->Option R
 | [],K,s=>K s
 |x::l,K,s=>agw x.1 (λs=>cq Γ x.2 (abg Γ l K) s) s
def run{R:Type}(Γ:av)(n:Nat):IR->(Ex->St->Option R)->St->Option R
 | .skip,K,s=>K .normal s
 | .bad,_,_=>none
 | .reg f _,K,s=>cq Γ f (K .normal) s
 | .rgs l,K,s=>abg Γ l (K .normal) s
 | .wk l _ h o more,K,s=>cq Γ l (cq Γ h λs=>match o.step Γ s with|some (c,s')=>chk c (cq Γ more (K .normal) s')|none=>none) s
 | .seq a b,K,s=>run Γ n a (bR (run Γ n b) K) s
 | .cond c a b,K,s=>match c.ev s with
   | .bool t=>cond t (run Γ n a K (c.fix s true)) (run Γ n b K (c.fix s false))
   |_=>none
 | .block id a,K,s=>run Γ n a (aG id K) s
 | .loop d m a,K,s=>bg n (λe s=>run Γ n a (ce e d m K) s) (s.keep d m)
 | .cut d m a,K,s=>run Γ n a K (s.keep d m)
 | .gh g a,K,s=>match g.step s with
   |some (c,s')=>chk c (run Γ n a K s')
   |none=>none
 | .ope o a,K,s=>cond (apl s o) (match (eV.fz o).step s with
   |some (c,s')=>chk c (run Γ n a K s')
   |none=>none) (match (eV.opn o).step s with
   |some (c,s')=>chk c (run Γ n a K s')
   |none=>none)
 | .ghp g a,K,s=>run Γ n a (tV g K) s
 | .exit id,K,s=>K (.exit id) s
 | .ret,K,s=>K .ret s
def aO{α R:Type}:Nat->((α->Option R)->α->Option R)->α->Option R
 |0,_,_=>none
 |n+1,B,x=>B (aO n B) x
theorem bz{α R:Type}(b:α->St)(F:(St->Option R)->St->Option R)(B:(α->Option R)->α->Option R)
  (h:∀a x,F a (b x)=B (λy=>a (b y)) x):∀m x,bg m F (b x)=aO m B x
 |0,_=>rfl
 |m+1,x=>by
  show F (bg m F) (b x)=B (aO m B) x;rw[h]
  congr 1
  funext y;exact bz b F B h m y
inductive RV where
 |t (n:Nat)
 |cell (n size:Nat) (agg:Bool)
def RV.ev(s:St):RV->Option V
 | .t n=>some (s.get n)
 | .cell n a agg=>match s.get n with
   | .ptr id o=>match s.obj id with
     |some cs=>if o+a<=cs.length then some (disown (d6 agg ((cs.drop o).take a))) else none
     |none=>none
   | .ea cs=>if a<=cs.length then some (disown (d6 agg (cs.take a))) else none
   |_=>none
def rvs(s:St):List RV->Option (List V)
 | []=>some []
 |r::l=>match r.ev s,rvs s l with|some v,some vs=>some (v::vs)|_,_=>none
def sQ(s:St)(a:List RV):Option V:=
 match rvs s a with
 |some [v]=>some v
 |some vs=>some (.tup (vs.map disown))
 |none=>none
def fin(a:List RV):Ex->St->Option (V×List ai)
 | .normal,s| .ret,s=>(sQ s a).map λv=>(v,s.hp)
 |_,_=>none
def start(b:Nat)(a:List V)(hp:List ai):St:={env:=a++List.replicate (b-a.length) .undef,hp}
def wt(Γ:av)(n a:Nat)(d:List RV)(b:IR)(c:List V)(hp:List ai):Option (V×List ai):=
 run Γ n b (fin d) (start a c hp)
def Zed:Prop:=True
structure Gh where
 I:Nat->Nat->Prop
 ρ:Nat->Nat
 O:Nat->Option Occ
 β:Nat
def d7(c:V)(cv:Value):Prop:=
 match c,cv with
 | .sl _ .own _,.slice (some _) _ _=>False
 | .bn _ _,_=>False
 | .raw _,_=>False
 | .ul _ xs,cv=>xs.length=0∧cv=.slice none 0 0
 |_,_=>True
inductive VRel(I:Nat->Nat->Prop)(ρ:Nat->Nat)(N:Nat)(w:World):V->Value->Prop where
 |undef (cv:Value):VRel I ρ N w .undef cv
 |bool (b:Bool):VRel I ρ N w (.bool b) (.bool b)
 |int (k:IntKind) (n:Int) (h:k.min<=n∧n<=k.max):VRel I ρ N w (.int k n) (.int k n)
 |str (l:List UInt8) (s:ByteArray) (hl:s.data.toList=l) (h:s.size<=dl):VRel I ρ N w (.str l) (.string s)
 |sln (k:EK) (o:Fl):VRel I ρ N w (.sl k o []) (.slice none 0 0)
 |sle (k:EK) (o:Fl) (ad:Addr) (ho:o≠.own):VRel I ρ N w (.sl k o []) (.slice (some ad) 0 0)
 |sl (k:EK) (o:Fl) (xs:List (Ty k)) (b off len cap:Nat) (hl:xs.length=len) (hc:xs.length<=cap) (hm:cap<=dl) (hf:o=.may true->len=cap) (f:Nat->Nat->Value)
   (hI:∀i x j,xs[i]? =some x->j<(enc k x).length->I b (off+i*k.sz+j))
   (hw:∀i x j,xs[i]? =some x->j<(enc k x).length->w.cell? ⟨b,off+i*k.sz+j,none⟩=some (f i j))
   (hv:∀i x j v,xs[i]? =some x->(enc k x)[j]? =some v->VRel I ρ N w v (f i j)):
   VRel I ρ N w (.sl k o xs) (.slice (some ⟨b,off,none⟩) len cap)
 |agg (cs:List V) (vs:Array Value) (hl:cs.length=vs.size) (h1:∀c∈cs,c.one=true) (hb:∀(i:Nat) c cv,cs[i]? =some c->vs[i]? =some cv->d7 c cv)
   (hv:∀(i:Nat) c cv,cs[i]? =some c->vs[i]? =some cv->VRel I ρ N w c cv):VRel I ρ N w (.agg cs) (.agg vs)
 |tup (cs:List V) (vs:Array Value) (hl:cs.length=vs.size)
   (hv:∀(i:Nat) c cv,cs[i]? =some c->vs[i]? =some cv->VRel I ρ N w c cv):VRel I ρ N w (.tup cs) (.tuple vs)
 |ea (cs:List V) (b off:Nat) (f:Nat->Value) (h1:∀c∈cs,c.one=true)
   (hI:∀j,j<cs.length->I b (off+j))
   (hw:∀j,j<cs.length->w.cell? ⟨b,off+j,none⟩=some (f j))
   (hv:∀(j:Nat) c,cs[j]? =some c->VRel I ρ N w c (f j)):VRel I ρ N w (.ea cs) (.pointer (some ⟨b,off,none⟩))
 |ptr (id off:Nat) (h:id<N):VRel I ρ N w (.ptr id off) (.pointer (some ⟨ρ id,off,none⟩))
 |nilp:VRel I ρ N w .nilp (.pointer none)
 |fn (f:Nat) (cs:List V) (vs:Array Value) (hl:cs.length=vs.size)
   (hv:∀(i:Nat) c cv,cs[i]? =some c->vs[i]? =some cv->VRel I ρ N w c cv):VRel I ρ N w (.fn f cs) (.func (.func f) #[] vs)
 |nilif:VRel I ρ N w .nilif .nilIface
 |bn (E n:Nat) (p:Option Addr):VRel I ρ N w (.bn E n) (.pointer p)
 |junk (cv:Value) (h:cv.oneCell'=true):VRel I ρ N w .junk cv
 |so (id n cap:Nat) (h:id<N) (hc:n<=cap) (hm:cap<=dl):VRel I ρ N w (.so id n) (.slice (some ⟨ρ id,0,none⟩) n cap)
 |raw (n b:Nat):VRel I ρ N w (.raw n) (.pointer (some ⟨b,0,none⟩))
 |ul (k:EK) (xs:List (Ty k)) (ad:Option Addr) (cap:Nat) (hm:xs.length<=dl):VRel I ρ N w (.ul k xs) (.slice ad xs.length cap)
 |hd (n:Nat) (ad:Option Addr) (cap:Nat) (hm:n<=dl):VRel I ρ N w (.hd n) (.slice ad n cap)
 |sw (k:EK) (id n:Nat) (h:id+1<N) (hc:n<=ρ (id+1)) (hm:ρ (id+1)<=dl):VRel I ρ N w (.sw k id n) (.slice (some ⟨ρ id,0,none⟩) n (ρ (id+1)))
 |sx (k:EK) (id off n ad cap:Nat) (h:id+1<N) (hc:off+n<=ρ (id+1)) (hm:ρ (id+1)<=dl) (hl:n<=cap) (ha:0<n->ad=off*k.sz):VRel I ρ N w (.sx k id off n) (.slice (some ⟨ρ id,ad,none⟩) n cap)
 |wp (id:Nat) (k:EK) (i o:Nat) (h:id+1<N):VRel I ρ N w (.wp id k i o) (.pointer (some ⟨ρ id,i*k.sz+o,none⟩))
 |mr (id:Nat) (h:id<N):VRel I ρ N w (.mr id) (.map (some (ρ id)))
 |nilm:VRel I ρ N w .nilm (.map none)
structure Up(I:Nat->Nat->Prop)(ρ:Nat->Nat)(N:Nat)(w:World)(I':Nat->Nat->Prop)(ρ':Nat->Nat)(N':Nat)(w':World):Prop where
 mono:∀b j,I b j->I' b j
 cell:∀b j,I b j->w'.cell? ⟨b,j,none⟩=w.cell? ⟨b,j,none⟩
 rho:∀id,id<N->ρ' id=ρ id
 num:N<=N'
theorem Up.refl(I:Nat->Nat->Prop)(ρ:Nat->Nat)(N:Nat)(w:World):Up I ρ N w I ρ N w:=⟨λ_ _ h=>h,λ_ _ _=>rfl,λ_ _=>rfl,Am _⟩
theorem Up.trans{I I' c:Nat->Nat->Prop}{ρ ρ' a:Nat->Nat}{N N' d:Nat}{w w' e:World}(h:Up I ρ N w I' ρ' N' w')(k:Up I' ρ' N' w' c a d e):
  Up I ρ N w c a d e:=
 ⟨λb j f=>k.mono b j (h.mono b j f),λb j f=>(k.cell b j (h.mono b j f)).trans (h.cell b j f),
  λid hid=>(k.rho id (AC hid h.num)).trans (h.rho id hid),AH h.num k.num⟩
theorem VRel.up{I I':Nat->Nat->Prop}{ρ ρ':Nat->Nat}{N N':Nat}{w w':World}(u:Up I ρ N w I' ρ' N' w'){v:V}{cv:Value}(h:VRel I ρ N w v cv):
  VRel I' ρ' N' w' v cv:=by
 induction h with
 |undef cv=>exact .undef cv
 |bool b=>exact .bool b
 |int k n h=>exact .int k n h
 |str l s d h=>exact .str l s d h
 |sln k o=>exact .sln k o
 |sle k o q F=>exact .sle k o q F
 |sl k o xs b a B cap d r c H f t D y g=>exact .sl k o xs b a B cap d r c H f (λi x j m A=>u.mono _ _ (t i x j m A)) (λi x j m A=>(u.cell _ _ (t i x j m A)).trans (D i x j m A)) g
 |agg cs vs d m G y g=>exact .agg cs vs d m G g
 |tup cs vs d y g=>exact .tup cs vs d g
 |ea cs b a f m t D y g=>exact .ea cs b a f m (λj h=>u.mono _ _ (t j h)) (λj h=>(u.cell _ _ (t j h)).trans (D j h)) g
 |ptr id a h=>rw[<-u.rho id h];exact .ptr id a (AC h u.num)
 |nilp=>exact .nilp
 |fn f cs vs d y g=>exact .fn f cs vs d g
 |nilif=>exact .nilif
 |bn E n p=>exact .bn E n p
 |junk cv h=>exact .junk cv h
 |so id n cap h r c=>rw[<-u.rho id h];exact .so id n cap (AC h u.num) r c
 |raw n b=>exact .raw n b
 |ul k xs q cap c=>exact .ul k xs q cap c
 |hd n q cap c=>exact .hd n q cap c
 |sw k id n h r c=>have e:=u.rho (id+1) h;have C:id+1<N':=AC h u.num;rw[<-u.rho id (by omega),<-e];exact .sw k id n C (by rw[e];exact r) (by rw[e];exact c)
 |sx k id a n q cap h r c d J=>have e:=u.rho (id+1) h;have C:id+1<N':=AC h u.num;rw[<-u.rho id (by omega)];exact .sx k id a n q cap C (by rw[e];exact r) (by rw[e];exact c) d J
 |wp id k i o h=>rw[<-u.rho id (by omega)];exact .wp id k i o (AC h u.num)
 |mr id h=>rw[<-u.rho id h];exact .mr id (AC h u.num)
 |nilm=>exact .nilm
section
variable{I:Nat->Nat->Prop}{ρ:Nat->Nat}{N:Nat}{w:World}
theorem VRel.own{k:EK}{o o':Fl}{xs:List (Ty k)}{cv:Value}(h:VRel I ρ N w (.sl k o xs) cv)(m:o'=.may true->o=.may true)(d:o'≠.own):VRel I ρ N w (.sl k o' xs) cv:=by
 cases h with
 |sln=>exact .sln _ _
 |sle _ _ g _=>exact .sle _ _ g d
 |sl _ _ _ b a c cap i r t j f e p q=>exact .sl k o' xs b a c cap i r t (λh=>j (m h)) f e p q
theorem VRel.disown{v:V}{cv:Value}(h:VRel I ρ N w v cv):VRel I ρ N w (disown v) cv:=by cases v<;>simp only[AM.disown]<;>first|exact h|exact h.own (by rename_i o _;cases o<;>simp[Fl.dis]) (by rename_i o _;cases o<;>simp[Fl.dis])|(cases h;exact .junk _ rfl)|(cases h;rename_i a;exact .hd _ _ _ a)|exact .undef _
theorem acv(v:V)(cv:Value):d7 (AM.disown v) cv:=by
 cases v with
 |sl k o xs=>cases o<;>simp[AM.disown,d7,Fl.dis]
 |_=>simp[AM.disown,d7]
theorem mu(v:V):(disown v).one=v.one:=by cases v<;>rfl
theorem VRel.oneCell{v:V}{cv:Value}(h:VRel I ρ N w v cv)(a:v.one=true):cv.oneCell'=true:=by cases h<;>first|rfl|assumption|simp[V.one] at a
theorem s9(k:EK)(x:Ty k):∀c∈enc k x,c.one=true:=by cases k<;>simp[enc,V.one]
theorem bT(k:EK)(x:Ty k):(enc k x).length=k.sz:=by cases k<;>rfl
theorem VRel.weak{v:V}{cv:Value}(h:VRel I ρ N w v cv):VRel I ρ N w v.weak cv:=by cases v<;>simp only[V.weak]<;>first|exact h.own (by simp) (by simp)|exact h.disown
theorem VRel.full{k:EK}{xs:List (Ty k)}{a:Addr}{c cap:Nat}(h:VRel I ρ N w (.sl k (.may true) xs) (.slice (some a) c cap)):c=cap:=by
 cases h with
 |sle=>rfl
 |sl _ _ _ b d _ _ p o j e f g i m=>exact e rfl
theorem amy(k:EK)(x:Ty k):(enc k x).map V.weak=enc k x:=by cases k<;>rfl
def V.inRange:V->Prop
 | .int k n=>k.min<=n∧n<=k.max
 |_=>True
theorem VRel.inRange{v:V}{cv:Value}(h:VRel I ρ N w v cv):v.inRange:=by cases h<;>simp only[V.inRange]<;>assumption
theorem aj3{k:EK}{cs:List V}{x:Ty k}(h:dec k cs=some x)(a:∀c∈cs,c.inRange):enc k x=cs.map V.weak:=by
 unfold dec at h
 split at h<;>first
  |(cases Au h;rfl)
  |(cases Au h;simp[enc,V.weak,AM.disown];done)
  |(
    cases Au h;have:=a _ (Az.2 rfl);simp only[V.inRange,B2,BT,Bb,Bo] at this;simp[enc,V.weak,AM.disown] at this ⊢;omega)
  |exact absurd h (by simp)
end
def V.flat1:V->Bool
 | .bool _| .int _ _| .str _| .sl _ _ _| .nilp| .nilif| .fn _ []=>true
 |_=>false
section
variable{I:Nat->Nat->Prop}{ρ ρ':Nat->Nat}{N N':Nat}{w:World}
theorem acw(k:EK)(x:Ty k):∀c∈enc k x,c.flat1=true:=by cases k<;>simp[enc,V.flat1]
theorem VRel.flat1{v:V}{cv:Value}(h:VRel I ρ N w v cv):v.flat1=true->VRel I ρ' N' w v cv:=by
 induction h with
 |undef cv=>intro a;simp[V.flat1] at a
 |bool b=>intro _;exact .bool b
 |int k n h=>intro _;exact .int k n h
 |str l s d h=>intro _;exact .str l s d h
 |sln k o=>intro _;exact .sln k o
 |sle k o t u=>intro _;exact .sle k o t u
 |sl k o xs b e g cap d C A a f q y B m=>intro _;exact .sl k o xs b e g cap d C A a f q y (λi x j v r p=>m i x j v r p (acw k x v (Ai p)))
 |agg=>intro a;simp[V.flat1] at a
 |tup=>intro a;simp[V.flat1] at a
 |ea=>intro a;simp[V.flat1] at a
 |ptr=>intro a;simp[V.flat1] at a
 |nilp=>intro _;exact .nilp
 |fn f cs vs d B m=>
  intro a;cases cs with
  |nil=>exact .fn f [] vs d (by simp)
  |cons c cs=>simp[V.flat1] at a
 |nilif=>intro _;exact .nilif
 |bn=>intro a;simp[V.flat1] at a
 |junk=>intro a;simp[V.flat1] at a
 |so=>intro a;simp[V.flat1] at a
 |raw=>intro a;simp[V.flat1] at a
 |ul=>intro a;simp[V.flat1] at a
 |hd=>intro a;simp[V.flat1] at a
 |sw=>intro a;simp[V.flat1] at a
 |sx=>intro a;simp[V.flat1] at a
 |wp=>intro a;simp[V.flat1] at a
 |mr=>intro a;simp[V.flat1] at a
 |nilm=>intro a;simp[V.flat1] at a
end
def aeO(a:Nat×Nat)(n:Nat):Prop:=∀j,j<n->¬(a.1<=j∧j<a.2)
theorem asI(n:Nat):aeO (0,0) n:=by intro j _;simp
def aax(g:Gh)(w:World)(c:Occ)(k:EK)(xs:List (Ty k))(cv:Value):Prop:=
 (xs=[]∧cv=.slice none 0 0)∨
 ∃b cap a e d,aeO d a.size∧cv=.slice (some ⟨b,0,none⟩) xs.length cap∧xs.length<=cap∧cap<=dl∧g.O b=some c∧w.heap[b]? =some (.cells a e d)∧cap*k.sz<=a.size∧(k=.u8->e=g.β)∧
  (∀j,¬g.I b j)∧∀(i:Nat) x (j:Nat) v u,xs[i]? =some x->(enc k x)[j]? =some v->a[i*k.sz+j]? =some u->VRel g.I (λ_=>0) 0 w v u
def au(g:Gh)(w:World)(c:Occ)(v:V)(cv:Value):Prop:=
 match v,cv with
 | .sl k .own _,.slice (some a) d cap=>
   g.O a.block=some c∧(∃b e f,w.heap[a.block]? =some (.cells b e f)∧a.off+cap*k.sz<=b.size∧(k=.u8->e=g.β))∧
    ∀j,a.off+d*k.sz<=j->j<a.off+cap*k.sz->¬g.I a.block j∧w.frozen? ⟨a.block,j,none⟩=false
 | .raw n,.pointer (some a)=>g.O a.block=some c∧(∃b e,w.heap[a.block]? =some (.cells b e (0,0))∧b.size=n)∧∀j,¬g.I a.block j
 | .ul k xs,cv=>aax g w c k xs cv
 |_,_=>True
theorem aax.keep{g c:Gh}{w w':World}{a:Occ}{k:EK}{xs:List (Ty k)}{cv:Value}(h:aax g w a k xs cv)(o:c.β=g.β)
  (p:∀b j,g.I b j->c.I b j∧w'.cell? ⟨b,j,none⟩=w.cell? ⟨b,j,none⟩)
  (m:∀b,g.O b=some a->c.O b=some a∧w'.heap[b]? =w.heap[b]?∧∀j,c.I b j->g.I b j):aax c w' a k xs cv:=by
 rcases h with h|⟨b,cap,d,e,t,A,D,H,F,J,y,M,C,Q,r⟩
 ·exact .inl h
 ·obtain⟨B,E,G⟩:=m b J;refine .inr ⟨b,cap,d,e,t,A,D,H,F,B,E.trans y,M,λm=>(C m).trans o.symm,λj L=>Q j (G j L),λi x j v u q P R=>?_⟩;exact(r i x j v u q P R).up ⟨λb j f=>(p b j f).1,λb j f=>(p b j f).2,λ_ _=>rfl,Am _⟩
theorem b7{g i:Gh}{w w':World}{a:Occ}{v:V}{cv:Value}(h:au g w a v cv)
  (f:i.β=g.β) (B:∀b j,g.I b j->i.I b j∧w'.cell? ⟨b,j,none⟩=w.cell? ⟨b,j,none⟩)
  (d:∀b,g.O b=some a->i.O b=some a∧w'.heap[b]? =w.heap[b]?∧∀j,i.I b j->g.I b j):au i w' a v cv:=by
 unfold au at h ⊢;split;·rename_i k xs H F cap;obtain⟨r,⟨c,e,C,y,u,D⟩,A⟩:=h;obtain⟨q,m,x⟩:=d _ r;refine⟨q,⟨c,e,C,m.trans y,u,λd=>by rw[f];exact D d⟩,λj o t=>?_⟩;obtain⟨E,G⟩:=A j o t;refine⟨λp=>E (x j p),?_⟩;simpa [BA,m] using G
 ·obtain⟨r,⟨c,e,y,u⟩,A⟩:=h;obtain⟨q,m,x⟩:=d _ r;exact⟨q,⟨c,e,m.trans y,u⟩,λj p=>A j (x j p)⟩
 ·exact aax.keep h f B d
 ·trivial
theorem au.disown(g:Gh)(w:World)(a:Occ)(v:V)(cv:Value):au g w a (AM.disown v) cv:=by
 cases v with
 |sl k o xs=>cases o<;>simp[AM.disown,au,Fl.dis]
 |_=>simp only[AM.disown,au]
def cellsOf:List V->List V
 | [.rb xs]=>xs.map λb=>.int .u8 b.toNat
 | [.rw k xs]=>xs.flatMap (enc k)
 | [.tup [.rw k xs,.sw d a c,.wp _ _ i o]]=>(xs.flatMap (enc k)).set (i*k.sz+o) (.sw d a c)
 |cs=>cs
theorem eN{cs:List V}(h:dm cs=false):cellsOf cs=cs:=by
 unfold cellsOf;split;·simp[dm] at h
 ·simp[dm] at h
 ·simp[dm] at h
 ·rfl
theorem aqI{vs:List V}{j:Nat}{c:V}(b:(cellsOf [.tup vs])[j]? =some c)(h:c.one=true):(∃k x,c∈enc k x)∨∃g a f,vs.any (λv=>match v with| .sw k id n=>decide (k=g∧id=a∧n=f)|_=>false)=true∧c=.sw g a f:=by
 unfold cellsOf at b;split at b;·rename_i e;cases e
 ·rename_i e;cases e
 ·rename_i k xs g a f _ _ i o e;cases e;rw[AB] at b;split at b
  ·split at b;·obtain rfl:=Au b;exact .inr ⟨g,a,f,by simp,rfl⟩
   ·simp at b
  ·have d:=Ai b;simp only[AG] at d;obtain⟨y,_,d⟩:=d;exact .inl ⟨k,y,d⟩
 ·have d:=Ai b;simp only[Az] at d;subst d;simp[V.one] at h
def agx:List V->Option ((k:EK)×List (Ty k))
 | [.rw k xs]=>some ⟨k,xs⟩
 | [.tup [.rw k xs,.sw _ _ _,.wp _ _ _ _]]=>some ⟨k,xs⟩
 |_=>none
theorem jU{cs:List V}(h:dm cs=false):agx cs=none:=by
 unfold agx;split;·simp[dm] at h
 ·simp[dm] at h
 ·rfl
structure pL(g:Gh)(N:Nat)(w:World)(id:Nat)(cs:List V)(arr:Array Value)(e:TypeId)(fz:Nat×Nat):Prop where
 len:(cellsOf cs).length<=arr.size
 plain:dm cs=false->cs.length=arr.size∧fz=(0,0)
 typed:∀k xs,agx cs=some ⟨k,xs⟩->aeO fz arr.size∧g.ρ (id+1)*k.sz<=arr.size∧id+1<N∧(k=.u8->e=g.β)
 cold:∀j,j<(cellsOf cs).length->¬(fz.1<=j∧j<fz.2)
 one:∀c∈cellsOf cs,c.one=true
 rel:∀(j:Nat) c cv,(cellsOf cs)[j]? =some c->arr[j]? =some cv->VRel g.I g.ρ N w c cv
 own:∀(j:Nat) c cv,(cellsOf cs)[j]? =some c->arr[j]? =some cv->au g w (.cell id j) c cv
 bn:∀(j E n:Nat),(cellsOf cs)[j]? =some (.bn E n)->E=e∧n=arr.size∧(arr[j]? =some (.pointer none)∨arr[j]? =some (.pointer (some ⟨g.ρ id,j,none⟩)))
theorem pL.typedUp{g j:Gh}{N N':Nat}{w:World}{id:Nat}{cs:List V}{i f:Array Value}{e:TypeId}{o:Nat×Nat}(h:pL g N w id cs i e o)
  (m:j.β=g.β) (p:∀id,id<N->j.ρ id=g.ρ id) (u:N<=N') (r:i.size=f.size):
  ∀k xs,agx cs=some ⟨k,xs⟩->aeO o f.size∧j.ρ (id+1)*k.sz<=f.size∧id+1<N'∧(k=.u8->e=j.β):=by
 intro k xs t;obtain⟨a,b,c,d⟩:=h.typed k xs t;exact⟨r▸a,by rw[p _ c];omega,by omega,λq=>(d q).trans m.symm⟩
structure aeP(g:Gh)(N:Nat)(w:World)(id:Nat)(cs:List V)(arr:Array Value)(e:TypeId):Prop where
 len:cs.length=arr.size
 one:∀c∈cs,c.one=true
 rel:∀(j:Nat) c cv,cs[j]? =some c->arr[j]? =some cv->VRel g.I g.ρ N w c cv
 own:∀(j:Nat) c cv,cs[j]? =some c->arr[j]? =some cv->au g w (.cell id j) c cv
 bn:∀(j E n:Nat),cs[j]? =some (.bn E n)->E=e∧n=arr.size∧(arr[j]? =some (.pointer none)∨arr[j]? =some (.pointer (some ⟨g.ρ id,j,none⟩)))
theorem alb{cs:List V}(h:∀c∈cs,c.one=true):dm cs=false:=by
 unfold dm;split;·have:=h _ (Az.2 rfl);simp[V.one] at this
 ·have:=h _ (Az.2 rfl);simp[V.one] at this
 ·have:=h _ (Az.2 rfl);simp[V.one] at this
 ·rfl
theorem pL.low{g:Gh}{N:Nat}{w:World}{id:Nat}{cs:List V}{j:Array Value}{e:TypeId}{m:Nat×Nat}(h:pL g N w id cs j e m)(k:dm cs=false):
  m=(0,0)∧aeP g N w id cs j e:=by
 have o:=eN k;obtain⟨a,b,t,c,d,f,g,i⟩:=h;rw[o] at d f g i;exact⟨(b k).2,(b k).1,d,f,g,i⟩
theorem aeP.high{g:Gh}{N:Nat}{w:World}{id:Nat}{cs:List V}{b:Array Value}{e:TypeId}(h:aeP g N w id cs b e):pL g N w id cs b e (0,0):=by have k:=alb h.one;have c:=eN k;obtain⟨a,d,f,g,i⟩:=h;exact⟨by rw[c,a];exact Am _,λ_=>⟨a,rfl⟩,by rw[jU k];simp,by intro j _;simp,by rw[c];exact d,by rw[c];exact f,by rw[c];exact g,by rw[c];exact i⟩
def MK.keyV:(k:MK)->k.K->Value
 | .pb,x=>.agg #[.int .i64 x.1,.int .i64 x.2]
 | .bs,x=>.int .u8 x
 | .bn,x=>.int .u8 x
 | .ib,x=>.int .i64 x
 | .sn,x=>.string ⟨x.toArray⟩
 | .sb,x=>.string ⟨x.toArray⟩
def MK.valV:(k:MK)->k.T->Value
 | .pb,x=>.bool x
 | .bs,x=>.string ⟨x.toArray⟩
 | .bn,x=>.int .i64 x
 | .ib,x=>.bool x
 | .sn,x=>.int .i64 x
 | .sb,x=>.bool x
def oC:List V->Bool
 | [.mp _ _]=>true
 |_=>false
def MK.okT:(k:MK)->k.T->Prop
 | .pb,_=>True
 | .bs,x=>x.length<=dl
 | .bn,x=>IntKind.i64.min<=x∧x<=IntKind.i64.max
 | .ib,_=>True
 | .sb,_=>True
 | .sn,x=>IntKind.i64.min<=x∧x<=IntKind.i64.max
def fQ{k:MK}(es:List (k.K×k.T))(ents:Array MapEntry)(clock:Nat):Prop:=
 es.length=ents.size∧clock=ents.size∧∀(i:Nat) e en,es[i]? =some e->ents[i]? =some en->en.born=i∧en.key=k.keyV e.1∧en.val=k.valV e.2∧k.okT e.2
structure jg(g:Gh)(N:Nat)(w:World)(id:Nat)(cs:List V):Prop where
 row:oC cs=false->∃arr e fz,w.heap[g.ρ id]? =some (.cells arr e fz)∧pL g N w id cs arr e fz
 map:∀(k:MK) es,cs=[.mp k es]->∃ents clock,w.heap[g.ρ id]? =some (.map ents clock)∧fQ es ents clock
theorem acx{cs:List V}(h:oC cs=true):∃k es,cs=[.mp k es]:=by
 unfold oC at h;split at h;·exact⟨_,_,rfl⟩
 ·simp at h
theorem jg.block{g:Gh}{N:Nat}{w:World}{id:Nat}{cs:List V}(h:jg g N w id cs):∃x,w.heap[g.ρ id]? =some x:=by
 cases b:oC cs with
 |false=>obtain⟨d,e,f,a,_⟩:=h.row b;exact⟨_,a⟩
 |true=>obtain⟨k,es,rfl⟩:=acx b;obtain⟨ents,c,a,_⟩:=h.map k es rfl;exact⟨_,a⟩
theorem jg.lt{g:Gh}{N:Nat}{w:World}{id:Nat}{cs:List V}(h:jg g N w id cs):g.ρ id<w.heap.size:=by obtain⟨x,a⟩:=h.block;exact(AP.1 a).1
theorem jg.keep{g i:Gh}{N N':Nat}{w w':World}{id b:Nat}{cs:List V}(h:jg g N w id cs)(m:w'.heap[i.ρ b]? =w.heap[g.ρ id]?)(o:∀a e d,w.heap[g.ρ id]? =some (.cells a e d)->pL g N w id cs a e d->pL i N' w' b cs a e d):jg i N' w' b cs:=
 ⟨λq=>by obtain⟨a,e,d,f,j⟩:=h.row q;exact⟨a,e,d,m.trans f,o a e d f j⟩,λk es p=>by obtain⟨ents,c,f,j⟩:=h.map k es p;exact⟨ents,c,m.trans f,j⟩⟩
theorem jg.ofRow{g:Gh}{N:Nat}{w:World}{id:Nat}{cs:List V}{a:Array Value}{e:TypeId}{b:Nat×Nat}(c:w.heap[g.ρ id]? =some (.cells a e b))(d:pL g N w id cs a e b)(h:oC cs=false):jg g N w id cs:=
 ⟨λ_=>⟨a,e,b,c,d⟩,λk es f=>by subst f;simp[oC] at h⟩
theorem aqJ{cs:List V}(h:∀c∈cs,c.one=true):oC cs=false:=by
 cases a:oC cs with
 |false=>rfl
 |true=>obtain⟨k,es,rfl⟩:=acx a;have:=h _ (Az.2 rfl);simp[V.one] at this
theorem jg.ofRow0{g:Gh}{N:Nat}{w:World}{id:Nat}{cs:List V}{a:Array Value}{e:TypeId}(c:w.heap[g.ρ id]? =some (.cells a e (0,0)))(b:aeP g N w id cs a e):jg g N w id cs:=
 .ofRow c b.high (aqJ b.one)
def py(w:World)(b j:Nat):Prop:=(w.cell? ⟨b,j,none⟩).isSome=true∧(Zed->w.frozen? ⟨b,j,none⟩=true->∃n,w.cell? ⟨b,j,none⟩=some (.int .u8 n))
theorem py.blk{w w':World}{b j:Nat}(h:py w b j)(a:w'.heap[b]? =w.heap[b]?):py w' b j:=by
 unfold py By BA at*
 rw[a];exact h
theorem py.same{w w':World}{b j:Nat}(h:py w b j)(c:w'.cell? ⟨b,j,none⟩=w.cell? ⟨b,j,none⟩)(a:w'.frozen? ⟨b,j,none⟩=w.frozen? ⟨b,j,none⟩):py w' b j:=by
 unfold py at*
 rw[c,a];exact h
theorem py.row{w:World}{b j:Nat}{a:Array Value}{e:TypeId}{c:Nat×Nat}(h:w.heap[b]? =some (.cells a e c))(g:j<a.size)(i:Zed->c.1<=j∧j<c.2->∃n,a[j]? =some (.int .u8 n)):py w b j:=by
 have d:w.cell? ⟨b,j,none⟩=a[j]?:=by simp[By,h]
 refine⟨by rw[d,Ao g];rfl,λz f=>?_⟩;rw[d];refine i z ?_;simp only[BA,h,Ac,decide_eq_true_eq] at f;exact f
theorem py.set{w w':World}{b a j:Nat}{f d:Array Value}{e:TypeId}{g:Nat×Nat}(h:py w a j)(p:w'.cell? ⟨a,j,none⟩=w.cell? ⟨a,j,none⟩)(m:w.heap[b]? =some (.cells f e g))(k:w'.heap[b]? =some (.cells d e g))(o:∀c,c≠b->w'.heap[c]? =w.heap[c]?):py w' a j:=by
 refine h.same p ?_;unfold BA;by_cases i:a=b;·subst i;simp only[m,k]
 ·simp only[o a i]
theorem py.lt{w:World}{b j:Nat}(h:py w b j):b<w.heap.size:=by obtain⟨v,a⟩:=BU.1 h.1;exact World.block_lt_of_cell? _ _ a
structure HR(g:Gh)(hp:List ai)(w:World):Prop where
 obj:∀(id:Nat) cs,hp[id]? =some (some cs)->jg g hp.length w id cs
 apart:∀(id id':Nat) cs cs',hp[id]? =some (some cs)->hp[id']? =some (some cs')->id≠id'->g.ρ id≠g.ρ id'
 notI:∀(id:Nat) cs,hp[id]? =some (some cs)->∀j,¬g.I (g.ρ id) j
 notO:∀(id:Nat) cs,hp[id]? =some (some cs)->g.O (g.ρ id)=none
 exI:∀b j,g.I b j->py w b j
 oLt:∀b o,g.O b=some o->b<w.heap.size
structure ER(g:Gh)(N:Nat)(w:World)(env:List V)(tmps:Array Value):Prop where
 size:env.length=tmps.size
 rel:∀(n:Nat) v cv,env[n]? =some v->tmps[n]? =some cv->VRel g.I g.ρ N w v cv
 own:∀(n:Nat) v cv,env[n]? =some v->tmps[n]? =some cv->au g w (.slot n) v cv
structure FR(g₀:Gh)(hp₀:List ai)(w₀:World)(g:Gh)(hp:List ai)(w:World):Prop where
 beta:g.β=g₀.β
 os:w.os=w₀.os
 tape:w.tape=w₀.tape
 output:w.output=w₀.output
 size:w₀.heap.size<=w.heap.size
 block:∀b,b<w₀.heap.size->(∀(id:Nat) cs,hp₀[id]? =some (some cs)->g₀.ρ id≠b)->g₀.O b=none->w.heap[b]? =w₀.heap[b]?
 up:Up g₀.I g₀.ρ hp₀.length w₀ g.I g.ρ hp.length w
 iSame:∀b j,b<w₀.heap.size->(∀(id:Nat) cs,hp₀[id]? =some (some cs)->g₀.ρ id≠b)->g₀.O b=none->g.I b j->g₀.I b j
 oSame:∀b,b<w₀.heap.size->(∀(id:Nat) cs,hp₀[id]? =some (some cs)->g₀.ρ id≠b)->g₀.O b=none->g.O b=none
 live:∀(id:Nat) cs,hp[id]? =some (some cs)->(∃cs₀,hp₀[id]? =some (some cs₀))∨(hp₀.length<=id∧(w₀.heap.size<=g.ρ id∨g₀.O (g.ρ id)≠none∨∃(id':Nat)(cs':List V),hp₀[id']? =some (some cs')∧g₀.ρ id'=g.ρ id))
theorem FR.refl(g:Gh)(hp:List ai)(w:World):FR g hp w g hp w:=
 ⟨rfl,rfl,rfl,rfl,Am _,λ_ _ _ _=>rfl,Up.refl _ _ _ _,λ_ _ _ _ _ h=>h,λ_ _ _ h=>h,λ_ cs h=>.inl ⟨cs,h⟩⟩
theorem FR.noObj{g₀ g₁:Gh}{hp₀ hp₁:List ai}{w₀ w₁:World}(h:FR g₀ hp₀ w₀ g₁ hp₁ w₁){b:Nat}(o:b<w₀.heap.size)(i:∀(id:Nat) cs,hp₀[id]? =some (some cs)->g₀.ρ id≠b)(k:g₀.O b=none):
  ∀(id:Nat) cs,hp₁[id]? =some (some cs)->g₁.ρ id≠b:=by
 intro id cs hid e;rcases h.live id cs hid with⟨a,j⟩|⟨_,c|c|⟨d,g,c,m⟩⟩
 ·refine i id a j ?_;have f:id<hp₀.length:=(Ad.1 j).1;rw[<-h.up.rho id f];exact e
 ·omega
 ·rw[e] at c;exact c k
 ·exact i d g c (m.trans e)
theorem FR.trans{g₀ g₁ a:Gh}{hp₀ hp₁ f:List ai}{w₀ w₁ i:World}(h:FR g₀ hp₀ w₀ g₁ hp₁ w₁)(k:FR g₁ hp₁ w₁ a f i):FR g₀ hp₀ w₀ a f i:=by
 refine⟨k.beta.trans h.beta,k.os.trans h.os,k.tape.trans h.tape,k.output.trans h.output,AH h.size k.size,?_,h.up.trans k.up,?_,?_,?_⟩;·intro b e c d;exact(k.block b (AC e h.size) (h.noObj e c d) (h.oSame b e c d)).trans (h.block b e c d)
 ·intro b j e c d v;exact h.iSame b j e c d (k.iSame b j (AC e h.size) (h.noObj e c d) (h.oSame b e c d) v)
 ·intro b e c d;exact k.oSame b (AC e h.size) (h.noObj e c d) (h.oSame b e c d)
 ·intro id cs hid;rcases k.live id cs hid with⟨m,p⟩|⟨p,y⟩
  ·rcases h.live id m p with q|⟨q,r⟩
   ·exact .inl q
   ·refine .inr ⟨q,?_⟩;rw[k.up.rho id (Ad.1 p).1];exact r
  ·refine .inr ⟨AH h.up.num p,?_⟩;by_cases o:a.ρ id<w₀.heap.size
   ·right;by_cases d:g₀.O (a.ρ id)=none
    ·right;by_cases c:∀(g:Nat) cs,hp₀[g]? =some (some cs)->g₀.ρ g≠a.ρ id;·exact absurd rfl (FR.noObj k (AC o h.size) (h.noObj o c d) (h.oSame _ o c d) id cs hid)
     ·exact Classical.byContradiction λu=>c λg t r x=>u ⟨g,t,r,x⟩
    ·left;exact d
   ·left;omega
def acy:Nat:=0
def aay:List Value:=[]
structure SR(g:Gh)(s:St)(w:World)(a:Act):Prop where
 hr:HR g s.hp w
 er:ER g s.hp.length w s.env a.tmps
def cF(g:Gh)(s:St)(w:World)(a:Act)(s':St)(next:Act->World->Prop):Prop:=
 ∀b w' c,SR c s' w' b->FR g s.hp w c s'.hp w'->b.defers=a.defers->next b w'
def tW:V->Value->Bool
 | .int k n,.int k' c=>decide (k=k')&&(n==c&&(decide (k.min<=n)&&decide (n<=k.max)))
 | .bool b,.bool d=>b==d
 | .str l,.string s=>decide (s.data.toList=l)&&decide (s.size<=dl)
 | .sl _ _ xs,.slice none 0 0=>xs.isEmpty
 | .ul _ xs,.slice none 0 0=>xs.isEmpty
 | .nilp,.pointer none=>true
 | .nilif,.nilIface=>true
 | .nilm,.map none=>true
 |_,_=>false
def jJ:List V->List Value->Bool
 | [],[]=>true
 |c::cs,v::vs=>tW c v&&jJ cs vs
 |_,_=>false
def abh:V->Value->Bool
 | .agg cs,.agg vs=>jJ cs vs.toList
 |v,cv=>tW v cv
def aJ:aw->Operand->Bool
 | .t n,.tmp k=>n==k
 | .tk n,.tmp k=>n==k
 | .c v,.const cv=>abh v cv
 | .c (.fn f []),.func h=>f==h
 |_,_=>false
section
variable{I:Nat->Nat->Prop}{ρ:Nat->Nat}{N:Nat}{w:World}{g:Gh}{s:St}{a:Act}{P:Program}
theorem aiA{v:V}{cv:Value}(h:tW v cv=true):VRel I ρ N w v cv∧v.one=true:=by
 unfold tW at h;split at h;·simp only[Ac,decide_eq_true_eq,beq_iff_eq] at h;obtain⟨rfl,rfl,c,b⟩:=h;exact⟨.int _ _ ⟨c,b⟩,rfl⟩
 ·obtain rfl:=by simpa using h
  exact⟨.bool _,rfl⟩
 ·simp only[Ac,decide_eq_true_eq] at h;exact⟨.str _ _ h.1 h.2,rfl⟩
 ·rename_i xs;cases xs with
  |nil=>exact⟨.sln _ _,rfl⟩
  |cons x xs=>simp at h
 ·rename_i k xs;cases xs with
  |nil=>exact⟨.ul k [] none 0 (by simp),rfl⟩
  |cons x xs=>simp at h
 ·exact⟨.nilp,rfl⟩
 ·exact⟨.nilif,rfl⟩
 ·exact⟨.nilm,rfl⟩
 ·simp at h
theorem apq{v:V}{cv:Value}(h:tW v cv=true):d7 v cv:=by unfold tW at h;split at h<;>first|(simp[d7];done)|(simp at h;done)|(simp[d7];exact h)|(simp[d7];simp at h;exact h)|simp at h
theorem pr:∀{cs:List V}{vs:List Value},jJ cs vs=true->∀(i:Nat) c cv,cs[i]? =some c->vs[i]? =some cv->d7 c cv
 | [],[],_,i,c,cv,b,d=>by simp at b
 |c::cs,v::vs,h,i,f,e,b,d=>by
  simp only[jJ,Ac] at h;cases i with
  |zero=>simp at b d;subst b d;exact apq h.1
  |succ i=>exact pr h.2 i f e (by simpa using b) (by simpa using d)
 | [],_::_,h,_,_,_,_,_=>by simp[jJ] at h
 |_::_,[],h,_,_,_,_,_=>by simp[jJ] at h
theorem pt:∀{cs:List V}{vs:List Value},jJ cs vs=true->cs.length=vs.length∧(∀c∈cs,c.one=true)∧
  ∀(i:Nat) c cv,cs[i]? =some c->vs[i]? =some cv->VRel I ρ N w c cv
 | [],[],_=>⟨rfl,by simp,by simp⟩
 |c::cs,v::vs,h=>by
  simp only[jJ,Ac] at h;obtain⟨e,o⟩:=aiA (I:=I) (ρ:=ρ) (N:=N) (w:=w) h.1;obtain⟨m,f,k⟩:=pt h.2;refine⟨by simp[m],by simpa using ⟨o,f⟩,?_⟩;intro i p j d b;cases i with
  |zero=>simp at d b;subst d b;exact e
  |succ i=>simp at d b;exact k i _ _ d b
 | [],_::_,h=>by simp[jJ] at h
 |_::_,[],h=>by simp[jJ] at h
theorem an9{v:V}{cv:Value}(h:abh v cv=true):VRel I ρ N w v cv:=by
 unfold abh at h;split at h;·rename_i cs vs;obtain⟨e,j,f⟩:=pt (I:=I) (ρ:=ρ) (N:=N) (w:=w) h;exact .agg _ _ (by simpa using e) j (λi c cv d b=>pr h i c cv d (by simpa using b)) (λi c cv d b=>f i c cv d (by simpa using b))
 ·exact(aiA h).1
theorem wu{v:V}{cv:Value}(h:abh v cv=true)(b:Occ):au g w b v cv:=by
 unfold abh at h;split at h;·simp[au]
 ·unfold tW at h;split at h<;>first|(simp[au];done)|(exact .inl ⟨by simpa using h,rfl⟩)|simp at h
theorem ER.get(h:ER g N w s.env a.tmps)(n:Nat):VRel g.I g.ρ N w (s.get n) (a.tmps.getD n undef):=by
 by_cases c:n<s.env.length
 ·have b:n<a.tmps.size:=by rw[<-h.size];exact c
  refine h.rel n _ _ ?_ ?_;·simp[St.get,Ak,Ab c]
  ·simp[A9,b,Ao b]
 ·have:s.get n=.undef:=by simp[St.get,Ak,AZ (C9 c)]
  rw[this];exact .undef _
theorem ER.getOwn(h:ER g N w s.env a.tmps)(n:Nat):au g w (.slot n) (s.get n) (a.tmps.getD n undef):=by
 by_cases c:n<s.env.length
 ·have b:n<a.tmps.size:=by rw[<-h.size];exact c
  refine h.own n _ _ ?_ ?_;·simp[St.get,Ak,Ab c]
  ·simp[A9,b,Ao b]
 ·have:s.get n=.undef:=by simp[St.get,Ak,AZ (C9 c)]
  rw[this];simp[au]
theorem aI{x:aw}{o:Operand}(h:aJ x o=true)(e:ER g N w s.env a.tmps):VRel g.I g.ρ N w (x.ev s) (a.eval o):=by
 unfold aJ at h;split at h
 ·obtain rfl:=by simpa using h
  exact(e.get _).disown
 ·obtain rfl:=by simpa using h
  exact e.get _
 ·exact an9 h
 ·obtain rfl:=by simpa using h
  exact .fn _ [] #[] rfl (by simp)
 ·simp at h
theorem ER.set(h:ER g N w s.env a.tmps)(d:Nat){v:V}{cv:Value}(k:VRel g.I g.ρ N w v cv)(j:au g w (.slot d) v cv):
  ER g N w (s.set d v).env (a.put (some d) cv).tmps:=by
 refine⟨by simp[St.set,Act.put,h.size],?_,?_⟩
 ·intro n i f c b;simp only[St.set,Act.put,AB,Ds] at c b;by_cases e:d=n;·subst e;simp only[if_true] at c b;split at c<;>split at b<;>simp_all
  ·simp only[e,if_false] at c b;exact h.rel n _ _ c b
 ·intro n i f c b;simp only[St.set,Act.put,AB,Ds] at c b;by_cases e:d=n;·subst e;simp only[if_true] at c b;split at c<;>split at b<;>simp_all
  ·simp only[e,if_false] at c b;exact h.own n _ _ c b
theorem SR.set(h:SR g s w a)(d:Nat){v:V}{cv:Value}(b:VRel g.I g.ρ s.hp.length w v cv)(c:au g w (.slot d) v cv):
  SR g (s.set d v) w (a.put (some d) cv):=⟨h.hr,h.er.set d b c⟩
def V.bare:V->Bool
 | .sl _ .own _=>false
 | .raw _=>false
 | .ul _ _=>false
 |_=>true
theorem il{v:V}(h:v.bare=true)(g:Gh)(w:World)(b:Occ)(cv:Value):au g w b v cv:=by
 cases v with
 |sl k o xs=>cases o<;>first|simp[V.bare] at h;done|simp[au]
 |raw n=>simp[V.bare] at h
 |ul k xs=>simp[V.bare] at h
 |_=>simp[au]
theorem dV(v:V):(disown v).bare=true:=by
 cases v with
 |sl k o xs=>cases o<;>rfl
 |_=>rfl
theorem HR.drew{hp:List ai}(h:HR g hp w):HR g hp w.drew:=by
 refine⟨?_,h.apart,h.notI,h.notO,h.exI,h.oLt⟩;intro id cs hid;refine(h.obj id cs hid).keep rfl λm e r q d=>?_
 have u:Up g.I g.ρ hp.length w g.I g.ρ hp.length w.drew:=⟨λ_ _ h=>h,λ_ _ _=>rfl,λ_ _=>rfl,Am _⟩
 exact⟨d.len,d.plain,d.typed,d.cold,d.one,λj c cv i f=>(d.rel j c cv i f).up u,λj c cv i f=>b7 (d.own j c cv i f) rfl (λb j o=>⟨o,rfl⟩) (λb p=>⟨p,rfl,λj k=>k⟩),d.bn⟩
theorem aH{m:Oper}{d:Nat}{v:V}{cv:Value}{next:Act->World->Prop}{Q:Exit->Act->World->Prop}(h:SR g s w a)(f:m.dst=some d)
  (b:(execOp a.eval m).run P w=.ok (.value cv) w) (e:VRel g.I g.ρ s.hp.length w v cv) (i:v.bare=true)
  (c:cF g s w a (s.set d v) next):m.wp P a w next Q:=by
 unfold CF Df;rw[b,f];exact c _ _ g (h.set d e (il i _ _ _ _)) (FR.refl _ _ _) rfl
end
def ke:Option aw->Option Operand->Bool
 |none,none=>true
 |some x,some y=>aJ x y
 |_,_=>false
def ahD:aw->Bool
 | .tk _=>false
 |_=>true
def aj4(P:Program)(t:TypeId)(k:IntKind):Bool:=match P.underlying t with|some (.int k')=>decide (k=k')|_=>false
def nx(P:Program)(t:TypeId):Option Bool:=match P.underlying t with|some (.struct _)|some (.array _ _)=>some true|some _=>some false|none=>none
def fR(P:Program)(t:TypeId):Option Nat:=(P.info? t).map (·.size)
def ahE(P:Program)(t:TypeId):Bool:=match fR P t with|some n=>n !=0|none=>false
def nk(P:Program):Nat:=((A8 P.types.size).find? λt=>match P.underlying t with|some (.int .u8)=>true|_=>false).getD 0
def wE(P:Program)(e:TypeId)(k:EK):Bool:=
 (match k with| .u8=>e==nk P|_=>true)&&
 (match P.info? e with
 |some i=>i.size==k.sz&&(i.bytes==k.bytes&&(nx P e==some k.isAgg&&(match i.zero with|some z=>jJ (enc k (am k)) z.cells.toList&&(z.cells.size==k.sz)|none=>false)))
 |none=>false)
def kz(P:Program)(t:TypeId)(k:EK):Bool:=match P.underlying t with|some (.slice e)=>wE P e k|_=>false
def ye:Op->Option (Builtin×List Operand×List TypeId)
 | .call c=>match c.callee with| .builtin b=>some (b,c.args.toList,c.argTypes.toList)|_=>none
 |_=>none
theorem mv{o:Op}{b:Builtin}{avs:List Operand}{e:List TypeId}(h:ye o=some (b,avs,e)):o=.call ⟨.builtin b,⟨avs⟩,⟨e⟩⟩:=by
 unfold ye at h;split at h
 ·rename_i c;obtain⟨d,⟨f⟩,⟨i⟩⟩:=c;simp only at h;split at h;·simp only[Ah,Ap] at h;obtain⟨rfl,rfl,rfl⟩:=h;rfl
  ·simp at h
 ·simp at h
def a7(P:Program)(o:IOp)(m:Oper):Bool:=
 match o with
 | .pick d c x y=>(m.dst==some d)&&(match m.op with| .pick E h j=>aJ c E&&(aJ x h&&aJ y j)&&(ahD x&&ahD y)|_=>false)
 | .bin d o x y=>(m.dst==some d)&&(match m.op with| .binOp o' _ h j _=>decide (o=o')&&(aJ x h&&aJ y j)|_=>false)
 | .un d o x=>(m.dst==some d)&&(match m.op with| .unOp o' _ h=>decide (o=o')&&aJ x h|_=>false)
 | .cvi d k x=>(m.dst==some d)&&(match m.op with| .convert a b h=>(P.underlying a).isSome&&(aj4 P b k&&aJ x h)|_=>false)
 | .b2s d x=>(m.dst==some d)&&(match m.op with| .convert a b h=>(match P.underlying a,P.underlying b with|some (.slice e),some .string=>aj4 P e .u8|_,_=>false)&&aJ x h|_=>false)
 | .lens d x=>(m.dst==some d)&&(match ye m.op with|some (.len,[h],[t])=>(match P.underlying t with|some .string=>true|_=>false)&&aJ x h|_=>false)
 | .lenl d x=>(m.dst==some d)&&(match ye m.op with|some (.len,[h],[t])=>(match P.underlying t with|some (.slice _)=>true|_=>false)&&aJ x h|_=>false)
 | .idx d x i=>(m.dst==some d)&&(match m.op with| .index t h r=>(match P.underlying t with|some .string=>true|_=>false)&&(aJ x h&&aJ i r)|_=>false)
 | .ixa d k x i=>(m.dst==some d)&&(match m.op with| .indexAddr t h r=>kz P t k&&(aJ x h&&aJ i r)|_=>false)
 | .subs d x u A=>(m.dst==some d)&&(match m.op with| .slice t h q p none=>(match P.underlying t with|some .string=>true|_=>false)&&(aJ x h&&(ke u q&&ke A p))|_=>false)
 | .subl d k x u A=>(m.dst==some d)&&(match m.op with| .slice t h q p none=>kz P t k&&(aJ x h&&(ke u q&&ke A p))|_=>false)
 | .fad d v x=>(m.dst==some d)&&(match m.op with| .fieldAddr t h f=>(match P.underlying t with|some (.struct fs)=>(match fs[f]? with|some D=>(D.offset==v)&&ahE P D.type|none=>false)|_=>false)&&aJ x h|_=>false)
 | .ext d i x=>(m.dst==some d)&&(match m.op with| .extract h r=>i==r&&aJ x h|_=>false)
 | .nck d x=>(m.dst==d)&&(match m.op with| .nilCheck h=>aJ x h|_=>false)
 | .ld d n agg false x=>(m.dst==some d)&&(match m.op with| .load t h=>(fR P t==some n)&&((nx P t==some agg)&&((agg||n==1)&&aJ x h))|_=>false)
 | .beq d B x y=>(m.dst==some d)&&(match m.op with| .binOp o' t h j _=>decide (o'=if B then .neq else .eql)&&((match P.underlying t with|some .bool=>true|_=>false)&&(aJ x h&&aJ y j))|_=>false)
 | .snil d x=>(m.dst==some d)&&(match m.op with| .binOp o' t h j _=>decide (o'=.eql)&&((match P.underlying t with|some (.slice _)=>true|_=>false)&&(aJ x h&&(match j with| .const (.slice none 0 0)=>true|_=>false)))|_=>false)
 | .mx d C x y=>(m.dst==some d)&&(match ye m.op with|some (.min,[h,j],_)=>C&&(aJ x h&&aJ y j)|some (.max,[h,j],_)=> !C&&(aJ x h&&aJ y j)|_=>false)
 |_=>false
section
variable{w:World}{g:Gh}{s s':St}{a:Act}{P:Program}{Γ:av}{m:Oper}{next:Act->World->Prop}{Q:Exit->Act->World->Prop}
theorem gt(k:IntKind)(n:Int):k.min<=k.wrap n∧k.wrap n<=k.max:=by cases k<;>simp[Aj,B2,BT,Bo,Bb]<;>omega
theorem aiB(k:IntKind):k.min<=0∧0<=k.max:=by cases k<;>decide
theorem amz(x y:Int)(d:0<=x):x%y<=x:=by
 by_cases e:y=0;·subst e;simp
 ·rcases Int.lt_or_gt_of_ne e with h|h
  ·rw[<-Int.emod_neg];by_cases c:x< -y;·rw[Int.emod_eq_of_lt d c];omega
   ·have:=Dx x (b:=-y) (by omega);omega
  ·by_cases c:x<y;·rw[Int.emod_eq_of_lt d c];omega
   ·have:=Dx x h;omega
theorem apr(k:IntKind)(x y:Int)(h:k.min<=x∧x<=k.max):k.min<=x.tmod y∧x.tmod y<=k.max:=by
 have f:=aiB k;rcases Int.le_total 0 x with c|c
 ·have d:=Dk y c;have e:x.tmod y<=x:=by
   rw[BE c];exact amz _ _ c
  omega
 ·have b:0<=-x:=by omega
  have d:=Dk y b;have e:(-x).tmod y<=-x:=by rw[BE b];exact amz _ _ b
  rw[Int.neg_tmod] at d e;omega
theorem aqK(k:IntKind)(x:Int)(n:Nat)(h:k.min<=x∧x<=k.max):k.min<=x.fdiv (2^n)∧x.fdiv (2^n)<=k.max:=by
 have e:=aiB k;have hp:(0:Int)<2^n:=Int.pow_pos (by omega);have hp':(1:Int)<=2^n:=hp;rw[Int.fdiv_eq_ediv_of_nonneg _ (by omega)];generalize (2:Int)^n=p at*
 rcases Int.le_total 0 x with b|b;·have c:=Int.ediv_nonneg b (Int.le_of_lt hp);have d:=Int.ediv_le_self p b;omega
 ·have d:x / p<=0:=by
   have:=Int.ediv_le_ediv hp b;simpa using this
  have c:x<=x / p:=by refine(Int.le_ediv_iff_mul_le hp).2 ?_;have:=Int.mul_le_mul_of_nonpos_left b hp';simpa using this
  omega
theorem asQ{d:Nat}{c x y:aw}(e:a7 P (.pick d c x y) m=true)(i:step Γ (.pick d c x y) s=some (true,s'))(h:SR g s w a)(k:cF g s w a s' next):m.wp P a w next Q:=by
 obtain⟨dst,H,ty,pos,q,F⟩:=m;simp only[a7,Ac,beq_iff_eq] at e;obtain⟨rfl,e⟩:=e;split at e
 ·rename_i o A D;simp only[Ac] at e;obtain⟨⟨r,B,v⟩,G,E⟩:=e;have f:=aI r h.er;have p:=(aI B h.er).disown;have C:=(aI v h.er).disown;simp only[step] at i;split at i
  ·rename_i t u;obtain rfl:_=s':=by simpa using i
   rw[arI] at k;rw[u] at f;cases j:a.eval o with
   |bool b=>
    rw[j] at f;cases f;refine aH h rfl (cv:=if t then a.eval A else a.eval D) (by simp[execOp,j,asBool]) ?_ (by cases t<;>exact dV _) k;cases t;·exact C
    ·exact p
   |_=>rw[j] at f;cases f
  ·simp at i
 ·simp at e
theorem atf{d:Nat}{k:IntKind}{x:aw}(b:a7 P (.cvi d k x) m=true)(e:step Γ (.cvi d k x) s=some (true,s'))(h:SR g s w a)(j:cF g s w a s' next):m.wp P a w next Q:=by
 obtain⟨dst,D,ty,pos,o,B⟩:=m;simp only[a7,Ac,beq_iff_eq] at b;obtain⟨rfl,b⟩:=b;split at b
 ·rename_i E C u;simp only[Ac] at b;obtain⟨q,c,t⟩:=b;have f:=aI t h.er;simp only[step] at e;split at e
  ·rename_i k' n v;obtain rfl:_=s':=by simpa using e
   rw[v] at f;obtain⟨y,A⟩:=BU.1 q;unfold aj4 at c;split at c
   ·rename_i r p;obtain rfl:k=r:=by simpa using c
    generalize i:a.eval u=cv at f;cases f;refine aH h rfl (cv:=.int k (k.wrap n)) ?_ (.int _ _ (gt _ _)) rfl j;simp only[execOp,i,convert];cases y<;>simp[run_underlying A,run_underlying p,Conv.intToInt]
   ·simp at c
  ·simp at e
 ·simp at b
theorem xE(c:List Int):∀b:ByteArray,(c.foldl (λ(r:ByteArray) n=>r.push (Bq n.toNat)) b).data.toList=b.data.toList++c.map λn=>Bq n.toNat:=by
 induction c with
 |nil=>intro b;simp
 |cons n c d=>intro b;rw[CP,d];simp[ByteArray.push]
theorem aps(c:UInt8):IntKind.u8.min<=(c.toNat:Int)∧(c.toNat:Int)<=IntKind.u8.max:=by have:=c.toNat_lt;simp[B2,BT,Bb,Bo];omega
theorem aiC:ByteArray.empty.data.toList=[]:=rfl
theorem om(s:ByteArray):s.data.toList.length=s.size:=by rw[BM];rfl
theorem atg{d:Nat}{x:aw}(p:a7 P (.b2s d x) m=true)(A:step Γ (.b2s d x) s=some (true,s'))(h:SR g s w a)(B:cF g s w a s' next):m.wp P a w next Q:=by
 obtain⟨dst,op,ty,pos,N,gd⟩:=m;simp only[a7,Ac,beq_iff_eq] at p;obtain⟨rfl,p⟩:=p;split at p
 ·rename_i t1 t2 X;simp only[Ac] at p;obtain⟨t,S⟩:=p;have E:=aI S h.er;simp only[step] at A;split at A
  ·rename_i o l hx;obtain rfl:_=s':=by simpa using A
   rw[hx] at E;split at t
   ·rename_i e I G;unfold aj4 at t;split at t
    ·rename_i R H;obtain rfl:IntKind.u8=R:=by simpa using t
     generalize q:a.eval X=cv at E;cases E with
     |sln=>exact aH h rfl (cv:=.string .empty) (by simp[execOp,q,run_convert_bytes_string w _ _ _ _ _ _ I H G,Conv.bytesToString]) (.str _ _ rfl (by simp[dl])) rfl B
     |sle=>exact aH h rfl (cv:=.string .empty) (by simp[execOp,q,run_convert_bytes_string w _ _ _ _ _ _ I H G,Conv.bytesToString,loadCells,loadCellsFrom]) (.str _ _ rfl (by simp[dl])) rfl B
     |sl _ _ _ b C Y cap hl M hm W f hI Z O=>
      subst hl;have i:(loadCells ⟨b,C,none⟩ l.length).run P w=.ok ((l.map λc:UInt8=>(c.toNat:Int)).map (Value.int .u8)).toArray w:=by
       have u:l.length=((l.map λc:UInt8=>(c.toNat:Int)).map (Value.int .u8)).length:=by simp
       rw[u];refine run_loadCells_list w _ _ ?_;intro j v F;have D:j<l.length:=by simpa using (Ad.1 F).1
       have k:l[j]? =some l[j]:=Ab D;have J:=Z j l[j] 0 k (by simp[enc]);have L:=O j l[j] 0 (.int .u8 l[j].toNat) k (by simp[enc]);simp only[EK.sz,Du,Cl] at J;rw[BD,J];simp only[Ch,Ay,k,Bg,Ah,Dy] at F;subst F;generalize hf:f j 0=y at L;cases L;rfl
      refine aH h rfl (cv:=.string ((l.map λc:UInt8=>(c.toNat:Int)).foldl (λ(r:ByteArray) n=>r.push (Bq n.toNat)) ByteArray.empty)) ?_ (.str _ _ ?_ ?_) rfl B;·simp[execOp,q,run_convert_bytes_string w _ _ _ _ _ _ I H G,run_bytesToString w _ _ _ _ i]
      ·rw[xE,aiC];simp[DE]
      ·rw[<-om,xE,aiC];simp;omega
    ·simp at t
   ·simp at t
  ·simp at A
 ·simp at p
theorem asR{d:Nat}{x:aw}(c:a7 P (.lens d x) m=true)(e:step Γ (.lens d x) s=some (true,s'))(h:SR g s w a)(o:cF g s w a s' next):m.wp P a w next Q:=by
 obtain⟨dst,A,ty,pos,v,C⟩:=m;simp only[a7,Ac,beq_iff_eq] at c;obtain⟨rfl,c⟩:=c;split at c
 ·rename_i r t i;obtain rfl:=mv i;simp only[Ac] at c;obtain⟨k,p⟩:=c;have j:=aI p h.er;simp only[step] at e;split at e
  ·rename_i l u;obtain rfl:_=s':=by simpa using e
   rw[u] at j;split at k
   ·rename_i y;generalize f:a.eval r=cv at j;cases j with
    |str _ b q B=>subst q;refine aH h rfl (cv:=.int .i64 b.size) (by simp[execOp,resolve,f,invoke,builtin,CS,run_underlying y,goInt]) ?_ rfl o;rw[om];exact .int _ _ (by simp[B2,BT,Bb,Bo,dl] at *;omega)
   ·simp at k
  ·simp at e
 ·simp at c
theorem asS{d:Nat}{x:aw}(c:a7 P (.lenl d x) m=true)(i:step Γ (.lenl d x) s=some (true,s'))(h:SR g s w a)(j:cF g s w a s' next):m.wp P a w next Q:=by
 obtain⟨dst,I,ty,pos,A,G⟩:=m;simp only[a7,Ac,beq_iff_eq] at c;obtain⟨rfl,c⟩:=c;split at c
 ·rename_i C t q;obtain rfl:=mv q;simp only[Ac] at c;obtain⟨u,B⟩:=c;have p:=aI B h.er;simp only[step] at i;split at i
  ·rename_i k o l E;obtain rfl:_=s':=by simpa using i
   rw[E] at p;split at u
   ·rename_i e r;generalize f:a.eval C=cv at p;cases p with
    |sle=>exact aH h rfl (cv:=.int .i64 0) (by simp[execOp,resolve,f,invoke,builtin,CS,run_underlying r,goInt]) (.int _ _ (by decide)) rfl j
    |sln=>exact aH h rfl (cv:=.int .i64 0) (by simp[execOp,resolve,f,invoke,builtin,CS,run_underlying r,goInt]) (.int _ _ (by decide)) rfl j
    |sl _ _ _ b y D cap F v H=>subst F;refine aH h rfl (cv:=.int .i64 l.length) (by simp[execOp,resolve,f,invoke,builtin,CS,run_underlying r,goInt]) ?_ rfl j;exact .int _ _ (by simp[B2,BT,Bb,Bo,dl] at *;omega)
   ·simp at u
  ·simp at i
 ·simp at c
theorem ath{d:Nat}{x i:aw}(c:a7 P (.idx d x i) m=true)(j:step Γ (.idx d x i) s=some (true,s'))(h:SR g s w a)(v:cF g s w a s' next):m.wp P a w next Q:=by
 obtain⟨dst,N,ty,pos,A,L⟩:=m;simp only[a7,Ac,beq_iff_eq] at c;obtain⟨rfl,c⟩:=c;split at c
 ·rename_i t D C;simp only[Ac] at c;obtain⟨u,F,B⟩:=c;have q:=aI F h.er;have p:=aI B h.er;simp only[step] at j;split at j
  ·rename_i l k n H y;simp only[Ah,Ap,Ac,decide_eq_true_eq] at j;obtain⟨⟨G,E⟩,rfl⟩:=j;rw[H] at q;rw[y] at p;split at u
   ·rename_i I;generalize r:a.eval D=cv at q;generalize o:a.eval C=O at p;cases p;cases q with
    |str _ b J M=>
     subst J;have f:n.toNat<b.size:=by rw[om] at E;omega
     have e:b[n.toNat]? =some (b.data.toList.getD n.toNat 0):=by
      rw[getElem?_pos b n.toNat f];have:n.toNat<b.data.toList.length:=by rw[om];exact f
      simp only[Ak,Ab this,Bd];rfl
     refine aH h rfl (cv:=.int .u8 (b.data.toList.getD n.toNat 0).toNat) ?_ ?_ rfl v;·simp[execOp,r,o,Instr.index,asIntOf,run_underlying I,G,e]
     ·exact .int _ _ (aps _)
   ·simp at u
  ·simp at j
 ·simp at c
theorem atW{d:Nat}{o:UnOp}{x:aw}(e:a7 P (.un d o x) m=true)(p:step Γ (.un d o x) s=some (true,s'))(h:SR g s w a)(q:cF g s w a s' next):m.wp P a w next Q:=by
 obtain⟨dst,A,ty,pos,y,B⟩:=m;simp only[a7,Ac,beq_iff_eq] at e;obtain⟨rfl,e⟩:=e;split at e
 ·rename_i o' t u;simp only[Ac,decide_eq_true_eq] at e;obtain⟨rfl,r⟩:=e;have f:=aI r h.er;simp only[step,An] at p;obtain⟨v,i,p⟩:=p;obtain rfl:_=s':=by simpa using p
  generalize c:a.eval u=cv at f;unfold unV at i;split at i;·rename_i b j;cases Au i;rw[j] at f;cases f;exact aH h rfl (cv:=.bool (!b)) (by simp[execOp,c,Op.unary]) (.bool _) rfl q
  ·rename_i k n j;cases Au i;rw[j] at f;cases f;exact aH h rfl (cv:=.int k (k.wrap (0-n))) (by simp[execOp,c,Op.unary,Dv]) (.int _ _ (gt _ _)) rfl q
  ·rename_i k n j;cases Au i;rw[j] at f;cases f;exact aH h rfl (cv:=.int k (oB .xor k (if k.signed then -1 else k.max) n)) (by simp[execOp,c,Op.unary,Dm,oB]) (.int _ _ (gt _ _)) rfl q
  ·simp at i
 ·simp at e
theorem apt{o:BinOp}{k:IntKind}{x y:Int}{v:V}(b:amw o k x y=some (true,v))(d:k.min<=x∧x<=k.max):
  ∃cv,(∀w:World,(if o=.add∨o=.sub∨o=.mul then Dv o k x y else if o=.quo∨o=.rem then Op.intDiv o k x y else if o=.and∨o=.or∨o=.xor∨o=.andNot then Dm o k x y else Dc o x y).run P w=.ok cv w)
   ∧(∀I ρ N w,VRel I ρ N w v cv)∧v.bare=true:=by
 unfold amw at b;split at b<;>(try simp only[Ah,Ap,true_and,Bk,beq_eq_false_iff_ne] at b)<;>(try (obtain⟨c,b⟩:=b))<;>(try subst b)
 ·exact⟨.int k (k.wrap (x+y)),λw=>by simp[Dv],λ_ _ _ _=>.int _ _ (gt _ _),rfl⟩
 ·exact⟨.int k (k.wrap (x-y)),λw=>by simp[Dv],λ_ _ _ _=>.int _ _ (gt _ _),rfl⟩
 ·exact⟨.int k (k.wrap (x*y)),λw=>by simp[Dv],λ_ _ _ _=>.int _ _ (gt _ _),rfl⟩
 ·exact⟨.int k (k.wrap (x.tdiv y)),λw=>by simp[Op.intDiv,c],λ_ _ _ _=>.int _ _ (gt _ _),rfl⟩
 ·exact⟨.int k (x.tmod y),λw=>by simp[Op.intDiv,c],λ_ _ _ _=>.int _ _ (apr _ _ _ d),rfl⟩
 ·exact⟨.int k (oB .and k x y),λw=>by simp[Dm,oB],λ_ _ _ _=>.int _ _ (gt _ _),rfl⟩
 ·exact⟨.int k (oB .or k x y),λw=>by simp[Dm,oB],λ_ _ _ _=>.int _ _ (gt _ _),rfl⟩
 ·exact⟨.int k (oB .xor k x y),λw=>by simp[Dm,oB],λ_ _ _ _=>.int _ _ (gt _ _),rfl⟩
 ·exact⟨.int k (oB .andNot k x y),λw=>by simp[Dm,oB],λ_ _ _ _=>.int _ _ (gt _ _),rfl⟩
 ·exact⟨.bool (x==y),λw=>by simp[Dc],λ_ _ _ _=>.bool _,rfl⟩
 ·exact⟨.bool (!(x==y)),λw=>by simp[Dc,bne],λ_ _ _ _=>.bool _,rfl⟩
 ·exact⟨.bool (decide (x<y)),λw=>by simp[Dc],λ_ _ _ _=>.bool _,rfl⟩
 ·exact⟨.bool (decide (x<=y)),λw=>by simp[Dc],λ_ _ _ _=>.bool _,rfl⟩
 ·exact⟨.bool (decide (y<x)),λw=>by simp[Dc],λ_ _ _ _=>.bool _,rfl⟩
 ·exact⟨.bool (decide (y<=x)),λw=>by simp[Dc],λ_ _ _ _=>.bool _,rfl⟩
theorem pu(s:ByteArray):s.toList=s.data.toList:=ByteArray.toList_eq s
theorem apv(x y:List UInt8):(x==y)=decide (x=y):=by rw[B5];simp
theorem apw{o:BinOp}{x y:ByteArray}{v:V}(b:amx o x.data.toList y.data.toList=some (true,v)):
  ∃cv,(∀w:World,(Cx o x y).run P w=.ok cv w)∧(∀I ρ N w,VRel I ρ N w v cv)∧v.bare=true:=by
 unfold amx at b;split at b<;>(try simp only[Ah,Ap,true_and,decide_eq_true_eq,om] at b)
 ·obtain⟨c,rfl⟩:=b;refine⟨.string (x++y),λw=>?_,λ_ _ _ _=>.str _ _ (by simp) (by simpa [ByteArray.size_append] using c),rfl⟩;have:¬(9223372036854775807<(x.size:Int)+(y.size:Int)):=by unfold dl at c;omega
  simp[Cx,BT,Bb,Bo,this]
 ·subst b;exact⟨.bool (decide (x.data.toList=y.data.toList)),λw=>by simp only[Cx,pu,apv];rfl,λ_ _ _ _=>.bool _,rfl⟩
 ·subst b;exact⟨.bool (!decide (x.data.toList=y.data.toList)),λw=>by simp only[Cx,pu,apv];rfl,λ_ _ _ _=>.bool _,rfl⟩
 ·subst b;exact⟨.bool (CR x.data.toList y.data.toList),λw=>by simp[Cx,pu],λ_ _ _ _=>.bool _,rfl⟩
 ·subst b;exact⟨.bool (CR x.data.toList y.data.toList||decide (x.data.toList=y.data.toList)),λw=>by simp only[Cx,pu,apv];rfl,λ_ _ _ _=>.bool _,rfl⟩
 ·subst b;exact⟨.bool (!(CR x.data.toList y.data.toList||decide (x.data.toList=y.data.toList))),λw=>by simp only[Cx,pu,apv];rfl,λ_ _ _ _=>.bool _,rfl⟩
 ·subst b;exact⟨.bool (!Op.bytesLess x.data.toList y.data.toList),λw=>by simp[Cx,pu],λ_ _ _ _=>.bool _,rfl⟩
 ·simp at b
end
section
variable{w:World}{g:Gh}{s s':St}{a:Act}{P:Program}{Γ:av}{m:Oper}{next:Act->World->Prop}{Q:Exit->Act->World->Prop}
theorem alc{k k':IntKind}{x y:Int}(d:0<=y)(c:k.min<=x∧x<=k.max):
  (∀w:World,(Op.shift .shl k x k' y).run P w=.ok (.int k (aj0 k x y)) w)∧(∀w:World,(Op.shift .shr k x k' y).run P w=.ok (.int k (aj1 k x y)) w)
   ∧(∀I ρ N w,VRel I ρ N w (.int k (aj0 k x y)) (.int k (aj0 k x y)))∧(∀I ρ N w,VRel I ρ N w (.int k (aj1 k x y)) (.int k (aj1 k x y))):=by
 have b:¬y<0:=by omega
 exact⟨λw=>by simp[Op.shift,b,aj0],λw=>by simp[Op.shift,b,aj1],λ_ _ _ _=>.int _ _ (gt _ _),λ_ _ _ _=>.int _ _ (aqK _ _ _ c)⟩
theorem ati{d:Nat}{o:BinOp}{x y:aw}(e:a7 P (.bin d o x y) m=true)(B:step Γ (.bin d o x y) s=some (true,s'))(h:SR g s w a)(C:cF g s w a s' next):m.wp P a w next Q:=by
 obtain⟨dst,op,ty,pos,O,gd⟩:=m;simp only[a7,Ac,beq_iff_eq] at e;obtain⟨rfl,e⟩:=e;split at e
 ·rename_i o' t X y' t';simp only[Ac,decide_eq_true_eq] at e;obtain⟨rfl,S,h2⟩:=e;have r:=aI S h.er;have i:=aI h2 h.er;simp only[step,An] at B;obtain⟨⟨c,v⟩,b,B⟩:=B;simp only[Ap] at B;obtain⟨rfl,rfl⟩:=B;generalize j:a.eval X=cx at r;generalize A:a.eval y'=cy at i;unfold arH at b;split at b
  ·rename_i k p k' q H I;rw[H] at r;rw[I] at i;cases r with
   |int _ _ hp=>
   cases i with
   |int _ _ hq=>
   split at b;·simp only[Ah,Ap,decide_eq_true_eq] at b;obtain⟨f,rfl⟩:=b;obtain⟨N,L,J,M⟩:=alc (P:=P) (k':=k') f hp;refine aH h rfl (cv:=.int k (aj0 k p q)) ?_ (J _ _ _ _) rfl C;simp[execOp,j,A,eqGuard,binOp,N]
   ·simp only[Ah,Ap,decide_eq_true_eq] at b;obtain⟨f,rfl⟩:=b;obtain⟨N,L,J,M⟩:=alc (P:=P) (k':=k') f hp;refine aH h rfl (cv:=.int k (aj1 k p q)) ?_ (M _ _ _ _) rfl C;simp[execOp,j,A,eqGuard,binOp,L]
   ·rename_i Y W;split at b;·rename_i hk;subst hk;obtain⟨cv,u,D,F⟩:=apt (P:=P) b hp;have u:=u w;refine aH h rfl (cv:=cv) ?_ (D _ _ _ _) F C;cases o<;>simp_all [execOp,eqGuard,binOp]
    ·simp at b
  ·rename_i p q H I;rw[H] at r;rw[I] at i;cases r with
   |str _ sx E Z=>
   cases i with
   |str _ sy G R=>
   subst E G;obtain⟨cv,u,D,F⟩:=apw (P:=P) b;have u:=u w;refine aH h rfl (cv:=cv) ?_ (D _ _ _ _) F C;cases o<;>simp_all [execOp,eqGuard,binOp]
  ·simp at b
 ·simp at e
theorem im{e:TypeId}{k:EK}(h:wE P e k=true):∃i z,P.info? e=some i∧i.size=k.sz∧i.bytes=k.bytes∧i.zero=some z∧nx P e=some k.isAgg∧
  jJ (enc k (am k)) z.cells.toList=true∧z.cells.size=k.sz:=by
 unfold wE at h;rw[Ac] at h;obtain⟨-,h⟩:=h;split at h
 ·rename_i i f;simp only[Ac,beq_iff_eq] at h;obtain⟨c,j,d,b⟩:=h;split at b;·rename_i z o;simp only[Ac,beq_iff_eq] at b;exact⟨i,z,f,c,j,o,d,b.1,b.2⟩
  ·simp at b
 ·simp at h
theorem wv{e:TypeId}{k:EK}(h:wE P e k=true)(b:k=.u8):e=nk P:=by subst b;unfold wE at h;rw[Ac] at h;simpa using h.1
theorem dG{t:TypeId}{k:EK}(h:kz P t k=true):∃e,P.underlying t=some (.slice e)∧wE P e k=true:=by
 unfold kz at h;split at h;·rename_i e b;exact⟨e,b,h⟩
 ·simp at h
theorem oq{t:TypeId}{n:Nat}(h:fR P t=some n)(w:World):(sizeOf t).run P w=.ok n w:=by unfold fR at h;obtain⟨i,b,rfl⟩:=An.1 h;simp[sizeOf,typeInfo,b]
theorem acz{t:TypeId}{b:Bool}(h:nx P t=some b)(w:World):(isAgg t).run P w=.ok b w:=by
 unfold nx at h;split at h;·rename_i f e;obtain rfl:=Au h;simp[isAgg,run_underlying e]
 ·rename_i f c e;obtain rfl:=Au h;simp[isAgg,run_underlying e]
 ·rename_i d j i e;obtain rfl:=Au h;cases d<;>simp_all [isAgg,run_underlying e]
 ·simp at h
theorem atj{d:Nat}{k:EK}{x i:aw}(q:a7 P (.ixa d k x i) m=true)(r:step Γ (.ixa d k x i) s=some (true,s'))(h:SR g s w a)(I:cF g s w a s' next):m.wp P a w next Q:=by
 obtain⟨dst,op,ty,pos,M,gd⟩:=m;simp only[a7,Ac,beq_iff_eq] at q;obtain⟨rfl,q⟩:=q;split at q
 ·rename_i t W R;simp only[Ac] at q;obtain⟨C,Y,O⟩:=q;have B:=aI Y h.er;have y:=aI O h.er;simp only[step] at r;split at r
  ·rename_i k' o l ki n hx L;split at r
   ·rename_i hk;subst hk;simp only[Ah,Ap,Ac,decide_eq_true_eq] at r;obtain⟨⟨Z,D⟩,rfl⟩:=r;rw[hx] at B;rw[L] at y;obtain⟨e,u1,C⟩:=dG C;obtain⟨inf,z,i1,i2,i3,i4,i5,_⟩:=im C;generalize E:a.eval W=cv at B;generalize v:a.eval R=ci at y;cases y;cases B with
    |sln=>simp at D;omega
    |sle=>simp at D;omega
    |sl _ _ _ b A X cap hl H hm S f J hw N=>
     subst hl;have G:n.toNat<l.length:=by omega
     have p:l[n.toNat]? =some l[n.toNat]:=Ab G;have hd:l.getD n.toNat (am k')=l[n.toNat]:=by simp[Ak,p]
     have F:∀w':World,(sizeOf e).run P w'=.ok k'.sz w':=λw'=>by simp[sizeOf,typeInfo,i1,i2]
     refine aH h rfl (cv:=.pointer (some ⟨b,A+n.toNat*k'.sz,none⟩)) ?_ ?_ rfl I;·simp[execOp,E,v,Instr.indexAt,asIntOf,run_underlying u1,Z,D,F,BD]
     ·rw[hd];exact .ea _ _ _ (f n.toNat) (s9 _ _) (λj u=>J _ _ _ p u) (λj u=>hw _ _ _ p u) (λj c u=>N _ _ _ _ p u)
   ·simp at r
  ·simp at r
 ·simp at q
theorem sB{v:Value}{k:IntKind}{n:Int}{y:Nat}{b:BoundsCode}(d:0<=n)(c:n<=y)(w:World):(Instr.sliceBound (.int k n) y b).run P w=.ok n.toNat w:=by simp[Instr.sliceBound,asIntOf,d,c]
theorem yz{e cap:Nat}{isS:Bool}{E A:Option aw}{f c:Option Operand}{p q:Nat}(I:e<=cap)(o:ke E f=true)(i:ke A c=true)
  (b:xk e (eK s E) (eK s A)=some (true,p,q)) (h:SR g s w a):
  (Cy isS e cap (f.map a.eval) (c.map a.eval) none).run P w=.ok (p,q,cap) w∧p<=q∧q<=e:=by
 have d:∀(x:aw)(y:Operand)(k:IntKind)(n:Int),aJ x y=true->x.ev s=.int k n->a.eval y=.int k n:=by intro x y k n C j;have r:=aI C h.er;rw[j] at r;generalize J:a.eval y=cv at r;cases r;rfl
 cases E with
 |none=>
  cases f with
  |some _=>simp[ke] at o
  |none=>
  cases A with
  |none=>
   cases c with
   |some _=>simp[ke] at i
   |none=>
   simp only[eK,xk,Ah,Ap,true_and] at b;obtain⟨rfl,rfl⟩:=b;refine⟨by simp[Cy],by omega,by omega⟩
  |some y=>
   cases c with
   |none=>simp[ke] at i
   |some M=>
   simp only[ke] at i;simp only[eK] at b;cases t:y.ev s<;>rw[t] at b<;>simp[xk] at b;rename_i k n;obtain⟨⟨u,D⟩,rfl,rfl⟩:=b;have:=d _ _ _ _ i t;refine⟨?_,by omega,by omega⟩;simp[Cy,this,sB (P:=P) (v:=.int k n) u (show n<=(cap:Int) by omega)]
 |some x=>
  cases f with
  |none=>simp[ke] at o
  |some O=>
  simp only[ke] at o;cases A with
  |none=>
   cases c with
   |some _=>simp[ke] at i
   |none=>
   simp only[eK] at b;cases j:x.ev s<;>rw[j] at b<;>simp[xk] at b;rename_i k n;obtain⟨⟨u,D⟩,rfl,rfl⟩:=b;have:=d _ _ _ _ o j;refine⟨?_,by omega,by omega⟩;simp[Cy,this,sB (P:=P) (v:=.int k n) u D]
  |some y=>
   cases c with
   |none=>simp[ke] at i
   |some M=>
   simp only[ke] at i;simp only[eK] at b;cases j:x.ev s<;>rw[j] at b<;>cases t:y.ev s<;>rw[t] at b<;>simp[xk] at b;rename_i k n G B;obtain⟨⟨⟨u,D⟩,F,N⟩,rfl,rfl⟩:=b;have H:=d _ _ _ _ o j;have L:=d _ _ _ _ i t;refine⟨?_,by omega,by omega⟩;simp[Cy,H,L,sB (P:=P) (v:=.int G B) u (show B<=(cap:Int) by omega),sB (P:=P) (v:=.int k n) F (show n<=(B.toNat:Int) by omega)]
theorem asT{d:Nat}{x:aw}{u k:Option aw}(f:a7 P (.subs d x u k) m=true)(e:step Γ (.subs d x u k) s=some (true,s'))(h:SR g s w a)(v:cF g s w a s' next):m.wp P a w next Q:=by
 obtain⟨dst,O,ty,pos,B,L⟩:=m;simp only[a7,Ac,beq_iff_eq] at f;obtain⟨rfl,f⟩:=f;split at f
 ·rename_i t E H A;simp only[Ac] at f;obtain⟨r,F,C,G⟩:=f;have i:=aI F h.er;simp only[step] at e;split at e
  ·rename_i l I;simp only[An] at e;obtain⟨⟨c,p,q⟩,o,e⟩:=e;simp only[Ap] at e;obtain⟨rfl,rfl⟩:=e;rw[I] at i;split at r
   ·rename_i J;generalize j:a.eval E=cv at i;cases i with
    |str _ b D R=>
     subst D;rw[om] at o;obtain⟨y,N,M⟩:=yz (P:=P) (isS:=false) (Am _) C G o h;refine aH h rfl (cv:=.string (b.extract p q)) ?_ (.str _ _ ?_ ?_) rfl v;·simp[execOp,j,Cp,CK,run_underlying J,y]
     ·simp[List.extract_eq_take_drop,List.drop_take]
     ·simp[ByteArray.size_extract];omega
   ·simp at r
  ·simp at e
 ·simp at f
theorem asU{d:Nat}{k:EK}{x:aw}{lo F:Option aw}(G:a7 P (.subl d k x lo F) m=true)(A:step Γ (.subl d k x lo F) s=some (true,s'))(h:SR g s w a)(O:cF g s w a s' next):m.wp P a w next Q:=by
 obtain⟨dst,op,ty,pos,a4,gd⟩:=m;simp only[a7,Ac,beq_iff_eq] at G;obtain⟨rfl,G⟩:=G;split at G
 ·rename_i t x' bY a3;simp only[Ac] at G;obtain⟨Y,h2,Z,h4⟩:=G;have X:=aI h2 h.er;simp only[step] at A;split at A
  ·rename_i k' o l hx;split at A
   ·rename_i hk;subst hk;simp only[An] at A;obtain⟨⟨c,p,q⟩,W,A⟩:=A;simp only[Ap] at A;obtain⟨rfl,rfl⟩:=A;rw[hx] at X;obtain⟨e,S,Y⟩:=dG Y;obtain⟨inf,z,i1,i2,i3,i4,i5,_⟩:=im Y;have D:∀w':World,(sizeOf e).run P w'=.ok k'.sz w':=λw'=>by simp[sizeOf,typeInfo,i1,i2]
    generalize C:a.eval x'=cv at X;cases X with
    |sln=>
     obtain⟨E,e2,R⟩:=yz (P:=P) (isS:=true) (Am _) Z h4 W h;simp only[AA] at E R;obtain rfl:q=0:=by omega
     obtain rfl:p=0:=by omega
     refine aH h rfl (cv:=.slice none 0 0) ?_ ?_ rfl O;·simp[execOp,C,Cp,CK,run_underlying S,E,D]
     ·simpa using VRel.sln (I:=g.I) (ρ:=g.ρ) (N:=s.hp.length) (w:=w) k' (.may false)
    |sle _ _ ad _=>
     obtain⟨E,e2,R⟩:=yz (P:=P) (isS:=true) (Am _) Z h4 W h;simp only[AA] at E R;obtain rfl:q=0:=by omega
     obtain rfl:p=0:=by omega
     refine aH h rfl (cv:=.slice (some ad) 0 0) ?_ ?_ rfl O;·simp[execOp,C,Cp,CK,run_underlying S,E,D]
     ·simpa using VRel.sle (I:=g.I) (ρ:=g.ρ) (N:=s.hp.length) (w:=w) k' (.may false) ad (by simp)
    |sl _ _ _ b r bl cap hl M hm a5 f hI hw al=>
     subst hl;obtain⟨E,e2,R⟩:=yz (P:=P) (isS:=true) M Z h4 W h;by_cases L:cap=p
     ·subst L;have hq:q=cap:=by omega
      subst hq;have J:(l.take q).drop q=[]:=by simp
      refine aH h rfl (cv:=.slice (some ⟨b,r,none⟩) 0 0) ?_ ?_ rfl O;·simp[execOp,C,Cp,CK,run_underlying S,E,D]
      ·rw[J];exact .sl k' (.may false) [] b r 0 0 rfl (by simp) (by simp[dl]) (by simp) f (λi x j F=>by simp at F) (λi x j F=>by simp at F) (λi x j v F=>by simp at F)
     ·refine aH h rfl (cv:=.slice (some ⟨b,r+p*k'.sz,none⟩) (q-p) (cap-p)) ?_ ?_ rfl O;·simp[execOp,C,Cp,CK,run_underlying S,E,D,L,BD]
      ·have u:∀(i:Nat) y,((l.take q).drop p)[i]? =some y->l[p+i]? =some y:=by
        intro i y B;simp only[A6,AO] at B;split at B;·exact B
        ·simp at B
       refine .sl k' (.may false) _ b _ _ _ ?_ ?_ (by omega) (by simp) (λi j=>f (p+i) j) ?_ ?_ ?_;·simp;omega
       ·simp;omega
       ·intro i y j B H;have:=hI _ _ _ (u i y B) H
        rwa [show r+p*k'.sz+i*k'.sz+j=r+(p+i)*k'.sz+j by rw[AL];omega]
       ·intro i y j B H;have:=hw _ _ _ (u i y B) H
        rwa [show r+p*k'.sz+i*k'.sz+j=r+(p+i)*k'.sz+j by rw[AL];omega]
       ·intro i y j v B H;exact al _ _ _ _ (u i y B) H
   ·simp at A
  ·simp at A
 ·simp at G
theorem atk{d e:Nat}{x:aw}(p:a7 P (.fad d e x) m=true)(y:step Γ (.fad d e x) s=some (true,s'))(h:SR g s w a)(F:cF g s w a s' next):m.wp P a w next Q:=by
 obtain⟨dst,Y,ty,pos,I,X⟩:=m;simp only[a7,Ac,beq_iff_eq] at p;obtain⟨rfl,p⟩:=p;split at p
 ·rename_i t G S;simp only[Ac] at p;obtain⟨k,M⟩:=p;have u:=aI M h.er;split at k
  ·rename_i fs R;split at k
   ·rename_i O C;simp only[Ac,beq_iff_eq] at k;obtain⟨J,k⟩:=k;have r:∀w':World,∃n,n≠0∧(sizeOf O.type).run P w'=.ok n w':=by
     intro w';unfold ahE fR at k;split at k;·rename_i n A;exact⟨n,by simpa using k,oq (by simpa [fR] using A) w'⟩
     ·simp at k
    obtain⟨n,D,r⟩:=r w;have i:∀b o,(Instr.fieldAt t (.pointer (some ⟨b,o,none⟩)) S).run P w=.ok (.pointer (some ⟨b,o+e,none⟩)) w:=by intro b o;simp[Instr.fieldAt,run_underlying R,C,BQ,fieldPlace,r,D,J,BD]
    simp only[step] at y;split at y
    ·rename_i cs E;obtain rfl:_=s':=by simpa using y
     rw[E] at u;generalize q:a.eval G=cv at u;cases u with
     |ea _ b o f W H N L=>
      refine aH h rfl (cv:=.pointer (some ⟨b,o+e,none⟩)) (by simp[execOp,q,i]) ?_ rfl F;refine .ea _ _ _ (λj=>f (e+j)) (λc B=>W c (BC B)) ?_ ?_ ?_
      ·intro j v;simp only[BJ] at v;have:=H (e+j) (by omega)
       rwa [C5]
      ·intro j v;simp only[BJ] at v;have:=N (e+j) (by omega)
       rwa [C5]
      ·intro j c v;rw[A6] at v;exact L _ _ v
    ·rename_i id o E;obtain rfl:_=s':=by simpa using y
     rw[E] at u;generalize q:a.eval G=cv at u;cases u with
     |ptr _ _ hid=>exact aH h rfl (cv:=.pointer (some ⟨g.ρ id,o+e,none⟩)) (by simp[execOp,q,i]) (.ptr _ _ hid) rfl F
    ·simp at y
   ·simp at k
  ·simp at k
 ·simp at p
theorem tX{I:Nat->Nat->Prop}{ρ:Nat->Nat}{N:Nat}{agg:Bool}{cs:List V}{vs:List Value}(o:∀c∈cs,c.one=true)(k:cs.length=vs.length)(h:agg=true∨cs.length=1)
  (j:∀(i:Nat) c cv,cs[i]? =some c->vs[i]? =some cv->VRel I ρ N w c cv):VRel I ρ N w (d6 agg cs) (if agg then .agg vs.toArray else vs.headD undef):=by
 cases agg with
 |true=>
  simp only[d6,if_true];refine .agg _ _ (by simpa using k) ?_ ?_ ?_;·intro c d;obtain⟨e,b,rfl⟩:=AE.1 d;rw[mu];exact o e b
  ·intro i c cv d _;rw[Ay,An] at d;obtain⟨e,_,rfl⟩:=d;exact acv e cv
  ·intro i c cv d f;rw[Ay,An] at d;obtain⟨e,b,rfl⟩:=d;exact(j i _ _ b (by simpa using f)).disown
 |false=>
  have h:cs.length=1:=by simpa using h
  match cs,vs,k,h with
  | [c],[v],_,_=>exact j 0 c v rfl rfl
theorem atl{d i:Nat}{x:aw}(b:a7 P (.ext d i x) m=true)(c:step Γ (.ext d i x) s=some (true,s'))(h:SR g s w a)(r:cF g s w a s' next):m.wp P a w next Q:=by
 obtain⟨dst,C,ty,pos,t,A⟩:=m;simp only[a7,Ac,beq_iff_eq] at b;obtain⟨rfl,b⟩:=b;split at b
 ·rename_i v B;simp only[Ac,beq_iff_eq] at b;obtain⟨rfl,j⟩:=b;have k:=aI j h.er;simp only[step] at c;split at c
  ·rename_i vs y;split at c
   ·rename_i p;obtain rfl:_=s':=by simpa using c
    rw[y] at k;generalize o:a.eval v=cv at k;cases k with
    |tup _ cvs D u=>
     have q:vs[i]? =some vs[i]:=Ab p;have f:i<cvs.size:=by omega
     have j:cvs[i]? =some cvs[i]:=Ao f;have e:vs[i]?.getD V.undef=vs[i]:=by simp[q]
     refine aH h rfl (cv:=cvs[i]) (by simp[execOp,o,Instr.extract,j]) ?_ (dV _) r;rw[e];exact(u _ _ _ q j).disown
   ·simp at c
  ·simp at c
 ·simp at b
theorem atm{d:Option Nat}{x:aw}(j:a7 P (.nck d x) m=true)(f:step Γ (.nck d x) s=some (true,s'))(h:SR g s w a)(t:cF g s w a s' next):m.wp P a w next Q:=by
 obtain⟨dst,D,ty,pos,r,A⟩:=m;simp only[a7,Ac,beq_iff_eq] at j;obtain⟨rfl,j⟩:=j;split at j
 ·rename_i q;have b:=aI j h.er;have key:∀v cv,VRel g.I g.ρ s.hp.length w v cv->v.bare=true->(execOp a.eval ⟨dst,.nilCheck q,ty,pos,r,A⟩).run P w=.ok (.value cv) w->cF g s w a (s.setO dst v) next->(⟨dst,.nilCheck q,ty,pos,r,A⟩:Oper).wp P a w next Q:=by
   intro v cv B C u y;cases dst with
   |some d=>exact aH h rfl u B C y
   |none=>unfold CF Df;rw[u];exact y _ _ g h (FR.refl _ _ _) rfl
  simp only[step] at f;split at f
  ·rename_i id o p;obtain rfl:_=s':=by simpa using f
   rw[p] at b;generalize c:a.eval q=cv at b;have e:=b;cases b;exact key _ _ e rfl (by simp[execOp,c]) t
  ·rename_i cs p;obtain rfl:_=s':=by simpa using f
   rw[p] at b;generalize c:a.eval q=cv at b;have e:=b;cases b;exact key _ _ e rfl (by simp[execOp,c]) t
  ·rename_i id k i o p;obtain rfl:_=s':=by simpa using f
   rw[p] at b;generalize c:a.eval q=cv at b;have e:=b;cases b;exact key _ _ e rfl (by simp[execOp,c]) t
  ·simp at f
 ·simp at j
theorem qj{t:TypeId}{n:Nat}{agg:Bool}{b o:Nat}{vs:List Value}(d:fR P t=some n)(c:nx P t=some agg)(e:agg=true∨n=1)(h:vs.length=n)
  (f:∀(j:Nat) v,vs[j]? =some v->w.cell? ⟨b,o+j,none⟩=some v):
  (Dh t (.pointer (some ⟨b,o,none⟩))).run P w=.ok (if agg then .agg vs.toArray else vs.headD undef) w:=by
 cases agg with
 |true=>have:=run_loadCells_list (P:=P) w ⟨b,o,none⟩ vs (λj v i=>by rw[BD];exact f j v i);rw[h] at this;simp[Dh,BQ,loadVar,acz c,oq d,this]
 |false=>
  have e:n=1:=by simpa using e
  subst e;match vs,h with
  | [v],_=>have:=f 0 v rfl;simp only[Cl] at this;simp[Dh,BQ,loadVar,acz c,this]
theorem ahF{id:Nat}{cs:List V}(b:s.obj id=some cs):s.hp[id]? =some (some cs)∧dm cs=false∧oC cs=false:=by
 unfold St.obj at b;simp only[Ak] at b;cases i:s.hp[id]? with
 |none=>rw[i] at b;simp at b
 |some x=>
  rw[i] at b;simp only[Bd] at b;split at b;·cases b
  ·cases b
  ·cases b
  ·cases b
  ·rename_i h e f d;subst b;refine⟨rfl,?_,?_⟩
   rotate_left
   ·cases j:oC cs with
    |false=>rfl
    |true=>obtain⟨k,es,rfl⟩:=acx j;exact(f _ _ rfl).elim
   cases c:dm cs with
   |false=>rfl
   |true=>
    unfold dm at c;split at c;·exact(h _ rfl).elim
    ·exact(e _ _ rfl).elim
    ·exact(d _ rfl).elim
    ·cases c
theorem jK{id:Nat}{cs:List V}(b:s.obj id=some cs):s.hp[id]? =some (some cs)∧dm cs=false:=⟨(ahF b).1,(ahF b).2.1⟩
theorem ta{id:Nat}{cs:List V}(h:HR g s.hp w)(j:s.obj id=some cs):∃b e,w.heap[g.ρ id]? =some (.cells b e (0,0))∧aeP g s.hp.length w id cs b e:=by obtain⟨d,k,o⟩:=ahF j;obtain⟨b,e,p,f,c⟩:=(h.obj id cs d).row o;obtain⟨rfl,i⟩:=c.low k;exact⟨b,e,f,i⟩
theorem aM{b:Nat}{c:Array Value}{e:TypeId}{d:Nat×Nat}(h:w.heap[b]? =some (.cells c e d))(j:Nat):w.cell? ⟨b,j,none⟩=c[j]?:=by simp[By,h]
theorem apy{d n:Nat}{agg:Bool}{x:aw}(p:a7 P (.ld d n agg false x) m=true)(r:step Γ (.ld d n agg false x) s=some (true,s'))(h:SR g s w a)(L:cF g s w a s' next):m.wp P a w next Q:=by
 obtain⟨dst,op,ty,pos,X,gd⟩:=m;simp only[a7,Ac,beq_iff_eq] at p;obtain⟨rfl,p⟩:=p;split at p
 ·rename_i t O;simp only[Ac,beq_iff_eq,Ba] at p;obtain⟨M,R,u,h4⟩:=p;have D:=aI h4 h.er;simp only[step] at r;split at r
  ·rename_i cs H;split at r
   ·rename_i G;obtain rfl:_=s':=by simpa using r
    rw[H] at D;generalize k:a.eval O=cv at D;cases D with
    |ea _ b o f e1 hI hw Y=>
     have q:=tX (agg:=agg) (cs:=cs.take n) (vs:=(A8 n).map f) (w:=w) (I:=g.I) (ρ:=g.ρ) (N:=s.hp.length)
      (λc A=>e1 c (Be A)) (by simp;omega) (by
       rcases u with u|u;·exact .inl u
       ·right;simp;omega)
      (λi c cv p k=>by
       simp only[AO] at p;split at p;·rename_i E;simp[E] at k;subst k;exact Y _ _ p
       ·simp at p)
     refine aH h rfl (cv:=if agg then .agg ((A8 n).map f).toArray else ((A8 n).map f).headD undef) ?_ q.disown (dV _) L;have:=qj (P:=P) (w:=w) (b:=b) (o:=o) (vs:=(A8 n).map f) M R u (by simp) (λj v B=>by rw[Ay,An] at B;obtain⟨j',F,rfl⟩:=B;obtain⟨J,rfl⟩:=Ad.1 F;simp only[DH] at J;simpa using hw j (by omega));simp[execOp,k,this]
   ·simp at r
  ·rename_i id o H;split at r
   ·rename_i cs W;split at r
    ·rename_i G;obtain rfl:_=s':=by simpa using r
     rw[H] at D;generalize k:a.eval O=cv at D;cases D with
     |ptr _ _ hid=>
      obtain⟨y,e,Z,C⟩:=ta h.hr W;have S:=C.len
      have q:=tX (agg:=agg) (cs:=(cs.drop o).take n) (vs:=(y.toList.drop o).take n) (w:=w) (I:=g.I) (ρ:=g.ρ) (N:=s.hp.length)
       (λc A=>C.one c (BC (Be A))) (by simp;omega) (by
        rcases u with u|u;·exact .inl u
        ·right;simp;omega)
       (λi c cv p k=>by
        simp only[AO,A6] at p k;split at p;·rename_i E;simp only[E,if_true] at k;exact C.rel _ _ _ p (by simpa using k)
        ·simp at p)
      refine aH h rfl (cv:=if agg then .agg ((y.toList.drop o).take n).toArray else ((y.toList.drop o).take n).headD undef) ?_ q.disown (dV _) L;have:=qj (P:=P) (w:=w) (b:=g.ρ id) (o:=o) (vs:=(y.toList.drop o).take n) M R u (by simp;omega) (λj v B=>by
       rw[aM Z];simp only[AO,A6] at B;split at B;·simpa using B
       ·simp at B)
      simp[execOp,k,this]
    ·simp at r
   ·simp at r
  ·simp at r
 ·simp at p
theorem atX{d:Nat}{A:Bool}{x y:aw}(c:a7 P (.mx d A x y) m=true)(j:step Γ (.mx d A x y) s=some (true,s'))(h:SR g s w a)(F:cF g s w a s' next):m.wp P a w next Q:=by
 obtain⟨dst,H,ty,pos,C,I⟩:=m;simp only[a7,Ac,beq_iff_eq] at c;obtain⟨rfl,c⟩:=c;simp only[step] at j;have fin:∀e f v (b:Builtin),H=.call ⟨.builtin b,⟨[e,f]⟩,v⟩->(b=if A then Builtin.min else Builtin.max)->aJ x e=true->aJ y f=true->(⟨some d,H,ty,pos,C,I⟩:Oper).wp P a w next Q:=by
  rintro e f v b rfl G r t;have D:=aI r h.er;have B:=aI t h.er;split at j
  ·rename_i k p k' q L M;split at j
   ·rename_i J;subst J;obtain rfl:_=s':=by simpa using j
    rw[L] at D;rw[M] at B;generalize o:a.eval e=O at D;generalize u:a.eval f=R at B;cases D with
    |int _ _ hp=>
    cases B with
    |int _ _ N=>
    cases A with
    |true=>subst G;refine aH h rfl (cv:=.int k (if q<p then q else p)) ?_ (.int _ _ (by split<;>assumption)) rfl F;simp[execOp,resolve,o,u,invoke,builtin,Builtin.min_,Builtin.min2]
    |false=>subst G;refine aH h rfl (cv:=.int k (if p<q then q else p)) ?_ (.int _ _ (by split<;>assumption)) rfl F;simp[execOp,resolve,o,u,invoke,builtin,Builtin.max_,Builtin.max2]
   ·simp at j
  ·simp at j
 split at c;·rename_i e f v i;simp only[Ac] at c;obtain⟨E,r,t⟩:=c;exact fin e f _ .min (mv i) (by simp[E]) r t
 ·rename_i e f v i;simp only[Ac,Bk] at c;obtain⟨E,r,t⟩:=c;exact fin e f _ .max (mv i) (by simp[E]) r t
 ·simp at c
theorem aj5{t:TypeId}(b:P.underlying t=some .bool)(p q:Bool)(w:World):(Op.equal t (.bool p) (.bool q)).run P w=.ok (p==q) w:=by show (C0 (9999+1) t _ _).run P w=_;rw[C0];simp[run_underlying b]
theorem atn{d:Nat}{b:Bool}{x y:aw}(c:a7 P (.beq d b x y) m=true)(e:step Γ (.beq d b x y) s=some (true,s'))(h:SR g s w a)(r:cF g s w a s' next):m.wp P a w next Q:=by
 obtain⟨dst,L,ty,pos,u,H⟩:=m;simp only[a7,Ac,beq_iff_eq] at c;obtain⟨rfl,c⟩:=c;split at c
 ·rename_i o' t A E J;simp only[Ac,decide_eq_true_eq] at c;obtain⟨rfl,o,v,B⟩:=c;have C:P.underlying t=some .bool:=by
   split at o;·assumption
   ·simp at o
  have j:=aI v h.er;have f:=aI B h.er;simp only[step] at e;generalize i:a.eval A=G at j;generalize k:a.eval E=I at f;split at e
  ·rename_i p q D F;obtain rfl:_=s':=by simpa using e
   rw[D] at j;rw[F] at f;cases j with
   |bool=>
   cases f with
   |bool=>
   refine aH h rfl (cv:=.bool (cond b (!(p==q)) (p==q))) ?_ (.bool _) rfl r;cases b<;>simp[execOp,i,k,eqGuard,binOp,aj5 C]
  ·simp at e
 ·simp at c
theorem amA{t e:TypeId}(b:P.underlying t=some (.slice e))(a:Addr)(l c:Nat)(w:World):(Op.equal t (.slice (some a) l c) (.slice none 0 0)).run P w=.ok false w:=by show (C0 (9999+1) t _ _).run P w=_;rw[C0];simp[run_underlying b]
theorem asV{d:Nat}{x:aw}(i:a7 P (.snil d x) m=true)(j:step Γ (.snil d x) s=some (true,s'))(h:SR g s w a)(y:cF g s w a s' next):m.wp P a w next Q:=by
 obtain⟨dst,R,ty,pos,B,L⟩:=m;simp only[a7,Ac,beq_iff_eq] at i;obtain⟨rfl,i⟩:=i;split at i
 ·rename_i o' t D X O;simp only[Ac,decide_eq_true_eq] at i;obtain⟨rfl,u,C,v⟩:=i;obtain⟨e,F⟩:∃e,P.underlying t=some (.slice e):=by
   split at u;·exact⟨_,by assumption⟩
   ·simp at u
  split at v
  ·have q:=aI C h.er;simp only[step] at j;generalize p:a.eval D=J at q;split at j
   ·rename_i k o xs H;simp only[Ah,Ap,decide_eq_true_eq] at j;obtain⟨c,rfl⟩:=j;rw[H] at q;cases q with
    |sln=>simp at c
    |sle=>simp at c
    |sl _ _ _ b A E cap Y G N S f I W M=>
    refine aH h rfl (cv:=.bool false) ?_ (.bool _) rfl y;have r:a.eval (.const (.slice none 0 0))=.slice none 0 0:=rfl;simp[execOp,p,r,eqGuard,binOp,amA F]
   ·simp at j
  ·simp at v
 ·simp at i
end
section
variable{w w':World}{g g':Gh}{s s':St}{a:Act}{P:Program}
theorem oD(k:EK)(x:Ty k):∀c∈enc k x,c.bare=true:=by cases k<;>simp[enc,V.bare]
def tY(p:Option Occ)(s:St):Prop:=
 match p with
 |some (.slot n)=>∀v,s.env[n]? =some v->v.bare=true
 |some (.cell id j)=>∀cs v,s.hp[id]? =some (some cs)->cs[j]? =some v->v.bare=true
 |_=>True
theorem SR.keep(h:SR g s w a)(p:Option Occ)(hp:tY p s)(y:g'.β=g.β)(u:Up g.I g.ρ s.hp.length w g'.I g'.ρ s.hp.length w')
  (Q:∀d b,g.O b=some d->p≠some d->g'.O b=some d∧w'.heap[b]? =w.heap[b]?∧∀j,g'.I b j->g.I b j)
  (D:∀(id:Nat) cs,s.hp[id]? =some (some cs)->w'.heap[g.ρ id]? =w.heap[g.ρ id]?∧g'.O (g.ρ id)=none∧∀j,g'.I (g.ρ id) j->g.I (g.ρ id) j)
  (E:∀b j,g'.I b j->py w' b j) (G:∀b o,g'.O b=some o->b<w'.heap.size):SR g' s w' a:=by
 have own:∀d v cv,au g w d v cv->(p=some d->v.bare=true)->au g' w' d v cv:=by
  intro d v cv t i;by_cases e:p=some d;·exact il (i e) _ _ _ _
  ·exact b7 t y (λb j r=>⟨u.mono b j r,u.cell b j r⟩) (λb N=>Q d b N e)
 have lt:∀(id:Nat) cs,s.hp[id]? =some (some cs)->id<s.hp.length:=λid cs hid=>(Ad.1 hid).1
 refine⟨⟨?_,?_,?_,?_,E,G⟩,⟨h.er.size,?_,?_⟩⟩
 ·intro id cs hid;refine(h.hr.obj id cs hid).keep ?_ λL e S t i=>⟨i.len,i.plain,i.typedUp y u.rho u.num rfl,i.cold,i.one,λj c cv m f=>(i.rel j c cv m f).up u,λj c cv m f=>?_,by rw[u.rho id (lt id cs hid)];exact i.bn⟩
  ·rw[u.rho id (lt id cs hid),(D id cs hid).1]
  ·refine own _ _ _ (i.own j c cv m f) ?_;rintro rfl;cases C:dm cs with
   |false=>rw[eN C] at m;exact hp cs c hid m
   |true=>
    unfold dm at C;split at C;·simp only[cellsOf,Ay,An] at m;obtain⟨_,_,rfl⟩:=m;rfl
    ·rename_i k xs;have J:=Ai m;simp only[cellsOf,AG] at J;obtain⟨x,_,F⟩:=J;exact oD k x c F
    ·rcases aqI m (i.one c (Ai m)) with⟨k,x,F⟩|⟨W,M,R,_,rfl⟩
     ·exact oD k x c F
     ·rfl
    ·cases C
 ·intro id q cs A t i H;rw[u.rho id (lt id cs t),u.rho q (lt q A i)];exact h.hr.apart id q cs A t i H
 ·intro id cs hid j r;rw[u.rho id (lt id cs hid)] at r;exact h.hr.notI id cs hid j ((D id cs hid).2.2 j r)
 ·intro id cs hid;rw[u.rho id (lt id cs hid)];exact(D id cs hid).2.1
 ·intro n v cv B f;exact(h.er.rel n v cv B f).up u
 ·intro n v cv B f;refine own _ _ _ (h.er.own n v cv B f) ?_;rintro rfl;exact hp v B
theorem SR.bare(h:SR g s w a)(n:Nat):SR g (s.set n (disown (s.get n))) w a:=by
 refine⟨h.hr,⟨by simp[St.set,h.er.size],?_,?_⟩⟩
 ·intro m v cv b c;simp only[St.set,AB] at b;by_cases e:n=m
  ·subst e;simp only[if_true] at b;split at b
   ·cases Au b;rename_i d;have:s.env[n]? =some (s.get n):=by simp[St.get,Ak,Ab d]
    exact(h.er.rel n _ cv this c).disown
   ·simp at b
  ·simp only[e,if_false] at b;exact h.er.rel m v cv b c
 ·intro m v cv b c;simp only[St.set,AB] at b;by_cases e:n=m
  ·subst e;simp only[if_true] at b;split at b;·cases Au b;exact au.disown _ _ _ _ _
   ·simp at b
  ·simp only[e,if_false] at b;exact h.er.own m v cv b c
theorem SR.after(h:SR g s w a)(x:aw):SR g (x.after s) w a:=by
 cases x with
 |tk n=>exact h.bare n
 |_=>exact h
theorem oE(x:aw)(s:St):(x.after s).hp=s.hp:=by cases x<;>rfl
theorem ww(n:Nat)(s:St):tY (some (.slot n)) ((aw.tk n).after s):=by
 intro v b;simp only[aw.after,St.set,AB,if_true] at b;split at b;·cases Au b;exact dV _
 ·simp at b
def Gh.reown(g:Gh)(b:Nat)(o:Occ):Gh:={g with O:=λc=>if c=b then some o else g.O c}
theorem SR.reown(h:SR g s w a){p q:Occ}(hp:tY (some p) s){b:Nat}(k:g.O b=some p):SR (g.reown b q) s w a:=by
 refine h.keep (some p) hp rfl (Up.refl _ _ _ _) ?_ ?_ h.hr.exI ?_
 ·intro r m c i;have:m≠b:=by
   rintro rfl;rw[k] at c;exact i c
  exact⟨by simp[Gh.reown,this,c],rfl,λj d=>d⟩
 ·intro id cs hid;refine⟨rfl,?_,λj d=>d⟩;have f:=h.hr.notO id cs hid;have:g.ρ id≠b:=by
   rintro e;rw[e,k] at f;simp at f
  simp[Gh.reown,this,f]
 ·intro m o c;simp only[Gh.reown] at c;split at c;·rename_i e;subst e;exact h.hr.oLt _ _ k
  ·exact h.hr.oLt _ _ c
theorem FR.reown{hp:List ai}{p q:Occ}{b:Nat}(f:g.O b=some p):FR g hp w (g.reown b q) hp w:=by
 refine⟨rfl,rfl,rfl,rfl,Am _,λ_ _ _ _=>rfl,Up.refl _ _ _ _,λ_ _ _ _ _ e=>e,?_,λ_ cs h=>.inl ⟨cs,h⟩⟩;intro d _ _ c;have:d≠b:=by rintro rfl;rw[f] at c;simp at c
 simp[Gh.reown,this,c]
theorem ahG{p q:Occ}{v:V}{cv:Value}(h:SR g s w a)(hp:tY (some p) s)(i:au g w p v cv):
  ∃g₁,SR g₁ s w a∧FR g s.hp w g₁ s.hp w∧g₁.I=g.I∧g₁.ρ=g.ρ∧au g₁ w q v cv:=by
 cases v with
 |sl k o xs=>
  cases o with
  |may u=>exact⟨g,h,FR.refl _ _ _,rfl,rfl,by simp[au]⟩
  |own=>
   cases cv with
   |slice d A cap=>
    cases d with
    |none=>exact⟨g,h,FR.refl _ _ _,rfl,rfl,by simp[au]⟩
    |some d=>obtain⟨c,j,f⟩:=i;exact⟨g.reown d.block q,h.reown hp c,FR.reown c,rfl,rfl,by simp[Gh.reown],j,f⟩
   |_=>exact⟨g,h,FR.refl _ _ _,rfl,rfl,by simp[au]⟩
 |raw n=>
  cases cv with
  |pointer d=>
   cases d with
   |none=>exact⟨g,h,FR.refl _ _ _,rfl,rfl,by simp[au]⟩
   |some d=>obtain⟨c,j,f⟩:=i;exact⟨g.reown d.block q,h.reown hp c,FR.reown c,rfl,rfl,by simp[Gh.reown],j,f⟩
  |_=>exact⟨g,h,FR.refl _ _ _,rfl,rfl,by simp[au]⟩
 |ul k xs=>
  rcases i with i|⟨b,cap,m,e,t,y,c,j,f,r,x⟩
  ·exact⟨g,h,FR.refl _ _ _,rfl,rfl,.inl i⟩
  ·exact⟨g.reown b q,h.reown hp r,FR.reown r,rfl,rfl,.inr ⟨b,cap,m,e,t,y,c,j,f,by simp[Gh.reown],x⟩⟩
 |_=>exact⟨g,h,FR.refl _ _ _,rfl,rfl,by simp[au]⟩
theorem SR.newRow(h:SR g s w a)(k:EK)(xs:List (Ty k))(cap d:Nat)(m:Array Value)(e:TypeId)(G:Nat×Nat)
  (al:w'.heap.size=w.heap.size+1) (f:∀b,b<w.heap.size->w'.heap[b]? =w.heap[b]?) (p:w'.heap[w.heap.size]? =some (.cells m e G))
  (W:w'.os=w.os) (Z:w'.tape=w.tape) (M:w'.output=w.output)
  {o:Fl} (Y:o=.may true->xs.length=cap) (N:xs.length<=cap) (hm:cap<=dl) (r:cap*k.sz<=m.size) (J:k=.u8->e=g.β)
  (S:∀j,xs.length*k.sz<=j->j<cap*k.sz->¬(G.1<=j∧j<G.2))
  (R:∀(i:Nat) x j v,xs[i]? =some x->(enc k x)[j]? =some v->∃cv,m[i*k.sz+j]? =some cv∧VRel g.I g.ρ s.hp.length w v cv) (X:k=.u8∨G=(0,0):=by first|exact .inl rfl|exact .inr rfl):
  ∃g',SR g' (s.set d (.sl k o xs)) w' (a.put (some d) (.slice (some ⟨w.heap.size,0,none⟩) xs.length cap))∧FR g s.hp w g' s.hp w':=by
 let g':Gh:={I:=λb j=>g.I b j∨(b=w.heap.size∧j<xs.length*k.sz),ρ:=g.ρ,O:=λb=>if b=w.heap.size then some (.slot d) else g.O b,β:=g.β}
 have A:∀b j,g.I b j->b<w.heap.size:=by intro b j y;exact(h.hr.exI b j y).lt
 have C:∀b j,b<w.heap.size->w'.cell? ⟨b,j,none⟩=w.cell? ⟨b,j,none⟩:=by intro b j q;simp[By,f b q]
 have u:Up g.I g.ρ s.hp.length w g'.I g'.ρ s.hp.length w':=⟨λb j y=>.inl y,λb j y=>C b j (A b j y),λ_ _=>rfl,Am _⟩
 have D:∀j,w'.cell? ⟨w.heap.size,j,none⟩=m[j]?:=λj=>aM p j
 have ad:xs.length*k.sz<=m.size:=AH (AN _ N) r;have hs:SR g' s w' a:=by
  refine h.keep none trivial rfl u ?_ ?_ ?_ ?_
  ·intro Q b q _;have t:=h.hr.oLt b Q q;refine⟨by simp[g',Bj t,q],f b t,?_⟩;rintro j (c|⟨c,_⟩);·exact c
   ·omega
  ·intro id cs hid;have t:=(h.hr.obj id cs hid).lt;refine⟨f _ t,by simp[g',Bj t,h.hr.notO id cs hid],?_⟩;rintro j (c|⟨c,_⟩);·exact c
   ·omega
  ·rintro b j (c|⟨rfl,c⟩);·exact(h.hr.exI b j c).blk (by first|exact f b (A b j c)|exact f2 b (A b j c))
   ·refine .row p (by omega) λ_ hz=>?_
    rcases X with rfl|rfl;·simp only[EK.sz,Du] at c;obtain⟨cv,B,F⟩:=R j _ 0 _ (Ab c) rfl;simp only[EK.sz,Du,Cl] at B;cases F;exact⟨_,B⟩
    ·simp at hz
  ·intro b o q;simp only[g'] at q;split at q;·omega
   ·have:=h.hr.oLt b o q;omega
 have H:∀(i:Nat) x,xs[i]? =some x->i<xs.length:=λi x E=>(Ad.1 E).1
 have L:∀(i j:Nat),i<xs.length->j<k.sz->i*k.sz+j<xs.length*k.sz:=by
  intro i j y c
  calc i*k.sz+j<i*k.sz+k.sz:=by omega
   _=(i+1)*k.sz:=by rw[AL,Cw]
   _<=xs.length*k.sz:=AN _ y
 refine⟨g',hs.set d ?_ ?_,⟨rfl,W,Z,M,by omega,λb q _ _=>f b q,u,?_,?_,λ_ cs h=>.inl ⟨cs,h⟩⟩⟩
 ·refine .sl k o xs _ _ _ _ rfl N hm Y (λi j=>m[i*k.sz+j]?.getD undef) ?_ ?_ ?_;·intro i x j E c;rw[bT] at c;exact .inr ⟨rfl,by have:=L i j (H i x E) c;omega⟩
  ·intro i x j E c;obtain⟨cv,B,_⟩:=R i x j _ E (Ab c);rw[A1,D,B];rfl
  ·intro i x j v E c;obtain⟨cv,B,F⟩:=R i x j v E c;rw[B];exact F.up u
 ·cases o with
  |may u=>simp[au]
  |own=>
  refine⟨by simp[g'],⟨m,e,G,p,by simpa using r,J⟩,?_⟩;intro j B F;simp only[A1] at B F;refine⟨?_,?_⟩
  ·rintro(y|⟨_,y⟩);·exact absurd (A _ _ y) (by simp)
   ·omega
  ·have:=S j B F;simp only[BA,p];simpa using this
 ·rintro b j q _ _ (c|⟨c,_⟩);·exact c
  ·omega
 ·intro b q _ hO;simp[g',Bj q,hO]
end
section
variable{w w':World}{g g':Gh}{s s':St}{a:Act}{P:Program}{Γ:av}{m:Oper}{next:Act->World->Prop}{Q:Exit->Act->World->Prop}
theorem eX{d:Nat}{cv:Value}(f:m.dst=some d)(b:(execOp a.eval m).run P w=.ok (.value cv) w')
  (h:∃g',SR g' s' w' (a.put (some d) cv)∧FR g s.hp w g' s'.hp w') (c:cF g s w a s' next):m.wp P a w next Q:=by
 unfold CF Df;rw[b,f];obtain⟨g',e,i⟩:=h;exact c _ _ g' e i rfl
def zT:List aw->List (Nat×Operand)->Nat->Bool
 | [],[],_=>true
 |x::xs,(i,y)::ys,n=>(i==n)&&(aJ x y&&zT xs ys (n+1))
 |_,_,_=>false
def yA(P:Program)(fs:Array Field):List (Nat×Nat×aw)->List (Nat×Operand)->Bool
 | [],[]=>true
 |(b,n,x)::xs,(i,y)::ys=>(match fs[i]? with|some f=>(f.offset==b)&&(fR P f.type==some n)|none=>false)&&(aJ x y&&yA P fs xs ys)
 |_,_=>false
def aiD(P:Program)(t:TypeId)(zero:List V):Bool:=match P.info? t with|some i=>(match i.zero with|some z=>jJ zero z.cells.toList|none=>false)|none=>false
def wF(P:Program)(o:IOp)(m:Oper):Bool:=
 match o with
 | .mov d x=>(m.dst==some d)&&(match m.op with| .move y=>aJ x y| .assign y=>aJ x y|_=>false)
 | .bsl d k b _=>(m.dst==some d)&&(match m.op with| .buildSlice t n f=>kz P t k&&(n==b.length&&(decide (b.length*k.sz<=16777216)&&zT b f.toList 0))|_=>false)
 | .app d k x y=>(m.dst==some d)&&(match ye m.op with|some (.append,[c,e],[t,u])=>kz P t k&&(kz P u k&&(aJ x c&&aJ y e))|_=>false)
 |_=>false
theorem ato{d:Nat}{x:aw}(f:wF P (.mov d x) m=true)(H:step Γ (.mov d x) s=some (true,s'))(h:SR g s w a)(A:cF g s w a s' next):m.wp P a w next Q:=by
 obtain⟨dst,u,ty,pos,i,o⟩:=m;simp only[wF,Ac,beq_iff_eq] at f;obtain⟨rfl,f⟩:=f;obtain rfl:_=s':=by simpa [step] using H
 have fin:∀y,aJ x y=true->(execOp a.eval ⟨some d,u,ty,pos,i,o⟩).run P w=.ok (.value (a.eval y)) w->(⟨some d,u,ty,pos,i,o⟩:Oper).wp P a w next Q:=by
  intro y b E;have r:=aI b h.er;refine eX rfl E ?_ A;cases x with
  |t n=>exact⟨g,h.set d r (il (dV _) _ _ _ _),FR.refl _ _ _⟩
  |c v=>
   refine⟨g,h.set d r ?_,FR.refl _ _ _⟩;unfold aJ at b;split at b;·rename_i e;cases e
   ·rename_i e;cases e
   ·rename_i e;cases e;exact wu b _
   ·rename_i e;cases e;simp[aw.ev,au]
   ·simp at b
  |tk n=>
   have j:y=.tmp n:=by
    unfold aJ at b;split at b;·rename_i e;cases e
    ·rename_i k e;cases e;rw[show k=n by simpa using (beq_iff_eq.1 b).symm]
    ·rename_i e;cases e
    ·rename_i e;cases e
    ·simp at b
   subst j;have C:=h.er.getOwn n;obtain⟨g₁,D,p,F,G,B⟩:=ahG (q:=.slot d) (h.after (.tk n)) (ww n s) C;refine⟨g₁,D.set d ?_ B,?_⟩;·rw[F,G];exact r
   ·rw[oE] at p;simpa [St.set,oE] using p
 split at f;·rename_i y;exact fin y f (by simp[execOp])
 ·rename_i y;exact fin y f (by simp[execOp])
 ·simp at f
theorem aeQ:∀(vs:List Value)(b j:Nat)(cells:Array Value),b+j+vs.length<=cells.size->
  ((vs.zipIdx j).foldl (λ(cs:Array Value)(x:Value×Nat)=>cs.setIfInBounds (b+x.2) x.1) cells).toList=cells.toList.take (b+j)++vs++cells.toList.drop (b+j+vs.length)
 | [],b,j,cells,h=>by simp
 |v::vs,b,j,cells,h=>by
  simp only[Av] at h;rw[List.zipIdx_cons,CP,aeQ vs b (j+1) _ (by simp;omega)];simp only[Array.toList_setIfInBounds,Av];have c:b+j<cells.toList.length:=by rw[BM];omega
  rw[show b+(j+1)=b+j+1 by omega,List.take_succ_eq_append_getElem (by simpa using c),List.take_set_of_le (by omega),List.drop_set_of_lt (by omega)];simp[BW];omega
theorem amB(sz:Nat):∀(vs:List (Array Value))(i:Nat)(cells:Array Value),(∀v∈vs,v.size=sz)->(i+vs.length)*sz<=cells.size->∀(e:List (Nat×Value)),e.map (·.1)=Bf i vs.length->e.map (·.2.cells)=vs->
  Cs (λi=>some (i*sz,sz)) cells e=some (cells.toList.take (i*sz)++(vs.map (·.toList)).flatten++cells.toList.drop ((i+vs.length)*sz)).toArray
 | [],i,cells,j,d,e,p,f=>by
   have:e=[]:=by simpa using f
   subst this;simp[Cs]
 |v::vs,i,cells,j,d,e,p,f=>by
  match e,p,f with
  |(b,x)::h,k,q=>
  simp only[Bn,Av,Ck,List.cons.injEq] at k q;obtain⟨rfl,A⟩:=k;obtain⟨rfl,B⟩:=q;have c:x.cells.size=sz:=j _ (AU ..);simp only[Av] at d;have C:(b+(vs.length+1))*sz=b*sz+sz+vs.length*sz:=by rw[AL,AL];omega
  have t:b*sz+sz<=cells.size:=by omega
  have o:(x.cells.zipIdx.foldl (λ(cs:Array Value)(y:Value×Nat)=>cs.setIfInBounds (b*sz+y.2) y.1) cells).toList=cells.toList.take (b*sz)++x.cells.toList++cells.toList.drop (b*sz+sz):=by have:=aeQ x.cells.toList (b*sz) 0 cells (by simp[c];omega);simp only[Cl,BM,c] at this;rw[<-this,<-Array.foldl_toList,Array.toList_zipIdx]
  have u:(x.cells.zipIdx.foldl (λ(cs:Array Value)(y:Value×Nat)=>cs.setIfInBounds (b*sz+y.2) y.1) cells).size=cells.size:=by rw[<-BM,o];simp[c];omega
  simp only[Cs,c];rw[if_neg (by simp;omega)];rw[amB sz vs (b+1) _ (λv c=>j v (AT _ c)) (by rw[u];rw[show (b+1+vs.length)=b+(vs.length+1) by omega];exact d) h A B,o];have D:x.cells.toList.length=sz:=by simp[c]
  have r:(cells.toList.take (b*sz)++x.cells.toList).length=b*sz+sz:=by simp[c];omega
  rw[show (b+1)*sz=b*sz+sz by rw[AL];omega,show (b+1+vs.length)*sz=(b*sz+sz)+vs.length*sz by rw[AL,AL];omega,Av,C];rw[List.take_left' r,<-List.drop_drop,List.drop_left' r,List.drop_drop];simp[BW]
theorem aiE{I:Nat->Nat->Prop}{ρ:Nat->Nat}{N:Nat}{k:EK}:∀{vs:List V}{xs:List (Ty k)}{cvs:List Value},abe k vs=some xs->cvs.length=vs.length->
  (∀(i:Nat) v cv,vs[i]? =some v->cvs[i]? =some cv->VRel I ρ N w v cv)->
  xs.length=vs.length∧(∀cv∈cvs,cv.cells.size=k.sz)∧
   ∀(i:Nat) x (j:Nat) v,xs[i]? =some x->(enc k x)[j]? =some v->∃(cv u:Value),cvs[i]? =some cv∧cv.cells[j]? =some u∧VRel I ρ N w v u
 | [],xs,cvs,h,t,B=>by
   have:cvs=[]:=by simpa using t
   subst this;simp only[abe,Ah] at h;subst h;exact⟨rfl,by simp,by simp⟩
 |v::vs,xs,cv::cvs,h,t,B=>by
  simp only[abe] at h;split at h
  ·rename_i x l d A;obtain rfl:=Au h;obtain⟨O,R,S⟩:=aiE (vs:=vs) (cvs:=cvs) A (by simpa using t) (λi v cv e q=>B (i+1) v cv (by simpa using e) (by simpa using q));have L:=B 0 v cv rfl rfl;have G:=L;have o:v.cells.length=cv.cells.size∧(∀(j:Nat) c u,v.cells[j]? =some c->cv.cells[j]? =some u->VRel I ρ N w c u):=by
    cases L with
    |agg cs us E e W J=>exact⟨by simpa [V.cells,Ce] using E,by simpa [V.cells,Ce] using J⟩
    |undef cv=>cases k<;>simp[V.cells,dec] at d<;>(rename_i p;cases p<;>simp at d)
    |tup cs us t J=>cases k<;>simp[V.cells,dec] at d<;>(rename_i p;cases p<;>simp at d)
    |junk cv=>cases k<;>simp[V.cells,dec] at d<;>(rename_i p;cases p<;>simp at d)
    |_=>
     refine⟨by simp[V.cells,Ce],?_⟩;intro j c u e q;cases j with
     |zero=>simp[V.cells,Ce] at e q;subst e q;exact G
     |succ j=>simp[V.cells] at e
   have C:∀c∈v.cells,c.inRange:=by
    intro c b;obtain⟨j,r,rfl⟩:=AS.1 b;have:j<cv.cells.size:=by rw[<-o.1];exact r
    exact(o.2 j _ _ (Ab r) (Ao this)).inRange
   have M:=aj3 d C;have F:cv.cells.size=k.sz:=by rw[<-o.1,<-bT k x,M,Bt]
   refine⟨by simp[O],by simpa using ⟨F,R⟩,?_⟩;intro i y j u H D;cases i with
   |succ i=>simpa using S i y j u (by simpa using H) D
   |zero=>
    simp at H;subst H;rw[M,Ay,An] at D;obtain⟨c,b,rfl⟩:=D;have r:j<v.cells.length:=(Ad.1 b).1;have f:j<cv.cells.size:=by rw[<-o.1];exact r
    exact⟨cv,cv.cells[j],rfl,Ao f,(o.2 j _ _ b (Ao f)).weak⟩
  ·simp at h
theorem amC(sz:Nat):∀(cvs:List Value),(∀cv∈cvs,cv.cells.size=sz)->∀(i j:Nat) cv u,cvs[i]? =some cv->cv.cells[j]? =some u->
  ((cvs.map (·.cells.toList)).flatten)[i*sz+j]? =some u
 | [],_,i,j,cv,u,b,_=>by simp at b
 |c::cvs,f,0,j,cv,u,b,d=>by
  simp at b;subst b;have o:j<c.cells.size:=by
   rcases AI j c.cells.size with h|h;·exact h
   ·simp[C4 h] at d
  simp only[Bn,List.flatten_cons,Nat.zero_mul,A1];rw[Ar (by simpa using o)];simpa using d
 |c::cvs,f,i+1,j,cv,u,b,d=>by
  have k:=f c (AU ..);have p:=amC sz cvs (λcv e=>f cv (AT _ e)) i j cv u (by simpa using b) d;simp only[Bn,List.flatten_cons];rw[Aq (by simp[k,AL];omega)];rw[<-p]
  congr 1
  simp[k,AL];omega
theorem ald(h:ER g s.hp.length w s.env a.tmps):∀(c:List aw)(d:List (Nat×Operand))(n:Nat),zT c d n=true->
  (d.map λq=>(q.1,a.eval q.2)).map (·.1)=Bf n c.length∧d.length=c.length∧
   ∀(i:Nat) v cv,(c.map (·.ev s))[i]? =some v->(d.map λq=>a.eval q.2)[i]? =some cv->VRel g.I g.ρ s.hp.length w v cv
 | [],[],n,_=>by simp
 |x::c,(i,y)::d,n,hp=>by
  simp only[zT,Ac,beq_iff_eq] at hp;obtain⟨rfl,f,r⟩:=hp;obtain⟨p,k,o⟩:=ald h c d (i+1) r;refine⟨?_,by simp[k],?_⟩;·simp only[Bn,Av,Ck];rw[p]
  ·intro j v cv e b;cases j with
   |zero=>simp at e b;subst e b;exact aI f h
   |succ j=>exact o j v cv (by simpa using e) (by simpa using b)
 | [],_::_,n,hp=>by simp[zT] at hp
 |_::_,[],n,hp=>by simp[zT] at hp
theorem lD(w:World)(o:Go.Obj):(w.alloc o).heap.size=w.heap.size+1∧(∀b,b<w.heap.size->(w.alloc o).heap[b]? =w.heap[b]?)∧(w.alloc o).heap[w.heap.size]? =some o:=by
 refine⟨by simp,?_,?_⟩;·intro b c;show (w.heap.push o)[b]? =_;rw[CM,if_neg (by omega)]
 ·show (w.heap.push o)[w.heap.size]? =_;simp
theorem atp{d:Nat}{k:EK}{A:List aw}{u:Bool}(Y:g.β=nk P)(B:wF P (.bsl d k A u) m=true)(L:step Γ (.bsl d k A u) s=some (true,s'))(h:SR g s w a)(hn:cF g s w a s' next):m.wp P a w next Q:=by
 obtain⟨dst,op,ty,pos,a3,gd⟩:=m;simp only[wF,Ac,beq_iff_eq] at B;obtain⟨rfl,B⟩:=B;split at B
 ·rename_i t n y;simp only[Ac,beq_iff_eq,decide_eq_true_eq] at B;obtain⟨E,rfl,h2,h3⟩:=B;simp only[step,An] at L;obtain⟨xs,hx,L⟩:=L;obtain rfl:_=s':=by simpa using L
  obtain⟨e,u1,E⟩:=dG E;obtain⟨inf,z,i1,i2,i3,i4,i5,i6,i7⟩:=im E;obtain⟨k1,F,k3⟩:=ald h.er A y.toList 0 h3;obtain⟨J,M,r3⟩:=aiE (cvs:=y.toList.map λq=>a.eval q.2) hx (by simp[F]) k3;simp only[Bt] at J;have bs:z.cells.size=k.sz:=i7;have W:0<k.sz:=by cases k<;>simp[EK.sz]
  let D:Array Value:=(Array.range (A.length*k.sz)).map (λj=>z.cells[j%z.cells.size]!);have r:D.size=A.length*k.sz:=by simp[D]
  have p:Cs (λi=>some (i*k.sz,k.sz)) D ((y.map λx=>(x.1,a.eval x.2)).toList)=some ((y.toList.map λq=>a.eval q.2).map (·.cells.toList)).flatten.toArray:=by have:=amB k.sz ((y.toList.map λq=>a.eval q.2).map (·.cells)) 0 D (by intro v R;obtain⟨cv,C,rfl⟩:=AE.1 R;exact M cv C) (by simp[r,F]) ((y.map λx=>(x.1,a.eval x.2)).toList) (by simpa [F] using k1) (by simp);rw[this];simp[F,r,Ch,DE]
  have H:((y.toList.map λq=>a.eval q.2).map (·.cells.toList)).flatten.length=xs.length*k.sz:=by
   rw[List.length_flatten,Ch];have:∀l:List Value,(∀cv∈l,cv.cells.size=k.sz)->(l.map (Aa∘λx:Value=>x.cells.toList)).sum=l.length*k.sz:=by
    intro l hl;induction l with
    |nil=>simp
    |cons c l ih=>simp only[Bn,List.sum_cons,Av,ih (λcv C=>hl cv (AT _ C)),AL,Dy];have:=hl c (AU ..);simp[this];omega
   rw[this _ M,Bt,F,J]
  let b:Array Value:=((y.toList.map λq=>a.eval q.2).map (·.cells.toList)).flatten.toArray;have f:=lD w (.cells b e);refine eX rfl (w':=w.alloc (.cells b e)) (cv:=.slice (some ⟨w.heap.size,0,none⟩) xs.length xs.length) ?_ ?_ hn
  ·have I:¬(16777216<A.length*k.sz):=by omega
   have al:D.size=A.length*k.sz:=r;simp only[Array.toList_map,D] at p;by_cases N:A.length*k.sz=0
   ·have ae:A.length=0:=by
     rcases Nat.mul_eq_zero.1 N with h|h;·exact h
     ·omega
    have X:y.toList=[]:=A7 (by omega);have O:xs.length=0:=by omega
    have G:y= #[]:=by simpa using X
    simp[execOp,Instr.buildSlice,run_underlying u1,sizeOf,typeInfo,i1,i2,I,N,ae,G,O,Cs,newRow,b];rw[show Array.range 0= #[] from Dj (by simp),Array.map_empty]
   ·simp[execOp,Instr.buildSlice,run_underlying u1,sizeOf,typeInfo,i1,i2,I,N,zeroValue,i4,p,newRow,J,b]
  ·obtain⟨g',S,Z⟩:=h.newRow (w':=w.alloc (.cells b e)) k xs xs.length d b e (0,0) f.1 f.2.1 f.2.2 rfl rfl rfl (o:=cond u (.may true) .own) (λ_=>rfl) (Am _) (by unfold dl;have:xs.length<=xs.length*k.sz:=C1 _ W;rw[J] at *;omega)
    (by simp only[b,Cz,H];exact Am _) (λhk=>by rw[Y];exact wv E hk) (by intro j E h2;omega) (by intro i x j v hx R;obtain⟨cv,u,S,Z,q3⟩:=r3 i x j v hx R;refine⟨u,?_,q3⟩;simp only[b,Db];exact amC k.sz _ M i j cv u S Z)
   exact⟨g',S,Z⟩
 ·simp at B
end
section
variable{w w':World}{g g':Gh}{s s':St}{a:Act}{P:Program}{Γ:av}{m:Oper}{next:Act->World->Prop}{Q:Exit->Act->World->Prop}
theorem i9(b:Nat):∀(vs:List Value)(o:Nat)(w:World)(d:Array Value)(e:TypeId)(f:Nat×Nat),w.heap[b]? =some (.cells d e f)->
  (∃c,(w.setCells b o vs).heap[b]? =some (.cells c e f)∧c.size=d.size)∧(∀i,i≠b->(w.setCells b o vs).heap[i]? =w.heap[i]?)∧
   (w.setCells b o vs).heap.size=w.heap.size∧(w.setCells b o vs).os=w.os∧(w.setCells b o vs).tape=w.tape∧(w.setCells b o vs).output=w.output
 | [],o,w,d,e,f,h=>⟨⟨d,h,rfl⟩,λ_ _=>rfl,rfl,rfl,rfl,rfl⟩
 |v::vs,o,w,d,e,f,h=>by
  have k:(w.setCell ⟨b,o,none⟩ v).heap[b]? =some (.cells (d.setIfInBounds o v) e f):=by simp[World.setCell,De,h]
  obtain⟨⟨c,x,p⟩,u,q,r,y,t⟩:=i9 b vs (o+1) (w.setCell ⟨b,o,none⟩ v) _ e f k;refine⟨⟨c,x,by simpa using p⟩,λi j=>?_,q.trans (by simp[World.setCell]),r,y,t⟩;rw[show (w.setCells b o (v::vs))=(w.setCell ⟨b,o,none⟩ v).setCells b (o+1) vs from rfl,u i j];simp only[World.setCell,De];rw[if_neg (by simpa using Ne.symm j)]
theorem aiF{k:EK}{o:Fl}{xs:List (Ty k)}{cv:Value}(h:VRel g.I g.ρ s.hp.length w (.sl k o xs) cv):
  ∃(L:List Value),L.length=xs.length*k.sz∧(∀u∈L,u.oneCell'=true)∧
   (∀(i:Nat) x (j:Nat) v,xs[i]? =some x->(enc k x)[j]? =some v->∃u,L[i*k.sz+j]? =some u∧VRel g.I g.ρ s.hp.length w v u)∧
   ((xs=[]∧∃B,cv=.slice B 0 0∧(o=.own->B=none))∨∃b c cap,cv=.slice (some ⟨b,c,none⟩) xs.length cap∧xs.length<=cap∧cap<=dl∧∀(j:Nat) u,L[j]? =some u->w.cell? ⟨b,c+j,none⟩=some u):=by
 cases h with
 |sln=>exact⟨[],by simp,by simp,by simp,.inl ⟨rfl,none,rfl,λ_=>rfl⟩⟩
 |sle _ _ B H=>exact⟨[],by simp,by simp,by simp,.inl ⟨rfl,some B,rfl,λh=>absurd h H⟩⟩
 |sl _ _ _ b c O cap Y M R hf f Z S G=>
  subst Y;have t:0<k.sz:=by cases k<;>simp[EK.sz]
  have F:∀(i j:Nat),j<k.sz->(i*k.sz+j) / k.sz=i∧(i*k.sz+j)%k.sz=j:=by
   intro i j p;constructor;·rw[Nat.add_comm,Nat.add_mul_div_right _ _ t,Nat.div_eq_of_lt p];omega
   ·rw[Nat.add_comm,Nat.add_mul_mod_self_right,Nat.mod_eq_of_lt p]
  have e:∀(q:Nat),q<xs.length*k.sz->q / k.sz<xs.length∧q%k.sz<k.sz∧q / k.sz*k.sz+q%k.sz=q:=by intro q A;exact⟨Nat.div_lt_of_lt_mul (by rwa [B4]),Nat.mod_lt _ t,Nat.div_add_mod' q k.sz⟩
  refine⟨(A8 (xs.length*k.sz)).map λq=>f (q / k.sz) (q%k.sz),by simp,?_,?_,.inr ⟨b,c,cap,rfl,M,R,?_⟩⟩
  ·intro u C;obtain⟨q,A,rfl⟩:=AE.1 C;obtain⟨D,E,N⟩:=e q (by simpa using A);have r:xs[q / k.sz]? =some xs[q / k.sz]:=Ab D;have p:q%k.sz<(enc k xs[q / k.sz]).length:=by rw[bT];exact E
   exact(G _ _ _ _ r (Ab p)).oneCell (s9 _ _ _ (AK p))
  ·intro i x j v r y;have p:j<k.sz:=by
    have:=(Ad.1 y).1
    rwa [bT] at this
   have J:i<xs.length:=(Ad.1 r).1;have d:i*k.sz+j<xs.length*k.sz:=by
    calc i*k.sz+j<i*k.sz+k.sz:=by omega
     _=(i+1)*k.sz:=by rw[AL,Cw]
     _<=xs.length*k.sz:=AN _ J
   obtain⟨X,W⟩:=F i j p;refine⟨f i j,?_,G i x j v r y⟩;simp[Ay,Dp d,X,W]
  ·intro j u C;rw[Ay,An] at C;obtain⟨q,A,rfl⟩:=C;obtain⟨d,rfl⟩:=Ad.1 A;simp only[DH] at d;obtain⟨D,E,N⟩:=e j d;have r:xs[j / k.sz]? =some xs[j / k.sz]:=Ab D;have:=S _ _ (j%k.sz) r (by rw[bT];exact E);rw[show c+j / k.sz*k.sz+j%k.sz=c+j by omega] at this;simpa using this
theorem SR.inPlace(h:SR g s w a){p:Occ}(hp:tY (some p) s)(k:EK)(xs ys:List (Ty k))(b r cap d:Nat)(news:List Value)
  (hx:VRel g.I g.ρ s.hp.length w (.sl k .own xs) (.slice (some ⟨b,r,none⟩) xs.length cap)) (R:au g w p (.sl k .own xs) (.slice (some ⟨b,r,none⟩) xs.length cap))
  (G:xs.length+ys.length<=cap) (hl:news.length=ys.length*k.sz)
  (hv:∀(i:Nat) x (j:Nat) v,ys[i]? =some x->(enc k x)[j]? =some v->∃u,news[i*k.sz+j]? =some u∧VRel g.I g.ρ s.hp.length w v u):
  ∃g',SR g' (s.set d (.sl k .own (xs++ys))) (w.setCells b (r+xs.length*k.sz) news) (a.put (some d) (.slice (some ⟨b,r,none⟩) (xs.length+ys.length) cap))∧
   FR g s.hp w g' s.hp (w.setCells b (r+xs.length*k.sz) news):=by
 obtain⟨M,⟨an,e,fz,o2,o3,a3⟩,o4⟩:=R;simp only at M o2 o3 o4;let D:=r+xs.length*k.sz;have bY:D+news.length<=r+cap*k.sz:=by have:(xs.length+ys.length)*k.sz<=cap*k.sz:=AN _ G;rw[AL] at this;simp only[D,hl];omega
 obtain⟨⟨Z,q1,q2⟩,q3,q4,q5,q6,q7⟩:=i9 b news D w an e fz o2;let w':=w.setCells b D news;let g':Gh:={I:=λy j=>g.I y j∨(y=b∧D<=j∧j<D+news.length),ρ:=g.ρ,O:=λy=>if y=b then some (.slot d) else g.O y,β:=g.β}
 have S:∀j,D<=j->j<r+cap*k.sz->¬g.I b j:=λj c B=>(o4 j c B).1
 have E:∀y j,g.I y j->w'.cell? ⟨y,j,none⟩=w.cell? ⟨y,j,none⟩:=by
  intro y j C;refine A2 b news D w _ ?_;rintro rfl _;rcases AI j D with c|c;·exact .inl c
  ·rcases AI j (r+cap*k.sz) with B|B;·exact absurd C (S j c B)
   ·right;show D+news.length<=j;omega
 have N:∀j (q:j<news.length),w'.cell? ⟨b,D+j,none⟩=some news[j]:=by intro j q;refine BB b news D w (λj' b4=>?_) j q;rw[aM o2,Ao (by omega)];rfl
 have a0:∀(id:Nat) cs,s.hp[id]? =some (some cs)->g.ρ id≠b:=by intro id cs hid e';have:=h.hr.notO id cs hid;rw[e',M] at this;simp at this
 have u:Up g.I g.ρ s.hp.length w g'.I g'.ρ s.hp.length w':=⟨λb j C=>.inl C,E,λ_ _=>rfl,Am _⟩
 have hs:SR g' s w' a:=by
  refine h.keep (some p) hp rfl u ?_ ?_ ?_ ?_
  ·intro b5 y A bn;have t:y≠b:=by
    rintro rfl;rw[M] at A;exact bn A
   refine⟨by simp[g',t,A],q3 y t,?_⟩;rintro j (q|⟨q,_⟩);·exact q
   ·exact absurd q t
  ·intro id cs hid;have t:=a0 id cs hid;refine⟨q3 _ t,by simp[g',t,h.hr.notO id cs hid],?_⟩;rintro j (q|⟨q,_⟩);·exact q
   ·exact absurd q t
  ·rintro y j (q|⟨rfl,c,B⟩);·exact(h.hr.exI y j q).set (E y j q) o2 q1 q3
   ·refine .row q1 (by rw[q2];omega) λ_ hz=>?_
    have:=(o4 j c (by omega)).2;simp only[BA,o2,BI,decide_eq_false_iff_not] at this;omega
  ·intro y o A;simp only[g'] at A;rw[q4];split at A;·rename_i e';subst e';exact h.hr.oLt _ _ M
   ·exact h.hr.oLt _ _ A
 obtain⟨L,l1,l2,l3,l4⟩:=aiF hx;have a2:cap<=dl:=by
  cases hx with
  |sle _ _ _ R=>exact absurd rfl R
  |sl=>assumption
 have F:∀(i:Nat) x,(xs++ys)[i]? =some x->(i<xs.length∧xs[i]? =some x)∨(xs.length<=i∧ys[i-xs.length]? =some x):=by
  intro i x C;rcases AI i xs.length with c|c;·rw[Ar c] at C;exact .inl ⟨c,C⟩
  ·rw[Aq c] at C;exact .inr ⟨c,C⟩
 have J:∀(i j:Nat),xs.length<=i->r+i*k.sz+j=D+((i-xs.length)*k.sz+j):=by
  intro i j C;have:i*k.sz=xs.length*k.sz+(i-xs.length)*k.sz:=by rw[<-AL];congr 1;omega
  simp only[D];omega
 have X:VRel g'.I g'.ρ s.hp.length w' (.sl k .own (xs++ys)) (.slice (some ⟨b,r,none⟩) (xs.length+ys.length) cap):=by
  cases hx with
  |sle _ _ _ R=>exact absurd rfl R
  |sl _ _ _ _ _ _ _ b3 ci b6 cv f hI hw a5=>
  refine .sl k .own _ _ _ _ _ (by simp) (by simpa using G) a2 (by simp) (λi j=>if i<xs.length then f i j else news[(i-xs.length)*k.sz+j]?.getD undef) ?_ ?_ ?_
  ·intro i x j C q;rcases F i x C with⟨c,B⟩|⟨c,B⟩
   ·exact .inl (hI i x j B q)
   ·obtain⟨u,W,_⟩:=hv _ x j _ B (Ab q);have:=(Ad.1 W).1;refine .inr ⟨rfl,?_⟩;rw[J i j c];omega
  ·intro i x j C q;rcases F i x C with⟨c,B⟩|⟨c,B⟩
   ·simp only[c,if_true];rw[E _ _ (hI i x j B q)];exact hw i x j B q
   ·obtain⟨u,W,_⟩:=hv _ x j _ B (Ab q);have Y:=(Ad.1 W).1;simp only[Nat.not_lt.2 c,if_false];rw[J i j c,N _ Y,Ab Y];rfl
  ·intro i x j v C q;rcases F i x C with⟨c,B⟩|⟨c,B⟩
   ·simp only[c,if_true];exact(a5 i x j v B q).up u
   ·obtain⟨u',W,hr⟩:=hv _ x j v B q;simp only[Nat.not_lt.2 c,if_false,W];exact hr.up u
 refine⟨g',hs.set d X ?_,⟨rfl,q5,q6,q7,by rw[q4];exact Am _,λy A _ H=>?_,u,?_,?_,λ_ cs h=>.inl ⟨cs,h⟩⟩⟩
 ·refine⟨by simp[g'],⟨Z,e,fz,q1,by rw[q2];exact o3,a3⟩,?_⟩;intro j c B;simp only at c B;have a9:D+news.length<=j:=by
   simp only[D,hl];rw[AL] at c;omega
  have:=o4 j (by simp only[D] at a9;omega) B;refine⟨?_,?_⟩
  ·rintro(C|⟨_,_,C⟩);·exact this.1 C
   ·omega
  ·rw[World.frozen?_setCells];exact this.2
 ·have t:y≠b:=by rintro rfl;rw[M] at H;simp at H
  exact q3 y t
 ·rintro y j A _ H (q|⟨q,_⟩);·exact q
  ·subst q;rw[M] at H;simp at H
 ·intro y A _ H;have t:y≠b:=by rintro rfl;rw[M] at H;simp at H
  simp[g',t,H]
theorem aoT{k k':EK}(h:k'=k){o:Fl}{m:List (Ty k')}{I:Nat->Nat->Prop}{ρ:Nat->Nat}{N:Nat}{w:World}{cv:Value}(r:VRel I ρ N w (.sl k' o m) cv):VRel I ρ N w (.sl k o (h▸m)) cv:=by subst h;exact r
theorem ahH{k k':EK}(h:k'=k)(m:List (Ty k')):(h▸m:List (Ty k)).length=m.length:=by subst h;rfl
theorem aoa(b6:g.β=nk P){d:Nat}{k:EK}{x:aw}{M O:Operand}{xs ys:List (Ty k)}{ty t u e:TypeId}{pos:String}{J:Array Edge}{gd:Option (Nat×Bool)}(h:SR g s w a)
  (C:aJ x M=true) {o:Fl} (r:x.ev s=.sl k o xs) (D:o.app ys.length=true) (ut:P.underlying t=some (.slice e)) (he:wE P e k=true) (news:List Value)
  (S:_root_.Go.Src P k.sz u (a.eval O) ys.length news w) (hv:∀(i:Nat) x (j:Nat) v,ys[i]? =some x->(enc k x)[j]? =some v->∃u,news[i*k.sz+j]? =some u∧VRel g.I g.ρ s.hp.length w v u)
  (Y:(xs.length+ys.length)*k.bytes<=tT)
  (hn:cF g s w a ((x.after s).set d (.sl k .own (xs++ys))) next):
  (⟨some d,.call ⟨.builtin .append,⟨[M,O]⟩,⟨[t,u]⟩⟩,ty,pos,J,gd⟩:Oper).wp P a w next Q:=by
 obtain⟨inf,z,i1,i2,i3,i4,i5,i6,i7⟩:=im he;have r1:=aI C h.er;rw[r] at r1;have cs:0<k.bytes:=by cases k<;>simp[EK.bytes];rename_i kk;cases kk<;>simp[ahC]
 have W:xs.length+ys.length<=tT:=AH (C1 _ cs) Y;have a3:o=.own->∃p,tY (some p) (x.after s)∧au g w p (.sl k .own xs) (a.eval M):=by
  rintro rfl;unfold aJ at C;split at C
  ·rename_i n k';obtain rfl:=by simpa using C
   simp only[aw.ev] at r;exfalso;cases hg:s.get n<;>rw[hg] at r<;>simp[disown] at r;rename_i o' _;cases o'<;>simp[Fl.dis] at r
  ·rename_i n k';obtain rfl:=by simpa using C
   refine⟨.slot n,ww n s,?_⟩;have:=h.er.getOwn n
   rwa [show s.get n=.sl k .own xs from r] at this
  ·rename_i v cv;simp only[aw.ev] at r;subst r;exact⟨.res,trivial,wu C _⟩
  ·rename_i f hf;simp only[aw.ev] at r;cases r
  ·simp at C
 have h1:=h.after x;obtain⟨L,l1,l2,l3,l4⟩:=aiF r1;have E:∀cv w',(Cv #[t,u] ty #[a.eval M,a.eval O]).run P w=.ok cv w'->(execOp a.eval ⟨some d,.call ⟨.builtin .append,⟨[M,O]⟩,⟨[t,u]⟩⟩,ty,pos,J,gd⟩).run P w=.ok (.value cv) w':=by intro cv w' X;simp[execOp,resolve,invoke,builtin,X]
 have y:(x.after s).hp=s.hp:=oE x s
 have grow:∀(base:Option Addr)(cap:Nat),a.eval M=.slice base xs.length cap->cap<xs.length+ys.length->
   (Builtin.firstCells k.sz xs.length (.slice base xs.length cap)).run P w.drew=.ok L.toArray w.drew->
   (⟨some d,.call ⟨.builtin .append,⟨[M,O]⟩,⟨[t,u]⟩⟩,ty,pos,J,gd⟩:Oper).wp P a w next Q:=by
  intro base cap hb H bl
  have X:=run_append_grow_src w t u ty e inf z ut i1 i4 base xs.length cap L (by rw[i2];exact bl) (a.eval O) ys.length news (by rw[i2];exact S) H (by unfold tT at W;omega)
   (growslice_fits H (by rw[i3];exact Y))
  have Z:xs.length+ys.length<=grownCap w (xs.length+ys.length) cap e:=by unfold grownCap Question.cut;exact C8 _ _
  have a5:grownCap w (xs.length+ys.length) cap e<=dl:=by have:=grownCap_le_maxLen w (xs.length+ys.length) cap e (by unfold maxLen;unfold tT at W;omega);simpa [maxLen,dl] using this
  let c:Array Value:=(L++news).toArray++Builtin.zeroCells z.cells (grownCap w (xs.length+ys.length) cap e-(xs.length+ys.length));have c0:=S.newsLen;have a2:c.size=grownCap w (xs.length+ys.length) cap e*k.sz:=by
   simp only[c,Array.size_append,Cz,AD,l1,c0,size_zeroCells,i7];rw[<-AL,<-AL]
   congr 1
   omega
  have f:=lD w.drew (.cells c e);obtain⟨g',q1,q2⟩:=h1.newRow (w':=w.drew.alloc (.cells c e)) k (xs++ys) (grownCap w (xs.length+ys.length) cap e) d c e (0,0) f.1 f.2.1 f.2.2 rfl rfl rfl (o:=.own) (by simp) (by simpa using Z) a5 (by rw[a2];exact Am _) (λhk=>by rw[b6];exact wv he hk) (by intro j h1 h2;omega) (by
   intro i x j v C al;have hj:j<k.sz:=by
    have:=(Ad.1 al).1
    rwa [bT] at this
   have F:∀(q:Nat) u,(L++news)[q]? =some u->c[q]? =some u:=by intro q u hq;have b5:=(Ad.1 hq).1;simp only[c];rw[B8 (by simpa using b5)];simpa using hq
   rcases AI i xs.length with hi|hi;·rw[Ar hi] at C;obtain⟨u,e1,e2⟩:=l3 i x j v C al;refine⟨u,F _ _ ?_,by rw[y];exact e2⟩;rw[Ar (Ad.1 e1).1];exact e1
   ·rw[Aq hi] at C;obtain⟨u,e1,e2⟩:=hv _ x j v C al;refine⟨u,F _ _ ?_,by rw[y];exact e2⟩;have:i*k.sz=xs.length*k.sz+(i-xs.length)*k.sz:=by rw[<-AL];congr 1;omega
    rw[Aq (by rw[l1];omega),l1,<-e1]
    congr 1
    omega)
  have an:(execOp a.eval ⟨some d,.call ⟨.builtin .append,⟨[M,O]⟩,⟨[t,u]⟩⟩,ty,pos,J,gd⟩).run P w=.ok (.value (.slice (some ⟨w.heap.size,0,none⟩) (xs++ys).length (grownCap w (xs.length+ys.length) cap e))) (w.drew.alloc (.cells c e)):=by refine E _ _ ?_;rw[hb,X];simp[c]
  refine eX rfl an ⟨g',q1,?_⟩ hn;rw[y] at q2;show FR g s.hp w g' (x.after s).hp _;rw[y];exact q2
 rcases l4 with⟨rfl,ad,B,b2⟩|⟨b,G,cap,B,H,a5,R⟩
 ·by_cases h0:ys.length=0
  ·have cy:ys=[]:=A7 h0;subst cy;obtain rfl:ad=none:=b2 (by
    cases o with
    |own=>rfl
    |may u=>simp[Fl.app] at D)
   have X:(Cv #[t,u] ty #[a.eval M,a.eval O]).run P w=.ok (.slice none 0 0) w:=by
    have cc:news=[]:=by have:=S.newsLen;simpa using this
    have hc:=S.cells;rw[B];rcases S.kind with⟨e',hk⟩|hk<;>simp[Cv,run_underlying ut,run_underlying hk,sizeOf,typeInfo,i1,i2,S.len] at* <;>simp[hc]
   refine eX rfl (E _ _ X) ⟨g,?_,?_⟩ hn;·exact h1.set d (by simpa using VRel.sln (I:=g.I) (ρ:=g.ρ) (N:=(x.after s).hp.length) (w:=w) k .own) (by simp[au])
   ·have:=FR.refl g s.hp w;simpa [St.set,y] using this
  ·exact grow ad 0 (by simpa using B) (by simp;omega) (by
    have hL:L=[]:=by simpa using l1
    subst hL;cases ad with
    |none=>simpa using run_firstCells_none (P:=P) w.drew k.sz 0 0 0
    |some ad=>simpa using run_firstCells_some (P:=P) w.drew k.sz 0 ad 0 0 [] (by simp) (by intro j v hj;simp at hj))
 ·by_cases A:xs.length+ys.length<=cap
  ·have ae:o=.own:=by
    cases o with
    |own=>rfl
    |may u=>simp only[Fl.app,Ac,decide_eq_true_eq] at D;obtain⟨rfl,d2⟩:=D;rw[B] at r1;have:=r1.full;omega
   subst ae;obtain⟨p,hp,ho⟩:=a3 rfl;rw[B] at ho r1;obtain⟨o1,⟨c,e',fz,o2,o3⟩,o4⟩:=ho;simp only at o1 o2 o3 o4;have dk:G+xs.length*k.sz+news.length<=G+cap*k.sz:=by have:(xs.length+ys.length)*k.sz<=cap*k.sz:=AN _ A;rw[AL] at this;rw[S.newsLen];omega
   have X:=run_append_room_src w t u ty e inf ut i1 b G xs.length cap (a.eval O) ys.length news (by rw[i2];exact S) A (by
    intro j hj;rw[i2,aM o2,Ao (by omega)];rfl) (by
    intro j hj;rw[i2];exact(o4 _ (by omega) (by omega)).2)
   rw[i2] at X;have q:=h1.inPlace hp k xs ys b G cap d news (by rw[y];exact r1) ⟨o1,⟨c,e',fz,o2,o3⟩,o4⟩ A S.newsLen (by rw[y];exact hv);rw[y] at q;refine eX rfl (E _ _ (by rw[B];exact X)) ?_ hn;obtain⟨g',q1,q2⟩:=q;exact⟨g',q1,by simpa [St.set,y] using q2⟩
  ·exact grow _ cap B (by omega) (run_firstCells_some w.drew k.sz xs.length ⟨b,G,none⟩ xs.length cap L (by simpa using l1) (by intro j v hj;rw[BD];exact R j v hj))
theorem atq{d:Nat}{k:EK}{x y:aw}(G:g.β=nk P)(p:wF P (.app d k x y) m=true)(f:step Γ (.app d k x y) s=some (true,s'))(h:SR g s w a)(M:cF g s w a s' next):m.wp P a w next Q:=by
 obtain⟨dst,op,ty,pos,O,gd⟩:=m;simp only[wF,Ac,beq_iff_eq] at p;obtain⟨rfl,p⟩:=p;split at p
 ·rename_i x' y' t u D;obtain rfl:=mv D;simp only[Ac] at p;obtain⟨R,Z,W,h4⟩:=p;obtain⟨e,u1,e1⟩:=dG R;obtain⟨e',H,e2⟩:=dG Z;simp only[step] at f;split at f
  ·rename_i k' ox l an o S hx hy;split at f
   ·rename_i hk;subst hk;split at f
    ·rename_i A;simp only[Ah,Ap,Ac,decide_eq_true_eq] at f;obtain⟨⟨r,B⟩,rfl⟩:=f;have C:=aI h4 h.er;rw[hy] at C;have C:=aoT A C;obtain⟨L,E,Y,l3,l4⟩:=aiF C;refine aoa G h W hx (by rw[ahH];exact r) u1 e1 L (ys:=A▸S) ?_ l3 (by rw[ahH];exact B) M;rcases l4 with⟨i,I,q, -⟩|⟨b,N,cap,q,J,X,c⟩
     ·rw[q,i];have hL:L=[]:=by rw[i] at E;simpa using E
      rw[hL];cases I with
      |none=>exact _root_.Go.Src.ofNil w H 0
      |some I=>exact _root_.Go.Src.ofSlice w H _ _ _ _ (by simp) (by intro j v F;simp at F) (by simp)
     ·rw[q];exact _root_.Go.Src.ofSlice w H _ _ _ _ E (by intro j v F;rw[BD];exact c j v F) Y
    ·simp at f
   ·simp at f
  ·simp at f
 ·simp at p
end
def aqL(e:TypeId)(o:Nat):Field:={(default:Field) with type:=e,offset:=o}
def arK(n sz:Nat)(e:TypeId):Array Field:=⟨(A8 n).map λi=>aqL e (i*sz)⟩
def ny(P:Program)(o:IOp)(m:Oper):Bool:=
 match o with
 | .new d zero=>(m.dst==some d)&&(match m.op with| .alloc t=>aiD P t zero|_=>false)
 | .box d x=>(m.dst==some d)&&(match m.op with| .box t y=>aJ x y&&ahD x|_=>false)
 | .st d n x v=>(m.dst==d)&&(match m.op with| .store t b i=>(fR P t==some n)&&(aJ x b&&aJ v i)|_=>false)
 | .ld d n agg true x=>(m.dst==some d)&&(match m.op with| .load t b=>(fR P t==some n)&&((nx P t==some agg)&&((!agg&&n==1)&&aJ x b))|_=>false)
 | .bld d zero c=>(m.dst==some d)&&(match m.op with| .build t h=>aiD P t zero&&(match P.underlying t with|some (.struct fs)=>yA P fs c h.toList&&fs.all (λf=>(P.info? f.type).isSome)|some (.array n e)=>(match fR P e with|some sz=>yA P (arK n sz e) c h.toList|none=>false)|_=>false)|_=>false)
 |_=>false
section
variable{w w':World}{g g':Gh}{s s':St}{a:Act}{P:Program}{Γ:av}{m:Oper}{next:Act->World->Prop}{Q:Exit->Act->World->Prop}
theorem yB{t:TypeId}{zero:List V}(h:aiD P t zero=true):∃i z,P.info? t=some i∧i.zero=some z∧jJ zero z.cells.toList=true:=by
 unfold aiD at h;split at h
 ·rename_i i b;split at h;·rename_i z c;exact⟨i,z,b,c,h⟩
  ·simp at h
 ·simp at h
theorem d7.own{c:V}{cv:Value}(h:d7 c cv)(g:Gh)(w:World)(b:Occ):au g w b c cv:=by
 unfold au;split;·simp[d7] at h
 ·simp[d7] at h
 ·exact .inl ⟨A7 h.1,h.2⟩
 ·trivial
theorem amD{cs:List V}{b:Array Value}(h:jJ cs b.toList=true){e:TypeId}:∀(j E n:Nat),cs[j]? =some (.bn E n)->E=e∧n=b.size∧b[j]? =some (.pointer none):=by intro j E n c;exfalso;have f:=(pt (I:=λ_ _=>False) (ρ:=λx=>x) (N:=0) (w:=default) h).1;have d:=(Ad.1 c).1;have:=pr h j _ (b.toList[j]'(by omega)) c (Ab (by omega));simp[d7] at this
theorem arL{cs:List V}{b:Array Value}{e:TypeId}(k:cs.length=b.size)(h:∀(i:Nat) c cv,cs[i]? =some c->b[i]? =some cv->d7 c cv):∀(j E n:Nat),cs[j]? =some (.bn E n)->E=e∧n=b.size∧b[j]? =some (.pointer none):=by intro j E n d;exfalso;have f:=(Ad.1 d).1;have:=h j _ (b[j]'(by omega)) d (Ao (by omega));simp[d7] at this
theorem SR.newObj(h:SR g s w a)(cs:List V)(r:Array Value)(e:TypeId)(hl:cs.length=r.size)(h1:∀c∈cs,c.one=true)
  (hv:∀(i:Nat) c cv,cs[i]? =some c->r[i]? =some cv->VRel g.I g.ρ s.hp.length w c cv) (y:∀(i:Nat) c cv,cs[i]? =some c->r[i]? =some cv->xj c=true->d7 c cv)
  (G:∀(j E n:Nat),cs[j]? =some (.bn E n)->E=e∧n=r.size∧r[j]? =some (.pointer none)) (d:Nat):
  ∃g',SR g' {s.set d (.ptr s.hp.length 0) with hp:=s.hp++[some cs]} (w.alloc (.cells r e)) (a.put (some d) (.pointer (some ⟨w.heap.size,0,none⟩)))∧
   FR g s.hp w g' (s.hp++[some cs]) (w.alloc (.cells r e)):=by
 obtain⟨f1,N,f3⟩:=lD w (.cells r e);let w':=w.alloc (.cells r e);let g':Gh:={g with ρ:=λid=>if id=s.hp.length then w.heap.size else g.ρ id}
 have A:∀b j,g.I b j->b<w.heap.size:=by intro b j p;exact(h.hr.exI b j p).lt
 have D:∀b j,b<w.heap.size->w'.cell? ⟨b,j,none⟩=w.cell? ⟨b,j,none⟩:=by intro b j y;simp only[w',By,N b y]
 have u:Up g.I g.ρ s.hp.length w g'.I g'.ρ (s.hp++[some cs]).length w':=
  ⟨λb j p=>p,λb j p=>D b j (A b j p),λid hid=>by simp[g',Bj hid],by simp⟩
 have J:∀(id:Nat) cs,s.hp[id]? =some (some cs)->g.ρ id<w.heap.size:=by intro id cs hid;exact(h.hr.obj id cs hid).lt
 have t:∀B v cv,au g w B v cv->au g' w' B v cv:=by intro B v cv ho;refine b7 ho rfl (λb j p=>⟨u.mono b j p,u.cell b j p⟩) ?_;intro b y;exact⟨y,N b (h.hr.oLt b B y),λj S=>S⟩
 have split:∀(id:Nat) o,(s.hp++[some cs])[id]? =some (some o)->(id<s.hp.length∧s.hp[id]? =some (some o))∨(id=s.hp.length∧o=cs):=by
  intro id o hid;rcases AI id s.hp.length with p|p;·rw[Ar p] at hid;exact .inl ⟨p,hid⟩
  ·rw[Aq p] at hid;have X:id-s.hp.length=0:=by
    rcases CX (id-s.hp.length) with X|X;·exact X
    ·rw[AZ (by simp;omega)] at hid;simp at hid
   rw[X] at hid;simp at hid;exact .inr ⟨by omega,hid.symm⟩
 have k:g'.ρ s.hp.length=w.heap.size:=by simp[g']
 have f:∀id,id<s.hp.length->g'.ρ id=g.ρ id:=λid hid=>by simp[g',Bj hid]
 have hs:SR g' {s with hp:=s.hp++[some cs]} w' a:=by
  refine⟨⟨?_,?_,?_,?_,?_,?_⟩,⟨h.er.size,?_,?_⟩⟩
  ·intro id o hid;rcases split id o hid with⟨p,hid⟩|⟨rfl,rfl⟩
   ·refine(h.hr.obj id o hid).keep ?_ λa1 e' fz k1 x=>⟨x.len,x.plain,x.typedUp rfl u.rho u.num rfl,x.cold,x.one,λj c cv F q=>(x.rel j c cv F q).up u,λj c cv F q=>t _ _ _ (x.own j c cv F q),by rw[f id p];exact x.bn⟩
    rw[f id p];exact N _ (J id o hid)
   ·refine jg.ofRow0 ?_ ⟨hl,h1,λj c cv F q=>(hv j c cv F q).up u,λj c cv F q=>?_,λj E n S=>⟨(G j E n S).1,(G j E n S).2.1,.inl (G j E n S).2.2⟩⟩;·rw[k];exact f3
    ·cases R:xj c with
     |true=>exact(y j c cv F q R).own _ _ _
     |false=>cases c<;>simp[xj] at R;simp[au]
  ·intro id H o o' k1 x W;rcases split id o k1 with⟨p,m1⟩|⟨Z, -⟩<;>rcases split H o' x with⟨M,m2⟩|⟨e2, -⟩
   ·rw[f _ p,f _ M];exact h.hr.apart id H o o' m1 m2 W
   ·rw[f _ p,e2,k];exact Bj (J id o m1)
   ·rw[f _ M,Z,k];exact(Bj (J H o' m2)).symm
   ·exact absurd (Z.trans e2.symm) W
  ·intro id o hid j p;rcases split id o hid with⟨C,hid⟩|⟨rfl,rfl⟩
   ·rw[f _ C] at p;exact h.hr.notI id o hid j p
   ·rw[k] at p;have:=A _ _ p;omega
  ·intro id o hid;rcases split id o hid with⟨C,hid⟩|⟨rfl,rfl⟩
   ·rw[f _ C];exact h.hr.notO id o hid
   ·rw[k];cases Y:g.O w.heap.size with
    |none=>rfl
    |some oc=>have:=h.hr.oLt _ _ Y;omega
  ·intro b j p;exact(h.hr.exI b j p).blk (by first|exact hold b (A b j p)|exact N b (A b j p))
  ·intro b oc y;have:=h.hr.oLt b oc y;show b<w'.heap.size;rw[f1];omega
  ·intro n v cv L q;exact(h.er.rel n v cv L q).up u
  ·intro n v cv L q;exact t _ _ _ (h.er.own n v cv L q)
 refine⟨g',?_,rfl,rfl,rfl,rfl,by rw[f1];omega,λb y _ _=>N b y,u,λb j _ _ _ p=>p,λb _ _ Y=>Y,?_⟩
 ·have:=hs.set d (v:=.ptr s.hp.length 0) (cv:=.pointer (some ⟨w.heap.size,0,none⟩)) (by
   rw[<-k];exact .ptr _ _ (by simp)) (by simp[au])
  exact this
 ·intro id o hid;rcases split id o hid with⟨C,hid⟩|⟨rfl,rfl⟩
  ·exact .inl ⟨o,hid⟩
  ·exact .inr ⟨Am _,.inl (by rw[k];exact Am _)⟩
theorem atr{d:Nat}{zero:List V}(b:ny P (.new d zero) m=true)(v:step Γ (.new d zero) s=some (true,s'))(h:SR g s w a)(j:cF g s w a s' next):m.wp P a w next Q:=by
 obtain⟨dst,x,ty,pos,q,y⟩:=m;simp only[ny,Ac,beq_iff_eq] at b;obtain⟨rfl,b⟩:=b;split at b
 ·rename_i t;obtain⟨i,z,o,r,f⟩:=yB b;obtain rfl:_=s':=by simpa [step] using v
  obtain⟨u,k,p⟩:=pt (I:=g.I) (ρ:=g.ρ) (N:=s.hp.length) (w:=w) f;refine eX rfl (w':=w.alloc (.cells z.cells t)) (cv:=.pointer (some ⟨w.heap.size,0,none⟩)) ?_ (h.newObj zero z.cells t (by simpa using u) k (λi c cv b e=>p i c cv b (by simpa using e)) (λi c cv b e _=>pr f i c cv b (by simpa using e)) (amD f) d) j;simp[execOp,Instr.alloc,zeroValue,typeInfo,o,r,newVar,newRow]
 ·simp at b
def aoU(P:Program)(o:IOp)(m:Oper):Bool:=
 match o with
 |_=>false
theorem wG{I:Nat->Nat->Prop}{ρ:Nat->Nat}{N:Nat}{v:V}{cv:Value}(h:VRel I ρ N w v cv)(d:v.cells.all V.one=true):
  v.cells.length=cv.cells.size∧(∀c∈v.cells,c.one=true)∧∀(j:Nat) c u,v.cells[j]? =some c->cv.cells[j]? =some u->VRel I ρ N w c u:=by
 have e:∀c∈v.cells,c.one=true:=λc q=>Al.1 d c q
 have k:=h;cases h with
 |agg cs us i _ r p=>exact⟨by simpa [V.cells,Ce] using i,e,by simpa [V.cells,Ce] using p⟩
 |undef=>simp[V.cells,V.one] at d
 |tup=>simp[V.cells,V.one] at d
 |junk cv o=>
  have b:cv.cells= #[cv]:=by cases cv<;>simp[Dt] at o<;>rfl
  refine⟨by simp[V.cells,b],e,?_⟩;intro j c u d f;rw[b] at f;cases j with
  |zero=>simp[V.cells] at d f;subst d f;exact k
  |succ j=>simp[V.cells] at d
 |_=>
  refine⟨by simp[V.cells,Ce],e,?_⟩;intro j c u d f;cases j with
  |zero=>simp[V.cells,Ce] at d f;subst d f;exact k
  |succ j=>simp[V.cells] at d
theorem att{d:Nat}{x:aw}(b:ny P (.box d x) m=true)(p:step Γ (.box d x) s=some (true,s'))(h:SR g s w a)(B:cF g s w a s' next):m.wp P a w next Q:=by
 obtain⟨dst,N,ty,pos,u,H⟩:=m;simp only[ny,Ac,beq_iff_eq] at b;obtain⟨rfl,b⟩:=b;split at b
 ·rename_i t y;simp only[Ac] at b;obtain⟨J,M⟩:=b;have q:=aI J h.er;have f:(execOp a.eval ⟨some d,.box t y,ty,pos,u,H⟩).run P w=.ok (.value (.pointer (some ⟨w.heap.size,0,none⟩))) (w.alloc (.cells (a.eval y).cells t)):=by
   simp[execOp,Instr.box,newVar,newRow]
  simp only[step] at p;split at p
  ·rename_i cs D;obtain rfl:_=s':=by simpa using p
   rw[D] at q;generalize a.eval y=cv at q f;cases q with
   |agg _ vs F G C I=>exact eX rfl f (h.newObj cs vs t F G I (λi c cv b e _=>C i c cv b e) (arL F C) d) B
  ·rename_i v D L;split at p
   ·rename_i k;obtain rfl:_=s':=by simpa using p
    have o:(a.eval y).cells= #[a.eval y]:=by have:=q.oneCell k;cases A:a.eval y<;>rw[A] at this<;>simp[Dt] at this<;>rfl
    rw[o] at f;refine eX rfl f (h.newObj [disown (x.ev s)] #[a.eval y] t rfl (by simpa [mu] using k) ?_ ?_ ?_ d) B
    ·intro i c cv b e;cases i with
     |zero=>simp at b e;subst b e;exact q.disown
     |succ i=>simp at b
    ·intro i c cv b e;cases i with
     |zero=>intro _;simp at b e;subst b e;exact acv _ _
     |succ i=>simp at b
    ·intro j E n r;cases j with
     |zero=>simp at r;cases A:x.ev s<;>rw[A] at r<;>simp[disown] at r
     |succ j=>simp at r
   ·simp at p
 ·simp at b
theorem arM{x:aw}{y:Operand}{q:Occ}(b:aJ x y=true)(h:SR g s w a):
  ∃g₁,SR g₁ (x.after s) w a∧FR g s.hp w g₁ s.hp w∧g₁.I=g.I∧g₁.ρ=g.ρ∧au g₁ w q (x.ev s) (a.eval y):=by
 cases x with
 |t n=>exact⟨g,h,FR.refl _ _ _,rfl,rfl,au.disown _ _ _ _ _⟩
 |c v=>
  refine⟨g,h,FR.refl _ _ _,rfl,rfl,?_⟩;unfold aJ at b;split at b;·rename_i e;cases e
  ·rename_i e;cases e
  ·rename_i e;cases e;exact wu b _
  ·rename_i e;cases e;simp[aw.ev,au]
  ·simp at b
 |tk n=>
  have d:y=.tmp n:=by
   unfold aJ at b;split at b;·rename_i e;cases e
   ·rename_i k e;cases e;rw[show k=n by simpa using (beq_iff_eq.1 b).symm]
   ·rename_i e;cases e
   ·rename_i e;cases e
   ·simp at b
  subst d;have p:=h.er.getOwn n;obtain⟨g₁,i,r,j,f,o⟩:=ahG (q:=q) (h.after (.tk n)) (ww n s) p;exact⟨g₁,i,by simpa [oE] using r,j,f,o⟩
theorem SR.putCells(h:SR g s w a){id o:Nat}{cs news:List V}{us:List Value}(ho:s.obj id=some cs)(Y:news.length=us.length)(h1:∀c∈news,c.one=true)
  (b6:o+news.length<=cs.length) (hv:∀(i:Nat) c cv,news[i]? =some c->us[i]? =some cv->VRel g.I g.ρ s.hp.length w c cv)
  (R:∀(i:Nat) c cv,news[i]? =some c->us[i]? =some cv->au g w (.cell id (o+i)) c cv) (a2:∀(i E n:Nat),news[i]? =some (.bn E n)->cs[o+i]? =some (.bn E n)∧(us[i]? =some (.pointer none)∨us[i]? =some (.pointer (some ⟨g.ρ id,o+i,none⟩)))):
  SR g (s.setObj id (cs.take o++news++cs.drop (o+news.length))) (w.setCells (g.ρ id) o us) a∧
   FR g s.hp w g (s.hp.set id (some (cs.take o++news++cs.drop (o+news.length)))) (w.setCells (g.ρ id) o us):=by
 obtain⟨hid,a9⟩:=jK ho;obtain⟨N,e,Z,x⟩:=ta h.hr ho;obtain⟨⟨X,q1,q2⟩,q3,q4,q5,q6,q7⟩:=i9 (g.ρ id) us o w N e (0,0) Z;let w':=w.setCells (g.ρ id) o us;let r:=cs.take o++news++cs.drop (o+news.length);have S:=x.len;have al:∀b j,g.I b j->b≠g.ρ id:=by rintro b j D rfl;exact h.hr.notI id cs hid j D
 have F:∀b j,g.I b j->w'.cell? ⟨b,j,none⟩=w.cell? ⟨b,j,none⟩:=by intro b j D;exact A2 _ us o w _ (λe=>absurd e (al b j D))
 have u:Up g.I g.ρ s.hp.length w g.I g.ρ s.hp.length w':=⟨λ_ _ h=>h,F,λ_ _=>rfl,Am _⟩
 have q:∀H v cv,au g w H v cv->au g w' H v cv:=by intro H v cv a1;refine b7 a1 rfl (λb j D=>⟨u.mono b j D,u.cell b j D⟩) ?_;intro b G;refine⟨G,q3 b ?_,λj t=>t⟩;rintro rfl;rw[h.hr.notO id cs hid] at G;simp at G
 have y:∀j,X[j]? =if o<=j∧j<o+us.length then us[j-o]? else N[j]?:=by
  intro j;rw[<-aM q1 j];split;·rename_i t;have:=BB (g.ρ id) us o w (λj' b0=>by rw[aM Z,Ao (by omega)];rfl) (j-o) (by omega);rw[show o+(j-o)=j by omega] at this;rw[this,Ab]
  ·rename_i t;rw[A2 _ us o w _ (λ_ _=>by simp only;omega),aM Z]
 have J:∀j,r[j]? =if o<=j∧j<o+news.length then news[j-o]? else cs[j]?:=by
  intro j;have ht:(cs.take o).length=o:=by simp;omega
  simp only[r];split;·rename_i t;rw[BW,Aq (by omega),ht,Ar (by omega)]
  ·rename_i t;rcases AI j o with h'|h';·rw[BW,Ar (by omega),AO,if_pos h']
   ·rw[Aq (by simp;omega),A6]
    congr 1
    simp;omega
 have a0:r.length=cs.length:=by simp[r];omega
 have W:∀c∈r,c.one=true:=by
  intro c k;simp only[r,Aw] at k;rcases k with(k|k)|k;·exact x.one c (Be k)
  ·exact h1 c k
  ·exact x.one c (BC k)
 have a4:id<s.hp.length:=(Ad.1 hid).1;have split:∀(f:Nat) o',(s.hp.set id (some r))[f]? =some (some o')->(f=id∧o'=r)∨(f≠id∧s.hp[f]? =some (some o')):=by
  intro f o' p;rw[AB] at p;split at p;·rename_i e;simp[a4] at p;exact .inl ⟨e.symm,p.symm⟩
  ·rename_i e;exact .inr ⟨λe'=>e e'.symm,p⟩
 have C:∀(f:Nat) o',(s.hp.set id (some r))[f]? =some (some o')->∃L,s.hp[f]? =some (some L):=by
  intro f o' p;rcases split f o' p with⟨rfl,_⟩|⟨_,p⟩
  ·exact⟨cs,hid⟩
  ·exact⟨_,p⟩
 refine⟨⟨⟨?_,?_,?_,?_,?_,?_⟩,⟨h.er.size,?_,?_⟩⟩,⟨rfl,q5,q6,q7,by rw[q4];exact Am _,?_,?_,λ_ _ _ _ _ D=>D,λ_ _ _ hO=>hO,?_⟩⟩
 ·intro f o' p;simp only[St.setObj,AF];rcases split f o' p with⟨rfl,rfl⟩|⟨M,p⟩
  ·refine jg.ofRow0 q1 ⟨by rw[a0,q2,S],W,?_,?_,?_⟩
   ·intro j c cv k d;rw[J] at k;rw[y] at d;rw[<-Y] at d;split at k;·rename_i t;rw[if_pos t] at d;exact(hv _ c cv k d).up u
    ·rename_i t;rw[if_neg t] at d;exact(x.rel j c cv k d).up u
   ·intro j c cv k d;rw[J] at k;rw[y] at d;rw[<-Y] at d;split at k;·rename_i t;rw[if_pos t] at d;have:=R _ c cv k d;rw[show o+(j-o)=j by omega] at this;exact q _ _ _ this
    ·rename_i t;rw[if_neg t] at d;exact q _ _ _ (x.own j c cv k d)
   ·intro j E n k;rw[J] at k;split at k;·rename_i t;obtain⟨m1,m2⟩:=a2 _ E n k;rw[show o+(j-o)=j by omega] at m1 m2;obtain⟨m3,m4, -⟩:=x.bn j E n m1;refine⟨m3,by rw[q2];exact m4,?_⟩;rw[y,<-Y,if_pos t];exact m2
    ·rename_i t;rw[y,<-Y,if_neg t,q2];exact x.bn j E n k
  ·refine(h.hr.obj f o' p).keep ?_ λbY e2 fz A B=>⟨B.len,B.plain,B.typedUp rfl u.rho u.num rfl,B.cold,B.one,λj c cv k d=>(B.rel j c cv k d).up u,λj c cv k d=>q _ _ _ (B.own j c cv k d),B.bn⟩
   rw[q3 _ (h.hr.apart f id o' cs p hid M)]
 ·intro id1 ae O c2 A B M;obtain⟨_,A⟩:=C id1 O A;obtain⟨_,B⟩:=C ae c2 B;exact h.hr.apart _ _ _ _ A B M
 ·intro id1 O A;obtain⟨_,A⟩:=C id1 O A;exact h.hr.notI _ _ A
 ·intro id1 O A;obtain⟨_,A⟩:=C id1 O A;exact h.hr.notO _ _ A
 ·intro b j D;exact(h.hr.exI b j D).set (F b j D) Z q1 q3
 ·intro b oc G;rw[q4];exact h.hr.oLt b oc G
 ·intro n v cv p d;simp only[St.setObj,AF];exact(h.er.rel n v cv p d).up u
 ·intro n v cv p d;exact q _ _ _ (h.er.own n v cv p d)
 ·intro b _ ar _;exact q3 b (λe=>ar id cs hid e.symm)
 ·simp only[AF];exact u
 ·intro f o' p;obtain⟨L,p⟩:=C f o' p;exact .inl ⟨L,p⟩
theorem SR.bareCell(h:SR g s w a){id o:Nat}{cs:List V}(H:s.obj id=some cs):
  SR g (s.setObj id (cs.set o (disown (cs.getD o .undef)))) w a∧FR g s.hp w g (s.hp.set id (some (cs.set o (disown (cs.getD o .undef))))) w:=by
 obtain⟨hid,G⟩:=jK H;have F:id<s.hp.length:=(Ad.1 hid).1;let q:=cs.set o (disown (cs.getD o .undef));have split:∀(b:Nat) o',(s.hp.set id (some q))[b]? =some (some o')->(b=id∧o'=q)∨(b≠id∧s.hp[b]? =some (some o')):=by
  intro b o' f;rw[AB] at f;split at f;·rename_i e;simp[F] at f;exact .inl ⟨e.symm,f.symm⟩
  ·rename_i e;exact .inr ⟨λO=>e O.symm,f⟩
 have t:∀(b:Nat) o',(s.hp.set id (some q))[b]? =some (some o')->∃y,s.hp[b]? =some (some y):=by
  intro b o' f;rcases split b o' f with⟨rfl,_⟩|⟨_,f⟩
  ·exact⟨cs,hid⟩
  ·exact⟨_,f⟩
 have p:∀(j:Nat) c,q[j]? =some c->∃r,cs[j]? =some r∧(c=r∨c=disown r):=by
  intro j c k;simp only[q,AB] at k;split at k
  ·rename_i e;subst e;split at k;·rename_i A;refine⟨cs[o],Ab A,.inr ?_⟩;simp only[Ah] at k;rw[<-k];simp[Ak,Ab A]
   ·simp at k
  ·exact⟨c,k,.inl rfl⟩
 refine⟨⟨⟨?_,?_,?_,?_,h.hr.exI,h.hr.oLt⟩,⟨h.er.size,?_,h.er.own⟩⟩,⟨rfl,rfl,rfl,rfl,Am _,λ_ _ _ _=>rfl,?_,λ_ _ _ _ _ J=>J,λ_ _ _ L=>L,?_⟩⟩
 ·intro b o' f;simp only[St.setObj,AF];rcases split b o' f with⟨rfl,rfl⟩|⟨C,f⟩
  ·obtain⟨I,e,M,x⟩:=ta h.hr H;refine jg.ofRow0 M ⟨by simp[q,x.len],?_,?_,?_,?_⟩
   ·intro c k;obtain⟨j,N,rfl⟩:=AS.1 k;obtain⟨r,i,d⟩:=p j _ (Ab N);have:=x.one r (Ai i);rcases d with d|d<;>rw[d];·exact this
    ·rw[mu];exact this
   ·intro j c cv k u;obtain⟨r,i,d⟩:=p j _ k;have:=x.rel j r cv i u;rcases d with d|d<;>rw[d];·exact this
    ·exact this.disown
   ·intro j c cv k u;obtain⟨r,i,d⟩:=p j _ k;have:=x.own j r cv i u;rcases d with d|d<;>rw[d];·exact this
    ·exact au.disown _ _ _ _ _
   ·intro j E n k;obtain⟨r,i,d⟩:=p j _ k;rcases d with d|d;·exact x.bn j E n (by rw[d];exact i)
    ·cases r<;>simp[disown] at d
  ·exact h.hr.obj b o' f
 ·intro id1 D B R i d C;obtain⟨_,i⟩:=t id1 B i;obtain⟨_,d⟩:=t D R d;exact h.hr.apart _ _ _ _ i d C
 ·intro id1 B i;obtain⟨_,i⟩:=t id1 B i;exact h.hr.notI _ _ i
 ·intro id1 B i;obtain⟨_,i⟩:=t id1 B i;exact h.hr.notO _ _ i
 ·intro n v cv f u;simp only[St.setObj,AF];exact h.er.rel n v cv f u
 ·simp only[AF];exact Up.refl _ _ _ _
 ·intro b o' f;obtain⟨y,f⟩:=t b o' f;exact .inl ⟨y,f⟩
theorem aqM{d n:Nat}{agg:Bool}{x:aw}(r:ny P (.ld d n agg true x) m=true)(f:step Γ (.ld d n agg true x) s=some (true,s'))(h:SR g s w a)(O:cF g s w a s' next):m.wp P a w next Q:=by
 obtain⟨dst,op,ty,pos,I,gd⟩:=m;simp only[ny,Ac,beq_iff_eq] at r;obtain⟨rfl,r⟩:=r;split at r
 ·rename_i t S;simp only[Ac,beq_iff_eq,Bk] at r;obtain⟨R,W,⟨rfl,rfl⟩,X⟩:=r;have J:=aI X h.er;simp only[step] at f;split at f
  ·rename_i cs N;have y:a7 P (.ld d 1 false false x) ⟨some d,.load t S,ty,pos,I,gd⟩=true:=by
    simp[a7,R,W,X]
   refine apy (Γ:=Γ) y ?_ h O;simp only[step,N];exact f
  ·rename_i id o N;split at f
   ·rename_i cs H;split at f
    ·rename_i an;simp only[if_true] at f;cases E:xj (cs.getD o .undef) with
     |false=>rw[E] at f;simp at f
     |true=>
     rw[E] at f;simp only[if_true] at f;obtain rfl:_=s':=by simpa using f
     rw[N] at J;generalize L:a.eval S=cv at J;cases J with
     |ptr _ _ hid=>
      obtain⟨i,e,hb,B⟩:=ta h.hr H;have Y:=B.len;have k:o<cs.length:=by omega
      have C:o<i.size:=by omega
      have F:=qj (P:=P) (w:=w) (b:=g.ρ id) (o:=o) (vs:=[i[o]]) R W (.inr rfl) rfl (λj v M=>by
       cases j with
       |zero=>simp at M;subst M;rw[aM hb];simp[C]
       |succ j=>simp at M)
      have D:cs[o]? =some cs[o]:=Ab k;have G:i[o]? =some i[o]:=Ao C;obtain⟨b1,b2⟩:=h.bareCell (o:=o) H;obtain⟨g₁,t1,t2,t3,Z,t5⟩:=ahG (q:=.slot d) b1 (p:=.cell id o) (by intro a5 v c u;simp only[St.setObj] at c;rw[BG (Ad.1 (jK H).1).1] at c;simp only[Ah] at c;subst c;rw[BG k] at u;simp only[Ah] at u;subst u;exact dV _) (B.own o _ _ D G);have A:(Dh t (.pointer (some ⟨g.ρ id,o,none⟩))).run P w=.ok i[o] w:=F;refine eX rfl (cv:=i[o]) (w':=w) (by simp[execOp,L,A]) ⟨g₁,?_,?_⟩ O
      ·have hl:d6 false ((cs.drop o).take 1)=cs[o]:=by
        rw[Bl k];rfl
       rw[hl];refine t1.set d ?_ t5;rw[t3,Z];simpa [St.setObj] using B.rel o _ _ D G
      ·exact b2.trans (by simpa [St.set,St.setObj] using t2)
    ·simp at f
   ·simp at f
  ·simp at f
 ·simp at r
theorem atY{d:Option Nat}{n:Nat}{x v:aw}(b:ny P (.st d n x v) m=true)(B:step Γ (.st d n x v) s=some (true,s'))(h:SR g s w a)(hn:cF g s w a s' next):m.wp P a w next Q:=by
 obtain⟨dst,op,ty,pos,W,gd⟩:=m;simp only[ny,Ac,beq_iff_eq] at b;obtain⟨rfl,b⟩:=b;split at b
 ·rename_i t x' y;simp only[Ac,beq_iff_eq] at b;obtain⟨h1,h2,h3⟩:=b;have Z:=aI h2 h.er;have D:=aI h3 h.er;simp only[step] at B;split at B
  ·rename_i id o hx;split at B
   ·rename_i cs ho;split at B
    ·rename_i p;simp only[Ac,beq_iff_eq,decide_eq_true_eq] at p;obtain⟨⟨L,H⟩,b5,a0⟩:=p;obtain rfl:_=s':=by simpa using B
     rw[hx] at Z;generalize ad:a.eval x'=cx at Z;cases Z with
     |ptr _ _ hid=>
      obtain⟨bY,e,hb,a4⟩:=ta h.hr ho;have bx:=a4.len;obtain⟨Y,c2,c3⟩:=wG D H;have a3:(a.eval y).cells.size=n:=by rw[<-Y];exact L
      have J:(execOp a.eval ⟨dst,.store t x' y,ty,pos,W,gd⟩).run P w=.ok .skip (w.setCells (g.ρ id) o (a.eval y).cells.toList):=by
       have:=run_storeCells_cells (P:=P) (g.ρ id) o (a.eval y).cells.toList 0 w
        (λj N=>by rw[aM hb,Ao (by simp at N;omega)];rfl)
        (λj N=>by simp[BA,hb])
        (λu hu=>by
         obtain⟨j,N,rfl⟩:=AS.1 hu;have F:j<(v.ev s).cells.length:=by rw[Y];simpa using N
         exact(c3 j _ _ (Ab F) (by simp)).oneCell (c2 _ (AK F)))
       simp[execOp,ad,DC,BQ,storeVar,oq h1,a3,this]
      have key:∃g₁,SR g₁ (v.after s) w a∧FR g s.hp w g₁ s.hp w∧g₁.I=g.I∧g₁.ρ=g.ρ∧
        ∀(i:Nat) c cv,(v.ev s).cells[i]? =some c->(a.eval y).cells.toList[i]? =some cv->au g₁ w (.cell id (o+i)) c cv:=by
       by_cases k:∃cs,v.ev s=.agg cs
       ·obtain⟨b4,k⟩:=k;refine⟨g,h.after v,FR.refl _ _ _,rfl,rfl,?_⟩;rw[k] at D;generalize a.eval y=cy at D;cases D with
        |agg _ b3 _ _ ae _=>intro i c cv b f;rw[k] at b;exact(ae i c cv (by simpa [V.cells] using b) (by simpa [Ce] using f)).own _ _ _
       ·have r:(v.ev s).cells=[v.ev s]:=by
         cases hh:v.ev s<;>first|rfl|(rw[hh] at k;exact absurd ⟨_,rfl⟩ k)
        obtain⟨g₁,X,M,k3,O,S⟩:=arM (q:=.cell id o) h3 h;refine⟨g₁,X,M,k3,O,?_⟩;have C:(v.ev s).one=true:=c2 _ (by rw[r];exact Az.2 rfl);have A:(a.eval y).cells= #[a.eval y]:=by have:=D.oneCell C;cases hh:a.eval y<;>rw[hh] at this<;>simp[Dt] at this<;>rfl
        intro i c cv b f;rw[r] at b;rw[A] at f;cases i with
        |zero=>simp at b f;subst b f;exact S
        |succ i=>simp at b
      obtain⟨g₁,X,M,k3,O,S⟩:=key;have al:(v.after s).obj id=some cs:=by unfold St.obj;rw[oE];exact ho
      have G:g₁.ρ id=g.ρ id:=by rw[O]
      obtain⟨p1,R⟩:=X.putCells (o:=o) (news:=(v.ev s).cells) (us:=(a.eval y).cells.toList) al (by simpa using Y) c2 (by omega)
       (λi c cv b f=>by rw[k3,O,oE];exact c3 i c cv b (by simpa using f)) S (λi E n hi=>absurd (Al.1 a0 _ (Ai hi)) (by simp[xj]))
      rw[G,L,BW] at p1 R;unfold CF Df;rw[J];cases dst with
      |none=>refine hn _ _ g₁ p1 ?_ rfl;refine M.trans ?_;simpa [St.setObj,St.setO,oE] using R
      |some d=>refine hn _ _ g₁ (p1.set d (.undef _) (by simp[au])) ?_ rfl;refine M.trans ?_;simpa [St.setObj,St.setO,St.set,oE] using R
    ·simp at B
   ·simp at B
  ·simp at B
 ·simp at b
theorem acA{α:Type}(l news:List α)(o:Nat)(e:o+news.length<=l.length)(j:Nat):
  (l.take o++news++l.drop (o+news.length))[j]? =if o<=j∧j<o+news.length then news[j-o]? else l[j]?:=by
 have d:(l.take o).length=o:=by simp;omega
 split;·rename_i c;rw[BW,Aq (by omega),d,Ar (by omega)]
 ·rename_i c;rcases AI j o with b|b;·rw[BW,Ar (by omega),AO,if_pos b]
  ·rw[Aq (by simp;omega),A6]
   congr 1
   simp;omega
structure Row(I:Nat->Nat->Prop)(ρ:Nat->Nat)(N:Nat)(w:World)(cs:List V)(us:List Value):Prop where
 len:cs.length=us.length
 one:∀c∈cs,c.one=true
 rel:∀(i:Nat) c cv,cs[i]? =some c->us[i]? =some cv->VRel I ρ N w c cv
 nil:∀(i:Nat) c cv,cs[i]? =some c->us[i]? =some cv->d7 c cv
theorem Row.over{I:Nat->Nat->Prop}{ρ:Nat->Nat}{N:Nat}{cs news:List V}{us vs:List Value}(h:Row I ρ N w cs us)(k:Row I ρ N w news vs)(o:Nat)(f:o+news.length<=cs.length):
  Row I ρ N w (cs.take o++news++cs.drop (o+news.length)) (us.take o++vs++us.drop (o+vs.length)):=by
 have r:=h.len;have p:=k.len;have q:=acA cs news o f;have j:=acA us vs o (by omega);refine⟨by simp;omega,?_,?_,?_⟩
 ·intro c d;simp only[Aw] at d;rcases d with(d|d)|d;·exact h.one c (Be d)
  ·exact k.one c d
  ·exact h.one c (BC d)
 ·intro i c cv d b;rw[q] at d;rw[j,<-p] at b;split at d;·rename_i e;rw[if_pos e] at b;exact k.rel _ _ _ d b
  ·rename_i e;rw[if_neg e] at b;exact h.rel _ _ _ d b
 ·intro i c cv d b;rw[q] at d;rw[j,<-p] at b;split at d;·rename_i e;rw[if_pos e] at b;exact k.nil _ _ _ d b
  ·rename_i e;rw[if_neg e] at b;exact h.nil _ _ _ d b
theorem aqN(fs:List Field)(h:fs.all (λf=>(P.info? f.type).isSome)=true):
  ∃places,fs.mapM (λf=>(P.info? f.type).map λi=>(f.offset,i.size))=some places∧∀(i:Nat) f n,fs[i]? =some f->fR P f.type=some n->places[i]? =some (f.offset,n):=by
 induction fs with
 |nil=>exact⟨[],rfl,by simp⟩
 |cons f fs o=>
  simp only[B7,Ac] at h;obtain⟨places,e,p⟩:=o h.2;obtain⟨i,d⟩:=BU.1 h.1;refine⟨(f.offset,i.size)::places,by simp[List.mapM_cons,d,e],?_⟩;intro j k n c b;cases j with
  |zero=>simp at c;subst c;simp[fR,d] at b;simp[b]
  |succ j=>exact p j k n (by simpa using c) b
theorem ahI(h:SR g s w a){fs:Array Field}{places:Nat->Option (Nat×Nat)}(hp:∀(i:Nat) f n,fs[i]? =some f->fR P f.type=some n->places i=some (f.offset,n)):
  ∀(G:List (Nat×Nat×aw))(H:List (Nat×Operand))(cs o:List V)(b:Array Value),yA P fs G H=true->Row g.I g.ρ s.hp.length w cs b.toList->
   lay cs (G.map λ(A,n,x)=>(A,n,x.ev s))=some o->∃e,Cs places b (H.map λ(i,y)=>(i,a.eval y))=some e∧Row g.I g.ρ s.hp.length w o e.toList
 | [],[],cs,o,b,_,F,t=>by simp[lay] at t;subst t;exact⟨b,by simp[Cs],F⟩
 |(A,n,x)::G,(i,y)::H,cs,o,b,v,F,t=>by
  simp only[yA,Ac] at v;obtain⟨q,M,L⟩:=v;split at q
  ·rename_i f hf;simp only[Ac,beq_iff_eq] at q;obtain⟨rfl,S⟩:=q;simp only[Bn,lay] at t;split at t
   ·rename_i k;simp only[Ac,beq_iff_eq,decide_eq_true_eq] at k;obtain⟨⟨u,C⟩,Z⟩:=k;obtain⟨R,c2,X⟩:=wG (aI M h.er) C;have B:Row g.I g.ρ s.hp.length w ((x.ev s).cells.map disown) (a.eval y).cells.toList:=by
     refine⟨by simp[R],?_,?_,?_⟩;·intro c r;obtain⟨J,p,rfl⟩:=AE.1 r;rw[mu];exact c2 J p
     ·intro j c cv r N;rw[Ay,An] at r;obtain⟨J,p,rfl⟩:=r;exact(X j _ _ p (by simpa using N)).disown
     ·intro j c cv r _;rw[Ay,An] at r;obtain⟨J,p,rfl⟩:=r;exact acv _ _
    have E:(a.eval y).cells.size=n:=by rw[<-R];exact u
    have O:b.size=cs.length:=by have:=F.len;simpa using this.symm
    have D:=aeQ (a.eval y).cells.toList f.offset 0 b (by simp[E];omega);simp only[Cl,BM] at D;have d:=F.over B f.offset (by simp[u];omega);simp only[Bt,u,BM] at d;rw[<-D] at d;obtain⟨e,W,Y⟩:=ahI h hp G H _ o _ L d t;refine⟨e,?_,Y⟩;simp only[Bn,Cs,hp i f n hf S,E];rw[if_neg (by simp;omega)];rw[<-W]
    congr 1
    rw[<-Array.foldl_toList,Array.toList_zipIdx]
   ·simp at t
  ·simp at q
 | [],_::_,_,_,_,v,_,_=>by simp[yA] at v
 |_::_,[],_,_,_,v,_,_=>by simp[yA] at v
theorem atu{d:Nat}{zero:List V}{G:List (Nat×Nat×aw)}(k:ny P (.bld d zero G) m=true)(x:step Γ (.bld d zero G) s=some (true,s'))(h:SR g s w a)(r:cF g s w a s' next):m.wp P a w next Q:=by
 obtain⟨dst,op,ty,pos,ad,gd⟩:=m;simp only[ny,Ac,beq_iff_eq] at k;obtain⟨rfl,k⟩:=k;split at k
 ·rename_i t H;simp only[Ac] at k;obtain⟨Z,v⟩:=k;split at v
  ·rename_i fs X;simp only[Ac] at v;obtain⟨v,h3⟩:=v;obtain⟨i,z,D,Y,p⟩:=yB Z;obtain⟨J,L,O⟩:=pt (I:=g.I) (ρ:=g.ρ) (N:=s.hp.length) (w:=w) p;obtain⟨places,e1,e2⟩:=aqN (P:=P) fs.toList (by simpa using h3);simp only[step,An] at x;obtain⟨A,M,x⟩:=x;obtain rfl:_=s':=by simpa using x
   obtain⟨o,R,u⟩:=ahI (P:=P) (fs:=fs) (places:=λi=>places.toArray[i]?) h (λi f n C r=>by simpa using e2 i f n (by simpa using C) r) G H.toList zero A z.cells v ⟨J,L,O,λi c cv k b=>pr p i c cv k b⟩ M;have q:=run_build (P:=P) w t (H.map λ(i,y)=>(i,a.eval y)) o (by simp only[Program.built,D,X,Y,e1];simpa using R);refine aH h rfl (cv:=.agg o) (by simp[execOp,q]) (.agg _ _ (by simpa using u.len) u.one (λi c cv k b=>u.nil i c cv k (by simpa using b)) (λi c cv k b=>u.rel i c cv k (by simpa using b))) rfl r
  ·rename_i E e X;split at v
   ·rename_i sz B;obtain⟨i,z,D,Y,p⟩:=yB Z;obtain⟨J,L,O⟩:=pt (I:=g.I) (ρ:=g.ρ) (N:=s.hp.length) (w:=w) p;simp only[step,An] at x;obtain⟨A,M,x⟩:=x;obtain rfl:_=s':=by simpa using x
    obtain⟨ie,S,W⟩:∃i,P.info? e=some i∧i.size=sz:=by unfold fR at B;obtain⟨i,D,h⟩:=An.1 B;exact⟨i,D,h⟩
    obtain⟨o,R,u⟩:=ahI (P:=P) (fs:=arK E sz e) (places:=λi=>some (i*sz,sz)) h (λi f n C r=>by
     have C:(List.map (λi=>aqL e (i*sz)) (A8 E))[i]? =some f:=by simpa [arK] using C
     rw[Ay,An] at C;obtain⟨j,F,rfl⟩:=C;have F:j=i:=by
      rw[Dp] at F;·exact(Au F).symm
      ·exact(by simpa using (Ad.1 F).1)
     subst F;have r:fR P e=some n:=r;rw[B] at r;cases r;rfl) G H.toList zero A z.cells v ⟨J,L,O,λi c cv k b=>pr p i c cv k b⟩ M
    have q:=run_build (P:=P) w t (H.map λ(i,y)=>(i,a.eval y)) o (by simp only[Program.built,D,X,Y,S,W];simpa using R);refine aH h rfl (cv:=.agg o) (by simp[execOp,q]) (.agg _ _ (by simpa using u.len) u.one (λi c cv k b=>u.nil i c cv k (by simpa using b)) (λi c cv k b=>u.rel i c cv k (by simpa using b))) rfl r
   ·simp at v
  ·simp at v
 ·simp at k
end
def lc:List aw->List Operand->Bool
 | [],[]=>true
 |x::xs,y::ys=>aJ x y&&lc xs ys
 |_,_=>false
def tZ(P:Program)(o:IOp)(m:Oper):Bool:=
 match o with
 | .alr d n=>(m.dst==some d)&&(match m.op with| .alloc t=>(match P.info? t with|some i=>(match i.zero with|some z=>z.cells.size==n|none=>false)|none=>false)|_=>false)
 | .frz d r n v=>(m.dst==d)&&(match m.op with| .store t (.tmp b) e=>(r==b)&&((fR P t==some n)&&aJ v e)|_=>false)
 | .lde d n agg x=>a7 P (.ld d n agg false x) m
 | .boxe d x=>(m.dst==some d)&&(match m.op with| .box t y=>aJ x y|_=>false)
 | .mkf d f xs=>(m.dst==some d)&&(match m.op with| .makeFunc (.func c) first ys=>(f==c)&&(first.isEmpty&&lc xs ys.toList)|_=>false)
 |_=>false
section
variable{w w':World}{g g':Gh}{s s':St}{a:Act}{P:Program}{Γ:av}{m:Oper}{next:Act->World->Prop}{Q:Exit->Act->World->Prop}
theorem SR.newLaid(h:SR g s w a)(cs:List V)(d:Nat)(f:Array Value)(e:TypeId)
  (G:cs.length=f.size) (D:∀c∈cs,c.one=true)
  (C:∀(j:Nat) c cv,cs[j]? =some c->f[j]? =some cv->VRel g.I g.ρ s.hp.length w c cv):
  ∃g',SR g' (s.set d (.ea cs)) (w.alloc (.cells f e)) (a.put (some d) (.pointer (some ⟨w.heap.size,0,none⟩)))∧FR g s.hp w g' s.hp (w.alloc (.cells f e)):=by
 obtain⟨E,i,q⟩:=lD w (.cells f e);let g':Gh:={I:=λb j=>g.I b j∨(b=w.heap.size∧j<cs.length),ρ:=g.ρ,O:=g.O,β:=g.β}
 have r:∀b j,g.I b j->b<w.heap.size:=by intro b j t;exact(h.hr.exI b j t).lt
 have v:∀b j,b<w.heap.size->(w.alloc (.cells f e)).cell? ⟨b,j,none⟩=w.cell? ⟨b,j,none⟩:=by intro b j p;simp[By,i b p]
 have u:Up g.I g.ρ s.hp.length w g'.I g'.ρ s.hp.length (w.alloc (.cells f e)):=⟨λb j t=>.inl t,λb j t=>v b j (r b j t),λ_ _=>rfl,Am _⟩
 have x:∀j,(w.alloc (.cells f e)).cell? ⟨w.heap.size,j,none⟩=f[j]?:=λj=>aM q j
 have F:SR g' s (w.alloc (.cells f e)) a:=by
  refine h.keep none trivial rfl u ?_ ?_ ?_ ?_
  ·intro A b p _;have y:=h.hr.oLt b A p;refine⟨p,i b y,?_⟩;rintro j (k|⟨k,_⟩);·exact k
   ·omega
  ·intro id cs hid;have y:=(h.hr.obj id cs hid).lt;refine⟨i _ y,h.hr.notO id cs hid,?_⟩;rintro j (k|⟨k,_⟩);·exact k
   ·omega
  ·rintro b j (k|⟨rfl,k⟩);·exact(h.hr.exI b j k).blk (by first|exact i b (r b j k)|exact f2 b (r b j k))
   ·exact .row q (by omega) (λ_ J=>by omega)
  ·intro b o p;have:=h.hr.oLt b o p;omega
 refine⟨g',F.set d ?_ (by simp[au]),⟨rfl,rfl,rfl,rfl,by omega,λb p _ _=>i b p,u,?_,λ_ _ _ h=>h,λ_ cs h=>.inl ⟨cs,h⟩⟩⟩
 ·refine .ea cs _ _ (λj=>f[j]?.getD undef) D ?_ ?_ ?_;·intro j k;exact .inr ⟨rfl,by omega⟩
  ·intro j k;rw[A1,x,Ao (by omega)];rfl
  ·intro j c B;have k:j<f.size:=by rw[<-G];exact(Ad.1 B).1
   have:=C j c _ B (Ao k);rw[Ao k];exact this.up u
 ·rintro b j p _ H (t|⟨rfl,_⟩);·exact t
  ·omega
theorem asW{d:Nat}{x:aw}(b:tZ P (.boxe d x) m=true)(q:step Γ (.boxe d x) s=some (true,s'))(h:SR g s w a)(B:cF g s w a s' next):m.wp P a w next Q:=by
 obtain⟨dst,L,ty,pos,A,E⟩:=m;simp only[tZ,Ac,beq_iff_eq] at b;obtain⟨rfl,b⟩:=b;split at b
 ·rename_i t y;have r:=aI b h.er;have e:(execOp a.eval ⟨some d,.box t y,ty,pos,A,E⟩).run P w=.ok (.value (.pointer (some ⟨w.heap.size,0,none⟩))) (w.alloc (.cells (a.eval y).cells t)):=by
   simp[execOp,Instr.box,newVar,newRow]
  simp only[step] at q;split at q
  ·rename_i cs C;obtain rfl:_=s':=by simpa using q
   rw[C] at r;generalize a.eval y=cv at r e;cases r with
   |agg _ vs I D J F=>
    refine eX rfl e (h.newLaid (cs.map disown) d vs t (by simpa using I) ?_ ?_) B;·intro c b;obtain⟨u,o,rfl⟩:=AE.1 b;rw[mu];exact D u o
    ·intro j c cv b f;rw[Ay,An] at b;obtain⟨u,o,rfl⟩:=b;exact(F j u cv o f).disown
  ·rename_i v C H;split at q
   ·rename_i k;obtain rfl:_=s':=by simpa using q
    have p:(a.eval y).cells= #[a.eval y]:=by have:=r.oneCell k;cases G:a.eval y<;>rw[G] at this<;>simp[Dt] at this<;>rfl
    rw[p] at e;refine eX rfl e (h.newLaid [disown (x.ev s)] d #[a.eval y] t rfl (by simpa [mu] using k) ?_) B;intro i c cv b f;cases i with
    |zero=>simp at b f;subst b f;exact r.disown
    |succ i=>simp at b
   ·simp at q
 ·simp at b
theorem atv{d n:Nat}{agg:Bool}{x:aw}(f:tZ P (.lde d n agg x) m=true)(b:step Γ (.lde d n agg x) s=some (true,s'))(h:SR g s w a)(c:cF g s w a s' next):m.wp P a w next Q:=by
 refine apy (Γ:=Γ) (d:=d) (n:=n) (agg:=agg) (x:=x) f ?_ h c;simp only[step] at b ⊢;split at b;·rename_i cs e;rw[e];exact b
 ·simp at b
theorem atw{d n:Nat}(p:tZ P (.alr d n) m=true)(C:step Γ (.alr d n) s=some (true,s'))(h:SR g s w a)(D:cF g s w a s' next):m.wp P a w next Q:=by
 obtain⟨dst,L,ty,pos,F,J⟩:=m;simp only[tZ,Ac,beq_iff_eq] at p;obtain⟨rfl,p⟩:=p;split at p
 ·rename_i t;split at p
  ·rename_i i r;split at p
   ·rename_i z H;have B:z.cells.size=n:=by simpa using p
    obtain rfl:_=s':=by simpa [step] using C
    have f:=lD w (.cells z.cells t);obtain⟨G,c,y⟩:=f;refine eX rfl (w':=w.alloc (.cells z.cells t)) (cv:=.pointer (some ⟨w.heap.size,0,none⟩)) (by simp[execOp,Instr.alloc,zeroValue,typeInfo,r,H,newVar,newRow]) ?_ D;let g':Gh:={I:=g.I,ρ:=g.ρ,O:=λb=>if b=w.heap.size then some (.slot d) else g.O b,β:=g.β}
    have q:∀b j,g.I b j->b<w.heap.size:=by intro b j r;exact(h.hr.exI b j r).lt
    have x:∀b j,b<w.heap.size->(w.alloc (.cells z.cells t)).cell? ⟨b,j,none⟩=w.cell? ⟨b,j,none⟩:=by intro b j e;simp[By,c b e]
    have u:Up g.I g.ρ s.hp.length w g'.I g'.ρ s.hp.length (w.alloc (.cells z.cells t)):=⟨λb j r=>r,λb j r=>x b j (q b j r),λ_ _=>rfl,Am _⟩
    have C:SR g' s (w.alloc (.cells z.cells t)) a:=by
     refine h.keep none trivial rfl u ?_ ?_ ?_ ?_;·intro A b e _;have k:=h.hr.oLt b A e;exact⟨by simp[g',Bj k,e],c b k,λj v=>v⟩
     ·intro id cs hid;have k:=(h.hr.obj id cs hid).lt;exact⟨c _ k,by simp[g',Bj k,h.hr.notO id cs hid],λj v=>v⟩
     ·intro b j v;exact(h.hr.exI b j v).blk (by first|exact c b (q b j v)|exact f2 b (q b j v))
     ·intro b o e;simp only[g'] at e;split at e;·omega
      ·have:=h.hr.oLt b o e;omega
    refine⟨g',C.set d (.raw n _) ?_,⟨rfl,rfl,rfl,rfl,by omega,λb e _ _=>c b e,u,λb j _ _ _ r=>r,?_,λ_ cs h=>.inl ⟨cs,h⟩⟩⟩;·refine⟨by simp[g'],⟨z.cells,t,y,B⟩,λj v=>?_⟩;exact absurd (q _ _ v) (Nat.lt_irrefl _)
    ·intro b e E;simp[g',Bj e,E]
   ·simp at p
  ·simp at p
 ·simp at p
theorem ER.put'{N:Nat}(h:ER g N w s.env a.tmps)(d:Nat){v:V}(o:VRel g.I g.ρ N w v (a.tmps.getD d undef))(j:au g w (.slot d) v (a.tmps.getD d undef)):
  ER g N w (s.set d v).env a.tmps:=by
 refine⟨by simp[St.set,h.size],?_,?_⟩
 ·intro n k i b c;simp only[St.set,AB] at b;by_cases e:d=n
  ·subst e;simp only[if_true] at b;split at b;·obtain rfl:=Au b;obtain⟨f,rfl⟩:=AP.1 c;simpa [A9,f] using o
   ·simp at b
  ·simp only[e,if_false] at b;exact h.rel n _ _ b c
 ·intro n k i b c;simp only[St.set,AB] at b;by_cases e:d=n
  ·subst e;simp only[if_true] at b;split at b;·obtain rfl:=Au b;obtain⟨f,rfl⟩:=AP.1 c;simpa [A9,f] using j
   ·simp at b
  ·simp only[e,if_false] at b;exact h.own n _ _ b c
theorem atx{d:Option Nat}{r n:Nat}{v:aw}(q:tZ P (.frz d r n v) m=true)(L:step Γ (.frz d r n v) s=some (true,s'))(h:SR g s w a)(hn:cF g s w a s' next):m.wp P a w next Q:=by
 obtain⟨dst,op,ty,pos,ar,gd⟩:=m;simp only[tZ,Ac,beq_iff_eq] at q;obtain⟨rfl,q⟩:=q;split at q
 ·rename_i t r' v';simp only[Ac,beq_iff_eq] at q;obtain⟨rfl,h1,h3⟩:=q;have r2:=aI h3 h.er;simp only[step] at L;split at L
  ·rename_i m hr;split at L
   ·rename_i y;simp only[Ac,beq_iff_eq] at y;obtain⟨hm,H,X⟩:=y;obtain rfl:=Ax hm;obtain rfl:_=s':=by simpa using L
    have r1:=h.er.get r;have ro:=h.er.getOwn r;rw[hr] at r1 ro;obtain⟨c1,c2,c3⟩:=wG r2 X;have Z:(a.eval v').cells.size=m:=by rw[<-c1];exact H
    generalize N:a.tmps.getD r undef=cx at r1 ro;cases r1 with
    |raw _ b=>
     obtain⟨M,⟨an,e,S,b3⟩,o3⟩:=ro;simp only at M S o3;have a0:SR g (s.set r .undef) w a:=by have:=h.bare r;rw[hr] at this;exact this
     let us:=(a.eval v').cells.toList;have b1:us.length=m:=by simpa [us] using Z
     obtain⟨⟨b0,q1,q2⟩,q3,q4,q5,q6,q7⟩:=i9 b us 0 w an e (0,0) S;let w':=w.setCells b 0 us;have Y:(execOp a.eval ⟨dst,.store t (.tmp r) v',ty,pos,ar,gd⟩).run P w=.ok .skip (w.setCells b 0 us):=by
      have:=run_storeCells_cells (P:=P) b 0 us 0 w
       (λj k=>by rw[aM S,Ao (by omega)];rfl)
       (λj k=>by simp[BA,S])
       (λu hu=>by
        obtain⟨j,k,rfl⟩:=AS.1 hu;have x:j<(v.ev s).cells.length:=by rw[c1];simpa [us] using k
        exact(c3 j _ _ (Ab x) (by simp[us])).oneCell (c2 _ (AK x)))
      have he:a.eval (.tmp r)=.pointer (some ⟨b,0,none⟩):=N;simp[execOp,he,DC,BQ,storeVar,oq h1,Z];have C:Sem.run P (storeCells {block:=b,off:=0} (a.eval v').cells.toList) w=Result.ok () (w.setCells b 0 (a.eval v').cells.toList):=by simpa [us] using this
      rw[C];rfl
     have W:∀f j,g.I f j->f≠b:=by rintro f j D rfl;exact o3 j D
     let g':Gh:={I:=λf j=>g.I f j∨(f=b∧j<m),ρ:=g.ρ,O:=λf=>if f=b then none else g.O f,β:=g.β}
     have F:∀f j,f≠b->w'.cell? ⟨f,j,none⟩=w.cell? ⟨f,j,none⟩:=by intro f j J;exact A2 _ us 0 w _ (λe=>absurd e J)
     have u:Up g.I g.ρ s.hp.length w g'.I g'.ρ s.hp.length w':=⟨λb j D=>.inl D,λf j D=>F f j (W f j D),λ_ _=>rfl,Am _⟩
     have G:∀j,j<m->w'.cell? ⟨b,j,none⟩=us[j]?:=by intro j k;have:=BB b us 0 w (λj' x=>by rw[aM S,Ao (by omega)];rfl) j (by omega);rw[A1] at this;rw[this,Ab]
     have R:SR g' (s.set r .undef) w' a:=by
      refine a0.keep (some (.slot r)) ?_ rfl u ?_ ?_ ?_ ?_;·intro v hv;simp only[St.set,AB] at hv;simp at hv;obtain⟨_,rfl⟩:=hv;rfl
      ·intro b4 f i J;have p:f≠b:=by
        rintro rfl;rw[M] at i;exact J i
       refine⟨by simp[g',p,i],q3 f p,?_⟩;rintro j (k|⟨k,_⟩);·exact k
       ·exact absurd k p
      ·intro id cs hid;have p:g.ρ id≠b:=by
        intro e;have:=h.hr.notO id cs hid;rw[e,M] at this;cases this
       refine⟨q3 _ p,by simp[g',p,h.hr.notO id cs hid],?_⟩;rintro j (k|⟨k,_⟩);·exact k
       ·exact absurd k p
      ·rintro f j (k|⟨rfl,k⟩);·exact(h.hr.exI f j k).blk (q3 f (W f j k))
       ·exact .row q1 (by omega) (λ_ hz=>by simp at hz)
      ·intro f o i;simp only[g'] at i;split at i;·cases i
       ·have:=h.hr.oLt f o i;rw[q4];exact this
     have a3:VRel g'.I g'.ρ s.hp.length w' (.ea ((v.ev s).cells.map disown)) (.pointer (some ⟨b,0,none⟩)):=by
      refine .ea _ _ _ (λj=>us[j]?.getD undef) ?_ ?_ ?_ ?_;·intro c q;obtain⟨c',A,rfl⟩:=AE.1 q;rw[mu];exact c2 c' A
      ·intro j k;exact .inr ⟨rfl,by simp[H] at k;omega⟩
      ·intro j k;have x:j<m:=by simp[H] at k;omega
       rw[A1,G j x,Ab (by omega)];rfl
      ·intro j c q;rw[Ay,An] at q;obtain⟨c',A,rfl⟩:=q;have k:j<us.length:=by have:=(Ad.1 A).1;omega
       rw[Ab k];exact((c3 j c' us[j] A (by simp[us])).up u).disown
     have B:SR g' (s.set r (.ea ((v.ev s).cells.map disown))) w' a:=by
      refine⟨R.hr,?_⟩;have:=R.er.put' r (v:=.ea ((v.ev s).cells.map disown)) (by rw[N];exact a3) (by simp[au]);have e2:((s.set r .undef).set r (.ea ((v.ev s).cells.map disown))).env=(s.set r (.ea ((v.ev s).cells.map disown))).env:=by simp[St.set]
      rw[e2] at this;exact this
     have fr:FR g s.hp w g' s.hp w':=by
      refine⟨rfl,q5,q6,q7,by rw[q4];exact Am _,?_,u,?_,?_,λ_ cs h=>.inl ⟨cs,h⟩⟩;·intro f i _ E;refine q3 f ?_;rintro rfl;rw[M] at E;cases E
      ·rintro f j i _ E (D|⟨rfl,_⟩);·exact D
       ·rw[M] at E;cases E
      ·intro f i _ E;simp[g',E]
     unfold CF Df;rw[Y];cases dst with
     |none=>exact hn _ _ g' B fr rfl
     |some d=>exact hn _ _ g' (B.set d (.undef _) (by simp[au])) fr rfl
   ·simp at L
  ·simp at L
 ·simp at q
theorem amE(h:ER g s.hp.length w s.env a.tmps):∀(xs:List aw)(ys:List Operand),lc xs ys=true->xs.length=ys.length∧
  ∀(i:Nat) v cv,(xs.map λx=>disown (x.ev s))[i]? =some v->(ys.map a.eval)[i]? =some cv->VRel g.I g.ρ s.hp.length w v cv
 | [],[],_=>⟨rfl,by simp⟩
 |x::xs,y::ys,hp=>by
  simp only[lc,Ac] at hp;obtain⟨e,d⟩:=amE h xs ys hp.2;refine⟨by simp[e],?_⟩;intro i v cv c b;cases i with
  |zero=>simp at c b;subst c b;exact(aI hp.1 h).disown
  |succ i=>exact d i v cv (by simpa using c) (by simpa using b)
 | [],_::_,hp=>by simp[lc] at hp
 |_::_,[],hp=>by simp[lc] at hp
theorem aty{d f:Nat}{xs:List aw}(b:tZ P (.mkf d f xs) m=true)(u:step Γ (.mkf d f xs) s=some (true,s'))(h:SR g s w a)(o:cF g s w a s' next):m.wp P a w next Q:=by
 obtain⟨dst,y,ty,pos,k,v⟩:=m;simp only[tZ,Ac,beq_iff_eq] at b;obtain⟨rfl,b⟩:=b;split at b
 ·rename_i x first ys
  simp only[Ac,beq_iff_eq] at b;obtain⟨rfl,p,r⟩:=b;obtain rfl:first= #[]:=by simpa using p
  obtain rfl:_=s':=by simpa [step] using u
  obtain⟨t,q⟩:=amE h.er xs ys.toList r;have e:(execOp a.eval ⟨some d,.makeFunc (.func f) #[] ys,ty,pos,k,v⟩).run P w=.ok (.value (.func (.func f) #[] (ys.map a.eval))) w:=by simp[execOp,Instr.makeFunc]
  refine aH h rfl e (.fn _ _ _ (by simp[t]) (λi c cv b j=>q i c cv b (by simpa using j))) rfl o
 ·simp at b
end
end Go.AM
end
