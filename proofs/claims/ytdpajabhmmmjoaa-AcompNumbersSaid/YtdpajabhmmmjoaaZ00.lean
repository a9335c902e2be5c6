import GoSem.Core.Code
import GoSem.Op.String
import GoSem.Core.Utf8
import Derived.WalkKit
import Derived.Deep.AppendSrc
import Derived.Laws.Cover4
import Derived.Laws.IdiomStrings
import Derived.Lib.ConvBytes
import Derived.Laws.Tables
import Derived.Laws.StructEq
import Derived.Laws.MakeOwn
open Array renaming getElem?_eq_getElem→Ag,getElem?_eq_some_iff→AN,length_toList→AY,getElem?_modify→A3,getD→BA,getElem?_append_left→BD,getElem?_push→Cl,eq_empty_of_size_eq_zero→CJ,getElem?_eq_none→CK,toList_zipIdx→C1,foldl_toList→Dc,getElem?_setIfInBounds→DU,range→DX,toList_setIfInBounds→D8,size_append→Eh
open BitVec renaming ofInt→By
open Bool renaming and_eq_true→Aa,not_eq_true'→AK,or_eq_true→AQ,eq_iff_iff→A2
open Function renaming comp_def→CA,comp→Ea
open Go.Addr renaming add_lit→Bv
open Go.Builtin renaming len_→B0,append_→Cd,firstCells→Da,zeroCells→Ee
open Go.Instr renaming sureAddr→BE,fill→BK,sliceBounds→BL,loadAt→Ct,buildSlice→CV,sliceAt→C0,slice→Dm,sliceBound→Du,indexAt→D4,storeAt→D5
open Go.IntKind renaming wrap→Az,signed→Bh,bits→Bu,max→BR,min→Cb
open Go.Op renaming bytesLess→BF,stringOp→BH,equalIn→BI,intCmp→B9,intBits→Ce,intArith→Cs,shift→Dr
open Go.Oper renaming wp→Ch,upon→C6
open Go.Value renaming cells→BN,oneCell'→DV
open Go.World renaming cell?_setCells_out→Bj,block_lt_of_cell?→BP,cell?_setCells_in→BY,cell?→Cc,frozen?→Ci,setCell→CZ
open Int renaming tmod_eq_emod_of_nonneg→B4,emod_lt_of_pos→C8,emod_eq_of_lt→Dk,tmod_nonneg→DI,mul_le_mul_of_nonpos_left→DP,fdiv_eq_ediv_of_nonneg→D6
open List renaming getElem?_eq_getElem→Ac,getElem?_eq_some_iff→Ad,getElem?_append_right→Aj,all_eq_true→Ak,getD_eq_getElem?_getD→Al,getElem?_append_left→Am,length→An,mem_of_getElem?→Ap,mem_singleton→Aq,getD→As,getElem?_set→At,getElem?_map→Au,mem_map→Av,length_cons→Ay,mem_append→AB,mem_cons_self→AD,range→AE,mem_cons_of_mem→AH,map_cons→AI,mem_flatMap→AJ,length_set→AL,getElem?_eq_none→AR,length_map→AU,getElem?_take→AW,mem_iff_getElem→AZ,eq_nil_of_length_eq_zero→A4,mem_of_mem_take→A7,getElem?_drop→A9,length_append→Ba,mem_of_mem_drop→Bd,append_assoc→Be,getElem_mem→Bf,replicate→Bg,range'→Bq,range'_succ→BQ,drop_eq_getElem_cons→BU,foldl_cons→BZ,all_cons→B3,length_drop→Cp,map_map→Cu,getElem?_set_self→CM,extract_eq_take_drop→C2,size_toArray→Df,ext_getElem?→Dg,length_range→Di,take_succ_eq_append_getElem→Dq,getElem?_range→DS,drop_drop→DW
open List.cons renaming injEq→Cw
open Nat renaming beq→Af,le_refl→Ao,zero_add→Aw,add_mul→Ax,eq_of_beq_eq_true→AA,lt_of_lt_of_le→AF,lt_or_ge→AG,mul_le_mul_right→AS,blt→AV,le_trans→AX,ne_of_lt→Bm,le_mul_of_pos_right→Cj,add_zero→Cv,mod_lt→CB,one_mul→CL,mul_comm→CQ,le_add_right→CW,le_of_not_lt→Ds,mod_eq_of_lt→Dv,eq_zero_or_pos→DZ,add_mul_mod_self_right→D7,lt_irrefl→Eb,add_assoc→Ed
open Ne renaming symm→Cr
open Option renaming map_eq_some_iff→Ah,isSome_iff_exists→A0,getD_some→Bw
open Option.some renaming injEq→Ab,inj→Ai
open Prod.mk renaming injEq→Ae
open UInt8 renaming ofNat→BX
set_option linter.all false
noncomputable section
namespace Go.AM
structure ahK where
 num:Int
 wire:Int
 n:Int
 s:List UInt8
 raw:List UInt8
 deriving DecidableEq
inductive eO where
 |mk (kind n:Int) (s:List UInt8) (l:List eO) (names:List (List UInt8))
def eO.kind:eO->Int| .mk a _ _ _ _=>a
def eO.n:eO->Int| .mk _ a _ _ _=>a
def eO.s:eO->List UInt8| .mk _ _ a _ _=>a
def eO.l:eO->List eO| .mk _ _ _ a _=>a
def eO.names:eO->List (List UInt8)| .mk _ _ _ _ a=>a
structure aq where
 name:List UInt8
 aliases:List (List UInt8)
 typ:Int
 hasdef:Bool
 df:eO
structure ab where
 kind:Int
 name:List UInt8
 aliases:List (List UInt8)
 items:Int
 syms:List (List UInt8)
 hasdef:Bool
 df:List UInt8
 size:Int
 fields:List aq
 branches:List Int
inductive nY where
 |mk (n:Int) (s:List UInt8) (l:List nY) (keys:List (List UInt8)) (branch:Int)
def nY.n:nY->Int| .mk a _ _ _ _=>a
def nY.s:nY->List UInt8| .mk _ a _ _ _=>a
def nY.l:nY->List nY| .mk _ _ a _ _=>a
def nY.keys:nY->List (List UInt8)| .mk _ _ _ a _=>a
def nY.branch:nY->Int| .mk _ _ _ _ a=>a
inductive EK where
 |u8|num (k:IntKind)|str|bool|record|ints|jnode|afield|atype|aval
 deriving DecidableEq
abbrev Ty:EK->Type
 | .u8=>UInt8
 | .num _=>Int
 | .str=>List UInt8
 | .bool=>Bool
 | .record=>ahK
 | .ints=>List Int
 | .jnode=>eO
 | .afield=>aq
 | .atype=>ab
 | .aval=>nY
inductive Fl where
 |own
 |may (b:Bool)
 deriving DecidableEq
def Fl.dis:Fl->Fl
 | .own=>.may false
 | .may b=>.may b
def Fl.app:Fl->Nat->Bool
 | .own,_=>true
 | .may b,n=>b&&decide (0<n)
inductive MK where
 |pb|bs|bn|ib|sn
 deriving DecidableEq
abbrev MK.K:MK->Type
 | .pb=>Int×Int
 | .bs| .bn| .ib=>Int
 | .sn=>List UInt8
abbrev MK.T:MK->Type
 | .pb| .ib=>Bool
 | .bs=>List UInt8
 | .bn| .sn=>Int
inductive V where
 |undef
 |bool (b:Bool)
 |int (k:IntKind) (n:Int)
 |str (s:List UInt8)
 |sl (k:EK) (o:Fl) (xs:List (Ty k))
 |agg (cs:List V)
 |tup (vs:List V)
 |ea (cs:List V)
 |ptr (id off:Nat)
 |nilp
 |fn (f:Nat) (cap:List V)
 |nilif
 |bn (E n:Nat)
 |junk
 |rb (xs:List UInt8)
 |so (id n:Nat)
 |raw (n:Nat)
 |ul (k:EK) (xs:List (Ty k))
 |hd (n:Nat)
 |rw(k:EK) (xs:List (Ty k))
 |sw (k:EK) (id n:Nat)
 |sx (k:EK) (id off n:Nat)
 |wp (id:Nat) (k:EK) (i o:Nat)
 |mp (k:MK) (es:List (k.K×k.T))
 |mr (id:Nat)
 |nilm
instance:Inhabited V:=⟨.undef⟩
def EK.sz:EK->Nat
 | .record=>5
 | .jnode=>5
 | .afield=>9
 | .atype=>10
 | .aval=>5
 |_=>1
def tp:IntKind->Nat
 | .i8| .u8=>1
 | .i16| .u16=>2
 | .i32| .u32=>4
 | .i64| .u64=>8
def EK.bytes:EK->Nat
 | .u8=>1
 | .num k=>tp k
 | .str=>16
 | .bool=>1
 | .record=>56
 | .ints=>24
 | .jnode=>80
 | .afield=>136
 | .atype=>160
 | .aval=>80
def EK.isAgg:EK->Bool
 | .record| .jnode| .afield| .atype| .aval=>true
 |_=>false
def enc:(k:EK)->Ty k->List V
 | .u8,x=>[.int .u8 x.toNat]
 | .num k,x=>[.int k x]
 | .str,x=>[.str x]
 | .bool,x=>[.bool x]
 | .record,x=>[.int .i64 x.num,.int .i64 x.wire,.int .u64 x.n,.str x.s,.str x.raw]
 | .ints,x=>[.sl (.num .i64) (.may false) x]
 | .jnode,x=>[.int .i64 x.kind,.int .i64 x.n,.str x.s,.sl .jnode (.may false) x.l,.sl .str (.may false) x.names]
 | .afield,x=>[.str x.name,.sl .str (.may false) x.aliases,.int .i64 x.typ,.bool x.hasdef,.int .i64 x.df.kind,.int .i64 x.df.n,.str x.df.s,.sl .jnode (.may false) x.df.l,.sl .str (.may false) x.df.names]
 | .atype,x=>[.int .i64 x.kind,.str x.name,.sl .str (.may false) x.aliases,.int .i64 x.items,.sl .str (.may false) x.syms,.bool x.hasdef,.str x.df,.int .i64 x.size,.sl .afield (.may false) x.fields,.sl (.num .i64) (.may false) x.branches]
 | .aval,x=>[.int .u64 x.n,.str x.s,.sl .aval (.may false) x.l,.sl .str (.may false) x.keys,.int .i64 x.branch]
def dec:(k:EK)->List V->Option (Ty k)
 | .u8,[.int .u8 n]=>some (BX n.toNat)
 | .num .i8,[.int .i8 n]=>some n
 | .num .i16,[.int .i16 n]=>some n
 | .num .i32,[.int .i32 n]=>some n
 | .num .i64,[.int .i64 n]=>some n
 | .num .u8,[.int .u8 n]=>some n
 | .num .u16,[.int .u16 n]=>some n
 | .num .u32,[.int .u32 n]=>some n
 | .num .u64,[.int .u64 n]=>some n
 | .str,[.str s]=>some s
 | .bool,[.bool b]=>some b
 | .record,[.int .i64 a,.int .i64 b,.int .u64 c,.str s,.str r]=>some ⟨a,b,c,s,r⟩
 | .ints,[.sl (.num .i64) _ x]=>some x
 | .jnode,[.int .i64 a,.int .i64 b,.str c,.sl .jnode _ d,.sl .str _ e]=>some (.mk a b c d e)
 | .afield,[.str a,.sl .str _ b,.int .i64 c,.bool d,.int .i64 e,.int .i64 f,.str g,.sl .jnode _ h,.sl .str _ i]=>some ⟨a,b,c,d,.mk e f g h i⟩
 | .atype,[.int .i64 a,.str b,.sl .str _ c,.int .i64 d,.sl .str _ e,.bool f,.str g,.int .i64 h,.sl .afield _ i,.sl (.num .i64) _ j]=>some ⟨a,b,c,d,e,f,g,h,i,j⟩
 | .aval,[.int .u64 a,.str b,.sl .aval _ c,.sl .str _ d,.int .i64 e]=>some (.mk a b c d e)
 |_,_=>none
def am:(k:EK)->Ty k
 | .u8=>0
 | .num _=>0
 | .str=>[]
 | .bool=>false
 | .record=>⟨0,0,0,[],[]⟩
 | .ints=>[]
 | .jnode=>.mk 0 0 [] [] []
 | .afield=>⟨[],[],0,false,.mk 0 0 [] [] []⟩
 | .atype=>⟨0,[],[],0,[],false,[],0,[],[]⟩
 | .aval=>.mk 0 [] [] [] 0
def MK.key:(k:MK)->k.K->V
 | .pb,x=>.agg [.int .i64 x.1,.int .i64 x.2]
 | .bs,x=>.int .u8 x
 | .bn,x=>.int .u8 x
 | .ib,x=>.int .i64 x
 | .sn,x=>.str x
def MK.val:(k:MK)->k.T->V
 | .pb,x=>.bool x
 | .bs,x=>.str x
 | .bn,x=>.int .i64 x
 | .ib,x=>.bool x
 | .sn,x=>.int .i64 x
def MK.zero:(k:MK)->k.T
 | .pb| .ib=>false
 | .bs=>[]
 | .bn| .sn=>(0:Int)
def adW:V->Option (Int×Int)| .agg [.int .i64 a,.int .i64 b]=>some (a,b)|_=>none
def u8V:V->Option Int| .int .u8 a=>some a|_=>none
def abo:V->Option Int| .int .i64 a=>some a|_=>none
def adX:V->Option (List UInt8)| .str s=>some s|_=>none
def aa5:V->Option Bool| .bool b=>some b|_=>none
def MK.dkey:(k:MK)->V->Option k.K
 | .pb=>adW
 | .bs=>u8V
 | .bn=>u8V
 | .ib=>abo
 | .sn=>adX
def MK.dval:(k:MK)->V->Option k.T
 | .pb=>aa5
 | .bs=>adX
 | .bn=>abo
 | .ib=>aa5
 | .sn=>abo
instance MK.decK:(k:MK)->DecidableEq k.K
 | .pb=>inferInstanceAs (DecidableEq (Int×Int))
 | .bs| .bn| .ib=>inferInstanceAs (DecidableEq Int)
 | .sn=>inferInstanceAs (DecidableEq (List UInt8))
def cT{k:MK}(es:List (k.K×k.T))(x:k.K):Option k.T:=match es with
 | []=>none
 |e::r=>if e.1=x then some e.2 else cT r x
def eJ{k:MK}(es:List (k.K×k.T))(x:k.K)(v:k.T):List (k.K×k.T):=match es with
 | []=>[(x,v)]
 |e::r=>if e.1=x then (x,v)::r else e::eJ r x v
def eC{k:MK}(es:List (k.K×k.T))(x:k.K):Nat:=match es with
 | []=>0
 |e::r=>if e.1=x then 0 else eC r x+1
def uQ{k:MK}(es:List (k.K×k.T))(i:Nat)(v:k.T):List (k.K×k.T):=match es,i with
 | [],_=>[]
 |e::r,0=>(e.1,v)::r
 |e::r,i+1=>e::uQ r i v
def mM{k:MK}(es:List (k.K×k.T))(x:k.K):k.T:=(cT es x).getD k.zero
def uR(k:MK)(ok:Bool)(r:Option k.T):V:=cond ok (.tup [k.val (r.getD k.zero),.bool r.isSome]) (k.val (r.getD k.zero))
def V.cells:V->List V
 | .agg cs=>cs
 |v=>[v]
def V.one:V->Bool
 | .undef| .agg _| .tup _| .rb _| .raw _| .rw _ _| .mp _ _=>false
 |_=>true
def disown:V->V
 | .raw _=>.undef
 | .sl k o xs=>.sl k o.dis xs
 | .bn _ _=>.junk
 | .ul _ xs=>.hd xs.length
 |v=>v
def V.weak:V->V
 | .sl k _ xs=>.sl k (.may false) xs
 |v=>disown v
def pU:V->Bool
 | .bn _ _=>false
 |_=>true
inductive ac where
 |t (n:Nat)
 |tk (n:Nat)
 |c (v:V)
abbrev al:=Option (List V)
structure St where
 env:List V
 hp:List al
def St.get(s:St)(n:Nat):V:=s.env.getD n .undef
def St.set(s:St)(n:Nat)(v:V):St:={s with env:=s.env.set n v}
def ac.ev(s:St):ac->V
 | .t n=>disown (s.get n)
 | .tk n=>s.get n
 | .c v=>v
def ac.after(s:St):ac->St
 | .tk n=>s.set n (disown (s.get n))
 |_=>s
def ac.fix(s:St)(t:Bool):ac->St
 | .t n=>s.set n (.bool t)
 |_=>s
theorem ac.fix_eq{s:St}{t:Bool}:∀{c:ac},c.ev s=.bool t->c.fix s t=s
 | .t n,h=>by
   have d:s.env.getD n .undef=.bool t:=by have h:disown (s.env.getD n .undef)=.bool t:=h;revert h;generalize s.env.getD n .undef=v;cases v<;>simp[disown]
   obtain⟨a,hp⟩:=s;show St.mk (a.set n (.bool t)) hp=St.mk a hp;have f:a.set n (.bool t)=a:=by
    apply Dg;intro i;rw[At];split
    ·rename_i e;subst e;split;·rename_i b;simp only[Al,Ac b,Bw] at d;rw[Ac b,d]
     ·rename_i b;rw[AR (by omega)]
    ·rfl
   rw[f]
 | .tk n,_=>rfl
 | .c v,_=>rfl
inductive IOp where
 |mov (d:Nat) (x:ac)
 |pick (d:Nat) (c a b:ac)
 |bin (d:Nat) (o:BinOp) (x y:ac)
 |un (d:Nat) (o:UnOp) (x:ac)
 |lens (d:Nat) (x:ac)
 |lenl (d:Nat) (x:ac)
 |idx (d:Nat) (x i:ac)
 |ixa (d:Nat) (k:EK) (x i:ac)
 |subs (d:Nat) (x:ac) (lo hi:Option ac)
 |bsl (d:Nat) (k:EK) (iX:List ac) (u:Bool)
 |bld (d:Nat) (zero:List V) (iX:List (Nat×Nat×ac))
 |box (d:Nat) (x:ac)
 |fad (d:Nat) (off:Nat) (x:ac)
 |ld (d:Nat) (n:Nat) (agg take:Bool) (x:ac)
 |st (d:Option Nat) (n:Nat) (x v:ac)
 |app (d:Nat) (k:EK) (x y:ac)
 |ext (d:Nat) (i:Nat) (x:ac)
 |nck (d:Option Nat) (x:ac)
 |call (d:Option Nat) (f:Nat) (args:List ac)
 |mx (d:Nat) (mn:Bool) (x y:ac)
 |beq (d:Nat) (neg:Bool) (x y:ac)
 |boxe (d:Nat) (x:ac)
 |alr (d n:Nat)
 |frz (d:Option Nat) (r n:Nat) (v:ac)
 |lde (d:Nat) (n:Nat) (agg:Bool) (x:ac)
 |mkf (d f:Nat) (jH:List ac)
 |dcall (d:Option Nat) (f:Nat) (x:ac) (args:List ac)
 |mku (d:Nat) (k:EK) (x:ac)
 |apu (d:Nat) (k:EK) (x y:ac)
 |blu (d:Nat) (k:EK)
 |snil (d:Nat) (x:ac)
 |lnw (d:Nat) (x:ac)
 |ixw (d:Nat) (k:EK) (x i:ac)
 |ldw (d n:Nat) (agg:Bool) (x:ac)
 |stw (d:Option Nat) (n:Nat) (x v:ac)
 |mkm (d:Nat) (k:MK)
 |mget (d:Nat) (k:MK) (ok:Bool) (x y:ac)
 |mput (d:Option Nat) (k:MK) (x y z:ac)
 |ment (d:Nat) (k:MK) (x y:ac)
 |mest (d:Option Nat) (x i v:ac)
 |apo (d:Nat) (k:EK) (x y:ac)
structure GOp where
 g:Option (Nat×Bool)
 o:IOp
 ob:Option (List Nat×List Nat)
def cm(o:BinOp)(k:IntKind)(a b:Int):Int:=
 match o with
 | .and=>k.wrap (By k.bits a&&& By k.bits b).toNat
 | .or=>k.wrap (By k.bits a|||By k.bits b).toNat
 | .xor=>k.wrap (By k.bits a ^^^By k.bits b).toNat
 |_=>k.wrap (By k.bits a&&& ~~~By k.bits b).toNat
def oS(k:IntKind)(a b:Int):Int:=k.wrap (a*2^(min b.toNat k.bits))
def oT(k:IntKind)(a b:Int):Int:=a.fdiv (2^(min b.toNat k.bits))
def maxI:Nat:=9223372036854775807
def cd:Nat:=140737488355328
def nZ(o:BinOp)(k:IntKind)(a b:Int):Option (Bool×V):=
 match o with
 | .add=>some (true,.int k (k.wrap (a+b)))
 | .sub=>some (true,.int k (k.wrap (a-b)))
 | .mul=>some (true,.int k (k.wrap (a*b)))
 | .quo=>some (!(b==0),.int k (k.wrap (a.tdiv b)))
 | .rem=>some (!(b==0),.int k (a.tmod b))
 | .and=>some (true,.int k (cm .and k a b))
 | .or=>some (true,.int k (cm .or k a b))
 | .xor=>some (true,.int k (cm .xor k a b))
 | .andNot=>some (true,.int k (cm .andNot k a b))
 | .eql=>some (true,.bool (a==b))
 | .neq=>some (true,.bool (!(a==b)))
 | .lss=>some (true,.bool (decide (a<b)))
 | .leq=>some (true,.bool (decide (a<=b)))
 | .gtr=>some (true,.bool (decide (b<a)))
 | .geq=>some (true,.bool (decide (b<=a)))
 |_=>none
def pz(o:BinOp)(a b:List UInt8):Option (Bool×V):=
 match o with
 | .add=>some (decide (a.length+b.length<=maxI),.str (a++b))
 | .eql=>some (true,.bool (decide (a=b)))
 | .neq=>some (true,.bool (!decide (a=b)))
 | .lss=>some (true,.bool (BF a b))
 | .leq=>some (true,.bool (BF a b||decide (a=b)))
 | .gtr=>some (true,.bool (!(BF a b||decide (a=b))))
 | .geq=>some (true,.bool (!Op.bytesLess a b))
 |_=>none
def pV(o:BinOp)(x y:V):Option (Bool×V):=
 match x,y with
 | .int k a,.int k' b=>
   match o with
   | .shl=>some (decide (0<=b),.int k (oS k a b))
   | .shr=>some (decide (0<=b),.int k (oT k a b))
   |o=>if k=k' then nZ o k a b else none
 | .str a,.str b=>pz o a b
 |_,_=>none
def unV(o:UnOp)(x:V):Option V:=
 match o,x with
 | .not,.bool b=>some (.bool (!b))
 | .neg,.int k n=>some (.int k (k.wrap (0-n)))
 | .xor,.int k n=>some (.int k (cm .xor k (if k.signed then -1 else k.max) n))
 |_,_=>none
def lay(cells:List V):List (Nat×Nat×V)->Option (List V)
 | []=>some cells
 |(a,n,v)::r=>if (v.cells.length==n&&v.cells.all V.one)&&decide (a+n<=cells.length) then lay (cells.take a++v.cells.map disown++cells.drop (a+n)) r else none
def sL(k:EK):List V->Option (List (Ty k))
 | []=>some []
 |v::r=>match dec k v.cells,sL k r with|some x,some l=>some (x::l)|_,_=>none
def j9(len:Nat):Option V->Option V->Option (Bool×Nat×Nat)
 |none,none=>some (true,0,len)
 |some (.int _ a),none=>some (decide (0<=a)&&decide (a<=len),a.toNat,len)
 |none,some (.int _ b)=>some (decide (0<=b)&&decide (b<=len),0,b.toNat)
 |some (.int _ a),some (.int _ b)=>some (decide (0<=b)&&decide (b<=len)&&(decide (0<=a)&&decide (a<=b)),a.toNat,b.toNat)
 |_,_=>none
def bF(s:St):Option ac->Option V
 |none=>none
 |some x=>some (x.ev s)
def dU:List V->Bool
 | [.rb _]=>true
 | [.rw _ _]=>true
 | [.tup _]=>true
 |_=>false
def St.obj(s:St)(id:Nat):Option (List V):=match s.hp.getD id none with|some [.rb _]=>none|some [.rw _ _]=>none|some [.mp _ _]=>none|some [.tup _]=>none|o=>o
def pA(k:EK)(x:Ty k)(o:Nat)(vs:List V):Option (Ty k):=dec k (((enc k x).take o++vs.map V.weak)++(enc k x).drop (o+vs.length))
def St.rowW(s:St)(id:Nat):Option ((k:EK)×List (Ty k)):=match s.hp.getD id none with|some [.rw k xs]=>some ⟨k,xs⟩|_=>none
def St.row(s:St)(id:Nat):Option (List UInt8):=match s.hp.getD id none with|some [.rb xs]=>some xs|_=>none
structure Hol where
 k:EK
 xs:List (Ty k)
 k2:EK
 id2:Nat
 n2:Nat
 i:Nat
 o:Nat
def St.rowH(s:St)(id:Nat):Option Hol:=match s.hp.getD id none with|some [.tup [.rw k xs,.sw k2 a b,.wp _ _ i o]]=>some ⟨k,xs,k2,a,b,i,o⟩|_=>none
def St.mapO(s:St)(id:Nat):Option ((k:MK)×List (k.K×k.T)):=match s.hp.getD id none with|some [.mp k es]=>some ⟨k,es⟩|_=>none
def St.setObj(s:St)(id:Nat)(cs:List V):St:={s with hp:=s.hp.set id (some cs)}
def a6(agg:Bool)(cs:List V):V:=if agg then .agg (cs.map disown) else cs.headD .undef
abbrev ao:=Nat->List V->List al->Option (Bool×V×List al)
def St.setO(s:St)(d:Option Nat)(v:V):St:=match d with|some d=>s.set d v|none=>s
def aa6(t:Bool)(a b:V):V:=
 match a,b with
 | .bool x,.bool y=>.bool (cond t x y)
 | .int k x,.int k' y=>if k=k' then .int k (cond t x y) else cond t (.int k x) (.int k' y)
 | .str x,.str y=>.str (cond t x y)
 |a,b=>cond t a b
theorem afT(t:Bool)(a b:V):aa6 t a b=cond t a b:=by
 unfold aa6;split;·cases t<;>rfl
 ·split;·rename_i h;subst h;cases t<;>rfl
  ·rfl
 ·cases t<;>rfl
 ·rfl
def step(Γ:ao)(o:IOp)(s:St):Option (Bool×St):=
 match o with
 | .mov d x=>some (true,(x.after s).set d (x.ev s))
 | .pick d c a b=>match c.ev s with| .bool t=>some (true,s.set d (aa6 t (disown (a.ev s)) (disown (b.ev s))))|_=>none
 | .bin d o x y=>(pV o (x.ev s) (y.ev s)).map λ(c,v)=>(c,s.set d v)
 | .un d o x=>(unV o (x.ev s)).map λv=>(true,s.set d v)
 | .lens d x=>match x.ev s with| .str l=>some (true,s.set d (.int .i64 l.length))|_=>none
 | .lenl d x=>match x.ev s with| .sl _ _ l=>some (true,s.set d (.int .i64 l.length))|_=>none
 | .lnw d x=>match x.ev s with| .hd n=>some (true,s.set d (.int .i64 n))| .sw _ _ n=>some (true,s.set d (.int .i64 n))|_=>none
 | .mku d k x=>match x.ev s with
   | .int _ n=>some (decide (0<=n)&&decide (n*k.bytes<=cd),s.set d (.ul k (Bg n.toNat (am k))))
   |_=>none
 | .apu d k x y=>match x.ev s,y.ev s with
   | .ul k' l,.sl e _ m=>if k'=k then if h:e=k' then some (decide ((l.length+m.length)*k'.bytes<=cd),(x.after s).set d (.ul k' (l++(h▸m)))) else none else none
   |_,_=>none
 | .blu d k=>some (true,s.set d (.ul k []))
 | .snil d x=>match x.ev s with| .sl _ _ xs=>some (decide (0<xs.length),s.set d (.bool false))|_=>none
 | .ixw d k x i=>match x.ev s,i.ev s with
   | .sw k' id n,.int _ i=>if k'=k then some (decide (0<=i)&&decide (i<n),s.set d (.wp id k' i.toNat 0)) else none
   |_,_=>none
 | .ldw d n agg x=>match x.ev s with
   | .wp id k i o=>match s.rowW id with
     |some ⟨k',xs⟩=>if k'=k∧o+n<=k'.sz then some (decide (i<xs.length),s.set d (disown (a6 agg (((enc k' (xs.getD i (am k'))).drop o).take n)))) else none
     |none=>none
   |_=>none
 | .stw d n x v=>match x.ev s with
   | .wp id k i o=>match s.rowW id with
     |some ⟨k',xs⟩=>if k'=k∧(o+n<=k'.sz∧((v.ev s).cells.length==n&&(v.ev s).cells.all V.one)=true) then
       match pA k' (xs.getD i (am k')) o (v.ev s).cells with
       |some E=>some (decide (i<xs.length),(s.setObj id [.rw k' (xs.set i E)]).setO d .undef)
       |none=>none
      else none
     |none=>none
   |_=>none
 | .idx d x i=>match x.ev s,i.ev s with
   | .str l,.int _ i=>some (decide (0<=i)&&decide (i<l.length),s.set d (.int .u8 (l.getD i.toNat 0).toNat))
   |_,_=>none
 | .ixa d k x i=>match x.ev s,i.ev s with
   | .sl k' _ l,.int _ i=>if k'=k then some (decide (0<=i)&&decide (i<l.length),s.set d (.ea (enc k' (l.getD i.toNat (am k'))))) else none
   |_,_=>none
 | .subs d x C G=>match x.ev s with
   | .str l=>(j9 l.length (bF s C) (bF s G)).map λ(c,a,b)=>(c,s.set d (.str ((l.take b).drop a)))
   |_=>none
 | .bsl d k A u=>(sL k (A.map (·.ev s))).map λl=>(true,s.set d (.sl k (cond u (.may true) .own) l))
 | .bld d zero A=>(lay zero (A.map λ(g,n,x)=>(g,n,x.ev s))).map λcs=>(true,s.set d (.agg cs))
 | .box d x=>match x.ev s with
   | .agg cs=>some (true,{s.set d (.ptr s.hp.length 0) with hp:=s.hp++[some cs]})
   |v=>if v.one then some (true,{s.set d (.ptr s.hp.length 0) with hp:=s.hp++[some [disown v]]}) else none
 | .fad d g x=>match x.ev s with
   | .ea cs=>some (true,s.set d (.ea (cs.drop g)))
   | .ptr id o=>some (true,s.set d (.ptr id (o+g)))
   |_=>none
 | .ld d n agg j x=>match x.ev s with
   | .ea cs=>if n<=cs.length then some (true,s.set d (disown (a6 agg (cs.take n)))) else none
   | .ptr id o=>match s.obj id with
     |some cs=>if o+n<=cs.length then
       (if j then (if pU (cs.getD o .undef) then some (true,(s.setObj id (cs.set o (disown (cs.getD o .undef)))).set d (a6 agg ((cs.drop o).take n))) else none)
       else some (true,s.set d (disown (a6 agg ((cs.drop o).take n)))))
      else none
     |none=>none
   |_=>none
 | .st d n x v=>match x.ev s with
   | .ptr id o=>match s.obj id with
     |some cs=>if ((v.ev s).cells.length==n&&(v.ev s).cells.all V.one)&&(decide (o+n<=cs.length)&&(v.ev s).cells.all pU) then
       some (true,((v.after s).setObj id (cs.take o++(v.ev s).cells++cs.drop (o+n))).setO d .undef) else none
     |none=>none
   |_=>none
 | .app d k x y=>match x.ev s,y.ev s with
   | .sl k' o l,.sl e _ m=>
     if k'=k then
      if h:e=k' then some (o.app m.length&&decide ((l.length+m.length)*k'.bytes<=cd),(x.after s).set d (.sl k' .own (l++(h▸m)))) else none
     else none
   |_,_=>none
 | .ext d i x=>match x.ev s with
   | .tup vs=>if i<vs.length then some (true,s.set d (disown (vs.getD i .undef))) else none
   |_=>none
 | .nck d x=>match x.ev s with
   | .ptr id o=>some (true,s.setO d (.ptr id o))
   | .ea cs=>some (true,s.setO d (.ea cs))
   |_=>none
 | .call d f avs=>match Γ f (avs.map λx=>disown (x.ev s)) s.hp with
   |some (c,v,hp)=>some (c,{s with hp:=hp}.setO d v)
   |none=>none
 | .beq d B x y=>match x.ev s,y.ev s with
   | .bool p,.bool q=>some (true,s.set d (.bool (cond B (!(p==q)) (p==q))))
   |_,_=>none
 | .alr d n=>some (true,s.set d (.raw n))
 | .frz d r n v=>match s.get r with
   | .raw m=>if Af m n&&((v.ev s).cells.length==n&&(v.ev s).cells.all V.one) then some (true,(s.set r (.ea ((v.ev s).cells.map disown))).setO d .undef) else none
   |_=>none
 | .lde d n agg x=>match x.ev s with
   | .ea cs=>if n<=cs.length then some (true,s.set d (disown (a6 agg (cs.take n)))) else none
   |_=>none
 | .boxe d x=>match x.ev s with
   | .agg cs=>some (true,s.set d (.ea (cs.map disown)))
   |v=>if v.one then some (true,s.set d (.ea [disown v])) else none
 | .mkf d f jH=>some (true,s.set d (.fn f (jH.map λx=>disown (x.ev s))))
 | .dcall d f x w=>match x.ev s with
   | .fn H jH=>match Γ f (w.map (λy=>disown (y.ev s))++jH.map disown) s.hp with
     |some (c,v,hp)=>some (Af H f&&c,{s with hp:=hp}.setO d v)
     |none=>none
   |_=>none
 | .mkm d k=>some (true,{s.set d (.mr s.hp.length) with hp:=s.hp++[some [.mp k []]]})
 | .mget d k ok x y=>match x.ev s with
   | .nilm=>(k.dkey (y.ev s)).map λ_=>(true,s.set d (uR k ok none))
   | .mr id=>match s.mapO id with
     |some ⟨k',es⟩=>if k'=k then (k'.dkey (y.ev s)).map λkey=>(true,s.set d (uR k' ok (cT es key))) else none
     |none=>none
   |_=>none
 | .mput d k x y z=>match x.ev s with
   | .mr id=>match s.mapO id with
     |some ⟨k',es⟩=>if k'=k then
       match k'.dkey (y.ev s),k'.dval (z.ev s) with
       |some key,some v=>some (true,(s.setObj id [.mp k' (eJ es key v)]).setO d .undef)
       |_,_=>none
      else none
     |none=>none
   |_=>none
 | .ment d k x y=>match x.ev s with
   | .mr id=>match s.mapO id with
     |some ⟨k',es⟩=>if k'=k then
       match k'.dkey (y.ev s) with
       |some key=>some (decide (es.length<=cd),(s.setObj id [.mp k' (eJ es key ((cT es key).getD k'.zero))]).set d (.tup [k'.val ((cT es key).getD k'.zero),.int .i64 (eC es key)]))
       |none=>none
      else none
     |none=>none
   |_=>none
 | .mest d x i v=>match x.ev s,i.ev s with
   | .mr id,.int _ n=>match s.mapO id with
     |some ⟨k',es⟩=>match k'.dval (v.ev s) with
      |some y=>some (decide (0<=n)&&decide (n<es.length),(s.setObj id [.mp k' (uQ es n.toNat y)]).setO d .undef)
      |none=>none
     |none=>none
   |_,_=>none
 | .apo d k x y=>match x.ev s,y.ev s with
   | .ul k' l,.sl e _ m=>if k'=k then if h:e=k' then if d<s.env.length then some (decide ((l.length+m.length)*k'.bytes<=cd)&&decide (0<(l++(h▸m)).length),{(x.after s).set d (.sw k' s.hp.length (l++(h▸m)).length) with hp:=s.hp++[some [.rw k' (l++(h▸m))],none]}) else none else none else none
   |_,_=>none
 | .mx d F x y=>match x.ev s,y.ev s with
   | .int k a,.int k' b=>if k=k' then some (true,s.set d (.int k (if F then (if b<a then b else a) else (if a<b then b else a)))) else none
   |_,_=>none
def IOp.dst:IOp->Option Nat
 | .mov d _| .pick d .. | .bin d .. | .un d .. | .lens d _| .lenl d _| .idx d .. | .ixa d .. | .subs d .. | .bsl d ..
 | .bld d .. | .box d _| .fad d .. | .ld d .. | .app d .. | .ext d .. | .mx d .. | .beq d .. | .boxe d .. | .mkf d .. | .alr d _| .lde d .. | .mku d .. | .apu d .. | .blu d _| .snil d _| .lnw d _| .ixw d .. | .ldw d .. | .mkm d _| .mget d .. | .ment d .. | .apo d ..=>some d
 | .st d .. | .nck d _| .call d .. | .dcall d .. | .frz d .. | .stw d .. | .mput d .. | .mest d ..=>d
def ixl{α:Type}(n:Int)(l:List α):Bool:=decide (0<=n)&&decide (n<↑(An l))
def chk{R:Type}(c:Bool)(x:Option R):Option R:=match c with|true=>x|false=>none
def V.cellsA:V->List V
 | .agg cs=>cs
 |v=>[v]
def V.id1:V->List Nat
 | .ptr id _=>[id]
 | .sw _ id _=>[id]
 | .sx _ id _ _=>[id]
 |_=>[]
def lH(vs:List V):List Nat:=vs.flatMap λv=>v.cellsA.flatMap V.id1
def dO:List V->List Nat
 | []=>[]
 | .ptr i 0::vs=>i::dO vs
 |_::vs=>dO vs
def vV(l:List Nat):List Nat:=l.flatMap λi=>AE (i+1)
def IOp.foot(o:IOp)(s:St):Option (List Nat×List Nat):=
 match o with
 | .ld _ _ _ a x=>match x.ev s with
   | .ptr id _=>some (cond a ([],[id]) ([id],[]))
   | .ea _=>some ([],[])
   |_=>none
 | .st _ _ x _=>match x.ev s with| .ptr id _=>some ([],[id])|_=>none
 | .call _ _ avs=>some (vV (lH (avs.map λx=>disown (x.ev s))),vV (dO (avs.map λx=>disown (x.ev s))))
 | .ldw _ _ _ x=>match x.ev s with| .wp id _ _ _=>some ([id],[])|_=>none
 | .stw _ _ x _=>match x.ev s with| .wp id _ _ _=>some ([],[id])|_=>none
 |_=>none
def IOp.within(o:IOp)(l:List Nat×List Nat)(s:St):Bool:=match o.foot s with
 |some (r,w)=>r.all (λi=>l.1.any (Af i)||l.2.any (Af i))&&w.all (λi=>l.2.any (Af i))
 |none=>false
def fR(Γ:ao)(a:Option (List Nat×List Nat))(o:IOp)(s:St):Option (Bool×St):=match a with
 |none=>step Γ o s
 |some l=>cond (o.within l s) (step Γ o s) none
theorem iV{Γ:ao}{b:Option (List Nat×List Nat)}{o:IOp}{s:St}{p:Bool×St}(h:fR Γ b o s=some p):step Γ o s=some p:=by
 unfold fR at h;split at h;·exact h
 ·rename_i l;cases a:o.within l s with
  |true=>rw[a] at h;exact h
  |false=>rw[a] at h;simp at h
def bP{R:Type}(Γ:ao):List GOp->(St->Option R)->St->Option R
 | [],K,s=>K s
 |⟨none,o,a⟩::r,K,s=>match fR Γ a o s with
  |some (c,s')=>chk c (bP Γ r K s')
  |none=>none
 |⟨some (g,w),o,a⟩::r,K,s=>match s.get g with
  | .bool b=>cond b
    (match w with
     |true=>match fR Γ a o (s.set g (.bool true)) with
      |some (c,s')=>chk c (bP Γ r K s')
      |none=>none
     |false=>bP Γ r K ((s.set g (.bool true)).setO o.dst (.tup [])))
    (match w with
     |false=>match fR Γ a o (s.set g (.bool false)) with
      |some (c,s')=>chk c (bP Γ r K s')
      |none=>none
     |true=>bP Γ r K ((s.set g (.bool false)).setO o.dst (.tup [])))
  | .tup []=>bP Γ r K (s.setO o.dst (.tup []))
  |_=>none
inductive Occ where
 |slot (n:Nat)
 |cell (id j:Nat)
 |res
 deriving DecidableEq
inductive io where
 |opn (o:Occ)
 |cls (o:Occ)
 |fz (o:Occ)
 |hol (n:Nat)
def St.at?(s:St):Occ->V
 | .slot n=>s.get n
 | .cell id j=>match s.obj id with|some cs=>cs.getD j .undef|none=>.undef
 | .res=>.undef
def St.put?(s:St)(o:Occ)(v:V):St:=match o with
 | .slot n=>s.set n v
 | .cell id j=>match s.obj id with|some cs=>s.setObj id (cs.set j v)|none=>s
 | .res=>s
def io.step(a:io)(s:St):Option (Bool×St):=match a with
 | .opn o=>match s.at? o with
   | .ul k xs=>some (decide (0<xs.length),{s.put? o (.sw k s.hp.length xs.length) with hp:=(s.put? o (.sw k s.hp.length xs.length)).hp++[some [.rw k xs],none]})
   |_=>some (true,s)
 | .cls o=>match s.at? o with
   | .sw k id n=>match s.rowW id with
     |some ⟨k',xs⟩=>if k'=k then some (Af n xs.length,{s.put? o (.ul k' xs) with hp:=(s.put? o (.ul k' xs)).hp.set id none}) else none
     |none=>none
   |_=>some (true,s)
 | .fz o=>match s.at? o with
   | .ul k xs=>some (true,s.put? o (.sl k .own xs))
   |_=>some (true,s)
 | .hol n=>match s.get n with
   | .sw _ id _=>match s.rowH id with
     |some h=>match s.rowW h.id2 with
      |some ⟨k3,ys⟩=>if k3=h.k2 then
        match pA h.k (h.xs.getD h.i (am h.k)) h.o [.sl k3 (.may false) ys] with
        |some b=>some (Af h.n2 ys.length&&decide (h.i<h.xs.length),{s with hp:=(s.hp.set id (some [.rw h.k (h.xs.set h.i b)])).set h.id2 none})
        |none=>none
       else none
      |none=>none
     |none=>none
   |_=>none
def afU(s:St)(o:Occ):Bool:=match s.at? o with| .ul _ xs=>xs.isEmpty|_=>true
inductive IR where
 |skip
 |bad
 |reg (ops:List GOp) (pre:List (List Nat))
 |seq (a b:IR)
 |cond (c:ac) (a b:IR)
 |block (id:Nat) (a:IR)
 |loop (live:List Nat) (n:Nat) (a:IR)
 |cut (live:List Nat) (n:Nat) (a:IR)
 |gh (g:io) (a:IR)
 |ope (o:Occ) (a:IR)
 |ghp (g:io) (a:IR)
 |exit (id:Nat)
 |ret
inductive Ex where
 |normal
 |exit (id:Nat)
 |ret
mutual
def V.lower(n:Nat):V->Bool
 | .ptr id _=>AV id n
 | .so id _=>AV id n
 | .rw _ _=>false
 | .sw _ id _=>AV (id+1) n
 | .sx _ id _ _=>AV (id+1) n
 | .wp id _ _ _=>AV (id+1) n
 | .mr id=>AV id n
 | .agg cs=>V.lowers n cs
 | .tup cs=>V.lowers n cs
 | .ea cs=>V.lowers n cs
 | .fn _ cs=>V.lowers n cs
 |_=>true
def V.lowers(n:Nat):List V->Bool
 | []=>true
 |v::r=>V.lower n v&&V.lowers n r
end
def lI(a:List Nat)(n:Nat):Nat->List V->List V
 |_,[]=>[]
 |i,v::r=>(if a.elem i&&v.lower n then v else .undef)::lI a n (i+1) r
def lJ(n:Nat):List al->Bool
 | []=>true
 |none::r=>lJ n r
 |some cs::r=>V.lowers n cs&&lJ n r
def St.keep(s:St)(a:List Nat)(n:Nat):St:={env:=lI a n 0 s.env,hp:=cond (lJ n (s.hp.take n)) (s.hp.take n) s.hp}
def bC{R:Type}:Nat->((St->Option R)->St->Option R)->St->Option R
 |0,_,_=>none
 |n+1,F,s=>F (bC n F) s
def d4{R:Type}(b:(Ex->St->Option R)->St->Option R)(K:Ex->St->Option R):Ex->St->Option R
 | .normal,s=>b K s
 |e,s=>K e s
def bu{R:Type}(id:Nat)(K:Ex->St->Option R):Ex->St->Option R
 | .exit j,s=>cond (Af j id) (K .normal s) (K (.exit j) s)
 |e,s=>K e s
def de{R:Type}(a:St->Option R)(b:List Nat)(n:Nat)(K:Ex->St->Option R):Ex->St->Option R
 | .normal,s=>a (s.keep b n)
 |e,s=>K e s
def aa7{R:Type}(g:io)(K:Ex->St->Option R):Ex->St->Option R
 | .normal,s=>match g.step s with
   |some (c,s')=>chk c (K .normal s')
   |none=>none
 |e,s=>K e s
def run{R:Type}(Γ:ao)(n:Nat):IR->(Ex->St->Option R)->St->Option R
 | .skip,K,s=>K .normal s
 | .bad,_,_=>none
 | .reg f _,K,s=>bP Γ f (K .normal) s
 | .seq a b,K,s=>run Γ n a (d4 (run Γ n b) K) s
 | .cond c a b,K,s=>match c.ev s with
   | .bool t=>cond t (run Γ n a K (c.fix s true)) (run Γ n b K (c.fix s false))
   |_=>none
 | .block id a,K,s=>run Γ n a (bu id K) s
 | .loop d m a,K,s=>bC n (λe s=>run Γ n a (de e d m K) s) (s.keep d m)
 | .cut d m a,K,s=>run Γ n a K (s.keep d m)
 | .gh g a,K,s=>match g.step s with
   |some (c,s')=>chk c (run Γ n a K s')
   |none=>none
 | .ope o a,K,s=>cond (afU s o) (match (io.fz o).step s with
   |some (c,s')=>chk c (run Γ n a K s')
   |none=>none) (match (io.opn o).step s with
   |some (c,s')=>chk c (run Γ n a K s')
   |none=>none)
 | .ghp g a,K,s=>run Γ n a (aa7 g K) s
 | .exit id,K,s=>K (.exit id) s
 | .ret,K,s=>K .ret s
def cg{α R:Type}:Nat->((α->Option R)->α->Option R)->α->Option R
 |0,_,_=>none
 |n+1,B,x=>B (cg n B) x
theorem cJ{α R:Type}(b:α->St)(F:(St->Option R)->St->Option R)(B:(α->Option R)->α->Option R)
  (h:∀a x,F a (b x)=B (λy=>a (b y)) x):∀m x,bC m F (b x)=cg m B x
 |0,_=>rfl
 |m+1,x=>by
  show F (bC m F) (b x)=B (cg m B) x;rw[h]
  congr 1
  funext y;exact cJ b F B h m y
inductive RV where
 |t (n:Nat)
 |cell (n size:Nat) (agg:Bool)
def RV.ev(s:St):RV->Option V
 | .t n=>some (s.get n)
 | .cell n a agg=>match s.get n with
   | .ptr id o=>match s.obj id with
     |some cs=>if o+a<=cs.length then some (disown (a6 agg ((cs.drop o).take a))) else none
     |none=>none
   | .ea cs=>if a<=cs.length then some (disown (a6 agg (cs.take a))) else none
   |_=>none
def rvs(s:St):List RV->Option (List V)
 | []=>some []
 |r::l=>match r.ev s,rvs s l with|some v,some vs=>some (v::vs)|_,_=>none
def jl(s:St)(a:List RV):Option V:=
 match rvs s a with
 |some [v]=>some v
 |some vs=>some (.tup (vs.map disown))
 |none=>none
def fin(a:List RV):Ex->St->Option (V×List al)
 | .normal,s| .ret,s=>(jl s a).map λv=>(v,s.hp)
 |_,_=>none
def start(b:Nat)(a:List V)(hp:List al):St:={env:=a++Bg (b-a.length) .undef,hp}
def gr(Γ:ao)(n a:Nat)(d:List RV)(c:IR)(b:List V)(hp:List al):Option (V×List al):=
 run Γ n c (fin d) (start a b hp)
structure Gh where
 I:Nat->Nat->Prop
 ρ:Nat->Nat
 O:Nat->Option Occ
 β:Nat
def OwnNil(c:V)(cv:Value):Prop:=
 match c,cv with
 | .sl _ .own _,.slice (some _) _ _=>False
 | .bn _ _,_=>False
 | .raw _,_=>False
 | .ul _ xs,cv=>xs.length=0∧cv=.slice none 0 0
 |_,_=>True
inductive VRel(I:Nat->Nat->Prop)(ρ:Nat->Nat)(N:Nat)(w:World):V->Value->Prop where
 |undef (cv:Value):VRel I ρ N w .undef cv
 |bool (b:Bool):VRel I ρ N w (.bool b) (.bool b)
 |int (k:IntKind) (n:Int) (h:k.min<=n∧n<=k.max):VRel I ρ N w (.int k n) (.int k n)
 |str (l:List UInt8) (s:ByteArray) (hl:s.data.toList=l) (h:s.size<=maxI):VRel I ρ N w (.str l) (.string s)
 |sln (k:EK) (o:Fl):VRel I ρ N w (.sl k o []) (.slice none 0 0)
 |sle (k:EK) (o:Fl) (ad:Addr) (ho:o≠.own):VRel I ρ N w (.sl k o []) (.slice (some ad) 0 0)
 |sl (k:EK) (o:Fl) (xs:List (Ty k)) (b off len cap:Nat) (hl:xs.length=len) (hc:xs.length<=cap) (hm:cap<=maxI) (hf:o=.may true->len=cap) (f:Nat->Nat->Value)
   (hI:∀i x j,xs[i]? =some x->j<(enc k x).length->I b (off+i*k.sz+j))
   (hw:∀i x j,xs[i]? =some x->j<(enc k x).length->w.cell? ⟨b,off+i*k.sz+j,none⟩=some (f i j))
   (hv:∀i x j v,xs[i]? =some x->(enc k x)[j]? =some v->VRel I ρ N w v (f i j)):
   VRel I ρ N w (.sl k o xs) (.slice (some ⟨b,off,none⟩) len cap)
 |agg (cs:List V) (vs:Array Value) (hl:cs.length=vs.size) (h1:∀c∈cs,c.one=true) (hb:∀(i:Nat) c cv,cs[i]? =some c->vs[i]? =some cv->OwnNil c cv)
   (hv:∀(i:Nat) c cv,cs[i]? =some c->vs[i]? =some cv->VRel I ρ N w c cv):VRel I ρ N w (.agg cs) (.agg vs)
 |tup (cs:List V) (vs:Array Value) (hl:cs.length=vs.size)
   (hv:∀(i:Nat) c cv,cs[i]? =some c->vs[i]? =some cv->VRel I ρ N w c cv):VRel I ρ N w (.tup cs) (.tuple vs)
 |ea (cs:List V) (b off:Nat) (f:Nat->Value) (h1:∀c∈cs,c.one=true)
   (hI:∀j,j<cs.length->I b (off+j))
   (hw:∀j,j<cs.length->w.cell? ⟨b,off+j,none⟩=some (f j))
   (hv:∀(j:Nat) c,cs[j]? =some c->VRel I ρ N w c (f j)):VRel I ρ N w (.ea cs) (.pointer (some ⟨b,off,none⟩))
 |ptr (id off:Nat) (h:id<N):VRel I ρ N w (.ptr id off) (.pointer (some ⟨ρ id,off,none⟩))
 |nilp:VRel I ρ N w .nilp (.pointer none)
 |fn (f:Nat) (cs:List V) (vs:Array Value) (hl:cs.length=vs.size)
   (hv:∀(i:Nat) c cv,cs[i]? =some c->vs[i]? =some cv->VRel I ρ N w c cv):VRel I ρ N w (.fn f cs) (.func (.func f) #[] vs)
 |nilif:VRel I ρ N w .nilif .nilIface
 |bn (E n:Nat) (p:Option Addr):VRel I ρ N w (.bn E n) (.pointer p)
 |junk (cv:Value) (h:cv.oneCell'=true):VRel I ρ N w .junk cv
 |so (id n cap:Nat) (h:id<N) (hc:n<=cap) (hm:cap<=maxI):VRel I ρ N w (.so id n) (.slice (some ⟨ρ id,0,none⟩) n cap)
 |raw (n b:Nat):VRel I ρ N w (.raw n) (.pointer (some ⟨b,0,none⟩))
 |ul (k:EK) (xs:List (Ty k)) (ad:Option Addr) (cap:Nat) (hm:xs.length<=maxI):VRel I ρ N w (.ul k xs) (.slice ad xs.length cap)
 |hd (n:Nat) (ad:Option Addr) (cap:Nat) (hm:n<=maxI):VRel I ρ N w (.hd n) (.slice ad n cap)
 |sw (k:EK) (id n:Nat) (h:id+1<N) (hc:n<=ρ (id+1)) (hm:ρ (id+1)<=maxI):VRel I ρ N w (.sw k id n) (.slice (some ⟨ρ id,0,none⟩) n (ρ (id+1)))
 |sx (k:EK) (id off n ad cap:Nat) (h:id+1<N) (hc:off+n<=ρ (id+1)) (hm:ρ (id+1)<=maxI) (hl:n<=cap) (ha:0<n->ad=off*k.sz):VRel I ρ N w (.sx k id off n) (.slice (some ⟨ρ id,ad,none⟩) n cap)
 |wp (id:Nat) (k:EK) (i o:Nat) (h:id+1<N):VRel I ρ N w (.wp id k i o) (.pointer (some ⟨ρ id,i*k.sz+o,none⟩))
 |mr (id:Nat) (h:id<N):VRel I ρ N w (.mr id) (.map (some (ρ id)))
 |nilm:VRel I ρ N w .nilm (.map none)
structure Up(I:Nat->Nat->Prop)(ρ:Nat->Nat)(N:Nat)(w:World)(I':Nat->Nat->Prop)(ρ':Nat->Nat)(N':Nat)(w':World):Prop where
 mono:∀b j,I b j->I' b j
 cell:∀b j,I b j->w'.cell? ⟨b,j,none⟩=w.cell? ⟨b,j,none⟩
 rho:∀id,id<N->ρ' id=ρ id
 num:N<=N'
theorem Up.refl(I:Nat->Nat->Prop)(ρ:Nat->Nat)(N:Nat)(w:World):Up I ρ N w I ρ N w:=⟨λ_ _ h=>h,λ_ _ _=>rfl,λ_ _=>rfl,Ao _⟩
theorem Up.trans{I I' d:Nat->Nat->Prop}{ρ ρ' a:Nat->Nat}{N N' e:Nat}{w w' c:World}(h:Up I ρ N w I' ρ' N' w')(k:Up I' ρ' N' w' d a e c):
  Up I ρ N w d a e c:=
 ⟨λb j g=>k.mono b j (h.mono b j g),λb j g=>(k.cell b j (h.mono b j g)).trans (h.cell b j g),
  λid f=>(k.rho id (AF f h.num)).trans (h.rho id f),AX h.num k.num⟩
theorem VRel.up{I I':Nat->Nat->Prop}{ρ ρ':Nat->Nat}{N N':Nat}{w w':World}(u:Up I ρ N w I' ρ' N' w'){v:V}{cv:Value}(h:VRel I ρ N w v cv):
  VRel I' ρ' N' w' v cv:=by
 induction h with
 |undef cv=>exact .undef cv
 |bool b=>exact .bool b
 |int k n h=>exact .int k n h
 |str l s d h=>exact .str l s d h
 |sln k o=>exact .sln k o
 |sle k o q F=>exact .sle k o q F
 |sl k o xs b a len cap d r c G f t A y g=>exact .sl k o xs b a len cap d r c G f (λi x j m z=>u.mono _ _ (t i x j m z)) (λi x j m z=>(u.cell _ _ (t i x j m z)).trans (A i x j m z)) g
 |agg cs vs d m H y g=>exact .agg cs vs d m H g
 |tup cs vs d y g=>exact .tup cs vs d g
 |ea cs b a f m t A y g=>exact .ea cs b a f m (λj h=>u.mono _ _ (t j h)) (λj h=>(u.cell _ _ (t j h)).trans (A j h)) g
 |ptr id a h=>rw[<-u.rho id h];exact .ptr id a (AF h u.num)
 |nilp=>exact .nilp
 |fn f cs vs d y g=>exact .fn f cs vs d g
 |nilif=>exact .nilif
 |bn E n p=>exact .bn E n p
 |junk cv h=>exact .junk cv h
 |so id n cap h r c=>rw[<-u.rho id h];exact .so id n cap (AF h u.num) r c
 |raw n b=>exact .raw n b
 |ul k xs q cap c=>exact .ul k xs q cap c
 |hd n q cap c=>exact .hd n q cap c
 |sw k id n h r c=>have e:=u.rho (id+1) h;have B:id+1<N':=AF h u.num;rw[<-u.rho id (by omega),<-e];exact .sw k id n B (by rw[e];exact r) (by rw[e];exact c)
 |sx k id a n q cap h r c d C=>have e:=u.rho (id+1) h;have B:id+1<N':=AF h u.num;rw[<-u.rho id (by omega)];exact .sx k id a n q cap B (by rw[e];exact r) (by rw[e];exact c) d C
 |wp id k i o h=>rw[<-u.rho id (by omega)];exact .wp id k i o (AF h u.num)
 |mr id h=>rw[<-u.rho id h];exact .mr id (AF h u.num)
 |nilm=>exact .nilm
section
variable{I:Nat->Nat->Prop}{ρ:Nat->Nat}{N:Nat}{w:World}
theorem VRel.own{k:EK}{o o':Fl}{xs:List (Ty k)}{cv:Value}(h:VRel I ρ N w (.sl k o xs) cv)(q:o'=.may true->o=.may true)(c:o'≠.own):VRel I ρ N w (.sl k o' xs) cv:=by
 cases h with
 |sln=>exact .sln _ _
 |sle _ _ m _=>exact .sle _ _ m c
 |sl _ _ _ b a len cap p g r j f i d e=>exact .sl k o' xs b a len cap p g r (λh=>j (q h)) f i d e
theorem VRel.disown{v:V}{cv:Value}(h:VRel I ρ N w v cv):VRel I ρ N w (disown v) cv:=by cases v<;>simp only[AM.disown]<;>first|exact h|exact h.own (by rename_i o _;cases o<;>simp[Fl.dis]) (by rename_i o _;cases o<;>simp[Fl.dis])|(cases h;exact .junk _ rfl)|(cases h;rename_i a;exact .hd _ _ _ a)|exact .undef _
theorem tq(v:V)(cv:Value):OwnNil (AM.disown v) cv:=by
 cases v with
 |sl k o xs=>cases o<;>simp[AM.disown,OwnNil,Fl.dis]
 |_=>simp[AM.disown,OwnNil]
theorem ke(v:V):(disown v).one=v.one:=by cases v<;>rfl
theorem VRel.oneCell{v:V}{cv:Value}(h:VRel I ρ N w v cv)(a:v.one=true):cv.oneCell'=true:=by cases h<;>first|rfl|assumption|simp[V.one] at a
theorem qD(k:EK)(x:Ty k):∀c∈enc k x,c.one=true:=by cases k<;>simp[enc,V.one]
theorem a8(k:EK)(x:Ty k):(enc k x).length=k.sz:=by cases k<;>rfl
theorem VRel.weak{v:V}{cv:Value}(h:VRel I ρ N w v cv):VRel I ρ N w v.weak cv:=by cases v<;>simp only[V.weak]<;>first|exact h.own (by simp) (by simp)|exact h.disown
theorem VRel.full{k:EK}{xs:List (Ty k)}{a:Addr}{len cap:Nat}(h:VRel I ρ N w (.sl k (.may true) xs) (.slice (some a) len cap)):len=cap:=by
 cases h with
 |sle=>rfl
 |sl _ _ _ b c _ _ m i o d f j e g=>exact d rfl
theorem abp(k:EK)(x:Ty k):(enc k x).map V.weak=enc k x:=by cases k<;>rfl
def V.inRange:V->Prop
 | .int k n=>k.min<=n∧n<=k.max
 |_=>True
theorem VRel.inRange{v:V}{cv:Value}(h:VRel I ρ N w v cv):v.inRange:=by cases h<;>simp only[V.inRange]<;>assumption
theorem yZ{k:EK}{cs:List V}{x:Ty k}(h:dec k cs=some x)(a:∀c∈cs,c.inRange):enc k x=cs.map V.weak:=by
 unfold dec at h
 split at h<;>first
  |(cases Ai h;rfl)
  |(cases Ai h;simp[enc,V.weak,AM.disown];done)
  |(
    cases Ai h;have:=a _ (Aq.2 rfl);simp only[V.inRange,Cb,BR,Bh,Bu] at this;simp[enc,V.weak,AM.disown] at this ⊢;omega)
  |exact absurd h (by simp)
end
def V.flat1:V->Bool
 | .bool _| .int _ _| .str _| .sl _ _ _| .nilp| .nilif| .fn _ []=>true
 |_=>false
section
variable{I:Nat->Nat->Prop}{ρ ρ':Nat->Nat}{N N':Nat}{w:World}
theorem tr(k:EK)(x:Ty k):∀c∈enc k x,c.flat1=true:=by cases k<;>simp[enc,V.flat1]
theorem VRel.flat1{v:V}{cv:Value}(h:VRel I ρ N w v cv):v.flat1=true->VRel I ρ' N' w v cv:=by
 induction h with
 |undef cv=>intro a;simp[V.flat1] at a
 |bool b=>intro _;exact .bool b
 |int k n h=>intro _;exact .int k n h
 |str l s d h=>intro _;exact .str l s d h
 |sln k o=>intro _;exact .sln k o
 |sle k o y z=>intro _;exact .sle k o y z
 |sl k o xs b e len cap d u A a f t p q g=>intro _;exact .sl k o xs b e len cap d u A a f t p (λi x j v r m=>g i x j v r m (tr k x v (Ap m)))
 |agg=>intro a;simp[V.flat1] at a
 |tup=>intro a;simp[V.flat1] at a
 |ea=>intro a;simp[V.flat1] at a
 |ptr=>intro a;simp[V.flat1] at a
 |nilp=>intro _;exact .nilp
 |fn f cs vs d q g=>
  intro a;cases cs with
  |nil=>exact .fn f [] vs d (by simp)
  |cons c cs=>simp[V.flat1] at a
 |nilif=>intro _;exact .nilif
 |bn=>intro a;simp[V.flat1] at a
 |junk=>intro a;simp[V.flat1] at a
 |so=>intro a;simp[V.flat1] at a
 |raw=>intro a;simp[V.flat1] at a
 |ul=>intro a;simp[V.flat1] at a
 |hd=>intro a;simp[V.flat1] at a
 |sw=>intro a;simp[V.flat1] at a
 |sx=>intro a;simp[V.flat1] at a
 |wp=>intro a;simp[V.flat1] at a
 |mr=>intro a;simp[V.flat1] at a
 |nilm=>intro a;simp[V.flat1] at a
end
def uS(a:Nat×Nat)(n:Nat):Prop:=∀j,j<n->¬(a.1<=j∧j<a.2)
theorem adY(n:Nat):uS (0,0) n:=by intro j _;simp
def uT(g:Gh)(w:World)(c:Occ)(k:EK)(xs:List (Ty k))(cv:Value):Prop:=
 (xs=[]∧cv=.slice none 0 0)∨
 ∃b cap a e d,uS d a.size∧cv=.slice (some ⟨b,0,none⟩) xs.length cap∧xs.length<=cap∧cap<=maxI∧g.O b=some c∧w.heap[b]? =some (.cells a e d)∧cap*k.sz<=a.size∧(k=.u8->e=g.β)∧
  (∀j,¬g.I b j)∧∀(i:Nat) x (j:Nat) v u,xs[i]? =some x->(enc k x)[j]? =some v->a[i*k.sz+j]? =some u->VRel g.I (λ_=>0) 0 w v u
def OwnOK(g:Gh)(w:World)(c:Occ)(v:V)(cv:Value):Prop:=
 match v,cv with
 | .sl k .own _,.slice (some a) len cap=>
   g.O a.block=some c∧(∃b e d,w.heap[a.block]? =some (.cells b e d)∧a.off+cap*k.sz<=b.size∧(k=.u8->e=g.β))∧
    ∀j,a.off+len*k.sz<=j->j<a.off+cap*k.sz->¬g.I a.block j∧w.frozen? ⟨a.block,j,none⟩=false
 | .raw n,.pointer (some a)=>g.O a.block=some c∧(∃b e,w.heap[a.block]? =some (.cells b e (0,0))∧b.size=n)∧∀j,¬g.I a.block j
 | .ul k xs,cv=>uT g w c k xs cv
 |_,_=>True
theorem uT.keep{g c:Gh}{w w':World}{a:Occ}{k:EK}{xs:List (Ty k)}{cv:Value}(h:uT g w a k xs cv)(o:c.β=g.β)
  (p:∀b j,g.I b j->c.I b j∧w'.cell? ⟨b,j,none⟩=w.cell? ⟨b,j,none⟩)
  (d:∀b,g.O b=some a->c.O b=some a∧w'.heap[b]? =w.heap[b]?∧∀j,c.I b j->g.I b j):uT c w' a k xs cv:=by
 rcases h with h|⟨b,cap,f,e,r,t,C,L,E,M,A,B,z,q,F⟩
 ·exact .inl h
 ·obtain⟨k1,k2,k3⟩:=d b M;refine .inr ⟨b,cap,f,e,r,t,C,L,E,k1,k2.trans A,B,λd=>(z d).trans o.symm,λj G=>q j (k3 j G),λi x j v u J y H=>?_⟩;exact(F i x j v u J y H).up ⟨λb j m=>(p b j m).1,λb j m=>(p b j m).2,λ_ _=>rfl,Ao _⟩
theorem ch{g i:Gh}{w w':World}{a:Occ}{v:V}{cv:Value}(h:OwnOK g w a v cv)
  (f:i.β=g.β) (y:∀b j,g.I b j->i.I b j∧w'.cell? ⟨b,j,none⟩=w.cell? ⟨b,j,none⟩)
  (d:∀b,g.O b=some a->i.O b=some a∧w'.heap[b]? =w.heap[b]?∧∀j,i.I b j->g.I b j):OwnOK i w' a v cv:=by
 unfold OwnOK at h ⊢;split;·rename_i k xs B len cap;obtain⟨p,⟨c,e,x,t,q,z⟩,u⟩:=h;obtain⟨k1,k2,k3⟩:=d _ p;refine⟨k1,⟨c,e,x,k2.trans t,q,λd=>by rw[f];exact z d⟩,λj r o=>?_⟩;obtain⟨A,m2⟩:=u j r o;refine⟨λm=>A (k3 j m),?_⟩;simpa [Ci,k2] using m2
 ·obtain⟨p,⟨c,e,t,q⟩,u⟩:=h;obtain⟨k1,k2,k3⟩:=d _ p;exact⟨k1,⟨c,e,k2.trans t,q⟩,λj m=>u j (k3 j m)⟩
 ·exact uT.keep h f y d
 ·trivial
theorem OwnOK.disown(g:Gh)(w:World)(a:Occ)(v:V)(cv:Value):OwnOK g w a (AM.disown v) cv:=by
 cases v with
 |sl k o xs=>cases o<;>simp[AM.disown,OwnOK,Fl.dis]
 |_=>simp only[AM.disown,OwnOK]
def cellsOf:List V->List V
 | [.rb xs]=>xs.map λb=>.int .u8 b.toNat
 | [.rw k xs]=>xs.flatMap (enc k)
 | [.tup [.rw k xs,.sw k2 a c,.wp _ _ i o]]=>(xs.flatMap (enc k)).set (i*k.sz+o) (.sw k2 a c)
 |cs=>cs
theorem kf{cs:List V}(h:dU cs=false):cellsOf cs=cs:=by
 unfold cellsOf;split;·simp[dU] at h
 ·simp[dU] at h
 ·simp[dU] at h
 ·rfl
theorem ae0{vs:List V}{j:Nat}{c:V}(b:(cellsOf [.tup vs])[j]? =some c)(g:c.one=true):(∃k x,c∈enc k x)∨∃k2 a f,vs.any (λv=>match v with| .sw k id n=>decide (k=k2∧id=a∧n=f)|_=>false)=true∧c=.sw k2 a f:=by
 unfold cellsOf at b;split at b;·rename_i e;cases e
 ·rename_i e;cases e
 ·rename_i k xs k2 a f _ _ i o e;cases e;rw[At] at b;split at b
  ·split at b;·obtain rfl:=Ai b;exact .inr ⟨k2,a,f,by simp,rfl⟩
   ·simp at b
  ·have d:=Ap b;simp only[AJ] at d;obtain⟨y,_,d⟩:=d;exact .inl ⟨k,y,d⟩
 ·have d:=Ap b;simp only[Aq] at d;subst d;simp[V.one] at g
def vW:List V->Option ((k:EK)×List (Ty k))
 | [.rw k xs]=>some ⟨k,xs⟩
 | [.tup [.rw k xs,.sw _ _ _,.wp _ _ _ _]]=>some ⟨k,xs⟩
 |_=>none
theorem pl{cs:List V}(h:dU cs=false):vW cs=none:=by
 unfold vW;split;·simp[dU] at h
 ·simp[dU] at h
 ·rfl
structure fv(g:Gh)(N:Nat)(w:World)(id:Nat)(cs:List V)(arr:Array Value)(e:TypeId)(fz:Nat×Nat):Prop where
 len:(cellsOf cs).length<=arr.size
 plain:dU cs=false->cs.length=arr.size∧fz=(0,0)
 typed:∀k xs,vW cs=some ⟨k,xs⟩->uS fz arr.size∧g.ρ (id+1)*k.sz<=arr.size∧id+1<N∧(k=.u8->e=g.β)
 cold:∀j,j<(cellsOf cs).length->¬(fz.1<=j∧j<fz.2)
 one:∀c∈cellsOf cs,c.one=true
 rel:∀(j:Nat) c cv,(cellsOf cs)[j]? =some c->arr[j]? =some cv->VRel g.I g.ρ N w c cv
 own:∀(j:Nat) c cv,(cellsOf cs)[j]? =some c->arr[j]? =some cv->OwnOK g w (.cell id j) c cv
 bn:∀(j E n:Nat),(cellsOf cs)[j]? =some (.bn E n)->E=e∧n=arr.size∧(arr[j]? =some (.pointer none)∨arr[j]? =some (.pointer (some ⟨g.ρ id,j,none⟩)))
theorem fv.typedUp{g j:Gh}{N N':Nat}{w:World}{id:Nat}{cs:List V}{i f:Array Value}{e:TypeId}{o:Nat×Nat}(h:fv g N w id cs i e o)
  (m:j.β=g.β) (r:∀id,id<N->j.ρ id=g.ρ id) (u:N<=N') (p:i.size=f.size):
  ∀k xs,vW cs=some ⟨k,xs⟩->uS o f.size∧j.ρ (id+1)*k.sz<=f.size∧id+1<N'∧(k=.u8->e=j.β):=by
 intro k xs t;obtain⟨a,b,c,d⟩:=h.typed k xs t;exact⟨p▸a,by rw[r _ c];omega,by omega,λq=>(d q).trans m.symm⟩
structure uU(g:Gh)(N:Nat)(w:World)(id:Nat)(cs:List V)(arr:Array Value)(e:TypeId):Prop where
 len:cs.length=arr.size
 one:∀c∈cs,c.one=true
 rel:∀(j:Nat) c cv,cs[j]? =some c->arr[j]? =some cv->VRel g.I g.ρ N w c cv
 own:∀(j:Nat) c cv,cs[j]? =some c->arr[j]? =some cv->OwnOK g w (.cell id j) c cv
 bn:∀(j E n:Nat),cs[j]? =some (.bn E n)->E=e∧n=arr.size∧(arr[j]? =some (.pointer none)∨arr[j]? =some (.pointer (some ⟨g.ρ id,j,none⟩)))
theorem ae1{cs:List V}(h:∀c∈cs,c.one=true):dU cs=false:=by
 unfold dU;split;·have:=h _ (Aq.2 rfl);simp[V.one] at this
 ·have:=h _ (Aq.2 rfl);simp[V.one] at this
 ·have:=h _ (Aq.2 rfl);simp[V.one] at this
 ·rfl
theorem fv.low{g:Gh}{N:Nat}{w:World}{id:Nat}{cs:List V}{j:Array Value}{e:TypeId}{m:Nat×Nat}(h:fv g N w id cs j e m)(k:dU cs=false):
  m=(0,0)∧uU g N w id cs j e:=by
 have e1:=kf k;obtain⟨a,b,t,c,d,f,g,i⟩:=h;rw[e1] at d f g i;exact⟨(b k).2,(b k).1,d,f,g,i⟩
theorem uU.high{g:Gh}{N:Nat}{w:World}{id:Nat}{cs:List V}{b:Array Value}{e:TypeId}(h:uU g N w id cs b e):fv g N w id cs b e (0,0):=by have c:=ae1 h.one;have e1:=kf c;obtain⟨a,d,f,g,i⟩:=h;exact⟨by rw[e1,a];exact Ao _,λ_=>⟨a,rfl⟩,by rw[pl c];simp,by intro j _;simp,by rw[e1];exact d,by rw[e1];exact f,by rw[e1];exact g,by rw[e1];exact i⟩
def MK.keyV:(k:MK)->k.K->Value
 | .pb,x=>.agg #[.int .i64 x.1,.int .i64 x.2]
 | .bs,x=>.int .u8 x
 | .bn,x=>.int .u8 x
 | .ib,x=>.int .i64 x
 | .sn,x=>.string ⟨x.toArray⟩
def MK.valV:(k:MK)->k.T->Value
 | .pb,x=>.bool x
 | .bs,x=>.string ⟨x.toArray⟩
 | .bn,x=>.int .i64 x
 | .ib,x=>.bool x
 | .sn,x=>.int .i64 x
def kg:List V->Bool
 | [.mp _ _]=>true
 |_=>false
def MK.okT:(k:MK)->k.T->Prop
 | .pb,_=>True
 | .bs,x=>x.length<=maxI
 | .bn,x=>IntKind.i64.min<=x∧x<=IntKind.i64.max
 | .ib,_=>True
 | .sn,x=>IntKind.i64.min<=x∧x<=IntKind.i64.max
def cU{k:MK}(es:List (k.K×k.T))(ents:Array MapEntry)(clock:Nat):Prop:=
 es.length=ents.size∧clock=ents.size∧∀(i:Nat) e en,es[i]? =some e->ents[i]? =some en->en.born=i∧en.key=k.keyV e.1∧en.val=k.valV e.2∧k.okT e.2
structure fS(g:Gh)(N:Nat)(w:World)(id:Nat)(cs:List V):Prop where
 row:kg cs=false->∃arr e fz,w.heap[g.ρ id]? =some (.cells arr e fz)∧fv g N w id cs arr e fz
 map:∀(k:MK) es,cs=[.mp k es]->∃ents clock,w.heap[g.ρ id]? =some (.map ents clock)∧cU es ents clock
theorem tt{cs:List V}(h:kg cs=true):∃k es,cs=[.mp k es]:=by
 unfold kg at h;split at h;·exact⟨_,_,rfl⟩
 ·simp at h
theorem fS.block{g:Gh}{N:Nat}{w:World}{id:Nat}{cs:List V}(h:fS g N w id cs):∃x,w.heap[g.ρ id]? =some x:=by
 cases b:kg cs with
 |false=>obtain⟨d,e,f,a,_⟩:=h.row b;exact⟨_,a⟩
 |true=>obtain⟨k,es,rfl⟩:=tt b;obtain⟨ents,c,a,_⟩:=h.map k es rfl;exact⟨_,a⟩
theorem fS.lt{g:Gh}{N:Nat}{w:World}{id:Nat}{cs:List V}(h:fS g N w id cs):g.ρ id<w.heap.size:=by obtain⟨x,a⟩:=h.block;exact(AN.1 a).1
theorem fS.keep{g j:Gh}{N N':Nat}{w w':World}{id b:Nat}{cs:List V}(h:fS g N w id cs)(m:w'.heap[j.ρ b]? =w.heap[g.ρ id]?)(o:∀a e d,w.heap[g.ρ id]? =some (.cells a e d)->fv g N w id cs a e d->fv j N' w' b cs a e d):fS j N' w' b cs:=
 ⟨λq=>by obtain⟨a,e,d,f,i⟩:=h.row q;exact⟨a,e,d,m.trans f,o a e d f i⟩,λk es p=>by obtain⟨ents,c,f,i⟩:=h.map k es p;exact⟨ents,c,m.trans f,i⟩⟩
theorem fS.ofRow{g:Gh}{N:Nat}{w:World}{id:Nat}{cs:List V}{a:Array Value}{e:TypeId}{b:Nat×Nat}(c:w.heap[g.ρ id]? =some (.cells a e b))(h:fv g N w id cs a e b)(f:kg cs=false):fS g N w id cs:=
 ⟨λ_=>⟨a,e,b,c,h⟩,λk es d=>by subst d;simp[kg] at f⟩
theorem ae2{cs:List V}(h:∀c∈cs,c.one=true):kg cs=false:=by
 cases a:kg cs with
 |false=>rfl
 |true=>obtain⟨k,es,rfl⟩:=tt a;have:=h _ (Aq.2 rfl);simp[V.one] at this
theorem fS.ofRow0{g:Gh}{N:Nat}{w:World}{id:Nat}{cs:List V}{a:Array Value}{e:TypeId}(c:w.heap[g.ρ id]? =some (.cells a e (0,0)))(b:uU g N w id cs a e):fS g N w id cs:=
 .ofRow c b.high (ae2 b.one)
structure HR(g:Gh)(hp:List al)(w:World):Prop where
 obj:∀(id:Nat) cs,hp[id]? =some (some cs)->fS g hp.length w id cs
 apart:∀(id id':Nat) cs cs',hp[id]? =some (some cs)->hp[id']? =some (some cs')->id≠id'->g.ρ id≠g.ρ id'
 notI:∀(id:Nat) cs,hp[id]? =some (some cs)->∀j,¬g.I (g.ρ id) j
 notO:∀(id:Nat) cs,hp[id]? =some (some cs)->g.O (g.ρ id)=none
 exI:∀b j,g.I b j->(w.cell? ⟨b,j,none⟩).isSome=true
 oLt:∀b o,g.O b=some o->b<w.heap.size
structure ER(g:Gh)(N:Nat)(w:World)(env:List V)(tmps:Array Value):Prop where
 size:env.length=tmps.size
 rel:∀(n:Nat) v cv,env[n]? =some v->tmps[n]? =some cv->VRel g.I g.ρ N w v cv
 own:∀(n:Nat) v cv,env[n]? =some v->tmps[n]? =some cv->OwnOK g w (.slot n) v cv
structure FR(g₀:Gh)(hp₀:List al)(w₀:World)(g:Gh)(hp:List al)(w:World):Prop where
 beta:g.β=g₀.β
 os:w.os=w₀.os
 tape:w.tape=w₀.tape
 output:w.output=w₀.output
 size:w₀.heap.size<=w.heap.size
 block:∀b,b<w₀.heap.size->(∀(id:Nat) cs,hp₀[id]? =some (some cs)->g₀.ρ id≠b)->g₀.O b=none->w.heap[b]? =w₀.heap[b]?
 up:Up g₀.I g₀.ρ hp₀.length w₀ g.I g.ρ hp.length w
 iSame:∀b j,b<w₀.heap.size->(∀(id:Nat) cs,hp₀[id]? =some (some cs)->g₀.ρ id≠b)->g₀.O b=none->g.I b j->g₀.I b j
 oSame:∀b,b<w₀.heap.size->(∀(id:Nat) cs,hp₀[id]? =some (some cs)->g₀.ρ id≠b)->g₀.O b=none->g.O b=none
 live:∀(id:Nat) cs,hp[id]? =some (some cs)->(∃cs₀,hp₀[id]? =some (some cs₀))∨(hp₀.length<=id∧(w₀.heap.size<=g.ρ id∨g₀.O (g.ρ id)≠none∨∃(id':Nat)(cs':List V),hp₀[id']? =some (some cs')∧g₀.ρ id'=g.ρ id))
theorem FR.refl(g:Gh)(hp:List al)(w:World):FR g hp w g hp w:=
 ⟨rfl,rfl,rfl,rfl,Ao _,λ_ _ _ _=>rfl,Up.refl _ _ _ _,λ_ _ _ _ _ h=>h,λ_ _ _ h=>h,λ_ cs h=>.inl ⟨cs,h⟩⟩
theorem FR.noObj{c g₁:Gh}{a hp₁:List al}{d w₁:World}(h:FR c a d g₁ hp₁ w₁){b:Nat}(t:b<d.heap.size)(o:∀(id:Nat) cs,a[id]? =some (some cs)->c.ρ id≠b)(r:c.O b=none):
  ∀(id:Nat) cs,hp₁[id]? =some (some cs)->g₁.ρ id≠b:=by
 intro id cs k e;rcases h.live id cs k with⟨f,p⟩|⟨_,g|g|⟨j,i,g,q⟩⟩
 ·refine o id f p ?_;have m:id<a.length:=(Ad.1 p).1;rw[<-h.up.rho id m];exact e
 ·omega
 ·rw[e] at g;exact g r
 ·exact o j i g (q.trans e)
theorem FR.trans{d g₁ a:Gh}{c hp₁ m:List al}{i w₁ p:World}(h:FR d c i g₁ hp₁ w₁)(k:FR g₁ hp₁ w₁ a m p):FR d c i a m p:=by
 refine⟨k.beta.trans h.beta,k.os.trans h.os,k.tape.trans h.tape,k.output.trans h.output,AX h.size k.size,?_,h.up.trans k.up,?_,?_,?_⟩;·intro b g e f;exact(k.block b (AF g h.size) (h.noObj g e f) (h.oSame b g e f)).trans (h.block b g e f)
 ·intro b j g e f z;exact h.iSame b j g e f (k.iSame b j (AF g h.size) (h.noObj g e f) (h.oSame b g e f) z)
 ·intro b g e f;exact k.oSame b (AF g h.size) (h.noObj g e f) (h.oSame b g e f)
 ·intro id cs t;rcases k.live id cs t with⟨q,u⟩|⟨u,C⟩
  ·rcases h.live id q u with v|⟨v,y⟩
   ·exact .inl v
   ·refine .inr ⟨v,?_⟩;rw[k.up.rho id (Ad.1 u).1];exact y
  ·refine .inr ⟨AX h.up.num u,?_⟩;by_cases r:a.ρ id<i.heap.size
   ·right;by_cases f:d.O (a.ρ id)=none
    ·right;by_cases e:∀(o:Nat) cs,c[o]? =some (some cs)->d.ρ o≠a.ρ id;·exact absurd rfl (FR.noObj k (AF r h.size) (h.noObj r e f) (h.oSame _ r e f) id cs t)
     ·exact Classical.byContradiction λA=>e λo x y B=>A ⟨o,x,y,B⟩
    ·left;exact f
   ·left;omega
def sj:Nat:=0
def y5:List Value:=[]
structure SR(g:Gh)(s:St)(w:World)(a:Act):Prop where
 hr:HR g s.hp w
 er:ER g s.hp.length w s.env a.tmps
def ax(g:Gh)(s:St)(w:World)(a:Act)(s':St)(next:Act->World->Prop):Prop:=
 ∀b w' c,SR c s' w' b->FR g s.hp w c s'.hp w'->b.defers=a.defers->next b w'
def iW:V->Value->Bool
 | .int k n,.int k' d=>decide (k=k')&&(n==d&&(decide (k.min<=n)&&decide (n<=k.max)))
 | .bool b,.bool c=>b==c
 | .str l,.string s=>decide (s.data.toList=l)&&decide (s.size<=maxI)
 | .sl _ _ xs,.slice none 0 0=>xs.isEmpty
 | .ul _ xs,.slice none 0 0=>xs.isEmpty
 | .nilp,.pointer none=>true
 | .nilif,.nilIface=>true
 | .nilm,.map none=>true
 |_,_=>false
def cK:List V->List Value->Bool
 | [],[]=>true
 |c::cs,v::vs=>iW c v&&cK cs vs
 |_,_=>false
def mi:V->Value->Bool
 | .agg cs,.agg vs=>cK cs vs.toList
 |v,cv=>iW v cv
def ag:ac->Operand->Bool
 | .t n,.tmp k=>n==k
 | .tk n,.tmp k=>n==k
 | .c v,.const cv=>mi v cv
 | .c (.fn f []),.func h=>f==h
 |_,_=>false
section
variable{I:Nat->Nat->Prop}{ρ:Nat->Nat}{N:Nat}{w:World}{g:Gh}{s:St}{a:Act}{P:Program}
theorem n7{v:V}{cv:Value}(h:iW v cv=true):VRel I ρ N w v cv∧v.one=true:=by
 unfold iW at h;split at h;·simp only[Aa,decide_eq_true_eq,beq_iff_eq] at h;obtain⟨rfl,rfl,b,c⟩:=h;exact⟨.int _ _ ⟨b,c⟩,rfl⟩
 ·obtain rfl:=by simpa using h
  exact⟨.bool _,rfl⟩
 ·simp only[Aa,decide_eq_true_eq] at h;exact⟨.str _ _ h.1 h.2,rfl⟩
 ·rename_i xs;cases xs with
  |nil=>exact⟨.sln _ _,rfl⟩
  |cons x xs=>simp at h
 ·rename_i k xs;cases xs with
  |nil=>exact⟨.ul k [] none 0 (by simp),rfl⟩
  |cons x xs=>simp at h
 ·exact⟨.nilp,rfl⟩
 ·exact⟨.nilif,rfl⟩
 ·exact⟨.nilm,rfl⟩
 ·simp at h
theorem adZ{v:V}{cv:Value}(h:iW v cv=true):OwnNil v cv:=by unfold iW at h;split at h<;>first|(simp[OwnNil];done)|(simp at h;done)|(simp[OwnNil];exact h)|(simp[OwnNil];simp at h;exact h)|simp at h
theorem pm:∀{cs:List V}{vs:List Value},cK cs vs=true->∀(i:Nat) c cv,cs[i]? =some c->vs[i]? =some cv->OwnNil c cv
 | [],[],_,i,c,cv,b,d=>by simp at b
 |c::cs,v::vs,h,i,f,e,b,d=>by
  simp only[cK,Aa] at h;cases i with
  |zero=>simp at b d;subst b d;exact adZ h.1
  |succ i=>exact pm h.2 i f e (by simpa using b) (by simpa using d)
 | [],_::_,h,_,_,_,_,_=>by simp[cK] at h
 |_::_,[],h,_,_,_,_,_=>by simp[cK] at h
theorem dw:∀{cs:List V}{vs:List Value},cK cs vs=true->cs.length=vs.length∧(∀c∈cs,c.one=true)∧
  ∀(i:Nat) c cv,cs[i]? =some c->vs[i]? =some cv->VRel I ρ N w c cv
 | [],[],_=>⟨rfl,by simp,by simp⟩
 |c::cs,v::vs,h=>by
  simp only[cK,Aa] at h;obtain⟨e,j⟩:=n7 (I:=I) (ρ:=ρ) (N:=N) (w:=w) h.1;obtain⟨k1,k2,k3⟩:=dw h.2;refine⟨by simp[k1],by simpa using ⟨j,k2⟩,?_⟩;intro i k f d b;cases i with
  |zero=>simp at d b;subst d b;exact e
  |succ i=>simp at d b;exact k3 i _ _ d b
 | [],_::_,h=>by simp[cK] at h
 |_::_,[],h=>by simp[cK] at h
theorem sk{v:V}{cv:Value}(h:mi v cv=true):VRel I ρ N w v cv:=by
 unfold mi at h;split at h;·rename_i cs vs;obtain⟨e,j,f⟩:=dw (I:=I) (ρ:=ρ) (N:=N) (w:=w) h;exact .agg _ _ (by simpa using e) j (λi c cv d b=>pm h i c cv d (by simpa using b)) (λi c cv d b=>f i c cv d (by simpa using b))
 ·exact(n7 h).1
theorem pn{v:V}{cv:Value}(h:mi v cv=true)(b:Occ):OwnOK g w b v cv:=by
 unfold mi at h;split at h;·simp[OwnOK]
 ·unfold iW at h;split at h<;>first|(simp[OwnOK];done)|(exact .inl ⟨by simpa using h,rfl⟩)|simp at h
theorem ER.get(h:ER g N w s.env a.tmps)(n:Nat):VRel g.I g.ρ N w (s.get n) (a.tmps.getD n undef):=by
 by_cases c:n<s.env.length
 ·have b:n<a.tmps.size:=by rw[<-h.size];exact c
  refine h.rel n _ _ ?_ ?_;·simp[St.get,As,Ac c]
  ·simp[BA,b,Ag b]
 ·have:s.get n=.undef:=by simp[St.get,As,AR (Ds c)]
  rw[this];exact .undef _
theorem ER.getOwn(h:ER g N w s.env a.tmps)(n:Nat):OwnOK g w (.slot n) (s.get n) (a.tmps.getD n undef):=by
 by_cases c:n<s.env.length
 ·have b:n<a.tmps.size:=by rw[<-h.size];exact c
  refine h.own n _ _ ?_ ?_;·simp[St.get,As,Ac c]
  ·simp[BA,b,Ag b]
 ·have:s.get n=.undef:=by simp[St.get,As,AR (Ds c)]
  rw[this];simp[OwnOK]
theorem af{x:ac}{o:Operand}(h:ag x o=true)(e:ER g N w s.env a.tmps):VRel g.I g.ρ N w (x.ev s) (a.eval o):=by
 unfold ag at h;split at h
 ·obtain rfl:=by simpa using h
  exact(e.get _).disown
 ·obtain rfl:=by simpa using h
  exact e.get _
 ·exact sk h
 ·obtain rfl:=by simpa using h
  exact .fn _ [] #[] rfl (by simp)
 ·simp at h
theorem ER.set(h:ER g N w s.env a.tmps)(d:Nat){v:V}{cv:Value}(j:VRel g.I g.ρ N w v cv)(k:OwnOK g w (.slot d) v cv):
  ER g N w (s.set d v).env (a.put (some d) cv).tmps:=by
 refine⟨by simp[St.set,Act.put,h.size],?_,?_⟩
 ·intro n i f c b;simp only[St.set,Act.put,At,DU] at c b;by_cases e:d=n;·subst e;simp only[if_true] at c b;split at c<;>split at b<;>simp_all
  ·simp only[e,if_false] at c b;exact h.rel n _ _ c b
 ·intro n i f c b;simp only[St.set,Act.put,At,DU] at c b;by_cases e:d=n;·subst e;simp only[if_true] at c b;split at c<;>split at b<;>simp_all
  ·simp only[e,if_false] at c b;exact h.own n _ _ c b
theorem SR.set(h:SR g s w a)(d:Nat){v:V}{cv:Value}(b:VRel g.I g.ρ s.hp.length w v cv)(c:OwnOK g w (.slot d) v cv):
  SR g (s.set d v) w (a.put (some d) cv):=⟨h.hr,h.er.set d b c⟩
def V.bare:V->Bool
 | .sl _ .own _=>false
 | .raw _=>false
 | .ul _ _=>false
 |_=>true
theorem jm{v:V}(h:v.bare=true)(g:Gh)(w:World)(b:Occ)(cv:Value):OwnOK g w b v cv:=by
 cases v with
 |sl k o xs=>cases o<;>first|simp[V.bare] at h;done|simp[OwnOK]
 |raw n=>simp[V.bare] at h
 |ul k xs=>simp[V.bare] at h
 |_=>simp[OwnOK]
theorem dx(v:V):(disown v).bare=true:=by
 cases v with
 |sl k o xs=>cases o<;>rfl
 |_=>rfl
theorem HR.drew{hp:List al}(h:HR g hp w):HR g hp w.drew:=by
 refine⟨?_,h.apart,h.notI,h.notO,h.exI,h.oLt⟩;intro id cs k;refine(h.obj id cs k).keep rfl λo e t r d=>?_
 have u:Up g.I g.ρ hp.length w g.I g.ρ hp.length w.drew:=⟨λ_ _ h=>h,λ_ _ _=>rfl,λ_ _=>rfl,Ao _⟩
 exact⟨d.len,d.plain,d.typed,d.cold,d.one,λj c cv i f=>(d.rel j c cv i f).up u,λj c cv i f=>ch (d.own j c cv i f) rfl (λb j q=>⟨q,rfl⟩) (λb p=>⟨p,rfl,λj m=>m⟩),d.bn⟩
theorem ae{m:Oper}{d:Nat}{v:V}{cv:Value}{next:Act->World->Prop}{Q:Exit->Act->World->Prop}(h:SR g s w a)(i:m.dst=some d)
  (b:(execOp a.eval m).run P w=.ok (.value cv) w) (e:VRel g.I g.ρ s.hp.length w v cv) (f:v.bare=true)
  (c:ax g s w a (s.set d v) next):m.wp P a w next Q:=by
 unfold Ch C6;rw[b,i];exact c _ _ g (h.set d e (jm f _ _ _ _)) (FR.refl _ _ _) rfl
end
def cL:Option ac->Option Operand->Bool
 |none,none=>true
 |some x,some y=>ag x y
 |_,_=>false
def wV:ac->Bool
 | .tk _=>false
 |_=>true
def wW(P:Program)(t:TypeId)(k:IntKind):Bool:=match P.underlying t with|some (.int k')=>decide (k=k')|_=>false
def cn(P:Program)(t:TypeId):Option Bool:=match P.underlying t with|some (.struct _)|some (.array _ _)=>some true|some _=>some false|none=>none
def be(P:Program)(t:TypeId):Option Nat:=(P.info? t).map (·.size)
def qF(P:Program)(t:TypeId):Bool:=match be P t with|some n=>n !=0|none=>false
def mj(P:Program):Nat:=((AE P.types.size).find? λt=>match P.underlying t with|some (.int .u8)=>true|_=>false).getD 0
def pB(P:Program)(e:TypeId)(k:EK):Bool:=
 (match k with| .u8=>e==mj P|_=>true)&&
 (match P.info? e with
 |some i=>i.size==k.sz&&(i.bytes==k.bytes&&(cn P e==some k.isAgg&&(match i.zero with|some z=>cK (enc k (am k)) z.cells.toList&&(z.cells.size==k.sz)|none=>false)))
 |none=>false)
def jG(P:Program)(t:TypeId)(k:EK):Bool:=match P.underlying t with|some (.slice e)=>pB P e k|_=>false
def kh:Op->Option (Builtin×List Operand×List TypeId)
 | .call c=>match c.callee with| .builtin b=>some (b,c.args.toList,c.argTypes.toList)|_=>none
 |_=>none
theorem dV{o:Op}{b:Builtin}{avs:List Operand}{ts:List TypeId}(h:kh o=some (b,avs,ts)):o=.call ⟨.builtin b,⟨avs⟩,⟨ts⟩⟩:=by
 unfold kh at h;split at h
 ·rename_i c;obtain⟨d,⟨e⟩,⟨f⟩⟩:=c;simp only at h;split at h;·simp only[Ab,Ae] at h;obtain⟨rfl,rfl,rfl⟩:=h;rfl
  ·simp at h
 ·simp at h
def aY(P:Program)(o:IOp)(m:Oper):Bool:=
 match o with
 | .pick d c x y=>(m.dst==some d)&&(match m.op with| .pick B b e=>ag c B&&(ag x b&&ag y e)&&(wV x&&wV y)|_=>false)
 | .bin d o x y=>(m.dst==some d)&&(match m.op with| .binOp o' _ b e _=>decide (o=o')&&(ag x b&&ag y e)|_=>false)
 | .un d o x=>(m.dst==some d)&&(match m.op with| .unOp o' _ b=>decide (o=o')&&ag x b|_=>false)
 | .lens d x=>(m.dst==some d)&&(match kh m.op with|some (.len,[b],[t])=>(match P.underlying t with|some .string=>true|_=>false)&&ag x b|_=>false)
 | .lenl d x=>(m.dst==some d)&&(match kh m.op with|some (.len,[b],[t])=>(match P.underlying t with|some (.slice _)=>true|_=>false)&&ag x b|_=>false)
 | .idx d x i=>(m.dst==some d)&&(match m.op with| .index t b h=>(match P.underlying t with|some .string=>true|_=>false)&&(ag x b&&ag i h)|_=>false)
 | .ixa d k x i=>(m.dst==some d)&&(match m.op with| .indexAddr t b h=>jG P t k&&(ag x b&&ag i h)|_=>false)
 | .subs d x A z=>(m.dst==some d)&&(match m.op with| .slice t b q r none=>(match P.underlying t with|some .string=>true|_=>false)&&(ag x b&&(cL A q&&cL z r))|_=>false)
 | .fad d j x=>(m.dst==some d)&&(match m.op with| .fieldAddr t b f=>(match P.underlying t with|some (.struct fs)=>(match fs[f]? with|some u=>(u.offset==j)&&qF P u.type|none=>false)|_=>false)&&ag x b|_=>false)
 | .ext d i x=>(m.dst==some d)&&(match m.op with| .extract b h=>i==h&&ag x b|_=>false)
 | .nck d x=>(m.dst==d)&&(match m.op with| .nilCheck b=>ag x b|_=>false)
 | .ld d n agg false x=>(m.dst==some d)&&(match m.op with| .load t b=>(be P t==some n)&&((cn P t==some agg)&&((agg||n==1)&&ag x b))|_=>false)
 | .beq d p x y=>(m.dst==some d)&&(match m.op with| .binOp o' t b e _=>decide (o'=if p then .neq else .eql)&&((match P.underlying t with|some .bool=>true|_=>false)&&(ag x b&&ag y e))|_=>false)
 | .snil d x=>(m.dst==some d)&&(match m.op with| .binOp o' t b e _=>decide (o'=.eql)&&((match P.underlying t with|some (.slice _)=>true|_=>false)&&(ag x b&&(match e with| .const (.slice none 0 0)=>true|_=>false)))|_=>false)
 | .mx d v x y=>(m.dst==some d)&&(match kh m.op with|some (.min,[b,e],_)=>v&&(ag x b&&ag y e)|some (.max,[b,e],_)=> !v&&(ag x b&&ag y e)|_=>false)
 |_=>false
section
variable{w:World}{g:Gh}{s s':St}{a:Act}{P:Program}{Γ:ao}{m:Oper}{next:Act->World->Prop}{Q:Exit->Act->World->Prop}
theorem bl(k:IntKind)(n:Int):k.min<=k.wrap n∧k.wrap n<=k.max:=by cases k<;>simp[Az,Cb,BR,Bu,Bh]<;>omega
theorem n8(k:IntKind):k.min<=0∧0<=k.max:=by cases k<;>decide
theorem qG(x y:Int)(e:0<=x):x%y<=x:=by
 by_cases d:y=0;·subst d;simp
 ·rcases Int.lt_or_gt_of_ne d with h|h
  ·rw[<-Int.emod_neg];by_cases c:x< -y;·rw[Dk e c];omega
   ·have:=C8 x (b:=-y) (by omega);omega
  ·by_cases c:x<y;·rw[Dk e c];omega
   ·have:=C8 x h;omega
theorem tu(k:IntKind)(x y:Int)(h:k.min<=x∧x<=k.max):k.min<=x.tmod y∧x.tmod y<=k.max:=by
 have f:=n8 k;rcases Int.le_total 0 x with c|c
 ·have d:=DI y c;have e:x.tmod y<=x:=by
   rw[B4 c];exact qG _ _ c
  omega
 ·have b:0<=-x:=by omega
  have d:=DI y b;have e:(-x).tmod y<=-x:=by rw[B4 b];exact qG _ _ b
  rw[Int.neg_tmod] at d e;omega
theorem uV(k:IntKind)(x:Int)(n:Nat)(h:k.min<=x∧x<=k.max):k.min<=x.fdiv (2^n)∧x.fdiv (2^n)<=k.max:=by
 have e:=n8 k;have hp:(0:Int)<2^n:=Int.pow_pos (by omega);have hp':(1:Int)<=2^n:=hp;rw[D6 _ (by omega)];generalize (2:Int)^n=p at*
 rcases Int.le_total 0 x with b|b;·have c:=Int.ediv_nonneg b (Int.le_of_lt hp);have d:=Int.ediv_le_self p b;omega
 ·have d:x / p<=0:=by
   have:=Int.ediv_le_ediv hp b;simpa using this
  have c:x<=x / p:=by refine(Int.le_ediv_iff_mul_le hp).2 ?_;have:=DP b hp';simpa using this
  omega
theorem y6{d:Nat}{c x y:ac}(e:aY P (.pick d c x y) m=true)(i:step Γ (.pick d c x y) s=some (true,s'))(h:SR g s w a)(j:ax g s w a s' next):m.wp P a w next Q:=by
 obtain⟨dst,F,H,k,B,G⟩:=m;simp only[aY,Aa,beq_iff_eq] at e;obtain⟨rfl,e⟩:=e;split at e
 ·rename_i z o p;simp only[Aa] at e;obtain⟨⟨r,C,v⟩,I,E⟩:=e;have f:=af r h.er;have q:=(af C h.er).disown;have u:=(af v h.er).disown;simp only[step] at i;split at i
  ·rename_i t A;obtain rfl:_=s':=by simpa using i
   rw[afT] at j;rw[A] at f;cases e1:a.eval z with
   |bool b=>
    rw[e1] at f;cases f;refine ae h rfl (cv:=if t then a.eval o else a.eval p) (by simp[execOp,e1,asBool]) ?_ (by cases t<;>exact dx _) j;cases t;·exact u
    ·exact q
   |_=>rw[e1] at f;cases f
  ·simp at i
 ·simp at e
theorem qg(c:UInt8):IntKind.u8.min<=(c.toNat:Int)∧(c.toNat:Int)<=IntKind.u8.max:=by have:=c.toNat_lt;simp[Cb,BR,Bh,Bu];omega
theorem da(s:ByteArray):s.data.toList.length=s.size:=by rw[AY];rfl
theorem ahc{d:Nat}{x:ac}(c:aY P (.lens d x) m=true)(e:step Γ (.lens d x) s=some (true,s'))(h:SR g s w a)(v:ax g s w a s' next):m.wp P a w next Q:=by
 obtain⟨dst,A,E,o,y,C⟩:=m;simp only[aY,Aa,beq_iff_eq] at c;obtain⟨rfl,c⟩:=c;split at c
 ·rename_i p t i;obtain rfl:=dV i;simp only[Aa] at c;obtain⟨k,r⟩:=c;have f:=af r h.er;simp only[step] at e;split at e
  ·rename_i l q;obtain rfl:_=s':=by simpa using e
   rw[q] at f;split at k
   ·rename_i u;generalize j:a.eval p=cv at f;cases f with
    |str _ b z B=>subst z;refine ae h rfl (cv:=.int .i64 b.size) (by simp[execOp,resolve,j,invoke,builtin,B0,run_underlying u,goInt]) ?_ rfl v;rw[da];exact .int _ _ (by simp[Cb,BR,Bh,Bu,maxI] at *;omega)
   ·simp at k
  ·simp at e
 ·simp at c
theorem ahd{d:Nat}{x:ac}(f:aY P (.lenl d x) m=true)(i:step Γ (.lenl d x) s=some (true,s'))(h:SR g s w a)(r:ax g s w a s' next):m.wp P a w next Q:=by
 obtain⟨dst,G,J,y,C,I⟩:=m;simp only[aY,Aa,beq_iff_eq] at f;obtain⟨rfl,f⟩:=f;split at f
 ·rename_i z t p;obtain rfl:=dV p;simp only[Aa] at f;obtain⟨v,B⟩:=f;have j:=af B h.er;simp only[step] at i;split at i
  ·rename_i k o l A;obtain rfl:_=s':=by simpa using i
   rw[A] at j;split at v
   ·rename_i e q;generalize c:a.eval z=cv at j;cases j with
    |sle=>exact ae h rfl (cv:=.int .i64 0) (by simp[execOp,resolve,c,invoke,builtin,B0,run_underlying q,goInt]) (.int _ _ (by decide)) rfl r
    |sln=>exact ae h rfl (cv:=.int .i64 0) (by simp[execOp,resolve,c,invoke,builtin,B0,run_underlying q,goInt]) (.int _ _ (by decide)) rfl r
    |sl _ _ _ b E len cap F u H=>subst F;refine ae h rfl (cv:=.int .i64 l.length) (by simp[execOp,resolve,c,invoke,builtin,B0,run_underlying q,goInt]) ?_ rfl r;exact .int _ _ (by simp[Cb,BR,Bh,Bu,maxI] at *;omega)
   ·simp at v
  ·simp at i
 ·simp at f
theorem abq{d:Nat}{x i:ac}(c:aY P (.idx d x i) m=true)(e:step Γ (.idx d x i) s=some (true,s'))(h:SR g s w a)(H:ax g s w a s' next):m.wp P a w next Q:=by
 obtain⟨dst,M,S,v,I,O⟩:=m;simp only[aY,Aa,beq_iff_eq] at c;obtain⟨rfl,c⟩:=c;split at c
 ·rename_i t y z;simp only[Aa] at c;obtain⟨u,L,F⟩:=c;have p:=af L h.er;have q:=af F h.er;simp only[step] at e;split at e
  ·rename_i l k n E A;simp only[Ab,Ae,Aa,decide_eq_true_eq] at e;obtain⟨⟨C,B⟩,rfl⟩:=e;rw[E] at p;rw[A] at q;split at u
   ·rename_i G;generalize r:a.eval y=cv at p;generalize o:a.eval z=R at q;cases q;cases p with
    |str _ b J N=>
     subst J;have j:n.toNat<b.size:=by rw[da] at B;omega
     have f:b[n.toNat]? =some (b.data.toList.getD n.toNat 0):=by
      rw[getElem?_pos b n.toNat j];have:n.toNat<b.data.toList.length:=by rw[da];exact j
      simp only[As,Ac this,Bw];rfl
     refine ae h rfl (cv:=.int .u8 (b.data.toList.getD n.toNat 0).toNat) ?_ ?_ rfl H;·simp[execOp,r,o,Instr.index,asIntOf,run_underlying G,C,f]
     ·exact .int _ _ (qg _)
   ·simp at u
  ·simp at e
 ·simp at c
theorem ad0{d:Nat}{o:UnOp}{x:ac}(c:aY P (.un d o x) m=true)(p:step Γ (.un d o x) s=some (true,s'))(h:SR g s w a)(q:ax g s w a s' next):m.wp P a w next Q:=by
 obtain⟨dst,C,B,u,r,A⟩:=m;simp only[aY,Aa,beq_iff_eq] at c;obtain⟨rfl,c⟩:=c;split at c
 ·rename_i o' t z;simp only[Aa,decide_eq_true_eq] at c;obtain⟨rfl,y⟩:=c;have e:=af y h.er;simp only[step,Ah] at p;obtain⟨v,i,p⟩:=p;obtain rfl:_=s':=by simpa using p
  generalize f:a.eval z=cv at e;unfold unV at i;split at i;·rename_i b j;cases Ai i;rw[j] at e;cases e;exact ae h rfl (cv:=.bool (!b)) (by simp[execOp,f,Op.unary]) (.bool _) rfl q
  ·rename_i k n j;cases Ai i;rw[j] at e;cases e;exact ae h rfl (cv:=.int k (k.wrap (0-n))) (by simp[execOp,f,Op.unary,Cs]) (.int _ _ (bl _ _)) rfl q
  ·rename_i k n j;cases Ai i;rw[j] at e;cases e;exact ae h rfl (cv:=.int k (cm .xor k (if k.signed then -1 else k.max) n)) (by simp[execOp,f,Op.unary,Ce,cm]) (.int _ _ (bl _ _)) rfl q
  ·simp at i
 ·simp at c
theorem tv{o:BinOp}{k:IntKind}{x y:Int}{v:V}(b:nZ o k x y=some (true,v))(d:k.min<=x∧x<=k.max):
  ∃cv,(∀w:World,(if o=.add∨o=.sub∨o=.mul then Cs o k x y else if o=.quo∨o=.rem then Op.intDiv o k x y else if o=.and∨o=.or∨o=.xor∨o=.andNot then Ce o k x y else B9 o x y).run P w=.ok cv w)
   ∧(∀I ρ N w,VRel I ρ N w v cv)∧v.bare=true:=by
 unfold nZ at b;split at b<;>(try simp only[Ab,Ae,true_and,AK,beq_eq_false_iff_ne] at b)<;>(try (obtain⟨c,b⟩:=b))<;>(try subst b)
 ·exact⟨.int k (k.wrap (x+y)),λw=>by simp[Cs],λ_ _ _ _=>.int _ _ (bl _ _),rfl⟩
 ·exact⟨.int k (k.wrap (x-y)),λw=>by simp[Cs],λ_ _ _ _=>.int _ _ (bl _ _),rfl⟩
 ·exact⟨.int k (k.wrap (x*y)),λw=>by simp[Cs],λ_ _ _ _=>.int _ _ (bl _ _),rfl⟩
 ·exact⟨.int k (k.wrap (x.tdiv y)),λw=>by simp[Op.intDiv,c],λ_ _ _ _=>.int _ _ (bl _ _),rfl⟩
 ·exact⟨.int k (x.tmod y),λw=>by simp[Op.intDiv,c],λ_ _ _ _=>.int _ _ (tu _ _ _ d),rfl⟩
 ·exact⟨.int k (cm .and k x y),λw=>by simp[Ce,cm],λ_ _ _ _=>.int _ _ (bl _ _),rfl⟩
 ·exact⟨.int k (cm .or k x y),λw=>by simp[Ce,cm],λ_ _ _ _=>.int _ _ (bl _ _),rfl⟩
 ·exact⟨.int k (cm .xor k x y),λw=>by simp[Ce,cm],λ_ _ _ _=>.int _ _ (bl _ _),rfl⟩
 ·exact⟨.int k (cm .andNot k x y),λw=>by simp[Ce,cm],λ_ _ _ _=>.int _ _ (bl _ _),rfl⟩
 ·exact⟨.bool (x==y),λw=>by simp[B9],λ_ _ _ _=>.bool _,rfl⟩
 ·exact⟨.bool (!(x==y)),λw=>by simp[B9,bne],λ_ _ _ _=>.bool _,rfl⟩
 ·exact⟨.bool (decide (x<y)),λw=>by simp[B9],λ_ _ _ _=>.bool _,rfl⟩
 ·exact⟨.bool (decide (x<=y)),λw=>by simp[B9],λ_ _ _ _=>.bool _,rfl⟩
 ·exact⟨.bool (decide (y<x)),λw=>by simp[B9],λ_ _ _ _=>.bool _,rfl⟩
 ·exact⟨.bool (decide (y<=x)),λw=>by simp[B9],λ_ _ _ _=>.bool _,rfl⟩
theorem dy(s:ByteArray):s.toList=s.data.toList:=ByteArray.toList_eq s
theorem tw(x y:List UInt8):(x==y)=decide (x=y):=by rw[A2];simp
theorem tz{o:BinOp}{x y:ByteArray}{v:V}(b:pz o x.data.toList y.data.toList=some (true,v)):
  ∃cv,(∀w:World,(BH o x y).run P w=.ok cv w)∧(∀I ρ N w,VRel I ρ N w v cv)∧v.bare=true:=by
 unfold pz at b;split at b<;>(try simp only[Ab,Ae,true_and,decide_eq_true_eq,da] at b)
 ·obtain⟨c,rfl⟩:=b;refine⟨.string (x++y),λw=>?_,λ_ _ _ _=>.str _ _ (by simp) (by simpa [ByteArray.size_append] using c),rfl⟩;have:¬(9223372036854775807<(x.size:Int)+(y.size:Int)):=by unfold maxI at c;omega
  simp[BH,BR,Bh,Bu,this]
 ·subst b;exact⟨.bool (decide (x.data.toList=y.data.toList)),λw=>by simp only[BH,dy,tw];rfl,λ_ _ _ _=>.bool _,rfl⟩
 ·subst b;exact⟨.bool (!decide (x.data.toList=y.data.toList)),λw=>by simp only[BH,dy,tw];rfl,λ_ _ _ _=>.bool _,rfl⟩
 ·subst b;exact⟨.bool (BF x.data.toList y.data.toList),λw=>by simp[BH,dy],λ_ _ _ _=>.bool _,rfl⟩
 ·subst b;exact⟨.bool (BF x.data.toList y.data.toList||decide (x.data.toList=y.data.toList)),λw=>by simp only[BH,dy,tw];rfl,λ_ _ _ _=>.bool _,rfl⟩
 ·subst b;exact⟨.bool (!(BF x.data.toList y.data.toList||decide (x.data.toList=y.data.toList))),λw=>by simp only[BH,dy,tw];rfl,λ_ _ _ _=>.bool _,rfl⟩
 ·subst b;exact⟨.bool (!Op.bytesLess x.data.toList y.data.toList),λw=>by simp[BH,dy],λ_ _ _ _=>.bool _,rfl⟩
 ·simp at b
end
section
variable{w:World}{g:Gh}{s s':St}{a:Act}{P:Program}{Γ:ao}{m:Oper}{next:Act->World->Prop}{Q:Exit->Act->World->Prop}
theorem pC{k k':IntKind}{x y:Int}(d:0<=y)(c:k.min<=x∧x<=k.max):
  (∀w:World,(Dr .shl k x k' y).run P w=.ok (.int k (oS k x y)) w)∧(∀w:World,(Dr .shr k x k' y).run P w=.ok (.int k (oT k x y)) w)
   ∧(∀I ρ N w,VRel I ρ N w (.int k (oS k x y)) (.int k (oS k x y)))∧(∀I ρ N w,VRel I ρ N w (.int k (oT k x y)) (.int k (oT k x y))):=by
 have b:¬y<0:=by omega
 exact⟨λw=>by simp[Dr,b,oS],λw=>by simp[Dr,b,oT],λ_ _ _ _=>.int _ _ (bl _ _),λ_ _ _ _=>.int _ _ (uV _ _ _ c)⟩
theorem abr{d:Nat}{o:BinOp}{x y:ac}(f:aY P (.bin d o x y) m=true)(j:step Γ (.bin d o x y) s=some (true,s'))(h:SR g s w a)(B:ax g s w a s' next):m.wp P a w next Q:=by
 obtain⟨dst,op,ty,S,av,gd⟩:=m;simp only[aY,Aa,beq_iff_eq] at f;obtain⟨rfl,f⟩:=f;split at f
 ·rename_i o' t W Y t';simp only[Aa,decide_eq_true_eq] at f;obtain⟨rfl,h1,h2⟩:=f;have r:=af h1 h.er;have u:=af h2 h.er;simp only[step,Ah] at j;obtain⟨⟨c,v⟩,b,j⟩:=j;simp only[Ae] at j;obtain⟨rfl,rfl⟩:=j;generalize i:a.eval W=cx at r;generalize z:a.eval Y=cy at u;unfold pV at b;split at b
  ·rename_i k p k' q G I;rw[G] at r;rw[I] at u;cases r with
   |int _ _ hp=>
   cases u with
   |int _ _ hq=>
   split at b;·simp only[Ab,Ae,decide_eq_true_eq] at b;obtain⟨e,rfl⟩:=b;obtain⟨e1,J,M,L⟩:=pC (P:=P) (k':=k') e hp;refine ae h rfl (cv:=.int k (oS k p q)) ?_ (M _ _ _ _) rfl B;simp[execOp,i,z,eqGuard,binOp,e1]
   ·simp only[Ab,Ae,decide_eq_true_eq] at b;obtain⟨e,rfl⟩:=b;obtain⟨e1,J,M,L⟩:=pC (P:=P) (k':=k') e hp;refine ae h rfl (cv:=.int k (oT k p q)) ?_ (L _ _ _ _) rfl B;simp[execOp,i,z,eqGuard,binOp,J]
   ·rename_i R X;split at b;·rename_i O;subst O;obtain⟨cv,A,C,E⟩:=tv (P:=P) b hp;have A:=A w;refine ae h rfl (cv:=cv) ?_ (C _ _ _ _) E B;cases o<;>simp_all [execOp,eqGuard,binOp]
    ·simp at b
  ·rename_i p q G I;rw[G] at r;rw[I] at u;cases r with
   |str _ sx H N=>
   cases u with
   |str _ sy F Z=>
   subst H F;obtain⟨cv,A,C,E⟩:=tz (P:=P) b;have A:=A w;refine ae h rfl (cv:=cv) ?_ (C _ _ _ _) E B;cases o<;>simp_all [execOp,eqGuard,binOp]
  ·simp at b
 ·simp at f
theorem ip{e:TypeId}{k:EK}(h:pB P e k=true):∃i z,P.info? e=some i∧i.size=k.sz∧i.bytes=k.bytes∧i.zero=some z∧cn P e=some k.isAgg∧
  cK (enc k (am k)) z.cells.toList=true∧z.cells.size=k.sz:=by
 unfold pB at h;rw[Aa] at h;obtain⟨-,h⟩:=h;split at h
 ·rename_i i f;simp only[Aa,beq_iff_eq] at h;obtain⟨c,j,d,b⟩:=h;split at b;·rename_i z o;simp only[Aa,beq_iff_eq] at b;exact⟨i,z,f,c,j,o,d,b.1,b.2⟩
  ·simp at b
 ·simp at h
theorem mQ{e:TypeId}{k:EK}(h:pB P e k=true)(b:k=.u8):e=mj P:=by subst b;unfold pB at h;rw[Aa] at h;simpa using h.1
theorem et{t:TypeId}{k:EK}(h:jG P t k=true):∃e,P.underlying t=some (.slice e)∧pB P e k=true:=by
 unfold jG at h;split at h;·rename_i e b;exact⟨e,b,h⟩
 ·simp at h
theorem db{t:TypeId}{n:Nat}(h:be P t=some n)(w:World):(sizeOf t).run P w=.ok n w:=by unfold be at h;obtain⟨i,b,rfl⟩:=Ah.1 h;simp[sizeOf,typeInfo,b]
theorem gW{t:TypeId}{b:Bool}(h:cn P t=some b)(w:World):(isAgg t).run P w=.ok b w:=by
 unfold cn at h;split at h;·rename_i f e;obtain rfl:=Ai h;simp[isAgg,run_underlying e]
 ·rename_i f c e;obtain rfl:=Ai h;simp[isAgg,run_underlying e]
 ·rename_i d i j e;obtain rfl:=Ai h;cases d<;>simp_all [isAgg,run_underlying e]
 ·simp at h
theorem abt{d:Nat}{k:EK}{x i:ac}(r:aY P (.ixa d k x i) m=true)(q:step Γ (.ixa d k x i) s=some (true,s'))(h:SR g s w a)(hn:ax g s w a s' next):m.wp P a w next Q:=by
 obtain⟨dst,op,ty,N,a3,gd⟩:=m;simp only[aY,Aa,beq_iff_eq] at r;obtain⟨rfl,r⟩:=r;split at r
 ·rename_i t O R;simp only[Aa] at r;obtain⟨C,h2,h3⟩:=r;have y:=af h2 h.er;have A:=af h3 h.er;simp only[step] at q;split at q
  ·rename_i k' o l ki n hx Y;split at q
   ·rename_i M;subst M;simp only[Ab,Ae,Aa,decide_eq_true_eq] at q;obtain⟨⟨Z,B⟩,rfl⟩:=q;rw[hx] at y;rw[Y] at A;obtain⟨e,u1,C⟩:=et C;obtain⟨inf,z,J,L,i3,i4,i5,_⟩:=ip C;generalize E:a.eval O=cv at y;generalize v:a.eval R=ci at A;cases A;cases y with
    |sln=>simp at B;omega
    |sle=>simp at B;omega
    |sl _ _ _ b F len cap hl I hm a1 f X S W=>
     subst hl;have H:n.toNat<l.length:=by omega
     have p:l[n.toNat]? =some l[n.toNat]:=Ac H;have hd:l.getD n.toNat (am k')=l[n.toNat]:=by simp[As,p]
     have G:∀w':World,(sizeOf e).run P w'=.ok k'.sz w':=λw'=>by simp[sizeOf,typeInfo,J,L]
     refine ae h rfl (cv:=.pointer (some ⟨b,F+n.toNat*k'.sz,none⟩)) ?_ ?_ rfl hn;·simp[execOp,E,v,D4,asIntOf,run_underlying u1,Z,B,G,Bv]
     ·rw[hd];exact .ea _ _ _ (f n.toNat) (qD _ _) (λj u=>X _ _ _ p u) (λj u=>S _ _ _ p u) (λj c u=>W _ _ _ _ p u)
   ·simp at q
  ·simp at q
 ·simp at r
theorem eu{v:Value}{k:IntKind}{n:Int}{y:Nat}{b:BoundsCode}(d:0<=n)(c:n<=y)(w:World):(Du (.int k n) y b).run P w=.ok n.toNat w:=by simp[Du,asIntOf,d,c]
theorem oU{len cap:Nat}{isS:Bool}{z t:Option ac}{d c:Option Operand}{p q:Nat}(E:len<=cap)(j:cL z d=true)(f:cL t c=true)
  (b:j9 len (bF s z) (bF s t)=some (true,p,q)) (h:SR g s w a):
  (BL isS len cap (d.map a.eval) (c.map a.eval) none).run P w=.ok (p,q,cap) w∧p<=q∧q<=len:=by
 have e:∀(x:ac)(y:Operand)(k:IntKind)(n:Int),ag x y=true->x.ev s=.int k n->a.eval y=.int k n:=by intro x y k n B i;have r:=af B h.er;rw[i] at r;generalize H:a.eval y=cv at r;cases r;rfl
 cases z with
 |none=>
  cases d with
  |some _=>simp[cL] at j
  |none=>
  cases t with
  |none=>
   cases c with
   |some _=>simp[cL] at f
   |none=>
   simp only[bF,j9,Ab,Ae,true_and] at b;obtain⟨rfl,rfl⟩:=b;refine⟨by simp[BL],by omega,by omega⟩
  |some y=>
   cases c with
   |none=>simp[cL] at f
   |some C=>
   simp only[cL] at f;simp only[bF] at b;cases o:y.ev s<;>rw[o] at b<;>simp[j9] at b;rename_i k n;obtain⟨⟨e1,u⟩,rfl,rfl⟩:=b;have:=e _ _ _ _ f o;refine⟨?_,by omega,by omega⟩;simp[BL,this,eu (P:=P) (v:=.int k n) e1 (show n<=(cap:Int) by omega)]
 |some x=>
  cases d with
  |none=>simp[cL] at j
  |some J=>
  simp only[cL] at j;cases t with
  |none=>
   cases c with
   |some _=>simp[cL] at f
   |none=>
   simp only[bF] at b;cases i:x.ev s<;>rw[i] at b<;>simp[j9] at b;rename_i k n;obtain⟨⟨e1,u⟩,rfl,rfl⟩:=b;have:=e _ _ _ _ j i;refine⟨?_,by omega,by omega⟩;simp[BL,this,eu (P:=P) (v:=.int k n) e1 u]
  |some y=>
   cases c with
   |none=>simp[cL] at f
   |some C=>
   simp only[cL] at f;simp only[bF] at b;cases i:x.ev s<;>rw[i] at b<;>cases o:y.ev s<;>rw[o] at b<;>simp[j9] at b;rename_i k n k2 A;obtain⟨⟨⟨e1,u⟩,G,L⟩,rfl,rfl⟩:=b;have I:=e _ _ _ _ j i;have F:=e _ _ _ _ f o;refine⟨?_,by omega,by omega⟩;simp[BL,I,F,eu (P:=P) (v:=.int k2 A) e1 (show A<=(cap:Int) by omega),eu (P:=P) (v:=.int k n) G (show n<=(A.toNat:Int) by omega)]
theorem y7{d:Nat}{x:ac}{k r:Option ac}(f:aY P (.subs d x k r) m=true)(e:step Γ (.subs d x k r) s=some (true,s'))(h:SR g s w a)(F:ax g s w a s' next):m.wp P a w next Q:=by
 obtain⟨dst,M,S,v,G,R⟩:=m;simp only[aY,Aa,beq_iff_eq] at f;obtain⟨rfl,f⟩:=f;split at f
 ·rename_i t y E C;simp only[Aa] at f;obtain⟨u,I,A,J⟩:=f;have i:=af I h.er;simp only[step] at e;split at e
  ·rename_i l z;simp only[Ah] at e;obtain⟨⟨c,p,q⟩,o,e⟩:=e;simp only[Ae] at e;obtain⟨rfl,rfl⟩:=e;rw[z] at i;split at u
   ·rename_i B;generalize j:a.eval y=cv at i;cases i with
    |str _ b H N=>
     subst H;rw[da] at o;obtain⟨e1,L,O⟩:=oU (P:=P) (isS:=false) (Ao _) A J o h;refine ae h rfl (cv:=.string (b.extract p q)) ?_ (.str _ _ ?_ ?_) rfl F;·simp[execOp,j,C0,Dm,run_underlying B,e1]
     ·simp[C2,List.drop_take]
     ·simp[ByteArray.size_extract];omega
   ·simp at u
  ·simp at e
 ·simp at f
theorem abu{d e:Nat}{x:ac}(q:aY P (.fad d e x) m=true)(y:step Γ (.fad d e x) s=some (true,s'))(h:SR g s w a)(H:ax g s w a s' next):m.wp P a w next Q:=by
 obtain⟨dst,Y,ty,I,S,Z⟩:=m;simp only[aY,Aa,beq_iff_eq] at q;obtain⟨rfl,q⟩:=q;split at q
 ·rename_i t G M;simp only[Aa] at q;obtain⟨k,X⟩:=q;have u:=af X h.er;split at k
  ·rename_i fs R;split at k
   ·rename_i W B;simp only[Aa,beq_iff_eq] at k;obtain⟨J,k⟩:=k;have r:∀w':World,∃n,n≠0∧(sizeOf W.type).run P w'=.ok n w':=by
     intro w';unfold qF be at k;split at k;·rename_i n C;exact⟨n,by simpa using k,db (by simpa [be] using C) w'⟩
     ·simp at k
    obtain⟨n,z,r⟩:=r w;have i:∀b o,(Instr.fieldAt t (.pointer (some ⟨b,o,none⟩)) M).run P w=.ok (.pointer (some ⟨b,o+e,none⟩)) w:=by intro b o;simp[Instr.fieldAt,run_underlying R,B,BE,fieldPlace,r,z,J,Bv]
    simp only[step] at y;split at y
    ·rename_i cs A;obtain rfl:_=s':=by simpa using y
     rw[A] at u;generalize p:a.eval G=cv at u;cases u with
     |ea _ b o f e1 O L N=>
      refine ae h rfl (cv:=.pointer (some ⟨b,o+e,none⟩)) (by simp[execOp,p,i]) ?_ rfl H;refine .ea _ _ _ (λj=>f (e+j)) (λc F=>e1 c (Bd F)) ?_ ?_ ?_
      ·intro j v;simp only[Cp] at v;have:=O (e+j) (by omega)
       rwa [Ed]
      ·intro j v;simp only[Cp] at v;have:=L (e+j) (by omega)
       rwa [Ed]
      ·intro j c v;rw[A9] at v;exact N _ _ v
    ·rename_i id o A;obtain rfl:_=s':=by simpa using y
     rw[A] at u;generalize p:a.eval G=cv at u;cases u with
     |ptr _ _ E=>exact ae h rfl (cv:=.pointer (some ⟨g.ρ id,o+e,none⟩)) (by simp[execOp,p,i]) (.ptr _ _ E) rfl H
    ·simp at y
   ·simp at k
  ·simp at k
 ·simp at q
theorem fT{I:Nat->Nat->Prop}{ρ:Nat->Nat}{N:Nat}{agg:Bool}{cs:List V}{vs:List Value}(o:∀c∈cs,c.one=true)(k:cs.length=vs.length)(f:agg=true∨cs.length=1)
  (j:∀(i:Nat) c cv,cs[i]? =some c->vs[i]? =some cv->VRel I ρ N w c cv):VRel I ρ N w (a6 agg cs) (if agg then .agg vs.toArray else vs.headD undef):=by
 cases agg with
 |true=>
  simp only[a6,if_true];refine .agg _ _ (by simpa using k) ?_ ?_ ?_;·intro c b;obtain⟨e,d,rfl⟩:=Av.1 b;rw[ke];exact o e d
  ·intro i c cv b _;rw[Au,Ah] at b;obtain⟨e,_,rfl⟩:=b;exact tq e cv
  ·intro i c cv b h;rw[Au,Ah] at b;obtain⟨e,d,rfl⟩:=b;exact(j i _ _ d (by simpa using h)).disown
 |false=>
  have f:cs.length=1:=by simpa using f
  match cs,vs,k,f with
  | [c],[v],_,_=>exact j 0 c v rfl rfl
theorem abv{d i:Nat}{x:ac}(b:aY P (.ext d i x) m=true)(c:step Γ (.ext d i x) s=some (true,s'))(h:SR g s w a)(y:ax g s w a s' next):m.wp P a w next Q:=by
 obtain⟨dst,B,E,r,z,C⟩:=m;simp only[aY,Aa,beq_iff_eq] at b;obtain⟨rfl,b⟩:=b;split at b
 ·rename_i t A;simp only[Aa,beq_iff_eq] at b;obtain⟨rfl,j⟩:=b;have k:=af j h.er;simp only[step] at c;split at c
  ·rename_i vs v;split at c
   ·rename_i p;obtain rfl:_=s':=by simpa using c
    rw[v] at k;generalize o:a.eval t=cv at k;cases k with
    |tup _ cvs F u=>
     have q:vs[i]? =some vs[i]:=Ac p;have f:i<cvs.size:=by omega
     have j:cvs[i]? =some cvs[i]:=Ag f;have e:vs[i]?.getD V.undef=vs[i]:=by simp[q]
     refine ae h rfl (cv:=cvs[i]) (by simp[execOp,o,Instr.extract,j]) ?_ (dx _) y;rw[e];exact(u _ _ _ q j).disown
   ·simp at c
  ·simp at c
 ·simp at b
theorem abw{d:Option Nat}{x:ac}(f:aY P (.nck d x) m=true)(j:step Γ (.nck d x) s=some (true,s'))(h:SR g s w a)(u:ax g s w a s' next):m.wp P a w next Q:=by
 obtain⟨dst,C,z,i,k,t⟩:=m;simp only[aY,Aa,beq_iff_eq] at f;obtain⟨rfl,f⟩:=f;split at f
 ·rename_i p;have b:=af f h.er;have key:∀v cv,VRel g.I g.ρ s.hp.length w v cv->v.bare=true->(execOp a.eval ⟨dst,.nilCheck p,z,i,k,t⟩).run P w=.ok (.value cv) w->ax g s w a (s.setO dst v) next->(⟨dst,.nilCheck p,z,i,k,t⟩:Oper).wp P a w next Q:=by
   intro v cv A B y r;cases dst with
   |some d=>exact ae h rfl y A B r
   |none=>unfold Ch C6;rw[y];exact r _ _ g h (FR.refl _ _ _) rfl
  simp only[step] at j;split at j
  ·rename_i id o q;obtain rfl:_=s':=by simpa using j
   rw[q] at b;generalize e:a.eval p=cv at b;have c:=b;cases b;exact key _ _ c rfl (by simp[execOp,e]) u
  ·rename_i cs q;obtain rfl:_=s':=by simpa using j
   rw[q] at b;generalize e:a.eval p=cv at b;have c:=b;cases b;exact key _ _ c rfl (by simp[execOp,e]) u
  ·simp at j
 ·simp at f
theorem ge{t:TypeId}{n:Nat}{agg:Bool}{b o:Nat}{vs:List Value}(d:be P t=some n)(c:cn P t=some agg)(e:agg=true∨n=1)(h:vs.length=n)
  (f:∀(j:Nat) v,vs[j]? =some v->w.cell? ⟨b,o+j,none⟩=some v):
  (Ct t (.pointer (some ⟨b,o,none⟩))).run P w=.ok (if agg then .agg vs.toArray else vs.headD undef) w:=by
 cases agg with
 |true=>have:=run_loadCells_list (P:=P) w ⟨b,o,none⟩ vs (λj v i=>by rw[Bv];exact f j v i);rw[h] at this;simp[Ct,BE,loadVar,gW c,db d,this]
 |false=>
  have e:n=1:=by simpa using e
  subst e;match vs,h with
  | [v],_=>have:=f 0 v rfl;simp only[Cv] at this;simp[Ct,BE,loadVar,gW c,this]
theorem wX{id:Nat}{cs:List V}(b:s.obj id=some cs):s.hp[id]? =some (some cs)∧dU cs=false∧kg cs=false:=by
 unfold St.obj at b;simp only[As] at b;cases i:s.hp[id]? with
 |none=>rw[i] at b;simp at b
 |some x=>
  rw[i] at b;simp only[Bw] at b;split at b;·cases b
  ·cases b
  ·cases b
  ·cases b
  ·rename_i h f d e;subst b;refine⟨rfl,?_,?_⟩
   rotate_left
   ·cases j:kg cs with
    |false=>rfl
    |true=>obtain⟨k,es,rfl⟩:=tt j;exact(d _ _ rfl).elim
   cases c:dU cs with
   |false=>rfl
   |true=>
    unfold dU at c;split at c;·exact(h _ rfl).elim
    ·exact(f _ _ rfl).elim
    ·exact(e _ rfl).elim
    ·cases c
theorem fI{id:Nat}{cs:List V}(b:s.obj id=some cs):s.hp[id]? =some (some cs)∧dU cs=false:=⟨(wX b).1,(wX b).2.1⟩
theorem nN{id:Nat}{cs:List V}(h:HR g s.hp w)(i:s.obj id=some cs):∃b e,w.heap[g.ρ id]? =some (.cells b e (0,0))∧uU g s.hp.length w id cs b e:=by obtain⟨c,k,j⟩:=wX i;obtain⟨b,e,p,f,o⟩:=(h.obj id cs c).row j;obtain⟨rfl,d⟩:=o.low k;exact⟨b,e,f,d⟩
theorem cell_of_heap{b:Nat}{c:Array Value}{e:TypeId}{d:Nat×Nat}(h:w.heap[b]? =some (.cells c e d))(j:Nat):w.cell? ⟨b,j,none⟩=c[j]?:=by simp[Cc,h]
theorem xI{d n:Nat}{agg:Bool}{x:ac}(p:aY P (.ld d n agg false x) m=true)(r:step Γ (.ld d n agg false x) s=some (true,s'))(h:SR g s w a)(O:ax g s w a s' next):m.wp P a w next Q:=by
 obtain⟨dst,op,ty,W,a1,gd⟩:=m;simp only[aY,Aa,beq_iff_eq] at p;obtain⟨rfl,p⟩:=p;split at p
 ·rename_i t L;simp only[Aa,beq_iff_eq,AQ] at p;obtain⟨M,S,u,h4⟩:=p;have C:=af h4 h.er;simp only[step] at r;split at r
  ·rename_i cs G;split at r
   ·rename_i E;obtain rfl:_=s':=by simpa using r
    rw[G] at C;generalize k:a.eval L=cv at C;cases C with
    |ea _ b o f e1 hI X Y=>
     have q:=fT (agg:=agg) (cs:=cs.take n) (vs:=(AE n).map f) (w:=w) (I:=g.I) (ρ:=g.ρ) (N:=s.hp.length)
      (λc A=>e1 c (A7 A)) (by simp;omega) (by
       rcases u with u|u;·exact .inl u
       ·right;simp;omega)
      (λi c cv p k=>by
       simp only[AW] at p;split at p;·rename_i F;simp[F] at k;subst k;exact Y _ _ p
       ·simp at p)
     refine ae h rfl (cv:=if agg then .agg ((AE n).map f).toArray else ((AE n).map f).headD undef) ?_ q.disown (dx _) O;have:=ge (P:=P) (w:=w) (b:=b) (o:=o) (vs:=(AE n).map f) M S u (by simp) (λj v z=>by rw[Au,Ah] at z;obtain⟨j',H,rfl⟩:=z;obtain⟨J,rfl⟩:=Ad.1 H;simp only[Di] at J;simpa using X j (by omega));simp[execOp,k,this]
   ·simp at r
  ·rename_i id o G;split at r
   ·rename_i cs Z;split at r
    ·rename_i E;obtain rfl:_=s':=by simpa using r
     rw[G] at C;generalize k:a.eval L=cv at C;cases C with
     |ptr _ _ a0=>
      obtain⟨y,e,hb,B⟩:=nN h.hr Z;have R:=B.len
      have q:=fT (agg:=agg) (cs:=(cs.drop o).take n) (vs:=(y.toList.drop o).take n) (w:=w) (I:=g.I) (ρ:=g.ρ) (N:=s.hp.length)
       (λc A=>B.one c (Bd (A7 A))) (by simp;omega) (by
        rcases u with u|u;·exact .inl u
        ·right;simp;omega)
       (λi c cv p k=>by
        simp only[AW,A9] at p k;split at p;·rename_i F;simp only[F,if_true] at k;exact B.rel _ _ _ p (by simpa using k)
        ·simp at p)
      refine ae h rfl (cv:=if agg then .agg ((y.toList.drop o).take n).toArray else ((y.toList.drop o).take n).headD undef) ?_ q.disown (dx _) O;have:=ge (P:=P) (w:=w) (b:=g.ρ id) (o:=o) (vs:=(y.toList.drop o).take n) M S u (by simp;omega) (λj v z=>by
       rw[cell_of_heap hb];simp only[AW,A9] at z;split at z;·simpa using z
       ·simp at z)
      simp[execOp,k,this]
    ·simp at r
   ·simp at r
  ·simp at r
 ·simp at p
theorem ad1{d:Nat}{v:Bool}{x y:ac}(c:aY P (.mx d v x y) m=true)(j:step Γ (.mx d v x y) s=some (true,s'))(h:SR g s w a)(H:ax g s w a s' next):m.wp P a w next Q:=by
 obtain⟨dst,F,M,z,E,J⟩:=m;simp only[aY,Aa,beq_iff_eq] at c;obtain⟨rfl,c⟩:=c;simp only[step] at j;have fin:∀e f ts (b:Builtin),F=.call ⟨.builtin b,⟨[e,f]⟩,ts⟩->(b=if v then Builtin.min else Builtin.max)->ag x e=true->ag y f=true->(⟨some d,F,M,z,E,J⟩:Oper).wp P a w next Q:=by
  rintro e f ts b rfl G t u;have A:=af t h.er;have B:=af u h.er;split at j
  ·rename_i k p k' q L N;split at j
   ·rename_i I;subst I;obtain rfl:_=s':=by simpa using j
    rw[L] at A;rw[N] at B;generalize o:a.eval e=R at A;generalize r:a.eval f=O at B;cases A with
    |int _ _ hp=>
    cases B with
    |int _ _ S=>
    cases v with
    |true=>subst G;refine ae h rfl (cv:=.int k (if q<p then q else p)) ?_ (.int _ _ (by split<;>assumption)) rfl H;simp[execOp,resolve,o,r,invoke,builtin,Builtin.min_,Builtin.min2]
    |false=>subst G;refine ae h rfl (cv:=.int k (if p<q then q else p)) ?_ (.int _ _ (by split<;>assumption)) rfl H;simp[execOp,resolve,o,r,invoke,builtin,Builtin.max_,Builtin.max2]
   ·simp at j
  ·simp at j
 split at c;·rename_i e f ts i;simp only[Aa] at c;obtain⟨C,t,u⟩:=c;exact fin e f _ .min (dV i) (by simp[C]) t u
 ·rename_i e f ts i;simp only[Aa,AK] at c;obtain⟨C,t,u⟩:=c;exact fin e f _ .max (dV i) (by simp[C]) t u
 ·simp at c
theorem y8{t:TypeId}(b:P.underlying t=some .bool)(p q:Bool)(w:World):(Op.equal t (.bool p) (.bool q)).run P w=.ok (p==q) w:=by show (BI (9999+1) t _ _).run P w=_;rw[BI];simp[run_underlying b]
theorem ahL{d:Nat}{b:Bool}{x y:ac}(c:aY P (.beq d b x y) m=true)(e:step Γ (.beq d b x y) s=some (true,s'))(h:SR g s w a)(C:ax g s w a s' next):m.wp P a w next Q:=by
 obtain⟨dst,J,N,r,E,L⟩:=m;simp only[aY,Aa,beq_iff_eq] at c;obtain⟨rfl,c⟩:=c;split at c
 ·rename_i o' t u v M;simp only[Aa,decide_eq_true_eq] at c;obtain⟨rfl,o,A,G⟩:=c;have B:P.underlying t=some .bool:=by
   split at o;·assumption
   ·simp at o
  have i:=af A h.er;have j:=af G h.er;simp only[step] at e;generalize f:a.eval u=I at i;generalize k:a.eval v=H at j;split at e
  ·rename_i p q z F;obtain rfl:_=s':=by simpa using e
   rw[z] at i;rw[F] at j;cases i with
   |bool=>
   cases j with
   |bool=>
   refine ae h rfl (cv:=.bool (cond b (!(p==q)) (p==q))) ?_ (.bool _) rfl C;cases b<;>simp[execOp,f,k,eqGuard,binOp,y8 B]
  ·simp at e
 ·simp at c
theorem abx{t e:TypeId}(b:P.underlying t=some (.slice e))(a:Addr)(l c:Nat)(w:World):(Op.equal t (.slice (some a) l c) (.slice none 0 0)).run P w=.ok false w:=by show (BI (9999+1) t _ _).run P w=_;rw[BI];simp[run_underlying b]
theorem ahe{d:Nat}{x:ac}(i:aY P (.snil d x) m=true)(j:step Γ (.snil d x) s=some (true,s'))(h:SR g s w a)(F:ax g s w a s' next):m.wp P a w next Q:=by
 obtain⟨dst,O,Y,y,G,S⟩:=m;simp only[aY,Aa,beq_iff_eq] at i;obtain⟨rfl,i⟩:=i;split at i
 ·rename_i o' t z J W;simp only[Aa,decide_eq_true_eq] at i;obtain⟨rfl,u,C,v⟩:=i;obtain⟨e,E⟩:∃e,P.underlying t=some (.slice e):=by
   split at u;·exact⟨_,by assumption⟩
   ·simp at u
  split at v
  ·have q:=af C h.er;simp only[step] at j;generalize p:a.eval z=N at q;split at j
   ·rename_i k o xs B;simp only[Ab,Ae,decide_eq_true_eq] at j;obtain⟨c,rfl⟩:=j;rw[B] at q;cases q with
    |sln=>simp at c
    |sle=>simp at c
    |sl _ _ _ b H len cap Z A R X f M I L=>
    refine ae h rfl (cv:=.bool false) ?_ (.bool _) rfl F;have r:a.eval (.const (.slice none 0 0))=.slice none 0 0:=rfl;simp[execOp,p,r,eqGuard,binOp,abx E]
   ·simp at j
  ·simp at v
 ·simp at i
end
section
variable{w w':World}{g g':Gh}{s s':St}{a:Act}{P:Program}
theorem nu(k:EK)(x:Ty k):∀c∈enc k x,c.bare=true:=by cases k<;>simp[enc,V.bare]
def n9(p:Option Occ)(s:St):Prop:=
 match p with
 |some (.slot n)=>∀v,s.env[n]? =some v->v.bare=true
 |some (.cell id j)=>∀cs v,s.hp[id]? =some (some cs)->cs[j]? =some v->v.bare=true
 |_=>True
theorem SR.keep(h:SR g s w a)(p:Option Occ)(hp:n9 p s)(A:g'.β=g.β)(u:Up g.I g.ρ s.hp.length w g'.I g'.ρ s.hp.length w')
  (M:∀f b,g.O b=some f->p≠some f->g'.O b=some f∧w'.heap[b]? =w.heap[b]?∧∀j,g'.I b j->g.I b j)
  (G:∀(id:Nat) cs,s.hp[id]? =some (some cs)->w'.heap[g.ρ id]? =w.heap[g.ρ id]?∧g'.O (g.ρ id)=none∧∀j,g'.I (g.ρ id) j->g.I (g.ρ id) j)
  (E:∀b j,g'.I b j->(w'.cell? ⟨b,j,none⟩).isSome=true) (J:∀b o,g'.O b=some o->b<w'.heap.size):SR g' s w' a:=by
 have own:∀f v cv,OwnOK g w f v cv->(p=some f->v.bare=true)->OwnOK g' w' f v cv:=by
  intro f v cv z m;by_cases e:p=some f;·exact jm (m e) _ _ _ _
  ·exact ch z A (λb j t=>⟨u.mono b j t,u.cell b j t⟩) (λb R=>M f b R e)
 have lt:∀(id:Nat) cs,s.hp[id]? =some (some cs)->id<s.hp.length:=λid cs d=>(Ad.1 d).1
 refine⟨⟨?_,?_,?_,?_,E,J⟩,⟨h.er.size,?_,?_⟩⟩
 ·intro id cs d;refine(h.hr.obj id cs d).keep ?_ λQ e S z m=>⟨m.len,m.plain,m.typedUp A u.rho u.num rfl,m.cold,m.one,λj c cv q i=>(m.rel j c cv q i).up u,λj c cv q i=>?_,by rw[u.rho id (lt id cs d)];exact m.bn⟩
  ·rw[u.rho id (lt id cs d),(G id cs d).1]
  ·refine own _ _ _ (m.own j c cv q i) ?_;rintro rfl;cases C:dU cs with
   |false=>rw[kf C] at q;exact hp cs c d q
   |true=>
    unfold dU at C;split at C;·simp only[cellsOf,Au,Ah] at q;obtain⟨_,_,rfl⟩:=q;rfl
    ·rename_i k xs;have L:=Ap q;simp only[cellsOf,AJ] at L;obtain⟨x,_,H⟩:=L;exact nu k x c H
    ·rcases ae0 q (m.one c (Ap q)) with⟨k,x,H⟩|⟨k2,N,W,_,rfl⟩
     ·exact nu k x c H
     ·rfl
    ·cases C
 ·intro id r cs y z m F;rw[u.rho id (lt id cs z),u.rho r (lt r y m)];exact h.hr.apart id r cs y z m F
 ·intro id cs d j t;rw[u.rho id (lt id cs d)] at t;exact h.hr.notI id cs d j ((G id cs d).2.2 j t)
 ·intro id cs d;rw[u.rho id (lt id cs d)];exact(G id cs d).2.1
 ·intro n v cv B i;exact(h.er.rel n v cv B i).up u
 ·intro n v cv B i;refine own _ _ _ (h.er.own n v cv B i) ?_;rintro rfl;exact hp v B
theorem SR.bare(h:SR g s w a)(n:Nat):SR g (s.set n (disown (s.get n))) w a:=by
 refine⟨h.hr,⟨by simp[St.set,h.er.size],?_,?_⟩⟩
 ·intro m v cv b c;simp only[St.set,At] at b;by_cases e:n=m
  ·subst e;simp only[if_true] at b;split at b
   ·cases Ai b;rename_i d;have:s.env[n]? =some (s.get n):=by simp[St.get,As,Ac d]
    exact(h.er.rel n _ cv this c).disown
   ·simp at b
  ·simp only[e,if_false] at b;exact h.er.rel m v cv b c
 ·intro m v cv b c;simp only[St.set,At] at b;by_cases e:n=m
  ·subst e;simp only[if_true] at b;split at b;·cases Ai b;exact OwnOK.disown _ _ _ _ _
   ·simp at b
  ·simp only[e,if_false] at b;exact h.er.own m v cv b c
theorem SR.after(h:SR g s w a)(x:ac):SR g (x.after s) w a:=by
 cases x with
 |tk n=>exact h.bare n
 |_=>exact h
theorem kj(x:ac)(s:St):(x.after s).hp=s.hp:=by cases x<;>rfl
theorem po(n:Nat)(s:St):n9 (some (.slot n)) ((ac.tk n).after s):=by
 intro v b;simp only[ac.after,St.set,At,if_true] at b;split at b;·cases Ai b;exact dx _
 ·simp at b
def Gh.reown(g:Gh)(b:Nat)(o:Occ):Gh:={g with O:=λc=>if c=b then some o else g.O c}
theorem SR.reown(h:SR g s w a){p q:Occ}(hp:n9 (some p) s){b:Nat}(f:g.O b=some p):SR (g.reown b q) s w a:=by
 refine h.keep (some p) hp rfl (Up.refl _ _ _ _) ?_ ?_ h.hr.exI ?_
 ·intro t r c m;have:r≠b:=by
   rintro rfl;rw[f] at c;exact m c
  exact⟨by simp[Gh.reown,this,c],rfl,λj d=>d⟩
 ·intro id cs i;refine⟨rfl,?_,λj d=>d⟩;have k:=h.hr.notO id cs i;have:g.ρ id≠b:=by
   rintro e;rw[e,f] at k;simp at k
  simp[Gh.reown,this,k]
 ·intro r o c;simp only[Gh.reown] at c;split at c;·rename_i e;subst e;exact h.hr.oLt _ _ f
  ·exact h.hr.oLt _ _ c
theorem FR.reown{hp:List al}{p q:Occ}{b:Nat}(e:g.O b=some p):FR g hp w (g.reown b q) hp w:=by
 refine⟨rfl,rfl,rfl,rfl,Ao _,λ_ _ _ _=>rfl,Up.refl _ _ _ _,λ_ _ _ _ _ f=>f,?_,λ_ cs h=>.inl ⟨cs,h⟩⟩;intro d _ _ c;have:d≠b:=by rintro rfl;rw[e] at c;simp at c
 simp[Gh.reown,this,c]
theorem wY{p q:Occ}{v:V}{cv:Value}(h:SR g s w a)(hp:n9 (some p) s)(j:OwnOK g w p v cv):
  ∃g₁,SR g₁ s w a∧FR g s.hp w g₁ s.hp w∧g₁.I=g.I∧g₁.ρ=g.ρ∧OwnOK g₁ w q v cv:=by
 cases v with
 |sl k o xs=>
  cases o with
  |may u=>exact⟨g,h,FR.refl _ _ _,rfl,rfl,by simp[OwnOK]⟩
  |own=>
   cases cv with
   |slice d len cap=>
    cases d with
    |none=>exact⟨g,h,FR.refl _ _ _,rfl,rfl,by simp[OwnOK]⟩
    |some d=>obtain⟨c,f,i⟩:=j;exact⟨g.reown d.block q,h.reown hp c,FR.reown c,rfl,rfl,by simp[Gh.reown],f,i⟩
   |_=>exact⟨g,h,FR.refl _ _ _,rfl,rfl,by simp[OwnOK]⟩
 |raw n=>
  cases cv with
  |pointer d=>
   cases d with
   |none=>exact⟨g,h,FR.refl _ _ _,rfl,rfl,by simp[OwnOK]⟩
   |some d=>obtain⟨c,f,i⟩:=j;exact⟨g.reown d.block q,h.reown hp c,FR.reown c,rfl,rfl,by simp[Gh.reown],f,i⟩
  |_=>exact⟨g,h,FR.refl _ _ _,rfl,rfl,by simp[OwnOK]⟩
 |ul k xs=>
  rcases j with j|⟨b,cap,m,e,x,y,c,f,i,r,t⟩
  ·exact⟨g,h,FR.refl _ _ _,rfl,rfl,.inl j⟩
  ·exact⟨g.reown b q,h.reown hp r,FR.reown r,rfl,rfl,.inr ⟨b,cap,m,e,x,y,c,f,i,by simp[Gh.reown],t⟩⟩
 |_=>exact⟨g,h,FR.refl _ _ _,rfl,rfl,by simp[OwnOK]⟩
theorem SR.newRow(h:SR g s w a)(k:EK)(xs:List (Ty k))(cap d:Nat)(f:Array Value)(e:TypeId)(N:Nat×Nat)
  (a1:w'.heap.size=w.heap.size+1) (m:∀b,b<w.heap.size->w'.heap[b]? =w.heap[b]?) (r:w'.heap[w.heap.size]? =some (.cells f e N))
  (W:w'.os=w.os) (Z:w'.tape=w.tape) (F:w'.output=w.output)
  {o:Fl} (X:o=.may true->xs.length=cap) (G:xs.length<=cap) (hm:cap<=maxI) (y:cap*k.sz<=f.size) (H:k=.u8->e=g.β)
  (Y:∀j,xs.length*k.sz<=j->j<cap*k.sz->¬(N.1<=j∧j<N.2))
  (Q:∀(i:Nat) x j v,xs[i]? =some x->(enc k x)[j]? =some v->∃cv,f[i*k.sz+j]? =some cv∧VRel g.I g.ρ s.hp.length w v cv):
  ∃g',SR g' (s.set d (.sl k o xs)) w' (a.put (some d) (.slice (some ⟨w.heap.size,0,none⟩) xs.length cap))∧FR g s.hp w g' s.hp w':=by
 let g':Gh:={I:=λb j=>g.I b j∨(b=w.heap.size∧j<xs.length*k.sz),ρ:=g.ρ,O:=λb=>if b=w.heap.size then some (.slot d) else g.O b,β:=g.β}
 have B:∀b j,g.I b j->b<w.heap.size:=by intro b j A;obtain⟨v,Q⟩:=A0.1 (h.hr.exI b j A);exact BP _ _ Q
 have t:∀b j,b<w.heap.size->w'.cell? ⟨b,j,none⟩=w.cell? ⟨b,j,none⟩:=by intro b j p;simp[Cc,m b p]
 have u:Up g.I g.ρ s.hp.length w g'.I g'.ρ s.hp.length w':=⟨λb j A=>.inl A,λb j A=>t b j (B b j A),λ_ _=>rfl,Ao _⟩
 have q:∀j,w'.cell? ⟨w.heap.size,j,none⟩=f[j]?:=λj=>cell_of_heap r j
 have ad:xs.length*k.sz<=f.size:=AX (AS _ G) y;have hs:SR g' s w' a:=by
  refine h.keep none trivial rfl u ?_ ?_ ?_ ?_
  ·intro S b p _;have z:=h.hr.oLt b S p;refine⟨by simp[g',Bm z,p],m b z,?_⟩;rintro j (c|⟨c,_⟩);·exact c
   ·omega
  ·intro id cs L;have z:=(h.hr.obj id cs L).lt;refine⟨m _ z,by simp[g',Bm z,h.hr.notO id cs L],?_⟩;rintro j (c|⟨c,_⟩);·exact c
   ·omega
  ·rintro b j (c|⟨rfl,c⟩);·rw[t b j (B b j c)];exact h.hr.exI b j c
   ·rw[q,Ag (by omega)];rfl
  ·intro b o p;simp only[g'] at p;split at p;·omega
   ·have:=h.hr.oLt b o p;omega
 have J:∀(i:Nat) x,xs[i]? =some x->i<xs.length:=λi x C=>(Ad.1 C).1
 have M:∀(i j:Nat),i<xs.length->j<k.sz->i*k.sz+j<xs.length*k.sz:=by
  intro i j A c
  calc i*k.sz+j<i*k.sz+k.sz:=by omega
   _=(i+1)*k.sz:=by rw[Ax,CL]
   _<=xs.length*k.sz:=AS _ A
 refine⟨g',hs.set d ?_ ?_,⟨rfl,W,Z,F,by omega,λb p _ _=>m b p,u,?_,?_,λ_ cs h=>.inl ⟨cs,h⟩⟩⟩
 ·refine .sl k o xs _ _ _ _ rfl G hm X (λi j=>f[i*k.sz+j]?.getD undef) ?_ ?_ ?_;·intro i x j C c;rw[a8] at c;exact .inr ⟨rfl,by have:=M i j (J i x C) c;omega⟩
  ·intro i x j C c;obtain⟨cv,E,_⟩:=Q i x j _ C (Ac c);rw[Aw,q,E];rfl
  ·intro i x j v C c;obtain⟨cv,E,R⟩:=Q i x j v C c;rw[E];exact R.up u
 ·cases o with
  |may u=>simp[OwnOK]
  |own=>
  refine⟨by simp[g'],⟨f,e,N,r,by simpa using y,H⟩,?_⟩;intro j E R;simp only[Aw] at E R;refine⟨?_,?_⟩
  ·rintro(A|⟨_,A⟩);·exact absurd (B _ _ A) (by simp)
   ·omega
  ·have:=Y j E R;simp only[Ci,r];simpa using this
 ·rintro b j p _ _ (c|⟨c,_⟩);·exact c
  ·omega
 ·intro b p _ hO;simp[g',Bm p,hO]
end
section
variable{w w':World}{g g':Gh}{s s':St}{a:Act}{P:Program}{Γ:ao}{m:Oper}{next:Act->World->Prop}{Q:Exit->Act->World->Prop}
theorem bQ{d:Nat}{cv:Value}(f:m.dst=some d)(b:(execOp a.eval m).run P w=.ok (.value cv) w')
  (h:∃g',SR g' s' w' (a.put (some d) cv)∧FR g s.hp w g' s'.hp w') (c:ax g s w a s' next):m.wp P a w next Q:=by
 unfold Ch C6;rw[b,f];obtain⟨g',e,i⟩:=h;exact c _ _ g' e i rfl
def iX:List ac->List (Nat×Operand)->Nat->Bool
 | [],[],_=>true
 |x::xs,(i,y)::ys,n=>(i==n)&&(ag x y&&iX xs ys (n+1))
 |_,_,_=>false
def iY(P:Program)(fs:Array Field):List (Nat×Nat×ac)->List (Nat×Operand)->Bool
 | [],[]=>true
 |(b,n,x)::xs,(i,y)::ys=>(match fs[i]? with|some f=>(f.offset==b)&&(be P f.type==some n)|none=>false)&&(ag x y&&iY P fs xs ys)
 |_,_=>false
def mR(P:Program)(t:TypeId)(zero:List V):Bool:=match P.info? t with|some i=>(match i.zero with|some z=>cK zero z.cells.toList|none=>false)|none=>false
def pD(P:Program)(o:IOp)(m:Oper):Bool:=
 match o with
 | .mov d x=>(m.dst==some d)&&(match m.op with| .move y=>ag x y| .assign y=>ag x y|_=>false)
 | .bsl d k b _=>(m.dst==some d)&&(match m.op with| .buildSlice t n e=>jG P t k&&(n==b.length&&(decide (b.length*k.sz<=16777216)&&iX b e.toList 0))|_=>false)
 | .app d k x y=>(m.dst==some d)&&(match kh m.op with|some (.append,[f,c],[t,u])=>jG P t k&&(jG P u k&&(ag x f&&ag y c))|_=>false)
 |_=>false
theorem aby{d:Nat}{x:ac}(f:pD P (.mov d x) m=true)(B:step Γ (.mov d x) s=some (true,s'))(h:SR g s w a)(H:ax g s w a s' next):m.wp P a w next Q:=by
 obtain⟨dst,p,z,i,j,u⟩:=m;simp only[pD,Aa,beq_iff_eq] at f;obtain⟨rfl,f⟩:=f;obtain rfl:_=s':=by simpa [step] using B
 have fin:∀y,ag x y=true->(execOp a.eval ⟨some d,p,z,i,j,u⟩).run P w=.ok (.value (a.eval y)) w->(⟨some d,p,z,i,j,u⟩:Oper).wp P a w next Q:=by
  intro y b I;have r:=af b h.er;refine bQ rfl I ?_ H;cases x with
  |t n=>exact⟨g,h.set d r (jm (dx _) _ _ _ _),FR.refl _ _ _⟩
  |c v=>
   refine⟨g,h.set d r ?_,FR.refl _ _ _⟩;unfold ag at b;split at b;·rename_i e;cases e
   ·rename_i e;cases e
   ·rename_i e;cases e;exact pn b _
   ·rename_i e;cases e;simp[ac.ev,OwnOK]
   ·simp at b
  |tk n=>
   have o:y=.tmp n:=by
    unfold ag at b;split at b;·rename_i e;cases e
    ·rename_i k e;cases e;rw[show k=n by simpa using (beq_iff_eq.1 b).symm]
    ·rename_i e;cases e
    ·rename_i e;cases e
    ·simp at b
   subst o;have E:=h.er.getOwn n;obtain⟨g₁,F,A,G,J,C⟩:=wY (q:=.slot d) (h.after (.tk n)) (po n s) E;refine⟨g₁,F.set d ?_ C,?_⟩;·rw[G,J];exact r
   ·rw[kj] at A;simpa [St.set,kj] using A
 split at f;·rename_i y;exact fin y f (by simp[execOp])
 ·rename_i y;exact fin y f (by simp[execOp])
 ·simp at f
theorem lK:∀(vs:List Value)(b j:Nat)(cells:Array Value),b+j+vs.length<=cells.size->
  ((vs.zipIdx j).foldl (λ(cs:Array Value)(x:Value×Nat)=>cs.setIfInBounds (b+x.2) x.1) cells).toList=cells.toList.take (b+j)++vs++cells.toList.drop (b+j+vs.length)
 | [],b,j,cells,h=>by simp
 |v::vs,b,j,cells,h=>by
  simp only[Ay] at h;rw[List.zipIdx_cons,BZ,lK vs b (j+1) _ (by simp;omega)];simp only[D8,Ay];have c:b+j<cells.toList.length:=by rw[AY];omega
  rw[show b+(j+1)=b+j+1 by omega,Dq (by simpa using c),List.take_set_of_le (by omega),List.drop_set_of_lt (by omega)];simp[Be];omega
theorem qH(sz:Nat):∀(vs:List (Array Value))(i:Nat)(cells:Array Value),(∀v∈vs,v.size=sz)->(i+vs.length)*sz<=cells.size->∀(e:List (Nat×Value)),e.map (·.1)=Bq i vs.length->e.map (·.2.cells)=vs->
  BK (λi=>some (i*sz,sz)) cells e=some (cells.toList.take (i*sz)++(vs.map (·.toList)).flatten++cells.toList.drop ((i+vs.length)*sz)).toArray
 | [],i,cells,j,d,e,q,f=>by
   have:e=[]:=by simpa using f
   subst this;simp[BK]
 |v::vs,i,cells,j,d,e,q,f=>by
  match e,q,f with
  |(b,x)::h,k1,k2=>
  simp only[AI,Ay,BQ,Cw] at k1 k2;obtain⟨rfl,k3⟩:=k1;obtain⟨rfl,k4⟩:=k2;have c:x.cells.size=sz:=j _ (AD ..);simp only[Ay] at d;have e1:(b+(vs.length+1))*sz=b*sz+sz+vs.length*sz:=by rw[Ax,Ax];omega
  have o:b*sz+sz<=cells.size:=by omega
  have k:(x.cells.zipIdx.foldl (λ(cs:Array Value)(y:Value×Nat)=>cs.setIfInBounds (b*sz+y.2) y.1) cells).toList=cells.toList.take (b*sz)++x.cells.toList++cells.toList.drop (b*sz+sz):=by have:=lK x.cells.toList (b*sz) 0 cells (by simp[c];omega);simp only[Cv,AY,c] at this;rw[<-this,<-Dc,C1]
  have r:(x.cells.zipIdx.foldl (λ(cs:Array Value)(y:Value×Nat)=>cs.setIfInBounds (b*sz+y.2) y.1) cells).size=cells.size:=by rw[<-AY,k];simp[c];omega
  simp only[BK,c];rw[if_neg (by simp;omega)];rw[qH sz vs (b+1) _ (λv c=>j v (AH _ c)) (by rw[r];rw[show (b+1+vs.length)=b+(vs.length+1) by omega];exact d) h k3 k4,k];have t:x.cells.toList.length=sz:=by simp[c]
  have p:(cells.toList.take (b*sz)++x.cells.toList).length=b*sz+sz:=by simp[c];omega
  rw[show (b+1)*sz=b*sz+sz by rw[Ax];omega,show (b+1+vs.length)*sz=(b*sz+sz)+vs.length*sz by rw[Ax,Ax];omega,Ay,e1];rw[List.take_left' p,<-DW,List.drop_left' p,DW];simp[Be]
theorem xJ{I:Nat->Nat->Prop}{ρ:Nat->Nat}{N:Nat}{k:EK}:∀{vs:List V}{xs:List (Ty k)}{cvs:List Value},sL k vs=some xs->cvs.length=vs.length->
  (∀(i:Nat) v cv,vs[i]? =some v->cvs[i]? =some cv->VRel I ρ N w v cv)->
  xs.length=vs.length∧(∀cv∈cvs,cv.cells.size=k.sz)∧
   ∀(i:Nat) x (j:Nat) v,xs[i]? =some x->(enc k x)[j]? =some v->∃(cv u:Value),cvs[i]? =some cv∧cv.cells[j]? =some u∧VRel I ρ N w v u
 | [],xs,cvs,h,r,F=>by
   have:cvs=[]:=by simpa using r
   subst this;simp only[sL,Ab] at h;subst h;exact⟨rfl,by simp,by simp⟩
 |v::vs,xs,cv::cvs,h,r,F=>by
  simp only[sL] at h;split at h
  ·rename_i x l d z;obtain rfl:=Ai h;obtain⟨k1,k2,k3⟩:=xJ (vs:=vs) (cvs:=cvs) z (by simpa using r) (λi v cv e t=>F (i+1) v cv (by simpa using e) (by simpa using t));have L:=F 0 v cv rfl rfl;have B:=L;have p:v.cells.length=cv.cells.size∧(∀(j:Nat) c u,v.cells[j]? =some c->cv.cells[j]? =some u->VRel I ρ N w c u):=by
    cases L with
    |agg cs us G e O J=>exact⟨by simpa [V.cells,BN] using G,by simpa [V.cells,BN] using J⟩
    |undef cv=>cases k<;>simp[V.cells,dec] at d<;>(rename_i f;cases f<;>simp at d)
    |tup cs us r J=>cases k<;>simp[V.cells,dec] at d<;>(rename_i f;cases f<;>simp at d)
    |junk cv=>cases k<;>simp[V.cells,dec] at d<;>(rename_i f;cases f<;>simp at d)
    |_=>
     refine⟨by simp[V.cells,BN],?_⟩;intro j c u e t;cases j with
     |zero=>simp[V.cells,BN] at e t;subst e t;exact B
     |succ j=>simp[V.cells] at e
   have A:∀c∈v.cells,c.inRange:=by
    intro c b;obtain⟨j,q,rfl⟩:=AZ.1 b;have:j<cv.cells.size:=by rw[<-p.1];exact q
    exact(p.2 j _ _ (Ac q) (Ag this)).inRange
   have M:=yZ d A;have E:cv.cells.size=k.sz:=by rw[<-p.1,<-a8 k x,M,AU]
   refine⟨by simp[k1],by simpa using ⟨E,k2⟩,?_⟩;intro i y j u H C;cases i with
   |succ i=>simpa using k3 i y j u (by simpa using H) C
   |zero=>
    simp at H;subst H;rw[M,Au,Ah] at C;obtain⟨c,b,rfl⟩:=C;have q:j<v.cells.length:=(Ad.1 b).1;have o:j<cv.cells.size:=by rw[<-p.1];exact q
    exact⟨cv,cv.cells[j],rfl,Ag o,(p.2 j _ _ b (Ag o)).weak⟩
  ·simp at h
theorem qI(sz:Nat):∀(cvs:List Value),(∀cv∈cvs,cv.cells.size=sz)->∀(i j:Nat) cv u,cvs[i]? =some cv->cv.cells[j]? =some u->
  ((cvs.map (·.cells.toList)).flatten)[i*sz+j]? =some u
 | [],_,i,j,cv,u,b,_=>by simp at b
 |c::cvs,e,0,j,cv,u,b,d=>by
  simp at b;subst b;have o:j<c.cells.size:=by
   rcases AG j c.cells.size with h|h;·exact h
   ·simp[CK h] at d
  simp only[AI,List.flatten_cons,Nat.zero_mul,Aw];rw[Am (by simpa using o)];simpa using d
 |c::cvs,e,i+1,j,cv,u,b,d=>by
  have k:=e c (AD ..);have p:=qI sz cvs (λcv f=>e cv (AH _ f)) i j cv u (by simpa using b) d;simp only[AI,List.flatten_cons];rw[Aj (by simp[k,Ax];omega)];rw[<-p]
  congr 1
  simp[k,Ax];omega
theorem pE(h:ER g s.hp.length w s.env a.tmps):∀(c:List ac)(d:List (Nat×Operand))(n:Nat),iX c d n=true->
  (d.map λq=>(q.1,a.eval q.2)).map (·.1)=Bq n c.length∧d.length=c.length∧
   ∀(i:Nat) v cv,(c.map (·.ev s))[i]? =some v->(d.map λq=>a.eval q.2)[i]? =some cv->VRel g.I g.ρ s.hp.length w v cv
 | [],[],n,_=>by simp
 |x::c,(i,y)::d,n,hp=>by
  simp only[iX,Aa,beq_iff_eq] at hp;obtain⟨rfl,k,f⟩:=hp;obtain⟨k1,k2,k3⟩:=pE h c d (i+1) f;refine⟨?_,by simp[k2],?_⟩;·simp only[AI,Ay,BQ];rw[k1]
  ·intro j v cv e b;cases j with
   |zero=>simp at e b;subst e b;exact af k h
   |succ j=>exact k3 j v cv (by simpa using e) (by simpa using b)
 | [],_::_,n,hp=>by simp[iX] at hp
 |_::_,[],n,hp=>by simp[iX] at hp
theorem ce(w:World)(o:Go.Obj):(w.alloc o).heap.size=w.heap.size+1∧(∀b,b<w.heap.size->(w.alloc o).heap[b]? =w.heap[b]?)∧(w.alloc o).heap[w.heap.size]? =some o:=by
 refine⟨by simp,?_,?_⟩;·intro b c;show (w.heap.push o)[b]? =_;rw[Cl,if_neg (by omega)]
 ·show (w.heap.push o)[w.heap.size]? =_;simp
theorem abz{d:Nat}{k:EK}{A:List ac}{u:Bool}(Z:g.β=mj P)(C:pD P (.bsl d k A u) m=true)(J:step Γ (.bsl d k A u) s=some (true,s'))(h:SR g s w a)(hn:ax g s w a s' next):m.wp P a w next Q:=by
 obtain⟨dst,op,ty,bs,b4,gd⟩:=m;simp only[pD,Aa,beq_iff_eq] at C;obtain⟨rfl,C⟩:=C;split at C
 ·rename_i t n y;simp only[Aa,beq_iff_eq,decide_eq_true_eq] at C;obtain⟨F,rfl,h2,h3⟩:=C;simp only[step,Ah] at J;obtain⟨xs,W,J⟩:=J;obtain rfl:_=s':=by simpa using J
  obtain⟨e,u1,F⟩:=et F;obtain⟨inf,z,i1,i2,i3,i4,i5,i6,i7⟩:=ip F;obtain⟨k1,k2,k3⟩:=pE h.er A y.toList 0 h3;obtain⟨L,S,r3⟩:=xJ (cvs:=y.toList.map λq=>a.eval q.2) W (by simp[k2]) k3;simp only[AU] at L;have bb:z.cells.size=k.sz:=i7;have Y:0<k.sz:=by cases k<;>simp[EK.sz]
  let E:Array Value:=(DX (A.length*k.sz)).map (λj=>z.cells[j%z.cells.size]!);have r:E.size=A.length*k.sz:=by simp[E]
  have p:BK (λi=>some (i*k.sz,k.sz)) E ((y.map λx=>(x.1,a.eval x.2)).toList)=some ((y.toList.map λq=>a.eval q.2).map (·.cells.toList)).flatten.toArray:=by have:=qH k.sz ((y.toList.map λq=>a.eval q.2).map (·.cells)) 0 E (by intro v O;obtain⟨cv,B,rfl⟩:=Av.1 O;exact S cv B) (by simp[r,k2]) ((y.map λx=>(x.1,a.eval x.2)).toList) (by simpa [k2] using k1) (by simp);rw[this];simp[k2,r,Cu,CA]
  have H:((y.toList.map λq=>a.eval q.2).map (·.cells.toList)).flatten.length=xs.length*k.sz:=by
   rw[List.length_flatten,Cu];have:∀l:List Value,(∀cv∈l,cv.cells.size=k.sz)->(l.map (An∘λx:Value=>x.cells.toList)).sum=l.length*k.sz:=by
    intro l hl;induction l with
    |nil=>simp
    |cons c l ih=>simp only[AI,List.sum_cons,Ay,ih (λcv B=>hl cv (AH _ B)),Ax,Ea];have:=hl c (AD ..);simp[this];omega
   rw[this _ S,AU,k2,L]
  let b:Array Value:=((y.toList.map λq=>a.eval q.2).map (·.cells.toList)).flatten.toArray;have f:=ce w (.cells b e);refine bQ rfl (w':=w.alloc (.cells b e)) (cv:=.slice (some ⟨w.heap.size,0,none⟩) xs.length xs.length) ?_ ?_ hn
  ·have I:¬(16777216<A.length*k.sz):=by omega
   have a3:E.size=A.length*k.sz:=r;simp only[Array.toList_map,E] at p;by_cases M:A.length*k.sz=0
   ·have X:A.length=0:=by
     rcases Nat.mul_eq_zero.1 M with h|h;·exact h
     ·omega
    have N:y.toList=[]:=A4 (by omega);have av:xs.length=0:=by omega
    have G:y= #[]:=by simpa using N
    simp[execOp,CV,run_underlying u1,sizeOf,typeInfo,i1,i2,I,M,X,G,av,BK,newRow,b];rw[show DX 0= #[] from CJ (by simp),Array.map_empty]
   ·simp[execOp,CV,run_underlying u1,sizeOf,typeInfo,i1,i2,I,M,zeroValue,i4,p,newRow,L,b]
  ·obtain⟨g',q1,R⟩:=h.newRow (w':=w.alloc (.cells b e)) k xs xs.length d b e (0,0) f.1 f.2.1 f.2.2 rfl rfl rfl (o:=cond u (.may true) .own) (λ_=>rfl) (Ao _) (by unfold maxI;have:xs.length<=xs.length*k.sz:=Cj _ Y;rw[L] at *;omega)
    (by simp only[b,Df,H];exact Ao _) (λhk=>by rw[Z];exact mQ F hk) (by intro j F h2;omega) (by intro i x j v W O;obtain⟨cv,u,q1,R,q3⟩:=r3 i x j v W O;refine⟨u,?_,q3⟩;simp only[b,List.getElem?_toArray];exact qI k.sz _ S i j cv u q1 R)
   exact⟨g',q1,R⟩
 ·simp at C
end
section
variable{w w':World}{g g':Gh}{s s':St}{a:Act}{P:Program}{Γ:ao}{m:Oper}{next:Act->World->Prop}{Q:Exit->Act->World->Prop}
theorem cI(b:Nat):∀(vs:List Value)(o:Nat)(w:World)(d:Array Value)(e:TypeId)(f:Nat×Nat),w.heap[b]? =some (.cells d e f)->
  (∃c,(w.setCells b o vs).heap[b]? =some (.cells c e f)∧c.size=d.size)∧(∀i,i≠b->(w.setCells b o vs).heap[i]? =w.heap[i]?)∧
   (w.setCells b o vs).heap.size=w.heap.size∧(w.setCells b o vs).os=w.os∧(w.setCells b o vs).tape=w.tape∧(w.setCells b o vs).output=w.output
 | [],o,w,d,e,f,h=>⟨⟨d,h,rfl⟩,λ_ _=>rfl,rfl,rfl,rfl,rfl⟩
 |v::vs,o,w,d,e,f,h=>by
  have p:(w.setCell ⟨b,o,none⟩ v).heap[b]? =some (.cells (d.setIfInBounds o v) e f):=by simp[CZ,A3,h]
  obtain⟨⟨c,k1,k2⟩,k3,k4,k5,k6,k⟩:=cI b vs (o+1) (w.setCell ⟨b,o,none⟩ v) _ e f p;refine⟨⟨c,k1,by simpa using k2⟩,λi j=>?_,k4.trans (by simp[CZ]),k5,k6,k⟩;rw[show (w.setCells b o (v::vs))=(w.setCell ⟨b,o,none⟩ v).setCells b (o+1) vs from rfl,k3 i j];simp only[CZ,A3];rw[if_neg (by simpa using Cr j)]
theorem xK{k:EK}{o:Fl}{xs:List (Ty k)}{cv:Value}(h:VRel g.I g.ρ s.hp.length w (.sl k o xs) cv):
  ∃(L:List Value),L.length=xs.length*k.sz∧(∀u∈L,u.oneCell'=true)∧
   (∀(i:Nat) x (j:Nat) v,xs[i]? =some x->(enc k x)[j]? =some v->∃u,L[i*k.sz+j]? =some u∧VRel g.I g.ρ s.hp.length w v u)∧
   ((xs=[]∧∃z,cv=.slice z 0 0∧(o=.own->z=none))∨∃b c cap,cv=.slice (some ⟨b,c,none⟩) xs.length cap∧xs.length<=cap∧cap<=maxI∧∀(j:Nat) u,L[j]? =some u->w.cell? ⟨b,c+j,none⟩=some u):=by
 cases h with
 |sln=>exact⟨[],by simp,by simp,by simp,.inl ⟨rfl,none,rfl,λ_=>rfl⟩⟩
 |sle _ _ z M=>exact⟨[],by simp,by simp,by simp,.inl ⟨rfl,some z,rfl,λh=>absurd h M⟩⟩
 |sl _ _ _ b c len cap X W O Z f Y H G=>
  subst X;have y:0<k.sz:=by cases k<;>simp[EK.sz]
  have C:∀(i j:Nat),j<k.sz->(i*k.sz+j) / k.sz=i∧(i*k.sz+j)%k.sz=j:=by
   intro i j p;constructor;·rw[Nat.add_comm,Nat.add_mul_div_right _ _ y,Nat.div_eq_of_lt p];omega
   ·rw[Nat.add_comm,D7,Dv p]
  have e:∀(q:Nat),q<xs.length*k.sz->q / k.sz<xs.length∧q%k.sz<k.sz∧q / k.sz*k.sz+q%k.sz=q:=by intro q B;exact⟨Nat.div_lt_of_lt_mul (by rwa [CQ]),CB _ y,Nat.div_add_mod' q k.sz⟩
  refine⟨(AE (xs.length*k.sz)).map λq=>f (q / k.sz) (q%k.sz),by simp,?_,?_,.inr ⟨b,c,cap,rfl,W,O,?_⟩⟩
  ·intro u A;obtain⟨q,B,rfl⟩:=Av.1 A;obtain⟨E,F,R⟩:=e q (by simpa using B);have r:xs[q / k.sz]? =some xs[q / k.sz]:=Ac E;have p:q%k.sz<(enc k xs[q / k.sz]).length:=by rw[a8];exact F
   exact(G _ _ _ _ r (Ac p)).oneCell (qD _ _ _ (Bf p))
  ·intro i x j v r t;have p:j<k.sz:=by
    have:=(Ad.1 t).1
    rwa [a8] at this
   have N:i<xs.length:=(Ad.1 r).1;have d:i*k.sz+j<xs.length*k.sz:=by
    calc i*k.sz+j<i*k.sz+k.sz:=by omega
     _=(i+1)*k.sz:=by rw[Ax,CL]
     _<=xs.length*k.sz:=AS _ N
   obtain⟨S,J⟩:=C i j p;refine⟨f i j,?_,G i x j v r t⟩;simp[Au,DS d,S,J]
  ·intro j u A;rw[Au,Ah] at A;obtain⟨q,B,rfl⟩:=A;obtain⟨d,rfl⟩:=Ad.1 B;simp only[Di] at d;obtain⟨E,F,R⟩:=e j d;have r:xs[j / k.sz]? =some xs[j / k.sz]:=Ac E;have:=H _ _ (j%k.sz) r (by rw[a8];exact F);rw[show c+j / k.sz*k.sz+j%k.sz=c+j by omega] at this;simpa using this
theorem SR.inPlace(h:SR g s w a){p:Occ}(hp:n9 (some p) s)(k:EK)(xs ys:List (Ty k))(b t cap d:Nat)(news:List Value)
  (hx:VRel g.I g.ρ s.hp.length w (.sl k .own xs) (.slice (some ⟨b,t,none⟩) xs.length cap)) (W:OwnOK g w p (.sl k .own xs) (.slice (some ⟨b,t,none⟩) xs.length cap))
  (H:xs.length+ys.length<=cap) (hl:news.length=ys.length*k.sz)
  (hv:∀(i:Nat) x (j:Nat) v,ys[i]? =some x->(enc k x)[j]? =some v->∃u,news[i*k.sz+j]? =some u∧VRel g.I g.ρ s.hp.length w v u):
  ∃g',SR g' (s.set d (.sl k .own (xs++ys))) (w.setCells b (t+xs.length*k.sz) news) (a.put (some d) (.slice (some ⟨b,t,none⟩) (xs.length+ys.length) cap))∧
   FR g s.hp w g' s.hp (w.setCells b (t+xs.length*k.sz) news):=by
 obtain⟨R,⟨a2,e,fz,o2,o3,a1⟩,o4⟩:=W;simp only at R o2 o3 o4;let B:=t+xs.length*k.sz;have b6:B+news.length<=t+cap*k.sz:=by have:(xs.length+ys.length)*k.sz<=cap*k.sz:=AS _ H;rw[Ax] at this;simp only[B,hl];omega
 obtain⟨⟨Y,q1,q2⟩,q3,q4,q5,q6,q7⟩:=cI b news B w a2 e fz o2;let w':=w.setCells b B news;let g':Gh:={I:=λy j=>g.I y j∨(y=b∧B<=j∧j<B+news.length),ρ:=g.ρ,O:=λy=>if y=b then some (.slot d) else g.O y,β:=g.β}
 have X:∀j,B<=j->j<t+cap*k.sz->¬g.I b j:=λj c A=>(o4 j c A).1
 have E:∀y j,g.I y j->w'.cell? ⟨y,j,none⟩=w.cell? ⟨y,j,none⟩:=by
  intro y j C;refine Bj b news B w _ ?_;rintro rfl _;rcases AG j B with c|c;·exact .inl c
  ·rcases AG j (t+cap*k.sz) with A|A;·exact absurd C (X j c A)
   ·right;show B+news.length<=j;omega
 have G:∀j (q:j<news.length),w'.cell? ⟨b,B+j,none⟩=some news[j]:=by intro j q;refine BY b news B w (λj' c7=>?_) j q;rw[cell_of_heap o2,Ag (by omega)];rfl
 have b0:∀(id:Nat) cs,s.hp[id]? =some (some cs)->g.ρ id≠b:=by intro id cs J e';have:=h.hr.notO id cs J;rw[e',R] at this;simp at this
 have u:Up g.I g.ρ s.hp.length w g'.I g'.ρ s.hp.length w':=⟨λb j C=>.inl C,E,λ_ _=>rfl,Ao _⟩
 have hs:SR g' s w' a:=by
  refine h.keep (some p) hp rfl u ?_ ?_ ?_ ?_
  ·intro cl y z av;have r:y≠b:=by
    rintro rfl;rw[R] at z;exact av z
   refine⟨by simp[g',r,z],q3 y r,?_⟩;rintro j (q|⟨q,_⟩);·exact q
   ·exact absurd q r
  ·intro id cs J;have r:=b0 id cs J;refine⟨q3 _ r,by simp[g',r,h.hr.notO id cs J],?_⟩;rintro j (q|⟨q,_⟩);·exact q
   ·exact absurd q r
  ·rintro y j (q|⟨rfl,c,A⟩);·rw[E y j q];exact h.hr.exI y j q
   ·have:=G (j-B) (by omega);rw[show B+(j-B)=j by omega] at this;rw[this];rfl
  ·intro y o z;simp only[g'] at z;rw[q4];split at z;·rename_i e';subst e';exact h.hr.oLt _ _ R
   ·exact h.hr.oLt _ _ z
 obtain⟨L,l1,l2,l3,l4⟩:=xK hx;have b1:cap<=maxI:=by
  cases hx with
  |sle _ _ _ W=>exact absurd rfl W
  |sl=>assumption
 have F:∀(i:Nat) x,(xs++ys)[i]? =some x->(i<xs.length∧xs[i]? =some x)∨(xs.length<=i∧ys[i-xs.length]? =some x):=by
  intro i x C;rcases AG i xs.length with c|c;·rw[Am c] at C;exact .inl ⟨c,C⟩
  ·rw[Aj c] at C;exact .inr ⟨c,C⟩
 have N:∀(i j:Nat),xs.length<=i->t+i*k.sz+j=B+((i-xs.length)*k.sz+j):=by
  intro i j C;have:i*k.sz=xs.length*k.sz+(i-xs.length)*k.sz:=by rw[<-Ax];congr 1;omega
  simp only[B];omega
 have S:VRel g'.I g'.ρ s.hp.length w' (.sl k .own (xs++ys)) (.slice (some ⟨b,t,none⟩) (xs.length+ys.length) cap):=by
  cases hx with
  |sle _ _ _ W=>exact absurd rfl W
  |sl _ _ _ _ _ _ _ ci ck c4 c5 f hI hw a0=>
  refine .sl k .own _ _ _ _ _ (by simp) (by simpa using H) b1 (by simp) (λi j=>if i<xs.length then f i j else news[(i-xs.length)*k.sz+j]?.getD undef) ?_ ?_ ?_
  ·intro i x j C q;rcases F i x C with⟨c,A⟩|⟨c,A⟩
   ·exact .inl (hI i x j A q)
   ·obtain⟨u,Z,_⟩:=hv _ x j _ A (Ac q);have:=(Ad.1 Z).1;refine .inr ⟨rfl,?_⟩;rw[N i j c];omega
  ·intro i x j C q;rcases F i x C with⟨c,A⟩|⟨c,A⟩
   ·simp only[c,if_true];rw[E _ _ (hI i x j A q)];exact hw i x j A q
   ·obtain⟨u,Z,_⟩:=hv _ x j _ A (Ac q);have ad:=(Ad.1 Z).1;simp only[Nat.not_lt.2 c,if_false];rw[N i j c,G _ ad,Ac ad];rfl
  ·intro i x j v C q;rcases F i x C with⟨c,A⟩|⟨c,A⟩
   ·simp only[c,if_true];exact(a0 i x j v A q).up u
   ·obtain⟨u',Z,hr⟩:=hv _ x j v A q;simp only[Nat.not_lt.2 c,if_false,Z];exact hr.up u
 refine⟨g',hs.set d S ?_,⟨rfl,q5,q6,q7,by rw[q4];exact Ao _,λy z _ M=>?_,u,?_,?_,λ_ cs h=>.inl ⟨cs,h⟩⟩⟩
 ·refine⟨by simp[g'],⟨Y,e,fz,q1,by rw[q2];exact o3,a1⟩,?_⟩;intro j c A;simp only at c A;have bx:B+news.length<=j:=by
   simp only[B,hl];rw[Ax] at c;omega
  have:=o4 j (by simp only[B] at bx;omega) A;refine⟨?_,?_⟩
  ·rintro(C|⟨_,_,C⟩);·exact this.1 C
   ·omega
  ·rw[World.frozen?_setCells];exact this.2
 ·have r:y≠b:=by rintro rfl;rw[R] at M;simp at M
  exact q3 y r
 ·rintro y j z _ M (q|⟨q,_⟩);·exact q
  ·subst q;rw[R] at M;simp at M
 ·intro y z _ M;have r:y≠b:=by rintro rfl;rw[R] at M;simp at M
  simp[g',r,M]
theorem adp{k k':EK}(h:k'=k){o:Fl}{m:List (Ty k')}{I:Nat->Nat->Prop}{ρ:Nat->Nat}{N:Nat}{w:World}{cv:Value}(r:VRel I ρ N w (.sl k' o m) cv):VRel I ρ N w (.sl k o (h▸m)) cv:=by subst h;exact r
theorem wZ{k k':EK}(h:k'=k)(m:List (Ty k')):(h▸m:List (Ty k)).length=m.length:=by subst h;rfl
theorem ac1(cy:g.β=mj P){d:Nat}{k:EK}{x:ac}{X S:Operand}{xs ys:List (Ty k)}{ty t u e:TypeId}{R:String}{W:Array Edge}{gd:Option (Nat×Bool)}(h:SR g s w a)
  (E:ag x X=true) {o:Fl} (r:x.ev s=.sl k o xs) (G:o.app ys.length=true) (ut:P.underlying t=some (.slice e)) (he:pB P e k=true) (news:List Value)
  (O:_root_.Go.Src P k.sz u (a.eval S) ys.length news w) (hv:∀(i:Nat) x (j:Nat) v,ys[i]? =some x->(enc k x)[j]? =some v->∃u,news[i*k.sz+j]? =some u∧VRel g.I g.ρ s.hp.length w v u)
  (a1:(xs.length+ys.length)*k.bytes<=cd)
  (hn:ax g s w a ((x.after s).set d (.sl k .own (xs++ys))) next):
  (⟨some d,.call ⟨.builtin .append,⟨[X,S]⟩,⟨[t,u]⟩⟩,ty,R,W,gd⟩:Oper).wp P a w next Q:=by
 obtain⟨inf,z,i1,i2,i3,i4,i5,i6,i7⟩:=ip he;have r1:=af E h.er;rw[r] at r1;have dv:0<k.bytes:=by cases k<;>simp[EK.bytes];rename_i kk;cases kk<;>simp[tp]
 have a2:xs.length+ys.length<=cd:=AX (Cj _ dv) a1;have b0:o=.own->∃p,n9 (some p) (x.after s)∧OwnOK g w p (.sl k .own xs) (a.eval X):=by
  rintro rfl;unfold ag at E;split at E
  ·rename_i n k';obtain rfl:=by simpa using E
   simp only[ac.ev] at r;exfalso;cases hg:s.get n<;>rw[hg] at r<;>simp[disown] at r;rename_i o' _;cases o'<;>simp[Fl.dis] at r
  ·rename_i n k';obtain rfl:=by simpa using E
   refine⟨.slot n,po n s,?_⟩;have:=h.er.getOwn n
   rwa [show s.get n=.sl k .own xs from r] at this
  ·rename_i v cv;simp only[ac.ev] at r;subst r;exact⟨.res,trivial,pn E _⟩
  ·rename_i f hf;simp only[ac.ev] at r;cases r
  ·simp at E
 have h1:=h.after x;obtain⟨L,l1,l2,l3,l4⟩:=xK r1;have H:∀cv w',(Cd #[t,u] ty #[a.eval X,a.eval S]).run P w=.ok cv w'->(execOp a.eval ⟨some d,.call ⟨.builtin .append,⟨[X,S]⟩,⟨[t,u]⟩⟩,ty,R,W,gd⟩).run P w=.ok (.value cv) w':=by intro cv w' hr;simp[execOp,resolve,invoke,builtin,hr]
 have y:(x.after s).hp=s.hp:=kj x s
 have Z:∀(C:Option Addr)(cap:Nat),a.eval X=.slice C xs.length cap->cap<xs.length+ys.length->
   (Da k.sz xs.length (.slice C xs.length cap)).run P w.drew=.ok L.toArray w.drew->
   (⟨some d,.call ⟨.builtin .append,⟨[X,S]⟩,⟨[t,u]⟩⟩,ty,R,W,gd⟩:Oper).wp P a w next Q:=by
  intro C cap hb J b2
  have hr:=run_append_grow_src w t u ty e inf z ut i1 i4 C xs.length cap L (by rw[i2];exact b2) (a.eval S) ys.length news (by rw[i2];exact O) J (by unfold cd at a2;omega)
   (growslice_fits J (by rw[i3];exact a1))
  have a4:xs.length+ys.length<=grownCap w (xs.length+ys.length) cap e:=by unfold grownCap Question.cut;exact CW _ _
  have b3:grownCap w (xs.length+ys.length) cap e<=maxI:=by have:=grownCap_le_maxLen w (xs.length+ys.length) cap e (by unfold maxLen;unfold cd at a2;omega);simpa [maxLen,maxI] using this
  let c:Array Value:=(L++news).toArray++Ee z.cells (grownCap w (xs.length+ys.length) cap e-(xs.length+ys.length));have c5:=O.newsLen;have b4:c.size=grownCap w (xs.length+ys.length) cap e*k.sz:=by
   simp only[c,Eh,Df,Ba,l1,c5,size_zeroCells,i7];rw[<-Ax,<-Ax]
   congr 1
   omega
  have f:=ce w.drew (.cells c e);obtain⟨g',q1,q2⟩:=h1.newRow (w':=w.drew.alloc (.cells c e)) k (xs++ys) (grownCap w (xs.length+ys.length) cap e) d c e (0,0) f.1 f.2.1 f.2.2 rfl rfl rfl (o:=.own) (by simp) (by simpa using a4) b3 (by rw[b4];exact Ao _) (λhk=>by rw[cy];exact mQ he hk) (by intro j h1 h2;omega) (by
   intro i x j v E bb;have hj:j<k.sz:=by
    have:=(Ad.1 bb).1
    rwa [a8] at this
   have M:∀(q:Nat) u,(L++news)[q]? =some u->c[q]? =some u:=by intro q u hq;have d0:=(Ad.1 hq).1;simp only[c];rw[BD (by simpa using d0)];simpa using hq
   rcases AG i xs.length with hi|hi;·rw[Am hi] at E;obtain⟨u,e1,e2⟩:=l3 i x j v E bb;refine⟨u,M _ _ ?_,by rw[y];exact e2⟩;rw[Am (Ad.1 e1).1];exact e1
   ·rw[Aj hi] at E;obtain⟨u,e1,e2⟩:=hv _ x j v E bb;refine⟨u,M _ _ ?_,by rw[y];exact e2⟩;have:i*k.sz=xs.length*k.sz+(i-xs.length)*k.sz:=by rw[<-Ax];congr 1;omega
    rw[Aj (by rw[l1];omega),l1,<-e1]
    congr 1
    omega)
  have bs:(execOp a.eval ⟨some d,.call ⟨.builtin .append,⟨[X,S]⟩,⟨[t,u]⟩⟩,ty,R,W,gd⟩).run P w=.ok (.value (.slice (some ⟨w.heap.size,0,none⟩) (xs++ys).length (grownCap w (xs.length+ys.length) cap e))) (w.drew.alloc (.cells c e)):=by refine H _ _ ?_;rw[hb,hr];simp[c]
  refine bQ rfl bs ⟨g',q1,?_⟩ hn;rw[y] at q2;show FR g s.hp w g' (x.after s).hp _;rw[y];exact q2
 rcases l4 with⟨rfl,ad,A,cs⟩|⟨b,F,cap,A,J,b3,Y⟩
 ·by_cases h0:ys.length=0
  ·have cx:ys=[]:=A4 h0;subst cx;obtain rfl:ad=none:=cs (by
    cases o with
    |own=>rfl
    |may u=>simp[Fl.app] at G)
   have hr:(Cd #[t,u] ty #[a.eval X,a.eval S]).run P w=.ok (.slice none 0 0) w:=by
    have c3:news=[]:=by have:=O.newsLen;simpa using this
    have hc:=O.cells;rw[A];rcases O.kind with⟨e',hk⟩|hk<;>simp[Cd,run_underlying ut,run_underlying hk,sizeOf,typeInfo,i1,i2,O.len] at* <;>simp[hc]
   refine bQ rfl (H _ _ hr) ⟨g,?_,?_⟩ hn;·exact h1.set d (by simpa using VRel.sln (I:=g.I) (ρ:=g.ρ) (N:=(x.after s).hp.length) (w:=w) k .own) (by simp[OwnOK])
   ·have:=FR.refl g s.hp w;simpa [St.set,y] using this
  ·exact Z ad 0 (by simpa using A) (by simp;omega) (by
    have hL:L=[]:=by simpa using l1
    subst hL;cases ad with
    |none=>simpa using run_firstCells_none (P:=P) w.drew k.sz 0 0 0
    |some ad=>simpa using run_firstCells_some (P:=P) w.drew k.sz 0 ad 0 0 [] (by simp) (by intro j v hj;simp at hj))
 ·by_cases B:xs.length+ys.length<=cap
  ·have bn:o=.own:=by
    cases o with
    |own=>rfl
    |may u=>simp only[Fl.app,Aa,decide_eq_true_eq] at G;obtain⟨rfl,d3⟩:=G;rw[A] at r1;have:=r1.full;omega
   subst bn;obtain⟨p,hp,ho⟩:=b0 rfl;rw[A] at ho r1;obtain⟨o1,⟨c,e',fz,o2,o3⟩,o4⟩:=ho;simp only at o1 o2 o3 o4;have d2:F+xs.length*k.sz+news.length<=F+cap*k.sz:=by have:(xs.length+ys.length)*k.sz<=cap*k.sz:=AS _ B;rw[Ax] at this;rw[O.newsLen];omega
   have hr:=run_append_room_src w t u ty e inf ut i1 b F xs.length cap (a.eval S) ys.length news (by rw[i2];exact O) B (by
    intro j hj;rw[i2,cell_of_heap o2,Ag (by omega)];rfl) (by
    intro j hj;rw[i2];exact(o4 _ (by omega) (by omega)).2)
   rw[i2] at hr;have q:=h1.inPlace hp k xs ys b F cap d news (by rw[y];exact r1) ⟨o1,⟨c,e',fz,o2,o3⟩,o4⟩ B O.newsLen (by rw[y];exact hv);rw[y] at q;refine bQ rfl (H _ _ (by rw[A];exact hr)) ?_ hn;obtain⟨g',q1,q2⟩:=q;exact⟨g',q1,by simpa [St.set,y] using q2⟩
  ·exact Z _ cap A (by omega) (run_firstCells_some w.drew k.sz xs.length ⟨b,F,none⟩ xs.length cap L (by simpa using l1) (by intro j v hj;rw[Bv];exact Y j v hj))
theorem abA{d:Nat}{k:EK}{x y:ac}(G:g.β=mj P)(q:pD P (.app d k x y) m=true)(f:step Γ (.app d k x y) s=some (true,s'))(h:SR g s w a)(hn:ax g s w a s' next):m.wp P a w next Q:=by
 obtain⟨dst,op,ty,R,a4,gd⟩:=m;simp only[pD,Aa,beq_iff_eq] at q;obtain⟨rfl,q⟩:=q;split at q
 ·rename_i x' y' t u E;obtain rfl:=dV E;simp only[Aa] at q;obtain⟨Z,h2,h3,h4⟩:=q;obtain⟨e,u1,e1⟩:=et Z;obtain⟨e',C,e2⟩:=et h2;simp only[step] at f;split at f
  ·rename_i k' ox l O o M Y hy;split at f
   ·rename_i N;subst N;split at f
    ·rename_i A;simp only[Ab,Ae,Aa,decide_eq_true_eq] at f;obtain⟨⟨r,z⟩,rfl⟩:=f;have B:=af h4 h.er;rw[hy] at B;have B:=adp A B;obtain⟨L,F,l2,X,S⟩:=xK B;refine ac1 G h h3 Y (by rw[wZ];exact r) u1 e1 L (ys:=A▸M) ?_ X (by rw[wZ];exact z) hn;rcases S with⟨i,J,p, -⟩|⟨b,bb,cap,p,I,a2,c⟩
     ·rw[p,i];have W:L=[]:=by rw[i] at F;simpa using F
      rw[W];cases J with
      |none=>exact _root_.Go.Src.ofNil w C 0
      |some J=>exact _root_.Go.Src.ofSlice w C _ _ _ _ (by simp) (by intro j v H;simp at H) (by simp)
     ·rw[p];exact _root_.Go.Src.ofSlice w C _ _ _ _ F (by intro j v H;rw[Bv];exact c j v H) l2
    ·simp at f
   ·simp at f
  ·simp at f
 ·simp at q
end
def ae3(e:TypeId)(o:Nat):Field:={(default:Field) with type:=e,offset:=o}
def afV(n sz:Nat)(e:TypeId):Array Field:=⟨(AE n).map λi=>ae3 e (i*sz)⟩
def lL(P:Program)(o:IOp)(m:Oper):Bool:=
 match o with
 | .box d x=>(m.dst==some d)&&(match m.op with| .box t y=>ag x y&&wV x|_=>false)
 | .st d n x v=>(m.dst==d)&&(match m.op with| .store t b i=>(be P t==some n)&&(ag x b&&ag v i)|_=>false)
 | .ld d n agg true x=>(m.dst==some d)&&(match m.op with| .load t b=>(be P t==some n)&&((cn P t==some agg)&&((!agg&&n==1)&&ag x b))|_=>false)
 | .bld d zero c=>(m.dst==some d)&&(match m.op with| .build t h=>mR P t zero&&(match P.underlying t with|some (.struct fs)=>iY P fs c h.toList&&fs.all (λf=>(P.info? f.type).isSome)|some (.array n e)=>(match be P e with|some sz=>iY P (afV n sz e) c h.toList|none=>false)|_=>false)|_=>false)
 |_=>false
section
variable{w w':World}{g g':Gh}{s s':St}{a:Act}{P:Program}{Γ:ao}{m:Oper}{next:Act->World->Prop}{Q:Exit->Act->World->Prop}
theorem iq{t:TypeId}{zero:List V}(h:mR P t zero=true):∃i z,P.info? t=some i∧i.zero=some z∧cK zero z.cells.toList=true:=by
 unfold mR at h;split at h
 ·rename_i i b;split at h;·rename_i z c;exact⟨i,z,b,c,h⟩
  ·simp at h
 ·simp at h
theorem OwnNil.own{c:V}{cv:Value}(h:OwnNil c cv)(g:Gh)(w:World)(b:Occ):OwnOK g w b c cv:=by
 unfold OwnOK;split;·simp[OwnNil] at h
 ·simp[OwnNil] at h
 ·exact .inl ⟨A4 h.1,h.2⟩
 ·trivial
theorem afW{cs:List V}{b:Array Value}{e:TypeId}(k:cs.length=b.size)(f:∀(i:Nat) c cv,cs[i]? =some c->b[i]? =some cv->OwnNil c cv):∀(j E n:Nat),cs[j]? =some (.bn E n)->E=e∧n=b.size∧b[j]? =some (.pointer none):=by intro j E n d;exfalso;have h:=(Ad.1 d).1;have:=f j _ (b[j]'(by omega)) d (Ag (by omega));simp[OwnNil] at this
theorem SR.newObj(h:SR g s w a)(cs:List V)(t:Array Value)(e:TypeId)(hl:cs.length=t.size)(h1:∀c∈cs,c.one=true)
  (Y:∀(i:Nat) c cv,cs[i]? =some c->t[i]? =some cv->VRel g.I g.ρ s.hp.length w c cv) (z:∀(i:Nat) c cv,cs[i]? =some c->t[i]? =some cv->pU c=true->OwnNil c cv)
  (J:∀(j E n:Nat),cs[j]? =some (.bn E n)->E=e∧n=t.size∧t[j]? =some (.pointer none)) (d:Nat):
  ∃g',SR g' {s.set d (.ptr s.hp.length 0) with hp:=s.hp++[some cs]} (w.alloc (.cells t e)) (a.put (some d) (.pointer (some ⟨w.heap.size,0,none⟩)))∧
   FR g s.hp w g' (s.hp++[some cs]) (w.alloc (.cells t e)):=by
 obtain⟨f1,W,f3⟩:=ce w (.cells t e);let w':=w.alloc (.cells t e);let g':Gh:={g with ρ:=λid=>if id=s.hp.length then w.heap.size else g.ρ id}
 have F:∀b j,g.I b j->b<w.heap.size:=by intro b j q;obtain⟨v,Y⟩:=A0.1 (h.hr.exI b j q);exact BP _ _ Y
 have y:∀b j,b<w.heap.size->w'.cell? ⟨b,j,none⟩=w.cell? ⟨b,j,none⟩:=by intro b j z;simp only[w',Cc,W b z]
 have u:Up g.I g.ρ s.hp.length w g'.I g'.ρ (s.hp++[some cs]).length w':=
  ⟨λb j q=>q,λb j q=>y b j (F b j q),λid f=>by simp[g',Bm f],by simp⟩
 have L:∀(id:Nat) cs,s.hp[id]? =some (some cs)->g.ρ id<w.heap.size:=by intro id cs f;exact(h.hr.obj id cs f).lt
 have x:∀A v cv,OwnOK g w A v cv->OwnOK g' w' A v cv:=by intro A v cv ho;refine ch ho rfl (λb j q=>⟨u.mono b j q,u.cell b j q⟩) ?_;intro b z;exact⟨z,W b (h.hr.oLt b A z),λj R=>R⟩
 have split:∀(id:Nat) o,(s.hp++[some cs])[id]? =some (some o)->(id<s.hp.length∧s.hp[id]? =some (some o))∨(id=s.hp.length∧o=cs):=by
  intro id o f;rcases AG id s.hp.length with q|q;·rw[Am q] at f;exact .inl ⟨q,f⟩
  ·rw[Aj q] at f;have X:id-s.hp.length=0:=by
    rcases DZ (id-s.hp.length) with X|X;·exact X
    ·rw[AR (by simp;omega)] at f;simp at f
   rw[X] at f;simp at f;exact .inr ⟨by omega,f.symm⟩
 have p:g'.ρ s.hp.length=w.heap.size:=by simp[g']
 have k:∀id,id<s.hp.length->g'.ρ id=g.ρ id:=λid f=>by simp[g',Bm f]
 have hs:SR g' {s with hp:=s.hp++[some cs]} w' a:=by
  refine⟨⟨?_,?_,?_,?_,?_,?_⟩,⟨h.er.size,?_,?_⟩⟩
  ·intro id o f;rcases split id o f with⟨q,f⟩|⟨rfl,rfl⟩
   ·refine(h.hr.obj id o f).keep ?_ λav e' fz k1 k2=>⟨k2.len,k2.plain,k2.typedUp rfl u.rho u.num rfl,k2.cold,k2.one,λj c cv G r=>(k2.rel j c cv G r).up u,λj c cv G r=>x _ _ _ (k2.own j c cv G r),by rw[k id q];exact k2.bn⟩
    rw[k id q];exact W _ (L id o f)
   ·refine fS.ofRow0 ?_ ⟨hl,h1,λj c cv G r=>(Y j c cv G r).up u,λj c cv G r=>?_,λj E n R=>⟨(J j E n R).1,(J j E n R).2.1,.inl (J j E n R).2.2⟩⟩;·rw[p];exact f3
    ·cases S:pU c with
     |true=>exact(z j c cv G r S).own _ _ _
     |false=>cases c<;>simp[pU] at S;simp[OwnOK]
  ·intro id H o o' k1 k2 M;rcases split id o k1 with⟨q,m1⟩|⟨e1, -⟩<;>rcases split H o' k2 with⟨N,m2⟩|⟨e2, -⟩
   ·rw[k _ q,k _ N];exact h.hr.apart id H o o' m1 m2 M
   ·rw[k _ q,e2,p];exact Bm (L id o m1)
   ·rw[k _ N,e1,p];exact(Bm (L H o' m2)).symm
   ·exact absurd (e1.trans e2.symm) M
  ·intro id o f j q;rcases split id o f with⟨B,f⟩|⟨rfl,rfl⟩
   ·rw[k _ B] at q;exact h.hr.notI id o f j q
   ·rw[p] at q;have:=F _ _ q;omega
  ·intro id o f;rcases split id o f with⟨B,f⟩|⟨rfl,rfl⟩
   ·rw[k _ B];exact h.hr.notO id o f
   ·rw[p];cases Z:g.O w.heap.size with
    |none=>rfl
    |some oc=>have:=h.hr.oLt _ _ Z;omega
  ·intro b j q;rw[y b j (F b j q)];exact h.hr.exI b j q
  ·intro b oc z;have:=h.hr.oLt b oc z;show b<w'.heap.size;rw[f1];omega
  ·intro n v cv C r;exact(h.er.rel n v cv C r).up u
  ·intro n v cv C r;exact x _ _ _ (h.er.own n v cv C r)
 refine⟨g',?_,rfl,rfl,rfl,rfl,by rw[f1];omega,λb z _ _=>W b z,u,λb j _ _ _ q=>q,λb _ _ Z=>Z,?_⟩
 ·have:=hs.set d (v:=.ptr s.hp.length 0) (cv:=.pointer (some ⟨w.heap.size,0,none⟩)) (by
   rw[<-p];exact .ptr _ _ (by simp)) (by simp[OwnOK])
  exact this
 ·intro id o f;rcases split id o f with⟨B,f⟩|⟨rfl,rfl⟩
  ·exact .inl ⟨o,f⟩
  ·exact .inr ⟨Ao _,.inl (by rw[p];exact Ao _)⟩
def adq(P:Program)(o:IOp)(m:Oper):Bool:=
 match o with
 |_=>false
theorem rI{I:Nat->Nat->Prop}{ρ:Nat->Nat}{N:Nat}{v:V}{cv:Value}(h:VRel I ρ N w v cv)(b:v.cells.all V.one=true):
  v.cells.length=cv.cells.size∧(∀c∈v.cells,c.one=true)∧∀(j:Nat) c u,v.cells[j]? =some c->cv.cells[j]? =some u->VRel I ρ N w c u:=by
 have e:∀c∈v.cells,c.one=true:=λc p=>Ak.1 b c p
 have k:=h;cases h with
 |agg cs us i _ r o=>exact⟨by simpa [V.cells,BN] using i,e,by simpa [V.cells,BN] using o⟩
 |undef=>simp[V.cells,V.one] at b
 |tup=>simp[V.cells,V.one] at b
 |junk cv q=>
  have d:cv.cells= #[cv]:=by cases cv<;>simp[DV] at q<;>rfl
  refine⟨by simp[V.cells,d],e,?_⟩;intro j c u b f;rw[d] at f;cases j with
  |zero=>simp[V.cells] at b f;subst b f;exact k
  |succ j=>simp[V.cells] at b
 |_=>
  refine⟨by simp[V.cells,BN],e,?_⟩;intro j c u b f;cases j with
  |zero=>simp[V.cells,BN] at b f;subst b f;exact k
  |succ j=>simp[V.cells] at b
theorem abB{d:Nat}{x:ac}(b:lL P (.box d x) m=true)(p:step Γ (.box d x) s=some (true,s'))(h:SR g s w a)(F:ax g s w a s' next):m.wp P a w next Q:=by
 obtain⟨dst,N,M,z,A,J⟩:=m;simp only[lL,Aa,beq_iff_eq] at b;obtain⟨rfl,b⟩:=b;split at b
 ·rename_i t y;simp only[Aa] at b;obtain⟨L,O⟩:=b;have q:=af L h.er;have f:(execOp a.eval ⟨some d,.box t y,M,z,A,J⟩).run P w=.ok (.value (.pointer (some ⟨w.heap.size,0,none⟩))) (w.alloc (.cells (a.eval y).cells t)):=by
   simp[execOp,Instr.box,newVar,newRow]
  simp only[step] at p;split at p
  ·rename_i cs B;obtain rfl:_=s':=by simpa using p
   rw[B] at q;generalize a.eval y=cv at q f;cases q with
   |agg _ vs G e1 C I=>exact bQ rfl f (h.newObj cs vs t G e1 I (λi c cv b e _=>C i c cv b e) (afW G C) d) F
  ·rename_i v B H;split at p
   ·rename_i k;obtain rfl:_=s':=by simpa using p
    have o:(a.eval y).cells= #[a.eval y]:=by have:=q.oneCell k;cases u:a.eval y<;>rw[u] at this<;>simp[DV] at this<;>rfl
    rw[o] at f;refine bQ rfl f (h.newObj [disown (x.ev s)] #[a.eval y] t rfl (by simpa [ke] using k) ?_ ?_ ?_ d) F
    ·intro i c cv b e;cases i with
     |zero=>simp at b e;subst b e;exact q.disown
     |succ i=>simp at b
    ·intro i c cv b e;cases i with
     |zero=>intro _;simp at b e;subst b e;exact tq _ _
     |succ i=>simp at b
    ·intro j E n r;cases j with
     |zero=>simp at r;cases u:x.ev s<;>rw[u] at r<;>simp[disown] at r
     |succ j=>simp at r
   ·simp at p
 ·simp at b
theorem afX{x:ac}{y:Operand}{q:Occ}(b:ag x y=true)(h:SR g s w a):
  ∃g₁,SR g₁ (x.after s) w a∧FR g s.hp w g₁ s.hp w∧g₁.I=g.I∧g₁.ρ=g.ρ∧OwnOK g₁ w q (x.ev s) (a.eval y):=by
 cases x with
 |t n=>exact⟨g,h,FR.refl _ _ _,rfl,rfl,OwnOK.disown _ _ _ _ _⟩
 |c v=>
  refine⟨g,h,FR.refl _ _ _,rfl,rfl,?_⟩;unfold ag at b;split at b;·rename_i e;cases e
  ·rename_i e;cases e
  ·rename_i e;cases e;exact pn b _
  ·rename_i e;cases e;simp[ac.ev,OwnOK]
  ·simp at b
 |tk n=>
  have d:y=.tmp n:=by
   unfold ag at b;split at b;·rename_i e;cases e
   ·rename_i k e;cases e;rw[show k=n by simpa using (beq_iff_eq.1 b).symm]
   ·rename_i e;cases e
   ·rename_i e;cases e
   ·simp at b
  subst d;have o:=h.er.getOwn n;obtain⟨g₁,f,p,j,r,i⟩:=wY (q:=q) (h.after (.tk n)) (po n s) o;exact⟨g₁,f,by simpa [kj] using p,j,r,i⟩
theorem SR.putCells(h:SR g s w a){id o:Nat}{cs news:List V}{us:List Value}(ho:s.obj id=some cs)(X:news.length=us.length)(h1:∀c∈news,c.one=true)
  (cc:o+news.length<=cs.length) (hv:∀(i:Nat) c cv,news[i]? =some c->us[i]? =some cv->VRel g.I g.ρ s.hp.length w c cv)
  (O:∀(i:Nat) c cv,news[i]? =some c->us[i]? =some cv->OwnOK g w (.cell id (o+i)) c cv) (a4:∀(i E n:Nat),news[i]? =some (.bn E n)->cs[o+i]? =some (.bn E n)∧(us[i]? =some (.pointer none)∨us[i]? =some (.pointer (some ⟨g.ρ id,o+i,none⟩)))):
  SR g (s.setObj id (cs.take o++news++cs.drop (o+news.length))) (w.setCells (g.ρ id) o us) a∧
   FR g s.hp w g (s.hp.set id (some (cs.take o++news++cs.drop (o+news.length)))) (w.setCells (g.ρ id) o us):=by
 obtain⟨z,b1⟩:=fI ho;obtain⟨M,e,hb,x⟩:=nN h.hr ho;obtain⟨⟨R,q1,q2⟩,q3,q4,q5,q6,q7⟩:=cI (g.ρ id) us o w M e (0,0) hb;let w':=w.setCells (g.ρ id) o us;let r:=cs.take o++news++cs.drop (o+news.length);have S:=x.len;have a0:∀b j,g.I b j->b≠g.ρ id:=by rintro b j A rfl;exact h.hr.notI id cs z j A
 have B:∀b j,g.I b j->w'.cell? ⟨b,j,none⟩=w.cell? ⟨b,j,none⟩:=by intro b j A;exact Bj _ us o w _ (λe=>absurd e (a0 b j A))
 have u:Up g.I g.ρ s.hp.length w g.I g.ρ s.hp.length w':=⟨λ_ _ h=>h,B,λ_ _=>rfl,Ao _⟩
 have q:∀H v cv,OwnOK g w H v cv->OwnOK g w' H v cv:=by intro H v cv a2;refine ch a2 rfl (λb j A=>⟨u.mono b j A,u.cell b j A⟩) ?_;intro b F;refine⟨F,q3 b ?_,λj t=>t⟩;rintro rfl;rw[h.hr.notO id cs z] at F;simp at F
 have y:∀j,R[j]? =if o<=j∧j<o+us.length then us[j-o]? else M[j]?:=by
  intro j;rw[<-cell_of_heap q1 j];split;·rename_i t;have:=BY (g.ρ id) us o w (λj' c5=>by rw[cell_of_heap hb,Ag (by omega)];rfl) (j-o) (by omega);rw[show o+(j-o)=j by omega] at this;rw[this,Ac]
  ·rename_i t;rw[Bj _ us o w _ (λ_ _=>by simp only;omega),cell_of_heap hb]
 have G:∀j,r[j]? =if o<=j∧j<o+news.length then news[j-o]? else cs[j]?:=by
  intro j;have ht:(cs.take o).length=o:=by simp;omega
  simp only[r];split;·rename_i t;rw[Be,Aj (by omega),ht,Am (by omega)]
  ·rename_i t;rcases AG j o with h'|h';·rw[Be,Am (by omega),AW,if_pos h']
   ·rw[Aj (by simp;omega),A9]
    congr 1
    simp;omega
 have Y:r.length=cs.length:=by simp[r];omega
 have N:∀c∈r,c.one=true:=by
  intro c k;simp only[r,AB] at k;rcases k with(k|k)|k;·exact x.one c (A7 k)
  ·exact h1 c k
  ·exact x.one c (Bd k)
 have bb:id<s.hp.length:=(Ad.1 z).1;have split:∀(f:Nat) o',(s.hp.set id (some r))[f]? =some (some o')->(f=id∧o'=r)∨(f≠id∧s.hp[f]? =some (some o')):=by
  intro f o' p;rw[At] at p;split at p;·rename_i e;simp[bb] at p;exact .inl ⟨e.symm,p.symm⟩
  ·rename_i e;exact .inr ⟨λe'=>e e'.symm,p⟩
 have C:∀(f:Nat) o',(s.hp.set id (some r))[f]? =some (some o')->∃L,s.hp[f]? =some (some L):=by
  intro f o' p;rcases split f o' p with⟨rfl,_⟩|⟨_,p⟩
  ·exact⟨cs,z⟩
  ·exact⟨_,p⟩
 refine⟨⟨⟨?_,?_,?_,?_,?_,?_⟩,⟨h.er.size,?_,?_⟩⟩,⟨rfl,q5,q6,q7,by rw[q4];exact Ao _,?_,?_,λ_ _ _ _ _ A=>A,λ_ _ _ hO=>hO,?_⟩⟩
 ·intro f o' p;simp only[St.setObj,AL];rcases split f o' p with⟨rfl,rfl⟩|⟨J,p⟩
  ·refine fS.ofRow0 q1 ⟨by rw[Y,q2,S],N,?_,?_,?_⟩
   ·intro j c cv k d;rw[G] at k;rw[y] at d;rw[<-X] at d;split at k;·rename_i t;rw[if_pos t] at d;exact(hv _ c cv k d).up u
    ·rename_i t;rw[if_neg t] at d;exact(x.rel j c cv k d).up u
   ·intro j c cv k d;rw[G] at k;rw[y] at d;rw[<-X] at d;split at k;·rename_i t;rw[if_pos t] at d;have:=O _ c cv k d;rw[show o+(j-o)=j by omega] at this;exact q _ _ _ this
    ·rename_i t;rw[if_neg t] at d;exact q _ _ _ (x.own j c cv k d)
   ·intro j E n k;rw[G] at k;split at k;·rename_i t;obtain⟨m1,m2⟩:=a4 _ E n k;rw[show o+(j-o)=j by omega] at m1 m2;obtain⟨m3,m4, -⟩:=x.bn j E n m1;refine⟨m3,by rw[q2];exact m4,?_⟩;rw[y,<-X,if_pos t];exact m2
    ·rename_i t;rw[y,<-X,if_neg t,q2];exact x.bn j E n k
  ·refine(h.hr.obj f o' p).keep ?_ λbY e2 fz k1 k2=>⟨k2.len,k2.plain,k2.typedUp rfl u.rho u.num rfl,k2.cold,k2.one,λj c cv k d=>(k2.rel j c cv k d).up u,λj c cv k d=>q _ _ _ (k2.own j c cv k d),k2.bn⟩
   rw[q3 _ (h.hr.apart f id o' cs p z J)]
 ·intro id1 Z W c2 k1 k2 J;obtain⟨_,k1⟩:=C id1 W k1;obtain⟨_,k2⟩:=C Z c2 k2;exact h.hr.apart _ _ _ _ k1 k2 J
 ·intro id1 W k1;obtain⟨_,k1⟩:=C id1 W k1;exact h.hr.notI _ _ k1
 ·intro id1 W k1;obtain⟨_,k1⟩:=C id1 W k1;exact h.hr.notO _ _ k1
 ·intro b j A;have:=B b j A;rw[this];exact h.hr.exI b j A
 ·intro b oc F;rw[q4];exact h.hr.oLt b oc F
 ·intro n v cv p d;simp only[St.setObj,AL];exact(h.er.rel n v cv p d).up u
 ·intro n v cv p d;exact q _ _ _ (h.er.own n v cv p d)
 ·intro b _ a1 _;exact q3 b (λe=>a1 id cs z e.symm)
 ·simp only[AL];exact u
 ·intro f o' p;obtain⟨L,p⟩:=C f o' p;exact .inl ⟨L,p⟩
theorem SR.bareCell(h:SR g s w a){id o:Nat}{cs:List V}(F:s.obj id=some cs):
  SR g (s.setObj id (cs.set o (disown (cs.getD o .undef)))) w a∧FR g s.hp w g (s.hp.set id (some (cs.set o (disown (cs.getD o .undef))))) w:=by
 obtain⟨y,G⟩:=fI F;have C:id<s.hp.length:=(Ad.1 y).1;let k:=cs.set o (disown (cs.getD o .undef));have split:∀(b:Nat) o',(s.hp.set id (some k))[b]? =some (some o')->(b=id∧o'=k)∨(b≠id∧s.hp[b]? =some (some o')):=by
  intro b o' d;rw[At] at d;split at d;·rename_i e;simp[C] at d;exact .inl ⟨e.symm,d.symm⟩
  ·rename_i e;exact .inr ⟨λI=>e I.symm,d⟩
 have r:∀(b:Nat) o',(s.hp.set id (some k))[b]? =some (some o')->∃u,s.hp[b]? =some (some u):=by
  intro b o' d;rcases split b o' d with⟨rfl,_⟩|⟨_,d⟩
  ·exact⟨cs,y⟩
  ·exact⟨_,d⟩
 have i:∀(j:Nat) c,k[j]? =some c->∃p,cs[j]? =some p∧(c=p∨c=disown p):=by
  intro j c f;simp only[k,At] at f;split at f
  ·rename_i e;subst e;split at f;·rename_i z;refine⟨cs[o],Ac z,.inr ?_⟩;simp only[Ab] at f;rw[<-f];simp[As,Ac z]
   ·simp at f
  ·exact⟨c,f,.inl rfl⟩
 refine⟨⟨⟨?_,?_,?_,?_,h.hr.exI,h.hr.oLt⟩,⟨h.er.size,?_,h.er.own⟩⟩,⟨rfl,rfl,rfl,rfl,Ao _,λ_ _ _ _=>rfl,?_,λ_ _ _ _ _ J=>J,λ_ _ _ N=>N,?_⟩⟩
 ·intro b o' d;simp only[St.setObj,AL];rcases split b o' d with⟨rfl,rfl⟩|⟨x,d⟩
  ·obtain⟨H,e,L,t⟩:=nN h.hr F;refine fS.ofRow0 L ⟨by simp[k,t.len],?_,?_,?_,?_⟩
   ·intro c f;obtain⟨j,M,rfl⟩:=AZ.1 f;obtain⟨p,k1,k2⟩:=i j _ (Ac M);have:=t.one p (Ap k1);rcases k2 with k2|k2<;>rw[k2];·exact this
    ·rw[ke];exact this
   ·intro j c cv f q;obtain⟨p,k1,k2⟩:=i j _ f;have:=t.rel j p cv k1 q;rcases k2 with k2|k2<;>rw[k2];·exact this
    ·exact this.disown
   ·intro j c cv f q;obtain⟨p,k1,k2⟩:=i j _ f;have:=t.own j p cv k1 q;rcases k2 with k2|k2<;>rw[k2];·exact this
    ·exact OwnOK.disown _ _ _ _ _
   ·intro j E n f;obtain⟨p,k1,k2⟩:=i j _ f;rcases k2 with k2|k2;·exact t.bn j E n (by rw[k2];exact k1)
    ·cases p<;>simp[disown] at k2
  ·exact h.hr.obj b o' d
 ·intro id1 B A c2 k1 k2 x;obtain⟨_,k1⟩:=r id1 A k1;obtain⟨_,k2⟩:=r B c2 k2;exact h.hr.apart _ _ _ _ k1 k2 x
 ·intro id1 A k1;obtain⟨_,k1⟩:=r id1 A k1;exact h.hr.notI _ _ k1
 ·intro id1 A k1;obtain⟨_,k1⟩:=r id1 A k1;exact h.hr.notO _ _ k1
 ·intro n v cv d q;simp only[St.setObj,AL];exact h.er.rel n v cv d q
 ·simp only[AL];exact Up.refl _ _ _ _
 ·intro b o' d;obtain⟨u,d⟩:=r b o' d;exact .inl ⟨u,d⟩
theorem ae4{d n:Nat}{agg:Bool}{x:ac}(y:lL P (.ld d n agg true x) m=true)(c:step Γ (.ld d n agg true x) s=some (true,s'))(h:SR g s w a)(W:ax g s w a s' next):m.wp P a w next Q:=by
 obtain⟨dst,op,ty,H,N,gd⟩:=m;simp only[lL,Aa,beq_iff_eq] at y;obtain⟨rfl,y⟩:=y;split at y
 ·rename_i t R;simp only[Aa,beq_iff_eq,AK] at y;obtain⟨S,Y,⟨rfl,rfl⟩,Z⟩:=y;have I:=af Z h.er;simp only[step] at c;split at c
  ·rename_i cs L;have u:aY P (.ld d 1 false false x) ⟨some d,.load t R,ty,H,N,gd⟩=true:=by
    simp[aY,S,Y,Z]
   refine xI (Γ:=Γ) u ?_ h W;simp only[step,L];exact c
  ·rename_i id o L;split at c
   ·rename_i cs J;split at c
    ·rename_i av;simp only[if_true] at c;cases G:pU (cs.getD o .undef) with
     |false=>rw[G] at c;simp at c
     |true=>
     rw[G] at c;simp only[if_true] at c;obtain rfl:_=s':=by simpa using c
     rw[L] at I;generalize M:a.eval R=cv at I;cases I with
     |ptr _ _ bb=>
      obtain⟨i,e,hb,A⟩:=nN h.hr J;have X:=A.len;have z:o<cs.length:=by omega
      have B:o<i.size:=by omega
      have F:=ge (P:=P) (w:=w) (b:=g.ρ id) (o:=o) (vs:=[i[o]]) S Y (.inr rfl) rfl (λj v O=>by
       cases j with
       |zero=>simp at O;subst O;rw[cell_of_heap hb];simp[B]
       |succ j=>simp at O)
      have E:cs[o]? =some cs[o]:=Ac z;have C:i[o]? =some i[o]:=Ag B;obtain⟨b1,b2⟩:=h.bareCell (o:=o) J;obtain⟨g₁,t1,t2,t3,t4,t5⟩:=wY (q:=.slot d) b1 (p:=.cell id o) (by intro a2 v f r;simp only[St.setObj] at f;rw[CM (Ad.1 (fI J).1).1] at f;simp only[Ab] at f;subst f;rw[CM z] at r;simp only[Ab] at r;subst r;exact dx _) (A.own o _ _ E C);have k:(Ct t (.pointer (some ⟨g.ρ id,o,none⟩))).run P w=.ok i[o] w:=F;refine bQ rfl (cv:=i[o]) (w':=w) (by simp[execOp,M,k]) ⟨g₁,?_,?_⟩ W
      ·have hl:a6 false ((cs.drop o).take 1)=cs[o]:=by
        rw[BU z];rfl
       rw[hl];refine t1.set d ?_ t5;rw[t3,t4];simpa [St.setObj] using A.rel o _ _ E C
      ·exact b2.trans (by simpa [St.set,St.setObj] using t2)
    ·simp at c
   ·simp at c
  ·simp at c
 ·simp at y
theorem ad2{d:Option Nat}{n:Nat}{x v:ac}(b:lL P (.st d n x v) m=true)(A:step Γ (.st d n x v) s=some (true,s'))(h:SR g s w a)(hn:ax g s w a s' next):m.wp P a w next Q:=by
 obtain⟨dst,op,ty,R,ad,gd⟩:=m;simp only[lL,Aa,beq_iff_eq] at b;obtain⟨rfl,b⟩:=b;split at b
 ·rename_i t x' y;simp only[Aa,beq_iff_eq] at b;obtain⟨h1,h2,h3⟩:=b;have X:=af h2 h.er;have F:=af h3 h.er;simp only[step] at A;split at A
  ·rename_i id o hx;split at A
   ·rename_i cs ho;split at A
    ·rename_i r;simp only[Aa,beq_iff_eq,decide_eq_true_eq] at r;obtain⟨⟨H,J⟩,b0,a0⟩:=r;obtain rfl:_=s':=by simpa using A
     rw[hx] at X;generalize S:a.eval x'=cx at X;cases X with
     |ptr _ _ b6=>
      obtain⟨bY,e,hb,a1⟩:=nN h.hr ho;have bs:=a1.len;obtain⟨W,c2,c3⟩:=rI F J;have av:(a.eval y).cells.size=n:=by rw[<-W];exact H
      have G:(execOp a.eval ⟨dst,.store t x' y,ty,R,ad,gd⟩).run P w=.ok .skip (w.setCells (g.ρ id) o (a.eval y).cells.toList):=by
       have:=run_storeCells_cells (P:=P) (g.ρ id) o (a.eval y).cells.toList 0 w
        (λj M=>by rw[cell_of_heap hb,Ag (by simp at M;omega)];rfl)
        (λj M=>by simp[Ci,hb])
        (λu hu=>by
         obtain⟨j,M,rfl⟩:=AZ.1 hu;have L:j<(v.ev s).cells.length:=by rw[W];simpa using M
         exact(c3 j _ _ (Ac L) (by simp)).oneCell (c2 _ (Bf L)))
       simp[execOp,S,D5,BE,storeVar,db h1,av,this]
      have key:∃g₁,SR g₁ (v.after s) w a∧FR g s.hp w g₁ s.hp w∧g₁.I=g.I∧g₁.ρ=g.ρ∧
        ∀(i:Nat) c cv,(v.ev s).cells[i]? =some c->(a.eval y).cells.toList[i]? =some cv->OwnOK g₁ w (.cell id (o+i)) c cv:=by
       by_cases k:∃cs,v.ev s=.agg cs
       ·obtain⟨b5,k⟩:=k;refine⟨g,h.after v,FR.refl _ _ _,rfl,rfl,?_⟩;rw[k] at F;generalize a.eval y=ci at F;cases F with
        |agg _ ck _ _ N _=>intro i c cv b f;rw[k] at b;exact(N i c cv (by simpa [V.cells] using b) (by simpa [BN] using f)).own _ _ _
       ·have p:(v.ev s).cells=[v.ev s]:=by
         cases O:v.ev s<;>first|rfl|(rw[O] at k;exact absurd ⟨_,rfl⟩ k)
        obtain⟨g₁,k1,k2,k3,k4,k5⟩:=afX (q:=.cell id o) h3 h;refine⟨g₁,k1,k2,k3,k4,?_⟩;have B:(v.ev s).one=true:=c2 _ (by rw[p];exact Aq.2 rfl);have z:(a.eval y).cells= #[a.eval y]:=by have:=F.oneCell B;cases O:a.eval y<;>rw[O] at this<;>simp[DV] at this<;>rfl
        intro i c cv b f;rw[p] at b;rw[z] at f;cases i with
        |zero=>simp at b f;subst b f;exact k5
        |succ i=>simp at b
      obtain⟨g₁,k1,k2,k3,k4,k5⟩:=key;have Z:(v.after s).obj id=some cs:=by unfold St.obj;rw[kj];exact ho
      have C:g₁.ρ id=g.ρ id:=by rw[k4]
      obtain⟨Y,p2⟩:=k1.putCells (o:=o) (news:=(v.ev s).cells) (us:=(a.eval y).cells.toList) Z (by simpa using W) c2 (by omega)
       (λi c cv b f=>by rw[k3,k4,kj];exact c3 i c cv b (by simpa using f)) k5 (λi E n hi=>absurd (Ak.1 a0 _ (Ap hi)) (by simp[pU]))
      rw[C,H,Be] at Y p2;unfold Ch C6;rw[G];cases dst with
      |none=>refine hn _ _ g₁ Y ?_ rfl;refine k2.trans ?_;simpa [St.setObj,St.setO,kj] using p2
      |some d=>refine hn _ _ g₁ (Y.set d (.undef _) (by simp[OwnOK])) ?_ rfl;refine k2.trans ?_;simpa [St.setObj,St.setO,St.set,kj] using p2
    ·simp at A
   ·simp at A
  ·simp at A
 ·simp at b
theorem km{α:Type}(l news:List α)(o:Nat)(d:o+news.length<=l.length)(j:Nat):
  (l.take o++news++l.drop (o+news.length))[j]? =if o<=j∧j<o+news.length then news[j-o]? else l[j]?:=by
 have e:(l.take o).length=o:=by simp;omega
 split;·rename_i c;rw[Be,Aj (by omega),e,Am (by omega)]
 ·rename_i c;rcases AG j o with b|b;·rw[Be,Am (by omega),AW,if_pos b]
  ·rw[Aj (by simp;omega),A9]
   congr 1
   simp;omega
structure Row(I:Nat->Nat->Prop)(ρ:Nat->Nat)(N:Nat)(w:World)(cs:List V)(us:List Value):Prop where
 len:cs.length=us.length
 one:∀c∈cs,c.one=true
 rel:∀(i:Nat) c cv,cs[i]? =some c->us[i]? =some cv->VRel I ρ N w c cv
 nil:∀(i:Nat) c cv,cs[i]? =some c->us[i]? =some cv->OwnNil c cv
theorem Row.over{I:Nat->Nat->Prop}{ρ:Nat->Nat}{N:Nat}{cs news:List V}{us vs:List Value}(h:Row I ρ N w cs us)(k:Row I ρ N w news vs)(o:Nat)(f:o+news.length<=cs.length):
  Row I ρ N w (cs.take o++news++cs.drop (o+news.length)) (us.take o++vs++us.drop (o+vs.length)):=by
 have r:=h.len;have q:=k.len;have p:=km cs news o f;have j:=km us vs o (by omega);refine⟨by simp;omega,?_,?_,?_⟩
 ·intro c d;simp only[AB] at d;rcases d with(d|d)|d;·exact h.one c (A7 d)
  ·exact k.one c d
  ·exact h.one c (Bd d)
 ·intro i c cv d b;rw[p] at d;rw[j,<-q] at b;split at d;·rename_i e;rw[if_pos e] at b;exact k.rel _ _ _ d b
  ·rename_i e;rw[if_neg e] at b;exact h.rel _ _ _ d b
 ·intro i c cv d b;rw[p] at d;rw[j,<-q] at b;split at d;·rename_i e;rw[if_pos e] at b;exact k.nil _ _ _ d b
  ·rename_i e;rw[if_neg e] at b;exact h.nil _ _ _ d b
theorem uW(fs:List Field)(h:fs.all (λf=>(P.info? f.type).isSome)=true):
  ∃places,fs.mapM (λf=>(P.info? f.type).map λi=>(f.offset,i.size))=some places∧∀(i:Nat) f n,fs[i]? =some f->be P f.type=some n->places[i]? =some (f.offset,n):=by
 induction fs with
 |nil=>exact⟨[],rfl,by simp⟩
 |cons f fs o=>
  simp only[B3,Aa] at h;obtain⟨places,k,e⟩:=o h.2;obtain⟨i,d⟩:=A0.1 h.1;refine⟨(f.offset,i.size)::places,by simp[List.mapM_cons,d,k],?_⟩;intro j p n c b;cases j with
  |zero=>simp at c;subst c;simp[be,d] at b;simp[b]
  |succ j=>exact e j p n (by simpa using c) b
theorem nv(h:SR g s w a){fs:Array Field}{places:Nat->Option (Nat×Nat)}(hp:∀(i:Nat) f n,fs[i]? =some f->be P f.type=some n->places i=some (f.offset,n)):
  ∀(F:List (Nat×Nat×ac))(G:List (Nat×Operand))(cs o:List V)(d:Array Value),iY P fs F G=true->Row g.I g.ρ s.hp.length w cs d.toList->
   lay cs (F.map λ(A,n,x)=>(A,n,x.ev s))=some o->∃e,BK places d (G.map λ(i,y)=>(i,a.eval y))=some e∧Row g.I g.ρ s.hp.length w o e.toList
 | [],[],cs,o,d,_,H,u=>by simp[lay] at u;subst u;exact⟨d,by simp[BK],H⟩
 |(A,n,x)::F,(i,y)::G,cs,o,d,v,H,u=>by
  simp only[iY,Aa] at v;obtain⟨p,J,L⟩:=v;split at p
  ·rename_i f W;simp only[Aa,beq_iff_eq] at p;obtain⟨rfl,X⟩:=p;simp only[AI,lay] at u;split at u
   ·rename_i k;simp only[Aa,beq_iff_eq,decide_eq_true_eq] at k;obtain⟨⟨r,B⟩,S⟩:=k;obtain⟨R,c2,Y⟩:=rI (af J h.er) B;have C:Row g.I g.ρ s.hp.length w ((x.ev s).cells.map disown) (a.eval y).cells.toList:=by
     refine⟨by simp[R],?_,?_,?_⟩;·intro c t;obtain⟨M,q,rfl⟩:=Av.1 t;rw[ke];exact c2 M q
     ·intro j c cv t N;rw[Au,Ah] at t;obtain⟨M,q,rfl⟩:=t;exact(Y j _ _ q (by simpa using N)).disown
     ·intro j c cv t _;rw[Au,Ah] at t;obtain⟨M,q,rfl⟩:=t;exact tq _ _
    have E:(a.eval y).cells.size=n:=by rw[<-R];exact r
    have O:d.size=cs.length:=by have:=H.len;simpa using this.symm
    have z:=lK (a.eval y).cells.toList f.offset 0 d (by simp[E];omega);simp only[Cv,AY] at z;have b:=H.over C f.offset (by simp[r];omega);simp only[AU,r,AY] at b;rw[<-z] at b;obtain⟨e,k1,k2⟩:=nv h hp F G _ o _ L b u;refine⟨e,?_,k2⟩;simp only[AI,BK,hp i f n W X,E];rw[if_neg (by simp;omega)];rw[<-k1]
    congr 1
    rw[<-Dc,C1]
   ·simp at u
  ·simp at p
 | [],_::_,_,_,_,v,_,_=>by simp[iY] at v
 |_::_,[],_,_,_,v,_,_=>by simp[iY] at v
theorem abC{d:Nat}{zero:List V}{G:List (Nat×Nat×ac)}(k:lL P (.bld d zero G) m=true)(x:step Γ (.bld d zero G) s=some (true,s'))(h:SR g s w a)(u:ax g s w a s' next):m.wp P a w next Q:=by
 obtain⟨dst,op,ty,Y,ad,gd⟩:=m;simp only[lL,Aa,beq_iff_eq] at k;obtain⟨rfl,k⟩:=k;split at k
 ·rename_i t H;simp only[Aa] at k;obtain⟨W,v⟩:=k;split at v
  ·rename_i fs O;simp only[Aa] at v;obtain⟨v,Z⟩:=v;obtain⟨i,z,E,L,p⟩:=iq W;obtain⟨k1,k2,k3⟩:=dw (I:=g.I) (ρ:=g.ρ) (N:=s.hp.length) (w:=w) p;obtain⟨places,e1,X⟩:=uW (P:=P) fs.toList (by simpa using Z);simp only[step,Ah] at x;obtain⟨A,R,x⟩:=x;obtain rfl:_=s':=by simpa using x
   obtain⟨o,S,r⟩:=nv (P:=P) (fs:=fs) (places:=λi=>places.toArray[i]?) h (λi f n C u=>by simpa using X i f n (by simpa using C) u) G H.toList zero A z.cells v ⟨k1,k2,k3,λi c cv k b=>pm p i c cv k b⟩ R;have q:=run_build (P:=P) w t (H.map λ(i,y)=>(i,a.eval y)) o (by simp only[Program.built,E,O,L,e1];simpa using S);refine ae h rfl (cv:=.agg o) (by simp[execOp,q]) (.agg _ _ (by simpa using r.len) r.one (λi c cv k b=>r.nil i c cv k (by simpa using b)) (λi c cv k b=>r.rel i c cv k (by simpa using b))) rfl u
  ·rename_i len e O;split at v
   ·rename_i sz B;obtain⟨i,z,E,L,p⟩:=iq W;obtain⟨k1,k2,k3⟩:=dw (I:=g.I) (ρ:=g.ρ) (N:=s.hp.length) (w:=w) p;simp only[step,Ah] at x;obtain⟨A,R,x⟩:=x;obtain rfl:_=s':=by simpa using x
    obtain⟨ie,M,J⟩:∃i,P.info? e=some i∧i.size=sz:=by unfold be at B;obtain⟨i,E,h⟩:=Ah.1 B;exact⟨i,E,h⟩
    obtain⟨o,S,r⟩:=nv (P:=P) (fs:=afV len sz e) (places:=λi=>some (i*sz,sz)) h (λi f n C u=>by
     have C:(List.map (λi=>ae3 e (i*sz)) (AE len))[i]? =some f:=by simpa [afV] using C
     rw[Au,Ah] at C;obtain⟨j,F,rfl⟩:=C;have F:j=i:=by
      rw[DS] at F;·exact(Ai F).symm
      ·exact(by simpa using (Ad.1 F).1)
     subst F;have u:be P e=some n:=u;rw[B] at u;cases u;rfl) G H.toList zero A z.cells v ⟨k1,k2,k3,λi c cv k b=>pm p i c cv k b⟩ R
    have q:=run_build (P:=P) w t (H.map λ(i,y)=>(i,a.eval y)) o (by simp only[Program.built,E,O,L,M,J];simpa using S);refine ae h rfl (cv:=.agg o) (by simp[execOp,q]) (.agg _ _ (by simpa using r.len) r.one (λi c cv k b=>r.nil i c cv k (by simpa using b)) (λi c cv k b=>r.rel i c cv k (by simpa using b))) rfl u
   ·simp at v
  ·simp at v
 ·simp at k
end
def jH:List ac->List Operand->Bool
 | [],[]=>true
 |x::xs,y::ys=>ag x y&&jH xs ys
 |_,_=>false
def gt(P:Program)(o:IOp)(m:Oper):Bool:=
 match o with
 | .alr d n=>(m.dst==some d)&&(match m.op with| .alloc t=>(match P.info? t with|some i=>(match i.zero with|some z=>z.cells.size==n|none=>false)|none=>false)|_=>false)
 | .frz d r n v=>(m.dst==d)&&(match m.op with| .store t (.tmp e) b=>(r==e)&&((be P t==some n)&&ag v b)|_=>false)
 | .lde d n agg x=>aY P (.ld d n agg false x) m
 | .boxe d x=>(m.dst==some d)&&(match m.op with| .box t y=>ag x y|_=>false)
 | .mkf d f xs=>(m.dst==some d)&&(match m.op with| .makeFunc (.func c) first ys=>(f==c)&&(first.isEmpty&&jH xs ys.toList)|_=>false)
 |_=>false
section
variable{w w':World}{g g':Gh}{s s':St}{a:Act}{P:Program}{Γ:ao}{m:Oper}{next:Act->World->Prop}{Q:Exit->Act->World->Prop}
theorem SR.newLaid(h:SR g s w a)(cs:List V)(d:Nat)(f:Array Value)(e:TypeId)
  (J:cs.length=f.size) (G:∀c∈cs,c.one=true)
  (C:∀(j:Nat) c cv,cs[j]? =some c->f[j]? =some cv->VRel g.I g.ρ s.hp.length w c cv):
  ∃g',SR g' (s.set d (.ea cs)) (w.alloc (.cells f e)) (a.put (some d) (.pointer (some ⟨w.heap.size,0,none⟩)))∧FR g s.hp w g' s.hp (w.alloc (.cells f e)):=by
 obtain⟨H,k,y⟩:=ce w (.cells f e);let g':Gh:={I:=λb j=>g.I b j∨(b=w.heap.size∧j<cs.length),ρ:=g.ρ,O:=g.O,β:=g.β}
 have z:∀b j,g.I b j->b<w.heap.size:=by intro b j t;obtain⟨v,C⟩:=A0.1 (h.hr.exI b j t);exact BP _ _ C
 have q:∀b j,b<w.heap.size->(w.alloc (.cells f e)).cell? ⟨b,j,none⟩=w.cell? ⟨b,j,none⟩:=by intro b j r;simp[Cc,k b r]
 have u:Up g.I g.ρ s.hp.length w g'.I g'.ρ s.hp.length (w.alloc (.cells f e)):=⟨λb j t=>.inl t,λb j t=>q b j (z b j t),λ_ _=>rfl,Ao _⟩
 have p:∀j,(w.alloc (.cells f e)).cell? ⟨w.heap.size,j,none⟩=f[j]?:=λj=>cell_of_heap y j
 have F:SR g' s (w.alloc (.cells f e)) a:=by
  refine h.keep none trivial rfl u ?_ ?_ ?_ ?_
  ·intro B b r _;have x:=h.hr.oLt b B r;refine⟨r,k b x,?_⟩;rintro j (i|⟨i,_⟩);·exact i
   ·omega
  ·intro id cs A;have x:=(h.hr.obj id cs A).lt;refine⟨k _ x,h.hr.notO id cs A,?_⟩;rintro j (i|⟨i,_⟩);·exact i
   ·omega
  ·rintro b j (i|⟨rfl,i⟩);·rw[q b j (z b j i)];exact h.hr.exI b j i
   ·rw[p,Ag (by omega)];rfl
  ·intro b o r;have:=h.hr.oLt b o r;omega
 refine⟨g',F.set d ?_ (by simp[OwnOK]),⟨rfl,rfl,rfl,rfl,by omega,λb r _ _=>k b r,u,?_,λ_ _ _ h=>h,λ_ cs h=>.inl ⟨cs,h⟩⟩⟩
 ·refine .ea cs _ _ (λj=>f[j]?.getD undef) G ?_ ?_ ?_;·intro j i;exact .inr ⟨rfl,by omega⟩
  ·intro j i;rw[Aw,p,Ag (by omega)];rfl
  ·intro j c E;have i:j<f.size:=by rw[<-J];exact(Ad.1 E).1
   have:=C j c _ E (Ag i);rw[Ag i];exact this.up u
 ·rintro b j r _ L (t|⟨rfl,_⟩);·exact t
  ·omega
theorem ahf{d:Nat}{x:ac}(b:gt P (.boxe d x) m=true)(q:step Γ (.boxe d x) s=some (true,s'))(h:SR g s w a)(C:ax g s w a s' next):m.wp P a w next Q:=by
 obtain⟨dst,L,I,u,A,H⟩:=m;simp only[gt,Aa,beq_iff_eq] at b;obtain⟨rfl,b⟩:=b;split at b
 ·rename_i t y;have r:=af b h.er;have e:(execOp a.eval ⟨some d,.box t y,I,u,A,H⟩).run P w=.ok (.value (.pointer (some ⟨w.heap.size,0,none⟩))) (w.alloc (.cells (a.eval y).cells t)):=by
   simp[execOp,Instr.box,newVar,newRow]
  simp only[step] at q;split at q
  ·rename_i cs B;obtain rfl:_=s':=by simpa using q
   rw[B] at r;generalize a.eval y=cv at r e;cases r with
   |agg _ vs J e1 M G=>
    refine bQ rfl e (h.newLaid (cs.map disown) d vs t (by simpa using J) ?_ ?_) C;·intro c b;obtain⟨z,o,rfl⟩:=Av.1 b;rw[ke];exact e1 z o
    ·intro j c cv b f;rw[Au,Ah] at b;obtain⟨z,o,rfl⟩:=b;exact(G j z cv o f).disown
  ·rename_i v B E;split at q
   ·rename_i k;obtain rfl:_=s':=by simpa using q
    have p:(a.eval y).cells= #[a.eval y]:=by have:=r.oneCell k;cases F:a.eval y<;>rw[F] at this<;>simp[DV] at this<;>rfl
    rw[p] at e;refine bQ rfl e (h.newLaid [disown (x.ev s)] d #[a.eval y] t rfl (by simpa [ke] using k) ?_) C;intro i c cv b f;cases i with
    |zero=>simp at b f;subst b f;exact r.disown
    |succ i=>simp at b
   ·simp at q
 ·simp at b
theorem ahM{d n:Nat}{agg:Bool}{x:ac}(f:gt P (.lde d n agg x) m=true)(b:step Γ (.lde d n agg x) s=some (true,s'))(h:SR g s w a)(c:ax g s w a s' next):m.wp P a w next Q:=by
 refine xI (Γ:=Γ) (d:=d) (n:=n) (agg:=agg) (x:=x) f ?_ h c;simp only[step] at b ⊢;split at b;·rename_i cs e;rw[e];exact b
 ·simp at b
theorem ahN{d n:Nat}(q:gt P (.alr d n) m=true)(E:step Γ (.alr d n) s=some (true,s'))(h:SR g s w a)(M:ax g s w a s' next):m.wp P a w next Q:=by
 obtain⟨dst,S,X,G,N,W⟩:=m;simp only[gt,Aa,beq_iff_eq] at q;obtain⟨rfl,q⟩:=q;split at q
 ·rename_i t;split at q
  ·rename_i i r;split at q
   ·rename_i z H;have F:z.cells.size=n:=by simpa using q
    obtain rfl:_=s':=by simpa [step] using E
    have f:=ce w (.cells z.cells t);obtain⟨J,c,A⟩:=f;refine bQ rfl (w':=w.alloc (.cells z.cells t)) (cv:=.pointer (some ⟨w.heap.size,0,none⟩)) (by simp[execOp,Instr.alloc,zeroValue,typeInfo,r,H,newVar,newRow]) ?_ M;let g':Gh:={I:=g.I,ρ:=g.ρ,O:=λb=>if b=w.heap.size then some (.slot d) else g.O b,β:=g.β}
    have y:∀b j,g.I b j->b<w.heap.size:=by intro b j r;obtain⟨v,L⟩:=A0.1 (h.hr.exI b j r);exact BP _ _ L
    have k:∀b j,b<w.heap.size->(w.alloc (.cells z.cells t)).cell? ⟨b,j,none⟩=w.cell? ⟨b,j,none⟩:=by intro b j e;simp[Cc,c b e]
    have u:Up g.I g.ρ s.hp.length w g'.I g'.ρ s.hp.length (w.alloc (.cells z.cells t)):=⟨λb j r=>r,λb j r=>k b j (y b j r),λ_ _=>rfl,Ao _⟩
    have E:SR g' s (w.alloc (.cells z.cells t)) a:=by
     refine h.keep none trivial rfl u ?_ ?_ ?_ ?_;·intro C b e _;have p:=h.hr.oLt b C e;exact⟨by simp[g',Bm p,e],c b p,λj x=>x⟩
     ·intro id cs B;have p:=(h.hr.obj id cs B).lt;exact⟨c _ p,by simp[g',Bm p,h.hr.notO id cs B],λj x=>x⟩
     ·intro b j x;rw[k b j (y b j x)];exact h.hr.exI b j x
     ·intro b o e;simp only[g'] at e;split at e;·omega
      ·have:=h.hr.oLt b o e;omega
    refine⟨g',E.set d (.raw n _) ?_,⟨rfl,rfl,rfl,rfl,by omega,λb e _ _=>c b e,u,λb j _ _ _ r=>r,?_,λ_ cs h=>.inl ⟨cs,h⟩⟩⟩;·refine⟨by simp[g'],⟨z.cells,t,A,F⟩,λj x=>?_⟩;exact absurd (y _ _ x) (Eb _)
    ·intro b e R;simp[g',Bm e,R]
   ·simp at q
  ·simp at q
 ·simp at q
theorem ER.put'{N:Nat}(h:ER g N w s.env a.tmps)(d:Nat){v:V}(k:VRel g.I g.ρ N w v (a.tmps.getD d undef))(o:OwnOK g w (.slot d) v (a.tmps.getD d undef)):
  ER g N w (s.set d v).env a.tmps:=by
 refine⟨by simp[St.set,h.size],?_,?_⟩
 ·intro n j i b c;simp only[St.set,At] at b;by_cases e:d=n
  ·subst e;simp only[if_true] at b;split at b;·obtain rfl:=Ai b;obtain⟨f,rfl⟩:=AN.1 c;simpa [BA,f] using k
   ·simp at b
  ·simp only[e,if_false] at b;exact h.rel n _ _ b c
 ·intro n j i b c;simp only[St.set,At] at b;by_cases e:d=n
  ·subst e;simp only[if_true] at b;split at b;·obtain rfl:=Ai b;obtain⟨f,rfl⟩:=AN.1 c;simpa [BA,f] using o
   ·simp at b
  ·simp only[e,if_false] at b;exact h.own n _ _ b c
theorem ahO{d:Option Nat}{r n:Nat}{v:ac}(q:gt P (.frz d r n v) m=true)(L:step Γ (.frz d r n v) s=some (true,s'))(h:SR g s w a)(hn:ax g s w a s' next):m.wp P a w next Q:=by
 obtain⟨dst,op,ty,a0,bY,gd⟩:=m;simp only[gt,Aa,beq_iff_eq] at q;obtain⟨rfl,q⟩:=q;split at q
 ·rename_i t r' R;simp only[Aa,beq_iff_eq] at q;obtain⟨rfl,h1,h3⟩:=q;have r2:=af h3 h.er;simp only[step] at L;split at L
  ·rename_i m hr;split at L
   ·rename_i y;simp only[Aa,beq_iff_eq] at y;obtain⟨hm,G,Z⟩:=y;obtain rfl:=AA hm;obtain rfl:_=s':=by simpa using L
    have r1:=h.er.get r;have ro:=h.er.getOwn r;rw[hr] at r1 ro;obtain⟨c1,c2,c3⟩:=rI r2 Z;have ad:(a.eval R).cells.size=m:=by rw[<-c1];exact G
    generalize N:a.tmps.getD r undef=cx at r1 ro;cases r1 with
    |raw _ b=>
     obtain⟨M,⟨a1,e,X,cv⟩,o3⟩:=ro;simp only at M X o3;have bn:SR g (s.set r .undef) w a:=by have:=h.bare r;rw[hr] at this;exact this
     let us:=(a.eval R).cells.toList;have cy:us.length=m:=by simpa [us] using ad
     obtain⟨⟨b3,q1,q2⟩,q3,q4,q5,q6,q7⟩:=cI b us 0 w a1 e (0,0) X;let w':=w.setCells b 0 us;have W:(execOp a.eval ⟨dst,.store t (.tmp r) R,ty,a0,bY,gd⟩).run P w=.ok .skip (w.setCells b 0 us):=by
      have:=run_storeCells_cells (P:=P) b 0 us 0 w
       (λj k=>by rw[cell_of_heap X,Ag (by omega)];rfl)
       (λj k=>by simp[Ci,X])
       (λu hu=>by
        obtain⟨j,k,rfl⟩:=AZ.1 hu;have A:j<(v.ev s).cells.length:=by rw[c1];simpa [us] using k
        exact(c3 j _ _ (Ac A) (by simp[us])).oneCell (c2 _ (Bf A)))
      have he:a.eval (.tmp r)=.pointer (some ⟨b,0,none⟩):=N;simp[execOp,he,D5,BE,storeVar,db h1,ad];have H:Sem.run P (storeCells {block:=b,off:=0} (a.eval R).cells.toList) w=Result.ok () (w.setCells b 0 (a.eval R).cells.toList):=by simpa [us] using this
      rw[H];rfl
     have av:∀f j,g.I f j->f≠b:=by rintro f j F rfl;exact o3 j F
     let g':Gh:={I:=λf j=>g.I f j∨(f=b∧j<m),ρ:=g.ρ,O:=λf=>if f=b then none else g.O f,β:=g.β}
     have z:∀f j,f≠b->w'.cell? ⟨f,j,none⟩=w.cell? ⟨f,j,none⟩:=by intro f j E;exact Bj _ us 0 w _ (λe=>absurd e E)
     have u:Up g.I g.ρ s.hp.length w g'.I g'.ρ s.hp.length w':=⟨λb j F=>.inl F,λf j F=>z f j (av f j F),λ_ _=>rfl,Ao _⟩
     have x:∀j,j<m->w'.cell? ⟨b,j,none⟩=us[j]?:=by intro j k;have:=BY b us 0 w (λj' A=>by rw[cell_of_heap X,Ag (by omega)];rfl) j (by omega);rw[Aw] at this;rw[this,Ac]
     have S:SR g' (s.set r .undef) w' a:=by
      refine bn.keep (some (.slot r)) ?_ rfl u ?_ ?_ ?_ ?_;·intro v hv;simp only[St.set,At] at hv;simp at hv;obtain⟨_,rfl⟩:=hv;rfl
      ·intro ck f i E;have p:f≠b:=by
        rintro rfl;rw[M] at i;exact E i
       refine⟨by simp[g',p,i],q3 f p,?_⟩;rintro j (k|⟨k,_⟩);·exact k
       ·exact absurd k p
      ·intro id cs Y;have p:g.ρ id≠b:=by
        intro e;have:=h.hr.notO id cs Y;rw[e,M] at this;cases this
       refine⟨q3 _ p,by simp[g',p,h.hr.notO id cs Y],?_⟩;rintro j (k|⟨k,_⟩);·exact k
       ·exact absurd k p
      ·rintro f j (k|⟨rfl,k⟩);·rw[z f j (av f j k)];exact h.hr.exI f j k
       ·rw[x j k,Ac (by omega)];rfl
      ·intro f o i;simp only[g'] at i;split at i;·cases i
       ·have:=h.hr.oLt f o i;rw[q4];exact this
     have bs:VRel g'.I g'.ρ s.hp.length w' (.ea ((v.ev s).cells.map disown)) (.pointer (some ⟨b,0,none⟩)):=by
      refine .ea _ _ _ (λj=>us[j]?.getD undef) ?_ ?_ ?_ ?_;·intro c q;obtain⟨c',B,rfl⟩:=Av.1 q;rw[ke];exact c2 c' B
      ·intro j k;exact .inr ⟨rfl,by simp[G] at k;omega⟩
      ·intro j k;have A:j<m:=by simp[G] at k;omega
       rw[Aw,x j A,Ac (by omega)];rfl
      ·intro j c q;rw[Au,Ah] at q;obtain⟨c',B,rfl⟩:=q;have k:j<us.length:=by have:=(Ad.1 B).1;omega
       rw[Ac k];exact((c3 j c' us[j] B (by simp[us])).up u).disown
     have C:SR g' (s.set r (.ea ((v.ev s).cells.map disown))) w' a:=by
      refine⟨S.hr,?_⟩;have:=S.er.put' r (v:=.ea ((v.ev s).cells.map disown)) (by rw[N];exact bs) (by simp[OwnOK]);have e2:((s.set r .undef).set r (.ea ((v.ev s).cells.map disown))).env=(s.set r (.ea ((v.ev s).cells.map disown))).env:=by simp[St.set]
      rw[e2] at this;exact this
     have fr:FR g s.hp w g' s.hp w':=by
      refine⟨rfl,q5,q6,q7,by rw[q4];exact Ao _,?_,u,?_,?_,λ_ cs h=>.inl ⟨cs,h⟩⟩;·intro f i _ J;refine q3 f ?_;rintro rfl;rw[M] at J;cases J
      ·rintro f j i _ J (F|⟨rfl,_⟩);·exact F
       ·rw[M] at J;cases J
      ·intro f i _ J;simp[g',J]
     unfold Ch C6;rw[W];cases dst with
     |none=>exact hn _ _ g' C fr rfl
     |some d=>exact hn _ _ g' (C.set d (.undef _) (by simp[OwnOK])) fr rfl
   ·simp at L
  ·simp at L
 ·simp at q
theorem abD(h:ER g s.hp.length w s.env a.tmps):∀(xs:List ac)(ys:List Operand),jH xs ys=true->xs.length=ys.length∧
  ∀(i:Nat) v cv,(xs.map λx=>disown (x.ev s))[i]? =some v->(ys.map a.eval)[i]? =some cv->VRel g.I g.ρ s.hp.length w v cv
 | [],[],_=>⟨rfl,by simp⟩
 |x::xs,y::ys,hp=>by
  simp only[jH,Aa] at hp;obtain⟨k1,k2⟩:=abD h xs ys hp.2;refine⟨by simp[k1],?_⟩;intro i v cv c b;cases i with
  |zero=>simp at c b;subst c b;exact(af hp.1 h).disown
  |succ i=>exact k2 i v cv (by simpa using c) (by simpa using b)
 | [],_::_,hp=>by simp[jH] at hp
 |_::_,[],hp=>by simp[jH] at hp
theorem abE{d f:Nat}{xs:List ac}(b:gt P (.mkf d f xs) m=true)(r:step Γ (.mkf d f xs) s=some (true,s'))(h:SR g s w a)(p:ax g s w a s' next):m.wp P a w next Q:=by
 obtain⟨dst,y,u,k,j,v⟩:=m;simp only[gt,Aa,beq_iff_eq] at b;obtain⟨rfl,b⟩:=b;split at b
 ·rename_i x first ys
  simp only[Aa,beq_iff_eq] at b;obtain⟨rfl,t,q⟩:=b;obtain rfl:first= #[]:=by simpa using t
  obtain rfl:_=s':=by simpa [step] using r
  obtain⟨k1,k2⟩:=abD h.er xs ys.toList q;have e:(execOp a.eval ⟨some d,.makeFunc (.func f) #[] ys,u,k,j,v⟩).run P w=.ok (.value (.func (.func f) #[] (ys.map a.eval))) w:=by simp[execOp,Instr.makeFunc]
  refine ae h rfl e (.fn _ _ _ (by simp[k1]) (λi c cv b o=>k2 i c cv b (by simpa using o))) rfl p
 ·simp at b
end
end Go.AM
end
