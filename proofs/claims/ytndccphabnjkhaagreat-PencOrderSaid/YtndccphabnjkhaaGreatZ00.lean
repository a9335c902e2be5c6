import GoSem.Core.Code
import GoSem.Op.String
import GoSem.Core.Utf8
import Derived.WalkKit
import Derived.Deep.AppendSrc
import Derived.Laws.Cover4
import Derived.Laws.IdiomStrings
import Derived.Lib.ConvBytes
import Derived.Laws.Tables
import Derived.Laws.StructEq
import Derived.Laws.MakeOwn
open Array renaming getElem?_eq_getElem→Am,getElem?_eq_some_iff→A1,length_toList→B4,getElem?_eq_none→B7,getElem?_append_left→B8,getD→Cg,getElem?_modify→Cz,getElem?_toList→Dv,getElem?_push→DK,getElem?_setIfInBounds→DO
open BitVec renaming ofInt→AV
open Bool renaming and_eq_true→Ac,or_eq_true→Bl,eq_iff_iff→BD,not_eq_true'→BW
open Function renaming comp_def→D6
open Go.Addr renaming add_lit→B0
open Go.Builtin renaming append_→CO,len_→Dd
open Go.Instr renaming sureAddr→Ce,sliceBounds→CW,fill→C6,sliceAt→Dt,loadAt→DF,slice→DQ,indexAt→D1
open Go.IntKind renaming wrap→Ab,signed→AU,bits→A8,max→Bz,min→BU
open Go.Lib renaming bytesWorld→Dk,bytesCells→DN
open Go.Op renaming bytesLess→AO,stringOp→CU,intCmp→Dw,intBits→DC,intArith→DP
open Go.Oper renaming upon→Dy
open Go.Value renaming cells→CH,oneCell'→DL
open Go.World renaming cell?_setCells_out→BF,cell?→BM,block_lt_of_cell?→B3,cell?_setCells_in→Cm,frozen?→CD,freeze→C0
open Int renaming tmod_eq_emod_of_nonneg→Bh,fdiv_eq_ediv_of_nonneg→Cb,le_of_lt→DA,pow_pos→DR
open List renaming length→Aa,length_cons→Af,getElem?_eq_some_iff→Ag,getElem?_eq_getElem→Ah,getD→Ai,length_append→Aj,length_nil→Ak,getD_eq_getElem?_getD→Ar,mem_of_getElem?→At,getElem?_append_right→Au,mem_singleton→Av,mem_append→Aw,getElem?_append_left→Ax,getElem?_set→Ay,all_eq_true→AA,append_assoc→AB,mem_map→AD,getElem?_map→AF,map_cons→AL,mem_cons→AN,length_set→AR,length_drop→AT,mem_flatMap→AW,drop_eq_getElem_cons→AX,mem_cons_self→AZ,mem_cons_of_mem→A3,getElem?_take→A7,mem_iff_getElem→Be,foldl_cons→Bf,getElem?_eq_none→Bj,getElem?_drop→Bq,eq_nil_of_length_eq_zero→Bw,mem_of_mem_take→BJ,mem_of_mem_drop→BL,range→BR,length_map→BY,getElem_mem→B1,drop_take→Ct,getElem?_set_self→Cv,take_left'→CA,all_cons→CN,range'→Da,drop_drop→Dj,ext_getElem?→Do,map_map→DH,size_toArray→D3,length_range→D7,extract_eq_take_drop→D8
open List.cons renaming injEq→CS
open Nat renaming le_refl→Ap,lt_or_ge→AH,lt_of_lt_of_le→AI,eq_of_beq_eq_true→AJ,add_mul→AS,mul_le_mul_right→A2,beq→A4,le_trans→A6,mod_eq_of_lt→Bn,ne_of_lt→Bu,zero_add→Bv,mul_comm→BZ,div_lt_of_lt_mul→Ch,add_zero→Ck,add_assoc→CC,mul_one→CI,add_comm→C2,blt→C9,le_mul_of_pos_right→Dl,one_mul→Ds,le_of_not_lt→Du
open Ne renaming symm→C8
open Option renaming map_eq_some_iff→Aq,getD_some→Bo,map_some→BC,isSome_iff_exists→BG
open Option.some renaming injEq→Ae,inj→AG
open Prod.mk renaming injEq→Al
open UInt8 renaming ofNat→Az
set_option linter.all false
noncomputable section
namespace Go.AM
structure bi where
 num:Int
 wire:Int
 n:Int
 s:List UInt8
 raw:List UInt8
 deriving DecidableEq
structure Tok where
 kind:Int
 text:List UInt8
 n:Int
 pos:Int
structure bI where
 label:Int
 typ:List UInt8
 key:List UInt8
 name:List UInt8
 num:Int
 packed:Int
 oneof:Int
structure PVl where
 name:List UInt8
 n:Int
structure PEn where
 name:List UInt8
 values:List PVl
inductive aS where
 |mk (name:List UInt8) (fields:List bI) (oneofs:List (List UInt8)) (msgs:List aS) (enums:List PEn) (nums:List (Int×Int)) (names:List (List UInt8))
def aS.name:aS->List UInt8| .mk a _ _ _ _ _ _=>a
def aS.fields:aS->List bI| .mk _ a _ _ _ _ _=>a
def aS.oneofs:aS->List (List UInt8)| .mk _ _ a _ _ _ _=>a
def aS.msgs:aS->List aS| .mk _ _ _ a _ _ _=>a
def aS.enums:aS->List PEn| .mk _ _ _ _ a _ _=>a
def aS.nums:aS->List (Int×Int)| .mk _ _ _ _ _ a _=>a
def aS.names:aS->List (List UInt8)| .mk _ _ _ _ _ _ a=>a
structure et where
 name:List UInt8
 text:List UInt8
structure ca where
 name:List UInt8
 pack:List UInt8
 imports:List (List UInt8)
 msgs:List aS
 enums:List PEn
 sees:List (List UInt8)
structure PNm where
 name:List UInt8
 kind:Int
 m:aS
 x:PEn
 file:List UInt8
structure PFl where
 num:Int
 name:List UInt8
 label:Int
 kind:Int
 typ:List UInt8
 key:Int
 packed:Bool
 oneof:Int
structure PMs where
 name:List UInt8
 fields:List PFl
 oneofs:List (List UInt8)
inductive aC where
 |mk (n:Int) (s:List UInt8) (fs:List (Int×List aC)) (rest:List UInt8)
def aC.n:aC->Int| .mk a _ _ _=>a
def aC.s:aC->List UInt8| .mk _ a _ _=>a
def aC.fs:aC->List (Int×List aC)| .mk _ _ a _=>a
def aC.rest:aC->List UInt8| .mk _ _ _ a=>a
inductive EK where
 |u8|num (k:IntKind)|str|bool|ints|record|tok|ffld|pvl|pen|u2|fmsg|src|fil|nms|pfl|pms|pval|pfd
 deriving DecidableEq
abbrev Ty:EK->Type
 | .u8=>UInt8
 | .num _=>Int
 | .str=>List UInt8
 | .bool=>Bool
 | .record=>bi
 | .tok=>Tok
 | .ffld=>bI
 | .pvl=>PVl
 | .pen=>PEn
 | .u2=>Int×Int
 | .fmsg=>aS
 | .src=>et
 | .fil=>ca
 | .nms=>PNm
 | .pfl=>PFl
 | .pms=>PMs
 | .pval=>aC
 | .pfd=>Int×List aC
 | .ints=>List Int
inductive Fl where
 |own
 |may (b:Bool)
 deriving DecidableEq
def Fl.dis:Fl->Fl
 | .own=>.may false
 | .may b=>.may b
def Fl.app:Fl->Nat->Bool
 | .own,_=>true
 | .may b,n=>b&&decide (0<n)
inductive MK where
 |pb|bs|bn|ib|sn
 deriving DecidableEq
abbrev MK.K:MK->Type
 | .pb=>Int×Int
 | .bs| .bn| .ib=>Int
 | .sn=>List UInt8
abbrev MK.T:MK->Type
 | .pb| .ib=>Bool
 | .bs=>List UInt8
 | .bn| .sn=>Int
inductive V where
 |undef
 |bool (b:Bool)
 |int (k:IntKind) (n:Int)
 |str (s:List UInt8)
 |sl (k:EK) (o:Fl) (xs:List (Ty k))
 |agg (cs:List V)
 |tup (vs:List V)
 |ea (cs:List V)
 |ptr (id off:Nat)
 |nilp
 |fn (f:Nat) (cap:List V)
 |nilif
 |bn (E n:Nat)
 |junk
 |rb (xs:List UInt8)
 |so (id n:Nat)
 |raw (n:Nat)
 |ul (k:EK) (xs:List (Ty k))
 |hd (n:Nat)
 |rw(k:EK) (xs:List (Ty k))
 |sw (k:EK) (id n:Nat)
 |sx (k:EK) (id off n:Nat)
 |wp (id:Nat) (k:EK) (i o:Nat)
 |mp (k:MK) (es:List (k.K×k.T))
 |mr (id:Nat)
 |nilm
instance:Inhabited V:=⟨.undef⟩
def EK.sz:EK->Nat
 | .record=>5
 | .tok=>4
 | .ffld=>7
 | .pvl=>2
 | .pen=>2
 | .u2=>2
 | .fmsg=>7
 | .src=>2
 | .fil=>6
 | .nms=>12
 | .pfl=>8
 | .pms=>3
 | .pval=>4
 | .pfd=>2
 |_=>1
def arm:IntKind->Nat
 | .i8| .u8=>1
 | .i16| .u16=>2
 | .i32| .u32=>4
 | .i64| .u64=>8
def EK.bytes:EK->Nat
 | .u8=>1
 | .num k=>arm k
 | .str=>16
 | .bool=>1
 | .record=>56
 | .tok=>40
 | .ffld=>80
 | .pvl=>24
 | .pen=>40
 | .u2=>16
 | .fmsg=>160
 | .src=>32
 | .fil=>128
 | .nms=>240
 | .pfl=>80
 | .pms=>64
 | .pval=>64
 | .pfd=>32
 | .ints=>24
def EK.isAgg:EK->Bool
 | .record| .tok| .ffld| .pvl| .pen| .u2| .fmsg| .src| .fil| .nms| .pfl| .pms| .pval| .pfd=>true
 |_=>false
def enc:(k:EK)->Ty k->List V
 | .u8,x=>[.int .u8 x.toNat]
 | .num k,x=>[.int k x]
 | .str,x=>[.str x]
 | .bool,x=>[.bool x]
 | .record,x=>[.int .i64 x.num,.int .i64 x.wire,.int .u64 x.n,.str x.s,.str x.raw]
 | .tok,x=>[.int .i64 x.kind,.str x.text,.int .u64 x.n,.int .i64 x.pos]
 | .ffld,x=>[.int .i64 x.label,.str x.typ,.str x.key,.str x.name,.int .u64 x.num,.int .i64 x.packed,.int .i64 x.oneof]
 | .pvl,x=>[.str x.name,.int .i64 x.n]
 | .pen,x=>[.str x.name,.sl .pvl (.may false) x.values]
 | .u2,x=>[.int .u64 x.1,.int .u64 x.2]
 | .fmsg,x=>[.str x.name,.sl .ffld (.may false) x.fields,.sl .str (.may false) x.oneofs,.sl .fmsg (.may false) x.msgs,.sl .pen (.may false) x.enums,.sl .u2 (.may false) x.nums,.sl .str (.may false) x.names]
 | .src,x=>[.str x.name,.str x.text]
 | .fil,x=>[.str x.name,.str x.pack,.sl .str (.may false) x.imports,.sl .fmsg (.may false) x.msgs,.sl .pen (.may false) x.enums,.sl .str (.may false) x.sees]
 | .nms,x=>[.str x.name,.int .i64 x.kind,.str x.m.name,.sl .ffld (.may false) x.m.fields,.sl .str (.may false) x.m.oneofs,.sl .fmsg (.may false) x.m.msgs,.sl .pen (.may false) x.m.enums,.sl .u2 (.may false) x.m.nums,.sl .str (.may false) x.m.names,.str x.x.name,.sl .pvl (.may false) x.x.values,.str x.file]
 | .pfl,x=>[.int .i64 x.num,.str x.name,.int .i64 x.label,.int .i64 x.kind,.str x.typ,.int .i64 x.key,.bool x.packed,.int .i64 x.oneof]
 | .pms,x=>[.str x.name,.sl .pfl (.may false) x.fields,.sl .str (.may false) x.oneofs]
 | .pval,x=>[.int .u64 x.n,.str x.s,.sl .pfd (.may false) x.fs,.str x.rest]
 | .pfd,x=>[.int .i64 x.1,.sl .pval (.may false) x.2]
 | .ints,x=>[.sl (.num .i64) (.may false) x]
def dec:(k:EK)->List V->Option (Ty k)
 | .u8,[.int .u8 n]=>some (Az n.toNat)
 | .num .i8,[.int .i8 n]=>some n
 | .num .i16,[.int .i16 n]=>some n
 | .num .i32,[.int .i32 n]=>some n
 | .num .i64,[.int .i64 n]=>some n
 | .num .u8,[.int .u8 n]=>some n
 | .num .u16,[.int .u16 n]=>some n
 | .num .u32,[.int .u32 n]=>some n
 | .num .u64,[.int .u64 n]=>some n
 | .str,[.str s]=>some s
 | .bool,[.bool b]=>some b
 | .record,[.int .i64 a,.int .i64 b,.int .u64 c,.str d,.str e]=>some ⟨a,b,c,d,e⟩
 | .tok,[.int .i64 a,.str b,.int .u64 c,.int .i64 d]=>some ⟨a,b,c,d⟩
 | .ffld,[.int .i64 a,.str b,.str c,.str d,.int .u64 e,.int .i64 f,.int .i64 g]=>some ⟨a,b,c,d,e,f,g⟩
 | .pvl,[.str a,.int .i64 b]=>some ⟨a,b⟩
 | .pen,[.str a,.sl .pvl _ b]=>some ⟨a,b⟩
 | .u2,[.int .u64 a,.int .u64 b]=>some ⟨a,b⟩
 | .fmsg,[.str a,.sl .ffld _ b,.sl .str _ c,.sl .fmsg _ d,.sl .pen _ e,.sl .u2 _ f,.sl .str _ g]=>some (.mk a b c d e f g)
 | .src,[.str a,.str b]=>some ⟨a,b⟩
 | .fil,[.str a,.str b,.sl .str _ c,.sl .fmsg _ d,.sl .pen _ e,.sl .str _ f]=>some ⟨a,b,c,d,e,f⟩
 | .nms,[.str a,.int .i64 b,.str c,.sl .ffld _ d,.sl .str _ e,.sl .fmsg _ f,.sl .pen _ g,.sl .u2 _ h,.sl .str _ i,.str j,.sl .pvl _ k,.str l]=>some ⟨a,b,.mk c d e f g h i,⟨j,k⟩,l⟩
 | .pfl,[.int .i64 a,.str b,.int .i64 c,.int .i64 d,.str e,.int .i64 f,.bool g,.int .i64 h]=>some ⟨a,b,c,d,e,f,g,h⟩
 | .pms,[.str a,.sl .pfl _ b,.sl .str _ c]=>some ⟨a,b,c⟩
 | .pval,[.int .u64 a,.str b,.sl .pfd _ c,.str d]=>some (.mk a b c d)
 | .pfd,[.int .i64 a,.sl .pval _ b]=>some ⟨a,b⟩
 | .ints,[.sl (.num .i64) _ x]=>some x
 |_,_=>none
def aK:(k:EK)->Ty k
 | .u8=>0
 | .num _=>0
 | .str=>[]
 | .bool=>false
 | .record=>⟨0,0,0,[],[]⟩
 | .tok=>⟨0,[],0,0⟩
 | .ffld=>⟨0,[],[],[],0,0,0⟩
 | .pvl=>⟨[],0⟩
 | .pen=>⟨[],[]⟩
 | .u2=>⟨0,0⟩
 | .fmsg=>(.mk [] [] [] [] [] [] [])
 | .src=>⟨[],[]⟩
 | .fil=>⟨[],[],[],[],[],[]⟩
 | .nms=>⟨[],0,.mk [] [] [] [] [] [] [],⟨[],[]⟩,[]⟩
 | .pfl=>⟨0,[],0,0,[],0,false,0⟩
 | .pms=>⟨[],[],[]⟩
 | .pval=>(.mk 0 [] [] [])
 | .pfd=>⟨0,[]⟩
 | .ints=>[]
def MK.key:(k:MK)->k.K->V
 | .pb,x=>.agg [.int .i64 x.1,.int .i64 x.2]
 | .bs,x=>.int .u8 x
 | .bn,x=>.int .u8 x
 | .ib,x=>.int .i64 x
 | .sn,x=>.str x
def MK.val:(k:MK)->k.T->V
 | .pb,x=>.bool x
 | .bs,x=>.str x
 | .bn,x=>.int .i64 x
 | .ib,x=>.bool x
 | .sn,x=>.int .i64 x
def MK.zero:(k:MK)->k.T
 | .pb| .ib=>false
 | .bs=>[]
 | .bn| .sn=>(0:Int)
def aET:V->Option (Int×Int)| .agg [.int .i64 a,.int .i64 b]=>some (a,b)|_=>none
def u8V:V->Option Int| .int .u8 a=>some a|_=>none
def azK:V->Option Int| .int .i64 a=>some a|_=>none
def aEU:V->Option (List UInt8)| .str s=>some s|_=>none
def azB:V->Option Bool| .bool b=>some b|_=>none
def MK.dkey:(k:MK)->V->Option k.K
 | .pb=>aET
 | .bs=>u8V
 | .bn=>u8V
 | .ib=>azK
 | .sn=>aEU
def MK.dval:(k:MK)->V->Option k.T
 | .pb=>azB
 | .bs=>aEU
 | .bn=>azK
 | .ib=>azB
 | .sn=>azK
instance MK.decK:(k:MK)->DecidableEq k.K
 | .pb=>inferInstanceAs (DecidableEq (Int×Int))
 | .bs| .bn| .ib=>inferInstanceAs (DecidableEq Int)
 | .sn=>inferInstanceAs (DecidableEq (List UInt8))
def ft{k:MK}(es:List (k.K×k.T))(x:k.K):Option k.T:=match es with
 | []=>none
 |e::r=>if e.1=x then some e.2 else ft r x
def ng{k:MK}(es:List (k.K×k.T))(x:k.K)(v:k.T):List (k.K×k.T):=match es with
 | []=>[(x,v)]
 |e::r=>if e.1=x then (x,v)::r else e::ng r x v
def qj{k:MK}(es:List (k.K×k.T))(x:k.K):Nat:=match es with
 | []=>0
 |e::r=>if e.1=x then 0 else qj r x+1
def aiV{k:MK}(es:List (k.K×k.T))(x:k.K):k.T:=(ft es x).getD k.zero
def amu(k:MK)(ok:Bool)(r:Option k.T):V:=cond ok (.tup [k.val (r.getD k.zero),.bool r.isSome]) (k.val (r.getD k.zero))
def V.cells:V->List V
 | .agg cs=>cs
 |v=>[v]
def V.one:V->Bool
 | .undef| .agg _| .tup _| .rb _| .raw _| .rw _ _| .mp _ _=>false
 |_=>true
def disown:V->V
 | .raw _=>.undef
 | .sl k o xs=>.sl k o.dis xs
 | .bn _ _=>.junk
 | .ul _ xs=>.hd xs.length
 |v=>v
def V.weak:V->V
 | .sl k _ xs=>.sl k (.may false) xs
 |v=>disown v
def noBn:V->Bool
 | .bn _ _=>false
 |_=>true
inductive ASrc where
 |t (n:Nat)
 |tk (n:Nat)
 |c (v:V)
abbrev aJ:=Option (List V)
structure St where
 env:List V
 hp:List aJ
def St.get(s:St)(n:Nat):V:=s.env.getD n .undef
def St.set(s:St)(n:Nat)(v:V):St:={s with env:=s.env.set n v}
def ASrc.ev(s:St):ASrc->V
 | .t n=>disown (s.get n)
 | .tk n=>s.get n
 | .c v=>v
def ASrc.after(s:St):ASrc->St
 | .tk n=>s.set n (disown (s.get n))
 |_=>s
def ASrc.fix(s:St)(t:Bool):ASrc->St
 | .t n=>s.set n (.bool t)
 |_=>s
theorem ASrc.fix_eq{s:St}{t:Bool}:∀{c:ASrc},c.ev s=.bool t->c.fix s t=s
 | .t n,h=>by
   have d:s.env.getD n .undef=.bool t:=by have h:disown (s.env.getD n .undef)=.bool t:=h;revert h;generalize s.env.getD n .undef=v;cases v<;>simp[disown]
   obtain⟨a,hp⟩:=s;show St.mk (a.set n (.bool t)) hp=St.mk a hp;have f:a.set n (.bool t)=a:=by
    apply Do;intro i;rw[Ay];split
    ·rename_i e;subst e;split;·rename_i b;simp only[Ar,Ah b,Bo] at d;rw[Ah b,d]
     ·rename_i b;rw[Bj (by omega)]
    ·rfl
   rw[f]
 | .tk n,_=>rfl
 | .c v,_=>rfl
inductive IOp where
 |mov (d:Nat) (x:ASrc)
 |pick (d:Nat) (c a b:ASrc)
 |bin (d:Nat) (o:BinOp) (x y:ASrc)
 |un (d:Nat) (o:UnOp) (x:ASrc)
 |cvi (d:Nat) (k:IntKind) (x:ASrc)
 |s2b (d:Nat) (x:ASrc)
 |b2s (d:Nat) (x:ASrc)
 |lens (d:Nat) (x:ASrc)
 |lenl (d:Nat) (x:ASrc)
 |idx (d:Nat) (x i:ASrc)
 |ixa (d:Nat) (k:EK) (x i:ASrc)
 |subs (d:Nat) (x:ASrc) (lo hi:Option ASrc)
 |subl (d:Nat) (k:EK) (x:ASrc) (lo hi:Option ASrc)
 |bsl (d:Nat) (k:EK) (af0:List ASrc) (u:Bool)
 |bld (d:Nat) (zero:List V) (af0:List (Nat×Nat×ASrc))
 |fld (d:Nat) (off n:Nat) (agg:Bool) (x:ASrc)
 |new (d:Nat) (zero:List V)
 |box (d:Nat) (x:ASrc)
 |newb (d:Nat) (zero:List V)
 |fad (d:Nat) (off:Nat) (x:ASrc)
 |ld (d:Nat) (n:Nat) (agg take:Bool) (x:ASrc)
 |st (d:Option Nat) (n:Nat) (x v:ASrc)
 |app (d:Nat) (k:EK) (x y:ASrc)
 |apps (d:Nat) (x y:ASrc)
 |ext (d:Nat) (i:Nat) (x:ASrc)
 |nck (d:Option Nat) (x:ASrc)
 |call (d:Option Nat) (f:Nat) (args:List ASrc)
 |mx (d:Nat) (mn:Bool) (x y:ASrc)
 |boxe (d:Nat) (x:ASrc)
 |alr (d n:Nat)
 |frz (d:Option Nat) (r n:Nat) (v:ASrc)
 |lde (d:Nat) (n:Nat) (agg:Bool) (x:ASrc)
 |mkf (d f:Nat) (abh:List ASrc)
 |dcall (d:Option Nat) (f:Nat) (x:ASrc) (args:List ASrc)
 |apu (d:Nat) (k:EK) (x y:ASrc)
 |snil (d:Nat) (x:ASrc)
 |lnw (d:Nat) (x:ASrc)
 |ixw (d:Nat) (k:EK) (x i:ASrc)
 |stw (d:Option Nat) (n:Nat) (x v:ASrc)
 |mkm (d:Nat) (k:MK)
 |mget (d:Nat) (k:MK) (ok:Bool) (x y:ASrc)
 |mput (d:Option Nat) (k:MK) (x y z:ASrc)
 |ixe (d n:Nat) (x i:ASrc)
 |apo (d:Nat) (k:EK) (x y:ASrc)
structure GOp where
 g:Option (Nat×Bool)
 o:IOp
 ob:Option (List Nat×List Nat)
def bC(o:BinOp)(k:IntKind)(a b:Int):Int:=
 match o with
 | .and=>k.wrap (AV k.bits a&&& AV k.bits b).toNat
 | .or=>k.wrap (AV k.bits a|||AV k.bits b).toNat
 | .xor=>k.wrap (AV k.bits a ^^^AV k.bits b).toNat
 |_=>k.wrap (AV k.bits a&&& ~~~AV k.bits b).toNat
def iu(k:IntKind)(a b:Int):Int:=k.wrap (a*2^(min b.toNat k.bits))
def ey(k:IntKind)(a b:Int):Int:=a.fdiv (2^(min b.toNat k.bits))
def cw:Nat:=9223372036854775807
def jU:Nat:=140737488355328
def azL(o:BinOp)(k:IntKind)(a b:Int):Option (Bool×V):=
 match o with
 | .add=>some (true,.int k (k.wrap (a+b)))
 | .sub=>some (true,.int k (k.wrap (a-b)))
 | .mul=>some (true,.int k (k.wrap (a*b)))
 | .quo=>some (!(b==0),.int k (k.wrap (a.tdiv b)))
 | .rem=>some (!(b==0),.int k (a.tmod b))
 | .and=>some (true,.int k (bC .and k a b))
 | .or=>some (true,.int k (bC .or k a b))
 | .xor=>some (true,.int k (bC .xor k a b))
 | .andNot=>some (true,.int k (bC .andNot k a b))
 | .eql=>some (true,.bool (a==b))
 | .neq=>some (true,.bool (!(a==b)))
 | .lss=>some (true,.bool (decide (a<b)))
 | .leq=>some (true,.bool (decide (a<=b)))
 | .gtr=>some (true,.bool (decide (b<a)))
 | .geq=>some (true,.bool (decide (b<=a)))
 |_=>none
def azM(o:BinOp)(a b:List UInt8):Option (Bool×V):=
 match o with
 | .add=>some (decide (a.length+b.length<=cw),.str (a++b))
 | .eql=>some (true,.bool (decide (a=b)))
 | .neq=>some (true,.bool (!decide (a=b)))
 | .lss=>some (true,.bool (AO a b))
 | .leq=>some (true,.bool (AO a b||decide (a=b)))
 | .gtr=>some (true,.bool (!(AO a b||decide (a=b))))
 | .geq=>some (true,.bool (!Op.bytesLess a b))
 |_=>none
def aH4(o:BinOp)(x y:V):Option (Bool×V):=
 match x,y with
 | .int k a,.int k' b=>
   match o with
   | .shl=>some (decide (0<=b),.int k (iu k a b))
   | .shr=>some (decide (0<=b),.int k (ey k a b))
   |o=>if k=k' then azL o k a b else none
 | .str a,.str b=>azM o a b
 |_,_=>none
def unV(o:UnOp)(x:V):Option V:=
 match o,x with
 | .not,.bool b=>some (.bool (!b))
 | .neg,.int k n=>some (.int k (k.wrap (0-n)))
 | .xor,.int k n=>some (.int k (bC .xor k (if k.signed then -1 else k.max) n))
 |_,_=>none
def lay(cells:List V):List (Nat×Nat×V)->Option (List V)
 | []=>some cells
 |(a,n,v)::r=>if (v.cells.length==n&&v.cells.all V.one)&&decide (a+n<=cells.length) then lay (cells.take a++v.cells.map disown++cells.drop (a+n)) r else none
def ahq(k:EK):List V->Option (List (Ty k))
 | []=>some []
 |v::r=>match dec k v.cells,ahq k r with|some x,some l=>some (x::l)|_,_=>none
def ac7(len:Nat):Option V->Option V->Option (Bool×Nat×Nat)
 |none,none=>some (true,0,len)
 |some (.int _ a),none=>some (decide (0<=a)&&decide (a<=len),a.toNat,len)
 |none,some (.int _ b)=>some (decide (0<=b)&&decide (b<=len),0,b.toNat)
 |some (.int _ a),some (.int _ b)=>some (decide (0<=b)&&decide (b<=len)&&(decide (0<=a)&&decide (a<=b)),a.toNat,b.toNat)
 |_,_=>none
def jI(s:St):Option ASrc->Option V
 |none=>none
 |some x=>some (x.ev s)
def d7:List V->Bool
 | [.rb _]=>true
 | [.rw _ _]=>true
 | [.tup _]=>true
 |_=>false
def St.obj(s:St)(id:Nat):Option (List V):=match s.hp.getD id none with|some [.rb _]=>none|some [.rw _ _]=>none|some [.mp _ _]=>none|some [.tup _]=>none|o=>o
def ach(k:EK)(x:Ty k)(o:Nat)(vs:List V):Option (Ty k):=dec k (((enc k x).take o++vs.map V.weak)++(enc k x).drop (o+vs.length))
def St.rowW(s:St)(id:Nat):Option ((k:EK)×List (Ty k)):=match s.hp.getD id none with|some [.rw k xs]=>some ⟨k,xs⟩|_=>none
def St.row(s:St)(id:Nat):Option (List UInt8):=match s.hp.getD id none with|some [.rb xs]=>some xs|_=>none
structure Hol where
 k:EK
 xs:List (Ty k)
 k2:EK
 id2:Nat
 n2:Nat
 i:Nat
 o:Nat
def St.rowH(s:St)(id:Nat):Option Hol:=match s.hp.getD id none with|some [.tup [.rw k xs,.sw b a c,.wp _ _ i o]]=>some ⟨k,xs,b,a,c,i,o⟩|_=>none
def St.mapO(s:St)(id:Nat):Option ((k:MK)×List (k.K×k.T)):=match s.hp.getD id none with|some [.mp k es]=>some ⟨k,es⟩|_=>none
def St.setObj(s:St)(id:Nat)(cs:List V):St:={s with hp:=s.hp.set id (some cs)}
def loaded(agg:Bool)(cs:List V):V:=if agg then .agg (cs.map disown) else cs.headD .undef
abbrev aI:=Nat->List V->List aJ->Option (Bool×V×List aJ)
def St.setO(s:St)(d:Option Nat)(v:V):St:=match d with|some d=>s.set d v|none=>s
def azC(t:Bool)(a b:V):V:=
 match a,b with
 | .bool x,.bool y=>.bool (cond t x y)
 | .int k x,.int k' y=>if k=k' then .int k (cond t x y) else cond t (.int k x) (.int k' y)
 | .str x,.str y=>.str (cond t x y)
 |a,b=>cond t a b
theorem aH5(t:Bool)(a b:V):azC t a b=cond t a b:=by
 unfold azC;split;·cases t<;>rfl
 ·split;·rename_i h;subst h;cases t<;>rfl
  ·rfl
 ·cases t<;>rfl
 ·rfl
def step(Γ:aI)(o:IOp)(s:St):Option (Bool×St):=
 match o with
 | .mov d x=>some (true,(x.after s).set d (x.ev s))
 | .pick d c a b=>match c.ev s with| .bool t=>some (true,s.set d (azC t (disown (a.ev s)) (disown (b.ev s))))|_=>none
 | .bin d o x y=>(aH4 o (x.ev s) (y.ev s)).map λ(c,v)=>(c,s.set d v)
 | .un d o x=>(unV o (x.ev s)).map λv=>(true,s.set d v)
 | .cvi d k x=>match x.ev s with| .int _ n=>some (true,s.set d (.int k (k.wrap n)))|_=>none
 | .s2b d x=>match x.ev s with| .str l=>some (true,s.set d (.sl .u8 .own l))|_=>none
 | .b2s d x=>match x.ev s with| .sl .u8 _ l=>some (true,s.set d (.str l))|_=>none
 | .lens d x=>match x.ev s with| .str l=>some (true,s.set d (.int .i64 l.length))|_=>none
 | .lenl d x=>match x.ev s with| .sl _ _ l=>some (true,s.set d (.int .i64 l.length))|_=>none
 | .lnw d x=>match x.ev s with| .hd n=>some (true,s.set d (.int .i64 n))| .sw _ _ n=>some (true,s.set d (.int .i64 n))|_=>none
 | .apu d k x y=>match x.ev s,y.ev s with
   | .ul k' l,.sl j _ m=>if k'=k then if h:j=k' then some (decide ((l.length+m.length)*k'.bytes<=jU),(x.after s).set d (.ul k' (l++(h▸m)))) else none else none
   |_,_=>none
 | .snil d x=>match x.ev s with| .sl _ _ xs=>some (decide (0<xs.length),s.set d (.bool false))|_=>none
 | .ixw d k x i=>match x.ev s,i.ev s with
   | .sw k' id n,.int _ i=>if k'=k then some (decide (0<=i)&&decide (i<n),s.set d (.wp id k' i.toNat 0)) else none
   |_,_=>none
 | .stw d n x v=>match x.ev s with
   | .wp id k i o=>match s.rowW id with
     |some ⟨k',xs⟩=>if k'=k∧(o+n<=k'.sz∧((v.ev s).cells.length==n&&(v.ev s).cells.all V.one)=true) then
       match ach k' (xs.getD i (aK k')) o (v.ev s).cells with
       |some E=>some (decide (i<xs.length),(s.setObj id [.rw k' (xs.set i E)]).setO d .undef)
       |none=>none
      else none
     |none=>none
   |_=>none
 | .idx d x i=>match x.ev s,i.ev s with
   | .str l,.int _ i=>some (decide (0<=i)&&decide (i<l.length),s.set d (.int .u8 (l.getD i.toNat 0).toNat))
   |_,_=>none
 | .ixa d k x i=>match x.ev s,i.ev s with
   | .sl k' _ l,.int _ i=>if k'=k then some (decide (0<=i)&&decide (i<l.length),s.set d (.ea (enc k' (l.getD i.toNat (aK k'))))) else none
   |_,_=>none
 | .subs d x A w=>match x.ev s with
   | .str l=>(ac7 l.length (jI s A) (jI s w)).map λ(c,a,b)=>(c,s.set d (.str ((l.take b).drop a)))
   |_=>none
 | .subl d k x A w=>match x.ev s with
   | .sl k' _ l=>if k'=k then (ac7 l.length (jI s A) (jI s w)).map λ(c,a,b)=>(c,s.set d (.sl k' (.may false) ((l.take b).drop a))) else none
   |_=>none
 | .bsl d k B u=>(ahq k (B.map (·.ev s))).map λl=>(true,s.set d (.sl k (cond u (.may true) .own) l))
 | .bld d zero B=>(lay zero (B.map λ(e,n,x)=>(e,n,x.ev s))).map λcs=>(true,s.set d (.agg cs))
 | .fld d e n agg x=>match x.ev s with
   | .agg cs=>if e+n<=cs.length then some (true,s.set d (disown (loaded agg ((cs.drop e).take n)))) else none
   |_=>none
 | .new d zero=>some (true,{s.set d (.ptr s.hp.length 0) with hp:=s.hp++[some zero]})
 | .box d x=>match x.ev s with
   | .agg cs=>some (true,{s.set d (.ptr s.hp.length 0) with hp:=s.hp++[some cs]})
   |v=>if v.one then some (true,{s.set d (.ptr s.hp.length 0) with hp:=s.hp++[some [disown v]]}) else none
 | .newb d zero=>some (true,{s.set d (.ptr s.hp.length 0) with hp:=s.hp++[some zero]})
 | .fad d e x=>match x.ev s with
   | .ea cs=>some (true,s.set d (.ea (cs.drop e)))
   | .ptr id o=>some (true,s.set d (.ptr id (o+e)))
   |_=>none
 | .ld d n agg p x=>match x.ev s with
   | .ea cs=>if n<=cs.length then some (true,s.set d (disown (loaded agg (cs.take n)))) else none
   | .ptr id o=>match s.obj id with
     |some cs=>if o+n<=cs.length then
       (if p then (if noBn (cs.getD o .undef) then some (true,(s.setObj id (cs.set o (disown (cs.getD o .undef)))).set d (loaded agg ((cs.drop o).take n))) else none)
       else some (true,s.set d (disown (loaded agg ((cs.drop o).take n)))))
      else none
     |none=>none
   |_=>none
 | .st d n x v=>match x.ev s with
   | .ptr id o=>match s.obj id with
     |some cs=>if ((v.ev s).cells.length==n&&(v.ev s).cells.all V.one)&&(decide (o+n<=cs.length)&&(v.ev s).cells.all noBn) then
       some (true,((v.after s).setObj id (cs.take o++(v.ev s).cells++cs.drop (o+n))).setO d .undef) else none
     |none=>none
   |_=>none
 | .app d k x y=>match x.ev s,y.ev s with
   | .sl k' o l,.sl j _ m=>
     if k'=k then
      if h:j=k' then some (o.app m.length&&decide ((l.length+m.length)*k'.bytes<=jU),(x.after s).set d (.sl k' .own (l++(h▸m)))) else none
     else none
   |_,_=>none
 | .apps d x y=>match x.ev s,y.ev s with
   | .sl .u8 .own l,.str m=>some (decide (l.length+m.length<=jU),(x.after s).set d (.sl .u8 .own (l++m)))
   |_,_=>none
 | .ext d i x=>match x.ev s with
   | .tup vs=>if i<vs.length then some (true,s.set d (disown (vs.getD i .undef))) else none
   |_=>none
 | .nck d x=>match x.ev s with
   | .ptr id o=>some (true,s.setO d (.ptr id o))
   | .ea cs=>some (true,s.setO d (.ea cs))
   |_=>none
 | .call d f avs=>match Γ f (avs.map λx=>disown (x.ev s)) s.hp with
   |some (c,v,hp)=>some (c,{s with hp:=hp}.setO d v)
   |none=>none
 | .alr d n=>some (true,s.set d (.raw n))
 | .frz d r n v=>match s.get r with
   | .raw m=>if A4 m n&&((v.ev s).cells.length==n&&(v.ev s).cells.all V.one) then some (true,(s.set r (.ea ((v.ev s).cells.map disown))).setO d .undef) else none
   |_=>none
 | .lde d n agg x=>match x.ev s with
   | .ea cs=>if n<=cs.length then some (true,s.set d (disown (loaded agg (cs.take n)))) else none
   |_=>none
 | .boxe d x=>match x.ev s with
   | .agg cs=>some (true,s.set d (.ea (cs.map disown)))
   |v=>if v.one then some (true,s.set d (.ea [disown v])) else none
 | .mkf d f abh=>some (true,s.set d (.fn f (abh.map λx=>disown (x.ev s))))
 | .dcall d f x q=>match x.ev s with
   | .fn C abh=>match Γ f (q.map (λy=>disown (y.ev s))++abh.map disown) s.hp with
     |some (c,v,hp)=>some (A4 C f&&c,{s with hp:=hp}.setO d v)
     |none=>none
   |_=>none
 | .mkm d k=>some (true,{s.set d (.mr s.hp.length) with hp:=s.hp++[some [.mp k []]]})
 | .mget d k ok x y=>match x.ev s with
   | .nilm=>(k.dkey (y.ev s)).map λ_=>(true,s.set d (amu k ok none))
   | .mr id=>match s.mapO id with
     |some ⟨k',es⟩=>if k'=k then (k'.dkey (y.ev s)).map λkey=>(true,s.set d (amu k' ok (ft es key))) else none
     |none=>none
   |_=>none
 | .mput d k x y z=>match x.ev s with
   | .mr id=>match s.mapO id with
     |some ⟨k',es⟩=>if k'=k then
       match k'.dkey (y.ev s),k'.dval (z.ev s) with
       |some key,some v=>some (true,(s.setObj id [.mp k' (ng es key v)]).setO d .undef)
       |_,_=>none
      else none
     |none=>none
   |_=>none
 | .ixe d n x i=>match x.ev s,i.ev s with
   | .ea cs,.int _ i=>some (decide (0<=i)&&decide (i<n),s.set d (.ea (cs.drop i.toNat)))
   | .wp id k 0 0,.int _ i=>if k.sz=1 then some (decide (0<=i)&&decide (i<n),s.set d (.wp id k i.toNat 0)) else none
   |_,_=>none
 | .apo d k x y=>match x.ev s,y.ev s with
   | .ul k' l,.sl j _ m=>if k'=k then if h:j=k' then if d<s.env.length then some (decide ((l.length+m.length)*k'.bytes<=jU)&&decide (0<(l++(h▸m)).length),{(x.after s).set d (.sw k' s.hp.length (l++(h▸m)).length) with hp:=s.hp++[some [.rw k' (l++(h▸m))],none]}) else none else none else none
   |_,_=>none
 | .mx d D x y=>match x.ev s,y.ev s with
   | .int k a,.int k' b=>if k=k' then some (true,s.set d (.int k (if D then (if b<a then b else a) else (if a<b then b else a)))) else none
   |_,_=>none
def IOp.dst:IOp->Option Nat
 | .mov d _| .pick d .. | .bin d .. | .un d .. | .cvi d .. | .s2b d _| .b2s d _| .lens d _| .lenl d _| .idx d .. | .ixa d .. | .subs d .. | .subl d .. | .bsl d ..
 | .bld d .. | .fld d .. | .new d _| .box d _| .newb d _| .fad d .. | .ld d .. | .app d .. | .apps d .. | .ext d .. | .mx d .. | .boxe d .. | .mkf d .. | .alr d _| .lde d .. | .apu d .. | .snil d _| .lnw d _| .ixw d .. | .mkm d _| .mget d .. | .ixe d .. | .apo d ..=>some d
 | .st d .. | .nck d _| .call d .. | .dcall d .. | .frz d .. | .stw d .. | .mput d ..=>d
def ixl{α:Type}(n:Int)(l:List α):Bool:=decide (0<=n)&&decide (n<↑(Aa l))
def chk{R:Type}(c:Bool)(x:Option R):Option R:=match c with|true=>x|false=>none
def V.cellsA:V->List V
 | .agg cs=>cs
 |v=>[v]
def V.id1:V->List Nat
 | .ptr id _=>[id]
 | .sw _ id _=>[id]
 | .sx _ id _ _=>[id]
 |_=>[]
def tF(vs:List V):List Nat:=vs.flatMap λv=>v.cellsA.flatMap V.id1
def fv:List V->List Nat
 | []=>[]
 | .ptr i 0::vs=>i::fv vs
 |_::vs=>fv vs
def apf(l:List Nat):List Nat:=l.flatMap λi=>BR (i+1)
def IOp.foot(o:IOp)(s:St):Option (List Nat×List Nat):=
 match o with
 | .ld _ _ _ a x=>match x.ev s with
   | .ptr id _=>some (cond a ([],[id]) ([id],[]))
   | .ea _=>some ([],[])
   |_=>none
 | .st _ _ x _=>match x.ev s with| .ptr id _=>some ([],[id])|_=>none
 | .call _ _ avs=>some (apf (tF (avs.map λx=>disown (x.ev s))),apf (fv (avs.map λx=>disown (x.ev s))))
 | .stw _ _ x _=>match x.ev s with| .wp id _ _ _=>some ([],[id])|_=>none
 |_=>none
def IOp.within(o:IOp)(l:List Nat×List Nat)(s:St):Bool:=match o.foot s with
 |some (r,w)=>r.all (λi=>l.1.any (A4 i)||l.2.any (A4 i))&&w.all (λi=>l.2.any (A4 i))
 |none=>false
def stepO(Γ:aI)(a:Option (List Nat×List Nat))(o:IOp)(s:St):Option (Bool×St):=match a with
 |none=>step Γ o s
 |some l=>cond (o.within l s) (step Γ o s) none
theorem nK{Γ:aI}{b:Option (List Nat×List Nat)}{o:IOp}{s:St}{p:Bool×St}(h:stepO Γ b o s=some p):step Γ o s=some p:=by
 unfold stepO at h;split at h;·exact h
 ·rename_i l;cases a:o.within l s with
  |true=>rw[a] at h;exact h
  |false=>rw[a] at h;simp at h
def runOps{R:Type}(Γ:aI):List GOp->(St->Option R)->St->Option R
 | [],K,s=>K s
 |⟨none,o,a⟩::r,K,s=>match stepO Γ a o s with
  |some (c,s')=>chk c (runOps Γ r K s')
  |none=>none
 |⟨some (g,w),o,a⟩::r,K,s=>match s.get g with
  | .bool b=>cond b
    (match w with
     |true=>match stepO Γ a o (s.set g (.bool true)) with
      |some (c,s')=>chk c (runOps Γ r K s')
      |none=>none
     |false=>runOps Γ r K ((s.set g (.bool true)).setO o.dst (.tup [])))
    (match w with
     |false=>match stepO Γ a o (s.set g (.bool false)) with
      |some (c,s')=>chk c (runOps Γ r K s')
      |none=>none
     |true=>runOps Γ r K ((s.set g (.bool false)).setO o.dst (.tup [])))
  | .tup []=>runOps Γ r K (s.setO o.dst (.tup []))
  |_=>none
inductive Occ where
 |slot (n:Nat)
 |cell (id j:Nat)
 |res
 deriving DecidableEq
inductive jJ where
 |opn (o:Occ)
 |cls (o:Occ)
 |fz (o:Occ)
 |hol (n:Nat)
def St.at?(s:St):Occ->V
 | .slot n=>s.get n
 | .cell id j=>match s.obj id with|some cs=>cs.getD j .undef|none=>.undef
 | .res=>.undef
def St.put?(s:St)(o:Occ)(v:V):St:=match o with
 | .slot n=>s.set n v
 | .cell id j=>match s.obj id with|some cs=>s.setObj id (cs.set j v)|none=>s
 | .res=>s
def jJ.step(a:jJ)(s:St):Option (Bool×St):=match a with
 | .opn o=>match s.at? o with
   | .ul k xs=>some (decide (0<xs.length),{s.put? o (.sw k s.hp.length xs.length) with hp:=(s.put? o (.sw k s.hp.length xs.length)).hp++[some [.rw k xs],none]})
   |_=>some (true,s)
 | .cls o=>match s.at? o with
   | .sw k id n=>match s.rowW id with
     |some ⟨k',xs⟩=>if k'=k then some (A4 n xs.length,{s.put? o (.ul k' xs) with hp:=(s.put? o (.ul k' xs)).hp.set id none}) else none
     |none=>none
   |_=>some (true,s)
 | .fz o=>match s.at? o with
   | .ul k xs=>some (true,s.put? o (.sl k .own xs))
   |_=>some (true,s)
 | .hol n=>match s.get n with
   | .sw _ id _=>match s.rowH id with
     |some h=>match s.rowW h.id2 with
      |some ⟨b,ys⟩=>if b=h.k2 then
        match ach h.k (h.xs.getD h.i (aK h.k)) h.o [.sl b (.may false) ys] with
        |some c=>some (A4 h.n2 ys.length&&decide (h.i<h.xs.length),{s with hp:=(s.hp.set id (some [.rw h.k (h.xs.set h.i c)])).set h.id2 none})
        |none=>none
       else none
      |none=>none
     |none=>none
   |_=>none
def aEV(s:St)(o:Occ):Bool:=match s.at? o with| .ul _ xs=>xs.isEmpty|_=>true
inductive IR where
 |skip
 |bad
 |reg (ops:List GOp) (pre:List (List Nat))
 |seq (a b:IR)
 |cond (c:ASrc) (a b:IR)
 |block (id:Nat) (a:IR)
 |loop (live:List Nat) (n:Nat) (a:IR)
 |cut (live:List Nat) (n:Nat) (a:IR)
 |gh (g:jJ) (a:IR)
 |ope (o:Occ) (a:IR)
 |ghp (g:jJ) (a:IR)
 |exit (id:Nat)
 |ret
inductive Ex where
 |normal
 |exit (id:Nat)
 |ret
mutual
def V.lower(n:Nat):V->Bool
 | .ptr id _=>C9 id n
 | .so id _=>C9 id n
 | .rw _ _=>false
 | .sw _ id _=>C9 (id+1) n
 | .sx _ id _ _=>C9 (id+1) n
 | .wp id _ _ _=>C9 (id+1) n
 | .mr id=>C9 id n
 | .agg cs=>V.lowers n cs
 | .tup cs=>V.lowers n cs
 | .ea cs=>V.lowers n cs
 | .fn _ cs=>V.lowers n cs
 |_=>true
def V.lowers(n:Nat):List V->Bool
 | []=>true
 |v::r=>V.lower n v&&V.lowers n r
end
def tG(a:List Nat)(n:Nat):Nat->List V->List V
 |_,[]=>[]
 |i,v::r=>(if a.elem i&&v.lower n then v else .undef)::tG a n (i+1) r
def tH(n:Nat):List aJ->Bool
 | []=>true
 |none::r=>tH n r
 |some cs::r=>V.lowers n cs&&tH n r
def St.keep(s:St)(a:List Nat)(n:Nat):St:={env:=tG a n 0 s.env,hp:=cond (tH n (s.hp.take n)) (s.hp.take n) s.hp}
def aZ{R:Type}:Nat->((St->Option R)->St->Option R)->St->Option R
 |0,_,_=>none
 |n+1,F,s=>F (aZ n F) s
def kseq{R:Type}(b:(Ex->St->Option R)->St->Option R)(K:Ex->St->Option R):Ex->St->Option R
 | .normal,s=>b K s
 |e,s=>K e s
def aP{R:Type}(id:Nat)(K:Ex->St->Option R):Ex->St->Option R
 | .exit j,s=>cond (A4 j id) (K .normal s) (K (.exit j) s)
 |e,s=>K e s
def bu{R:Type}(a:St->Option R)(b:List Nat)(n:Nat)(K:Ex->St->Option R):Ex->St->Option R
 | .normal,s=>a (s.keep b n)
 |e,s=>K e s
def apg{R:Type}(g:jJ)(K:Ex->St->Option R):Ex->St->Option R
 | .normal,s=>match g.step s with
   |some (c,s')=>chk c (K .normal s')
   |none=>none
 |e,s=>K e s
def run{R:Type}(Γ:aI)(n:Nat):IR->(Ex->St->Option R)->St->Option R
 | .skip,K,s=>K .normal s
 | .bad,_,_=>none
 | .reg f _,K,s=>runOps Γ f (K .normal) s
 | .seq a b,K,s=>run Γ n a (kseq (run Γ n b) K) s
 | .cond c a b,K,s=>match c.ev s with
   | .bool t=>cond t (run Γ n a K (c.fix s true)) (run Γ n b K (c.fix s false))
   |_=>none
 | .block id a,K,s=>run Γ n a (aP id K) s
 | .loop d m a,K,s=>aZ n (λe s=>run Γ n a (bu e d m K) s) (s.keep d m)
 | .cut d m a,K,s=>run Γ n a K (s.keep d m)
 | .gh g a,K,s=>match g.step s with
   |some (c,s')=>chk c (run Γ n a K s')
   |none=>none
 | .ope o a,K,s=>cond (aEV s o) (match (jJ.fz o).step s with
   |some (c,s')=>chk c (run Γ n a K s')
   |none=>none) (match (jJ.opn o).step s with
   |some (c,s')=>chk c (run Γ n a K s')
   |none=>none)
 | .ghp g a,K,s=>run Γ n a (apg g K) s
 | .exit id,K,s=>K (.exit id) s
 | .ret,K,s=>K .ret s
def aN{α R:Type}:Nat->((α->Option R)->α->Option R)->α->Option R
 |0,_,_=>none
 |n+1,B,x=>B (aN n B) x
theorem aW{α R:Type}(mk:α->St)(F:(St->Option R)->St->Option R)(B:(α->Option R)->α->Option R)
  (h:∀a x,F a (mk x)=B (λy=>a (mk y)) x):∀m x,aZ m F (mk x)=aN m B x
 |0,_=>rfl
 |m+1,x=>by
  show F (aZ m F) (mk x)=B (aN m B) x;rw[h]
  congr 1
  funext y;exact aW mk F B h m y
inductive RV where
 |t (n:Nat)
 |cell (n size:Nat) (agg:Bool)
def RV.ev(s:St):RV->Option V
 | .t n=>some (s.get n)
 | .cell n a agg=>match s.get n with
   | .ptr id o=>match s.obj id with
     |some cs=>if o+a<=cs.length then some (disown (loaded agg ((cs.drop o).take a))) else none
     |none=>none
   | .ea cs=>if a<=cs.length then some (disown (loaded agg (cs.take a))) else none
   |_=>none
def rvs(s:St):List RV->Option (List V)
 | []=>some []
 |r::l=>match r.ev s,rvs s l with|some v,some vs=>some (v::vs)|_,_=>none
def resultOf(s:St)(a:List RV):Option V:=
 match rvs s a with
 |some [v]=>some v
 |some vs=>some (.tup (vs.map disown))
 |none=>none
def fin(a:List RV):Ex->St->Option (V×List aJ)
 | .normal,s| .ret,s=>(resultOf s a).map λv=>(v,s.hp)
 |_,_=>none
def start(b:Nat)(a:List V)(hp:List aJ):St:={env:=a++List.replicate (b-a.length) .undef,hp}
def callF(Γ:aI)(n a:Nat)(d:List RV)(b:IR)(c:List V)(hp:List aJ):Option (V×List aJ):=
 run Γ n b (fin d) (start a c hp)
structure Gh where
 I:Nat->Nat->Prop
 ρ:Nat->Nat
 O:Nat->Option Occ
 β:Nat
def fw(c:V)(cv:Value):Prop:=
 match c,cv with
 | .sl _ .own _,.slice (some _) _ _=>False
 | .bn _ _,_=>False
 | .raw _,_=>False
 | .ul _ xs,cv=>xs.length=0∧cv=.slice none 0 0
 |_,_=>True
inductive VRel(I:Nat->Nat->Prop)(ρ:Nat->Nat)(N:Nat)(w:World):V->Value->Prop where
 |undef (cv:Value):VRel I ρ N w .undef cv
 |bool (b:Bool):VRel I ρ N w (.bool b) (.bool b)
 |int (k:IntKind) (n:Int) (h:k.min<=n∧n<=k.max):VRel I ρ N w (.int k n) (.int k n)
 |str (l:List UInt8) (s:ByteArray) (hl:s.data.toList=l) (h:s.size<=cw):VRel I ρ N w (.str l) (.string s)
 |sln (k:EK) (o:Fl):VRel I ρ N w (.sl k o []) (.slice none 0 0)
 |sle (k:EK) (o:Fl) (ad:Addr) (ho:o≠.own):VRel I ρ N w (.sl k o []) (.slice (some ad) 0 0)
 |sl (k:EK) (o:Fl) (xs:List (Ty k)) (b off len cap:Nat) (hl:xs.length=len) (hc:xs.length<=cap) (hm:cap<=cw) (hf:o=.may true->len=cap) (f:Nat->Nat->Value)
   (hI:∀i x j,xs[i]? =some x->j<(enc k x).length->I b (off+i*k.sz+j))
   (hw:∀i x j,xs[i]? =some x->j<(enc k x).length->w.cell? ⟨b,off+i*k.sz+j,none⟩=some (f i j))
   (hv:∀i x j v,xs[i]? =some x->(enc k x)[j]? =some v->VRel I ρ N w v (f i j)):
   VRel I ρ N w (.sl k o xs) (.slice (some ⟨b,off,none⟩) len cap)
 |agg (cs:List V) (vs:Array Value) (hl:cs.length=vs.size) (h1:∀c∈cs,c.one=true) (hb:∀(i:Nat) c cv,cs[i]? =some c->vs[i]? =some cv->fw c cv)
   (hv:∀(i:Nat) c cv,cs[i]? =some c->vs[i]? =some cv->VRel I ρ N w c cv):VRel I ρ N w (.agg cs) (.agg vs)
 |tup (cs:List V) (vs:Array Value) (hl:cs.length=vs.size)
   (hv:∀(i:Nat) c cv,cs[i]? =some c->vs[i]? =some cv->VRel I ρ N w c cv):VRel I ρ N w (.tup cs) (.tuple vs)
 |ea (cs:List V) (b off:Nat) (f:Nat->Value) (h1:∀c∈cs,c.one=true)
   (hI:∀j,j<cs.length->I b (off+j))
   (hw:∀j,j<cs.length->w.cell? ⟨b,off+j,none⟩=some (f j))
   (hv:∀(j:Nat) c,cs[j]? =some c->VRel I ρ N w c (f j)):VRel I ρ N w (.ea cs) (.pointer (some ⟨b,off,none⟩))
 |ptr (id off:Nat) (h:id<N):VRel I ρ N w (.ptr id off) (.pointer (some ⟨ρ id,off,none⟩))
 |nilp:VRel I ρ N w .nilp (.pointer none)
 |fn (f:Nat) (cs:List V) (vs:Array Value) (hl:cs.length=vs.size)
   (hv:∀(i:Nat) c cv,cs[i]? =some c->vs[i]? =some cv->VRel I ρ N w c cv):VRel I ρ N w (.fn f cs) (.func (.func f) #[] vs)
 |nilif:VRel I ρ N w .nilif .nilIface
 |bn (E n:Nat) (p:Option Addr):VRel I ρ N w (.bn E n) (.pointer p)
 |junk (cv:Value) (h:cv.oneCell'=true):VRel I ρ N w .junk cv
 |so (id n cap:Nat) (h:id<N) (hc:n<=cap) (hm:cap<=cw):VRel I ρ N w (.so id n) (.slice (some ⟨ρ id,0,none⟩) n cap)
 |raw (n b:Nat):VRel I ρ N w (.raw n) (.pointer (some ⟨b,0,none⟩))
 |ul (k:EK) (xs:List (Ty k)) (ad:Option Addr) (cap:Nat) (hm:xs.length<=cw):VRel I ρ N w (.ul k xs) (.slice ad xs.length cap)
 |hd (n:Nat) (ad:Option Addr) (cap:Nat) (hm:n<=cw):VRel I ρ N w (.hd n) (.slice ad n cap)
 |sw (k:EK) (id n:Nat) (h:id+1<N) (hc:n<=ρ (id+1)) (hm:ρ (id+1)<=cw):VRel I ρ N w (.sw k id n) (.slice (some ⟨ρ id,0,none⟩) n (ρ (id+1)))
 |sx (k:EK) (id off n ad cap:Nat) (h:id+1<N) (hc:off+n<=ρ (id+1)) (hm:ρ (id+1)<=cw) (hl:n<=cap) (ha:0<n->ad=off*k.sz):VRel I ρ N w (.sx k id off n) (.slice (some ⟨ρ id,ad,none⟩) n cap)
 |wp (id:Nat) (k:EK) (i o:Nat) (h:id+1<N):VRel I ρ N w (.wp id k i o) (.pointer (some ⟨ρ id,i*k.sz+o,none⟩))
 |mr (id:Nat) (h:id<N):VRel I ρ N w (.mr id) (.map (some (ρ id)))
 |nilm:VRel I ρ N w .nilm (.map none)
structure Up(I:Nat->Nat->Prop)(ρ:Nat->Nat)(N:Nat)(w:World)(I':Nat->Nat->Prop)(ρ':Nat->Nat)(N':Nat)(w':World):Prop where
 mono:∀b j,I b j->I' b j
 cell:∀b j,I b j->w'.cell? ⟨b,j,none⟩=w.cell? ⟨b,j,none⟩
 rho:∀id,id<N->ρ' id=ρ id
 num:N<=N'
theorem Up.refl(I:Nat->Nat->Prop)(ρ:Nat->Nat)(N:Nat)(w:World):Up I ρ N w I ρ N w:=⟨λ_ _ h=>h,λ_ _ _=>rfl,λ_ _=>rfl,Ap _⟩
theorem Up.trans{I I' e:Nat->Nat->Prop}{ρ ρ' a:Nat->Nat}{N N' d:Nat}{w w' c:World}(h:Up I ρ N w I' ρ' N' w')(k:Up I' ρ' N' w' e a d c):
  Up I ρ N w e a d c:=
 ⟨λb j i=>k.mono b j (h.mono b j i),λb j i=>(k.cell b j (h.mono b j i)).trans (h.cell b j i),
  λid f=>(k.rho id (AI f h.num)).trans (h.rho id f),A6 h.num k.num⟩
theorem VRel.up{I I':Nat->Nat->Prop}{ρ ρ':Nat->Nat}{N N':Nat}{w w':World}(u:Up I ρ N w I' ρ' N' w'){v:V}{cv:Value}(h:VRel I ρ N w v cv):
  VRel I' ρ' N' w' v cv:=by
 induction h with
 |undef cv=>exact .undef cv
 |bool b=>exact .bool b
 |int k n h=>exact .int k n h
 |str l s d h=>exact .str l s d h
 |sln k o=>exact .sln k o
 |sle k o r G=>exact .sle k o r G
 |sl k o xs b a len cap d y c J f z D B m=>exact .sl k o xs b a len cap d y c J f (λi x j q A=>u.mono _ _ (z i x j q A)) (λi x j q A=>(u.cell _ _ (z i x j q A)).trans (D i x j q A)) m
 |agg cs vs d q F B m=>exact .agg cs vs d q F m
 |tup cs vs d B m=>exact .tup cs vs d m
 |ea cs b a f q z D B m=>exact .ea cs b a f q (λj h=>u.mono _ _ (z j h)) (λj h=>(u.cell _ _ (z j h)).trans (D j h)) m
 |ptr id a h=>rw[<-u.rho id h];exact .ptr id a (AI h u.num)
 |nilp=>exact .nilp
 |fn f cs vs d B m=>exact .fn f cs vs d m
 |nilif=>exact .nilif
 |bn E n p=>exact .bn E n p
 |junk cv h=>exact .junk cv h
 |so id n cap h y c=>rw[<-u.rho id h];exact .so id n cap (AI h u.num) y c
 |raw n b=>exact .raw n b
 |ul k xs r cap c=>exact .ul k xs r cap c
 |hd n r cap c=>exact .hd n r cap c
 |sw k id n h y c=>have e:=u.rho (id+1) h;have C:id+1<N':=AI h u.num;rw[<-u.rho id (by omega),<-e];exact .sw k id n C (by rw[e];exact y) (by rw[e];exact c)
 |sx k id a n r cap h y c d H=>have e:=u.rho (id+1) h;have C:id+1<N':=AI h u.num;rw[<-u.rho id (by omega)];exact .sx k id a n r cap C (by rw[e];exact y) (by rw[e];exact c) d H
 |wp id k i o h=>rw[<-u.rho id (by omega)];exact .wp id k i o (AI h u.num)
 |mr id h=>rw[<-u.rho id h];exact .mr id (AI h u.num)
 |nilm=>exact .nilm
section
variable{I:Nat->Nat->Prop}{ρ:Nat->Nat}{N:Nat}{w:World}
theorem VRel.own{k:EK}{o o':Fl}{xs:List (Ty k)}{cv:Value}(h:VRel I ρ N w (.sl k o xs) cv)(l:o'=.may true->o=.may true)(e:o'≠.own):VRel I ρ N w (.sl k o' xs) cv:=by
 cases h with
 |sln=>exact .sln _ _
 |sle _ _ m _=>exact .sle _ _ m e
 |sl _ _ _ b a len cap c q d r f j p i=>exact .sl k o' xs b a len cap c q d (λh=>r (l h)) f j p i
theorem VRel.disown{v:V}{cv:Value}(h:VRel I ρ N w v cv):VRel I ρ N w (disown v) cv:=by cases v<;>simp only[AM.disown]<;>first|exact h|exact h.own (by rename_i o _;cases o<;>simp[Fl.dis]) (by rename_i o _;cases o<;>simp[Fl.dis])|(cases h;exact .junk _ rfl)|(cases h;rename_i a;exact .hd _ _ _ a)|exact .undef _
theorem aiW(v:V)(cv:Value):fw (AM.disown v) cv:=by
 cases v with
 |sl k o xs=>cases o<;>simp[AM.disown,fw,Fl.dis]
 |_=>simp[AM.disown,fw]
theorem qk(v:V):(disown v).one=v.one:=by cases v<;>rfl
theorem VRel.oneCell{v:V}{cv:Value}(h:VRel I ρ N w v cv)(a:v.one=true):cv.oneCell'=true:=by cases h<;>first|rfl|assumption|simp[V.one] at a
theorem ahr(k:EK)(x:Ty k):∀c∈enc k x,c.one=true:=by cases k<;>simp[enc,V.one]
theorem cP(k:EK)(x:Ty k):(enc k x).length=k.sz:=by cases k<;>rfl
theorem VRel.weak{v:V}{cv:Value}(h:VRel I ρ N w v cv):VRel I ρ N w v.weak cv:=by cases v<;>simp only[V.weak]<;>first|exact h.own (by simp) (by simp)|exact h.disown
theorem VRel.full{k:EK}{xs:List (Ty k)}{a:Addr}{len cap:Nat}(h:VRel I ρ N w (.sl k (.may true) xs) (.slice (some a) len cap)):len=cap:=by
 cases h with
 |sle=>rfl
 |sl _ _ _ b c _ _ e p i d f l m j=>exact d rfl
theorem azN(k:EK)(x:Ty k):(enc k x).map V.weak=enc k x:=by cases k<;>rfl
def V.inRange:V->Prop
 | .int k n=>k.min<=n∧n<=k.max
 |_=>True
theorem VRel.inRange{v:V}{cv:Value}(h:VRel I ρ N w v cv):v.inRange:=by cases h<;>simp only[V.inRange]<;>assumption
theorem auZ{k:EK}{cs:List V}{x:Ty k}(h:dec k cs=some x)(a:∀c∈cs,c.inRange):enc k x=cs.map V.weak:=by
 unfold dec at h
 split at h<;>first
  |(cases AG h;rfl)
  |(cases AG h;simp[enc,V.weak,AM.disown];done)
  |(
    cases AG h;have:=a _ (Av.2 rfl);simp only[V.inRange,BU,Bz,AU,A8] at this;simp[enc,V.weak,AM.disown] at this ⊢;omega)
  |exact absurd h (by simp)
end
def V.flat1:V->Bool
 | .bool _| .int _ _| .str _| .sl _ _ _| .nilp| .nilif| .fn _ []=>true
 |_=>false
section
variable{I:Nat->Nat->Prop}{ρ ρ':Nat->Nat}{N N':Nat}{w:World}
theorem aiX(k:EK)(x:Ty k):∀c∈enc k x,c.flat1=true:=by cases k<;>simp[enc,V.flat1]
theorem VRel.flat1{v:V}{cv:Value}(h:VRel I ρ N w v cv):v.flat1=true->VRel I ρ' N' w v cv:=by
 induction h with
 |undef cv=>intro a;simp[V.flat1] at a
 |bool b=>intro _;exact .bool b
 |int k n h=>intro _;exact .int k n h
 |str l s d h=>intro _;exact .str l s d h
 |sln k o=>intro _;exact .sln k o
 |sle k o A z=>intro _;exact .sle k o A z
 |sl k o xs b e len cap d C q a f y B r m=>intro _;exact .sl k o xs b e len cap d C q a f y B (λi x j v u p=>m i x j v u p (aiX k x v (At p)))
 |agg=>intro a;simp[V.flat1] at a
 |tup=>intro a;simp[V.flat1] at a
 |ea=>intro a;simp[V.flat1] at a
 |ptr=>intro a;simp[V.flat1] at a
 |nilp=>intro _;exact .nilp
 |fn f cs vs d r m=>
  intro a;cases cs with
  |nil=>exact .fn f [] vs d (by simp)
  |cons c cs=>simp[V.flat1] at a
 |nilif=>intro _;exact .nilif
 |bn=>intro a;simp[V.flat1] at a
 |junk=>intro a;simp[V.flat1] at a
 |so=>intro a;simp[V.flat1] at a
 |raw=>intro a;simp[V.flat1] at a
 |ul=>intro a;simp[V.flat1] at a
 |hd=>intro a;simp[V.flat1] at a
 |sw=>intro a;simp[V.flat1] at a
 |sx=>intro a;simp[V.flat1] at a
 |wp=>intro a;simp[V.flat1] at a
 |mr=>intro a;simp[V.flat1] at a
 |nilm=>intro a;simp[V.flat1] at a
end
def amv(a:Nat×Nat)(n:Nat):Prop:=∀j,j<n->¬(a.1<=j∧j<a.2)
theorem aMa(n:Nat):amv (0,0) n:=by intro j _;simp
def amw(g:Gh)(w:World)(c:Occ)(k:EK)(xs:List (Ty k))(cv:Value):Prop:=
 (xs=[]∧cv=.slice none 0 0)∨
 ∃b cap a e d,amv d a.size∧cv=.slice (some ⟨b,0,none⟩) xs.length cap∧xs.length<=cap∧cap<=cw∧g.O b=some c∧w.heap[b]? =some (.cells a e d)∧cap*k.sz<=a.size∧(k=.u8->e=g.β)∧
  (∀j,¬g.I b j)∧∀(i:Nat) x (j:Nat) v u,xs[i]? =some x->(enc k x)[j]? =some v->a[i*k.sz+j]? =some u->VRel g.I (λ_=>0) 0 w v u
def aO(g:Gh)(w:World)(c:Occ)(v:V)(cv:Value):Prop:=
 match v,cv with
 | .sl k .own _,.slice (some a) len cap=>
   g.O a.block=some c∧(∃b e d,w.heap[a.block]? =some (.cells b e d)∧a.off+cap*k.sz<=b.size∧(k=.u8->e=g.β))∧
    ∀j,a.off+len*k.sz<=j->j<a.off+cap*k.sz->¬g.I a.block j∧w.frozen? ⟨a.block,j,none⟩=false
 | .raw n,.pointer (some a)=>g.O a.block=some c∧(∃b e,w.heap[a.block]? =some (.cells b e (0,0))∧b.size=n)∧∀j,¬g.I a.block j
 | .ul k xs,cv=>amw g w c k xs cv
 |_,_=>True
theorem amw.keep{g c:Gh}{w w':World}{a:Occ}{k:EK}{xs:List (Ty k)}{cv:Value}(h:amw g w a k xs cv)(d:c.β=g.β)
  (p:∀b j,g.I b j->c.I b j∧w'.cell? ⟨b,j,none⟩=w.cell? ⟨b,j,none⟩)
  (m:∀b,g.O b=some a->c.O b=some a∧w'.heap[b]? =w.heap[b]?∧∀j,c.I b j->g.I b j):amw c w' a k xs cv:=by
 rcases h with h|⟨b,cap,f,e,R,M,F,y,G,r,B,A,C,H,z⟩
 ·exact .inl h
 ·obtain⟨Q,q,P⟩:=m b r;refine .inr ⟨b,cap,f,e,R,M,F,y,G,Q,q.trans B,A,λm=>(C m).trans d.symm,λj E=>H j (P j E),λi x j v u L J D=>?_⟩;exact(z i x j v u L J D).up ⟨λb j l=>(p b j l).1,λb j l=>(p b j l).2,λ_ _=>rfl,Ap _⟩
theorem dC{g f:Gh}{w w':World}{a:Occ}{v:V}{cv:Value}(h:aO g w a v cv)
  (d:f.β=g.β) (E:∀b j,g.I b j->f.I b j∧w'.cell? ⟨b,j,none⟩=w.cell? ⟨b,j,none⟩)
  (i:∀b,g.O b=some a->f.O b=some a∧w'.heap[b]? =w.heap[b]?∧∀j,f.I b j->g.I b j):aO f w' a v cv:=by
 unfold aO at h ⊢;split;·rename_i k xs G len cap;obtain⟨x,⟨c,e,F,p,y,C⟩,m⟩:=h;obtain⟨A,l,z⟩:=i _ x;refine⟨A,⟨c,e,F,l.trans p,y,λi=>by rw[d];exact C i⟩,λj r q=>?_⟩;obtain⟨B,D⟩:=m j r q;refine⟨λu=>B (z j u),?_⟩;simpa [CD,l] using D
 ·obtain⟨x,⟨c,e,p,y⟩,m⟩:=h;obtain⟨A,l,z⟩:=i _ x;exact⟨A,⟨c,e,l.trans p,y⟩,λj u=>m j (z j u)⟩
 ·exact amw.keep h d E i
 ·trivial
theorem aO.disown(g:Gh)(w:World)(a:Occ)(v:V)(cv:Value):aO g w a (AM.disown v) cv:=by
 cases v with
 |sl k o xs=>cases o<;>simp[AM.disown,aO,Fl.dis]
 |_=>simp only[AM.disown,aO]
def cellsOf:List V->List V
 | [.rb xs]=>xs.map λb=>.int .u8 b.toNat
 | [.rw k xs]=>xs.flatMap (enc k)
 | [.tup [.rw k xs,.sw c a d,.wp _ _ i o]]=>(xs.flatMap (enc k)).set (i*k.sz+o) (.sw c a d)
 |cs=>cs
theorem nL{cs:List V}(h:d7 cs=false):cellsOf cs=cs:=by
 unfold cellsOf;split;·simp[d7] at h
 ·simp[d7] at h
 ·simp[d7] at h
 ·rfl
theorem aGe{vs:List V}{j:Nat}{c:V}(b:(cellsOf [.tup vs])[j]? =some c)(l:c.one=true):(∃k x,c∈enc k x)∨∃f a h,vs.any (λv=>match v with| .sw k id n=>decide (k=f∧id=a∧n=h)|_=>false)=true∧c=.sw f a h:=by
 unfold cellsOf at b;split at b;·rename_i e;cases e
 ·rename_i e;cases e
 ·rename_i k xs f a h _ _ i o e;cases e;rw[Ay] at b;split at b
  ·split at b;·obtain rfl:=AG b;exact .inr ⟨f,a,h,by simp,rfl⟩
   ·simp at b
  ·have d:=At b;simp only[AW] at d;obtain⟨y,_,d⟩:=d;exact .inl ⟨k,y,d⟩
 ·have d:=At b;simp only[Av] at d;subst d;simp[V.one] at l
def aph:List V->Option ((k:EK)×List (Ty k))
 | [.rw k xs]=>some ⟨k,xs⟩
 | [.tup [.rw k xs,.sw _ _ _,.wp _ _ _ _]]=>some ⟨k,xs⟩
 |_=>none
theorem abU{cs:List V}(h:d7 cs=false):aph cs=none:=by
 unfold aph;split;·simp[d7] at h
 ·simp[d7] at h
 ·rfl
structure sK(g:Gh)(N:Nat)(w:World)(id:Nat)(cs:List V)(arr:Array Value)(e:TypeId)(fz:Nat×Nat):Prop where
 len:(cellsOf cs).length<=arr.size
 plain:d7 cs=false->cs.length=arr.size∧fz=(0,0)
 typed:∀k xs,aph cs=some ⟨k,xs⟩->amv fz arr.size∧g.ρ (id+1)*k.sz<=arr.size∧id+1<N∧(k=.u8->e=g.β)
 cold:∀j,j<(cellsOf cs).length->¬(fz.1<=j∧j<fz.2)
 one:∀c∈cellsOf cs,c.one=true
 rel:∀(j:Nat) c cv,(cellsOf cs)[j]? =some c->arr[j]? =some cv->VRel g.I g.ρ N w c cv
 own:∀(j:Nat) c cv,(cellsOf cs)[j]? =some c->arr[j]? =some cv->aO g w (.cell id j) c cv
 bn:∀(j E n:Nat),(cellsOf cs)[j]? =some (.bn E n)->E=e∧n=arr.size∧(arr[j]? =some (.pointer none)∨arr[j]? =some (.pointer (some ⟨g.ρ id,j,none⟩)))
theorem sK.typedUp{g j:Gh}{N N':Nat}{w:World}{id:Nat}{cs:List V}{i f:Array Value}{e:TypeId}{m:Nat×Nat}(h:sK g N w id cs i e m)
  (l:j.β=g.β) (q:∀id,id<N->j.ρ id=g.ρ id) (v:N<=N') (p:i.size=f.size):
  ∀k xs,aph cs=some ⟨k,xs⟩->amv m f.size∧j.ρ (id+1)*k.sz<=f.size∧id+1<N'∧(k=.u8->e=j.β):=by
 intro k xs u;obtain⟨a,b,c,d⟩:=h.typed k xs u;exact⟨p▸a,by rw[q _ c];omega,by omega,λr=>(d r).trans l.symm⟩
structure amx(g:Gh)(N:Nat)(w:World)(id:Nat)(cs:List V)(arr:Array Value)(e:TypeId):Prop where
 len:cs.length=arr.size
 one:∀c∈cs,c.one=true
 rel:∀(j:Nat) c cv,cs[j]? =some c->arr[j]? =some cv->VRel g.I g.ρ N w c cv
 own:∀(j:Nat) c cv,cs[j]? =some c->arr[j]? =some cv->aO g w (.cell id j) c cv
 bn:∀(j E n:Nat),cs[j]? =some (.bn E n)->E=e∧n=arr.size∧(arr[j]? =some (.pointer none)∨arr[j]? =some (.pointer (some ⟨g.ρ id,j,none⟩)))
theorem aGf{cs:List V}(h:∀c∈cs,c.one=true):d7 cs=false:=by
 unfold d7;split;·have:=h _ (Av.2 rfl);simp[V.one] at this
 ·have:=h _ (Av.2 rfl);simp[V.one] at this
 ·have:=h _ (Av.2 rfl);simp[V.one] at this
 ·rfl
theorem sK.low{g:Gh}{N:Nat}{w:World}{id:Nat}{cs:List V}{j:Array Value}{e:TypeId}{l:Nat×Nat}(h:sK g N w id cs j e l)(k:d7 cs=false):
  l=(0,0)∧amx g N w id cs j e:=by
 have m:=nL k;obtain⟨a,b,t,c,d,f,g,i⟩:=h;rw[m] at d f g i;exact⟨(b k).2,(b k).1,d,f,g,i⟩
theorem amx.high{g:Gh}{N:Nat}{w:World}{id:Nat}{cs:List V}{c:Array Value}{e:TypeId}(h:amx g N w id cs c e):sK g N w id cs c e (0,0):=by have k:=aGf h.one;have b:=nL k;obtain⟨a,d,f,g,i⟩:=h;exact⟨by rw[b,a];exact Ap _,λ_=>⟨a,rfl⟩,by rw[abU k];simp,by intro j _;simp,by rw[b];exact d,by rw[b];exact f,by rw[b];exact g,by rw[b];exact i⟩
def MK.keyV:(k:MK)->k.K->Value
 | .pb,x=>.agg #[.int .i64 x.1,.int .i64 x.2]
 | .bs,x=>.int .u8 x
 | .bn,x=>.int .u8 x
 | .ib,x=>.int .i64 x
 | .sn,x=>.string ⟨x.toArray⟩
def MK.valV:(k:MK)->k.T->Value
 | .pb,x=>.bool x
 | .bs,x=>.string ⟨x.toArray⟩
 | .bn,x=>.int .i64 x
 | .ib,x=>.bool x
 | .sn,x=>.int .i64 x
def lM:List V->Bool
 | [.mp _ _]=>true
 |_=>false
def MK.okT:(k:MK)->k.T->Prop
 | .pb,_=>True
 | .bs,x=>x.length<=cw
 | .bn,x=>IntKind.i64.min<=x∧x<=IntKind.i64.max
 | .ib,_=>True
 | .sn,x=>IntKind.i64.min<=x∧x<=IntKind.i64.max
def wz{k:MK}(es:List (k.K×k.T))(ents:Array MapEntry)(clock:Nat):Prop:=
 es.length=ents.size∧clock=ents.size∧∀(i:Nat) e en,es[i]? =some e->ents[i]? =some en->en.born=i∧en.key=k.keyV e.1∧en.val=k.valV e.2∧k.okT e.2
structure jV(g:Gh)(N:Nat)(w:World)(id:Nat)(cs:List V):Prop where
 row:lM cs=false->∃arr e fz,w.heap[g.ρ id]? =some (.cells arr e fz)∧sK g N w id cs arr e fz
 map:∀(k:MK) es,cs=[.mp k es]->∃ents clock,w.heap[g.ρ id]? =some (.map ents clock)∧wz es ents clock
theorem aez{cs:List V}(h:lM cs=true):∃k es,cs=[.mp k es]:=by
 unfold lM at h;split at h;·exact⟨_,_,rfl⟩
 ·simp at h
theorem jV.block{g:Gh}{N:Nat}{w:World}{id:Nat}{cs:List V}(h:jV g N w id cs):∃x,w.heap[g.ρ id]? =some x:=by
 cases b:lM cs with
 |false=>obtain⟨d,e,f,a,_⟩:=h.row b;exact⟨_,a⟩
 |true=>obtain⟨k,es,rfl⟩:=aez b;obtain⟨ents,c,a,_⟩:=h.map k es rfl;exact⟨_,a⟩
theorem jV.lt{g:Gh}{N:Nat}{w:World}{id:Nat}{cs:List V}(h:jV g N w id cs):g.ρ id<w.heap.size:=by obtain⟨x,a⟩:=h.block;exact(A1.1 a).1
theorem jV.keep{g j:Gh}{N N':Nat}{w w':World}{id b:Nat}{cs:List V}(h:jV g N w id cs)(l:w'.heap[j.ρ b]? =w.heap[g.ρ id]?)(p:∀a e d,w.heap[g.ρ id]? =some (.cells a e d)->sK g N w id cs a e d->sK j N' w' b cs a e d):jV j N' w' b cs:=
 ⟨λm=>by obtain⟨a,e,d,f,i⟩:=h.row m;exact⟨a,e,d,l.trans f,p a e d f i⟩,λk es q=>by obtain⟨ents,c,f,i⟩:=h.map k es q;exact⟨ents,c,l.trans f,i⟩⟩
theorem jV.ofRow{g:Gh}{N:Nat}{w:World}{id:Nat}{cs:List V}{a:Array Value}{e:TypeId}{b:Nat×Nat}(f:w.heap[g.ρ id]? =some (.cells a e b))(d:sK g N w id cs a e b)(c:lM cs=false):jV g N w id cs:=
 ⟨λ_=>⟨a,e,b,f,d⟩,λk es h=>by subst h;simp[lM] at c⟩
theorem aGg{cs:List V}(h:∀c∈cs,c.one=true):lM cs=false:=by
 cases a:lM cs with
 |false=>rfl
 |true=>obtain⟨k,es,rfl⟩:=aez a;have:=h _ (Av.2 rfl);simp[V.one] at this
theorem jV.ofRow0{g:Gh}{N:Nat}{w:World}{id:Nat}{cs:List V}{a:Array Value}{e:TypeId}(c:w.heap[g.ρ id]? =some (.cells a e (0,0)))(b:amx g N w id cs a e):jV g N w id cs:=
 .ofRow c b.high (aGg b.one)
structure HR(g:Gh)(hp:List aJ)(w:World):Prop where
 obj:∀(id:Nat) cs,hp[id]? =some (some cs)->jV g hp.length w id cs
 apart:∀(id id':Nat) cs cs',hp[id]? =some (some cs)->hp[id']? =some (some cs')->id≠id'->g.ρ id≠g.ρ id'
 notI:∀(id:Nat) cs,hp[id]? =some (some cs)->∀j,¬g.I (g.ρ id) j
 notO:∀(id:Nat) cs,hp[id]? =some (some cs)->g.O (g.ρ id)=none
 exI:∀b j,g.I b j->(w.cell? ⟨b,j,none⟩).isSome=true
 oLt:∀b o,g.O b=some o->b<w.heap.size
structure ER(g:Gh)(N:Nat)(w:World)(env:List V)(tmps:Array Value):Prop where
 size:env.length=tmps.size
 rel:∀(n:Nat) v cv,env[n]? =some v->tmps[n]? =some cv->VRel g.I g.ρ N w v cv
 own:∀(n:Nat) v cv,env[n]? =some v->tmps[n]? =some cv->aO g w (.slot n) v cv
structure FR(g₀:Gh)(hp₀:List aJ)(w₀:World)(g:Gh)(hp:List aJ)(w:World):Prop where
 beta:g.β=g₀.β
 os:w.os=w₀.os
 tape:w.tape=w₀.tape
 output:w.output=w₀.output
 size:w₀.heap.size<=w.heap.size
 block:∀b,b<w₀.heap.size->(∀(id:Nat) cs,hp₀[id]? =some (some cs)->g₀.ρ id≠b)->g₀.O b=none->w.heap[b]? =w₀.heap[b]?
 up:Up g₀.I g₀.ρ hp₀.length w₀ g.I g.ρ hp.length w
 iSame:∀b j,b<w₀.heap.size->(∀(id:Nat) cs,hp₀[id]? =some (some cs)->g₀.ρ id≠b)->g₀.O b=none->g.I b j->g₀.I b j
 oSame:∀b,b<w₀.heap.size->(∀(id:Nat) cs,hp₀[id]? =some (some cs)->g₀.ρ id≠b)->g₀.O b=none->g.O b=none
 live:∀(id:Nat) cs,hp[id]? =some (some cs)->(∃cs₀,hp₀[id]? =some (some cs₀))∨(hp₀.length<=id∧(w₀.heap.size<=g.ρ id∨g₀.O (g.ρ id)≠none∨∃(id':Nat)(cs':List V),hp₀[id']? =some (some cs')∧g₀.ρ id'=g.ρ id))
theorem FR.refl(g:Gh)(hp:List aJ)(w:World):FR g hp w g hp w:=
 ⟨rfl,rfl,rfl,rfl,Ap _,λ_ _ _ _=>rfl,Up.refl _ _ _ _,λ_ _ _ _ _ h=>h,λ_ _ _ h=>h,λ_ cs h=>.inl ⟨cs,h⟩⟩
theorem FR.noObj{c g₁:Gh}{a hp₁:List aJ}{d w₁:World}(h:FR c a d g₁ hp₁ w₁){b:Nat}(v:b<d.heap.size)(q:∀(id:Nat) cs,a[id]? =some (some cs)->c.ρ id≠b)(u:c.O b=none):
  ∀(id:Nat) cs,hp₁[id]? =some (some cs)->g₁.ρ id≠b:=by
 intro id cs l e;rcases h.live id cs l with⟨f,p⟩|⟨_,i|i|⟨m,k,i,r⟩⟩
 ·refine q id f p ?_;have j:id<a.length:=(Ag.1 p).1;rw[<-h.up.rho id j];exact e
 ·omega
 ·rw[e] at i;exact i u
 ·exact q m k i (r.trans e)
theorem FR.trans{f g₁ a:Gh}{c hp₁ m:List aJ}{l w₁ q:World}(h:FR f c l g₁ hp₁ w₁)(k:FR g₁ hp₁ w₁ a m q):FR f c l a m q:=by
 refine⟨k.beta.trans h.beta,k.os.trans h.os,k.tape.trans h.tape,k.output.trans h.output,A6 h.size k.size,?_,h.up.trans k.up,?_,?_,?_⟩;·intro b i e d;exact(k.block b (AI i h.size) (h.noObj i e d) (h.oSame b i e d)).trans (h.block b i e d)
 ·intro b j i e d D;exact h.iSame b j i e d (k.iSame b j (AI i h.size) (h.noObj i e d) (h.oSame b i e d) D)
 ·intro b i e d;exact k.oSame b (AI i h.size) (h.noObj i e d) (h.oSame b i e d)
 ·intro id cs v;rcases k.live id cs v with⟨u,x⟩|⟨x,E⟩
  ·rcases h.live id u x with A|⟨A,z⟩
   ·exact .inl A
   ·refine .inr ⟨A,?_⟩;rw[k.up.rho id (Ag.1 x).1];exact z
  ·refine .inr ⟨A6 h.up.num x,?_⟩;by_cases r:a.ρ id<l.heap.size
   ·right;by_cases d:f.O (a.ρ id)=none
    ·right;by_cases e:∀(p:Nat) cs,c[p]? =some (some cs)->f.ρ p≠a.ρ id;·exact absurd rfl (FR.noObj k (AI r h.size) (h.noObj r e d) (h.oSame _ r e d) id cs v)
     ·exact Classical.byContradiction λC=>e λp y z B=>C ⟨p,y,z,B⟩
    ·left;exact d
   ·left;omega
def agV:Nat:=0
def au0:List Value:=[]
structure SR(g:Gh)(s:St)(w:World)(a:Act):Prop where
 hr:HR g s.hp w
 er:ER g s.hp.length w s.env a.tmps
def dp(g:Gh)(s:St)(w:World)(a:Act)(s':St)(next:Act->World->Prop):Prop:=
 ∀b w' c,SR c s' w' b->FR g s.hp w c s'.hp w'->b.defers=a.defers->next b w'
def tI:V->Value->Bool
 | .int k n,.int k' c=>decide (k=k')&&(n==c&&(decide (k.min<=n)&&decide (n<=k.max)))
 | .bool b,.bool d=>b==d
 | .str l,.string s=>decide (s.data.toList=l)&&decide (s.size<=cw)
 | .sl _ _ xs,.slice none 0 0=>xs.isEmpty
 | .ul _ xs,.slice none 0 0=>xs.isEmpty
 | .nilp,.pointer none=>true
 | .nilif,.nilIface=>true
 | .nilm,.map none=>true
 |_,_=>false
def jK:List V->List Value->Bool
 | [],[]=>true
 |c::cs,v::vs=>tI c v&&jK cs vs
 |_,_=>false
def ahs:V->Value->Bool
 | .agg cs,.agg vs=>jK cs vs.toList
 |v,cv=>tI v cv
def bw:ASrc->Operand->Bool
 | .t n,.tmp k=>n==k
 | .tk n,.tmp k=>n==k
 | .c v,.const cv=>ahs v cv
 | .c (.fn f []),.func h=>f==h
 |_,_=>false
section
variable{I:Nat->Nat->Prop}{ρ:Nat->Nat}{N:Nat}{w:World}{g:Gh}{s:St}{a:Act}{P:Program}
theorem aiY{v:V}{cv:Value}(h:tI v cv=true):VRel I ρ N w v cv∧v.one=true:=by
 unfold tI at h;split at h;·simp only[Ac,decide_eq_true_eq,beq_iff_eq] at h;obtain⟨rfl,rfl,c,b⟩:=h;exact⟨.int _ _ ⟨c,b⟩,rfl⟩
 ·obtain rfl:=by simpa using h
  exact⟨.bool _,rfl⟩
 ·simp only[Ac,decide_eq_true_eq] at h;exact⟨.str _ _ h.1 h.2,rfl⟩
 ·rename_i xs;cases xs with
  |nil=>exact⟨.sln _ _,rfl⟩
  |cons x xs=>simp at h
 ·rename_i k xs;cases xs with
  |nil=>exact⟨.ul k [] none 0 (by simp),rfl⟩
  |cons x xs=>simp at h
 ·exact⟨.nilp,rfl⟩
 ·exact⟨.nilif,rfl⟩
 ·exact⟨.nilm,rfl⟩
 ·simp at h
theorem asR{v:V}{cv:Value}(h:tI v cv=true):fw v cv:=by unfold tI at h;split at h<;>first|(simp[fw];done)|(simp at h;done)|(simp[fw];exact h)|(simp[fw];simp at h;exact h)|simp at h
theorem sa:∀{cs:List V}{vs:List Value},jK cs vs=true->∀(i:Nat) c cv,cs[i]? =some c->vs[i]? =some cv->fw c cv
 | [],[],_,i,c,cv,b,d=>by simp at b
 |c::cs,v::vs,h,i,f,e,b,d=>by
  simp only[jK,Ac] at h;cases i with
  |zero=>simp at b d;subst b d;exact asR h.1
  |succ i=>exact sa h.2 i f e (by simpa using b) (by simpa using d)
 | [],_::_,h,_,_,_,_,_=>by simp[jK] at h
 |_::_,[],h,_,_,_,_,_=>by simp[jK] at h
theorem sb:∀{cs:List V}{vs:List Value},jK cs vs=true->cs.length=vs.length∧(∀c∈cs,c.one=true)∧
  ∀(i:Nat) c cv,cs[i]? =some c->vs[i]? =some cv->VRel I ρ N w c cv
 | [],[],_=>⟨rfl,by simp,by simp⟩
 |c::cs,v::vs,h=>by
  simp only[jK,Ac] at h;obtain⟨k,f⟩:=aiY (I:=I) (ρ:=ρ) (N:=N) (w:=w) h.1;obtain⟨m,e,l⟩:=sb h.2;refine⟨by simp[m],by simpa using ⟨f,e⟩,?_⟩;intro i p j d b;cases i with
  |zero=>simp at d b;subst d b;exact k
  |succ i=>simp at d b;exact l i _ _ d b
 | [],_::_,h=>by simp[jK] at h
 |_::_,[],h=>by simp[jK] at h
theorem aCV{v:V}{cv:Value}(h:ahs v cv=true):VRel I ρ N w v cv:=by
 unfold ahs at h;split at h;·rename_i cs vs;obtain⟨f,e,j⟩:=sb (I:=I) (ρ:=ρ) (N:=N) (w:=w) h;exact .agg _ _ (by simpa using f) e (λi c cv d b=>sa h i c cv d (by simpa using b)) (λi c cv d b=>j i c cv d (by simpa using b))
 ·exact(aiY h).1
theorem abV{v:V}{cv:Value}(h:ahs v cv=true)(b:Occ):aO g w b v cv:=by
 unfold ahs at h;split at h;·simp[aO]
 ·unfold tI at h;split at h<;>first|(simp[aO];done)|(exact .inl ⟨by simpa using h,rfl⟩)|simp at h
theorem ER.get(h:ER g N w s.env a.tmps)(n:Nat):VRel g.I g.ρ N w (s.get n) (a.tmps.getD n undef):=by
 by_cases c:n<s.env.length
 ·have b:n<a.tmps.size:=by rw[<-h.size];exact c
  refine h.rel n _ _ ?_ ?_;·simp[St.get,Ai,Ah c]
  ·simp[Cg,b,Am b]
 ·have:s.get n=.undef:=by simp[St.get,Ai,Bj (Du c)]
  rw[this];exact .undef _
theorem ER.getOwn(h:ER g N w s.env a.tmps)(n:Nat):aO g w (.slot n) (s.get n) (a.tmps.getD n undef):=by
 by_cases c:n<s.env.length
 ·have b:n<a.tmps.size:=by rw[<-h.size];exact c
  refine h.own n _ _ ?_ ?_;·simp[St.get,Ai,Ah c]
  ·simp[Cg,b,Am b]
 ·have:s.get n=.undef:=by simp[St.get,Ai,Bj (Du c)]
  rw[this];simp[aO]
theorem bD{x:ASrc}{o:Operand}(h:bw x o=true)(e:ER g N w s.env a.tmps):VRel g.I g.ρ N w (x.ev s) (a.eval o):=by
 unfold bw at h;split at h
 ·obtain rfl:=by simpa using h
  exact(e.get _).disown
 ·obtain rfl:=by simpa using h
  exact e.get _
 ·exact aCV h
 ·obtain rfl:=by simpa using h
  exact .fn _ [] #[] rfl (by simp)
 ·simp at h
theorem ER.set(h:ER g N w s.env a.tmps)(d:Nat){v:V}{cv:Value}(j:VRel g.I g.ρ N w v cv)(k:aO g w (.slot d) v cv):
  ER g N w (s.set d v).env (a.put (some d) cv).tmps:=by
 refine⟨by simp[St.set,Act.put,h.size],?_,?_⟩
 ·intro n i f c b;simp only[St.set,Act.put,Ay,DO] at c b;by_cases e:d=n;·subst e;simp only[if_true] at c b;split at c<;>split at b<;>simp_all
  ·simp only[e,if_false] at c b;exact h.rel n _ _ c b
 ·intro n i f c b;simp only[St.set,Act.put,Ay,DO] at c b;by_cases e:d=n;·subst e;simp only[if_true] at c b;split at c<;>split at b<;>simp_all
  ·simp only[e,if_false] at c b;exact h.own n _ _ c b
theorem SR.set(h:SR g s w a)(d:Nat){v:V}{cv:Value}(b:VRel g.I g.ρ s.hp.length w v cv)(c:aO g w (.slot d) v cv):
  SR g (s.set d v) w (a.put (some d) cv):=⟨h.hr,h.er.set d b c⟩
def V.bare:V->Bool
 | .sl _ .own _=>false
 | .raw _=>false
 | .ul _ _=>false
 |_=>true
theorem oJ{v:V}(h:v.bare=true)(g:Gh)(w:World)(b:Occ)(cv:Value):aO g w b v cv:=by
 cases v with
 |sl k o xs=>cases o<;>first|simp[V.bare] at h;done|simp[aO]
 |raw n=>simp[V.bare] at h
 |ul k xs=>simp[V.bare] at h
 |_=>simp[aO]
theorem eX(v:V):(disown v).bare=true:=by
 cases v with
 |sl k o xs=>cases o<;>rfl
 |_=>rfl
theorem HR.drew{hp:List aJ}(h:HR g hp w):HR g hp w.drew:=by
 refine⟨?_,h.apart,h.notI,h.notO,h.exI,h.oLt⟩;intro id cs i;refine(h.obj id cs i).keep rfl λm e v r d=>?_
 have u:Up g.I g.ρ hp.length w g.I g.ρ hp.length w.drew:=⟨λ_ _ h=>h,λ_ _ _=>rfl,λ_ _=>rfl,Ap _⟩
 exact⟨d.len,d.plain,d.typed,d.cold,d.one,λj c cv k f=>(d.rel j c cv k f).up u,λj c cv k f=>dC (d.own j c cv k f) rfl (λb j l=>⟨l,rfl⟩) (λb p=>⟨p,rfl,λj q=>q⟩),d.bn⟩
theorem bv{m:Oper}{d:Nat}{v:V}{cv:Value}{next:Act->World->Prop}{Q:Exit->Act->World->Prop}(h:SR g s w a)(c:m.dst=some d)
  (b:(execOp a.eval m).run P w=.ok (.value cv) w) (f:VRel g.I g.ρ s.hp.length w v cv) (i:v.bare=true)
  (e:dp g s w a (s.set d v) next):m.wp P a w next Q:=by
 unfold Oper.wp Dy;rw[b,c];exact e _ _ g (h.set d f (oJ i _ _ _ _)) (FR.refl _ _ _) rfl
end
def mC:Option ASrc->Option Operand->Bool
 |none,none=>true
 |some x,some y=>bw x y
 |_,_=>false
def arn:ASrc->Bool
 | .tk _=>false
 |_=>true
def amy(P:Program)(t:TypeId)(k:IntKind):Bool:=match P.underlying t with|some (.int k')=>decide (k=k')|_=>false
def nM(P:Program)(t:TypeId):Option Bool:=match P.underlying t with|some (.struct _)|some (.array _ _)=>some true|some _=>some false|none=>none
def gk(P:Program)(t:TypeId):Option Nat:=(P.info? t).map (·.size)
def azO(P:Program)(t:TypeId):Bool:=match gk P t with|some n=>n !=0|none=>false
def lN(P:Program):Nat:=((BR P.types.size).find? λt=>match P.underlying t with|some (.int .u8)=>true|_=>false).getD 0
def aci(P:Program)(e:TypeId)(k:EK):Bool:=
 (match k with| .u8=>e==lN P|_=>true)&&
 (match P.info? e with
 |some i=>i.size==k.sz&&(i.bytes==k.bytes&&(nM P e==some k.isAgg&&(match i.zero with|some z=>jK (enc k (aK k)) z.cells.toList&&(z.cells.size==k.sz)|none=>false)))
 |none=>false)
def nD(P:Program)(t:TypeId)(k:EK):Bool:=match P.underlying t with|some (.slice e)=>aci P e k|_=>false
def aea:Op->Option (Builtin×List Operand×List TypeId)
 | .call c=>match c.callee with| .builtin b=>some (b,c.args.toList,c.argTypes.toList)|_=>none
 |_=>none
theorem nN{o:Op}{b:Builtin}{avs:List Operand}{e:List TypeId}(h:aea o=some (b,avs,e)):o=.call ⟨.builtin b,⟨avs⟩,⟨e⟩⟩:=by
 unfold aea at h;split at h
 ·rename_i c;obtain⟨d,⟨f⟩,⟨i⟩⟩:=c;simp only at h;split at h;·simp only[Ae,Al] at h;obtain⟨rfl,rfl,rfl⟩:=h;rfl
  ·simp at h
 ·simp at h
def ce(P:Program)(o:IOp)(m:Oper):Bool:=
 match o with
 | .pick d c x y=>(m.dst==some d)&&(match m.op with| .pick B h j=>bw c B&&(bw x h&&bw y j)&&(arn x&&arn y)|_=>false)
 | .bin d o x y=>(m.dst==some d)&&(match m.op with| .binOp o' _ h j _=>decide (o=o')&&(bw x h&&bw y j)|_=>false)
 | .un d o x=>(m.dst==some d)&&(match m.op with| .unOp o' _ h=>decide (o=o')&&bw x h|_=>false)
 | .cvi d k x=>(m.dst==some d)&&(match m.op with| .convert a b h=>(P.underlying a).isSome&&(amy P b k&&bw x h)|_=>false)
 | .b2s d x=>(m.dst==some d)&&(match m.op with| .convert a b h=>(match P.underlying a,P.underlying b with|some (.slice e),some .string=>amy P e .u8|_,_=>false)&&bw x h|_=>false)
 | .lens d x=>(m.dst==some d)&&(match aea m.op with|some (.len,[h],[t])=>(match P.underlying t with|some .string=>true|_=>false)&&bw x h|_=>false)
 | .lenl d x=>(m.dst==some d)&&(match aea m.op with|some (.len,[h],[t])=>(match P.underlying t with|some (.slice _)=>true|_=>false)&&bw x h|_=>false)
 | .idx d x i=>(m.dst==some d)&&(match m.op with| .index t h u=>(match P.underlying t with|some .string=>true|_=>false)&&(bw x h&&bw i u)|_=>false)
 | .ixa d k x i=>(m.dst==some d)&&(match m.op with| .indexAddr t h u=>nD P t k&&(bw x h&&bw i u)|_=>false)
 | .subs d x z v=>(m.dst==some d)&&(match m.op with| .slice t h q p none=>(match P.underlying t with|some .string=>true|_=>false)&&(bw x h&&(mC z q&&mC v p))|_=>false)
 | .subl d k x z v=>(m.dst==some d)&&(match m.op with| .slice t h q p none=>nD P t k&&(bw x h&&(mC z q&&mC v p))|_=>false)
 | .fad d l x=>(m.dst==some d)&&(match m.op with| .fieldAddr t h f=>(match P.underlying t with|some (.struct fs)=>(match fs[f]? with|some r=>(r.offset==l)&&azO P r.type|none=>false)|_=>false)&&bw x h|_=>false)
 | .fld d l n agg x=>(m.dst==some d)&&(match m.op with| .field t h f=>(match P.underlying t with|some (.struct fs)=>(match fs[f]? with|some r=>(r.offset==l)&&((gk P r.type==some n)&&((nM P r.type==some agg)&&(agg||n==1)))|none=>false)|_=>false)&&bw x h|_=>false)
 | .ext d i x=>(m.dst==some d)&&(match m.op with| .extract h u=>i==u&&bw x h|_=>false)
 | .nck d x=>(m.dst==d)&&(match m.op with| .nilCheck h=>bw x h|_=>false)
 | .ld d n agg false x=>(m.dst==some d)&&(match m.op with| .load t h=>(gk P t==some n)&&((nM P t==some agg)&&((agg||n==1)&&bw x h))|_=>false)
 | .snil d x=>(m.dst==some d)&&(match m.op with| .binOp o' t h j _=>decide (o'=.eql)&&((match P.underlying t with|some (.slice _)=>true|_=>false)&&(bw x h&&(match j with| .const (.slice none 0 0)=>true|_=>false)))|_=>false)
 | .mx d A x y=>(m.dst==some d)&&(match aea m.op with|some (.min,[h,j],_)=>A&&(bw x h&&bw y j)|some (.max,[h,j],_)=> !A&&(bw x h&&bw y j)|_=>false)
 |_=>false
section
variable{w:World}{g:Gh}{s s':St}{a:Act}{P:Program}{Γ:aI}{m:Oper}{next:Act->World->Prop}{Q:Exit->Act->World->Prop}
theorem gl(k:IntKind)(n:Int):k.min<=k.wrap n∧k.wrap n<=k.max:=by cases k<;>simp[Ab,BU,Bz,A8,AU]<;>omega
theorem asS(k:IntKind):k.min<=0∧0<=k.max:=by cases k<;>decide
theorem azP(x y:Int)(e:0<=x):x%y<=x:=by
 by_cases d:y=0;·subst d;simp
 ·rcases Int.lt_or_gt_of_ne d with h|h
  ·rw[<-Int.emod_neg];by_cases c:x< -y;·rw[Int.emod_eq_of_lt e c];omega
   ·have:=Int.emod_lt_of_pos x (b:=-y) (by omega);omega
  ·by_cases c:x<y;·rw[Int.emod_eq_of_lt e c];omega
   ·have:=Int.emod_lt_of_pos x h;omega
theorem aEW(k:IntKind)(x y:Int)(h:k.min<=x∧x<=k.max):k.min<=x.tmod y∧x.tmod y<=k.max:=by
 have f:=asS k;rcases Int.le_total 0 x with c|c
 ·have e:=Int.tmod_nonneg y c;have d:x.tmod y<=x:=by
   rw[Bh c];exact azP _ _ c
  omega
 ·have b:0<=-x:=by omega
  have e:=Int.tmod_nonneg y b;have d:(-x).tmod y<=-x:=by rw[Bh b];exact azP _ _ b
  rw[Int.neg_tmod] at e d;omega
theorem aGh(k:IntKind)(x:Int)(n:Nat)(h:k.min<=x∧x<=k.max):k.min<=x.fdiv (2^n)∧x.fdiv (2^n)<=k.max:=by
 have e:=asS k;have hp:(0:Int)<2^n:=DR (by omega);have hp':(1:Int)<=2^n:=hp;rw[Cb _ (by omega)];generalize (2:Int)^n=p at*
 rcases Int.le_total 0 x with b|b;·have d:=Int.ediv_nonneg b (DA hp);have c:=Int.ediv_le_self p b;omega
 ·have c:x / p<=0:=by
   have:=Int.ediv_le_ediv hp b;simpa using this
  have d:x<=x / p:=by refine(Int.le_ediv_iff_mul_le hp).2 ?_;have:=Int.mul_le_mul_of_nonpos_left b hp';simpa using this
  omega
theorem aJM{d:Nat}{c x y:ASrc}(e:ce P (.pick d c x y) m=true)(i:step Γ (.pick d c x y) s=some (true,s'))(h:SR g s w a)(k:dp g s w a s' next):m.wp P a w next Q:=by
 obtain⟨dst,I,H,l,v,F⟩:=m;simp only[ce,Ac,beq_iff_eq] at e;obtain⟨rfl,e⟩:=e;split at e
 ·rename_i C B D;simp only[Ac] at e;obtain⟨⟨z,p,A⟩,E,G⟩:=e;have f:=bD z h.er;have q:=(bD p h.er).disown;have u:=(bD A h.er).disown;simp only[step] at i;split at i
  ·rename_i t r;obtain rfl:_=s':=by simpa using i
   rw[aH5] at k;rw[r] at f;cases j:a.eval C with
   |bool b=>
    rw[j] at f;cases f;refine bv h rfl (cv:=if t then a.eval B else a.eval D) (by simp[execOp,j,asBool]) ?_ (by cases t<;>exact eX _) k;cases t;·exact u
    ·exact q
   |_=>rw[j] at f;cases f
  ·simp at i
 ·simp at e
theorem aK0{d:Nat}{k:IntKind}{x:ASrc}(b:ce P (.cvi d k x) m=true)(e:step Γ (.cvi d k x) s=some (true,s'))(h:SR g s w a)(q:dp g s w a s' next):m.wp P a w next Q:=by
 obtain⟨dst,G,D,l,v,C⟩:=m;simp only[ce,Ac,beq_iff_eq] at b;obtain⟨rfl,b⟩:=b;split at b
 ·rename_i E F B;simp only[Ac] at b;obtain⟨y,c,A⟩:=b;have i:=bD A h.er;simp only[step] at e;split at e
  ·rename_i k' n r;obtain rfl:_=s':=by simpa using e
   rw[r] at i;obtain⟨u,z⟩:=BG.1 y;unfold amy at c;split at c
   ·rename_i j p;obtain rfl:k=j:=by simpa using c
    generalize f:a.eval B=cv at i;cases i;refine bv h rfl (cv:=.int k (k.wrap n)) ?_ (.int _ _ (gl _ _)) rfl q;simp only[execOp,f,convert];cases u<;>simp[run_underlying z,run_underlying p,Conv.intToInt]
   ·simp at c
  ·simp at e
 ·simp at b
theorem adE(c:List Int):∀b:ByteArray,(c.foldl (λ(r:ByteArray) n=>r.push (Az n.toNat)) b).data.toList=b.data.toList++c.map λn=>Az n.toNat:=by
 induction c with
 |nil=>intro b;simp
 |cons n c d=>intro b;rw[Bf,d];simp[ByteArray.push]
theorem aiZ(c:UInt8):IntKind.u8.min<=(c.toNat:Int)∧(c.toNat:Int)<=IntKind.u8.max:=by have:=c.toNat_lt;simp[BU,Bz,AU,A8];omega
theorem asT:ByteArray.empty.data.toList=[]:=rfl
theorem kn(s:ByteArray):s.data.toList.length=s.size:=by rw[B4];rfl
theorem aK1{d:Nat}{x:ASrc}(q:ce P (.b2s d x) m=true)(A:step Γ (.b2s d x) s=some (true,s'))(h:SR g s w a)(F:dp g s w a s' next):m.wp P a w next Q:=by
 obtain⟨dst,op,ty,O,X,gd⟩:=m;simp only[ce,Ac,beq_iff_eq] at q;obtain⟨rfl,q⟩:=q;split at q
 ·rename_i t1 t2 x';simp only[Ac] at q;obtain⟨u,Z⟩:=q;have H:=bD Z h.er;simp only[step] at A;split at A
  ·rename_i o l R;obtain rfl:_=s':=by simpa using A
   rw[R] at H;split at u
   ·rename_i e C E;unfold amy at u;split at u
    ·rename_i N B;obtain rfl:IntKind.u8=N:=by simpa using u
     generalize p:a.eval x'=cv at H;cases H with
     |sln=>exact bv h rfl (cv:=.string .empty) (by simp[execOp,p,run_convert_bytes_string w _ _ _ _ _ _ C B E,Conv.bytesToString]) (.str _ _ rfl (by simp[cw])) rfl F
     |sle=>exact bv h rfl (cv:=.string .empty) (by simp[execOp,p,run_convert_bytes_string w _ _ _ _ _ _ C B E,Conv.bytesToString,loadCells,loadCellsFrom]) (.str _ _ rfl (by simp[cw])) rfl F
     |sl _ _ _ b I len cap W L hm S f hI hw Y=>
      subst W;have i:(loadCells ⟨b,I,none⟩ l.length).run P w=.ok ((l.map λc:UInt8=>(c.toNat:Int)).map (Value.int .u8)).toArray w:=by
       have z:l.length=((l.map λc:UInt8=>(c.toNat:Int)).map (Value.int .u8)).length:=by simp
       rw[z];refine run_loadCells_list w _ _ ?_;intro j v G;have D:j<l.length:=by simpa using (Ag.1 G).1
       have k:l[j]? =some l[j]:=Ah D;have J:=hw j l[j] 0 k (by simp[enc]);have M:=Y j l[j] 0 (.int .u8 l[j].toNat) k (by simp[enc]);simp only[EK.sz,CI,Ck] at J;rw[B0,J];simp only[DH,AF,k,BC,Ae,Function.comp] at G;subst G;generalize hf:f j 0=y at M;cases M;rfl
      refine bv h rfl (cv:=.string ((l.map λc:UInt8=>(c.toNat:Int)).foldl (λ(r:ByteArray) n=>r.push (Az n.toNat)) ByteArray.empty)) ?_ (.str _ _ ?_ ?_) rfl F;·simp[execOp,p,run_convert_bytes_string w _ _ _ _ _ _ C B E,run_bytesToString w _ _ _ _ i]
      ·rw[adE,asT];simp[D6]
      ·rw[<-kn,adE,asT];simp;omega
    ·simp at u
   ·simp at u
  ·simp at A
 ·simp at q
theorem aJN{d:Nat}{x:ASrc}(c:ce P (.lens d x) m=true)(e:step Γ (.lens d x) s=some (true,s'))(h:SR g s w a)(r:dp g s w a s' next):m.wp P a w next Q:=by
 obtain⟨dst,E,C,p,y,B⟩:=m;simp only[ce,Ac,beq_iff_eq] at c;obtain⟨rfl,c⟩:=c;split at c
 ·rename_i A t f;obtain rfl:=nN f;simp only[Ac] at c;obtain⟨k,z⟩:=c;have j:=bD z h.er;simp only[step] at e;split at e
  ·rename_i l u;obtain rfl:_=s':=by simpa using e
   rw[u] at j;split at k
   ·rename_i q;generalize i:a.eval A=cv at j;cases j with
    |str _ b v D=>subst v;refine bv h rfl (cv:=.int .i64 b.size) (by simp[execOp,resolve,i,invoke,builtin,Dd,run_underlying q,goInt]) ?_ rfl r;rw[kn];exact .int _ _ (by simp[BU,Bz,AU,A8,cw] at *;omega)
   ·simp at k
  ·simp at e
 ·simp at c
theorem aJO{d:Nat}{x:ASrc}(f:ce P (.lenl d x) m=true)(i:step Γ (.lenl d x) s=some (true,s'))(h:SR g s w a)(p:dp g s w a s' next):m.wp P a w next Q:=by
 obtain⟨dst,I,G,y,B,F⟩:=m;simp only[ce,Ac,beq_iff_eq] at f;obtain⟨rfl,f⟩:=f;split at f
 ·rename_i E t q;obtain rfl:=nN q;simp only[Ac] at f;obtain⟨v,D⟩:=f;have r:=bD D h.er;simp only[step] at i;split at i
  ·rename_i k o l z;obtain rfl:_=s':=by simpa using i
   rw[z] at r;split at v
   ·rename_i e j;generalize c:a.eval E=cv at r;cases r with
    |sle=>exact bv h rfl (cv:=.int .i64 0) (by simp[execOp,resolve,c,invoke,builtin,Dd,run_underlying j,goInt]) (.int _ _ (by decide)) rfl p
    |sln=>exact bv h rfl (cv:=.int .i64 0) (by simp[execOp,resolve,c,invoke,builtin,Dd,run_underlying j,goInt]) (.int _ _ (by decide)) rfl p
    |sl _ _ _ b C len cap A u H=>subst A;refine bv h rfl (cv:=.int .i64 l.length) (by simp[execOp,resolve,c,invoke,builtin,Dd,run_underlying j,goInt]) ?_ rfl p;exact .int _ _ (by simp[BU,Bz,AU,A8,cw] at *;omega)
   ·simp at v
  ·simp at i
 ·simp at f
theorem aK2{d:Nat}{x i:ASrc}(c:ce P (.idx d x i) m=true)(j:step Γ (.idx d x i) s=some (true,s'))(h:SR g s w a)(D:dp g s w a s' next):m.wp P a w next Q:=by
 obtain⟨dst,S,N,y,H,M⟩:=m;simp only[ce,Ac,beq_iff_eq] at c;obtain⟨rfl,c⟩:=c;split at c
 ·rename_i t L F;simp only[Ac] at c;obtain⟨v,A,J⟩:=c;have u:=bD A h.er;have p:=bD J h.er;simp only[step] at j;split at j
  ·rename_i l k n E I;simp only[Ae,Al,Ac,decide_eq_true_eq] at j;obtain⟨⟨C,z⟩,rfl⟩:=j;rw[E] at u;rw[I] at p;split at v
   ·rename_i B;generalize r:a.eval L=cv at u;generalize q:a.eval F=R at p;cases p;cases u with
    |str _ b G O=>
     subst G;have f:n.toNat<b.size:=by rw[kn] at z;omega
     have e:b[n.toNat]? =some (b.data.toList.getD n.toNat 0):=by
      rw[getElem?_pos b n.toNat f];have:n.toNat<b.data.toList.length:=by rw[kn];exact f
      simp only[Ai,Ah this,Bo];rfl
     refine bv h rfl (cv:=.int .u8 (b.data.toList.getD n.toNat 0).toNat) ?_ ?_ rfl D;·simp[execOp,r,q,Instr.index,asIntOf,run_underlying B,C,e]
     ·exact .int _ _ (aiZ _)
   ·simp at v
  ·simp at j
 ·simp at c
theorem aMb{d:Nat}{o:UnOp}{x:ASrc}(f:ce P (.un d o x) m=true)(l:step Γ (.un d o x) s=some (true,s'))(h:SR g s w a)(p:dp g s w a s' next):m.wp P a w next Q:=by
 obtain⟨dst,A,B,q,r,z⟩:=m;simp only[ce,Ac,beq_iff_eq] at f;obtain⟨rfl,f⟩:=f;split at f
 ·rename_i o' t y;simp only[Ac,decide_eq_true_eq] at f;obtain⟨rfl,u⟩:=f;have c:=bD u h.er;simp only[step,Aq] at l;obtain⟨v,i,l⟩:=l;obtain rfl:_=s':=by simpa using l
  generalize e:a.eval y=cv at c;unfold unV at i;split at i;·rename_i b j;cases AG i;rw[j] at c;cases c;exact bv h rfl (cv:=.bool (!b)) (by simp[execOp,e,Op.unary]) (.bool _) rfl p
  ·rename_i k n j;cases AG i;rw[j] at c;cases c;exact bv h rfl (cv:=.int k (k.wrap (0-n))) (by simp[execOp,e,Op.unary,DP]) (.int _ _ (gl _ _)) rfl p
  ·rename_i k n j;cases AG i;rw[j] at c;cases c;exact bv h rfl (cv:=.int k (bC .xor k (if k.signed then -1 else k.max) n)) (by simp[execOp,e,Op.unary,DC,bC]) (.int _ _ (gl _ _)) rfl p
  ·simp at i
 ·simp at f
theorem aEX{o:BinOp}{k:IntKind}{x y:Int}{v:V}(b:azL o k x y=some (true,v))(d:k.min<=x∧x<=k.max):
  ∃cv,(∀w:World,(if o=.add∨o=.sub∨o=.mul then DP o k x y else if o=.quo∨o=.rem then Op.intDiv o k x y else if o=.and∨o=.or∨o=.xor∨o=.andNot then DC o k x y else Dw o x y).run P w=.ok cv w)
   ∧(∀I ρ N w,VRel I ρ N w v cv)∧v.bare=true:=by
 unfold azL at b;split at b<;>(try simp only[Ae,Al,true_and,BW,beq_eq_false_iff_ne] at b)<;>(try (obtain⟨c,b⟩:=b))<;>(try subst b)
 ·exact⟨.int k (k.wrap (x+y)),λw=>by simp[DP],λ_ _ _ _=>.int _ _ (gl _ _),rfl⟩
 ·exact⟨.int k (k.wrap (x-y)),λw=>by simp[DP],λ_ _ _ _=>.int _ _ (gl _ _),rfl⟩
 ·exact⟨.int k (k.wrap (x*y)),λw=>by simp[DP],λ_ _ _ _=>.int _ _ (gl _ _),rfl⟩
 ·exact⟨.int k (k.wrap (x.tdiv y)),λw=>by simp[Op.intDiv,c],λ_ _ _ _=>.int _ _ (gl _ _),rfl⟩
 ·exact⟨.int k (x.tmod y),λw=>by simp[Op.intDiv,c],λ_ _ _ _=>.int _ _ (aEW _ _ _ d),rfl⟩
 ·exact⟨.int k (bC .and k x y),λw=>by simp[DC,bC],λ_ _ _ _=>.int _ _ (gl _ _),rfl⟩
 ·exact⟨.int k (bC .or k x y),λw=>by simp[DC,bC],λ_ _ _ _=>.int _ _ (gl _ _),rfl⟩
 ·exact⟨.int k (bC .xor k x y),λw=>by simp[DC,bC],λ_ _ _ _=>.int _ _ (gl _ _),rfl⟩
 ·exact⟨.int k (bC .andNot k x y),λw=>by simp[DC,bC],λ_ _ _ _=>.int _ _ (gl _ _),rfl⟩
 ·exact⟨.bool (x==y),λw=>by simp[Dw],λ_ _ _ _=>.bool _,rfl⟩
 ·exact⟨.bool (!(x==y)),λw=>by simp[Dw,bne],λ_ _ _ _=>.bool _,rfl⟩
 ·exact⟨.bool (decide (x<y)),λw=>by simp[Dw],λ_ _ _ _=>.bool _,rfl⟩
 ·exact⟨.bool (decide (x<=y)),λw=>by simp[Dw],λ_ _ _ _=>.bool _,rfl⟩
 ·exact⟨.bool (decide (y<x)),λw=>by simp[Dw],λ_ _ _ _=>.bool _,rfl⟩
 ·exact⟨.bool (decide (y<=x)),λw=>by simp[Dw],λ_ _ _ _=>.bool _,rfl⟩
theorem sd(s:ByteArray):s.toList=s.data.toList:=ByteArray.toList_eq s
theorem aEY(x y:List UInt8):(x==y)=decide (x=y):=by rw[BD];simp
theorem aEZ{o:BinOp}{x y:ByteArray}{v:V}(b:azM o x.data.toList y.data.toList=some (true,v)):
  ∃cv,(∀w:World,(CU o x y).run P w=.ok cv w)∧(∀I ρ N w,VRel I ρ N w v cv)∧v.bare=true:=by
 unfold azM at b;split at b<;>(try simp only[Ae,Al,true_and,decide_eq_true_eq,kn] at b)
 ·obtain⟨c,rfl⟩:=b;refine⟨.string (x++y),λw=>?_,λ_ _ _ _=>.str _ _ (by simp) (by simpa [ByteArray.size_append] using c),rfl⟩;have:¬(9223372036854775807<(x.size:Int)+(y.size:Int)):=by unfold cw at c;omega
  simp[CU,Bz,AU,A8,this]
 ·subst b;exact⟨.bool (decide (x.data.toList=y.data.toList)),λw=>by simp only[CU,sd,aEY];rfl,λ_ _ _ _=>.bool _,rfl⟩
 ·subst b;exact⟨.bool (!decide (x.data.toList=y.data.toList)),λw=>by simp only[CU,sd,aEY];rfl,λ_ _ _ _=>.bool _,rfl⟩
 ·subst b;exact⟨.bool (AO x.data.toList y.data.toList),λw=>by simp[CU,sd],λ_ _ _ _=>.bool _,rfl⟩
 ·subst b;exact⟨.bool (AO x.data.toList y.data.toList||decide (x.data.toList=y.data.toList)),λw=>by simp only[CU,sd,aEY];rfl,λ_ _ _ _=>.bool _,rfl⟩
 ·subst b;exact⟨.bool (!(AO x.data.toList y.data.toList||decide (x.data.toList=y.data.toList))),λw=>by simp only[CU,sd,aEY];rfl,λ_ _ _ _=>.bool _,rfl⟩
 ·subst b;exact⟨.bool (!Op.bytesLess x.data.toList y.data.toList),λw=>by simp[CU,sd],λ_ _ _ _=>.bool _,rfl⟩
 ·simp at b
end
section
variable{w:World}{g:Gh}{s s':St}{a:Act}{P:Program}{Γ:aI}{m:Oper}{next:Act->World->Prop}{Q:Exit->Act->World->Prop}
theorem aw4{k k':IntKind}{x y:Int}(d:0<=y)(c:k.min<=x∧x<=k.max):
  (∀w:World,(Op.shift .shl k x k' y).run P w=.ok (.int k (iu k x y)) w)∧(∀w:World,(Op.shift .shr k x k' y).run P w=.ok (.int k (ey k x y)) w)
   ∧(∀I ρ N w,VRel I ρ N w (.int k (iu k x y)) (.int k (iu k x y)))∧(∀I ρ N w,VRel I ρ N w (.int k (ey k x y)) (.int k (ey k x y))):=by
 have b:¬y<0:=by omega
 exact⟨λw=>by simp[Op.shift,b,iu],λw=>by simp[Op.shift,b,ey],λ_ _ _ _=>.int _ _ (gl _ _),λ_ _ _ _=>.int _ _ (aGh _ _ _ c)⟩
theorem aK3{d:Nat}{o:BinOp}{x y:ASrc}(f:ce P (.bin d o x y) m=true)(j:step Γ (.bin d o x y) s=some (true,s'))(h:SR g s w a)(A:dp g s w a s' next):m.wp P a w next Q:=by
 obtain⟨dst,op,ty,M,W,gd⟩:=m;simp only[ce,Ac,beq_iff_eq] at f;obtain⟨rfl,f⟩:=f;split at f
 ·rename_i o' t Z R t';simp only[Ac,decide_eq_true_eq] at f;obtain⟨rfl,Y,O⟩:=f;have r:=bD Y h.er;have i:=bD O h.er;simp only[step,Aq] at j;obtain⟨⟨c,v⟩,b,j⟩:=j;simp only[Al] at j;obtain⟨rfl,rfl⟩:=j;generalize l:a.eval Z=cx at r;generalize z:a.eval R=cy at i;unfold aH4 at b;split at b
  ·rename_i k p k' q D F;rw[D] at r;rw[F] at i;cases r with
   |int _ _ hp=>
   cases i with
   |int _ _ hq=>
   split at b;·simp only[Ae,Al,decide_eq_true_eq] at b;obtain⟨e,rfl⟩:=b;obtain⟨L,I,H,J⟩:=aw4 (P:=P) (k':=k') e hp;refine bv h rfl (cv:=.int k (iu k p q)) ?_ (H _ _ _ _) rfl A;simp[execOp,l,z,eqGuard,binOp,L]
   ·simp only[Ae,Al,decide_eq_true_eq] at b;obtain⟨e,rfl⟩:=b;obtain⟨L,I,H,J⟩:=aw4 (P:=P) (k':=k') e hp;refine bv h rfl (cv:=.int k (ey k p q)) ?_ (J _ _ _ _) rfl A;simp[execOp,l,z,eqGuard,binOp,I]
   ·rename_i N S;split at b;·rename_i hk;subst hk;obtain⟨cv,u,B,C⟩:=aEX (P:=P) b hp;have u:=u w;refine bv h rfl (cv:=cv) ?_ (B _ _ _ _) C A;cases o<;>simp_all [execOp,eqGuard,binOp]
    ·simp at b
  ·rename_i p q D F;rw[D] at r;rw[F] at i;cases r with
   |str _ sx G ab=>
   cases i with
   |str _ sy E X=>
   subst G E;obtain⟨cv,u,B,C⟩:=aEZ (P:=P) b;have u:=u w;refine bv h rfl (cv:=cv) ?_ (B _ _ _ _) C A;cases o<;>simp_all [execOp,eqGuard,binOp]
  ·simp at b
 ·simp at f
theorem pC{e:TypeId}{k:EK}(h:aci P e k=true):∃i z,P.info? e=some i∧i.size=k.sz∧i.bytes=k.bytes∧i.zero=some z∧nM P e=some k.isAgg∧
  jK (enc k (aK k)) z.cells.toList=true∧z.cells.size=k.sz:=by
 unfold aci at h;rw[Ac] at h;obtain⟨-,h⟩:=h;split at h
 ·rename_i i f;simp only[Ac,beq_iff_eq] at h;obtain⟨j,d,l,b⟩:=h;split at b;·rename_i z c;simp only[Ac,beq_iff_eq] at b;exact⟨i,z,f,j,d,c,l,b.1,b.2⟩
  ·simp at b
 ·simp at h
theorem abW{e:TypeId}{k:EK}(h:aci P e k=true)(b:k=.u8):e=lN P:=by subst b;unfold aci at h;rw[Ac] at h;simpa using h.1
theorem fJ{t:TypeId}{k:EK}(h:nD P t k=true):∃e,P.underlying t=some (.slice e)∧aci P e k=true:=by
 unfold nD at h;split at h;·rename_i e b;exact⟨e,b,h⟩
 ·simp at h
theorem mw{t:TypeId}{n:Nat}(h:gk P t=some n)(w:World):(sizeOf t).run P w=.ok n w:=by unfold gk at h;obtain⟨i,b,rfl⟩:=Aq.1 h;simp[sizeOf,typeInfo,b]
theorem yw{t:TypeId}{b:Bool}(h:nM P t=some b)(w:World):(isAgg t).run P w=.ok b w:=by
 unfold nM at h;split at h;·rename_i f e;obtain rfl:=AG h;simp[isAgg,run_underlying e]
 ·rename_i f c e;obtain rfl:=AG h;simp[isAgg,run_underlying e]
 ·rename_i d j i e;obtain rfl:=AG h;cases d<;>simp_all [isAgg,run_underlying e]
 ·simp at h
theorem aK4{d:Nat}{k:EK}{x i:ASrc}(r:ce P (.ixa d k x i) m=true)(q:step Γ (.ixa d k x i) s=some (true,s'))(h:SR g s w a)(N:dp g s w a s' next):m.wp P a w next Q:=by
 obtain⟨dst,op,ty,I,Z,gd⟩:=m;simp only[ce,Ac,beq_iff_eq] at r;obtain⟨rfl,r⟩:=r;split at r
 ·rename_i t x' X;simp only[Ac] at r;obtain⟨F,J,h3⟩:=r;have E:=bD J h.er;have A:=bD h3 h.er;simp only[step] at q;split at q
  ·rename_i k' o l ki n S hi;split at q
   ·rename_i hk;subst hk;simp only[Ae,Al,Ac,decide_eq_true_eq] at q;obtain⟨⟨M,y⟩,rfl⟩:=q;rw[S] at E;rw[hi] at A;obtain⟨e,L,F⟩:=fJ F;obtain⟨inf,z,i1,R,i3,i4,i5,_⟩:=pC F;generalize D:a.eval x'=cv at E;generalize C:a.eval X=ci at A;cases A;cases E with
    |sln=>simp at y;omega
    |sle=>simp at y;omega
    |sl _ _ _ b G len cap Y H hm W f hI hw hv=>
     subst Y;have B:n.toNat<l.length:=by omega
     have p:l[n.toNat]? =some l[n.toNat]:=Ah B;have O:l.getD n.toNat (aK k')=l[n.toNat]:=by simp[Ai,p]
     have v:∀w':World,(sizeOf e).run P w'=.ok k'.sz w':=λw'=>by simp[sizeOf,typeInfo,i1,R]
     refine bv h rfl (cv:=.pointer (some ⟨b,G+n.toNat*k'.sz,none⟩)) ?_ ?_ rfl N;·simp[execOp,D,C,D1,asIntOf,run_underlying L,M,y,v,B0]
     ·rw[O];exact .ea _ _ _ (f n.toNat) (ahr _ _) (λj u=>hI _ _ _ p u) (λj u=>hw _ _ _ p u) (λj c u=>hv _ _ _ _ p u)
   ·simp at q
  ·simp at q
 ·simp at r
theorem wA{v:Value}{k:IntKind}{n:Int}{y:Nat}{b:BoundsCode}(c:0<=n)(d:n<=y)(w:World):(Instr.sliceBound (.int k n) y b).run P w=.ok n.toNat w:=by simp[Instr.sliceBound,asIntOf,c,d]
theorem ai0{len cap:Nat}{isS:Bool}{D z:Option ASrc}{e c:Option Operand}{p q:Nat}(I:len<=cap)(j:mC D e=true)(f:mC z c=true)
  (b:ac7 len (jI s D) (jI s z)=some (true,p,q)) (h:SR g s w a):
  (CW isS len cap (e.map a.eval) (c.map a.eval) none).run P w=.ok (p,q,cap) w∧p<=q∧q<=len:=by
 have d:∀(x:ASrc)(y:Operand)(k:IntKind)(n:Int),bw x y=true->x.ev s=.int k n->a.eval y=.int k n:=by intro x y k n B i;have r:=bD B h.er;rw[i] at r;generalize H:a.eval y=cv at r;cases r;rfl
 cases D with
 |none=>
  cases e with
  |some _=>simp[mC] at j
  |none=>
  cases z with
  |none=>
   cases c with
   |some _=>simp[mC] at f
   |none=>
   simp only[jI,ac7,Ae,Al,true_and] at b;obtain⟨rfl,rfl⟩:=b;refine⟨by simp[CW],by omega,by omega⟩
  |some y=>
   cases c with
   |none=>simp[mC] at f
   |some L=>
   simp only[mC] at f;simp only[jI] at b;cases u:y.ev s<;>rw[u] at b<;>simp[ac7] at b;rename_i k n;obtain⟨⟨l,A⟩,rfl,rfl⟩:=b;have:=d _ _ _ _ f u;refine⟨?_,by omega,by omega⟩;simp[CW,this,wA (P:=P) (v:=.int k n) l (show n<=(cap:Int) by omega)]
 |some x=>
  cases e with
  |none=>simp[mC] at j
  |some N=>
  simp only[mC] at j;cases z with
  |none=>
   cases c with
   |some _=>simp[mC] at f
   |none=>
   simp only[jI] at b;cases i:x.ev s<;>rw[i] at b<;>simp[ac7] at b;rename_i k n;obtain⟨⟨l,A⟩,rfl,rfl⟩:=b;have:=d _ _ _ _ j i;refine⟨?_,by omega,by omega⟩;simp[CW,this,wA (P:=P) (v:=.int k n) l A]
  |some y=>
   cases c with
   |none=>simp[mC] at f
   |some L=>
   simp only[mC] at f;simp only[jI] at b;cases i:x.ev s<;>rw[i] at b<;>cases u:y.ev s<;>rw[u] at b<;>simp[ac7] at b;rename_i k n E C;obtain⟨⟨⟨l,A⟩,F,M⟩,rfl,rfl⟩:=b;have G:=d _ _ _ _ j i;have J:=d _ _ _ _ f u;refine⟨?_,by omega,by omega⟩;simp[CW,G,J,wA (P:=P) (v:=.int E C) l (show C<=(cap:Int) by omega),wA (P:=P) (v:=.int k n) F (show n<=(C.toNat:Int) by omega)]
theorem aJP{d:Nat}{x:ASrc}{v k:Option ASrc}(f:ce P (.subs d x v k) m=true)(e:step Γ (.subs d x v k) s=some (true,s'))(h:SR g s w a)(D:dp g s w a s' next):m.wp P a w next Q:=by
 obtain⟨dst,W,R,y,G,O⟩:=m;simp only[ce,Ac,beq_iff_eq] at f;obtain⟨rfl,f⟩:=f;split at f
 ·rename_i t J L C;simp only[Ac] at f;obtain⟨u,A,I,z⟩:=f;have j:=bD A h.er;simp only[step] at e;split at e
  ·rename_i l E;simp only[Aq] at e;obtain⟨⟨c,p,q⟩,r,e⟩:=e;simp only[Al] at e;obtain⟨rfl,rfl⟩:=e;rw[E] at j;split at u
   ·rename_i B;generalize i:a.eval J=cv at j;cases j with
    |str _ b F S=>
     subst F;rw[kn] at r;obtain⟨H,N,M⟩:=ai0 (P:=P) (isS:=false) (Ap _) I z r h;refine bv h rfl (cv:=.string (b.extract p q)) ?_ (.str _ _ ?_ ?_) rfl D;·simp[execOp,i,Dt,DQ,run_underlying B,H]
     ·simp[D8,Ct]
     ·simp[ByteArray.size_extract];omega
   ·simp at u
  ·simp at e
 ·simp at f
theorem aJQ{d:Nat}{k:EK}{x:ASrc}{lo E:Option ASrc}(G:ce P (.subl d k x lo E) m=true)(A:step Γ (.subl d k x lo E) s=some (true,s'))(h:SR g s w a)(S:dp g s w a s' next):m.wp P a w next Q:=by
 obtain⟨dst,op,ty,ag,an,gd⟩:=m;simp only[ce,Ac,beq_iff_eq] at G;obtain⟨rfl,G⟩:=G;split at G
 ·rename_i t x' au ai;simp only[Ac] at G;obtain⟨h1,h2,h3,W⟩:=G;have X:=bD h2 h.er;simp only[step] at A;split at A
  ·rename_i k' o l hx;split at A
   ·rename_i hk;subst hk;simp only[Aq] at A;obtain⟨⟨c,p,q⟩,Z,A⟩:=A;simp only[Al] at A;obtain⟨rfl,rfl⟩:=A;rw[hx] at X;obtain⟨e,R,h1⟩:=fJ h1;obtain⟨inf,z,i1,i2,i3,i4,i5,_⟩:=pC h1;have C:∀w':World,(sizeOf e).run P w'=.ok k'.sz w':=λw'=>by simp[sizeOf,typeInfo,i1,i2]
    generalize D:a.eval x'=cv at X;cases X with
    |sln=>
     obtain⟨F,e2,O⟩:=ai0 (P:=P) (isS:=true) (Ap _) h3 W Z h;simp only[Ak] at F O;obtain rfl:q=0:=by omega
     obtain rfl:p=0:=by omega
     refine bv h rfl (cv:=.slice none 0 0) ?_ ?_ rfl S;·simp[execOp,D,Dt,DQ,run_underlying R,F,C]
     ·simpa using VRel.sln (I:=g.I) (ρ:=g.ρ) (N:=s.hp.length) (w:=w) k' (.may false)
    |sle _ _ ad _=>
     obtain⟨F,e2,O⟩:=ai0 (P:=P) (isS:=true) (Ap _) h3 W Z h;simp only[Ak] at F O;obtain rfl:q=0:=by omega
     obtain rfl:p=0:=by omega
     refine bv h rfl (cv:=.slice (some ad) 0 0) ?_ ?_ rfl S;·simp[execOp,D,Dt,DQ,run_underlying R,F,C]
     ·simpa using VRel.sle (I:=g.I) (ρ:=g.ρ) (N:=s.hp.length) (w:=w) k' (.may false) ad (by simp)
    |sl _ _ _ b r len cap hl J hm al f hI hw Y=>
     subst hl;obtain⟨F,e2,O⟩:=ai0 (P:=P) (isS:=true) J h3 W Z h;by_cases L:cap=p
     ·subst L;have hq:q=cap:=by omega
      subst hq;have M:(l.take q).drop q=[]:=by simp
      refine bv h rfl (cv:=.slice (some ⟨b,r,none⟩) 0 0) ?_ ?_ rfl S;·simp[execOp,D,Dt,DQ,run_underlying R,F,C]
      ·rw[M];exact .sl k' (.may false) [] b r 0 0 rfl (by simp) (by simp[cw]) (by simp) f (λi x j E=>by simp at E) (λi x j E=>by simp at E) (λi x j v E=>by simp at E)
     ·refine bv h rfl (cv:=.slice (some ⟨b,r+p*k'.sz,none⟩) (q-p) (cap-p)) ?_ ?_ rfl S;·simp[execOp,D,Dt,DQ,run_underlying R,F,C,L,B0]
      ·have u:∀(i:Nat) y,((l.take q).drop p)[i]? =some y->l[p+i]? =some y:=by
        intro i y B;simp only[Bq,A7] at B;split at B;·exact B
        ·simp at B
       refine .sl k' (.may false) _ b _ _ _ ?_ ?_ (by omega) (by simp) (λi j=>f (p+i) j) ?_ ?_ ?_;·simp;omega
       ·simp;omega
       ·intro i y j B H;have:=hI _ _ _ (u i y B) H
        rwa [show r+p*k'.sz+i*k'.sz+j=r+(p+i)*k'.sz+j by rw[AS];omega]
       ·intro i y j B H;have:=hw _ _ _ (u i y B) H
        rwa [show r+p*k'.sz+i*k'.sz+j=r+(p+i)*k'.sz+j by rw[AS];omega]
       ·intro i y j v B H;exact Y _ _ _ _ (u i y B) H
   ·simp at A
  ·simp at A
 ·simp at G
theorem aK5{d e:Nat}{x:ASrc}(q:ce P (.fad d e x) m=true)(v:step Γ (.fad d e x) s=some (true,s'))(h:SR g s w a)(E:dp g s w a s' next):m.wp P a w next Q:=by
 obtain⟨dst,Z,Y,G,M,X⟩:=m;simp only[ce,Ac,beq_iff_eq] at q;obtain⟨rfl,q⟩:=q;split at q
 ·rename_i t F L;simp only[Ac] at q;obtain⟨k,H⟩:=q;have u:=bD H h.er;split at k
  ·rename_i fs J;split at k
   ·rename_i I C;simp only[Ac,beq_iff_eq] at k;obtain⟨R,k⟩:=k;have l:∀w':World,∃n,n≠0∧(sizeOf I.type).run P w'=.ok n w':=by
     intro w';unfold azO gk at k;split at k;·rename_i n A;exact⟨n,by simpa using k,mw (by simpa [gk] using A) w'⟩
     ·simp at k
    obtain⟨n,y,l⟩:=l w;have i:∀b o,(Instr.fieldAt t (.pointer (some ⟨b,o,none⟩)) L).run P w=.ok (.pointer (some ⟨b,o+e,none⟩)) w:=by intro b o;simp[Instr.fieldAt,run_underlying J,C,Ce,fieldPlace,l,y,R,B0]
    simp only[step] at v;split at v
    ·rename_i cs D;obtain rfl:_=s':=by simpa using v
     rw[D] at u;generalize p:a.eval F=cv at u;cases u with
     |ea _ b o f O S W N=>
      refine bv h rfl (cv:=.pointer (some ⟨b,o+e,none⟩)) (by simp[execOp,p,i]) ?_ rfl E;refine .ea _ _ _ (λj=>f (e+j)) (λc z=>O c (BL z)) ?_ ?_ ?_
      ·intro j r;simp only[AT] at r;have:=S (e+j) (by omega)
       rwa [CC]
      ·intro j r;simp only[AT] at r;have:=W (e+j) (by omega)
       rwa [CC]
      ·intro j c r;rw[Bq] at r;exact N _ _ r
    ·rename_i id o D;obtain rfl:_=s':=by simpa using v
     rw[D] at u;generalize p:a.eval F=cv at u;cases u with
     |ptr _ _ B=>exact bv h rfl (cv:=.pointer (some ⟨g.ρ id,o+e,none⟩)) (by simp[execOp,p,i]) (.ptr _ _ B) rfl E
    ·simp at v
   ·simp at k
  ·simp at k
 ·simp at q
theorem yx{I:Nat->Nat->Prop}{ρ:Nat->Nat}{N:Nat}{agg:Bool}{cs:List V}{vs:List Value}(l:∀c∈cs,c.one=true)(j:cs.length=vs.length)(h:agg=true∨cs.length=1)
  (k:∀(i:Nat) c cv,cs[i]? =some c->vs[i]? =some cv->VRel I ρ N w c cv):VRel I ρ N w (loaded agg cs) (if agg then .agg vs.toArray else vs.headD undef):=by
 cases agg with
 |true=>
  simp only[loaded,if_true];refine .agg _ _ (by simpa using j) ?_ ?_ ?_;·intro c d;obtain⟨e,b,rfl⟩:=AD.1 d;rw[qk];exact l e b
  ·intro i c cv d _;rw[AF,Aq] at d;obtain⟨e,_,rfl⟩:=d;exact aiW e cv
  ·intro i c cv d f;rw[AF,Aq] at d;obtain⟨e,b,rfl⟩:=d;exact(k i _ _ b (by simpa using f)).disown
 |false=>
  have h:cs.length=1:=by simpa using h
  match cs,vs,j,h with
  | [c],[v],_,_=>exact k 0 c v rfl rfl
theorem aK6{d b n:Nat}{agg:Bool}{x:ASrc}(f:ce P (.fld d b n agg x) m=true)(k:step Γ (.fld d b n agg x) s=some (true,s'))(h:SR g s w a)(F:dp g s w a s' next):m.wp P a w next Q:=by
 obtain⟨dst,op,Y,C,L,X⟩:=m;simp only[ce,Ac,beq_iff_eq] at f;obtain⟨rfl,f⟩:=f;split at f
 ·rename_i t S Z;simp only[Ac] at f;obtain⟨l,E⟩:=f;have u:=bD E h.er;split at l
  ·rename_i fs z;split at l
   ·rename_i W p;simp only[Ac,beq_iff_eq,Bl] at l;obtain⟨B,A,y,j⟩:=l;simp only[step] at k;split at k
    ·rename_i cs G;split at k
     ·rename_i H;obtain rfl:_=s':=by simpa using k
      rw[G] at u;generalize e:a.eval S=cv at u;cases u with
      |agg _ vs J R _ O=>
       have v:=yx (agg:=agg) (cs:=(cs.drop b).take n) (vs:=(vs.toList.drop b).take n) (w:=w) (I:=g.I) (ρ:=g.ρ) (N:=s.hp.length)
        (λc r=>R c (BL (BJ r))) (by simp[J]) (by
         rcases j with j|j;·exact .inl j
         ·right;simp;omega)
        (λi c cv f e=>by
         simp only[A7,Bq] at f e;split at f;·rename_i M;simp only[M,if_true] at e;exact O _ _ _ f (by simpa using e)
         ·simp at f)
       refine bv h rfl (cv:=if agg then .agg ((vs.toList.drop b).take n).toArray else ((vs.toList.drop b).take n).headD undef) ?_ v.disown ?_ F
       ·cases agg with
        |true=>simp[execOp,e,Instr.field,run_underlying z,p,asAgg,part,yw y,mw A,B];apply Array.ext';simp[D8]
        |false=>
         have j:n=1:=by simpa using j
         subst j;have q:b<vs.size:=by omega
         have:vs[b]? =some vs[b]:=Am q;have D:(vs.toList.drop b).take 1=[vs[b]]:=by rw[AX (by simpa using q)];simp
         simp[execOp,e,Instr.field,run_underlying z,p,asAgg,part,yw y,mw A,B,this,D]
       ·exact eX _
     ·simp at k
    ·simp at k
   ·simp at l
  ·simp at l
 ·simp at f
theorem aK7{d i:Nat}{x:ASrc}(b:ce P (.ext d i x) m=true)(c:step Γ (.ext d i x) s=some (true,s'))(h:SR g s w a)(u:dp g s w a s' next):m.wp P a w next Q:=by
 obtain⟨dst,F,C,r,y,B⟩:=m;simp only[ce,Ac,beq_iff_eq] at b;obtain⟨rfl,b⟩:=b;split at b
 ·rename_i A D;simp only[Ac,beq_iff_eq] at b;obtain⟨rfl,j⟩:=b;have p:=bD j h.er;simp only[step] at c;split at c
  ·rename_i vs v;split at c
   ·rename_i k;obtain rfl:_=s':=by simpa using c
    rw[v] at p;generalize l:a.eval A=cv at p;cases p with
    |tup _ cvs E z=>
     have q:vs[i]? =some vs[i]:=Ah k;have f:i<cvs.size:=by omega
     have j:cvs[i]? =some cvs[i]:=Am f;have e:vs[i]?.getD V.undef=vs[i]:=by simp[q]
     refine bv h rfl (cv:=cvs[i]) (by simp[execOp,l,Instr.extract,j]) ?_ (eX _) u;rw[e];exact(z _ _ _ q j).disown
   ·simp at c
  ·simp at c
 ·simp at b
theorem aK8{d:Option Nat}{x:ASrc}(f:ce P (.nck d x) m=true)(j:step Γ (.nck d x) s=some (true,s'))(h:SR g s w a)(u:dp g s w a s' next):m.wp P a w next Q:=by
 obtain⟨dst,C,r,i,k,q⟩:=m;simp only[ce,Ac,beq_iff_eq] at f;obtain⟨rfl,f⟩:=f;split at f
 ·rename_i l;have b:=bD f h.er;have key:∀v cv,VRel g.I g.ρ s.hp.length w v cv->v.bare=true->(execOp a.eval ⟨dst,.nilCheck l,r,i,k,q⟩).run P w=.ok (.value cv) w->dp g s w a (s.setO dst v) next->(⟨dst,.nilCheck l,r,i,k,q⟩:Oper).wp P a w next Q:=by
   intro v cv B A z y;cases dst with
   |some d=>exact bv h rfl z B A y
   |none=>unfold Oper.wp Dy;rw[z];exact y _ _ g h (FR.refl _ _ _) rfl
  simp only[step] at j;split at j
  ·rename_i id o p;obtain rfl:_=s':=by simpa using j
   rw[p] at b;generalize c:a.eval l=cv at b;have e:=b;cases b;exact key _ _ e rfl (by simp[execOp,c]) u
  ·rename_i cs p;obtain rfl:_=s':=by simpa using j
   rw[p] at b;generalize c:a.eval l=cv at b;have e:=b;cases b;exact key _ _ e rfl (by simp[execOp,c]) u
  ·simp at j
 ·simp at f
theorem yy{t:TypeId}{n:Nat}{agg:Bool}{b o:Nat}{vs:List Value}(d:gk P t=some n)(c:nM P t=some agg)(e:agg=true∨n=1)(f:vs.length=n)
  (h:∀(j:Nat) v,vs[j]? =some v->w.cell? ⟨b,o+j,none⟩=some v):
  (DF t (.pointer (some ⟨b,o,none⟩))).run P w=.ok (if agg then .agg vs.toArray else vs.headD undef) w:=by
 cases agg with
 |true=>have:=run_loadCells_list (P:=P) w ⟨b,o,none⟩ vs (λj v i=>by rw[B0];exact h j v i);rw[f] at this;simp[DF,Ce,loadVar,yw c,mw d,this]
 |false=>
  have e:n=1:=by simpa using e
  subst e;match vs,f with
  | [v],_=>have:=h 0 v rfl;simp only[Ck] at this;simp[DF,Ce,loadVar,yw c,this]
theorem aro{id:Nat}{cs:List V}(b:s.obj id=some cs):s.hp[id]? =some (some cs)∧d7 cs=false∧lM cs=false:=by
 unfold St.obj at b;simp only[Ai] at b;cases i:s.hp[id]? with
 |none=>rw[i] at b;simp at b
 |some x=>
  rw[i] at b;simp only[Bo] at b;split at b;·cases b
  ·cases b
  ·cases b
  ·cases b
  ·rename_i h e d f;subst b;refine⟨rfl,?_,?_⟩
   rotate_left
   ·cases j:lM cs with
    |false=>rfl
    |true=>obtain⟨k,es,rfl⟩:=aez j;exact(d _ _ rfl).elim
   cases c:d7 cs with
   |false=>rfl
   |true=>
    unfold d7 at c;split at c;·exact(h _ rfl).elim
    ·exact(e _ _ rfl).elim
    ·exact(f _ rfl).elim
    ·cases c
theorem jL{id:Nat}{cs:List V}(b:s.obj id=some cs):s.hp[id]? =some (some cs)∧d7 cs=false:=⟨(aro b).1,(aro b).2.1⟩
theorem xI{id:Nat}{cs:List V}(h:HR g s.hp w)(k:s.obj id=some cs):∃b e,w.heap[g.ρ id]? =some (.cells b e (0,0))∧amx g s.hp.length w id cs b e:=by obtain⟨i,f,d⟩:=aro k;obtain⟨b,e,p,j,c⟩:=(h.obj id cs i).row d;obtain⟨rfl,l⟩:=c.low f;exact⟨b,e,j,l⟩
theorem bE{b:Nat}{c:Array Value}{e:TypeId}{d:Nat×Nat}(h:w.heap[b]? =some (.cells c e d))(j:Nat):w.cell? ⟨b,j,none⟩=c[j]?:=by simp[BM,h]
theorem aE0{d n:Nat}{agg:Bool}{x:ASrc}(l:ce P (.ld d n agg false x) m=true)(p:step Γ (.ld d n agg false x) s=some (true,s'))(h:SR g s w a)(J:dp g s w a s' next):m.wp P a w next Q:=by
 obtain⟨dst,op,ty,R,Z,gd⟩:=m;simp only[ce,Ac,beq_iff_eq] at l;obtain⟨rfl,l⟩:=l;split at l
 ·rename_i t M;simp only[Ac,beq_iff_eq,Bl] at l;obtain⟨L,H,r,S⟩:=l;have B:=bD S h.er;simp only[step] at p;split at p
  ·rename_i cs E;split at p
   ·rename_i F;obtain rfl:_=s':=by simpa using p
    rw[E] at B;generalize k:a.eval M=cv at B;cases B with
    |ea _ b o f e1 hI hw hv=>
     have q:=yx (agg:=agg) (cs:=cs.take n) (vs:=(BR n).map f) (w:=w) (I:=g.I) (ρ:=g.ρ) (N:=s.hp.length)
      (λc y=>e1 c (BJ y)) (by simp;omega) (by
       rcases r with r|r;·exact .inl r
       ·right;simp;omega)
      (λi c cv l k=>by
       simp only[A7] at l;split at l;·rename_i G;simp[G] at k;subst k;exact hv _ _ l
       ·simp at l)
     refine bv h rfl (cv:=if agg then .agg ((BR n).map f).toArray else ((BR n).map f).headD undef) ?_ q.disown (eX _) J;have:=yy (P:=P) (w:=w) (b:=b) (o:=o) (vs:=(BR n).map f) L H r (by simp) (λj v z=>by rw[AF,Aq] at z;obtain⟨j',C,rfl⟩:=z;obtain⟨D,rfl⟩:=Ag.1 C;simp only[D7] at D;simpa using hw j (by omega));simp[execOp,k,this]
   ·simp at p
  ·rename_i id o E;split at p
   ·rename_i cs Y;split at p
    ·rename_i F;obtain rfl:_=s':=by simpa using p
     rw[E] at B;generalize k:a.eval M=cv at B;cases B with
     |ptr _ _ X=>
      obtain⟨u,e,W,A⟩:=xI h.hr Y;have O:=A.len
      have q:=yx (agg:=agg) (cs:=(cs.drop o).take n) (vs:=(u.toList.drop o).take n) (w:=w) (I:=g.I) (ρ:=g.ρ) (N:=s.hp.length)
       (λc y=>A.one c (BL (BJ y))) (by simp;omega) (by
        rcases r with r|r;·exact .inl r
        ·right;simp;omega)
       (λi c cv l k=>by
        simp only[A7,Bq] at l k;split at l;·rename_i G;simp only[G,if_true] at k;exact A.rel _ _ _ l (by simpa using k)
        ·simp at l)
      refine bv h rfl (cv:=if agg then .agg ((u.toList.drop o).take n).toArray else ((u.toList.drop o).take n).headD undef) ?_ q.disown (eX _) J;have:=yy (P:=P) (w:=w) (b:=g.ρ id) (o:=o) (vs:=(u.toList.drop o).take n) L H r (by simp;omega) (λj v z=>by
       rw[bE W];simp only[A7,Bq] at z;split at z;·simpa using z
       ·simp at z)
      simp[execOp,k,this]
    ·simp at p
   ·simp at p
  ·simp at p
 ·simp at l
theorem aMc{d:Nat}{A:Bool}{x y:ASrc}(c:ce P (.mx d A x y) m=true)(j:step Γ (.mx d A x y) s=some (true,s'))(h:SR g s w a)(H:dp g s w a s' next):m.wp P a w next Q:=by
 obtain⟨dst,I,L,B,F,J⟩:=m;simp only[ce,Ac,beq_iff_eq] at c;obtain⟨rfl,c⟩:=c;simp only[step] at j;have fin:∀e f z (b:Builtin),I=.call ⟨.builtin b,⟨[e,f]⟩,z⟩->(b=if A then Builtin.min else Builtin.max)->bw x e=true->bw y f=true->(⟨some d,I,L,B,F,J⟩:Oper).wp P a w next Q:=by
  rintro e f z b rfl G u l;have E:=bD u h.er;have C:=bD l h.er;split at j
  ·rename_i k p k' q M O;split at j
   ·rename_i N;subst N;obtain rfl:_=s':=by simpa using j
    rw[M] at E;rw[O] at C;generalize r:a.eval e=R at E;generalize v:a.eval f=S at C;cases E with
    |int _ _ hp=>
    cases C with
    |int _ _ W=>
    cases A with
    |true=>subst G;refine bv h rfl (cv:=.int k (if q<p then q else p)) ?_ (.int _ _ (by split<;>assumption)) rfl H;simp[execOp,resolve,r,v,invoke,builtin,Builtin.min_,Builtin.min2]
    |false=>subst G;refine bv h rfl (cv:=.int k (if p<q then q else p)) ?_ (.int _ _ (by split<;>assumption)) rfl H;simp[execOp,resolve,r,v,invoke,builtin,Builtin.max_,Builtin.max2]
   ·simp at j
  ·simp at j
 split at c;·rename_i e f z i;simp only[Ac] at c;obtain⟨D,u,l⟩:=c;exact fin e f _ .min (nN i) (by simp[D]) u l
 ·rename_i e f z i;simp only[Ac,BW] at c;obtain⟨D,u,l⟩:=c;exact fin e f _ .max (nN i) (by simp[D]) u l
 ·simp at c
theorem azQ{t e:TypeId}(b:P.underlying t=some (.slice e))(a:Addr)(l c:Nat)(w:World):(Op.equal t (.slice (some a) l c) (.slice none 0 0)).run P w=.ok false w:=by show (Op.equalIn (9999+1) t _ _).run P w=_;rw[Op.equalIn];simp[run_underlying b]
theorem aJR{d:Nat}{x:ASrc}(i:ce P (.snil d x) m=true)(j:step Γ (.snil d x) s=some (true,s'))(h:SR g s w a)(z:dp g s w a s' next):m.wp P a w next Q:=by
 obtain⟨dst,N,H,v,B,G⟩:=m;simp only[ce,Ac,beq_iff_eq] at i;obtain⟨rfl,i⟩:=i;split at i
 ·rename_i o' t F W t';simp only[Ac,decide_eq_true_eq] at i;obtain⟨rfl,u,D,r⟩:=i;obtain⟨e,y⟩:∃e,P.underlying t=some (.slice e):=by
   split at u;·exact⟨_,by assumption⟩
   ·simp at u
  split at r
  ·have q:=bD D h.er;simp only[step] at j;generalize p:a.eval F=J at q;split at j
   ·rename_i k o xs A;simp only[Ae,Al,decide_eq_true_eq] at j;obtain⟨c,rfl⟩:=j;rw[A] at q;cases q with
    |sln=>simp at c
    |sle=>simp at c
    |sl _ _ _ b C len cap L E I O f R S M=>
    refine bv h rfl (cv:=.bool false) ?_ (.bool _) rfl z;have l:a.eval (.const (.slice none 0 0))=.slice none 0 0:=rfl;simp[execOp,p,l,eqGuard,binOp,azQ y]
   ·simp at j
  ·simp at r
 ·simp at i
end
section
variable{w w':World}{g g':Gh}{s s':St}{a:Act}{P:Program}
theorem xm(k:EK)(x:Ty k):∀c∈enc k x,c.bare=true:=by cases k<;>simp[enc,V.bare]
def yz(p:Option Occ)(s:St):Prop:=
 match p with
 |some (.slot n)=>∀v,s.env[n]? =some v->v.bare=true
 |some (.cell id j)=>∀cs v,s.hp[id]? =some (some cs)->cs[j]? =some v->v.bare=true
 |_=>True
theorem SR.keep(h:SR g s w a)(p:Option Occ)(hp:yz p s)(r:g'.β=g.β)(u:Up g.I g.ρ s.hp.length w g'.I g'.ρ s.hp.length w')
  (Q:∀f b,g.O b=some f->p≠some f->g'.O b=some f∧w'.heap[b]? =w.heap[b]?∧∀j,g'.I b j->g.I b j)
  (E:∀(id:Nat) cs,s.hp[id]? =some (some cs)->w'.heap[g.ρ id]? =w.heap[g.ρ id]?∧g'.O (g.ρ id)=none∧∀j,g'.I (g.ρ id) j->g.I (g.ρ id) j)
  (G:∀b j,g'.I b j->(w'.cell? ⟨b,j,none⟩).isSome=true) (D:∀b o,g'.O b=some o->b<w'.heap.size):SR g' s w' a:=by
 have own:∀f v cv,aO g w f v cv->(p=some f->v.bare=true)->aO g' w' f v cv:=by
  intro f v cv A l;by_cases e:p=some f;·exact oJ (l e) _ _ _ _
  ·exact dC A r (λb j z=>⟨u.mono b j z,u.cell b j z⟩) (λb L=>Q f b L e)
 have lt:∀(id:Nat) cs,s.hp[id]? =some (some cs)->id<s.hp.length:=λid cs d=>(Ag.1 d).1
 refine⟨⟨?_,?_,?_,?_,G,D⟩,⟨h.er.size,?_,?_⟩⟩
 ·intro id cs d;refine(h.hr.obj id cs d).keep ?_ λM e W A l=>⟨l.len,l.plain,l.typedUp r u.rho u.num rfl,l.cold,l.one,λj c cv m i=>(l.rel j c cv m i).up u,λj c cv m i=>?_,by rw[u.rho id (lt id cs d)];exact l.bn⟩
  ·rw[u.rho id (lt id cs d),(E id cs d).1]
  ·refine own _ _ _ (l.own j c cv m i) ?_;rintro rfl;cases B:d7 cs with
   |false=>rw[nL B] at m;exact hp cs c d m
   |true=>
    unfold d7 at B;split at B;·simp only[cellsOf,AF,Aq] at m;obtain⟨_,_,rfl⟩:=m;rfl
    ·rename_i k xs;have J:=At m;simp only[cellsOf,AW] at J;obtain⟨x,_,F⟩:=J;exact xm k x c F
    ·rcases aGe m (l.one c (At m)) with⟨k,x,F⟩|⟨R,N,S,_,rfl⟩
     ·exact xm k x c F
     ·rfl
    ·cases B
 ·intro id q cs y A l H;rw[u.rho id (lt id cs A),u.rho q (lt q y l)];exact h.hr.apart id q cs y A l H
 ·intro id cs d j z;rw[u.rho id (lt id cs d)] at z;exact h.hr.notI id cs d j ((E id cs d).2.2 j z)
 ·intro id cs d;rw[u.rho id (lt id cs d)];exact(E id cs d).2.1
 ·intro n v cv C i;exact(h.er.rel n v cv C i).up u
 ·intro n v cv C i;refine own _ _ _ (h.er.own n v cv C i) ?_;rintro rfl;exact hp v C
theorem SR.bare(h:SR g s w a)(n:Nat):SR g (s.set n (disown (s.get n))) w a:=by
 refine⟨h.hr,⟨by simp[St.set,h.er.size],?_,?_⟩⟩
 ·intro m v cv b c;simp only[St.set,Ay] at b;by_cases e:n=m
  ·subst e;simp only[if_true] at b;split at b
   ·cases AG b;rename_i d;have:s.env[n]? =some (s.get n):=by simp[St.get,Ai,Ah d]
    exact(h.er.rel n _ cv this c).disown
   ·simp at b
  ·simp only[e,if_false] at b;exact h.er.rel m v cv b c
 ·intro m v cv b c;simp only[St.set,Ay] at b;by_cases e:n=m
  ·subst e;simp only[if_true] at b;split at b;·cases AG b;exact aO.disown _ _ _ _ _
   ·simp at b
  ·simp only[e,if_false] at b;exact h.er.own m v cv b c
theorem SR.after(h:SR g s w a)(x:ASrc):SR g (x.after s) w a:=by
 cases x with
 |tk n=>exact h.bare n
 |_=>exact h
theorem ql(x:ASrc)(s:St):(x.after s).hp=s.hp:=by cases x<;>rfl
theorem abX(n:Nat)(s:St):yz (some (.slot n)) ((ASrc.tk n).after s):=by
 intro v b;simp only[ASrc.after,St.set,Ay,if_true] at b;split at b;·cases AG b;exact eX _
 ·simp at b
def Gh.reown(g:Gh)(b:Nat)(o:Occ):Gh:={g with O:=λc=>if c=b then some o else g.O c}
theorem SR.reown(h:SR g s w a){p q:Occ}(hp:yz (some p) s){b:Nat}(i:g.O b=some p):SR (g.reown b q) s w a:=by
 refine h.keep (some p) hp rfl (Up.refl _ _ _ _) ?_ ?_ h.hr.exI ?_
 ·intro r m c f;have:m≠b:=by
   rintro rfl;rw[i] at c;exact f c
  exact⟨by simp[Gh.reown,this,c],rfl,λj k=>k⟩
 ·intro id cs l;refine⟨rfl,?_,λj k=>k⟩;have d:=h.hr.notO id cs l;have:g.ρ id≠b:=by
   rintro e;rw[e,i] at d;simp at d
  simp[Gh.reown,this,d]
 ·intro m o c;simp only[Gh.reown] at c;split at c;·rename_i e;subst e;exact h.hr.oLt _ _ i
  ·exact h.hr.oLt _ _ c
theorem FR.reown{hp:List aJ}{p q:Occ}{b:Nat}(f:g.O b=some p):FR g hp w (g.reown b q) hp w:=by
 refine⟨rfl,rfl,rfl,rfl,Ap _,λ_ _ _ _=>rfl,Up.refl _ _ _ _,λ_ _ _ _ _ e=>e,?_,λ_ cs h=>.inl ⟨cs,h⟩⟩;intro d _ _ c;have:d≠b:=by rintro rfl;rw[f] at c;simp at c
 simp[Gh.reown,this,c]
theorem arp{p q:Occ}{v:V}{cv:Value}(h:SR g s w a)(hp:yz (some p) s)(j:aO g w p v cv):
  ∃g₁,SR g₁ s w a∧FR g s.hp w g₁ s.hp w∧g₁.I=g.I∧g₁.ρ=g.ρ∧aO g₁ w q v cv:=by
 cases v with
 |sl k o xs=>
  cases o with
  |may u=>exact⟨g,h,FR.refl _ _ _,rfl,rfl,by simp[aO]⟩
  |own=>
   cases cv with
   |slice d len cap=>
    cases d with
    |none=>exact⟨g,h,FR.refl _ _ _,rfl,rfl,by simp[aO]⟩
    |some d=>obtain⟨c,f,i⟩:=j;exact⟨g.reown d.block q,h.reown hp c,FR.reown c,rfl,rfl,by simp[Gh.reown],f,i⟩
   |_=>exact⟨g,h,FR.refl _ _ _,rfl,rfl,by simp[aO]⟩
 |raw n=>
  cases cv with
  |pointer d=>
   cases d with
   |none=>exact⟨g,h,FR.refl _ _ _,rfl,rfl,by simp[aO]⟩
   |some d=>obtain⟨c,f,i⟩:=j;exact⟨g.reown d.block q,h.reown hp c,FR.reown c,rfl,rfl,by simp[Gh.reown],f,i⟩
  |_=>exact⟨g,h,FR.refl _ _ _,rfl,rfl,by simp[aO]⟩
 |ul k xs=>
  rcases j with j|⟨b,cap,l,e,y,r,c,f,i,m,x⟩
  ·exact⟨g,h,FR.refl _ _ _,rfl,rfl,.inl j⟩
  ·exact⟨g.reown b q,h.reown hp m,FR.reown m,rfl,rfl,.inr ⟨b,cap,l,e,y,r,c,f,i,by simp[Gh.reown],x⟩⟩
 |_=>exact⟨g,h,FR.refl _ _ _,rfl,rfl,by simp[aO]⟩
theorem SR.newRow(h:SR g s w a)(k:EK)(xs:List (Ty k))(cap d:Nat)(f:Array Value)(e:TypeId)(Q:Nat×Nat)
  (aa:w'.heap.size=w.heap.size+1) (l:∀b,b<w.heap.size->w'.heap[b]? =w.heap[b]?) (y:w'.heap[w.heap.size]? =some (.cells f e Q))
  (R:w'.os=w.os) (S:w'.tape=w.tape) (G:w'.output=w.output)
  {o:Fl} (W:o=.may true->xs.length=cap) (H:xs.length<=cap) (hm:cap<=cw) (r:cap*k.sz<=f.size) (E:k=.u8->e=g.β)
  (X:∀j,xs.length*k.sz<=j->j<cap*k.sz->¬(Q.1<=j∧j<Q.2))
  (N:∀(i:Nat) x j v,xs[i]? =some x->(enc k x)[j]? =some v->∃cv,f[i*k.sz+j]? =some cv∧VRel g.I g.ρ s.hp.length w v cv):
  ∃g',SR g' (s.set d (.sl k o xs)) w' (a.put (some d) (.slice (some ⟨w.heap.size,0,none⟩) xs.length cap))∧FR g s.hp w g' s.hp w':=by
 let g':Gh:={I:=λb j=>g.I b j∨(b=w.heap.size∧j<xs.length*k.sz),ρ:=g.ρ,O:=λb=>if b=w.heap.size then some (.slot d) else g.O b,β:=g.β}
 have C:∀b j,g.I b j->b<w.heap.size:=by intro b j A;obtain⟨v,N⟩:=BG.1 (h.hr.exI b j A);exact B3 _ _ N
 have z:∀b j,b<w.heap.size->w'.cell? ⟨b,j,none⟩=w.cell? ⟨b,j,none⟩:=by intro b j m;simp[BM,l b m]
 have u:Up g.I g.ρ s.hp.length w g'.I g'.ρ s.hp.length w':=⟨λb j A=>.inl A,λb j A=>z b j (C b j A),λ_ _=>rfl,Ap _⟩
 have q:∀j,w'.cell? ⟨w.heap.size,j,none⟩=f[j]?:=λj=>bE y j
 have Z:xs.length*k.sz<=f.size:=A6 (A2 _ H) r;have hs:SR g' s w' a:=by
  refine h.keep none trivial rfl u ?_ ?_ ?_ ?_
  ·intro Y b m _;have p:=h.hr.oLt b Y m;refine⟨by simp[g',Bu p,m],l b p,?_⟩;rintro j (c|⟨c,_⟩);·exact c
   ·omega
  ·intro id cs F;have p:=(h.hr.obj id cs F).lt;refine⟨l _ p,by simp[g',Bu p,h.hr.notO id cs F],?_⟩;rintro j (c|⟨c,_⟩);·exact c
   ·omega
  ·rintro b j (c|⟨rfl,c⟩);·rw[z b j (C b j c)];exact h.hr.exI b j c
   ·rw[q,Am (by omega)];rfl
  ·intro b o m;simp only[g'] at m;split at m;·omega
   ·have:=h.hr.oLt b o m;omega
 have L:∀(i:Nat) x,xs[i]? =some x->i<xs.length:=λi x B=>(Ag.1 B).1
 have J:∀(i j:Nat),i<xs.length->j<k.sz->i*k.sz+j<xs.length*k.sz:=by
  intro i j A c
  calc i*k.sz+j<i*k.sz+k.sz:=by omega
   _=(i+1)*k.sz:=by rw[AS,Ds]
   _<=xs.length*k.sz:=A2 _ A
 refine⟨g',hs.set d ?_ ?_,⟨rfl,R,S,G,by omega,λb m _ _=>l b m,u,?_,?_,λ_ cs h=>.inl ⟨cs,h⟩⟩⟩
 ·refine .sl k o xs _ _ _ _ rfl H hm W (λi j=>f[i*k.sz+j]?.getD undef) ?_ ?_ ?_;·intro i x j B c;rw[cP] at c;exact .inr ⟨rfl,by have:=J i j (L i x B) c;omega⟩
  ·intro i x j B c;obtain⟨cv,D,_⟩:=N i x j _ B (Ah c);rw[Bv,q,D];rfl
  ·intro i x j v B c;obtain⟨cv,D,M⟩:=N i x j v B c;rw[D];exact M.up u
 ·cases o with
  |may u=>simp[aO]
  |own=>
  refine⟨by simp[g'],⟨f,e,Q,y,by simpa using r,E⟩,?_⟩;intro j D M;simp only[Bv] at D M;refine⟨?_,?_⟩
  ·rintro(A|⟨_,A⟩);·exact absurd (C _ _ A) (by simp)
   ·omega
  ·have:=X j D M;simp only[CD,y];simpa using this
 ·rintro b j m _ _ (c|⟨c,_⟩);·exact c
  ·omega
 ·intro b m _ hO;simp[g',Bu m,hO]
end
section
variable{w w':World}{g g':Gh}{s s':St}{a:Act}{P:Program}{Γ:aI}{m:Oper}{next:Act->World->Prop}{Q:Exit->Act->World->Prop}
theorem fj{d:Nat}{cv:Value}(c:m.dst=some d)(b:(execOp a.eval m).run P w=.ok (.value cv) w')
  (h:∃g',SR g' s' w' (a.put (some d) cv)∧FR g s.hp w g' s'.hp w') (f:dp g s w a s' next):m.wp P a w next Q:=by
 unfold Oper.wp Dy;rw[b,c];obtain⟨g',i,e⟩:=h;exact f _ _ g' i e rfl
def af0:List ASrc->List (Nat×Operand)->Nat->Bool
 | [],[],_=>true
 |x::xs,(i,y)::ys,n=>(i==n)&&(bw x y&&af0 xs ys (n+1))
 |_,_,_=>false
def aeA(P:Program)(fs:Array Field):List (Nat×Nat×ASrc)->List (Nat×Operand)->Bool
 | [],[]=>true
 |(b,n,x)::xs,(i,y)::ys=>(match fs[i]? with|some f=>(f.offset==b)&&(gk P f.type==some n)|none=>false)&&(bw x y&&aeA P fs xs ys)
 |_,_=>false
def asU(P:Program)(t:TypeId)(zero:List V):Bool:=match P.info? t with|some i=>(match i.zero with|some z=>jK zero z.cells.toList|none=>false)|none=>false
def rq(P:Program)(o:IOp)(m:Oper):Bool:=
 match o with
 | .mov d x=>(m.dst==some d)&&(match m.op with| .move y=>bw x y| .assign y=>bw x y|_=>false)
 | .bsl d k c _=>(m.dst==some d)&&(match m.op with| .buildSlice t n h=>nD P t k&&(n==c.length&&(decide (c.length*k.sz<=16777216)&&af0 c h.toList 0))|_=>false)
 | .s2b d x=>(m.dst==some d)&&(match m.op with| .convert u t b=>(match P.underlying u with|some .string=>true|_=>false)&&(nD P t .u8&&((match P.underlying t with|some (.slice e)=>amy P e .u8|_=>false)&&bw x b))|_=>false)
 | .app d k x y=>(m.dst==some d)&&(match aea m.op with|some (.append,[b,f],[t,u])=>nD P t k&&(nD P u k&&(bw x b&&bw y f))|_=>false)
 | .apps d x y=>(m.dst==some d)&&(match aea m.op with|some (.append,[b,f],[t,u])=>nD P t .u8&&((match P.underlying u with|some .string=>true|_=>false)&&(bw x b&&bw y f))|_=>false)
 |_=>false
theorem aK9{d:Nat}{x:ASrc}(f:rq P (.mov d x) m=true)(E:step Γ (.mov d x) s=some (true,s'))(h:SR g s w a)(D:dp g s w a s' next):m.wp P a w next Q:=by
 obtain⟨dst,A,z,i,j,u⟩:=m;simp only[rq,Ac,beq_iff_eq] at f;obtain⟨rfl,f⟩:=f;obtain rfl:_=s':=by simpa [step] using E
 have fin:∀y,bw x y=true->(execOp a.eval ⟨some d,A,z,i,j,u⟩).run P w=.ok (.value (a.eval y)) w->(⟨some d,A,z,i,j,u⟩:Oper).wp P a w next Q:=by
  intro y b G;have r:=bD b h.er;refine fj rfl G ?_ D;cases x with
  |t n=>exact⟨g,h.set d r (oJ (eX _) _ _ _ _),FR.refl _ _ _⟩
  |c v=>
   refine⟨g,h.set d r ?_,FR.refl _ _ _⟩;unfold bw at b;split at b;·rename_i e;cases e
   ·rename_i e;cases e
   ·rename_i e;cases e;exact abV b _
   ·rename_i e;cases e;simp[ASrc.ev,aO]
   ·simp at b
  |tk n=>
   have l:y=.tmp n:=by
    unfold bw at b;split at b;·rename_i e;cases e
    ·rename_i k e;cases e;rw[show k=n by simpa using (beq_iff_eq.1 b).symm]
    ·rename_i e;cases e
    ·rename_i e;cases e
    ·simp at b
   subst l;have F:=h.er.getOwn n;obtain⟨g₁,H,p,I,B,C⟩:=arp (q:=.slot d) (h.after (.tk n)) (abX n s) F;refine⟨g₁,H.set d ?_ C,?_⟩;·rw[I,B];exact r
   ·rw[ql] at p;simpa [St.set,ql] using p
 split at f;·rename_i y;exact fin y f (by simp[execOp])
 ·rename_i y;exact fin y f (by simp[execOp])
 ·simp at f
theorem amz:∀(vs:List Value)(b j:Nat)(cells:Array Value),b+j+vs.length<=cells.size->
  ((vs.zipIdx j).foldl (λ(cs:Array Value)(x:Value×Nat)=>cs.setIfInBounds (b+x.2) x.1) cells).toList=cells.toList.take (b+j)++vs++cells.toList.drop (b+j+vs.length)
 | [],b,j,cells,h=>by simp
 |v::vs,b,j,cells,h=>by
  simp only[Af] at h;rw[List.zipIdx_cons,Bf,amz vs b (j+1) _ (by simp;omega)];simp only[Array.toList_setIfInBounds,Af];have c:b+j<cells.toList.length:=by rw[B4];omega
  rw[show b+(j+1)=b+j+1 by omega,List.take_succ_eq_append_getElem (by simpa using c),List.take_set_of_le (by omega),List.drop_set_of_lt (by omega)];simp[AB];omega
theorem azR(sz:Nat):∀(vs:List (Array Value))(i:Nat)(cells:Array Value),(∀v∈vs,v.size=sz)->(i+vs.length)*sz<=cells.size->∀(d:List (Nat×Value)),d.map (·.1)=Da i vs.length->d.map (·.2.cells)=vs->
  C6 (λi=>some (i*sz,sz)) cells d=some (cells.toList.take (i*sz)++(vs.map (·.toList)).flatten++cells.toList.drop ((i+vs.length)*sz)).toArray
 | [],i,cells,j,e,d,r,f=>by
   have:d=[]:=by simpa using f
   subst this;simp[C6]
 |v::vs,i,cells,j,e,d,r,f=>by
  match d,r,f with
  |(b,x)::h,u,k=>
  simp only[AL,Af,List.range'_succ,CS] at u k;obtain⟨rfl,B⟩:=u;obtain⟨rfl,C⟩:=k;have c:x.cells.size=sz:=j _ (AZ ..);simp only[Af] at e;have A:(b+(vs.length+1))*sz=b*sz+sz+vs.length*sz:=by rw[AS,AS];omega
  have q:b*sz+sz<=cells.size:=by omega
  have l:(x.cells.zipIdx.foldl (λ(cs:Array Value)(y:Value×Nat)=>cs.setIfInBounds (b*sz+y.2) y.1) cells).toList=cells.toList.take (b*sz)++x.cells.toList++cells.toList.drop (b*sz+sz):=by have:=amz x.cells.toList (b*sz) 0 cells (by simp[c];omega);simp only[Ck,B4,c] at this;rw[<-this,<-Array.foldl_toList,Array.toList_zipIdx]
  have z:(x.cells.zipIdx.foldl (λ(cs:Array Value)(y:Value×Nat)=>cs.setIfInBounds (b*sz+y.2) y.1) cells).size=cells.size:=by rw[<-B4,l];simp[c];omega
  simp only[C6,c];rw[if_neg (by simp;omega)];rw[azR sz vs (b+1) _ (λv c=>j v (A3 _ c)) (by rw[z];rw[show (b+1+vs.length)=b+(vs.length+1) by omega];exact e) h B C,l];have D:x.cells.toList.length=sz:=by simp[c]
  have p:(cells.toList.take (b*sz)++x.cells.toList).length=b*sz+sz:=by simp[c];omega
  rw[show (b+1)*sz=b*sz+sz by rw[AS];omega,show (b+1+vs.length)*sz=(b*sz+sz)+vs.length*sz by rw[AS,AS];omega,Af,A];rw[CA p,<-Dj,List.drop_left' p,Dj];simp[AB]
theorem asV{I:Nat->Nat->Prop}{ρ:Nat->Nat}{N:Nat}{k:EK}:∀{vs:List V}{xs:List (Ty k)}{cvs:List Value},ahq k vs=some xs->cvs.length=vs.length->
  (∀(i:Nat) v cv,vs[i]? =some v->cvs[i]? =some cv->VRel I ρ N w v cv)->
  xs.length=vs.length∧(∀cv∈cvs,cv.cells.size=k.sz)∧
   ∀(i:Nat) x (j:Nat) v,xs[i]? =some x->(enc k x)[j]? =some v->∃(cv u:Value),cvs[i]? =some cv∧cv.cells[j]? =some u∧VRel I ρ N w v u
 | [],xs,cvs,h,A,G=>by
   have:cvs=[]:=by simpa using A
   subst this;simp only[ahq,Ae] at h;subst h;exact⟨rfl,by simp,by simp⟩
 |v::vs,xs,cv::cvs,h,A,G=>by
  simp only[ahq] at h;split at h
  ·rename_i x l d J;obtain rfl:=AG h;obtain⟨S,O,R⟩:=asV (vs:=vs) (cvs:=cvs) J (by simpa using A) (λi v cv e r=>G (i+1) v cv (by simpa using e) (by simpa using r));have r0:=G 0 v cv rfl rfl;have F:=r0;have q:v.cells.length=cv.cells.size∧(∀(j:Nat) c u,v.cells[j]? =some c->cv.cells[j]? =some u->VRel I ρ N w c u):=by
    cases r0 with
    |agg cs us D e W L=>exact⟨by simpa [V.cells,CH] using D,by simpa [V.cells,CH] using L⟩
    |undef cv=>cases k<;>simp[V.cells,dec] at d<;>(rename_i p;cases p<;>simp at d)
    |tup cs us A L=>cases k<;>simp[V.cells,dec] at d<;>(rename_i p;cases p<;>simp at d)
    |junk cv=>cases k<;>simp[V.cells,dec] at d<;>(rename_i p;cases p<;>simp at d)
    |_=>
     refine⟨by simp[V.cells,CH],?_⟩;intro j c u e r;cases j with
     |zero=>simp[V.cells,CH] at e r;subst e r;exact F
     |succ j=>simp[V.cells] at e
   have E:∀c∈v.cells,c.inRange:=by
    intro c b;obtain⟨j,z,rfl⟩:=Be.1 b;have:j<cv.cells.size:=by rw[<-q.1];exact z
    exact(q.2 j _ _ (Ah z) (Am this)).inRange
   have M:=auZ d E;have B:cv.cells.size=k.sz:=by rw[<-q.1,<-cP k x,M,BY]
   refine⟨by simp[S],by simpa using ⟨B,O⟩,?_⟩;intro i y j u H C;cases i with
   |succ i=>simpa using R i y j u (by simpa using H) C
   |zero=>
    simp at H;subst H;rw[M,AF,Aq] at C;obtain⟨c,b,rfl⟩:=C;have z:j<v.cells.length:=(Ag.1 b).1;have f:j<cv.cells.size:=by rw[<-q.1];exact z
    exact⟨cv,cv.cells[j],rfl,Am f,(q.2 j _ _ b (Am f)).weak⟩
  ·simp at h
theorem azS(sz:Nat):∀(cvs:List Value),(∀cv∈cvs,cv.cells.size=sz)->∀(i j:Nat) cv u,cvs[i]? =some cv->cv.cells[j]? =some u->
  ((cvs.map (·.cells.toList)).flatten)[i*sz+j]? =some u
 | [],_,i,j,cv,u,b,_=>by simp at b
 |c::cvs,e,0,j,cv,u,b,d=>by
  simp at b;subst b;have p:j<c.cells.size:=by
   rcases AH j c.cells.size with h|h;·exact h
   ·simp[B7 h] at d
  simp only[AL,List.flatten_cons,Nat.zero_mul,Bv];rw[Ax (by simpa using p)];simpa using d
 |c::cvs,e,i+1,j,cv,u,b,d=>by
  have k:=e c (AZ ..);have l:=azS sz cvs (λcv f=>e cv (A3 _ f)) i j cv u (by simpa using b) d;simp only[AL,List.flatten_cons];rw[Au (by simp[k,AS];omega)];rw[<-l]
  congr 1
  simp[k,AS];omega
theorem aw5(h:ER g s.hp.length w s.env a.tmps):∀(c:List ASrc)(d:List (Nat×Operand))(n:Nat),af0 c d n=true->
  (d.map λq=>(q.1,a.eval q.2)).map (·.1)=Da n c.length∧d.length=c.length∧
   ∀(i:Nat) v cv,(c.map (·.ev s))[i]? =some v->(d.map λq=>a.eval q.2)[i]? =some cv->VRel g.I g.ρ s.hp.length w v cv
 | [],[],n,_=>by simp
 |x::c,(i,y)::d,n,hp=>by
  simp only[af0,Ac,beq_iff_eq] at hp;obtain⟨rfl,l,k⟩:=hp;obtain⟨r,f,p⟩:=aw5 h c d (i+1) k;refine⟨?_,by simp[f],?_⟩;·simp only[AL,Af,List.range'_succ];rw[r]
  ·intro j v cv e b;cases j with
   |zero=>simp at e b;subst e b;exact bD l h
   |succ j=>exact p j v cv (by simpa using e) (by simpa using b)
 | [],_::_,n,hp=>by simp[af0] at hp
 |_::_,[],n,hp=>by simp[af0] at hp
theorem my(w:World)(o:Go.Obj):(w.alloc o).heap.size=w.heap.size+1∧(∀b,b<w.heap.size->(w.alloc o).heap[b]? =w.heap[b]?)∧(w.alloc o).heap[w.heap.size]? =some o:=by
 refine⟨by simp,?_,?_⟩;·intro b c;show (w.heap.push o)[b]? =_;rw[DK,if_neg (by omega)]
 ·show (w.heap.push o)[w.heap.size]? =_;simp
theorem aLa{d:Nat}{k:EK}{A:List ASrc}{u:Bool}(M:g.β=lN P)(C:rq P (.bsl d k A u) m=true)(J:step Γ (.bsl d k A u) s=some (true,s'))(h:SR g s w a)(hn:dp g s w a s' next):m.wp P a w next Q:=by
 obtain⟨dst,op,ty,ah,ap,gd⟩:=m;simp only[rq,Ac,beq_iff_eq] at C;obtain⟨rfl,C⟩:=C;split at C
 ·rename_i t n y;simp only[Ac,beq_iff_eq,decide_eq_true_eq] at C;obtain⟨H,rfl,h2,h3⟩:=C;simp only[step,Aq] at J;obtain⟨xs,Y,J⟩:=J;obtain rfl:_=s':=by simpa using J
  obtain⟨e,u1,H⟩:=fJ H;obtain⟨inf,z,i1,i2,i3,i4,i5,i6,i7⟩:=pC H;obtain⟨k1,E,k3⟩:=aw5 h.er A y.toList 0 h3;obtain⟨L,R,r3⟩:=asV (cvs:=y.toList.map λq=>a.eval q.2) Y (by simp[E]) k3;simp only[BY] at L;have ak:z.cells.size=k.sz:=i7;have O:0<k.sz:=by cases k<;>simp[EK.sz]
  let D:Array Value:=(Array.range (A.length*k.sz)).map (λj=>z.cells[j%z.cells.size]!);have r:D.size=A.length*k.sz:=by simp[D]
  have p:C6 (λi=>some (i*k.sz,k.sz)) D ((y.map λx=>(x.1,a.eval x.2)).toList)=some ((y.toList.map λq=>a.eval q.2).map (·.cells.toList)).flatten.toArray:=by have:=azR k.sz ((y.toList.map λq=>a.eval q.2).map (·.cells)) 0 D (by intro v Z;obtain⟨cv,B,rfl⟩:=AD.1 Z;exact R cv B) (by simp[r,E]) ((y.map λx=>(x.1,a.eval x.2)).toList) (by simpa [E] using k1) (by simp);rw[this];simp[E,r,DH,D6]
  have I:((y.toList.map λq=>a.eval q.2).map (·.cells.toList)).flatten.length=xs.length*k.sz:=by
   rw[List.length_flatten,DH];have:∀l:List Value,(∀cv∈l,cv.cells.size=k.sz)->(l.map (Aa∘λx:Value=>x.cells.toList)).sum=l.length*k.sz:=by
    intro l hl;induction l with
    |nil=>simp
    |cons c l ih=>simp only[AL,List.sum_cons,Af,ih (λcv B=>hl cv (A3 _ B)),AS,Function.comp];have:=hl c (AZ ..);simp[this];omega
   rw[this _ R,BY,E,L]
  let b:Array Value:=((y.toList.map λq=>a.eval q.2).map (·.cells.toList)).flatten.toArray;have f:=my w (.cells b e);refine fj rfl (w':=w.alloc (.cells b e)) (cv:=.slice (some ⟨w.heap.size,0,none⟩) xs.length xs.length) ?_ ?_ hn
  ·have F:¬(16777216<A.length*k.sz):=by omega
   have ad:D.size=A.length*k.sz:=r;simp only[Array.toList_map,D] at p;by_cases h0:A.length*k.sz=0
   ·have S:A.length=0:=by
     rcases Nat.mul_eq_zero.1 h0 with h|h;·exact h
     ·omega
    have W:y.toList=[]:=Bw (by omega);have X:xs.length=0:=by omega
    have G:y= #[]:=by simpa using W
    simp[execOp,Instr.buildSlice,run_underlying u1,sizeOf,typeInfo,i1,i2,F,h0,S,G,X,C6,newRow,b];rw[show Array.range 0= #[] from Array.eq_empty_of_size_eq_zero (by simp),Array.map_empty]
   ·simp[execOp,Instr.buildSlice,run_underlying u1,sizeOf,typeInfo,i1,i2,F,h0,zeroValue,i4,p,newRow,L,b]
  ·obtain⟨g',N,q2⟩:=h.newRow (w':=w.alloc (.cells b e)) k xs xs.length d b e (0,0) f.1 f.2.1 f.2.2 rfl rfl rfl (o:=cond u (.may true) .own) (λ_=>rfl) (Ap _) (by unfold cw;have:xs.length<=xs.length*k.sz:=Dl _ O;rw[L] at *;omega)
    (by simp only[b,D3,I];exact Ap _) (λhk=>by rw[M];exact abW H hk) (by intro j H h2;omega) (by intro i x j v Y Z;obtain⟨cv,u,N,q2,q3⟩:=r3 i x j v Y Z;refine⟨u,?_,q3⟩;simp only[b,List.getElem?_toArray];exact azS k.sz _ R i j cv u N q2)
   exact⟨g',N,q2⟩
 ·simp at C
end
section
variable{w w':World}{g g':Gh}{s s':St}{a:Act}{P:Program}{Γ:aI}{m:Oper}{next:Act->World->Prop}{Q:Exit->Act->World->Prop}
theorem nE(b:Nat):∀(vs:List Value)(o:Nat)(w:World)(d:Array Value)(e:TypeId)(f:Nat×Nat),w.heap[b]? =some (.cells d e f)->
  (∃c,(w.setCells b o vs).heap[b]? =some (.cells c e f)∧c.size=d.size)∧(∀i,i≠b->(w.setCells b o vs).heap[i]? =w.heap[i]?)∧
   (w.setCells b o vs).heap.size=w.heap.size∧(w.setCells b o vs).os=w.os∧(w.setCells b o vs).tape=w.tape∧(w.setCells b o vs).output=w.output
 | [],o,w,d,e,f,h=>⟨⟨d,h,rfl⟩,λ_ _=>rfl,rfl,rfl,rfl,rfl⟩
 |v::vs,o,w,d,e,f,h=>by
  have p:(w.setCell ⟨b,o,none⟩ v).heap[b]? =some (.cells (d.setIfInBounds o v) e f):=by simp[World.setCell,Cz,h]
  obtain⟨⟨c,u,k⟩,r,x,q,y,l⟩:=nE b vs (o+1) (w.setCell ⟨b,o,none⟩ v) _ e f p;refine⟨⟨c,u,by simpa using k⟩,λi j=>?_,x.trans (by simp[World.setCell]),q,y,l⟩;rw[show (w.setCells b o (v::vs))=(w.setCell ⟨b,o,none⟩ v).setCells b (o+1) vs from rfl,r i j];simp only[World.setCell,Cz];rw[if_neg (by simpa using C8 j)]
theorem asW{k:EK}{o:Fl}{xs:List (Ty k)}{cv:Value}(h:VRel g.I g.ρ s.hp.length w (.sl k o xs) cv):
  ∃(L:List Value),L.length=xs.length*k.sz∧(∀u∈L,u.oneCell'=true)∧
   (∀(i:Nat) x (j:Nat) v,xs[i]? =some x->(enc k x)[j]? =some v->∃u,L[i*k.sz+j]? =some u∧VRel g.I g.ρ s.hp.length w v u)∧
   ((xs=[]∧∃A,cv=.slice A 0 0∧(o=.own->A=none))∨∃b c cap,cv=.slice (some ⟨b,c,none⟩) xs.length cap∧xs.length<=cap∧cap<=cw∧∀(j:Nat) u,L[j]? =some u->w.cell? ⟨b,c+j,none⟩=some u):=by
 cases h with
 |sln=>exact⟨[],by simp,by simp,by simp,.inl ⟨rfl,none,rfl,λ_=>rfl⟩⟩
 |sle _ _ A H=>exact⟨[],by simp,by simp,by simp,.inl ⟨rfl,some A,rfl,λh=>absurd h H⟩⟩
 |sl _ _ _ b c len cap N S G X f Y W F=>
  subst N;have r:0<k.sz:=by cases k<;>simp[EK.sz]
  have D:∀(i j:Nat),j<k.sz->(i*k.sz+j) / k.sz=i∧(i*k.sz+j)%k.sz=j:=by
   intro i j l;constructor;·rw[C2,Nat.add_mul_div_right _ _ r,Nat.div_eq_of_lt l];omega
   ·rw[C2,Nat.add_mul_mod_self_right,Bn l]
  have e:∀(q:Nat),q<xs.length*k.sz->q / k.sz<xs.length∧q%k.sz<k.sz∧q / k.sz*k.sz+q%k.sz=q:=by intro q B;exact⟨Ch (by rwa [BZ]),Nat.mod_lt _ r,Nat.div_add_mod' q k.sz⟩
  refine⟨(BR (xs.length*k.sz)).map λq=>f (q / k.sz) (q%k.sz),by simp,?_,?_,.inr ⟨b,c,cap,rfl,S,G,?_⟩⟩
  ·intro u z;obtain⟨q,B,rfl⟩:=AD.1 z;obtain⟨E,C,R⟩:=e q (by simpa using B);have p:xs[q / k.sz]? =some xs[q / k.sz]:=Ah E;have l:q%k.sz<(enc k xs[q / k.sz]).length:=by rw[cP];exact C
   exact(F _ _ _ _ p (Ah l)).oneCell (ahr _ _ _ (B1 l))
  ·intro i x j v p y;have l:j<k.sz:=by
    have:=(Ag.1 y).1
    rwa [cP] at this
   have O:i<xs.length:=(Ag.1 p).1;have d:i*k.sz+j<xs.length*k.sz:=by
    calc i*k.sz+j<i*k.sz+k.sz:=by omega
     _=(i+1)*k.sz:=by rw[AS,Ds]
     _<=xs.length*k.sz:=A2 _ O
   obtain⟨J,M⟩:=D i j l;refine⟨f i j,?_,F i x j v p y⟩;simp[AF,List.getElem?_range d,J,M]
  ·intro j u z;rw[AF,Aq] at z;obtain⟨q,B,rfl⟩:=z;obtain⟨d,rfl⟩:=Ag.1 B;simp only[D7] at d;obtain⟨E,C,R⟩:=e j d;have p:xs[j / k.sz]? =some xs[j / k.sz]:=Ah E;have:=W _ _ (j%k.sz) p (by rw[cP];exact C);rw[show c+j / k.sz*k.sz+j%k.sz=c+j by omega] at this;simpa using this
theorem SR.inPlace(h:SR g s w a){p:Occ}(hp:yz (some p) s)(k:EK)(xs ys:List (Ty k))(b r cap d:Nat)(news:List Value)
  (hx:VRel g.I g.ρ s.hp.length w (.sl k .own xs) (.slice (some ⟨b,r,none⟩) xs.length cap)) (W:aO g w p (.sl k .own xs) (.slice (some ⟨b,r,none⟩) xs.length cap))
  (E:xs.length+ys.length<=cap) (hl:news.length=ys.length*k.sz)
  (hv:∀(i:Nat) x (j:Nat) v,ys[i]? =some x->(enc k x)[j]? =some v->∃u,news[i*k.sz+j]? =some u∧VRel g.I g.ρ s.hp.length w v u):
  ∃g',SR g' (s.set d (.sl k .own (xs++ys))) (w.setCells b (r+xs.length*k.sz) news) (a.put (some d) (.slice (some ⟨b,r,none⟩) (xs.length+ys.length) cap))∧
   FR g s.hp w g' s.hp (w.setCells b (r+xs.length*k.sz) news):=by
 obtain⟨N,⟨ag,e,fz,o2,o3,ab⟩,o4⟩:=W;simp only at N o2 o3 o4;let B:=r+xs.length*k.sz;have an:B+news.length<=r+cap*k.sz:=by have:(xs.length+ys.length)*k.sz<=cap*k.sz:=A2 _ E;rw[AS] at this;simp only[B,hl];omega
 obtain⟨⟨X,q1,q2⟩,q3,q4,q5,q6,q7⟩:=nE b news B w ag e fz o2;let w':=w.setCells b B news;let g':Gh:={I:=λq j=>g.I q j∨(q=b∧B<=j∧j<B+news.length),ρ:=g.ρ,O:=λq=>if q=b then some (.slot d) else g.O q,β:=g.β}
 have Y:∀j,B<=j->j<r+cap*k.sz->¬g.I b j:=λj l z=>(o4 j l z).1
 have D:∀q j,g.I q j->w'.cell? ⟨q,j,none⟩=w.cell? ⟨q,j,none⟩:=by
  intro q j C;refine BF b news B w _ ?_;rintro rfl _;rcases AH j B with l|l;·exact .inl l
  ·rcases AH j (r+cap*k.sz) with z|z;·exact absurd C (Y j l z)
   ·right;show B+news.length<=j;omega
 have G:∀j (c:j<news.length),w'.cell? ⟨b,B+j,none⟩=some news[j]:=by intro j c;refine Cm b news B w (λj' ax=>?_) j c;rw[bE o2,Am (by omega)];rfl
 have ak:∀(id:Nat) cs,s.hp[id]? =some (some cs)->g.ρ id≠b:=by intro id cs J e';have:=h.hr.notO id cs J;rw[e',N] at this;simp at this
 have u:Up g.I g.ρ s.hp.length w g'.I g'.ρ s.hp.length w':=⟨λb j C=>.inl C,D,λ_ _=>rfl,Ap _⟩
 have hs:SR g' s w' a:=by
  refine h.keep (some p) hp rfl u ?_ ?_ ?_ ?_
  ·intro a8 q A am;have y:q≠b:=by
    rintro rfl;rw[N] at A;exact am A
   refine⟨by simp[g',y,A],q3 q y,?_⟩;rintro j (c|⟨c,_⟩);·exact c
   ·exact absurd c y
  ·intro id cs J;have y:=ak id cs J;refine⟨q3 _ y,by simp[g',y,h.hr.notO id cs J],?_⟩;rintro j (c|⟨c,_⟩);·exact c
   ·exact absurd c y
  ·rintro q j (c|⟨rfl,l,z⟩);·rw[D q j c];exact h.hr.exI q j c
   ·have:=G (j-B) (by omega);rw[show B+(j-B)=j by omega] at this;rw[this];rfl
  ·intro q o A;simp only[g'] at A;rw[q4];split at A;·rename_i e';subst e';exact h.hr.oLt _ _ N
   ·exact h.hr.oLt _ _ A
 obtain⟨L,l1,l2,l3,l4⟩:=asW hx;have aa:cap<=cw:=by
  cases hx with
  |sle _ _ _ W=>exact absurd rfl W
  |sl=>assumption
 have F:∀(i:Nat) x,(xs++ys)[i]? =some x->(i<xs.length∧xs[i]? =some x)∨(xs.length<=i∧ys[i-xs.length]? =some x):=by
  intro i x C;rcases AH i xs.length with l|l;·rw[Ax l] at C;exact .inl ⟨l,C⟩
  ·rw[Au l] at C;exact .inr ⟨l,C⟩
 have M:∀(i j:Nat),xs.length<=i->r+i*k.sz+j=B+((i-xs.length)*k.sz+j):=by
  intro i j C;have:i*k.sz=xs.length*k.sz+(i-xs.length)*k.sz:=by rw[<-AS];congr 1;omega
  simp only[B];omega
 have Z:VRel g'.I g'.ρ s.hp.length w' (.sl k .own (xs++ys)) (.slice (some ⟨b,r,none⟩) (xs.length+ys.length) cap):=by
  cases hx with
  |sle _ _ _ W=>exact absurd rfl W
  |sl _ _ _ _ _ _ _ av a5 a1 a0 f hI hw ai=>
  refine .sl k .own _ _ _ _ _ (by simp) (by simpa using E) aa (by simp) (λi j=>if i<xs.length then f i j else news[(i-xs.length)*k.sz+j]?.getD undef) ?_ ?_ ?_
  ·intro i x j C c;rcases F i x C with⟨l,z⟩|⟨l,z⟩
   ·exact .inl (hI i x j z c)
   ·obtain⟨u,R,_⟩:=hv _ x j _ z (Ah c);have:=(Ag.1 R).1;refine .inr ⟨rfl,?_⟩;rw[M i j l];omega
  ·intro i x j C c;rcases F i x C with⟨l,z⟩|⟨l,z⟩
   ·simp only[l,if_true];rw[D _ _ (hI i x j z c)];exact hw i x j z c
   ·obtain⟨u,R,_⟩:=hv _ x j _ z (Ah c);have S:=(Ag.1 R).1;simp only[Nat.not_lt.2 l,if_false];rw[M i j l,G _ S,Ah S];rfl
  ·intro i x j v C c;rcases F i x C with⟨l,z⟩|⟨l,z⟩
   ·simp only[l,if_true];exact(ai i x j v z c).up u
   ·obtain⟨u',R,hr⟩:=hv _ x j v z c;simp only[Nat.not_lt.2 l,if_false,R];exact hr.up u
 refine⟨g',hs.set d Z ?_,⟨rfl,q5,q6,q7,by rw[q4];exact Ap _,λq A _ H=>?_,u,?_,?_,λ_ cs h=>.inl ⟨cs,h⟩⟩⟩
 ·refine⟨by simp[g'],⟨X,e,fz,q1,by rw[q2];exact o3,ab⟩,?_⟩;intro j l z;simp only at l z;have al:B+news.length<=j:=by
   simp only[B,hl];rw[AS] at l;omega
  have:=o4 j (by simp only[B] at al;omega) z;refine⟨?_,?_⟩
  ·rintro(C|⟨_,_,C⟩);·exact this.1 C
   ·omega
  ·rw[World.frozen?_setCells];exact this.2
 ·have y:q≠b:=by rintro rfl;rw[N] at H;simp at H
  exact q3 q y
 ·rintro q j A _ H (c|⟨c,_⟩);·exact c
  ·subst c;rw[N] at H;simp at H
 ·intro q A _ H;have y:q≠b:=by rintro rfl;rw[N] at H;simp at H
  simp[g',y,H]
theorem aEd{k k':EK}(h:k'=k){o:Fl}{m:List (Ty k')}{I:Nat->Nat->Prop}{ρ:Nat->Nat}{N:Nat}{w:World}{cv:Value}(r:VRel I ρ N w (.sl k' o m) cv):VRel I ρ N w (.sl k o (h▸m)) cv:=by subst h;exact r
theorem arq{k k':EK}(h:k'=k)(m:List (Ty k')):(h▸m:List (Ty k)).length=m.length:=by subst h;rfl
theorem aqy(a4:g.β=lN P){d:Nat}{k:EK}{x:ASrc}{S W:Operand}{xs ys:List (Ty k)}{X t u e:TypeId}{J:String}{R:Array Edge}{gd:Option (Nat×Bool)}(h:SR g s w a)
  (C:bw x S=true) {o:Fl} (l:x.ev s=.sl k o xs) (D:o.app ys.length=true) (ut:P.underlying t=some (.slice e)) (he:aci P e k=true) (news:List Value)
  (O:_root_.Go.Src P k.sz u (a.eval W) ys.length news w) (hv:∀(i:Nat) x (j:Nat) v,ys[i]? =some x->(enc k x)[j]? =some v->∃u,news[i*k.sz+j]? =some u∧VRel g.I g.ρ s.hp.length w v u)
  (aa:(xs.length+ys.length)*k.bytes<=jU)
  (hn:dp g s w a ((x.after s).set d (.sl k .own (xs++ys))) next):
  (⟨some d,.call ⟨.builtin .append,⟨[S,W]⟩,⟨[t,u]⟩⟩,X,J,R,gd⟩:Oper).wp P a w next Q:=by
 obtain⟨inf,z,i1,i2,i3,i4,i5,i6,i7⟩:=pC he;have r1:=bD C h.er;rw[l] at r1;have a0:0<k.bytes:=by cases k<;>simp[EK.bytes];rename_i kk;cases kk<;>simp[arm]
 have ab:xs.length+ys.length<=jU:=A6 (Dl _ a0) aa;have ap:o=.own->∃p,yz (some p) (x.after s)∧aO g w p (.sl k .own xs) (a.eval S):=by
  rintro rfl;unfold bw at C;split at C
  ·rename_i n k';obtain rfl:=by simpa using C
   simp only[ASrc.ev] at l;exfalso;cases hg:s.get n<;>rw[hg] at l<;>simp[disown] at l;rename_i o' _;cases o'<;>simp[Fl.dis] at l
  ·rename_i n k';obtain rfl:=by simpa using C
   refine⟨.slot n,abX n s,?_⟩;have:=h.er.getOwn n
   rwa [show s.get n=.sl k .own xs from l] at this
  ·rename_i v cv;simp only[ASrc.ev] at l;subst l;exact⟨.res,trivial,abV C _⟩
  ·rename_i f hf;simp only[ASrc.ev] at l;cases l
  ·simp at C
 have h1:=h.after x;obtain⟨L,l1,l2,l3,l4⟩:=asW r1;have E:∀cv w',(CO #[t,u] X #[a.eval S,a.eval W]).run P w=.ok cv w'->(execOp a.eval ⟨some d,.call ⟨.builtin .append,⟨[S,W]⟩,⟨[t,u]⟩⟩,X,J,R,gd⟩).run P w=.ok (.value cv) w':=by intro cv w' Z;simp[execOp,resolve,invoke,builtin,Z]
 have r:(x.after s).hp=s.hp:=ql x s
 have Y:∀(B:Option Addr)(cap:Nat),a.eval S=.slice B xs.length cap->cap<xs.length+ys.length->
   (Builtin.firstCells k.sz xs.length (.slice B xs.length cap)).run P w.drew=.ok L.toArray w.drew->
   (⟨some d,.call ⟨.builtin .append,⟨[S,W]⟩,⟨[t,u]⟩⟩,X,J,R,gd⟩:Oper).wp P a w next Q:=by
  intro B cap hb F am
  have Z:=run_append_grow_src w t u X e inf z ut i1 i4 B xs.length cap L (by rw[i2];exact am) (a.eval W) ys.length news (by rw[i2];exact O) F (by unfold jU at ab;omega)
   (growslice_fits F (by rw[i3];exact aa))
  have af:xs.length+ys.length<=grownCap w (xs.length+ys.length) cap e:=by unfold grownCap Question.cut;exact Nat.le_add_right _ _
  have an:grownCap w (xs.length+ys.length) cap e<=cw:=by have:=grownCap_le_maxLen w (xs.length+ys.length) cap e (by unfold maxLen;unfold jU at ab;omega);simpa [maxLen,cw] using this
  let c:Array Value:=(L++news).toArray++Builtin.zeroCells z.cells (grownCap w (xs.length+ys.length) cap e-(xs.length+ys.length));have a8:=O.newsLen;have al:c.size=grownCap w (xs.length+ys.length) cap e*k.sz:=by
   simp only[c,Array.size_append,D3,Aj,l1,a8,size_zeroCells,i7];rw[<-AS,<-AS]
   congr 1
   omega
  have f:=my w.drew (.cells c e);obtain⟨g',q1,q2⟩:=h1.newRow (w':=w.drew.alloc (.cells c e)) k (xs++ys) (grownCap w (xs.length+ys.length) cap e) d c e (0,0) f.1 f.2.1 f.2.2 rfl rfl rfl (o:=.own) (by simp) (by simpa using af) an (by rw[al];exact Ap _) (λhk=>by rw[a4];exact abW he hk) (by intro j h1 h2;omega) (by
   intro i x j v C ag;have hj:j<k.sz:=by
    have:=(Ag.1 ag).1
    rwa [cP] at this
   have G:∀(q:Nat) u,(L++news)[q]? =some u->c[q]? =some u:=by intro q u hq;have ax:=(Ag.1 hq).1;simp only[c];rw[B8 (by simpa using ax)];simpa using hq
   rcases AH i xs.length with hi|hi;·rw[Ax hi] at C;obtain⟨u,e1,e2⟩:=l3 i x j v C ag;refine⟨u,G _ _ ?_,by rw[r];exact e2⟩;rw[Ax (Ag.1 e1).1];exact e1
   ·rw[Au hi] at C;obtain⟨u,e1,e2⟩:=hv _ x j v C ag;refine⟨u,G _ _ ?_,by rw[r];exact e2⟩;have:i*k.sz=xs.length*k.sz+(i-xs.length)*k.sz:=by rw[<-AS];congr 1;omega
    rw[Au (by rw[l1];omega),l1,<-e1]
    congr 1
    omega)
  have ah:(execOp a.eval ⟨some d,.call ⟨.builtin .append,⟨[S,W]⟩,⟨[t,u]⟩⟩,X,J,R,gd⟩).run P w=.ok (.value (.slice (some ⟨w.heap.size,0,none⟩) (xs++ys).length (grownCap w (xs.length+ys.length) cap e))) (w.drew.alloc (.cells c e)):=by refine E _ _ ?_;rw[hb,Z];simp[c]
  refine fj rfl ah ⟨g',q1,?_⟩ hn;rw[r] at q2;show FR g s.hp w g' (x.after s).hp _;rw[r];exact q2
 rcases l4 with⟨rfl,ad,A,a7⟩|⟨b,H,cap,A,F,an,M⟩
 ·by_cases h0:ys.length=0
  ·have ba:ys=[]:=Bw h0;subst ba;obtain rfl:ad=none:=a7 (by
    cases o with
    |own=>rfl
    |may u=>simp[Fl.app] at D)
   have Z:(CO #[t,u] X #[a.eval S,a.eval W]).run P w=.ok (.slice none 0 0) w:=by
    have az:news=[]:=by have:=O.newsLen;simpa using this
    have hc:=O.cells;rw[A];rcases O.kind with⟨e',hk⟩|hk<;>simp[CO,run_underlying ut,run_underlying hk,sizeOf,typeInfo,i1,i2,O.len] at* <;>simp[hc]
   refine fj rfl (E _ _ Z) ⟨g,?_,?_⟩ hn;·exact h1.set d (by simpa using VRel.sln (I:=g.I) (ρ:=g.ρ) (N:=(x.after s).hp.length) (w:=w) k .own) (by simp[aO])
   ·have:=FR.refl g s.hp w;simpa [St.set,r] using this
  ·exact Y ad 0 (by simpa using A) (by simp;omega) (by
    have hL:L=[]:=by simpa using l1
    subst hL;cases ad with
    |none=>simpa using run_firstCells_none (P:=P) w.drew k.sz 0 0 0
    |some ad=>simpa using run_firstCells_some (P:=P) w.drew k.sz 0 ad 0 0 [] (by simp) (by intro j v hj;simp at hj))
 ·by_cases y:xs.length+ys.length<=cap
  ·have ae:o=.own:=by
    cases o with
    |own=>rfl
    |may u=>simp only[Fl.app,Ac,decide_eq_true_eq] at D;obtain⟨rfl,bl⟩:=D;rw[A] at r1;have:=r1.full;omega
   subst ae;obtain⟨p,hp,ho⟩:=ap rfl;rw[A] at ho r1;obtain⟨o1,⟨c,e',fz,o2,o3⟩,o4⟩:=ho;simp only at o1 o2 o3 o4;have bc:H+xs.length*k.sz+news.length<=H+cap*k.sz:=by have:(xs.length+ys.length)*k.sz<=cap*k.sz:=A2 _ y;rw[AS] at this;rw[O.newsLen];omega
   have Z:=run_append_room_src w t u X e inf ut i1 b H xs.length cap (a.eval W) ys.length news (by rw[i2];exact O) y (by
    intro j hj;rw[i2,bE o2,Am (by omega)];rfl) (by
    intro j hj;rw[i2];exact(o4 _ (by omega) (by omega)).2)
   rw[i2] at Z;have q:=h1.inPlace hp k xs ys b H cap d news (by rw[r];exact r1) ⟨o1,⟨c,e',fz,o2,o3⟩,o4⟩ y O.newsLen (by rw[r];exact hv);rw[r] at q;refine fj rfl (E _ _ (by rw[A];exact Z)) ?_ hn;obtain⟨g',q1,q2⟩:=q;exact⟨g',q1,by simpa [St.set,r] using q2⟩
  ·exact Y _ cap A (by omega) (run_firstCells_some w.drew k.sz xs.length ⟨b,H,none⟩ xs.length cap L (by simpa using l1) (by intro j v hj;rw[B0];exact M j v hj))
theorem aLb{d:Nat}{k:EK}{x y:ASrc}(C:g.β=lN P)(q:rq P (.app d k x y) m=true)(f:step Γ (.app d k x y) s=some (true,s'))(h:SR g s w a)(Y:dp g s w a s' next):m.wp P a w next Q:=by
 obtain⟨dst,op,ty,J,aa,gd⟩:=m;simp only[rq,Ac,beq_iff_eq] at q;obtain⟨rfl,q⟩:=q;split at q
 ·rename_i x' y' t u F;obtain rfl:=nN F;simp only[Ac] at q;obtain⟨h1,N,h3,M⟩:=q;obtain⟨e,X,e1⟩:=fJ h1;obtain⟨e',D,e2⟩:=fJ N;simp only[step] at f;split at f
  ·rename_i k' ox l S o mm Z hy;split at f
   ·rename_i hk;subst hk;split at f
    ·rename_i z;simp only[Ae,Al,Ac,decide_eq_true_eq] at f;obtain⟨⟨r,A⟩,rfl⟩:=f;have B:=bD M h.er;rw[hy] at B;have B:=aEd z B;obtain⟨L,E,l2,W,l4⟩:=asW B;refine aqy C h h3 Z (by rw[arq];exact r) X e1 L (ys:=z▸mm) ?_ W (by rw[arq];exact A) Y;rcases l4 with⟨i,H,p, -⟩|⟨b,ab,cap,p,I,O,c⟩
     ·rw[p,i];have R:L=[]:=by rw[i] at E;simpa using E
      rw[R];cases H with
      |none=>exact _root_.Go.Src.ofNil w D 0
      |some H=>exact _root_.Go.Src.ofSlice w D _ _ _ _ (by simp) (by intro j v G;simp at G) (by simp)
     ·rw[p];exact _root_.Go.Src.ofSlice w D _ _ _ _ E (by intro j v G;rw[B0];exact c j v G) l2
    ·simp at f
   ·simp at f
  ·simp at f
 ·simp at q
theorem aJS{d:Nat}{x y:ASrc}(q:g.β=lN P)(c:rq P (.apps d x y) m=true)(f:step Γ (.apps d x y) s=some (true,s'))(h:SR g s w a)(I:dp g s w a s' next):m.wp P a w next Q:=by
 obtain⟨dst,op,Z,E,N,Y⟩:=m;simp only[rq,Ac,beq_iff_eq] at c;obtain⟨rfl,c⟩:=c;split at c
 ·rename_i x' X t u z;obtain rfl:=nN z;simp only[Ac] at c;obtain⟨O,D,S,F⟩:=c;obtain⟨e,G,R⟩:=fJ O;split at D
  ·rename_i H;simp only[step] at f;split at f
   ·rename_i l mm L W;simp only[Ae,Al,decide_eq_true_eq] at f;obtain⟨p,rfl⟩:=f;have r:=bD F h.er;rw[W] at r;generalize A:a.eval X=cv at r;cases r with
    |str _ b M hm=>
    subst M;refine aqy q (k:=.u8) (ys:=b.data.toList) h S L rfl G R (byteCells b) ?_ ?_ (by simpa [EK.bytes] using p) I;·rw[A];have:=_root_.Go.Src.ofString (P:=P) w H b;rw[<-kn] at this;exact this
    ·intro i x j v C B;have J:j=0:=by
      have:=(Ag.1 B).1;simp[enc] at this;exact this
     subst J;simp[enc] at B;subst B;refine⟨.int .u8 x.toNat,?_,.int _ _ (aiZ x)⟩;simp only[byteCells,EK.sz,CI,Ck,AF,C,BC]
   ·simp at f
  ·simp at D
 ·simp at c
theorem aLc{d:Nat}{x:ASrc}(A:g.β=lN P)(k:rq P (.s2b d x) m=true)(p:step Γ (.s2b d x) s=some (true,s'))(h:SR g s w a)(O:dp g s w a s' next):m.wp P a w next Q:=by
 obtain⟨dst,op,ty,H,X,gd⟩:=m;simp only[rq,Ac,beq_iff_eq] at k;obtain⟨rfl,k⟩:=k;split at k
 ·rename_i u t x';simp only[Ac] at k;obtain⟨F,y,q,I⟩:=k;obtain⟨e,G,e1⟩:=fJ y;split at F
  ·rename_i M;rw[G] at q;simp only[amy] at q;split at q
   ·rename_i S J;obtain rfl:IntKind.u8=S:=by simpa using q
    simp only[step] at p;split at p
    ·rename_i l R;obtain rfl:_=s':=by simpa using p
     have D:=bD I h.er;rw[R] at D;generalize C:a.eval x'=cv at D;cases D with
     |str _ b W N=>
     subst W;have Y:=Lib.run_convert_string_bytes (P:=P) w u t e b M G J;have f:b.size<=grownCap w b.size 0 e:=by unfold grownCap Question.cut;exact Nat.le_add_right _ _
     have z:grownCap w b.size 0 e<=cw:=by have:=grownCap_le_maxLen w b.size 0 e (by unfold maxLen;unfold cw at N;omega);simpa [maxLen,cw] using this
     have c:(DN w e b).size=grownCap w b.size 0 e:=by have p:b.data.size=b.size:=rfl;simp[DN,p];omega
     obtain⟨g',L,q2⟩:=h.newRow (w':=Dk w e b) .u8 b.data.toList (grownCap w b.size 0 e) d (DN w e b) e _ (Lib.bytesWorld_size w e b) (λj B=>Lib.bytesWorld_at_old w e b j B) (Lib.bytesWorld_at_new w e b)
      (by simp[Dk,C0,World.alloc,World.drew, -World.alloc_eq, -World.drew_eq]) (by simp[Dk,C0,World.alloc,World.drew, -World.alloc_eq, -World.drew_eq]) (by simp[Dk,C0,World.alloc,World.drew, -World.alloc_eq, -World.drew_eq])
      (o:=.own) (by simp) (by rw[kn];exact f) z (by rw[c];simp[EK.sz]) (λhk=>by rw[A];exact abW e1 hk) (by intro j F y;simp only[EK.sz,CI] at y;rw[c];omega) (by
       intro i x j v r E;have B:j=0:=by have:=(Ag.1 E).1;simp[enc] at this;exact this
       subst B;simp[enc] at E;subst E;refine⟨.int .u8 x.toNat,?_,.int _ _ (aiZ x)⟩;have Z:=(Ag.1 r).1;simp only[EK.sz,CI,Ck,DN];rw[B8 (by simpa using Z)];simp only[Array.getElem?_map];rw[<-Dv,r];rfl)
     refine fj rfl (w':=Dk w e b) (cv:=.slice (some ⟨w.heap.size,0,none⟩) b.data.toList.length (grownCap w b.size 0 e)) ?_ ⟨g',L,q2⟩ O;rw[kn];simp[execOp,C,Y]
    ·simp at p
   ·simp at q
  ·simp at F
 ·simp at k
end
def aGi(e:TypeId)(o:Nat):Field:={(default:Field) with type:=e,offset:=o}
def aH6(n sz:Nat)(e:TypeId):Array Field:=⟨(BR n).map λi=>aGi e (i*sz)⟩
def pD(P:Program)(o:IOp)(m:Oper):Bool:=
 match o with
 | .new d zero=>(m.dst==some d)&&(match m.op with| .alloc t=>asU P t zero|_=>false)
 | .box d x=>(m.dst==some d)&&(match m.op with| .box t y=>bw x y&&arn x|_=>false)
 | .st d n x v=>(m.dst==d)&&(match m.op with| .store t b i=>(gk P t==some n)&&(bw x b&&bw v i)|_=>false)
 | .ld d n agg true x=>(m.dst==some d)&&(match m.op with| .load t b=>(gk P t==some n)&&((nM P t==some agg)&&((!agg&&n==1)&&bw x b))|_=>false)
 | .bld d zero c=>(m.dst==some d)&&(match m.op with| .build t h=>asU P t zero&&(match P.underlying t with|some (.struct fs)=>aeA P fs c h.toList&&fs.all (λf=>(P.info? f.type).isSome)|some (.array n e)=>(match gk P e with|some sz=>aeA P (aH6 n sz e) c h.toList|none=>false)|_=>false)|_=>false)
 |_=>false
section
variable{w w':World}{g g':Gh}{s s':St}{a:Act}{P:Program}{Γ:aI}{m:Oper}{next:Act->World->Prop}{Q:Exit->Act->World->Prop}
theorem aeB{t:TypeId}{zero:List V}(h:asU P t zero=true):∃i z,P.info? t=some i∧i.zero=some z∧jK zero z.cells.toList=true:=by
 unfold asU at h;split at h
 ·rename_i i c;split at h;·rename_i z b;exact⟨i,z,c,b,h⟩
  ·simp at h
 ·simp at h
theorem fw.own{c:V}{cv:Value}(h:fw c cv)(g:Gh)(w:World)(b:Occ):aO g w b c cv:=by
 unfold aO;split;·simp[fw] at h
 ·simp[fw] at h
 ·exact .inl ⟨Bw h.1,h.2⟩
 ·trivial
theorem azT{cs:List V}{b:Array Value}(h:jK cs b.toList=true){e:TypeId}:∀(j E n:Nat),cs[j]? =some (.bn E n)->E=e∧n=b.size∧b[j]? =some (.pointer none):=by intro j E n c;exfalso;have f:=(sb (I:=λ_ _=>False) (ρ:=λx=>x) (N:=0) (w:=default) h).1;have d:=(Ag.1 c).1;have:=sa h j _ (b.toList[j]'(by omega)) c (Ah (by omega));simp[fw] at this
theorem aH7{cs:List V}{b:Array Value}{e:TypeId}(k:cs.length=b.size)(h:∀(i:Nat) c cv,cs[i]? =some c->b[i]? =some cv->fw c cv):∀(j E n:Nat),cs[j]? =some (.bn E n)->E=e∧n=b.size∧b[j]? =some (.pointer none):=by intro j E n d;exfalso;have f:=(Ag.1 d).1;have:=h j _ (b[j]'(by omega)) d (Am (by omega));simp[fw] at this
theorem SR.newObj(h:SR g s w a)(cs:List V)(r:Array Value)(e:TypeId)(hl:cs.length=r.size)(h1:∀c∈cs,c.one=true)
  (Z:∀(i:Nat) c cv,cs[i]? =some c->r[i]? =some cv->VRel g.I g.ρ s.hp.length w c cv) (A:∀(i:Nat) c cv,cs[i]? =some c->r[i]? =some cv->noBn c=true->fw c cv)
  (D:∀(j E n:Nat),cs[j]? =some (.bn E n)->E=e∧n=r.size∧r[j]? =some (.pointer none)) (d:Nat):
  ∃g',SR g' {s.set d (.ptr s.hp.length 0) with hp:=s.hp++[some cs]} (w.alloc (.cells r e)) (a.put (some d) (.pointer (some ⟨w.heap.size,0,none⟩)))∧
   FR g s.hp w g' (s.hp++[some cs]) (w.alloc (.cells r e)):=by
 obtain⟨f1,W,f3⟩:=my w (.cells r e);let w':=w.alloc (.cells r e);let g':Gh:={g with ρ:=λid=>if id=s.hp.length then w.heap.size else g.ρ id}
 have F:∀b j,g.I b j->b<w.heap.size:=by intro b j p;obtain⟨v,Z⟩:=BG.1 (h.hr.exI b j p);exact B3 _ _ Z
 have x:∀b j,b<w.heap.size->w'.cell? ⟨b,j,none⟩=w.cell? ⟨b,j,none⟩:=by intro b j A;simp only[w',BM,W b A]
 have u:Up g.I g.ρ s.hp.length w g'.I g'.ρ (s.hp++[some cs]).length w':=
  ⟨λb j p=>p,λb j p=>x b j (F b j p),λid f=>by simp[g',Bu f],by simp⟩
 have J:∀(id:Nat) cs,s.hp[id]? =some (some cs)->g.ρ id<w.heap.size:=by intro id cs f;exact(h.hr.obj id cs f).lt
 have y:∀C v cv,aO g w C v cv->aO g' w' C v cv:=by intro C v cv ho;refine dC ho rfl (λb j p=>⟨u.mono b j p,u.cell b j p⟩) ?_;intro b A;exact⟨A,W b (h.hr.oLt b C A),λj N=>N⟩
 have split:∀(id:Nat) o,(s.hp++[some cs])[id]? =some (some o)->(id<s.hp.length∧s.hp[id]? =some (some o))∨(id=s.hp.length∧o=cs):=by
  intro id o f;rcases AH id s.hp.length with p|p;·rw[Ax p] at f;exact .inl ⟨p,f⟩
  ·rw[Au p] at f;have X:id-s.hp.length=0:=by
    rcases Nat.eq_zero_or_pos (id-s.hp.length) with X|X;·exact X
    ·rw[Bj (by simp;omega)] at f;simp at f
   rw[X] at f;simp at f;exact .inr ⟨by omega,f.symm⟩
 have l:g'.ρ s.hp.length=w.heap.size:=by simp[g']
 have k:∀id,id<s.hp.length->g'.ρ id=g.ρ id:=λid f=>by simp[g',Bu f]
 have hs:SR g' {s with hp:=s.hp++[some cs]} w' a:=by
  refine⟨⟨?_,?_,?_,?_,?_,?_⟩,⟨h.er.size,?_,?_⟩⟩
  ·intro id o f;rcases split id o f with⟨p,f⟩|⟨rfl,rfl⟩
   ·refine(h.hr.obj id o f).keep ?_ λag e' fz k1 z=>⟨z.len,z.plain,z.typedUp rfl u.rho u.num rfl,z.cold,z.one,λj c cv L q=>(z.rel j c cv L q).up u,λj c cv L q=>y _ _ _ (z.own j c cv L q),by rw[k id p];exact z.bn⟩
    rw[k id p];exact W _ (J id o f)
   ·refine jV.ofRow0 ?_ ⟨hl,h1,λj c cv L q=>(Z j c cv L q).up u,λj c cv L q=>?_,λj E n N=>⟨(D j E n N).1,(D j E n N).2.1,.inl (D j E n N).2.2⟩⟩;·rw[l];exact f3
    ·cases R:noBn c with
     |true=>exact(A j c cv L q R).own _ _ _
     |false=>cases c<;>simp[noBn] at R;simp[aO]
  ·intro id G o o' k1 z S;rcases split id o k1 with⟨p,m1⟩|⟨e1, -⟩<;>rcases split G o' z with⟨M,m2⟩|⟨e2, -⟩
   ·rw[k _ p,k _ M];exact h.hr.apart id G o o' m1 m2 S
   ·rw[k _ p,e2,l];exact Bu (J id o m1)
   ·rw[k _ M,e1,l];exact(Bu (J G o' m2)).symm
   ·exact absurd (e1.trans e2.symm) S
  ·intro id o f j p;rcases split id o f with⟨B,f⟩|⟨rfl,rfl⟩
   ·rw[k _ B] at p;exact h.hr.notI id o f j p
   ·rw[l] at p;have:=F _ _ p;omega
  ·intro id o f;rcases split id o f with⟨B,f⟩|⟨rfl,rfl⟩
   ·rw[k _ B];exact h.hr.notO id o f
   ·rw[l];cases Y:g.O w.heap.size with
    |none=>rfl
    |some oc=>have:=h.hr.oLt _ _ Y;omega
  ·intro b j p;rw[x b j (F b j p)];exact h.hr.exI b j p
  ·intro b oc A;have:=h.hr.oLt b oc A;show b<w'.heap.size;rw[f1];omega
  ·intro n v cv H q;exact(h.er.rel n v cv H q).up u
  ·intro n v cv H q;exact y _ _ _ (h.er.own n v cv H q)
 refine⟨g',?_,rfl,rfl,rfl,rfl,by rw[f1];omega,λb A _ _=>W b A,u,λb j _ _ _ p=>p,λb _ _ Y=>Y,?_⟩
 ·have:=hs.set d (v:=.ptr s.hp.length 0) (cv:=.pointer (some ⟨w.heap.size,0,none⟩)) (by
   rw[<-l];exact .ptr _ _ (by simp)) (by simp[aO])
  exact this
 ·intro id o f;rcases split id o f with⟨B,f⟩|⟨rfl,rfl⟩
  ·exact .inl ⟨o,f⟩
  ·exact .inr ⟨Ap _,.inl (by rw[l];exact Ap _)⟩
theorem aLd{d:Nat}{zero:List V}(b:pD P (.new d zero) m=true)(r:step Γ (.new d zero) s=some (true,s'))(h:SR g s w a)(p:dp g s w a s' next):m.wp P a w next Q:=by
 obtain⟨dst,A,B,j,q,y⟩:=m;simp only[pD,Ac,beq_iff_eq] at b;obtain⟨rfl,b⟩:=b;split at b
 ·rename_i t;obtain⟨i,z,u,l,e⟩:=aeB b;obtain rfl:_=s':=by simpa [step] using r
  obtain⟨x,k,v⟩:=sb (I:=g.I) (ρ:=g.ρ) (N:=s.hp.length) (w:=w) e;refine fj rfl (w':=w.alloc (.cells z.cells t)) (cv:=.pointer (some ⟨w.heap.size,0,none⟩)) ?_ (h.newObj zero z.cells t (by simpa using x) k (λi c cv b f=>v i c cv b (by simpa using f)) (λi c cv b f _=>sa e i c cv b (by simpa using f)) (azT e) d) p;simp[execOp,Instr.alloc,zeroValue,typeInfo,u,l,newVar,newRow]
 ·simp at b
def azU(t n:Nat):V->Value->Bool
 | .bn E m,.pointer none=>E==t&&m==n
 | .bn _ _,_=>false
 |v,cv=>tI v cv
def aet(t n:Nat):List V->List Value->Bool
 | [],[]=>true
 |v::vs,c::cs=>azU t n v c&&aet t n vs cs
 |_,_=>false
def aJz(P:Program)(t:TypeId)(zero:List V):Bool:=match P.info? t with|some i=>(match i.zero with|some z=>aet t z.cells.size zero z.cells.toList|none=>false)|none=>false
theorem aqz{I:Nat->Nat->Prop}{ρ:Nat->Nat}{N t n:Nat}:∀{cs:List V}{vs:List Value},aet t n cs vs=true->cs.length=vs.length∧(∀c∈cs,c.one=true)∧
  (∀(i:Nat) c cv,cs[i]? =some c->vs[i]? =some cv->VRel I ρ N w c cv∧(noBn c=true->fw c cv))∧(∀(j E m:Nat),cs[j]? =some (.bn E m)->E=t∧m=n∧vs[j]? =some (.pointer none))
 | [],[],_=>⟨rfl,by simp,by simp,by simp⟩
 |v::vs,c::cs,h=>by
  simp only[aet,Ac] at h;obtain⟨b,A⟩:=h;obtain⟨F,u,D,G⟩:=aqz (I:=I) (ρ:=ρ) (N:=N) A;have l:v.one=true∧VRel I ρ N w v c∧(noBn v=true->fw v c)∧(∀E m,v=.bn E m->E=t∧m=n∧c=.pointer none):=by
   cases p:noBn v with
   |true=>
    have k:tI v c=true:=by
     unfold azU at b;split at b;·simp[noBn] at p
     ·simp at b
     ·exact b
    obtain⟨B,H⟩:=aiY (I:=I) (ρ:=ρ) (N:=N) (w:=w) k;exact⟨H,B,λ_=>asR k,λE m e=>by subst e;simp[noBn] at p⟩
   |false=>
    cases v<;>simp[noBn] at p;rename_i E m;unfold azU at b;split at b;·rename_i J L e;cases e;simp only[Ac,beq_iff_eq] at b;exact⟨rfl,.bn _ _ _,by simp[noBn],λE m e=>by cases e;exact⟨b.1,b.2,rfl⟩⟩
    ·simp at b
    ·rename_i r _;exact absurd rfl (r _ _)
  refine⟨by simp[F],?_,?_,?_⟩
  ·intro x d;rcases AN.1 d with rfl|d;·exact l.1
   ·exact u x d
  ·intro i x cv d f;cases i with
   |zero=>simp at d f;subst d f;exact⟨l.2.1,l.2.2.1⟩
   |succ i=>exact D i x cv (by simpa using d) (by simpa using f)
  ·intro j E m q;cases j with
   |zero=>simp at q;obtain⟨C,z,y⟩:=l.2.2.2 E m q;exact⟨C,z,by simp[y]⟩
   |succ j=>simpa using G j E m (by simpa using q)
 | [],_::_,h=>by simp[aet] at h
 |_::_,[],h=>by simp[aet] at h
def api(P:Program)(o:IOp)(m:Oper):Bool:=
 match o with
 | .newb d zero=>(m.dst==some d)&&(match m.op with| .alloc t=>aJz P t zero|_=>false)
 |_=>false
theorem aJT{d:Nat}{zero:List V}(b:api P (.newb d zero) m=true)(q:step Γ (.newb d zero) s=some (true,s'))(h:SR g s w a)(p:dp g s w a s' next):m.wp P a w next Q:=by
 obtain⟨dst,D,C,k,u,B⟩:=m;simp only[api,Ac,beq_iff_eq] at b;obtain⟨rfl,b⟩:=b;split at b
 ·rename_i t;unfold aJz at b;split at b
  ·rename_i i v;split at b
   ·rename_i z x;obtain rfl:_=s':=by simpa [step] using q
    obtain⟨y,l,f,A⟩:=aqz (I:=g.I) (ρ:=g.ρ) (N:=s.hp.length) (w:=w) b;refine fj rfl (w':=w.alloc (.cells z.cells t)) (cv:=.pointer (some ⟨w.heap.size,0,none⟩)) ?_ (h.newObj zero z.cells t (by simpa using y) l (λi c cv b e=>(f i c cv b (by simpa using e)).1) (λi c cv b e=>(f i c cv b (by simpa using e)).2) (λj E n r=>by simpa using A j E n r) d) p;simp[execOp,Instr.alloc,zeroValue,typeInfo,v,x,newVar,newRow]
   ·simp at b
  ·simp at b
 ·simp at b
theorem af1{I:Nat->Nat->Prop}{ρ:Nat->Nat}{N:Nat}{v:V}{cv:Value}(h:VRel I ρ N w v cv)(b:v.cells.all V.one=true):
  v.cells.length=cv.cells.size∧(∀c∈v.cells,c.one=true)∧∀(j:Nat) c u,v.cells[j]? =some c->cv.cells[j]? =some u->VRel I ρ N w c u:=by
 have e:∀c∈v.cells,c.one=true:=λc q=>AA.1 b c q
 have k:=h;cases h with
 |agg cs us i _ r l=>exact⟨by simpa [V.cells,CH] using i,e,by simpa [V.cells,CH] using l⟩
 |undef=>simp[V.cells,V.one] at b
 |tup=>simp[V.cells,V.one] at b
 |junk cv p=>
  have d:cv.cells= #[cv]:=by cases cv<;>simp[DL] at p<;>rfl
  refine⟨by simp[V.cells,d],e,?_⟩;intro j c u b f;rw[d] at f;cases j with
  |zero=>simp[V.cells] at b f;subst b f;exact k
  |succ j=>simp[V.cells] at b
 |_=>
  refine⟨by simp[V.cells,CH],e,?_⟩;intro j c u b f;cases j with
  |zero=>simp[V.cells,CH] at b f;subst b f;exact k
  |succ j=>simp[V.cells] at b
theorem aLe{d:Nat}{x:ASrc}(b:pD P (.box d x) m=true)(p:step Γ (.box d x) s=some (true,s'))(h:SR g s w a)(C:dp g s w a s' next):m.wp P a w next Q:=by
 obtain⟨dst,O,I,u,z,H⟩:=m;simp only[pD,Ac,beq_iff_eq] at b;obtain⟨rfl,b⟩:=b;split at b
 ·rename_i t y;simp only[Ac] at b;obtain⟨L,N⟩:=b;have q:=bD L h.er;have f:(execOp a.eval ⟨some d,.box t y,I,u,z,H⟩).run P w=.ok (.value (.pointer (some ⟨w.heap.size,0,none⟩))) (w.alloc (.cells (a.eval y).cells t)):=by
   simp[execOp,Instr.box,newVar,newRow]
  simp only[step] at p;split at p
  ·rename_i cs D;obtain rfl:_=s':=by simpa using p
   rw[D] at q;generalize a.eval y=cv at q f;cases q with
   |agg _ vs F M B J=>exact fj rfl f (h.newObj cs vs t F M J (λi c cv b e _=>B i c cv b e) (aH7 F B) d) C
  ·rename_i v D G;split at p
   ·rename_i k;obtain rfl:_=s':=by simpa using p
    have l:(a.eval y).cells= #[a.eval y]:=by have:=q.oneCell k;cases A:a.eval y<;>rw[A] at this<;>simp[DL] at this<;>rfl
    rw[l] at f;refine fj rfl f (h.newObj [disown (x.ev s)] #[a.eval y] t rfl (by simpa [qk] using k) ?_ ?_ ?_ d) C
    ·intro i c cv b e;cases i with
     |zero=>simp at b e;subst b e;exact q.disown
     |succ i=>simp at b
    ·intro i c cv b e;cases i with
     |zero=>intro _;simp at b e;subst b e;exact aiW _ _
     |succ i=>simp at b
    ·intro j E n r;cases j with
     |zero=>simp at r;cases A:x.ev s<;>rw[A] at r<;>simp[disown] at r
     |succ j=>simp at r
   ·simp at p
 ·simp at b
theorem aH8{x:ASrc}{y:Operand}{q:Occ}(b:bw x y=true)(h:SR g s w a):
  ∃g₁,SR g₁ (x.after s) w a∧FR g s.hp w g₁ s.hp w∧g₁.I=g.I∧g₁.ρ=g.ρ∧aO g₁ w q (x.ev s) (a.eval y):=by
 cases x with
 |t n=>exact⟨g,h,FR.refl _ _ _,rfl,rfl,aO.disown _ _ _ _ _⟩
 |c v=>
  refine⟨g,h,FR.refl _ _ _,rfl,rfl,?_⟩;unfold bw at b;split at b;·rename_i e;cases e
  ·rename_i e;cases e
  ·rename_i e;cases e;exact abV b _
  ·rename_i e;cases e;simp[ASrc.ev,aO]
  ·simp at b
 |tk n=>
  have d:y=.tmp n:=by
   unfold bw at b;split at b;·rename_i e;cases e
   ·rename_i k e;cases e;rw[show k=n by simpa using (beq_iff_eq.1 b).symm]
   ·rename_i e;cases e
   ·rename_i e;cases e
   ·simp at b
  subst d;have p:=h.er.getOwn n;obtain⟨g₁,j,i,l,f,r⟩:=arp (q:=q) (h.after (.tk n)) (abX n s) p;exact⟨g₁,j,by simpa [ql] using i,l,f,r⟩
theorem SR.putCells(h:SR g s w a){id o:Nat}{cs news:List V}{us:List Value}(ho:s.obj id=some cs)(Y:news.length=us.length)(h1:∀c∈news,c.one=true)
  (a0:o+news.length<=cs.length) (hv:∀(i:Nat) c cv,news[i]? =some c->us[i]? =some cv->VRel g.I g.ρ s.hp.length w c cv)
  (S:∀(i:Nat) c cv,news[i]? =some c->us[i]? =some cv->aO g w (.cell id (o+i)) c cv) (ae:∀(i E n:Nat),news[i]? =some (.bn E n)->cs[o+i]? =some (.bn E n)∧(us[i]? =some (.pointer none)∨us[i]? =some (.pointer (some ⟨g.ρ id,o+i,none⟩)))):
  SR g (s.setObj id (cs.take o++news++cs.drop (o+news.length))) (w.setCells (g.ρ id) o us) a∧
   FR g s.hp w g (s.hp.set id (some (cs.take o++news++cs.drop (o+news.length)))) (w.setCells (g.ρ id) o us):=by
 obtain⟨z,aj⟩:=jL ho;obtain⟨O,e,Z,x⟩:=xI h.hr ho;obtain⟨⟨R,q1,q2⟩,q3,q4,q5,q6,q7⟩:=nE (g.ρ id) us o w O e (0,0) Z;let w':=w.setCells (g.ρ id) o us;let p:=cs.take o++news++cs.drop (o+news.length);have W:=x.len;have ac:∀b j,g.I b j->b≠g.ρ id:=by rintro b j D rfl;exact h.hr.notI id cs z j D
 have F:∀b j,g.I b j->w'.cell? ⟨b,j,none⟩=w.cell? ⟨b,j,none⟩:=by intro b j D;exact BF _ us o w _ (λe=>absurd e (ac b j D))
 have u:Up g.I g.ρ s.hp.length w g.I g.ρ s.hp.length w':=⟨λ_ _ h=>h,F,λ_ _=>rfl,Ap _⟩
 have q:∀M v cv,aO g w M v cv->aO g w' M v cv:=by intro M v cv ah;refine dC ah rfl (λb j D=>⟨u.mono b j D,u.cell b j D⟩) ?_;intro b G;refine⟨G,q3 b ?_,λj r=>r⟩;rintro rfl;rw[h.hr.notO id cs z] at G;simp at G
 have y:∀j,R[j]? =if o<=j∧j<o+us.length then us[j-o]? else O[j]?:=by
  intro j;rw[<-bE q1 j];split;·rename_i r;have:=Cm (g.ρ id) us o w (λj' aw=>by rw[bE Z,Am (by omega)];rfl) (j-o) (by omega);rw[show o+(j-o)=j by omega] at this;rw[this,Ah]
  ·rename_i r;rw[BF _ us o w _ (λ_ _=>by simp only;omega),bE Z]
 have H:∀j,p[j]? =if o<=j∧j<o+news.length then news[j-o]? else cs[j]?:=by
  intro j;have ht:(cs.take o).length=o:=by simp;omega
  simp only[p];split;·rename_i r;rw[AB,Au (by omega),ht,Ax (by omega)]
  ·rename_i r;rcases AH j o with h'|h';·rw[AB,Ax (by omega),A7,if_pos h']
   ·rw[Au (by simp;omega),Bq]
    congr 1
    simp;omega
 have ag:p.length=cs.length:=by simp[p];omega
 have X:∀c∈p,c.one=true:=by
  intro c k;simp only[p,Aw] at k;rcases k with(k|k)|k;·exact x.one c (BJ k)
  ·exact h1 c k
  ·exact x.one c (BL k)
 have aa:id<s.hp.length:=(Ag.1 z).1;have split:∀(f:Nat) o',(s.hp.set id (some p))[f]? =some (some o')->(f=id∧o'=p)∨(f≠id∧s.hp[f]? =some (some o')):=by
  intro f o' l;rw[Ay] at l;split at l;·rename_i e;simp[aa] at l;exact .inl ⟨e.symm,l.symm⟩
  ·rename_i e;exact .inr ⟨λe'=>e e'.symm,l⟩
 have C:∀(f:Nat) o',(s.hp.set id (some p))[f]? =some (some o')->∃J,s.hp[f]? =some (some J):=by
  intro f o' l;rcases split f o' l with⟨rfl,_⟩|⟨_,l⟩
  ·exact⟨cs,z⟩
  ·exact⟨_,l⟩
 refine⟨⟨⟨?_,?_,?_,?_,?_,?_⟩,⟨h.er.size,?_,?_⟩⟩,⟨rfl,q5,q6,q7,by rw[q4];exact Ap _,?_,?_,λ_ _ _ _ _ D=>D,λ_ _ _ hO=>hO,?_⟩⟩
 ·intro f o' l;simp only[St.setObj,AR];rcases split f o' l with⟨rfl,rfl⟩|⟨L,l⟩
  ·refine jV.ofRow0 q1 ⟨by rw[ag,q2,W],X,?_,?_,?_⟩
   ·intro j c cv k d;rw[H] at k;rw[y] at d;rw[<-Y] at d;split at k;·rename_i r;rw[if_pos r] at d;exact(hv _ c cv k d).up u
    ·rename_i r;rw[if_neg r] at d;exact(x.rel j c cv k d).up u
   ·intro j c cv k d;rw[H] at k;rw[y] at d;rw[<-Y] at d;split at k;·rename_i r;rw[if_pos r] at d;have:=S _ c cv k d;rw[show o+(j-o)=j by omega] at this;exact q _ _ _ this
    ·rename_i r;rw[if_neg r] at d;exact q _ _ _ (x.own j c cv k d)
   ·intro j E n k;rw[H] at k;split at k;·rename_i r;obtain⟨m1,m2⟩:=ae _ E n k;rw[show o+(j-o)=j by omega] at m1 m2;obtain⟨m3,m4, -⟩:=x.bn j E n m1;refine⟨m3,by rw[q2];exact m4,?_⟩;rw[y,<-Y,if_pos r];exact m2
    ·rename_i r;rw[y,<-Y,if_neg r,q2];exact x.bn j E n k
  ·refine(h.hr.obj f o' l).keep ?_ λak e2 fz B A=>⟨A.len,A.plain,A.typedUp rfl u.rho u.num rfl,A.cold,A.one,λj c cv k d=>(A.rel j c cv k d).up u,λj c cv k d=>q _ _ _ (A.own j c cv k d),A.bn⟩
   rw[q3 _ (h.hr.apart f id o' cs l z L)]
 ·intro id1 ad N c2 B A L;obtain⟨_,B⟩:=C id1 N B;obtain⟨_,A⟩:=C ad c2 A;exact h.hr.apart _ _ _ _ B A L
 ·intro id1 N B;obtain⟨_,B⟩:=C id1 N B;exact h.hr.notI _ _ B
 ·intro id1 N B;obtain⟨_,B⟩:=C id1 N B;exact h.hr.notO _ _ B
 ·intro b j D;have:=F b j D;rw[this];exact h.hr.exI b j D
 ·intro b oc G;rw[q4];exact h.hr.oLt b oc G
 ·intro n v cv l d;simp only[St.setObj,AR];exact(h.er.rel n v cv l d).up u
 ·intro n v cv l d;exact q _ _ _ (h.er.own n v cv l d)
 ·intro b _ af _;exact q3 b (λe=>af id cs z e.symm)
 ·simp only[AR];exact u
 ·intro f o' l;obtain⟨J,l⟩:=C f o' l;exact .inl ⟨J,l⟩
theorem SR.bareCell(h:SR g s w a){id o:Nat}{cs:List V}(H:s.obj id=some cs):
  SR g (s.setObj id (cs.set o (disown (cs.getD o .undef)))) w a∧FR g s.hp w g (s.hp.set id (some (cs.set o (disown (cs.getD o .undef))))) w:=by
 obtain⟨A,G⟩:=jL H;have D:id<s.hp.length:=(Ag.1 A).1;let p:=cs.set o (disown (cs.getD o .undef));have split:∀(b:Nat) o',(s.hp.set id (some p))[b]? =some (some o')->(b=id∧o'=p)∨(b≠id∧s.hp[b]? =some (some o')):=by
  intro b o' f;rw[Ay] at f;split at f;·rename_i e;simp[D] at f;exact .inl ⟨e.symm,f.symm⟩
  ·rename_i e;exact .inr ⟨λL=>e L.symm,f⟩
 have q:∀(b:Nat) o',(s.hp.set id (some p))[b]? =some (some o')->∃y,s.hp[b]? =some (some y):=by
  intro b o' f;rcases split b o' f with⟨rfl,_⟩|⟨_,f⟩
  ·exact⟨cs,A⟩
  ·exact⟨_,f⟩
 have l:∀(j:Nat) c,p[j]? =some c->∃u,cs[j]? =some u∧(c=u∨c=disown u):=by
  intro j c k;simp only[p,Ay] at k;split at k
  ·rename_i e;subst e;split at k;·rename_i B;refine⟨cs[o],Ah B,.inr ?_⟩;simp only[Ae] at k;rw[<-k];simp[Ai,Ah B]
   ·simp at k
  ·exact⟨c,k,.inl rfl⟩
 refine⟨⟨⟨?_,?_,?_,?_,h.hr.exI,h.hr.oLt⟩,⟨h.er.size,?_,h.er.own⟩⟩,⟨rfl,rfl,rfl,rfl,Ap _,λ_ _ _ _=>rfl,?_,λ_ _ _ _ _ O=>O,λ_ _ _ I=>I,?_⟩⟩
 ·intro b o' f;simp only[St.setObj,AR];rcases split b o' f with⟨rfl,rfl⟩|⟨C,f⟩
  ·obtain⟨M,e,J,x⟩:=xI h.hr H;refine jV.ofRow0 J ⟨by simp[p,x.len],?_,?_,?_,?_⟩
   ·intro c k;obtain⟨j,N,rfl⟩:=Be.1 k;obtain⟨u,i,d⟩:=l j _ (Ah N);have:=x.one u (At i);rcases d with d|d<;>rw[d];·exact this
    ·rw[qk];exact this
   ·intro j c cv k r;obtain⟨u,i,d⟩:=l j _ k;have:=x.rel j u cv i r;rcases d with d|d<;>rw[d];·exact this
    ·exact this.disown
   ·intro j c cv k r;obtain⟨u,i,d⟩:=l j _ k;have:=x.own j u cv i r;rcases d with d|d<;>rw[d];·exact this
    ·exact aO.disown _ _ _ _ _
   ·intro j E n k;obtain⟨u,i,d⟩:=l j _ k;rcases d with d|d;·exact x.bn j E n (by rw[d];exact i)
    ·cases u<;>simp[disown] at d
  ·exact h.hr.obj b o' f
 ·intro id1 F z R i d C;obtain⟨_,i⟩:=q id1 z i;obtain⟨_,d⟩:=q F R d;exact h.hr.apart _ _ _ _ i d C
 ·intro id1 z i;obtain⟨_,i⟩:=q id1 z i;exact h.hr.notI _ _ i
 ·intro id1 z i;obtain⟨_,i⟩:=q id1 z i;exact h.hr.notO _ _ i
 ·intro n v cv f r;simp only[St.setObj,AR];exact h.er.rel n v cv f r
 ·simp only[AR];exact Up.refl _ _ _ _
 ·intro b o' f;obtain⟨y,f⟩:=q b o' f;exact .inl ⟨y,f⟩
theorem aGj{d n:Nat}{agg:Bool}{x:ASrc}(y:pD P (.ld d n agg true x) m=true)(c:step Γ (.ld d n agg true x) s=some (true,s'))(h:SR g s w a)(R:dp g s w a s' next):m.wp P a w next Q:=by
 obtain⟨dst,op,ty,F,M,gd⟩:=m;simp only[pD,Ac,beq_iff_eq] at y;obtain⟨rfl,y⟩:=y;split at y
 ·rename_i t W;simp only[Ac,beq_iff_eq,BW] at y;obtain⟨S,O,⟨rfl,rfl⟩,N⟩:=y;have L:=bD N h.er;simp only[step] at c;split at c
  ·rename_i cs I;have k:ce P (.ld d 1 false false x) ⟨some d,.load t W,ty,F,M,gd⟩=true:=by
    simp[ce,S,O,N]
   refine aE0 (Γ:=Γ) k ?_ h R;simp only[step,I];exact c
  ·rename_i id o I;split at c
   ·rename_i cs G;split at c
    ·rename_i ah;simp only[if_true] at c;cases D:noBn (cs.getD o .undef) with
     |false=>rw[D] at c;simp at c
     |true=>
     rw[D] at c;simp only[if_true] at c;obtain rfl:_=s':=by simpa using c
     rw[I] at L;generalize J:a.eval W=cv at L;cases L with
     |ptr _ _ ab=>
      obtain⟨i,e,Z,z⟩:=xI h.hr G;have X:=z.len;have u:o<cs.length:=by omega
      have E:o<i.size:=by omega
      have B:=yy (P:=P) (w:=w) (b:=g.ρ id) (o:=o) (vs:=[i[o]]) S O (.inr rfl) rfl (λj v H=>by
       cases j with
       |zero=>simp at H;subst H;rw[bE Z];simp[E]
       |succ j=>simp at H)
      have C:cs[o]? =some cs[o]:=Ah u;have A:i[o]? =some i[o]:=Am E;obtain⟨b1,Y⟩:=h.bareCell (o:=o) G;obtain⟨g₁,t1,t2,t3,t4,t5⟩:=arp (q:=.slot d) b1 (p:=.cell id o) (by intro ag v f r;simp only[St.setObj] at f;rw[Cv (Ag.1 (jL G).1).1] at f;simp only[Ae] at f;subst f;rw[Cv u] at r;simp only[Ae] at r;subst r;exact eX _) (z.own o _ _ C A);have l:(DF t (.pointer (some ⟨g.ρ id,o,none⟩))).run P w=.ok i[o] w:=B;refine fj rfl (cv:=i[o]) (w':=w) (by simp[execOp,J,l]) ⟨g₁,?_,?_⟩ R
      ·have hl:loaded false ((cs.drop o).take 1)=cs[o]:=by
        rw[AX u];rfl
       rw[hl];refine t1.set d ?_ t5;rw[t3,t4];simpa [St.setObj] using z.rel o _ _ C A
      ·exact Y.trans (by simpa [St.set,St.setObj] using t2)
    ·simp at c
   ·simp at c
  ·simp at c
 ·simp at y
theorem aMd{d:Option Nat}{n:Nat}{x v:ASrc}(b:pD P (.st d n x v) m=true)(z:step Γ (.st d n x v) s=some (true,s'))(h:SR g s w a)(hn:dp g s w a s' next):m.wp P a w next Q:=by
 obtain⟨dst,op,ty,N,aa,gd⟩:=m;simp only[pD,Ac,beq_iff_eq] at b;obtain⟨rfl,b⟩:=b;split at b
 ·rename_i t x' r;simp only[Ac,beq_iff_eq] at b;obtain⟨h1,h2,h3⟩:=b;have Y:=bD h2 h.er;have G:=bD h3 h.er;simp only[step] at z;split at z
  ·rename_i id o hx;split at z
   ·rename_i cs ho;split at z
    ·rename_i p;simp only[Ac,beq_iff_eq,decide_eq_true_eq] at p;obtain⟨⟨H,B⟩,a1,ad⟩:=p;obtain rfl:_=s':=by simpa using z
     rw[hx] at Y;generalize X:a.eval x'=cx at Y;cases Y with
     |ptr _ _ ax=>
      obtain⟨az,e,hb,ag⟩:=xI h.hr ho;have ap:=ag.len;obtain⟨R,c2,c3⟩:=af1 G B;have O:(a.eval r).cells.size=n:=by rw[<-R];exact H
      have C:(execOp a.eval ⟨dst,.store t x' r,ty,N,aa,gd⟩).run P w=.ok .skip (w.setCells (g.ρ id) o (a.eval r).cells.toList):=by
       have:=run_storeCells_cells (P:=P) (g.ρ id) o (a.eval r).cells.toList 0 w
        (λj L=>by rw[bE hb,Am (by simp at L;omega)];rfl)
        (λj L=>by simp[CD,hb])
        (λu hu=>by
         obtain⟨j,L,rfl⟩:=Be.1 hu;have F:j<(v.ev s).cells.length:=by rw[R];simpa using L
         exact(c3 j _ _ (Ah F) (by simp)).oneCell (c2 _ (B1 F)))
       simp[execOp,X,Instr.storeAt,Ce,storeVar,mw h1,O,this]
      have key:∃g₁,SR g₁ (v.after s) w a∧FR g s.hp w g₁ s.hp w∧g₁.I=g.I∧g₁.ρ=g.ρ∧
        ∀(i:Nat) c cv,(v.ev s).cells[i]? =some c->(a.eval r).cells.toList[i]? =some cv->aO g₁ w (.cell id (o+i)) c cv:=by
       by_cases k:∃cs,v.ev s=.agg cs
       ·obtain⟨aw,k⟩:=k;refine⟨g,h.after v,FR.refl _ _ _,rfl,rfl,?_⟩;rw[k] at G;generalize a.eval r=ar at G;cases G with
        |agg _ a4 _ _ W _=>intro i c cv b f;rw[k] at b;exact(W i c cv (by simpa [V.cells] using b) (by simpa [CH] using f)).own _ _ _
       ·have l:(v.ev s).cells=[v.ev s]:=by
         cases hh:v.ev s<;>first|rfl|(rw[hh] at k;exact absurd ⟨_,rfl⟩ k)
        obtain⟨g₁,k1,J,k3,M,k5⟩:=aH8 (q:=.cell id o) h3 h;refine⟨g₁,k1,J,k3,M,?_⟩;have A:(v.ev s).one=true:=c2 _ (by rw[l];exact Av.2 rfl);have y:(a.eval r).cells= #[a.eval r]:=by have:=G.oneCell A;cases hh:a.eval r<;>rw[hh] at this<;>simp[DL] at this<;>rfl
        intro i c cv b f;rw[l] at b;rw[y] at f;cases i with
        |zero=>simp at b f;subst b f;exact k5
        |succ i=>simp at b
      obtain⟨g₁,k1,J,k3,M,k5⟩:=key;have ab:(v.after s).obj id=some cs:=by unfold St.obj;rw[ql];exact ho
      have D:g₁.ρ id=g.ρ id:=by rw[M]
      obtain⟨S,Z⟩:=k1.putCells (o:=o) (news:=(v.ev s).cells) (us:=(a.eval r).cells.toList) ab (by simpa using R) c2 (by omega)
       (λi c cv b f=>by rw[k3,M,ql];exact c3 i c cv b (by simpa using f)) k5 (λi E n hi=>absurd (AA.1 ad _ (At hi)) (by simp[noBn]))
      rw[D,H,AB] at S Z;unfold Oper.wp Dy;rw[C];cases dst with
      |none=>refine hn _ _ g₁ S ?_ rfl;refine J.trans ?_;simpa [St.setObj,St.setO,ql] using Z
      |some d=>refine hn _ _ g₁ (S.set d (.undef _) (by simp[aO])) ?_ rfl;refine J.trans ?_;simpa [St.setObj,St.setO,St.set,ql] using Z
    ·simp at z
   ·simp at z
  ·simp at z
 ·simp at b
theorem ai1{α:Type}(l news:List α)(o:Nat)(c:o+news.length<=l.length)(j:Nat):
  (l.take o++news++l.drop (o+news.length))[j]? =if o<=j∧j<o+news.length then news[j-o]? else l[j]?:=by
 have d:(l.take o).length=o:=by simp;omega
 split;·rename_i e;rw[AB,Au (by omega),d,Ax (by omega)]
 ·rename_i e;rcases AH j o with b|b;·rw[AB,Ax (by omega),A7,if_pos b]
  ·rw[Au (by simp;omega),Bq]
   congr 1
   simp;omega
structure Row(I:Nat->Nat->Prop)(ρ:Nat->Nat)(N:Nat)(w:World)(cs:List V)(us:List Value):Prop where
 len:cs.length=us.length
 one:∀c∈cs,c.one=true
 rel:∀(i:Nat) c cv,cs[i]? =some c->us[i]? =some cv->VRel I ρ N w c cv
 nil:∀(i:Nat) c cv,cs[i]? =some c->us[i]? =some cv->fw c cv
theorem Row.over{I:Nat->Nat->Prop}{ρ:Nat->Nat}{N:Nat}{cs news:List V}{us vs:List Value}(h:Row I ρ N w cs us)(k:Row I ρ N w news vs)(o:Nat)(f:o+news.length<=cs.length):
  Row I ρ N w (cs.take o++news++cs.drop (o+news.length)) (us.take o++vs++us.drop (o+vs.length)):=by
 have q:=h.len;have p:=k.len;have l:=ai1 cs news o f;have j:=ai1 us vs o (by omega);refine⟨by simp;omega,?_,?_,?_⟩
 ·intro c d;simp only[Aw] at d;rcases d with(d|d)|d;·exact h.one c (BJ d)
  ·exact k.one c d
  ·exact h.one c (BL d)
 ·intro i c cv d b;rw[l] at d;rw[j,<-p] at b;split at d;·rename_i e;rw[if_pos e] at b;exact k.rel _ _ _ d b
  ·rename_i e;rw[if_neg e] at b;exact h.rel _ _ _ d b
 ·intro i c cv d b;rw[l] at d;rw[j,<-p] at b;split at d;·rename_i e;rw[if_pos e] at b;exact k.nil _ _ _ d b
  ·rename_i e;rw[if_neg e] at b;exact h.nil _ _ _ d b
theorem aGk(fs:List Field)(h:fs.all (λf=>(P.info? f.type).isSome)=true):
  ∃places,fs.mapM (λf=>(P.info? f.type).map λi=>(f.offset,i.size))=some places∧∀(i:Nat) f n,fs[i]? =some f->gk P f.type=some n->places[i]? =some (f.offset,n):=by
 induction fs with
 |nil=>exact⟨[],rfl,by simp⟩
 |cons f fs k=>
  simp only[CN,Ac] at h;obtain⟨places,p,l⟩:=k h.2;obtain⟨i,d⟩:=BG.1 h.1;refine⟨(f.offset,i.size)::places,by simp[List.mapM_cons,d,p],?_⟩;intro j e n c b;cases j with
  |zero=>simp at c;subst c;simp[gk,d] at b;simp[b]
  |succ j=>exact l j e n (by simpa using c) b
theorem ars(h:SR g s w a){fs:Array Field}{places:Nat->Option (Nat×Nat)}(hp:∀(i:Nat) f n,fs[i]? =some f->gk P f.type=some n->places i=some (f.offset,n)):
  ∀(F:List (Nat×Nat×ASrc))(G:List (Nat×Operand))(cs k:List V)(d:Array Value),aeA P fs F G=true->Row g.I g.ρ s.hp.length w cs d.toList->
   lay cs (F.map λ(D,n,x)=>(D,n,x.ev s))=some k->∃e,C6 places d (G.map λ(i,y)=>(i,a.eval y))=some e∧Row g.I g.ρ s.hp.length w k e.toList
 | [],[],cs,k,d,_,H,r=>by simp[lay] at r;subst r;exact⟨d,by simp[C6],H⟩
 |(D,n,x)::F,(i,y)::G,cs,k,d,z,H,r=>by
  simp only[aeA,Ac] at z;obtain⟨q,L,M⟩:=z;split at q
  ·rename_i f Z;simp only[Ac,beq_iff_eq] at q;obtain⟨rfl,W⟩:=q;simp only[AL,lay] at r;split at r
   ·rename_i l;simp only[Ac,beq_iff_eq,decide_eq_true_eq] at l;obtain⟨⟨u,B⟩,X⟩:=l;obtain⟨O,c2,Y⟩:=af1 (bD L h.er) B;have C:Row g.I g.ρ s.hp.length w ((x.ev s).cells.map disown) (a.eval y).cells.toList:=by
     refine⟨by simp[O],?_,?_,?_⟩;·intro c v;obtain⟨N,p,rfl⟩:=AD.1 v;rw[qk];exact c2 N p
     ·intro j c cv v J;rw[AF,Aq] at v;obtain⟨N,p,rfl⟩:=v;exact(Y j _ _ p (by simpa using J)).disown
     ·intro j c cv v _;rw[AF,Aq] at v;obtain⟨N,p,rfl⟩:=v;exact aiW _ _
    have A:(a.eval y).cells.size=n:=by rw[<-O];exact u
    have R:d.size=cs.length:=by have:=H.len;simpa using this.symm
    have E:=amz (a.eval y).cells.toList f.offset 0 d (by simp[A];omega);simp only[Ck,B4] at E;have b:=H.over C f.offset (by simp[u];omega);simp only[BY,u,B4] at b;rw[<-E] at b;obtain⟨e,k1,S⟩:=ars h hp F G _ k _ M b r;refine⟨e,?_,S⟩;simp only[AL,C6,hp i f n Z W,A];rw[if_neg (by simp;omega)];rw[<-k1]
    congr 1
    rw[<-Array.foldl_toList,Array.toList_zipIdx]
   ·simp at r
  ·simp at q
 | [],_::_,_,_,_,z,_,_=>by simp[aeA] at z
 |_::_,[],_,_,_,z,_,_=>by simp[aeA] at z
theorem aLf{d:Nat}{zero:List V}{F:List (Nat×Nat×ASrc)}(k:pD P (.bld d zero F) m=true)(x:step Γ (.bld d zero F) s=some (true,s'))(h:SR g s w a)(u:dp g s w a s' next):m.wp P a w next Q:=by
 obtain⟨dst,op,ty,Z,ab,gd⟩:=m;simp only[pD,Ac,beq_iff_eq] at k;obtain⟨rfl,k⟩:=k;split at k
 ·rename_i t G;simp only[Ac] at k;obtain⟨Y,r⟩:=k;split at r
  ·rename_i fs J;simp only[Ac] at r;obtain⟨r,h3⟩:=r;obtain⟨i,z,E,R,q⟩:=aeB Y;obtain⟨X,H,W⟩:=sb (I:=g.I) (ρ:=g.ρ) (N:=s.hp.length) (w:=w) q;obtain⟨places,e1,e2⟩:=aGk (P:=P) fs.toList (by simpa using h3);simp only[step,Aq] at x;obtain⟨B,L,x⟩:=x;obtain rfl:_=s':=by simpa using x
   obtain⟨l,O,v⟩:=ars (P:=P) (fs:=fs) (places:=λi=>places.toArray[i]?) h (λi f n C u=>by simpa using e2 i f n (by simpa using C) u) F G.toList zero B z.cells r ⟨X,H,W,λi c cv k b=>sa q i c cv k b⟩ L;have p:=run_build (P:=P) w t (G.map λ(i,y)=>(i,a.eval y)) l (by simp only[Program.built,E,J,R,e1];simpa using O);refine bv h rfl (cv:=.agg l) (by simp[execOp,p]) (.agg _ _ (by simpa using v.len) v.one (λi c cv k b=>v.nil i c cv k (by simpa using b)) (λi c cv k b=>v.rel i c cv k (by simpa using b))) rfl u
  ·rename_i len e J;split at r
   ·rename_i sz A;obtain⟨i,z,E,R,q⟩:=aeB Y;obtain⟨X,H,W⟩:=sb (I:=g.I) (ρ:=g.ρ) (N:=s.hp.length) (w:=w) q;simp only[step,Aq] at x;obtain⟨B,L,x⟩:=x;obtain rfl:_=s':=by simpa using x
    obtain⟨ie,S,M⟩:∃i,P.info? e=some i∧i.size=sz:=by unfold gk at A;obtain⟨i,E,h⟩:=Aq.1 A;exact⟨i,E,h⟩
    obtain⟨l,O,v⟩:=ars (P:=P) (fs:=aH6 len sz e) (places:=λi=>some (i*sz,sz)) h (λi f n C u=>by
     have C:(List.map (λi=>aGi e (i*sz)) (BR len))[i]? =some f:=by simpa [aH6] using C
     rw[AF,Aq] at C;obtain⟨j,D,rfl⟩:=C;have D:j=i:=by
      rw[List.getElem?_range] at D;·exact(AG D).symm
      ·exact(by simpa using (Ag.1 D).1)
     subst D;have u:gk P e=some n:=u;rw[A] at u;cases u;rfl) F G.toList zero B z.cells r ⟨X,H,W,λi c cv k b=>sa q i c cv k b⟩ L
    have p:=run_build (P:=P) w t (G.map λ(i,y)=>(i,a.eval y)) l (by simp only[Program.built,E,J,R,S,M];simpa using O);refine bv h rfl (cv:=.agg l) (by simp[execOp,p]) (.agg _ _ (by simpa using v.len) v.one (λi c cv k b=>v.nil i c cv k (by simpa using b)) (λi c cv k b=>v.rel i c cv k (by simpa using b))) rfl u
   ·simp at r
  ·simp at r
 ·simp at k
end
def abh:List ASrc->List Operand->Bool
 | [],[]=>true
 |x::xs,y::ys=>bw x y&&abh xs ys
 |_,_=>false
def yA(P:Program)(o:IOp)(m:Oper):Bool:=
 match o with
 | .alr d n=>(m.dst==some d)&&(match m.op with| .alloc t=>(match P.info? t with|some i=>(match i.zero with|some z=>z.cells.size==n|none=>false)|none=>false)|_=>false)
 | .frz d r n v=>(m.dst==d)&&(match m.op with| .store t (.tmp c) e=>(r==c)&&((gk P t==some n)&&bw v e)|_=>false)
 | .lde d n agg x=>ce P (.ld d n agg false x) m
 | .boxe d x=>(m.dst==some d)&&(match m.op with| .box t y=>bw x y|_=>false)
 | .mkf d f xs=>(m.dst==some d)&&(match m.op with| .makeFunc (.func b) first ys=>(f==b)&&(first.isEmpty&&abh xs ys.toList)|_=>false)
 |_=>false
section
variable{w w':World}{g g':Gh}{s s':St}{a:Act}{P:Program}{Γ:aI}{m:Oper}{next:Act->World->Prop}{Q:Exit->Act->World->Prop}
theorem SR.newLaid(h:SR g s w a)(cs:List V)(d:Nat)(f:Array Value)(e:TypeId)
  (G:cs.length=f.size) (H:∀c∈cs,c.one=true)
  (B:∀(j:Nat) c cv,cs[j]? =some c->f[j]? =some cv->VRel g.I g.ρ s.hp.length w c cv):
  ∃g',SR g' (s.set d (.ea cs)) (w.alloc (.cells f e)) (a.put (some d) (.pointer (some ⟨w.heap.size,0,none⟩)))∧FR g s.hp w g' s.hp (w.alloc (.cells f e)):=by
 obtain⟨E,k,A⟩:=my w (.cells f e);let g':Gh:={I:=λb j=>g.I b j∨(b=w.heap.size∧j<cs.length),ρ:=g.ρ,O:=g.O,β:=g.β}
 have z:∀b j,g.I b j->b<w.heap.size:=by intro b j x;obtain⟨v,B⟩:=BG.1 (h.hr.exI b j x);exact B3 _ _ B
 have p:∀b j,b<w.heap.size->(w.alloc (.cells f e)).cell? ⟨b,j,none⟩=w.cell? ⟨b,j,none⟩:=by intro b j q;simp[BM,k b q]
 have u:Up g.I g.ρ s.hp.length w g'.I g'.ρ s.hp.length (w.alloc (.cells f e)):=⟨λb j x=>.inl x,λb j x=>p b j (z b j x),λ_ _=>rfl,Ap _⟩
 have l:∀j,(w.alloc (.cells f e)).cell? ⟨w.heap.size,j,none⟩=f[j]?:=λj=>bE A j
 have F:SR g' s (w.alloc (.cells f e)) a:=by
  refine h.keep none trivial rfl u ?_ ?_ ?_ ?_
  ·intro C b q _;have r:=h.hr.oLt b C q;refine⟨q,k b r,?_⟩;rintro j (i|⟨i,_⟩);·exact i
   ·omega
  ·intro id cs y;have r:=(h.hr.obj id cs y).lt;refine⟨k _ r,h.hr.notO id cs y,?_⟩;rintro j (i|⟨i,_⟩);·exact i
   ·omega
  ·rintro b j (i|⟨rfl,i⟩);·rw[p b j (z b j i)];exact h.hr.exI b j i
   ·rw[l,Am (by omega)];rfl
  ·intro b o q;have:=h.hr.oLt b o q;omega
 refine⟨g',F.set d ?_ (by simp[aO]),⟨rfl,rfl,rfl,rfl,by omega,λb q _ _=>k b q,u,?_,λ_ _ _ h=>h,λ_ cs h=>.inl ⟨cs,h⟩⟩⟩
 ·refine .ea cs _ _ (λj=>f[j]?.getD undef) H ?_ ?_ ?_;·intro j i;exact .inr ⟨rfl,by omega⟩
  ·intro j i;rw[Bv,l,Am (by omega)];rfl
  ·intro j c D;have i:j<f.size:=by rw[<-G];exact(Ag.1 D).1
   have:=B j c _ D (Am i);rw[Am i];exact this.up u
 ·rintro b j q _ J (x|⟨rfl,_⟩);·exact x
  ·omega
theorem aJU{d:Nat}{x:ASrc}(b:yA P (.boxe d x) m=true)(q:step Γ (.boxe d x) s=some (true,s'))(h:SR g s w a)(B:dp g s w a s' next):m.wp P a w next Q:=by
 obtain⟨dst,M,F,u,z,E⟩:=m;simp only[yA,Ac,beq_iff_eq] at b;obtain⟨rfl,b⟩:=b;split at b
 ·rename_i t y;have r:=bD b h.er;have e:(execOp a.eval ⟨some d,.box t y,F,u,z,E⟩).run P w=.ok (.value (.pointer (some ⟨w.heap.size,0,none⟩))) (w.alloc (.cells (a.eval y).cells t)):=by
   simp[execOp,Instr.box,newVar,newRow]
  simp only[step] at q;split at q
  ·rename_i cs C;obtain rfl:_=s':=by simpa using q
   rw[C] at r;generalize a.eval y=cv at r e;cases r with
   |agg _ vs G J L H=>
    refine fj rfl e (h.newLaid (cs.map disown) d vs t (by simpa using G) ?_ ?_) B;·intro c b;obtain⟨A,p,rfl⟩:=AD.1 b;rw[qk];exact J A p
    ·intro j c cv b f;rw[AF,Aq] at b;obtain⟨A,p,rfl⟩:=b;exact(H j A cv p f).disown
  ·rename_i v C D;split at q
   ·rename_i k;obtain rfl:_=s':=by simpa using q
    have l:(a.eval y).cells= #[a.eval y]:=by have:=r.oneCell k;cases I:a.eval y<;>rw[I] at this<;>simp[DL] at this<;>rfl
    rw[l] at e;refine fj rfl e (h.newLaid [disown (x.ev s)] d #[a.eval y] t rfl (by simpa [qk] using k) ?_) B;intro i c cv b f;cases i with
    |zero=>simp at b f;subst b f;exact r.disown
    |succ i=>simp at b
   ·simp at q
 ·simp at b
theorem aLg{d n:Nat}{agg:Bool}{x:ASrc}(f:yA P (.lde d n agg x) m=true)(b:step Γ (.lde d n agg x) s=some (true,s'))(h:SR g s w a)(c:dp g s w a s' next):m.wp P a w next Q:=by
 refine aE0 (Γ:=Γ) (d:=d) (n:=n) (agg:=agg) (x:=x) f ?_ h c;simp only[step] at b ⊢;split at b;·rename_i cs e;rw[e];exact b
 ·simp at b
theorem aLh{d n:Nat}(p:yA P (.alr d n) m=true)(C:step Γ (.alr d n) s=some (true,s'))(h:SR g s w a)(H:dp g s w a s' next):m.wp P a w next Q:=by
 obtain⟨dst,S,R,E,J,N⟩:=m;simp only[yA,Ac,beq_iff_eq] at p;obtain⟨rfl,p⟩:=p;split at p
 ·rename_i t;split at p
  ·rename_i i q;split at p
   ·rename_i z M;have B:z.cells.size=n:=by simpa using p
    obtain rfl:_=s':=by simpa [step] using C
    have f:=my w (.cells z.cells t);obtain⟨G,c,A⟩:=f;refine fj rfl (w':=w.alloc (.cells z.cells t)) (cv:=.pointer (some ⟨w.heap.size,0,none⟩)) (by simp[execOp,Instr.alloc,zeroValue,typeInfo,q,M,newVar,newRow]) ?_ H;let g':Gh:={I:=g.I,ρ:=g.ρ,O:=λb=>if b=w.heap.size then some (.slot d) else g.O b,β:=g.β}
    have x:∀b j,g.I b j->b<w.heap.size:=by intro b j q;obtain⟨v,L⟩:=BG.1 (h.hr.exI b j q);exact B3 _ _ L
    have l:∀b j,b<w.heap.size->(w.alloc (.cells z.cells t)).cell? ⟨b,j,none⟩=w.cell? ⟨b,j,none⟩:=by intro b j e;simp[BM,c b e]
    have u:Up g.I g.ρ s.hp.length w g'.I g'.ρ s.hp.length (w.alloc (.cells z.cells t)):=⟨λb j q=>q,λb j q=>l b j (x b j q),λ_ _=>rfl,Ap _⟩
    have C:SR g' s (w.alloc (.cells z.cells t)) a:=by
     refine h.keep none trivial rfl u ?_ ?_ ?_ ?_;·intro D b e _;have k:=h.hr.oLt b D e;exact⟨by simp[g',Bu k,e],c b k,λj r=>r⟩
     ·intro id cs y;have k:=(h.hr.obj id cs y).lt;exact⟨c _ k,by simp[g',Bu k,h.hr.notO id cs y],λj r=>r⟩
     ·intro b j r;rw[l b j (x b j r)];exact h.hr.exI b j r
     ·intro b o e;simp only[g'] at e;split at e;·omega
      ·have:=h.hr.oLt b o e;omega
    refine⟨g',C.set d (.raw n _) ?_,⟨rfl,rfl,rfl,rfl,by omega,λb e _ _=>c b e,u,λb j _ _ _ q=>q,?_,λ_ cs h=>.inl ⟨cs,h⟩⟩⟩;·refine⟨by simp[g'],⟨z.cells,t,A,B⟩,λj r=>?_⟩;exact absurd (x _ _ r) (Nat.lt_irrefl _)
    ·intro b e F;simp[g',Bu e,F]
   ·simp at p
  ·simp at p
 ·simp at p
theorem ER.put'{N:Nat}(h:ER g N w s.env a.tmps)(d:Nat){v:V}(k:VRel g.I g.ρ N w v (a.tmps.getD d undef))(l:aO g w (.slot d) v (a.tmps.getD d undef)):
  ER g N w (s.set d v).env a.tmps:=by
 refine⟨by simp[St.set,h.size],?_,?_⟩
 ·intro n j i b c;simp only[St.set,Ay] at b;by_cases e:d=n
  ·subst e;simp only[if_true] at b;split at b;·obtain rfl:=AG b;obtain⟨f,rfl⟩:=A1.1 c;simpa [Cg,f] using k
   ·simp at b
  ·simp only[e,if_false] at b;exact h.rel n _ _ b c
 ·intro n j i b c;simp only[St.set,Ay] at b;by_cases e:d=n
  ·subst e;simp only[if_true] at b;split at b;·obtain rfl:=AG b;obtain⟨f,rfl⟩:=A1.1 c;simpa [Cg,f] using l
   ·simp at b
  ·simp only[e,if_false] at b;exact h.own n _ _ b c
theorem aLi{d:Option Nat}{r n:Nat}{v:ASrc}(p:yA P (.frz d r n v) m=true)(H:step Γ (.frz d r n v) s=some (true,s'))(h:SR g s w a)(hn:dp g s w a s' next):m.wp P a w next Q:=by
 obtain⟨dst,op,ty,aa,ah,gd⟩:=m;simp only[yA,Ac,beq_iff_eq] at p;obtain⟨rfl,p⟩:=p;split at p
 ·rename_i t r' S;simp only[Ac,beq_iff_eq] at p;obtain⟨rfl,h1,h3⟩:=p;have r2:=bD h3 h.er;simp only[step] at H;split at H
  ·rename_i m hr;split at H
   ·rename_i y;simp only[Ac,beq_iff_eq] at y;obtain⟨hm,D,L⟩:=y;obtain rfl:=AJ hm;obtain rfl:_=s':=by simpa using H
    have r1:=h.er.get r;have ro:=h.er.getOwn r;rw[hr] at r1 ro;obtain⟨c1,c2,c3⟩:=af1 r2 L;have J:(a.eval S).cells.size=m:=by rw[<-c1];exact D
    generalize Y:a.tmps.getD r undef=cx at r1 ro;cases r1 with
    |raw _ b=>
     obtain⟨X,⟨ae,e,N,a7⟩,o3⟩:=ro;simp only at X N o3;have ac:SR g (s.set r .undef) w a:=by have:=h.bare r;rw[hr] at this;exact this
     let us:=(a.eval S).cells.toList;have a2:us.length=m:=by simpa [us] using J
     obtain⟨⟨au,q1,q2⟩,q3,q4,q5,q6,q7⟩:=nE b us 0 w ae e (0,0) N;let w':=w.setCells b 0 us;have M:(execOp a.eval ⟨dst,.store t (.tmp r) S,ty,aa,ah,gd⟩).run P w=.ok .skip (w.setCells b 0 us):=by
      have:=run_storeCells_cells (P:=P) b 0 us 0 w
       (λj i=>by rw[bE N,Am (by omega)];rfl)
       (λj i=>by simp[CD,N])
       (λu hu=>by
        obtain⟨j,i,rfl⟩:=Be.1 hu;have q:j<(v.ev s).cells.length:=by rw[c1];simpa [us] using i
        exact(c3 j _ _ (Ah q) (by simp[us])).oneCell (c2 _ (B1 q)))
      have he:a.eval (.tmp r)=.pointer (some ⟨b,0,none⟩):=Y;simp[execOp,he,Instr.storeAt,Ce,storeVar,mw h1,J];have F:Sem.run P (storeCells {block:=b,off:=0} (a.eval S).cells.toList) w=Result.ok () (w.setCells b 0 (a.eval S).cells.toList):=by simpa [us] using this
      rw[F];rfl
     have Z:∀f j,g.I f j->f≠b:=by rintro f j E rfl;exact o3 j E
     let g':Gh:={I:=λf j=>g.I f j∨(f=b∧j<m),ρ:=g.ρ,O:=λf=>if f=b then none else g.O f,β:=g.β}
     have z:∀f j,f≠b->w'.cell? ⟨f,j,none⟩=w.cell? ⟨f,j,none⟩:=by intro f j G;exact BF _ us 0 w _ (λe=>absurd e G)
     have u:Up g.I g.ρ s.hp.length w g'.I g'.ρ s.hp.length w':=⟨λb j E=>.inl E,λf j E=>z f j (Z f j E),λ_ _=>rfl,Ap _⟩
     have x:∀j,j<m->w'.cell? ⟨b,j,none⟩=us[j]?:=by intro j i;have:=Cm b us 0 w (λj' q=>by rw[bE N,Am (by omega)];rfl) j (by omega);rw[Bv] at this;rw[this,Ah]
     have W:SR g' (s.set r .undef) w' a:=by
      refine ac.keep (some (.slot r)) ?_ rfl u ?_ ?_ ?_ ?_;·intro v hv;simp only[St.set,Ay] at hv;simp at hv;obtain⟨_,rfl⟩:=hv;rfl
      ·intro a9 f k G;have l:f≠b:=by
        rintro rfl;rw[X] at k;exact G k
       refine⟨by simp[g',l,k],q3 f l,?_⟩;rintro j (i|⟨i,_⟩);·exact i
       ·exact absurd i l
      ·intro id cs R;have l:g.ρ id≠b:=by
        intro e;have:=h.hr.notO id cs R;rw[e,X] at this;cases this
       refine⟨q3 _ l,by simp[g',l,h.hr.notO id cs R],?_⟩;rintro j (i|⟨i,_⟩);·exact i
       ·exact absurd i l
      ·rintro f j (i|⟨rfl,i⟩);·rw[z f j (Z f j i)];exact h.hr.exI f j i
       ·rw[x j i,Ah (by omega)];rfl
      ·intro f o k;simp only[g'] at k;split at k;·cases k
       ·have:=h.hr.oLt f o k;rw[q4];exact this
     have ab:VRel g'.I g'.ρ s.hp.length w' (.ea ((v.ev s).cells.map disown)) (.pointer (some ⟨b,0,none⟩)):=by
      refine .ea _ _ _ (λj=>us[j]?.getD undef) ?_ ?_ ?_ ?_;·intro c p;obtain⟨c',A,rfl⟩:=AD.1 p;rw[qk];exact c2 c' A
      ·intro j i;exact .inr ⟨rfl,by simp[D] at i;omega⟩
      ·intro j i;have q:j<m:=by simp[D] at i;omega
       rw[Bv,x j q,Ah (by omega)];rfl
      ·intro j c p;rw[AF,Aq] at p;obtain⟨c',A,rfl⟩:=p;have i:j<us.length:=by have:=(Ag.1 A).1;omega
       rw[Ah i];exact((c3 j c' us[j] A (by simp[us])).up u).disown
     have B:SR g' (s.set r (.ea ((v.ev s).cells.map disown))) w' a:=by
      refine⟨W.hr,?_⟩;have:=W.er.put' r (v:=.ea ((v.ev s).cells.map disown)) (by rw[Y];exact ab) (by simp[aO]);have e2:((s.set r .undef).set r (.ea ((v.ev s).cells.map disown))).env=(s.set r (.ea ((v.ev s).cells.map disown))).env:=by simp[St.set]
      rw[e2] at this;exact this
     have fr:FR g s.hp w g' s.hp w':=by
      refine⟨rfl,q5,q6,q7,by rw[q4];exact Ap _,?_,u,?_,?_,λ_ cs h=>.inl ⟨cs,h⟩⟩;·intro f k _ C;refine q3 f ?_;rintro rfl;rw[X] at C;cases C
      ·rintro f j k _ C (E|⟨rfl,_⟩);·exact E
       ·rw[X] at C;cases C
      ·intro f k _ C;simp[g',C]
     unfold Oper.wp Dy;rw[M];cases dst with
     |none=>exact hn _ _ g' B fr rfl
     |some d=>exact hn _ _ g' (B.set d (.undef _) (by simp[aO])) fr rfl
   ·simp at H
  ·simp at H
 ·simp at p
theorem azV(h:ER g s.hp.length w s.env a.tmps):∀(xs:List ASrc)(ys:List Operand),abh xs ys=true->xs.length=ys.length∧
  ∀(i:Nat) v cv,(xs.map λx=>disown (x.ev s))[i]? =some v->(ys.map a.eval)[i]? =some cv->VRel g.I g.ρ s.hp.length w v cv
 | [],[],_=>⟨rfl,by simp⟩
 |x::xs,y::ys,hp=>by
  simp only[abh,Ac] at hp;obtain⟨e,d⟩:=azV h xs ys hp.2;refine⟨by simp[e],?_⟩;intro i v cv c b;cases i with
  |zero=>simp at c b;subst c b;exact(bD hp.1 h).disown
  |succ i=>exact d i v cv (by simpa using c) (by simpa using b)
 | [],_::_,hp=>by simp[abh] at hp
 |_::_,[],hp=>by simp[abh] at hp
theorem aLj{d f:Nat}{xs:List ASrc}(b:yA P (.mkf d f xs) m=true)(u:step Γ (.mkf d f xs) s=some (true,s'))(h:SR g s w a)(r:dp g s w a s' next):m.wp P a w next Q:=by
 obtain⟨dst,B,z,j,k,x⟩:=m;simp only[yA,Ac,beq_iff_eq] at b;obtain⟨rfl,b⟩:=b;split at b
 ·rename_i A first ys
  simp only[Ac,beq_iff_eq] at b;obtain⟨rfl,v,q⟩:=b;obtain rfl:first= #[]:=by simpa using v
  obtain rfl:_=s':=by simpa [step] using u
  obtain⟨y,p⟩:=azV h.er xs ys.toList q;have e:(execOp a.eval ⟨some d,.makeFunc (.func f) #[] ys,z,j,k,x⟩).run P w=.ok (.value (.func (.func f) #[] (ys.map a.eval))) w:=by simp[execOp,Instr.makeFunc]
  refine bv h rfl e (.fn _ _ _ (by simp[y]) (λi c cv b l=>p i c cv b (by simpa using l))) rfl r
 ·simp at b
end
end Go.AM
end
