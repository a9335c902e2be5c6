import GoSem.Core.Code
import GoSem.Op.String
import GoSem.Core.Utf8
import Derived.WalkKit
import Derived.Deep.AppendSrc
import Derived.Laws.Cover4
import Derived.Laws.IdiomStrings
import Derived.Lib.ConvBytes
import Derived.Laws.Tables
import Derived.Laws.StructEq
import Derived.Laws.MakeOwn
set_option linter.all false
open Array renaming getElem?_eq_getElem→Am,getElem?_eq_some_iff→AX,length_toList→BX,getElem?_eq_none→BY,getElem?_append_left→B0,getD→B4,getElem?_modify→Ci,getElem?_toList→Ck,eq_empty_of_size_eq_zero→Dv,getElem?_push→DH,getElem?_setIfInBounds→DK
open BitVec renaming ofInt→AT
open Bool renaming and_eq_true→Ac,or_eq_true→Bg,not_eq_true'→BE,eq_iff_iff→BH
open Classical renaming byContradiction→D7
open Function renaming comp_def→D4
open Go.Addr renaming add_lit→BO
open Go.Builtin renaming append_→CI,len_→Dc
open Go.Instr renaming sureAddr→BF,fill→CH,sliceBounds→CP,storeAt→Dn,sliceAt→Do,loadAt→Dz,slice→DN,indexAt→DZ
open Go.IntKind renaming wrap→Ab,signed→AN,bits→A6,max→Bo,min→BI
open Go.Lib renaming bytesWorld→Di,bytesCells→DL
open Go.Op renaming bytesLess→A2,stringOp→CL,intCmp→Dr,intBits→DC,intArith→DP
open Go.Oper renaming upon→C1,wp→C4
open Go.Value renaming cells→Cw,oneCell'→DJ
open Go.World renaming cell?_setCells_out→A5,cell?→By,cell?_setCells_in→BJ,block_lt_of_cell?→BL,frozen?→B2,freeze→CY
open Int renaming tmod_eq_emod_of_nonneg→Bj,fdiv_eq_ediv_of_nonneg→B1,tmod_nonneg→Dy,le_of_lt→DD,pow_pos→DO
open List renaming length→Aa,getD→Af,getElem?_eq_some_iff→Ag,getElem?_eq_getElem→Ah,length_cons→Ai,length_append→Ak,length_nil→Al,getD_eq_getElem?_getD→Aq,mem_of_getElem?→Ar,getElem?_append_right→At,getElem?_append_left→Au,all_eq_true→Aw,getElem?_set→Ax,mem_singleton→Ay,mem_append→Az,getElem?_map→AA,length_set→AD,mem_map→AH,length_drop→AL,append_assoc→AP,mem_flatMap→AS,mem_iff_getElem→AU,getElem?_take→AY,mem_cons_of_mem→A0,getElem?_eq_none→A1,mem_cons→A3,mem_cons_self→A4,map_cons→Bb,getElem?_drop→Bk,eq_nil_of_length_eq_zero→Bu,mem_of_mem_take→Bv,mem_of_mem_drop→Bw,getElem?_set_self→BC,drop_eq_getElem_cons→BD,foldl_cons→BG,range→BN,getElem_mem→BU,length_map→BW,all_cons→Cm,replicate→Cy,ext_getElem?→CO,drop_take→CW,range'→C5,map_map→Dw,size_toArray→D3,length_range→D5,extract_eq_take_drop→D6
open List.cons renaming injEq→CG
open Nat renaming le_refl→Ap,eq_of_beq_eq_true→AE,lt_or_ge→AG,beq→AI,lt_of_lt_of_le→AJ,add_mul→AO,mul_le_mul_right→AV,le_trans→A7,ne_of_lt→Be,zero_add→Bf,mod_eq_of_lt→Br,mul_comm→BT,add_zero→B6,add_assoc→Co,div_lt_of_lt_mul→Cu,mul_one→Cv,one_mul→CM,add_comm→C0,blt→C6,le_mul_of_pos_right→Dk,le_of_not_lt→Dp,eq_zero_or_pos→DT,lt_irrefl→DV
open Ne renaming symm→CU
open Option renaming map_eq_some_iff→As,getD_some→A8,isSome_iff_exists→Bq,map_some→BA
open Option.some renaming injEq→Ae,inj→AF
open Prod.mk renaming injEq→Aj
open UInt8 renaming ofNat→AC
noncomputable section
namespace Go.AM
structure bF where
 num:Int
 wire:Int
 n:Int
 s:List UInt8
 raw:List UInt8
 deriving DecidableEq
structure Tok where
 kind:Int
 text:List UInt8
 n:Int
 pos:Int
structure bM where
 label:Int
 typ:List UInt8
 key:List UInt8
 name:List UInt8
 num:Int
 packed:Int
 oneof:Int
structure PVl where
 name:List UInt8
 n:Int
structure PEn where
 name:List UInt8
 values:List PVl
inductive bi where
 |mk (name:List UInt8) (fields:List bM) (oneofs:List (List UInt8)) (msgs:List bi) (enums:List PEn) (nums:List (Int×Int)) (names:List (List UInt8))
def bi.name:bi->List UInt8| .mk a _ _ _ _ _ _=>a
def bi.fields:bi->List bM| .mk _ a _ _ _ _ _=>a
def bi.oneofs:bi->List (List UInt8)| .mk _ _ a _ _ _ _=>a
def bi.msgs:bi->List bi| .mk _ _ _ a _ _ _=>a
def bi.enums:bi->List PEn| .mk _ _ _ _ a _ _=>a
def bi.nums:bi->List (Int×Int)| .mk _ _ _ _ _ a _=>a
def bi.names:bi->List (List UInt8)| .mk _ _ _ _ _ _ a=>a
structure eS where
 name:List UInt8
 text:List UInt8
structure ch where
 name:List UInt8
 pack:List UInt8
 imports:List (List UInt8)
 msgs:List bi
 enums:List PEn
 sees:List (List UInt8)
structure PNm where
 name:List UInt8
 kind:Int
 m:bi
 x:PEn
 file:List UInt8
structure PFl where
 num:Int
 name:List UInt8
 label:Int
 kind:Int
 typ:List UInt8
 key:Int
 packed:Bool
 oneof:Int
structure PMs where
 name:List UInt8
 fields:List PFl
 oneofs:List (List UInt8)
inductive aC where
 |mk (n:Int) (s:List UInt8) (fs:List (Int×List aC)) (rest:List UInt8)
def aC.n:aC->Int| .mk a _ _ _=>a
def aC.s:aC->List UInt8| .mk _ a _ _=>a
def aC.fs:aC->List (Int×List aC)| .mk _ _ a _=>a
def aC.rest:aC->List UInt8| .mk _ _ _ a=>a
inductive EK where
 |u8|num (k:IntKind)|str|bool|ints|record|tok|ffld|pvl|pen|u2|fmsg|src|fil|nms|pfl|pms|pval|pfd
 deriving DecidableEq
abbrev Ty:EK->Type
 | .u8=>UInt8
 | .num _=>Int
 | .str=>List UInt8
 | .bool=>Bool
 | .record=>bF
 | .tok=>Tok
 | .ffld=>bM
 | .pvl=>PVl
 | .pen=>PEn
 | .u2=>Int×Int
 | .fmsg=>bi
 | .src=>eS
 | .fil=>ch
 | .nms=>PNm
 | .pfl=>PFl
 | .pms=>PMs
 | .pval=>aC
 | .pfd=>Int×List aC
 | .ints=>List Int
inductive Fl where
 |own
 |may (b:Bool)
 deriving DecidableEq
def Fl.dis:Fl->Fl
 | .own=>.may false
 | .may b=>.may b
def Fl.app:Fl->Nat->Bool
 | .own,_=>true
 | .may b,n=>b&&decide (0<n)
inductive MK where
 |pb|bs|bn|ib|sn
 deriving DecidableEq
abbrev MK.K:MK->Type
 | .pb=>Int×Int
 | .bs| .bn| .ib=>Int
 | .sn=>List UInt8
abbrev MK.T:MK->Type
 | .pb| .ib=>Bool
 | .bs=>List UInt8
 | .bn| .sn=>Int
inductive V where
 |undef
 |bool (b:Bool)
 |int (k:IntKind) (n:Int)
 |str (s:List UInt8)
 |sl (k:EK) (o:Fl) (xs:List (Ty k))
 |agg (cs:List V)
 |tup (vs:List V)
 |ea (cs:List V)
 |ptr (id off:Nat)
 |nilp
 |fn (f:Nat) (cap:List V)
 |nilif
 |bn (E n:Nat)
 |junk
 |rb (xs:List UInt8)
 |so (id n:Nat)
 |raw (n:Nat)
 |ul (k:EK) (xs:List (Ty k))
 |hd (n:Nat)
 |rw(k:EK) (xs:List (Ty k))
 |sw (k:EK) (id n:Nat)
 |sx (k:EK) (id off n:Nat)
 |wp (id:Nat) (k:EK) (i o:Nat)
 |mp (k:MK) (es:List (k.K×k.T))
 |mr (id:Nat)
 |nilm
instance:Inhabited V:=⟨.undef⟩
def EK.sz:EK->Nat
 | .record=>5
 | .tok=>4
 | .ffld=>7
 | .pvl=>2
 | .pen=>2
 | .u2=>2
 | .fmsg=>7
 | .src=>2
 | .fil=>6
 | .nms=>12
 | .pfl=>8
 | .pms=>3
 | .pval=>4
 | .pfd=>2
 |_=>1
def as9:IntKind->Nat
 | .i8| .u8=>1
 | .i16| .u16=>2
 | .i32| .u32=>4
 | .i64| .u64=>8
def EK.bytes:EK->Nat
 | .u8=>1
 | .num k=>as9 k
 | .str=>16
 | .bool=>1
 | .record=>56
 | .tok=>40
 | .ffld=>80
 | .pvl=>24
 | .pen=>40
 | .u2=>16
 | .fmsg=>160
 | .src=>32
 | .fil=>128
 | .nms=>240
 | .pfl=>80
 | .pms=>64
 | .pval=>64
 | .pfd=>32
 | .ints=>24
def EK.isAgg:EK->Bool
 | .record| .tok| .ffld| .pvl| .pen| .u2| .fmsg| .src| .fil| .nms| .pfl| .pms| .pval| .pfd=>true
 |_=>false
def enc:(k:EK)->Ty k->List V
 | .u8,x=>[.int .u8 x.toNat]
 | .num k,x=>[.int k x]
 | .str,x=>[.str x]
 | .bool,x=>[.bool x]
 | .record,x=>[.int .i64 x.num,.int .i64 x.wire,.int .u64 x.n,.str x.s,.str x.raw]
 | .tok,x=>[.int .i64 x.kind,.str x.text,.int .u64 x.n,.int .i64 x.pos]
 | .ffld,x=>[.int .i64 x.label,.str x.typ,.str x.key,.str x.name,.int .u64 x.num,.int .i64 x.packed,.int .i64 x.oneof]
 | .pvl,x=>[.str x.name,.int .i64 x.n]
 | .pen,x=>[.str x.name,.sl .pvl (.may false) x.values]
 | .u2,x=>[.int .u64 x.1,.int .u64 x.2]
 | .fmsg,x=>[.str x.name,.sl .ffld (.may false) x.fields,.sl .str (.may false) x.oneofs,.sl .fmsg (.may false) x.msgs,.sl .pen (.may false) x.enums,.sl .u2 (.may false) x.nums,.sl .str (.may false) x.names]
 | .src,x=>[.str x.name,.str x.text]
 | .fil,x=>[.str x.name,.str x.pack,.sl .str (.may false) x.imports,.sl .fmsg (.may false) x.msgs,.sl .pen (.may false) x.enums,.sl .str (.may false) x.sees]
 | .nms,x=>[.str x.name,.int .i64 x.kind,.str x.m.name,.sl .ffld (.may false) x.m.fields,.sl .str (.may false) x.m.oneofs,.sl .fmsg (.may false) x.m.msgs,.sl .pen (.may false) x.m.enums,.sl .u2 (.may false) x.m.nums,.sl .str (.may false) x.m.names,.str x.x.name,.sl .pvl (.may false) x.x.values,.str x.file]
 | .pfl,x=>[.int .i64 x.num,.str x.name,.int .i64 x.label,.int .i64 x.kind,.str x.typ,.int .i64 x.key,.bool x.packed,.int .i64 x.oneof]
 | .pms,x=>[.str x.name,.sl .pfl (.may false) x.fields,.sl .str (.may false) x.oneofs]
 | .pval,x=>[.int .u64 x.n,.str x.s,.sl .pfd (.may false) x.fs,.str x.rest]
 | .pfd,x=>[.int .i64 x.1,.sl .pval (.may false) x.2]
 | .ints,x=>[.sl (.num .i64) (.may false) x]
def dec:(k:EK)->List V->Option (Ty k)
 | .u8,[.int .u8 n]=>some (AC n.toNat)
 | .num .i8,[.int .i8 n]=>some n
 | .num .i16,[.int .i16 n]=>some n
 | .num .i32,[.int .i32 n]=>some n
 | .num .i64,[.int .i64 n]=>some n
 | .num .u8,[.int .u8 n]=>some n
 | .num .u16,[.int .u16 n]=>some n
 | .num .u32,[.int .u32 n]=>some n
 | .num .u64,[.int .u64 n]=>some n
 | .str,[.str s]=>some s
 | .bool,[.bool b]=>some b
 | .record,[.int .i64 a,.int .i64 b,.int .u64 c,.str d,.str e]=>some ⟨a,b,c,d,e⟩
 | .tok,[.int .i64 a,.str b,.int .u64 c,.int .i64 d]=>some ⟨a,b,c,d⟩
 | .ffld,[.int .i64 a,.str b,.str c,.str d,.int .u64 e,.int .i64 f,.int .i64 g]=>some ⟨a,b,c,d,e,f,g⟩
 | .pvl,[.str a,.int .i64 b]=>some ⟨a,b⟩
 | .pen,[.str a,.sl .pvl _ b]=>some ⟨a,b⟩
 | .u2,[.int .u64 a,.int .u64 b]=>some ⟨a,b⟩
 | .fmsg,[.str a,.sl .ffld _ b,.sl .str _ c,.sl .fmsg _ d,.sl .pen _ e,.sl .u2 _ f,.sl .str _ g]=>some (.mk a b c d e f g)
 | .src,[.str a,.str b]=>some ⟨a,b⟩
 | .fil,[.str a,.str b,.sl .str _ c,.sl .fmsg _ d,.sl .pen _ e,.sl .str _ f]=>some ⟨a,b,c,d,e,f⟩
 | .nms,[.str a,.int .i64 b,.str c,.sl .ffld _ d,.sl .str _ e,.sl .fmsg _ f,.sl .pen _ g,.sl .u2 _ h,.sl .str _ i,.str j,.sl .pvl _ k,.str l]=>some ⟨a,b,.mk c d e f g h i,⟨j,k⟩,l⟩
 | .pfl,[.int .i64 a,.str b,.int .i64 c,.int .i64 d,.str e,.int .i64 f,.bool g,.int .i64 h]=>some ⟨a,b,c,d,e,f,g,h⟩
 | .pms,[.str a,.sl .pfl _ b,.sl .str _ c]=>some ⟨a,b,c⟩
 | .pval,[.int .u64 a,.str b,.sl .pfd _ c,.str d]=>some (.mk a b c d)
 | .pfd,[.int .i64 a,.sl .pval _ b]=>some ⟨a,b⟩
 | .ints,[.sl (.num .i64) _ x]=>some x
 |_,_=>none
def aI:(k:EK)->Ty k
 | .u8=>0
 | .num _=>0
 | .str=>[]
 | .bool=>false
 | .record=>⟨0,0,0,[],[]⟩
 | .tok=>⟨0,[],0,0⟩
 | .ffld=>⟨0,[],[],[],0,0,0⟩
 | .pvl=>⟨[],0⟩
 | .pen=>⟨[],[]⟩
 | .u2=>⟨0,0⟩
 | .fmsg=>(.mk [] [] [] [] [] [] [])
 | .src=>⟨[],[]⟩
 | .fil=>⟨[],[],[],[],[],[]⟩
 | .nms=>⟨[],0,.mk [] [] [] [] [] [] [],⟨[],[]⟩,[]⟩
 | .pfl=>⟨0,[],0,0,[],0,false,0⟩
 | .pms=>⟨[],[],[]⟩
 | .pval=>(.mk 0 [] [] [])
 | .pfd=>⟨0,[]⟩
 | .ints=>[]
def MK.key:(k:MK)->k.K->V
 | .pb,x=>.agg [.int .i64 x.1,.int .i64 x.2]
 | .bs,x=>.int .u8 x
 | .bn,x=>.int .u8 x
 | .ib,x=>.int .i64 x
 | .sn,x=>.str x
def MK.val:(k:MK)->k.T->V
 | .pb,x=>.bool x
 | .bs,x=>.str x
 | .bn,x=>.int .i64 x
 | .ib,x=>.bool x
 | .sn,x=>.int .i64 x
def MK.zero:(k:MK)->k.T
 | .pb| .ib=>false
 | .bs=>[]
 | .bn| .sn=>(0:Int)
def aGR:V->Option (Int×Int)| .agg [.int .i64 a,.int .i64 b]=>some (a,b)|_=>none
def u8V:V->Option Int| .int .u8 a=>some a|_=>none
def aBS:V->Option Int| .int .i64 a=>some a|_=>none
def aGS:V->Option (List UInt8)| .str s=>some s|_=>none
def aBO:V->Option Bool| .bool b=>some b|_=>none
def MK.dkey:(k:MK)->V->Option k.K
 | .pb=>aGR
 | .bs=>u8V
 | .bn=>u8V
 | .ib=>aBS
 | .sn=>aGS
def MK.dval:(k:MK)->V->Option k.T
 | .pb=>aBO
 | .bs=>aGS
 | .bn=>aBS
 | .ib=>aBO
 | .sn=>aBS
instance MK.decK:(k:MK)->DecidableEq k.K
 | .pb=>inferInstanceAs (DecidableEq (Int×Int))
 | .bs| .bn| .ib=>inferInstanceAs (DecidableEq Int)
 | .sn=>inferInstanceAs (DecidableEq (List UInt8))
def fB{k:MK}(es:List (k.K×k.T))(x:k.K):Option k.T:=match es with
 | []=>none
 |e::r=>if e.1=x then some e.2 else fB r x
def nB{k:MK}(es:List (k.K×k.T))(x:k.K)(v:k.T):List (k.K×k.T):=match es with
 | []=>[(x,v)]
 |e::r=>if e.1=x then (x,v)::r else e::nB r x v
def qH{k:MK}(es:List (k.K×k.T))(x:k.K):Nat:=match es with
 | []=>0
 |e::r=>if e.1=x then 0 else qH r x+1
def akn{k:MK}(es:List (k.K×k.T))(x:k.K):k.T:=(fB es x).getD k.zero
def anU(k:MK)(ok:Bool)(r:Option k.T):V:=cond ok (.tup [k.val (r.getD k.zero),.bool r.isSome]) (k.val (r.getD k.zero))
def V.cells:V->List V
 | .agg cs=>cs
 |v=>[v]
def V.one:V->Bool
 | .undef| .agg _| .tup _| .rb _| .raw _| .rw _ _| .mp _ _=>false
 |_=>true
def disown:V->V
 | .raw _=>.undef
 | .sl k o xs=>.sl k o.dis xs
 | .bn _ _=>.junk
 | .ul _ xs=>.hd xs.length
 |v=>v
def V.laid:V->V
 | .ul k xs=>.sl k .own xs
 |v=>v
def V.weak:V->V
 | .sl k _ xs=>.sl k (.may false) xs
 |v=>disown v
def noBn:V->Bool
 | .bn _ _=>false
 |_=>true
inductive ASrc where
 |t (n:Nat)
 |tk (n:Nat)
 |c (v:V)
abbrev aK:=Option (List V)
structure St where
 env:List V
 hp:List aK
def St.get(s:St)(n:Nat):V:=s.env.getD n .undef
def St.set(s:St)(n:Nat)(v:V):St:={s with env:=s.env.set n v}
def ASrc.ev(s:St):ASrc->V
 | .t n=>disown (s.get n)
 | .tk n=>s.get n
 | .c v=>v
def ASrc.after(s:St):ASrc->St
 | .tk n=>s.set n (disown (s.get n))
 |_=>s
def ASrc.fix(s:St)(t:Bool):ASrc->St
 | .t n=>s.set n (.bool t)
 |_=>s
theorem ASrc.fix_eq{s:St}{t:Bool}:∀{c:ASrc},c.ev s=.bool t->c.fix s t=s
 | .t n,h=>by
   have d:s.env.getD n .undef=.bool t:=by have h:disown (s.env.getD n .undef)=.bool t:=h;revert h;generalize s.env.getD n .undef=v;cases v<;>simp[disown]
   obtain⟨a,hp⟩:=s;show St.mk (a.set n (.bool t)) hp=St.mk a hp;have f:a.set n (.bool t)=a:=by
    apply CO;intro i;rw[Ax];split
    ·rename_i e;subst e;split;·rename_i b;simp only[Aq,Ah b,A8] at d;rw[Ah b,d]
     ·rename_i b;rw[A1 (by omega)]
    ·rfl
   rw[f]
 | .tk n,_=>rfl
 | .c v,_=>rfl
inductive IOp where
 |mov (d:Nat) (x:ASrc)
 |pick (d:Nat) (c a b:ASrc)
 |bin (d:Nat) (o:BinOp) (x y:ASrc)
 |un (d:Nat) (o:UnOp) (x:ASrc)
 |cvi (d:Nat) (k:IntKind) (x:ASrc)
 |s2b (d:Nat) (x:ASrc)
 |b2s (d:Nat) (x:ASrc)
 |lens (d:Nat) (x:ASrc)
 |lenl (d:Nat) (x:ASrc)
 |idx (d:Nat) (x i:ASrc)
 |ixa (d:Nat) (k:EK) (x i:ASrc)
 |subs (d:Nat) (x:ASrc) (lo hi:Option ASrc)
 |subl (d:Nat) (k:EK) (x:ASrc) (lo hi:Option ASrc)
 |bsl (d:Nat) (k:EK) (ahl:List ASrc) (u:Bool)
 |bld (d:Nat) (zero:List V) (ahl:List (Nat×Nat×ASrc))
 |fld (d:Nat) (off n:Nat) (agg:Bool) (x:ASrc)
 |new (d:Nat) (zero:List V)
 |box (d:Nat) (x:ASrc)
 |newb (d:Nat) (zero:List V)
 |fad (d:Nat) (off:Nat) (x:ASrc)
 |ld (d:Nat) (n:Nat) (agg take:Bool) (x:ASrc)
 |st (d:Option Nat) (n:Nat) (x v:ASrc)
 |app (d:Nat) (k:EK) (x y:ASrc)
 |apps (d:Nat) (x y:ASrc)
 |ext (d:Nat) (i:Nat) (x:ASrc)
 |nck (d:Option Nat) (x:ASrc)
 |call (d:Option Nat) (f:Nat) (args:List ASrc)
 |mx (d:Nat) (mn:Bool) (x y:ASrc)
 |boxe (d:Nat) (x:ASrc)
 |alr (d n:Nat)
 |frz (d:Option Nat) (r n:Nat) (v:ASrc)
 |pub (d:Option Nat) (r n:Nat) (v:ASrc)
 |lde (d:Nat) (n:Nat) (agg:Bool) (x:ASrc)
 |mkf (d f:Nat) (ab2:List ASrc)
 |dcall (d:Option Nat) (f:Nat) (x:ASrc) (args:List ASrc)
 |apu (d:Nat) (k:EK) (x y:ASrc)
 |blu (d:Nat) (k:EK)
 |snil (d:Nat) (x:ASrc)
 |lnw (d:Nat) (x:ASrc)
 |ixw (d:Nat) (k:EK) (x i:ASrc)
 |fdw (d off:Nat) (x:ASrc)
 |ldw (d n:Nat) (agg:Bool) (x:ASrc)
 |stw (d:Option Nat) (n:Nat) (x v:ASrc)
 |mkm (d:Nat) (k:MK)
 |mget (d:Nat) (k:MK) (ok:Bool) (x y:ASrc)
 |mput (d:Option Nat) (k:MK) (x y z:ASrc)
 |ixe (d n:Nat) (x i:ASrc)
 |arw (d:Nat) (k:IntKind) (n:Nat)
 |apo (d:Nat) (k:EK) (x y:ASrc)
 |stn (d:Option Nat) (x v:ASrc)
 |ldn (d:Nat) (x:ASrc)
 |stu (d:Option Nat) (x:ASrc) (m:Nat)
structure GOp where
 g:Option (Nat×Bool)
 o:IOp
 ob:Option (List Nat×List Nat)
def bE(o:BinOp)(k:IntKind)(a b:Int):Int:=
 match o with
 | .and=>k.wrap (AT k.bits a&&& AT k.bits b).toNat
 | .or=>k.wrap (AT k.bits a|||AT k.bits b).toNat
 | .xor=>k.wrap (AT k.bits a ^^^AT k.bits b).toNat
 |_=>k.wrap (AT k.bits a&&& ~~~AT k.bits b).toNat
def ic(k:IntKind)(a b:Int):Int:=k.wrap (a*2^(min b.toNat k.bits))
def ep(k:IntKind)(a b:Int):Int:=a.fdiv (2^(min b.toNat k.bits))
def cj:Nat:=9223372036854775807
def jV:Nat:=140737488355328
def aBT(o:BinOp)(k:IntKind)(a b:Int):Option (Bool×V):=
 match o with
 | .add=>some (true,.int k (k.wrap (a+b)))
 | .sub=>some (true,.int k (k.wrap (a-b)))
 | .mul=>some (true,.int k (k.wrap (a*b)))
 | .quo=>some (!(b==0),.int k (k.wrap (a.tdiv b)))
 | .rem=>some (!(b==0),.int k (a.tmod b))
 | .and=>some (true,.int k (bE .and k a b))
 | .or=>some (true,.int k (bE .or k a b))
 | .xor=>some (true,.int k (bE .xor k a b))
 | .andNot=>some (true,.int k (bE .andNot k a b))
 | .eql=>some (true,.bool (a==b))
 | .neq=>some (true,.bool (!(a==b)))
 | .lss=>some (true,.bool (decide (a<b)))
 | .leq=>some (true,.bool (decide (a<=b)))
 | .gtr=>some (true,.bool (decide (b<a)))
 | .geq=>some (true,.bool (decide (b<=a)))
 |_=>none
def aBU(o:BinOp)(a b:List UInt8):Option (Bool×V):=
 match o with
 | .add=>some (decide (a.length+b.length<=cj),.str (a++b))
 | .eql=>some (true,.bool (decide (a=b)))
 | .neq=>some (true,.bool (!decide (a=b)))
 | .lss=>some (true,.bool (A2 a b))
 | .leq=>some (true,.bool (A2 a b||decide (a=b)))
 | .gtr=>some (true,.bool (!(A2 a b||decide (a=b))))
 | .geq=>some (true,.bool (!Op.bytesLess a b))
 |_=>none
def aJV(o:BinOp)(x y:V):Option (Bool×V):=
 match x,y with
 | .int k a,.int k' b=>
   match o with
   | .shl=>some (decide (0<=b),.int k (ic k a b))
   | .shr=>some (decide (0<=b),.int k (ep k a b))
   |o=>if k=k' then aBT o k a b else none
 | .str a,.str b=>aBU o a b
 |_,_=>none
def unV(o:UnOp)(x:V):Option V:=
 match o,x with
 | .not,.bool b=>some (.bool (!b))
 | .neg,.int k n=>some (.int k (k.wrap (0-n)))
 | .xor,.int k n=>some (.int k (bE .xor k (if k.signed then -1 else k.max) n))
 |_,_=>none
def lay(cells:List V):List (Nat×Nat×V)->Option (List V)
 | []=>some cells
 |(a,n,v)::r=>if (v.cells.length==n&&v.cells.all V.one)&&decide (a+n<=cells.length) then lay (cells.take a++v.cells.map disown++cells.drop (a+n)) r else none
def aiR(k:EK):List V->Option (List (Ty k))
 | []=>some []
 |v::r=>match dec k v.cells,aiR k r with|some x,some l=>some (x::l)|_,_=>none
def afM(c:Nat):Option V->Option V->Option (Bool×Nat×Nat)
 |none,none=>some (true,0,c)
 |some (.int _ a),none=>some (decide (0<=a)&&decide (a<=c),a.toNat,c)
 |none,some (.int _ b)=>some (decide (0<=b)&&decide (b<=c),0,b.toNat)
 |some (.int _ a),some (.int _ b)=>some (decide (0<=b)&&decide (b<=c)&&(decide (0<=a)&&decide (a<=b)),a.toNat,b.toNat)
 |_,_=>none
def jG(s:St):Option ASrc->Option V
 |none=>none
 |some x=>some (x.ev s)
def dH:List V->Bool
 | [.rb _]=>true
 | [.rw _ _]=>true
 | [.tup _]=>true
 |_=>false
def St.obj(s:St)(id:Nat):Option (List V):=match s.hp.getD id none with|some [.rb _]=>none|some [.rw _ _]=>none|some [.mp _ _]=>none|some [.tup _]=>none|o=>o
def ac7(k:EK)(x:Ty k)(o:Nat)(vs:List V):Option (Ty k):=dec k (((enc k x).take o++vs.map V.weak)++(enc k x).drop (o+vs.length))
def St.rowW(s:St)(id:Nat):Option ((k:EK)×List (Ty k)):=match s.hp.getD id none with|some [.rw k xs]=>some ⟨k,xs⟩|_=>none
def St.row(s:St)(id:Nat):Option (List UInt8):=match s.hp.getD id none with|some [.rb xs]=>some xs|_=>none
structure Hol where
 k:EK
 xs:List (Ty k)
 k2:EK
 id2:Nat
 n2:Nat
 i:Nat
 o:Nat
def St.rowH(s:St)(id:Nat):Option Hol:=match s.hp.getD id none with|some [.tup [.rw k xs,.sw c a b,.wp _ _ i o]]=>some ⟨k,xs,c,a,b,i,o⟩|_=>none
def St.mapO(s:St)(id:Nat):Option ((k:MK)×List (k.K×k.T)):=match s.hp.getD id none with|some [.mp k es]=>some ⟨k,es⟩|_=>none
def St.setObj(s:St)(id:Nat)(cs:List V):St:={s with hp:=s.hp.set id (some cs)}
def loaded(agg:Bool)(cs:List V):V:=if agg then .agg (cs.map disown) else cs.headD .undef
abbrev aG:=Nat->List V->List aK->Option (Bool×V×List aK)
def St.setO(s:St)(d:Option Nat)(v:V):St:=match d with|some d=>s.set d v|none=>s
def aBP(t:Bool)(a b:V):V:=
 match a,b with
 | .bool x,.bool y=>.bool (cond t x y)
 | .int k x,.int k' y=>if k=k' then .int k (cond t x y) else cond t (.int k x) (.int k' y)
 | .str x,.str y=>.str (cond t x y)
 |a,b=>cond t a b
theorem aJW(t:Bool)(a b:V):aBP t a b=cond t a b:=by
 unfold aBP;split;·cases t<;>rfl
 ·split;·rename_i h;subst h;cases t<;>rfl
  ·rfl
 ·cases t<;>rfl
 ·rfl
def step(Γ:aG)(o:IOp)(s:St):Option (Bool×St):=
 match o with
 | .mov d x=>some (true,(x.after s).set d (x.ev s))
 | .pick d c a b=>match c.ev s with| .bool t=>some (true,s.set d (aBP t (disown (a.ev s)) (disown (b.ev s))))|_=>none
 | .bin d o x y=>(aJV o (x.ev s) (y.ev s)).map λ(c,v)=>(c,s.set d v)
 | .un d o x=>(unV o (x.ev s)).map λv=>(true,s.set d v)
 | .cvi d k x=>match x.ev s with| .int _ n=>some (true,s.set d (.int k (k.wrap n)))|_=>none
 | .s2b d x=>match x.ev s with| .str l=>some (true,s.set d (.sl .u8 .own l))|_=>none
 | .b2s d x=>match x.ev s with| .sl .u8 _ l=>some (true,s.set d (.str l))|_=>none
 | .lens d x=>match x.ev s with| .str l=>some (true,s.set d (.int .i64 l.length))|_=>none
 | .lenl d x=>match x.ev s with| .sl _ _ l=>some (true,s.set d (.int .i64 l.length))|_=>none
 | .lnw d x=>match x.ev s with| .hd n=>some (true,s.set d (.int .i64 n))| .sw _ _ n=>some (true,s.set d (.int .i64 n))|_=>none
 | .apu d k x y=>match x.ev s,y.ev s with
   | .ul k' l,.sl j _ m=>if k'=k then if h:j=k' then some (decide ((l.length+m.length)*k'.bytes<=jV),(x.after s).set d (.ul k' (l++(h▸m)))) else none else none
   |_,_=>none
 | .blu d k=>some (true,s.set d (.ul k []))
 | .snil d x=>match x.ev s with| .sl _ _ xs=>some (decide (0<xs.length),s.set d (.bool false))|_=>none
 | .ixw d k x i=>match x.ev s,i.ev s with
   | .sw k' id n,.int _ i=>if k'=k then some (decide (0<=i)&&decide (i<n),s.set d (.wp id k' i.toNat 0)) else none
   |_,_=>none
 | .fdw d e x=>match x.ev s with| .wp id k i o=>some (true,s.set d (.wp id k i (o+e)))|_=>none
 | .ldw d n agg x=>match x.ev s with
   | .wp id k i o=>match s.rowW id with
     |some ⟨k',xs⟩=>if k'=k∧o+n<=k'.sz then some (decide (i<xs.length),s.set d (disown (loaded agg (((enc k' (xs.getD i (aI k'))).drop o).take n)))) else none
     |none=>none
   |_=>none
 | .stw d n x v=>match x.ev s with
   | .wp id k i o=>match s.rowW id with
     |some ⟨k',xs⟩=>if k'=k∧(o+n<=k'.sz∧((v.ev s).cells.length==n&&(v.ev s).cells.all V.one)=true) then
       match ac7 k' (xs.getD i (aI k')) o (v.ev s).cells with
       |some G=>some (decide (i<xs.length),(s.setObj id [.rw k' (xs.set i G)]).setO d .undef)
       |none=>none
      else none
     |none=>none
   |_=>none
 | .idx d x i=>match x.ev s,i.ev s with
   | .str l,.int _ i=>some (decide (0<=i)&&decide (i<l.length),s.set d (.int .u8 (l.getD i.toNat 0).toNat))
   |_,_=>none
 | .ixa d k x i=>match x.ev s,i.ev s with
   | .sl k' _ l,.int _ i=>if k'=k then some (decide (0<=i)&&decide (i<l.length),s.set d (.ea (enc k' (l.getD i.toNat (aI k'))))) else none
   |_,_=>none
 | .subs d x A D=>match x.ev s with
   | .str l=>(afM l.length (jG s A) (jG s D)).map λ(c,a,b)=>(c,s.set d (.str ((l.take b).drop a)))
   |_=>none
 | .subl d k x A D=>match x.ev s with
   | .sl k' _ l=>if k'=k then (afM l.length (jG s A) (jG s D)).map λ(c,a,b)=>(c,s.set d (.sl k' (.may false) ((l.take b).drop a))) else none
   |_=>none
 | .bsl d k C u=>(aiR k (C.map (·.ev s))).map λl=>(true,s.set d (.sl k (cond u (.may true) .own) l))
 | .bld d zero C=>(lay zero (C.map λ(e,n,x)=>(e,n,x.ev s))).map λcs=>(true,s.set d (.agg cs))
 | .fld d e n agg x=>match x.ev s with
   | .agg cs=>if e+n<=cs.length then some (true,s.set d (disown (loaded agg ((cs.drop e).take n)))) else none
   |_=>none
 | .new d zero=>some (true,{s.set d (.ptr s.hp.length 0) with hp:=s.hp++[some zero]})
 | .box d x=>match x.ev s with
   | .agg cs=>some (true,{s.set d (.ptr s.hp.length 0) with hp:=s.hp++[some cs]})
   |v=>if v.one then some (true,{s.set d (.ptr s.hp.length 0) with hp:=s.hp++[some [disown v]]}) else none
 | .newb d zero=>some (true,{s.set d (.ptr s.hp.length 0) with hp:=s.hp++[some zero]})
 | .fad d e x=>match x.ev s with
   | .ea cs=>some (true,s.set d (.ea (cs.drop e)))
   | .ptr id o=>some (true,s.set d (.ptr id (o+e)))
   |_=>none
 | .ld d n agg q x=>match x.ev s with
   | .ea cs=>if n<=cs.length then some (true,s.set d (disown (loaded agg (cs.take n)))) else none
   | .ptr id o=>match s.obj id with
     |some cs=>if o+n<=cs.length then
       (if q then (if noBn (cs.getD o .undef) then some (true,(s.setObj id (cs.set o (disown (cs.getD o .undef)))).set d (loaded agg ((cs.drop o).take n))) else none)
       else some (true,s.set d (disown (loaded agg ((cs.drop o).take n)))))
      else none
     |none=>none
   |_=>none
 | .st d n x v=>match x.ev s with
   | .ptr id o=>match s.obj id with
     |some cs=>if ((v.ev s).cells.length==n&&(v.ev s).cells.all V.one)&&(decide (o+n<=cs.length)&&(v.ev s).cells.all noBn) then
       some (true,((v.after s).setObj id (cs.take o++(v.ev s).cells++cs.drop (o+n))).setO d .undef) else none
     |none=>none
   |_=>none
 | .app d k x y=>match x.ev s,y.ev s with
   | .sl k' o l,.sl j _ m=>
     if k'=k then
      if h:j=k' then some (o.app m.length&&decide ((l.length+m.length)*k'.bytes<=jV),(x.after s).set d (.sl k' .own (l++(h▸m)))) else none
     else none
   |_,_=>none
 | .apps d x y=>match x.ev s,y.ev s with
   | .sl .u8 .own l,.str m=>some (decide (l.length+m.length<=jV),(x.after s).set d (.sl .u8 .own (l++m)))
   |_,_=>none
 | .ext d i x=>match x.ev s with
   | .tup vs=>if i<vs.length then some (true,s.set d (disown (vs.getD i .undef))) else none
   |_=>none
 | .nck d x=>match x.ev s with
   | .ptr id o=>some (true,s.setO d (.ptr id o))
   | .ea cs=>some (true,s.setO d (.ea cs))
   |_=>none
 | .call d f avs=>match Γ f (avs.map λx=>disown (x.ev s)) s.hp with
   |some (c,v,hp)=>some (c,{s with hp:=hp}.setO d v)
   |none=>none
 | .alr d n=>some (true,s.set d (.raw n))
 | .frz d r n v=>match s.get r with
   | .raw m=>if AI m n&&((v.ev s).cells.length==n&&(v.ev s).cells.all V.one) then some (true,(s.set r (.ea ((v.ev s).cells.map disown))).setO d .undef) else none
   |_=>none
 | .pub d r n v=>match s.get r with
   | .raw m=>if AI m n&&((v.ev s).cells.length==n&&(v.ev s).cells.all λc=>c.one&&noBn c) then
     some (true,({s.set r (.ptr s.hp.length 0) with hp:=s.hp++[some ((v.ev s).cells.map disown)]}:St).setO d .undef) else none
   |_=>none
 | .lde d n agg x=>match x.ev s with
   | .ea cs=>if n<=cs.length then some (true,s.set d (disown (loaded agg (cs.take n)))) else none
   |_=>none
 | .boxe d x=>match x.ev s with
   | .agg cs=>some (true,s.set d (.ea (cs.map disown)))
   |v=>if v.one then some (true,s.set d (.ea [disown v])) else none
 | .mkf d f ab2=>some (true,s.set d (.fn f (ab2.map λx=>disown (x.ev s))))
 | .dcall d f x p=>match x.ev s with
   | .fn F ab2=>match Γ f (p.map (λy=>disown (y.ev s))++ab2.map disown) s.hp with
     |some (c,v,hp)=>some (AI F f&&c,{s with hp:=hp}.setO d v)
     |none=>none
   |_=>none
 | .mkm d k=>some (true,{s.set d (.mr s.hp.length) with hp:=s.hp++[some [.mp k []]]})
 | .mget d k ok x y=>match x.ev s with
   | .nilm=>(k.dkey (y.ev s)).map λ_=>(true,s.set d (anU k ok none))
   | .mr id=>match s.mapO id with
     |some ⟨k',es⟩=>if k'=k then (k'.dkey (y.ev s)).map λkey=>(true,s.set d (anU k' ok (fB es key))) else none
     |none=>none
   |_=>none
 | .mput d k x y z=>match x.ev s with
   | .mr id=>match s.mapO id with
     |some ⟨k',es⟩=>if k'=k then
       match k'.dkey (y.ev s),k'.dval (z.ev s) with
       |some key,some v=>some (true,(s.setObj id [.mp k' (nB es key v)]).setO d .undef)
       |_,_=>none
      else none
     |none=>none
   |_=>none
 | .ixe d n x i=>match x.ev s,i.ev s with
   | .ea cs,.int _ i=>some (decide (0<=i)&&decide (i<n),s.set d (.ea (cs.drop i.toNat)))
   | .wp id k 0 0,.int _ i=>if k.sz=1 then some (decide (0<=i)&&decide (i<n),s.set d (.wp id k i.toNat 0)) else none
   |_,_=>none
 | .arw d k n=>some (true,{s.set d (.wp s.hp.length (.num k) 0 0) with hp:=s.hp++[some [.rw (.num k) (Cy n 0)],none]})
 | .apo d k x y=>match x.ev s,y.ev s with
   | .ul k' l,.sl j _ m=>if k'=k then if h:j=k' then if d<s.env.length then some (decide ((l.length+m.length)*k'.bytes<=jV)&&decide (0<(l++(h▸m)).length),{(x.after s).set d (.sw k' s.hp.length (l++(h▸m)).length) with hp:=s.hp++[some [.rw k' (l++(h▸m))],none]}) else none else none else none
   |_,_=>none
 | .stn d x v=>match x.ev s,v.ev s with
   | .wp id k i o,.sw w B H=>match s.rowW id with
     |some ⟨k',xs⟩=>if k'=k∧o<k'.sz then some (decide (i<xs.length),(s.setObj id [.tup [.rw k' xs,.sw w B H,.wp id k' i o]]).setO d .undef) else none
     |none=>none
   |_,_=>none
 | .ldn d x=>match x.ev s with
   | .wp id k i o=>match s.rowH id with
     |some h=>if h.k=k∧(h.o=o∧h.o<h.k.sz) then some (AI i h.i&&decide (h.i<h.xs.length),s.set d (.sw h.k2 h.id2 h.n2)) else none
     |none=>none
   |_=>none
 | .stu d x m=>match s.get m with
   | .ul w ys=>match x.ev s with
     | .wp id k i o=>match s.rowW id with
       |some ⟨k',xs⟩=>if k'=k∧o<k'.sz then some (decide (i<xs.length)&&decide (0<ys.length),({s.set m (.sw w s.hp.length ys.length) with hp:=(s.hp++[some [V.rw w ys],none]).set id (some [.tup [.rw k' xs,.sw w s.hp.length ys.length,.wp id k' i o]])}:St).setO d .undef) else none
       |none=>none
     |_=>none
   |_=>none
 | .mx d E x y=>match x.ev s,y.ev s with
   | .int k a,.int k' b=>if k=k' then some (true,s.set d (.int k (if E then (if b<a then b else a) else (if a<b then b else a)))) else none
   |_,_=>none
def IOp.dst:IOp->Option Nat
 | .mov d _| .pick d .. | .bin d .. | .un d .. | .cvi d .. | .s2b d _| .b2s d _| .lens d _| .lenl d _| .idx d .. | .ixa d .. | .subs d .. | .subl d .. | .bsl d ..
 | .bld d .. | .fld d .. | .new d _| .box d _| .newb d _| .fad d .. | .ld d .. | .app d .. | .apps d .. | .ext d .. | .mx d .. | .boxe d .. | .mkf d .. | .alr d _| .lde d .. | .apu d .. | .blu d _| .snil d _| .lnw d _| .ixw d .. | .fdw d .. | .ldw d .. | .mkm d _| .mget d .. | .ixe d .. | .arw d .. | .apo d .. | .ldn d _=>some d
 | .st d .. | .nck d _| .call d .. | .dcall d .. | .frz d .. | .pub d .. | .stw d .. | .mput d .. | .stn d .. | .stu d .. =>d
def ixl{α:Type}(n:Int)(l:List α):Bool:=decide (0<=n)&&decide (n<↑(Aa l))
def chk{R:Type}(c:Bool)(x:Option R):Option R:=match c with|true=>x|false=>none
def V.cellsA:V->List V
 | .agg cs=>cs
 |v=>[v]
def V.id1:V->List Nat
 | .ptr id _=>[id]
 | .sw _ id _=>[id]
 | .sx _ id _ _=>[id]
 |_=>[]
def ub(vs:List V):List Nat:=vs.flatMap λv=>v.cellsA.flatMap V.id1
def dS:List V->List Nat
 | []=>[]
 | .ptr i 0::vs=>i::dS vs
 |_::vs=>dS vs
def aqR(l:List Nat):List Nat:=l.flatMap λi=>BN (i+1)
def IOp.foot(o:IOp)(s:St):Option (List Nat×List Nat):=
 match o with
 | .ld _ _ _ a x=>match x.ev s with
   | .ptr id _=>some (cond a ([],[id]) ([id],[]))
   | .ea _=>some ([],[])
   |_=>none
 | .st _ _ x _=>match x.ev s with| .ptr id _=>some ([],[id])|_=>none
 | .call _ _ avs=>some (aqR (ub (avs.map λx=>disown (x.ev s))),aqR (dS (avs.map λx=>disown (x.ev s))))
 | .ldw _ _ _ x=>match x.ev s with| .wp id _ _ _=>some ([id],[])|_=>none
 | .stw _ _ x _=>match x.ev s with| .wp id _ _ _=>some ([],[id])|_=>none
 | .stn _ x _=>match x.ev s with| .wp id _ _ _=>some ([],[id])|_=>none
 |_=>none
def IOp.within(o:IOp)(l:List Nat×List Nat)(s:St):Bool:=match o.foot s with
 |some (r,w)=>r.all (λi=>l.1.any (AI i)||l.2.any (AI i))&&w.all (λi=>l.2.any (AI i))
 |none=>false
def stepO(Γ:aG)(ob:Option (List Nat×List Nat))(o:IOp)(s:St):Option (Bool×St):=match ob with
 |none=>step Γ o s
 |some l=>cond (o.within l s) (step Γ o s) none
theorem nU{Γ:aG}{ob:Option (List Nat×List Nat)}{o:IOp}{s:St}{p:Bool×St}(h:stepO Γ ob o s=some p):step Γ o s=some p:=by
 unfold stepO at h;split at h;·exact h
 ·rename_i l;cases a:o.within l s with
  |true=>rw[a] at h;exact h
  |false=>rw[a] at h;simp at h
def runOps{R:Type}(Γ:aG):List GOp->(St->Option R)->St->Option R
 | [],K,s=>K s
 |⟨none,o,ob⟩::r,K,s=>match stepO Γ ob o s with
  |some (c,s')=>chk c (runOps Γ r K s')
  |none=>none
 |⟨some (g,w),o,ob⟩::r,K,s=>match s.get g with
  | .bool b=>cond b
    (match w with
     |true=>match stepO Γ ob o (s.set g (.bool true)) with
      |some (c,s')=>chk c (runOps Γ r K s')
      |none=>none
     |false=>runOps Γ r K ((s.set g (.bool true)).setO o.dst (.tup [])))
    (match w with
     |false=>match stepO Γ ob o (s.set g (.bool false)) with
      |some (c,s')=>chk c (runOps Γ r K s')
      |none=>none
     |true=>runOps Γ r K ((s.set g (.bool false)).setO o.dst (.tup [])))
  | .tup []=>runOps Γ r K (s.setO o.dst (.tup []))
  |_=>none
inductive Occ where
 |slot (n:Nat)
 |cell (id j:Nat)
 |res
 deriving DecidableEq
inductive gm where
 |opn (o:Occ)
 |cls (o:Occ)
 |fz (o:Occ)
 |hol (n:Nat)
def St.at?(s:St):Occ->V
 | .slot n=>s.get n
 | .cell id j=>match s.obj id with|some cs=>cs.getD j .undef|none=>.undef
 | .res=>.undef
def St.put?(s:St)(o:Occ)(v:V):St:=match o with
 | .slot n=>s.set n v
 | .cell id j=>match s.obj id with|some cs=>s.setObj id (cs.set j v)|none=>s
 | .res=>s
def gm.step(a:gm)(s:St):Option (Bool×St):=match a with
 | .opn o=>match s.at? o with
   | .ul k xs=>some (decide (0<xs.length),{s.put? o (.sw k s.hp.length xs.length) with hp:=(s.put? o (.sw k s.hp.length xs.length)).hp++[some [.rw k xs],none]})
   |_=>some (true,s)
 | .cls o=>match s.at? o with
   | .sw k id n=>match s.rowW id with
     |some ⟨k',xs⟩=>if k'=k then some (AI n xs.length,{s.put? o (.ul k' xs) with hp:=(s.put? o (.ul k' xs)).hp.set id none}) else none
     |none=>none
   |_=>some (true,s)
 | .fz o=>match s.at? o with
   | .ul k xs=>some (true,s.put? o (.sl k .own xs))
   |_=>some (true,s)
 | .hol n=>match s.get n with
   | .sw _ id _=>match s.rowH id with
     |some h=>match s.rowW h.id2 with
      |some ⟨b,ys⟩=>if b=h.k2 then
        match ac7 h.k (h.xs.getD h.i (aI h.k)) h.o [.sl b (.may false) ys] with
        |some c=>some (AI h.n2 ys.length&&decide (h.i<h.xs.length),{s with hp:=(s.hp.set id (some [.rw h.k (h.xs.set h.i c)])).set h.id2 none})
        |none=>none
       else none
      |none=>none
     |none=>none
   |_=>none
def aGT(s:St)(o:Occ):Bool:=match s.at? o with| .ul _ xs=>xs.isEmpty|_=>true
inductive IR where
 |skip
 |bad
 |reg (ops:List GOp) (pre:List (List Nat))
 |seq (a b:IR)
 |cond (c:ASrc) (a b:IR)
 |block (id:Nat) (a:IR)
 |loop (live:List Nat) (n:Nat) (a:IR)
 |cut (live:List Nat) (n:Nat) (a:IR)
 |gh (g:gm) (a:IR)
 |ope (o:Occ) (a:IR)
 |ghp (g:gm) (a:IR)
 |exit (id:Nat)
 |ret
inductive Ex where
 |normal
 |exit (id:Nat)
 |ret
mutual
def V.lower(n:Nat):V->Bool
 | .ptr id _=>C6 id n
 | .so id _=>C6 id n
 | .rw _ _=>false
 | .sw _ id _=>C6 (id+1) n
 | .sx _ id _ _=>C6 (id+1) n
 | .wp id _ _ _=>C6 (id+1) n
 | .mr id=>C6 id n
 | .agg cs=>V.lowers n cs
 | .tup cs=>V.lowers n cs
 | .ea cs=>V.lowers n cs
 | .fn _ cs=>V.lowers n cs
 |_=>true
def V.lowers(n:Nat):List V->Bool
 | []=>true
 |v::r=>V.lower n v&&V.lowers n r
end
def uc(a:List Nat)(n:Nat):Nat->List V->List V
 |_,[]=>[]
 |i,v::r=>(if a.elem i&&v.lower n then v else .undef)::uc a n (i+1) r
def ud(n:Nat):List aK->Bool
 | []=>true
 |none::r=>ud n r
 |some cs::r=>V.lowers n cs&&ud n r
def St.keep(s:St)(a:List Nat)(n:Nat):St:={env:=uc a n 0 s.env,hp:=cond (ud n (s.hp.take n)) (s.hp.take n) s.hp}
def aZ{R:Type}:Nat->((St->Option R)->St->Option R)->St->Option R
 |0,_,_=>none
 |n+1,F,s=>F (aZ n F) s
def kseq{R:Type}(b:(Ex->St->Option R)->St->Option R)(K:Ex->St->Option R):Ex->St->Option R
 | .normal,s=>b K s
 |e,s=>K e s
def aQ{R:Type}(id:Nat)(K:Ex->St->Option R):Ex->St->Option R
 | .exit j,s=>cond (AI j id) (K .normal s) (K (.exit j) s)
 |e,s=>K e s
def bo{R:Type}(a:St->Option R)(b:List Nat)(n:Nat)(K:Ex->St->Option R):Ex->St->Option R
 | .normal,s=>a (s.keep b n)
 |e,s=>K e s
def aqS{R:Type}(g:gm)(K:Ex->St->Option R):Ex->St->Option R
 | .normal,s=>match g.step s with
   |some (c,s')=>chk c (K .normal s')
   |none=>none
 |e,s=>K e s
def run{R:Type}(Γ:aG)(n:Nat):IR->(Ex->St->Option R)->St->Option R
 | .skip,K,s=>K .normal s
 | .bad,_,_=>none
 | .reg f _,K,s=>runOps Γ f (K .normal) s
 | .seq a b,K,s=>run Γ n a (kseq (run Γ n b) K) s
 | .cond c a b,K,s=>match c.ev s with
   | .bool t=>cond t (run Γ n a K (c.fix s true)) (run Γ n b K (c.fix s false))
   |_=>none
 | .block id a,K,s=>run Γ n a (aQ id K) s
 | .loop d m a,K,s=>aZ n (λe s=>run Γ n a (bo e d m K) s) (s.keep d m)
 | .cut d m a,K,s=>run Γ n a K (s.keep d m)
 | .gh g a,K,s=>match g.step s with
   |some (c,s')=>chk c (run Γ n a K s')
   |none=>none
 | .ope o a,K,s=>cond (aGT s o) (match (gm.fz o).step s with
   |some (c,s')=>chk c (run Γ n a K s')
   |none=>none) (match (gm.opn o).step s with
   |some (c,s')=>chk c (run Γ n a K s')
   |none=>none)
 | .ghp g a,K,s=>run Γ n a (aqS g K) s
 | .exit id,K,s=>K (.exit id) s
 | .ret,K,s=>K .ret s
def aO{α R:Type}:Nat->((α->Option R)->α->Option R)->α->Option R
 |0,_,_=>none
 |n+1,B,x=>B (aO n B) x
theorem aU{α R:Type}(mk:α->St)(F:(St->Option R)->St->Option R)(B:(α->Option R)->α->Option R)
  (h:∀a x,F a (mk x)=B (λy=>a (mk y)) x):∀m x,aZ m F (mk x)=aO m B x
 |0,_=>rfl
 |m+1,x=>by
  show F (aZ m F) (mk x)=B (aO m B) x;rw[h]
  congr 1
  funext y;exact aU mk F B h m y
inductive RV where
 |t (n:Nat)
 |cell (n size:Nat) (agg:Bool)
def RV.ev(s:St):RV->Option V
 | .t n=>some (s.get n)
 | .cell n a agg=>match s.get n with
   | .ptr id o=>match s.obj id with
     |some cs=>if o+a<=cs.length then some (disown (loaded agg ((cs.drop o).take a))) else none
     |none=>none
   | .ea cs=>if a<=cs.length then some (disown (loaded agg (cs.take a))) else none
   |_=>none
def rvs(s:St):List RV->Option (List V)
 | []=>some []
 |r::l=>match r.ev s,rvs s l with|some v,some vs=>some (v::vs)|_,_=>none
def resultOf(s:St)(a:List RV):Option V:=
 match rvs s a with
 |some [v]=>some v
 |some vs=>some (.tup (vs.map disown))
 |none=>none
def fin(a:List RV):Ex->St->Option (V×List aK)
 | .normal,s| .ret,s=>(resultOf s a).map λv=>(v,s.hp)
 |_,_=>none
def start(b:Nat)(a:List V)(hp:List aK):St:={env:=a++Cy (b-a.length) .undef,hp}
def callF(Γ:aG)(n a:Nat)(d:List RV)(c:IR)(b:List V)(hp:List aK):Option (V×List aK):=
 run Γ n c (fin d) (start a b hp)
structure Gh where
 I:Nat->Nat->Prop
 ρ:Nat->Nat
 O:Nat->Option Occ
 β:Nat
def d7(c:V)(cv:Value):Prop:=
 match c,cv with
 | .sl _ .own _,.slice (some _) _ _=>False
 | .bn _ _,_=>False
 | .raw _,_=>False
 | .ul _ xs,cv=>xs.length=0∧cv=.slice none 0 0
 |_,_=>True
inductive VRel(I:Nat->Nat->Prop)(ρ:Nat->Nat)(N:Nat)(w:World):V->Value->Prop where
 |undef (cv:Value):VRel I ρ N w .undef cv
 |bool (b:Bool):VRel I ρ N w (.bool b) (.bool b)
 |int (k:IntKind) (n:Int) (h:k.min<=n∧n<=k.max):VRel I ρ N w (.int k n) (.int k n)
 |str (l:List UInt8) (s:ByteArray) (hl:s.data.toList=l) (h:s.size<=cj):VRel I ρ N w (.str l) (.string s)
 |sln (k:EK) (o:Fl):VRel I ρ N w (.sl k o []) (.slice none 0 0)
 |sle (k:EK) (o:Fl) (ad:Addr) (ho:o≠.own):VRel I ρ N w (.sl k o []) (.slice (some ad) 0 0)
 |sl (k:EK) (o:Fl) (xs:List (Ty k)) (b off len cap:Nat) (hl:xs.length=len) (hc:xs.length<=cap) (hm:cap<=cj) (hf:o=.may true->len=cap) (f:Nat->Nat->Value)
   (hI:∀i x j,xs[i]? =some x->j<(enc k x).length->I b (off+i*k.sz+j))
   (hw:∀i x j,xs[i]? =some x->j<(enc k x).length->w.cell? ⟨b,off+i*k.sz+j,none⟩=some (f i j))
   (hv:∀i x j v,xs[i]? =some x->(enc k x)[j]? =some v->VRel I ρ N w v (f i j)):
   VRel I ρ N w (.sl k o xs) (.slice (some ⟨b,off,none⟩) len cap)
 |agg (cs:List V) (vs:Array Value) (hl:cs.length=vs.size) (h1:∀c∈cs,c.one=true) (hb:∀(i:Nat) c cv,cs[i]? =some c->vs[i]? =some cv->d7 c cv)
   (hv:∀(i:Nat) c cv,cs[i]? =some c->vs[i]? =some cv->VRel I ρ N w c cv):VRel I ρ N w (.agg cs) (.agg vs)
 |tup (cs:List V) (vs:Array Value) (hl:cs.length=vs.size)
   (hv:∀(i:Nat) c cv,cs[i]? =some c->vs[i]? =some cv->VRel I ρ N w c cv):VRel I ρ N w (.tup cs) (.tuple vs)
 |ea (cs:List V) (b off:Nat) (f:Nat->Value) (h1:∀c∈cs,c.one=true)
   (hI:∀j,j<cs.length->I b (off+j))
   (hw:∀j,j<cs.length->w.cell? ⟨b,off+j,none⟩=some (f j))
   (hv:∀(j:Nat) c,cs[j]? =some c->VRel I ρ N w c (f j)):VRel I ρ N w (.ea cs) (.pointer (some ⟨b,off,none⟩))
 |ptr (id off:Nat) (h:id<N):VRel I ρ N w (.ptr id off) (.pointer (some ⟨ρ id,off,none⟩))
 |nilp:VRel I ρ N w .nilp (.pointer none)
 |fn (f:Nat) (cs:List V) (vs:Array Value) (hl:cs.length=vs.size)
   (hv:∀(i:Nat) c cv,cs[i]? =some c->vs[i]? =some cv->VRel I ρ N w c cv):VRel I ρ N w (.fn f cs) (.func (.func f) #[] vs)
 |nilif:VRel I ρ N w .nilif .nilIface
 |bn (E n:Nat) (p:Option Addr):VRel I ρ N w (.bn E n) (.pointer p)
 |junk (cv:Value) (h:cv.oneCell'=true):VRel I ρ N w .junk cv
 |so (id n cap:Nat) (h:id<N) (hc:n<=cap) (hm:cap<=cj):VRel I ρ N w (.so id n) (.slice (some ⟨ρ id,0,none⟩) n cap)
 |raw (n b:Nat):VRel I ρ N w (.raw n) (.pointer (some ⟨b,0,none⟩))
 |ul (k:EK) (xs:List (Ty k)) (ad:Option Addr) (cap:Nat) (hm:xs.length<=cj):VRel I ρ N w (.ul k xs) (.slice ad xs.length cap)
 |hd (n:Nat) (ad:Option Addr) (cap:Nat) (hm:n<=cj):VRel I ρ N w (.hd n) (.slice ad n cap)
 |sw (k:EK) (id n:Nat) (h:id+1<N) (hc:n<=ρ (id+1)) (hm:ρ (id+1)<=cj):VRel I ρ N w (.sw k id n) (.slice (some ⟨ρ id,0,none⟩) n (ρ (id+1)))
 |sx (k:EK) (id off n ad cap:Nat) (h:id+1<N) (hc:off+n<=ρ (id+1)) (hm:ρ (id+1)<=cj) (hl:n<=cap) (ha:0<n->ad=off*k.sz):VRel I ρ N w (.sx k id off n) (.slice (some ⟨ρ id,ad,none⟩) n cap)
 |wp (id:Nat) (k:EK) (i o:Nat) (h:id+1<N):VRel I ρ N w (.wp id k i o) (.pointer (some ⟨ρ id,i*k.sz+o,none⟩))
 |mr (id:Nat) (h:id<N):VRel I ρ N w (.mr id) (.map (some (ρ id)))
 |nilm:VRel I ρ N w .nilm (.map none)
structure Up(I:Nat->Nat->Prop)(ρ:Nat->Nat)(N:Nat)(w:World)(I':Nat->Nat->Prop)(ρ':Nat->Nat)(N':Nat)(w':World):Prop where
 mono:∀b j,I b j->I' b j
 cell:∀b j,I b j->w'.cell? ⟨b,j,none⟩=w.cell? ⟨b,j,none⟩
 rho:∀id,id<N->ρ' id=ρ id
 num:N<=N'
theorem Up.refl(I:Nat->Nat->Prop)(ρ:Nat->Nat)(N:Nat)(w:World):Up I ρ N w I ρ N w:=⟨λ_ _ h=>h,λ_ _ _=>rfl,λ_ _=>rfl,Ap _⟩
theorem Up.trans{I I' f:Nat->Nat->Prop}{ρ ρ' a:Nat->Nat}{N N' c:Nat}{w w' d:World}(h:Up I ρ N w I' ρ' N' w')(k:Up I' ρ' N' w' f a c d):
  Up I ρ N w f a c d:=
 ⟨λb j i=>k.mono b j (h.mono b j i),λb j i=>(k.cell b j (h.mono b j i)).trans (h.cell b j i),
  λid e=>(k.rho id (AJ e h.num)).trans (h.rho id e),A7 h.num k.num⟩
theorem VRel.up{I I':Nat->Nat->Prop}{ρ ρ':Nat->Nat}{N N':Nat}{w w':World}(u:Up I ρ N w I' ρ' N' w'){v:V}{cv:Value}(h:VRel I ρ N w v cv):
  VRel I' ρ' N' w' v cv:=by
 induction h with
 |undef cv=>exact .undef cv
 |bool b=>exact .bool b
 |int k n h=>exact .int k n h
 |str l s c h=>exact .str l s c h
 |sln k o=>exact .sln k o
 |sle k o r H=>exact .sle k o r H
 |sl k o xs b a D cap c t d F f y C A m=>exact .sl k o xs b a D cap c t d F f (λi x j q z=>u.mono _ _ (y i x j q z)) (λi x j q z=>(u.cell _ _ (y i x j q z)).trans (C i x j q z)) m
 |agg cs vs c q G A m=>exact .agg cs vs c q G m
 |tup cs vs c A m=>exact .tup cs vs c m
 |ea cs b a f q y C A m=>exact .ea cs b a f q (λj h=>u.mono _ _ (y j h)) (λj h=>(u.cell _ _ (y j h)).trans (C j h)) m
 |ptr id a h=>rw[<-u.rho id h];exact .ptr id a (AJ h u.num)
 |nilp=>exact .nilp
 |fn f cs vs c A m=>exact .fn f cs vs c m
 |nilif=>exact .nilif
 |bn E n p=>exact .bn E n p
 |junk cv h=>exact .junk cv h
 |so id n cap h t d=>rw[<-u.rho id h];exact .so id n cap (AJ h u.num) t d
 |raw n b=>exact .raw n b
 |ul k xs r cap d=>exact .ul k xs r cap d
 |hd n r cap d=>exact .hd n r cap d
 |sw k id n h t d=>have e:=u.rho (id+1) h;have B:id+1<N':=AJ h u.num;rw[<-u.rho id (by omega),<-e];exact .sw k id n B (by rw[e];exact t) (by rw[e];exact d)
 |sx k id a n r cap h t d c J=>have e:=u.rho (id+1) h;have B:id+1<N':=AJ h u.num;rw[<-u.rho id (by omega)];exact .sx k id a n r cap B (by rw[e];exact t) (by rw[e];exact d) c J
 |wp id k i o h=>rw[<-u.rho id (by omega)];exact .wp id k i o (AJ h u.num)
 |mr id h=>rw[<-u.rho id h];exact .mr id (AJ h u.num)
 |nilm=>exact .nilm
section
variable{I:Nat->Nat->Prop}{ρ:Nat->Nat}{N:Nat}{w:World}
theorem VRel.own{k:EK}{o o':Fl}{xs:List (Ty k)}{cv:Value}(h:VRel I ρ N w (.sl k o xs) cv)(e:o'=.may true->o=.may true)(t:o'≠.own):VRel I ρ N w (.sl k o' xs) cv:=by
 cases h with
 |sln=>exact .sln _ _
 |sle _ _ m _=>exact .sle _ _ m t
 |sl _ _ _ b c a cap r i p d f q l j=>exact .sl k o' xs b c a cap r i p (λh=>d (e h)) f q l j
theorem VRel.disown{v:V}{cv:Value}(h:VRel I ρ N w v cv):VRel I ρ N w (disown v) cv:=by cases v<;>simp only[AM.disown]<;>first|exact h|exact h.own (by rename_i o _;cases o<;>simp[Fl.dis]) (by rename_i o _;cases o<;>simp[Fl.dis])|(cases h;exact .junk _ rfl)|(cases h;rename_i a;exact .hd _ _ _ a)|exact .undef _
theorem ako(v:V)(cv:Value):d7 (AM.disown v) cv:=by
 cases v with
 |sl k o xs=>cases o<;>simp[AM.disown,d7,Fl.dis]
 |_=>simp[AM.disown,d7]
theorem nV(v:V):(disown v).one=v.one:=by cases v<;>rfl
theorem VRel.oneCell{v:V}{cv:Value}(h:VRel I ρ N w v cv)(a:v.one=true):cv.oneCell'=true:=by cases h<;>first|rfl|assumption|simp[V.one] at a
theorem ab1(k:EK)(x:Ty k):∀c∈enc k x,c.one=true:=by cases k<;>simp[enc,V.one]
theorem cQ(k:EK)(x:Ty k):(enc k x).length=k.sz:=by cases k<;>rfl
theorem VRel.weak{v:V}{cv:Value}(h:VRel I ρ N w v cv):VRel I ρ N w v.weak cv:=by cases v<;>simp only[V.weak]<;>first|exact h.own (by simp) (by simp)|exact h.disown
theorem VRel.full{k:EK}{xs:List (Ty k)}{a:Addr}{c cap:Nat}(h:VRel I ρ N w (.sl k (.may true) xs) (.slice (some a) c cap)):c=cap:=by
 cases h with
 |sle=>rfl
 |sl _ _ _ b e _ _ q i m d f p l j=>exact d rfl
theorem aBV(k:EK)(x:Ty k):(enc k x).map V.weak=enc k x:=by cases k<;>rfl
def V.inRange:V->Prop
 | .int k n=>k.min<=n∧n<=k.max
 |_=>True
theorem VRel.inRange{v:V}{cv:Value}(h:VRel I ρ N w v cv):v.inRange:=by cases h<;>simp only[V.inRange]<;>assumption
theorem awX{k:EK}{cs:List V}{x:Ty k}(h:dec k cs=some x)(a:∀c∈cs,c.inRange):enc k x=cs.map V.weak:=by
 unfold dec at h
 split at h<;>first
  |(cases AF h;rfl)
  |(cases AF h;simp[enc,V.weak,AM.disown];done)
  |(
    cases AF h;have:=a _ (Ay.2 rfl);simp only[V.inRange,BI,Bo,AN,A6] at this;simp[enc,V.weak,AM.disown] at this ⊢;omega)
  |exact absurd h (by simp)
end
def V.flat1:V->Bool
 | .bool _| .int _ _| .str _| .sl _ _ _| .nilp| .nilif| .fn _ []=>true
 |_=>false
section
variable{I:Nat->Nat->Prop}{ρ ρ':Nat->Nat}{N N':Nat}{w:World}
theorem akp(k:EK)(x:Ty k):∀c∈enc k x,c.flat1=true:=by cases k<;>simp[enc,V.flat1]
theorem VRel.flat1{v:V}{cv:Value}(h:VRel I ρ N w v cv):v.flat1=true->VRel I ρ' N' w v cv:=by
 induction h with
 |undef cv=>intro a;simp[V.flat1] at a
 |bool b=>intro _;exact .bool b
 |int k n h=>intro _;exact .int k n h
 |str l s d h=>intro _;exact .str l s d h
 |sln k o=>intro _;exact .sln k o
 |sle k o B r=>intro _;exact .sle k o B r
 |sl k o xs b m e cap d y C a f t A z q=>intro _;exact .sl k o xs b m e cap d y C a f t A (λi x j v u p=>q i x j v u p (akp k x v (Ar p)))
 |agg=>intro a;simp[V.flat1] at a
 |tup=>intro a;simp[V.flat1] at a
 |ea=>intro a;simp[V.flat1] at a
 |ptr=>intro a;simp[V.flat1] at a
 |nilp=>intro _;exact .nilp
 |fn f cs vs d z q=>
  intro a;cases cs with
  |nil=>exact .fn f [] vs d (by simp)
  |cons c cs=>simp[V.flat1] at a
 |nilif=>intro _;exact .nilif
 |bn=>intro a;simp[V.flat1] at a
 |junk=>intro a;simp[V.flat1] at a
 |so=>intro a;simp[V.flat1] at a
 |raw=>intro a;simp[V.flat1] at a
 |ul=>intro a;simp[V.flat1] at a
 |hd=>intro a;simp[V.flat1] at a
 |sw=>intro a;simp[V.flat1] at a
 |sx=>intro a;simp[V.flat1] at a
 |wp=>intro a;simp[V.flat1] at a
 |mr=>intro a;simp[V.flat1] at a
 |nilm=>intro a;simp[V.flat1] at a
end
def aij(a:Nat×Nat)(n:Nat):Prop:=∀j,j<n->¬(a.1<=j∧j<a.2)
theorem aGU(n:Nat):aij (0,0) n:=by intro j _;simp
def anV(g:Gh)(w:World)(c:Occ)(k:EK)(xs:List (Ty k))(cv:Value):Prop:=
 (xs=[]∧cv=.slice none 0 0)∨
 ∃b cap a e d,aij d a.size∧cv=.slice (some ⟨b,0,none⟩) xs.length cap∧xs.length<=cap∧cap<=cj∧g.O b=some c∧w.heap[b]? =some (.cells a e d)∧cap*k.sz<=a.size∧(k=.u8->e=g.β)∧
  (∀j,¬g.I b j)∧∀(i:Nat) x (j:Nat) v u,xs[i]? =some x->(enc k x)[j]? =some v->a[i*k.sz+j]? =some u->VRel g.I (λ_=>0) 0 w v u
def aP(g:Gh)(w:World)(c:Occ)(v:V)(cv:Value):Prop:=
 match v,cv with
 | .sl k .own _,.slice (some a) d cap=>
   g.O a.block=some c∧(∃b e f,w.heap[a.block]? =some (.cells b e f)∧a.off+cap*k.sz<=b.size∧(k=.u8->e=g.β))∧
    ∀j,a.off+d*k.sz<=j->j<a.off+cap*k.sz->¬g.I a.block j∧w.frozen? ⟨a.block,j,none⟩=false
 | .raw n,.pointer (some a)=>g.O a.block=some c∧(∃b e,w.heap[a.block]? =some (.cells b e (0,0))∧b.size=n)∧∀j,¬g.I a.block j
 | .ul k xs,cv=>anV g w c k xs cv
 |_,_=>True
theorem anV.keep{g c:Gh}{w w':World}{a:Occ}{k:EK}{xs:List (Ty k)}{cv:Value}(h:anV g w a k xs cv)(d:c.β=g.β)
  (p:∀b j,g.I b j->c.I b j∧w'.cell? ⟨b,j,none⟩=w.cell? ⟨b,j,none⟩)
  (f:∀b,g.O b=some a->c.O b=some a∧w'.heap[b]? =w.heap[b]?∧∀j,c.I b j->g.I b j):anV c w' a k xs cv:=by
 rcases h with h|⟨b,cap,m,e,L,t,q,r,C,Q,y,z,P,A,H⟩
 ·exact .inl h
 ·obtain⟨B,D,F⟩:=f b Q;refine .inr ⟨b,cap,m,e,L,t,q,r,C,B,D.trans y,z,λf=>(P f).trans d.symm,λj G=>A j (F j G),λi x j v u E J M=>?_⟩;exact(H i x j v u E J M).up ⟨λb j l=>(p b j l).1,λb j l=>(p b j l).2,λ_ _=>rfl,Ap _⟩
theorem dg{g f:Gh}{w w':World}{a:Occ}{v:V}{cv:Value}(h:aP g w a v cv)
  (d:f.β=g.β) (C:∀b j,g.I b j->f.I b j∧w'.cell? ⟨b,j,none⟩=w.cell? ⟨b,j,none⟩)
  (i:∀b,g.O b=some a->f.O b=some a∧w'.heap[b]? =w.heap[b]?∧∀j,f.I b j->g.I b j):aP f w' a v cv:=by
 unfold aP at h ⊢;split;·rename_i k xs G E cap;obtain⟨m,⟨c,e,D,p,r,B⟩,z⟩:=h;obtain⟨q,l,y⟩:=i _ m;refine⟨q,⟨c,e,D,l.trans p,r,λi=>by rw[d];exact B i⟩,λj t u=>?_⟩;obtain⟨A,F⟩:=z j t u;refine⟨λx=>A (y j x),?_⟩;simpa [B2,l] using F
 ·obtain⟨m,⟨c,e,p,r⟩,z⟩:=h;obtain⟨q,l,y⟩:=i _ m;exact⟨q,⟨c,e,l.trans p,r⟩,λj x=>z j (y j x)⟩
 ·exact anV.keep h d C i
 ·trivial
theorem aP.disown(g:Gh)(w:World)(a:Occ)(v:V)(cv:Value):aP g w a (AM.disown v) cv:=by
 cases v with
 |sl k o xs=>cases o<;>simp[AM.disown,aP,Fl.dis]
 |_=>simp only[AM.disown,aP]
def cellsOf:List V->List V
 | [.rb xs]=>xs.map λb=>.int .u8 b.toNat
 | [.rw k xs]=>xs.flatMap (enc k)
 | [.tup [.rw k xs,.sw d a c,.wp _ _ i o]]=>(xs.flatMap (enc k)).set (i*k.sz+o) (.sw d a c)
 |cs=>cs
theorem jW{cs:List V}(h:dH cs=false):cellsOf cs=cs:=by
 unfold cellsOf;split;·simp[dH] at h
 ·simp[dH] at h
 ·simp[dH] at h
 ·rfl
theorem aId{vs:List V}{j:Nat}{c:V}(b:(cellsOf [.tup vs])[j]? =some c)(l:c.one=true):(∃k x,c∈enc k x)∨∃h a f,vs.any (λv=>match v with| .sw k id n=>decide (k=h∧id=a∧n=f)|_=>false)=true∧c=.sw h a f:=by
 unfold cellsOf at b;split at b;·rename_i e;cases e
 ·rename_i e;cases e
 ·rename_i k xs h a f _ _ i o e;cases e;rw[Ax] at b;split at b
  ·split at b;·obtain rfl:=AF b;exact .inr ⟨h,a,f,by simp,rfl⟩
   ·simp at b
  ·have d:=Ar b;simp only[AS] at d;obtain⟨y,_,d⟩:=d;exact .inl ⟨k,y,d⟩
 ·have d:=Ar b;simp only[Ay] at d;subst d;simp[V.one] at l
def akq:List V->Option ((k:EK)×List (Ty k))
 | [.rw k xs]=>some ⟨k,xs⟩
 | [.tup [.rw k xs,.sw _ _ _,.wp _ _ _ _]]=>some ⟨k,xs⟩
 |_=>none
theorem sM{cs:List V}(h:dH cs=false):akq cs=none:=by
 unfold akq;split;·simp[dH] at h
 ·simp[dH] at h
 ·rfl
structure tj(g:Gh)(N:Nat)(w:World)(id:Nat)(cs:List V)(arr:Array Value)(e:TypeId)(fz:Nat×Nat):Prop where
 len:(cellsOf cs).length<=arr.size
 plain:dH cs=false->cs.length=arr.size∧fz=(0,0)
 typed:∀k xs,akq cs=some ⟨k,xs⟩->aij fz arr.size∧g.ρ (id+1)*k.sz<=arr.size∧id+1<N∧(k=.u8->e=g.β)
 cold:∀j,j<(cellsOf cs).length->¬(fz.1<=j∧j<fz.2)
 one:∀c∈cellsOf cs,c.one=true
 rel:∀(j:Nat) c cv,(cellsOf cs)[j]? =some c->arr[j]? =some cv->VRel g.I g.ρ N w c cv
 own:∀(j:Nat) c cv,(cellsOf cs)[j]? =some c->arr[j]? =some cv->aP g w (.cell id j) c cv
 bn:∀(j E n:Nat),(cellsOf cs)[j]? =some (.bn E n)->E=e∧n=arr.size∧(arr[j]? =some (.pointer none)∨arr[j]? =some (.pointer (some ⟨g.ρ id,j,none⟩)))
theorem tj.typedUp{g j:Gh}{N N':Nat}{w:World}{id:Nat}{cs:List V}{i f:Array Value}{e:TypeId}{m:Nat×Nat}(h:tj g N w id cs i e m)
  (l:j.β=g.β) (q:∀id,id<N->j.ρ id=g.ρ id) (u:N<=N') (p:i.size=f.size):
  ∀k xs,akq cs=some ⟨k,xs⟩->aij m f.size∧j.ρ (id+1)*k.sz<=f.size∧id+1<N'∧(k=.u8->e=j.β):=by
 intro k xs r;obtain⟨a,b,c,d⟩:=h.typed k xs r;exact⟨p▸a,by rw[q _ c];omega,by omega,λt=>(d t).trans l.symm⟩
structure anW(g:Gh)(N:Nat)(w:World)(id:Nat)(cs:List V)(arr:Array Value)(e:TypeId):Prop where
 len:cs.length=arr.size
 one:∀c∈cs,c.one=true
 rel:∀(j:Nat) c cv,cs[j]? =some c->arr[j]? =some cv->VRel g.I g.ρ N w c cv
 own:∀(j:Nat) c cv,cs[j]? =some c->arr[j]? =some cv->aP g w (.cell id j) c cv
 bn:∀(j E n:Nat),cs[j]? =some (.bn E n)->E=e∧n=arr.size∧(arr[j]? =some (.pointer none)∨arr[j]? =some (.pointer (some ⟨g.ρ id,j,none⟩)))
theorem aIe{cs:List V}(h:∀c∈cs,c.one=true):dH cs=false:=by
 unfold dH;split;·have:=h _ (Ay.2 rfl);simp[V.one] at this
 ·have:=h _ (Ay.2 rfl);simp[V.one] at this
 ·have:=h _ (Ay.2 rfl);simp[V.one] at this
 ·rfl
theorem tj.low{g:Gh}{N:Nat}{w:World}{id:Nat}{cs:List V}{j:Array Value}{e:TypeId}{l:Nat×Nat}(h:tj g N w id cs j e l)(k:dH cs=false):
  l=(0,0)∧anW g N w id cs j e:=by
 have m:=jW k;obtain⟨a,b,t,c,d,f,g,i⟩:=h;rw[m] at d f g i;exact⟨(b k).2,(b k).1,d,f,g,i⟩
theorem anW.high{g:Gh}{N:Nat}{w:World}{id:Nat}{cs:List V}{b:Array Value}{e:TypeId}(h:anW g N w id cs b e):tj g N w id cs b e (0,0):=by have k:=aIe h.one;have c:=jW k;obtain⟨a,d,f,g,i⟩:=h;exact⟨by rw[c,a];exact Ap _,λ_=>⟨a,rfl⟩,by rw[sM k];simp,by intro j _;simp,by rw[c];exact d,by rw[c];exact f,by rw[c];exact g,by rw[c];exact i⟩
def MK.keyV:(k:MK)->k.K->Value
 | .pb,x=>.agg #[.int .i64 x.1,.int .i64 x.2]
 | .bs,x=>.int .u8 x
 | .bn,x=>.int .u8 x
 | .ib,x=>.int .i64 x
 | .sn,x=>.string ⟨x.toArray⟩
def MK.valV:(k:MK)->k.T->Value
 | .pb,x=>.bool x
 | .bs,x=>.string ⟨x.toArray⟩
 | .bn,x=>.int .i64 x
 | .ib,x=>.bool x
 | .sn,x=>.int .i64 x
def kP:List V->Bool
 | [.mp _ _]=>true
 |_=>false
def MK.okT:(k:MK)->k.T->Prop
 | .pb,_=>True
 | .bs,x=>x.length<=cj
 | .bn,x=>IntKind.i64.min<=x∧x<=IntKind.i64.max
 | .ib,_=>True
 | .sn,x=>IntKind.i64.min<=x∧x<=IntKind.i64.max
def xh{k:MK}(es:List (k.K×k.T))(ents:Array MapEntry)(clock:Nat):Prop:=
 es.length=ents.size∧clock=ents.size∧∀(i:Nat) e en,es[i]? =some e->ents[i]? =some en->en.born=i∧en.key=k.keyV e.1∧en.val=k.valV e.2∧k.okT e.2
structure ig(g:Gh)(N:Nat)(w:World)(id:Nat)(cs:List V):Prop where
 row:kP cs=false->∃arr e fz,w.heap[g.ρ id]? =some (.cells arr e fz)∧tj g N w id cs arr e fz
 map:∀(k:MK) es,cs=[.mp k es]->∃ents clock,w.heap[g.ρ id]? =some (.map ents clock)∧xh es ents clock
theorem afN{cs:List V}(h:kP cs=true):∃k es,cs=[.mp k es]:=by
 unfold kP at h;split at h;·exact⟨_,_,rfl⟩
 ·simp at h
theorem ig.block{g:Gh}{N:Nat}{w:World}{id:Nat}{cs:List V}(h:ig g N w id cs):∃x,w.heap[g.ρ id]? =some x:=by
 cases b:kP cs with
 |false=>obtain⟨d,e,f,a,_⟩:=h.row b;exact⟨_,a⟩
 |true=>obtain⟨k,es,rfl⟩:=afN b;obtain⟨ents,c,a,_⟩:=h.map k es rfl;exact⟨_,a⟩
theorem ig.lt{g:Gh}{N:Nat}{w:World}{id:Nat}{cs:List V}(h:ig g N w id cs):g.ρ id<w.heap.size:=by obtain⟨x,a⟩:=h.block;exact(AX.1 a).1
theorem ig.keep{g j:Gh}{N N':Nat}{w w':World}{id b:Nat}{cs:List V}(h:ig g N w id cs)(l:w'.heap[j.ρ b]? =w.heap[g.ρ id]?)(m:∀a e d,w.heap[g.ρ id]? =some (.cells a e d)->tj g N w id cs a e d->tj j N' w' b cs a e d):ig j N' w' b cs:=
 ⟨λq=>by obtain⟨a,e,d,f,i⟩:=h.row q;exact⟨a,e,d,l.trans f,m a e d f i⟩,λk es p=>by obtain⟨ents,c,f,i⟩:=h.map k es p;exact⟨ents,c,l.trans f,i⟩⟩
theorem ig.ofRow{g:Gh}{N:Nat}{w:World}{id:Nat}{cs:List V}{a:Array Value}{e:TypeId}{b:Nat×Nat}(c:w.heap[g.ρ id]? =some (.cells a e b))(f:tj g N w id cs a e b)(h:kP cs=false):ig g N w id cs:=
 ⟨λ_=>⟨a,e,b,c,f⟩,λk es d=>by subst d;simp[kP] at h⟩
theorem aIf{cs:List V}(h:∀c∈cs,c.one=true):kP cs=false:=by
 cases a:kP cs with
 |false=>rfl
 |true=>obtain⟨k,es,rfl⟩:=afN a;have:=h _ (Ay.2 rfl);simp[V.one] at this
theorem ig.ofRow0{g:Gh}{N:Nat}{w:World}{id:Nat}{cs:List V}{a:Array Value}{e:TypeId}(c:w.heap[g.ρ id]? =some (.cells a e (0,0)))(b:anW g N w id cs a e):ig g N w id cs:=
 .ofRow c b.high (aIf b.one)
structure HR(g:Gh)(hp:List aK)(w:World):Prop where
 obj:∀(id:Nat) cs,hp[id]? =some (some cs)->ig g hp.length w id cs
 apart:∀(id id':Nat) cs cs',hp[id]? =some (some cs)->hp[id']? =some (some cs')->id≠id'->g.ρ id≠g.ρ id'
 notI:∀(id:Nat) cs,hp[id]? =some (some cs)->∀j,¬g.I (g.ρ id) j
 notO:∀(id:Nat) cs,hp[id]? =some (some cs)->g.O (g.ρ id)=none
 exI:∀b j,g.I b j->(w.cell? ⟨b,j,none⟩).isSome=true
 oLt:∀b o,g.O b=some o->b<w.heap.size
structure ER(g:Gh)(N:Nat)(w:World)(env:List V)(tmps:Array Value):Prop where
 size:env.length=tmps.size
 rel:∀(n:Nat) v cv,env[n]? =some v->tmps[n]? =some cv->VRel g.I g.ρ N w v cv
 own:∀(n:Nat) v cv,env[n]? =some v->tmps[n]? =some cv->aP g w (.slot n) v cv
structure FR(g₀:Gh)(hp₀:List aK)(w₀:World)(g:Gh)(hp:List aK)(w:World):Prop where
 beta:g.β=g₀.β
 os:w.os=w₀.os
 tape:w.tape=w₀.tape
 output:w.output=w₀.output
 size:w₀.heap.size<=w.heap.size
 block:∀b,b<w₀.heap.size->(∀(id:Nat) cs,hp₀[id]? =some (some cs)->g₀.ρ id≠b)->g₀.O b=none->w.heap[b]? =w₀.heap[b]?
 up:Up g₀.I g₀.ρ hp₀.length w₀ g.I g.ρ hp.length w
 iSame:∀b j,b<w₀.heap.size->(∀(id:Nat) cs,hp₀[id]? =some (some cs)->g₀.ρ id≠b)->g₀.O b=none->g.I b j->g₀.I b j
 oSame:∀b,b<w₀.heap.size->(∀(id:Nat) cs,hp₀[id]? =some (some cs)->g₀.ρ id≠b)->g₀.O b=none->g.O b=none
 live:∀(id:Nat) cs,hp[id]? =some (some cs)->(∃cs₀,hp₀[id]? =some (some cs₀))∨(hp₀.length<=id∧(w₀.heap.size<=g.ρ id∨g₀.O (g.ρ id)≠none∨∃(id':Nat)(cs':List V),hp₀[id']? =some (some cs')∧g₀.ρ id'=g.ρ id))
theorem FR.refl(g:Gh)(hp:List aK)(w:World):FR g hp w g hp w:=
 ⟨rfl,rfl,rfl,rfl,Ap _,λ_ _ _ _=>rfl,Up.refl _ _ _ _,λ_ _ _ _ _ h=>h,λ_ _ _ h=>h,λ_ cs h=>.inl ⟨cs,h⟩⟩
theorem FR.noObj{c g₁:Gh}{a hp₁:List aK}{d w₁:World}(h:FR c a d g₁ hp₁ w₁){b:Nat}(u:b<d.heap.size)(p:∀(id:Nat) cs,a[id]? =some (some cs)->c.ρ id≠b)(r:c.O b=none):
  ∀(id:Nat) cs,hp₁[id]? =some (some cs)->g₁.ρ id≠b:=by
 intro id cs l e;rcases h.live id cs l with⟨f,q⟩|⟨_,i|i|⟨j,k,i,t⟩⟩
 ·refine p id f q ?_;have m:id<a.length:=(Ag.1 q).1;rw[<-h.up.rho id m];exact e
 ·omega
 ·rw[e] at i;exact i r
 ·exact p j k i (t.trans e)
theorem FR.trans{f g₁ a:Gh}{c hp₁ m:List aK}{l w₁ q:World}(h:FR f c l g₁ hp₁ w₁)(k:FR g₁ hp₁ w₁ a m q):FR f c l a m q:=by
 refine⟨k.beta.trans h.beta,k.os.trans h.os,k.tape.trans h.tape,k.output.trans h.output,A7 h.size k.size,?_,h.up.trans k.up,?_,?_,?_⟩;·intro b i e d;exact(k.block b (AJ i h.size) (h.noObj i e d) (h.oSame b i e d)).trans (h.block b i e d)
 ·intro b j i e d B;exact h.iSame b j i e d (k.iSame b j (AJ i h.size) (h.noObj i e d) (h.oSame b i e d) B)
 ·intro b i e d;exact k.oSame b (AJ i h.size) (h.noObj i e d) (h.oSame b i e d)
 ·intro id cs u;rcases k.live id cs u with⟨r,v⟩|⟨v,D⟩
  ·rcases h.live id r v with x|⟨x,y⟩
   ·exact .inl x
   ·refine .inr ⟨x,?_⟩;rw[k.up.rho id (Ag.1 v).1];exact y
  ·refine .inr ⟨A7 h.up.num v,?_⟩;by_cases t:a.ρ id<l.heap.size
   ·right;by_cases d:f.O (a.ρ id)=none
    ·right;by_cases e:∀(p:Nat) cs,c[p]? =some (some cs)->f.ρ p≠a.ρ id;·exact absurd rfl (FR.noObj k (AJ t h.size) (h.noObj t e d) (h.oSame _ t e d) id cs u)
     ·exact D7 λA=>e λp z y C=>A ⟨p,z,y,C⟩
    ·left;exact d
   ·left;omega
def aik:Nat:=0
def awY:List Value:=[]
structure SR(g:Gh)(s:St)(w:World)(a:Act):Prop where
 hr:HR g s.hp w
 er:ER g s.hp.length w s.env a.tmps
def cW(g:Gh)(s:St)(w:World)(a:Act)(s':St)(next:Act->World->Prop):Prop:=
 ∀b w' c,SR c s' w' b->FR g s.hp w c s'.hp w'->b.defers=a.defers->next b w'
def uf:V->Value->Bool
 | .int k n,.int k' c=>decide (k=k')&&(n==c&&(decide (k.min<=n)&&decide (n<=k.max)))
 | .bool b,.bool d=>b==d
 | .str l,.string s=>decide (s.data.toList=l)&&decide (s.size<=cj)
 | .sl _ _ xs,.slice none 0 0=>xs.isEmpty
 | .ul _ xs,.slice none 0 0=>xs.isEmpty
 | .nilp,.pointer none=>true
 | .nilif,.nilIface=>true
 | .nilm,.map none=>true
 |_,_=>false
def jH:List V->List Value->Bool
 | [],[]=>true
 |c::cs,v::vs=>uf c v&&jH cs vs
 |_,_=>false
def aiS:V->Value->Bool
 | .agg cs,.agg vs=>jH cs vs.toList
 |v,cv=>uf v cv
def bB:ASrc->Operand->Bool
 | .t n,.tmp k=>n==k
 | .tk n,.tmp k=>n==k
 | .c v,.const cv=>aiS v cv
 | .c (.fn f []),.func h=>f==h
 |_,_=>false
section
variable{I:Nat->Nat->Prop}{ρ:Nat->Nat}{N:Nat}{w:World}{g:Gh}{s:St}{a:Act}{P:Program}
theorem akr{v:V}{cv:Value}(h:uf v cv=true):VRel I ρ N w v cv∧v.one=true:=by
 unfold uf at h;split at h;·simp only[Ac,decide_eq_true_eq,beq_iff_eq] at h;obtain⟨rfl,rfl,c,b⟩:=h;exact⟨.int _ _ ⟨c,b⟩,rfl⟩
 ·obtain rfl:=by simpa using h
  exact⟨.bool _,rfl⟩
 ·simp only[Ac,decide_eq_true_eq] at h;exact⟨.str _ _ h.1 h.2,rfl⟩
 ·rename_i xs;cases xs with
  |nil=>exact⟨.sln _ _,rfl⟩
  |cons x xs=>simp at h
 ·rename_i k xs;cases xs with
  |nil=>exact⟨.ul k [] none 0 (by simp),rfl⟩
  |cons x xs=>simp at h
 ·exact⟨.nilp,rfl⟩
 ·exact⟨.nilif,rfl⟩
 ·exact⟨.nilm,rfl⟩
 ·simp at h
theorem auE{v:V}{cv:Value}(h:uf v cv=true):d7 v cv:=by unfold uf at h;split at h<;>first|(simp[d7];done)|(simp at h;done)|(simp[d7];exact h)|(simp[d7];simp at h;exact h)|simp at h
theorem sN:∀{cs:List V}{vs:List Value},jH cs vs=true->∀(i:Nat) c cv,cs[i]? =some c->vs[i]? =some cv->d7 c cv
 | [],[],_,i,c,cv,b,d=>by simp at b
 |c::cs,v::vs,h,i,f,e,b,d=>by
  simp only[jH,Ac] at h;cases i with
  |zero=>simp at b d;subst b d;exact auE h.1
  |succ i=>exact sN h.2 i f e (by simpa using b) (by simpa using d)
 | [],_::_,h,_,_,_,_,_=>by simp[jH] at h
 |_::_,[],h,_,_,_,_,_=>by simp[jH] at h
theorem oR:∀{cs:List V}{vs:List Value},jH cs vs=true->cs.length=vs.length∧(∀c∈cs,c.one=true)∧
  ∀(i:Nat) c cv,cs[i]? =some c->vs[i]? =some cv->VRel I ρ N w c cv
 | [],[],_=>⟨rfl,by simp,by simp⟩
 |c::cs,v::vs,h=>by
  simp only[jH,Ac] at h;obtain⟨e,f⟩:=akr (I:=I) (ρ:=ρ) (N:=N) (w:=w) h.1;obtain⟨l,m,j⟩:=oR h.2;refine⟨by simp[l],by simpa using ⟨f,m⟩,?_⟩;intro i p k b d;cases i with
  |zero=>simp at b d;subst b d;exact e
  |succ i=>simp at b d;exact j i _ _ b d
 | [],_::_,h=>by simp[jH] at h
 |_::_,[],h=>by simp[jH] at h
theorem aEX{v:V}{cv:Value}(h:aiS v cv=true):VRel I ρ N w v cv:=by
 unfold aiS at h;split at h;·rename_i cs vs;obtain⟨e,f,j⟩:=oR (I:=I) (ρ:=ρ) (N:=N) (w:=w) h;exact .agg _ _ (by simpa using e) f (λi c cv b d=>sN h i c cv b (by simpa using d)) (λi c cv b d=>j i c cv b (by simpa using d))
 ·exact(akr h).1
theorem acK{v:V}{cv:Value}(h:aiS v cv=true)(b:Occ):aP g w b v cv:=by
 unfold aiS at h;split at h;·simp[aP]
 ·unfold uf at h;split at h<;>first|(simp[aP];done)|(exact .inl ⟨by simpa using h,rfl⟩)|simp at h
theorem ER.get(h:ER g N w s.env a.tmps)(n:Nat):VRel g.I g.ρ N w (s.get n) (a.tmps.getD n undef):=by
 by_cases c:n<s.env.length
 ·have b:n<a.tmps.size:=by rw[<-h.size];exact c
  refine h.rel n _ _ ?_ ?_;·simp[St.get,Af,Ah c]
  ·simp[B4,b,Am b]
 ·have:s.get n=.undef:=by simp[St.get,Af,A1 (Dp c)]
  rw[this];exact .undef _
theorem ER.getOwn(h:ER g N w s.env a.tmps)(n:Nat):aP g w (.slot n) (s.get n) (a.tmps.getD n undef):=by
 by_cases c:n<s.env.length
 ·have b:n<a.tmps.size:=by rw[<-h.size];exact c
  refine h.own n _ _ ?_ ?_;·simp[St.get,Af,Ah c]
  ·simp[B4,b,Am b]
 ·have:s.get n=.undef:=by simp[St.get,Af,A1 (Dp c)]
  rw[this];simp[aP]
theorem bA{x:ASrc}{o:Operand}(h:bB x o=true)(e:ER g N w s.env a.tmps):VRel g.I g.ρ N w (x.ev s) (a.eval o):=by
 unfold bB at h;split at h
 ·obtain rfl:=by simpa using h
  exact(e.get _).disown
 ·obtain rfl:=by simpa using h
  exact e.get _
 ·exact aEX h
 ·obtain rfl:=by simpa using h
  exact .fn _ [] #[] rfl (by simp)
 ·simp at h
theorem ER.set(h:ER g N w s.env a.tmps)(d:Nat){v:V}{cv:Value}(k:VRel g.I g.ρ N w v cv)(j:aP g w (.slot d) v cv):
  ER g N w (s.set d v).env (a.put (some d) cv).tmps:=by
 refine⟨by simp[St.set,Act.put,h.size],?_,?_⟩
 ·intro n i f c b;simp only[St.set,Act.put,Ax,DK] at c b;by_cases e:d=n;·subst e;simp only[if_true] at c b;split at c<;>split at b<;>simp_all
  ·simp only[e,if_false] at c b;exact h.rel n _ _ c b
 ·intro n i f c b;simp only[St.set,Act.put,Ax,DK] at c b;by_cases e:d=n;·subst e;simp only[if_true] at c b;split at c<;>split at b<;>simp_all
  ·simp only[e,if_false] at c b;exact h.own n _ _ c b
theorem SR.set(h:SR g s w a)(d:Nat){v:V}{cv:Value}(c:VRel g.I g.ρ s.hp.length w v cv)(b:aP g w (.slot d) v cv):
  SR g (s.set d v) w (a.put (some d) cv):=⟨h.hr,h.er.set d c b⟩
def V.bare:V->Bool
 | .sl _ .own _=>false
 | .raw _=>false
 | .ul _ _=>false
 |_=>true
theorem jI{v:V}(h:v.bare=true)(g:Gh)(w:World)(b:Occ)(cv:Value):aP g w b v cv:=by
 cases v with
 |sl k o xs=>cases o<;>first|simp[V.bare] at h;done|simp[aP]
 |raw n=>simp[V.bare] at h
 |ul k xs=>simp[V.bare] at h
 |_=>simp[aP]
theorem dZ(v:V):(disown v).bare=true:=by
 cases v with
 |sl k o xs=>cases o<;>rfl
 |_=>rfl
theorem HR.drew{hp:List aK}(h:HR g hp w):HR g hp w.drew:=by
 refine⟨?_,h.apart,h.notI,h.notO,h.exI,h.oLt⟩;intro id cs k;refine(h.obj id cs k).keep rfl λp e t r d=>?_
 have u:Up g.I g.ρ hp.length w g.I g.ρ hp.length w.drew:=⟨λ_ _ h=>h,λ_ _ _=>rfl,λ_ _=>rfl,Ap _⟩
 exact⟨d.len,d.plain,d.typed,d.cold,d.one,λj c cv f i=>(d.rel j c cv f i).up u,λj c cv f i=>dg (d.own j c cv f i) rfl (λb j l=>⟨l,rfl⟩) (λb q=>⟨q,rfl,λj m=>m⟩),d.bn⟩
theorem bu{m:Oper}{d:Nat}{v:V}{cv:Value}{next:Act->World->Prop}{Q:Exit->Act->World->Prop}(h:SR g s w a)(e:m.dst=some d)
  (b:(execOp a.eval m).run P w=.ok (.value cv) w) (c:VRel g.I g.ρ s.hp.length w v cv) (f:v.bare=true)
  (i:cW g s w a (s.set d v) next):m.wp P a w next Q:=by
 unfold C4 C1;rw[b,e];exact i _ _ g (h.set d c (jI f _ _ _ _)) (FR.refl _ _ _) rfl
end
def mP:Option ASrc->Option Operand->Bool
 |none,none=>true
 |some x,some y=>bB x y
 |_,_=>false
def ata:ASrc->Bool
 | .tk _=>false
 |_=>true
def anX(P:Program)(t:TypeId)(k:IntKind):Bool:=match P.underlying t with|some (.int k')=>decide (k=k')|_=>false
def nW(P:Program)(t:TypeId):Option Bool:=match P.underlying t with|some (.struct _)|some (.array _ _)=>some true|some _=>some false|none=>none
def fm(P:Program)(t:TypeId):Option Nat:=(P.info? t).map (·.size)
def atb(P:Program)(t:TypeId):Bool:=match fm P t with|some n=>n !=0|none=>false
def kQ(P:Program):Nat:=((BN P.types.size).find? λt=>match P.underlying t with|some (.int .u8)=>true|_=>false).getD 0
def ac8(P:Program)(e:TypeId)(k:EK):Bool:=
 (match k with| .u8=>e==kQ P|_=>true)&&
 (match P.info? e with
 |some i=>i.size==k.sz&&(i.bytes==k.bytes&&(nW P e==some k.isAgg&&(match i.zero with|some z=>jH (enc k (aI k)) z.cells.toList&&(z.cells.size==k.sz)|none=>false)))
 |none=>false)
def mK(P:Program)(t:TypeId)(k:EK):Bool:=match P.underlying t with|some (.slice e)=>ac8 P e k|_=>false
def afm:Op->Option (Builtin×List Operand×List TypeId)
 | .call c=>match c.callee with| .builtin b=>some (b,c.args.toList,c.argTypes.toList)|_=>none
 |_=>none
theorem nX{o:Op}{b:Builtin}{avs:List Operand}{f:List TypeId}(h:afm o=some (b,avs,f)):o=.call ⟨.builtin b,⟨avs⟩,⟨f⟩⟩:=by
 unfold afm at h;split at h
 ·rename_i c;obtain⟨d,⟨e⟩,⟨i⟩⟩:=c;simp only at h;split at h;·simp only[Ae,Aj] at h;obtain⟨rfl,rfl,rfl⟩:=h;rfl
  ·simp at h
 ·simp at h
def bN(P:Program)(o:IOp)(m:Oper):Bool:=
 match o with
 | .pick d c x y=>(m.dst==some d)&&(match m.op with| .pick B h j=>bB c B&&(bB x h&&bB y j)&&(ata x&&ata y)|_=>false)
 | .bin d o x y=>(m.dst==some d)&&(match m.op with| .binOp o' _ h j _=>decide (o=o')&&(bB x h&&bB y j)|_=>false)
 | .un d o x=>(m.dst==some d)&&(match m.op with| .unOp o' _ h=>decide (o=o')&&bB x h|_=>false)
 | .cvi d k x=>(m.dst==some d)&&(match m.op with| .convert a b h=>(P.underlying a).isSome&&(anX P b k&&bB x h)|_=>false)
 | .b2s d x=>(m.dst==some d)&&(match m.op with| .convert a b h=>(match P.underlying a,P.underlying b with|some (.slice e),some .string=>anX P e .u8|_,_=>false)&&bB x h|_=>false)
 | .lens d x=>(m.dst==some d)&&(match afm m.op with|some (.len,[h],[t])=>(match P.underlying t with|some .string=>true|_=>false)&&bB x h|_=>false)
 | .lenl d x=>(m.dst==some d)&&(match afm m.op with|some (.len,[h],[t])=>(match P.underlying t with|some (.slice _)=>true|_=>false)&&bB x h|_=>false)
 | .idx d x i=>(m.dst==some d)&&(match m.op with| .index t h u=>(match P.underlying t with|some .string=>true|_=>false)&&(bB x h&&bB i u)|_=>false)
 | .ixa d k x i=>(m.dst==some d)&&(match m.op with| .indexAddr t h u=>mK P t k&&(bB x h&&bB i u)|_=>false)
 | .subs d x z v=>(m.dst==some d)&&(match m.op with| .slice t h q l none=>(match P.underlying t with|some .string=>true|_=>false)&&(bB x h&&(mP z q&&mP v l))|_=>false)
 | .subl d k x z v=>(m.dst==some d)&&(match m.op with| .slice t h q l none=>mK P t k&&(bB x h&&(mP z q&&mP v l))|_=>false)
 | .fad d p x=>(m.dst==some d)&&(match m.op with| .fieldAddr t h f=>(match P.underlying t with|some (.struct fs)=>(match fs[f]? with|some r=>(r.offset==p)&&atb P r.type|none=>false)|_=>false)&&bB x h|_=>false)
 | .fld d p n agg x=>(m.dst==some d)&&(match m.op with| .field t h f=>(match P.underlying t with|some (.struct fs)=>(match fs[f]? with|some r=>(r.offset==p)&&((fm P r.type==some n)&&((nW P r.type==some agg)&&(agg||n==1)))|none=>false)|_=>false)&&bB x h|_=>false)
 | .ext d i x=>(m.dst==some d)&&(match m.op with| .extract h u=>i==u&&bB x h|_=>false)
 | .nck d x=>(m.dst==d)&&(match m.op with| .nilCheck h=>bB x h|_=>false)
 | .ld d n agg false x=>(m.dst==some d)&&(match m.op with| .load t h=>(fm P t==some n)&&((nW P t==some agg)&&((agg||n==1)&&bB x h))|_=>false)
 | .snil d x=>(m.dst==some d)&&(match m.op with| .binOp o' t h j _=>decide (o'=.eql)&&((match P.underlying t with|some (.slice _)=>true|_=>false)&&(bB x h&&(match j with| .const (.slice none 0 0)=>true|_=>false)))|_=>false)
 | .mx d A x y=>(m.dst==some d)&&(match afm m.op with|some (.min,[h,j],_)=>A&&(bB x h&&bB y j)|some (.max,[h,j],_)=> !A&&(bB x h&&bB y j)|_=>false)
 |_=>false
section
variable{w:World}{g:Gh}{s s':St}{a:Act}{P:Program}{Γ:aG}{m:Oper}{next:Act->World->Prop}{Q:Exit->Act->World->Prop}
theorem gj(k:IntKind)(n:Int):k.min<=k.wrap n∧k.wrap n<=k.max:=by cases k<;>simp[Ab,BI,Bo,A6,AN]<;>omega
theorem auF(k:IntKind):k.min<=0∧0<=k.max:=by cases k<;>decide
theorem aBW(x y:Int)(e:0<=x):x%y<=x:=by
 by_cases d:y=0;·subst d;simp
 ·rcases Int.lt_or_gt_of_ne d with h|h
  ·rw[<-Int.emod_neg];by_cases c:x< -y;·rw[Int.emod_eq_of_lt e c];omega
   ·have:=Int.emod_lt_of_pos x (b:=-y) (by omega);omega
  ·by_cases c:x<y;·rw[Int.emod_eq_of_lt e c];omega
   ·have:=Int.emod_lt_of_pos x h;omega
theorem aGV(k:IntKind)(x y:Int)(h:k.min<=x∧x<=k.max):k.min<=x.tmod y∧x.tmod y<=k.max:=by
 have f:=auF k;rcases Int.le_total 0 x with c|c
 ·have d:=Dy y c;have e:x.tmod y<=x:=by
   rw[Bj c];exact aBW _ _ c
  omega
 ·have b:0<=-x:=by omega
  have d:=Dy y b;have e:(-x).tmod y<=-x:=by rw[Bj b];exact aBW _ _ b
  rw[Int.neg_tmod] at d e;omega
theorem aIg(k:IntKind)(x:Int)(n:Nat)(h:k.min<=x∧x<=k.max):k.min<=x.fdiv (2^n)∧x.fdiv (2^n)<=k.max:=by
 have e:=auF k;have hp:(0:Int)<2^n:=DO (by omega);have hp':(1:Int)<=2^n:=hp;rw[B1 _ (by omega)];generalize (2:Int)^n=p at*
 rcases Int.le_total 0 x with b|b;·have c:=Int.ediv_nonneg b (DD hp);have d:=Int.ediv_le_self p b;omega
 ·have d:x / p<=0:=by
   have:=Int.ediv_le_ediv hp b;simpa using this
  have c:x<=x / p:=by refine(Int.le_ediv_iff_mul_le hp).2 ?_;have:=Int.mul_le_mul_of_nonpos_left b hp';simpa using this
  omega
theorem aLl{d:Nat}{c x y:ASrc}(e:bN P (.pick d c x y) m=true)(i:step Γ (.pick d c x y) s=some (true,s'))(h:SR g s w a)(k:cW g s w a s' next):m.wp P a w next Q:=by
 obtain⟨dst,G,H,D,u,E⟩:=m;simp only[bN,Ac,beq_iff_eq] at e;obtain⟨rfl,e⟩:=e;split at e
 ·rename_i p B r;simp only[Ac] at e;obtain⟨⟨l,q,A⟩,I,F⟩:=e;have f:=bA l h.er;have z:=(bA q h.er).disown;have v:=(bA A h.er).disown;simp only[step] at i;split at i
  ·rename_i t C;obtain rfl:_=s':=by simpa using i
   rw[aJW] at k;rw[C] at f;cases j:a.eval p with
   |bool b=>
    rw[j] at f;cases f;refine bu h rfl (cv:=if t then a.eval B else a.eval r) (by simp[execOp,j,asBool]) ?_ (by cases t<;>exact dZ _) k;cases t;·exact v
    ·exact z
   |_=>rw[j] at f;cases f
  ·simp at i
 ·simp at e
theorem aMr{d:Nat}{k:IntKind}{x:ASrc}(b:bN P (.cvi d k x) m=true)(e:step Γ (.cvi d k x) s=some (true,s'))(h:SR g s w a)(p:cW g s w a s' next):m.wp P a w next Q:=by
 obtain⟨dst,E,F,A,l,B⟩:=m;simp only[bN,Ac,beq_iff_eq] at b;obtain⟨rfl,b⟩:=b;split at b
 ·rename_i D C u;simp only[Ac] at b;obtain⟨j,c,t⟩:=b;have f:=bA t h.er;simp only[step] at e;split at e
  ·rename_i k' n z;obtain rfl:_=s':=by simpa using e
   rw[z] at f;obtain⟨q,y⟩:=Bq.1 j;unfold anX at c;split at c
   ·rename_i v r;obtain rfl:k=v:=by simpa using c
    generalize i:a.eval u=cv at f;cases f;refine bu h rfl (cv:=.int k (k.wrap n)) ?_ (.int _ _ (gj _ _)) rfl p;simp only[execOp,i,convert];cases q<;>simp[run_underlying y,run_underlying r,Conv.intToInt]
   ·simp at c
  ·simp at e
 ·simp at b
theorem aeE(c:List Int):∀b:ByteArray,(c.foldl (λ(r:ByteArray) n=>r.push (AC n.toNat)) b).data.toList=b.data.toList++c.map λn=>AC n.toNat:=by
 induction c with
 |nil=>intro b;simp
 |cons n c d=>intro b;rw[BG,d];simp[ByteArray.push]
theorem aks(c:UInt8):IntKind.u8.min<=(c.toNat:Int)∧(c.toNat:Int)<=IntKind.u8.max:=by have:=c.toNat_lt;simp[BI,Bo,AN,A6];omega
theorem auG:ByteArray.empty.data.toList=[]:=rfl
theorem kp(s:ByteArray):s.data.toList.length=s.size:=by rw[BX];rfl
theorem aMs{d:Nat}{x:ASrc}(p:bN P (.b2s d x) m=true)(z:step Γ (.b2s d x) s=some (true,s'))(h:SR g s w a)(C:cW g s w a s' next):m.wp P a w next Q:=by
 obtain⟨dst,op,ty,O,M,gd⟩:=m;simp only[bN,Ac,beq_iff_eq] at p;obtain⟨rfl,p⟩:=p;split at p
 ·rename_i t1 t2 W;simp only[Ac] at p;obtain⟨t,S⟩:=p;have B:=bA S h.er;simp only[step] at z;split at z
  ·rename_i o l hx;obtain rfl:_=s':=by simpa using z
   rw[hx] at B;split at t
   ·rename_i e D A;unfold anX at t;split at t
    ·rename_i Y E;obtain rfl:IntKind.u8=Y:=by simpa using t
     generalize q:a.eval W=cv at B;cases B with
     |sln=>exact bu h rfl (cv:=.string .empty) (by simp[execOp,q,run_convert_bytes_string w _ _ _ _ _ _ D E A,Conv.bytesToString]) (.str _ _ rfl (by simp[cj])) rfl C
     |sle=>exact bu h rfl (cv:=.string .empty) (by simp[execOp,q,run_convert_bytes_string w _ _ _ _ _ _ D E A,Conv.bytesToString,loadCells,loadCellsFrom]) (.str _ _ rfl (by simp[cj])) rfl C
     |sl _ _ _ b H Z cap N I hm R f hI X hv=>
      subst N;have i:(loadCells ⟨b,H,none⟩ l.length).run P w=.ok ((l.map λc:UInt8=>(c.toNat:Int)).map (Value.int .u8)).toArray w:=by
       have u:l.length=((l.map λc:UInt8=>(c.toNat:Int)).map (Value.int .u8)).length:=by simp
       rw[u];refine run_loadCells_list w _ _ ?_;intro j v G;have F:j<l.length:=by simpa using (Ag.1 G).1
       have k:l[j]? =some l[j]:=Ah F;have J:=X j l[j] 0 k (by simp[enc]);have L:=hv j l[j] 0 (.int .u8 l[j].toNat) k (by simp[enc]);simp only[EK.sz,Cv,B6] at J;rw[BO,J];simp only[Dw,AA,k,BA,Ae,Function.comp] at G;subst G;generalize hf:f j 0=y at L;cases L;rfl
      refine bu h rfl (cv:=.string ((l.map λc:UInt8=>(c.toNat:Int)).foldl (λ(r:ByteArray) n=>r.push (AC n.toNat)) ByteArray.empty)) ?_ (.str _ _ ?_ ?_) rfl C;·simp[execOp,q,run_convert_bytes_string w _ _ _ _ _ _ D E A,run_bytesToString w _ _ _ _ i]
      ·rw[aeE,auG];simp[D4]
      ·rw[<-kp,aeE,auG];simp;omega
    ·simp at t
   ·simp at t
  ·simp at z
 ·simp at p
theorem aLm{d:Nat}{x:ASrc}(c:bN P (.lens d x) m=true)(e:step Γ (.lens d x) s=some (true,s'))(h:SR g s w a)(u:cW g s w a s' next):m.wp P a w next Q:=by
 obtain⟨dst,D,E,q,p,B⟩:=m;simp only[bN,Ac,beq_iff_eq] at c;obtain⟨rfl,c⟩:=c;split at c
 ·rename_i z t i;obtain rfl:=nX i;simp only[Ac] at c;obtain⟨k,y⟩:=c;have f:=bA y h.er;simp only[step] at e;split at e
  ·rename_i l A;obtain rfl:_=s':=by simpa using e
   rw[A] at f;split at k
   ·rename_i v;generalize j:a.eval z=cv at f;cases f with
    |str _ b r C=>subst r;refine bu h rfl (cv:=.int .i64 b.size) (by simp[execOp,resolve,j,invoke,builtin,Dc,run_underlying v,goInt]) ?_ rfl u;rw[kp];exact .int _ _ (by simp[BI,Bo,AN,A6,cj] at *;omega)
   ·simp at k
  ·simp at e
 ·simp at c
theorem aLn{d:Nat}{x:ASrc}(c:bN P (.lenl d x) m=true)(i:step Γ (.lenl d x) s=some (true,s'))(h:SR g s w a)(p:cW g s w a s' next):m.wp P a w next Q:=by
 obtain⟨dst,I,J,E,y,G⟩:=m;simp only[bN,Ac,beq_iff_eq] at c;obtain⟨rfl,c⟩:=c;split at c
 ·rename_i B t r;obtain rfl:=nX r;simp only[Ac] at c;obtain⟨u,A⟩:=c;have j:=bA A h.er;simp only[step] at i;split at i
  ·rename_i k o l D;obtain rfl:_=s':=by simpa using i
   rw[D] at j;split at u
   ·rename_i e q;generalize f:a.eval B=cv at j;cases j with
    |sle=>exact bu h rfl (cv:=.int .i64 0) (by simp[execOp,resolve,f,invoke,builtin,Dc,run_underlying q,goInt]) (.int _ _ (by decide)) rfl p
    |sln=>exact bu h rfl (cv:=.int .i64 0) (by simp[execOp,resolve,f,invoke,builtin,Dc,run_underlying q,goInt]) (.int _ _ (by decide)) rfl p
    |sl _ _ _ b F C cap z v H=>subst z;refine bu h rfl (cv:=.int .i64 l.length) (by simp[execOp,resolve,f,invoke,builtin,Dc,run_underlying q,goInt]) ?_ rfl p;exact .int _ _ (by simp[BI,Bo,AN,A6,cj] at *;omega)
   ·simp at u
  ·simp at i
 ·simp at c
theorem aMt{d:Nat}{x i:ASrc}(c:bN P (.idx d x i) m=true)(f:step Γ (.idx d x i) s=some (true,s'))(h:SR g s w a)(D:cW g s w a s' next):m.wp P a w next Q:=by
 obtain⟨dst,R,S,A,z,M⟩:=m;simp only[bN,Ac,beq_iff_eq] at c;obtain⟨rfl,c⟩:=c;split at c
 ·rename_i t H L;simp only[Ac] at c;obtain⟨v,y,G⟩:=c;have p:=bA y h.er;have r:=bA G h.er;simp only[step] at f;split at f
  ·rename_i l k n J I;simp only[Ae,Aj,Ac,decide_eq_true_eq] at f;obtain⟨⟨E,C⟩,rfl⟩:=f;rw[J] at p;rw[I] at r;split at v
   ·rename_i F;generalize u:a.eval H=cv at p;generalize q:a.eval L=O at r;cases r;cases p with
    |str _ b B N=>
     subst B;have j:n.toNat<b.size:=by rw[kp] at C;omega
     have e:b[n.toNat]? =some (b.data.toList.getD n.toNat 0):=by
      rw[getElem?_pos b n.toNat j];have:n.toNat<b.data.toList.length:=by rw[kp];exact j
      simp only[Af,Ah this,A8];rfl
     refine bu h rfl (cv:=.int .u8 (b.data.toList.getD n.toNat 0).toNat) ?_ ?_ rfl D;·simp[execOp,u,q,Instr.index,asIntOf,run_underlying F,E,e]
     ·exact .int _ _ (aks _)
   ·simp at v
  ·simp at f
 ·simp at c
theorem aNy{d:Nat}{o:UnOp}{x:ASrc}(c:bN P (.un d o x) m=true)(l:step Γ (.un d o x) s=some (true,s'))(h:SR g s w a)(p:cW g s w a s' next):m.wp P a w next Q:=by
 obtain⟨dst,A,B,y,u,z⟩:=m;simp only[bN,Ac,beq_iff_eq] at c;obtain⟨rfl,c⟩:=c;split at c
 ·rename_i o' t r;simp only[Ac,decide_eq_true_eq] at c;obtain⟨rfl,q⟩:=c;have f:=bA q h.er;simp only[step,As] at l;obtain⟨v,i,l⟩:=l;obtain rfl:_=s':=by simpa using l
  generalize e:a.eval r=cv at f;unfold unV at i;split at i;·rename_i b j;cases AF i;rw[j] at f;cases f;exact bu h rfl (cv:=.bool (!b)) (by simp[execOp,e,Op.unary]) (.bool _) rfl p
  ·rename_i k n j;cases AF i;rw[j] at f;cases f;exact bu h rfl (cv:=.int k (k.wrap (0-n))) (by simp[execOp,e,Op.unary,DP]) (.int _ _ (gj _ _)) rfl p
  ·rename_i k n j;cases AF i;rw[j] at f;cases f;exact bu h rfl (cv:=.int k (bE .xor k (if k.signed then -1 else k.max) n)) (by simp[execOp,e,Op.unary,DC,bE]) (.int _ _ (gj _ _)) rfl p
  ·simp at i
 ·simp at c
theorem aGW{o:BinOp}{k:IntKind}{x y:Int}{v:V}(b:aBT o k x y=some (true,v))(d:k.min<=x∧x<=k.max):
  ∃cv,(∀w:World,(if o=.add∨o=.sub∨o=.mul then DP o k x y else if o=.quo∨o=.rem then Op.intDiv o k x y else if o=.and∨o=.or∨o=.xor∨o=.andNot then DC o k x y else Dr o x y).run P w=.ok cv w)
   ∧(∀I ρ N w,VRel I ρ N w v cv)∧v.bare=true:=by
 unfold aBT at b;split at b<;>(try simp only[Ae,Aj,true_and,BE,beq_eq_false_iff_ne] at b)<;>(try (obtain⟨c,b⟩:=b))<;>(try subst b)
 ·exact⟨.int k (k.wrap (x+y)),λw=>by simp[DP],λ_ _ _ _=>.int _ _ (gj _ _),rfl⟩
 ·exact⟨.int k (k.wrap (x-y)),λw=>by simp[DP],λ_ _ _ _=>.int _ _ (gj _ _),rfl⟩
 ·exact⟨.int k (k.wrap (x*y)),λw=>by simp[DP],λ_ _ _ _=>.int _ _ (gj _ _),rfl⟩
 ·exact⟨.int k (k.wrap (x.tdiv y)),λw=>by simp[Op.intDiv,c],λ_ _ _ _=>.int _ _ (gj _ _),rfl⟩
 ·exact⟨.int k (x.tmod y),λw=>by simp[Op.intDiv,c],λ_ _ _ _=>.int _ _ (aGV _ _ _ d),rfl⟩
 ·exact⟨.int k (bE .and k x y),λw=>by simp[DC,bE],λ_ _ _ _=>.int _ _ (gj _ _),rfl⟩
 ·exact⟨.int k (bE .or k x y),λw=>by simp[DC,bE],λ_ _ _ _=>.int _ _ (gj _ _),rfl⟩
 ·exact⟨.int k (bE .xor k x y),λw=>by simp[DC,bE],λ_ _ _ _=>.int _ _ (gj _ _),rfl⟩
 ·exact⟨.int k (bE .andNot k x y),λw=>by simp[DC,bE],λ_ _ _ _=>.int _ _ (gj _ _),rfl⟩
 ·exact⟨.bool (x==y),λw=>by simp[Dr],λ_ _ _ _=>.bool _,rfl⟩
 ·exact⟨.bool (!(x==y)),λw=>by simp[Dr,bne],λ_ _ _ _=>.bool _,rfl⟩
 ·exact⟨.bool (decide (x<y)),λw=>by simp[Dr],λ_ _ _ _=>.bool _,rfl⟩
 ·exact⟨.bool (decide (x<=y)),λw=>by simp[Dr],λ_ _ _ _=>.bool _,rfl⟩
 ·exact⟨.bool (decide (y<x)),λw=>by simp[Dr],λ_ _ _ _=>.bool _,rfl⟩
 ·exact⟨.bool (decide (y<=x)),λw=>by simp[Dr],λ_ _ _ _=>.bool _,rfl⟩
theorem sO(s:ByteArray):s.toList=s.data.toList:=ByteArray.toList_eq s
theorem aGX(x y:List UInt8):(x==y)=decide (x=y):=by rw[BH];simp
theorem aGY{o:BinOp}{x y:ByteArray}{v:V}(b:aBU o x.data.toList y.data.toList=some (true,v)):
  ∃cv,(∀w:World,(CL o x y).run P w=.ok cv w)∧(∀I ρ N w,VRel I ρ N w v cv)∧v.bare=true:=by
 unfold aBU at b;split at b<;>(try simp only[Ae,Aj,true_and,decide_eq_true_eq,kp] at b)
 ·obtain⟨c,rfl⟩:=b;refine⟨.string (x++y),λw=>?_,λ_ _ _ _=>.str _ _ (by simp) (by simpa [ByteArray.size_append] using c),rfl⟩;have:¬(9223372036854775807<(x.size:Int)+(y.size:Int)):=by unfold cj at c;omega
  simp[CL,Bo,AN,A6,this]
 ·subst b;exact⟨.bool (decide (x.data.toList=y.data.toList)),λw=>by simp only[CL,sO,aGX];rfl,λ_ _ _ _=>.bool _,rfl⟩
 ·subst b;exact⟨.bool (!decide (x.data.toList=y.data.toList)),λw=>by simp only[CL,sO,aGX];rfl,λ_ _ _ _=>.bool _,rfl⟩
 ·subst b;exact⟨.bool (A2 x.data.toList y.data.toList),λw=>by simp[CL,sO],λ_ _ _ _=>.bool _,rfl⟩
 ·subst b;exact⟨.bool (A2 x.data.toList y.data.toList||decide (x.data.toList=y.data.toList)),λw=>by simp only[CL,sO,aGX];rfl,λ_ _ _ _=>.bool _,rfl⟩
 ·subst b;exact⟨.bool (!(A2 x.data.toList y.data.toList||decide (x.data.toList=y.data.toList))),λw=>by simp only[CL,sO,aGX];rfl,λ_ _ _ _=>.bool _,rfl⟩
 ·subst b;exact⟨.bool (!Op.bytesLess x.data.toList y.data.toList),λw=>by simp[CL,sO],λ_ _ _ _=>.bool _,rfl⟩
 ·simp at b
end
section
variable{w:World}{g:Gh}{s s':St}{a:Act}{P:Program}{Γ:aG}{m:Oper}{next:Act->World->Prop}{Q:Exit->Act->World->Prop}
theorem azb{k k':IntKind}{x y:Int}(d:0<=y)(c:k.min<=x∧x<=k.max):
  (∀w:World,(Op.shift .shl k x k' y).run P w=.ok (.int k (ic k x y)) w)∧(∀w:World,(Op.shift .shr k x k' y).run P w=.ok (.int k (ep k x y)) w)
   ∧(∀I ρ N w,VRel I ρ N w (.int k (ic k x y)) (.int k (ic k x y)))∧(∀I ρ N w,VRel I ρ N w (.int k (ep k x y)) (.int k (ep k x y))):=by
 have b:¬y<0:=by omega
 exact⟨λw=>by simp[Op.shift,b,ic],λw=>by simp[Op.shift,b,ep],λ_ _ _ _=>.int _ _ (gj _ _),λ_ _ _ _=>.int _ _ (aIg _ _ _ c)⟩
theorem aMu{d:Nat}{o:BinOp}{x y:ASrc}(e:bN P (.bin d o x y) m=true)(l:step Γ (.bin d o x y) s=some (true,s'))(h:SR g s w a)(A:cW g s w a s' next):m.wp P a w next Q:=by
 obtain⟨dst,op,ty,W,S,gd⟩:=m;simp only[bN,Ac,beq_iff_eq] at e;obtain⟨rfl,e⟩:=e;split at e
 ·rename_i o' t Z O t';simp only[Ac,decide_eq_true_eq] at e;obtain⟨rfl,M,N⟩:=e;have j:=bA M h.er;have z:=bA N h.er;simp only[step,As] at l;obtain⟨⟨c,v⟩,b,l⟩:=l;simp only[Aj] at l;obtain⟨rfl,rfl⟩:=l;generalize i:a.eval Z=cx at j;generalize r:a.eval O=cy at z;unfold aJV at b;split at b
  ·rename_i k p k' q G B;rw[G] at j;rw[B] at z;cases j with
   |int _ _ hp=>
   cases z with
   |int _ _ hq=>
   split at b;·simp only[Ae,Aj,decide_eq_true_eq] at b;obtain⟨f,rfl⟩:=b;obtain⟨J,H,L,I⟩:=azb (P:=P) (k':=k') f hp;refine bu h rfl (cv:=.int k (ic k p q)) ?_ (L _ _ _ _) rfl A;simp[execOp,i,r,eqGuard,binOp,J]
   ·simp only[Ae,Aj,decide_eq_true_eq] at b;obtain⟨f,rfl⟩:=b;obtain⟨J,H,L,I⟩:=azb (P:=P) (k':=k') f hp;refine bu h rfl (cv:=.int k (ep k p q)) ?_ (I _ _ _ _) rfl A;simp[execOp,i,r,eqGuard,binOp,H]
   ·rename_i Y R;split at b;·rename_i hk;subst hk;obtain⟨cv,u,C,F⟩:=aGW (P:=P) b hp;have u:=u w;refine bu h rfl (cv:=cv) ?_ (C _ _ _ _) F A;cases o<;>simp_all [execOp,eqGuard,binOp]
    ·simp at b
  ·rename_i p q G B;rw[G] at j;rw[B] at z;cases j with
   |str _ sx D ab=>
   cases z with
   |str _ sy E X=>
   subst D E;obtain⟨cv,u,C,F⟩:=aGY (P:=P) b;have u:=u w;refine bu h rfl (cv:=cv) ?_ (C _ _ _ _) F A;cases o<;>simp_all [execOp,eqGuard,binOp]
  ·simp at b
 ·simp at e
theorem mQ{e:TypeId}{k:EK}(h:ac8 P e k=true):∃i z,P.info? e=some i∧i.size=k.sz∧i.bytes=k.bytes∧i.zero=some z∧nW P e=some k.isAgg∧
  jH (enc k (aI k)) z.cells.toList=true∧z.cells.size=k.sz:=by
 unfold ac8 at h;rw[Ac] at h;obtain⟨-,h⟩:=h;split at h
 ·rename_i i d;simp only[Ac,beq_iff_eq] at h;obtain⟨f,j,l,b⟩:=h;split at b;·rename_i z c;simp only[Ac,beq_iff_eq] at b;exact⟨i,z,d,f,j,c,l,b.1,b.2⟩
  ·simp at b
 ·simp at h
theorem wv{e:TypeId}{k:EK}(h:ac8 P e k=true)(b:k=.u8):e=kQ P:=by subst b;unfold ac8 at h;rw[Ac] at h;simpa using h.1
theorem eT{t:TypeId}{k:EK}(h:mK P t k=true):∃e,P.underlying t=some (.slice e)∧ac8 P e k=true:=by
 unfold mK at h;split at h;·rename_i e b;exact⟨e,b,h⟩
 ·simp at h
theorem gv{t:TypeId}{n:Nat}(h:fm P t=some n)(w:World):(sizeOf t).run P w=.ok n w:=by unfold fm at h;obtain⟨i,b,rfl⟩:=As.1 h;simp[sizeOf,typeInfo,b]
theorem zr{t:TypeId}{b:Bool}(h:nW P t=some b)(w:World):(isAgg t).run P w=.ok b w:=by
 unfold nW at h;split at h;·rename_i f e;obtain rfl:=AF h;simp[isAgg,run_underlying e]
 ·rename_i f c e;obtain rfl:=AF h;simp[isAgg,run_underlying e]
 ·rename_i d i j e;obtain rfl:=AF h;cases d<;>simp_all [isAgg,run_underlying e]
 ·simp at h
theorem aMv{d:Nat}{k:EK}{x i:ASrc}(r:bN P (.ixa d k x i) m=true)(q:step Γ (.ixa d k x i) s=some (true,s'))(h:SR g s w a)(N:cW g s w a s' next):m.wp P a w next Q:=by
 obtain⟨dst,op,ty,M,J,gd⟩:=m;simp only[bN,Ac,beq_iff_eq] at r;obtain⟨rfl,r⟩:=r;split at r
 ·rename_i t x' i';simp only[Ac] at r;obtain⟨y,I,Z⟩:=r;have A:=bA I h.er;have E:=bA Z h.er;simp only[step] at q;split at q
  ·rename_i k' o l ki n hx hi;split at q
   ·rename_i hk;subst hk;simp only[Ae,Aj,Ac,decide_eq_true_eq] at q;obtain⟨⟨O,B⟩,rfl⟩:=q;rw[hx] at A;rw[hi] at E;obtain⟨e,R,y⟩:=eT y;obtain⟨inf,z,i1,W,i3,i4,i5,_⟩:=mQ y;generalize D:a.eval x'=cv at A;generalize C:a.eval i'=ci at E;cases E;cases A with
    |sln=>simp at B;omega
    |sle=>simp at B;omega
    |sl _ _ _ b F ai cap L H hm S f X hw hv=>
     subst L;have G:n.toNat<l.length:=by omega
     have p:l[n.toNat]? =some l[n.toNat]:=Ah G;have Y:l.getD n.toNat (aI k')=l[n.toNat]:=by simp[Af,p]
     have v:∀w':World,(sizeOf e).run P w'=.ok k'.sz w':=λw'=>by simp[sizeOf,typeInfo,i1,W]
     refine bu h rfl (cv:=.pointer (some ⟨b,F+n.toNat*k'.sz,none⟩)) ?_ ?_ rfl N;·simp[execOp,D,C,DZ,asIntOf,run_underlying R,O,B,v,BO]
     ·rw[Y];exact .ea _ _ _ (f n.toNat) (ab1 _ _) (λj u=>X _ _ _ p u) (λj u=>hw _ _ _ p u) (λj c u=>hv _ _ _ _ p u)
   ·simp at q
  ·simp at q
 ·simp at r
theorem xi{v:Value}{k:IntKind}{n:Int}{y:Nat}{b:BoundsCode}(c:0<=n)(d:n<=y)(w:World):(Instr.sliceBound (.int k n) y b).run P w=.ok n.toNat w:=by simp[Instr.sliceBound,asIntOf,c,d]
theorem akt{f cap:Nat}{isS:Bool}{B z:Option ASrc}{d c:Option Operand}{p q:Nat}(G:f<=cap)(l:mP B d=true)(i:mP z c=true)
  (b:afM f (jG s B) (jG s z)=some (true,p,q)) (h:SR g s w a):
  (CP isS f cap (d.map a.eval) (c.map a.eval) none).run P w=.ok (p,q,cap) w∧p<=q∧q<=f:=by
 have e:∀(x:ASrc)(y:Operand)(k:IntKind)(n:Int),bB x y=true->x.ev s=.int k n->a.eval y=.int k n:=by intro x y k n A j;have r:=bA A h.er;rw[j] at r;generalize L:a.eval y=cv at r;cases r;rfl
 cases B with
 |none=>
  cases d with
  |some _=>simp[mP] at l
  |none=>
  cases z with
  |none=>
   cases c with
   |some _=>simp[mP] at i
   |none=>
   simp only[jG,afM,Ae,Aj,true_and] at b;obtain⟨rfl,rfl⟩:=b;refine⟨by simp[CP],by omega,by omega⟩
  |some y=>
   cases c with
   |none=>simp[mP] at i
   |some E=>
   simp only[mP] at i;simp only[jG] at b;cases t:y.ev s<;>rw[t] at b<;>simp[afM] at b;rename_i k n;obtain⟨⟨u,C⟩,rfl,rfl⟩:=b;have:=e _ _ _ _ i t;refine⟨?_,by omega,by omega⟩;simp[CP,this,xi (P:=P) (v:=.int k n) u (show n<=(cap:Int) by omega)]
 |some x=>
  cases d with
  |none=>simp[mP] at l
  |some N=>
  simp only[mP] at l;cases z with
  |none=>
   cases c with
   |some _=>simp[mP] at i
   |none=>
   simp only[jG] at b;cases j:x.ev s<;>rw[j] at b<;>simp[afM] at b;rename_i k n;obtain⟨⟨u,C⟩,rfl,rfl⟩:=b;have:=e _ _ _ _ l j;refine⟨?_,by omega,by omega⟩;simp[CP,this,xi (P:=P) (v:=.int k n) u C]
  |some y=>
   cases c with
   |none=>simp[mP] at i
   |some E=>
   simp only[mP] at i;simp only[jG] at b;cases j:x.ev s<;>rw[j] at b<;>cases t:y.ev s<;>rw[t] at b<;>simp[afM] at b;rename_i k n H D;obtain⟨⟨⟨u,C⟩,I,M⟩,rfl,rfl⟩:=b;have F:=e _ _ _ _ l j;have J:=e _ _ _ _ i t;refine⟨?_,by omega,by omega⟩;simp[CP,F,J,xi (P:=P) (v:=.int H D) u (show D<=(cap:Int) by omega),xi (P:=P) (v:=.int k n) I (show n<=(D.toNat:Int) by omega)]
theorem aLo{d:Nat}{x:ASrc}{r u:Option ASrc}(f:bN P (.subs d x r u) m=true)(e:step Γ (.subs d x r u) s=some (true,s'))(h:SR g s w a)(C:cW g s w a s' next):m.wp P a w next Q:=by
 obtain⟨dst,R,W,B,z,M⟩:=m;simp only[bN,Ac,beq_iff_eq] at f;obtain⟨rfl,f⟩:=f;split at f
 ·rename_i t G F J;simp only[Ac] at f;obtain⟨k,y,E,L⟩:=f;have i:=bA y h.er;simp only[step] at e;split at e
  ·rename_i l I;simp only[As] at e;obtain⟨⟨c,p,q⟩,v,e⟩:=e;simp only[Aj] at e;obtain⟨rfl,rfl⟩:=e;rw[I] at i;split at k
   ·rename_i D;generalize j:a.eval G=cv at i;cases i with
    |str _ b A O=>
     subst A;rw[kp] at v;obtain⟨H,N,S⟩:=akt (P:=P) (isS:=false) (Ap _) E L v h;refine bu h rfl (cv:=.string (b.extract p q)) ?_ (.str _ _ ?_ ?_) rfl C;·simp[execOp,j,Do,DN,run_underlying D,H]
     ·simp[D6,CW]
     ·simp[ByteArray.size_extract];omega
   ·simp at k
  ·simp at e
 ·simp at f
theorem aLp{d:Nat}{k:EK}{x:ASrc}{lo F:Option ASrc}(G:bN P (.subl d k x lo F) m=true)(B:step Γ (.subl d k x lo F) s=some (true,s'))(h:SR g s w a)(O:cW g s w a s' next):m.wp P a w next Q:=by
 obtain⟨dst,op,ty,ak,ah,gd⟩:=m;simp only[bN,Ac,beq_iff_eq] at G;obtain⟨rfl,G⟩:=G;split at G
 ·rename_i t x' ap av;simp only[Ac] at G;obtain⟨W,h2,Z,h4⟩:=G;have Y:=bA h2 h.er;simp only[step] at B;split at B
  ·rename_i k' o l hx;split at B
   ·rename_i hk;subst hk;simp only[As] at B;obtain⟨⟨c,p,q⟩,hv,B⟩:=B;simp only[Aj] at B;obtain⟨rfl,rfl⟩:=B;rw[hx] at Y;obtain⟨e,R,W⟩:=eT W;obtain⟨inf,z,i1,i2,i3,i4,i5,_⟩:=mQ W;have C:∀w':World,(sizeOf e).run P w'=.ok k'.sz w':=λw'=>by simp[sizeOf,typeInfo,i1,i2]
    generalize D:a.eval x'=cv at Y;cases Y with
    |sln=>
     obtain⟨E,e2,S⟩:=akt (P:=P) (isS:=true) (Ap _) Z h4 hv h;simp only[Al] at E S;obtain rfl:q=0:=by omega
     obtain rfl:p=0:=by omega
     refine bu h rfl (cv:=.slice none 0 0) ?_ ?_ rfl O;·simp[execOp,D,Do,DN,run_underlying R,E,C]
     ·simpa using VRel.sln (I:=g.I) (ρ:=g.ρ) (N:=s.hp.length) (w:=w) k' (.may false)
    |sle _ _ ad _=>
     obtain⟨E,e2,S⟩:=akt (P:=P) (isS:=true) (Ap _) Z h4 hv h;simp only[Al] at E S;obtain rfl:q=0:=by omega
     obtain rfl:p=0:=by omega
     refine bu h rfl (cv:=.slice (some ad) 0 0) ?_ ?_ rfl O;·simp[execOp,D,Do,DN,run_underlying R,E,C]
     ·simpa using VRel.sle (I:=g.I) (ρ:=g.ρ) (N:=s.hp.length) (w:=w) k' (.may false) ad (by simp)
    |sl _ _ _ b r aw cap hl H hm al f hI hw X=>
     subst hl;obtain⟨E,e2,S⟩:=akt (P:=P) (isS:=true) H Z h4 hv h;by_cases L:cap=p
     ·subst L;have hq:q=cap:=by omega
      subst hq;have J:(l.take q).drop q=[]:=by simp
      refine bu h rfl (cv:=.slice (some ⟨b,r,none⟩) 0 0) ?_ ?_ rfl O;·simp[execOp,D,Do,DN,run_underlying R,E,C]
      ·rw[J];exact .sl k' (.may false) [] b r 0 0 rfl (by simp) (by simp[cj]) (by simp) f (λi x j F=>by simp at F) (λi x j F=>by simp at F) (λi x j v F=>by simp at F)
     ·refine bu h rfl (cv:=.slice (some ⟨b,r+p*k'.sz,none⟩) (q-p) (cap-p)) ?_ ?_ rfl O;·simp[execOp,D,Do,DN,run_underlying R,E,C,L,BO]
      ·have u:∀(i:Nat) y,((l.take q).drop p)[i]? =some y->l[p+i]? =some y:=by
        intro i y A;simp only[Bk,AY] at A;split at A;·exact A
        ·simp at A
       refine .sl k' (.may false) _ b _ _ _ ?_ ?_ (by omega) (by simp) (λi j=>f (p+i) j) ?_ ?_ ?_;·simp;omega
       ·simp;omega
       ·intro i y j A M;have:=hI _ _ _ (u i y A) M
        rwa [show r+p*k'.sz+i*k'.sz+j=r+(p+i)*k'.sz+j by rw[AO];omega]
       ·intro i y j A M;have:=hw _ _ _ (u i y A) M
        rwa [show r+p*k'.sz+i*k'.sz+j=r+(p+i)*k'.sz+j by rw[AO];omega]
       ·intro i y j v A M;exact X _ _ _ _ (u i y A) M
   ·simp at B
  ·simp at B
 ·simp at G
theorem aMw{d e:Nat}{x:ASrc}(p:bN P (.fad d e x) m=true)(v:step Γ (.fad d e x) s=some (true,s'))(h:SR g s w a)(E:cW g s w a s' next):m.wp P a w next Q:=by
 obtain⟨dst,Y,Z,J,I,X⟩:=m;simp only[bN,Ac,beq_iff_eq] at p;obtain⟨rfl,p⟩:=p;split at p
 ·rename_i t F R;simp only[Ac] at p;obtain⟨k,G⟩:=p;have r:=bA G h.er;split at k
  ·rename_i fs L;split at k
   ·rename_i W y;simp only[Ac,beq_iff_eq] at k;obtain⟨H,k⟩:=k;have l:∀w':World,∃n,n≠0∧(sizeOf W.type).run P w'=.ok n w':=by
     intro w';unfold atb fm at k;split at k;·rename_i n z;exact⟨n,by simpa using k,gv (by simpa [fm] using z) w'⟩
     ·simp at k
    obtain⟨n,C,l⟩:=l w;have i:∀b o,(Instr.fieldAt t (.pointer (some ⟨b,o,none⟩)) R).run P w=.ok (.pointer (some ⟨b,o+e,none⟩)) w:=by intro b o;simp[Instr.fieldAt,run_underlying L,y,BF,fieldPlace,l,C,H,BO]
    simp only[step] at v;split at v
    ·rename_i cs D;obtain rfl:_=s':=by simpa using v
     rw[D] at r;generalize q:a.eval F=cv at r;cases r with
     |ea _ b o f O M N S=>
      refine bu h rfl (cv:=.pointer (some ⟨b,o+e,none⟩)) (by simp[execOp,q,i]) ?_ rfl E;refine .ea _ _ _ (λj=>f (e+j)) (λc A=>O c (Bw A)) ?_ ?_ ?_
      ·intro j u;simp only[AL] at u;have:=M (e+j) (by omega)
       rwa [Co]
      ·intro j u;simp only[AL] at u;have:=N (e+j) (by omega)
       rwa [Co]
      ·intro j c u;rw[Bk] at u;exact S _ _ u
    ·rename_i id o D;obtain rfl:_=s':=by simpa using v
     rw[D] at r;generalize q:a.eval F=cv at r;cases r with
     |ptr _ _ B=>exact bu h rfl (cv:=.pointer (some ⟨g.ρ id,o+e,none⟩)) (by simp[execOp,q,i]) (.ptr _ _ B) rfl E
    ·simp at v
   ·simp at k
  ·simp at k
 ·simp at p
theorem uX{I:Nat->Nat->Prop}{ρ:Nat->Nat}{N:Nat}{agg:Bool}{cs:List V}{vs:List Value}(l:∀c∈cs,c.one=true)(k:cs.length=vs.length)(f:agg=true∨cs.length=1)
  (j:∀(i:Nat) c cv,cs[i]? =some c->vs[i]? =some cv->VRel I ρ N w c cv):VRel I ρ N w (loaded agg cs) (if agg then .agg vs.toArray else vs.headD undef):=by
 cases agg with
 |true=>
  simp only[loaded,if_true];refine .agg _ _ (by simpa using k) ?_ ?_ ?_;·intro c b;obtain⟨e,d,rfl⟩:=AH.1 b;rw[nV];exact l e d
  ·intro i c cv b _;rw[AA,As] at b;obtain⟨e,_,rfl⟩:=b;exact ako e cv
  ·intro i c cv b h;rw[AA,As] at b;obtain⟨e,d,rfl⟩:=b;exact(j i _ _ d (by simpa using h)).disown
 |false=>
  have f:cs.length=1:=by simpa using f
  match cs,vs,k,f with
  | [c],[v],_,_=>exact j 0 c v rfl rfl
theorem aMx{d b n:Nat}{agg:Bool}{x:ASrc}(f:bN P (.fld d b n agg x) m=true)(l:step Γ (.fld d b n agg x) s=some (true,s'))(h:SR g s w a)(G:cW g s w a s' next):m.wp P a w next Q:=by
 obtain⟨dst,Y,Z,F,D,W⟩:=m;simp only[bN,Ac,beq_iff_eq] at f;obtain⟨rfl,f⟩:=f;split at f
 ·rename_i t L X;simp only[Ac] at f;obtain⟨k,C⟩:=f;have u:=bA C h.er;split at k
  ·rename_i fs z;split at k
   ·rename_i fd p;simp only[Ac,beq_iff_eq,Bg] at k;obtain⟨y,A,B,j⟩:=k;simp only[step] at l;split at l
    ·rename_i cs S;split at l
     ·rename_i J;obtain rfl:_=s':=by simpa using l
      rw[S] at u;generalize e:a.eval L=cv at u;cases u with
      |agg _ vs E M _ R=>
       have r:=uX (agg:=agg) (cs:=(cs.drop b).take n) (vs:=(vs.toList.drop b).take n) (w:=w) (I:=g.I) (ρ:=g.ρ) (N:=s.hp.length)
        (λc v=>M c (Bw (Bv v))) (by simp[E]) (by
         rcases j with j|j;·exact .inl j
         ·right;simp;omega)
        (λi c cv f e=>by
         simp only[AY,Bk] at f e;split at f;·rename_i O;simp only[O,if_true] at e;exact R _ _ _ f (by simpa using e)
         ·simp at f)
       refine bu h rfl (cv:=if agg then .agg ((vs.toList.drop b).take n).toArray else ((vs.toList.drop b).take n).headD undef) ?_ r.disown ?_ G
       ·cases agg with
        |true=>simp[execOp,e,Instr.field,run_underlying z,p,asAgg,part,zr B,gv A,y];apply Array.ext';simp[D6]
        |false=>
         have j:n=1:=by simpa using j
         subst j;have q:b<vs.size:=by omega
         have:vs[b]? =some vs[b]:=Am q;have H:(vs.toList.drop b).take 1=[vs[b]]:=by rw[BD (by simpa using q)];simp
         simp[execOp,e,Instr.field,run_underlying z,p,asAgg,part,zr B,gv A,y,this,H]
       ·exact dZ _
     ·simp at l
    ·simp at l
   ·simp at k
  ·simp at k
 ·simp at f
theorem aMy{d i:Nat}{x:ASrc}(b:bN P (.ext d i x) m=true)(c:step Γ (.ext d i x) s=some (true,s'))(h:SR g s w a)(u:cW g s w a s' next):m.wp P a w next Q:=by
 obtain⟨dst,D,E,t,r,A⟩:=m;simp only[bN,Ac,beq_iff_eq] at b;obtain⟨rfl,b⟩:=b;split at b
 ·rename_i v C;simp only[Ac,beq_iff_eq] at b;obtain⟨rfl,j⟩:=b;have k:=bA j h.er;simp only[step] at c;split at c
  ·rename_i vs z;split at c
   ·rename_i l;obtain rfl:_=s':=by simpa using c
    rw[z] at k;generalize p:a.eval v=cv at k;cases k with
    |tup _ cvs B y=>
     have q:vs[i]? =some vs[i]:=Ah l;have f:i<cvs.size:=by omega
     have j:cvs[i]? =some cvs[i]:=Am f;have e:vs[i]?.getD V.undef=vs[i]:=by simp[q]
     refine bu h rfl (cv:=cvs[i]) (by simp[execOp,p,Instr.extract,j]) ?_ (dZ _) u;rw[e];exact(y _ _ _ q j).disown
   ·simp at c
  ·simp at c
 ·simp at b
theorem aMz{d:Option Nat}{x:ASrc}(f:bN P (.nck d x) m=true)(j:step Γ (.nck d x) s=some (true,s'))(h:SR g s w a)(t:cW g s w a s' next):m.wp P a w next Q:=by
 obtain⟨dst,B,y,k,i,r⟩:=m;simp only[bN,Ac,beq_iff_eq] at f;obtain⟨rfl,f⟩:=f;split at f
 ·rename_i l;have b:=bA f h.er;have key:∀v cv,VRel g.I g.ρ s.hp.length w v cv->v.bare=true->(execOp a.eval ⟨dst,.nilCheck l,y,k,i,r⟩).run P w=.ok (.value cv) w->cW g s w a (s.setO dst v) next->(⟨dst,.nilCheck l,y,k,i,r⟩:Oper).wp P a w next Q:=by
   intro v cv A z u q;cases dst with
   |some d=>exact bu h rfl u A z q
   |none=>unfold C4 C1;rw[u];exact q _ _ g h (FR.refl _ _ _) rfl
  simp only[step] at j;split at j
  ·rename_i id o p;obtain rfl:_=s':=by simpa using j
   rw[p] at b;generalize e:a.eval l=cv at b;have c:=b;cases b;exact key _ _ c rfl (by simp[execOp,e]) t
  ·rename_i cs p;obtain rfl:_=s':=by simpa using j
   rw[p] at b;generalize e:a.eval l=cv at b;have c:=b;cases b;exact key _ _ c rfl (by simp[execOp,e]) t
  ·simp at j
 ·simp at f
theorem pQ{t:TypeId}{n:Nat}{agg:Bool}{b o:Nat}{vs:List Value}(e:fm P t=some n)(c:nW P t=some agg)(d:agg=true∨n=1)(f:vs.length=n)
  (h:∀(j:Nat) v,vs[j]? =some v->w.cell? ⟨b,o+j,none⟩=some v):
  (Dz t (.pointer (some ⟨b,o,none⟩))).run P w=.ok (if agg then .agg vs.toArray else vs.headD undef) w:=by
 cases agg with
 |true=>have:=run_loadCells_list (P:=P) w ⟨b,o,none⟩ vs (λj v i=>by rw[BO];exact h j v i);rw[f] at this;simp[Dz,BF,loadVar,zr c,gv e,this]
 |false=>
  have d:n=1:=by simpa using d
  subst d;match vs,f with
  | [v],_=>have:=h 0 v rfl;simp only[B6] at this;simp[Dz,BF,loadVar,zr c,this]
theorem atc{id:Nat}{cs:List V}(b:s.obj id=some cs):s.hp[id]? =some (some cs)∧dH cs=false∧kP cs=false:=by
 unfold St.obj at b;simp only[Af] at b;cases i:s.hp[id]? with
 |none=>rw[i] at b;simp at b
 |some x=>
  rw[i] at b;simp only[A8] at b;split at b;·cases b
  ·cases b
  ·cases b
  ·cases b
  ·rename_i h d f e;subst b;refine⟨rfl,?_,?_⟩
   rotate_left
   ·cases j:kP cs with
    |false=>rfl
    |true=>obtain⟨k,es,rfl⟩:=afN j;exact(f _ _ rfl).elim
   cases c:dH cs with
   |false=>rfl
   |true=>
    unfold dH at c;split at c;·exact(h _ rfl).elim
    ·exact(d _ _ rfl).elim
    ·exact(e _ rfl).elim
    ·cases c
theorem jJ{id:Nat}{cs:List V}(b:s.obj id=some cs):s.hp[id]? =some (some cs)∧dH cs=false:=⟨(atc b).1,(atc b).2.1⟩
theorem yz{id:Nat}{cs:List V}(h:HR g s.hp w)(c:s.obj id=some cs):∃b e,w.heap[g.ρ id]? =some (.cells b e (0,0))∧anW g s.hp.length w id cs b e:=by obtain⟨d,f,i⟩:=atc c;obtain⟨b,e,p,k,l⟩:=(h.obj id cs d).row i;obtain⟨rfl,j⟩:=l.low f;exact⟨b,e,k,j⟩
theorem bk{b:Nat}{c:Array Value}{e:TypeId}{d:Nat×Nat}(h:w.heap[b]? =some (.cells c e d))(j:Nat):w.cell? ⟨b,j,none⟩=c[j]?:=by simp[By,h]
theorem aGZ{d n:Nat}{agg:Bool}{x:ASrc}(l:bN P (.ld d n agg false x) m=true)(q:step Γ (.ld d n agg false x) s=some (true,s'))(h:SR g s w a)(L:cW g s w a s' next):m.wp P a w next Q:=by
 obtain⟨dst,op,ty,S,R,gd⟩:=m;simp only[bN,Ac,beq_iff_eq] at l;obtain⟨rfl,l⟩:=l;split at l
 ·rename_i t M;simp only[Ac,beq_iff_eq,Bg] at l;obtain⟨H,J,r,h4⟩:=l;have B:=bA h4 h.er;simp only[step] at q;split at q
  ·rename_i cs G;split at q
   ·rename_i D;obtain rfl:_=s':=by simpa using q
    rw[G] at B;generalize k:a.eval M=cv at B;cases B with
    |ea _ b o f Y hI hw hv=>
     have p:=uX (agg:=agg) (cs:=cs.take n) (vs:=(BN n).map f) (w:=w) (I:=g.I) (ρ:=g.ρ) (N:=s.hp.length)
      (λc y=>Y c (Bv y)) (by simp;omega) (by
       rcases r with r|r;·exact .inl r
       ·right;simp;omega)
      (λi c cv l k=>by
       simp only[AY] at l;split at l;·rename_i F;simp[F] at k;subst k;exact hv _ _ l
       ·simp at l)
     refine bu h rfl (cv:=if agg then .agg ((BN n).map f).toArray else ((BN n).map f).headD undef) ?_ p.disown (dZ _) L;have:=pQ (P:=P) (w:=w) (b:=b) (o:=o) (vs:=(BN n).map f) H J r (by simp) (λj v A=>by rw[AA,As] at A;obtain⟨j',E,rfl⟩:=A;obtain⟨C,rfl⟩:=Ag.1 E;simp only[D5] at C;simpa using hw j (by omega));simp[execOp,k,this]
   ·simp at q
  ·rename_i id o G;split at q
   ·rename_i cs X;split at q
    ·rename_i D;obtain rfl:_=s':=by simpa using q
     rw[G] at B;generalize k:a.eval M=cv at B;cases B with
     |ptr _ _ Z=>
      obtain⟨u,e,W,z⟩:=yz h.hr X;have O:=z.len
      have p:=uX (agg:=agg) (cs:=(cs.drop o).take n) (vs:=(u.toList.drop o).take n) (w:=w) (I:=g.I) (ρ:=g.ρ) (N:=s.hp.length)
       (λc y=>z.one c (Bw (Bv y))) (by simp;omega) (by
        rcases r with r|r;·exact .inl r
        ·right;simp;omega)
       (λi c cv l k=>by
        simp only[AY,Bk] at l k;split at l;·rename_i F;simp only[F,if_true] at k;exact z.rel _ _ _ l (by simpa using k)
        ·simp at l)
      refine bu h rfl (cv:=if agg then .agg ((u.toList.drop o).take n).toArray else ((u.toList.drop o).take n).headD undef) ?_ p.disown (dZ _) L;have:=pQ (P:=P) (w:=w) (b:=g.ρ id) (o:=o) (vs:=(u.toList.drop o).take n) H J r (by simp;omega) (λj v A=>by
       rw[bk W];simp only[AY,Bk] at A;split at A;·simpa using A
       ·simp at A)
      simp[execOp,k,this]
    ·simp at q
   ·simp at q
  ·simp at q
 ·simp at l
theorem aNz{d:Nat}{v:Bool}{x y:ASrc}(c:bN P (.mx d v x y) m=true)(j:step Γ (.mx d v x y) s=some (true,s'))(h:SR g s w a)(G:cW g s w a s' next):m.wp P a w next Q:=by
 obtain⟨dst,H,N,B,A,I⟩:=m;simp only[bN,Ac,beq_iff_eq] at c;obtain⟨rfl,c⟩:=c;simp only[step] at j;have fin:∀f e z (b:Builtin),H=.call ⟨.builtin b,⟨[f,e]⟩,z⟩->(b=if v then Builtin.min else Builtin.max)->bB x f=true->bB y e=true->(⟨some d,H,N,B,A,I⟩:Oper).wp P a w next Q:=by
  rintro f e z b rfl F l r;have C:=bA l h.er;have E:=bA r h.er;split at j
  ·rename_i k p k' q M J;split at j
   ·rename_i L;subst L;obtain rfl:_=s':=by simpa using j
    rw[M] at C;rw[J] at E;generalize t:a.eval f=S at C;generalize u:a.eval e=O at E;cases C with
    |int _ _ hp=>
    cases E with
    |int _ _ R=>
    cases v with
    |true=>subst F;refine bu h rfl (cv:=.int k (if q<p then q else p)) ?_ (.int _ _ (by split<;>assumption)) rfl G;simp[execOp,resolve,t,u,invoke,builtin,Builtin.min_,Builtin.min2]
    |false=>subst F;refine bu h rfl (cv:=.int k (if p<q then q else p)) ?_ (.int _ _ (by split<;>assumption)) rfl G;simp[execOp,resolve,t,u,invoke,builtin,Builtin.max_,Builtin.max2]
   ·simp at j
  ·simp at j
 split at c;·rename_i f e z i;simp only[Ac] at c;obtain⟨D,l,r⟩:=c;exact fin f e _ .min (nX i) (by simp[D]) l r
 ·rename_i f e z i;simp only[Ac,BE] at c;obtain⟨D,l,r⟩:=c;exact fin f e _ .max (nX i) (by simp[D]) l r
 ·simp at c
theorem aBX{t e:TypeId}(b:P.underlying t=some (.slice e))(a:Addr)(l c:Nat)(w:World):(Op.equal t (.slice (some a) l c) (.slice none 0 0)).run P w=.ok false w:=by show (Op.equalIn (9999+1) t _ _).run P w=_;rw[Op.equalIn];simp[run_underlying b]
theorem aLq{d:Nat}{x:ASrc}(i:bN P (.snil d x) m=true)(j:step Γ (.snil d x) s=some (true,s'))(h:SR g s w a)(B:cW g s w a s' next):m.wp P a w next Q:=by
 obtain⟨dst,W,Y,A,z,I⟩:=m;simp only[bN,Ac,beq_iff_eq] at i;obtain⟨rfl,i⟩:=i;split at i
 ·rename_i o' t C J O;simp only[Ac,decide_eq_true_eq] at i;obtain⟨rfl,u,v,r⟩:=i;obtain⟨e,y⟩:∃e,P.underlying t=some (.slice e):=by
   split at u;·exact⟨_,by assumption⟩
   ·simp at u
  split at r
  ·have p:=bA v h.er;simp only[step] at j;generalize l:a.eval C=M at p;split at j
   ·rename_i k o xs F;simp only[Ae,Aj,decide_eq_true_eq] at j;obtain⟨c,rfl⟩:=j;rw[F] at p;cases p with
    |sln=>simp at c
    |sle=>simp at c
    |sl _ _ _ b G E cap L D S H f N R X=>
    refine bu h rfl (cv:=.bool false) ?_ (.bool _) rfl B;have q:a.eval (.const (.slice none 0 0))=.slice none 0 0:=rfl;simp[execOp,l,q,eqGuard,binOp,aBX y]
   ·simp at j
  ·simp at r
 ·simp at i
end
section
variable{w w':World}{g g':Gh}{s s':St}{a:Act}{P:Program}
theorem qI(k:EK)(x:Ty k):∀c∈enc k x,c.bare=true:=by cases k<;>simp[enc,V.bare]
def zt(p:Option Occ)(s:St):Prop:=
 match p with
 |some (.slot n)=>∀v,s.env[n]? =some v->v.bare=true
 |some (.cell id j)=>∀cs v,s.hp[id]? =some (some cs)->cs[j]? =some v->v.bare=true
 |_=>True
theorem SR.keep(h:SR g s w a)(p:Option Occ)(hp:zt p s)(t:g'.β=g.β)(u:Up g.I g.ρ s.hp.length w g'.I g'.ρ s.hp.length w')
  (M:∀f b,g.O b=some f->p≠some f->g'.O b=some f∧w'.heap[b]? =w.heap[b]?∧∀j,g'.I b j->g.I b j)
  (C:∀(id:Nat) cs,s.hp[id]? =some (some cs)->w'.heap[g.ρ id]? =w.heap[g.ρ id]?∧g'.O (g.ρ id)=none∧∀j,g'.I (g.ρ id) j->g.I (g.ρ id) j)
  (E:∀b j,g'.I b j->(w'.cell? ⟨b,j,none⟩).isSome=true) (G:∀b o,g'.O b=some o->b<w'.heap.size):SR g' s w' a:=by
 have own:∀f v cv,aP g w f v cv->(p=some f->v.bare=true)->aP g' w' f v cv:=by
  intro f v cv r l;by_cases e:p=some f;·exact jI (l e) _ _ _ _
  ·exact dg r t (λb j y=>⟨u.mono b j y,u.cell b j y⟩) (λb J=>M f b J e)
 have lt:∀(id:Nat) cs,s.hp[id]? =some (some cs)->id<s.hp.length:=λid cs d=>(Ag.1 d).1
 refine⟨⟨?_,?_,?_,?_,E,G⟩,⟨h.er.size,?_,?_⟩⟩
 ·intro id cs d;refine(h.hr.obj id cs d).keep ?_ λN e S r l=>⟨l.len,l.plain,l.typedUp t u.rho u.num rfl,l.cold,l.one,λj c cv m i=>(l.rel j c cv m i).up u,λj c cv m i=>?_,by rw[u.rho id (lt id cs d)];exact l.bn⟩
  ·rw[u.rho id (lt id cs d),(C id cs d).1]
  ·refine own _ _ _ (l.own j c cv m i) ?_;rintro rfl;cases A:dH cs with
   |false=>rw[jW A] at m;exact hp cs c d m
   |true=>
    unfold dH at A;split at A;·simp only[cellsOf,AA,As] at m;obtain⟨_,_,rfl⟩:=m;rfl
    ·rename_i k xs;have H:=Ar m;simp only[cellsOf,AS] at H;obtain⟨x,_,F⟩:=H;exact qI k x c F
    ·rcases aId m (l.one c (Ar m)) with⟨k,x,F⟩|⟨Q,L,R,_,rfl⟩
     ·exact qI k x c F
     ·rfl
    ·cases A
 ·intro id q cs z r l D;rw[u.rho id (lt id cs r),u.rho q (lt q z l)];exact h.hr.apart id q cs z r l D
 ·intro id cs d j y;rw[u.rho id (lt id cs d)] at y;exact h.hr.notI id cs d j ((C id cs d).2.2 j y)
 ·intro id cs d;rw[u.rho id (lt id cs d)];exact(C id cs d).2.1
 ·intro n v cv B i;exact(h.er.rel n v cv B i).up u
 ·intro n v cv B i;refine own _ _ _ (h.er.own n v cv B i) ?_;rintro rfl;exact hp v B
theorem SR.bare(h:SR g s w a)(n:Nat):SR g (s.set n (disown (s.get n))) w a:=by
 refine⟨h.hr,⟨by simp[St.set,h.er.size],?_,?_⟩⟩
 ·intro m v cv b c;simp only[St.set,Ax] at b;by_cases e:n=m
  ·subst e;simp only[if_true] at b;split at b
   ·cases AF b;rename_i d;have:s.env[n]? =some (s.get n):=by simp[St.get,Af,Ah d]
    exact(h.er.rel n _ cv this c).disown
   ·simp at b
  ·simp only[e,if_false] at b;exact h.er.rel m v cv b c
 ·intro m v cv b c;simp only[St.set,Ax] at b;by_cases e:n=m
  ·subst e;simp only[if_true] at b;split at b;·cases AF b;exact aP.disown _ _ _ _ _
   ·simp at b
  ·simp only[e,if_false] at b;exact h.er.own m v cv b c
theorem SR.after(h:SR g s w a)(x:ASrc):SR g (x.after s) w a:=by
 cases x with
 |tk n=>exact h.bare n
 |_=>exact h
theorem qJ(x:ASrc)(s:St):(x.after s).hp=s.hp:=by cases x<;>rfl
theorem acL(n:Nat)(s:St):zt (some (.slot n)) ((ASrc.tk n).after s):=by
 intro v b;simp only[ASrc.after,St.set,Ax,if_true] at b;split at b;·cases AF b;exact dZ _
 ·simp at b
def Gh.reown(g:Gh)(b:Nat)(o:Occ):Gh:={g with O:=λc=>if c=b then some o else g.O c}
theorem SR.reown(h:SR g s w a){p q:Occ}(hp:zt (some p) s){b:Nat}(k:g.O b=some p):SR (g.reown b q) s w a:=by
 refine h.keep (some p) hp rfl (Up.refl _ _ _ _) ?_ ?_ h.hr.exI ?_
 ·intro r m c i;have:m≠b:=by
   rintro rfl;rw[k] at c;exact i c
  exact⟨by simp[Gh.reown,this,c],rfl,λj d=>d⟩
 ·intro id cs l;refine⟨rfl,?_,λj d=>d⟩;have f:=h.hr.notO id cs l;have:g.ρ id≠b:=by
   rintro e;rw[e,k] at f;simp at f
  simp[Gh.reown,this,f]
 ·intro m o c;simp only[Gh.reown] at c;split at c;·rename_i e;subst e;exact h.hr.oLt _ _ k
  ·exact h.hr.oLt _ _ c
theorem FR.reown{hp:List aK}{p q:Occ}{b:Nat}(f:g.O b=some p):FR g hp w (g.reown b q) hp w:=by
 refine⟨rfl,rfl,rfl,rfl,Ap _,λ_ _ _ _=>rfl,Up.refl _ _ _ _,λ_ _ _ _ _ d=>d,?_,λ_ cs h=>.inl ⟨cs,h⟩⟩;intro e _ _ c;have:e≠b:=by rintro rfl;rw[f] at c;simp at c
 simp[Gh.reown,this,c]
theorem atd{p q:Occ}{v:V}{cv:Value}(h:SR g s w a)(hp:zt (some p) s)(f:aP g w p v cv):
  ∃g₁,SR g₁ s w a∧FR g s.hp w g₁ s.hp w∧g₁.I=g.I∧g₁.ρ=g.ρ∧aP g₁ w q v cv:=by
 cases v with
 |sl k o xs=>
  cases o with
  |may u=>exact⟨g,h,FR.refl _ _ _,rfl,rfl,by simp[aP]⟩
  |own=>
   cases cv with
   |slice d r cap=>
    cases d with
    |none=>exact⟨g,h,FR.refl _ _ _,rfl,rfl,by simp[aP]⟩
    |some d=>obtain⟨c,i,j⟩:=f;exact⟨g.reown d.block q,h.reown hp c,FR.reown c,rfl,rfl,by simp[Gh.reown],i,j⟩
   |_=>exact⟨g,h,FR.refl _ _ _,rfl,rfl,by simp[aP]⟩
 |raw n=>
  cases cv with
  |pointer d=>
   cases d with
   |none=>exact⟨g,h,FR.refl _ _ _,rfl,rfl,by simp[aP]⟩
   |some d=>obtain⟨c,i,j⟩:=f;exact⟨g.reown d.block q,h.reown hp c,FR.reown c,rfl,rfl,by simp[Gh.reown],i,j⟩
  |_=>exact⟨g,h,FR.refl _ _ _,rfl,rfl,by simp[aP]⟩
 |ul k xs=>
  rcases f with f|⟨b,cap,l,e,x,t,c,i,j,m,y⟩
  ·exact⟨g,h,FR.refl _ _ _,rfl,rfl,.inl f⟩
  ·exact⟨g.reown b q,h.reown hp m,FR.reown m,rfl,rfl,.inr ⟨b,cap,l,e,x,t,c,i,j,by simp[Gh.reown],y⟩⟩
 |_=>exact⟨g,h,FR.refl _ _ _,rfl,rfl,by simp[aP]⟩
theorem SR.newRow(h:SR g s w a)(k:EK)(xs:List (Ty k))(cap d:Nat)(f:Array Value)(e:TypeId)(N:Nat×Nat)
  (Z:w'.heap.size=w.heap.size+1) (l:∀b,b<w.heap.size->w'.heap[b]? =w.heap[b]?) (t:w'.heap[w.heap.size]? =some (.cells f e N))
  (W:w'.os=w.os) (Q:w'.tape=w.tape) (G:w'.output=w.output)
  {o:Fl} (S:o=.may true->xs.length=cap) (H:xs.length<=cap) (hm:cap<=cj) (r:cap*k.sz<=f.size) (E:k=.u8->e=g.β)
  (X:∀j,xs.length*k.sz<=j->j<cap*k.sz->¬(N.1<=j∧j<N.2))
  (M:∀(i:Nat) x j v,xs[i]? =some x->(enc k x)[j]? =some v->∃cv,f[i*k.sz+j]? =some cv∧VRel g.I g.ρ s.hp.length w v cv):
  ∃g',SR g' (s.set d (.sl k o xs)) w' (a.put (some d) (.slice (some ⟨w.heap.size,0,none⟩) xs.length cap))∧FR g s.hp w g' s.hp w':=by
 let g':Gh:={I:=λb j=>g.I b j∨(b=w.heap.size∧j<xs.length*k.sz),ρ:=g.ρ,O:=λb=>if b=w.heap.size then some (.slot d) else g.O b,β:=g.β}
 have A:∀b j,g.I b j->b<w.heap.size:=by intro b j z;obtain⟨v,M⟩:=Bq.1 (h.hr.exI b j z);exact BL _ _ M
 have p:∀b j,b<w.heap.size->w'.cell? ⟨b,j,none⟩=w.cell? ⟨b,j,none⟩:=by intro b j m;simp[By,l b m]
 have u:Up g.I g.ρ s.hp.length w g'.I g'.ρ s.hp.length w':=⟨λb j z=>.inl z,λb j z=>p b j (A b j z),λ_ _=>rfl,Ap _⟩
 have q:∀j,w'.cell? ⟨w.heap.size,j,none⟩=f[j]?:=λj=>bk t j
 have Y:xs.length*k.sz<=f.size:=A7 (AV _ H) r;have hs:SR g' s w' a:=by
  refine h.keep none trivial rfl u ?_ ?_ ?_ ?_
  ·intro R b m _;have y:=h.hr.oLt b R m;refine⟨by simp[g',Be y,m],l b y,?_⟩;rintro j (c|⟨c,_⟩);·exact c
   ·omega
  ·intro id cs J;have y:=(h.hr.obj id cs J).lt;refine⟨l _ y,by simp[g',Be y,h.hr.notO id cs J],?_⟩;rintro j (c|⟨c,_⟩);·exact c
   ·omega
  ·rintro b j (c|⟨rfl,c⟩);·rw[p b j (A b j c)];exact h.hr.exI b j c
   ·rw[q,Am (by omega)];rfl
  ·intro b o m;simp only[g'] at m;split at m;·omega
   ·have:=h.hr.oLt b o m;omega
 have F:∀(i:Nat) x,xs[i]? =some x->i<xs.length:=λi x B=>(Ag.1 B).1
 have D:∀(i j:Nat),i<xs.length->j<k.sz->i*k.sz+j<xs.length*k.sz:=by
  intro i j z c
  calc i*k.sz+j<i*k.sz+k.sz:=by omega
   _=(i+1)*k.sz:=by rw[AO,CM]
   _<=xs.length*k.sz:=AV _ z
 refine⟨g',hs.set d ?_ ?_,⟨rfl,W,Q,G,by omega,λb m _ _=>l b m,u,?_,?_,λ_ cs h=>.inl ⟨cs,h⟩⟩⟩
 ·refine .sl k o xs _ _ _ _ rfl H hm S (λi j=>f[i*k.sz+j]?.getD undef) ?_ ?_ ?_;·intro i x j B c;rw[cQ] at c;exact .inr ⟨rfl,by have:=D i j (F i x B) c;omega⟩
  ·intro i x j B c;obtain⟨cv,C,_⟩:=M i x j _ B (Ah c);rw[Bf,q,C];rfl
  ·intro i x j v B c;obtain⟨cv,C,L⟩:=M i x j v B c;rw[C];exact L.up u
 ·cases o with
  |may u=>simp[aP]
  |own=>
  refine⟨by simp[g'],⟨f,e,N,t,by simpa using r,E⟩,?_⟩;intro j C L;simp only[Bf] at C L;refine⟨?_,?_⟩
  ·rintro(z|⟨_,z⟩);·exact absurd (A _ _ z) (by simp)
   ·omega
  ·have:=X j C L;simp only[B2,t];simpa using this
 ·rintro b j m _ _ (c|⟨c,_⟩);·exact c
  ·omega
 ·intro b m _ hO;simp[g',Be m,hO]
end
section
variable{w w':World}{g g':Gh}{s s':St}{a:Act}{P:Program}{Γ:aG}{m:Oper}{next:Act->World->Prop}{Q:Exit->Act->World->Prop}
theorem eH{d:Nat}{cv:Value}(f:m.dst=some d)(b:(execOp a.eval m).run P w=.ok (.value cv) w')
  (h:∃g',SR g' s' w' (a.put (some d) cv)∧FR g s.hp w g' s'.hp w') (i:cW g s w a s' next):m.wp P a w next Q:=by
 unfold C4 C1;rw[b,f];obtain⟨g',c,e⟩:=h;exact i _ _ g' c e rfl
def ahl:List ASrc->List (Nat×Operand)->Nat->Bool
 | [],[],_=>true
 |x::xs,(i,y)::ys,n=>(i==n)&&(bB x y&&ahl xs ys (n+1))
 |_,_,_=>false
def afO(P:Program)(fs:Array Field):List (Nat×Nat×ASrc)->List (Nat×Operand)->Bool
 | [],[]=>true
 |(b,n,x)::xs,(i,y)::ys=>(match fs[i]? with|some f=>(f.offset==b)&&(fm P f.type==some n)|none=>false)&&(bB x y&&afO P fs xs ys)
 |_,_=>false
def anY(P:Program)(t:TypeId)(zero:List V):Bool:=match P.info? t with|some i=>(match i.zero with|some z=>jH zero z.cells.toList|none=>false)|none=>false
def rS(P:Program)(o:IOp)(m:Oper):Bool:=
 match o with
 | .mov d x=>(m.dst==some d)&&(match m.op with| .move y=>bB x y| .assign y=>bB x y|_=>false)
 | .bsl d k f _=>(m.dst==some d)&&(match m.op with| .buildSlice t n h=>mK P t k&&(n==f.length&&(decide (f.length*k.sz<=16777216)&&ahl f h.toList 0))|_=>false)
 | .s2b d x=>(m.dst==some d)&&(match m.op with| .convert u t b=>(match P.underlying u with|some .string=>true|_=>false)&&(mK P t .u8&&((match P.underlying t with|some (.slice e)=>anX P e .u8|_=>false)&&bB x b))|_=>false)
 | .app d k x y=>(m.dst==some d)&&(match afm m.op with|some (.append,[b,c],[t,u])=>mK P t k&&(mK P u k&&(bB x b&&bB y c))|_=>false)
 | .apps d x y=>(m.dst==some d)&&(match afm m.op with|some (.append,[b,c],[t,u])=>mK P t .u8&&((match P.underlying u with|some .string=>true|_=>false)&&(bB x b&&bB y c))|_=>false)
 |_=>false
theorem aMA{d:Nat}{x:ASrc}(f:rS P (.mov d x) m=true)(G:step Γ (.mov d x) s=some (true,s'))(h:SR g s w a)(D:cW g s w a s' next):m.wp P a w next Q:=by
 obtain⟨dst,z,A,j,i,p⟩:=m;simp only[rS,Ac,beq_iff_eq] at f;obtain⟨rfl,f⟩:=f;obtain rfl:_=s':=by simpa [step] using G
 have fin:∀y,bB x y=true->(execOp a.eval ⟨some d,z,A,j,i,p⟩).run P w=.ok (.value (a.eval y)) w->(⟨some d,z,A,j,i,p⟩:Oper).wp P a w next Q:=by
  intro y b H;have r:=bA b h.er;refine eH rfl H ?_ D;cases x with
  |t n=>exact⟨g,h.set d r (jI (dZ _) _ _ _ _),FR.refl _ _ _⟩
  |c v=>
   refine⟨g,h.set d r ?_,FR.refl _ _ _⟩;unfold bB at b;split at b;·rename_i e;cases e
   ·rename_i e;cases e
   ·rename_i e;cases e;exact acK b _
   ·rename_i e;cases e;simp[ASrc.ev,aP]
   ·simp at b
  |tk n=>
   have l:y=.tmp n:=by
    unfold bB at b;split at b;·rename_i e;cases e
    ·rename_i k e;cases e;rw[show k=n by simpa using (beq_iff_eq.1 b).symm]
    ·rename_i e;cases e
    ·rename_i e;cases e
    ·simp at b
   subst l;have E:=h.er.getOwn n;obtain⟨g₁,B,u,F,I,C⟩:=atd (q:=.slot d) (h.after (.tk n)) (acL n s) E;refine⟨g₁,B.set d ?_ C,?_⟩;·rw[F,I];exact r
   ·rw[qJ] at u;simpa [St.set,qJ] using u
 split at f;·rename_i y;exact fin y f (by simp[execOp])
 ·rename_i y;exact fin y f (by simp[execOp])
 ·simp at f
theorem anZ:∀(vs:List Value)(b j:Nat)(cells:Array Value),b+j+vs.length<=cells.size->
  ((vs.zipIdx j).foldl (λ(cs:Array Value)(x:Value×Nat)=>cs.setIfInBounds (b+x.2) x.1) cells).toList=cells.toList.take (b+j)++vs++cells.toList.drop (b+j+vs.length)
 | [],b,j,cells,h=>by simp
 |v::vs,b,j,cells,h=>by
  simp only[Ai] at h;rw[List.zipIdx_cons,BG,anZ vs b (j+1) _ (by simp;omega)];simp only[Array.toList_setIfInBounds,Ai];have c:b+j<cells.toList.length:=by rw[BX];omega
  rw[show b+(j+1)=b+j+1 by omega,List.take_succ_eq_append_getElem (by simpa using c),List.take_set_of_le (by omega),List.drop_set_of_lt (by omega)];simp[AP];omega
theorem aBY(sz:Nat):∀(vs:List (Array Value))(i:Nat)(cells:Array Value),(∀v∈vs,v.size=sz)->(i+vs.length)*sz<=cells.size->∀(d:List (Nat×Value)),d.map (·.1)=C5 i vs.length->d.map (·.2.cells)=vs->
  CH (λi=>some (i*sz,sz)) cells d=some (cells.toList.take (i*sz)++(vs.map (·.toList)).flatten++cells.toList.drop ((i+vs.length)*sz)).toArray
 | [],i,cells,j,e,d,k,f=>by
   have:d=[]:=by simpa using f
   subst this;simp[CH]
 |v::vs,i,cells,j,e,d,k,f=>by
  match d,k,f with
  |(b,x)::h,q,t=>
  simp only[Bb,Ai,List.range'_succ,CG] at q t;obtain⟨rfl,A⟩:=q;obtain⟨rfl,B⟩:=t;have c:x.cells.size=sz:=j _ (A4 ..);simp only[Ai] at e;have u:(b+(vs.length+1))*sz=b*sz+sz+vs.length*sz:=by rw[AO,AO];omega
  have l:b*sz+sz<=cells.size:=by omega
  have r:(x.cells.zipIdx.foldl (λ(cs:Array Value)(y:Value×Nat)=>cs.setIfInBounds (b*sz+y.2) y.1) cells).toList=cells.toList.take (b*sz)++x.cells.toList++cells.toList.drop (b*sz+sz):=by have:=anZ x.cells.toList (b*sz) 0 cells (by simp[c];omega);simp only[B6,BX,c] at this;rw[<-this,<-Array.foldl_toList,Array.toList_zipIdx]
  have z:(x.cells.zipIdx.foldl (λ(cs:Array Value)(y:Value×Nat)=>cs.setIfInBounds (b*sz+y.2) y.1) cells).size=cells.size:=by rw[<-BX,r];simp[c];omega
  simp only[CH,c];rw[if_neg (by simp;omega)];rw[aBY sz vs (b+1) _ (λv c=>j v (A0 _ c)) (by rw[z];rw[show (b+1+vs.length)=b+(vs.length+1) by omega];exact e) h A B,r];have C:x.cells.toList.length=sz:=by simp[c]
  have p:(cells.toList.take (b*sz)++x.cells.toList).length=b*sz+sz:=by simp[c];omega
  rw[show (b+1)*sz=b*sz+sz by rw[AO];omega,show (b+1+vs.length)*sz=(b*sz+sz)+vs.length*sz by rw[AO,AO];omega,Ai,u];rw[List.take_left' p,<-List.drop_drop,List.drop_left' p,List.drop_drop];simp[AP]
theorem auH{I:Nat->Nat->Prop}{ρ:Nat->Nat}{N:Nat}{k:EK}:∀{vs:List V}{xs:List (Ty k)}{cvs:List Value},aiR k vs=some xs->cvs.length=vs.length->
  (∀(i:Nat) v cv,vs[i]? =some v->cvs[i]? =some cv->VRel I ρ N w v cv)->
  xs.length=vs.length∧(∀cv∈cvs,cv.cells.size=k.sz)∧
   ∀(i:Nat) x (j:Nat) v,xs[i]? =some x->(enc k x)[j]? =some v->∃(cv u:Value),cvs[i]? =some cv∧cv.cells[j]? =some u∧VRel I ρ N w v u
 | [],xs,cvs,h,t,H=>by
   have:cvs=[]:=by simpa using t
   subst this;simp only[aiR,Ae] at h;subst h;exact⟨rfl,by simp,by simp⟩
 |v::vs,xs,cv::cvs,h,t,H=>by
  simp only[aiR] at h;split at h
  ·rename_i x l d F;obtain rfl:=AF h;obtain⟨M,O,R⟩:=auH (vs:=vs) (cvs:=cvs) F (by simpa using t) (λi v cv e r=>H (i+1) v cv (by simpa using e) (by simpa using r));have r0:=H 0 v cv rfl rfl;have G:=r0;have q:v.cells.length=cv.cells.size∧(∀(j:Nat) c u,v.cells[j]? =some c->cv.cells[j]? =some u->VRel I ρ N w c u):=by
    cases r0 with
    |agg cs us C e S L=>exact⟨by simpa [V.cells,Cw] using C,by simpa [V.cells,Cw] using L⟩
    |undef cv=>cases k<;>simp[V.cells,dec] at d<;>(rename_i f;cases f<;>simp at d)
    |tup cs us t L=>cases k<;>simp[V.cells,dec] at d<;>(rename_i f;cases f<;>simp at d)
    |junk cv=>cases k<;>simp[V.cells,dec] at d<;>(rename_i f;cases f<;>simp at d)
    |_=>
     refine⟨by simp[V.cells,Cw],?_⟩;intro j c u e r;cases j with
     |zero=>simp[V.cells,Cw] at e r;subst e r;exact G
     |succ j=>simp[V.cells] at e
   have D:∀c∈v.cells,c.inRange:=by
    intro c b;obtain⟨j,z,rfl⟩:=AU.1 b;have:j<cv.cells.size:=by rw[<-q.1];exact z
    exact(q.2 j _ _ (Ah z) (Am this)).inRange
   have J:=awX d D;have A:cv.cells.size=k.sz:=by rw[<-q.1,<-cQ k x,J,BW]
   refine⟨by simp[M],by simpa using ⟨A,O⟩,?_⟩;intro i y j u E B;cases i with
   |succ i=>simpa using R i y j u (by simpa using E) B
   |zero=>
    simp at E;subst E;rw[J,AA,As] at B;obtain⟨c,b,rfl⟩:=B;have z:j<v.cells.length:=(Ag.1 b).1;have p:j<cv.cells.size:=by rw[<-q.1];exact z
    exact⟨cv,cv.cells[j],rfl,Am p,(q.2 j _ _ b (Am p)).weak⟩
  ·simp at h
theorem aBZ(sz:Nat):∀(cvs:List Value),(∀cv∈cvs,cv.cells.size=sz)->∀(i j:Nat) cv u,cvs[i]? =some cv->cv.cells[j]? =some u->
  ((cvs.map (·.cells.toList)).flatten)[i*sz+j]? =some u
 | [],_,i,j,cv,u,b,_=>by simp at b
 |c::cvs,e,0,j,cv,u,b,d=>by
  simp at b;subst b;have l:j<c.cells.size:=by
   rcases AG j c.cells.size with h|h;·exact h
   ·simp[BY h] at d
  simp only[Bb,List.flatten_cons,Nat.zero_mul,Bf];rw[Au (by simpa using l)];simpa using d
 |c::cvs,e,i+1,j,cv,u,b,d=>by
  have k:=e c (A4 ..);have p:=aBZ sz cvs (λcv f=>e cv (A0 _ f)) i j cv u (by simpa using b) d;simp only[Bb,List.flatten_cons];rw[At (by simp[k,AO];omega)];rw[<-p]
  congr 1
  simp[k,AO];omega
theorem azc(h:ER g s.hp.length w s.env a.tmps):∀(d:List ASrc)(c:List (Nat×Operand))(n:Nat),ahl d c n=true->
  (c.map λq=>(q.1,a.eval q.2)).map (·.1)=C5 n d.length∧c.length=d.length∧
   ∀(i:Nat) v cv,(d.map (·.ev s))[i]? =some v->(c.map λq=>a.eval q.2)[i]? =some cv->VRel g.I g.ρ s.hp.length w v cv
 | [],[],n,_=>by simp
 |x::d,(i,y)::c,n,hp=>by
  simp only[ahl,Ac,beq_iff_eq] at hp;obtain⟨rfl,f,k⟩:=hp;obtain⟨p,r,l⟩:=azc h d c (i+1) k;refine⟨?_,by simp[r],?_⟩;·simp only[Bb,Ai,List.range'_succ];rw[p]
  ·intro j v cv e b;cases j with
   |zero=>simp at e b;subst e b;exact bA f h
   |succ j=>exact l j v cv (by simpa using e) (by simpa using b)
 | [],_::_,n,hp=>by simp[ahl] at hp
 |_::_,[],n,hp=>by simp[ahl] at hp
theorem hU(w:World)(o:Go.Obj):(w.alloc o).heap.size=w.heap.size+1∧(∀b,b<w.heap.size->(w.alloc o).heap[b]? =w.heap[b]?)∧(w.alloc o).heap[w.heap.size]? =some o:=by
 refine⟨by simp,?_,?_⟩;·intro b c;show (w.heap.push o)[b]? =_;rw[DH,if_neg (by omega)]
 ·show (w.heap.push o)[w.heap.size]? =_;simp
theorem aMB{d:Nat}{k:EK}{A:List ASrc}{u:Bool}(N:g.β=kQ P)(B:rS P (.bsl d k A u) m=true)(L:step Γ (.bsl d k A u) s=some (true,s'))(h:SR g s w a)(hn:cW g s w a s' next):m.wp P a w next Q:=by
 obtain⟨dst,op,ty,ak,ai,gd⟩:=m;simp only[rS,Ac,beq_iff_eq] at B;obtain⟨rfl,B⟩:=B;split at B
 ·rename_i t n y;simp only[Ac,beq_iff_eq,decide_eq_true_eq] at B;obtain⟨E,rfl,h2,h3⟩:=B;simp only[step,As] at L;obtain⟨xs,Y,L⟩:=L;obtain rfl:_=s':=by simpa using L
  obtain⟨e,u1,E⟩:=eT E;obtain⟨inf,z,i1,i2,i3,i4,i5,i6,i7⟩:=mQ E;obtain⟨k1,F,k3⟩:=azc h.er A y.toList 0 h3;obtain⟨J,r2,r3⟩:=auH (cvs:=y.toList.map λq=>a.eval q.2) Y (by simp[F]) k3;simp only[BW] at J;have an:z.cells.size=k.sz:=i7;have O:0<k.sz:=by cases k<;>simp[EK.sz]
  let D:Array Value:=(Array.range (A.length*k.sz)).map (λj=>z.cells[j%z.cells.size]!);have p:D.size=A.length*k.sz:=by simp[D]
  have r:CH (λi=>some (i*k.sz,k.sz)) D ((y.map λx=>(x.1,a.eval x.2)).toList)=some ((y.toList.map λq=>a.eval q.2).map (·.cells.toList)).flatten.toArray:=by have:=aBY k.sz ((y.toList.map λq=>a.eval q.2).map (·.cells)) 0 D (by intro v Z;obtain⟨cv,C,rfl⟩:=AH.1 Z;exact r2 cv C) (by simp[p,F]) ((y.map λx=>(x.1,a.eval x.2)).toList) (by simpa [F] using k1) (by simp);rw[this];simp[F,p,Dw,D4]
  have G:((y.toList.map λq=>a.eval q.2).map (·.cells.toList)).flatten.length=xs.length*k.sz:=by
   rw[List.length_flatten,Dw];have:∀l:List Value,(∀cv∈l,cv.cells.size=k.sz)->(l.map (Aa∘λx:Value=>x.cells.toList)).sum=l.length*k.sz:=by
    intro l hl;induction l with
    |nil=>simp
    |cons c l ih=>simp only[Bb,List.sum_cons,Ai,ih (λcv C=>hl cv (A0 _ C)),AO,Function.comp];have:=hl c (A4 ..);simp[this];omega
   rw[this _ r2,BW,F,J]
  let b:Array Value:=((y.toList.map λq=>a.eval q.2).map (·.cells.toList)).flatten.toArray;have f:=hU w (.cells b e);refine eH rfl (w':=w.alloc (.cells b e)) (cv:=.slice (some ⟨w.heap.size,0,none⟩) xs.length xs.length) ?_ ?_ hn
  ·have H:¬(16777216<A.length*k.sz):=by omega
   have ag:D.size=A.length*k.sz:=p;simp only[Array.toList_map,D] at r;by_cases M:A.length*k.sz=0
   ·have W:A.length=0:=by
     rcases Nat.mul_eq_zero.1 M with h|h;·exact h
     ·omega
    have ab:y.toList=[]:=Bu (by omega);have S:xs.length=0:=by omega
    have I:y= #[]:=by simpa using ab
    simp[execOp,Instr.buildSlice,run_underlying u1,sizeOf,typeInfo,i1,i2,H,M,W,I,S,CH,newRow,b];rw[show Array.range 0= #[] from Dv (by simp),Array.map_empty]
   ·simp[execOp,Instr.buildSlice,run_underlying u1,sizeOf,typeInfo,i1,i2,H,M,zeroValue,i4,r,newRow,J,b]
  ·obtain⟨g',R,X⟩:=h.newRow (w':=w.alloc (.cells b e)) k xs xs.length d b e (0,0) f.1 f.2.1 f.2.2 rfl rfl rfl (o:=cond u (.may true) .own) (λ_=>rfl) (Ap _) (by unfold cj;have:xs.length<=xs.length*k.sz:=Dk _ O;rw[J] at *;omega)
    (by simp only[b,D3,G];exact Ap _) (λhk=>by rw[N];exact wv E hk) (by intro j E h2;omega) (by intro i x j v Y Z;obtain⟨cv,u,R,X,q3⟩:=r3 i x j v Y Z;refine⟨u,?_,q3⟩;simp only[b,List.getElem?_toArray];exact aBZ k.sz _ r2 i j cv u R X)
   exact⟨g',R,X⟩
 ·simp at B
end
section
variable{w w':World}{g g':Gh}{s s':St}{a:Act}{P:Program}{Γ:aG}{m:Oper}{next:Act->World->Prop}{Q:Exit->Act->World->Prop}
theorem iV(b:Nat):∀(vs:List Value)(o:Nat)(w:World)(d:Array Value)(e:TypeId)(f:Nat×Nat),w.heap[b]? =some (.cells d e f)->
  (∃c,(w.setCells b o vs).heap[b]? =some (.cells c e f)∧c.size=d.size)∧(∀i,i≠b->(w.setCells b o vs).heap[i]? =w.heap[i]?)∧
   (w.setCells b o vs).heap.size=w.heap.size∧(w.setCells b o vs).os=w.os∧(w.setCells b o vs).tape=w.tape∧(w.setCells b o vs).output=w.output
 | [],o,w,d,e,f,h=>⟨⟨d,h,rfl⟩,λ_ _=>rfl,rfl,rfl,rfl,rfl⟩
 |v::vs,o,w,d,e,f,h=>by
  have l:(w.setCell ⟨b,o,none⟩ v).heap[b]? =some (.cells (d.setIfInBounds o v) e f):=by simp[World.setCell,Ci,h]
  obtain⟨⟨c,r,t⟩,q,u,x,p,k⟩:=iV b vs (o+1) (w.setCell ⟨b,o,none⟩ v) _ e f l;refine⟨⟨c,r,by simpa using t⟩,λi j=>?_,u.trans (by simp[World.setCell]),x,p,k⟩;rw[show (w.setCells b o (v::vs))=(w.setCell ⟨b,o,none⟩ v).setCells b (o+1) vs from rfl,q i j];simp only[World.setCell,Ci];rw[if_neg (by simpa using CU j)]
theorem auI{k:EK}{o:Fl}{xs:List (Ty k)}{cv:Value}(h:VRel g.I g.ρ s.hp.length w (.sl k o xs) cv):
  ∃(L:List Value),L.length=xs.length*k.sz∧(∀u∈L,u.oneCell'=true)∧
   (∀(i:Nat) x (j:Nat) v,xs[i]? =some x->(enc k x)[j]? =some v->∃u,L[i*k.sz+j]? =some u∧VRel g.I g.ρ s.hp.length w v u)∧
   ((xs=[]∧∃A,cv=.slice A 0 0∧(o=.own->A=none))∨∃b c cap,cv=.slice (some ⟨b,c,none⟩) xs.length cap∧xs.length<=cap∧cap<=cj∧∀(j:Nat) u,L[j]? =some u->w.cell? ⟨b,c+j,none⟩=some u):=by
 cases h with
 |sln=>exact⟨[],by simp,by simp,by simp,.inl ⟨rfl,none,rfl,λ_=>rfl⟩⟩
 |sle _ _ A H=>exact⟨[],by simp,by simp,by simp,.inl ⟨rfl,some A,rfl,λh=>absurd h H⟩⟩
 |sl _ _ _ b c W cap F S O X f Y N E=>
  subst F;have t:0<k.sz:=by cases k<;>simp[EK.sz]
  have C:∀(i j:Nat),j<k.sz->(i*k.sz+j) / k.sz=i∧(i*k.sz+j)%k.sz=j:=by
   intro i j l;constructor;·rw[C0,Nat.add_mul_div_right _ _ t,Nat.div_eq_of_lt l];omega
   ·rw[C0,Nat.add_mul_mod_self_right,Br l]
  have e:∀(q:Nat),q<xs.length*k.sz->q / k.sz<xs.length∧q%k.sz<k.sz∧q / k.sz*k.sz+q%k.sz=q:=by intro q z;exact⟨Cu (by rwa [BT]),Nat.mod_lt _ t,Nat.div_add_mod' q k.sz⟩
  refine⟨(BN (xs.length*k.sz)).map λq=>f (q / k.sz) (q%k.sz),by simp,?_,?_,.inr ⟨b,c,cap,rfl,S,O,?_⟩⟩
  ·intro u y;obtain⟨q,z,rfl⟩:=AH.1 y;obtain⟨B,D,M⟩:=e q (by simpa using z);have p:xs[q / k.sz]? =some xs[q / k.sz]:=Ah B;have l:q%k.sz<(enc k xs[q / k.sz]).length:=by rw[cQ];exact D
   exact(E _ _ _ _ p (Ah l)).oneCell (ab1 _ _ _ (BU l))
  ·intro i x j v p r;have l:j<k.sz:=by
    have:=(Ag.1 r).1
    rwa [cQ] at this
   have R:i<xs.length:=(Ag.1 p).1;have d:i*k.sz+j<xs.length*k.sz:=by
    calc i*k.sz+j<i*k.sz+k.sz:=by omega
     _=(i+1)*k.sz:=by rw[AO,CM]
     _<=xs.length*k.sz:=AV _ R
   obtain⟨J,G⟩:=C i j l;refine⟨f i j,?_,E i x j v p r⟩;simp[AA,List.getElem?_range d,J,G]
  ·intro j u y;rw[AA,As] at y;obtain⟨q,z,rfl⟩:=y;obtain⟨d,rfl⟩:=Ag.1 z;simp only[D5] at d;obtain⟨B,D,M⟩:=e j d;have p:xs[j / k.sz]? =some xs[j / k.sz]:=Ah B;have:=N _ _ (j%k.sz) p (by rw[cQ];exact D);rw[show c+j / k.sz*k.sz+j%k.sz=c+j by omega] at this;simpa using this
theorem SR.inPlace(h:SR g s w a){p:Occ}(hp:zt (some p) s)(k:EK)(xs ys:List (Ty k))(b t cap d:Nat)(news:List Value)
  (hx:VRel g.I g.ρ s.hp.length w (.sl k .own xs) (.slice (some ⟨b,t,none⟩) xs.length cap)) (W:aP g w p (.sl k .own xs) (.slice (some ⟨b,t,none⟩) xs.length cap))
  (F:xs.length+ys.length<=cap) (hl:news.length=ys.length*k.sz)
  (hv:∀(i:Nat) x (j:Nat) v,ys[i]? =some x->(enc k x)[j]? =some v->∃u,news[i*k.sz+j]? =some u∧VRel g.I g.ρ s.hp.length w v u):
  ∃g',SR g' (s.set d (.sl k .own (xs++ys))) (w.setCells b (t+xs.length*k.sz) news) (a.put (some d) (.slice (some ⟨b,t,none⟩) (xs.length+ys.length) cap))∧
   FR g s.hp w g' s.hp (w.setCells b (t+xs.length*k.sz) news):=by
 obtain⟨M,⟨ak,e,fz,o2,o3,ac⟩,o4⟩:=W;simp only at M o2 o3 o4;let A:=t+xs.length*k.sz;have am:A+news.length<=t+cap*k.sz:=by have:(xs.length+ys.length)*k.sz<=cap*k.sz:=AV _ F;rw[AO] at this;simp only[A,hl];omega
 obtain⟨⟨R,q1,q2⟩,q3,q4,q5,q6,q7⟩:=iV b news A w ak e fz o2;let w':=w.setCells b A news;let g':Gh:={I:=λq j=>g.I q j∨(q=b∧A<=j∧j<A+news.length),ρ:=g.ρ,O:=λq=>if q=b then some (.slot d) else g.O q,β:=g.β}
 have X:∀j,A<=j->j<t+cap*k.sz->¬g.I b j:=λj c y=>(o4 j c y).1
 have C:∀q j,g.I q j->w'.cell? ⟨q,j,none⟩=w.cell? ⟨q,j,none⟩:=by
  intro q j B;refine A5 b news A w _ ?_;rintro rfl _;rcases AG j A with c|c;·exact .inl c
  ·rcases AG j (t+cap*k.sz) with y|y;·exact absurd B (X j c y)
   ·right;show A+news.length<=j;omega
 have D:∀j (l:j<news.length),w'.cell? ⟨b,A+j,none⟩=some news[j]:=by intro j l;refine BJ b news A w (λj' a0=>?_) j l;rw[bk o2,Am (by omega)];rfl
 have ag:∀(id:Nat) cs,s.hp[id]? =some (some cs)->g.ρ id≠b:=by intro id cs H e';have:=h.hr.notO id cs H;rw[e',M] at this;simp at this
 have u:Up g.I g.ρ s.hp.length w g'.I g'.ρ s.hp.length w':=⟨λb j B=>.inl B,C,λ_ _=>rfl,Ap _⟩
 have hs:SR g' s w' a:=by
  refine h.keep (some p) hp rfl u ?_ ?_ ?_ ?_
  ·intro av q z ab;have r:q≠b:=by
    rintro rfl;rw[M] at z;exact ab z
   refine⟨by simp[g',r,z],q3 q r,?_⟩;rintro j (l|⟨l,_⟩);·exact l
   ·exact absurd l r
  ·intro id cs H;have r:=ag id cs H;refine⟨q3 _ r,by simp[g',r,h.hr.notO id cs H],?_⟩;rintro j (l|⟨l,_⟩);·exact l
   ·exact absurd l r
  ·rintro q j (l|⟨rfl,c,y⟩);·rw[C q j l];exact h.hr.exI q j l
   ·have:=D (j-A) (by omega);rw[show A+(j-A)=j by omega] at this;rw[this];rfl
  ·intro q o z;simp only[g'] at z;rw[q4];split at z;·rename_i e';subst e';exact h.hr.oLt _ _ M
   ·exact h.hr.oLt _ _ z
 obtain⟨L,l1,l2,l3,l4⟩:=auI hx;have ad:cap<=cj:=by
  cases hx with
  |sle _ _ _ W=>exact absurd rfl W
  |sl=>assumption
 have E:∀(i:Nat) x,(xs++ys)[i]? =some x->(i<xs.length∧xs[i]? =some x)∨(xs.length<=i∧ys[i-xs.length]? =some x):=by
  intro i x B;rcases AG i xs.length with c|c;·rw[Au c] at B;exact .inl ⟨c,B⟩
  ·rw[At c] at B;exact .inr ⟨c,B⟩
 have J:∀(i j:Nat),xs.length<=i->t+i*k.sz+j=A+((i-xs.length)*k.sz+j):=by
  intro i j B;have:i*k.sz=xs.length*k.sz+(i-xs.length)*k.sz:=by rw[<-AO];congr 1;omega
  simp only[A];omega
 have S:VRel g'.I g'.ρ s.hp.length w' (.sl k .own (xs++ys)) (.slice (some ⟨b,t,none⟩) (xs.length+ys.length) cap):=by
  cases hx with
  |sle _ _ _ W=>exact absurd rfl W
  |sl _ _ _ _ _ _ _ a3 az au ax f hI hw Z=>
  refine .sl k .own _ _ _ _ _ (by simp) (by simpa using F) ad (by simp) (λi j=>if i<xs.length then f i j else news[(i-xs.length)*k.sz+j]?.getD undef) ?_ ?_ ?_
  ·intro i x j B l;rcases E i x B with⟨c,y⟩|⟨c,y⟩
   ·exact .inl (hI i x j y l)
   ·obtain⟨u,N,_⟩:=hv _ x j _ y (Ah l);have:=(Ag.1 N).1;refine .inr ⟨rfl,?_⟩;rw[J i j c];omega
  ·intro i x j B l;rcases E i x B with⟨c,y⟩|⟨c,y⟩
   ·simp only[c,if_true];rw[C _ _ (hI i x j y l)];exact hw i x j y l
   ·obtain⟨u,N,_⟩:=hv _ x j _ y (Ah l);have Y:=(Ag.1 N).1;simp only[Nat.not_lt.2 c,if_false];rw[J i j c,D _ Y,Ah Y];rfl
  ·intro i x j v B l;rcases E i x B with⟨c,y⟩|⟨c,y⟩
   ·simp only[c,if_true];exact(Z i x j v y l).up u
   ·obtain⟨u',N,hr⟩:=hv _ x j v y l;simp only[Nat.not_lt.2 c,if_false,N];exact hr.up u
 refine⟨g',hs.set d S ?_,⟨rfl,q5,q6,q7,by rw[q4];exact Ap _,λq z _ G=>?_,u,?_,?_,λ_ cs h=>.inl ⟨cs,h⟩⟩⟩
 ·refine⟨by simp[g'],⟨R,e,fz,q1,by rw[q2];exact o3,ac⟩,?_⟩;intro j c y;simp only at c y;have ae:A+news.length<=j:=by
   simp only[A,hl];rw[AO] at c;omega
  have:=o4 j (by simp only[A] at ae;omega) y;refine⟨?_,?_⟩
  ·rintro(B|⟨_,_,B⟩);·exact this.1 B
   ·omega
  ·rw[World.frozen?_setCells];exact this.2
 ·have r:q≠b:=by rintro rfl;rw[M] at G;simp at G
  exact q3 q r
 ·rintro q j z _ G (l|⟨l,_⟩);·exact l
  ·subst l;rw[M] at G;simp at G
 ·intro q z _ G;have r:q≠b:=by rintro rfl;rw[M] at G;simp at G
  simp[g',r,G]
theorem aGm{k k':EK}(h:k'=k){o:Fl}{m:List (Ty k')}{I:Nat->Nat->Prop}{ρ:Nat->Nat}{N:Nat}{w:World}{cv:Value}(r:VRel I ρ N w (.sl k' o m) cv):VRel I ρ N w (.sl k o (h▸m)) cv:=by subst h;exact r
theorem ate{k k':EK}(h:k'=k)(m:List (Ty k')):(h▸m:List (Ty k)).length=m.length:=by subst h;rfl
theorem asj(a5:g.β=kQ P){d:Nat}{k:EK}{x:ASrc}{R W:Operand}{xs ys:List (Ty k)}{ty t u e:TypeId}{M:String}{O:Array Edge}{gd:Option (Nat×Bool)}(h:SR g s w a)
  (C:bB x R=true) {o:Fl} (l:x.ev s=.sl k o xs) (E:o.app ys.length=true) (ut:P.underlying t=some (.slice e)) (he:ac8 P e k=true) (news:List Value)
  (S:_root_.Go.Src P k.sz u (a.eval W) ys.length news w) (hv:∀(i:Nat) x (j:Nat) v,ys[i]? =some x->(enc k x)[j]? =some v->∃u,news[i*k.sz+j]? =some u∧VRel g.I g.ρ s.hp.length w v u)
  (X:(xs.length+ys.length)*k.bytes<=jV)
  (hn:cW g s w a ((x.after s).set d (.sl k .own (xs++ys))) next):
  (⟨some d,.call ⟨.builtin .append,⟨[R,W]⟩,⟨[t,u]⟩⟩,ty,M,O,gd⟩:Oper).wp P a w next Q:=by
 obtain⟨inf,z,i1,i2,i3,i4,i5,i6,i7⟩:=mQ he;have r1:=bA C h.er;rw[l] at r1;have a2:0<k.bytes:=by cases k<;>simp[EK.bytes];rename_i kk;cases kk<;>simp[as9]
 have aa:xs.length+ys.length<=jV:=A7 (Dk _ a2) X;have al:o=.own->∃p,zt (some p) (x.after s)∧aP g w p (.sl k .own xs) (a.eval R):=by
  rintro rfl;unfold bB at C;split at C
  ·rename_i n k';obtain rfl:=by simpa using C
   simp only[ASrc.ev] at l;exfalso;cases hg:s.get n<;>rw[hg] at l<;>simp[disown] at l;rename_i o' _;cases o'<;>simp[Fl.dis] at l
  ·rename_i n k';obtain rfl:=by simpa using C
   refine⟨.slot n,acL n s,?_⟩;have:=h.er.getOwn n
   rwa [show s.get n=.sl k .own xs from l] at this
  ·rename_i v cv;simp only[ASrc.ev] at l;subst l;exact⟨.res,trivial,acK C _⟩
  ·rename_i f hf;simp only[ASrc.ev] at l;cases l
  ·simp at C
 have h1:=h.after x;obtain⟨L,l1,l2,l3,l4⟩:=auI r1;have H:∀cv w',(CI #[t,u] ty #[a.eval R,a.eval W]).run P w=.ok cv w'->(execOp a.eval ⟨some d,.call ⟨.builtin .append,⟨[R,W]⟩,⟨[t,u]⟩⟩,ty,M,O,gd⟩).run P w=.ok (.value cv) w':=by intro cv w' Z;simp[execOp,resolve,invoke,builtin,Z]
 have r:(x.after s).hp=s.hp:=qJ x s
 have Y:∀(B:Option Addr)(cap:Nat),a.eval R=.slice B xs.length cap->cap<xs.length+ys.length->
   (Builtin.firstCells k.sz xs.length (.slice B xs.length cap)).run P w.drew=.ok L.toArray w.drew->
   (⟨some d,.call ⟨.builtin .append,⟨[R,W]⟩,⟨[t,u]⟩⟩,ty,M,O,gd⟩:Oper).wp P a w next Q:=by
  intro B cap hb D ap
  have Z:=run_append_grow_src w t u ty e inf z ut i1 i4 B xs.length cap L (by rw[i2];exact ap) (a.eval W) ys.length news (by rw[i2];exact S) D (by unfold jV at aa;omega)
   (growslice_fits D (by rw[i3];exact X))
  have ac:xs.length+ys.length<=grownCap w (xs.length+ys.length) cap e:=by unfold grownCap Question.cut;exact Nat.le_add_right _ _
  have ao:grownCap w (xs.length+ys.length) cap e<=cj:=by have:=grownCap_le_maxLen w (xs.length+ys.length) cap e (by unfold maxLen;unfold jV at aa;omega);simpa [maxLen,cj] using this
  let c:Array Value:=(L++news).toArray++Builtin.zeroCells z.cells (grownCap w (xs.length+ys.length) cap e-(xs.length+ys.length));have a9:=S.newsLen;have an:c.size=grownCap w (xs.length+ys.length) cap e*k.sz:=by
   simp only[c,Array.size_append,D3,Ak,l1,a9,size_zeroCells,i7];rw[<-AO,<-AO]
   congr 1
   omega
  have f:=hU w.drew (.cells c e);obtain⟨g',q1,q2⟩:=h1.newRow (w':=w.drew.alloc (.cells c e)) k (xs++ys) (grownCap w (xs.length+ys.length) cap e) d c e (0,0) f.1 f.2.1 f.2.2 rfl rfl rfl (o:=.own) (by simp) (by simpa using ac) ao (by rw[an];exact Ap _) (λhk=>by rw[a5];exact wv he hk) (by intro j h1 h2;omega) (by
   intro i x j v C ah;have hj:j<k.sz:=by
    have:=(Ag.1 ah).1
    rwa [cQ] at this
   have G:∀(q:Nat) u,(L++news)[q]? =some u->c[q]? =some u:=by intro q u hq;have a4:=(Ag.1 hq).1;simp only[c];rw[B0 (by simpa using a4)];simpa using hq
   rcases AG i xs.length with hi|hi;·rw[Au hi] at C;obtain⟨u,e1,e2⟩:=l3 i x j v C ah;refine⟨u,G _ _ ?_,by rw[r];exact e2⟩;rw[Au (Ag.1 e1).1];exact e1
   ·rw[At hi] at C;obtain⟨u,e1,e2⟩:=hv _ x j v C ah;refine⟨u,G _ _ ?_,by rw[r];exact e2⟩;have:i*k.sz=xs.length*k.sz+(i-xs.length)*k.sz:=by rw[<-AO];congr 1;omega
    rw[At (by rw[l1];omega),l1,<-e1]
    congr 1
    omega)
  have ag:(execOp a.eval ⟨some d,.call ⟨.builtin .append,⟨[R,W]⟩,⟨[t,u]⟩⟩,ty,M,O,gd⟩).run P w=.ok (.value (.slice (some ⟨w.heap.size,0,none⟩) (xs++ys).length (grownCap w (xs.length+ys.length) cap e))) (w.drew.alloc (.cells c e)):=by refine H _ _ ?_;rw[hb,Z];simp[c]
  refine eH rfl ag ⟨g',q1,?_⟩ hn;rw[r] at q2;show FR g s.hp w g' (x.after s).hp _;rw[r];exact q2
 rcases l4 with⟨rfl,ad,y,a7⟩|⟨b,F,cap,y,D,ao,J⟩
 ·by_cases h0:ys.length=0
  ·have ba:ys=[]:=Bu h0;subst ba;obtain rfl:ad=none:=a7 (by
    cases o with
    |own=>rfl
    |may u=>simp[Fl.app] at E)
   have Z:(CI #[t,u] ty #[a.eval R,a.eval W]).run P w=.ok (.slice none 0 0) w:=by
    have a1:news=[]:=by have:=S.newsLen;simpa using this
    have hc:=S.cells;rw[y];rcases S.kind with⟨e',hk⟩|hk<;>simp[CI,run_underlying ut,run_underlying hk,sizeOf,typeInfo,i1,i2,S.len] at* <;>simp[hc]
   refine eH rfl (H _ _ Z) ⟨g,?_,?_⟩ hn;·exact h1.set d (by simpa using VRel.sln (I:=g.I) (ρ:=g.ρ) (N:=(x.after s).hp.length) (w:=w) k .own) (by simp[aP])
   ·have:=FR.refl g s.hp w;simpa [St.set,r] using this
  ·exact Y ad 0 (by simpa using y) (by simp;omega) (by
    have hL:L=[]:=by simpa using l1
    subst hL;cases ad with
    |none=>simpa using run_firstCells_none (P:=P) w.drew k.sz 0 0 0
    |some ad=>simpa using run_firstCells_some (P:=P) w.drew k.sz 0 ad 0 0 [] (by simp) (by intro j v hj;simp at hj))
 ·by_cases A:xs.length+ys.length<=cap
  ·have af:o=.own:=by
    cases o with
    |own=>rfl
    |may u=>simp only[Fl.app,Ac,decide_eq_true_eq] at E;obtain⟨rfl,bh⟩:=E;rw[y] at r1;have:=r1.full;omega
   subst af;obtain⟨p,hp,ho⟩:=al rfl;rw[y] at ho r1;obtain⟨o1,⟨c,e',fz,o2,o3⟩,o4⟩:=ho;simp only at o1 o2 o3 o4;have bn:F+xs.length*k.sz+news.length<=F+cap*k.sz:=by have:(xs.length+ys.length)*k.sz<=cap*k.sz:=AV _ A;rw[AO] at this;rw[S.newsLen];omega
   have Z:=run_append_room_src w t u ty e inf ut i1 b F xs.length cap (a.eval W) ys.length news (by rw[i2];exact S) A (by
    intro j hj;rw[i2,bk o2,Am (by omega)];rfl) (by
    intro j hj;rw[i2];exact(o4 _ (by omega) (by omega)).2)
   rw[i2] at Z;have q:=h1.inPlace hp k xs ys b F cap d news (by rw[r];exact r1) ⟨o1,⟨c,e',fz,o2,o3⟩,o4⟩ A S.newsLen (by rw[r];exact hv);rw[r] at q;refine eH rfl (H _ _ (by rw[y];exact Z)) ?_ hn;obtain⟨g',q1,q2⟩:=q;exact⟨g',q1,by simpa [St.set,r] using q2⟩
  ·exact Y _ cap y (by omega) (run_firstCells_some w.drew k.sz xs.length ⟨b,F,none⟩ xs.length cap L (by simpa using l1) (by intro j v hj;rw[BO];exact J j v hj))
theorem aMC{d:Nat}{k:EK}{x y:ASrc}(C:g.β=kQ P)(p:rS P (.app d k x y) m=true)(f:step Γ (.app d k x y) s=some (true,s'))(h:SR g s w a)(W:cW g s w a s' next):m.wp P a w next Q:=by
 obtain⟨dst,op,ty,R,O,gd⟩:=m;simp only[rS,Ac,beq_iff_eq] at p;obtain⟨rfl,p⟩:=p;split at p
 ·rename_i x' y' t u F;obtain rfl:=nX F;simp only[Ac] at p;obtain⟨J,M,h3,h4⟩:=p;obtain⟨e,Z,e1⟩:=eT J;obtain⟨e',E,e2⟩:=eT M;simp only[step] at f;split at f
  ·rename_i k' ox l N o S hx Y;split at f
   ·rename_i hk;subst hk;split at f
    ·rename_i z;simp only[Ae,Aj,Ac,decide_eq_true_eq] at f;obtain⟨⟨A,r⟩,rfl⟩:=f;have B:=bA h4 h.er;rw[Y] at B;have B:=aGm z B;obtain⟨L,D,l2,l3,l4⟩:=auI B;refine asj C h h3 hx (by rw[ate];exact A) Z e1 L (ys:=z▸S) ?_ l3 (by rw[ate];exact r) W;rcases l4 with⟨i,I,q, -⟩|⟨b,aj,cap,q,H,af,c⟩
     ·rw[q,i];have X:L=[]:=by rw[i] at D;simpa using D
      rw[X];cases I with
      |none=>exact _root_.Go.Src.ofNil w E 0
      |some I=>exact _root_.Go.Src.ofSlice w E _ _ _ _ (by simp) (by intro j v G;simp at G) (by simp)
     ·rw[q];exact _root_.Go.Src.ofSlice w E _ _ _ _ D (by intro j v G;rw[BO];exact c j v G) l2
    ·simp at f
   ·simp at f
  ·simp at f
 ·simp at p
theorem aLr{d:Nat}{x y:ASrc}(q:g.β=kQ P)(c:rS P (.apps d x y) m=true)(p:step Γ (.apps d x y) s=some (true,s'))(h:SR g s w a)(L:cW g s w a s' next):m.wp P a w next Q:=by
 obtain⟨dst,op,ty,I,G,Y⟩:=m;simp only[rS,Ac,beq_iff_eq] at c;obtain⟨rfl,c⟩:=c;split at c
 ·rename_i x' F t u r;obtain rfl:=nX r;simp only[Ac] at c;obtain⟨E,D,O,X⟩:=c;obtain⟨e,N,R⟩:=eT E;split at D
  ·rename_i J;simp only[step] at p;split at p
   ·rename_i l Z S M;simp only[Ae,Aj,decide_eq_true_eq] at p;obtain⟨f,rfl⟩:=p;have C:=bA X h.er;rw[M] at C;generalize B:a.eval F=cv at C;cases C with
    |str _ b H hm=>
    subst H;refine asj q (k:=.u8) (ys:=b.data.toList) h O S rfl N R (byteCells b) ?_ ?_ (by simpa [EK.bytes] using f) L;·rw[B];have:=_root_.Go.Src.ofString (P:=P) w J b;rw[<-kp] at this;exact this
    ·intro i x j v z A;have W:j=0:=by
      have:=(Ag.1 A).1;simp[enc] at this;exact this
     subst W;simp[enc] at A;subst A;refine⟨.int .u8 x.toNat,?_,.int _ _ (aks x)⟩;simp only[byteCells,EK.sz,Cv,B6,AA,z,BA]
   ·simp at p
  ·simp at D
 ·simp at c
theorem aMD{d:Nat}{x:ASrc}(A:g.β=kQ P)(k:rS P (.s2b d x) m=true)(p:step Γ (.s2b d x) s=some (true,s'))(h:SR g s w a)(N:cW g s w a s' next):m.wp P a w next Q:=by
 obtain⟨dst,op,ty,L,H,gd⟩:=m;simp only[rS,Ac,beq_iff_eq] at k;obtain⟨rfl,k⟩:=k;split at k
 ·rename_i u t S;simp only[Ac] at k;obtain⟨y,z,q,h4⟩:=k;obtain⟨e,G,Y⟩:=eT z;split at y
  ·rename_i M;rw[G] at q;simp only[anX] at q;split at q
   ·rename_i I R;obtain rfl:IntKind.u8=I:=by simpa using q
    simp only[step] at p;split at p
    ·rename_i l hx;obtain rfl:_=s':=by simpa using p
     have B:=bA h4 h.er;rw[hx] at B;generalize F:a.eval S=cv at B;cases B with
     |str _ b J W=>
     subst J;have hr:=Lib.run_convert_string_bytes (P:=P) w u t e b M G R;have f:b.size<=grownCap w b.size 0 e:=by unfold grownCap Question.cut;exact Nat.le_add_right _ _
     have C:grownCap w b.size 0 e<=cj:=by have:=grownCap_le_maxLen w b.size 0 e (by unfold maxLen;unfold cj at W;omega);simpa [maxLen,cj] using this
     have c:(DL w e b).size=grownCap w b.size 0 e:=by have p:b.data.size=b.size:=rfl;simp[DL,p];omega
     obtain⟨g',O,q2⟩:=h.newRow (w':=Di w e b) .u8 b.data.toList (grownCap w b.size 0 e) d (DL w e b) e _ (Lib.bytesWorld_size w e b) (λj E=>Lib.bytesWorld_at_old w e b j E) (Lib.bytesWorld_at_new w e b)
      (by simp[Di,CY,World.alloc,World.drew, -World.alloc_eq, -World.drew_eq]) (by simp[Di,CY,World.alloc,World.drew, -World.alloc_eq, -World.drew_eq]) (by simp[Di,CY,World.alloc,World.drew, -World.alloc_eq, -World.drew_eq])
      (o:=.own) (by simp) (by rw[kp];exact f) C (by rw[c];simp[EK.sz]) (λX=>by rw[A];exact wv Y X) (by intro j y z;simp only[EK.sz,Cv] at z;rw[c];omega) (by
       intro i x j v r D;have E:j=0:=by have:=(Ag.1 D).1;simp[enc] at this;exact this
       subst E;simp[enc] at D;subst D;refine⟨.int .u8 x.toNat,?_,.int _ _ (aks x)⟩;have Z:=(Ag.1 r).1;simp only[EK.sz,Cv,B6,DL];rw[B0 (by simpa using Z)];simp only[Array.getElem?_map];rw[<-Ck,r];rfl)
     refine eH rfl (w':=Di w e b) (cv:=.slice (some ⟨w.heap.size,0,none⟩) b.data.toList.length (grownCap w b.size 0 e)) ?_ ⟨g',O,q2⟩ N;rw[kp];simp[execOp,F,hr]
    ·simp at p
   ·simp at q
  ·simp at y
 ·simp at k
end
def aIh(e:TypeId)(o:Nat):Field:={(default:Field) with type:=e,offset:=o}
def aJX(n sz:Nat)(e:TypeId):Array Field:=⟨(BN n).map λi=>aIh e (i*sz)⟩
def pR(P:Program)(o:IOp)(m:Oper):Bool:=
 match o with
 | .new d zero=>(m.dst==some d)&&(match m.op with| .alloc t=>anY P t zero|_=>false)
 | .box d x=>(m.dst==some d)&&(match m.op with| .box t y=>bB x y&&ata x|_=>false)
 | .st d n x v=>(m.dst==d)&&(match m.op with| .store t b i=>(fm P t==some n)&&(bB x b&&bB v i)|_=>false)
 | .ld d n agg true x=>(m.dst==some d)&&(match m.op with| .load t b=>(fm P t==some n)&&((nW P t==some agg)&&((!agg&&n==1)&&bB x b))|_=>false)
 | .bld d zero h=>(m.dst==some d)&&(match m.op with| .build t c=>anY P t zero&&(match P.underlying t with|some (.struct fs)=>afO P fs h c.toList&&fs.all (λf=>(P.info? f.type).isSome)|some (.array n e)=>(match fm P e with|some sz=>afO P (aJX n sz e) h c.toList|none=>false)|_=>false)|_=>false)
 |_=>false
section
variable{w w':World}{g g':Gh}{s s':St}{a:Act}{P:Program}{Γ:aG}{m:Oper}{next:Act->World->Prop}{Q:Exit->Act->World->Prop}
theorem zu{t:TypeId}{zero:List V}(h:anY P t zero=true):∃i z,P.info? t=some i∧i.zero=some z∧jH zero z.cells.toList=true:=by
 unfold anY at h;split at h
 ·rename_i i c;split at h;·rename_i z b;exact⟨i,z,c,b,h⟩
  ·simp at h
 ·simp at h
theorem d7.own{c:V}{cv:Value}(h:d7 c cv)(g:Gh)(w:World)(b:Occ):aP g w b c cv:=by
 unfold aP;split;·simp[d7] at h
 ·simp[d7] at h
 ·exact .inl ⟨Bu h.1,h.2⟩
 ·trivial
theorem aB0{cs:List V}{b:Array Value}(h:jH cs b.toList=true){e:TypeId}:∀(j E n:Nat),cs[j]? =some (.bn E n)->E=e∧n=b.size∧b[j]? =some (.pointer none):=by intro j E n c;exfalso;have f:=(oR (I:=λ_ _=>False) (ρ:=λx=>x) (N:=0) (w:=default) h).1;have d:=(Ag.1 c).1;have:=sN h j _ (b.toList[j]'(by omega)) c (Ah (by omega));simp[d7] at this
theorem aJY{cs:List V}{b:Array Value}{e:TypeId}(k:cs.length=b.size)(f:∀(i:Nat) c cv,cs[i]? =some c->b[i]? =some cv->d7 c cv):∀(j E n:Nat),cs[j]? =some (.bn E n)->E=e∧n=b.size∧b[j]? =some (.pointer none):=by intro j E n d;exfalso;have h:=(Ag.1 d).1;have:=f j _ (b[j]'(by omega)) d (Am (by omega));simp[d7] at this
theorem SR.newObj(h:SR g s w a)(cs:List V)(r:Array Value)(e:TypeId)(hl:cs.length=r.size)(h1:∀c∈cs,c.one=true)
  (Y:∀(i:Nat) c cv,cs[i]? =some c->r[i]? =some cv->VRel g.I g.ρ s.hp.length w c cv) (y:∀(i:Nat) c cv,cs[i]? =some c->r[i]? =some cv->noBn c=true->d7 c cv)
  (F:∀(j E n:Nat),cs[j]? =some (.bn E n)->E=e∧n=r.size∧r[j]? =some (.pointer none)) (d:Nat):
  ∃g',SR g' {s.set d (.ptr s.hp.length 0) with hp:=s.hp++[some cs]} (w.alloc (.cells r e)) (a.put (some d) (.pointer (some ⟨w.heap.size,0,none⟩)))∧
   FR g s.hp w g' (s.hp++[some cs]) (w.alloc (.cells r e)):=by
 obtain⟨f1,W,f3⟩:=hU w (.cells r e);let w':=w.alloc (.cells r e);let g':Gh:={g with ρ:=λid=>if id=s.hp.length then w.heap.size else g.ρ id}
 have D:∀b j,g.I b j->b<w.heap.size:=by intro b j p;obtain⟨v,Y⟩:=Bq.1 (h.hr.exI b j p);exact BL _ _ Y
 have t:∀b j,b<w.heap.size->w'.cell? ⟨b,j,none⟩=w.cell? ⟨b,j,none⟩:=by intro b j y;simp only[w',By,W b y]
 have u:Up g.I g.ρ s.hp.length w g'.I g'.ρ (s.hp++[some cs]).length w':=
  ⟨λb j p=>p,λb j p=>t b j (D b j p),λid f=>by simp[g',Be f],by simp⟩
 have G:∀(id:Nat) cs,s.hp[id]? =some (some cs)->g.ρ id<w.heap.size:=by intro id cs f;exact(h.hr.obj id cs f).lt
 have x:∀A v cv,aP g w A v cv->aP g' w' A v cv:=by intro A v cv ho;refine dg ho rfl (λb j p=>⟨u.mono b j p,u.cell b j p⟩) ?_;intro b y;exact⟨y,W b (h.hr.oLt b A y),λj N=>N⟩
 have split:∀(id:Nat) o,(s.hp++[some cs])[id]? =some (some o)->(id<s.hp.length∧s.hp[id]? =some (some o))∨(id=s.hp.length∧o=cs):=by
  intro id o f;rcases AG id s.hp.length with p|p;·rw[Au p] at f;exact .inl ⟨p,f⟩
  ·rw[At p] at f;have S:id-s.hp.length=0:=by
    rcases DT (id-s.hp.length) with S|S;·exact S
    ·rw[A1 (by simp;omega)] at f;simp at f
   rw[S] at f;simp at f;exact .inr ⟨by omega,f.symm⟩
 have l:g'.ρ s.hp.length=w.heap.size:=by simp[g']
 have k:∀id,id<s.hp.length->g'.ρ id=g.ρ id:=λid f=>by simp[g',Be f]
 have hs:SR g' {s with hp:=s.hp++[some cs]} w' a:=by
  refine⟨⟨?_,?_,?_,?_,?_,?_⟩,⟨h.er.size,?_,?_⟩⟩
  ·intro id o f;rcases split id o f with⟨p,f⟩|⟨rfl,rfl⟩
   ·refine(h.hr.obj id o f).keep ?_ λaa e' fz k1 z=>⟨z.len,z.plain,z.typedUp rfl u.rho u.num rfl,z.cold,z.one,λj c cv J q=>(z.rel j c cv J q).up u,λj c cv J q=>x _ _ _ (z.own j c cv J q),by rw[k id p];exact z.bn⟩
    rw[k id p];exact W _ (G id o f)
   ·refine ig.ofRow0 ?_ ⟨hl,h1,λj c cv J q=>(Y j c cv J q).up u,λj c cv J q=>?_,λj E n N=>⟨(F j E n N).1,(F j E n N).2.1,.inl (F j E n N).2.2⟩⟩;·rw[l];exact f3
    ·cases M:noBn c with
     |true=>exact(y j c cv J q M).own _ _ _
     |false=>cases c<;>simp[noBn] at M;simp[aP]
  ·intro id H o o' k1 z L;rcases split id o k1 with⟨p,Z⟩|⟨e1, -⟩<;>rcases split H o' z with⟨R,m2⟩|⟨e2, -⟩
   ·rw[k _ p,k _ R];exact h.hr.apart id H o o' Z m2 L
   ·rw[k _ p,e2,l];exact Be (G id o Z)
   ·rw[k _ R,e1,l];exact(Be (G H o' m2)).symm
   ·exact absurd (e1.trans e2.symm) L
  ·intro id o f j p;rcases split id o f with⟨B,f⟩|⟨rfl,rfl⟩
   ·rw[k _ B] at p;exact h.hr.notI id o f j p
   ·rw[l] at p;have:=D _ _ p;omega
  ·intro id o f;rcases split id o f with⟨B,f⟩|⟨rfl,rfl⟩
   ·rw[k _ B];exact h.hr.notO id o f
   ·rw[l];cases X:g.O w.heap.size with
    |none=>rfl
    |some oc=>have:=h.hr.oLt _ _ X;omega
  ·intro b j p;rw[t b j (D b j p)];exact h.hr.exI b j p
  ·intro b oc y;have:=h.hr.oLt b oc y;show b<w'.heap.size;rw[f1];omega
  ·intro n v cv C q;exact(h.er.rel n v cv C q).up u
  ·intro n v cv C q;exact x _ _ _ (h.er.own n v cv C q)
 refine⟨g',?_,rfl,rfl,rfl,rfl,by rw[f1];omega,λb y _ _=>W b y,u,λb j _ _ _ p=>p,λb _ _ X=>X,?_⟩
 ·have:=hs.set d (v:=.ptr s.hp.length 0) (cv:=.pointer (some ⟨w.heap.size,0,none⟩)) (by
   rw[<-l];exact .ptr _ _ (by simp)) (by simp[aP])
  exact this
 ·intro id o f;rcases split id o f with⟨B,f⟩|⟨rfl,rfl⟩
  ·exact .inl ⟨o,f⟩
  ·exact .inr ⟨Ap _,.inl (by rw[l];exact Ap _)⟩
theorem aME{d:Nat}{zero:List V}(b:pR P (.new d zero) m=true)(u:step Γ (.new d zero) s=some (true,s'))(h:SR g s w a)(k:cW g s w a s' next):m.wp P a w next Q:=by
 obtain⟨dst,A,B,x,j,y⟩:=m;simp only[pR,Ac,beq_iff_eq] at b;obtain⟨rfl,b⟩:=b;split at b
 ·rename_i t;obtain⟨i,z,r,l,e⟩:=zu b;obtain rfl:_=s':=by simpa [step] using u
  obtain⟨p,q,v⟩:=oR (I:=g.I) (ρ:=g.ρ) (N:=s.hp.length) (w:=w) e;refine eH rfl (w':=w.alloc (.cells z.cells t)) (cv:=.pointer (some ⟨w.heap.size,0,none⟩)) ?_ (h.newObj zero z.cells t (by simpa using p) q (λi c cv b f=>v i c cv b (by simpa using f)) (λi c cv b f _=>sN e i c cv b (by simpa using f)) (aB0 e) d) k;simp[execOp,Instr.alloc,zeroValue,typeInfo,r,l,newVar,newRow]
 ·simp at b
def aB1(t n:Nat):V->Value->Bool
 | .bn E m,.pointer none=>E==t&&m==n
 | .bn _ _,_=>false
 |v,cv=>uf v cv
def afG(t n:Nat):List V->List Value->Bool
 | [],[]=>true
 |v::vs,c::cs=>aB1 t n v c&&afG t n vs cs
 |_,_=>false
def aLb(P:Program)(t:TypeId)(zero:List V):Bool:=match P.info? t with|some i=>(match i.zero with|some z=>afG t z.cells.size zero z.cells.toList|none=>false)|none=>false
theorem ask{I:Nat->Nat->Prop}{ρ:Nat->Nat}{N t n:Nat}:∀{cs:List V}{vs:List Value},afG t n cs vs=true->cs.length=vs.length∧(∀c∈cs,c.one=true)∧
  (∀(i:Nat) c cv,cs[i]? =some c->vs[i]? =some cv->VRel I ρ N w c cv∧(noBn c=true->d7 c cv))∧(∀(j E m:Nat),cs[j]? =some (.bn E m)->E=t∧m=n∧vs[j]? =some (.pointer none))
 | [],[],_=>⟨rfl,by simp,by simp,by simp⟩
 |v::vs,c::cs,h=>by
  simp only[afG,Ac] at h;obtain⟨b,u⟩:=h;obtain⟨y,B,G,H⟩:=ask (I:=I) (ρ:=ρ) (N:=N) u;have l:v.one=true∧VRel I ρ N w v c∧(noBn v=true->d7 v c)∧(∀E m,v=.bn E m->E=t∧m=n∧c=.pointer none):=by
   cases p:noBn v with
   |true=>
    have k:uf v c=true:=by
     unfold aB1 at b;split at b;·simp[noBn] at p
     ·simp at b
     ·exact b
    obtain⟨A,F⟩:=akr (I:=I) (ρ:=ρ) (N:=N) (w:=w) k;exact⟨F,A,λ_=>auE k,λE m e=>by subst e;simp[noBn] at p⟩
   |false=>
    cases v<;>simp[noBn] at p;rename_i E m;unfold aB1 at b;split at b;·rename_i J L e;cases e;simp only[Ac,beq_iff_eq] at b;exact⟨rfl,.bn _ _ _,by simp[noBn],λE m e=>by cases e;exact⟨b.1,b.2,rfl⟩⟩
    ·simp at b
    ·rename_i q _;exact absurd rfl (q _ _)
  refine⟨by simp[y],?_,?_,?_⟩
  ·intro x f;rcases A3.1 f with rfl|f;·exact l.1
   ·exact B x f
  ·intro i x cv f d;cases i with
   |zero=>simp at f d;subst f d;exact⟨l.2.1,l.2.2.1⟩
   |succ i=>exact G i x cv (by simpa using f) (by simpa using d)
  ·intro j E m r;cases j with
   |zero=>simp at r;obtain⟨C,z,D⟩:=l.2.2.2 E m r;exact⟨C,z,by simp[D]⟩
   |succ j=>simpa using H j E m (by simpa using r)
 | [],_::_,h=>by simp[afG] at h
 |_::_,[],h=>by simp[afG] at h
def aqT(P:Program)(o:IOp)(m:Oper):Bool:=
 match o with
 | .newb d zero=>(m.dst==some d)&&(match m.op with| .alloc t=>aLb P t zero|_=>false)
 |_=>false
theorem aLs{d:Nat}{zero:List V}(b:aqT P (.newb d zero) m=true)(v:step Γ (.newb d zero) s=some (true,s'))(h:SR g s w a)(l:cW g s w a s' next):m.wp P a w next Q:=by
 obtain⟨dst,C,D,y,k,B⟩:=m;simp only[aqT,Ac,beq_iff_eq] at b;obtain⟨rfl,b⟩:=b;split at b
 ·rename_i t;unfold aLb at b;split at b
  ·rename_i i u;split at b
   ·rename_i z p;obtain rfl:_=s':=by simpa [step] using v
    obtain⟨q,r,f,A⟩:=ask (I:=g.I) (ρ:=g.ρ) (N:=s.hp.length) (w:=w) b;refine eH rfl (w':=w.alloc (.cells z.cells t)) (cv:=.pointer (some ⟨w.heap.size,0,none⟩)) ?_ (h.newObj zero z.cells t (by simpa using q) r (λi c cv b e=>(f i c cv b (by simpa using e)).1) (λi c cv b e=>(f i c cv b (by simpa using e)).2) (λj E n x=>by simpa using A j E n x) d) l;simp[execOp,Instr.alloc,zeroValue,typeInfo,u,p,newVar,newRow]
   ·simp at b
  ·simp at b
 ·simp at b
theorem ac9{I:Nat->Nat->Prop}{ρ:Nat->Nat}{N:Nat}{v:V}{cv:Value}(h:VRel I ρ N w v cv)(d:v.cells.all V.one=true):
  v.cells.length=cv.cells.size∧(∀c∈v.cells,c.one=true)∧∀(j:Nat) c u,v.cells[j]? =some c->cv.cells[j]? =some u->VRel I ρ N w c u:=by
 have e:∀c∈v.cells,c.one=true:=λc p=>Aw.1 d c p
 have k:=h;cases h with
 |agg cs us i _ r q=>exact⟨by simpa [V.cells,Cw] using i,e,by simpa [V.cells,Cw] using q⟩
 |undef=>simp[V.cells,V.one] at d
 |tup=>simp[V.cells,V.one] at d
 |junk cv l=>
  have b:cv.cells= #[cv]:=by cases cv<;>simp[DJ] at l<;>rfl
  refine⟨by simp[V.cells,b],e,?_⟩;intro j c u d f;rw[b] at f;cases j with
  |zero=>simp[V.cells] at d f;subst d f;exact k
  |succ j=>simp[V.cells] at d
 |_=>
  refine⟨by simp[V.cells,Cw],e,?_⟩;intro j c u d f;cases j with
  |zero=>simp[V.cells,Cw] at d f;subst d f;exact k
  |succ j=>simp[V.cells] at d
theorem aMF{d:Nat}{x:ASrc}(b:pR P (.box d x) m=true)(p:step Γ (.box d x) s=some (true,s'))(h:SR g s w a)(D:cW g s w a s' next):m.wp P a w next Q:=by
 obtain⟨dst,O,M,z,u,G⟩:=m;simp only[pR,Ac,beq_iff_eq] at b;obtain⟨rfl,b⟩:=b;split at b
 ·rename_i t y;simp only[Ac] at b;obtain⟨I,N⟩:=b;have q:=bA I h.er;have f:(execOp a.eval ⟨some d,.box t y,M,z,u,G⟩).run P w=.ok (.value (.pointer (some ⟨w.heap.size,0,none⟩))) (w.alloc (.cells (a.eval y).cells t)):=by
   simp[execOp,Instr.box,newVar,newRow]
  simp only[step] at p;split at p
  ·rename_i cs F;obtain rfl:_=s':=by simpa using p
   rw[F] at q;generalize a.eval y=cv at q f;cases q with
   |agg _ vs B J C L=>exact eH rfl f (h.newObj cs vs t B J L (λi c cv b e _=>C i c cv b e) (aJY B C) d) D
  ·rename_i v F H;split at p
   ·rename_i k;obtain rfl:_=s':=by simpa using p
    have l:(a.eval y).cells= #[a.eval y]:=by have:=q.oneCell k;cases A:a.eval y<;>rw[A] at this<;>simp[DJ] at this<;>rfl
    rw[l] at f;refine eH rfl f (h.newObj [disown (x.ev s)] #[a.eval y] t rfl (by simpa [nV] using k) ?_ ?_ ?_ d) D
    ·intro i c cv b e;cases i with
     |zero=>simp at b e;subst b e;exact q.disown
     |succ i=>simp at b
    ·intro i c cv b e;cases i with
     |zero=>intro _;simp at b e;subst b e;exact ako _ _
     |succ i=>simp at b
    ·intro j E n r;cases j with
     |zero=>simp at r;cases A:x.ev s<;>rw[A] at r<;>simp[disown] at r
     |succ j=>simp at r
   ·simp at p
 ·simp at b
theorem aJZ{x:ASrc}{y:Operand}{q:Occ}(b:bB x y=true)(h:SR g s w a):
  ∃g₁,SR g₁ (x.after s) w a∧FR g s.hp w g₁ s.hp w∧g₁.I=g.I∧g₁.ρ=g.ρ∧aP g₁ w q (x.ev s) (a.eval y):=by
 cases x with
 |t n=>exact⟨g,h,FR.refl _ _ _,rfl,rfl,aP.disown _ _ _ _ _⟩
 |c v=>
  refine⟨g,h,FR.refl _ _ _,rfl,rfl,?_⟩;unfold bB at b;split at b;·rename_i e;cases e
  ·rename_i e;cases e
  ·rename_i e;cases e;exact acK b _
  ·rename_i e;cases e;simp[ASrc.ev,aP]
  ·simp at b
 |tk n=>
  have d:y=.tmp n:=by
   unfold bB at b;split at b;·rename_i e;cases e
   ·rename_i k e;cases e;rw[show k=n by simpa using (beq_iff_eq.1 b).symm]
   ·rename_i e;cases e
   ·rename_i e;cases e
   ·simp at b
  subst d;have f:=h.er.getOwn n;obtain⟨g₁,i,j,p,r,l⟩:=atd (q:=q) (h.after (.tk n)) (acL n s) f;exact⟨g₁,i,by simpa [qJ] using j,p,r,l⟩
theorem SR.putCells(h:SR g s w a){id o:Nat}{cs news:List V}{us:List Value}(ho:s.obj id=some cs)(X:news.length=us.length)(h1:∀c∈news,c.one=true)
  (ay:o+news.length<=cs.length) (hv:∀(i:Nat) c cv,news[i]? =some c->us[i]? =some cv->VRel g.I g.ρ s.hp.length w c cv)
  (O:∀(i:Nat) c cv,news[i]? =some c->us[i]? =some cv->aP g w (.cell id (o+i)) c cv) (ac:∀(i E n:Nat),news[i]? =some (.bn E n)->cs[o+i]? =some (.bn E n)∧(us[i]? =some (.pointer none)∨us[i]? =some (.pointer (some ⟨g.ρ id,o+i,none⟩)))):
  SR g (s.setObj id (cs.take o++news++cs.drop (o+news.length))) (w.setCells (g.ρ id) o us) a∧
   FR g s.hp w g (s.hp.set id (some (cs.take o++news++cs.drop (o+news.length)))) (w.setCells (g.ρ id) o us):=by
 obtain⟨y,am⟩:=jJ ho;obtain⟨S,e,Y,t⟩:=yz h.hr ho;obtain⟨⟨M,q1,q2⟩,q3,q4,q5,q6,q7⟩:=iV (g.ρ id) us o w S e (0,0) Y;let w':=w.setCells (g.ρ id) o us;let q:=cs.take o++news++cs.drop (o+news.length);have W:=t.len;have aa:∀b j,g.I b j->b≠g.ρ id:=by rintro b j F rfl;exact h.hr.notI id cs y j F
 have B:∀b j,g.I b j->w'.cell? ⟨b,j,none⟩=w.cell? ⟨b,j,none⟩:=by intro b j F;exact A5 _ us o w _ (λe=>absurd e (aa b j F))
 have u:Up g.I g.ρ s.hp.length w g.I g.ρ s.hp.length w':=⟨λ_ _ h=>h,B,λ_ _=>rfl,Ap _⟩
 have p:∀H v cv,aP g w H v cv->aP g w' H v cv:=by intro H v cv ae;refine dg ae rfl (λb j F=>⟨u.mono b j F,u.cell b j F⟩) ?_;intro b D;refine⟨D,q3 b ?_,λj r=>r⟩;rintro rfl;rw[h.hr.notO id cs y] at D;simp at D
 have x:∀j,M[j]? =if o<=j∧j<o+us.length then us[j-o]? else S[j]?:=by
  intro j;rw[<-bk q1 j];split;·rename_i r;have:=BJ (g.ρ id) us o w (λj' az=>by rw[bk Y,Am (by omega)];rfl) (j-o) (by omega);rw[show o+(j-o)=j by omega] at this;rw[this,Ah]
  ·rename_i r;rw[A5 _ us o w _ (λ_ _=>by simp only;omega),bk Y]
 have G:∀j,q[j]? =if o<=j∧j<o+news.length then news[j-o]? else cs[j]?:=by
  intro j;have ht:(cs.take o).length=o:=by simp;omega
  simp only[q];split;·rename_i r;rw[AP,At (by omega),ht,Au (by omega)]
  ·rename_i r;rcases AG j o with h'|h';·rw[AP,Au (by omega),AY,if_pos h']
   ·rw[At (by simp;omega),Bk]
    congr 1
    simp;omega
 have ad:q.length=cs.length:=by simp[q];omega
 have R:∀c∈q,c.one=true:=by
  intro c k;simp only[q,Az] at k;rcases k with(k|k)|k;·exact t.one c (Bv k)
  ·exact h1 c k
  ·exact t.one c (Bw k)
 have ah:id<s.hp.length:=(Ag.1 y).1;have split:∀(f:Nat) o',(s.hp.set id (some q))[f]? =some (some o')->(f=id∧o'=q)∨(f≠id∧s.hp[f]? =some (some o')):=by
  intro f o' l;rw[Ax] at l;split at l;·rename_i e;simp[ah] at l;exact .inl ⟨e.symm,l.symm⟩
  ·rename_i e;exact .inr ⟨λe'=>e e'.symm,l⟩
 have C:∀(f:Nat) o',(s.hp.set id (some q))[f]? =some (some o')->∃J,s.hp[f]? =some (some J):=by
  intro f o' l;rcases split f o' l with⟨rfl,_⟩|⟨_,l⟩
  ·exact⟨cs,y⟩
  ·exact⟨_,l⟩
 refine⟨⟨⟨?_,?_,?_,?_,?_,?_⟩,⟨h.er.size,?_,?_⟩⟩,⟨rfl,q5,q6,q7,by rw[q4];exact Ap _,?_,?_,λ_ _ _ _ _ F=>F,λ_ _ _ hO=>hO,?_⟩⟩
 ·intro f o' l;simp only[St.setObj,AD];rcases split f o' l with⟨rfl,rfl⟩|⟨L,l⟩
  ·refine ig.ofRow0 q1 ⟨by rw[ad,q2,W],R,?_,?_,?_⟩
   ·intro j c cv k d;rw[G] at k;rw[x] at d;rw[<-X] at d;split at k;·rename_i r;rw[if_pos r] at d;exact(hv _ c cv k d).up u
    ·rename_i r;rw[if_neg r] at d;exact(t.rel j c cv k d).up u
   ·intro j c cv k d;rw[G] at k;rw[x] at d;rw[<-X] at d;split at k;·rename_i r;rw[if_pos r] at d;have:=O _ c cv k d;rw[show o+(j-o)=j by omega] at this;exact p _ _ _ this
    ·rename_i r;rw[if_neg r] at d;exact p _ _ _ (t.own j c cv k d)
   ·intro j E n k;rw[G] at k;split at k;·rename_i r;obtain⟨m1,m2⟩:=ac _ E n k;rw[show o+(j-o)=j by omega] at m1 m2;obtain⟨m3,m4, -⟩:=t.bn j E n m1;refine⟨m3,by rw[q2];exact m4,?_⟩;rw[x,<-X,if_pos r];exact m2
    ·rename_i r;rw[x,<-X,if_neg r,q2];exact t.bn j E n k
  ·refine(h.hr.obj f o' l).keep ?_ λao e2 fz z A=>⟨A.len,A.plain,A.typedUp rfl u.rho u.num rfl,A.cold,A.one,λj c cv k d=>(A.rel j c cv k d).up u,λj c cv k d=>p _ _ _ (A.own j c cv k d),A.bn⟩
   rw[q3 _ (h.hr.apart f id o' cs l y L)]
 ·intro id1 Z N c2 z A L;obtain⟨_,z⟩:=C id1 N z;obtain⟨_,A⟩:=C Z c2 A;exact h.hr.apart _ _ _ _ z A L
 ·intro id1 N z;obtain⟨_,z⟩:=C id1 N z;exact h.hr.notI _ _ z
 ·intro id1 N z;obtain⟨_,z⟩:=C id1 N z;exact h.hr.notO _ _ z
 ·intro b j F;have:=B b j F;rw[this];exact h.hr.exI b j F
 ·intro b oc D;rw[q4];exact h.hr.oLt b oc D
 ·intro n v cv l d;simp only[St.setObj,AD];exact(h.er.rel n v cv l d).up u
 ·intro n v cv l d;exact p _ _ _ (h.er.own n v cv l d)
 ·intro b _ ab _;exact q3 b (λe=>ab id cs y e.symm)
 ·simp only[AD];exact u
 ·intro f o' l;obtain⟨J,l⟩:=C f o' l;exact .inl ⟨J,l⟩
theorem SR.bareCell(h:SR g s w a){id o:Nat}{cs:List V}(F:s.obj id=some cs):
  SR g (s.setObj id (cs.set o (disown (cs.getD o .undef)))) w a∧FR g s.hp w g (s.hp.set id (some (cs.set o (disown (cs.getD o .undef))))) w:=by
 obtain⟨A,G⟩:=jJ F;have D:id<s.hp.length:=(Ag.1 A).1;let p:=cs.set o (disown (cs.getD o .undef));have split:∀(b:Nat) o',(s.hp.set id (some p))[b]? =some (some o')->(b=id∧o'=p)∨(b≠id∧s.hp[b]? =some (some o')):=by
  intro b o' f;rw[Ax] at f;split at f;·rename_i e;simp[D] at f;exact .inl ⟨e.symm,f.symm⟩
  ·rename_i e;exact .inr ⟨λM=>e M.symm,f⟩
 have q:∀(b:Nat) o',(s.hp.set id (some p))[b]? =some (some o')->∃x,s.hp[b]? =some (some x):=by
  intro b o' f;rcases split b o' f with⟨rfl,_⟩|⟨_,f⟩
  ·exact⟨cs,A⟩
  ·exact⟨_,f⟩
 have l:∀(j:Nat) c,p[j]? =some c->∃t,cs[j]? =some t∧(c=t∨c=disown t):=by
  intro j c k;simp only[p,Ax] at k;split at k
  ·rename_i e;subst e;split at k;·rename_i B;refine⟨cs[o],Ah B,.inr ?_⟩;simp only[Ae] at k;rw[<-k];simp[Af,Ah B]
   ·simp at k
  ·exact⟨c,k,.inl rfl⟩
 refine⟨⟨⟨?_,?_,?_,?_,h.hr.exI,h.hr.oLt⟩,⟨h.er.size,?_,h.er.own⟩⟩,⟨rfl,rfl,rfl,rfl,Ap _,λ_ _ _ _=>rfl,?_,λ_ _ _ _ _ L=>L,λ_ _ _ H=>H,?_⟩⟩
 ·intro b o' f;simp only[St.setObj,AD];rcases split b o' f with⟨rfl,rfl⟩|⟨z,f⟩
  ·obtain⟨O,e,J,r⟩:=yz h.hr F;refine ig.ofRow0 J ⟨by simp[p,r.len],?_,?_,?_,?_⟩
   ·intro c k;obtain⟨j,N,rfl⟩:=AU.1 k;obtain⟨t,i,d⟩:=l j _ (Ah N);have:=r.one t (Ar i);rcases d with d|d<;>rw[d];·exact this
    ·rw[nV];exact this
   ·intro j c cv k u;obtain⟨t,i,d⟩:=l j _ k;have:=r.rel j t cv i u;rcases d with d|d<;>rw[d];·exact this
    ·exact this.disown
   ·intro j c cv k u;obtain⟨t,i,d⟩:=l j _ k;have:=r.own j t cv i u;rcases d with d|d<;>rw[d];·exact this
    ·exact aP.disown _ _ _ _ _
   ·intro j E n k;obtain⟨t,i,d⟩:=l j _ k;rcases d with d|d;·exact r.bn j E n (by rw[d];exact i)
    ·cases t<;>simp[disown] at d
  ·exact h.hr.obj b o' f
 ·intro id1 C y I i d z;obtain⟨_,i⟩:=q id1 y i;obtain⟨_,d⟩:=q C I d;exact h.hr.apart _ _ _ _ i d z
 ·intro id1 y i;obtain⟨_,i⟩:=q id1 y i;exact h.hr.notI _ _ i
 ·intro id1 y i;obtain⟨_,i⟩:=q id1 y i;exact h.hr.notO _ _ i
 ·intro n v cv f u;simp only[St.setObj,AD];exact h.er.rel n v cv f u
 ·simp only[AD];exact Up.refl _ _ _ _
 ·intro b o' f;obtain⟨x,f⟩:=q b o' f;exact .inl ⟨x,f⟩
theorem aIi{d n:Nat}{agg:Bool}{x:ASrc}(u:pR P (.ld d n agg true x) m=true)(f:step Γ (.ld d n agg true x) s=some (true,s'))(h:SR g s w a)(R:cW g s w a s' next):m.wp P a w next Q:=by
 obtain⟨dst,op,ty,H,F,Y⟩:=m;simp only[pR,Ac,beq_iff_eq] at u;obtain⟨rfl,u⟩:=u;split at u
 ·rename_i t S;simp only[Ac,beq_iff_eq,BE] at u;obtain⟨N,O,⟨rfl,rfl⟩,X⟩:=u;have G:=bA X h.er;simp only[step] at f;split at f
  ·rename_i cs J;have r:bN P (.ld d 1 false false x) ⟨some d,.load t S,ty,H,F,Y⟩=true:=by
    simp[bN,N,O,X]
   refine aGZ (Γ:=Γ) r ?_ h R;simp only[step,J];exact f
  ·rename_i id o J;split at f
   ·rename_i cs I;split at f
    ·rename_i ag;simp only[if_true] at f;cases D:noBn (cs.getD o .undef) with
     |false=>rw[D] at f;simp at f
     |true=>
     rw[D] at f;simp only[if_true] at f;obtain rfl:_=s':=by simpa using f
     rw[J] at G;generalize M:a.eval S=cv at G;cases G with
     |ptr _ _ aj=>
      obtain⟨i,e,hb,l⟩:=yz h.hr I;have W:=l.len;have y:o<cs.length:=by omega
      have C:o<i.size:=by omega
      have E:=pQ (P:=P) (w:=w) (b:=g.ρ id) (o:=o) (vs:=[i[o]]) N O (.inr rfl) rfl (λj v L=>by
       cases j with
       |zero=>simp at L;subst L;rw[bk hb];simp[C]
       |succ j=>simp at L)
      have A:cs[o]? =some cs[o]:=Ah y;have B:i[o]? =some i[o]:=Am C;obtain⟨b1,b2⟩:=h.bareCell (o:=o) I;obtain⟨g₁,t1,t2,t3,t4,t5⟩:=atd (q:=.slot d) b1 (p:=.cell id o) (by intro ak v c k;simp only[St.setObj] at c;rw[BC (Ag.1 (jJ I).1).1] at c;simp only[Ae] at c;subst c;rw[BC y] at k;simp only[Ae] at k;subst k;exact dZ _) (l.own o _ _ A B);have z:(Dz t (.pointer (some ⟨g.ρ id,o,none⟩))).run P w=.ok i[o] w:=E;refine eH rfl (cv:=i[o]) (w':=w) (by simp[execOp,M,z]) ⟨g₁,?_,?_⟩ R
      ·have Z:loaded false ((cs.drop o).take 1)=cs[o]:=by
        rw[BD y];rfl
       rw[Z];refine t1.set d ?_ t5;rw[t3,t4];simpa [St.setObj] using l.rel o _ _ A B
      ·exact b2.trans (by simpa [St.set,St.setObj] using t2)
    ·simp at f
   ·simp at f
  ·simp at f
 ·simp at u
theorem aNA{d:Option Nat}{n:Nat}{x v:ASrc}(b:pR P (.st d n x v) m=true)(z:step Γ (.st d n x v) s=some (true,s'))(h:SR g s w a)(hn:cW g s w a s' next):m.wp P a w next Q:=by
 obtain⟨dst,op,ty,ai,R,gd⟩:=m;simp only[pR,Ac,beq_iff_eq] at b;obtain⟨rfl,b⟩:=b;split at b
 ·rename_i t x' r;simp only[Ac,beq_iff_eq] at b;obtain⟨h1,h2,h3⟩:=b;have X:=bA h2 h.er;have F:=bA h3 h.er;simp only[step] at z;split at z
  ·rename_i id o hx;split at z
   ·rename_i cs ho;split at z
    ·rename_i p;simp only[Ac,beq_iff_eq,decide_eq_true_eq] at p;obtain⟨⟨C,H⟩,ax,ad⟩:=p;obtain rfl:_=s':=by simpa using z
     rw[hx] at X;generalize O:a.eval x'=cx at X;cases X with
     |ptr _ _ az=>
      obtain⟨a3,e,hb,af⟩:=yz h.hr ho;have ap:=af.len;obtain⟨W,S,c3⟩:=ac9 F H;have N:(a.eval r).cells.size=n:=by rw[<-W];exact C
      have B:(execOp a.eval ⟨dst,.store t x' r,ty,ai,R,gd⟩).run P w=.ok .skip (w.setCells (g.ρ id) o (a.eval r).cells.toList):=by
       have:=run_storeCells_cells (P:=P) (g.ρ id) o (a.eval r).cells.toList 0 w
        (λj L=>by rw[bk hb,Am (by simp at L;omega)];rfl)
        (λj L=>by simp[B2,hb])
        (λu hu=>by
         obtain⟨j,L,rfl⟩:=AU.1 hu;have G:j<(v.ev s).cells.length:=by rw[W];simpa using L
         exact(c3 j _ _ (Ah G) (by simp)).oneCell (S _ (BU G)))
       simp[execOp,O,Dn,BF,storeVar,gv h1,N,this]
      have key:∃g₁,SR g₁ (v.after s) w a∧FR g s.hp w g₁ s.hp w∧g₁.I=g.I∧g₁.ρ=g.ρ∧
        ∀(i:Nat) c cv,(v.ev s).cells[i]? =some c->(a.eval r).cells.toList[i]? =some cv->aP g₁ w (.cell id (o+i)) c cv:=by
       by_cases k:∃cs,v.ev s=.agg cs
       ·obtain⟨ay,k⟩:=k;refine⟨g,h.after v,FR.refl _ _ _,rfl,rfl,?_⟩;rw[k] at F;generalize a.eval r=a0 at F;cases F with
        |agg _ au _ _ ag _=>intro i c cv b f;rw[k] at b;exact(ag i c cv (by simpa [V.cells] using b) (by simpa [Cw] using f)).own _ _ _
       ·have l:(v.ev s).cells=[v.ev s]:=by
         cases hh:v.ev s<;>first|rfl|(rw[hh] at k;exact absurd ⟨_,rfl⟩ k)
        obtain⟨g₁,k1,J,k3,M,Z⟩:=aJZ (q:=.cell id o) h3 h;refine⟨g₁,k1,J,k3,M,?_⟩;have A:(v.ev s).one=true:=S _ (by rw[l];exact Ay.2 rfl);have y:(a.eval r).cells= #[a.eval r]:=by have:=F.oneCell A;cases hh:a.eval r<;>rw[hh] at this<;>simp[DJ] at this<;>rfl
        intro i c cv b f;rw[l] at b;rw[y] at f;cases i with
        |zero=>simp at b f;subst b f;exact Z
        |succ i=>simp at b
      obtain⟨g₁,k1,J,k3,M,Z⟩:=key;have Y:(v.after s).obj id=some cs:=by unfold St.obj;rw[qJ];exact ho
      have D:g₁.ρ id=g.ρ id:=by rw[M]
      obtain⟨p1,p2⟩:=k1.putCells (o:=o) (news:=(v.ev s).cells) (us:=(a.eval r).cells.toList) Y (by simpa using W) S (by omega)
       (λi c cv b f=>by rw[k3,M,qJ];exact c3 i c cv b (by simpa using f)) Z (λi E n hi=>absurd (Aw.1 ad _ (Ar hi)) (by simp[noBn]))
      rw[D,C,AP] at p1 p2;unfold C4 C1;rw[B];cases dst with
      |none=>refine hn _ _ g₁ p1 ?_ rfl;refine J.trans ?_;simpa [St.setObj,St.setO,qJ] using p2
      |some d=>refine hn _ _ g₁ (p1.set d (.undef _) (by simp[aP])) ?_ rfl;refine J.trans ?_;simpa [St.setObj,St.setO,St.set,qJ] using p2
    ·simp at z
   ·simp at z
  ·simp at z
 ·simp at b
theorem aku{α:Type}(l news:List α)(o:Nat)(c:o+news.length<=l.length)(j:Nat):
  (l.take o++news++l.drop (o+news.length))[j]? =if o<=j∧j<o+news.length then news[j-o]? else l[j]?:=by
 have e:(l.take o).length=o:=by simp;omega
 split;·rename_i d;rw[AP,At (by omega),e,Au (by omega)]
 ·rename_i d;rcases AG j o with b|b;·rw[AP,Au (by omega),AY,if_pos b]
  ·rw[At (by simp;omega),Bk]
   congr 1
   simp;omega
structure Row(I:Nat->Nat->Prop)(ρ:Nat->Nat)(N:Nat)(w:World)(cs:List V)(us:List Value):Prop where
 len:cs.length=us.length
 one:∀c∈cs,c.one=true
 rel:∀(i:Nat) c cv,cs[i]? =some c->us[i]? =some cv->VRel I ρ N w c cv
 nil:∀(i:Nat) c cv,cs[i]? =some c->us[i]? =some cv->d7 c cv
theorem Row.over{I:Nat->Nat->Prop}{ρ:Nat->Nat}{N:Nat}{cs news:List V}{us vs:List Value}(h:Row I ρ N w cs us)(k:Row I ρ N w news vs)(o:Nat)(f:o+news.length<=cs.length):
  Row I ρ N w (cs.take o++news++cs.drop (o+news.length)) (us.take o++vs++us.drop (o+vs.length)):=by
 have q:=h.len;have l:=k.len;have j:=aku cs news o f;have p:=aku us vs o (by omega);refine⟨by simp;omega,?_,?_,?_⟩
 ·intro c d;simp only[Az] at d;rcases d with(d|d)|d;·exact h.one c (Bv d)
  ·exact k.one c d
  ·exact h.one c (Bw d)
 ·intro i c cv d b;rw[j] at d;rw[p,<-l] at b;split at d;·rename_i e;rw[if_pos e] at b;exact k.rel _ _ _ d b
  ·rename_i e;rw[if_neg e] at b;exact h.rel _ _ _ d b
 ·intro i c cv d b;rw[j] at d;rw[p,<-l] at b;split at d;·rename_i e;rw[if_pos e] at b;exact k.nil _ _ _ d b
  ·rename_i e;rw[if_neg e] at b;exact h.nil _ _ _ d b
theorem aIj(fs:List Field)(h:fs.all (λf=>(P.info? f.type).isSome)=true):
  ∃places,fs.mapM (λf=>(P.info? f.type).map λi=>(f.offset,i.size))=some places∧∀(i:Nat) f n,fs[i]? =some f->fm P f.type=some n->places[i]? =some (f.offset,n):=by
 induction fs with
 |nil=>exact⟨[],rfl,by simp⟩
 |cons f fs p=>
  simp only[Cm,Ac] at h;obtain⟨places,k,l⟩:=p h.2;obtain⟨i,d⟩:=Bq.1 h.1;refine⟨(f.offset,i.size)::places,by simp[List.mapM_cons,d,k],?_⟩;intro j e n b c;cases j with
  |zero=>simp at b;subst b;simp[fm,d] at c;simp[c]
  |succ j=>exact l j e n (by simpa using b) c
theorem atf(h:SR g s w a){fs:Array Field}{places:Nat->Option (Nat×Nat)}(hp:∀(i:Nat) f n,fs[i]? =some f->fm P f.type=some n->places i=some (f.offset,n)):
  ∀(E:List (Nat×Nat×ASrc))(F:List (Nat×Operand))(cs l:List V)(d:Array Value),afO P fs E F=true->Row g.I g.ρ s.hp.length w cs d.toList->
   lay cs (E.map λ(D,n,x)=>(D,n,x.ev s))=some l->∃e,CH places d (F.map λ(i,y)=>(i,a.eval y))=some e∧Row g.I g.ρ s.hp.length w l e.toList
 | [],[],cs,l,d,_,G,t=>by simp[lay] at t;subst t;exact⟨d,by simp[CH],G⟩
 |(D,n,x)::E,(i,y)::F,cs,l,d,v,G,t=>by
  simp only[afO,Ac] at v;obtain⟨q,J,H⟩:=v;split at q
  ·rename_i f R;simp only[Ac,beq_iff_eq] at q;obtain⟨rfl,W⟩:=q;simp only[Bb,lay] at t;split at t
   ·rename_i k;simp only[Ac,beq_iff_eq,decide_eq_true_eq] at k;obtain⟨⟨r,A⟩,Z⟩:=k;obtain⟨N,S,Y⟩:=ac9 (bA J h.er) A;have B:Row g.I g.ρ s.hp.length w ((x.ev s).cells.map disown) (a.eval y).cells.toList:=by
     refine⟨by simp[N],?_,?_,?_⟩;·intro c u;obtain⟨M,p,rfl⟩:=AH.1 u;rw[nV];exact S M p
     ·intro j c cv u L;rw[AA,As] at u;obtain⟨M,p,rfl⟩:=u;exact(Y j _ _ p (by simpa using L)).disown
     ·intro j c cv u _;rw[AA,As] at u;obtain⟨M,p,rfl⟩:=u;exact ako _ _
    have z:(a.eval y).cells.size=n:=by rw[<-N];exact r
    have O:d.size=cs.length:=by have:=G.len;simpa using this.symm
    have C:=anZ (a.eval y).cells.toList f.offset 0 d (by simp[z];omega);simp only[B6,BX] at C;have b:=G.over B f.offset (by simp[r];omega);simp only[BW,r,BX] at b;rw[<-C] at b;obtain⟨e,X,k2⟩:=atf h hp E F _ l _ H b t;refine⟨e,?_,k2⟩;simp only[Bb,CH,hp i f n R W,z];rw[if_neg (by simp;omega)];rw[<-X]
    congr 1
    rw[<-Array.foldl_toList,Array.toList_zipIdx]
   ·simp at t
  ·simp at q
 | [],_::_,_,_,_,v,_,_=>by simp[afO] at v
 |_::_,[],_,_,_,v,_,_=>by simp[afO] at v
theorem aMG{d:Nat}{zero:List V}{G:List (Nat×Nat×ASrc)}(k:pR P (.bld d zero G) m=true)(x:step Γ (.bld d zero G) s=some (true,s'))(h:SR g s w a)(u:cW g s w a s' next):m.wp P a w next Q:=by
 obtain⟨dst,op,ty,ae,aa,gd⟩:=m;simp only[pR,Ac,beq_iff_eq] at k;obtain⟨rfl,k⟩:=k;split at k
 ·rename_i t H;simp only[Ac] at k;obtain⟨Z,r⟩:=k;split at r
  ·rename_i fs M;simp only[Ac] at r;obtain⟨r,h3⟩:=r;obtain⟨i,z,D,L,q⟩:=zu Z;obtain⟨S,W,X⟩:=oR (I:=g.I) (ρ:=g.ρ) (N:=s.hp.length) (w:=w) q;obtain⟨places,e1,e2⟩:=aIj (P:=P) fs.toList (by simpa using h3);simp only[step,As] at x;obtain⟨B,J,x⟩:=x;obtain rfl:_=s':=by simpa using x
   obtain⟨l,Y,v⟩:=atf (P:=P) (fs:=fs) (places:=λi=>places.toArray[i]?) h (λi f n C u=>by simpa using e2 i f n (by simpa using C) u) G H.toList zero B z.cells r ⟨S,W,X,λi c cv k b=>sN q i c cv k b⟩ J;have p:=run_build (P:=P) w t (H.map λ(i,y)=>(i,a.eval y)) l (by simp only[Program.built,D,M,L,e1];simpa using Y);refine bu h rfl (cv:=.agg l) (by simp[execOp,p]) (.agg _ _ (by simpa using v.len) v.one (λi c cv k b=>v.nil i c cv k (by simpa using b)) (λi c cv k b=>v.rel i c cv k (by simpa using b))) rfl u
  ·rename_i F e M;split at r
   ·rename_i sz A;obtain⟨i,z,D,L,q⟩:=zu Z;obtain⟨S,W,X⟩:=oR (I:=g.I) (ρ:=g.ρ) (N:=s.hp.length) (w:=w) q;simp only[step,As] at x;obtain⟨B,J,x⟩:=x;obtain rfl:_=s':=by simpa using x
    obtain⟨ie,O,R⟩:∃i,P.info? e=some i∧i.size=sz:=by unfold fm at A;obtain⟨i,D,h⟩:=As.1 A;exact⟨i,D,h⟩
    obtain⟨l,Y,v⟩:=atf (P:=P) (fs:=aJX F sz e) (places:=λi=>some (i*sz,sz)) h (λi f n C u=>by
     have C:(List.map (λi=>aIh e (i*sz)) (BN F))[i]? =some f:=by simpa [aJX] using C
     rw[AA,As] at C;obtain⟨j,E,rfl⟩:=C;have E:j=i:=by
      rw[List.getElem?_range] at E;·exact(AF E).symm
      ·exact(by simpa using (Ag.1 E).1)
     subst E;have u:fm P e=some n:=u;rw[A] at u;cases u;rfl) G H.toList zero B z.cells r ⟨S,W,X,λi c cv k b=>sN q i c cv k b⟩ J
    have p:=run_build (P:=P) w t (H.map λ(i,y)=>(i,a.eval y)) l (by simp only[Program.built,D,M,L,O,R];simpa using Y);refine bu h rfl (cv:=.agg l) (by simp[execOp,p]) (.agg _ _ (by simpa using v.len) v.one (λi c cv k b=>v.nil i c cv k (by simpa using b)) (λi c cv k b=>v.rel i c cv k (by simpa using b))) rfl u
   ·simp at r
  ·simp at r
 ·simp at k
end
def ab2:List ASrc->List Operand->Bool
 | [],[]=>true
 |x::xs,y::ys=>bB x y&&ab2 xs ys
 |_,_=>false
def uY(P:Program)(o:IOp)(m:Oper):Bool:=
 match o with
 | .alr d n=>(m.dst==some d)&&(match m.op with| .alloc t=>(match P.info? t with|some i=>(match i.zero with|some z=>z.cells.size==n|none=>false)|none=>false)|_=>false)
 | .frz d r n v=>(m.dst==d)&&(match m.op with| .store t (.tmp c) b=>(r==c)&&((fm P t==some n)&&bB v b)|_=>false)
 | .pub d r n v=>(m.dst==d)&&(match m.op with| .store t (.tmp c) b=>(r==c)&&((fm P t==some n)&&bB v b)|_=>false)
 | .lde d n agg x=>bN P (.ld d n agg false x) m
 | .boxe d x=>(m.dst==some d)&&(match m.op with| .box t y=>bB x y|_=>false)
 | .mkf d f xs=>(m.dst==some d)&&(match m.op with| .makeFunc (.func e) first ys=>(f==e)&&(first.isEmpty&&ab2 xs ys.toList)|_=>false)
 |_=>false
section
variable{w w':World}{g g':Gh}{s s':St}{a:Act}{P:Program}{Γ:aG}{m:Oper}{next:Act->World->Prop}{Q:Exit->Act->World->Prop}
theorem SR.newLaid(h:SR g s w a)(cs:List V)(d:Nat)(f:Array Value)(e:TypeId)
  (F:cs.length=f.size) (E:∀c∈cs,c.one=true)
  (B:∀(j:Nat) c cv,cs[j]? =some c->f[j]? =some cv->VRel g.I g.ρ s.hp.length w c cv):
  ∃g',SR g' (s.set d (.ea cs)) (w.alloc (.cells f e)) (a.put (some d) (.pointer (some ⟨w.heap.size,0,none⟩)))∧FR g s.hp w g' s.hp (w.alloc (.cells f e)):=by
 obtain⟨D,i,y⟩:=hU w (.cells f e);let g':Gh:={I:=λb j=>g.I b j∨(b=w.heap.size∧j<cs.length),ρ:=g.ρ,O:=g.O,β:=g.β}
 have x:∀b j,g.I b j->b<w.heap.size:=by intro b j r;obtain⟨v,B⟩:=Bq.1 (h.hr.exI b j r);exact BL _ _ B
 have l:∀b j,b<w.heap.size->(w.alloc (.cells f e)).cell? ⟨b,j,none⟩=w.cell? ⟨b,j,none⟩:=by intro b j q;simp[By,i b q]
 have u:Up g.I g.ρ s.hp.length w g'.I g'.ρ s.hp.length (w.alloc (.cells f e)):=⟨λb j r=>.inl r,λb j r=>l b j (x b j r),λ_ _=>rfl,Ap _⟩
 have p:∀j,(w.alloc (.cells f e)).cell? ⟨w.heap.size,j,none⟩=f[j]?:=λj=>bk y j
 have G:SR g' s (w.alloc (.cells f e)) a:=by
  refine h.keep none trivial rfl u ?_ ?_ ?_ ?_
  ·intro A b q _;have t:=h.hr.oLt b A q;refine⟨q,i b t,?_⟩;rintro j (k|⟨k,_⟩);·exact k
   ·omega
  ·intro id cs z;have t:=(h.hr.obj id cs z).lt;refine⟨i _ t,h.hr.notO id cs z,?_⟩;rintro j (k|⟨k,_⟩);·exact k
   ·omega
  ·rintro b j (k|⟨rfl,k⟩);·rw[l b j (x b j k)];exact h.hr.exI b j k
   ·rw[p,Am (by omega)];rfl
  ·intro b o q;have:=h.hr.oLt b o q;omega
 refine⟨g',G.set d ?_ (by simp[aP]),⟨rfl,rfl,rfl,rfl,by omega,λb q _ _=>i b q,u,?_,λ_ _ _ h=>h,λ_ cs h=>.inl ⟨cs,h⟩⟩⟩
 ·refine .ea cs _ _ (λj=>f[j]?.getD undef) E ?_ ?_ ?_;·intro j k;exact .inr ⟨rfl,by omega⟩
  ·intro j k;rw[Bf,p,Am (by omega)];rfl
  ·intro j c C;have k:j<f.size:=by rw[<-F];exact(Ag.1 C).1
   have:=B j c _ C (Am k);rw[Am k];exact this.up u
 ·rintro b j q _ H (r|⟨rfl,_⟩);·exact r
  ·omega
theorem aLt{d:Nat}{x:ASrc}(b:uY P (.boxe d x) m=true)(q:step Γ (.boxe d x) s=some (true,s'))(h:SR g s w a)(B:cW g s w a s' next):m.wp P a w next Q:=by
 obtain⟨dst,M,J,A,z,D⟩:=m;simp only[uY,Ac,beq_iff_eq] at b;obtain⟨rfl,b⟩:=b;split at b
 ·rename_i t y;have r:=bA b h.er;have e:(execOp a.eval ⟨some d,.box t y,J,A,z,D⟩).run P w=.ok (.value (.pointer (some ⟨w.heap.size,0,none⟩))) (w.alloc (.cells (a.eval y).cells t)):=by
   simp[execOp,Instr.box,newVar,newRow]
  simp only[step] at q;split at q
  ·rename_i cs C;obtain rfl:_=s':=by simpa using q
   rw[C] at r;generalize a.eval y=cv at r e;cases r with
   |agg _ vs F H L I=>
    refine eH rfl e (h.newLaid (cs.map disown) d vs t (by simpa using F) ?_ ?_) B;·intro c b;obtain⟨u,p,rfl⟩:=AH.1 b;rw[nV];exact H u p
    ·intro j c cv b f;rw[AA,As] at b;obtain⟨u,p,rfl⟩:=b;exact(I j u cv p f).disown
  ·rename_i v C E;split at q
   ·rename_i k;obtain rfl:_=s':=by simpa using q
    have l:(a.eval y).cells= #[a.eval y]:=by have:=r.oneCell k;cases G:a.eval y<;>rw[G] at this<;>simp[DJ] at this<;>rfl
    rw[l] at e;refine eH rfl e (h.newLaid [disown (x.ev s)] d #[a.eval y] t rfl (by simpa [nV] using k) ?_) B;intro i c cv b f;cases i with
    |zero=>simp at b f;subst b f;exact r.disown
    |succ i=>simp at b
   ·simp at q
 ·simp at b
theorem aMH{d n:Nat}{agg:Bool}{x:ASrc}(c:uY P (.lde d n agg x) m=true)(b:step Γ (.lde d n agg x) s=some (true,s'))(h:SR g s w a)(f:cW g s w a s' next):m.wp P a w next Q:=by
 refine aGZ (Γ:=Γ) (d:=d) (n:=n) (agg:=agg) (x:=x) c ?_ h f;simp only[step] at b ⊢;split at b;·rename_i cs e;rw[e];exact b
 ·simp at b
theorem aMI{d n:Nat}(p:uY P (.alr d n) m=true)(D:step Γ (.alr d n) s=some (true,s'))(h:SR g s w a)(G:cW g s w a s' next):m.wp P a w next Q:=by
 obtain⟨dst,R,S,M,F,N⟩:=m;simp only[uY,Ac,beq_iff_eq] at p;obtain⟨rfl,p⟩:=p;split at p
 ·rename_i t;split at p
  ·rename_i i q;split at p
   ·rename_i z H;have B:z.cells.size=n:=by simpa using p
    obtain rfl:_=s':=by simpa [step] using D
    have f:=hU w (.cells z.cells t);obtain⟨J,c,y⟩:=f;refine eH rfl (w':=w.alloc (.cells z.cells t)) (cv:=.pointer (some ⟨w.heap.size,0,none⟩)) (by simp[execOp,Instr.alloc,zeroValue,typeInfo,q,H,newVar,newRow]) ?_ G;let g':Gh:={I:=g.I,ρ:=g.ρ,O:=λb=>if b=w.heap.size then some (.slot d) else g.O b,β:=g.β}
    have x:∀b j,g.I b j->b<w.heap.size:=by intro b j q;obtain⟨v,L⟩:=Bq.1 (h.hr.exI b j q);exact BL _ _ L
    have k:∀b j,b<w.heap.size->(w.alloc (.cells z.cells t)).cell? ⟨b,j,none⟩=w.cell? ⟨b,j,none⟩:=by intro b j e;simp[By,c b e]
    have u:Up g.I g.ρ s.hp.length w g'.I g'.ρ s.hp.length (w.alloc (.cells z.cells t)):=⟨λb j q=>q,λb j q=>k b j (x b j q),λ_ _=>rfl,Ap _⟩
    have D:SR g' s (w.alloc (.cells z.cells t)) a:=by
     refine h.keep none trivial rfl u ?_ ?_ ?_ ?_;·intro C b e _;have l:=h.hr.oLt b C e;exact⟨by simp[g',Be l,e],c b l,λj r=>r⟩
     ·intro id cs A;have l:=(h.hr.obj id cs A).lt;exact⟨c _ l,by simp[g',Be l,h.hr.notO id cs A],λj r=>r⟩
     ·intro b j r;rw[k b j (x b j r)];exact h.hr.exI b j r
     ·intro b o e;simp only[g'] at e;split at e;·omega
      ·have:=h.hr.oLt b o e;omega
    refine⟨g',D.set d (.raw n _) ?_,⟨rfl,rfl,rfl,rfl,by omega,λb e _ _=>c b e,u,λb j _ _ _ q=>q,?_,λ_ cs h=>.inl ⟨cs,h⟩⟩⟩;·refine⟨by simp[g'],⟨z.cells,t,y,B⟩,λj r=>?_⟩;exact absurd (x _ _ r) (DV _)
    ·intro b e E;simp[g',Be e,E]
   ·simp at p
  ·simp at p
 ·simp at p
theorem ER.put'{N:Nat}(h:ER g N w s.env a.tmps)(d:Nat){v:V}(l:VRel g.I g.ρ N w v (a.tmps.getD d undef))(k:aP g w (.slot d) v (a.tmps.getD d undef)):
  ER g N w (s.set d v).env a.tmps:=by
 refine⟨by simp[St.set,h.size],?_,?_⟩
 ·intro n j i b c;simp only[St.set,Ax] at b;by_cases e:d=n
  ·subst e;simp only[if_true] at b;split at b;·obtain rfl:=AF b;obtain⟨f,rfl⟩:=AX.1 c;simpa [B4,f] using l
   ·simp at b
  ·simp only[e,if_false] at b;exact h.rel n _ _ b c
 ·intro n j i b c;simp only[St.set,Ax] at b;by_cases e:d=n
  ·subst e;simp only[if_true] at b;split at b;·obtain rfl:=AF b;obtain⟨f,rfl⟩:=AX.1 c;simpa [B4,f] using k
   ·simp at b
  ·simp only[e,if_false] at b;exact h.own n _ _ b c
theorem aMJ{d:Option Nat}{r n:Nat}{v:ASrc}(p:uY P (.frz d r n v) m=true)(H:step Γ (.frz d r n v) s=some (true,s'))(h:SR g s w a)(hn:cW g s w a s' next):m.wp P a w next Q:=by
 obtain⟨dst,op,ty,ac,ab,gd⟩:=m;simp only[uY,Ac,beq_iff_eq] at p;obtain⟨rfl,p⟩:=p;split at p
 ·rename_i t r' J;simp only[Ac,beq_iff_eq] at p;obtain⟨rfl,h1,h3⟩:=p;have r2:=bA h3 h.er;simp only[step] at H;split at H
  ·rename_i m hr;split at H
   ·rename_i y;simp only[Ac,beq_iff_eq] at y;obtain⟨hm,D,Z⟩:=y;obtain rfl:=AE hm;obtain rfl:_=s':=by simpa using H
    have r1:=h.er.get r;have ro:=h.er.getOwn r;rw[hr] at r1 ro;obtain⟨c1,c2,c3⟩:=ac9 r2 Z;have L:(a.eval J).cells.size=m:=by rw[<-c1];exact D
    generalize R:a.tmps.getD r undef=cx at r1 ro;cases r1 with
    |raw _ b=>
     obtain⟨M,⟨ai,e,S,ax⟩,o3⟩:=ro;simp only at M S o3;have ae:SR g (s.set r .undef) w a:=by have:=h.bare r;rw[hr] at this;exact this
     let us:=(a.eval J).cells.toList;have a6:us.length=m:=by simpa [us] using L
     obtain⟨⟨al,q1,q2⟩,q3,q4,q5,q6,q7⟩:=iV b us 0 w ai e (0,0) S;let w':=w.setCells b 0 us;have Y:(execOp a.eval ⟨dst,.store t (.tmp r) J,ty,ac,ab,gd⟩).run P w=.ok .skip (w.setCells b 0 us):=by
      have:=run_storeCells_cells (P:=P) b 0 us 0 w
       (λj k=>by rw[bk S,Am (by omega)];rfl)
       (λj k=>by simp[B2,S])
       (λu hu=>by
        obtain⟨j,k,rfl⟩:=AU.1 hu;have z:j<(v.ev s).cells.length:=by rw[c1];simpa [us] using k
        exact(c3 j _ _ (Ah z) (by simp[us])).oneCell (c2 _ (BU z)))
      have he:a.eval (.tmp r)=.pointer (some ⟨b,0,none⟩):=R;simp[execOp,he,Dn,BF,storeVar,gv h1,L];have F:Sem.run P (storeCells {block:=b,off:=0} (a.eval J).cells.toList) w=Result.ok () (w.setCells b 0 (a.eval J).cells.toList):=by simpa [us] using this
      rw[F];rfl
     have W:∀f j,g.I f j->f≠b:=by rintro f j G rfl;exact o3 j G
     let g':Gh:={I:=λf j=>g.I f j∨(f=b∧j<m),ρ:=g.ρ,O:=λf=>if f=b then none else g.O f,β:=g.β}
     have q:∀f j,f≠b->w'.cell? ⟨f,j,none⟩=w.cell? ⟨f,j,none⟩:=by intro f j E;exact A5 _ us 0 w _ (λe=>absurd e E)
     have u:Up g.I g.ρ s.hp.length w g'.I g'.ρ s.hp.length w':=⟨λb j G=>.inl G,λf j G=>q f j (W f j G),λ_ _=>rfl,Ap _⟩
     have x:∀j,j<m->w'.cell? ⟨b,j,none⟩=us[j]?:=by intro j k;have:=BJ b us 0 w (λj' z=>by rw[bk S,Am (by omega)];rfl) j (by omega);rw[Bf] at this;rw[this,Ah]
     have N:SR g' (s.set r .undef) w' a:=by
      refine ae.keep (some (.slot r)) ?_ rfl u ?_ ?_ ?_ ?_;·intro v hv;simp only[St.set,Ax] at hv;simp at hv;obtain⟨_,rfl⟩:=hv;rfl
      ·intro az f i E;have l:f≠b:=by
        rintro rfl;rw[M] at i;exact E i
       refine⟨by simp[g',l,i],q3 f l,?_⟩;rintro j (k|⟨k,_⟩);·exact k
       ·exact absurd k l
      ·intro id cs X;have l:g.ρ id≠b:=by
        intro e;have:=h.hr.notO id cs X;rw[e,M] at this;cases this
       refine⟨q3 _ l,by simp[g',l,h.hr.notO id cs X],?_⟩;rintro j (k|⟨k,_⟩);·exact k
       ·exact absurd k l
      ·rintro f j (k|⟨rfl,k⟩);·rw[q f j (W f j k)];exact h.hr.exI f j k
       ·rw[x j k,Ah (by omega)];rfl
      ·intro f o i;simp only[g'] at i;split at i;·cases i
       ·have:=h.hr.oLt f o i;rw[q4];exact this
     have aj:VRel g'.I g'.ρ s.hp.length w' (.ea ((v.ev s).cells.map disown)) (.pointer (some ⟨b,0,none⟩)):=by
      refine .ea _ _ _ (λj=>us[j]?.getD undef) ?_ ?_ ?_ ?_;·intro c p;obtain⟨c',A,rfl⟩:=AH.1 p;rw[nV];exact c2 c' A
      ·intro j k;exact .inr ⟨rfl,by simp[D] at k;omega⟩
      ·intro j k;have z:j<m:=by simp[D] at k;omega
       rw[Bf,x j z,Ah (by omega)];rfl
      ·intro j c p;rw[AA,As] at p;obtain⟨c',A,rfl⟩:=p;have k:j<us.length:=by have:=(Ag.1 A).1;omega
       rw[Ah k];exact((c3 j c' us[j] A (by simp[us])).up u).disown
     have B:SR g' (s.set r (.ea ((v.ev s).cells.map disown))) w' a:=by
      refine⟨N.hr,?_⟩;have:=N.er.put' r (v:=.ea ((v.ev s).cells.map disown)) (by rw[R];exact aj) (by simp[aP]);have e2:((s.set r .undef).set r (.ea ((v.ev s).cells.map disown))).env=(s.set r (.ea ((v.ev s).cells.map disown))).env:=by simp[St.set]
      rw[e2] at this;exact this
     have fr:FR g s.hp w g' s.hp w':=by
      refine⟨rfl,q5,q6,q7,by rw[q4];exact Ap _,?_,u,?_,?_,λ_ cs h=>.inl ⟨cs,h⟩⟩;·intro f i _ C;refine q3 f ?_;rintro rfl;rw[M] at C;cases C
      ·rintro f j i _ C (G|⟨rfl,_⟩);·exact G
       ·rw[M] at C;cases C
      ·intro f i _ C;simp[g',C]
     unfold C4 C1;rw[Y];cases dst with
     |none=>exact hn _ _ g' B fr rfl
     |some d=>exact hn _ _ g' (B.set d (.undef _) (by simp[aP])) fr rfl
   ·simp at H
  ·simp at H
 ·simp at p
theorem SR.pub(h:SR g s w a)(cs:List V){b:Nat}{A:Array Value}{e:TypeId}(J:w.heap[b]? =some (.cells A e (0,0)))(Y:g.O b=none)(hI:∀j,¬g.I b j)
  (C:∀(id:Nat) cs,s.hp[id]? =some (some cs)->g.ρ id≠b) (Z:cs.length=A.size) (H:∀c∈cs,c.one=true∧noBn c=true∧c.bare=true)
  (hv:∀(i:Nat) c cv,cs[i]? =some c->A[i]? =some cv->VRel g.I g.ρ s.hp.length w c cv):
  SR {g with ρ:=λid=>if id=s.hp.length then b else g.ρ id} {s with hp:=s.hp++[some cs]} w a:=by
 let g':Gh:={g with ρ:=λid=>if id=s.hp.length then b else g.ρ id}
 have u:Up g.I g.ρ s.hp.length w g'.I g'.ρ (s.hp++[some cs]).length w:=
  ⟨λb j p=>p,λb j p=>rfl,λid d=>by simp[g',Be d],by simp⟩
 have q:∀y v cv,aP g w y v cv->aP g' w y v cv:=by intro y v cv ho;exact dg ho rfl (λb j p=>⟨p,rfl⟩) λb J=>⟨J,rfl,λj L=>L⟩
 have split:∀(id:Nat) o,(s.hp++[some cs])[id]? =some (some o)->(id<s.hp.length∧s.hp[id]? =some (some o))∨(id=s.hp.length∧o=cs):=by
  intro id o d;rcases AG id s.hp.length with p|p;·rw[Au p] at d;exact .inl ⟨p,d⟩
  ·rw[At p] at d;have G:id-s.hp.length=0:=by
    rcases DT (id-s.hp.length) with G|G;·exact G
    ·rw[A1 (by simp;omega)] at d;simp at d
   rw[G] at d;simp at d;exact .inr ⟨by omega,d.symm⟩
 have k:g'.ρ s.hp.length=b:=by simp[g']
 have f:∀id,id<s.hp.length->g'.ρ id=g.ρ id:=λid d=>by simp[g',Be d]
 refine⟨⟨?_,?_,?_,?_,h.hr.exI,h.hr.oLt⟩,⟨h.er.size,?_,?_⟩⟩
 ·intro id o d;rcases split id o d with⟨p,d⟩|⟨rfl,rfl⟩
  ·refine(h.hr.obj id o d).keep ?_ λN e' fz R r=>⟨r.len,r.plain,r.typedUp rfl u.rho u.num rfl,r.cold,r.one,λj c cv t l=>(r.rel j c cv t l).up u,λj c cv t l=>q _ _ _ (r.own j c cv t l),by rw[f id p];exact r.bn⟩
   rw[f id p]
  ·refine ig.ofRow0 (e:=e) ?_ ⟨Z,λc t=>(H c t).1,λj c cv t l=>(hv j c cv t l).up u,λj c cv t l=>jI (H c (Ar t)).2.2 _ _ _ _,λj E n L=>?_⟩;·show w.heap[g'.ρ s.hp.length]? =_;rw[k];exact J
   ·have:=(H _ (Ar L)).2.1;simp[noBn] at this
 ·intro id z o o' R r D;rcases split id o R with⟨p,M⟩|⟨W, -⟩<;>rcases split z o' r with⟨F,X⟩|⟨S, -⟩
  ·rw[f _ p,f _ F];exact h.hr.apart id z o o' M X D
  ·rw[f _ p,S,k];exact C id o M
  ·rw[f _ F,W,k];exact(C z o' X).symm
  ·exact absurd (W.trans S.symm) D
 ·intro id o d j p;rcases split id o d with⟨B,d⟩|⟨rfl,rfl⟩
  ·rw[f _ B] at p;exact h.hr.notI id o d j p
  ·rw[k] at p;exact hI j p
 ·intro id o d;rcases split id o d with⟨B,d⟩|⟨rfl,rfl⟩
  ·rw[f _ B];exact h.hr.notO id o d
  ·rw[k];exact Y
 ·intro n v cv x l;exact(h.er.rel n v cv x l).up u
 ·intro n v cv x l;exact q _ _ _ (h.er.own n v cv x l)
theorem aMK{d:Option Nat}{r n:Nat}{v:ASrc}(x:uY P (.pub d r n v) m=true)(L:step Γ (.pub d r n v) s=some (true,s'))(h:SR g s w a)(hn:cW g s w a s' next):m.wp P a w next Q:=by
 obtain⟨dst,op,ty,ah,ag,gd⟩:=m;simp only[uY,Ac,beq_iff_eq] at x;obtain⟨rfl,x⟩:=x;split at x
 ·rename_i t r' M;simp only[Ac,beq_iff_eq] at x;obtain⟨rfl,h1,h3⟩:=x;have r2:=bA h3 h.er;simp only[step] at L;split at L
  ·rename_i m hr;split at L
   ·rename_i z;simp only[Ac,beq_iff_eq,Aw] at z;obtain⟨hm,X,C⟩:=z;obtain rfl:=AE hm;obtain rfl:_=s':=by simpa using L
    have r1:=h.er.get r;have ro:=h.er.getOwn r;rw[hr] at r1 ro;obtain⟨c1,c2,c3⟩:=ac9 r2 (Aw.2 λc x=>(C c x).1);have N:(a.eval M).cells.size=m:=by rw[<-c1];exact X
    generalize W:a.tmps.getD r undef=cx at r1 ro;cases r1 with
    |raw _ b=>
     obtain⟨S,⟨ao,e,Y,ae⟩,o3⟩:=ro;simp only at S Y o3;have ak:SR g (s.set r .undef) w a:=by have:=h.bare r;rw[hr] at this;exact this
     let us:=(a.eval M).cells.toList;have bb:us.length=m:=by simpa [us] using N
     obtain⟨⟨aq,q1,q2⟩,q3,q4,q5,q6,q7⟩:=iV b us 0 w ao e (0,0) Y;let w':=w.setCells b 0 us;have R:(execOp a.eval ⟨dst,.store t (.tmp r) M,ty,ah,ag,gd⟩).run P w=.ok .skip (w.setCells b 0 us):=by
      have:=run_storeCells_cells (P:=P) b 0 us 0 w
       (λj y=>by rw[bk Y,Am (by omega)];rfl)
       (λj y=>by simp[B2,Y])
       (λu hu=>by
        obtain⟨j,y,rfl⟩:=AU.1 hu;have H:j<(v.ev s).cells.length:=by rw[c1];simpa [us] using y
        exact(c3 j _ _ (Ah H) (by simp[us])).oneCell (c2 _ (BU H)))
      have he:a.eval (.tmp r)=.pointer (some ⟨b,0,none⟩):=W;simp[execOp,he,Dn,BF,storeVar,gv h1,N];have J:Sem.run P (storeCells {block:=b,off:=0} (a.eval M).cells.toList) w=Result.ok () (w.setCells b 0 (a.eval M).cells.toList):=by simpa [us] using this
      rw[J];rfl
     have G:∀i j,g.I i j->i≠b:=by rintro i j q rfl;exact o3 j q
     let g':Gh:={I:=g.I,ρ:=g.ρ,O:=λi=>if i=b then none else g.O i,β:=g.β}
     have p:∀i j,i≠b->w'.cell? ⟨i,j,none⟩=w.cell? ⟨i,j,none⟩:=by intro i j F;exact A5 _ us 0 w _ (λe=>absurd e F)
     have u:Up g.I g.ρ s.hp.length w g'.I g'.ρ s.hp.length w':=⟨λb j q=>q,λi j q=>p i j (G i j q),λ_ _=>rfl,Ap _⟩
     have E:∀j,j<m->w'.cell? ⟨b,j,none⟩=us[j]?:=by intro j y;have:=BJ b us 0 w (λj' H=>by rw[bk Y,Am (by omega)];rfl) j (by omega);rw[Bf] at this;rw[this,Ah]
     have aa:∀(id:Nat) cs,s.hp[id]? =some (some cs)->g.ρ id≠b:=by intro id cs l e;have:=h.hr.notO id cs l;rw[e,S] at this;cases this
     have af:SR g' (s.set r .undef) w' a:=by
      refine ak.keep (some (.slot r)) ?_ rfl u ?_ ?_ ?_ ?_;·intro v hv;simp only[St.set,Ax] at hv;simp at hv;obtain⟨_,rfl⟩:=hv;rfl
      ·intro a4 i k F;have B:i≠b:=by
        rintro rfl;rw[S] at k;exact F k
       exact⟨by simp[g',B,k],q3 i B,λj y=>y⟩
      ·intro id cs l;have B:=aa id cs l;exact⟨q3 _ B,by simp[g',B,h.hr.notO id cs l],λj y=>y⟩
      ·rintro i j y;rw[p i j (G i j y)];exact h.hr.exI i j y
      ·intro i o k;simp only[g'] at k;split at k;·cases k
       ·have:=h.hr.oLt i o k;rw[q4];exact this
     let cs:=(v.ev s).cells.map disown;have Z:=af.pub cs q1 (by simp[g']) o3 aa (by simp[cs,q2,ae];exact X) (by
      intro c x;obtain⟨c',A,rfl⟩:=AH.1 x;refine⟨by rw[nV];exact(C c' A).1,?_,dZ _⟩;have:=(C c' A).2;cases c'<;>first|rfl|exact this|(rename_i o _;cases o<;>rfl)) (by
      intro j c cv x ap;rw[AA,As] at x;obtain⟨c',A,rfl⟩:=x;have y:j<us.length:=by have:=(Ag.1 A).1;omega
      have e3:us[j]? =some cv:=by rw[<-E j (by omega),bk q1,ap]
      rw[Ah y] at e3;cases e3;exact((c3 j c' us[j] A (by simp[us])).up u).disown)
     let f:Gh:={g' with ρ:=λid=>if id=s.hp.length then b else g'.ρ id}
     have D:SR f {s.set r (.ptr s.hp.length 0) with hp:=s.hp++[some cs]} w' a:=by
      refine⟨Z.hr,?_⟩;have:=ER.put' (s:={s.set r .undef with hp:=s.hp++[some cs]}) Z.er r (v:=.ptr s.hp.length 0) (by
       rw[W];have:VRel f.I f.ρ (s.hp++[some cs]).length w' (.ptr s.hp.length 0) (.pointer (some ⟨f.ρ s.hp.length,0,none⟩)):=.ptr _ _ (by simp);have e3:f.ρ s.hp.length=b:=by simp[f]
       rw[e3] at this;exact this) (by simp[aP])
      have e2:(({s.set r .undef with hp:=s.hp++[some cs]}:St).set r (.ptr s.hp.length 0)).env=(s.set r (.ptr s.hp.length 0)).env:=by simp[St.set]
      rw[e2] at this;exact this
     have fr:FR g s.hp w f (s.hp++[some cs]) w':=by
      refine⟨rfl,q5,q6,q7,by rw[q4];exact Ap _,?_,⟨λb j q=>q,λi j q=>p i j (G i j q),λid l=>by simp[f,g',Be l],by simp⟩,λi j _ _ _ q=>q,?_,?_⟩;·intro i k _ hO;refine q3 i ?_;rintro rfl;rw[S] at hO;cases hO
      ·intro i k _ hO;simp[f,g',hO]
      ·intro id c l;rcases AG id s.hp.length with q|q;·rw[Au q] at l;exact .inl ⟨c,l⟩
       ·have:id<(s.hp++[some cs]).length:=(Ag.1 l).1;obtain rfl:id=s.hp.length:=by simp at this;omega
        refine .inr ⟨Ap _,.inr (.inl ?_)⟩;simp[f,S]
     unfold C4 C1;rw[R];cases dst with
     |none=>exact hn _ _ f D fr rfl
     |some d=>exact hn _ _ f (D.set d (.undef _) (by simp[aP])) fr rfl
   ·simp at L
  ·simp at L
 ·simp at x
theorem aB2(h:ER g s.hp.length w s.env a.tmps):∀(xs:List ASrc)(ys:List Operand),ab2 xs ys=true->xs.length=ys.length∧
  ∀(i:Nat) v cv,(xs.map λx=>disown (x.ev s))[i]? =some v->(ys.map a.eval)[i]? =some cv->VRel g.I g.ρ s.hp.length w v cv
 | [],[],_=>⟨rfl,by simp⟩
 |x::xs,y::ys,hp=>by
  simp only[ab2,Ac] at hp;obtain⟨d,e⟩:=aB2 h xs ys hp.2;refine⟨by simp[d],?_⟩;intro i v cv c b;cases i with
  |zero=>simp at c b;subst c b;exact(bA hp.1 h).disown
  |succ i=>exact e i v cv (by simpa using c) (by simpa using b)
 | [],_::_,hp=>by simp[ab2] at hp
 |_::_,[],hp=>by simp[ab2] at hp
theorem aML{d f:Nat}{xs:List ASrc}(b:uY P (.mkf d f xs) m=true)(r:step Γ (.mkf d f xs) s=some (true,s'))(h:SR g s w a)(y:cW g s w a s' next):m.wp P a w next Q:=by
 obtain⟨dst,A,x,k,j,p⟩:=m;simp only[uY,Ac,beq_iff_eq] at b;obtain⟨rfl,b⟩:=b;split at b
 ·rename_i z first ys
  simp only[Ac,beq_iff_eq] at b;obtain⟨rfl,q,t⟩:=b;obtain rfl:first= #[]:=by simpa using q
  obtain rfl:_=s':=by simpa [step] using r
  obtain⟨u,v⟩:=aB2 h.er xs ys.toList t;have e:(execOp a.eval ⟨some d,.makeFunc (.func f) #[] ys,x,k,j,p⟩).run P w=.ok (.value (.func (.func f) #[] (ys.map a.eval))) w:=by simp[execOp,Instr.makeFunc]
  refine bu h rfl e (.fn _ _ _ (by simp[u]) (λi c cv b l=>v i c cv b (by simpa using l))) rfl y
 ·simp at b
end
end Go.AM
end
