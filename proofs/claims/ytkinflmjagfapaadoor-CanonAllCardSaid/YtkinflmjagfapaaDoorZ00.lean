import GoSem.Core.Code
import GoSem.Op.String
import GoSem.Core.Utf8
import Derived.WalkKit
import Derived.Deep.AppendSrc
import Derived.Lib.ItoaNum
import Derived.Laws.Cover4
import Derived.Laws.IdiomStrings
import Derived.Lib.ConvBytes
import Derived.Laws.Tables
import Derived.Laws.StructEq
import Derived.Laws.MakeOwn
noncomputable section
namespace Go.AM
set_option autoImplicit false
structure alm where
 num:Int
 wire:Int
 n:Int
 s:List UInt8
 raw:List UInt8
 deriving DecidableEq
inductive ak where
 |mk (kind n:Int) (s:List UInt8) (l:List ak) (names:List (List UInt8))
def ak.kind:ak→Int| .mk a _ _ _ _=>a
def ak.n:ak→Int| .mk _ a _ _ _=>a
def ak.s:ak→List UInt8| .mk _ _ a _ _=>a
def ak.l:ak→List ak| .mk _ _ _ a _=>a
def ak.names:ak→List (List UInt8)| .mk _ _ _ _ a=>a
structure bo where
 name:List UInt8
 aliases:List (List UInt8)
 typ:Int
 hasdef:Bool
 df:ak
structure am where
 kind:Int
 name:List UInt8
 aliases:List (List UInt8)
 items:Int
 syms:List (List UInt8)
 hasdef:Bool
 df:List UInt8
 size:Int
 fields:List bo
 branches:List Int
inductive pm where
 |mk (n:Int) (s:List UInt8) (l:List pm) (keys:List (List UInt8)) (branch:Int)
def pm.n:pm→Int| .mk a _ _ _ _=>a
def pm.s:pm→List UInt8| .mk _ a _ _ _=>a
def pm.l:pm→List pm| .mk _ _ a _ _=>a
def pm.keys:pm→List (List UInt8)| .mk _ _ _ a _=>a
def pm.branch:pm→Int| .mk _ _ _ _ a=>a
inductive EK where
 |u8|num (k:IntKind)|str|bool|record|ints|jnode|afield|atype|aval
 deriving DecidableEq
abbrev Ty:EK→Type
 | .u8=>UInt8
 | .num _=>Int
 | .str=>List UInt8
 | .bool=>Bool
 | .record=>alm
 | .ints=>List Int
 | .jnode=>ak
 | .afield=>bo
 | .atype=>am
 | .aval=>pm
inductive Fl where
 |own
 |may (b:Bool)
 deriving DecidableEq
def Fl.dis:Fl→Fl
 | .own=>.may false
 | .may b=>.may b
def Fl.app:Fl→Nat→Bool
 | .own,_=>true
 | .may b,n=>b&&decide (0<n)
inductive MK where
 |pb|bs|bn|ib|sn
 deriving DecidableEq
abbrev MK.K:MK→Type
 | .pb=>Int×Int
 | .bs| .bn| .ib=>Int
 | .sn=>List UInt8
abbrev MK.T:MK→Type
 | .pb| .ib=>Bool
 | .bs=>List UInt8
 | .bn| .sn=>Int
inductive V where
 |undef
 |bool (b:Bool)
 |int (k:IntKind) (n:Int)
 |str (s:List UInt8)
 |sl (k:EK) (o:Fl) (xs:List (Ty k))
 |agg (cs:List V)
 |tup (vs:List V)
 |ea (cs:List V)
 |ptr (id off:Nat)
 |nilp
 |fn (f:Nat) (cap:List V)
 |nilif
 |bn (E n:Nat)
 |junk
 |rb (xs:List UInt8)
 |so (id n:Nat)
 |raw (n:Nat)
 |ul (k:EK) (xs:List (Ty k))
 |hd (n:Nat)
 |rw(k:EK) (xs:List (Ty k))
 |sw (k:EK) (id n:Nat)
 |sx (k:EK) (id off n:Nat)
 |wp (id:Nat) (k:EK) (i o:Nat)
 |mp (k:MK) (es:List (k.K×k.T))
 |mr (id:Nat)
 |nilm
instance:Inhabited V:=⟨.undef⟩
def EK.sz:EK→Nat
 | .record=>5
 | .jnode=>5
 | .afield=>9
 | .atype=>10
 | .aval=>5
 |_=>1
def abS:IntKind→Nat
 | .i8| .u8=>1
 | .i16| .u16=>2
 | .i32| .u32=>4
 | .i64| .u64=>8
def EK.bytes:EK→Nat
 | .u8=>1
 | .num k=>abS k
 | .str=>16
 | .bool=>1
 | .record=>56
 | .ints=>24
 | .jnode=>80
 | .afield=>136
 | .atype=>160
 | .aval=>80
def EK.isAgg:EK→Bool
 | .record| .jnode| .afield| .atype| .aval=>true
 |_=>false
def enc:(k:EK)→Ty k→List V
 | .u8,x=>[.int .u8 x.toNat]
 | .num k,x=>[.int k x]
 | .str,x=>[.str x]
 | .bool,x=>[.bool x]
 | .record,x=>[.int .i64 x.num,.int .i64 x.wire,.int .u64 x.n,.str x.s,.str x.raw]
 | .ints,x=>[.sl (.num .i64) (.may false) x]
 | .jnode,x=>[.int .i64 x.kind,.int .i64 x.n,.str x.s,.sl .jnode (.may false) x.l,.sl .str (.may false) x.names]
 | .afield,x=>[.str x.name,.sl .str (.may false) x.aliases,.int .i64 x.typ,.bool x.hasdef,.int .i64 x.df.kind,.int .i64 x.df.n,.str x.df.s,.sl .jnode (.may false) x.df.l,.sl .str (.may false) x.df.names]
 | .atype,x=>[.int .i64 x.kind,.str x.name,.sl .str (.may false) x.aliases,.int .i64 x.items,.sl .str (.may false) x.syms,.bool x.hasdef,.str x.df,.int .i64 x.size,.sl .afield (.may false) x.fields,.sl (.num .i64) (.may false) x.branches]
 | .aval,x=>[.int .u64 x.n,.str x.s,.sl .aval (.may false) x.l,.sl .str (.may false) x.keys,.int .i64 x.branch]
def dec:(k:EK)→List V→Option (Ty k)
 | .u8,[.int .u8 n]=>some (UInt8.ofNat n.toNat)
 | .num .i8,[.int .i8 n]=>some n
 | .num .i16,[.int .i16 n]=>some n
 | .num .i32,[.int .i32 n]=>some n
 | .num .i64,[.int .i64 n]=>some n
 | .num .u8,[.int .u8 n]=>some n
 | .num .u16,[.int .u16 n]=>some n
 | .num .u32,[.int .u32 n]=>some n
 | .num .u64,[.int .u64 n]=>some n
 | .str,[.str s]=>some s
 | .bool,[.bool b]=>some b
 | .record,[.int .i64 a,.int .i64 b,.int .u64 c,.str s,.str r]=>some ⟨a,b,c,s,r⟩
 | .ints,[.sl (.num .i64) _ x]=>some x
 | .jnode,[.int .i64 a,.int .i64 b,.str c,.sl .jnode _ d,.sl .str _ e]=>some (.mk a b c d e)
 | .afield,[.str a,.sl .str _ b,.int .i64 c,.bool d,.int .i64 e,.int .i64 f,.str g,.sl .jnode _ h,.sl .str _ i]=>some ⟨a,b,c,d,.mk e f g h i⟩
 | .atype,[.int .i64 a,.str b,.sl .str _ c,.int .i64 d,.sl .str _ e,.bool f,.str g,.int .i64 h,.sl .afield _ i,.sl (.num .i64) _ j]=>some ⟨a,b,c,d,e,f,g,h,i,j⟩
 | .aval,[.int .u64 a,.str b,.sl .aval _ c,.sl .str _ d,.int .i64 e]=>some (.mk a b c d e)
 |_,_=>none
def av:(k:EK)→Ty k
 | .u8=>0
 | .num _=>0
 | .str=>[]
 | .bool=>false
 | .record=>⟨0,0,0,[],[]⟩
 | .ints=>[]
 | .jnode=>.mk 0 0 [] [] []
 | .afield=>⟨[],[],0,false,.mk 0 0 [] [] []⟩
 | .atype=>⟨0,[],[],0,[],false,[],0,[],[]⟩
 | .aval=>.mk 0 [] [] [] 0
def MK.key:(k:MK)→k.K→V
 | .pb,x=>.agg [.int .i64 x.1,.int .i64 x.2]
 | .bs,x=>.int .u8 x
 | .bn,x=>.int .u8 x
 | .ib,x=>.int .i64 x
 | .sn,x=>.str x
def MK.val:(k:MK)→k.T→V
 | .pb,x=>.bool x
 | .bs,x=>.str x
 | .bn,x=>.int .i64 x
 | .ib,x=>.bool x
 | .sn,x=>.int .i64 x
def MK.zero:(k:MK)→k.T
 | .pb| .ib=>false
 | .bs=>[]
 | .bn| .sn=>(0:Int)
def ain:V→Option (Int×Int)| .agg [.int .i64 a,.int .i64 b]=>some (a,b)|_=>none
def u8V:V→Option Int| .int .u8 a=>some a|_=>none
def afX:V→Option Int| .int .i64 a=>some a|_=>none
def aio:V→Option (List UInt8)| .str s=>some s|_=>none
def afS:V→Option Bool| .bool b=>some b|_=>none
def MK.dkey:(k:MK)→V→Option k.K
 | .pb=>ain
 | .bs=>u8V
 | .bn=>u8V
 | .ib=>afX
 | .sn=>aio
def MK.dval:(k:MK)→V→Option k.T
 | .pb=>afS
 | .bs=>aio
 | .bn=>afX
 | .ib=>afS
 | .sn=>afX
instance MK.decK:(k:MK)→DecidableEq k.K
 | .pb=>inferInstanceAs (DecidableEq (Int×Int))
 | .bs| .bn| .ib=>inferInstanceAs (DecidableEq Int)
 | .sn=>inferInstanceAs (DecidableEq (List UInt8))
def dL{k:MK}(es:List (k.K×k.T))(x:k.K):Option k.T:=match es with
 | []=>none
 |e::r=>if e.1=x then some e.2 else dL r x
def eV{k:MK}(es:List (k.K×k.T))(x:k.K)(v:k.T):List (k.K×k.T):=match es with
 | []=>[(x,v)]
 |e::r=>if e.1=x then (x,v)::r else e::eV r x v
def kF{k:MK}(es:List (k.K×k.T))(x:k.K):Nat:=match es with
 | []=>0
 |e::r=>if e.1=x then 0 else kF r x+1
def zm{k:MK}(es:List (k.K×k.T))(x:k.K):k.T:=(dL es x).getD k.zero
def zn(k:MK)(ok:Bool)(r:Option k.T):V:=cond ok (.tup [k.val (r.getD k.zero),.bool r.isSome]) (k.val (r.getD k.zero))
def V.cells:V→List V
 | .agg cs=>cs
 |v=>[v]
def V.one:V→Bool
 | .undef| .agg _| .tup _| .rb _| .raw _| .rw _ _| .mp _ _=>false
 |_=>true
def disown:V→V
 | .raw _=>.undef
 | .sl k o xs=>.sl k o.dis xs
 | .bn _ _=>.junk
 | .ul _ xs=>.hd xs.length
 |v=>v
def V.laid:V→V
 | .ul k xs=>.sl k .own xs
 |v=>v
def V.weak:V→V
 | .sl k _ xs=>.sl k (.may false) xs
 |v=>disown v
def noBn:V→Bool
 | .bn _ _=>false
 |_=>true
inductive ASrc where
 |t (n:Nat)
 |tk (n:Nat)
 |c (v:V)
abbrev aq:=Option (List V)
structure St where
 env:List V
 hp:List aq
def St.get(s:St)(n:Nat):V:=s.env.getD n .undef
def St.set(s:St)(n:Nat)(v:V):St:={s with env:=s.env.set n v}
def ASrc.ev(s:St):ASrc→V
 | .t n=>disown (s.get n)
 | .tk n=>s.get n
 | .c v=>v
def ASrc.after(s:St):ASrc→St
 | .tk n=>s.set n (disown (s.get n))
 |_=>s
def ASrc.fix(s:St)(t:Bool):ASrc→St
 | .t n=>s.set n (.bool t)
 |_=>s
theorem ASrc.fix_eq{s:St}{t:Bool}:∀{c:ASrc},c.ev s=.bool t→c.fix s t=s
 | .t n,h=>by
   have h2:s.env.getD n .undef=.bool t:=by
    have h:disown (s.env.getD n .undef)=.bool t:=h
    revert h
    generalize s.env.getD n .undef=v
    cases v<;>simp[disown]
   obtain⟨env,hp⟩:=s
   show St.mk (env.set n (.bool t)) hp=St.mk env hp
   have h3:env.set n (.bool t)=env:=by
    apply List.ext_getElem?
    intro i
    rw[List.getElem?_set]
    split
    ·rename_i e
     subst e
     split
     ·rename_i hl
      simp only[List.getD_eq_getElem?_getD,List.getElem?_eq_getElem hl,Option.getD_some] at h2
      rw[List.getElem?_eq_getElem hl,h2]
     ·rename_i hl
      rw[List.getElem?_eq_none (by omega)]
    ·rfl
   rw[h3]
 | .tk n,_=>rfl
 | .c v,_=>rfl
inductive IOp where
 |mov (d:Nat) (x:ASrc)
 |pick (d:Nat) (c a b:ASrc)
 |bin (d:Nat) (o:BinOp) (x y:ASrc)
 |un (d:Nat) (o:UnOp) (x:ASrc)
 |cvi (d:Nat) (k:IntKind) (x:ASrc)
 |b2s (d:Nat) (x:ASrc)
 |lens (d:Nat) (x:ASrc)
 |lenl (d:Nat) (x:ASrc)
 |idx (d:Nat) (x i:ASrc)
 |ixa (d:Nat) (k:EK) (x i:ASrc)
 |subs (d:Nat) (x:ASrc) (lo hi:Option ASrc)
 |subl (d:Nat) (k:EK) (x:ASrc) (lo hi:Option ASrc)
 |bsl (d:Nat) (k:EK) (tU:List ASrc) (u:Bool)
 |bld (d:Nat) (zero:List V) (tU:List (Nat×Nat×ASrc))
 |new (d:Nat) (zero:List V)
 |box (d:Nat) (x:ASrc)
 |newb (d:Nat) (zero:List V)
 |fad (d:Nat) (off:Nat) (x:ASrc)
 |ld (d:Nat) (n:Nat) (agg take:Bool) (x:ASrc)
 |st (d:Option Nat) (n:Nat) (x v:ASrc)
 |app (d:Nat) (k:EK) (x y:ASrc)
 |apps (d:Nat) (x y:ASrc)
 |ext (d:Nat) (i:Nat) (x:ASrc)
 |nck (d:Option Nat) (x:ASrc)
 |call (d:Option Nat) (f:Nat) (args:List ASrc)
 |callz (d:Nat) (f:Nat) (args:List ASrc)
 |mx (d:Nat) (mn:Bool) (x y:ASrc)
 |boxe (d:Nat) (x:ASrc)
 |alr (d n:Nat)
 |frz (d:Option Nat) (r n:Nat) (v:ASrc)
 |lde (d:Nat) (n:Nat) (agg:Bool) (x:ASrc)
 |apu (d:Nat) (k:EK) (x y:ASrc)
 |slw (d:Nat) (k:EK) (x:ASrc) (lo hi:Option ASrc)
 |apx (d:Nat) (k:EK) (x y:ASrc)
 |blu (d:Nat) (k:EK)
 |lnw (d:Nat) (x:ASrc)
 |ixw (d:Nat) (k:EK) (x i:ASrc)
 |fdw (d off:Nat) (x:ASrc)
 |ldw (d n:Nat) (agg:Bool) (x:ASrc)
 |stw (d:Option Nat) (n:Nat) (x v:ASrc)
 |mkm (d:Nat) (k:MK)
 |mget (d:Nat) (k:MK) (ok:Bool) (x y:ASrc)
 |mput (d:Option Nat) (k:MK) (x y z:ASrc)
structure GOp where
 g:Option (Nat×Bool)
 o:IOp
 ob:Option (List Nat×List Nat)
def cl(o:BinOp)(k:IntKind)(a b:Int):Int:=
 match o with
 | .and=>k.wrap (BitVec.ofInt k.bits a&&& BitVec.ofInt k.bits b).toNat
 | .or=>k.wrap (BitVec.ofInt k.bits a|||BitVec.ofInt k.bits b).toNat
 | .xor=>k.wrap (BitVec.ofInt k.bits a ^^^BitVec.ofInt k.bits b).toNat
 |_=>k.wrap (BitVec.ofInt k.bits a&&& ~~~BitVec.ofInt k.bits b).toNat
def adq(k:IntKind)(a b:Int):Int:=k.wrap (a*2^(min b.toNat k.bits))
def pn(k:IntKind)(a b:Int):Int:=a.fdiv (2^(min b.toNat k.bits))
def cb:Nat:=9223372036854775807
def mN:Nat:=140737488355328
def afY(o:BinOp)(k:IntKind)(a b:Int):Option (Bool×V):=
 match o with
 | .add=>some (true,.int k (k.wrap (a+b)))
 | .sub=>some (true,.int k (k.wrap (a-b)))
 | .mul=>some (true,.int k (k.wrap (a*b)))
 | .quo=>some (!(b==0),.int k (k.wrap (a.tdiv b)))
 | .rem=>some (!(b==0),.int k (a.tmod b))
 | .and=>some (true,.int k (cl .and k a b))
 | .or=>some (true,.int k (cl .or k a b))
 | .xor=>some (true,.int k (cl .xor k a b))
 | .andNot=>some (true,.int k (cl .andNot k a b))
 | .eql=>some (true,.bool (a==b))
 | .neq=>some (true,.bool (!(a==b)))
 | .lss=>some (true,.bool (decide (a<b)))
 | .leq=>some (true,.bool (decide (a≤b)))
 | .gtr=>some (true,.bool (decide (b<a)))
 | .geq=>some (true,.bool (decide (b≤a)))
 |_=>none
def afZ(o:BinOp)(a b:List UInt8):Option (Bool×V):=
 match o with
 | .add=>some (decide (a.length+b.length≤cb),.str (a++b))
 | .eql=>some (true,.bool (decide (a=b)))
 | .neq=>some (true,.bool (!decide (a=b)))
 | .lss=>some (true,.bool (Op.bytesLess a b))
 | .leq=>some (true,.bool (Op.bytesLess a b||decide (a=b)))
 | .gtr=>some (true,.bool (!(Op.bytesLess a b||decide (a=b))))
 | .geq=>some (true,.bool (!Op.bytesLess a b))
 |_=>none
def ajS(o:BinOp)(x y:V):Option (Bool×V):=
 match x,y with
 | .int k a,.int k' b=>
   match o with
   | .shl=>some (decide (0≤b),.int k (adq k a b))
   | .shr=>some (decide (0≤b),.int k (pn k a b))
   |o=>if k=k' then afY o k a b else none
 | .str a,.str b=>afZ o a b
 |_,_=>none
def unV(o:UnOp)(x:V):Option V:=
 match o,x with
 | .not,.bool b=>some (.bool (!b))
 | .neg,.int k n=>some (.int k (k.wrap (0-n)))
 | .xor,.int k n=>some (.int k (cl .xor k (if k.signed then -1 else k.max) n))
 |_,_=>none
def lay(cells:List V):List (Nat×Nat×V)→Option (List V)
 | []=>some cells
 |(off,n,v)::r=>if (v.cells.length==n&&v.cells.all V.one)&&decide (off+n≤cells.length) then lay (cells.take off++v.cells.map disown++cells.drop (off+n)) r else none
def decAll(k:EK):List V→Option (List (Ty k))
 | []=>some []
 |v::r=>match dec k v.cells,decAll k r with|some x,some l=>some (x::l)|_,_=>none
def rN(len:Nat):Option V→Option V→Option (Bool×Nat×Nat)
 |none,none=>some (true,0,len)
 |some (.int _ a),none=>some (decide (0≤a)&&decide (a≤len),a.toNat,len)
 |none,some (.int _ b)=>some (decide (0≤b)&&decide (b≤len),0,b.toNat)
 |some (.int _ a),some (.int _ b)=>some (decide (0≤b)&&decide (b≤len)&&(decide (0≤a)&&decide (a≤b)),a.toNat,b.toNat)
 |_,_=>none
def cR(s:St):Option ASrc→Option V
 |none=>none
 |some x=>some (x.ev s)
def bU:List V→Bool
 | [.rb _]=>true
 | [.rw _ _]=>true
 |_=>false
def St.obj(s:St)(id:Nat):Option (List V):=match s.hp.getD id none with|some [.rb _]=>none|some [.rw _ _]=>none|some [.mp _ _]=>none|o=>o
def zo(k:EK)(x:Ty k)(o:Nat)(vs:List V):Option (Ty k):=dec k (((enc k x).take o++vs.map V.weak)++(enc k x).drop (o+vs.length))
def St.rowW(s:St)(id:Nat):Option ((k:EK)×List (Ty k)):=match s.hp.getD id none with|some [.rw k xs]=>some ⟨k,xs⟩|_=>none
def St.row(s:St)(id:Nat):Option (List UInt8):=match s.hp.getD id none with|some [.rb xs]=>some xs|_=>none
def St.mapO(s:St)(id:Nat):Option ((k:MK)×List (k.K×k.T)):=match s.hp.getD id none with|some [.mp k es]=>some ⟨k,es⟩|_=>none
def St.setObj(s:St)(id:Nat)(cs:List V):St:={s with hp:=s.hp.set id (some cs)}
def loaded(agg:Bool)(cs:List V):V:=if agg then .agg (cs.map disown) else cs.headD .undef
abbrev az:=Nat→List V→List aq→Option (Bool×V×List aq)
def St.setO(s:St)(d:Option Nat)(v:V):St:=match d with|some d=>s.set d v|none=>s
def afT(t:Bool)(a b:V):V:=
 match a,b with
 | .bool x,.bool y=>.bool (cond t x y)
 | .int k x,.int k' y=>if k=k' then .int k (cond t x y) else cond t (.int k x) (.int k' y)
 | .str x,.str y=>.str (cond t x y)
 |a,b=>cond t a b
theorem ajT(t:Bool)(a b:V):afT t a b=cond t a b:=by
 unfold afT
 split
 ·cases t<;>rfl
 ·split
  ·rename_i h;subst h;cases t<;>rfl
  ·rfl
 ·cases t<;>rfl
 ·rfl
def ajU(k:EK)(v:V)(lo hi:Option V):Option (Bool×V):=match v with
 | .sw k' id n=>if k'=k then (rN n lo hi).map fun e=>(e.1,match lo with|none=>.sw k' id e.2.2|some _=>.sx k' id e.2.1 (e.2.2-e.2.1)) else none
 |_=>none
def adr(hp:List aq)(k:EK)(x y:V):Option (Bool×V×Nat×V):=match x,y with
 | .sw k1 id n,.sx k2 id2 a b=>match St.rowW ⟨[],hp⟩ id with
   |some ⟨k',xs⟩=>if k1=k'∧(k2=k'∧(k=k'∧id2=id)) then some (decide (n≤a)&&decide (a+b≤xs.length),.sw k' id (n+b),id,.rw k' (xs.take n++(xs.drop a).take b)) else none
   |none=>none
 |_,_=>none
def step(Γ:az)(o:IOp)(s:St):Option (Bool×St):=
 match o with
 | .mov d x=>some (true,(x.after s).set d (x.ev s))
 | .pick d c a b=>match c.ev s with| .bool t=>some (true,s.set d (afT t (disown (a.ev s)) (disown (b.ev s))))|_=>none
 | .bin d o x y=>(ajS o (x.ev s) (y.ev s)).map fun(c,v)=>(c,s.set d v)
 | .un d o x=>(unV o (x.ev s)).map fun v=>(true,s.set d v)
 | .cvi d k x=>match x.ev s with| .int _ n=>some (true,s.set d (.int k (k.wrap n)))|_=>none
 | .b2s d x=>match x.ev s with| .sl .u8 _ l=>some (true,s.set d (.str l))|_=>none
 | .lens d x=>match x.ev s with| .str l=>some (true,s.set d (.int .i64 l.length))|_=>none
 | .lenl d x=>match x.ev s with| .sl _ _ l=>some (true,s.set d (.int .i64 l.length))|_=>none
 | .lnw d x=>match x.ev s with| .hd n=>some (true,s.set d (.int .i64 n))| .sw _ _ n=>some (true,s.set d (.int .i64 n))|_=>none
 | .apu d k x y=>match x.ev s,y.ev s with
   | .ul k' l,.sl k'' _ m=>if k'=k then if h:k''=k' then some (decide ((l.length+m.length)*k'.bytes≤mN),(x.after s).set d (.ul k' (l++(h▸m)))) else none else none
   |_,_=>none
 | .slw d k x lo hi=>(ajU k (x.ev s) (cR s lo) (cR s hi)).map fun p=>(p.1,s.set d p.2)
 | .apx d k x y=>(adr s.hp k (x.ev s) (y.ev s)).map fun p=>(p.1,(s.setObj p.2.2.1 [p.2.2.2]).set d p.2.1)
 | .blu d k=>some (true,s.set d (.ul k []))
 | .ixw d k x i=>match x.ev s,i.ev s with
   | .sw k' id n,.int _ i=>if k'=k then some (decide (0≤i)&&decide (i<n),s.set d (.wp id k' i.toNat 0)) else none
   |_,_=>none
 | .fdw d off x=>match x.ev s with| .wp id k i o=>some (true,s.set d (.wp id k i (o+off)))|_=>none
 | .ldw d n agg x=>match x.ev s with
   | .wp id k i o=>match s.rowW id with
     |some ⟨k',xs⟩=>if k'=k∧o+n≤k'.sz then some (decide (i<xs.length),s.set d (disown (loaded agg (((enc k' (xs.getD i (av k'))).drop o).take n)))) else none
     |none=>none
   |_=>none
 | .stw d n x v=>match x.ev s with
   | .wp id k i o=>match s.rowW id with
     |some ⟨k',xs⟩=>if k'=k∧(o+n≤k'.sz∧((v.ev s).cells.length==n&&(v.ev s).cells.all V.one)=true) then
       match zo k' (xs.getD i (av k')) o (v.ev s).cells with
       |some x'=>some (decide (i<xs.length),(s.setObj id [.rw k' (xs.set i x')]).setO d .undef)
       |none=>none
      else none
     |none=>none
   |_=>none
 | .idx d x i=>match x.ev s,i.ev s with
   | .str l,.int _ i=>some (decide (0≤i)&&decide (i<l.length),s.set d (.int .u8 (l.getD i.toNat 0).toNat))
   |_,_=>none
 | .ixa d k x i=>match x.ev s,i.ev s with
   | .sl k' _ l,.int _ i=>if k'=k then some (decide (0≤i)&&decide (i<l.length),s.set d (.ea (enc k' (l.getD i.toNat (av k'))))) else none
   |_,_=>none
 | .subs d x lo hi=>match x.ev s with
   | .str l=>(rN l.length (cR s lo) (cR s hi)).map fun(c,a,b)=>(c,s.set d (.str ((l.take b).drop a)))
   |_=>none
 | .subl d k x lo hi=>match x.ev s with
   | .sl k' _ l=>if k'=k then (rN l.length (cR s lo) (cR s hi)).map fun(c,a,b)=>(c,s.set d (.sl k' (.may false) ((l.take b).drop a))) else none
   |_=>none
 | .bsl d k ps u=>(decAll k (ps.map (·.ev s))).map fun l=>(true,s.set d (.sl k (cond u (.may true) .own) l))
 | .bld d zero ps=>(lay zero (ps.map fun(off,n,x)=>(off,n,x.ev s))).map fun cs=>(true,s.set d (.agg cs))
 | .new d zero=>some (true,{s.set d (.ptr s.hp.length 0) with hp:=s.hp++[some zero]})
 | .box d x=>match x.ev s with
   | .agg cs=>some (true,{s.set d (.ptr s.hp.length 0) with hp:=s.hp++[some cs]})
   |v=>if v.one then some (true,{s.set d (.ptr s.hp.length 0) with hp:=s.hp++[some [disown v]]}) else none
 | .newb d zero=>some (true,{s.set d (.ptr s.hp.length 0) with hp:=s.hp++[some zero]})
 | .fad d off x=>match x.ev s with
   | .ea cs=>some (true,s.set d (.ea (cs.drop off)))
   | .ptr id o=>some (true,s.set d (.ptr id (o+off)))
   |_=>none
 | .ld d n agg take x=>match x.ev s with
   | .ea cs=>if n≤cs.length then some (true,s.set d (disown (loaded agg (cs.take n)))) else none
   | .ptr id o=>match s.obj id with
     |some cs=>if o+n≤cs.length then
       (if take then (if noBn (cs.getD o .undef) then some (true,(s.setObj id (cs.set o (disown (cs.getD o .undef)))).set d (loaded agg ((cs.drop o).take n))) else none)
       else some (true,s.set d (disown (loaded agg ((cs.drop o).take n)))))
      else none
     |none=>none
   |_=>none
 | .st d n x v=>match x.ev s with
   | .ptr id o=>match s.obj id with
     |some cs=>if ((v.ev s).cells.length==n&&(v.ev s).cells.all V.one)&&(decide (o+n≤cs.length)&&(v.ev s).cells.all noBn) then
       some (true,((v.after s).setObj id (cs.take o++(v.ev s).cells++cs.drop (o+n))).setO d .undef) else none
     |none=>none
   |_=>none
 | .app d k x y=>match x.ev s,y.ev s with
   | .sl k' o l,.sl k'' _ m=>
     if k'=k then
      if h:k''=k' then some (o.app m.length&&decide ((l.length+m.length)*k'.bytes≤mN),(x.after s).set d (.sl k' .own (l++(h▸m)))) else none
     else none
   |_,_=>none
 | .apps d x y=>match x.ev s,y.ev s with
   | .sl .u8 .own l,.str m=>some (decide (l.length+m.length≤mN),(x.after s).set d (.sl .u8 .own (l++m)))
   |_,_=>none
 | .ext d i x=>match x.ev s with
   | .tup vs=>if i<vs.length then some (true,s.set d (disown (vs.getD i .undef))) else none
   |_=>none
 | .nck d x=>match x.ev s with
   | .ptr id o=>some (true,s.setO d (.ptr id o))
   | .ea cs=>some (true,s.setO d (.ea cs))
   |_=>none
 | .callz d f avs=>match Γ f (avs.map fun x=>disown (x.ev s)) s.hp with
   |some (c,v,hp)=>some (c,({s with hp:=hp}:St).set d v.laid)
   |none=>none
 | .call d f avs=>match Γ f (avs.map fun x=>disown (x.ev s)) s.hp with
   |some (c,v,hp)=>some (c,{s with hp:=hp}.setO d v)
   |none=>none
 | .alr d n=>some (true,s.set d (.raw n))
 | .frz d r n v=>match s.get r with
   | .raw m=>if Nat.beq m n&&((v.ev s).cells.length==n&&(v.ev s).cells.all V.one) then some (true,(s.set r (.ea ((v.ev s).cells.map disown))).setO d .undef) else none
   |_=>none
 | .lde d n agg x=>match x.ev s with
   | .ea cs=>if n≤cs.length then some (true,s.set d (disown (loaded agg (cs.take n)))) else none
   |_=>none
 | .boxe d x=>match x.ev s with
   | .agg cs=>some (true,s.set d (.ea (cs.map disown)))
   |v=>if v.one then some (true,s.set d (.ea [disown v])) else none
 | .mkm d k=>some (true,{s.set d (.mr s.hp.length) with hp:=s.hp++[some [.mp k []]]})
 | .mget d k ok x y=>match x.ev s with
   | .nilm=>(k.dkey (y.ev s)).map fun _=>(true,s.set d (zn k ok none))
   | .mr id=>match s.mapO id with
     |some ⟨k',es⟩=>if k'=k then (k'.dkey (y.ev s)).map fun key=>(true,s.set d (zn k' ok (dL es key))) else none
     |none=>none
   |_=>none
 | .mput d k x y z=>match x.ev s with
   | .mr id=>match s.mapO id with
     |some ⟨k',es⟩=>if k'=k then
       match k'.dkey (y.ev s),k'.dval (z.ev s) with
       |some key,some v=>some (true,(s.setObj id [.mp k' (eV es key v)]).setO d .undef)
       |_,_=>none
      else none
     |none=>none
   |_=>none
 | .mx d mn x y=>match x.ev s,y.ev s with
   | .int k a,.int k' b=>if k=k' then some (true,s.set d (.int k (if mn then (if b<a then b else a) else (if a<b then b else a)))) else none
   |_,_=>none
def IOp.dst:IOp→Option Nat
 | .mov d _| .pick d .. | .bin d .. | .un d .. | .cvi d .. | .b2s d _| .lens d _| .lenl d _| .idx d .. | .ixa d .. | .subs d .. | .subl d .. | .bsl d ..
 | .bld d .. | .new d _| .box d _| .newb d _| .fad d .. | .ld d .. | .app d .. | .apps d .. | .ext d .. | .mx d .. | .boxe d .. | .alr d _| .lde d .. | .apu d .. | .slw d .. | .apx d .. | .blu d _| .lnw d _| .ixw d .. | .fdw d .. | .ldw d .. | .mkm d _| .mget d .. | .callz d .. =>some d
 | .st d .. | .nck d _| .call d .. | .frz d .. | .stw d .. | .mput d ..=>d
def ixl{α:Type}(n:Int)(l:List α):Bool:=decide (0≤n)&&decide (n<↑(List.length l))
def chk{R:Type}(c:Bool)(x:Option R):Option R:=match c with|true=>x|false=>none
def V.cellsA:V→List V
 | .agg cs=>cs
 |v=>[v]
def V.id1:V→List Nat
 | .ptr id _=>[id]
 | .sw _ id _=>[id]
 | .sx _ id _ _=>[id]
 |_=>[]
def j0(vs:List V):List Nat:=vs.flatMap fun v=>v.cellsA.flatMap V.id1
def co:List V→List Nat
 | []=>[]
 | .ptr i 0::vs=>i::co vs
 |_::vs=>co vs
def rh(l:List Nat):List Nat:=l.flatMap fun i=>List.range (i+1)
def IOp.foot(o:IOp)(s:St):Option (List Nat×List Nat):=
 match o with
 | .ld _ _ _ take x=>match x.ev s with
   | .ptr id _=>some (cond take ([],[id]) ([id],[]))
   | .ea _=>some ([],[])
   |_=>none
 | .st _ _ x _=>match x.ev s with| .ptr id _=>some ([],[id])|_=>none
 | .call _ _ avs=>some (rh (j0 (avs.map fun x=>disown (x.ev s))),rh (co (avs.map fun x=>disown (x.ev s))))
 | .ldw _ _ _ x=>match x.ev s with| .wp id _ _ _=>some ([id],[])|_=>none
 | .stw _ _ x _=>match x.ev s with| .wp id _ _ _=>some ([],[id])|_=>none
 | .apx _ _ x _=>match x.ev s with| .sw _ id _=>some ([],[id])|_=>none
 |_=>none
def IOp.within(o:IOp)(l:List Nat×List Nat)(s:St):Bool:=match o.foot s with
 |some (r,w)=>r.all (fun i=>l.1.any (Nat.beq i)||l.2.any (Nat.beq i))&&w.all (fun i=>l.2.any (Nat.beq i))
 |none=>false
def stepO(Γ:az)(ob:Option (List Nat×List Nat))(o:IOp)(s:St):Option (Bool×St):=match ob with
 |none=>step Γ o s
 |some l=>cond (o.within l s) (step Γ o s) none
theorem jm{Γ:az}{ob:Option (List Nat×List Nat)}{o:IOp}{s:St}{p:Bool×St}(h:stepO Γ ob o s=some p):step Γ o s=some p:=by
 unfold stepO at h
 split at h
 ·exact h
 ·rename_i l
  cases hw:o.within l s with
  |true=>rw[hw] at h;exact h
  |false=>rw[hw] at h;simp at h
def runOps{R:Type}(Γ:az):List GOp→(St→Option R)→St→Option R
 | [],K,s=>K s
 |⟨none,o,ob⟩::r,K,s=>match stepO Γ ob o s with
  |some (c,s')=>chk c (runOps Γ r K s')
  |none=>none
 |⟨some (g,w),o,ob⟩::r,K,s=>match s.get g with
  | .bool b=>cond b
    (match w with
     |true=>match stepO Γ ob o (s.set g (.bool true)) with
      |some (c,s')=>chk c (runOps Γ r K s')
      |none=>none
     |false=>runOps Γ r K ((s.set g (.bool true)).setO o.dst (.tup [])))
    (match w with
     |false=>match stepO Γ ob o (s.set g (.bool false)) with
      |some (c,s')=>chk c (runOps Γ r K s')
      |none=>none
     |true=>runOps Γ r K ((s.set g (.bool false)).setO o.dst (.tup [])))
  | .tup []=>runOps Γ r K (s.setO o.dst (.tup []))
  |_=>none
inductive Occ where
 |slot (n:Nat)
 |cell (id j:Nat)
 |res
 deriving DecidableEq
inductive po where
 |opn (o:Occ)
 |cls (o:Occ)
 |fz (o:Occ)
def St.at?(s:St):Occ→V
 | .slot n=>s.get n
 | .cell id j=>match s.obj id with|some cs=>cs.getD j .undef|none=>.undef
 | .res=>.undef
def St.put?(s:St)(o:Occ)(v:V):St:=match o with
 | .slot n=>s.set n v
 | .cell id j=>match s.obj id with|some cs=>s.setObj id (cs.set j v)|none=>s
 | .res=>s
def po.step(a:po)(s:St):Option (Bool×St):=match a with
 | .opn o=>match s.at? o with
   | .ul k xs=>some (decide (0<xs.length),{s.put? o (.sw k s.hp.length xs.length) with hp:=(s.put? o (.sw k s.hp.length xs.length)).hp++[some [.rw k xs],none]})
   |_=>some (true,s)
 | .cls o=>match s.at? o with
   | .sw k id n=>match s.rowW id with
     |some ⟨k',xs⟩=>if k'=k then some (Nat.beq n xs.length,{s.put? o (.ul k' xs) with hp:=(s.put? o (.ul k' xs)).hp.set id none}) else none
     |none=>none
   |_=>some (true,s)
 | .fz o=>match s.at? o with
   | .ul k xs=>some (true,s.put? o (.sl k .own xs))
   |_=>some (true,s)
inductive IR where
 |skip
 |bad
 |reg (ops:List GOp) (pre:List (List Nat))
 |seq (a b:IR)
 |cond (c:ASrc) (a b:IR)
 |block (id:Nat) (a:IR)
 |loop (live:List Nat) (n:Nat) (a:IR)
 |cut (live:List Nat) (n:Nat) (a:IR)
 |gh (g:po) (a:IR)
 |ghp (g:po) (a:IR)
 |exit (id:Nat)
 |ret
inductive Ex where
 |normal
 |exit (id:Nat)
 |ret
mutual
def V.lower(n:Nat):V→Bool
 | .ptr id _=>Nat.blt id n
 | .so id _=>Nat.blt id n
 | .rw _ _=>false
 | .sw _ id _=>Nat.blt (id+1) n
 | .sx _ id _ _=>Nat.blt (id+1) n
 | .wp id _ _ _=>Nat.blt (id+1) n
 | .mr id=>Nat.blt id n
 | .agg cs=>V.lowers n cs
 | .tup cs=>V.lowers n cs
 | .ea cs=>V.lowers n cs
 | .fn _ cs=>V.lowers n cs
 |_=>true
def V.lowers(n:Nat):List V→Bool
 | []=>true
 |v::r=>V.lower n v&&V.lowers n r
end
def mf(live:List Nat)(n:Nat):Nat→List V→List V
 |_,[]=>[]
 |i,v::r=>(if live.elem i&&v.lower n then v else .undef)::mf live n (i+1) r
def mg(n:Nat):List aq→Bool
 | []=>true
 |none::r=>mg n r
 |some cs::r=>V.lowers n cs&&mg n r
def St.keep(s:St)(live:List Nat)(n:Nat):St:={env:=mf live n 0 s.env,hp:=cond (mg n (s.hp.take n)) (s.hp.take n) s.hp}
def bd{R:Type}:Nat→((St→Option R)→St→Option R)→St→Option R
 |0,_,_=>none
 |n+1,F,s=>F (bd n F) s
def kseq{R:Type}(b:(Ex→St→Option R)→St→Option R)(K:Ex→St→Option R):Ex→St→Option R
 | .normal,s=>b K s
 |e,s=>K e s
def aJ{R:Type}(id:Nat)(K:Ex→St→Option R):Ex→St→Option R
 | .exit j,s=>cond (Nat.beq j id) (K .normal s) (K (.exit j) s)
 |e,s=>K e s
def bG{R:Type}(again:St→Option R)(live:List Nat)(n:Nat)(K:Ex→St→Option R):Ex→St→Option R
 | .normal,s=>again (s.keep live n)
 |e,s=>K e s
def afU{R:Type}(g:po)(K:Ex→St→Option R):Ex→St→Option R
 | .normal,s=>match g.step s with
   |some (c,s')=>chk c (K .normal s')
   |none=>none
 |e,s=>K e s
def run{R:Type}(Γ:az)(n:Nat):IR→(Ex→St→Option R)→St→Option R
 | .skip,K,s=>K .normal s
 | .bad,_,_=>none
 | .reg ops _,K,s=>runOps Γ ops (K .normal) s
 | .seq a b,K,s=>run Γ n a (kseq (run Γ n b) K) s
 | .cond c a b,K,s=>match c.ev s with
   | .bool t=>cond t (run Γ n a K (c.fix s true)) (run Γ n b K (c.fix s false))
   |_=>none
 | .block id a,K,s=>run Γ n a (aJ id K) s
 | .loop live m a,K,s=>bd n (fun again s=>run Γ n a (bG again live m K) s) (s.keep live m)
 | .cut live m a,K,s=>run Γ n a K (s.keep live m)
 | .gh g a,K,s=>match g.step s with
   |some (c,s')=>chk c (run Γ n a K s')
   |none=>none
 | .ghp g a,K,s=>run Γ n a (afU g K) s
 | .exit id,K,s=>K (.exit id) s
 | .ret,K,s=>K .ret s
def aP{α R:Type}:Nat→((α→Option R)→α→Option R)→α→Option R
 |0,_,_=>none
 |n+1,B,x=>B (aP n B) x
theorem be{α R:Type}(mk:α→St)(F:(St→Option R)→St→Option R)(B:(α→Option R)→α→Option R)
  (h:∀again x,F again (mk x)=B (fun y=>again (mk y)) x):∀m x,bd m F (mk x)=aP m B x
 |0,_=>rfl
 |m+1,x=>by
  show F (bd m F) (mk x)=B (aP m B) x
  rw[h]
  congr 1
  funext y
  exact be mk F B h m y
inductive RV where
 |t (n:Nat)
 |cell (n size:Nat) (agg:Bool)
def RV.ev(s:St):RV→Option V
 | .t n=>some (s.get n)
 | .cell n size agg=>match s.get n with
   | .ptr id o=>match s.obj id with
     |some cs=>if o+size≤cs.length then some (disown (loaded agg ((cs.drop o).take size))) else none
     |none=>none
   | .ea cs=>if size≤cs.length then some (disown (loaded agg (cs.take size))) else none
   |_=>none
def rvs(s:St):List RV→Option (List V)
 | []=>some []
 |r::l=>match r.ev s,rvs s l with|some v,some vs=>some (v::vs)|_,_=>none
def resultOf(s:St)(rs:List RV):Option V:=
 match rvs s rs with
 |some [v]=>some v
 |some vs=>some (.tup (vs.map disown))
 |none=>none
def fin(rs:List RV):Ex→St→Option (V×List aq)
 | .normal,s| .ret,s=>(resultOf s rs).map fun v=>(v,s.hp)
 |_,_=>none
def start(ntmps:Nat)(args:List V)(hp:List aq):St:={env:=args++List.replicate (ntmps-args.length) .undef,hp}
def callF(Γ:az)(n ntmps:Nat)(rs:List RV)(body:IR)(args:List V)(hp:List aq):Option (V×List aq):=
 run Γ n body (fin rs) (start ntmps args hp)
end Go.AM
end
noncomputable section
namespace Go.AM
set_option autoImplicit false
structure Gh where
 I:Nat→Nat→Prop
 ρ:Nat→Nat
 O:Nat→Option Occ
 β:Nat
def cZ(c:V)(cv:Value):Prop:=
 match c,cv with
 | .sl _ .own _,.slice (some _) _ _=>False
 | .bn _ _,_=>False
 | .raw _,_=>False
 | .ul _ xs,cv=>xs.length=0∧cv=.slice none 0 0
 |_,_=>True
inductive VRel(I:Nat→Nat→Prop)(ρ:Nat→Nat)(N:Nat)(w:World):V→Value→Prop where
 |undef (cv:Value):VRel I ρ N w .undef cv
 |bool (b:Bool):VRel I ρ N w (.bool b) (.bool b)
 |int (k:IntKind) (n:Int) (h:k.min≤n∧n≤k.max):VRel I ρ N w (.int k n) (.int k n)
 |str (l:List UInt8) (s:ByteArray) (hl:s.data.toList=l) (h:s.size≤cb):VRel I ρ N w (.str l) (.string s)
 |sln (k:EK) (o:Fl):VRel I ρ N w (.sl k o []) (.slice none 0 0)
 |sle (k:EK) (o:Fl) (ad:Addr) (ho:o≠.own):VRel I ρ N w (.sl k o []) (.slice (some ad) 0 0)
 |sl (k:EK) (o:Fl) (xs:List (Ty k)) (b off len cap:Nat) (hl:xs.length=len) (hc:xs.length≤cap) (hm:cap≤cb) (hf:o=.may true→len=cap) (f:Nat→Nat→Value)
   (hI:∀i x j,xs[i]? =some x→j<(enc k x).length→I b (off+i*k.sz+j))
   (hw:∀i x j,xs[i]? =some x→j<(enc k x).length→w.cell? ⟨b,off+i*k.sz+j,none⟩=some (f i j))
   (hv:∀i x j v,xs[i]? =some x→(enc k x)[j]? =some v→VRel I ρ N w v (f i j)):
   VRel I ρ N w (.sl k o xs) (.slice (some ⟨b,off,none⟩) len cap)
 |agg (cs:List V) (vs:Array Value) (hl:cs.length=vs.size) (h1:∀c∈cs,c.one=true) (hb:∀(i:Nat) c cv,cs[i]? =some c→vs[i]? =some cv→cZ c cv)
   (hv:∀(i:Nat) c cv,cs[i]? =some c→vs[i]? =some cv→VRel I ρ N w c cv):VRel I ρ N w (.agg cs) (.agg vs)
 |tup (cs:List V) (vs:Array Value) (hl:cs.length=vs.size)
   (hv:∀(i:Nat) c cv,cs[i]? =some c→vs[i]? =some cv→VRel I ρ N w c cv):VRel I ρ N w (.tup cs) (.tuple vs)
 |ea (cs:List V) (b off:Nat) (f:Nat→Value) (h1:∀c∈cs,c.one=true)
   (hI:∀j,j<cs.length→I b (off+j))
   (hw:∀j,j<cs.length→w.cell? ⟨b,off+j,none⟩=some (f j))
   (hv:∀(j:Nat) c,cs[j]? =some c→VRel I ρ N w c (f j)):VRel I ρ N w (.ea cs) (.pointer (some ⟨b,off,none⟩))
 |ptr (id off:Nat) (h:id<N):VRel I ρ N w (.ptr id off) (.pointer (some ⟨ρ id,off,none⟩))
 |nilp:VRel I ρ N w .nilp (.pointer none)
 |fn (f:Nat) (cs:List V) (vs:Array Value) (hl:cs.length=vs.size)
   (hv:∀(i:Nat) c cv,cs[i]? =some c→vs[i]? =some cv→VRel I ρ N w c cv):VRel I ρ N w (.fn f cs) (.func (.func f) #[] vs)
 |nilif:VRel I ρ N w .nilif .nilIface
 |bn (E n:Nat) (p:Option Addr):VRel I ρ N w (.bn E n) (.pointer p)
 |junk (cv:Value) (h:cv.oneCell'=true):VRel I ρ N w .junk cv
 |so (id n cap:Nat) (h:id<N) (hc:n≤cap) (hm:cap≤cb):VRel I ρ N w (.so id n) (.slice (some ⟨ρ id,0,none⟩) n cap)
 |raw (n b:Nat):VRel I ρ N w (.raw n) (.pointer (some ⟨b,0,none⟩))
 |ul (k:EK) (xs:List (Ty k)) (ad:Option Addr) (cap:Nat) (hm:xs.length≤cb):VRel I ρ N w (.ul k xs) (.slice ad xs.length cap)
 |hd (n:Nat) (ad:Option Addr) (cap:Nat) (hm:n≤cb):VRel I ρ N w (.hd n) (.slice ad n cap)
 |sw (k:EK) (id n:Nat) (h:id+1<N) (hc:n≤ρ (id+1)) (hm:ρ (id+1)≤cb):VRel I ρ N w (.sw k id n) (.slice (some ⟨ρ id,0,none⟩) n (ρ (id+1)))
 |sx (k:EK) (id off n ad cap:Nat) (h:id+1<N) (hc:off+n≤ρ (id+1)) (hm:ρ (id+1)≤cb) (hl:n≤cap) (ha:0<n→ad=off*k.sz):VRel I ρ N w (.sx k id off n) (.slice (some ⟨ρ id,ad,none⟩) n cap)
 |wp (id:Nat) (k:EK) (i o:Nat) (h:id+1<N):VRel I ρ N w (.wp id k i o) (.pointer (some ⟨ρ id,i*k.sz+o,none⟩))
 |mr (id:Nat) (h:id<N):VRel I ρ N w (.mr id) (.map (some (ρ id)))
 |nilm:VRel I ρ N w .nilm (.map none)
structure Up(I:Nat→Nat→Prop)(ρ:Nat→Nat)(N:Nat)(w:World)(I':Nat→Nat→Prop)(ρ':Nat→Nat)(N':Nat)(w':World):Prop where
 mono:∀b j,I b j→I' b j
 cell:∀b j,I b j→w'.cell? ⟨b,j,none⟩=w.cell? ⟨b,j,none⟩
 rho:∀id,id<N→ρ' id=ρ id
 num:N≤N'
theorem Up.refl(I:Nat→Nat→Prop)(ρ:Nat→Nat)(N:Nat)(w:World):Up I ρ N w I ρ N w:=⟨fun _ _ h=>h,fun _ _ _=>rfl,fun _ _=>rfl,Nat.le_refl _⟩
theorem Up.trans{I I' I'':Nat→Nat→Prop}{ρ ρ' ρ'':Nat→Nat}{N N' N'':Nat}{w w' w'':World}(h:Up I ρ N w I' ρ' N' w')(k:Up I' ρ' N' w' I'' ρ'' N'' w''):
  Up I ρ N w I'' ρ'' N'' w'':=
 ⟨fun b j hi=>k.mono b j (h.mono b j hi),fun b j hi=>(k.cell b j (h.mono b j hi)).trans (h.cell b j hi),
  fun id hid=>(k.rho id (Nat.lt_of_lt_of_le hid h.num)).trans (h.rho id hid),Nat.le_trans h.num k.num⟩
theorem VRel.up{I I':Nat→Nat→Prop}{ρ ρ':Nat→Nat}{N N':Nat}{w w':World}(u:Up I ρ N w I' ρ' N' w'){v:V}{cv:Value}(h:VRel I ρ N w v cv):
  VRel I' ρ' N' w' v cv:=by
 induction h with
 |undef cv=>exact .undef cv
 |bool b=>exact .bool b
 |int k n h=>exact .int k n h
 |str l s hl h=>exact .str l s hl h
 |sln k o=>exact .sln k o
 |sle k o ad ho=>exact .sle k o ad ho
 |sl k o xs b off len cap hl hc hm hf f hI hw hv ih=>
  exact .sl k o xs b off len cap hl hc hm hf f (fun i x j h1 h2=>u.mono _ _ (hI i x j h1 h2)) (fun i x j h1 h2=>(u.cell _ _ (hI i x j h1 h2)).trans (hw i x j h1 h2)) ih
 |agg cs vs hl h1 hb hv ih=>exact .agg cs vs hl h1 hb ih
 |tup cs vs hl hv ih=>exact .tup cs vs hl ih
 |ea cs b off f h1 hI hw hv ih=>exact .ea cs b off f h1 (fun j h=>u.mono _ _ (hI j h)) (fun j h=>(u.cell _ _ (hI j h)).trans (hw j h)) ih
 |ptr id off h=>rw[←u.rho id h];exact .ptr id off (Nat.lt_of_lt_of_le h u.num)
 |nilp=>exact .nilp
 |fn f cs vs hl hv ih=>exact .fn f cs vs hl ih
 |nilif=>exact .nilif
 |bn E n p=>exact .bn E n p
 |junk cv h=>exact .junk cv h
 |so id n cap h hc hm=>rw[←u.rho id h];exact .so id n cap (Nat.lt_of_lt_of_le h u.num) hc hm
 |raw n b=>exact .raw n b
 |ul k xs ad cap hm=>exact .ul k xs ad cap hm
 |hd n ad cap hm=>exact .hd n ad cap hm
 |sw k id n h hc hm=>
  have e:=u.rho (id+1) h
  have h':id+1<N':=Nat.lt_of_lt_of_le h u.num
  rw[←u.rho id (by omega),←e]
  exact .sw k id n h' (by rw[e];exact hc) (by rw[e];exact hm)
 |sx k id off n ad cap h hc hm hl ha=>
  have e:=u.rho (id+1) h
  have h':id+1<N':=Nat.lt_of_lt_of_le h u.num
  rw[←u.rho id (by omega)]
  exact .sx k id off n ad cap h' (by rw[e];exact hc) (by rw[e];exact hm) hl ha
 |wp id k i o h=>rw[←u.rho id (by omega)];exact .wp id k i o (Nat.lt_of_lt_of_le h u.num)
 |mr id h=>rw[←u.rho id h];exact .mr id (Nat.lt_of_lt_of_le h u.num)
 |nilm=>exact .nilm
section
variable{I:Nat→Nat→Prop}{ρ:Nat→Nat}{N:Nat}{w:World}
theorem VRel.own{k:EK}{o o':Fl}{xs:List (Ty k)}{cv:Value}(h:VRel I ρ N w (.sl k o xs) cv)(ho:o'=.may true→o=.may true)(hn:o'≠.own):VRel I ρ N w (.sl k o' xs) cv:=by
 cases h with
 |sln=>exact .sln _ _
 |sle _ _ ad _=>exact .sle _ _ ad hn
 |sl _ _ _ b off len cap hl hc hm hf f hI hw hv=>exact .sl k o' xs b off len cap hl hc hm (fun h=>hf (ho h)) f hI hw hv
theorem VRel.disown{v:V}{cv:Value}(h:VRel I ρ N w v cv):VRel I ρ N w (disown v) cv:=by
 cases v<;>simp only[AM.disown]<;>first|exact h|exact h.own (by rename_i o _;cases o<;>simp[Fl.dis]) (by rename_i o _;cases o<;>simp[Fl.dis])|(cases h;exact .junk _ rfl)|(cases h;rename_i hm;exact .hd _ _ _ hm)|exact .undef _
theorem wt(v:V)(cv:Value):cZ (AM.disown v) cv:=by
 cases v with
 |sl k o xs=>cases o<;>simp[AM.disown,cZ,Fl.dis]
 |_=>simp[AM.disown,cZ]
theorem kG(v:V):(disown v).one=v.one:=by cases v<;>rfl
theorem VRel.oneCell{v:V}{cv:Value}(h:VRel I ρ N w v cv)(h1:v.one=true):cv.oneCell'=true:=by
 cases h<;>first|rfl|assumption|simp[V.one] at h1
theorem qM(k:EK)(x:Ty k):∀c∈enc k x,c.one=true:=by
 cases k<;>simp[enc,V.one]
theorem bV(k:EK)(x:Ty k):(enc k x).length=k.sz:=by
 cases k<;>rfl
theorem VRel.weak{v:V}{cv:Value}(h:VRel I ρ N w v cv):VRel I ρ N w v.weak cv:=by
 cases v<;>simp only[V.weak]<;>first|exact h.own (by simp) (by simp)|exact h.disown
theorem VRel.full{k:EK}{xs:List (Ty k)}{a:Addr}{len cap:Nat}(h:VRel I ρ N w (.sl k (.may true) xs) (.slice (some a) len cap)):len=cap:=by
 cases h with
 |sle=>rfl
 |sl _ _ _ b off _ _ hl hc hm hf f hI hw hv=>exact hf rfl
theorem ajV(k:EK)(x:Ty k):(enc k x).map V.weak=enc k x:=by
 cases k<;>rfl
def V.inRange:V→Prop
 | .int k n=>k.min≤n∧n≤k.max
 |_=>True
theorem VRel.inRange{v:V}{cv:Value}(h:VRel I ρ N w v cv):v.inRange:=by
 cases h<;>simp only[V.inRange]<;>assumption
theorem ah6{k:EK}{cs:List V}{x:Ty k}(h:dec k cs=some x)(hr:∀c∈cs,c.inRange):enc k x=cs.map V.weak:=by
 unfold dec at h
 split at h<;>first
  |(cases Option.some.inj h;rfl)
  |(cases Option.some.inj h;simp[enc,V.weak,AM.disown];done)
  |(cases Option.some.inj h
    have:=hr _ (List.mem_singleton.2 rfl)
    simp only[V.inRange,IntKind.min,IntKind.max,IntKind.signed,IntKind.bits] at this
    simp[enc,V.weak,AM.disown] at this ⊢
    omega)
  |exact absurd h (by simp)
end
def V.flat1:V→Bool
 | .bool _| .int _ _| .str _| .sl _ _ _| .nilp| .nilif| .fn _ []=>true
 |_=>false
section
variable{I:Nat→Nat→Prop}{ρ ρ':Nat→Nat}{N N':Nat}{w:World}
theorem abT(k:EK)(x:Ty k):∀c∈enc k x,c.flat1=true:=by
 cases k<;>simp[enc,V.flat1]
theorem VRel.flat1{v:V}{cv:Value}(h:VRel I ρ N w v cv):v.flat1=true→VRel I ρ' N' w v cv:=by
 induction h with
 |undef cv=>intro hf;simp[V.flat1] at hf
 |bool b=>intro _;exact .bool b
 |int k n h=>intro _;exact .int k n h
 |str l s hl h=>intro _;exact .str l s hl h
 |sln k o=>intro _;exact .sln k o
 |sle k o ad ho=>intro _;exact .sle k o ad ho
 |sl k o xs b off len cap hl hc hm hf f hI hw hv ih=>
  intro _
  exact .sl k o xs b off len cap hl hc hm hf f hI hw (fun i x j v h1 h2=>ih i x j v h1 h2 (abT k x v (List.mem_of_getElem? h2)))
 |agg=>intro hf;simp[V.flat1] at hf
 |tup=>intro hf;simp[V.flat1] at hf
 |ea=>intro hf;simp[V.flat1] at hf
 |ptr=>intro hf;simp[V.flat1] at hf
 |nilp=>intro _;exact .nilp
 |fn f cs vs hl hv ih=>
  intro hf
  cases cs with
  |nil=>exact .fn f [] vs hl (by simp)
  |cons c cs=>simp[V.flat1] at hf
 |nilif=>intro _;exact .nilif
 |bn=>intro hf;simp[V.flat1] at hf
 |junk=>intro hf;simp[V.flat1] at hf
 |so=>intro hf;simp[V.flat1] at hf
 |raw=>intro hf;simp[V.flat1] at hf
 |ul=>intro hf;simp[V.flat1] at hf
 |hd=>intro hf;simp[V.flat1] at hf
 |sw=>intro hf;simp[V.flat1] at hf
 |sx=>intro hf;simp[V.flat1] at hf
 |wp=>intro hf;simp[V.flat1] at hf
 |mr=>intro hf;simp[V.flat1] at hf
 |nilm=>intro hf;simp[V.flat1] at hf
end
def zp(fz:Nat×Nat)(n:Nat):Prop:=∀j,j<n→¬(fz.1≤j∧j<fz.2)
theorem akN(n:Nat):zp (0,0) n:=by intro j _;simp
def zq(g:Gh)(w:World)(occ:Occ)(k:EK)(xs:List (Ty k))(cv:Value):Prop:=
 (xs=[]∧cv=.slice none 0 0)∨
 ∃b cap arr e fz,zp fz arr.size∧cv=.slice (some ⟨b,0,none⟩) xs.length cap∧xs.length≤cap∧cap≤cb∧g.O b=some occ∧w.heap[b]? =some (.cells arr e fz)∧cap*k.sz≤arr.size∧(k=.u8→e=g.β)∧
  (∀j,¬g.I b j)∧∀(i:Nat) x (j:Nat) v u,xs[i]? =some x→(enc k x)[j]? =some v→arr[i*k.sz+j]? =some u→VRel g.I (fun _=>0) 0 w v u
def ax(g:Gh)(w:World)(occ:Occ)(v:V)(cv:Value):Prop:=
 match v,cv with
 | .sl k .own _,.slice (some a) len cap=>
   g.O a.block=some occ∧(∃arr e fz,w.heap[a.block]? =some (.cells arr e fz)∧a.off+cap*k.sz≤arr.size∧(k=.u8→e=g.β))∧
    ∀j,a.off+len*k.sz≤j→j<a.off+cap*k.sz→¬g.I a.block j∧w.frozen? ⟨a.block,j,none⟩=false
 | .raw n,.pointer (some a)=>g.O a.block=some occ∧(∃arr e,w.heap[a.block]? =some (.cells arr e (0,0))∧arr.size=n)∧∀j,¬g.I a.block j
 | .ul k xs,cv=>zq g w occ k xs cv
 |_,_=>True
theorem zq.keep{g g':Gh}{w w':World}{occ:Occ}{k:EK}{xs:List (Ty k)}{cv:Value}(h:zq g w occ k xs cv)(hβ:g'.β=g.β)
  (hI:∀b j,g.I b j→g'.I b j∧w'.cell? ⟨b,j,none⟩=w.cell? ⟨b,j,none⟩)
  (hk:∀b,g.O b=some occ→g'.O b=some occ∧w'.heap[b]? =w.heap[b]?∧∀j,g'.I b j→g.I b j):zq g' w' occ k xs cv:=by
 rcases h with h|⟨b,cap,arr,e,fz,h0,h1,h2,h3,h4,h5,h6,h7,h8,h9⟩
 ·exact .inl h
 ·obtain⟨k1,k2,k3⟩:=hk b h4
  refine .inr ⟨b,cap,arr,e,fz,h0,h1,h2,h3,k1,k2.trans h5,h6,fun hk=>(h7 hk).trans hβ.symm,fun j hj=>h8 j (k3 j hj),fun i x j v u a1 a2 a3=>?_⟩
  exact(h9 i x j v u a1 a2 a3).up ⟨fun b j hi=>(hI b j hi).1,fun b j hi=>(hI b j hi).2,fun _ _=>rfl,Nat.le_refl _⟩
theorem bK{g g':Gh}{w w':World}{occ:Occ}{v:V}{cv:Value}(h:ax g w occ v cv)
  (hβ:g'.β=g.β) (hI:∀b j,g.I b j→g'.I b j∧w'.cell? ⟨b,j,none⟩=w.cell? ⟨b,j,none⟩)
  (hk:∀b,g.O b=some occ→g'.O b=some occ∧w'.heap[b]? =w.heap[b]?∧∀j,g'.I b j→g.I b j):ax g' w' occ v cv:=by
 unfold ax at h ⊢
 split
 ·rename_i k xs ad len cap
  obtain⟨h1,⟨arr,e,fz,h2,h3,h5⟩,h4⟩:=h
  obtain⟨k1,k2,k3⟩:=hk _ h1
  refine⟨k1,⟨arr,e,fz,k2.trans h2,h3,fun hk=>by rw[hβ];exact h5 hk⟩,fun j hj1 hj2=>?_⟩
  obtain⟨m1,m2⟩:=h4 j hj1 hj2
  refine⟨fun hi=>m1 (k3 j hi),?_⟩
  simpa [World.frozen?,k2] using m2
 ·obtain⟨h1,⟨arr,e,h2,h3⟩,h4⟩:=h
  obtain⟨k1,k2,k3⟩:=hk _ h1
  exact⟨k1,⟨arr,e,k2.trans h2,h3⟩,fun j hi=>h4 j (k3 j hi)⟩
 ·exact zq.keep h hβ hI hk
 ·trivial
theorem ax.disown(g:Gh)(w:World)(occ:Occ)(v:V)(cv:Value):ax g w occ (AM.disown v) cv:=by
 cases v with
 |sl k o xs=>cases o<;>simp[AM.disown,ax,Fl.dis]
 |_=>simp only[AM.disown,ax]
def cellsOf:List V→List V
 | [.rb xs]=>xs.map fun b=>.int .u8 b.toNat
 | [.rw k xs]=>xs.flatMap (enc k)
 |cs=>cs
theorem fO{cs:List V}(h:bU cs=false):cellsOf cs=cs:=by
 unfold cellsOf
 split
 ·simp[bU] at h
 ·simp[bU] at h
 ·rfl
structure mO(g:Gh)(N:Nat)(w:World)(id:Nat)(cs:List V)(arr:Array Value)(e:TypeId)(fz:Nat×Nat):Prop where
 len:(cellsOf cs).length≤arr.size
 plain:bU cs=false→cs.length=arr.size∧fz=(0,0)
 typed:∀k xs,cs=[.rw k xs]→zp fz arr.size∧g.ρ (id+1)*k.sz≤arr.size∧id+1<N∧(k=.u8→e=g.β)
 cold:∀j,j<(cellsOf cs).length→¬(fz.1≤j∧j<fz.2)
 one:∀c∈cellsOf cs,c.one=true
 rel:∀(j:Nat) c cv,(cellsOf cs)[j]? =some c→arr[j]? =some cv→VRel g.I g.ρ N w c cv
 own:∀(j:Nat) c cv,(cellsOf cs)[j]? =some c→arr[j]? =some cv→ax g w (.cell id j) c cv
 bn:∀(j E n:Nat),(cellsOf cs)[j]? =some (.bn E n)→E=e∧n=arr.size∧(arr[j]? =some (.pointer none)∨arr[j]? =some (.pointer (some ⟨g.ρ id,j,none⟩)))
theorem mO.typedUp{g g':Gh}{N N':Nat}{w:World}{id:Nat}{cs:List V}{arr arr':Array Value}{e:TypeId}{fz:Nat×Nat}(h:mO g N w id cs arr e fz)
  (hβ:g'.β=g.β) (hr:∀id,id<N→g'.ρ id=g.ρ id) (hn:N≤N') (ha:arr.size=arr'.size):
  ∀k xs,cs=[.rw k xs]→zp fz arr'.size∧g'.ρ (id+1)*k.sz≤arr'.size∧id+1<N'∧(k=.u8→e=g'.β):=by
 intro k xs hc
 obtain⟨a,b,c,d⟩:=h.typed k xs hc
 exact⟨ha▸a,by rw[hr _ c];omega,by omega,fun hk=>(d hk).trans hβ.symm⟩
structure zr(g:Gh)(N:Nat)(w:World)(id:Nat)(cs:List V)(arr:Array Value)(e:TypeId):Prop where
 len:cs.length=arr.size
 one:∀c∈cs,c.one=true
 rel:∀(j:Nat) c cv,cs[j]? =some c→arr[j]? =some cv→VRel g.I g.ρ N w c cv
 own:∀(j:Nat) c cv,cs[j]? =some c→arr[j]? =some cv→ax g w (.cell id j) c cv
 bn:∀(j E n:Nat),cs[j]? =some (.bn E n)→E=e∧n=arr.size∧(arr[j]? =some (.pointer none)∨arr[j]? =some (.pointer (some ⟨g.ρ id,j,none⟩)))
theorem ajb{cs:List V}(h:∀c∈cs,c.one=true):bU cs=false:=by
 unfold bU
 split
 ·have:=h _ (List.mem_singleton.2 rfl)
  simp[V.one] at this
 ·have:=h _ (List.mem_singleton.2 rfl)
  simp[V.one] at this
 ·rfl
theorem mO.low{g:Gh}{N:Nat}{w:World}{id:Nat}{cs:List V}{arr:Array Value}{e:TypeId}{fz:Nat×Nat}(h:mO g N w id cs arr e fz)(hr:bU cs=false):
  fz=(0,0)∧zr g N w id cs arr e:=by
 have e1:=fO hr
 obtain⟨a,b,t,c,d,f,g,i⟩:=h
 rw[e1] at d f g i
 exact⟨(b hr).2,(b hr).1,d,f,g,i⟩
theorem zr.high{g:Gh}{N:Nat}{w:World}{id:Nat}{cs:List V}{arr:Array Value}{e:TypeId}(h:zr g N w id cs arr e):mO g N w id cs arr e (0,0):=by
 have hr:=ajb h.one
 have e1:=fO hr
 obtain⟨a,d,f,g,i⟩:=h
 exact⟨by rw[e1,a];exact Nat.le_refl _,fun _=>⟨a,rfl⟩,by rintro k xs rfl;simp[bU] at hr,by intro j _;simp,by rw[e1];exact d,by rw[e1];exact f,by rw[e1];exact g,by rw[e1];exact i⟩
def MK.keyV:(k:MK)→k.K→Value
 | .pb,x=>.agg #[.int .i64 x.1,.int .i64 x.2]
 | .bs,x=>.int .u8 x
 | .bn,x=>.int .u8 x
 | .ib,x=>.int .i64 x
 | .sn,x=>.string ⟨x.toArray⟩
def MK.valV:(k:MK)→k.T→Value
 | .pb,x=>.bool x
 | .bs,x=>.string ⟨x.toArray⟩
 | .bn,x=>.int .i64 x
 | .ib,x=>.bool x
 | .sn,x=>.int .i64 x
def hH:List V→Bool
 | [.mp _ _]=>true
 |_=>false
def MK.okT:(k:MK)→k.T→Prop
 | .pb,_=>True
 | .bs,x=>x.length≤cb
 | .bn,x=>IntKind.i64.min≤x∧x≤IntKind.i64.max
 | .ib,_=>True
 | .sn,x=>IntKind.i64.min≤x∧x≤IntKind.i64.max
def oj{k:MK}(es:List (k.K×k.T))(ents:Array MapEntry)(clock:Nat):Prop:=
 es.length=ents.size∧clock=ents.size∧∀(i:Nat) e en,es[i]? =some e→ents[i]? =some en→en.born=i∧en.key=k.keyV e.1∧en.val=k.valV e.2∧k.okT e.2
structure fP(g:Gh)(N:Nat)(w:World)(id:Nat)(cs:List V):Prop where
 row:hH cs=false→∃arr e fz,w.heap[g.ρ id]? =some (.cells arr e fz)∧mO g N w id cs arr e fz
 map:∀(k:MK) es,cs=[.mp k es]→∃ents clock,w.heap[g.ρ id]? =some (.map ents clock)∧oj es ents clock
theorem sN{cs:List V}(h:hH cs=true):∃k es,cs=[.mp k es]:=by
 unfold hH at h
 split at h
 ·exact⟨_,_,rfl⟩
 ·simp at h
theorem fP.block{g:Gh}{N:Nat}{w:World}{id:Nat}{cs:List V}(h:fP g N w id cs):∃x,w.heap[g.ρ id]? =some x:=by
 cases hm:hH cs with
 |false=>obtain⟨arr,e,fz,h1,_⟩:=h.row hm;exact⟨_,h1⟩
 |true=>
  obtain⟨k,es,rfl⟩:=sN hm
  obtain⟨ents,c,h1,_⟩:=h.map k es rfl
  exact⟨_,h1⟩
theorem fP.lt{g:Gh}{N:Nat}{w:World}{id:Nat}{cs:List V}(h:fP g N w id cs):g.ρ id<w.heap.size:=by
 obtain⟨x,hx⟩:=h.block
 exact(Array.getElem?_eq_some_iff.1 hx).1
theorem fP.keep{g g':Gh}{N N':Nat}{w w':World}{id id':Nat}{cs:List V}(h:fP g N w id cs)(hb:w'.heap[g'.ρ id']? =w.heap[g.ρ id]?)(hr:∀arr e fz,w.heap[g.ρ id]? =some (.cells arr e fz)→mO g N w id cs arr e fz→mO g' N' w' id' cs arr e fz):fP g' N' w' id' cs:=
 ⟨fun hm=>by obtain⟨arr,e,fz,h1,h2⟩:=h.row hm;exact⟨arr,e,fz,hb.trans h1,hr arr e fz h1 h2⟩,fun k es hc=>by obtain⟨ents,c,h1,h2⟩:=h.map k es hc;exact⟨ents,c,hb.trans h1,h2⟩⟩
theorem fP.ofRow{g:Gh}{N:Nat}{w:World}{id:Nat}{cs:List V}{arr:Array Value}{e:TypeId}{fz:Nat×Nat}(h1:w.heap[g.ρ id]? =some (.cells arr e fz))(h2:mO g N w id cs arr e fz)(hm:hH cs=false):fP g N w id cs:=
 ⟨fun _=>⟨arr,e,fz,h1,h2⟩,fun k es hc=>by subst hc;simp[hH] at hm⟩
theorem ajc{cs:List V}(h:∀c∈cs,c.one=true):hH cs=false:=by
 cases hm:hH cs with
 |false=>rfl
 |true=>
  obtain⟨k,es,rfl⟩:=sN hm
  have:=h _ (List.mem_singleton.2 rfl)
  simp[V.one] at this
theorem fP.ofRow0{g:Gh}{N:Nat}{w:World}{id:Nat}{cs:List V}{arr:Array Value}{e:TypeId}(h1:w.heap[g.ρ id]? =some (.cells arr e (0,0)))(h2:zr g N w id cs arr e):fP g N w id cs:=
 .ofRow h1 h2.high (ajc h2.one)
structure HR(g:Gh)(hp:List aq)(w:World):Prop where
 obj:∀(id:Nat) cs,hp[id]? =some (some cs)→fP g hp.length w id cs
 apart:∀(id id':Nat) cs cs',hp[id]? =some (some cs)→hp[id']? =some (some cs')→id≠id'→g.ρ id≠g.ρ id'
 notI:∀(id:Nat) cs,hp[id]? =some (some cs)→∀j,¬g.I (g.ρ id) j
 notO:∀(id:Nat) cs,hp[id]? =some (some cs)→g.O (g.ρ id)=none
 exI:∀b j,g.I b j→(w.cell? ⟨b,j,none⟩).isSome=true
 oLt:∀b o,g.O b=some o→b<w.heap.size
structure ER(g:Gh)(N:Nat)(w:World)(env:List V)(tmps:Array Value):Prop where
 size:env.length=tmps.size
 rel:∀(n:Nat) v cv,env[n]? =some v→tmps[n]? =some cv→VRel g.I g.ρ N w v cv
 own:∀(n:Nat) v cv,env[n]? =some v→tmps[n]? =some cv→ax g w (.slot n) v cv
structure FR(g₀:Gh)(hp₀:List aq)(w₀:World)(g:Gh)(hp:List aq)(w:World):Prop where
 beta:g.β=g₀.β
 os:w.os=w₀.os
 tape:w.tape=w₀.tape
 output:w.output=w₀.output
 size:w₀.heap.size≤w.heap.size
 block:∀b,b<w₀.heap.size→(∀(id:Nat) cs,hp₀[id]? =some (some cs)→g₀.ρ id≠b)→g₀.O b=none→w.heap[b]? =w₀.heap[b]?
 up:Up g₀.I g₀.ρ hp₀.length w₀ g.I g.ρ hp.length w
 iSame:∀b j,b<w₀.heap.size→(∀(id:Nat) cs,hp₀[id]? =some (some cs)→g₀.ρ id≠b)→g₀.O b=none→g.I b j→g₀.I b j
 oSame:∀b,b<w₀.heap.size→(∀(id:Nat) cs,hp₀[id]? =some (some cs)→g₀.ρ id≠b)→g₀.O b=none→g.O b=none
 live:∀(id:Nat) cs,hp[id]? =some (some cs)→(∃cs₀,hp₀[id]? =some (some cs₀))∨(hp₀.length≤id∧(w₀.heap.size≤g.ρ id∨g₀.O (g.ρ id)≠none∨∃(id':Nat)(cs':List V),hp₀[id']? =some (some cs')∧g₀.ρ id'=g.ρ id))
theorem FR.refl(g:Gh)(hp:List aq)(w:World):FR g hp w g hp w:=
 ⟨rfl,rfl,rfl,rfl,Nat.le_refl _,fun _ _ _ _=>rfl,Up.refl _ _ _ _,fun _ _ _ _ _ h=>h,fun _ _ _ h=>h,fun _ cs h=>.inl ⟨cs,h⟩⟩
theorem FR.noObj{g₀ g₁:Gh}{hp₀ hp₁:List aq}{w₀ w₁:World}(h:FR g₀ hp₀ w₀ g₁ hp₁ w₁){b:Nat}(hb:b<w₀.heap.size)(ho:∀(id:Nat) cs,hp₀[id]? =some (some cs)→g₀.ρ id≠b)(hO:g₀.O b=none):
  ∀(id:Nat) cs,hp₁[id]? =some (some cs)→g₁.ρ id≠b:=by
 intro id cs hid e
 rcases h.live id cs hid with⟨cs₀,h0⟩|⟨_,h1|h1|⟨id',cs',h1,h2⟩⟩
 ·refine ho id cs₀ h0 ?_
  have hlt:id<hp₀.length:=(List.getElem?_eq_some_iff.1 h0).1
  rw[←h.up.rho id hlt];exact e
 ·omega
 ·rw[e] at h1;exact h1 hO
 ·exact ho id' cs' h1 (h2.trans e)
theorem FR.trans{g₀ g₁ g₂:Gh}{hp₀ hp₁ hp₂:List aq}{w₀ w₁ w₂:World}(h:FR g₀ hp₀ w₀ g₁ hp₁ w₁)(k:FR g₁ hp₁ w₁ g₂ hp₂ w₂):FR g₀ hp₀ w₀ g₂ hp₂ w₂:=by
 refine⟨k.beta.trans h.beta,k.os.trans h.os,k.tape.trans h.tape,k.output.trans h.output,Nat.le_trans h.size k.size,?_,h.up.trans k.up,?_,?_,?_⟩
 ·intro b hb ho hO
  exact(k.block b (Nat.lt_of_lt_of_le hb h.size) (h.noObj hb ho hO) (h.oSame b hb ho hO)).trans (h.block b hb ho hO)
 ·intro b j hb ho hO hI
  exact h.iSame b j hb ho hO (k.iSame b j (Nat.lt_of_lt_of_le hb h.size) (h.noObj hb ho hO) (h.oSame b hb ho hO) hI)
 ·intro b hb ho hO
  exact k.oSame b (Nat.lt_of_lt_of_le hb h.size) (h.noObj hb ho hO) (h.oSame b hb ho hO)
 ·intro id cs hid
  rcases k.live id cs hid with⟨cs₁,h1⟩|⟨h1,h2⟩
  ·rcases h.live id cs₁ h1 with h0|⟨h0,h3⟩
   ·exact .inl h0
   ·refine .inr ⟨h0,?_⟩
    rw[k.up.rho id (List.getElem?_eq_some_iff.1 h1).1];exact h3
  ·refine .inr ⟨Nat.le_trans h.up.num h1,?_⟩
   by_cases hlt:g₂.ρ id<w₀.heap.size
   ·right
    by_cases hO:g₀.O (g₂.ρ id)=none
    ·right
     by_cases ho:∀(id':Nat) cs,hp₀[id']? =some (some cs)→g₀.ρ id'≠g₂.ρ id
     ·exact absurd rfl (FR.noObj k (Nat.lt_of_lt_of_le hlt h.size) (h.noObj hlt ho hO) (h.oSame _ hlt ho hO) id cs hid)
     ·exact Classical.byContradiction fun hn=>ho fun id' cs' h3 h4=>hn ⟨id',cs',h3,h4⟩
    ·left;exact hO
   ·left;omega
end Go.AM
end
noncomputable section
namespace Go.AM
def pp:Nat:=1
def qN:List Value:=Go.Lib.pow10Tab.map fun z=>Value.int .u64 z
end Go.AM
end
noncomputable section
namespace Go.AM
set_option autoImplicit false
set_option linter.unusedSimpArgs false
structure SR(g:Gh)(s:St)(w:World)(a:Act):Prop where
 hr:HR g s.hp w
 er:ER g s.hp.length w s.env a.tmps
def bH(g:Gh)(s:St)(w:World)(a:Act)(s':St)(next:Act→World→Prop):Prop:=
 ∀a' w' g',SR g' s' w' a'→FR g s.hp w g' s'.hp w'→a'.defers=a.defers→next a' w'
def mh:V→Value→Bool
 | .int k n,.int k' n'=>decide (k=k')&&(n==n'&&(decide (k.min≤n)&&decide (n≤k.max)))
 | .bool b,.bool b'=>b==b'
 | .str l,.string s=>decide (s.data.toList=l)&&decide (s.size≤cb)
 | .sl _ _ xs,.slice none 0 0=>xs.isEmpty
 | .ul _ xs,.slice none 0 0=>xs.isEmpty
 | .nilp,.pointer none=>true
 | .nilif,.nilIface=>true
 | .nilm,.map none=>true
 |_,_=>false
def fE:List V→List Value→Bool
 | [],[]=>true
 |c::cs,v::vs=>mh c v&&fE cs vs
 |_,_=>false
def va:V→Value→Bool
 | .agg cs,.agg vs=>fE cs vs.toList
 |v,cv=>mh v cv
def aI:ASrc→Operand→Bool
 | .t n,.tmp k=>n==k
 | .tk n,.tmp k=>n==k
 | .c v,.const cv=>va v cv
 | .c (.fn f []),.func h=>f==h
 |_,_=>false
section
variable{I:Nat→Nat→Prop}{ρ:Nat→Nat}{N:Nat}{w:World}{g:Gh}{s:St}{a:Act}{P:Program}
theorem wu{v:V}{cv:Value}(h:mh v cv=true):VRel I ρ N w v cv∧v.one=true:=by
 unfold mh at h
 split at h
 ·simp only[Bool.and_eq_true,decide_eq_true_eq,beq_iff_eq] at h
  obtain⟨rfl,rfl,h1,h2⟩:=h
  exact⟨.int _ _ ⟨h1,h2⟩,rfl⟩
 ·obtain rfl:=by simpa using h
  exact⟨.bool _,rfl⟩
 ·simp only[Bool.and_eq_true,decide_eq_true_eq] at h
  exact⟨.str _ _ h.1 h.2,rfl⟩
 ·rename_i xs
  cases xs with
  |nil=>exact⟨.sln _ _,rfl⟩
  |cons x xs=>simp at h
 ·rename_i k xs
  cases xs with
  |nil=>exact⟨.ul k [] none 0 (by simp),rfl⟩
  |cons x xs=>simp at h
 ·exact⟨.nilp,rfl⟩
 ·exact⟨.nilif,rfl⟩
 ·exact⟨.nilm,rfl⟩
 ·simp at h
theorem acw{v:V}{cv:Value}(h:mh v cv=true):cZ v cv:=by
 unfold mh at h
 split at h<;>first|(simp[cZ];done)|(simp at h;done)|(simp[cZ];exact h)|(simp[cZ];simp at h;exact h)|simp at h
theorem lv:∀{cs:List V}{vs:List Value},fE cs vs=true→∀(i:Nat) c cv,cs[i]? =some c→vs[i]? =some cv→cZ c cv
 | [],[],_,i,c,cv,hc,hv=>by simp at hc
 |c::cs,v::vs,h,i,c',cv',hc,hv=>by
  simp only[fE,Bool.and_eq_true] at h
  cases i with
  |zero=>simp at hc hv;subst hc hv;exact acw h.1
  |succ i=>exact lv h.2 i c' cv' (by simpa using hc) (by simpa using hv)
 | [],_::_,h,_,_,_,_,_=>by simp[fE] at h
 |_::_,[],h,_,_,_,_,_=>by simp[fE] at h
theorem lw:∀{cs:List V}{vs:List Value},fE cs vs=true→cs.length=vs.length∧(∀c∈cs,c.one=true)∧
  ∀(i:Nat) c cv,cs[i]? =some c→vs[i]? =some cv→VRel I ρ N w c cv
 | [],[],_=>⟨rfl,by simp,by simp⟩
 |c::cs,v::vs,h=>by
  simp only[fE,Bool.and_eq_true] at h
  obtain⟨h1,h2⟩:=wu (I:=I) (ρ:=ρ) (N:=N) (w:=w) h.1
  obtain⟨k1,k2,k3⟩:=lw h.2
  refine⟨by simp[k1],by simpa using ⟨h2,k2⟩,?_⟩
  intro i c' cv' hc hv
  cases i with
  |zero=>simp at hc hv;subst hc hv;exact h1
  |succ i=>simp at hc hv;exact k3 i _ _ hc hv
 | [],_::_,h=>by simp[fE] at h
 |_::_,[],h=>by simp[fE] at h
theorem ahv{v:V}{cv:Value}(h:va v cv=true):VRel I ρ N w v cv:=by
 unfold va at h
 split at h
 ·rename_i cs vs
  obtain⟨h1,h2,h3⟩:=lw (I:=I) (ρ:=ρ) (N:=N) (w:=w) h
  exact .agg _ _ (by simpa using h1) h2 (fun i c cv hc hv=>lv h i c cv hc (by simpa using hv)) (fun i c cv hc hv=>h3 i c cv hc (by simpa using hv))
 ·exact(wu h).1
theorem ri{v:V}{cv:Value}(h:va v cv=true)(occ:Occ):ax g w occ v cv:=by
 unfold va at h
 split at h
 ·simp[ax]
 ·unfold mh at h
  split at h<;>first|(simp[ax];done)|(exact .inl ⟨by simpa using h,rfl⟩)|simp at h
theorem ER.get(h:ER g N w s.env a.tmps)(n:Nat):VRel g.I g.ρ N w (s.get n) (a.tmps.getD n undef):=by
 by_cases hn:n<s.env.length
 ·have hn':n<a.tmps.size:=by rw[←h.size];exact hn
  refine h.rel n _ _ ?_ ?_
  ·simp[St.get,List.getD,List.getElem?_eq_getElem hn]
  ·simp[Array.getD,hn',Array.getElem?_eq_getElem hn']
 ·have:s.get n=.undef:=by simp[St.get,List.getD,List.getElem?_eq_none (Nat.le_of_not_lt hn)]
  rw[this];exact .undef _
theorem ER.getOwn(h:ER g N w s.env a.tmps)(n:Nat):ax g w (.slot n) (s.get n) (a.tmps.getD n undef):=by
 by_cases hn:n<s.env.length
 ·have hn':n<a.tmps.size:=by rw[←h.size];exact hn
  refine h.own n _ _ ?_ ?_
  ·simp[St.get,List.getD,List.getElem?_eq_getElem hn]
  ·simp[Array.getD,hn',Array.getElem?_eq_getElem hn']
 ·have:s.get n=.undef:=by simp[St.get,List.getD,List.getElem?_eq_none (Nat.le_of_not_lt hn)]
  rw[this];simp[ax]
theorem aK{x:ASrc}{o:Operand}(h:aI x o=true)(e:ER g N w s.env a.tmps):VRel g.I g.ρ N w (x.ev s) (a.eval o):=by
 unfold aI at h
 split at h
 ·obtain rfl:=by simpa using h
  exact(e.get _).disown
 ·obtain rfl:=by simpa using h
  exact e.get _
 ·exact ahv h
 ·obtain rfl:=by simpa using h
  exact .fn _ [] #[] rfl (by simp)
 ·simp at h
theorem ER.set(h:ER g N w s.env a.tmps)(d:Nat){v:V}{cv:Value}(hv:VRel g.I g.ρ N w v cv)(ho:ax g w (.slot d) v cv):
  ER g N w (s.set d v).env (a.put (some d) cv).tmps:=by
 refine⟨by simp[St.set,Act.put,h.size],?_,?_⟩
 ·intro n v' cv' hn hn'
  simp only[St.set,Act.put,List.getElem?_set,Array.getElem?_setIfInBounds] at hn hn'
  by_cases e:d=n
  ·subst e
   simp only[if_true] at hn hn'
   split at hn<;>split at hn'<;>simp_all
  ·simp only[e,if_false] at hn hn'
   exact h.rel n _ _ hn hn'
 ·intro n v' cv' hn hn'
  simp only[St.set,Act.put,List.getElem?_set,Array.getElem?_setIfInBounds] at hn hn'
  by_cases e:d=n
  ·subst e
   simp only[if_true] at hn hn'
   split at hn<;>split at hn'<;>simp_all
  ·simp only[e,if_false] at hn hn'
   exact h.own n _ _ hn hn'
theorem SR.set(h:SR g s w a)(d:Nat){v:V}{cv:Value}(hv:VRel g.I g.ρ s.hp.length w v cv)(ho:ax g w (.slot d) v cv):
  SR g (s.set d v) w (a.put (some d) cv):=⟨h.hr,h.er.set d hv ho⟩
def V.bare:V→Bool
 | .sl _ .own _=>false
 | .raw _=>false
 | .ul _ _=>false
 |_=>true
theorem iI{v:V}(h:v.bare=true)(g:Gh)(w:World)(occ:Occ)(cv:Value):ax g w occ v cv:=by
 cases v with
 |sl k o xs=>cases o<;>first|simp[V.bare] at h;done|simp[ax]
 |raw n=>simp[V.bare] at h
 |ul k xs=>simp[V.bare] at h
 |_=>simp[ax]
theorem dz(v:V):(disown v).bare=true:=by
 cases v with
 |sl k o xs=>cases o<;>rfl
 |_=>rfl
theorem HR.drew{hp:List aq}(h:HR g hp w):HR g hp w.drew:=by
 refine⟨?_,h.apart,h.notI,h.notO,h.exI,h.oLt⟩
 intro id cs hid
 refine(h.obj id cs hid).keep rfl fun arr e fz h1 h2=>?_
 have u:Up g.I g.ρ hp.length w g.I g.ρ hp.length w.drew:=⟨fun _ _ h=>h,fun _ _ _=>rfl,fun _ _=>rfl,Nat.le_refl _⟩
 exact⟨h2.len,h2.plain,h2.typed,h2.cold,h2.one,fun j c cv hc hv=>(h2.rel j c cv hc hv).up u,fun j c cv hc hv=>bK (h2.own j c cv hc hv) rfl (fun b j hi=>⟨hi,rfl⟩) (fun b hb=>⟨hb,rfl,fun j hj=>hj⟩),h2.bn⟩
theorem aH{m:Oper}{d:Nat}{v:V}{cv:Value}{next:Act→World→Prop}{Q:Exit→Act→World→Prop}(h:SR g s w a)(hd:m.dst=some d)
  (hrun:(execOp a.eval m).run P w=.ok (.value cv) w) (hv:VRel g.I g.ρ s.hp.length w v cv) (hb:v.bare=true)
  (hn:bH g s w a (s.set d v) next):m.wp P a w next Q:=by
 unfold Oper.wp Oper.upon
 rw[hrun,hd]
 exact hn _ _ g (h.set d hv (iI hb _ _ _ _)) (FR.refl _ _ _) rfl
end
end Go.AM
end
noncomputable section
namespace Go.AM
set_option autoImplicit false
set_option linter.unusedSimpArgs false
set_option linter.unusedVariables false
def gm:Option ASrc→Option Operand→Bool
 |none,none=>true
 |some x,some y=>aI x y
 |_,_=>false
def abU:ASrc→Bool
 | .tk _=>false
 |_=>true
def ads(P:Program)(t:TypeId)(k:IntKind):Bool:=match P.underlying t with|some (.int k')=>decide (k=k')|_=>false
def j6(P:Program)(t:TypeId):Option Bool:=match P.underlying t with|some (.struct _)|some (.array _ _)=>some true|some _=>some false|none=>none
def dM(P:Program)(t:TypeId):Option Nat:=(P.info? t).map (·.size)
def abV(P:Program)(t:TypeId):Bool:=match dM P t with|some n=>n !=0|none=>false
def iW(P:Program):Nat:=((List.range P.types.size).find? fun t=>match P.underlying t with|some (.int .u8)=>true|_=>false).getD 0
def rq(P:Program)(e:TypeId)(k:EK):Bool:=
 (match k with| .u8=>e==iW P|_=>true)&&
 (match P.info? e with
 |some i=>i.size==k.sz&&(i.bytes==k.bytes&&(j6 P e==some k.isAgg&&(match i.zero with|some z=>fE (enc k (av k)) z.cells.toList&&(z.cells.size==k.sz)|none=>false)))
 |none=>false)
def fF(P:Program)(t:TypeId)(k:EK):Bool:=match P.underlying t with|some (.slice e)=>rq P e k|_=>false
def rj:Op→Option (Builtin×List Operand×List TypeId)
 | .call c=>match c.callee with| .builtin b=>some (b,c.args.toList,c.argTypes.toList)|_=>none
 |_=>none
theorem hJ{o:Op}{b:Builtin}{avs:List Operand}{ts:List TypeId}(h:rj o=some (b,avs,ts)):o=.call ⟨.builtin b,⟨avs⟩,⟨ts⟩⟩:=by
 unfold rj at h
 split at h
 ·rename_i c
  obtain⟨callee,⟨args⟩,⟨ats⟩⟩:=c
  simp only at h
  split at h
  ·simp only[Option.some.injEq,Prod.mk.injEq] at h
   obtain⟨rfl,rfl,rfl⟩:=h
   rfl
  ·simp at h
 ·simp at h
def aU(P:Program)(o:IOp)(m:Oper):Bool:=
 match o with
 | .pick d c x y=>(m.dst==some d)&&(match m.op with| .pick c' x' y'=>aI c c'&&(aI x x'&&aI y y')&&(abU x&&abU y)|_=>false)
 | .bin d o x y=>(m.dst==some d)&&(match m.op with| .binOp o' _ x' y' _=>decide (o=o')&&(aI x x'&&aI y y')|_=>false)
 | .un d o x=>(m.dst==some d)&&(match m.op with| .unOp o' _ x'=>decide (o=o')&&aI x x'|_=>false)
 | .cvi d k x=>(m.dst==some d)&&(match m.op with| .convert a b x'=>(P.underlying a).isSome&&(ads P b k&&aI x x')|_=>false)
 | .b2s d x=>(m.dst==some d)&&(match m.op with| .convert a b x'=>(match P.underlying a,P.underlying b with|some (.slice e),some .string=>ads P e .u8|_,_=>false)&&aI x x'|_=>false)
 | .lens d x=>(m.dst==some d)&&(match rj m.op with|some (.len,[x'],[t])=>(match P.underlying t with|some .string=>true|_=>false)&&aI x x'|_=>false)
 | .lenl d x=>(m.dst==some d)&&(match rj m.op with|some (.len,[x'],[t])=>(match P.underlying t with|some (.slice _)=>true|_=>false)&&aI x x'|_=>false)
 | .idx d x i=>(m.dst==some d)&&(match m.op with| .index t x' i'=>(match P.underlying t with|some .string=>true|_=>false)&&(aI x x'&&aI i i')|_=>false)
 | .ixa d k x i=>(m.dst==some d)&&(match m.op with| .indexAddr t x' i'=>fF P t k&&(aI x x'&&aI i i')|_=>false)
 | .subs d x lo hi=>(m.dst==some d)&&(match m.op with| .slice t x' lo' hi' none=>(match P.underlying t with|some .string=>true|_=>false)&&(aI x x'&&(gm lo lo'&&gm hi hi'))|_=>false)
 | .subl d k x lo hi=>(m.dst==some d)&&(match m.op with| .slice t x' lo' hi' none=>fF P t k&&(aI x x'&&(gm lo lo'&&gm hi hi'))|_=>false)
 | .fad d off x=>(m.dst==some d)&&(match m.op with| .fieldAddr t x' f=>(match P.underlying t with|some (.struct fs)=>(match fs[f]? with|some fd=>(fd.offset==off)&&abV P fd.type|none=>false)|_=>false)&&aI x x'|_=>false)
 | .ext d i x=>(m.dst==some d)&&(match m.op with| .extract x' i'=>i==i'&&aI x x'|_=>false)
 | .nck d x=>(m.dst==d)&&(match m.op with| .nilCheck x'=>aI x x'|_=>false)
 | .ld d n agg false x=>(m.dst==some d)&&(match m.op with| .load t x'=>(dM P t==some n)&&((j6 P t==some agg)&&((agg||n==1)&&aI x x'))|_=>false)
 | .mx d mn x y=>(m.dst==some d)&&(match rj m.op with|some (.min,[x',y'],_)=>mn&&(aI x x'&&aI y y')|some (.max,[x',y'],_)=> !mn&&(aI x x'&&aI y y')|_=>false)
 |_=>false
section
variable{w:World}{g:Gh}{s s':St}{a:Act}{P:Program}{Γ:az}{m:Oper}{next:Act→World→Prop}{Q:Exit→Act→World→Prop}
theorem dN(k:IntKind)(n:Int):k.min≤k.wrap n∧k.wrap n≤k.max:=by
 cases k<;>simp[IntKind.wrap,IntKind.min,IntKind.max,IntKind.bits,IntKind.signed]<;>omega
theorem acx(k:IntKind):k.min≤0∧0≤k.max:=by cases k<;>decide
theorem af0(x y:Int)(hx:0≤x):x%y≤x:=by
 by_cases hy:y=0
 ·subst hy;simp
 ·rcases Int.lt_or_gt_of_ne hy with h|h
  ·rw[←Int.emod_neg]
   by_cases hl:x< -y
   ·rw[Int.emod_eq_of_lt hx hl];omega
   ·have:=Int.emod_lt_of_pos x (b:=-y) (by omega);omega
  ·by_cases hl:x<y
   ·rw[Int.emod_eq_of_lt hx hl];omega
   ·have:=Int.emod_lt_of_pos x h;omega
theorem aip(k:IntKind)(x y:Int)(h:k.min≤x∧x≤k.max):k.min≤x.tmod y∧x.tmod y≤k.max:=by
 have hz:=acx k
 rcases Int.le_total 0 x with hx|hx
 ·have h1:=Int.tmod_nonneg y hx
  have h2:x.tmod y≤x:=by
   rw[Int.tmod_eq_emod_of_nonneg hx];exact af0 _ _ hx
  omega
 ·have hx':0≤-x:=by omega
  have h1:=Int.tmod_nonneg y hx'
  have h2:(-x).tmod y≤-x:=by
   rw[Int.tmod_eq_emod_of_nonneg hx'];exact af0 _ _ hx'
  rw[Int.neg_tmod] at h1 h2
  omega
theorem ajd(k:IntKind)(x:Int)(n:Nat)(h:k.min≤x∧x≤k.max):k.min≤x.fdiv (2^n)∧x.fdiv (2^n)≤k.max:=by
 have hz:=acx k
 have hp:(0:Int)<2^n:=Int.pow_pos (by omega)
 have hp':(1:Int)≤2^n:=hp
 rw[Int.fdiv_eq_ediv_of_nonneg _ (by omega)]
 generalize (2:Int)^n=p at*
 rcases Int.le_total 0 x with hx|hx
 ·have h1:=Int.ediv_nonneg hx (Int.le_of_lt hp)
  have h2:=Int.ediv_le_self p hx
  omega
 ·have h2:x / p≤0:=by
   have:=Int.ediv_le_ediv hp hx
   simpa using this
  have h1:x≤x / p:=by
   refine(Int.le_ediv_iff_mul_le hp).2 ?_
   have:=Int.mul_le_mul_of_nonpos_left hx hp'
   simpa using this
  omega
theorem akX{d:Nat}{c x y:ASrc}(hc:aU P (.pick d c x y) m=true)(hs:step Γ (.pick d c x y) s=some (true,s'))(h:SR g s w a)(hn:bH g s w a s' next):m.wp P a w next Q:=by
 obtain⟨dst,op,ty,pos,aft,gd⟩:=m
 simp only[aU,Bool.and_eq_true,beq_iff_eq] at hc
 obtain⟨rfl,hc⟩:=hc
 split at hc
 ·rename_i c' x' y'
  simp only[Bool.and_eq_true] at hc
  obtain⟨⟨h1,h2,h3⟩,h4,h5⟩:=hc
  have r1:=aK h1 h.er
  have r2:=(aK h2 h.er).disown
  have r3:=(aK h3 h.er).disown
  simp only[step] at hs
  split at hs
  ·rename_i t ht
   obtain rfl:_=s':=by simpa using hs
   rw[ajT] at hn
   rw[ht] at r1
   cases e1:a.eval c' with
   |bool b=>
    rw[e1] at r1
    cases r1
    refine aH h rfl (cv:=if t then a.eval x' else a.eval y') (by simp[execOp,e1,asBool]) ?_ (by cases t<;>exact dz _) hn
    cases t
    ·exact r3
    ·exact r2
   |_=>rw[e1] at r1;cases r1
  ·simp at hs
 ·simp at hc
theorem aln{d:Nat}{k:IntKind}{x:ASrc}(hc:aU P (.cvi d k x) m=true)(hs:step Γ (.cvi d k x) s=some (true,s'))(h:SR g s w a)(hn:bH g s w a s' next):m.wp P a w next Q:=by
 obtain⟨dst,op,ty,pos,aft,gd⟩:=m
 simp only[aU,Bool.and_eq_true,beq_iff_eq] at hc
 obtain⟨rfl,hc⟩:=hc
 split at hc
 ·rename_i t1 t2 x'
  simp only[Bool.and_eq_true] at hc
  obtain⟨h1,h2,h3⟩:=hc
  have r1:=aK h3 h.er
  simp only[step] at hs
  split at hs
  ·rename_i k' n hx
   obtain rfl:_=s':=by simpa using hs
   rw[hx] at r1
   obtain⟨d1,e1⟩:=Option.isSome_iff_exists.1 h1
   unfold ads at h2
   split at h2
   ·rename_i k2 e2
    obtain rfl:k=k2:=by simpa using h2
    generalize hcv:a.eval x'=cv at r1
    cases r1
    refine aH h rfl (cv:=.int k (k.wrap n)) ?_ (.int _ _ (dN _ _)) rfl hn
    simp only[execOp,hcv,convert]
    cases d1<;>simp[run_underlying e1,run_underlying e2,Conv.intToInt]
   ·simp at h2
  ·simp at hs
 ·simp at hc
theorem rZ(ns:List Int):∀b:ByteArray,(ns.foldl (fun(r:ByteArray) n=>r.push (UInt8.ofNat n.toNat)) b).data.toList=b.data.toList++ns.map fun n=>UInt8.ofNat n.toNat:=by
 induction ns with
 |nil=>intro b;simp
 |cons n ns ih=>intro b;rw[List.foldl_cons,ih];simp[ByteArray.push]
theorem acy(c:UInt8):IntKind.u8.min≤(c.toNat:Int)∧(c.toNat:Int)≤IntKind.u8.max:=by
 have:=c.toNat_lt
 simp[IntKind.min,IntKind.max,IntKind.signed,IntKind.bits]
 omega
theorem acz:ByteArray.empty.data.toList=[]:=rfl
theorem mi(s:ByteArray):s.data.toList.length=s.size:=by rw[Array.length_toList];rfl
theorem alo{d:Nat}{x:ASrc}(hc:aU P (.b2s d x) m=true)(hs:step Γ (.b2s d x) s=some (true,s'))(h:SR g s w a)(hn:bH g s w a s' next):m.wp P a w next Q:=by
 obtain⟨dst,op,ty,pos,aft,gd⟩:=m
 simp only[aU,Bool.and_eq_true,beq_iff_eq] at hc
 obtain⟨rfl,hc⟩:=hc
 split at hc
 ·rename_i t1 t2 x'
  simp only[Bool.and_eq_true] at hc
  obtain⟨h1,h3⟩:=hc
  have r1:=aK h3 h.er
  simp only[step] at hs
  split at hs
  ·rename_i o l hx
   obtain rfl:_=s':=by simpa using hs
   rw[hx] at r1
   split at h1
   ·rename_i e u1 u2
    unfold ads at h1
    split at h1
    ·rename_i k2 u3
     obtain rfl:IntKind.u8=k2:=by simpa using h1
     generalize hcv:a.eval x'=cv at r1
     cases r1 with
     |sln=>exact aH h rfl (cv:=.string .empty) (by simp[execOp,hcv,run_convert_bytes_string w _ _ _ _ _ _ u1 u3 u2,Conv.bytesToString]) (.str _ _ rfl (by simp[cb])) rfl hn
     |sle=>exact aH h rfl (cv:=.string .empty) (by simp[execOp,hcv,run_convert_bytes_string w _ _ _ _ _ _ u1 u3 u2,Conv.bytesToString,loadCells,loadCellsFrom]) (.str _ _ rfl (by simp[cb])) rfl hn
     |sl _ _ _ b off len cap hl hcap hm hfl f hI hw hv=>
      subst hl
      have hcells:(loadCells ⟨b,off,none⟩ l.length).run P w=.ok ((l.map fun c:UInt8=>(c.toNat:Int)).map (Value.int .u8)).toArray w:=by
       have hlen:l.length=((l.map fun c:UInt8=>(c.toNat:Int)).map (Value.int .u8)).length:=by simp
       rw[hlen]
       refine run_loadCells_list w _ _ ?_
       intro j v hj
       have hj':j<l.length:=by simpa using (List.getElem?_eq_some_iff.1 hj).1
       have hx1:l[j]? =some l[j]:=List.getElem?_eq_getElem hj'
       have q1:=hw j l[j] 0 hx1 (by simp[enc])
       have q2:=hv j l[j] 0 (.int .u8 l[j].toNat) hx1 (by simp[enc])
       simp only[EK.sz,Nat.mul_one,Nat.add_zero] at q1
       rw[Addr.add_lit,q1]
       simp only[List.map_map,List.getElem?_map,hx1,Option.map_some,Option.some.injEq,Function.comp] at hj
       subst hj
       generalize hf:f j 0=y at q2
       cases q2
       rfl
      refine aH h rfl (cv:=.string ((l.map fun c:UInt8=>(c.toNat:Int)).foldl (fun(r:ByteArray) n=>r.push (UInt8.ofNat n.toNat)) ByteArray.empty)) ?_ (.str _ _ ?_ ?_) rfl hn
      ·simp[execOp,hcv,run_convert_bytes_string w _ _ _ _ _ _ u1 u3 u2,run_bytesToString w _ _ _ _ hcells]
      ·rw[rZ,acz];simp[Function.comp_def]
      ·rw[←mi,rZ,acz];simp;omega
    ·simp at h1
   ·simp at h1
  ·simp at hs
 ·simp at hc
theorem akY{d:Nat}{x:ASrc}(hc:aU P (.lens d x) m=true)(hs:step Γ (.lens d x) s=some (true,s'))(h:SR g s w a)(hn:bH g s w a s' next):m.wp P a w next Q:=by
 obtain⟨dst,op,ty,pos,aft,gd⟩:=m
 simp only[aU,Bool.and_eq_true,beq_iff_eq] at hc
 obtain⟨rfl,hc⟩:=hc
 split at hc
 ·rename_i x' t hop
  obtain rfl:=hJ hop
  simp only[Bool.and_eq_true] at hc
  obtain⟨h1,h3⟩:=hc
  have r1:=aK h3 h.er
  simp only[step] at hs
  split at hs
  ·rename_i l hx
   obtain rfl:_=s':=by simpa using hs
   rw[hx] at r1
   split at h1
   ·rename_i u1
    generalize hcv:a.eval x'=cv at r1
    cases r1 with
    |str _ b hl hm=>
     subst hl
     refine aH h rfl (cv:=.int .i64 b.size) (by simp[execOp,resolve,hcv,invoke,builtin,Builtin.len_,run_underlying u1,goInt]) ?_ rfl hn
     rw[mi]
     exact .int _ _ (by simp[IntKind.min,IntKind.max,IntKind.signed,IntKind.bits,cb] at *;omega)
   ·simp at h1
  ·simp at hs
 ·simp at hc
theorem akZ{d:Nat}{x:ASrc}(hc:aU P (.lenl d x) m=true)(hs:step Γ (.lenl d x) s=some (true,s'))(h:SR g s w a)(hn:bH g s w a s' next):m.wp P a w next Q:=by
 obtain⟨dst,op,ty,pos,aft,gd⟩:=m
 simp only[aU,Bool.and_eq_true,beq_iff_eq] at hc
 obtain⟨rfl,hc⟩:=hc
 split at hc
 ·rename_i x' t hop
  obtain rfl:=hJ hop
  simp only[Bool.and_eq_true] at hc
  obtain⟨h1,h3⟩:=hc
  have r1:=aK h3 h.er
  simp only[step] at hs
  split at hs
  ·rename_i k o l hx
   obtain rfl:_=s':=by simpa using hs
   rw[hx] at r1
   split at h1
   ·rename_i e u1
    generalize hcv:a.eval x'=cv at r1
    cases r1 with
    |sle=>
     exact aH h rfl (cv:=.int .i64 0) (by simp[execOp,resolve,hcv,invoke,builtin,Builtin.len_,run_underlying u1,goInt]) (.int _ _ (by decide)) rfl hn
    |sln=>
     exact aH h rfl (cv:=.int .i64 0) (by simp[execOp,resolve,hcv,invoke,builtin,Builtin.len_,run_underlying u1,goInt]) (.int _ _ (by decide)) rfl hn
    |sl _ _ _ b off len cap hl hcap hm=>
     subst hl
     refine aH h rfl (cv:=.int .i64 l.length) (by simp[execOp,resolve,hcv,invoke,builtin,Builtin.len_,run_underlying u1,goInt]) ?_ rfl hn
     exact .int _ _ (by simp[IntKind.min,IntKind.max,IntKind.signed,IntKind.bits,cb] at *;omega)
   ·simp at h1
  ·simp at hs
 ·simp at hc
theorem alp{d:Nat}{x i:ASrc}(hc:aU P (.idx d x i) m=true)(hs:step Γ (.idx d x i) s=some (true,s'))(h:SR g s w a)(hn:bH g s w a s' next):m.wp P a w next Q:=by
 obtain⟨dst,op,ty,pos,aft,gd⟩:=m
 simp only[aU,Bool.and_eq_true,beq_iff_eq] at hc
 obtain⟨rfl,hc⟩:=hc
 split at hc
 ·rename_i t x' i'
  simp only[Bool.and_eq_true] at hc
  obtain⟨h1,h2,h3⟩:=hc
  have r1:=aK h2 h.er
  have r2:=aK h3 h.er
  simp only[step] at hs
  split at hs
  ·rename_i l k n hx hi
   simp only[Option.some.injEq,Prod.mk.injEq,Bool.and_eq_true,decide_eq_true_eq] at hs
   obtain⟨⟨g1,g2⟩,rfl⟩:=hs
   rw[hx] at r1
   rw[hi] at r2
   split at h1
   ·rename_i u1
    generalize hcv:a.eval x'=cv at r1
    generalize hci:a.eval i'=ci at r2
    cases r2
    cases r1 with
    |str _ b hl hm=>
     subst hl
     have hlt:n.toNat<b.size:=by rw[mi] at g2;omega
     have hget:b[n.toNat]? =some (b.data.toList.getD n.toNat 0):=by
      rw[getElem?_pos b n.toNat hlt]
      have:n.toNat<b.data.toList.length:=by rw[mi];exact hlt
      simp only[List.getD,List.getElem?_eq_getElem this,Option.getD_some]
      rfl
     refine aH h rfl (cv:=.int .u8 (b.data.toList.getD n.toNat 0).toNat) ?_ ?_ rfl hn
     ·simp[execOp,hcv,hci,Instr.index,asIntOf,run_underlying u1,g1,hget]
     ·exact .int _ _ (acy _)
   ·simp at h1
  ·simp at hs
 ·simp at hc
theorem al3{d:Nat}{o:UnOp}{x:ASrc}(hc:aU P (.un d o x) m=true)(hs:step Γ (.un d o x) s=some (true,s'))(h:SR g s w a)(hn:bH g s w a s' next):m.wp P a w next Q:=by
 obtain⟨dst,op,ty,pos,aft,gd⟩:=m
 simp only[aU,Bool.and_eq_true,beq_iff_eq] at hc
 obtain⟨rfl,hc⟩:=hc
 split at hc
 ·rename_i o' t x'
  simp only[Bool.and_eq_true,decide_eq_true_eq] at hc
  obtain⟨rfl,h3⟩:=hc
  have r1:=aK h3 h.er
  simp only[step,Option.map_eq_some_iff] at hs
  obtain⟨v,hv,hs⟩:=hs
  obtain rfl:_=s':=by simpa using hs
  generalize hcv:a.eval x'=cv at r1
  unfold unV at hv
  split at hv
  ·rename_i b hx
   cases Option.some.inj hv
   rw[hx] at r1
   cases r1
   exact aH h rfl (cv:=.bool (!b)) (by simp[execOp,hcv,Op.unary]) (.bool _) rfl hn
  ·rename_i k n hx
   cases Option.some.inj hv
   rw[hx] at r1
   cases r1
   exact aH h rfl (cv:=.int k (k.wrap (0-n))) (by simp[execOp,hcv,Op.unary,Op.intArith]) (.int _ _ (dN _ _)) rfl hn
  ·rename_i k n hx
   cases Option.some.inj hv
   rw[hx] at r1
   cases r1
   exact aH h rfl (cv:=.int k (cl .xor k (if k.signed then -1 else k.max) n)) (by simp[execOp,hcv,Op.unary,Op.intBits,cl]) (.int _ _ (dN _ _)) rfl hn
  ·simp at hv
 ·simp at hc
theorem aiq{o:BinOp}{k:IntKind}{x y:Int}{v:V}(hk:afY o k x y=some (true,v))(hx:k.min≤x∧x≤k.max):
  ∃cv,(∀w:World,(if o=.add∨o=.sub∨o=.mul then Op.intArith o k x y else if o=.quo∨o=.rem then Op.intDiv o k x y else if o=.and∨o=.or∨o=.xor∨o=.andNot then Op.intBits o k x y else Op.intCmp o x y).run P w=.ok cv w)
   ∧(∀I ρ N w,VRel I ρ N w v cv)∧v.bare=true:=by
 unfold afY at hk
 split at hk<;>(try simp only[Option.some.injEq,Prod.mk.injEq,true_and,Bool.not_eq_true',beq_eq_false_iff_ne] at hk)<;>(try (obtain⟨hne,hk⟩:=hk))<;>(try subst hk)
 ·exact⟨.int k (k.wrap (x+y)),fun w=>by simp[Op.intArith],fun _ _ _ _=>.int _ _ (dN _ _),rfl⟩
 ·exact⟨.int k (k.wrap (x-y)),fun w=>by simp[Op.intArith],fun _ _ _ _=>.int _ _ (dN _ _),rfl⟩
 ·exact⟨.int k (k.wrap (x*y)),fun w=>by simp[Op.intArith],fun _ _ _ _=>.int _ _ (dN _ _),rfl⟩
 ·exact⟨.int k (k.wrap (x.tdiv y)),fun w=>by simp[Op.intDiv,hne],fun _ _ _ _=>.int _ _ (dN _ _),rfl⟩
 ·exact⟨.int k (x.tmod y),fun w=>by simp[Op.intDiv,hne],fun _ _ _ _=>.int _ _ (aip _ _ _ hx),rfl⟩
 ·exact⟨.int k (cl .and k x y),fun w=>by simp[Op.intBits,cl],fun _ _ _ _=>.int _ _ (dN _ _),rfl⟩
 ·exact⟨.int k (cl .or k x y),fun w=>by simp[Op.intBits,cl],fun _ _ _ _=>.int _ _ (dN _ _),rfl⟩
 ·exact⟨.int k (cl .xor k x y),fun w=>by simp[Op.intBits,cl],fun _ _ _ _=>.int _ _ (dN _ _),rfl⟩
 ·exact⟨.int k (cl .andNot k x y),fun w=>by simp[Op.intBits,cl],fun _ _ _ _=>.int _ _ (dN _ _),rfl⟩
 ·exact⟨.bool (x==y),fun w=>by simp[Op.intCmp],fun _ _ _ _=>.bool _,rfl⟩
 ·exact⟨.bool (!(x==y)),fun w=>by simp[Op.intCmp,bne],fun _ _ _ _=>.bool _,rfl⟩
 ·exact⟨.bool (decide (x<y)),fun w=>by simp[Op.intCmp],fun _ _ _ _=>.bool _,rfl⟩
 ·exact⟨.bool (decide (x≤y)),fun w=>by simp[Op.intCmp],fun _ _ _ _=>.bool _,rfl⟩
 ·exact⟨.bool (decide (y<x)),fun w=>by simp[Op.intCmp],fun _ _ _ _=>.bool _,rfl⟩
 ·exact⟨.bool (decide (y≤x)),fun w=>by simp[Op.intCmp],fun _ _ _ _=>.bool _,rfl⟩
theorem lz(s:ByteArray):s.toList=s.data.toList:=ByteArray.toList_eq s
theorem air(x y:List UInt8):(x==y)=decide (x=y):=by
 rw[Bool.eq_iff_iff];simp
theorem ais{o:BinOp}{x y:ByteArray}{v:V}(hk:afZ o x.data.toList y.data.toList=some (true,v)):
  ∃cv,(∀w:World,(Op.stringOp o x y).run P w=.ok cv w)∧(∀I ρ N w,VRel I ρ N w v cv)∧v.bare=true:=by
 unfold afZ at hk
 split at hk<;>(try simp only[Option.some.injEq,Prod.mk.injEq,true_and,decide_eq_true_eq,mi] at hk)
 ·obtain⟨hle,rfl⟩:=hk
  refine⟨.string (x++y),fun w=>?_,fun _ _ _ _=>.str _ _ (by simp) (by simpa [ByteArray.size_append] using hle),rfl⟩
  have:¬(9223372036854775807<(x.size:Int)+(y.size:Int)):=by unfold cb at hle;omega
  simp[Op.stringOp,IntKind.max,IntKind.signed,IntKind.bits,this]
 ·subst hk;exact⟨.bool (decide (x.data.toList=y.data.toList)),fun w=>by simp only[Op.stringOp,lz,air];rfl,fun _ _ _ _=>.bool _,rfl⟩
 ·subst hk;exact⟨.bool (!decide (x.data.toList=y.data.toList)),fun w=>by simp only[Op.stringOp,lz,air];rfl,fun _ _ _ _=>.bool _,rfl⟩
 ·subst hk;exact⟨.bool (Op.bytesLess x.data.toList y.data.toList),fun w=>by simp[Op.stringOp,lz],fun _ _ _ _=>.bool _,rfl⟩
 ·subst hk;exact⟨.bool (Op.bytesLess x.data.toList y.data.toList||decide (x.data.toList=y.data.toList)),fun w=>by simp only[Op.stringOp,lz,air];rfl,fun _ _ _ _=>.bool _,rfl⟩
 ·subst hk;exact⟨.bool (!(Op.bytesLess x.data.toList y.data.toList||decide (x.data.toList=y.data.toList))),fun w=>by simp only[Op.stringOp,lz,air];rfl,fun _ _ _ _=>.bool _,rfl⟩
 ·subst hk;exact⟨.bool (!Op.bytesLess x.data.toList y.data.toList),fun w=>by simp[Op.stringOp,lz],fun _ _ _ _=>.bool _,rfl⟩
 ·simp at hk
end
end Go.AM
end
noncomputable section
namespace Go.AM
set_option autoImplicit false
set_option linter.unusedSimpArgs false
set_option linter.unusedVariables false
section
variable{w:World}{g:Gh}{s s':St}{a:Act}{P:Program}{Γ:az}{m:Oper}{next:Act→World→Prop}{Q:Exit→Act→World→Prop}
theorem aer{k k':IntKind}{x y:Int}(hy:0≤y)(hx:k.min≤x∧x≤k.max):
  (∀w:World,(Op.shift .shl k x k' y).run P w=.ok (.int k (adq k x y)) w)∧(∀w:World,(Op.shift .shr k x k' y).run P w=.ok (.int k (pn k x y)) w)
   ∧(∀I ρ N w,VRel I ρ N w (.int k (adq k x y)) (.int k (adq k x y)))∧(∀I ρ N w,VRel I ρ N w (.int k (pn k x y)) (.int k (pn k x y))):=by
 have hn:¬y<0:=by omega
 exact⟨fun w=>by simp[Op.shift,hn,adq],fun w=>by simp[Op.shift,hn,pn],fun _ _ _ _=>.int _ _ (dN _ _),fun _ _ _ _=>.int _ _ (ajd _ _ _ hx)⟩
theorem alq{d:Nat}{o:BinOp}{x y:ASrc}(hc:aU P (.bin d o x y) m=true)(hs:step Γ (.bin d o x y) s=some (true,s'))(h:SR g s w a)(hn:bH g s w a s' next):m.wp P a w next Q:=by
 obtain⟨dst,op,ty,pos,aft,gd⟩:=m
 simp only[aU,Bool.and_eq_true,beq_iff_eq] at hc
 obtain⟨rfl,hc⟩:=hc
 split at hc
 ·rename_i o' t x' y' t'
  simp only[Bool.and_eq_true,decide_eq_true_eq] at hc
  obtain⟨rfl,h1,h2⟩:=hc
  have r1:=aK h1 h.er
  have r2:=aK h2 h.er
  simp only[step,Option.map_eq_some_iff] at hs
  obtain⟨⟨c,v⟩,hv,hs⟩:=hs
  simp only[Prod.mk.injEq] at hs
  obtain⟨rfl,rfl⟩:=hs
  generalize hcx:a.eval x'=cx at r1
  generalize hcy:a.eval y'=cy at r2
  unfold ajS at hv
  split at hv
  ·rename_i k p k' q hx hy
   rw[hx] at r1
   rw[hy] at r2
   cases r1 with
   |int _ _ hp=>
   cases r2 with
   |int _ _ hq=>
   split at hv
   ·simp only[Option.some.injEq,Prod.mk.injEq,decide_eq_true_eq] at hv
    obtain⟨hq0,rfl⟩:=hv
    obtain⟨e1,e2,e3,e4⟩:=aer (P:=P) (k':=k') hq0 hp
    refine aH h rfl (cv:=.int k (adq k p q)) ?_ (e3 _ _ _ _) rfl hn
    simp[execOp,hcx,hcy,eqGuard,binOp,e1]
   ·simp only[Option.some.injEq,Prod.mk.injEq,decide_eq_true_eq] at hv
    obtain⟨hq0,rfl⟩:=hv
    obtain⟨e1,e2,e3,e4⟩:=aer (P:=P) (k':=k') hq0 hp
    refine aH h rfl (cv:=.int k (pn k p q)) ?_ (e4 _ _ _ _) rfl hn
    simp[execOp,hcx,hcy,eqGuard,binOp,e2]
   ·rename_i hs1 hs2
    split at hv
    ·rename_i hk
     subst hk
     obtain⟨cv,f1,f2,f3⟩:=aiq (P:=P) hv hp
     have f1:=f1 w
     refine aH h rfl (cv:=cv) ?_ (f2 _ _ _ _) f3 hn
     cases o<;>simp_all [execOp,eqGuard,binOp]
    ·simp at hv
  ·rename_i p q hx hy
   rw[hx] at r1
   rw[hy] at r2
   cases r1 with
   |str _ sx hlx hmx=>
   cases r2 with
   |str _ sy hly hmy=>
   subst hlx hly
   obtain⟨cv,f1,f2,f3⟩:=ais (P:=P) hv
   have f1:=f1 w
   refine aH h rfl (cv:=cv) ?_ (f2 _ _ _ _) f3 hn
   cases o<;>simp_all [execOp,eqGuard,binOp]
  ·simp at hv
 ·simp at hc
theorem d8{e:TypeId}{k:EK}(h:rq P e k=true):∃i z,P.info? e=some i∧i.size=k.sz∧i.bytes=k.bytes∧i.zero=some z∧j6 P e=some k.isAgg∧
  fE (enc k (av k)) z.cells.toList=true∧z.cells.size=k.sz:=by
 unfold rq at h
 rw[Bool.and_eq_true] at h
 obtain⟨-,h⟩:=h
 split at h
 ·rename_i i hi
  simp only[Bool.and_eq_true,beq_iff_eq] at h
  obtain⟨h1,h2,h3,h4⟩:=h
  split at h4
  ·rename_i z hz
   simp only[Bool.and_eq_true,beq_iff_eq] at h4
   exact⟨i,z,hi,h1,h2,hz,h3,h4.1,h4.2⟩
  ·simp at h4
 ·simp at h
theorem rk{e:TypeId}{k:EK}(h:rq P e k=true)(hk:k=.u8):e=iW P:=by
 subst hk
 unfold rq at h
 rw[Bool.and_eq_true] at h
 simpa using h.1
theorem b9{t:TypeId}{k:EK}(h:fF P t k=true):∃e,P.underlying t=some (.slice e)∧rq P e k=true:=by
 unfold fF at h
 split at h
 ·rename_i e he
  exact⟨e,he,h⟩
 ·simp at h
theorem mj{t:TypeId}{n:Nat}(h:dM P t=some n)(w:World):(sizeOf t).run P w=.ok n w:=by
 unfold dM at h
 obtain⟨i,hi,rfl⟩:=Option.map_eq_some_iff.1 h
 simp[sizeOf,typeInfo,hi]
theorem wv{t:TypeId}{b:Bool}(h:j6 P t=some b)(w:World):(isAgg t).run P w=.ok b w:=by
 unfold j6 at h
 split at h
 ·rename_i f e
  obtain rfl:=Option.some.inj h
  simp[isAgg,run_underlying e]
 ·rename_i f c e
  obtain rfl:=Option.some.inj h
  simp[isAgg,run_underlying e]
 ·rename_i d h1 h2 e
  obtain rfl:=Option.some.inj h
  cases d<;>simp_all [isAgg,run_underlying e]
 ·simp at h
theorem als{d:Nat}{k:EK}{x i:ASrc}(hc:aU P (.ixa d k x i) m=true)(hs:step Γ (.ixa d k x i) s=some (true,s'))(h:SR g s w a)(hn:bH g s w a s' next):m.wp P a w next Q:=by
 obtain⟨dst,op,ty,pos,aft,gd⟩:=m
 simp only[aU,Bool.and_eq_true,beq_iff_eq] at hc
 obtain⟨rfl,hc⟩:=hc
 split at hc
 ·rename_i t x' i'
  simp only[Bool.and_eq_true] at hc
  obtain⟨h1,h2,h3⟩:=hc
  have r1:=aK h2 h.er
  have r2:=aK h3 h.er
  simp only[step] at hs
  split at hs
  ·rename_i k' o l ki n hx hi
   split at hs
   ·rename_i hk
    subst hk
    simp only[Option.some.injEq,Prod.mk.injEq,Bool.and_eq_true,decide_eq_true_eq] at hs
    obtain⟨⟨g1,g2⟩,rfl⟩:=hs
    rw[hx] at r1
    rw[hi] at r2
    obtain⟨e,u1,h1⟩:=b9 h1
    obtain⟨inf,z,i1,i2,i3,i4,i5,_⟩:=d8 h1
    generalize hcv:a.eval x'=cv at r1
    generalize hci:a.eval i'=ci at r2
    cases r2
    cases r1 with
    |sln=>simp at g2;omega
    |sle=>simp at g2;omega
    |sl _ _ _ b off len cap hl hcap hm hfl f hI hw hv=>
     subst hl
     have hlt:n.toNat<l.length:=by omega
     have hx1:l[n.toNat]? =some l[n.toNat]:=List.getElem?_eq_getElem hlt
     have hd:l.getD n.toNat (av k')=l[n.toNat]:=by simp[List.getD,hx1]
     have hsz:∀w':World,(sizeOf e).run P w'=.ok k'.sz w':=fun w'=>by simp[sizeOf,typeInfo,i1,i2]
     refine aH h rfl (cv:=.pointer (some ⟨b,off+n.toNat*k'.sz,none⟩)) ?_ ?_ rfl hn
     ·simp[execOp,hcv,hci,Instr.indexAt,asIntOf,run_underlying u1,g1,g2,hsz,Addr.add_lit]
     ·rw[hd]
      exact .ea _ _ _ (f n.toNat) (qM _ _) (fun j hj=>hI _ _ _ hx1 hj) (fun j hj=>hw _ _ _ hx1 hj) (fun j c hj=>hv _ _ _ _ hx1 hj)
   ·simp at hs
  ·simp at hs
 ·simp at hc
theorem ol{v:Value}{k:IntKind}{n:Int}{y:Nat}{code:BoundsCode}(h0:0≤n)(h1:n≤y)(w:World):(Instr.sliceBound (.int k n) y code).run P w=.ok n.toNat w:=by
 simp[Instr.sliceBound,asIntOf,h0,h1]
theorem sO{len cap:Nat}{isS:Bool}{lo hi:Option ASrc}{lo' hi':Option Operand}{p q:Nat}(hle:len≤cap)(h1:gm lo lo'=true)(h2:gm hi hi'=true)
  (he:rN len (cR s lo) (cR s hi)=some (true,p,q)) (h:SR g s w a):
  (Instr.sliceBounds isS len cap (lo'.map a.eval) (hi'.map a.eval) none).run P w=.ok (p,q,cap) w∧p≤q∧q≤len:=by
 have hlo:∀(x:ASrc)(y:Operand)(k:IntKind)(n:Int),aI x y=true→x.ev s=.int k n→a.eval y=.int k n:=by
  intro x y k n hxy hx
  have r:=aK hxy h.er
  rw[hx] at r
  generalize hcv:a.eval y=cv at r
  cases r
  rfl
 cases lo with
 |none=>
  cases lo' with
  |some _=>simp[gm] at h1
  |none=>
  cases hi with
  |none=>
   cases hi' with
   |some _=>simp[gm] at h2
   |none=>
   simp only[cR,rN,Option.some.injEq,Prod.mk.injEq,true_and] at he
   obtain⟨rfl,rfl⟩:=he
   refine⟨by simp[Instr.sliceBounds],by omega,by omega⟩
  |some y=>
   cases hi' with
   |none=>simp[gm] at h2
   |some y'=>
   simp only[gm] at h2
   simp only[cR] at he
   cases hy:y.ev s<;>rw[hy] at he<;>simp[rN] at he
   rename_i k n
   obtain⟨⟨e1,e2⟩,rfl,rfl⟩:=he
   have:=hlo _ _ _ _ h2 hy
   refine⟨?_,by omega,by omega⟩
   simp[Instr.sliceBounds,this,ol (P:=P) (v:=.int k n) e1 (show n≤(cap:Int) by omega)]
 |some x=>
  cases lo' with
  |none=>simp[gm] at h1
  |some x'=>
  simp only[gm] at h1
  cases hi with
  |none=>
   cases hi' with
   |some _=>simp[gm] at h2
   |none=>
   simp only[cR] at he
   cases hx:x.ev s<;>rw[hx] at he<;>simp[rN] at he
   rename_i k n
   obtain⟨⟨e1,e2⟩,rfl,rfl⟩:=he
   have:=hlo _ _ _ _ h1 hx
   refine⟨?_,by omega,by omega⟩
   simp[Instr.sliceBounds,this,ol (P:=P) (v:=.int k n) e1 e2]
  |some y=>
   cases hi' with
   |none=>simp[gm] at h2
   |some y'=>
   simp only[gm] at h2
   simp only[cR] at he
   cases hx:x.ev s<;>rw[hx] at he<;>cases hy:y.ev s<;>rw[hy] at he<;>simp[rN] at he
   rename_i k n k2 n2
   obtain⟨⟨⟨e1,e2⟩,e3,e4⟩,rfl,rfl⟩:=he
   have q1:=hlo _ _ _ _ h1 hx
   have q2:=hlo _ _ _ _ h2 hy
   refine⟨?_,by omega,by omega⟩
   simp[Instr.sliceBounds,q1,q2,ol (P:=P) (v:=.int k2 n2) e1 (show n2≤(cap:Int) by omega),ol (P:=P) (v:=.int k n) e3 (show n≤(n2.toNat:Int) by omega)]
theorem ak0{d:Nat}{x:ASrc}{lo hi:Option ASrc}(hc:aU P (.subs d x lo hi) m=true)(hs:step Γ (.subs d x lo hi) s=some (true,s'))(h:SR g s w a)(hn:bH g s w a s' next):m.wp P a w next Q:=by
 obtain⟨dst,op,ty,pos,aft,gd⟩:=m
 simp only[aU,Bool.and_eq_true,beq_iff_eq] at hc
 obtain⟨rfl,hc⟩:=hc
 split at hc
 ·rename_i t x' lo' hi'
  simp only[Bool.and_eq_true] at hc
  obtain⟨h1,h2,h3,h4⟩:=hc
  have r1:=aK h2 h.er
  simp only[step] at hs
  split at hs
  ·rename_i l hx
   simp only[Option.map_eq_some_iff] at hs
   obtain⟨⟨c,p,q⟩,hv,hs⟩:=hs
   simp only[Prod.mk.injEq] at hs
   obtain⟨rfl,rfl⟩:=hs
   rw[hx] at r1
   split at h1
   ·rename_i u1
    generalize hcv:a.eval x'=cv at r1
    cases r1 with
    |str _ b hl hm=>
     subst hl
     rw[mi] at hv
     obtain⟨e1,e2,e3⟩:=sO (P:=P) (isS:=false) (Nat.le_refl _) h3 h4 hv h
     refine aH h rfl (cv:=.string (b.extract p q)) ?_ (.str _ _ ?_ ?_) rfl hn
     ·simp[execOp,hcv,Instr.sliceAt,Instr.slice,run_underlying u1,e1]
     ·simp[List.extract_eq_take_drop,List.drop_take]
     ·simp[ByteArray.size_extract];omega
   ·simp at h1
  ·simp at hs
 ·simp at hc
theorem ak1{d:Nat}{k:EK}{x:ASrc}{lo hi:Option ASrc}(hc:aU P (.subl d k x lo hi) m=true)(hs:step Γ (.subl d k x lo hi) s=some (true,s'))(h:SR g s w a)(hn:bH g s w a s' next):m.wp P a w next Q:=by
 obtain⟨dst,op,ty,pos,aft,gd⟩:=m
 simp only[aU,Bool.and_eq_true,beq_iff_eq] at hc
 obtain⟨rfl,hc⟩:=hc
 split at hc
 ·rename_i t x' lo' hi'
  simp only[Bool.and_eq_true] at hc
  obtain⟨h1,h2,h3,h4⟩:=hc
  have r1:=aK h2 h.er
  simp only[step] at hs
  split at hs
  ·rename_i k' o l hx
   split at hs
   ·rename_i hk
    subst hk
    simp only[Option.map_eq_some_iff] at hs
    obtain⟨⟨c,p,q⟩,hv,hs⟩:=hs
    simp only[Prod.mk.injEq] at hs
    obtain⟨rfl,rfl⟩:=hs
    rw[hx] at r1
    obtain⟨e,u1,h1⟩:=b9 h1
    obtain⟨inf,z,i1,i2,i3,i4,i5,_⟩:=d8 h1
    have hsz:∀w':World,(sizeOf e).run P w'=.ok k'.sz w':=fun w'=>by simp[sizeOf,typeInfo,i1,i2]
    generalize hcv:a.eval x'=cv at r1
    cases r1 with
    |sln=>
     obtain⟨e1,e2,e3⟩:=sO (P:=P) (isS:=true) (Nat.le_refl _) h3 h4 hv h
     simp only[List.length_nil] at e1 e3
     obtain rfl:q=0:=by omega
     obtain rfl:p=0:=by omega
     refine aH h rfl (cv:=.slice none 0 0) ?_ ?_ rfl hn
     ·simp[execOp,hcv,Instr.sliceAt,Instr.slice,run_underlying u1,e1,hsz]
     ·simpa using VRel.sln (I:=g.I) (ρ:=g.ρ) (N:=s.hp.length) (w:=w) k' (.may false)
    |sle _ _ ad _=>
     obtain⟨e1,e2,e3⟩:=sO (P:=P) (isS:=true) (Nat.le_refl _) h3 h4 hv h
     simp only[List.length_nil] at e1 e3
     obtain rfl:q=0:=by omega
     obtain rfl:p=0:=by omega
     refine aH h rfl (cv:=.slice (some ad) 0 0) ?_ ?_ rfl hn
     ·simp[execOp,hcv,Instr.sliceAt,Instr.slice,run_underlying u1,e1,hsz]
     ·simpa using VRel.sle (I:=g.I) (ρ:=g.ρ) (N:=s.hp.length) (w:=w) k' (.may false) ad (by simp)
    |sl _ _ _ b off len cap hl hcap hm hfl f hI hw hv'=>
     subst hl
     obtain⟨e1,e2,e3⟩:=sO (P:=P) (isS:=true) hcap h3 h4 hv h
     by_cases hcp:cap=p
     ·subst hcp
      have hq:q=cap:=by omega
      subst hq
      have hnil:(l.take q).drop q=[]:=by simp
      refine aH h rfl (cv:=.slice (some ⟨b,off,none⟩) 0 0) ?_ ?_ rfl hn
      ·simp[execOp,hcv,Instr.sliceAt,Instr.slice,run_underlying u1,e1,hsz]
      ·rw[hnil]
       exact .sl k' (.may false) [] b off 0 0 rfl (by simp) (by simp[cb]) (by simp) f (fun i x j hi=>by simp at hi) (fun i x j hi=>by simp at hi) (fun i x j v hi=>by simp at hi)
     ·refine aH h rfl (cv:=.slice (some ⟨b,off+p*k'.sz,none⟩) (q-p) (cap-p)) ?_ ?_ rfl hn
      ·simp[execOp,hcv,Instr.sliceAt,Instr.slice,run_underlying u1,e1,hsz,hcp,Addr.add_lit]
      ·have hget:∀(i:Nat) y,((l.take q).drop p)[i]? =some y→l[p+i]? =some y:=by
        intro i y hy
        simp only[List.getElem?_drop,List.getElem?_take] at hy
        split at hy
        ·exact hy
        ·simp at hy
       refine .sl k' (.may false) _ b _ _ _ ?_ ?_ (by omega) (by simp) (fun i j=>f (p+i) j) ?_ ?_ ?_
       ·simp;omega
       ·simp;omega
       ·intro i y j hy hj
        have:=hI _ _ _ (hget i y hy) hj
        rwa [show off+p*k'.sz+i*k'.sz+j=off+(p+i)*k'.sz+j by rw[Nat.add_mul];omega]
       ·intro i y j hy hj
        have:=hw _ _ _ (hget i y hy) hj
        rwa [show off+p*k'.sz+i*k'.sz+j=off+(p+i)*k'.sz+j by rw[Nat.add_mul];omega]
       ·intro i y j v hy hj
        exact hv' _ _ _ _ (hget i y hy) hj
   ·simp at hs
  ·simp at hs
 ·simp at hc
theorem alt{d off:Nat}{x:ASrc}(hc:aU P (.fad d off x) m=true)(hs:step Γ (.fad d off x) s=some (true,s'))(h:SR g s w a)(hn:bH g s w a s' next):m.wp P a w next Q:=by
 obtain⟨dst,op,ty,pos,aft,gd⟩:=m
 simp only[aU,Bool.and_eq_true,beq_iff_eq] at hc
 obtain⟨rfl,hc⟩:=hc
 split at hc
 ·rename_i t x' fi
  simp only[Bool.and_eq_true] at hc
  obtain⟨h1,h2⟩:=hc
  have r1:=aK h2 h.er
  split at h1
  ·rename_i fs u1
   split at h1
   ·rename_i fd hfd
    simp only[Bool.and_eq_true,beq_iff_eq] at h1
    obtain⟨h0,h1⟩:=h1
    have hsz:∀w':World,∃n,n≠0∧(sizeOf fd.type).run P w'=.ok n w':=by
     intro w'
     unfold abV dM at h1
     split at h1
     ·rename_i n hn'
      exact⟨n,by simpa using h1,mj (by simpa [dM] using hn') w'⟩
     ·simp at h1
    obtain⟨n,hn0,hsz⟩:=hsz w
    have hfield:∀b o,(Instr.fieldAt t (.pointer (some ⟨b,o,none⟩)) fi).run P w=.ok (.pointer (some ⟨b,o+off,none⟩)) w:=by
     intro b o
     simp[Instr.fieldAt,run_underlying u1,hfd,Instr.sureAddr,fieldPlace,hsz,hn0,h0,Addr.add_lit]
    simp only[step] at hs
    split at hs
    ·rename_i cs hx
     obtain rfl:_=s':=by simpa using hs
     rw[hx] at r1
     generalize hcv:a.eval x'=cv at r1
     cases r1 with
     |ea _ b o f e1 hI hw hv=>
      refine aH h rfl (cv:=.pointer (some ⟨b,o+off,none⟩)) (by simp[execOp,hcv,hfield]) ?_ rfl hn
      refine .ea _ _ _ (fun j=>f (off+j)) (fun c hcm=>e1 c (List.mem_of_mem_drop hcm)) ?_ ?_ ?_
      ·intro j hj
       simp only[List.length_drop] at hj
       have:=hI (off+j) (by omega)
       rwa [Nat.add_assoc]
      ·intro j hj
       simp only[List.length_drop] at hj
       have:=hw (off+j) (by omega)
       rwa [Nat.add_assoc]
      ·intro j c hj
       rw[List.getElem?_drop] at hj
       exact hv _ _ hj
    ·rename_i id o hx
     obtain rfl:_=s':=by simpa using hs
     rw[hx] at r1
     generalize hcv:a.eval x'=cv at r1
     cases r1 with
     |ptr _ _ hid=>
      exact aH h rfl (cv:=.pointer (some ⟨g.ρ id,o+off,none⟩)) (by simp[execOp,hcv,hfield]) (.ptr _ _ hid) rfl hn
    ·simp at hs
   ·simp at h1
  ·simp at h1
 ·simp at hc
theorem pr{I:Nat→Nat→Prop}{ρ:Nat→Nat}{N:Nat}{agg:Bool}{cs:List V}{vs:List Value}(h1:∀c∈cs,c.one=true)(hl:cs.length=vs.length)(hg:agg=true∨cs.length=1)
  (hv:∀(i:Nat) c cv,cs[i]? =some c→vs[i]? =some cv→VRel I ρ N w c cv):VRel I ρ N w (loaded agg cs) (if agg then .agg vs.toArray else vs.headD undef):=by
 cases agg with
 |true=>
  simp only[loaded,if_true]
  refine .agg _ _ (by simpa using hl) ?_ ?_ ?_
  ·intro c hc
   obtain⟨c',hc',rfl⟩:=List.mem_map.1 hc
   rw[kG];exact h1 c' hc'
  ·intro i c cv hc _
   rw[List.getElem?_map,Option.map_eq_some_iff] at hc
   obtain⟨c',_,rfl⟩:=hc
   exact wt c' cv
  ·intro i c cv hc hcv
   rw[List.getElem?_map,Option.map_eq_some_iff] at hc
   obtain⟨c',hc',rfl⟩:=hc
   exact(hv i _ _ hc' (by simpa using hcv)).disown
 |false=>
  have hg:cs.length=1:=by simpa using hg
  match cs,vs,hl,hg with
  | [c],[v],_,_=>exact hv 0 c v rfl rfl
theorem alu{d i:Nat}{x:ASrc}(hc:aU P (.ext d i x) m=true)(hs:step Γ (.ext d i x) s=some (true,s'))(h:SR g s w a)(hn:bH g s w a s' next):m.wp P a w next Q:=by
 obtain⟨dst,op,ty,pos,aft,gd⟩:=m
 simp only[aU,Bool.and_eq_true,beq_iff_eq] at hc
 obtain⟨rfl,hc⟩:=hc
 split at hc
 ·rename_i x' i'
  simp only[Bool.and_eq_true,beq_iff_eq] at hc
  obtain⟨rfl,h2⟩:=hc
  have r1:=aK h2 h.er
  simp only[step] at hs
  split at hs
  ·rename_i vs hx
   split at hs
   ·rename_i hlt
    obtain rfl:_=s':=by simpa using hs
    rw[hx] at r1
    generalize hcv:a.eval x'=cv at r1
    cases r1 with
    |tup _ cvs hl hv=>
     have h1:vs[i]? =some vs[i]:=List.getElem?_eq_getElem hlt
     have hlt':i<cvs.size:=by omega
     have h2:cvs[i]? =some cvs[i]:=Array.getElem?_eq_getElem hlt'
     have e:vs[i]?.getD V.undef=vs[i]:=by simp[h1]
     refine aH h rfl (cv:=cvs[i]) (by simp[execOp,hcv,Instr.extract,h2]) ?_ (dz _) hn
     rw[e]
     exact(hv _ _ _ h1 h2).disown
   ·simp at hs
  ·simp at hs
 ·simp at hc
theorem alv{d:Option Nat}{x:ASrc}(hc:aU P (.nck d x) m=true)(hs:step Γ (.nck d x) s=some (true,s'))(h:SR g s w a)(hn:bH g s w a s' next):m.wp P a w next Q:=by
 obtain⟨dst,op,ty,pos,aft,gd⟩:=m
 simp only[aU,Bool.and_eq_true,beq_iff_eq] at hc
 obtain⟨rfl,hc⟩:=hc
 split at hc
 ·rename_i x'
  have r1:=aK hc h.er
  have key:∀v cv,VRel g.I g.ρ s.hp.length w v cv→v.bare=true→(execOp a.eval ⟨dst,.nilCheck x',ty,pos,aft,gd⟩).run P w=.ok (.value cv) w→bH g s w a (s.setO dst v) next→(⟨dst,.nilCheck x',ty,pos,aft,gd⟩:Oper).wp P a w next Q:=by
   intro v cv hv hb hr hg
   cases dst with
   |some d=>exact aH h rfl hr hv hb hg
   |none=>
    unfold Oper.wp Oper.upon
    rw[hr]
    exact hg _ _ g h (FR.refl _ _ _) rfl
  simp only[step] at hs
  split at hs
  ·rename_i id o hx
   obtain rfl:_=s':=by simpa using hs
   rw[hx] at r1
   generalize hcv:a.eval x'=cv at r1
   have r1':=r1
   cases r1
   exact key _ _ r1' rfl (by simp[execOp,hcv]) hn
  ·rename_i cs hx
   obtain rfl:_=s':=by simpa using hs
   rw[hx] at r1
   generalize hcv:a.eval x'=cv at r1
   have r1':=r1
   cases r1
   exact key _ _ r1' rfl (by simp[execOp,hcv]) hn
  ·simp at hs
 ·simp at hc
theorem ml{t:TypeId}{n:Nat}{agg:Bool}{b o:Nat}{vs:List Value}(hsz:dM P t=some n)(hag:j6 P t=some agg)(hg:agg=true∨n=1)(hl:vs.length=n)
  (hw:∀(j:Nat) v,vs[j]? =some v→w.cell? ⟨b,o+j,none⟩=some v):
  (Instr.loadAt t (.pointer (some ⟨b,o,none⟩))).run P w=.ok (if agg then .agg vs.toArray else vs.headD undef) w:=by
 cases agg with
 |true=>
  have:=run_loadCells_list (P:=P) w ⟨b,o,none⟩ vs (fun j v hj=>by rw[Addr.add_lit];exact hw j v hj)
  rw[hl] at this
  simp[Instr.loadAt,Instr.sureAddr,loadVar,wv hag,mj hsz,this]
 |false=>
  have hg:n=1:=by simpa using hg
  subst hg
  match vs,hl with
  | [v],_=>
    have:=hw 0 v rfl
    simp only[Nat.add_zero] at this
    simp[Instr.loadAt,Instr.sureAddr,loadVar,wv hag,this]
theorem abW{id:Nat}{cs:List V}(ho:s.obj id=some cs):s.hp[id]? =some (some cs)∧bU cs=false∧hH cs=false:=by
 unfold St.obj at ho
 simp only[List.getD] at ho
 cases hh:s.hp[id]? with
 |none=>rw[hh] at ho;simp at ho
 |some x=>
  rw[hh] at ho
  simp only[Option.getD_some] at ho
  split at ho
  ·cases ho
  ·cases ho
  ·cases ho
  ·rename_i hne hne2 hne3
   subst ho
   refine⟨rfl,?_,?_⟩
   rotate_left
   ·cases hm:hH cs with
    |false=>rfl
    |true=>
     obtain⟨k,es,rfl⟩:=sN hm
     exact(hne3 _ _ rfl).elim
   cases hrow:bU cs with
   |false=>rfl
   |true=>
    unfold bU at hrow
    split at hrow
    ·exact(hne _ rfl).elim
    ·exact(hne2 _ _ rfl).elim
    ·cases hrow
theorem fG{id:Nat}{cs:List V}(ho:s.obj id=some cs):s.hp[id]? =some (some cs)∧bU cs=false:=⟨(abW ho).1,(abW ho).2.1⟩
theorem oP{id:Nat}{cs:List V}(h:HR g s.hp w)(ho:s.obj id=some cs):∃arr e,w.heap[g.ρ id]? =some (.cells arr e (0,0))∧zr g s.hp.length w id cs arr e:=by
 obtain⟨h1,h2,hm⟩:=abW ho
 obtain⟨arr,e,fz,h3,h4⟩:=(h.obj id cs h1).row hm
 obtain⟨rfl,h5⟩:=h4.low h2
 exact⟨arr,e,h3,h5⟩
theorem aD{b:Nat}{arr:Array Value}{e:TypeId}{fz:Nat×Nat}(h:w.heap[b]? =some (.cells arr e fz))(j:Nat):w.cell? ⟨b,j,none⟩=arr[j]?:=by
 simp[World.cell?,h]
theorem ait{d n:Nat}{agg:Bool}{x:ASrc}(hc:aU P (.ld d n agg false x) m=true)(hs:step Γ (.ld d n agg false x) s=some (true,s'))(h:SR g s w a)(hn:bH g s w a s' next):m.wp P a w next Q:=by
 obtain⟨dst,op,ty,pos,aft,gd⟩:=m
 simp only[aU,Bool.and_eq_true,beq_iff_eq] at hc
 obtain⟨rfl,hc⟩:=hc
 split at hc
 ·rename_i t x'
  simp only[Bool.and_eq_true,beq_iff_eq,Bool.or_eq_true] at hc
  obtain⟨h1,h2,h3,h4⟩:=hc
  have r1:=aK h4 h.er
  simp only[step] at hs
  split at hs
  ·rename_i cs hx
   split at hs
   ·rename_i hle
    obtain rfl:_=s':=by simpa using hs
    rw[hx] at r1
    generalize hcv:a.eval x'=cv at r1
    cases r1 with
    |ea _ b o f e1 hI hw hv=>
     have hrel:=pr (agg:=agg) (cs:=cs.take n) (vs:=(List.range n).map f) (w:=w) (I:=g.I) (ρ:=g.ρ) (N:=s.hp.length)
      (fun c hcm=>e1 c (List.mem_of_mem_take hcm)) (by simp;omega) (by
       rcases h3 with h3|h3
       ·exact .inl h3
       ·right;simp;omega)
      (fun i c cv hc hcv=>by
       simp only[List.getElem?_take] at hc
       split at hc
       ·rename_i hi
        simp[hi] at hcv
        subst hcv
        exact hv _ _ hc
       ·simp at hc)
     refine aH h rfl (cv:=if agg then .agg ((List.range n).map f).toArray else ((List.range n).map f).headD undef) ?_ hrel.disown (dz _) hn
     have:=ml (P:=P) (w:=w) (b:=b) (o:=o) (vs:=(List.range n).map f) h1 h2 h3 (by simp) (fun j v hj=>by
      rw[List.getElem?_map,Option.map_eq_some_iff] at hj
      obtain⟨j',hj',rfl⟩:=hj
      obtain⟨hlt,rfl⟩:=List.getElem?_eq_some_iff.1 hj'
      simp only[List.length_range] at hlt
      simpa using hw j (by omega))
     simp[execOp,hcv,this]
   ·simp at hs
  ·rename_i id o hx
   split at hs
   ·rename_i cs ho
    split at hs
    ·rename_i hle
     obtain rfl:_=s':=by simpa using hs
     rw[hx] at r1
     generalize hcv:a.eval x'=cv at r1
     cases r1 with
     |ptr _ _ hid=>
      obtain⟨arr,e,hb,hok⟩:=oP h.hr ho
      have hlen:=hok.len
      have hrel:=pr (agg:=agg) (cs:=(cs.drop o).take n) (vs:=(arr.toList.drop o).take n) (w:=w) (I:=g.I) (ρ:=g.ρ) (N:=s.hp.length)
       (fun c hcm=>hok.one c (List.mem_of_mem_drop (List.mem_of_mem_take hcm))) (by simp;omega) (by
        rcases h3 with h3|h3
        ·exact .inl h3
        ·right;simp;omega)
       (fun i c cv hc hcv=>by
        simp only[List.getElem?_take,List.getElem?_drop] at hc hcv
        split at hc
        ·rename_i hi
         simp only[hi,if_true] at hcv
         exact hok.rel _ _ _ hc (by simpa using hcv)
        ·simp at hc)
      refine aH h rfl (cv:=if agg then .agg ((arr.toList.drop o).take n).toArray else ((arr.toList.drop o).take n).headD undef) ?_ hrel.disown (dz _) hn
      have:=ml (P:=P) (w:=w) (b:=g.ρ id) (o:=o) (vs:=(arr.toList.drop o).take n) h1 h2 h3 (by simp;omega) (fun j v hj=>by
       rw[aD hb]
       simp only[List.getElem?_take,List.getElem?_drop] at hj
       split at hj
       ·simpa using hj
       ·simp at hj)
      simp[execOp,hcv,this]
    ·simp at hs
   ·simp at hs
  ·simp at hs
 ·simp at hc
theorem al4{d:Nat}{mn:Bool}{x y:ASrc}(hc:aU P (.mx d mn x y) m=true)(hs:step Γ (.mx d mn x y) s=some (true,s'))(h:SR g s w a)(hn:bH g s w a s' next):m.wp P a w next Q:=by
 obtain⟨dst,op,ty,pos,aft,gd⟩:=m
 simp only[aU,Bool.and_eq_true,beq_iff_eq] at hc
 obtain⟨rfl,hc⟩:=hc
 simp only[step] at hs
 have fin:∀x' y' ts (b:Builtin),op=.call ⟨.builtin b,⟨[x',y']⟩,ts⟩→(b=if mn then Builtin.min else Builtin.max)→aI x x'=true→aI y y'=true→(⟨some d,op,ty,pos,aft,gd⟩:Oper).wp P a w next Q:=by
  rintro x' y' ts b rfl hb h1 h2
  have r1:=aK h1 h.er
  have r2:=aK h2 h.er
  split at hs
  ·rename_i k p k' q hx hy
   split at hs
   ·rename_i hk
    subst hk
    obtain rfl:_=s':=by simpa using hs
    rw[hx] at r1
    rw[hy] at r2
    generalize hcx:a.eval x'=cx at r1
    generalize hcy:a.eval y'=cy at r2
    cases r1 with
    |int _ _ hp=>
    cases r2 with
    |int _ _ hq=>
    cases mn with
    |true=>
     subst hb
     refine aH h rfl (cv:=.int k (if q<p then q else p)) ?_ (.int _ _ (by split<;>assumption)) rfl hn
     simp[execOp,resolve,hcx,hcy,invoke,builtin,Builtin.min_,Builtin.min2]
    |false=>
     subst hb
     refine aH h rfl (cv:=.int k (if p<q then q else p)) ?_ (.int _ _ (by split<;>assumption)) rfl hn
     simp[execOp,resolve,hcx,hcy,invoke,builtin,Builtin.max_,Builtin.max2]
   ·simp at hs
  ·simp at hs
 split at hc
 ·rename_i x' y' ts hop
  simp only[Bool.and_eq_true] at hc
  obtain⟨hm,h1,h2⟩:=hc
  exact fin x' y' _ .min (hJ hop) (by simp[hm]) h1 h2
 ·rename_i x' y' ts hop
  simp only[Bool.and_eq_true,Bool.not_eq_true'] at hc
  obtain⟨hm,h1,h2⟩:=hc
  exact fin x' y' _ .max (hJ hop) (by simp[hm]) h1 h2
 ·simp at hc
end
end Go.AM
end
noncomputable section
namespace Go.AM
set_option autoImplicit false
set_option linter.unusedSimpArgs false
set_option linter.unusedVariables false
section
variable{w w':World}{g g':Gh}{s s':St}{a:Act}{P:Program}
theorem qO(k:EK)(x:Ty k):∀c∈enc k x,c.bare=true:=by
 cases k<;>simp[enc,V.bare]
def pu(p:Option Occ)(s:St):Prop:=
 match p with
 |some (.slot n)=>∀v,s.env[n]? =some v→v.bare=true
 |some (.cell id j)=>∀cs v,s.hp[id]? =some (some cs)→cs[j]? =some v→v.bare=true
 |_=>True
theorem SR.keep(h:SR g s w a)(p:Option Occ)(hp:pu p s)(hβ:g'.β=g.β)(u:Up g.I g.ρ s.hp.length w g'.I g'.ρ s.hp.length w')
  (hk:∀occ b,g.O b=some occ→p≠some occ→g'.O b=some occ∧w'.heap[b]? =w.heap[b]?∧∀j,g'.I b j→g.I b j)
  (ho:∀(id:Nat) cs,s.hp[id]? =some (some cs)→w'.heap[g.ρ id]? =w.heap[g.ρ id]?∧g'.O (g.ρ id)=none∧∀j,g'.I (g.ρ id) j→g.I (g.ρ id) j)
  (hex:∀b j,g'.I b j→(w'.cell? ⟨b,j,none⟩).isSome=true) (hlt:∀b o,g'.O b=some o→b<w'.heap.size):SR g' s w' a:=by
 have own:∀occ v cv,ax g w occ v cv→(p=some occ→v.bare=true)→ax g' w' occ v cv:=by
  intro occ v cv h1 h2
  by_cases e:p=some occ
  ·exact iI (h2 e) _ _ _ _
  ·exact bK h1 hβ (fun b j hi=>⟨u.mono b j hi,u.cell b j hi⟩) (fun b hb=>hk occ b hb e)
 have lt:∀(id:Nat) cs,s.hp[id]? =some (some cs)→id<s.hp.length:=fun id cs hid=>(List.getElem?_eq_some_iff.1 hid).1
 refine⟨⟨?_,?_,?_,?_,hex,hlt⟩,⟨h.er.size,?_,?_⟩⟩
 ·intro id cs hid
  refine(h.hr.obj id cs hid).keep ?_ fun arr e fz h1 h2=>⟨h2.len,h2.plain,h2.typedUp hβ u.rho u.num rfl,h2.cold,h2.one,fun j c cv hc hcv=>(h2.rel j c cv hc hcv).up u,fun j c cv hc hcv=>?_,by rw[u.rho id (lt id cs hid)];exact h2.bn⟩
  ·rw[u.rho id (lt id cs hid),(ho id cs hid).1]
  ·refine own _ _ _ (h2.own j c cv hc hcv) ?_
   rintro rfl
   cases hr:bU cs with
   |false=>rw[fO hr] at hc;exact hp cs c hid hc
   |true=>
    unfold bU at hr
    split at hr
    ·simp only[cellsOf,List.getElem?_map,Option.map_eq_some_iff] at hc
     obtain⟨_,_,rfl⟩:=hc
     rfl
    ·rename_i k xs
     have hm:=List.mem_of_getElem? hc
     simp only[cellsOf,List.mem_flatMap] at hm
     obtain⟨x,_,hx⟩:=hm
     exact qO k x c hx
    ·cases hr
 ·intro id id' cs cs' h1 h2 hne
  rw[u.rho id (lt id cs h1),u.rho id' (lt id' cs' h2)]
  exact h.hr.apart id id' cs cs' h1 h2 hne
 ·intro id cs hid j hi
  rw[u.rho id (lt id cs hid)] at hi
  exact h.hr.notI id cs hid j ((ho id cs hid).2.2 j hi)
 ·intro id cs hid
  rw[u.rho id (lt id cs hid)]
  exact(ho id cs hid).2.1
 ·intro n v cv hv hcv
  exact(h.er.rel n v cv hv hcv).up u
 ·intro n v cv hv hcv
  refine own _ _ _ (h.er.own n v cv hv hcv) ?_
  rintro rfl
  exact hp v hv
theorem SR.bare(h:SR g s w a)(n:Nat):SR g (s.set n (disown (s.get n))) w a:=by
 refine⟨h.hr,⟨by simp[St.set,h.er.size],?_,?_⟩⟩
 ·intro m v cv hv hcv
  simp only[St.set,List.getElem?_set] at hv
  by_cases e:n=m
  ·subst e
   simp only[if_true] at hv
   split at hv
   ·cases Option.some.inj hv
    rename_i hlt
    have:s.env[n]? =some (s.get n):=by simp[St.get,List.getD,List.getElem?_eq_getElem hlt]
    exact(h.er.rel n _ cv this hcv).disown
   ·simp at hv
  ·simp only[e,if_false] at hv
   exact h.er.rel m v cv hv hcv
 ·intro m v cv hv hcv
  simp only[St.set,List.getElem?_set] at hv
  by_cases e:n=m
  ·subst e
   simp only[if_true] at hv
   split at hv
   ·cases Option.some.inj hv
    exact ax.disown _ _ _ _ _
   ·simp at hv
  ·simp only[e,if_false] at hv
   exact h.er.own m v cv hv hcv
theorem SR.after(h:SR g s w a)(x:ASrc):SR g (x.after s) w a:=by
 cases x with
 |tk n=>exact h.bare n
 |_=>exact h
theorem kH(x:ASrc)(s:St):(x.after s).hp=s.hp:=by cases x<;>rfl
theorem rl(n:Nat)(s:St):pu (some (.slot n)) ((ASrc.tk n).after s):=by
 intro v hv
 simp only[ASrc.after,St.set,List.getElem?_set,if_true] at hv
 split at hv
 ·cases Option.some.inj hv
  exact dz _
 ·simp at hv
def Gh.reown(g:Gh)(b:Nat)(o:Occ):Gh:={g with O:=fun b'=>if b'=b then some o else g.O b'}
theorem SR.reown(h:SR g s w a){p q:Occ}(hp:pu (some p) s){b:Nat}(hb:g.O b=some p):SR (g.reown b q) s w a:=by
 refine h.keep (some p) hp rfl (Up.refl _ _ _ _) ?_ ?_ h.hr.exI ?_
 ·intro occ b' hb' hne
  have:b'≠b:=by
   rintro rfl
   rw[hb] at hb'
   exact hne hb'
  exact⟨by simp[Gh.reown,this,hb'],rfl,fun j hj=>hj⟩
 ·intro id cs hid
  refine⟨rfl,?_,fun j hj=>hj⟩
  have h0:=h.hr.notO id cs hid
  have:g.ρ id≠b:=by
   rintro e
   rw[e,hb] at h0
   simp at h0
  simp[Gh.reown,this,h0]
 ·intro b' o hb'
  simp only[Gh.reown] at hb'
  split at hb'
  ·rename_i e
   subst e
   exact h.hr.oLt _ _ hb
  ·exact h.hr.oLt _ _ hb'
theorem FR.reown{hp:List aq}{p q:Occ}{b:Nat}(hb:g.O b=some p):FR g hp w (g.reown b q) hp w:=by
 refine⟨rfl,rfl,rfl,rfl,Nat.le_refl _,fun _ _ _ _=>rfl,Up.refl _ _ _ _,fun _ _ _ _ _ hi=>hi,?_,fun _ cs h=>.inl ⟨cs,h⟩⟩
 intro b' _ _ hO
 have:b'≠b:=by
  rintro rfl
  rw[hb] at hO
  simp at hO
 simp[Gh.reown,this,hO]
theorem abX{p q:Occ}{v:V}{cv:Value}(h:SR g s w a)(hp:pu (some p) s)(ho:ax g w p v cv):
  ∃g₁,SR g₁ s w a∧FR g s.hp w g₁ s.hp w∧g₁.I=g.I∧g₁.ρ=g.ρ∧ax g₁ w q v cv:=by
 cases v with
 |sl k o xs=>
  cases o with
  |may u=>exact⟨g,h,FR.refl _ _ _,rfl,rfl,by simp[ax]⟩
  |own=>
   cases cv with
   |slice ad len cap=>
    cases ad with
    |none=>exact⟨g,h,FR.refl _ _ _,rfl,rfl,by simp[ax]⟩
    |some ad=>
     obtain⟨h1,h2,h3⟩:=ho
     exact⟨g.reown ad.block q,h.reown hp h1,FR.reown h1,rfl,rfl,by simp[Gh.reown],h2,h3⟩
   |_=>exact⟨g,h,FR.refl _ _ _,rfl,rfl,by simp[ax]⟩
 |raw n=>
  cases cv with
  |pointer ad=>
   cases ad with
   |none=>exact⟨g,h,FR.refl _ _ _,rfl,rfl,by simp[ax]⟩
   |some ad=>
    obtain⟨h1,h2,h3⟩:=ho
    exact⟨g.reown ad.block q,h.reown hp h1,FR.reown h1,rfl,rfl,by simp[Gh.reown],h2,h3⟩
  |_=>exact⟨g,h,FR.refl _ _ _,rfl,rfl,by simp[ax]⟩
 |ul k xs=>
  rcases ho with ho|⟨b,cap,arr,e,fz,h0,h1,h2,h3,h4,h5⟩
  ·exact⟨g,h,FR.refl _ _ _,rfl,rfl,.inl ho⟩
  ·exact⟨g.reown b q,h.reown hp h4,FR.reown h4,rfl,rfl,.inr ⟨b,cap,arr,e,fz,h0,h1,h2,h3,by simp[Gh.reown],h5⟩⟩
 |_=>exact⟨g,h,FR.refl _ _ _,rfl,rfl,by simp[ax]⟩
theorem SR.newRow(h:SR g s w a)(k:EK)(xs:List (Ty k))(cap d:Nat)(arr:Array Value)(e:TypeId)(fz:Nat×Nat)
  (hsz:w'.heap.size=w.heap.size+1) (hold:∀b,b<w.heap.size→w'.heap[b]? =w.heap[b]?) (hnew:w'.heap[w.heap.size]? =some (.cells arr e fz))
  (hos:w'.os=w.os) (htp:w'.tape=w.tape) (hout:w'.output=w.output)
  {o:Fl} (hfo:o=.may true→xs.length=cap) (hle:xs.length≤cap) (hm:cap≤cb) (hroom:cap*k.sz≤arr.size) (heβ:k=.u8→e=g.β)
  (hfz:∀j,xs.length*k.sz≤j→j<cap*k.sz→¬(fz.1≤j∧j<fz.2))
  (hv:∀(i:Nat) x j v,xs[i]? =some x→(enc k x)[j]? =some v→∃cv,arr[i*k.sz+j]? =some cv∧VRel g.I g.ρ s.hp.length w v cv):
  ∃g',SR g' (s.set d (.sl k o xs)) w' (a.put (some d) (.slice (some ⟨w.heap.size,0,none⟩) xs.length cap))∧FR g s.hp w g' s.hp w':=by
 let g':Gh:={I:=fun b j=>g.I b j∨(b=w.heap.size∧j<xs.length*k.sz),ρ:=g.ρ,O:=fun b=>if b=w.heap.size then some (.slot d) else g.O b,β:=g.β}
 have ilt:∀b j,g.I b j→b<w.heap.size:=by
  intro b j hi
  obtain⟨v,hv⟩:=Option.isSome_iff_exists.1 (h.hr.exI b j hi)
  exact World.block_lt_of_cell? _ _ hv
 have cello:∀b j,b<w.heap.size→w'.cell? ⟨b,j,none⟩=w.cell? ⟨b,j,none⟩:=by
  intro b j hb
  simp[World.cell?,hold b hb]
 have u:Up g.I g.ρ s.hp.length w g'.I g'.ρ s.hp.length w':=⟨fun b j hi=>.inl hi,fun b j hi=>cello b j (ilt b j hi),fun _ _=>rfl,Nat.le_refl _⟩
 have hcell:∀j,w'.cell? ⟨w.heap.size,j,none⟩=arr[j]?:=fun j=>aD hnew j
 have hlen:xs.length*k.sz≤arr.size:=Nat.le_trans (Nat.mul_le_mul_right _ hle) hroom
 have hs:SR g' s w' a:=by
  refine h.keep none trivial rfl u ?_ ?_ ?_ ?_
  ·intro occ b hb _
   have hlt:=h.hr.oLt b occ hb
   refine⟨by simp[g',Nat.ne_of_lt hlt,hb],hold b hlt,?_⟩
   rintro j (hj|⟨hj,_⟩)
   ·exact hj
   ·omega
  ·intro id cs hid
   have hlt:=(h.hr.obj id cs hid).lt
   refine⟨hold _ hlt,by simp[g',Nat.ne_of_lt hlt,h.hr.notO id cs hid],?_⟩
   rintro j (hj|⟨hj,_⟩)
   ·exact hj
   ·omega
  ·rintro b j (hj|⟨rfl,hj⟩)
   ·rw[cello b j (ilt b j hj)];exact h.hr.exI b j hj
   ·rw[hcell,Array.getElem?_eq_getElem (by omega)];rfl
  ·intro b o hb
   simp only[g'] at hb
   split at hb
   ·omega
   ·have:=h.hr.oLt b o hb;omega
 have hnth:∀(i:Nat) x,xs[i]? =some x→i<xs.length:=fun i x hx=>(List.getElem?_eq_some_iff.1 hx).1
 have hmul:∀(i j:Nat),i<xs.length→j<k.sz→i*k.sz+j<xs.length*k.sz:=by
  intro i j hi hj
  calc i*k.sz+j<i*k.sz+k.sz:=by omega
   _=(i+1)*k.sz:=by rw[Nat.add_mul,Nat.one_mul]
   _≤xs.length*k.sz:=Nat.mul_le_mul_right _ hi
 refine⟨g',hs.set d ?_ ?_,⟨rfl,hos,htp,hout,by omega,fun b hb _ _=>hold b hb,u,?_,?_,fun _ cs h=>.inl ⟨cs,h⟩⟩⟩
 ·refine .sl k o xs _ _ _ _ rfl hle hm hfo (fun i j=>arr[i*k.sz+j]?.getD undef) ?_ ?_ ?_
  ·intro i x j hx hj
   rw[bV] at hj
   exact .inr ⟨rfl,by have:=hmul i j (hnth i x hx) hj;omega⟩
  ·intro i x j hx hj
   obtain⟨cv,h1,_⟩:=hv i x j _ hx (List.getElem?_eq_getElem hj)
   rw[Nat.zero_add,hcell,h1]
   rfl
  ·intro i x j v hx hj
   obtain⟨cv,h1,h2⟩:=hv i x j v hx hj
   rw[h1]
   exact h2.up u
 ·cases o with
  |may u=>simp[ax]
  |own=>
  refine⟨by simp[g'],⟨arr,e,fz,hnew,by simpa using hroom,heβ⟩,?_⟩
  intro j h1 h2
  simp only[Nat.zero_add] at h1 h2
  refine⟨?_,?_⟩
  ·rintro(hi|⟨_,hi⟩)
   ·exact absurd (ilt _ _ hi) (by simp)
   ·omega
  ·have:=hfz j h1 h2
   simp only[World.frozen?,hnew]
   simpa using this
 ·rintro b j hb _ _ (hj|⟨hj,_⟩)
  ·exact hj
  ·omega
 ·intro b hb _ hO
  simp[g',Nat.ne_of_lt hb,hO]
end
end Go.AM
end
noncomputable section
namespace Go.AM
set_option autoImplicit false
set_option linter.unusedSimpArgs false
set_option linter.unusedVariables false
section
variable{w w':World}{g g':Gh}{s s':St}{a:Act}{P:Program}{Γ:az}{m:Oper}{next:Act→World→Prop}{Q:Exit→Act→World→Prop}
theorem cN{d:Nat}{cv:Value}(hd:m.dst=some d)(hrun:(execOp a.eval m).run P w=.ok (.value cv) w')
  (h:∃g',SR g' s' w' (a.put (some d) cv)∧FR g s.hp w g' s'.hp w') (hn:bH g s w a s' next):m.wp P a w next Q:=by
 unfold Oper.wp Oper.upon
 rw[hrun,hd]
 obtain⟨g',h1,h2⟩:=h
 exact hn _ _ g' h1 h2 rfl
def tU:List ASrc→List (Nat×Operand)→Nat→Bool
 | [],[],_=>true
 |x::xs,(i,y)::ys,n=>(i==n)&&(aI x y&&tU xs ys (n+1))
 |_,_,_=>false
def sP(P:Program)(fs:Array Field):List (Nat×Nat×ASrc)→List (Nat×Operand)→Bool
 | [],[]=>true
 |(off,n,x)::xs,(i,y)::ys=>(match fs[i]? with|some f=>(f.offset==off)&&(dM P f.type==some n)|none=>false)&&(aI x y&&sP P fs xs ys)
 |_,_=>false
def acA(P:Program)(t:TypeId)(zero:List V):Bool:=match P.info? t with|some i=>(match i.zero with|some z=>fE zero z.cells.toList|none=>false)|none=>false
def nH(P:Program)(o:IOp)(m:Oper):Bool:=
 match o with
 | .mov d x=>(m.dst==some d)&&(match m.op with| .move y=>aI x y| .assign y=>aI x y|_=>false)
 | .bsl d k ps _=>(m.dst==some d)&&(match m.op with| .buildSlice t n qs=>fF P t k&&(n==ps.length&&(decide (ps.length*k.sz≤16777216)&&tU ps qs.toList 0))|_=>false)
 | .app d k x y=>(m.dst==some d)&&(match rj m.op with|some (.append,[x',y'],[t,u])=>fF P t k&&(fF P u k&&(aI x x'&&aI y y'))|_=>false)
 | .apps d x y=>(m.dst==some d)&&(match rj m.op with|some (.append,[x',y'],[t,u])=>fF P t .u8&&((match P.underlying u with|some .string=>true|_=>false)&&(aI x x'&&aI y y'))|_=>false)
 |_=>false
theorem alw{d:Nat}{x:ASrc}(hc:nH P (.mov d x) m=true)(hs:step Γ (.mov d x) s=some (true,s'))(h:SR g s w a)(hn:bH g s w a s' next):m.wp P a w next Q:=by
 obtain⟨dst,op,ty,pos,aft,gd⟩:=m
 simp only[nH,Bool.and_eq_true,beq_iff_eq] at hc
 obtain⟨rfl,hc⟩:=hc
 obtain rfl:_=s':=by simpa [step] using hs
 have fin:∀y,aI x y=true→(execOp a.eval ⟨some d,op,ty,pos,aft,gd⟩).run P w=.ok (.value (a.eval y)) w→(⟨some d,op,ty,pos,aft,gd⟩:Oper).wp P a w next Q:=by
  intro y hy hr
  have r:=aK hy h.er
  refine cN rfl hr ?_ hn
  cases x with
  |t n=>exact⟨g,h.set d r (iI (dz _) _ _ _ _),FR.refl _ _ _⟩
  |c v=>
   refine⟨g,h.set d r ?_,FR.refl _ _ _⟩
   unfold aI at hy
   split at hy
   ·rename_i e;cases e
   ·rename_i e;cases e
   ·rename_i e;cases e;exact ri hy _
   ·rename_i e;cases e;simp[ASrc.ev,ax]
   ·simp at hy
  |tk n=>
   have hy':y=.tmp n:=by
    unfold aI at hy
    split at hy
    ·rename_i e;cases e
    ·rename_i k e;cases e;rw[show k=n by simpa using (beq_iff_eq.1 hy).symm]
    ·rename_i e;cases e
    ·rename_i e;cases e
    ·simp at hy
   subst hy'
   have ho:=h.er.getOwn n
   obtain⟨g₁,h1,h2,h3,h4,h5⟩:=abX (q:=.slot d) (h.after (.tk n)) (rl n s) ho
   refine⟨g₁,h1.set d ?_ h5,?_⟩
   ·rw[h3,h4];exact r
   ·rw[kH] at h2;simpa [St.set,kH] using h2
 split at hc
 ·rename_i y
  exact fin y hc (by simp[execOp])
 ·rename_i y
  exact fin y hc (by simp[execOp])
 ·simp at hc
theorem zt:∀(vs:List Value)(off j:Nat)(cells:Array Value),off+j+vs.length≤cells.size→
  ((vs.zipIdx j).foldl (fun(cs:Array Value)(x:Value×Nat)=>cs.setIfInBounds (off+x.2) x.1) cells).toList=cells.toList.take (off+j)++vs++cells.toList.drop (off+j+vs.length)
 | [],off,j,cells,h=>by simp
 |v::vs,off,j,cells,h=>by
  simp only[List.length_cons] at h
  rw[List.zipIdx_cons,List.foldl_cons,zt vs off (j+1) _ (by simp;omega)]
  simp only[Array.toList_setIfInBounds,List.length_cons]
  have hlt:off+j<cells.toList.length:=by rw[Array.length_toList];omega
  rw[show off+(j+1)=off+j+1 by omega,List.take_succ_eq_append_getElem (by simpa using hlt),List.take_set_of_le (by omega),List.drop_set_of_lt (by omega)]
  simp[List.append_assoc]
  omega
theorem af1(sz:Nat):∀(vs:List (Array Value))(i:Nat)(cells:Array Value),(∀v∈vs,v.size=sz)→(i+vs.length)*sz≤cells.size→∀(ps:List (Nat×Value)),ps.map (·.1)=List.range' i vs.length→ps.map (·.2.cells)=vs→
  Instr.fill (fun i=>some (i*sz,sz)) cells ps=some (cells.toList.take (i*sz)++(vs.map (·.toList)).flatten++cells.toList.drop ((i+vs.length)*sz)).toArray
 | [],i,cells,hs,hle,ps,h1,h2=>by
   have:ps=[]:=by simpa using h2
   subst this
   simp[Instr.fill]
 |v::vs,i,cells,hs,hle,ps,h1,h2=>by
  match ps,h1,h2 with
  |(i',x)::ps',k1,k2=>
  simp only[List.map_cons,List.length_cons,List.range'_succ,List.cons.injEq] at k1 k2
  obtain⟨rfl,k3⟩:=k1
  obtain⟨rfl,k4⟩:=k2
  have hv:x.cells.size=sz:=hs _ (List.mem_cons_self ..)
  simp only[List.length_cons] at hle
  have e1:(i'+(vs.length+1))*sz=i'*sz+sz+vs.length*sz:=by rw[Nat.add_mul,Nat.add_mul];omega
  have hle1:i'*sz+sz≤cells.size:=by omega
  have e2:(x.cells.zipIdx.foldl (fun(cs:Array Value)(y:Value×Nat)=>cs.setIfInBounds (i'*sz+y.2) y.1) cells).toList=cells.toList.take (i'*sz)++x.cells.toList++cells.toList.drop (i'*sz+sz):=by
   have:=zt x.cells.toList (i'*sz) 0 cells (by simp[hv];omega)
   simp only[Nat.add_zero,Array.length_toList,hv] at this
   rw[←this,←Array.foldl_toList,Array.toList_zipIdx]
  have e3:(x.cells.zipIdx.foldl (fun(cs:Array Value)(y:Value×Nat)=>cs.setIfInBounds (i'*sz+y.2) y.1) cells).size=cells.size:=by
   rw[←Array.length_toList,e2]
   simp[hv]
   omega
  simp only[Instr.fill,hv]
  rw[if_neg (by simp;omega)]
  rw[af1 sz vs (i'+1) _ (fun v hv=>hs v (List.mem_cons_of_mem _ hv)) (by rw[e3];rw[show (i'+1+vs.length)=i'+(vs.length+1) by omega];exact hle) ps' k3 k4,e2]
  have l2:x.cells.toList.length=sz:=by simp[hv]
  have hL:(cells.toList.take (i'*sz)++x.cells.toList).length=i'*sz+sz:=by simp[hv];omega
  rw[show (i'+1)*sz=i'*sz+sz by rw[Nat.add_mul];omega,show (i'+1+vs.length)*sz=(i'*sz+sz)+vs.length*sz by rw[Nat.add_mul,Nat.add_mul];omega,List.length_cons,e1]
  rw[List.take_left' hL,←List.drop_drop,List.drop_left' hL,List.drop_drop]
  simp[List.append_assoc]
theorem acB{I:Nat→Nat→Prop}{ρ:Nat→Nat}{N:Nat}{k:EK}:∀{vs:List V}{xs:List (Ty k)}{cvs:List Value},decAll k vs=some xs→cvs.length=vs.length→
  (∀(i:Nat) v cv,vs[i]? =some v→cvs[i]? =some cv→VRel I ρ N w v cv)→
  xs.length=vs.length∧(∀cv∈cvs,cv.cells.size=k.sz)∧
   ∀(i:Nat) x (j:Nat) v,xs[i]? =some x→(enc k x)[j]? =some v→∃(cv u:Value),cvs[i]? =some cv∧cv.cells[j]? =some u∧VRel I ρ N w v u
 | [],xs,cvs,h,hl,hr=>by
   have:cvs=[]:=by simpa using hl
   subst this
   simp only[decAll,Option.some.injEq] at h
   subst h
   exact⟨rfl,by simp,by simp⟩
 |v::vs,xs,cv::cvs,h,hl,hr=>by
  simp only[decAll] at h
  split at h
  ·rename_i x l hx hl'
   obtain rfl:=Option.some.inj h
   obtain⟨k1,k2,k3⟩:=acB (vs:=vs) (cvs:=cvs) hl' (by simpa using hl) (fun i v cv h1 h2=>hr (i+1) v cv (by simpa using h1) (by simpa using h2))
   have r0:=hr 0 v cv rfl rfl
   have r0':=r0
   have hc:v.cells.length=cv.cells.size∧(∀(j:Nat) c u,v.cells[j]? =some c→cv.cells[j]? =some u→VRel I ρ N w c u):=by
    cases r0 with
    |agg cs us hl2 h1 hb hv=>exact⟨by simpa [V.cells,Value.cells] using hl2,by simpa [V.cells,Value.cells] using hv⟩
    |undef cv=>cases k<;>simp[V.cells,dec] at hx<;>(rename_i kk;cases kk<;>simp at hx)
    |tup cs us hl hv=>cases k<;>simp[V.cells,dec] at hx<;>(rename_i kk;cases kk<;>simp at hx)
    |junk cv=>cases k<;>simp[V.cells,dec] at hx<;>(rename_i kk;cases kk<;>simp at hx)
    |_=>
     refine⟨by simp[V.cells,Value.cells],?_⟩
     intro j c u h1 h2
     cases j with
     |zero=>
      simp[V.cells,Value.cells] at h1 h2
      subst h1 h2
      exact r0'
     |succ j=>simp[V.cells] at h1
   have hin:∀c∈v.cells,c.inRange:=by
    intro c hc'
    obtain⟨j,hj,rfl⟩:=List.mem_iff_getElem.1 hc'
    have:j<cv.cells.size:=by rw[←hc.1];exact hj
    exact(hc.2 j _ _ (List.getElem?_eq_getElem hj) (Array.getElem?_eq_getElem this)).inRange
   have he:=ah6 hx hin
   have hsz:cv.cells.size=k.sz:=by rw[←hc.1,←bV k x,he,List.length_map]
   refine⟨by simp[k1],by simpa using ⟨hsz,k2⟩,?_⟩
   intro i y j u hy hu
   cases i with
   |succ i=>simpa using k3 i y j u (by simpa using hy) hu
   |zero=>
    simp at hy
    subst hy
    rw[he,List.getElem?_map,Option.map_eq_some_iff] at hu
    obtain⟨c,hc',rfl⟩:=hu
    have hj:j<v.cells.length:=(List.getElem?_eq_some_iff.1 hc').1
    have hj':j<cv.cells.size:=by rw[←hc.1];exact hj
    exact⟨cv,cv.cells[j],rfl,Array.getElem?_eq_getElem hj',(hc.2 j _ _ hc' (Array.getElem?_eq_getElem hj')).weak⟩
  ·simp at h
theorem af2(sz:Nat):∀(cvs:List Value),(∀cv∈cvs,cv.cells.size=sz)→∀(i j:Nat) cv u,cvs[i]? =some cv→cv.cells[j]? =some u→
  ((cvs.map (·.cells.toList)).flatten)[i*sz+j]? =some u
 | [],_,i,j,cv,u,h1,_=>by simp at h1
 |c::cvs,hs,0,j,cv,u,h1,h2=>by
  simp at h1
  subst h1
  have hj:j<c.cells.size:=by
   rcases Nat.lt_or_ge j c.cells.size with h|h
   ·exact h
   ·simp[Array.getElem?_eq_none h] at h2
  simp only[List.map_cons,List.flatten_cons,Nat.zero_mul,Nat.zero_add]
  rw[List.getElem?_append_left (by simpa using hj)]
  simpa using h2
 |c::cvs,hs,i+1,j,cv,u,h1,h2=>by
  have hc:=hs c (List.mem_cons_self ..)
  have ih:=af2 sz cvs (fun cv hcv=>hs cv (List.mem_cons_of_mem _ hcv)) i j cv u (by simpa using h1) h2
  simp only[List.map_cons,List.flatten_cons]
  rw[List.getElem?_append_right (by simp[hc,Nat.add_mul];omega)]
  rw[←ih]
  congr 1
  simp[hc,Nat.add_mul]
  omega
theorem aes(h:ER g s.hp.length w s.env a.tmps):∀(ps:List ASrc)(qs:List (Nat×Operand))(n:Nat),tU ps qs n=true→
  (qs.map fun q=>(q.1,a.eval q.2)).map (·.1)=List.range' n ps.length∧qs.length=ps.length∧
   ∀(i:Nat) v cv,(ps.map (·.ev s))[i]? =some v→(qs.map fun q=>a.eval q.2)[i]? =some cv→VRel g.I g.ρ s.hp.length w v cv
 | [],[],n,_=>by simp
 |x::ps,(i,y)::qs,n,hp=>by
  simp only[tU,Bool.and_eq_true,beq_iff_eq] at hp
  obtain⟨rfl,h1,h2⟩:=hp
  obtain⟨k1,k2,k3⟩:=aes h ps qs (i+1) h2
  refine⟨?_,by simp[k2],?_⟩
  ·simp only[List.map_cons,List.length_cons,List.range'_succ]
   rw[k1]
  ·intro j v cv hv hcv
   cases j with
   |zero=>
    simp at hv hcv
    subst hv hcv
    exact aK h1 h
   |succ j=>exact k3 j v cv (by simpa using hv) (by simpa using hcv)
 | [],_::_,n,hp=>by simp[tU] at hp
 |_::_,[],n,hp=>by simp[tU] at hp
theorem fQ(w:World)(o:Go.Obj):(w.alloc o).heap.size=w.heap.size+1∧(∀b,b<w.heap.size→(w.alloc o).heap[b]? =w.heap[b]?)∧(w.alloc o).heap[w.heap.size]? =some o:=by
 refine⟨by simp,?_,?_⟩
 ·intro b hb
  show (w.heap.push o)[b]? =_
  rw[Array.getElem?_push,if_neg (by omega)]
 ·show (w.heap.push o)[w.heap.size]? =_
  simp
theorem alx{d:Nat}{k:EK}{ps:List ASrc}{u:Bool}(hβ:g.β=iW P)(hc:nH P (.bsl d k ps u) m=true)(hs:step Γ (.bsl d k ps u) s=some (true,s'))(h:SR g s w a)(hn:bH g s w a s' next):m.wp P a w next Q:=by
 obtain⟨dst,op,ty,pos,aft,gd⟩:=m
 simp only[nH,Bool.and_eq_true,beq_iff_eq] at hc
 obtain⟨rfl,hc⟩:=hc
 split at hc
 ·rename_i t n qs
  simp only[Bool.and_eq_true,beq_iff_eq,decide_eq_true_eq] at hc
  obtain⟨h1,rfl,h2,h3⟩:=hc
  simp only[step,Option.map_eq_some_iff] at hs
  obtain⟨xs,hx,hs⟩:=hs
  obtain rfl:_=s':=by simpa using hs
  obtain⟨e,u1,h1⟩:=b9 h1
  obtain⟨inf,z,i1,i2,i3,i4,i5,i6,i7⟩:=d8 h1
  obtain⟨k1,k2,k3⟩:=aes h.er ps qs.toList 0 h3
  obtain⟨r1,r2,r3⟩:=acB (cvs:=qs.toList.map fun q=>a.eval q.2) hx (by simp[k2]) k3
  simp only[List.length_map] at r1
  have hzs:z.cells.size=k.sz:=i7
  have hk0:0<k.sz:=by cases k<;>simp[EK.sz]
  let zs:Array Value:=(Array.range (ps.length*k.sz)).map (fun j=>z.cells[j%z.cells.size]!)
  have hzs':zs.size=ps.length*k.sz:=by simp[zs]
  have hfill:Instr.fill (fun i=>some (i*k.sz,k.sz)) zs ((qs.map fun x=>(x.1,a.eval x.2)).toList)=some ((qs.toList.map fun q=>a.eval q.2).map (·.cells.toList)).flatten.toArray:=by
   have:=af1 k.sz ((qs.toList.map fun q=>a.eval q.2).map (·.cells)) 0 zs (by
    intro v hv
    obtain⟨cv,hcv,rfl⟩:=List.mem_map.1 hv
    exact r2 cv hcv) (by simp[hzs',k2]) ((qs.map fun x=>(x.1,a.eval x.2)).toList) (by simpa [k2] using k1) (by simp)
   rw[this]
   simp[k2,hzs',List.map_map,Function.comp_def]
  have hlen:((qs.toList.map fun q=>a.eval q.2).map (·.cells.toList)).flatten.length=xs.length*k.sz:=by
   rw[List.length_flatten,List.map_map]
   have:∀l:List Value,(∀cv∈l,cv.cells.size=k.sz)→(l.map (List.length∘fun x:Value=>x.cells.toList)).sum=l.length*k.sz:=by
    intro l hl
    induction l with
    |nil=>simp
    |cons c l ih=>
     simp only[List.map_cons,List.sum_cons,List.length_cons,ih (fun cv hcv=>hl cv (List.mem_cons_of_mem _ hcv)),Nat.add_mul,Function.comp]
     have:=hl c (List.mem_cons_self ..)
     simp[this]
     omega
   rw[this _ r2,List.length_map,k2,r1]
  let arr:Array Value:=((qs.toList.map fun q=>a.eval q.2).map (·.cells.toList)).flatten.toArray
  have f:=fQ w (.cells arr e)
  refine cN rfl (w':=w.alloc (.cells arr e)) (cv:=.slice (some ⟨w.heap.size,0,none⟩) xs.length xs.length) ?_ ?_ hn
  ·have h24:¬(16777216<ps.length*k.sz):=by omega
   have hdim:zs.size=ps.length*k.sz:=hzs'
   simp only[Array.toList_map,zs] at hfill
   by_cases h0:ps.length*k.sz=0
   ·have hp0:ps.length=0:=by
     rcases Nat.mul_eq_zero.1 h0 with h|h
     ·exact h
     ·omega
    have hq0:qs.toList=[]:=List.eq_nil_of_length_eq_zero (by omega)
    have hx0:xs.length=0:=by omega
    have hq0':qs= #[]:=by simpa using hq0
    simp[execOp,Instr.buildSlice,run_underlying u1,sizeOf,typeInfo,i1,i2,h24,h0,hp0,hq0',hx0,Instr.fill,newRow,arr]
    rw[show Array.range 0= #[] from Array.eq_empty_of_size_eq_zero (by simp),Array.map_empty]
   ·simp[execOp,Instr.buildSlice,run_underlying u1,sizeOf,typeInfo,i1,i2,h24,h0,zeroValue,i4,hfill,newRow,r1,arr]
  ·obtain⟨g',q1,q2⟩:=h.newRow (w':=w.alloc (.cells arr e)) k xs xs.length d arr e (0,0) f.1 f.2.1 f.2.2 rfl rfl rfl (o:=cond u (.may true) .own) (fun _=>rfl) (Nat.le_refl _) (by unfold cb;have:xs.length≤xs.length*k.sz:=Nat.le_mul_of_pos_right _ hk0;rw[r1] at *;omega)
    (by simp only[arr,List.size_toArray,hlen];exact Nat.le_refl _) (fun hk=>by rw[hβ];exact rk h1 hk) (by intro j h1 h2;omega) (by
     intro i x j v hx hv
     obtain⟨cv,u,q1,q2,q3⟩:=r3 i x j v hx hv
     refine⟨u,?_,q3⟩
     simp only[arr,List.getElem?_toArray]
     exact af2 k.sz _ r2 i j cv u q1 q2)
   exact⟨g',q1,q2⟩
 ·simp at hc
end
end Go.AM
end
noncomputable section
namespace Go.AM
set_option autoImplicit false
set_option linter.unusedSimpArgs false
set_option linter.unusedVariables false
section
variable{w w':World}{g g':Gh}{s s':St}{a:Act}{P:Program}{Γ:az}{m:Oper}{next:Act→World→Prop}{Q:Exit→Act→World→Prop}
theorem gY(b:Nat):∀(vs:List Value)(o:Nat)(w:World)(arr:Array Value)(e:TypeId)(fz:Nat×Nat),w.heap[b]? =some (.cells arr e fz)→
  (∃arr',(w.setCells b o vs).heap[b]? =some (.cells arr' e fz)∧arr'.size=arr.size)∧(∀b',b'≠b→(w.setCells b o vs).heap[b']? =w.heap[b']?)∧
   (w.setCells b o vs).heap.size=w.heap.size∧(w.setCells b o vs).os=w.os∧(w.setCells b o vs).tape=w.tape∧(w.setCells b o vs).output=w.output
 | [],o,w,arr,e,fz,h=>⟨⟨arr,h,rfl⟩,fun _ _=>rfl,rfl,rfl,rfl,rfl⟩
 |v::vs,o,w,arr,e,fz,h=>by
  have h1:(w.setCell ⟨b,o,none⟩ v).heap[b]? =some (.cells (arr.setIfInBounds o v) e fz):=by
   simp[World.setCell,Array.getElem?_modify,h]
  obtain⟨⟨arr',k1,k2⟩,k3,k4,k5,k6,k7⟩:=gY b vs (o+1) (w.setCell ⟨b,o,none⟩ v) _ e fz h1
  refine⟨⟨arr',k1,by simpa using k2⟩,fun b' hb=>?_,k4.trans (by simp[World.setCell]),k5,k6,k7⟩
  rw[show (w.setCells b o (v::vs))=(w.setCell ⟨b,o,none⟩ v).setCells b (o+1) vs from rfl,k3 b' hb]
  simp only[World.setCell,Array.getElem?_modify]
  rw[if_neg (by simpa using Ne.symm hb)]
theorem acC{k:EK}{o:Fl}{xs:List (Ty k)}{cv:Value}(h:VRel g.I g.ρ s.hp.length w (.sl k o xs) cv):
  ∃(L:List Value),L.length=xs.length*k.sz∧(∀u∈L,u.oneCell'=true)∧
   (∀(i:Nat) x (j:Nat) v,xs[i]? =some x→(enc k x)[j]? =some v→∃u,L[i*k.sz+j]? =some u∧VRel g.I g.ρ s.hp.length w v u)∧
   ((xs=[]∧∃ad,cv=.slice ad 0 0∧(o=.own→ad=none))∨∃b off cap,cv=.slice (some ⟨b,off,none⟩) xs.length cap∧xs.length≤cap∧cap≤cb∧∀(j:Nat) u,L[j]? =some u→w.cell? ⟨b,off+j,none⟩=some u):=by
 cases h with
 |sln=>exact⟨[],by simp,by simp,by simp,.inl ⟨rfl,none,rfl,fun _=>rfl⟩⟩
 |sle _ _ ad ho=>exact⟨[],by simp,by simp,by simp,.inl ⟨rfl,some ad,rfl,fun h=>absurd h ho⟩⟩
 |sl _ _ _ b off len cap hl hc hm hf f hI hw hv=>
  subst hl
  have hk0:0<k.sz:=by cases k<;>simp[EK.sz]
  have hdm:∀(i j:Nat),j<k.sz→(i*k.sz+j) / k.sz=i∧(i*k.sz+j)%k.sz=j:=by
   intro i j hj
   constructor
   ·rw[Nat.add_comm,Nat.add_mul_div_right _ _ hk0,Nat.div_eq_of_lt hj];omega
   ·rw[Nat.add_comm,Nat.add_mul_mod_self_right,Nat.mod_eq_of_lt hj]
  have hget:∀(q:Nat),q<xs.length*k.sz→q / k.sz<xs.length∧q%k.sz<k.sz∧q / k.sz*k.sz+q%k.sz=q:=by
   intro q hq
   exact⟨Nat.div_lt_of_lt_mul (by rwa [Nat.mul_comm]),Nat.mod_lt _ hk0,Nat.div_add_mod' q k.sz⟩
  refine⟨(List.range (xs.length*k.sz)).map fun q=>f (q / k.sz) (q%k.sz),by simp,?_,?_,.inr ⟨b,off,cap,rfl,hc,hm,?_⟩⟩
  ·intro u hu
   obtain⟨q,hq,rfl⟩:=List.mem_map.1 hu
   obtain⟨h1,h2,h3⟩:=hget q (by simpa using hq)
   have hx:xs[q / k.sz]? =some xs[q / k.sz]:=List.getElem?_eq_getElem h1
   have hj:q%k.sz<(enc k xs[q / k.sz]).length:=by rw[bV];exact h2
   exact(hv _ _ _ _ hx (List.getElem?_eq_getElem hj)).oneCell (qM _ _ _ (List.getElem_mem hj))
  ·intro i x j v hx hv'
   have hj:j<k.sz:=by
    have:=(List.getElem?_eq_some_iff.1 hv').1
    rwa [bV] at this
   have hi:i<xs.length:=(List.getElem?_eq_some_iff.1 hx).1
   have hlt:i*k.sz+j<xs.length*k.sz:=by
    calc i*k.sz+j<i*k.sz+k.sz:=by omega
     _=(i+1)*k.sz:=by rw[Nat.add_mul,Nat.one_mul]
     _≤xs.length*k.sz:=Nat.mul_le_mul_right _ hi
   obtain⟨d1,d2⟩:=hdm i j hj
   refine⟨f i j,?_,hv i x j v hx hv'⟩
   simp[List.getElem?_map,List.getElem?_range hlt,d1,d2]
  ·intro j u hu
   rw[List.getElem?_map,Option.map_eq_some_iff] at hu
   obtain⟨q,hq,rfl⟩:=hu
   obtain⟨hlt,rfl⟩:=List.getElem?_eq_some_iff.1 hq
   simp only[List.length_range] at hlt
   obtain⟨h1,h2,h3⟩:=hget j hlt
   have hx:xs[j / k.sz]? =some xs[j / k.sz]:=List.getElem?_eq_getElem h1
   have:=hw _ _ (j%k.sz) hx (by rw[bV];exact h2)
   rw[show off+j / k.sz*k.sz+j%k.sz=off+j by omega] at this
   simpa using this
theorem SR.inPlace(h:SR g s w a){p:Occ}(hp:pu (some p) s)(k:EK)(xs ys:List (Ty k))(b off cap d:Nat)(news:List Value)
  (hx:VRel g.I g.ρ s.hp.length w (.sl k .own xs) (.slice (some ⟨b,off,none⟩) xs.length cap)) (ho:ax g w p (.sl k .own xs) (.slice (some ⟨b,off,none⟩) xs.length cap))
  (hroom:xs.length+ys.length≤cap) (hl:news.length=ys.length*k.sz)
  (hv:∀(i:Nat) x (j:Nat) v,ys[i]? =some x→(enc k x)[j]? =some v→∃u,news[i*k.sz+j]? =some u∧VRel g.I g.ρ s.hp.length w v u):
  ∃g',SR g' (s.set d (.sl k .own (xs++ys))) (w.setCells b (off+xs.length*k.sz) news) (a.put (some d) (.slice (some ⟨b,off,none⟩) (xs.length+ys.length) cap))∧
   FR g s.hp w g' s.hp (w.setCells b (off+xs.length*k.sz) news):=by
 obtain⟨o1,⟨arr,e,fz,o2,o3,oβ⟩,o4⟩:=ho
 simp only at o1 o2 o3 o4
 let st:=off+xs.length*k.sz
 have hend:st+news.length≤off+cap*k.sz:=by
  have:(xs.length+ys.length)*k.sz≤cap*k.sz:=Nat.mul_le_mul_right _ hroom
  rw[Nat.add_mul] at this
  simp only[st,hl]
  omega
 obtain⟨⟨arr',q1,q2⟩,q3,q4,q5,q6,q7⟩:=gY b news st w arr e fz o2
 let w':=w.setCells b st news
 let g':Gh:={I:=fun b' j=>g.I b' j∨(b'=b∧st≤j∧j<st+news.length),ρ:=g.ρ,O:=fun b'=>if b'=b then some (.slot d) else g.O b',β:=g.β}
 have tail:∀j,st≤j→j<off+cap*k.sz→¬g.I b j:=fun j h1 h2=>(o4 j h1 h2).1
 have cello:∀b' j,g.I b' j→w'.cell? ⟨b',j,none⟩=w.cell? ⟨b',j,none⟩:=by
  intro b' j hi
  refine World.cell?_setCells_out b news st w _ ?_
  rintro rfl _
  rcases Nat.lt_or_ge j st with h1|h1
  ·exact .inl h1
  ·rcases Nat.lt_or_ge j (off+cap*k.sz) with h2|h2
   ·exact absurd hi (tail j h1 h2)
   ·right;show st+news.length≤j;omega
 have celln:∀j (hj:j<news.length),w'.cell? ⟨b,st+j,none⟩=some news[j]:=by
  intro j hj
  refine World.cell?_setCells_in b news st w (fun j' hj'=>?_) j hj
  rw[aD o2,Array.getElem?_eq_getElem (by omega)]
  rfl
 have hbo:∀(id:Nat) cs,s.hp[id]? =some (some cs)→g.ρ id≠b:=by
  intro id cs hid e'
  have:=h.hr.notO id cs hid
  rw[e',o1] at this
  simp at this
 have u:Up g.I g.ρ s.hp.length w g'.I g'.ρ s.hp.length w':=⟨fun b j hi=>.inl hi,cello,fun _ _=>rfl,Nat.le_refl _⟩
 have hs:SR g' s w' a:=by
  refine h.keep (some p) hp rfl u ?_ ?_ ?_ ?_
  ·intro occ b' hb' hne
   have hbb:b'≠b:=by
    rintro rfl
    rw[o1] at hb'
    exact hne hb'
   refine⟨by simp[g',hbb,hb'],q3 b' hbb,?_⟩
   rintro j (hj|⟨hj,_⟩)
   ·exact hj
   ·exact absurd hj hbb
  ·intro id cs hid
   have hbb:=hbo id cs hid
   refine⟨q3 _ hbb,by simp[g',hbb,h.hr.notO id cs hid],?_⟩
   rintro j (hj|⟨hj,_⟩)
   ·exact hj
   ·exact absurd hj hbb
  ·rintro b' j (hj|⟨rfl,h1,h2⟩)
   ·rw[cello b' j hj];exact h.hr.exI b' j hj
   ·have:=celln (j-st) (by omega)
    rw[show st+(j-st)=j by omega] at this
    rw[this];rfl
  ·intro b' o hb'
   simp only[g'] at hb'
   rw[q4]
   split at hb'
   ·rename_i e';subst e';exact h.hr.oLt _ _ o1
   ·exact h.hr.oLt _ _ hb'
 obtain⟨L,l1,l2,l3,l4⟩:=acC hx
 have hcm:cap≤cb:=by
  cases hx with
  |sle _ _ _ ho=>exact absurd rfl ho
  |sl=>assumption
 have hnth:∀(i:Nat) x,(xs++ys)[i]? =some x→(i<xs.length∧xs[i]? =some x)∨(xs.length≤i∧ys[i-xs.length]? =some x):=by
  intro i x hi
  rcases Nat.lt_or_ge i xs.length with h1|h1
  ·rw[List.getElem?_append_left h1] at hi
   exact .inl ⟨h1,hi⟩
  ·rw[List.getElem?_append_right h1] at hi
   exact .inr ⟨h1,hi⟩
 have hpos:∀(i j:Nat),xs.length≤i→off+i*k.sz+j=st+((i-xs.length)*k.sz+j):=by
  intro i j hi
  have:i*k.sz=xs.length*k.sz+(i-xs.length)*k.sz:=by rw[←Nat.add_mul];congr 1;omega
  simp only[st]
  omega
 have hrel:VRel g'.I g'.ρ s.hp.length w' (.sl k .own (xs++ys)) (.slice (some ⟨b,off,none⟩) (xs.length+ys.length) cap):=by
  cases hx with
  |sle _ _ _ ho=>exact absurd rfl ho
  |sl _ _ _ _ _ _ _ hl' hc' hm' hfl f hI hw hv'=>
  refine .sl k .own _ _ _ _ _ (by simp) (by simpa using hroom) hcm (by simp) (fun i j=>if i<xs.length then f i j else news[(i-xs.length)*k.sz+j]?.getD undef) ?_ ?_ ?_
  ·intro i x j hi hj
   rcases hnth i x hi with⟨h1,h2⟩|⟨h1,h2⟩
   ·exact .inl (hI i x j h2 hj)
   ·obtain⟨u,hu,_⟩:=hv _ x j _ h2 (List.getElem?_eq_getElem hj)
    have:=(List.getElem?_eq_some_iff.1 hu).1
    refine .inr ⟨rfl,?_⟩
    rw[hpos i j h1]
    omega
  ·intro i x j hi hj
   rcases hnth i x hi with⟨h1,h2⟩|⟨h1,h2⟩
   ·simp only[h1,if_true]
    rw[cello _ _ (hI i x j h2 hj)]
    exact hw i x j h2 hj
   ·obtain⟨u,hu,_⟩:=hv _ x j _ h2 (List.getElem?_eq_getElem hj)
    have hlt:=(List.getElem?_eq_some_iff.1 hu).1
    simp only[Nat.not_lt.2 h1,if_false]
    rw[hpos i j h1,celln _ hlt,List.getElem?_eq_getElem hlt]
    rfl
  ·intro i x j v hi hj
   rcases hnth i x hi with⟨h1,h2⟩|⟨h1,h2⟩
   ·simp only[h1,if_true]
    exact(hv' i x j v h2 hj).up u
   ·obtain⟨u',hu,hr⟩:=hv _ x j v h2 hj
    simp only[Nat.not_lt.2 h1,if_false,hu]
    exact hr.up u
 refine⟨g',hs.set d hrel ?_,⟨rfl,q5,q6,q7,by rw[q4];exact Nat.le_refl _,fun b' hb' _ hO=>?_,u,?_,?_,fun _ cs h=>.inl ⟨cs,h⟩⟩⟩
 ·refine⟨by simp[g'],⟨arr',e,fz,q1,by rw[q2];exact o3,oβ⟩,?_⟩
  intro j h1 h2
  simp only at h1 h2
  have hst:st+news.length≤j:=by
   simp only[st,hl]
   rw[Nat.add_mul] at h1
   omega
  have:=o4 j (by simp only[st] at hst;omega) h2
  refine⟨?_,?_⟩
  ·rintro(hi|⟨_,_,hi⟩)
   ·exact this.1 hi
   ·omega
  ·rw[World.frozen?_setCells];exact this.2
 ·have hbb:b'≠b:=by rintro rfl;rw[o1] at hO;simp at hO
  exact q3 b' hbb
 ·rintro b' j hb' _ hO (hj|⟨hj,_⟩)
  ·exact hj
  ·subst hj;rw[o1] at hO;simp at hO
 ·intro b' hb' _ hO
  have hbb:b'≠b:=by rintro rfl;rw[o1] at hO;simp at hO
  simp[g',hbb,hO]
theorem ah7{k k':EK}(h:k'=k){o:Fl}{m:List (Ty k')}{I:Nat→Nat→Prop}{ρ:Nat→Nat}{N:Nat}{w:World}{cv:Value}(r:VRel I ρ N w (.sl k' o m) cv):VRel I ρ N w (.sl k o (h▸m)) cv:=by
 subst h;exact r
theorem abY{k k':EK}(h:k'=k)(m:List (Ty k')):(h▸m:List (Ty k)).length=m.length:=by subst h;rfl
theorem abn(hβ:g.β=iW P){d:Nat}{k:EK}{x:ASrc}{x' y':Operand}{xs ys:List (Ty k)}{ty t u e:TypeId}{pos:String}{aft:Array Edge}{gd:Option (Nat×Bool)}(h:SR g s w a)
  (hx:aI x x'=true) {o:Fl} (hxe:x.ev s=.sl k o xs) (happ:o.app ys.length=true) (ut:P.underlying t=some (.slice e)) (he:rq P e k=true) (news:List Value)
  (hs:_root_.Go.Src P k.sz u (a.eval y') ys.length news w) (hv:∀(i:Nat) x (j:Nat) v,ys[i]? =some x→(enc k x)[j]? =some v→∃u,news[i*k.sz+j]? =some u∧VRel g.I g.ρ s.hp.length w v u)
  (hfit:(xs.length+ys.length)*k.bytes≤mN)
  (hn:bH g s w a ((x.after s).set d (.sl k .own (xs++ys))) next):
  (⟨some d,.call ⟨.builtin .append,⟨[x',y']⟩,⟨[t,u]⟩⟩,ty,pos,aft,gd⟩:Oper).wp P a w next Q:=by
 obtain⟨inf,z,i1,i2,i3,i4,i5,i6,i7⟩:=d8 he
 have r1:=aK hx h.er
 rw[hxe] at r1
 have hkb:0<k.bytes:=by cases k<;>simp[EK.bytes];rename_i kk;cases kk<;>simp[abS]
 have hlen:xs.length+ys.length≤mN:=Nat.le_trans (Nat.le_mul_of_pos_right _ hkb) hfit
 have hown:o=.own→∃p,pu (some p) (x.after s)∧ax g w p (.sl k .own xs) (a.eval x'):=by
  rintro rfl
  unfold aI at hx
  split at hx
  ·rename_i n k'
   obtain rfl:=by simpa using hx
   simp only[ASrc.ev] at hxe
   exfalso
   cases hg:s.get n<;>rw[hg] at hxe<;>simp[disown] at hxe
   rename_i o' _
   cases o'<;>simp[Fl.dis] at hxe
  ·rename_i n k'
   obtain rfl:=by simpa using hx
   refine⟨.slot n,rl n s,?_⟩
   have:=h.er.getOwn n
   rwa [show s.get n=.sl k .own xs from hxe] at this
  ·rename_i v cv
   simp only[ASrc.ev] at hxe
   subst hxe
   exact⟨.res,trivial,ri hx _⟩
  ·rename_i f hf
   simp only[ASrc.ev] at hxe
   cases hxe
  ·simp at hx
 have h1:=h.after x
 obtain⟨L,l1,l2,l3,l4⟩:=acC r1
 have hrun:∀cv w',(Builtin.append_ #[t,u] ty #[a.eval x',a.eval y']).run P w=.ok cv w'→(execOp a.eval ⟨some d,.call ⟨.builtin .append,⟨[x',y']⟩,⟨[t,u]⟩⟩,ty,pos,aft,gd⟩).run P w=.ok (.value cv) w':=by
  intro cv w' hr
  simp[execOp,resolve,invoke,builtin,hr]
 have hhp:(x.after s).hp=s.hp:=kH x s
 have grow:∀(base:Option Addr)(cap:Nat),a.eval x'=.slice base xs.length cap→cap<xs.length+ys.length→
   (Builtin.firstCells k.sz xs.length (.slice base xs.length cap)).run P w.drew=.ok L.toArray w.drew→
   (⟨some d,.call ⟨.builtin .append,⟨[x',y']⟩,⟨[t,u]⟩⟩,ty,pos,aft,gd⟩:Oper).wp P a w next Q:=by
  intro base cap hb hcap hold
  have hr:=run_append_grow_src w t u ty e inf z ut i1 i4 base xs.length cap L (by rw[i2];exact hold) (a.eval y') ys.length news (by rw[i2];exact hs) hcap (by unfold mN at hlen;omega)
   (growslice_fits hcap (by rw[i3];exact hfit))
  have hcapn:xs.length+ys.length≤grownCap w (xs.length+ys.length) cap e:=by
   unfold grownCap Question.cut
   exact Nat.le_add_right _ _
  have hcm:grownCap w (xs.length+ys.length) cap e≤cb:=by
   have:=grownCap_le_maxLen w (xs.length+ys.length) cap e (by unfold maxLen;unfold mN at hlen;omega)
   simpa [maxLen,cb] using this
  let arr:Array Value:=(L++news).toArray++Builtin.zeroCells z.cells (grownCap w (xs.length+ys.length) cap e-(xs.length+ys.length))
  have hnl:=hs.newsLen
  have harr:arr.size=grownCap w (xs.length+ys.length) cap e*k.sz:=by
   simp only[arr,Array.size_append,List.size_toArray,List.length_append,l1,hnl,size_zeroCells,i7]
   rw[←Nat.add_mul,←Nat.add_mul]
   congr 1
   omega
  have f:=fQ w.drew (.cells arr e)
  obtain⟨g',q1,q2⟩:=h1.newRow (w':=w.drew.alloc (.cells arr e)) k (xs++ys) (grownCap w (xs.length+ys.length) cap e) d arr e (0,0) f.1 f.2.1 f.2.2 rfl rfl rfl (o:=.own) (by simp) (by simpa using hcapn) hcm (by rw[harr];exact Nat.le_refl _) (fun hk=>by rw[hβ];exact rk he hk) (by intro j h1 h2;omega) (by
   intro i x j v hx hv'
   have hj:j<k.sz:=by
    have:=(List.getElem?_eq_some_iff.1 hv').1
    rwa [bV] at this
   have hleft:∀(q:Nat) u,(L++news)[q]? =some u→arr[q]? =some u:=by
    intro q u hq
    have hlt:=(List.getElem?_eq_some_iff.1 hq).1
    simp only[arr]
    rw[Array.getElem?_append_left (by simpa using hlt)]
    simpa using hq
   rcases Nat.lt_or_ge i xs.length with hi|hi
   ·rw[List.getElem?_append_left hi] at hx
    obtain⟨u,e1,e2⟩:=l3 i x j v hx hv'
    refine⟨u,hleft _ _ ?_,by rw[hhp];exact e2⟩
    rw[List.getElem?_append_left (List.getElem?_eq_some_iff.1 e1).1]
    exact e1
   ·rw[List.getElem?_append_right hi] at hx
    obtain⟨u,e1,e2⟩:=hv _ x j v hx hv'
    refine⟨u,hleft _ _ ?_,by rw[hhp];exact e2⟩
    have:i*k.sz=xs.length*k.sz+(i-xs.length)*k.sz:=by rw[←Nat.add_mul];congr 1;omega
    rw[List.getElem?_append_right (by rw[l1];omega),l1,←e1]
    congr 1
    omega)
  have hgoal:(execOp a.eval ⟨some d,.call ⟨.builtin .append,⟨[x',y']⟩,⟨[t,u]⟩⟩,ty,pos,aft,gd⟩).run P w=.ok (.value (.slice (some ⟨w.heap.size,0,none⟩) (xs++ys).length (grownCap w (xs.length+ys.length) cap e))) (w.drew.alloc (.cells arr e)):=by
   refine hrun _ _ ?_
   rw[hb,hr]
   simp[arr]
  refine cN rfl hgoal ⟨g',q1,?_⟩ hn
  rw[hhp] at q2
  show FR g s.hp w g' (x.after s).hp _
  rw[hhp]
  exact q2
 rcases l4 with⟨rfl,ad,hcv,had⟩|⟨b,off,cap,hcv,hcap,hcm,hcells⟩
 ·by_cases h0:ys.length=0
  ·have hy0:ys=[]:=List.eq_nil_of_length_eq_zero h0
   subst hy0
   obtain rfl:ad=none:=had (by
    cases o with
    |own=>rfl
    |may u=>simp[Fl.app] at happ)
   have hr:(Builtin.append_ #[t,u] ty #[a.eval x',a.eval y']).run P w=.ok (.slice none 0 0) w:=by
    have hnews:news=[]:=by have:=hs.newsLen;simpa using this
    have hc:=hs.cells
    rw[hcv]
    rcases hs.kind with⟨e',hk⟩|hk<;>simp[Builtin.append_,run_underlying ut,run_underlying hk,sizeOf,typeInfo,i1,i2,hs.len] at* <;>simp[hc]
   refine cN rfl (hrun _ _ hr) ⟨g,?_,?_⟩ hn
   ·exact h1.set d (by simpa using VRel.sln (I:=g.I) (ρ:=g.ρ) (N:=(x.after s).hp.length) (w:=w) k .own) (by simp[ax])
   ·have:=FR.refl g s.hp w
    simpa [St.set,hhp] using this
  ·exact grow ad 0 (by simpa using hcv) (by simp;omega) (by
    have hL:L=[]:=by simpa using l1
    subst hL
    cases ad with
    |none=>simpa using run_firstCells_none (P:=P) w.drew k.sz 0 0 0
    |some ad=>simpa using run_firstCells_some (P:=P) w.drew k.sz 0 ad 0 0 [] (by simp) (by intro j v hj;simp at hj))
 ·by_cases hroom:xs.length+ys.length≤cap
  ·have hown':o=.own:=by
    cases o with
    |own=>rfl
    |may u=>
     simp only[Fl.app,Bool.and_eq_true,decide_eq_true_eq] at happ
     obtain⟨rfl,hpos⟩:=happ
     rw[hcv] at r1
     have:=r1.full
     omega
   subst hown'
   obtain⟨p,hp,ho⟩:=hown rfl
   rw[hcv] at ho r1
   obtain⟨o1,⟨arr,e',fz,o2,o3⟩,o4⟩:=ho
   simp only at o1 o2 o3 o4
   have hend:off+xs.length*k.sz+news.length≤off+cap*k.sz:=by
    have:(xs.length+ys.length)*k.sz≤cap*k.sz:=Nat.mul_le_mul_right _ hroom
    rw[Nat.add_mul] at this
    rw[hs.newsLen]
    omega
   have hr:=run_append_room_src w t u ty e inf ut i1 b off xs.length cap (a.eval y') ys.length news (by rw[i2];exact hs) hroom (by
    intro j hj
    rw[i2,aD o2,Array.getElem?_eq_getElem (by omega)]
    rfl) (by
    intro j hj
    rw[i2]
    exact(o4 _ (by omega) (by omega)).2)
   rw[i2] at hr
   have q:=h1.inPlace hp k xs ys b off cap d news (by rw[hhp];exact r1) ⟨o1,⟨arr,e',fz,o2,o3⟩,o4⟩ hroom hs.newsLen (by rw[hhp];exact hv)
   rw[hhp] at q
   refine cN rfl (hrun _ _ (by rw[hcv];exact hr)) ?_ hn
   obtain⟨g',q1,q2⟩:=q
   exact⟨g',q1,by simpa [St.set,hhp] using q2⟩
  ·exact grow _ cap hcv (by omega) (run_firstCells_some w.drew k.sz xs.length ⟨b,off,none⟩ xs.length cap L (by simpa using l1) (by
    intro j v hj
    rw[Addr.add_lit]
    exact hcells j v hj))
theorem aly{d:Nat}{k:EK}{x y:ASrc}(hβ:g.β=iW P)(hc:nH P (.app d k x y) m=true)(hs:step Γ (.app d k x y) s=some (true,s'))(h:SR g s w a)(hn:bH g s w a s' next):m.wp P a w next Q:=by
 obtain⟨dst,op,ty,pos,aft,gd⟩:=m
 simp only[nH,Bool.and_eq_true,beq_iff_eq] at hc
 obtain⟨rfl,hc⟩:=hc
 split at hc
 ·rename_i x' y' t u hop
  obtain rfl:=hJ hop
  simp only[Bool.and_eq_true] at hc
  obtain⟨h1,h2,h3,h4⟩:=hc
  obtain⟨e,u1,e1⟩:=b9 h1
  obtain⟨e',u2,e2⟩:=b9 h2
  simp only[step] at hs
  split at hs
  ·rename_i k' ox l k'' o mm hx hy
   split at hs
   ·rename_i hk
    subst hk
    split at hs
    ·rename_i hkk
     simp only[Option.some.injEq,Prod.mk.injEq,Bool.and_eq_true,decide_eq_true_eq] at hs
     obtain⟨⟨happ,hfit⟩,rfl⟩:=hs
     have r2:=aK h4 h.er
     rw[hy] at r2
     have r2:=ah7 hkk r2
     obtain⟨L,l1,l2,l3,l4⟩:=acC r2
     refine abn hβ h h3 hx (by rw[abY];exact happ) u1 e1 L (ys:=hkk▸mm) ?_ l3 (by rw[abY];exact hfit) hn
     rcases l4 with⟨hnil,ad,hcv, -⟩|⟨b,off,cap,hcv,hcap,hcm,hcells⟩
     ·rw[hcv,hnil]
      have hL:L=[]:=by rw[hnil] at l1;simpa using l1
      rw[hL]
      cases ad with
      |none=>exact _root_.Go.Src.ofNil w u2 0
      |some ad=>exact _root_.Go.Src.ofSlice w u2 _ _ _ _ (by simp) (by intro j v hj;simp at hj) (by simp)
     ·rw[hcv]
      exact _root_.Go.Src.ofSlice w u2 _ _ _ _ l1 (by intro j v hj;rw[Addr.add_lit];exact hcells j v hj) l2
    ·simp at hs
   ·simp at hs
  ·simp at hs
 ·simp at hc
theorem ak2{d:Nat}{x y:ASrc}(hβ:g.β=iW P)(hc:nH P (.apps d x y) m=true)(hs:step Γ (.apps d x y) s=some (true,s'))(h:SR g s w a)(hn:bH g s w a s' next):m.wp P a w next Q:=by
 obtain⟨dst,op,ty,pos,aft,gd⟩:=m
 simp only[nH,Bool.and_eq_true,beq_iff_eq] at hc
 obtain⟨rfl,hc⟩:=hc
 split at hc
 ·rename_i x' y' t u hop
  obtain rfl:=hJ hop
  simp only[Bool.and_eq_true] at hc
  obtain⟨h1,h2,h3,h4⟩:=hc
  obtain⟨e,u1,e1⟩:=b9 h1
  split at h2
  ·rename_i u2
   simp only[step] at hs
   split at hs
   ·rename_i l mm hx hy
    simp only[Option.some.injEq,Prod.mk.injEq,decide_eq_true_eq] at hs
    obtain⟨hfit,rfl⟩:=hs
    have r2:=aK h4 h.er
    rw[hy] at r2
    generalize hcv:a.eval y'=cv at r2
    cases r2 with
    |str _ b hl hm=>
    subst hl
    refine abn hβ (k:=.u8) (ys:=b.data.toList) h h3 hx rfl u1 e1 (byteCells b) ?_ ?_ (by simpa [EK.bytes] using hfit) hn
    ·rw[hcv]
     have:=_root_.Go.Src.ofString (P:=P) w u2 b
     rw[←mi] at this
     exact this
    ·intro i x j v hxi hv
     have hj:j=0:=by
      have:=(List.getElem?_eq_some_iff.1 hv).1
      simp[enc] at this
      exact this
     subst hj
     simp[enc] at hv
     subst hv
     refine⟨.int .u8 x.toNat,?_,.int _ _ (acy x)⟩
     simp only[byteCells,EK.sz,Nat.mul_one,Nat.add_zero,List.getElem?_map,hxi,Option.map_some]
   ·simp at hs
  ·simp at h2
 ·simp at hc
end
end Go.AM
end
noncomputable section
namespace Go.AM
set_option autoImplicit false
set_option linter.unusedSimpArgs false
set_option linter.unusedVariables false
def aje(e:TypeId)(o:Nat):Field:={(default:Field) with type:=e,offset:=o}
def ajW(n sz:Nat)(e:TypeId):Array Field:=⟨(List.range n).map fun i=>aje e (i*sz)⟩
def j7(P:Program)(o:IOp)(m:Oper):Bool:=
 match o with
 | .new d zero=>(m.dst==some d)&&(match m.op with| .alloc t=>acA P t zero|_=>false)
 | .box d x=>(m.dst==some d)&&(match m.op with| .box t y=>aI x y&&abU x|_=>false)
 | .st d n x v=>(m.dst==d)&&(match m.op with| .store t x' v'=>(dM P t==some n)&&(aI x x'&&aI v v')|_=>false)
 | .ld d n agg true x=>(m.dst==some d)&&(match m.op with| .load t x'=>(dM P t==some n)&&((j6 P t==some agg)&&((!agg&&n==1)&&aI x x'))|_=>false)
 | .bld d zero ps=>(m.dst==some d)&&(match m.op with| .build t qs=>acA P t zero&&(match P.underlying t with|some (.struct fs)=>sP P fs ps qs.toList&&fs.all (fun f=>(P.info? f.type).isSome)|some (.array n e)=>(match dM P e with|some sz=>sP P (ajW n sz e) ps qs.toList|none=>false)|_=>false)|_=>false)
 |_=>false
section
variable{w w':World}{g g':Gh}{s s':St}{a:Act}{P:Program}{Γ:az}{m:Oper}{next:Act→World→Prop}{Q:Exit→Act→World→Prop}
theorem sQ{t:TypeId}{zero:List V}(h:acA P t zero=true):∃i z,P.info? t=some i∧i.zero=some z∧fE zero z.cells.toList=true:=by
 unfold acA at h
 split at h
 ·rename_i i hi
  split at h
  ·rename_i z hz
   exact⟨i,z,hi,hz,h⟩
  ·simp at h
 ·simp at h
theorem cZ.own{c:V}{cv:Value}(h:cZ c cv)(g:Gh)(w:World)(occ:Occ):ax g w occ c cv:=by
 unfold ax
 split
 ·simp[cZ] at h
 ·simp[cZ] at h
 ·exact .inl ⟨List.eq_nil_of_length_eq_zero h.1,h.2⟩
 ·trivial
theorem af3{cs:List V}{arr:Array Value}(h:fE cs arr.toList=true){e:TypeId}:∀(j E n:Nat),cs[j]? =some (.bn E n)→E=e∧n=arr.size∧arr[j]? =some (.pointer none):=by
 intro j E n hj
 exfalso
 have hl:=(lw (I:=fun _ _=>False) (ρ:=fun x=>x) (N:=0) (w:=default) h).1
 have hlt:=(List.getElem?_eq_some_iff.1 hj).1
 have:=lv h j _ (arr.toList[j]'(by omega)) hj (List.getElem?_eq_getElem (by omega))
 simp[cZ] at this
theorem ajX{cs:List V}{arr:Array Value}{e:TypeId}(hl:cs.length=arr.size)(hb:∀(i:Nat) c cv,cs[i]? =some c→arr[i]? =some cv→cZ c cv):∀(j E n:Nat),cs[j]? =some (.bn E n)→E=e∧n=arr.size∧arr[j]? =some (.pointer none):=by
 intro j E n hj
 exfalso
 have hlt:=(List.getElem?_eq_some_iff.1 hj).1
 have:=hb j _ (arr[j]'(by omega)) hj (Array.getElem?_eq_getElem (by omega))
 simp[cZ] at this
theorem SR.newObj(h:SR g s w a)(cs:List V)(arr:Array Value)(e:TypeId)(hl:cs.length=arr.size)(h1:∀c∈cs,c.one=true)
  (hv:∀(i:Nat) c cv,cs[i]? =some c→arr[i]? =some cv→VRel g.I g.ρ s.hp.length w c cv) (hb:∀(i:Nat) c cv,cs[i]? =some c→arr[i]? =some cv→noBn c=true→cZ c cv)
  (hbn:∀(j E n:Nat),cs[j]? =some (.bn E n)→E=e∧n=arr.size∧arr[j]? =some (.pointer none)) (d:Nat):
  ∃g',SR g' {s.set d (.ptr s.hp.length 0) with hp:=s.hp++[some cs]} (w.alloc (.cells arr e)) (a.put (some d) (.pointer (some ⟨w.heap.size,0,none⟩)))∧
   FR g s.hp w g' (s.hp++[some cs]) (w.alloc (.cells arr e)):=by
 obtain⟨f1,f2,f3⟩:=fQ w (.cells arr e)
 let w':=w.alloc (.cells arr e)
 let g':Gh:={g with ρ:=fun id=>if id=s.hp.length then w.heap.size else g.ρ id}
 have ilt:∀b j,g.I b j→b<w.heap.size:=by
  intro b j hi
  obtain⟨v,hv⟩:=Option.isSome_iff_exists.1 (h.hr.exI b j hi)
  exact World.block_lt_of_cell? _ _ hv
 have cello:∀b j,b<w.heap.size→w'.cell? ⟨b,j,none⟩=w.cell? ⟨b,j,none⟩:=by
  intro b j hb
  simp only[w',World.cell?,f2 b hb]
 have u:Up g.I g.ρ s.hp.length w g'.I g'.ρ (s.hp++[some cs]).length w':=
  ⟨fun b j hi=>hi,fun b j hi=>cello b j (ilt b j hi),fun id hid=>by simp[g',Nat.ne_of_lt hid],by simp⟩
 have olt:∀(id:Nat) cs,s.hp[id]? =some (some cs)→g.ρ id<w.heap.size:=by
  intro id cs hid
  exact(h.hr.obj id cs hid).lt
 have okeep:∀occ v cv,ax g w occ v cv→ax g' w' occ v cv:=by
  intro occ v cv ho
  refine bK ho rfl (fun b j hi=>⟨u.mono b j hi,u.cell b j hi⟩) ?_
  intro b hb
  exact⟨hb,f2 b (h.hr.oLt b occ hb),fun j hj=>hj⟩
 have split:∀(id:Nat) o,(s.hp++[some cs])[id]? =some (some o)→(id<s.hp.length∧s.hp[id]? =some (some o))∨(id=s.hp.length∧o=cs):=by
  intro id o hid
  rcases Nat.lt_or_ge id s.hp.length with hi|hi
  ·rw[List.getElem?_append_left hi] at hid
   exact .inl ⟨hi,hid⟩
  ·rw[List.getElem?_append_right hi] at hid
   have h0:id-s.hp.length=0:=by
    rcases Nat.eq_zero_or_pos (id-s.hp.length) with h0|h0
    ·exact h0
    ·rw[List.getElem?_eq_none (by simp;omega)] at hid
     simp at hid
   rw[h0] at hid
   simp at hid
   exact .inr ⟨by omega,hid.symm⟩
 have rhoNew:g'.ρ s.hp.length=w.heap.size:=by simp[g']
 have rhoOld:∀id,id<s.hp.length→g'.ρ id=g.ρ id:=fun id hid=>by simp[g',Nat.ne_of_lt hid]
 have hs:SR g' {s with hp:=s.hp++[some cs]} w' a:=by
  refine⟨⟨?_,?_,?_,?_,?_,?_⟩,⟨h.er.size,?_,?_⟩⟩
  ·intro id o hid
   rcases split id o hid with⟨hi,hid⟩|⟨rfl,rfl⟩
   ·refine(h.hr.obj id o hid).keep ?_ fun arr' e' fz k1 k2=>⟨k2.len,k2.plain,k2.typedUp rfl u.rho u.num rfl,k2.cold,k2.one,fun j c cv hc hcv=>(k2.rel j c cv hc hcv).up u,fun j c cv hc hcv=>okeep _ _ _ (k2.own j c cv hc hcv),by rw[rhoOld id hi];exact k2.bn⟩
    rw[rhoOld id hi]
    exact f2 _ (olt id o hid)
   ·refine fP.ofRow0 ?_ ⟨hl,h1,fun j c cv hc hcv=>(hv j c cv hc hcv).up u,fun j c cv hc hcv=>?_,fun j E n hj=>⟨(hbn j E n hj).1,(hbn j E n hj).2.1,.inl (hbn j E n hj).2.2⟩⟩
    ·rw[rhoNew]
     exact f3
    ·cases hnb:noBn c with
     |true=>exact(hb j c cv hc hcv hnb).own _ _ _
     |false=>cases c<;>simp[noBn] at hnb;simp[ax]
  ·intro id id' o o' k1 k2 hne
   rcases split id o k1 with⟨hi,m1⟩|⟨e1, -⟩<;>rcases split id' o' k2 with⟨hi',m2⟩|⟨e2, -⟩
   ·rw[rhoOld _ hi,rhoOld _ hi']
    exact h.hr.apart id id' o o' m1 m2 hne
   ·rw[rhoOld _ hi,e2,rhoNew]
    exact Nat.ne_of_lt (olt id o m1)
   ·rw[rhoOld _ hi',e1,rhoNew]
    exact(Nat.ne_of_lt (olt id' o' m2)).symm
   ·exact absurd (e1.trans e2.symm) hne
  ·intro id o hid j hi
   rcases split id o hid with⟨hlt,hid⟩|⟨rfl,rfl⟩
   ·rw[rhoOld _ hlt] at hi
    exact h.hr.notI id o hid j hi
   ·rw[rhoNew] at hi
    have:=ilt _ _ hi
    omega
  ·intro id o hid
   rcases split id o hid with⟨hlt,hid⟩|⟨rfl,rfl⟩
   ·rw[rhoOld _ hlt]
    exact h.hr.notO id o hid
   ·rw[rhoNew]
    cases hO:g.O w.heap.size with
    |none=>rfl
    |some oc=>
     have:=h.hr.oLt _ _ hO
     omega
  ·intro b j hi
   rw[cello b j (ilt b j hi)]
   exact h.hr.exI b j hi
  ·intro b oc hb
   have:=h.hr.oLt b oc hb
   show b<w'.heap.size
   rw[f1]
   omega
  ·intro n v cv hv' hcv
   exact(h.er.rel n v cv hv' hcv).up u
  ·intro n v cv hv' hcv
   exact okeep _ _ _ (h.er.own n v cv hv' hcv)
 refine⟨g',?_,rfl,rfl,rfl,rfl,by rw[f1];omega,fun b hb _ _=>f2 b hb,u,fun b j _ _ _ hi=>hi,fun b _ _ hO=>hO,?_⟩
 ·have:=hs.set d (v:=.ptr s.hp.length 0) (cv:=.pointer (some ⟨w.heap.size,0,none⟩)) (by
   rw[←rhoNew]
   exact .ptr _ _ (by simp)) (by simp[ax])
  exact this
 ·intro id o hid
  rcases split id o hid with⟨hlt,hid⟩|⟨rfl,rfl⟩
  ·exact .inl ⟨o,hid⟩
  ·exact .inr ⟨Nat.le_refl _,.inl (by rw[rhoNew];exact Nat.le_refl _)⟩
theorem alz{d:Nat}{zero:List V}(hc:j7 P (.new d zero) m=true)(hs:step Γ (.new d zero) s=some (true,s'))(h:SR g s w a)(hn:bH g s w a s' next):m.wp P a w next Q:=by
 obtain⟨dst,op,ty,pos,aft,gd⟩:=m
 simp only[j7,Bool.and_eq_true,beq_iff_eq] at hc
 obtain⟨rfl,hc⟩:=hc
 split at hc
 ·rename_i t
  obtain⟨i,z,hi,hz,hcs⟩:=sQ hc
  obtain rfl:_=s':=by simpa [step] using hs
  obtain⟨k1,k2,k3⟩:=lw (I:=g.I) (ρ:=g.ρ) (N:=s.hp.length) (w:=w) hcs
  refine cN rfl (w':=w.alloc (.cells z.cells t)) (cv:=.pointer (some ⟨w.heap.size,0,none⟩)) ?_ (h.newObj zero z.cells t (by simpa using k1) k2 (fun i c cv hc hcv=>k3 i c cv hc (by simpa using hcv)) (fun i c cv hc hcv _=>lv hcs i c cv hc (by simpa using hcv)) (af3 hcs) d) hn
  simp[execOp,Instr.alloc,zeroValue,typeInfo,hi,hz,newVar,newRow]
 ·simp at hc
def af4(t n:Nat):V→Value→Bool
 | .bn E m,.pointer none=>E==t&&m==n
 | .bn _ _,_=>false
 |v,cv=>mh v cv
def sJ(t n:Nat):List V→List Value→Bool
 | [],[]=>true
 |v::vs,c::cs=>af4 t n v c&&sJ t n vs cs
 |_,_=>false
def akO(P:Program)(t:TypeId)(zero:List V):Bool:=match P.info? t with|some i=>(match i.zero with|some z=>sJ t z.cells.size zero z.cells.toList|none=>false)|none=>false
theorem abo{I:Nat→Nat→Prop}{ρ:Nat→Nat}{N t n:Nat}:∀{cs:List V}{vs:List Value},sJ t n cs vs=true→cs.length=vs.length∧(∀c∈cs,c.one=true)∧
  (∀(i:Nat) c cv,cs[i]? =some c→vs[i]? =some cv→VRel I ρ N w c cv∧(noBn c=true→cZ c cv))∧(∀(j E m:Nat),cs[j]? =some (.bn E m)→E=t∧m=n∧vs[j]? =some (.pointer none))
 | [],[],_=>⟨rfl,by simp,by simp,by simp⟩
 |v::vs,c::cs,h=>by
  simp only[sJ,Bool.and_eq_true] at h
  obtain⟨h1,h2⟩:=h
  obtain⟨k1,k2,k3,k4⟩:=abo (I:=I) (ρ:=ρ) (N:=N) h2
  have hv:v.one=true∧VRel I ρ N w v c∧(noBn v=true→cZ v c)∧(∀E m,v=.bn E m→E=t∧m=n∧c=.pointer none):=by
   cases hb:noBn v with
   |true=>
    have hc1:mh v c=true:=by
     unfold af4 at h1
     split at h1
     ·simp[noBn] at hb
     ·simp at h1
     ·exact h1
    obtain⟨q1,q2⟩:=wu (I:=I) (ρ:=ρ) (N:=N) (w:=w) hc1
    exact⟨q2,q1,fun _=>acw hc1,fun E m e=>by subst e;simp[noBn] at hb⟩
   |false=>
    cases v<;>simp[noBn] at hb
    rename_i E m
    unfold af4 at h1
    split at h1
    ·rename_i E' m' e
     cases e
     simp only[Bool.and_eq_true,beq_iff_eq] at h1
     exact⟨rfl,.bn _ _ _,by simp[noBn],fun E m e=>by cases e;exact⟨h1.1,h1.2,rfl⟩⟩
    ·simp at h1
    ·rename_i hno _
     exact absurd rfl (hno _ _)
  refine⟨by simp[k1],?_,?_,?_⟩
  ·intro x hx
   rcases List.mem_cons.1 hx with rfl|hx
   ·exact hv.1
   ·exact k2 x hx
  ·intro i x cv hx hcv
   cases i with
   |zero=>simp at hx hcv;subst hx hcv;exact⟨hv.2.1,hv.2.2.1⟩
   |succ i=>exact k3 i x cv (by simpa using hx) (by simpa using hcv)
  ·intro j E m hj
   cases j with
   |zero=>
    simp at hj
    obtain⟨e1,e2,e3⟩:=hv.2.2.2 E m hj
    exact⟨e1,e2,by simp[e3]⟩
   |succ j=>simpa using k4 j E m (by simpa using hj)
 | [],_::_,h=>by simp[sJ] at h
 |_::_,[],h=>by simp[sJ] at h
def aaS(P:Program)(o:IOp)(m:Oper):Bool:=
 match o with
 | .newb d zero=>(m.dst==some d)&&(match m.op with| .alloc t=>akO P t zero|_=>false)
 |_=>false
theorem ak3{d:Nat}{zero:List V}(hc:aaS P (.newb d zero) m=true)(hs:step Γ (.newb d zero) s=some (true,s'))(h:SR g s w a)(hn:bH g s w a s' next):m.wp P a w next Q:=by
 obtain⟨dst,op,ty,pos,aft,gd⟩:=m
 simp only[aaS,Bool.and_eq_true,beq_iff_eq] at hc
 obtain⟨rfl,hc⟩:=hc
 split at hc
 ·rename_i t
  unfold akO at hc
  split at hc
  ·rename_i i hi
   split at hc
   ·rename_i z hz
    obtain rfl:_=s':=by simpa [step] using hs
    obtain⟨k1,k2,k3,k4⟩:=abo (I:=g.I) (ρ:=g.ρ) (N:=s.hp.length) (w:=w) hc
    refine cN rfl (w':=w.alloc (.cells z.cells t)) (cv:=.pointer (some ⟨w.heap.size,0,none⟩)) ?_ (h.newObj zero z.cells t (by simpa using k1) k2 (fun i c cv hc hcv=>(k3 i c cv hc (by simpa using hcv)).1) (fun i c cv hc hcv=>(k3 i c cv hc (by simpa using hcv)).2) (fun j E n hj=>by simpa using k4 j E n hj) d) hn
    simp[execOp,Instr.alloc,zeroValue,typeInfo,hi,hz,newVar,newRow]
   ·simp at hc
  ·simp at hc
 ·simp at hc
theorem tV{I:Nat→Nat→Prop}{ρ:Nat→Nat}{N:Nat}{v:V}{cv:Value}(h:VRel I ρ N w v cv)(h1:v.cells.all V.one=true):
  v.cells.length=cv.cells.size∧(∀c∈v.cells,c.one=true)∧∀(j:Nat) c u,v.cells[j]? =some c→cv.cells[j]? =some u→VRel I ρ N w c u:=by
 have h1':∀c∈v.cells,c.one=true:=fun c hc=>List.all_eq_true.1 h1 c hc
 have h':=h
 cases h with
 |agg cs us hl2 _ hb hv=>exact⟨by simpa [V.cells,Value.cells] using hl2,h1',by simpa [V.cells,Value.cells] using hv⟩
 |undef=>simp[V.cells,V.one] at h1
 |tup=>simp[V.cells,V.one] at h1
 |junk cv ho=>
  have hcell:cv.cells= #[cv]:=by cases cv<;>simp[Value.oneCell'] at ho<;>rfl
  refine⟨by simp[V.cells,hcell],h1',?_⟩
  intro j c u h1 h2
  rw[hcell] at h2
  cases j with
  |zero=>
   simp[V.cells] at h1 h2
   subst h1 h2
   exact h'
  |succ j=>simp[V.cells] at h1
 |_=>
  refine⟨by simp[V.cells,Value.cells],h1',?_⟩
  intro j c u h1 h2
  cases j with
  |zero=>
   simp[V.cells,Value.cells] at h1 h2
   subst h1 h2
   exact h'
  |succ j=>simp[V.cells] at h1
theorem alA{d:Nat}{x:ASrc}(hc:j7 P (.box d x) m=true)(hs:step Γ (.box d x) s=some (true,s'))(h:SR g s w a)(hn:bH g s w a s' next):m.wp P a w next Q:=by
 obtain⟨dst,op,ty,pos,aft,gd⟩:=m
 simp only[j7,Bool.and_eq_true,beq_iff_eq] at hc
 obtain⟨rfl,hc⟩:=hc
 split at hc
 ·rename_i t y
  simp only[Bool.and_eq_true] at hc
  obtain⟨h1,h2⟩:=hc
  have r1:=aK h1 h.er
  have hrun:(execOp a.eval ⟨some d,.box t y,ty,pos,aft,gd⟩).run P w=.ok (.value (.pointer (some ⟨w.heap.size,0,none⟩))) (w.alloc (.cells (a.eval y).cells t)):=by
   simp[execOp,Instr.box,newVar,newRow]
  simp only[step] at hs
  split at hs
  ·rename_i cs hx
   obtain rfl:_=s':=by simpa using hs
   rw[hx] at r1
   generalize a.eval y=cv at r1 hrun
   cases r1 with
   |agg _ vs hl e1 hb hv=>
    exact cN rfl hrun (h.newObj cs vs t hl e1 hv (fun i c cv hc hcv _=>hb i c cv hc hcv) (ajX hl hb) d) hn
  ·rename_i v hx hna
   split at hs
   ·rename_i hone
    obtain rfl:_=s':=by simpa using hs
    have hcell:(a.eval y).cells= #[a.eval y]:=by
     have:=r1.oneCell hone
     cases hh:a.eval y<;>rw[hh] at this<;>simp[Value.oneCell'] at this<;>rfl
    rw[hcell] at hrun
    refine cN rfl hrun (h.newObj [disown (x.ev s)] #[a.eval y] t rfl (by simpa [kG] using hone) ?_ ?_ ?_ d) hn
    ·intro i c cv hc hcv
     cases i with
     |zero=>simp at hc hcv;subst hc hcv;exact r1.disown
     |succ i=>simp at hc
    ·intro i c cv hc hcv
     cases i with
     |zero=>intro _;simp at hc hcv;subst hc hcv;exact wt _ _
     |succ i=>simp at hc
    ·intro j E n hj
     cases j with
     |zero=>simp at hj;cases hh:x.ev s<;>rw[hh] at hj<;>simp[disown] at hj
     |succ j=>simp at hj
   ·simp at hs
 ·simp at hc
theorem ajY{x:ASrc}{y:Operand}{q:Occ}(hy:aI x y=true)(h:SR g s w a):
  ∃g₁,SR g₁ (x.after s) w a∧FR g s.hp w g₁ s.hp w∧g₁.I=g.I∧g₁.ρ=g.ρ∧ax g₁ w q (x.ev s) (a.eval y):=by
 cases x with
 |t n=>exact⟨g,h,FR.refl _ _ _,rfl,rfl,ax.disown _ _ _ _ _⟩
 |c v=>
  refine⟨g,h,FR.refl _ _ _,rfl,rfl,?_⟩
  unfold aI at hy
  split at hy
  ·rename_i e;cases e
  ·rename_i e;cases e
  ·rename_i e;cases e;exact ri hy _
  ·rename_i e;cases e;simp[ASrc.ev,ax]
  ·simp at hy
 |tk n=>
  have hy':y=.tmp n:=by
   unfold aI at hy
   split at hy
   ·rename_i e;cases e
   ·rename_i k e;cases e;rw[show k=n by simpa using (beq_iff_eq.1 hy).symm]
   ·rename_i e;cases e
   ·rename_i e;cases e
   ·simp at hy
  subst hy'
  have ho:=h.er.getOwn n
  obtain⟨g₁,h1,h2,h3,h4,h5⟩:=abX (q:=q) (h.after (.tk n)) (rl n s) ho
  exact⟨g₁,h1,by simpa [kH] using h2,h3,h4,h5⟩
theorem SR.putCells(h:SR g s w a){id o:Nat}{cs news:List V}{us:List Value}(ho:s.obj id=some cs)(hl:news.length=us.length)(h1:∀c∈news,c.one=true)
  (hle:o+news.length≤cs.length) (hv:∀(i:Nat) c cv,news[i]? =some c→us[i]? =some cv→VRel g.I g.ρ s.hp.length w c cv)
  (hown:∀(i:Nat) c cv,news[i]? =some c→us[i]? =some cv→ax g w (.cell id (o+i)) c cv) (hnb:∀(i E n:Nat),news[i]? =some (.bn E n)→cs[o+i]? =some (.bn E n)∧(us[i]? =some (.pointer none)∨us[i]? =some (.pointer (some ⟨g.ρ id,o+i,none⟩)))):
  SR g (s.setObj id (cs.take o++news++cs.drop (o+news.length))) (w.setCells (g.ρ id) o us) a∧
   FR g s.hp w g (s.hp.set id (some (cs.take o++news++cs.drop (o+news.length)))) (w.setCells (g.ρ id) o us):=by
 obtain⟨hid,hrow⟩:=fG ho
 obtain⟨arr,e,hb,hok⟩:=oP h.hr ho
 obtain⟨⟨arr',q1,q2⟩,q3,q4,q5,q6,q7⟩:=gY (g.ρ id) us o w arr e (0,0) hb
 let w':=w.setCells (g.ρ id) o us
 let cs':=cs.take o++news++cs.drop (o+news.length)
 have hlen:=hok.len
 have ilt:∀b j,g.I b j→b≠g.ρ id:=by
  rintro b j hi rfl
  exact h.hr.notI id cs hid j hi
 have cello:∀b j,g.I b j→w'.cell? ⟨b,j,none⟩=w.cell? ⟨b,j,none⟩:=by
  intro b j hi
  exact World.cell?_setCells_out _ us o w _ (fun e=>absurd e (ilt b j hi))
 have u:Up g.I g.ρ s.hp.length w g.I g.ρ s.hp.length w':=⟨fun _ _ h=>h,cello,fun _ _=>rfl,Nat.le_refl _⟩
 have okeep:∀occ v cv,ax g w occ v cv→ax g w' occ v cv:=by
  intro occ v cv hoo
  refine bK hoo rfl (fun b j hi=>⟨u.mono b j hi,u.cell b j hi⟩) ?_
  intro b hbo
  refine⟨hbo,q3 b ?_,fun j hj=>hj⟩
  rintro rfl
  rw[h.hr.notO id cs hid] at hbo
  simp at hbo
 have harr:∀j,arr'[j]? =if o≤j∧j<o+us.length then us[j-o]? else arr[j]?:=by
  intro j
  rw[←aD q1 j]
  split
  ·rename_i hj
   have:=World.cell?_setCells_in (g.ρ id) us o w (fun j' hj'=>by rw[aD hb,Array.getElem?_eq_getElem (by omega)];rfl) (j-o) (by omega)
   rw[show o+(j-o)=j by omega] at this
   rw[this,List.getElem?_eq_getElem]
  ·rename_i hj
   rw[World.cell?_setCells_out _ us o w _ (fun _ _=>by simp only;omega),aD hb]
 have hcs:∀j,cs'[j]? =if o≤j∧j<o+news.length then news[j-o]? else cs[j]?:=by
  intro j
  have ht:(cs.take o).length=o:=by simp;omega
  simp only[cs']
  split
  ·rename_i hj
   rw[List.append_assoc,List.getElem?_append_right (by omega),ht,List.getElem?_append_left (by omega)]
  ·rename_i hj
   rcases Nat.lt_or_ge j o with h'|h'
   ·rw[List.append_assoc,List.getElem?_append_left (by omega),List.getElem?_take,if_pos h']
   ·rw[List.getElem?_append_right (by simp;omega),List.getElem?_drop]
    congr 1
    simp
    omega
 have hcl:cs'.length=cs.length:=by simp[cs'];omega
 have hmem:∀c∈cs',c.one=true:=by
  intro c hc
  simp only[cs',List.mem_append] at hc
  rcases hc with(hc|hc)|hc
  ·exact hok.one c (List.mem_of_mem_take hc)
  ·exact h1 c hc
  ·exact hok.one c (List.mem_of_mem_drop hc)
 have hlt:id<s.hp.length:=(List.getElem?_eq_some_iff.1 hid).1
 have split:∀(id':Nat) o',(s.hp.set id (some cs'))[id']? =some (some o')→(id'=id∧o'=cs')∨(id'≠id∧s.hp[id']? =some (some o')):=by
  intro id' o' hq
  rw[List.getElem?_set] at hq
  split at hq
  ·rename_i e
   simp[hlt] at hq
   exact .inl ⟨e.symm,hq.symm⟩
  ·rename_i e
   exact .inr ⟨fun e'=>e e'.symm,hq⟩
 have old:∀(id':Nat) o',(s.hp.set id (some cs'))[id']? =some (some o')→∃o'',s.hp[id']? =some (some o''):=by
  intro id' o' hq
  rcases split id' o' hq with⟨rfl,_⟩|⟨_,hq⟩
  ·exact⟨cs,hid⟩
  ·exact⟨_,hq⟩
 refine⟨⟨⟨?_,?_,?_,?_,?_,?_⟩,⟨h.er.size,?_,?_⟩⟩,⟨rfl,q5,q6,q7,by rw[q4];exact Nat.le_refl _,?_,?_,fun _ _ _ _ _ hi=>hi,fun _ _ _ hO=>hO,?_⟩⟩
 ·intro id' o' hq
  simp only[St.setObj,List.length_set]
  rcases split id' o' hq with⟨rfl,rfl⟩|⟨hne,hq⟩
  ·refine fP.ofRow0 q1 ⟨by rw[hcl,q2,hlen],hmem,?_,?_,?_⟩
   ·intro j c cv hc hcv
    rw[hcs] at hc
    rw[harr] at hcv
    rw[←hl] at hcv
    split at hc
    ·rename_i hj
     rw[if_pos hj] at hcv
     exact(hv _ c cv hc hcv).up u
    ·rename_i hj
     rw[if_neg hj] at hcv
     exact(hok.rel j c cv hc hcv).up u
   ·intro j c cv hc hcv
    rw[hcs] at hc
    rw[harr] at hcv
    rw[←hl] at hcv
    split at hc
    ·rename_i hj
     rw[if_pos hj] at hcv
     have:=hown _ c cv hc hcv
     rw[show o+(j-o)=j by omega] at this
     exact okeep _ _ _ this
    ·rename_i hj
     rw[if_neg hj] at hcv
     exact okeep _ _ _ (hok.own j c cv hc hcv)
   ·intro j E n hc
    rw[hcs] at hc
    split at hc
    ·rename_i hj
     obtain⟨m1,m2⟩:=hnb _ E n hc
     rw[show o+(j-o)=j by omega] at m1 m2
     obtain⟨m3,m4, -⟩:=hok.bn j E n m1
     refine⟨m3,by rw[q2];exact m4,?_⟩
     rw[harr,←hl,if_pos hj]
     exact m2
    ·rename_i hj
     rw[harr,←hl,if_neg hj,q2]
     exact hok.bn j E n hc
  ·refine(h.hr.obj id' o' hq).keep ?_ fun arr2 e2 fz k1 k2=>⟨k2.len,k2.plain,k2.typedUp rfl u.rho u.num rfl,k2.cold,k2.one,fun j c cv hc hcv=>(k2.rel j c cv hc hcv).up u,fun j c cv hc hcv=>okeep _ _ _ (k2.own j c cv hc hcv),k2.bn⟩
   rw[q3 _ (h.hr.apart id' id o' cs hq hid hne)]
 ·intro id1 id2 c1 c2 k1 k2 hne
  obtain⟨_,k1⟩:=old id1 c1 k1
  obtain⟨_,k2⟩:=old id2 c2 k2
  exact h.hr.apart _ _ _ _ k1 k2 hne
 ·intro id1 c1 k1
  obtain⟨_,k1⟩:=old id1 c1 k1
  exact h.hr.notI _ _ k1
 ·intro id1 c1 k1
  obtain⟨_,k1⟩:=old id1 c1 k1
  exact h.hr.notO _ _ k1
 ·intro b j hi
  have:=cello b j hi
  rw[this]
  exact h.hr.exI b j hi
 ·intro b oc hbo
  rw[q4]
  exact h.hr.oLt b oc hbo
 ·intro n v cv hq hcv
  simp only[St.setObj,List.length_set]
  exact(h.er.rel n v cv hq hcv).up u
 ·intro n v cv hq hcv
  exact okeep _ _ _ (h.er.own n v cv hq hcv)
 ·intro b _ hno _
  exact q3 b (fun e=>hno id cs hid e.symm)
 ·simp only[List.length_set]
  exact u
 ·intro id' o' hq
  obtain⟨o'',hq⟩:=old id' o' hq
  exact .inl ⟨o'',hq⟩
theorem SR.bareCell(h:SR g s w a){id o:Nat}{cs:List V}(ho:s.obj id=some cs):
  SR g (s.setObj id (cs.set o (disown (cs.getD o .undef)))) w a∧FR g s.hp w g (s.hp.set id (some (cs.set o (disown (cs.getD o .undef))))) w:=by
 obtain⟨hid,hrow⟩:=fG ho
 have hlt:id<s.hp.length:=(List.getElem?_eq_some_iff.1 hid).1
 let cs':=cs.set o (disown (cs.getD o .undef))
 have split:∀(id':Nat) o',(s.hp.set id (some cs'))[id']? =some (some o')→(id'=id∧o'=cs')∨(id'≠id∧s.hp[id']? =some (some o')):=by
  intro id' o' hq
  rw[List.getElem?_set] at hq
  split at hq
  ·rename_i e
   simp[hlt] at hq
   exact .inl ⟨e.symm,hq.symm⟩
  ·rename_i e
   exact .inr ⟨fun e'=>e e'.symm,hq⟩
 have old:∀(id':Nat) o',(s.hp.set id (some cs'))[id']? =some (some o')→∃o'',s.hp[id']? =some (some o''):=by
  intro id' o' hq
  rcases split id' o' hq with⟨rfl,_⟩|⟨_,hq⟩
  ·exact⟨cs,hid⟩
  ·exact⟨_,hq⟩
 have hget:∀(j:Nat) c,cs'[j]? =some c→∃c',cs[j]? =some c'∧(c=c'∨c=disown c'):=by
  intro j c hc
  simp only[cs',List.getElem?_set] at hc
  split at hc
  ·rename_i e
   subst e
   split at hc
   ·rename_i hlo
    refine⟨cs[o],List.getElem?_eq_getElem hlo,.inr ?_⟩
    simp only[Option.some.injEq] at hc
    rw[←hc]
    simp[List.getD,List.getElem?_eq_getElem hlo]
   ·simp at hc
  ·exact⟨c,hc,.inl rfl⟩
 refine⟨⟨⟨?_,?_,?_,?_,h.hr.exI,h.hr.oLt⟩,⟨h.er.size,?_,h.er.own⟩⟩,⟨rfl,rfl,rfl,rfl,Nat.le_refl _,fun _ _ _ _=>rfl,?_,fun _ _ _ _ _ hi=>hi,fun _ _ _ hO=>hO,?_⟩⟩
 ·intro id' o' hq
  simp only[St.setObj,List.length_set]
  rcases split id' o' hq with⟨rfl,rfl⟩|⟨hne,hq⟩
  ·obtain⟨arr,e,hb,hok⟩:=oP h.hr ho
   refine fP.ofRow0 hb ⟨by simp[cs',hok.len],?_,?_,?_,?_⟩
   ·intro c hc
    obtain⟨j,hj,rfl⟩:=List.mem_iff_getElem.1 hc
    obtain⟨c',k1,k2⟩:=hget j _ (List.getElem?_eq_getElem hj)
    have:=hok.one c' (List.mem_of_getElem? k1)
    rcases k2 with k2|k2<;>rw[k2]
    ·exact this
    ·rw[kG];exact this
   ·intro j c cv hc hcv
    obtain⟨c',k1,k2⟩:=hget j _ hc
    have:=hok.rel j c' cv k1 hcv
    rcases k2 with k2|k2<;>rw[k2]
    ·exact this
    ·exact this.disown
   ·intro j c cv hc hcv
    obtain⟨c',k1,k2⟩:=hget j _ hc
    have:=hok.own j c' cv k1 hcv
    rcases k2 with k2|k2<;>rw[k2]
    ·exact this
    ·exact ax.disown _ _ _ _ _
   ·intro j E n hc
    obtain⟨c',k1,k2⟩:=hget j _ hc
    rcases k2 with k2|k2
    ·exact hok.bn j E n (by rw[k2];exact k1)
    ·cases c'<;>simp[disown] at k2
  ·exact h.hr.obj id' o' hq
 ·intro id1 id2 c1 c2 k1 k2 hne
  obtain⟨_,k1⟩:=old id1 c1 k1
  obtain⟨_,k2⟩:=old id2 c2 k2
  exact h.hr.apart _ _ _ _ k1 k2 hne
 ·intro id1 c1 k1
  obtain⟨_,k1⟩:=old id1 c1 k1
  exact h.hr.notI _ _ k1
 ·intro id1 c1 k1
  obtain⟨_,k1⟩:=old id1 c1 k1
  exact h.hr.notO _ _ k1
 ·intro n v cv hq hcv
  simp only[St.setObj,List.length_set]
  exact h.er.rel n v cv hq hcv
 ·simp only[List.length_set]
  exact Up.refl _ _ _ _
 ·intro id' o' hq
  obtain⟨o'',hq⟩:=old id' o' hq
  exact .inl ⟨o'',hq⟩
theorem ajf{d n:Nat}{agg:Bool}{x:ASrc}(hc:j7 P (.ld d n agg true x) m=true)(hs:step Γ (.ld d n agg true x) s=some (true,s'))(h:SR g s w a)(hn:bH g s w a s' next):m.wp P a w next Q:=by
 obtain⟨dst,op,ty,pos,aft,gd⟩:=m
 simp only[j7,Bool.and_eq_true,beq_iff_eq] at hc
 obtain⟨rfl,hc⟩:=hc
 split at hc
 ·rename_i t x'
  simp only[Bool.and_eq_true,beq_iff_eq,Bool.not_eq_true'] at hc
  obtain⟨h1,h2,⟨rfl,rfl⟩,h4⟩:=hc
  have r1:=aK h4 h.er
  simp only[step] at hs
  split at hs
  ·rename_i cs hx
   have hpure:aU P (.ld d 1 false false x) ⟨some d,.load t x',ty,pos,aft,gd⟩=true:=by
    simp[aU,h1,h2,h4]
   refine ait (Γ:=Γ) hpure ?_ h hn
   simp only[step,hx]
   exact hs
  ·rename_i id o hx
   split at hs
   ·rename_i cs ho
    split at hs
    ·rename_i hle
     simp only[if_true] at hs
     cases hnb:noBn (cs.getD o .undef) with
     |false=>rw[hnb] at hs;simp at hs
     |true=>
     rw[hnb] at hs
     simp only[if_true] at hs
     obtain rfl:_=s':=by simpa using hs
     rw[hx] at r1
     generalize hcv:a.eval x'=cv at r1
     cases r1 with
     |ptr _ _ hid=>
      obtain⟨arr,e,hb,hok⟩:=oP h.hr ho
      have hlen:=hok.len
      have hlo:o<cs.length:=by omega
      have hla:o<arr.size:=by omega
      have hrun:=ml (P:=P) (w:=w) (b:=g.ρ id) (o:=o) (vs:=[arr[o]]) h1 h2 (.inr rfl) rfl (fun j v hj=>by
       cases j with
       |zero=>simp at hj;subst hj;rw[aD hb];simp[hla]
       |succ j=>simp at hj)
      have hc1:cs[o]? =some cs[o]:=List.getElem?_eq_getElem hlo
      have hc2:arr[o]? =some arr[o]:=Array.getElem?_eq_getElem hla
      obtain⟨b1,b2⟩:=h.bareCell (o:=o) ho
      obtain⟨g₁,t1,t2,t3,t4,t5⟩:=abX (q:=.slot d) b1 (p:=.cell id o) (by
       intro cs' v hcs' hv'
       simp only[St.setObj] at hcs'
       rw[List.getElem?_set_self (List.getElem?_eq_some_iff.1 (fG ho).1).1] at hcs'
       simp only[Option.some.injEq] at hcs'
       subst hcs'
       rw[List.getElem?_set_self hlo] at hv'
       simp only[Option.some.injEq] at hv'
       subst hv'
       exact dz _) (hok.own o _ _ hc1 hc2)
      have hrun':(Instr.loadAt t (.pointer (some ⟨g.ρ id,o,none⟩))).run P w=.ok arr[o] w:=hrun
      refine cN rfl (cv:=arr[o]) (w':=w) (by simp[execOp,hcv,hrun']) ⟨g₁,?_,?_⟩ hn
      ·have hl:loaded false ((cs.drop o).take 1)=cs[o]:=by
        rw[List.drop_eq_getElem_cons hlo]
        rfl
       rw[hl]
       refine t1.set d ?_ t5
       rw[t3,t4]
       simpa [St.setObj] using hok.rel o _ _ hc1 hc2
      ·exact b2.trans (by simpa [St.set,St.setObj] using t2)
    ·simp at hs
   ·simp at hs
  ·simp at hs
 ·simp at hc
theorem al5{d:Option Nat}{n:Nat}{x v:ASrc}(hc:j7 P (.st d n x v) m=true)(hs:step Γ (.st d n x v) s=some (true,s'))(h:SR g s w a)(hn:bH g s w a s' next):m.wp P a w next Q:=by
 obtain⟨dst,op,ty,pos,aft,gd⟩:=m
 simp only[j7,Bool.and_eq_true,beq_iff_eq] at hc
 obtain⟨rfl,hc⟩:=hc
 split at hc
 ·rename_i t x' v'
  simp only[Bool.and_eq_true,beq_iff_eq] at hc
  obtain⟨h1,h2,h3⟩:=hc
  have r1:=aK h2 h.er
  have r2:=aK h3 h.er
  simp only[step] at hs
  split at hs
  ·rename_i id o hx
   split at hs
   ·rename_i cs ho
    split at hs
    ·rename_i hcond
     simp only[Bool.and_eq_true,beq_iff_eq,decide_eq_true_eq] at hcond
     obtain⟨⟨hln,hone⟩,hle,hnb⟩:=hcond
     obtain rfl:_=s':=by simpa using hs
     rw[hx] at r1
     generalize hcx:a.eval x'=cx at r1
     cases r1 with
     |ptr _ _ hid=>
      obtain⟨arr,e,hb,hok⟩:=oP h.hr ho
      have hlen:=hok.len
      obtain⟨c1,c2,c3⟩:=tV r2 hone
      have hsz:(a.eval v').cells.size=n:=by rw[←c1];exact hln
      have hrun:(execOp a.eval ⟨dst,.store t x' v',ty,pos,aft,gd⟩).run P w=.ok .skip (w.setCells (g.ρ id) o (a.eval v').cells.toList):=by
       have:=run_storeCells_cells (P:=P) (g.ρ id) o (a.eval v').cells.toList 0 w
        (fun j hj=>by rw[aD hb,Array.getElem?_eq_getElem (by simp at hj;omega)];rfl)
        (fun j hj=>by simp[World.frozen?,hb])
        (fun u hu=>by
         obtain⟨j,hj,rfl⟩:=List.mem_iff_getElem.1 hu
         have hj':j<(v.ev s).cells.length:=by rw[c1];simpa using hj
         exact(c3 j _ _ (List.getElem?_eq_getElem hj') (by simp)).oneCell (c2 _ (List.getElem_mem hj')))
       simp[execOp,hcx,Instr.storeAt,Instr.sureAddr,storeVar,mj h1,hsz,this]
      have key:∃g₁,SR g₁ (v.after s) w a∧FR g s.hp w g₁ s.hp w∧g₁.I=g.I∧g₁.ρ=g.ρ∧
        ∀(i:Nat) c cv,(v.ev s).cells[i]? =some c→(a.eval v').cells.toList[i]? =some cv→ax g₁ w (.cell id (o+i)) c cv:=by
       by_cases hag:∃cs,v.ev s=.agg cs
       ·obtain⟨cs2,hag⟩:=hag
        refine⟨g,h.after v,FR.refl _ _ _,rfl,rfl,?_⟩
        rw[hag] at r2
        generalize a.eval v'=cv2 at r2
        cases r2 with
        |agg _ vs2 _ _ hb2 _=>
         intro i c cv hc hcv
         rw[hag] at hc
         exact(hb2 i c cv (by simpa [V.cells] using hc) (by simpa [Value.cells] using hcv)).own _ _ _
       ·have hcell:(v.ev s).cells=[v.ev s]:=by
         cases hh:v.ev s<;>first|rfl|(rw[hh] at hag;exact absurd ⟨_,rfl⟩ hag)
        obtain⟨g₁,k1,k2,k3,k4,k5⟩:=ajY (q:=.cell id o) h3 h
        refine⟨g₁,k1,k2,k3,k4,?_⟩
        have hone':(v.ev s).one=true:=c2 _ (by rw[hcell];exact List.mem_singleton.2 rfl)
        have hcell2:(a.eval v').cells= #[a.eval v']:=by
         have:=r2.oneCell hone'
         cases hh:a.eval v'<;>rw[hh] at this<;>simp[Value.oneCell'] at this<;>rfl
        intro i c cv hc hcv
        rw[hcell] at hc
        rw[hcell2] at hcv
        cases i with
        |zero=>simp at hc hcv;subst hc hcv;exact k5
        |succ i=>simp at hc
      obtain⟨g₁,k1,k2,k3,k4,k5⟩:=key
      have ho':(v.after s).obj id=some cs:=by unfold St.obj;rw[kH];exact ho
      have hrho:g₁.ρ id=g.ρ id:=by rw[k4]
      obtain⟨p1,p2⟩:=k1.putCells (o:=o) (news:=(v.ev s).cells) (us:=(a.eval v').cells.toList) ho' (by simpa using c1) c2 (by omega)
       (fun i c cv hc hcv=>by rw[k3,k4,kH];exact c3 i c cv hc (by simpa using hcv)) k5 (fun i E n hi=>absurd (List.all_eq_true.1 hnb _ (List.mem_of_getElem? hi)) (by simp[noBn]))
      rw[hrho,hln,List.append_assoc] at p1 p2
      unfold Oper.wp Oper.upon
      rw[hrun]
      cases dst with
      |none=>
       refine hn _ _ g₁ p1 ?_ rfl
       refine k2.trans ?_
       simpa [St.setObj,St.setO,kH] using p2
      |some d=>
       refine hn _ _ g₁ (p1.set d (.undef _) (by simp[ax])) ?_ rfl
       refine k2.trans ?_
       simpa [St.setObj,St.setO,St.set,kH] using p2
    ·simp at hs
   ·simp at hs
  ·simp at hs
 ·simp at hc
theorem abZ{α:Type}(l news:List α)(o:Nat)(hle:o+news.length≤l.length)(j:Nat):
  (l.take o++news++l.drop (o+news.length))[j]? =if o≤j∧j<o+news.length then news[j-o]? else l[j]?:=by
 have ht:(l.take o).length=o:=by simp;omega
 split
 ·rename_i hj
  rw[List.append_assoc,List.getElem?_append_right (by omega),ht,List.getElem?_append_left (by omega)]
 ·rename_i hj
  rcases Nat.lt_or_ge j o with h'|h'
  ·rw[List.append_assoc,List.getElem?_append_left (by omega),List.getElem?_take,if_pos h']
  ·rw[List.getElem?_append_right (by simp;omega),List.getElem?_drop]
   congr 1
   simp
   omega
structure Row(I:Nat→Nat→Prop)(ρ:Nat→Nat)(N:Nat)(w:World)(cs:List V)(us:List Value):Prop where
 len:cs.length=us.length
 one:∀c∈cs,c.one=true
 rel:∀(i:Nat) c cv,cs[i]? =some c→us[i]? =some cv→VRel I ρ N w c cv
 nil:∀(i:Nat) c cv,cs[i]? =some c→us[i]? =some cv→cZ c cv
theorem Row.over{I:Nat→Nat→Prop}{ρ:Nat→Nat}{N:Nat}{cs news:List V}{us vs:List Value}(h:Row I ρ N w cs us)(k:Row I ρ N w news vs)(o:Nat)(hle:o+news.length≤cs.length):
  Row I ρ N w (cs.take o++news++cs.drop (o+news.length)) (us.take o++vs++us.drop (o+vs.length)):=by
 have hl:=h.len
 have kl:=k.len
 have g1:=abZ cs news o hle
 have g2:=abZ us vs o (by omega)
 refine⟨by simp;omega,?_,?_,?_⟩
 ·intro c hc
  simp only[List.mem_append] at hc
  rcases hc with(hc|hc)|hc
  ·exact h.one c (List.mem_of_mem_take hc)
  ·exact k.one c hc
  ·exact h.one c (List.mem_of_mem_drop hc)
 ·intro i c cv hc hcv
  rw[g1] at hc
  rw[g2,←kl] at hcv
  split at hc
  ·rename_i hj
   rw[if_pos hj] at hcv
   exact k.rel _ _ _ hc hcv
  ·rename_i hj
   rw[if_neg hj] at hcv
   exact h.rel _ _ _ hc hcv
 ·intro i c cv hc hcv
  rw[g1] at hc
  rw[g2,←kl] at hcv
  split at hc
  ·rename_i hj
   rw[if_pos hj] at hcv
   exact k.nil _ _ _ hc hcv
  ·rename_i hj
   rw[if_neg hj] at hcv
   exact h.nil _ _ _ hc hcv
theorem ajg(fs:List Field)(h:fs.all (fun f=>(P.info? f.type).isSome)=true):
  ∃places,fs.mapM (fun f=>(P.info? f.type).map fun i=>(f.offset,i.size))=some places∧∀(i:Nat) f n,fs[i]? =some f→dM P f.type=some n→places[i]? =some (f.offset,n):=by
 induction fs with
 |nil=>exact⟨[],rfl,by simp⟩
 |cons f fs ih=>
  simp only[List.all_cons,Bool.and_eq_true] at h
  obtain⟨places,h1,h2⟩:=ih h.2
  obtain⟨i,hi⟩:=Option.isSome_iff_exists.1 h.1
  refine⟨(f.offset,i.size)::places,by simp[List.mapM_cons,hi,h1],?_⟩
  intro j f' n hf hn
  cases j with
  |zero=>
   simp at hf
   subst hf
   simp[dM,hi] at hn
   simp[hn]
  |succ j=>exact h2 j f' n (by simpa using hf) hn
theorem ab0(h:SR g s w a){fs:Array Field}{places:Nat→Option (Nat×Nat)}(hp:∀(i:Nat) f n,fs[i]? =some f→dM P f.type=some n→places i=some (f.offset,n)):
  ∀(ps:List (Nat×Nat×ASrc))(qs:List (Nat×Operand))(cs cs':List V)(arr:Array Value),sP P fs ps qs=true→Row g.I g.ρ s.hp.length w cs arr.toList→
   lay cs (ps.map fun(off,n,x)=>(off,n,x.ev s))=some cs'→∃arr',Instr.fill places arr (qs.map fun(i,y)=>(i,a.eval y))=some arr'∧Row g.I g.ρ s.hp.length w cs' arr'.toList
 | [],[],cs,cs',arr,_,hr,hl=>by
   simp[lay] at hl
   subst hl
   exact⟨arr,by simp[Instr.fill],hr⟩
 |(off,n,x)::ps,(i,y)::qs,cs,cs',arr,hb,hr,hl=>by
  simp only[sP,Bool.and_eq_true] at hb
  obtain⟨hb1,hb2,hb3⟩:=hb
  split at hb1
  ·rename_i f hf
   simp only[Bool.and_eq_true,beq_iff_eq] at hb1
   obtain⟨rfl,hn⟩:=hb1
   simp only[List.map_cons,lay] at hl
   split at hl
   ·rename_i hcond
    simp only[Bool.and_eq_true,beq_iff_eq,decide_eq_true_eq] at hcond
    obtain⟨⟨hln,hone⟩,hle⟩:=hcond
    obtain⟨c1,c2,c3⟩:=tV (aK hb2 h.er) hone
    have hrow:Row g.I g.ρ s.hp.length w ((x.ev s).cells.map disown) (a.eval y).cells.toList:=by
     refine⟨by simp[c1],?_,?_,?_⟩
     ·intro c hc
      obtain⟨c',hc',rfl⟩:=List.mem_map.1 hc
      rw[kG];exact c2 c' hc'
     ·intro j c cv hc hcv
      rw[List.getElem?_map,Option.map_eq_some_iff] at hc
      obtain⟨c',hc',rfl⟩:=hc
      exact(c3 j _ _ hc' (by simpa using hcv)).disown
     ·intro j c cv hc _
      rw[List.getElem?_map,Option.map_eq_some_iff] at hc
      obtain⟨c',hc',rfl⟩:=hc
      exact wt _ _
    have hsz:(a.eval y).cells.size=n:=by rw[←c1];exact hln
    have harr:arr.size=cs.length:=by have:=hr.len;simpa using this.symm
    have hst:=zt (a.eval y).cells.toList f.offset 0 arr (by simp[hsz];omega)
    simp only[Nat.add_zero,Array.length_toList] at hst
    have hrow':=hr.over hrow f.offset (by simp[hln];omega)
    simp only[List.length_map,hln,Array.length_toList] at hrow'
    rw[←hst] at hrow'
    obtain⟨arr',k1,k2⟩:=ab0 h hp ps qs _ cs' _ hb3 hrow' hl
    refine⟨arr',?_,k2⟩
    simp only[List.map_cons,Instr.fill,hp i f n hf hn,hsz]
    rw[if_neg (by simp;omega)]
    rw[←k1]
    congr 1
    rw[←Array.foldl_toList,Array.toList_zipIdx]
   ·simp at hl
  ·simp at hb1
 | [],_::_,_,_,_,hb,_,_=>by simp[sP] at hb
 |_::_,[],_,_,_,hb,_,_=>by simp[sP] at hb
theorem alB{d:Nat}{zero:List V}{ps:List (Nat×Nat×ASrc)}(hc:j7 P (.bld d zero ps) m=true)(hs:step Γ (.bld d zero ps) s=some (true,s'))(h:SR g s w a)(hn:bH g s w a s' next):m.wp P a w next Q:=by
 obtain⟨dst,op,ty,pos,aft,gd⟩:=m
 simp only[j7,Bool.and_eq_true,beq_iff_eq] at hc
 obtain⟨rfl,hc⟩:=hc
 split at hc
 ·rename_i t qs
  simp only[Bool.and_eq_true] at hc
  obtain⟨h1,h2⟩:=hc
  split at h2
  ·rename_i fs u1
   simp only[Bool.and_eq_true] at h2
   obtain⟨h2,h3⟩:=h2
   obtain⟨i,z,hi,hz,hcs⟩:=sQ h1
   obtain⟨k1,k2,k3⟩:=lw (I:=g.I) (ρ:=g.ρ) (N:=s.hp.length) (w:=w) hcs
   obtain⟨places,e1,e2⟩:=ajg (P:=P) fs.toList (by simpa using h3)
   simp only[step,Option.map_eq_some_iff] at hs
   obtain⟨cs',hl,hs⟩:=hs
   obtain rfl:_=s':=by simpa using hs
   obtain⟨arr',f1,f2⟩:=ab0 (P:=P) (fs:=fs) (places:=fun i=>places.toArray[i]?) h (fun i f n hf hn=>by simpa using e2 i f n (by simpa using hf) hn) ps qs.toList zero cs' z.cells h2 ⟨k1,k2,k3,fun i c cv hc hcv=>lv hcs i c cv hc hcv⟩ hl
   have hrun:=run_build (P:=P) w t (qs.map fun(i,y)=>(i,a.eval y)) arr' (by
    simp only[Program.built,hi,u1,hz,e1]
    simpa using f1)
   refine aH h rfl (cv:=.agg arr') (by simp[execOp,hrun]) (.agg _ _ (by simpa using f2.len) f2.one (fun i c cv hc hcv=>f2.nil i c cv hc (by simpa using hcv)) (fun i c cv hc hcv=>f2.rel i c cv hc (by simpa using hcv))) rfl hn
  ·rename_i len e u1
   split at h2
   ·rename_i sz hsz
    obtain⟨i,z,hi,hz,hcs⟩:=sQ h1
    obtain⟨k1,k2,k3⟩:=lw (I:=g.I) (ρ:=g.ρ) (N:=s.hp.length) (w:=w) hcs
    simp only[step,Option.map_eq_some_iff] at hs
    obtain⟨cs',hl,hs⟩:=hs
    obtain rfl:_=s':=by simpa using hs
    obtain⟨ie,hie,hse⟩:∃i,P.info? e=some i∧i.size=sz:=by
     unfold dM at hsz
     obtain⟨i,hi,h⟩:=Option.map_eq_some_iff.1 hsz
     exact⟨i,hi,h⟩
    obtain⟨arr',f1,f2⟩:=ab0 (P:=P) (fs:=ajW len sz e) (places:=fun i=>some (i*sz,sz)) h (fun i f n hf hn=>by
     have hf:(List.map (fun i=>aje e (i*sz)) (List.range len))[i]? =some f:=by simpa [ajW] using hf
     rw[List.getElem?_map,Option.map_eq_some_iff] at hf
     obtain⟨j,hj,rfl⟩:=hf
     have hj:j=i:=by
      rw[List.getElem?_range] at hj
      ·exact(Option.some.inj hj).symm
      ·exact(by simpa using (List.getElem?_eq_some_iff.1 hj).1)
     subst hj
     have hn:dM P e=some n:=hn
     rw[hsz] at hn
     cases hn
     rfl) ps qs.toList zero cs' z.cells h2 ⟨k1,k2,k3,fun i c cv hc hcv=>lv hcs i c cv hc hcv⟩ hl
    have hrun:=run_build (P:=P) w t (qs.map fun(i,y)=>(i,a.eval y)) arr' (by
     simp only[Program.built,hi,u1,hz,hie,hse]
     simpa using f1)
    refine aH h rfl (cv:=.agg arr') (by simp[execOp,hrun]) (.agg _ _ (by simpa using f2.len) f2.one (fun i c cv hc hcv=>f2.nil i c cv hc (by simpa using hcv)) (fun i c cv hc hcv=>f2.rel i c cv hc (by simpa using hcv))) rfl hn
   ·simp at h2
  ·simp at h2
 ·simp at hc
end
end Go.AM
end
noncomputable section
namespace Go.AM
set_option autoImplicit false
set_option linter.unusedSimpArgs false
set_option linter.unusedVariables false
def sC(P:Program)(o:IOp)(m:Oper):Bool:=
 match o with
 | .alr d n=>(m.dst==some d)&&(match m.op with| .alloc t=>(match P.info? t with|some i=>(match i.zero with|some z=>z.cells.size==n|none=>false)|none=>false)|_=>false)
 | .frz d r n v=>(m.dst==d)&&(match m.op with| .store t (.tmp r') v'=>(r==r')&&((dM P t==some n)&&aI v v')|_=>false)
 | .lde d n agg x=>aU P (.ld d n agg false x) m
 | .boxe d x=>(m.dst==some d)&&(match m.op with| .box t y=>aI x y|_=>false)
 |_=>false
section
variable{w w':World}{g g':Gh}{s s':St}{a:Act}{P:Program}{Γ:az}{m:Oper}{next:Act→World→Prop}{Q:Exit→Act→World→Prop}
theorem SR.newLaid(h:SR g s w a)(cs:List V)(d:Nat)(arr:Array Value)(e:TypeId)
  (hl:cs.length=arr.size) (h1:∀c∈cs,c.one=true)
  (hv:∀(j:Nat) c cv,cs[j]? =some c→arr[j]? =some cv→VRel g.I g.ρ s.hp.length w c cv):
  ∃g',SR g' (s.set d (.ea cs)) (w.alloc (.cells arr e)) (a.put (some d) (.pointer (some ⟨w.heap.size,0,none⟩)))∧FR g s.hp w g' s.hp (w.alloc (.cells arr e)):=by
 obtain⟨hsz,hold,hnew⟩:=fQ w (.cells arr e)
 let g':Gh:={I:=fun b j=>g.I b j∨(b=w.heap.size∧j<cs.length),ρ:=g.ρ,O:=g.O,β:=g.β}
 have ilt:∀b j,g.I b j→b<w.heap.size:=by
  intro b j hi
  obtain⟨v,hv⟩:=Option.isSome_iff_exists.1 (h.hr.exI b j hi)
  exact World.block_lt_of_cell? _ _ hv
 have cello:∀b j,b<w.heap.size→(w.alloc (.cells arr e)).cell? ⟨b,j,none⟩=w.cell? ⟨b,j,none⟩:=by
  intro b j hb
  simp[World.cell?,hold b hb]
 have u:Up g.I g.ρ s.hp.length w g'.I g'.ρ s.hp.length (w.alloc (.cells arr e)):=⟨fun b j hi=>.inl hi,fun b j hi=>cello b j (ilt b j hi),fun _ _=>rfl,Nat.le_refl _⟩
 have hcell:∀j,(w.alloc (.cells arr e)).cell? ⟨w.heap.size,j,none⟩=arr[j]?:=fun j=>aD hnew j
 have hs:SR g' s (w.alloc (.cells arr e)) a:=by
  refine h.keep none trivial rfl u ?_ ?_ ?_ ?_
  ·intro occ b hb _
   have hlt:=h.hr.oLt b occ hb
   refine⟨hb,hold b hlt,?_⟩
   rintro j (hj|⟨hj,_⟩)
   ·exact hj
   ·omega
  ·intro id cs hid
   have hlt:=(h.hr.obj id cs hid).lt
   refine⟨hold _ hlt,h.hr.notO id cs hid,?_⟩
   rintro j (hj|⟨hj,_⟩)
   ·exact hj
   ·omega
  ·rintro b j (hj|⟨rfl,hj⟩)
   ·rw[cello b j (ilt b j hj)];exact h.hr.exI b j hj
   ·rw[hcell,Array.getElem?_eq_getElem (by omega)];rfl
  ·intro b o hb
   have:=h.hr.oLt b o hb;omega
 refine⟨g',hs.set d ?_ (by simp[ax]),⟨rfl,rfl,rfl,rfl,by omega,fun b hb _ _=>hold b hb,u,?_,fun _ _ _ h=>h,fun _ cs h=>.inl ⟨cs,h⟩⟩⟩
 ·refine .ea cs _ _ (fun j=>arr[j]?.getD undef) h1 ?_ ?_ ?_
  ·intro j hj
   exact .inr ⟨rfl,by omega⟩
  ·intro j hj
   rw[Nat.zero_add,hcell,Array.getElem?_eq_getElem (by omega)]
   rfl
  ·intro j c hc
   have hj:j<arr.size:=by rw[←hl];exact(List.getElem?_eq_some_iff.1 hc).1
   have:=hv j c _ hc (Array.getElem?_eq_getElem hj)
   rw[Array.getElem?_eq_getElem hj]
   exact this.up u
 ·rintro b j hb _ hO (hi|⟨rfl,_⟩)
  ·exact hi
  ·omega
theorem ak4{d:Nat}{x:ASrc}(hc:sC P (.boxe d x) m=true)(hs:step Γ (.boxe d x) s=some (true,s'))(h:SR g s w a)(hn:bH g s w a s' next):m.wp P a w next Q:=by
 obtain⟨dst,op,ty,pos,aft,gd⟩:=m
 simp only[sC,Bool.and_eq_true,beq_iff_eq] at hc
 obtain⟨rfl,hc⟩:=hc
 split at hc
 ·rename_i t y
  have r1:=aK hc h.er
  have hrun:(execOp a.eval ⟨some d,.box t y,ty,pos,aft,gd⟩).run P w=.ok (.value (.pointer (some ⟨w.heap.size,0,none⟩))) (w.alloc (.cells (a.eval y).cells t)):=by
   simp[execOp,Instr.box,newVar,newRow]
  simp only[step] at hs
  split at hs
  ·rename_i cs hx
   obtain rfl:_=s':=by simpa using hs
   rw[hx] at r1
   generalize a.eval y=cv at r1 hrun
   cases r1 with
   |agg _ vs hl e1 hb hv=>
    refine cN rfl hrun (h.newLaid (cs.map disown) d vs t (by simpa using hl) ?_ ?_) hn
    ·intro c hc
     obtain⟨c',hc',rfl⟩:=List.mem_map.1 hc
     rw[kG];exact e1 c' hc'
    ·intro j c cv hc hcv
     rw[List.getElem?_map,Option.map_eq_some_iff] at hc
     obtain⟨c',hc',rfl⟩:=hc
     exact(hv j c' cv hc' hcv).disown
  ·rename_i v hx hna
   split at hs
   ·rename_i hone
    obtain rfl:_=s':=by simpa using hs
    have hcell:(a.eval y).cells= #[a.eval y]:=by
     have:=r1.oneCell hone
     cases hh:a.eval y<;>rw[hh] at this<;>simp[Value.oneCell'] at this<;>rfl
    rw[hcell] at hrun
    refine cN rfl hrun (h.newLaid [disown (x.ev s)] d #[a.eval y] t rfl (by simpa [kG] using hone) ?_) hn
    intro i c cv hc hcv
    cases i with
    |zero=>simp at hc hcv;subst hc hcv;exact r1.disown
    |succ i=>simp at hc
   ·simp at hs
 ·simp at hc
theorem alC{d n:Nat}{agg:Bool}{x:ASrc}(hc:sC P (.lde d n agg x) m=true)(hs:step Γ (.lde d n agg x) s=some (true,s'))(h:SR g s w a)(hn:bH g s w a s' next):m.wp P a w next Q:=by
 refine ait (Γ:=Γ) (d:=d) (n:=n) (agg:=agg) (x:=x) hc ?_ h hn
 simp only[step] at hs ⊢
 split at hs
 ·rename_i cs hx
  rw[hx];exact hs
 ·simp at hs
theorem alD{d n:Nat}(hc:sC P (.alr d n) m=true)(hs:step Γ (.alr d n) s=some (true,s'))(h:SR g s w a)(hn:bH g s w a s' next):m.wp P a w next Q:=by
 obtain⟨dst,op,ty,pos,aft,gd⟩:=m
 simp only[sC,Bool.and_eq_true,beq_iff_eq] at hc
 obtain⟨rfl,hc⟩:=hc
 split at hc
 ·rename_i t
  split at hc
  ·rename_i i hi
   split at hc
   ·rename_i z hz
    have hsz:z.cells.size=n:=by simpa using hc
    obtain rfl:_=s':=by simpa [step] using hs
    have f:=fQ w (.cells z.cells t)
    obtain⟨fsz,hold,hnew⟩:=f
    refine cN rfl (w':=w.alloc (.cells z.cells t)) (cv:=.pointer (some ⟨w.heap.size,0,none⟩)) (by simp[execOp,Instr.alloc,zeroValue,typeInfo,hi,hz,newVar,newRow]) ?_ hn
    let g':Gh:={I:=g.I,ρ:=g.ρ,O:=fun b=>if b=w.heap.size then some (.slot d) else g.O b,β:=g.β}
    have ilt:∀b j,g.I b j→b<w.heap.size:=by
     intro b j hi
     obtain⟨v,hv⟩:=Option.isSome_iff_exists.1 (h.hr.exI b j hi)
     exact World.block_lt_of_cell? _ _ hv
    have cello:∀b j,b<w.heap.size→(w.alloc (.cells z.cells t)).cell? ⟨b,j,none⟩=w.cell? ⟨b,j,none⟩:=by
     intro b j hb
     simp[World.cell?,hold b hb]
    have u:Up g.I g.ρ s.hp.length w g'.I g'.ρ s.hp.length (w.alloc (.cells z.cells t)):=⟨fun b j hi=>hi,fun b j hi=>cello b j (ilt b j hi),fun _ _=>rfl,Nat.le_refl _⟩
    have hs:SR g' s (w.alloc (.cells z.cells t)) a:=by
     refine h.keep none trivial rfl u ?_ ?_ ?_ ?_
     ·intro occ b hb _
      have hlt:=h.hr.oLt b occ hb
      exact⟨by simp[g',Nat.ne_of_lt hlt,hb],hold b hlt,fun j hj=>hj⟩
     ·intro id cs hid
      have hlt:=(h.hr.obj id cs hid).lt
      exact⟨hold _ hlt,by simp[g',Nat.ne_of_lt hlt,h.hr.notO id cs hid],fun j hj=>hj⟩
     ·intro b j hj
      rw[cello b j (ilt b j hj)];exact h.hr.exI b j hj
     ·intro b o hb
      simp only[g'] at hb
      split at hb
      ·omega
      ·have:=h.hr.oLt b o hb;omega
    refine⟨g',hs.set d (.raw n _) ?_,⟨rfl,rfl,rfl,rfl,by omega,fun b hb _ _=>hold b hb,u,fun b j _ _ _ hi=>hi,?_,fun _ cs h=>.inl ⟨cs,h⟩⟩⟩
    ·refine⟨by simp[g'],⟨z.cells,t,hnew,hsz⟩,fun j hj=>?_⟩
     exact absurd (ilt _ _ hj) (Nat.lt_irrefl _)
    ·intro b hb hO
     simp[g',Nat.ne_of_lt hb,hO]
   ·simp at hc
  ·simp at hc
 ·simp at hc
theorem ER.put'{N:Nat}(h:ER g N w s.env a.tmps)(d:Nat){v:V}(hv:VRel g.I g.ρ N w v (a.tmps.getD d undef))(ho:ax g w (.slot d) v (a.tmps.getD d undef)):
  ER g N w (s.set d v).env a.tmps:=by
 refine⟨by simp[St.set,h.size],?_,?_⟩
 ·intro n v' cv' hn hn'
  simp only[St.set,List.getElem?_set] at hn
  by_cases e:d=n
  ·subst e
   simp only[if_true] at hn
   split at hn
   ·obtain rfl:=Option.some.inj hn
    obtain⟨hlt,rfl⟩:=Array.getElem?_eq_some_iff.1 hn'
    simpa [Array.getD,hlt] using hv
   ·simp at hn
  ·simp only[e,if_false] at hn
   exact h.rel n _ _ hn hn'
 ·intro n v' cv' hn hn'
  simp only[St.set,List.getElem?_set] at hn
  by_cases e:d=n
  ·subst e
   simp only[if_true] at hn
   split at hn
   ·obtain rfl:=Option.some.inj hn
    obtain⟨hlt,rfl⟩:=Array.getElem?_eq_some_iff.1 hn'
    simpa [Array.getD,hlt] using ho
   ·simp at hn
  ·simp only[e,if_false] at hn
   exact h.own n _ _ hn hn'
theorem alE{d:Option Nat}{r n:Nat}{v:ASrc}(hc:sC P (.frz d r n v) m=true)(hs:step Γ (.frz d r n v) s=some (true,s'))(h:SR g s w a)(hn:bH g s w a s' next):m.wp P a w next Q:=by
 obtain⟨dst,op,ty,pos,aft,gd⟩:=m
 simp only[sC,Bool.and_eq_true,beq_iff_eq] at hc
 obtain⟨rfl,hc⟩:=hc
 split at hc
 ·rename_i t r' v'
  simp only[Bool.and_eq_true,beq_iff_eq] at hc
  obtain⟨rfl,h1,h3⟩:=hc
  have r2:=aK h3 h.er
  simp only[step] at hs
  split at hs
  ·rename_i m hr
   split at hs
   ·rename_i hcond
    simp only[Bool.and_eq_true,beq_iff_eq] at hcond
    obtain⟨hm,hln,hone⟩:=hcond
    obtain rfl:=Nat.eq_of_beq_eq_true hm
    obtain rfl:_=s':=by simpa using hs
    have r1:=h.er.get r
    have ro:=h.er.getOwn r
    rw[hr] at r1 ro
    obtain⟨c1,c2,c3⟩:=tV r2 hone
    have hsz:(a.eval v').cells.size=m:=by rw[←c1];exact hln
    generalize hcx:a.tmps.getD r undef=cx at r1 ro
    cases r1 with
    |raw _ b=>
     obtain⟨o1,⟨arr,e,hb,hsa⟩,o3⟩:=ro
     simp only at o1 hb o3
     have hsb:SR g (s.set r .undef) w a:=by
      have:=h.bare r
      rw[hr] at this
      exact this
     let us:=(a.eval v').cells.toList
     have hus:us.length=m:=by simpa [us] using hsz
     obtain⟨⟨arr',q1,q2⟩,q3,q4,q5,q6,q7⟩:=gY b us 0 w arr e (0,0) hb
     let w':=w.setCells b 0 us
     have hrun:(execOp a.eval ⟨dst,.store t (.tmp r) v',ty,pos,aft,gd⟩).run P w=.ok .skip (w.setCells b 0 us):=by
      have:=run_storeCells_cells (P:=P) b 0 us 0 w
       (fun j hj=>by rw[aD hb,Array.getElem?_eq_getElem (by omega)];rfl)
       (fun j hj=>by simp[World.frozen?,hb])
       (fun u hu=>by
        obtain⟨j,hj,rfl⟩:=List.mem_iff_getElem.1 hu
        have hj':j<(v.ev s).cells.length:=by rw[c1];simpa [us] using hj
        exact(c3 j _ _ (List.getElem?_eq_getElem hj') (by simp[us])).oneCell (c2 _ (List.getElem_mem hj')))
      have he:a.eval (.tmp r)=.pointer (some ⟨b,0,none⟩):=hcx
      simp[execOp,he,Instr.storeAt,Instr.sureAddr,storeVar,mj h1,hsz]
      have this':Sem.run P (storeCells {block:=b,off:=0} (a.eval v').cells.toList) w=Result.ok () (w.setCells b 0 (a.eval v').cells.toList):=by simpa [us] using this
      rw[this']
      rfl
     have ine:∀b' j,g.I b' j→b'≠b:=by
      rintro b' j hi rfl
      exact o3 j hi
     let g':Gh:={I:=fun b' j=>g.I b' j∨(b'=b∧j<m),ρ:=g.ρ,O:=fun b'=>if b'=b then none else g.O b',β:=g.β}
     have cello:∀b' j,b'≠b→w'.cell? ⟨b',j,none⟩=w.cell? ⟨b',j,none⟩:=by
      intro b' j hne
      exact World.cell?_setCells_out _ us 0 w _ (fun e=>absurd e hne)
     have u:Up g.I g.ρ s.hp.length w g'.I g'.ρ s.hp.length w':=⟨fun b j hi=>.inl hi,fun b' j hi=>cello b' j (ine b' j hi),fun _ _=>rfl,Nat.le_refl _⟩
     have hcell:∀j,j<m→w'.cell? ⟨b,j,none⟩=us[j]?:=by
      intro j hj
      have:=World.cell?_setCells_in b us 0 w (fun j' hj'=>by rw[aD hb,Array.getElem?_eq_getElem (by omega)];rfl) j (by omega)
      rw[Nat.zero_add] at this
      rw[this,List.getElem?_eq_getElem]
     have hs2:SR g' (s.set r .undef) w' a:=by
      refine hsb.keep (some (.slot r)) ?_ rfl u ?_ ?_ ?_ ?_
      ·intro v hv
       simp only[St.set,List.getElem?_set] at hv
       simp at hv
       obtain⟨_,rfl⟩:=hv
       rfl
      ·intro occ b' hb' hne
       have hbb:b'≠b:=by
        rintro rfl
        rw[o1] at hb'
        exact hne hb'
       refine⟨by simp[g',hbb,hb'],q3 b' hbb,?_⟩
       rintro j (hj|⟨hj,_⟩)
       ·exact hj
       ·exact absurd hj hbb
      ·intro id cs hid
       have hbb:g.ρ id≠b:=by
        intro e
        have:=h.hr.notO id cs hid
        rw[e,o1] at this
        cases this
       refine⟨q3 _ hbb,by simp[g',hbb,h.hr.notO id cs hid],?_⟩
       rintro j (hj|⟨hj,_⟩)
       ·exact hj
       ·exact absurd hj hbb
      ·rintro b' j (hj|⟨rfl,hj⟩)
       ·rw[cello b' j (ine b' j hj)];exact h.hr.exI b' j hj
       ·rw[hcell j hj,List.getElem?_eq_getElem (by omega)];rfl
      ·intro b' o hb'
       simp only[g'] at hb'
       split at hb'
       ·cases hb'
       ·have:=h.hr.oLt b' o hb'
        rw[q4]
        exact this
     have hea:VRel g'.I g'.ρ s.hp.length w' (.ea ((v.ev s).cells.map disown)) (.pointer (some ⟨b,0,none⟩)):=by
      refine .ea _ _ _ (fun j=>us[j]?.getD undef) ?_ ?_ ?_ ?_
      ·intro c hc
       obtain⟨c',hc',rfl⟩:=List.mem_map.1 hc
       rw[kG];exact c2 c' hc'
      ·intro j hj
       exact .inr ⟨rfl,by simp[hln] at hj;omega⟩
      ·intro j hj
       have hj':j<m:=by simp[hln] at hj;omega
       rw[Nat.zero_add,hcell j hj',List.getElem?_eq_getElem (by omega)]
       rfl
      ·intro j c hc
       rw[List.getElem?_map,Option.map_eq_some_iff] at hc
       obtain⟨c',hc',rfl⟩:=hc
       have hj:j<us.length:=by have:=(List.getElem?_eq_some_iff.1 hc').1;omega
       rw[List.getElem?_eq_getElem hj]
       exact((c3 j c' us[j] hc' (by simp[us])).up u).disown
     have hfin:SR g' (s.set r (.ea ((v.ev s).cells.map disown))) w' a:=by
      refine⟨hs2.hr,?_⟩
      have:=hs2.er.put' r (v:=.ea ((v.ev s).cells.map disown)) (by rw[hcx];exact hea) (by simp[ax])
      have e2:((s.set r .undef).set r (.ea ((v.ev s).cells.map disown))).env=(s.set r (.ea ((v.ev s).cells.map disown))).env:=by simp[St.set]
      rw[e2] at this
      exact this
     have fr:FR g s.hp w g' s.hp w':=by
      refine⟨rfl,q5,q6,q7,by rw[q4];exact Nat.le_refl _,?_,u,?_,?_,fun _ cs h=>.inl ⟨cs,h⟩⟩
      ·intro b' hb' _ hO
       refine q3 b' ?_
       rintro rfl
       rw[o1] at hO
       cases hO
      ·rintro b' j hb' _ hO (hi|⟨rfl,_⟩)
       ·exact hi
       ·rw[o1] at hO
        cases hO
      ·intro b' hb' _ hO
       simp[g',hO]
     unfold Oper.wp Oper.upon
     rw[hrun]
     cases dst with
     |none=>exact hn _ _ g' hfin fr rfl
     |some d=>exact hn _ _ g' (hfin.set d (.undef _) (by simp[ax])) fr rfl
   ·simp at hs
  ·simp at hs
 ·simp at hc
end
end Go.AM
end
