/-
  The abstract machine's values, operations and runs: plain Lean over the program's own kinds of data; no world is named here.
-/
import GoSem.Core.Code
import GoSem.Op.String
import GoSem.Core.Utf8
namespace Go.AM
set_option autoImplicit false

/-- a record of layer 1 -/
structure Record where
  num : Int
  wire : Int
  n : Int
  s : List UInt8
  raw : List UInt8
  deriving DecidableEq

/-- a tree -/
inductive JNode where
  | mk (kind n : Int) (s : List UInt8) (l : List JNode) (names : List (List UInt8))
def JNode.kind : JNode → Int | .mk a _ _ _ _ => a
def JNode.n : JNode → Int | .mk _ a _ _ _ => a
def JNode.s : JNode → List UInt8 | .mk _ _ a _ _ => a
def JNode.l : JNode → List JNode | .mk _ _ _ a _ => a
def JNode.names : JNode → List (List UInt8) | .mk _ _ _ _ a => a

structure AField where
  name : List UInt8
  aliases : List (List UInt8)
  typ : Int
  hasdef : Bool
  df : JNode

structure AType where
  kind : Int
  name : List UInt8
  aliases : List (List UInt8)
  items : Int
  syms : List (List UInt8)
  hasdef : Bool
  df : List UInt8
  size : Int
  fields : List AField
  branches : List Int

/-- a value -/
inductive AVal where
  | mk (n : Int) (s : List UInt8) (l : List AVal) (keys : List (List UInt8)) (branch : Int)
def AVal.n : AVal → Int | .mk a _ _ _ _ => a
def AVal.s : AVal → List UInt8 | .mk _ a _ _ _ => a
def AVal.l : AVal → List AVal | .mk _ _ a _ _ => a
def AVal.keys : AVal → List (List UInt8) | .mk _ _ _ a _ => a
def AVal.branch : AVal → Int | .mk _ _ _ _ a => a

/-- the kinds of elements that slices have -/
inductive EK where
  | u8 | num (k : IntKind) | str | bool | record | ints | jnode | afield | atype | aval
  deriving DecidableEq

abbrev Ty : EK → Type
  | .u8 => UInt8
  | .num _ => Int
  | .str => List UInt8
  | .bool => Bool
  | .record => Record
  | .ints => List Int
  | .jnode => JNode
  | .afield => AField
  | .atype => AType
  | .aval => AVal

/-- what is known of a list's tail: its place owns it; is there none (the list is full)? -/
inductive Fl where
  | own
  | may (b : Bool)
  deriving DecidableEq

def Fl.dis : Fl → Fl
  | .own => .may false
  | .may b => .may b

/-- may so many elements be appended? -/
def Fl.app : Fl → Nat → Bool
  | .own, _ => true
  | .may b, n => b && decide (0 < n)

inductive V where
  | undef
  | bool (b : Bool)
  | int (k : IntKind) (n : Int)
  | str (s : List UInt8)
  | sl (k : EK) (o : Fl) (xs : List (Ty k))
  | agg (cs : List V)
  | tup (vs : List V)
  | ea (cs : List V)
  | ptr (id off : Nat)
  | nilp
  | fn (f : Nat) (cap : List V)
  | nilif
  | bn (E n : Nat)
  | junk
  | rb (xs : List UInt8)
  | so (id n : Nat)
  | raw (n : Nat)
  | ul (k : EK) (xs : List (Ty k))
  | hd (n : Nat)
  | rw (k : EK) (xs : List (Ty k))
  | sw (k : EK) (id n : Nat)
  | wp (id : Nat) (k : EK) (i o : Nat)

instance : Inhabited V := ⟨.undef⟩

def EK.sz : EK → Nat
  | .record => 5
  | .jnode => 5
  | .afield => 9
  | .atype => 10
  | .aval => 5
  | _ => 1

def kindSize : IntKind → Nat
  | .i8 | .u8 => 1
  | .i16 | .u16 => 2
  | .i32 | .u32 => 4
  | .i64 | .u64 => 8

def EK.bytes : EK → Nat
  | .u8 => 1
  | .num k => kindSize k
  | .str => 16
  | .bool => 1
  | .record => 56
  | .ints => 24
  | .jnode => 80
  | .afield => 136
  | .atype => 160
  | .aval => 80

/-- is an element of such a kind a struct or an array? -/
def EK.isAgg : EK → Bool
  | .record | .jnode | .afield | .atype | .aval => true
  | _ => false

def enc : (k : EK) → Ty k → List V
  | .u8, x => [.int .u8 x.toNat]
  | .num k, x => [.int k x]
  | .str, x => [.str x]
  | .bool, x => [.bool x]
  | .record, x => [.int .i64 x.num, .int .i64 x.wire, .int .u64 x.n, .str x.s, .str x.raw]
  | .ints, x => [.sl (.num .i64) (.may false) x]
  | .jnode, x => [.int .i64 x.kind, .int .i64 x.n, .str x.s, .sl .jnode (.may false) x.l, .sl .str (.may false) x.names]
  | .afield, x => [.str x.name, .sl .str (.may false) x.aliases, .int .i64 x.typ, .bool x.hasdef, .int .i64 x.df.kind, .int .i64 x.df.n, .str x.df.s, .sl .jnode (.may false) x.df.l, .sl .str (.may false) x.df.names]
  | .atype, x => [.int .i64 x.kind, .str x.name, .sl .str (.may false) x.aliases, .int .i64 x.items, .sl .str (.may false) x.syms, .bool x.hasdef, .str x.df, .int .i64 x.size, .sl .afield (.may false) x.fields, .sl (.num .i64) (.may false) x.branches]
  | .aval, x => [.int .u64 x.n, .str x.s, .sl .aval (.may false) x.l, .sl .str (.may false) x.keys, .int .i64 x.branch]

def dec : (k : EK) → List V → Option (Ty k)
  | .u8, [.int .u8 n] => some (UInt8.ofNat n.toNat)
  | .num .i8, [.int .i8 n] => some n
  | .num .i16, [.int .i16 n] => some n
  | .num .i32, [.int .i32 n] => some n
  | .num .i64, [.int .i64 n] => some n
  | .num .u8, [.int .u8 n] => some n
  | .num .u16, [.int .u16 n] => some n
  | .num .u32, [.int .u32 n] => some n
  | .num .u64, [.int .u64 n] => some n
  | .str, [.str s] => some s
  | .bool, [.bool b] => some b
  | .record, [.int .i64 a, .int .i64 b, .int .u64 c, .str s, .str r] => some ⟨a, b, c, s, r⟩
  | .ints, [.sl (.num .i64) _ x] => some x
  | .jnode, [.int .i64 a, .int .i64 b, .str c, .sl .jnode _ d, .sl .str _ e] => some (.mk a b c d e)
  | .afield, [.str a, .sl .str _ b, .int .i64 c, .bool d, .int .i64 e, .int .i64 f, .str g, .sl .jnode _ h, .sl .str _ i] => some ⟨a, b, c, d, .mk e f g h i⟩
  | .atype, [.int .i64 a, .str b, .sl .str _ c, .int .i64 d, .sl .str _ e, .bool f, .str g, .int .i64 h, .sl .afield _ i, .sl (.num .i64) _ j] => some ⟨a, b, c, d, e, f, g, h, i, j⟩
  | .aval, [.int .u64 a, .str b, .sl .aval _ c, .sl .str _ d, .int .i64 e] => some (.mk a b c d e)
  | _, _ => none

def dflt : (k : EK) → Ty k
  | .u8 => 0
  | .num _ => 0
  | .str => []
  | .bool => false
  | .record => ⟨0, 0, 0, [], []⟩
  | .ints => []
  | .jnode => .mk 0 0 [] [] []
  | .afield => ⟨[], [], 0, false, .mk 0 0 [] [] []⟩
  | .atype => ⟨0, [], [], 0, [], false, [], 0, [], []⟩
  | .aval => .mk 0 [] [] [] 0

def V.cells : V → List V
  | .agg cs => cs
  | v => [v]

/-- one cell's value -/
def V.one : V → Bool
  | .undef | .agg _ | .tup _ | .rb _ | .raw _ | .rw _ _ => false
  | _ => true

def disown : V → V
  | .raw _ => .undef
  | .sl k o xs => .sl k o.dis xs
  | .bn _ _ => .junk
  | .ul _ xs => .hd xs.length
  | v => v

/-- as elements of lists are told: nothing is known of tails -/
def V.weak : V → V
  | .sl k _ xs => .sl k (.may false) xs
  | v => disown v

/-- not a builder's address -/
def noBn : V → Bool
  | .bn _ _ => false
  | _ => true

inductive ASrc where
  | t (n : Nat)
  | tk (n : Nat)
  | c (v : V)

abbrev AObj := Option (List V)

structure St where
  env : List V
  hp : List AObj

def St.get (s : St) (n : Nat) : V := s.env.getD n .undef
def St.set (s : St) (n : Nat) (v : V) : St := { s with env := s.env.set n v }

def ASrc.ev (s : St) : ASrc → V
  | .t n => disown (s.get n)
  | .tk n => s.get n
  | .c v => v

def ASrc.after (s : St) : ASrc → St
  | .tk n => s.set n (disown (s.get n))
  | _ => s

/-- a test's outcome, laid where it lies -/
def ASrc.fix (s : St) (t : Bool) : ASrc → St
  | .t n => s.set n (.bool t)
  | _ => s

theorem ASrc.fix_eq {s : St} {t : Bool} : ∀ {c : ASrc}, c.ev s = .bool t → c.fix s t = s
  | .t n, h => by
    have h2 : s.env.getD n .undef = .bool t := by
      have h : disown (s.env.getD n .undef) = .bool t := h
      revert h
      generalize s.env.getD n .undef = v
      cases v <;> simp [disown]
    obtain ⟨env, hp⟩ := s
    show St.mk (env.set n (.bool t)) hp = St.mk env hp
    have h3 : env.set n (.bool t) = env := by
      apply List.ext_getElem?
      intro i
      rw [List.getElem?_set]
      split
      · rename_i e
        subst e
        split
        · rename_i hl
          simp only [List.getD_eq_getElem?_getD, List.getElem?_eq_getElem hl, Option.getD_some] at h2
          rw [List.getElem?_eq_getElem hl, h2]
        · rename_i hl
          rw [List.getElem?_eq_none (by omega)]
      · rfl
    rw [h3]
  | .tk n, _ => rfl
  | .c v, _ => rfl

inductive IOp where
  | mov (d : Nat) (x : ASrc)
  | pick (d : Nat) (c a b : ASrc)
  | bin (d : Nat) (o : BinOp) (x y : ASrc)
  | un (d : Nat) (o : UnOp) (x : ASrc)
  | cvi (d : Nat) (k : IntKind) (x : ASrc)
  | cvs (d : Nat) (x : ASrc)
  | s2b (d : Nat) (x : ASrc)
  | b2s (d : Nat) (x : ASrc)
  | i2s (d : Nat) (x : ASrc)
  | s2r (d : Nat) (x : ASrc)
  | r2s (d : Nat) (x : ASrc)
  | lens (d : Nat) (x : ASrc)
  | lenl (d : Nat) (x : ASrc)
  | eqs (d : Nat) (neg : Bool) (ks : List Nat) (x y : ASrc)
  | idx (d : Nat) (x i : ASrc)
  | ixa (d : Nat) (k : EK) (x i : ASrc)
  | subs (d : Nat) (x : ASrc) (lo hi : Option ASrc)
  | subl (d : Nat) (k : EK) (x : ASrc) (lo hi : Option ASrc)
  | bsl (d : Nat) (k : EK) (parts : List ASrc) (u : Bool)
  | bld (d : Nat) (zero : List V) (parts : List (Nat × Nat × ASrc))
  | fld (d : Nat) (off n : Nat) (agg : Bool) (x : ASrc)
  | new (d : Nat) (zero : List V)
  | box (d : Nat) (x : ASrc)
  | newb (d : Nat) (zero : List V)
  | boxb (d j E n : Nat) (x : ASrc)
  | fad (d : Nat) (off : Nat) (x : ASrc)
  | ld (d : Nat) (n : Nat) (agg take : Bool) (x : ASrc)
  | st (d : Option Nat) (n : Nat) (x v : ASrc)
  | app (d : Nat) (k : EK) (x y : ASrc)
  | apps (d : Nat) (x y : ASrc)
  | mks (d : Nat) (k : EK) (x : ASrc)
  | s2o (d : Nat) (x : ASrc)
  | mko (d : Nat) (x : ASrc)
  | blo (d : Nat) (ps : List ASrc)
  | aro (d n : Nat)
  | ixp (d n : Nat) (x i : ASrc)
  | ixo (d : Nat) (x i : ASrc)
  | leno (d : Nat) (x : ASrc)
  | o2s (d : Nat) (x : ASrc)
  | ldo (d : Nat) (x : ASrc)
  | sto (d : Option Nat) (x v : ASrc)
  | ext (d : Nat) (i : Nat) (x : ASrc)
  | nck (d : Option Nat) (x : ASrc)
  | call (d : Option Nat) (f : Nat) (args : List ASrc)
  | mx (d : Nat) (mn : Bool) (x y : ASrc)
  | mn3 (d : Nat) (x y z : ASrc)
  | beq (d : Nat) (neg : Bool) (x y : ASrc)
  | peq (d : Nat) (neg : Bool) (x y : ASrc)
  | boxe (d : Nat) (x : ASrc)
  | alr (d n : Nat)
  | frz (d : Option Nat) (r n : Nat) (v : ASrc)
  | lde (d : Nat) (n : Nat) (agg : Bool) (x : ASrc)
  | mkf (d f : Nat) (caps : List ASrc)
  | dcall (d : Option Nat) (f : Nat) (x : ASrc) (args : List ASrc)
  | mku (d : Nat) (k : EK) (x : ASrc)
  | apu (d : Nat) (k : EK) (x y : ASrc)
  | apv (d : Nat) (k : EK) (x : ASrc) (n : Nat)
  | apw (d : Nat) (k : EK) (x y : ASrc)
  | blu (d : Nat) (k : EK)
  | s2u (d : Nat) (x : ASrc)
  | lnw (d : Nat) (x : ASrc)
  | ixw (d : Nat) (k : EK) (x i : ASrc)
  | fdw (d off : Nat) (x : ASrc)
  | ldw (d n : Nat) (agg : Bool) (x : ASrc)
  | stw (d : Option Nat) (n : Nat) (x v : ASrc)

/-- an operation, its guard, the objects that it may read and those that it may turn (none: any) -/
structure GOp where
  g : Option (Nat × Bool)
  o : IOp
  ob : Option (List Nat × List Nat)

def bitsI (o : BinOp) (k : IntKind) (a b : Int) : Int :=
  match o with
  | .and => k.wrap (BitVec.ofInt k.bits a &&& BitVec.ofInt k.bits b).toNat
  | .or => k.wrap (BitVec.ofInt k.bits a ||| BitVec.ofInt k.bits b).toNat
  | .xor => k.wrap (BitVec.ofInt k.bits a ^^^ BitVec.ofInt k.bits b).toNat
  | _ => k.wrap (BitVec.ofInt k.bits a &&& ~~~BitVec.ofInt k.bits b).toNat

def shlI (k : IntKind) (a b : Int) : Int := k.wrap (a * 2 ^ (min b.toNat k.bits))
def shrI (k : IntKind) (a b : Int) : Int := a.fdiv (2 ^ (min b.toNat k.bits))

/-- a text's code points, as the language has them -/
def runesAux (s : ByteArray) : Nat → Nat → List Int
  | 0, _ => []
  | b + 1, i => if i < s.size then ((Utf8.decode s i).1 : Int) :: runesAux s b (i + (Utf8.decode s i).2) else []
def runesOf (l : List UInt8) : List Int := runesAux ⟨l.toArray⟩ l.length 0
/-- a code point's bytes, as the language has them -/
def utf8 (n : Int) : List UInt8 := (Utf8.encode n).data.toList
def utf8s (ns : List Int) : List UInt8 := ns.flatMap utf8

def maxI : Nat := 9223372036854775807
def reach : Nat := 140737488355328

def binInt (o : BinOp) (k : IntKind) (a b : Int) : Option (Bool × V) :=
  match o with
  | .add => some (true, .int k (k.wrap (a + b)))
  | .sub => some (true, .int k (k.wrap (a - b)))
  | .mul => some (true, .int k (k.wrap (a * b)))
  | .quo => some (!(b == 0), .int k (k.wrap (a.tdiv b)))
  | .rem => some (!(b == 0), .int k (a.tmod b))
  | .and => some (true, .int k (bitsI .and k a b))
  | .or => some (true, .int k (bitsI .or k a b))
  | .xor => some (true, .int k (bitsI .xor k a b))
  | .andNot => some (true, .int k (bitsI .andNot k a b))
  | .eql => some (true, .bool (a == b))
  | .neq => some (true, .bool (!(a == b)))
  | .lss => some (true, .bool (decide (a < b)))
  | .leq => some (true, .bool (decide (a ≤ b)))
  | .gtr => some (true, .bool (decide (b < a)))
  | .geq => some (true, .bool (decide (b ≤ a)))
  | _ => none

def binStr (o : BinOp) (a b : List UInt8) : Option (Bool × V) :=
  match o with
  | .add => some (decide (a.length + b.length ≤ maxI), .str (a ++ b))
  | .eql => some (true, .bool (decide (a = b)))
  | .neq => some (true, .bool (!decide (a = b)))
  | .lss => some (true, .bool (Op.bytesLess a b))
  | .leq => some (true, .bool (Op.bytesLess a b || decide (a = b)))
  | .gtr => some (true, .bool (!(Op.bytesLess a b || decide (a = b))))
  | .geq => some (true, .bool (!Op.bytesLess a b))
  | _ => none

/-- are the cells of two plain structs the same? -/
def sameCells : List Nat → List V → List V → Option Bool
  | [], [], [] => some true
  | 0 :: ks, .int k a :: x, .int k' b :: y => if k = k' then (sameCells ks x y).map fun r => (a == b) && r else none
  | 1 :: ks, .str a :: x, .str b :: y => (sameCells ks x y).map fun r => decide (a = b) && r
  | 2 :: ks, .bool a :: x, .bool b :: y => (sameCells ks x y).map fun r => (a == b) && r
  | _, _, _ => none

def binV (o : BinOp) (x y : V) : Option (Bool × V) :=
  match x, y with
  | .int k a, .int k' b =>
    match o with
    | .shl => some (decide (0 ≤ b), .int k (shlI k a b))
    | .shr => some (decide (0 ≤ b), .int k (shrI k a b))
    | o => if k = k' then binInt o k a b else none
  | .str a, .str b => binStr o a b
  | _, _ => none

def unV (o : UnOp) (x : V) : Option V :=
  match o, x with
  | .not, .bool b => some (.bool (!b))
  | .neg, .int k n => some (.int k (k.wrap (0 - n)))
  | .xor, .int k n => some (.int k (bitsI .xor k (if k.signed then -1 else k.max) n))
  | _, _ => none

/-- a list's cells, where values are laid over them -/
def lay (cells : List V) : List (Nat × Nat × V) → Option (List V)
  | [] => some cells
  | (off, n, v) :: r => if (v.cells.length == n && v.cells.all V.one) && decide (off + n ≤ cells.length) then lay (cells.take off ++ v.cells.map disown ++ cells.drop (off + n)) r else none

def decAll (k : EK) : List V → Option (List (Ty k))
  | [] => some []
  | v :: r => match dec k v.cells, decAll k r with | some x, some l => some (x :: l) | _, _ => none

/-- the ends of a slice expression: the test, from, to -/
def ends (len : Nat) : Option V → Option V → Option (Bool × Nat × Nat)
  | none, none => some (true, 0, len)
  | some (.int _ a), none => some (decide (0 ≤ a) && decide (a ≤ len), a.toNat, len)
  | none, some (.int _ b) => some (decide (0 ≤ b) && decide (b ≤ len), 0, b.toNat)
  | some (.int _ a), some (.int _ b) => some (decide (0 ≤ b) && decide (b ≤ len) && (decide (0 ≤ a) && decide (a ≤ b)), a.toNat, b.toNat)
  | _, _ => none

def osrc (s : St) : Option ASrc → Option V
  | none => none
  | some x => some (x.ev s)

/-- a row of bytes that is written to: one cell of its own kind -/
def isRow : List V → Bool
  | [.rb _] => true
  | [.rw _ _] => true
  | _ => false
def St.obj (s : St) (id : Nat) : Option (List V) := match s.hp.getD id none with | some [.rb _] => none | some [.rw _ _] => none | o => o
/-- an element of a row, some of whose cells are stored anew -/
def setElt (k : EK) (x : Ty k) (o : Nat) (vs : List V) : Option (Ty k) := dec k (((enc k x).take o ++ vs.map V.weak) ++ (enc k x).drop (o + vs.length))
def St.rowW (s : St) (id : Nat) : Option ((k : EK) × List (Ty k)) := match s.hp.getD id none with | some [.rw k xs] => some ⟨k, xs⟩ | _ => none
def St.row (s : St) (id : Nat) : Option (List UInt8) := match s.hp.getD id none with | some [.rb xs] => some xs | _ => none
def St.setObj (s : St) (id : Nat) (cs : List V) : St := { s with hp := s.hp.set id (some cs) }

def loaded (agg : Bool) (cs : List V) : V := if agg then .agg (cs.map disown) else cs.headD .undef

/-- what a call gives: a test, the value, the objects behind it -/
abbrev ASpec := Nat → List V → List AObj → Option (Bool × V × List AObj)

def St.setO (s : St) (d : Option Nat) (v : V) : St := match d with | some d => s.set d v | none => s

/-- one of two values -/
def pickV (t : Bool) (a b : V) : V :=
  match a, b with
  | .bool x, .bool y => .bool (cond t x y)
  | .int k x, .int k' y => if k = k' then .int k (cond t x y) else cond t (.int k x) (.int k' y)
  | .str x, .str y => .str (cond t x y)
  | a, b => cond t a b

theorem pickV_eq (t : Bool) (a b : V) : pickV t a b = cond t a b := by
  unfold pickV
  split
  · cases t <;> rfl
  · split
    · rename_i h; subst h; cases t <;> rfl
    · rfl
  · cases t <;> rfl
  · rfl

def step (Γ : ASpec) (o : IOp) (s : St) : Option (Bool × St) :=
  match o with
  | .mov d x => some (true, (x.after s).set d (x.ev s))
  | .pick d c a b => match c.ev s with | .bool t => some (true, s.set d (pickV t (disown (a.ev s)) (disown (b.ev s)))) | _ => none
  | .bin d o x y => (binV o (x.ev s) (y.ev s)).map fun (c, v) => (c, s.set d v)
  | .un d o x => (unV o (x.ev s)).map fun v => (true, s.set d v)
  | .cvi d k x => match x.ev s with | .int _ n => some (true, s.set d (.int k (k.wrap n))) | _ => none
  | .cvs d x => match x.ev s with | .str l => some (true, s.set d (.str l)) | _ => none
  | .s2b d x => match x.ev s with | .str l => some (true, s.set d (.sl .u8 .own l)) | _ => none
  | .b2s d x => match x.ev s with | .sl .u8 _ l => some (true, s.set d (.str l)) | _ => none
  | .i2s d x => match x.ev s with | .int _ n => some (true, s.set d (.str (utf8 n))) | _ => none
  | .s2r d x => match x.ev s with | .str l => some (decide ((runesOf l).length ≤ 70368744177664), s.set d (.sl (.num .i32) .own (runesOf l))) | _ => none
  | .r2s d x => match x.ev s with | .sl (.num .i32) _ l => some (decide (l.length ≤ reach), s.set d (.str (utf8s l))) | _ => none
  | .lens d x => match x.ev s with | .str l => some (true, s.set d (.int .i64 l.length)) | _ => none
  | .lenl d x => match x.ev s with | .sl _ _ l => some (true, s.set d (.int .i64 l.length)) | _ => none
  | .lnw d x => match x.ev s with | .hd n => some (true, s.set d (.int .i64 n)) | .sw _ _ n => some (true, s.set d (.int .i64 n)) | _ => none
  | .mku d k x => match x.ev s with
    | .int _ n => some (decide (0 ≤ n) && decide (n * k.bytes ≤ reach), s.set d (.ul k (List.replicate n.toNat (dflt k))))
    | _ => none
  | .apu d k x y => match x.ev s, y.ev s with
    | .ul k' l, .sl k'' _ m => if k' = k then if h : k'' = k' then some (decide ((l.length + m.length) * k'.bytes ≤ reach), (x.after s).set d (.ul k' (l ++ (h ▸ m)))) else none else none
    | _, _ => none
  | .apv d k x n => match x.ev s, s.get n with
    | .ul k' l, .ul k'' m => if k' = k then if h : k'' = k' then some (decide ((l.length + m.length) * k'.bytes ≤ reach), (x.after s).set d (.ul k' (l ++ (h ▸ m)))) else none else none
    | _, _ => none
  | .apw d k x y => match x.ev s, y.ev s with
    | .ul k' l, .sw _ id n => match s.rowW id with
      | some ⟨k'', m⟩ => if k' = k then if h : k'' = k' then some (Nat.beq n m.length && decide ((l.length + m.length) * k'.bytes ≤ reach), (x.after s).set d (.ul k' (l ++ (h ▸ m)))) else none else none
      | none => none
    | _, _ => none
  | .blu d k => some (true, s.set d (.ul k []))
  | .s2u d x => match x.ev s with | .str l => some (true, s.set d (.ul .u8 l)) | _ => none
  | .ixw d k x i => match x.ev s, i.ev s with
    | .sw k' id n, .int _ i => if k' = k then some (decide (0 ≤ i) && decide (i < n), s.set d (.wp id k' i.toNat 0)) else none
    | _, _ => none
  | .fdw d off x => match x.ev s with | .wp id k i o => some (true, s.set d (.wp id k i (o + off))) | _ => none
  | .ldw d n agg x => match x.ev s with
    | .wp id k i o => match s.rowW id with
      | some ⟨k', xs⟩ => if k' = k ∧ o + n ≤ k'.sz then some (decide (i < xs.length), s.set d (disown (loaded agg (((enc k' (xs.getD i (dflt k'))).drop o).take n)))) else none
      | none => none
    | _ => none
  | .stw d n x v => match x.ev s with
    | .wp id k i o => match s.rowW id with
      | some ⟨k', xs⟩ => if k' = k ∧ (o + n ≤ k'.sz ∧ ((v.ev s).cells.length == n && (v.ev s).cells.all V.one) = true) then
          match setElt k' (xs.getD i (dflt k')) o (v.ev s).cells with
          | some x' => some (decide (i < xs.length), (s.setObj id [.rw k' (xs.set i x')]).setO d .undef)
          | none => none
        else none
      | none => none
    | _ => none
  | .eqs d neg ks x y => match x.ev s, y.ev s with
    | .agg xs, .agg ys => (sameCells ks xs ys).map fun r => (true, s.set d (.bool (if neg then !r else r)))
    | _, _ => none
  | .idx d x i => match x.ev s, i.ev s with
    | .str l, .int _ i => some (decide (0 ≤ i) && decide (i < l.length), s.set d (.int .u8 (l.getD i.toNat 0).toNat))
    | _, _ => none
  | .ixa d k x i => match x.ev s, i.ev s with
    | .sl k' _ l, .int _ i => if k' = k then some (decide (0 ≤ i) && decide (i < l.length), s.set d (.ea (enc k' (l.getD i.toNat (dflt k'))))) else none
    | _, _ => none
  | .subs d x lo hi => match x.ev s with
    | .str l => (ends l.length (osrc s lo) (osrc s hi)).map fun (c, a, b) => (c, s.set d (.str ((l.take b).drop a)))
    | _ => none
  | .subl d k x lo hi => match x.ev s with
    | .sl k' _ l => if k' = k then (ends l.length (osrc s lo) (osrc s hi)).map fun (c, a, b) => (c, s.set d (.sl k' (.may false) ((l.take b).drop a))) else none
    | _ => none
  | .bsl d k ps u => (decAll k (ps.map (·.ev s))).map fun l => (true, s.set d (.sl k (cond u (.may true) .own) l))
  | .bld d zero ps => (lay zero (ps.map fun (off, n, x) => (off, n, x.ev s))).map fun cs => (true, s.set d (.agg cs))
  | .fld d off n agg x => match x.ev s with
    | .agg cs => if off + n ≤ cs.length then some (true, s.set d (disown (loaded agg ((cs.drop off).take n)))) else none
    | _ => none
  | .new d zero => some (true, { s.set d (.ptr s.hp.length 0) with hp := s.hp ++ [some zero] })
  | .box d x => match x.ev s with
    | .agg cs => some (true, { s.set d (.ptr s.hp.length 0) with hp := s.hp ++ [some cs] })
    | v => if v.one then some (true, { s.set d (.ptr s.hp.length 0) with hp := s.hp ++ [some [disown v]] }) else none
  | .newb d zero => some (true, { s.set d (.ptr s.hp.length 0) with hp := s.hp ++ [some zero] })
  | .boxb d j E n x => match x.ev s with
    | .agg cs => if cs.length = n then
        match cs.getD j .undef with
        | .nilp => some (true, { s.set d (.ptr s.hp.length 0) with hp := s.hp ++ [some (cs.set j (.bn E n))] })
        | _ => none
      else none
    | _ => none
  | .fad d off x => match x.ev s with
    | .ea cs => some (true, s.set d (.ea (cs.drop off)))
    | .ptr id o => some (true, s.set d (.ptr id (o + off)))
    | _ => none
  | .ld d n agg take x => match x.ev s with
    | .ea cs => if n ≤ cs.length then some (true, s.set d (disown (loaded agg (cs.take n)))) else none
    | .ptr id o => match s.obj id with
      | some cs => if o + n ≤ cs.length then
          (if take then (if noBn (cs.getD o .undef) then some (true, (s.setObj id (cs.set o (disown (cs.getD o .undef)))).set d (loaded agg ((cs.drop o).take n))) else none)
          else some (true, s.set d (disown (loaded agg ((cs.drop o).take n)))))
        else none
      | none => none
    | _ => none
  | .st d n x v => match x.ev s with
    | .ptr id o => match s.obj id with
      | some cs => if ((v.ev s).cells.length == n && (v.ev s).cells.all V.one) && (decide (o + n ≤ cs.length) && (v.ev s).cells.all noBn) then
          some (true, ((v.after s).setObj id (cs.take o ++ (v.ev s).cells ++ cs.drop (o + n))).setO d .undef) else none
      | none => none
    | _ => none
  | .app d k x y => match x.ev s, y.ev s with
    | .sl k' o l, .sl k'' _ m =>
      if k' = k then
        if h : k'' = k' then some (o.app m.length && decide ((l.length + m.length) * k'.bytes ≤ reach), (x.after s).set d (.sl k' .own (l ++ (h ▸ m)))) else none
      else none
    | _, _ => none
  | .apps d x y => match x.ev s, y.ev s with
    | .sl .u8 .own l, .str m => some (decide (l.length + m.length ≤ reach), (x.after s).set d (.sl .u8 .own (l ++ m)))
    | _, _ => none
  | .mks d k x => match x.ev s with
    | .int _ n => some (decide (0 ≤ n) && decide (n * k.bytes ≤ reach), s.set d (.sl k .own (List.replicate n.toNat (dflt k))))
    | _ => none
  | .s2o d x => match x.ev s with | .str l => some (true, { s.set d (.so s.hp.length l.length) with hp := s.hp ++ [some [.rb l]] }) | _ => none
  | .mko d x => match x.ev s with
    | .int _ n => some (decide (0 ≤ n) && decide (n ≤ reach), { s.set d (.so s.hp.length n.toNat) with hp := s.hp ++ [some [.rb (List.replicate n.toNat 0)]] })
    | _ => none
  | .blo d ps => (decAll .u8 (ps.map (·.ev s))).map fun l => (true, { s.set d (.so s.hp.length l.length) with hp := s.hp ++ [some [.rb l]] })
  | .aro d n => some (true, { s.set d (.ptr s.hp.length 0) with hp := s.hp ++ [some [.rb (List.replicate n 0)]] })
  | .ixp d n x i => match x.ev s, i.ev s with
    | .ptr id o, .int _ i => some (decide (0 ≤ i) && decide (i < n), s.set d (.ptr id (o + i.toNat)))
    | _, _ => none
  | .ixo d x i => match x.ev s, i.ev s with
    | .so id n, .int _ i => some (decide (0 ≤ i) && decide (i < n), s.set d (.ptr id i.toNat))
    | _, _ => none
  | .leno d x => match x.ev s with | .so _ n => some (true, s.set d (.int .i64 n)) | _ => none
  | .o2s d x => match x.ev s with
    | .so id n => match s.row id with | some xs => some (decide (n ≤ xs.length), s.set d (.str (xs.take n))) | none => none
    | _ => none
  | .ldo d x => match x.ev s with
    | .ptr id o => match s.row id with | some xs => some (decide (o < xs.length), s.set d (.int .u8 (xs.getD o 0).toNat)) | none => none
    | _ => none
  | .sto d x v => match x.ev s, v.ev s with
    | .ptr id o, .int .u8 n => match s.row id with | some xs => some (decide (o < xs.length), (s.setObj id [.rb (xs.set o (UInt8.ofNat n.toNat))]).setO d .undef) | none => none
    | _, _ => none
  | .ext d i x => match x.ev s with
    | .tup vs => if i < vs.length then some (true, s.set d (disown (vs.getD i .undef))) else none
    | _ => none
  | .nck d x => match x.ev s with
    | .ptr id o => some (true, s.setO d (.ptr id o))
    | .ea cs => some (true, s.setO d (.ea cs))
    | _ => none
  | .call d f as => match Γ f (as.map fun x => disown (x.ev s)) s.hp with
    | some (c, v, hp) => some (c, { s with hp := hp }.setO d v)
    | none => none
  | .beq d neg x y => match x.ev s, y.ev s with
    | .bool p, .bool q => some (true, s.set d (.bool (cond neg (!(p == q)) (p == q))))
    | _, _ => none
  | .peq d neg x y => match x.ev s, y.ev s with
    | .nilp, .nilp => some (true, s.set d (.bool (!neg)))
    | .nilp, .ptr _ _ => some (true, s.set d (.bool neg))
    | .ptr _ _, .nilp => some (true, s.set d (.bool neg))
    | _, _ => none
  | .alr d n => some (true, s.set d (.raw n))
  | .frz d r n v => match s.get r with
    | .raw m => if Nat.beq m n && ((v.ev s).cells.length == n && (v.ev s).cells.all V.one) then some (true, (s.set r (.ea ((v.ev s).cells.map disown))).setO d .undef) else none
    | _ => none
  | .lde d n agg x => match x.ev s with
    | .ea cs => if n ≤ cs.length then some (true, s.set d (disown (loaded agg (cs.take n)))) else none
    | _ => none
  | .boxe d x => match x.ev s with
    | .agg cs => some (true, s.set d (.ea (cs.map disown)))
    | v => if v.one then some (true, s.set d (.ea [disown v])) else none
  | .mkf d f caps => some (true, s.set d (.fn f (caps.map fun x => disown (x.ev s))))
  | .dcall d f x args => match x.ev s with
    | .fn f' caps => match Γ f (args.map (fun y => disown (y.ev s)) ++ caps.map disown) s.hp with
      | some (c, v, hp) => some (Nat.beq f' f && c, { s with hp := hp }.setO d v)
      | none => none
    | _ => none
  | .mn3 d x y z => match x.ev s, y.ev s, z.ev s with
    | .int k a, .int k' b, .int k'' c => if k = k' ∧ k = k'' then some (true, s.set d (.int k (if c < (if b < a then b else a) then c else (if b < a then b else a)))) else none
    | _, _, _ => none
  | .mx d mn x y => match x.ev s, y.ev s with
    | .int k a, .int k' b => if k = k' then some (true, s.set d (.int k (if mn then (if b < a then b else a) else (if a < b then b else a)))) else none
    | _, _ => none

def IOp.dst : IOp → Option Nat
  | .mov d _ | .pick d .. | .bin d .. | .un d .. | .cvi d .. | .cvs d _ | .s2b d _ | .b2s d _ | .i2s d _ | .s2r d _ | .r2s d _ | .lens d _ | .lenl d _ | .eqs d .. | .idx d .. | .ixa d .. | .subs d .. | .subl d .. | .bsl d ..
  | .bld d .. | .fld d .. | .new d _ | .box d _ | .newb d _ | .boxb d .. | .fad d .. | .ld d .. | .app d .. | .apps d .. | .mks d .. | .s2o d _ | .mko d _ | .blo d _ | .aro d _ | .ixp d .. | .ixo d .. | .leno d _ | .o2s d _ | .ldo d _ | .ext d .. | .mx d .. | .mn3 d .. | .beq d .. | .peq d .. | .boxe d .. | .mkf d .. | .alr d _ | .lde d .. | .mku d .. | .apu d .. | .apv d .. | .apw d .. | .blu d _ | .s2u d _ | .lnw d _ | .ixw d .. | .fdw d .. | .ldw d .. => some d
  | .st d .. | .sto d .. | .nck d _ | .call d .. | .dcall d .. | .frz d .. | .stw d .. => d

/-- a test that a run must pass -/
def chk {R : Type} (c : Bool) (x : Option R) : Option R := match c with | true => x | false => none

/-- a struct's cells, else the value alone -/
def V.cellsA : V → List V
  | .agg cs => cs
  | v => [v]

/-- the objects that a value names -/
def V.id1 : V → List Nat
  | .ptr id _ => [id]
  | .sw _ id _ => [id]
  | _ => []
def argIds (vs : List V) : List Nat := vs.flatMap fun v => v.cellsA.flatMap V.id1

/-- the objects that stand among arguments -/
def ptrIds : List V → List Nat
  | [] => []
  | .ptr i 0 :: vs => i :: ptrIds vs
  | _ :: vs => ptrIds vs

/-- the objects that an operation reads, and those that it turns -/
def IOp.foot (o : IOp) (s : St) : Option (List Nat × List Nat) :=
  match o with
  | .ld _ _ _ take x => match x.ev s with
    | .ptr id _ => some (cond take ([], [id]) ([id], []))
    | .ea _ => some ([], [])
    | _ => none
  | .st _ _ x _ => match x.ev s with | .ptr id _ => some ([], [id]) | _ => none
  | .call _ _ as => some (argIds (as.map fun x => disown (x.ev s)), ptrIds (as.map fun x => disown (x.ev s)))
  | .ldw _ _ _ x => match x.ev s with | .wp id _ _ _ => some ([id], []) | _ => none
  | .stw _ _ x _ => match x.ev s with | .wp id _ _ _ => some ([], [id]) | _ => none
  | _ => none

def IOp.within (o : IOp) (l : List Nat × List Nat) (s : St) : Bool := match o.foot s with
  | some (r, w) => r.all (fun i => l.1.any (Nat.beq i) || l.2.any (Nat.beq i)) && w.all (fun i => l.2.any (Nat.beq i))
  | none => false

/-- a step that keeps to the objects that are named -/
def stepO (Γ : ASpec) (ob : Option (List Nat × List Nat)) (o : IOp) (s : St) : Option (Bool × St) := match ob with
  | none => step Γ o s
  | some l => cond (o.within l s) (step Γ o s) none

theorem stepO_some {Γ : ASpec} {ob : Option (List Nat × List Nat)} {o : IOp} {s : St} {p : Bool × St} (h : stepO Γ ob o s = some p) : step Γ o s = some p := by
  unfold stepO at h
  split at h
  · exact h
  · rename_i l
    cases hw : o.within l s with
    | true => rw [hw] at h; exact h
    | false => rw [hw] at h; simp at h

def runOps {R : Type} (Γ : ASpec) : List GOp → (St → Option R) → St → Option R
  | [], K, s => K s
  | ⟨none, o, ob⟩ :: r, K, s => match stepO Γ ob o s with
    | some (c, s') => chk c (runOps Γ r K s')
    | none => none
  | ⟨some (g, w), o, ob⟩ :: r, K, s => match s.get g with
    | .bool b => cond b
        (match w with
          | true => match stepO Γ ob o (s.set g (.bool true)) with
            | some (c, s') => chk c (runOps Γ r K s')
            | none => none
          | false => runOps Γ r K ((s.set g (.bool true)).setO o.dst (.tup [])))
        (match w with
          | false => match stepO Γ ob o (s.set g (.bool false)) with
            | some (c, s') => chk c (runOps Γ r K s')
            | none => none
          | true => runOps Γ r K ((s.set g (.bool false)).setO o.dst (.tup [])))
    | .tup [] => runOps Γ r K (s.setO o.dst (.tup []))
    | _ => none

/-- where a list lies that is owned: a slot, an object's cell -/
inductive Occ where
  | slot (n : Nat)
  | cell (id j : Nat)
  | res
  deriving DecidableEq

/-- what the machine does by itself, between operations: a list that its place alone owns is made a row, is taken back, is laid for good -/
inductive GAct where
  | opn (o : Occ)
  | cls (o : Occ)
  | fz (o : Occ)

def St.at? (s : St) : Occ → V
  | .slot n => s.get n
  | .cell id j => match s.obj id with | some cs => cs.getD j .undef | none => .undef
  | .res => .undef
def St.put? (s : St) (o : Occ) (v : V) : St := match o with
  | .slot n => s.set n v
  | .cell id j => match s.obj id with | some cs => s.setObj id (cs.set j v) | none => s
  | .res => s

def GAct.step (a : GAct) (s : St) : Option (Bool × St) := match a with
  | .opn o => match s.at? o with
    | .ul k xs => some (decide (0 < xs.length), { s.put? o (.sw k s.hp.length xs.length) with hp := (s.put? o (.sw k s.hp.length xs.length)).hp ++ [some [.rw k xs], none] })
    | _ => some (true, s)
  | .cls o => match s.at? o with
    | .sw k id n => match s.rowW id with
      | some ⟨k', xs⟩ => if k' = k then some (Nat.beq n xs.length, { s.put? o (.ul k' xs) with hp := (s.put? o (.ul k' xs)).hp.set id none }) else none
      | none => none
    | _ => some (true, s)
  | .fz o => match s.at? o with
    | .ul k xs => some (true, s.put? o (.sl k .own xs))
    | _ => some (true, s)

inductive IR where
  | skip
  | bad
  | reg (ops : List GOp) (pre : List (List Nat))
  | seq (a b : IR)
  | cond (c : ASrc) (a b : IR)
  | block (id : Nat) (a : IR)
  | loop (live : List Nat) (n : Nat) (a : IR)
  | cut (live : List Nat) (n : Nat) (a : IR)
  | gh (g : GAct) (a : IR)
  | ghp (g : GAct) (a : IR)
  | exit (id : Nat)
  | ret

inductive Ex where
  | normal
  | exit (id : Nat)
  | ret

mutual
/-- has a value pointers to the first objects alone? -/
def V.lower (n : Nat) : V → Bool
  | .ptr id _ => Nat.blt id n
  | .so id _ => Nat.blt id n
  | .rw _ _ => false
  | .sw _ id _ => Nat.blt (id + 1) n
  | .wp id _ _ _ => Nat.blt (id + 1) n
  | .agg cs => V.lowers n cs
  | .tup cs => V.lowers n cs
  | .ea cs => V.lowers n cs
  | .fn _ cs => V.lowers n cs
  | _ => true
def V.lowers (n : Nat) : List V → Bool
  | [] => true
  | v :: r => V.lower n v && V.lowers n r
end

def keepFrom (live : List Nat) (n : Nat) : Nat → List V → List V
  | _, [] => []
  | i, v :: r => (if live.elem i && v.lower n then v else .undef) :: keepFrom live n (i + 1) r

def objsBelow (n : Nat) : List AObj → Bool
  | [] => true
  | none :: r => objsBelow n r
  | some cs :: r => V.lowers n cs && objsBelow n r

/-- only the slots that are named keep their values, only the first objects are kept -/
def St.keep (s : St) (live : List Nat) (n : Nat) : St := { env := keepFrom live n 0 s.env, hp := cond (objsBelow n (s.hp.take n)) (s.hp.take n) s.hp }

def loopN {R : Type} : Nat → ((St → Option R) → St → Option R) → St → Option R
  | 0, _, _ => none
  | n + 1, F, s => F (loopN n F) s

/-- what comes behind -/
def kseq {R : Type} (b : (Ex → St → Option R) → St → Option R) (K : Ex → St → Option R) : Ex → St → Option R
  | .normal, s => b K s
  | e, s => K e s

def kblock {R : Type} (id : Nat) (K : Ex → St → Option R) : Ex → St → Option R
  | .exit j, s => cond (Nat.beq j id) (K .normal s) (K (.exit j) s)
  | e, s => K e s

def kloop {R : Type} (again : St → Option R) (live : List Nat) (n : Nat) (K : Ex → St → Option R) : Ex → St → Option R
  | .normal, s => again (s.keep live n)
  | e, s => K e s

def kpost {R : Type} (g : GAct) (K : Ex → St → Option R) : Ex → St → Option R
  | .normal, s => match g.step s with
    | some (c, s') => chk c (K .normal s')
    | none => none
  | e, s => K e s

def run {R : Type} (Γ : ASpec) (n : Nat) : IR → (Ex → St → Option R) → St → Option R
  | .skip, K, s => K .normal s
  | .bad, _, _ => none
  | .reg ops _, K, s => runOps Γ ops (K .normal) s
  | .seq a b, K, s => run Γ n a (kseq (run Γ n b) K) s
  | .cond c a b, K, s => match c.ev s with
    | .bool t => cond t (run Γ n a K (c.fix s true)) (run Γ n b K (c.fix s false))
    | _ => none
  | .block id a, K, s => run Γ n a (kblock id K) s
  | .loop live m a, K, s => loopN n (fun again s => run Γ n a (kloop again live m K) s) (s.keep live m)
  | .cut live m a, K, s => run Γ n a K (s.keep live m)
  | .gh g a, K, s => match g.step s with
    | some (c, s') => chk c (run Γ n a K s')
    | none => none
  | .ghp g a, K, s => run Γ n a (kpost g K) s
  | .exit id, K, s => K (.exit id) s
  | .ret, K, s => K .ret s

/-- rounds over plain data -/
def iterL {α R : Type} : Nat → ((α → Option R) → α → Option R) → α → Option R
  | 0, _, _ => none
  | n + 1, B, x => B (iterL n B) x

theorem loop_eq {α R : Type} (mk : α → St) (F : (St → Option R) → St → Option R) (B : (α → Option R) → α → Option R)
    (h : ∀ again x, F again (mk x) = B (fun y => again (mk y)) x) : ∀ m x, loopN m F (mk x) = iterL m B x
  | 0, _ => rfl
  | m + 1, x => by
    show F (loopN m F) (mk x) = B (iterL m B) x
    rw [h]
    congr 1
    funext y
    exact loop_eq mk F B h m y

/-- where a result lies: a slot, or a cell row at a slot's address -/
inductive RV where
  | t (n : Nat)
  | cell (n size : Nat) (agg : Bool)

def RV.ev (s : St) : RV → Option V
  | .t n => some (s.get n)
  | .cell n size agg => match s.get n with
    | .ptr id o => match s.obj id with
      | some cs => if o + size ≤ cs.length then some (disown (loaded agg ((cs.drop o).take size))) else none
      | none => none
    | .ea cs => if size ≤ cs.length then some (disown (loaded agg (cs.take size))) else none
    | _ => none

def rvs (s : St) : List RV → Option (List V)
  | [] => some []
  | r :: l => match r.ev s, rvs s l with | some v, some vs => some (v :: vs) | _, _ => none

def resultOf (s : St) (rs : List RV) : Option V :=
  match rvs s rs with
  | some [v] => some v
  | some vs => some (.tup (vs.map disown))
  | none => none

/-- the end of a function's run: its value, its objects -/
def fin (rs : List RV) : Ex → St → Option (V × List AObj)
  | .normal, s | .ret, s => (resultOf s rs).map fun v => (v, s.hp)
  | _, _ => none

def start (ntmps : Nat) (args : List V) (hp : List AObj) : St := { env := args ++ List.replicate (ntmps - args.length) .undef, hp }

/-- a function's run -/
def callF (Γ : ASpec) (n : Nat) (ntmps : Nat) (rs : List RV) (body : IR) (args : List V) (hp : List AObj) : Option (V × List AObj) :=
  run Γ n body (fin rs) (start ntmps args hp)

end Go.AM
