/-
  Operations, code, runs.
-/
import Derived.Test.YtehknfijojlddaaGreatDmRows
namespace Go.DM
set_option autoImplicit false
set_option linter.unusedVariables false
def symOp (o : SOp) (x y : D) : Option D := symL o x y rows
/-- what numbers that are not known may be -/
abbrev Sig := {σ : Nat → Int // ∀ r ∈ rows, r.ok σ}

/-- are two values the same, where the machine knows? -/
def eqV : D → D → Option Bool
  | .int k a, .int k' b => chk (sameK k k') (some (eqI a b))
  | .str a, .str b => some (eqL a b)
  | _, _ => none
def eqN : Nat → D → D → Option Bool
  | 0, .bool a, .bool b => some (a == b)
  | 1, .nilp, .nilp => some true
  | 1, .nilp, .ptr _ _ => some false
  | 1, .ptr _ _, .nilp => some false
  | 2, .nils, .nils => some true
  | 2, .nils, .sl .. => some false
  | 2, .nils, .emp => some false
  | 2, .sl .., .nils => some false
  | 2, .emp, .nils => some false
  | 3, .nilm, .nilm => some true
  | 3, .nilm, .mp _ => some false
  | 3, .mp _, .nilm => some false
  | 4, .nilf, .nilf => some true
  | 4, .fn _ _, .nilf => some false
  | 4, .nilf, .fn _ _ => some false
  | _, _, _ => none
def eqC : List D → List D → Option Bool
  | [], [] => some true
  | a :: x, b :: y => match eqV a b with
    | some true => eqC x y
    | some false => some false
    | none => none
  | _, _ => none
/-- are two keys, two structs the same? -/
def eqD (a b : D) : Option Bool := match a, b with
  | .agg x, .agg y => eqC x y
  | x, y => eqV x y

def findK (k : D) : List (D × D) → Nat → Option (Option (Nat × D))
  | [], _ => some none
  | (a, v) :: es, i => match eqD k a with
    | some true => some (some (i, v))
    | some false => findK k es (Nat.succ i)
    | none => none

/-- a key of a kind: a number, a text, so many numbers, so many texts -/
def isKey (kk n : Nat) (k : D) : Bool := match kk, k with
  | 0, .int _ _ => true
  | 1, .str _ => true
  | 2, .agg cs => Nat.beq (lenL cs 0) n && cs.all fun c => match c with | .int _ _ => true | _ => false
  | 3, .agg cs => Nat.beq (lenL cs 0) n && cs.all fun c => match c with | .str _ => true | _ => false
  | _, _ => false

/-- a row's cells, where values are laid over them -/
def lay (cells : List D) : List (Nat × Nat × D) → Option (List D)
  | [] => some cells
  | (off, n, v) :: r => chk (Nat.beq v.cells.length n && v.cells.all D.one && Nat.ble (off + n) cells.length) (lay (cells.take off ++ v.cells ++ cells.drop (off + n)) r)

/-- the ends of a slice expression: from, to -/
def ends (len : Nat) : Option D → Option D → Option (Nat × Nat)
  | none, none => some (0, len)
  | some (.int _ (.ofNat a)), none => chk (Nat.ble a len) (some (a, len))
  | none, some (.int _ (.ofNat b)) => chk (Nat.ble b len) (some (0, b))
  | some (.int _ (.ofNat a)), some (.int _ (.ofNat b)) => chk (Nat.ble b len && Nat.ble a b) (some (a, b))
  | _, _ => none

def osrc (E : Nat → D) : Option ASrc → Option D
  | none => none
  | some x => some (x.ev E)

/-- a slice's cells -/
def slCells (H : Nat → Option Obj) : D → Option (Nat × List D)
  | .nils => some (0, [])
  | .emp => some (0, [])
  | .sl id off len sz _ => match cells? H id with
    | some (_, _, cs) => chk (Nat.ble (off + len * sz) cs.length) (some (len, (cs.drop off).take (len * sz)))
    | none => none
  | _ => none

def byteD (n : Nat) : D := .int .u8 (.ofNat n)
def byteN : D → Option Nat
  | .int .u8 (.ofNat n) => some n
  | _ => none
def bytesN : List D → Option (List Nat)
  | [] => some []
  | c :: r => match byteN c, bytesN r with | some n, some l => some (n :: l) | _, _ => none

/-- what is appended: how many, which cells -/
def srcCells (H : Nat → Option Obj) : D → Option (Nat × List D)
  | .str l => some (l.length, l.map byteD)
  | v => slCells H v

/-- what an operation that is no call yields, and what it does to objects; at: a new object's number -/
def eff (at_ : Nat) (E : Nat → D) (H : Nat → Option Obj) : IOp → Option (D × List (Nat × Option Obj))
  | .mov x => some (x.ev E, [])
  | .pick c a b => match c.ev E with | .bool t => some (cond t (a.ev E) (b.ev E), []) | _ => none
  | .bin o x y => (orS (binV o (x.ev E) (y.ev E)) (symOp (.b o) (x.ev E) (y.ev E))).map fun v => (v, [])
  | .un o x => (orS (unV o (x.ev E)) (symOp (.u o) (x.ev E) .undef)).map fun v => (v, [])
  | .cvi k x => (orS (match x.ev E with | .int _ n => some (.int k (k.wrap n)) | _ => none) (symOp (.c k) (x.ev E) .undef)).map fun v => (v, [])
  | .cvs x => match x.ev E with | .str l => some (.str l, []) | _ => none
  | .s2b e x => match x.ev E with | .str l => some (.sl at_ 0 l.length 1 none, [(at_, some (.cells e false (l.map byteD)))]) | _ => none
  | .b2s x => match slCells H (x.ev E) with
    | some (n, cs) => chk (Nat.beq (lenL cs 0) n) ((bytesN cs).map fun l => (.str l, []))
    | none => none
  | .i2s x => match x.ev E with | .int _ n => some (.str (utf8 n), []) | _ => none
  | .len st x => match st, x.ev E with
    | true, .str l => some (.int .i64 (.ofNat (lenL l 0)), [])
    | false, .nils => some (.int .i64 (.ofNat 0), [])
    | false, .emp => some (.int .i64 (.ofNat 0), [])
    | false, .sl _ _ n _ _ => some (.int .i64 (.ofNat n), [])
    | _, _ => none
  | .idx x i => match x.ev E, i.ev E with
    | .str l, .int _ (.ofNat i) => match l[i]? with | some n => some (byteD n, []) | none => none
    | _, _ => none
  | .ixa sz x i => match x.ev E, i.ev E with
    | .sl id off n sz' _, .int _ (.ofNat i) => chk (Nat.blt i n && Nat.beq sz sz') (some (.ptr id (off + i * sz), []))
    | _, _ => none
  | .ixp n sz x i => match x.ev E, i.ev E with
    | .ptr id off, .int _ (.ofNat i) => chk (Nat.blt i n) (some (.ptr id (off + i * sz), []))
    | _, _ => none
  | .subs x lo hi => match x.ev E with
    | .str l => (ends l.length (osrc E lo) (osrc E hi)).map fun p => (.str ((l.take p.2).drop p.1), [])
    | _ => none
  | .subl sz x lo hi => match x.ev E with
    | .nils => (ends 0 (osrc E lo) (osrc E hi)).map fun _ => (.nils, [])
    | .emp => (ends 0 (osrc E lo) (osrc E hi)).map fun _ => (.emp, [])
    | .sl id off n sz' cap => chk (Nat.beq sz sz') (match ends n (osrc E lo) (osrc E hi), cap with
      | some (a, b), some c => some (cond (Nat.beq c a) (.sl id off (b - a) sz (some 0)) (.sl id (off + a * sz) (b - a) sz (some (c - a))), [])
      | some (a, b), none => some (cond (Nat.beq a n) .emp (.sl id (off + a * sz) (b - a) sz none), [])
      | none, _ => none)
    | _ => none
  | .bsl e sz ps => chk (ps.all fun x => (x.ev E).cells.all D.one && Nat.beq (x.ev E).cells.length sz) (some (.sl at_ 0 ps.length sz (some ps.length), [(at_, some (.cells e true (ps.flatMap fun x => (x.ev E).cells)))]))
  | .bld zero ps => (lay zero (ps.map fun p => (p.1, p.2.1, p.2.2.ev E))).map fun cs => (.agg cs, [])
  | .fld off n agg x => match x.ev E with
    | .agg cs => chk (Nat.ble (off + n) cs.length) (some (loaded agg ((cs.drop off).take n), []))
    | _ => none
  | .new e zero => some (.ptr at_ 0, [(at_, some (.cells e true zero))])
  | .box e x => chk ((x.ev E).cells.all D.one) (some (.ptr at_ 0, [(at_, some (.cells e true (x.ev E).cells))]))
  | .fad off x => match x.ev E with | .ptr id o => some (.ptr id (o + off), []) | _ => none
  | .ld n agg x => match x.ev E with
    | .ptr id o => match cells? H id with
      | some (_, _, cs) => chk (Nat.ble (o + n) cs.length) (some (loaded agg ((cs.drop o).take n), []))
      | none => none
    | _ => none
  | .st n x v => match x.ev E with
    | .ptr id o => match cells? H id with
      | some (e, f, cs) => chk (Nat.beq (v.ev E).cells.length n && (v.ev E).cells.all D.one && Nat.ble (o + n) cs.length) (some (.undef, [(id, some (.cells e f (cs.take o ++ (v.ev E).cells ++ cs.drop (o + n))))]))
      | none => none
    | _ => none
  | .app e sz by_ x y => match slCells H (y.ev E) with
    | some (n, news) => chk (Nat.beq (lenL news 0) (n * sz)) (match x.ev E with
      | .nils => cond (Nat.beq n 0) (some (.nils, [])) (chk (Nat.ble (n * by_) reach) (some (.sl at_ 0 n sz none, [(at_, some (.cells e false news))])))
      | .sl id off len sz' cap => chk (Nat.beq sz sz' && Nat.ble ((len + n) * by_) reach) (match cells? H id with
        | some (e', f, cs) => cond (Nat.beq n 0) (some (.sl id off len sz cap, [])) (match cap with
          | some c => cond (Nat.ble (len + n) c)
              (chk (Nat.ble (off + (len + n) * sz) cs.length) (some (.sl id off (len + n) sz (some c), [(id, some (.cells e' f (cs.take (off + len * sz) ++ news ++ cs.drop (off + (len + n) * sz))))])))
              (chk (Nat.ble (off + len * sz) cs.length) (some (.sl at_ 0 (len + n) sz none, [(at_, some (.cells e false ((cs.drop off).take (len * sz) ++ news)))])))
          | none => chk (Nat.beq off 0 && Nat.beq (len * sz) cs.length && Nat.beq e e' && !f) (some (.sl at_ 0 (len + n) sz none, [(id, none), (at_, some (.cells e false (cs ++ news)))])))
        | none => none)
      | _ => none)
    | none => none
  | .apt e by_ x y => match x.ev E, y.ev E with
    | .nils, .str l => cond (Nat.beq (lenL l 0) 0) (some (.nils, [])) (chk (Nat.ble (lenL l 0 * by_) reach) (some (.sl at_ 0 l.length 1 none, [(at_, some (.cells e false (l.map byteD)))])))
    | _, _ => none
  | .mks e sz by_ zero x => match x.ev E with
    | .int _ (.ofNat n) => chk (Nat.ble (n * by_) reach && Nat.beq zero.length sz) (some (.sl at_ 0 n sz (some n), [(at_, some (.cells e true ((List.replicate n zero).flatMap id)))]))
    | _ => none
  | .ext i x => match x.ev E with
    | .tup vs => match vs[i]? with | some v => some (v, []) | none => none
    | _ => none
  | .nck x => match x.ev E with
    | .ptr id o => some (.ptr id o, [])
    | .fn f cs => some (.fn f cs, [])
    | _ => none
  | .mx mn x y => match x.ev E, y.ev E with
    | .int k a, .int k' b => chk (sameK k k') (some (.int k (cond mn (cond (ltI b a) b a) (cond (ltI a b) b a)), []))
    | _, _ => none
  | .mkf f caps => some (.fn f (caps.map (·.ev E)), [])
  | .mkm => some (.mp at_, [(at_, some (.map []))])
  | .lkp kk n zero agg ok x k => chk (isKey kk n (k.ev E)) (match (match x.ev E with | .nilm => some [] | .mp id => map? H id | _ => none) with
    | some es => match findK (k.ev E) es 0 with
      | some (some (_, v)) => some (cond ok (.tup [v, .bool true]) v, [])
      | some none => some (cond ok (.tup [loaded agg zero, .bool false]) (loaded agg zero), [])
      | none => none
    | none => none)
  | .mup kk n m k v => chk (isKey kk n (k.ev E)) (match m.ev E with
    | .mp id => match map? H id with
      | some es => match findK (k.ev E) es 0 with
        | some (some (i, _)) => some (.undef, [(id, some (.map (es.set i (k.ev E, v.ev E))))])
        | some none => some (.undef, [(id, some (.map (es ++ [(k.ev E, v.ev E)])))])
        | none => none
      | none => none
    | _ => none)
  | .ment kk n zero agg m k => chk (isKey kk n (k.ev E)) (match m.ev E with
    | .mp id => match map? H id with
      | some es => chk (Nat.blt (lenL es 0) 1000000000) (match findK (k.ev E) es 0 with
        | some (some (i, v)) => some (.tup [v, .int .i64 (.ofNat i)], [(id, some (.map (es.set i (k.ev E, v))))])
        | some none => some (.tup [loaded agg zero, .int .i64 (.ofNat (lenL es 0))], [(id, some (.map (es ++ [(k.ev E, loaded agg zero)])))])
        | none => none)
      | none => none
    | _ => none)
  | .mest m i v => match m.ev E, i.ev E with
    | .mp id, .int _ (.ofNat i) => match map? H id with
      | some es => match es[i]? with
        | some (k, _) => some (.undef, [(id, some (.map (es.set i (k, v.ev E))))])
        | none => none
      | none => none
    | _, _ => none
  | .eq kk neg x y => (eqN kk (x.ev E) (y.ev E)).map fun b => (.bool (cond neg (!b) b), [])
  | .call .. => none
  | .dcall .. => none

def i_add (k : IntKind) (a b : Int) : Option D := some (.int k (k.wrap (a + b)))
def i_sub (k : IntKind) (a b : Int) : Option D := some (.int k (k.wrap (a - b)))
def i_mul (k : IntKind) (a b : Int) : Option D := some (.int k (k.wrap (a * b)))
def i_quo (k : IntKind) (a b : Int) : Option D := chk (!eqI b 0) (some (.int k (k.wrap (a.tdiv b))))
def i_rem (k : IntKind) (a b : Int) : Option D := chk (!eqI b 0) (some (.int k (a.tmod b)))
def i_and (k : IntKind) (a b : Int) : Option D := some (.int k (bitsI .and k a b))
def i_or (k : IntKind) (a b : Int) : Option D := some (.int k (bitsI .or k a b))
def i_xor (k : IntKind) (a b : Int) : Option D := some (.int k (bitsI .xor k a b))
def i_andNot (k : IntKind) (a b : Int) : Option D := some (.int k (bitsI .andNot k a b))
def i_eql (k : IntKind) (a b : Int) : Option D := some (.bool (eqI a b))
def i_neq (k : IntKind) (a b : Int) : Option D := some (.bool (!eqI a b))
def i_lss (k : IntKind) (a b : Int) : Option D := some (.bool (ltI a b))
def i_leq (k : IntKind) (a b : Int) : Option D := some (.bool (!ltI b a))
def i_gtr (k : IntKind) (a b : Int) : Option D := some (.bool (ltI b a))
def i_geq (k : IntKind) (a b : Int) : Option D := some (.bool (!ltI a b))
def intK' : BinOp → IntKind → Int → Int → Option D
  | .add => i_add
  | .sub => i_sub
  | .mul => i_mul
  | .quo => i_quo
  | .rem => i_rem
  | .and => i_and
  | .or => i_or
  | .xor => i_xor
  | .andNot => i_andNot
  | .eql => i_eql
  | .neq => i_neq
  | .lss => i_lss
  | .leq => i_leq
  | .gtr => i_gtr
  | .geq => i_geq
  | _ => fun _ _ _ => none
def strK : BinOp → List Nat → List Nat → Option D
  | .add => fun a b => chk (Nat.ble (lenL a 0 + lenL b 0) maxI) (some (.str (a ++ b)))
  | .eql => fun a b => some (.bool (eqL a b))
  | .neq => fun a b => some (.bool (!eqL a b))
  | .lss => fun a b => some (.bool (ltL a b))
  | .leq => fun a b => some (.bool (!ltL b a))
  | .gtr => fun a b => some (.bool (ltL b a))
  | .geq => fun a b => some (.bool (!ltL a b))
  | _ => fun _ _ => none
def isShift : BinOp → Bool
  | .shl | .shr => true
  | _ => false
def binK (o : BinOp) (x y : D) : Option D := match x, y with
  | .int k a, .int k' b => cond (isShift o) (binV o (.int k a) (.int k' b)) (chk (sameK k k') (intK' o k a b))
  | .str a, .str b => strK o a b
  | _, _ => none
theorem intK'_eq (o : BinOp) (k : IntKind) (a b : Int) : intK' o k a b = binInt o k a b := by cases o <;> rfl
theorem strK_eq (o : BinOp) (a b : List Nat) : strK o a b = binStr o a b := by cases o <;> rfl
theorem binK_eq (o : BinOp) (x y : D) : binK o x y = binV o x y := by
  cases x <;> cases y <;> first | rfl | skip
  · simp only [binK, intK'_eq]
    cases o <;> rfl
  · simp only [binK, strK_eq]
    rfl
/-- the same, laid out for the kernel: a branch is copied where it is taken alone -/
def e_mov (x : ASrc) (at_ : Nat) (E : Nat → D) (H : Nat → Option Obj) : Option (D × List (Nat × Option Obj)) := some (x.ev E, [])
def e_pick (c : ASrc) (a : ASrc) (b : ASrc) (at_ : Nat) (E : Nat → D) (H : Nat → Option Obj) : Option (D × List (Nat × Option Obj)) := match c.ev E with | .bool t => some (cond t (a.ev E) (b.ev E), []) | _ => none
def e_bin (o : BinOp) (x : ASrc) (y : ASrc) (at_ : Nat) (E : Nat → D) (H : Nat → Option Obj) : Option (D × List (Nat × Option Obj)) := (orS (binK o (x.ev E) (y.ev E)) (symOp (.b o) (x.ev E) (y.ev E))).map fun v => (v, [])
def e_un (o : UnOp) (x : ASrc) (at_ : Nat) (E : Nat → D) (H : Nat → Option Obj) : Option (D × List (Nat × Option Obj)) := (orS (unV o (x.ev E)) (symOp (.u o) (x.ev E) .undef)).map fun v => (v, [])
def e_cvi (k : IntKind) (x : ASrc) (at_ : Nat) (E : Nat → D) (H : Nat → Option Obj) : Option (D × List (Nat × Option Obj)) := (orS (match x.ev E with | .int _ n => some (.int k (k.wrap n)) | _ => none) (symOp (.c k) (x.ev E) .undef)).map fun v => (v, [])
def e_cvs (x : ASrc) (at_ : Nat) (E : Nat → D) (H : Nat → Option Obj) : Option (D × List (Nat × Option Obj)) := match x.ev E with | .str l => some (.str l, []) | _ => none
def e_s2b (e : Nat) (x : ASrc) (at_ : Nat) (E : Nat → D) (H : Nat → Option Obj) : Option (D × List (Nat × Option Obj)) := match x.ev E with | .str l => some (.sl at_ 0 l.length 1 none, [(at_, some (.cells e false (l.map byteD)))]) | _ => none
def e_b2s (x : ASrc) (at_ : Nat) (E : Nat → D) (H : Nat → Option Obj) : Option (D × List (Nat × Option Obj)) := match slCells H (x.ev E) with
    | some (n, cs) => chk (Nat.beq (lenL cs 0) n) ((bytesN cs).map fun l => (.str l, []))
    | none => none
def e_i2s (x : ASrc) (at_ : Nat) (E : Nat → D) (H : Nat → Option Obj) : Option (D × List (Nat × Option Obj)) := match x.ev E with | .int _ n => some (.str (utf8 n), []) | _ => none
def e_len (st : Bool) (x : ASrc) (at_ : Nat) (E : Nat → D) (H : Nat → Option Obj) : Option (D × List (Nat × Option Obj)) := match st, x.ev E with
    | true, .str l => some (.int .i64 (.ofNat (lenL l 0)), [])
    | false, .nils => some (.int .i64 (.ofNat 0), [])
    | false, .emp => some (.int .i64 (.ofNat 0), [])
    | false, .sl _ _ n _ _ => some (.int .i64 (.ofNat n), [])
    | _, _ => none
def e_idx (x : ASrc) (i : ASrc) (at_ : Nat) (E : Nat → D) (H : Nat → Option Obj) : Option (D × List (Nat × Option Obj)) := match x.ev E, i.ev E with
    | .str l, .int _ (.ofNat i) => match l[i]? with | some n => some (byteD n, []) | none => none
    | _, _ => none
def e_ixa (sz : Nat) (x : ASrc) (i : ASrc) (at_ : Nat) (E : Nat → D) (H : Nat → Option Obj) : Option (D × List (Nat × Option Obj)) := match x.ev E, i.ev E with
    | .sl id off n sz' _, .int _ (.ofNat i) => chk (Nat.blt i n && Nat.beq sz sz') (some (.ptr id (off + i * sz), []))
    | _, _ => none
def e_ixp (n : Nat) (sz : Nat) (x : ASrc) (i : ASrc) (at_ : Nat) (E : Nat → D) (H : Nat → Option Obj) : Option (D × List (Nat × Option Obj)) := match x.ev E, i.ev E with
    | .ptr id off, .int _ (.ofNat i) => chk (Nat.blt i n) (some (.ptr id (off + i * sz), []))
    | _, _ => none
def e_subs (x : ASrc) (lo : Option ASrc) (hi : Option ASrc) (at_ : Nat) (E : Nat → D) (H : Nat → Option Obj) : Option (D × List (Nat × Option Obj)) := match x.ev E with
    | .str l => (ends l.length (osrc E lo) (osrc E hi)).map fun p => (.str ((l.take p.2).drop p.1), [])
    | _ => none
def e_subl (sz : Nat) (x : ASrc) (lo : Option ASrc) (hi : Option ASrc) (at_ : Nat) (E : Nat → D) (H : Nat → Option Obj) : Option (D × List (Nat × Option Obj)) := match x.ev E with
    | .nils => (ends 0 (osrc E lo) (osrc E hi)).map fun _ => (.nils, [])
    | .emp => (ends 0 (osrc E lo) (osrc E hi)).map fun _ => (.emp, [])
    | .sl id off n sz' cap => chk (Nat.beq sz sz') (match ends n (osrc E lo) (osrc E hi), cap with
      | some (a, b), some c => some (cond (Nat.beq c a) (.sl id off (b - a) sz (some 0)) (.sl id (off + a * sz) (b - a) sz (some (c - a))), [])
      | some (a, b), none => some (cond (Nat.beq a n) .emp (.sl id (off + a * sz) (b - a) sz none), [])
      | none, _ => none)
    | _ => none
def e_bsl (e : Nat) (sz : Nat) (ps : List ASrc) (at_ : Nat) (E : Nat → D) (H : Nat → Option Obj) : Option (D × List (Nat × Option Obj)) := chk (ps.all fun x => (x.ev E).cells.all D.one && Nat.beq (x.ev E).cells.length sz) (some (.sl at_ 0 ps.length sz (some ps.length), [(at_, some (.cells e true (ps.flatMap fun x => (x.ev E).cells)))]))
def e_bld (zero : List D) (ps : List (Nat × Nat × ASrc)) (at_ : Nat) (E : Nat → D) (H : Nat → Option Obj) : Option (D × List (Nat × Option Obj)) := (lay zero (ps.map fun p => (p.1, p.2.1, p.2.2.ev E))).map fun cs => (.agg cs, [])
def e_fld (off : Nat) (n : Nat) (agg : Bool) (x : ASrc) (at_ : Nat) (E : Nat → D) (H : Nat → Option Obj) : Option (D × List (Nat × Option Obj)) := match x.ev E with
    | .agg cs => chk (Nat.ble (off + n) cs.length) (some (loaded agg ((cs.drop off).take n), []))
    | _ => none
def e_new (e : Nat) (zero : List D) (at_ : Nat) (E : Nat → D) (H : Nat → Option Obj) : Option (D × List (Nat × Option Obj)) := some (.ptr at_ 0, [(at_, some (.cells e true zero))])
def e_box (e : Nat) (x : ASrc) (at_ : Nat) (E : Nat → D) (H : Nat → Option Obj) : Option (D × List (Nat × Option Obj)) := chk ((x.ev E).cells.all D.one) (some (.ptr at_ 0, [(at_, some (.cells e true (x.ev E).cells))]))
def e_fad (off : Nat) (x : ASrc) (at_ : Nat) (E : Nat → D) (H : Nat → Option Obj) : Option (D × List (Nat × Option Obj)) := match x.ev E with | .ptr id o => some (.ptr id (o + off), []) | _ => none
def e_ld (n : Nat) (agg : Bool) (x : ASrc) (at_ : Nat) (E : Nat → D) (H : Nat → Option Obj) : Option (D × List (Nat × Option Obj)) := match x.ev E with
    | .ptr id o => match cells? H id with
      | some (_, _, cs) => chk (Nat.ble (o + n) cs.length) (some (loaded agg ((cs.drop o).take n), []))
      | none => none
    | _ => none
def e_st (n : Nat) (x : ASrc) (v : ASrc) (at_ : Nat) (E : Nat → D) (H : Nat → Option Obj) : Option (D × List (Nat × Option Obj)) := match x.ev E with
    | .ptr id o => match cells? H id with
      | some (e, f, cs) => chk (Nat.beq (v.ev E).cells.length n && (v.ev E).cells.all D.one && Nat.ble (o + n) cs.length) (some (.undef, [(id, some (.cells e f (cs.take o ++ (v.ev E).cells ++ cs.drop (o + n))))]))
      | none => none
    | _ => none
def e_app (e : Nat) (sz : Nat) (by_ : Nat) (x : ASrc) (y : ASrc) (at_ : Nat) (E : Nat → D) (H : Nat → Option Obj) : Option (D × List (Nat × Option Obj)) := match slCells H (y.ev E) with
    | some (n, news) => chk (Nat.beq (lenL news 0) (n * sz)) (match x.ev E with
      | .nils => cond (Nat.beq n 0) (some (.nils, [])) (chk (Nat.ble (n * by_) reach) (some (.sl at_ 0 n sz none, [(at_, some (.cells e false news))])))
      | .sl id off len sz' cap => chk (Nat.beq sz sz' && Nat.ble ((len + n) * by_) reach) (match cells? H id with
        | some (e', f, cs) => cond (Nat.beq n 0) (some (.sl id off len sz cap, [])) (match cap with
          | some c => cond (Nat.ble (len + n) c)
              (chk (Nat.ble (off + (len + n) * sz) cs.length) (some (.sl id off (len + n) sz (some c), [(id, some (.cells e' f (cs.take (off + len * sz) ++ news ++ cs.drop (off + (len + n) * sz))))])))
              (chk (Nat.ble (off + len * sz) cs.length) (some (.sl at_ 0 (len + n) sz none, [(at_, some (.cells e false ((cs.drop off).take (len * sz) ++ news)))])))
          | none => chk (Nat.beq off 0 && Nat.beq (len * sz) cs.length && Nat.beq e e' && !f) (some (.sl at_ 0 (len + n) sz none, [(id, none), (at_, some (.cells e false (cs ++ news)))])))
        | none => none)
      | _ => none)
    | none => none
def e_apt (e : Nat) (by_ : Nat) (x : ASrc) (y : ASrc) (at_ : Nat) (E : Nat → D) (H : Nat → Option Obj) : Option (D × List (Nat × Option Obj)) := match x.ev E, y.ev E with
    | .nils, .str l => cond (Nat.beq (lenL l 0) 0) (some (.nils, [])) (chk (Nat.ble (lenL l 0 * by_) reach) (some (.sl at_ 0 l.length 1 none, [(at_, some (.cells e false (l.map byteD)))])))
    | _, _ => none
def e_mks (e : Nat) (sz : Nat) (by_ : Nat) (zero : List D) (x : ASrc) (at_ : Nat) (E : Nat → D) (H : Nat → Option Obj) : Option (D × List (Nat × Option Obj)) := match x.ev E with
    | .int _ (.ofNat n) => chk (Nat.ble (n * by_) reach && Nat.beq zero.length sz) (some (.sl at_ 0 n sz (some n), [(at_, some (.cells e true ((List.replicate n zero).flatMap id)))]))
    | _ => none
def e_ext (i : Nat) (x : ASrc) (at_ : Nat) (E : Nat → D) (H : Nat → Option Obj) : Option (D × List (Nat × Option Obj)) := match x.ev E with
    | .tup vs => match vs[i]? with | some v => some (v, []) | none => none
    | _ => none
def e_nck (x : ASrc) (at_ : Nat) (E : Nat → D) (H : Nat → Option Obj) : Option (D × List (Nat × Option Obj)) := match x.ev E with
    | .ptr id o => some (.ptr id o, [])
    | .fn f cs => some (.fn f cs, [])
    | _ => none
def e_mx (mn : Bool) (x : ASrc) (y : ASrc) (at_ : Nat) (E : Nat → D) (H : Nat → Option Obj) : Option (D × List (Nat × Option Obj)) := match x.ev E, y.ev E with
    | .int k a, .int k' b => chk (sameK k k') (some (.int k (cond mn (cond (ltI b a) b a) (cond (ltI a b) b a)), []))
    | _, _ => none
def e_mkf (f : Nat) (caps : List ASrc) (at_ : Nat) (E : Nat → D) (H : Nat → Option Obj) : Option (D × List (Nat × Option Obj)) := some (.fn f (caps.map (·.ev E)), [])
def e_mkm (at_ : Nat) (E : Nat → D) (H : Nat → Option Obj) : Option (D × List (Nat × Option Obj)) := some (.mp at_, [(at_, some (.map []))])
def e_lkp (kk : Nat) (n : Nat) (zero : List D) (agg : Bool) (ok : Bool) (x : ASrc) (k : ASrc) (at_ : Nat) (E : Nat → D) (H : Nat → Option Obj) : Option (D × List (Nat × Option Obj)) := chk (isKey kk n (k.ev E)) (match (match x.ev E with | .nilm => some [] | .mp id => map? H id | _ => none) with
    | some es => match findK (k.ev E) es 0 with
      | some (some (_, v)) => some (cond ok (.tup [v, .bool true]) v, [])
      | some none => some (cond ok (.tup [loaded agg zero, .bool false]) (loaded agg zero), [])
      | none => none
    | none => none)
def e_mup (kk : Nat) (n : Nat) (m : ASrc) (k : ASrc) (v : ASrc) (at_ : Nat) (E : Nat → D) (H : Nat → Option Obj) : Option (D × List (Nat × Option Obj)) := chk (isKey kk n (k.ev E)) (match m.ev E with
    | .mp id => match map? H id with
      | some es => match findK (k.ev E) es 0 with
        | some (some (i, _)) => some (.undef, [(id, some (.map (es.set i (k.ev E, v.ev E))))])
        | some none => some (.undef, [(id, some (.map (es ++ [(k.ev E, v.ev E)])))])
        | none => none
      | none => none
    | _ => none)
def e_ment (kk : Nat) (n : Nat) (zero : List D) (agg : Bool) (m : ASrc) (k : ASrc) (at_ : Nat) (E : Nat → D) (H : Nat → Option Obj) : Option (D × List (Nat × Option Obj)) := chk (isKey kk n (k.ev E)) (match m.ev E with
    | .mp id => match map? H id with
      | some es => chk (Nat.blt (lenL es 0) 1000000000) (match findK (k.ev E) es 0 with
        | some (some (i, v)) => some (.tup [v, .int .i64 (.ofNat i)], [(id, some (.map (es.set i (k.ev E, v))))])
        | some none => some (.tup [loaded agg zero, .int .i64 (.ofNat (lenL es 0))], [(id, some (.map (es ++ [(k.ev E, loaded agg zero)])))])
        | none => none)
      | none => none
    | _ => none)
def e_mest (m : ASrc) (i : ASrc) (v : ASrc) (at_ : Nat) (E : Nat → D) (H : Nat → Option Obj) : Option (D × List (Nat × Option Obj)) := match m.ev E, i.ev E with
    | .mp id, .int _ (.ofNat i) => match map? H id with
      | some es => match es[i]? with
        | some (k, _) => some (.undef, [(id, some (.map (es.set i (k, v.ev E))))])
        | none => none
      | none => none
    | _, _ => none
def e_eq (kk : Nat) (neg : Bool) (x : ASrc) (y : ASrc) (at_ : Nat) (E : Nat → D) (H : Nat → Option Obj) : Option (D × List (Nat × Option Obj)) := (eqN kk (x.ev E) (y.ev E)).map fun b => (.bool (cond neg (!b) b), [])
def effK : IOp → Nat → (Nat → D) → (Nat → Option Obj) → Option (D × List (Nat × Option Obj))
  | .mov x => e_mov x
  | .pick c a b => e_pick c a b
  | .bin o x y => e_bin o x y
  | .un o x => e_un o x
  | .cvi k x => e_cvi k x
  | .cvs x => e_cvs x
  | .s2b e x => e_s2b e x
  | .b2s x => e_b2s x
  | .i2s x => e_i2s x
  | .len st x => e_len st x
  | .idx x i => e_idx x i
  | .ixa sz x i => e_ixa sz x i
  | .ixp n sz x i => e_ixp n sz x i
  | .subs x lo hi => e_subs x lo hi
  | .subl sz x lo hi => e_subl sz x lo hi
  | .bsl e sz ps => e_bsl e sz ps
  | .bld zero ps => e_bld zero ps
  | .fld off n agg x => e_fld off n agg x
  | .new e zero => e_new e zero
  | .box e x => e_box e x
  | .fad off x => e_fad off x
  | .ld n agg x => e_ld n agg x
  | .st n x v => e_st n x v
  | .app e sz by_ x y => e_app e sz by_ x y
  | .apt e by_ x y => e_apt e by_ x y
  | .mks e sz by_ zero x => e_mks e sz by_ zero x
  | .ext i x => e_ext i x
  | .nck x => e_nck x
  | .mx mn x y => e_mx mn x y
  | .mkf f caps => e_mkf f caps
  | .mkm => e_mkm
  | .lkp kk n zero agg ok x k => e_lkp kk n zero agg ok x k
  | .mup kk n m k v => e_mup kk n m k v
  | .ment kk n zero agg m k => e_ment kk n zero agg m k
  | .mest m i v => e_mest m i v
  | .eq kk neg x y => e_eq kk neg x y
  | .call .. => fun _ _ _ => none
  | .dcall .. => fun _ _ _ => none
theorem effK_eq (o : IOp) (at_ : Nat) (E : Nat → D) (H : Nat → Option Obj) : effK o at_ E H = eff at_ E H o := by
  cases o <;> first | rfl | (simp only [effK, e_bin, eff, binK_eq])

/-- does an operation make an object? -/
def IOp.makes : IOp → Bool
  | .s2b .. | .bsl .. | .new .. | .box .. | .app .. | .apt .. | .mks .. | .mkm => true
  | _ => false

section
variable {R : Type}
def forceN : Nat → (Nat → R) → R
  | 0 => fun k => k 0
  | n + 1 => fun k => k (Nat.succ n)
def forceI : Int → (Int → R) → R
  | .ofNat m => fun k => forceN m fun m => k (.ofNat m)
  | .negSucc m => fun k => forceN m fun m => k (.negSucc m)
def forceS : List Nat → (List Nat → R) → R
  | [] => fun k => k []
  | a :: r => fun k => forceN a fun a => forceS r fun r => k (a :: r)
def forceL {α : Type} : List α → (List α → R) → R
  | [] => fun k => k []
  | a :: r => fun k => forceL r fun r => k (a :: r)
def forceB : Bool → (Bool → R) → R
  | true => fun k => k true
  | false => fun k => k false
def forceO : Option Nat → (Option Nat → R) → R
  | none => fun k => k none
  | some c => fun k => forceN c fun c => k (some c)
/-- a value that is made anew, laid out -/
def forceD : D → (D → R) → R
  | .undef => fun k => k .undef
  | .bool b => fun k => forceB b fun b => k (.bool b)
  | .int t n => fun k => forceI n fun n => k (.int t n)
  | .str s => fun k => forceS s fun s => k (.str s)
  | .nilp => fun k => k .nilp
  | .ptr id off => fun k => forceN id fun id => forceN off fun off => k (.ptr id off)
  | .nils => fun k => k .nils
  | .emp => fun k => k .emp
  | .sl id off len sz cap => fun k => forceN id fun id => forceN off fun off => forceN len fun len => forceN sz fun sz => forceO cap fun cap => k (.sl id off len sz cap)
  | .agg cs => fun k => forceL cs fun cs => k (.agg cs)
  | .tup cs => fun k => forceL cs fun cs => k (.tup cs)
  | .fn f cs => fun k => forceL cs fun cs => k (.fn f cs)
  | .nilf => fun k => k .nilf
  | .nilif => fun k => k .nilif
  | .mp id => fun k => forceN id fun id => k (.mp id)
  | .nilm => fun k => k .nilm
  | .sym t i => fun k => forceN i fun i => k (.sym t i)
/-- a value that is copied -/
def forceH : D → (D → R) → R
  | .undef => fun k => k .undef
  | .bool b => fun k => forceB b fun b => k (.bool b)
  | .int t n => fun k => k (.int t n)
  | .str s => fun k => k (.str s)
  | .nilp => fun k => k .nilp
  | .ptr id off => fun k => k (.ptr id off)
  | .nils => fun k => k .nils
  | .emp => fun k => k .emp
  | .sl id off len sz cap => fun k => k (.sl id off len sz cap)
  | .agg cs => fun k => forceL cs fun cs => k (.agg cs)
  | .tup cs => fun k => forceL cs fun cs => k (.tup cs)
  | .fn f cs => fun k => k (.fn f cs)
  | .nilf => fun k => k .nilf
  | .nilif => fun k => k .nilif
  | .mp id => fun k => k (.mp id)
  | .nilm => fun k => k .nilm
  | .sym t i => fun k => k (.sym t i)
def forceOb : Option Obj → (Option Obj → R) → R
  | none => fun k => k none
  | some (.cells e f cs) => fun k => forceL cs fun cs => k (some (.cells e f cs))
  | some (.map es) => fun k => forceL es fun es => k (some (.map es))
theorem forceN_eq (m : Nat) (k : Nat → R) : forceN m k = k m := by cases m <;> rfl
theorem forceI_eq (n : Int) (k : Int → R) : forceI n k = k n := by cases n <;> simp [forceI, forceN_eq]
theorem forceS_eq : ∀ (l : List Nat) (k : List Nat → R), forceS l k = k l
  | [], _ => rfl
  | a :: r, k => by simp [forceS, forceN_eq, forceS_eq r]
theorem forceL_eq {α : Type} : ∀ (l : List α) (k : List α → R), forceL l k = k l
  | [], _ => rfl
  | a :: r, k => by simp [forceL, forceL_eq r]
theorem forceB_eq (b : Bool) (k : Bool → R) : forceB b k = k b := by cases b <;> rfl
theorem forceO_eq (c : Option Nat) (k : Option Nat → R) : forceO c k = k c := by cases c <;> simp [forceO, forceN_eq]
theorem forceD_eq (d : D) (k : D → R) : forceD d k = k d := by cases d <;> simp [forceD, forceN_eq, forceI_eq, forceS_eq, forceL_eq, forceB_eq, forceO_eq]
theorem forceH_eq (d : D) (k : D → R) : forceH d k = k d := by cases d <;> simp [forceH, forceL_eq, forceB_eq]
theorem forceOb_eq (o : Option Obj) (k : Option Obj → R) : forceOb o k = k o := by
  cases o with
  | none => rfl
  | some o => cases o <;> simp [forceOb, forceL_eq]
end

/-- values that are copied alone -/
def IOp.copies : IOp → Bool
  | .mov _ | .pick .. | .ext .. | .nck _ | .cvs _ | .ld .. | .fld .. | .lkp .. | .ment .. => true
  | _ => false

abbrev Sp := Nat → List D → Hp → Option (D × Hp)

def Hp.put (h : Hp) (id : Nat) (o : Option Obj) : Hp := ⟨h.n, h.t.set (Nat.succ id) id o⟩
def Hp.puts (h : Hp) (ws : List (Nat × Option Obj)) : Hp := ws.foldl (fun h p => h.put p.1 p.2) h
def St.put (s : St) (d : Option Nat) (v : D) : St := match d with
  | some d => ⟨s.env.set d v, s.hp⟩
  | none => s

section
variable {R : Type}
def putK (s : St) (d : Option Nat) (v : D) (k : St → R) : R := match d with
  | some d => k ⟨s.env.set d v, s.hp⟩
  | none => k s
def putsK (n : Nat) (t : Tr Obj) (ws : List (Nat × Option Obj)) (k : Tr Obj → R) : R := match ws with
  | [] => k t
  | (id, o) :: r => forceN id fun id => forceOb o fun o => t.setK (Nat.succ id) id o fun t => putsK n t r k
theorem putK_eq (s : St) (d : Option Nat) (v : D) (k : St → R) : putK s d v k = k (s.put d v) := by
  cases d <;> simp [putK, St.put]
theorem putsK_eq (n : Nat) : ∀ (ws : List (Nat × Option Obj)) (t : Tr Obj) (k : Tr Obj → R), putsK n t ws k = k ((⟨n, t⟩ : Hp).puts ws).t
  | [], _, _ => rfl
  | (id, o) :: r, t, k => by simp [putsK, forceN_eq, forceOb_eq, Tr.setK_eq, putsK_eq n r, Hp.puts, Hp.put]

/-- which operations of a region come ahead of a call in no order, nor behind it: their objects are hidden from it -/
def hide (n0 : Nat) (mk : List Nat) (h : Hp) : Hp := h.puts (mk.map fun i => (n0 + i, none))
def back (n0 : Nat) (mk : List Nat) (h h' : Hp) : Hp := h'.puts (mk.map fun i => (n0 + i, h.t.get (n0 + i)))

def IOp.isCall : IOp → Bool
  | .call .. => true
  | .dcall .. => true
  | _ => false
/-- a call; mk: what is hidden from it -/
def stepC (Γ : Sp) (n0 : Nat) (mk : List Nat) (x : GOp) (s : St) (k : St → Option R) : Option R := match x.o with
  | .call f args => match Γ f (args.map (·.ev s.fs.E)) (hide n0 mk s.hp) with
    | some (v, hp) => putK ⟨s.env, back n0 mk s.hp hp⟩ x.d v k
    | none => none
  | .dcall y args => match y.ev s.fs.E with
    | .fn f cs => match Γ f (args.map (·.ev s.fs.E) ++ cs) (hide n0 mk s.hp) with
      | some (v, hp) => putK ⟨s.env, back n0 mk s.hp hp⟩ x.d v k
      | none => none
    | _ => none
  | _ => none
def stepE (n : Nat) (x : GOp) (s : St) (k : St → Option R) : Option (D × List (Nat × Option Obj)) → Option R
  | some (v, ws) => cond x.o.copies
      (forceH v fun v => putsK n s.hp.t ws fun t => forceN n fun n => putK ⟨s.env, ⟨n, t⟩⟩ x.d v k)
      (forceD v fun v => putsK n s.hp.t ws fun t => forceN n fun n => putK ⟨s.env, ⟨n, t⟩⟩ x.d v k)
  | none => none
/-- one operation; at: a new object's number; n: how many numbers are given then -/
def step (Γ : Sp) (at_ n n0 : Nat) (mk : List Nat) (x : GOp) (s : St) (k : St → Option R) : Option R :=
  cond x.o.isCall (stepC Γ n0 mk x s k) (stepE n x s k (effK x.o at_ s.fs.E s.fs.H))

/-- an operation behind its guard -/
def gstep (Γ : Sp) (at_ n n0 : Nat) (mk : List Nat) (x : GOp) (s : St) (k : St → Option R) : Option R := match x.g with
  | none => step Γ at_ n n0 mk x s k
  | some (g, w) => match s.fs.E g with
    | .bool b => cond (b == w) (step Γ at_ n n0 mk x s k) (putK s x.d (.tup []) k)
    | .tup [] => putK s x.d (.tup []) k
    | _ => none

def runOps (Γ : Sp) : List GOp → (St → Option R) → St → Option R
  | [], K, s => K s
  | x :: r, K, s => gstep Γ s.hp.n (cond x.o.makes (Nat.succ s.hp.n) s.hp.n) 0 [] x s (runOps Γ r K)
end

inductive IR where
  | skip
  | reg (ops : List GOp)
  | drw (ops : List GOp) (pre : List (List Nat))
  | seq (a b : IR)
  | cond (c : ASrc) (a b : IR)
  | block (id : Nat) (a : IR)
  | loop (a : IR)
  | exit (id : Nat)
  | ret
inductive Ex where
  | normal
  | exit (id : Nat)
  | ret

/-- where a result lies -/
inductive RV where
  | t (n : Nat)
  | cell (n size : Nat) (agg : Bool)
def RV.ev (E : Nat → D) (H : Nat → Option Obj) : RV → Option D
  | .t n => some (E n)
  | .cell n size agg => match E n with
    | .ptr id o => match cells? H id with
      | some (_, _, cs) => chk (Nat.ble (o + size) cs.length) (some (loaded agg ((cs.drop o).take size)))
      | none => none
    | _ => none
def rvs (E : Nat → D) (H : Nat → Option Obj) : List RV → Option (List D)
  | [] => some []
  | r :: l => match r.ev E H, rvs E H l with | some v, some vs => some (v :: vs) | _, _ => none
def resultOf (E : Nat → D) (H : Nat → Option Obj) (rs : List RV) : Option D := match rvs E H rs with
  | some [v] => some v
  | some vs => some (.tup vs)
  | none => none
structure FnI where
  nt : Nat
  rs : List RV
  body : IR
end Go.DM
