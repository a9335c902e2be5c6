/-
  What the functions of layer 20 are, in plain Lean.
-/
import Derived.Test.YtdpajabhmmmjoaaGlSpec
namespace Go.Proofs.Ytdpajabhmmmjoaa
open Go.AM
set_option autoImplicit false
set_option linter.unusedVariables false

def isT (ts : List AType) (t : Int) : Bool := decide (0 ≤ t) && decide (t < (ts.length : Int))
def bareS (n : Int) (s : List UInt8) (l : List AVal) (ks : List (List UInt8)) (b : Int) : Bool :=
  (n == 0) && (decide (s = ([] : List UInt8)) && (((l.length : Int) == 0) && (((ks.length : Int) == 0) && (b == 0))))
def numS (kind : Int) (syms : List (List UInt8)) (n : Int) : Bool :=
  cond (kind == 2) (decide (n ≤ 1)) (
    cond (kind == 3) (n == IntKind.wrap .u64 (IntKind.wrap .i64 (IntKind.wrap .i32 (IntKind.wrap .u32 n)))) (
      cond (kind == 5) (shrI .u64 n 32 == 0) (
        cond (kind == 10) (decide (n < IntKind.wrap .u64 (syms.length : Int))) true)))
def textS (kind size : Int) (s : List UInt8) : Bool :=
  cond (kind == 8) (validG s) (cond (kind == 11) ((s.length : Int) == size) true)
/-- keys behind a key -/
def keysB (p : List UInt8) : List (List UInt8) → Bool
  | [] => true
  | k :: l => validG k && (Op.bytesLess p k && keysB k l)
def keysS : List (List UInt8) → Bool
  | [] => true
  | k :: l => validG k && keysB k l

mutual
def szV : AVal → Nat
  | .mk _ _ l _ _ => szL l + 1
def szL : List AVal → Nat
  | [] => 0
  | v :: l => szV v + szL l
end

mutual
/-- has a type a value? -/
def fitsS (ts : List AType) (t : Int) : AVal → Bool
  | .mk n s l ks b => isT ts t && (
    let k := ts.getD t.toNat (dflt .atype)
    cond (k.kind == 1) (bareS n s l ks b) (
    cond (k.kind == 2 || (k.kind == 3 || (k.kind == 4 || (k.kind == 5 || (k.kind == 6 || k.kind == 10))))) (numS k.kind k.syms n && bareS 0 s l ks b) (
    cond (k.kind == 7 || (k.kind == 8 || k.kind == 11)) (textS k.kind k.size s && bareS n [] l ks b) (
    cond (k.kind == 12) (eachS ts k.items l && bareS n s [] ks b) (
    cond (k.kind == 13) ((((ks.length : Int) == (l.length : Int)) && (keysS ks && eachS ts k.items l)) && bareS n s [] [] b) (
    cond (k.kind == 9) ((decide (l.length = k.fields.length) && recS ts k.fields l) && bareS n s [] ks b) (
    cond (k.kind == 14) ((decide (0 ≤ b) && (decide (b < (k.branches.length : Int)) && (((l.length : Int) == 1) && eachS ts (k.branches.getD b.toNat 0) l))) && bareS n s [] ks 0)
    false)))))))
def eachS (ts : List AType) (t : Int) : List AVal → Bool
  | [] => true
  | v :: l => fitsS ts t v && eachS ts t l
def recS (ts : List AType) (fs : List AField) : List AVal → Bool
  | [] => true
  | v :: l => fitsS ts ((fs.headD (dflt .afield)).typ) v && recS ts fs.tail l
end

/-- the first value that has not the type; below 0: there is none -/
def badV (ts : List AType) (t : Int) : List AVal → Nat → Int
  | [], _ => -1
  | v :: l, i => if fitsS ts t v then badV ts t l (i + 1) else (i : Int)

mutual
/-- are two values the same? -/
def sameV : AVal → AVal → Bool
  | .mk n s l ks b, w => (n == w.n) && (decide (s = w.s) && ((b == w.branch) && (decide (ks = w.keys) && sameL l w.l)))
def sameL : List AVal → List AVal → Bool
  | [], m => decide (m.length = 0)
  | v :: l, m => decide (0 < m.length) && (sameV v (m.headD (dflt .aval)) && sameL l m.tail)
end

mutual
/-- how deep, how many -/
def sizeV : AVal → Int × Int
  | .mk _ _ l ks _ => sizeL l (if (1 : Int) < (ks.length : Int) then 1 else (ks.length : Int)) 1
def sizeL : List AVal → Int → Int → Int × Int
  | [], d, c => (d, c)
  | v :: l, d, c => sizeL l (if d < IntKind.wrap .i64 ((sizeV v).1 + 1) then IntKind.wrap .i64 ((sizeV v).1 + 1) else d) (IntKind.wrap .i64 (c + (sizeV v).2))
end
end Go.Proofs.Ytdpajabhmmmjoaa
