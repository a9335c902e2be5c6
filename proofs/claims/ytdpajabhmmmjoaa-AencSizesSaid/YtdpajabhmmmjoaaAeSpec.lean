/-
  What the functions of layer 22 are, in plain Lean.
-/
import Derived.Test.YtdpajabhmmmjoaaAvSpec
import Derived.Test.YtdpajabhmmmjoaaRcSpec
namespace Go.Proofs.Ytdpajabhmmmjoaa
open Go.AM
set_option autoImplicit false
set_option linter.unusedVariables false

def zigN (n : Int) : Int := if n < 9223372036854775808 then n * 2 else (18446744073709551615 - n) * 2 + 1
def longD (n : Int) : List UInt8 := putV (zigN (IntKind.wrap .u64 n))
/- sealed: its name alone stands in what the kernel compares -/
theorem longS_ex : ∃ f : Int → List UInt8, f = longD := ⟨_, rfl⟩
noncomputable def longS : Int → List UInt8 := longS_ex.choose
theorem longS_def : longS = longD := longS_ex.choose_spec
theorem zigS_ex : ∃ f : Int → Int, f = zigN := ⟨_, rfl⟩
noncomputable def zigS : Int → Int := zigS_ex.choose
theorem zigS_def : zigS = zigN := zigS_ex.choose_spec
noncomputable def textV (s : List UInt8) : List UInt8 := longS (s.length : Int) ++ s

mutual
/-- a value's bytes -/
noncomputable def valueS (ts : List AType) (t : Int) : AVal → List UInt8
  | .mk n s l ks b =>
    let k := ts.getD t.toNat (dflt .atype)
    cond (k.kind == 2) (lowsR n 1) (
    cond (k.kind == 3 || (k.kind == 4 || k.kind == 10)) (longS (IntKind.wrap .i64 n)) (
    cond (k.kind == 5) (lowsR n 4) (
    cond (k.kind == 6) (lowsR n 8) (
    cond (k.kind == 7 || k.kind == 8) (textV s) (
    cond (k.kind == 11) s (
    cond (k.kind == 14) (longS b ++ allV ts (k.branches.getD b.toNat 0) l) (
    cond (k.kind == 9) (recV ts k.fields l) (
    cond (k.kind == 12 || k.kind == 13) ((cond (decide (0 < (l.length : Int))) (longS (l.length : Int)) []) ++ (cond (k.kind == 13) (mapV ts k.items ks l) (allV ts k.items l)) ++ longS 0)
    []))))))))
noncomputable def allV (ts : List AType) (t : Int) : List AVal → List UInt8
  | [] => []
  | v :: l => valueS ts t v ++ allV ts t l
noncomputable def mapV (ts : List AType) (t : Int) (ks : List (List UInt8)) : List AVal → List UInt8
  | [] => []
  | v :: l => (textV (ks.headD []) ++ valueS ts t v) ++ mapV ts t ks.tail l
noncomputable def recV (ts : List AType) (fs : List AField) : List AVal → List UInt8
  | [] => []
  | v :: l => valueS ts ((fs.headD (dflt .afield)).typ) v ++ recV ts fs.tail l
end

noncomputable def itemsS (ts : List AType) (kind t : Int) (ks : List (List UInt8)) (l : List AVal) : List UInt8 :=
  (cond (decide (0 < (l.length : Int))) (longS (l.length : Int)) []) ++ (cond (kind == 13) (mapV ts t ks l) (allV ts t l)) ++ longS 0

def keyW : List (List UInt8) → Nat
  | [] => 0
  | k :: l => k.length + 10 + keyW l
mutual
/-- no value has more bytes -/
def wV : AVal → Nat
  | .mk _ s l ks _ => 40 + s.length + keyW ks + wL l
def wL : List AVal → Nat
  | [] => 0
  | v :: l => wV v + wL l
end

def fitOK (ts : List AType) (t : Int) (v : AVal) : Bool := fitsS ts t v && decide (wV v ≤ 1000000000000000)
def itemsOK (ts : List AType) (kind t : Int) (ks : List (List UInt8)) (l : List AVal) : Bool :=
  eachS ts t l && (decide (wL l + keyW ks ≤ 1000000000000000) && (kind == 12 || (kind == 13 && (ks.length : Int) == (l.length : Int))))
noncomputable def encS (ts : List AType) (t : Int) (v : AVal) : List UInt8 × Int :=
  if isT ts t = false then ([], 1) else if fitsS ts t v = false then ([], 7) else if 5000 < (valueS ts t v).length then ([], 3) else (valueS ts t v, 0)
end Go.Proofs.Ytdpajabhmmmjoaa
