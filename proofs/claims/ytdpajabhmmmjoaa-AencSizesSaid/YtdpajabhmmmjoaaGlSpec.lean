/-
  What the functions of layer 3 are, in plain Lean.
-/
import Derived.Test.YtdpajabhmmmjoaaAmLaw
namespace Go.Proofs.Ytdpajabhmmmjoaa
open Go.AM
set_option autoImplicit false
set_option linter.unusedVariables false

/-- a number's bytes -/
def gly (r : Nat) : List UInt8 :=
  if r < 128 then [UInt8.ofNat r]
  else if r < 2048 then [UInt8.ofNat (192 + r / 64), UInt8.ofNat (128 + r % 64)]
  else if (55296 ≤ r ∧ r < 57344) ∨ 1114111 < r then [239, 191, 189]
  else if r < 65536 then [UInt8.ofNat (224 + r / 4096), UInt8.ofNat (128 + r / 64 % 64), UInt8.ofNat (128 + r % 64)]
  else [UInt8.ofNat (240 + r / 262144), UInt8.ofNat (128 + r / 4096 % 64), UInt8.ofNat (128 + r / 64 % 64), UInt8.ofNat (128 + r % 64)]

def putG (r : Int) : List UInt8 := gly r.toNat
def tailG (r k : Int) : Int := ((128 + r.toNat / 2 ^ k.toNat % 64 : Nat) : Int)

/-- the number of so many bytes, if they are its bytes -/
def multi (n v : Nat) (s : List UInt8) : Nat × Nat :=
  if s.length < n then (0, 0)
  else
    let r := (s.take n).tail.foldl (fun a b => a * 64 + b.toNat % 64) v
    if gly r = s.take n then (r, n) else (0, 0)

/-- the code point at a text's front -/
def pointN (s : List UInt8) : Nat × Nat :=
  match s with
  | [] => (0, 0)
  | c :: _ =>
    if c.toNat < 128 then (c.toNat, 1)
    else if c.toNat / 32 = 6 then multi 2 (c.toNat % 32) s
    else if c.toNat / 16 = 14 then multi 3 (c.toNat % 16) s
    else if c.toNat / 8 = 30 then multi 4 (c.toNat % 8) s
    else (0, 0)

def pointG (s : List UInt8) : Int × Int := (((pointN s).1 : Int), ((pointN s).2 : Int))

/-- code points, one behind the other: at most so many -/
def validN : Nat → List UInt8 → Bool
  | _, [] => true
  | 0, _ :: _ => false
  | k + 1, c :: s => if (pointN (c :: s)).2 = 0 then false else validN k ((c :: s).drop (pointN (c :: s)).2)

def validG (s : List UInt8) : Bool := validN s.length s

/-- one of sixteen signs -/
def hexD (d : Nat) : UInt8 := if d < 10 then UInt8.ofNat (48 + d) else UInt8.ofNat (87 + d)

def quoteB (c : UInt8) : List UInt8 :=
  if c = 34 then [92, 34] else if c = 92 then [92, 92] else if c = 8 then [92, 98] else if c = 12 then [92, 102] else if c = 10 then [92, 110]
  else if c = 13 then [92, 114] else if c = 9 then [92, 116] else if c.toNat < 32 then [92, 117, 48, 48, hexD (c.toNat / 16), hexD (c.toNat % 16)] else [c]

def quoteG (s : List UInt8) : List UInt8 := 34 :: (s.flatMap quoteB ++ [34])

/-- where a byte is first -/
def indexN : List UInt8 → Nat → Option Nat
  | [], _ => none
  | b :: s, c => if b.toNat = c then some 0 else (indexN s c).map (· + 1)

def indexB (s : List UInt8) (c : Int) : Int := match indexN s c.toNat with | some k => (k : Int) | none => -1
def prefixB (s p : List UInt8) : Bool := decide (p.length ≤ s.length) && decide (s.take p.length = p)

/-- a sign of sixteen: its number -/
def digitN (c : Nat) : Option Nat :=
  if 48 ≤ c ∧ c ≤ 57 then some (c - 48) else if 97 ≤ c ∧ c ≤ 102 then some (c - 87) else if 65 ≤ c ∧ c ≤ 70 then some (c - 55) else none

/-- a cursor's next byte, and where it stands behind it -/
def nextC (s : List UInt8) (n : Int) : Int := if (s.length : Int) ≤ n then 0 else ((s.getD n.toNat 0).toNat : Int)
def nextAt (s : List UInt8) (n : Int) : Int := if (s.length : Int) ≤ n then n else n + 1
def nextBad (s : List UInt8) (n : Int) (b : Bool) : Bool := b || decide ((s.length : Int) ≤ n)

/-- so many digits more: the number so far, the place, whether all is bad -/
def unitN : Nat → List UInt8 → Nat → Int → Bool → Nat × Int × Bool
  | 0, _, u, n, b => (u, n, b)
  | k + 1, s, u, n, b =>
    match digitN (nextC s n).toNat with
    | some d => unitN k s (u * 16 + d) (nextAt s n) (nextBad s n b)
    | none => unitN k s (u * 16 + 15) (nextAt s n) true

def unitC (s : List UInt8) (n : Int) : Int := ((unitN 4 s 0 n false).1 : Int)
def unitAt (s : List UInt8) (n : Int) : Int := (unitN 4 s 0 n false).2.1
def unitBad (s : List UInt8) (n : Int) (b : Bool) : Bool := b || (unitN 4 s 0 n false).2.2

/-- a byte behind a sign that says so -/
def meantB (x : Nat) : Option UInt8 :=
  if x = 34 then some 34 else if x = 92 then some 92 else if x = 98 then some 8 else if x = 102 then some 12 else if x = 110 then some 10
  else if x = 114 then some 13 else if x = 116 then some 9 else if x = 47 then some 47 else none

/-- what an escape makes: the place, the bytes, whether it is bad -/
def escR (s : List UInt8) (n : Int) : Int × List UInt8 × Bool :=
  let x := (nextC s n).toNat
  let m := nextAt s n
  let b := nextBad s n false
  match meantB x with
  | some c => (m, [c], b)
  | none =>
    if x ≠ 117 then (m, [], true)
    else
      let u := (unitC s m).toNat
      let m1 := unitAt s m
      let b1 := unitBad s m b
      if 55296 ≤ u ∧ u < 56320 ∧ prefixB (s.drop m1.toNat) [92, 117] = true then
        let v := (unitC s (m1 + 2)).toNat
        (unitAt s (m1 + 2), gly (65536 + (u - 55296) * 1024 + v % 1024), unitBad s (m1 + 2) b1 || decide (v < 56320) || decide (57344 ≤ v))
      else if 55296 ≤ u ∧ u < 57344 then (m1, gly u, true)
      else (m1, gly u, b1)

def escAt (s : List UInt8) (n : Int) : Int := (escR s n).1
def escOut (s : List UInt8) (n : Int) (o : List UInt8) : List UInt8 := o ++ (escR s n).2.1
def escBad (s : List UInt8) (n : Int) (b : Bool) : Bool := b || (escR s n).2.2

/-- a quoted text from a place on, so much is out -/
def unqN : Nat → List UInt8 → Int → List UInt8 → Option (List UInt8 × Int)
  | 0, _, _, _ => none
  | k + 1, s, n, o =>
    if (s.length : Int) ≤ n then none
    else
      let x := s.getD n.toNat 0
      if x = 34 then (if validG o then some (o, n + 1) else none)
      else if x.toNat < 32 then none
      else if x = 92 then (if (escR s (n + 1)).2.2 then none else unqN k s (escR s (n + 1)).1 (o ++ (escR s (n + 1)).2.1))
      else unqN k s (n + 1) (o ++ [x])

def unquoteG (s : List UInt8) : Option (List UInt8 × Int) :=
  match s with
  | [] => none
  | c :: _ => if c = 34 then unqN s.length s 1 [] else none

def unqT (s : List UInt8) : List UInt8 := match unquoteG s with | some p => p.1 | none => []
def unqC (s : List UInt8) : Int := match unquoteG s with | some p => p.2 | none => 0
def unqE (s : List UInt8) : Int := match unquoteG s with | some _ => 0 | none => 2

def digitI (c : Int) : Int := match digitN c.toNat with | some d => (d : Int) | none => -1

/-- four digits behind a sign -/
def runitN (s : List UInt8) : Option Nat :=
  if s.length < 6 ∨ ¬ s.getD 0 0 = 92 ∨ ¬ s.getD 1 0 = 117 then none
  else match digitN (s.getD 2 0).toNat, digitN (s.getD 3 0).toNat, digitN (s.getD 4 0).toNat, digitN (s.getD 5 0).toNat with
    | some a, some b, some c, some d => some (((a * 16 + b) * 16 + c) * 16 + d)
    | _, _, _, _ => none

def runitV (s : List UInt8) : Int := match runitN s with | some v => (v : Int) | none => 0
def runitB (s : List UInt8) : Bool := (runitN s).isSome

/-- an escape by itself -/
def rescR (s : List UInt8) : Option (List UInt8 × Nat) :=
  if s.length < 2 then none
  else match meantB (s.getD 1 0).toNat with
    | some c => some ([c], 2)
    | none =>
      match runitN s with
      | none => none
      | some a =>
        if 56320 ≤ a ∧ a ≤ 57343 then none
        else if a < 55296 ∨ 57343 < a then some (gly a, 6)
        else match runitN (s.drop 6) with
          | none => none
          | some b => if b < 56320 ∨ 57343 < b then none else some (gly (65536 + (a - 55296) * 1024 + (b - 56320)), 12)

def rescT (s : List UInt8) : List UInt8 := match rescR s with | some p => p.1 | none => []
def rescN (s : List UInt8) : Int := match rescR s with | some p => (p.2 : Int) | none => 0
end Go.Proofs.Ytdpajabhmmmjoaa
