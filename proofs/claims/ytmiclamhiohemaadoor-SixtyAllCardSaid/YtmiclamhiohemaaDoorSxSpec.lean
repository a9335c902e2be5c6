/-
  Bytes as texts of sixty-four signs, in plain Lean.
-/
import Derived.Test.YtmiclamhiohemaaDoorAmLaw
namespace Go.Proofs.YtmiclamhiohemaaDoor
open Go.AM
set_option autoImplicit false
set_option linter.unusedVariables false

def signs : List UInt8 := [65, 66, 67, 68, 69, 70, 71, 72, 73, 74, 75, 76, 77, 78, 79, 80, 81, 82, 83, 84, 85, 86, 87, 88, 89, 90, 97, 98, 99, 100, 101, 102, 103, 104, 105, 106, 107, 108, 109, 110, 111, 112, 113, 114, 115, 116, 117, 118, 119, 120, 121, 122, 48, 49, 50, 51, 52, 53, 54, 55, 56, 57, 43, 47]

def sgn (d : Nat) : UInt8 := signs.getD d 0

/-- three bytes, or fewer, as four signs -/
def fourS (s : List UInt8) : List UInt8 :=
  match s with
  | [] => [65, 61, 61, 61]
  | [a] => [sgn (a.toNat / 4), sgn (a.toNat % 4 * 16), 61, 61]
  | [a, b] => [sgn (a.toNat / 4), sgn (a.toNat % 4 * 16 + b.toNat / 16), sgn (b.toNat % 16 * 4), 61]
  | a :: b :: c :: _ => [sgn (a.toNat / 4), sgn (a.toNat % 4 * 16 + b.toNat / 16), sgn (b.toNat % 16 * 4 + c.toNat / 64), sgn (c.toNat % 64)]

/-- bytes as a text -/
def putS : List UInt8 → List UInt8
  | [] => []
  | [a] => fourS [a]
  | [a, b] => fourS [a, b]
  | a :: b :: c :: t => fourS [a, b, c] ++ putS t

/-- where a byte is first -/
def indexN : List UInt8 → Nat → Option Nat
  | [], _ => none
  | b :: s, c => if b.toNat = c then some 0 else (indexN s c).map (· + 1)
def indexB (s : List UInt8) (c : Int) : Int := match indexN s c.toNat with | some k => (k : Int) | none => -1

/-- a text without what fills it up -/
def trimN : Nat → List UInt8 → List UInt8
  | 0, s => s
  | k + 1, s => if 0 < s.length ∧ s.getD (s.length - 1) 0 = 61 then trimN k (s.take (s.length - 1)) else s
def trimS (s : List UInt8) : List UInt8 := trimN s.length s

/-- the bytes that signs make: so many bits are over, so much is out -/
def decN : List UInt8 → Nat → Nat → List UInt8 → Option (List UInt8)
  | [], _, _, o => some o
  | c :: t, v, bits, o =>
    match indexN signs c.toNat with
    | none => none
    | some k => if 8 ≤ bits + 6 then decN t ((v * 64 + k) % 65536) (bits + 6 - 8) (o ++ [UInt8.ofNat ((v * 64 + k) % 65536 / 2 ^ (bits + 6 - 8))]) else decN t ((v * 64 + k) % 65536) (bits + 6) o

def takeR (t : List UInt8) : Option (List UInt8) :=
  match decN (trimS t) 0 0 [] with
  | none => none
  | some o => if putS o = t then some o else none
def takeT (t : List UInt8) : List UInt8 := match takeR t with | some o => o | none => []
def takeE (t : List UInt8) : Int := match takeR t with | some _ => 0 | none => 2
end Go.Proofs.YtmiclamhiohemaaDoor
