/-
  Fingerprints in plain Lean.
-/
namespace Go.AM
set_option autoImplicit false

/-- the fingerprint of no bytes, and what a bit that falls out turns -/
def fpC : Nat := 13933329357911598997

def fpBit (v : Nat) : Nat := if v % 2 = 1 then (v / 2) ^^^ fpC else v / 2

def fpBits : Nat → Nat → Nat
  | 0, v => v
  | n + 1, v => fpBits n (fpBit v)

def fpByte (v : Nat) (c : UInt8) : Nat := fpBits 8 (v ^^^ c.toNat)

def fpOf (s : List UInt8) : Nat := s.foldl fpByte fpC

/-- one of sixteen digits -/
def hexD (n : Nat) : UInt8 := if n < 10 then UInt8.ofNat (48 + n) else UInt8.ofNat (87 + n)

/-- so many digits of sixteen -/
def hexN (v : Nat) : Nat → List UInt8
  | 0 => []
  | n + 1 => hexN (v / 16) n ++ [hexD (v % 16)]

end Go.AM
