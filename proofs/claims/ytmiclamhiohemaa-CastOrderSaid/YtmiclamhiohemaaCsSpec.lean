/-
  What the functions of layer 2 are, in plain Lean.
-/
import Derived.Test.YtmiclamhiohemaaAmLaw
namespace Go.Proofs.Ytmiclamhiohemaa
open Go.AM
set_option autoImplicit false

def drawD (n : Int) : Int := if n % 4294967296 < 2147483648 then n % 4294967296 else n % 4294967296 + 18446744069414584320

/-- how many bits a number has -/
def lenN (n : Nat) : Nat := if n = 0 then 0 else n.log2 + 1
def lenD (n : Int) : Int := (lenN n.toNat : Nat)

def wireD (k : Int) : Int :=
  if k = 1 ∨ k = 10 ∨ k = 12 then 1
  else if k = 2 ∨ k = 9 ∨ k = 11 then 5
  else if k = 14 ∨ k = 15 ∨ k = 16 then 2
  else if 3 ≤ k ∧ k ≤ 8 ∨ k = 13 ∨ k = 17 then 0
  else -1

def fromD (k n : Int) : Int :=
  if k = 3 ∨ k = 17 ∨ k = 11 then drawD n
  else if k = 5 ∨ k = 9 ∨ k = 2 then n % 4294967296
  else if k = 13 then (if 1 < n then 1 else n)
  else if k = 7 then (if n % 2 = 1 then drawD (4294967295 - n % 4294967296 / 2) else drawD (n % 4294967296 / 2))
  else if k = 8 then (if n % 2 = 1 then 18446744073709551615 - n / 2 else n / 2)
  else n

def toD (k n : Int) : Int :=
  if k = 3 ∨ k = 17 then drawD n
  else if k = 5 ∨ k = 9 ∨ k = 2 ∨ k = 11 then n % 4294967296
  else if k = 13 then (if 1 < n then 1 else n)
  else if k = 7 then (if n % 4294967296 < 2147483648 then n % 4294967296 * 2 else (4294967295 - n % 4294967296) * 2 + 1)
  else if k = 8 then (if n < 9223372036854775808 then n * 2 else (18446744073709551615 - n) * 2 + 1)
  else n

def fitsD (k n : Int) : Bool :=
  if k = 3 ∨ k = 7 ∨ k = 11 ∨ k = 17 then decide (n = drawD n)
  else if k = 5 ∨ k = 9 ∨ k = 2 then decide (n < 4294967296)
  else if k = 13 then decide (n ≤ 1)
  else decide (k = 4 ∨ k = 8 ∨ k = 12 ∨ k = 6 ∨ k = 10 ∨ k = 1)

/-- half of the numbers are rounded up: to the nearest, to the even one -/
def rne (m k : Nat) : Nat := m / 2 ^ k + (if 2 ^ (k - 1) < m % 2 ^ k ∨ (m % 2 ^ k = 2 ^ (k - 1) ∧ m / 2 ^ k % 2 = 1) then 1 else 0)

/-- a number's greatest bit and so many behind it -/
def fracN (m f : Nat) : Nat := if m.log2 ≤ f then m * 2 ^ (f - m.log2) else rne m (m.log2 - f)

/-- a binary number without its sign -/
def nearN (m f b : Nat) : Nat := if m = 0 then 0 else (m.log2 + b) * 2 ^ f + (fracN m f - 2 ^ f)

def nearBD (v f b : Int) : Int := (nearN v.toNat f.toNat b.toNat : Nat)

def nearD (v f : Int) : Bool × Int × Int :=
  if v = 0 then (false, -1, 0)
  else if 2 ^ (f.toNat + 1) ≤ fracN v.natAbs f.toNat then (decide (v < 0), ((v.natAbs.log2 + 1 : Nat) : Int), ((fracN v.natAbs f.toNat / 2 : Nat) : Int))
  else (decide (v < 0), ((v.natAbs.log2 : Nat) : Int), ((fracN v.natAbs f.toNat : Nat) : Int))

def doubleN (v : Int) : Nat := (if v < 0 then 9223372036854775808 else 0) + nearN v.natAbs 52 1023
def doubleD (v : Int) : Int := (doubleN v : Nat)
def floatN (v : Int) : Nat := (if v < 0 then 2147483648 else 0) + nearN v.natAbs 23 127
def floatD (v : Int) : Int := (floatN v : Nat)

/-- a narrow number without its sign, widened -/
def wideN (x : Nat) : Nat :=
  if x / 8388608 = 255 then 9218868437227405312 + x % 8388608 * 536870912
  else if x / 8388608 = 0 then
    if x % 8388608 = 0 then 0
    else ((x % 8388608).log2 + 874) * 4503599627370496 + ((x % 8388608) * 2 ^ (52 - (x % 8388608).log2) - 4503599627370496)
  else (x / 8388608 + 896) * 4503599627370496 + x % 8388608 * 536870912
def widenN (f : Nat) : Nat := f / 2147483648 * 9223372036854775808 + wideN (f % 2147483648)
def widenD (f : Int) : Int := (widenN f.toNat : Nat)

def stepD (y b : Int) : Int := if y % 2 = 0 then 0 else if b = 1 then 4607182418800017408 else 2 ^ (53 - b).toNat

/- the same functions, sealed: their names alone stand in what the kernel compares -/
theorem drawR_ex : ∃ f : Int → Int, f = drawD := ⟨_, rfl⟩
noncomputable def drawR : Int → Int := drawR_ex.choose
theorem drawR_def : drawR = drawD := drawR_ex.choose_spec
theorem lenR_ex : ∃ f : Int → Int, f = lenD := ⟨_, rfl⟩
noncomputable def lenR : Int → Int := lenR_ex.choose
theorem lenR_def : lenR = lenD := lenR_ex.choose_spec
theorem wireR_ex : ∃ f : Int → Int, f = wireD := ⟨_, rfl⟩
noncomputable def wireR : Int → Int := wireR_ex.choose
theorem wireR_def : wireR = wireD := wireR_ex.choose_spec
theorem fromR_ex : ∃ f : Int → Int → Int, f = fromD := ⟨_, rfl⟩
noncomputable def fromR : Int → Int → Int := fromR_ex.choose
theorem fromR_def : fromR = fromD := fromR_ex.choose_spec
theorem toR_ex : ∃ f : Int → Int → Int, f = toD := ⟨_, rfl⟩
noncomputable def toR : Int → Int → Int := toR_ex.choose
theorem toR_def : toR = toD := toR_ex.choose_spec
theorem fitsR_ex : ∃ f : Int → Int → Bool, f = fitsD := ⟨_, rfl⟩
noncomputable def fitsR : Int → Int → Bool := fitsR_ex.choose
theorem fitsR_def : fitsR = fitsD := fitsR_ex.choose_spec
theorem nearB_ex : ∃ f : Int → Int → Int → Int, f = nearBD := ⟨_, rfl⟩
noncomputable def nearB : Int → Int → Int → Int := nearB_ex.choose
theorem nearB_def : nearB = nearBD := nearB_ex.choose_spec
theorem nearR_ex : ∃ f : Int → Int → Bool × Int × Int, f = nearD := ⟨_, rfl⟩
noncomputable def nearR : Int → Int → Bool × Int × Int := nearR_ex.choose
theorem nearR_def : nearR = nearD := nearR_ex.choose_spec
theorem doubleR_ex : ∃ f : Int → Int, f = doubleD := ⟨_, rfl⟩
noncomputable def doubleR : Int → Int := doubleR_ex.choose
theorem doubleR_def : doubleR = doubleD := doubleR_ex.choose_spec
theorem floatR_ex : ∃ f : Int → Int, f = floatD := ⟨_, rfl⟩
noncomputable def floatR : Int → Int := floatR_ex.choose
theorem floatR_def : floatR = floatD := floatR_ex.choose_spec
theorem widenR_ex : ∃ f : Int → Int, f = widenD := ⟨_, rfl⟩
noncomputable def widenR : Int → Int := widenR_ex.choose
theorem widenR_def : widenR = widenD := widenR_ex.choose_spec
theorem stepR_ex : ∃ f : Int → Int → Int, f = stepD := ⟨_, rfl⟩
noncomputable def stepR : Int → Int → Int := stepR_ex.choose
theorem stepR_def : stepR = stepD := stepR_ex.choose_spec
end Go.Proofs.Ytmiclamhiohemaa
