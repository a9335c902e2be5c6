/-
  What the functions of layer 1 are, in plain Lean.
-/
import Derived.Test.YtifmekddikapeaaAmLaw
namespace Go.Proofs.Ytifmekddikapeaa
open Go.AM
set_option autoImplicit false

/-- a number at a text's front: at most so many bytes -/
def vdec : Nat → List UInt8 → Option (Nat × Nat)
  | 0, _ => none
  | _ + 1, [] => none
  | k + 1, c :: r =>
    if k = 0 ∧ 1 < c.toNat then none
    else if c.toNat < 128 then some (c.toNat, 1)
    else match vdec k r with
      | some (v, n) => some (c.toNat % 128 + 128 * v, n + 1)
      | none => none

def vintR (s : List UInt8) : Int × Int × Int :=
  match vdec 10 s with
  | some (v, n) => ((v : Int), (n : Int), 0)
  | none => (0, 0, 2)

/-- a number's bytes: at most so many and one more -/
def putN : Nat → Nat → List UInt8
  | 0, v => [UInt8.ofNat v]
  | k + 1, v => if v < 128 then [UInt8.ofNat v] else UInt8.ofNat (v % 128 + 128) :: putN k (v / 128)

def putV (v : Int) : List UInt8 := putN 9 v.toNat

/-- bytes as a number, the lowest first -/
def lowN : List UInt8 → Nat
  | [] => 0
  | c :: r => c.toNat + 256 * lowN r

def lowR (s : List UInt8) : Int := ((lowN s % 2 ^ 64 : Nat) : Int)
def sizeR (w : Int) : Int := if w = 1 then 8 else 4

/-- so many bytes of a number -/
def lowsN : Nat → Nat → List UInt8
  | 0, _ => []
  | k + 1, v => UInt8.ofNat (v % 256) :: lowsN k (v / 256)

def lowsR (v n : Int) : List UInt8 := lowsN n.toNat v.toNat

def rec0 : Record := ⟨0, 0, 0, [], []⟩

/-- the record at a text's front -/
def oneO (s : List UInt8) : Option Record :=
  match vdec 10 s with
  | none => none
  | some (t, n) =>
    if t / 8 < 1 ∨ 536870911 < t / 8 then none
    else
      let rest := s.drop n
      if t % 8 = 0 then
        match vdec 10 rest with
        | none => none
        | some (v, k) => some ⟨(t / 8 : Nat), 0, (v : Nat), [], s.take (n + k)⟩
      else if t % 8 = 2 then
        match vdec 10 rest with
        | none => none
        | some (v, k) => if (rest.drop k).length < v then none else some ⟨(t / 8 : Nat), 2, 0, (rest.drop k).take v, s.take (n + k + v)⟩
      else if t % 8 = 1 then
        if rest.length < 8 then none else some ⟨(t / 8 : Nat), 1, lowR (rest.take 8), [], s.take (n + 8)⟩
      else if t % 8 = 5 then
        if rest.length < 4 then none else some ⟨(t / 8 : Nat), 5, lowR (rest.take 4), [], s.take (n + 4)⟩
      else none

def oneR (s : List UInt8) : Record × Int :=
  match oneO s with
  | some r => (r, 0)
  | none => (rec0, 2)

/-- records, one behind the other: at most so many -/
def splitO : Nat → List UInt8 → Option (List Record)
  | _, [] => some []
  | 0, _ :: _ => none
  | k + 1, c :: s =>
    match oneO (c :: s) with
    | none => none
    | some r => match splitO k ((c :: s).drop r.raw.length) with
      | none => none
      | some l => some (r :: l)

def splitR (s : List UInt8) : List Record × Int :=
  if 5000 < s.length then ([], 3) else match splitO s.length s with | some l => (l, 0) | none => ([], 2)

def putR (r : Record) : List UInt8 :=
  if r.num < 1 ∨ 536870911 < r.num then []
  else
    let t := putV (r.num * 8 + r.wire % 8)
    if r.wire = 0 then t ++ putV r.n
    else if r.wire = 2 then t ++ putV r.s.length ++ r.s
    else if r.wire = 1 then t ++ lowsR r.n 8
    else if r.wire = 5 then t ++ lowsR r.n 4
    else []

def joinR (l : List Record) : List UInt8 := l.flatMap (·.raw)
end Go.Proofs.Ytifmekddikapeaa
