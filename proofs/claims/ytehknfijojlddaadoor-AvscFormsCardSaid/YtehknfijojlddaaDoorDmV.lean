/-
  A machine for closed runs: values, objects, operations, runs. All data is by reference, as the model has it; what the model leaves open (how much room an append makes) is left open here too.
-/
import GoSem.Core.Code
import GoSem.Op.String
import GoSem.Core.Utf8
namespace Go.DM
set_option autoImplicit false
set_option linter.unusedVariables false

/-- a row of values by number -/
inductive Tr (α : Type) where
  | e
  | n (l : Tr α) (v : Option α) (r : Tr α)

namespace Tr
variable {α R : Type}
def get : Tr α → Nat → Option α
  | .e, _ => none
  | .n l v r, i => cond (Nat.beq i 0) v (cond (Nat.beq (Nat.mod i 2) 1) (l.get (Nat.div i 2)) (r.get (Nat.sub (Nat.div i 2) 1)))

def set : Nat → Tr α → Nat → Option α → Tr α
  | 0, t, _, _ => t
  | f + 1, .e, i, v => cond (Nat.beq i 0) (.n .e v .e) (cond (Nat.beq (Nat.mod i 2) 1) (.n (set f .e (Nat.div i 2) v) none .e) (.n .e none (set f .e (Nat.sub (Nat.div i 2) 1) v)))
  | f + 1, .n l x r, i, v => cond (Nat.beq i 0) (.n l v r) (cond (Nat.beq (Nat.mod i 2) 1) (.n (set f l (Nat.div i 2) v) x r) (.n l x (set f r (Nat.sub (Nat.div i 2) 1) v)))

/-- the same, at once -/
def setK : Nat → Tr α → Nat → Option α → (Tr α → R) → R
  | 0, t, _, _, k => k t
  | f + 1, .e, i, v, k => cond (Nat.beq i 0) (k (.n .e v .e)) (cond (Nat.beq (Nat.mod i 2) 1) (setK f .e (Nat.div i 2) v fun t => k (.n t none .e)) (setK f .e (Nat.sub (Nat.div i 2) 1) v fun t => k (.n .e none t)))
  | f + 1, .n l x r, i, v, k => cond (Nat.beq i 0) (k (.n l v r)) (cond (Nat.beq (Nat.mod i 2) 1) (setK f l (Nat.div i 2) v fun t => k (.n t x r)) (setK f r (Nat.sub (Nat.div i 2) 1) v fun t => k (.n l x t)))

theorem setK_eq : ∀ (f : Nat) (t : Tr α) (i : Nat) (v : Option α) (k : Tr α → R), setK f t i v k = k (set f t i v)
  | 0, _, _, _, _ => rfl
  | f + 1, .e, i, v, k => by
    simp only [setK, set]
    cases Nat.beq i 0 <;> cases Nat.beq (Nat.mod i 2) 1 <;> simp [setK_eq f]
  | f + 1, .n l x r, i, v, k => by
    simp only [setK, set]
    cases Nat.beq i 0 <;> cases Nat.beq (Nat.mod i 2) 1 <;> simp [setK_eq f]

theorem beq_iff (a b : Nat) : Nat.beq a b = decide (a = b) := by
  by_cases h : a = b
  · subst h; simp
  · simp only [h, decide_false]
    cases hb : Nat.beq a b with
    | true => exact absurd (Nat.eq_of_beq_eq_true hb) h
    | false => rfl

theorem get_set : ∀ (f : Nat) (t : Tr α) (i j : Nat) (v : Option α), i < f → (set f t i v).get j = if j = i then v else t.get j
  | 0, _, _, _, _, h => by omega
  | f + 1, t, i, j, v, h => by
    have key : ∀ (l r : Tr α) (x : Option α), (cond (Nat.beq i 0) (Tr.n l v r) (cond (Nat.beq (Nat.mod i 2) 1) (.n (set f l (Nat.div i 2) v) x r) (.n l x (set f r (Nat.sub (Nat.div i 2) 1) v)))).get j = if j = i then v else (Tr.n l x r).get j := by
      intro l r x
      by_cases hi : i = 0
      · subst hi
        by_cases hj : j = 0
        · subst hj; simp [get]
        · simp [get, hj, beq_iff]
      · have b1 : Nat.beq i 0 = false := by simp [beq_iff, hi]
        by_cases ho : i % 2 = 1
        · have b2 : Nat.beq (Nat.mod i 2) 1 = true := by rw [beq_iff]; exact decide_eq_true ho
          rw [b1, b2]
          simp only [cond_false, cond_true, get]
          by_cases hj : j = 0
          · subst hj; simp [beq_iff, Ne.symm hi]
          · have c1 : Nat.beq j 0 = false := by simp [beq_iff, hj]
            rw [c1]
            simp only [cond_false]
            by_cases hjo : j % 2 = 1
            · have c2 : Nat.beq (Nat.mod j 2) 1 = true := by rw [beq_iff]; exact decide_eq_true hjo
              rw [c2]
              simp only [cond_true]
              rw [get_set f l _ _ v (by show i / 2 < f; omega)]
              have : (Nat.div j 2 = Nat.div i 2) ↔ j = i := by show j / 2 = i / 2 ↔ j = i; omega
              simp only [this]
            · have c2 : Nat.beq (Nat.mod j 2) 1 = false := by rw [beq_iff]; exact decide_eq_false hjo
              rw [c2]
              have : j ≠ i := by rintro rfl; exact hjo ho
              simp [this]
        · have b2 : Nat.beq (Nat.mod i 2) 1 = false := by rw [beq_iff]; exact decide_eq_false ho
          rw [b1, b2]
          simp only [cond_false, get]
          by_cases hj : j = 0
          · subst hj; simp [beq_iff, Ne.symm hi]
          · have c1 : Nat.beq j 0 = false := by simp [beq_iff, hj]
            rw [c1]
            simp only [cond_false]
            by_cases hjo : j % 2 = 1
            · have c2 : Nat.beq (Nat.mod j 2) 1 = true := by rw [beq_iff]; exact decide_eq_true hjo
              rw [c2]
              have : j ≠ i := by rintro rfl; exact ho hjo
              simp [this]
            · have c2 : Nat.beq (Nat.mod j 2) 1 = false := by rw [beq_iff]; exact decide_eq_false hjo
              rw [c2]
              simp only [cond_false]
              rw [get_set f r _ _ v (by show i / 2 - 1 < f; omega)]
              have : (Nat.sub (Nat.div j 2) 1 = Nat.sub (Nat.div i 2) 1) ↔ j = i := by show j / 2 - 1 = i / 2 - 1 ↔ j = i; omega
              simp only [this]
    cases t with
    | e =>
      have := key .e .e none
      have e2 : ∀ q, (Tr.n (.e : Tr α) none .e).get q = none := by
        intro q
        simp only [get]
        cases Nat.beq q 0 <;> cases Nat.beq (Nat.mod q 2) 1 <;> rfl
      rw [e2] at this
      simpa [set, get] using this
    | n l x r => simpa only [set] using key l r x
end Tr

inductive D where
  | undef
  | bool (b : Bool)
  | int (k : IntKind) (n : Int)
  | str (s : List Nat)
  | nilp
  | ptr (id off : Nat)
  | nils
  | emp
  | sl (id off len sz : Nat) (cap : Option Nat)
  | agg (cs : List D)
  | tup (cs : List D)
  | fn (f : Nat) (cs : List D)
  | nilf
  | nilif
  | mp (id : Nat)
  | nilm
instance : Inhabited D := ⟨.undef⟩

/-- one cell's value -/
def D.one : D → Bool
  | .undef | .agg _ | .tup _ => false
  | _ => true
def D.cells : D → List D
  | .agg cs => cs
  | v => [v]
def loaded (agg : Bool) (cs : List D) : D := cond agg (.agg cs) (match cs with | c :: _ => c | [] => .undef)

/-- an object: a row of cells (of which type of element; are these all?), or a map -/
inductive Obj where
  | cells (e : Nat) (full : Bool) (cs : List D)
  | map (es : List (D × D))

structure Hp where
  n : Nat
  t : Tr Obj

/-- sixteen of a kind -/
structure E16 (α : Type) where
  a : α
  b : α
  c : α
  d : α
  e : α
  f : α
  g : α
  h : α
  i : α
  j : α
  k : α
  l : α
  m : α
  n : α
  o : α
  p : α
namespace E16
variable {α : Type}
def get (x : E16 α) : Nat → α
  | 0 => x.a
  | 1 => x.b
  | 2 => x.c
  | 3 => x.d
  | 4 => x.e
  | 5 => x.f
  | 6 => x.g
  | 7 => x.h
  | 8 => x.i
  | 9 => x.j
  | 10 => x.k
  | 11 => x.l
  | 12 => x.m
  | 13 => x.n
  | 14 => x.o
  | _ => x.p
def set (x : E16 α) (v : α) : Nat → E16 α
  | 0 => ⟨v, x.b, x.c, x.d, x.e, x.f, x.g, x.h, x.i, x.j, x.k, x.l, x.m, x.n, x.o, x.p⟩
  | 1 => ⟨x.a, v, x.c, x.d, x.e, x.f, x.g, x.h, x.i, x.j, x.k, x.l, x.m, x.n, x.o, x.p⟩
  | 2 => ⟨x.a, x.b, v, x.d, x.e, x.f, x.g, x.h, x.i, x.j, x.k, x.l, x.m, x.n, x.o, x.p⟩
  | 3 => ⟨x.a, x.b, x.c, v, x.e, x.f, x.g, x.h, x.i, x.j, x.k, x.l, x.m, x.n, x.o, x.p⟩
  | 4 => ⟨x.a, x.b, x.c, x.d, v, x.f, x.g, x.h, x.i, x.j, x.k, x.l, x.m, x.n, x.o, x.p⟩
  | 5 => ⟨x.a, x.b, x.c, x.d, x.e, v, x.g, x.h, x.i, x.j, x.k, x.l, x.m, x.n, x.o, x.p⟩
  | 6 => ⟨x.a, x.b, x.c, x.d, x.e, x.f, v, x.h, x.i, x.j, x.k, x.l, x.m, x.n, x.o, x.p⟩
  | 7 => ⟨x.a, x.b, x.c, x.d, x.e, x.f, x.g, v, x.i, x.j, x.k, x.l, x.m, x.n, x.o, x.p⟩
  | 8 => ⟨x.a, x.b, x.c, x.d, x.e, x.f, x.g, x.h, v, x.j, x.k, x.l, x.m, x.n, x.o, x.p⟩
  | 9 => ⟨x.a, x.b, x.c, x.d, x.e, x.f, x.g, x.h, x.i, v, x.k, x.l, x.m, x.n, x.o, x.p⟩
  | 10 => ⟨x.a, x.b, x.c, x.d, x.e, x.f, x.g, x.h, x.i, x.j, v, x.l, x.m, x.n, x.o, x.p⟩
  | 11 => ⟨x.a, x.b, x.c, x.d, x.e, x.f, x.g, x.h, x.i, x.j, x.k, v, x.m, x.n, x.o, x.p⟩
  | 12 => ⟨x.a, x.b, x.c, x.d, x.e, x.f, x.g, x.h, x.i, x.j, x.k, x.l, v, x.n, x.o, x.p⟩
  | 13 => ⟨x.a, x.b, x.c, x.d, x.e, x.f, x.g, x.h, x.i, x.j, x.k, x.l, x.m, v, x.o, x.p⟩
  | 14 => ⟨x.a, x.b, x.c, x.d, x.e, x.f, x.g, x.h, x.i, x.j, x.k, x.l, x.m, x.n, v, x.p⟩
  | _ => ⟨x.a, x.b, x.c, x.d, x.e, x.f, x.g, x.h, x.i, x.j, x.k, x.l, x.m, x.n, x.o, v⟩
theorem get_set (x : E16 α) (v : α) (y z : Nat) (hy : y < 16) (hz : z < 16) : (x.set v y).get z = if z = y then v else x.get z := by
  match y, hy, z, hz with
  | 0, _, z, hz | 1, _, z, hz | 2, _, z, hz | 3, _, z, hz | 4, _, z, hz | 5, _, z, hz | 6, _, z, hz | 7, _, z, hz | 8, _, z, hz | 9, _, z, hz | 10, _, z, hz | 11, _, z, hz | 12, _, z, hz | 13, _, z, hz | 14, _, z, hz | 15, _, z, hz =>
    match z, hz with
    | 0, _ | 1, _ | 2, _ | 3, _ | 4, _ | 5, _ | 6, _ | 7, _ | 8, _ | 9, _ | 10, _ | 11, _ | 12, _ | 13, _ | 14, _ | 15, _ => rfl
    | z + 16, hz => exact absurd hz (by omega)
  | y + 16, hy, z, hz => exact absurd hy (by omega)
end E16
/-- slots: the first 256, the others -/
structure Env where
  lo : E16 (E16 D)
  hi : Tr D
def Env.get (e : Env) (n : Nat) : D := cond (Nat.blt n 256) ((e.lo.get (Nat.div n 16)).get (Nat.mod n 16)) ((e.hi.get n).getD .undef)
def Env.set (e : Env) (n : Nat) (v : D) : Env := cond (Nat.blt n 256)
  ⟨e.lo.set ((e.lo.get (Nat.div n 16)).set v (Nat.mod n 16)) (Nat.div n 16), e.hi⟩
  ⟨e.lo, e.hi.set (Nat.succ n) n (some v)⟩
theorem Env.get_set (e : Env) (n m : Nat) (v : D) : (e.set n v).get m = if m = n then v else e.get m := by
  have b : ∀ x : Nat, Nat.blt x 256 = decide (x < 256) := fun x => by
    rw [Bool.eq_iff_iff]; simp [Nat.blt_eq]
  unfold Env.get Env.set
  rw [b n, b m]
  by_cases hn : n < 256
  · simp only [hn, decide_true, cond_true]
    by_cases hm : m < 256
    · simp only [hm, decide_true, cond_true]
      have k1 : Nat.div n 16 < 16 := by show n / 16 < 16; omega
      have k2 : Nat.div m 16 < 16 := by show m / 16 < 16; omega
      have k5 : Nat.mod n 16 < 16 := Nat.mod_lt _ (by omega)
      have k6 : Nat.mod m 16 < 16 := Nat.mod_lt _ (by omega)
      rw [E16.get_set _ _ _ _ k1 k2]
      by_cases h1 : Nat.div m 16 = Nat.div n 16
      · rw [if_pos h1, E16.get_set _ _ _ _ k5 k6]
        by_cases h3 : Nat.mod m 16 = Nat.mod n 16
        · have : m = n := by
            have h1' : m / 16 = n / 16 := h1
            have h3' : m % 16 = n % 16 := h3
            omega
          rw [if_pos h3, if_pos this]
        · rw [if_neg h3, if_neg (by rintro rfl; exact h3 rfl), h1]
      · rw [if_neg h1, if_neg (by rintro rfl; exact h1 rfl)]
    · simp only [hm, decide_false, cond_false]
      rw [if_neg (by omega)]
  · simp only [hn, decide_false, cond_false]
    by_cases hm : m < 256
    · simp only [hm, decide_true, cond_true]
      rw [if_neg (by omega)]
    · simp only [hm, decide_false, cond_false]
      rw [Tr.get_set _ _ _ _ _ (Nat.lt_succ_self _)]
      by_cases h : m = n <;> simp [h]
structure St where
  env : Env
  hp : Hp

/-- slots and objects, as functions -/
structure FS where
  E : Nat → D
  H : Nat → Option Obj
  n : Nat
def St.fs (s : St) : FS := ⟨s.env.get, s.hp.t.get, s.hp.n⟩
def cells? (H : Nat → Option Obj) (id : Nat) : Option (Nat × Bool × List D) := match H id with | some (.cells e f cs) => some (e, f, cs) | _ => none
def map? (H : Nat → Option Obj) (id : Nat) : Option (List (D × D)) := match H id with | some (.map es) => some es | _ => none

inductive ASrc where
  | t (n : Nat)
  | c (v : D)
def ASrc.ev (E : Nat → D) : ASrc → D
  | .t n => E n
  | .c v => v

inductive IOp where
  | mov (x : ASrc)
  | pick (c a b : ASrc)
  | bin (o : BinOp) (x y : ASrc)
  | un (o : UnOp) (x : ASrc)
  | cvi (k : IntKind) (x : ASrc)
  | cvs (x : ASrc)
  | s2b (e : Nat) (x : ASrc)
  | b2s (x : ASrc)
  | i2s (x : ASrc)
  | len (st : Bool) (x : ASrc)
  | idx (x i : ASrc)
  | ixa (sz : Nat) (x i : ASrc)
  | ixp (n sz : Nat) (x i : ASrc)
  | subs (x : ASrc) (lo hi : Option ASrc)
  | subl (sz : Nat) (x : ASrc) (lo hi : Option ASrc)
  | bsl (e sz : Nat) (parts : List ASrc)
  | bld (zero : List D) (parts : List (Nat × Nat × ASrc))
  | fld (off n : Nat) (agg : Bool) (x : ASrc)
  | new (e : Nat) (zero : List D)
  | box (e : Nat) (x : ASrc)
  | fad (off : Nat) (x : ASrc)
  | ld (n : Nat) (agg : Bool) (x : ASrc)
  | st (n : Nat) (x v : ASrc)
  | app (e sz by_ : Nat) (x y : ASrc)
  | mks (e sz by_ : Nat) (zero : List D) (x : ASrc)
  | ext (i : Nat) (x : ASrc)
  | nck (x : ASrc)
  | mx (mn : Bool) (x y : ASrc)
  | mkf (f : Nat) (caps : List ASrc)
  | mkm
  | lkp (kk n : Nat) (zero : List D) (agg ok : Bool) (x k : ASrc)
  | mup (kk n : Nat) (m k v : ASrc)
  | ment (kk n : Nat) (zero : List D) (agg : Bool) (m k : ASrc)
  | mest (m i v : ASrc)
  | eq (kk : Nat) (neg : Bool) (x y : ASrc)
  | call (f : Nat) (args : List ASrc)
  | dcall (x : ASrc) (args : List ASrc)

structure GOp where
  d : Option Nat
  g : Option (Nat × Bool)
  o : IOp

def bitsI (o : BinOp) (k : IntKind) (a b : Int) : Int :=
  match o with
  | .and => k.wrap (BitVec.ofInt k.bits a &&& BitVec.ofInt k.bits b).toNat
  | .or => k.wrap (BitVec.ofInt k.bits a ||| BitVec.ofInt k.bits b).toNat
  | .xor => k.wrap (BitVec.ofInt k.bits a ^^^ BitVec.ofInt k.bits b).toNat
  | _ => k.wrap (BitVec.ofInt k.bits a &&& ~~~BitVec.ofInt k.bits b).toNat
def shlI (k : IntKind) (a b : Int) : Int := k.wrap (a * 2 ^ (min b.toNat k.bits))
def shrI (k : IntKind) (a b : Int) : Int := a.fdiv (2 ^ (min b.toNat k.bits))
def maxI : Nat := 9223372036854775807
def reach : Nat := 140737488355328
def utf8 (n : Int) : List Nat := (Utf8.encode n).data.toList.map (·.toNat)

def ltI (a b : Int) : Bool := match a, b with
  | .ofNat a, .ofNat b => Nat.blt a b
  | .negSucc _, .ofNat _ => true
  | .ofNat _, .negSucc _ => false
  | .negSucc a, .negSucc b => Nat.blt b a
def eqI (a b : Int) : Bool := match a, b with
  | .ofNat a, .ofNat b => Nat.beq a b
  | .negSucc a, .negSucc b => Nat.beq a b
  | _, _ => false
def eqL : List Nat → List Nat → Bool
  | [], [] => true
  | a :: x, b :: y => cond (Nat.beq a b) (eqL x y) false
  | _, _ => false
def ltL : List Nat → List Nat → Bool
  | [], _ :: _ => true
  | a :: x, b :: y => cond (Nat.blt a b) true (cond (Nat.beq a b) (ltL x y) false)
  | _, [] => false
def lenL {α : Type} : List α → Nat → Nat
  | [], n => n
  | _ :: r, n => lenL r (Nat.succ n)

def chk {R : Type} (c : Bool) (x : Option R) : Option R := cond c x none

def binInt (o : BinOp) (k : IntKind) (a b : Int) : Option D :=
  match o with
  | .add => some (.int k (k.wrap (a + b)))
  | .sub => some (.int k (k.wrap (a - b)))
  | .mul => some (.int k (k.wrap (a * b)))
  | .quo => chk (!eqI b 0) (some (.int k (k.wrap (a.tdiv b))))
  | .rem => chk (!eqI b 0) (some (.int k (a.tmod b)))
  | .and => some (.int k (bitsI .and k a b))
  | .or => some (.int k (bitsI .or k a b))
  | .xor => some (.int k (bitsI .xor k a b))
  | .andNot => some (.int k (bitsI .andNot k a b))
  | .eql => some (.bool (eqI a b))
  | .neq => some (.bool (!eqI a b))
  | .lss => some (.bool (ltI a b))
  | .leq => some (.bool (!ltI b a))
  | .gtr => some (.bool (ltI b a))
  | .geq => some (.bool (!ltI a b))
  | _ => none
def binStr (o : BinOp) (a b : List Nat) : Option D :=
  match o with
  | .add => chk (Nat.ble (lenL a 0 + lenL b 0) maxI) (some (.str (a ++ b)))
  | .eql => some (.bool (eqL a b))
  | .neq => some (.bool (!eqL a b))
  | .lss => some (.bool (ltL a b))
  | .leq => some (.bool (!ltL b a))
  | .gtr => some (.bool (ltL b a))
  | .geq => some (.bool (!ltL a b))
  | _ => none
def sameK (a b : IntKind) : Bool := match a, b with
  | .i8, .i8 | .i16, .i16 | .i32, .i32 | .i64, .i64 | .u8, .u8 | .u16, .u16 | .u32, .u32 | .u64, .u64 => true
  | _, _ => false
def binV (o : BinOp) (x y : D) : Option D :=
  match x, y with
  | .int k a, .int k' b =>
    match o with
    | .shl => chk (!ltI b 0) (some (.int k (shlI k a b)))
    | .shr => chk (!ltI b 0) (some (.int k (shrI k a b)))
    | o => chk (sameK k k') (binInt o k a b)
  | .str a, .str b => binStr o a b
  | _, _ => none
def unV (o : UnOp) (x : D) : Option D :=
  match o, x with
  | .not, .bool b => some (.bool (!b))
  | .neg, .int k n => some (.int k (k.wrap (0 - n)))
  | .xor, .int k n => some (.int k (bitsI .xor k (if k.signed then -1 else k.max) n))
  | _, _ => none

/-- are two values the same, where the machine knows? -/
def eqV : D → D → Option Bool
  | .int k a, .int k' b => chk (sameK k k') (some (eqI a b))
  | .str a, .str b => some (eqL a b)
  | _, _ => none
def eqN : Nat → D → D → Option Bool
  | 0, .bool a, .bool b => some (a == b)
  | 1, .nilp, .nilp => some true
  | 1, .nilp, .ptr _ _ => some false
  | 1, .ptr _ _, .nilp => some false
  | 2, .nils, .nils => some true
  | 2, .nils, .sl .. => some false
  | 2, .nils, .emp => some false
  | 2, .sl .., .nils => some false
  | 2, .emp, .nils => some false
  | 3, .nilm, .nilm => some true
  | 3, .nilm, .mp _ => some false
  | 3, .mp _, .nilm => some false
  | 4, .nilf, .nilf => some true
  | 4, .fn _ _, .nilf => some false
  | 4, .nilf, .fn _ _ => some false
  | _, _, _ => none
def eqC : List D → List D → Option Bool
  | [], [] => some true
  | a :: x, b :: y => match eqV a b with
    | some true => eqC x y
    | some false => some false
    | none => none
  | _, _ => none
/-- are two keys, two structs the same? -/
def eqD (a b : D) : Option Bool := match a, b with
  | .agg x, .agg y => eqC x y
  | x, y => eqV x y

def findK (k : D) : List (D × D) → Nat → Option (Option (Nat × D))
  | [], _ => some none
  | (a, v) :: es, i => match eqD k a with
    | some true => some (some (i, v))
    | some false => findK k es (Nat.succ i)
    | none => none

/-- a key of a kind: a number, a text, so many numbers, so many texts -/
def isKey (kk n : Nat) (k : D) : Bool := match kk, k with
  | 0, .int _ _ => true
  | 1, .str _ => true
  | 2, .agg cs => Nat.beq (lenL cs 0) n && cs.all fun c => match c with | .int _ _ => true | _ => false
  | 3, .agg cs => Nat.beq (lenL cs 0) n && cs.all fun c => match c with | .str _ => true | _ => false
  | _, _ => false

/-- a row's cells, where values are laid over them -/
def lay (cells : List D) : List (Nat × Nat × D) → Option (List D)
  | [] => some cells
  | (off, n, v) :: r => chk (Nat.beq v.cells.length n && v.cells.all D.one && Nat.ble (off + n) cells.length) (lay (cells.take off ++ v.cells ++ cells.drop (off + n)) r)

/-- the ends of a slice expression: from, to -/
def ends (len : Nat) : Option D → Option D → Option (Nat × Nat)
  | none, none => some (0, len)
  | some (.int _ (.ofNat a)), none => chk (Nat.ble a len) (some (a, len))
  | none, some (.int _ (.ofNat b)) => chk (Nat.ble b len) (some (0, b))
  | some (.int _ (.ofNat a)), some (.int _ (.ofNat b)) => chk (Nat.ble b len && Nat.ble a b) (some (a, b))
  | _, _ => none

def osrc (E : Nat → D) : Option ASrc → Option D
  | none => none
  | some x => some (x.ev E)

/-- a slice's cells -/
def slCells (H : Nat → Option Obj) : D → Option (Nat × List D)
  | .nils => some (0, [])
  | .emp => some (0, [])
  | .sl id off len sz _ => match cells? H id with
    | some (_, _, cs) => chk (Nat.ble (off + len * sz) cs.length) (some (len, (cs.drop off).take (len * sz)))
    | none => none
  | _ => none

def byteD (n : Nat) : D := .int .u8 (.ofNat n)
def byteN : D → Option Nat
  | .int .u8 (.ofNat n) => some n
  | _ => none
def bytesN : List D → Option (List Nat)
  | [] => some []
  | c :: r => match byteN c, bytesN r with | some n, some l => some (n :: l) | _, _ => none

/-- what is appended: how many, which cells -/
def srcCells (H : Nat → Option Obj) : D → Option (Nat × List D)
  | .str l => some (l.length, l.map byteD)
  | v => slCells H v

/-- what an operation that is no call yields, and what it does to objects; at: a new object's number -/
def eff (at_ : Nat) (E : Nat → D) (H : Nat → Option Obj) : IOp → Option (D × List (Nat × Option Obj))
  | .mov x => some (x.ev E, [])
  | .pick c a b => match c.ev E with | .bool t => some (cond t (a.ev E) (b.ev E), []) | _ => none
  | .bin o x y => (binV o (x.ev E) (y.ev E)).map fun v => (v, [])
  | .un o x => (unV o (x.ev E)).map fun v => (v, [])
  | .cvi k x => match x.ev E with | .int _ n => some (.int k (k.wrap n), []) | _ => none
  | .cvs x => match x.ev E with | .str l => some (.str l, []) | _ => none
  | .s2b e x => match x.ev E with | .str l => some (.sl at_ 0 l.length 1 none, [(at_, some (.cells e false (l.map byteD)))]) | _ => none
  | .b2s x => match slCells H (x.ev E) with
    | some (n, cs) => chk (Nat.beq (lenL cs 0) n) ((bytesN cs).map fun l => (.str l, []))
    | none => none
  | .i2s x => match x.ev E with | .int _ n => some (.str (utf8 n), []) | _ => none
  | .len st x => match st, x.ev E with
    | true, .str l => some (.int .i64 (.ofNat (lenL l 0)), [])
    | false, .nils => some (.int .i64 (.ofNat 0), [])
    | false, .emp => some (.int .i64 (.ofNat 0), [])
    | false, .sl _ _ n _ _ => some (.int .i64 (.ofNat n), [])
    | _, _ => none
  | .idx x i => match x.ev E, i.ev E with
    | .str l, .int _ (.ofNat i) => match l[i]? with | some n => some (byteD n, []) | none => none
    | _, _ => none
  | .ixa sz x i => match x.ev E, i.ev E with
    | .sl id off n sz' _, .int _ (.ofNat i) => chk (Nat.blt i n && Nat.beq sz sz') (some (.ptr id (off + i * sz), []))
    | _, _ => none
  | .ixp n sz x i => match x.ev E, i.ev E with
    | .ptr id off, .int _ (.ofNat i) => chk (Nat.blt i n) (some (.ptr id (off + i * sz), []))
    | _, _ => none
  | .subs x lo hi => match x.ev E with
    | .str l => (ends l.length (osrc E lo) (osrc E hi)).map fun p => (.str ((l.take p.2).drop p.1), [])
    | _ => none
  | .subl sz x lo hi => match x.ev E with
    | .nils => (ends 0 (osrc E lo) (osrc E hi)).map fun _ => (.nils, [])
    | .emp => (ends 0 (osrc E lo) (osrc E hi)).map fun _ => (.emp, [])
    | .sl id off n sz' cap => chk (Nat.beq sz sz') (match ends n (osrc E lo) (osrc E hi), cap with
      | some (a, b), some c => some (cond (Nat.beq c a) (.sl id off (b - a) sz (some 0)) (.sl id (off + a * sz) (b - a) sz (some (c - a))), [])
      | some (a, b), none => some (cond (Nat.beq a n) .emp (.sl id (off + a * sz) (b - a) sz none), [])
      | none, _ => none)
    | _ => none
  | .bsl e sz ps => chk (ps.all fun x => (x.ev E).cells.all D.one && Nat.beq (x.ev E).cells.length sz) (some (.sl at_ 0 ps.length sz (some ps.length), [(at_, some (.cells e true (ps.flatMap fun x => (x.ev E).cells)))]))
  | .bld zero ps => (lay zero (ps.map fun p => (p.1, p.2.1, p.2.2.ev E))).map fun cs => (.agg cs, [])
  | .fld off n agg x => match x.ev E with
    | .agg cs => chk (Nat.ble (off + n) cs.length) (some (loaded agg ((cs.drop off).take n), []))
    | _ => none
  | .new e zero => some (.ptr at_ 0, [(at_, some (.cells e true zero))])
  | .box e x => chk ((x.ev E).cells.all D.one) (some (.ptr at_ 0, [(at_, some (.cells e true (x.ev E).cells))]))
  | .fad off x => match x.ev E with | .ptr id o => some (.ptr id (o + off), []) | _ => none
  | .ld n agg x => match x.ev E with
    | .ptr id o => match cells? H id with
      | some (_, _, cs) => chk (Nat.ble (o + n) cs.length) (some (loaded agg ((cs.drop o).take n), []))
      | none => none
    | _ => none
  | .st n x v => match x.ev E with
    | .ptr id o => match cells? H id with
      | some (e, f, cs) => chk (Nat.beq (v.ev E).cells.length n && (v.ev E).cells.all D.one && Nat.ble (o + n) cs.length) (some (.undef, [(id, some (.cells e f (cs.take o ++ (v.ev E).cells ++ cs.drop (o + n))))]))
      | none => none
    | _ => none
  | .app e sz by_ x y => match slCells H (y.ev E) with
    | some (n, news) => chk (Nat.beq (lenL news 0) (n * sz)) (match x.ev E with
      | .nils => cond (Nat.beq n 0) (some (.nils, [])) (chk (Nat.ble (n * by_) reach) (some (.sl at_ 0 n sz none, [(at_, some (.cells e false news))])))
      | .sl id off len sz' cap => chk (Nat.beq sz sz' && Nat.ble ((len + n) * by_) reach) (match cells? H id with
        | some (e', f, cs) => cond (Nat.beq n 0) (some (.sl id off len sz cap, [])) (match cap with
          | some c => cond (Nat.ble (len + n) c)
              (chk (Nat.ble (off + (len + n) * sz) cs.length) (some (.sl id off (len + n) sz (some c), [(id, some (.cells e' f (cs.take (off + len * sz) ++ news ++ cs.drop (off + (len + n) * sz))))])))
              (chk (Nat.ble (off + len * sz) cs.length) (some (.sl at_ 0 (len + n) sz none, [(at_, some (.cells e false ((cs.drop off).take (len * sz) ++ news)))])))
          | none => chk (Nat.beq off 0 && Nat.beq (len * sz) cs.length && Nat.beq e e' && !f) (some (.sl at_ 0 (len + n) sz none, [(id, none), (at_, some (.cells e false (cs ++ news)))])))
        | none => none)
      | _ => none)
    | none => none
  | .mks e sz by_ zero x => match x.ev E with
    | .int _ (.ofNat n) => chk (Nat.ble (n * by_) reach && Nat.beq zero.length sz) (some (.sl at_ 0 n sz (some n), [(at_, some (.cells e true ((List.replicate n zero).flatMap id)))]))
    | _ => none
  | .ext i x => match x.ev E with
    | .tup vs => match vs[i]? with | some v => some (v, []) | none => none
    | _ => none
  | .nck x => match x.ev E with
    | .ptr id o => some (.ptr id o, [])
    | .fn f cs => some (.fn f cs, [])
    | _ => none
  | .mx mn x y => match x.ev E, y.ev E with
    | .int k a, .int k' b => chk (sameK k k') (some (.int k (cond mn (cond (ltI b a) b a) (cond (ltI a b) b a)), []))
    | _, _ => none
  | .mkf f caps => some (.fn f (caps.map (·.ev E)), [])
  | .mkm => some (.mp at_, [(at_, some (.map []))])
  | .lkp kk n zero agg ok x k => chk (isKey kk n (k.ev E)) (match (match x.ev E with | .nilm => some [] | .mp id => map? H id | _ => none) with
    | some es => match findK (k.ev E) es 0 with
      | some (some (_, v)) => some (cond ok (.tup [v, .bool true]) v, [])
      | some none => some (cond ok (.tup [loaded agg zero, .bool false]) (loaded agg zero), [])
      | none => none
    | none => none)
  | .mup kk n m k v => chk (isKey kk n (k.ev E)) (match m.ev E with
    | .mp id => match map? H id with
      | some es => match findK (k.ev E) es 0 with
        | some (some (i, _)) => some (.undef, [(id, some (.map (es.set i (k.ev E, v.ev E))))])
        | some none => some (.undef, [(id, some (.map (es ++ [(k.ev E, v.ev E)])))])
        | none => none
      | none => none
    | _ => none)
  | .ment kk n zero agg m k => chk (isKey kk n (k.ev E)) (match m.ev E with
    | .mp id => match map? H id with
      | some es => chk (Nat.blt (lenL es 0) 1000000000) (match findK (k.ev E) es 0 with
        | some (some (i, v)) => some (.tup [v, .int .i64 (.ofNat i)], [(id, some (.map (es.set i (k.ev E, v))))])
        | some none => some (.tup [loaded agg zero, .int .i64 (.ofNat (lenL es 0))], [(id, some (.map (es ++ [(k.ev E, loaded agg zero)])))])
        | none => none)
      | none => none
    | _ => none)
  | .mest m i v => match m.ev E, i.ev E with
    | .mp id, .int _ (.ofNat i) => match map? H id with
      | some es => match es[i]? with
        | some (k, _) => some (.undef, [(id, some (.map (es.set i (k, v.ev E))))])
        | none => none
      | none => none
    | _, _ => none
  | .eq kk neg x y => (eqN kk (x.ev E) (y.ev E)).map fun b => (.bool (cond neg (!b) b), [])
  | .call .. => none
  | .dcall .. => none

def i_add (k : IntKind) (a b : Int) : Option D := some (.int k (k.wrap (a + b)))
def i_sub (k : IntKind) (a b : Int) : Option D := some (.int k (k.wrap (a - b)))
def i_mul (k : IntKind) (a b : Int) : Option D := some (.int k (k.wrap (a * b)))
def i_quo (k : IntKind) (a b : Int) : Option D := chk (!eqI b 0) (some (.int k (k.wrap (a.tdiv b))))
def i_rem (k : IntKind) (a b : Int) : Option D := chk (!eqI b 0) (some (.int k (a.tmod b)))
def i_and (k : IntKind) (a b : Int) : Option D := some (.int k (bitsI .and k a b))
def i_or (k : IntKind) (a b : Int) : Option D := some (.int k (bitsI .or k a b))
def i_xor (k : IntKind) (a b : Int) : Option D := some (.int k (bitsI .xor k a b))
def i_andNot (k : IntKind) (a b : Int) : Option D := some (.int k (bitsI .andNot k a b))
def i_eql (k : IntKind) (a b : Int) : Option D := some (.bool (eqI a b))
def i_neq (k : IntKind) (a b : Int) : Option D := some (.bool (!eqI a b))
def i_lss (k : IntKind) (a b : Int) : Option D := some (.bool (ltI a b))
def i_leq (k : IntKind) (a b : Int) : Option D := some (.bool (!ltI b a))
def i_gtr (k : IntKind) (a b : Int) : Option D := some (.bool (ltI b a))
def i_geq (k : IntKind) (a b : Int) : Option D := some (.bool (!ltI a b))
def intK' : BinOp → IntKind → Int → Int → Option D
  | .add => i_add
  | .sub => i_sub
  | .mul => i_mul
  | .quo => i_quo
  | .rem => i_rem
  | .and => i_and
  | .or => i_or
  | .xor => i_xor
  | .andNot => i_andNot
  | .eql => i_eql
  | .neq => i_neq
  | .lss => i_lss
  | .leq => i_leq
  | .gtr => i_gtr
  | .geq => i_geq
  | _ => fun _ _ _ => none
def strK : BinOp → List Nat → List Nat → Option D
  | .add => fun a b => chk (Nat.ble (lenL a 0 + lenL b 0) maxI) (some (.str (a ++ b)))
  | .eql => fun a b => some (.bool (eqL a b))
  | .neq => fun a b => some (.bool (!eqL a b))
  | .lss => fun a b => some (.bool (ltL a b))
  | .leq => fun a b => some (.bool (!ltL b a))
  | .gtr => fun a b => some (.bool (ltL b a))
  | .geq => fun a b => some (.bool (!ltL a b))
  | _ => fun _ _ => none
def isShift : BinOp → Bool
  | .shl | .shr => true
  | _ => false
def binK (o : BinOp) (x y : D) : Option D := match x, y with
  | .int k a, .int k' b => cond (isShift o) (binV o (.int k a) (.int k' b)) (chk (sameK k k') (intK' o k a b))
  | .str a, .str b => strK o a b
  | _, _ => none
theorem intK'_eq (o : BinOp) (k : IntKind) (a b : Int) : intK' o k a b = binInt o k a b := by cases o <;> rfl
theorem strK_eq (o : BinOp) (a b : List Nat) : strK o a b = binStr o a b := by cases o <;> rfl
theorem binK_eq (o : BinOp) (x y : D) : binK o x y = binV o x y := by
  cases x <;> cases y <;> first | rfl | skip
  · simp only [binK, intK'_eq]
    cases o <;> rfl
  · simp only [binK, strK_eq]
    rfl
/-- the same, laid out for the kernel: a branch is copied where it is taken alone -/
def e_mov (x : ASrc) (at_ : Nat) (E : Nat → D) (H : Nat → Option Obj) : Option (D × List (Nat × Option Obj)) := some (x.ev E, [])
def e_pick (c : ASrc) (a : ASrc) (b : ASrc) (at_ : Nat) (E : Nat → D) (H : Nat → Option Obj) : Option (D × List (Nat × Option Obj)) := match c.ev E with | .bool t => some (cond t (a.ev E) (b.ev E), []) | _ => none
def e_bin (o : BinOp) (x : ASrc) (y : ASrc) (at_ : Nat) (E : Nat → D) (H : Nat → Option Obj) : Option (D × List (Nat × Option Obj)) := (binK o (x.ev E) (y.ev E)).map fun v => (v, [])
def e_un (o : UnOp) (x : ASrc) (at_ : Nat) (E : Nat → D) (H : Nat → Option Obj) : Option (D × List (Nat × Option Obj)) := (unV o (x.ev E)).map fun v => (v, [])
def e_cvi (k : IntKind) (x : ASrc) (at_ : Nat) (E : Nat → D) (H : Nat → Option Obj) : Option (D × List (Nat × Option Obj)) := match x.ev E with | .int _ n => some (.int k (k.wrap n), []) | _ => none
def e_cvs (x : ASrc) (at_ : Nat) (E : Nat → D) (H : Nat → Option Obj) : Option (D × List (Nat × Option Obj)) := match x.ev E with | .str l => some (.str l, []) | _ => none
def e_s2b (e : Nat) (x : ASrc) (at_ : Nat) (E : Nat → D) (H : Nat → Option Obj) : Option (D × List (Nat × Option Obj)) := match x.ev E with | .str l => some (.sl at_ 0 l.length 1 none, [(at_, some (.cells e false (l.map byteD)))]) | _ => none
def e_b2s (x : ASrc) (at_ : Nat) (E : Nat → D) (H : Nat → Option Obj) : Option (D × List (Nat × Option Obj)) := match slCells H (x.ev E) with
    | some (n, cs) => chk (Nat.beq (lenL cs 0) n) ((bytesN cs).map fun l => (.str l, []))
    | none => none
def e_i2s (x : ASrc) (at_ : Nat) (E : Nat → D) (H : Nat → Option Obj) : Option (D × List (Nat × Option Obj)) := match x.ev E with | .int _ n => some (.str (utf8 n), []) | _ => none
def e_len (st : Bool) (x : ASrc) (at_ : Nat) (E : Nat → D) (H : Nat → Option Obj) : Option (D × List (Nat × Option Obj)) := match st, x.ev E with
    | true, .str l => some (.int .i64 (.ofNat (lenL l 0)), [])
    | false, .nils => some (.int .i64 (.ofNat 0), [])
    | false, .emp => some (.int .i64 (.ofNat 0), [])
    | false, .sl _ _ n _ _ => some (.int .i64 (.ofNat n), [])
    | _, _ => none
def e_idx (x : ASrc) (i : ASrc) (at_ : Nat) (E : Nat → D) (H : Nat → Option Obj) : Option (D × List (Nat × Option Obj)) := match x.ev E, i.ev E with
    | .str l, .int _ (.ofNat i) => match l[i]? with | some n => some (byteD n, []) | none => none
    | _, _ => none
def e_ixa (sz : Nat) (x : ASrc) (i : ASrc) (at_ : Nat) (E : Nat → D) (H : Nat → Option Obj) : Option (D × List (Nat × Option Obj)) := match x.ev E, i.ev E with
    | .sl id off n sz' _, .int _ (.ofNat i) => chk (Nat.blt i n && Nat.beq sz sz') (some (.ptr id (off + i * sz), []))
    | _, _ => none
def e_ixp (n : Nat) (sz : Nat) (x : ASrc) (i : ASrc) (at_ : Nat) (E : Nat → D) (H : Nat → Option Obj) : Option (D × List (Nat × Option Obj)) := match x.ev E, i.ev E with
    | .ptr id off, .int _ (.ofNat i) => chk (Nat.blt i n) (some (.ptr id (off + i * sz), []))
    | _, _ => none
def e_subs (x : ASrc) (lo : Option ASrc) (hi : Option ASrc) (at_ : Nat) (E : Nat → D) (H : Nat → Option Obj) : Option (D × List (Nat × Option Obj)) := match x.ev E with
    | .str l => (ends l.length (osrc E lo) (osrc E hi)).map fun p => (.str ((l.take p.2).drop p.1), [])
    | _ => none
def e_subl (sz : Nat) (x : ASrc) (lo : Option ASrc) (hi : Option ASrc) (at_ : Nat) (E : Nat → D) (H : Nat → Option Obj) : Option (D × List (Nat × Option Obj)) := match x.ev E with
    | .nils => (ends 0 (osrc E lo) (osrc E hi)).map fun _ => (.nils, [])
    | .emp => (ends 0 (osrc E lo) (osrc E hi)).map fun _ => (.emp, [])
    | .sl id off n sz' cap => chk (Nat.beq sz sz') (match ends n (osrc E lo) (osrc E hi), cap with
      | some (a, b), some c => some (cond (Nat.beq c a) (.sl id off (b - a) sz (some 0)) (.sl id (off + a * sz) (b - a) sz (some (c - a))), [])
      | some (a, b), none => some (cond (Nat.beq a n) .emp (.sl id (off + a * sz) (b - a) sz none), [])
      | none, _ => none)
    | _ => none
def e_bsl (e : Nat) (sz : Nat) (ps : List ASrc) (at_ : Nat) (E : Nat → D) (H : Nat → Option Obj) : Option (D × List (Nat × Option Obj)) := chk (ps.all fun x => (x.ev E).cells.all D.one && Nat.beq (x.ev E).cells.length sz) (some (.sl at_ 0 ps.length sz (some ps.length), [(at_, some (.cells e true (ps.flatMap fun x => (x.ev E).cells)))]))
def e_bld (zero : List D) (ps : List (Nat × Nat × ASrc)) (at_ : Nat) (E : Nat → D) (H : Nat → Option Obj) : Option (D × List (Nat × Option Obj)) := (lay zero (ps.map fun p => (p.1, p.2.1, p.2.2.ev E))).map fun cs => (.agg cs, [])
def e_fld (off : Nat) (n : Nat) (agg : Bool) (x : ASrc) (at_ : Nat) (E : Nat → D) (H : Nat → Option Obj) : Option (D × List (Nat × Option Obj)) := match x.ev E with
    | .agg cs => chk (Nat.ble (off + n) cs.length) (some (loaded agg ((cs.drop off).take n), []))
    | _ => none
def e_new (e : Nat) (zero : List D) (at_ : Nat) (E : Nat → D) (H : Nat → Option Obj) : Option (D × List (Nat × Option Obj)) := some (.ptr at_ 0, [(at_, some (.cells e true zero))])
def e_box (e : Nat) (x : ASrc) (at_ : Nat) (E : Nat → D) (H : Nat → Option Obj) : Option (D × List (Nat × Option Obj)) := chk ((x.ev E).cells.all D.one) (some (.ptr at_ 0, [(at_, some (.cells e true (x.ev E).cells))]))
def e_fad (off : Nat) (x : ASrc) (at_ : Nat) (E : Nat → D) (H : Nat → Option Obj) : Option (D × List (Nat × Option Obj)) := match x.ev E with | .ptr id o => some (.ptr id (o + off), []) | _ => none
def e_ld (n : Nat) (agg : Bool) (x : ASrc) (at_ : Nat) (E : Nat → D) (H : Nat → Option Obj) : Option (D × List (Nat × Option Obj)) := match x.ev E with
    | .ptr id o => match cells? H id with
      | some (_, _, cs) => chk (Nat.ble (o + n) cs.length) (some (loaded agg ((cs.drop o).take n), []))
      | none => none
    | _ => none
def e_st (n : Nat) (x : ASrc) (v : ASrc) (at_ : Nat) (E : Nat → D) (H : Nat → Option Obj) : Option (D × List (Nat × Option Obj)) := match x.ev E with
    | .ptr id o => match cells? H id with
      | some (e, f, cs) => chk (Nat.beq (v.ev E).cells.length n && (v.ev E).cells.all D.one && Nat.ble (o + n) cs.length) (some (.undef, [(id, some (.cells e f (cs.take o ++ (v.ev E).cells ++ cs.drop (o + n))))]))
      | none => none
    | _ => none
def e_app (e : Nat) (sz : Nat) (by_ : Nat) (x : ASrc) (y : ASrc) (at_ : Nat) (E : Nat → D) (H : Nat → Option Obj) : Option (D × List (Nat × Option Obj)) := match slCells H (y.ev E) with
    | some (n, news) => chk (Nat.beq (lenL news 0) (n * sz)) (match x.ev E with
      | .nils => cond (Nat.beq n 0) (some (.nils, [])) (chk (Nat.ble (n * by_) reach) (some (.sl at_ 0 n sz none, [(at_, some (.cells e false news))])))
      | .sl id off len sz' cap => chk (Nat.beq sz sz' && Nat.ble ((len + n) * by_) reach) (match cells? H id with
        | some (e', f, cs) => cond (Nat.beq n 0) (some (.sl id off len sz cap, [])) (match cap with
          | some c => cond (Nat.ble (len + n) c)
              (chk (Nat.ble (off + (len + n) * sz) cs.length) (some (.sl id off (len + n) sz (some c), [(id, some (.cells e' f (cs.take (off + len * sz) ++ news ++ cs.drop (off + (len + n) * sz))))])))
              (chk (Nat.ble (off + len * sz) cs.length) (some (.sl at_ 0 (len + n) sz none, [(at_, some (.cells e false ((cs.drop off).take (len * sz) ++ news)))])))
          | none => chk (Nat.beq off 0 && Nat.beq (len * sz) cs.length && Nat.beq e e' && !f) (some (.sl at_ 0 (len + n) sz none, [(id, none), (at_, some (.cells e false (cs ++ news)))])))
        | none => none)
      | _ => none)
    | none => none
def e_mks (e : Nat) (sz : Nat) (by_ : Nat) (zero : List D) (x : ASrc) (at_ : Nat) (E : Nat → D) (H : Nat → Option Obj) : Option (D × List (Nat × Option Obj)) := match x.ev E with
    | .int _ (.ofNat n) => chk (Nat.ble (n * by_) reach && Nat.beq zero.length sz) (some (.sl at_ 0 n sz (some n), [(at_, some (.cells e true ((List.replicate n zero).flatMap id)))]))
    | _ => none
def e_ext (i : Nat) (x : ASrc) (at_ : Nat) (E : Nat → D) (H : Nat → Option Obj) : Option (D × List (Nat × Option Obj)) := match x.ev E with
    | .tup vs => match vs[i]? with | some v => some (v, []) | none => none
    | _ => none
def e_nck (x : ASrc) (at_ : Nat) (E : Nat → D) (H : Nat → Option Obj) : Option (D × List (Nat × Option Obj)) := match x.ev E with
    | .ptr id o => some (.ptr id o, [])
    | .fn f cs => some (.fn f cs, [])
    | _ => none
def e_mx (mn : Bool) (x : ASrc) (y : ASrc) (at_ : Nat) (E : Nat → D) (H : Nat → Option Obj) : Option (D × List (Nat × Option Obj)) := match x.ev E, y.ev E with
    | .int k a, .int k' b => chk (sameK k k') (some (.int k (cond mn (cond (ltI b a) b a) (cond (ltI a b) b a)), []))
    | _, _ => none
def e_mkf (f : Nat) (caps : List ASrc) (at_ : Nat) (E : Nat → D) (H : Nat → Option Obj) : Option (D × List (Nat × Option Obj)) := some (.fn f (caps.map (·.ev E)), [])
def e_mkm (at_ : Nat) (E : Nat → D) (H : Nat → Option Obj) : Option (D × List (Nat × Option Obj)) := some (.mp at_, [(at_, some (.map []))])
def e_lkp (kk : Nat) (n : Nat) (zero : List D) (agg : Bool) (ok : Bool) (x : ASrc) (k : ASrc) (at_ : Nat) (E : Nat → D) (H : Nat → Option Obj) : Option (D × List (Nat × Option Obj)) := chk (isKey kk n (k.ev E)) (match (match x.ev E with | .nilm => some [] | .mp id => map? H id | _ => none) with
    | some es => match findK (k.ev E) es 0 with
      | some (some (_, v)) => some (cond ok (.tup [v, .bool true]) v, [])
      | some none => some (cond ok (.tup [loaded agg zero, .bool false]) (loaded agg zero), [])
      | none => none
    | none => none)
def e_mup (kk : Nat) (n : Nat) (m : ASrc) (k : ASrc) (v : ASrc) (at_ : Nat) (E : Nat → D) (H : Nat → Option Obj) : Option (D × List (Nat × Option Obj)) := chk (isKey kk n (k.ev E)) (match m.ev E with
    | .mp id => match map? H id with
      | some es => match findK (k.ev E) es 0 with
        | some (some (i, _)) => some (.undef, [(id, some (.map (es.set i (k.ev E, v.ev E))))])
        | some none => some (.undef, [(id, some (.map (es ++ [(k.ev E, v.ev E)])))])
        | none => none
      | none => none
    | _ => none)
def e_ment (kk : Nat) (n : Nat) (zero : List D) (agg : Bool) (m : ASrc) (k : ASrc) (at_ : Nat) (E : Nat → D) (H : Nat → Option Obj) : Option (D × List (Nat × Option Obj)) := chk (isKey kk n (k.ev E)) (match m.ev E with
    | .mp id => match map? H id with
      | some es => chk (Nat.blt (lenL es 0) 1000000000) (match findK (k.ev E) es 0 with
        | some (some (i, v)) => some (.tup [v, .int .i64 (.ofNat i)], [(id, some (.map (es.set i (k.ev E, v))))])
        | some none => some (.tup [loaded agg zero, .int .i64 (.ofNat (lenL es 0))], [(id, some (.map (es ++ [(k.ev E, loaded agg zero)])))])
        | none => none)
      | none => none
    | _ => none)
def e_mest (m : ASrc) (i : ASrc) (v : ASrc) (at_ : Nat) (E : Nat → D) (H : Nat → Option Obj) : Option (D × List (Nat × Option Obj)) := match m.ev E, i.ev E with
    | .mp id, .int _ (.ofNat i) => match map? H id with
      | some es => match es[i]? with
        | some (k, _) => some (.undef, [(id, some (.map (es.set i (k, v.ev E))))])
        | none => none
      | none => none
    | _, _ => none
def e_eq (kk : Nat) (neg : Bool) (x : ASrc) (y : ASrc) (at_ : Nat) (E : Nat → D) (H : Nat → Option Obj) : Option (D × List (Nat × Option Obj)) := (eqN kk (x.ev E) (y.ev E)).map fun b => (.bool (cond neg (!b) b), [])
def effK : IOp → Nat → (Nat → D) → (Nat → Option Obj) → Option (D × List (Nat × Option Obj))
  | .mov x => e_mov x
  | .pick c a b => e_pick c a b
  | .bin o x y => e_bin o x y
  | .un o x => e_un o x
  | .cvi k x => e_cvi k x
  | .cvs x => e_cvs x
  | .s2b e x => e_s2b e x
  | .b2s x => e_b2s x
  | .i2s x => e_i2s x
  | .len st x => e_len st x
  | .idx x i => e_idx x i
  | .ixa sz x i => e_ixa sz x i
  | .ixp n sz x i => e_ixp n sz x i
  | .subs x lo hi => e_subs x lo hi
  | .subl sz x lo hi => e_subl sz x lo hi
  | .bsl e sz ps => e_bsl e sz ps
  | .bld zero ps => e_bld zero ps
  | .fld off n agg x => e_fld off n agg x
  | .new e zero => e_new e zero
  | .box e x => e_box e x
  | .fad off x => e_fad off x
  | .ld n agg x => e_ld n agg x
  | .st n x v => e_st n x v
  | .app e sz by_ x y => e_app e sz by_ x y
  | .mks e sz by_ zero x => e_mks e sz by_ zero x
  | .ext i x => e_ext i x
  | .nck x => e_nck x
  | .mx mn x y => e_mx mn x y
  | .mkf f caps => e_mkf f caps
  | .mkm => e_mkm
  | .lkp kk n zero agg ok x k => e_lkp kk n zero agg ok x k
  | .mup kk n m k v => e_mup kk n m k v
  | .ment kk n zero agg m k => e_ment kk n zero agg m k
  | .mest m i v => e_mest m i v
  | .eq kk neg x y => e_eq kk neg x y
  | .call .. => fun _ _ _ => none
  | .dcall .. => fun _ _ _ => none
theorem effK_eq (o : IOp) (at_ : Nat) (E : Nat → D) (H : Nat → Option Obj) : effK o at_ E H = eff at_ E H o := by
  cases o <;> first | rfl | (simp only [effK, e_bin, eff, binK_eq])

/-- does an operation make an object? -/
def IOp.makes : IOp → Bool
  | .s2b .. | .bsl .. | .new .. | .box .. | .app .. | .mks .. | .mkm => true
  | _ => false

section
variable {R : Type}
def forceN : Nat → (Nat → R) → R
  | 0 => fun k => k 0
  | n + 1 => fun k => k (Nat.succ n)
def forceI : Int → (Int → R) → R
  | .ofNat m => fun k => forceN m fun m => k (.ofNat m)
  | .negSucc m => fun k => forceN m fun m => k (.negSucc m)
def forceS : List Nat → (List Nat → R) → R
  | [] => fun k => k []
  | a :: r => fun k => forceN a fun a => forceS r fun r => k (a :: r)
def forceL {α : Type} : List α → (List α → R) → R
  | [] => fun k => k []
  | a :: r => fun k => forceL r fun r => k (a :: r)
def forceB : Bool → (Bool → R) → R
  | true => fun k => k true
  | false => fun k => k false
def forceO : Option Nat → (Option Nat → R) → R
  | none => fun k => k none
  | some c => fun k => forceN c fun c => k (some c)
/-- a value that is made anew, laid out -/
def forceD : D → (D → R) → R
  | .undef => fun k => k .undef
  | .bool b => fun k => forceB b fun b => k (.bool b)
  | .int t n => fun k => forceI n fun n => k (.int t n)
  | .str s => fun k => forceS s fun s => k (.str s)
  | .nilp => fun k => k .nilp
  | .ptr id off => fun k => forceN id fun id => forceN off fun off => k (.ptr id off)
  | .nils => fun k => k .nils
  | .emp => fun k => k .emp
  | .sl id off len sz cap => fun k => forceN id fun id => forceN off fun off => forceN len fun len => forceN sz fun sz => forceO cap fun cap => k (.sl id off len sz cap)
  | .agg cs => fun k => forceL cs fun cs => k (.agg cs)
  | .tup cs => fun k => forceL cs fun cs => k (.tup cs)
  | .fn f cs => fun k => forceL cs fun cs => k (.fn f cs)
  | .nilf => fun k => k .nilf
  | .nilif => fun k => k .nilif
  | .mp id => fun k => forceN id fun id => k (.mp id)
  | .nilm => fun k => k .nilm
/-- a value that is copied -/
def forceH : D → (D → R) → R
  | .undef => fun k => k .undef
  | .bool b => fun k => forceB b fun b => k (.bool b)
  | .int t n => fun k => k (.int t n)
  | .str s => fun k => k (.str s)
  | .nilp => fun k => k .nilp
  | .ptr id off => fun k => k (.ptr id off)
  | .nils => fun k => k .nils
  | .emp => fun k => k .emp
  | .sl id off len sz cap => fun k => k (.sl id off len sz cap)
  | .agg cs => fun k => forceL cs fun cs => k (.agg cs)
  | .tup cs => fun k => forceL cs fun cs => k (.tup cs)
  | .fn f cs => fun k => k (.fn f cs)
  | .nilf => fun k => k .nilf
  | .nilif => fun k => k .nilif
  | .mp id => fun k => k (.mp id)
  | .nilm => fun k => k .nilm
def forceOb : Option Obj → (Option Obj → R) → R
  | none => fun k => k none
  | some (.cells e f cs) => fun k => forceL cs fun cs => k (some (.cells e f cs))
  | some (.map es) => fun k => forceL es fun es => k (some (.map es))
theorem forceN_eq (m : Nat) (k : Nat → R) : forceN m k = k m := by cases m <;> rfl
theorem forceI_eq (n : Int) (k : Int → R) : forceI n k = k n := by cases n <;> simp [forceI, forceN_eq]
theorem forceS_eq : ∀ (l : List Nat) (k : List Nat → R), forceS l k = k l
  | [], _ => rfl
  | a :: r, k => by simp [forceS, forceN_eq, forceS_eq r]
theorem forceL_eq {α : Type} : ∀ (l : List α) (k : List α → R), forceL l k = k l
  | [], _ => rfl
  | a :: r, k => by simp [forceL, forceL_eq r]
theorem forceB_eq (b : Bool) (k : Bool → R) : forceB b k = k b := by cases b <;> rfl
theorem forceO_eq (c : Option Nat) (k : Option Nat → R) : forceO c k = k c := by cases c <;> simp [forceO, forceN_eq]
theorem forceD_eq (d : D) (k : D → R) : forceD d k = k d := by cases d <;> simp [forceD, forceN_eq, forceI_eq, forceS_eq, forceL_eq, forceB_eq, forceO_eq]
theorem forceH_eq (d : D) (k : D → R) : forceH d k = k d := by cases d <;> simp [forceH, forceL_eq, forceB_eq]
theorem forceOb_eq (o : Option Obj) (k : Option Obj → R) : forceOb o k = k o := by
  cases o with
  | none => rfl
  | some o => cases o <;> simp [forceOb, forceL_eq]
end

/-- values that are copied alone -/
def IOp.copies : IOp → Bool
  | .mov _ | .pick .. | .ext .. | .nck _ | .cvs _ | .ld .. | .fld .. | .lkp .. | .ment .. => true
  | _ => false

abbrev Sp := Nat → List D → Hp → Option (D × Hp)

def Hp.put (h : Hp) (id : Nat) (o : Option Obj) : Hp := ⟨h.n, h.t.set (Nat.succ id) id o⟩
def Hp.puts (h : Hp) (ws : List (Nat × Option Obj)) : Hp := ws.foldl (fun h p => h.put p.1 p.2) h
def St.put (s : St) (d : Option Nat) (v : D) : St := match d with
  | some d => ⟨s.env.set d v, s.hp⟩
  | none => s

section
variable {R : Type}
def putK (s : St) (d : Option Nat) (v : D) (k : St → R) : R := match d with
  | some d => k ⟨s.env.set d v, s.hp⟩
  | none => k s
def putsK (n : Nat) (t : Tr Obj) (ws : List (Nat × Option Obj)) (k : Tr Obj → R) : R := match ws with
  | [] => k t
  | (id, o) :: r => forceN id fun id => forceOb o fun o => t.setK (Nat.succ id) id o fun t => putsK n t r k
theorem putK_eq (s : St) (d : Option Nat) (v : D) (k : St → R) : putK s d v k = k (s.put d v) := by
  cases d <;> simp [putK, St.put]
theorem putsK_eq (n : Nat) : ∀ (ws : List (Nat × Option Obj)) (t : Tr Obj) (k : Tr Obj → R), putsK n t ws k = k ((⟨n, t⟩ : Hp).puts ws).t
  | [], _, _ => rfl
  | (id, o) :: r, t, k => by simp [putsK, forceN_eq, forceOb_eq, Tr.setK_eq, putsK_eq n r, Hp.puts, Hp.put]

/-- which operations of a region come ahead of a call in no order, nor behind it: their objects are hidden from it -/
def hide (n0 : Nat) (mk : List Nat) (h : Hp) : Hp := h.puts (mk.map fun i => (n0 + i, none))
def back (n0 : Nat) (mk : List Nat) (h h' : Hp) : Hp := h'.puts (mk.map fun i => (n0 + i, h.t.get (n0 + i)))

def IOp.isCall : IOp → Bool
  | .call .. => true
  | .dcall .. => true
  | _ => false
/-- a call; mk: what is hidden from it -/
def stepC (Γ : Sp) (n0 : Nat) (mk : List Nat) (x : GOp) (s : St) (k : St → Option R) : Option R := match x.o with
  | .call f args => match Γ f (args.map (·.ev s.fs.E)) (hide n0 mk s.hp) with
    | some (v, hp) => putK ⟨s.env, back n0 mk s.hp hp⟩ x.d v k
    | none => none
  | .dcall y args => match y.ev s.fs.E with
    | .fn f cs => match Γ f (args.map (·.ev s.fs.E) ++ cs) (hide n0 mk s.hp) with
      | some (v, hp) => putK ⟨s.env, back n0 mk s.hp hp⟩ x.d v k
      | none => none
    | _ => none
  | _ => none
def stepE (n : Nat) (x : GOp) (s : St) (k : St → Option R) : Option (D × List (Nat × Option Obj)) → Option R
  | some (v, ws) => cond x.o.copies
      (forceH v fun v => putsK n s.hp.t ws fun t => forceN n fun n => putK ⟨s.env, ⟨n, t⟩⟩ x.d v k)
      (forceD v fun v => putsK n s.hp.t ws fun t => forceN n fun n => putK ⟨s.env, ⟨n, t⟩⟩ x.d v k)
  | none => none
/-- one operation; at: a new object's number; n: how many numbers are given then -/
def step (Γ : Sp) (at_ n n0 : Nat) (mk : List Nat) (x : GOp) (s : St) (k : St → Option R) : Option R :=
  cond x.o.isCall (stepC Γ n0 mk x s k) (stepE n x s k (effK x.o at_ s.fs.E s.fs.H))

/-- an operation behind its guard -/
def gstep (Γ : Sp) (at_ n n0 : Nat) (mk : List Nat) (x : GOp) (s : St) (k : St → Option R) : Option R := match x.g with
  | none => step Γ at_ n n0 mk x s k
  | some (g, w) => match s.fs.E g with
    | .bool b => cond (b == w) (step Γ at_ n n0 mk x s k) (putK s x.d (.tup []) k)
    | .tup [] => putK s x.d (.tup []) k
    | _ => none

def runOps (Γ : Sp) : List GOp → (St → Option R) → St → Option R
  | [], K, s => K s
  | x :: r, K, s => gstep Γ s.hp.n (cond x.o.makes (Nat.succ s.hp.n) s.hp.n) 0 [] x s (runOps Γ r K)
end

inductive IR where
  | skip
  | reg (ops : List GOp)
  | drw (ops : List GOp) (pre : List (List Nat))
  | seq (a b : IR)
  | cond (c : ASrc) (a b : IR)
  | block (id : Nat) (a : IR)
  | loop (a : IR)
  | exit (id : Nat)
  | ret
inductive Ex where
  | normal
  | exit (id : Nat)
  | ret

/-- where a result lies -/
inductive RV where
  | t (n : Nat)
  | cell (n size : Nat) (agg : Bool)
def RV.ev (E : Nat → D) (H : Nat → Option Obj) : RV → Option D
  | .t n => some (E n)
  | .cell n size agg => match E n with
    | .ptr id o => match cells? H id with
      | some (_, _, cs) => chk (Nat.ble (o + size) cs.length) (some (loaded agg ((cs.drop o).take size)))
      | none => none
    | _ => none
def rvs (E : Nat → D) (H : Nat → Option Obj) : List RV → Option (List D)
  | [] => some []
  | r :: l => match r.ev E H, rvs E H l with | some v, some vs => some (v :: vs) | _, _ => none
def resultOf (E : Nat → D) (H : Nat → Option Obj) (rs : List RV) : Option D := match rvs E H rs with
  | some [v] => some v
  | some vs => some (.tup vs)
  | none => none
structure FnI where
  nt : Nat
  rs : List RV
  body : IR
end Go.DM
