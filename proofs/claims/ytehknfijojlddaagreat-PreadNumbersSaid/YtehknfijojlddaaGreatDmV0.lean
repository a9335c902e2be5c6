/-
  A machine for closed runs: values, objects, operations, runs. All data is by reference, as the model has it; what the model leaves open (how much room an append makes) is left open here too.
-/
import GoSem.Core.Code
import GoSem.Op.String
import GoSem.Core.Utf8
namespace Go.DM
set_option autoImplicit false
set_option linter.unusedVariables false

/-- a row of values by number -/
inductive Tr (α : Type) where
  | e
  | n (l : Tr α) (v : Option α) (r : Tr α)

namespace Tr
variable {α R : Type}
def get : Tr α → Nat → Option α
  | .e, _ => none
  | .n l v r, i => cond (Nat.beq i 0) v (cond (Nat.beq (Nat.mod i 2) 1) (l.get (Nat.div i 2)) (r.get (Nat.sub (Nat.div i 2) 1)))

def set : Nat → Tr α → Nat → Option α → Tr α
  | 0, t, _, _ => t
  | f + 1, .e, i, v => cond (Nat.beq i 0) (.n .e v .e) (cond (Nat.beq (Nat.mod i 2) 1) (.n (set f .e (Nat.div i 2) v) none .e) (.n .e none (set f .e (Nat.sub (Nat.div i 2) 1) v)))
  | f + 1, .n l x r, i, v => cond (Nat.beq i 0) (.n l v r) (cond (Nat.beq (Nat.mod i 2) 1) (.n (set f l (Nat.div i 2) v) x r) (.n l x (set f r (Nat.sub (Nat.div i 2) 1) v)))

/-- the same, at once -/
def setK : Nat → Tr α → Nat → Option α → (Tr α → R) → R
  | 0, t, _, _, k => k t
  | f + 1, .e, i, v, k => cond (Nat.beq i 0) (k (.n .e v .e)) (cond (Nat.beq (Nat.mod i 2) 1) (setK f .e (Nat.div i 2) v fun t => k (.n t none .e)) (setK f .e (Nat.sub (Nat.div i 2) 1) v fun t => k (.n .e none t)))
  | f + 1, .n l x r, i, v, k => cond (Nat.beq i 0) (k (.n l v r)) (cond (Nat.beq (Nat.mod i 2) 1) (setK f l (Nat.div i 2) v fun t => k (.n t x r)) (setK f r (Nat.sub (Nat.div i 2) 1) v fun t => k (.n l x t)))

theorem setK_eq : ∀ (f : Nat) (t : Tr α) (i : Nat) (v : Option α) (k : Tr α → R), setK f t i v k = k (set f t i v)
  | 0, _, _, _, _ => rfl
  | f + 1, .e, i, v, k => by
    simp only [setK, set]
    cases Nat.beq i 0 <;> cases Nat.beq (Nat.mod i 2) 1 <;> simp [setK_eq f]
  | f + 1, .n l x r, i, v, k => by
    simp only [setK, set]
    cases Nat.beq i 0 <;> cases Nat.beq (Nat.mod i 2) 1 <;> simp [setK_eq f]

theorem beq_iff (a b : Nat) : Nat.beq a b = decide (a = b) := by
  by_cases h : a = b
  · subst h; simp
  · simp only [h, decide_false]
    cases hb : Nat.beq a b with
    | true => exact absurd (Nat.eq_of_beq_eq_true hb) h
    | false => rfl

theorem get_set : ∀ (f : Nat) (t : Tr α) (i j : Nat) (v : Option α), i < f → (set f t i v).get j = if j = i then v else t.get j
  | 0, _, _, _, _, h => by omega
  | f + 1, t, i, j, v, h => by
    have key : ∀ (l r : Tr α) (x : Option α), (cond (Nat.beq i 0) (Tr.n l v r) (cond (Nat.beq (Nat.mod i 2) 1) (.n (set f l (Nat.div i 2) v) x r) (.n l x (set f r (Nat.sub (Nat.div i 2) 1) v)))).get j = if j = i then v else (Tr.n l x r).get j := by
      intro l r x
      by_cases hi : i = 0
      · subst hi
        by_cases hj : j = 0
        · subst hj; simp [get]
        · simp [get, hj, beq_iff]
      · have b1 : Nat.beq i 0 = false := by simp [beq_iff, hi]
        by_cases ho : i % 2 = 1
        · have b2 : Nat.beq (Nat.mod i 2) 1 = true := by rw [beq_iff]; exact decide_eq_true ho
          rw [b1, b2]
          simp only [cond_false, cond_true, get]
          by_cases hj : j = 0
          · subst hj; simp [beq_iff, Ne.symm hi]
          · have c1 : Nat.beq j 0 = false := by simp [beq_iff, hj]
            rw [c1]
            simp only [cond_false]
            by_cases hjo : j % 2 = 1
            · have c2 : Nat.beq (Nat.mod j 2) 1 = true := by rw [beq_iff]; exact decide_eq_true hjo
              rw [c2]
              simp only [cond_true]
              rw [get_set f l _ _ v (by show i / 2 < f; omega)]
              have : (Nat.div j 2 = Nat.div i 2) ↔ j = i := by show j / 2 = i / 2 ↔ j = i; omega
              simp only [this]
            · have c2 : Nat.beq (Nat.mod j 2) 1 = false := by rw [beq_iff]; exact decide_eq_false hjo
              rw [c2]
              have : j ≠ i := by rintro rfl; exact hjo ho
              simp [this]
        · have b2 : Nat.beq (Nat.mod i 2) 1 = false := by rw [beq_iff]; exact decide_eq_false ho
          rw [b1, b2]
          simp only [cond_false, get]
          by_cases hj : j = 0
          · subst hj; simp [beq_iff, Ne.symm hi]
          · have c1 : Nat.beq j 0 = false := by simp [beq_iff, hj]
            rw [c1]
            simp only [cond_false]
            by_cases hjo : j % 2 = 1
            · have c2 : Nat.beq (Nat.mod j 2) 1 = true := by rw [beq_iff]; exact decide_eq_true hjo
              rw [c2]
              have : j ≠ i := by rintro rfl; exact ho hjo
              simp [this]
            · have c2 : Nat.beq (Nat.mod j 2) 1 = false := by rw [beq_iff]; exact decide_eq_false hjo
              rw [c2]
              simp only [cond_false]
              rw [get_set f r _ _ v (by show i / 2 - 1 < f; omega)]
              have : (Nat.sub (Nat.div j 2) 1 = Nat.sub (Nat.div i 2) 1) ↔ j = i := by show j / 2 - 1 = i / 2 - 1 ↔ j = i; omega
              simp only [this]
    cases t with
    | e =>
      have := key .e .e none
      have e2 : ∀ q, (Tr.n (.e : Tr α) none .e).get q = none := by
        intro q
        simp only [get]
        cases Nat.beq q 0 <;> cases Nat.beq (Nat.mod q 2) 1 <;> rfl
      rw [e2] at this
      simpa [set, get] using this
    | n l x r => simpa only [set] using key l r x
end Tr

inductive D where
  | undef
  | bool (b : Bool)
  | int (k : IntKind) (n : Int)
  | str (s : List Nat)
  | nilp
  | ptr (id off : Nat)
  | nils
  | emp
  | sl (id off len sz : Nat) (cap : Option Nat)
  | agg (cs : List D)
  | tup (cs : List D)
  | fn (f : Nat) (cs : List D)
  | nilf
  | nilif
  | mp (id : Nat)
  | nilm
  | sym (k : IntKind) (i : Nat)
instance : Inhabited D := ⟨.undef⟩

/-- one cell's value -/
def D.one : D → Bool
  | .undef | .agg _ | .tup _ => false
  | _ => true
def D.cells : D → List D
  | .agg cs => cs
  | v => [v]
def loaded (agg : Bool) (cs : List D) : D := cond agg (.agg cs) (match cs with | c :: _ => c | [] => .undef)

/-- an object: a row of cells (of which type of element; are these all?), or a map -/
inductive Obj where
  | cells (e : Nat) (full : Bool) (cs : List D)
  | map (es : List (D × D))

structure Hp where
  n : Nat
  t : Tr Obj

/-- sixteen of a kind -/
structure E16 (α : Type) where
  a : α
  b : α
  c : α
  d : α
  e : α
  f : α
  g : α
  h : α
  i : α
  j : α
  k : α
  l : α
  m : α
  n : α
  o : α
  p : α
namespace E16
variable {α : Type}
def get (x : E16 α) : Nat → α
  | 0 => x.a
  | 1 => x.b
  | 2 => x.c
  | 3 => x.d
  | 4 => x.e
  | 5 => x.f
  | 6 => x.g
  | 7 => x.h
  | 8 => x.i
  | 9 => x.j
  | 10 => x.k
  | 11 => x.l
  | 12 => x.m
  | 13 => x.n
  | 14 => x.o
  | _ => x.p
def set (x : E16 α) (v : α) : Nat → E16 α
  | 0 => ⟨v, x.b, x.c, x.d, x.e, x.f, x.g, x.h, x.i, x.j, x.k, x.l, x.m, x.n, x.o, x.p⟩
  | 1 => ⟨x.a, v, x.c, x.d, x.e, x.f, x.g, x.h, x.i, x.j, x.k, x.l, x.m, x.n, x.o, x.p⟩
  | 2 => ⟨x.a, x.b, v, x.d, x.e, x.f, x.g, x.h, x.i, x.j, x.k, x.l, x.m, x.n, x.o, x.p⟩
  | 3 => ⟨x.a, x.b, x.c, v, x.e, x.f, x.g, x.h, x.i, x.j, x.k, x.l, x.m, x.n, x.o, x.p⟩
  | 4 => ⟨x.a, x.b, x.c, x.d, v, x.f, x.g, x.h, x.i, x.j, x.k, x.l, x.m, x.n, x.o, x.p⟩
  | 5 => ⟨x.a, x.b, x.c, x.d, x.e, v, x.g, x.h, x.i, x.j, x.k, x.l, x.m, x.n, x.o, x.p⟩
  | 6 => ⟨x.a, x.b, x.c, x.d, x.e, x.f, v, x.h, x.i, x.j, x.k, x.l, x.m, x.n, x.o, x.p⟩
  | 7 => ⟨x.a, x.b, x.c, x.d, x.e, x.f, x.g, v, x.i, x.j, x.k, x.l, x.m, x.n, x.o, x.p⟩
  | 8 => ⟨x.a, x.b, x.c, x.d, x.e, x.f, x.g, x.h, v, x.j, x.k, x.l, x.m, x.n, x.o, x.p⟩
  | 9 => ⟨x.a, x.b, x.c, x.d, x.e, x.f, x.g, x.h, x.i, v, x.k, x.l, x.m, x.n, x.o, x.p⟩
  | 10 => ⟨x.a, x.b, x.c, x.d, x.e, x.f, x.g, x.h, x.i, x.j, v, x.l, x.m, x.n, x.o, x.p⟩
  | 11 => ⟨x.a, x.b, x.c, x.d, x.e, x.f, x.g, x.h, x.i, x.j, x.k, v, x.m, x.n, x.o, x.p⟩
  | 12 => ⟨x.a, x.b, x.c, x.d, x.e, x.f, x.g, x.h, x.i, x.j, x.k, x.l, v, x.n, x.o, x.p⟩
  | 13 => ⟨x.a, x.b, x.c, x.d, x.e, x.f, x.g, x.h, x.i, x.j, x.k, x.l, x.m, v, x.o, x.p⟩
  | 14 => ⟨x.a, x.b, x.c, x.d, x.e, x.f, x.g, x.h, x.i, x.j, x.k, x.l, x.m, x.n, v, x.p⟩
  | _ => ⟨x.a, x.b, x.c, x.d, x.e, x.f, x.g, x.h, x.i, x.j, x.k, x.l, x.m, x.n, x.o, v⟩
theorem get_set (x : E16 α) (v : α) (y z : Nat) (hy : y < 16) (hz : z < 16) : (x.set v y).get z = if z = y then v else x.get z := by
  match y, hy, z, hz with
  | 0, _, z, hz | 1, _, z, hz | 2, _, z, hz | 3, _, z, hz | 4, _, z, hz | 5, _, z, hz | 6, _, z, hz | 7, _, z, hz | 8, _, z, hz | 9, _, z, hz | 10, _, z, hz | 11, _, z, hz | 12, _, z, hz | 13, _, z, hz | 14, _, z, hz | 15, _, z, hz =>
    match z, hz with
    | 0, _ | 1, _ | 2, _ | 3, _ | 4, _ | 5, _ | 6, _ | 7, _ | 8, _ | 9, _ | 10, _ | 11, _ | 12, _ | 13, _ | 14, _ | 15, _ => rfl
    | z + 16, hz => exact absurd hz (by omega)
  | y + 16, hy, z, hz => exact absurd hy (by omega)
end E16
/-- slots: the first 256, the others -/
structure Env where
  lo : E16 (E16 D)
  hi : Tr D
def Env.get (e : Env) (n : Nat) : D := cond (Nat.blt n 256) ((e.lo.get (Nat.div n 16)).get (Nat.mod n 16)) ((e.hi.get n).getD .undef)
def Env.set (e : Env) (n : Nat) (v : D) : Env := cond (Nat.blt n 256)
  ⟨e.lo.set ((e.lo.get (Nat.div n 16)).set v (Nat.mod n 16)) (Nat.div n 16), e.hi⟩
  ⟨e.lo, e.hi.set (Nat.succ n) n (some v)⟩
theorem Env.get_set (e : Env) (n m : Nat) (v : D) : (e.set n v).get m = if m = n then v else e.get m := by
  have b : ∀ x : Nat, Nat.blt x 256 = decide (x < 256) := fun x => by
    rw [Bool.eq_iff_iff]; simp [Nat.blt_eq]
  unfold Env.get Env.set
  rw [b n, b m]
  by_cases hn : n < 256
  · simp only [hn, decide_true, cond_true]
    by_cases hm : m < 256
    · simp only [hm, decide_true, cond_true]
      have k1 : Nat.div n 16 < 16 := by show n / 16 < 16; omega
      have k2 : Nat.div m 16 < 16 := by show m / 16 < 16; omega
      have k5 : Nat.mod n 16 < 16 := Nat.mod_lt _ (by omega)
      have k6 : Nat.mod m 16 < 16 := Nat.mod_lt _ (by omega)
      rw [E16.get_set _ _ _ _ k1 k2]
      by_cases h1 : Nat.div m 16 = Nat.div n 16
      · rw [if_pos h1, E16.get_set _ _ _ _ k5 k6]
        by_cases h3 : Nat.mod m 16 = Nat.mod n 16
        · have : m = n := by
            have h1' : m / 16 = n / 16 := h1
            have h3' : m % 16 = n % 16 := h3
            omega
          rw [if_pos h3, if_pos this]
        · rw [if_neg h3, if_neg (by rintro rfl; exact h3 rfl), h1]
      · rw [if_neg h1, if_neg (by rintro rfl; exact h1 rfl)]
    · simp only [hm, decide_false, cond_false]
      rw [if_neg (by omega)]
  · simp only [hn, decide_false, cond_false]
    by_cases hm : m < 256
    · simp only [hm, decide_true, cond_true]
      rw [if_neg (by omega)]
    · simp only [hm, decide_false, cond_false]
      rw [Tr.get_set _ _ _ _ _ (Nat.lt_succ_self _)]
      by_cases h : m = n <;> simp [h]
structure St where
  env : Env
  hp : Hp

/-- slots and objects, as functions -/
structure FS where
  E : Nat → D
  H : Nat → Option Obj
  n : Nat
def St.fs (s : St) : FS := ⟨s.env.get, s.hp.t.get, s.hp.n⟩
def cells? (H : Nat → Option Obj) (id : Nat) : Option (Nat × Bool × List D) := match H id with | some (.cells e f cs) => some (e, f, cs) | _ => none
def map? (H : Nat → Option Obj) (id : Nat) : Option (List (D × D)) := match H id with | some (.map es) => some es | _ => none

inductive ASrc where
  | t (n : Nat)
  | c (v : D)
def ASrc.ev (E : Nat → D) : ASrc → D
  | .t n => E n
  | .c v => v

inductive IOp where
  | mov (x : ASrc)
  | pick (c a b : ASrc)
  | bin (o : BinOp) (x y : ASrc)
  | un (o : UnOp) (x : ASrc)
  | cvi (k : IntKind) (x : ASrc)
  | cvs (x : ASrc)
  | s2b (e : Nat) (x : ASrc)
  | b2s (x : ASrc)
  | i2s (x : ASrc)
  | len (st : Bool) (x : ASrc)
  | idx (x i : ASrc)
  | ixa (sz : Nat) (x i : ASrc)
  | ixp (n sz : Nat) (x i : ASrc)
  | subs (x : ASrc) (lo hi : Option ASrc)
  | subl (sz : Nat) (x : ASrc) (lo hi : Option ASrc)
  | bsl (e sz : Nat) (parts : List ASrc)
  | bld (zero : List D) (parts : List (Nat × Nat × ASrc))
  | fld (off n : Nat) (agg : Bool) (x : ASrc)
  | new (e : Nat) (zero : List D)
  | box (e : Nat) (x : ASrc)
  | fad (off : Nat) (x : ASrc)
  | ld (n : Nat) (agg : Bool) (x : ASrc)
  | st (n : Nat) (x v : ASrc)
  | app (e sz by_ : Nat) (x y : ASrc)
  | apt (e by_ : Nat) (x y : ASrc)
  | mks (e sz by_ : Nat) (zero : List D) (x : ASrc)
  | ext (i : Nat) (x : ASrc)
  | nck (x : ASrc)
  | mx (mn : Bool) (x y : ASrc)
  | mkf (f : Nat) (caps : List ASrc)
  | mkm
  | lkp (kk n : Nat) (zero : List D) (agg ok : Bool) (x k : ASrc)
  | mup (kk n : Nat) (m k v : ASrc)
  | ment (kk n : Nat) (zero : List D) (agg : Bool) (m k : ASrc)
  | mest (m i v : ASrc)
  | eq (kk : Nat) (neg : Bool) (x y : ASrc)
  | call (f : Nat) (args : List ASrc)
  | dcall (x : ASrc) (args : List ASrc)

structure GOp where
  d : Option Nat
  g : Option (Nat × Bool)
  o : IOp

def bitsI (o : BinOp) (k : IntKind) (a b : Int) : Int :=
  match o with
  | .and => k.wrap (BitVec.ofInt k.bits a &&& BitVec.ofInt k.bits b).toNat
  | .or => k.wrap (BitVec.ofInt k.bits a ||| BitVec.ofInt k.bits b).toNat
  | .xor => k.wrap (BitVec.ofInt k.bits a ^^^ BitVec.ofInt k.bits b).toNat
  | _ => k.wrap (BitVec.ofInt k.bits a &&& ~~~BitVec.ofInt k.bits b).toNat
def shlI (k : IntKind) (a b : Int) : Int := k.wrap (a * 2 ^ (min b.toNat k.bits))
def shrI (k : IntKind) (a b : Int) : Int := a.fdiv (2 ^ (min b.toNat k.bits))
def maxI : Nat := 9223372036854775807
def reach : Nat := 140737488355328
def utf8 (n : Int) : List Nat := (Utf8.encode n).data.toList.map (·.toNat)

def ltI (a b : Int) : Bool := match a, b with
  | .ofNat a, .ofNat b => Nat.blt a b
  | .negSucc _, .ofNat _ => true
  | .ofNat _, .negSucc _ => false
  | .negSucc a, .negSucc b => Nat.blt b a
def eqI (a b : Int) : Bool := match a, b with
  | .ofNat a, .ofNat b => Nat.beq a b
  | .negSucc a, .negSucc b => Nat.beq a b
  | _, _ => false
def eqL : List Nat → List Nat → Bool
  | [], [] => true
  | a :: x, b :: y => cond (Nat.beq a b) (eqL x y) false
  | _, _ => false
def ltL : List Nat → List Nat → Bool
  | [], _ :: _ => true
  | a :: x, b :: y => cond (Nat.blt a b) true (cond (Nat.beq a b) (ltL x y) false)
  | _, [] => false
def lenL {α : Type} : List α → Nat → Nat
  | [], n => n
  | _ :: r, n => lenL r (Nat.succ n)

def chk {R : Type} (c : Bool) (x : Option R) : Option R := cond c x none

def binInt (o : BinOp) (k : IntKind) (a b : Int) : Option D :=
  match o with
  | .add => some (.int k (k.wrap (a + b)))
  | .sub => some (.int k (k.wrap (a - b)))
  | .mul => some (.int k (k.wrap (a * b)))
  | .quo => chk (!eqI b 0) (some (.int k (k.wrap (a.tdiv b))))
  | .rem => chk (!eqI b 0) (some (.int k (a.tmod b)))
  | .and => some (.int k (bitsI .and k a b))
  | .or => some (.int k (bitsI .or k a b))
  | .xor => some (.int k (bitsI .xor k a b))
  | .andNot => some (.int k (bitsI .andNot k a b))
  | .eql => some (.bool (eqI a b))
  | .neq => some (.bool (!eqI a b))
  | .lss => some (.bool (ltI a b))
  | .leq => some (.bool (!ltI b a))
  | .gtr => some (.bool (ltI b a))
  | .geq => some (.bool (!ltI a b))
  | _ => none
def binStr (o : BinOp) (a b : List Nat) : Option D :=
  match o with
  | .add => chk (Nat.ble (lenL a 0 + lenL b 0) maxI) (some (.str (a ++ b)))
  | .eql => some (.bool (eqL a b))
  | .neq => some (.bool (!eqL a b))
  | .lss => some (.bool (ltL a b))
  | .leq => some (.bool (!ltL b a))
  | .gtr => some (.bool (ltL b a))
  | .geq => some (.bool (!ltL a b))
  | _ => none
def sameK (a b : IntKind) : Bool := match a, b with
  | .i8, .i8 | .i16, .i16 | .i32, .i32 | .i64, .i64 | .u8, .u8 | .u16, .u16 | .u32, .u32 | .u64, .u64 => true
  | _, _ => false
def binV (o : BinOp) (x y : D) : Option D :=
  match x, y with
  | .int k a, .int k' b =>
    match o with
    | .shl => chk (!ltI b 0) (some (.int k (shlI k a b)))
    | .shr => chk (!ltI b 0) (some (.int k (shrI k a b)))
    | o => chk (sameK k k') (binInt o k a b)
  | .str a, .str b => binStr o a b
  | _, _ => none
def unV (o : UnOp) (x : D) : Option D :=
  match o, x with
  | .not, .bool b => some (.bool (!b))
  | .neg, .int k n => some (.int k (k.wrap (0 - n)))
  | .xor, .int k n => some (.int k (bitsI .xor k (if k.signed then -1 else k.max) n))
  | _, _ => none

/-- numbers that are not known: what an operation on them gives stands in rows -/
inductive SOp where
  | b (o : BinOp)
  | u (o : UnOp)
  | c (k : IntKind)
structure SRow where
  o : SOp
  x : D
  y : D
  r : D
def eqSO : SOp → SOp → Bool
  | .b o, .b o' => decide (o = o')
  | .u o, .u o' => decide (o = o')
  | .c k, .c k' => sameK k k'
  | _, _ => false
def eqS : D → D → Bool
  | .sym k i, .sym k' j => sameK k k' && Nat.beq i j
  | .int k a, .int k' b => sameK k k' && eqI a b
  | .undef, .undef => true
  | _, _ => false
def symL (o : SOp) (x y : D) : List SRow → Option D
  | [] => none
  | r :: l => cond (eqS r.x x && (eqS r.y y && eqSO r.o o)) (some r.r) (symL o x y l)
def conc (σ : Nat → Int) : D → D
  | .sym k i => .int k (σ i)
  | v => v
def SOp.ev : SOp → D → D → Option D
  | .b o, x, y => binV o x y
  | .u o, x, _ => unV o x
  | .c k, x, _ => match x with | .int _ n => some (.int k (k.wrap n)) | _ => none
def SRow.ok (σ : Nat → Int) (r : SRow) : Prop := r.o.ev (conc σ r.x) (conc σ r.y) = some (conc σ r.r)
def orS (a b : Option D) : Option D := match a with | some v => some v | none => b
end Go.DM
