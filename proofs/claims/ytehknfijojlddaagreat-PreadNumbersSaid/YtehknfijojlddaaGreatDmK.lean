/-
  The machine's operations once more, as functions laid out for the kernel: each with the operation that it is and the proof that it does the same.
-/
import Derived.Test.YtehknfijojlddaaGreatDmFin
namespace Go.DM
set_option autoImplicit false
set_option linter.unusedSimpArgs false
set_option linter.unusedVariables false

abbrev Res := Option (D × Hp)
abbrev KK := Env → Nat → Tr Obj → Res
abbrev up (K : KK) : St → Res := fun s => K s.env s.hp.n s.hp.t
abbrev Gt := Env → (D → Res) → Res
abbrev Pt := D → Env → (Env → Res) → Res
/-- a slot that is written to -/
structure Slot where
  n : Nat
  set : Pt
  ok : ∀ v e k, set v e k = k (e.set n v)
/-- what is read -/
structure KSrc where
  s : ASrc
  ev : Gt
  ok : ∀ e k, ev e k = k (s.ev e.get)
noncomputable def cst (v : D) : Gt := fun _ k => k v
noncomputable def envS : Env → (E16 (E16 D) → (E16 D → D → (E16 D → Res) → Res) → D → (E16 (E16 D) → Res) → Res) → (E16 D → D → (E16 D → Res) → Res) → D → (Env → Res) → Res := @Env.rec (fun _ => (E16 (E16 D) → (E16 D → D → (E16 D → Res) → Res) → D → (E16 (E16 D) → Res) → Res) → (E16 D → D → (E16 D → Res) → Res) → D → (Env → Res) → Res) (fun lo hi W w v K => W lo w v fun lo => K ⟨lo, hi⟩)
noncomputable def kc (v : D) : KSrc := ⟨.c v, cst v, fun _ _ => rfl⟩

noncomputable def W1_a : E16 D → D → (E16 D → Res) → Res := @E16.rec D (fun _ => D → (E16 D → Res) → Res) (fun a b c d e f g h i j k l m n o p v K => K ⟨v, b, c, d, e, f, g, h, i, j, k, l, m, n, o, p⟩)
noncomputable def W2_a : E16 (E16 D) → (E16 D → D → (E16 D → Res) → Res) → D → (E16 (E16 D) → Res) → Res := @E16.rec (E16 D) (fun _ => (E16 D → D → (E16 D → Res) → Res) → D → (E16 (E16 D) → Res) → Res) (fun a b c d e f g h i j k l m n o p w v K => w a v fun x => K ⟨x, b, c, d, e, f, g, h, i, j, k, l, m, n, o, p⟩)
noncomputable def W1_b : E16 D → D → (E16 D → Res) → Res := @E16.rec D (fun _ => D → (E16 D → Res) → Res) (fun a b c d e f g h i j k l m n o p v K => K ⟨a, v, c, d, e, f, g, h, i, j, k, l, m, n, o, p⟩)
noncomputable def W2_b : E16 (E16 D) → (E16 D → D → (E16 D → Res) → Res) → D → (E16 (E16 D) → Res) → Res := @E16.rec (E16 D) (fun _ => (E16 D → D → (E16 D → Res) → Res) → D → (E16 (E16 D) → Res) → Res) (fun a b c d e f g h i j k l m n o p w v K => w b v fun x => K ⟨a, x, c, d, e, f, g, h, i, j, k, l, m, n, o, p⟩)
noncomputable def W1_c : E16 D → D → (E16 D → Res) → Res := @E16.rec D (fun _ => D → (E16 D → Res) → Res) (fun a b c d e f g h i j k l m n o p v K => K ⟨a, b, v, d, e, f, g, h, i, j, k, l, m, n, o, p⟩)
noncomputable def W2_c : E16 (E16 D) → (E16 D → D → (E16 D → Res) → Res) → D → (E16 (E16 D) → Res) → Res := @E16.rec (E16 D) (fun _ => (E16 D → D → (E16 D → Res) → Res) → D → (E16 (E16 D) → Res) → Res) (fun a b c d e f g h i j k l m n o p w v K => w c v fun x => K ⟨a, b, x, d, e, f, g, h, i, j, k, l, m, n, o, p⟩)
noncomputable def W1_d : E16 D → D → (E16 D → Res) → Res := @E16.rec D (fun _ => D → (E16 D → Res) → Res) (fun a b c d e f g h i j k l m n o p v K => K ⟨a, b, c, v, e, f, g, h, i, j, k, l, m, n, o, p⟩)
noncomputable def W2_d : E16 (E16 D) → (E16 D → D → (E16 D → Res) → Res) → D → (E16 (E16 D) → Res) → Res := @E16.rec (E16 D) (fun _ => (E16 D → D → (E16 D → Res) → Res) → D → (E16 (E16 D) → Res) → Res) (fun a b c d e f g h i j k l m n o p w v K => w d v fun x => K ⟨a, b, c, x, e, f, g, h, i, j, k, l, m, n, o, p⟩)
noncomputable def W1_e : E16 D → D → (E16 D → Res) → Res := @E16.rec D (fun _ => D → (E16 D → Res) → Res) (fun a b c d e f g h i j k l m n o p v K => K ⟨a, b, c, d, v, f, g, h, i, j, k, l, m, n, o, p⟩)
noncomputable def W2_e : E16 (E16 D) → (E16 D → D → (E16 D → Res) → Res) → D → (E16 (E16 D) → Res) → Res := @E16.rec (E16 D) (fun _ => (E16 D → D → (E16 D → Res) → Res) → D → (E16 (E16 D) → Res) → Res) (fun a b c d e f g h i j k l m n o p w v K => w e v fun x => K ⟨a, b, c, d, x, f, g, h, i, j, k, l, m, n, o, p⟩)
noncomputable def W1_f : E16 D → D → (E16 D → Res) → Res := @E16.rec D (fun _ => D → (E16 D → Res) → Res) (fun a b c d e f g h i j k l m n o p v K => K ⟨a, b, c, d, e, v, g, h, i, j, k, l, m, n, o, p⟩)
noncomputable def W2_f : E16 (E16 D) → (E16 D → D → (E16 D → Res) → Res) → D → (E16 (E16 D) → Res) → Res := @E16.rec (E16 D) (fun _ => (E16 D → D → (E16 D → Res) → Res) → D → (E16 (E16 D) → Res) → Res) (fun a b c d e f g h i j k l m n o p w v K => w f v fun x => K ⟨a, b, c, d, e, x, g, h, i, j, k, l, m, n, o, p⟩)
noncomputable def W1_g : E16 D → D → (E16 D → Res) → Res := @E16.rec D (fun _ => D → (E16 D → Res) → Res) (fun a b c d e f g h i j k l m n o p v K => K ⟨a, b, c, d, e, f, v, h, i, j, k, l, m, n, o, p⟩)
noncomputable def W2_g : E16 (E16 D) → (E16 D → D → (E16 D → Res) → Res) → D → (E16 (E16 D) → Res) → Res := @E16.rec (E16 D) (fun _ => (E16 D → D → (E16 D → Res) → Res) → D → (E16 (E16 D) → Res) → Res) (fun a b c d e f g h i j k l m n o p w v K => w g v fun x => K ⟨a, b, c, d, e, f, x, h, i, j, k, l, m, n, o, p⟩)
noncomputable def W1_h : E16 D → D → (E16 D → Res) → Res := @E16.rec D (fun _ => D → (E16 D → Res) → Res) (fun a b c d e f g h i j k l m n o p v K => K ⟨a, b, c, d, e, f, g, v, i, j, k, l, m, n, o, p⟩)
noncomputable def W2_h : E16 (E16 D) → (E16 D → D → (E16 D → Res) → Res) → D → (E16 (E16 D) → Res) → Res := @E16.rec (E16 D) (fun _ => (E16 D → D → (E16 D → Res) → Res) → D → (E16 (E16 D) → Res) → Res) (fun a b c d e f g h i j k l m n o p w v K => w h v fun x => K ⟨a, b, c, d, e, f, g, x, i, j, k, l, m, n, o, p⟩)
noncomputable def W1_i : E16 D → D → (E16 D → Res) → Res := @E16.rec D (fun _ => D → (E16 D → Res) → Res) (fun a b c d e f g h i j k l m n o p v K => K ⟨a, b, c, d, e, f, g, h, v, j, k, l, m, n, o, p⟩)
noncomputable def W2_i : E16 (E16 D) → (E16 D → D → (E16 D → Res) → Res) → D → (E16 (E16 D) → Res) → Res := @E16.rec (E16 D) (fun _ => (E16 D → D → (E16 D → Res) → Res) → D → (E16 (E16 D) → Res) → Res) (fun a b c d e f g h i j k l m n o p w v K => w i v fun x => K ⟨a, b, c, d, e, f, g, h, x, j, k, l, m, n, o, p⟩)
noncomputable def W1_j : E16 D → D → (E16 D → Res) → Res := @E16.rec D (fun _ => D → (E16 D → Res) → Res) (fun a b c d e f g h i j k l m n o p v K => K ⟨a, b, c, d, e, f, g, h, i, v, k, l, m, n, o, p⟩)
noncomputable def W2_j : E16 (E16 D) → (E16 D → D → (E16 D → Res) → Res) → D → (E16 (E16 D) → Res) → Res := @E16.rec (E16 D) (fun _ => (E16 D → D → (E16 D → Res) → Res) → D → (E16 (E16 D) → Res) → Res) (fun a b c d e f g h i j k l m n o p w v K => w j v fun x => K ⟨a, b, c, d, e, f, g, h, i, x, k, l, m, n, o, p⟩)
noncomputable def W1_k : E16 D → D → (E16 D → Res) → Res := @E16.rec D (fun _ => D → (E16 D → Res) → Res) (fun a b c d e f g h i j k l m n o p v K => K ⟨a, b, c, d, e, f, g, h, i, j, v, l, m, n, o, p⟩)
noncomputable def W2_k : E16 (E16 D) → (E16 D → D → (E16 D → Res) → Res) → D → (E16 (E16 D) → Res) → Res := @E16.rec (E16 D) (fun _ => (E16 D → D → (E16 D → Res) → Res) → D → (E16 (E16 D) → Res) → Res) (fun a b c d e f g h i j k l m n o p w v K => w k v fun x => K ⟨a, b, c, d, e, f, g, h, i, j, x, l, m, n, o, p⟩)
noncomputable def W1_l : E16 D → D → (E16 D → Res) → Res := @E16.rec D (fun _ => D → (E16 D → Res) → Res) (fun a b c d e f g h i j k l m n o p v K => K ⟨a, b, c, d, e, f, g, h, i, j, k, v, m, n, o, p⟩)
noncomputable def W2_l : E16 (E16 D) → (E16 D → D → (E16 D → Res) → Res) → D → (E16 (E16 D) → Res) → Res := @E16.rec (E16 D) (fun _ => (E16 D → D → (E16 D → Res) → Res) → D → (E16 (E16 D) → Res) → Res) (fun a b c d e f g h i j k l m n o p w v K => w l v fun x => K ⟨a, b, c, d, e, f, g, h, i, j, k, x, m, n, o, p⟩)
noncomputable def W1_m : E16 D → D → (E16 D → Res) → Res := @E16.rec D (fun _ => D → (E16 D → Res) → Res) (fun a b c d e f g h i j k l m n o p v K => K ⟨a, b, c, d, e, f, g, h, i, j, k, l, v, n, o, p⟩)
noncomputable def W2_m : E16 (E16 D) → (E16 D → D → (E16 D → Res) → Res) → D → (E16 (E16 D) → Res) → Res := @E16.rec (E16 D) (fun _ => (E16 D → D → (E16 D → Res) → Res) → D → (E16 (E16 D) → Res) → Res) (fun a b c d e f g h i j k l m n o p w v K => w m v fun x => K ⟨a, b, c, d, e, f, g, h, i, j, k, l, x, n, o, p⟩)
noncomputable def W1_n : E16 D → D → (E16 D → Res) → Res := @E16.rec D (fun _ => D → (E16 D → Res) → Res) (fun a b c d e f g h i j k l m n o p v K => K ⟨a, b, c, d, e, f, g, h, i, j, k, l, m, v, o, p⟩)
noncomputable def W2_n : E16 (E16 D) → (E16 D → D → (E16 D → Res) → Res) → D → (E16 (E16 D) → Res) → Res := @E16.rec (E16 D) (fun _ => (E16 D → D → (E16 D → Res) → Res) → D → (E16 (E16 D) → Res) → Res) (fun a b c d e f g h i j k l m n o p w v K => w n v fun x => K ⟨a, b, c, d, e, f, g, h, i, j, k, l, m, x, o, p⟩)
noncomputable def W1_o : E16 D → D → (E16 D → Res) → Res := @E16.rec D (fun _ => D → (E16 D → Res) → Res) (fun a b c d e f g h i j k l m n o p v K => K ⟨a, b, c, d, e, f, g, h, i, j, k, l, m, n, v, p⟩)
noncomputable def W2_o : E16 (E16 D) → (E16 D → D → (E16 D → Res) → Res) → D → (E16 (E16 D) → Res) → Res := @E16.rec (E16 D) (fun _ => (E16 D → D → (E16 D → Res) → Res) → D → (E16 (E16 D) → Res) → Res) (fun a b c d e f g h i j k l m n o p w v K => w o v fun x => K ⟨a, b, c, d, e, f, g, h, i, j, k, l, m, n, x, p⟩)
noncomputable def W1_p : E16 D → D → (E16 D → Res) → Res := @E16.rec D (fun _ => D → (E16 D → Res) → Res) (fun a b c d e f g h i j k l m n o p v K => K ⟨a, b, c, d, e, f, g, h, i, j, k, l, m, n, o, v⟩)
noncomputable def W2_p : E16 (E16 D) → (E16 D → D → (E16 D → Res) → Res) → D → (E16 (E16 D) → Res) → Res := @E16.rec (E16 D) (fun _ => (E16 D → D → (E16 D → Res) → Res) → D → (E16 (E16 D) → Res) → Res) (fun a b c d e f g h i j k l m n o p w v K => w p v fun x => K ⟨a, b, c, d, e, f, g, h, i, j, k, l, m, n, o, x⟩)
section

noncomputable def dInt : D → Res → (IntKind → Int → Res) → Res := @D.rec (fun _ => Res → (IntKind → Int → Res) → Res) (fun _ => Unit) (fun o _ => o) (fun _ o _ => o) (fun t n _ k => k t n) (fun _ o _ => o) (fun o _ => o) (fun _ _ o _ => o) (fun o _ => o) (fun o _ => o) (fun _ _ _ _ _ o _ => o) (fun _ _ o _ => o) (fun _ _ o _ => o) (fun _ _ _ o _ => o) (fun o _ => o) (fun o _ => o) (fun _ o _ => o) (fun o _ => o) (fun _ _ => (fun o _ => o)) () (fun _ _ _ _ => ())
noncomputable def dBool : D → Res → (Bool → Res) → Res := @D.rec (fun _ => Res → (Bool → Res) → Res) (fun _ => Unit) (fun o _ => o) (fun b _ k => k b) (fun _ _ o _ => o) (fun _ o _ => o) (fun o _ => o) (fun _ _ o _ => o) (fun o _ => o) (fun o _ => o) (fun _ _ _ _ _ o _ => o) (fun _ _ o _ => o) (fun _ _ o _ => o) (fun _ _ _ o _ => o) (fun o _ => o) (fun o _ => o) (fun _ o _ => o) (fun o _ => o) (fun _ _ => (fun o _ => o)) () (fun _ _ _ _ => ())
noncomputable def dStr : D → Res → (List Nat → Res) → Res := @D.rec (fun _ => Res → (List Nat → Res) → Res) (fun _ => Unit) (fun o _ => o) (fun _ o _ => o) (fun _ _ o _ => o) (fun b _ k => k b) (fun o _ => o) (fun _ _ o _ => o) (fun o _ => o) (fun o _ => o) (fun _ _ _ _ _ o _ => o) (fun _ _ o _ => o) (fun _ _ o _ => o) (fun _ _ _ o _ => o) (fun o _ => o) (fun o _ => o) (fun _ o _ => o) (fun o _ => o) (fun _ _ => (fun o _ => o)) () (fun _ _ _ _ => ())
noncomputable def dPtr : D → Res → (Nat → Nat → Res) → Res := @D.rec (fun _ => Res → (Nat → Nat → Res) → Res) (fun _ => Unit) (fun o _ => o) (fun _ o _ => o) (fun _ _ o _ => o) (fun _ o _ => o) (fun o _ => o) (fun a b _ k => k a b) (fun o _ => o) (fun o _ => o) (fun _ _ _ _ _ o _ => o) (fun _ _ o _ => o) (fun _ _ o _ => o) (fun _ _ _ o _ => o) (fun o _ => o) (fun o _ => o) (fun _ o _ => o) (fun o _ => o) (fun _ _ => (fun o _ => o)) () (fun _ _ _ _ => ())
noncomputable def dSl : D → Res → (Nat → Nat → Nat → Nat → Option Nat → Res) → Res := @D.rec (fun _ => Res → (Nat → Nat → Nat → Nat → Option Nat → Res) → Res) (fun _ => Unit) (fun o _ => o) (fun _ o _ => o) (fun _ _ o _ => o) (fun _ o _ => o) (fun o _ => o) (fun _ _ o _ => o) (fun o _ => o) (fun o _ => o) (fun a b c d e _ k => k a b c d e) (fun _ _ o _ => o) (fun _ _ o _ => o) (fun _ _ _ o _ => o) (fun o _ => o) (fun o _ => o) (fun _ o _ => o) (fun o _ => o) (fun _ _ => (fun o _ => o)) () (fun _ _ _ _ => ())
noncomputable def dTup : D → Res → (List D → Res) → Res := @D.rec (fun _ => Res → (List D → Res) → Res) (fun _ => Unit) (fun o _ => o) (fun _ o _ => o) (fun _ _ o _ => o) (fun _ o _ => o) (fun o _ => o) (fun _ _ o _ => o) (fun o _ => o) (fun o _ => o) (fun _ _ _ _ _ o _ => o) (fun _ _ o _ => o) (fun l _ _ k => k l) (fun _ _ _ o _ => o) (fun o _ => o) (fun o _ => o) (fun _ o _ => o) (fun o _ => o) (fun _ _ => (fun o _ => o)) () (fun _ _ _ _ => ())
noncomputable def dAgg : D → Res → (List D → Res) → Res := @D.rec (fun _ => Res → (List D → Res) → Res) (fun _ => Unit) (fun o _ => o) (fun _ o _ => o) (fun _ _ o _ => o) (fun _ o _ => o) (fun o _ => o) (fun _ _ o _ => o) (fun o _ => o) (fun o _ => o) (fun _ _ _ _ _ o _ => o) (fun l _ _ k => k l) (fun _ _ o _ => o) (fun _ _ _ o _ => o) (fun o _ => o) (fun o _ => o) (fun _ o _ => o) (fun o _ => o) (fun _ _ => (fun o _ => o)) () (fun _ _ _ _ => ())
noncomputable def dNil : D → Res → Res → Res := @D.rec (fun _ => Res → Res → Res) (fun _ => Unit) (fun o _ => o) (fun _ o _ => o) (fun _ _ o _ => o) (fun _ o _ => o) (fun o _ => o) (fun _ _ o _ => o) (fun _ k => k) (fun o _ => o) (fun _ _ _ _ _ o _ => o) (fun _ _ o _ => o) (fun _ _ o _ => o) (fun _ _ _ o _ => o) (fun o _ => o) (fun o _ => o) (fun _ o _ => o) (fun o _ => o) (fun _ _ => (fun o _ => o)) () (fun _ _ _ _ => ())
noncomputable def dSel : D → Res → Res → Res := @D.rec (fun _ => Res → Res → Res) (fun _ => Unit) (fun _ _ => none) (fun b x y => Bool.rec (motive := fun _ => Res) y x b) (fun _ _ _ _ => none) (fun _ _ _ => none) (fun _ _ => none) (fun _ _ _ _ => none) (fun _ _ => none) (fun _ _ => none) (fun _ _ _ _ _ _ _ => none) (fun _ _ _ _ => none) (fun _ _ _ _ => none) (fun _ _ _ _ _ => none) (fun _ _ => none) (fun _ _ => none) (fun _ _ _ => none) (fun _ _ => none) (fun _ _ => (fun _ _ => none)) () (fun _ _ _ _ => ())
noncomputable def dGrd : D → Res → (Bool → Res) → Res → Res := @D.rec (fun _ => Res → (Bool → Res) → Res → Res) (fun _ => Unit) (fun o _ _ => o) (fun b _ k _ => k b) (fun _ _ o _ _ => o) (fun _ o _ _ => o) (fun o _ _ => o) (fun _ _ o _ _ => o) (fun o _ _ => o) (fun o _ _ => o) (fun _ _ _ _ _ o _ _ => o) (fun _ _ o _ _ => o) (fun l _ o _ s => List.rec (motive := fun _ => Res) s (fun _ _ _ => o) l) (fun _ _ _ o _ _ => o) (fun o _ _ => o) (fun o _ _ => o) (fun _ o _ _ => o) (fun o _ _ => o) (fun _ _ => (fun o _ _ => o)) () (fun _ _ _ _ => ())
noncomputable def oneR : D → Bool := @D.rec (fun _ => Bool) (fun _ => Unit) false (fun _ => true) (fun _ _ => true) (fun _ => true) true (fun _ _ => true) true true (fun _ _ _ _ _ => true) (fun _ _ => false) (fun _ _ => false) (fun _ _ _ => true) true true (fun _ => true) true (fun _ _ => true) () (fun _ _ _ _ => ())
noncomputable def natR : Int → Res → (Nat → Res) → Res := @Int.rec (fun _ => Res → (Nat → Res) → Res) (fun m _ k => k m) (fun _ o _ => o)
noncomputable def nthR {α : Type} : List α → Nat → Res → (α → Res) → Res := @List.rec α (fun _ => Nat → Res → (α → Res) → Res) (fun _ o _ => o) (fun a _ ih i o k => Bool.rec (motive := fun _ => Res) (ih (Nat.sub i 1) o k) (k a) (Nat.beq i 0))
noncomputable def lenR {α : Type} : List α → Nat → (Nat → Res) → Res := @List.rec α (fun _ => Nat → (Nat → Res) → Res) (fun n k => k n) (fun _ _ ih n k => ih (Nat.succ n) k)
noncomputable def forceNR : Nat → (Nat → Res) → Res := @Nat.rec (fun _ => (Nat → Res) → Res) (fun k => k 0) (fun n _ k => k (Nat.succ n))
noncomputable def forceIR : Int → (Int → Res) → Res := @Int.rec (fun _ => (Int → Res) → Res) (fun m k => forceNR m fun m => k (.ofNat m)) (fun m k => forceNR m fun m => k (.negSucc m))
noncomputable def forceBR : Bool → (Bool → Res) → Res := @Bool.rec (fun _ => (Bool → Res) → Res) (fun k => k false) (fun k => k true)
/-- so many from the front, laid out; the rest -/
noncomputable def takeR {α : Type} : Nat → List α → (List α → Res) → Res := @Nat.rec (fun _ => List α → (List α → Res) → Res) (fun _ k => k []) (fun _ ih l k => List.rec (motive := fun _ => Res) (k []) (fun a r _ => ih r fun t => k (a :: t)) l)
noncomputable def dropR {α : Type} : Nat → List α → (List α → Res) → Res := @Nat.rec (fun _ => List α → (List α → Res) → Res) (fun l k => k l) (fun _ ih l k => List.rec (motive := fun _ => Res) (k []) (fun _ r _ => ih r k) l)
noncomputable def appR {α : Type} : List α → List α → (List α → Res) → Res := @List.rec α (fun _ => List α → (List α → Res) → Res) (fun m k => k m) (fun a _ ih m k => ih m fun t => k (a :: t))
/-- a cell is replaced -/
noncomputable def setNthR {α : Type} (v : α) : List α → Nat → Res → (List α → Res) → Res := @List.rec α (fun _ => Nat → Res → (List α → Res) → Res) (fun _ o _ => o) (fun a r ih i o k => Bool.rec (motive := fun _ => Res) (ih (Nat.sub i 1) o fun t => k (a :: t)) (k (v :: r)) (Nat.beq i 0))
noncomputable def getR {α : Type} : Tr α → Nat → Option α := @Tr.rec α (fun _ => Nat → Option α) (fun _ => none) (fun _ v _ il ir i => Bool.rec (motive := fun _ => Option α) (Bool.rec (motive := fun _ => Option α) (ir (Nat.sub (Nat.div i 2) 1)) (il (Nat.div i 2)) (Nat.beq (Nat.mod i 2) 1)) v (Nat.beq i 0))
noncomputable def setER {α : Type} : Nat → Nat → Option α → (Tr α → Res) → Res := @Nat.rec (fun _ => Nat → Option α → (Tr α → Res) → Res) (fun _ _ k => k .e) (fun _ ih i v k => Bool.rec (motive := fun _ => Res) (Bool.rec (motive := fun _ => Res) (ih (Nat.sub (Nat.div i 2) 1) v fun t => k (.n .e none t)) (ih (Nat.div i 2) v fun t => k (.n t none .e)) (Nat.beq (Nat.mod i 2) 1)) (k (.n .e v .e)) (Nat.beq i 0))
noncomputable def setR {α : Type} : Tr α → Nat → Option α → (Tr α → Res) → Res := @Tr.rec α (fun _ => Nat → Option α → (Tr α → Res) → Res) (fun i v k => setER (Nat.succ i) i v k)
  (fun l x r il ir i v k => Bool.rec (motive := fun _ => Res) (Bool.rec (motive := fun _ => Res) (ir (Nat.sub (Nat.div i 2) 1) v fun t => k (.n l x t)) (il (Nat.div i 2) v fun t => k (.n t x r)) (Nat.beq (Nat.mod i 2) 1)) (k (.n l v r)) (Nat.beq i 0))
noncomputable def obR : Option Obj → Res → (Nat → Bool → List D → Res) → Res := @Option.rec Obj (fun _ => Res → (Nat → Bool → List D → Res) → Res) (fun g _ => g) (@Obj.rec (fun _ => Res → (Nat → Bool → List D → Res) → Res) (fun e f cs _ k => k e f cs) (fun _ g _ => g))
end
noncomputable def lim : IntKind → Nat := @IntKind.rec (fun _ => Nat) 128 32768 2147483648 9223372036854775808 256 65536 4294967296 18446744073709551616
noncomputable def wrapR (k : IntKind) : Int → Int := @Int.rec (fun _ => Int) (fun m => Bool.rec (motive := fun _ => Int) (k.wrap (.ofNat m)) (.ofNat m) (Nat.blt m (lim k))) (fun m => k.wrap (.negSucc m))
noncomputable def ltR : Int → Int → Bool := @Int.rec (fun _ => Int → Bool) (fun m => @Int.rec (fun _ => Bool) (fun n => Nat.blt m n) (fun _ => false)) (fun m => @Int.rec (fun _ => Bool) (fun _ => true) (fun n => Nat.blt n m))
noncomputable def eqR : Int → Int → Bool := @Int.rec (fun _ => Int → Bool) (fun m => @Int.rec (fun _ => Bool) (fun n => Nat.beq m n) (fun _ => false)) (fun m => @Int.rec (fun _ => Bool) (fun _ => false) (fun n => Nat.beq m n))
noncomputable def notR : Bool → Bool := @Bool.rec (fun _ => Bool) true false
noncomputable def kn : IntKind → Nat := @IntKind.rec (fun _ => Nat) 0 1 2 3 4 5 6 7
noncomputable def eqLR : List Nat → List Nat → Bool := @List.rec Nat (fun _ => List Nat → Bool) (@List.rec Nat (fun _ => Bool) true (fun _ _ _ => false)) (fun a _ ih m => List.rec (motive := fun _ => Bool) false (fun b r _ => Bool.rec (motive := fun _ => Bool) false (ih r) (Nat.beq a b)) m)

noncomputable def q_i8 : IntKind → Bool := @IntKind.rec (fun _ => Bool) true false false false false false false false
theorem q_i8_ok (t : IntKind) : q_i8 t = true → t = .i8 := by cases t <;> first | (intro; rfl) | (intro h; cases h)
noncomputable def q_i16 : IntKind → Bool := @IntKind.rec (fun _ => Bool) false true false false false false false false
theorem q_i16_ok (t : IntKind) : q_i16 t = true → t = .i16 := by cases t <;> first | (intro; rfl) | (intro h; cases h)
noncomputable def q_i32 : IntKind → Bool := @IntKind.rec (fun _ => Bool) false false true false false false false false
theorem q_i32_ok (t : IntKind) : q_i32 t = true → t = .i32 := by cases t <;> first | (intro; rfl) | (intro h; cases h)
noncomputable def q_i64 : IntKind → Bool := @IntKind.rec (fun _ => Bool) false false false true false false false false
theorem q_i64_ok (t : IntKind) : q_i64 t = true → t = .i64 := by cases t <;> first | (intro; rfl) | (intro h; cases h)
noncomputable def q_u8 : IntKind → Bool := @IntKind.rec (fun _ => Bool) false false false false true false false false
theorem q_u8_ok (t : IntKind) : q_u8 t = true → t = .u8 := by cases t <;> first | (intro; rfl) | (intro h; cases h)
noncomputable def q_u16 : IntKind → Bool := @IntKind.rec (fun _ => Bool) false false false false false true false false
theorem q_u16_ok (t : IntKind) : q_u16 t = true → t = .u16 := by cases t <;> first | (intro; rfl) | (intro h; cases h)
noncomputable def q_u32 : IntKind → Bool := @IntKind.rec (fun _ => Bool) false false false false false false true false
theorem q_u32_ok (t : IntKind) : q_u32 t = true → t = .u32 := by cases t <;> first | (intro; rfl) | (intro h; cases h)
noncomputable def q_u64 : IntKind → Bool := @IntKind.rec (fun _ => Bool) false false false false false false false true
theorem q_u64_ok (t : IntKind) : q_u64 t = true → t = .u64 := by cases t <;> first | (intro; rfl) | (intro h; cases h)
structure QK where
  q : IntKind → Bool
  k0 : IntKind
  hq : ∀ k, q k = true → k = k0
  l : Nat
  hl : l = lim k0
noncomputable def Q_i8 : QK := ⟨q_i8, .i8, q_i8_ok, 128, rfl⟩
noncomputable def Q_i16 : QK := ⟨q_i16, .i16, q_i16_ok, 32768, rfl⟩
noncomputable def Q_i32 : QK := ⟨q_i32, .i32, q_i32_ok, 2147483648, rfl⟩
noncomputable def Q_i64 : QK := ⟨q_i64, .i64, q_i64_ok, 9223372036854775808, rfl⟩
noncomputable def Q_u8 : QK := ⟨q_u8, .u8, q_u8_ok, 256, rfl⟩
noncomputable def Q_u16 : QK := ⟨q_u16, .u16, q_u16_ok, 65536, rfl⟩
noncomputable def Q_u32 : QK := ⟨q_u32, .u32, q_u32_ok, 4294967296, rfl⟩
noncomputable def Q_u64 : QK := ⟨q_u64, .u64, q_u64_ok, 18446744073709551616, rfl⟩
theorem dInt_eq (d : D) (o : Res) (k : IntKind → Int → Res) : dInt d o k = match d with | .int t n => k t n | _ => o := by cases d <;> rfl
theorem dBool_eq (d : D) (o : Res) (k : Bool → Res) : dBool d o k = match d with | .bool t => k t | _ => o := by cases d <;> rfl
theorem dStr_eq (d : D) (o : Res) (k : List Nat → Res) : dStr d o k = match d with | .str t => k t | _ => o := by cases d <;> rfl
theorem dPtr_eq (d : D) (o : Res) (k : Nat → Nat → Res) : dPtr d o k = match d with | .ptr i j => k i j | _ => o := by cases d <;> rfl
theorem dSl_eq (d : D) (o : Res) (k : Nat → Nat → Nat → Nat → Option Nat → Res) : dSl d o k = match d with | .sl a b c e f => k a b c e f | _ => o := by cases d <;> rfl
theorem dTup_eq (d : D) (o : Res) (k : List D → Res) : dTup d o k = match d with | .tup t => k t | _ => o := by cases d <;> rfl
theorem dAgg_eq (d : D) (o : Res) (k : List D → Res) : dAgg d o k = match d with | .agg t => k t | _ => o := by cases d <;> rfl
theorem dNil_eq (d : D) (o k : Res) : dNil d o k = match d with | .nils => k | _ => o := by cases d <;> rfl
theorem natR_eq (n : Int) (o : Res) (k : Nat → Res) : natR n o k = match n with | .ofNat n => k n | _ => o := by cases n <;> rfl
theorem brec_eq {R : Type} (a b : R) (c : Bool) : Bool.rec (motive := fun _ => R) a b c = cond c b a := by cases c <;> rfl
theorem nthR_eq {α : Type} : ∀ (l : List α) (i : Nat) (o : Res) (k : α → Res), nthR l i o k = match l[i]? with | some a => k a | none => o
  | [], i, o, k => by cases i <;> rfl
  | a :: l, 0, o, k => rfl
  | a :: l, i + 1, o, k => (nthR_eq l i o k).trans (by simp)
theorem lenR_eq {α : Type} : ∀ (l : List α) (n : Nat) (k : Nat → Res), lenR l n k = k (n + l.length)
  | [], n, k => rfl
  | a :: l, n, k => (lenR_eq l (Nat.succ n) k).trans (by congr 1; simp; omega)
theorem forceNR_eq (m : Nat) (k : Nat → Res) : forceNR m k = k m := by cases m <;> rfl
theorem forceIR_eq (n : Int) (k : Int → Res) : forceIR n k = k n := by cases n <;> exact forceNR_eq _ _
theorem forceBR_eq (b : Bool) (k : Bool → Res) : forceBR b k = k b := by cases b <;> rfl
theorem takeR_eq {α : Type} : ∀ (n : Nat) (l : List α) (k : List α → Res), takeR n l k = k (l.take n)
  | 0, l, k => rfl
  | n + 1, [], k => rfl
  | n + 1, a :: l, k => (takeR_eq n l fun t => k (a :: t)).trans (by simp)
theorem dropR_eq {α : Type} : ∀ (n : Nat) (l : List α) (k : List α → Res), dropR n l k = k (l.drop n)
  | 0, l, k => rfl
  | n + 1, [], k => rfl
  | n + 1, a :: l, k => (dropR_eq n l k).trans (by simp)
theorem appR_eq {α : Type} : ∀ (l m : List α) (k : List α → Res), appR l m k = k (l ++ m)
  | [], m, k => rfl
  | a :: l, m, k => (appR_eq l m fun t => k (a :: t)).trans (by simp)
theorem setNthR_eq {α : Type} (v : α) : ∀ (l : List α) (i : Nat) (o : Res) (k : List α → Res), setNthR v l i o k = cond (Nat.ble (i + 1) l.length) (k (l.take i ++ [v] ++ l.drop (i + 1))) o
  | [], i, o, k => rfl
  | a :: l, 0, o, k => rfl
  | a :: l, i + 1, o, k => (setNthR_eq v l i o fun t => k (a :: t)).trans (by simp [Nat.ble])
theorem getR_eq {α : Type} : ∀ (t : Tr α) (i : Nat), getR t i = t.get i
  | .e, i => rfl
  | .n l v r, i => by
    show Bool.rec (motive := fun _ => Option α) (Bool.rec (motive := fun _ => Option α) (getR r (Nat.sub (Nat.div i 2) 1)) (getR l (Nat.div i 2)) (Nat.beq (Nat.mod i 2) 1)) v (Nat.beq i 0) = _
    rw [getR_eq l, getR_eq r, brec_eq, brec_eq]
    rfl
theorem setER_eq {α : Type} : ∀ (f i : Nat) (v : Option α) (k : Tr α → Res), setER f i v k = k (Tr.set f .e i v)
  | 0, i, v, k => rfl
  | f + 1, i, v, k => by
    show Bool.rec (motive := fun _ => Res) (Bool.rec (motive := fun _ => Res) (setER f (Nat.sub (Nat.div i 2) 1) v fun t => k (.n .e none t)) (setER f (Nat.div i 2) v fun t => k (.n t none .e)) (Nat.beq (Nat.mod i 2) 1)) (k (.n .e v .e)) (Nat.beq i 0) = _
    rw [setER_eq f, setER_eq f, brec_eq, brec_eq]
    simp only [Tr.set]
    cases Nat.beq i 0 <;> cases Nat.beq (Nat.mod i 2) 1 <;> rfl
theorem set_fuel {α : Type} : ∀ (f f' : Nat) (t : Tr α) (i : Nat) (v : Option α), i < f → i < f' → Tr.set f t i v = Tr.set f' t i v
  | 0, f', t, i, v, h, h' => by omega
  | f + 1, 0, t, i, v, h, h' => by omega
  | f + 1, f' + 1, t, i, v, h, h' => by
    by_cases h0 : i = 0
    · subst h0; cases t <;> rfl
    · have e1 : ∀ t : Tr α, Tr.set f t (Nat.div i 2) v = Tr.set f' t (Nat.div i 2) v := fun t => set_fuel f f' t _ v (by show i / 2 < f; omega) (by show i / 2 < f'; omega)
      have e2 : ∀ t : Tr α, Tr.set f t (Nat.sub (Nat.div i 2) 1) v = Tr.set f' t (Nat.sub (Nat.div i 2) 1) v := fun t => set_fuel f f' t _ v (by show i / 2 - 1 < f; omega) (by show i / 2 - 1 < f'; omega)
      cases t <;> simp only [Tr.set, e1, e2]
theorem setR_eq {α : Type} : ∀ (t : Tr α) (i : Nat) (v : Option α) (k : Tr α → Res), setR t i v k = k (t.set (Nat.succ i) i v)
  | .e, i, v, k => (show setER (Nat.succ i) i v k = k (Tr.set (Nat.succ i) .e i v) from setER_eq _ _ _ _)
  | .n l x r, i, v, k => by
    show Bool.rec (motive := fun _ => Res) (Bool.rec (motive := fun _ => Res) (setR r (Nat.sub (Nat.div i 2) 1) v fun t => k (.n l x t)) (setR l (Nat.div i 2) v fun t => k (.n t x r)) (Nat.beq (Nat.mod i 2) 1)) (k (.n l v r)) (Nat.beq i 0) = _
    rw [setR_eq l, setR_eq r, brec_eq, brec_eq]
    by_cases h0 : i = 0
    · subst h0; rfl
    · rw [set_fuel (Nat.succ (Nat.div i 2)) i l (Nat.div i 2) v (Nat.lt_succ_self _) (by show i / 2 < i; omega), set_fuel (Nat.succ (Nat.sub (Nat.div i 2) 1)) i r (Nat.sub (Nat.div i 2) 1) v (Nat.lt_succ_self _) (by show i / 2 - 1 < i; omega)]
      simp only [Tr.set]
      cases Nat.beq i 0 <;> cases Nat.beq (Nat.mod i 2) 1 <;> rfl
theorem obR_eq (o : Option Obj) (g : Res) (k : Nat → Bool → List D → Res) : obR o g k = match o with | some (.cells e f cs) => k e f cs | _ => g := by
  cases o with
  | none => rfl
  | some o => cases o <;> rfl
theorem wrap_lim {k : IntKind} {m : Nat} (h : m < lim k) : k.wrap (Int.ofNat m) = Int.ofNat m := by
  cases k <;> simp [lim] at h <;> simp [IntKind.wrap, IntKind.bits, IntKind.signed] <;> omega
theorem wrapR_eq (k : IntKind) (n : Int) : wrapR k n = k.wrap n := by
  cases n with
  | negSucc m => rfl
  | ofNat m =>
    show Bool.rec (motive := fun _ => Int) (k.wrap (.ofNat m)) (.ofNat m) (Nat.blt m (lim k)) = _
    rw [brec_eq]
    cases h : Nat.blt m (lim k) with
    | false => rfl
    | true => exact (wrap_lim (by simpa [Nat.blt_eq] using h)).symm
theorem ltR_eq (a b : Int) : ltR a b = ltI a b := by cases a <;> cases b <;> rfl
theorem eqR_eq (a b : Int) : eqR a b = eqI a b := by cases a <;> cases b <;> rfl
theorem notR_eq (b : Bool) : notR b = !b := by cases b <;> rfl
theorem kn_eq (a b : IntKind) : Nat.beq (kn a) (kn b) = sameK a b := by cases a <;> cases b <;> rfl
theorem eqLR_eq : ∀ (l m : List Nat), eqLR l m = eqL l m
  | [], m => by cases m <;> rfl
  | a :: l, [] => rfl
  | a :: l, b :: m => by
    show Bool.rec (motive := fun _ => Bool) false (eqLR l m) (Nat.beq a b) = _
    rw [brec_eq, eqLR_eq l m]
    rfl
theorem oneR_eq (d : D) : oneR d = d.one := by cases d <;> rfl

theorem dSel_eq (d : D) (x y : Res) : dSel d x y = match d with | .bool b => cond b x y | _ => none := by
  cases d <;> first | rfl | skip
  rename_i b
  cases b <;> rfl
theorem dGrd_eq (d : D) (o : Res) (k : Bool → Res) (s : Res) : dGrd d o k s = match d with | .bool b => k b | .tup [] => s | _ => o := by
  cases d <;> first | rfl | skip
  rename_i l
  cases l <;> rfl
theorem one_take {α : Type} {cs : List α} {o : Nat} {c : α} (h : cs[o]? = some c) : o + 1 ≤ cs.length ∧ (cs.drop o).take 1 = [c] := by
  obtain ⟨h1, h2⟩ := List.getElem?_eq_some_iff.1 h
  refine ⟨h1, ?_⟩
  rw [List.drop_eq_getElem_cons h1, h2]
  simp
theorem all_take {α : Type} {cs : List α} {o m : Nat} (h : ((cs.drop o).take (m + 1)).length = m + 1) : o + (m + 1) ≤ cs.length := by
  rw [List.length_take, List.length_drop] at h
  omega
theorem cells_one {v : D} (h : v.one = true) : v.cells = [v] := by cases v <;> first | rfl | simp [D.one] at h

/-- what an operation does -/
def fb (g : GOp) (Γ : Sp) (K : KK) (e : Env) (n : Nat) (t : Tr Obj) : Res := gstep Γ n n 0 [] g ⟨e, ⟨n, t⟩⟩ (up K)
def putE (e : Env) (d : Option Nat) (v : D) : Env := match d with
  | some d => e.set d v
  | none => e
theorem gstep_eff {d : Option Nat} {o : IOp} {at_ n n0 m : Nat} {mk : List Nat} {Γ : Sp} {K : KK} {e : Env} {t : Tr Obj} (hc : o.isCall = false) : gstep Γ at_ n n0 mk ⟨d, none, o⟩ ⟨e, ⟨m, t⟩⟩ (up K) = match eff at_ e.get t.get o with
    | some (v, ws) => K (putE e d v) n ((⟨n, t⟩ : Hp).puts ws).t
    | none => none := by
  unfold gstep step
  simp only [hc, cond_false, effK_eq]
  show stepE n _ _ _ (eff at_ e.get t.get o) = _
  cases eff at_ e.get t.get o with
  | none => rfl
  | some p =>
    obtain ⟨v, ws⟩ := p
    simp only [stepE, forceH_eq, forceD_eq, putsK_eq, forceN_eq, putK_eq, Bool.cond_self]
    cases d <;> rfl
theorem fb_eff {d : Option Nat} {o : IOp} {Γ : Sp} {K : KK} {e : Env} {n : Nat} {t : Tr Obj} (hc : o.isCall = false) : fb ⟨d, none, o⟩ Γ K e n t = match eff n e.get t.get o with
    | some (v, ws) => K (putE e d v) n ((⟨n, t⟩ : Hp).puts ws).t
    | none => none := gstep_eff hc

abbrev Rn := Sp → KK → Env → Nat → Tr Obj → Res
/-- an operation that makes no object -/
structure KOp where
  g : GOp
  run : Rn
  nm : g.o.makes = false
  ok : ∀ Γ K e n t, run Γ K e n t = fb g Γ K e n t
/-- one that makes one: its number, how many numbers are given then -/
structure KMk where
  g : GOp
  run : Nat → Nat → KK → Env → Tr Obj → Res
  nm : g.o.makes = true
  ok : ∀ Γ at_ n n0 m K e t, run at_ n K e t = gstep Γ at_ n n0 [] g ⟨e, ⟨m, t⟩⟩ (up K)
theorem step_at {g : GOp} (hm : g.o.makes = false) (Γ : Sp) (at_ n n0 : Nat) (s : St) (k : St → Res) : step Γ at_ n n0 [] g s k = step Γ n n 0 [] g s k := by
  unfold step
  cases hc : g.o.isCall with
  | true => simp only [cond_true, stepC, hide, back, List.map_nil]
  | false =>
    simp only [cond_false, effK_eq]
    congr 1
    cases g with
    | mk d gd o => cases o <;> first | rfl | simp [IOp.makes] at hm
theorem fb_of {g : GOp} (hm : g.o.makes = false) (Γ : Sp) (at_ n n0 : Nat) (K : KK) (e : Env) (t : Tr Obj) : gstep Γ at_ n n0 [] g ⟨e, ⟨n, t⟩⟩ (up K) = fb g Γ K e n t := by
  unfold fb gstep
  simp only [step_at hm Γ at_ n n0]

noncomputable def kfb (g : GOp) (h : g.o.makes = false) : KOp := ⟨g, fb g, h, fun _ _ _ _ _ => rfl⟩
noncomputable def r_mkb (o : IOp) (d : Option Nat) (at_ n : Nat) (K : KK) (e : Env) (t : Tr Obj) : Res := gstep (fun _ _ _ => none) at_ n 0 [] ⟨d, none, o⟩ ⟨e, ⟨n, t⟩⟩ (up K)
theorem mk_call {o : IOp} (h : o.makes = true) : o.isCall = false := by cases o <;> simp [IOp.makes] at h <;> rfl
noncomputable def kmb (d : Option Nat) (o : IOp) (h : o.makes = true) : KMk := ⟨⟨d, none, o⟩, r_mkb o d, h, fun Γ at_ n n0 m K e t => by rw [gstep_eff (mk_call h)]; exact gstep_eff (mk_call h)⟩

/-- behind a guard -/
noncomputable def r_grd (g : GOp) (w : Bool) (S : Pt) (Y : Gt) (x : Rn) : Rn := fun Γ K e n t =>
  Y e fun b => dGrd b (fb g Γ K e n t) (fun b => Bool.rec (motive := fun _ => Res) (S (.tup []) e fun e => K e n t) (x Γ K e n t) (Bool.rec (motive := fun _ => Bool) (notR w) w b)) (S (.tup []) e fun e => K e n t)
theorem grd_ok (i : Nat) (y : KSrc) (w : Bool) (d : Slot) (x : KOp) (hy : y.s = .t i) (hd : x.g.d = some d.n) (hg : x.g.g = none) (Γ : Sp) (K : KK) (e : Env) (n : Nat) (t : Tr Obj) : r_grd ⟨x.g.d, some (i, w), x.g.o⟩ w d.set y.ev x.run Γ K e n t = fb ⟨x.g.d, some (i, w), x.g.o⟩ Γ K e n t := by
  have e0 : y.s.ev e.get = e.get i := by rw [hy]; rfl
  simp only [r_grd, y.ok, dGrd_eq, e0, d.ok, x.ok, brec_eq, notR_eq]
  obtain ⟨⟨d', g', o⟩, rn, nm, ok⟩ := x
  simp only at hd hg
  subst hg
  subst hd
  have e1 : fb ⟨some d.n, some (i, w), o⟩ Γ K e n t = match e.get i with
    | .bool b => cond (b == w) (fb ⟨some d.n, none, o⟩ Γ K e n t) (K (e.set d.n (.tup [])) n t)
    | .tup [] => K (e.set d.n (.tup [])) n t
    | _ => none := by
    simp only [fb, gstep]
    show (match e.get i with | .bool b => _ | .tup [] => _ | _ => _) = _
    cases hv : e.get i <;> rfl
  rw [e1]
  cases hv : e.get i <;> try rfl
  · rename_i b
    cases b <;> cases w <;> rfl
  · rename_i l
    cases l <;> rfl
noncomputable def kgrd (i : Nat) (y : KSrc) (w : Bool) (d : Slot) (x : KOp) (hy : y.s = .t i) (hd : x.g.d = some d.n) (hg : x.g.g = none) : KOp := ⟨⟨x.g.d, some (i, w), x.g.o⟩, r_grd ⟨x.g.d, some (i, w), x.g.o⟩ w d.set y.ev x.run, x.nm, grd_ok i y w d x hy hd hg⟩

noncomputable def r_mov (S : Pt) (X : Gt) : Rn := fun Γ K e n t => X e fun v => S v e fun e => K e n t
theorem mov_ok (d : Slot) (x : KSrc) (Γ : Sp) (K : KK) (e : Env) (n : Nat) (t : Tr Obj) : r_mov d.set x.ev Γ K e n t = fb ⟨some d.n, none, .mov x.s⟩ Γ K e n t := by
  rw [fb_eff rfl]
  simp only [r_mov, d.ok, x.ok, eff]
  rfl
noncomputable def kmov (d : Slot) (x : KSrc) : KOp := ⟨⟨some d.n, none, .mov x.s⟩, r_mov d.set x.ev, rfl, mov_ok d x⟩

noncomputable def r_pick (g : GOp) (S : Pt) (X : Gt) (Y : Gt) (Z : Gt) : Rn := fun Γ K e n t => X e fun q => dBool q (fb g Γ K e n t) fun q => Bool.rec (motive := fun _ => Res) (Z e fun v => S v e fun e => K e n t) (Y e fun v => S v e fun e => K e n t) q
theorem pick_ok (d : Slot) (x : KSrc) (y : KSrc) (z : KSrc) (Γ : Sp) (K : KK) (e : Env) (n : Nat) (t : Tr Obj) : r_pick ⟨some d.n, none, .pick x.s y.s z.s⟩ d.set x.ev y.ev z.ev Γ K e n t = fb ⟨some d.n, none, .pick x.s y.s z.s⟩ Γ K e n t := by
  rw [fb_eff rfl]
  simp only [r_pick, d.ok, x.ok, y.ok, z.ok, dBool_eq, brec_eq, eff]
  rw [fb_eff rfl]
  simp only [eff]
  cases x.s.ev e.get <;> try rfl
  rename_i q
  cases q <;> rfl
noncomputable def kpick (d : Slot) (x : KSrc) (y : KSrc) (z : KSrc) : KOp := ⟨⟨some d.n, none, .pick x.s y.s z.s⟩, r_pick ⟨some d.n, none, .pick x.s y.s z.s⟩ d.set x.ev y.ev z.ev, rfl, pick_ok d x y z⟩

noncomputable def r_not (g : GOp) (S : Pt) (X : Gt) : Rn := fun Γ K e n t => X e fun v => dBool v (fb g Γ K e n t) fun b => forceBR (notR b) fun b => S (.bool b) e fun e => K e n t
theorem not_ok (d : Slot) (x : KSrc) (Γ : Sp) (K : KK) (e : Env) (n : Nat) (t : Tr Obj) : r_not ⟨some d.n, none, .un .not x.s⟩ d.set x.ev Γ K e n t = fb ⟨some d.n, none, .un .not x.s⟩ Γ K e n t := by
  rw [fb_eff rfl]
  simp only [r_not, forceBR_eq, dBool_eq, notR_eq, d.ok, x.ok, eff]
  rw [fb_eff rfl]
  simp only [eff]
  cases x.s.ev e.get <;> rfl
noncomputable def knot (d : Slot) (x : KSrc) : KOp := ⟨⟨some d.n, none, .un .not x.s⟩, r_not ⟨some d.n, none, .un .not x.s⟩ d.set x.ev, rfl, not_ok d x⟩

noncomputable def r_cvi (g : GOp) (S : Pt) (k : IntKind) (X : Gt) : Rn := fun Γ K e n t => X e fun v => dInt v (fb g Γ K e n t) fun _ m => forceIR (wrapR k m) fun m => S (.int k m) e fun e => K e n t
theorem cvi_ok (d : Slot) (k : IntKind) (x : KSrc) (Γ : Sp) (K : KK) (e : Env) (n : Nat) (t : Tr Obj) : r_cvi ⟨some d.n, none, .cvi k x.s⟩ d.set k x.ev Γ K e n t = fb ⟨some d.n, none, .cvi k x.s⟩ Γ K e n t := by
  rw [fb_eff rfl]
  simp only [r_cvi, forceIR_eq, dInt_eq, wrapR_eq, d.ok, x.ok, eff]
  rw [fb_eff rfl]
  simp only [eff]
  cases x.s.ev e.get <;> rfl
noncomputable def kcvi (d : Slot) (k : IntKind) (x : KSrc) : KOp := ⟨⟨some d.n, none, .cvi k x.s⟩, r_cvi ⟨some d.n, none, .cvi k x.s⟩ d.set k x.ev, rfl, cvi_ok d k x⟩

noncomputable def addX (S : Pt) (q : IntKind → Bool) (l : Nat) (K : KK) (e : Env) (n : Nat) (t : Tr Obj) (o : Res) (x y : D) : Res := dInt x o fun k a => natR a o fun a => dInt y o fun k1 b => natR b o fun b => Bool.rec (motive := fun _ => Res) o (Bool.rec (motive := fun _ => Res) o (forceNR (Nat.add a b) fun s => Bool.rec (motive := fun _ => Res) o (S (.int k (.ofNat s)) e fun e => K e n t) (Nat.blt s l)) (q k1)) (q k)
noncomputable def r_add (g : GOp) (S : Pt) (X Y : Gt) (q : IntKind → Bool) (l : Nat) : Rn := fun Γ K e n t => X e fun x => Y e fun y => addX S q l K e n t (fb g Γ K e n t) x y
theorem add_ok (d : Slot) (x y : KSrc) (q : IntKind → Bool) (k0 : IntKind) (hq : ∀ k, q k = true → k = k0) (l : Nat) (hl : l = lim k0) (Γ : Sp) (K : KK) (e : Env) (n : Nat) (t : Tr Obj) : r_add ⟨some d.n, none, .bin .add x.s y.s⟩ d.set x.ev y.ev q l Γ K e n t = fb ⟨some d.n, none, .bin .add x.s y.s⟩ Γ K e n t := by
  subst hl
  rw [fb_eff rfl]
  simp only [r_add, addX, forceNR_eq, dInt_eq, natR_eq, brec_eq, d.ok, x.ok, y.ok, eff]
  rw [fb_eff rfl]
  simp only [eff]
  cases x.s.ev e.get <;> try rfl
  rename_i k a
  cases a <;> try rfl
  rename_i a
  cases y.s.ev e.get <;> try rfl
  rename_i k1 b
  cases b <;> try rfl
  rename_i b
  simp only
  cases h1 : q k <;> try rfl
  cases h2 : q k1 <;> try rfl
  obtain rfl := hq _ h1
  obtain rfl := hq _ h2

  cases h3 : Nat.blt (Nat.add a b) (lim k1) <;> try rfl
  have h3 : a + b < lim k1 := by simpa [Nat.blt_eq] using h3
  have e1 : binV .add (.int k1 (.ofNat a)) (.int k1 (.ofNat b)) = some (.int k1 (.ofNat (a + b))) := by
    have : sameK k1 k1 = true := by cases k1 <;> rfl
    simp only [binV, this, chk, cond_true, binInt]
    rw [← wrap_lim h3]
    rfl
  rw [e1]
  rfl
noncomputable def kadd (d : Slot) (x y : KSrc) (Q : QK) : KOp := ⟨⟨some d.n, none, .bin .add x.s y.s⟩, r_add ⟨some d.n, none, .bin .add x.s y.s⟩ d.set x.ev y.ev Q.q Q.l, rfl, add_ok d x y Q.q Q.k0 Q.hq Q.l Q.hl⟩

noncomputable def subX (S : Pt) (q : IntKind → Bool) (l : Nat) (K : KK) (e : Env) (n : Nat) (t : Tr Obj) (o : Res) (x y : D) : Res := dInt x o fun k a => natR a o fun a => dInt y o fun k1 b => natR b o fun b => Bool.rec (motive := fun _ => Res) o (Bool.rec (motive := fun _ => Res) o (Bool.rec (motive := fun _ => Res) o (forceNR (Nat.sub a b) fun s => Bool.rec (motive := fun _ => Res) o (S (.int k (.ofNat s)) e fun e => K e n t) (Nat.blt s l)) (Nat.ble b a)) (q k1)) (q k)
noncomputable def r_sub (g : GOp) (S : Pt) (X Y : Gt) (q : IntKind → Bool) (l : Nat) : Rn := fun Γ K e n t => X e fun x => Y e fun y => subX S q l K e n t (fb g Γ K e n t) x y
theorem sub_ok (d : Slot) (x y : KSrc) (q : IntKind → Bool) (k0 : IntKind) (hq : ∀ k, q k = true → k = k0) (l : Nat) (hl : l = lim k0) (Γ : Sp) (K : KK) (e : Env) (n : Nat) (t : Tr Obj) : r_sub ⟨some d.n, none, .bin .sub x.s y.s⟩ d.set x.ev y.ev q l Γ K e n t = fb ⟨some d.n, none, .bin .sub x.s y.s⟩ Γ K e n t := by
  subst hl
  rw [fb_eff rfl]
  simp only [r_sub, subX, forceNR_eq, dInt_eq, natR_eq, brec_eq, d.ok, x.ok, y.ok, eff]
  rw [fb_eff rfl]
  simp only [eff]
  cases x.s.ev e.get <;> try rfl
  rename_i k a
  cases a <;> try rfl
  rename_i a
  cases y.s.ev e.get <;> try rfl
  rename_i k1 b
  cases b <;> try rfl
  rename_i b
  simp only
  cases h1 : q k <;> try rfl
  cases h2 : q k1 <;> try rfl
  obtain rfl := hq _ h1
  obtain rfl := hq _ h2

  cases h4 : Nat.ble b a <;> try rfl
  cases h3 : Nat.blt (Nat.sub a b) (lim k1) <;> try rfl
  have h3 : a - b < lim k1 := by simpa [Nat.blt_eq] using h3
  rw [Nat.ble_eq] at h4
  have e1 : binV .sub (.int k1 (.ofNat a)) (.int k1 (.ofNat b)) = some (.int k1 (.ofNat (a - b))) := by
    have : sameK k1 k1 = true := by cases k1 <;> rfl
    simp only [binV, this, chk, cond_true, binInt]
    rw [← wrap_lim h3]
    have e2 : (Int.ofNat a - Int.ofNat b : Int) = Int.ofNat (a - b) := by
      show (a : Int) - (b : Int) = ((a - b : Nat) : Int)
      omega
    rw [e2]
  rw [e1]
  rfl
noncomputable def ksub (d : Slot) (x y : KSrc) (Q : QK) : KOp := ⟨⟨some d.n, none, .bin .sub x.s y.s⟩, r_sub ⟨some d.n, none, .bin .sub x.s y.s⟩ d.set x.ev y.ev Q.q Q.l, rfl, sub_ok d x y Q.q Q.k0 Q.hq Q.l Q.hl⟩

noncomputable def eqlX (S : Pt) (q : IntKind → Bool) (K : KK) (e : Env) (n : Nat) (t : Tr Obj) (o : Res) (x y : D) : Res := dInt x o fun k a => dInt y o fun k1 b => Bool.rec (motive := fun _ => Res) o (Bool.rec (motive := fun _ => Res) o (forceBR (eqR a b) fun b => S (.bool b) e fun e => K e n t) (q k1)) (q k)
noncomputable def r_eql (g : GOp) (S : Pt) (X Y : Gt) (q : IntKind → Bool) : Rn := fun Γ K e n t => X e fun x => Y e fun y => eqlX S q K e n t (fb g Γ K e n t) x y
theorem eql_ok (d : Slot) (x y : KSrc) (q : IntKind → Bool) (k0 : IntKind) (hq : ∀ k, q k = true → k = k0) (Γ : Sp) (K : KK) (e : Env) (n : Nat) (t : Tr Obj) : r_eql ⟨some d.n, none, .bin .eql x.s y.s⟩ d.set x.ev y.ev q Γ K e n t = fb ⟨some d.n, none, .bin .eql x.s y.s⟩ Γ K e n t := by
  rw [fb_eff rfl]
  simp only [r_eql, eqlX, forceBR_eq, d.ok, x.ok, y.ok, dInt_eq, eqR_eq, ltR_eq, notR_eq, brec_eq, eff]
  rw [fb_eff rfl]
  simp only [eff]
  cases x.s.ev e.get <;> try rfl
  cases y.s.ev e.get <;> try rfl
  rename_i k a k1 b
  simp only
  cases h1 : q k <;> try rfl
  cases h2 : q k1 <;> try rfl
  obtain rfl := hq _ h1
  obtain rfl := hq _ h2
  cases k1 <;> rfl
noncomputable def keql (d : Slot) (x y : KSrc) (Q : QK) : KOp := ⟨⟨some d.n, none, .bin .eql x.s y.s⟩, r_eql ⟨some d.n, none, .bin .eql x.s y.s⟩ d.set x.ev y.ev Q.q, rfl, eql_ok d x y Q.q Q.k0 Q.hq⟩

noncomputable def neqX (S : Pt) (q : IntKind → Bool) (K : KK) (e : Env) (n : Nat) (t : Tr Obj) (o : Res) (x y : D) : Res := dInt x o fun k a => dInt y o fun k1 b => Bool.rec (motive := fun _ => Res) o (Bool.rec (motive := fun _ => Res) o (forceBR (notR (eqR a b)) fun b => S (.bool b) e fun e => K e n t) (q k1)) (q k)
noncomputable def r_neq (g : GOp) (S : Pt) (X Y : Gt) (q : IntKind → Bool) : Rn := fun Γ K e n t => X e fun x => Y e fun y => neqX S q K e n t (fb g Γ K e n t) x y
theorem neq_ok (d : Slot) (x y : KSrc) (q : IntKind → Bool) (k0 : IntKind) (hq : ∀ k, q k = true → k = k0) (Γ : Sp) (K : KK) (e : Env) (n : Nat) (t : Tr Obj) : r_neq ⟨some d.n, none, .bin .neq x.s y.s⟩ d.set x.ev y.ev q Γ K e n t = fb ⟨some d.n, none, .bin .neq x.s y.s⟩ Γ K e n t := by
  rw [fb_eff rfl]
  simp only [r_neq, neqX, forceBR_eq, d.ok, x.ok, y.ok, dInt_eq, eqR_eq, ltR_eq, notR_eq, brec_eq, eff]
  rw [fb_eff rfl]
  simp only [eff]
  cases x.s.ev e.get <;> try rfl
  cases y.s.ev e.get <;> try rfl
  rename_i k a k1 b
  simp only
  cases h1 : q k <;> try rfl
  cases h2 : q k1 <;> try rfl
  obtain rfl := hq _ h1
  obtain rfl := hq _ h2
  cases k1 <;> rfl
noncomputable def kneq (d : Slot) (x y : KSrc) (Q : QK) : KOp := ⟨⟨some d.n, none, .bin .neq x.s y.s⟩, r_neq ⟨some d.n, none, .bin .neq x.s y.s⟩ d.set x.ev y.ev Q.q, rfl, neq_ok d x y Q.q Q.k0 Q.hq⟩

noncomputable def lssX (S : Pt) (q : IntKind → Bool) (K : KK) (e : Env) (n : Nat) (t : Tr Obj) (o : Res) (x y : D) : Res := dInt x o fun k a => dInt y o fun k1 b => Bool.rec (motive := fun _ => Res) o (Bool.rec (motive := fun _ => Res) o (forceBR (ltR a b) fun b => S (.bool b) e fun e => K e n t) (q k1)) (q k)
noncomputable def r_lss (g : GOp) (S : Pt) (X Y : Gt) (q : IntKind → Bool) : Rn := fun Γ K e n t => X e fun x => Y e fun y => lssX S q K e n t (fb g Γ K e n t) x y
theorem lss_ok (d : Slot) (x y : KSrc) (q : IntKind → Bool) (k0 : IntKind) (hq : ∀ k, q k = true → k = k0) (Γ : Sp) (K : KK) (e : Env) (n : Nat) (t : Tr Obj) : r_lss ⟨some d.n, none, .bin .lss x.s y.s⟩ d.set x.ev y.ev q Γ K e n t = fb ⟨some d.n, none, .bin .lss x.s y.s⟩ Γ K e n t := by
  rw [fb_eff rfl]
  simp only [r_lss, lssX, forceBR_eq, d.ok, x.ok, y.ok, dInt_eq, eqR_eq, ltR_eq, notR_eq, brec_eq, eff]
  rw [fb_eff rfl]
  simp only [eff]
  cases x.s.ev e.get <;> try rfl
  cases y.s.ev e.get <;> try rfl
  rename_i k a k1 b
  simp only
  cases h1 : q k <;> try rfl
  cases h2 : q k1 <;> try rfl
  obtain rfl := hq _ h1
  obtain rfl := hq _ h2
  cases k1 <;> rfl
noncomputable def klss (d : Slot) (x y : KSrc) (Q : QK) : KOp := ⟨⟨some d.n, none, .bin .lss x.s y.s⟩, r_lss ⟨some d.n, none, .bin .lss x.s y.s⟩ d.set x.ev y.ev Q.q, rfl, lss_ok d x y Q.q Q.k0 Q.hq⟩

noncomputable def leqX (S : Pt) (q : IntKind → Bool) (K : KK) (e : Env) (n : Nat) (t : Tr Obj) (o : Res) (x y : D) : Res := dInt x o fun k a => dInt y o fun k1 b => Bool.rec (motive := fun _ => Res) o (Bool.rec (motive := fun _ => Res) o (forceBR (notR (ltR b a)) fun b => S (.bool b) e fun e => K e n t) (q k1)) (q k)
noncomputable def r_leq (g : GOp) (S : Pt) (X Y : Gt) (q : IntKind → Bool) : Rn := fun Γ K e n t => X e fun x => Y e fun y => leqX S q K e n t (fb g Γ K e n t) x y
theorem leq_ok (d : Slot) (x y : KSrc) (q : IntKind → Bool) (k0 : IntKind) (hq : ∀ k, q k = true → k = k0) (Γ : Sp) (K : KK) (e : Env) (n : Nat) (t : Tr Obj) : r_leq ⟨some d.n, none, .bin .leq x.s y.s⟩ d.set x.ev y.ev q Γ K e n t = fb ⟨some d.n, none, .bin .leq x.s y.s⟩ Γ K e n t := by
  rw [fb_eff rfl]
  simp only [r_leq, leqX, forceBR_eq, d.ok, x.ok, y.ok, dInt_eq, eqR_eq, ltR_eq, notR_eq, brec_eq, eff]
  rw [fb_eff rfl]
  simp only [eff]
  cases x.s.ev e.get <;> try rfl
  cases y.s.ev e.get <;> try rfl
  rename_i k a k1 b
  simp only
  cases h1 : q k <;> try rfl
  cases h2 : q k1 <;> try rfl
  obtain rfl := hq _ h1
  obtain rfl := hq _ h2
  cases k1 <;> rfl
noncomputable def kleq (d : Slot) (x y : KSrc) (Q : QK) : KOp := ⟨⟨some d.n, none, .bin .leq x.s y.s⟩, r_leq ⟨some d.n, none, .bin .leq x.s y.s⟩ d.set x.ev y.ev Q.q, rfl, leq_ok d x y Q.q Q.k0 Q.hq⟩

noncomputable def gtrX (S : Pt) (q : IntKind → Bool) (K : KK) (e : Env) (n : Nat) (t : Tr Obj) (o : Res) (x y : D) : Res := dInt x o fun k a => dInt y o fun k1 b => Bool.rec (motive := fun _ => Res) o (Bool.rec (motive := fun _ => Res) o (forceBR (ltR b a) fun b => S (.bool b) e fun e => K e n t) (q k1)) (q k)
noncomputable def r_gtr (g : GOp) (S : Pt) (X Y : Gt) (q : IntKind → Bool) : Rn := fun Γ K e n t => X e fun x => Y e fun y => gtrX S q K e n t (fb g Γ K e n t) x y
theorem gtr_ok (d : Slot) (x y : KSrc) (q : IntKind → Bool) (k0 : IntKind) (hq : ∀ k, q k = true → k = k0) (Γ : Sp) (K : KK) (e : Env) (n : Nat) (t : Tr Obj) : r_gtr ⟨some d.n, none, .bin .gtr x.s y.s⟩ d.set x.ev y.ev q Γ K e n t = fb ⟨some d.n, none, .bin .gtr x.s y.s⟩ Γ K e n t := by
  rw [fb_eff rfl]
  simp only [r_gtr, gtrX, forceBR_eq, d.ok, x.ok, y.ok, dInt_eq, eqR_eq, ltR_eq, notR_eq, brec_eq, eff]
  rw [fb_eff rfl]
  simp only [eff]
  cases x.s.ev e.get <;> try rfl
  cases y.s.ev e.get <;> try rfl
  rename_i k a k1 b
  simp only
  cases h1 : q k <;> try rfl
  cases h2 : q k1 <;> try rfl
  obtain rfl := hq _ h1
  obtain rfl := hq _ h2
  cases k1 <;> rfl
noncomputable def kgtr (d : Slot) (x y : KSrc) (Q : QK) : KOp := ⟨⟨some d.n, none, .bin .gtr x.s y.s⟩, r_gtr ⟨some d.n, none, .bin .gtr x.s y.s⟩ d.set x.ev y.ev Q.q, rfl, gtr_ok d x y Q.q Q.k0 Q.hq⟩

noncomputable def geqX (S : Pt) (q : IntKind → Bool) (K : KK) (e : Env) (n : Nat) (t : Tr Obj) (o : Res) (x y : D) : Res := dInt x o fun k a => dInt y o fun k1 b => Bool.rec (motive := fun _ => Res) o (Bool.rec (motive := fun _ => Res) o (forceBR (notR (ltR a b)) fun b => S (.bool b) e fun e => K e n t) (q k1)) (q k)
noncomputable def r_geq (g : GOp) (S : Pt) (X Y : Gt) (q : IntKind → Bool) : Rn := fun Γ K e n t => X e fun x => Y e fun y => geqX S q K e n t (fb g Γ K e n t) x y
theorem geq_ok (d : Slot) (x y : KSrc) (q : IntKind → Bool) (k0 : IntKind) (hq : ∀ k, q k = true → k = k0) (Γ : Sp) (K : KK) (e : Env) (n : Nat) (t : Tr Obj) : r_geq ⟨some d.n, none, .bin .geq x.s y.s⟩ d.set x.ev y.ev q Γ K e n t = fb ⟨some d.n, none, .bin .geq x.s y.s⟩ Γ K e n t := by
  rw [fb_eff rfl]
  simp only [r_geq, geqX, forceBR_eq, d.ok, x.ok, y.ok, dInt_eq, eqR_eq, ltR_eq, notR_eq, brec_eq, eff]
  rw [fb_eff rfl]
  simp only [eff]
  cases x.s.ev e.get <;> try rfl
  cases y.s.ev e.get <;> try rfl
  rename_i k a k1 b
  simp only
  cases h1 : q k <;> try rfl
  cases h2 : q k1 <;> try rfl
  obtain rfl := hq _ h1
  obtain rfl := hq _ h2
  cases k1 <;> rfl
noncomputable def kgeq (d : Slot) (x y : KSrc) (Q : QK) : KOp := ⟨⟨some d.n, none, .bin .geq x.s y.s⟩, r_geq ⟨some d.n, none, .bin .geq x.s y.s⟩ d.set x.ev y.ev Q.q, rfl, geq_ok d x y Q.q Q.k0 Q.hq⟩

noncomputable def r_teq (g : GOp) (S : Pt) (X : Gt) (Y : Gt) : Rn := fun Γ K e n t => X e fun x => dStr x (fb g Γ K e n t) fun a => Y e fun y => dStr y (fb g Γ K e n t) fun b => forceBR (eqLR a b) fun b => S (.bool b) e fun e => K e n t
theorem teq_ok (d : Slot) (x : KSrc) (y : KSrc) (Γ : Sp) (K : KK) (e : Env) (n : Nat) (t : Tr Obj) : r_teq ⟨some d.n, none, .bin .eql x.s y.s⟩ d.set x.ev y.ev Γ K e n t = fb ⟨some d.n, none, .bin .eql x.s y.s⟩ Γ K e n t := by
  rw [fb_eff rfl]
  simp only [r_teq, forceBR_eq, dStr_eq, eqLR_eq, notR_eq, d.ok, x.ok, y.ok, eff]
  rw [fb_eff rfl]
  simp only [eff]
  cases x.s.ev e.get <;> try rfl
  cases y.s.ev e.get <;> rfl
noncomputable def kteq (d : Slot) (x : KSrc) (y : KSrc) : KOp := ⟨⟨some d.n, none, .bin .eql x.s y.s⟩, r_teq ⟨some d.n, none, .bin .eql x.s y.s⟩ d.set x.ev y.ev, rfl, teq_ok d x y⟩

noncomputable def r_tne (g : GOp) (S : Pt) (X : Gt) (Y : Gt) : Rn := fun Γ K e n t => X e fun x => dStr x (fb g Γ K e n t) fun a => Y e fun y => dStr y (fb g Γ K e n t) fun b => forceBR (notR (eqLR a b)) fun b => S (.bool b) e fun e => K e n t
theorem tne_ok (d : Slot) (x : KSrc) (y : KSrc) (Γ : Sp) (K : KK) (e : Env) (n : Nat) (t : Tr Obj) : r_tne ⟨some d.n, none, .bin .neq x.s y.s⟩ d.set x.ev y.ev Γ K e n t = fb ⟨some d.n, none, .bin .neq x.s y.s⟩ Γ K e n t := by
  rw [fb_eff rfl]
  simp only [r_tne, forceBR_eq, dStr_eq, eqLR_eq, notR_eq, d.ok, x.ok, y.ok, eff]
  rw [fb_eff rfl]
  simp only [eff]
  cases x.s.ev e.get <;> try rfl
  cases y.s.ev e.get <;> rfl
noncomputable def ktne (d : Slot) (x : KSrc) (y : KSrc) : KOp := ⟨⟨some d.n, none, .bin .neq x.s y.s⟩, r_tne ⟨some d.n, none, .bin .neq x.s y.s⟩ d.set x.ev y.ev, rfl, tne_ok d x y⟩

noncomputable def r_cat (g : GOp) (S : Pt) (X : Gt) (Y : Gt) : Rn := fun Γ K e n t => X e fun x => dStr x (fb g Γ K e n t) fun a => Y e fun y => dStr y (fb g Γ K e n t) fun b => lenR a 0 fun m => lenR b m fun m => Bool.rec (motive := fun _ => Res) (fb g Γ K e n t) (appR a b fun l => S (.str l) e fun e => K e n t) (Nat.ble m maxI)
theorem cat_ok (d : Slot) (x : KSrc) (y : KSrc) (Γ : Sp) (K : KK) (e : Env) (n : Nat) (t : Tr Obj) : r_cat ⟨some d.n, none, .bin .add x.s y.s⟩ d.set x.ev y.ev Γ K e n t = fb ⟨some d.n, none, .bin .add x.s y.s⟩ Γ K e n t := by
  rw [fb_eff rfl]
  simp only [r_cat, dStr_eq, lenR_eq, appR_eq, brec_eq, d.ok, x.ok, y.ok, eff]
  rw [fb_eff rfl]
  simp only [eff]
  cases x.s.ev e.get <;> try rfl
  cases y.s.ev e.get <;> try rfl
  rename_i a b
  simp only [binV, binStr, lenL_eq, Nat.zero_add]
  cases Nat.ble (a.length + b.length) maxI <;> rfl
noncomputable def kcat (d : Slot) (x : KSrc) (y : KSrc) : KOp := ⟨⟨some d.n, none, .bin .add x.s y.s⟩, r_cat ⟨some d.n, none, .bin .add x.s y.s⟩ d.set x.ev y.ev, rfl, cat_ok d x y⟩

noncomputable def r_lens (g : GOp) (S : Pt) (X : Gt) : Rn := fun Γ K e n t => X e fun x => dStr x (fb g Γ K e n t) fun l => lenR l 0 fun m => forceNR m fun m => S (.int .i64 (.ofNat m)) e fun e => K e n t
theorem lens_ok (d : Slot) (x : KSrc) (Γ : Sp) (K : KK) (e : Env) (n : Nat) (t : Tr Obj) : r_lens ⟨some d.n, none, .len true x.s⟩ d.set x.ev Γ K e n t = fb ⟨some d.n, none, .len true x.s⟩ Γ K e n t := by
  rw [fb_eff rfl]
  simp only [r_lens, d.ok, x.ok, dStr_eq, lenR_eq, forceNR_eq, eff]
  rw [fb_eff rfl]
  simp only [eff, lenL_eq]
  cases x.s.ev e.get <;> rfl
noncomputable def klens (d : Slot) (x : KSrc) : KOp := ⟨⟨some d.n, none, .len true x.s⟩, r_lens ⟨some d.n, none, .len true x.s⟩ d.set x.ev, rfl, lens_ok d x⟩

noncomputable def r_lenl (g : GOp) (S : Pt) (X : Gt) : Rn := fun Γ K e n t => X e fun x => dSl x (dNil x (fb g Γ K e n t) (S (.int .i64 (.ofNat 0)) e fun e => K e n t)) fun _ _ m _ _ => S (.int .i64 (.ofNat m)) e fun e => K e n t
theorem lenl_ok (d : Slot) (x : KSrc) (Γ : Sp) (K : KK) (e : Env) (n : Nat) (t : Tr Obj) : r_lenl ⟨some d.n, none, .len false x.s⟩ d.set x.ev Γ K e n t = fb ⟨some d.n, none, .len false x.s⟩ Γ K e n t := by
  rw [fb_eff rfl]
  simp only [r_lenl, dSl_eq, dNil_eq, d.ok, x.ok, eff]
  rw [fb_eff rfl]
  simp only [eff]
  cases x.s.ev e.get <;> rfl
noncomputable def klenl (d : Slot) (x : KSrc) : KOp := ⟨⟨some d.n, none, .len false x.s⟩, r_lenl ⟨some d.n, none, .len false x.s⟩ d.set x.ev, rfl, lenl_ok d x⟩

noncomputable def r_idx (g : GOp) (S : Pt) (X : Gt) (Y : Gt) : Rn := fun Γ K e n t => X e fun x => dStr x (fb g Γ K e n t) fun l => Y e fun y => dInt y (fb g Γ K e n t) fun _ m => natR m (fb g Γ K e n t) fun m => nthR l m (fb g Γ K e n t) fun c => S (.int .u8 (.ofNat c)) e fun e => K e n t
theorem idx_ok (d : Slot) (x : KSrc) (y : KSrc) (Γ : Sp) (K : KK) (e : Env) (n : Nat) (t : Tr Obj) : r_idx ⟨some d.n, none, .idx x.s y.s⟩ d.set x.ev y.ev Γ K e n t = fb ⟨some d.n, none, .idx x.s y.s⟩ Γ K e n t := by
  rw [fb_eff rfl]
  simp only [r_idx, dStr_eq, dInt_eq, natR_eq, nthR_eq, d.ok, x.ok, y.ok, eff]
  rw [fb_eff rfl]
  simp only [eff]
  cases x.s.ev e.get <;> try rfl
  cases y.s.ev e.get <;> try rfl
  rename_i l k m
  cases m <;> try rfl
  rename_i m
  simp only
  cases l[m]? <;> rfl
noncomputable def kidx (d : Slot) (x : KSrc) (y : KSrc) : KOp := ⟨⟨some d.n, none, .idx x.s y.s⟩, r_idx ⟨some d.n, none, .idx x.s y.s⟩ d.set x.ev y.ev, rfl, idx_ok d x y⟩

noncomputable def r_ixa (g : GOp) (S : Pt) (sz : Nat) (X : Gt) (Y : Gt) : Rn := fun Γ K e n t => X e fun x => dSl x (fb g Γ K e n t) fun id off m sz1 _ => Y e fun y => dInt y (fb g Γ K e n t) fun _ q => natR q (fb g Γ K e n t) fun q => Bool.rec (motive := fun _ => Res) (fb g Γ K e n t) (Bool.rec (motive := fun _ => Res) (fb g Γ K e n t) (forceNR (Nat.add off (Nat.mul q sz)) fun o => S (.ptr id o) e fun e => K e n t) (Nat.beq sz sz1)) (Nat.blt q m)
theorem ixa_ok (d : Slot) (sz : Nat) (x : KSrc) (y : KSrc) (Γ : Sp) (K : KK) (e : Env) (n : Nat) (t : Tr Obj) : r_ixa ⟨some d.n, none, .ixa sz x.s y.s⟩ d.set sz x.ev y.ev Γ K e n t = fb ⟨some d.n, none, .ixa sz x.s y.s⟩ Γ K e n t := by
  rw [fb_eff rfl]
  simp only [r_ixa, dSl_eq, dInt_eq, natR_eq, brec_eq, forceNR_eq, d.ok, x.ok, y.ok, eff]
  rw [fb_eff rfl]
  simp only [eff]
  cases x.s.ev e.get <;> try rfl
  cases y.s.ev e.get <;> try rfl
  rename_i id off m sz1 c k q
  cases q <;> try rfl
  rename_i q
  simp only
  cases Nat.blt q m <;> cases Nat.beq sz sz1 <;> rfl
noncomputable def kixa (d : Slot) (sz : Nat) (x : KSrc) (y : KSrc) : KOp := ⟨⟨some d.n, none, .ixa sz x.s y.s⟩, r_ixa ⟨some d.n, none, .ixa sz x.s y.s⟩ d.set sz x.ev y.ev, rfl, ixa_ok d sz x y⟩

noncomputable def r_ixp (g : GOp) (S : Pt) (m : Nat) (sz : Nat) (X : Gt) (Y : Gt) : Rn := fun Γ K e n t => X e fun x => dPtr x (fb g Γ K e n t) fun id off => Y e fun y => dInt y (fb g Γ K e n t) fun _ q => natR q (fb g Γ K e n t) fun q => Bool.rec (motive := fun _ => Res) (fb g Γ K e n t) (forceNR (Nat.add off (Nat.mul q sz)) fun o => S (.ptr id o) e fun e => K e n t) (Nat.blt q m)
theorem ixp_ok (d : Slot) (m : Nat) (sz : Nat) (x : KSrc) (y : KSrc) (Γ : Sp) (K : KK) (e : Env) (n : Nat) (t : Tr Obj) : r_ixp ⟨some d.n, none, .ixp m sz x.s y.s⟩ d.set m sz x.ev y.ev Γ K e n t = fb ⟨some d.n, none, .ixp m sz x.s y.s⟩ Γ K e n t := by
  rw [fb_eff rfl]
  simp only [r_ixp, dPtr_eq, dInt_eq, natR_eq, brec_eq, forceNR_eq, d.ok, x.ok, y.ok, eff]
  rw [fb_eff rfl]
  simp only [eff]
  cases x.s.ev e.get <;> try rfl
  cases y.s.ev e.get <;> try rfl
  rename_i id off k q
  cases q <;> try rfl
  rename_i q
  simp only
  cases Nat.blt q m <;> rfl
noncomputable def kixp (d : Slot) (m : Nat) (sz : Nat) (x : KSrc) (y : KSrc) : KOp := ⟨⟨some d.n, none, .ixp m sz x.s y.s⟩, r_ixp ⟨some d.n, none, .ixp m sz x.s y.s⟩ d.set m sz x.ev y.ev, rfl, ixp_ok d m sz x y⟩

noncomputable def r_fad (g : GOp) (S : Pt) (off : Nat) (X : Gt) : Rn := fun Γ K e n t => X e fun x => dPtr x (fb g Γ K e n t) fun id o => forceNR (Nat.add o off) fun o => S (.ptr id o) e fun e => K e n t
theorem fad_ok (d : Slot) (off : Nat) (x : KSrc) (Γ : Sp) (K : KK) (e : Env) (n : Nat) (t : Tr Obj) : r_fad ⟨some d.n, none, .fad off x.s⟩ d.set off x.ev Γ K e n t = fb ⟨some d.n, none, .fad off x.s⟩ Γ K e n t := by
  rw [fb_eff rfl]
  simp only [r_fad, dPtr_eq, forceNR_eq, d.ok, x.ok, eff]
  rw [fb_eff rfl]
  simp only [eff]
  cases x.s.ev e.get <;> rfl
noncomputable def kfad (d : Slot) (off : Nat) (x : KSrc) : KOp := ⟨⟨some d.n, none, .fad off x.s⟩, r_fad ⟨some d.n, none, .fad off x.s⟩ d.set off x.ev, rfl, fad_ok d off x⟩

noncomputable def r_ld (g : GOp) (S : Pt) (X : Gt) : Rn := fun Γ K e n t => X e fun x => dPtr x (fb g Γ K e n t) fun id o => obR (getR t id) (fb g Γ K e n t) fun _ _ cs => nthR cs o (fb g Γ K e n t) fun c => S c e fun e => K e n t
theorem ld_ok (d : Slot) (x : KSrc) (Γ : Sp) (K : KK) (e : Env) (n : Nat) (t : Tr Obj) : r_ld ⟨some d.n, none, .ld 1 false x.s⟩ d.set x.ev Γ K e n t = fb ⟨some d.n, none, .ld 1 false x.s⟩ Γ K e n t := by
  rw [fb_eff rfl]
  simp only [r_ld, dPtr_eq, obR_eq, getR_eq, nthR_eq, d.ok, x.ok, eff]
  rw [fb_eff rfl]
  simp only [eff]
  cases x.s.ev e.get <;> try rfl
  rename_i id o
  simp only [cells?]
  cases t.get id <;> try rfl
  rename_i ob
  cases ob <;> try rfl
  rename_i e1 f cs
  simp only
  cases hc : cs[o]? with
  | none => rfl
  | some c =>
    obtain ⟨h1, h2⟩ := one_take hc
    rw [chk, Nat.ble_eq_true_of_le h1, h2]
    rfl
noncomputable def kld (d : Slot) (x : KSrc) : KOp := ⟨⟨some d.n, none, .ld 1 false x.s⟩, r_ld ⟨some d.n, none, .ld 1 false x.s⟩ d.set x.ev, rfl, ld_ok d x⟩

noncomputable def r_ldn (g : GOp) (S : Pt) (m : Nat) (X : Gt) : Rn := fun Γ K e n t => X e fun x => dPtr x (fb g Γ K e n t) fun id o => obR (getR t id) (fb g Γ K e n t) fun _ _ cs => dropR o cs fun r => takeR (Nat.succ m) r fun q => lenR q 0 fun l => Bool.rec (motive := fun _ => Res) (fb g Γ K e n t) (S (.agg q) e fun e => K e n t) (Nat.beq l (Nat.succ m))
theorem ldn_ok (d : Slot) (m : Nat) (x : KSrc) (Γ : Sp) (K : KK) (e : Env) (n : Nat) (t : Tr Obj) : r_ldn ⟨some d.n, none, .ld (m + 1) true x.s⟩ d.set m x.ev Γ K e n t = fb ⟨some d.n, none, .ld (m + 1) true x.s⟩ Γ K e n t := by
  rw [fb_eff rfl]
  simp only [r_ldn, dPtr_eq, obR_eq, getR_eq, dropR_eq, takeR_eq, lenR_eq, brec_eq, d.ok, x.ok, eff]
  rw [fb_eff rfl]
  simp only [eff]
  cases x.s.ev e.get <;> try rfl
  rename_i id o
  simp only [cells?]
  cases t.get id <;> try rfl
  rename_i ob
  cases ob <;> try rfl
  rename_i e1 f cs
  simp only [Nat.zero_add]
  cases hc : Nat.beq ((cs.drop o).take (Nat.succ m)).length (Nat.succ m) with
  | false => rfl
  | true =>
    have := all_take (Nat.eq_of_beq_eq_true hc)
    rw [chk, Nat.ble_eq_true_of_le this]
    rfl
noncomputable def kldn (d : Slot) (m : Nat) (x : KSrc) : KOp := ⟨⟨some d.n, none, .ld (m + 1) true x.s⟩, r_ldn ⟨some d.n, none, .ld (m + 1) true x.s⟩ d.set m x.ev, rfl, ldn_ok d m x⟩

noncomputable def r_fld (g : GOp) (S : Pt) (off : Nat) (X : Gt) : Rn := fun Γ K e n t => X e fun x => dAgg x (fb g Γ K e n t) fun cs => nthR cs off (fb g Γ K e n t) fun c => S c e fun e => K e n t
theorem fld_ok (d : Slot) (off : Nat) (x : KSrc) (Γ : Sp) (K : KK) (e : Env) (n : Nat) (t : Tr Obj) : r_fld ⟨some d.n, none, .fld off 1 false x.s⟩ d.set off x.ev Γ K e n t = fb ⟨some d.n, none, .fld off 1 false x.s⟩ Γ K e n t := by
  rw [fb_eff rfl]
  simp only [r_fld, dAgg_eq, nthR_eq, d.ok, x.ok, eff]
  rw [fb_eff rfl]
  simp only [eff]
  cases x.s.ev e.get <;> try rfl
  rename_i cs
  simp only
  cases hc : cs[off]? with
  | none => rfl
  | some c =>
    obtain ⟨h1, h2⟩ := one_take hc
    rw [chk, Nat.ble_eq_true_of_le h1, h2]
    rfl
noncomputable def kfld (d : Slot) (off : Nat) (x : KSrc) : KOp := ⟨⟨some d.n, none, .fld off 1 false x.s⟩, r_fld ⟨some d.n, none, .fld off 1 false x.s⟩ d.set off x.ev, rfl, fld_ok d off x⟩

noncomputable def r_fldn (g : GOp) (S : Pt) (off : Nat) (m : Nat) (X : Gt) : Rn := fun Γ K e n t => X e fun x => dAgg x (fb g Γ K e n t) fun cs => dropR off cs fun r => takeR (Nat.succ m) r fun q => lenR q 0 fun l => Bool.rec (motive := fun _ => Res) (fb g Γ K e n t) (S (.agg q) e fun e => K e n t) (Nat.beq l (Nat.succ m))
theorem fldn_ok (d : Slot) (off : Nat) (m : Nat) (x : KSrc) (Γ : Sp) (K : KK) (e : Env) (n : Nat) (t : Tr Obj) : r_fldn ⟨some d.n, none, .fld off (m + 1) true x.s⟩ d.set off m x.ev Γ K e n t = fb ⟨some d.n, none, .fld off (m + 1) true x.s⟩ Γ K e n t := by
  rw [fb_eff rfl]
  simp only [r_fldn, dAgg_eq, dropR_eq, takeR_eq, lenR_eq, brec_eq, d.ok, x.ok, eff]
  rw [fb_eff rfl]
  simp only [eff]
  cases x.s.ev e.get <;> try rfl
  rename_i cs
  simp only [Nat.zero_add]
  cases hc : Nat.beq ((cs.drop off).take (Nat.succ m)).length (Nat.succ m) with
  | false => rfl
  | true =>
    have := all_take (Nat.eq_of_beq_eq_true hc)
    rw [chk, Nat.ble_eq_true_of_le this]
    rfl
noncomputable def kfldn (d : Slot) (off : Nat) (m : Nat) (x : KSrc) : KOp := ⟨⟨some d.n, none, .fld off (m + 1) true x.s⟩, r_fldn ⟨some d.n, none, .fld off (m + 1) true x.s⟩ d.set off m x.ev, rfl, fldn_ok d off m x⟩

noncomputable def r_st (g : GOp) (X : Gt) (Y : Gt) : Rn := fun Γ K e n t => X e fun x => dPtr x (fb g Γ K e n t) fun id o => Y e fun v => obR (getR t id) (fb g Γ K e n t) fun e1 f cs => Bool.rec (motive := fun _ => Res) (fb g Γ K e n t) (setNthR v cs o (fb g Γ K e n t) fun cs => setR t id (some (.cells e1 f cs)) fun t => K e n t) (oneR v)
theorem st_ok (x : KSrc) (y : KSrc) (Γ : Sp) (K : KK) (e : Env) (n : Nat) (t : Tr Obj) : r_st ⟨none, none, .st 1 x.s y.s⟩ x.ev y.ev Γ K e n t = fb ⟨none, none, .st 1 x.s y.s⟩ Γ K e n t := by
  rw [fb_eff rfl]
  simp only [r_st, x.ok, y.ok, dPtr_eq, obR_eq, getR_eq, setNthR_eq, setR_eq, brec_eq, oneR_eq, eff]
  rw [fb_eff rfl]
  simp only [eff]
  cases x.s.ev e.get <;> try rfl
  rename_i id o
  simp only [cells?]
  cases t.get id <;> try rfl
  rename_i ob
  cases ob <;> try rfl
  rename_i e1 f cs
  simp only
  cases hv : (y.s.ev e.get).one with
  | false => rfl
  | true =>
    simp only [cond_true, cells_one hv, List.all_cons, List.all_nil, hv, Bool.and_true, List.length_singleton]
    cases Nat.ble (o + 1) cs.length <;> rfl
noncomputable def kst (x : KSrc) (y : KSrc) : KOp := ⟨⟨none, none, .st 1 x.s y.s⟩, r_st ⟨none, none, .st 1 x.s y.s⟩ x.ev y.ev, rfl, st_ok x y⟩

noncomputable def r_ext (g : GOp) (S : Pt) (i : Nat) (X : Gt) : Rn := fun Γ K e n t => X e fun x => dTup x (fb g Γ K e n t) fun l => nthR l i (fb g Γ K e n t) fun c => S c e fun e => K e n t
theorem ext_ok (d : Slot) (i : Nat) (x : KSrc) (Γ : Sp) (K : KK) (e : Env) (n : Nat) (t : Tr Obj) : r_ext ⟨some d.n, none, .ext i x.s⟩ d.set i x.ev Γ K e n t = fb ⟨some d.n, none, .ext i x.s⟩ Γ K e n t := by
  rw [fb_eff rfl]
  simp only [r_ext, dTup_eq, nthR_eq, d.ok, x.ok, eff]
  rw [fb_eff rfl]
  simp only [eff]
  cases x.s.ev e.get <;> try rfl
  rename_i l
  simp only
  cases l[i]? <;> rfl
noncomputable def kext (d : Slot) (i : Nat) (x : KSrc) : KOp := ⟨⟨some d.n, none, .ext i x.s⟩, r_ext ⟨some d.n, none, .ext i x.s⟩ d.set i x.ev, rfl, ext_ok d i x⟩

noncomputable def r_nck (g : GOp) (S : Pt) (X : Gt) : Rn := fun Γ K e n t => X e fun x => dPtr x (fb g Γ K e n t) fun _ _ => S x e fun e => K e n t
theorem nck_ok (d : Slot) (x : KSrc) (Γ : Sp) (K : KK) (e : Env) (n : Nat) (t : Tr Obj) : r_nck ⟨some d.n, none, .nck x.s⟩ d.set x.ev Γ K e n t = fb ⟨some d.n, none, .nck x.s⟩ Γ K e n t := by
  rw [fb_eff rfl]
  simp only [r_nck, dPtr_eq, d.ok, x.ok, eff]
  rw [fb_eff rfl]
  simp only [eff]
  cases x.s.ev e.get <;> rfl
noncomputable def knck (d : Slot) (x : KSrc) : KOp := ⟨⟨some d.n, none, .nck x.s⟩, r_nck ⟨some d.n, none, .nck x.s⟩ d.set x.ev, rfl, nck_ok d x⟩

/-- are all of one cell? -/
noncomputable def allR : List D → Bool := @List.rec D (fun _ => Bool) true (fun c _ ih => Bool.rec (motive := fun _ => Bool) false ih (oneR c))
theorem allR_eq : ∀ cs : List D, allR cs = cs.all D.one
  | [] => rfl
  | c :: cs => by
    show Bool.rec (motive := fun _ => Bool) false (allR cs) (oneR c) = _
    rw [brec_eq, allR_eq cs, oneR_eq]
    cases h : c.one <;> simp [h]
noncomputable def argsR : List Gt → Env → (List D → Res) → Res := @List.rec Gt (fun _ => Env → (List D → Res) → Res) (fun _ k => k []) (fun X _ ih e k => X e fun v => ih e fun l => k (v :: l))
theorem argsR_eq : ∀ (l : List KSrc) (e : Env) (k : List D → Res), argsR (l.map (·.ev)) e k = k ((l.map (·.s)).map (·.ev e.get))
  | [], _, _ => rfl
  | x :: l, e, k => by
    show (x.ev e fun v => argsR (l.map (·.ev)) e fun l => k (v :: l)) = _
    rw [x.ok, argsR_eq l]
    rfl
theorem vals_map {ps : List ASrc} {E : Nat → D} {at_ q : Nat} (h : (ps.map (·.ev E)).all D.one = true) : (chk (ps.all fun x => (x.ev E).cells.all D.one && Nat.beq (x.ev E).cells.length 1) (some (D.sl at_ 0 ps.length 1 (some ps.length), [(at_, some (Obj.cells q true (ps.flatMap fun x => (x.ev E).cells)))]))) =
    some (D.sl at_ 0 ps.length 1 (some ps.length), [(at_, some (Obj.cells q true (ps.map (·.ev E))))]) := by
  have h0 : ∀ x ∈ ps, (x.ev E).one = true := fun x hx => List.all_eq_true.1 h _ (List.mem_map.2 ⟨x, hx, rfl⟩)
  have h1 : (ps.all fun x => (x.ev E).cells.all D.one && Nat.beq (x.ev E).cells.length 1) = true := by
    rw [List.all_eq_true]
    intro x hx
    rw [cells_one (h0 x hx)]
    simp [h0 x hx]
  have h2 : (ps.flatMap fun x => (x.ev E).cells) = ps.map (·.ev E) := by
    clear h h1
    induction ps with
    | nil => rfl
    | cons x ps ih =>
      rw [List.flatMap_cons, ih (fun y hy => h0 y (by simp [hy])), cells_one (h0 x (by simp)), List.map_cons]
      rfl
  rw [h1, h2]
  simp [chk]

noncomputable def r_new (S : Pt) (q : Nat) (zero : List D) (at_ n : Nat) (K : KK) (e : Env) (t : Tr Obj) : Res := setR t at_ (some (.cells q true zero)) fun t => S (.ptr at_ 0) e fun e => K e n t
theorem new_ok (d : Slot) (q : Nat) (zero : List D) (Γ : Sp) (at_ n n0 m : Nat) (K : KK) (e : Env) (t : Tr Obj) : r_new d.set q zero at_ n K e t = gstep Γ at_ n n0 [] ⟨some d.n, none, .new q zero⟩ ⟨e, ⟨m, t⟩⟩ (up K) := by
  rw [gstep_eff rfl]
  simp only [r_new, d.ok, setR_eq, eff]
  rfl
noncomputable def knew (d : Slot) (q : Nat) (zero : List D) : KMk := ⟨⟨some d.n, none, .new q zero⟩, r_new d.set q zero, rfl, new_ok d q zero⟩

noncomputable def r_box (g : IOp) (gd : Option Nat) (S : Pt) (q : Nat) (X : Gt) (at_ n : Nat) (K : KK) (e : Env) (t : Tr Obj) : Res := X e fun x => dAgg x (Bool.rec (motive := fun _ => Res) (r_mkb g gd at_ n K e t) (setR t at_ (some (.cells q true [x])) fun t => S (.ptr at_ 0) e fun e => K e n t) (oneR x)) fun cs => Bool.rec (motive := fun _ => Res) (r_mkb g gd at_ n K e t) (setR t at_ (some (.cells q true cs)) fun t => S (.ptr at_ 0) e fun e => K e n t) (allR cs)
theorem box_ok (d : Slot) (q : Nat) (x : KSrc) (Γ : Sp) (at_ n n0 m : Nat) (K : KK) (e : Env) (t : Tr Obj) : r_box (.box q x.s) (some d.n) d.set q x.ev at_ n K e t = gstep Γ at_ n n0 [] ⟨some d.n, none, .box q x.s⟩ ⟨e, ⟨m, t⟩⟩ (up K) := by
  rw [gstep_eff rfl]
  simp only [r_box, r_mkb, d.ok, x.ok, setR_eq, dAgg_eq, brec_eq, oneR_eq, allR_eq, eff]
  rw [gstep_eff rfl]
  simp only [eff]
  cases hx : x.s.ev e.get <;> first | rfl | skip
  rename_i cs
  simp only [D.cells]
  cases cs.all D.one <;> rfl
noncomputable def kbox (d : Slot) (q : Nat) (x : KSrc) : KMk := ⟨⟨some d.n, none, .box q x.s⟩, r_box (.box q x.s) (some d.n) d.set q x.ev, rfl, box_ok d q x⟩

noncomputable def r_bsl (g : IOp) (gd : Option Nat) (S : Pt) (q : Nat) (Ps : List Gt) (at_ n : Nat) (K : KK) (e : Env) (t : Tr Obj) : Res := argsR Ps e fun cs => Bool.rec (motive := fun _ => Res) (r_mkb g gd at_ n K e t) (lenR cs 0 fun m => forceNR m fun m => setR t at_ (some (.cells q true cs)) fun t => S (.sl at_ 0 m 1 (some m)) e fun e => K e n t) (allR cs)
theorem bsl_ok (d : Slot) (q : Nat) (ps : List KSrc) (Γ : Sp) (at_ n n0 m : Nat) (K : KK) (e : Env) (t : Tr Obj) : r_bsl (.bsl q 1 (ps.map (·.s))) (some d.n) d.set q (ps.map (·.ev)) at_ n K e t = gstep Γ at_ n n0 [] ⟨some d.n, none, .bsl q 1 (ps.map (·.s))⟩ ⟨e, ⟨m, t⟩⟩ (up K) := by
  rw [gstep_eff rfl]
  simp only [r_bsl, r_mkb, d.ok, setR_eq, argsR_eq, lenR_eq, forceNR_eq, allR_eq, brec_eq]
  rw [gstep_eff rfl]
  cases hv : ((ps.map (·.s)).map (·.ev e.get)).all D.one with
  | false => rfl
  | true =>
    simp only [eff, vals_map hv]
    simp [putE, Hp.puts, Hp.put]
noncomputable def kbsl (d : Slot) (q : Nat) (ps : List KSrc) : KMk := ⟨⟨some d.n, none, .bsl q 1 (ps.map (·.s))⟩, r_bsl (.bsl q 1 (ps.map (·.s))) (some d.n) d.set q (ps.map (·.ev)), rfl, bsl_ok d q ps⟩
noncomputable def appX (S : Pt) (q sz by_ : Nat) (x : D) (ny : Nat) (news : List D) (at_ n : Nat) (K : KK) (e : Env) (t : Tr Obj) (o : Res) : Res :=
  dSl x (dNil x o (Bool.rec (motive := fun _ => Res) o (setR t at_ (some (.cells q false news)) fun r => S (.sl at_ 0 ny sz none) e fun e => K e n r) (Nat.ble (Nat.mul ny by_) reach))) fun id off len sz1 cap =>
    Option.rec (motive := fun _ => Res) (obR (getR t id) o fun e1 f cs => lenR cs 0 fun m => Bool.rec (motive := fun _ => Res) o (Bool.rec (motive := fun _ => Res) o (Bool.rec (motive := fun _ => Res) o (Bool.rec (motive := fun _ => Res) o (Bool.rec (motive := fun _ => Res) o (Bool.rec (motive := fun _ => Res)
      (appR cs news fun l => setR t id none fun r => setR r at_ (some (.cells q false l)) fun r => forceNR (Nat.add len ny) fun q => S (.sl at_ 0 q sz none) e fun e => K e n r) o f)
      (Nat.beq q e1)) (Nat.beq (Nat.mul len sz) m)) (Nat.beq off 0)) (Nat.ble (Nat.mul (Nat.add len ny) by_) reach)) (Nat.beq sz sz1)) (fun _ => o) cap

noncomputable def r_app (g : IOp) (gd : Option Nat) (S : Pt) (q sz by_ : Nat) (X : Gt) (Y : Gt) (at_ n : Nat) (K : KK) (e : Env) (t : Tr Obj) : Res := Y e fun y => dSl y (r_mkb g gd at_ n K e t) fun idy offy ny szy _ => obR (getR t idy) (r_mkb g gd at_ n K e t) fun _ _ csy => dropR offy csy fun r => takeR (Nat.mul ny szy) r fun news => lenR news 0 fun m => Bool.rec (motive := fun _ => Res) (r_mkb g gd at_ n K e t) (Bool.rec (motive := fun _ => Res) (r_mkb g gd at_ n K e t) (Bool.rec (motive := fun _ => Res) (r_mkb g gd at_ n K e t) (X e fun x => appX S q sz by_ x ny news at_ n K e t (r_mkb g gd at_ n K e t)) (Nat.blt 0 m)) (Nat.beq m (Nat.mul ny sz))) (Nat.beq szy sz)
theorem app_ok (d : Slot) (q sz by_ : Nat) (x : KSrc) (y : KSrc) (Γ : Sp) (at_ n n0 m : Nat) (K : KK) (e : Env) (t : Tr Obj) : r_app (.app q sz by_ x.s y.s) (some d.n) d.set q sz by_ x.ev y.ev at_ n K e t = gstep Γ at_ n n0 [] ⟨some d.n, none, .app q sz by_ x.s y.s⟩ ⟨e, ⟨m, t⟩⟩ (up K) := by
  rw [gstep_eff rfl]
  simp only [r_app, appX, r_mkb, forceNR_eq, d.ok, x.ok, y.ok, setR_eq, dSl_eq, dNil_eq, obR_eq, getR_eq, dropR_eq, takeR_eq, lenR_eq, appR_eq, brec_eq, eff]
  rw [gstep_eff rfl]
  simp only [eff]
  cases hy : y.s.ev e.get <;> try rfl
  rename_i idy offy ny szy capy
  simp only [slCells, cells?]
  cases hob : t.get idy <;> try rfl
  rename_i ob
  cases ob <;> try rfl
  rename_i e1 f1 csy
  simp only [Nat.zero_add]
  cases h1 : Nat.beq szy sz with
  | false => rfl
  | true =>
    have e1 := Nat.eq_of_beq_eq_true h1
    subst e1
    cases h2 : Nat.beq ((csy.drop offy).take (Nat.mul ny szy)).length (Nat.mul ny szy) with
    | false => rfl
    | true =>
      cases h3 : Nat.blt 0 ((csy.drop offy).take (Nat.mul ny szy)).length with
      | false => rfl
      | true =>
        have e2 := Nat.eq_of_beq_eq_true h2
        have e3 : 0 < ((csy.drop offy).take (Nat.mul ny szy)).length := by simpa [Nat.blt_eq] using h3
        have e4 : offy + ny * szy ≤ csy.length := by
          rw [List.length_take, List.length_drop] at e2 e3
          have : Nat.mul ny szy = ny * szy := rfl
          omega
        have e5 : Nat.beq ny 0 = false := by
          cases ny with
          | zero => simp at e3
          | succ ny => rfl
        have e6 : Nat.beq (lenL ((csy.drop offy).take (ny * szy)) 0) (ny * szy) = true := by rw [lenL_eq, Nat.zero_add]; exact h2
        simp only [cond_true, chk, Nat.ble_eq_true_of_le e4, e6]
        generalize hnews : (csy.drop offy).take (ny * szy) = news
        have hnews' : (csy.drop offy).take (Nat.mul ny szy) = news := hnews
        try simp only [hnews']
        cases hx : x.s.ev e.get <;> try rfl
        · simp only [e5, cond_false]
          cases Nat.ble (ny * by_) reach <;> rfl
        · rename_i id off len sz1 cap
          try simp only
          cases hox : t.get id with
          | none => cases cap <;> rfl
          | some ob =>
            cases ob
            · rename_i e7 f7 cs
              try simp only [e5, cond_false]
              cases cap with
              | some c => rfl
              | none =>
                simp only
                cases Nat.beq szy sz1 <;> cases Nat.ble ((len + ny) * by_) reach <;> cases Nat.beq off 0 <;> cases Nat.beq (len * szy) cs.length <;> cases Nat.beq q e7 <;> cases f7 <;> rfl
            · cases cap <;> rfl
noncomputable def kapp (d : Slot) (q sz by_ : Nat) (x : KSrc) (y : KSrc) : KMk := ⟨⟨some d.n, none, .app q sz by_ x.s y.s⟩, r_app (.app q sz by_ x.s y.s) (some d.n) d.set q sz by_ x.ev y.ev, rfl, app_ok d q sz by_ x y⟩

/-- a call -/
noncomputable def retR : Res → (D → Nat → Tr Obj → Res) → Res := @Option.rec (D × Hp) (fun _ => (D → Nat → Tr Obj → Res) → Res) (fun _ => none) (@Prod.rec D Hp (fun _ => (D → Nat → Tr Obj → Res) → Res) (fun v h k => Hp.rec (motive := fun _ => Res) (fun n t => k v n t) h))
theorem retR_eq (r : Res) (k : D → Nat → Tr Obj → Res) : retR r k = match r with | some (v, hp) => k v hp.n hp.t | none => none := by
  cases r with
  | none => rfl
  | some p => rfl
noncomputable def r_call (S : Pt) (f : Nat) (As : List Gt) : Rn := fun Γ K e n t => argsR As e fun l => retR (Γ f l ⟨n, t⟩) fun v n t => S v e fun e => K e n t
theorem call_ok (d : Slot) (f : Nat) (as : List KSrc) (Γ : Sp) (K : KK) (e : Env) (n : Nat) (t : Tr Obj) : r_call d.set f (as.map (·.ev)) Γ K e n t = fb ⟨some d.n, none, .call f (as.map (·.s))⟩ Γ K e n t := by
  simp only [r_call, retR_eq, argsR_eq, d.ok]
  simp only [fb, gstep, step, IOp.isCall, cond_true, stepC, hide, back, List.map_nil, Hp.puts, List.foldl_nil]
  show _ = match Γ f ((as.map (·.s)).map (·.ev e.get)) ⟨n, t⟩ with | some (v, hp) => _ | none => _
  cases Γ f ((as.map (·.s)).map (·.ev e.get)) ⟨n, t⟩ <;> rfl
noncomputable def kcall (d : Slot) (f : Nat) (as : List KSrc) : KOp := ⟨⟨some d.n, none, .call f (as.map (·.s))⟩, r_call d.set f (as.map (·.ev)), rfl, call_ok d f as⟩
noncomputable def r_cal0 (f : Nat) (As : List Gt) : Rn := fun Γ K e n t => argsR As e fun l => retR (Γ f l ⟨n, t⟩) fun v n t => K e n t
theorem cal0_ok (f : Nat) (as : List KSrc) (Γ : Sp) (K : KK) (e : Env) (n : Nat) (t : Tr Obj) : r_cal0 f (as.map (·.ev)) Γ K e n t = fb ⟨none, none, .call f (as.map (·.s))⟩ Γ K e n t := by
  simp only [r_cal0, retR_eq, argsR_eq]
  simp only [fb, gstep, step, IOp.isCall, cond_true, stepC, hide, back, List.map_nil, Hp.puts, List.foldl_nil]
  show _ = match Γ f ((as.map (·.s)).map (·.ev e.get)) ⟨n, t⟩ with | some (v, hp) => _ | none => _
  cases Γ f ((as.map (·.s)).map (·.ev e.get)) ⟨n, t⟩ <;> rfl
noncomputable def kcal0 (f : Nat) (as : List KSrc) : KOp := ⟨⟨none, none, .call f (as.map (·.s))⟩, r_cal0 f (as.map (·.ev)), rfl, cal0_ok f as⟩

noncomputable def dN1 : D → Res → Res → Res → Res := @D.rec (fun _ => Res → Res → Res → Res) (fun _ => Unit) (fun o _ _ => o) (fun _ o _ _ => o) (fun _ _ o _ _ => o) (fun _ o _ _ => o) (fun _ a _ => a) (fun _ _ _ _ b => b) (fun o _ _ => o) (fun o _ _ => o) (fun _ _ _ _ _ o _ _ => o) (fun _ _ o _ _ => o) (fun _ _ o _ _ => o) (fun _ _ _ o _ _ => o) (fun o _ _ => o) (fun o _ _ => o) (fun _ o _ _ => o) (fun o _ _ => o) (fun _ _ => (fun o _ _ => o)) () (fun _ _ _ _ => ())
noncomputable def dN2 : D → Res → Res → Res → Res := @D.rec (fun _ => Res → Res → Res → Res) (fun _ => Unit) (fun o _ _ => o) (fun _ o _ _ => o) (fun _ _ o _ _ => o) (fun _ o _ _ => o) (fun o _ _ => o) (fun _ _ o _ _ => o) (fun _ a _ => a) (fun _ _ b => b) (fun _ _ _ _ _ _ _ b => b) (fun _ _ o _ _ => o) (fun _ _ o _ _ => o) (fun _ _ _ o _ _ => o) (fun o _ _ => o) (fun o _ _ => o) (fun _ o _ _ => o) (fun o _ _ => o) (fun _ _ => (fun o _ _ => o)) () (fun _ _ _ _ => ())
noncomputable def dN3 : D → Res → Res → Res → Res := @D.rec (fun _ => Res → Res → Res → Res) (fun _ => Unit) (fun o _ _ => o) (fun _ o _ _ => o) (fun _ _ o _ _ => o) (fun _ o _ _ => o) (fun o _ _ => o) (fun _ _ o _ _ => o) (fun o _ _ => o) (fun o _ _ => o) (fun _ _ _ _ _ o _ _ => o) (fun _ _ o _ _ => o) (fun _ _ o _ _ => o) (fun _ _ _ o _ _ => o) (fun o _ _ => o) (fun o _ _ => o) (fun _ _ _ b => b) (fun _ a _ => a) (fun _ _ => (fun o _ _ => o)) () (fun _ _ _ _ => ())
noncomputable def dN4 : D → Res → Res → Res → Res := @D.rec (fun _ => Res → Res → Res → Res) (fun _ => Unit) (fun o _ _ => o) (fun _ o _ _ => o) (fun _ _ o _ _ => o) (fun _ o _ _ => o) (fun o _ _ => o) (fun _ _ o _ _ => o) (fun o _ _ => o) (fun o _ _ => o) (fun _ _ _ _ _ o _ _ => o) (fun _ _ o _ _ => o) (fun _ _ o _ _ => o) (fun _ _ _ _ _ b => b) (fun _ a _ => a) (fun o _ _ => o) (fun _ o _ _ => o) (fun o _ _ => o) (fun _ _ => (fun o _ _ => o)) () (fun _ _ _ _ => ())
noncomputable def dFn : D → Res → (Nat → List D → Res) → Res := @D.rec (fun _ => Res → (Nat → List D → Res) → Res) (fun _ => Unit) (fun o _ => o) (fun _ o _ => o) (fun _ _ o _ => o) (fun _ o _ => o) (fun o _ => o) (fun _ _ o _ => o) (fun o _ => o) (fun o _ => o) (fun _ _ _ _ _ o _ => o) (fun _ _ o _ => o) (fun _ _ o _ => o) (fun f l _ _ k => k f l) (fun o _ => o) (fun o _ => o) (fun _ o _ => o) (fun o _ => o) (fun _ _ => (fun o _ => o)) () (fun _ _ _ _ => ())
noncomputable def vcells : D → (List D → Res) → Res := @D.rec (fun _ => (List D → Res) → Res) (fun _ => Unit) (fun k => k [.undef]) (fun b k => k [.bool b]) (fun t n k => k [.int t n]) (fun l k => k [.str l]) (fun k => k [.nilp]) (fun i j k => k [.ptr i j]) (fun k => k [.nils]) (fun k => k [.emp]) (fun a b c d e k => k [.sl a b c d e]) (fun l _ k => k l) (fun l _ k => k [.tup l]) (fun f l _ k => k [.fn f l]) (fun k => k [.nilf]) (fun k => k [.nilif]) (fun i k => k [.mp i]) (fun k => k [.nilm]) (fun t i k => k [.sym t i]) () (fun _ _ _ _ => ())
theorem dN1_eq (d : D) (o a b : Res) : dN1 d o a b = match d with | .nilp => a | .ptr _ _ => b | _ => o := by cases d <;> rfl
theorem dN2_eq (d : D) (o a b : Res) : dN2 d o a b = match d with | .nils => a | .sl .. => b | .emp => b | _ => o := by cases d <;> rfl
theorem dN3_eq (d : D) (o a b : Res) : dN3 d o a b = match d with | .nilm => a | .mp _ => b | _ => o := by cases d <;> rfl
theorem dN4_eq (d : D) (o a b : Res) : dN4 d o a b = match d with | .nilf => a | .fn _ _ => b | _ => o := by cases d <;> rfl
theorem dFn_eq (d : D) (o : Res) (k : Nat → List D → Res) : dFn d o k = match d with | .fn f l => k f l | _ => o := by cases d <;> rfl
theorem vcells_eq (d : D) (k : List D → Res) : vcells d k = k d.cells := by cases d <;> rfl

noncomputable def r_en1 (g : GOp) (S : Pt) (neg : Bool) (X : Gt) (Y : Gt) : Rn := fun Γ K e n t => X e fun x => Y e fun y => dN1 x (fb g Γ K e n t) (dN1 y (fb g Γ K e n t) (forceBR (Bool.rec (motive := fun _ => Bool) true false neg) fun b => S (.bool b) e fun e => K e n t) (forceBR (Bool.rec (motive := fun _ => Bool) false true neg) fun b => S (.bool b) e fun e => K e n t)) (dN1 y (fb g Γ K e n t) (forceBR (Bool.rec (motive := fun _ => Bool) false true neg) fun b => S (.bool b) e fun e => K e n t) (fb g Γ K e n t))
theorem en1_ok (d : Slot) (neg : Bool) (x : KSrc) (y : KSrc) (Γ : Sp) (K : KK) (e : Env) (n : Nat) (t : Tr Obj) : r_en1 ⟨some d.n, none, .eq 1 neg x.s y.s⟩ d.set neg x.ev y.ev Γ K e n t = fb ⟨some d.n, none, .eq 1 neg x.s y.s⟩ Γ K e n t := by
  rw [fb_eff rfl]
  simp only [r_en1, d.ok, x.ok, y.ok, dN1_eq, forceBR_eq, brec_eq, eff]
  rw [fb_eff rfl]
  simp only [eff]
  cases x.s.ev e.get <;> try rfl
  all_goals cases y.s.ev e.get <;> try rfl
  all_goals cases neg <;> rfl
noncomputable def ken1 (d : Slot) (neg : Bool) (x : KSrc) (y : KSrc) : KOp := ⟨⟨some d.n, none, .eq 1 neg x.s y.s⟩, r_en1 ⟨some d.n, none, .eq 1 neg x.s y.s⟩ d.set neg x.ev y.ev, rfl, en1_ok d neg x y⟩

noncomputable def r_en2 (g : GOp) (S : Pt) (neg : Bool) (X : Gt) (Y : Gt) : Rn := fun Γ K e n t => X e fun x => Y e fun y => dN2 x (fb g Γ K e n t) (dN2 y (fb g Γ K e n t) (forceBR (Bool.rec (motive := fun _ => Bool) true false neg) fun b => S (.bool b) e fun e => K e n t) (forceBR (Bool.rec (motive := fun _ => Bool) false true neg) fun b => S (.bool b) e fun e => K e n t)) (dN2 y (fb g Γ K e n t) (forceBR (Bool.rec (motive := fun _ => Bool) false true neg) fun b => S (.bool b) e fun e => K e n t) (fb g Γ K e n t))
theorem en2_ok (d : Slot) (neg : Bool) (x : KSrc) (y : KSrc) (Γ : Sp) (K : KK) (e : Env) (n : Nat) (t : Tr Obj) : r_en2 ⟨some d.n, none, .eq 2 neg x.s y.s⟩ d.set neg x.ev y.ev Γ K e n t = fb ⟨some d.n, none, .eq 2 neg x.s y.s⟩ Γ K e n t := by
  rw [fb_eff rfl]
  simp only [r_en2, d.ok, x.ok, y.ok, dN2_eq, forceBR_eq, brec_eq, eff]
  rw [fb_eff rfl]
  simp only [eff]
  cases x.s.ev e.get <;> try rfl
  all_goals cases y.s.ev e.get <;> try rfl
  all_goals cases neg <;> rfl
noncomputable def ken2 (d : Slot) (neg : Bool) (x : KSrc) (y : KSrc) : KOp := ⟨⟨some d.n, none, .eq 2 neg x.s y.s⟩, r_en2 ⟨some d.n, none, .eq 2 neg x.s y.s⟩ d.set neg x.ev y.ev, rfl, en2_ok d neg x y⟩

noncomputable def r_en3 (g : GOp) (S : Pt) (neg : Bool) (X : Gt) (Y : Gt) : Rn := fun Γ K e n t => X e fun x => Y e fun y => dN3 x (fb g Γ K e n t) (dN3 y (fb g Γ K e n t) (forceBR (Bool.rec (motive := fun _ => Bool) true false neg) fun b => S (.bool b) e fun e => K e n t) (forceBR (Bool.rec (motive := fun _ => Bool) false true neg) fun b => S (.bool b) e fun e => K e n t)) (dN3 y (fb g Γ K e n t) (forceBR (Bool.rec (motive := fun _ => Bool) false true neg) fun b => S (.bool b) e fun e => K e n t) (fb g Γ K e n t))
theorem en3_ok (d : Slot) (neg : Bool) (x : KSrc) (y : KSrc) (Γ : Sp) (K : KK) (e : Env) (n : Nat) (t : Tr Obj) : r_en3 ⟨some d.n, none, .eq 3 neg x.s y.s⟩ d.set neg x.ev y.ev Γ K e n t = fb ⟨some d.n, none, .eq 3 neg x.s y.s⟩ Γ K e n t := by
  rw [fb_eff rfl]
  simp only [r_en3, d.ok, x.ok, y.ok, dN3_eq, forceBR_eq, brec_eq, eff]
  rw [fb_eff rfl]
  simp only [eff]
  cases x.s.ev e.get <;> try rfl
  all_goals cases y.s.ev e.get <;> try rfl
  all_goals cases neg <;> rfl
noncomputable def ken3 (d : Slot) (neg : Bool) (x : KSrc) (y : KSrc) : KOp := ⟨⟨some d.n, none, .eq 3 neg x.s y.s⟩, r_en3 ⟨some d.n, none, .eq 3 neg x.s y.s⟩ d.set neg x.ev y.ev, rfl, en3_ok d neg x y⟩

noncomputable def r_en4 (g : GOp) (S : Pt) (neg : Bool) (X : Gt) (Y : Gt) : Rn := fun Γ K e n t => X e fun x => Y e fun y => dN4 x (fb g Γ K e n t) (dN4 y (fb g Γ K e n t) (forceBR (Bool.rec (motive := fun _ => Bool) true false neg) fun b => S (.bool b) e fun e => K e n t) (forceBR (Bool.rec (motive := fun _ => Bool) false true neg) fun b => S (.bool b) e fun e => K e n t)) (dN4 y (fb g Γ K e n t) (forceBR (Bool.rec (motive := fun _ => Bool) false true neg) fun b => S (.bool b) e fun e => K e n t) (fb g Γ K e n t))
theorem en4_ok (d : Slot) (neg : Bool) (x : KSrc) (y : KSrc) (Γ : Sp) (K : KK) (e : Env) (n : Nat) (t : Tr Obj) : r_en4 ⟨some d.n, none, .eq 4 neg x.s y.s⟩ d.set neg x.ev y.ev Γ K e n t = fb ⟨some d.n, none, .eq 4 neg x.s y.s⟩ Γ K e n t := by
  rw [fb_eff rfl]
  simp only [r_en4, d.ok, x.ok, y.ok, dN4_eq, forceBR_eq, brec_eq, eff]
  rw [fb_eff rfl]
  simp only [eff]
  cases x.s.ev e.get <;> try rfl
  all_goals cases y.s.ev e.get <;> try rfl
  all_goals cases neg <;> rfl
noncomputable def ken4 (d : Slot) (neg : Bool) (x : KSrc) (y : KSrc) : KOp := ⟨⟨some d.n, none, .eq 4 neg x.s y.s⟩, r_en4 ⟨some d.n, none, .eq 4 neg x.s y.s⟩ d.set neg x.ev y.ev, rfl, en4_ok d neg x y⟩

noncomputable def r_en0 (g : GOp) (S : Pt) (neg : Bool) (X : Gt) (Y : Gt) : Rn := fun Γ K e n t => X e fun x => Y e fun y => dBool x (fb g Γ K e n t) fun a => dBool y (fb g Γ K e n t) fun b => forceBR (Bool.rec (motive := fun _ => Bool) (Bool.rec (motive := fun _ => Bool) (notR b) b a) (notR (Bool.rec (motive := fun _ => Bool) (notR b) b a)) neg) fun b => S (.bool b) e fun e => K e n t
theorem en0_ok (d : Slot) (neg : Bool) (x : KSrc) (y : KSrc) (Γ : Sp) (K : KK) (e : Env) (n : Nat) (t : Tr Obj) : r_en0 ⟨some d.n, none, .eq 0 neg x.s y.s⟩ d.set neg x.ev y.ev Γ K e n t = fb ⟨some d.n, none, .eq 0 neg x.s y.s⟩ Γ K e n t := by
  rw [fb_eff rfl]
  simp only [r_en0, d.ok, x.ok, y.ok, dBool_eq, forceBR_eq, brec_eq, notR_eq, eff]
  rw [fb_eff rfl]
  simp only [eff]
  cases x.s.ev e.get <;> try rfl
  cases y.s.ev e.get <;> try rfl
  rename_i a b
  cases neg <;> cases a <;> cases b <;> rfl
noncomputable def ken0 (d : Slot) (neg : Bool) (x : KSrc) (y : KSrc) : KOp := ⟨⟨some d.n, none, .eq 0 neg x.s y.s⟩, r_en0 ⟨some d.n, none, .eq 0 neg x.s y.s⟩ d.set neg x.ev y.ev, rfl, en0_ok d neg x y⟩

noncomputable def oR : Option Gt → Env → Res → Nat → (Nat → Res) → Res := @Option.rec Gt (fun _ => Env → Res → Nat → (Nat → Res) → Res) (fun _ _ d k => k d) (fun G e o _ k => G e fun v => dInt v o fun _ m => natR m o k)
/-- a slice expression's ends -/
noncomputable def endsR (lo hi : Option Gt) (e : Env) (L : Nat) (o : Res) (k : Nat → Nat → Res) : Res := oR lo e o 0 fun a => oR hi e o L fun b => Bool.rec (motive := fun _ => Res) o (Bool.rec (motive := fun _ => Res) o (k a b) (Nat.ble a b)) (Nat.ble b L)
theorem endsR_eq (lo hi : Option KSrc) (e : Env) (L : Nat) (o : Res) (k : Nat → Nat → Res) : endsR (lo.map (·.ev)) (hi.map (·.ev)) e L o k = match ends L (osrc e.get (lo.map (·.s))) (osrc e.get (hi.map (·.s))) with | some (a, b) => k a b | none => o := by
  have nn : ∀ v : D, (∃ kk m, v = .int kk (.ofNat m)) ∨ ∀ k : Nat → Res, (dInt v o fun _ m => natR m o k) = o := fun v => by
    cases v <;> first | (right; intro k; rfl) | skip
    rename_i t n
    cases n
    · exact .inl ⟨_, _, rfl⟩
    · exact .inr fun _ => rfl
  have ne : ∀ v : D, (∀ kk m, v ≠ .int kk (.ofNat m)) → ∀ u, ends L (some v) u = none := fun v hv u => by
    cases v <;> first | (cases u <;> rfl) | skip
    rename_i t n
    cases n with
    | ofNat m => exact absurd rfl (hv _ _)
    | negSucc m => cases u <;> rfl
  have ne2 : ∀ v : D, (∀ kk m, v ≠ .int kk (.ofNat m)) → ∀ u, ends L u (some v) = none := fun v hv u => by
    cases u with
    | none =>
      cases v <;> first | rfl | skip
      rename_i t n
      cases n with
      | ofNat m => exact absurd rfl (hv _ _)
      | negSucc m => rfl
    | some u =>
      cases u <;> first | rfl | skip
      rename_i t n
      cases n <;> first | rfl | skip
      cases v <;> first | rfl | skip
      rename_i t' n'
      cases n' with
      | ofNat m => exact absurd rfl (hv _ _)
      | negSucc m => rfl
  have nk : ∀ (v : D), (∀ k : Nat → Res, (dInt v o fun _ m => natR m o k) = o) → (∀ kk m, v ≠ .int kk (.ofNat m)) ∨ ∀ r : Res, r = o := fun v h => by
    by_cases hv : ∃ kk m, v = .int kk (.ofNat m)
    · obtain ⟨kk, m, rfl⟩ := hv
      exact .inr fun r => h fun _ => r
    · exact .inl fun kk m he => hv ⟨kk, m, he⟩
  unfold endsR
  cases lo with
  | none =>
    cases hi with
    | none =>
      show Bool.rec (motive := fun _ => Res) o (Bool.rec (motive := fun _ => Res) o (k 0 L) (Nat.ble 0 L)) (Nat.ble L L) = k 0 L
      rw [brec_eq, brec_eq, Nat.ble_eq_true_of_le (Nat.zero_le L), Nat.ble_eq_true_of_le (Nat.le_refl L)]
      rfl
    | some y =>
      show (y.ev e fun v => dInt v o fun _ m => natR m o fun b => Bool.rec (motive := fun _ => Res) o (Bool.rec (motive := fun _ => Res) o (k 0 b) (Nat.ble 0 b)) (Nat.ble b L)) = match ends L none (some (y.s.ev e.get)) with | some (a, b) => k a b | none => o
      rw [y.ok]
      rcases nn (y.s.ev e.get) with ⟨kk, m, hv⟩ | hv
      · rw [hv]
        show Bool.rec (motive := fun _ => Res) o (Bool.rec (motive := fun _ => Res) o (k 0 m) (Nat.ble 0 m)) (Nat.ble m L) = match chk (Nat.ble m L) (some (0, m)) with | some (a, b) => k a b | none => o
        rw [brec_eq, brec_eq, Nat.ble_eq_true_of_le (Nat.zero_le m)]
        cases Nat.ble m L <;> rfl
      · rw [hv]
        rcases nk _ hv with h | h
        · rw [ne2 _ h]
        · exact (h _).symm
  | some x =>
    cases hi with
    | none =>
      show (x.ev e fun v => dInt v o fun _ m => natR m o fun a => Bool.rec (motive := fun _ => Res) o (Bool.rec (motive := fun _ => Res) o (k a L) (Nat.ble a L)) (Nat.ble L L)) = match ends L (some (x.s.ev e.get)) none with | some (a, b) => k a b | none => o
      rw [x.ok]
      rcases nn (x.s.ev e.get) with ⟨kk, m, hv⟩ | hv
      · rw [hv]
        show Bool.rec (motive := fun _ => Res) o (Bool.rec (motive := fun _ => Res) o (k m L) (Nat.ble m L)) (Nat.ble L L) = match chk (Nat.ble m L) (some (m, L)) with | some (a, b) => k a b | none => o
        rw [brec_eq, brec_eq, Nat.ble_eq_true_of_le (Nat.le_refl L)]
        cases Nat.ble m L <;> rfl
      · rw [hv]
        rcases nk _ hv with h | h
        · rw [ne _ h]
        · exact (h _).symm
    | some y =>
      show (x.ev e fun v => dInt v o fun _ m => natR m o fun a => y.ev e fun v => dInt v o fun _ m => natR m o fun b => Bool.rec (motive := fun _ => Res) o (Bool.rec (motive := fun _ => Res) o (k a b) (Nat.ble a b)) (Nat.ble b L)) = match ends L (some (x.s.ev e.get)) (some (y.s.ev e.get)) with | some (a, b) => k a b | none => o
      rw [x.ok]
      rcases nn (x.s.ev e.get) with ⟨kk, m, hv⟩ | hv
      · rw [hv]
        show (y.ev e fun v => dInt v o fun _ m' => natR m' o fun b => Bool.rec (motive := fun _ => Res) o (Bool.rec (motive := fun _ => Res) o (k m b) (Nat.ble m b)) (Nat.ble b L)) = _
        rw [y.ok]
        rcases nn (y.s.ev e.get) with ⟨kk', m', hv'⟩ | hv'
        · rw [hv']
          show Bool.rec (motive := fun _ => Res) o (Bool.rec (motive := fun _ => Res) o (k m m') (Nat.ble m m')) (Nat.ble m' L) = match chk (Nat.ble m' L && Nat.ble m m') (some (m, m')) with | some (a, b) => k a b | none => o
          rw [brec_eq, brec_eq]
          cases Nat.ble m' L <;> cases Nat.ble m m' <;> rfl
        · rw [hv']
          rcases nk _ hv' with h | h
          · rw [ne2 _ h]
          · exact (h _).symm
      · rw [hv]
        rcases nk _ hv with h | h
        · rw [ne _ h]
        · exact (h _).symm
noncomputable def r_subs (g : GOp) (S : Pt) (X : Gt) (lo hi : Option Gt) : Rn := fun Γ K e n t => X e fun x => dStr x (fb g Γ K e n t) fun l => lenR l 0 fun L => forceNR L fun L => endsR lo hi e L (fb g Γ K e n t) fun a b => takeR b l fun l => dropR a l fun l => S (.str l) e fun e => K e n t
theorem subs_ok (d : Slot) (x : KSrc) (lo hi : Option KSrc) (Γ : Sp) (K : KK) (e : Env) (n : Nat) (t : Tr Obj) : r_subs ⟨some d.n, none, .subs x.s (lo.map (·.s)) (hi.map (·.s))⟩ d.set x.ev (lo.map (·.ev)) (hi.map (·.ev)) Γ K e n t = fb ⟨some d.n, none, .subs x.s (lo.map (·.s)) (hi.map (·.s))⟩ Γ K e n t := by
  rw [fb_eff rfl]
  simp only [r_subs, d.ok, x.ok, dStr_eq, lenR_eq, forceNR_eq, endsR_eq, takeR_eq, dropR_eq, Nat.zero_add, eff]
  rw [fb_eff rfl]
  simp only [eff]
  cases x.s.ev e.get <;> try rfl
  rename_i l
  simp only
  cases ends l.length (osrc e.get (lo.map (·.s))) (osrc e.get (hi.map (·.s))) with
  | none => rfl
  | some p => rfl
noncomputable def ksubs (d : Slot) (x : KSrc) (lo hi : Option KSrc) : KOp := ⟨⟨some d.n, none, .subs x.s (lo.map (·.s)) (hi.map (·.s))⟩, r_subs ⟨some d.n, none, .subs x.s (lo.map (·.s)) (hi.map (·.s))⟩ d.set x.ev (lo.map (·.ev)) (hi.map (·.ev)), rfl, subs_ok d x lo hi⟩
noncomputable def sublX (S : Pt) (sz : Nat) (lo hi : Option Gt) (K : KK) (e : Env) (n : Nat) (t : Tr Obj) (o : Res) (x : D) : Res := dSl x o fun id off m sz1 cap => Bool.rec (motive := fun _ => Res) o (endsR lo hi e m o fun a b => Option.rec (motive := fun _ => Res)
    (Bool.rec (motive := fun _ => Res) (forceNR (Nat.add off (Nat.mul a sz)) fun f => forceNR (Nat.sub b a) fun q => S (.sl id f q sz none) e fun e => K e n t) (S .emp e fun e => K e n t) (Nat.beq a m))
    (fun c => Bool.rec (motive := fun _ => Res) (forceNR (Nat.add off (Nat.mul a sz)) fun f => forceNR (Nat.sub b a) fun q => forceNR (Nat.sub c a) fun c => S (.sl id f q sz (some c)) e fun e => K e n t) (forceNR (Nat.sub b a) fun q => S (.sl id off q sz (some 0)) e fun e => K e n t) (Nat.beq c a)) cap) (Nat.beq sz sz1)
noncomputable def r_subl (g : GOp) (S : Pt) (sz : Nat) (X : Gt) (lo hi : Option Gt) : Rn := fun Γ K e n t => X e fun x => sublX S sz lo hi K e n t (fb g Γ K e n t) x
theorem subl_ok (d : Slot) (sz : Nat) (x : KSrc) (lo hi : Option KSrc) (Γ : Sp) (K : KK) (e : Env) (n : Nat) (t : Tr Obj) : r_subl ⟨some d.n, none, .subl sz x.s (lo.map (·.s)) (hi.map (·.s))⟩ d.set sz x.ev (lo.map (·.ev)) (hi.map (·.ev)) Γ K e n t = fb ⟨some d.n, none, .subl sz x.s (lo.map (·.s)) (hi.map (·.s))⟩ Γ K e n t := by
  rw [fb_eff rfl]
  simp only [r_subl, sublX, d.ok, x.ok, dSl_eq, forceNR_eq, endsR_eq, brec_eq, eff]
  rw [fb_eff rfl]
  simp only [eff]
  cases x.s.ev e.get <;> try rfl
  rename_i id off m sz1 cap
  simp only
  cases hs : Nat.beq sz sz1 with
  | false => rfl
  | true =>
    have := Nat.eq_of_beq_eq_true hs
    subst this
    simp only [cond_true, chk]
    cases ends m (osrc e.get (lo.map (·.s))) (osrc e.get (hi.map (·.s))) with
    | none => cases cap <;> rfl
    | some p =>
      obtain ⟨a, b⟩ := p
      cases cap with
      | none =>
        simp only
        cases hb : Nat.beq a m <;> rfl
      | some c =>
        simp only
        cases hb : Nat.beq c a <;> rfl
noncomputable def ksubl (d : Slot) (sz : Nat) (x : KSrc) (lo hi : Option KSrc) : KOp := ⟨⟨some d.n, none, .subl sz x.s (lo.map (·.s)) (hi.map (·.s))⟩, r_subl ⟨some d.n, none, .subl sz x.s (lo.map (·.s)) (hi.map (·.s))⟩ d.set sz x.ev (lo.map (·.ev)) (hi.map (·.ev)), rfl, subl_ok d sz x lo hi⟩

/-- cells are laid over others -/
noncomputable def overR (off n : Nat) (vs cells : List D) (o : Res) (k : List D → Res) : Res := lenR vs 0 fun m => lenR cells 0 fun L => Bool.rec (motive := fun _ => Res) o (Bool.rec (motive := fun _ => Res) o (Bool.rec (motive := fun _ => Res) o (dropR (Nat.add off n) cells fun c => appR vs c fun vc => takeR off cells fun a => appR a vc k) (Nat.ble (Nat.add off n) L)) (allR vs)) (Nat.beq m n)
theorem overR_eq (off n : Nat) (vs cells : List D) (o : Res) (k : List D → Res) : overR off n vs cells o k = cond (Nat.beq vs.length n && vs.all D.one && Nat.ble (off + n) cells.length) (k (cells.take off ++ vs ++ cells.drop (off + n))) o := by
  simp only [overR, lenR_eq, takeR_eq, dropR_eq, appR_eq, brec_eq, allR_eq, Nat.zero_add]
  show cond (Nat.beq vs.length n) (cond (vs.all D.one) (cond (Nat.ble (off + n) cells.length) (k (cells.take off ++ (vs ++ cells.drop (off + n)))) o) o) o = _
  rw [List.append_assoc]
  cases Nat.beq vs.length n <;> cases vs.all D.one <;> cases Nat.ble (off + n) cells.length <;> rfl
noncomputable def layR : List (Nat × Nat × Gt) → Env → List D → Res → (List D → Res) → Res := @List.rec (Nat × Nat × Gt) (fun _ => Env → List D → Res → (List D → Res) → Res) (fun _ cells _ k => k cells) (fun p _ ih e cells o k => p.2.2 e fun v => vcells v fun vs => overR p.1 p.2.1 vs cells o fun cells => ih e cells o k)
def kpart (p : Nat × Nat × KSrc) : Nat × Nat × ASrc := (p.1, p.2.1, p.2.2.s)
noncomputable def rpart (p : Nat × Nat × KSrc) : Nat × Nat × Gt := (p.1, p.2.1, p.2.2.ev)
theorem layR_eq (e : Env) (o : Res) (k : List D → Res) : ∀ (ps : List (Nat × Nat × KSrc)) (cells : List D), layR (ps.map rpart) e cells o k = match lay cells ((ps.map kpart).map fun p => (p.1, p.2.1, p.2.2.ev e.get)) with | some cs => k cs | none => o
  | [], cells => rfl
  | p :: ps, cells => by
    show (p.2.2.ev e fun v => vcells v fun vs => overR p.1 p.2.1 vs cells o fun cells => layR (ps.map rpart) e cells o k) = match lay cells ((p.1, p.2.1, p.2.2.s.ev e.get) :: (ps.map kpart).map fun p => (p.1, p.2.1, p.2.2.ev e.get)) with | some cs => k cs | none => o
    rw [p.2.2.ok, vcells_eq, overR_eq]
    simp only [lay, layR_eq e o k ps]
    cases (Nat.beq (p.2.2.s.ev e.get).cells.length p.2.1 && (p.2.2.s.ev e.get).cells.all D.one && Nat.ble (p.1 + p.2.1) cells.length) <;> rfl
noncomputable def r_bld (g : GOp) (S : Pt) (zero : List D) (Ps : List (Nat × Nat × Gt)) : Rn := fun Γ K e n t => layR Ps e zero (fb g Γ K e n t) fun cs => S (.agg cs) e fun e => K e n t
theorem bld_ok (d : Slot) (zero : List D) (ps : List (Nat × Nat × KSrc)) (Γ : Sp) (K : KK) (e : Env) (n : Nat) (t : Tr Obj) : r_bld ⟨some d.n, none, .bld zero (ps.map kpart)⟩ d.set zero (ps.map rpart) Γ K e n t = fb ⟨some d.n, none, .bld zero (ps.map kpart)⟩ Γ K e n t := by
  rw [fb_eff rfl]
  simp only [r_bld, d.ok, layR_eq, eff]
  rw [fb_eff rfl]
  simp only [eff]
  cases lay zero ((ps.map kpart).map fun p => (p.1, p.2.1, p.2.2.ev e.get)) <;> rfl
noncomputable def kbld (d : Slot) (zero : List D) (ps : List (Nat × Nat × KSrc)) : KOp := ⟨⟨some d.n, none, .bld zero (ps.map kpart)⟩, r_bld ⟨some d.n, none, .bld zero (ps.map kpart)⟩ d.set zero (ps.map rpart), rfl, bld_ok d zero ps⟩

noncomputable def r_stn (g : GOp) (m : Nat) (X : Gt) (Y : Gt) : Rn := fun Γ K e n t => X e fun x => dPtr x (fb g Γ K e n t) fun id o => Y e fun v => obR (getR t id) (fb g Γ K e n t) fun e1 f cs => vcells v fun vs => overR o m vs cs (fb g Γ K e n t) fun cs => setR t id (some (.cells e1 f cs)) fun t => K e n t
theorem stn_ok (m : Nat) (x : KSrc) (y : KSrc) (Γ : Sp) (K : KK) (e : Env) (n : Nat) (t : Tr Obj) : r_stn ⟨none, none, .st m x.s y.s⟩ m x.ev y.ev Γ K e n t = fb ⟨none, none, .st m x.s y.s⟩ Γ K e n t := by
  rw [fb_eff rfl]
  simp only [r_stn, x.ok, y.ok, dPtr_eq, obR_eq, getR_eq, overR_eq, vcells_eq, setR_eq, eff]
  rw [fb_eff rfl]
  simp only [eff]
  cases x.s.ev e.get <;> try rfl
  rename_i id o
  simp only [cells?]
  cases t.get id <;> try rfl
  rename_i ob
  cases ob <;> try rfl
  rename_i e1 f cs
  simp only
  cases (Nat.beq (y.s.ev e.get).cells.length m && (y.s.ev e.get).cells.all D.one && Nat.ble (o + m) cs.length) <;> rfl
noncomputable def kstn (m : Nat) (x : KSrc) (y : KSrc) : KOp := ⟨⟨none, none, .st m x.s y.s⟩, r_stn ⟨none, none, .st m x.s y.s⟩ m x.ev y.ev, rfl, stn_ok m x y⟩

noncomputable def r_mkf (S : Pt) (f : Nat) (Cs : List Gt) : Rn := fun Γ K e n t => argsR Cs e fun l => S (.fn f l) e fun e => K e n t
theorem mkf_ok (d : Slot) (f : Nat) (cs : List KSrc) (Γ : Sp) (K : KK) (e : Env) (n : Nat) (t : Tr Obj) : r_mkf d.set f (cs.map (·.ev)) Γ K e n t = fb ⟨some d.n, none, .mkf f (cs.map (·.s))⟩ Γ K e n t := by
  rw [fb_eff rfl]
  simp only [r_mkf, d.ok, argsR_eq, eff]
  rfl
noncomputable def kmkf (d : Slot) (f : Nat) (cs : List KSrc) : KOp := ⟨⟨some d.n, none, .mkf f (cs.map (·.s))⟩, r_mkf d.set f (cs.map (·.ev)), rfl, mkf_ok d f cs⟩
noncomputable def r_dcl (g : GOp) (S : Pt) (X : Gt) (As : List Gt) : Rn := fun Γ K e n t => X e fun x => dFn x (fb g Γ K e n t) fun f cs => argsR As e fun l => appR l cs fun l => retR (Γ f l ⟨n, t⟩) fun v n t => S v e fun e => K e n t
theorem dcl_ok (d : Slot) (x : KSrc) (as : List KSrc) (Γ : Sp) (K : KK) (e : Env) (n : Nat) (t : Tr Obj) : r_dcl ⟨some d.n, none, .dcall x.s (as.map (·.s))⟩ d.set x.ev (as.map (·.ev)) Γ K e n t = fb ⟨some d.n, none, .dcall x.s (as.map (·.s))⟩ Γ K e n t := by
  have e1 : fb ⟨some d.n, none, .dcall x.s (as.map (·.s))⟩ Γ K e n t = match x.s.ev e.get with
    | .fn f cs => (match Γ f ((as.map (·.s)).map (·.ev e.get) ++ cs) ⟨n, t⟩ with | some (v, hp) => K (e.set d.n v) hp.n hp.t | none => none)
    | _ => none := by
    simp only [fb, gstep, step, IOp.isCall, cond_true, stepC, hide, back, List.map_nil, Hp.puts, List.foldl_nil]
    show (match x.s.ev e.get with | .fn f cs => _ | _ => _) = _
    cases x.s.ev e.get <;> rfl
  simp only [r_dcl, d.ok, x.ok, dFn_eq, argsR_eq, appR_eq, retR_eq]
  rw [e1]
  cases x.s.ev e.get <;> rfl
noncomputable def kdcl (d : Slot) (x : KSrc) (as : List KSrc) : KOp := ⟨⟨some d.n, none, .dcall x.s (as.map (·.s))⟩, r_dcl ⟨some d.n, none, .dcall x.s (as.map (·.s))⟩ d.set x.ev (as.map (·.ev)), rfl, dcl_ok d x as⟩
noncomputable def valsN (sz : Nat) : List Gt → Env → Res → (List D → Res) → Res := @List.rec Gt (fun _ => Env → Res → (List D → Res) → Res) (fun _ _ k => k []) (fun G _ ih e o k => G e fun v => vcells v fun vs => lenR vs 0 fun m => Bool.rec (motive := fun _ => Res) o (Bool.rec (motive := fun _ => Res) o (ih e o fun r => appR vs r k) (Nat.beq m sz)) (allR vs))
theorem valsN_eq (sz : Nat) (e : Env) (o : Res) : ∀ (ps : List KSrc) (k : List D → Res), valsN sz (ps.map (·.ev)) e o k = cond ((ps.map (·.s)).all fun x => (x.ev e.get).cells.all D.one && Nat.beq (x.ev e.get).cells.length sz) (k ((ps.map (·.s)).flatMap fun x => (x.ev e.get).cells)) o
  | [], k => rfl
  | p :: ps, k => by
    show (p.ev e fun v => vcells v fun vs => lenR vs 0 fun m => Bool.rec (motive := fun _ => Res) o (Bool.rec (motive := fun _ => Res) o (valsN sz (ps.map (·.ev)) e o fun r => appR vs r k) (Nat.beq m sz)) (allR vs)) = _
    rw [p.ok, vcells_eq, lenR_eq, brec_eq, brec_eq, allR_eq, valsN_eq sz e o ps, Nat.zero_add]
    simp only [List.map_cons, List.all_cons, List.flatMap_cons, appR_eq]
    cases (p.s.ev e.get).cells.all D.one <;> cases Nat.beq (p.s.ev e.get).cells.length sz <;> simp
noncomputable def r_bsn (g : IOp) (gd : Option Nat) (S : Pt) (q sz : Nat) (Ps : List Gt) (m : Nat) (at_ n : Nat) (K : KK) (e : Env) (t : Tr Obj) : Res := valsN sz Ps e (r_mkb g gd at_ n K e t) fun cs => setR t at_ (some (.cells q true cs)) fun t => S (.sl at_ 0 m sz (some m)) e fun e => K e n t
theorem bsn_ok (d : Slot) (q sz : Nat) (ps : List KSrc) (m1 : Nat) (hm : (ps.map (·.s)).length = m1) (Γ : Sp) (at_ n n0 m : Nat) (K : KK) (e : Env) (t : Tr Obj) : r_bsn (.bsl q sz (ps.map (·.s))) (some d.n) d.set q sz (ps.map (·.ev)) m1 at_ n K e t = gstep Γ at_ n n0 [] ⟨some d.n, none, .bsl q sz (ps.map (·.s))⟩ ⟨e, ⟨m, t⟩⟩ (up K) := by
  subst hm
  rw [gstep_eff rfl]
  simp only [r_bsn, r_mkb, d.ok, setR_eq, valsN_eq, eff]
  rw [gstep_eff rfl]
  simp only [eff]
  cases ((ps.map (·.s)).all fun x => (x.ev e.get).cells.all D.one && Nat.beq (x.ev e.get).cells.length sz) <;> rfl
noncomputable def kbsn (d : Slot) (q sz : Nat) (ps : List KSrc) (m : Nat) (hm : (ps.map (·.s)).length = m) : KMk := ⟨⟨some d.n, none, .bsl q sz (ps.map (·.s))⟩, r_bsn (.bsl q sz (ps.map (·.s))) (some d.n) d.set q sz (ps.map (·.ev)) m, rfl, bsn_ok d q sz ps m hm⟩

end Go.DM
