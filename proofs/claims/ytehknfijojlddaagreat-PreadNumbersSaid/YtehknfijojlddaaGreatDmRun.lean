/-
  Runs: regions, branches, loops, calls; each is the model's.
-/
import Derived.Test.YtehknfijojlddaaGreatDmAny
namespace Go.DM
set_option autoImplicit false
set_option linter.unusedSimpArgs false
set_option linter.unusedVariables false

mutual
def eqDD : D → D → Bool
  | .undef, .undef => true
  | .bool a, .bool b => a == b
  | .int k a, .int k' b => cond (sameK k k') (eqI a b) false
  | .str a, .str b => eqL a b
  | .nilp, .nilp => true
  | .ptr a b, .ptr c d => cond (Nat.beq a c) (Nat.beq b d) false
  | .nils, .nils => true
  | .emp, .emp => true
  | .sl a b c d e, .sl a' b' c' d' e' => cond (Nat.beq a a') (cond (Nat.beq b b') (cond (Nat.beq c c') (cond (Nat.beq d d') (match e, e' with | some e, some e' => Nat.beq e e' | none, none => true | _, _ => false) false) false) false) false
  | .agg x, .agg y => eqDs x y
  | .tup x, .tup y => eqDs x y
  | .fn f x, .fn g y => cond (Nat.beq f g) (eqDs x y) false
  | .nilf, .nilf => true
  | .nilif, .nilif => true
  | .mp a, .mp b => Nat.beq a b
  | .nilm, .nilm => true
  | .sym k i, .sym k' j => cond (sameK k k') (Nat.beq i j) false
  | _, _ => false
def eqDs : List D → List D → Bool
  | [], [] => true
  | a :: x, b :: y => cond (eqDD a b) (eqDs x y) false
  | _, _ => false
end
mutual
theorem eqDD_eq : ∀ (a b : D), eqDD a b = true → a = b
  | .undef, b, h => by cases b <;> simp [eqDD] at h; rfl
  | .bool a, b, h => by cases b <;> simp [eqDD] at h; rw [h]
  | .int k a, b, h => by
    cases b <;> simp [eqDD] at h
    rename_i k' b
    cases hk : sameK k k' with
    | false => rw [hk] at h; simp at h
    | true => rw [hk] at h; rw [sameK_eq hk]; simp [eqI_eq] at h; rw [h]
  | .str a, b, h => by cases b <;> simp [eqDD, eqL_eq] at h; rw [h]
  | .nilp, b, h => by cases b <;> simp [eqDD] at h; rfl
  | .ptr a c, b, h => by
    cases b <;> simp [eqDD] at h
    try simp only [Tr.beq_iff, Bool.cond_eq_ite] at h
    try simp at h
    rw [h.1, h.2]
  | .nils, b, h => by cases b <;> simp [eqDD] at h; rfl
  | .emp, b, h => by cases b <;> simp [eqDD] at h; rfl
  | .sl a b c d e, y, h => by
    cases y <;> simp [eqDD] at h
    rename_i a' b' c' d' e'
    try simp only [Tr.beq_iff, Bool.cond_eq_ite] at h
    try simp at h
    obtain ⟨rfl, rfl, rfl, rfl, h⟩ := h
    cases e <;> cases e' <;> simp at h
    · rfl
    · rw [h]
  | .agg x, b, h => by cases b <;> simp [eqDD] at h; rw [eqDs_eq _ _ h]
  | .tup x, b, h => by cases b <;> simp [eqDD] at h; rw [eqDs_eq _ _ h]
  | .fn f x, b, h => by
    cases b <;> simp [eqDD] at h
    try simp only [Tr.beq_iff, Bool.cond_eq_ite] at h
    try simp at h
    rw [h.1, eqDs_eq _ _ h.2]
  | .nilf, b, h => by cases b <;> simp [eqDD] at h; rfl
  | .nilif, b, h => by cases b <;> simp [eqDD] at h; rfl
  | .mp a, b, h => by cases b <;> simp [eqDD, Tr.beq_iff] at h; rw [h]
  | .nilm, b, h => by cases b <;> simp [eqDD] at h; rfl
  | .sym k i, b, h => by
    cases b <;> simp [eqDD] at h
    rename_i k' j
    cases hk : sameK k k' with
    | false => rw [hk] at h; simp at h
    | true => rw [hk] at h; rw [sameK_eq hk]; simp at h; rw [h]
theorem eqDs_eq : ∀ (x y : List D), eqDs x y = true → x = y
  | [], y, h => by cases y <;> simp [eqDs] at h; rfl
  | a :: x, y, h => by
    cases y with
    | nil => simp [eqDs] at h
    | cons b y =>
      simp only [eqDs] at h
      cases hab : eqDD a b with
      | false => rw [hab] at h; simp at h
      | true =>
        rw [hab] at h
        rw [eqDD_eq a b hab, eqDs_eq x y h]
end
def eqEs : List (D × D) → List (D × D) → Bool
  | [], [] => true
  | (a, b) :: x, (c, d) :: y => cond (eqDD a c) (cond (eqDD b d) (eqEs x y) false) false
  | _, _ => false
def eqOb : Option Obj → Option Obj → Bool
  | none, none => true
  | some (.cells e f x), some (.cells e' f' y) => cond (Nat.beq e e') (cond (f == f') (eqDs x y) false) false
  | some (.map x), some (.map y) => eqEs x y
  | _, _ => false
theorem eqEs_eq : ∀ (x y : List (D × D)), eqEs x y = true → x = y
  | [], y, h => by cases y <;> simp [eqEs] at h; rfl
  | (a, b) :: x, y, h => by
    cases y with
    | nil => simp [eqEs] at h
    | cons p y =>
      obtain ⟨c, d⟩ := p
      simp only [eqEs, Bool.cond_eq_ite] at h
      simp at h
      rw [eqDD_eq a c h.1, eqDD_eq b d h.2.1, eqEs_eq x y h.2.2]
theorem eqOb_eq {a b : Option Obj} (h : eqOb a b = true) : a = b := by
  unfold eqOb at h
  split at h
  · rfl
  · simp only [Tr.beq_iff, Bool.cond_eq_ite] at h
    simp at h
    rw [h.1, h.2.1, eqDs_eq _ _ h.2.2]
  · rw [eqEs_eq _ _ h]
  · simp at h

/-- what is kept of an operation of a region that draws its order -/
structure Rec where
  M : List Nat
  cl : Bool
  R : List Nat
  W : List Nat
  hB : Tr Obj
  hA : Tr Obj
def recOf (at_ n0 : Nat) (mk : List Nat) (x : GOp) (s s' : St) : Rec := match guardB s.fs.E x.g with
  | some true => cond x.o.isCall ⟨mk.map (n0 + ·), true, [], [], s.hp.t, s'.hp.t⟩ ⟨mk.map (n0 + ·), false, reads s.fs.E x.o, writes at_ s.fs.E s.fs.H x.o, .e, .e⟩
  | _ => ⟨mk.map (n0 + ·), false, [], [], .e, .e⟩
def memN (l : List Nat) (i : Nat) : Bool := l.any (Nat.beq i)
def okPair (a b : Rec) : Bool := match a.cl, b.cl with
  | false, false => (a.W.all fun i => !memN b.R i && !memN b.W i) && a.R.all fun i => !memN b.W i
  | false, true => (a.W.all fun i => memN b.M i) && a.R.all fun i => memN b.M i || eqOb (b.hB.get i) (b.hA.get i)
  | true, false => (b.W.all fun i => memN a.M i) && b.R.all fun i => memN a.M i || eqOb (a.hB.get i) (a.hA.get i)
  | true, true => false
def okAll (pre : List (List Nat)) (rs : List Rec) : Bool := (List.range rs.length).all fun j => (List.range j).all fun i => memN (pre.getD j []) i || (match rs[i]?, rs[j]? with | some a, some b => okPair a b | _, _ => false)

section
variable {R : Type}
def drawK (Γ : Sp) (n0 : Nat) (mks : List (List Nat)) : Nat → List GOp → List Rec → (List Rec → St → Option R) → St → Option R
  | _, [], rs, K, s => K rs s
  | i, x :: l, rs, K, s => gstep Γ (n0 + i) s.hp.n n0 (mks.getD i []) x s fun s' => drawK Γ n0 mks (Nat.succ i) l (rs ++ [recOf (n0 + i) n0 (mks.getD i []) x s s']) K s'
def loopN : Nat → ((St → Option R) → St → Option R) → St → Option R
  | 0, _, _ => none
  | n + 1, F, s => F (loopN n F) s
def kseq (b : (Ex → St → Option R) → St → Option R) (K : Ex → St → Option R) : Ex → St → Option R
  | .normal, s => b K s
  | e, s => K e s
def kblock (id : Nat) (K : Ex → St → Option R) : Ex → St → Option R
  | .exit j, s => cond (Nat.beq j id) (K .normal s) (K (.exit j) s)
  | e, s => K e s
def kloop (again : St → Option R) (K : Ex → St → Option R) : Ex → St → Option R
  | .normal, s => again s
  | e, s => K e s
end

/-- how many numbers such a region wants -/
def mkN (ops : List GOp) : Nat := cond (ops.any fun x => x.o.makes) (lenL ops 0) 0
theorem mkN_lt {ops : List GOp} {i : Nat} {x : GOp} (h : ops[i]? = some x) (hm : x.o.makes = true) : i < mkN ops := by
  have h1 : (ops.any fun x => x.o.makes) = true := List.any_eq_true.2 ⟨x, List.mem_of_getElem? h, hm⟩
  rw [mkN, h1, cond_true, lenL_eq, Nat.zero_add]
  exact (List.getElem?_eq_some_iff.1 h).1

inductive IRc where
  | skip
  | bad
  | reg (ops : List GOp)
  | drw (ops : List GOp) (pre mks : List (List Nat))
  | seq (a b : IRc)
  | cond (c : ASrc) (a b : IRc)
  | block (id : Nat) (a : IRc)
  | loop (a : IRc)
  | exit (id : Nat)
  | ret

def run {R : Type} (Γ : Sp) (L : Nat) : IRc → (Ex → St → Option R) → St → Option R
  | .skip, K, s => K .normal s
  | .bad, _, _ => none
  | .reg ops, K, s => runOps Γ ops (K .normal) s
  | .drw ops pre mks, K, s => forceN (Nat.add s.hp.n (mkN ops)) fun n => drawK Γ s.hp.n mks 0 ops [] (fun rs s' => chk (okAll pre rs) (K .normal s')) ⟨s.env, ⟨n, s.hp.t⟩⟩
  | .seq a b, K, s => run Γ L a (kseq (run Γ L b) K) s
  | .cond c a b, K, s => match c.ev s.fs.E with
    | .bool t => _root_.cond t (run Γ L a K s) (run Γ L b K s)
    | _ => none
  | .block id a, K, s => run Γ L a (kblock id K) s
  | .loop a, K, s => loopN L (fun again s => run Γ L a (kloop again K) s) s
  | .exit id, K, s => K (.exit id) s
  | .ret, K, s => K .ret s

structure FnC where
  nt : Nat
  rs : List RV
  body : IRc

def fin (rs : List RV) : Ex → St → Option (D × Hp)
  | .normal, s | .ret, s => match resultOf s.fs.E s.fs.H rs with
    | some v => forceH v fun v => some (v, s.hp)
    | none => none
  | _, _ => none

def argsK {R : Type} : List D → Nat → Env → (Env → R) → R
  | [], _, t, k => k t
  | v :: l, i, t, k => forceH v fun v => argsK l (Nat.succ i) (t.set i v) k
def argsT : List D → Nat → Env → Env
  | [], _, t => t
  | v :: l, i, t => argsT l (i + 1) (t.set i v)
theorem argsK_eq {R : Type} : ∀ (l : List D) (i : Nat) (t : Env) (k : Env → R), argsK l i t k = k (argsT l i t)
  | [], _, _, _ => rfl
  | v :: l, i, t, k => by simp [argsK, argsT, forceH_eq, argsK_eq l]
theorem argsT_get : ∀ (l : List D) (i : Nat) (t : Env) (j : Nat), (argsT l i t).get j = if i ≤ j ∧ j < i + l.length then (l[j - i]?).getD .undef else t.get j
  | [], i, t, j => by simp [argsT]; omega
  | v :: l, i, t, j => by
    simp only [argsT, List.length_cons]
    rw [argsT_get l (i + 1)]
    by_cases h1 : i + 1 ≤ j ∧ j < i + 1 + l.length
    · rw [if_pos h1, if_pos (by omega), show j - i = (j - (i + 1)) + 1 by omega, List.getElem?_cons_succ]
    · rw [if_neg h1, Env.get_set]
      by_cases h2 : j = i
      · subst h2; rw [if_pos rfl, if_pos (by omega)]; simp
      · rw [if_neg h2, if_neg (by omega)]

/-- slots without values -/
def no1 : E16 D := ⟨.undef, .undef, .undef, .undef, .undef, .undef, .undef, .undef, .undef, .undef, .undef, .undef, .undef, .undef, .undef, .undef⟩
def blank : Env := ⟨⟨no1, no1, no1, no1, no1, no1, no1, no1, no1, no1, no1, no1, no1, no1, no1, no1⟩, .e⟩
theorem E16.get_same {α : Type} (x : α) (i : Nat) : (E16.mk x x x x x x x x x x x x x x x x).get i = x := by
  unfold E16.get; split <;> rfl
theorem blank_get (i : Nat) : blank.get i = .undef := by
  unfold Env.get blank
  simp only [E16.get_same, no1]
  cases Nat.blt i 256 <;> rfl

/-- a function's run -/
def callF (Γ : Sp) (L : Nat) (F : FnC) (args : List D) (hp : Hp) : Option (D × Hp) :=
  chk (Nat.ble (lenL args 0) F.nt) (argsK args 0 blank fun t => run Γ L F.body (fin F.rs) ⟨t, hp⟩)
abbrev Tab := Nat → Option FnC
def callN (T : Tab) (L : Nat) : Nat → Sp
  | 0 => fun _ _ _ => none
  | d + 1 => fun f args hp => match T f with
    | some F => callF (callN T L d) L F args hp
    | none => none

def slotsB (x y : GOp) : Bool := (match x.d with | some d => !memN y.rd d && (match y.d with | some e => !Nat.beq d e | none => true) | none => true) && (match y.d with | some e => !memN x.rd e | none => true)
theorem memN_iff {l : List Nat} {i : Nat} : memN l i = true ↔ i ∈ l := by
  simp only [memN, List.any_eq_true, Tr.beq_iff, decide_eq_true_eq]
  constructor
  · rintro ⟨x, hx, rfl⟩; exact hx
  · intro h; exact ⟨i, h, rfl⟩
theorem memN_not {l : List Nat} {i : Nat} : memN l i = false ↔ i ∉ l := by
  rw [← memN_iff]; simp
theorem slotsB_of {x y : GOp} (h : slotsB x y = true) : slotsApart x y := by
  unfold slotsB at h
  simp only [Bool.and_eq_true] at h
  obtain ⟨h1, h2⟩ := h
  refine ⟨fun d hd => ?_, fun d hd => ?_, fun d hd => ?_⟩
  · rw [hd] at h1
    simp only [Bool.and_eq_true, Bool.not_eq_true', memN_not] at h1
    exact h1.1
  · rw [hd] at h2
    simp only [Bool.not_eq_true', memN_not] at h2
    exact h2
  · rw [hd] at h1
    simp only [Bool.and_eq_true, Bool.not_eq_true'] at h1
    intro e
    rw [e] at h1
    simp [Tr.beq_iff] at h1

def chkDraw (P : Program) (cx : Cx) (T : Nat → Bool) (ops : Array Oper) (l : List GOp) (pre : List (List Nat)) : Bool :=
  (P.follows .mixedOrders && chkGs P cx T ops 0 l) && ((List.range l.length).all fun j =>
    (match ops[j]? with
      | some m => m.after.toList.all (fun e => !Region.binds .any e || decide (e.on < j)) && (pre.getD j []).all (fun i => m.after.toList.any fun e => Region.binds .any e && (e.on == i || (pre.getD e.on []).contains i))
      | none => false) &&
    (match l[j]? with
      | some x => (List.range j).all fun i => memN (pre.getD j []) i || (match l[i]? with | some y => slotsB y x | none => false)
      | none => false))
def chkCode (P : Program) (cx : Cx) (T : Nat → Bool) : IRc → Code → Bool
  | .bad, _ => true
  | .skip, .skip => true
  | .skip, .label _ => true
  | .reg l, .region _ ops false => chkGs P cx T ops 0 l
  | .drw l pre _, .region _ ops true => chkDraw P cx T ops l pre
  | .seq x y, .seq c d => chkCode P cx T x c && chkCode P cx T y d
  | .cond v x y, .cond u c d => srcOK cx v u && (chkCode P cx T x c && chkCode P cx T y d)
  | .block i x, .block j c => i == j && chkCode P cx T x c
  | .loop x, .loop c => chkCode P cx T x c
  | .exit i, .exit j => i == j
  | .ret, .ret => true
  | _, _ => false
def chkRV (P : Program) (cx : Cx) : RV → ResultVar → Bool
  | .t n, .tmp m => n == m && Nat.blt n cx.nt
  | .cell n size agg, .cell m t => (n == m && Nat.blt n cx.nt) && ((sizeT P t == some size) && ((isAggT P t == some agg) && (agg || size == 1)))
  | _, _ => false
def chkRes (P : Program) (cx : Cx) : List RV → List ResultVar → Bool
  | [], [] => true
  | x :: xs, y :: ys => chkRV P cx x y && chkRes P cx xs ys
  | _, _ => false
def chkFn (P : Program) (G : List Nat) (T : Nat → Bool) (f : Nat) (F : FnC) : Bool := match P.funcs[f]? with
  | some fn => (fn.ntmps == F.nt) && ((fn.name != "runtime.NumGoroutine") && (chkRes P ⟨F.nt, G⟩ F.rs fn.results.toList && (decide (fn.results.toList.length ≤ 5) && (match fn.body with | some c => chkCode P ⟨F.nt, G⟩ T F.body c | none => false))))
  | none => false
end Go.DM
