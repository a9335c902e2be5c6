/-
  Code and functions laid out for the kernel; a law without arguments that reads no variable.
-/
import Derived.Test.YtehknfijojlddaaGreatDmK
namespace Go.DM
open Go.RowKit
set_option autoImplicit false
set_option linter.unusedSimpArgs false
set_option linter.unusedVariables false

/-- how often a loop may go round -/
def LL : Nat := 100000

/-- operations, one behind the other -/
structure KR where
  l : List GOp
  run : Rn
  ok : ∀ Γ K e n t, run Γ K e n t = runOps Γ l (up K) ⟨e, ⟨n, t⟩⟩
noncomputable def c0 : Rn := fun _ K e n t => K e n t
noncomputable def knil : KR := ⟨[], c0, fun _ _ _ _ _ => rfl⟩
noncomputable def c2 (f r : Rn) : Rn := fun Γ K => f Γ (r Γ K)
noncomputable def m2 (f : Nat → Nat → KK → Env → Tr Obj → Res) (r : Rn) : Rn := fun Γ K e n t => forceNR (Nat.succ n) fun m => f n m (r Γ K) e t
theorem up_run {r : KR} {Γ : Sp} {K : KK} : up (r.run Γ K) = runOps Γ r.l (up K) := by
  funext s
  exact r.ok Γ K s.env s.hp.n s.hp.t
theorem kop_ok (x : KOp) (r : KR) (Γ : Sp) (K : KK) (e : Env) (n : Nat) (t : Tr Obj) : c2 x.run r.run Γ K e n t = runOps Γ (x.g :: r.l) (up K) ⟨e, ⟨n, t⟩⟩ := by
  simp only [c2, x.ok, runOps, x.nm, cond_false, fb, up_run]
noncomputable def kop (x : KOp) (r : KR) : KR := ⟨x.g :: r.l, c2 x.run r.run, kop_ok x r⟩
theorem kmk_ok (x : KMk) (r : KR) (Γ : Sp) (K : KK) (e : Env) (n : Nat) (t : Tr Obj) : m2 x.run r.run Γ K e n t = runOps Γ (x.g :: r.l) (up K) ⟨e, ⟨n, t⟩⟩ := by
  simp only [m2, forceNR_eq, x.ok Γ _ _ 0 n, runOps, x.nm, cond_true, up_run]
noncomputable def kmk (x : KMk) (r : KR) : KR := ⟨x.g :: r.l, m2 x.run r.run, kmk_ok x r⟩

/-- code -/
abbrev Wn := Sp → (Ex → KK) → KK
structure KC where
  c : IRc
  run : Wn
  ok : ∀ Γ K e n t, run Γ K e n t = DM.run Γ LL c (fun x => up (K x)) ⟨e, ⟨n, t⟩⟩
noncomputable def w_reg (r : Rn) : Wn := fun Γ K => r Γ (K .normal)
noncomputable def w_any (c : IRc) : Wn := fun Γ K e n t => DM.run Γ LL c (fun x => up (K x)) ⟨e, ⟨n, t⟩⟩
noncomputable def w_skip : Wn := fun _ K => K .normal
noncomputable def w_bad : Wn := fun _ _ _ _ _ => none
noncomputable def w_exit (i : Nat) : Wn := fun _ K => K (.exit i)
noncomputable def w_ret : Wn := fun _ K => K .ret
noncomputable def creg (r : KR) : KC := ⟨.reg r.l, w_reg r.run, fun Γ K e n t => r.ok Γ (K .normal) e n t⟩
noncomputable def cany (c : IRc) : KC := ⟨c, w_any c, fun _ _ _ _ _ => rfl⟩
noncomputable def cskip : KC := ⟨.skip, w_skip, fun _ _ _ _ _ => rfl⟩
noncomputable def cbad : KC := ⟨.bad, w_bad, fun _ _ _ _ _ => rfl⟩
noncomputable def cexit (i : Nat) : KC := ⟨.exit i, w_exit i, fun _ _ _ _ _ => rfl⟩
noncomputable def cret : KC := ⟨.ret, w_ret, fun _ _ _ _ _ => rfl⟩
noncomputable def exR (a : KK) (b : Nat → KK) (c : KK) : Ex → KK := @Ex.rec (fun _ => KK) a b c
noncomputable def w_seq (a b : Wn) : Wn := fun Γ K => a Γ (exR (b Γ K) (fun i => K (.exit i)) (K .ret))
theorem seq_ok (a b : KC) (Γ : Sp) (K : Ex → KK) (e : Env) (n : Nat) (t : Tr Obj) : w_seq a.run b.run Γ K e n t = DM.run Γ LL (.seq a.c b.c) (fun x => up (K x)) ⟨e, ⟨n, t⟩⟩ := by
  simp only [w_seq, a.ok, run]
  congr 1
  funext x s
  cases x with
  | normal => exact b.ok Γ K s.env s.hp.n s.hp.t
  | exit i => rfl
  | ret => rfl
noncomputable def cseq (a b : KC) : KC := ⟨.seq a.c b.c, w_seq a.run b.run, seq_ok a b⟩
noncomputable def w_cond (X : Gt) (a b : Wn) : Wn := fun Γ K e n t => X e fun v => dSel v (a Γ K e n t) (b Γ K e n t)
theorem cond_ok (x : KSrc) (a b : KC) (Γ : Sp) (K : Ex → KK) (e : Env) (n : Nat) (t : Tr Obj) : w_cond x.ev a.run b.run Γ K e n t = DM.run Γ LL (.cond x.s a.c b.c) (fun x => up (K x)) ⟨e, ⟨n, t⟩⟩ := by
  simp only [w_cond, dSel_eq, x.ok, a.ok, b.ok, run]
  show _ = match x.s.ev e.get with | .bool t => _ | _ => none
  cases x.s.ev e.get <;> rfl
noncomputable def ccond (x : KSrc) (a b : KC) : KC := ⟨.cond x.s a.c b.c, w_cond x.ev a.run b.run, cond_ok x a b⟩
noncomputable def w_block (i : Nat) (a : Wn) : Wn := fun Γ K => a Γ (exR (K .normal) (fun j => Bool.rec (motive := fun _ => KK) (K (.exit j)) (K .normal) (Nat.beq j i)) (K .ret))
theorem block_ok (i : Nat) (a : KC) (Γ : Sp) (K : Ex → KK) (e : Env) (n : Nat) (t : Tr Obj) : w_block i a.run Γ K e n t = DM.run Γ LL (.block i a.c) (fun x => up (K x)) ⟨e, ⟨n, t⟩⟩ := by
  simp only [w_block, a.ok, run]
  congr 1
  funext x s
  cases x with
  | normal => rfl
  | exit j =>
    simp only [up, exR, brec_eq, kblock]
    cases Nat.beq j i <;> rfl
  | ret => rfl
noncomputable def cblock (i : Nat) (a : KC) : KC := ⟨.block i a.c, w_block i a.run, block_ok i a⟩
noncomputable def loopR (a : Wn) (Γ : Sp) (K : Ex → KK) : Nat → KK := @Nat.rec (fun _ => KK) (fun _ _ _ => none) (fun _ again => a Γ (exR again (fun i => K (.exit i)) (K .ret)))
noncomputable def w_loop (a : Wn) : Wn := fun Γ K => loopR a Γ K LL
theorem loop_ok' (a : KC) (Γ : Sp) (K : Ex → KK) : ∀ (L : Nat) (s : St), loopR a.run Γ K L s.env s.hp.n s.hp.t = loopN L (fun again s => DM.run Γ LL a.c (kloop again fun x => up (K x)) s) s
  | 0, s => rfl
  | L + 1, s => by
    show a.run Γ (exR (loopR a.run Γ K L) (fun i => K (.exit i)) (K .ret)) s.env s.hp.n s.hp.t = DM.run Γ LL a.c _ s
    rw [a.ok]
    congr 1
    funext x s
    cases x with
    | normal => exact loop_ok' a Γ K L s
    | exit i => rfl
    | ret => rfl
theorem loop_ok (a : KC) (Γ : Sp) (K : Ex → KK) (e : Env) (n : Nat) (t : Tr Obj) : w_loop a.run Γ K e n t = DM.run Γ LL (.loop a.c) (fun x => up (K x)) ⟨e, ⟨n, t⟩⟩ := by
  simp only [run]
  exact loop_ok' a Γ K LL ⟨e, ⟨n, t⟩⟩
noncomputable def cloop (a : KC) : KC := ⟨.loop a.c, w_loop a.run, loop_ok a⟩

/-! regions that draw their order, none of whose operations has to do with another's objects -/
/-- operations that turn no objects -/
def IOp.calm : IOp → Bool
  | .mov _ | .pick .. | .bin .. | .un .. | .cvi .. | .cvs _ | .b2s _ | .i2s _ | .len .. | .idx .. | .ixa .. | .ixp .. | .subs .. | .subl .. | .bld .. | .fld .. | .fad .. | .ld .. | .ext .. | .nck _ | .mx .. | .mkf .. | .lkp .. | .eq .. => true
  | _ => false
theorem calm_eff {o : IOp} (hc : o.calm = true) {at_ : Nat} {E : Nat → D} {H : Nat → Option Obj} {v : D} {ws : List (Nat × Option Obj)} (h : eff at_ E H o = some (v, ws)) : ws = [] := by
  cases o <;> first | (exfalso; simp [IOp.calm] at hc; done) | skip
  all_goals simp only [eff] at h
  all_goals repeat' split at h
  all_goals simp only [chk_iff, Option.map_eq_some_iff, Option.some.injEq, Prod.mk.injEq, reduceCtorEq, and_false, exists_const] at h
  all_goals first | exact h.2.symm | exact h.2.2.symm | (obtain ⟨_, _, _, h⟩ := h; exact h.symm) | (obtain ⟨_, _, h⟩ := h; exact h.symm) | (obtain ⟨_, _, _, _, h⟩ := h; exact h.symm) | skip
def IOp.still : IOp → Bool
  | .mov _ | .pick .. | .bin .. | .un .. | .cvi .. | .cvs _ | .i2s _ | .len .. | .idx .. | .ixa .. | .ixp .. | .subs .. | .subl .. | .bld .. | .fld .. | .fad .. | .ext .. | .nck _ | .mx .. | .mkf .. | .eq .. => true
  | _ => false
theorem still_calm {o : IOp} (h : o.still = true) : o.calm = true := by cases o <;> first | rfl | simp [IOp.still] at h
theorem still_reads {o : IOp} (h : o.still = true) (E : Nat → D) : reads E o = [] := by cases o <;> first | rfl | simp [IOp.still] at h
theorem calm_call {o : IOp} (h : o.calm = true) : o.isCall = false := by cases o <;> first | rfl | simp [IOp.calm] at h
theorem calm_writes {o : IOp} (h : o.calm = true) (at_ : Nat) (E : Nat → D) (H : Nat → Option Obj) : writes at_ E H o = [] := by
  unfold writes
  split
  · rename_i v ws he
    rw [calm_eff h he]
    rfl
  · rfl
/-- what is known of an operation's record -/
def Good (x : GOp) (t : Rec) : Prop := (x.o.calm = true → t.cl = false ∧ t.W = []) ∧ (x.o.still = true → t.R = [])
theorem recOf_good (at_ n0 : Nat) (mk : List Nat) (x : GOp) (s s' : St) : Good x (recOf at_ n0 mk x s s') := by
  unfold recOf
  refine ⟨fun h => ?_, fun h => ?_⟩
  · split
    · rw [calm_call h]
      exact ⟨rfl, calm_writes h _ _ _⟩
    · exact ⟨rfl, rfl⟩
  · split
    · rw [calm_call (still_calm h)]
      exact still_reads h _
    · rfl
def pairB (a b : GOp) : Bool := a.o.still || b.o.still || (a.o.calm && b.o.calm)
theorem pair_ok {a b : GOp} {r t : Rec} (h : pairB a b = true) (hr : Good a r) (ht : Good b t) : okPair r t = true := by
  simp only [pairB, Bool.or_eq_true, Bool.and_eq_true] at h
  rcases h with (h | h) | ⟨h1, h2⟩
  · obtain ⟨h1, h2⟩ := hr.1 (still_calm h)
    have h3 := hr.2 h
    unfold okPair
    cases h4 : t.cl <;> simp [h1, h2, h3]
  · obtain ⟨h1, h2⟩ := ht.1 (still_calm h)
    have h3 := ht.2 h
    unfold okPair
    cases h4 : r.cl <;> simp [h1, h2, h3, memN]
  · obtain ⟨h3, h4⟩ := hr.1 h1
    obtain ⟨h5, h6⟩ := ht.1 h2
    unfold okPair
    simp [h3, h4, h5, h6, memN]

noncomputable def eqOR : Option Nat → Option Nat → Bool := @Option.rec Nat (fun _ => Option Nat → Bool) (@Option.rec Nat (fun _ => Bool) true (fun _ => false)) (fun a => @Option.rec Nat (fun _ => Bool) false (fun b => Nat.beq a b))
noncomputable def eqDR : D → D → Bool := @D.rec (fun _ => D → Bool) (fun _ => Unit) (@D.rec (fun _ => Bool) (fun _ => Unit) (true) (fun _ => false) (fun _ _ => false) (fun _ => false) (false) (fun _ _ => false) (false) (false) (fun _ _ _ _ _ => false) (fun _ _ => false) (fun _ _ => false) (fun _ _ _ => false) (false) (false) (fun _ => false) (false) (fun _ _ => false) () (fun _ _ _ _ => ()))
  (fun b => @D.rec (fun _ => Bool) (fun _ => Unit) (false) (fun b1 => (Bool.rec (motive := fun _ => Bool) (notR b1) b1 b)) (fun _ _ => false) (fun _ => false) (false) (fun _ _ => false) (false) (false) (fun _ _ _ _ _ => false) (fun _ _ => false) (fun _ _ => false) (fun _ _ _ => false) (false) (false) (fun _ => false) (false) (fun _ _ => false) () (fun _ _ _ _ => ()))
  (fun k m => @D.rec (fun _ => Bool) (fun _ => Unit) (false) (fun _ => false) (fun k1 m1 => (Bool.rec (motive := fun _ => Bool) false (eqR m m1) (Nat.beq (kn k) (kn k1)))) (fun _ => false) (false) (fun _ _ => false) (false) (false) (fun _ _ _ _ _ => false) (fun _ _ => false) (fun _ _ => false) (fun _ _ _ => false) (false) (false) (fun _ => false) (false) (fun _ _ => false) () (fun _ _ _ _ => ()))
  (fun l => @D.rec (fun _ => Bool) (fun _ => Unit) (false) (fun _ => false) (fun _ _ => false) (fun l1 => (eqLR l l1)) (false) (fun _ _ => false) (false) (false) (fun _ _ _ _ _ => false) (fun _ _ => false) (fun _ _ => false) (fun _ _ _ => false) (false) (false) (fun _ => false) (false) (fun _ _ => false) () (fun _ _ _ _ => ()))
  (@D.rec (fun _ => Bool) (fun _ => Unit) (false) (fun _ => false) (fun _ _ => false) (fun _ => false) (true) (fun _ _ => false) (false) (false) (fun _ _ _ _ _ => false) (fun _ _ => false) (fun _ _ => false) (fun _ _ _ => false) (false) (false) (fun _ => false) (false) (fun _ _ => false) () (fun _ _ _ _ => ()))
  (fun i j => @D.rec (fun _ => Bool) (fun _ => Unit) (false) (fun _ => false) (fun _ _ => false) (fun _ => false) (false) (fun i1 j1 => (Bool.rec (motive := fun _ => Bool) false (Nat.beq j j1) (Nat.beq i i1))) (false) (false) (fun _ _ _ _ _ => false) (fun _ _ => false) (fun _ _ => false) (fun _ _ _ => false) (false) (false) (fun _ => false) (false) (fun _ _ => false) () (fun _ _ _ _ => ()))
  (@D.rec (fun _ => Bool) (fun _ => Unit) (false) (fun _ => false) (fun _ _ => false) (fun _ => false) (false) (fun _ _ => false) (true) (false) (fun _ _ _ _ _ => false) (fun _ _ => false) (fun _ _ => false) (fun _ _ _ => false) (false) (false) (fun _ => false) (false) (fun _ _ => false) () (fun _ _ _ _ => ()))
  (@D.rec (fun _ => Bool) (fun _ => Unit) (false) (fun _ => false) (fun _ _ => false) (fun _ => false) (false) (fun _ _ => false) (false) (true) (fun _ _ _ _ _ => false) (fun _ _ => false) (fun _ _ => false) (fun _ _ _ => false) (false) (false) (fun _ => false) (false) (fun _ _ => false) () (fun _ _ _ _ => ()))
  (fun a b c d z => @D.rec (fun _ => Bool) (fun _ => Unit) (false) (fun _ => false) (fun _ _ => false) (fun _ => false) (false) (fun _ _ => false) (false) (false) (fun a1 b1 c1 d1 z1 => (Bool.rec (motive := fun _ => Bool) false (Bool.rec (motive := fun _ => Bool) false (Bool.rec (motive := fun _ => Bool) false (Bool.rec (motive := fun _ => Bool) false (eqOR z z1) (Nat.beq d d1)) (Nat.beq c c1)) (Nat.beq b b1)) (Nat.beq a a1))) (fun _ _ => false) (fun _ _ => false) (fun _ _ _ => false) (false) (false) (fun _ => false) (false) (fun _ _ => false) () (fun _ _ _ _ => ()))
  (fun l _ => @D.rec (fun _ => Bool) (fun _ => Unit) (false) (fun _ => false) (fun _ _ => false) (fun _ => false) (false) (fun _ _ => false) (false) (false) (fun _ _ _ _ _ => false) (fun l1 _ => (eqDs l l1)) (fun _ _ => false) (fun _ _ _ => false) (false) (false) (fun _ => false) (false) (fun _ _ => false) () (fun _ _ _ _ => ()))
  (fun l _ => @D.rec (fun _ => Bool) (fun _ => Unit) (false) (fun _ => false) (fun _ _ => false) (fun _ => false) (false) (fun _ _ => false) (false) (false) (fun _ _ _ _ _ => false) (fun _ _ => false) (fun l1 _ => (eqDs l l1)) (fun _ _ _ => false) (false) (false) (fun _ => false) (false) (fun _ _ => false) () (fun _ _ _ _ => ()))
  (fun f l _ => @D.rec (fun _ => Bool) (fun _ => Unit) (false) (fun _ => false) (fun _ _ => false) (fun _ => false) (false) (fun _ _ => false) (false) (false) (fun _ _ _ _ _ => false) (fun _ _ => false) (fun _ _ => false) (fun f1 l1 _ => (Bool.rec (motive := fun _ => Bool) false (eqDs l l1) (Nat.beq f f1))) (false) (false) (fun _ => false) (false) (fun _ _ => false) () (fun _ _ _ _ => ()))
  (@D.rec (fun _ => Bool) (fun _ => Unit) (false) (fun _ => false) (fun _ _ => false) (fun _ => false) (false) (fun _ _ => false) (false) (false) (fun _ _ _ _ _ => false) (fun _ _ => false) (fun _ _ => false) (fun _ _ _ => false) (true) (false) (fun _ => false) (false) (fun _ _ => false) () (fun _ _ _ _ => ()))
  (@D.rec (fun _ => Bool) (fun _ => Unit) (false) (fun _ => false) (fun _ _ => false) (fun _ => false) (false) (fun _ _ => false) (false) (false) (fun _ _ _ _ _ => false) (fun _ _ => false) (fun _ _ => false) (fun _ _ _ => false) (false) (true) (fun _ => false) (false) (fun _ _ => false) () (fun _ _ _ _ => ()))
  (fun i => @D.rec (fun _ => Bool) (fun _ => Unit) (false) (fun _ => false) (fun _ _ => false) (fun _ => false) (false) (fun _ _ => false) (false) (false) (fun _ _ _ _ _ => false) (fun _ _ => false) (fun _ _ => false) (fun _ _ _ => false) (false) (false) (fun i1 => (Nat.beq i i1)) (false) (fun _ _ => false) () (fun _ _ _ _ => ()))
  (@D.rec (fun _ => Bool) (fun _ => Unit) (false) (fun _ => false) (fun _ _ => false) (fun _ => false) (false) (fun _ _ => false) (false) (false) (fun _ _ _ _ _ => false) (fun _ _ => false) (fun _ _ => false) (fun _ _ _ => false) (false) (false) (fun _ => false) (true) (fun _ _ => false) () (fun _ _ _ _ => ()))
  (fun k i => @D.rec (fun _ => Bool) (fun _ => Unit) (false) (fun _ => false) (fun _ _ => false) (fun _ => false) (false) (fun _ _ => false) (false) (false) (fun _ _ _ _ _ => false) (fun _ _ => false) (fun _ _ => false) (fun _ _ _ => false) (false) (false) (fun _ => false) (false) (fun k1 i1 => (Bool.rec (motive := fun _ => Bool) false (Nat.beq i i1) (Nat.beq (kn k) (kn k1)))) () (fun _ _ _ _ => ())) () (fun _ _ _ _ => ())
theorem eqDR_eq (a b : D) : eqDR a b = true → a = b := by
  intro h
  refine eqDD_eq a b ?_
  have bb : ∀ (x y c : Bool), Bool.rec (motive := fun _ => Bool) x y c = cond c y x := fun x y c => by cases c <;> rfl
  have oo : ∀ (z z1 : Option Nat), eqOR z z1 = (match z, z1 with | some e, some e' => Nat.beq e e' | none, none => true | _, _ => false) := fun z z1 => by cases z <;> cases z1 <;> rfl
  rw [← h]
  cases a <;> cases b <;> first | rfl | skip
  all_goals simp only [eqDD, eqDR, brec_eq, kn_eq, eqR_eq, eqLR_eq, oo, notR_eq]
  · rename_i x y
    cases x <;> cases y <;> rfl
  · rename_i z _ _ _ _ z1
    cases z <;> cases z1 <;> rfl
noncomputable def eqCR : List D → List D → Bool := @List.rec D (fun _ => List D → Bool) (@List.rec D (fun _ => Bool) true (fun _ _ _ => false)) (fun a _ ih => @List.rec D (fun _ => Bool) false (fun b r _ => Bool.rec (motive := fun _ => Bool) false (ih r) (eqDR a b)))
theorem eqCR_eq : ∀ (x y : List D), eqCR x y = true → x = y
  | [], y, h => by cases y with | nil => rfl | cons => exact absurd h (by simp [eqCR])
  | a :: x, [], h => absurd h (by simp [eqCR])
  | a :: x, b :: y, h => by
    have h : Bool.rec (motive := fun _ => Bool) false (eqCR x y) (eqDR a b) = true := h
    rw [brec_eq] at h
    cases hab : eqDR a b with
    | false => rw [hab] at h; exact absurd h (by simp)
    | true =>
      rw [hab] at h
      rw [eqDR_eq a b hab, eqCR_eq x y h]
/-- is an object the same? -/
noncomputable def eqObR : Option Obj → Option Obj → Bool := @Option.rec Obj (fun _ => Option Obj → Bool) (@Option.rec Obj (fun _ => Bool) true (fun _ => false))
  (@Obj.rec (fun _ => Option Obj → Bool) (fun e f cs => @Option.rec Obj (fun _ => Bool) false (@Obj.rec (fun _ => Bool) (fun e1 f1 cs1 => Bool.rec (motive := fun _ => Bool) false (Bool.rec (motive := fun _ => Bool) false (eqCR cs cs1) (Bool.rec (motive := fun _ => Bool) (notR f1) f1 f)) (Nat.beq e e1)) (fun _ => false))) (fun es => @Option.rec Obj (fun _ => Bool) false (@Obj.rec (fun _ => Bool) (fun _ _ _ => false) (fun es1 => eqEs es es1))))
theorem eqObR_eq {a b : Option Obj} (h : eqObR a b = true) : a = b := by
  cases a with
  | none => cases b with | none => rfl | some y => exact absurd h (by simp [eqObR])
  | some x =>
    cases b with
    | none => cases x <;> exact absurd h (by simp [eqObR])
    | some y =>
      cases x with
      | map es =>
        cases y with
        | cells _ _ _ => exact absurd h (by simp [eqObR])
        | map es1 => rw [eqEs_eq es es1 h]
      | cells e f cs =>
        cases y with
        | map _ => exact absurd h (by simp [eqObR])
        | cells e1 f1 cs1 =>
          have h : Bool.rec (motive := fun _ => Bool) false (Bool.rec (motive := fun _ => Bool) false (eqCR cs cs1) (Bool.rec (motive := fun _ => Bool) (notR f1) f1 f)) (Nat.beq e e1) = true := h
          rw [brec_eq, brec_eq, brec_eq, notR_eq] at h
          cases h1 : Nat.beq e e1 with
          | false => rw [h1] at h; exact absurd h (by simp)
          | true =>
            rw [h1, cond_true] at h
            have : f = f1 ∧ eqCR cs cs1 = true := by cases f <;> cases f1 <;> simp at h <;> exact ⟨rfl, h⟩
            rw [Nat.eq_of_beq_eq_true h1, this.1, eqCR_eq _ _ this.2]
theorem eqObR_ok {a b : Option Obj} (h : eqObR a b = true) : ∃ c, a = c ∧ b = c := ⟨b, eqObR_eq h, rfl⟩

/-- the one record says no less than the other -/
def RLe (a b : Rec) : Prop := b.M = a.M ∧ ((b.cl = a.cl ∧ (∀ i ∈ b.R, i ∈ a.R) ∧ (∀ i ∈ b.W, i ∈ a.W) ∧ b.hB = a.hB ∧ b.hA = a.hA) ∨ (b.cl = false ∧ b.R = [] ∧ b.W = []))
theorem RLe.refl (a : Rec) : RLe a a := ⟨rfl, .inl ⟨rfl, fun _ h => h, fun _ h => h, rfl, rfl⟩⟩
/-- may the two stand in any order? -/
def pairP (a b : Rec) : Prop := match a.cl, b.cl with
  | false, false => (∀ i ∈ a.W, i ∉ b.R ∧ i ∉ b.W) ∧ ∀ i ∈ a.R, i ∉ b.W
  | false, true => (∀ i ∈ a.W, i ∈ b.M) ∧ ∀ i ∈ a.R, i ∈ b.M ∨ eqOb (b.hB.get i) (b.hA.get i) = true
  | true, false => (∀ i ∈ b.W, i ∈ a.M) ∧ ∀ i ∈ b.R, i ∈ a.M ∨ eqOb (a.hB.get i) (a.hA.get i) = true
  | true, true => False
theorem okPair_iff {a b : Rec} : okPair a b = true ↔ pairP a b := by
  unfold okPair pairP
  cases a.cl <;> cases b.cl <;> simp [List.all_eq_true, memN_iff, memN_not]
theorem pairP_mono {a b a' b' : Rec} (ha : RLe a a') (hb : RLe b b') (h : pairP a b) : pairP a' b' := by
  obtain ⟨ma, ha⟩ := ha
  obtain ⟨mb, hb⟩ := hb
  unfold pairP at h ⊢
  rcases ha with ⟨c1, r1, w1, x1, y1⟩ | ⟨c1, r1, w1⟩
  · rcases hb with ⟨c2, r2, w2, x2, y2⟩ | ⟨c2, r2, w2⟩
    · rw [c1, c2]
      cases hac : a.cl <;> cases hbc : b.cl <;> rw [hac, hbc] at h <;> simp only at h ⊢
      · exact ⟨fun i hi => ⟨fun hj => (h.1 i (w1 i hi)).1 (r2 i hj), fun hj => (h.1 i (w1 i hi)).2 (w2 i hj)⟩, fun i hi hj => h.2 i (r1 i hi) (w2 i hj)⟩
      · rw [mb, x2, y2]
        exact ⟨fun i hi => h.1 i (w1 i hi), fun i hi => h.2 i (r1 i hi)⟩
      · rw [ma, x1, y1]
        exact ⟨fun i hi => h.1 i (w2 i hi), fun i hi => h.2 i (r2 i hi)⟩
    · rw [c2, r2, w2]
      cases a'.cl <;> simp
  · rw [c1, r1, w1]
    cases b'.cl <;> simp
noncomputable def memR (i : Nat) : List Nat → Bool := @List.rec Nat (fun _ => Bool) false (fun a _ ih => Bool.rec (motive := fun _ => Bool) ih true (Nat.beq i a))
theorem memR_iff {i : Nat} : ∀ {l : List Nat}, memR i l = true ↔ i ∈ l
  | [] => by simp [memR]
  | a :: l => by
    have e : memR i (a :: l) = cond (Nat.beq i a) true (memR i l) := brec_eq _ _ _
    rw [e, List.mem_cons, Tr.beq_iff]
    by_cases h : i = a
    · simp [h]
    · simp [h, memR_iff]
noncomputable def allN (f : Nat → Bool) : List Nat → Bool := @List.rec Nat (fun _ => Bool) true (fun a _ ih => Bool.rec (motive := fun _ => Bool) false ih (f a))
theorem allN_iff {f : Nat → Bool} : ∀ {l : List Nat}, allN f l = true ↔ ∀ i ∈ l, f i = true
  | [] => by simp [allN]
  | a :: l => by
    have e : allN f (a :: l) = cond (f a) (allN f l) false := brec_eq _ _ _
    rw [e]
    cases h : f a <;> simp [h, allN_iff]
noncomputable def keptR (M : List Nat) (hB hA : Tr Obj) : Nat → Bool := fun i => Bool.rec (motive := fun _ => Bool) (eqObR (getR hB i) (getR hA i)) true (memR i M)
noncomputable def okPairR (a b : Rec) : Bool := Bool.rec (motive := fun _ => Bool)
  (Bool.rec (motive := fun _ => Bool) (Bool.rec (motive := fun _ => Bool) false (allN (fun i => notR (memR i b.W)) a.R) (allN (fun i => Bool.rec (motive := fun _ => Bool) (notR (memR i b.W)) false (memR i b.R)) a.W))
    (Bool.rec (motive := fun _ => Bool) false (allN (keptR b.M b.hB b.hA) a.R) (allN (fun i => memR i b.M) a.W)) b.cl)
  (Bool.rec (motive := fun _ => Bool) (Bool.rec (motive := fun _ => Bool) false (allN (keptR a.M a.hB a.hA) b.R) (allN (fun i => memR i a.M) b.W)) false b.cl) a.cl
theorem eqOb_self (c : Option Obj) (h : eqObR c c = true) : True := trivial
theorem okPairR_ok {a b : Rec} (hE : ∀ (c : Option Obj), eqOb c c = true) (h : okPairR a b = true) : pairP a b := by
  have kk : ∀ (M : List Nat) (hB hA : Tr Obj) (i : Nat), keptR M hB hA i = true → i ∈ M ∨ eqOb (hB.get i) (hA.get i) = true := by
    intro M hB hA i h
    simp only [keptR, brec_eq] at h
    cases hm : memR i M with
    | true => exact .inl (memR_iff.1 hm)
    | false =>
      rw [hm] at h
      right
      rw [← getR_eq, ← getR_eq, eqObR_eq h]
      exact hE _
  unfold okPairR at h
  unfold pairP
  simp only [brec_eq] at h
  cases ha : a.cl <;> cases hb : b.cl <;> rw [ha, hb] at h <;> simp only [cond_true, cond_false, Bool.cond_eq_ite] at h ⊢
  · simp only [Bool.ite_eq_true_distrib, allN_iff, notR_eq, if_false_right, if_false_left, Bool.not_eq_true', Bool.false_eq_true] at h
    refine ⟨fun i hi => ?_, fun i hi hm => ?_⟩
    · have := h.1 i hi
      refine ⟨fun hm => ?_, fun hm => ?_⟩
      · rw [memR_iff.2 hm] at this; simp at this
      · rw [memR_iff.2 hm] at this; simp at this
    · have := h.2 i hi
      rw [memR_iff.2 hm] at this; simp at this
  · simp only [Bool.ite_eq_true_distrib, allN_iff, if_false_right, Bool.false_eq_true] at h
    exact ⟨fun i hi => memR_iff.1 (h.1 i hi), fun i hi => kk _ _ _ i (h.2 i hi)⟩
  · simp only [Bool.ite_eq_true_distrib, allN_iff, if_false_right, Bool.false_eq_true] at h
    exact ⟨fun i hi => memR_iff.1 (h.1 i hi), fun i hi => kk _ _ _ i (h.2 i hi)⟩
  · simp at h


mutual
theorem eqDD_refl : ∀ a : D, eqDD a a = true
  | .undef | .nilp | .nils | .emp | .nilf | .nilif | .nilm => rfl
  | .bool b => by cases b <;> rfl
  | .int k n => by
    have h1 : sameK k k = true := by cases k <;> rfl
    simp [eqDD, h1, eqI_eq]
  | .str l => by simp [eqDD, eqL_eq]
  | .ptr a b => by simp [eqDD]
  | .sl a b c d e => by cases e <;> simp [eqDD]
  | .agg x => by simp [eqDD, eqDs_refl x]
  | .tup x => by simp [eqDD, eqDs_refl x]
  | .fn f x => by simp [eqDD, eqDs_refl x]
  | .mp a => by simp [eqDD]
  | .sym k i => by
    have h1 : sameK k k = true := by cases k <;> rfl
    simp [eqDD, h1]
theorem eqDs_refl : ∀ l : List D, eqDs l l = true
  | [] => rfl
  | a :: l => by simp [eqDs, eqDD_refl a, eqDs_refl l]
end
theorem eqEs_refl : ∀ l : List (D × D), eqEs l l = true
  | [] => rfl
  | (a, b) :: l => by simp [eqEs, eqDD_refl a, eqDD_refl b, eqEs_refl l]
theorem eqOb_refl (c : Option Obj) : eqOb c c = true := by
  cases c with
  | none => rfl
  | some c =>
    cases c with
    | cells e f cs => simp [eqOb, eqDs_refl]
    | map es => simp [eqOb, eqEs_refl]

theorem gstep_det (Γ : Sp) (at_ n n0 : Nat) (mk : List Nat) (x : GOp) (s : St) : (∃ s', ∀ k : St → Res, gstep Γ at_ n n0 mk x s k = k s') ∨ (∀ k : St → Res, gstep Γ at_ n n0 mk x s k = none) := by
  have key : (∃ s', ∀ k : St → Res, step Γ at_ n n0 mk x s k = k s') ∨ (∀ k : St → Res, step Γ at_ n n0 mk x s k = none) := by
    unfold step
    cases x.o.isCall with
    | true =>
      simp only [cond_true, stepC]
      split
      · split
        · exact .inl ⟨_, fun k => putK_eq _ _ _ _⟩
        · exact .inr fun _ => rfl
      · split
        · split
          · exact .inl ⟨_, fun k => putK_eq _ _ _ _⟩
          · exact .inr fun _ => rfl
        · exact .inr fun _ => rfl
      · exact .inr fun _ => rfl
    | false =>
      simp only [cond_false]
      cases effK x.o at_ s.fs.E s.fs.H with
      | none => exact .inr fun _ => rfl
      | some p =>
        obtain ⟨v, ws⟩ := p
        refine .inl ⟨(⟨s.env, ⟨n, ((⟨n, s.hp.t⟩ : Hp).puts ws).t⟩⟩ : St).put x.d v, fun k => ?_⟩
        simp only [stepE, forceH_eq, forceD_eq, putsK_eq, forceN_eq, putK_eq, Bool.cond_self]
  unfold gstep
  split
  · exact key
  · split
    · rename_i b _
      cases (b == _) with
      | true => exact key
      | false => exact .inl ⟨_, fun k => putK_eq _ _ _ _⟩
    · exact .inl ⟨_, fun k => putK_eq _ _ _ _⟩
    · exact .inr fun _ => rfl

/-- an operation of a region that draws its order: where it stands, what is hidden from it, whether its record is kept, which it is -/
structure KDO where
  x : GOp
  i : Nat
  hd : List Nat
  rc : Bool
  ph : Nat → St → St → Rec
  run : Sp → Nat → (Rec → KK) → Env → Nat → Tr Obj → Res
  ok : ∀ Γ n0 K e n t, run Γ n0 K e n t = gstep Γ (n0 + i) n n0 hd x ⟨e, ⟨n, t⟩⟩ fun s' => K (ph n0 ⟨e, ⟨n, t⟩⟩ s') s'.env s'.hp.n s'.hp.t
  sub : rc = true → ∀ n0 s s', RLe (ph n0 s s') (recOf (n0 + i) n0 hd x s s')
abbrev Qn := Sp → Nat → (Rec → KK) → Env → Nat → Tr Obj → Res
def rec0 : Rec := ⟨[], false, [], [], .e, .e⟩
noncomputable def q_no (f : Rn) : Qn := fun Γ _ K => f Γ (K rec0)
noncomputable def dno (i : Nat) (x : KOp) : KDO := ⟨x.g, i, [], false, fun _ _ _ => rec0, q_no x.run, fun Γ n0 K e n t => by
  rw [q_no, x.ok]; exact (fb_of x.nm Γ (n0 + i) n n0 _ e t).symm, fun h => by cases h⟩
/-- the value that tells an operation's object -/
def rdOf : IOp → Option ASrc
  | .ld _ _ x | .st _ x _ | .b2s x | .lkp _ _ _ _ _ x _ | .mup _ _ x _ _ | .ment _ _ _ _ x _ | .mest x _ _ => some x
  | _ => none
theorem rdOf_reads {o : IOp} {y : ASrc} (h : rdOf o = some y) (E : Nat → D) : reads E o = idOf (y.ev E) := by
  cases o <;> simp [rdOf] at h <;> subst h <;> rfl
theorem rdOf_writes {o : IOp} {y : ASrc} (h : rdOf o = some y) {at_ : Nat} {E : Nat → D} {H : Nat → Option Obj} {id : Nat} (hid : id ∈ writes at_ E H o) : id ∈ idOf (y.ev E) := by
  unfold writes at hid
  split at hid
  · rename_i v ws he
    obtain ⟨p, hp, rfl⟩ := List.mem_map.1 hid
    cases o <;> simp [rdOf] at h <;> subst h
    all_goals simp only [eff] at he
    all_goals repeat' split at he
    all_goals simp only [chk_iff, Option.map_eq_some_iff, Option.some.injEq, Prod.mk.injEq, reduceCtorEq, and_false, exists_const] at he
    all_goals first
      | (obtain ⟨_, _, rfl⟩ := he; cases hp; done)
      | (obtain ⟨_, rfl⟩ := he; cases hp; done)
      | (obtain ⟨_, _, _, _, rfl⟩ := he; cases hp; done)
      | (obtain ⟨_, _, _, rfl⟩ := he; cases hp; done)
      | (obtain ⟨_, _, rfl⟩ := he; rw [List.mem_singleton.1 hp]; simp [*, idOf]; done)
      | (obtain ⟨_, rfl⟩ := he; rw [List.mem_singleton.1 hp]; simp [*, idOf]; done)
      | (obtain ⟨_, _, _, rfl⟩ := he; rw [List.mem_singleton.1 hp]; simp [*, idOf]; done)
  · simp at hid
noncomputable def idR : D → List Nat := @D.rec (fun _ => List Nat) (fun _ => Unit) [] (fun _ => []) (fun _ _ => []) (fun _ => []) [] (fun i _ => [i]) [] [] (fun i _ _ _ _ => [i]) (fun _ _ => []) (fun _ _ => []) (fun _ _ _ => []) [] [] (fun i => [i]) [] (fun _ _ => []) () (fun _ _ _ _ => ())
theorem idR_eq (d : D) : idR d = idOf d := by cases d <;> rfl
theorem guard_none {E : Nat → D} {g : Option (Nat × Bool)} (h : g = none) : guardB E g = some true := by subst h; rfl
noncomputable def q_rc (Y : Gt) (w : Bool) (f : Rn) : Qn := fun Γ _ K e n t => Y e fun v => f Γ (K ⟨[], false, idR v, Bool.rec (motive := fun _ => List Nat) [] (idR v) w, .e, .e⟩) e n t
noncomputable def dreg (i : Nat) (x : KOp) (y : KSrc) (w : Bool) (h : rdOf x.g.o = some y.s) (hc : (w || x.g.o.calm) = true) : KDO := ⟨x.g, i, [], true, fun _ s _ => ⟨[], false, idR (y.s.ev s.env.get), Bool.rec (motive := fun _ => List Nat) [] (idR (y.s.ev s.env.get)) w, .e, .e⟩, q_rc y.ev w x.run, fun Γ n0 K e n t => by
    rw [q_rc, y.ok, x.ok]
    exact (fb_of x.nm Γ (n0 + i) n n0 _ e t).symm,
  fun _ n0 s s' => by
    unfold recOf
    split
    · have hnc : x.g.o.isCall = false := by cases ho : x.g.o <;> rw [ho] at h <;> simp [rdOf] at h <;> rfl
      rw [hnc]
      refine ⟨rfl, .inl ⟨rfl, fun j hj => ?_, fun j hj => ?_, rfl, rfl⟩⟩
      · have hj : j ∈ reads s.fs.E x.g.o := hj
        rw [rdOf_reads h] at hj
        rw [idR_eq]
        exact hj
      · have hj : j ∈ writes (n0 + i) s.fs.E s.fs.H x.g.o := hj
        rw [brec_eq]
        cases w with
        | true => rw [cond_true, idR_eq]; exact rdOf_writes h hj
        | false =>
          rw [calm_writes (by simpa using hc)] at hj
          simp at hj
    · exact ⟨rfl, .inr ⟨rfl, rfl, rfl⟩⟩⟩
def fresh : IOp → Bool
  | .s2b .. | .bsl .. | .new .. | .box .. | .mks .. | .mkm => true
  | _ => false
theorem fresh_writes {o : IOp} (h : fresh o = true) {at_ : Nat} {E : Nat → D} {H : Nat → Option Obj} {id : Nat} (hid : id ∈ writes at_ E H o) : id = at_ := by
  unfold writes at hid
  split at hid
  · rename_i v ws he
    obtain ⟨p, hp, rfl⟩ := List.mem_map.1 hid
    cases o <;> simp [fresh] at h
    all_goals simp only [eff] at he
    all_goals repeat' split at he
    all_goals simp only [chk_iff, Option.map_eq_some_iff, Option.some.injEq, Prod.mk.injEq, reduceCtorEq, and_false, exists_const] at he
    all_goals first
      | (obtain ⟨_, _, rfl⟩ := he; rw [List.mem_singleton.1 hp]; done)
      | (obtain ⟨_, rfl⟩ := he; rw [List.mem_singleton.1 hp]; done)
      | skip
  · simp at hid
theorem fresh_reads {o : IOp} (h : fresh o = true) (E : Nat → D) : reads E o = [] := by cases o <;> first | rfl | simp [fresh] at h
noncomputable def q_mk (i : Nat) (f : Nat → Nat → KK → Env → Tr Obj → Res) : Qn := fun _ n0 K e n t => forceNR (Nat.add n0 i) fun a => f a n (K ⟨[], false, [], [a], .e, .e⟩) e t
noncomputable def dmn (i : Nat) (x : KMk) (h : fresh x.g.o = true) : KDO := ⟨x.g, i, [], true, fun n0 _ _ => ⟨[], false, [], [n0 + i], .e, .e⟩, q_mk i x.run, fun Γ n0 K e n t => by
    rw [q_mk, forceNR_eq, x.ok Γ _ _ n0 n]
    rfl,
  fun _ n0 s s' => by
    unfold recOf
    split
    · rw [mk_call x.nm]
      refine ⟨rfl, .inl ⟨rfl, fun j hj => ?_, fun j hj => ?_, rfl, rfl⟩⟩
      · have hj : j ∈ reads s.fs.E x.g.o := hj
        rw [fresh_reads h] at hj
        simp at hj
      · rw [fresh_writes h hj]
        simp
    · exact ⟨rfl, .inr ⟨rfl, rfl, rfl⟩⟩⟩
theorem app_writes {q sz b : Nat} {x y : ASrc} {at_ : Nat} {E : Nat → D} {H : Nat → Option Obj} {id : Nat} (hid : id ∈ writes at_ E H (.app q sz b x y)) : id = at_ ∨ id ∈ idOf (x.ev E) := by
  unfold writes at hid
  split at hid
  · rename_i v ws he
    obtain ⟨p, hp, rfl⟩ := List.mem_map.1 hid
    simp only [eff] at he
    simp only [Bool.cond_eq_ite] at he
    repeat' split at he
    all_goals simp only [chk_iff, Option.some.injEq, Prod.mk.injEq, reduceCtorEq, and_false, exists_const] at he
    all_goals first
      | (obtain ⟨_, rfl⟩ := he; cases hp; done)
      | (obtain ⟨_, _, rfl⟩ := he; cases hp; done)
      | (obtain ⟨_, _, _, rfl⟩ := he; cases hp; done)
      | (obtain ⟨_, _, _, _, rfl⟩ := he; cases hp; done)
      | (obtain ⟨_, _, _, _, _, rfl⟩ := he; cases hp; done)
      | (obtain ⟨_, rfl⟩ := he; rw [List.mem_singleton.1 hp]; exact .inl rfl)
      | (obtain ⟨_, rfl⟩ := he; rw [List.mem_singleton.1 hp]; exact .inr (by simp [*, idOf]))
      | (obtain ⟨_, rfl⟩ := he; rcases List.mem_cons.1 hp with rfl | hp <;> first | (rw [List.mem_singleton.1 hp]; exact .inl rfl) | exact .inr (by simp [*, idOf]))
      | (obtain ⟨_, _, rfl⟩ := he; rw [List.mem_singleton.1 hp]; exact .inl rfl)
      | (obtain ⟨_, _, rfl⟩ := he; rw [List.mem_singleton.1 hp]; exact .inr (by simp [*, idOf]))
      | (obtain ⟨_, _, rfl⟩ := he; rcases List.mem_cons.1 hp with rfl | hp <;> first | (rw [List.mem_singleton.1 hp]; exact .inl rfl) | exact .inr (by simp [*, idOf]))
      | (obtain ⟨_, _, _, rfl⟩ := he; rw [List.mem_singleton.1 hp]; exact .inl rfl)
      | (obtain ⟨_, _, _, rfl⟩ := he; rw [List.mem_singleton.1 hp]; exact .inr (by simp [*, idOf]))
      | (obtain ⟨_, _, _, rfl⟩ := he; rcases List.mem_cons.1 hp with rfl | hp <;> first | (rw [List.mem_singleton.1 hp]; exact .inl rfl) | exact .inr (by simp [*, idOf]))
      | (obtain ⟨_, _, _, _, rfl⟩ := he; rw [List.mem_singleton.1 hp]; exact .inl rfl)
      | (obtain ⟨_, _, _, _, rfl⟩ := he; rw [List.mem_singleton.1 hp]; exact .inr (by simp [*, idOf]))
      | (obtain ⟨_, _, _, _, rfl⟩ := he; rcases List.mem_cons.1 hp with rfl | hp <;> first | (rw [List.mem_singleton.1 hp]; exact .inl rfl) | exact .inr (by simp [*, idOf]))
      | (obtain ⟨_, _, _, _, _, rfl⟩ := he; rw [List.mem_singleton.1 hp]; exact .inl rfl)
      | (obtain ⟨_, _, _, _, _, rfl⟩ := he; rw [List.mem_singleton.1 hp]; exact .inr (by simp [*, idOf]))
      | (obtain ⟨_, _, _, _, _, rfl⟩ := he; rcases List.mem_cons.1 hp with rfl | hp <;> first | (rw [List.mem_singleton.1 hp]; exact .inl rfl) | exact .inr (by simp [*, idOf]))
  · simp at hid


noncomputable def q_ma (i : Nat) (X Y : Gt) (f : Nat → Nat → KK → Env → Tr Obj → Res) : Qn := fun _ n0 K e n t => X e fun x => Y e fun y => forceNR (Nat.add n0 i) fun a => f a n (K ⟨[], false, List.append (idR x) (idR y), List.append (idR x) [a], .e, .e⟩) e t
noncomputable def dma (i : Nat) (f : KMk) (x y : KSrc) (q sz b : Nat) (h : f.g.o = .app q sz b x.s y.s) : KDO := ⟨f.g, i, [], true, fun n0 s _ => ⟨[], false, List.append (idR (x.s.ev s.env.get)) (idR (y.s.ev s.env.get)), List.append (idR (x.s.ev s.env.get)) [n0 + i], .e, .e⟩, q_ma i x.ev y.ev f.run, fun Γ n0 K e n t => by
    rw [q_ma, x.ok, y.ok, forceNR_eq, f.ok Γ _ _ n0 n]
    rfl,
  fun _ n0 s s' => by
    unfold recOf
    split
    · rw [mk_call f.nm]
      refine ⟨rfl, .inl ⟨rfl, fun j hj => ?_, fun j hj => ?_, rfl, rfl⟩⟩
      · have hj : j ∈ reads s.fs.E f.g.o := hj
        rw [h] at hj
        have hj : j ∈ idOf (x.s.ev s.fs.E) ++ idOf (y.s.ev s.fs.E) := hj
        rw [idR_eq, idR_eq]
        exact hj
      · have hj : j ∈ writes (n0 + i) s.fs.E s.fs.H f.g.o := hj
        rw [h] at hj
        rw [idR_eq]
        rcases app_writes hj with rfl | hj
        · exact List.mem_append_right _ (by simp)
        · exact List.mem_append_left _ hj
    · exact ⟨rfl, .inr ⟨rfl, rfl, rfl⟩⟩⟩
noncomputable def q_cl (f : Rn) : Qn := fun Γ _ K e n t => f Γ (fun e1 n1 t1 => K ⟨[], true, [], [], t, t1⟩ e1 n1 t1) e n t
noncomputable def dcl (i : Nat) (x : KOp) (h : x.g.o.isCall = true) : KDO := ⟨x.g, i, [], true, fun _ s s' => ⟨[], true, [], [], s.hp.t, s'.hp.t⟩, q_cl x.run, fun Γ n0 K e n t => by
    rw [q_cl, x.ok]
    exact (fb_of x.nm Γ (n0 + i) n n0 _ e t).symm,
  fun _ n0 s s' => by
    unfold recOf
    split
    · rw [h]
      exact RLe.refl _
    · exact ⟨rfl, .inr ⟨rfl, rfl, rfl⟩⟩⟩
noncomputable def q_gn (i : Nat) (g : GOp) (mk : List Nat) : Qn := fun Γ n0 K e n t => gstep Γ (n0 + i) n n0 mk g ⟨e, ⟨n, t⟩⟩ fun s' => K (recOf (n0 + i) n0 mk g ⟨e, ⟨n, t⟩⟩ s') s'.env s'.hp.n s'.hp.t
noncomputable def dgn (i : Nat) (g : GOp) (mk : List Nat) : KDO := ⟨g, i, mk, true, fun n0 s s' => recOf (n0 + i) n0 mk g s s', q_gn i g mk, fun _ _ _ _ _ _ => rfl, fun _ _ _ _ => RLe.refl _⟩

def seqK (Γ : Sp) (n0 : Nat) : List KDO → List Rec → (List Rec → KK) → St → Res
  | [], rs, K, s => K rs s.env s.hp.n s.hp.t
  | x :: l, rs, K, s => gstep Γ (n0 + x.i) s.hp.n n0 x.hd x.x s fun s' => seqK Γ n0 l (x.ph n0 s s' :: rs) K s'
abbrev Un := Sp → Nat → (List Rec → KK) → List Rec → Env → Nat → Tr Obj → Res
structure KD where
  ds : List KDO
  run : Un
  ok : ∀ Γ n0 K rs e n t, run Γ n0 K rs e n t = seqK Γ n0 ds rs K ⟨e, ⟨n, t⟩⟩
noncomputable def p0 : Un := fun _ _ K rs => K rs
noncomputable def pnil : KD := ⟨[], p0, fun _ _ _ _ _ _ _ => rfl⟩
noncomputable def p2 (f : Qn) (r : Un) : Un := fun Γ n0 K rs => f Γ n0 (fun q => r Γ n0 K (q :: rs))
theorem pcons_ok (x : KDO) (r : KD) (Γ : Sp) (n0 : Nat) (K : List Rec → KK) (rs : List Rec) (e : Env) (n : Nat) (t : Tr Obj) : p2 x.run r.run Γ n0 K rs e n t = seqK Γ n0 (x :: r.ds) rs K ⟨e, ⟨n, t⟩⟩ := by
  simp only [p2, x.ok, seqK]
  congr 1
  funext s'
  exact r.ok _ _ _ _ _ _ _
noncomputable def pcons (x : KDO) (r : KD) : KD := ⟨x :: r.ds, p2 x.run r.run, pcons_ok x r⟩

/-- records as they are kept, and as they are -/
def Recs : List KDO → List Rec → List Rec → Prop
  | [], [], [] => True
  | x :: l, q :: qs, u :: us => ((x.rc = true → RLe q u) ∧ Good x.x u) ∧ Recs l qs us
  | _, _, _ => False
theorem Recs.get : ∀ {l : List KDO} {qs us : List Rec}, Recs l qs us → qs.length = l.length ∧ us.length = l.length ∧ ∀ (i : Nat) x q u, l[i]? = some x → qs[i]? = some q → us[i]? = some u → (x.rc = true → RLe q u) ∧ Good x.x u
  | [], [], [], _ => ⟨rfl, rfl, by simp⟩
  | x :: l, q :: qs, u :: us, h => by
    obtain ⟨h1, h2, h3⟩ := Recs.get h.2
    refine ⟨by simp [h1], by simp [h2], fun i y a b hy ha hb => ?_⟩
    cases i with
    | zero => simp at hy ha hb; subst hy; subst ha; subst hb; exact h.1
    | succ i => exact h3 i y a b (by simpa using hy) (by simpa using ha) (by simpa using hb)
  | [], [], _ :: _, h => h.elim
  | [], _ :: _, _, h => h.elim
  | _ :: _, [], _, h => h.elim
  | _ :: _, _ :: _, [], h => h.elim
theorem seqK_path (Γ : Sp) (n0 : Nat) (mks : List (List Nat)) : ∀ (ds : List KDO) (i : Nat) (rs rs0 : List Rec) (s : St), ds.map (·.i) = List.range' i ds.length → (∀ j x, ds[j]? = some x → mks.getD (i + j) [] = x.hd) →
    (∃ (s' : St) (qs us : List Rec), Recs ds qs us ∧ (∀ K, seqK Γ n0 ds rs K s = K (qs.reverse ++ rs) s'.env s'.hp.n s'.hp.t) ∧ ∀ KR : List Rec → St → Res, drawK Γ n0 mks i (ds.map (·.x)) rs0 KR s = KR (rs0 ++ us) s') ∨
    ((∀ K, seqK Γ n0 ds rs K s = none) ∧ ∀ KR : List Rec → St → Res, drawK Γ n0 mks i (ds.map (·.x)) rs0 KR s = none)
  | [], i, rs, rs0, s, _, _ => .inl ⟨s, [], [], trivial, fun K => rfl, fun KR => by simp [drawK]⟩
  | x :: ds, i, rs, rs0, s, hi, hm => by
    simp only [List.map_cons, List.length_cons, List.range'_succ, List.cons.injEq] at hi
    have h0 := hm 0 x rfl
    simp only [Nat.add_zero] at h0
    have hx : mks.getD i [] = x.hd := h0
    rcases gstep_det Γ (n0 + i) s.hp.n n0 x.hd x.x s with ⟨s1, h1⟩ | h1
    · rcases seqK_path Γ n0 mks ds (i + 1) (x.ph n0 s s1 :: rs) (rs0 ++ [recOf (n0 + i) n0 x.hd x.x s s1]) s1 hi.2 (fun j y hy => by
        have := hm (j + 1) y (by simpa using hy)
        rw [← this]
        congr 1
        omega) with ⟨s', qs, us, k1, k2, k3⟩ | ⟨k2, k3⟩
      · refine .inl ⟨s', x.ph n0 s s1 :: qs, recOf (n0 + i) n0 x.hd x.x s s1 :: us, ⟨⟨fun hr => by rw [← hi.1]; exact x.sub hr n0 s s1, recOf_good _ _ _ _ _ _⟩, k1⟩, fun K => ?_, fun KR => ?_⟩
        · simp only [seqK, hi.1, h1, k2, List.reverse_cons, List.append_assoc, List.singleton_append]
        · simp only [List.map_cons, drawK, hx, h1, k3, List.append_assoc, List.singleton_append]
      · refine .inr ⟨fun K => ?_, fun KR => ?_⟩
        · simp only [seqK, hi.1, h1, k2]
        · simp only [List.map_cons, drawK, hx, h1, k3]
    · refine .inr ⟨fun K => ?_, fun KR => ?_⟩
      · simp only [seqK, hi.1, h1]
      · simp only [List.map_cons, drawK, hx, h1]

/-- which pairs are looked at when the region is through (counted from behind) -/
noncomputable def dynR (rs : List Rec) : List (Nat × Nat) → Bool := @List.rec (Nat × Nat) (fun _ => Bool) true (fun p _ ih => Bool.rec (motive := fun _ => Bool) false ih (nthB rs p.1 fun a => nthB rs p.2 fun b => okPairR a b))
where
  nthB (l : List Rec) : Nat → (Rec → Bool) → Bool := @List.rec Rec (fun _ => Nat → (Rec → Bool) → Bool) (fun _ _ => false) (fun a _ ih i k => Bool.rec (motive := fun _ => Bool) (ih (Nat.sub i 1) k) (k a) (Nat.beq i 0)) l
theorem nthB_eq : ∀ (l : List Rec) (i : Nat) (k : Rec → Bool), dynR.nthB l i k = match l[i]? with | some a => k a | none => false
  | [], i, k => by cases i <;> rfl
  | a :: l, 0, k => rfl
  | a :: l, i + 1, k => (nthB_eq l i k).trans (by simp)
theorem dynR_get : ∀ {D : List (Nat × Nat)} {rs : List Rec}, dynR rs D = true → ∀ p ∈ D, ∃ a b, rs[p.1]? = some a ∧ rs[p.2]? = some b ∧ okPairR a b = true
  | [], rs, _, p, hp => by simp at hp
  | q :: D, rs, h, p, hp => by
    have h : Bool.rec (motive := fun _ => Bool) false (dynR rs D) (dynR.nthB rs q.1 fun a => dynR.nthB rs q.2 fun b => okPairR a b) = true := h
    rw [brec_eq] at h
    cases hq : (dynR.nthB rs q.1 fun a => dynR.nthB rs q.2 fun b => okPairR a b) with
    | false => rw [hq] at h; simp at h
    | true =>
      rw [hq, cond_true] at h
      rcases List.mem_cons.1 hp with rfl | hp
      · rw [nthB_eq] at hq
        split at hq
        · rename_i a ha
          rw [nthB_eq] at hq
          split at hq
          · rename_i b hb
            exact ⟨a, b, ha, hb, hq⟩
          · simp at hq
        · simp at hq
      · exact dynR_get h p hp
def statD (ds : List KDO) (pre : List (List Nat)) (D : List (Nat × Nat)) : Bool := (List.range ds.length).all fun j => (List.range j).all fun i => memN (pre.getD j []) i || (match ds[i]?, ds[j]? with
  | some a, some b => pairB a.x b.x || (a.rc && b.rc && D.any fun p => Nat.beq p.1 (ds.length - 1 - i) && Nat.beq p.2 (ds.length - 1 - j))
  | _, _ => false)
theorem statD_ok {ds : List KDO} {pre : List (List Nat)} {D : List (Nat × Nat)} (h : statD ds pre D = true) {qs us : List Rec} (hr : Recs ds qs us) (hd : dynR qs.reverse D = true) : okAll pre us = true := by
  obtain ⟨l1, l2, h2⟩ := hr.get
  unfold okAll
  rw [l2]
  refine List.all_eq_true.2 fun j hj => List.all_eq_true.2 fun i hi => ?_
  have h3 := List.all_eq_true.1 (List.all_eq_true.1 h j hj) i hi
  have hj := List.mem_range.1 hj
  have hi := List.mem_range.1 hi
  rw [Bool.or_eq_true] at h3 ⊢
  rcases h3 with h3 | h3
  · exact .inl h3
  · right
    have e1 : ds[i]? = some ds[i] := List.getElem?_eq_getElem (by omega)
    have e2 : ds[j]? = some ds[j] := List.getElem?_eq_getElem hj
    have e3 : us[i]? = some us[i] := List.getElem?_eq_getElem (by omega)
    have e4 : us[j]? = some us[j] := List.getElem?_eq_getElem (by omega)
    have e5 : qs[i]? = some qs[i] := List.getElem?_eq_getElem (by omega)
    have e6 : qs[j]? = some qs[j] := List.getElem?_eq_getElem (by omega)
    rw [e1, e2] at h3
    rw [e3, e4]
    have g1 := h2 i _ _ _ e1 e5 e3
    have g2 := h2 j _ _ _ e2 e6 e4
    simp only [Bool.or_eq_true, Bool.and_eq_true, List.any_eq_true, Tr.beq_iff, decide_eq_true_eq] at h3
    rcases h3 with h3 | ⟨⟨r1, r2⟩, p, hp, p1, p2⟩
    · exact pair_ok h3 g1.2 g2.2
    · obtain ⟨a, b, ha, hb, hab⟩ := dynR_get hd p hp
      rw [p1, List.getElem?_reverse (by omega), show qs.length - 1 - (ds.length - 1 - i) = i by omega, e5] at ha
      rw [p2, List.getElem?_reverse (by omega), show qs.length - 1 - (ds.length - 1 - j) = j by omega, e6] at hb
      obtain rfl := Option.some.inj ha
      obtain rfl := Option.some.inj hb
      exact okPair_iff.2 (pairP_mono (g1.1 r1) (g2.1 r2) (okPairR_ok eqOb_refl hab))
noncomputable def w_drw (r : Un) (m : Nat) (D : List (Nat × Nat)) (c : IRc) : Wn := fun Γ K e n t => forceNR (Nat.add n m) fun n1 => r Γ n (fun rs e1 n2 t1 => Bool.rec (motive := fun _ => Res) (w_any c Γ K e n t) (K .normal e1 n2 t1) (dynR rs D)) [] e n1 t
theorem drw_ok (r : KD) (m : Nat) (D : List (Nat × Nat)) (pre : List (List Nat)) (hm : mkN (r.ds.map (·.x)) = m) (hi : r.ds.map (·.i) = List.range' 0 r.ds.length) (hs : statD r.ds pre D = true) (Γ : Sp) (K : Ex → KK) (e : Env) (n : Nat) (t : Tr Obj) :
    w_drw r.run m D (.drw (r.ds.map (·.x)) pre (r.ds.map (·.hd))) Γ K e n t = DM.run Γ LL (.drw (r.ds.map (·.x)) pre (r.ds.map (·.hd))) (fun x => up (K x)) ⟨e, ⟨n, t⟩⟩ := by
  simp only [w_drw, w_any, forceNR_eq, r.ok, run, forceN_eq, hm]
  have hmk : ∀ j x, r.ds[j]? = some x → (r.ds.map (·.hd)).getD (0 + j) [] = x.hd := fun j x hx => by
    rw [Nat.zero_add, List.getD_eq_getElem?_getD, List.getElem?_map, hx]
    rfl
  rcases seqK_path Γ n (r.ds.map (·.hd)) r.ds 0 [] [] ⟨e, ⟨Nat.add n m, t⟩⟩ hi hmk with ⟨s', qs, us, k1, k2, k3⟩ | ⟨k2, k3⟩
  · rw [k2, k3]
    simp only [List.append_nil, List.nil_append, brec_eq]
    cases hd : dynR qs.reverse D with
    | false => rfl
    | true =>
      rw [statD_ok hs k1 hd]
      rfl
  · rw [k2, k3]
noncomputable def cdrw (r : KD) (m : Nat) (D : List (Nat × Nat)) (pre : List (List Nat)) (hm : mkN (r.ds.map (·.x)) = m) (hi : r.ds.map (·.i) = List.range' 0 r.ds.length) (hs : statD r.ds pre D = true) : KC :=
  ⟨.drw (r.ds.map (·.x)) pre (r.ds.map (·.hd)), w_drw r.run m D (.drw (r.ds.map (·.x)) pre (r.ds.map (·.hd))), drw_ok r m D pre hm hi hs⟩

/-! functions -/
structure KF where
  F : FnC
  run : Sp → List D → Hp → Res
  ok : ∀ Γ args hp, run Γ args hp = callF Γ LL F args hp
noncomputable def bindR (o : Res) (k : Env → Res) : List Pt → List D → Env → Res := @List.rec Pt (fun _ => List D → Env → Res) (fun l e => List.rec (motive := fun _ => Res) (k e) (fun _ _ _ => o) l) (fun P _ ih l e => List.rec (motive := fun _ => Res) o (fun v r _ => P v e fun e => ih r e) l)
theorem bindR_eq (o : Res) (k : Env → Res) : ∀ (ps : List Slot) (l : List D) (e : Env) (i : Nat), ps.map (·.n) = List.range' i ps.length → bindR o k (ps.map (·.set)) l e = if l.length = ps.length then argsK l i e k else o
  | [], [], e, i, _ => rfl
  | [], v :: l, e, i, _ => by simp [bindR]
  | p :: ps, [], e, i, _ => by simp [bindR]
  | p :: ps, v :: l, e, i, h => by
    show (p.set v e fun e => bindR o k (ps.map (·.set)) l e) = _
    simp only [List.map_cons, List.length_cons, List.range'_succ, List.cons.injEq] at h
    rw [p.ok, bindR_eq o k ps l _ (i + 1) h.2, h.1]
    simp [argsK, forceH_eq]
/-- how a function ends -/
structure KE where
  rs : List RV
  fin : KK
  ok : ∀ e n t, fin e n t = DM.fin rs .ret ⟨e, ⟨n, t⟩⟩
noncomputable def f_any (rs : List RV) : KK := fun e n t => DM.fin rs .ret ⟨e, ⟨n, t⟩⟩
noncomputable def eany (rs : List RV) : KE := ⟨rs, f_any rs, fun _ _ _ => rfl⟩
noncomputable def f_1 (X : Gt) : KK := fun e n t => X e fun v => some (v, ⟨n, t⟩)
noncomputable def e1 (i : Nat) (r : KSrc) (h : r.s = .t i) : KE := ⟨[.t i], f_1 r.ev, fun e n t => by
  rw [f_1, r.ok, h]
  simp [DM.fin, resultOf, rvs, RV.ev, forceH_eq, ASrc.ev, St.fs]⟩
theorem rvs_t {E : Nat → D} {H : Nat → Option Obj} : ∀ (ns : List Nat), rvs E H (ns.map RV.t) = some (ns.map E)
  | [] => rfl
  | n :: ns => by simp [rvs, RV.ev, rvs_t ns]
noncomputable def f_n (Rs : List Gt) : KK := fun e n t => argsR Rs e fun l => some (.tup l, ⟨n, t⟩)
theorem en_ok (i j : Nat) (ns : List Nat) (rs : List KSrc) (h : rs.map (·.s) = (i :: j :: ns).map ASrc.t) (e : Env) (n : Nat) (t : Tr Obj) : f_n (rs.map (·.ev)) e n t = DM.fin ((i :: j :: ns).map RV.t) .ret ⟨e, ⟨n, t⟩⟩ := by
  rw [f_n, argsR_eq, h]
  simp only [DM.fin, resultOf, rvs_t, forceH_eq, List.map_map]
  rfl
noncomputable def en (i j : Nat) (ns : List Nat) (rs : List KSrc) (h : rs.map (·.s) = (i :: j :: ns).map ASrc.t) : KE := ⟨(i :: j :: ns).map RV.t, f_n (rs.map (·.ev)), en_ok i j ns rs h⟩
noncomputable def w_fn (F : FnC) (Ps : List Pt) (f : KK) (b : Wn) : Sp → List D → Hp → Res := fun Γ args hp => bindR (callF Γ LL F args hp) (fun e => Hp.rec (motive := fun _ => Res) (fun n t => b Γ (exR f (fun _ _ _ _ => none) f) e n t) hp) Ps args blank
theorem fn_ok (nt : Nat) (ps : List Slot) (f : KE) (b : KC) (h : ps.map (·.n) = List.range' 0 ps.length) (hn : Nat.ble ps.length nt = true) (Γ : Sp) (args : List D) (hp : Hp) : w_fn ⟨nt, f.rs, b.c⟩ (ps.map (·.set)) f.fin b.run Γ args hp = callF Γ LL ⟨nt, f.rs, b.c⟩ args hp := by
  simp only [w_fn]
  rw [bindR_eq _ _ ps args blank 0 h]
  split
  · rename_i hl
    simp only [callF, lenL_eq, Nat.zero_add, hl, hn, chk, cond_true]
    congr 1
    funext e
    obtain ⟨n, t⟩ := hp
    show b.run Γ _ e n t = _
    rw [b.ok]
    congr 1
    funext x s
    cases x with
    | normal => exact f.ok s.env s.hp.n s.hp.t
    | exit i => rfl
    | ret => exact f.ok s.env s.hp.n s.hp.t
  · rfl
noncomputable def kfn (nt : Nat) (ps : List Slot) (f : KE) (b : KC) (h : ps.map (·.n) = List.range' 0 ps.length) (hn : Nat.ble ps.length nt = true) : KF := ⟨⟨nt, f.rs, b.c⟩, w_fn ⟨nt, f.rs, b.c⟩ (ps.map (·.set)) f.fin b.run, fn_ok nt ps f b h hn⟩
/-- the same function, its run written out -/
noncomputable def KF.as (a : KF) (r : Sp → List D → Hp → Res) (h : a.run = r) : KF := ⟨a.F, r, fun Γ args hp => by rw [← h]; exact a.ok Γ args hp⟩

/-- a table of functions -/
inductive BT where
  | e
  | n (l : BT) (k : Nat) (v : KF) (r : BT)
noncomputable def BT.find (t : BT) : Nat → Option KF := BT.rec (motive := fun _ => Nat → Option KF) (fun _ => none) (fun _ k v _ il ir f => Bool.rec (motive := fun _ => Option KF) (Bool.rec (motive := fun _ => Option KF) (ir f) (il f) (Nat.blt f k)) (some v) (Nat.beq f k)) t
def BT.list : BT → List (Nat × KF)
  | .e => []
  | .n l k v r => l.list ++ (k, v) :: r.list
theorem BT.find_mem : ∀ {t : BT} {f : Nat} {F : KF}, t.find f = some F → (f, F) ∈ t.list
  | .e, f, F, h => by simp [BT.find] at h
  | .n l k v r, f, F, h => by
    have h : Bool.rec (motive := fun _ => Option KF) (Bool.rec (motive := fun _ => Option KF) (r.find f) (l.find f) (Nat.blt f k)) (some v) (Nat.beq f k) = some F := h
    rw [brec_eq, brec_eq] at h
    simp only [BT.list, List.mem_append, List.mem_cons]
    cases hb : Nat.beq f k with
    | true =>
      rw [hb] at h
      obtain rfl := Option.some.inj h
      rw [Nat.eq_of_beq_eq_true hb]
      exact .inr (.inl rfl)
    | false =>
      rw [hb] at h
      simp only [cond_false] at h
      cases hl : Nat.blt f k with
      | true => rw [hl] at h; exact .inl (BT.find_mem h)
      | false => rw [hl] at h; exact .inr (.inr (BT.find_mem h))
noncomputable def callNR (T : Nat → Option KF) (d : Nat) : Sp := Nat.rec (motive := fun _ => Sp) (fun _ _ _ => none) (fun _ ih f args hp => Option.rec (motive := fun _ => Res) none (fun F => F.run ih args hp) (T f)) d
theorem callNR_eq (T : Nat → Option KF) : ∀ d, callNR T d = callN (fun f => (T f).map (·.F)) LL d
  | 0 => rfl
  | d + 1 => by
    funext f args hp
    show Option.rec (motive := fun _ => Res) none (fun F => F.run (callNR T d) args hp) (T f) = _
    simp only [callN]
    cases T f with
    | none => rfl
    | some F => exact (F.ok _ _ _).trans (by rw [callNR_eq T d]; rfl)
noncomputable def dB : D → Bool := @D.rec (fun _ => Bool) (fun _ => Unit) false (fun b => b) (fun _ _ => false) (fun _ => false) false (fun _ _ => false) false false (fun _ _ _ _ _ => false) (fun _ _ => false) (fun _ _ => false) (fun _ _ _ => false) false false (fun _ => false) false (fun _ _ => false) () (fun _ _ _ _ => ())
noncomputable def isTrueR : Res → Bool := @Option.rec (D × Hp) (fun _ => Bool) false (@Prod.rec D Hp (fun _ => Bool) (fun v _ => dB v))
theorem isTrueR_eq (r : Res) : isTrueR r = isTrue r := by
  cases r with
  | none => rfl
  | some p =>
    obtain ⟨v, hp⟩ := p
    cases v <;> first | rfl | skip
    rename_i b
    cases b <;> rfl

section
variable {P : Program} {T : Nat → Bool}
/-- a law without arguments that reads no variable -/
theorem closedK {t : BT} (hl : (t.list.all fun p => chkFn P [] T p.1 p.2.F) = true) {d f : Nat} (hr : isTrueR (callNR t.find d f [] ⟨0, .e⟩) = true) (sg : Sig) (w : World) :
    Calls P f #[] w fun e w' => e = .returned (.bool true) ∧ Below w.heap.size w w' := by
  rw [isTrueR_eq, callNR_eq] at hr
  refine closedT (T := T) (fun f F h => ?_) hr sg w
  rw [Option.map_eq_some_iff] at h
  obtain ⟨K, hk, rfl⟩ := h
  exact List.all_eq_true.1 hl _ (BT.find_mem hk)
end

end Go.DM
