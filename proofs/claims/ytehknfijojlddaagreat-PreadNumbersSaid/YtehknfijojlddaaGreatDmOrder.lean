/-
  Operations in any order: what an operation looks at and what it turns.
-/
import Derived.Test.YtehknfijojlddaaGreatDmOpsH
import Derived.Orders
namespace Go.DM
set_option autoImplicit false
set_option linter.unusedSimpArgs false
set_option linter.unusedVariables false

def ASrc.slots : ASrc → List Nat
  | .t n => [n]
  | .c _ => []
def oslots : Option ASrc → List Nat
  | some x => x.slots
  | none => []
def IOp.rd : IOp → List Nat
  | .mov x | .un _ x | .cvi _ x | .cvs x | .s2b _ x | .b2s x | .i2s x | .len _ x | .fld _ _ _ x | .box _ x | .fad _ x | .ld _ _ x | .mks _ _ _ _ x | .ext _ x | .nck x => x.slots
  | .pick c x y => c.slots ++ (x.slots ++ y.slots)
  | .bin _ x y | .idx x y | .ixa _ x y | .ixp _ _ x y | .st _ x y | .app _ _ _ x y | .apt _ _ x y | .mx _ x y | .lkp _ _ _ _ _ x y | .ment _ _ _ _ x y | .eq _ _ x y => x.slots ++ y.slots
  | .mup _ _ x y z | .mest x y z => x.slots ++ (y.slots ++ z.slots)
  | .subs x lo hi | .subl _ x lo hi => x.slots ++ (oslots lo ++ oslots hi)
  | .bsl _ _ ps => ps.flatMap ASrc.slots
  | .bld _ ps => ps.flatMap fun p => p.2.2.slots
  | .new _ _ | .mkm => []
  | .mkf _ cs => cs.flatMap ASrc.slots
  | .call _ as => as.flatMap ASrc.slots
  | .dcall x as => x.slots ++ as.flatMap ASrc.slots
def GOp.rd (x : GOp) : List Nat := (match x.g with | some (g, _) => [g] | none => []) ++ x.o.rd

def idOf : D → List Nat
  | .ptr id _ => [id]
  | .sl id _ _ _ _ => [id]
  | .mp id => [id]
  | _ => []
/-- the objects that an operation looks at -/
def reads (E : Nat → D) : IOp → List Nat
  | .ld _ _ x | .st _ x _ | .b2s x | .lkp _ _ _ _ _ x _ | .mup _ _ x _ _ | .ment _ _ _ _ x _ | .mest x _ _ => idOf (x.ev E)
  | .app _ _ _ x y => idOf (x.ev E) ++ idOf (y.ev E)
  | _ => []
/-- those that it turns or makes -/
def writes (at_ : Nat) (E : Nat → D) (H : Nat → Option Obj) (o : IOp) : List Nat := match eff at_ E H o with
  | some (_, ws) => ws.map (·.1)
  | none => []

section
variable {E E2 : Nat → D} {H H2 : Nat → Option Obj}

theorem ev_same {x : ASrc} (h : ∀ n ∈ x.slots, E2 n = E n) : x.ev E2 = x.ev E := by
  cases x with
  | t n => exact h n (by simp [ASrc.slots])
  | c v => rfl
theorem osrc_same {x : Option ASrc} (h : ∀ n ∈ oslots x, E2 n = E n) : osrc E2 x = osrc E x := by
  cases x with
  | none => rfl
  | some x => simp only [osrc]; rw [ev_same h]
theorem slCells_same {d : D} (h : ∀ id ∈ idOf d, H2 id = H id) : slCells H2 d = slCells H d := by
  cases d <;> first | rfl | skip
  rename_i id _ _ _ _
  simp only [slCells, cells?, h id (by simp [idOf])]

/-- an operation that is no call has to do with what it names alone -/
theorem eff_local {at_ : Nat} {o : IOp} (he : ∀ n ∈ o.rd, E2 n = E n) (hh : ∀ id ∈ reads E o, H2 id = H id) : eff at_ E2 H2 o = eff at_ E H o := by
  have e1 : ∀ {x : ASrc}, (∀ n ∈ x.slots, n ∈ o.rd) → x.ev E2 = x.ev E := fun h => ev_same fun n hn => he n (h n hn)
  have e2 : ∀ {x : Option ASrc}, (∀ n ∈ oslots x, n ∈ o.rd) → osrc E2 x = osrc E x := fun h => osrc_same fun n hn => he n (h n hn)
  cases o with
  | mov x => simp only [eff, e1 (x := x) (by simp [IOp.rd])]
  | pick c x y => simp only [eff, e1 (x := c) (by simp +contextual [IOp.rd]), e1 (x := x) (by simp +contextual [IOp.rd]), e1 (x := y) (by simp +contextual [IOp.rd])]
  | bin o x y => simp only [eff, e1 (x := x) (by simp +contextual [IOp.rd]), e1 (x := y) (by simp +contextual [IOp.rd])]
  | un o x => simp only [eff, e1 (x := x) (by simp [IOp.rd])]
  | cvi k x => simp only [eff, e1 (x := x) (by simp [IOp.rd])]
  | cvs x => simp only [eff, e1 (x := x) (by simp [IOp.rd])]
  | s2b e x => simp only [eff, e1 (x := x) (by simp [IOp.rd])]
  | b2s x => simp only [eff, e1 (x := x) (by simp [IOp.rd]), slCells_same (d := x.ev E) (fun id hid => hh id (by simpa [reads] using hid))]
  | i2s x => simp only [eff, e1 (x := x) (by simp [IOp.rd])]
  | len st x => simp only [eff, e1 (x := x) (by simp [IOp.rd])]
  | idx x i => simp only [eff, e1 (x := x) (by simp +contextual [IOp.rd]), e1 (x := i) (by simp +contextual [IOp.rd])]
  | ixa sz x i => simp only [eff, e1 (x := x) (by simp +contextual [IOp.rd]), e1 (x := i) (by simp +contextual [IOp.rd])]
  | ixp n sz x i => simp only [eff, e1 (x := x) (by simp +contextual [IOp.rd]), e1 (x := i) (by simp +contextual [IOp.rd])]
  | subs x lo hi => simp only [eff, e1 (x := x) (by simp +contextual [IOp.rd]), e2 (x := lo) (by simp +contextual [IOp.rd]), e2 (x := hi) (by simp +contextual [IOp.rd])]
  | subl sz x lo hi => simp only [eff, e1 (x := x) (by simp +contextual [IOp.rd]), e2 (x := lo) (by simp +contextual [IOp.rd]), e2 (x := hi) (by simp +contextual [IOp.rd])]
  | bsl e sz ps =>
    have h1 : ∀ x ∈ ps, x.ev E2 = x.ev E := fun x hx => e1 fun n hn => by simp only [IOp.rd, List.mem_flatMap]; exact ⟨x, hx, hn⟩
    have h2 : (ps.all fun x => (x.ev E2).cells.all D.one && Nat.beq (x.ev E2).cells.length sz) = ps.all fun x => (x.ev E).cells.all D.one && Nat.beq (x.ev E).cells.length sz := by
      rw [Bool.eq_iff_iff, List.all_eq_true, List.all_eq_true]
      exact forall_congr' fun x => forall_congr' fun hx => by rw [h1 x hx]
    have h3 : (ps.flatMap fun x => (x.ev E2).cells) = ps.flatMap fun x => (x.ev E).cells := by
      simp only [List.flatMap]
      congr 1
      exact List.map_congr_left fun x hx => by rw [h1 x hx]
    simp only [eff, h2, h3]
  | bld zero ps =>
    have h1 : (ps.map fun p => (p.1, p.2.1, p.2.2.ev E2)) = ps.map fun p => (p.1, p.2.1, p.2.2.ev E) := List.map_congr_left fun p hp => by
      rw [e1 (x := p.2.2) fun n hn => by simp only [IOp.rd, List.mem_flatMap]; exact ⟨p, hp, hn⟩]
    simp only [eff, h1]
  | fld off n agg x => simp only [eff, e1 (x := x) (by simp [IOp.rd])]
  | new e zero => rfl
  | box e x => simp only [eff, e1 (x := x) (by simp [IOp.rd])]
  | fad off x => simp only [eff, e1 (x := x) (by simp [IOp.rd])]
  | ld n agg x =>
    simp only [eff, e1 (x := x) (by simp [IOp.rd])]
    cases hx : x.ev E <;> first | rfl | skip
    rename_i id o
    simp only [cells?, hh id (by simp [reads, hx, idOf])]
  | st n x y =>
    simp only [eff, e1 (x := x) (by simp +contextual [IOp.rd]), e1 (x := y) (by simp +contextual [IOp.rd])]
    cases hx : x.ev E <;> first | rfl | skip
    rename_i id o
    simp only [cells?, hh id (by simp [reads, hx, idOf])]
  | app e sz by_ x y =>
    have h2 : slCells H2 (y.ev E) = slCells H (y.ev E) := slCells_same fun id hid => hh id (by simp [reads, hid])
    simp only [eff, e1 (x := x) (by simp +contextual [IOp.rd]), e1 (x := y) (by simp +contextual [IOp.rd]), h2]
    cases hx : x.ev E <;> first | rfl | skip
    rename_i id o q1 q2 q3
    simp only [cells?, hh id (by simp [reads, hx, idOf])]
  | apt e by_ x y => simp only [eff, e1 (x := x) (by simp +contextual [IOp.rd]), e1 (x := y) (by simp +contextual [IOp.rd])]
  | mks e sz by_ zero x => simp only [eff, e1 (x := x) (by simp [IOp.rd])]
  | ext i x => simp only [eff, e1 (x := x) (by simp [IOp.rd])]
  | nck x => simp only [eff, e1 (x := x) (by simp [IOp.rd])]
  | mx mn x y => simp only [eff, e1 (x := x) (by simp +contextual [IOp.rd]), e1 (x := y) (by simp +contextual [IOp.rd])]
  | mkf f cs =>
    have h1 : cs.map (·.ev E2) = cs.map (·.ev E) := List.map_congr_left fun x hx => e1 fun n hn => by simp only [IOp.rd, List.mem_flatMap]; exact ⟨x, hx, hn⟩
    simp only [eff, h1]
  | mkm => rfl
  | lkp kk n zero agg ok x k =>
    simp only [eff, e1 (x := x) (by simp +contextual [IOp.rd]), e1 (x := k) (by simp +contextual [IOp.rd])]
    cases hx : x.ev E <;> first | rfl | skip
    rename_i id
    simp only [map?, hh id (by simp [reads, hx, idOf])]
  | mup kk n x k y =>
    simp only [eff, e1 (x := x) (by simp +contextual [IOp.rd]), e1 (x := k) (by simp +contextual [IOp.rd]), e1 (x := y) (by simp +contextual [IOp.rd])]
    cases hx : x.ev E <;> first | rfl | skip
    rename_i id
    simp only [map?, hh id (by simp [reads, hx, idOf])]
  | ment kk n zero agg x k =>
    simp only [eff, e1 (x := x) (by simp +contextual [IOp.rd]), e1 (x := k) (by simp +contextual [IOp.rd])]
    cases hx : x.ev E <;> first | rfl | skip
    rename_i id
    simp only [map?, hh id (by simp [reads, hx, idOf])]
  | mest x i y =>
    simp only [eff, e1 (x := x) (by simp +contextual [IOp.rd]), e1 (x := i) (by simp +contextual [IOp.rd]), e1 (x := y) (by simp +contextual [IOp.rd])]
    cases hx : x.ev E <;> first | rfl | skip
    rename_i id
    cases i.ev E <;> first | rfl | skip
    rename_i q n
    cases n <;> first | rfl | skip
    simp only [map?, hh id (by simp [reads, hx, idOf])]
  | eq kk neg x y => simp only [eff, e1 (x := x) (by simp +contextual [IOp.rd]), e1 (x := y) (by simp +contextual [IOp.rd])]
  | call f as => rfl
  | dcall x as => rfl

end

def hideF (M : List Nat) (H : Nat → Option Obj) : Nat → Option Obj := fun id => if id ∈ M then none else H id
def backF (M : List Nat) (H H' : Nat → Option Obj) : Nat → Option Obj := fun id => if id ∈ M then H id else H' id

/-- a step, on functions: what a call is handed has such objects -/
def RBody (Γ : Sp) (at_ : Nat) (M : List Nat) (x : GOp) (s s' : FS) : Prop := match x.o with
  | .call f as => ∃ (hp : Hp) (v : D) (hp' : Hp), hp.t.get = hideF M s.H ∧ hp.n = s.n ∧ Γ f (as.map (·.ev s.E)) hp = some (v, hp') ∧ s' = ⟨putF s.E x.d v, backF M s.H hp'.t.get, hp'.n⟩
  | .dcall y as => ∃ f cs, y.ev s.E = .fn f cs ∧ ∃ (hp : Hp) (v : D) (hp' : Hp), hp.t.get = hideF M s.H ∧ hp.n = s.n ∧ Γ f (as.map (·.ev s.E) ++ cs) hp = some (v, hp') ∧ s' = ⟨putF s.E x.d v, backF M s.H hp'.t.get, hp'.n⟩
  | o => ∃ v ws, eff at_ s.E s.H o = some (v, ws) ∧ s' = ⟨putF s.E x.d v, putsF s.H ws, s.n⟩
/-- is an operation wanted? -/
def guardB (E : Nat → D) : Option (Nat × Bool) → Option Bool
  | none => some true
  | some (g, w) => match E g with
    | .bool b => some (b == w)
    | .tup [] => some false
    | _ => none
def RStep (Γ : Sp) (at_ : Nat) (M : List Nat) (x : GOp) (s s' : FS) : Prop := match guardB s.E x.g with
  | some true => RBody Γ at_ M x s s'
  | some false => s' = ⟨putF s.E x.d (.tup []), s.H, s.n⟩
  | none => False

theorem hide_fs (n0 : Nat) (mk : List Nat) (h : Hp) : (hide n0 mk h).t.get = hideF (mk.map (n0 + ·)) h.t.get ∧ (hide n0 mk h).n = h.n := by
  obtain ⟨h1, h2⟩ := puts_fs (mk.map fun i => (n0 + i, none)) h
  refine ⟨h1.trans ?_, h2⟩
  have : ∀ (mk : List Nat) (H : Nat → Option Obj), putsF H (mk.map fun i => (n0 + i, none)) = hideF (mk.map (n0 + ·)) H := by
    intro mk
    induction mk with
    | nil => intro H; funext id; simp [putsF, hideF]
    | cons i mk ih =>
      intro H
      show putsF (upd H (n0 + i) none) (mk.map fun i => (n0 + i, none)) = _
      rw [ih]
      funext id
      simp only [hideF, upd, List.map_cons, List.mem_cons]
      by_cases h1 : id ∈ mk.map (n0 + ·)
      · simp [h1]
      · by_cases h2 : id = n0 + i <;> simp [h1, h2]
  exact this mk _

theorem back_fs (n0 : Nat) (mk : List Nat) (h h' : Hp) : (back n0 mk h h').t.get = backF (mk.map (n0 + ·)) h.t.get h'.t.get ∧ (back n0 mk h h').n = h'.n := by
  obtain ⟨h1, h2⟩ := puts_fs (mk.map fun i => (n0 + i, h.t.get (n0 + i))) h'
  refine ⟨h1.trans ?_, h2⟩
  have : ∀ (mk : List Nat) (H : Nat → Option Obj), putsF H (mk.map fun i => (n0 + i, h.t.get (n0 + i))) = backF (mk.map (n0 + ·)) h.t.get H := by
    intro mk
    induction mk with
    | nil => intro H; funext id; simp [putsF, backF]
    | cons i mk ih =>
      intro H
      show putsF (upd H (n0 + i) (h.t.get (n0 + i))) (mk.map fun i => (n0 + i, h.t.get (n0 + i))) = _
      rw [ih]
      funext id
      simp only [backF, upd, List.map_cons, List.mem_cons]
      by_cases h1 : id ∈ mk.map (n0 + ·)
      · simp [h1]
      · by_cases h2 : id = n0 + i <;> simp [h1, h2]
  exact this mk _

theorem step_R {Γ : Sp} {at_ n n0 : Nat} {mk : List Nat} {x : GOp} {s : St} {R : Type} {k : St → Option R} {r : R} (hn : x.o.isCall = true → n = s.hp.n) (h : step Γ at_ n n0 mk x s k = some r) :
    ∃ s', k s' = some r ∧ RBody Γ at_ (mk.map (n0 + ·)) x ⟨s.fs.E, s.fs.H, n⟩ s'.fs := by
  have call : ∀ f args v hp, Γ f args (hide n0 mk s.hp) = some (v, hp) → putK ⟨s.env, back n0 mk s.hp hp⟩ x.d v k = some r → n = s.hp.n →
      ∃ s', k s' = some r ∧ ∃ (hp : Hp) (v : D) (hp' : Hp), hp.t.get = hideF (mk.map (n0 + ·)) s.fs.H ∧ hp.n = n ∧ Γ f args hp = some (v, hp') ∧ s'.fs = ⟨putF s.fs.E x.d v, backF (mk.map (n0 + ·)) s.fs.H hp'.t.get, hp'.n⟩ := by
    intro f args v hp hg hk hn
    rw [putK_eq] at hk
    obtain ⟨h1, h2⟩ := hide_fs n0 mk s.hp
    obtain ⟨b1, b2⟩ := back_fs n0 mk s.hp hp
    refine ⟨_, hk, _, v, hp, h1, h2.trans hn.symm, hg, ?_⟩
    rw [put_fs]
    show FS.mk (putF s.fs.E x.d v) (back n0 mk s.hp hp).t.get (back n0 mk s.hp hp).n = _
    rw [b1, b2]
    rfl
  obtain ⟨d, gd, o⟩ := x
  unfold step at h
  unfold RBody
  cases hcall : IOp.isCall o with
  | true =>
    simp only [hcall, cond_true] at h
    unfold stepC at h
    split at h
    · rename_i f as ho
      simp only at ho
      subst ho
      split at h
      · rename_i v hp hg
        exact call _ _ v hp hg h (hn rfl)
      · simp at h
    · rename_i y as ho
      simp only at ho
      subst ho
      split at h
      · rename_i f cs hy
        split at h
        · rename_i v hp hg
          obtain ⟨s', h1, h2⟩ := call _ _ v hp hg h (hn rfl)
          exact ⟨s', h1, f, cs, hy, h2⟩
        · simp at h
      · simp at h
    · simp at h
  | false =>
    simp only [hcall, cond_false, effK_eq] at h
    unfold stepE at h
    split at h
    · rename_i v ws he
      have key : ∃ s', k s' = some r ∧ s'.fs = ⟨putF s.fs.E d v, putsF s.fs.H ws, n⟩ := by
        obtain ⟨p1, p2⟩ := puts_fs ws ⟨n, s.hp.t⟩
        simp only [forceH_eq, forceD_eq, putsK_eq, forceN_eq, putK_eq, Bool.cond_self] at h
        · refine ⟨_, h, ?_⟩
          rw [put_fs]
          show FS.mk (putF s.fs.E d v) ((⟨n, s.hp.t⟩ : Hp).puts ws).t.get n = _
          rw [p1]
          rfl
      obtain ⟨s', k1, k2⟩ := key
      refine ⟨s', k1, ?_⟩
      cases o <;> first | exact ⟨v, ws, he, k2⟩ | (simp [IOp.isCall] at hcall)
    · simp at h

theorem gstep_R {Γ : Sp} {at_ n n0 : Nat} {mk : List Nat} {x : GOp} {s : St} {R : Type} {k : St → Option R} {r : R} (hn : x.o.isCall = true → n = s.hp.n) (hle : x.g.isSome = true → n = s.hp.n ∨ x.o.makes = true) (h : gstep Γ at_ n n0 mk x s k = some r) :
    ∃ s' n', (n' = n ∨ (n' = s.hp.n ∧ guardB s.fs.E x.g = some false)) ∧ k s' = some r ∧ RStep Γ at_ (mk.map (n0 + ·)) x ⟨s.fs.E, s.fs.H, n'⟩ s'.fs := by
  unfold gstep at h
  unfold RStep
  split at h
  · rename_i hg
    obtain ⟨s', h1, h2⟩ := step_R hn h
    refine ⟨s', n, .inl rfl, h1, ?_⟩
    rw [hg]
    exact h2
  · rename_i g w hg
    rw [hg]
    simp only [guardB]
    split at h
    · rename_i b hb
      rw [hb]
      cases hbw : (b == w) with
      | true =>
        rw [hbw] at h
        obtain ⟨s', h1, h2⟩ := step_R hn h
        refine ⟨s', n, .inl rfl, h1, ?_⟩
        simp only [hbw]
        exact h2
      | false =>
        rw [hbw] at h
        simp only [cond_false, putK_eq] at h
        refine ⟨_, s.hp.n, .inr ⟨rfl, by simp only [guardB, hb, hbw]⟩, h, ?_⟩
        simp only [hbw]
        exact put_fs _ _ _
    · rename_i hb
      rw [hb]
      simp only [putK_eq] at h
      exact ⟨_, s.hp.n, .inr ⟨rfl, by simp only [guardB, hb]⟩, h, put_fs _ _ _⟩
    · simp at h
end Go.DM
