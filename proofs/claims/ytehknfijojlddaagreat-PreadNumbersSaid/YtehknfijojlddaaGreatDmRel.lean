/-
  How the machine's values, objects and slots stand to a world.
-/
import Derived.Test.YtehknfijojlddaaGreatDmV
import Derived.WalkKit
import Derived.Deep.AppendSrc
namespace Go.DM
set_option autoImplicit false
set_option linter.unusedVariables false

/-- which numbers of objects were given, where they lie, how far their rows reach -/
structure Gh where
  A : Nat → Prop
  ρ : Nat → Nat
  κ : Nat → Nat
  s : Sig

def capOK (g : Gh) (id off sz : Nat) (cap : Option Nat) (c : Nat) : Prop := match cap with
  | some k => c = k
  | none => off + c * sz = g.κ id

inductive VRel (g : Gh) : D → Value → Prop where
  | undef (cv : Value) : VRel g .undef cv
  | bool (b : Bool) : VRel g (.bool b) (.bool b)
  | int (k : IntKind) (n : Int) (h : k.min ≤ n ∧ n ≤ k.max) : VRel g (.int k n) (.int k n)
  | str (l : List Nat) (s : ByteArray) (hl : s.data.toList.map (·.toNat) = l) (h : s.size ≤ maxI) : VRel g (.str l) (.string s)
  | nilp : VRel g .nilp (.pointer none)
  | ptr (id off : Nat) (h : g.A id) : VRel g (.ptr id off) (.pointer (some ⟨g.ρ id, off, none⟩))
  | nils : VRel g .nils (.slice none 0 0)
  | emp (ad : Addr) (c : Nat) (hm : c ≤ maxI) : VRel g .emp (.slice (some ad) 0 c)
  | sl (id off len sz : Nat) (cap : Option Nat) (c : Nat) (h : g.A id) (hz : 0 < sz) (hc : len ≤ c) (hm : c ≤ maxI) (hk : capOK g id off sz cap c) : VRel g (.sl id off len sz cap) (.slice (some ⟨g.ρ id, off, none⟩) len c)
  | agg (cs : List D) (vs : Array Value) (hl : cs.length = vs.size) (h1 : ∀ c ∈ cs, c.one = true) (hv : ∀ (i : Nat) c cv, cs[i]? = some c → vs[i]? = some cv → VRel g c cv) : VRel g (.agg cs) (.agg vs)
  | tup (cs : List D) (vs : Array Value) (hl : cs.length = vs.size) (hv : ∀ (i : Nat) c cv, cs[i]? = some c → vs[i]? = some cv → VRel g c cv) : VRel g (.tup cs) (.tuple vs)
  | fn (f : Nat) (cs : List D) (vs : Array Value) (hl : cs.length = vs.size) (hv : ∀ (i : Nat) c cv, cs[i]? = some c → vs[i]? = some cv → VRel g c cv) : VRel g (.fn f cs) (.func (.func f) #[] vs)
  | nilf : VRel g .nilf .nilFunc
  | nilif : VRel g .nilif .nilIface
  | mp (id : Nat) (h : g.A id) : VRel g (.mp id) (.map (some (g.ρ id)))
  | nilm : VRel g .nilm (.map none)
  | sym (k : IntKind) (i : Nat) (h : k.min ≤ g.s.1 i ∧ g.s.1 i ≤ k.max) : VRel g (.sym k i) (.int k (g.s.1 i))

/-- one moment later -/
structure Up (g g' : Gh) : Prop where
  A : ∀ id, g.A id → g'.A id
  ρ : ∀ id, g.A id → g'.ρ id = g.ρ id
  κ : ∀ id, g.A id → g'.κ id = g.κ id
  s : g'.s = g.s
theorem Up.refl (g : Gh) : Up g g := ⟨fun _ h => h, fun _ _ => rfl, fun _ _ => rfl, rfl⟩
theorem Up.trans {g g' g'' : Gh} (h : Up g g') (k : Up g' g'') : Up g g'' :=
  ⟨fun id a => k.A id (h.A id a), fun id a => (k.ρ id (h.A id a)).trans (h.ρ id a), fun id a => (k.κ id (h.A id a)).trans (h.κ id a), k.s.trans h.s⟩

theorem VRel.up {g g' : Gh} (u : Up g g') {v : D} {cv : Value} (h : VRel g v cv) : VRel g' v cv := by
  induction h with
  | undef cv => exact .undef cv
  | bool b => exact .bool b
  | int k n h => exact .int k n h
  | str l s hl h => exact .str l s hl h
  | nilp => exact .nilp
  | ptr id off h => rw [← u.ρ id h]; exact .ptr id off (u.A id h)
  | nils => exact .nils
  | emp ad c hm => exact .emp ad c hm
  | sl id off len sz cap c h hz hc hm hk =>
    rw [← u.ρ id h]
    refine .sl id off len sz cap c (u.A id h) hz hc hm ?_
    cases cap with
    | some k => exact hk
    | none => simp only [capOK] at hk ⊢; rw [u.κ id h]; exact hk
  | agg cs vs hl h1 hv ih => exact .agg cs vs hl h1 ih
  | tup cs vs hl hv ih => exact .tup cs vs hl ih
  | fn f cs vs hl hv ih => exact .fn f cs vs hl ih
  | nilf => exact .nilf
  | nilif => exact .nilif
  | mp id h => rw [← u.ρ id h]; exact .mp id (u.A id h)
  | nilm => exact .nilm
  | sym k i h => rw [← u.s] at h ⊢; exact .sym k i h

theorem VRel.conc {g : Gh} {v : D} {cv : Value} (h : VRel g v cv) : VRel g (DM.conc g.s.1 v) cv := by
  cases h with
  | sym k i h => exact .int k _ h
  | _ => constructor <;> assumption
theorem VRel.unconc {g : Gh} {v : D} {cv : Value} (h : VRel g (DM.conc g.s.1 v) cv) : VRel g v cv := by
  cases v with
  | sym k i => cases h with | int _ _ h => exact .sym k i h
  | _ => exact h

theorem VRel.oneCell {g : Gh} {v : D} {cv : Value} (h : VRel g v cv) (h1 : v.one = true) : cv.oneCell' = true := by
  cases h <;> first | rfl | simp [D.one] at h1

/-- rows of values -/
structure Row (g : Gh) (cs : List D) (us : List Value) : Prop where
  len : cs.length = us.length
  one : ∀ c ∈ cs, c.one = true
  rel : ∀ (i : Nat) c cv, cs[i]? = some c → us[i]? = some cv → VRel g c cv

structure ObjOK (g : Gh) (id : Nat) (full : Bool) (cs : List D) (arr : Array Value) (fz : Nat × Nat) : Prop where
  len : cs.length ≤ arr.size
  whole : full = true → cs.length = arr.size
  part : full = false → cs.length ≤ g.κ id ∧ g.κ id ≤ arr.size
  cold : ∀ j, j < (if full then arr.size else g.κ id) → ¬ (fz.1 ≤ j ∧ j < fz.2)
  one : ∀ c ∈ cs, c.one = true
  rel : ∀ (j : Nat) c cv, cs[j]? = some c → arr[j]? = some cv → VRel g c cv

def MapOK (g : Gh) (es : List (D × D)) (ents : Array MapEntry) (clock : Nat) : Prop :=
  es.length = ents.size ∧ clock = ents.size ∧ ∀ (i : Nat) k v en, es[i]? = some (k, v) → ents[i]? = some en → en.born = i ∧ VRel g k en.key ∧ VRel g v en.val

structure HR (g : Gh) (H : Nat → Option Obj) (n : Nat) (w : World) : Prop where
  obj : ∀ id e f cs, H id = some (.cells e f cs) → ∃ arr fz, w.heap[g.ρ id]? = some (.cells arr e fz) ∧ ObjOK g id f cs arr fz
  map : ∀ id es, H id = some (.map es) → ∃ ents clock, w.heap[g.ρ id]? = some (.map ents clock) ∧ MapOK g es ents clock
  apart : ∀ id id' o o', H id = some o → H id' = some o' → id ≠ id' → g.ρ id ≠ g.ρ id'
  made : ∀ id o, H id = some o → g.A id
  lt : ∀ id, g.A id → id < n

theorem HR.block {g : Gh} {H : Nat → Option Obj} {n : Nat} {w : World} (h : HR g H n w) {id : Nat} {o : Obj} (ho : H id = some o) : g.ρ id < w.heap.size := by
  have : ∃ x, w.heap[g.ρ id]? = some x := by
    cases o with
    | cells e f cs => obtain ⟨arr, fz, h1, _⟩ := h.obj id e f cs ho; exact ⟨_, h1⟩
    | map es => obtain ⟨en, c, h1, _⟩ := h.map id es ho; exact ⟨_, h1⟩
  obtain ⟨x, hx⟩ := this
  rcases Nat.lt_or_ge (g.ρ id) w.heap.size with hl | hl
  · exact hl
  · simp [Array.getElem?_eq_none hl] at hx

/-- the slots -/
structure ER (g : Gh) (nt : Nat) (E : Nat → D) (tmps : Array Value) : Prop where
  size : tmps.size = nt
  rel : ∀ n, n < nt → VRel g (E n) (tmps.getD n undef)

/-- what has not turned since; F: which numbers new objects may have -/
structure FR (F : Nat → Prop) (g₀ : Gh) (H₀ : Nat → Option Obj) (w₀ : World) (g : Gh) (H : Nat → Option Obj) (w : World) : Prop where
  os : w.os = w₀.os
  tape : w.tape = w₀.tape
  output : w.output = w₀.output
  size : w₀.heap.size ≤ w.heap.size
  block : ∀ b, b < w₀.heap.size → (∀ id o, H₀ id = some o → g₀.ρ id ≠ b) → w.heap[b]? = w₀.heap[b]?
  up : Up g₀ g
  fresh : ∀ id, g.A id → g₀.A id ∨ F id
  live : ∀ id o, H id = some o → w₀.heap.size ≤ g.ρ id ∨ ∃ id' o', H₀ id' = some o' ∧ g₀.ρ id' = g.ρ id

theorem FR.refl (F : Nat → Prop) (g : Gh) (H : Nat → Option Obj) (w : World) : FR F g H w g H w :=
  ⟨rfl, rfl, rfl, Nat.le_refl _, fun _ _ _ => rfl, Up.refl _, fun _ h => .inl h, fun id o h => .inr ⟨id, o, h, rfl⟩⟩

theorem FR.noObj {F : Nat → Prop} {g₀ g₁ : Gh} {H₀ H₁ : Nat → Option Obj} {w₀ w₁ : World} (h : FR F g₀ H₀ w₀ g₁ H₁ w₁) {b : Nat} (hb : b < w₀.heap.size) (ho : ∀ id o, H₀ id = some o → g₀.ρ id ≠ b) :
    ∀ id o, H₁ id = some o → g₁.ρ id ≠ b := by
  intro id o hid e
  rcases h.live id o hid with h1 | ⟨id', o', h1, h2⟩
  · omega
  · exact ho id' o' h1 (h2.trans e)

theorem FR.trans {F F' : Nat → Prop} {g₀ g₁ g₂ : Gh} {H₀ H₁ H₂ : Nat → Option Obj} {w₀ w₁ w₂ : World} (hF : ∀ id, F' id → F id) (h : FR F g₀ H₀ w₀ g₁ H₁ w₁) (k : FR F' g₁ H₁ w₁ g₂ H₂ w₂) : FR F g₀ H₀ w₀ g₂ H₂ w₂ := by
  refine ⟨k.os.trans h.os, k.tape.trans h.tape, k.output.trans h.output, Nat.le_trans h.size k.size, ?_, h.up.trans k.up, ?_, ?_⟩
  · intro b hb ho
    exact (k.block b (Nat.lt_of_lt_of_le hb h.size) (h.noObj hb ho)).trans (h.block b hb ho)
  · intro id hid
    rcases k.fresh id hid with h1 | h1
    · exact h.fresh id h1
    · exact .inr (hF id h1)
  · intro id o hid
    rcases k.live id o hid with h1 | ⟨id', o', h1, h2⟩
    · exact .inl (Nat.le_trans h.size h1)
    · rcases h.live id' o' h1 with h3 | ⟨id'', o'', h3, h4⟩
      · exact .inl (h2 ▸ h3)
      · exact .inr ⟨id'', o'', h3, h4.trans h2⟩

theorem FR.weaken {F F' : Nat → Prop} {g₀ g₁ : Gh} {H₀ H₁ : Nat → Option Obj} {w₀ w₁ : World} (hF : ∀ id, F' id → F id) (h : FR F' g₀ H₀ w₀ g₁ H₁ w₁) : FR F g₀ H₀ w₀ g₁ H₁ w₁ :=
  ⟨h.os, h.tape, h.output, h.size, h.block, h.up, fun id hid => (h.fresh id hid).imp_right (hF id), h.live⟩

def upd {α : Type} (f : Nat → α) (i : Nat) (v : α) : Nat → α := fun j => if j = i then v else f j
def putF (E : Nat → D) (d : Option Nat) (v : D) : Nat → D := match d with | some d => upd E d v | none => E
def putsF (H : Nat → Option Obj) (ws : List (Nat × Option Obj)) : Nat → Option Obj := ws.foldl (fun H p => upd H p.1 p.2) H

theorem puts_fs (ws : List (Nat × Option Obj)) : ∀ h : Hp, (h.puts ws).t.get = putsF h.t.get ws ∧ (h.puts ws).n = h.n := by
  induction ws with
  | nil => intro h; exact ⟨rfl, rfl⟩
  | cons p ws ih =>
    intro h
    obtain ⟨h1, h2⟩ := ih (h.put p.1 p.2)
    refine ⟨h1.trans ?_, h2⟩
    show putsF (h.put p.1 p.2).t.get ws = putsF (upd h.t.get p.1 p.2) ws
    congr 1
    funext j
    exact Tr.get_set _ _ _ _ _ (Nat.lt_succ_self _)
theorem put_fs (s : St) (d : Option Nat) (v : D) : (s.put d v).fs = ⟨putF s.fs.E d v, s.fs.H, s.fs.n⟩ := by
  cases d with
  | none => rfl
  | some d =>
    simp only [St.put, St.fs, putF, FS.mk.injEq, and_true]
    funext j
    rw [Env.get_set]
    simp only [upd]

section
variable {g g' : Gh} {nt : Nat} {E : Nat → D} {w w' : World} {a : Act} {P : Program}

/-- a slot is given a value -/
theorem ER.put (h : ER g nt E a.tmps) (d : Option Nat) {v : D} {cv : Value} (hv : VRel g v cv) : ER g nt (putF E d v) (a.put d cv).tmps := by
  cases d with
  | none => exact h
  | some d =>
    refine ⟨by simp [Act.put, h.size], fun n hn => ?_⟩
    have hs := h.size
    simp only [putF, upd]
    by_cases e : n = d
    · subst e
      simp [Act.put, Array.getD, hs, hn]
      exact hv
    · rw [if_neg e]
      have := h.rel n hn
      have e2 : (a.put (some d) cv).tmps.getD n undef = a.tmps.getD n undef := by
        simp [Act.put, Array.getD, hs, hn, Ne.symm e]
      rw [e2]; exact this

theorem ER.up (h : ER g nt E a.tmps) (u : Up g g') : ER g' nt E a.tmps := ⟨h.size, fun n hn => (h.rel n hn).up u⟩

theorem ObjOK.up {id : Nat} {full : Bool} {cs : List D} {arr : Array Value} {fz : Nat × Nat} (h : ObjOK g id full cs arr fz) (u : Up g g') (hid : g.A id) : ObjOK g' id full cs arr fz :=
  ⟨h.len, h.whole, by rw [u.κ id hid]; exact h.part, by rw [u.κ id hid]; exact h.cold, h.one, fun j c cv hc hcv => (h.rel j c cv hc hcv).up u⟩
theorem MapOK.up {es : List (D × D)} {ents : Array MapEntry} {clock : Nat} (h : MapOK g es ents clock) (u : Up g g') : MapOK g' es ents clock :=
  ⟨h.1, h.2.1, fun i k v en h1 h2 => ⟨(h.2.2 i k v en h1 h2).1, (h.2.2 i k v en h1 h2).2.1.up u, (h.2.2 i k v en h1 h2).2.2.up u⟩⟩
end
end Go.DM
