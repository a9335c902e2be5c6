/-
  Functions that make an object and hand it out; contracts that are chosen.
-/
import Derived.Test.YtifmekddikapeaaAmLend
namespace Go.AM
set_option autoImplicit false
set_option linter.unusedSimpArgs false
set_option linter.unusedVariables false

section
variable {I I' : Nat → Nat → Prop} {ρ ρ' : Nat → Nat} {N N' : Nat} {w w' : World} {P : Program}

theorem PureOK.unown {f : FuncId} {vs : List V} {k : EK} {xs : List (Ty k)} (h : PureOK P f vs (.sl k .own xs)) : PureOK P f vs (.sl k (.may false) xs) := by
  obtain ⟨hp', h⟩ := h
  refine ⟨hp', ?_⟩
  intro w g cargs hβ hhr hlen hbare hrel
  refine (h w g cargs hβ hhr hlen hbare hrel).mono ?_
  rintro e w' ⟨cv, g', rfl, q1, q2, q3, q4⟩
  exact ⟨cv, g', rfl, q1, q2, q3.own (by simp) (by simp), by simp [OwnOK]⟩

/-- arguments of whose tails nothing is known serve for all -/
def V.dim1 : V → V
  | .sl k _ xs => .sl k (.may false) xs
  | v => v

def V.dim : V → V
  | .agg cs => .agg (cs.map V.dim1)
  | v => v.dim1

theorem VRel.dim1 {v : V} {cv : Value} (h : VRel I ρ N w v cv) : VRel I ρ N w v.dim1 cv := by
  cases v <;> simp only [V.dim1] <;> first | exact h.own (by simp) (by simp) | exact h

theorem VRel.dim {v : V} {cv : Value} (h : VRel I ρ N w v cv) : VRel I ρ N w v.dim cv := by
  by_cases hv : ∃ cs, v = .agg cs
  · obtain ⟨cs, rfl⟩ := hv
    cases h with
    | agg cs vs hl h1 hb hv =>
      refine .agg _ vs (by simpa using hl) ?_ ?_ ?_
      · intro c hc
        obtain ⟨c', hc', rfl⟩ := List.mem_map.1 hc
        have := h1 c' hc'
        cases c' <;> exact this
      · intro i c cv hc hcv
        rw [List.getElem?_map, Option.map_eq_some_iff] at hc
        obtain ⟨c', hc', rfl⟩ := hc
        have := hb i c' cv hc' hcv
        cases c' <;> first | exact this | simp [V.dim1, OwnNil]
      · intro i c cv hc hcv
        rw [List.getElem?_map, Option.map_eq_some_iff] at hc
        obtain ⟨c', hc', rfl⟩ := hc
        exact (hv i c' cv hc' hcv).dim1
  · have e : v.dim = v.dim1 := by cases v <;> first | rfl | exact absurd ⟨_, rfl⟩ hv
    rw [e]; exact h.dim1

theorem dim_bare {v : V} (h : v.bare = true) : v.dim.bare = true := by
  cases v <;> first | exact h | rfl

theorem FnOK.dim {f : FuncId} {vs us : List V} {hp hp' : List AObj} {v : V} (h : FnOK P f us hp v hp') (e : vs.map V.dim = us) : FnOK P f vs hp v hp' := by
  subst e
  intro w g cargs hβ hhr hlen hbare hrel
  refine h w g cargs hβ hhr (by simpa using hlen) (by
    intro x hx
    obtain ⟨y, hy, rfl⟩ := List.mem_map.1 hx
    exact dim_bare (hbare y hy)) ?_
  intro i x cv hx hcv
  rw [List.getElem?_map, Option.map_eq_some_iff] at hx
  obtain ⟨y, hy, rfl⟩ := hx
  exact (hrel i y cv hy hcv).dim

theorem PureOK.dim {f : FuncId} {vs us : List V} {v : V} (h : PureOK P f us v) (e : vs.map V.dim = us) : PureOK P f vs v := by
  obtain ⟨hp', h⟩ := h
  exact ⟨hp', h.dim e⟩

/-- a function that makes an object and hands it out -/
def NewFn (P : Program) (f : FuncId) (vs cs : List V) : Prop := FnOK P f vs [] (.ptr 0 0) [some cs]

theorem NewFn.frame {f : FuncId} {vs cs : List V} (h : NewFn P f vs cs) (hf : vs.all V.flat = true) (hc : cs.all V.flatO = true) (hp : List AObj) : FnOK P f vs hp (.ptr hp.length 0) (hp ++ [some cs]) := by
  intro w g cargs hβ hhr hlen hbare hrel
  let g₀ : Gh := { I := g.I, ρ := g.ρ, O := fun _ => none, β := g.β }
  have h0 : HR g₀ [] w := ⟨by simp, by simp, by simp, by simp, hhr.exI, by simp [g₀]⟩
  refine (h w g₀ cargs hβ h0 hlen hbare (fun i x cv hx hcv => (hrel i x cv hx hcv).flat (List.all_eq_true.1 hf x (List.mem_of_getElem? hx)))).mono ?_
  rintro e w' ⟨cv, g₁, rfl, q1, q2, q3, q4⟩
  have blk : ∀ b, b < w.heap.size → w'.heap[b]? = w.heap[b]? := fun b hb => q2.block b hb (by simp) rfl
  have isame : ∀ b j, b < w.heap.size → g₁.I b j → g.I b j := fun b j hb hi => q2.iSame b j hb (by simp) rfl hi
  have osame : ∀ b, b < w.heap.size → g₁.O b = none := fun b hb => q2.oSame b hb (by simp) rfl
  have hnew : w.heap.size ≤ g₁.ρ 0 := by
    rcases q2.live 0 cs rfl with ⟨_, h⟩ | ⟨_, h | h | ⟨_, _, h, _⟩⟩
    · simp at h
    · exact h
    · simp [g₀] at h
    · simp at h
  let g₂ : Gh := { I := g₁.I, ρ := fun i => if i = hp.length then g₁.ρ 0 else g.ρ i, β := g.β, O := fun b => if b < w.heap.size then g.O b else (match g₁.O b with
    | some (.cell i j) => if i = 0 then some (.cell hp.length j) else none
    | some .res => some .res
    | _ => none) }
  have rold : ∀ i, i < hp.length → g₂.ρ i = g.ρ i := by
    intro i hi
    simp only [g₂]
    rw [if_neg (by omega)]
  have rnew : g₂.ρ hp.length = g₁.ρ 0 := by simp [g₂]
  have up : Up g.I g.ρ hp.length w g₂.I g₂.ρ (hp ++ [some cs]).length w' := ⟨q2.up.mono, q2.up.cell, rold, by simp⟩
  have olt : ∀ (id : Nat) cs, hp[id]? = some (some cs) → g.ρ id < w.heap.size := by
    intro id cs hid
    obtain ⟨arr, e, fz, h1, _⟩ := hhr.obj id cs hid
    exact (Array.getElem?_eq_some_iff.1 h1).1
  have lt_of : ∀ (id : Nat) cs, hp[id]? = some (some cs) → id < hp.length := fun id cs hid => (List.getElem?_eq_some_iff.1 hid).1
  have key : ∀ (id : Nat) c, (hp ++ [some cs])[id]? = some (some c) → (id = hp.length ∧ c = cs) ∨ hp[id]? = some (some c) := by
    intro id c hid
    rcases Nat.lt_or_ge id hp.length with hl | hl
    · rw [List.getElem?_append_left hl] at hid
      exact .inr hid
    · rw [List.getElem?_append_right hl] at hid
      have : id - hp.length = 0 := by
        have := (List.getElem?_eq_some_iff.1 hid).1
        simp at this; omega
      rw [this] at hid
      exact .inl ⟨by omega, by simpa using hid.symm⟩
  have okeep : ∀ id j v cv, id < hp.length → OwnOK g w (.cell id j) v cv → OwnOK g₂ w' (.cell id j) v cv := by
    intro id j v cv hid ho
    refine own_keep ho rfl (fun b j hi => ⟨q2.up.mono b j hi, q2.up.cell b j hi⟩) ?_
    intro b hb
    have hlt := hhr.oLt b _ hb
    exact ⟨by simp [g₂, hlt, hb], blk b hlt, fun j hj => isame b j hlt hj⟩
  refine ⟨cv, g₂, rfl, ⟨?_, ?_, ?_, ?_, q1.exI, ?_⟩, ⟨rfl, q2.os, q2.tape, q2.output, q2.size, fun b hb _ _ => blk b hb, up, fun b j hb _ _ hi => isame b j hb hi, ?_, ?_⟩, ?_, ?_⟩
  · intro id c hid
    rcases key id c hid with ⟨rfl, rfl⟩ | hid
    · obtain ⟨arr, e, fz, a1, a2⟩ := q1.obj 0 c rfl
      have hr := flatO_row hc
      refine ⟨arr, e, fz, by rw [rnew]; exact a1, a2.len, a2.plain, by rintro k xs rfl; simp [isRow] at hr, a2.cold, a2.one, ?_, ?_, ?_⟩
      · intro j c' cv hj hcv
        exact (a2.rel j c' cv hj hcv).flatO (List.all_eq_true.1 hc c' (List.mem_of_getElem? (by rw [cellsOf_eq hr] at hj; exact hj)))
      · intro j c' cv hj hcv
        refine (a2.own j c' cv hj hcv).reloc q2.beta.symm rfl fun b hb => ?_
        have hb' : ¬ b < w.heap.size := by
          intro hlt
          rw [osame b hlt] at hb
          cases hb
        simp [g₂, hb, hb']
      · intro j E n hj
        rw [rnew]
        exact a2.bn j E n hj
    · obtain ⟨arr, e, fz, h1, h2⟩ := hhr.obj id c hid
      have hl := lt_of id c hid
      exact ⟨arr, e, fz, by rw [rold id hl]; exact (blk _ (olt id c hid)).trans h1, h2.len, h2.plain, h2.typedUp rfl rold (by simp) rfl, h2.cold, h2.one, fun j c cv hc hcv => (h2.rel j c cv hc hcv).up up, fun j c cv hc hcv => okeep _ _ _ _ hl (h2.own j c cv hc hcv), fun j E n hj => by rw [rold id hl]; exact h2.bn j E n hj⟩
  · intro id id' c c' hid hid' hne
    rcases key id c hid with ⟨rfl, rfl⟩ | h1
    · rcases key id' c' hid' with ⟨rfl, rfl⟩ | h2
      · exact absurd rfl hne
      · rw [rnew, rold id' (lt_of id' c' h2)]
        have := olt id' c' h2
        omega
    · rcases key id' c' hid' with ⟨rfl, rfl⟩ | h2
      · rw [rnew, rold id (lt_of id c h1)]
        have := olt id c h1
        omega
      · rw [rold id (lt_of id c h1), rold id' (lt_of id' c' h2)]
        exact hhr.apart _ _ _ _ h1 h2 hne
  · intro id c hid j hj
    rcases key id c hid with ⟨rfl, rfl⟩ | hid
    · rw [rnew] at hj
      exact q1.notI 0 c rfl j hj
    · rw [rold id (lt_of id c hid)] at hj
      exact hhr.notI id c hid j (isame _ j (olt id c hid) hj)
  · intro id c hid
    rcases key id c hid with ⟨rfl, rfl⟩ | hid
    · rw [rnew]
      have h1 := q1.notO 0 c rfl
      have h2 : ¬ g₁.ρ 0 < w.heap.size := by omega
      simp [g₂, h1, h2]
    · rw [rold id (lt_of id c hid)]
      have := olt id c hid
      simp [g₂, this, hhr.notO id c hid]
  · intro b o hb
    simp only [g₂] at hb
    split at hb
    · rename_i hlt
      exact Nat.lt_of_lt_of_le hlt q2.size
    · split at hb
      · rename_i hres
        exact q1.oLt b _ hres
      · rename_i hres
        exact q1.oLt b _ hres
      · simp at hb
  · intro b hb _ hO
    simp [g₂, hb, hO]
  · intro id c hid
    rcases key id c hid with ⟨rfl, rfl⟩ | hid
    · exact .inr ⟨Nat.le_refl _, .inl (by rw [rnew]; exact hnew)⟩
    · exact .inl ⟨c, hid⟩
  · cases q3 with
    | ptr _ _ _ =>
      rw [← rnew]
      exact .ptr _ _ (by simp)
  · simp [OwnOK]

theorem NewFn.dim {f : FuncId} {vs us cs : List V} (h : NewFn P f us cs) (e : vs.map V.dim = us) : NewFn P f vs cs := FnOK.dim h e

theorem ObjsFn.dim {f : FuncId} {vs us : List V} {css css' : List (List V)} {v : V} (h : ObjsFn P f us css v css') (e : vs.map V.dim = us) : ObjsFn P f vs css v css' := by
  obtain ⟨h1, rest, h2⟩ := h
  exact ⟨h1, rest, h2.dim e⟩

/-- results of whose tails nothing is known -/
def V.dimR : V → V
  | .tup vs => .tup (vs.map V.dim)
  | v => v.dim

theorem VRel.dimR {v : V} {cv : Value} (h : VRel I ρ N w v cv) : VRel I ρ N w v.dimR cv := by
  by_cases hv : ∃ cs, v = .tup cs
  · obtain ⟨cs, rfl⟩ := hv
    cases h with
    | tup cs vs hl hv =>
      refine .tup _ vs (by simpa using hl) ?_
      intro i c cv hc hcv
      rw [List.getElem?_map, Option.map_eq_some_iff] at hc
      obtain ⟨c', hc', rfl⟩ := hc
      exact (hv i c' cv hc' hcv).dim
  · have e : v.dimR = v.dim := by cases v <;> first | rfl | exact absurd ⟨_, rfl⟩ hv
    rw [e]; exact h.dim

theorem OwnOK.dimR {g : Gh} {occ : Occ} {v : V} {cv : Value} (h : OwnOK g w occ v cv) : OwnOK g w occ v.dimR cv := by
  cases v <;> first | exact h | simp [V.dimR, V.dim, V.dim1, OwnOK]

theorem FnOK.dimR {f : FuncId} {vs : List V} {hp hp' : List AObj} {v : V} (h : FnOK P f vs hp v hp') : FnOK P f vs hp v.dimR hp' := by
  intro w g cargs hβ hhr hlen hbare hrel
  refine (h w g cargs hβ hhr hlen hbare hrel).mono ?_
  rintro e w' ⟨cv, g', rfl, q1, q2, q3, q4⟩
  exact ⟨cv, g', rfl, q1, q2, q3.dimR, q4.dimR⟩

theorem PureOK.dimR {f : FuncId} {vs : List V} {v u : V} (h : PureOK P f vs v) (e : v.dimR = u) : PureOK P f vs u := by
  subst e
  obtain ⟨hp', h⟩ := h
  exact ⟨hp', h.dimR⟩

theorem ObjsFn.dimR {f : FuncId} {vs : List V} {css css' : List (List V)} {v u : V} (h : ObjsFn P f vs css v css') (e : v.dimR = u) : ObjsFn P f vs css u css' := by
  subst e
  obtain ⟨h1, rest, h2⟩ := h
  exact ⟨h1, rest, h2.dimR⟩

/-- functions that make an object: condition, cells -/
abbrev NSpec := Nat → List V → Option (Bool × List V)

def withN (G : NSpec) (Γ : ASpec) : ASpec := fun f vs hp =>
  match G f vs with
  | some (c, cs) => cond (vs.all V.flat && cs.all V.flatO) (some (c, .ptr hp.length 0, hp ++ [some cs])) none
  | none => Γ f vs hp

theorem withN_ok {G : NSpec} {Γ : ASpec} (hG : ∀ f vs cs, G f vs = some (true, cs) → NewFn P f vs cs) (hΓ : SpecOK P Γ) : SpecOK P (withN G Γ) := by
  intro f vs hp v hp' h
  unfold withN at h
  split at h
  · rename_i c cs hg
    cases hst : (vs.all V.flat && cs.all V.flatO) with
    | false => rw [hst] at h; simp at h
    | true =>
      rw [hst] at h
      simp only [cond_true, Option.some.injEq, Prod.mk.injEq] at h
      obtain ⟨rfl, rfl, rfl⟩ := h
      simp only [Bool.and_eq_true] at hst
      exact (hG f vs cs hg).frame hst.1 hst.2 hp
  · exact hΓ _ _ _ _ _ h

theorem withN_pure {G : NSpec} {Γ : ASpec} {imp : List Nat} (hG : ∀ f vs, imp.contains f = false → G f vs = none) (hG' : ∀ f vs, imp.contains (f + 2000000) = true → G f vs = none) (hΓ : PureS Γ imp) : PureS (withN G Γ) imp := by
  refine ⟨?_, ?_⟩
  · intro f vs hp hf
    have e : ∀ hp, withN G Γ f vs hp = Γ f vs hp := by
      intro hp
      unfold withN
      rw [hG f vs hf]
    rw [e, e]
    exact hΓ.pure f vs hp hf
  · intro f vs hp c v hp' hf h
    have e : ∀ hp, withN G Γ f vs hp = Γ f vs hp := by
      intro hp
      unfold withN
      rw [hG' f vs hf]
    rw [e] at h
    obtain ⟨q, q1, q2, q3⟩ := hΓ.loc _ _ _ _ _ _ hf h
    exact ⟨q, q1, q2, fun hp2 hl hh => by rw [e]; exact q3 hp2 hl hh⟩

/-- what a contract and a law leave open is chosen -/
noncomputable def pick {R : Type} [Inhabited R] (C : R → Prop) : R := @Classical.epsilon R ⟨default⟩ C
noncomputable def can {R : Type} [Inhabited R] (C : R → Prop) : Bool := @decide (C (pick C)) (Classical.propDecidable _)
theorem can_of {R : Type} [Inhabited R] {C : R → Prop} (h : ∃ r, C r) : can C = true := @decide_eq_true _ (Classical.propDecidable _) (Classical.epsilon_spec h)
theorem of_can {R : Type} [Inhabited R] {C : R → Prop} (h : can C = true) : C (pick C) := @of_decide_eq_true _ (Classical.propDecidable _) h
/-- a call of a function whose contract is chosen -/
noncomputable def callC {R R' : Type} [Inhabited R'] (C : R' → Prop) (K : R' → Option R) : Option R := chk (can C) (K (pick C))
noncomputable def callL {R R' : Type} [Inhabited R'] (C : R' → Prop) (T : Bool) (K : R' → Option R) : Option R := chk (can C && T) (K (pick C))
end
end Go.AM
