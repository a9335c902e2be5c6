/-
  Functions that are handed plain data and hand plain data back: what they give, whatever objects lie about.
-/
import Derived.Test.YtifmekddikapeaaAmCall
namespace Go.AM
set_option autoImplicit false
set_option linter.unusedSimpArgs false
set_option linter.unusedVariables false

/-- plain data, or a pointer to plain data that is laid for good -/
def V.flatE : V → Bool
  | .ea cs => cs.all V.flat1
  | v => v.flat1

def V.flat2 : V → Bool
  | .agg cs => cs.all V.flat1
  | .ea cs => cs.all V.flat1
  | .fn _ cs => cs.all V.flatE
  | v => v.flat1

def V.flat : V → Bool
  | .tup cs => cs.all V.flat2
  | v => v.flat2

section
variable {I : Nat → Nat → Prop} {ρ ρ' : Nat → Nat} {N N' : Nat} {w : World} {P : Program}

theorem VRel.flatE {v : V} {cv : Value} (h : VRel I ρ N w v cv) (hf : v.flatE = true) : VRel I ρ' N' w v cv := by
  cases h with
  | ea cs b off f h1 hI hw hv =>
    simp only [V.flatE, List.all_eq_true] at hf
    exact .ea cs b off f h1 hI hw (fun j c hc => (hv j c hc).flat1 (hf c (List.mem_of_getElem? hc)))
  | bool b => exact .bool b
  | int k n h => exact .int k n h
  | str l s hl h => exact .str l s hl h
  | sln k o => exact .sln k o
  | sle k o ad ho => exact .sle k o ad ho
  | sl k o xs b off len cap hl hc hm hfl f hI hw hv => exact (VRel.sl k o xs b off len cap hl hc hm hfl f hI hw hv).flat1 rfl
  | nilp => exact .nilp
  | nilif => exact .nilif
  | fn f cs vs hl hv =>
    cases cs with
    | nil => exact .fn f [] vs hl (by simp)
    | cons c cs => simp [V.flatE, V.flat1] at hf
  | _ => simp [V.flatE, V.flat1] at hf

theorem VRel.flat2 {v : V} {cv : Value} (h : VRel I ρ N w v cv) (hf : v.flat2 = true) : VRel I ρ' N' w v cv := by
  cases h with
  | ea cs b off f h1 hI hw hv => exact (VRel.ea cs b off f h1 hI hw hv).flatE hf
  | agg cs vs hl h1 hb hv =>
    simp only [V.flat2, List.all_eq_true] at hf
    exact .agg cs vs hl h1 hb (fun i c cv hc hcv => (hv i c cv hc hcv).flat1 (hf c (List.mem_of_getElem? hc)))
  | bool b => exact .bool b
  | int k n h => exact .int k n h
  | str l s hl h => exact .str l s hl h
  | sln k o => exact .sln k o
  | sle k o ad ho => exact .sle k o ad ho
  | sl k o xs b off len cap hl hc hm hfl f hI hw hv => exact (VRel.sl k o xs b off len cap hl hc hm hfl f hI hw hv).flat1 rfl
  | nilp => exact .nilp
  | nilif => exact .nilif
  | fn f cs vs hl hv =>
    simp only [V.flat2, List.all_eq_true] at hf
    exact .fn f cs vs hl (fun i c cv hc hcv => (hv i c cv hc hcv).flatE (hf c (List.mem_of_getElem? hc)))
  | _ => simp [V.flat2, V.flat1] at hf

theorem VRel.flat {v : V} {cv : Value} (h : VRel I ρ N w v cv) (hf : v.flat = true) : VRel I ρ' N' w v cv := by
  cases h with
  | tup cs vs hl hv =>
    simp only [V.flat, List.all_eq_true] at hf
    exact .tup cs vs hl (fun i c cv hc hcv => (hv i c cv hc hcv).flat2 (hf c (List.mem_of_getElem? hc)))
  | agg cs vs hl h1 hb hv => exact (VRel.agg cs vs hl h1 hb hv).flat2 hf
  | bool b => exact .bool b
  | int k n h => exact .int k n h
  | str l s hl h => exact .str l s hl h
  | sln k o => exact .sln k o
  | sle k o ad ho => exact .sle k o ad ho
  | sl k o xs b off len cap hl hc hm hfl f hI hw hv => exact (VRel.sl k o xs b off len cap hl hc hm hfl f hI hw hv).flat1 rfl
  | nilp => exact .nilp
  | nilif => exact .nilif
  | fn f cs vs hl hv => exact (VRel.fn f cs vs hl hv).flat2 hf
  | ea cs b off f h1 hI hw hv => exact (VRel.ea cs b off f h1 hI hw hv).flat2 hf
  | _ => simp [V.flat, V.flat2, V.flat1] at hf

/-- what a function gives of plain data -/
def PureOK (P : Program) (f : FuncId) (vs : List V) (v : V) : Prop := ∃ hp', FnOK P f vs [] v hp'

theorem PureOK.frame {f : FuncId} {vs : List V} {v : V} (h : PureOK P f vs v) (hf : vs.all V.flat = true) (hv : v.flat = true) (hp : List AObj) : FnOK P f vs hp v hp := by
  obtain ⟨hp', h⟩ := h
  intro w g cargs hβ hhr hlen hbare hrel
  let g₀ : Gh := { I := g.I, ρ := g.ρ, O := fun _ => none, β := g.β }
  have h0 : HR g₀ [] w := ⟨by simp, by simp, by simp, by simp, hhr.exI, by simp [g₀]⟩
  refine (h w g₀ cargs hβ h0 hlen hbare (fun i x cv hx hcv => (hrel i x cv hx hcv).flat (List.all_eq_true.1 hf x (List.mem_of_getElem? hx)))).mono ?_
  rintro e w' ⟨cv, g₁, rfl, q1, q2, q3, q4⟩
  have blk : ∀ b, b < w.heap.size → w'.heap[b]? = w.heap[b]? := fun b hb => q2.block b hb (by simp) rfl
  have isame : ∀ b j, b < w.heap.size → g₁.I b j → g.I b j := fun b j hb hi => q2.iSame b j hb (by simp) rfl hi
  have osame : ∀ b, b < w.heap.size → g₁.O b = none := fun b hb => q2.oSame b hb (by simp) rfl
  let g₂ : Gh := { I := g₁.I, ρ := g.ρ, O := fun b => if b < w.heap.size then g.O b else (if g₁.O b = some .res then some .res else none), β := g.β }
  have up : Up g.I g.ρ hp.length w g₂.I g₂.ρ hp.length w' := ⟨q2.up.mono, q2.up.cell, fun _ _ => rfl, Nat.le_refl _⟩
  have olt : ∀ (id : Nat) cs, hp[id]? = some (some cs) → g.ρ id < w.heap.size := by
    intro id cs hid
    obtain ⟨arr, e, fz, h1, _⟩ := hhr.obj id cs hid
    rcases Nat.lt_or_ge (g.ρ id) w.heap.size with hl | hl
    · exact hl
    · simp [Array.getElem?_eq_none hl] at h1
  have okeep : ∀ occ v cv, OwnOK g w occ v cv → OwnOK g₂ w' occ v cv := by
    intro occ v cv ho
    refine own_keep ho rfl (fun b j hi => ⟨up.mono b j hi, up.cell b j hi⟩) ?_
    intro b hb
    have hlt := hhr.oLt b occ hb
    exact ⟨by simp [g₂, hlt, hb], blk b hlt, fun j hj => isame b j hlt hj⟩
  refine ⟨cv, g₂, rfl, ⟨?_, hhr.apart, ?_, ?_, q1.exI, ?_⟩, ⟨rfl, q2.os, q2.tape, q2.output, q2.size, fun b hb _ _ => blk b hb, up, fun b j hb _ _ hi => isame b j hb hi, ?_, fun _ cs h => .inl ⟨cs, h⟩⟩, ?_, ?_⟩
  · intro id cs hid
    obtain ⟨arr, e, fz, h1, h2⟩ := hhr.obj id cs hid
    exact ⟨arr, e, fz, (blk _ (olt id cs hid)).trans h1, h2.len, h2.plain, h2.typedUp rfl up.rho up.num rfl, h2.cold, h2.one, fun j c cv hc hcv => (h2.rel j c cv hc hcv).up up, fun j c cv hc hcv => okeep _ _ _ (h2.own j c cv hc hcv), h2.bn⟩
  · intro id cs hid j hi
    exact hhr.notI id cs hid j (isame _ j (olt id cs hid) hi)
  · intro id cs hid
    have := olt id cs hid
    simp [g₂, this, hhr.notO id cs hid]
  · intro b o hb
    simp only [g₂] at hb
    split at hb
    · rename_i hlt
      exact Nat.lt_of_lt_of_le hlt q2.size
    · split at hb
      · rename_i hres
        exact q1.oLt b _ hres
      · simp at hb
  · intro b hb _ hO
    simp [g₂, hb, hO]
  · exact q3.flat hv
  · unfold OwnOK at q4 ⊢
    split
    · rename_i k xs ad len cap
      obtain ⟨o1, o2, o3⟩ := q4
      refine ⟨?_, (by obtain ⟨arr, e, fz, a1, a2, a3⟩ := o2; exact ⟨arr, e, fz, a1, a2, fun hk => (a3 hk).trans q2.beta⟩), o3⟩
      have : ¬ ad.block < w.heap.size := by
        intro hlt
        rw [osame _ hlt] at o1
        simp at o1
      simp [g₂, this, o1]
    · simp [V.flat, V.flat2, V.flat1] at hv
    · simp [V.flat, V.flat2, V.flat1] at hv
    · trivial

/-- numbers that come in are of their kinds -/
theorem FnOK.ranged {f : FuncId} {vs : List V} {hp hp' : List AObj} {v : V} (h : (∀ x ∈ vs, x.inRange) → FnOK P f vs hp v hp') : FnOK P f vs hp v hp' := by
  intro w g cargs hβ hhr hlen hbare hrel
  refine h ?_ w g cargs hβ hhr hlen hbare hrel
  intro x hx
  obtain ⟨i, hi, rfl⟩ := List.mem_iff_getElem.1 hx
  have : i < cargs.size := by omega
  exact (hrel i _ _ (List.getElem?_eq_getElem hi) (Array.getElem?_eq_getElem this)).inRange

/-- numbers that come in are of their kinds, texts and slices no longer than an int tells -/
def V.fits : V → Prop
  | .int k n => k.min ≤ n ∧ n ≤ k.max
  | .str l => l.length ≤ maxI
  | .sl _ _ xs => xs.length ≤ maxI
  | .agg cs => ∀ c ∈ cs, match c with
    | .int k n => k.min ≤ n ∧ n ≤ k.max
    | .str l => l.length ≤ maxI
    | .sl _ _ xs => xs.length ≤ maxI
    | _ => True
  | _ => True

theorem VRel.fits {v : V} {cv : Value} (h : VRel I ρ N w v cv) : v.fits := by
  cases h with
  | int k n h => exact h
  | str l s hl h => subst hl; simpa [V.fits, size_data] using h
  | sln => simp [V.fits]
  | sle => simp [V.fits]
  | sl k o xs b off len cap hl hc hm hf f hI hw hv => simp only [V.fits]; omega
  | agg cs vs hl h1 hb hv =>
    intro c hc
    obtain ⟨i, hi, rfl⟩ := List.mem_iff_getElem.1 hc
    have hr := hv i _ _ (List.getElem?_eq_getElem hi) (Array.getElem?_eq_getElem (by omega))
    generalize cs[i] = c at hr
    generalize vs[i]'(by omega) = cv at hr
    cases hr with
    | int k n h => exact h
    | str l s hl h => subst hl; simpa [size_data] using h
    | sln => simp
    | sle => simp
    | sl k o xs b off len cap hl hc hm hf f hI hw hv => simp only; omega
    | _ => trivial
  | _ => trivial

theorem PureOK.fits {f : FuncId} {vs : List V} {v : V} (h : (∀ x ∈ vs, x.fits) → PureOK P f vs v) : PureOK P f vs v := by
  by_cases hf : ∀ x ∈ vs, x.fits
  · exact h hf
  · refine ⟨[], ?_⟩
    intro w g cargs hβ hhr hlen hbare hrel
    refine absurd ?_ hf
    intro x hx
    obtain ⟨i, hi, rfl⟩ := List.mem_iff_getElem.1 hx
    exact (hrel i _ _ (List.getElem?_eq_getElem hi) (Array.getElem?_eq_getElem (by omega))).fits
end
end Go.AM
