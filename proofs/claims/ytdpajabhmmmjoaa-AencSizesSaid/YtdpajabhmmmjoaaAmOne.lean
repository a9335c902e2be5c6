/-
  Functions on one object and plain data: what they make of it, whatever other objects lie about.
-/
import Derived.Test.YtdpajabhmmmjoaaAmPure
namespace Go.AM
set_option autoImplicit false
set_option linter.unusedSimpArgs false
set_option linter.unusedVariables false

/-- a cell that knows of no object -/
def V.flatO : V → Bool
  | .bn _ _ => true
  | v => v.flat1

section
variable {I : Nat → Nat → Prop} {ρ ρ' : Nat → Nat} {N N' : Nat} {w : World} {P : Program}

theorem VRel.flatO {v : V} {cv : Value} (h : VRel I ρ N w v cv) (hf : v.flatO = true) : VRel I ρ' N' w v cv := by
  cases h with
  | bn E n p => exact .bn E n p
  | bool b => exact .bool b
  | int k n h => exact .int k n h
  | str l s hl h => exact .str l s hl h
  | sln k o => exact .sln k o
  | sl k o xs b off len cap hl hc hm f hI hw hv => exact (VRel.sl k o xs b off len cap hl hc hm f hI hw hv).flat1 rfl
  | nilp => exact .nilp
  | nilif => exact .nilif
  | fn f cs vs hl hv =>
    cases cs with
    | nil => exact .fn f [] vs hl (by simp)
    | cons c cs => simp [V.flatO, V.flat1] at hf
  | _ => simp [V.flatO, V.flat1] at hf

theorem flatO_row {cs : List V} (h : cs.all V.flatO = true) : isRow cs = false := by
  unfold isRow
  split
  · simp [V.flatO, V.flat1] at h
  · rfl

/-- what a function makes of one object and plain data -/
def ObjFn (P : Program) (f : FuncId) (vs cs : List V) (v : V) (cs' : List V) : Prop := ∃ rest, FnOK P f (.ptr 0 0 :: vs) [some cs] v (some cs' :: rest)

theorem ObjFn.frame {f : FuncId} {vs cs cs' : List V} {v : V} (h : ObjFn P f vs cs v cs') (hf : vs.all V.flat = true) (hv : v.flat = true) (hc : cs.all V.flatO = true) (hc' : cs'.all V.flatO = true)
    {hp : List AObj} {id : Nat} (hid : hp[id]? = some (some cs)) : FnOK P f (.ptr id 0 :: vs) hp v (hp.set id (some cs')) := by
  obtain ⟨rest, h⟩ := h
  intro w g cargs hβ hhr hlen hbare hrel
  obtain ⟨arr, e, fz, h1, h2⟩ := hhr.obj id cs hid
  have hidl : id < hp.length := (List.getElem?_eq_some_iff.1 hid).1
  let g₀ : Gh := { I := g.I, ρ := fun _ => g.ρ id, O := fun b => match g.O b with | some (.cell i j) => if i = id then some (.cell 0 j) else none | _ => none, β := g.β }
  have gO : ∀ b o, g₀.O b = some o → ∃ j, o = .cell 0 j ∧ g.O b = some (.cell id j) := by
    intro b o hb
    simp only [g₀] at hb
    split at hb
    · rename_i i j hg
      split at hb
      · rename_i hi
        subst hi
        exact ⟨j, by simpa using hb.symm, hg⟩
      · simp at hb
    · simp at hb
  have gN : ∀ b, (∀ j, g.O b ≠ some (.cell id j)) → g₀.O b = none := by
    intro b hb
    cases hq : g₀.O b with
    | none => rfl
    | some o =>
      obtain ⟨j, _, hj⟩ := gO b o hq
      exact absurd hj (hb j)
  have gC : ∀ b j, g.O b = some (.cell id j) → g₀.O b = some (.cell 0 j) := by
    intro b j hb
    simp [g₀, hb]
  have hO0 : g₀.O (g.ρ id) = none := gN _ (by intro j hj; rw [hhr.notO id cs hid] at hj; cases hj)
  have h0 : HR g₀ [some cs] w := by
    refine ⟨?_, ?_, ?_, ?_, hhr.exI, ?_⟩
    · intro i c hi
      cases i with
      | succ i => simp at hi
      | zero =>
        simp only [List.getElem?_cons_zero, Option.some.injEq] at hi
        subst hi
        refine ⟨arr, e, fz, h1, h2.len, h2.plain, h2.cold, h2.one, ?_, ?_, h2.bn⟩
        · intro j c cv hj hcv
          exact (h2.rel j c cv hj hcv).flatO (List.all_eq_true.1 hc c (List.mem_of_getElem? (by rw [cellsOf_eq (flatO_row hc)] at hj; exact hj)))
        · intro j c cv hj hcv
          have := h2.own j c cv hj hcv
          unfold OwnOK at this ⊢
          split
          · rename_i k xs a len cap
            exact ⟨gC _ _ this.1, this.2.1, this.2.2⟩
          · exact ⟨gC _ _ this.1, this.2.1, this.2.2⟩
          · trivial
    · intro i i' c c' hi hi' hne
      cases i <;> cases i' <;> simp at hi hi' hne
    · intro i c hi j
      exact hhr.notI id cs hid j
    · intro i c hi
      exact hO0
    · intro b o hb
      obtain ⟨j, _, hj⟩ := gO b o hb
      exact hhr.oLt b _ hj
  have hargs : ∀ (i : Nat) x cv, (V.ptr 0 0 :: vs)[i]? = some x → cargs[i]? = some cv → VRel g₀.I g₀.ρ [some cs].length w x cv := by
    intro i x cv hx hcv
    cases i with
    | zero =>
      simp only [List.getElem?_cons_zero, Option.some.injEq] at hx
      subst hx
      have := hrel 0 (.ptr id 0) cv rfl hcv
      cases this with
      | ptr _ _ _ => exact .ptr 0 0 (by simp)
    | succ i =>
      have := hrel (i + 1) x cv hx hcv
      exact this.flat (List.all_eq_true.1 hf x (List.mem_of_getElem? (by simpa using hx)))
  refine (h w g₀ cargs hβ h0 hlen (by
    intro x hx
    rcases List.mem_cons.1 hx with rfl | hx
    · rfl
    · exact hbare x (List.mem_cons_of_mem _ hx)) hargs).mono ?_
  rintro ex w' ⟨cv, g₁, rfl, q1, q2, q3, q4⟩
  have r0 : g₁.ρ 0 = g.ρ id := q2.up.rho 0 (by simp)
  have blk : ∀ b, b < w.heap.size → b ≠ g.ρ id → g₀.O b = none → w'.heap[b]? = w.heap[b]? := fun b hb hne hO => q2.block b hb (fun _ _ _ => fun e => hne e.symm) hO
  let g₂ : Gh := { I := g₁.I, ρ := g.ρ, O := fun b => match g₁.O b with
    | some .res => some .res
    | some (.cell 0 j) => some (.cell id j)
    | _ => if b < w.heap.size ∧ g₀.O b = none then g.O b else none, β := g.β }
  have up : Up g.I g.ρ hp.length w g₂.I g₂.ρ (hp.set id (some cs')).length w' := ⟨q2.up.mono, q2.up.cell, fun _ _ => rfl, by simp⟩
  have olt : ∀ (i : Nat) c, hp[i]? = some (some c) → g.ρ i < w.heap.size := by
    intro i c hi
    obtain ⟨arr, e, fz, h1, _⟩ := hhr.obj i c hi
    exact (Array.getElem?_eq_some_iff.1 h1).1
  have key : ∀ (i : Nat) c, (hp.set id (some cs'))[i]? = some (some c) → (i = id ∧ c = cs') ∨ (i ≠ id ∧ hp[i]? = some (some c)) := by
    intro i c hi
    rw [List.getElem?_set] at hi
    split at hi
    · rename_i e
      subst e
      exact .inl ⟨rfl, by simpa using hi.symm⟩
    · rename_i e
      exact .inr ⟨fun h => e h.symm, hi⟩
  have g2same : ∀ b, b < w.heap.size → g₀.O b = none → g₂.O b = g.O b := by
    intro b hb hO
    have := q2.oSame b hb hO
    simp only [g₂, this]
    rw [if_pos ⟨hb, hO⟩]
  have notCell : ∀ (i : Nat) c, i ≠ id → hp[i]? = some (some c) → g₀.O (g.ρ i) = none := fun i c hne hi => gN _ (by intro j hj; rw [hhr.notO i c hi] at hj; cases hj)
  refine ⟨cv, g₂, rfl, ⟨?_, ?_, ?_, ?_, q1.exI, ?_⟩, ⟨rfl, q2.os, q2.tape, q2.output, q2.size, ?_, up, ?_, ?_, ?_⟩, ?_, ?_⟩
  · intro i c hi
    rcases key i c hi with ⟨rfl, rfl⟩ | ⟨hne, hi⟩
    · obtain ⟨arr', e', fz, a1, a2⟩ := q1.obj 0 c rfl
      rw [r0] at a1
      refine ⟨arr', e', fz, a1, a2.len, a2.plain, a2.cold, a2.one, ?_, ?_, ?_⟩
      · intro j c cv hj hcv
        exact (a2.rel j c cv hj hcv).flatO (List.all_eq_true.1 hc' c (List.mem_of_getElem? (by rw [cellsOf_eq (flatO_row hc')] at hj; exact hj)))
      · intro j c cv hj hcv
        have := a2.own j c cv hj hcv
        unfold OwnOK at this ⊢
        split
        · rename_i k xs a len cap
          obtain ⟨o1, ⟨arr2, e2, fz, b1, b2, b3⟩, o3⟩ := this
          exact ⟨by simp [g₂, o1], ⟨arr2, e2, fz, b1, b2, fun hk => (b3 hk).trans q2.beta⟩, o3⟩
        · obtain ⟨o1, o2, o3⟩ := this
          exact ⟨by simp [g₂, o1], o2, o3⟩
        · trivial
      · intro j E n hj
        have := a2.bn j E n hj
        rw [r0] at this
        exact this
    · obtain ⟨arr', e', fz, a1, a2⟩ := hhr.obj i c hi
      refine ⟨arr', e', fz, (blk _ (olt i c hi) (hhr.apart i id c cs hi hid hne) (notCell i c hne hi)).trans a1, a2.len, a2.plain, a2.cold, a2.one, fun j c cv hj hcv => (a2.rel j c cv hj hcv).up up, ?_, a2.bn⟩
      intro j c cv hj hcv
      refine own_keep (a2.own j c cv hj hcv) rfl ?_
      intro b hb
      have hlt := hhr.oLt b _ hb
      have hO : g₀.O b = none := gN _ (by intro j' hj'; rw [hb] at hj'; cases hj'; exact hne rfl)
      have hbne : b ≠ g.ρ id := by intro e; rw [e, hhr.notO id cs hid] at hb; cases hb
      exact ⟨(g2same b hlt hO).trans hb, blk b hlt hbne hO, fun j hj => q2.iSame b j hlt hO hj⟩
  · intro i i' c c' hi hi' hne
    have k1 := key i c hi
    have k2 := key i' c' hi'
    clear hi hi'
    rcases k1 with ⟨e1, -⟩ | ⟨-, m1⟩
    · rcases k2 with ⟨e2, -⟩ | ⟨-, m2⟩
      · exact absurd (e1.trans e2.symm) hne
      · rw [e1] at hne ⊢
        exact hhr.apart _ _ _ _ hid m2 hne
    · rcases k2 with ⟨e2, -⟩ | ⟨-, m2⟩
      · rw [e2] at hne ⊢
        exact hhr.apart _ _ _ _ m1 hid hne
      · exact hhr.apart _ _ _ _ m1 m2 hne
  · intro i c hi j hj
    rcases key i c hi with ⟨rfl, rfl⟩ | ⟨hne, hi⟩
    · have := q1.notI 0 c rfl j
      rw [r0] at this
      exact this hj
    · exact hhr.notI i c hi j (q2.iSame _ j (olt i c hi) (notCell i c hne hi) hj)
  · intro i c hi
    rcases key i c hi with ⟨rfl, rfl⟩ | ⟨hne, hi⟩
    · exact (g2same _ (olt i cs hid) hO0).trans (hhr.notO i cs hid)
    · exact (g2same _ (olt i c hi) (notCell i c hne hi)).trans (hhr.notO i c hi)
  · intro b o hb
    simp only [g₂] at hb
    split at hb
    · rename_i hq; exact q1.oLt b _ hq
    · rename_i hq; exact q1.oLt b _ hq
    · split at hb
      · rename_i hq; exact Nat.lt_of_lt_of_le hq.1 q2.size
      · simp at hb
  · intro b hb ho hO
    exact blk b hb (fun e => ho id cs hid e.symm) (gN _ (by intro j hj; rw [hO] at hj; cases hj))
  · intro b j hb hO hi
    exact q2.iSame b j hb (gN _ (by intro j hj; rw [hO] at hj; cases hj)) hi
  · intro b hb hO
    exact (g2same b hb (gN _ (by intro j hj; rw [hO] at hj; cases hj))).trans hO
  · intro i c hi
    rcases key i c hi with ⟨rfl, rfl⟩ | ⟨hne, hi⟩
    · exact .inl ⟨cs, hid⟩
    · exact .inl ⟨c, hi⟩
  · exact q3.flat hv
  · unfold OwnOK at q4 ⊢
    split
    · rename_i k xs ad len cap
      obtain ⟨o1, ⟨arr2, e2, fz, b1, b2, b3⟩, o3⟩ := q4
      exact ⟨by simp [g₂, o1], ⟨arr2, e2, fz, b1, b2, fun hk => (b3 hk).trans q2.beta⟩, o3⟩
    · simp [V.flat, V.flat2, V.flat1] at hv
    · trivial

theorem PureS.mono {Γ : ASpec} {imp imp' : List Nat} (h : PureS Γ imp) (hs : imp.all (fun x => imp'.contains x) = true) : PureS Γ imp' := by
  intro f vs hp hf
  refine h f vs hp ?_
  cases hc : imp.contains f with
  | false => rfl
  | true =>
    have := List.all_eq_true.1 hs f (by simpa using hc)
    rw [this] at hf
    simp at hf

/-- methods on objects: arguments and the object's cells; condition, result, cells -/
abbrev OSpec := Nat → List V → List V → Option (Bool × V × List V)

/-- a table, and methods on objects -/
def withO (G : OSpec) (Γ : ASpec) : ASpec := fun f vs hp =>
  match vs with
  | .ptr id 0 :: as => match hp.getD id none with
    | some cs => match G f as cs with
      | some (c, v, cs') => cond (as.all V.flat && v.flat && cs.all V.flatO && cs'.all V.flatO) (some (c, v, hp.set id (some cs'))) none
      | none => Γ f vs hp
    | none => Γ f vs hp
  | _ => Γ f vs hp

theorem withO_ok {G : OSpec} {Γ : ASpec} (hG : ∀ f as cs v cs', G f as cs = some (true, v, cs') → ObjFn P f as cs v cs') (hΓ : SpecOK P Γ) : SpecOK P (withO G Γ) := by
  intro f vs hp v hp' h
  unfold withO at h
  split at h
  · rename_i id as
    split at h
    · rename_i cs hcs
      split at h
      · rename_i c v' cs' hg
        cases hst : (as.all V.flat && v'.flat && cs.all V.flatO && cs'.all V.flatO) with
        | false => rw [hst] at h; simp at h
        | true =>
          rw [hst] at h
          simp only [cond_true, Option.some.injEq, Prod.mk.injEq] at h
          obtain ⟨rfl, rfl, rfl⟩ := h
          simp only [Bool.and_eq_true] at hst
          have hid : hp[id]? = some (some cs) := by
            rw [List.getD_eq_getElem?_getD] at hcs
            cases hq : hp[id]? with
            | none => rw [hq] at hcs; simp at hcs
            | some x => rw [hq] at hcs; simpa using hcs
          exact (hG f as cs _ cs' hg).frame hst.1.1.1 hst.1.1.2 hst.1.2 hst.2 hid
      · exact hΓ _ _ _ _ _ h
    · exact hΓ _ _ _ _ _ h
  · exact hΓ _ _ _ _ _ h

theorem withO_pure {G : OSpec} {Γ : ASpec} {imp : List Nat} (hG : ∀ f as cs, imp.contains f = false → G f as cs = none) (hΓ : PureS Γ imp) : PureS (withO G Γ) imp := by
  intro f vs hp hf
  have e : ∀ hp, withO G Γ f vs hp = Γ f vs hp := by
    intro hp
    unfold withO
    split
    · split
      · rw [hG f _ _ hf]
      · rfl
    · rfl
  rw [e, e]
  exact hΓ f vs hp hf
end
end Go.AM
