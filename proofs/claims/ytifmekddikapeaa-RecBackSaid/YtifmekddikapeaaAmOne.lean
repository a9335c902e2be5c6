/-
  Functions on one object and plain data: what they make of it, whatever other objects lie about.
-/
import Derived.Test.YtifmekddikapeaaAmPure
namespace Go.AM
set_option autoImplicit false
set_option linter.unusedSimpArgs false
set_option linter.unusedVariables false

/-- a cell that knows of no object -/
def V.flatO : V → Bool
  | .bn _ _ => true
  | .ul _ _ => true
  | v => v.flat1

section
variable {I : Nat → Nat → Prop} {ρ ρ' : Nat → Nat} {N N' : Nat} {w : World} {P : Program}

theorem VRel.flatO {v : V} {cv : Value} (h : VRel I ρ N w v cv) (hf : v.flatO = true) : VRel I ρ' N' w v cv := by
  cases h with
  | bn E n p => exact .bn E n p
  | ul k xs ad cap hm => exact .ul k xs ad cap hm
  | bool b => exact .bool b
  | int k n h => exact .int k n h
  | str l s hl h => exact .str l s hl h
  | sln k o => exact .sln k o
  | sle k o ad ho => exact .sle k o ad ho
  | sl k o xs b off len cap hl hc hm hfl f hI hw hv => exact (VRel.sl k o xs b off len cap hl hc hm hfl f hI hw hv).flat1 rfl
  | nilp => exact .nilp
  | nilif => exact .nilif
  | fn f cs vs hl hv =>
    cases cs with
    | nil => exact .fn f [] vs hl (by simp)
    | cons c cs => simp [V.flatO, V.flat1] at hf
  | _ => simp [V.flatO, V.flat1] at hf

theorem flatO_row {cs : List V} (h : cs.all V.flatO = true) : isRow cs = false := by
  unfold isRow
  split
  · simp [V.flatO, V.flat1] at h
  · simp [V.flatO, V.flat1] at h
  · rfl

theorem OwnOK.reloc {g g' : Gh} {w : World} {occ occ' : Occ} {v : V} {cv : Value} (h : OwnOK g w occ v cv) (hβ : g'.β = g.β) (hI : g'.I = g.I)
    (hO : ∀ b, g.O b = some occ → g'.O b = some occ') : OwnOK g' w occ' v cv := by
  unfold OwnOK at h ⊢
  split
  · rename_i k xs a len cap
    obtain ⟨o1, ⟨arr2, e2, fz, b1, b2, b3⟩, o3⟩ := h
    exact ⟨hO _ o1, ⟨arr2, e2, fz, b1, b2, fun hk => (b3 hk).trans hβ.symm⟩, by rw [hI]; exact o3⟩
  · obtain ⟨o1, o2, o3⟩ := h
    exact ⟨hO _ o1, o2, by rw [hI]; exact o3⟩
  · rcases h with h | ⟨b, cap, arr, e, fz, h0, h1, h2, h3, h4, h5, h6, h7, h8, h9⟩
    · exact .inl h
    · exact .inr ⟨b, cap, arr, e, fz, h0, h1, h2, h3, hO _ h4, h5, h6, fun hk => (h7 hk).trans hβ.symm, by rw [hI]; exact h8, by rw [hI]; exact h9⟩
  · trivial

/-- a pointer to an object that has another number -/
def V.ren (σ : Nat → Nat) : V → V
  | .ptr i o => .ptr (σ i) o
  | v => v

/-- plain data, or one of the first n objects -/
def V.flatP (n : Nat) : V → Bool
  | .ptr i 0 => decide (i < n)
  | v => v.flat

theorem V.ren_flat {σ : Nat → Nat} {v : V} (h : v.flat = true) : v.ren σ = v := by
  cases v <;> simp [V.flat, V.flat2, V.flat1] at h <;> rfl

theorem V.ren_bare {σ : Nat → Nat} {v : V} : (v.ren σ).bare = v.bare := by
  cases v <;> rfl

/-- what a function makes of some objects and plain data -/
def ObjsFn (P : Program) (f : FuncId) (as : List V) (css : List (List V)) (v : V) (css' : List (List V)) : Prop :=
  css'.length = css.length ∧ ∃ rest, FnOK P f as (css.map some) v (css'.map some ++ rest)

theorem ObjsFn.frame {f : FuncId} {as : List V} {css css' : List (List V)} {v : V} (h : ObjsFn P f as css v css') (ha : as.all (V.flatP css.length) = true) (hv : v.flat = true)
    (hc : css.all (fun cs => cs.all V.flatO) = true) (hc' : css'.all (fun cs => cs.all V.flatO) = true) {hp hp' : List AObj} {σ : Nat → Nat}
    (hσ : ∀ k k', k < css.length → k' < css.length → σ k = σ k' → k = k')
    (h1 : ∀ (k : Nat) cs, css[k]? = some cs → hp[σ k]? = some (some cs)) (h2 : hp'.length = hp.length)
    (h3 : ∀ (k : Nat) cs, css'[k]? = some cs → hp'[σ k]? = some (some cs))
    (h4 : ∀ id, (∀ k, k < css.length → σ k ≠ id) → hp'[id]? = hp[id]?) : FnOK P f (as.map (V.ren σ)) hp v hp' := by
  obtain ⟨hlen', rest, h⟩ := h
  intro w g cargs hβ hhr hlen hbare hrel
  have hcs : ∀ (k : Nat) cs, css[k]? = some cs → cs.all V.flatO = true := fun k cs hk => List.all_eq_true.1 hc cs (List.mem_of_getElem? hk)
  have hcs' : ∀ (k : Nat) cs, css'[k]? = some cs → cs.all V.flatO = true := fun k cs hk => List.all_eq_true.1 hc' cs (List.mem_of_getElem? hk)
  have lt_of : ∀ (k : Nat) cs, css[k]? = some cs → k < css.length := fun k cs hk => (List.getElem?_eq_some_iff.1 hk).1
  have map_of : ∀ (k : Nat) cs, (css.map some)[k]? = some (some cs) → css[k]? = some cs := by
    intro k cs hk
    rw [List.getElem?_map] at hk
    cases hq : css[k]? with
    | none => rw [hq] at hk; simp at hk
    | some x => rw [hq] at hk; simpa using hk
  have sub : ∀ k, k < css.length → ∃ cs, css[k]? = some cs ∧ hp[σ k]? = some (some cs) := fun k hk => ⟨css[k], List.getElem?_eq_getElem hk, h1 k _ (List.getElem?_eq_getElem hk)⟩
  let inv : Nat → Option Nat := fun i => (List.range css.length).find? fun k => σ k == i
  have inv_some : ∀ i k, inv i = some k → k < css.length ∧ σ k = i := by
    intro i k hk
    have m1 := List.mem_of_find?_eq_some hk
    have m2 := List.find?_some hk
    exact ⟨List.mem_range.1 m1, by simpa using m2⟩
  have inv_of : ∀ k, k < css.length → inv (σ k) = some k := by
    intro k hk
    cases hq : inv (σ k) with
    | none =>
      have := List.find?_eq_none.1 hq k (List.mem_range.2 hk)
      simp at this
    | some k' =>
      obtain ⟨m1, m2⟩ := inv_some _ _ hq
      rw [hσ k' k m1 hk m2]
  let g₀ : Gh := { I := g.I, ρ := fun k => g.ρ (σ k), O := fun b => match g.O b with | some (.cell i j) => (inv i).map fun k => .cell k j | _ => none, β := g.β }
  have gO : ∀ b o, g₀.O b = some o → ∃ k j, k < css.length ∧ o = .cell k j ∧ g.O b = some (.cell (σ k) j) := by
    intro b o hb
    simp only [g₀] at hb
    split at hb
    · rename_i i j hg
      cases hq : inv i with
      | none => rw [hq] at hb; simp at hb
      | some k =>
        rw [hq] at hb
        obtain ⟨m1, m2⟩ := inv_some _ _ hq
        exact ⟨k, j, m1, by simpa using hb.symm, by rw [m2]; exact hg⟩
    · simp at hb
  have gN : ∀ b, (∀ k j, k < css.length → g.O b ≠ some (.cell (σ k) j)) → g₀.O b = none := by
    intro b hb
    cases hq : g₀.O b with
    | none => rfl
    | some o =>
      obtain ⟨k, j, hk, _, hj⟩ := gO b o hq
      exact absurd hj (hb k j hk)
  have gC : ∀ b k j, k < css.length → g.O b = some (.cell (σ k) j) → g₀.O b = some (.cell k j) := by
    intro b k j hk hb
    simp [g₀, hb, inv_of k hk]
  have hO0 : ∀ k, k < css.length → g₀.O (g.ρ (σ k)) = none := by
    intro k hk
    obtain ⟨cs, _, hid⟩ := sub k hk
    exact gN _ (by intro k' j _ hj; rw [hhr.notO _ cs hid] at hj; cases hj)
  have h0 : HR g₀ (css.map some) w := by
    refine ⟨?_, ?_, ?_, ?_, hhr.exI, ?_⟩
    · intro k c hk
      have hk := map_of k c hk
      obtain ⟨arr, e, fz, a1, a2⟩ := hhr.obj _ c (h1 k c hk)
      have hr := flatO_row (hcs k c hk)
      refine ⟨arr, e, fz, a1, a2.len, a2.plain, by rintro k xs rfl; simp [isRow] at hr, a2.cold, a2.one, ?_, ?_, a2.bn⟩
      · intro j c' cv hj hcv
        exact (a2.rel j c' cv hj hcv).flatO (List.all_eq_true.1 (hcs k c hk) c' (List.mem_of_getElem? (by rw [cellsOf_eq hr] at hj; exact hj)))
      · intro j c' cv hj hcv
        exact (a2.own j c' cv hj hcv).reloc rfl rfl fun b hb => gC b k j (lt_of k c hk) hb
    · intro k k' c c' hk hk' hne
      have hk := map_of k c hk
      have hk' := map_of k' c' hk'
      exact hhr.apart _ _ _ _ (h1 k c hk) (h1 k' c' hk') fun e => hne (hσ k k' (lt_of k c hk) (lt_of k' c' hk') e)
    · intro k c hk
      exact hhr.notI _ c (h1 k c (map_of k c hk))
    · intro k c hk
      exact hO0 k (lt_of k c (map_of k c hk))
    · intro b o hb
      obtain ⟨k, j, _, _, hj⟩ := gO b o hb
      exact hhr.oLt b _ hj
  have hargs : ∀ (i : Nat) x cv, as[i]? = some x → cargs[i]? = some cv → VRel g₀.I g₀.ρ (css.map some).length w x cv := by
    intro i x cv hx hcv
    have hr := hrel i (x.ren σ) cv (by rw [List.getElem?_map, hx]; rfl) hcv
    have hx' := List.all_eq_true.1 ha x (List.mem_of_getElem? hx)
    unfold V.flatP at hx'
    split at hx'
    · rename_i k
      have hk : k < css.length := by simpa using hx'
      simp only [V.ren] at hr
      cases hr with
      | ptr _ _ _ => exact .ptr k 0 (by simpa using hk)
    · rw [V.ren_flat hx'] at hr
      exact hr.flat hx'
  refine (h w g₀ cargs hβ h0 (by rw [← hlen, List.length_map]) (by
    intro x hx
    have := hbare (x.ren σ) (List.mem_map_of_mem hx)
    rw [V.ren_bare] at this
    exact this) hargs).mono ?_
  rintro ex w' ⟨cv, g₁, rfl, q1, q2, q3, q4⟩
  have r0 : ∀ k, k < css.length → g₁.ρ k = g.ρ (σ k) := fun k hk => q2.up.rho k (by simpa using hk)
  have noO : ∀ b, (∀ k, k < css.length → g.ρ (σ k) ≠ b) → ∀ (k : Nat) cs, (css.map some)[k]? = some (some cs) → g₀.ρ k ≠ b := fun b hb k cs hk => hb k (lt_of k cs (map_of k cs hk))
  have blk : ∀ b, b < w.heap.size → (∀ k, k < css.length → g.ρ (σ k) ≠ b) → g₀.O b = none → w'.heap[b]? = w.heap[b]? := fun b hb hne hO => q2.block b hb (noO b hne) hO
  let g₂ : Gh := { I := g₁.I, ρ := g.ρ, O := fun b => match g₁.O b with
    | some .res => some .res
    | some (.cell k j) => cond (Nat.blt k css.length) (some (.cell (σ k) j)) none
    | some (.slot _) => none
    | none => if b < w.heap.size ∧ g₀.O b = none then g.O b else none, β := g.β }
  have up : Up g.I g.ρ hp.length w g₂.I g₂.ρ hp'.length w' := ⟨q2.up.mono, q2.up.cell, fun _ _ => rfl, by rw [h2]; exact Nat.le_refl _⟩
  have olt : ∀ (i : Nat) c, hp[i]? = some (some c) → g.ρ i < w.heap.size := by
    intro i c hi
    obtain ⟨arr, e, fz, h1, _⟩ := hhr.obj i c hi
    exact (Array.getElem?_eq_some_iff.1 h1).1
  have fst : ∀ (k : Nat) cs, css'[k]? = some cs → (css'.map some ++ rest)[k]? = some (some cs) := by
    intro k cs hk
    rw [List.getElem?_append_left (by simpa using (List.getElem?_eq_some_iff.1 hk).1), List.getElem?_map, hk]; rfl
  have key : ∀ (i : Nat) c, hp'[i]? = some (some c) → (∃ k c₀, k < css.length ∧ i = σ k ∧ css'[k]? = some c ∧ hp[i]? = some (some c₀)) ∨ ((∀ k, k < css.length → σ k ≠ i) ∧ hp[i]? = some (some c)) := by
    intro i c hi
    by_cases hk : ∃ k, k < css.length ∧ σ k = i
    · obtain ⟨k, hk, rfl⟩ := hk
      obtain ⟨c₀, _, hc₀⟩ := sub k hk
      have hk' : k < css'.length := by omega
      have := h3 k _ (List.getElem?_eq_getElem hk')
      rw [this] at hi
      exact .inl ⟨k, c₀, hk, rfl, by rw [List.getElem?_eq_getElem hk']; simpa using hi, hc₀⟩
    · have hn : ∀ k, k < css.length → σ k ≠ i := fun k hk' e => hk ⟨k, hk', e⟩
      exact .inr ⟨hn, (h4 i hn).symm.trans hi⟩
  have live₀ : ∀ (i : Nat) c, hp'[i]? = some (some c) → ∃ c₀, hp[i]? = some (some c₀) := by
    intro i c hi
    rcases key i c hi with ⟨_, c₀, _, _, _, h⟩ | ⟨_, h⟩
    · exact ⟨c₀, h⟩
    · exact ⟨c, h⟩
  have apartσ : ∀ (i : Nat) c, (∀ k, k < css.length → σ k ≠ i) → hp[i]? = some (some c) → ∀ k, k < css.length → g.ρ (σ k) ≠ g.ρ i := by
    intro i c hn hi k hk
    obtain ⟨c₀, _, hc₀⟩ := sub k hk
    exact hhr.apart _ _ _ _ hc₀ hi (hn k hk)
  have g2same : ∀ b, b < w.heap.size → (∀ k, k < css.length → g.ρ (σ k) ≠ b) → g₀.O b = none → g₂.O b = g.O b := by
    intro b hb hne hO
    have := q2.oSame b hb (noO b hne) hO
    simp only [g₂, this]
    rw [if_pos ⟨hb, hO⟩]
  have ownBlk : ∀ b o, g.O b = some o → ∀ k, k < css.length → g.ρ (σ k) ≠ b := by
    intro b o hb k hk e
    obtain ⟨c₀, _, hc₀⟩ := sub k hk
    rw [← e, hhr.notO _ c₀ hc₀] at hb
    cases hb
  refine ⟨cv, g₂, rfl, ⟨?_, ?_, ?_, ?_, q1.exI, ?_⟩, ⟨rfl, q2.os, q2.tape, q2.output, q2.size, ?_, up, ?_, ?_, ?_⟩, ?_, ?_⟩
  · intro i c hi
    rcases key i c hi with ⟨k, c₀, hk, rfl, hk', hid⟩ | ⟨hne, hi⟩
    · obtain ⟨arr', e', fz, a1, a2⟩ := q1.obj k c (fst k c hk')
      rw [r0 k hk] at a1
      have hr := flatO_row (hcs' k c hk')
      refine ⟨arr', e', fz, a1, a2.len, a2.plain, by rintro k xs rfl; simp [isRow] at hr, a2.cold, a2.one, ?_, ?_, ?_⟩
      · intro j c' cv hj hcv
        exact (a2.rel j c' cv hj hcv).flatO (List.all_eq_true.1 (hcs' k c hk') c' (List.mem_of_getElem? (by rw [cellsOf_eq hr] at hj; exact hj)))
      · intro j c' cv hj hcv
        refine (a2.own j c' cv hj hcv).reloc q2.beta.symm rfl fun b hb => ?_
        have hb' : Nat.blt k css.length = true := by rw [Nat.blt_eq]; exact hk
        simp [g₂, hb, hb']
      · intro j E n hj
        have := a2.bn j E n hj
        rw [r0 k hk] at this
        exact this
    · obtain ⟨arr', e', fz, a1, a2⟩ := hhr.obj i c hi
      have hnO : g₀.O (g.ρ i) = none := gN _ (by intro k j _ hj; rw [hhr.notO i c hi] at hj; cases hj)
      refine ⟨arr', e', fz, (blk _ (olt i c hi) (apartσ i c hne hi) hnO).trans a1, a2.len, a2.plain, a2.typedUp rfl (fun _ _ => rfl) up.num rfl, a2.cold, a2.one, fun j c cv hj hcv => (a2.rel j c cv hj hcv).up up, ?_, a2.bn⟩
      intro j c' cv hj hcv
      refine own_keep (a2.own j c' cv hj hcv) rfl (fun b j hi => ⟨up.mono b j hi, up.cell b j hi⟩) ?_
      intro b hb
      have hlt := hhr.oLt b _ hb
      have hO : g₀.O b = none := gN _ (by intro k j' hk hj'; rw [hb] at hj'; cases hj'; exact hne k hk rfl)
      have hbne := ownBlk b _ hb
      exact ⟨(g2same b hlt hbne hO).trans hb, blk b hlt hbne hO, fun j hj => q2.iSame b j hlt (noO b hbne) hO hj⟩
  · intro i i' c c' hi hi' hne
    obtain ⟨c₀, m1⟩ := live₀ i c hi
    obtain ⟨c₁, m2⟩ := live₀ i' c' hi'
    exact hhr.apart _ _ _ _ m1 m2 hne
  · intro i c hi j hj
    rcases key i c hi with ⟨k, c₀, hk, rfl, hk', hid⟩ | ⟨hne, hi⟩
    · have := q1.notI k c (fst k c hk') j
      rw [r0 k hk] at this
      exact this hj
    · have hnO : g₀.O (g.ρ i) = none := gN _ (by intro k j _ hj; rw [hhr.notO i c hi] at hj; cases hj)
      exact hhr.notI i c hi j (q2.iSame _ j (olt i c hi) (noO _ (apartσ i c hne hi)) hnO hj)
  · intro i c hi
    rcases key i c hi with ⟨k, c₀, hk, rfl, hk', hid⟩ | ⟨hne, hi⟩
    · have := q1.notO k c (fst k c hk')
      rw [r0 k hk] at this
      simp only [g₂, this]
      split
      · exact hhr.notO _ c₀ hid
      · rfl
    · have hnO : g₀.O (g.ρ i) = none := gN _ (by intro k j _ hj; rw [hhr.notO i c hi] at hj; cases hj)
      exact (g2same _ (olt i c hi) (apartσ i c hne hi) hnO).trans (hhr.notO i c hi)
  · intro b o hb
    simp only [g₂] at hb
    split at hb
    · rename_i hq; exact q1.oLt b _ hq
    · rename_i hq; exact q1.oLt b _ hq
    · simp at hb
    · split at hb
      · rename_i hq; exact Nat.lt_of_lt_of_le hq.1 q2.size
      · simp at hb
  · intro b hb ho hO
    exact blk b hb (fun k hk e => by obtain ⟨c₀, _, hc₀⟩ := sub k hk; exact ho _ c₀ hc₀ e) (gN _ (by intro k j _ hj; rw [hO] at hj; cases hj))
  · intro b j hb ho hO hi
    exact q2.iSame b j hb (noO b fun k hk e => by obtain ⟨c₀, _, hc₀⟩ := sub k hk; exact ho _ c₀ hc₀ e) (gN _ (by intro k j _ hj; rw [hO] at hj; cases hj)) hi
  · intro b hb ho hO
    exact (g2same b hb (fun k hk e => by obtain ⟨c₀, _, hc₀⟩ := sub k hk; exact ho _ c₀ hc₀ e) (gN _ (by intro k j _ hj; rw [hO] at hj; cases hj))).trans hO
  · intro i c hi
    exact .inl (live₀ i c hi)
  · exact q3.flat hv
  · exact q4.reloc q2.beta.symm rfl fun b hb => by simp [g₂, hb]

/-- what a function makes of one object and plain data -/
def ObjFn (P : Program) (f : FuncId) (vs cs : List V) (v : V) (cs' : List V) : Prop := ∃ rest, FnOK P f (.ptr 0 0 :: vs) [some cs] v (some cs' :: rest)

theorem V.flatP_flat {n : Nat} {v : V} (h : v.flat = true) : v.flatP n = true := by
  unfold V.flatP
  split
  · simp [V.flat, V.flat2, V.flat1] at h
  · exact h

theorem ren_flats {σ : Nat → Nat} : ∀ {vs : List V}, vs.all V.flat = true → vs.map (V.ren σ) = vs
  | [], _ => rfl
  | v :: vs, h => by
    simp only [List.all_cons, Bool.and_eq_true] at h
    rw [List.map_cons, V.ren_flat h.1, ren_flats h.2]

theorem ObjFn.frame {f : FuncId} {vs cs cs' : List V} {v : V} (h : ObjFn P f vs cs v cs') (hf : vs.all V.flat = true) (hv : v.flat = true) (hc : cs.all V.flatO = true) (hc' : cs'.all V.flatO = true)
    {hp : List AObj} {id : Nat} (hid : hp[id]? = some (some cs)) : FnOK P f (.ptr id 0 :: vs) hp v (hp.set id (some cs')) := by
  obtain ⟨rest, h⟩ := h
  have hidl : id < hp.length := (List.getElem?_eq_some_iff.1 hid).1
  have := ObjsFn.frame (P := P) (f := f) (as := .ptr 0 0 :: vs) (css := [cs]) (css' := [cs']) (v := v) ⟨rfl, rest, h⟩ (hp := hp) (hp' := hp.set id (some cs')) (σ := fun _ => id)
    (by simp only [List.all_cons, Bool.and_eq_true]; exact ⟨rfl, List.all_eq_true.2 fun x hx => V.flatP_flat (List.all_eq_true.1 hf x hx)⟩) hv (by simpa using hc) (by simpa using hc')
    (by intro k k' hk hk' _; simp at hk hk'; omega) (by intro k cs₁ hk; cases k <;> simp at hk; rw [← hk]; exact hid) (by simp)
    (by intro k cs₁ hk; cases k <;> simp at hk; rw [← hk]; simp [hidl])
    (by intro i hi; rw [List.getElem?_set_ne (hi 0 (by simp))])
  rw [List.map_cons, ren_flats hf] at this
  exact this

theorem PureS.mono {Γ : ASpec} {imp imp' : List Nat} (h : PureS Γ imp) (hs : imp.all (fun x => imp'.contains x) = true) (hm : imp'.all (fun x => Nat.blt x 2000000 || imp.contains x) = true) : PureS Γ imp' := by
  refine ⟨?_, fun f vs hp c v hp' hf => h.loc f vs hp c v hp' ?_⟩
  rotate_left
  · have := List.all_eq_true.1 hm (f + 2000000) (by simpa using hf)
    simp only [Bool.or_eq_true, Nat.blt_eq] at this
    rcases this with h1 | h1
    · omega
    · exact h1
  intro f vs hp hf
  refine h.pure f vs hp ?_
  cases hc : imp.contains f with
  | false => rfl
  | true =>
    have := List.all_eq_true.1 hs f (by simpa using hc)
    rw [this] at hf
    simp at hf

/-- methods on objects: arguments and the object's cells; condition, result, cells -/
abbrev OSpec := Nat → List V → List V → Option (Bool × V × List V)

/-- a table, and methods on objects -/
def withO (G : OSpec) (Γ : ASpec) : ASpec := fun f vs hp =>
  match vs with
  | .ptr id 0 :: as => match hp.getD id none with
    | some cs => match G f as cs with
      | some (c, v, cs') => cond (as.all V.flat && v.flat && cs.all V.flatO && cs'.all V.flatO) (some (c, v, hp.set id (some cs'))) none
      | none => Γ f vs hp
    | none => Γ f vs hp
  | _ => Γ f vs hp

theorem withO_ok {G : OSpec} {Γ : ASpec} (hG : ∀ f as cs v cs', G f as cs = some (true, v, cs') → ObjFn P f as cs v cs') (hΓ : SpecOK P Γ) : SpecOK P (withO G Γ) := by
  intro f vs hp v hp' h
  unfold withO at h
  split at h
  · rename_i id as
    split at h
    · rename_i cs hcs
      split at h
      · rename_i c v' cs' hg
        cases hst : (as.all V.flat && v'.flat && cs.all V.flatO && cs'.all V.flatO) with
        | false => rw [hst] at h; simp at h
        | true =>
          rw [hst] at h
          simp only [cond_true, Option.some.injEq, Prod.mk.injEq] at h
          obtain ⟨rfl, rfl, rfl⟩ := h
          simp only [Bool.and_eq_true] at hst
          have hid : hp[id]? = some (some cs) := by
            rw [List.getD_eq_getElem?_getD] at hcs
            cases hq : hp[id]? with
            | none => rw [hq] at hcs; simp at hcs
            | some x => rw [hq] at hcs; simpa using hcs
          exact (hG f as cs _ cs' hg).frame hst.1.1.1 hst.1.1.2 hst.1.2 hst.2 hid
      · exact hΓ _ _ _ _ _ h
    · exact hΓ _ _ _ _ _ h
  · exact hΓ _ _ _ _ _ h

theorem withO_pure {G : OSpec} {Γ : ASpec} {imp : List Nat} (hG : ∀ f as cs, imp.contains f = false → G f as cs = none) (hΓ : PureS Γ imp) : PureS (withO G Γ) imp := by
  refine ⟨?_, ?_⟩
  · intro f vs hp hf
    have e : ∀ hp, withO G Γ f vs hp = Γ f vs hp := by
      intro hp
      unfold withO
      split
      · split
        · rw [hG f _ _ hf]
        · rfl
      · rfl
    rw [e, e]
    exact hΓ.pure f vs hp hf
  · intro f vs hp c v hp' hf h
    by_cases hv : ∃ id as, vs = .ptr id 0 :: as
    · obtain ⟨id, as, rfl⟩ := hv
      have same : ∀ hp2 : List AObj, (∀ i ∈ argIds (.ptr id 0 :: as), hp2[i]? = hp[i]?) → hp2.getD id none = hp.getD id none := fun hp2 hh => getD_same (hh id (by simp [argIds, V.cellsA, V.id1]))
      simp only [withO] at h
      cases hcs : hp.getD id none with
      | none =>
        rw [hcs] at h
        obtain ⟨q, q1, q2, q3⟩ := hΓ.loc f _ _ _ _ _ hf h
        refine ⟨q, q1, q2, fun hp2 hl hh => ?_⟩
        simp only [withO, same hp2 hh, hcs]
        exact q3 hp2 hl hh
      | some cs =>
        rw [hcs] at h
        simp only at h
        cases hg : G f as cs with
        | none =>
          rw [hg] at h
          obtain ⟨q, q1, q2, q3⟩ := hΓ.loc f _ _ _ _ _ hf h
          refine ⟨q, q1, q2, fun hp2 hl hh => ?_⟩
          simp only [withO, same hp2 hh, hcs, hg]
          exact q3 hp2 hl hh
        | some x =>
          obtain ⟨c', v', cs'⟩ := x
          rw [hg] at h
          simp only at h
          cases hst : (as.all V.flat && v'.flat && cs.all V.flatO && cs'.all V.flatO) with
          | false => rw [hst] at h; simp at h
          | true =>
            rw [hst] at h
            simp only [cond_true, Option.some.injEq, Prod.mk.injEq] at h
            obtain ⟨rfl, rfl, rfl⟩ := h
            refine ⟨[(id, some cs')], by simp [ptrIds], rfl, fun hp2 hl hh => ?_⟩
            simp only [withO, same hp2 hh, hcs, hg, hst, cond_true]
            rfl
    · have e : ∀ hp, withO G Γ f vs hp = Γ f vs hp := by
        intro hp
        unfold withO
        split
        · exact absurd ⟨_, _, rfl⟩ hv
        · rfl
      rw [e] at h
      obtain ⟨q, q1, q2, q3⟩ := hΓ.loc f _ _ _ _ _ hf h
      exact ⟨q, q1, q2, fun hp2 hl hh => by rw [e]; exact q3 hp2 hl hh⟩

/-- arguments with their objects numbered from k on -/
def normP : Nat → List V → List V
  | _, [] => []
  | k, .ptr _ 0 :: vs => .ptr k 0 :: normP (k + 1) vs
  | k, v :: vs => v :: normP k vs

def cellsAt (hp : List AObj) : List Nat → Option (List (List V))
  | [] => some []
  | i :: is => match hp.getD i none with
    | some cs => match cellsAt hp is with
      | some css => some (cs :: css)
      | none => none
    | none => none

def setAll : List AObj → List Nat → List (List V) → List AObj
  | hp, i :: is, c :: cs => setAll (hp.set i (some c)) is cs
  | hp, _, _ => hp

def nodupB : List Nat → Bool
  | [] => true
  | i :: is => !(is.any (Nat.beq i)) && nodupB is

/-- functions on some objects: arguments with the objects numbered 0, 1, .., and the objects' cells -/
abbrev OsSpec := Nat → List V → List (List V) → Option (Bool × V × List (List V))

/-- a table, and functions on some objects -/
def withOs (G : OsSpec) (Γ : ASpec) : ASpec := fun f vs hp =>
  match cellsAt hp (ptrIds vs) with
  | some css => match G f (normP 0 vs) css with
    | some (c, v, css') => cond (nodupB (ptrIds vs) && Nat.beq css'.length css.length && (normP 0 vs).all (V.flatP css.length) && v.flat && css.all (fun cs => cs.all V.flatO) && css'.all (fun cs => cs.all V.flatO))
        (some (c, v, setAll hp (ptrIds vs) css')) none
    | none => Γ f vs hp
  | none => Γ f vs hp

theorem nodupB_nodup : ∀ {l : List Nat}, nodupB l = true → l.Nodup
  | [], _ => List.nodup_nil
  | i :: is, h => by
    simp only [nodupB, Bool.and_eq_true, Bool.not_eq_true', List.any_eq_false] at h
    refine List.nodup_cons.2 ⟨fun hm => ?_, nodupB_nodup h.2⟩
    exact h.1 i hm (by simp)

theorem cellsAt_get {hp : List AObj} : ∀ {is : List Nat} {css : List (List V)}, cellsAt hp is = some css → css.length = is.length ∧ ∀ (k : Nat) cs, css[k]? = some cs → hp[is.getD k 0]? = some (some cs)
  | [], css, h => by
    simp only [cellsAt, Option.some.injEq] at h
    subst h
    simp
  | i :: is, css, h => by
    simp only [cellsAt] at h
    split at h
    · rename_i cs hcs
      split at h
      · rename_i css₁ hs
        simp only [Option.some.injEq] at h
        subst h
        obtain ⟨h1, h2⟩ := cellsAt_get hs
        refine ⟨by simp [h1], fun k c hk => ?_⟩
        cases k with
        | zero =>
          simp only [List.getElem?_cons_zero, Option.some.injEq] at hk
          subst hk
          rw [List.getD_eq_getElem?_getD] at hcs
          simp only [List.getD_cons_zero]
          cases hq : hp[i]? with
          | none => rw [hq] at hcs; simp at hcs
          | some x => rw [hq] at hcs; simpa using hcs
        | succ k =>
          simp only [List.getElem?_cons_succ] at hk
          simpa using h2 k c hk
      · simp at h
    · simp at h

theorem setAll_length : ∀ {is : List Nat} {hp : List AObj} {css : List (List V)}, (setAll hp is css).length = hp.length
  | [], hp, css => by cases css <;> rfl
  | i :: is, hp, [] => rfl
  | i :: is, hp, c :: cs => by simp [setAll, setAll_length]

theorem setAll_out : ∀ {is : List Nat} {hp : List AObj} {css : List (List V)} {id : Nat}, id ∉ is → (setAll hp is css)[id]? = hp[id]?
  | [], hp, css, id, _ => by cases css <;> rfl
  | i :: is, hp, [], id, _ => rfl
  | i :: is, hp, c :: cs, id, h => by
    simp only [List.mem_cons, not_or] at h
    rw [setAll, setAll_out h.2, List.getElem?_set_ne (fun e => h.1 e.symm)]

theorem setAll_in : ∀ {is : List Nat} {hp : List AObj} {css : List (List V)}, is.Nodup → (∀ i ∈ is, i < hp.length) → ∀ (k : Nat) cs, k < is.length → css[k]? = some cs → (setAll hp is css)[is.getD k 0]? = some (some cs)
  | [], _, _, _, _, k, _, hk, _ => by simp at hk
  | i :: is, hp, [], _, _, k, _, _, h => by simp at h
  | i :: is, hp, c :: cs, hn, hl, k, c', hk, h => by
    obtain ⟨hn1, hn2⟩ := List.nodup_cons.1 hn
    cases k with
    | zero =>
      simp only [List.getElem?_cons_zero, Option.some.injEq] at h
      subst h
      simp only [List.getD_cons_zero, setAll]
      rw [setAll_out hn1]
      simp [hl i List.mem_cons_self]
    | succ k =>
      simp only [List.getElem?_cons_succ] at h
      simp only [List.getD_cons_succ, setAll]
      exact setAll_in hn2 (fun j hj => by simpa using hl j (List.mem_cons_of_mem _ hj)) k c' (by simpa using hk) h

theorem normP_ren {σ : Nat → Nat} {n : Nat} : ∀ {vs : List V} {k : Nat}, (∀ i, i < (ptrIds vs).length → σ (k + i) = (ptrIds vs).getD i 0) → (normP k vs).all (V.flatP n) = true → (normP k vs).map (V.ren σ) = vs
  | [], _, _, _ => rfl
  | v :: vs, k, hσ, hf => by
    by_cases hv : ∃ i, v = .ptr i 0
    · obtain ⟨i, rfl⟩ := hv
      simp only [normP, List.map_cons, V.ren]
      simp only [ptrIds] at hσ
      simp only [normP, List.all_cons, Bool.and_eq_true] at hf
      have h0 := hσ 0 (by simp)
      simp only [Nat.add_zero, List.getD_cons_zero] at h0
      rw [h0, normP_ren (fun j hj => by have := hσ (j + 1) (by simp; omega); rw [List.getD_cons_succ] at this; rw [← this]; congr 1; omega) hf.2]
    · have e1 : normP k (v :: vs) = v :: normP k vs := by
        cases v <;> try rfl
        rename_i i o
        cases o with
        | zero => exact absurd ⟨i, rfl⟩ hv
        | succ o => rfl
      have e2 : ptrIds (v :: vs) = ptrIds vs := by
        cases v <;> try rfl
        rename_i i o
        cases o with
        | zero => exact absurd ⟨i, rfl⟩ hv
        | succ o => rfl
      rw [e2] at hσ
      rw [e1] at hf ⊢
      simp only [List.all_cons, Bool.and_eq_true] at hf
      have hfl : v.flat = true := by
        have := hf.1
        unfold V.flatP at this
        split at this
        · rename_i i
          exact absurd ⟨i, rfl⟩ hv
        · exact this
      rw [List.map_cons, V.ren_flat hfl, normP_ren hσ hf.2]

theorem withOs_ok {G : OsSpec} {Γ : ASpec} (hG : ∀ f as css v css', G f as css = some (true, v, css') → ObjsFn P f as css v css') (hΓ : SpecOK P Γ) : SpecOK P (withOs G Γ) := by
  intro f vs hp v hp' h
  unfold withOs at h
  split at h
  · rename_i css hcss
    split at h
    · rename_i c v' css' hg
      cases hst : (nodupB (ptrIds vs) && Nat.beq css'.length css.length && (normP 0 vs).all (V.flatP css.length) && v'.flat && css.all (fun cs => cs.all V.flatO) && css'.all (fun cs => cs.all V.flatO)) with
      | false => rw [hst] at h; simp at h
      | true =>
        rw [hst] at h
        simp only [cond_true, Option.some.injEq, Prod.mk.injEq] at h
        obtain ⟨rfl, rfl, rfl⟩ := h
        simp only [Bool.and_eq_true] at hst
        obtain ⟨⟨⟨⟨⟨n1, n2⟩, n3⟩, n4⟩, n5⟩, n6⟩ := hst
        obtain ⟨c1, c2⟩ := cellsAt_get hcss
        have hnd := nodupB_nodup n1
        have hle : css'.length = css.length := by simpa using n2
        have := ObjsFn.frame (hG f _ css _ css' hg) n3 n4 n5 n6 (hp := hp) (hp' := setAll hp (ptrIds vs) css') (σ := fun k => (ptrIds vs).getD k 0)
          (by
            intro k k' hk hk' e
            rw [c1] at hk hk'
            simp only [List.getD_eq_getElem?_getD, List.getElem?_eq_getElem hk, List.getElem?_eq_getElem hk', Option.getD_some] at e
            exact (List.getElem_inj hnd).1 e)
          c2 setAll_length
          (by
            intro k cs hk
            have hkl : k < css'.length := (List.getElem?_eq_some_iff.1 hk).1
            refine setAll_in hnd ?_ k cs (by omega) hk
            intro i hi
            obtain ⟨j, hj, rfl⟩ := List.mem_iff_getElem.1 hi
            have hj' : j < css.length := by omega
            have := c2 j _ (List.getElem?_eq_getElem hj')
            rw [List.getD_eq_getElem?_getD, List.getElem?_eq_getElem hj, Option.getD_some] at this
            exact (List.getElem?_eq_some_iff.1 this).1)
          (by
            intro id hn
            refine setAll_out fun hm => ?_
            obtain ⟨j, hj, rfl⟩ := List.mem_iff_getElem.1 hm
            exact hn j (by omega) (by rw [List.getD_eq_getElem?_getD, List.getElem?_eq_getElem hj, Option.getD_some]))
        rw [normP_ren (n := css.length) (fun i _ => by rw [Nat.zero_add]) n3] at this
        exact this
    · exact hΓ _ _ _ _ _ h
  · exact hΓ _ _ _ _ _ h

theorem cellsAt_same {hp hp2 : List AObj} : ∀ {is : List Nat}, (∀ i ∈ is, hp2[i]? = hp[i]?) → cellsAt hp2 is = cellsAt hp is
  | [], _ => rfl
  | i :: is, h => by
    simp only [cellsAt]
    rw [getD_same (h i (List.mem_cons_self ..)), cellsAt_same fun j hj => h j (List.mem_cons_of_mem _ hj)]

theorem setAll_upd : ∀ (is : List Nat) (hp : List AObj) (css : List (List V)), setAll hp is css = updH hp (is.zip (css.map some))
  | [], hp, css => by cases css <;> rfl
  | i :: is, hp, [] => rfl
  | i :: is, hp, c :: css => by
    simp only [setAll, List.map_cons, List.zip_cons_cons]
    rw [setAll_upd is]
    rfl

theorem withOs_pure {G : OsSpec} {Γ : ASpec} {imp : List Nat} (hG : ∀ f as css, imp.contains f = false → G f as css = none) (hΓ : PureS Γ imp) : PureS (withOs G Γ) imp := by
  refine ⟨?_, ?_⟩
  · intro f vs hp hf
    have e : ∀ hp, withOs G Γ f vs hp = Γ f vs hp := by
      intro hp
      unfold withOs
      split
      · rw [hG f _ _ hf]
      · rfl
    rw [e, e]
    exact hΓ.pure f vs hp hf
  · intro f vs hp c v hp' hf h
    have same : ∀ hp2 : List AObj, (∀ i ∈ argIds vs, hp2[i]? = hp[i]?) → cellsAt hp2 (ptrIds vs) = cellsAt hp (ptrIds vs) := fun hp2 hh => cellsAt_same fun i hi => hh i (ptrIds_arg hi)
    unfold withOs at h
    cases hcs : cellsAt hp (ptrIds vs) with
    | none =>
      rw [hcs] at h
      obtain ⟨q, q1, q2, q3⟩ := hΓ.loc f _ _ _ _ _ hf h
      refine ⟨q, q1, q2, fun hp2 hl hh => ?_⟩
      simp only [withOs, same hp2 hh, hcs]
      exact q3 hp2 hl hh
    | some css =>
      rw [hcs] at h
      simp only at h
      cases hg : G f (normP 0 vs) css with
      | none =>
        rw [hg] at h
        obtain ⟨q, q1, q2, q3⟩ := hΓ.loc f _ _ _ _ _ hf h
        refine ⟨q, q1, q2, fun hp2 hl hh => ?_⟩
        simp only [withOs, same hp2 hh, hcs, hg]
        exact q3 hp2 hl hh
      | some x =>
        obtain ⟨c', v', css'⟩ := x
        rw [hg] at h
        simp only at h
        cases hst : (nodupB (ptrIds vs) && Nat.beq css'.length css.length && (normP 0 vs).all (V.flatP css.length) && v'.flat && css.all (fun cs => cs.all V.flatO) && css'.all (fun cs => cs.all V.flatO)) with
        | false => rw [hst] at h; simp at h
        | true =>
          rw [hst] at h
          simp only [cond_true, Option.some.injEq, Prod.mk.injEq] at h
          obtain ⟨rfl, rfl, rfl⟩ := h
          refine ⟨(ptrIds vs).zip (css'.map some), ?_, setAll_upd _ _ _, fun hp2 hl hh => ?_⟩
          · intro p hp
            obtain ⟨a, b⟩ := p
            exact (List.of_mem_zip hp).1
          · simp only [withOs, same hp2 hh, hcs, hg, hst, cond_true]
            rw [setAll_upd]
end
end Go.AM
