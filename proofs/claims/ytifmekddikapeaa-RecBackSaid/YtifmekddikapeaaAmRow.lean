/-
  Functions that make a list and hand it out: the caller has it as an opened row.
-/
import Derived.Test.YtifmekddikapeaaAmNew
namespace Go.AM
set_option autoImplicit false
set_option linter.unusedSimpArgs false
set_option linter.unusedVariables false
section
variable {P : Program}

/-- a result that holds a row's header -/
def wrapR : Option (List V × List V) → V → V
  | none, h => h
  | some (p, q), h => .tup (p ++ h :: q)

def flatW : Option (List V × List V) → Bool
  | none => true
  | some (p, q) => p.all V.flat && q.all V.flat

def RowFn (P : Program) (f : FuncId) (vs : List V) (o : Option (List V × List V)) (k : EK) (xs : List (Ty k)) : Prop :=
  FnOK P f vs [] (wrapR o (.sw k 0 xs.length)) [some [.rw k xs], none]

theorem RowFn.dim {f : FuncId} {vs us : List V} {o : Option (List V × List V)} {k : EK} {xs : List (Ty k)} (h : RowFn P f us o k xs) (e : vs.map V.dim = us) : RowFn P f vs o k xs := FnOK.dim h e

theorem wrapR_rel {I I' : Nat → Nat → Prop} {ρ ρ' : Nat → Nat} {N N' : Nat} {w : World} {o : Option (List V × List V)} {h h' : V} {cv : Value} (ho : flatW o = true) (hr : VRel I ρ N w (wrapR o h) cv)
    (hh : ∀ cv, VRel I ρ N w h cv → VRel I' ρ' N' w h' cv) (hf : ∀ v cv, v.flat = true → VRel I ρ N w v cv → VRel I' ρ' N' w v cv) : VRel I' ρ' N' w (wrapR o h') cv := by
  cases o with
  | none => exact hh cv hr
  | some pq =>
    obtain ⟨p, q⟩ := pq
    simp only [flatW, Bool.and_eq_true] at ho
    simp only [wrapR] at hr ⊢
    cases hr with
    | tup _ vs hl hv =>
    refine .tup _ vs (by simpa using hl) ?_
    intro i c cv hc hcv
    rcases Nat.lt_trichotomy i p.length with hi | hi | hi
    · rw [List.getElem?_append_left hi] at hc
      exact hf c cv (List.all_eq_true.1 ho.1 c (List.mem_of_getElem? hc)) (hv i c cv (by rw [List.getElem?_append_left hi]; exact hc) hcv)
    · subst hi
      rw [List.getElem?_append_right (Nat.le_refl _), Nat.sub_self] at hc
      simp only [List.getElem?_cons_zero, Option.some.injEq] at hc
      subst hc
      exact hh cv (hv _ h cv (by rw [List.getElem?_append_right (Nat.le_refl _), Nat.sub_self]; rfl) hcv)
    · rw [List.getElem?_append_right (by omega), show i - p.length = (i - p.length - 1) + 1 by omega, List.getElem?_cons_succ] at hc
      exact hf c cv (List.all_eq_true.1 ho.2 c (List.mem_of_getElem? hc)) (hv i c cv (by rw [List.getElem?_append_right (by omega), show i - p.length = (i - p.length - 1) + 1 by omega, List.getElem?_cons_succ]; exact hc) hcv)

theorem wrapR_own {g : Gh} {w : World} {occ : Occ} {o : Option (List V × List V)} {k : EK} {id n : Nat} {cv : Value} : OwnOK g w occ (wrapR o (.sw k id n)) cv := by
  cases o with
  | none => simp [wrapR, OwnOK]
  | some pq => simp [wrapR, OwnOK]

theorem RowFn.frame {f : FuncId} {vs : List V} {o : Option (List V × List V)} {k : EK} {xs : List (Ty k)} (h : RowFn P f vs o k xs) (hf : vs.all V.flat = true) (ho : flatW o = true) (hp : List AObj) :
    FnOK P f vs hp (wrapR o (.sw k hp.length xs.length)) (hp ++ [some [.rw k xs], none]) := by
  intro w g cargs hβ hhr hlen hbare hrel
  let g₀ : Gh := { I := g.I, ρ := g.ρ, O := fun _ => none, β := g.β }
  have h0 : HR g₀ [] w := ⟨by simp, by simp, by simp, by simp, hhr.exI, by simp [g₀]⟩
  refine (h w g₀ cargs hβ h0 hlen hbare (fun i x cv hx hcv => (hrel i x cv hx hcv).flat (List.all_eq_true.1 hf x (List.mem_of_getElem? hx)))).mono ?_
  rintro e w' ⟨cv, g₁, rfl, q1, q2, q3, q4⟩
  have blk : ∀ b, b < w.heap.size → w'.heap[b]? = w.heap[b]? := fun b hb => q2.block b hb (by simp) rfl
  have isame : ∀ b j, b < w.heap.size → g₁.I b j → g.I b j := fun b j hb hi => q2.iSame b j hb (by simp) rfl hi
  have osame : ∀ b, b < w.heap.size → g₁.O b = none := fun b hb => q2.oSame b hb (by simp) rfl
  have hnew : w.heap.size ≤ g₁.ρ 0 := by
    rcases q2.live 0 [.rw k xs] rfl with ⟨_, h⟩ | ⟨_, h | h | ⟨_, _, h, _⟩⟩
    · simp at h
    · exact h
    · simp [g₀] at h
    · simp at h
  let g₂ : Gh := { I := g₁.I, ρ := fun i => if i = hp.length then g₁.ρ 0 else if i = hp.length + 1 then g₁.ρ 1 else g.ρ i, β := g.β, O := fun b => if b < w.heap.size then g.O b else (match g₁.O b with
    | some .res => some .res
    | _ => none) }
  have rold : ∀ i, i < hp.length → g₂.ρ i = g.ρ i := by
    intro i hi
    simp only [g₂]
    rw [if_neg (by omega), if_neg (by omega)]
  have rnew : g₂.ρ hp.length = g₁.ρ 0 := by simp [g₂]
  have rcap : g₂.ρ (hp.length + 1) = g₁.ρ 1 := by simp [g₂]
  have up : Up g.I g.ρ hp.length w g₂.I g₂.ρ (hp ++ [some [V.rw k xs], none]).length w' := ⟨q2.up.mono, q2.up.cell, rold, by simp⟩
  have olt : ∀ (id : Nat) cs, hp[id]? = some (some cs) → g.ρ id < w.heap.size := by
    intro id cs hid
    obtain ⟨arr, e, fz, h1, _⟩ := hhr.obj id cs hid
    exact (Array.getElem?_eq_some_iff.1 h1).1
  have lt_of : ∀ (id : Nat) cs, hp[id]? = some (some cs) → id < hp.length := fun id cs hid => (List.getElem?_eq_some_iff.1 hid).1
  have key : ∀ (id : Nat) c, (hp ++ [some [V.rw k xs], none])[id]? = some (some c) → (id = hp.length ∧ c = [V.rw k xs]) ∨ hp[id]? = some (some c) := by
    intro id c hid
    rcases Nat.lt_or_ge id hp.length with hl | hl
    · rw [List.getElem?_append_left hl] at hid
      exact .inr hid
    · rw [List.getElem?_append_right hl] at hid
      match hq : id - hp.length, hid with
      | 0, hid => simp at hid; exact .inl ⟨by omega, hid.symm⟩
      | 1, hid => simp at hid
      | n + 2, hid => simp at hid
  have okeep : ∀ id j v cv, id < hp.length → OwnOK g w (.cell id j) v cv → OwnOK g₂ w' (.cell id j) v cv := by
    intro id j v cv hid ho
    refine own_keep ho rfl (fun b j hi => ⟨q2.up.mono b j hi, q2.up.cell b j hi⟩) ?_
    intro b hb
    have hlt := hhr.oLt b _ hb
    exact ⟨by simp [g₂, hlt, hb], blk b hlt, fun j hj => isame b j hlt hj⟩
  refine ⟨cv, g₂, rfl, ⟨?_, ?_, ?_, ?_, q1.exI, ?_⟩, ⟨rfl, q2.os, q2.tape, q2.output, q2.size, fun b hb _ _ => blk b hb, up, fun b j hb _ _ hi => isame b j hb hi, ?_, ?_⟩, ?_, wrapR_own⟩
  · intro id c hid
    rcases key id c hid with ⟨rfl, rfl⟩ | hid
    · obtain ⟨arr, e, fz, a1, a2⟩ := q1.obj 0 _ rfl
      refine ⟨arr, e, fz, by rw [rnew]; exact a1, a2.len, a2.plain, ?_, a2.cold, a2.one, ?_, ?_, ?_⟩
      · intro k2 ys hz
        obtain ⟨t1, t2, t3, t4⟩ := a2.typed k2 ys hz
        refine ⟨t1, ?_, by simp, fun hk => (t4 hk).trans q2.beta⟩
        rw [rcap]
        exact t2
      · intro j c cv hc hcv
        have hc' := hc
        simp only [cellsOf] at hc'
        obtain ⟨y, hy, hc'⟩ := flat_enc_inv _ j _ hc'
        exact ul_flat hc' (a2.rel j c cv hc hcv)
      · intro j c cv hc hcv
        have hm := List.mem_of_getElem? hc
        simp only [cellsOf, List.mem_flatMap] at hm
        obtain ⟨y, _, hm⟩ := hm
        exact bare_own (enc_bare k y c hm) _ _ _ _
      · intro j E n hc
        simp only [cellsOf] at hc
        obtain ⟨y, _, hc⟩ := flat_enc_inv _ j _ hc
        exact absurd hc (enc_noBn k y _ E n)
    · obtain ⟨arr, e, fz, h1, h2⟩ := hhr.obj id c hid
      have hl := lt_of id c hid
      exact ⟨arr, e, fz, by rw [rold id hl]; exact (blk _ (olt id c hid)).trans h1, h2.len, h2.plain, h2.typedUp rfl rold (by simp) rfl, h2.cold, h2.one, fun j c cv hc hcv => (h2.rel j c cv hc hcv).up up, fun j c cv hc hcv => okeep _ _ _ _ hl (h2.own j c cv hc hcv), fun j E n hj => by rw [rold id hl]; exact h2.bn j E n hj⟩
  · intro id id' c c' hid hid' hne
    rcases key id c hid with ⟨rfl, rfl⟩ | h1
    · rcases key id' c' hid' with ⟨rfl, rfl⟩ | h2
      · exact absurd rfl hne
      · rw [rnew, rold id' (lt_of id' c' h2)]
        have := olt id' c' h2
        omega
    · rcases key id' c' hid' with ⟨rfl, rfl⟩ | h2
      · rw [rnew, rold id (lt_of id c h1)]
        have := olt id c h1
        omega
      · rw [rold id (lt_of id c h1), rold id' (lt_of id' c' h2)]
        exact hhr.apart _ _ _ _ h1 h2 hne
  · intro id c hid j hj
    rcases key id c hid with ⟨rfl, rfl⟩ | hid
    · rw [rnew] at hj
      exact q1.notI 0 _ rfl j hj
    · rw [rold id (lt_of id c hid)] at hj
      exact hhr.notI id c hid j (isame _ j (olt id c hid) hj)
  · intro id c hid
    rcases key id c hid with ⟨rfl, rfl⟩ | hid
    · rw [rnew]
      have h1 := q1.notO 0 _ rfl
      have h2 : ¬ g₁.ρ 0 < w.heap.size := by omega
      simp [g₂, h1, h2]
    · rw [rold id (lt_of id c hid)]
      have := olt id c hid
      simp [g₂, this, hhr.notO id c hid]
  · intro b o hb
    simp only [g₂] at hb
    split at hb
    · rename_i hlt
      exact Nat.lt_of_lt_of_le hlt q2.size
    · split at hb
      · rename_i hres
        exact q1.oLt b _ hres
      · simp at hb
  · intro b hb _ hO
    simp [g₂, hb, hO]
  · intro id c hid
    rcases key id c hid with ⟨rfl, rfl⟩ | hid
    · exact .inr ⟨Nat.le_refl _, .inl (by rw [rnew]; exact hnew)⟩
    · exact .inl ⟨c, hid⟩
  · refine wrapR_rel ho q3 ?_ ?_
    · intro cv hr
      cases hr with
      | sw _ _ _ hN hc hm =>
      rw [Nat.zero_add] at hc hm
      have := VRel.sw (I := g₂.I) (ρ := g₂.ρ) (N := (hp ++ [some [V.rw k xs], none]).length) (w := w') k hp.length xs.length (by simp) (by rw [rcap]; exact hc) (by rw [rcap]; exact hm)
      rw [rcap, rnew] at this
      exact this
    · intro v cv hv hr
      exact (hr.up (I' := g₂.I) (ρ' := g₁.ρ) (N' := 2) ⟨fun _ _ hi => hi, fun _ _ _ => rfl, fun _ _ => rfl, Nat.le_refl _⟩).flat hv

abbrev RSpec := Nat → List V → Option (Bool × Option (List V × List V) × ((k : EK) × List (Ty k)))

def withR (G : RSpec) (Γ : ASpec) : ASpec := fun f vs hp =>
  match G f vs with
  | some (c, o, ⟨k, xs⟩) => cond (vs.all V.flat && flatW o) (some (c, wrapR o (.sw k hp.length xs.length), hp ++ [some [.rw k xs], none])) none
  | none => Γ f vs hp

theorem withR_ok {G : RSpec} {Γ : ASpec} (hG : ∀ f vs o k xs, G f vs = some (true, o, ⟨k, xs⟩) → RowFn P f vs o k xs) (hΓ : SpecOK P Γ) : SpecOK P (withR G Γ) := by
  intro f vs hp v hp' h
  unfold withR at h
  split at h
  · rename_i c o k xs hg
    cases hst : (vs.all V.flat && flatW o) with
    | false => rw [hst] at h; simp at h
    | true =>
      rw [hst] at h
      simp only [cond_true, Option.some.injEq, Prod.mk.injEq] at h
      obtain ⟨rfl, rfl, rfl⟩ := h
      simp only [Bool.and_eq_true] at hst
      exact (hG f vs o k xs hg).frame hst.1 hst.2 hp
  · exact hΓ _ _ _ _ _ h

theorem withR_pure {G : RSpec} {Γ : ASpec} {imp : List Nat} (hG : ∀ f vs, imp.contains f = false → G f vs = none) (hG' : ∀ f vs, imp.contains (f + 2000000) = true → G f vs = none) (hΓ : PureS Γ imp) : PureS (withR G Γ) imp := by
  refine ⟨?_, ?_⟩
  · intro f vs hp hf
    have e : ∀ hp, withR G Γ f vs hp = Γ f vs hp := by
      intro hp
      unfold withR
      rw [hG f vs hf]
    rw [e, e]
    exact hΓ.pure f vs hp hf
  · intro f vs hp c v hp' hf h
    have e : ∀ hp, withR G Γ f vs hp = Γ f vs hp := by
      intro hp
      unfold withR
      rw [hG' f vs hf]
    rw [e] at h
    obtain ⟨q, q1, q2, q3⟩ := hΓ.loc _ _ _ _ _ _ hf h
    exact ⟨q, q1, q2, fun hp2 hl hh => by rw [e]; exact q3 hp2 hl hh⟩
end
end Go.AM
