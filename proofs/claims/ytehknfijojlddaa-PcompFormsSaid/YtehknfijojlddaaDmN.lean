/-
  Calls whose results are known: a call on texts that was run in an empty heap gives the same in any heap, its objects renumbered; what is not wanted is forgotten.
-/
import Derived.Test.YtehknfijojlddaaDmL
namespace Go.DM
open Go.RowKit
set_option autoImplicit false
set_option linter.unusedSimpArgs false
set_option linter.unusedVariables false

mutual
/-- the objects' numbers, so much greater -/
def sh (n : Nat) : D → D
  | .ptr id off => .ptr (n + id) off
  | .sl id off len sz cap => .sl (n + id) off len sz cap
  | .mp id => .mp (n + id)
  | .agg l => .agg (shs n l)
  | .tup l => .tup (shs n l)
  | .fn f l => .fn f (shs n l)
  | v => v
def shs (n : Nat) : List D → List D
  | [] => []
  | v :: l => sh n v :: shs n l
end
theorem shs_map (n : Nat) : ∀ l : List D, shs n l = l.map (sh n)
  | [] => rfl
  | v :: l => by rw [shs, shs_map n l]; rfl
def shOb (n : Nat) : Obj → Obj
  | .cells e f cs => .cells e f (shs n cs)
  | .map es => .map (es.map fun p => (sh n p.1, sh n p.2))
theorem sh_one (n : Nat) (v : D) : (sh n v).one = v.one := by cases v <;> rfl

/-- a ghost within another, its numbers so much greater -/
structure Within (n : Nat) (g g2 : Gh) : Prop where
  A : ∀ id, g.A id → g2.A (n + id)
  ρ : ∀ id, g.A id → g2.ρ (n + id) = g.ρ id
  κ : ∀ id, g.A id → g2.κ (n + id) = g.κ id
theorem VRel.sh {n : Nat} {g g2 : Gh} (u : Within n g g2) {v : D} {cv : Value} (h : VRel g v cv) : VRel g2 (sh n v) cv := by
  induction h with
  | undef cv => exact .undef cv
  | bool b => exact .bool b
  | int k n h => exact .int k n h
  | str l s hl h => exact .str l s hl h
  | nilp => exact .nilp
  | ptr id off h => rw [← u.ρ id h]; exact .ptr (n + id) off (u.A id h)
  | nils => exact .nils
  | emp ad c hm => exact .emp ad c hm
  | sl id off len sz cap c h hz hc hm hk =>
    rw [← u.ρ id h]
    refine .sl (n + id) off len sz cap c (u.A id h) hz hc hm ?_
    cases cap with
    | some k => exact hk
    | none => simp only [capOK] at hk ⊢; rw [u.κ id h]; exact hk
  | agg cs vs hl h1 hv ih =>
    rw [DM.sh, shs_map]
    refine .agg _ vs (by simpa using hl) (fun c hc => ?_) (fun i c cv hc hcv => ?_)
    · obtain ⟨d, hd, rfl⟩ := List.mem_map.1 hc
      rw [sh_one]; exact h1 d hd
    · rw [List.getElem?_map, Option.map_eq_some_iff] at hc
      obtain ⟨d, hd, rfl⟩ := hc
      exact ih i d cv hd hcv
  | tup cs vs hl hv ih =>
    rw [DM.sh, shs_map]
    refine .tup _ vs (by simpa using hl) (fun i c cv hc hcv => ?_)
    rw [List.getElem?_map, Option.map_eq_some_iff] at hc
    obtain ⟨d, hd, rfl⟩ := hc
    exact ih i d cv hd hcv
  | fn f cs vs hl hv ih =>
    rw [DM.sh, shs_map]
    refine .fn f _ vs (by simpa using hl) (fun i c cv hc hcv => ?_)
    rw [List.getElem?_map, Option.map_eq_some_iff] at hc
    obtain ⟨d, hd, rfl⟩ := hc
    exact ih i d cv hd hcv
  | nilf => exact .nilf
  | nilif => exact .nilif
  | mp id h => rw [← u.ρ id h]; exact .mp (n + id) (u.A id h)
  | nilm => exact .nilm

theorem ObjOK.sh {n : Nat} {g g2 : Gh} (u : Within n g g2) {id : Nat} (hA : g.A id) {f : Bool} {cs : List D} {arr : Array Value} {fz : Nat × Nat} (h : ObjOK g id f cs arr fz) : ObjOK g2 (n + id) f (shs n cs) arr fz := by
  rw [shs_map]
  refine ⟨by simpa using h.len, fun hf => by simpa using h.whole hf, fun hf => ?_, ?_, ?_, ?_⟩
  · rw [u.κ id hA]; simpa using h.part hf
  · rw [u.κ id hA]; exact h.cold
  · intro c hc
    obtain ⟨d, hd, rfl⟩ := List.mem_map.1 hc
    rw [sh_one]; exact h.one d hd
  · intro j c cv hc hcv
    rw [List.getElem?_map, Option.map_eq_some_iff] at hc
    obtain ⟨d, hd, rfl⟩ := hc
    exact (h.rel j d cv hd hcv).sh u
theorem MapOK.sh {n : Nat} {g g2 : Gh} (u : Within n g g2) {es : List (D × D)} {ents : Array MapEntry} {clock : Nat} (h : MapOK g es ents clock) : MapOK g2 (es.map fun p => (DM.sh n p.1, DM.sh n p.2)) ents clock := by
  obtain ⟨h1, h2, h3⟩ := h
  refine ⟨by simpa using h1, h2, fun i k v en hi he => ?_⟩
  rw [List.getElem?_map, Option.map_eq_some_iff] at hi
  obtain ⟨⟨k', v'⟩, hp, he'⟩ := hi
  simp only [Prod.mk.injEq] at he'
  obtain ⟨rfl, rfl⟩ := he'
  obtain ⟨e1, e2, e3⟩ := h3 i k' v' en hp he
  exact ⟨e1, e2.sh u, e3.sh u⟩

/-- values without objects -/
def flat : D → Bool
  | .bool _ | .int _ _ | .str _ | .nilp | .nils | .nilf | .nilif | .nilm => true
  | _ => false
theorem flat_rel {v : D} (h : flat v = true) {g g2 : Gh} {cv : Value} (hv : VRel g v cv) : VRel g2 v cv := by
  cases hv <;> first | (simp [flat] at h; done) | skip
  · exact .bool _
  · exact .int _ _ (by assumption)
  · exact .str _ _ (by assumption) (by assumption)
  · exact .nilp
  · exact .nils
  · exact .nilf
  · exact .nilif
  · exact .nilm

/-- objects laid behind those that are there -/
def adds (n : Nat) (os : List (Nat × Obj)) (t : Tr Obj) : Tr Obj := os.foldl (fun t p => t.set (Nat.succ (n + p.1)) (n + p.1) (some (shOb n p.2))) t
theorem adds_get (n : Nat) : ∀ (os : List (Nat × Obj)) (t : Tr Obj) (id : Nat) (o : Obj), (adds n os t).get id = some o → (t.get id = some o ∧ (∀ p ∈ os, n + p.1 ≠ id)) ∨ ∃ j o', id = n + j ∧ (j, o') ∈ os ∧ o = shOb n o'
  | [], t, id, o, h => .inl ⟨h, by simp⟩
  | (j, o1) :: os, t, id, o, h => by
    simp only [adds, List.foldl_cons] at h
    rcases adds_get n os _ id o h with ⟨h1, h2⟩ | ⟨j', o', h1, h2, h3⟩
    · rw [Tr.get_set _ _ _ _ _ (Nat.lt_succ_self _)] at h1
      split at h1
      · rename_i he
        obtain rfl := Option.some.inj h1
        exact .inr ⟨j, o1, he, by simp, rfl⟩
      · rename_i hne
        refine .inl ⟨h1, fun p hp => ?_⟩
        rcases List.mem_cons.1 hp with rfl | hp
        · exact fun e => hne e.symm
        · exact h2 p hp
    · exact .inr ⟨j', o', h1, by simp [h2], h3⟩

/-- a call that is known: its function, what it is given, its result, the result's objects, how many numbers it wants -/
structure Known where
  f : Nat
  as : List D
  v : D
  os : List (Nat × Obj)
  m : Nat
/-- is it what the run gives? -/
noncomputable def knownB (k : Known) (r : Res) : Bool := @Option.rec (D × Hp) (fun _ => Bool) false (fun p => Prod.rec (motive := fun _ => Bool) (fun v h => Hp.rec (motive := fun _ => Bool) (fun n t => Bool.rec (motive := fun _ => Bool) false (Bool.rec (motive := fun _ => Bool) false (k.os.all fun p => eqOb (getR t p.1) (some p.2)) (Nat.ble n k.m)) (eqDD v k.v)) h) p) r
theorem knownB_iff {k : Known} {r : Res} (h : knownB k r = true) : ∃ hp, r = some (k.v, hp) ∧ hp.n ≤ k.m ∧ ∀ j o, (j, o) ∈ k.os → hp.t.get j = some o := by
  cases r with
  | none => simp [knownB] at h
  | some p =>
    obtain ⟨v, n, t⟩ := p
    have h : Bool.rec (motive := fun _ => Bool) false (Bool.rec (motive := fun _ => Bool) false (k.os.all fun p => eqOb (getR t p.1) (some p.2)) (Nat.ble n k.m)) (eqDD v k.v) = true := h
    rw [brec_eq, brec_eq] at h
    cases h1 : eqDD v k.v with
    | false => rw [h1] at h; simp at h
    | true =>
      rw [h1, cond_true] at h
      cases h2 : Nat.ble n k.m with
      | false => rw [h2] at h; simp at h
      | true =>
        rw [h2, cond_true] at h
        refine ⟨⟨n, t⟩, by rw [eqDD_eq _ _ h1], Nat.le_of_ble_eq_true h2, fun j o hj => ?_⟩
        have := List.all_eq_true.1 h (j, o) hj
        rw [getR_eq] at this
        exact eqOb_eq this

section
variable {P : Program}
theorem known_ok {k : Known} (hb : bodied P k.f = true) {hp0 : Hp} (hfn : FnOK P [] k.f k.as ⟨0, .e⟩ k.v hp0) (hn : hp0.n ≤ k.m) (ho : ∀ j o, (j, o) ∈ k.os → hp0.t.get j = some o) (hf : ∀ v ∈ k.as, flat v = true) (hp : Hp) : FnOK P [] k.f k.as hp (sh hp.n k.v) ⟨hp.n + k.m, adds hp.n k.os hp.t⟩ := by
  intro w g cargs hr hG hlen hrel
  let g0 : Gh := ⟨fun _ => False, fun _ => 0, fun _ => 0⟩
  have hr0 : HR g0 (Tr.e : Tr Obj).get 0 w := ⟨fun id e f cs h => by simp [Tr.get] at h, fun id es h => by simp [Tr.get] at h, fun id id' o o' h => by simp [Tr.get] at h, fun id o h => by simp [Tr.get] at h, fun id h => h.elim⟩
  refine (hfn w g0 cargs hr0 (by simp) hlen (fun i x cv hx hcv => flat_rel (hf x (List.mem_of_getElem? hx)) (hrel i x cv hx hcv))).mono ?_
  rintro e w' ⟨cv, g1, rfl, r1, f1, v1, -⟩
  let g2 : Gh := ⟨fun id => g.A id ∨ ∃ j, id = hp.n + j ∧ g1.A j, fun id => if id < hp.n then g.ρ id else g1.ρ (id - hp.n), fun id => if id < hp.n then g.κ id else g1.κ (id - hp.n)⟩
  have u : Up g g2 := ⟨fun id h => .inl h, fun id h => if_pos (hr.lt id h), fun id h => if_pos (hr.lt id h)⟩
  have wi : Within hp.n g1 g2 := ⟨fun id h => .inr ⟨id, rfl, h⟩, fun id h => by
    show (if hp.n + id < hp.n then _ else _) = _
    rw [if_neg (by omega), Nat.add_sub_cancel_left], fun id h => by
    show (if hp.n + id < hp.n then _ else _) = _
    rw [if_neg (by omega), Nat.add_sub_cancel_left]⟩
  have blk : ∀ b, b < w.heap.size → w'.heap[b]? = w.heap[b]? := fun b hb => f1.block b hb (fun id o h => by simp [Tr.get] at h)
  have newB : ∀ j o, hp0.t.get j = some o → w.heap.size ≤ g1.ρ j := fun j o h => by
    rcases f1.live j o h with h | ⟨id', o', h, _⟩
    · exact h
    · simp [Tr.get] at h
  -- which object it is
  have cas : ∀ id o, (adds hp.n k.os hp.t).get id = some o → (hp.t.get id = some o ∧ id < hp.n ∧ g.A id) ∨ ∃ j o', id = hp.n + j ∧ hp0.t.get j = some o' ∧ g1.A j ∧ o = shOb hp.n o' := fun id o h => by
    rcases adds_get hp.n k.os hp.t id o h with ⟨h1, _⟩ | ⟨j, o', h1, h2, h3⟩
    · exact .inl ⟨h1, hr.lt id (hr.made id o h1), hr.made id o h1⟩
    · exact .inr ⟨j, o', h1, ho j o' h2, r1.made j o' (ho j o' h2), h3⟩
  refine ⟨cv, g2, rfl, ?_, ?_, v1.sh wi, Nat.le_add_right _ _⟩
  · refine ⟨?_, ?_, ?_, ?_, ?_⟩
    · intro id e f cs h
      rcases cas id _ h with ⟨h1, h2, h3⟩ | ⟨j, o', rfl, h1, h2, h3⟩
      · obtain ⟨arr, fz, b1, b2⟩ := hr.obj id e f cs h1
        refine ⟨arr, fz, ?_, ?_⟩
        · rw [u.ρ id h3, blk _ (hr.block h1)]
          exact b1
        · refine ⟨b2.len, b2.whole, fun hf => ?_, ?_, b2.one, fun j c cv hc hcv => (b2.rel j c cv hc hcv).up u⟩
          · rw [u.κ id h3]; exact b2.part hf
          · rw [u.κ id h3]; exact b2.cold
      · cases o' with
        | map es => simp [shOb] at h3
        | cells e' f' cs' =>
          simp only [shOb, Obj.cells.injEq] at h3
          obtain ⟨rfl, rfl, rfl⟩ := h3
          obtain ⟨arr, fz, b1, b2⟩ := r1.obj j e f cs' h1
          exact ⟨arr, fz, by rw [wi.ρ j h2]; exact b1, b2.sh wi h2⟩
    · intro id es h
      rcases cas id _ h with ⟨h1, h2, h3⟩ | ⟨j, o', rfl, h1, h2, h3⟩
      · obtain ⟨ents, c, b1, b2, b3, b4⟩ := hr.map id es h1
        refine ⟨ents, c, ?_, b2, b3, fun i k v en hi he => ?_⟩
        · rw [u.ρ id h3, blk _ (hr.block h1)]
          exact b1
        · obtain ⟨c1, c2, c3⟩ := b4 i k v en hi he
          exact ⟨c1, c2.up u, c3.up u⟩
      · cases o' with
        | cells => simp [shOb] at h3
        | map es' =>
          simp only [shOb, Obj.map.injEq] at h3
          subst h3
          obtain ⟨ents, c, b1, b2⟩ := r1.map j es' h1
          exact ⟨ents, c, by rw [wi.ρ j h2]; exact b1, b2.sh wi⟩
    · intro id id' o o' h h' hne
      rcases cas id _ h with ⟨h1, h2, h3⟩ | ⟨j, q, rfl, h1, h2, h3⟩
      · rcases cas id' _ h' with ⟨k1, k2, k3⟩ | ⟨j', q', rfl, k1, k2, k3⟩
        · rw [u.ρ id h3, u.ρ id' k3]
          exact hr.apart id id' o o' h1 k1 hne
        · rw [u.ρ id h3, wi.ρ j' k2]
          have := hr.block h1
          have := newB j' q' k1
          omega
      · rcases cas id' _ h' with ⟨k1, k2, k3⟩ | ⟨j', q', rfl, k1, k2, k3⟩
        · rw [u.ρ id' k3, wi.ρ j h2]
          have := hr.block k1
          have := newB j q h1
          omega
        · rw [wi.ρ j h2, wi.ρ j' k2]
          exact r1.apart j j' q q' h1 k1 (fun e => hne (by rw [e]))
    · intro id o h
      rcases cas id _ h with ⟨h1, h2, h3⟩ | ⟨j, q, rfl, h1, h2, h3⟩
      · exact .inl h3
      · exact .inr ⟨j, rfl, h2⟩
    · rintro id (h | ⟨j, rfl, h⟩)
      · have := hr.lt id h
        exact Nat.lt_of_lt_of_le this (Nat.le_add_right _ _)
      · have := r1.lt j h
        show hp.n + j < hp.n + k.m
        omega
  · refine ⟨f1.os, f1.tape, f1.output, f1.size, fun b hb _ => blk b hb, u, ?_, ?_⟩
    · rintro id (h | ⟨j, rfl, h⟩)
      · exact .inl h
      · exact .inr (Nat.le_add_right _ _)
    · intro id o h
      rcases cas id _ h with ⟨h1, h2, h3⟩ | ⟨j, q, rfl, h1, h2, h3⟩
      · exact .inr ⟨id, o, h1, (u.ρ id h3).symm⟩
      · rw [wi.ρ j h2]
        exact .inl (newB j q h1)
end

noncomputable def shK : D → Nat → (D → Res) → Res := @D.rec (fun _ => Nat → (D → Res) → Res) (fun _ => Nat → (List D → Res) → Res) (fun _ k => k .undef) (fun b _ k => k (.bool b)) (fun t m _ k => k (.int t m)) (fun l _ k => k (.str l)) (fun _ k => k .nilp) (fun id off n k => forceNR (Nat.add n id) fun id => k (.ptr id off)) (fun _ k => k .nils) (fun _ k => k .emp) (fun id off len sz cap n k => forceNR (Nat.add n id) fun id => k (.sl id off len sz cap)) (fun _ ih n k => ih n fun l => k (.agg l)) (fun _ ih n k => ih n fun l => k (.tup l)) (fun f _ ih n k => ih n fun l => k (.fn f l)) (fun _ k => k .nilf) (fun _ k => k .nilif) (fun id n k => forceNR (Nat.add n id) fun id => k (.mp id)) (fun _ k => k .nilm) (fun _ k => k []) (fun _ _ a b n k => a n fun v => b n fun l => k (v :: l))
noncomputable def shLK : List D → Nat → (List D → Res) → Res := @D.rec_1 (fun _ => Nat → (D → Res) → Res) (fun _ => Nat → (List D → Res) → Res) (fun _ k => k .undef) (fun b _ k => k (.bool b)) (fun t m _ k => k (.int t m)) (fun l _ k => k (.str l)) (fun _ k => k .nilp) (fun id off n k => forceNR (Nat.add n id) fun id => k (.ptr id off)) (fun _ k => k .nils) (fun _ k => k .emp) (fun id off len sz cap n k => forceNR (Nat.add n id) fun id => k (.sl id off len sz cap)) (fun _ ih n k => ih n fun l => k (.agg l)) (fun _ ih n k => ih n fun l => k (.tup l)) (fun f _ ih n k => ih n fun l => k (.fn f l)) (fun _ k => k .nilf) (fun _ k => k .nilif) (fun id n k => forceNR (Nat.add n id) fun id => k (.mp id)) (fun _ k => k .nilm) (fun _ k => k []) (fun _ _ a b n k => a n fun v => b n fun l => k (v :: l))
mutual
theorem shK_eq : ∀ (v : D) (n : Nat) (k : D → Res), shK v n k = k (sh n v)
  | .undef, _, _ | .bool _, _, _ | .int _ _, _, _ | .str _, _, _ | .nilp, _, _ | .nils, _, _ | .emp, _, _ | .nilf, _, _ | .nilif, _, _ | .nilm, _, _ => rfl
  | .ptr _ _, _, _ => forceNR_eq _ _
  | .sl _ _ _ _ _, _, _ => forceNR_eq _ _
  | .mp _, _, _ => forceNR_eq _ _
  | .agg l, n, k => shLK_eq l n fun l => k (.agg l)
  | .tup l, n, k => shLK_eq l n fun l => k (.tup l)
  | .fn f l, n, k => shLK_eq l n fun l => k (.fn f l)
theorem shLK_eq : ∀ (l : List D) (n : Nat) (k : List D → Res), shLK l n k = k (shs n l)
  | [], _, _ => rfl
  | v :: l, n, k => (shK_eq v n fun v => shLK l n fun l => k (v :: l)).trans (shLK_eq l n fun l => k (sh n v :: l))
end
noncomputable def shObK : Obj → Nat → (Obj → Res) → Res := @Obj.rec (fun _ => Nat → (Obj → Res) → Res) (fun e f cs n k => shLK cs n fun cs => k (.cells e f cs)) (fun es n k => k (shOb n (.map es)))
theorem shObK_eq (o : Obj) (n : Nat) (k : Obj → Res) : shObK o n k = k (shOb n o) := by
  cases o with
  | cells e f cs => exact shLK_eq cs n _
  | map es => rfl
noncomputable def addsK (n : Nat) : List (Nat × Obj) → Tr Obj → (Tr Obj → Res) → Res := @List.rec (Nat × Obj) (fun _ => Tr Obj → (Tr Obj → Res) → Res) (fun t k => k t) (fun p _ ih t k => shObK p.2 n fun o => forceNR (Nat.add n p.1) fun i => setR t i (some o) fun t => ih t k)
theorem addsK_eq (n : Nat) : ∀ (os : List (Nat × Obj)) (t : Tr Obj) (k : Tr Obj → Res), addsK n os t k = k (adds n os t)
  | [], _, _ => rfl
  | p :: os, t, k => by
    show (shObK p.2 n fun o => forceNR (Nat.add n p.1) fun i => setR t i (some o) fun t => addsK n os t k) = _
    rw [shObK_eq, forceNR_eq, setR_eq, addsK_eq n os]
    rfl

def retKn (k : Known) (hp : Hp) : D × Hp := (sh hp.n k.v, ⟨hp.n + k.m, adds hp.n k.os hp.t⟩)
def callKn (T : Tab) (Kn : Nat → List D → Option Known) (L : Nat) : Nat → Sp
  | 0 => fun _ _ _ => none
  | d + 1 => fun f args hp => match Kn f args with
    | some k => some (retKn k hp)
    | none => match T f with
      | some F => callF (callKn T Kn L d) L F args hp
      | none => none
/-- what is known holds -/
def KnOK (P : Program) (k : Known) : Prop := bodied P k.f = true ∧ ∀ hp : Hp, FnOK P [] k.f k.as hp (sh hp.n k.v) ⟨hp.n + k.m, adds hp.n k.os hp.t⟩
theorem callKn_ok {P : Program} {T : Nat → Bool} {Tb : Tab} (hT : ∀ f F, Tb f = some F → chkFn P [] T f F = true) {Kn : Nat → List D → Option Known} (hK : ∀ f args k, Kn f args = some k → k.f = f ∧ k.as = args ∧ KnOK P k) (L : Nat) : ∀ d, SpecOK P [] (callKn Tb Kn L d)
  | 0 => fun f vs hp v hp' h => by simp [callKn] at h
  | d + 1 => fun f vs hp v hp' h => by
    simp only [callKn] at h
    split at h
    · rename_i k hk
      obtain ⟨rfl, rfl, h1, h2⟩ := hK _ _ _ hk
      simp only [retKn, Option.some.injEq, Prod.mk.injEq] at h
      obtain ⟨rfl, rfl⟩ := h
      exact ⟨h1, h2 hp⟩
    · split at h
      · rename_i F hF
        exact callF_ok (callKn_ok hT hK L d) (hT f F hF) h
      · simp at h
noncomputable def callKR (T : Nat → Option KF) (Kn : Nat → List D → Option Known) (d : Nat) : Sp := Nat.rec (motive := fun _ => Sp) (fun _ _ _ => none) (fun _ ih f args hp => Option.rec (motive := fun _ => Res) (Option.rec (motive := fun _ => Res) none (fun F => F.run ih args hp) (T f)) (fun k => Hp.rec (motive := fun _ => Res) (fun n t => shK k.v n fun v => addsK n k.os t fun t => forceNR (Nat.add n k.m) fun m => some (v, ⟨m, t⟩)) hp) (Kn f args)) d
theorem callKR_eq (T : Nat → Option KF) (Kn : Nat → List D → Option Known) : ∀ d, callKR T Kn d = callKn (fun f => (T f).map (·.F)) Kn LL d
  | 0 => rfl
  | d + 1 => by
    funext f args hp
    show Option.rec (motive := fun _ => Res) (Option.rec (motive := fun _ => Res) none (fun F => F.run (callKR T Kn d) args hp) (T f)) (fun k => Hp.rec (motive := fun _ => Res) (fun n t => shK k.v n fun v => addsK n k.os t fun t => forceNR (Nat.add n k.m) fun m => some (v, ⟨m, t⟩)) hp) (Kn f args) = _
    simp only [callKn]
    cases Kn f args with
    | some k =>
      obtain ⟨n, t⟩ := hp
      show (shK k.v n fun v => addsK n k.os t fun t => forceNR (Nat.add n k.m) fun m => some (v, ⟨m, t⟩)) = _
      rw [shK_eq, addsK_eq, forceNR_eq]
      rfl
    | none =>
      cases T f with
      | none => rfl
      | some F => exact (F.ok _ _ _).trans (by rw [callKR_eq T Kn d]; rfl)
/-- a function's known calls -/
noncomputable def findK1 (args : List D) : List Known → Option Known := @List.rec Known (fun _ => Option Known) none (fun k _ ih => Bool.rec (motive := fun _ => Option Known) ih (some k) (eqCR args k.as))
theorem findK1_mem {args : List D} {k : Known} : ∀ {l : List Known}, findK1 args l = some k → k ∈ l ∧ k.as = args
  | [], h => by simp [findK1] at h
  | q :: l, h => by
    have h : Bool.rec (motive := fun _ => Option Known) (findK1 args l) (some q) (eqCR args q.as) = some k := h
    rw [brec_eq] at h
    cases hq : eqCR args q.as with
    | true =>
      rw [hq] at h
      obtain rfl := Option.some.inj h
      exact ⟨by simp, (eqCR_eq _ _ hq).symm⟩
    | false =>
      rw [hq] at h
      obtain ⟨h1, h2⟩ := findK1_mem h
      exact ⟨by simp [h1], h2⟩
noncomputable def knOf (f0 : Nat) (l : List Known) : Nat → List D → Option Known := fun f args => Bool.rec (motive := fun _ => Option Known) none (findK1 args l) (Nat.beq f f0)
def KnAll (P : Program) (f0 : Nat) : List Known → Prop
  | [] => True
  | k :: l => (k.f = f0 ∧ KnOK P k) ∧ KnAll P f0 l
theorem KnAll.mem {P : Program} {f0 : Nat} : ∀ {l : List Known}, KnAll P f0 l → ∀ k ∈ l, k.f = f0 ∧ KnOK P k
  | [], _, k, h => by simp at h
  | q :: l, hl, k, h => by
    rcases List.mem_cons.1 h with rfl | h
    · exact hl.1
    · exact KnAll.mem hl.2 k h
section
variable {P : Program} {T : Nat → Bool}
theorem tsOK {t : BT} (hl : (t.list.all fun p => chkFn P [] T p.1 p.2.F) = true) : ∀ f F, (fun f => (t.find f).map (·.F)) f = some F → chkFn P [] T f F = true := fun f F h => by
  rw [Option.map_eq_some_iff] at h
  obtain ⟨K, hk, rfl⟩ := h
  exact List.all_eq_true.1 hl _ (BT.find_mem hk)
theorem known_of {t : BT} (hl : (t.list.all fun p => chkFn P [] T p.1 p.2.F) = true) {k : Known} {d f0 : Nat} (hr : knownB k (callNR t.find d k.f k.as ⟨0, .e⟩) = true) (hf : k.as.all flat = true) (h0 : k.f = f0) : k.f = f0 ∧ KnOK P k := by
  obtain ⟨hp0, h1, h2, h3⟩ := knownB_iff hr
  rw [callNR_eq] at h1
  obtain ⟨b1, b2⟩ := callN_ok (tsOK hl) LL d _ _ _ _ _ h1
  exact ⟨h0, b1, known_ok b1 b2 h2 h3 (fun v hv => List.all_eq_true.1 hf v hv)⟩
/-- a law without arguments that reads no variable, some of whose calls are known -/
theorem closedKn {t : BT} (hl : (t.list.all fun p => chkFn P [] T p.1 p.2.F) = true) {f0 : Nat} {l : List Known} (hK : KnAll P f0 l) {d f : Nat} (hr : isTrueR (callKR t.find (knOf f0 l) d f [] ⟨0, .e⟩) = true) (w : World) :
    Calls P f #[] w fun e w' => e = .returned (.bool true) ∧ Below w.heap.size w w' := by
  rw [isTrueR_eq, callKR_eq] at hr
  unfold isTrue at hr
  split at hr
  · rename_i hp' he
    have hkn : ∀ f args k, knOf f0 l f args = some k → k.f = f ∧ k.as = args ∧ KnOK P k := fun f args k h => by
      simp only [knOf, brec_eq] at h
      cases hb : Nat.beq f f0 with
      | false => rw [hb] at h; simp at h
      | true =>
        rw [hb, cond_true] at h
        obtain ⟨h1, h2⟩ := findK1_mem h
        obtain ⟨h3, h4⟩ := hK.mem k h1
        exact ⟨h3.trans (Nat.eq_of_beq_eq_true hb).symm, h2, h4⟩
    obtain ⟨-, hfn⟩ := callKn_ok (tsOK hl) hkn LL d _ _ _ _ _ he
    refine (hfn w ⟨fun _ => False, fun _ => 0, fun _ => 0⟩ #[] ?_ (by simp) rfl (by simp)).mono ?_
    · exact ⟨fun id e f cs h => by simp [Tr.get] at h, fun id es h => by simp [Tr.get] at h, fun id id' o o' h => by simp [Tr.get] at h, fun id o h => by simp [Tr.get] at h, fun id h => h.elim⟩
    · rintro e w' ⟨cv, g', rfl, q1, q2, q3, q4⟩
      cases q3
      exact ⟨rfl, q2.os, q2.tape, q2.output, q2.size, fun k hk => q2.block k hk (fun id o h => by simp [Tr.get] at h)⟩
  · simp at hr
end
end Go.DM
