/-
  What may turn and what is kept: rows that are owned, new rows, stores.
-/
import Derived.Test.YtifmekddikapeaaAmOpsC
namespace Go.AM
set_option autoImplicit false
set_option linter.unusedSimpArgs false
set_option linter.unusedVariables false

section
variable {w w' : World} {g g' : Gh} {s s' : St} {a : Act} {P : Program}

theorem enc_bare (k : EK) (x : Ty k) : ∀ c ∈ enc k x, c.bare = true := by
  cases k <;> simp [enc, V.bare]

/-- nothing owned at this place any more -/
def Bared (p : Option Occ) (s : St) : Prop :=
  match p with
  | some (.slot n) => ∀ v, s.env[n]? = some v → v.bare = true
  | some (.cell id j) => ∀ cs v, s.hp[id]? = some (some cs) → cs[j]? = some v → v.bare = true
  | _ => True

theorem SR.keep (h : SR g s w a) (p : Option Occ) (hp : Bared p s) (hβ : g'.β = g.β) (u : Up g.I g.ρ s.hp.length w g'.I g'.ρ s.hp.length w')
    (hk : ∀ occ b, g.O b = some occ → p ≠ some occ → g'.O b = some occ ∧ w'.heap[b]? = w.heap[b]? ∧ ∀ j, g'.I b j → g.I b j)
    (ho : ∀ (id : Nat) cs, s.hp[id]? = some (some cs) → w'.heap[g.ρ id]? = w.heap[g.ρ id]? ∧ g'.O (g.ρ id) = none ∧ ∀ j, g'.I (g.ρ id) j → g.I (g.ρ id) j)
    (hex : ∀ b j, g'.I b j → (w'.cell? ⟨b, j, none⟩).isSome = true) (hlt : ∀ b o, g'.O b = some o → b < w'.heap.size) : SR g' s w' a := by
  have own : ∀ occ v cv, OwnOK g w occ v cv → (p = some occ → v.bare = true) → OwnOK g' w' occ v cv := by
    intro occ v cv h1 h2
    by_cases e : p = some occ
    · exact bare_own (h2 e) _ _ _ _
    · exact own_keep h1 hβ (fun b j hi => ⟨u.mono b j hi, u.cell b j hi⟩) (fun b hb => hk occ b hb e)
  have lt : ∀ (id : Nat) cs, s.hp[id]? = some (some cs) → id < s.hp.length := fun id cs hid => (List.getElem?_eq_some_iff.1 hid).1
  refine ⟨⟨?_, ?_, ?_, ?_, hex, hlt⟩, ⟨h.er.size, ?_, ?_⟩⟩
  · intro id cs hid
    obtain ⟨arr, e, fz, h1, h2⟩ := h.hr.obj id cs hid
    refine ⟨arr, e, fz, ?_, h2.len, h2.plain, h2.typedUp hβ u.rho u.num rfl, h2.cold, h2.one, fun j c cv hc hcv => (h2.rel j c cv hc hcv).up u, fun j c cv hc hcv => ?_, by rw [u.rho id (lt id cs hid)]; exact h2.bn⟩
    · rw [u.rho id (lt id cs hid), (ho id cs hid).1]; exact h1
    · refine own _ _ _ (h2.own j c cv hc hcv) ?_
      rintro rfl
      cases hr : isRow cs with
      | false => rw [cellsOf_eq hr] at hc; exact hp cs c hid hc
      | true =>
        unfold isRow at hr
        split at hr
        · simp only [cellsOf, List.getElem?_map, Option.map_eq_some_iff] at hc
          obtain ⟨_, _, rfl⟩ := hc
          rfl
        · rename_i k xs
          have hm := List.mem_of_getElem? hc
          simp only [cellsOf, List.mem_flatMap] at hm
          obtain ⟨x, _, hx⟩ := hm
          exact enc_bare k x c hx
        · cases hr
  · intro id id' cs cs' h1 h2 hne
    rw [u.rho id (lt id cs h1), u.rho id' (lt id' cs' h2)]
    exact h.hr.apart id id' cs cs' h1 h2 hne
  · intro id cs hid j hi
    rw [u.rho id (lt id cs hid)] at hi
    exact h.hr.notI id cs hid j ((ho id cs hid).2.2 j hi)
  · intro id cs hid
    rw [u.rho id (lt id cs hid)]
    exact (ho id cs hid).2.1
  · intro n v cv hv hcv
    exact (h.er.rel n v cv hv hcv).up u
  · intro n v cv hv hcv
    refine own _ _ _ (h.er.own n v cv hv hcv) ?_
    rintro rfl
    exact hp v hv

/-- a slot is made to own nothing -/
theorem SR.bare (h : SR g s w a) (n : Nat) : SR g (s.set n (disown (s.get n))) w a := by
  refine ⟨h.hr, ⟨by simp [St.set, h.er.size], ?_, ?_⟩⟩
  · intro m v cv hv hcv
    simp only [St.set, List.getElem?_set] at hv
    by_cases e : n = m
    · subst e
      simp only [if_true] at hv
      split at hv
      · cases Option.some.inj hv
        rename_i hlt
        have : s.env[n]? = some (s.get n) := by simp [St.get, List.getD, List.getElem?_eq_getElem hlt]
        exact (h.er.rel n _ cv this hcv).disown
      · simp at hv
    · simp only [e, if_false] at hv
      exact h.er.rel m v cv hv hcv
  · intro m v cv hv hcv
    simp only [St.set, List.getElem?_set] at hv
    by_cases e : n = m
    · subst e
      simp only [if_true] at hv
      split at hv
      · cases Option.some.inj hv
        exact OwnOK.disown _ _ _ _ _
      · simp at hv
    · simp only [e, if_false] at hv
      exact h.er.own m v cv hv hcv

theorem SR.after (h : SR g s w a) (x : ASrc) : SR g (x.after s) w a := by
  cases x with
  | tk n => exact h.bare n
  | _ => exact h

theorem after_hp (x : ASrc) (s : St) : (x.after s).hp = s.hp := by cases x <;> rfl

theorem after_bared (n : Nat) (s : St) : Bared (some (.slot n)) ((ASrc.tk n).after s) := by
  intro v hv
  simp only [ASrc.after, St.set, List.getElem?_set, if_true] at hv
  split at hv
  · cases Option.some.inj hv
    exact disown_bare _
  · simp at hv

/-- who owns a row, anew -/
def Gh.reown (g : Gh) (b : Nat) (o : Occ) : Gh := { g with O := fun b' => if b' = b then some o else g.O b' }

theorem SR.reown (h : SR g s w a) {p q : Occ} (hp : Bared (some p) s) {b : Nat} (hb : g.O b = some p) : SR (g.reown b q) s w a := by
  refine h.keep (some p) hp rfl (Up.refl _ _ _ _) ?_ ?_ h.hr.exI ?_
  · intro occ b' hb' hne
    have : b' ≠ b := by
      rintro rfl
      rw [hb] at hb'
      exact hne hb'
    exact ⟨by simp [Gh.reown, this, hb'], rfl, fun j hj => hj⟩
  · intro id cs hid
    refine ⟨rfl, ?_, fun j hj => hj⟩
    have h0 := h.hr.notO id cs hid
    have : g.ρ id ≠ b := by
      rintro e
      rw [e, hb] at h0
      simp at h0
    simp [Gh.reown, this, h0]
  · intro b' o hb'
    simp only [Gh.reown] at hb'
    split at hb'
    · rename_i e
      subst e
      exact h.hr.oLt _ _ hb
    · exact h.hr.oLt _ _ hb'

theorem FR.reown {hp : List AObj} {p q : Occ} {b : Nat} (hb : g.O b = some p) : FR g hp w (g.reown b q) hp w := by
  refine ⟨rfl, rfl, rfl, rfl, Nat.le_refl _, fun _ _ _ _ => rfl, Up.refl _ _ _ _, fun _ _ _ _ _ hi => hi, ?_, fun _ cs h => .inl ⟨cs, h⟩⟩
  intro b' _ _ hO
  have : b' ≠ b := by
    rintro rfl
    rw [hb] at hO
    simp at hO
  simp [Gh.reown, this, hO]

/-- where a taken value's row lies, it is handed on -/
theorem take_own {p q : Occ} {v : V} {cv : Value} (h : SR g s w a) (hp : Bared (some p) s) (ho : OwnOK g w p v cv) :
    ∃ g₁, SR g₁ s w a ∧ FR g s.hp w g₁ s.hp w ∧ g₁.I = g.I ∧ g₁.ρ = g.ρ ∧ OwnOK g₁ w q v cv := by
  cases v with
  | sl k o xs =>
    cases o with
    | may u => exact ⟨g, h, FR.refl _ _ _, rfl, rfl, by simp [OwnOK]⟩
    | own =>
      cases cv with
      | slice ad len cap =>
        cases ad with
        | none => exact ⟨g, h, FR.refl _ _ _, rfl, rfl, by simp [OwnOK]⟩
        | some ad =>
          obtain ⟨h1, h2, h3⟩ := ho
          exact ⟨g.reown ad.block q, h.reown hp h1, FR.reown h1, rfl, rfl, by simp [Gh.reown], h2, h3⟩
      | _ => exact ⟨g, h, FR.refl _ _ _, rfl, rfl, by simp [OwnOK]⟩
  | raw n =>
    cases cv with
    | pointer ad =>
      cases ad with
      | none => exact ⟨g, h, FR.refl _ _ _, rfl, rfl, by simp [OwnOK]⟩
      | some ad =>
        obtain ⟨h1, h2, h3⟩ := ho
        exact ⟨g.reown ad.block q, h.reown hp h1, FR.reown h1, rfl, rfl, by simp [Gh.reown], h2, h3⟩
    | _ => exact ⟨g, h, FR.refl _ _ _, rfl, rfl, by simp [OwnOK]⟩
  | ul k xs =>
    rcases ho with ho | ⟨b, cap, arr, e, fz, h0, h1, h2, h3, h4, h5⟩
    · exact ⟨g, h, FR.refl _ _ _, rfl, rfl, .inl ho⟩
    · exact ⟨g.reown b q, h.reown hp h4, FR.reown h4, rfl, rfl, .inr ⟨b, cap, arr, e, fz, h0, h1, h2, h3, by simp [Gh.reown], h5⟩⟩
  | _ => exact ⟨g, h, FR.refl _ _ _, rfl, rfl, by simp [OwnOK]⟩

/-- a new row, all of whose values are laid for good, and whose tail the slot owns -/
theorem SR.newRow (h : SR g s w a) (k : EK) (xs : List (Ty k)) (cap d : Nat) (arr : Array Value) (e : TypeId) (fz : Nat × Nat)
    (hsz : w'.heap.size = w.heap.size + 1) (hold : ∀ b, b < w.heap.size → w'.heap[b]? = w.heap[b]?) (hnew : w'.heap[w.heap.size]? = some (.cells arr e fz))
    (hos : w'.os = w.os) (htp : w'.tape = w.tape) (hout : w'.output = w.output)
    {o : Fl} (hfo : o = .may true → xs.length = cap) (hle : xs.length ≤ cap) (hm : cap ≤ maxI) (hroom : cap * k.sz ≤ arr.size) (heβ : k = .u8 → e = g.β)
    (hfz : ∀ j, xs.length * k.sz ≤ j → j < cap * k.sz → ¬ (fz.1 ≤ j ∧ j < fz.2))
    (hv : ∀ (i : Nat) x j v, xs[i]? = some x → (enc k x)[j]? = some v → ∃ cv, arr[i * k.sz + j]? = some cv ∧ VRel g.I g.ρ s.hp.length w v cv) :
    ∃ g', SR g' (s.set d (.sl k o xs)) w' (a.put (some d) (.slice (some ⟨w.heap.size, 0, none⟩) xs.length cap)) ∧ FR g s.hp w g' s.hp w' := by
  let g' : Gh := { I := fun b j => g.I b j ∨ (b = w.heap.size ∧ j < xs.length * k.sz), ρ := g.ρ, O := fun b => if b = w.heap.size then some (.slot d) else g.O b, β := g.β }
  have ilt : ∀ b j, g.I b j → b < w.heap.size := by
    intro b j hi
    obtain ⟨v, hv⟩ := Option.isSome_iff_exists.1 (h.hr.exI b j hi)
    exact World.block_lt_of_cell? _ _ hv
  have cello : ∀ b j, b < w.heap.size → w'.cell? ⟨b, j, none⟩ = w.cell? ⟨b, j, none⟩ := by
    intro b j hb
    simp [World.cell?, hold b hb]
  have u : Up g.I g.ρ s.hp.length w g'.I g'.ρ s.hp.length w' := ⟨fun b j hi => .inl hi, fun b j hi => cello b j (ilt b j hi), fun _ _ => rfl, Nat.le_refl _⟩
  have hcell : ∀ j, w'.cell? ⟨w.heap.size, j, none⟩ = arr[j]? := fun j => cell_of_heap hnew j
  have hlen : xs.length * k.sz ≤ arr.size := Nat.le_trans (Nat.mul_le_mul_right _ hle) hroom
  have hs : SR g' s w' a := by
    refine h.keep none trivial rfl u ?_ ?_ ?_ ?_
    · intro occ b hb _
      have hlt := h.hr.oLt b occ hb
      refine ⟨by simp [g', Nat.ne_of_lt hlt, hb], hold b hlt, ?_⟩
      rintro j (hj | ⟨hj, _⟩)
      · exact hj
      · omega
    · intro id cs hid
      obtain ⟨arr', e', fz, h1, h2⟩ := h.hr.obj id cs hid
      have hlt : g.ρ id < w.heap.size := by
        rcases Nat.lt_or_ge (g.ρ id) w.heap.size with hl | hl
        · exact hl
        · simp [Array.getElem?_eq_none hl] at h1
      refine ⟨hold _ hlt, by simp [g', Nat.ne_of_lt hlt, h.hr.notO id cs hid], ?_⟩
      rintro j (hj | ⟨hj, _⟩)
      · exact hj
      · omega
    · rintro b j (hj | ⟨rfl, hj⟩)
      · rw [cello b j (ilt b j hj)]; exact h.hr.exI b j hj
      · rw [hcell, Array.getElem?_eq_getElem (by omega)]; rfl
    · intro b o hb
      simp only [g'] at hb
      split at hb
      · omega
      · have := h.hr.oLt b o hb; omega
  have hnth : ∀ (i : Nat) x, xs[i]? = some x → i < xs.length := fun i x hx => (List.getElem?_eq_some_iff.1 hx).1
  have hmul : ∀ (i j : Nat), i < xs.length → j < k.sz → i * k.sz + j < xs.length * k.sz := by
    intro i j hi hj
    calc i * k.sz + j < i * k.sz + k.sz := by omega
      _ = (i + 1) * k.sz := by rw [Nat.add_mul, Nat.one_mul]
      _ ≤ xs.length * k.sz := Nat.mul_le_mul_right _ hi
  refine ⟨g', hs.set d ?_ ?_, ⟨rfl, hos, htp, hout, by omega, fun b hb _ _ => hold b hb, u, ?_, ?_, fun _ cs h => .inl ⟨cs, h⟩⟩⟩
  · refine .sl k o xs _ _ _ _ rfl hle hm hfo (fun i j => arr[i * k.sz + j]?.getD undef) ?_ ?_ ?_
    · intro i x j hx hj
      rw [enc_length] at hj
      exact .inr ⟨rfl, by have := hmul i j (hnth i x hx) hj; omega⟩
    · intro i x j hx hj
      obtain ⟨cv, h1, _⟩ := hv i x j _ hx (List.getElem?_eq_getElem hj)
      rw [Nat.zero_add, hcell, h1]
      rfl
    · intro i x j v hx hj
      obtain ⟨cv, h1, h2⟩ := hv i x j v hx hj
      rw [h1]
      exact h2.up u
  · cases o with
    | may u => simp [OwnOK]
    | own =>
    refine ⟨by simp [g'], ⟨arr, e, fz, hnew, by simpa using hroom, heβ⟩, ?_⟩
    intro j h1 h2
    simp only [Nat.zero_add] at h1 h2
    refine ⟨?_, ?_⟩
    · rintro (hi | ⟨_, hi⟩)
      · exact absurd (ilt _ _ hi) (by simp)
      · omega
    · have := hfz j h1 h2
      simp only [World.frozen?, hnew]
      simpa using this
  · rintro b j hb _ _ (hj | ⟨hj, _⟩)
    · exact hj
    · omega
  · intro b hb _ hO
    simp [g', Nat.ne_of_lt hb, hO]
end
end Go.AM
