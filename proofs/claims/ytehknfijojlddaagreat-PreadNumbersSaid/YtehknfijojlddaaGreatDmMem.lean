/-
  What turns: new objects, objects that are written, rows that grow in their place.
-/
import Derived.Test.YtehknfijojlddaaGreatDmOpsC
namespace Go.DM
set_option autoImplicit false
set_option linter.unusedSimpArgs false
set_option linter.unusedVariables false

/-- an object as a block -/
def Holds (g : Gh) (id : Nat) : Obj → Go.Obj → Prop
  | .cells e f cs, b => ∃ arr fz, b = .cells arr e fz ∧ ObjOK g id f cs arr fz
  | .map es, b => ∃ ents clock, b = .map ents clock ∧ MapOK g es ents clock

section
variable {g g' : Gh} {cx : Cx} {s : FS} {w w' : World} {a : Act} {P : Program} {at_ : Nat}

theorem Holds.up {id : Nat} {o : Obj} {b : Go.Obj} (h : Holds g id o b) (u : Up g g') (hid : g.A id) : Holds g' id o b := by
  cases o with
  | cells e f cs => obtain ⟨arr, fz, h1, h2⟩ := h; exact ⟨arr, fz, h1, h2.up u hid⟩
  | map es => obtain ⟨en, c, h1, h2⟩ := h; exact ⟨en, c, h1, h2.up u⟩

theorem HR.holds {H : Nat → Option Obj} {n : Nat} (h : HR g H n w) {id : Nat} {o : Obj} (ho : H id = some o) : ∃ b, w.heap[g.ρ id]? = some b ∧ Holds g id o b := by
  cases o with
  | cells e f cs => obtain ⟨arr, fz, h1, h2⟩ := h.obj id e f cs ho; exact ⟨_, h1, arr, fz, rfl, h2⟩
  | map es => obtain ⟨en, c, h1, h2⟩ := h.map id es ho; exact ⟨_, h1, en, c, rfl, h2⟩

theorem HR.of {H : Nat → Option Obj} {n : Nat} (h1 : ∀ id o, H id = some o → ∃ b, w.heap[g.ρ id]? = some b ∧ Holds g id o b)
    (h2 : ∀ id id' o o', H id = some o → H id' = some o' → id ≠ id' → g.ρ id ≠ g.ρ id') (h3 : ∀ id o, H id = some o → g.A id) (h4 : ∀ id, g.A id → id < n) : HR g H n w := by
  refine ⟨?_, ?_, h2, h3, h4⟩
  · intro id e f cs hid
    obtain ⟨b, k1, arr, fz, rfl, k2⟩ := h1 id _ hid
    exact ⟨arr, fz, k1, k2⟩
  · intro id es hid
    obtain ⟨b, k1, en, c, rfl, k2⟩ := h1 id _ hid
    exact ⟨en, c, k1, k2⟩

def Gh.add (g : Gh) (at_ b kap : Nat) : Gh := { A := fun id => g.A id ∨ id = at_, ρ := upd g.ρ at_ b, κ := upd g.κ at_ kap, s := g.s }
theorem Gh.add_up (hf : ¬ g.A at_) (b kap : Nat) : Up g (g.add at_ b kap) := by
  have ne : ∀ id, g.A id → id ≠ at_ := by rintro id h rfl; exact hf h
  exact ⟨fun id h => .inl h, fun id h => by simp [Gh.add, upd, ne id h], fun id h => by simp [Gh.add, upd, ne id h], rfl⟩

/-- a new object in a new block -/
theorem SG.make (h : SG g cx s w a) (hf : ¬ g.A at_) (hlt : at_ < s.n) {b : Go.Obj} (o : Obj) (kap : Nat) (hsz : w'.heap.size = w.heap.size + 1) (hold : ∀ b, b < w.heap.size → w'.heap[b]? = w.heap[b]?)
    (hnew : w'.heap[w.heap.size]? = some b) (hos : w'.os = w.os) (htp : w'.tape = w.tape) (hout : w'.output = w.output) (hok : Holds (g.add at_ w.heap.size kap) at_ o b) :
    SG (g.add at_ w.heap.size kap) cx ⟨s.E, upd s.H at_ (some o), s.n⟩ w' a ∧ FR (fun id => id = at_) g s.H w (g.add at_ w.heap.size kap) (upd s.H at_ (some o)) w' := by
  have u := Gh.add_up hf w.heap.size kap
  have ne : ∀ id, g.A id → id ≠ at_ := by rintro id h rfl; exact hf h
  have rnew : (g.add at_ w.heap.size kap).ρ at_ = w.heap.size := by simp [Gh.add, upd]
  have rold : ∀ id o', s.H id = some o' → id ≠ at_ ∧ (g.add at_ w.heap.size kap).ρ id = g.ρ id ∧ g.ρ id < w.heap.size := fun id o' ho' => by
    have := h.hr.made id o' ho'
    exact ⟨ne id this, u.ρ id this, h.hr.block ho'⟩
  refine ⟨⟨HR.of ?_ ?_ ?_ ?_, h.er.up u, ?_⟩, ⟨hos, htp, hout, by omega, fun b hb _ => hold b hb, u, fun id hid => hid, ?_⟩⟩
  · intro id o' hid
    simp only [upd] at hid
    split at hid
    · rename_i e
      subst e
      cases hid
      exact ⟨b, by rw [rnew]; exact hnew, hok⟩
    · obtain ⟨r1, r2, r3⟩ := rold id o' hid
      obtain ⟨b', k1, k2⟩ := h.hr.holds hid
      exact ⟨b', by rw [r2, hold _ r3]; exact k1, k2.up u (h.hr.made id o' hid)⟩
  · intro id id' o1 o2 h1 h2 hne
    simp only [upd] at h1 h2
    split at h1
    · rename_i e1
      subst e1
      split at h2
      · rename_i e2; exact absurd e2.symm hne
      · obtain ⟨r1, r2, r3⟩ := rold id' o2 h2
        rw [rnew, r2]; omega
    · obtain ⟨r1, r2, r3⟩ := rold id o1 h1
      split at h2
      · rename_i e2; subst e2; rw [rnew, r2]; omega
      · obtain ⟨q1, q2, q3⟩ := rold id' o2 h2
        rw [r2, q2]; exact h.hr.apart id id' o1 o2 h1 h2 hne
  · intro id o' hid
    simp only [upd] at hid
    split at hid
    · rename_i e; exact .inr e
    · exact .inl (h.hr.made id o' hid)
  · rintro id (hid | rfl)
    · exact h.hr.lt id hid
    · exact hlt
  · intro i b' hb
    obtain ⟨k1, k2⟩ := h.gl i b' hb
    exact ⟨.inl k1, (u.ρ i k1).trans k2⟩
  · intro id o' hid
    simp only [upd] at hid
    split at hid
    · rename_i e; subst e; left; rw [rnew]; exact Nat.le_refl _
    · obtain ⟨r1, r2, r3⟩ := rold id o' hid
      exact .inr ⟨id, o', hid, r2.symm⟩

/-- an object is written -/
theorem SG.turn {F : Nat → Prop} (h : SG g cx s w a) {id : Nat} {o : Obj} (ho : s.H id = some o) (o' : Obj) {b : Go.Obj} (hsz : w'.heap.size = w.heap.size) (hold : ∀ b, b ≠ g.ρ id → w'.heap[b]? = w.heap[b]?)
    (hnew : w'.heap[g.ρ id]? = some b) (hos : w'.os = w.os) (htp : w'.tape = w.tape) (hout : w'.output = w.output) (hok : Holds g id o' b) :
    SG g cx ⟨s.E, upd s.H id (some o'), s.n⟩ w' a ∧ FR F g s.H w g (upd s.H id (some o')) w' := by
  have dom : ∀ id' o2, upd s.H id (some o') id' = some o2 → ∃ o3, s.H id' = some o3 := by
    intro id' o2 h1
    simp only [upd] at h1
    split at h1
    · rename_i e; subst e; exact ⟨o, ho⟩
    · exact ⟨o2, h1⟩
  refine ⟨⟨HR.of ?_ ?_ ?_ h.hr.lt, h.er, h.gl⟩, ⟨hos, htp, hout, by omega, fun b hb hb' => hold b (fun e => hb' id o ho e.symm), Up.refl _, fun id hid => .inl hid, ?_⟩⟩
  · intro id' o2 h1
    have h1' := h1
    simp only [upd] at h1
    split at h1
    · rename_i e; subst e; cases h1; exact ⟨b, hnew, hok⟩
    · rename_i e
      obtain ⟨b', k1, k2⟩ := h.hr.holds h1
      exact ⟨b', by rw [hold _ (h.hr.apart id' id o2 o h1 ho e)]; exact k1, k2⟩
  · intro i j o1 o2 h1 h2 hne
    obtain ⟨p1, q1⟩ := dom i o1 h1
    obtain ⟨p2, q2⟩ := dom j o2 h2
    exact h.hr.apart i j p1 p2 q1 q2 hne
  · intro i o1 h1
    obtain ⟨p1, q1⟩ := dom i o1 h1
    exact h.hr.made i p1 q1
  · intro i o1 h1
    obtain ⟨p1, q1⟩ := dom i o1 h1
    exact .inr ⟨i, p1, q1, rfl⟩

/-- an object is written and goes on under a new number -/
theorem SG.move (h : SG g cx s w a) (hf : ¬ g.A at_) (hlt : at_ < s.n) {id : Nat} {o : Obj} (ho : s.H id = some o) (o' : Obj) {b : Go.Obj} (hsz : w'.heap.size = w.heap.size) (hold : ∀ b, b ≠ g.ρ id → w'.heap[b]? = w.heap[b]?)
    (hnew : w'.heap[g.ρ id]? = some b) (hos : w'.os = w.os) (htp : w'.tape = w.tape) (hout : w'.output = w.output) (hok : Holds (g.add at_ (g.ρ id) (g.κ id)) at_ o' b) :
    SG (g.add at_ (g.ρ id) (g.κ id)) cx ⟨s.E, upd (upd s.H id none) at_ (some o'), s.n⟩ w' a ∧ FR (fun id => id = at_) g s.H w (g.add at_ (g.ρ id) (g.κ id)) (upd (upd s.H id none) at_ (some o')) w' := by
  have u := Gh.add_up hf (g.ρ id) (g.κ id)
  have ne : ∀ id, g.A id → id ≠ at_ := by rintro id h rfl; exact hf h
  have rnew : (g.add at_ (g.ρ id) (g.κ id)).ρ at_ = g.ρ id := by simp [Gh.add, upd]
  have look : ∀ i o2, upd (upd s.H id none) at_ (some o') i = some o2 → (i = at_ ∧ o2 = o') ∨ (i ≠ at_ ∧ i ≠ id ∧ s.H i = some o2 ∧ (g.add at_ (g.ρ id) (g.κ id)).ρ i = g.ρ i) := by
    intro i o2 h1
    simp only [upd] at h1
    split at h1
    · rename_i e; cases h1; exact .inl ⟨e, rfl⟩
    · rename_i e
      split at h1
      · simp at h1
      · rename_i e2
        exact .inr ⟨e, e2, h1, u.ρ i (h.hr.made i o2 h1)⟩
  refine ⟨⟨HR.of ?_ ?_ ?_ ?_, h.er.up u, ?_⟩, ⟨hos, htp, hout, by omega, fun b hb hb' => hold b (fun e => hb' id o ho e.symm), u, fun id hid => hid, ?_⟩⟩
  · intro i o2 h1
    rcases look i o2 h1 with ⟨rfl, rfl⟩ | ⟨e1, e2, e3, e4⟩
    · exact ⟨b, by rw [rnew]; exact hnew, hok⟩
    · obtain ⟨b', k1, k2⟩ := h.hr.holds e3
      exact ⟨b', by rw [e4, hold _ (h.hr.apart i id o2 o e3 ho e2)]; exact k1, k2.up u (h.hr.made i o2 e3)⟩
  · intro i j o1 o2 h1 h2 hne
    rcases look i o1 h1 with ⟨rfl, rfl⟩ | ⟨e1, e2, e3, e4⟩ <;> rcases look j o2 h2 with ⟨rfl, rfl⟩ | ⟨q1, q2, q3, q4⟩
    · exact absurd rfl hne
    · rw [rnew, q4]; exact h.hr.apart id j o o2 ho q3 (Ne.symm q2)
    · rw [rnew, e4]; exact h.hr.apart i id o1 o e3 ho e2
    · rw [e4, q4]; exact h.hr.apart i j o1 o2 e3 q3 hne
  · intro i o1 h1
    rcases look i o1 h1 with ⟨rfl, rfl⟩ | ⟨e1, e2, e3, e4⟩
    · exact .inr rfl
    · exact .inl (h.hr.made i o1 e3)
  · rintro i (hid | rfl)
    · exact h.hr.lt i hid
    · exact hlt
  · intro i b' hb
    obtain ⟨k1, k2⟩ := h.gl i b' hb
    exact ⟨.inl k1, (u.ρ i k1).trans k2⟩
  · intro i o1 h1
    rcases look i o1 h1 with ⟨rfl, rfl⟩ | ⟨e1, e2, e3, e4⟩
    · exact .inr ⟨id, o, ho, rnew.symm⟩
    · exact .inr ⟨i, o1, e3, e4.symm⟩

theorem alloc_facts (w : World) (o : Go.Obj) : (w.alloc o).heap.size = w.heap.size + 1 ∧ (∀ b, b < w.heap.size → (w.alloc o).heap[b]? = w.heap[b]?) ∧ (w.alloc o).heap[w.heap.size]? = some o := by
  refine ⟨by simp, ?_, ?_⟩
  · intro b hb
    show (w.heap.push o)[b]? = _
    rw [Array.getElem?_push, if_neg (by omega)]
  · show (w.heap.push o)[w.heap.size]? = _
    simp

theorem setCells_heap (b : Nat) : ∀ (vs : List Value) (o : Nat) (w : World) (arr : Array Value) (e : TypeId) (fz : Nat × Nat), w.heap[b]? = some (.cells arr e fz) →
    (∃ arr', (w.setCells b o vs).heap[b]? = some (.cells arr' e fz) ∧ arr'.size = arr.size) ∧ (∀ b', b' ≠ b → (w.setCells b o vs).heap[b']? = w.heap[b']?) ∧
      (w.setCells b o vs).heap.size = w.heap.size ∧ (w.setCells b o vs).os = w.os ∧ (w.setCells b o vs).tape = w.tape ∧ (w.setCells b o vs).output = w.output
  | [], o, w, arr, e, fz, h => ⟨⟨arr, h, rfl⟩, fun _ _ => rfl, rfl, rfl, rfl, rfl⟩
  | v :: vs, o, w, arr, e, fz, h => by
    have h1 : (w.setCell ⟨b, o, none⟩ v).heap[b]? = some (.cells (arr.setIfInBounds o v) e fz) := by
      simp [World.setCell, Array.getElem?_modify, h]
    obtain ⟨⟨arr', k1, k2⟩, k3, k4, k5, k6, k7⟩ := setCells_heap b vs (o + 1) (w.setCell ⟨b, o, none⟩ v) _ e fz h1
    refine ⟨⟨arr', k1, by simpa using k2⟩, fun b' hb => ?_, k4.trans (by simp [World.setCell]), k5, k6, k7⟩
    rw [show (w.setCells b o (v :: vs)) = (w.setCell ⟨b, o, none⟩ v).setCells b (o + 1) vs from rfl, k3 b' hb]
    simp only [World.setCell, Array.getElem?_modify]
    rw [if_neg (by simpa using Ne.symm hb)]

theorem over_get {α : Type} (l news : List α) (o : Nat) (hle : o + news.length ≤ l.length) (j : Nat) :
    (l.take o ++ news ++ l.drop (o + news.length))[j]? = if o ≤ j ∧ j < o + news.length then news[j - o]? else l[j]? := by
  have ht : (l.take o).length = o := by simp; omega
  split
  · rename_i hj
    rw [List.append_assoc, List.getElem?_append_right (by omega), ht, List.getElem?_append_left (by omega)]
  · rename_i hj
    rcases Nat.lt_or_ge j o with h' | h'
    · rw [List.append_assoc, List.getElem?_append_left (by omega), List.getElem?_take, if_pos h']
    · rw [List.getElem?_append_right (by simp; omega), List.getElem?_drop]
      congr 1
      simp
      omega

/-- what a row's block is, where cells were laid over it -/
theorem setCells_row {b : Nat} {arr : Array Value} {e : TypeId} {fz : Nat × Nat} (h : w.heap[b]? = some (.cells arr e fz)) (o : Nat) (vs : List Value) (hle : o + vs.length ≤ arr.size) :
    ∃ arr', (w.setCells b o vs).heap[b]? = some (.cells arr' e fz) ∧ arr'.size = arr.size ∧ ∀ j, arr'[j]? = if o ≤ j ∧ j < o + vs.length then vs[j - o]? else arr[j]? := by
  obtain ⟨⟨arr', k1, k2⟩, _⟩ := setCells_heap b vs o w arr e fz h
  refine ⟨arr', k1, k2, fun j => ?_⟩
  rw [← cell_of_heap k1 j]
  split
  · rename_i hj
    have := World.cell?_setCells_in b vs o w (fun j' hj' => by rw [cell_of_heap h, Array.getElem?_eq_getElem (by omega)]; rfl) (j - o) (by omega)
    rw [show o + (j - o) = j by omega] at this
    rw [this, List.getElem?_eq_getElem (by omega)]
  · rename_i hj
    rw [← cell_of_heap h j]
    refine World.cell?_setCells_out b vs o w _ ?_
    intro _ _
    show j < o ∨ o + vs.length ≤ j
    omega
end
end Go.DM
