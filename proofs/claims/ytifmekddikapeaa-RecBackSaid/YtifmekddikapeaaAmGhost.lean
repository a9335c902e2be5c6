/-
  What the machine does by itself: a list that its place alone owns becomes a row, is taken back, is laid for good.
-/
import Derived.Test.YtifmekddikapeaaAmOpsJ
namespace Go.AM
set_option autoImplicit false
set_option linter.unusedSimpArgs false
set_option linter.unusedVariables false

section
variable {w : World} {g g' : Gh} {s s' : St} {a : Act}

theorem SR.fillSlot (h : SR g s w a) (n : Nat) {v : V} (hv : VRel g.I g.ρ s.hp.length w v (a.tmps.getD n undef)) (ho : OwnOK g w (.slot n) v (a.tmps.getD n undef)) : SR g (s.set n v) w a :=
  ⟨h.hr, h.er.put' n hv ho⟩

/-- an object's cell, told anew -/
theorem SR.fillCell (h : SR g s w a) {id o : Nat} {cs : List V} (ho : s.obj id = some cs) (hlo : o < cs.length) {arr : Array Value} {e : TypeId} (hb : w.heap[g.ρ id]? = some (.cells arr e (0, 0))) {v : V} {cv : Value}
    (hcv : arr[o]? = some cv) (h1 : v.one = true) (hnb : noBn v = true) (hv : VRel g.I g.ρ s.hp.length w v cv) (hown : OwnOK g w (.cell id o) v cv) :
    SR g (s.setObj id (cs.set o v)) w a ∧ FR g s.hp w g (s.hp.set id (some (cs.set o v))) w := by
  obtain ⟨hid, hrow⟩ := mem_obj ho
  have hlt : id < s.hp.length := (List.getElem?_eq_some_iff.1 hid).1
  let cs' := cs.set o v
  have split : ∀ (id' : Nat) o', (s.hp.set id (some cs'))[id']? = some (some o') → (id' = id ∧ o' = cs') ∨ (id' ≠ id ∧ s.hp[id']? = some (some o')) := by
    intro id' o' hq
    rw [List.getElem?_set] at hq
    split at hq
    · rename_i e
      simp [hlt] at hq
      exact .inl ⟨e.symm, hq.symm⟩
    · rename_i e
      exact .inr ⟨fun e' => e e'.symm, hq⟩
  have old : ∀ (id' : Nat) o', (s.hp.set id (some cs'))[id']? = some (some o') → ∃ o'', s.hp[id']? = some (some o'') := by
    intro id' o' hq
    rcases split id' o' hq with ⟨rfl, _⟩ | ⟨_, hq⟩
    · exact ⟨cs, hid⟩
    · exact ⟨_, hq⟩
  have hget : ∀ (j : Nat) c, cs'[j]? = some c → (j = o ∧ c = v) ∨ (j ≠ o ∧ cs[j]? = some c) := by
    intro j c hc
    simp only [cs', List.getElem?_set] at hc
    split at hc
    · rename_i e
      simp only [hlo, if_true, Option.some.injEq] at hc
      exact .inl ⟨e.symm, hc.symm⟩
    · rename_i e
      exact .inr ⟨fun e' => e e'.symm, hc⟩
  refine ⟨⟨⟨?_, ?_, ?_, ?_, h.hr.exI, h.hr.oLt⟩, ⟨h.er.size, ?_, h.er.own⟩⟩, ⟨rfl, rfl, rfl, rfl, Nat.le_refl _, fun _ _ _ _ => rfl, ?_, fun _ _ _ _ _ hi => hi, fun _ _ _ hO => hO, ?_⟩⟩
  · intro id' o' hq
    simp only [St.setObj, List.length_set]
    rcases split id' o' hq with ⟨rfl, rfl⟩ | ⟨hne, hq⟩
    · obtain ⟨arr2, e2, hb2, hok⟩ := obj_row h.hr ho
      rw [hb] at hb2
      cases hb2
      refine ⟨arr, e, (0, 0), hb, ObjOK0.high ⟨by simp [cs', hok.len], ?_, ?_, ?_, ?_⟩⟩
      · intro c hc
        obtain ⟨j, hj, rfl⟩ := List.mem_iff_getElem.1 hc
        rcases hget j _ (List.getElem?_eq_getElem hj) with ⟨_, k2⟩ | ⟨_, k2⟩
        · rw [k2]; exact h1
        · exact hok.one _ (List.mem_of_getElem? k2)
      · intro j c cv' hc hcv'
        rcases hget j _ hc with ⟨rfl, rfl⟩ | ⟨_, k2⟩
        · rw [hcv] at hcv'
          obtain rfl := Option.some.inj hcv'
          exact hv
        · exact hok.rel j c cv' k2 hcv'
      · intro j c cv' hc hcv'
        rcases hget j _ hc with ⟨rfl, rfl⟩ | ⟨_, k2⟩
        · rw [hcv] at hcv'
          obtain rfl := Option.some.inj hcv'
          exact hown
        · exact hok.own j c cv' k2 hcv'
      · intro j E n hc
        rcases hget j _ hc with ⟨rfl, k2⟩ | ⟨_, k2⟩
        · rw [← k2] at hnb
          simp [noBn] at hnb
        · exact hok.bn j E n k2
    · exact h.hr.obj id' o' hq
  · intro id1 id2 c1 c2 k1 k2 hne
    obtain ⟨_, k1⟩ := old id1 c1 k1
    obtain ⟨_, k2⟩ := old id2 c2 k2
    exact h.hr.apart _ _ _ _ k1 k2 hne
  · intro id1 c1 k1
    obtain ⟨_, k1⟩ := old id1 c1 k1
    exact h.hr.notI _ _ k1
  · intro id1 c1 k1
    obtain ⟨_, k1⟩ := old id1 c1 k1
    exact h.hr.notO _ _ k1
  · intro n v cv hq hcv
    simp only [St.setObj, List.length_set]
    exact h.er.rel n v cv hq hcv
  · simp only [List.length_set]
    exact Up.refl _ _ _ _
  · intro id' o' hq
    obtain ⟨o'', hq⟩ := old id' o' hq
    exact .inl ⟨o'', hq⟩

/-- what lies at a place, in the world -/
def Lies (g : Gh) (s : St) (w : World) (a : Act) (o : Occ) (cv : Value) : Prop :=
  match o with
  | .slot n => a.tmps.getD n undef = cv
  | .cell id j => ∃ cs arr e, s.obj id = some cs ∧ j < cs.length ∧ w.heap[g.ρ id]? = some (.cells arr e (0, 0)) ∧ arr[j]? = some cv
  | .res => False

theorem at_lies (h : SR g s w a) {o : Occ} {v : V} (hat : s.at? o = v) (hne : v ≠ .undef) : ∃ cv, Lies g s w a o cv ∧ VRel g.I g.ρ s.hp.length w v cv ∧ OwnOK g w o v cv := by
  cases o with
  | slot n =>
    simp only [St.at?] at hat
    subst hat
    exact ⟨_, rfl, h.er.get n, h.er.getOwn n⟩
  | cell id j =>
    simp only [St.at?] at hat
    cases ho : s.obj id with
    | none => rw [ho] at hat; exact absurd hat.symm hne
    | some cs =>
      rw [ho] at hat
      simp only at hat
      obtain ⟨arr, e, hb, hok⟩ := obj_row h.hr ho
      have hj : j < cs.length := by
        rcases Nat.lt_or_ge j cs.length with hj | hj
        · exact hj
        · rw [List.getD, List.getElem?_eq_none hj] at hat
          exact absurd hat.symm hne
      have hc : cs[j]? = some v := by
        rw [← hat, List.getD, List.getElem?_eq_getElem hj]
        rfl
      have hlen := hok.len
      have ha : arr[j]? = some (arr[j]'(by omega)) := Array.getElem?_eq_getElem _
      exact ⟨_, ⟨cs, arr, e, ho, hj, hb, ha⟩, hok.rel j v _ hc ha, hok.own j v _ hc ha⟩
  | res =>
    simp only [St.at?] at hat
    exact absurd hat.symm hne

/-- a place, told anew -/
theorem SR.fill (h : SR g s w a) {o : Occ} {cv : Value} (hl : Lies g s w a o cv) {v : V} (h1 : v.one = true) (hnb : noBn v = true) (hv : VRel g.I g.ρ s.hp.length w v cv) (hown : OwnOK g w o v cv) :
    SR g (s.put? o v) w a ∧ FR g s.hp w g (s.put? o v).hp w ∧ (s.put? o v).hp.length = s.hp.length ∧ Lies g (s.put? o v) w a o cv := by
  cases o with
  | slot n =>
    simp only [Lies] at hl
    subst hl
    exact ⟨h.fillSlot n hv hown, FR.refl _ _ _, rfl, rfl⟩
  | cell id j =>
    obtain ⟨cs, arr, e, ho, hj, hb, ha⟩ := hl
    obtain ⟨p1, p2⟩ := h.fillCell ho hj hb ha h1 hnb hv hown
    have he : s.put? (.cell id j) v = s.setObj id (cs.set j v) := by simp only [St.put?, ho]
    rw [he]
    refine ⟨p1, p2, by simp [St.setObj], cs.set j v, arr, e, ?_, by simpa using hj, hb, ha⟩
    obtain ⟨hid, hrow⟩ := mem_obj ho
    have hlt : id < s.hp.length := (List.getElem?_eq_some_iff.1 hid).1
    obtain ⟨arr2, e2, fz2, hb2, hok2⟩ := p1.hr.obj id (cs.set j v) (by simp [St.setObj, hlt])
    have hr : isRow (cs.set j v) = false := by
      unfold isRow at hrow ⊢
      match cs, hj, hrow with
      | [c], hj, hrow =>
        have : j = 0 := by simpa using hj
        subst this
        simp only [List.set]
        split
        · rename_i heq; cases heq; simp [V.one] at h1
        · rename_i heq; cases heq; simp [V.one] at h1
        · rfl
      | c :: c' :: cs, hj, hrow =>
        split
        · rename_i heq
          cases j with
          | zero => simp at heq
          | succ j => cases j <;> simp at heq
        · rename_i heq
          cases j with
          | zero => simp at heq
          | succ j => cases j <;> simp at heq
        · rfl
    unfold St.obj
    simp only [St.setObj, List.getD, List.getElem?_set, hlt, if_true, Option.getD_some]
    unfold isRow at hr
    split <;> rename_i heq
    · simp only [Option.some.injEq] at heq; rw [heq] at hr; simp at hr
    · simp only [Option.some.injEq] at heq; rw [heq] at hr; simp at hr
    · rfl
  | res => exact absurd hl (by simp [Lies])

theorem at_put {o : Occ} {cv : Value} {v : V} (hl : Lies g s w a o cv) (h1 : v.one = true) (hb : v.bare = true) : Bared (some o) (s.put? o v) := by
  cases o with
  | slot n =>
    intro u hu
    simp only [St.put?, St.set, List.getElem?_set, if_true] at hu
    split at hu
    · cases Option.some.inj hu; exact hb
    · simp at hu
  | cell id j =>
    obtain ⟨cs, arr, e, ho, hj, _, _⟩ := hl
    obtain ⟨hid, hrow⟩ := mem_obj ho
    have hlt : id < s.hp.length := (List.getElem?_eq_some_iff.1 hid).1
    intro cs2 u h2 hu
    simp only [St.put?, ho, St.setObj, List.getElem?_set, hlt, if_true, Option.some.injEq] at h2
    subst h2
    simp only [List.getElem?_set, hj, if_true, Option.some.injEq] at hu
    subst hu; exact hb
  | res => trivial

theorem obj_append {s : St} {id : Nat} {cs : List V} (ho : s.obj id = some cs) (l : List AObj) : ({ s with hp := s.hp ++ l } : St).obj id = some cs := by
  obtain ⟨hid, _⟩ := mem_obj ho
  have hlt : id < s.hp.length := (List.getElem?_eq_some_iff.1 hid).1
  unfold St.obj at ho ⊢
  simp only [List.getD] at ho ⊢
  rw [List.getElem?_append_left hlt]
  exact ho

/-- a row, added to the objects -/
theorem SR.addRow (h : SR g s w a) {k : EK} {xs : List (Ty k)} {b cap : Nat} {arr : Array Value} {e : TypeId} {fz : Nat × Nat} (h0 : Cold fz arr.size) (h2 : xs.length ≤ cap) (h5 : w.heap[b]? = some (.cells arr e fz)) (h6 : cap * k.sz ≤ arr.size) (h7 : k = .u8 → e = g.β)
    (h8 : ∀ j, ¬ g.I b j) (h4 : g.O b = none) (hno : ∀ (id : Nat) cs, s.hp[id]? = some (some cs) → g.ρ id ≠ b)
    (h9 : ∀ (i : Nat) x (j : Nat) v u, xs[i]? = some x → (enc k x)[j]? = some v → arr[i * k.sz + j]? = some u → VRel g.I (fun _ => 0) 0 w v u) :
    SR { g with ρ := fun id => if id = s.hp.length then b else if id = s.hp.length + 1 then cap else g.ρ id } { s with hp := s.hp ++ [some [.rw k xs], none] } w a := by
  let g' : Gh := { g with ρ := fun id => if id = s.hp.length then b else if id = s.hp.length + 1 then cap else g.ρ id }
  have rhoOld : ∀ id, id < s.hp.length → g'.ρ id = g.ρ id := fun id hid => by
    simp only [g']
    rw [if_neg (by omega), if_neg (by omega)]
  have rhoNew : g'.ρ s.hp.length = b := by simp [g']
  have rhoCap : g'.ρ (s.hp.length + 1) = cap := by simp [g']
  have u : Up g.I g.ρ s.hp.length w g'.I g'.ρ (s.hp ++ [some [V.rw k xs], none]).length w := ⟨fun _ _ hi => hi, fun _ _ _ => rfl, rhoOld, by simp⟩
  have okeep : ∀ occ v cv, OwnOK g w occ v cv → OwnOK g' w occ v cv := fun occ v cv ho => own_keep ho rfl (fun b j hi => ⟨hi, rfl⟩) (fun b hb => ⟨hb, rfl, fun j hj => hj⟩)
  have split : ∀ (id : Nat) o, (s.hp ++ [some [V.rw k xs], none])[id]? = some (some o) → (id < s.hp.length ∧ s.hp[id]? = some (some o)) ∨ (id = s.hp.length ∧ o = [V.rw k xs]) := by
    intro id o hid
    rcases Nat.lt_or_ge id s.hp.length with hi | hi
    · rw [List.getElem?_append_left hi] at hid
      exact .inl ⟨hi, hid⟩
    · rw [List.getElem?_append_right hi] at hid
      match hq : id - s.hp.length, hid with
      | 0, hid => simp at hid; exact .inr ⟨by omega, hid.symm⟩
      | 1, hid => simp at hid
      | n + 2, hid => simp at hid
  have hlen : xs.length * k.sz ≤ arr.size := Nat.le_trans (Nat.mul_le_mul_right _ h2) h6
  refine ⟨⟨?_, ?_, ?_, ?_, h.hr.exI, h.hr.oLt⟩, ⟨h.er.size, fun n v cv hv hcv => (h.er.rel n v cv hv hcv).up u, fun n v cv hv hcv => okeep _ _ _ (h.er.own n v cv hv hcv)⟩⟩
  · intro id o hid
    rcases split id o hid with ⟨hi, hid⟩ | ⟨rfl, rfl⟩
    · obtain ⟨arr', e', fz, k1, k2⟩ := h.hr.obj id o hid
      refine ⟨arr', e', fz, by rw [rhoOld id hi]; exact k1, k2.len, k2.plain, k2.typedUp rfl u.rho u.num rfl, k2.cold, k2.one, fun j c cv hc hcv => (k2.rel j c cv hc hcv).up u, fun j c cv hc hcv => okeep _ _ _ (k2.own j c cv hc hcv), by rw [rhoOld id hi]; exact k2.bn⟩
    · refine ⟨arr, e, fz, by rw [rhoNew]; exact h5, ⟨by simp only [cellsOf, flat_enc_length]; exact hlen, (by intro hf; cases hf), ?_, (fun j hj => h0 j (Nat.lt_of_lt_of_le hj (by simp only [cellsOf, flat_enc_length]; exact hlen))), ?_, ?_, ?_, ?_⟩⟩
      · intro k2 ys hz
        simp only [List.cons.injEq, and_true] at hz
        cases hz
        exact ⟨h0, by rw [rhoCap]; exact h6, by simp, h7⟩
      · intro c hc
        simp only [cellsOf, List.mem_flatMap] at hc
        obtain ⟨y, _, hc⟩ := hc
        exact enc_one k y c hc
      · intro j c cv hc hcv
        simp only [cellsOf] at hc
        obtain ⟨y, hy, hc⟩ := flat_enc_inv _ j _ hc
        exact ul_flat hc (h9 _ y _ c cv hy hc (by rw [show j / k.sz * k.sz + j % k.sz = j by rw [Nat.mul_comm]; exact Nat.div_add_mod j k.sz]; exact hcv))
      · intro j c cv hc hcv
        have hm := List.mem_of_getElem? hc
        simp only [cellsOf, List.mem_flatMap] at hm
        obtain ⟨y, _, hm⟩ := hm
        exact bare_own (enc_bare k y c hm) _ _ _ _
      · intro j E n hc
        simp only [cellsOf] at hc
        obtain ⟨y, _, hc⟩ := flat_enc_inv _ j _ hc
        exact absurd hc (enc_noBn k y _ E n)
  · intro id id' o o' k1 k2 hne
    rcases split id o k1 with ⟨hi, m1⟩ | ⟨e1, -⟩ <;> rcases split id' o' k2 with ⟨hi', m2⟩ | ⟨e2, -⟩
    · rw [rhoOld _ hi, rhoOld _ hi']
      exact h.hr.apart id id' o o' m1 m2 hne
    · rw [rhoOld _ hi, e2, rhoNew]
      exact hno id o m1
    · rw [rhoOld _ hi', e1, rhoNew]
      exact (hno id' o' m2).symm
    · exact absurd (e1.trans e2.symm) hne
  · intro id o hid j hi
    rcases split id o hid with ⟨hlt, hid⟩ | ⟨rfl, rfl⟩
    · rw [rhoOld _ hlt] at hi
      exact h.hr.notI id o hid j hi
    · rw [rhoNew] at hi
      exact h8 j hi
  · intro id o hid
    rcases split id o hid with ⟨hlt, hid⟩ | ⟨rfl, rfl⟩
    · rw [rhoOld _ hlt]
      exact h.hr.notO id o hid
    · rw [rhoNew]
      exact h4

theorem put_append {s : St} {o : Occ} {cv : Value} (hl : Lies g s w a o cv) (v : V) (l : List AObj) : ({ s with hp := s.hp ++ l } : St).put? o v = { s.put? o v with hp := (s.put? o v).hp ++ l } := by
  cases o with
  | slot n => rfl
  | cell id j =>
    obtain ⟨cs, arr, e, ho, hj, _, _⟩ := hl
    obtain ⟨hid, _⟩ := mem_obj ho
    have hlt : id < s.hp.length := (List.getElem?_eq_some_iff.1 hid).1
    simp only [St.put?, ho, obj_append ho l, St.setObj]
    rw [List.set_append_left _ _ hlt]
  | res => rfl

theorem put_put {s : St} {o : Occ} {cv : Value} (hl : Lies g s w a o cv) {u : V} (h1 : u.one = true) (hl' : Lies g (s.put? o u) w a o cv) (v : V) : (s.put? o u).put? o v = s.put? o v := by
  cases o with
  | slot n => simp [St.put?, St.set]
  | cell id j =>
    obtain ⟨cs, arr, e, ho, hj, _, _⟩ := hl
    obtain ⟨cs2, arr2, e2, ho2, hj2, _, _⟩ := hl'
    obtain ⟨hid, _⟩ := mem_obj ho
    have hlt : id < s.hp.length := (List.getElem?_eq_some_iff.1 hid).1
    have he : s.put? (.cell id j) u = s.setObj id (cs.set j u) := by simp only [St.put?, ho]
    rw [he] at ho2 ⊢
    obtain ⟨h3, _⟩ := mem_obj ho2
    simp only [St.setObj, List.getElem?_set, hlt, if_true, Option.some.injEq] at h3
    subst h3
    simp only [St.put?]
    rw [ho2, ho]
    simp only [St.setObj, List.set_set]
  | res => rfl

theorem Lies.append {s : St} {o : Occ} {cv : Value} (hl : Lies g s w a o cv) (h : ∀ id, id < s.hp.length → g'.ρ id = g.ρ id) (l : List AObj) : Lies g' { s with hp := s.hp ++ l } w a o cv := by
  cases o with
  | slot n => exact hl
  | cell id j =>
    obtain ⟨cs, arr, e, ho, hj, hb, ha⟩ := hl
    obtain ⟨hid, _⟩ := mem_obj ho
    have hlt : id < s.hp.length := (List.getElem?_eq_some_iff.1 hid).1
    exact ⟨cs, arr, e, obj_append ho l, hj, by rw [h id hlt]; exact hb, ha⟩
  | res => exact hl

theorem opn_sound (h : SR g s w a) {o : Occ} (hs : (GAct.opn o).step s = some (true, s')) : ∃ g', SR g' s' w a ∧ FR g s.hp w g' s'.hp w := by
  simp only [GAct.step] at hs
  split at hs
  · rename_i k xs hat
    simp only [Option.some.injEq, Prod.mk.injEq, decide_eq_true_eq] at hs
    obtain ⟨hpos, rfl⟩ := hs
    obtain ⟨cv, hl, hv, ho⟩ := at_lies h hat (by simp)
    rcases ho with ⟨rfl, _⟩ | ⟨b, cap, arr, e, fz, h0, rfl, h2, h3, h4, h5, h6, h7, h8, h9⟩
    · simp at hpos
    · have hmax : xs.length ≤ maxI := Nat.le_trans h2 h3
      obtain ⟨p1, p2, p3, p4⟩ := h.fill hl (v := .hd xs.length) rfl rfl (.hd _ _ _ hmax) (by simp [OwnOK])
      have hbar : Bared (some o) (s.put? o (.hd xs.length)) := at_put hl rfl rfl
      let s1 := s.put? o (.hd xs.length)
      let g1 : Gh := { g with O := fun b' => if b' = b then none else g.O b' }
      have hno : ∀ (id : Nat) cs, s1.hp[id]? = some (some cs) → g.ρ id ≠ b := by
        intro id cs hid e'
        have := p1.hr.notO id cs hid
        rw [e', h4] at this
        simp at this
      have k1 : SR g1 s1 w a := by
        refine p1.keep (some o) hbar rfl (Up.refl _ _ _ _) ?_ ?_ h.hr.exI ?_
        · intro occ b' hb' hne
          have hbb : b' ≠ b := by
            rintro rfl
            rw [h4] at hb'
            exact hne hb'
          exact ⟨by simp [g1, hbb, hb'], rfl, fun j hj => hj⟩
        · intro id cs hid
          exact ⟨rfl, by simp [g1, hno id cs hid, p1.hr.notO id cs hid], fun j hj => hj⟩
        · intro b' o' hb'
          simp only [g1] at hb'
          split at hb'
          · simp at hb'
          · exact h.hr.oLt _ _ hb'
      have k2 := k1.addRow (b := b) (cap := cap) h0 h2 h5 h6 h7 h8 (by simp [g1]) hno h9
      let g2 : Gh := { g1 with ρ := fun id => if id = s1.hp.length then b else if id = s1.hp.length + 1 then cap else g1.ρ id }
      let s2 : St := { s1 with hp := s1.hp ++ [some [.rw k xs], none] }
      have hrho : ∀ id, id < s1.hp.length → g2.ρ id = g.ρ id := fun id hid => by
        simp only [g2]
        rw [if_neg (by omega), if_neg (by omega)]
      have hl2 : Lies g2 s2 w a o (.slice (some ⟨b, 0, none⟩) xs.length cap) := Lies.append (g := g) p4 hrho _
      have hsw : VRel g2.I g2.ρ s2.hp.length w (.sw k s1.hp.length xs.length) (.slice (some ⟨b, 0, none⟩) xs.length cap) := by
        have hr1 : g2.ρ (s1.hp.length + 1) = cap := by simp [g2]
        have hr0 : g2.ρ s1.hp.length = b := by simp [g2]
        have := VRel.sw (I := g2.I) (ρ := g2.ρ) (N := s2.hp.length) (w := w) k s1.hp.length xs.length (by simp [s2]) (by rw [hr1]; exact h2) (by rw [hr1]; exact h3)
        rw [hr1, hr0] at this
        exact this
      obtain ⟨q1, q2, q3, q4⟩ := SR.fill (g := g2) (s := s2) k2 hl2 (v := .sw k s1.hp.length xs.length) rfl rfl hsw (by simp [OwnOK])
      have hlen : s1.hp.length = s.hp.length := p3
      have hput : s2.put? o (.sw k s1.hp.length xs.length) = { s.put? o (.sw k s.hp.length xs.length) with hp := (s.put? o (.sw k s.hp.length xs.length)).hp ++ [some [.rw k xs], none] } := by
        have e1 := put_append (g := g) (w := w) (a := a) p4 (.sw k s1.hp.length xs.length) [some [.rw k xs], none]
        rw [put_put hl rfl p4] at e1
        rw [hlen] at e1
        show ({ s1 with hp := s1.hp ++ [some [.rw k xs], none] } : St).put? o (.sw k s1.hp.length xs.length) = _
        rw [hlen]
        exact e1
      rw [hput] at q1 q2
      refine ⟨g2, q1, ?_⟩
      -- what has turned
      refine p2.trans (FR.trans (g₁ := g2) (hp₁ := s2.hp) (w₁ := w) ?_ q2)
      refine ⟨rfl, rfl, rfl, rfl, Nat.le_refl _, fun _ _ _ _ => rfl, ⟨fun _ _ hi => hi, fun _ _ _ => rfl, hrho, by simp [s2, s1]⟩, fun _ _ _ _ _ hi => hi, ?_, ?_⟩
      · intro b' _ _ hO
        show (if b' = b then none else g.O b') = none
        split
        · rfl
        · exact hO
      · intro id cs hid
        rcases Nat.lt_or_ge id s1.hp.length with hi | hi
        · left
          have : s2.hp[id]? = s1.hp[id]? := by simp only [s2]; rw [List.getElem?_append_left hi]
          rw [this] at hid
          exact ⟨cs, hid⟩
        · right
          refine ⟨hi, .inr (.inl ?_)⟩
          have hid' : id = s1.hp.length := by
            simp only [s2] at hid
            rw [List.getElem?_append_right hi] at hid
            match hq : id - s1.hp.length, hid with
            | 0, _ => omega
            | 1, hid => simp at hid
            | n + 2, hid => simp at hid
          subst hid'
          have : g2.ρ s1.hp.length = b := by simp [g2]
          rw [this, h4]
          simp
  · obtain rfl : s = s' := by simpa using hs
    exact ⟨g, h, FR.refl _ _ _⟩

theorem cls_sound (h : SR g s w a) {o : Occ} (hs : (GAct.cls o).step s = some (true, s')) : ∃ g', SR g' s' w a ∧ FR g s.hp w g' s'.hp w := by
  simp only [GAct.step] at hs
  split at hs
  · rename_i k id n hat
    split at hs
    · rename_i k' xs ho
      split at hs
      · rename_i hk
        subst hk
        simp only [Option.some.injEq, Prod.mk.injEq] at hs
        obtain ⟨hn, rfl⟩ := hs
        obtain rfl := Nat.eq_of_beq_eq_true hn
        obtain ⟨cv, hl, hv, -⟩ := at_lies h hat (by simp)
        obtain ⟨arr, e, fz, hb, hsz, hok, hrel⟩ := rowW_cells h ho
        obtain ⟨t1, t2, t3, t4⟩ := hok.typed k' xs rfl
        have hid := mem_rowW ho
        cases hv with
        | sw _ _ _ hN hc hm =>
        -- the place is told as a mere length first
        obtain ⟨p1, p2, p3, p4⟩ := h.fill hl (v := .hd xs.length) rfl rfl (.hd _ _ _ (Nat.le_trans hc hm)) (by simp [OwnOK])
        let s1 := s.put? o (.hd xs.length)
        have hid1 : s1.hp[id]? = some (some [.rw k' xs]) := by
          cases o with
          | slot n => exact hid
          | cell id' j =>
            obtain ⟨cs, arr', e', ho', hj, _, _⟩ := hl
            have hne : id' ≠ id := by
              rintro rfl
              obtain ⟨h1, h2⟩ := mem_obj ho'
              rw [hid] at h1
              cases h1
              simp [isRow] at h2
            simp only [s1, St.put?, ho', St.setObj]
            rw [List.getElem?_set_ne hne]
            exact hid
          | res => exact absurd hl (by simp [Lies])
        let g1 : Gh := { g with O := fun b' => if b' = g.ρ id then some o else g.O b' }
        let s2 : St := { s1 with hp := s1.hp.set id none }
        have sub : ∀ (i : Nat) cs, s2.hp[i]? = some (some cs) → i ≠ id ∧ s1.hp[i]? = some (some cs) := by
          intro i cs hi
          simp only [s2, List.getElem?_set] at hi
          split at hi
          · split at hi <;> simp at hi
          · rename_i hne; exact ⟨fun e => hne e.symm, hi⟩
        have hbO : g.O (g.ρ id) = none := p1.hr.notO id _ hid1
        have okeep : ∀ occ v cv, OwnOK g w occ v cv → OwnOK g1 w occ v cv := by
          intro occ v cv hoo
          refine own_keep hoo rfl (fun b j hi => ⟨hi, rfl⟩) ?_
          intro b hb'
          refine ⟨?_, rfl, fun j hj => hj⟩
          have : b ≠ g.ρ id := by rintro rfl; rw [hbO] at hb'; simp at hb'
          simp [g1, this, hb']
        have hlen : s2.hp.length = s1.hp.length := by simp [s2]
        have k1 : SR g1 s2 w a := by
          refine ⟨⟨?_, ?_, ?_, ?_, p1.hr.exI, ?_⟩, ⟨p1.er.size, fun m v cv hv hcv => by rw [hlen]; exact p1.er.rel m v cv hv hcv, fun m v cv hv hcv => okeep _ _ _ (p1.er.own m v cv hv hcv)⟩⟩
          · intro i cs hi
            obtain ⟨hne, hi⟩ := sub i cs hi
            obtain ⟨arr', e', fz, m1, m2⟩ := p1.hr.obj i cs hi
            rw [hlen]
            exact ⟨arr', e', fz, m1, m2.len, m2.plain, m2.typed, m2.cold, m2.one, m2.rel, fun j c cv hc hcv => okeep _ _ _ (m2.own j c cv hc hcv), m2.bn⟩
          · intro i i' cs cs' h1 h2 hne
            exact p1.hr.apart i i' cs cs' (sub i cs h1).2 (sub i' cs' h2).2 hne
          · intro i cs hi
            exact p1.hr.notI i cs (sub i cs hi).2
          · intro i cs hi
            obtain ⟨hne, hi⟩ := sub i cs hi
            have : g.ρ i ≠ g.ρ id := p1.hr.apart i id cs _ hi hid1 hne
            show (if g.ρ i = g.ρ id then some o else g.O (g.ρ i)) = none
            rw [if_neg this]
            exact p1.hr.notO i cs hi
          · intro b' o' hb'
            simp only [g1] at hb'
            split at hb'
            · rename_i e'; subst e'
              rcases Nat.lt_or_ge (g.ρ id) w.heap.size with hlt | hlt
              · exact hlt
              · simp [Array.getElem?_eq_none hlt] at hb
            · exact h.hr.oLt _ _ hb'
        have hl2 : Lies g1 s2 w a o (.slice (some ⟨g.ρ id, 0, none⟩) xs.length (g.ρ (id + 1))) := by
          cases o with
          | slot n => exact p4
          | cell id' j =>
            obtain ⟨cs, arr', e', ho', hj, hb', ha⟩ := p4
            refine ⟨cs, arr', e', ?_, hj, hb', ha⟩
            have hne : id ≠ id' := by
              rintro rfl
              obtain ⟨h1, h2⟩ := mem_obj ho'
              rw [show (s.put? (.cell id j) (.hd xs.length)).hp[id]? = some (some [.rw k' xs]) from hid1] at h1
              cases h1
              simp [isRow] at h2
            unfold St.obj at ho' ⊢
            simp only [s2, List.getD] at ho' ⊢
            rw [List.getElem?_set_ne hne]
            exact ho'
          | res => exact p4
        have hul : ULOK g1 w o k' xs (.slice (some ⟨g.ρ id, 0, none⟩) xs.length (g.ρ (id + 1))) :=
          .inr ⟨g.ρ id, g.ρ (id + 1), arr, e, fz, t1, rfl, hc, hm, by simp [g1], hb, t2, t4, fun j => p1.hr.notI id _ hid1 j, fun i x j v u h1 h2 h3 => ul_flat h2 (hrel i x j v u h1 h2 h3)⟩
        obtain ⟨q1, q2, q3, q4⟩ := SR.fill (g := g1) (s := s2) k1 hl2 (v := .ul k' xs) rfl rfl (.ul _ _ _ _ (Nat.le_trans hc hm)) hul
        have hput : s2.put? o (.ul k' xs) = { s.put? o (.ul k' xs) with hp := (s.put? o (.ul k' xs)).hp.set id none } := by
          cases o with
          | slot n => simp [s2, s1, St.put?, St.set]
          | cell id' j =>
            obtain ⟨cs, arr', e', ho', hj, _, _⟩ := hl
            obtain ⟨cs2, arr2, e2, ho2, hj2, _, _⟩ := hl2
            obtain ⟨h1, h2⟩ := mem_obj ho'
            have hlt : id' < s.hp.length := (List.getElem?_eq_some_iff.1 h1).1
            have hne : id' ≠ id := by
              rintro rfl
              rw [hid] at h1
              cases h1
              simp [isRow] at h2
            have he : s1 = s.setObj id' (cs.set j (.hd xs.length)) := by simp only [s1, St.put?, ho']
            obtain ⟨h3, _⟩ := mem_obj ho2
            simp only [s2] at h3
            rw [List.getElem?_set_ne (Ne.symm hne), he] at h3
            simp only [St.setObj, List.getElem?_set, hlt, if_true, Option.some.injEq] at h3
            subst h3
            simp only [St.put?]
            rw [ho2, ho']
            simp only [s2, he, St.setObj, List.set_set]
            rw [List.set_comm _ _ hne, List.set_set]
            rw [List.set_comm _ _ (Ne.symm hne)]
          | res => rfl
        rw [hput] at q1 q2
        refine ⟨g1, q1, p2.trans (FR.trans (g₁ := g1) (hp₁ := s2.hp) (w₁ := w) ?_ q2)⟩
        refine ⟨rfl, rfl, rfl, rfl, Nat.le_refl _, fun _ _ _ _ => rfl, ⟨fun _ _ hi => hi, fun _ _ _ => rfl, fun _ _ => rfl, by rw [hlen]; exact Nat.le_refl _⟩, fun _ _ _ _ _ hi => hi, ?_, fun i cs hi => .inl ⟨cs, (sub i cs hi).2⟩⟩
        intro b' _ hno hO
        show (if b' = g.ρ id then some o else g.O b') = none
        rw [if_neg (fun e => hno id _ hid1 e.symm)]
        exact hO
      · simp at hs
    · simp at hs
  · obtain rfl : s = s' := by simpa using hs
    exact ⟨g, h, FR.refl _ _ _⟩

theorem fz_sound (h : SR g s w a) {o : Occ} (hs : (GAct.fz o).step s = some (true, s')) : ∃ g', SR g' s' w a ∧ FR g s.hp w g' s'.hp w := by
  simp only [GAct.step] at hs
  split at hs
  · rename_i k xs hat
    obtain rfl : _ = s' := by simpa using hs
    obtain ⟨cv, hl, hv, ho⟩ := at_lies h hat (by simp)
    rcases ho with ⟨rfl, rfl⟩ | ⟨b, cap, arr, e, fz, h0, rfl, h2, h3, h4, h5, h6, h7, h8, h9⟩
    · obtain ⟨p1, p2, p3, p4⟩ := h.fill hl (v := .sl k .own []) rfl rfl (.sln _ _) (by simp [OwnOK])
      exact ⟨g, p1, p2⟩
    · have hmax : xs.length ≤ maxI := Nat.le_trans h2 h3
      obtain ⟨p1, p2, p3, p4⟩ := h.fill hl (v := .hd xs.length) rfl rfl (.hd _ _ _ hmax) (by simp [OwnOK])
      have hbar : Bared (some o) (s.put? o (.hd xs.length)) := at_put hl rfl rfl
      let s1 := s.put? o (.hd xs.length)
      let g1 : Gh := { g with I := fun b' j => g.I b' j ∨ (b' = b ∧ j < xs.length * k.sz) }
      have hlen : xs.length * k.sz ≤ arr.size := Nat.le_trans (Nat.mul_le_mul_right _ h2) h6
      have hno : ∀ (id : Nat) cs, s1.hp[id]? = some (some cs) → g.ρ id ≠ b := by
        intro id cs hid e'
        have := p1.hr.notO id cs hid
        rw [e', h4] at this
        simp at this
      have u : Up g.I g.ρ s1.hp.length w g1.I g1.ρ s1.hp.length w := ⟨fun _ _ hi => .inl hi, fun _ _ _ => rfl, fun _ _ => rfl, Nat.le_refl _⟩
      have k1 : SR g1 s1 w a := by
        refine p1.keep (some o) hbar rfl u ?_ ?_ ?_ h.hr.oLt
        · intro occ b' hb' hne
          have hbb : b' ≠ b := by
            rintro rfl
            rw [h4] at hb'
            exact hne hb'
          refine ⟨hb', rfl, ?_⟩
          rintro j (hj | ⟨hj, _⟩)
          · exact hj
          · exact absurd hj hbb
        · intro id cs hid
          refine ⟨rfl, p1.hr.notO id cs hid, ?_⟩
          rintro j (hj | ⟨hj, _⟩)
          · exact hj
          · exact absurd hj (hno id cs hid)
        · rintro b' j (hj | ⟨rfl, hj⟩)
          · exact h.hr.exI b' j hj
          · rw [cell_of_heap h5, Array.getElem?_eq_getElem (by omega)]; rfl
      have hl2 : Lies g1 s1 w a o (.slice (some ⟨b, 0, none⟩) xs.length cap) := p4
      have hk0 : ∀ x : Ty k, ∀ j, j < (enc k x).length → j < k.sz := fun x j hj => by rwa [enc_length] at hj
      have hrel : VRel g1.I g1.ρ s1.hp.length w (.sl k .own xs) (.slice (some ⟨b, 0, none⟩) xs.length cap) := by
        refine .sl k .own xs _ _ _ _ rfl h2 h3 (by simp) (fun i j => arr[i * k.sz + j]?.getD undef) ?_ ?_ ?_
        · intro i x j hx hj
          exact .inr ⟨rfl, by have := mul_lt (List.getElem?_eq_some_iff.1 hx).1 (hk0 x j hj); omega⟩
        · intro i x j hx hj
          have := mul_lt (List.getElem?_eq_some_iff.1 hx).1 (hk0 x j hj)
          rw [Nat.zero_add, cell_of_heap h5, Array.getElem?_eq_getElem (by omega)]
          rfl
        · intro i x j v hx hj
          have hjl := (List.getElem?_eq_some_iff.1 hj).1
          have := mul_lt (List.getElem?_eq_some_iff.1 hx).1 (hk0 x j hjl)
          have ha : arr[i * k.sz + j]? = some (arr[i * k.sz + j]'(by omega)) := Array.getElem?_eq_getElem _
          rw [ha]
          exact (ul_flat (ρ' := g.ρ) (N' := s1.hp.length) hj (h9 i x j v _ hx hj ha)).up u
      have hown : OwnOK g1 w o (.sl k .own xs) (.slice (some ⟨b, 0, none⟩) xs.length cap) := by
        refine ⟨h4, ⟨arr, e, fz, h5, by simpa using h6, h7⟩, ?_⟩
        intro j j1 j2
        simp only [Nat.zero_add] at j1 j2
        refine ⟨?_, by
          have := h0 j (by omega)
          simp only [World.frozen?, h5, Bool.and_eq_false_iff, decide_eq_false_iff_not]
          omega⟩
        rintro (hi | ⟨_, hi⟩)
        · exact h8 j hi
        · omega
      obtain ⟨q1, q2, q3, q4⟩ := SR.fill (g := g1) (s := s1) k1 hl2 (v := .sl k .own xs) rfl rfl hrel hown
      rw [put_put hl rfl p4] at q1 q2
      refine ⟨g1, q1, p2.trans (FR.trans (g₁ := g1) (hp₁ := s1.hp) (w₁ := w) ?_ q2)⟩
      refine ⟨rfl, rfl, rfl, rfl, Nat.le_refl _, fun _ _ _ _ => rfl, u, ?_, fun _ _ _ hO => hO, fun _ cs h => .inl ⟨cs, h⟩⟩
      rintro b' j _ _ hO (hj | ⟨rfl, _⟩)
      · exact hj
      · rw [h4] at hO; simp at hO
  · obtain rfl : s = s' := by simpa using hs
    exact ⟨g, h, FR.refl _ _ _⟩

theorem ghost_sound (h : SR g s w a) {x : GAct} (hs : x.step s = some (true, s')) : ∃ g', SR g' s' w a ∧ FR g s.hp w g' s'.hp w := by
  cases x with
  | opn o => exact opn_sound h hs
  | cls o => exact cls_sound h hs
  | fz o => exact fz_sound h hs
end
end Go.AM
