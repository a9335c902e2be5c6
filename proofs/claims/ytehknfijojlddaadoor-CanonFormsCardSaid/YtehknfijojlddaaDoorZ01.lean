import Derived.Orders
import Derived.Below
import Derived.KernelRfl
import Derived.Test.YtehknfijojlddaaDoorChecked
import Derived.WalkKit
import Derived.WalkSpells
import Derived.Laws.Externs
import Derived.Lib.Builder
import Derived.Lib.UnsafeStr
import Derived.Test.YtehknfijojlddaaDoorZ00
noncomputable section
namespace Go.AM
set_option autoImplicit false
set_option linter.unusedSimpArgs false
set_option linter.unusedVariables false
section
variable {w : World} {g g' : Gh} {s s' : St} {a : Act}
theorem SR.fillSlot (h : SR g s w a) (n : Nat) {v : V} (hv : VRel g.I g.ρ s.hp.length w v (a.tmps.getD n undef)) (ho : aa g w (.slot n) v (a.tmps.getD n undef)) : SR g (s.set n v) w a :=
 ⟨h.hr, h.er.put' n hv ho⟩
theorem SR.fillCell (h : SR g s w a) {id o : Nat} {cs : List V} (ho : s.obj id = some cs) (hlo : o < cs.length) {arr : Array Value} {e : TypeId} (hb : w.heap[g.ρ id]? = some (.cells arr e (0, 0))) {v : V} {cv : Value}
  (hcv : arr[o]? = some cv) (h1 : v.one = true) (hnb : noBn v = true) (hv : VRel g.I g.ρ s.hp.length w v cv) (hown : aa g w (.cell id o) v cv) :
  SR g (s.setObj id (cs.set o v)) w a ∧ FR g s.hp w g (s.hp.set id (some (cs.set o v))) w := by
 obtain ⟨hid, hrow⟩ := aw ho
 have hlt : id < s.hp.length := (List.getElem?_eq_some_iff.1 hid).1
 let cs' := cs.set o v
 have split : ∀ (id' : Nat) o', (s.hp.set id (some cs'))[id']? = some (some o') → (id' = id ∧ o' = cs') ∨ (id' ≠ id ∧ s.hp[id']? = some (some o')) := by
  intro id' o' hq
  rw [List.getElem?_set] at hq
  split at hq
  ·rename_i e
   simp [hlt] at hq
   exact .inl ⟨e.symm, hq.symm⟩
  ·rename_i e
   exact .inr ⟨fun e' => e e'.symm, hq⟩
 have old : ∀ (id' : Nat) o', (s.hp.set id (some cs'))[id']? = some (some o') → ∃ o'', s.hp[id']? = some (some o'') := by
  intro id' o' hq
  rcases split id' o' hq with ⟨rfl, _⟩ | ⟨_, hq⟩
  ·exact ⟨cs, hid⟩
  ·exact ⟨_, hq⟩
 have hget : ∀ (j : Nat) c, cs'[j]? = some c → (j = o ∧ c = v) ∨ (j ≠ o ∧ cs[j]? = some c) := by
  intro j c hc
  simp only [cs', List.getElem?_set] at hc
  split at hc
  ·rename_i e
   simp only [hlo, if_true, Option.some.injEq] at hc
   exact .inl ⟨e.symm, hc.symm⟩
  ·rename_i e
   exact .inr ⟨fun e' => e e'.symm, hc⟩
 refine ⟨⟨⟨?_, ?_, ?_, ?_, h.hr.exI, h.hr.oLt⟩, ⟨h.er.size, ?_, h.er.own⟩⟩, ⟨rfl, rfl, rfl, rfl, Nat.le_refl _, fun _ _ _ _ => rfl, ?_, fun _ _ _ _ _ hi => hi, fun _ _ _ hO => hO, ?_⟩⟩
 ·intro id' o' hq
  simp only [St.setObj, List.length_set]
  rcases split id' o' hq with ⟨rfl, rfl⟩ | ⟨hne, hq⟩
  ·obtain ⟨arr2, e2, hb2, hok⟩ := bC h.hr ho
   rw [hb] at hb2
   cases hb2
   refine ⟨arr, e, (0, 0), hb, bF.high ⟨by simp [cs', hok.len], ?_, ?_, ?_, ?_⟩⟩
   ·intro c hc
    obtain ⟨j, hj, rfl⟩ := List.mem_iff_getElem.1 hc
    rcases hget j _ (List.getElem?_eq_getElem hj) with ⟨_, k2⟩ | ⟨_, k2⟩
    ·rw [k2]; exact h1
    ·exact hok.one _ (List.mem_of_getElem? k2)
   ·intro j c cv' hc hcv'
    rcases hget j _ hc with ⟨rfl, rfl⟩ | ⟨_, k2⟩
    ·rw [hcv] at hcv'
     obtain rfl := Option.some.inj hcv'
     exact hv
    ·exact hok.rel j c cv' k2 hcv'
   ·intro j c cv' hc hcv'
    rcases hget j _ hc with ⟨rfl, rfl⟩ | ⟨_, k2⟩
    ·rw [hcv] at hcv'
     obtain rfl := Option.some.inj hcv'
     exact hown
    ·exact hok.own j c cv' k2 hcv'
   ·intro j E n hc
    rcases hget j _ hc with ⟨rfl, k2⟩ | ⟨_, k2⟩
    ·rw [← k2] at hnb
     simp [noBn] at hnb
    ·exact hok.bn j E n k2
  ·exact h.hr.obj id' o' hq
 ·intro id1 id2 c1 c2 k1 k2 hne
  obtain ⟨_, k1⟩ := old id1 c1 k1
  obtain ⟨_, k2⟩ := old id2 c2 k2
  exact h.hr.apart _ _ _ _ k1 k2 hne
 ·intro id1 c1 k1
  obtain ⟨_, k1⟩ := old id1 c1 k1
  exact h.hr.notI _ _ k1
 ·intro id1 c1 k1
  obtain ⟨_, k1⟩ := old id1 c1 k1
  exact h.hr.notO _ _ k1
 ·intro n v cv hq hcv
  simp only [St.setObj, List.length_set]
  exact h.er.rel n v cv hq hcv
 ·simp only [List.length_set]
  exact Up.refl _ _ _ _
 ·intro id' o' hq
  obtain ⟨o'', hq⟩ := old id' o' hq
  exact .inl ⟨o'', hq⟩
def bl (g : Gh) (s : St) (w : World) (a : Act) (o : Occ) (cv : Value) : Prop :=
 match o with
 | .slot n => a.tmps.getD n undef = cv
 | .cell id j => ∃ cs arr e, s.obj id = some cs ∧ j < cs.length ∧ w.heap[g.ρ id]? = some (.cells arr e (0, 0)) ∧ arr[j]? = some cv
 | .res => False
theorem dW (h : SR g s w a) {o : Occ} {v : V} (hat : s.at? o = v) (hne : v ≠ .undef) : ∃ cv, bl g s w a o cv ∧ VRel g.I g.ρ s.hp.length w v cv ∧ aa g w o v cv := by
 cases o with
 | slot n =>
   simp only [St.at?] at hat
   subst hat
   exact ⟨_, rfl, h.er.get n, h.er.getOwn n⟩
 | cell id j =>
   simp only [St.at?] at hat
   cases ho : s.obj id with
   | none => rw [ho] at hat; exact absurd hat.symm hne
   | some cs =>
     rw [ho] at hat
     simp only at hat
     obtain ⟨arr, e, hb, hok⟩ := bC h.hr ho
     have hj : j < cs.length := by
      rcases Nat.lt_or_ge j cs.length with hj | hj
      ·exact hj
      ·rw [List.getD, List.getElem?_eq_none hj] at hat
       exact absurd hat.symm hne
     have hc : cs[j]? = some v := by
      rw [← hat, List.getD, List.getElem?_eq_getElem hj]
      rfl
     have hlen := hok.len
     have ha : arr[j]? = some (arr[j]'(by omega)) := Array.getElem?_eq_getElem _
     exact ⟨_, ⟨cs, arr, e, ho, hj, hb, ha⟩, hok.rel j v _ hc ha, hok.own j v _ hc ha⟩
 | res =>
   simp only [St.at?] at hat
   exact absurd hat.symm hne
theorem SR.fill (h : SR g s w a) {o : Occ} {cv : Value} (hl : bl g s w a o cv) {v : V} (h1 : v.one = true) (hnb : noBn v = true) (hv : VRel g.I g.ρ s.hp.length w v cv) (hown : aa g w o v cv) :
  SR g (s.put? o v) w a ∧ FR g s.hp w g (s.put? o v).hp w ∧ (s.put? o v).hp.length = s.hp.length ∧ bl g (s.put? o v) w a o cv := by
 cases o with
 | slot n =>
   simp only [bl] at hl
   subst hl
   exact ⟨h.fillSlot n hv hown, FR.refl _ _ _, rfl, rfl⟩
 | cell id j =>
   obtain ⟨cs, arr, e, ho, hj, hb, ha⟩ := hl
   obtain ⟨p1, p2⟩ := h.fillCell ho hj hb ha h1 hnb hv hown
   have he : s.put? (.cell id j) v = s.setObj id (cs.set j v) := by simp only [St.put?, ho]
   rw [he]
   refine ⟨p1, p2, by simp [St.setObj], cs.set j v, arr, e, ?_, by simpa using hj, hb, ha⟩
   obtain ⟨hid, hrow⟩ := aw ho
   have hlt : id < s.hp.length := (List.getElem?_eq_some_iff.1 hid).1
   obtain ⟨arr2, e2, fz2, hb2, hok2⟩ := p1.hr.obj id (cs.set j v) (by simp [St.setObj, hlt])
   have hr : ak (cs.set j v) = false := by
    unfold ak at hrow ⊢
    match cs, hj, hrow with
    | [c], hj, hrow =>
      have : j = 0 := by simpa using hj
      subst this
      simp only [List.set]
      split
      ·rename_i heq; cases heq; simp [V.one] at h1
      ·rename_i heq; cases heq; simp [V.one] at h1
      ·rfl
    | c :: c' :: cs, hj, hrow =>
      split
      ·rename_i heq
       cases j with
       | zero => simp at heq
       | succ j => cases j <;> simp at heq
      ·rename_i heq
       cases j with
       | zero => simp at heq
       | succ j => cases j <;> simp at heq
      ·rfl
   unfold St.obj
   simp only [St.setObj, List.getD, List.getElem?_set, hlt, if_true, Option.getD_some]
   unfold ak at hr
   split <;> rename_i heq
   ·simp only [Option.some.injEq] at heq; rw [heq] at hr; simp at hr
   ·simp only [Option.some.injEq] at heq; rw [heq] at hr; simp at hr
   ·rfl
 | res => exact absurd hl (by simp [bl])
theorem fK {o : Occ} {cv : Value} {v : V} (hl : bl g s w a o cv) (h1 : v.one = true) (hb : v.bare = true) : ca (some o) (s.put? o v) := by
 cases o with
 | slot n =>
   intro u hu
   simp only [St.put?, St.set, List.getElem?_set, if_true] at hu
   split at hu
   ·cases Option.some.inj hu; exact hb
   ·simp at hu
 | cell id j =>
   obtain ⟨cs, arr, e, ho, hj, _, _⟩ := hl
   obtain ⟨hid, hrow⟩ := aw ho
   have hlt : id < s.hp.length := (List.getElem?_eq_some_iff.1 hid).1
   intro cs2 u h2 hu
   simp only [St.put?, ho, St.setObj, List.getElem?_set, hlt, if_true, Option.some.injEq] at h2
   subst h2
   simp only [List.getElem?_set, hj, if_true, Option.some.injEq] at hu
   subst hu; exact hb
 | res => trivial
theorem dF {s : St} {id : Nat} {cs : List V} (ho : s.obj id = some cs) (l : List ab) : ({ s with hp := s.hp ++ l } : St).obj id = some cs := by
 obtain ⟨hid, _⟩ := aw ho
 have hlt : id < s.hp.length := (List.getElem?_eq_some_iff.1 hid).1
 unfold St.obj at ho ⊢
 simp only [List.getD] at ho ⊢
 rw [List.getElem?_append_left hlt]
 exact ho
theorem SR.addRow (h : SR g s w a) {k : EK} {xs : List (Ty k)} {b cap : Nat} {arr : Array Value} {e : TypeId} {fz : Nat × Nat} (h0 : fl fz arr.size) (h2 : xs.length ≤ cap) (h5 : w.heap[b]? = some (.cells arr e fz)) (h6 : cap * k.sz ≤ arr.size) (h7 : k = .u8 → e = g.β)
  (h8 : ∀ j, ¬ g.I b j) (h4 : g.O b = none) (hno : ∀ (id : Nat) cs, s.hp[id]? = some (some cs) → g.ρ id ≠ b)
  (h9 : ∀ (i : Nat) x (j : Nat) v u, xs[i]? = some x → (enc k x)[j]? = some v → arr[i * k.sz + j]? = some u → VRel g.I (fun _ => 0) 0 w v u) :
  SR { g with ρ := fun id => if id = s.hp.length then b else if id = s.hp.length + 1 then cap else g.ρ id } { s with hp := s.hp ++ [some [.rw k xs], none] } w a := by
 let g' : Gh := { g with ρ := fun id => if id = s.hp.length then b else if id = s.hp.length + 1 then cap else g.ρ id }
 have rhoOld : ∀ id, id < s.hp.length → g'.ρ id = g.ρ id := fun id hid => by
  simp only [g']
  rw [if_neg (by omega), if_neg (by omega)]
 have rhoNew : g'.ρ s.hp.length = b := by simp [g']
 have rhoCap : g'.ρ (s.hp.length + 1) = cap := by simp [g']
 have u : Up g.I g.ρ s.hp.length w g'.I g'.ρ (s.hp ++ [some [V.rw k xs], none]).length w := ⟨fun _ _ hi => hi, fun _ _ _ => rfl, rhoOld, by simp⟩
 have okeep : ∀ occ v cv, aa g w occ v cv → aa g' w occ v cv := fun occ v cv ho => ap ho rfl (fun b j hi => ⟨hi, rfl⟩) (fun b hb => ⟨hb, rfl, fun j hj => hj⟩)
 have split : ∀ (id : Nat) o, (s.hp ++ [some [V.rw k xs], none])[id]? = some (some o) → (id < s.hp.length ∧ s.hp[id]? = some (some o)) ∨ (id = s.hp.length ∧ o = [V.rw k xs]) := by
  intro id o hid
  rcases Nat.lt_or_ge id s.hp.length with hi | hi
  ·rw [List.getElem?_append_left hi] at hid
   exact .inl ⟨hi, hid⟩
  ·rw [List.getElem?_append_right hi] at hid
   match hq : id - s.hp.length, hid with
   | 0, hid => simp at hid; exact .inr ⟨by omega, hid.symm⟩
   | 1, hid => simp at hid
   | n + 2, hid => simp at hid
 have hlen : xs.length * k.sz ≤ arr.size := Nat.le_trans (Nat.mul_le_mul_right _ h2) h6
 refine ⟨⟨?_, ?_, ?_, ?_, h.hr.exI, h.hr.oLt⟩, ⟨h.er.size, fun n v cv hv hcv => (h.er.rel n v cv hv hcv).up u, fun n v cv hv hcv => okeep _ _ _ (h.er.own n v cv hv hcv)⟩⟩
 ·intro id o hid
  rcases split id o hid with ⟨hi, hid⟩ | ⟨rfl, rfl⟩
  ·obtain ⟨arr', e', fz, k1, k2⟩ := h.hr.obj id o hid
   refine ⟨arr', e', fz, by rw [rhoOld id hi]; exact k1, k2.len, k2.plain, k2.typedUp rfl u.rho u.num rfl, k2.cold, k2.one, fun j c cv hc hcv => (k2.rel j c cv hc hcv).up u, fun j c cv hc hcv => okeep _ _ _ (k2.own j c cv hc hcv), by rw [rhoOld id hi]; exact k2.bn⟩
  ·refine ⟨arr, e, fz, by rw [rhoNew]; exact h5, ⟨by simp only [cellsOf, aX]; exact hlen, (by intro hf; cases hf), ?_, (fun j hj => h0 j (Nat.lt_of_lt_of_le hj (by simp only [cellsOf, aX]; exact hlen))), ?_, ?_, ?_, ?_⟩⟩
   ·intro k2 ys hz
    simp only [List.cons.injEq, and_true] at hz
    cases hz
    exact ⟨h0, by rw [rhoCap]; exact h6, by simp, h7⟩
   ·intro c hc
    simp only [cellsOf, List.mem_flatMap] at hc
    obtain ⟨y, _, hc⟩ := hc
    exact dT k y c hc
   ·intro j c cv hc hcv
    simp only [cellsOf] at hc
    obtain ⟨y, hy, hc⟩ := cS _ j _ hc
    exact dV hc (h9 _ y _ c cv hy hc (by rw [show j / k.sz * k.sz + j % k.sz = j by rw [Nat.mul_comm]; exact Nat.div_add_mod j k.sz]; exact hcv))
   ·intro j c cv hc hcv
    have hm := List.mem_of_getElem? hc
    simp only [cellsOf, List.mem_flatMap] at hm
    obtain ⟨y, _, hm⟩ := hm
    exact bQ (eB k y c hm) _ _ _ _
   ·intro j E n hc
    simp only [cellsOf] at hc
    obtain ⟨y, _, hc⟩ := cS _ j _ hc
    exact absurd hc (f5 k y _ E n)
 ·intro id id' o o' k1 k2 hne
  rcases split id o k1 with ⟨hi, m1⟩ | ⟨e1, -⟩ <;> rcases split id' o' k2 with ⟨hi', m2⟩ | ⟨e2, -⟩
  ·rw [rhoOld _ hi, rhoOld _ hi']
   exact h.hr.apart id id' o o' m1 m2 hne
  ·rw [rhoOld _ hi, e2, rhoNew]
   exact hno id o m1
  ·rw [rhoOld _ hi', e1, rhoNew]
   exact (hno id' o' m2).symm
  ·exact absurd (e1.trans e2.symm) hne
 ·intro id o hid j hi
  rcases split id o hid with ⟨hlt, hid⟩ | ⟨rfl, rfl⟩
  ·rw [rhoOld _ hlt] at hi
   exact h.hr.notI id o hid j hi
  ·rw [rhoNew] at hi
   exact h8 j hi
 ·intro id o hid
  rcases split id o hid with ⟨hlt, hid⟩ | ⟨rfl, rfl⟩
  ·rw [rhoOld _ hlt]
   exact h.hr.notO id o hid
  ·rw [rhoNew]
   exact h4
theorem fv {s : St} {o : Occ} {cv : Value} (hl : bl g s w a o cv) (v : V) (l : List ab) : ({ s with hp := s.hp ++ l } : St).put? o v = { s.put? o v with hp := (s.put? o v).hp ++ l } := by
 cases o with
 | slot n => rfl
 | cell id j =>
   obtain ⟨cs, arr, e, ho, hj, _, _⟩ := hl
   obtain ⟨hid, _⟩ := aw ho
   have hlt : id < s.hp.length := (List.getElem?_eq_some_iff.1 hid).1
   simp only [St.put?, ho, dF ho l, St.setObj]
   rw [List.set_append_left _ _ hlt]
 | res => rfl
theorem fe {s : St} {o : Occ} {cv : Value} (hl : bl g s w a o cv) {u : V} (h1 : u.one = true) (hl' : bl g (s.put? o u) w a o cv) (v : V) : (s.put? o u).put? o v = s.put? o v := by
 cases o with
 | slot n => simp [St.put?, St.set]
 | cell id j =>
   obtain ⟨cs, arr, e, ho, hj, _, _⟩ := hl
   obtain ⟨cs2, arr2, e2, ho2, hj2, _, _⟩ := hl'
   obtain ⟨hid, _⟩ := aw ho
   have hlt : id < s.hp.length := (List.getElem?_eq_some_iff.1 hid).1
   have he : s.put? (.cell id j) u = s.setObj id (cs.set j u) := by simp only [St.put?, ho]
   rw [he] at ho2 ⊢
   obtain ⟨h3, _⟩ := aw ho2
   simp only [St.setObj, List.getElem?_set, hlt, if_true, Option.some.injEq] at h3
   subst h3
   simp only [St.put?]
   rw [ho2, ho]
   simp only [St.setObj, List.set_set]
 | res => rfl
theorem bl.append {s : St} {o : Occ} {cv : Value} (hl : bl g s w a o cv) (h : ∀ id, id < s.hp.length → g'.ρ id = g.ρ id) (l : List ab) : bl g' { s with hp := s.hp ++ l } w a o cv := by
 cases o with
 | slot n => exact hl
 | cell id j =>
   obtain ⟨cs, arr, e, ho, hj, hb, ha⟩ := hl
   obtain ⟨hid, _⟩ := aw ho
   have hlt : id < s.hp.length := (List.getElem?_eq_some_iff.1 hid).1
   exact ⟨cs, arr, e, dF ho l, hj, by rw [h id hlt]; exact hb, ha⟩
 | res => exact hl
theorem fL (h : SR g s w a) {o : Occ} (hs : (bY.opn o).step s = some (true, s')) : ∃ g', SR g' s' w a ∧ FR g s.hp w g' s'.hp w := by
 simp only [bY.step] at hs
 split at hs
 ·rename_i k xs hat
  simp only [Option.some.injEq, Prod.mk.injEq, decide_eq_true_eq] at hs
  obtain ⟨hpos, rfl⟩ := hs
  obtain ⟨cv, hl, hv, ho⟩ := dW h hat (by simp)
  rcases ho with ⟨rfl, _⟩ | ⟨b, cap, arr, e, fz, h0, rfl, h2, h3, h4, h5, h6, h7, h8, h9⟩
  ·simp at hpos
  ·have hmax : xs.length ≤ aS := Nat.le_trans h2 h3
   obtain ⟨p1, p2, p3, p4⟩ := h.fill hl (v := .hd xs.length) rfl rfl (.hd _ _ _ hmax) (by simp [aa])
   have hbar : ca (some o) (s.put? o (.hd xs.length)) := fK hl rfl rfl
   let s1 := s.put? o (.hd xs.length)
   let g1 : Gh := { g with O := fun b' => if b' = b then none else g.O b' }
   have hno : ∀ (id : Nat) cs, s1.hp[id]? = some (some cs) → g.ρ id ≠ b := by
    intro id cs hid e'
    have := p1.hr.notO id cs hid
    rw [e', h4] at this
    simp at this
   have k1 : SR g1 s1 w a := by
    refine p1.keep (some o) hbar rfl (Up.refl _ _ _ _) ?_ ?_ h.hr.exI ?_
    ·intro occ b' hb' hne
     have hbb : b' ≠ b := by
      rintro rfl
      rw [h4] at hb'
      exact hne hb'
     exact ⟨by simp [g1, hbb, hb'], rfl, fun j hj => hj⟩
    ·intro id cs hid
     exact ⟨rfl, by simp [g1, hno id cs hid, p1.hr.notO id cs hid], fun j hj => hj⟩
    ·intro b' o' hb'
     simp only [g1] at hb'
     split at hb'
     ·simp at hb'
     ·exact h.hr.oLt _ _ hb'
   have k2 := k1.addRow (b := b) (cap := cap) h0 h2 h5 h6 h7 h8 (by simp [g1]) hno h9
   let g2 : Gh := { g1 with ρ := fun id => if id = s1.hp.length then b else if id = s1.hp.length + 1 then cap else g1.ρ id }
   let s2 : St := { s1 with hp := s1.hp ++ [some [.rw k xs], none] }
   have hrho : ∀ id, id < s1.hp.length → g2.ρ id = g.ρ id := fun id hid => by
    simp only [g2]
    rw [if_neg (by omega), if_neg (by omega)]
   have hl2 : bl g2 s2 w a o (.slice (some ⟨b, 0, none⟩) xs.length cap) := bl.append (g := g) p4 hrho _
   have hsw : VRel g2.I g2.ρ s2.hp.length w (.sw k s1.hp.length xs.length) (.slice (some ⟨b, 0, none⟩) xs.length cap) := by
    have hr1 : g2.ρ (s1.hp.length + 1) = cap := by simp [g2]
    have hr0 : g2.ρ s1.hp.length = b := by simp [g2]
    have := VRel.sw (I := g2.I) (ρ := g2.ρ) (N := s2.hp.length) (w := w) k s1.hp.length xs.length (by simp [s2]) (by rw [hr1]; exact h2) (by rw [hr1]; exact h3)
    rw [hr1, hr0] at this
    exact this
   obtain ⟨q1, q2, q3, q4⟩ := SR.fill (g := g2) (s := s2) k2 hl2 (v := .sw k s1.hp.length xs.length) rfl rfl hsw (by simp [aa])
   have hlen : s1.hp.length = s.hp.length := p3
   have hput : s2.put? o (.sw k s1.hp.length xs.length) = { s.put? o (.sw k s.hp.length xs.length) with hp := (s.put? o (.sw k s.hp.length xs.length)).hp ++ [some [.rw k xs], none] } := by
    have e1 := fv (g := g) (w := w) (a := a) p4 (.sw k s1.hp.length xs.length) [some [.rw k xs], none]
    rw [fe hl rfl p4] at e1
    rw [hlen] at e1
    show ({ s1 with hp := s1.hp ++ [some [.rw k xs], none] } : St).put? o (.sw k s1.hp.length xs.length) = _
    rw [hlen]
    exact e1
   rw [hput] at q1 q2
   refine ⟨g2, q1, ?_⟩
   refine p2.trans (FR.trans (g₁ := g2) (hp₁ := s2.hp) (w₁ := w) ?_ q2)
   refine ⟨rfl, rfl, rfl, rfl, Nat.le_refl _, fun _ _ _ _ => rfl, ⟨fun _ _ hi => hi, fun _ _ _ => rfl, hrho, by simp [s2, s1]⟩, fun _ _ _ _ _ hi => hi, ?_, ?_⟩
   ·intro b' _ _ hO
    show (if b' = b then none else g.O b') = none
    split
    ·rfl
    ·exact hO
   ·intro id cs hid
    rcases Nat.lt_or_ge id s1.hp.length with hi | hi
    ·left
     have : s2.hp[id]? = s1.hp[id]? := by simp only [s2]; rw [List.getElem?_append_left hi]
     rw [this] at hid
     exact ⟨cs, hid⟩
    ·right
     refine ⟨hi, .inr (.inl ?_)⟩
     have hid' : id = s1.hp.length := by
      simp only [s2] at hid
      rw [List.getElem?_append_right hi] at hid
      match hq : id - s1.hp.length, hid with
      | 0, _ => omega
      | 1, hid => simp at hid
      | n + 2, hid => simp at hid
     subst hid'
     have : g2.ρ s1.hp.length = b := by simp [g2]
     rw [this, h4]
     simp
 ·obtain rfl : s = s' := by simpa using hs
  exact ⟨g, h, FR.refl _ _ _⟩
theorem fM (h : SR g s w a) {o : Occ} (hs : (bY.cls o).step s = some (true, s')) : ∃ g', SR g' s' w a ∧ FR g s.hp w g' s'.hp w := by
 simp only [bY.step] at hs
 split at hs
 ·rename_i k id n hat
  split at hs
  ·rename_i k' xs ho
   split at hs
   ·rename_i hk
    subst hk
    simp only [Option.some.injEq, Prod.mk.injEq] at hs
    obtain ⟨hn, rfl⟩ := hs
    obtain rfl := Nat.eq_of_beq_eq_true hn
    obtain ⟨cv, hl, hv, -⟩ := dW h hat (by simp)
    obtain ⟨arr, e, fz, hb, hsz, hok, hrel⟩ := fu h ho
    obtain ⟨t1, t2, t3, t4⟩ := hok.typed k' xs rfl
    have hid := eI ho
    cases hv with
    | sw _ _ _ hN hc hm =>
    obtain ⟨p1, p2, p3, p4⟩ := h.fill hl (v := .hd xs.length) rfl rfl (.hd _ _ _ (Nat.le_trans hc hm)) (by simp [aa])
    let s1 := s.put? o (.hd xs.length)
    have hid1 : s1.hp[id]? = some (some [.rw k' xs]) := by
     cases o with
     | slot n => exact hid
     | cell id' j =>
       obtain ⟨cs, arr', e', ho', hj, _, _⟩ := hl
       have hne : id' ≠ id := by
        rintro rfl
        obtain ⟨h1, h2⟩ := aw ho'
        rw [hid] at h1
        cases h1
        simp [ak] at h2
       simp only [s1, St.put?, ho', St.setObj]
       rw [List.getElem?_set_ne hne]
       exact hid
     | res => exact absurd hl (by simp [bl])
    let g1 : Gh := { g with O := fun b' => if b' = g.ρ id then some o else g.O b' }
    let s2 : St := { s1 with hp := s1.hp.set id none }
    have sub : ∀ (i : Nat) cs, s2.hp[i]? = some (some cs) → i ≠ id ∧ s1.hp[i]? = some (some cs) := by
     intro i cs hi
     simp only [s2, List.getElem?_set] at hi
     split at hi
     ·split at hi <;> simp at hi
     ·rename_i hne; exact ⟨fun e => hne e.symm, hi⟩
    have hbO : g.O (g.ρ id) = none := p1.hr.notO id _ hid1
    have okeep : ∀ occ v cv, aa g w occ v cv → aa g1 w occ v cv := by
     intro occ v cv hoo
     refine ap hoo rfl (fun b j hi => ⟨hi, rfl⟩) ?_
     intro b hb'
     refine ⟨?_, rfl, fun j hj => hj⟩
     have : b ≠ g.ρ id := by rintro rfl; rw [hbO] at hb'; simp at hb'
     simp [g1, this, hb']
    have hlen : s2.hp.length = s1.hp.length := by simp [s2]
    have k1 : SR g1 s2 w a := by
     refine ⟨⟨?_, ?_, ?_, ?_, p1.hr.exI, ?_⟩, ⟨p1.er.size, fun m v cv hv hcv => by rw [hlen]; exact p1.er.rel m v cv hv hcv, fun m v cv hv hcv => okeep _ _ _ (p1.er.own m v cv hv hcv)⟩⟩
     ·intro i cs hi
      obtain ⟨hne, hi⟩ := sub i cs hi
      obtain ⟨arr', e', fz, m1, m2⟩ := p1.hr.obj i cs hi
      rw [hlen]
      exact ⟨arr', e', fz, m1, m2.len, m2.plain, m2.typed, m2.cold, m2.one, m2.rel, fun j c cv hc hcv => okeep _ _ _ (m2.own j c cv hc hcv), m2.bn⟩
     ·intro i i' cs cs' h1 h2 hne
      exact p1.hr.apart i i' cs cs' (sub i cs h1).2 (sub i' cs' h2).2 hne
     ·intro i cs hi
      exact p1.hr.notI i cs (sub i cs hi).2
     ·intro i cs hi
      obtain ⟨hne, hi⟩ := sub i cs hi
      have : g.ρ i ≠ g.ρ id := p1.hr.apart i id cs _ hi hid1 hne
      show (if g.ρ i = g.ρ id then some o else g.O (g.ρ i)) = none
      rw [if_neg this]
      exact p1.hr.notO i cs hi
     ·intro b' o' hb'
      simp only [g1] at hb'
      split at hb'
      ·rename_i e'; subst e'
       rcases Nat.lt_or_ge (g.ρ id) w.heap.size with hlt | hlt
       ·exact hlt
       ·simp [Array.getElem?_eq_none hlt] at hb
      ·exact h.hr.oLt _ _ hb'
    have hl2 : bl g1 s2 w a o (.slice (some ⟨g.ρ id, 0, none⟩) xs.length (g.ρ (id + 1))) := by
     cases o with
     | slot n => exact p4
     | cell id' j =>
       obtain ⟨cs, arr', e', ho', hj, hb', ha⟩ := p4
       refine ⟨cs, arr', e', ?_, hj, hb', ha⟩
       have hne : id ≠ id' := by
        rintro rfl
        obtain ⟨h1, h2⟩ := aw ho'
        rw [show (s.put? (.cell id j) (.hd xs.length)).hp[id]? = some (some [.rw k' xs]) from hid1] at h1
        cases h1
        simp [ak] at h2
       unfold St.obj at ho' ⊢
       simp only [s2, List.getD] at ho' ⊢
       rw [List.getElem?_set_ne hne]
       exact ho'
     | res => exact p4
    have hul : dU g1 w o k' xs (.slice (some ⟨g.ρ id, 0, none⟩) xs.length (g.ρ (id + 1))) :=
     .inr ⟨g.ρ id, g.ρ (id + 1), arr, e, fz, t1, rfl, hc, hm, by simp [g1], hb, t2, t4, fun j => p1.hr.notI id _ hid1 j, fun i x j v u h1 h2 h3 => dV h2 (hrel i x j v u h1 h2 h3)⟩
    obtain ⟨q1, q2, q3, q4⟩ := SR.fill (g := g1) (s := s2) k1 hl2 (v := .ul k' xs) rfl rfl (.ul _ _ _ _ (Nat.le_trans hc hm)) hul
    have hput : s2.put? o (.ul k' xs) = { s.put? o (.ul k' xs) with hp := (s.put? o (.ul k' xs)).hp.set id none } := by
     cases o with
     | slot n => simp [s2, s1, St.put?, St.set]
     | cell id' j =>
       obtain ⟨cs, arr', e', ho', hj, _, _⟩ := hl
       obtain ⟨cs2, arr2, e2, ho2, hj2, _, _⟩ := hl2
       obtain ⟨h1, h2⟩ := aw ho'
       have hlt : id' < s.hp.length := (List.getElem?_eq_some_iff.1 h1).1
       have hne : id' ≠ id := by
        rintro rfl
        rw [hid] at h1
        cases h1
        simp [ak] at h2
       have he : s1 = s.setObj id' (cs.set j (.hd xs.length)) := by simp only [s1, St.put?, ho']
       obtain ⟨h3, _⟩ := aw ho2
       simp only [s2] at h3
       rw [List.getElem?_set_ne (Ne.symm hne), he] at h3
       simp only [St.setObj, List.getElem?_set, hlt, if_true, Option.some.injEq] at h3
       subst h3
       simp only [St.put?]
       rw [ho2, ho']
       simp only [s2, he, St.setObj, List.set_set]
       rw [List.set_comm _ _ hne, List.set_set]
       rw [List.set_comm _ _ (Ne.symm hne)]
     | res => rfl
    rw [hput] at q1 q2
    refine ⟨g1, q1, p2.trans (FR.trans (g₁ := g1) (hp₁ := s2.hp) (w₁ := w) ?_ q2)⟩
    refine ⟨rfl, rfl, rfl, rfl, Nat.le_refl _, fun _ _ _ _ => rfl, ⟨fun _ _ hi => hi, fun _ _ _ => rfl, fun _ _ => rfl, by rw [hlen]; exact Nat.le_refl _⟩, fun _ _ _ _ _ hi => hi, ?_, fun i cs hi => .inl ⟨cs, (sub i cs hi).2⟩⟩
    intro b' _ hno hO
    show (if b' = g.ρ id then some o else g.O b') = none
    rw [if_neg (fun e => hno id _ hid1 e.symm)]
    exact hO
   ·simp at hs
  ·simp at hs
 ·obtain rfl : s = s' := by simpa using hs
  exact ⟨g, h, FR.refl _ _ _⟩
theorem f6 (h : SR g s w a) {o : Occ} (hs : (bY.fz o).step s = some (true, s')) : ∃ g', SR g' s' w a ∧ FR g s.hp w g' s'.hp w := by
 simp only [bY.step] at hs
 split at hs
 ·rename_i k xs hat
  obtain rfl : _ = s' := by simpa using hs
  obtain ⟨cv, hl, hv, ho⟩ := dW h hat (by simp)
  rcases ho with ⟨rfl, rfl⟩ | ⟨b, cap, arr, e, fz, h0, rfl, h2, h3, h4, h5, h6, h7, h8, h9⟩
  ·obtain ⟨p1, p2, p3, p4⟩ := h.fill hl (v := .sl k .own []) rfl rfl (.sln _ _) (by simp [aa])
   exact ⟨g, p1, p2⟩
  ·have hmax : xs.length ≤ aS := Nat.le_trans h2 h3
   obtain ⟨p1, p2, p3, p4⟩ := h.fill hl (v := .hd xs.length) rfl rfl (.hd _ _ _ hmax) (by simp [aa])
   have hbar : ca (some o) (s.put? o (.hd xs.length)) := fK hl rfl rfl
   let s1 := s.put? o (.hd xs.length)
   let g1 : Gh := { g with I := fun b' j => g.I b' j ∨ (b' = b ∧ j < xs.length * k.sz) }
   have hlen : xs.length * k.sz ≤ arr.size := Nat.le_trans (Nat.mul_le_mul_right _ h2) h6
   have hno : ∀ (id : Nat) cs, s1.hp[id]? = some (some cs) → g.ρ id ≠ b := by
    intro id cs hid e'
    have := p1.hr.notO id cs hid
    rw [e', h4] at this
    simp at this
   have u : Up g.I g.ρ s1.hp.length w g1.I g1.ρ s1.hp.length w := ⟨fun _ _ hi => .inl hi, fun _ _ _ => rfl, fun _ _ => rfl, Nat.le_refl _⟩
   have k1 : SR g1 s1 w a := by
    refine p1.keep (some o) hbar rfl u ?_ ?_ ?_ h.hr.oLt
    ·intro occ b' hb' hne
     have hbb : b' ≠ b := by
      rintro rfl
      rw [h4] at hb'
      exact hne hb'
     refine ⟨hb', rfl, ?_⟩
     rintro j (hj | ⟨hj, _⟩)
     ·exact hj
     ·exact absurd hj hbb
    ·intro id cs hid
     refine ⟨rfl, p1.hr.notO id cs hid, ?_⟩
     rintro j (hj | ⟨hj, _⟩)
     ·exact hj
     ·exact absurd hj (hno id cs hid)
    ·rintro b' j (hj | ⟨rfl, hj⟩)
     ·exact h.hr.exI b' j hj
     ·rw [ac h5, Array.getElem?_eq_getElem (by omega)]; rfl
   have hl2 : bl g1 s1 w a o (.slice (some ⟨b, 0, none⟩) xs.length cap) := p4
   have hk0 : ∀ x : Ty k, ∀ j, j < (enc k x).length → j < k.sz := fun x j hj => by rwa [aC] at hj
   have hrel : VRel g1.I g1.ρ s1.hp.length w (.sl k .own xs) (.slice (some ⟨b, 0, none⟩) xs.length cap) := by
    refine .sl k .own xs _ _ _ _ rfl h2 h3 (by simp) (fun i j => arr[i * k.sz + j]?.getD undef) ?_ ?_ ?_
    ·intro i x j hx hj
     exact .inr ⟨rfl, by have := eH (List.getElem?_eq_some_iff.1 hx).1 (hk0 x j hj); omega⟩
    ·intro i x j hx hj
     have := eH (List.getElem?_eq_some_iff.1 hx).1 (hk0 x j hj)
     rw [Nat.zero_add, ac h5, Array.getElem?_eq_getElem (by omega)]
     rfl
    ·intro i x j v hx hj
     have hjl := (List.getElem?_eq_some_iff.1 hj).1
     have := eH (List.getElem?_eq_some_iff.1 hx).1 (hk0 x j hjl)
     have ha : arr[i * k.sz + j]? = some (arr[i * k.sz + j]'(by omega)) := Array.getElem?_eq_getElem _
     rw [ha]
     exact (dV (ρ' := g.ρ) (N' := s1.hp.length) hj (h9 i x j v _ hx hj ha)).up u
   have hown : aa g1 w o (.sl k .own xs) (.slice (some ⟨b, 0, none⟩) xs.length cap) := by
    refine ⟨h4, ⟨arr, e, fz, h5, by simpa using h6, h7⟩, ?_⟩
    intro j j1 j2
    simp only [Nat.zero_add] at j1 j2
    refine ⟨?_, by
     have := h0 j (by omega)
     simp only [World.frozen?, h5, Bool.and_eq_false_iff, decide_eq_false_iff_not]
     omega⟩
    rintro (hi | ⟨_, hi⟩)
    ·exact h8 j hi
    ·omega
   obtain ⟨q1, q2, q3, q4⟩ := SR.fill (g := g1) (s := s1) k1 hl2 (v := .sl k .own xs) rfl rfl hrel hown
   rw [fe hl rfl p4] at q1 q2
   refine ⟨g1, q1, p2.trans (FR.trans (g₁ := g1) (hp₁ := s1.hp) (w₁ := w) ?_ q2)⟩
   refine ⟨rfl, rfl, rfl, rfl, Nat.le_refl _, fun _ _ _ _ => rfl, u, ?_, fun _ _ _ hO => hO, fun _ cs h => .inl ⟨cs, h⟩⟩
   rintro b' j _ _ hO (hj | ⟨rfl, _⟩)
   ·exact hj
   ·rw [h4] at hO; simp at hO
 ·obtain rfl : s = s' := by simpa using hs
  exact ⟨g, h, FR.refl _ _ _⟩
theorem dh (h : SR g s w a) {x : bY} (hs : x.step s = some (true, s')) : ∃ g', SR g' s' w a ∧ FR g s.hp w g' s'.hp w := by
 cases x with
 | opn o => exact fL h hs
 | cls o => exact fM h hs
 | fz o => exact f6 h hs
variable {w' : World} {P : Program} {Γ : aj} {m : Oper} {next : Act → World → Prop} {Q : Exit → Act → World → Prop}
end
end Go.AM
end
noncomputable section
namespace Go.AM
set_option autoImplicit false
set_option linter.unusedSimpArgs false
set_option linter.unusedVariables false
def ASrc.slots : ASrc → List Nat
 | .t n | .tk n => [n]
 | .c _ => []
def ASrc.takes : ASrc → List Nat
 | .tk n => [n]
 | _ => []
def fN : Option ASrc → List Nat
 | some x => x.slots
 | none => []
def IOp.rd : IOp → List Nat
 | .mov _ x | .un _ _ x | .lens _ x | .lenl _ x | .fad _ _ x | .ld _ _ _ _ x | .ext _ _ x | .nck _ x | .boxe _ x | .lde _ _ _ x => x.slots
 | .frz _ r _ v => r :: v.slots
 | .pick _ c x y=> c.slots ++ (x.slots ++ y.slots)
 | .bin _ _ x y | .idx _ x y | .ixa _ _ x y | .st _ _ x y | .app _ _ x y | .apps _ x y=> x.slots ++ y.slots
 | .bsl _ _ ps _=> ps.flatMap ASrc.slots
 | .newb _ _=> []
 | .call _ _ avs=> avs.flatMap ASrc.slots
def IOp.wr (o : IOp) : List Nat :=
 o.dst.toList ++ (match o with | .mov _ x | .app _ _ x _ | .apps _ x _ | .st _ _ _ x => x.takes | .frz _ r _ _ => [r] | _ => [])
def IOp.cls (imp : List Nat) : IOp → Nat
 | .ld _ _ _ false _=> 1
 | .ld _ _ _ true _ | .st .. | .newb ..=> 2
 | .call _ f _ => if imp.contains f then 2 else 0
 | _ => 0
def dr (hp : List ab) (q : List (Nat × ab)) : List ab := q.foldl (fun h p => h.set p.1 p.2) hp
structure aE (Γ : aj) (imp : List Nat) : Prop where
 pure : ∀ f avs hp, imp.contains f = false → Γ f avs hp = (Γ f avs []).map fun x => (x.1, x.2.1, hp)
 loc : ∀ f vs hp c v hp', imp.contains (f + 2000000) = true → Γ f vs hp = some (c, v, hp') → ∃ q : List (Nat × ab), (∀ p ∈ q, p.1 ∈ dz vs) ∧ hp' = dr hp q ∧
  ∀ hp2 : List ab, hp2.length = hp.length → (∀ i ∈ fG vs, hp2[i]? = hp[i]?) → Γ f vs hp2 = some (c, v, dr hp2 q)
theorem di (q : List (Nat × ab)) : ∀ hp : List ab, (dr hp q).length = hp.length := by
 induction q with
 | nil => intro hp; rfl
 | cons p q ih => intro hp; show (dr (hp.set p.1 p.2) q).length = _; rw [ih]; simp
theorem eJ {q : List (Nat × ab)} {i : Nat} : ∀ {hp : List ab}, (∀ p ∈ q, p.1 ≠ i) → (dr hp q)[i]? = hp[i]? := by
 induction q with
 | nil => intro hp _; rfl
 | cons p q ih =>
   intro hp h
   show (dr (hp.set p.1 p.2) q)[i]? = _
   rw [ih (fun x hx => h x (List.mem_cons_of_mem _ hx)), List.getElem?_set_ne (h p (List.mem_cons_self ..))]
theorem fO {hp hp2 : List ab} {i : Nat} (h : hp2[i]? = hp[i]?) : hp2.getD i none = hp.getD i none := by
 rw [List.getD_eq_getElem?_getD, List.getD_eq_getElem?_getD, h]
def St.upd (s : St) (l : List (Nat × V)) : St := { s with env := l.foldl (fun e p => e.set p.1 p.2) s.env }
section
variable {Γ : aj} {imp : List Nat}
theorem an {s t : St} {x : ASrc} (h : ∀ n ∈ x.slots, t.get n = s.get n) : x.ev t = x.ev s := by
 cases x with
 | t n => simp only [ASrc.ev]; rw [h n (by simp [ASrc.slots])]
 | tk n => exact h n (by simp [ASrc.slots])
 | c v => rfl
theorem fP {s t : St} {x : Option ASrc} (h : ∀ n ∈ fN x, t.get n = s.get n) : ew t x = ew s x := by
 cases x with
 | none => rfl
 | some x => simp only [ew]; rw [an h]
theorem al (s : St) (d : Option Nat) (v : V) : s.setO d v = s.upd (d.toList.map fun d => (d, v)) := by cases d <;> rfl
theorem aI (s : St) (x : ASrc) : x.after s = s.upd (x.takes.map fun n => (n, disown (s.get n))) := by cases x <;> rfl
theorem aV (s : St) (l m : List (Nat × V)) : (s.upd l).upd m = s.upd (l ++ m) := by simp [St.upd, List.foldl_append]
theorem c6 {s : St} : ∀ {l : List (Nat × V)} {n : Nat}, (∀ p ∈ l, p.1 ≠ n) → (s.upd l).get n = s.get n := by
 intro l
 induction l generalizing s with
 | nil => intro n h; rfl
 | cons p l ih =>
   intro n h
   have : s.upd (p :: l) = (s.set p.1 p.2).upd l := rfl
   rw [this, ih (fun q hq => h q (List.mem_cons_of_mem _ hq))]
   simp [St.get, St.set, List.getD, List.getElem?_set, h p (List.mem_cons_self ..)]
def gm (Γ : aj) (imp : List Nat) (o : IOp) (s : St) (c : Bool) (s' : St) : Prop :=
 ∃ u : List (Nat × V), (∀ p ∈ u, p.1 ∈ o.wr) ∧ s' = s.upd u ∧ ∀ t : St, (∀ n ∈ o.rd, t.get n = s.get n) → (o.cls imp = 1 → t.hp = s.hp) → step Γ o t = some (c, t.upd u)
theorem am {o : IOp} {s s' : St} {c : Bool} (E : Option (Bool × V)) (hE : ∀ t : St, (∀ n ∈ o.rd, t.get n = s.get n) → (o.cls imp = 1 → t.hp = s.hp) → step Γ o t = E.map fun p => (p.1, t.setO o.dst p.2))
  (h : step Γ o s = some (c, s')) : gm Γ imp o s c s' := by
 rw [hE s (fun _ _ => rfl) (fun _ => rfl)] at h
 cases E with
 | none => simp at h
 | some p =>
   simp only [Option.map_some, Option.some.injEq, Prod.mk.injEq] at h
   obtain ⟨rfl, rfl⟩ := h
   refine ⟨o.dst.toList.map fun d => (d, p.2), ?_, al _ _ _, ?_⟩
   ·intro q hq
    simp only [List.mem_map] at hq
    obtain ⟨d, hd, rfl⟩ := hq
    simp [IOp.wr, hd]
   ·intro t ht hh
    rw [hE t ht hh, ← al]
    rfl
theorem fw (hP : aE Γ imp) {o : IOp} (hw : o.cls imp ≤ 1) {s : St} {c : Bool} {s' : St} (h : step Γ o s = some (c, s')) :
  gm Γ imp o s c s' := by
 have s1 : ∀ {x : ASrc} {l : List Nat} {t : St}, (∀ n ∈ l, t.get n = s.get n) → (∀ n ∈ x.slots, n ∈ l) → x.ev t = x.ev s := fun h1 h2 => an fun n hn => h1 n (h2 n hn)
 have s2 : ∀ {x : Option ASrc} {l : List Nat} {t : St}, (∀ n ∈ l, t.get n = s.get n) → (∀ n ∈ fN x, n ∈ l) → ew t x = ew s x := fun h1 h2 => fP fun n hn => h1 n (h2 n hn)
 cases o with
 | mov d x =>
   obtain ⟨rfl, rfl⟩ : true = c ∧ _ = s' := by simpa [step] using h
   refine ⟨x.takes.map (fun n => (n, disown (s.get n))) ++ [(d, x.ev s)], ?_, ?_, ?_⟩
   ·intro p hp
    simp only [List.mem_append, List.mem_map, List.mem_singleton] at hp
    rcases hp with ⟨n, hn, rfl⟩ | rfl
    ·simp [IOp.wr, IOp.dst, hn]
    ·simp [IOp.wr, IOp.dst]
   ·rw [← aV, ← aI]; rfl
   ·intro t ht _
    have e := an (x := x) ht
    have e2 : x.takes.map (fun n => (n, disown (t.get n))) = x.takes.map (fun n => (n, disown (s.get n))) := by
     cases x with
     | tk n => simp only [ASrc.takes, List.map]; rw [ht n (by simp [IOp.rd, ASrc.slots])]
     | _ => rfl
    simp only [step, e]
    rw [aI, e2, ← aV]; rfl
 | app d k x y =>
   simp only [step] at h
   split at h
   ·rename_i k' ox l k'' ow m hx hy
    split at h
    ·rename_i hk
     split at h
     ·rename_i hkk
      simp only [Option.some.injEq, Prod.mk.injEq] at h
      obtain ⟨rfl, rfl⟩ := h
      refine ⟨x.takes.map (fun n => (n, disown (s.get n))) ++ [(d, .sl k' .own (l ++ (hkk ▸ m)))], ?_, ?_, ?_⟩
      ·intro p hp
       simp only [List.mem_append, List.mem_map, List.mem_singleton] at hp
       rcases hp with ⟨n, hn, rfl⟩ | rfl
       ·simp [IOp.wr, IOp.dst, hn]
       ·simp [IOp.wr, IOp.dst]
      ·rw [← aV, ← aI]; rfl
      ·intro t ht _
       have e1 := an (x := x) (fun n hn => ht n (by simp [IOp.rd, hn]))
       have e3 := an (x := y) (fun n hn => ht n (by simp [IOp.rd, hn]))
       have e2 : x.takes.map (fun n => (n, disown (t.get n))) = x.takes.map (fun n => (n, disown (s.get n))) := by
        cases x with
        | tk n => simp only [ASrc.takes, List.map]; rw [ht n (by simp [IOp.rd, ASrc.slots])]
        | _ => rfl
       simp only [step, e1, e3, hx, hy, hk, hkk, dif_pos, if_true]
       rw [aI, e2, ← aV]; rfl
     ·simp at h
    ·simp at h
   ·simp at h
 | apps d x y =>
   simp only [step] at h
   split at h
   ·rename_i l m hx hy
    simp only [Option.some.injEq, Prod.mk.injEq] at h
    obtain ⟨rfl, rfl⟩ := h
    refine ⟨x.takes.map (fun n => (n, disown (s.get n))) ++ [(d, .sl .u8 .own (l ++ m))], ?_, ?_, ?_⟩
    ·intro p hp
     simp only [List.mem_append, List.mem_map, List.mem_singleton] at hp
     rcases hp with ⟨n, hn, rfl⟩ | rfl
     ·simp [IOp.wr, IOp.dst, hn]
     ·simp [IOp.wr, IOp.dst]
    ·rw [← aV, ← aI]; rfl
    ·intro t ht _
     have e1 := an (x := x) (fun n hn => ht n (by simp [IOp.rd, hn]))
     have e3 := an (x := y) (fun n hn => ht n (by simp [IOp.rd, hn]))
     have e2 : x.takes.map (fun n => (n, disown (t.get n))) = x.takes.map (fun n => (n, disown (s.get n))) := by
      cases x with
      | tk n => simp only [ASrc.takes, List.map]; rw [ht n (by simp [IOp.rd, ASrc.slots])]
      | _ => rfl
     simp only [step, e1, e3, hx, hy]
     rw [aI, e2, ← aV]; rfl
   ·simp at h
 | newb => simp [IOp.cls] at hw
 | st => simp [IOp.cls] at hw
 | lde d n agg x =>
   refine am (match x.ev s with | .ea cs => if n ≤ cs.length then some (true, disown (loaded agg (cs.take n))) else none | _ => none) (fun t ht _ => ?_) h
   have e0 : x.ev t = x.ev s := s1 ht (by simp +contextual [IOp.rd])
   simp only [step, e0, IOp.dst, St.setO]
   split
   ·split <;> first | rfl | (simp_all; done)
   ·first | rfl | (simp_all; done)
 | frz d r n v =>
   simp only [step] at h
   split at h
   ·rename_i m hr
    split at h
    ·rename_i hc
     simp only [Option.some.injEq, Prod.mk.injEq] at h
     obtain ⟨rfl, rfl⟩ := h
     refine ⟨[(r, .ea ((v.ev s).cells.map disown))] ++ (d.toList.map fun d => (d, .undef)), ?_, ?_, ?_⟩
     ·intro p hp
      simp only [List.mem_append, List.mem_map, List.mem_singleton] at hp
      rcases hp with rfl | ⟨m, hm, rfl⟩
      ·simp [IOp.wr]
      ·simp [IOp.wr, IOp.dst, hm]
     ·rw [← aV, ← al]; rfl
     ·intro t ht _
      have e1 := an (x := v) (fun n hn => ht n (by simp [IOp.rd, hn]))
      have e2 : t.get r = s.get r := ht r (by simp [IOp.rd])
      simp only [step, e1, e2, hr, hc, if_true]
      rw [← aV, ← al]; rfl
    ·simp at h
   ·simp at h
 | boxe d x =>
   refine am (match x.ev s with | .agg cs => some (true, .ea (cs.map disown)) | v => if v.one then some (true, .ea [disown v]) else none) (fun t ht _ => ?_) h
   have e0 : x.ev t = x.ev s := s1 ht (by simp +contextual [IOp.rd])
   simp only [step, e0, IOp.dst, St.setO]
   split
   ·first | rfl | (simp_all; done)
   ·split <;> first | rfl | (simp_all; done)
 | pick d cc x y =>
   refine am (match cc.ev s with | .bool t => some (true, en t (disown (x.ev s)) (disown (y.ev s))) | _ => none) (fun t ht _ => ?_) h
   have e0 : cc.ev t = cc.ev s := s1 ht (by simp +contextual [IOp.rd])
   have e1 : x.ev t = x.ev s := s1 ht (by simp +contextual [IOp.rd])
   have e2 : y.ev t = y.ev s := s1 ht (by simp +contextual [IOp.rd])
   simp only [step, e0, e1, e2, IOp.dst, St.setO]
   split <;> first | rfl | (simp_all; done)
 | bin d o x y =>
   refine am (fZ o (x.ev s) (y.ev s)) (fun t ht _ => ?_) h
   have e0 : x.ev t = x.ev s := s1 ht (by simp +contextual [IOp.rd])
   have e1 : y.ev t = y.ev s := s1 ht (by simp +contextual [IOp.rd])
   simp only [step, e0, e1, IOp.dst, St.setO]
 | un d o x =>
   refine am ((unV o (x.ev s)).map fun v => (true, v)) (fun t ht _ => ?_) h
   have e0 : x.ev t = x.ev s := s1 ht (by simp +contextual [IOp.rd])
   simp only [step, e0, IOp.dst, St.setO]
   cases unV o (x.ev s) <;> rfl
 | lens d x =>
   refine am (match x.ev s with | .str l => some (true, .int .i64 l.length) | _ => none) (fun t ht _ => ?_) h
   have e0 : x.ev t = x.ev s := s1 ht (by simp +contextual [IOp.rd])
   simp only [step, e0, IOp.dst, St.setO]
   split <;> first | rfl | (simp_all; done)
 | lenl d x =>
   refine am (match x.ev s with | .sl _ _ l => some (true, .int .i64 l.length) | _ => none) (fun t ht _ => ?_) h
   have e0 : x.ev t = x.ev s := s1 ht (by simp +contextual [IOp.rd])
   simp only [step, e0, IOp.dst, St.setO]
   split <;> first | rfl | (simp_all; done)
 | idx d x i =>
   refine am (match x.ev s, i.ev s with | .str l, .int _ i => some (decide (0 ≤ i) && decide (i < l.length), .int .u8 (l.getD i.toNat 0).toNat) | _, _ => none) (fun t ht _ => ?_) h
   have e0 : x.ev t = x.ev s := s1 ht (by simp +contextual [IOp.rd])
   have e1 : i.ev t = i.ev s := s1 ht (by simp +contextual [IOp.rd])
   simp only [step, e0, e1, IOp.dst, St.setO]
   split <;> first | rfl | (simp_all; done)
 | ixa d k x i =>
   refine am (match x.ev s, i.ev s with | .sl k' _ l, .int _ i => if k' = k then some (decide (0 ≤ i) && decide (i < l.length), .ea (enc k' (l.getD i.toNat (es k')))) else none | _, _ => none) (fun t ht _ => ?_) h
   have e0 : x.ev t = x.ev s := s1 ht (by simp +contextual [IOp.rd])
   have e1 : i.ev t = i.ev s := s1 ht (by simp +contextual [IOp.rd])
   simp only [step, e0, e1, IOp.dst, St.setO]
   split
   ·split <;> first | rfl | (simp_all; done)
   ·first | rfl | (simp_all; done)
 | bsl d k ps u =>
   refine am ((decAll k (ps.map (·.ev s))).map fun l => (true, .sl k (cond u (.may true) .own) l)) (fun t ht _ => ?_) h
   have e : ps.map (·.ev t) = ps.map (·.ev s) := List.map_congr_left fun x hx => s1 ht (fun n hn => by simp only [IOp.rd, List.mem_flatMap]; exact ⟨x, hx, hn⟩)
   simp only [step, e, IOp.dst, St.setO, Option.map_map]
   rfl
 | fad d off x =>
   refine am (match x.ev s with | .ea cs => some (true, .ea (cs.drop off)) | .ptr id o => some (true, .ptr id (o + off)) | _ => none) (fun t ht _ => ?_) h
   have e0 : x.ev t = x.ev s := s1 ht (by simp +contextual [IOp.rd])
   simp only [step, e0, IOp.dst, St.setO]
   split <;> first | rfl | (simp_all; done)
 | ld d n agg take x =>
   cases take with
   | true => simp [IOp.cls] at hw
   | false =>
     refine am (match x.ev s with | .ea cs => if n ≤ cs.length then some (true, disown (loaded agg (cs.take n))) else none | .ptr id o => (match s.obj id with | some cs => if o + n ≤ cs.length then some (true, disown (loaded agg ((cs.drop o).take n))) else none | none => none) | _ => none) (fun t ht hh => ?_) h
     have e0 : x.ev t = x.ev s := s1 ht (by simp +contextual [IOp.rd])
     have e1 : ∀ id, t.obj id = s.obj id := fun id => by simp only [St.obj]; rw [hh rfl]
     simp only [step, e0, e1, IOp.dst, St.setO]
     split
     ·split <;> first | rfl | (simp_all; done)
     ·split
      ·split <;> first | rfl | (simp_all; done)
      ·first | rfl | (simp_all; done)
     ·first | rfl | (simp_all; done)
 | ext d i x =>
   refine am (match x.ev s with | .tup vs => if i < vs.length then some (true, disown (vs.getD i .undef)) else none | _ => none) (fun t ht _ => ?_) h
   have e0 : x.ev t = x.ev s := s1 ht (by simp +contextual [IOp.rd])
   simp only [step, e0, IOp.dst, St.setO]
   split
   ·split <;> first | rfl | (simp_all; done)
   ·first | rfl | (simp_all; done)
 | nck d x =>
   refine am (match x.ev s with | .ptr id o => some (true, .ptr id o) | .ea cs => some (true, .ea cs) | _ => none) (fun t ht _ => ?_) h
   have e0 : x.ev t = x.ev s := s1 ht (by simp +contextual [IOp.rd])
   simp only [step, e0, IOp.dst]
   split <;> first | rfl | (simp_all; done)
 | call d f avs =>
   have hf : imp.contains f = false := by
    simp only [IOp.cls] at hw
    split at hw
    ·omega
    ·rename_i hf; simpa using hf
   refine am ((Γ f (avs.map fun x => disown (x.ev s)) []).map fun x => (x.1, x.2.1)) (fun t ht _ => ?_) h
   have e : (avs.map fun x => disown (x.ev t)) = avs.map fun x => disown (x.ev s) := List.map_congr_left fun x hx => by
    rw [s1 (x := x) ht (fun n hn => by simp only [IOp.rd, List.mem_flatMap]; exact ⟨x, hx, hn⟩)]
   simp only [step, e, IOp.dst]
   rw [hP.pure _ _ _ hf]
   cases Γ f (avs.map fun x => disown (x.ev s)) [] with
   | none => rfl
   | some p => rfl
def St.put (s : St) (u : List (Nat × V)) (q : Option (List ab)) : St := { s.upd u with hp := q.getD s.hp }
theorem eV (hP : aE Γ imp) {o : IOp} {s : St} {c : Bool} {s' : St} (h : step Γ o s = some (c, s')) :
  ∃ (u : List (Nat × V)) (q : Option (List ab)), (∀ p ∈ u, p.1 ∈ o.wr) ∧ (o.cls imp ≤ 1 → q = none) ∧ s' = s.put u q ∧
    ∀ t : St, (∀ n ∈ o.rd, t.get n = s.get n) → (1 ≤ o.cls imp → t.hp = s.hp) → step Γ o t = some (c, t.put u q) := by
 have s1 : ∀ {x : ASrc} {l : List Nat} {t : St}, (∀ n ∈ l, t.get n = s.get n) → (∀ n ∈ x.slots, n ∈ l) → x.ev t = x.ev s := fun h1 h2 => an fun n hn => h1 n (h2 n hn)
 by_cases hw : o.cls imp ≤ 1
 ·obtain ⟨u, h1, h2, h3⟩ := fw hP hw h
  exact ⟨u, none, h1, fun _ => rfl, h2, fun t ht hh => h3 t ht (fun e => hh (by omega))⟩
 ·have hno : ∀ {q : Option (List ab)}, o.cls imp ≤ 1 → q = none := fun h => absurd h hw
  cases o with
  | newb d zero =>
    obtain ⟨rfl, rfl⟩ : true = c ∧ _ = s' := by simpa [step] using h
    refine ⟨[(d, .ptr s.hp.length 0)], some (s.hp ++ [some zero]), by simp [IOp.wr, IOp.dst], hno, rfl, fun t ht hh => ?_⟩
    have e := hh (by simp [IOp.cls])
    simp only [step, e]
    rfl
  | st d n x v =>
    simp only [step] at h
    split at h
    ·rename_i id o hx
     split at h
     ·rename_i cs ho
      split at h
      ·rename_i hcond
       simp only [Option.some.injEq, Prod.mk.injEq] at h
       obtain ⟨rfl, rfl⟩ := h
       refine ⟨v.takes.map (fun n => (n, disown (s.get n))) ++ d.toList.map (fun d => (d, V.undef)), some (s.hp.set id (some (cs.take o ++ (v.ev s).cells ++ cs.drop (o + n)))), ?_, hno, ?_, ?_⟩
       ·intro p hp
        simp only [List.mem_append, List.mem_map] at hp
        rcases hp with ⟨m, hm, rfl⟩ | ⟨m, hm, rfl⟩
        ·simp [IOp.wr, IOp.dst, hm]
        ·simp [IOp.wr, IOp.dst, hm]
       ·simp only [St.put, ← aV, ← aI, ← al]
        cases d <;> cases v <;> rfl
       ·intro t ht hh
        have e := hh (by simp [IOp.cls])
        have e0 : x.ev t = x.ev s := s1 ht (by simp +contextual [IOp.rd])
        have e1 : v.ev t = v.ev s := s1 ht (by simp +contextual [IOp.rd])
        have e3 : t.obj id = s.obj id := by simp only [St.obj]; rw [e]
        have e2 : v.takes.map (fun n => (n, disown (t.get n))) = v.takes.map (fun n => (n, disown (s.get n))) := by
         cases v with
         | tk n => simp only [ASrc.takes, List.map]; rw [ht n (by simp [IOp.rd, ASrc.slots])]
         | _ => rfl
        simp only [step, e0, e1, e3, hx, ho]
        rw [if_pos hcond, ← e2, ← e]
        simp only [St.put, ← aV, ← aI, ← al]
        cases d <;> cases v <;> rfl
      ·simp at h
     ·simp at h
    ·simp at h
  | ld d n agg take x =>
    cases take with
    | false => simp [IOp.cls] at hw
    | true =>
      have e0 : ∀ t : St, (∀ m ∈ (IOp.ld d n agg true x).rd, t.get m = s.get m) → x.ev t = x.ev s := fun t ht => s1 ht (by simp +contextual [IOp.rd])
      simp only [step] at h
      split at h
      ·rename_i cs hx
       split at h
       ·rename_i hle
        simp only [Option.some.injEq, Prod.mk.injEq] at h
        obtain ⟨rfl, rfl⟩ := h
        refine ⟨[(d, _)], none, by simp [IOp.wr, IOp.dst], hno, rfl, fun t ht hh => ?_⟩
        simp only [step, e0 t ht, hx]
        rw [if_pos hle]; rfl
       ·simp at h
      ·rename_i id o hx
       split at h
       ·rename_i cs ho
        split at h
        ·rename_i hle
         simp only [if_true] at h
         cases hnb : noBn (cs.getD o .undef) with
         | false => rw [hnb] at h; simp at h
         | true =>
         rw [hnb] at h
         simp only [if_true, Option.some.injEq, Prod.mk.injEq] at h
         obtain ⟨rfl, rfl⟩ := h
         refine ⟨[(d, loaded agg ((cs.drop o).take n))], some (s.hp.set id (some (cs.set o (disown (cs.getD o .undef))))), by simp [IOp.wr, IOp.dst], hno, rfl, fun t ht hh => ?_⟩
         have e := hh (by simp [IOp.cls])
         have e3 : t.obj id = s.obj id := by simp only [St.obj]; rw [e]
         simp only [step, e0 t ht, hx, e3, ho]
         rw [if_pos hle, hnb, ← e]; rfl
        ·simp at h
       ·simp at h
      ·simp at h
  | call d f avs =>
    have e0 : ∀ t : St, (∀ n ∈ (IOp.call d f avs).rd, t.get n = s.get n) → (avs.map fun x => disown (x.ev t)) = avs.map fun x => disown (x.ev s) := fun t ht => List.map_congr_left fun x hx => by
     rw [s1 (x := x) ht (fun n hn => by simp only [IOp.rd, List.mem_flatMap]; exact ⟨x, hx, hn⟩)]
    simp only [step] at h
    split at h
    ·rename_i c' v hp' hg
     simp only [Option.some.injEq, Prod.mk.injEq] at h
     obtain ⟨rfl, rfl⟩ := h
     refine ⟨d.toList.map (fun d => (d, v)), some hp', ?_, hno, ?_, fun t ht hh => ?_⟩
     ·intro p hp
      simp only [List.mem_map] at hp
      obtain ⟨m, hm, rfl⟩ := hp
      simp [IOp.wr, IOp.dst, hm]
     ·simp only [St.put, ← al]
      cases d <;> rfl
     ·have e := hh (by omega)
      simp only [step, e0 t ht, e, hg]
      simp only [St.put, ← al]
      cases d <;> rfl
    ·simp at h
  | _ => simp [IOp.cls] at hw
def ay (Γ : aj) (x : GOp) (s : St) : Option St :=
 match x.g with
 | none => match stepO Γ x.ob x.o s with | some (c, s') => chk c (some s') | none => none
 | some (g, w) => match s.get g with
   | .bool b => match b == w with
     | true => match stepO Γ x.ob x.o s with | some (c, s') => chk c (some s') | none => none
     | false => some (s.setO x.o.dst (.tup []))
   | .tup [] => some (s.setO x.o.dst (.tup []))
   | _ => none
theorem gB (s : St) (n : Nat) {v : V} (h : s.get n = v) : s.set n v = s := by
 subst h
 simp only [St.set, St.get, List.getD]
 congr 1
 apply List.ext_getElem?
 intro m
 rw [List.getElem?_set]
 split
 ·rename_i e
  subst e
  split
  ·rename_i hlt; simp [List.getElem?_eq_getElem hlt]
  ·rename_i hlt; simp [List.getElem?_eq_none (Nat.le_of_not_lt hlt)]
 ·rfl
theorem ch {R : Type} (x : GOp) (l : List GOp) (K : St → Option R) (s : St) : runOps Γ (x :: l) K s = (ay Γ x s).bind (runOps Γ l K) := by
 obtain ⟨g, o, ob⟩ := x
 have go : ∀ s, (match stepO Γ ob o s with | some (c, s') => chk c (runOps Γ l K s') | none => none) = (match stepO Γ ob o s with | some (c, s') => chk c (some s') | none => none).bind (runOps Γ l K) := by
  intro s
  split
  ·rename_i c s' _; cases c <;> rfl
  ·rfl
 cases g with
 | none => simp only [runOps, ay]; exact go s
 | some g =>
   obtain ⟨g, w⟩ := g
   simp only [runOps, ay]
   split
   ·rename_i b hb
    rw [hb]
    cases b <;> cases w <;> simp only [cond_true, cond_false, gB s g hb] <;> first | exact go s | rfl
   ·rename_i hb
    rw [hb]
    rfl
   ·rename_i hno hno2
    split
    ·rename_i b hb; exact absurd hb (hno b)
    ·rename_i hb; exact absurd hb hno2
    ·rfl
theorem fQ {o : IOp} {s t : St} (h : ∀ n ∈ o.rd, t.get n = s.get n) : o.foot t = o.foot s := by
 cases o with
 | ld d n agg take x => simp only [IOp.foot]; rw [an (x := x) h]
 | st d n x v => simp only [IOp.foot]; rw [an (x := x) fun n hn => h n (by simp [IOp.rd, hn])]
 | call d f avs =>
   have e : avs.map (fun x => disown (x.ev t)) = avs.map (fun x => disown (x.ev s)) := List.map_congr_left fun x hx => by rw [an fun n hn => h n (by simp only [IOp.rd, List.mem_flatMap]; exact ⟨x, hx, hn⟩)]
   simp only [IOp.foot, e]
 | _ => rfl
theorem dG {ob : Option (List Nat × List Nat)} {o : IOp} {s t : St} {p q : Bool × St} (h : stepO Γ ob o s = some p) (ht : ∀ n ∈ o.rd, t.get n = s.get n) (hq : step Γ o t = some q) : stepO Γ ob o t = some q := by
 cases ob with
 | none => exact hq
 | some l =>
   simp only [stepO] at h ⊢
   have e : o.within l t = o.within l s := by simp only [IOp.within, fQ ht]
   rw [e]
   cases hw : o.within l s with
   | true => exact hq
   | false => rw [hw] at h; simp at h
def GOp.rd (x : GOp) : List Nat := (match x.g with | some (g, _) => [g] | none => []) ++ x.o.rd
theorem cT (hP : aE Γ imp) {x : GOp} {s s' : St} (h : ay Γ x s = some s') :
  ∃ (u : List (Nat × V)) (q : Option (List ab)), (∀ p ∈ u, p.1 ∈ x.o.wr) ∧ (x.o.cls imp ≤ 1 → q = none) ∧ s' = s.put u q ∧
    ∀ t : St, (∀ n ∈ x.rd, t.get n = s.get n) → (1 ≤ x.o.cls imp → t.hp = s.hp) → ay Γ x t = some (t.put u q) := by
 obtain ⟨g, o, ob⟩ := x
 have go : (match stepO Γ ob o s with | some (c, s') => chk c (some s') | none => none) = some s' → ∃ (u : List (Nat × V)) (q : Option (List ab)), (∀ p ∈ u, p.1 ∈ o.wr) ∧ (o.cls imp ≤ 1 → q = none) ∧ s' = s.put u q ∧
   ∀ t : St, (∀ n ∈ o.rd, t.get n = s.get n) → (1 ≤ o.cls imp → t.hp = s.hp) → (match stepO Γ ob o t with | some (c, s') => chk c (some s') | none => none) = some (t.put u q) := by
  intro h
  split at h
  ·rename_i c s₁ hst
   cases c with
   | false => simp [chk] at h
   | true =>
     obtain rfl : s₁ = s' := by simpa [chk] using h
     obtain ⟨u, q, h1, h2, h3, h4⟩ := eV hP (b6 hst)
     exact ⟨u, q, h1, h2, h3, fun t ht hh => by rw [dG hst ht (h4 t ht hh)]; rfl⟩
  ·simp at h
 cases g with
 | none =>
   obtain ⟨u, q, h1, h2, h3, h4⟩ := go h
   exact ⟨u, q, h1, h2, h3, fun t ht hh => h4 t (fun n hn => ht n (by simp [GOp.rd, hn])) hh⟩
 | some g =>
   obtain ⟨g, w⟩ := g
   simp only [ay] at h
   split at h
   ·rename_i b hb
    split at h
    ·rename_i hbw
     obtain ⟨u, q, h1, h2, h3, h4⟩ := go h
     refine ⟨u, q, h1, h2, h3, fun t ht hh => ?_⟩
     have e := ht g (by simp [GOp.rd])
     simp only [ay, e, hb, hbw]
     exact h4 t (fun n hn => ht n (by simp [GOp.rd, hn])) hh
    ·rename_i hbw
     obtain rfl : _ = s' := by simpa using h
     refine ⟨o.dst.toList.map (fun d => (d, V.tup [])), none, ?_, fun _ => rfl, by rw [al]; rfl, fun t ht hh => ?_⟩
     ·intro p hp
      simp only [List.mem_map] at hp
      obtain ⟨m, hm, rfl⟩ := hp
      simp [IOp.wr, hm]
     ·have e := ht g (by simp [GOp.rd])
      simp only [ay, e, hb, hbw]
      rw [al]; rfl
   ·rename_i hb
    obtain rfl : _ = s' := by simpa using h
    refine ⟨o.dst.toList.map (fun d => (d, V.tup [])), none, ?_, fun _ => rfl, by rw [al]; rfl, fun t ht hh => ?_⟩
    ·intro p hp
     simp only [List.mem_map] at hp
     obtain ⟨m, hm, rfl⟩ := hp
     simp [IOp.wr, hm]
    ·have e := ht g (by simp [GOp.rd])
     simp only [ay, e, hb]
     rw [al]; rfl
   ·simp at h
def ds (a b : List Nat) : Bool := a.all fun n => !b.contains n
def IOp.obable (imp : List Nat) : IOp → Bool
 | .ld .. | .st ..=> true
 | .call _ f _ => imp.contains (f + 2000000)
 | _ => false
def apart (imp : List Nat) (x y : GOp) : Bool := (x.o.obable imp && y.o.obable imp) && (match x.ob, y.ob with
 | some (r, w), some (r', w') => ds w r' && (ds w w' && ds w' r)
 | _, _ => false)
def dH (imp : List Nat) (x y : GOp) : Bool :=
 ds x.o.wr y.rd && (ds y.o.wr x.rd && (ds x.o.wr y.o.wr && (((Nat.ble (x.o.cls imp) 1 || Nat.beq (y.o.cls imp) 0) && (Nat.ble (y.o.cls imp) 1 || Nat.beq (x.o.cls imp) 0)) || apart imp x y)))
def St.putH (s : St) (u : List (Nat × V)) (q : List (Nat × ab)) : St := { s.upd u with hp := dr s.hp q }
theorem du {s t : St} {i : Nat} (h : t.hp[i]? = s.hp[i]?) : t.obj i = s.obj i := by
 unfold St.obj
 rw [fO h]
theorem fR (hP : aE Γ imp) {o : IOp} (ho : o.obable imp = true) {s : St} {c : Bool} {s' : St} {r w : List Nat} (hf : o.foot s = some (r, w)) (h : step Γ o s = some (c, s')) :
  ∃ (u : List (Nat × V)) (q : List (Nat × ab)), (∀ p ∈ u, p.1 ∈ o.wr) ∧ (∀ p ∈ q, p.1 ∈ w) ∧ s' = s.putH u q ∧
    ∀ t : St, (∀ n ∈ o.rd, t.get n = s.get n) → t.hp.length = s.hp.length → (∀ i, i ∈ r ∨ i ∈ w → t.hp[i]? = s.hp[i]?) → step Γ o t = some (c, t.putH u q) := by
 cases o with
 | ld d n agg take x =>
   have ex : ∀ t : St, (∀ n ∈ (IOp.ld d n agg take x).rd, t.get n = s.get n) → x.ev t = x.ev s := fun t ht => an ht
   cases hx : x.ev s with
   | ea cs =>
     simp only [step, hx] at h
     split at h
     ·rename_i hn
      simp only [Option.some.injEq, Prod.mk.injEq] at h
      obtain ⟨rfl, rfl⟩ := h
      refine ⟨[(d, disown (loaded agg (cs.take n)))], [], by simp [IOp.wr, IOp.dst], by simp, rfl, fun t ht _ _ => ?_⟩
      simp only [step, ex t ht, hx, if_pos hn]
      rfl
     ·simp at h
   | ptr id o =>
     simp only [IOp.foot, hx, Option.some.injEq] at hf
     simp only [step, hx] at h
     cases hob : s.obj id with
     | none => rw [hob] at h; simp at h
     | some cs =>
       rw [hob] at h
       simp only at h
       split at h
       ·rename_i hn
        cases take with
        | false =>
          simp only [cond_false, Prod.mk.injEq] at hf
          obtain ⟨rfl, rfl⟩ := hf
          simp only [Bool.false_eq_true, if_false, Option.some.injEq, Prod.mk.injEq] at h
          obtain ⟨rfl, rfl⟩ := h
          refine ⟨[(d, disown (loaded agg ((cs.drop o).take n)))], [], by simp [IOp.wr, IOp.dst], by simp, rfl, fun t ht _ hh => ?_⟩
          have e := du (hh id (.inl (by simp)))
          simp only [step, ex t ht, hx, e, hob, if_pos hn]
          rfl
        | true =>
          simp only [cond_true, Prod.mk.injEq] at hf
          obtain ⟨rfl, rfl⟩ := hf
          simp only [if_true] at h
          split at h
          ·rename_i hb
           simp only [Option.some.injEq, Prod.mk.injEq] at h
           obtain ⟨rfl, rfl⟩ := h
           refine ⟨[(d, loaded agg ((cs.drop o).take n))], [(id, some (cs.set o (disown (cs.getD o .undef))))], by simp [IOp.wr, IOp.dst], by simp, rfl, fun t ht _ hh => ?_⟩
           have e := du (hh id (.inr (by simp)))
           simp only [step, ex t ht, hx, e, hob, if_pos hn, if_true, if_pos hb]
           rfl
          ·simp at h
       ·simp at h
   | _ => simp [IOp.foot, hx] at hf
 | st d n x v =>
   have ex : ∀ t : St, (∀ n ∈ (IOp.st d n x v).rd, t.get n = s.get n) → x.ev t = x.ev s := fun t ht => an fun n hn => ht n (by simp [IOp.rd, hn])
   have ev : ∀ t : St, (∀ n ∈ (IOp.st d n x v).rd, t.get n = s.get n) → v.ev t = v.ev s := fun t ht => an fun n hn => ht n (by simp [IOp.rd, hn])
   have ea : ∀ t : St, (∀ n ∈ (IOp.st d n x v).rd, t.get n = s.get n) → v.takes.map (fun n => (n, disown (t.get n))) = v.takes.map (fun n => (n, disown (s.get n))) := by
    intro t ht
    cases v with
    | tk m => simp only [ASrc.takes, List.map]; rw [ht m (by simp [IOp.rd, ASrc.slots])]
    | _ => rfl
   cases hx : x.ev s with
   | ptr id o =>
     simp only [IOp.foot, hx, Option.some.injEq, Prod.mk.injEq] at hf
     obtain ⟨rfl, rfl⟩ := hf
     simp only [step, hx] at h
     cases hob : s.obj id with
     | none => rw [hob] at h; simp at h
     | some cs =>
       rw [hob] at h
       simp only at h
       split at h
       ·rename_i hn
        simp only [Option.some.injEq, Prod.mk.injEq] at h
        obtain ⟨rfl, rfl⟩ := h
        refine ⟨v.takes.map (fun n => (n, disown (s.get n))) ++ d.toList.map (fun d => (d, V.undef)), [(id, some (cs.take o ++ (v.ev s).cells ++ cs.drop (o + n)))], ?_, by simp, ?_, fun t ht _ hh => ?_⟩
        ·intro p hp
         simp only [List.mem_append, List.mem_map] at hp
         rcases hp with ⟨m, hm, rfl⟩ | ⟨m, hm, rfl⟩
         ·simp [IOp.wr, IOp.dst, hm]
         ·simp only [Option.mem_toList] at hm
          simp [IOp.wr, IOp.dst, hm]
        ·rw [aI, al]
         simp only [St.putH, ← aV]
         rfl
        ·have e := du (hh id (.inr (by simp)))
         simp only [step, ex t ht, ev t ht, hx, e, hob, if_pos hn]
         rw [aI, al, ea t ht]
         simp only [St.putH, ← aV]
         rfl
       ·simp at h
   | _ => simp [IOp.foot, hx] at hf
 | call d f avs =>
   have e : ∀ t : St, (∀ n ∈ (IOp.call d f avs).rd, t.get n = s.get n) → avs.map (fun x => disown (x.ev t)) = avs.map (fun x => disown (x.ev s)) := fun t ht => List.map_congr_left fun x hx => by rw [an fun n hn => ht n (by simp only [IOp.rd, List.mem_flatMap]; exact ⟨x, hx, hn⟩)]
   simp only [IOp.foot, Option.some.injEq, Prod.mk.injEq] at hf
   obtain ⟨rfl, rfl⟩ := hf
   simp only [step] at h
   split at h
   ·rename_i c' v' hp' hg
    simp only [Option.some.injEq, Prod.mk.injEq] at h
    obtain ⟨rfl, rfl⟩ := h
    obtain ⟨q, q1, rfl, q3⟩ := hP.loc f _ _ _ _ _ ho hg
    refine ⟨d.toList.map (fun d => (d, v')), q, ?_, q1, ?_, fun t ht hl hh => ?_⟩
    ·intro p hp
     simp only [List.mem_map, Option.mem_toList] at hp
     obtain ⟨m, hm, rfl⟩ := hp
     simp [IOp.wr, IOp.dst, hm]
    ·rw [al]; rfl
    ·have := q3 t.hp hl (fun i hi => hh i (.inl hi))
     simp only [step, e t ht, this]
     rw [al]; rfl
   ·simp at h
 | _ => simp [IOp.obable] at ho
theorem eW {o : IOp} {R W : List Nat} {s : St} (h : o.within (R, W) s = true) : ∃ r w, o.foot s = some (r, w) ∧ (∀ i ∈ r, i ∈ R ∨ i ∈ W) ∧ ∀ i ∈ w, i ∈ W := by
 unfold IOp.within at h
 split at h
 ·rename_i r w hf
  simp only [Bool.and_eq_true, List.all_eq_true, Bool.or_eq_true, List.any_eq_true] at h
  refine ⟨r, w, hf, ?_, ?_⟩
  ·intro i hi
   rcases h.1 i hi with ⟨j, hj, e⟩ | ⟨j, hj, e⟩
   ·left; rw [Nat.eq_of_beq_eq_true e]; exact hj
   ·right; rw [Nat.eq_of_beq_eq_true e]; exact hj
  ·intro i hi
   obtain ⟨j, hj, e⟩ := h.2 i hi
   rw [Nat.eq_of_beq_eq_true e]; exact hj
 ·simp at h
theorem dI (hP : aE Γ imp) {x : GOp} {R W : List Nat} (ho : x.o.obable imp = true) (hob : x.ob = some (R, W)) {s s' : St} (h : ay Γ x s = some s') :
  ∃ (u : List (Nat × V)) (q : List (Nat × ab)), (∀ p ∈ u, p.1 ∈ x.o.wr) ∧ (∀ p ∈ q, p.1 ∈ W) ∧ s' = s.putH u q ∧
    ∀ t : St, (∀ n ∈ x.rd, t.get n = s.get n) → t.hp.length = s.hp.length → (∀ i, i ∈ R ∨ i ∈ W → t.hp[i]? = s.hp[i]?) → ay Γ x t = some (t.putH u q) := by
 obtain ⟨g, o, ob⟩ := x
 obtain rfl : ob = some (R, W) := hob
 have go : (match stepO Γ (some (R, W)) o s with | some (c, s') => chk c (some s') | none => none) = some s' → ∃ (u : List (Nat × V)) (q : List (Nat × ab)), (∀ p ∈ u, p.1 ∈ o.wr) ∧ (∀ p ∈ q, p.1 ∈ W) ∧ s' = s.putH u q ∧
   ∀ t : St, (∀ n ∈ o.rd, t.get n = s.get n) → t.hp.length = s.hp.length → (∀ i, i ∈ R ∨ i ∈ W → t.hp[i]? = s.hp[i]?) → (match stepO Γ (some (R, W)) o t with | some (c, s') => chk c (some s') | none => none) = some (t.putH u q) := by
  intro h
  split at h
  ·rename_i c s₁ hst
   cases c with
   | false => simp [chk] at h
   | true =>
     obtain rfl : s₁ = s' := by simpa [chk] using h
     have hw : o.within (R, W) s = true := by
      cases hw : o.within (R, W) s with
      | true => rfl
      | false => simp [stepO, hw] at hst
     obtain ⟨r, w, hf, hr, hwW⟩ := eW hw
     obtain ⟨u, q, h1, h2, h3, h4⟩ := fR hP ho hf (b6 hst)
     exact ⟨u, q, h1, fun p hp => hwW _ (h2 p hp), h3, fun t ht hl hh => by
      rw [dG hst ht (h4 t ht hl (fun i hi => hi.elim (fun hi => hh i (hr i hi)) (fun hi => hh i (.inr (hwW i hi)))))]; rfl⟩
  ·simp at h
 have off : ∀ s : St, s.setO o.dst (.tup []) = s.putH (o.dst.toList.map fun d => (d, V.tup [])) [] := fun s => by rw [al]; rfl
 have offw : ∀ p ∈ o.dst.toList.map fun d => (d, V.tup []), p.1 ∈ o.wr := by
  intro p hp
  simp only [List.mem_map] at hp
  obtain ⟨m, hm, rfl⟩ := hp
  simp [IOp.wr, hm]
 cases g with
 | none =>
   obtain ⟨u, q, h1, h2, h3, h4⟩ := go h
   exact ⟨u, q, h1, h2, h3, fun t ht => h4 t (fun n hn => ht n (by simp [GOp.rd, hn]))⟩
 | some g =>
   obtain ⟨g, w⟩ := g
   simp only [ay] at h
   split at h
   ·rename_i b hb
    split at h
    ·rename_i hbw
     obtain ⟨u, q, h1, h2, h3, h4⟩ := go h
     refine ⟨u, q, h1, h2, h3, fun t ht hl hh => ?_⟩
     have e := ht g (by simp [GOp.rd])
     simp only [ay, e, hb, hbw]
     exact h4 t (fun n hn => ht n (by simp [GOp.rd, hn])) hl hh
    ·rename_i hbw
     obtain rfl : _ = s' := by simpa using h
     refine ⟨_, [], offw, by simp, off s, fun t ht hl hh => ?_⟩
     have e := ht g (by simp [GOp.rd])
     simp only [ay, e, hb, hbw]
     rw [off]
   ·rename_i hb
    obtain rfl : _ = s' := by simpa using h
    refine ⟨_, [], offw, by simp, off s, fun t ht hl hh => ?_⟩
    have e := ht g (by simp [GOp.rd])
    simp only [ay, e, hb]
    rw [off]
   ·simp at h
theorem bD {a b : List Nat} (h : ds a b = true) : ∀ n ∈ a, n ∉ b := by
 intro n hn
 have := List.all_eq_true.1 h n hn
 simpa using this
theorem dX {α : Type} (u : List (Nat × α)) : ∀ (e : List α) (n : Nat) (v : α), (∀ p ∈ u, p.1 ≠ n) → u.foldl (fun e p => e.set p.1 p.2) (e.set n v) = (u.foldl (fun e p => e.set p.1 p.2) e).set n v := by
 induction u with
 | nil => intro e n v _; rfl
 | cons p u ih =>
   intro e n v h
   simp only [List.foldl_cons]
   rw [List.set_comm _ _ (Ne.symm (h p (List.mem_cons_self ..))), ih _ _ _ (fun q hq => h q (List.mem_cons_of_mem _ hq))]
theorem bB {α : Type} (v : List (Nat × α)) : ∀ (u : List (Nat × α)) (e : List α), (∀ p ∈ u, ∀ q ∈ v, p.1 ≠ q.1) →
  v.foldl (fun e p => e.set p.1 p.2) (u.foldl (fun e p => e.set p.1 p.2) e) = u.foldl (fun e p => e.set p.1 p.2) (v.foldl (fun e p => e.set p.1 p.2) e) := by
 induction v with
 | nil => intro u e _; rfl
 | cons q v ih =>
   intro u e h
   simp only [List.foldl_cons]
   rw [← dX u e q.1 q.2 (fun p hp => h p hp q (List.mem_cons_self ..)), ih u _ (fun p hp r hr => h p hp r (List.mem_cons_of_mem _ hr))]
theorem hW (hP : aE Γ imp) {x y : GOp} (hi : dH imp y x = true) {s s1 s2 : St} (h1 : ay Γ y s = some s1) (h2 : ay Γ x s1 = some s2) :
  ∃ s1', ay Γ x s = some s1' ∧ ay Γ y s1' = some s2 := by
 simp only [dH, Bool.and_eq_true, Bool.or_eq_true, Nat.ble_eq] at hi
 obtain ⟨d1, d2, d3, hi⟩ := hi
 have d1 := bD d1
 have d2 := bD d2
 have d3 := bD d3
 rcases hi with ⟨c1, c2⟩ | ha
 case inr =>
  simp only [apart, Bool.and_eq_true] at ha
  obtain ⟨⟨oy, ox⟩, ha⟩ := ha
  split at ha
  ·rename_i Ry Wy Rx Wx hby hbx
   simp only [Bool.and_eq_true] at ha
   obtain ⟨a1, a2, a3⟩ := ha
   have a1 := bD a1
   have a2 := bD a2
   have a3 := bD a3
   obtain ⟨uy, qy, wy, ky, rfl, ly⟩ := dI hP oy hby h1
   obtain ⟨ux, qx, wx, kx, rfl, lx⟩ := dI hP ox hbx h2
   have gy : ∀ t : St, ∀ n ∈ x.rd, (t.putH uy qy).get n = t.get n := fun t n hn => c6 (s := t) (l := uy) (fun p hp e => d1 p.1 (wy p hp) (e ▸ hn))
   have gx : ∀ t : St, ∀ n ∈ y.rd, (t.putH ux qx).get n = t.get n := fun t n hn => c6 (s := t) (l := ux) (fun p hp e => d2 p.1 (wx p hp) (e ▸ hn))
   have hx := lx s (fun n hn => (gy s n hn).symm) (di qy s.hp).symm (fun i hi => (eJ (fun p hp e => by
    subst e
    rcases hi with hi | hi
    ·exact a1 _ (ky p hp) hi
    ·exact a2 _ (ky p hp) hi)).symm)
   have hy := ly (s.putH ux qx) (fun n hn => gx s n hn) (di qx s.hp) (fun i hi => eJ (fun p hp e => by
    subst e
    rcases hi with hi | hi
    ·exact a3 _ (kx p hp) hi
    ·exact a2 _ hi (kx p hp)))
   refine ⟨_, hx, hy.trans ?_⟩
   congr 1
   have e1 := bB uy ux s.env (fun p hp q hq e => d3 q.1 (wy q hq) (e ▸ wx p hp))
   have e2 := bB qy qx s.hp (fun p hp q hq e => a2 q.1 (ky q hq) (e ▸ kx p hp))
   simp only [St.putH, St.upd, St.mk.injEq]
   exact ⟨e1, e2⟩
  ·simp at ha
 have c1 : y.o.cls imp ≤ 1 ∨ x.o.cls imp = 0 := c1.imp id Nat.eq_of_beq_eq_true
 have c2 : x.o.cls imp ≤ 1 ∨ y.o.cls imp = 0 := c2.imp id Nat.eq_of_beq_eq_true
 obtain ⟨uy, qy, wy, ky, rfl, ly⟩ := cT hP h1
 obtain ⟨ux, qx, wx, kx, rfl, lx⟩ := cT hP h2
 have gy : ∀ t : St, ∀ n ∈ x.rd, (t.put uy qy).get n = t.get n := fun t n hn => c6 (s := t) (l := uy) (fun p hp e => d1 p.1 (wy p hp) (e ▸ hn))
 have gx : ∀ t : St, ∀ n ∈ y.rd, (t.put ux qx).get n = t.get n := fun t n hn => c6 (s := t) (l := ux) (fun p hp e => d2 p.1 (wx p hp) (e ▸ hn))
 have hx := lx s (fun n hn => (gy s n hn).symm) (fun hc => by
  rcases c1 with c1 | c1
  ·rw [ky c1]; rfl
  ·omega)
 have hy := ly (s.put ux qx) (fun n hn => gx s n hn) (fun hc => by
  rcases c2 with c2 | c2
  ·rw [kx c2]; rfl
  ·omega)
 refine ⟨_, hx, hy.trans ?_⟩
 congr 1
 have e1 := bB uy ux s.env (fun p hp q hq e => d3 q.1 (wy q hq) (e ▸ wx p hp))
 simp only [St.put, St.upd, St.mk.injEq]
 refine ⟨e1, ?_⟩
 rcases c1 with c1 | c1
 ·rw [ky c1]; rfl
 ·rw [kx (by omega)]; rfl
theorem gn (hP : aE Γ imp) {R : Type} {K : St → Option R} {r : R} {x : GOp} {B : List GOp} : ∀ (A : List GOp) (s : St), (∀ y ∈ A, dH imp y x = true) →
  runOps Γ (A ++ x :: B) K s = some r → ∃ s', ay Γ x s = some s' ∧ runOps Γ (A ++ B) K s' = some r
 | [], s, _, h => by
   rw [List.nil_append, ch] at h
   exact Option.bind_eq_some_iff.1 h
 | y :: A, s, hA, h => by
   rw [List.cons_append, ch] at h
   obtain ⟨s1, h1, h2⟩ := Option.bind_eq_some_iff.1 h
   obtain ⟨s2, h3, h4⟩ := gn hP A s1 (fun y hy => hA y (List.mem_cons_of_mem _ hy)) h2
   obtain ⟨s1', h5, h6⟩ := hW hP (hA y (List.mem_cons_self ..)) h1 h3
   refine ⟨s1', h5, ?_⟩
   rw [List.cons_append, ch, h6]
   exact h4
end
def cK (G : Nat → List V → Option (Bool × V)) : aj := fun f vs hp => match G f vs with | some x => some (x.1, x.2, hp) | none => none
theorem dJ (G : Nat → List V → Option (Bool × V)) (imp : List Nat) : aE (cK G) imp := by
 refine ⟨?_, ?_⟩
 ·intro f avs hp _
  unfold cK
  cases G f avs <;> rfl
 ·intro f vs hp c v hp' _ h
  unfold cK at h ⊢
  cases hg : G f vs with
  | none => rw [hg] at h; simp at h
  | some x =>
    rw [hg] at h
    simp only [Option.some.injEq, Prod.mk.injEq] at h
    obtain ⟨rfl, rfl, rfl⟩ := h
    exact ⟨[], by simp, rfl, fun hp2 _ _ => rfl⟩
theorem eb {G : Nat → List V → Option (Bool × V)} {f : Nat} {vs : List V} {hp hp' : List ab} {c : Bool} {v : V} (h : cK G f vs hp = some (c, v, hp')) : G f vs = some (c, v) ∧ hp' = hp := by
 unfold cK at h
 cases hg : G f vs with
 | none => rw [hg] at h; simp at h
 | some x =>
   rw [hg] at h
   simp only [Option.some.injEq, Prod.mk.injEq] at h
   obtain ⟨rfl, rfl, rfl⟩ := h
   exact ⟨rfl, rfl⟩
end Go.AM
end
noncomputable section
namespace Go.AM
set_option autoImplicit false
set_option linter.unusedSimpArgs false
set_option linter.unusedVariables false
def ff (P : Program) (o : IOp) (m : Oper) : Bool :=
 match o with
 | _ => false
section
variable {w w' : World} {g g' : Gh} {s s' : St} {a : Act} {P : Program} {Γ : aj} {m : Oper} {next : Act → World → Prop} {Q : Exit → Act → World → Prop}
end
end Go.AM
end
noncomputable section
namespace Go.AM
set_option autoImplicit false
set_option linter.unusedSimpArgs false
set_option linter.unusedVariables false
def cA : List ASrc → List Operand → Bool
 | [], [] => true
 | x :: xs, y :: ys => ag x y && cA xs ys
 | _, _ => false
def eK : Op → Option (FuncId × List Operand)
 | .call c => match c.callee with | .value (.func f) => some (f, c.args.toList) | _ => none
 | _ => none
def fS (P : Program) (f : FuncId) : Bool := match P.funcs[f]? with | some fn => fn.body.isSome && fn.name != "runtime.NumGoroutine" | none => false
def c7 (P : Program) (o : IOp) (m : Oper) : Bool :=
 match o with
 | .call d f avs => (m.dst == d) && (match eK m.op with | some (f', as') => (f == f') && (cA avs as' && fS P f) | none => false)
 | _ => false
def fx (P : Program) (o : IOp) (m : Oper) : Bool := ai P o m || bx P o m || c7 P o m || cg P o m || c5 P o m || ff P o m || cJ P o m || gZ P o m
def dY (P : Program) (ops : Array Oper) (x : GOp) (m : Oper) : Bool :=
 fx P x.o m && (x.o.dst == m.dst) && (match x.g, m.guard with
  | none, none => true
  | some (n, b), some (j, b') => (b == b') && ((ops[j]?).bind (·.dst) == some n)
  | _, _ => false)
def bT (P : Program) (ops : Array Oper) : Nat → List GOp → Bool
 | i, [] => i == ops.size
 | i, x :: l => (match ops[i]? with | some m => dY P ops x m | none => false) && bT P ops (i + 1) l
def cd (P : Program) (imp : List Nat) (ops : Array Oper) (l : List GOp) (pre : List (List Nat)) : Bool :=
 (P.follows .mixedOrders && bT P ops 0 l) && ((List.range l.length).all fun j =>
  (match ops[j]? with
   | some m => m.after.toList.all (fun e => !Region.binds .any e || decide (e.on < j)) && (pre.getD j []).all (fun i => m.after.toList.any fun e => Region.binds .any e && (e.on == i || (pre.getD e.on []).contains i))
   | none => false) &&
  (match l[j]? with
   | some x => (List.range j).all fun i => (pre.getD j []).contains i || (match l[i]? with | some y => dH imp y x | none => false)
   | none => false))
def af (P : Program) (imp : List Nat) (base : Nat) : IR → Code → Bool
 | .bad, _ => true
 | .skip, .skip => true
 | .skip, .label _ => true
 | .reg l _, .region _ ops false => bT P ops 0 l
 | .reg l pre, .region _ ops true => cd P imp ops l pre
 | .seq x y, .seq c d => af P imp base x c && af P imp base y d
 | .cond v x y, .cond u c d => ag v u && (af P imp base x c && af P imp base y d)
 | .block i x, .block j c => i == j && af P imp base x c
 | .loop _ n x, .loop c => Nat.ble base n && af P imp base x c
 | .cut _ n x, c => Nat.ble base n && af P imp base x c
 | .gh _ x, c => af P imp base x c
 | .ghp _ x, c => af P imp base x c
 | .exit i, .exit j => i == j
 | .ret, .ret => true
 | _, _ => false
def aT (P : Program) (f : FuncId) (vs : List V) (hp : List ab) (v : V) (hp' : List ab) : Prop :=
 ∀ (w : World) (g : Gh) (cargs : Array Value), g.β = aD P → HR g hp w → vs.length = cargs.size → (∀ x ∈ vs, x.bare = true) →
   (∀ (i : Nat) x cv, vs[i]? = some x → cargs[i]? = some cv → VRel g.I g.ρ hp.length w x cv) →
   Calls P f cargs w fun e w' => ∃ cv g', e = .returned cv ∧ HR g' hp' w' ∧ FR g hp w g' hp' w' ∧ VRel g'.I g'.ρ hp'.length w' v cv ∧ aa g' w' .res v cv
def aH (P : Program) (Γ : aj) : Prop := ∀ f vs hp v hp', Γ f vs hp = some (true, v, hp') → aT P f vs hp v hp'
section
variable {w : World} {g : Gh} {s s' : St} {a : Act} {P : Program} {Γ : aj} {m : Oper} {next : Act → World → Prop} {Q : Exit → Act → World → Prop}
theorem eL (h : ER g s.hp.length w s.env a.tmps) : ∀ (xs : List ASrc) (ys : List Operand), cA xs ys = true → xs.length = ys.length ∧
  ∀ (i : Nat) v cv, (xs.map fun x => disown (x.ev s))[i]? = some v → (ys.map a.eval)[i]? = some cv → VRel g.I g.ρ s.hp.length w v cv
 | [], [], _ => ⟨rfl, by simp⟩
 | x :: xs, y :: ys, hp => by
   simp only [cA, Bool.and_eq_true] at hp
   obtain ⟨k1, k2⟩ := eL h xs ys hp.2
   refine ⟨by simp [k1], ?_⟩
   intro i v cv hv hcv
   cases i with
   | zero =>
     simp at hv hcv
     subst hv hcv
     exact (ah hp.1 h).disown
   | succ i => exact k2 i v cv (by simpa using hv) (by simpa using hcv)
 | [], _ :: _, hp => by simp [cA] at hp
 | _ :: _, [], hp => by simp [cA] at hp
theorem eX {o : Op} {f : FuncId} {avs : List Operand} (h : eK o = some (f, avs)) : ∃ ts, o = .call ⟨.value (.func f), ⟨avs⟩, ts⟩ := by
 unfold eK at h
 split at h
 ·rename_i c
  obtain ⟨callee, ⟨args⟩, ats⟩ := c
  simp only at h
  split at h
  ·simp only [Option.some.injEq, Prod.mk.injEq] at h
   obtain ⟨rfl, rfl⟩ := h
   exact ⟨_, rfl⟩
  ·simp at h
 ·simp at h
def Gh.hide (g : Gh) : Gh := { g with O := fun b => match g.O b with | some (.slot _) => none | o => o }
theorem HR.hide {hp : List ab} (h : HR g hp w) : HR g.hide hp w := by
 refine ⟨?_, h.apart, h.notI, ?_, h.exI, ?_⟩
 ·intro id cs hid
  obtain ⟨arr, e, fz, h1, h2⟩ := h.obj id cs hid
  refine ⟨arr, e, fz, h1, h2.len, h2.plain, h2.typed, h2.cold, h2.one, h2.rel, ?_, h2.bn⟩
  intro j c cv hc hcv
  have := h2.own j c cv hc hcv
  refine ap this rfl (fun b j hi => ⟨hi, rfl⟩) ?_
  intro b hb
  exact ⟨by simp [Gh.hide, hb], rfl, fun j hj => hj⟩
 ·intro id cs hid
  simp [Gh.hide, h.notO id cs hid]
 ·intro b o hb
  cases hO : g.O b with
  | none => simp [Gh.hide, hO] at hb
  | some o' => exact h.oLt b o' hO
def Gh.back (g g' : Gh) (dst : Option Nat) : Gh := { I := g'.I, ρ := g'.ρ, β := g'.β, O := fun b => match g.O b with
 | some (.slot n) => some (.slot n)
 | _ => match g'.O b with
   | some .res => dst.map .slot
   | some (.slot _) => none
   | o => o }
theorem Gh.back_else {g g' : Gh} {dst : Option Nat} {b : Nat} (h : ∀ n, g.O b ≠ some (.slot n)) : (g.back g' dst).O b = (match g'.O b with
  | some .res => dst.map .slot
  | some (.slot _) => none
  | o => o) := by
 cases hO : g.O b with
 | none => simp only [Gh.back, hO]
 | some o =>
   cases o with
   | slot n => exact absurd hO (h n)
   | cell i j => simp only [Gh.back, hO]
   | res => simp only [Gh.back, hO]
theorem fT {hp' : List ab} {w' : World} {g' : Gh} {dst : Option Nat} {v : V} {cv : Value} (h : SR g s w a) (q1 : HR g' hp' w') (q2 : FR g.hide s.hp w g' hp' w')
  (q3 : VRel g'.I g'.ρ hp'.length w' v cv) (q4 : aa g' w' .res v cv) :
  SR (g.back g' dst) (St.setO { s with hp := hp' } dst v) w' (a.put dst cv) ∧ FR g s.hp w (g.back g' dst) hp' w' := by
 have hidden : ∀ b n, g.O b = some (.slot n) → g.hide.O b = none := fun b n hb => by simp [Gh.hide, hb]
 have nonObj : ∀ b n, g.O b = some (.slot n) → ∀ (id : Nat) cs, s.hp[id]? = some (some cs) → g.hide.ρ id ≠ b := by
  intro b n hb id cs hid e
  have := h.hr.notO id cs hid
  rw [show g.ρ id = b from e, hb] at this
  simp at this
 have unslot : ∀ b o, g'.O b = some o → ∀ n, g.O b ≠ some (.slot n) := by
  intro b o hb n hn
  have := q2.oSame b (h.hr.oLt _ _ hn) (nonObj b n hn) (hidden b n hn)
  rw [this] at hb
  simp at hb
 have backO : ∀ b o, g'.O b = some o → (∀ n, o ≠ .slot n) → o ≠ .res → (g.back g' dst).O b = some o := by
  intro b o hb h1 h2
  rw [Gh.back_else (unslot b o hb), hb]
  cases o with
  | slot n => exact absurd rfl (h1 n)
  | cell i j => rfl
  | res => exact absurd rfl h2
 have blk : ∀ b n, g.O b = some (.slot n) → w'.heap[b]? = w.heap[b]? ∧ ∀ j, g'.I b j → g.I b j := by
  intro b n hb
  have hlt := h.hr.oLt _ _ hb
  exact ⟨q2.block b hlt (nonObj b n hb) (hidden b n hb), fun j hj => q2.iSame b j hlt (nonObj b n hb) (hidden b n hb) hj⟩
 have up : Up g.I g.ρ s.hp.length w g'.I g'.ρ hp'.length w' := q2.up
 have hs : SR (g.back g' dst) { s with hp := hp' } w' a := by
  refine ⟨⟨?_, q1.apart, q1.notI, ?_, q1.exI, ?_⟩, ⟨h.er.size, ?_, ?_⟩⟩
  ·intro id cs hid
   obtain ⟨arr, e, fz, h1, h2⟩ := q1.obj id cs hid
   refine ⟨arr, e, fz, h1, h2.len, h2.plain, h2.typed, h2.cold, h2.one, h2.rel, ?_, h2.bn⟩
   intro j c cv hc hcv
   refine ap (h2.own j c cv hc hcv) rfl (fun b j hi => ⟨hi, rfl⟩) ?_
   intro b hb
   exact ⟨backO b _ hb (by simp) (by simp), rfl, fun j hj => hj⟩
  ·intro id cs hid
   have h0 := q1.notO id cs hid
   show (g.back g' dst).O (g'.ρ id) = none
   by_cases hsl : ∃ n, g.O (g'.ρ id) = some (.slot n)
   ·obtain ⟨n, hn⟩ := hsl
    exfalso
    rcases q2.live id cs hid with ⟨cs₀, hl⟩ | ⟨_, hl | hl | ⟨id', cs', h5, h6⟩⟩
    ·have hlt : id < s.hp.length := (List.getElem?_eq_some_iff.1 hl).1
     rw [show g'.ρ id = g.ρ id from q2.up.rho id hlt, h.hr.notO id cs₀ hl] at hn
     simp at hn
    ·have := h.hr.oLt _ _ hn
     omega
    ·exact hl (hidden _ n hn)
    ·exact nonObj _ n hn id' cs' h5 h6
   ·rw [Gh.back_else (fun n hn => hsl ⟨n, hn⟩), h0]
  ·intro b o hb
   by_cases hsl : ∃ n, g.O b = some (.slot n)
   ·obtain ⟨n, hn⟩ := hsl
    have := h.hr.oLt _ _ hn
    exact Nat.lt_of_lt_of_le this q2.size
   ·rw [Gh.back_else (fun n hn => hsl ⟨n, hn⟩)] at hb
    cases hO : g'.O b with
    | none => rw [hO] at hb; simp at hb
    | some o' => exact q1.oLt b o' hO
  ·intro n v cv hv hcv
   exact (h.er.rel n v cv hv hcv).up up
  ·intro n v cv hv hcv
   refine ap (h.er.own n v cv hv hcv) q2.beta (fun b j hi => ⟨up.mono b j hi, up.cell b j hi⟩) ?_
   intro b hb
   obtain ⟨b1, b2⟩ := blk b n hb
   exact ⟨by simp [Gh.back, hb], b1, b2⟩
 have fr : FR g s.hp w (g.back g' dst) hp' w' := by
  refine ⟨q2.beta, q2.os, q2.tape, q2.output, q2.size, ?_, up, ?_, ?_, ?_⟩
  ·intro b hb ho hO
   exact q2.block b hb ho (by simp [Gh.hide, hO])
  ·intro b j hb ho hO hj
   exact q2.iSame b j hb ho (by simp [Gh.hide, hO]) hj
  ·intro b hb ho hO
   have := q2.oSame b hb ho (by simp [Gh.hide, hO])
   rw [Gh.back_else (by simp [hO]), this]
  ·intro id cs hid
   rcases q2.live id cs hid with hl | ⟨h1, h2 | h2 | h2⟩
   ·exact .inl hl
   ·exact .inr ⟨h1, .inl h2⟩
   ·refine .inr ⟨h1, .inr (.inl fun h3 => h2 ?_)⟩
    show (match g.O (g'.ρ id) with | some (.slot _) => none | o => o) = none
    rw [show g.O (g'.ρ id) = none from h3]
   ·exact .inr ⟨h1, .inr (.inr h2)⟩
 refine ⟨?_, fr⟩
 cases dst with
 | none => exact hs
 | some d =>
   refine hs.set d q3 ?_
   cases v with
   | sl k o xs =>
     cases o with
     | may u => simp [aa]
     | own =>
       cases cv with
       | slice ad len cap =>
         cases ad with
         | none => simp [aa]
         | some ad =>
           obtain ⟨o1, o2, o3⟩ := q4
           refine ⟨?_, o2, o3⟩
           rw [Gh.back_else (unslot _ _ o1), o1]
           rfl
       | _ => simp [aa]
   | raw n =>
     cases cv with
     | pointer ad =>
       cases ad with
       | none => simp [aa]
       | some ad =>
         obtain ⟨o1, o2, o3⟩ := q4
         refine ⟨?_, o2, o3⟩
         rw [Gh.back_else (unslot _ _ o1), o1]
         rfl
     | _ => simp [aa]
   | ul k xs =>
     rcases q4 with q4 | ⟨b, cap, arr, e, fz, m0, m1, m2, m3, m4, m5, m6, m7, m8, m9⟩
     ·exact .inl q4
     ·refine .inr ⟨b, cap, arr, e, fz, m0, m1, m2, m3, ?_, m5, m6, m7, m8, m9⟩
      rw [Gh.back_else (unslot _ _ m4), m4]
      rfl
   | _ => simp [aa]
theorem gD (hΓ : aH P Γ) (hβ : g.β = aD P) {d : Option Nat} {f : Nat} {avs : List ASrc} (hc : c7 P (.call d f avs) m = true) (hs : step Γ (.call d f avs) s = some (true, s')) (h : SR g s w a) (hn : az g s w a s' next) : m.wp P a w next Q := by
 obtain ⟨dst, op, ty, pos, aft, gd⟩ := m
 simp only [c7, Bool.and_eq_true, beq_iff_eq] at hc
 obtain ⟨rfl, hc⟩ := hc
 split at hc
 ·rename_i f' as' hop
  obtain ⟨ts, rfl⟩ := eX hop
  simp only [Bool.and_eq_true, beq_iff_eq] at hc
  obtain ⟨rfl, h1, h2⟩ := hc
  simp only [step] at hs
  split at hs
  ·rename_i c v hp' hg
   simp only [Option.some.injEq, Prod.mk.injEq] at hs
   obtain ⟨rfl, rfl⟩ := hs
   obtain ⟨k1, k2⟩ := eL h.er avs as' h1
   have hfn := hΓ _ _ _ _ _ hg
   unfold fS at h2
   split at h2
   ·rename_i fn hfn'
    simp only [Bool.and_eq_true, bne_iff_ne, ne_eq] at h2
    obtain ⟨h3, h4⟩ := h2
    have hnone : fn.body.isNone = false := by cases hb : fn.body <;> simp_all
    have hrun : (execOp a.eval ⟨dst, .call ⟨.value (.func f), ⟨as'⟩, ts⟩, ty, pos, aft, gd⟩).run P w = .ok (.enter f (as'.map a.eval).toArray) w := by
     simp [execOp, resolve, Act.eval, Deferred.ofValue, invoke, callFunc, hfn', h4, hnone]
     intro hb0
     rw [hb0] at h3
     simp at h3
    unfold Oper.wp
    rw [hrun, Oper.upon_enter]
    refine (hfn w g.hide (as'.map a.eval).toArray hβ h.hr.hide (by simp [k1]) (by
     intro x hx
     obtain ⟨y, _, rfl⟩ := List.mem_map.1 hx
     exact aq _) (fun i x cv hx hcv => k2 i x cv hx (by simpa using hcv))).mono ?_
    rintro e w' ⟨cv, g', rfl, q1, q2, q3, q4⟩
    simp only
    obtain ⟨r1, r2⟩ := fT (dst := dst) h q1 q2 q3 q4
    refine hn _ _ _ r1 ?_ (by cases dst <;> rfl)
    cases dst <;> exact r2
   ·simp at h2
  ·simp at hs
 ·simp at hc
theorem eM (hΓ : aH P Γ) (hβ : g.β = aD P) {o : IOp} (hc : fx P o m = true) (hs : step Γ o s = some (true, s')) (h : SR g s w a) (hn : az g s w a s' next) : m.wp P a w next Q := by
 unfold fx at hc
 simp only [Bool.or_eq_true] at hc
 rcases hc with ((((((hc | hc) | hc) | hc) | hc) | hc) | hc) | hc
 ·cases o with
  | pick => exact gs hc hs h hn
  | bin => exact gP hc hs h hn
  | un => exact hG hc hs h hn
  | lens => exact gt hc hs h hn
  | lenl => exact gu hc hs h hn
  | idx => exact gM hc hs h hn
  | ixa => exact gQ hc hs h hn
  | fad => exact gR hc hs h hn
  | ext => exact gS hc hs h hn
  | nck => exact gT hc hs h hn
  | ld d n agg take x =>
    cases take with
    | false => exact ft hc hs h hn
    | true => simp [ai] at hc
  | _ => simp [ai] at hc
 ·cases o with
  | mov => exact gU hc hs h hn
  | bsl => exact gV hβ hc hs h hn
  | app => exact gW hβ hc hs h hn
  | apps => exact gw hβ hc hs h hn
  | _ => simp [bx] at hc
 ·cases o with
  | call => exact gD hΓ hβ hc hs h hn
  | _ => simp [c7] at hc
 ·cases o with
  | st => exact hH hc hs h hn
  | ld d n agg take x =>
    cases take with
    | true => exact fJ hc hs h hn
    | false => simp [cg] at hc
  | _ => simp [cg] at hc
 ·cases o with
  | newb => exact gz hc hs h hn
  | _ => simp [c5] at hc
 ·cases o with
  | _ => simp [ff] at hc
 ·cases o with
  | boxe => exact gA hc hs h hn
  | frz => exact gY hc hs h hn
  | lde => exact gX hc hs h hn
  | _ => simp [cJ] at hc
 ·cases o with
  | _ => simp [gZ] at hc
structure Inv (g₀ : Gh) (hp₀ : List ab) (w₀ : World) (df : List Deferred) (g : Gh) (s : St) (w : World) (a : Act) : Prop where
 sr : SR g s w a
 fr : FR g₀ hp₀ w₀ g s.hp w
 df : a.defers = df
theorem SR.renew (h : SR g s w a) (n : Nat) (b : Bool) (hv : s.get n = .bool b) : SR g (s.set n (.bool b)) w a := by
 have := h.bare n
 rw [hv] at this
 exact this
theorem ec (h : SR g s w a) {o : Oper} {ops : Array Oper} {j n : Nat} {b b' : Bool} (hj : (ops[j]?).bind (·.dst) = some n) (hg : o.guard = some (j, b')) (hv : s.get n = .bool b) :
  Region.wanted o (yielded ops a.tmps) = (b == b') := by
 have hn : n < s.env.length := by
  rcases Nat.lt_or_ge n s.env.length with h1 | h1
  ·exact h1
  ·simp [St.get, List.getD, List.getElem?_eq_none h1] at hv
 have hn' : n < a.tmps.size := by rw [← h.er.size]; exact hn
 have r := h.er.get n
 rw [hv] at r
 have ht : a.tmps[n]? = some (a.tmps.getD n undef) := by simp [Array.getD, hn', Array.getElem?_eq_getElem hn']
 generalize a.tmps.getD n undef = cv at r ht
 cases r
 simp [Region.wanted, hg, yielded, hj, ht]
theorem ed (h : SR g s w a) {o : Oper} {ops : Array Oper} {j n : Nat} {b' : Bool} (hj : (ops[j]?).bind (·.dst) = some n) (hg : o.guard = some (j, b')) (hv : s.get n = .tup []) :
  Region.wanted o (yielded ops a.tmps) = false := by
 have hn : n < s.env.length := by
  rcases Nat.lt_or_ge n s.env.length with h1 | h1
  ·exact h1
  ·simp [St.get, List.getD, List.getElem?_eq_none h1] at hv
 have hn' : n < a.tmps.size := by rw [← h.er.size]; exact hn
 have r := h.er.get n
 rw [hv] at r
 have ht : a.tmps[n]? = some (a.tmps.getD n undef) := by simp [Array.getD, hn', Array.getElem?_eq_getElem hn']
 generalize a.tmps.getD n undef = cv at r ht
 cases r
 simp [Region.wanted, hg, yielded, hj, ht]
theorem cU (h : SR g s w a) (d : Option Nat) : SR g (s.setO d (.tup [])) w (a.put d undef) := by
 cases d with
 | none => exact h
 | some d => exact h.set d (.tup [] #[] rfl (by simp)) (by simp [aa])
theorem dZ (s : St) (d : Option Nat) (v : V) : (s.setO d v).hp = s.hp := by cases d <;> rfl
theorem eN (a : Act) (d : Option Nat) (v : Value) : (a.put d v).defers = a.defers := by cases d <;> rfl
theorem eO {R : Type} {c : Bool} {x : Option R} {r : R} (h : chk c x = some r) : c = true ∧ x = some r := by
 cases c with
 | true => exact ⟨rfl, h⟩
 | false => simp [chk] at h
theorem cj (hΓ : aH P Γ) {g₀ : Gh} (hβ : g₀.β = aD P) {R : Type} {K : St → Option R} {r : R} {ops : Array Oper} {hp₀ : List ab} {w₀ : World} {df : List Deferred} {Q : Exit → Act → World → Prop}
  (hQ : ∀ s g w a, K s = some r → Inv g₀ hp₀ w₀ df g s w a → Q .normal a w) : ∀ (l : List GOp) (i : Nat), bT P ops i l = true → ∀ (s : St) (g : Gh) (w : World) (a : Act),
   runOps Γ l K s = some r → Inv g₀ hp₀ w₀ df g s w a → wpOps P ops Q (List.range' i (ops.size - i)) a w
 | [], i, hc, s, g, w, a, hr, h => by
   simp only [bT, beq_iff_eq] at hc
   subst hc
   simp only [Nat.sub_self, List.range'_zero, wpOps]
   exact hQ s g w a hr h
 | ⟨gd, o, ob⟩ :: l, i, hc, s, g, w, a, hr, h => by
   simp only [bT, Bool.and_eq_true] at hc
   obtain ⟨hc, hl⟩ := hc
   split at hc
   ·rename_i m hm
    have hi : i < ops.size := by
     rcases Nat.lt_or_ge i ops.size with h1 | h1
     ·exact h1
     ·simp [Array.getElem?_eq_none h1] at hm
    rw [show ops.size - i = (ops.size - (i + 1)) + 1 by omega, List.range'_succ]
    simp only [dY, Bool.and_eq_true, beq_iff_eq] at hc
    obtain ⟨⟨h1, h2⟩, h3⟩ := hc
    have doit : ∀ s₁, SR g s₁ w a → s₁.hp = s.hp → ∀ c s', stepO Γ ob o s₁ = some (c, s') → chk c (runOps Γ l K s') = some r → m.wp P a w (wpOps P ops Q (List.range' (i + 1) (ops.size - (i + 1)))) Q := by
     intro s₁ hs₁ hhp c s' hst hch
     obtain ⟨rfl, hch⟩ := eO hch
     refine eM hΓ (h.fr.beta.trans hβ) h1 (b6 hst) hs₁ ?_
     intro a' w' g' hs' hf hd
     refine cj hΓ hβ hQ l (i + 1) hl s' g' w' a' hch ⟨hs', ?_, hd.trans h.df⟩
     rw [hhp] at hf
     exact h.fr.trans hf
    have skip : ∀ s₁, SR g s₁ w a → s₁.hp = s.hp → runOps Γ l K (s₁.setO o.dst (.tup [])) = some r → wpOps P ops Q (List.range' (i + 1) (ops.size - (i + 1))) (a.put m.dst undef) w := by
     intro s₁ hs₁ hhp hr'
     rw [h2] at hr'
     refine cj hΓ hβ hQ l (i + 1) hl _ g w _ hr' ⟨cU hs₁ _, ?_, (eN _ _ _).trans h.df⟩
     rw [dZ, hhp]
     exact h.fr
    simp only [wpOps, hm]
    match gd, h3, hr with
    | none, h3, hr =>
      cases hmg : m.guard with
      | some p => rw [hmg] at h3; simp at h3
      | none =>
      rw [if_pos (by simp [Region.wanted, hmg])]
      left
      simp only [runOps] at hr
      split at hr
      ·rename_i c s' hst
       exact doit s h.sr rfl c s' hst hr
      ·simp at hr
    | some (n, b), h3, hr =>
      cases hmg : m.guard with
      | none => rw [hmg] at h3; simp at h3
      | some p =>
      obtain ⟨j, b'⟩ := p
      rw [hmg] at h3
      simp only [Bool.and_eq_true, beq_iff_eq] at h3
      obtain ⟨rfl, hj⟩ := h3
      simp only [runOps] at hr
      split at hr
      ·rename_i t ht
       rw [ec h.sr hj hmg ht]
       have hs₁ := h.sr.renew n t ht
       cases t with
       | true =>
         simp only [cond_true] at hr
         cases b with
         | true =>
           simp only at hr
           rw [if_pos (by rfl)]
           left
           split at hr
           ·rename_i c s' hst
            exact doit _ hs₁ rfl c s' hst hr
           ·simp at hr
         | false =>
           rw [if_neg (by simp)]
           exact skip _ hs₁ rfl hr
       | false =>
         simp only [cond_false] at hr
         cases b with
         | false =>
           simp only at hr
           rw [if_pos (by rfl)]
           left
           split at hr
           ·rename_i c s' hst
            exact doit _ hs₁ rfl c s' hst hr
           ·simp at hr
         | true =>
           rw [if_neg (by simp)]
           exact skip _ hs₁ rfl hr
      ·rename_i ht
       rw [ed h.sr hj hmg ht, if_neg (by simp)]
       exact skip _ h.sr rfl hr
      ·simp at hr
   ·simp at hc
theorem cV {ops : Array Oper} : ∀ (l : List GOp) (i : Nat), bT P ops i l = true → ops.size = i + l.length ∧ ∀ (k : Nat) x, l[k]? = some x → ∃ m, ops[i + k]? = some m ∧ dY P ops x m = true
 | [], i, h => by
   simp only [bT, beq_iff_eq] at h
   exact ⟨by simp [h], by simp⟩
 | x :: l, i, h => by
   simp only [bT, Bool.and_eq_true] at h
   obtain ⟨h1, h2⟩ := h
   obtain ⟨k1, k2⟩ := cV l (i + 1) h2
   refine ⟨by simp [k1]; omega, ?_⟩
   intro k y hy
   cases k with
   | zero =>
     simp at hy
     subst hy
     split at h1
     ·rename_i m hm
      exact ⟨m, hm, h1⟩
     ·simp at h1
   | succ k =>
     obtain ⟨m, hm, hc⟩ := k2 k y (by simpa using hy)
     exact ⟨m, by rw [← hm]; congr 1; omega, hc⟩
theorem fU (hΓ : aH P Γ) {g₀ : Gh} (hβ : g₀.β = aD P) {ops : Array Oper} {i : Nat} {m : Oper} {x : GOp} (hm : ops[i]? = some m) (hc : dY P ops x m = true) {hp₀ : List ab} {w₀ : World} {df : List Deferred} {Q : Exit → Act → World → Prop} {K : Act → World → Prop}
  (hs : ay Γ x s = some s') (h : Inv g₀ hp₀ w₀ df g s w a) (hK : ∀ g' w' a', Inv g₀ hp₀ w₀ df g' s' w' a' → K a' w') : wpOp P ops Q i K a w := by
 obtain ⟨gd, o, ob⟩ := x
 simp only [dY, Bool.and_eq_true, beq_iff_eq] at hc
 obtain ⟨⟨h1, h2⟩, h3⟩ := hc
 have doit : (match stepO Γ ob o s with | some (c, s') => chk c (some s') | none => none) = some s' → m.wp P a w K Q := by
  intro hst
  split at hst
  ·rename_i c s₁ hst'
   obtain ⟨rfl, hch⟩ := eO hst
   obtain rfl : s₁ = s' := by simpa using hch
   refine eM hΓ (h.fr.beta.trans hβ) h1 (b6 hst') h.sr ?_
   intro a' w' g' hs' hf hd
   exact hK g' w' a' ⟨hs', h.fr.trans hf, hd.trans h.df⟩
  ·simp at hst
 unfold wpOp
 simp only [hm]
 match gd, h3, hs with
 | none, h3, hs =>
   cases hmg : m.guard with
   | some p => rw [hmg] at h3; simp at h3
   | none =>
   rw [if_pos (by simp [Region.wanted, hmg])]
   exact .inl (doit hs)
 | some (n, b), h3, hs =>
   cases hmg : m.guard with
   | none => rw [hmg] at h3; simp at h3
   | some p =>
   obtain ⟨j, b'⟩ := p
   rw [hmg] at h3
   simp only [Bool.and_eq_true, beq_iff_eq] at h3
   obtain ⟨rfl, hj⟩ := h3
   simp only [ay] at hs
   split at hs
   ·rename_i t ht
    rw [ec h.sr hj hmg ht]
    split at hs
    ·rename_i hb
     rw [if_pos hb]
     exact .inl (doit hs)
    ·rename_i hb
     rw [if_neg (by simp [hb])]
     obtain rfl : _ = s' := by simpa using hs
     rw [← h2]
     exact hK g w _ ⟨cU h.sr _, by rw [dZ]; exact h.fr, (eN _ _ _).trans h.df⟩
   ·rename_i ht
    rw [ed h.sr hj hmg ht, if_neg (by simp)]
    obtain rfl : _ = s' := by simpa using hs
    rw [← h2]
    exact hK g w _ ⟨cU h.sr _, by rw [dZ]; exact h.fr, (eN _ _ _).trans h.df⟩
   ·simp at hs
theorem fV (hΓ : aH P Γ) {g₀ : Gh} (hβ : g₀.β = aD P) {imp : List Nat} (hP : aE Γ imp) {R : Type} {K : St → Option R} {r : R} {ops : Array Oper} {l : List GOp} {pre : List (List Nat)} (hc : cd P imp ops l pre = true) {hp₀ : List ab} {w₀ : World} {df : List Deferred} {Q : Exit → Act → World → Prop}
  (hQ : ∀ s g w a, K s = some r → Inv g₀ hp₀ w₀ df g s w a → Q .normal a w) : ∀ (fuel : Nat) (rs : List Nat) (listed : Array Bool) (s : St) (g : Gh) (w : World) (a : Act),
   rs.length = fuel → rs.Pairwise (· < ·) → (∀ i, i ∈ rs ↔ i < l.length ∧ listed.getD i true = false) → listed.size = l.length → (∀ j, j < l.length → j ∉ rs → ∀ i ∈ pre.getD j [], i ∉ rs) →
   runOps Γ (rs.filterMap fun i => l[i]?) K s = some r → Inv g₀ hp₀ w₀ df g s w a → wpAny P .any ops Q fuel listed a w := by
 simp only [cd, Bool.and_eq_true] at hc
 obtain ⟨⟨-, hgs⟩, hall⟩ := hc
 obtain ⟨hsize, hget⟩ := cV l 0 hgs
 simp only [Nat.zero_add] at hsize hget
 have hj : ∀ j, j < l.length → ∃ m x, ops[j]? = some m ∧ l[j]? = some x ∧ dY P ops x m = true ∧ (∀ e ∈ m.after, Region.binds .any e = true → e.on < j) ∧
   (∀ i ∈ pre.getD j [], ∃ e ∈ m.after, Region.binds .any e = true ∧ (e.on = i ∨ i ∈ pre.getD e.on [])) ∧ (∀ i, i < j → i ∈ pre.getD j [] ∨ ∃ y, l[i]? = some y ∧ dH imp y x = true) := by
  intro j hlt
  have h0 := List.all_eq_true.1 hall j (List.mem_range.2 hlt)
  simp only [Bool.and_eq_true] at h0
  obtain ⟨h1, h2⟩ := h0
  have hx : l[j]? = some l[j] := List.getElem?_eq_getElem hlt
  obtain ⟨m, hm, hcg⟩ := hget j _ hx
  rw [hm] at h1
  rw [hx] at h2
  simp only [Bool.and_eq_true] at h1
  refine ⟨m, l[j], hm, hx, hcg, ?_, ?_, ?_⟩
  ·intro e he hb
   have := List.all_eq_true.1 h1.1 e (by simpa using he)
   simpa [hb] using this
  ·intro i hi
   have := List.all_eq_true.1 h1.2 i hi
   obtain ⟨e, he, hb⟩ := List.any_eq_true.1 this
   simp only [Bool.and_eq_true, Bool.or_eq_true, beq_iff_eq, List.contains_iff_mem] at hb
   exact ⟨e, by simpa using he, hb.1, hb.2⟩
  ·intro i hi
   have := List.all_eq_true.1 h2 i (List.mem_range.2 hi)
   simp only [Bool.or_eq_true, List.contains_iff_mem] at this
   rcases this with h3 | h3
   ·exact .inl h3
   ·right
    split at h3
    ·rename_i y hy; exact ⟨y, hy, h3⟩
    ·simp at h3
 have ready : ∀ (rs : List Nat) (listed : Array Bool), (∀ i, i ∈ rs ↔ i < l.length ∧ listed.getD i true = false) → listed.size = l.length → ∀ j m, ops[j]? = some m → (j ∈ Region.ready .any ops listed ↔ j ∈ rs ∧ ∀ e ∈ m.after, Region.binds .any e = true → e.on < l.length ∧ e.on ∉ rs) := by
  intro rs listed hrs hls j m hm
  have hlt : j < l.length := by rw [← hsize]; exact (Array.getElem?_eq_some_iff.1 hm).1
  have key : ∀ i, listed.getD i false = true ↔ i < l.length ∧ i ∉ rs := by
   intro i
   rw [hrs i]
   rcases Nat.lt_or_ge i listed.size with h1 | h1
   ·have h2 : i < l.length := by omega
    simp [Array.getD, h1, h2]
   ·have h2 : ¬ i < l.length := by omega
    have h3 : ¬ i < listed.size := by omega
    simp [Array.getD, h3, h2]
  rw [mem_ready, hrs j]
  constructor
  ·rintro ⟨h1, o, ho, h2⟩
   rw [hm] at ho
   cases ho
   exact ⟨⟨hlt, h1⟩, fun e he hb => (key _).1 (h2 e he hb)⟩
  ·rintro ⟨⟨_, h1⟩, h2⟩
   exact ⟨h1, m, hm, fun e he hb => (key _).2 (h2 e he hb)⟩
 intro fuel
 induction fuel with
 | zero =>
   intro rs listed s g w a hlen hpw hrs hls hpre hr h
   have : rs = [] := List.eq_nil_of_length_eq_zero hlen
   subst this
   simp only [wpAny]
   refine ⟨?_, hQ s g w a hr h⟩
   rw [List.eq_nil_iff_forall_not_mem]
   intro j hjr
   have := mem_ready.1 hjr
   obtain ⟨hu, o, ho, _⟩ := this
   exact absurd ((ready [] listed hrs hls j o ho).1 hjr).1 (by simp)
 | succ fuel ih =>
   intro rs listed s g w a hlen hpw hrs hls hpre hr h
   simp only [wpAny]
   refine ⟨?_, ?_⟩
   ·intro hno
    exfalso
    cases rs with
    | nil => simp at hlen
    | cons j rs =>
      have hjl := ((hrs j).1 (List.mem_cons_self ..)).1
      obtain ⟨m, x, hm, hx, hcg, he, hp, hi⟩ := hj j hjl
      have : j ∈ Region.ready .any ops listed := by
       refine (ready _ listed hrs hls j m hm).2 ⟨List.mem_cons_self .., fun e hee hb => ?_⟩
       have hlt := he e hee hb
       refine ⟨by omega, ?_⟩
       intro hmem
       rcases List.mem_cons.1 hmem with h1 | h1
       ·omega
       ·have := (List.pairwise_cons.1 hpw).1 _ h1
        omega
      rw [hno] at this
      simp at this
   ·intro j hjr
    obtain ⟨hu, o, ho, _⟩ := mem_ready.1 hjr
    obtain ⟨hjm, hdeps⟩ := (ready rs listed hrs hls j o ho).1 hjr
    have hjl := ((hrs j).1 hjm).1
    obtain ⟨m, x, hm, hx, hcg, he, hp, hi⟩ := hj j hjl
    rw [hm] at ho
    cases ho
    have hpj : ∀ i ∈ pre.getD j [], i ∉ rs := by
     intro i hii
     obtain ⟨e, hee, hb, hor⟩ := hp i hii
     obtain ⟨d1, d2⟩ := hdeps e hee hb
     rcases hor with rfl | hor
     ·exact d2
     ·exact hpre _ d1 d2 i hor
    obtain ⟨A, B, rfl⟩ := List.append_of_mem hjm
    have hA : ∀ i ∈ A, i < j := by
     intro i hiA
     exact (List.pairwise_append.1 hpw).2.2 i hiA j (List.mem_cons_self ..)
    have hB : ∀ i ∈ B, j < i := by
     intro i hiB
     exact (List.pairwise_cons.1 (List.pairwise_append.1 hpw).2.1).1 i hiB
    rw [List.filterMap_append, List.filterMap_cons_some hx] at hr
    obtain ⟨s', hg, hr'⟩ := gn hP _ s (by
     intro y hy
     obtain ⟨i, hiA, hiy⟩ := List.mem_filterMap.1 hy
     rcases hi i (hA i hiA) with h1 | ⟨y', h1, h2⟩
     ·exact absurd (List.mem_append_left _ hiA) (hpj i h1)
     ·rw [hiy] at h1
      cases h1
      exact h2) hr
    rw [← List.filterMap_append] at hr'
    refine fU hΓ hβ hm hcg hg h ?_
    intro g' w' a' hinv
    have hmem : ∀ i, i ∈ A ++ B ↔ i ∈ A ++ j :: B ∧ i ≠ j := by
     intro i
     simp only [List.mem_append, List.mem_cons]
     constructor
     ·rintro (h1 | h1)
      ·exact ⟨.inl h1, by have := hA i h1; omega⟩
      ·exact ⟨.inr (.inr h1), by have := hB i h1; omega⟩
     ·rintro ⟨h1 | h1 | h1, h2⟩
      ·exact .inl h1
      ·exact absurd h1 h2
      ·exact .inr h1
    refine ih (A ++ B) (listed.setIfInBounds j true) s' g' w' a' ?_ ?_ ?_ (by simp [hls]) ?_ hr' hinv
    ·simp only [List.length_append, List.length_cons] at hlen ⊢
     omega
    ·exact hpw.sublist (List.Sublist.append_left (List.sublist_cons_self ..) _)
    ·intro i
     rw [hmem, hrs]
     by_cases hij : i = j
     ·subst hij
      have hsz : i < listed.size := by omega
      simp [Array.getD, hsz]
     ·rw [getD_set_ne true (fun e => hij e.symm)]
      simp [hij]
    ·intro j' hj' hnot i hii hmi
     obtain ⟨h1, h2⟩ := (hmem i).1 hmi
     by_cases hjj : j' = j
     ·subst hjj
      exact hpj i hii h1
     ·exact hpre j' hj' (fun hm' => hnot ((hmem j').2 ⟨hm', hjj⟩)) i hii h1
theorem cn {α : Type} : ∀ (l : List α), ((List.range l.length).filterMap fun i => l[i]?) = l
 | [] => rfl
 | x :: l => by
   rw [List.length_cons, List.range_succ_eq_map, List.filterMap_cons_some (b := x) (by simp), List.filterMap_map]
   have := cn l
   simp only [Function.comp_def, Nat.succ_eq_add_one, List.getElem?_cons_succ]
   rw [this]
theorem Inv.drew {g₀ : Gh} {hp₀ : List ab} {w₀ : World} {df : List Deferred} (h : Inv g₀ hp₀ w₀ df g s w a) : Inv g₀ hp₀ w₀ df g s w.drew a := by
 have u : Up g.I g.ρ s.hp.length w g.I g.ρ s.hp.length w.drew := ⟨fun _ _ h => h, fun _ _ _ => rfl, fun _ _ => rfl, Nat.le_refl _⟩
 refine ⟨⟨h.sr.hr.drew, ⟨h.sr.er.size, fun n v cv h1 h2 => (h.sr.er.rel n v cv h1 h2).up u, fun n v cv h1 h2 => ap (h.sr.er.own n v cv h1 h2) rfl (fun b j hi => ⟨hi, rfl⟩) (fun b hb => ⟨hb, rfl, fun j hj => hj⟩)⟩⟩, ?_, h.df⟩
 exact ⟨h.fr.beta, h.fr.os, h.fr.tape, h.fr.output, h.fr.size, h.fr.block, h.fr.up.trans u, h.fr.iSame, h.fr.oSame, h.fr.live⟩
theorem fy (hΓ : aH P Γ) {g₀ : Gh} (hβ : g₀.β = aD P) {imp : List Nat} (hP : aE Γ imp) {R : Type} {K : St → Option R} {r : R} {id : Nat} {ops : Array Oper} {l : List GOp} {pre : List (List Nat)} (hc : cd P imp ops l pre = true) {hp₀ : List ab} {w₀ : World} {df : List Deferred} {Q : Exit → Act → World → Prop}
  (hQ : ∀ s g w a, K s = some r → Inv g₀ hp₀ w₀ df g s w a → Q .normal a w) (hr : runOps Γ l K s = some r) (h : Inv g₀ hp₀ w₀ df g s w a) : (Code.region id ops true).wp P Q a w := by
 have hc' := hc
 simp only [cd, Bool.and_eq_true] at hc'
 have hsize : ops.size = l.length := by simpa using (cV l 0 hc'.1.2).1
 refine wp_region_any hc'.1.1 ?_
 rw [hsize]
 refine fV hΓ hβ hP hc hQ l.length (List.range l.length) _ s g _ a (by simp) List.pairwise_lt_range ?_ (by simp) ?_ (by rw [cn]; exact hr) h.drew
 ·intro i
  by_cases hi : i < l.length <;> simp [Array.getD, hi]
 ·intro j hj hnot
  exact absurd (List.mem_range.2 hj) hnot
theorem bm (live : List Nat) (m : Nat) : ∀ (env : List V) (i n : Nat) (v : V), (bh live m i env)[n]? = some v → v = .undef ∨ (v.lower m = true ∧ env[n]? = some v)
 | [], i, n, v, h => by simp [bh] at h
 | x :: env, i, n, v, h => by
   simp only [bh] at h
   cases n with
   | zero =>
     simp only [List.getElem?_cons_zero, Option.some.injEq] at h
     split at h
     ·rename_i hc
      simp only [Bool.and_eq_true] at hc
      right; subst h; exact ⟨hc.2, by simp⟩
     ·left; exact h.symm
   | succ n =>
     simp only [List.getElem?_cons_succ] at h ⊢
     exact bm live m env (i + 1) n v h
theorem bJ (live : List Nat) (m : Nat) : ∀ (env : List V) (i : Nat), (bh live m i env).length = env.length
 | [], i => rfl
 | x :: env, i => by simp [bh, bJ live m env (i + 1)]
theorem br {n : Nat} : ∀ {cs : List V}, V.lowers n cs = true → ∀ (i : Nat) c, cs[i]? = some c → c.lower n = true
 | [], _, i, c, hc => by simp at hc
 | x :: cs, h, i, c, hc => by
   simp only [V.lowers, Bool.and_eq_true] at h
   cases i with
   | zero => simp at hc; subst hc; exact h.1
   | succ i => exact br h.2 i c (by simpa using hc)
theorem eY {n : Nat} {cs : List V} (h : V.lowers n cs = true) (j : Nat) (c : V) (hc : (cellsOf cs)[j]? = some c) : c.lower n = true := by
 cases hr : ak cs with
 | false => rw [aW hr] at hc; exact br h j c hc
 | true =>
   unfold ak at hr
   split at hr
   ·simp only [cellsOf, List.getElem?_map, Option.map_eq_some_iff] at hc
    obtain ⟨_, _, rfl⟩ := hc
    rfl
   ·simp [V.lowers, V.lower] at h
   ·cases hr
theorem VRel.fewer {I : Nat → Nat → Prop} {ρ : Nat → Nat} {N n : Nat} {v : V} {cv : Value} (h : VRel I ρ N w v cv) (hb : v.lower n = true) (hn : n ≤ N) : VRel I ρ n w v cv := by
 induction h with
 | undef cv => exact .undef cv
 | bool b => exact .bool b
 | int k n h => exact .int k n h
 | str l s hl h => exact .str l s hl h
 | sln k o => exact .sln k o
 | sle k o ad ho => exact .sle k o ad ho
 | sl k o xs b off len cap hl hc hm hf f hI hw hv ih =>
   refine .sl k o xs b off len cap hl hc hm hf f hI hw (fun i x j v h1 h2 => ih i x j v h1 h2 ?_)
   have : v ∈ enc k x := List.mem_of_getElem? h2
   cases k <;> simp [enc] at this <;> (first | (rcases this with rfl | rfl | rfl | rfl | rfl | rfl | rfl | rfl | rfl | rfl) | (rcases this with rfl | rfl | rfl | rfl | rfl | rfl | rfl | rfl | rfl) | (rcases this with rfl | rfl | rfl | rfl | rfl) | subst this) <;> rfl
 | agg cs vs hl h1 hb' hv ih => exact .agg cs vs hl h1 hb' (fun i c cv hc hcv => ih i c cv hc hcv (br (by simpa [V.lower] using hb) i c hc))
 | tup cs vs hl hv ih => exact .tup cs vs hl (fun i c cv hc hcv => ih i c cv hc hcv (br (by simpa [V.lower] using hb) i c hc))
 | ea cs b off f h1 hI hw hv ih => exact .ea cs b off f h1 hI hw (fun j c hc => ih j c hc (br (by simpa [V.lower] using hb) j c hc))
 | ptr id off h => exact .ptr id off (by simpa [V.lower, Nat.blt_eq] using hb)
 | nilp => exact .nilp
 | fn f cs vs hl hv ih => exact .fn f cs vs hl (fun i c cv hc hcv => ih i c cv hc hcv (br (by simpa [V.lower] using hb) i c hc))
 | nilif => exact .nilif
 | bn E n p => exact .bn E n p
 | junk cv h => exact .junk cv h
 | so id m cap h hc hm => exact .so id m cap (by simpa [V.lower, Nat.blt_eq] using hb) hc hm
 | raw n b => exact .raw n b
 | ul k xs ad cap hm => exact .ul k xs ad cap hm
 | hd n ad cap hm => exact .hd n ad cap hm
 | sw k id m h hc hm => exact .sw k id m (by simpa [V.lower, Nat.blt_eq] using hb) hc hm
 | wp id k i o h => exact .wp id k i o (by simpa [V.lower, Nat.blt_eq] using hb)
theorem bZ {n : Nat} : ∀ {hp : List ab}, bi n hp = true → ∀ (id : Nat) cs, hp[id]? = some (some cs) → V.lowers n cs = true
 | [], _, id, cs, h => by simp at h
 | none :: hp, h0, id, cs, h => by
   cases id with
   | zero => simp at h
   | succ id => exact bZ (hp := hp) (by simpa [bi] using h0) id cs (by simpa using h)
 | some x :: hp, h0, id, cs, h => by
   simp only [bi, Bool.and_eq_true] at h0
   cases id with
   | zero => simp at h; subst h; exact h0.1
   | succ id => exact bZ h0.2 id cs (by simpa using h)
theorem SR.keepEnv (h : SR g s w a) (live : List Nat) (n : Nat) : SR g { s with env := bh live n 0 s.env } w a := by
 refine ⟨h.hr, ⟨by simp [bJ, h.er.size], ?_, ?_⟩⟩
 ·intro m v cv hv hcv
  rcases bm live n s.env 0 m v hv with rfl | ⟨_, hv⟩
  ·exact .undef _
  ·exact h.er.rel m v cv hv hcv
 ·intro m v cv hv hcv
  rcases bm live n s.env 0 m v hv with rfl | ⟨_, hv⟩
  ·simp [aa]
  ·exact h.er.own m v cv hv hcv
theorem Inv.keeps {g₀ : Gh} {hp₀ : List ab} {w₀ : World} {df : List Deferred} (h : Inv g₀ hp₀ w₀ df g s w a) (live : List Nat) {n : Nat} (hn : hp₀.length ≤ n) : Inv g₀ hp₀ w₀ df g (s.keep live n) w a := by
 unfold St.keep
 cases hob : bi n (s.hp.take n) with
 | false => exact ⟨h.sr.keepEnv live n, h.fr, h.df⟩
 | true =>
   simp only [cond_true]
   rcases Nat.lt_or_ge n s.hp.length with hlt | hge
   ·have hlen : (s.hp.take n).length = n := by simp; omega
    have old : ∀ (id : Nat) cs, (s.hp.take n)[id]? = some (some cs) → s.hp[id]? = some (some cs) := by
     intro id cs hid
     rw [List.getElem?_take] at hid
     split at hid
     ·exact hid
     ·simp at hid
    have hb := bZ hob
    refine ⟨⟨⟨?_, ?_, ?_, ?_, h.sr.hr.exI, h.sr.hr.oLt⟩, ⟨by simp [bJ, h.sr.er.size], ?_, ?_⟩⟩, ?_, h.df⟩
    ·intro id cs hid
     obtain ⟨arr, e, fz, h1, h2⟩ := h.sr.hr.obj id cs (old id cs hid)
     refine ⟨arr, e, fz, h1, h2.len, h2.plain, ?_, h2.cold, h2.one, ?_, h2.own, h2.bn⟩
     ·rintro k xs rfl
      have := hb id _ hid
      simp [V.lowers, V.lower] at this
     intro j c cv hc hcv
     rw [hlen]
     exact (h2.rel j c cv hc hcv).fewer (eY (hb id cs hid) j c hc) (by omega)
    ·intro id id' cs cs' h1 h2 hne
     exact h.sr.hr.apart id id' cs cs' (old _ _ h1) (old _ _ h2) hne
    ·intro id cs hid
     exact h.sr.hr.notI id cs (old _ _ hid)
    ·intro id cs hid
     exact h.sr.hr.notO id cs (old _ _ hid)
    ·intro m v cv hv hcv
     rw [hlen]
     rcases bm live n s.env 0 m v hv with rfl | ⟨hbv, hv⟩
     ·exact .undef _
     ·exact (h.sr.er.rel m v cv hv hcv).fewer hbv (by omega)
    ·intro m v cv hv hcv
     rcases bm live n s.env 0 m v hv with rfl | ⟨_, hv⟩
     ·simp [aa]
     ·exact h.sr.er.own m v cv hv hcv
    ·refine ⟨h.fr.beta, h.fr.os, h.fr.tape, h.fr.output, h.fr.size, h.fr.block, ⟨h.fr.up.mono, h.fr.up.cell, h.fr.up.rho, by rw [hlen]; exact hn⟩, h.fr.iSame, h.fr.oSame, ?_⟩
     intro id cs hid
     exact h.fr.live id cs (old _ _ hid)
   ·rw [List.take_of_length_le hge]
    exact ⟨h.sr.keepEnv live n, h.fr, h.df⟩
def b0 : Ex → Exit → Prop
 | .normal, .normal => True
 | .exit i, .exit j => i = j
 | .ret, .ret => True
 | _, _ => False
def fA {R : Type} (g₀ : Gh) (hp₀ : List ab) (w₀ : World) (df : List Deferred) (K : Ex → St → Option R) (r : R) (e : Exit) (a : Act) (w : World) : Prop :=
 ∃ x s g, b0 x e ∧ K x s = some r ∧ Inv g₀ hp₀ w₀ df g s w a
theorem aJ (hΓ : aH P Γ) {g₀ : Gh} (hβ : g₀.β = aD P) {imp : List Nat} (hP : aE Γ imp) (n : Nat) {R : Type} {hp₀ : List ab} {base : Nat} (hbase : hp₀.length ≤ base) {w₀ : World} {df : List Deferred} {r : R} : ∀ (ir : IR) (c : Code), af P imp base ir c = true → ∀ (K : Ex → St → Option R) (s : St) (a : Act) (w : World) (g : Gh),
  run Γ n ir K s = some r → Inv g₀ hp₀ w₀ df g s w a → c.wp P (fA g₀ hp₀ w₀ df K r) a w
 | .bad, c, hc, K, s, a, w, g, hr, h => by simp [run] at hr
 | .skip, c, hc, K, s, a, w, g, hr, h => by
   cases c <;> simp [af] at hc
   ·exact wp_skip ⟨.normal, s, g, trivial, hr, h⟩
   ·exact wp_label ⟨.normal, s, g, trivial, hr, h⟩
 | .reg l pre, c, hc, K, s, a, w, g, hr, h => by
   cases c with
   | region id ops draw =>
     cases draw with
     | true =>
       have hc : cd P imp ops l pre = true := by simpa only [af] using hc
       exact fy (Q := fA g₀ hp₀ w₀ df K r) hΓ hβ hP hc (K := K .normal) (r := r) (fun s g w a hk hi => ⟨.normal, s, g, trivial, hk, hi⟩) hr h
     | false =>
       have hc : bT P ops 0 l = true := by simpa only [af] using hc
       refine wp_region ?_
       have := cj (Q := fA g₀ hp₀ w₀ df K r) hΓ hβ (K := K .normal) (r := r) (fun s g w a hk hi => ⟨.normal, s, g, trivial, hk, hi⟩) l 0 hc s g w a hr h
       rwa [Nat.sub_zero, ← List.range_eq_range'] at this
   | _ => simp [af] at hc
 | .seq x y, c, hc, K, s, a, w, g, hr, h => by
   cases c <;> simp [af] at hc
   rename_i c d
   refine wp_seq (wp_mono (aJ hΓ hβ hP n hbase x c hc.1 _ s a w g hr h) ?_)
   rintro e a' w' ⟨ex, s', g', he, hk, hi⟩
   cases ex with
   | normal =>
     cases e <;> simp only [b0] at he
     exact aJ hΓ hβ hP n hbase y d hc.2 K s' a' w' g' hk hi
   | exit i =>
     cases e <;> simp only [b0] at he
     exact ⟨.exit i, s', g', he, hk, hi⟩
   | ret =>
     cases e <;> simp only [b0] at he
     exact ⟨.ret, s', g', trivial, hk, hi⟩
 | .cond v x y, c, hc, K, s, a, w, g, hr, h => by
   cases c <;> simp [af] at hc
   rename_i u c d
   simp only [run] at hr
   split at hr
   ·rename_i t ht
    have rr := ah hc.1 h.sr.er
    rw [ht] at rr
    generalize hcv : a.eval u = cv at rr
    cases rr
    refine wp_cond hcv ?_
    cases t with
    | true =>
      rw [ASrc.fix_eq ht] at hr
      exact aJ hΓ hβ hP n hbase x c hc.2.1 K s a w g hr h
    | false =>
      simp only [cond_false] at hr
      rw [ASrc.fix_eq ht] at hr
      exact aJ hΓ hβ hP n hbase y d hc.2.2 K s a w g hr h
   ·simp at hr
 | .block i x, c, hc, K, s, a, w, g, hr, h => by
   cases c <;> simp [af] at hc
   rename_i j c
   obtain ⟨rfl, hc⟩ := hc
   refine wp_block (wp_mono (aJ hΓ hβ hP n hbase x c hc _ s a w g hr h) ?_)
   rintro e a' w' ⟨ex, s', g', he, hk, hi⟩
   cases ex with
   | normal =>
     cases e <;> simp only [b0] at he
     exact ⟨.normal, s', g', trivial, hk, hi⟩
   | exit k =>
     cases e <;> simp only [b0] at he
     subst he
     simp only [Exit.inBlock]
     by_cases hki : k = i
     ·subst hki
      simp only [if_true]
      simp only [cw, Nat.beq_refl, cond_true] at hk
      exact ⟨.normal, s', g', trivial, hk, hi⟩
     ·simp only [hki, if_false]
      have hb : Nat.beq k i = false := by
       cases hb : Nat.beq k i with
       | true => exact absurd (Nat.eq_of_beq_eq_true hb) hki
       | false => rfl
      simp only [cw, hb, cond_false] at hk
      exact ⟨.exit k, s', g', rfl, hk, hi⟩
   | ret =>
     cases e <;> simp only [b0] at he
     exact ⟨.ret, s', g', trivial, hk, hi⟩
 | .loop live q x, c, hc, K, s, a, w, g, hr, h => by
   cases c <;> simp [af] at hc
   rename_i c
   obtain ⟨hq, hc⟩ := hc
   have hq : hp₀.length ≤ q := Nat.le_trans hbase hq
   simp only [run] at hr
   have key : ∀ (m : Nat) (s : St) (a : Act) (w : World) (g : Gh), b7 m (fun again s => run Γ n x (eo again live q K) s) s = some r → Inv g₀ hp₀ w₀ df g s w a →
     Code.rounds P c (fA g₀ hp₀ w₀ df K r) m a w := by
    intro m
    induction m with
    | zero => intro s a w g hr h; simp [b7] at hr
    | succ m ih =>
      intro s a w g hr h
      simp only [b7] at hr
      rw [rounds_succ]
      refine wp_mono (aJ hΓ hβ hP n hbase x c hc _ s a w g hr h) ?_
      rintro e a' w' ⟨ex, s', g', he, hk, hi⟩
      cases ex with
      | normal =>
        cases e <;> simp only [b0] at he
        exact ih _ a' w' g' hk (hi.keeps live hq)
      | exit k =>
        cases e <;> simp only [b0] at he
        exact ⟨.exit k, s', g', he, hk, hi⟩
      | ret =>
        cases e <;> simp only [b0] at he
        exact ⟨.ret, s', g', trivial, hk, hi⟩
   exact wp_loop_rounds n (key n _ a w g hr (h.keeps live hq))
 | .cut live q x, c, hc, K, s, a, w, g, hr, h => by
   simp only [af, Bool.and_eq_true] at hc
   obtain ⟨hq, hc⟩ := hc
   simp only [run] at hr
   exact aJ hΓ hβ hP n hbase x c hc K _ a w g hr (h.keeps live (Nat.le_trans hbase (Nat.le_of_ble_eq_true hq)))
 | .gh x y, c, hc, K, s, a, w, g, hr, h => by
   simp only [af] at hc
   simp only [run] at hr
   split at hr
   ·rename_i t s' hs
    cases t with
    | false => simp [chk] at hr
    | true =>
      obtain ⟨g', h1, h2⟩ := dh h.sr hs
      exact aJ hΓ hβ hP n hbase y c hc K s' a w g' hr ⟨h1, h.fr.trans h2, h.df⟩
   ·simp at hr
 | .ghp x y, c, hc, K, s, a, w, g, hr, h => by
   simp only [af] at hc
   simp only [run] at hr
   refine wp_mono (aJ hΓ hβ hP n hbase y c hc _ s a w g hr h) ?_
   rintro e a' w' ⟨ex, s', g', he, hk, hi⟩
   cases ex with
   | normal =>
     simp only [ep] at hk
     split at hk
     ·rename_i t s2 hs
      cases t with
      | false => simp [chk] at hk
      | true =>
        obtain ⟨g2, h1, h2⟩ := dh hi.sr hs
        exact ⟨.normal, s2, g2, he, hk, ⟨h1, hi.fr.trans h2, hi.df⟩⟩
     ·simp at hk
   | exit i => exact ⟨.exit i, s', g', he, hk, hi⟩
   | ret => exact ⟨.ret, s', g', he, hk, hi⟩
 | .exit i, c, hc, K, s, a, w, g, hr, h => by
   cases c <;> simp [af] at hc
   subst hc
   exact wp_exit ⟨.exit i, s, g, rfl, hr, h⟩
 | .ret, c, hc, K, s, a, w, g, hr, h => by
   cases c <;> simp [af] at hc
   exact wp_ret ⟨.ret, s, g, trivial, hr, h⟩
end
end Go.AM
end
noncomputable section
namespace Go.AM
set_option autoImplicit false
set_option linter.unusedSimpArgs false
set_option linter.unusedVariables false
def c8 (P : Program) : RV → ResultVar → Bool
 | .t n, .tmp m => n == m
 | .cell n size agg, .cell m t => (n == m) && ((bH P t == some size) && ((bU P t == some agg) && (agg || size == 1)))
 | _, _ => false
def bo (P : Program) : List RV → List ResultVar → Bool
 | [], [] => true
 | x :: xs, y :: ys => c8 P x y && bo P xs ys
 | _, _ => false
section
variable {w : World} {g : Gh} {s s' : St} {a : Act} {P : Program} {Γ : aj}
def fB (g : Gh) (w : World) (x : RV) (v : V) (cv : Value) : Prop := match x with | .t n => aa g w (.slot n) v cv | .cell .. => v.bare = true
def cL (tmps : Array Value) : ResultVar → Sem Value
 | .tmp t => pure (tmps.getD t undef)
 | .cell a t => do loadVar t (← asAddr (tmps.getD a undef))
theorem g0 (h : SR g s w a) {x : RV} {y : ResultVar} (hc : c8 P x y = true) {v : V} (hv : x.ev s = some v) :
  ∃ cv, (cL a.tmps y).run P w = .ok cv w ∧ VRel g.I g.ρ s.hp.length w v cv ∧ fB g w x v cv := by
 cases x with
 | t n =>
   cases y with
   | tmp m =>
     obtain rfl : n = m := by simpa [c8] using hc
     simp only [RV.ev, Option.some.injEq] at hv
     subst hv
     exact ⟨_, by simp [cL], h.er.get n, h.er.getOwn n⟩
   | cell m t => simp [c8] at hc
 | cell n size agg =>
   cases y with
   | tmp m => simp [c8] at hc
   | cell m t =>
     simp only [c8, Bool.and_eq_true, beq_iff_eq, Bool.or_eq_true] at hc
     obtain ⟨rfl, h1, h2, h3⟩ := hc
     have r1 := h.er.get n
     simp only [RV.ev] at hv
     have fin : ∀ b o (vs : List Value), a.tmps.getD n undef = .pointer (some ⟨b, o, none⟩) → vs.length = size → (∀ (j : Nat) v, vs[j]? = some v → w.cell? ⟨b, o + j, none⟩ = some v) →
       (cL a.tmps (.cell n t)).run P w = .ok (if agg then .agg vs.toArray else vs.headD undef) w := by
      intro b o vs hp hl hw
      have := bI (P := P) (w := w) (b := b) (o := o) (vs := vs) h1 h2 h3 hl hw
      simp only [Instr.loadAt, Instr.sureAddr] at this
      simp [cL, hp, asAddr]
      simpa using this
     split at hv
     ·rename_i id o hx
      rw [hx] at r1
      generalize hcv : a.tmps.getD n undef = cv at r1 fin
      cases r1 with
      | ptr _ _ hid =>
      split at hv
      ·rename_i cs ho
       split at hv
       ·rename_i hle
        obtain rfl := Option.some.inj hv
        obtain ⟨arr, e, hb, hok⟩ := bC h.hr ho
        have hlen := hok.len
        have hrel := b9 (agg := agg) (cs := (cs.drop o).take size) (vs := (arr.toList.drop o).take size) (w := w) (I := g.I) (ρ := g.ρ) (N := s.hp.length)
         (fun c hcm => hok.one c (List.mem_of_mem_drop (List.mem_of_mem_take hcm))) (by simp; omega) (by
          rcases h3 with h3 | h3
          ·exact .inl h3
          ·right; simp; omega)
         (fun i c cv hc hcv => by
          simp only [List.getElem?_take, List.getElem?_drop] at hc hcv
          split at hc
          ·rename_i hi
           simp only [hi, if_true] at hcv
           exact hok.rel _ _ _ hc (by simpa using hcv)
          ·simp at hc)
        refine ⟨_, fin _ _ ((arr.toList.drop o).take size) rfl (by simp; omega) (fun j v hj => ?_), hrel.disown, aq _⟩
        rw [ac hb]
        simp only [List.getElem?_take, List.getElem?_drop] at hj
        split at hj
        ·simpa using hj
        ·simp at hj
       ·simp at hv
      ·simp at hv
     ·rename_i cs hx
      rw [hx] at r1
      generalize hcv : a.tmps.getD n undef = cv at r1 fin
      cases r1 with
      | ea _ b o f e1 hI hw hv' =>
      split at hv
      ·rename_i hle
       obtain rfl := Option.some.inj hv
       have hrel := b9 (agg := agg) (cs := cs.take size) (vs := (List.range size).map f) (w := w) (I := g.I) (ρ := g.ρ) (N := s.hp.length)
        (fun c hcm => e1 c (List.mem_of_mem_take hcm)) (by simp; omega) (by
         rcases h3 with h3 | h3
         ·exact .inl h3
         ·right; simp; omega)
        (fun i c cv hc hcv => by
         simp only [List.getElem?_take] at hc
         split at hc
         ·rename_i hi
          simp [hi] at hcv
          subst hcv
          exact hv' _ _ hc
         ·simp at hc)
       refine ⟨_, fin _ _ ((List.range size).map f) rfl (by simp) (fun j v hj => ?_), hrel.disown, aq _⟩
       rw [List.getElem?_map, Option.map_eq_some_iff] at hj
       obtain ⟨j', hj', rfl⟩ := hj
       obtain ⟨hlt, rfl⟩ := List.getElem?_eq_some_iff.1 hj'
       simp only [List.length_range] at hlt
       simpa using hw j (by omega)
      ·simp at hv
     ·simp at hv
theorem fg (h : SR g s w a) : ∀ {xs : List RV} {ys : List ResultVar} {vs : List V}, bo P xs ys = true → rvs s xs = some vs →
  ∃ cvs : List Value, cvs.length = vs.length ∧ xs.length = vs.length ∧ ys.length = vs.length ∧ (∀ (i : Nat) y, ys[i]? = some y → ∃ cv, cvs[i]? = some cv ∧ (cL a.tmps y).run P w = .ok cv w) ∧
    (∀ (i : Nat) v cv, vs[i]? = some v → cvs[i]? = some cv → VRel g.I g.ρ s.hp.length w v cv) ∧
    (∀ (i : Nat) x v cv, xs[i]? = some x → vs[i]? = some v → cvs[i]? = some cv → fB g w x v cv)
 | [], [], vs, _, hv => by
   simp only [rvs, Option.some.injEq] at hv
   subst hv
   exact ⟨[], rfl, rfl, rfl, by simp, by simp, by simp⟩
 | x :: xs, y :: ys, vs, hc, hv => by
   simp only [bo, Bool.and_eq_true] at hc
   simp only [rvs] at hv
   split at hv
   ·rename_i v vs' h1 h2
    obtain rfl := Option.some.inj hv
    obtain ⟨cv, k1, k2, k3⟩ := g0 h hc.1 h1
    obtain ⟨cvs, l1, l2, l3, l4, l5, l6⟩ := fg h hc.2 h2
    refine ⟨cv :: cvs, by simp [l1], by simp [l2], by simp [l3], ?_, ?_, ?_⟩
    ·intro i y' hy
     cases i with
     | zero => simp at hy; subst hy; exact ⟨cv, rfl, k1⟩
     | succ i => simpa using l4 i y' (by simpa using hy)
    ·intro i v' cv' hv' hcv'
     cases i with
     | zero => simp at hv' hcv'; subst hv' hcv'; exact k2
     | succ i => exact l5 i v' cv' (by simpa using hv') (by simpa using hcv')
    ·intro i x' v' cv' hx' hv' hcv'
     cases i with
     | zero => simp at hx' hv' hcv'; subst hx' hv' hcv'; exact k3
     | succ i => exact l6 i x' v' cv' (by simpa using hx') (by simpa using hv') (by simpa using hcv')
   ·simp at hv
 | [], _ :: _, _, hc, _ => by simp [bo] at hc
 | _ :: _, [], _, hc, _ => by simp [bo] at hc
def Gh.hand (g : Gh) (r : Option Nat) : Gh := { g with O := fun b => match g.O b with | some (.slot m) => (if some m = r then some .res else none) | some .res => none | o => o }
theorem HR.hand {hp : List ab} (h : HR g hp w) (r : Option Nat) : HR (g.hand r) hp w := by
 refine ⟨?_, h.apart, h.notI, ?_, h.exI, ?_⟩
 ·intro id cs hid
  obtain ⟨arr, e, fz, h1, h2⟩ := h.obj id cs hid
  refine ⟨arr, e, fz, h1, h2.len, h2.plain, h2.typed, h2.cold, h2.one, h2.rel, ?_, h2.bn⟩
  intro j c cv hc hcv
  refine ap (h2.own j c cv hc hcv) rfl (fun b j hi => ⟨hi, rfl⟩) ?_
  intro b hb
  exact ⟨by simp [Gh.hand, hb], rfl, fun j hj => hj⟩
 ·intro id cs hid
  simp [Gh.hand, h.notO id cs hid]
 ·intro b o hb
  cases hO : g.O b with
  | none => simp [Gh.hand, hO] at hb
  | some o' => exact h.oLt b o' hO
theorem FR.hand {g₀ : Gh} {hp₀ hp : List ab} {w₀ : World} (h : FR g₀ hp₀ w₀ g hp w) (r : Option Nat) : FR g₀ hp₀ w₀ (g.hand r) hp w :=
 ⟨h.beta, h.os, h.tape, h.output, h.size, h.block, h.up, h.iSame, fun b hb ho hO => by simp [Gh.hand, h.oSame b hb ho hO], h.live⟩
def cM : List Value → Value
 | [v] => v
 | vs => .tuple vs.toArray
theorem eZ {fn : Func} {l : List ResultVar} {cvs : List Value} (hl : fn.results.toList = l) (hlen : l.length = cvs.length) (h5 : l.length ≤ 5)
  (h : ∀ (i : Nat) y, l[i]? = some y → ∃ cv, cvs[i]? = some cv ∧ (cL a.tmps y).run P w = .ok cv w) :
  (results fn a.tmps).run P w = .ok (cM cvs) w := by
 have e : fn.results = l.toArray := by rw [← hl]
 have hr : results fn a.tmps = (do let vs ← fn.results.mapM (cL a.tmps); pure (if h : vs.size = 1 then vs[0] else .tuple vs)) := rfl
 rw [hr, e]
 match l, cvs, hlen, h5, h with
 | [], [], _, _, _ => simp [cM]
 | [y0], [c0], _, _, h =>
   obtain ⟨_, q0, r0⟩ := h 0 y0 rfl
   simp at q0; subst q0
   simp [r0, cM]
 | [y0, y1], [c0, c1], _, _, h =>
   obtain ⟨_, q0, r0⟩ := h 0 y0 rfl
   obtain ⟨_, q1, r1⟩ := h 1 y1 rfl
   simp at q0 q1; subst q0 q1
   simp [r0, r1, cM]
 | [y0, y1, y2], [c0, c1, c2], _, _, h =>
   obtain ⟨_, q0, r0⟩ := h 0 y0 rfl
   obtain ⟨_, q1, r1⟩ := h 1 y1 rfl
   obtain ⟨_, q2, r2⟩ := h 2 y2 rfl
   simp at q0 q1 q2; subst q0 q1 q2
   simp [r0, r1, r2, cM]
 | [y0, y1, y2, y3], [c0, c1, c2, c3], _, _, h =>
   obtain ⟨_, q0, r0⟩ := h 0 y0 rfl
   obtain ⟨_, q1, r1⟩ := h 1 y1 rfl
   obtain ⟨_, q2, r2⟩ := h 2 y2 rfl
   obtain ⟨_, q3, r3⟩ := h 3 y3 rfl
   simp at q0 q1 q2 q3; subst q0 q1 q2 q3
   simp [r0, r1, r2, r3, cM]
 | [y0, y1, y2, y3, y4], [c0, c1, c2, c3, c4], _, _, h =>
   obtain ⟨_, q0, r0⟩ := h 0 y0 rfl
   obtain ⟨_, q1, r1⟩ := h 1 y1 rfl
   obtain ⟨_, q2, r2⟩ := h 2 y2 rfl
   obtain ⟨_, q3, r3⟩ := h 3 y3 rfl
   obtain ⟨_, q4, r4⟩ := h 4 y4 rfl
   simp at q0 q1 q2 q3 q4; subst q0 q1 q2 q3 q4
   simp [r0, r1, r2, r3, r4, cM]
theorem cB (hΓ : aH P Γ) {imp : List Nat} (hP : aE Γ imp) {f : FuncId} {fn : Func} {code : Code} {ir : IR} {rs : List RV} {n : Nat} {vs : List V} {hp hp' : List ab} {v : V}
  (hf : P.funcs[f]? = some fn) (hb : fn.body = some code) (hc : af P imp hp.length ir code = true) (hrs : bo P rs fn.results.toList = true) (h5 : fn.results.toList.length ≤ 5)
  (hrun : callF Γ n fn.ntmps rs ir vs hp = some (v, hp')) : aT P f vs hp v hp' := by
 intro w g cargs hβ hhr hlen hbare hrel
 refine calls_of_wp hf hb ?_
 let act : Act := { tmps := cargs ++ Array.replicate (fn.ntmps - cargs.size) undef, defers := [] }
 have hsr : SR g (start fn.ntmps vs hp) w act := by
  refine ⟨hhr, ⟨by simp [start, act, hlen], ?_, ?_⟩⟩
  ·intro n v cv hv hcv
   simp only [start, act] at hv hcv
   rcases Nat.lt_or_ge n vs.length with hn | hn
   ·rw [List.getElem?_append_left hn] at hv
    rw [Array.getElem?_append_left (by omega)] at hcv
    exact hrel n v cv hv hcv
   ·rw [List.getElem?_append_right hn, List.getElem?_replicate] at hv
    split at hv
    ·obtain rfl := Option.some.inj hv
     exact .undef _
    ·simp at hv
  ·intro n v cv hv hcv
   simp only [start] at hv
   rcases Nat.lt_or_ge n vs.length with hn | hn
   ·rw [List.getElem?_append_left hn] at hv
    exact bQ (hbare v (List.mem_of_getElem? hv)) _ _ _ _
   ·rw [List.getElem?_append_right hn, List.getElem?_replicate] at hv
    split at hv
    ·obtain rfl := Option.some.inj hv
     simp [aa]
    ·simp at hv
 have hend := aJ (df := []) hΓ hβ hP n (Nat.le_refl _) ir code hc (fin rs) (start fn.ntmps vs hp) act w g hrun ⟨hsr, FR.refl _ _ _, rfl⟩
 refine wp_mono hend ?_
 rintro e a' w' ⟨ex, s', g', he, hk, hi⟩
 have main : ∀ v hp', (resultOf s' rs).map (fun v => (v, s'.hp)) = some (v, hp') → a'.defers = [] ∧ ∃ cv, (results fn a'.tmps).run P w' = .ok cv w' ∧
   (∃ cv' g'', Ending.returned cv = .returned cv' ∧ HR g'' hp' w' ∧ FR g hp w g'' hp' w' ∧ VRel g''.I g''.ρ hp'.length w' v cv' ∧ aa g'' w' .res v cv') := by
  intro v hp' hres
  refine ⟨hi.df, ?_⟩
  obtain ⟨v', hv', hpe⟩ := Option.map_eq_some_iff.1 hres
  simp only [Prod.mk.injEq] at hpe
  obtain ⟨rfl, rfl⟩ := hpe
  have hex : ∃ vs', rvs s' rs = some vs' := by
   unfold resultOf at hv'
   cases hh : rvs s' rs with
   | none => rw [hh] at hv'; simp at hv'
   | some vs' => exact ⟨vs', rfl⟩
  obtain ⟨vs', hvs⟩ := hex
  obtain ⟨cvs, l1, l2, l3, l4, l5, l6⟩ := fg hi.sr hrs hvs
  have hr := eZ (fn := fn) (a := a') (P := P) (w := w') rfl (by rw [l3, l1]) h5 l4
  unfold resultOf at hv'
  rw [hvs] at hv'
  clear hvs l3 l4 hres
  match rs, vs', cvs, l1, l2, l5, l6, hr, hv' with
  | [x], [v0], [c0], _, _, l5, l6, hr, hv' =>
    simp only [Option.some.injEq] at hv'
    subst hv'
    have ho := l6 0 x v0 c0 rfl rfl rfl
    have hvr := l5 0 v0 c0 rfl rfl
    cases x with
    | t n =>
      simp only [fB] at ho
      refine ⟨c0, hr, c0, g'.hand (some n), rfl, hi.sr.hr.hand _, hi.fr.hand _, hvr, ?_⟩
      unfold aa at ho ⊢
      split
      ·rename_i k xs ad len cap
       obtain ⟨o1, o2, o3⟩ := ho
       exact ⟨by simp [Gh.hand, o1], o2, o3⟩
      ·obtain ⟨o1, o2, o3⟩ := ho
       exact ⟨by simp [Gh.hand, o1], o2, o3⟩
      ·rcases ho with ho | ⟨b, cap, arr, e, fz, m0, m1, m2, m3, m4, m5⟩
       ·exact .inl ho
       ·exact .inr ⟨b, cap, arr, e, fz, m0, m1, m2, m3, by simp [Gh.hand, m4], m5⟩
      ·trivial
    | cell n size agg =>
      exact ⟨c0, hr, c0, g'.hand none, rfl, hi.sr.hr.hand _, hi.fr.hand _, hvr, bQ ho _ _ _ _⟩
  | [], [], [], _, _, l5, l6, hr, hv' =>
    simp only [Option.some.injEq] at hv'
    subst hv'
    exact ⟨_, hr, _, g'.hand none, rfl, hi.sr.hr.hand _, hi.fr.hand _, .tup [] #[] rfl (by simp), by simp [aa]⟩
  | x :: y :: rs, v0 :: v1 :: vs', c0 :: c1 :: cvs, l1, _, l5, l6, hr, hv' =>
    simp only [Option.some.injEq] at hv'
    subst hv'
    refine ⟨_, hr, _, g'.hand none, rfl, hi.sr.hr.hand _, hi.fr.hand _, .tup _ _ (by simpa using l1.symm) ?_, by simp [aa]⟩
    intro i c cv hc hcv
    rw [List.getElem?_map, Option.map_eq_some_iff] at hc
    obtain ⟨c', hc', rfl⟩ := hc
    exact (l5 i c' cv hc' (by simpa using hcv)).disown
 cases ex with
 | normal =>
   cases e <;> simp only [b0] at he
   exact main _ _ hk
 | exit i => simp [fin] at hk
 | ret =>
   cases e <;> simp only [b0] at he
   exact main _ _ hk
end
end Go.AM
end
noncomputable section
namespace Go.AM
set_option autoImplicit false
set_option linter.unusedSimpArgs false
set_option linter.unusedVariables false
def V.flatE : V → Bool
 | .ea cs => cs.all V.flat1
 | v => v.flat1
def V.flat2 : V → Bool
 | .agg cs => cs.all V.flat1
 | .ea cs => cs.all V.flat1
 | .fn _ cs => cs.all V.flatE
 | v => v.flat1
def V.flat : V → Bool
 | .tup cs => cs.all V.flat2
 | v => v.flat2
section
variable {I : Nat → Nat → Prop} {ρ ρ' : Nat → Nat} {N N' : Nat} {w : World} {P : Program}
theorem VRel.flatE {v : V} {cv : Value} (h : VRel I ρ N w v cv) (hf : v.flatE = true) : VRel I ρ' N' w v cv := by
 cases h with
 | ea cs b off f h1 hI hw hv =>
   simp only [V.flatE, List.all_eq_true] at hf
   exact .ea cs b off f h1 hI hw (fun j c hc => (hv j c hc).flat1 (hf c (List.mem_of_getElem? hc)))
 | bool b => exact .bool b
 | int k n h => exact .int k n h
 | str l s hl h => exact .str l s hl h
 | sln k o => exact .sln k o
 | sle k o ad ho => exact .sle k o ad ho
 | sl k o xs b off len cap hl hc hm hfl f hI hw hv => exact (VRel.sl k o xs b off len cap hl hc hm hfl f hI hw hv).flat1 rfl
 | nilp => exact .nilp
 | nilif => exact .nilif
 | fn f cs vs hl hv =>
   cases cs with
   | nil => exact .fn f [] vs hl (by simp)
   | cons c cs => simp [V.flatE, V.flat1] at hf
 | _ => simp [V.flatE, V.flat1] at hf
theorem VRel.flat2 {v : V} {cv : Value} (h : VRel I ρ N w v cv) (hf : v.flat2 = true) : VRel I ρ' N' w v cv := by
 cases h with
 | ea cs b off f h1 hI hw hv => exact (VRel.ea cs b off f h1 hI hw hv).flatE hf
 | agg cs vs hl h1 hb hv =>
   simp only [V.flat2, List.all_eq_true] at hf
   exact .agg cs vs hl h1 hb (fun i c cv hc hcv => (hv i c cv hc hcv).flat1 (hf c (List.mem_of_getElem? hc)))
 | bool b => exact .bool b
 | int k n h => exact .int k n h
 | str l s hl h => exact .str l s hl h
 | sln k o => exact .sln k o
 | sle k o ad ho => exact .sle k o ad ho
 | sl k o xs b off len cap hl hc hm hfl f hI hw hv => exact (VRel.sl k o xs b off len cap hl hc hm hfl f hI hw hv).flat1 rfl
 | nilp => exact .nilp
 | nilif => exact .nilif
 | fn f cs vs hl hv =>
   simp only [V.flat2, List.all_eq_true] at hf
   exact .fn f cs vs hl (fun i c cv hc hcv => (hv i c cv hc hcv).flatE (hf c (List.mem_of_getElem? hc)))
 | _ => simp [V.flat2, V.flat1] at hf
theorem VRel.flat {v : V} {cv : Value} (h : VRel I ρ N w v cv) (hf : v.flat = true) : VRel I ρ' N' w v cv := by
 cases h with
 | tup cs vs hl hv =>
   simp only [V.flat, List.all_eq_true] at hf
   exact .tup cs vs hl (fun i c cv hc hcv => (hv i c cv hc hcv).flat2 (hf c (List.mem_of_getElem? hc)))
 | agg cs vs hl h1 hb hv => exact (VRel.agg cs vs hl h1 hb hv).flat2 hf
 | bool b => exact .bool b
 | int k n h => exact .int k n h
 | str l s hl h => exact .str l s hl h
 | sln k o => exact .sln k o
 | sle k o ad ho => exact .sle k o ad ho
 | sl k o xs b off len cap hl hc hm hfl f hI hw hv => exact (VRel.sl k o xs b off len cap hl hc hm hfl f hI hw hv).flat1 rfl
 | nilp => exact .nilp
 | nilif => exact .nilif
 | fn f cs vs hl hv => exact (VRel.fn f cs vs hl hv).flat2 hf
 | ea cs b off f h1 hI hw hv => exact (VRel.ea cs b off f h1 hI hw hv).flat2 hf
 | _ => simp [V.flat, V.flat2, V.flat1] at hf
def ba (P : Program) (f : FuncId) (vs : List V) (v : V) : Prop := ∃ hp', aT P f vs [] v hp'
theorem ba.frame {f : FuncId} {vs : List V} {v : V} (h : ba P f vs v) (hf : vs.all V.flat = true) (hv : v.flat = true) (hp : List ab) : aT P f vs hp v hp := by
 obtain ⟨hp', h⟩ := h
 intro w g cargs hβ hhr hlen hbare hrel
 let g₀ : Gh := { I := g.I, ρ := g.ρ, O := fun _ => none, β := g.β }
 have h0 : HR g₀ [] w := ⟨by simp, by simp, by simp, by simp, hhr.exI, by simp [g₀]⟩
 refine (h w g₀ cargs hβ h0 hlen hbare (fun i x cv hx hcv => (hrel i x cv hx hcv).flat (List.all_eq_true.1 hf x (List.mem_of_getElem? hx)))).mono ?_
 rintro e w' ⟨cv, g₁, rfl, q1, q2, q3, q4⟩
 have blk : ∀ b, b < w.heap.size → w'.heap[b]? = w.heap[b]? := fun b hb => q2.block b hb (by simp) rfl
 have isame : ∀ b j, b < w.heap.size → g₁.I b j → g.I b j := fun b j hb hi => q2.iSame b j hb (by simp) rfl hi
 have osame : ∀ b, b < w.heap.size → g₁.O b = none := fun b hb => q2.oSame b hb (by simp) rfl
 let g₂ : Gh := { I := g₁.I, ρ := g.ρ, O := fun b => if b < w.heap.size then g.O b else (if g₁.O b = some .res then some .res else none), β := g.β }
 have up : Up g.I g.ρ hp.length w g₂.I g₂.ρ hp.length w' := ⟨q2.up.mono, q2.up.cell, fun _ _ => rfl, Nat.le_refl _⟩
 have olt : ∀ (id : Nat) cs, hp[id]? = some (some cs) → g.ρ id < w.heap.size := by
  intro id cs hid
  obtain ⟨arr, e, fz, h1, _⟩ := hhr.obj id cs hid
  rcases Nat.lt_or_ge (g.ρ id) w.heap.size with hl | hl
  ·exact hl
  ·simp [Array.getElem?_eq_none hl] at h1
 have okeep : ∀ occ v cv, aa g w occ v cv → aa g₂ w' occ v cv := by
  intro occ v cv ho
  refine ap ho rfl (fun b j hi => ⟨up.mono b j hi, up.cell b j hi⟩) ?_
  intro b hb
  have hlt := hhr.oLt b occ hb
  exact ⟨by simp [g₂, hlt, hb], blk b hlt, fun j hj => isame b j hlt hj⟩
 refine ⟨cv, g₂, rfl, ⟨?_, hhr.apart, ?_, ?_, q1.exI, ?_⟩, ⟨rfl, q2.os, q2.tape, q2.output, q2.size, fun b hb _ _ => blk b hb, up, fun b j hb _ _ hi => isame b j hb hi, ?_, fun _ cs h => .inl ⟨cs, h⟩⟩, ?_, ?_⟩
 ·intro id cs hid
  obtain ⟨arr, e, fz, h1, h2⟩ := hhr.obj id cs hid
  exact ⟨arr, e, fz, (blk _ (olt id cs hid)).trans h1, h2.len, h2.plain, h2.typedUp rfl up.rho up.num rfl, h2.cold, h2.one, fun j c cv hc hcv => (h2.rel j c cv hc hcv).up up, fun j c cv hc hcv => okeep _ _ _ (h2.own j c cv hc hcv), h2.bn⟩
 ·intro id cs hid j hi
  exact hhr.notI id cs hid j (isame _ j (olt id cs hid) hi)
 ·intro id cs hid
  have := olt id cs hid
  simp [g₂, this, hhr.notO id cs hid]
 ·intro b o hb
  simp only [g₂] at hb
  split at hb
  ·rename_i hlt
   exact Nat.lt_of_lt_of_le hlt q2.size
  ·split at hb
   ·rename_i hres
    exact q1.oLt b _ hres
   ·simp at hb
 ·intro b hb _ hO
  simp [g₂, hb, hO]
 ·exact q3.flat hv
 ·unfold aa at q4 ⊢
  split
  ·rename_i k xs ad len cap
   obtain ⟨o1, o2, o3⟩ := q4
   refine ⟨?_, (by obtain ⟨arr, e, fz, a1, a2, a3⟩ := o2; exact ⟨arr, e, fz, a1, a2, fun hk => (a3 hk).trans q2.beta⟩), o3⟩
   have : ¬ ad.block < w.heap.size := by
    intro hlt
    rw [osame _ hlt] at o1
    simp at o1
   simp [g₂, this, o1]
  ·simp [V.flat, V.flat2, V.flat1] at hv
  ·simp [V.flat, V.flat2, V.flat1] at hv
  ·trivial
end
end Go.AM
end
noncomputable section
namespace Go.AM
set_option autoImplicit false
set_option linter.unusedSimpArgs false
set_option linter.unusedVariables false
def V.flatO : V → Bool
 | .bn _ _ => true
 | .ul _ _ => true
 | v => v.flat1
section
variable {I : Nat → Nat → Prop} {ρ ρ' : Nat → Nat} {N N' : Nat} {w : World} {P : Program}
theorem VRel.flatO {v : V} {cv : Value} (h : VRel I ρ N w v cv) (hf : v.flatO = true) : VRel I ρ' N' w v cv := by
 cases h with
 | bn E n p => exact .bn E n p
 | ul k xs ad cap hm => exact .ul k xs ad cap hm
 | bool b => exact .bool b
 | int k n h => exact .int k n h
 | str l s hl h => exact .str l s hl h
 | sln k o => exact .sln k o
 | sle k o ad ho => exact .sle k o ad ho
 | sl k o xs b off len cap hl hc hm hfl f hI hw hv => exact (VRel.sl k o xs b off len cap hl hc hm hfl f hI hw hv).flat1 rfl
 | nilp => exact .nilp
 | nilif => exact .nilif
 | fn f cs vs hl hv =>
   cases cs with
   | nil => exact .fn f [] vs hl (by simp)
   | cons c cs => simp [V.flatO, V.flat1] at hf
 | _ => simp [V.flatO, V.flat1] at hf
theorem cW {cs : List V} (h : cs.all V.flatO = true) : ak cs = false := by
 unfold ak
 split
 ·simp [V.flatO, V.flat1] at h
 ·simp [V.flatO, V.flat1] at h
 ·rfl
theorem aa.reloc {g g' : Gh} {w : World} {occ occ' : Occ} {v : V} {cv : Value} (h : aa g w occ v cv) (hβ : g'.β = g.β) (hI : g'.I = g.I)
  (hO : ∀ b, g.O b = some occ → g'.O b = some occ') : aa g' w occ' v cv := by
 unfold aa at h ⊢
 split
 ·rename_i k xs a len cap
  obtain ⟨o1, ⟨arr2, e2, fz, b1, b2, b3⟩, o3⟩ := h
  exact ⟨hO _ o1, ⟨arr2, e2, fz, b1, b2, fun hk => (b3 hk).trans hβ.symm⟩, by rw [hI]; exact o3⟩
 ·obtain ⟨o1, o2, o3⟩ := h
  exact ⟨hO _ o1, o2, by rw [hI]; exact o3⟩
 ·rcases h with h | ⟨b, cap, arr, e, fz, h0, h1, h2, h3, h4, h5, h6, h7, h8, h9⟩
  ·exact .inl h
  ·exact .inr ⟨b, cap, arr, e, fz, h0, h1, h2, h3, hO _ h4, h5, h6, fun hk => (h7 hk).trans hβ.symm, by rw [hI]; exact h8, by rw [hI]; exact h9⟩
 ·trivial
def V.ren (σ : Nat → Nat) : V → V
 | .ptr i o => .ptr (σ i) o
 | v => v
def V.flatP (n : Nat) : V → Bool
 | .ptr i 0 => decide (i < n)
 | v => v.flat
theorem V.ren_flat {σ : Nat → Nat} {v : V} (h : v.flat = true) : v.ren σ = v := by
 cases v <;> simp [V.flat, V.flat2, V.flat1] at h <;> rfl
theorem V.ren_bare {σ : Nat → Nat} {v : V} : (v.ren σ).bare = v.bare := by
 cases v <;> rfl
def cC (P : Program) (f : FuncId) (avs : List V) (css : List (List V)) (v : V) (css' : List (List V)) : Prop :=
 css'.length = css.length ∧ ∃ rest, aT P f avs (css.map some) v (css'.map some ++ rest)
theorem cC.frame {f : FuncId} {avs : List V} {css css' : List (List V)} {v : V} (h : cC P f avs css v css') (ha : avs.all (V.flatP css.length) = true) (hv : v.flat = true)
  (hc : css.all (fun cs => cs.all V.flatO) = true) (hc' : css'.all (fun cs => cs.all V.flatO) = true) {hp hp' : List ab} {σ : Nat → Nat}
  (hσ : ∀ k k', k < css.length → k' < css.length → σ k = σ k' → k = k')
  (h1 : ∀ (k : Nat) cs, css[k]? = some cs → hp[σ k]? = some (some cs)) (h2 : hp'.length = hp.length)
  (h3 : ∀ (k : Nat) cs, css'[k]? = some cs → hp'[σ k]? = some (some cs))
  (h4 : ∀ id, (∀ k, k < css.length → σ k ≠ id) → hp'[id]? = hp[id]?) : aT P f (avs.map (V.ren σ)) hp v hp' := by
 obtain ⟨hlen', rest, h⟩ := h
 intro w g cargs hβ hhr hlen hbare hrel
 have hcs : ∀ (k : Nat) cs, css[k]? = some cs → cs.all V.flatO = true := fun k cs hk => List.all_eq_true.1 hc cs (List.mem_of_getElem? hk)
 have hcs' : ∀ (k : Nat) cs, css'[k]? = some cs → cs.all V.flatO = true := fun k cs hk => List.all_eq_true.1 hc' cs (List.mem_of_getElem? hk)
 have lt_of : ∀ (k : Nat) cs, css[k]? = some cs → k < css.length := fun k cs hk => (List.getElem?_eq_some_iff.1 hk).1
 have map_of : ∀ (k : Nat) cs, (css.map some)[k]? = some (some cs) → css[k]? = some cs := by
  intro k cs hk
  rw [List.getElem?_map] at hk
  cases hq : css[k]? with
  | none => rw [hq] at hk; simp at hk
  | some x => rw [hq] at hk; simpa using hk
 have sub : ∀ k, k < css.length → ∃ cs, css[k]? = some cs ∧ hp[σ k]? = some (some cs) := fun k hk => ⟨css[k], List.getElem?_eq_getElem hk, h1 k _ (List.getElem?_eq_getElem hk)⟩
 let inv : Nat → Option Nat := fun i => (List.range css.length).find? fun k => σ k == i
 have inv_some : ∀ i k, inv i = some k → k < css.length ∧ σ k = i := by
  intro i k hk
  have m1 := List.mem_of_find?_eq_some hk
  have m2 := List.find?_some hk
  exact ⟨List.mem_range.1 m1, by simpa using m2⟩
 have inv_of : ∀ k, k < css.length → inv (σ k) = some k := by
  intro k hk
  cases hq : inv (σ k) with
  | none =>
    have := List.find?_eq_none.1 hq k (List.mem_range.2 hk)
    simp at this
  | some k' =>
    obtain ⟨m1, m2⟩ := inv_some _ _ hq
    rw [hσ k' k m1 hk m2]
 let g₀ : Gh := { I := g.I, ρ := fun k => g.ρ (σ k), O := fun b => match g.O b with | some (.cell i j) => (inv i).map fun k => .cell k j | _ => none, β := g.β }
 have gO : ∀ b o, g₀.O b = some o → ∃ k j, k < css.length ∧ o = .cell k j ∧ g.O b = some (.cell (σ k) j) := by
  intro b o hb
  simp only [g₀] at hb
  split at hb
  ·rename_i i j hg
   cases hq : inv i with
   | none => rw [hq] at hb; simp at hb
   | some k =>
     rw [hq] at hb
     obtain ⟨m1, m2⟩ := inv_some _ _ hq
     exact ⟨k, j, m1, by simpa using hb.symm, by rw [m2]; exact hg⟩
  ·simp at hb
 have gN : ∀ b, (∀ k j, k < css.length → g.O b ≠ some (.cell (σ k) j)) → g₀.O b = none := by
  intro b hb
  cases hq : g₀.O b with
  | none => rfl
  | some o =>
    obtain ⟨k, j, hk, _, hj⟩ := gO b o hq
    exact absurd hj (hb k j hk)
 have gC : ∀ b k j, k < css.length → g.O b = some (.cell (σ k) j) → g₀.O b = some (.cell k j) := by
  intro b k j hk hb
  simp [g₀, hb, inv_of k hk]
 have hO0 : ∀ k, k < css.length → g₀.O (g.ρ (σ k)) = none := by
  intro k hk
  obtain ⟨cs, _, hid⟩ := sub k hk
  exact gN _ (by intro k' j _ hj; rw [hhr.notO _ cs hid] at hj; cases hj)
 have h0 : HR g₀ (css.map some) w := by
  refine ⟨?_, ?_, ?_, ?_, hhr.exI, ?_⟩
  ·intro k c hk
   have hk := map_of k c hk
   obtain ⟨arr, e, fz, a1, a2⟩ := hhr.obj _ c (h1 k c hk)
   have hr := cW (hcs k c hk)
   refine ⟨arr, e, fz, a1, a2.len, a2.plain, by rintro k xs rfl; simp [ak] at hr, a2.cold, a2.one, ?_, ?_, a2.bn⟩
   ·intro j c' cv hj hcv
    exact (a2.rel j c' cv hj hcv).flatO (List.all_eq_true.1 (hcs k c hk) c' (List.mem_of_getElem? (by rw [aW hr] at hj; exact hj)))
   ·intro j c' cv hj hcv
    exact (a2.own j c' cv hj hcv).reloc rfl rfl fun b hb => gC b k j (lt_of k c hk) hb
  ·intro k k' c c' hk hk' hne
   have hk := map_of k c hk
   have hk' := map_of k' c' hk'
   exact hhr.apart _ _ _ _ (h1 k c hk) (h1 k' c' hk') fun e => hne (hσ k k' (lt_of k c hk) (lt_of k' c' hk') e)
  ·intro k c hk
   exact hhr.notI _ c (h1 k c (map_of k c hk))
  ·intro k c hk
   exact hO0 k (lt_of k c (map_of k c hk))
  ·intro b o hb
   obtain ⟨k, j, _, _, hj⟩ := gO b o hb
   exact hhr.oLt b _ hj
 have hargs : ∀ (i : Nat) x cv, avs[i]? = some x → cargs[i]? = some cv → VRel g₀.I g₀.ρ (css.map some).length w x cv := by
  intro i x cv hx hcv
  have hr := hrel i (x.ren σ) cv (by rw [List.getElem?_map, hx]; rfl) hcv
  have hx' := List.all_eq_true.1 ha x (List.mem_of_getElem? hx)
  unfold V.flatP at hx'
  split at hx'
  ·rename_i k
   have hk : k < css.length := by simpa using hx'
   simp only [V.ren] at hr
   cases hr with
   | ptr _ _ _ => exact .ptr k 0 (by simpa using hk)
  ·rw [V.ren_flat hx'] at hr
   exact hr.flat hx'
 refine (h w g₀ cargs hβ h0 (by rw [← hlen, List.length_map]) (by
  intro x hx
  have := hbare (x.ren σ) (List.mem_map_of_mem hx)
  rw [V.ren_bare] at this
  exact this) hargs).mono ?_
 rintro ex w' ⟨cv, g₁, rfl, q1, q2, q3, q4⟩
 have r0 : ∀ k, k < css.length → g₁.ρ k = g.ρ (σ k) := fun k hk => q2.up.rho k (by simpa using hk)
 have noO : ∀ b, (∀ k, k < css.length → g.ρ (σ k) ≠ b) → ∀ (k : Nat) cs, (css.map some)[k]? = some (some cs) → g₀.ρ k ≠ b := fun b hb k cs hk => hb k (lt_of k cs (map_of k cs hk))
 have blk : ∀ b, b < w.heap.size → (∀ k, k < css.length → g.ρ (σ k) ≠ b) → g₀.O b = none → w'.heap[b]? = w.heap[b]? := fun b hb hne hO => q2.block b hb (noO b hne) hO
 let g₂ : Gh := { I := g₁.I, ρ := g.ρ, O := fun b => match g₁.O b with
  | some .res => some .res
  | some (.cell k j) => cond (Nat.blt k css.length) (some (.cell (σ k) j)) none
  | some (.slot _) => none
  | none => if b < w.heap.size ∧ g₀.O b = none then g.O b else none, β := g.β }
 have up : Up g.I g.ρ hp.length w g₂.I g₂.ρ hp'.length w' := ⟨q2.up.mono, q2.up.cell, fun _ _ => rfl, by rw [h2]; exact Nat.le_refl _⟩
 have olt : ∀ (i : Nat) c, hp[i]? = some (some c) → g.ρ i < w.heap.size := by
  intro i c hi
  obtain ⟨arr, e, fz, h1, _⟩ := hhr.obj i c hi
  exact (Array.getElem?_eq_some_iff.1 h1).1
 have fst : ∀ (k : Nat) cs, css'[k]? = some cs → (css'.map some ++ rest)[k]? = some (some cs) := by
  intro k cs hk
  rw [List.getElem?_append_left (by simpa using (List.getElem?_eq_some_iff.1 hk).1), List.getElem?_map, hk]; rfl
 have key : ∀ (i : Nat) c, hp'[i]? = some (some c) → (∃ k c₀, k < css.length ∧ i = σ k ∧ css'[k]? = some c ∧ hp[i]? = some (some c₀)) ∨ ((∀ k, k < css.length → σ k ≠ i) ∧ hp[i]? = some (some c)) := by
  intro i c hi
  by_cases hk : ∃ k, k < css.length ∧ σ k = i
  ·obtain ⟨k, hk, rfl⟩ := hk
   obtain ⟨c₀, _, hc₀⟩ := sub k hk
   have hk' : k < css'.length := by omega
   have := h3 k _ (List.getElem?_eq_getElem hk')
   rw [this] at hi
   exact .inl ⟨k, c₀, hk, rfl, by rw [List.getElem?_eq_getElem hk']; simpa using hi, hc₀⟩
  ·have hn : ∀ k, k < css.length → σ k ≠ i := fun k hk' e => hk ⟨k, hk', e⟩
   exact .inr ⟨hn, (h4 i hn).symm.trans hi⟩
 have live₀ : ∀ (i : Nat) c, hp'[i]? = some (some c) → ∃ c₀, hp[i]? = some (some c₀) := by
  intro i c hi
  rcases key i c hi with ⟨_, c₀, _, _, _, h⟩ | ⟨_, h⟩
  ·exact ⟨c₀, h⟩
  ·exact ⟨c, h⟩
 have apartσ : ∀ (i : Nat) c, (∀ k, k < css.length → σ k ≠ i) → hp[i]? = some (some c) → ∀ k, k < css.length → g.ρ (σ k) ≠ g.ρ i := by
  intro i c hn hi k hk
  obtain ⟨c₀, _, hc₀⟩ := sub k hk
  exact hhr.apart _ _ _ _ hc₀ hi (hn k hk)
 have g2same : ∀ b, b < w.heap.size → (∀ k, k < css.length → g.ρ (σ k) ≠ b) → g₀.O b = none → g₂.O b = g.O b := by
  intro b hb hne hO
  have := q2.oSame b hb (noO b hne) hO
  simp only [g₂, this]
  rw [if_pos ⟨hb, hO⟩]
 have ownBlk : ∀ b o, g.O b = some o → ∀ k, k < css.length → g.ρ (σ k) ≠ b := by
  intro b o hb k hk e
  obtain ⟨c₀, _, hc₀⟩ := sub k hk
  rw [← e, hhr.notO _ c₀ hc₀] at hb
  cases hb
 refine ⟨cv, g₂, rfl, ⟨?_, ?_, ?_, ?_, q1.exI, ?_⟩, ⟨rfl, q2.os, q2.tape, q2.output, q2.size, ?_, up, ?_, ?_, ?_⟩, ?_, ?_⟩
 ·intro i c hi
  rcases key i c hi with ⟨k, c₀, hk, rfl, hk', hid⟩ | ⟨hne, hi⟩
  ·obtain ⟨arr', e', fz, a1, a2⟩ := q1.obj k c (fst k c hk')
   rw [r0 k hk] at a1
   have hr := cW (hcs' k c hk')
   refine ⟨arr', e', fz, a1, a2.len, a2.plain, by rintro k xs rfl; simp [ak] at hr, a2.cold, a2.one, ?_, ?_, ?_⟩
   ·intro j c' cv hj hcv
    exact (a2.rel j c' cv hj hcv).flatO (List.all_eq_true.1 (hcs' k c hk') c' (List.mem_of_getElem? (by rw [aW hr] at hj; exact hj)))
   ·intro j c' cv hj hcv
    refine (a2.own j c' cv hj hcv).reloc q2.beta.symm rfl fun b hb => ?_
    have hb' : Nat.blt k css.length = true := by rw [Nat.blt_eq]; exact hk
    simp [g₂, hb, hb']
   ·intro j E n hj
    have := a2.bn j E n hj
    rw [r0 k hk] at this
    exact this
  ·obtain ⟨arr', e', fz, a1, a2⟩ := hhr.obj i c hi
   have hnO : g₀.O (g.ρ i) = none := gN _ (by intro k j _ hj; rw [hhr.notO i c hi] at hj; cases hj)
   refine ⟨arr', e', fz, (blk _ (olt i c hi) (apartσ i c hne hi) hnO).trans a1, a2.len, a2.plain, a2.typedUp rfl (fun _ _ => rfl) up.num rfl, a2.cold, a2.one, fun j c cv hj hcv => (a2.rel j c cv hj hcv).up up, ?_, a2.bn⟩
   intro j c' cv hj hcv
   refine ap (a2.own j c' cv hj hcv) rfl (fun b j hi => ⟨up.mono b j hi, up.cell b j hi⟩) ?_
   intro b hb
   have hlt := hhr.oLt b _ hb
   have hO : g₀.O b = none := gN _ (by intro k j' hk hj'; rw [hb] at hj'; cases hj'; exact hne k hk rfl)
   have hbne := ownBlk b _ hb
   exact ⟨(g2same b hlt hbne hO).trans hb, blk b hlt hbne hO, fun j hj => q2.iSame b j hlt (noO b hbne) hO hj⟩
 ·intro i i' c c' hi hi' hne
  obtain ⟨c₀, m1⟩ := live₀ i c hi
  obtain ⟨c₁, m2⟩ := live₀ i' c' hi'
  exact hhr.apart _ _ _ _ m1 m2 hne
 ·intro i c hi j hj
  rcases key i c hi with ⟨k, c₀, hk, rfl, hk', hid⟩ | ⟨hne, hi⟩
  ·have := q1.notI k c (fst k c hk') j
   rw [r0 k hk] at this
   exact this hj
  ·have hnO : g₀.O (g.ρ i) = none := gN _ (by intro k j _ hj; rw [hhr.notO i c hi] at hj; cases hj)
   exact hhr.notI i c hi j (q2.iSame _ j (olt i c hi) (noO _ (apartσ i c hne hi)) hnO hj)
 ·intro i c hi
  rcases key i c hi with ⟨k, c₀, hk, rfl, hk', hid⟩ | ⟨hne, hi⟩
  ·have := q1.notO k c (fst k c hk')
   rw [r0 k hk] at this
   simp only [g₂, this]
   split
   ·exact hhr.notO _ c₀ hid
   ·rfl
  ·have hnO : g₀.O (g.ρ i) = none := gN _ (by intro k j _ hj; rw [hhr.notO i c hi] at hj; cases hj)
   exact (g2same _ (olt i c hi) (apartσ i c hne hi) hnO).trans (hhr.notO i c hi)
 ·intro b o hb
  simp only [g₂] at hb
  split at hb
  ·rename_i hq; exact q1.oLt b _ hq
  ·rename_i hq; exact q1.oLt b _ hq
  ·simp at hb
  ·split at hb
   ·rename_i hq; exact Nat.lt_of_lt_of_le hq.1 q2.size
   ·simp at hb
 ·intro b hb ho hO
  exact blk b hb (fun k hk e => by obtain ⟨c₀, _, hc₀⟩ := sub k hk; exact ho _ c₀ hc₀ e) (gN _ (by intro k j _ hj; rw [hO] at hj; cases hj))
 ·intro b j hb ho hO hi
  exact q2.iSame b j hb (noO b fun k hk e => by obtain ⟨c₀, _, hc₀⟩ := sub k hk; exact ho _ c₀ hc₀ e) (gN _ (by intro k j _ hj; rw [hO] at hj; cases hj)) hi
 ·intro b hb ho hO
  exact (g2same b hb (fun k hk e => by obtain ⟨c₀, _, hc₀⟩ := sub k hk; exact ho _ c₀ hc₀ e) (gN _ (by intro k j _ hj; rw [hO] at hj; cases hj))).trans hO
 ·intro i c hi
  exact .inl (live₀ i c hi)
 ·exact q3.flat hv
 ·exact q4.reloc q2.beta.symm rfl fun b hb => by simp [g₂, hb]
def gp (P : Program) (f : FuncId) (vs cs : List V) (v : V) (cs' : List V) : Prop := ∃ rest, aT P f (.ptr 0 0 :: vs) [some cs] v (some cs' :: rest)
theorem V.flatP_flat {n : Nat} {v : V} (h : v.flat = true) : v.flatP n = true := by
 unfold V.flatP
 split
 ·simp [V.flat, V.flat2, V.flat1] at h
 ·exact h
theorem ee {σ : Nat → Nat} : ∀ {vs : List V}, vs.all V.flat = true → vs.map (V.ren σ) = vs
 | [], _ => rfl
 | v :: vs, h => by
   simp only [List.all_cons, Bool.and_eq_true] at h
   rw [List.map_cons, V.ren_flat h.1, ee h.2]
theorem gp.frame {f : FuncId} {vs cs cs' : List V} {v : V} (h : gp P f vs cs v cs') (hf : vs.all V.flat = true) (hv : v.flat = true) (hc : cs.all V.flatO = true) (hc' : cs'.all V.flatO = true)
  {hp : List ab} {id : Nat} (hid : hp[id]? = some (some cs)) : aT P f (.ptr id 0 :: vs) hp v (hp.set id (some cs')) := by
 obtain ⟨rest, h⟩ := h
 have hidl : id < hp.length := (List.getElem?_eq_some_iff.1 hid).1
 have := cC.frame (P := P) (f := f) (avs := .ptr 0 0 :: vs) (css := [cs]) (css' := [cs']) (v := v) ⟨rfl, rest, h⟩ (hp := hp) (hp' := hp.set id (some cs')) (σ := fun _ => id)
  (by simp only [List.all_cons, Bool.and_eq_true]; exact ⟨rfl, List.all_eq_true.2 fun x hx => V.flatP_flat (List.all_eq_true.1 hf x hx)⟩) hv (by simpa using hc) (by simpa using hc')
  (by intro k k' hk hk' _; simp at hk hk'; omega) (by intro k cs₁ hk; cases k <;> simp at hk; rw [← hk]; exact hid) (by simp)
  (by intro k cs₁ hk; cases k <;> simp at hk; rw [← hk]; simp [hidl])
  (by intro i hi; rw [List.getElem?_set_ne (hi 0 (by simp))])
 rw [List.map_cons, ee hf] at this
 exact this
theorem aE.mono {Γ : aj} {imp imp' : List Nat} (h : aE Γ imp) (hs : imp.all (fun x => imp'.contains x) = true) (hm : imp'.all (fun x => Nat.blt x 2000000 || imp.contains x) = true) : aE Γ imp' := by
 refine ⟨?_, fun f vs hp c v hp' hf => h.loc f vs hp c v hp' ?_⟩
 rotate_left
 ·have := List.all_eq_true.1 hm (f + 2000000) (by simpa using hf)
  simp only [Bool.or_eq_true, Nat.blt_eq] at this
  rcases this with h1 | h1
  ·omega
  ·exact h1
 intro f vs hp hf
 refine h.pure f vs hp ?_
 cases hc : imp.contains f with
 | false => rfl
 | true =>
   have := List.all_eq_true.1 hs f (by simpa using hc)
   rw [this] at hf
   simp at hf
end
end Go.AM
end
noncomputable section
namespace Go.AM
set_option autoImplicit false
set_option linter.unusedSimpArgs false
set_option linter.unusedVariables false
section
variable {I I' : Nat → Nat → Prop} {ρ ρ' : Nat → Nat} {N N' : Nat} {w w' : World} {P : Program}
end
end Go.AM
end
noncomputable section
namespace Go.AM
set_option autoImplicit false
set_option linter.unusedSimpArgs false
set_option linter.unusedVariables false
section
variable {I I' : Nat → Nat → Prop} {ρ ρ' : Nat → Nat} {N N' : Nat} {w w' : World} {P : Program}
def V.dim1 : V → V
 | .sl k _ xs => .sl k (.may false) xs
 | v => v
def V.dim : V → V
 | .agg cs => .agg (cs.map V.dim1)
 | v => v.dim1
theorem VRel.dim1 {v : V} {cv : Value} (h : VRel I ρ N w v cv) : VRel I ρ N w v.dim1 cv := by
 cases v <;> simp only [V.dim1] <;> first | exact h.own (by simp) (by simp) | exact h
theorem VRel.dim {v : V} {cv : Value} (h : VRel I ρ N w v cv) : VRel I ρ N w v.dim cv := by
 by_cases hv : ∃ cs, v = .agg cs
 ·obtain ⟨cs, rfl⟩ := hv
  cases h with
  | agg cs vs hl h1 hb hv =>
    refine .agg _ vs (by simpa using hl) ?_ ?_ ?_
    ·intro c hc
     obtain ⟨c', hc', rfl⟩ := List.mem_map.1 hc
     have := h1 c' hc'
     cases c' <;> exact this
    ·intro i c cv hc hcv
     rw [List.getElem?_map, Option.map_eq_some_iff] at hc
     obtain ⟨c', hc', rfl⟩ := hc
     have := hb i c' cv hc' hcv
     cases c' <;> first | exact this | simp [V.dim1, aF]
    ·intro i c cv hc hcv
     rw [List.getElem?_map, Option.map_eq_some_iff] at hc
     obtain ⟨c', hc', rfl⟩ := hc
     exact (hv i c' cv hc' hcv).dim1
 ·have e : v.dim = v.dim1 := by cases v <;> first | rfl | exact absurd ⟨_, rfl⟩ hv
  rw [e]; exact h.dim1
theorem f7 {v : V} (h : v.bare = true) : v.dim.bare = true := by
 cases v <;> first | exact h | rfl
theorem aT.dim {f : FuncId} {vs us : List V} {hp hp' : List ab} {v : V} (h : aT P f us hp v hp') (e : vs.map V.dim = us) : aT P f vs hp v hp' := by
 subst e
 intro w g cargs hβ hhr hlen hbare hrel
 refine h w g cargs hβ hhr (by simpa using hlen) (by
  intro x hx
  obtain ⟨y, hy, rfl⟩ := List.mem_map.1 hx
  exact f7 (hbare y hy)) ?_
 intro i x cv hx hcv
 rw [List.getElem?_map, Option.map_eq_some_iff] at hx
 obtain ⟨y, hy, rfl⟩ := hx
 exact (hrel i y cv hy hcv).dim
theorem ba.dim {f : FuncId} {vs us : List V} {v : V} (h : ba P f us v) (e : vs.map V.dim = us) : ba P f vs v := by
 obtain ⟨hp', h⟩ := h
 exact ⟨hp', h.dim e⟩
def dK (P : Program) (f : FuncId) (vs cs : List V) : Prop := aT P f vs [] (.ptr 0 0) [some cs]
theorem dK.frame {f : FuncId} {vs cs : List V} (h : dK P f vs cs) (hf : vs.all V.flat = true) (hc : cs.all V.flatO = true) (hp : List ab) : aT P f vs hp (.ptr hp.length 0) (hp ++ [some cs]) := by
 intro w g cargs hβ hhr hlen hbare hrel
 let g₀ : Gh := { I := g.I, ρ := g.ρ, O := fun _ => none, β := g.β }
 have h0 : HR g₀ [] w := ⟨by simp, by simp, by simp, by simp, hhr.exI, by simp [g₀]⟩
 refine (h w g₀ cargs hβ h0 hlen hbare (fun i x cv hx hcv => (hrel i x cv hx hcv).flat (List.all_eq_true.1 hf x (List.mem_of_getElem? hx)))).mono ?_
 rintro e w' ⟨cv, g₁, rfl, q1, q2, q3, q4⟩
 have blk : ∀ b, b < w.heap.size → w'.heap[b]? = w.heap[b]? := fun b hb => q2.block b hb (by simp) rfl
 have isame : ∀ b j, b < w.heap.size → g₁.I b j → g.I b j := fun b j hb hi => q2.iSame b j hb (by simp) rfl hi
 have osame : ∀ b, b < w.heap.size → g₁.O b = none := fun b hb => q2.oSame b hb (by simp) rfl
 have hnew : w.heap.size ≤ g₁.ρ 0 := by
  rcases q2.live 0 cs rfl with ⟨_, h⟩ | ⟨_, h | h | ⟨_, _, h, _⟩⟩
  ·simp at h
  ·exact h
  ·simp [g₀] at h
  ·simp at h
 let g₂ : Gh := { I := g₁.I, ρ := fun i => if i = hp.length then g₁.ρ 0 else g.ρ i, β := g.β, O := fun b => if b < w.heap.size then g.O b else (match g₁.O b with
  | some (.cell i j) => if i = 0 then some (.cell hp.length j) else none
  | some .res => some .res
  | _ => none) }
 have rold : ∀ i, i < hp.length → g₂.ρ i = g.ρ i := by
  intro i hi
  simp only [g₂]
  rw [if_neg (by omega)]
 have rnew : g₂.ρ hp.length = g₁.ρ 0 := by simp [g₂]
 have up : Up g.I g.ρ hp.length w g₂.I g₂.ρ (hp ++ [some cs]).length w' := ⟨q2.up.mono, q2.up.cell, rold, by simp⟩
 have olt : ∀ (id : Nat) cs, hp[id]? = some (some cs) → g.ρ id < w.heap.size := by
  intro id cs hid
  obtain ⟨arr, e, fz, h1, _⟩ := hhr.obj id cs hid
  exact (Array.getElem?_eq_some_iff.1 h1).1
 have lt_of : ∀ (id : Nat) cs, hp[id]? = some (some cs) → id < hp.length := fun id cs hid => (List.getElem?_eq_some_iff.1 hid).1
 have key : ∀ (id : Nat) c, (hp ++ [some cs])[id]? = some (some c) → (id = hp.length ∧ c = cs) ∨ hp[id]? = some (some c) := by
  intro id c hid
  rcases Nat.lt_or_ge id hp.length with hl | hl
  ·rw [List.getElem?_append_left hl] at hid
   exact .inr hid
  ·rw [List.getElem?_append_right hl] at hid
   have : id - hp.length = 0 := by
    have := (List.getElem?_eq_some_iff.1 hid).1
    simp at this; omega
   rw [this] at hid
   exact .inl ⟨by omega, by simpa using hid.symm⟩
 have okeep : ∀ id j v cv, id < hp.length → aa g w (.cell id j) v cv → aa g₂ w' (.cell id j) v cv := by
  intro id j v cv hid ho
  refine ap ho rfl (fun b j hi => ⟨q2.up.mono b j hi, q2.up.cell b j hi⟩) ?_
  intro b hb
  have hlt := hhr.oLt b _ hb
  exact ⟨by simp [g₂, hlt, hb], blk b hlt, fun j hj => isame b j hlt hj⟩
 refine ⟨cv, g₂, rfl, ⟨?_, ?_, ?_, ?_, q1.exI, ?_⟩, ⟨rfl, q2.os, q2.tape, q2.output, q2.size, fun b hb _ _ => blk b hb, up, fun b j hb _ _ hi => isame b j hb hi, ?_, ?_⟩, ?_, ?_⟩
 ·intro id c hid
  rcases key id c hid with ⟨rfl, rfl⟩ | hid
  ·obtain ⟨arr, e, fz, a1, a2⟩ := q1.obj 0 c rfl
   have hr := cW hc
   refine ⟨arr, e, fz, by rw [rnew]; exact a1, a2.len, a2.plain, by rintro k xs rfl; simp [ak] at hr, a2.cold, a2.one, ?_, ?_, ?_⟩
   ·intro j c' cv hj hcv
    exact (a2.rel j c' cv hj hcv).flatO (List.all_eq_true.1 hc c' (List.mem_of_getElem? (by rw [aW hr] at hj; exact hj)))
   ·intro j c' cv hj hcv
    refine (a2.own j c' cv hj hcv).reloc q2.beta.symm rfl fun b hb => ?_
    have hb' : ¬ b < w.heap.size := by
     intro hlt
     rw [osame b hlt] at hb
     cases hb
    simp [g₂, hb, hb']
   ·intro j E n hj
    rw [rnew]
    exact a2.bn j E n hj
  ·obtain ⟨arr, e, fz, h1, h2⟩ := hhr.obj id c hid
   have hl := lt_of id c hid
   exact ⟨arr, e, fz, by rw [rold id hl]; exact (blk _ (olt id c hid)).trans h1, h2.len, h2.plain, h2.typedUp rfl rold (by simp) rfl, h2.cold, h2.one, fun j c cv hc hcv => (h2.rel j c cv hc hcv).up up, fun j c cv hc hcv => okeep _ _ _ _ hl (h2.own j c cv hc hcv), fun j E n hj => by rw [rold id hl]; exact h2.bn j E n hj⟩
 ·intro id id' c c' hid hid' hne
  rcases key id c hid with ⟨rfl, rfl⟩ | h1
  ·rcases key id' c' hid' with ⟨rfl, rfl⟩ | h2
   ·exact absurd rfl hne
   ·rw [rnew, rold id' (lt_of id' c' h2)]
    have := olt id' c' h2
    omega
  ·rcases key id' c' hid' with ⟨rfl, rfl⟩ | h2
   ·rw [rnew, rold id (lt_of id c h1)]
    have := olt id c h1
    omega
   ·rw [rold id (lt_of id c h1), rold id' (lt_of id' c' h2)]
    exact hhr.apart _ _ _ _ h1 h2 hne
 ·intro id c hid j hj
  rcases key id c hid with ⟨rfl, rfl⟩ | hid
  ·rw [rnew] at hj
   exact q1.notI 0 c rfl j hj
  ·rw [rold id (lt_of id c hid)] at hj
   exact hhr.notI id c hid j (isame _ j (olt id c hid) hj)
 ·intro id c hid
  rcases key id c hid with ⟨rfl, rfl⟩ | hid
  ·rw [rnew]
   have h1 := q1.notO 0 c rfl
   have h2 : ¬ g₁.ρ 0 < w.heap.size := by omega
   simp [g₂, h1, h2]
  ·rw [rold id (lt_of id c hid)]
   have := olt id c hid
   simp [g₂, this, hhr.notO id c hid]
 ·intro b o hb
  simp only [g₂] at hb
  split at hb
  ·rename_i hlt
   exact Nat.lt_of_lt_of_le hlt q2.size
  ·split at hb
   ·rename_i hres
    exact q1.oLt b _ hres
   ·rename_i hres
    exact q1.oLt b _ hres
   ·simp at hb
 ·intro b hb _ hO
  simp [g₂, hb, hO]
 ·intro id c hid
  rcases key id c hid with ⟨rfl, rfl⟩ | hid
  ·exact .inr ⟨Nat.le_refl _, .inl (by rw [rnew]; exact hnew)⟩
  ·exact .inl ⟨c, hid⟩
 ·cases q3 with
  | ptr _ _ _ =>
    rw [← rnew]
    exact .ptr _ _ (by simp)
 ·simp [aa]
theorem dK.dim {f : FuncId} {vs us cs : List V} (h : dK P f us cs) (e : vs.map V.dim = us) : dK P f vs cs := aT.dim h e
theorem cC.dim {f : FuncId} {vs us : List V} {css css' : List (List V)} {v : V} (h : cC P f us css v css') (e : vs.map V.dim = us) : cC P f vs css v css' := by
 obtain ⟨h1, rest, h2⟩ := h
 exact ⟨h1, rest, h2.dim e⟩
def pick {R : Type} [Inhabited R] (C : R → Prop) : R := @Classical.epsilon R ⟨default⟩ C
end
end Go.AM
end
noncomputable section
namespace Go.AM
set_option autoImplicit false
set_option linter.unusedSimpArgs false
theorem gq {R : Type} (x : Option R) : chk true x = x := rfl
theorem f8 (k : IntKind) (hk : k.signed = false) (a : Nat) : k.wrap (a : Int) = ((a % 2 ^ k.bits : Nat) : Int) := by
 cases k <;> simp [IntKind.signed] at hk <;> simp [IntKind.wrap, IntKind.signed, IntKind.bits]
theorem e7 (k : IntKind) (hk : k.signed = false) (a : Nat) (h : a < 2 ^ k.bits) : k.wrap (a : Int) = (a : Int) := by
 rw [f8 k hk, Nat.mod_eq_of_lt h]
theorem f9 (n : Int) : IntKind.u64.wrap n = n % 18446744073709551616 := by simp [IntKind.wrap, IntKind.bits, IntKind.signed]
theorem ga (n : Int) : IntKind.u32.wrap n = n % 4294967296 := by simp [IntKind.wrap, IntKind.bits, IntKind.signed]
theorem gE (n : Int) : IntKind.u8.wrap n = n % 256 := by simp [IntKind.wrap, IntKind.bits, IntKind.signed]
theorem gb (n : Int) : IntKind.i64.wrap n = (n + 9223372036854775808) % 18446744073709551616 - 9223372036854775808 := by
 simp [IntKind.wrap, IntKind.bits, IntKind.signed]; omega
theorem gc (n : Int) : IntKind.i32.wrap n = (n + 2147483648) % 4294967296 - 2147483648 := by
 simp [IntKind.wrap, IntKind.bits, IntKind.signed]; omega
theorem dj (n : Int) (h : -9223372036854775808 ≤ n ∧ n ≤ 9223372036854775807) : IntKind.i64.wrap n = n := by rw [gb]; omega
theorem dk (n : Int) (h : 0 ≤ n ∧ n ≤ 18446744073709551615) : IntKind.u64.wrap n = n := by rw [f9]; omega
theorem dl (n : Int) (h : 0 ≤ n ∧ n ≤ 4294967295) : IntKind.u32.wrap n = n := by rw [ga]; omega
theorem dL (n : Int) (h : 0 ≤ n ∧ n ≤ 255) : IntKind.u8.wrap n = n := by rw [gE]; omega
theorem fW (n a : Nat) : (BitVec.ofInt n (a : Int)).toNat = a % 2 ^ n := by simp
theorem ge (k : IntKind) (hk : k.signed = false) (a b : Nat) (ha : a < 2 ^ k.bits) (hb : b < 2 ^ k.bits) : ax .and k a b = ((a &&& b : Nat) : Int) := by
 unfold ax
 simp only [BitVec.toNat_and, fW, Nat.mod_eq_of_lt ha, Nat.mod_eq_of_lt hb]
 exact e7 k hk _ (Nat.and_lt_two_pow a hb)
theorem gf (k : IntKind) (a n : Nat) (h : n ≤ k.bits) : bX k (a : Int) (n : Int) = ((a / 2 ^ n : Nat) : Int) := by
 unfold bX
 rw [Int.toNat_natCast, Nat.min_eq_left h, Int.fdiv_eq_ediv_of_nonneg _ (Int.le_of_lt (Int.pow_pos (by omega)))]
 norm_cast
end Go.AM
end
noncomputable section
namespace Go.AM
set_option autoImplicit false
def d0 (w : World) : Gh := { I := fun b j => (w.cell? ⟨b, j, none⟩).isSome = true, ρ := id, O := fun _ => none, β := 0 }
end Go.AM
end
noncomputable section
namespace Go.AM
set_option autoImplicit false
theorem dt {p : Prop} [Decidable p] (h : p) : decide p = true := decide_eq_true h
theorem df {p : Prop} [Decidable p] (h : ¬p) : decide p = false := decide_eq_false h
theorem bt {a b : Int} (h : a = b) : (a == b) = true := by simp [h]
theorem bf {a b : Int} (h : a ≠ b) : (a == b) = false := by simp [h]
theorem it {α : Type} {p : Prop} [Decidable p] {a b : α} (h : p) : (if p then a else b) = a := if_pos h
theorem iF {α : Type} {p : Prop} [Decidable p] {a b : α} (h : ¬p) : (if p then a else b) = b := if_neg h
theorem fh {a b : Int} (h : 0 ≤ a) : Int.tdiv a b = a / b := Int.tdiv_eq_ediv_of_nonneg h
theorem fj {a b : Int} (h : 0 ≤ a) : Int.tmod a b = a % b := Int.tmod_eq_emod_of_nonneg h
theorem ef {α β : Type} (f : α → β) (x : α) : Option.map f (some x) = some (f x) := rfl
theorem dm (n : Int) (h : -2147483648 ≤ n ∧ n ≤ 2147483647) : IntKind.i32.wrap n = n := by rw [gc]; omega
theorem g3 {o : Option (V × List ab)} {v : V} (h : o.map (·.1) = some v) : ∃ hp, o = some (v, hp) := by
 cases o with
 | none => simp at h
 | some p => obtain ⟨v', hp⟩ := p; simp at h; subst h; exact ⟨hp, rfl⟩
theorem eg {α : Type} {B : (α → Option (V × List ab)) → α → Option (V × List ab)} (inv : α → Prop) (μ : α → Nat) (F : α → V)
  (step : ∀ (rec : α → Option (V × List ab)) x, inv x → (∀ y, inv y → μ y < μ x → (rec y).map (·.1) = some (F y)) → (B rec x).map (·.1) = some (F x)) :
  ∀ n x, inv x → μ x < n → (cF n B x).map (·.1) = some (F x)
 | 0, _, _, h => by omega
 | n + 1, x, hi, hm => step (cF n B) x hi fun y hy hlt => eg inv μ F step n y hy (by omega)
theorem dM : type_of% @dt ∧ type_of% @df ∧ type_of% @it ∧ type_of% @iF ∧ type_of% @bt ∧ type_of% @bf ∧ type_of% @cond_true.{1} ∧ type_of% @cond_false.{1} ∧ type_of% @ef ∧ type_of% @gq ∧ type_of% @Bool.and_true ∧ type_of% @Bool.true_and ∧ type_of% @Bool.and_false ∧ type_of% @Bool.false_and ∧ type_of% @Bool.or_true ∧ type_of% @Bool.true_or ∧ type_of% @Bool.or_false ∧ type_of% @Bool.false_or ∧ type_of% @Bool.not_true ∧ type_of% @Bool.not_false ∧ type_of% @if_true.{1} ∧ type_of% @if_false.{1} ∧ type_of% @beq_self_eq_true.{0} ∧ type_of% @dj ∧ type_of% @dk ∧ type_of% @dm ∧ type_of% @dl ∧ type_of% @dL ∧ type_of% @fh ∧ type_of% @fj ∧ type_of% @Int.toNat_natCast ∧ type_of% @List.take_length.{0} ∧ type_of% @List.drop_zero.{0} ∧ type_of% @or_true ∧ type_of% @true_or ∧ type_of% @or_false ∧ type_of% @false_or ∧ type_of% @or_self := ⟨@dt, @df, @it, @iF, @bt, @bf, @cond_true.{1}, @cond_false.{1}, @ef, @gq, @Bool.and_true, @Bool.true_and, @Bool.and_false, @Bool.false_and, @Bool.or_true, @Bool.true_or, @Bool.or_false, @Bool.false_or, @Bool.not_true, @Bool.not_false, @if_true.{1}, @if_false.{1}, @beq_self_eq_true.{0}, @dj, @dk, @dm, @dl, @dL, @fh, @fj, @Int.toNat_natCast, @List.take_length.{0}, @List.drop_zero.{0}, @or_true, @true_or, @or_false, @false_or, @or_self⟩
end Go.AM
end
noncomputable section
namespace Go.AM
set_option autoImplicit false
set_option linter.unusedVariables false
section
variable {R : Type} {Q : R → Prop}
end
end Go.AM
end
noncomputable section
namespace Go.AM
set_option autoImplicit false
set_option linter.unusedVariables false
def bw {R : Type} (C : Nat → St → Option R) (Γ : aj) (n : Nat) : IR → (Ex → St → Option R) → St → Option R
 | .skip, K, s => K .normal s
 | .bad, _, _ => none
 | .reg ops _, K, s => runOps Γ ops (K .normal) s
 | .seq a b, K, s => bw C Γ n a (kseq (bw C Γ n b) K) s
 | .cond c a b, K, s => match c.ev s with
   | .bool t => cond t (bw C Γ n a K (c.fix s true)) (bw C Γ n b K (c.fix s false))
   | _ => none
 | .block id a, K, s => bw C Γ n a (cw id K) s
 | .loop live m a, K, s => C (live.getLastD 0) (s.keep live m)
 | .cut live m a, K, s => C (live.getLastD 0) (s.keep live m)
 | .gh g a, K, s => match g.step s with
   | some (c, s') => chk c (bw C Γ n a K s')
   | none => none
 | .ghp g a, K, s => bw C Γ n a (ep g K) s
 | .exit id, K, s => K (.exit id) s
 | .ret, K, s => K .ret s
def cq {R : Type} (Γ : aj) (n : Nat) : IR → (Ex → St → Option R) → List (Nat × (St → Option R))
 | .seq a b, K => cq Γ n a (kseq (run Γ n b) K) ++ cq Γ n b K
 | .cond _ a b, K => cq Γ n a K ++ cq Γ n b K
 | .block id a, K => cq Γ n a (cw id K)
 | .loop live m a, K => [(live.getLastD 0, fun s => b7 n (fun again s => run Γ n a (eo again live m K) s) s)]
 | .cut live m a, K => [(live.getLastD 0, fun s => run Γ n a K s)]
 | .gh g a, K => cq Γ n a K
 | .ghp g a, K => cq Γ n a (ep g K)
 | _, _ => []
theorem gF {R : Type} {C : Nat → St → Option R} {Γ : aj} {n : Nat} : ∀ (ir : IR) (K : Ex → St → Option R), (∀ p ∈ cq Γ n ir K, C p.1 = p.2) → ∀ s, bw C Γ n ir K s = run Γ n ir K s := by
 intro ir
 induction ir with
 | seq a b iha ihb =>
   intro K h s
   have e : kseq (bw C Γ n b) K = kseq (run Γ n b) K := by
    funext e s
    cases e with
    | normal => exact ihb K (fun p hp => h p (List.mem_append_right _ hp)) s
    | _ => rfl
   show bw C Γ n a (kseq (bw C Γ n b) K) s = run Γ n a (kseq (run Γ n b) K) s
   rw [e]
   exact iha _ (fun p hp => h p (List.mem_append_left _ hp)) s
 | cond c a b iha ihb =>
   intro K h s
   simp only [bw, run, iha K (fun p hp => h p (List.mem_append_left _ hp)), ihb K (fun p hp => h p (List.mem_append_right _ hp))]
   cases c.ev s <;> rfl
 | block id a iha => intro K h s; exact iha _ h s
 | loop live m a iha =>
   intro K h s
   have := h (live.getLastD 0, _) (List.mem_singleton.2 rfl)
   simp only [bw, run]
   rw [this]
 | cut live m a iha =>
   intro K h s
   have := h (live.getLastD 0, _) (List.mem_singleton.2 rfl)
   simp only [bw, run]
   rw [this]
 | gh g a iha =>
   intro K h s
   simp only [bw, run, iha K h]
   cases g.step s <;> rfl
 | ghp g a iha => intro K h s; exact iha _ h s
 | _ => intro K h s; rfl
def dN {R : Type} : List (Nat × (St → Option R)) → Nat → St → Option R
 | [], _ => fun _ => none
 | (j, f) :: l, i => cond (Nat.beq j i) f (dN l i)
def cN : List Nat → Bool
 | [] => true
 | i :: l => !(l.any (Nat.beq i)) && cN l
theorem eP {R : Type} : ∀ {l : List (Nat × (St → Option R))}, cN (l.map Prod.fst) = true → ∀ p ∈ l, dN l p.1 = p.2
 | [], _, p, hp => by simp at hp
 | (j, f) :: l, h, p, hp => by
   simp only [List.map_cons, cN, Bool.and_eq_true, Bool.not_eq_true', List.any_eq_false] at h
   rcases List.mem_cons.1 hp with rfl | hp
   ·simp [dN]
   ·have hne : Nat.beq j p.1 = false := by
     cases hb : Nat.beq j p.1 with
     | false => rfl
     | true =>
       have := h.1 p.1 (List.mem_map.2 ⟨p, hp, rfl⟩)
       exact absurd hb this
    simp only [dN, hne, cond_false]
    exact eP h.2 p hp
abbrev Ro := Option (V × List ab)
abbrev Bs := List UInt8
def U (n : Nat) (l : List V) : List V := List.replicate n .undef ++ l
def Pp (o : IOp) : GOp := ⟨none, o, none⟩
def Mv (d x : Nat) : GOp := ⟨none, .mov d (.t x), none⟩
def Fa (d o x : Nat) : GOp := ⟨none, .fad d o (.t x), none⟩
def Bi (d : Nat) (o : BinOp) (x y : Nat) : GOp := ⟨none, .bin d o (.t x) (.t y), none⟩
def Bc (d : Nat) (o : BinOp) (x : Nat) (n : Int) : GOp := ⟨none, .bin d o (.t x) (.c (.int .i64 n)), none⟩
def Nk (d x : Nat) : GOp := ⟨none, .nck (some d) (.t x), none⟩
instance (n : Nat) : OfNat ASrc n := ⟨.t n⟩
instance (n : Nat) : OfNat (Option Nat) n := ⟨some n⟩
def Rg (l : List GOp) : IR := .reg l []
def Rs (l : List GOp) (a : IR) : IR := .seq (.reg l []) a
def Sq (a b : IR) : IR := .seq a b
def Cn (c : Nat) (a b : IR) : IR := .cond (.t c) a b
def Mi (d : Nat) (n : Int) : GOp := ⟨none, .mov d (.c (.int .i64 n)), none⟩
def Ms (d : Nat) (s : List UInt8) : GOp := ⟨none, .mov d (.c (.str s)), none⟩
def Ca (d f : Nat) (l : List ASrc) : GOp := ⟨none, .call (some d) f l, none⟩
def kU (n : Int) : ASrc := .c (.int .u64 n)
def kS (s : List UInt8) : ASrc := .c (.str s)
theorem g4 {Γ : aj} {N n : Nat} {rs : List RV} {ir : IR} {vs : List V} {hp : List ab} (l : List (Nat × (St → Ro))) (hl : cN (l.map Prod.fst) = true) (e : l = cq Γ N ir (fin rs) ++ [])
  (S : (Nat → St → Ro) → Ro) (hS : ∀ C, bw C Γ N ir (fin rs) (AM.start n vs hp) = S C) : callF Γ N n rs ir vs hp = S (dN l) := by
 refine Eq.trans ?_ (hS _)
 exact (gF ir (fin rs) (fun p hp => eP hl p (by rw [e]; exact List.mem_append_left _ hp)) _).symm
section
variable {P : Program}
end
structure FnC (P : Program) (Γ : aj) (imp : List Nat) (k : Nat) (f : FuncId) (fn : Func) (ir : IR) (rs : List RV) : Prop where
 spec : aH P Γ
 imps : aE Γ imp
 func : P.funcs[f]? = some fn
 body : fn.body = some (fn.body.getD .skip)
 chk : (af P imp k ir (fn.body.getD .skip) && bo P rs fn.results.toList) = true
 small : fn.results.toList.length ≤ 5
section
variable {P : Program} {Γ : aj} {imp : List Nat} {k n : Nat} {f : FuncId} {fn : Func} {ir : IR} {rs : List RV} {vs : List V} {x : Ro}
theorem FnC.fnOK (h : FnC P Γ imp k f fn ir rs) {hp hp' : List ab} {v : V} (hk : hp.length = k) (hr : callF Γ n fn.ntmps rs ir vs hp = some (v, hp')) : aT P f vs hp v hp' := by
 subst hk
 have hc := h.chk
 simp only [Bool.and_eq_true] at hc
 exact cB h.spec h.imps h.func h.body hc.1 hc.2 h.small hr
theorem FnC.pure (h : FnC P Γ imp 0 f fn ir rs) (hr : callF Γ n fn.ntmps rs ir vs [] = x) {v : V} {hp' : List ab} (hz : x = some (v, hp')) : ba P f vs v := ⟨hp', h.fnOK rfl (hr.trans hz)⟩
end
end Go.AM
end
noncomputable section
namespace Go.Proofs.YtehknfijojlddaaDoor
open Go.AM
set_option autoImplicit false
set_option linter.unusedVariables false
def g5 (d : Nat) : UInt8 := if d < 10 then UInt8.ofNat (48 + d) else UInt8.ofNat (87 + d)
def bp (c : UInt8) : List UInt8 :=
 if c = 34 then [92, 34] else if c = 92 then [92, 92] else if c = 8 then [92, 98] else if c = 12 then [92, 102] else if c = 10 then [92, 110]
 else if c = 13 then [92, 114] else if c = 9 then [92, 116] else if c.toNat < 32 then [92, 117, 48, 48, g5 (c.toNat / 16), g5 (c.toNat % 16)] else [c]
def eQ (s : List UInt8) : List UInt8 := 34 :: (s.flatMap bp ++ [34])
def cX : List UInt8 → Nat → Option Nat
 | [], _ => none
 | b :: s, c => if b.toNat = c then some 0 else (cX s c).map (· + 1)
def aK (s : List UInt8) (c : Int) : Int := match cX s c.toNat with | some k => (k : Int) | none => -1
end Go.Proofs.YtehknfijojlddaaDoor
end
noncomputable section
namespace Go.Proofs.YtehknfijojlddaaDoor
open Go.RowKit
set_option autoImplicit false
set_option linter.unusedVariables false
theorem ej (x : Value) (w : World) : (callFunc 109 #[x]).run Tryd.prog w = .ok (.value x) w := by
 rw [run_callFunc_extern Tryd.func109 (by kernel_rfl) (by kernel_rfl) (by kernel_rfl) (e := Extern.AbiNoEscape.same) (by kernel_rfl)]
 rw [Lib.run_noEscape]
 rfl
set_option maxHeartbeats 1000000 in
set_option maxRecDepth 100000 in
theorem gG (b o : Nat) (w : World) (h0 : w.cell? ⟨b, o, none⟩ = some (.pointer (some ⟨b, o, none⟩))) :
  Calls Tryd.prog 88 #[.pointer (some ⟨b, o, none⟩)] w fun e w' => e = .returned (.tuple #[]) ∧ w' = w := by
 obtain ⟨j, hj, hjs⟩ : ∃ j, Tryd.prog.info? 107 = some j ∧ j.size = 2 := Option.map_eq_some_iff.1 (show (Tryd.prog.info? 107).map (·.size) = some 2 by kernel_rfl)
 go_enter Tryd.func88, Tryd.ntmps88
 go_wp2
 rw [Lib.run_neq_ptr_same w _ Tryd.underlying104 hj]
 go_wp2
 go_end0
 exact ⟨rfl, rfl⟩
set_option maxHeartbeats 1000000 in
set_option maxRecDepth 100000 in
theorem gg (b o E n : Nat) (w : World) (h0 : w.cell? ⟨b, o, none⟩ = some (.pointer none)) (hsh : w.shape? b = some (E, n)) (ho : o < n)
  (hl : liesAt Tryd.prog Tryd.prog.depth E (n / Tryd.prog.cellsOf E) o 107 1 = true) (hfz : w.frozen? ⟨b, o, none⟩ = false) :
  Calls Tryd.prog 88 #[.pointer (some ⟨b, o, none⟩)] w fun e w' => e = .returned (.tuple #[]) ∧ w' = w.setCell ⟨b, o, none⟩ (.pointer (some ⟨b, o, none⟩)) := by
 obtain ⟨j, hj, hjs⟩ : ∃ j, Tryd.prog.info? 107 = some j ∧ j.size = 2 := Option.map_eq_some_iff.1 (show (Tryd.prog.info? 107).map (·.size) = some 2 by kernel_rfl)
 go_enter Tryd.func88, Tryd.ntmps88
 go_wp2
 rw [Lib.run_to_unsafe w ⟨b, o, none⟩ Tryd.underlying104 Tryd.underlying143 hj (by rw [hjs]; decide) hsh ho]
 simp only [Result.andThen]
 rw [Oper.upon_value]
 go_wp2
 rw [ej]
 rw [Oper.upon_value]
 go_wp2
 rw [Lib.run_from_unsafe w ⟨b, o, none⟩ Tryd.underlying143 Tryd.underlying104 hj hsh hl]
 simp only [Result.andThen]
 rw [Oper.upon_value]
 go_wp2
 go_end0
 exact ⟨rfl, rfl⟩
end Go.Proofs.YtehknfijojlddaaDoor
end
noncomputable section
namespace Go.Proofs.YtehknfijojlddaaDoor
open Go.AM
set_option autoImplicit false
set_option linter.unusedVariables false
set_option linter.unusedSimpArgs false
theorem row_cell {cs : List V} {o : Nat} {v : V} (h : cs[o]? = some v) (hv : v.one = true) : ak cs = false := by
 cases hr : ak cs with
 | false => rfl
 | true =>
   unfold ak at hr
   split at hr
   ·cases o with
    | zero => simp at h; subst h; cases hv
    | succ o => simp at h
   ·cases o with
    | zero => simp at h; subst h; cases hv
    | succ o => simp at h
   ·cases hr
theorem cY {env : List V} {hp : List ab} {id : Nat} {cs : List V} (h : hp[id]? = some (some cs)) (hr : ak cs = false) : St.obj { env := env, hp := hp } id = some cs := by
 unfold St.obj
 rw [List.getD_eq_getElem?_getD, h]
 simp only [Option.getD_some]
 split
 ·rename_i e
  cases e
  simp [ak] at hr
 ·rename_i e
  cases e
  simp [ak] at hr
 ·rfl
theorem SR.ofHR {g : Gh} {hp : List ab} {w : World} (h : HR g hp w) : SR g { env := [], hp := hp } w { tmps := #[], defers := [] } :=
 ⟨h, ⟨rfl, by simp, by simp⟩⟩
theorem ek {α : Type} {l : List α} {o : Nat} {x : α} (h : l[o]? = some x) : l.take o ++ [x] ++ l.drop (o + 1) = l := by
 obtain ⟨hlt, rfl⟩ := List.getElem?_eq_some_iff.1 h
 rw [List.append_assoc, List.singleton_append, ← List.drop_eq_getElem_cons hlt, List.take_append_drop]
noncomputable def dv (E n o : Nat) : Bool := liesAt Tryd.prog Tryd.prog.depth E (n / Tryd.prog.cellsOf E) o 107 1
theorem gi {hp : List ab} {id : Nat} {x : ab} (h : hp[id]? = some x) : hp.set id x = hp := by
 apply List.ext_getElem?
 intro j
 rw [List.getElem?_set]
 split
 ·rename_i e; subst e
  obtain ⟨hlt, rfl⟩ := List.getElem?_eq_some_iff.1 h
  simp [hlt]
 ·rfl
theorem hJ {id o E n : Nat} {cs : List V} {hp : List ab} (hid : hp[id]? = some (some cs)) (hb : cs[o]? = some (.bn E n)) (hl : dv E n o = true) :
  aT Tryd.prog 88 [.ptr id o] hp (.tup []) hp := by
 intro w g cargs hβ hhr hlen hbare hrel
 match cargs, hlen, hrel with
 | ⟨[cv]⟩, hlen, hrel =>
   have r := hrel 0 (.ptr id o) cv rfl rfl
   cases r with
   | ptr _ _ hlt =>
   obtain ⟨arr, e, fz, h1, h2'⟩ := hhr.obj id cs hid
   have hrow := row_cell hb rfl
   obtain ⟨rfl, h2⟩ := h2'.low hrow
   obtain ⟨rfl, rfl, h3⟩ := h2.bn o E n hb
   have hoc : o < cs.length := (List.getElem?_eq_some_iff.1 hb).1
   have hlen := h2.len
   have hcell : w.cell? ⟨g.ρ id, o, none⟩ = arr[o]? := ac h1 o
   rcases h3 with h3 | h3
   ·have hsh : w.shape? (g.ρ id) = some (E, arr.size) := by simp [World.shape?, h1]
    refine (gg (g.ρ id) o E arr.size w (by rw [hcell, h3]) hsh (by omega) hl (by simp [World.frozen?, h1])).mono ?_
    rintro e w' ⟨rfl, rfl⟩
    obtain ⟨p1, p2⟩ := (SR.ofHR hhr).putCells (id := id) (o := o) (cs := cs) (news := [.bn E arr.size]) (us := [.pointer (some ⟨g.ρ id, o, none⟩)]) (cY hid hrow) rfl (by simp [V.one]) (by simp; omega) (by
     intro i c u hc hu
     cases i with
     | zero => simp at hc hu; subst hc hu; exact .bn _ _ _
     | succ i => simp at hc) (by
     intro i c u hc hu
     cases i with
     | zero => simp at hc hu; subst hc hu; simp [aa]
     | succ i => simp at hc) (by
     intro i E' n' hi
     cases i with
     | zero => simp at hi; obtain ⟨rfl, rfl⟩ := hi; exact ⟨hb, .inr rfl⟩
     | succ i => simp at hi)
    have e1 : cs.take o ++ [V.bn E arr.size] ++ cs.drop (o + [V.bn E arr.size].length) = cs := ek hb
    simp only [St.setObj] at p1
    rw [e1, gi hid] at p1 p2
    exact ⟨_, g, rfl, p1.hr, p2, .tup [] #[] rfl (by simp), by simp [aa]⟩
   ·refine (gG (g.ρ id) o w (by rw [hcell, h3])).mono ?_
    rintro e w' ⟨rfl, rfl⟩
    exact ⟨_, g, rfl, hhr, FR.refl _ _ _, .tup [] #[] rfl (by simp), by simp [aa]⟩
 | ⟨[]⟩, hlen, _ => simp at hlen
 | ⟨_ :: _ :: _⟩, hlen, _ => simp at hlen
def Gcc (f : Nat) (vs : List V) (hp : List ab) : Option (Bool × V × List ab) :=
 if f = 88 then
  match vs with
  | [.ptr id o] => match hp.getD id none with
    | some cs => match cs.getD o .undef with
      | .bn E n => some (dv E n o, .tup [], hp)
      | _ => none
    | none => none
  | _ => none
 else none
theorem fX : aH Tryd.prog Gcc := by
 intro f vs hp v hp' h
 unfold Gcc at h
 split at h
 ·rename_i hf
  subst hf
  split at h
  ·rename_i id o
   split at h
   ·rename_i cs hcs
    split at h
    ·rename_i E n hb
     simp only [Option.some.injEq, Prod.mk.injEq] at h
     obtain ⟨hl, rfl, rfl⟩ := h
     have h1 : hp[id]? = some (some cs) := by
      rw [List.getD_eq_getElem?_getD] at hcs
      cases hq : hp[id]? with
      | none => rw [hq] at hcs; simp at hcs
      | some x => rw [hq] at hcs; simpa using hcs
     have h2 : cs[o]? = some (.bn E n) := by
      rw [List.getD_eq_getElem?_getD] at hb
      cases hq : cs[o]? with
      | none => rw [hq] at hb; simp at hb
      | some x => rw [hq] at hb; simpa using hb
     exact hJ h1 h2 hl
    ·simp at h
   ·simp at h
  ·simp at h
 ·simp at h
theorem eR : aE Gcc [88] := by
 refine ⟨?_, ?_⟩
 ·intro f vs hp hf
  have : f ≠ 88 := by rintro rfl; simp at hf
  simp [Gcc, this]
 ·intro f vs hp c v hp' hf
  simp only [List.contains_cons, List.contains_nil, Bool.or_false, beq_iff_eq] at hf
  omega
def aL : IR := .ret
def aM : IR := (.seq (.reg [Mv 17 1, Pp (.lens 18 (.t 17)), Mv 4 18, Pp (.mov 5 (.c (.nilif)))] []) aL)
def aN : IR := (.seq (.reg [Mv 8 0, Mv 9 0, Nk 10 9, Fa 11 1 10, Pp (.ld 12 1 false true (.t 11)), Mv 13 1, Pp (.apps 14 (.tk 12) (.t 13)), Nk 15 8, Fa 16 1 15, Pp (.st none 1 (.t 16) (.tk 14))] []) aM)
def aO : IR := (.seq (.reg [Mv 6 0, Pp (.call (some 7) 88 [(.t 6)])] []) aN)
def au : IR := (.seq (.reg [Pp (.mov 4 (.c (.int .i64 0))), Pp (.mov 5 (.c (.nilif)))] []) aO)
def av : List RV := [.t 4, .t 5]
theorem hM (base : Nat) : (af Tryd.prog [88] base au (Tryd.f68.body.getD .skip) && bo Tryd.prog av Tryd.f68.results.toList) = true := by kernel_rfl
theorem g6 {id o E n : Nat} {cs : List V} {hp : List ab} {l s : List UInt8} (hid : hp[id]? = some (some cs)) (hb : cs[o]? = some (.bn E n)) (hl : dv E n o = true) (hc : cs[o + 1]? = some (.sl .u8 .own l))
  (hlen : l.length + s.length ≤ 140737488355328) :
  callF Gcc 1 19 av au [.ptr id o, .str s] hp = some (.tup [.int .i64 (s.length : Int), .nilif], hp.set id (some (cs.set (o + 1) (.sl .u8 .own (l ++ s))))) := by
 have hlt : id < hp.length := (List.getElem?_eq_some_iff.1 hid).1
 have hco : o + 1 < cs.length := (List.getElem?_eq_some_iff.1 hc).1
 have hobj : hp.getD id none = some cs := by simp [List.getD, hid]
 have hob1 : ∀ env, St.obj { env := env, hp := hp } id = some cs := fun env => cY hid (row_cell hb rfl)
 have hob2 : ∀ env, St.obj { env := env, hp := hp.set id (some (cs.set (o + 1) (.sl .u8 (.may false) l))) } id = some (cs.set (o + 1) (.sl .u8 (.may false) l)) := fun env => cY (by rw [List.getElem?_set_self hlt]) (row_cell (o := o) (v := .bn E n) (by rw [List.getElem?_set_ne (by omega)]; exact hb) rfl)
 have hbo : cs.getD o .undef = .bn E n := by simp [List.getD, hb]
 have hco2 : cs.getD (o + 1) .undef = .sl .u8 .own l := by simp [List.getD, hc]
 have hcall : Gcc 88 [.ptr id o] hp = some (true, .tup [], hp) := by simp only [Gcc, if_true, hobj, hbo, hl]
 have htd : (cs.drop (o + 1)).take 1 = [.sl .u8 .own l] := by
  rw [List.drop_eq_getElem_cons hco]
  have : cs[o + 1] = .sl .u8 .own l := by simpa [List.getElem?_eq_getElem hco] using hc
  simp [this]
 have hidx : hp[id] = some cs := by simpa [List.getElem?_eq_getElem hlt] using hid
 have hle : o + 1 + 1 ≤ cs.length := hco
 have hhd : (cs.drop (o + 1)).head?.getD .undef = .sl .u8 .own l := by rw [List.head?_drop, hc]; rfl
 have hfit : l.length + s.length ≤ cl := hlen
 have hset : (cs.set (o + 1) (.sl .u8 (.may false) l)).take (o + 1) ++ V.sl .u8 .own (l ++ s) :: cs.drop (o + 1 + 1) = cs.set (o + 1) (.sl .u8 .own (l ++ s)) := by
  rw [List.take_set_of_le (Nat.le_refl _), List.set_eq_take_append_cons_drop, if_pos hco]
 simp [AM.Mv, AM.Pp, AM.Fa, AM.Nk, AM.stepO, AM.Fl.dis, AM.Fl.app, AM.ASrc.fix, AM.callF, AM.run, AM.kseq, AM.fin, AM.resultOf, AM.rvs, AM.RV.ev, aL, aM, aN, aO, au, av, AM.runOps, AM.chk, AM.start, AM.step, AM.St.set, AM.St.get, AM.St.setO, AM.ASrc.ev, AM.ASrc.after, AM.disown, hob1, hob2, AM.St.setObj, hcall, hobj, htd, AM.loaded, AM.noBn, hlt, hidx, hc, hle, hhd, AM.V.cells, AM.V.one, hfit, hset]
 rw [List.drop_set_of_lt (by omega), hset]
theorem hR {id o E n : Nat} {cs : List V} {hp : List ab} {l s : List UInt8} (hid : hp[id]? = some (some cs)) (hb : cs[o]? = some (.bn E n)) (hl : dv E n o = true) (hc : cs[o + 1]? = some (.sl .u8 .own l))
  (hlen : l.length + s.length ≤ 140737488355328) :
  aT Tryd.prog 68 [.ptr id o, .str s] hp (.tup [.int .i64 (s.length : Int), .nilif]) (hp.set id (some (cs.set (o + 1) (.sl .u8 .own (l ++ s))))) := by
 have hch := hM hp.length
 simp only [Bool.and_eq_true] at hch
 exact cB fX eR Tryd.func68 (show Tryd.f68.body = some (Tryd.f68.body.getD .skip) by kernel_rfl) hch.1 hch.2 (by decide) (g6 hid hb hl hc hlen)
def aY : IR := .ret
def aZ : IR := (.seq (.reg [Pp (.mov 4 (.c (.nilif)))] []) aY)
def a6 : IR := (.seq (.reg [Mv 7 0, Mv 8 0, Nk 9 8, Fa 10 1 9, Pp (.ld 11 1 false true (.t 10)), Mv 12 1, Pp (.bsl 13 .u8 [(.t 12)] false), Pp (.app 14 .u8 (.tk 11) (.t 13)), Nk 15 7, Fa 16 1 15, Pp (.st none 1 (.t 16) (.tk 14))] []) aZ)
def a7 : IR := (.seq (.reg [Mv 5 0, Pp (.call (some 6) 88 [(.t 5)])] []) a6)
def aA : IR := (.seq (.reg [Pp (.mov 4 (.c (.nilif)))] []) a7)
def aB : List RV := [.t 4]
theorem hT (base : Nat) : (af Tryd.prog [88] base aA (Tryd.f66.body.getD .skip) && bo Tryd.prog aB Tryd.f66.results.toList) = true := by kernel_rfl
theorem g7 {id o E n : Nat} {cs : List V} {hp : List ab} {l : List UInt8} {c : Int} (hid : hp[id]? = some (some cs)) (hb : cs[o]? = some (.bn E n)) (hl : dv E n o = true) (hc : cs[o + 1]? = some (.sl .u8 .own l))
  (hlen : l.length + 1 ≤ 140737488355328) :
  callF Gcc 1 17 aB aA [.ptr id o, .int .u8 c] hp = some (.nilif, hp.set id (some (cs.set (o + 1) (.sl .u8 .own (l ++ [UInt8.ofNat c.toNat]))))) := by
 have hlt : id < hp.length := (List.getElem?_eq_some_iff.1 hid).1
 have hco : o + 1 < cs.length := (List.getElem?_eq_some_iff.1 hc).1
 have hobj : hp.getD id none = some cs := by simp [List.getD, hid]
 have hob1 : ∀ env, St.obj { env := env, hp := hp } id = some cs := fun env => cY hid (row_cell hb rfl)
 have hob2 : ∀ env, St.obj { env := env, hp := hp.set id (some (cs.set (o + 1) (.sl .u8 (.may false) l))) } id = some (cs.set (o + 1) (.sl .u8 (.may false) l)) := fun env => cY (by rw [List.getElem?_set_self hlt]) (row_cell (o := o) (v := .bn E n) (by rw [List.getElem?_set_ne (by omega)]; exact hb) rfl)
 have hbo : cs.getD o .undef = .bn E n := by simp [List.getD, hb]
 have hco2 : cs.getD (o + 1) .undef = .sl .u8 .own l := by simp [List.getD, hc]
 have hcall : Gcc 88 [.ptr id o] hp = some (true, .tup [], hp) := by simp only [Gcc, if_true, hobj, hbo, hl]
 have htd : (cs.drop (o + 1)).take 1 = [.sl .u8 .own l] := by
  rw [List.drop_eq_getElem_cons hco]
  have : cs[o + 1] = .sl .u8 .own l := by simpa [List.getElem?_eq_getElem hco] using hc
  simp [this]
 have hidx : hp[id] = some cs := by simpa [List.getElem?_eq_getElem hlt] using hid
 have hle : o + 1 + 1 ≤ cs.length := hco
 have hhd : (cs.drop (o + 1)).head?.getD .undef = .sl .u8 .own l := by rw [List.head?_drop, hc]; rfl
 have hfit : l.length + 1 ≤ cl := hlen
 have hset : (cs.set (o + 1) (.sl .u8 (.may false) l)).take (o + 1) ++ V.sl .u8 .own (l ++ [UInt8.ofNat c.toNat]) :: cs.drop (o + 1 + 1) = cs.set (o + 1) (.sl .u8 .own (l ++ [UInt8.ofNat c.toNat])) := by
  rw [List.take_set_of_le (Nat.le_refl _), List.set_eq_take_append_cons_drop, if_pos hco]
 simp [AM.Mv, AM.Pp, AM.Fa, AM.Nk, AM.stepO, AM.Fl.dis, AM.Fl.app, AM.ASrc.fix, AM.callF, AM.run, AM.kseq, AM.fin, AM.resultOf, AM.rvs, AM.RV.ev, aY, aZ, a6, a7, aA, aB, AM.runOps, AM.chk, AM.start, AM.step, AM.St.set, AM.St.get, AM.St.setO, AM.ASrc.ev, AM.ASrc.after, AM.disown, hob1, hob2, AM.St.setObj, hcall, hobj, htd, AM.loaded, AM.noBn, hlt, hidx, hc, hle, hhd, AM.V.cells, AM.V.one, hfit, hset, AM.decAll, AM.dec, AM.EK.bytes]
 rw [List.drop_set_of_lt (by omega), hset]
theorem hU {id o E n : Nat} {cs : List V} {hp : List ab} {l : List UInt8} {c : Int} (hid : hp[id]? = some (some cs)) (hb : cs[o]? = some (.bn E n)) (hl : dv E n o = true) (hc : cs[o + 1]? = some (.sl .u8 .own l))
  (hlen : l.length + 1 ≤ 140737488355328) :
  aT Tryd.prog 66 [.ptr id o, .int .u8 c] hp .nilif (hp.set id (some (cs.set (o + 1) (.sl .u8 .own (l ++ [UInt8.ofNat c.toNat]))))) := by
 have hch := hT hp.length
 simp only [Bool.and_eq_true] at hch
 exact cB fX eR Tryd.func66 (show Tryd.f66.body = some (Tryd.f66.body.getD .skip) by kernel_rfl) hch.1 hch.2 (by decide) (g7 hid hb hl hc hlen)
end Go.Proofs.YtehknfijojlddaaDoor
end
