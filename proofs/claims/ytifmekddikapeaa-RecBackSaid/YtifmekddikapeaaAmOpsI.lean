/-
  Boxes that are laid for good, and functions as values.
-/
import Derived.Test.YtifmekddikapeaaAmOpsG
namespace Go.AM
set_option autoImplicit false
set_option linter.unusedSimpArgs false
set_option linter.unusedVariables false

def caps : List ASrc → List Operand → Bool
  | [], [] => true
  | x :: xs, y :: ys => srcOK x y && caps xs ys
  | _, _ => false

def chkFn (P : Program) (o : IOp) (m : Oper) : Bool :=
  match o with
  | .alr d n => (m.dst == some d) && (match m.op with | .alloc t => (match P.info? t with | some i => (match i.zero with | some z => z.cells.size == n | none => false) | none => false) | _ => false)
  | .frz d r n v => (m.dst == d) && (match m.op with | .store t (.tmp r') v' => (r == r') && ((sizeT P t == some n) && srcOK v v') | _ => false)
  | .lde d n agg x => chkPure P (.ld d n agg false x) m
  | .boxe d x => (m.dst == some d) && (match m.op with | .box t y => srcOK x y | _ => false)
  | .mkf d f xs => (m.dst == some d) && (match m.op with | .makeFunc (.func f') first ys => (f == f') && (first.isEmpty && caps xs ys.toList) | _ => false)
  | _ => false

section
variable {w w' : World} {g g' : Gh} {s s' : St} {a : Act} {P : Program} {Γ : ASpec} {m : Oper} {next : Act → World → Prop} {Q : Exit → Act → World → Prop}

/-- a new row that is laid for good -/
theorem SR.newLaid (h : SR g s w a) (cs : List V) (d : Nat) (arr : Array Value) (e : TypeId)
    (hl : cs.length = arr.size) (h1 : ∀ c ∈ cs, c.one = true)
    (hv : ∀ (j : Nat) c cv, cs[j]? = some c → arr[j]? = some cv → VRel g.I g.ρ s.hp.length w c cv) :
    ∃ g', SR g' (s.set d (.ea cs)) (w.alloc (.cells arr e)) (a.put (some d) (.pointer (some ⟨w.heap.size, 0, none⟩))) ∧ FR g s.hp w g' s.hp (w.alloc (.cells arr e)) := by
  obtain ⟨hsz, hold, hnew⟩ := alloc_facts w (.cells arr e)
  let g' : Gh := { I := fun b j => g.I b j ∨ (b = w.heap.size ∧ j < cs.length), ρ := g.ρ, O := g.O, β := g.β }
  have ilt : ∀ b j, g.I b j → b < w.heap.size := by
    intro b j hi
    obtain ⟨v, hv⟩ := Option.isSome_iff_exists.1 (h.hr.exI b j hi)
    exact World.block_lt_of_cell? _ _ hv
  have cello : ∀ b j, b < w.heap.size → (w.alloc (.cells arr e)).cell? ⟨b, j, none⟩ = w.cell? ⟨b, j, none⟩ := by
    intro b j hb
    simp [World.cell?, hold b hb]
  have u : Up g.I g.ρ s.hp.length w g'.I g'.ρ s.hp.length (w.alloc (.cells arr e)) := ⟨fun b j hi => .inl hi, fun b j hi => cello b j (ilt b j hi), fun _ _ => rfl, Nat.le_refl _⟩
  have hcell : ∀ j, (w.alloc (.cells arr e)).cell? ⟨w.heap.size, j, none⟩ = arr[j]? := fun j => cell_of_heap hnew j
  have hs : SR g' s (w.alloc (.cells arr e)) a := by
    refine h.keep none trivial rfl u ?_ ?_ ?_ ?_
    · intro occ b hb _
      have hlt := h.hr.oLt b occ hb
      refine ⟨hb, hold b hlt, ?_⟩
      rintro j (hj | ⟨hj, _⟩)
      · exact hj
      · omega
    · intro id cs hid
      obtain ⟨arr', e', fz, h1, h2⟩ := h.hr.obj id cs hid
      have hlt : g.ρ id < w.heap.size := (Array.getElem?_eq_some_iff.1 h1).1
      refine ⟨hold _ hlt, h.hr.notO id cs hid, ?_⟩
      rintro j (hj | ⟨hj, _⟩)
      · exact hj
      · omega
    · rintro b j (hj | ⟨rfl, hj⟩)
      · rw [cello b j (ilt b j hj)]; exact h.hr.exI b j hj
      · rw [hcell, Array.getElem?_eq_getElem (by omega)]; rfl
    · intro b o hb
      have := h.hr.oLt b o hb; omega
  refine ⟨g', hs.set d ?_ (by simp [OwnOK]), ⟨rfl, rfl, rfl, rfl, by omega, fun b hb _ _ => hold b hb, u, ?_, fun _ _ _ h => h, fun _ cs h => .inl ⟨cs, h⟩⟩⟩
  · refine .ea cs _ _ (fun j => arr[j]?.getD undef) h1 ?_ ?_ ?_
    · intro j hj
      exact .inr ⟨rfl, by omega⟩
    · intro j hj
      rw [Nat.zero_add, hcell, Array.getElem?_eq_getElem (by omega)]
      rfl
    · intro j c hc
      have hj : j < arr.size := by rw [← hl]; exact (List.getElem?_eq_some_iff.1 hc).1
      have := hv j c _ hc (Array.getElem?_eq_getElem hj)
      rw [Array.getElem?_eq_getElem hj]
      exact this.up u
  · rintro b j hb _ hO (hi | ⟨rfl, _⟩)
    · exact hi
    · omega

theorem op_boxe {d : Nat} {x : ASrc} (hc : chkFn P (.boxe d x) m = true) (hs : step Γ (.boxe d x) s = some (true, s')) (h : SR g s w a) (hn : Goes g s w a s' next) : m.wp P a w next Q := by
  obtain ⟨dst, op, ty, pos, aft, gd⟩ := m
  simp only [chkFn, Bool.and_eq_true, beq_iff_eq] at hc
  obtain ⟨rfl, hc⟩ := hc
  split at hc
  · rename_i t y
    have r1 := src_rel hc h.er
    have hrun : (execOp a.eval ⟨some d, .box t y, ty, pos, aft, gd⟩).run P w = .ok (.value (.pointer (some ⟨w.heap.size, 0, none⟩))) (w.alloc (.cells (a.eval y).cells t)) := by
      simp [execOp, Instr.box, newVar, newRow]
    simp only [step] at hs
    split at hs
    · rename_i cs hx
      obtain rfl : _ = s' := by simpa using hs
      rw [hx] at r1
      generalize a.eval y = cv at r1 hrun
      cases r1 with
      | agg _ vs hl e1 hb hv =>
        refine goes_at rfl hrun (h.newLaid (cs.map disown) d vs t (by simpa using hl) ?_ ?_) hn
        · intro c hc
          obtain ⟨c', hc', rfl⟩ := List.mem_map.1 hc
          rw [disown_one]; exact e1 c' hc'
        · intro j c cv hc hcv
          rw [List.getElem?_map, Option.map_eq_some_iff] at hc
          obtain ⟨c', hc', rfl⟩ := hc
          exact (hv j c' cv hc' hcv).disown
    · rename_i v hx hna
      split at hs
      · rename_i hone
        obtain rfl : _ = s' := by simpa using hs
        have hcell : (a.eval y).cells = #[a.eval y] := by
          have := r1.oneCell hone
          cases hh : a.eval y <;> rw [hh] at this <;> simp [Value.oneCell'] at this <;> rfl
        rw [hcell] at hrun
        refine goes_at rfl hrun (h.newLaid [disown (x.ev s)] d #[a.eval y] t rfl (by simpa [disown_one] using hone) ?_) hn
        intro i c cv hc hcv
        cases i with
        | zero => simp at hc hcv; subst hc hcv; exact r1.disown
        | succ i => simp at hc
      · simp at hs
  · simp at hc

theorem op_lde {d n : Nat} {agg : Bool} {x : ASrc} (hc : chkFn P (.lde d n agg x) m = true) (hs : step Γ (.lde d n agg x) s = some (true, s')) (h : SR g s w a) (hn : Goes g s w a s' next) : m.wp P a w next Q := by
  refine op_ld (Γ := Γ) (d := d) (n := n) (agg := agg) (x := x) hc ?_ h hn
  simp only [step] at hs ⊢
  split at hs
  · rename_i cs hx
    rw [hx]; exact hs
  · simp at hs

theorem op_alr {d n : Nat} (hc : chkFn P (.alr d n) m = true) (hs : step Γ (.alr d n) s = some (true, s')) (h : SR g s w a) (hn : Goes g s w a s' next) : m.wp P a w next Q := by
  obtain ⟨dst, op, ty, pos, aft, gd⟩ := m
  simp only [chkFn, Bool.and_eq_true, beq_iff_eq] at hc
  obtain ⟨rfl, hc⟩ := hc
  split at hc
  · rename_i t
    split at hc
    · rename_i i hi
      split at hc
      · rename_i z hz
        have hsz : z.cells.size = n := by simpa using hc
        obtain rfl : _ = s' := by simpa [step] using hs
        have f := alloc_facts w (.cells z.cells t)
        obtain ⟨fsz, hold, hnew⟩ := f
        refine goes_at rfl (w' := w.alloc (.cells z.cells t)) (cv := .pointer (some ⟨w.heap.size, 0, none⟩)) (by simp [execOp, Instr.alloc, zeroValue, typeInfo, hi, hz, newVar, newRow]) ?_ hn
        let g' : Gh := { I := g.I, ρ := g.ρ, O := fun b => if b = w.heap.size then some (.slot d) else g.O b, β := g.β }
        have ilt : ∀ b j, g.I b j → b < w.heap.size := by
          intro b j hi
          obtain ⟨v, hv⟩ := Option.isSome_iff_exists.1 (h.hr.exI b j hi)
          exact World.block_lt_of_cell? _ _ hv
        have cello : ∀ b j, b < w.heap.size → (w.alloc (.cells z.cells t)).cell? ⟨b, j, none⟩ = w.cell? ⟨b, j, none⟩ := by
          intro b j hb
          simp [World.cell?, hold b hb]
        have u : Up g.I g.ρ s.hp.length w g'.I g'.ρ s.hp.length (w.alloc (.cells z.cells t)) := ⟨fun b j hi => hi, fun b j hi => cello b j (ilt b j hi), fun _ _ => rfl, Nat.le_refl _⟩
        have hs : SR g' s (w.alloc (.cells z.cells t)) a := by
          refine h.keep none trivial rfl u ?_ ?_ ?_ ?_
          · intro occ b hb _
            have hlt := h.hr.oLt b occ hb
            exact ⟨by simp [g', Nat.ne_of_lt hlt, hb], hold b hlt, fun j hj => hj⟩
          · intro id cs hid
            obtain ⟨arr', e', fz, h1, h2⟩ := h.hr.obj id cs hid
            have hlt : g.ρ id < w.heap.size := (Array.getElem?_eq_some_iff.1 h1).1
            exact ⟨hold _ hlt, by simp [g', Nat.ne_of_lt hlt, h.hr.notO id cs hid], fun j hj => hj⟩
          · intro b j hj
            rw [cello b j (ilt b j hj)]; exact h.hr.exI b j hj
          · intro b o hb
            simp only [g'] at hb
            split at hb
            · omega
            · have := h.hr.oLt b o hb; omega
        refine ⟨g', hs.set d (.raw n _) ?_, ⟨rfl, rfl, rfl, rfl, by omega, fun b hb _ _ => hold b hb, u, fun b j _ _ _ hi => hi, ?_, fun _ cs h => .inl ⟨cs, h⟩⟩⟩
        · refine ⟨by simp [g'], ⟨z.cells, t, hnew, hsz⟩, fun j hj => ?_⟩
          exact absurd (ilt _ _ hj) (Nat.lt_irrefl _)
        · intro b hb hO
          simp [g', Nat.ne_of_lt hb, hO]
      · simp at hc
    · simp at hc
  · simp at hc

theorem ER.put' {N : Nat} (h : ER g N w s.env a.tmps) (d : Nat) {v : V} (hv : VRel g.I g.ρ N w v (a.tmps.getD d undef)) (ho : OwnOK g w (.slot d) v (a.tmps.getD d undef)) :
    ER g N w (s.set d v).env a.tmps := by
  refine ⟨by simp [St.set, h.size], ?_, ?_⟩
  · intro n v' cv' hn hn'
    simp only [St.set, List.getElem?_set] at hn
    by_cases e : d = n
    · subst e
      simp only [if_true] at hn
      split at hn
      · obtain rfl := Option.some.inj hn
        obtain ⟨hlt, rfl⟩ := Array.getElem?_eq_some_iff.1 hn'
        simpa [Array.getD, hlt] using hv
      · simp at hn
    · simp only [e, if_false] at hn
      exact h.rel n _ _ hn hn'
  · intro n v' cv' hn hn'
    simp only [St.set, List.getElem?_set] at hn
    by_cases e : d = n
    · subst e
      simp only [if_true] at hn
      split at hn
      · obtain rfl := Option.some.inj hn
        obtain ⟨hlt, rfl⟩ := Array.getElem?_eq_some_iff.1 hn'
        simpa [Array.getD, hlt] using ho
      · simp at hn
    · simp only [e, if_false] at hn
      exact h.own n _ _ hn hn'

theorem op_frz {d : Option Nat} {r n : Nat} {v : ASrc} (hc : chkFn P (.frz d r n v) m = true) (hs : step Γ (.frz d r n v) s = some (true, s')) (h : SR g s w a) (hn : Goes g s w a s' next) : m.wp P a w next Q := by
  obtain ⟨dst, op, ty, pos, aft, gd⟩ := m
  simp only [chkFn, Bool.and_eq_true, beq_iff_eq] at hc
  obtain ⟨rfl, hc⟩ := hc
  split at hc
  · rename_i t r' v'
    simp only [Bool.and_eq_true, beq_iff_eq] at hc
    obtain ⟨rfl, h1, h3⟩ := hc
    have r2 := src_rel h3 h.er
    simp only [step] at hs
    split at hs
    · rename_i m hr
      split at hs
      · rename_i hcond
        simp only [Bool.and_eq_true, beq_iff_eq] at hcond
        obtain ⟨hm, hln, hone⟩ := hcond
        obtain rfl := Nat.eq_of_beq_eq_true hm
        obtain rfl : _ = s' := by simpa using hs
        have r1 := h.er.get r
        have ro := h.er.getOwn r
        rw [hr] at r1 ro
        obtain ⟨c1, c2, c3⟩ := cells_rel r2 hone
        have hsz : (a.eval v').cells.size = m := by rw [← c1]; exact hln
        generalize hcx : a.tmps.getD r undef = cx at r1 ro
        cases r1 with
        | raw _ b =>
          obtain ⟨o1, ⟨arr, e, hb, hsa⟩, o3⟩ := ro
          simp only at o1 hb o3
          have hsb : SR g (s.set r .undef) w a := by
            have := h.bare r
            rw [hr] at this
            exact this
          let us := (a.eval v').cells.toList
          have hus : us.length = m := by simpa [us] using hsz
          obtain ⟨⟨arr', q1, q2⟩, q3, q4, q5, q6, q7⟩ := setCells_heap b us 0 w arr e (0, 0) hb
          let w' := w.setCells b 0 us
          have hrun : (execOp a.eval ⟨dst, .store t (.tmp r) v', ty, pos, aft, gd⟩).run P w = .ok .skip (w.setCells b 0 us) := by
            have := run_storeCells_cells (P := P) b 0 us 0 w
              (fun j hj => by rw [cell_of_heap hb, Array.getElem?_eq_getElem (by omega)]; rfl)
              (fun j hj => by simp [World.frozen?, hb])
              (fun u hu => by
                obtain ⟨j, hj, rfl⟩ := List.mem_iff_getElem.1 hu
                have hj' : j < (v.ev s).cells.length := by rw [c1]; simpa [us] using hj
                exact (c3 j _ _ (List.getElem?_eq_getElem hj') (by simp [us])).oneCell (c2 _ (List.getElem_mem hj')))
            have he : a.eval (.tmp r) = .pointer (some ⟨b, 0, none⟩) := hcx
            simp [execOp, he, Instr.storeAt, Instr.sureAddr, storeVar, run_sizeT h1, hsz]
            have this' : Sem.run P (storeCells { block := b, off := 0 } (a.eval v').cells.toList) w = Result.ok () (w.setCells b 0 (a.eval v').cells.toList) := by simpa [us] using this
            rw [this']
            rfl
          have ine : ∀ b' j, g.I b' j → b' ≠ b := by
            rintro b' j hi rfl
            exact o3 j hi
          let g' : Gh := { I := fun b' j => g.I b' j ∨ (b' = b ∧ j < m), ρ := g.ρ, O := fun b' => if b' = b then none else g.O b', β := g.β }
          have cello : ∀ b' j, b' ≠ b → w'.cell? ⟨b', j, none⟩ = w.cell? ⟨b', j, none⟩ := by
            intro b' j hne
            exact World.cell?_setCells_out _ us 0 w _ (fun e => absurd e hne)
          have u : Up g.I g.ρ s.hp.length w g'.I g'.ρ s.hp.length w' := ⟨fun b j hi => .inl hi, fun b' j hi => cello b' j (ine b' j hi), fun _ _ => rfl, Nat.le_refl _⟩
          have hcell : ∀ j, j < m → w'.cell? ⟨b, j, none⟩ = us[j]? := by
            intro j hj
            have := World.cell?_setCells_in b us 0 w (fun j' hj' => by rw [cell_of_heap hb, Array.getElem?_eq_getElem (by omega)]; rfl) j (by omega)
            rw [Nat.zero_add] at this
            rw [this, List.getElem?_eq_getElem]
          have hs2 : SR g' (s.set r .undef) w' a := by
            refine hsb.keep (some (.slot r)) ?_ rfl u ?_ ?_ ?_ ?_
            · intro v hv
              simp only [St.set, List.getElem?_set] at hv
              simp at hv
              obtain ⟨_, rfl⟩ := hv
              rfl
            · intro occ b' hb' hne
              have hbb : b' ≠ b := by
                rintro rfl
                rw [o1] at hb'
                exact hne hb'
              refine ⟨by simp [g', hbb, hb'], q3 b' hbb, ?_⟩
              rintro j (hj | ⟨hj, _⟩)
              · exact hj
              · exact absurd hj hbb
            · intro id cs hid
              have hbb : g.ρ id ≠ b := by
                intro e
                have := h.hr.notO id cs hid
                rw [e, o1] at this
                cases this
              refine ⟨q3 _ hbb, by simp [g', hbb, h.hr.notO id cs hid], ?_⟩
              rintro j (hj | ⟨hj, _⟩)
              · exact hj
              · exact absurd hj hbb
            · rintro b' j (hj | ⟨rfl, hj⟩)
              · rw [cello b' j (ine b' j hj)]; exact h.hr.exI b' j hj
              · rw [hcell j hj, List.getElem?_eq_getElem (by omega)]; rfl
            · intro b' o hb'
              simp only [g'] at hb'
              split at hb'
              · cases hb'
              · have := h.hr.oLt b' o hb'
                rw [q4]
                exact this
          have hea : VRel g'.I g'.ρ s.hp.length w' (.ea ((v.ev s).cells.map disown)) (.pointer (some ⟨b, 0, none⟩)) := by
            refine .ea _ _ _ (fun j => us[j]?.getD undef) ?_ ?_ ?_ ?_
            · intro c hc
              obtain ⟨c', hc', rfl⟩ := List.mem_map.1 hc
              rw [disown_one]; exact c2 c' hc'
            · intro j hj
              exact .inr ⟨rfl, by simp [hln] at hj; omega⟩
            · intro j hj
              have hj' : j < m := by simp [hln] at hj; omega
              rw [Nat.zero_add, hcell j hj', List.getElem?_eq_getElem (by omega)]
              rfl
            · intro j c hc
              rw [List.getElem?_map, Option.map_eq_some_iff] at hc
              obtain ⟨c', hc', rfl⟩ := hc
              have hj : j < us.length := by have := (List.getElem?_eq_some_iff.1 hc').1; omega
              rw [List.getElem?_eq_getElem hj]
              exact ((c3 j c' us[j] hc' (by simp [us])).up u).disown
          have hfin : SR g' (s.set r (.ea ((v.ev s).cells.map disown))) w' a := by
            refine ⟨hs2.hr, ?_⟩
            have := hs2.er.put' r (v := .ea ((v.ev s).cells.map disown)) (by rw [hcx]; exact hea) (by simp [OwnOK])
            have e2 : ((s.set r .undef).set r (.ea ((v.ev s).cells.map disown))).env = (s.set r (.ea ((v.ev s).cells.map disown))).env := by simp [St.set]
            rw [e2] at this
            exact this
          have fr : FR g s.hp w g' s.hp w' := by
            refine ⟨rfl, q5, q6, q7, by rw [q4]; exact Nat.le_refl _, ?_, u, ?_, ?_, fun _ cs h => .inl ⟨cs, h⟩⟩
            · intro b' hb' _ hO
              refine q3 b' ?_
              rintro rfl
              rw [o1] at hO
              cases hO
            · rintro b' j hb' _ hO (hi | ⟨rfl, _⟩)
              · exact hi
              · rw [o1] at hO
                cases hO
            · intro b' hb' _ hO
              simp [g', hO]
          unfold Oper.wp Oper.upon
          rw [hrun]
          cases dst with
          | none => exact hn _ _ g' hfin fr rfl
          | some d => exact hn _ _ g' (hfin.set d (.undef _) (by simp [OwnOK])) fr rfl
      · simp at hs
    · simp at hs
  · simp at hc

theorem caps_rel (h : ER g s.hp.length w s.env a.tmps) : ∀ (xs : List ASrc) (ys : List Operand), caps xs ys = true → xs.length = ys.length ∧
    ∀ (i : Nat) v cv, (xs.map fun x => disown (x.ev s))[i]? = some v → (ys.map a.eval)[i]? = some cv → VRel g.I g.ρ s.hp.length w v cv
  | [], [], _ => ⟨rfl, by simp⟩
  | x :: xs, y :: ys, hp => by
    simp only [caps, Bool.and_eq_true] at hp
    obtain ⟨k1, k2⟩ := caps_rel h xs ys hp.2
    refine ⟨by simp [k1], ?_⟩
    intro i v cv hv hcv
    cases i with
    | zero =>
      simp at hv hcv
      subst hv hcv
      exact (src_rel hp.1 h).disown
    | succ i => exact k2 i v cv (by simpa using hv) (by simpa using hcv)
  | [], _ :: _, hp => by simp [caps] at hp
  | _ :: _, [], hp => by simp [caps] at hp

theorem op_mkf {d f : Nat} {xs : List ASrc} (hc : chkFn P (.mkf d f xs) m = true) (hs : step Γ (.mkf d f xs) s = some (true, s')) (h : SR g s w a) (hn : Goes g s w a s' next) : m.wp P a w next Q := by
  obtain ⟨dst, op, ty, pos, aft, gd⟩ := m
  simp only [chkFn, Bool.and_eq_true, beq_iff_eq] at hc
  obtain ⟨rfl, hc⟩ := hc
  split at hc
  · rename_i f' first ys
    simp only [Bool.and_eq_true, beq_iff_eq] at hc
    obtain ⟨rfl, h1, h2⟩ := hc
    obtain rfl : first = #[] := by simpa using h1
    obtain rfl : _ = s' := by simpa [step] using hs
    obtain ⟨k1, k2⟩ := caps_rel h.er xs ys.toList h2
    have hrun : (execOp a.eval ⟨some d, .makeFunc (.func f) #[] ys, ty, pos, aft, gd⟩).run P w = .ok (.value (.func (.func f) #[] (ys.map a.eval))) w := by
      simp [execOp, Instr.makeFunc]
    refine goes_value h rfl hrun (.fn _ _ _ (by simp [k1]) (fun i c cv hc hcv => k2 i c cv hc (by simpa using hcv))) rfl hn
  · simp at hc
end
end Go.AM
