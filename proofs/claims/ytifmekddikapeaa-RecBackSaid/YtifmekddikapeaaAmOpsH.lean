/-
  Rows of bytes that are written to.
-/
import Derived.Test.YtifmekddikapeaaAmOpsG
namespace Go.AM
set_option autoImplicit false
set_option linter.unusedSimpArgs false
set_option linter.unusedVariables false

def bytesT (P : Program) (t : TypeId) : Bool := match P.underlying t with | some (.slice e) => intK P e .u8 | _ => false

def chkRows (P : Program) (o : IOp) (m : Oper) : Bool :=
  match o with
  | .s2o d x => (m.dst == some d) && (match m.op with | .convert u t x' => (match P.underlying u with | some .string => true | _ => false) && (bytesT P t && srcOK x x') | _ => false)
  | .mko d x => (m.dst == some d) && (match m.op with | .makeSlice t x' y' => sliceOK P t .u8 && (srcOK x x' && srcOK x y') | _ => false)
  | .blo d ps => (m.dst == some d) && (match m.op with | .buildSlice t n qs => sliceOK P t .u8 && (n == ps.length && (decide (ps.length * EK.sz .u8 ≤ 16777216) && parts ps qs.toList 0)) | _ => false)
  | .aro d n => (m.dst == some d) && (match m.op with | .alloc t => zeroOK P t (List.replicate n (.int .u8 0)) && decide (n ≤ 65536) | _ => false)
  | .ixp d n x i => (m.dst == some d) && (match m.op with | .indexAddr t x' i' => (match P.underlying t with | some (.array len e) => (len == n) && (sizeT P e == some 1) | _ => false) && (srcOK x x' && srcOK i i') | _ => false)
  | .ixo d x i => (m.dst == some d) && (match m.op with | .indexAddr t x' i' => sliceOK P t .u8 && (srcOK x x' && srcOK i i') | _ => false)
  | .leno d x => (m.dst == some d) && (match callB m.op with | some (.len, [x'], [t]) => (match P.underlying t with | some (.slice _) => true | _ => false) && srcOK x x' | _ => false)
  | .o2s d x => (m.dst == some d) && (match m.op with | .convert t u x' => (match P.underlying u with | some .string => true | _ => false) && (bytesT P t && srcOK x x') | _ => false)
  | .mn3 d x y z => (m.dst == some d) && (match callB m.op with | some (.min, [x', y', z'], _) => srcOK x x' && (srcOK y y' && srcOK z z') | _ => false)
  | .ldo d x => (m.dst == some d) && (match m.op with | .load t x' => (sizeT P t == some 1) && ((isAggT P t == some false) && srcOK x x') | _ => false)
  | .sto d x v => (m.dst == d) && (match m.op with | .store t x' v' => (sizeT P t == some 1) && (srcOK x x' && srcOK v v') | _ => false)
  | _ => false

section
variable {w w' : World} {g g' : Gh} {s s' : St} {a : Act} {P : Program} {Γ : ASpec} {m : Oper} {next : Act → World → Prop} {Q : Exit → Act → World → Prop}

/-- a new row that is written to -/
theorem SR.newRowObj (h : SR g s w a) (xs : List UInt8) (cap d : Nat) (arr : Array Value) (e : TypeId) (fz : Nat × Nat)
    (f1 : w'.heap.size = w.heap.size + 1) (f2 : ∀ b, b < w.heap.size → w'.heap[b]? = w.heap[b]?) (f3 : w'.heap[w.heap.size]? = some (.cells arr e fz))
    (hos : w'.os = w.os) (htp : w'.tape = w.tape) (hout : w'.output = w.output) (hle : xs.length ≤ cap) (hm : cap ≤ maxI) (hroom : xs.length ≤ arr.size)
    (hcold : ∀ j, j < xs.length → ¬ (fz.1 ≤ j ∧ j < fz.2)) (hv : ∀ (i : Nat) (x : UInt8), xs[i]? = some x → arr[i]? = some (.int .u8 x.toNat)) :
    ∃ g', SR g' { s.set d (.so s.hp.length xs.length) with hp := s.hp ++ [some [.rb xs]] } w' (a.put (some d) (.slice (some ⟨w.heap.size, 0, none⟩) xs.length cap)) ∧
      FR g s.hp w g' (s.hp ++ [some [.rb xs]]) w' := by
  let g' : Gh := { g with ρ := fun id => if id = s.hp.length then w.heap.size else g.ρ id }
  have ilt : ∀ b j, g.I b j → b < w.heap.size := by
    intro b j hi
    obtain ⟨v, hv⟩ := Option.isSome_iff_exists.1 (h.hr.exI b j hi)
    exact World.block_lt_of_cell? _ _ hv
  have cello : ∀ b j, b < w.heap.size → w'.cell? ⟨b, j, none⟩ = w.cell? ⟨b, j, none⟩ := by
    intro b j hb
    simp only [World.cell?, f2 b hb]
  have u : Up g.I g.ρ s.hp.length w g'.I g'.ρ (s.hp ++ [some [V.rb xs]]).length w' :=
    ⟨fun b j hi => hi, fun b j hi => cello b j (ilt b j hi), fun id hid => by simp [g', Nat.ne_of_lt hid], by simp⟩
  have olt : ∀ (id : Nat) cs, s.hp[id]? = some (some cs) → g.ρ id < w.heap.size := by
    intro id cs hid
    obtain ⟨arr, e, fz, h1, _⟩ := h.hr.obj id cs hid
    rcases Nat.lt_or_ge (g.ρ id) w.heap.size with hl | hl
    · exact hl
    · simp [Array.getElem?_eq_none hl] at h1
  have okeep : ∀ occ v cv, OwnOK g w occ v cv → OwnOK g' w' occ v cv := by
    intro occ v cv ho
    refine own_keep ho rfl (fun b j hi => ⟨u.mono b j hi, u.cell b j hi⟩) ?_
    intro b hb
    exact ⟨hb, f2 b (h.hr.oLt b occ hb), fun j hj => hj⟩
  have split : ∀ (id : Nat) o, (s.hp ++ [some [V.rb xs]])[id]? = some (some o) → (id < s.hp.length ∧ s.hp[id]? = some (some o)) ∨ (id = s.hp.length ∧ o = [V.rb xs]) := by
    intro id o hid
    rcases Nat.lt_or_ge id s.hp.length with hi | hi
    · rw [List.getElem?_append_left hi] at hid
      exact .inl ⟨hi, hid⟩
    · rw [List.getElem?_append_right hi] at hid
      have h0 : id - s.hp.length = 0 := by
        rcases Nat.eq_zero_or_pos (id - s.hp.length) with h0 | h0
        · exact h0
        · rw [List.getElem?_eq_none (by simp; omega)] at hid
          simp at hid
      rw [h0] at hid
      simp at hid
      exact .inr ⟨by omega, hid.symm⟩
  have rhoNew : g'.ρ s.hp.length = w.heap.size := by simp [g']
  have rhoOld : ∀ id, id < s.hp.length → g'.ρ id = g.ρ id := fun id hid => by simp [g', Nat.ne_of_lt hid]
  have hs : SR g' { s with hp := s.hp ++ [some [V.rb xs]] } w' a := by
    refine ⟨⟨?_, ?_, ?_, ?_, ?_, ?_⟩, ⟨h.er.size, ?_, ?_⟩⟩
    · intro id o hid
      rcases split id o hid with ⟨hi, hid⟩ | ⟨rfl, rfl⟩
      · obtain ⟨arr', e', fz, k1, k2⟩ := h.hr.obj id o hid
        refine ⟨arr', e', fz, ?_, k2.len, k2.plain, k2.typedUp rfl u.rho u.num rfl, k2.cold, k2.one, fun j c cv hc hcv => (k2.rel j c cv hc hcv).up u, fun j c cv hc hcv => okeep _ _ _ (k2.own j c cv hc hcv), by rw [rhoOld id hi]; exact k2.bn⟩
        rw [rhoOld id hi]
        exact (f2 _ (olt id o hid)).trans k1
      · have hcell : ∀ (j : Nat) c, (cellsOf [.rb xs])[j]? = some c → ∃ x, xs[j]? = some x ∧ c = .int .u8 x.toNat := by
          intro j c hc
          simp only [cellsOf, List.getElem?_map, Option.map_eq_some_iff] at hc
          obtain ⟨x, h1, rfl⟩ := hc
          exact ⟨x, h1, rfl⟩
        refine ⟨arr, e, fz, ?_, ⟨by simpa [cellsOf] using hroom, (by intro hf; cases hf), (by intro k zs hz; cases hz), by simpa [cellsOf] using hcold, ?_, ?_, ?_, ?_⟩⟩
        · rw [rhoNew]
          exact f3
        · intro c hc
          obtain ⟨j, hj, rfl⟩ := List.mem_iff_getElem.1 hc
          obtain ⟨x, _, e2⟩ := hcell j _ (List.getElem?_eq_getElem hj)
          rw [e2]
          rfl
        · intro j c cv hc hcv
          obtain ⟨x, h1, rfl⟩ := hcell j c hc
          rw [hv j x h1] at hcv
          cases hcv
          exact .int _ _ (byte_range x)
        · intro j c cv hc hcv
          obtain ⟨x, h1, rfl⟩ := hcell j c hc
          simp [OwnOK]
        · intro j E n hj
          obtain ⟨x, h1, h2⟩ := hcell j _ hj
          cases h2
    · intro id id' o o' k1 k2 hne
      rcases split id o k1 with ⟨hi, m1⟩ | ⟨e1, -⟩ <;> rcases split id' o' k2 with ⟨hi', m2⟩ | ⟨e2, -⟩
      · rw [rhoOld _ hi, rhoOld _ hi']
        exact h.hr.apart id id' o o' m1 m2 hne
      · rw [rhoOld _ hi, e2, rhoNew]
        exact Nat.ne_of_lt (olt id o m1)
      · rw [rhoOld _ hi', e1, rhoNew]
        exact (Nat.ne_of_lt (olt id' o' m2)).symm
      · exact absurd (e1.trans e2.symm) hne
    · intro id o hid j hi
      rcases split id o hid with ⟨hlt, hid⟩ | ⟨rfl, rfl⟩
      · rw [rhoOld _ hlt] at hi
        exact h.hr.notI id o hid j hi
      · rw [rhoNew] at hi
        have := ilt _ _ hi
        omega
    · intro id o hid
      rcases split id o hid with ⟨hlt, hid⟩ | ⟨rfl, rfl⟩
      · rw [rhoOld _ hlt]
        exact h.hr.notO id o hid
      · rw [rhoNew]
        cases hO : g.O w.heap.size with
        | none => rfl
        | some oc =>
          have := h.hr.oLt _ _ hO
          omega
    · intro b j hi
      rw [cello b j (ilt b j hi)]
      exact h.hr.exI b j hi
    · intro b oc hb
      have := h.hr.oLt b oc hb
      show b < w'.heap.size
      rw [f1]
      omega
    · intro n v cv hv' hcv
      exact (h.er.rel n v cv hv' hcv).up u
    · intro n v cv hv' hcv
      exact okeep _ _ _ (h.er.own n v cv hv' hcv)
  refine ⟨g', ?_, rfl, hos, htp, hout, by rw [f1]; omega, fun b hb _ _ => f2 b hb, u, fun b j _ _ _ hi => hi, fun b _ _ hO => hO, ?_⟩
  · have := hs.set d (v := .so s.hp.length xs.length) (cv := .slice (some ⟨w.heap.size, 0, none⟩) xs.length cap) (by
      rw [← rhoNew]
      exact .so _ _ _ (by simp) hle hm) (by simp [OwnOK])
    exact this
  · intro id o hid
    rcases split id o hid with ⟨hlt, hid⟩ | ⟨rfl, rfl⟩
    · exact .inl ⟨o, hid⟩
    · exact .inr ⟨Nat.le_refl _, .inl (by rw [rhoNew]; exact Nat.le_refl _)⟩

/-- a new array that is written to -/
theorem SR.newRowPtr (h : SR g s w a) (xs : List UInt8) (cap d : Nat) (arr : Array Value) (e : TypeId) (fz : Nat × Nat)
    (f1 : w'.heap.size = w.heap.size + 1) (f2 : ∀ b, b < w.heap.size → w'.heap[b]? = w.heap[b]?) (f3 : w'.heap[w.heap.size]? = some (.cells arr e fz))
    (hos : w'.os = w.os) (htp : w'.tape = w.tape) (hout : w'.output = w.output) (hle : xs.length ≤ cap) (hm : cap ≤ maxI) (hroom : xs.length ≤ arr.size)
    (hcold : ∀ j, j < xs.length → ¬ (fz.1 ≤ j ∧ j < fz.2)) (hv : ∀ (i : Nat) (x : UInt8), xs[i]? = some x → arr[i]? = some (.int .u8 x.toNat)) :
    ∃ g', SR g' { s.set d (.ptr s.hp.length 0) with hp := s.hp ++ [some [.rb xs]] } w' (a.put (some d) (.pointer (some ⟨w.heap.size, 0, none⟩))) ∧
      FR g s.hp w g' (s.hp ++ [some [.rb xs]]) w' := by
  let g' : Gh := { g with ρ := fun id => if id = s.hp.length then w.heap.size else g.ρ id }
  have ilt : ∀ b j, g.I b j → b < w.heap.size := by
    intro b j hi
    obtain ⟨v, hv⟩ := Option.isSome_iff_exists.1 (h.hr.exI b j hi)
    exact World.block_lt_of_cell? _ _ hv
  have cello : ∀ b j, b < w.heap.size → w'.cell? ⟨b, j, none⟩ = w.cell? ⟨b, j, none⟩ := by
    intro b j hb
    simp only [World.cell?, f2 b hb]
  have u : Up g.I g.ρ s.hp.length w g'.I g'.ρ (s.hp ++ [some [V.rb xs]]).length w' :=
    ⟨fun b j hi => hi, fun b j hi => cello b j (ilt b j hi), fun id hid => by simp [g', Nat.ne_of_lt hid], by simp⟩
  have olt : ∀ (id : Nat) cs, s.hp[id]? = some (some cs) → g.ρ id < w.heap.size := by
    intro id cs hid
    obtain ⟨arr, e, fz, h1, _⟩ := h.hr.obj id cs hid
    rcases Nat.lt_or_ge (g.ρ id) w.heap.size with hl | hl
    · exact hl
    · simp [Array.getElem?_eq_none hl] at h1
  have okeep : ∀ occ v cv, OwnOK g w occ v cv → OwnOK g' w' occ v cv := by
    intro occ v cv ho
    refine own_keep ho rfl (fun b j hi => ⟨u.mono b j hi, u.cell b j hi⟩) ?_
    intro b hb
    exact ⟨hb, f2 b (h.hr.oLt b occ hb), fun j hj => hj⟩
  have split : ∀ (id : Nat) o, (s.hp ++ [some [V.rb xs]])[id]? = some (some o) → (id < s.hp.length ∧ s.hp[id]? = some (some o)) ∨ (id = s.hp.length ∧ o = [V.rb xs]) := by
    intro id o hid
    rcases Nat.lt_or_ge id s.hp.length with hi | hi
    · rw [List.getElem?_append_left hi] at hid
      exact .inl ⟨hi, hid⟩
    · rw [List.getElem?_append_right hi] at hid
      have h0 : id - s.hp.length = 0 := by
        rcases Nat.eq_zero_or_pos (id - s.hp.length) with h0 | h0
        · exact h0
        · rw [List.getElem?_eq_none (by simp; omega)] at hid
          simp at hid
      rw [h0] at hid
      simp at hid
      exact .inr ⟨by omega, hid.symm⟩
  have rhoNew : g'.ρ s.hp.length = w.heap.size := by simp [g']
  have rhoOld : ∀ id, id < s.hp.length → g'.ρ id = g.ρ id := fun id hid => by simp [g', Nat.ne_of_lt hid]
  have hs : SR g' { s with hp := s.hp ++ [some [V.rb xs]] } w' a := by
    refine ⟨⟨?_, ?_, ?_, ?_, ?_, ?_⟩, ⟨h.er.size, ?_, ?_⟩⟩
    · intro id o hid
      rcases split id o hid with ⟨hi, hid⟩ | ⟨rfl, rfl⟩
      · obtain ⟨arr', e', fz, k1, k2⟩ := h.hr.obj id o hid
        refine ⟨arr', e', fz, ?_, k2.len, k2.plain, k2.typedUp rfl u.rho u.num rfl, k2.cold, k2.one, fun j c cv hc hcv => (k2.rel j c cv hc hcv).up u, fun j c cv hc hcv => okeep _ _ _ (k2.own j c cv hc hcv), by rw [rhoOld id hi]; exact k2.bn⟩
        rw [rhoOld id hi]
        exact (f2 _ (olt id o hid)).trans k1
      · have hcell : ∀ (j : Nat) c, (cellsOf [.rb xs])[j]? = some c → ∃ x, xs[j]? = some x ∧ c = .int .u8 x.toNat := by
          intro j c hc
          simp only [cellsOf, List.getElem?_map, Option.map_eq_some_iff] at hc
          obtain ⟨x, h1, rfl⟩ := hc
          exact ⟨x, h1, rfl⟩
        refine ⟨arr, e, fz, ?_, ⟨by simpa [cellsOf] using hroom, (by intro hf; cases hf), (by intro k zs hz; cases hz), by simpa [cellsOf] using hcold, ?_, ?_, ?_, ?_⟩⟩
        · rw [rhoNew]
          exact f3
        · intro c hc
          obtain ⟨j, hj, rfl⟩ := List.mem_iff_getElem.1 hc
          obtain ⟨x, _, e2⟩ := hcell j _ (List.getElem?_eq_getElem hj)
          rw [e2]
          rfl
        · intro j c cv hc hcv
          obtain ⟨x, h1, rfl⟩ := hcell j c hc
          rw [hv j x h1] at hcv
          cases hcv
          exact .int _ _ (byte_range x)
        · intro j c cv hc hcv
          obtain ⟨x, h1, rfl⟩ := hcell j c hc
          simp [OwnOK]
        · intro j E n hj
          obtain ⟨x, h1, h2⟩ := hcell j _ hj
          cases h2
    · intro id id' o o' k1 k2 hne
      rcases split id o k1 with ⟨hi, m1⟩ | ⟨e1, -⟩ <;> rcases split id' o' k2 with ⟨hi', m2⟩ | ⟨e2, -⟩
      · rw [rhoOld _ hi, rhoOld _ hi']
        exact h.hr.apart id id' o o' m1 m2 hne
      · rw [rhoOld _ hi, e2, rhoNew]
        exact Nat.ne_of_lt (olt id o m1)
      · rw [rhoOld _ hi', e1, rhoNew]
        exact (Nat.ne_of_lt (olt id' o' m2)).symm
      · exact absurd (e1.trans e2.symm) hne
    · intro id o hid j hi
      rcases split id o hid with ⟨hlt, hid⟩ | ⟨rfl, rfl⟩
      · rw [rhoOld _ hlt] at hi
        exact h.hr.notI id o hid j hi
      · rw [rhoNew] at hi
        have := ilt _ _ hi
        omega
    · intro id o hid
      rcases split id o hid with ⟨hlt, hid⟩ | ⟨rfl, rfl⟩
      · rw [rhoOld _ hlt]
        exact h.hr.notO id o hid
      · rw [rhoNew]
        cases hO : g.O w.heap.size with
        | none => rfl
        | some oc =>
          have := h.hr.oLt _ _ hO
          omega
    · intro b j hi
      rw [cello b j (ilt b j hi)]
      exact h.hr.exI b j hi
    · intro b oc hb
      have := h.hr.oLt b oc hb
      show b < w'.heap.size
      rw [f1]
      omega
    · intro n v cv hv' hcv
      exact (h.er.rel n v cv hv' hcv).up u
    · intro n v cv hv' hcv
      exact okeep _ _ _ (h.er.own n v cv hv' hcv)
  refine ⟨g', ?_, rfl, hos, htp, hout, by rw [f1]; omega, fun b hb _ _ => f2 b hb, u, fun b j _ _ _ hi => hi, fun b _ _ hO => hO, ?_⟩
  · have := hs.set d (v := .ptr s.hp.length 0) (cv := .pointer (some ⟨w.heap.size, 0, none⟩)) (by
      rw [← rhoNew]
      exact .ptr _ _ (by simp)) (by simp [OwnOK])
    exact this
  · intro id o hid
    rcases split id o hid with ⟨hlt, hid⟩ | ⟨rfl, rfl⟩
    · exact .inl ⟨o, hid⟩
    · exact .inr ⟨Nat.le_refl _, .inl (by rw [rhoNew]; exact Nat.le_refl _)⟩


theorem mem_row {id : Nat} {xs : List UInt8} (ho : s.row id = some xs) : s.hp[id]? = some (some [.rb xs]) := by
  unfold St.row at ho
  simp only [List.getD] at ho
  cases hh : s.hp[id]? with
  | none => rw [hh] at ho; simp at ho
  | some x =>
    rw [hh] at ho
    simp only [Option.getD_some] at ho
    split at ho
    · simp only [Option.some.injEq] at ho
      subst ho
      rfl
    · cases ho

/-- a row's cells in the world -/
theorem row_cells {id : Nat} {xs : List UInt8} (h : SR g s w a) (ho : s.row id = some xs) : ∃ arr e fz, w.heap[g.ρ id]? = some (.cells arr e fz) ∧ xs.length ≤ arr.size ∧
    (∀ j, j < xs.length → ¬ (fz.1 ≤ j ∧ j < fz.2)) ∧ ∀ (j : Nat) (x : UInt8), xs[j]? = some x → arr[j]? = some (.int .u8 x.toNat) := by
  obtain ⟨arr, e, fz, h1, h2⟩ := h.hr.obj id _ (mem_row ho)
  have hl : xs.length ≤ arr.size := by simpa [cellsOf] using h2.len
  refine ⟨arr, e, fz, h1, hl, by simpa [cellsOf] using h2.cold, ?_⟩
  intro j x hx
  have hj : j < xs.length := (List.getElem?_eq_some_iff.1 hx).1
  have ha : arr[j]? = some arr[j] := Array.getElem?_eq_getElem (by omega)
  have := h2.rel j (.int .u8 x.toNat) arr[j] (by simp [cellsOf, hx]) ha
  generalize arr[j] = cv at this ha
  cases this
  exact ha

theorem op_s2o {d : Nat} {x : ASrc} (hc : chkRows P (.s2o d x) m = true) (hs : step Γ (.s2o d x) s = some (true, s')) (h : SR g s w a) (hn : Goes g s w a s' next) : m.wp P a w next Q := by
  obtain ⟨dst, op, ty, pos, aft, gd⟩ := m
  simp only [chkRows, Bool.and_eq_true, beq_iff_eq] at hc
  obtain ⟨rfl, hc⟩ := hc
  split at hc
  · rename_i u t x'
    simp only [Bool.and_eq_true] at hc
    obtain ⟨h1, h2, h4⟩ := hc
    split at h1
    · rename_i u2
      unfold bytesT at h2
      split at h2
      · rename_i e u1
        simp only [intK] at h2
        split at h2
        · rename_i kk u3
          obtain rfl : IntKind.u8 = kk := by simpa using h2
          simp only [step] at hs
          split at hs
          · rename_i l hx
            obtain rfl : _ = s' := by simpa using hs
            have r1 := src_rel h4 h.er
            rw [hx] at r1
            generalize hcv : a.eval x' = cv at r1
            cases r1 with
            | str _ b hl hm =>
            subst hl
            have hr := Lib.run_convert_string_bytes (P := P) w u t e b u2 u1 u3
            have hcapn : b.size ≤ grownCap w b.size 0 e := by
              unfold grownCap Question.cut
              exact Nat.le_add_right _ _
            have hcm : grownCap w b.size 0 e ≤ maxI := by
              have := grownCap_le_maxLen w b.size 0 e (by unfold maxLen; unfold maxI at hm; omega)
              simpa [maxLen, maxI] using this
            have harr : (Lib.bytesCells w e b).size = grownCap w b.size 0 e := by
              have hs : b.data.size = b.size := rfl
              simp [Lib.bytesCells, hs]
              omega
            obtain ⟨g', q1, q2⟩ := h.newRowObj (w' := Lib.bytesWorld w e b) b.data.toList (grownCap w b.size 0 e) d (Lib.bytesCells w e b) e _ (Lib.bytesWorld_size w e b) (fun j hj => Lib.bytesWorld_at_old w e b j hj) (Lib.bytesWorld_at_new w e b)
              (by simp [Lib.bytesWorld, World.freeze, World.alloc, World.drew, -World.alloc_eq, -World.drew_eq]) (by simp [Lib.bytesWorld, World.freeze, World.alloc, World.drew, -World.alloc_eq, -World.drew_eq]) (by simp [Lib.bytesWorld, World.freeze, World.alloc, World.drew, -World.alloc_eq, -World.drew_eq])
              (by rw [size_data]; exact hcapn) hcm (by rw [harr, size_data]; exact hcapn) (by intro j hj; rw [size_data] at hj; rw [harr]; omega) (by
                intro i x hxi
                have hi := (List.getElem?_eq_some_iff.1 hxi).1
                simp only [Lib.bytesCells]
                rw [Array.getElem?_append_left (by simpa using hi)]
                simp only [Array.getElem?_map]
                rw [← Array.getElem?_toList, hxi]
                rfl)
            refine goes_at rfl (w' := Lib.bytesWorld w e b) (cv := .slice (some ⟨w.heap.size, 0, none⟩) b.data.toList.length (grownCap w b.size 0 e)) ?_ ⟨g', q1, q2⟩ hn
            rw [size_data]
            simp [execOp, hcv, hr]
          · simp at hs
        · simp at h2
      · simp at h2
    · simp at h1
  · simp at hc

theorem op_mko {d : Nat} {x : ASrc} (hc : chkRows P (.mko d x) m = true) (hs : step Γ (.mko d x) s = some (true, s')) (h : SR g s w a) (hn : Goes g s w a s' next) : m.wp P a w next Q := by
  obtain ⟨dst, op, ty, pos, aft, gd⟩ := m
  simp only [chkRows, Bool.and_eq_true, beq_iff_eq] at hc
  obtain ⟨rfl, hc⟩ := hc
  split at hc
  · rename_i t x' y'
    simp only [Bool.and_eq_true] at hc
    obtain ⟨h1, h2, h3⟩ := hc
    have r1 := src_rel h2 h.er
    have r2 := src_rel h3 h.er
    obtain ⟨e, u1, h1⟩ := sliceOK_facts h1
    obtain ⟨inf, z, i1, i2, i3, i4, i5, i6, i7⟩ := elemOK_facts h1
    simp only [step] at hs
    split at hs
    · rename_i ki n hx
      simp only [Option.some.injEq, Prod.mk.injEq, Bool.and_eq_true, decide_eq_true_eq] at hs
      obtain ⟨⟨g1, g2⟩, rfl⟩ := hs
      rw [hx] at r1 r2
      generalize hcx : a.eval x' = cx at r1
      generalize hcy : a.eval y' = cy at r2
      cases r1
      cases r2
      have g3 : n ≤ 140737488355328 := g2
      have hbt : inf.bytes = 1 := by simpa [EK.bytes] using i3
      have hb : (inf.bytes : Int) * n ≤ 281474976710656 := by
        rw [hbt]; omega
      have hrun := run_make (P := P) w t e inf z u1 i1 i4 ki ki n n g1 (Int.le_refl _) hb (by omega)
      have hzs : z.cells.size = 1 := i7
      obtain ⟨m1, m2, m3⟩ := const1s_rel (I := g.I) (ρ := g.ρ) (N := s.hp.length) (w := w) i6
      rw [i2] at hrun
      simp only [EK.sz, Nat.mul_one] at hrun
      have f := alloc_facts w (.cells (madeCells z.cells n.toNat) e)
      have hz0 : z.cells[0]? = some (.int .u8 0) := by
        have hz' : z.cells[0]? = some (z.cells[0]'(by omega)) := Array.getElem?_eq_getElem _
        have := m3 0 (.int .u8 0) _ rfl (by rw [Array.getElem?_toList]; exact hz')
        rw [hz']
        generalize z.cells[0]'(by omega) = cv at this
        cases this
        rfl
      obtain ⟨g', q1, q2⟩ := h.newRowObj (w' := w.alloc (.cells (madeCells z.cells n.toNat) e)) (List.replicate n.toNat 0) n.toNat d (madeCells z.cells n.toNat) e (0, 0) f.1 f.2.1 f.2.2 rfl rfl rfl (by simp) (by unfold maxI; omega)
        (by rw [size_madeCells]; simp) (by intro j h1; omega) (by
          intro i x hx
          rw [List.getElem?_replicate] at hx
          split at hx
          · rename_i hi
            simp only [Option.some.injEq] at hx
            subst hx
            simp only [madeCells]
            rw [Array.getElem?_map, Array.getElem?_range, if_pos hi, Option.map_some, hzs, Nat.mod_one]
            have : z.cells[0]! = .int .u8 0 := by
              rw [getElem!_pos z.cells 0 (by omega)]
              rw [Array.getElem?_eq_getElem (by omega)] at hz0
              exact Option.some.inj hz0
            rw [this]
            rfl
          · simp at hx)
      simp only [List.length_replicate] at q1
      exact goes_at rfl (by simp [execOp, hcx, hcy, hrun]) ⟨g', q1, q2⟩ hn
    · simp at hs
  · simp at hc

theorem op_ixo {d : Nat} {x i : ASrc} (hc : chkRows P (.ixo d x i) m = true) (hs : step Γ (.ixo d x i) s = some (true, s')) (h : SR g s w a) (hn : Goes g s w a s' next) : m.wp P a w next Q := by
  obtain ⟨dst, op, ty, pos, aft, gd⟩ := m
  simp only [chkRows, Bool.and_eq_true, beq_iff_eq] at hc
  obtain ⟨rfl, hc⟩ := hc
  split at hc
  · rename_i t x' i'
    simp only [Bool.and_eq_true] at hc
    obtain ⟨h1, h2, h3⟩ := hc
    have r1 := src_rel h2 h.er
    have r2 := src_rel h3 h.er
    simp only [step] at hs
    split at hs
    · rename_i id len ki n hx hi
      simp only [Option.some.injEq, Prod.mk.injEq, Bool.and_eq_true, decide_eq_true_eq] at hs
      obtain ⟨⟨g1, g2⟩, rfl⟩ := hs
      rw [hx] at r1
      rw [hi] at r2
      obtain ⟨e, u1, h1⟩ := sliceOK_facts h1
      obtain ⟨inf, z, i1, i2, i3, i4, i5, _⟩ := elemOK_facts h1
      generalize hcv : a.eval x' = cv at r1
      generalize hci : a.eval i' = ci at r2
      cases r2
      cases r1 with
      | so _ _ cap hid hcap hm =>
        have hsz : ∀ w' : World, (sizeOf e).run P w' = .ok 1 w' := fun w' => by simp [sizeOf, typeInfo, i1, i2, EK.sz]
        refine goes_value h rfl (cv := .pointer (some ⟨g.ρ id, n.toNat, none⟩)) ?_ (.ptr _ _ hid) rfl hn
        simp [execOp, hcv, hci, Instr.indexAt, asIntOf, run_underlying u1, g1, g2, hsz, Addr.add_lit]
    · simp at hs
  · simp at hc

theorem op_leno {d : Nat} {x : ASrc} (hc : chkRows P (.leno d x) m = true) (hs : step Γ (.leno d x) s = some (true, s')) (h : SR g s w a) (hn : Goes g s w a s' next) : m.wp P a w next Q := by
  obtain ⟨dst, op, ty, pos, aft, gd⟩ := m
  simp only [chkRows, Bool.and_eq_true, beq_iff_eq] at hc
  obtain ⟨rfl, hc⟩ := hc
  split at hc
  · rename_i x' t hop
    obtain rfl := callB_some hop
    simp only [Bool.and_eq_true] at hc
    obtain ⟨h1, h3⟩ := hc
    have r1 := src_rel h3 h.er
    simp only [step] at hs
    split at hs
    · rename_i id n hx
      obtain rfl : _ = s' := by simpa using hs
      rw [hx] at r1
      split at h1
      · rename_i e u1
        generalize hcv : a.eval x' = cv at r1
        cases r1 with
        | so _ _ cap hid hcap hm =>
          refine goes_value h rfl (cv := .int .i64 n) (by simp [execOp, resolve, hcv, invoke, builtin, Builtin.len_, run_underlying u1, goInt]) ?_ rfl hn
          exact .int _ _ (by simp [IntKind.min, IntKind.max, IntKind.signed, IntKind.bits, maxI] at *; omega)
      · simp at h1
    · simp at hs
  · simp at hc

theorem op_o2s {d : Nat} {x : ASrc} (hc : chkRows P (.o2s d x) m = true) (hs : step Γ (.o2s d x) s = some (true, s')) (h : SR g s w a) (hn : Goes g s w a s' next) : m.wp P a w next Q := by
  obtain ⟨dst, op, ty, pos, aft, gd⟩ := m
  simp only [chkRows, Bool.and_eq_true, beq_iff_eq] at hc
  obtain ⟨rfl, hc⟩ := hc
  split at hc
  · rename_i t u x'
    simp only [Bool.and_eq_true] at hc
    obtain ⟨h1, h2, h4⟩ := hc
    split at h1
    · rename_i u2
      unfold bytesT at h2
      split at h2
      · rename_i e u1
        simp only [intK] at h2
        split at h2
        · rename_i kk u3
          obtain rfl : IntKind.u8 = kk := by simpa using h2
          have r1 := src_rel h4 h.er
          simp only [step] at hs
          split at hs
          · rename_i id n hx
            split at hs
            · rename_i xs ho
              simp only [Option.some.injEq, Prod.mk.injEq, decide_eq_true_eq] at hs
              obtain ⟨hle, rfl⟩ := hs
              rw [hx] at r1
              generalize hcv : a.eval x' = cv at r1
              cases r1 with
              | so _ _ cap hid hcap hm =>
                obtain ⟨arr, e', fz, hb, hsz, _, hcell⟩ := row_cells h ho
                have hcells : (loadCells ⟨g.ρ id, 0, none⟩ n).run P w = .ok (((xs.take n).map fun c : UInt8 => (c.toNat : Int)).map (Value.int .u8)).toArray w := by
                  have hlen : n = (((xs.take n).map fun c : UInt8 => (c.toNat : Int)).map (Value.int .u8)).length := by simp; omega
                  conv => lhs; rw [hlen]
                  refine run_loadCells_list w _ _ ?_
                  intro j v hj
                  simp only [List.map_map, List.getElem?_map, Option.map_eq_some_iff] at hj
                  obtain ⟨x, hx1, rfl⟩ := hj
                  rw [List.getElem?_take] at hx1
                  split at hx1
                  · rw [Addr.add_lit, cell_of_heap hb]
                    simp only [Nat.zero_add]
                    exact hcell j x hx1
                  · cases hx1
                have hlen2 : (((xs.take n).map fun c : UInt8 => (c.toNat : Int)).foldl (fun (r : ByteArray) n => r.push (UInt8.ofNat n.toNat)) ByteArray.empty).data.toList = xs.take n := by
                  rw [toList_foldl_push, empty_data]; simp [Function.comp_def]
                refine goes_value h rfl (cv := .string (((xs.take n).map fun c : UInt8 => (c.toNat : Int)).foldl (fun (r : ByteArray) n => r.push (UInt8.ofNat n.toNat)) ByteArray.empty)) ?_ (.str _ _ hlen2 ?_) rfl hn
                · simp [execOp, hcv, run_convert_bytes_string w _ _ _ _ _ _ u1 u3 u2, run_bytesToString w _ _ _ _ hcells]
                · rw [← size_data, hlen2, List.length_take]; omega
            · simp at hs
          · simp at hs
        · simp at h2
      · simp at h2
    · simp at h1
  · simp at hc

theorem op_ldo {d : Nat} {x : ASrc} (hc : chkRows P (.ldo d x) m = true) (hs : step Γ (.ldo d x) s = some (true, s')) (h : SR g s w a) (hn : Goes g s w a s' next) : m.wp P a w next Q := by
  obtain ⟨dst, op, ty, pos, aft, gd⟩ := m
  simp only [chkRows, Bool.and_eq_true, beq_iff_eq] at hc
  obtain ⟨rfl, hc⟩ := hc
  split at hc
  · rename_i t x'
    simp only [Bool.and_eq_true, beq_iff_eq] at hc
    obtain ⟨h1, h2, h4⟩ := hc
    have r1 := src_rel h4 h.er
    simp only [step] at hs
    split at hs
    · rename_i id o hx
      split at hs
      · rename_i xs ho
        simp only [Option.some.injEq, Prod.mk.injEq, decide_eq_true_eq] at hs
        obtain ⟨hlt, rfl⟩ := hs
        rw [hx] at r1
        generalize hcv : a.eval x' = cv at r1
        cases r1 with
        | ptr _ _ hid =>
          obtain ⟨arr, e', fz, hb, hsz, _, hcell⟩ := row_cells h ho
          have hx1 : xs[o]? = some xs[o] := List.getElem?_eq_getElem hlt
          have hd : xs.getD o 0 = xs[o] := by simp [List.getD, hx1]
          have hc0 := hcell o _ hx1
          rw [hd] at hn
          refine goes_value h rfl (cv := .int .u8 xs[o].toNat) ?_ (.int _ _ (byte_range _)) rfl hn
          have := run_load_row (P := P) (w := w) (b := g.ρ id) (o := o) (vs := [.int .u8 xs[o].toNat]) (agg := false) h1 h2 (.inr rfl) rfl (fun j v hj => by
            cases j with
            | zero => simp at hj; subst hj; rw [cell_of_heap hb]; exact hc0
            | succ j => simp at hj)
          simp [execOp, hcv, this]
      · simp at hs
    · simp at hs
  · simp at hc

/-- a row's byte, written over -/
theorem SR.putByte (h : SR g s w a) {id o : Nat} {xs : List UInt8} (ho : s.row id = some xs) (hlt : o < xs.length) (x : UInt8) :
    SR g (s.setObj id [.rb (xs.set o x)]) (w.setCells (g.ρ id) o [.int .u8 x.toNat]) a ∧ FR g s.hp w g (s.hp.set id (some [.rb (xs.set o x)])) (w.setCells (g.ρ id) o [.int .u8 x.toNat]) := by
  have hid := mem_row ho
  obtain ⟨arr, e, fz, hb, hsz, hcold, hcell⟩ := row_cells h ho
  obtain ⟨⟨arr', q1, q2⟩, q3, q4, q5, q6, q7⟩ := setCells_heap (g.ρ id) [.int .u8 x.toNat] o w arr e fz hb
  let w' := w.setCells (g.ρ id) o [.int .u8 x.toNat]
  have ilt : ∀ b j, g.I b j → b ≠ g.ρ id := by
    rintro b j hi rfl
    exact h.hr.notI id _ hid j hi
  have cello : ∀ b j, g.I b j → w'.cell? ⟨b, j, none⟩ = w.cell? ⟨b, j, none⟩ := by
    intro b j hi
    exact World.cell?_setCells_out _ _ o w _ (fun e => absurd e (ilt b j hi))
  have u : Up g.I g.ρ s.hp.length w g.I g.ρ s.hp.length w' := ⟨fun _ _ h => h, cello, fun _ _ => rfl, Nat.le_refl _⟩
  have okeep : ∀ occ v cv, OwnOK g w occ v cv → OwnOK g w' occ v cv := by
    intro occ v cv hoo
    refine own_keep hoo rfl (fun b j hi => ⟨u.mono b j hi, u.cell b j hi⟩) ?_
    intro b hbo
    refine ⟨hbo, q3 b ?_, fun j hj => hj⟩
    rintro rfl
    rw [h.hr.notO id _ hid] at hbo
    simp at hbo
  have harr : ∀ j, arr'[j]? = if j = o then some (.int .u8 x.toNat) else arr[j]? := by
    intro j
    rw [← cell_of_heap q1 j]
    split
    · rename_i hj
      subst hj
      have := World.cell?_setCells_in (g.ρ id) [.int .u8 x.toNat] j w (fun j' hj' => by rw [cell_of_heap hb, Array.getElem?_eq_getElem (by simp at hj'; omega)]; rfl) 0 (by simp)
      rw [Nat.add_zero] at this
      exact this
    · rename_i hj
      rw [World.cell?_setCells_out _ _ o w _ (fun _ _ => by simp; omega), cell_of_heap hb]
  have hl : id < s.hp.length := (List.getElem?_eq_some_iff.1 hid).1
  have split : ∀ (id' : Nat) o', (s.hp.set id (some [V.rb (xs.set o x)]))[id']? = some (some o') → (id' = id ∧ o' = [V.rb (xs.set o x)]) ∨ (id' ≠ id ∧ s.hp[id']? = some (some o')) := by
    intro id' o' hq
    rw [List.getElem?_set] at hq
    split at hq
    · rename_i e
      simp [hl] at hq
      exact .inl ⟨e.symm, hq.symm⟩
    · rename_i e
      exact .inr ⟨fun e' => e e'.symm, hq⟩
  have old : ∀ (id' : Nat) o', (s.hp.set id (some [V.rb (xs.set o x)]))[id']? = some (some o') → ∃ o'', s.hp[id']? = some (some o'') := by
    intro id' o' hq
    rcases split id' o' hq with ⟨rfl, _⟩ | ⟨_, hq⟩
    · exact ⟨_, hid⟩
    · exact ⟨_, hq⟩
  have hnew : ∀ (j : Nat) c, (cellsOf [V.rb (xs.set o x)])[j]? = some c → ∃ y : UInt8, c = .int .u8 y.toNat ∧ arr'[j]? = some (.int .u8 y.toNat) := by
    intro j c hc
    simp only [cellsOf, List.getElem?_map, Option.map_eq_some_iff] at hc
    obtain ⟨y, h1, rfl⟩ := hc
    refine ⟨y, rfl, ?_⟩
    rw [harr]
    rw [List.getElem?_set] at h1
    split at h1
    · rename_i e1
      subst e1
      simp only [hlt, if_true, Option.some.injEq] at h1
      subst h1
      simp
    · rename_i e1
      rw [if_neg (fun e2 => e1 e2.symm)]
      exact hcell j y h1
  refine ⟨⟨⟨?_, ?_, ?_, ?_, ?_, ?_⟩, ⟨h.er.size, ?_, ?_⟩⟩, ⟨rfl, q5, q6, q7, by rw [q4]; exact Nat.le_refl _, ?_, ?_, fun _ _ _ _ _ hi => hi, fun _ _ _ hO => hO, ?_⟩⟩
  · intro id' o' hq
    simp only [St.setObj, List.length_set]
    rcases split id' o' hq with ⟨rfl, rfl⟩ | ⟨hne, hq⟩
    · refine ⟨arr', e, fz, q1, ⟨by simp [cellsOf, q2]; exact hsz, (by intro hf; cases hf), (by intro k zs hz; cases hz), by simpa [cellsOf] using hcold, ?_, ?_, ?_, ?_⟩⟩
      · intro c hc
        obtain ⟨j, hj, rfl⟩ := List.mem_iff_getElem.1 hc
        obtain ⟨y, e2, _⟩ := hnew j _ (List.getElem?_eq_getElem hj)
        rw [e2]
        rfl
      · intro j c cv hc hcv
        obtain ⟨y, rfl, e2⟩ := hnew j c hc
        rw [e2] at hcv
        cases hcv
        exact .int _ _ (byte_range y)
      · intro j c cv hc hcv
        obtain ⟨y, rfl, e2⟩ := hnew j c hc
        simp [OwnOK]
      · intro j E n hc
        obtain ⟨y, e1, e2⟩ := hnew j _ hc
        cases e1
    · obtain ⟨arr2, e2, fz2, k1, k2⟩ := h.hr.obj id' o' hq
      refine ⟨arr2, e2, fz2, ?_, k2.len, k2.plain, k2.typedUp rfl u.rho u.num rfl, k2.cold, k2.one, fun j c cv hc hcv => (k2.rel j c cv hc hcv).up u, fun j c cv hc hcv => okeep _ _ _ (k2.own j c cv hc hcv), k2.bn⟩
      rw [q3 _ (h.hr.apart id' id o' _ hq hid hne)]
      exact k1
  · intro id1 id2 c1 c2 k1 k2 hne
    obtain ⟨_, k1⟩ := old id1 c1 k1
    obtain ⟨_, k2⟩ := old id2 c2 k2
    exact h.hr.apart _ _ _ _ k1 k2 hne
  · intro id1 c1 k1
    obtain ⟨_, k1⟩ := old id1 c1 k1
    exact h.hr.notI _ _ k1
  · intro id1 c1 k1
    obtain ⟨_, k1⟩ := old id1 c1 k1
    exact h.hr.notO _ _ k1
  · intro b j hi
    have := cello b j hi
    rw [this]
    exact h.hr.exI b j hi
  · intro b oc hbo
    rw [q4]
    exact h.hr.oLt b oc hbo
  · intro n v cv hq hcv
    simp only [St.setObj, List.length_set]
    exact (h.er.rel n v cv hq hcv).up u
  · intro n v cv hq hcv
    exact okeep _ _ _ (h.er.own n v cv hq hcv)
  · intro b _ hno _
    exact q3 b (fun e => hno id _ hid e.symm)
  · simp only [List.length_set]
    exact u
  · intro id' o' hq
    obtain ⟨o'', hq⟩ := old id' o' hq
    exact .inl ⟨o'', hq⟩

theorem op_sto {d : Option Nat} {x v : ASrc} (hc : chkRows P (.sto d x v) m = true) (hs : step Γ (.sto d x v) s = some (true, s')) (h : SR g s w a) (hn : Goes g s w a s' next) : m.wp P a w next Q := by
  obtain ⟨dst, op, ty, pos, aft, gd⟩ := m
  simp only [chkRows, Bool.and_eq_true, beq_iff_eq] at hc
  obtain ⟨rfl, hc⟩ := hc
  split at hc
  · rename_i t x' v'
    simp only [Bool.and_eq_true, beq_iff_eq] at hc
    obtain ⟨h1, h2, h3⟩ := hc
    have r1 := src_rel h2 h.er
    have r2 := src_rel h3 h.er
    simp only [step] at hs
    split at hs
    · rename_i id o n hx hv
      split at hs
      · rename_i xs ho
        simp only [Option.some.injEq, Prod.mk.injEq, decide_eq_true_eq] at hs
        obtain ⟨hlt, rfl⟩ := hs
        rw [hx] at r1
        rw [hv] at r2
        generalize hcx : a.eval x' = cx at r1
        generalize hcy : a.eval v' = cy at r2
        cases r1 with
        | ptr _ _ hid =>
        cases r2 with
        | int _ _ hr =>
          obtain ⟨arr, e', fz, hb, hsz, hcold, hcell⟩ := row_cells h ho
          have hn8 : (((UInt8.ofNat n.toNat).toNat : Nat) : Int) = n := by
            simp [IntKind.min, IntKind.max, IntKind.signed, IntKind.bits] at hr
            simp
            omega
          obtain ⟨p1, p2⟩ := h.putByte ho hlt (UInt8.ofNat n.toNat)
          rw [hn8] at p1 p2
          have hrun : (execOp a.eval ⟨dst, .store t x' v', ty, pos, aft, gd⟩).run P w = .ok .skip (w.setCells (g.ρ id) o [.int .u8 n]) := by
            have := run_storeCells_cells (P := P) (g.ρ id) o [.int .u8 n] 0 w
              (fun j hj => by rw [cell_of_heap hb, Array.getElem?_eq_getElem (by simp at hj; omega)]; rfl)
              (fun j hj => by
                have := hcold o hlt
                simp at hj
                subst hj
                simp only [World.frozen?, hb]
                simpa using this)
              (fun u hu => by simp at hu; subst hu; rfl)
            simp [execOp, hcx, hcy, Instr.storeAt, Instr.sureAddr, storeVar, run_sizeT h1, this, Value.cells]
          unfold Oper.wp Oper.upon
          rw [hrun]
          cases dst with
          | none => exact hn _ _ g p1 p2 rfl
          | some d => exact hn _ _ g (p1.set d (.undef _) (by simp [OwnOK])) p2 rfl
      · simp at hs
    · simp at hs
  · simp at hc

theorem op_mn3 {d : Nat} {x y z : ASrc} (hc : chkRows P (.mn3 d x y z) m = true) (hs : step Γ (.mn3 d x y z) s = some (true, s')) (h : SR g s w a) (hn : Goes g s w a s' next) : m.wp P a w next Q := by
  obtain ⟨dst, op, ty, pos, aft, gd⟩ := m
  simp only [chkRows, Bool.and_eq_true, beq_iff_eq] at hc
  obtain ⟨rfl, hc⟩ := hc
  split at hc
  · rename_i x' y' z' ts hop
    obtain rfl := callB_some hop
    simp only [Bool.and_eq_true] at hc
    obtain ⟨h1, h2, h3⟩ := hc
    have r1 := src_rel h1 h.er
    have r2 := src_rel h2 h.er
    have r3 := src_rel h3 h.er
    simp only [step] at hs
    split at hs
    · rename_i k p k' q k'' r hx hy hz
      split at hs
      · rename_i hk
        obtain ⟨rfl, rfl⟩ := hk
        obtain rfl : _ = s' := by simpa using hs
        rw [hx] at r1
        rw [hy] at r2
        rw [hz] at r3
        generalize hcx : a.eval x' = cx at r1
        generalize hcy : a.eval y' = cy at r2
        generalize hcz : a.eval z' = cz at r3
        cases r1 with
        | int _ _ hp =>
        cases r2 with
        | int _ _ hq =>
        cases r3 with
        | int _ _ hr =>
          refine goes_value h rfl (cv := .int k (if r < (if q < p then q else p) then r else (if q < p then q else p))) ?_ (.int _ _ (by by_cases c1 : q < p <;> simp only [c1, if_true, if_false] <;> split <;> assumption)) rfl hn
          simp [execOp, resolve, hcx, hcy, hcz, invoke, builtin, Builtin.min_, Builtin.min2]
      · simp at hs
    · simp at hs
  · simp at hc
theorem op_blo {d : Nat} {ps : List ASrc} (hc : chkRows P (.blo d ps) m = true) (hs : step Γ (.blo d ps) s = some (true, s')) (h : SR g s w a) (hn : Goes g s w a s' next) : m.wp P a w next Q := by
  obtain ⟨dst, op, ty, pos, aft, gd⟩ := m
  simp only [chkRows, Bool.and_eq_true, beq_iff_eq] at hc
  obtain ⟨rfl, hc⟩ := hc
  split at hc
  · rename_i t n qs
    simp only [Bool.and_eq_true, beq_iff_eq, decide_eq_true_eq] at hc
    obtain ⟨h1, rfl, h2, h3⟩ := hc
    simp only [step, Option.map_eq_some_iff] at hs
    obtain ⟨xs, hx, hs⟩ := hs
    obtain rfl : _ = s' := by simpa using hs
    obtain ⟨e, u1, h1⟩ := sliceOK_facts h1
    obtain ⟨inf, z, i1, i2, i3, i4, i5, i6, i7⟩ := elemOK_facts h1
    obtain ⟨k1, k2, k3⟩ := parts_rel h.er ps qs.toList 0 h3
    obtain ⟨r1, r2, r3⟩ := decAll_rel (cvs := qs.toList.map fun q => a.eval q.2) hx (by simp [k2]) k3
    simp only [List.length_map] at r1
    have hzs : z.cells.size = (EK.sz .u8) := i7
    have hk0 : 0 < (EK.sz .u8) := by decide
    let zs : Array Value := (Array.range (ps.length * (EK.sz .u8))).map (fun j => z.cells[j % z.cells.size]!)
    have hzs' : zs.size = ps.length * (EK.sz .u8) := by simp [zs]
    have hfill : Instr.fill (fun i => some (i * (EK.sz .u8), (EK.sz .u8))) zs ((qs.map fun x => (x.1, a.eval x.2)).toList) = some ((qs.toList.map fun q => a.eval q.2).map (·.cells.toList)).flatten.toArray := by
      have := fill_all (EK.sz .u8) ((qs.toList.map fun q => a.eval q.2).map (·.cells)) 0 zs (by
        intro v hv
        obtain ⟨cv, hcv, rfl⟩ := List.mem_map.1 hv
        exact r2 cv hcv) (by simp [hzs', k2]) ((qs.map fun x => (x.1, a.eval x.2)).toList) (by simpa [k2] using k1) (by simp)
      rw [this]
      simp [k2, hzs', List.map_map, Function.comp_def]
    have hlen : ((qs.toList.map fun q => a.eval q.2).map (·.cells.toList)).flatten.length = xs.length * (EK.sz .u8) := by
      rw [List.length_flatten, List.map_map]
      have : ∀ l : List Value, (∀ cv ∈ l, cv.cells.size = (EK.sz .u8)) → (l.map (List.length ∘ fun x : Value => x.cells.toList)).sum = l.length * (EK.sz .u8) := by
        intro l hl
        induction l with
        | nil => simp
        | cons c l ih =>
          simp only [List.map_cons, List.sum_cons, List.length_cons, ih (fun cv hcv => hl cv (List.mem_cons_of_mem _ hcv)), Nat.add_mul, Function.comp]
          have := hl c (List.mem_cons_self ..)
          simp [this]
          omega
      rw [this _ r2, List.length_map, k2, r1]
    let arr : Array Value := ((qs.toList.map fun q => a.eval q.2).map (·.cells.toList)).flatten.toArray
    have f := alloc_facts w (.cells arr e)
    refine goes_at rfl (w' := w.alloc (.cells arr e)) (cv := .slice (some ⟨w.heap.size, 0, none⟩) xs.length xs.length) ?_ ?_ hn
    · have h24 : ¬ (16777216 < ps.length * (EK.sz .u8)) := by omega
      have hdim : zs.size = ps.length * (EK.sz .u8) := hzs'
      simp only [Array.toList_map, zs] at hfill
      by_cases h0 : ps.length * (EK.sz .u8) = 0
      · have hp0 : ps.length = 0 := by
          rcases Nat.mul_eq_zero.1 h0 with h | h
          · exact h
          · omega
        have hq0 : qs.toList = [] := List.eq_nil_of_length_eq_zero (by omega)
        have hx0 : xs.length = 0 := by omega
        have hq0' : qs = #[] := by simpa using hq0
        simp [execOp, Instr.buildSlice, run_underlying u1, sizeOf, typeInfo, i1, i2, h24, h0, hp0, hq0', hx0, Instr.fill, newRow, arr]
        rw [show Array.range 0 = #[] from Array.eq_empty_of_size_eq_zero (by simp), Array.map_empty]
      · simp [execOp, Instr.buildSlice, run_underlying u1, sizeOf, typeInfo, i1, i2, h24, h0, zeroValue, i4, hfill, newRow, r1, arr]
    · obtain ⟨g', q1, q2⟩ := h.newRowObj (w' := w.alloc (.cells arr e)) xs xs.length d arr e (0, 0) f.1 f.2.1 f.2.2 rfl rfl rfl (Nat.le_refl _) (by unfold maxI; rw [r1] at *; simp only [EK.sz] at *; omega)
        (by simp only [arr, List.size_toArray, hlen]; simp [EK.sz]) (by intro j h1; omega) (by
          intro i x hx
          obtain ⟨cv, u, q1, q2, q3⟩ := r3 i x 0 (.int .u8 x.toNat) hx rfl
          have hf := flat_get (EK.sz .u8) _ r2 i 0 cv u q1 q2
          cases q3
          simp only [arr, List.getElem?_toArray]
          simpa [EK.sz] using hf)
      exact ⟨g', q1, q2⟩
  · simp at hc

theorem op_aro {d n : Nat} (hc : chkRows P (.aro d n) m = true) (hs : step Γ (.aro d n) s = some (true, s')) (h : SR g s w a) (hn : Goes g s w a s' next) : m.wp P a w next Q := by
  obtain ⟨dst, op, ty, pos, aft, gd⟩ := m
  simp only [chkRows, Bool.and_eq_true, beq_iff_eq] at hc
  obtain ⟨rfl, hc⟩ := hc
  split at hc
  · rename_i t
    simp only [Bool.and_eq_true, decide_eq_true_eq] at hc
    obtain ⟨i, z, hi, hz, hcs⟩ := zeroOK_facts hc.1
    have hn0 : n ≤ maxI := Nat.le_trans hc.2 (by decide)
    obtain rfl : _ = s' := by simpa [step] using hs
    obtain ⟨k1, k2, k3⟩ := const1s_rel (I := g.I) (ρ := g.ρ) (N := s.hp.length) (w := w) hcs
    have hsz : z.cells.size = n := by simpa using k1.symm
    have f := alloc_facts w (.cells z.cells t)
    obtain ⟨g', q1, q2⟩ := h.newRowPtr (w' := w.alloc (.cells z.cells t)) (List.replicate n 0) n d z.cells t (0, 0) f.1 f.2.1 f.2.2 rfl rfl rfl (by simp) hn0 (by simp [hsz]) (by intro j h1; omega) (by
      intro j x hx
      rw [List.getElem?_replicate] at hx
      split at hx
      · rename_i hj
        simp only [Option.some.injEq] at hx
        subst hx
        have ha : z.cells[j]? = some (z.cells[j]'(by omega)) := Array.getElem?_eq_getElem _
        have := k3 j (.int .u8 0) _ (by simp [List.getElem?_replicate, hj]) (by rw [Array.getElem?_toList]; exact ha)
        rw [ha]
        generalize z.cells[j]'(by omega) = cv at this
        cases this
        rfl
      · cases hx)
    exact goes_at rfl (cv := .pointer (some ⟨w.heap.size, 0, none⟩)) (by simp [execOp, Instr.alloc, zeroValue, typeInfo, hi, hz, newVar, newRow]) ⟨g', q1, q2⟩ hn
  · simp at hc

theorem op_ixp {d n : Nat} {x i : ASrc} (hc : chkRows P (.ixp d n x i) m = true) (hs : step Γ (.ixp d n x i) s = some (true, s')) (h : SR g s w a) (hn : Goes g s w a s' next) : m.wp P a w next Q := by
  obtain ⟨dst, op, ty, pos, aft, gd⟩ := m
  simp only [chkRows, Bool.and_eq_true, beq_iff_eq] at hc
  obtain ⟨rfl, hc⟩ := hc
  split at hc
  · rename_i t x' i'
    simp only [Bool.and_eq_true] at hc
    obtain ⟨h1, h2, h3⟩ := hc
    have r1 := src_rel h2 h.er
    have r2 := src_rel h3 h.er
    simp only [step] at hs
    split at hs
    · rename_i id o ki k hx hi
      simp only [Option.some.injEq, Prod.mk.injEq, Bool.and_eq_true, decide_eq_true_eq] at hs
      obtain ⟨⟨g1, g2⟩, rfl⟩ := hs
      rw [hx] at r1
      rw [hi] at r2
      split at h1
      · rename_i len e u1
        simp only [Bool.and_eq_true, beq_iff_eq] at h1
        obtain ⟨rfl, h1⟩ := h1
        generalize hcv : a.eval x' = cv at r1
        generalize hci : a.eval i' = ci at r2
        cases r2
        cases r1 with
        | ptr _ _ hid =>
          refine goes_value h rfl (cv := .pointer (some ⟨g.ρ id, o + k.toNat, none⟩)) ?_ (.ptr _ _ hid) rfl hn
          simp [execOp, hcv, hci, Instr.indexAt, Instr.sureAddr, asIntOf, run_underlying u1, g1, g2, run_sizeT h1, Addr.add_lit]
      · simp at h1
    · simp at hs
  · simp at hc
end
end Go.AM
