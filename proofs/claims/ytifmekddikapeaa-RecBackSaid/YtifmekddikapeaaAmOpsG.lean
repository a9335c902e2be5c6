/-
  Objects: made, loaded, stored; structs built and compared.
-/
import Derived.Test.YtifmekddikapeaaAmOpsF
import Derived.Laws.Tables
import Derived.Laws.StructEq
import Derived.Laws.MakeOwn
namespace Go.AM
set_option autoImplicit false
set_option linter.unusedSimpArgs false
set_option linter.unusedVariables false

def chkMem (P : Program) (o : IOp) (m : Oper) : Bool :=
  match o with
  | .new d zero => (m.dst == some d) && (match m.op with | .alloc t => zeroOK P t zero | _ => false)
  | .box d x => (m.dst == some d) && (match m.op with | .box t y => srcOK x y && plainSrc x | _ => false)
  | .st d n x v => (m.dst == d) && (match m.op with | .store t x' v' => (sizeT P t == some n) && (srcOK x x' && srcOK v v') | _ => false)
  | .ld d n agg true x => (m.dst == some d) && (match m.op with | .load t x' => (sizeT P t == some n) && ((isAggT P t == some agg) && ((!agg && n == 1) && srcOK x x')) | _ => false)
  | .bld d zero ps => (m.dst == some d) && (match m.op with | .build t qs => zeroOK P t zero && (match P.underlying t with | some (.struct fs) => bparts P fs ps qs.toList && fs.all (fun f => (P.info? f.type).isSome) | _ => false) | _ => false)
  | .eqs d neg ks x y => (m.dst == some d) && (match m.op with | .binOp o t x' y' _ => flatT P t ks && (decide (o = if neg then .neq else .eql) && (srcOK x x' && srcOK y y')) | _ => false)
  | .mks d k x => (m.dst == some d) && (match m.op with | .makeSlice t x' y' => sliceOK P t k && (srcOK x x' && srcOK x y') | _ => false)
  | _ => false

section
variable {w w' : World} {g g' : Gh} {s s' : St} {a : Act} {P : Program} {Γ : ASpec} {m : Oper} {next : Act → World → Prop} {Q : Exit → Act → World → Prop}

theorem zeroOK_facts {t : TypeId} {zero : List V} (h : zeroOK P t zero = true) : ∃ i z, P.info? t = some i ∧ i.zero = some z ∧ const1s zero z.cells.toList = true := by
  unfold zeroOK at h
  split at h
  · rename_i i hi
    split at h
    · rename_i z hz
      exact ⟨i, z, hi, hz, h⟩
    · simp at h
  · simp at h

theorem OwnNil.own {c : V} {cv : Value} (h : OwnNil c cv) (g : Gh) (w : World) (occ : Occ) : OwnOK g w occ c cv := by
  unfold OwnOK
  split
  · simp [OwnNil] at h
  · simp [OwnNil] at h
  · exact .inl ⟨List.eq_nil_of_length_eq_zero h.1, h.2⟩
  · trivial

theorem const1s_noBn {cs : List V} {arr : Array Value} (h : const1s cs arr.toList = true) {e : TypeId} : ∀ (j E n : Nat), cs[j]? = some (.bn E n) → E = e ∧ n = arr.size ∧ arr[j]? = some (.pointer none) := by
  intro j E n hj
  exfalso
  have hl := (const1s_rel (I := fun _ _ => False) (ρ := fun x => x) (N := 0) (w := default) h).1
  have hlt := (List.getElem?_eq_some_iff.1 hj).1
  have := const1s_nil h j _ (arr.toList[j]'(by omega)) hj (List.getElem?_eq_getElem (by omega))
  simp [OwnNil] at this

theorem nil_noBn {cs : List V} {arr : Array Value} {e : TypeId} (hl : cs.length = arr.size) (hb : ∀ (i : Nat) c cv, cs[i]? = some c → arr[i]? = some cv → OwnNil c cv) : ∀ (j E n : Nat), cs[j]? = some (.bn E n) → E = e ∧ n = arr.size ∧ arr[j]? = some (.pointer none) := by
  intro j E n hj
  exfalso
  have hlt := (List.getElem?_eq_some_iff.1 hj).1
  have := hb j _ (arr[j]'(by omega)) hj (Array.getElem?_eq_getElem (by omega))
  simp [OwnNil] at this

/-- a new object -/
theorem SR.newObj (h : SR g s w a) (cs : List V) (arr : Array Value) (e : TypeId) (hl : cs.length = arr.size) (h1 : ∀ c ∈ cs, c.one = true)
    (hv : ∀ (i : Nat) c cv, cs[i]? = some c → arr[i]? = some cv → VRel g.I g.ρ s.hp.length w c cv) (hb : ∀ (i : Nat) c cv, cs[i]? = some c → arr[i]? = some cv → noBn c = true → OwnNil c cv)
    (hbn : ∀ (j E n : Nat), cs[j]? = some (.bn E n) → E = e ∧ n = arr.size ∧ arr[j]? = some (.pointer none)) (d : Nat) :
    ∃ g', SR g' { s.set d (.ptr s.hp.length 0) with hp := s.hp ++ [some cs] } (w.alloc (.cells arr e)) (a.put (some d) (.pointer (some ⟨w.heap.size, 0, none⟩))) ∧
      FR g s.hp w g' (s.hp ++ [some cs]) (w.alloc (.cells arr e)) := by
  obtain ⟨f1, f2, f3⟩ := alloc_facts w (.cells arr e)
  let w' := w.alloc (.cells arr e)
  let g' : Gh := { g with ρ := fun id => if id = s.hp.length then w.heap.size else g.ρ id }
  have ilt : ∀ b j, g.I b j → b < w.heap.size := by
    intro b j hi
    obtain ⟨v, hv⟩ := Option.isSome_iff_exists.1 (h.hr.exI b j hi)
    exact World.block_lt_of_cell? _ _ hv
  have cello : ∀ b j, b < w.heap.size → w'.cell? ⟨b, j, none⟩ = w.cell? ⟨b, j, none⟩ := by
    intro b j hb
    simp only [w', World.cell?, f2 b hb]
  have u : Up g.I g.ρ s.hp.length w g'.I g'.ρ (s.hp ++ [some cs]).length w' :=
    ⟨fun b j hi => hi, fun b j hi => cello b j (ilt b j hi), fun id hid => by simp [g', Nat.ne_of_lt hid], by simp⟩
  have olt : ∀ (id : Nat) cs, s.hp[id]? = some (some cs) → g.ρ id < w.heap.size := by
    intro id cs hid
    obtain ⟨arr, e, fz, h1, _⟩ := h.hr.obj id cs hid
    rcases Nat.lt_or_ge (g.ρ id) w.heap.size with hl | hl
    · exact hl
    · simp [Array.getElem?_eq_none hl] at h1
  have okeep : ∀ occ v cv, OwnOK g w occ v cv → OwnOK g' w' occ v cv := by
    intro occ v cv ho
    refine own_keep ho rfl (fun b j hi => ⟨u.mono b j hi, u.cell b j hi⟩) ?_
    intro b hb
    exact ⟨hb, f2 b (h.hr.oLt b occ hb), fun j hj => hj⟩
  have split : ∀ (id : Nat) o, (s.hp ++ [some cs])[id]? = some (some o) → (id < s.hp.length ∧ s.hp[id]? = some (some o)) ∨ (id = s.hp.length ∧ o = cs) := by
    intro id o hid
    rcases Nat.lt_or_ge id s.hp.length with hi | hi
    · rw [List.getElem?_append_left hi] at hid
      exact .inl ⟨hi, hid⟩
    · rw [List.getElem?_append_right hi] at hid
      have h0 : id - s.hp.length = 0 := by
        rcases Nat.eq_zero_or_pos (id - s.hp.length) with h0 | h0
        · exact h0
        · rw [List.getElem?_eq_none (by simp; omega)] at hid
          simp at hid
      rw [h0] at hid
      simp at hid
      exact .inr ⟨by omega, hid.symm⟩
  have rhoNew : g'.ρ s.hp.length = w.heap.size := by simp [g']
  have rhoOld : ∀ id, id < s.hp.length → g'.ρ id = g.ρ id := fun id hid => by simp [g', Nat.ne_of_lt hid]
  have hs : SR g' { s with hp := s.hp ++ [some cs] } w' a := by
    refine ⟨⟨?_, ?_, ?_, ?_, ?_, ?_⟩, ⟨h.er.size, ?_, ?_⟩⟩
    · intro id o hid
      rcases split id o hid with ⟨hi, hid⟩ | ⟨rfl, rfl⟩
      · obtain ⟨arr', e', fz, k1, k2⟩ := h.hr.obj id o hid
        refine ⟨arr', e', fz, ?_, k2.len, k2.plain, k2.typedUp rfl u.rho u.num rfl, k2.cold, k2.one, fun j c cv hc hcv => (k2.rel j c cv hc hcv).up u, fun j c cv hc hcv => okeep _ _ _ (k2.own j c cv hc hcv), by rw [rhoOld id hi]; exact k2.bn⟩
        rw [rhoOld id hi]
        exact (f2 _ (olt id o hid)).trans k1
      · refine ⟨arr, e, (0, 0), ?_, ObjOK0.high ⟨hl, h1, fun j c cv hc hcv => (hv j c cv hc hcv).up u, fun j c cv hc hcv => ?_, fun j E n hj => ⟨(hbn j E n hj).1, (hbn j E n hj).2.1, .inl (hbn j E n hj).2.2⟩⟩⟩
        · rw [rhoNew]
          exact f3
        · cases hnb : noBn c with
          | true => exact (hb j c cv hc hcv hnb).own _ _ _
          | false => cases c <;> simp [noBn] at hnb; simp [OwnOK]
    · intro id id' o o' k1 k2 hne
      rcases split id o k1 with ⟨hi, m1⟩ | ⟨e1, -⟩ <;> rcases split id' o' k2 with ⟨hi', m2⟩ | ⟨e2, -⟩
      · rw [rhoOld _ hi, rhoOld _ hi']
        exact h.hr.apart id id' o o' m1 m2 hne
      · rw [rhoOld _ hi, e2, rhoNew]
        exact Nat.ne_of_lt (olt id o m1)
      · rw [rhoOld _ hi', e1, rhoNew]
        exact (Nat.ne_of_lt (olt id' o' m2)).symm
      · exact absurd (e1.trans e2.symm) hne
    · intro id o hid j hi
      rcases split id o hid with ⟨hlt, hid⟩ | ⟨rfl, rfl⟩
      · rw [rhoOld _ hlt] at hi
        exact h.hr.notI id o hid j hi
      · rw [rhoNew] at hi
        have := ilt _ _ hi
        omega
    · intro id o hid
      rcases split id o hid with ⟨hlt, hid⟩ | ⟨rfl, rfl⟩
      · rw [rhoOld _ hlt]
        exact h.hr.notO id o hid
      · rw [rhoNew]
        cases hO : g.O w.heap.size with
        | none => rfl
        | some oc =>
          have := h.hr.oLt _ _ hO
          omega
    · intro b j hi
      rw [cello b j (ilt b j hi)]
      exact h.hr.exI b j hi
    · intro b oc hb
      have := h.hr.oLt b oc hb
      show b < w'.heap.size
      rw [f1]
      omega
    · intro n v cv hv' hcv
      exact (h.er.rel n v cv hv' hcv).up u
    · intro n v cv hv' hcv
      exact okeep _ _ _ (h.er.own n v cv hv' hcv)
  refine ⟨g', ?_, rfl, rfl, rfl, rfl, by rw [f1]; omega, fun b hb _ _ => f2 b hb, u, fun b j _ _ _ hi => hi, fun b _ _ hO => hO, ?_⟩
  · have := hs.set d (v := .ptr s.hp.length 0) (cv := .pointer (some ⟨w.heap.size, 0, none⟩)) (by
      rw [← rhoNew]
      exact .ptr _ _ (by simp)) (by simp [OwnOK])
    exact this
  · intro id o hid
    rcases split id o hid with ⟨hlt, hid⟩ | ⟨rfl, rfl⟩
    · exact .inl ⟨o, hid⟩
    · exact .inr ⟨Nat.le_refl _, .inl (by rw [rhoNew]; exact Nat.le_refl _)⟩

theorem op_new {d : Nat} {zero : List V} (hc : chkMem P (.new d zero) m = true) (hs : step Γ (.new d zero) s = some (true, s')) (h : SR g s w a) (hn : Goes g s w a s' next) : m.wp P a w next Q := by
  obtain ⟨dst, op, ty, pos, aft, gd⟩ := m
  simp only [chkMem, Bool.and_eq_true, beq_iff_eq] at hc
  obtain ⟨rfl, hc⟩ := hc
  split at hc
  · rename_i t
    obtain ⟨i, z, hi, hz, hcs⟩ := zeroOK_facts hc
    obtain rfl : _ = s' := by simpa [step] using hs
    obtain ⟨k1, k2, k3⟩ := const1s_rel (I := g.I) (ρ := g.ρ) (N := s.hp.length) (w := w) hcs
    refine goes_at rfl (w' := w.alloc (.cells z.cells t)) (cv := .pointer (some ⟨w.heap.size, 0, none⟩)) ?_ (h.newObj zero z.cells t (by simpa using k1) k2 (fun i c cv hc hcv => k3 i c cv hc (by simpa using hcv)) (fun i c cv hc hcv _ => const1s_nil hcs i c cv hc (by simpa using hcv)) (const1s_noBn hcs) d) hn
    simp [execOp, Instr.alloc, zeroValue, typeInfo, hi, hz, newVar, newRow]
  · simp at hc

/-- a zero value with builders in it -/
def constB (t n : Nat) : V → Value → Bool
  | .bn E m, .pointer none => E == t && m == n
  | .bn _ _, _ => false
  | v, cv => const1 v cv

def constBs (t n : Nat) : List V → List Value → Bool
  | [], [] => true
  | v :: vs, c :: cs => constB t n v c && constBs t n vs cs
  | _, _ => false

def zeroB (P : Program) (t : TypeId) (zero : List V) : Bool := match P.info? t with | some i => (match i.zero with | some z => constBs t z.cells.size zero z.cells.toList | none => false) | none => false

theorem constBs_rel {I : Nat → Nat → Prop} {ρ : Nat → Nat} {N : Nat} {t n : Nat} : ∀ {cs : List V} {vs : List Value}, constBs t n cs vs = true → cs.length = vs.length ∧ (∀ c ∈ cs, c.one = true) ∧
    (∀ (i : Nat) c cv, cs[i]? = some c → vs[i]? = some cv → VRel I ρ N w c cv ∧ (noBn c = true → OwnNil c cv)) ∧ (∀ (j E m : Nat), cs[j]? = some (.bn E m) → E = t ∧ m = n ∧ vs[j]? = some (.pointer none))
  | [], [], _ => ⟨rfl, by simp, by simp, by simp⟩
  | v :: vs, c :: cs, h => by
    simp only [constBs, Bool.and_eq_true] at h
    obtain ⟨h1, h2⟩ := h
    obtain ⟨k1, k2, k3, k4⟩ := constBs_rel (I := I) (ρ := ρ) (N := N) h2
    have hv : v.one = true ∧ VRel I ρ N w v c ∧ (noBn v = true → OwnNil v c) ∧ (∀ E m, v = .bn E m → E = t ∧ m = n ∧ c = .pointer none) := by
      cases hb : noBn v with
      | true =>
        have hc1 : const1 v c = true := by
          unfold constB at h1
          split at h1
          · simp [noBn] at hb
          · simp at h1
          · exact h1
        obtain ⟨q1, q2⟩ := const1_rel (I := I) (ρ := ρ) (N := N) (w := w) hc1
        exact ⟨q2, q1, fun _ => const1_nil hc1, fun E m e => by subst e; simp [noBn] at hb⟩
      | false =>
        cases v <;> simp [noBn] at hb
        rename_i E m
        unfold constB at h1
        split at h1
        · rename_i E' m' e
          cases e
          simp only [Bool.and_eq_true, beq_iff_eq] at h1
          exact ⟨rfl, .bn _ _ _, by simp [noBn], fun E m e => by cases e; exact ⟨h1.1, h1.2, rfl⟩⟩
        · simp at h1
        · rename_i hno _
          exact absurd rfl (hno _ _)
    refine ⟨by simp [k1], ?_, ?_, ?_⟩
    · intro x hx
      rcases List.mem_cons.1 hx with rfl | hx
      · exact hv.1
      · exact k2 x hx
    · intro i x cv hx hcv
      cases i with
      | zero => simp at hx hcv; subst hx hcv; exact ⟨hv.2.1, hv.2.2.1⟩
      | succ i => exact k3 i x cv (by simpa using hx) (by simpa using hcv)
    · intro j E m hj
      cases j with
      | zero =>
        simp at hj
        obtain ⟨e1, e2, e3⟩ := hv.2.2.2 E m hj
        exact ⟨e1, e2, by simp [e3]⟩
      | succ j => simpa using k4 j E m (by simpa using hj)
  | [], _ :: _, h => by simp [constBs] at h
  | _ :: _, [], h => by simp [constBs] at h

def chkNewb (P : Program) (o : IOp) (m : Oper) : Bool :=
  match o with
  | .newb d zero => (m.dst == some d) && (match m.op with | .alloc t => zeroB P t zero | _ => false)
  | .boxb d _ E _ x => (m.dst == some d) && (match m.op with | .box t x' => E == t && srcOK x x' | _ => false)
  | _ => false

theorem op_newb {d : Nat} {zero : List V} (hc : chkNewb P (.newb d zero) m = true) (hs : step Γ (.newb d zero) s = some (true, s')) (h : SR g s w a) (hn : Goes g s w a s' next) : m.wp P a w next Q := by
  obtain ⟨dst, op, ty, pos, aft, gd⟩ := m
  simp only [chkNewb, Bool.and_eq_true, beq_iff_eq] at hc
  obtain ⟨rfl, hc⟩ := hc
  split at hc
  · rename_i t
    unfold zeroB at hc
    split at hc
    · rename_i i hi
      split at hc
      · rename_i z hz
        obtain rfl : _ = s' := by simpa [step] using hs
        obtain ⟨k1, k2, k3, k4⟩ := constBs_rel (I := g.I) (ρ := g.ρ) (N := s.hp.length) (w := w) hc
        refine goes_at rfl (w' := w.alloc (.cells z.cells t)) (cv := .pointer (some ⟨w.heap.size, 0, none⟩)) ?_ (h.newObj zero z.cells t (by simpa using k1) k2 (fun i c cv hc hcv => (k3 i c cv hc (by simpa using hcv)).1) (fun i c cv hc hcv => (k3 i c cv hc (by simpa using hcv)).2) (fun j E n hj => by simpa using k4 j E n hj) d) hn
        simp [execOp, Instr.alloc, zeroValue, typeInfo, hi, hz, newVar, newRow]
      · simp at hc
    · simp at hc
  · simp at hc

theorem op_boxb {d j E n : Nat} {x : ASrc} (hc : chkNewb P (.boxb d j E n x) m = true) (hs : step Γ (.boxb d j E n x) s = some (true, s')) (h : SR g s w a) (hn : Goes g s w a s' next) : m.wp P a w next Q := by
  obtain ⟨dst, op, ty, pos, aft, gd⟩ := m
  simp only [chkNewb, Bool.and_eq_true, beq_iff_eq] at hc
  obtain ⟨rfl, hc⟩ := hc
  split at hc
  · rename_i t y
    simp only [Bool.and_eq_true, beq_iff_eq] at hc
    obtain ⟨rfl, h1⟩ := hc
    have r1 := src_rel h1 h.er
    have hrun : (execOp a.eval ⟨some d, .box E y, ty, pos, aft, gd⟩).run P w = .ok (.value (.pointer (some ⟨w.heap.size, 0, none⟩))) (w.alloc (.cells (a.eval y).cells E)) := by
      simp [execOp, Instr.box, newVar, newRow]
    simp only [step] at hs
    split at hs
    · rename_i cs hx
      split at hs
      · rename_i hlen
        split at hs
        · rename_i hj
          obtain rfl : _ = s' := by simpa using hs
          rw [hx] at r1
          generalize a.eval y = cv at r1 hrun
          cases r1 with
          | agg _ vs hl e1 hb hv =>
            have hjl : j < cs.length := by
              rcases Nat.lt_or_ge j cs.length with h' | h'
              · exact h'
              · simp [List.getD, List.getElem?_eq_none h'] at hj
            have hcj : cs[j]? = some .nilp := by
              rw [List.getElem?_eq_getElem hjl]
              simpa [List.getD, List.getElem?_eq_getElem hjl] using hj
            have hvj : vs[j]? = some (.pointer none) := by
              have hlt : j < vs.size := by omega
              have := hv j _ vs[j] hcj (Array.getElem?_eq_getElem hlt)
              rw [Array.getElem?_eq_getElem hlt]
              generalize vs[j] = u at this
              cases this
              rfl
            have get : ∀ (i : Nat) c, (cs.set j (.bn E n))[i]? = some c → (i = j ∧ c = .bn E n) ∨ (i ≠ j ∧ cs[i]? = some c) := by
              intro i c hc
              rw [List.getElem?_set] at hc
              split at hc
              · rename_i e; subst e
                exact .inl ⟨rfl, (Option.some.inj hc).symm⟩
              · rename_i e
                exact .inr ⟨fun e' => e e'.symm, hc⟩
            have old : ∀ (i E' m : Nat), cs[i]? = some (.bn E' m) → False := by
              intro i E' m hi
              have hlt := (List.getElem?_eq_some_iff.1 hi).1
              have := hb i _ (vs[i]'(by omega)) hi (Array.getElem?_eq_getElem (by omega))
              simp [OwnNil] at this
            refine goes_at rfl hrun (h.newObj (cs.set j (.bn E n)) vs E (by simpa using hl) ?_ ?_ ?_ ?_ d) hn
            · intro c hc
              obtain ⟨i, hi, rfl⟩ := List.mem_iff_getElem.1 hc
              rcases get i _ (List.getElem?_eq_getElem hi) with ⟨_, e⟩ | ⟨_, e⟩
              · rw [e]; rfl
              · exact e1 _ (List.mem_of_getElem? e)
            · intro i c cv hc hcv
              rcases get i c hc with ⟨rfl, rfl⟩ | ⟨_, hc⟩
              · rw [hvj] at hcv
                cases hcv
                exact .bn _ _ _
              · exact hv i c cv hc hcv
            · intro i c cv hc hcv hnb
              rcases get i c hc with ⟨rfl, rfl⟩ | ⟨_, hc⟩
              · simp [noBn] at hnb
              · exact hb i c cv hc hcv
            · intro i E' m hc
              rcases get i _ hc with ⟨rfl, e⟩ | ⟨_, hc⟩
              · cases e
                exact ⟨rfl, by rw [← hl, hlen], hvj⟩
              · exact (old i E' m hc).elim
        · simp at hs
      · simp at hs
    · simp at hs
  · simp at hc

/-- the cells of a value -/
theorem cells_rel {I : Nat → Nat → Prop} {ρ : Nat → Nat} {N : Nat} {v : V} {cv : Value} (h : VRel I ρ N w v cv) (h1 : v.cells.all V.one = true) :
    v.cells.length = cv.cells.size ∧ (∀ c ∈ v.cells, c.one = true) ∧ ∀ (j : Nat) c u, v.cells[j]? = some c → cv.cells[j]? = some u → VRel I ρ N w c u := by
  have h1' : ∀ c ∈ v.cells, c.one = true := fun c hc => List.all_eq_true.1 h1 c hc
  have h' := h
  cases h with
  | agg cs us hl2 _ hb hv => exact ⟨by simpa [V.cells, Value.cells] using hl2, h1', by simpa [V.cells, Value.cells] using hv⟩
  | undef => simp [V.cells, V.one] at h1
  | tup => simp [V.cells, V.one] at h1
  | junk cv ho =>
    have hcell : cv.cells = #[cv] := by cases cv <;> simp [Value.oneCell'] at ho <;> rfl
    refine ⟨by simp [V.cells, hcell], h1', ?_⟩
    intro j c u h1 h2
    rw [hcell] at h2
    cases j with
    | zero =>
      simp [V.cells] at h1 h2
      subst h1 h2
      exact h'
    | succ j => simp [V.cells] at h1
  | _ =>
    refine ⟨by simp [V.cells, Value.cells], h1', ?_⟩
    intro j c u h1 h2
    cases j with
    | zero =>
      simp [V.cells, Value.cells] at h1 h2
      subst h1 h2
      exact h'
    | succ j => simp [V.cells] at h1

theorem op_box {d : Nat} {x : ASrc} (hc : chkMem P (.box d x) m = true) (hs : step Γ (.box d x) s = some (true, s')) (h : SR g s w a) (hn : Goes g s w a s' next) : m.wp P a w next Q := by
  obtain ⟨dst, op, ty, pos, aft, gd⟩ := m
  simp only [chkMem, Bool.and_eq_true, beq_iff_eq] at hc
  obtain ⟨rfl, hc⟩ := hc
  split at hc
  · rename_i t y
    simp only [Bool.and_eq_true] at hc
    obtain ⟨h1, h2⟩ := hc
    have r1 := src_rel h1 h.er
    have hrun : (execOp a.eval ⟨some d, .box t y, ty, pos, aft, gd⟩).run P w = .ok (.value (.pointer (some ⟨w.heap.size, 0, none⟩))) (w.alloc (.cells (a.eval y).cells t)) := by
      simp [execOp, Instr.box, newVar, newRow]
    simp only [step] at hs
    split at hs
    · rename_i cs hx
      obtain rfl : _ = s' := by simpa using hs
      rw [hx] at r1
      generalize a.eval y = cv at r1 hrun
      cases r1 with
      | agg _ vs hl e1 hb hv =>
        exact goes_at rfl hrun (h.newObj cs vs t hl e1 hv (fun i c cv hc hcv _ => hb i c cv hc hcv) (nil_noBn hl hb) d) hn
    · rename_i v hx hna
      split at hs
      · rename_i hone
        obtain rfl : _ = s' := by simpa using hs
        have hcell : (a.eval y).cells = #[a.eval y] := by
          have := r1.oneCell hone
          cases hh : a.eval y <;> rw [hh] at this <;> simp [Value.oneCell'] at this <;> rfl
        rw [hcell] at hrun
        refine goes_at rfl hrun (h.newObj [disown (x.ev s)] #[a.eval y] t rfl (by simpa [disown_one] using hone) ?_ ?_ ?_ d) hn
        · intro i c cv hc hcv
          cases i with
          | zero => simp at hc hcv; subst hc hcv; exact r1.disown
          | succ i => simp at hc
        · intro i c cv hc hcv
          cases i with
          | zero => intro _; simp at hc hcv; subst hc hcv; exact disown_nil _ _
          | succ i => simp at hc
        · intro j E n hj
          cases j with
          | zero => simp at hj; cases hh : x.ev s <;> rw [hh] at hj <;> simp [disown] at hj
          | succ j => simp at hj
      · simp at hs
  · simp at hc

/-- a source's value, and what it owns -/
theorem src_take {x : ASrc} {y : Operand} {q : Occ} (hy : srcOK x y = true) (h : SR g s w a) :
    ∃ g₁, SR g₁ (x.after s) w a ∧ FR g s.hp w g₁ s.hp w ∧ g₁.I = g.I ∧ g₁.ρ = g.ρ ∧ OwnOK g₁ w q (x.ev s) (a.eval y) := by
  cases x with
  | t n => exact ⟨g, h, FR.refl _ _ _, rfl, rfl, OwnOK.disown _ _ _ _ _⟩
  | c v =>
    refine ⟨g, h, FR.refl _ _ _, rfl, rfl, ?_⟩
    unfold srcOK at hy
    split at hy
    · rename_i e; cases e
    · rename_i e; cases e
    · rename_i e; cases e; exact constOK_own hy _
    · rename_i e; cases e; simp [ASrc.ev, OwnOK]
    · simp at hy
  | tk n =>
    have hy' : y = .tmp n := by
      unfold srcOK at hy
      split at hy
      · rename_i e; cases e
      · rename_i k e; cases e; rw [show k = n by simpa using (beq_iff_eq.1 hy).symm]
      · rename_i e; cases e
      · rename_i e; cases e
      · simp at hy
    subst hy'
    have ho := h.er.getOwn n
    obtain ⟨g₁, h1, h2, h3, h4, h5⟩ := take_own (q := q) (h.after (.tk n)) (after_bared n s) ho
    exact ⟨g₁, h1, by simpa [after_hp] using h2, h3, h4, h5⟩

/-- an object's cells, written over -/
theorem SR.putCells (h : SR g s w a) {id o : Nat} {cs news : List V} {us : List Value} (ho : s.obj id = some cs) (hl : news.length = us.length) (h1 : ∀ c ∈ news, c.one = true)
    (hle : o + news.length ≤ cs.length) (hv : ∀ (i : Nat) c cv, news[i]? = some c → us[i]? = some cv → VRel g.I g.ρ s.hp.length w c cv)
    (hown : ∀ (i : Nat) c cv, news[i]? = some c → us[i]? = some cv → OwnOK g w (.cell id (o + i)) c cv) (hnb : ∀ (i E n : Nat), news[i]? = some (.bn E n) → cs[o + i]? = some (.bn E n) ∧ (us[i]? = some (.pointer none) ∨ us[i]? = some (.pointer (some ⟨g.ρ id, o + i, none⟩)))) :
    SR g (s.setObj id (cs.take o ++ news ++ cs.drop (o + news.length))) (w.setCells (g.ρ id) o us) a ∧
      FR g s.hp w g (s.hp.set id (some (cs.take o ++ news ++ cs.drop (o + news.length)))) (w.setCells (g.ρ id) o us) := by
  obtain ⟨hid, hrow⟩ := mem_obj ho
  obtain ⟨arr, e, hb, hok⟩ := obj_row h.hr ho
  obtain ⟨⟨arr', q1, q2⟩, q3, q4, q5, q6, q7⟩ := setCells_heap (g.ρ id) us o w arr e (0, 0) hb
  let w' := w.setCells (g.ρ id) o us
  let cs' := cs.take o ++ news ++ cs.drop (o + news.length)
  have hlen := hok.len
  have ilt : ∀ b j, g.I b j → b ≠ g.ρ id := by
    rintro b j hi rfl
    exact h.hr.notI id cs hid j hi
  have cello : ∀ b j, g.I b j → w'.cell? ⟨b, j, none⟩ = w.cell? ⟨b, j, none⟩ := by
    intro b j hi
    exact World.cell?_setCells_out _ us o w _ (fun e => absurd e (ilt b j hi))
  have u : Up g.I g.ρ s.hp.length w g.I g.ρ s.hp.length w' := ⟨fun _ _ h => h, cello, fun _ _ => rfl, Nat.le_refl _⟩
  have okeep : ∀ occ v cv, OwnOK g w occ v cv → OwnOK g w' occ v cv := by
    intro occ v cv hoo
    refine own_keep hoo rfl (fun b j hi => ⟨u.mono b j hi, u.cell b j hi⟩) ?_
    intro b hbo
    refine ⟨hbo, q3 b ?_, fun j hj => hj⟩
    rintro rfl
    rw [h.hr.notO id cs hid] at hbo
    simp at hbo
  have harr : ∀ j, arr'[j]? = if o ≤ j ∧ j < o + us.length then us[j - o]? else arr[j]? := by
    intro j
    rw [← cell_of_heap q1 j]
    split
    · rename_i hj
      have := World.cell?_setCells_in (g.ρ id) us o w (fun j' hj' => by rw [cell_of_heap hb, Array.getElem?_eq_getElem (by omega)]; rfl) (j - o) (by omega)
      rw [show o + (j - o) = j by omega] at this
      rw [this, List.getElem?_eq_getElem]
    · rename_i hj
      rw [World.cell?_setCells_out _ us o w _ (fun _ _ => by simp only; omega), cell_of_heap hb]
  have hcs : ∀ j, cs'[j]? = if o ≤ j ∧ j < o + news.length then news[j - o]? else cs[j]? := by
    intro j
    have ht : (cs.take o).length = o := by simp; omega
    simp only [cs']
    split
    · rename_i hj
      rw [List.append_assoc, List.getElem?_append_right (by omega), ht, List.getElem?_append_left (by omega)]
    · rename_i hj
      rcases Nat.lt_or_ge j o with h' | h'
      · rw [List.append_assoc, List.getElem?_append_left (by omega), List.getElem?_take, if_pos h']
      · rw [List.getElem?_append_right (by simp; omega), List.getElem?_drop]
        congr 1
        simp
        omega
  have hcl : cs'.length = cs.length := by simp [cs']; omega
  have hmem : ∀ c ∈ cs', c.one = true := by
    intro c hc
    simp only [cs', List.mem_append] at hc
    rcases hc with (hc | hc) | hc
    · exact hok.one c (List.mem_of_mem_take hc)
    · exact h1 c hc
    · exact hok.one c (List.mem_of_mem_drop hc)
  have hlt : id < s.hp.length := (List.getElem?_eq_some_iff.1 hid).1
  have split : ∀ (id' : Nat) o', (s.hp.set id (some cs'))[id']? = some (some o') → (id' = id ∧ o' = cs') ∨ (id' ≠ id ∧ s.hp[id']? = some (some o')) := by
    intro id' o' hq
    rw [List.getElem?_set] at hq
    split at hq
    · rename_i e
      simp [hlt] at hq
      exact .inl ⟨e.symm, hq.symm⟩
    · rename_i e
      exact .inr ⟨fun e' => e e'.symm, hq⟩
  have old : ∀ (id' : Nat) o', (s.hp.set id (some cs'))[id']? = some (some o') → ∃ o'', s.hp[id']? = some (some o'') := by
    intro id' o' hq
    rcases split id' o' hq with ⟨rfl, _⟩ | ⟨_, hq⟩
    · exact ⟨cs, hid⟩
    · exact ⟨_, hq⟩
  refine ⟨⟨⟨?_, ?_, ?_, ?_, ?_, ?_⟩, ⟨h.er.size, ?_, ?_⟩⟩, ⟨rfl, q5, q6, q7, by rw [q4]; exact Nat.le_refl _, ?_, ?_, fun _ _ _ _ _ hi => hi, fun _ _ _ hO => hO, ?_⟩⟩
  · intro id' o' hq
    simp only [St.setObj, List.length_set]
    rcases split id' o' hq with ⟨rfl, rfl⟩ | ⟨hne, hq⟩
    · refine ⟨arr', e, (0, 0), q1, ObjOK0.high ⟨by rw [hcl, q2, hlen], hmem, ?_, ?_, ?_⟩⟩
      · intro j c cv hc hcv
        rw [hcs] at hc
        rw [harr] at hcv
        rw [← hl] at hcv
        split at hc
        · rename_i hj
          rw [if_pos hj] at hcv
          exact (hv _ c cv hc hcv).up u
        · rename_i hj
          rw [if_neg hj] at hcv
          exact (hok.rel j c cv hc hcv).up u
      · intro j c cv hc hcv
        rw [hcs] at hc
        rw [harr] at hcv
        rw [← hl] at hcv
        split at hc
        · rename_i hj
          rw [if_pos hj] at hcv
          have := hown _ c cv hc hcv
          rw [show o + (j - o) = j by omega] at this
          exact okeep _ _ _ this
        · rename_i hj
          rw [if_neg hj] at hcv
          exact okeep _ _ _ (hok.own j c cv hc hcv)
      · intro j E n hc
        rw [hcs] at hc
        split at hc
        · rename_i hj
          obtain ⟨m1, m2⟩ := hnb _ E n hc
          rw [show o + (j - o) = j by omega] at m1 m2
          obtain ⟨m3, m4, -⟩ := hok.bn j E n m1
          refine ⟨m3, by rw [q2]; exact m4, ?_⟩
          rw [harr, ← hl, if_pos hj]
          exact m2
        · rename_i hj
          rw [harr, ← hl, if_neg hj, q2]
          exact hok.bn j E n hc
    · obtain ⟨arr2, e2, fz, k1, k2⟩ := h.hr.obj id' o' hq
      refine ⟨arr2, e2, fz, ?_, k2.len, k2.plain, k2.typedUp rfl u.rho u.num rfl, k2.cold, k2.one, fun j c cv hc hcv => (k2.rel j c cv hc hcv).up u, fun j c cv hc hcv => okeep _ _ _ (k2.own j c cv hc hcv), k2.bn⟩
      rw [q3 _ (h.hr.apart id' id o' cs hq hid hne)]
      exact k1
  · intro id1 id2 c1 c2 k1 k2 hne
    obtain ⟨_, k1⟩ := old id1 c1 k1
    obtain ⟨_, k2⟩ := old id2 c2 k2
    exact h.hr.apart _ _ _ _ k1 k2 hne
  · intro id1 c1 k1
    obtain ⟨_, k1⟩ := old id1 c1 k1
    exact h.hr.notI _ _ k1
  · intro id1 c1 k1
    obtain ⟨_, k1⟩ := old id1 c1 k1
    exact h.hr.notO _ _ k1
  · intro b j hi
    have := cello b j hi
    rw [this]
    exact h.hr.exI b j hi
  · intro b oc hbo
    rw [q4]
    exact h.hr.oLt b oc hbo
  · intro n v cv hq hcv
    simp only [St.setObj, List.length_set]
    exact (h.er.rel n v cv hq hcv).up u
  · intro n v cv hq hcv
    exact okeep _ _ _ (h.er.own n v cv hq hcv)
  · intro b _ hno _
    exact q3 b (fun e => hno id cs hid e.symm)
  · simp only [List.length_set]
    exact u
  · intro id' o' hq
    obtain ⟨o'', hq⟩ := old id' o' hq
    exact .inl ⟨o'', hq⟩

/-- an object's cell owns nothing any more -/
theorem SR.bareCell (h : SR g s w a) {id o : Nat} {cs : List V} (ho : s.obj id = some cs) :
    SR g (s.setObj id (cs.set o (disown (cs.getD o .undef)))) w a ∧ FR g s.hp w g (s.hp.set id (some (cs.set o (disown (cs.getD o .undef))))) w := by
  obtain ⟨hid, hrow⟩ := mem_obj ho
  have hlt : id < s.hp.length := (List.getElem?_eq_some_iff.1 hid).1
  let cs' := cs.set o (disown (cs.getD o .undef))
  have split : ∀ (id' : Nat) o', (s.hp.set id (some cs'))[id']? = some (some o') → (id' = id ∧ o' = cs') ∨ (id' ≠ id ∧ s.hp[id']? = some (some o')) := by
    intro id' o' hq
    rw [List.getElem?_set] at hq
    split at hq
    · rename_i e
      simp [hlt] at hq
      exact .inl ⟨e.symm, hq.symm⟩
    · rename_i e
      exact .inr ⟨fun e' => e e'.symm, hq⟩
  have old : ∀ (id' : Nat) o', (s.hp.set id (some cs'))[id']? = some (some o') → ∃ o'', s.hp[id']? = some (some o'') := by
    intro id' o' hq
    rcases split id' o' hq with ⟨rfl, _⟩ | ⟨_, hq⟩
    · exact ⟨cs, hid⟩
    · exact ⟨_, hq⟩
  have hget : ∀ (j : Nat) c, cs'[j]? = some c → ∃ c', cs[j]? = some c' ∧ (c = c' ∨ c = disown c') := by
    intro j c hc
    simp only [cs', List.getElem?_set] at hc
    split at hc
    · rename_i e
      subst e
      split at hc
      · rename_i hlo
        refine ⟨cs[o], List.getElem?_eq_getElem hlo, .inr ?_⟩
        simp only [Option.some.injEq] at hc
        rw [← hc]
        simp [List.getD, List.getElem?_eq_getElem hlo]
      · simp at hc
    · exact ⟨c, hc, .inl rfl⟩
  refine ⟨⟨⟨?_, ?_, ?_, ?_, h.hr.exI, h.hr.oLt⟩, ⟨h.er.size, ?_, h.er.own⟩⟩, ⟨rfl, rfl, rfl, rfl, Nat.le_refl _, fun _ _ _ _ => rfl, ?_, fun _ _ _ _ _ hi => hi, fun _ _ _ hO => hO, ?_⟩⟩
  · intro id' o' hq
    simp only [St.setObj, List.length_set]
    rcases split id' o' hq with ⟨rfl, rfl⟩ | ⟨hne, hq⟩
    · obtain ⟨arr, e, hb, hok⟩ := obj_row h.hr ho
      refine ⟨arr, e, (0, 0), hb, ObjOK0.high ⟨by simp [cs', hok.len], ?_, ?_, ?_, ?_⟩⟩
      · intro c hc
        obtain ⟨j, hj, rfl⟩ := List.mem_iff_getElem.1 hc
        obtain ⟨c', k1, k2⟩ := hget j _ (List.getElem?_eq_getElem hj)
        have := hok.one c' (List.mem_of_getElem? k1)
        rcases k2 with k2 | k2 <;> rw [k2]
        · exact this
        · rw [disown_one]; exact this
      · intro j c cv hc hcv
        obtain ⟨c', k1, k2⟩ := hget j _ hc
        have := hok.rel j c' cv k1 hcv
        rcases k2 with k2 | k2 <;> rw [k2]
        · exact this
        · exact this.disown
      · intro j c cv hc hcv
        obtain ⟨c', k1, k2⟩ := hget j _ hc
        have := hok.own j c' cv k1 hcv
        rcases k2 with k2 | k2 <;> rw [k2]
        · exact this
        · exact OwnOK.disown _ _ _ _ _
      · intro j E n hc
        obtain ⟨c', k1, k2⟩ := hget j _ hc
        rcases k2 with k2 | k2
        · exact hok.bn j E n (by rw [k2]; exact k1)
        · cases c' <;> simp [disown] at k2
    · exact h.hr.obj id' o' hq
  · intro id1 id2 c1 c2 k1 k2 hne
    obtain ⟨_, k1⟩ := old id1 c1 k1
    obtain ⟨_, k2⟩ := old id2 c2 k2
    exact h.hr.apart _ _ _ _ k1 k2 hne
  · intro id1 c1 k1
    obtain ⟨_, k1⟩ := old id1 c1 k1
    exact h.hr.notI _ _ k1
  · intro id1 c1 k1
    obtain ⟨_, k1⟩ := old id1 c1 k1
    exact h.hr.notO _ _ k1
  · intro n v cv hq hcv
    simp only [St.setObj, List.length_set]
    exact h.er.rel n v cv hq hcv
  · simp only [List.length_set]
    exact Up.refl _ _ _ _
  · intro id' o' hq
    obtain ⟨o'', hq⟩ := old id' o' hq
    exact .inl ⟨o'', hq⟩

theorem op_ldTake {d n : Nat} {agg : Bool} {x : ASrc} (hc : chkMem P (.ld d n agg true x) m = true) (hs : step Γ (.ld d n agg true x) s = some (true, s')) (h : SR g s w a) (hn : Goes g s w a s' next) : m.wp P a w next Q := by
  obtain ⟨dst, op, ty, pos, aft, gd⟩ := m
  simp only [chkMem, Bool.and_eq_true, beq_iff_eq] at hc
  obtain ⟨rfl, hc⟩ := hc
  split at hc
  · rename_i t x'
    simp only [Bool.and_eq_true, beq_iff_eq, Bool.not_eq_true'] at hc
    obtain ⟨h1, h2, ⟨rfl, rfl⟩, h4⟩ := hc
    have r1 := src_rel h4 h.er
    simp only [step] at hs
    split at hs
    · rename_i cs hx
      have hpure : chkPure P (.ld d 1 false false x) ⟨some d, .load t x', ty, pos, aft, gd⟩ = true := by
        simp [chkPure, h1, h2, h4]
      refine op_ld (Γ := Γ) hpure ?_ h hn
      simp only [step, hx]
      exact hs
    · rename_i id o hx
      split at hs
      · rename_i cs ho
        split at hs
        · rename_i hle
          simp only [if_true] at hs
          cases hnb : noBn (cs.getD o .undef) with
          | false => rw [hnb] at hs; simp at hs
          | true =>
          rw [hnb] at hs
          simp only [if_true] at hs
          obtain rfl : _ = s' := by simpa using hs
          rw [hx] at r1
          generalize hcv : a.eval x' = cv at r1
          cases r1 with
          | ptr _ _ hid =>
            obtain ⟨arr, e, hb, hok⟩ := obj_row h.hr ho
            have hlen := hok.len
            have hlo : o < cs.length := by omega
            have hla : o < arr.size := by omega
            have hrun := run_load_row (P := P) (w := w) (b := g.ρ id) (o := o) (vs := [arr[o]]) h1 h2 (.inr rfl) rfl (fun j v hj => by
              cases j with
              | zero => simp at hj; subst hj; rw [cell_of_heap hb]; simp [hla]
              | succ j => simp at hj)
            have hc1 : cs[o]? = some cs[o] := List.getElem?_eq_getElem hlo
            have hc2 : arr[o]? = some arr[o] := Array.getElem?_eq_getElem hla
            obtain ⟨b1, b2⟩ := h.bareCell (o := o) ho
            obtain ⟨g₁, t1, t2, t3, t4, t5⟩ := take_own (q := .slot d) b1 (p := .cell id o) (by
              intro cs' v hcs' hv'
              simp only [St.setObj] at hcs'
              rw [List.getElem?_set_self (List.getElem?_eq_some_iff.1 (mem_obj ho).1).1] at hcs'
              simp only [Option.some.injEq] at hcs'
              subst hcs'
              rw [List.getElem?_set_self hlo] at hv'
              simp only [Option.some.injEq] at hv'
              subst hv'
              exact disown_bare _) (hok.own o _ _ hc1 hc2)
            have hrun' : (Instr.loadAt t (.pointer (some ⟨g.ρ id, o, none⟩))).run P w = .ok arr[o] w := hrun
            refine goes_at rfl (cv := arr[o]) (w' := w) (by simp [execOp, hcv, hrun']) ⟨g₁, ?_, ?_⟩ hn
            · have hl : loaded false ((cs.drop o).take 1) = cs[o] := by
                rw [List.drop_eq_getElem_cons hlo]
                rfl
              rw [hl]
              refine t1.set d ?_ t5
              rw [t3, t4]
              simpa [St.setObj] using hok.rel o _ _ hc1 hc2
            · exact b2.trans (by simpa [St.set, St.setObj] using t2)
        · simp at hs
      · simp at hs
    · simp at hs
  · simp at hc

theorem op_st {d : Option Nat} {n : Nat} {x v : ASrc} (hc : chkMem P (.st d n x v) m = true) (hs : step Γ (.st d n x v) s = some (true, s')) (h : SR g s w a) (hn : Goes g s w a s' next) : m.wp P a w next Q := by
  obtain ⟨dst, op, ty, pos, aft, gd⟩ := m
  simp only [chkMem, Bool.and_eq_true, beq_iff_eq] at hc
  obtain ⟨rfl, hc⟩ := hc
  split at hc
  · rename_i t x' v'
    simp only [Bool.and_eq_true, beq_iff_eq] at hc
    obtain ⟨h1, h2, h3⟩ := hc
    have r1 := src_rel h2 h.er
    have r2 := src_rel h3 h.er
    simp only [step] at hs
    split at hs
    · rename_i id o hx
      split at hs
      · rename_i cs ho
        split at hs
        · rename_i hcond
          simp only [Bool.and_eq_true, beq_iff_eq, decide_eq_true_eq] at hcond
          obtain ⟨⟨hln, hone⟩, hle, hnb⟩ := hcond
          obtain rfl : _ = s' := by simpa using hs
          rw [hx] at r1
          generalize hcx : a.eval x' = cx at r1
          cases r1 with
          | ptr _ _ hid =>
            obtain ⟨arr, e, hb, hok⟩ := obj_row h.hr ho
            have hlen := hok.len
            obtain ⟨c1, c2, c3⟩ := cells_rel r2 hone
            have hsz : (a.eval v').cells.size = n := by rw [← c1]; exact hln
            have hrun : (execOp a.eval ⟨dst, .store t x' v', ty, pos, aft, gd⟩).run P w = .ok .skip (w.setCells (g.ρ id) o (a.eval v').cells.toList) := by
              have := run_storeCells_cells (P := P) (g.ρ id) o (a.eval v').cells.toList 0 w
                (fun j hj => by rw [cell_of_heap hb, Array.getElem?_eq_getElem (by simp at hj; omega)]; rfl)
                (fun j hj => by simp [World.frozen?, hb])
                (fun u hu => by
                  obtain ⟨j, hj, rfl⟩ := List.mem_iff_getElem.1 hu
                  have hj' : j < (v.ev s).cells.length := by rw [c1]; simpa using hj
                  exact (c3 j _ _ (List.getElem?_eq_getElem hj') (by simp)).oneCell (c2 _ (List.getElem_mem hj')))
              simp [execOp, hcx, Instr.storeAt, Instr.sureAddr, storeVar, run_sizeT h1, hsz, this]
            -- who owns what is stored
            have key : ∃ g₁, SR g₁ (v.after s) w a ∧ FR g s.hp w g₁ s.hp w ∧ g₁.I = g.I ∧ g₁.ρ = g.ρ ∧
                ∀ (i : Nat) c cv, (v.ev s).cells[i]? = some c → (a.eval v').cells.toList[i]? = some cv → OwnOK g₁ w (.cell id (o + i)) c cv := by
              by_cases hag : ∃ cs, v.ev s = .agg cs
              · obtain ⟨cs2, hag⟩ := hag
                refine ⟨g, h.after v, FR.refl _ _ _, rfl, rfl, ?_⟩
                rw [hag] at r2
                generalize a.eval v' = cv2 at r2
                cases r2 with
                | agg _ vs2 _ _ hb2 _ =>
                  intro i c cv hc hcv
                  rw [hag] at hc
                  exact (hb2 i c cv (by simpa [V.cells] using hc) (by simpa [Value.cells] using hcv)).own _ _ _
              · have hcell : (v.ev s).cells = [v.ev s] := by
                  cases hh : v.ev s <;> first | rfl | (rw [hh] at hag; exact absurd ⟨_, rfl⟩ hag)
                obtain ⟨g₁, k1, k2, k3, k4, k5⟩ := src_take (q := .cell id o) h3 h
                refine ⟨g₁, k1, k2, k3, k4, ?_⟩
                have hone' : (v.ev s).one = true := c2 _ (by rw [hcell]; exact List.mem_singleton.2 rfl)
                have hcell2 : (a.eval v').cells = #[a.eval v'] := by
                  have := r2.oneCell hone'
                  cases hh : a.eval v' <;> rw [hh] at this <;> simp [Value.oneCell'] at this <;> rfl
                intro i c cv hc hcv
                rw [hcell] at hc
                rw [hcell2] at hcv
                cases i with
                | zero => simp at hc hcv; subst hc hcv; exact k5
                | succ i => simp at hc
            obtain ⟨g₁, k1, k2, k3, k4, k5⟩ := key
            have ho' : (v.after s).obj id = some cs := by unfold St.obj; rw [after_hp]; exact ho
            have hrho : g₁.ρ id = g.ρ id := by rw [k4]
            obtain ⟨p1, p2⟩ := k1.putCells (o := o) (news := (v.ev s).cells) (us := (a.eval v').cells.toList) ho' (by simpa using c1) c2 (by omega)
              (fun i c cv hc hcv => by rw [k3, k4, after_hp]; exact c3 i c cv hc (by simpa using hcv)) k5 (fun i E n hi => absurd (List.all_eq_true.1 hnb _ (List.mem_of_getElem? hi)) (by simp [noBn]))
            rw [hrho, hln, List.append_assoc] at p1 p2
            unfold Oper.wp Oper.upon
            rw [hrun]
            cases dst with
            | none =>
              refine hn _ _ g₁ p1 ?_ rfl
              refine k2.trans ?_
              simpa [St.setObj, St.setO, after_hp] using p2
            | some d =>
              refine hn _ _ g₁ (p1.set d (.undef _) (by simp [OwnOK])) ?_ rfl
              refine k2.trans ?_
              simpa [St.setObj, St.setO, St.set, after_hp] using p2
        · simp at hs
      · simp at hs
    · simp at hs
  · simp at hc

theorem over_get {α : Type} (l news : List α) (o : Nat) (hle : o + news.length ≤ l.length) (j : Nat) :
    (l.take o ++ news ++ l.drop (o + news.length))[j]? = if o ≤ j ∧ j < o + news.length then news[j - o]? else l[j]? := by
  have ht : (l.take o).length = o := by simp; omega
  split
  · rename_i hj
    rw [List.append_assoc, List.getElem?_append_right (by omega), ht, List.getElem?_append_left (by omega)]
  · rename_i hj
    rcases Nat.lt_or_ge j o with h' | h'
    · rw [List.append_assoc, List.getElem?_append_left (by omega), List.getElem?_take, if_pos h']
    · rw [List.getElem?_append_right (by simp; omega), List.getElem?_drop]
      congr 1
      simp
      omega

/-- cells of a struct that is being built -/
structure Row (I : Nat → Nat → Prop) (ρ : Nat → Nat) (N : Nat) (w : World) (cs : List V) (us : List Value) : Prop where
  len : cs.length = us.length
  one : ∀ c ∈ cs, c.one = true
  rel : ∀ (i : Nat) c cv, cs[i]? = some c → us[i]? = some cv → VRel I ρ N w c cv
  nil : ∀ (i : Nat) c cv, cs[i]? = some c → us[i]? = some cv → OwnNil c cv

theorem Row.over {I : Nat → Nat → Prop} {ρ : Nat → Nat} {N : Nat} {cs news : List V} {us vs : List Value} (h : Row I ρ N w cs us) (k : Row I ρ N w news vs) (o : Nat) (hle : o + news.length ≤ cs.length) :
    Row I ρ N w (cs.take o ++ news ++ cs.drop (o + news.length)) (us.take o ++ vs ++ us.drop (o + vs.length)) := by
  have hl := h.len
  have kl := k.len
  have g1 := over_get cs news o hle
  have g2 := over_get us vs o (by omega)
  refine ⟨by simp; omega, ?_, ?_, ?_⟩
  · intro c hc
    simp only [List.mem_append] at hc
    rcases hc with (hc | hc) | hc
    · exact h.one c (List.mem_of_mem_take hc)
    · exact k.one c hc
    · exact h.one c (List.mem_of_mem_drop hc)
  · intro i c cv hc hcv
    rw [g1] at hc
    rw [g2, ← kl] at hcv
    split at hc
    · rename_i hj
      rw [if_pos hj] at hcv
      exact k.rel _ _ _ hc hcv
    · rename_i hj
      rw [if_neg hj] at hcv
      exact h.rel _ _ _ hc hcv
  · intro i c cv hc hcv
    rw [g1] at hc
    rw [g2, ← kl] at hcv
    split at hc
    · rename_i hj
      rw [if_pos hj] at hcv
      exact k.nil _ _ _ hc hcv
    · rename_i hj
      rw [if_neg hj] at hcv
      exact h.nil _ _ _ hc hcv

theorem places_of (fs : List Field) (h : fs.all (fun f => (P.info? f.type).isSome) = true) :
    ∃ places, fs.mapM (fun f => (P.info? f.type).map fun i => (f.offset, i.size)) = some places ∧ ∀ (i : Nat) f n, fs[i]? = some f → sizeT P f.type = some n → places[i]? = some (f.offset, n) := by
  induction fs with
  | nil => exact ⟨[], rfl, by simp⟩
  | cons f fs ih =>
    simp only [List.all_cons, Bool.and_eq_true] at h
    obtain ⟨places, h1, h2⟩ := ih h.2
    obtain ⟨i, hi⟩ := Option.isSome_iff_exists.1 h.1
    refine ⟨(f.offset, i.size) :: places, by simp [List.mapM_cons, hi, h1], ?_⟩
    intro j f' n hf hn
    cases j with
    | zero =>
      simp at hf
      subst hf
      simp [sizeT, hi] at hn
      simp [hn]
    | succ j => exact h2 j f' n (by simpa using hf) hn

theorem lay_fill (h : SR g s w a) {fs : Array Field} {places : Nat → Option (Nat × Nat)} (hp : ∀ (i : Nat) f n, fs[i]? = some f → sizeT P f.type = some n → places i = some (f.offset, n)) :
    ∀ (ps : List (Nat × Nat × ASrc)) (qs : List (Nat × Operand)) (cs cs' : List V) (arr : Array Value), bparts P fs ps qs = true → Row g.I g.ρ s.hp.length w cs arr.toList →
      lay cs (ps.map fun (off, n, x) => (off, n, x.ev s)) = some cs' → ∃ arr', Instr.fill places arr (qs.map fun (i, y) => (i, a.eval y)) = some arr' ∧ Row g.I g.ρ s.hp.length w cs' arr'.toList
  | [], [], cs, cs', arr, _, hr, hl => by
    simp [lay] at hl
    subst hl
    exact ⟨arr, by simp [Instr.fill], hr⟩
  | (off, n, x) :: ps, (i, y) :: qs, cs, cs', arr, hb, hr, hl => by
    simp only [bparts, Bool.and_eq_true] at hb
    obtain ⟨hb1, hb2, hb3⟩ := hb
    split at hb1
    · rename_i f hf
      simp only [Bool.and_eq_true, beq_iff_eq] at hb1
      obtain ⟨rfl, hn⟩ := hb1
      simp only [List.map_cons, lay] at hl
      split at hl
      · rename_i hcond
        simp only [Bool.and_eq_true, beq_iff_eq, decide_eq_true_eq] at hcond
        obtain ⟨⟨hln, hone⟩, hle⟩ := hcond
        obtain ⟨c1, c2, c3⟩ := cells_rel (src_rel hb2 h.er) hone
        have hrow : Row g.I g.ρ s.hp.length w ((x.ev s).cells.map disown) (a.eval y).cells.toList := by
          refine ⟨by simp [c1], ?_, ?_, ?_⟩
          · intro c hc
            obtain ⟨c', hc', rfl⟩ := List.mem_map.1 hc
            rw [disown_one]; exact c2 c' hc'
          · intro j c cv hc hcv
            rw [List.getElem?_map, Option.map_eq_some_iff] at hc
            obtain ⟨c', hc', rfl⟩ := hc
            exact (c3 j _ _ hc' (by simpa using hcv)).disown
          · intro j c cv hc _
            rw [List.getElem?_map, Option.map_eq_some_iff] at hc
            obtain ⟨c', hc', rfl⟩ := hc
            exact disown_nil _ _
        have hsz : (a.eval y).cells.size = n := by rw [← c1]; exact hln
        have harr : arr.size = cs.length := by have := hr.len; simpa using this.symm
        have hst := foldl_set (a.eval y).cells.toList f.offset 0 arr (by simp [hsz]; omega)
        simp only [Nat.add_zero, Array.length_toList] at hst
        have hrow' := hr.over hrow f.offset (by simp [hln]; omega)
        simp only [List.length_map, hln, Array.length_toList] at hrow'
        rw [← hst] at hrow'
        obtain ⟨arr', k1, k2⟩ := lay_fill h hp ps qs _ cs' _ hb3 hrow' hl
        refine ⟨arr', ?_, k2⟩
        simp only [List.map_cons, Instr.fill, hp i f n hf hn, hsz]
        rw [if_neg (by simp; omega)]
        rw [← k1]
        congr 1
        rw [← Array.foldl_toList, Array.toList_zipIdx]
      · simp at hl
    · simp at hb1
  | [], _ :: _, _, _, _, hb, _, _ => by simp [bparts] at hb
  | _ :: _, [], _, _, _, hb, _, _ => by simp [bparts] at hb

theorem op_bld {d : Nat} {zero : List V} {ps : List (Nat × Nat × ASrc)} (hc : chkMem P (.bld d zero ps) m = true) (hs : step Γ (.bld d zero ps) s = some (true, s')) (h : SR g s w a) (hn : Goes g s w a s' next) : m.wp P a w next Q := by
  obtain ⟨dst, op, ty, pos, aft, gd⟩ := m
  simp only [chkMem, Bool.and_eq_true, beq_iff_eq] at hc
  obtain ⟨rfl, hc⟩ := hc
  split at hc
  · rename_i t qs
    simp only [Bool.and_eq_true] at hc
    obtain ⟨h1, h2⟩ := hc
    split at h2
    · rename_i fs u1
      simp only [Bool.and_eq_true] at h2
      obtain ⟨h2, h3⟩ := h2
      obtain ⟨i, z, hi, hz, hcs⟩ := zeroOK_facts h1
      obtain ⟨k1, k2, k3⟩ := const1s_rel (I := g.I) (ρ := g.ρ) (N := s.hp.length) (w := w) hcs
      obtain ⟨places, e1, e2⟩ := places_of (P := P) fs.toList (by simpa using h3)
      simp only [step, Option.map_eq_some_iff] at hs
      obtain ⟨cs', hl, hs⟩ := hs
      obtain rfl : _ = s' := by simpa using hs
      obtain ⟨arr', f1, f2⟩ := lay_fill (P := P) (fs := fs) (places := fun i => places.toArray[i]?) h (fun i f n hf hn => by simpa using e2 i f n (by simpa using hf) hn) ps qs.toList zero cs' z.cells h2 ⟨k1, k2, k3, fun i c cv hc hcv => const1s_nil hcs i c cv hc hcv⟩ hl
      have hrun := run_build (P := P) w t (qs.map fun (i, y) => (i, a.eval y)) arr' (by
        simp only [Program.built, hi, u1, hz, e1]
        simpa using f1)
      refine goes_value h rfl (cv := .agg arr') (by simp [execOp, hrun]) (.agg _ _ (by simpa using f2.len) f2.one (fun i c cv hc hcv => f2.nil i c cv hc (by simpa using hcv)) (fun i c cv hc hcv => f2.rel i c cv hc (by simpa using hcv))) rfl hn
    · simp at h2
  · simp at hc

theorem run_eqFields {I : Nat → Nat → Prop} {ρ : Nat → Nat} {N : Nat} (w' : World) (dep : Nat) {xs ys : Array Value} : ∀ (ks : List Nat) (i : Nat) (fs : List Field) (cs ds : List V) (r : Bool), flatFrom P ks i fs = true →
    (∀ (j : Nat) c cv, cs[j]? = some c → xs[i + j]? = some cv → VRel I ρ N w c cv) → (∀ (j : Nat) c cv, ds[j]? = some c → ys[i + j]? = some cv → VRel I ρ N w c cv) →
    i + cs.length = xs.size → i + ds.length = ys.size → sameCells ks cs ds = some r → (Op.eqFields (dep + 1) xs ys fs).run P w' = .ok r w'
  | [], i, [], [], [], r, _, _, _, _, _, h => by
    simp [sameCells] at h
    subst h
    simp [Op.eqFields]
  | k :: ks, i, f :: fs, c :: cs, d :: ds, r, hf, h1, h2, l1, l2, h => by
    simp only [flatFrom, Bool.and_eq_true, bne_iff_ne, beq_iff_eq] at hf
    obtain ⟨⟨f1, rfl, f3⟩, f4⟩ := hf
    simp only [List.length_cons] at l1 l2
    have x1 : xs[f.offset]? = some (xs[f.offset]'(by omega)) := Array.getElem?_eq_getElem _
    have y1 : ys[f.offset]? = some (ys[f.offset]'(by omega)) := Array.getElem?_eq_getElem _
    have r1 := h1 0 c _ rfl x1
    have r2 := h2 0 d _ rfl y1
    have rest : ∀ r', sameCells ks cs ds = some r' → (Op.eqFields (dep + 1) xs ys fs).run P w' = .ok r' w' := fun r' hr' =>
      run_eqFields w' dep ks (f.offset + 1) fs cs ds r' f4 (fun j c cv hc hcv => h1 (j + 1) c cv (by simpa using hc) (by rw [← hcv]; congr 1; omega)) (fun j c cv hc hcv => h2 (j + 1) c cv (by simpa using hc) (by rw [← hcv]; congr 1; omega)) (by omega) (by omega) hr'
    generalize xs[f.offset]'(by omega) = cx at x1 r1
    generalize ys[f.offset]'(by omega) = cy at y1 r2
    have fin : ∀ (b : Bool) r', sameCells ks cs ds = some r' → r = (b && r') → isAggT P f.type = some false → (Op.equalIn (dep + 1) f.type cx cy).run P w' = .ok b w' → (Op.eqFields (dep + 1) xs ys (f :: fs)).run P w' = .ok r w' := by
      intro b r' hr' hr ha he
      subst hr
      have p1 : (part f.type xs f.offset).run P w' = .ok cx w' := by simp [part, run_isAggT ha, x1]
      have p2 : (part f.type ys f.offset).run P w' = .ok cy w' := by simp [part, run_isAggT ha, y1]
      cases b <;> simp [Op.eqFields, f1, p1, p2, he, rest r' hr']
    unfold sameCells at h
    split at h
    · simp at *
    · rename_i _ q1 a _ q2 b _ e1 e2 e3
      cases e1; cases e2; cases e3
      split at h
      · rename_i hqq
        subst hqq
        simp only [Option.map_eq_some_iff] at h
        obtain ⟨r', h3, h4⟩ := h
        split at f3 <;> simp at f3
        rename_i kk hu
        cases r1
        cases r2
        exact fin _ r' h3 h4.symm (by simp [isAggT, hu]) (by simp [Op.equalIn, run_underlying hu])
      · simp at h
    · rename_i a _ _ b _ _ e1 e2 e3
      cases e1; cases e2; cases e3
      simp only [Option.map_eq_some_iff] at h
      obtain ⟨r', h3, h4⟩ := h
      split at f3 <;> simp at f3
      rename_i hu
      cases r1 with
      | str _ sx hlx _ =>
      cases r2 with
      | str _ sy hly _ =>
      subst hlx hly
      refine fin _ r' h3 h4.symm (by simp [isAggT, hu]) ?_
      rw [run_equalIn_string _ _ _ _ _ hu, ByteArray.toList_eq, ByteArray.toList_eq]
      congr 1
      rw [Bool.eq_iff_iff, beq_iff_eq, decide_eq_true_iff]
    · rename_i a _ _ b _ _ e1 e2 e3
      cases e1; cases e2; cases e3
      simp only [Option.map_eq_some_iff] at h
      obtain ⟨r', h3, h4⟩ := h
      split at f3 <;> simp at f3
      rename_i hu
      cases r1
      cases r2
      exact fin _ r' h3 h4.symm (by simp [isAggT, hu]) (run_equalIn_bool' _ _ _ _ _ hu)
    · simp at h
  | [], i, _ :: _, _, _, r, hf, _, _, _, _, h => by simp [flatFrom] at hf
  | _ :: _, i, [], _, _, r, hf, _, _, _, _, h => by simp [flatFrom] at hf
  | [], i, [], _ :: _, _, r, hf, _, _, _, _, h => by simp [sameCells] at h
  | [], i, [], [], _ :: _, r, hf, _, _, _, _, h => by simp [sameCells] at h
  | _ :: _, i, _ :: _, [], _, r, hf, _, _, _, _, h => by simp [sameCells] at h
  | _ :: _, i, _ :: _, _ :: _, [], r, hf, _, _, _, _, h => by simp [sameCells] at h

theorem op_eqs {d : Nat} {neg : Bool} {ks : List Nat} {x y : ASrc} (hc : chkMem P (.eqs d neg ks x y) m = true) (hs : step Γ (.eqs d neg ks x y) s = some (true, s')) (h : SR g s w a) (hn : Goes g s w a s' next) : m.wp P a w next Q := by
  obtain ⟨dst, op, ty, pos, aft, gd⟩ := m
  simp only [chkMem, Bool.and_eq_true, beq_iff_eq] at hc
  obtain ⟨rfl, hc⟩ := hc
  split at hc
  · rename_i o t x' y' tt
    simp only [Bool.and_eq_true, decide_eq_true_eq] at hc
    obtain ⟨h1, rfl, h2, h3⟩ := hc
    have r1 := src_rel h2 h.er
    have r2 := src_rel h3 h.er
    unfold flatT at h1
    split at h1
    · rename_i fs hu
      simp only [Bool.and_eq_true, Bool.not_eq_true'] at h1
      obtain ⟨e1, e2, e3⟩ := h1
      have hu' : P.fieldsOf t = fs := by simp [Program.fieldsOf, hu]
      simp only [step] at hs
      split at hs
      · rename_i cs ds hx hy
        simp only [Option.map_eq_some_iff] at hs
        obtain ⟨r, hr, hs⟩ := hs
        obtain rfl : _ = s' := by simpa using hs
        rw [hx] at r1
        rw [hy] at r2
        generalize hcx : a.eval x' = cx at r1
        generalize hcy : a.eval y' = cy at r2
        cases r1 with
        | agg _ xs l1 _ _ v1 =>
        cases r2 with
        | agg _ ys l2 _ _ v2 =>
          have hq := run_eqFields (P := P) w 9998 ks 0 fs.toList cs ds r e1 (fun j c cv hc hcv => v1 j c cv hc (by simpa using hcv)) (fun j c cv hc hcv => v2 j c cv hc (by simpa using hcv)) (by omega) (by omega) hr
          have he : (Op.equalIn 10000 t (.agg xs) (.agg ys)).run P w = .ok r w := by
            rw [run_equalIn_struct w 9999 t xs ys (by rw [hu', hu]) e2, hu']
            exact hq
          cases neg with
          | true =>
            refine goes_value h rfl (cv := .bool (!r)) ?_ (.bool _) rfl hn
            have h1 := run_eqGuard_agg (P := P) w .neq t x' y' xs ys e3
            have h2 := run_neq_struct (P := P) w t xs ys
            rw [he] at h2
            simp [execOp, hcx, hcy, h1, h2]
          | false =>
            refine goes_value h rfl (cv := .bool r) ?_ (.bool _) rfl hn
            have h1 := run_eqGuard_agg (P := P) w .eql t x' y' xs ys e3
            have h2 := run_eql_struct (P := P) w t xs ys
            rw [he] at h2
            simp [execOp, hcx, hcy, h1, h2]
      · simp at hs
    · simp at h1
  · simp at hc

theorem op_mks {d : Nat} {k : EK} {x : ASrc} (hβ : g.β = byteT P) (hc : chkMem P (.mks d k x) m = true) (hs : step Γ (.mks d k x) s = some (true, s')) (h : SR g s w a) (hn : Goes g s w a s' next) : m.wp P a w next Q := by
  obtain ⟨dst, op, ty, pos, aft, gd⟩ := m
  simp only [chkMem, Bool.and_eq_true, beq_iff_eq] at hc
  obtain ⟨rfl, hc⟩ := hc
  split at hc
  · rename_i t x' y'
    simp only [Bool.and_eq_true] at hc
    obtain ⟨h1, h2, h3⟩ := hc
    have r1 := src_rel h2 h.er
    have r2 := src_rel h3 h.er
    obtain ⟨e, u1, h1⟩ := sliceOK_facts h1
    obtain ⟨inf, z, i1, i2, i3, i4, i5, i6, i7⟩ := elemOK_facts h1
    simp only [step] at hs
    split at hs
    · rename_i ki n hx
      simp only [Option.some.injEq, Prod.mk.injEq, Bool.and_eq_true, decide_eq_true_eq] at hs
      obtain ⟨⟨g1, g2⟩, rfl⟩ := hs
      rw [hx] at r1 r2
      generalize hcx : a.eval x' = cx at r1
      generalize hcy : a.eval y' = cy at r2
      cases r1
      cases r2
      have hk0 : 0 < k.sz := by cases k <;> simp [EK.sz]
      have hb0 : 1 ≤ k.bytes := by
        cases k with
        | num k => cases k <;> simp [EK.bytes, kindSize]
        | _ => simp [EK.bytes]
      have g3 : n * k.bytes ≤ 140737488355328 := g2
      have hnle : n ≤ 140737488355328 := by
        have : n * 1 ≤ n * (k.bytes : Int) := Int.mul_le_mul_of_nonneg_left (by omega) g1
        omega
      have hb : (inf.bytes : Int) * n ≤ 281474976710656 := by
        rw [i3, Int.mul_comm]; omega
      have hrun := run_make (P := P) w t e inf z u1 i1 i4 ki ki n n g1 (Int.le_refl _) hb (by omega)
      have hzs : z.cells.size = k.sz := i7
      obtain ⟨m1, m2, m3⟩ := const1s_rel (I := g.I) (ρ := g.ρ) (N := s.hp.length) (w := w) i6
      rw [i2] at hrun
      have f := alloc_facts w (.cells (madeCells z.cells (n.toNat * k.sz)) e)
      obtain ⟨g', q1, q2⟩ := h.newRow (w' := w.alloc (.cells (madeCells z.cells (n.toNat * k.sz)) e)) k (List.replicate n.toNat (dflt k)) n.toNat d (madeCells z.cells (n.toNat * k.sz)) e (0, 0) f.1 f.2.1 f.2.2 rfl rfl rfl (o := .own) (by simp) (by simp) (by unfold maxI; omega)
        (by rw [size_madeCells]; exact Nat.le_refl _) (fun hk => by rw [hβ]; exact elemOK_byte h1 hk) (by intro j h1 h2; omega) (by
          intro i x j v hx hv
          rw [List.getElem?_replicate] at hx
          split at hx
          · rename_i hi
            simp only [Option.some.injEq] at hx
            subst hx
            have hj : j < k.sz := by
              have := (List.getElem?_eq_some_iff.1 hv).1
              rwa [enc_length] at this
            have hlt : i * k.sz + j < n.toNat * k.sz := by
              calc i * k.sz + j < i * k.sz + k.sz := by omega
                _ = (i + 1) * k.sz := by rw [Nat.add_mul, Nat.one_mul]
                _ ≤ n.toNat * k.sz := Nat.mul_le_mul_right _ hi
            have hmod : (i * k.sz + j) % z.cells.size = j := by rw [hzs, Nat.add_comm, Nat.add_mul_mod_self_right, Nat.mod_eq_of_lt hj]
            have hz' : z.cells[j]? = some (z.cells[j]'(by omega)) := Array.getElem?_eq_getElem _
            refine ⟨z.cells[j]'(by omega), ?_, m3 j v _ hv (by rw [Array.getElem?_toList]; exact hz')⟩
            simp only [madeCells]
            rw [Array.getElem?_map, Array.getElem?_range, if_pos hlt, Option.map_some, hmod, getElem!_pos z.cells j (by omega)]
          · simp at hx)
      simp only [List.length_replicate] at q1
      exact goes_at rfl (by simp [execOp, hcx, hcy, hrun]) ⟨g', q1, q2⟩ hn
    · simp at hs
  · simp at hc
end
end Go.AM
