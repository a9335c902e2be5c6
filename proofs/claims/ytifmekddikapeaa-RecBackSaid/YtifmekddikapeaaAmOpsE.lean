/-
  Moves, and the operations that make new rows.
-/
import Derived.Test.YtifmekddikapeaaAmOpsD
import Derived.Lib.ConvBytes
namespace Go.AM
set_option autoImplicit false
set_option linter.unusedSimpArgs false
set_option linter.unusedVariables false

section
variable {w w' : World} {g g' : Gh} {s s' : St} {a : Act} {P : Program} {Γ : ASpec} {m : Oper} {next : Act → World → Prop} {Q : Exit → Act → World → Prop}

theorem goes_at {d : Nat} {cv : Value} (hd : m.dst = some d) (hrun : (execOp a.eval m).run P w = .ok (.value cv) w')
    (h : ∃ g', SR g' s' w' (a.put (some d) cv) ∧ FR g s.hp w g' s'.hp w') (hn : Goes g s w a s' next) : m.wp P a w next Q := by
  unfold Oper.wp Oper.upon
  rw [hrun, hd]
  obtain ⟨g', h1, h2⟩ := h
  exact hn _ _ g' h1 h2 rfl

def parts : List ASrc → List (Nat × Operand) → Nat → Bool
  | [], [], _ => true
  | x :: xs, (i, y) :: ys, n => (i == n) && (srcOK x y && parts xs ys (n + 1))
  | _, _, _ => false

def bparts (P : Program) (fs : Array Field) : List (Nat × Nat × ASrc) → List (Nat × Operand) → Bool
  | [], [] => true
  | (off, n, x) :: xs, (i, y) :: ys => (match fs[i]? with | some f => (f.offset == off) && (sizeT P f.type == some n) | none => false) && (srcOK x y && bparts P fs xs ys)
  | _, _ => false

def zeroOK (P : Program) (t : TypeId) (zero : List V) : Bool := match P.info? t with | some i => (match i.zero with | some z => const1s zero z.cells.toList | none => false) | none => false

def chkRow (P : Program) (o : IOp) (m : Oper) : Bool :=
  match o with
  | .mov d x => (m.dst == some d) && (match m.op with | .move y => srcOK x y | .assign y => srcOK x y | _ => false)
  | .bsl d k ps _ => (m.dst == some d) && (match m.op with | .buildSlice t n qs => sliceOK P t k && (n == ps.length && (decide (ps.length * k.sz ≤ 16777216) && parts ps qs.toList 0)) | _ => false)
  | .s2b d x => (m.dst == some d) && (match m.op with | .convert u t x' => (match P.underlying u with | some .string => true | _ => false) && (sliceOK P t .u8 && ((match P.underlying t with | some (.slice e) => intK P e .u8 | _ => false) && srcOK x x')) | _ => false)
  | .s2r d x => (m.dst == some d) && (match m.op with | .convert u t x' => (match P.underlying u with | some .string => true | _ => false) && (sliceOK P t (.num .i32) && ((match P.underlying t with | some (.slice e) => intK P e .i32 | _ => false) && srcOK x x')) | _ => false)
  | .app d k x y => (m.dst == some d) && (match callB m.op with | some (.append, [x', y'], [t, u]) => sliceOK P t k && (sliceOK P u k && (srcOK x x' && srcOK y y')) | _ => false)
  | .apps d x y => (m.dst == some d) && (match callB m.op with | some (.append, [x', y'], [t, u]) => sliceOK P t .u8 && ((match P.underlying u with | some .string => true | _ => false) && (srcOK x x' && srcOK y y')) | _ => false)
  | _ => false

theorem op_mov {d : Nat} {x : ASrc} (hc : chkRow P (.mov d x) m = true) (hs : step Γ (.mov d x) s = some (true, s')) (h : SR g s w a) (hn : Goes g s w a s' next) : m.wp P a w next Q := by
  obtain ⟨dst, op, ty, pos, aft, gd⟩ := m
  simp only [chkRow, Bool.and_eq_true, beq_iff_eq] at hc
  obtain ⟨rfl, hc⟩ := hc
  obtain rfl : _ = s' := by simpa [step] using hs
  have fin : ∀ y, srcOK x y = true → (execOp a.eval ⟨some d, op, ty, pos, aft, gd⟩).run P w = .ok (.value (a.eval y)) w → (⟨some d, op, ty, pos, aft, gd⟩ : Oper).wp P a w next Q := by
    intro y hy hr
    have r := src_rel hy h.er
    refine goes_at rfl hr ?_ hn
    cases x with
    | t n => exact ⟨g, h.set d r (bare_own (disown_bare _) _ _ _ _), FR.refl _ _ _⟩
    | c v =>
      refine ⟨g, h.set d r ?_, FR.refl _ _ _⟩
      unfold srcOK at hy
      split at hy
      · rename_i e; cases e
      · rename_i e; cases e
      · rename_i e; cases e; exact constOK_own hy _
      · rename_i e; cases e; simp [ASrc.ev, OwnOK]
      · simp at hy
    | tk n =>
      have hy' : y = .tmp n := by
        unfold srcOK at hy
        split at hy
        · rename_i e; cases e
        · rename_i k e; cases e; rw [show k = n by simpa using (beq_iff_eq.1 hy).symm]
        · rename_i e; cases e
        · rename_i e; cases e
        · simp at hy
      subst hy'
      have ho := h.er.getOwn n
      obtain ⟨g₁, h1, h2, h3, h4, h5⟩ := take_own (q := .slot d) (h.after (.tk n)) (after_bared n s) ho
      refine ⟨g₁, h1.set d ?_ h5, ?_⟩
      · rw [h3, h4]; exact r
      · rw [after_hp] at h2; simpa [St.set, after_hp] using h2
  split at hc
  · rename_i y
    exact fin y hc (by simp [execOp])
  · rename_i y
    exact fin y hc (by simp [execOp])
  · simp at hc

/-- cells laid over cells -/
theorem foldl_set : ∀ (vs : List Value) (off j : Nat) (cells : Array Value), off + j + vs.length ≤ cells.size →
    ((vs.zipIdx j).foldl (fun (cs : Array Value) (x : Value × Nat) => cs.setIfInBounds (off + x.2) x.1) cells).toList = cells.toList.take (off + j) ++ vs ++ cells.toList.drop (off + j + vs.length)
  | [], off, j, cells, h => by simp
  | v :: vs, off, j, cells, h => by
    simp only [List.length_cons] at h
    rw [List.zipIdx_cons, List.foldl_cons, foldl_set vs off (j + 1) _ (by simp; omega)]
    simp only [Array.toList_setIfInBounds, List.length_cons]
    have hlt : off + j < cells.toList.length := by rw [Array.length_toList]; omega
    rw [show off + (j + 1) = off + j + 1 by omega, List.take_succ_eq_append_getElem (by simpa using hlt), List.take_set_of_le (by omega), List.drop_set_of_lt (by omega)]
    simp [List.append_assoc]
    omega

/-- all the parts of a row, one behind the other -/
theorem fill_all (sz : Nat) : ∀ (vs : List (Array Value)) (i : Nat) (cells : Array Value), (∀ v ∈ vs, v.size = sz) → (i + vs.length) * sz ≤ cells.size → ∀ (ps : List (Nat × Value)), ps.map (·.1) = List.range' i vs.length → ps.map (·.2.cells) = vs →
    Instr.fill (fun i => some (i * sz, sz)) cells ps = some (cells.toList.take (i * sz) ++ (vs.map (·.toList)).flatten ++ cells.toList.drop ((i + vs.length) * sz)).toArray
  | [], i, cells, hs, hle, ps, h1, h2 => by
    have : ps = [] := by simpa using h2
    subst this
    simp [Instr.fill]
  | v :: vs, i, cells, hs, hle, ps, h1, h2 => by
    match ps, h1, h2 with
    | (i', x) :: ps', k1, k2 =>
    simp only [List.map_cons, List.length_cons, List.range'_succ, List.cons.injEq] at k1 k2
    obtain ⟨rfl, k3⟩ := k1
    obtain ⟨rfl, k4⟩ := k2
    have hv : x.cells.size = sz := hs _ (List.mem_cons_self ..)
    simp only [List.length_cons] at hle
    have e1 : (i' + (vs.length + 1)) * sz = i' * sz + sz + vs.length * sz := by rw [Nat.add_mul, Nat.add_mul]; omega
    have hle1 : i' * sz + sz ≤ cells.size := by omega
    have e2 : (x.cells.zipIdx.foldl (fun (cs : Array Value) (y : Value × Nat) => cs.setIfInBounds (i' * sz + y.2) y.1) cells).toList = cells.toList.take (i' * sz) ++ x.cells.toList ++ cells.toList.drop (i' * sz + sz) := by
      have := foldl_set x.cells.toList (i' * sz) 0 cells (by simp [hv]; omega)
      simp only [Nat.add_zero, Array.length_toList, hv] at this
      rw [← this, ← Array.foldl_toList, Array.toList_zipIdx]
    have e3 : (x.cells.zipIdx.foldl (fun (cs : Array Value) (y : Value × Nat) => cs.setIfInBounds (i' * sz + y.2) y.1) cells).size = cells.size := by
      rw [← Array.length_toList, e2]
      simp [hv]
      omega
    simp only [Instr.fill, hv]
    rw [if_neg (by simp; omega)]
    rw [fill_all sz vs (i' + 1) _ (fun v hv => hs v (List.mem_cons_of_mem _ hv)) (by rw [e3]; rw [show (i' + 1 + vs.length) = i' + (vs.length + 1) by omega]; exact hle) ps' k3 k4, e2]
    have l2 : x.cells.toList.length = sz := by simp [hv]
    have hL : (cells.toList.take (i' * sz) ++ x.cells.toList).length = i' * sz + sz := by simp [hv]; omega
    rw [show (i' + 1) * sz = i' * sz + sz by rw [Nat.add_mul]; omega, show (i' + 1 + vs.length) * sz = (i' * sz + sz) + vs.length * sz by rw [Nat.add_mul, Nat.add_mul]; omega, List.length_cons, e1]
    rw [List.take_left' hL, ← List.drop_drop, List.drop_left' hL, List.drop_drop]
    simp [List.append_assoc]

/-- what a list of parts becomes, value by value -/
theorem decAll_rel {I : Nat → Nat → Prop} {ρ : Nat → Nat} {N : Nat} {k : EK} : ∀ {vs : List V} {xs : List (Ty k)} {cvs : List Value}, decAll k vs = some xs → cvs.length = vs.length →
    (∀ (i : Nat) v cv, vs[i]? = some v → cvs[i]? = some cv → VRel I ρ N w v cv) →
    xs.length = vs.length ∧ (∀ cv ∈ cvs, cv.cells.size = k.sz) ∧
      ∀ (i : Nat) x (j : Nat) v, xs[i]? = some x → (enc k x)[j]? = some v → ∃ (cv u : Value), cvs[i]? = some cv ∧ cv.cells[j]? = some u ∧ VRel I ρ N w v u
  | [], xs, cvs, h, hl, hr => by
    have : cvs = [] := by simpa using hl
    subst this
    simp only [decAll, Option.some.injEq] at h
    subst h
    exact ⟨rfl, by simp, by simp⟩
  | v :: vs, xs, cv :: cvs, h, hl, hr => by
    simp only [decAll] at h
    split at h
    · rename_i x l hx hl'
      obtain rfl := Option.some.inj h
      obtain ⟨k1, k2, k3⟩ := decAll_rel (vs := vs) (cvs := cvs) hl' (by simpa using hl) (fun i v cv h1 h2 => hr (i + 1) v cv (by simpa using h1) (by simpa using h2))
      have r0 := hr 0 v cv rfl rfl
      have r0' := r0
      -- the cells of the first part
      have hc : v.cells.length = cv.cells.size ∧ (∀ (j : Nat) c u, v.cells[j]? = some c → cv.cells[j]? = some u → VRel I ρ N w c u) := by
        cases r0 with
        | agg cs us hl2 h1 hb hv => exact ⟨by simpa [V.cells, Value.cells] using hl2, by simpa [V.cells, Value.cells] using hv⟩
        | undef cv => cases k <;> simp [V.cells, dec] at hx <;> (rename_i kk; cases kk <;> simp at hx)
        | tup cs us hl hv => cases k <;> simp [V.cells, dec] at hx <;> (rename_i kk; cases kk <;> simp at hx)
        | junk cv => cases k <;> simp [V.cells, dec] at hx <;> (rename_i kk; cases kk <;> simp at hx)
        | _ =>
          refine ⟨by simp [V.cells, Value.cells], ?_⟩
          intro j c u h1 h2
          cases j with
          | zero =>
            simp [V.cells, Value.cells] at h1 h2
            subst h1 h2
            exact r0'
          | succ j => simp [V.cells] at h1
      have hin : ∀ c ∈ v.cells, c.inRange := by
        intro c hc'
        obtain ⟨j, hj, rfl⟩ := List.mem_iff_getElem.1 hc'
        have : j < cv.cells.size := by rw [← hc.1]; exact hj
        exact (hc.2 j _ _ (List.getElem?_eq_getElem hj) (Array.getElem?_eq_getElem this)).inRange
      have he := dec_enc hx hin
      have hsz : cv.cells.size = k.sz := by rw [← hc.1, ← enc_length k x, he, List.length_map]
      refine ⟨by simp [k1], by simpa using ⟨hsz, k2⟩, ?_⟩
      intro i y j u hy hu
      cases i with
      | succ i => simpa using k3 i y j u (by simpa using hy) hu
      | zero =>
        simp at hy
        subst hy
        rw [he, List.getElem?_map, Option.map_eq_some_iff] at hu
        obtain ⟨c, hc', rfl⟩ := hu
        have hj : j < v.cells.length := (List.getElem?_eq_some_iff.1 hc').1
        have hj' : j < cv.cells.size := by rw [← hc.1]; exact hj
        exact ⟨cv, cv.cells[j], rfl, Array.getElem?_eq_getElem hj', (hc.2 j _ _ hc' (Array.getElem?_eq_getElem hj')).weak⟩
    · simp at h

/-- a part of a flat list of rows -/
theorem flat_get (sz : Nat) : ∀ (cvs : List Value), (∀ cv ∈ cvs, cv.cells.size = sz) → ∀ (i j : Nat) cv u, cvs[i]? = some cv → cv.cells[j]? = some u →
    ((cvs.map (·.cells.toList)).flatten)[i * sz + j]? = some u
  | [], _, i, j, cv, u, h1, _ => by simp at h1
  | c :: cvs, hs, 0, j, cv, u, h1, h2 => by
    simp at h1
    subst h1
    have hj : j < c.cells.size := by
      rcases Nat.lt_or_ge j c.cells.size with h | h
      · exact h
      · simp [Array.getElem?_eq_none h] at h2
    simp only [List.map_cons, List.flatten_cons, Nat.zero_mul, Nat.zero_add]
    rw [List.getElem?_append_left (by simpa using hj)]
    simpa using h2
  | c :: cvs, hs, i + 1, j, cv, u, h1, h2 => by
    have hc := hs c (List.mem_cons_self ..)
    have ih := flat_get sz cvs (fun cv hcv => hs cv (List.mem_cons_of_mem _ hcv)) i j cv u (by simpa using h1) h2
    simp only [List.map_cons, List.flatten_cons]
    rw [List.getElem?_append_right (by simp [hc, Nat.add_mul]; omega)]
    rw [← ih]
    congr 1
    simp [hc, Nat.add_mul]
    omega

theorem parts_rel (h : ER g s.hp.length w s.env a.tmps) : ∀ (ps : List ASrc) (qs : List (Nat × Operand)) (n : Nat), parts ps qs n = true →
    (qs.map fun q => (q.1, a.eval q.2)).map (·.1) = List.range' n ps.length ∧ qs.length = ps.length ∧
      ∀ (i : Nat) v cv, (ps.map (·.ev s))[i]? = some v → (qs.map fun q => a.eval q.2)[i]? = some cv → VRel g.I g.ρ s.hp.length w v cv
  | [], [], n, _ => by simp
  | x :: ps, (i, y) :: qs, n, hp => by
    simp only [parts, Bool.and_eq_true, beq_iff_eq] at hp
    obtain ⟨rfl, h1, h2⟩ := hp
    obtain ⟨k1, k2, k3⟩ := parts_rel h ps qs (i + 1) h2
    refine ⟨?_, by simp [k2], ?_⟩
    · simp only [List.map_cons, List.length_cons, List.range'_succ]
      rw [k1]
    · intro j v cv hv hcv
      cases j with
      | zero =>
        simp at hv hcv
        subst hv hcv
        exact src_rel h1 h
      | succ j => exact k3 j v cv (by simpa using hv) (by simpa using hcv)
  | [], _ :: _, n, hp => by simp [parts] at hp
  | _ :: _, [], n, hp => by simp [parts] at hp

theorem alloc_facts (w : World) (o : Go.Obj) : (w.alloc o).heap.size = w.heap.size + 1 ∧ (∀ b, b < w.heap.size → (w.alloc o).heap[b]? = w.heap[b]?) ∧ (w.alloc o).heap[w.heap.size]? = some o := by
  refine ⟨by simp, ?_, ?_⟩
  · intro b hb
    show (w.heap.push o)[b]? = _
    rw [Array.getElem?_push, if_neg (by omega)]
  · show (w.heap.push o)[w.heap.size]? = _
    simp

theorem op_bsl {d : Nat} {k : EK} {ps : List ASrc} {u : Bool} (hβ : g.β = byteT P) (hc : chkRow P (.bsl d k ps u) m = true) (hs : step Γ (.bsl d k ps u) s = some (true, s')) (h : SR g s w a) (hn : Goes g s w a s' next) : m.wp P a w next Q := by
  obtain ⟨dst, op, ty, pos, aft, gd⟩ := m
  simp only [chkRow, Bool.and_eq_true, beq_iff_eq] at hc
  obtain ⟨rfl, hc⟩ := hc
  split at hc
  · rename_i t n qs
    simp only [Bool.and_eq_true, beq_iff_eq, decide_eq_true_eq] at hc
    obtain ⟨h1, rfl, h2, h3⟩ := hc
    simp only [step, Option.map_eq_some_iff] at hs
    obtain ⟨xs, hx, hs⟩ := hs
    obtain rfl : _ = s' := by simpa using hs
    obtain ⟨e, u1, h1⟩ := sliceOK_facts h1
    obtain ⟨inf, z, i1, i2, i3, i4, i5, i6, i7⟩ := elemOK_facts h1
    obtain ⟨k1, k2, k3⟩ := parts_rel h.er ps qs.toList 0 h3
    obtain ⟨r1, r2, r3⟩ := decAll_rel (cvs := qs.toList.map fun q => a.eval q.2) hx (by simp [k2]) k3
    simp only [List.length_map] at r1
    have hzs : z.cells.size = k.sz := i7
    have hk0 : 0 < k.sz := by cases k <;> simp [EK.sz]
    let zs : Array Value := (Array.range (ps.length * k.sz)).map (fun j => z.cells[j % z.cells.size]!)
    have hzs' : zs.size = ps.length * k.sz := by simp [zs]
    have hfill : Instr.fill (fun i => some (i * k.sz, k.sz)) zs ((qs.map fun x => (x.1, a.eval x.2)).toList) = some ((qs.toList.map fun q => a.eval q.2).map (·.cells.toList)).flatten.toArray := by
      have := fill_all k.sz ((qs.toList.map fun q => a.eval q.2).map (·.cells)) 0 zs (by
        intro v hv
        obtain ⟨cv, hcv, rfl⟩ := List.mem_map.1 hv
        exact r2 cv hcv) (by simp [hzs', k2]) ((qs.map fun x => (x.1, a.eval x.2)).toList) (by simpa [k2] using k1) (by simp)
      rw [this]
      simp [k2, hzs', List.map_map, Function.comp_def]
    have hlen : ((qs.toList.map fun q => a.eval q.2).map (·.cells.toList)).flatten.length = xs.length * k.sz := by
      rw [List.length_flatten, List.map_map]
      have : ∀ l : List Value, (∀ cv ∈ l, cv.cells.size = k.sz) → (l.map (List.length ∘ fun x : Value => x.cells.toList)).sum = l.length * k.sz := by
        intro l hl
        induction l with
        | nil => simp
        | cons c l ih =>
          simp only [List.map_cons, List.sum_cons, List.length_cons, ih (fun cv hcv => hl cv (List.mem_cons_of_mem _ hcv)), Nat.add_mul, Function.comp]
          have := hl c (List.mem_cons_self ..)
          simp [this]
          omega
      rw [this _ r2, List.length_map, k2, r1]
    let arr : Array Value := ((qs.toList.map fun q => a.eval q.2).map (·.cells.toList)).flatten.toArray
    have f := alloc_facts w (.cells arr e)
    refine goes_at rfl (w' := w.alloc (.cells arr e)) (cv := .slice (some ⟨w.heap.size, 0, none⟩) xs.length xs.length) ?_ ?_ hn
    · have h24 : ¬ (16777216 < ps.length * k.sz) := by omega
      have hdim : zs.size = ps.length * k.sz := hzs'
      simp only [Array.toList_map, zs] at hfill
      by_cases h0 : ps.length * k.sz = 0
      · have hp0 : ps.length = 0 := by
          rcases Nat.mul_eq_zero.1 h0 with h | h
          · exact h
          · omega
        have hq0 : qs.toList = [] := List.eq_nil_of_length_eq_zero (by omega)
        have hx0 : xs.length = 0 := by omega
        have hq0' : qs = #[] := by simpa using hq0
        simp [execOp, Instr.buildSlice, run_underlying u1, sizeOf, typeInfo, i1, i2, h24, h0, hp0, hq0', hx0, Instr.fill, newRow, arr]
        rw [show Array.range 0 = #[] from Array.eq_empty_of_size_eq_zero (by simp), Array.map_empty]
      · simp [execOp, Instr.buildSlice, run_underlying u1, sizeOf, typeInfo, i1, i2, h24, h0, zeroValue, i4, hfill, newRow, r1, arr]
    · obtain ⟨g', q1, q2⟩ := h.newRow (w' := w.alloc (.cells arr e)) k xs xs.length d arr e (0, 0) f.1 f.2.1 f.2.2 rfl rfl rfl (o := cond u (.may true) .own) (fun _ => rfl) (Nat.le_refl _) (by unfold maxI; have : xs.length ≤ xs.length * k.sz := Nat.le_mul_of_pos_right _ hk0; rw [r1] at *; omega)
        (by simp only [arr, List.size_toArray, hlen]; exact Nat.le_refl _) (fun hk => by rw [hβ]; exact elemOK_byte h1 hk) (by intro j h1 h2; omega) (by
          intro i x j v hx hv
          obtain ⟨cv, u, q1, q2, q3⟩ := r3 i x j v hx hv
          refine ⟨u, ?_, q3⟩
          simp only [arr, List.getElem?_toArray]
          exact flat_get k.sz _ r2 i j cv u q1 q2)
      exact ⟨g', q1, q2⟩
  · simp at hc
end
end Go.AM
