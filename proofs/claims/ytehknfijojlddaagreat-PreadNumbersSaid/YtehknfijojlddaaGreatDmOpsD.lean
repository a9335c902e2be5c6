/-
  Operations that make objects, write them, build structs.
-/
import Derived.Test.YtehknfijojlddaaGreatDmMem
import Derived.Laws.Tables
import Derived.Laws.StructEq
import Derived.Laws.MakeOwn
import Derived.Lib.ConvBytes
namespace Go.DM
set_option autoImplicit false
set_option linter.unusedSimpArgs false
set_option linter.unusedVariables false

def parts (cx : Cx) : List ASrc → List (Nat × Operand) → Nat → Bool
  | [], [], _ => true
  | x :: xs, (i, y) :: ys, n => (i == n) && (srcOK cx x y && parts cx xs ys (n + 1))
  | _, _, _ => false
def bparts (P : Program) (cx : Cx) (fs : Array Field) : List (Nat × Nat × ASrc) → List (Nat × Operand) → Bool
  | [], [] => true
  | (off, n, x) :: xs, (i, y) :: ys => (match fs[i]? with | some f => (f.offset == off) && (sizeT P f.type == some n) | none => false) && (srcOK cx x y && bparts P cx fs xs ys)
  | _, _ => false
def aparts (cx : Cx) (sz : Nat) : List (Nat × Nat × ASrc) → List (Nat × Operand) → Bool
  | [], [] => true
  | (off, n, x) :: xs, (i, y) :: ys => (off == i * sz) && ((n == sz) && (srcOK cx x y && aparts cx sz xs ys))
  | _, _ => false
def zeroOK (P : Program) (t : TypeId) (zero : List D) : Bool := match P.info? t with | some i => (match i.zero with | some z => const1s zero z.cells.toList | none => false) | none => false
/-- a slice type: its element's type, its size in cells, in bytes, its zero value's cells -/
def rowT (P : Program) (t : TypeId) (e sz by_ : Nat) : Bool := match P.underlying t with
  | some (.slice e') => (e == e') && (match P.info? e with | some i => (i.size == sz) && ((i.bytes == by_) && (Nat.blt 0 sz && (Nat.blt 0 by_ && (match i.zero with | some z => z.cells.size == sz | none => false)))) | none => false)
  | _ => false
def anySlice (P : Program) (t : TypeId) : Bool := match P.underlying t with | some (.slice _) => true | _ => false

def chkB (P : Program) (cx : Cx) (o : IOp) (m : Op) : Bool := match o with
  | .new e zero => (match m with | .alloc t => (e == t) && zeroOK P t zero | _ => false)
  | .box e x => (match m with | .box t y => (e == t) && srcOK cx x y | _ => false)
  | .bsl e sz ps => (match m with | .buildSlice t n qs => (match P.underlying t with | some (.slice e') => (e == e') && ((sizeT P e == some sz) && (Nat.blt 0 sz && (match P.info? e with | some i => i.zero.isSome | none => false))) | _ => false) && ((n == ps.length) && (decide (ps.length * sz ≤ 16777216) && parts cx ps qs.toList 0)) | _ => false)
  | .bld zero ps => (match m with | .build t qs => zeroOK P t zero && (match P.underlying t with | some (.struct fs) => bparts P cx fs ps qs.toList && fs.all (fun f => (P.info? f.type).isSome) | some (.array n e) => (match sizeT P e with | some sz => aparts cx sz ps qs.toList | none => false) | _ => false) | _ => false)
  | .mks e sz by_ zero x => (match m with | .makeSlice t x' y' => rowT P t e sz by_ && (zeroOK P e zero && (srcOK cx x x' && srcOK cx x y')) | _ => false)
  | .st n x v => (match m with | .store t x' v' => (sizeT P t == some n) && (srcOK cx x x' && srcOK cx v v') | _ => false)
  | .apt e by_ x y => (match callB m with | some (.append, [x', y'], [t, u]) => rowT P t e 1 by_ && ((match P.underlying u with | some .string => true | _ => false) && (srcOK cx x x' && srcOK cx y y')) | _ => false)
  | .app e sz by_ x y => (match callB m with | some (.append, [x', y'], [t, u]) => rowT P t e sz by_ && (anySlice P u && (srcOK cx x x' && srcOK cx y y')) | _ => false)
  | .mkm => (match m with | .makeMap _ none => true | _ => false)
  | _ => false

section
variable {g g' : Gh} {cx : Cx} {s : FS} {w w' : World} {a : Act} {P : Program} {at_ : Nat} {v : D} {ws : List (Nat × Option Obj)} {next : Act → World → Prop} {Q : Exit → Act → World → Prop}
  {dst : Option Nat} {op : Op} {ty : TypeId} {pos : String} {aft : Array Edge} {gd : Option (Nat × Bool)}

/-- an operation that yields a value in another world -/
theorem goes_at {m : Oper} {cv : Value} (hrun : (execOp a.eval m).run P w = .ok (.value cv) w') (h : SG g' cx ⟨s.E, putsF s.H ws, s.n⟩ w' a) (k : FR (fun id => id = at_) g s.H w g' (putsF s.H ws) w') (hv : VRel g' v cv)
    (hn : Goes at_ cx g s w a m.dst v ws next) : m.wp P a w next Q := by
  unfold Oper.wp
  rw [hrun, Oper.upon_value]
  exact hn _ _ g' (SG.put (s := ⟨s.E, putsF s.H ws, s.n⟩) h m.dst hv) k (put_defers _ _ _)

theorem zeroOK_facts {t : TypeId} {zero : List D} (h : zeroOK P t zero = true) : ∃ i z, P.info? t = some i ∧ i.zero = some z ∧ const1s zero z.cells.toList = true := by
  unfold zeroOK at h
  split at h
  · rename_i i hi
    split at h
    · rename_i z hz
      exact ⟨i, z, hi, hz, h⟩
    · simp at h
  · simp at h

theorem Row.up {cs : List D} {us : List Value} (h : Row g cs us) (u : Up g g') : Row g' cs us := ⟨h.len, h.one, fun i c cv hc hv => (h.rel i c cv hc hv).up u⟩
theorem Row.obj {id : Nat} {cs : List D} {arr : Array Value} (h : Row g cs arr.toList) : ObjOK g id true cs arr (0, 0) :=
  ⟨by rw [h.len]; simp, fun _ => by rw [h.len]; simp, by simp, by simp, h.one, fun j c cv hc hv => h.rel j c cv hc (by simpa using hv)⟩
theorem Row.app {cs ds : List D} {us vs : List Value} (h : Row g cs us) (k : Row g ds vs) : Row g (cs ++ ds) (us ++ vs) := by
  have hl := h.len
  refine ⟨by simp [h.len, k.len], fun c hc => (List.mem_append.1 hc).elim (h.one c) (k.one c), ?_⟩
  intro i c cv hc hv
  rcases Nat.lt_or_ge i cs.length with hi | hi
  · rw [List.getElem?_append_left hi] at hc
    rw [List.getElem?_append_left (by omega)] at hv
    exact h.rel i c cv hc hv
  · rw [List.getElem?_append_right hi] at hc
    rw [List.getElem?_append_right (by omega), ← hl] at hv
    exact k.rel _ c cv hc hv

/-- a value's cells -/
theorem cells_row {v : D} {cv : Value} (h : VRel g v cv) (h1 : v.cells.all D.one = true) : Row g v.cells cv.cells.toList := by
  have h1' : ∀ c ∈ v.cells, c.one = true := fun c hc => List.all_eq_true.1 h1 c hc
  have h' := h
  cases h with
  | agg cs us hl _ hv => exact ⟨by simpa [D.cells, Value.cells] using hl, h1', by simpa [D.cells, Value.cells] using hv⟩
  | undef => simp [D.cells, D.one] at h1
  | tup => simp [D.cells, D.one] at h1
  | _ =>
    refine ⟨by simp [D.cells, Value.cells], h1', ?_⟩
    intro j c u h1 h2
    cases j with
    | zero =>
      simp [D.cells, Value.cells] at h1 h2
      subst h1 h2
      exact h'
    | succ j => simp [D.cells] at h1

theorem op_new {e : Nat} {zero : List D} (hc : chkB P cx (.new e zero) op = true) (hs : eff at_ s.E s.H (.new e zero) = some (v, ws)) (h : SG g cx s w a) (hf : ¬ g.A at_) (hlt : at_ < s.n) (hn : Goes at_ cx g s w a dst v ws next) : (⟨dst, op, ty, pos, aft, gd⟩ : Oper).wp P a w next Q := by
  simp only [chkB] at hc
  split at hc
  · rename_i t
    simp only [Bool.and_eq_true, beq_iff_eq] at hc
    obtain ⟨rfl, hc⟩ := hc
    obtain ⟨i, z, hi, hz, hcs⟩ := zeroOK_facts hc
    simp only [eff, Option.some.injEq, Prod.mk.injEq] at hs
    obtain ⟨rfl, rfl⟩ := hs
    obtain ⟨f1, f2, f3⟩ := alloc_facts w (.cells z.cells e)
    obtain ⟨k1, k2⟩ := h.make hf hlt (.cells e true zero) 0 f1 f2 f3 rfl rfl rfl ⟨_, _, rfl, (const1s_rel hcs).obj⟩
    refine goes_at (w' := w.alloc (.cells z.cells e)) (cv := .pointer (some ⟨w.heap.size, 0, none⟩)) ?_ k1 k2 ?_ hn
    · simp [execOp, Instr.alloc, zeroValue, typeInfo, hi, hz, newVar, newRow]
    · have := VRel.ptr (g := g.add at_ w.heap.size 0) at_ 0 (.inr rfl)
      simpa [Gh.add, upd] using this
  · simp at hc

theorem op_box {e : Nat} {x : ASrc} (hc : chkB P cx (.box e x) op = true) (hs : eff at_ s.E s.H (.box e x) = some (v, ws)) (h : SG g cx s w a) (hf : ¬ g.A at_) (hlt : at_ < s.n) (hn : Goes at_ cx g s w a dst v ws next) : (⟨dst, op, ty, pos, aft, gd⟩ : Oper).wp P a w next Q := by
  simp only [chkB] at hc
  split at hc
  · rename_i t y
    simp only [Bool.and_eq_true, beq_iff_eq] at hc
    obtain ⟨rfl, h1⟩ := hc
    have r1 := src_rel h1 h
    simp only [eff, chk_iff, Option.some.injEq, Prod.mk.injEq] at hs
    obtain ⟨hone, rfl, rfl⟩ := hs
    obtain ⟨f1, f2, f3⟩ := alloc_facts w (.cells (a.eval y).cells e)
    have hr := cells_row r1 hone
    obtain ⟨k1, k2⟩ := h.make hf hlt (.cells e true (x.ev s.E).cells) 0 f1 f2 f3 rfl rfl rfl ⟨_, _, rfl, (hr.up (Gh.add_up hf _ _)).obj⟩
    refine goes_at (w' := w.alloc (.cells (a.eval y).cells e)) (cv := .pointer (some ⟨w.heap.size, 0, none⟩)) ?_ k1 k2 ?_ hn
    · simp [execOp, Instr.box, newVar, newRow]
    · have := VRel.ptr (g := g.add at_ w.heap.size 0) at_ 0 (.inr rfl)
      simpa [Gh.add, upd] using this
  · simp at hc

/-- cells laid over cells -/
theorem foldl_set : ∀ (vs : List Value) (off j : Nat) (cells : Array Value), off + j + vs.length ≤ cells.size →
    ((vs.zipIdx j).foldl (fun (cs : Array Value) (x : Value × Nat) => cs.setIfInBounds (off + x.2) x.1) cells).toList = cells.toList.take (off + j) ++ vs ++ cells.toList.drop (off + j + vs.length)
  | [], off, j, cells, h => by simp
  | v :: vs, off, j, cells, h => by
    simp only [List.length_cons] at h
    rw [List.zipIdx_cons, List.foldl_cons, foldl_set vs off (j + 1) _ (by simp; omega)]
    simp only [Array.toList_setIfInBounds, List.length_cons]
    have hlt : off + j < cells.toList.length := by rw [Array.length_toList]; omega
    rw [show off + (j + 1) = off + j + 1 by omega, List.take_succ_eq_append_getElem (by simpa using hlt), List.take_set_of_le (by omega), List.drop_set_of_lt (by omega)]
    simp [List.append_assoc]
    omega

/-- all the parts of a row, one behind the other -/
theorem fill_all (sz : Nat) : ∀ (vs : List (Array Value)) (i : Nat) (cells : Array Value), (∀ v ∈ vs, v.size = sz) → (i + vs.length) * sz ≤ cells.size → ∀ (ps : List (Nat × Value)), ps.map (·.1) = List.range' i vs.length → ps.map (·.2.cells) = vs →
    Instr.fill (fun i => some (i * sz, sz)) cells ps = some (cells.toList.take (i * sz) ++ (vs.map (·.toList)).flatten ++ cells.toList.drop ((i + vs.length) * sz)).toArray
  | [], i, cells, hs, hle, ps, h1, h2 => by
    have : ps = [] := by simpa using h2
    subst this
    simp [Instr.fill]
  | v :: vs, i, cells, hs, hle, ps, h1, h2 => by
    match ps, h1, h2 with
    | (i', x) :: ps', k1, k2 =>
    simp only [List.map_cons, List.length_cons, List.range'_succ, List.cons.injEq] at k1 k2
    obtain ⟨rfl, k3⟩ := k1
    obtain ⟨rfl, k4⟩ := k2
    have hv : x.cells.size = sz := hs _ (List.mem_cons_self ..)
    simp only [List.length_cons] at hle
    have e1 : (i' + (vs.length + 1)) * sz = i' * sz + sz + vs.length * sz := by rw [Nat.add_mul, Nat.add_mul]; omega
    have hle1 : i' * sz + sz ≤ cells.size := by omega
    have e2 : (x.cells.zipIdx.foldl (fun (cs : Array Value) (y : Value × Nat) => cs.setIfInBounds (i' * sz + y.2) y.1) cells).toList = cells.toList.take (i' * sz) ++ x.cells.toList ++ cells.toList.drop (i' * sz + sz) := by
      have := foldl_set x.cells.toList (i' * sz) 0 cells (by simp [hv]; omega)
      simp only [Nat.add_zero, Array.length_toList, hv] at this
      rw [← this, ← Array.foldl_toList, Array.toList_zipIdx]
    have e3 : (x.cells.zipIdx.foldl (fun (cs : Array Value) (y : Value × Nat) => cs.setIfInBounds (i' * sz + y.2) y.1) cells).size = cells.size := by
      rw [← Array.length_toList, e2]
      simp [hv]
      omega
    simp only [Instr.fill, hv]
    rw [if_neg (by simp; omega)]
    rw [fill_all sz vs (i' + 1) _ (fun v hv => hs v (List.mem_cons_of_mem _ hv)) (by rw [e3]; rw [show (i' + 1 + vs.length) = i' + (vs.length + 1) by omega]; exact hle) ps' k3 k4, e2]
    have l2 : x.cells.toList.length = sz := by simp [hv]
    have hL : (cells.toList.take (i' * sz) ++ x.cells.toList).length = i' * sz + sz := by simp [hv]; omega
    rw [show (i' + 1) * sz = i' * sz + sz by rw [Nat.add_mul]; omega, show (i' + 1 + vs.length) * sz = (i' * sz + sz) + vs.length * sz by rw [Nat.add_mul, Nat.add_mul]; omega, List.length_cons, e1]
    rw [List.take_left' hL, ← List.drop_drop, List.drop_left' hL, List.drop_drop]
    simp [List.append_assoc]


theorem parts_rel (h : SG g cx s w a) {sz : Nat} : ∀ (ps : List ASrc) (qs : List (Nat × Operand)) (n : Nat), parts cx ps qs n = true → (∀ x ∈ ps, (x.ev s.E).cells.all D.one = true ∧ (x.ev s.E).cells.length = sz) →
    qs.map (·.1) = List.range' n ps.length ∧ qs.length = ps.length ∧ (∀ q ∈ qs, (a.eval q.2).cells.size = sz) ∧ Row g (ps.flatMap fun x => (x.ev s.E).cells) ((qs.map fun q => (a.eval q.2).cells.toList).flatten)
  | [], [], n, _, _ => ⟨rfl, rfl, by simp, ⟨rfl, by simp, by simp⟩⟩
  | x :: ps, (i, y) :: qs, n, hp, hc => by
    simp only [parts, Bool.and_eq_true, beq_iff_eq] at hp
    obtain ⟨rfl, h1, h2⟩ := hp
    obtain ⟨k1, k2, k3, k4⟩ := parts_rel h ps qs (i + 1) h2 (fun x hx => hc x (List.mem_cons_of_mem _ hx))
    obtain ⟨c1, c2⟩ := hc x (List.mem_cons_self ..)
    have hr := cells_row (src_rel h1 h) c1
    refine ⟨by simp [k1, List.range'_succ], by simp [k2], ?_, ?_⟩
    · intro q hq
      rcases List.mem_cons.1 hq with rfl | hq
      · have := hr.len; simp at this; simp; omega
      · exact k3 q hq
    · simpa using hr.app k4
  | [], _ :: _, _, hp, _ => by simp [parts] at hp
  | _ :: _, [], _, hp, _ => by simp [parts] at hp

theorem op_bsl {e sz : Nat} {ps : List ASrc} (hc : chkB P cx (.bsl e sz ps) op = true) (hs : eff at_ s.E s.H (.bsl e sz ps) = some (v, ws)) (h : SG g cx s w a) (hf : ¬ g.A at_) (hlt : at_ < s.n) (hn : Goes at_ cx g s w a dst v ws next) : (⟨dst, op, ty, pos, aft, gd⟩ : Oper).wp P a w next Q := by
  simp only [chkB] at hc
  split at hc
  · rename_i t n qs
    simp only [Bool.and_eq_true, beq_iff_eq, decide_eq_true_eq] at hc
    obtain ⟨h1, rfl, h24, h3⟩ := hc
    split at h1
    · rename_i e' u1
      simp only [Bool.and_eq_true, beq_iff_eq, Nat.blt_eq] at h1
      obtain ⟨rfl, u2, hz, h1⟩ := h1
      split at h1
      · rename_i inf i1
        obtain ⟨z, i4⟩ := Option.isSome_iff_exists.1 h1
        simp only [eff, chk_iff, Option.some.injEq, Prod.mk.injEq] at hs
        obtain ⟨hall, rfl, rfl⟩ := hs
        obtain ⟨k1, k2, k3, k4⟩ := parts_rel (sz := sz) h ps qs.toList 0 h3 (fun x hx => by
          have := List.all_eq_true.1 hall x hx
          simpa [Bool.and_eq_true, Tr.beq_iff] using this)
        let zs : Array Value := (Array.range (ps.length * sz)).map (fun j => z.cells[j % z.cells.size]!)
        have hzs' : zs.size = ps.length * sz := by simp [zs]
        have hfill : Instr.fill (fun i => some (i * sz, sz)) zs ((qs.map fun x => (x.1, a.eval x.2)).toList) = some ((qs.toList.map fun q => (a.eval q.2).cells.toList)).flatten.toArray := by
          have := fill_all sz (qs.toList.map fun q => (a.eval q.2).cells) 0 zs (by
            intro v hv
            obtain ⟨q, hq, rfl⟩ := List.mem_map.1 hv
            exact k3 q hq) (by simp [hzs', k2]) ((qs.map fun x => (x.1, a.eval x.2)).toList) (by simp only [Array.toList_map, List.map_map, Function.comp_def, List.length_map, k2]; exact k1) (by simp)
          rw [this]
          simp [k2, hzs', List.map_map, Function.comp_def]
        let arr : Array Value := ((qs.toList.map fun q => (a.eval q.2).cells.toList)).flatten.toArray
        obtain ⟨f1, f2, f3⟩ := alloc_facts w (.cells arr e)
        have hrow : Row g (ps.flatMap fun x => (x.ev s.E).cells) arr.toList := by simpa [arr] using k4
        obtain ⟨m1, m2⟩ := h.make hf hlt (.cells e true (ps.flatMap fun x => (x.ev s.E).cells)) 0 f1 f2 f3 rfl rfl rfl ⟨_, _, rfl, (hrow.up (Gh.add_up hf _ _)).obj⟩
        have hin : inf.size = sz := by simpa [sizeT, i1] using u2
        refine goes_at (w' := w.alloc (.cells arr e)) (cv := .slice (some ⟨w.heap.size, 0, none⟩) ps.length ps.length) ?_ m1 m2 ?_ hn
        · have h24' : ¬ (16777216 < ps.length * sz) := by omega
          simp only [Array.toList_map, zs] at hfill
          by_cases h0 : ps.length * sz = 0
          · have hp0 : ps.length = 0 := by
              rcases Nat.mul_eq_zero.1 h0 with h | h
              · exact h
              · omega
            have hq0 : qs.toList = [] := List.eq_nil_of_length_eq_zero (by omega)
            have hq0' : qs = #[] := by simpa using hq0
            simp [execOp, Instr.buildSlice, run_underlying u1, sizeOf, typeInfo, i1, hin, h24', h0, hp0, hq0', Instr.fill, newRow, arr]
            rw [show Array.range 0 = #[] from Array.eq_empty_of_size_eq_zero (by simp), Array.map_empty]
          · simp [execOp, Instr.buildSlice, run_underlying u1, sizeOf, typeInfo, i1, hin, h24', h0, zeroValue, i4, hfill, newRow, arr]
        · have hm : ps.length ≤ maxI := by
            have : ps.length ≤ ps.length * sz := Nat.le_mul_of_pos_right _ hz
            unfold maxI; omega
          have := VRel.sl (g := g.add at_ w.heap.size 0) at_ 0 ps.length sz (some ps.length) ps.length (.inr rfl) hz (Nat.le_refl _) hm rfl
          simpa [Gh.add, upd] using this
      · simp at h1
    · simp at h1
  · simp at hc

theorem Row.over {cs news : List D} {us vs : List Value} (h : Row g cs us) (k : Row g news vs) (o : Nat) (hle : o + news.length ≤ cs.length) :
    Row g (cs.take o ++ news ++ cs.drop (o + news.length)) (us.take o ++ vs ++ us.drop (o + vs.length)) := by
  have hl := h.len
  have kl := k.len
  have g1 := over_get cs news o hle
  have g2 := over_get us vs o (by omega)
  refine ⟨by simp; omega, ?_, ?_⟩
  · intro c hc
    simp only [List.mem_append] at hc
    rcases hc with (hc | hc) | hc
    · exact h.one c (List.mem_of_mem_take hc)
    · exact k.one c hc
    · exact h.one c (List.mem_of_mem_drop hc)
  · intro i c cv hc hcv
    rw [g1] at hc
    rw [g2, ← kl] at hcv
    split at hc
    · rename_i hj
      rw [if_pos hj] at hcv
      exact k.rel _ _ _ hc hcv
    · rename_i hj
      rw [if_neg hj] at hcv
      exact h.rel _ _ _ hc hcv

theorem places_of (fs : List Field) (h : fs.all (fun f => (P.info? f.type).isSome) = true) :
    ∃ places, fs.mapM (fun f => (P.info? f.type).map fun i => (f.offset, i.size)) = some places ∧ ∀ (i : Nat) f n, fs[i]? = some f → sizeT P f.type = some n → places[i]? = some (f.offset, n) := by
  induction fs with
  | nil => exact ⟨[], rfl, by simp⟩
  | cons f fs ih =>
    simp only [List.all_cons, Bool.and_eq_true] at h
    obtain ⟨places, h1, h2⟩ := ih h.2
    obtain ⟨i, hi⟩ := Option.isSome_iff_exists.1 h.1
    refine ⟨(f.offset, i.size) :: places, by simp [List.mapM_cons, hi, h1], ?_⟩
    intro j f' n hf hn
    cases j with
    | zero =>
      simp at hf
      subst hf
      simp [sizeT, hi] at hn
      simp [hn]
    | succ j => exact h2 j f' n (by simpa using hf) hn


def partsOf (P : Program) (cx : Cx) (places : Nat → Option (Nat × Nat)) : List (Nat × Nat × ASrc) → List (Nat × Operand) → Prop
  | [], [] => True
  | (off, n, x) :: xs, (i, y) :: ys => places i = some (off, n) ∧ srcOK cx x y = true ∧ partsOf P cx places xs ys
  | _, _ => False

theorem lay_fill (h : SG g cx s w a) {places : Nat → Option (Nat × Nat)} :
    ∀ (ps : List (Nat × Nat × ASrc)) (qs : List (Nat × Operand)) (cs cs' : List D) (arr : Array Value), partsOf P cx places ps qs → Row g cs arr.toList →
      lay cs (ps.map fun p => (p.1, p.2.1, p.2.2.ev s.E)) = some cs' → ∃ arr', Instr.fill places arr (qs.map fun q => (q.1, a.eval q.2)) = some arr' ∧ Row g cs' arr'.toList
  | [], [], cs, cs', arr, _, hr, hl => by
    simp [lay] at hl
    subst hl
    exact ⟨arr, by simp [Instr.fill], hr⟩
  | (off, n, x) :: ps, (i, y) :: qs, cs, cs', arr, hb, hr, hl => by
    obtain ⟨hb1, hb2, hb3⟩ := hb
    simp only [List.map_cons, lay, chk_iff, Bool.and_eq_true, Tr.beq_iff, decide_eq_true_eq, Nat.ble_eq] at hl
    obtain ⟨⟨⟨hln, hone⟩, hle⟩, hl⟩ := hl
    have hrow := cells_row (src_rel hb2 h) hone
    have hsz : (a.eval y).cells.size = n := by have := hrow.len; simp at this; omega
    have harr : arr.size = cs.length := by have := hr.len; simpa using this.symm
    have hst := foldl_set (a.eval y).cells.toList off 0 arr (by simp [hsz]; omega)
    simp only [Nat.add_zero, Array.length_toList] at hst
    have hrow' := hr.over hrow off (by omega)
    simp only [hln, Array.length_toList] at hrow'
    rw [← hst] at hrow'
    obtain ⟨arr', k1, k2⟩ := lay_fill h ps qs _ cs' _ hb3 hrow' hl
    refine ⟨arr', ?_, k2⟩
    simp only [List.map_cons, Instr.fill, hb1, hsz]
    rw [if_neg (by simp; omega)]
    rw [← k1]
    congr 1
    rw [← Array.foldl_toList, Array.toList_zipIdx]
  | [], _ :: _, _, _, _, hb, _, _ => hb.elim
  | _ :: _, [], _, _, _, hb, _, _ => hb.elim

theorem bparts_of {fs : Array Field} {places : Nat → Option (Nat × Nat)} (hp : ∀ (i : Nat) f n, fs[i]? = some f → sizeT P f.type = some n → places i = some (f.offset, n)) :
    ∀ (ps : List (Nat × Nat × ASrc)) (qs : List (Nat × Operand)), bparts P cx fs ps qs = true → partsOf P cx places ps qs
  | [], [], _ => trivial
  | (off, n, x) :: ps, (i, y) :: qs, hb => by
    simp only [bparts, Bool.and_eq_true] at hb
    obtain ⟨hb1, hb2, hb3⟩ := hb
    split at hb1
    · rename_i f hf
      simp only [Bool.and_eq_true, beq_iff_eq] at hb1
      obtain ⟨rfl, hn⟩ := hb1
      exact ⟨hp i f n hf hn, hb2, bparts_of hp ps qs hb3⟩
    · simp at hb1
  | [], _ :: _, hb => by simp [bparts] at hb
  | _ :: _, [], hb => by simp [bparts] at hb
theorem aparts_of {sz : Nat} : ∀ (ps : List (Nat × Nat × ASrc)) (qs : List (Nat × Operand)), aparts cx sz ps qs = true → partsOf P cx (fun i => some (i * sz, sz)) ps qs
  | [], [], _ => trivial
  | (off, n, x) :: ps, (i, y) :: qs, hb => by
    simp only [aparts, Bool.and_eq_true, beq_iff_eq] at hb
    obtain ⟨rfl, rfl, hb2, hb3⟩ := hb
    exact ⟨rfl, hb2, aparts_of ps qs hb3⟩
  | [], _ :: _, hb => by simp [aparts] at hb
  | _ :: _, [], hb => by simp [aparts] at hb

theorem op_bld {zero : List D} {ps : List (Nat × Nat × ASrc)} (hc : chkB P cx (.bld zero ps) op = true) (hs : eff at_ s.E s.H (.bld zero ps) = some (v, ws)) (h : SG g cx s w a) (hn : Goes at_ cx g s w a dst v ws next) : (⟨dst, op, ty, pos, aft, gd⟩ : Oper).wp P a w next Q := by
  simp only [chkB] at hc
  split at hc
  · rename_i t qs
    simp only [Bool.and_eq_true] at hc
    obtain ⟨h1, h2⟩ := hc
    obtain ⟨i, z, hi, hz, hcs⟩ := zeroOK_facts h1
    simp only [eff, Option.map_eq_some_iff, Prod.mk.injEq] at hs
    obtain ⟨cs', hl, rfl, rfl⟩ := hs
    split at h2
    · rename_i fs u1
      simp only [Bool.and_eq_true] at h2
      obtain ⟨h2, h3⟩ := h2
      obtain ⟨places, e1, e2⟩ := places_of (P := P) fs.toList (by simpa using h3)
      obtain ⟨arr', f1, f2⟩ := lay_fill (P := P) (places := fun i => places.toArray[i]?) h ps qs.toList zero cs' z.cells (bparts_of (fun i f n hf hn => by simpa using e2 i f n (by simpa using hf) hn) ps qs.toList h2) (const1s_rel hcs) hl
      have hrun := run_build (P := P) w t (qs.map fun (i, y) => (i, a.eval y)) arr' (by
        simp only [Program.built, hi, u1, hz, e1]
        simpa using f1)
      exact goes_value h (cv := .agg arr') (by simp [execOp, hrun]) f2.agg hn
    · rename_i n e u1
      split at h2
      · rename_i sz hsz
        obtain ⟨arr', f1, f2⟩ := lay_fill (P := P) (places := fun i => some (i * sz, sz)) h ps qs.toList zero cs' z.cells (aparts_of ps qs.toList h2) (const1s_rel hcs) hl
        refine goes_value h (cv := .agg arr') ?_ f2.agg hn
        simp [execOp, Instr.build, zeroValue, typeInfo, hi, hz, run_underlying u1, run_sizeT hsz, f1]
      · simp at h2
    · simp at h2
  · simp at hc

theorem op_st {n : Nat} {x y : ASrc} (hc : chkB P cx (.st n x y) op = true) (hs : eff at_ s.E s.H (.st n x y) = some (v, ws)) (h : SG g cx s w a) (hn : Goes at_ cx g s w a dst v ws next) : (⟨dst, op, ty, pos, aft, gd⟩ : Oper).wp P a w next Q := by
  simp only [chkB] at hc
  split at hc
  · rename_i t x' v'
    simp only [Bool.and_eq_true, beq_iff_eq] at hc
    obtain ⟨h1, h2, h3⟩ := hc
    have r1 := src_rel h2 h
    have r2 := src_rel h3 h
    simp only [eff] at hs
    split at hs
    · rename_i id o hx
      split at hs
      · rename_i e f cs ho
        simp only [chk_iff, Bool.and_eq_true, Option.some.injEq, Prod.mk.injEq, Tr.beq_iff, decide_eq_true_eq, Nat.ble_eq] at hs
        obtain ⟨⟨⟨hln, hone⟩, hle⟩, rfl, rfl⟩ := hs
        rw [hx] at r1
        generalize hcx : a.eval x' = cxx at r1
        cases r1 with
        | ptr _ _ hA =>
          have ho := cells?_some ho
          obtain ⟨arr, fz, hb, hok⟩ := h.hr.obj _ _ _ _ ho
          have hlen := hok.len
          have hrow := cells_row r2 hone
          have hsz : (a.eval v').cells.size = n := by have := hrow.len; simp at this; omega
          have hcold : ∀ j, j < cs.length → w.frozen? ⟨g.ρ id, j, none⟩ = false := by
            intro j hj
            have := hok.cold j (by
              cases f with
              | true => simp; omega
              | false => have := (hok.part rfl).1; simp; omega)
            simp only [World.frozen?, hb]
            simpa using this
          have hrun : (execOp a.eval ⟨dst, .store t x' v', ty, pos, aft, gd⟩).run P w = .ok .skip (w.setCells (g.ρ id) o (a.eval v').cells.toList) := by
            have := run_storeCells_cells (P := P) (g.ρ id) o (a.eval v').cells.toList 0 w
              (fun j hj => by rw [cell_of_heap hb, Array.getElem?_eq_getElem (by simp at hj; omega)]; rfl)
              (fun j hj => hcold _ (by simp at hj; omega))
              (fun u hu => by
                obtain ⟨j, hj, rfl⟩ := List.mem_iff_getElem.1 hu
                have hj' : j < (y.ev s.E).cells.length := by rw [hrow.len]; exact hj
                exact (hrow.rel j _ _ (List.getElem?_eq_getElem hj') (List.getElem?_eq_getElem hj)).oneCell (hrow.one _ (List.getElem_mem hj')))
            simp [execOp, hcx, Instr.storeAt, Instr.sureAddr, storeVar, run_sizeT h1, hsz, this]
          obtain ⟨_, q3, q4, q5, q6, q7⟩ := setCells_heap (g.ρ id) (a.eval v').cells.toList o w arr e fz hb
          obtain ⟨arr', k1, k2, k3⟩ := setCells_row hb o (a.eval v').cells.toList (by simp; omega)
          have hg := over_get cs (y.ev s.E).cells o (by omega)
          rw [hln] at hg
          have hcl : (cs.take o ++ (y.ev s.E).cells ++ cs.drop (o + n)).length = cs.length := by simp; omega
          obtain ⟨m1, m2⟩ := h.turn (F := fun id => id = at_) ho (.cells e f (cs.take o ++ (y.ev s.E).cells ++ cs.drop (o + n))) q4 q3 k1 q5 q6 q7 ⟨arr', fz, rfl, by omega, fun hf => by have := hok.whole hf; omega, fun hf => by have := hok.part hf; omega, by
              have := hok.cold; rw [k2]; exact this, by
              intro c hc
              simp only [List.mem_append] at hc
              rcases hc with (hc | hc) | hc
              · exact hok.one c (List.mem_of_mem_take hc)
              · exact hrow.one c hc
              · exact hok.one c (List.mem_of_mem_drop hc), by
              intro j c cv hc hcv
              rw [hg] at hc
              rw [k3] at hcv
              simp only [Array.length_toList, hsz] at hcv
              split at hc
              · rename_i hj
                rw [if_pos hj] at hcv
                exact hrow.rel _ _ _ hc hcv
              · rename_i hj
                rw [if_neg hj] at hcv
                exact hok.rel _ _ _ hc hcv⟩
          unfold Oper.wp
          rw [hrun, Oper.upon_skip]
          exact hn _ _ g (m1.put dst (.undef _)) m2 (put_defers _ _ _)
      · simp at hs
    · simp at hs
  · simp at hc

theorem op_mkm  (hc : chkB P cx (.mkm) op = true) (hs : eff at_ s.E s.H (.mkm) = some (v, ws)) (h : SG g cx s w a) (hf : ¬ g.A at_) (hlt : at_ < s.n) (hn : Goes at_ cx g s w a dst v ws next) : (⟨dst, op, ty, pos, aft, gd⟩ : Oper).wp P a w next Q := by
  simp only [chkB] at hc
  split at hc
  · rename_i t
    simp only [eff, Option.some.injEq, Prod.mk.injEq] at hs
    obtain ⟨rfl, rfl⟩ := hs
    obtain ⟨f1, f2, f3⟩ := alloc_facts w (.map #[] 0)
    obtain ⟨k1, k2⟩ := h.make hf hlt (.map []) 0 f1 f2 f3 rfl rfl rfl ⟨#[], 0, rfl, rfl, rfl, by simp⟩
    refine goes_at (w' := w.alloc (.map #[] 0)) (cv := .map (some w.heap.size)) ?_ k1 k2 ?_ hn
    · simp [execOp, Instr.makeMap]
    · have := VRel.mp (g := g.add at_ w.heap.size 0) at_ (.inr rfl)
      simpa [Gh.add, upd] using this
  · simp at hc
end
end Go.DM
