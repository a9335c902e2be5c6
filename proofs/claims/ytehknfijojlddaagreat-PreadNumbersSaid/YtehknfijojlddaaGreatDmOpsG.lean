/-
  Maps.
-/
import Derived.Test.YtehknfijojlddaaGreatDmOpsF
namespace Go.DM
open Go.MapKept
set_option autoImplicit false
set_option linter.unusedSimpArgs false
set_option linter.unusedVariables false
section
variable {g g' : Gh} {cx : Cx} {s : FS} {w w' : World} {a : Act} {P : Program} {at_ : Nat} {v : D} {ws : List (Nat × Option Obj)} {next : Act → World → Prop} {Q : Exit → Act → World → Prop}
  {dst : Option Nat} {op : Op} {ty : TypeId} {pos : String} {aft : Array Edge} {gd : Option (Nat × Bool)}

theorem beq_bytes {x y : ByteArray} {l m : List Nat} (hx : x.data.toList.map (·.toNat) = l) (hy : y.data.toList.map (·.toNat) = m) : (x == y) = eqL l m := by
  subst hx hy
  rw [eqL_map, Bool.eq_iff_iff, bytes_beq, decide_eq_true_iff]
  constructor
  · rintro rfl; rfl
  · intro h
    obtain ⟨x⟩ := x
    obtain ⟨y⟩ := y
    congr 1
    exact Array.toList_inj.1 h

/-- one cell of a key -/
theorem eqV_cell {x y : D} {cv dv : Value} {b : Bool} (h1 : VRel g x cv) (h2 : VRel g y dv) (he : eqV x y = some b) :
    (b = true → ∀ n, Instr.sameBits n dv cv = true) ∧ ((∃ k n m, x = .int k n ∧ cv = .int k n ∧ dv = .int k m ∧ b = (n == m)) ∨ (∃ l p q, x = .str l ∧ cv = .string p ∧ dv = .string q ∧ b = (p == q))) := by
  unfold eqV at he
  split at he
  · rename_i k n k' m
    rw [chk_iff] at he
    obtain ⟨hk, he⟩ := he
    obtain rfl := sameK_eq hk
    obtain rfl := Option.some.inj he
    cases h1
    cases h2
    have e : eqI n m = (n == m) := by rw [eqI_eq]; rfl
    refine ⟨fun hb j => ?_, .inl ⟨k, n, m, rfl, rfl, rfl, e⟩⟩
    rw [e] at hb
    have : n = m := by simpa using hb
    subst this
    cases j <;> simp [Instr.sameBits]
  · rename_i l m
    obtain rfl := Option.some.inj he
    cases h1 with
    | str _ p hp _ =>
    cases h2 with
    | str _ q hq _ =>
    have e : eqL l m = (p == q) := (beq_bytes hp hq).symm
    refine ⟨fun hb j => ?_, .inr ⟨l, p, q, rfl, rfl, rfl, e⟩⟩
    rw [e] at hb
    have : p = q := (bytes_beq _ _).1 hb
    subst this
    cases j <;> simp [Instr.sameBits, (bytes_beq _ _).2 rfl]
  · simp at he

theorem keyT_0 {t n : Nat} (h : keyT P t 0 n = true) : ∃ k, P.underlying t = some (.int k) := by unfold keyT at h; split at h <;> first | exact ⟨_, by assumption⟩ | contradiction
theorem keyT_1 {t n : Nat} (h : keyT P t 1 n = true) : P.underlying t = some .string := by unfold keyT at h; split at h <;> first | assumption | contradiction
theorem keyT_2 {t n : Nat} (h : keyT P t 2 n = true) : ∃ e k, P.underlying t = some (.array n e) ∧ sizeT P e = some 1 ∧ P.underlying e = some (.int k) := by
  unfold keyT at h
  split at h <;> first | contradiction | skip
  rename_i n' e _ hu
  simp only [Bool.and_eq_true, beq_iff_eq] at h
  obtain ⟨rfl, h1, h2⟩ := h
  split at h2
  · exact ⟨e, _, hu, h1, by assumption⟩
  · simp at h2
theorem keyT_3 {t n : Nat} (h : keyT P t 3 n = true) : ∃ e, P.underlying t = some (.array n e) ∧ sizeT P e = some 1 ∧ P.underlying e = some .string := by
  unfold keyT at h
  split at h <;> first | contradiction | skip
  rename_i n' e _ hu
  simp only [Bool.and_eq_true, beq_iff_eq] at h
  obtain ⟨rfl, h1, h2⟩ := h
  split at h2
  · exact ⟨e, hu, h1, by assumption⟩
  · simp at h2

/-- which operands a key's cells are -/
def cellKind (P : Program) (e : Nat) (c : D) : Prop := (∃ k, P.underlying e = some (.int k) ∧ ∃ k n, c = .int k n) ∨ (P.underlying e = some .string ∧ ∃ l, c = .str l)

theorem part_one {e : Nat} (he : isAggT P e = some false) {xs : Array Value} {j : Nat} {u : Value} (hu : xs[j]? = some u) (w : World) : (part e xs j).run P w = .ok u w := by
  simp [part, run_isAggT he, hu]

theorem eqItems_rel {e : Nat} (he : isAggT P e = some false) (d : Nat) {xs ys : Array Value} : ∀ (cs ds : List D) (j : Nat) (b : Bool), (∀ c ∈ cs, cellKind P e c) → (∀ (i : Nat) c cv, cs[i]? = some c → xs[j + i]? = some cv → VRel g c cv) → (∀ (i : Nat) c cv, ds[i]? = some c → ys[j + i]? = some cv → VRel g c cv) →
    j + cs.length ≤ xs.size → j + ds.length ≤ ys.size → eqC cs ds = some b → ∀ w : World, (Op.eqItems (d + 1) e 1 xs ys (List.range' j cs.length)).run P w = .ok b w
  | [], [], j, b, _, _, _, _, _, h, w => by
    simp only [eqC, Option.some.injEq] at h
    subst h
    simp [Op.eqItems]
  | c :: cs, c' :: ds, j, b, hk, h1, h2, l1, l2, h, w => by
    simp only [List.length_cons] at l1 l2
    have x1 : xs[j]? = some (xs[j]'(by omega)) := Array.getElem?_eq_getElem _
    have y1 : ys[j]? = some (ys[j]'(by omega)) := Array.getElem?_eq_getElem _
    have r1 := h1 0 c _ rfl x1
    have r2 := h2 0 c' _ rfl y1
    generalize xs[j]'(by omega) = u at x1 r1
    generalize ys[j]'(by omega) = u' at y1 r2
    have p1 := part_one he x1 w
    have p2 := part_one he y1 w
    have head : ∀ b', eqV c c' = some b' → (Op.equalIn (d + 1) e u u').run P w = .ok b' w := by
      intro b' hb'
      obtain ⟨-, hh⟩ := eqV_cell r1 r2 hb'
      rcases hk c (List.mem_cons_self ..) with ⟨k0, hu, k1, n1, hc⟩ | ⟨hu, l0, hc⟩
      · rcases hh with ⟨k, n, m, q1, rfl, rfl, rfl⟩ | ⟨l, p, q, q1, rfl, rfl, rfl⟩
        · simp [Op.equalIn, run_underlying hu]
        · rw [hc] at q1; cases q1
      · rcases hh with ⟨k, n, m, q1, rfl, rfl, rfl⟩ | ⟨l, p, q, q1, rfl, rfl, rfl⟩
        · rw [hc] at q1; cases q1
        · simp [Op.equalIn, run_underlying hu]
    rw [List.length_cons, List.range'_succ]
    simp only [Op.eqItems, Sem.run_bind, Nat.mul_one, p1, p2, Result.andThen_ok]
    simp only [eqC] at h
    split at h
    · rename_i hb'
      rw [head _ hb']
      simp only [Result.andThen_ok, Bool.not_true, Bool.false_eq_true, if_false]
      exact eqItems_rel he d cs ds (j + 1) b (fun c hc => hk c (List.mem_cons_of_mem _ hc)) (fun i c cv hc hcv => h1 (i + 1) c cv (by simpa using hc) (by rw [← hcv]; congr 1; omega)) (fun i c cv hc hcv => h2 (i + 1) c cv (by simpa using hc) (by rw [← hcv]; congr 1; omega)) (by omega) (by omega) h w
    · rename_i hb'
      obtain rfl := Option.some.inj h
      rw [head _ hb']
      simp
    · simp at h
  | [], _ :: _, _, _, _, _, _, _, _, h, _ => by simp [eqC] at h
  | _ :: _, [], _, _, _, _, _, _, _, h, _ => by simp [eqC] at h

theorem eqC_bits {xs ys : List Value} : ∀ (cs ds : List D), (∀ (i : Nat) c cv, cs[i]? = some c → xs[i]? = some cv → VRel g c cv) → (∀ (i : Nat) c cv, ds[i]? = some c → ys[i]? = some cv → VRel g c cv) → cs.length = xs.length → ds.length = ys.length → eqC cs ds = some true →
    xs.length = ys.length ∧ ∀ n, (ys.zip xs).all (fun (x, y) => Instr.sameBits n x y) = true := by
  intro cs
  induction cs generalizing xs ys with
  | nil =>
    intro ds _ _ l1 l2 h
    cases ds with
    | cons => simp [eqC] at h
    | nil =>
      have e1 : xs = [] := by simpa using l1.symm
      have e2 : ys = [] := by simpa using l2.symm
      subst e1 e2; simp
  | cons c cs ih =>
    intro ds h1 h2 l1 l2 h
    cases ds with
    | nil => simp [eqC] at h
    | cons c' ds =>
      cases xs with
      | nil => simp at l1
      | cons x xs =>
      cases ys with
      | nil => simp at l2
      | cons y ys =>
      simp only [eqC] at h
      split at h
      · rename_i hb
        obtain ⟨hs, -⟩ := eqV_cell (h1 0 c x rfl rfl) (h2 0 c' y rfl rfl) hb
        obtain ⟨k1, k2⟩ := ih (xs := xs) (ys := ys) ds (fun i c cv hc hcv => h1 (i + 1) c cv (by simpa using hc) (by simpa using hcv)) (fun i c cv hc hcv => h2 (i + 1) c cv (by simpa using hc) (by simpa using hcv)) (by simpa using l1) (by simpa using l2) h
        refine ⟨by simp [k1], fun n => ?_⟩
        simp only [List.zip_cons_cons, List.all_cons, Bool.and_eq_true]
        exact ⟨hs rfl n, k2 n⟩
      · simp at h
      · simp at h

/-- what the machine finds is what the model finds -/
def Found (P : Program) (kt : Nat) (kv : Value) (es : List (D × D)) (ents : List MapEntry) (i : Nat) (w : World) : Option (Nat × D) → Option (Nat × Value) → Prop
  | none, none => True
  | some (j, v), some (j', u) => j' = j ∧ i ≤ j ∧ (∃ k', es[j - i]? = some (k', v)) ∧ ∃ en, ents[j - i]? = some en ∧ u = en.val ∧ Instr.sameBits 10000 en.key kv = true
  | _, _ => False

theorem Found.more {kt : Nat} {kv : Value} {es : List (D × D)} {ents : List MapEntry} {i : Nat} {e0 : D × D} {en0 : MapEntry} {r : Option (Nat × D)} {r' : Option (Nat × Value)} (h : Found P kt kv es ents (i + 1) w r r') : Found P kt kv (e0 :: es) (en0 :: ents) i w r r' := by
  cases r with
  | none => cases r' <;> exact h
  | some p =>
    obtain ⟨j, v⟩ := p
    cases r' with
    | none => exact h
    | some q =>
      obtain ⟨j', u⟩ := q
      obtain ⟨rfl, h1, ⟨k', h2⟩, en, h3, h4, h5⟩ := h
      have e : j' - i = (j' - (i + 1)) + 1 := by omega
      exact ⟨rfl, by omega, ⟨k', by rw [e]; simpa using h2⟩, en, by rw [e]; simpa using h3, h4, h5⟩

theorem scalar_now {kt kk n : Nat} {k a : D} {kv av : Value} {b : Bool} (hk2 : kk = 0 ∨ kk = 1) (ht : keyT P kt kk n = true) (hk : isKey kk n k = true) (h1 : VRel g k kv) (h2 : VRel g a av) (he : eqD k a = some b) :
    ∃ d, P.underlying kt = some d ∧ Instr.sameNow d kv av = some b ∧ (b = true → Instr.sameBits 10000 av kv = true) := by
  have hv : eqV k a = some b := by
    unfold eqD at he
    split at he
    · rcases hk2 with rfl | rfl <;> simp [isKey] at hk
    · exact he
  obtain ⟨q1, q2⟩ := eqV_cell h1 h2 hv
  rcases hk2 with rfl | rfl
  · obtain ⟨k0, hu⟩ := keyT_0 ht
    refine ⟨_, hu, ?_, fun hb => q1 hb _⟩
    rcases q2 with ⟨k, n, m, rfl, rfl, rfl, rfl⟩ | ⟨l, p, q, rfl, rfl, rfl, rfl⟩
    · simp [Instr.sameNow]
    · simp [isKey] at hk
  · have hu := keyT_1 ht
    refine ⟨_, hu, ?_, fun hb => q1 hb _⟩
    rcases q2 with ⟨k, n, m, rfl, rfl, rfl, rfl⟩ | ⟨l, p, q, rfl, rfl, rfl, rfl⟩
    · simp [isKey] at hk
    · simp [Instr.sameNow]

theorem found_now {kt kk n : Nat} {k : D} {kv : Value} (hk2 : kk = 0 ∨ kk = 1) (ht : keyT P kt kk n = true) (hk : isKey kk n k = true) (h1 : VRel g k kv) {d : TypeDesc} (hd : P.underlying kt = some d) : ∀ (es : List (D × D)) (ents : List MapEntry) (i : Nat) (r : Option (Nat × D)),
    es.length = ents.length → (∀ (j : Nat) k v en, es[j]? = some (k, v) → ents[j]? = some en → VRel g k en.key) → findK k es i = some r → ∃ r', Instr.findNow d kv ents i = some r' ∧ Found P kt kv es ents i w r r'
  | [], ents, i, r, hl, _, h => by
    have : ents = [] := by simpa using hl.symm
    subst this
    simp only [findK, Option.some.injEq] at h
    subst h
    exact ⟨none, rfl, trivial⟩
  | (a, v) :: es, [], i, r, hl, _, h => by simp at hl
  | (a, v) :: es, en :: ents, i, r, hl, hr, h => by
    have r0 := hr 0 a v en rfl rfl
    simp only [findK] at h
    split at h
    · rename_i hb
      obtain rfl := Option.some.inj h
      obtain ⟨d', hd', h3, h4⟩ := scalar_now hk2 ht hk h1 r0 hb
      rw [hd] at hd'
      cases hd'
      exact ⟨some (i, en.val), by simp [Instr.findNow, h3], rfl, Nat.le_refl _, ⟨a, by simp⟩, en, by simp, rfl, h4 rfl⟩
    · rename_i hb
      obtain ⟨d', hd', h3, h4⟩ := scalar_now hk2 ht hk h1 r0 hb
      rw [hd] at hd'
      cases hd'
      obtain ⟨r', q1, q2⟩ := found_now hk2 ht hk h1 hd es ents (i + 1) r (by simpa using hl) (fun j k v en h1 h2 => hr (j + 1) k v en (by simpa using h1) (by simpa using h2)) h
      exact ⟨r', by simp [Instr.findNow, h3, q1], q2.more⟩
    · simp at h

theorem isKey_2 {n : Nat} {k : D} (h : isKey 2 n k = true) : ∃ cs, k = .agg cs ∧ cs.length = n ∧ ∀ c ∈ cs, ∃ k n, c = .int k n := by
  unfold isKey at h
  split at h <;> first | contradiction | skip
  rename_i cs _
  simp only [Bool.and_eq_true, Tr.beq_iff, decide_eq_true_eq, lenL_eq, Nat.zero_add, List.all_eq_true] at h
  refine ⟨_, rfl, h.1, fun c hc => ?_⟩
  have := h.2 c hc
  split at this
  · exact ⟨_, _, rfl⟩
  · simp at this
theorem isKey_3 {n : Nat} {k : D} (h : isKey 3 n k = true) : ∃ cs, k = .agg cs ∧ cs.length = n ∧ ∀ c ∈ cs, ∃ l, c = .str l := by
  unfold isKey at h
  split at h <;> first | contradiction | skip
  rename_i cs _
  simp only [Bool.and_eq_true, Tr.beq_iff, decide_eq_true_eq, lenL_eq, Nat.zero_add, List.all_eq_true] at h
  refine ⟨_, rfl, h.1, fun c hc => ?_⟩
  have := h.2 c hc
  split at this
  · exact ⟨_, rfl⟩
  · simp at this

theorem array_eq {kt kk n : Nat} {k a : D} {kv av : Value} {b : Bool} (hk2 : kk = 2 ∨ kk = 3) (ht : keyT P kt kk n = true) (hk : isKey kk n k = true) (h1 : VRel g k kv) (h2 : VRel g a av) (he : eqD k a = some b) :
    (∀ w : World, (Op.equal kt kv av).run P w = .ok b w) ∧ (b = true → Instr.sameBits 10000 av kv = true) := by
  obtain ⟨cs, rfl, hlen, hall⟩ : ∃ cs, k = .agg cs ∧ cs.length = n ∧ ∃ e, P.underlying kt = some (.array n e) ∧ sizeT P e = some 1 ∧ isAggT P e = some false ∧ ∀ c ∈ cs, cellKind P e c := by
    rcases hk2 with rfl | rfl
    · obtain ⟨e, k0, hu, hs, hee⟩ := keyT_2 ht
      obtain ⟨cs, rfl, h3, h4⟩ := isKey_2 hk
      exact ⟨cs, rfl, h3, e, hu, hs, by simp [isAggT, hee], fun c hc => .inl ⟨k0, hee, h4 c hc⟩⟩
    · obtain ⟨e, hu, hs, hee⟩ := keyT_3 ht
      obtain ⟨cs, rfl, h3, h4⟩ := isKey_3 hk
      exact ⟨cs, rfl, h3, e, hu, hs, by simp [isAggT, hee], fun c hc => .inr ⟨hee, h4 c hc⟩⟩
  obtain ⟨e, hu, hs, hag, hck⟩ := hall
  unfold eqD at he
  split at he
  · rename_i x y hx
    cases hx
    cases h1 with
    | agg _ xs l1 _ v1 =>
    cases h2 with
    | agg _ ys l2 _ v2 =>
    obtain ⟨inf, hi⟩ : ∃ i, P.info? e = some i ∧ i.size = 1 := by
      unfold sizeT at hs
      obtain ⟨i, hi, h⟩ := Option.map_eq_some_iff.1 hs
      exact ⟨i, hi, h⟩
    have hco : P.cellsOf e = 1 := by simp [Program.cellsOf, hi.1, hi.2]
    refine ⟨fun w => ?_, fun hb => ?_⟩
    · show (Op.equalIn (9999 + 1) kt (.agg xs) (.agg ys)).run P w = _
      rw [run_equalIn_array w 9999 xs ys hu hi.1, hco, List.range_eq_range', ← hlen]
      exact eqItems_rel hag 9998 cs y 0 b hck (fun i c cv hc hcv => v1 i c cv hc (by simpa using hcv)) (fun i c cv hc hcv => v2 i c cv hc (by simpa using hcv)) (by omega) (by omega) he w
    · subst hb
      obtain ⟨q1, q2⟩ := eqC_bits (xs := xs.toList) (ys := ys.toList) cs y (fun i c cv hc hcv => v1 i c cv hc (by simpa using hcv)) (fun i c cv hc hcv => v2 i c cv hc (by simpa using hcv)) (by simpa using l1) (by simpa using l2) he
      have e2 : xs.size = ys.size := by simpa using q1
      have := q2 9999
      show (ys.size == xs.size && (ys.toList.zip xs.toList).all fun (x, y) => Instr.sameBits 9999 x y) = true
      rw [this, e2]
      simp
  · rename_i hno
    exfalso
    unfold eqV at he
    split at he
    · simp at *
    · simp at *
    · simp at he

theorem found_ask {kt kk n : Nat} {k : D} {kv : Value} (hk2 : kk = 2 ∨ kk = 3) (ht : keyT P kt kk n = true) (hk : isKey kk n k = true) (h1 : VRel g k kv) : ∀ (es : List (D × D)) (ents : List MapEntry) (i : Nat) (r : Option (Nat × D)),
    es.length = ents.length → (∀ (j : Nat) k v en, es[j]? = some (k, v) → ents[j]? = some en → VRel g k en.key) → findK k es i = some r → ∃ r', (Instr.findAsking kt kv ents i).run P w = .ok r' w ∧ Found P kt kv es ents i w r r'
  | [], ents, i, r, hl, _, h => by
    have : ents = [] := by simpa using hl.symm
    subst this
    simp only [findK, Option.some.injEq] at h
    subst h
    exact ⟨none, by simp [Instr.findAsking], trivial⟩
  | (a, v) :: es, [], i, r, hl, _, h => by simp at hl
  | (a, v) :: es, en :: ents, i, r, hl, hr, h => by
    have r0 := hr 0 a v en rfl rfl
    simp only [findK] at h
    split at h
    · rename_i hb
      obtain rfl := Option.some.inj h
      obtain ⟨h3, h4⟩ := array_eq hk2 ht hk h1 r0 hb
      exact ⟨some (i, en.val), by simp [Instr.findAsking, h3], rfl, Nat.le_refl _, ⟨a, by simp⟩, en, by simp, rfl, h4 rfl⟩
    · rename_i hb
      obtain ⟨h3, h4⟩ := array_eq hk2 ht hk h1 r0 hb
      obtain ⟨r', q1, q2⟩ := found_ask hk2 ht hk h1 es ents (i + 1) r (by simpa using hl) (fun j k v en h1 h2 => hr (j + 1) k v en (by simpa using h1) (by simpa using h2)) h
      exact ⟨r', by simp [Instr.findAsking, h3, q1], q2.more⟩
    · simp at h

theorem isKey_kk {kk n : Nat} {k : D} (h : isKey kk n k = true) : (kk = 0 ∨ kk = 1) ∨ (kk = 2 ∨ kk = 3) := by
  unfold isKey at h
  split at h <;> simp at *

theorem found_key {kt kk n : Nat} {k : D} {kv : Value} {es : List (D × D)} {ents : Array MapEntry} {clock : Nat} {r : Option (Nat × D)} (ht : keyT P kt kk n = true) (hk : isKey kk n k = true) (h1 : VRel g k kv) (hm : MapOK g es ents clock) (hf : findK k es 0 = some r) :
    ∃ r', (Instr.findKey kt kv ents.toList).run P w = .ok r' w ∧ Found P kt kv es ents.toList 0 w r r' := by
  have hr : ∀ (j : Nat) k v en, es[j]? = some (k, v) → ents.toList[j]? = some en → VRel g k en.key := fun j k v en h1 h2 => (hm.2.2 j k v en h1 (by simpa using h2)).2.1
  rcases isKey_kk hk with hk2 | hk2
  · have : ∃ d, P.underlying kt = some d := by
      rcases hk2 with rfl | rfl
      · obtain ⟨k, h⟩ := keyT_0 ht; exact ⟨_, h⟩
      · exact ⟨_, keyT_1 ht⟩
    obtain ⟨d, hd⟩ := this
    obtain ⟨r', q1, q2⟩ := found_now (w := w) hk2 ht hk h1 hd es ents.toList 0 r (by simpa using hm.1) hr hf
    exact ⟨r', run_findKey hd q1, q2⟩
  · obtain ⟨r', q1, q2⟩ := found_ask (w := w) hk2 ht hk h1 es ents.toList 0 r (by simpa using hm.1) hr hf
    refine ⟨r', ?_, q2⟩
    rw [run_findKey_eq w ?_ kv ents.toList]
    · exact q1
    · rcases hk2 with rfl | rfl
      · obtain ⟨e, k, hu, _⟩ := keyT_2 ht; rw [hu]
      · obtain ⟨e, hu, _⟩ := keyT_3 ht; rw [hu]

/-- a key that may be one -/
theorem check_items {e : Nat} (he : isAggT P e = some false) (em : Bool) (d : Nat) {xs : Array Value} (hok : ∀ (j : Nat) u, xs[j]? = some u → (Instr.checkKey em d e u).run P w = .ok () w) (hs : sizeT P e = some 1) : ∀ (n j : Nat), j + n ≤ xs.size →
    (forIn (List.range' j n) PUnit.unit fun i r => do Instr.checkKey em d e (← part e xs (i * (← sizeOf e))); pure (ForInStep.yield PUnit.unit) : Sem PUnit).run P w = .ok PUnit.unit w
  | 0, j, h => by simp
  | n + 1, j, h => by
    have hx : xs[j]? = some (xs[j]'(by omega)) := Array.getElem?_eq_getElem _
    have p1 := part_one he hx w
    rw [List.range'_succ, List.forIn_cons]
    simp only [Sem.run_bind, run_sizeT hs, Result.andThen_ok, Nat.mul_one, p1, hok j _ hx, Sem.run_pure]
    exact check_items he em d hok hs n (j + 1) (by omega)

theorem check_key' (q : Nat) {kt kk n : Nat} {k : D} {kv : Value} (ht : keyT P kt kk n = true) (hk : isKey kk n k = true) (h1 : VRel g k kv) (em : Bool) : (Instr.checkKey em (q + 2) kt kv).run P w = .ok () w := by
  rcases isKey_kk hk with (rfl | rfl) | (rfl | rfl)
  · obtain ⟨k0, hu⟩ := keyT_0 ht
    simp [Instr.checkKey, run_underlying hu]
  · have hu := keyT_1 ht
    simp [Instr.checkKey, run_underlying hu]
  · obtain ⟨e, k0, hu, hs, he⟩ := keyT_2 ht
    obtain ⟨cs, rfl, h3, h4⟩ := isKey_2 hk
    cases h1 with
    | agg _ xs l1 _ v1 =>
    have := check_items (P := P) (w := w) (e := e) (by simp [isAggT, he]) em (q + 1) (xs := xs) (fun j u _ => by
      simp [Instr.checkKey, run_underlying he]) hs n 0 (by omega)
    rw [Instr.checkKey]
    simp only [Sem.run_bind, run_underlying hu, Result.andThen_ok]
    simp only [Std.Legacy.Range.forIn_eq_forIn_range', Std.Legacy.Range.size, Nat.sub_zero, Nat.add_one_sub_one, Nat.div_one]
    simp at this ⊢
    rw [this]
    rfl
  · obtain ⟨e, hu, hs, he⟩ := keyT_3 ht
    obtain ⟨cs, rfl, h3, h4⟩ := isKey_3 hk
    cases h1 with
    | agg _ xs l1 _ v1 =>
    have := check_items (P := P) (w := w) (e := e) (by simp [isAggT, he]) em (q + 1) (xs := xs) (fun j u _ => by
      simp [Instr.checkKey, run_underlying he]) hs n 0 (by omega)
    rw [Instr.checkKey]
    simp only [Sem.run_bind, run_underlying hu, Result.andThen_ok]
    simp only [Std.Legacy.Range.forIn_eq_forIn_range', Std.Legacy.Range.size, Nat.sub_zero, Nat.add_one_sub_one, Nat.div_one]
    simp at this ⊢
    rw [this]
    rfl

theorem check_key {kt kk n : Nat} {k : D} {kv : Value} (ht : keyT P kt kk n = true) (hk : isKey kk n k = true) (h1 : VRel g k kv) (em : Bool) : (Instr.checkKey em 10000 kt kv).run P w = .ok () w := check_key' 9998 ht hk h1 em

theorem mapT_facts {t kk n : Nat} {k : Nat → Bool} (h : mapT P t kk n k = true) : ∃ kt e, P.underlying t = some (.map kt e) ∧ keyT P kt kk n = true ∧ k e = true := by
  unfold mapT at h
  split at h
  · rename_i kt e hu
    simp only [Bool.and_eq_true] at h
    exact ⟨kt, e, hu, h.1, h.2⟩
  · simp at h

theorem zeroV_rel {e : Nat} {zero : List D} {agg : Bool} (h : zeroV P e zero agg = true) : ∃ z, VRel g (loaded agg zero) z ∧ ∀ w : World, (zeroValue e).run P w = .ok z w := by
  unfold zeroV at h
  simp only [Bool.and_eq_true, Bool.or_eq_true, beq_iff_eq] at h
  obtain ⟨h1, ⟨h2, h3⟩, h4⟩ := h
  obtain ⟨i, z, hi, hz, hcs⟩ := zeroOK_facts h1
  simp only [hi, hz] at h4
  refine ⟨z, ?_, fun w => by simp [zeroValue, typeInfo, hi, hz]⟩
  have hr := const1s_rel (g := g) hcs
  have := loaded_rel (agg := agg) hr h3
  cases agg with
  | true =>
    split at h4
    · rename_i cs
      simpa [Value.cells] using this
    · simp at h4
    · simp at h4
  | false =>
    have e2 : (if false = true then Value.agg z.cells.toList.toArray else z.cells.toList.headD undef) = z := by
      split at h4
      · simp at h4
      · simp at h4
      · rename_i z' n1 n2
        cases z <;> simp [Value.cells] at *
    rw [e2] at this
    exact this

theorem op_lkp {kk n : Nat} {zero : List D} {agg ok : Bool} {x k : ASrc} (hc : chkC P cx (.lkp kk n zero agg ok x k) op = true) (hs : eff at_ s.E s.H (.lkp kk n zero agg ok x k) = some (v, ws)) (h : SG g cx s w a) (hn : Goes at_ cx g s w a dst v ws next) : (⟨dst, op, ty, pos, aft, gd⟩ : Oper).wp P a w next Q := by
  simp only [chkC] at hc
  split at hc
  · rename_i t x' k' ok'
    simp only [Bool.and_eq_true, beq_iff_eq] at hc
    obtain ⟨h1, rfl, h2, h3⟩ := hc
    obtain ⟨kt, e, hu, ht, hz⟩ := mapT_facts h1
    have r1 := src_rel h2 h
    have r2 := src_rel h3 h
    obtain ⟨z, z1, z2⟩ := zeroV_rel (g := g) hz
    simp only [eff, chk_iff] at hs
    obtain ⟨hk, hs⟩ := hs
    generalize hcx : a.eval x' = cxx at r1
    generalize hck : a.eval k' = ck at r2
    -- the entries
    have key : ∀ es ents clock, MapOK g es ents clock → ((cxx = .map none ∧ ents = #[]) ∨ ∃ r, cxx = .map (some r) ∧ w.heap[r]? = some (.map ents clock)) →
        (match findK (k.ev s.E) es 0 with
          | some (some (_, v)) => some (cond ok (.tup [v, .bool true]) v, [])
          | some none => some (cond ok (.tup [loaded agg zero, .bool false]) (loaded agg zero), ([] : List (Nat × Option Obj)))
          | none => none) = some (v, ws) → (⟨dst, .lookup t x' k' ok, ty, pos, aft, gd⟩ : Oper).wp P a w next Q := by
      intro es ents clock hm hrun hs
      have hchk := check_key (w := w) ht hk r2 ents.isEmpty
      cases hf : findK (k.ev s.E) es 0 with
      | none => rw [hf] at hs; simp at hs
      | some r =>
        rw [hf] at hs
        obtain ⟨r', q1, q2⟩ := found_key (w := w) ht hk r2 hm hf
        cases r with
        | none =>
          simp only [Option.some.injEq, Prod.mk.injEq] at hs
          obtain ⟨rfl, rfl⟩ := hs
          cases r' with
          | some p => exact q2.elim
          | none =>
          refine goes_value h (cv := if ok then .tuple #[z, .bool false] else z) ?_ ?_ hn
          · rcases hrun with ⟨rfl, rfl⟩ | ⟨r, rfl, hb⟩
            · simp [execOp, Instr.lookup, run_underlying hu, hcx, hck, z2 w] at hchk q1 ⊢
              simp [hchk, q1, z2 w]
            · simp [execOp, Instr.lookup, run_underlying hu, hcx, hck, Go.MapKept.run_getObj_map hb, hchk, q1, z2 w]
          · cases ok with
            | false => exact z1
            | true =>
              refine .tup _ _ rfl ?_
              intro i c cv hc hcv
              match i with
              | 0 => simp at hc hcv; subst hc hcv; exact z1
              | 1 => simp at hc hcv; subst hc hcv; exact .bool _
              | i + 2 => simp at hc
        | some p =>
          obtain ⟨j, u⟩ := p
          simp only [Option.some.injEq, Prod.mk.injEq] at hs
          obtain ⟨rfl, rfl⟩ := hs
          cases r' with
          | none => exact q2.elim
          | some p' =>
          obtain ⟨j', u'⟩ := p'
          obtain ⟨rfl, hj, ⟨k2, he⟩, en, hen, rfl, hsb⟩ := q2
          have hv := (hm.2.2 _ _ _ _ he (by simpa using hen)).2.2
          refine goes_value h (cv := if ok then .tuple #[en.val, .bool true] else en.val) ?_ ?_ hn
          · rcases hrun with ⟨rfl, rfl⟩ | ⟨r, rfl, hb⟩
            · simp at hen
            · simp [execOp, Instr.lookup, run_underlying hu, hcx, hck, Go.MapKept.run_getObj_map hb, hchk, q1]
          · cases ok with
            | false => exact hv
            | true =>
              refine .tup _ _ rfl ?_
              intro i c cv hc hcv
              match i with
              | 0 => simp at hc hcv; subst hc hcv; exact hv
              | 1 => simp at hc hcv; subst hc hcv; exact .bool _
              | i + 2 => simp at hc
    generalize x.ev s.E = xe at r1 hs
    cases xe with
    | nilm =>
      simp only at hs
      cases r1
      exact key [] #[] 0 ⟨rfl, rfl, by simp⟩ (.inl ⟨rfl, rfl⟩) hs
    | mp id =>
      simp only at hs
      cases r1 with
      | mp _ hA =>
      split at hs
      · rename_i es hm
        obtain ⟨ents, clock, hb, hok⟩ := h.hr.map _ _ (map?_some hm)
        exact key es ents clock hok (.inr ⟨_, rfl, hb⟩) hs
      · simp at hs
    | _ => simp at hs
  · simp at hc
end
end Go.DM
