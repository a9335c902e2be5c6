/-
  Lists that their places alone own, and rows of their elements.
-/
import Derived.Test.YtifmekddikapeaaAmOpsI
namespace Go.AM
set_option autoImplicit false
set_option linter.unusedSimpArgs false
set_option linter.unusedVariables false

def chkW (P : Program) (o : IOp) (m : Oper) : Bool :=
  match o with
  | .mku d k x => (m.dst == some d) && (match m.op with | .makeSlice t x' y' => sliceOK P t k && (srcOK x x' && srcOK x y') | _ => false)
  | .s2u d x => (m.dst == some d) && (match m.op with | .convert u t x' => (match P.underlying u with | some .string => true | _ => false) && (sliceOK P t .u8 && ((match P.underlying t with | some (.slice e) => intK P e .u8 | _ => false) && srcOK x x')) | _ => false)
  | .blu d k => (m.dst == some d) && (match m.op with | .buildSlice t n qs => sliceOK P t k && (n == 0 && qs.isEmpty) | _ => false)
  | .apu d k x y => (m.dst == some d) && (match callB m.op with | some (.append, [x', y'], [t, u]) => sliceOK P t k && (sliceOK P u k && (srcOK x x' && srcOK y y')) | _ => false)
  | .apw d k x y => (m.dst == some d) && (match callB m.op with | some (.append, [x', y'], [t, u]) => sliceOK P t k && (sliceOK P u k && (srcOK x x' && srcOK y y')) | _ => false)
  | .apv d k x n => (m.dst == some d) && (match callB m.op with | some (.append, [x', .tmp n'], [t, u]) => sliceOK P t k && (sliceOK P u k && (srcOK x x' && (n == n' && (match x with | .tk q => q != n | _ => true)))) | _ => false)
  | .lnw d x => (m.dst == some d) && (match callB m.op with | some (.len, [x'], [t]) => (match P.underlying t with | some (.slice _) => true | _ => false) && srcOK x x' | _ => false)
  | .ixw d k x i => (m.dst == some d) && (match m.op with | .indexAddr t x' i' => sliceOK P t k && (srcOK x x' && srcOK i i') | _ => false)
  | .fdw d off x => chkPure P (.fad d off x) m
  | .ldw d n agg x => chkPure P (.ld d n agg false x) m
  | .stw d n x v => (m.dst == d) && (match m.op with | .store t x' v' => (sizeT P t == some n) && (srcOK x x' && srcOK v v') | _ => false)
  | _ => false

section
variable {w w' : World} {g g' : Gh} {s s' : St} {a : Act} {P : Program} {Γ : ASpec} {m : Oper} {next : Act → World → Prop} {Q : Exit → Act → World → Prop}

theorem mul_lt {i j n z : Nat} (hi : i < n) (hj : j < z) : i * z + j < n * z := by
  calc i * z + j < i * z + z := by omega
    _ = (i + 1) * z := by rw [Nat.add_mul, Nat.one_mul]
    _ ≤ n * z := Nat.mul_le_mul_right _ hi

theorem ul_flat {I : Nat → Nat → Prop} {ρ : Nat → Nat} {N : Nat} {k : EK} {x : Ty k} {j : Nat} {v : V} {u : Value} (hv : (enc k x)[j]? = some v) (h : VRel I ρ N w v u) {ρ' : Nat → Nat} {N' : Nat} : VRel I ρ' N' w v u :=
  h.flat1 (enc_flat k x v (List.mem_of_getElem? hv))

/-- a new list that a slot alone owns -/
theorem SR.newUL (h : SR g s w a) (k : EK) (xs : List (Ty k)) (cap d : Nat) (arr : Array Value) (e : TypeId)
    (hsz : w'.heap.size = w.heap.size + 1) (hold : ∀ b, b < w.heap.size → w'.heap[b]? = w.heap[b]?) {fz : Nat × Nat} (hnew : w'.heap[w.heap.size]? = some (.cells arr e fz))
    (hos : w'.os = w.os) (htp : w'.tape = w.tape) (hout : w'.output = w.output)
    (hle : xs.length ≤ cap) (hm : cap ≤ maxI) (hroom : cap * k.sz ≤ arr.size) (heβ : k = .u8 → e = g.β) (hfz : Cold fz arr.size)
    (hv : ∀ (i : Nat) x j v, xs[i]? = some x → (enc k x)[j]? = some v → ∃ cv, arr[i * k.sz + j]? = some cv ∧ VRel g.I (fun _ => 0) 0 w v cv) :
    ∃ g', SR g' (s.set d (.ul k xs)) w' (a.put (some d) (.slice (some ⟨w.heap.size, 0, none⟩) xs.length cap)) ∧ FR g s.hp w g' s.hp w' := by
  let g' : Gh := { g with O := fun b => if b = w.heap.size then some (.slot d) else g.O b }
  have ilt : ∀ b j, g.I b j → b < w.heap.size := by
    intro b j hi
    obtain ⟨v, hv⟩ := Option.isSome_iff_exists.1 (h.hr.exI b j hi)
    exact World.block_lt_of_cell? _ _ hv
  have cello : ∀ b j, b < w.heap.size → w'.cell? ⟨b, j, none⟩ = w.cell? ⟨b, j, none⟩ := by
    intro b j hb
    simp [World.cell?, hold b hb]
  have u : Up g.I g.ρ s.hp.length w g'.I g'.ρ s.hp.length w' := ⟨fun b j hi => hi, fun b j hi => cello b j (ilt b j hi), fun _ _ => rfl, Nat.le_refl _⟩
  have hs : SR g' s w' a := by
    refine h.keep none trivial rfl u ?_ ?_ ?_ ?_
    · intro occ b hb _
      have hlt := h.hr.oLt b occ hb
      exact ⟨by simp [g', Nat.ne_of_lt hlt, hb], hold b hlt, fun j hj => hj⟩
    · intro id cs hid
      obtain ⟨arr', e', fz, h1, h2⟩ := h.hr.obj id cs hid
      have hlt : g.ρ id < w.heap.size := by
        rcases Nat.lt_or_ge (g.ρ id) w.heap.size with hl | hl
        · exact hl
        · simp [Array.getElem?_eq_none hl] at h1
      exact ⟨hold _ hlt, by simp [g', Nat.ne_of_lt hlt, h.hr.notO id cs hid], fun j hj => hj⟩
    · intro b j hj
      rw [cello b j (ilt b j hj)]; exact h.hr.exI b j hj
    · intro b o hb
      simp only [g'] at hb
      split at hb
      · omega
      · have := h.hr.oLt b o hb; omega
  refine ⟨g', hs.set d (.ul k xs _ _ (by omega)) (.inr ⟨w.heap.size, cap, arr, e, fz, hfz, rfl, hle, hm, by simp [g'], hnew, hroom, heβ, ?_, ?_⟩), ⟨rfl, hos, htp, hout, by omega, fun b hb _ _ => hold b hb, u, fun _ _ _ _ _ hi => hi, ?_, fun _ cs h => .inl ⟨cs, h⟩⟩⟩
  · intro j hi
    exact absurd (ilt _ _ hi) (Nat.lt_irrefl _)
  · intro i x j v cv h1 h2 h3
    obtain ⟨cv', e1, e2⟩ := hv i x j v h1 h2
    rw [e1] at h3
    obtain rfl := Option.some.inj h3
    exact e2.up ⟨fun _ _ hi => hi, fun b j hi => cello b j (ilt b j hi), fun _ _ => rfl, Nat.le_refl _⟩
  · intro b hb _ hO
    simp [g', Nat.ne_of_lt hb, hO]

/-- a list that is owned is written behind its end, in its place -/
theorem SR.inPlaceU (h : SR g s w a) {p : Occ} (hp : Bared (some p) s) (k : EK) (xs ys : List (Ty k)) (b cap d : Nat) (news : List Value) {arr : Array Value} {e : TypeId} {fz : Nat × Nat} (o0 : Cold fz arr.size)
    (o1 : g.O b = some p) (o2 : w.heap[b]? = some (.cells arr e fz)) (o3 : cap * k.sz ≤ arr.size) (oβ : k = .u8 → e = g.β) (oI : ∀ j, ¬ g.I b j)
    (oc : ∀ (i : Nat) x (j : Nat) v u, xs[i]? = some x → (enc k x)[j]? = some v → arr[i * k.sz + j]? = some u → VRel g.I (fun _ => 0) 0 w v u) (hcm : cap ≤ maxI)
    (hroom : xs.length + ys.length ≤ cap) (hl : news.length = ys.length * k.sz)
    (hv : ∀ (i : Nat) x (j : Nat) v, ys[i]? = some x → (enc k x)[j]? = some v → ∃ u, news[i * k.sz + j]? = some u ∧ VRel g.I (fun _ => 0) 0 w v u) :
    ∃ g', SR g' (s.set d (.ul k (xs ++ ys))) (w.setCells b (xs.length * k.sz) news) (a.put (some d) (.slice (some ⟨b, 0, none⟩) (xs.length + ys.length) cap)) ∧
      FR g s.hp w g' s.hp (w.setCells b (xs.length * k.sz) news) := by
  have hend : xs.length * k.sz + news.length ≤ arr.size := by
    have : (xs.length + ys.length) * k.sz ≤ cap * k.sz := Nat.mul_le_mul_right _ hroom
    rw [Nat.add_mul] at this
    omega
  obtain ⟨⟨arr', q1, q2⟩, q3, q4, q5, q6, q7⟩ := setCells_heap b news (xs.length * k.sz) w arr e fz o2
  let w' := w.setCells b (xs.length * k.sz) news
  let g' : Gh := { g with O := fun b' => if b' = b then some (.slot d) else g.O b' }
  have cello : ∀ b' j, g.I b' j → w'.cell? ⟨b', j, none⟩ = w.cell? ⟨b', j, none⟩ := by
    intro b' j hi
    exact World.cell?_setCells_out b news _ w _ (by rintro rfl _; exact absurd hi (oI j))
  have hbo : ∀ (id : Nat) cs, s.hp[id]? = some (some cs) → g.ρ id ≠ b := by
    intro id cs hid e'
    have := h.hr.notO id cs hid
    rw [e', o1] at this
    simp at this
  have u : Up g.I g.ρ s.hp.length w g'.I g'.ρ s.hp.length w' := ⟨fun b j hi => hi, cello, fun _ _ => rfl, Nat.le_refl _⟩
  have hs : SR g' s w' a := by
    refine h.keep (some p) hp rfl u ?_ ?_ ?_ ?_
    · intro occ b' hb' hne
      have hbb : b' ≠ b := by
        rintro rfl
        rw [o1] at hb'
        exact hne hb'
      exact ⟨by simp [g', hbb, hb'], q3 b' hbb, fun j hj => hj⟩
    · intro id cs hid
      have hbb := hbo id cs hid
      exact ⟨q3 _ hbb, by simp [g', hbb, h.hr.notO id cs hid], fun j hj => hj⟩
    · intro b' j hj
      rw [cello b' j hj]; exact h.hr.exI b' j hj
    · intro b' o hb'
      simp only [g'] at hb'
      rw [q4]
      split at hb'
      · rename_i e'; subst e'; exact h.hr.oLt _ _ o1
      · exact h.hr.oLt _ _ hb'
  have harr : ∀ j, arr'[j]? = if xs.length * k.sz ≤ j ∧ j < xs.length * k.sz + news.length then news[j - xs.length * k.sz]? else arr[j]? := by
    intro j
    rw [← cell_of_heap q1 j]
    split
    · rename_i hj
      have := World.cell?_setCells_in b news (xs.length * k.sz) w (fun j' hj' => by rw [cell_of_heap o2, Array.getElem?_eq_getElem (by omega)]; rfl) (j - xs.length * k.sz) (by omega)
      rw [show xs.length * k.sz + (j - xs.length * k.sz) = j by omega] at this
      rw [List.getElem?_eq_getElem (by omega)]
      exact this
    · rename_i hj
      rw [World.cell?_setCells_out _ _ _ w _ (fun _ _ => by simp only; omega), cell_of_heap o2]
  have ue : Up g.I (fun _ => 0) 0 w g.I (fun _ => 0) 0 w' := ⟨fun _ _ hi => hi, cello, fun _ _ => rfl, Nat.le_refl _⟩
  have hk0 : ∀ x : Ty k, ∀ j v, (enc k x)[j]? = some v → j < k.sz := by
    intro x j v hv
    have := (List.getElem?_eq_some_iff.1 hv).1
    rwa [enc_length] at this
  refine ⟨g', hs.set d ?_ (.inr ⟨b, cap, arr', e, fz, by rw [q2]; exact o0, by simp, by simpa using hroom, hcm, by simp [g'], q1, by rw [q2]; exact o3, oβ, oI, ?_⟩), ⟨rfl, q5, q6, q7, by rw [q4]; exact Nat.le_refl _, fun b' hb' _ hO => ?_, u, fun _ _ _ _ _ hi => hi, ?_, fun _ cs h => .inl ⟨cs, h⟩⟩⟩
  · have := VRel.ul (I := g'.I) (ρ := g'.ρ) (N := s.hp.length) (w := w') k (xs ++ ys) (some ⟨b, 0, none⟩) cap (by simp; omega)
    simpa using this
  · intro i x j v cv h1 h2 h3
    have hj := hk0 x j v h2
    rw [harr] at h3
    rcases Nat.lt_or_ge i xs.length with hi | hi
    · rw [List.getElem?_append_left hi] at h1
      have := mul_lt hi hj
      rw [if_neg (by omega)] at h3
      exact (oc i x j v cv h1 h2 h3).up ue
    · rw [List.getElem?_append_right hi] at h1
      obtain ⟨u', e1, e2⟩ := hv _ x j v h1 h2
      have hlt := (List.getElem?_eq_some_iff.1 e1).1
      have hp' : i * k.sz = xs.length * k.sz + (i - xs.length) * k.sz := by rw [← Nat.add_mul]; congr 1; omega
      rw [if_pos (by omega), show i * k.sz + j - xs.length * k.sz = (i - xs.length) * k.sz + j by omega, e1] at h3
      obtain rfl := Option.some.inj h3
      exact e2.up ue
  · have hbb : b' ≠ b := by rintro rfl; rw [o1] at hO; simp at hO
    exact q3 b' hbb
  · intro b' hb' _ hO
    have hbb : b' ≠ b := by rintro rfl; rw [o1] at hO; simp at hO
    simp [g', hbb, hO]

/-- a taken list, and its place -/
theorem ul_src {x : ASrc} {x' : Operand} {k : EK} {xs : List (Ty k)} (h : SR g s w a) (hx : srcOK x x' = true) (hxe : x.ev s = .ul k xs) :
    ∃ p, Bared (some p) (x.after s) ∧ ULOK g w p k xs (a.eval x') := by
  unfold srcOK at hx
  split at hx
  · rename_i n k'
    obtain rfl := by simpa using hx
    simp only [ASrc.ev] at hxe
    exfalso
    cases hg : s.get n <;> rw [hg] at hxe <;> simp [disown] at hxe
  · rename_i n k'
    obtain rfl := by simpa using hx
    refine ⟨.slot n, after_bared n s, ?_⟩
    have := h.er.getOwn n
    rw [show s.get n = .ul k xs from hxe] at this
    exact this
  · rename_i v cv
    simp only [ASrc.ev] at hxe
    subst hxe
    exact ⟨.res, trivial, constOK_own hx _⟩
  · rename_i f hf
    simp only [ASrc.ev] at hxe
    cases hxe
  · simp at hx

/-- the cells of a list that is owned -/
theorem ul_cells {p : Occ} {k : EK} {xs : List (Ty k)} {cv : Value} (h : ULOK g w p k xs cv) :
    ∃ L : List Value, L.length = xs.length * k.sz ∧ (∀ (i : Nat) x (j : Nat) v, xs[i]? = some x → (enc k x)[j]? = some v → ∃ u, L[i * k.sz + j]? = some u ∧ VRel g.I (fun _ => 0) 0 w v u) ∧
      ((xs = [] ∧ cv = .slice none 0 0) ∨ ∃ b cap arr e fz, Cold fz arr.size ∧ cv = .slice (some ⟨b, 0, none⟩) xs.length cap ∧ xs.length ≤ cap ∧ w.heap[b]? = some (.cells arr e fz) ∧ cap * k.sz ≤ arr.size ∧ ∀ j v, L[j]? = some v → w.cell? ⟨b, j, none⟩ = some v) := by
  rcases h with ⟨rfl, rfl⟩ | ⟨b, cap, arr, e, fz, h0, h1, h2, h3, h4, h5, h6, h7, h8, h9⟩
  · exact ⟨[], by simp, by simp, .inl ⟨rfl, rfl⟩⟩
  · have hle : xs.length * k.sz ≤ arr.size := Nat.le_trans (Nat.mul_le_mul_right _ h2) h6
    refine ⟨arr.toList.take (xs.length * k.sz), by simp; omega, ?_, .inr ⟨b, cap, arr, e, fz, h0, h1, h2, h5, h6, ?_⟩⟩
    · intro i x j v hx hv
      have hj : j < k.sz := by
        have := (List.getElem?_eq_some_iff.1 hv).1
        rwa [enc_length] at this
      have hlt := mul_lt (List.getElem?_eq_some_iff.1 hx).1 hj
      have ha : arr[i * k.sz + j]? = some (arr[i * k.sz + j]'(by omega)) := Array.getElem?_eq_getElem _
      refine ⟨_, ?_, h9 i x j v _ hx hv ha⟩
      rw [List.getElem?_take, if_pos hlt, Array.getElem?_toList]
      exact ha
    · intro j v hj
      rw [List.getElem?_take] at hj
      split at hj
      · rw [Array.getElem?_toList] at hj
        rw [cell_of_heap h5]; exact hj
      · simp at hj

/-- both arms of an append to a list that is owned -/
theorem append_ul (hβ : g.β = byteT P) {d : Nat} {k : EK} {x : ASrc} {x' y' : Operand} {xs ys : List (Ty k)} {ty t u e : TypeId} {pos : String} {aft : Array Edge} {gd : Option (Nat × Bool)} (h : SR g s w a)
    (hx : srcOK x x' = true) (hxe : x.ev s = .ul k xs) (ut : P.underlying t = some (.slice e)) (he : elemOK P e k = true) (news : List Value)
    (hs : _root_.Go.Src P k.sz u (a.eval y') ys.length news w) (hv : ∀ (i : Nat) x (j : Nat) v, ys[i]? = some x → (enc k x)[j]? = some v → ∃ u, news[i * k.sz + j]? = some u ∧ VRel g.I (fun _ => 0) 0 w v u)
    (hfit : (xs.length + ys.length) * k.bytes ≤ reach)
    (hn : Goes g s w a ((x.after s).set d (.ul k (xs ++ ys))) next) :
    (⟨some d, .call ⟨.builtin .append, ⟨[x', y']⟩, ⟨[t, u]⟩⟩, ty, pos, aft, gd⟩ : Oper).wp P a w next Q := by
  obtain ⟨inf, z, i1, i2, i3, i4, i5, i6, i7⟩ := elemOK_facts he
  have hkb : 0 < k.bytes := by cases k <;> simp [EK.bytes]; rename_i kk; cases kk <;> simp [kindSize]
  have hlen : xs.length + ys.length ≤ reach := Nat.le_trans (Nat.le_mul_of_pos_right _ hkb) hfit
  obtain ⟨p, hp, ho⟩ := ul_src h hx hxe
  have h1 := h.after x
  obtain ⟨L, l1, l3, l4⟩ := ul_cells ho
  have hrun : ∀ cv w', (Builtin.append_ #[t, u] ty #[a.eval x', a.eval y']).run P w = .ok cv w' → (execOp a.eval ⟨some d, .call ⟨.builtin .append, ⟨[x', y']⟩, ⟨[t, u]⟩⟩, ty, pos, aft, gd⟩).run P w = .ok (.value cv) w' := by
    intro cv w' hr
    simp [execOp, resolve, invoke, builtin, hr]
  have hhp : (x.after s).hp = s.hp := after_hp x s
  -- a new row
  have grow : ∀ (base : Option Addr) (cap : Nat), a.eval x' = .slice base xs.length cap → cap < xs.length + ys.length →
      (Builtin.firstCells k.sz xs.length (.slice base xs.length cap)).run P w.drew = .ok L.toArray w.drew →
      (⟨some d, .call ⟨.builtin .append, ⟨[x', y']⟩, ⟨[t, u]⟩⟩, ty, pos, aft, gd⟩ : Oper).wp P a w next Q := by
    intro base cap hb hcap hold
    have hr := run_append_grow_src w t u ty e inf z ut i1 i4 base xs.length cap L (by rw [i2]; exact hold) (a.eval y') ys.length news (by rw [i2]; exact hs) hcap (by unfold reach at hlen; omega)
      (growslice_fits hcap (by rw [i3]; exact hfit))
    have hcapn : xs.length + ys.length ≤ grownCap w (xs.length + ys.length) cap e := by
      unfold grownCap Question.cut
      exact Nat.le_add_right _ _
    have hcm : grownCap w (xs.length + ys.length) cap e ≤ maxI := by
      have := grownCap_le_maxLen w (xs.length + ys.length) cap e (by unfold maxLen; unfold reach at hlen; omega)
      simpa [maxLen, maxI] using this
    let arr : Array Value := (L ++ news).toArray ++ Builtin.zeroCells z.cells (grownCap w (xs.length + ys.length) cap e - (xs.length + ys.length))
    have hnl := hs.newsLen
    have harr : arr.size = grownCap w (xs.length + ys.length) cap e * k.sz := by
      simp only [arr, Array.size_append, List.size_toArray, List.length_append, l1, hnl, size_zeroCells, i7]
      rw [← Nat.add_mul, ← Nat.add_mul]
      congr 1
      omega
    have f := alloc_facts w.drew (.cells arr e)
    obtain ⟨g', q1, q2⟩ := h1.newUL (w' := w.drew.alloc (.cells arr e)) k (xs ++ ys) (grownCap w (xs.length + ys.length) cap e) d arr e f.1 f.2.1 f.2.2 rfl rfl rfl (by simpa using hcapn) hcm (by rw [harr]; exact Nat.le_refl _) (fun hk => by rw [hβ]; exact elemOK_byte he hk) (cold0 _) (by
      intro i x j v hx hv'
      have hj : j < k.sz := by
        have := (List.getElem?_eq_some_iff.1 hv').1
        rwa [enc_length] at this
      have hleft : ∀ (q : Nat) u, (L ++ news)[q]? = some u → arr[q]? = some u := by
        intro q u hq
        have hlt := (List.getElem?_eq_some_iff.1 hq).1
        simp only [arr]
        rw [Array.getElem?_append_left (by simpa using hlt)]
        simpa using hq
      rcases Nat.lt_or_ge i xs.length with hi | hi
      · rw [List.getElem?_append_left hi] at hx
        obtain ⟨u, e1, e2⟩ := l3 i x j v hx hv'
        refine ⟨u, hleft _ _ ?_, e2⟩
        rw [List.getElem?_append_left (List.getElem?_eq_some_iff.1 e1).1]
        exact e1
      · rw [List.getElem?_append_right hi] at hx
        obtain ⟨u, e1, e2⟩ := hv _ x j v hx hv'
        refine ⟨u, hleft _ _ ?_, e2⟩
        have : i * k.sz = xs.length * k.sz + (i - xs.length) * k.sz := by rw [← Nat.add_mul]; congr 1; omega
        rw [List.getElem?_append_right (by rw [l1]; omega), l1, ← e1]
        congr 1
        omega)
    have hgoal : (execOp a.eval ⟨some d, .call ⟨.builtin .append, ⟨[x', y']⟩, ⟨[t, u]⟩⟩, ty, pos, aft, gd⟩).run P w = .ok (.value (.slice (some ⟨w.heap.size, 0, none⟩) (xs ++ ys).length (grownCap w (xs.length + ys.length) cap e))) (w.drew.alloc (.cells arr e)) := by
      refine hrun _ _ ?_
      rw [hb, hr]
      simp [arr]
    refine goes_at rfl hgoal ⟨g', q1, ?_⟩ hn
    rw [hhp] at q2
    show FR g s.hp w g' (x.after s).hp _
    rw [hhp]
    exact q2
  rcases l4 with ⟨rfl, hcv⟩ | ⟨b, cap, arr, e', fz, hfz, hcv, hcap, hb, hsz, hcells⟩
  · by_cases h0 : ys.length = 0
    · have hy0 : ys = [] := List.eq_nil_of_length_eq_zero h0
      subst hy0
      have hr : (Builtin.append_ #[t, u] ty #[a.eval x', a.eval y']).run P w = .ok (.slice none 0 0) w := by
        have hnews : news = [] := by have := hs.newsLen; simpa using this
        have hc := hs.cells
        rw [hcv]
        rcases hs.kind with ⟨e', hk⟩ | hk <;> simp [Builtin.append_, run_underlying ut, run_underlying hk, sizeOf, typeInfo, i1, i2, hs.len] at * <;> simp [hc]
      refine goes_at rfl (hrun _ _ hr) ⟨g, ?_, ?_⟩ hn
      · exact h1.set d (by simpa using VRel.ul (I := g.I) (ρ := g.ρ) (N := (x.after s).hp.length) (w := w) k ([] : List (Ty k)) none 0 (by simp)) (.inl ⟨by simp, rfl⟩)
      · have := FR.refl g s.hp w
        simpa [St.set, hhp] using this
    · exact grow none 0 (by simpa using hcv) (by simp; omega) (by
        have hL : L = [] := by simpa using l1
        subst hL
        simpa using run_firstCells_none (P := P) w.drew k.sz 0 0 0)
  · by_cases hroom : xs.length + ys.length ≤ cap
    · rcases ho with ⟨rfl, ho⟩ | ⟨b2, cap2, arr2, e2, fz2, m0, m1, m2, m3, m4, m5, m6, m7, m8, m9⟩
      · rw [hcv] at ho; cases ho
      · rw [hcv] at m1
        cases m1
        rw [hb] at m5
        cases m5
        have hend : xs.length * k.sz + news.length ≤ cap * k.sz := by
          have : (xs.length + ys.length) * k.sz ≤ cap * k.sz := Nat.mul_le_mul_right _ hroom
          rw [Nat.add_mul] at this
          rw [hs.newsLen]
          omega
        have hr := run_append_room_src w t u ty e inf ut i1 b 0 xs.length cap (a.eval y') ys.length news (by rw [i2]; exact hs) hroom (by
          intro j hj
          rw [i2, cell_of_heap hb, Array.getElem?_eq_getElem (by omega)]
          rfl) (by
          intro j hj
          rw [i2]
          have hc := hfz (0 + xs.length * k.sz + j) (by omega)
          simp only [World.frozen?, hb, Bool.and_eq_false_iff, decide_eq_false_iff_not]
          omega)
        rw [i2, Nat.zero_add] at hr
        have q := h1.inPlaceU hp k xs ys b cap d news m0 m4 hb m6 m7 m8 m9 m3 hroom hs.newsLen hv
        rw [hhp] at q
        refine goes_at rfl (hrun _ _ (by rw [hcv]; exact hr)) ?_ hn
        obtain ⟨g', q1, q2⟩ := q
        exact ⟨g', q1, by simpa [St.set, hhp] using q2⟩
    · exact grow _ cap hcv (by omega) (run_firstCells_some w.drew k.sz xs.length ⟨b, 0, none⟩ xs.length cap L (by simpa using l1) (by
        intro j v hj
        rw [Addr.add_lit, Nat.zero_add]
        exact hcells j v hj))

theorem op_apu {d : Nat} {k : EK} {x y : ASrc} (hβ : g.β = byteT P) (hc : chkW P (.apu d k x y) m = true) (hs : step Γ (.apu d k x y) s = some (true, s')) (h : SR g s w a) (hn : Goes g s w a s' next) : m.wp P a w next Q := by
  obtain ⟨dst, op, ty, pos, aft, gd⟩ := m
  simp only [chkW, Bool.and_eq_true, beq_iff_eq] at hc
  obtain ⟨rfl, hc⟩ := hc
  split at hc
  · rename_i x' y' t u hop
    obtain rfl := callB_some hop
    simp only [Bool.and_eq_true] at hc
    obtain ⟨h1, h2, h3, h4⟩ := hc
    obtain ⟨e, u1, e1⟩ := sliceOK_facts h1
    obtain ⟨e', u2, e2⟩ := sliceOK_facts h2
    simp only [step] at hs
    split at hs
    · rename_i k' l k'' o mm hx hy
      split at hs
      · rename_i hk
        subst hk
        split at hs
        · rename_i hkk
          simp only [Option.some.injEq, Prod.mk.injEq, decide_eq_true_eq] at hs
          obtain ⟨hfit, rfl⟩ := hs
          have r2 := src_rel h4 h.er
          rw [hy] at r2
          have r2 := cast_sl hkk r2
          obtain ⟨L, l1, l2, l3, l4⟩ := sl_row r2
          refine append_ul hβ h h3 hx u1 e1 L (ys := hkk ▸ mm) ?_ (fun i x j v hx hv => by
            obtain ⟨u, q1, q2⟩ := l3 i x j v hx hv
            exact ⟨u, q1, ul_flat hv q2⟩) (by rw [cast_len]; exact hfit) hn
          rcases l4 with ⟨hnil, ad, hcv, -⟩ | ⟨b, off, cap, hcv, hcap, hcm, hcells⟩
          · rw [hcv, hnil]
            have hL : L = [] := by rw [hnil] at l1; simpa using l1
            rw [hL]
            cases ad with
            | none => exact _root_.Go.Src.ofNil w u2 0
            | some ad => exact _root_.Go.Src.ofSlice w u2 _ _ _ _ (by simp) (by intro j v hj; simp at hj) (by simp)
          · rw [hcv]
            exact _root_.Go.Src.ofSlice w u2 _ _ _ _ l1 (by intro j v hj; rw [Addr.add_lit]; exact hcells j v hj) l2
        · simp at hs
      · simp at hs
    · simp at hs
  · simp at hc

theorem op_apv {d n : Nat} {k : EK} {x : ASrc} (hβ : g.β = byteT P) (hc : chkW P (.apv d k x n) m = true) (hs : step Γ (.apv d k x n) s = some (true, s')) (h : SR g s w a) (hn : Goes g s w a s' next) : m.wp P a w next Q := by
  obtain ⟨dst, op, ty, pos, aft, gd⟩ := m
  simp only [chkW, Bool.and_eq_true, beq_iff_eq] at hc
  obtain ⟨rfl, hc⟩ := hc
  split at hc
  · rename_i x' n' t u hop
    obtain rfl := callB_some hop
    simp only [Bool.and_eq_true, beq_iff_eq] at hc
    obtain ⟨h1, h2, h3, rfl, h5⟩ := hc
    obtain ⟨e, u1, e1⟩ := sliceOK_facts h1
    obtain ⟨e', u2, e2⟩ := sliceOK_facts h2
    simp only [step] at hs
    split at hs
    · rename_i k' l k'' mm hx hy
      split at hs
      · rename_i hk
        subst hk
        split at hs
        · rename_i hkk
          subst hkk
          simp only [Option.some.injEq, Prod.mk.injEq, decide_eq_true_eq] at hs
          obtain ⟨hfit, rfl⟩ := hs
          have ho := h.er.getOwn n
          rw [hy] at ho
          obtain ⟨L, l1, l3, l4⟩ := ul_cells ho
          refine append_ul hβ h h3 hx u1 e1 L (ys := mm) ?_ l3 hfit hn
          rcases l4 with ⟨hnil, hcv⟩ | ⟨b, cap, arr, e3, fz, hfz, hcv, hcap, hb, hsz, hcells⟩
          · show _root_.Go.Src P _ u (a.tmps.getD n undef) _ _ w
            rw [hcv, hnil]
            have hL : L = [] := by rw [hnil] at l1; simpa using l1
            rw [hL]
            exact _root_.Go.Src.ofNil w u2 0
          · show _root_.Go.Src P _ u (a.tmps.getD n undef) _ _ w
            rw [hcv]
            have hone : ∀ v ∈ L, v.oneCell' = true := by
              intro v hv
              obtain ⟨j, hj, rfl⟩ := List.mem_iff_getElem.1 hv
              have hk0 : 0 < k''.sz := by cases k'' <;> simp [EK.sz]
              have hjl : j < mm.length * k''.sz := by rw [← l1]; exact hj
              have hi : j / k''.sz < mm.length := Nat.div_lt_of_lt_mul (by rw [Nat.mul_comm]; exact hjl)
              have hr : j % k''.sz < k''.sz := Nat.mod_lt _ hk0
              have hx : mm[j / k''.sz]? = some mm[j / k''.sz] := List.getElem?_eq_getElem hi
              have hlen : j % k''.sz < (enc k'' mm[j / k''.sz]).length := by rw [enc_length]; exact hr
              obtain ⟨u, q1, q2⟩ := l3 _ _ (j % k''.sz) _ hx (List.getElem?_eq_getElem hlen)
              rw [show j / k''.sz * k''.sz + j % k''.sz = j by rw [Nat.mul_comm]; exact Nat.div_add_mod j k''.sz, List.getElem?_eq_getElem hj] at q1
              obtain rfl := Option.some.inj q1
              exact q2.oneCell (enc_one _ _ _ (List.getElem_mem hlen))
            exact _root_.Go.Src.ofSlice w u2 _ _ _ _ l1 (by intro j v hj; rw [Addr.add_lit, Nat.zero_add]; exact hcells j v hj) hone
        · simp at hs
      · simp at hs
    · simp at hs
  · simp at hc

theorem op_mku {d : Nat} {k : EK} {x : ASrc} (hβ : g.β = byteT P) (hc : chkW P (.mku d k x) m = true) (hs : step Γ (.mku d k x) s = some (true, s')) (h : SR g s w a) (hn : Goes g s w a s' next) : m.wp P a w next Q := by
  obtain ⟨dst, op, ty, pos, aft, gd⟩ := m
  simp only [chkW, Bool.and_eq_true, beq_iff_eq] at hc
  obtain ⟨rfl, hc⟩ := hc
  split at hc
  · rename_i t x' y'
    simp only [Bool.and_eq_true] at hc
    obtain ⟨h1, h2, h3⟩ := hc
    have r1 := src_rel h2 h.er
    have r2 := src_rel h3 h.er
    obtain ⟨e, u1, h1⟩ := sliceOK_facts h1
    obtain ⟨inf, z, i1, i2, i3, i4, i5, i6, i7⟩ := elemOK_facts h1
    simp only [step] at hs
    split at hs
    · rename_i ki n hx
      simp only [Option.some.injEq, Prod.mk.injEq, Bool.and_eq_true, decide_eq_true_eq] at hs
      obtain ⟨⟨g1, g2⟩, rfl⟩ := hs
      rw [hx] at r1 r2
      generalize hcx : a.eval x' = cx at r1
      generalize hcy : a.eval y' = cy at r2
      cases r1
      cases r2
      have hk0 : 0 < k.sz := by cases k <;> simp [EK.sz]
      have hb0 : 1 ≤ k.bytes := by
        cases k with
        | num k => cases k <;> simp [EK.bytes, kindSize]
        | _ => simp [EK.bytes]
      have g3 : n * k.bytes ≤ 140737488355328 := g2
      have hnle : n ≤ 140737488355328 := by
        have : n * 1 ≤ n * (k.bytes : Int) := Int.mul_le_mul_of_nonneg_left (by omega) g1
        omega
      have hb : (inf.bytes : Int) * n ≤ 281474976710656 := by
        rw [i3, Int.mul_comm]; omega
      have hrun := run_make (P := P) w t e inf z u1 i1 i4 ki ki n n g1 (Int.le_refl _) hb (by omega)
      have hzs : z.cells.size = k.sz := i7
      obtain ⟨m1, m2, m3⟩ := const1s_rel (I := g.I) (ρ := fun _ => 0) (N := 0) (w := w) i6
      rw [i2] at hrun
      have f := alloc_facts w (.cells (madeCells z.cells (n.toNat * k.sz)) e)
      obtain ⟨g', q1, q2⟩ := h.newUL (w' := w.alloc (.cells (madeCells z.cells (n.toNat * k.sz)) e)) k (List.replicate n.toNat (dflt k)) n.toNat d (madeCells z.cells (n.toNat * k.sz)) e f.1 f.2.1 f.2.2 rfl rfl rfl (by simp) (by unfold maxI; omega)
        (by rw [size_madeCells]; exact Nat.le_refl _) (fun hk => by rw [hβ]; exact elemOK_byte h1 hk) (cold0 _) (by
          intro i x j v hx hv
          rw [List.getElem?_replicate] at hx
          split at hx
          · rename_i hi
            simp only [Option.some.injEq] at hx
            subst hx
            have hj : j < k.sz := by
              have := (List.getElem?_eq_some_iff.1 hv).1
              rwa [enc_length] at this
            have hlt : i * k.sz + j < n.toNat * k.sz := mul_lt hi hj
            have hmod : (i * k.sz + j) % z.cells.size = j := by rw [hzs, Nat.add_comm, Nat.add_mul_mod_self_right, Nat.mod_eq_of_lt hj]
            have hz' : z.cells[j]? = some (z.cells[j]'(by omega)) := Array.getElem?_eq_getElem _
            refine ⟨z.cells[j]'(by omega), ?_, m3 j v _ hv (by rw [Array.getElem?_toList]; exact hz')⟩
            simp only [madeCells]
            rw [Array.getElem?_map, Array.getElem?_range, if_pos hlt, Option.map_some, hmod, getElem!_pos z.cells j (by omega)]
          · simp at hx)
      simp only [List.length_replicate] at q1
      exact goes_at rfl (by simp [execOp, hcx, hcy, hrun]) ⟨g', q1, q2⟩ hn
    · simp at hs
  · simp at hc

theorem op_blu {d : Nat} {k : EK} (hβ : g.β = byteT P) (hc : chkW P (.blu d k) m = true) (hs : step Γ (.blu d k) s = some (true, s')) (h : SR g s w a) (hn : Goes g s w a s' next) : m.wp P a w next Q := by
  obtain ⟨dst, op, ty, pos, aft, gd⟩ := m
  simp only [chkW, Bool.and_eq_true, beq_iff_eq] at hc
  obtain ⟨rfl, hc⟩ := hc
  split at hc
  · rename_i t n qs
    simp only [Bool.and_eq_true, beq_iff_eq] at hc
    obtain ⟨h1, rfl, h2⟩ := hc
    obtain rfl : _ = s' := by simpa [step] using hs
    obtain ⟨e, u1, h1⟩ := sliceOK_facts h1
    obtain ⟨inf, z, i1, i2, i3, i4, i5, i6, i7⟩ := elemOK_facts h1
    have hq : qs = #[] := by simpa using h2
    have f := alloc_facts w (.cells (#[] : Array Value) e)
    obtain ⟨g', q1, q2⟩ := h.newUL (w' := w.alloc (.cells (#[] : Array Value) e)) k [] 0 d #[] e f.1 f.2.1 f.2.2 rfl rfl rfl (by simp) (by unfold maxI; omega) (by simp) (fun hk => by rw [hβ]; exact elemOK_byte h1 hk) (cold0 _) (by simp)
    refine goes_at rfl (cv := .slice (some ⟨w.heap.size, 0, none⟩) 0 0) ?_ ⟨g', q1, q2⟩ hn
    simp [execOp, Instr.buildSlice, run_underlying u1, sizeOf, typeInfo, i1, i2, hq, Instr.fill, newRow]
    rw [show Array.range 0 = #[] from Array.eq_empty_of_size_eq_zero (by simp), Array.map_empty]
  · simp at hc

theorem op_s2u {d : Nat} {x : ASrc} (hβ : g.β = byteT P) (hc : chkW P (.s2u d x) m = true) (hs : step Γ (.s2u d x) s = some (true, s')) (h : SR g s w a) (hn : Goes g s w a s' next) : m.wp P a w next Q := by
  obtain ⟨dst, op, ty, pos, aft, gd⟩ := m
  simp only [chkW, Bool.and_eq_true, beq_iff_eq] at hc
  obtain ⟨rfl, hc⟩ := hc
  split at hc
  · rename_i u t x'
    simp only [Bool.and_eq_true] at hc
    obtain ⟨h1, h2, h3, h4⟩ := hc
    obtain ⟨e, u1, e1⟩ := sliceOK_facts h2
    split at h1
    · rename_i u2
      rw [u1] at h3
      simp only [intK] at h3
      split at h3
      · rename_i kk u3
        obtain rfl : IntKind.u8 = kk := by simpa using h3
        simp only [step] at hs
        split at hs
        · rename_i l hx
          obtain rfl : _ = s' := by simpa using hs
          have r1 := src_rel h4 h.er
          rw [hx] at r1
          generalize hcv : a.eval x' = cv at r1
          cases r1 with
          | str _ b hl hm =>
          subst hl
          have hr := Lib.run_convert_string_bytes (P := P) w u t e b u2 u1 u3
          have hcapn : b.size ≤ grownCap w b.size 0 e := by
            unfold grownCap Question.cut
            exact Nat.le_add_right _ _
          have hcm : grownCap w b.size 0 e ≤ maxI := by
            have := grownCap_le_maxLen w b.size 0 e (by unfold maxLen; unfold maxI at hm; omega)
            simpa [maxLen, maxI] using this
          have harr : (Lib.bytesCells w e b).size = grownCap w b.size 0 e := by
            have hs : b.data.size = b.size := rfl
            simp [Lib.bytesCells, hs]
            omega
          have hnew := Lib.bytesWorld_at_new w e b
          obtain ⟨g', q1, q2⟩ := h.newUL (w' := Lib.bytesWorld w e b) .u8 b.data.toList (grownCap w b.size 0 e) d (Lib.bytesCells w e b) e (Lib.bytesWorld_size w e b) (fun j hj => Lib.bytesWorld_at_old w e b j hj) hnew
            (by simp [Lib.bytesWorld, World.freeze, World.alloc, World.drew, -World.alloc_eq, -World.drew_eq]) (by simp [Lib.bytesWorld, World.freeze, World.alloc, World.drew, -World.alloc_eq, -World.drew_eq]) (by simp [Lib.bytesWorld, World.freeze, World.alloc, World.drew, -World.alloc_eq, -World.drew_eq])
            (by rw [size_data]; exact hcapn) hcm (by rw [harr]; simp [EK.sz]) (fun hk => by rw [hβ]; exact elemOK_byte e1 hk) (fun j hj => by simp only; omega) (by
              intro i x j v hxi hv
              have hj : j = 0 := by
                have := (List.getElem?_eq_some_iff.1 hv).1
                simp [enc] at this
                exact this
              subst hj
              simp [enc] at hv
              subst hv
              refine ⟨.int .u8 x.toNat, ?_, .int _ _ (byte_range x)⟩
              have hi := (List.getElem?_eq_some_iff.1 hxi).1
              simp only [EK.sz, Nat.mul_one, Nat.add_zero, Lib.bytesCells]
              rw [Array.getElem?_append_left (by simpa using hi)]
              simp only [Array.getElem?_map]
              rw [← Array.getElem?_toList, hxi]
              rfl)
          refine goes_at rfl (w' := Lib.bytesWorld w e b) (cv := .slice (some ⟨w.heap.size, 0, none⟩) b.data.toList.length (grownCap w b.size 0 e)) ?_ ⟨g', q1, q2⟩ hn
          rw [size_data]
          simp [execOp, hcv, hr]
        · simp at hs
      · simp at h3
    · simp at h1
  · simp at hc

theorem op_lnw {d : Nat} {x : ASrc} (hc : chkW P (.lnw d x) m = true) (hs : step Γ (.lnw d x) s = some (true, s')) (h : SR g s w a) (hn : Goes g s w a s' next) : m.wp P a w next Q := by
  obtain ⟨dst, op, ty, pos, aft, gd⟩ := m
  simp only [chkW, Bool.and_eq_true, beq_iff_eq] at hc
  obtain ⟨rfl, hc⟩ := hc
  split at hc
  · rename_i x' t hop
    obtain rfl := callB_some hop
    simp only [Bool.and_eq_true] at hc
    obtain ⟨h1, h3⟩ := hc
    have r1 := src_rel h3 h.er
    split at h1
    · rename_i e u1
      simp only [step] at hs
      split at hs
      · rename_i n hx
        obtain rfl : _ = s' := by simpa using hs
        rw [hx] at r1
        generalize hcv : a.eval x' = cv at r1
        cases r1 with
        | hd _ ad cap hm =>
          refine goes_value h rfl (cv := .int .i64 n) (by simp [execOp, resolve, hcv, invoke, builtin, Builtin.len_, run_underlying u1, goInt]) ?_ rfl hn
          exact .int _ _ (by simp [IntKind.min, IntKind.max, IntKind.signed, IntKind.bits, maxI] at *; omega)
      · rename_i k id n hx
        obtain rfl : _ = s' := by simpa using hs
        rw [hx] at r1
        generalize hcv : a.eval x' = cv at r1
        cases r1 with
        | sw _ _ _ hid hcap hm =>
          refine goes_value h rfl (cv := .int .i64 n) (by simp [execOp, resolve, hcv, invoke, builtin, Builtin.len_, run_underlying u1, goInt]) ?_ rfl hn
          exact .int _ _ (by simp [IntKind.min, IntKind.max, IntKind.signed, IntKind.bits, maxI] at *; omega)
      · simp at hs
    · simp at h1
  · simp at hc

theorem op_ixw {d : Nat} {k : EK} {x i : ASrc} (hc : chkW P (.ixw d k x i) m = true) (hs : step Γ (.ixw d k x i) s = some (true, s')) (h : SR g s w a) (hn : Goes g s w a s' next) : m.wp P a w next Q := by
  obtain ⟨dst, op, ty, pos, aft, gd⟩ := m
  simp only [chkW, Bool.and_eq_true, beq_iff_eq] at hc
  obtain ⟨rfl, hc⟩ := hc
  split at hc
  · rename_i t x' i'
    simp only [Bool.and_eq_true] at hc
    obtain ⟨h1, h2, h3⟩ := hc
    have r1 := src_rel h2 h.er
    have r2 := src_rel h3 h.er
    simp only [step] at hs
    split at hs
    · rename_i k' id len ki n hx hi
      split at hs
      · rename_i hk
        subst hk
        simp only [Option.some.injEq, Prod.mk.injEq, Bool.and_eq_true, decide_eq_true_eq] at hs
        obtain ⟨⟨g1, g2⟩, rfl⟩ := hs
        rw [hx] at r1
        rw [hi] at r2
        obtain ⟨e, u1, h1⟩ := sliceOK_facts h1
        obtain ⟨inf, z, i1, i2, i3, i4, i5, _⟩ := elemOK_facts h1
        generalize hcv : a.eval x' = cv at r1
        generalize hci : a.eval i' = ci at r2
        cases r2
        cases r1 with
        | sw _ _ _ hid hcap hm =>
          have hsz : ∀ w' : World, (sizeOf e).run P w' = .ok k'.sz w' := fun w' => by simp [sizeOf, typeInfo, i1, i2]
          refine goes_value h rfl (cv := .pointer (some ⟨g.ρ id, n.toNat * k'.sz + 0, none⟩)) ?_ (.wp _ _ _ _ hid) rfl hn
          simp [execOp, hcv, hci, Instr.indexAt, asIntOf, run_underlying u1, g1, g2, hsz, Addr.add_lit]
      · simp at hs
    · simp at hs
  · simp at hc

theorem op_fdw {d off : Nat} {x : ASrc} (hc : chkW P (.fdw d off x) m = true) (hs : step Γ (.fdw d off x) s = some (true, s')) (h : SR g s w a) (hn : Goes g s w a s' next) : m.wp P a w next Q := by
  obtain ⟨dst, op, ty, pos, aft, gd⟩ := m
  simp only [chkW, chkPure, Bool.and_eq_true, beq_iff_eq] at hc
  obtain ⟨rfl, hc⟩ := hc
  split at hc
  · rename_i t x' fi
    simp only [Bool.and_eq_true] at hc
    obtain ⟨h1, h2⟩ := hc
    have r1 := src_rel h2 h.er
    split at h1
    · rename_i fs u1
      split at h1
      · rename_i fd hfd
        simp only [Bool.and_eq_true, beq_iff_eq] at h1
        obtain ⟨h0, h1⟩ := h1
        have hsz : ∀ w' : World, ∃ n, n ≠ 0 ∧ (sizeOf fd.type).run P w' = .ok n w' := by
          intro w'
          unfold nonZeroT sizeT at h1
          split at h1
          · rename_i n hn'
            exact ⟨n, by simpa using h1, run_sizeT (by simpa [sizeT] using hn') w'⟩
          · simp at h1
        obtain ⟨n, hn0, hsz⟩ := hsz w
        simp only [step] at hs
        split at hs
        · rename_i id k i o hx
          obtain rfl : _ = s' := by simpa using hs
          rw [hx] at r1
          generalize hcv : a.eval x' = cv at r1
          cases r1 with
          | wp _ _ _ _ hid =>
            refine goes_value h rfl (cv := .pointer (some ⟨g.ρ id, i * k.sz + (o + off), none⟩)) ?_ (.wp _ _ _ _ hid) rfl hn
            simp [execOp, hcv, Instr.fieldAt, run_underlying u1, hfd, Instr.sureAddr, fieldPlace, hsz, hn0, h0, Addr.add_lit, Nat.add_assoc]
        · simp at hs
      · simp at h1
    · simp at h1
  · simp at hc

theorem mem_rowW {id : Nat} {k : EK} {xs : List (Ty k)} (ho : s.rowW id = some ⟨k, xs⟩) : s.hp[id]? = some (some [.rw k xs]) := by
  unfold St.rowW at ho
  simp only [List.getD] at ho
  cases hh : s.hp[id]? with
  | none => rw [hh] at ho; simp at ho
  | some x =>
    rw [hh] at ho
    simp only [Option.getD_some] at ho
    split at ho
    · simp only [Option.some.injEq] at ho
      cases ho
      rfl
    · cases ho

theorem flat_enc {k : EK} : ∀ (xs : List (Ty k)) (i j : Nat) (x : Ty k) (v : V), xs[i]? = some x → (enc k x)[j]? = some v → (xs.flatMap (enc k))[i * k.sz + j]? = some v
  | [], i, j, x, v, h1, _ => by simp at h1
  | y :: xs, 0, j, x, v, h1, h2 => by
    simp at h1
    subst h1
    have hj := (List.getElem?_eq_some_iff.1 h2).1
    simp only [List.flatMap_cons, Nat.zero_mul, Nat.zero_add]
    rw [List.getElem?_append_left hj]
    exact h2
  | y :: xs, i + 1, j, x, v, h1, h2 => by
    have ih := flat_enc xs i j x v (by simpa using h1) h2
    simp only [List.flatMap_cons]
    have hl := enc_length k y
    rw [List.getElem?_append_right (by rw [hl, Nat.add_mul]; omega), hl, ← ih]
    congr 1
    rw [Nat.add_mul]
    omega

theorem flat_enc_length {k : EK} : ∀ (xs : List (Ty k)), (xs.flatMap (enc k)).length = xs.length * k.sz
  | [] => by simp
  | x :: xs => by simp [List.flatMap_cons, flat_enc_length xs, enc_length, Nat.add_mul]; omega

theorem flat_enc_inv {k : EK} (xs : List (Ty k)) (q : Nat) (v : V) (h : (xs.flatMap (enc k))[q]? = some v) : ∃ x, xs[q / k.sz]? = some x ∧ (enc k x)[q % k.sz]? = some v := by
  have hlt := (List.getElem?_eq_some_iff.1 h).1
  rw [flat_enc_length] at hlt
  have hk0 : 0 < k.sz := by cases k <;> simp [EK.sz]
  have hi : q / k.sz < xs.length := Nat.div_lt_of_lt_mul (by rw [Nat.mul_comm]; exact hlt)
  have hr : q % k.sz < k.sz := Nat.mod_lt _ hk0
  have hx : xs[q / k.sz]? = some xs[q / k.sz] := List.getElem?_eq_getElem hi
  have hlen : q % k.sz < (enc k xs[q / k.sz]).length := by rw [enc_length]; exact hr
  refine ⟨_, hx, ?_⟩
  have := flat_enc xs _ _ _ _ hx (List.getElem?_eq_getElem hlen)
  rw [show q / k.sz * k.sz + q % k.sz = q by rw [Nat.mul_comm]; exact Nat.div_add_mod q k.sz, h] at this
  rw [List.getElem?_eq_getElem hlen, ← this]

/-- a typed row's cells in the world -/
theorem rowW_cells {id : Nat} {k : EK} {xs : List (Ty k)} (h : SR g s w a) (ho : s.rowW id = some ⟨k, xs⟩) : ∃ arr e fz, w.heap[g.ρ id]? = some (.cells arr e fz) ∧ xs.length * k.sz ≤ arr.size ∧
    ObjOK g s.hp.length w id [.rw k xs] arr e fz ∧ ∀ (i : Nat) x (j : Nat) v u, xs[i]? = some x → (enc k x)[j]? = some v → arr[i * k.sz + j]? = some u → VRel g.I g.ρ s.hp.length w v u := by
  obtain ⟨arr, e, fz, h1, h2⟩ := h.hr.obj id _ (mem_rowW ho)
  obtain ⟨t1, t2, t3, t4⟩ := h2.typed k xs rfl
  have hl : xs.length * k.sz ≤ arr.size := by
    have := h2.len
    simp only [cellsOf] at this
    rwa [flat_enc_length] at this
  refine ⟨arr, e, fz, h1, hl, h2, ?_⟩
  intro i x j v u hx hv hu
  exact h2.rel (i * k.sz + j) v u (by simp only [cellsOf]; exact flat_enc xs i j x v hx hv) hu

theorem op_ldw {d n : Nat} {agg : Bool} {x : ASrc} (hc : chkW P (.ldw d n agg x) m = true) (hs : step Γ (.ldw d n agg x) s = some (true, s')) (h : SR g s w a) (hn : Goes g s w a s' next) : m.wp P a w next Q := by
  obtain ⟨dst, op, ty, pos, aft, gd⟩ := m
  simp only [chkW, chkPure, Bool.and_eq_true, beq_iff_eq] at hc
  obtain ⟨rfl, hc⟩ := hc
  split at hc
  · rename_i t x'
    simp only [Bool.and_eq_true, beq_iff_eq, Bool.or_eq_true] at hc
    obtain ⟨h1, h2, h3, h4⟩ := hc
    have r1 := src_rel h4 h.er
    simp only [step] at hs
    split at hs
    · rename_i id k i o hx
      split at hs
      · rename_i k' xs ho
        split at hs
        · rename_i hk
          obtain ⟨rfl, hle⟩ := hk
          simp only [Option.some.injEq, Prod.mk.injEq, decide_eq_true_eq] at hs
          obtain ⟨hi, rfl⟩ := hs
          rw [hx] at r1
          generalize hcv : a.eval x' = cv at r1
          cases r1 with
          | wp _ _ _ _ hid =>
            obtain ⟨arr, e, fz, hb, hsz, hok, hrel⟩ := rowW_cells h ho
            have hxi : xs[i]? = some xs[i] := List.getElem?_eq_getElem hi
            have hd : xs.getD i (dflt k') = xs[i] := by simp [List.getD, hxi]
            rw [hd] at hn
            have hel := enc_length k' xs[i]
            have hend : i * k'.sz + k'.sz ≤ arr.size := by
              have : (i + 1) * k'.sz ≤ xs.length * k'.sz := Nat.mul_le_mul_right _ hi
              rw [Nat.add_mul, Nat.one_mul] at this
              omega
            have hl := loaded_rel (agg := agg) (cs := ((enc k' xs[i]).drop o).take n) (vs := (arr.toList.drop (i * k'.sz + o)).take n) (w := w) (I := g.I) (ρ := g.ρ) (N := s.hp.length)
              (fun c hcm => enc_one k' _ c (List.mem_of_mem_drop (List.mem_of_mem_take hcm))) (by simp; omega) (by
                rcases h3 with h3 | h3
                · exact .inl h3
                · right; simp; omega)
              (fun j c cv hc hcv => by
                simp only [List.getElem?_take, List.getElem?_drop] at hc hcv
                split at hc
                · rename_i hj
                  simp only [hj, if_true] at hcv
                  exact hrel i _ (o + j) c cv hxi hc (by rw [← Array.getElem?_toList, ← Nat.add_assoc]; exact hcv)
                · simp at hc)
            refine goes_value h rfl (cv := if agg then .agg ((arr.toList.drop (i * k'.sz + o)).take n).toArray else ((arr.toList.drop (i * k'.sz + o)).take n).headD undef) ?_ hl.disown (disown_bare _) hn
            have := run_load_row (P := P) (w := w) (b := g.ρ id) (o := i * k'.sz + o) (vs := (arr.toList.drop (i * k'.sz + o)).take n) h1 h2 h3 (by simp; omega) (fun j v hj => by
              rw [cell_of_heap hb]
              simp only [List.getElem?_take, List.getElem?_drop] at hj
              split at hj
              · simpa using hj
              · simp at hj)
            simp [execOp, hcv, this]
        · simp at hs
      · simp at hs
    · simp at hs
  · simp at hc

theorem disown_disown (v : V) : disown (disown v) = disown v := by
  cases v with
  | sl k o xs => cases o <;> rfl
  | _ => rfl

theorem weak_weak (v : V) : v.weak.weak = v.weak := by cases v <;> rfl

theorem inRange_disown {v : V} (h : v.inRange) : (disown v).inRange := by
  cases v <;> first | exact h | trivial

theorem inRange_weak {v : V} (h : v.inRange) : v.weak.inRange := by
  cases v <;> first | exact h | trivial

theorem setElt_enc {k : EK} {x x' : Ty k} {o : Nat} {vs : List V} (h : setElt k x o vs = some x') (hx : ∀ c ∈ enc k x, c.inRange) (hr : ∀ c ∈ vs, c.inRange) :
    enc k x' = ((enc k x).take o ++ vs.map V.weak) ++ (enc k x).drop (o + vs.length) := by
  unfold setElt at h
  rw [dec_enc h ?_]
  · rw [List.map_append, List.map_append, List.map_map, List.map_take, List.map_drop, enc_weak]
    congr 2
    exact List.map_congr_left fun c _ => weak_weak c
  · intro c hc
    rcases List.mem_append.1 hc with hc | hc
    · rcases List.mem_append.1 hc with hc | hc
      · exact hx c (List.mem_of_mem_take hc)
      · obtain ⟨v, hv, rfl⟩ := List.mem_map.1 hc
        exact inRange_weak (hr v hv)
    · exact hx c (List.mem_of_mem_drop hc)

theorem enc_noBn (k : EK) (x : Ty k) (j E n : Nat) : (enc k x)[j]? ≠ some (.bn E n) := by
  intro h
  have := enc_flat k x _ (List.mem_of_getElem? h)
  simp [V.flat1] at this

/-- an element of a row, some of whose cells are written over -/
theorem SR.putElt (h : SR g s w a) {id i o : Nat} {k : EK} {xs : List (Ty k)} (ho : s.rowW id = some ⟨k, xs⟩) (hi : i < xs.length) {x' : Ty k} {vs : List V} {us : List Value} (hl : vs.length = us.length) (hle : o + vs.length ≤ k.sz)
    (he : enc k x' = ((enc k xs[i]).take o ++ vs.map V.weak) ++ (enc k xs[i]).drop (o + vs.length))
    (hv : ∀ (j : Nat) c cv, vs[j]? = some c → us[j]? = some cv → VRel g.I g.ρ s.hp.length w c cv) :
    SR g (s.setObj id [.rw k (xs.set i x')]) (w.setCells (g.ρ id) (i * k.sz + o) us) a ∧ FR g s.hp w g (s.hp.set id (some [.rw k (xs.set i x')])) (w.setCells (g.ρ id) (i * k.sz + o) us) := by
  have hid := mem_rowW ho
  obtain ⟨arr, e, fz, hb, hsz, hok, hrel⟩ := rowW_cells h ho
  obtain ⟨t1, t2, t3, t4⟩ := hok.typed k xs rfl
  obtain ⟨⟨arr', q1, q2⟩, q3, q4, q5, q6, q7⟩ := setCells_heap (g.ρ id) us (i * k.sz + o) w arr e fz hb
  let w' := w.setCells (g.ρ id) (i * k.sz + o) us
  have hend : i * k.sz + k.sz ≤ arr.size := by
    have : (i + 1) * k.sz ≤ xs.length * k.sz := Nat.mul_le_mul_right _ hi
    rw [Nat.add_mul, Nat.one_mul] at this
    omega
  have ilt : ∀ b j, g.I b j → b ≠ g.ρ id := by
    rintro b j hi rfl
    exact h.hr.notI id _ hid j hi
  have cello : ∀ b j, g.I b j → w'.cell? ⟨b, j, none⟩ = w.cell? ⟨b, j, none⟩ := by
    intro b j hi
    exact World.cell?_setCells_out _ _ _ w _ (fun e => absurd e (ilt b j hi))
  have u : Up g.I g.ρ s.hp.length w g.I g.ρ s.hp.length w' := ⟨fun _ _ h => h, cello, fun _ _ => rfl, Nat.le_refl _⟩
  have okeep : ∀ occ v cv, OwnOK g w occ v cv → OwnOK g w' occ v cv := by
    intro occ v cv hoo
    refine own_keep hoo rfl (fun b j hi => ⟨u.mono b j hi, u.cell b j hi⟩) ?_
    intro b hbo
    refine ⟨hbo, q3 b ?_, fun j hj => hj⟩
    rintro rfl
    rw [h.hr.notO id _ hid] at hbo
    simp at hbo
  have harr : ∀ j, arr'[j]? = if i * k.sz + o ≤ j ∧ j < i * k.sz + o + us.length then us[j - (i * k.sz + o)]? else arr[j]? := by
    intro j
    rw [← cell_of_heap q1 j]
    split
    · rename_i hj
      have := World.cell?_setCells_in (g.ρ id) us (i * k.sz + o) w (fun j' hj' => by rw [cell_of_heap hb, Array.getElem?_eq_getElem (by omega)]; rfl) (j - (i * k.sz + o)) (by omega)
      rw [show i * k.sz + o + (j - (i * k.sz + o)) = j by omega] at this
      rw [List.getElem?_eq_getElem (by omega)]
      exact this
    · rename_i hj
      rw [World.cell?_setCells_out _ _ _ w _ (fun _ _ => by simp only; omega), cell_of_heap hb]
  have hll : id < s.hp.length := (List.getElem?_eq_some_iff.1 hid).1
  have split : ∀ (id' : Nat) o', (s.hp.set id (some [V.rw k (xs.set i x')]))[id']? = some (some o') → (id' = id ∧ o' = [V.rw k (xs.set i x')]) ∨ (id' ≠ id ∧ s.hp[id']? = some (some o')) := by
    intro id' o' hq
    rw [List.getElem?_set] at hq
    split at hq
    · rename_i e
      simp [hll] at hq
      exact .inl ⟨e.symm, hq.symm⟩
    · rename_i e
      exact .inr ⟨fun e' => e e'.symm, hq⟩
  have old : ∀ (id' : Nat) o', (s.hp.set id (some [V.rw k (xs.set i x')]))[id']? = some (some o') → ∃ o'', s.hp[id']? = some (some o'') := by
    intro id' o' hq
    rcases split id' o' hq with ⟨rfl, _⟩ | ⟨_, hq⟩
    · exact ⟨_, hid⟩
    · exact ⟨_, hq⟩
  have hk0 : 0 < k.sz := by cases k <;> simp [EK.sz]
  have hxi : xs[i]? = some xs[i] := List.getElem?_eq_getElem hi
  have hnew : ∀ (q : Nat) c cv, (cellsOf [V.rw k (xs.set i x')])[q]? = some c → arr'[q]? = some cv → VRel g.I g.ρ s.hp.length w' c cv := by
    intro q c cv hc hcv
    simp only [cellsOf] at hc
    obtain ⟨y, hy, hc⟩ := flat_enc_inv _ q c hc
    have hq : q / k.sz * k.sz + q % k.sz = q := by rw [Nat.mul_comm]; exact Nat.div_add_mod q k.sz
    have hr : q % k.sz < k.sz := Nat.mod_lt _ hk0
    rw [harr] at hcv
    rw [List.getElem?_set] at hy
    split at hy
    · rename_i e1
      rw [← e1] at hq
      simp only [hi, if_true, Option.some.injEq] at hy
      subst hy
      have hel := enc_length k xs[i]
      have hg := over_get (enc k xs[i]) (vs.map V.weak) o (by simp only [List.length_map]; omega) (q % k.sz)
      simp only [List.length_map] at hg
      rw [he, hg] at hc
      split at hc
      · rename_i hj
        rw [if_pos (by omega)] at hcv
        rw [List.getElem?_map, Option.map_eq_some_iff] at hc
        obtain ⟨v, hv', rfl⟩ := hc
        rw [show q - (i * k.sz + o) = q % k.sz - o by omega] at hcv
        exact ((hv _ v cv hv' hcv).weak).up u
      · rename_i hj
        rw [if_neg (by omega)] at hcv
        exact (hrel i _ (q % k.sz) c cv hxi hc (by rw [hq]; exact hcv)).up u
    · rename_i e1
      rw [if_neg ?_] at hcv
      · exact (hrel _ y (q % k.sz) c cv hy hc (by rw [hq]; exact hcv)).up u
      · intro hh
        rcases Nat.lt_or_ge (q / k.sz) i with h1 | h1
        · have := mul_lt h1 hr
          omega
        · have h2 : i < q / k.sz := by omega
          have : (i + 1) * k.sz ≤ q / k.sz * k.sz := Nat.mul_le_mul_right _ h2
          rw [Nat.add_mul, Nat.one_mul] at this
          omega
  refine ⟨⟨⟨?_, ?_, ?_, ?_, ?_, ?_⟩, ⟨h.er.size, ?_, ?_⟩⟩, ⟨rfl, q5, q6, q7, by rw [q4]; exact Nat.le_refl _, ?_, ?_, fun _ _ _ _ _ hi => hi, fun _ _ _ hO => hO, ?_⟩⟩
  · intro id' o' hq
    simp only [St.setObj, List.length_set]
    rcases split id' o' hq with ⟨rfl, rfl⟩ | ⟨hne, hq⟩
    · refine ⟨arr', e, fz, q1, ⟨?_, (by intro hf; cases hf), ?_, (fun j hj => t1 j (Nat.lt_of_lt_of_le hj (by simp only [cellsOf, flat_enc_length, List.length_set]; exact hsz))), ?_, hnew, ?_, ?_⟩⟩
      · simp only [cellsOf, flat_enc_length, List.length_set, q2]
        exact hsz
      · intro k2 ys hz
        simp only [List.cons.injEq, and_true] at hz
        cases hz
        exact ⟨by rw [q2]; exact t1, by rw [q2]; exact t2, t3, t4⟩
      · intro c hc
        simp only [cellsOf, List.mem_flatMap] at hc
        obtain ⟨y, _, hc⟩ := hc
        exact enc_one k y c hc
      · intro j c cv hc hcv
        have hm := List.mem_of_getElem? hc
        simp only [cellsOf, List.mem_flatMap] at hm
        obtain ⟨y, _, hm⟩ := hm
        exact bare_own (enc_bare k y c hm) _ _ _ _
      · intro j E n hc
        simp only [cellsOf] at hc
        obtain ⟨y, _, hc⟩ := flat_enc_inv _ j _ hc
        exact absurd hc (enc_noBn k y _ E n)
    · obtain ⟨arr2, e2, fz2, k1, k2⟩ := h.hr.obj id' o' hq
      refine ⟨arr2, e2, fz2, ?_, k2.len, k2.plain, k2.typedUp rfl u.rho u.num rfl, k2.cold, k2.one, fun j c cv hc hcv => (k2.rel j c cv hc hcv).up u, fun j c cv hc hcv => okeep _ _ _ (k2.own j c cv hc hcv), k2.bn⟩
      rw [q3 _ (h.hr.apart id' id o' _ hq hid hne)]
      exact k1
  · intro id1 id2 c1 c2 k1 k2 hne
    obtain ⟨_, k1⟩ := old id1 c1 k1
    obtain ⟨_, k2⟩ := old id2 c2 k2
    exact h.hr.apart _ _ _ _ k1 k2 hne
  · intro id1 c1 k1
    obtain ⟨_, k1⟩ := old id1 c1 k1
    exact h.hr.notI _ _ k1
  · intro id1 c1 k1
    obtain ⟨_, k1⟩ := old id1 c1 k1
    exact h.hr.notO _ _ k1
  · intro b j hi
    rw [cello b j hi]
    exact h.hr.exI b j hi
  · intro b oc hbo
    rw [q4]
    exact h.hr.oLt b oc hbo
  · intro n v cv hq hcv
    simp only [St.setObj, List.length_set]
    exact (h.er.rel n v cv hq hcv).up u
  · intro n v cv hq hcv
    exact okeep _ _ _ (h.er.own n v cv hq hcv)
  · intro b _ hno _
    exact q3 b (fun e => hno id _ hid e.symm)
  · simp only [List.length_set]
    exact u
  · intro id' o' hq
    obtain ⟨o'', hq⟩ := old id' o' hq
    exact .inl ⟨o'', hq⟩

theorem op_apw {d : Nat} {k : EK} {x y : ASrc} (hβ : g.β = byteT P) (hc : chkW P (.apw d k x y) m = true) (hs : step Γ (.apw d k x y) s = some (true, s')) (h : SR g s w a) (hn : Goes g s w a s' next) : m.wp P a w next Q := by
  obtain ⟨dst, op, ty, pos, aft, gd⟩ := m
  simp only [chkW, Bool.and_eq_true, beq_iff_eq] at hc
  obtain ⟨rfl, hc⟩ := hc
  split at hc
  · rename_i x' y' t u hop
    obtain rfl := callB_some hop
    simp only [Bool.and_eq_true] at hc
    obtain ⟨h1, h2, h3, h4⟩ := hc
    obtain ⟨e, u1, e1⟩ := sliceOK_facts h1
    obtain ⟨e', u2, e2⟩ := sliceOK_facts h2
    simp only [step] at hs
    split at hs
    · rename_i k' l k0 id n hx hy
      split at hs
      · rename_i k'' mm hrow
        split at hs
        · rename_i hk
          subst hk
          split at hs
          · rename_i hkk
            subst hkk
            simp only [Option.some.injEq, Prod.mk.injEq, Bool.and_eq_true, decide_eq_true_eq] at hs
            obtain ⟨⟨hn', hfit⟩, rfl⟩ := hs
            obtain rfl := Nat.eq_of_beq_eq_true hn'
            have r2 := src_rel h4 h.er
            rw [hy] at r2
            generalize hcy : a.eval y' = cy at r2
            obtain ⟨arr, er, fz, hb, hsz, hok, hrel⟩ := rowW_cells h hrow
            have l1 : (arr.toList.take (mm.length * k''.sz)).length = mm.length * k''.sz := by simp; omega
            have l3 : ∀ (i : Nat) x (j : Nat) v, mm[i]? = some x → (enc k'' x)[j]? = some v → ∃ u, (arr.toList.take (mm.length * k''.sz))[i * k''.sz + j]? = some u ∧ VRel g.I (fun _ => 0) 0 w v u := by
              intro i x j v hx hv
              have hj : j < k''.sz := by
                have := (List.getElem?_eq_some_iff.1 hv).1
                rwa [enc_length] at this
              have hlt := mul_lt (List.getElem?_eq_some_iff.1 hx).1 hj
              have ha : arr[i * k''.sz + j]? = some (arr[i * k''.sz + j]'(by omega)) := Array.getElem?_eq_getElem _
              refine ⟨_, ?_, ul_flat hv (hrel i x j v _ hx hv ha)⟩
              rw [List.getElem?_take, if_pos hlt, Array.getElem?_toList]
              exact ha
            refine append_ul hβ h h3 hx u1 e1 (arr.toList.take (mm.length * k''.sz)) (ys := mm) ?_ l3 hfit hn
            rw [hcy]
            cases r2 with
            | sw _ _ _ hid hcap hmax =>
              have hone : ∀ v ∈ arr.toList.take (mm.length * k''.sz), v.oneCell' = true := by
                intro v hv
                obtain ⟨j, hj, rfl⟩ := List.mem_iff_getElem.1 hv
                have hk0 : 0 < k''.sz := by cases k'' <;> simp [EK.sz]
                have hjl : j < mm.length * k''.sz := by rw [← l1]; exact hj
                have hi : j / k''.sz < mm.length := Nat.div_lt_of_lt_mul (by rw [Nat.mul_comm]; exact hjl)
                have hr : j % k''.sz < k''.sz := Nat.mod_lt _ hk0
                have hx : mm[j / k''.sz]? = some mm[j / k''.sz] := List.getElem?_eq_getElem hi
                have hlen : j % k''.sz < (enc k'' mm[j / k''.sz]).length := by rw [enc_length]; exact hr
                obtain ⟨u, q1, q2⟩ := l3 _ _ (j % k''.sz) _ hx (List.getElem?_eq_getElem hlen)
                rw [show j / k''.sz * k''.sz + j % k''.sz = j by rw [Nat.mul_comm]; exact Nat.div_add_mod j k''.sz, List.getElem?_eq_getElem hj] at q1
                obtain rfl := Option.some.inj q1
                exact q2.oneCell (enc_one _ _ _ (List.getElem_mem hlen))
              exact _root_.Go.Src.ofSlice w u2 _ _ _ _ l1 (by
                intro j v hj
                rw [Addr.add_lit, Nat.zero_add, cell_of_heap hb]
                rw [List.getElem?_take] at hj
                split at hj
                · simpa using hj
                · simp at hj) hone
          · simp at hs
        · simp at hs
      · simp at hs
    · simp at hs
  · simp at hc

theorem op_stw {d : Option Nat} {n : Nat} {x v : ASrc} (hc : chkW P (.stw d n x v) m = true) (hs : step Γ (.stw d n x v) s = some (true, s')) (h : SR g s w a) (hn : Goes g s w a s' next) : m.wp P a w next Q := by
  obtain ⟨dst, op, ty, pos, aft, gd⟩ := m
  simp only [chkW, Bool.and_eq_true, beq_iff_eq] at hc
  obtain ⟨rfl, hc⟩ := hc
  split at hc
  · rename_i t x' v'
    simp only [Bool.and_eq_true, beq_iff_eq] at hc
    obtain ⟨h1, h2, h3⟩ := hc
    have r1 := src_rel h2 h.er
    have r2 := src_rel h3 h.er
    simp only [step] at hs
    split at hs
    · rename_i id k i o hx
      split at hs
      · rename_i k' xs ho
        split at hs
        · rename_i hcond
          obtain ⟨rfl, hle, hcond⟩ := hcond
          simp only [Bool.and_eq_true, beq_iff_eq] at hcond
          obtain ⟨hln, hone⟩ := hcond
          split at hs
          · rename_i x2 hel
            simp only [Option.some.injEq, Prod.mk.injEq, decide_eq_true_eq] at hs
            obtain ⟨hi, rfl⟩ := hs
            have hd : xs.getD i (dflt k') = xs[i] := by simp [List.getD, List.getElem?_eq_getElem hi]
            rw [hd] at hel
            rw [hx] at r1
            generalize hcx : a.eval x' = cx at r1
            cases r1 with
            | wp _ _ _ _ hid =>
              obtain ⟨arr, e, fz, hb, hsz, hok, hrel⟩ := rowW_cells h ho
              obtain ⟨c1, c2, c3⟩ := cells_rel r2 hone
              have hsz2 : (a.eval v').cells.size = n := by rw [← c1]; exact hln
              have hend : i * k'.sz + k'.sz ≤ arr.size := by
                have : (i + 1) * k'.sz ≤ xs.length * k'.sz := Nat.mul_le_mul_right _ hi
                rw [Nat.add_mul, Nat.one_mul] at this
                omega
              have hrun : (execOp a.eval ⟨dst, .store t x' v', ty, pos, aft, gd⟩).run P w = .ok .skip (w.setCells (g.ρ id) (i * k'.sz + o) (a.eval v').cells.toList) := by
                have := run_storeCells_cells (P := P) (g.ρ id) (i * k'.sz + o) (a.eval v').cells.toList 0 w
                  (fun j hj => by rw [cell_of_heap hb, Array.getElem?_eq_getElem (by simp at hj; omega)]; rfl)
                  (fun j hj => by
                    have hc := (hok.typed k' xs rfl).1 (i * k'.sz + o + j) (by simp at hj; omega)
                    simp [World.frozen?, hb]
                    omega)
                  (fun u hu => by
                    obtain ⟨j, hj, rfl⟩ := List.mem_iff_getElem.1 hu
                    have hj' : j < (v.ev s).cells.length := by rw [c1]; simpa using hj
                    exact (c3 j _ _ (List.getElem?_eq_getElem hj') (by simp)).oneCell (c2 _ (List.getElem_mem hj')))
                simp [execOp, hcx, Instr.storeAt, Instr.sureAddr, storeVar, run_sizeT h1, hsz2, this]
              have hxr : ∀ c ∈ enc k' xs[i], c.inRange := by
                intro c hc
                obtain ⟨j, hj, rfl⟩ := List.mem_iff_getElem.1 hc
                have hj' : j < k'.sz := by rwa [enc_length] at hj
                exact (hrel i _ j _ _ (List.getElem?_eq_getElem hi) (List.getElem?_eq_getElem hj) (Array.getElem?_eq_getElem (show i * k'.sz + j < arr.size by omega))).inRange
              have hvr : ∀ c ∈ (v.ev s).cells, c.inRange := by
                intro c hc
                obtain ⟨j, hj, rfl⟩ := List.mem_iff_getElem.1 hc
                exact (c3 j _ _ (List.getElem?_eq_getElem hj) (Array.getElem?_eq_getElem (show j < (a.eval v').cells.size by omega))).inRange
              obtain ⟨p1, p2⟩ := h.putElt (o := o) (us := (a.eval v').cells.toList) ho hi (by simpa using c1) (by omega) (setElt_enc hel hxr hvr) (fun j c cv hc hcv => c3 j c cv hc (by simpa using hcv))
              unfold Oper.wp Oper.upon
              rw [hrun]
              cases dst with
              | none => exact hn _ _ g p1 p2 rfl
              | some d => exact hn _ _ g (p1.set d (.undef _) (by simp [OwnOK])) p2 rfl
          · simp at hs
        · simp at hs
      · simp at hs
    · simp at hs
  · simp at hc
end
end Go.AM
