/-
  Appends, and bytes out of a text.
-/
import Derived.Test.YtifmekddikapeaaAmOpsE
namespace Go.AM
set_option autoImplicit false
set_option linter.unusedSimpArgs false
set_option linter.unusedVariables false

section
variable {w w' : World} {g g' : Gh} {s s' : St} {a : Act} {P : Program} {Γ : ASpec} {m : Oper} {next : Act → World → Prop} {Q : Exit → Act → World → Prop}

theorem setCells_heap (b : Nat) : ∀ (vs : List Value) (o : Nat) (w : World) (arr : Array Value) (e : TypeId) (fz : Nat × Nat), w.heap[b]? = some (.cells arr e fz) →
    (∃ arr', (w.setCells b o vs).heap[b]? = some (.cells arr' e fz) ∧ arr'.size = arr.size) ∧ (∀ b', b' ≠ b → (w.setCells b o vs).heap[b']? = w.heap[b']?) ∧
      (w.setCells b o vs).heap.size = w.heap.size ∧ (w.setCells b o vs).os = w.os ∧ (w.setCells b o vs).tape = w.tape ∧ (w.setCells b o vs).output = w.output
  | [], o, w, arr, e, fz, h => ⟨⟨arr, h, rfl⟩, fun _ _ => rfl, rfl, rfl, rfl, rfl⟩
  | v :: vs, o, w, arr, e, fz, h => by
    have h1 : (w.setCell ⟨b, o, none⟩ v).heap[b]? = some (.cells (arr.setIfInBounds o v) e fz) := by
      simp [World.setCell, Array.getElem?_modify, h]
    obtain ⟨⟨arr', k1, k2⟩, k3, k4, k5, k6, k7⟩ := setCells_heap b vs (o + 1) (w.setCell ⟨b, o, none⟩ v) _ e fz h1
    refine ⟨⟨arr', k1, by simpa using k2⟩, fun b' hb => ?_, k4.trans (by simp [World.setCell]), k5, k6, k7⟩
    rw [show (w.setCells b o (v :: vs)) = (w.setCell ⟨b, o, none⟩ v).setCells b (o + 1) vs from rfl, k3 b' hb]
    simp only [World.setCell, Array.getElem?_modify]
    rw [if_neg (by simpa using Ne.symm hb)]

/-- what a slice's cells are, one behind the other -/
theorem sl_row {k : EK} {o : Fl} {xs : List (Ty k)} {cv : Value} (h : VRel g.I g.ρ s.hp.length w (.sl k o xs) cv) :
    ∃ (L : List Value), L.length = xs.length * k.sz ∧ (∀ u ∈ L, u.oneCell' = true) ∧
      (∀ (i : Nat) x (j : Nat) v, xs[i]? = some x → (enc k x)[j]? = some v → ∃ u, L[i * k.sz + j]? = some u ∧ VRel g.I g.ρ s.hp.length w v u) ∧
      ((xs = [] ∧ ∃ ad, cv = .slice ad 0 0 ∧ (o = .own → ad = none)) ∨ ∃ b off cap, cv = .slice (some ⟨b, off, none⟩) xs.length cap ∧ xs.length ≤ cap ∧ cap ≤ maxI ∧ ∀ (j : Nat) u, L[j]? = some u → w.cell? ⟨b, off + j, none⟩ = some u) := by
  cases h with
  | sln => exact ⟨[], by simp, by simp, by simp, .inl ⟨rfl, none, rfl, fun _ => rfl⟩⟩
  | sle _ _ ad ho => exact ⟨[], by simp, by simp, by simp, .inl ⟨rfl, some ad, rfl, fun h => absurd h ho⟩⟩
  | sl _ _ _ b off len cap hl hc hm hf f hI hw hv =>
    subst hl
    have hk0 : 0 < k.sz := by cases k <;> simp [EK.sz]
    have hdm : ∀ (i j : Nat), j < k.sz → (i * k.sz + j) / k.sz = i ∧ (i * k.sz + j) % k.sz = j := by
      intro i j hj
      constructor
      · rw [Nat.add_comm, Nat.add_mul_div_right _ _ hk0, Nat.div_eq_of_lt hj]; omega
      · rw [Nat.add_comm, Nat.add_mul_mod_self_right, Nat.mod_eq_of_lt hj]
    have hget : ∀ (q : Nat), q < xs.length * k.sz → q / k.sz < xs.length ∧ q % k.sz < k.sz ∧ q / k.sz * k.sz + q % k.sz = q := by
      intro q hq
      exact ⟨Nat.div_lt_of_lt_mul (by rwa [Nat.mul_comm]), Nat.mod_lt _ hk0, Nat.div_add_mod' q k.sz⟩
    refine ⟨(List.range (xs.length * k.sz)).map fun q => f (q / k.sz) (q % k.sz), by simp, ?_, ?_, .inr ⟨b, off, cap, rfl, hc, hm, ?_⟩⟩
    · intro u hu
      obtain ⟨q, hq, rfl⟩ := List.mem_map.1 hu
      obtain ⟨h1, h2, h3⟩ := hget q (by simpa using hq)
      have hx : xs[q / k.sz]? = some xs[q / k.sz] := List.getElem?_eq_getElem h1
      have hj : q % k.sz < (enc k xs[q / k.sz]).length := by rw [enc_length]; exact h2
      exact (hv _ _ _ _ hx (List.getElem?_eq_getElem hj)).oneCell (enc_one _ _ _ (List.getElem_mem hj))
    · intro i x j v hx hv'
      have hj : j < k.sz := by
        have := (List.getElem?_eq_some_iff.1 hv').1
        rwa [enc_length] at this
      have hi : i < xs.length := (List.getElem?_eq_some_iff.1 hx).1
      have hlt : i * k.sz + j < xs.length * k.sz := by
        calc i * k.sz + j < i * k.sz + k.sz := by omega
          _ = (i + 1) * k.sz := by rw [Nat.add_mul, Nat.one_mul]
          _ ≤ xs.length * k.sz := Nat.mul_le_mul_right _ hi
      obtain ⟨d1, d2⟩ := hdm i j hj
      refine ⟨f i j, ?_, hv i x j v hx hv'⟩
      simp [List.getElem?_map, List.getElem?_range hlt, d1, d2]
    · intro j u hu
      rw [List.getElem?_map, Option.map_eq_some_iff] at hu
      obtain ⟨q, hq, rfl⟩ := hu
      obtain ⟨hlt, rfl⟩ := List.getElem?_eq_some_iff.1 hq
      simp only [List.length_range] at hlt
      obtain ⟨h1, h2, h3⟩ := hget j hlt
      have hx : xs[j / k.sz]? = some xs[j / k.sz] := List.getElem?_eq_getElem h1
      have := hw _ _ (j % k.sz) hx (by rw [enc_length]; exact h2)
      rw [show off + j / k.sz * k.sz + j % k.sz = off + j by omega] at this
      simpa using this

/-- an owned row is written behind its length, in its place -/
theorem SR.inPlace (h : SR g s w a) {p : Occ} (hp : Bared (some p) s) (k : EK) (xs ys : List (Ty k)) (b off cap d : Nat) (news : List Value)
    (hx : VRel g.I g.ρ s.hp.length w (.sl k .own xs) (.slice (some ⟨b, off, none⟩) xs.length cap)) (ho : OwnOK g w p (.sl k .own xs) (.slice (some ⟨b, off, none⟩) xs.length cap))
    (hroom : xs.length + ys.length ≤ cap) (hl : news.length = ys.length * k.sz)
    (hv : ∀ (i : Nat) x (j : Nat) v, ys[i]? = some x → (enc k x)[j]? = some v → ∃ u, news[i * k.sz + j]? = some u ∧ VRel g.I g.ρ s.hp.length w v u) :
    ∃ g', SR g' (s.set d (.sl k .own (xs ++ ys))) (w.setCells b (off + xs.length * k.sz) news) (a.put (some d) (.slice (some ⟨b, off, none⟩) (xs.length + ys.length) cap)) ∧
      FR g s.hp w g' s.hp (w.setCells b (off + xs.length * k.sz) news) := by
  obtain ⟨o1, ⟨arr, e, fz, o2, o3, oβ⟩, o4⟩ := ho
  simp only at o1 o2 o3 o4
  let st := off + xs.length * k.sz
  have hend : st + news.length ≤ off + cap * k.sz := by
    have : (xs.length + ys.length) * k.sz ≤ cap * k.sz := Nat.mul_le_mul_right _ hroom
    rw [Nat.add_mul] at this
    simp only [st, hl]
    omega
  obtain ⟨⟨arr', q1, q2⟩, q3, q4, q5, q6, q7⟩ := setCells_heap b news st w arr e fz o2
  let w' := w.setCells b st news
  let g' : Gh := { I := fun b' j => g.I b' j ∨ (b' = b ∧ st ≤ j ∧ j < st + news.length), ρ := g.ρ, O := fun b' => if b' = b then some (.slot d) else g.O b', β := g.β }
  have tail : ∀ j, st ≤ j → j < off + cap * k.sz → ¬ g.I b j := fun j h1 h2 => (o4 j h1 h2).1
  have cello : ∀ b' j, g.I b' j → w'.cell? ⟨b', j, none⟩ = w.cell? ⟨b', j, none⟩ := by
    intro b' j hi
    refine World.cell?_setCells_out b news st w _ ?_
    rintro rfl _
    rcases Nat.lt_or_ge j st with h1 | h1
    · exact .inl h1
    · rcases Nat.lt_or_ge j (off + cap * k.sz) with h2 | h2
      · exact absurd hi (tail j h1 h2)
      · right; show st + news.length ≤ j; omega
  have celln : ∀ j (hj : j < news.length), w'.cell? ⟨b, st + j, none⟩ = some news[j] := by
    intro j hj
    refine World.cell?_setCells_in b news st w (fun j' hj' => ?_) j hj
    rw [cell_of_heap o2, Array.getElem?_eq_getElem (by omega)]
    rfl
  have hbo : ∀ (id : Nat) cs, s.hp[id]? = some (some cs) → g.ρ id ≠ b := by
    intro id cs hid e'
    have := h.hr.notO id cs hid
    rw [e', o1] at this
    simp at this
  have u : Up g.I g.ρ s.hp.length w g'.I g'.ρ s.hp.length w' := ⟨fun b j hi => .inl hi, cello, fun _ _ => rfl, Nat.le_refl _⟩
  have hs : SR g' s w' a := by
    refine h.keep (some p) hp rfl u ?_ ?_ ?_ ?_
    · intro occ b' hb' hne
      have hbb : b' ≠ b := by
        rintro rfl
        rw [o1] at hb'
        exact hne hb'
      refine ⟨by simp [g', hbb, hb'], q3 b' hbb, ?_⟩
      rintro j (hj | ⟨hj, _⟩)
      · exact hj
      · exact absurd hj hbb
    · intro id cs hid
      have hbb := hbo id cs hid
      refine ⟨q3 _ hbb, by simp [g', hbb, h.hr.notO id cs hid], ?_⟩
      rintro j (hj | ⟨hj, _⟩)
      · exact hj
      · exact absurd hj hbb
    · rintro b' j (hj | ⟨rfl, h1, h2⟩)
      · rw [cello b' j hj]; exact h.hr.exI b' j hj
      · have := celln (j - st) (by omega)
        rw [show st + (j - st) = j by omega] at this
        rw [this]; rfl
    · intro b' o hb'
      simp only [g'] at hb'
      rw [q4]
      split at hb'
      · rename_i e'; subst e'; exact h.hr.oLt _ _ o1
      · exact h.hr.oLt _ _ hb'
  obtain ⟨L, l1, l2, l3, l4⟩ := sl_row hx
  have hcm : cap ≤ maxI := by
    cases hx with
    | sle _ _ _ ho => exact absurd rfl ho
    | sl => assumption
  have hnth : ∀ (i : Nat) x, (xs ++ ys)[i]? = some x → (i < xs.length ∧ xs[i]? = some x) ∨ (xs.length ≤ i ∧ ys[i - xs.length]? = some x) := by
    intro i x hi
    rcases Nat.lt_or_ge i xs.length with h1 | h1
    · rw [List.getElem?_append_left h1] at hi
      exact .inl ⟨h1, hi⟩
    · rw [List.getElem?_append_right h1] at hi
      exact .inr ⟨h1, hi⟩
  have hpos : ∀ (i j : Nat), xs.length ≤ i → off + i * k.sz + j = st + ((i - xs.length) * k.sz + j) := by
    intro i j hi
    have : i * k.sz = xs.length * k.sz + (i - xs.length) * k.sz := by rw [← Nat.add_mul]; congr 1; omega
    simp only [st]
    omega
  have hrel : VRel g'.I g'.ρ s.hp.length w' (.sl k .own (xs ++ ys)) (.slice (some ⟨b, off, none⟩) (xs.length + ys.length) cap) := by
    cases hx with
    | sle _ _ _ ho => exact absurd rfl ho
    | sl _ _ _ _ _ _ _ hl' hc' hm' hfl f hI hw hv' =>
    refine .sl k .own _ _ _ _ _ (by simp) (by simpa using hroom) hcm (by simp) (fun i j => if i < xs.length then f i j else news[(i - xs.length) * k.sz + j]?.getD undef) ?_ ?_ ?_
    · intro i x j hi hj
      rcases hnth i x hi with ⟨h1, h2⟩ | ⟨h1, h2⟩
      · exact .inl (hI i x j h2 hj)
      · obtain ⟨u, hu, _⟩ := hv _ x j _ h2 (List.getElem?_eq_getElem hj)
        have := (List.getElem?_eq_some_iff.1 hu).1
        refine .inr ⟨rfl, ?_⟩
        rw [hpos i j h1]
        omega
    · intro i x j hi hj
      rcases hnth i x hi with ⟨h1, h2⟩ | ⟨h1, h2⟩
      · simp only [h1, if_true]
        rw [cello _ _ (hI i x j h2 hj)]
        exact hw i x j h2 hj
      · obtain ⟨u, hu, _⟩ := hv _ x j _ h2 (List.getElem?_eq_getElem hj)
        have hlt := (List.getElem?_eq_some_iff.1 hu).1
        simp only [Nat.not_lt.2 h1, if_false]
        rw [hpos i j h1, celln _ hlt, List.getElem?_eq_getElem hlt]
        rfl
    · intro i x j v hi hj
      rcases hnth i x hi with ⟨h1, h2⟩ | ⟨h1, h2⟩
      · simp only [h1, if_true]
        exact (hv' i x j v h2 hj).up u
      · obtain ⟨u', hu, hr⟩ := hv _ x j v h2 hj
        simp only [Nat.not_lt.2 h1, if_false, hu]
        exact hr.up u
  refine ⟨g', hs.set d hrel ?_, ⟨rfl, q5, q6, q7, by rw [q4]; exact Nat.le_refl _, fun b' hb' _ hO => ?_, u, ?_, ?_, fun _ cs h => .inl ⟨cs, h⟩⟩⟩
  · refine ⟨by simp [g'], ⟨arr', e, fz, q1, by rw [q2]; exact o3, oβ⟩, ?_⟩
    intro j h1 h2
    simp only at h1 h2
    have hst : st + news.length ≤ j := by
      simp only [st, hl]
      rw [Nat.add_mul] at h1
      omega
    have := o4 j (by simp only [st] at hst; omega) h2
    refine ⟨?_, ?_⟩
    · rintro (hi | ⟨_, _, hi⟩)
      · exact this.1 hi
      · omega
    · rw [World.frozen?_setCells]; exact this.2
  · have hbb : b' ≠ b := by rintro rfl; rw [o1] at hO; simp at hO
    exact q3 b' hbb
  · rintro b' j hb' _ hO (hj | ⟨hj, _⟩)
    · exact hj
    · subst hj; rw [o1] at hO; simp at hO
  · intro b' hb' _ hO
    have hbb : b' ≠ b := by rintro rfl; rw [o1] at hO; simp at hO
    simp [g', hbb, hO]

theorem cast_sl {k k' : EK} (h : k' = k) {o : Fl} {m : List (Ty k')} {I : Nat → Nat → Prop} {ρ : Nat → Nat} {N : Nat} {w : World} {cv : Value} (r : VRel I ρ N w (.sl k' o m) cv) : VRel I ρ N w (.sl k o (h ▸ m)) cv := by
  subst h; exact r

theorem cast_len {k k' : EK} (h : k' = k) (m : List (Ty k')) : (h ▸ m : List (Ty k)).length = m.length := by subst h; rfl

/-- both arms of an append: where what is appended yields such cells -/
theorem append_both (hβ : g.β = byteT P) {d : Nat} {k : EK} {x : ASrc} {x' y' : Operand} {xs ys : List (Ty k)} {ty t u e : TypeId} {pos : String} {aft : Array Edge} {gd : Option (Nat × Bool)} (h : SR g s w a)
    (hx : srcOK x x' = true) {o : Fl} (hxe : x.ev s = .sl k o xs) (happ : o.app ys.length = true) (ut : P.underlying t = some (.slice e)) (he : elemOK P e k = true) (news : List Value)
    (hs : _root_.Go.Src P k.sz u (a.eval y') ys.length news w) (hv : ∀ (i : Nat) x (j : Nat) v, ys[i]? = some x → (enc k x)[j]? = some v → ∃ u, news[i * k.sz + j]? = some u ∧ VRel g.I g.ρ s.hp.length w v u)
    (hfit : (xs.length + ys.length) * k.bytes ≤ reach)
    (hn : Goes g s w a ((x.after s).set d (.sl k .own (xs ++ ys))) next) :
    (⟨some d, .call ⟨.builtin .append, ⟨[x', y']⟩, ⟨[t, u]⟩⟩, ty, pos, aft, gd⟩ : Oper).wp P a w next Q := by
  obtain ⟨inf, z, i1, i2, i3, i4, i5, i6, i7⟩ := elemOK_facts he
  have r1 := src_rel hx h.er
  rw [hxe] at r1
  have hkb : 0 < k.bytes := by cases k <;> simp [EK.bytes]; rename_i kk; cases kk <;> simp [kindSize]
  have hlen : xs.length + ys.length ≤ reach := Nat.le_trans (Nat.le_mul_of_pos_right _ hkb) hfit
  -- who owns the row till now
  have hown : o = .own → ∃ p, Bared (some p) (x.after s) ∧ OwnOK g w p (.sl k .own xs) (a.eval x') := by
    rintro rfl
    unfold srcOK at hx
    split at hx
    · rename_i n k'
      obtain rfl := by simpa using hx
      simp only [ASrc.ev] at hxe
      exfalso
      cases hg : s.get n <;> rw [hg] at hxe <;> simp [disown] at hxe
      rename_i o' _
      cases o' <;> simp [Fl.dis] at hxe
    · rename_i n k'
      obtain rfl := by simpa using hx
      refine ⟨.slot n, after_bared n s, ?_⟩
      have := h.er.getOwn n
      rwa [show s.get n = .sl k .own xs from hxe] at this
    · rename_i v cv
      simp only [ASrc.ev] at hxe
      subst hxe
      exact ⟨.res, trivial, constOK_own hx _⟩
    · rename_i f hf
      simp only [ASrc.ev] at hxe
      cases hxe
    · simp at hx
  have h1 := h.after x
  obtain ⟨L, l1, l2, l3, l4⟩ := sl_row r1
  have hrun : ∀ cv w', (Builtin.append_ #[t, u] ty #[a.eval x', a.eval y']).run P w = .ok cv w' → (execOp a.eval ⟨some d, .call ⟨.builtin .append, ⟨[x', y']⟩, ⟨[t, u]⟩⟩, ty, pos, aft, gd⟩).run P w = .ok (.value cv) w' := by
    intro cv w' hr
    simp [execOp, resolve, invoke, builtin, hr]
  have hhp : (x.after s).hp = s.hp := after_hp x s
  -- a new row
  have grow : ∀ (base : Option Addr) (cap : Nat), a.eval x' = .slice base xs.length cap → cap < xs.length + ys.length →
      (Builtin.firstCells k.sz xs.length (.slice base xs.length cap)).run P w.drew = .ok L.toArray w.drew →
      (⟨some d, .call ⟨.builtin .append, ⟨[x', y']⟩, ⟨[t, u]⟩⟩, ty, pos, aft, gd⟩ : Oper).wp P a w next Q := by
    intro base cap hb hcap hold
    have hr := run_append_grow_src w t u ty e inf z ut i1 i4 base xs.length cap L (by rw [i2]; exact hold) (a.eval y') ys.length news (by rw [i2]; exact hs) hcap (by unfold reach at hlen; omega)
      (growslice_fits hcap (by rw [i3]; exact hfit))
    have hcapn : xs.length + ys.length ≤ grownCap w (xs.length + ys.length) cap e := by
      unfold grownCap Question.cut
      exact Nat.le_add_right _ _
    have hcm : grownCap w (xs.length + ys.length) cap e ≤ maxI := by
      have := grownCap_le_maxLen w (xs.length + ys.length) cap e (by unfold maxLen; unfold reach at hlen; omega)
      simpa [maxLen, maxI] using this
    let arr : Array Value := (L ++ news).toArray ++ Builtin.zeroCells z.cells (grownCap w (xs.length + ys.length) cap e - (xs.length + ys.length))
    have hnl := hs.newsLen
    have harr : arr.size = grownCap w (xs.length + ys.length) cap e * k.sz := by
      simp only [arr, Array.size_append, List.size_toArray, List.length_append, l1, hnl, size_zeroCells, i7]
      rw [← Nat.add_mul, ← Nat.add_mul]
      congr 1
      omega
    have f := alloc_facts w.drew (.cells arr e)
    obtain ⟨g', q1, q2⟩ := h1.newRow (w' := w.drew.alloc (.cells arr e)) k (xs ++ ys) (grownCap w (xs.length + ys.length) cap e) d arr e (0, 0) f.1 f.2.1 f.2.2 rfl rfl rfl (o := .own) (by simp) (by simpa using hcapn) hcm (by rw [harr]; exact Nat.le_refl _) (fun hk => by rw [hβ]; exact elemOK_byte he hk) (by intro j h1 h2; omega) (by
      intro i x j v hx hv'
      have hj : j < k.sz := by
        have := (List.getElem?_eq_some_iff.1 hv').1
        rwa [enc_length] at this
      have hleft : ∀ (q : Nat) u, (L ++ news)[q]? = some u → arr[q]? = some u := by
        intro q u hq
        have hlt := (List.getElem?_eq_some_iff.1 hq).1
        simp only [arr]
        rw [Array.getElem?_append_left (by simpa using hlt)]
        simpa using hq
      rcases Nat.lt_or_ge i xs.length with hi | hi
      · rw [List.getElem?_append_left hi] at hx
        obtain ⟨u, e1, e2⟩ := l3 i x j v hx hv'
        refine ⟨u, hleft _ _ ?_, by rw [hhp]; exact e2⟩
        rw [List.getElem?_append_left (List.getElem?_eq_some_iff.1 e1).1]
        exact e1
      · rw [List.getElem?_append_right hi] at hx
        obtain ⟨u, e1, e2⟩ := hv _ x j v hx hv'
        refine ⟨u, hleft _ _ ?_, by rw [hhp]; exact e2⟩
        have : i * k.sz = xs.length * k.sz + (i - xs.length) * k.sz := by rw [← Nat.add_mul]; congr 1; omega
        rw [List.getElem?_append_right (by rw [l1]; omega), l1, ← e1]
        congr 1
        omega)
    have hgoal : (execOp a.eval ⟨some d, .call ⟨.builtin .append, ⟨[x', y']⟩, ⟨[t, u]⟩⟩, ty, pos, aft, gd⟩).run P w = .ok (.value (.slice (some ⟨w.heap.size, 0, none⟩) (xs ++ ys).length (grownCap w (xs.length + ys.length) cap e))) (w.drew.alloc (.cells arr e)) := by
      refine hrun _ _ ?_
      rw [hb, hr]
      simp [arr]
    refine goes_at rfl hgoal ⟨g', q1, ?_⟩ hn
    rw [hhp] at q2
    show FR g s.hp w g' (x.after s).hp _
    rw [hhp]
    exact q2
  rcases l4 with ⟨rfl, ad, hcv, had⟩ | ⟨b, off, cap, hcv, hcap, hcm, hcells⟩
  · by_cases h0 : ys.length = 0
    · have hy0 : ys = [] := List.eq_nil_of_length_eq_zero h0
      subst hy0
      obtain rfl : ad = none := had (by
        cases o with
        | own => rfl
        | may u => simp [Fl.app] at happ)
      have hr : (Builtin.append_ #[t, u] ty #[a.eval x', a.eval y']).run P w = .ok (.slice none 0 0) w := by
        have hnews : news = [] := by have := hs.newsLen; simpa using this
        have hc := hs.cells
        rw [hcv]
        rcases hs.kind with ⟨e', hk⟩ | hk <;> simp [Builtin.append_, run_underlying ut, run_underlying hk, sizeOf, typeInfo, i1, i2, hs.len] at * <;> simp [hc]
      refine goes_at rfl (hrun _ _ hr) ⟨g, ?_, ?_⟩ hn
      · exact h1.set d (by simpa using VRel.sln (I := g.I) (ρ := g.ρ) (N := (x.after s).hp.length) (w := w) k .own) (by simp [OwnOK])
      · have := FR.refl g s.hp w
        simpa [St.set, hhp] using this
    · exact grow ad 0 (by simpa using hcv) (by simp; omega) (by
        have hL : L = [] := by simpa using l1
        subst hL
        cases ad with
        | none => simpa using run_firstCells_none (P := P) w.drew k.sz 0 0 0
        | some ad => simpa using run_firstCells_some (P := P) w.drew k.sz 0 ad 0 0 [] (by simp) (by intro j v hj; simp at hj))
  · by_cases hroom : xs.length + ys.length ≤ cap
    · have hown' : o = .own := by
        cases o with
        | own => rfl
        | may u =>
          simp only [Fl.app, Bool.and_eq_true, decide_eq_true_eq] at happ
          obtain ⟨rfl, hpos⟩ := happ
          rw [hcv] at r1
          have := r1.full
          omega
      subst hown'
      obtain ⟨p, hp, ho⟩ := hown rfl
      rw [hcv] at ho r1
      obtain ⟨o1, ⟨arr, e', fz, o2, o3⟩, o4⟩ := ho
      simp only at o1 o2 o3 o4
      have hend : off + xs.length * k.sz + news.length ≤ off + cap * k.sz := by
        have : (xs.length + ys.length) * k.sz ≤ cap * k.sz := Nat.mul_le_mul_right _ hroom
        rw [Nat.add_mul] at this
        rw [hs.newsLen]
        omega
      have hr := run_append_room_src w t u ty e inf ut i1 b off xs.length cap (a.eval y') ys.length news (by rw [i2]; exact hs) hroom (by
        intro j hj
        rw [i2, cell_of_heap o2, Array.getElem?_eq_getElem (by omega)]
        rfl) (by
        intro j hj
        rw [i2]
        exact (o4 _ (by omega) (by omega)).2)
      rw [i2] at hr
      have q := h1.inPlace hp k xs ys b off cap d news (by rw [hhp]; exact r1) ⟨o1, ⟨arr, e', fz, o2, o3⟩, o4⟩ hroom hs.newsLen (by rw [hhp]; exact hv)
      rw [hhp] at q
      refine goes_at rfl (hrun _ _ (by rw [hcv]; exact hr)) ?_ hn
      obtain ⟨g', q1, q2⟩ := q
      exact ⟨g', q1, by simpa [St.set, hhp] using q2⟩
    · exact grow _ cap hcv (by omega) (run_firstCells_some w.drew k.sz xs.length ⟨b, off, none⟩ xs.length cap L (by simpa using l1) (by
        intro j v hj
        rw [Addr.add_lit]
        exact hcells j v hj))

theorem op_app {d : Nat} {k : EK} {x y : ASrc} (hβ : g.β = byteT P) (hc : chkRow P (.app d k x y) m = true) (hs : step Γ (.app d k x y) s = some (true, s')) (h : SR g s w a) (hn : Goes g s w a s' next) : m.wp P a w next Q := by
  obtain ⟨dst, op, ty, pos, aft, gd⟩ := m
  simp only [chkRow, Bool.and_eq_true, beq_iff_eq] at hc
  obtain ⟨rfl, hc⟩ := hc
  split at hc
  · rename_i x' y' t u hop
    obtain rfl := callB_some hop
    simp only [Bool.and_eq_true] at hc
    obtain ⟨h1, h2, h3, h4⟩ := hc
    obtain ⟨e, u1, e1⟩ := sliceOK_facts h1
    obtain ⟨e', u2, e2⟩ := sliceOK_facts h2
    simp only [step] at hs
    split at hs
    · rename_i k' ox l k'' o mm hx hy
      split at hs
      · rename_i hk
        subst hk
        split at hs
        · rename_i hkk
          simp only [Option.some.injEq, Prod.mk.injEq, Bool.and_eq_true, decide_eq_true_eq] at hs
          obtain ⟨⟨happ, hfit⟩, rfl⟩ := hs
          have r2 := src_rel h4 h.er
          rw [hy] at r2
          have r2 := cast_sl hkk r2
          obtain ⟨L, l1, l2, l3, l4⟩ := sl_row r2
          refine append_both hβ h h3 hx (by rw [cast_len]; exact happ) u1 e1 L (ys := hkk ▸ mm) ?_ l3 (by rw [cast_len]; exact hfit) hn
          rcases l4 with ⟨hnil, ad, hcv, -⟩ | ⟨b, off, cap, hcv, hcap, hcm, hcells⟩
          · rw [hcv, hnil]
            have hL : L = [] := by rw [hnil] at l1; simpa using l1
            rw [hL]
            cases ad with
            | none => exact _root_.Go.Src.ofNil w u2 0
            | some ad => exact _root_.Go.Src.ofSlice w u2 _ _ _ _ (by simp) (by intro j v hj; simp at hj) (by simp)
          · rw [hcv]
            exact _root_.Go.Src.ofSlice w u2 _ _ _ _ l1 (by intro j v hj; rw [Addr.add_lit]; exact hcells j v hj) l2
        · simp at hs
      · simp at hs
    · simp at hs
  · simp at hc

theorem op_apps {d : Nat} {x y : ASrc} (hβ : g.β = byteT P) (hc : chkRow P (.apps d x y) m = true) (hs : step Γ (.apps d x y) s = some (true, s')) (h : SR g s w a) (hn : Goes g s w a s' next) : m.wp P a w next Q := by
  obtain ⟨dst, op, ty, pos, aft, gd⟩ := m
  simp only [chkRow, Bool.and_eq_true, beq_iff_eq] at hc
  obtain ⟨rfl, hc⟩ := hc
  split at hc
  · rename_i x' y' t u hop
    obtain rfl := callB_some hop
    simp only [Bool.and_eq_true] at hc
    obtain ⟨h1, h2, h3, h4⟩ := hc
    obtain ⟨e, u1, e1⟩ := sliceOK_facts h1
    split at h2
    · rename_i u2
      simp only [step] at hs
      split at hs
      · rename_i l mm hx hy
        simp only [Option.some.injEq, Prod.mk.injEq, decide_eq_true_eq] at hs
        obtain ⟨hfit, rfl⟩ := hs
        have r2 := src_rel h4 h.er
        rw [hy] at r2
        generalize hcv : a.eval y' = cv at r2
        cases r2 with
        | str _ b hl hm =>
        subst hl
        refine append_both hβ (k := .u8) (ys := b.data.toList) h h3 hx rfl u1 e1 (byteCells b) ?_ ?_ (by simpa [EK.bytes] using hfit) hn
        · rw [hcv]
          have := _root_.Go.Src.ofString (P := P) w u2 b
          rw [← size_data] at this
          exact this
        · intro i x j v hxi hv
          have hj : j = 0 := by
            have := (List.getElem?_eq_some_iff.1 hv).1
            simp [enc] at this
            exact this
          subst hj
          simp [enc] at hv
          subst hv
          refine ⟨.int .u8 x.toNat, ?_, .int _ _ (byte_range x)⟩
          simp only [byteCells, EK.sz, Nat.mul_one, Nat.add_zero, List.getElem?_map, hxi, Option.map_some]
      · simp at hs
    · simp at h2
  · simp at hc

theorem op_s2b {d : Nat} {x : ASrc} (hβ : g.β = byteT P) (hc : chkRow P (.s2b d x) m = true) (hs : step Γ (.s2b d x) s = some (true, s')) (h : SR g s w a) (hn : Goes g s w a s' next) : m.wp P a w next Q := by
  obtain ⟨dst, op, ty, pos, aft, gd⟩ := m
  simp only [chkRow, Bool.and_eq_true, beq_iff_eq] at hc
  obtain ⟨rfl, hc⟩ := hc
  split at hc
  · rename_i u t x'
    simp only [Bool.and_eq_true] at hc
    obtain ⟨h1, h2, h3, h4⟩ := hc
    obtain ⟨e, u1, e1⟩ := sliceOK_facts h2
    split at h1
    · rename_i u2
      rw [u1] at h3
      simp only [intK] at h3
      split at h3
      · rename_i kk u3
        obtain rfl : IntKind.u8 = kk := by simpa using h3
        simp only [step] at hs
        split at hs
        · rename_i l hx
          obtain rfl : _ = s' := by simpa using hs
          have r1 := src_rel h4 h.er
          rw [hx] at r1
          generalize hcv : a.eval x' = cv at r1
          cases r1 with
          | str _ b hl hm =>
          subst hl
          have hr := Lib.run_convert_string_bytes (P := P) w u t e b u2 u1 u3
          have hcapn : b.size ≤ grownCap w b.size 0 e := by
            unfold grownCap Question.cut
            exact Nat.le_add_right _ _
          have hcm : grownCap w b.size 0 e ≤ maxI := by
            have := grownCap_le_maxLen w b.size 0 e (by unfold maxLen; unfold maxI at hm; omega)
            simpa [maxLen, maxI] using this
          have harr : (Lib.bytesCells w e b).size = grownCap w b.size 0 e := by
            have hs : b.data.size = b.size := rfl
            simp [Lib.bytesCells, hs]
            omega
          obtain ⟨g', q1, q2⟩ := h.newRow (w' := Lib.bytesWorld w e b) .u8 b.data.toList (grownCap w b.size 0 e) d (Lib.bytesCells w e b) e _ (Lib.bytesWorld_size w e b) (fun j hj => Lib.bytesWorld_at_old w e b j hj) (Lib.bytesWorld_at_new w e b)
            (by simp [Lib.bytesWorld, World.freeze, World.alloc, World.drew, -World.alloc_eq, -World.drew_eq]) (by simp [Lib.bytesWorld, World.freeze, World.alloc, World.drew, -World.alloc_eq, -World.drew_eq]) (by simp [Lib.bytesWorld, World.freeze, World.alloc, World.drew, -World.alloc_eq, -World.drew_eq])
            (o := .own) (by simp) (by rw [size_data]; exact hcapn) hcm (by rw [harr]; simp [EK.sz]) (fun hk => by rw [hβ]; exact elemOK_byte e1 hk) (by intro j h1 h2; simp only [EK.sz, Nat.mul_one] at h2; rw [harr]; omega) (by
              intro i x j v hxi hv
              have hj : j = 0 := by
                have := (List.getElem?_eq_some_iff.1 hv).1
                simp [enc] at this
                exact this
              subst hj
              simp [enc] at hv
              subst hv
              refine ⟨.int .u8 x.toNat, ?_, .int _ _ (byte_range x)⟩
              have hi := (List.getElem?_eq_some_iff.1 hxi).1
              simp only [EK.sz, Nat.mul_one, Nat.add_zero, Lib.bytesCells]
              rw [Array.getElem?_append_left (by simpa using hi)]
              simp only [Array.getElem?_map]
              rw [← Array.getElem?_toList, hxi]
              rfl)
          refine goes_at rfl (w' := Lib.bytesWorld w e b) (cv := .slice (some ⟨w.heap.size, 0, none⟩) b.data.toList.length (grownCap w b.size 0 e)) ?_ ⟨g', q1, q2⟩ hn
          rw [size_data]
          simp [execOp, hcv, hr]
        · simp at hs
      · simp at h3
    · simp at h1
  · simp at hc
theorem decode_range (s : ByteArray) (i : Nat) : (Utf8.decode s i).1 ≤ 2097151 := by
  have hb := fun k => UInt8.toNat_lt (s.get! (i + k))
  have h0 := hb 0
  have h1 := hb 1
  have h2 := hb 2
  have h3 := hb 3
  simp only [Utf8.decode, Utf8.runeError]
  repeat' split
  all_goals (dsimp only; omega)

theorem runesFrom_eq (s : ByteArray) : ∀ (b i : Nat) (acc : Array Value), Conv.runesFrom s b i acc = acc ++ ((runesAux s b i).map (Value.int .i32)).toArray
  | 0, i, acc => by simp [Conv.runesFrom, runesAux]
  | b + 1, i, acc => by
    simp only [Conv.runesFrom, runesAux]
    split
    · rw [runesFrom_eq s b]
      apply Array.ext'
      simp
    · simp

theorem runes_range (s : ByteArray) : ∀ (b i : Nat) (n : Int), n ∈ runesAux s b i → 0 ≤ n ∧ n ≤ 2097151
  | 0, i, n, h => by simp [runesAux] at h
  | b + 1, i, n, h => by
    simp only [runesAux] at h
    split at h
    · simp only [List.mem_cons] at h
      rcases h with h | h
      · have := decode_range s i; omega
      · exact runes_range s b _ n h
    · simp at h

theorem op_s2r {d : Nat} {x : ASrc} (hβ : g.β = byteT P) (hc : chkRow P (.s2r d x) m = true) (hs : step Γ (.s2r d x) s = some (true, s')) (h : SR g s w a) (hn : Goes g s w a s' next) : m.wp P a w next Q := by
  obtain ⟨dst, op, ty, pos, aft, gd⟩ := m
  simp only [chkRow, Bool.and_eq_true, beq_iff_eq] at hc
  obtain ⟨rfl, hc⟩ := hc
  split at hc
  · rename_i u t x'
    simp only [Bool.and_eq_true] at hc
    obtain ⟨h1, h2, h3, h4⟩ := hc
    obtain ⟨e, u1, e1⟩ := sliceOK_facts h2
    split at h1
    · rename_i u2
      rw [u1] at h3
      simp only [intK] at h3
      split at h3
      · rename_i kk u3
        obtain rfl : IntKind.i32 = kk := by simpa using h3
        simp only [step] at hs
        split at hs
        · rename_i l hx
          simp only [Option.some.injEq, Prod.mk.injEq, decide_eq_true_eq] at hs
          obtain ⟨hfit, rfl⟩ := hs
          have r1 := src_rel h4 h.er
          rw [hx] at r1
          generalize hcv : a.eval x' = cv at r1
          cases r1 with
          | str _ b hl hm =>
          have hro : runesOf l = runesAux b b.size 0 := by
            subst hl
            unfold runesOf
            rw [size_data]
          have hrf : Conv.runesFrom b b.size 0 #[] = ((runesOf l).map (Value.int .i32)).toArray := by rw [hro, runesFrom_eq]; simp
          have hsz : (Conv.runesFrom b b.size 0 #[]).size = (runesOf l).length := by rw [hrf]; simp
          have hr := run_runes_of_string (P := P) w u t e b u2 u1 u3 (by rw [hsz]; exact hfit)
          rw [hsz, hrf] at hr
          have hcapn : (runesOf l).length ≤ grownCap w (runesOf l).length 0 e := by
            unfold grownCap Question.cut
            exact Nat.le_add_right _ _
          have hcm : grownCap w (runesOf l).length 0 e ≤ maxI := by
            have := grownCap_le_maxLen w (runesOf l).length 0 e (by unfold maxLen; omega)
            simpa [maxLen, maxI] using this
          have hrow : (((runesOf l).map (Value.int .i32)).toArray ++ Array.replicate (grownCap w (runesOf l).length 0 e - (runesOf l).length) (.int .i32 0) : Array Value).size = grownCap w (runesOf l).length 0 e := by
            simp; omega
          have hat : ∀ (i : Nat) (x : Int), (runesOf l)[i]? = some x → (((runesOf l).map (Value.int .i32)).toArray ++ Array.replicate (grownCap w (runesOf l).length 0 e - (runesOf l).length) (.int .i32 0) : Array Value)[i]? = some (.int .i32 x) := by
            intro i x hxi
            have hi := (List.getElem?_eq_some_iff.1 hxi).1
            rw [Array.getElem?_append_left (by simpa using hi)]
            simp [hxi]
          generalize (((runesOf l).map (Value.int .i32)).toArray ++ Array.replicate (grownCap w (runesOf l).length 0 e - (runesOf l).length) (.int .i32 0) : Array Value) = arr at hr hrow hat
          have dh : w.drew.heap = w.heap := rfl
          have f := alloc_facts w.drew (.cells arr e)
          rw [dh] at f
          obtain ⟨g', q1, q2⟩ := h.newRow (w' := w.drew.alloc (.cells arr e)) (.num .i32) (runesOf l) (grownCap w (runesOf l).length 0 e) d arr e (0, 0) f.1 f.2.1 f.2.2
            (by simp [World.alloc, World.drew, -World.alloc_eq, -World.drew_eq]) (by simp [World.alloc, World.drew, -World.alloc_eq, -World.drew_eq]) (by simp [World.alloc, World.drew, -World.alloc_eq, -World.drew_eq])
            (o := .own) (by simp) hcapn hcm (by rw [hrow]; simp [EK.sz]) (fun hk => by cases hk) (by intro j h1 h2; omega) (by
              intro i x j v hxi hv
              have hj : j = 0 := by
                have := (List.getElem?_eq_some_iff.1 hv).1
                simp [enc] at this
                exact this
              subst hj
              simp [enc] at hv
              subst hv
              have hmem : x ∈ runesOf l := List.mem_of_getElem? hxi
              rw [hro] at hmem
              have hrg := runes_range b _ _ _ hmem
              refine ⟨.int .i32 x, ?_, .int _ _ (by simp [IntKind.min, IntKind.max, IntKind.signed, IntKind.bits]; omega)⟩
              simp only [EK.sz, Nat.mul_one, Nat.add_zero]
              exact hat i x hxi)
          refine goes_at rfl (w' := w.drew.alloc (.cells arr e)) (cv := .slice (some ⟨w.heap.size, 0, none⟩) (runesOf l).length (grownCap w (runesOf l).length 0 e)) ?_ ⟨g', q1, q2⟩ hn
          simp [execOp, hcv, hr]
        · simp at hs
      · simp at h3
    · simp at h1
  · simp at hc
end
end Go.AM
