/-
  Rows that are made, and that are added to.
-/
import Derived.Test.YtehknfijojlddaaGreatDmOpsD
namespace Go.DM
set_option autoImplicit false
set_option linter.unusedSimpArgs false
set_option linter.unusedVariables false
section
variable {g g' : Gh} {cx : Cx} {s : FS} {w w' : World} {a : Act} {P : Program} {at_ : Nat} {v : D} {ws : List (Nat × Option Obj)} {next : Act → World → Prop} {Q : Exit → Act → World → Prop}
  {dst : Option Nat} {op : Op} {ty : TypeId} {pos : String} {aft : Array Edge} {gd : Option (Nat × Bool)}

theorem rowT_facts {t e sz by_ : Nat} (h : rowT P t e sz by_ = true) : P.underlying t = some (.slice e) ∧ 0 < sz ∧ 0 < by_ ∧ ∃ i z, P.info? e = some i ∧ i.size = sz ∧ i.bytes = by_ ∧ i.zero = some z ∧ z.cells.size = sz := by
  unfold rowT at h
  split at h
  · rename_i e' u1
    simp only [Bool.and_eq_true, beq_iff_eq] at h
    obtain ⟨rfl, h⟩ := h
    split at h
    · rename_i i i1
      simp only [Bool.and_eq_true, beq_iff_eq, Nat.blt_eq] at h
      obtain ⟨h1, h2, h3, h4, h5⟩ := h
      split at h5
      · rename_i z hz
        exact ⟨u1, h3, h4, i, z, i1, h1, h2, hz, by simpa using h5⟩
      · simp at h5
    · simp at h
  · simp at h
theorem anySlice_facts {t : Nat} (h : anySlice P t = true) : ∃ e, P.underlying t = some (.slice e) := by
  unfold anySlice at h
  split at h
  · exact ⟨_, by assumption⟩
  · simp at h

/-- an object is given up -/
theorem SG.kill {F : Nat → Prop} (h : SG g cx s w a) (id : Nat) : SG g cx ⟨s.E, upd s.H id none, s.n⟩ w a ∧ FR F g s.H w g (upd s.H id none) w := by
  have look : ∀ i o, upd s.H id none i = some o → s.H i = some o := by
    intro i o h1
    simp only [upd] at h1
    split at h1
    · simp at h1
    · exact h1
  refine ⟨⟨HR.of (fun i o hi => h.hr.holds (look i o hi)) (fun i j o o' h1 h2 => h.hr.apart i j o o' (look _ _ h1) (look _ _ h2)) (fun i o hi => h.hr.made i o (look i o hi)) h.hr.lt, h.er, h.gl⟩, ?_⟩
  exact ⟨rfl, rfl, rfl, Nat.le_refl _, fun _ _ _ => rfl, Up.refl _, fun _ h => .inl h, fun i o hi => .inr ⟨i, o, look i o hi, rfl⟩⟩

theorem Row.flat {zs : List D} {us : List Value} (h : Row g zs us) : ∀ n : Nat, Row g ((List.replicate n zs).flatMap id) ((List.replicate n us).flatMap id)
  | 0 => ⟨rfl, by simp, by simp⟩
  | n + 1 => by simpa [List.replicate_succ] using h.app (h.flat n)
theorem flat_get {zs : List Value} : ∀ (n j : Nat), j < n * zs.length → ((List.replicate n zs).flatMap id)[j]? = zs[j % zs.length]?
  | 0, j, h => by simp at h
  | n + 1, j, h => by
    simp only [List.replicate_succ, List.flatMap_cons, id]
    rcases Nat.lt_or_ge j zs.length with h1 | h1
    · rw [List.getElem?_append_left h1, Nat.mod_eq_of_lt h1]
    · rw [List.getElem?_append_right h1, flat_get n _ (by rw [Nat.add_mul] at h; omega), ← Nat.mod_eq_sub_mod h1]
theorem flat_len {α : Type} (zs : List α) : ∀ n : Nat, ((List.replicate n zs).flatMap id).length = n * zs.length
  | 0 => by simp
  | n + 1 => by simp only [List.replicate_succ, List.flatMap_cons, id, List.length_append, flat_len zs n, Nat.add_mul]; omega

theorem op_mks {e sz by_ : Nat} {zero : List D} {x : ASrc} (hc : chkB P cx (.mks e sz by_ zero x) op = true) (hs : eff at_ s.E s.H (.mks e sz by_ zero x) = some (v, ws)) (h : SG g cx s w a) (hf : ¬ g.A at_) (hlt : at_ < s.n) (hn : Goes at_ cx g s w a dst v ws next) : (⟨dst, op, ty, pos, aft, gd⟩ : Oper).wp P a w next Q := by
  simp only [chkB] at hc
  split at hc
  · rename_i t x' y'
    simp only [Bool.and_eq_true] at hc
    obtain ⟨h1, h2, h3, h4⟩ := hc
    have r1 := src_rel h3 h
    have r2 := src_rel h4 h
    obtain ⟨u1, hz0, hb0, inf, z, i1, i2, i3, i4, i5⟩ := rowT_facts h1
    obtain ⟨i', z', hi, hz, hcs⟩ := zeroOK_facts h2
    rw [i1] at hi
    cases hi
    rw [i4] at hz
    cases hz
    simp only [eff] at hs
    split at hs
    · rename_i ki n hx
      simp only [chk_iff, Option.some.injEq, Prod.mk.injEq, Bool.and_eq_true, Nat.ble_eq, Tr.beq_iff, decide_eq_true_eq] at hs
      obtain ⟨⟨hfit, hzl⟩, rfl, rfl⟩ := hs
      rw [hx] at r1 r2
      generalize hcx : a.eval x' = cxx at r1
      generalize hcy : a.eval y' = cyy at r2
      cases r1
      cases r2
      have hnle : n ≤ 140737488355328 := by
        have : n * 1 ≤ n * by_ := Nat.mul_le_mul_left _ hb0
        unfold reach at hfit; omega
      have hb : (inf.bytes : Int) * (n : Int) ≤ 281474976710656 := by
        have : n * by_ ≤ 281474976710656 := by unfold reach at hfit; omega
        have h2 : ((n * by_ : Nat) : Int) ≤ 281474976710656 := by omega
        rw [Int.natCast_mul] at h2
        rw [i3, Int.mul_comm]; exact h2
      have hrun := run_make (P := P) w t e inf z u1 i1 i4 ki ki n n (by omega) (Int.le_refl _) hb (by omega)
      simp only [Int.toNat_natCast] at hrun
      rw [i2] at hrun
      obtain ⟨f1, f2, f3⟩ := alloc_facts w (.cells (madeCells z.cells (n * sz)) e)
      have hrow : Row g ((List.replicate n zero).flatMap id) (madeCells z.cells (n * sz)).toList := by
        have := (const1s_rel (g := g) hcs).flat n
        have he : (madeCells z.cells (n * sz)).toList = (List.replicate n z.cells.toList).flatMap id := by
          apply List.ext_getElem?
          intro j
          have hsz := size_madeCells z.cells (n * sz)
          rcases Nat.lt_or_ge j (n * sz) with hj | hj
          · rw [flat_get n j (by simpa [i5] using hj), Array.getElem?_toList]
            simp only [madeCells, Array.length_toList]
            rw [Array.getElem?_map, Array.getElem?_range, if_pos hj, Option.map_some, getElem!_pos z.cells (j % z.cells.size) (by rw [i5]; exact Nat.mod_lt _ hz0), Array.getElem?_toList, Array.getElem?_eq_getElem (by rw [i5]; exact Nat.mod_lt _ hz0)]
          · rw [List.getElem?_eq_none (by rw [Array.length_toList, hsz]; exact hj), List.getElem?_eq_none (by rw [flat_len]; simpa [i5] using hj)]
        rw [he]; exact this
      obtain ⟨m1, m2⟩ := h.make hf hlt (.cells e true ((List.replicate n zero).flatMap id)) 0 f1 f2 f3 rfl rfl rfl ⟨_, _, rfl, (hrow.up (Gh.add_up hf _ _)).obj⟩
      refine goes_at (w' := w.alloc (.cells (madeCells z.cells (n * sz)) e)) (cv := .slice (some ⟨w.heap.size, 0, none⟩) n n) ?_ m1 m2 ?_ hn
      · simp [execOp, hcx, hcy, hrun]
      · have := VRel.sl (g := g.add at_ w.heap.size 0) at_ 0 n sz (some n) n (.inr rfl) hz0 (Nat.le_refl _) (by unfold maxI; omega) rfl
        simpa [Gh.add, upd] using this
    · simp at hs
  · simp at hc

/-- what is appended, in the model -/
theorem slCells_src (h : SG g cx s w a) {y : D} {cv : Value} {n sz u : Nat} {news : List D} (r : VRel g y cv) (hs : slCells s.H y = some (n, news)) (hu : ∃ e, P.underlying u = some (.slice e)) (hsz : news.length = n * sz) :
    ∃ L, Row g news L ∧ _root_.Go.Src P sz u cv n L w := by
  obtain ⟨e', hu⟩ := hu
  unfold slCells at hs
  split at hs
  · simp only [Option.some.injEq, Prod.mk.injEq] at hs
    obtain ⟨rfl, rfl⟩ := hs
    cases r
    exact ⟨[], ⟨rfl, by simp, by simp⟩, _root_.Go.Src.ofNil w hu 0⟩
  · simp only [Option.some.injEq, Prod.mk.injEq] at hs
    obtain ⟨rfl, rfl⟩ := hs
    cases r
    exact ⟨[], ⟨rfl, by simp, by simp⟩, _root_.Go.Src.ofSlice w hu _ _ _ _ (by simp) (by simp) (by simp)⟩
  · rename_i id off len sz' cap
    split at hs
    · rename_i e f cs ho
      simp only [chk_iff, Option.some.injEq, Prod.mk.injEq, Nat.ble_eq] at hs
      obtain ⟨hle, rfl, rfl⟩ := hs
      cases r with
      | sl _ _ _ _ _ c hA hz hc hm hk =>
      obtain ⟨arr, fz, hb, hok⟩ := h.hr.obj _ _ _ _ (cells?_some ho)
      have hlen := hok.len
      have hrow := obj_part hok hle
      have hl := hrow.len
      refine ⟨_, hrow, _root_.Go.Src.ofSlice w hu ⟨g.ρ id, off, none⟩ len c _ (by rw [← hl]; exact hsz) (fun j u hj => by rw [Addr.add_lit]; exact part_cells hb off _ j u hj) ?_⟩
      intro u hu'
      obtain ⟨j, hj, rfl⟩ := List.mem_iff_getElem.1 hu'
      have hj' : j < ((cs.drop off).take (len * sz')).length := by rw [hl]; exact hj
      exact (hrow.rel j _ _ (List.getElem?_eq_getElem hj') (List.getElem?_eq_getElem hj)).oneCell (hrow.one _ (List.getElem_mem hj'))
    · simp at hs
  · simp at hs

/-- an append that finds no room -/
theorem append_grow {t u e sz by_ n len cap : Nat} {base : Option Addr} {x' y' : Operand} {olds news : List D} {L M : List Value} (h : SG g cx s w a) (hf : ¬ g.A at_) (hlt : at_ < s.n) (h1 : rowT P t e sz by_ = true)
    (hcv : a.eval x' = .slice base len cap) (hcap : cap < len + n) (hfit : (len + n) * by_ ≤ reach) (hL : Row g olds L) (hLl : L.length = len * sz) (hold : (Builtin.firstCells sz len (.slice base len cap)).run P w.drew = .ok L.toArray w.drew)
    (hM : Row g news M) (hs : _root_.Go.Src P sz u (a.eval y') n M w)
    (hn : ∀ b k w' , FR (fun id => id = at_) g s.H w (g.add at_ b k) (upd s.H at_ (some (.cells e false (olds ++ news)))) w' → SG (g.add at_ b k) cx ⟨putF s.E dst (.sl at_ 0 (len + n) sz none), upd s.H at_ (some (.cells e false (olds ++ news))), s.n⟩ w' (a.put dst (.slice (some ⟨b, 0, none⟩) (len + n) (k / sz))) → next (a.put dst (.slice (some ⟨b, 0, none⟩) (len + n) (k / sz))) w') :
    (⟨dst, .call ⟨.builtin .append, ⟨[x', y']⟩, ⟨[t, u]⟩⟩, ty, pos, aft, gd⟩ : Oper).wp P a w next Q := by
  obtain ⟨ut, hz0, hb0, inf, z, i1, i2, i3, i4, i5⟩ := rowT_facts h1
  have hlen : len + n ≤ reach := Nat.le_trans (Nat.le_mul_of_pos_right _ hb0) hfit
  have hr := run_append_grow_src w t u ty e inf z ut i1 i4 base len cap L (by rw [i2]; exact hold) (a.eval y') n M (by rw [i2]; exact hs) hcap (by unfold reach at hlen; omega) (growslice_fits hcap (by rw [i3]; exact hfit))
  have hcapn : len + n ≤ grownCap w (len + n) cap e := by
    unfold grownCap Question.cut
    exact Nat.le_add_right _ _
  have hcm : grownCap w (len + n) cap e ≤ maxI := by
    have := grownCap_le_maxLen w (len + n) cap e (by unfold maxLen; unfold reach at hlen; omega)
    simpa [maxLen, maxI] using this
  generalize hC : grownCap w (len + n) cap e = C at hr hcapn hcm
  let arr : Array Value := (L ++ M).toArray ++ Builtin.zeroCells z.cells (C - (len + n))
  have hnl := hs.newsLen
  have harr : arr.size = C * sz := by
    simp only [arr, Array.size_append, List.size_toArray, List.length_append, hLl, hnl, size_zeroCells, i5]
    rw [← Nat.add_mul, ← Nat.add_mul]
    congr 1
    omega
  have f := alloc_facts w.drew (.cells arr e)
  have hrow := hL.app hM
  have hol : (olds ++ news).length = (len + n) * sz := by rw [hrow.len, List.length_append, hLl, hnl, Nat.add_mul]
  have hle2 : (len + n) * sz ≤ C * sz := Nat.mul_le_mul_right _ hcapn
  have u0 := Gh.add_up hf w.heap.size (C * sz)
  have kat : (g.add at_ w.heap.size (C * sz)).κ at_ = C * sz := by simp [Gh.add, upd]
  obtain ⟨m1, m2⟩ := h.make (w' := w.drew.alloc (.cells arr e)) hf hlt (.cells e false (olds ++ news)) (C * sz) f.1 f.2.1 f.2.2 rfl rfl rfl ⟨arr, (0, 0), rfl, by omega, by simp, fun _ => by rw [kat]; omega, by simp, hrow.one, by
    intro j c cv hc hcv
    have hj : j < (L ++ M).length := by rw [← hrow.len]; exact (List.getElem?_eq_some_iff.1 hc).1
    refine (hrow.rel j c cv hc ?_).up u0
    simp only [arr] at hcv
    rw [Array.getElem?_append_left (by simpa using hj)] at hcv
    simpa using hcv⟩
  have hgoal : (execOp a.eval ⟨dst, .call ⟨.builtin .append, ⟨[x', y']⟩, ⟨[t, u]⟩⟩, ty, pos, aft, gd⟩).run P w = .ok (.value (.slice (some ⟨w.heap.size, 0, none⟩) (len + n) C)) (w.drew.alloc (.cells arr e)) := by
    rw [← hcv] at hr
    simp [execOp, resolve, invoke, builtin, hr, arr]
  have hdiv : C * sz / sz = C := Nat.mul_div_cancel _ hz0
  unfold Oper.wp
  rw [hgoal, Oper.upon_value]
  have := hn w.heap.size (C * sz) _ m2
  rw [hdiv] at this
  refine this (m1.put dst ?_)
  have := VRel.sl (g := g.add at_ w.heap.size (C * sz)) at_ 0 (len + n) sz none C (.inr rfl) hz0 hcapn hcm (by simp [capOK, kat])
  simpa [Gh.add, upd] using this

theorem op_apt {e by_ : Nat} {x y : ASrc} (hc : chkB P cx (.apt e by_ x y) op = true) (hs : eff at_ s.E s.H (.apt e by_ x y) = some (v, ws)) (h : SG g cx s w a) (hf : ¬ g.A at_) (hlt : at_ < s.n) (hn : Goes at_ cx g s w a dst v ws next) : (⟨dst, op, ty, pos, aft, gd⟩ : Oper).wp P a w next Q := by
  simp only [chkB] at hc
  split at hc
  · rename_i x' y' t u hop
    obtain rfl := callB_some hop
    simp only [Bool.and_eq_true] at hc
    obtain ⟨h1, h2, h3, h4⟩ := hc
    have r1 := src_rel h3 h
    have r2 := src_rel h4 h
    obtain ⟨ut, hz0, hb0, inf, z, i1, i2, i3, i4, i5⟩ := rowT_facts h1
    have uu : P.underlying u = some .string := by
      split at h2
      · assumption
      · simp at h2
    simp only [eff] at hs
    split at hs
    · rename_i l hx hy
      rw [hx] at r1
      rw [hy] at r2
      generalize hcv : a.eval x' = cv at r1
      generalize hcy : a.eval y' = cy at r2
      cases r1
      cases r2 with
      | str _ sb hl hm =>
      have hS := _root_.Go.Src.ofString (P := P) (w := w) uu sb
      have hlen : l.length = sb.size := by rw [← hl, List.length_map, Array.length_toList]; rfl
      simp only [lenL_eq, Nat.zero_add, Tr.beq_iff] at hs
      by_cases h0 : l.length = 0
      · rw [decide_eq_true h0] at hs
        simp only [cond_true, Option.some.injEq, Prod.mk.injEq] at hs
        obtain ⟨rfl, rfl⟩ := hs
        have hs0 : sb.size = 0 := by omega
        refine goes_value h (cv := .slice none 0 0) ?_ .nils hn
        have hc := hS.cells
        have hn0 : _root_.Go.byteCells sb = [] := List.eq_nil_of_length_eq_zero (by rw [_root_.Go.byteCells_length]; exact hs0)
        rw [hn0, hs0] at hc
        have hSl := hS.len
        rw [hs0] at hSl
        simp [execOp, resolve, invoke, builtin, hcv, hcy, Builtin.append_, run_underlying ut, run_underlying uu, sizeOf, typeInfo, i1, i2, hSl] at *
        simp [hc, storeCells]
      · rw [decide_eq_false h0] at hs
        simp only [cond_false, chk_iff, Option.some.injEq, Prod.mk.injEq, Nat.ble_eq] at hs
        obtain ⟨hfit, rfl, rfl⟩ := hs
        have hM : Row g (l.map byteD) (_root_.Go.byteCells sb) := by
          refine ⟨by rw [List.length_map, hlen, _root_.Go.byteCells_length], ?_, ?_⟩
          · intro c hc
            obtain ⟨n, _, rfl⟩ := List.mem_map.1 hc
            rfl
          · intro i c cv hc hcv
            subst hl
            simp only [_root_.Go.byteCells, List.getElem?_map, Option.map_eq_some_iff] at hc hcv
            obtain ⟨n, ⟨b, hb, rfl⟩, rfl⟩ := hc
            obtain ⟨b', hb', rfl⟩ := hcv
            rw [hb] at hb'
            obtain rfl := Option.some.inj hb'
            refine .int _ _ ⟨?_, ?_⟩
            · show (0 : Int) ≤ ((b.toNat : Nat) : Int); omega
            · have := UInt8.toNat_lt b
              show ((b.toNat : Nat) : Int) ≤ (255 : Int); omega
        refine append_grow (olds := []) (L := []) (len := 0) (n := sb.size) h hf hlt h1 hcv (by omega) (by rw [Nat.zero_add, ← hlen]; exact hfit) ⟨rfl, by simp, by simp⟩ (by simp) (by simpa using run_firstCells_none (P := P) w.drew 1 0 0 0) hM (by rw [hcy]; exact hS) ?_
        intro b k w' k1 k2
        simp only [List.nil_append, Nat.zero_add] at k1 k2 ⊢
        rw [← hlen] at k2 ⊢
        exact hn _ _ _ k2 k1 (put_defers _ _ _)
    · simp at hs
  · simp at hc

theorem op_app {e sz by_ : Nat} {x y : ASrc} (hc : chkB P cx (.app e sz by_ x y) op = true) (hs : eff at_ s.E s.H (.app e sz by_ x y) = some (v, ws)) (h : SG g cx s w a) (hf : ¬ g.A at_) (hlt : at_ < s.n) (hn : Goes at_ cx g s w a dst v ws next) : (⟨dst, op, ty, pos, aft, gd⟩ : Oper).wp P a w next Q := by
  simp only [chkB] at hc
  split at hc
  · rename_i x' y' t u hop
    obtain rfl := callB_some hop
    simp only [Bool.and_eq_true] at hc
    obtain ⟨h1, h2, h3, h4⟩ := hc
    have r1 := src_rel h3 h
    have r2 := src_rel h4 h
    obtain ⟨ut, hz0, hb0, inf, z, i1, i2, i3, i4, i5⟩ := rowT_facts h1
    obtain ⟨ue, uu⟩ := anySlice_facts h2
    simp only [eff] at hs
    split at hs
    · rename_i n news hsrc
      rw [chk_iff] at hs
      obtain ⟨hnl, hs⟩ := hs
      simp only [Tr.beq_iff, decide_eq_true_eq, lenL_eq, Nat.zero_add] at hnl
      obtain ⟨M, hM, hS⟩ := slCells_src h r2 hsrc ⟨ue, uu⟩ hnl
      have hMl : M.length = n * sz := by rw [← hM.len]; exact hnl
      generalize hcv : a.eval x' = cv at r1
      have same : ∀ base len c, cv = .slice base len c → n = 0 → len ≤ c → (execOp a.eval ⟨dst, .call ⟨.builtin .append, ⟨[x', y']⟩, ⟨[t, u]⟩⟩, ty, pos, aft, gd⟩).run P w = .ok (.value cv) w := by
        rintro base len c rfl rfl hle
        have hM0 : M = [] := by simpa using hMl
        subst hM0
        have hc := hS.cells
        rcases hS.kind with ⟨e', hk⟩ | hk <;> cases base <;> simp [execOp, resolve, invoke, builtin, hcv, Builtin.append_, run_underlying ut, run_underlying hk, sizeOf, typeInfo, i1, i2, hS.len, hle] at * <;> simp [hc, storeCells]
      split at hs
      · rename_i hx
        rw [hx] at r1
        cases r1
        by_cases h0 : n = 0
        · have : Nat.beq n 0 = true := by simp [Tr.beq_iff, h0]
          rw [this] at hs
          simp only [cond_true, Option.some.injEq, Prod.mk.injEq] at hs
          obtain ⟨rfl, rfl⟩ := hs
          exact goes_value h (same none 0 0 rfl h0 (Nat.le_refl _)) .nils hn
        · have : Nat.beq n 0 = false := by simp [Tr.beq_iff, h0]
          rw [this] at hs
          simp only [cond_false, chk_iff, Option.some.injEq, Prod.mk.injEq, Nat.ble_eq] at hs
          obtain ⟨hfit, rfl, rfl⟩ := hs
          refine append_grow (olds := []) (L := []) (len := 0) h hf hlt h1 hcv (by omega) (by simpa using hfit) ⟨rfl, by simp, by simp⟩ (by simp) (by simpa using run_firstCells_none (P := P) w.drew sz 0 0 0) hM hS ?_
          intro b k w' k1 k2
          simp only [List.nil_append, Nat.zero_add] at k1 k2 ⊢
          exact hn _ _ _ k2 k1 (put_defers _ _ _)
      · rename_i id off len sz' cap hx
        rw [hx] at r1
        rw [chk_iff] at hs
        obtain ⟨hzz, hs⟩ := hs
        simp only [Bool.and_eq_true, Tr.beq_iff, decide_eq_true_eq, Nat.ble_eq] at hzz
        obtain ⟨rfl, hfit⟩ := hzz
        cases r1 with
        | sl _ _ _ _ _ c hA hz hc hm hk =>
        split at hs
        · rename_i e' f cs ho
          have ho := cells?_some ho
          obtain ⟨arr, fz, hb, hok⟩ := h.hr.obj _ _ _ _ ho
          have hlen := hok.len
          by_cases h0 : n = 0
          · have : Nat.beq n 0 = true := by simp [Tr.beq_iff, h0]
            rw [this] at hs
            simp only [cond_true, Option.some.injEq, Prod.mk.injEq] at hs
            obtain ⟨rfl, rfl⟩ := hs
            exact goes_value h (same _ len c rfl h0 hc) (.sl _ _ _ _ _ _ hA hz hc hm hk) hn
          · have : Nat.beq n 0 = false := by simp [Tr.beq_iff, h0]
            rw [this] at hs
            simp only [cond_false] at hs
            -- the old cells
            have olds : ∀ p, off + len * sz ≤ cs.length → Row g ((cs.drop off).take (len * sz)) ((arr.toList.drop off).take (len * sz)) ∧ ((arr.toList.drop off).take (len * sz)).length = len * sz ∧ (Builtin.firstCells sz len (.slice (some ⟨g.ρ id, off, none⟩) len p)).run P w.drew = .ok ((arr.toList.drop off).take (len * sz)).toArray w.drew := by
              intro p hle
              have hll : ((arr.toList.drop off).take (len * sz)).length = len * sz := by simp; omega
              refine ⟨obj_part hok hle, hll, run_firstCells_some w.drew sz len ⟨g.ρ id, off, none⟩ len p _ hll ?_⟩
              intro j u hj
              rw [Addr.add_lit]
              exact part_cells (w := w.drew) hb off _ j u hj
            -- there is room
            have room : len + n ≤ c → off + (len + n) * sz ≤ arr.size → (∀ j, j < off + (len + n) * sz → ¬ (fz.1 ≤ j ∧ j < fz.2)) → (execOp a.eval ⟨dst, .call ⟨.builtin .append, ⟨[x', y']⟩, ⟨[t, u]⟩⟩, ty, pos, aft, gd⟩).run P w = .ok (.value (.slice (some ⟨g.ρ id, off, none⟩) (len + n) c)) (w.setCells (g.ρ id) (off + len * sz) M) := by
              intro hroom hin hcold
              rw [Nat.add_mul] at hin hcold
              have hr := run_append_room_src w t u ty e inf ut i1 (g.ρ id) off len c (a.eval y') n M (by rw [i2]; exact hS) hroom (by
                intro j hj
                rw [i2, cell_of_heap hb, Array.getElem?_eq_getElem (by omega)]
                rfl) (by
                intro j hj
                rw [i2]
                have := hcold (off + len * sz + j) (by omega)
                simp only [World.frozen?, hb]
                simpa using this)
              rw [i2] at hr
              simp [execOp, resolve, invoke, builtin, hcv, hr]
            split at hs
            · rename_i k
              simp only [capOK] at hk
              subst hk
              by_cases hroom : len + n ≤ c
              · have : Nat.ble (len + n) c = true := by simpa [Nat.ble_eq] using hroom
                rw [this] at hs
                simp only [cond_true, chk_iff, Option.some.injEq, Prod.mk.injEq, Nat.ble_eq] at hs
                obtain ⟨hin, rfl, rfl⟩ := hs
                have hin2 := hin
                rw [Nat.add_mul] at hin2
                have hrun := room hroom (by omega) (by
                  intro j hj
                  refine hok.cold j ?_
                  cases f with
                  | true => simp; omega
                  | false => have := (hok.part rfl).1; simp; omega)
                obtain ⟨_, q3, q4, q5, q6, q7⟩ := setCells_heap (g.ρ id) M (off + len * sz) w arr e' fz hb
                obtain ⟨arr', k1, k2, k3⟩ := setCells_row hb (off + len * sz) M (by omega)
                have hg := over_get cs news (off + len * sz) (by omega)
                rw [hnl, show off + len * sz + n * sz = off + (len + n) * sz by rw [Nat.add_mul]; omega] at hg
                have hcl : (cs.take (off + len * sz) ++ news ++ cs.drop (off + (len + n) * sz)).length = cs.length := by
                  rw [Nat.add_mul]; simp; omega
                obtain ⟨m1, m2⟩ := h.turn (F := fun id => id = at_) ho (.cells e' f (cs.take (off + len * sz) ++ news ++ cs.drop (off + (len + n) * sz))) q4 q3 k1 q5 q6 q7 ⟨arr', fz, rfl, by omega, fun hf => by have := hok.whole hf; omega, fun hf => by have := hok.part hf; omega, by
                  have := hok.cold; rw [k2]; exact this, by
                  intro c hc
                  simp only [List.mem_append] at hc
                  rcases hc with (hc | hc) | hc
                  · exact hok.one c (List.mem_of_mem_take hc)
                  · exact hM.one c hc
                  · exact hok.one c (List.mem_of_mem_drop hc), by
                  intro j c cv hc hcv
                  rw [hg] at hc
                  rw [k3, hMl, show off + len * sz + n * sz = off + (len + n) * sz by rw [Nat.add_mul]; omega] at hcv
                  split at hc
                  · rename_i hj
                    rw [if_pos hj] at hcv
                    exact hM.rel _ _ _ hc hcv
                  · rename_i hj
                    rw [if_neg hj] at hcv
                    exact hok.rel _ _ _ hc hcv⟩
                exact goes_at hrun m1 m2 (.sl id off (len + n) sz (some c) c hA hz hroom hm rfl) hn
              · have : Nat.ble (len + n) c = false := by
                  cases hbb : Nat.ble (len + n) c with
                  | false => rfl
                  | true => exact absurd (Nat.le_of_ble_eq_true hbb) hroom
                rw [this] at hs
                simp only [cond_false, chk_iff, Option.some.injEq, Prod.mk.injEq, Nat.ble_eq] at hs
                obtain ⟨hin, rfl, rfl⟩ := hs
                obtain ⟨o1, o2, o3⟩ := olds c hin
                refine append_grow h hf hlt h1 hcv (by omega) hfit o1 o2 o3 hM hS ?_
                intro b k w' k1 k2
                exact hn _ _ _ k2 k1 (put_defers _ _ _)
            · simp only [chk_iff, Bool.and_eq_true, Bool.not_eq_true', Option.some.injEq, Prod.mk.injEq, Tr.beq_iff, decide_eq_true_eq] at hs
              obtain ⟨⟨⟨⟨rfl, hlc⟩, rfl⟩, hff⟩, rfl, rfl⟩ := hs
              subst hff
              simp only [capOK, Nat.zero_add] at hk
              obtain ⟨p1, p2⟩ := hok.part rfl
              by_cases hroom : len + n ≤ c
              · have hle2 : (len + n) * sz ≤ c * sz := Nat.mul_le_mul_right _ hroom
                have hle3 := hle2
                rw [Nat.add_mul] at hle3
                have hrun := room hroom (by omega) (by
                  intro j hj
                  refine hok.cold j ?_
                  simp; omega)
                rw [Nat.zero_add] at hrun
                obtain ⟨_, q3, q4, q5, q6, q7⟩ := setCells_heap (g.ρ id) M (len * sz) w arr e fz hb
                obtain ⟨arr', k1, k2, k3⟩ := setCells_row hb (len * sz) M (by omega)
                have u0 := Gh.add_up hf (g.ρ id) (g.κ id)
                have kat : (g.add at_ (g.ρ id) (g.κ id)).κ at_ = g.κ id := by simp [Gh.add, upd]
                obtain ⟨m1, m2⟩ := h.move hf hlt ho (.cells e false (cs ++ news)) q4 q3 k1 q5 q6 q7 ⟨arr', fz, rfl, by simp; omega, by simp, fun _ => by rw [kat, k2]; simp; omega, by
                  have := hok.cold
                  simpa [kat] using this, by
                  intro c hc
                  exact (List.mem_append.1 hc).elim (hok.one c) (hM.one c), by
                  intro j c cv hc hcv
                  rw [k3, hMl] at hcv
                  rcases Nat.lt_or_ge j cs.length with hj | hj
                  · rw [List.getElem?_append_left hj] at hc
                    rw [if_neg (by omega)] at hcv
                    exact (hok.rel j c cv hc hcv).up u0
                  · rw [List.getElem?_append_right hj] at hc
                    have hlt2 := (List.getElem?_eq_some_iff.1 hc).1
                    rw [if_pos (by omega), show j - len * sz = j - cs.length by omega] at hcv
                    exact (hM.rel _ c cv hc hcv).up u0⟩
                refine goes_at hrun m1 m2 ?_ hn
                have := VRel.sl (g := g.add at_ (g.ρ id) (g.κ id)) at_ 0 (len + n) sz none c (.inr rfl) hz hroom hm (by simp only [capOK, kat, Nat.zero_add]; exact hk)
                simpa [Gh.add, upd] using this
              · obtain ⟨o1, o2, o3⟩ := olds c (by omega)
                have hcs : (cs.drop 0).take (len * sz) = cs := by simp [hlc]
                rw [hcs] at o1
                obtain ⟨s1, s2⟩ := h.kill (F := fun id => id = at_) id
                refine append_grow (s := ⟨s.E, upd s.H id none, s.n⟩) s1 hf hlt h1 hcv (by omega) hfit o1 o2 o3 hM hS ?_
                intro b k w' k1 k2
                exact hn _ _ _ k2 (s2.trans (fun _ h => h) k1) (put_defers _ _ _)
        · simp at hs
      · simp at hs
    · simp at hs
  · simp at hc
end
end Go.DM
