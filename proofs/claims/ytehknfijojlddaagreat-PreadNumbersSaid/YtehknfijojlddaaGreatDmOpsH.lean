/-
  Maps that are written.
-/
import Derived.Test.YtehknfijojlddaaGreatDmOpsG
namespace Go.DM
open Go.MapKept
set_option autoImplicit false
set_option linter.unusedSimpArgs false
set_option linter.unusedVariables false
section
variable {g g' : Gh} {cx : Cx} {s : FS} {w w' : World} {a : Act} {P : Program} {at_ : Nat} {v : D} {ws : List (Nat × Option Obj)} {next : Act → World → Prop} {Q : Exit → Act → World → Prop}
  {dst : Option Nat} {op : Op} {ty : TypeId} {pos : String} {aft : Array Edge} {gd : Option (Nat × Bool)}

theorem MapOK.set {es : List (D × D)} {ents : Array MapEntry} {clock : Nat} (h : MapOK g es ents clock) {i : Nat} {k v : D} {kv vv : Value} (hk : VRel g k kv) (hv : VRel g v vv) :
    MapOK g (es.set i (k, v)) (ents.modify i fun e => { e with key := kv, val := vv }) clock := by
  refine ⟨by simp [h.1], by simp [h.2.1], ?_⟩
  intro j k' v' en h1 h2
  rw [List.getElem?_set] at h1
  rw [Array.getElem?_modify] at h2
  by_cases e : i = j
  · subst e
    rw [if_pos rfl] at h1 h2
    split at h1
    · cases h1
      rw [Option.map_eq_some_iff] at h2
      obtain ⟨en', h3, rfl⟩ := h2
      rename_i hlt
      obtain ⟨a1, a2⟩ : ∃ k0 v0, es[i]? = some (k0, v0) := ⟨_, _, List.getElem?_eq_getElem hlt⟩
      obtain ⟨v0, a2⟩ := a2
      exact ⟨(h.2.2 _ _ _ _ a2 h3).1, hk, hv⟩
    · simp at h1
  · rw [if_neg e] at h1
    rw [if_neg e] at h2
    exact h.2.2 j k' v' en h1 h2

theorem MapOK.push {es : List (D × D)} {ents : Array MapEntry} {clock : Nat} (h : MapOK g es ents clock) {k v : D} {kv vv : Value} (hk : VRel g k kv) (hv : VRel g v vv) :
    MapOK g (es ++ [(k, v)]) (ents.push { key := kv, val := vv, born := clock }) (clock + 1) := by
  refine ⟨by simp [h.1], by simp [h.2.1], ?_⟩
  intro j k' v' en h1 h2
  rcases Nat.lt_or_ge j es.length with hj | hj
  · rw [List.getElem?_append_left hj] at h1
    rw [Array.getElem?_push, if_neg (by rw [← h.1]; omega)] at h2
    exact h.2.2 j k' v' en h1 h2
  · rw [List.getElem?_append_right hj] at h1
    have h0 : j - es.length = 0 := by
      have := (List.getElem?_eq_some_iff.1 h1).1
      simp at this; omega
    rw [h0] at h1
    simp at h1
    obtain ⟨rfl, rfl⟩ := h1
    have hj' : j = ents.size := by rw [← h.1]; omega
    rw [Array.getElem?_push, if_pos hj'] at h2
    obtain rfl := Option.some.inj h2
    exact ⟨by rw [h.2.1]; exact hj'.symm, hk, hv⟩

/-- a map's block is laid anew -/
theorem map_turn (h : SG g cx s w a) {id : Nat} {es es' : List (D × D)} (ho : s.H id = some (.map es)) {ents ents' : Array MapEntry} {clock clock' : Nat} (hb : w.heap[g.ρ id]? = some (.map ents clock)) (hm : MapOK g es' ents' clock') :
    SG g cx ⟨s.E, upd s.H id (some (.map es')), s.n⟩ { w with heap := w.heap.setIfInBounds (g.ρ id) (.map ents' clock') } a ∧ FR (fun i => i = at_) g s.H w g (upd s.H id (some (.map es'))) { w with heap := w.heap.setIfInBounds (g.ρ id) (.map ents' clock') } := by
  obtain ⟨q1, q2⟩ := Go.MapKept.heap_set (o' := .map ents' clock') hb
  exact h.turn ho (.map es') (by simp) q2 q1 rfl rfl rfl ⟨ents', clock', rfl, hm⟩

theorem keeps {old new : Value} (h : Instr.sameBits 10000 old new = true) (w : World) : (Instr.keyThatStays old new).run P w = .ok new w := by
  simp [Instr.keyThatStays, h]

theorem op_mup {kk n : Nat} {x k y : ASrc} (hc : chkC P cx (.mup kk n x k y) op = true) (hs : eff at_ s.E s.H (.mup kk n x k y) = some (v, ws)) (h : SG g cx s w a) (hn : Goes at_ cx g s w a dst v ws next) : (⟨dst, op, ty, pos, aft, gd⟩ : Oper).wp P a w next Q := by
  have main : ∀ t x' k' v', (∀ ρ : Operand → Value, ∀ d ty pos aft gd, execOp ρ ⟨d, op, ty, pos, aft, gd⟩ = (do Instr.mapUpdate t (ρ x') (ρ k') (ρ v'); pure .skip)) → mapT P t kk n (fun _ => true) = true → srcOK cx x x' = true → srcOK cx k k' = true → srcOK cx y v' = true → (⟨dst, op, ty, pos, aft, gd⟩ : Oper).wp P a w next Q := by
    intro t x' k' v' hx h1 h2 h3 h4
    obtain ⟨kt, e, hu, ht, -⟩ := mapT_facts h1
    have r1 := src_rel h2 h
    have r2 := src_rel h3 h
    have r3 := src_rel h4 h
    simp only [eff, chk_iff] at hs
    obtain ⟨hk, hs⟩ := hs
    split at hs
    · rename_i id hxe
      rw [hxe] at r1
      split at hs
      · rename_i es hm
        have ho := map?_some hm
        obtain ⟨ents, clock, hb, hok⟩ := h.hr.map _ _ ho
        generalize hcx : a.eval x' = cxx at r1
        cases r1
        have hchk := check_key (w := w) ht hk r2 false
        have fin : ∀ ents' clock' es', MapOK g es' ents' clock' → v = .undef → ws = [(id, some (.map es'))] → (Instr.mapUpdate t (.map (some (g.ρ id))) (a.eval k') (a.eval v')).run P w = .ok () { w with heap := w.heap.setIfInBounds (g.ρ id) (.map ents' clock') } → (⟨dst, op, ty, pos, aft, gd⟩ : Oper).wp P a w next Q := by
          rintro ents' clock' es' hm' rfl rfl hr
          obtain ⟨m1, m2⟩ := map_turn (at_ := at_) h ho hb hm'
          unfold Oper.wp
          rw [hx, hcx]
          simp only [Sem.run_bind, hr, Result.andThen_ok, Sem.run_pure]
          rw [Oper.upon_skip]
          exact hn _ _ g (m1.put dst (.undef _)) m2 (put_defers _ _ _)
        split at hs
        · rename_i j u hf
          simp only [Option.some.injEq, Prod.mk.injEq] at hs
          obtain ⟨r', q1, q2⟩ := found_key (w := w) ht hk r2 hok hf
          cases r' with
          | none => exact q2.elim
          | some p' =>
          obtain ⟨j', u'⟩ := p'
          obtain ⟨rfl, hj, ⟨k2, he⟩, en, hen, rfl, hsb⟩ := q2
          simp only [Nat.sub_zero, Array.getElem?_toList] at hen
          refine fin _ _ _ (hok.set (i := j') r2 r3) hs.1.symm hs.2.symm ?_
          simp [Instr.mapUpdate, run_underlying hu, Go.MapKept.run_getObj_map hb, hchk, q1, hen, keeps hsb, Go.MapKept.run_setObj_map _ hb]
        · rename_i hf
          simp only [Option.some.injEq, Prod.mk.injEq] at hs
          obtain ⟨r', q1, q2⟩ := found_key (w := w) ht hk r2 hok hf
          cases r' with
          | some p => exact q2.elim
          | none =>
          refine fin _ _ _ (hok.push r2 r3) hs.1.symm hs.2.symm ?_
          simp [Instr.mapUpdate, run_underlying hu, Go.MapKept.run_getObj_map hb, hchk, q1, Go.MapKept.run_setObj_map _ hb]
        · simp at hs
      · simp at hs
    · simp at hs
  simp only [chkC] at hc
  split at hc
  · rename_i t x' k' v'
    simp only [Bool.and_eq_true] at hc
    exact main t x' k' v' (fun ρ d ty pos aft gd => by simp [execOp]) hc.1 hc.2.1 hc.2.2.1 hc.2.2.2
  · rename_i t x' k' v'
    simp only [Bool.and_eq_true] at hc
    exact main t x' k' v' (fun ρ d ty pos aft gd => by simp [execOp]) hc.1 hc.2.1 hc.2.2.1 hc.2.2.2
  · simp at hc

theorem op_ment {kk n : Nat} {zero : List D} {agg : Bool} {x k : ASrc} (hc : chkC P cx (.ment kk n zero agg x k) op = true) (hs : eff at_ s.E s.H (.ment kk n zero agg x k) = some (v, ws)) (h : SG g cx s w a) (hn : Goes at_ cx g s w a dst v ws next) : (⟨dst, op, ty, pos, aft, gd⟩ : Oper).wp P a w next Q := by
  simp only [chkC] at hc
  split at hc
  · rename_i t x' k'
    simp only [Bool.and_eq_true] at hc
    obtain ⟨h1, h2, h3⟩ := hc
    obtain ⟨kt, e, hu, ht, hz⟩ := mapT_facts h1
    have r1 := src_rel h2 h
    have r2 := src_rel h3 h
    obtain ⟨z, z1, z2⟩ := zeroV_rel (g := g) hz
    simp only [eff, chk_iff] at hs
    obtain ⟨hk, hs⟩ := hs
    split at hs
    · rename_i id hxe
      rw [hxe] at r1
      split at hs
      · rename_i es hm
        rw [chk_iff] at hs
        obtain ⟨hlen, hs⟩ := hs
        simp only [Nat.blt_eq, lenL_eq, Nat.zero_add] at hlen
        have ho := map?_some hm
        obtain ⟨ents, clock, hb, hok⟩ := h.hr.map _ _ ho
        generalize hcx : a.eval x' = cxx at r1
        cases r1
        have hchk := check_key (w := w) ht hk r2 false
        have rng : ∀ i : Nat, i ≤ 1000000000 → VRel g (.int .i64 (.ofNat i)) (goInt i) := fun i hi => .int _ _ (len_range (by unfold maxI; omega))
        have pair : ∀ (p q : D) (pv qv : Value), VRel g p pv → VRel g q qv → VRel g (.tup [p, q]) (.tuple #[pv, qv]) := by
          intro p q pv qv hp hq
          refine .tup _ _ rfl ?_
          intro i c cv hc hcv
          match i with
          | 0 => simp at hc hcv; subst hc hcv; exact hp
          | 1 => simp at hc hcv; subst hc hcv; exact hq
          | i + 2 => simp at hc
        have fin : ∀ ents' clock' es' cv, MapOK g es' ents' clock' → VRel g v cv → ws = [(id, some (.map es'))] → (Instr.mapEntry t (.map (some (g.ρ id))) (a.eval k')).run P w = .ok cv { w with heap := w.heap.setIfInBounds (g.ρ id) (.map ents' clock') } → (⟨dst, .mapEntry t x' k', ty, pos, aft, gd⟩ : Oper).wp P a w next Q := by
          rintro ents' clock' es' cv hm' hv rfl hr
          obtain ⟨m1, m2⟩ := map_turn (at_ := at_) h ho hb hm'
          exact goes_at (by simp [execOp, hcx, hr]) m1 m2 hv hn
        split at hs
        · rename_i j u hf
          simp only [Option.some.injEq, Prod.mk.injEq] at hs
          obtain ⟨r', q1, q2⟩ := found_key (w := w) ht hk r2 hok hf
          cases r' with
          | none => exact q2.elim
          | some p' =>
          obtain ⟨j', u'⟩ := p'
          obtain ⟨rfl, hj, ⟨k2, he⟩, en, hen, rfl, hsb⟩ := q2
          simp only [Nat.sub_zero, Array.getElem?_toList] at hen he
          obtain ⟨hborn, -, hval⟩ := hok.2.2 _ _ _ _ he hen
          have hjl : j' < es.length := (List.getElem?_eq_some_iff.1 he).1
          obtain ⟨e1, e2⟩ := hs
          refine fin (ents.modify j' fun e => { e with key := a.eval k' }) clock _ (.tuple #[en.val, goInt j']) ?_ (e1 ▸ pair _ _ _ _ hval (rng _ (by omega))) e2.symm ?_
          · have := hok.set (i := j') r2 hval
            have e3 : (ents.modify j' fun e => { e with key := a.eval k', val := en.val }) = ents.modify j' fun e => { e with key := a.eval k' } := by
              apply Array.ext_getElem?
              intro q
              rw [Array.getElem?_modify, Array.getElem?_modify]
              split
              · rename_i e; subst e; rw [hen]; rfl
              · rfl
            rw [e3] at this
            exact this
          · simp [Instr.mapEntry, run_underlying hu, Go.MapKept.run_getObj_map hb, hchk, q1, hen, hborn, keeps hsb, Go.MapKept.run_setObj_map _ hb]
        · rename_i hf
          simp only [Option.some.injEq, Prod.mk.injEq] at hs
          obtain ⟨r', q1, q2⟩ := found_key (w := w) ht hk r2 hok hf
          cases r' with
          | some p => exact q2.elim
          | none =>
          obtain ⟨e1, e2⟩ := hs
          have hcl : clock = es.length := by rw [hok.2.1, hok.1]
          rw [lenL_eq, Nat.zero_add] at e1
          refine fin _ _ _ (.tuple #[z, goInt clock]) (hok.push r2 z1) (e1 ▸ pair _ _ _ _ z1 (by rw [hcl]; exact rng _ (by omega))) e2.symm ?_
          simp [Instr.mapEntry, run_underlying hu, Go.MapKept.run_getObj_map hb, hchk, q1, z2 w, Go.MapKept.run_setObj_map _ hb]
        · simp at hs
      · simp at hs
    · simp at hs
  · simp at hc

theorem born_find {es : List (D × D)} {ents : Array MapEntry} {clock : Nat} (h : MapOK g es ents clock) {i : Nat} (hi : i < es.length) : ents.findIdx? (fun e => (e.born : Int) == (i : Int)) = some i := by
  have hb : ∀ j (hj : j < ents.size), ents[j].born = j := by
    intro j hj
    have hj' : j < es.length := by rw [h.1]; exact hj
    exact (h.2.2 j _ _ _ (List.getElem?_eq_getElem hj') (Array.getElem?_eq_getElem hj)).1
  have hi' : i < ents.size := by rw [← h.1]; exact hi
  rw [Array.findIdx?_eq_some_iff_getElem]
  refine ⟨hi', by simp [hb i hi'], ?_⟩
  intro j hj
  simp [hb j (by omega)]
  omega

theorem op_mest {x i y : ASrc} (hc : chkC P cx (.mest x i y) op = true) (hs : eff at_ s.E s.H (.mest x i y) = some (v, ws)) (h : SG g cx s w a) (hn : Goes at_ cx g s w a dst v ws next) : (⟨dst, op, ty, pos, aft, gd⟩ : Oper).wp P a w next Q := by
  simp only [chkC] at hc
  split at hc
  · rename_i t x' i' v'
    simp only [Bool.and_eq_true] at hc
    obtain ⟨h2, h3, h4⟩ := hc
    have r1 := src_rel h2 h
    have r2 := src_rel h3 h
    have r3 := src_rel h4 h
    simp only [eff] at hs
    split at hs
    · rename_i id q j hxe hie
      rw [hxe] at r1
      rw [hie] at r2
      split at hs
      · rename_i es hm
        split at hs
        · rename_i k0 v0 he
          simp only [Option.some.injEq, Prod.mk.injEq] at hs
          obtain ⟨rfl, rfl⟩ := hs
          have ho := map?_some hm
          obtain ⟨ents, clock, hb, hok⟩ := h.hr.map _ _ ho
          generalize hcx : a.eval x' = cxx at r1
          generalize hci : a.eval i' = ci at r2
          cases r1
          cases r2
          have hjl : j < es.length := (List.getElem?_eq_some_iff.1 he).1
          have hjs : j < ents.size := by rw [← hok.1]; exact hjl
          have hen : ents[j]? = some ents[j] := Array.getElem?_eq_getElem hjs
          obtain ⟨hborn, hkey, -⟩ := hok.2.2 _ _ _ _ he hen
          have hok' := hok.set (i := j) hkey r3
          have e3 : (ents.modify j fun e => { e with key := ents[j].key, val := a.eval v' }) = ents.modify j fun e => { e with val := a.eval v' } := by
            apply Array.ext_getElem?
            intro q
            rw [Array.getElem?_modify, Array.getElem?_modify]
            split
            · rename_i e; subst e; rw [hen]; rfl
            · rfl
          rw [e3] at hok'
          obtain ⟨m1, m2⟩ := map_turn (at_ := at_) h ho hb hok'
          have hf := born_find hok hjl
          have hr : (execOp a.eval ⟨dst, .entryStore t x' i' v', ty, pos, aft, gd⟩).run P w = .ok .skip { w with heap := w.heap.setIfInBounds (g.ρ id) (.map (ents.modify j fun e => { e with val := a.eval v' }) clock) } := by
            simp [execOp, Instr.entryStore, hcx, hci, Go.MapKept.run_getObj_map hb, asInt, asIntOf, hf, Go.MapKept.run_setObj_map _ hb]
          unfold Oper.wp
          rw [hr, Oper.upon_skip]
          exact hn _ _ g (m1.put dst (.undef _)) m2 (put_defers _ _ _)
        · simp at hs
      · simp at hs
    · simp at hs
  · simp at hc
end
end Go.DM
