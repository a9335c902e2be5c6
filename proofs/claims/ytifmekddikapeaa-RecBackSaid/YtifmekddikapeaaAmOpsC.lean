/-
  More operations that only compute: numbers and texts, elements, parts, fields, loads.
-/
import Derived.Test.YtifmekddikapeaaAmOpsB
namespace Go.AM
set_option autoImplicit false
set_option linter.unusedSimpArgs false
set_option linter.unusedVariables false

section
variable {w : World} {g : Gh} {s s' : St} {a : Act} {P : Program} {Γ : ASpec} {m : Oper} {next : Act → World → Prop} {Q : Exit → Act → World → Prop}

theorem shift_rel {k k' : IntKind} {x y : Int} (hy : 0 ≤ y) (hx : k.min ≤ x ∧ x ≤ k.max) :
    (∀ w : World, (Op.shift .shl k x k' y).run P w = .ok (.int k (shlI k x y)) w) ∧ (∀ w : World, (Op.shift .shr k x k' y).run P w = .ok (.int k (shrI k x y)) w)
      ∧ (∀ I ρ N w, VRel I ρ N w (.int k (shlI k x y)) (.int k (shlI k x y))) ∧ (∀ I ρ N w, VRel I ρ N w (.int k (shrI k x y)) (.int k (shrI k x y))) := by
  have hn : ¬ y < 0 := by omega
  exact ⟨fun w => by simp [Op.shift, hn, shlI], fun w => by simp [Op.shift, hn, shrI], fun _ _ _ _ => .int _ _ (wrap_range _ _), fun _ _ _ _ => .int _ _ (shr_range _ _ _ hx)⟩

theorem op_bin {d : Nat} {o : BinOp} {x y : ASrc} (hc : chkPure P (.bin d o x y) m = true) (hs : step Γ (.bin d o x y) s = some (true, s')) (h : SR g s w a) (hn : Goes g s w a s' next) : m.wp P a w next Q := by
  obtain ⟨dst, op, ty, pos, aft, gd⟩ := m
  simp only [chkPure, Bool.and_eq_true, beq_iff_eq] at hc
  obtain ⟨rfl, hc⟩ := hc
  split at hc
  · rename_i o' t x' y' t'
    simp only [Bool.and_eq_true, decide_eq_true_eq] at hc
    obtain ⟨rfl, h1, h2⟩ := hc
    have r1 := src_rel h1 h.er
    have r2 := src_rel h2 h.er
    simp only [step, Option.map_eq_some_iff] at hs
    obtain ⟨⟨c, v⟩, hv, hs⟩ := hs
    simp only [Prod.mk.injEq] at hs
    obtain ⟨rfl, rfl⟩ := hs
    generalize hcx : a.eval x' = cx at r1
    generalize hcy : a.eval y' = cy at r2
    unfold binV at hv
    split at hv
    · rename_i k p k' q hx hy
      rw [hx] at r1
      rw [hy] at r2
      cases r1 with
      | int _ _ hp =>
      cases r2 with
      | int _ _ hq =>
      split at hv
      · simp only [Option.some.injEq, Prod.mk.injEq, decide_eq_true_eq] at hv
        obtain ⟨hq0, rfl⟩ := hv
        obtain ⟨e1, e2, e3, e4⟩ := shift_rel (P := P) (k' := k') hq0 hp
        refine goes_value h rfl (cv := .int k (shlI k p q)) ?_ (e3 _ _ _ _) rfl hn
        simp [execOp, hcx, hcy, eqGuard, binOp, e1]
      · simp only [Option.some.injEq, Prod.mk.injEq, decide_eq_true_eq] at hv
        obtain ⟨hq0, rfl⟩ := hv
        obtain ⟨e1, e2, e3, e4⟩ := shift_rel (P := P) (k' := k') hq0 hp
        refine goes_value h rfl (cv := .int k (shrI k p q)) ?_ (e4 _ _ _ _) rfl hn
        simp [execOp, hcx, hcy, eqGuard, binOp, e2]
      · rename_i hs1 hs2
        split at hv
        · rename_i hk
          subst hk
          obtain ⟨cv, f1, f2, f3⟩ := binInt_rel (P := P) hv hp
          have f1 := f1 w
          refine goes_value h rfl (cv := cv) ?_ (f2 _ _ _ _) f3 hn
          cases o <;> simp_all [execOp, eqGuard, binOp]
        · simp at hv
    · rename_i p q hx hy
      rw [hx] at r1
      rw [hy] at r2
      cases r1 with
      | str _ sx hlx hmx =>
      cases r2 with
      | str _ sy hly hmy =>
      subst hlx hly
      obtain ⟨cv, f1, f2, f3⟩ := binStr_rel (P := P) hv
      have f1 := f1 w
      refine goes_value h rfl (cv := cv) ?_ (f2 _ _ _ _) f3 hn
      cases o <;> simp_all [execOp, eqGuard, binOp]
    · simp at hv
  · simp at hc

theorem elemOK_facts {e : TypeId} {k : EK} (h : elemOK P e k = true) : ∃ i z, P.info? e = some i ∧ i.size = k.sz ∧ i.bytes = k.bytes ∧ i.zero = some z ∧ isAggT P e = some k.isAgg ∧
    const1s (enc k (dflt k)) z.cells.toList = true ∧ z.cells.size = k.sz := by
  unfold elemOK at h
  rw [Bool.and_eq_true] at h
  obtain ⟨-, h⟩ := h
  split at h
  · rename_i i hi
    simp only [Bool.and_eq_true, beq_iff_eq] at h
    obtain ⟨h1, h2, h3, h4⟩ := h
    split at h4
    · rename_i z hz
      simp only [Bool.and_eq_true, beq_iff_eq] at h4
      exact ⟨i, z, hi, h1, h2, hz, h3, h4.1, h4.2⟩
    · simp at h4
  · simp at h

theorem elemOK_byte {e : TypeId} {k : EK} (h : elemOK P e k = true) (hk : k = .u8) : e = byteT P := by
  subst hk
  unfold elemOK at h
  rw [Bool.and_eq_true] at h
  simpa using h.1

theorem sliceOK_facts {t : TypeId} {k : EK} (h : sliceOK P t k = true) : ∃ e, P.underlying t = some (.slice e) ∧ elemOK P e k = true := by
  unfold sliceOK at h
  split at h
  · rename_i e he
    exact ⟨e, he, h⟩
  · simp at h

theorem run_sizeT {t : TypeId} {n : Nat} (h : sizeT P t = some n) (w : World) : (sizeOf t).run P w = .ok n w := by
  unfold sizeT at h
  obtain ⟨i, hi, rfl⟩ := Option.map_eq_some_iff.1 h
  simp [sizeOf, typeInfo, hi]

theorem run_isAggT {t : TypeId} {b : Bool} (h : isAggT P t = some b) (w : World) : (isAgg t).run P w = .ok b w := by
  unfold isAggT at h
  split at h
  · rename_i f e
    obtain rfl := Option.some.inj h
    simp [isAgg, run_underlying e]
  · rename_i f c e
    obtain rfl := Option.some.inj h
    simp [isAgg, run_underlying e]
  · rename_i d h1 h2 e
    obtain rfl := Option.some.inj h
    cases d <;> simp_all [isAgg, run_underlying e]
  · simp at h

theorem op_ixa {d : Nat} {k : EK} {x i : ASrc} (hc : chkPure P (.ixa d k x i) m = true) (hs : step Γ (.ixa d k x i) s = some (true, s')) (h : SR g s w a) (hn : Goes g s w a s' next) : m.wp P a w next Q := by
  obtain ⟨dst, op, ty, pos, aft, gd⟩ := m
  simp only [chkPure, Bool.and_eq_true, beq_iff_eq] at hc
  obtain ⟨rfl, hc⟩ := hc
  split at hc
  · rename_i t x' i'
    simp only [Bool.and_eq_true] at hc
    obtain ⟨h1, h2, h3⟩ := hc
    have r1 := src_rel h2 h.er
    have r2 := src_rel h3 h.er
    simp only [step] at hs
    split at hs
    · rename_i k' o l ki n hx hi
      split at hs
      · rename_i hk
        subst hk
        simp only [Option.some.injEq, Prod.mk.injEq, Bool.and_eq_true, decide_eq_true_eq] at hs
        obtain ⟨⟨g1, g2⟩, rfl⟩ := hs
        rw [hx] at r1
        rw [hi] at r2
        obtain ⟨e, u1, h1⟩ := sliceOK_facts h1
        obtain ⟨inf, z, i1, i2, i3, i4, i5, _⟩ := elemOK_facts h1
        generalize hcv : a.eval x' = cv at r1
        generalize hci : a.eval i' = ci at r2
        cases r2
        cases r1 with
        | sln => simp at g2; omega
        | sle => simp at g2; omega
        | sl _ _ _ b off len cap hl hcap hm hfl f hI hw hv =>
          subst hl
          have hlt : n.toNat < l.length := by omega
          have hx1 : l[n.toNat]? = some l[n.toNat] := List.getElem?_eq_getElem hlt
          have hd : l.getD n.toNat (dflt k') = l[n.toNat] := by simp [List.getD, hx1]
          have hsz : ∀ w' : World, (sizeOf e).run P w' = .ok k'.sz w' := fun w' => by simp [sizeOf, typeInfo, i1, i2]
          refine goes_value h rfl (cv := .pointer (some ⟨b, off + n.toNat * k'.sz, none⟩)) ?_ ?_ rfl hn
          · simp [execOp, hcv, hci, Instr.indexAt, asIntOf, run_underlying u1, g1, g2, hsz, Addr.add_lit]
          · rw [hd]
            exact .ea _ _ _ (f n.toNat) (enc_one _ _) (fun j hj => hI _ _ _ hx1 hj) (fun j hj => hw _ _ _ hx1 hj) (fun j c hj => hv _ _ _ _ hx1 hj)
      · simp at hs
    · simp at hs
  · simp at hc

theorem sliceBound_ok {v : Value} {k : IntKind} {n : Int} {y : Nat} {code : BoundsCode} (h0 : 0 ≤ n) (h1 : n ≤ y) (w : World) : (Instr.sliceBound (.int k n) y code).run P w = .ok n.toNat w := by
  simp [Instr.sliceBound, asIntOf, h0, h1]

/-- the ends of a slice expression, in the machine and in the model -/
theorem ends_run {len cap : Nat} {isS : Bool} {lo hi : Option ASrc} {lo' hi' : Option Operand} {p q : Nat} (hle : len ≤ cap) (h1 : osrcOK lo lo' = true) (h2 : osrcOK hi hi' = true)
    (he : ends len (osrc s lo) (osrc s hi) = some (true, p, q)) (h : SR g s w a) :
    (Instr.sliceBounds isS len cap (lo'.map a.eval) (hi'.map a.eval) none).run P w = .ok (p, q, cap) w ∧ p ≤ q ∧ q ≤ len := by
  have hlo : ∀ (x : ASrc) (y : Operand) (k : IntKind) (n : Int), srcOK x y = true → x.ev s = .int k n → a.eval y = .int k n := by
    intro x y k n hxy hx
    have r := src_rel hxy h.er
    rw [hx] at r
    generalize hcv : a.eval y = cv at r
    cases r
    rfl
  cases lo with
  | none =>
    cases lo' with
    | some _ => simp [osrcOK] at h1
    | none =>
    cases hi with
    | none =>
      cases hi' with
      | some _ => simp [osrcOK] at h2
      | none =>
      simp only [osrc, ends, Option.some.injEq, Prod.mk.injEq, true_and] at he
      obtain ⟨rfl, rfl⟩ := he
      refine ⟨by simp [Instr.sliceBounds], by omega, by omega⟩
    | some y =>
      cases hi' with
      | none => simp [osrcOK] at h2
      | some y' =>
      simp only [osrcOK] at h2
      simp only [osrc] at he
      cases hy : y.ev s <;> rw [hy] at he <;> simp [ends] at he
      rename_i k n
      obtain ⟨⟨e1, e2⟩, rfl, rfl⟩ := he
      have := hlo _ _ _ _ h2 hy
      refine ⟨?_, by omega, by omega⟩
      simp [Instr.sliceBounds, this, sliceBound_ok (P := P) (v := .int k n) e1 (show n ≤ (cap : Int) by omega)]
  | some x =>
    cases lo' with
    | none => simp [osrcOK] at h1
    | some x' =>
    simp only [osrcOK] at h1
    cases hi with
    | none =>
      cases hi' with
      | some _ => simp [osrcOK] at h2
      | none =>
      simp only [osrc] at he
      cases hx : x.ev s <;> rw [hx] at he <;> simp [ends] at he
      rename_i k n
      obtain ⟨⟨e1, e2⟩, rfl, rfl⟩ := he
      have := hlo _ _ _ _ h1 hx
      refine ⟨?_, by omega, by omega⟩
      simp [Instr.sliceBounds, this, sliceBound_ok (P := P) (v := .int k n) e1 e2]
    | some y =>
      cases hi' with
      | none => simp [osrcOK] at h2
      | some y' =>
      simp only [osrcOK] at h2
      simp only [osrc] at he
      cases hx : x.ev s <;> rw [hx] at he <;> cases hy : y.ev s <;> rw [hy] at he <;> simp [ends] at he
      rename_i k n k2 n2
      obtain ⟨⟨⟨e1, e2⟩, e3, e4⟩, rfl, rfl⟩ := he
      have q1 := hlo _ _ _ _ h1 hx
      have q2 := hlo _ _ _ _ h2 hy
      refine ⟨?_, by omega, by omega⟩
      simp [Instr.sliceBounds, q1, q2, sliceBound_ok (P := P) (v := .int k2 n2) e1 (show n2 ≤ (cap : Int) by omega), sliceBound_ok (P := P) (v := .int k n) e3 (show n ≤ (n2.toNat : Int) by omega)]

theorem op_subs {d : Nat} {x : ASrc} {lo hi : Option ASrc} (hc : chkPure P (.subs d x lo hi) m = true) (hs : step Γ (.subs d x lo hi) s = some (true, s')) (h : SR g s w a) (hn : Goes g s w a s' next) : m.wp P a w next Q := by
  obtain ⟨dst, op, ty, pos, aft, gd⟩ := m
  simp only [chkPure, Bool.and_eq_true, beq_iff_eq] at hc
  obtain ⟨rfl, hc⟩ := hc
  split at hc
  · rename_i t x' lo' hi'
    simp only [Bool.and_eq_true] at hc
    obtain ⟨h1, h2, h3, h4⟩ := hc
    have r1 := src_rel h2 h.er
    simp only [step] at hs
    split at hs
    · rename_i l hx
      simp only [Option.map_eq_some_iff] at hs
      obtain ⟨⟨c, p, q⟩, hv, hs⟩ := hs
      simp only [Prod.mk.injEq] at hs
      obtain ⟨rfl, rfl⟩ := hs
      rw [hx] at r1
      split at h1
      · rename_i u1
        generalize hcv : a.eval x' = cv at r1
        cases r1 with
        | str _ b hl hm =>
          subst hl
          rw [size_data] at hv
          obtain ⟨e1, e2, e3⟩ := ends_run (P := P) (isS := false) (Nat.le_refl _) h3 h4 hv h
          refine goes_value h rfl (cv := .string (b.extract p q)) ?_ (.str _ _ ?_ ?_) rfl hn
          · simp [execOp, hcv, Instr.sliceAt, Instr.slice, run_underlying u1, e1]
          · simp [List.extract_eq_take_drop, List.drop_take]
          · simp [ByteArray.size_extract]; omega
      · simp at h1
    · simp at hs
  · simp at hc

theorem op_subl {d : Nat} {k : EK} {x : ASrc} {lo hi : Option ASrc} (hc : chkPure P (.subl d k x lo hi) m = true) (hs : step Γ (.subl d k x lo hi) s = some (true, s')) (h : SR g s w a) (hn : Goes g s w a s' next) : m.wp P a w next Q := by
  obtain ⟨dst, op, ty, pos, aft, gd⟩ := m
  simp only [chkPure, Bool.and_eq_true, beq_iff_eq] at hc
  obtain ⟨rfl, hc⟩ := hc
  split at hc
  · rename_i t x' lo' hi'
    simp only [Bool.and_eq_true] at hc
    obtain ⟨h1, h2, h3, h4⟩ := hc
    have r1 := src_rel h2 h.er
    simp only [step] at hs
    split at hs
    · rename_i k' o l hx
      split at hs
      · rename_i hk
        subst hk
        simp only [Option.map_eq_some_iff] at hs
        obtain ⟨⟨c, p, q⟩, hv, hs⟩ := hs
        simp only [Prod.mk.injEq] at hs
        obtain ⟨rfl, rfl⟩ := hs
        rw [hx] at r1
        obtain ⟨e, u1, h1⟩ := sliceOK_facts h1
        obtain ⟨inf, z, i1, i2, i3, i4, i5, _⟩ := elemOK_facts h1
        have hsz : ∀ w' : World, (sizeOf e).run P w' = .ok k'.sz w' := fun w' => by simp [sizeOf, typeInfo, i1, i2]
        generalize hcv : a.eval x' = cv at r1
        cases r1 with
        | sln =>
          obtain ⟨e1, e2, e3⟩ := ends_run (P := P) (isS := true) (Nat.le_refl _) h3 h4 hv h
          simp only [List.length_nil] at e1 e3
          obtain rfl : q = 0 := by omega
          obtain rfl : p = 0 := by omega
          refine goes_value h rfl (cv := .slice none 0 0) ?_ ?_ rfl hn
          · simp [execOp, hcv, Instr.sliceAt, Instr.slice, run_underlying u1, e1, hsz]
          · simpa using VRel.sln (I := g.I) (ρ := g.ρ) (N := s.hp.length) (w := w) k' (.may false)
        | sle _ _ ad _ =>
          obtain ⟨e1, e2, e3⟩ := ends_run (P := P) (isS := true) (Nat.le_refl _) h3 h4 hv h
          simp only [List.length_nil] at e1 e3
          obtain rfl : q = 0 := by omega
          obtain rfl : p = 0 := by omega
          refine goes_value h rfl (cv := .slice (some ad) 0 0) ?_ ?_ rfl hn
          · simp [execOp, hcv, Instr.sliceAt, Instr.slice, run_underlying u1, e1, hsz]
          · simpa using VRel.sle (I := g.I) (ρ := g.ρ) (N := s.hp.length) (w := w) k' (.may false) ad (by simp)
        | sl _ _ _ b off len cap hl hcap hm hfl f hI hw hv' =>
          subst hl
          obtain ⟨e1, e2, e3⟩ := ends_run (P := P) (isS := true) hcap h3 h4 hv h
          by_cases hcp : cap = p
          · subst hcp
            have hq : q = cap := by omega
            subst hq
            have hnil : (l.take q).drop q = [] := by simp
            refine goes_value h rfl (cv := .slice (some ⟨b, off, none⟩) 0 0) ?_ ?_ rfl hn
            · simp [execOp, hcv, Instr.sliceAt, Instr.slice, run_underlying u1, e1, hsz]
            · rw [hnil]
              exact .sl k' (.may false) [] b off 0 0 rfl (by simp) (by simp [maxI]) (by simp) f (fun i x j hi => by simp at hi) (fun i x j hi => by simp at hi) (fun i x j v hi => by simp at hi)
          · refine goes_value h rfl (cv := .slice (some ⟨b, off + p * k'.sz, none⟩) (q - p) (cap - p)) ?_ ?_ rfl hn
            · simp [execOp, hcv, Instr.sliceAt, Instr.slice, run_underlying u1, e1, hsz, hcp, Addr.add_lit]
            · have hget : ∀ (i : Nat) y, ((l.take q).drop p)[i]? = some y → l[p + i]? = some y := by
                intro i y hy
                simp only [List.getElem?_drop, List.getElem?_take] at hy
                split at hy
                · exact hy
                · simp at hy
              refine .sl k' (.may false) _ b _ _ _ ?_ ?_ (by omega) (by simp) (fun i j => f (p + i) j) ?_ ?_ ?_
              · simp; omega
              · simp; omega
              · intro i y j hy hj
                have := hI _ _ _ (hget i y hy) hj
                rwa [show off + p * k'.sz + i * k'.sz + j = off + (p + i) * k'.sz + j by rw [Nat.add_mul]; omega]
              · intro i y j hy hj
                have := hw _ _ _ (hget i y hy) hj
                rwa [show off + p * k'.sz + i * k'.sz + j = off + (p + i) * k'.sz + j by rw [Nat.add_mul]; omega]
              · intro i y j v hy hj
                exact hv' _ _ _ _ (hget i y hy) hj
      · simp at hs
    · simp at hs
  · simp at hc

theorem op_fad {d off : Nat} {x : ASrc} (hc : chkPure P (.fad d off x) m = true) (hs : step Γ (.fad d off x) s = some (true, s')) (h : SR g s w a) (hn : Goes g s w a s' next) : m.wp P a w next Q := by
  obtain ⟨dst, op, ty, pos, aft, gd⟩ := m
  simp only [chkPure, Bool.and_eq_true, beq_iff_eq] at hc
  obtain ⟨rfl, hc⟩ := hc
  split at hc
  · rename_i t x' fi
    simp only [Bool.and_eq_true] at hc
    obtain ⟨h1, h2⟩ := hc
    have r1 := src_rel h2 h.er
    split at h1
    · rename_i fs u1
      split at h1
      · rename_i fd hfd
        simp only [Bool.and_eq_true, beq_iff_eq] at h1
        obtain ⟨h0, h1⟩ := h1
        have hsz : ∀ w' : World, ∃ n, n ≠ 0 ∧ (sizeOf fd.type).run P w' = .ok n w' := by
          intro w'
          unfold nonZeroT sizeT at h1
          split at h1
          · rename_i n hn'
            exact ⟨n, by simpa using h1, run_sizeT (by simpa [sizeT] using hn') w'⟩
          · simp at h1
        obtain ⟨n, hn0, hsz⟩ := hsz w
        have hfield : ∀ b o, (Instr.fieldAt t (.pointer (some ⟨b, o, none⟩)) fi).run P w = .ok (.pointer (some ⟨b, o + off, none⟩)) w := by
          intro b o
          simp [Instr.fieldAt, run_underlying u1, hfd, Instr.sureAddr, fieldPlace, hsz, hn0, h0, Addr.add_lit]
        simp only [step] at hs
        split at hs
        · rename_i cs hx
          obtain rfl : _ = s' := by simpa using hs
          rw [hx] at r1
          generalize hcv : a.eval x' = cv at r1
          cases r1 with
          | ea _ b o f e1 hI hw hv =>
            refine goes_value h rfl (cv := .pointer (some ⟨b, o + off, none⟩)) (by simp [execOp, hcv, hfield]) ?_ rfl hn
            refine .ea _ _ _ (fun j => f (off + j)) (fun c hcm => e1 c (List.mem_of_mem_drop hcm)) ?_ ?_ ?_
            · intro j hj
              simp only [List.length_drop] at hj
              have := hI (off + j) (by omega)
              rwa [Nat.add_assoc]
            · intro j hj
              simp only [List.length_drop] at hj
              have := hw (off + j) (by omega)
              rwa [Nat.add_assoc]
            · intro j c hj
              rw [List.getElem?_drop] at hj
              exact hv _ _ hj
        · rename_i id o hx
          obtain rfl : _ = s' := by simpa using hs
          rw [hx] at r1
          generalize hcv : a.eval x' = cv at r1
          cases r1 with
          | ptr _ _ hid =>
            exact goes_value h rfl (cv := .pointer (some ⟨g.ρ id, o + off, none⟩)) (by simp [execOp, hcv, hfield]) (.ptr _ _ hid) rfl hn
        · simp at hs
      · simp at h1
    · simp at h1
  · simp at hc

/-- a part of a row of cells -/
theorem loaded_rel {I : Nat → Nat → Prop} {ρ : Nat → Nat} {N : Nat} {agg : Bool} {cs : List V} {vs : List Value} (h1 : ∀ c ∈ cs, c.one = true) (hl : cs.length = vs.length) (hg : agg = true ∨ cs.length = 1)
    (hv : ∀ (i : Nat) c cv, cs[i]? = some c → vs[i]? = some cv → VRel I ρ N w c cv) : VRel I ρ N w (loaded agg cs) (if agg then .agg vs.toArray else vs.headD undef) := by
  cases agg with
  | true =>
    simp only [loaded, if_true]
    refine .agg _ _ (by simpa using hl) ?_ ?_ ?_
    · intro c hc
      obtain ⟨c', hc', rfl⟩ := List.mem_map.1 hc
      rw [disown_one]; exact h1 c' hc'
    · intro i c cv hc _
      rw [List.getElem?_map, Option.map_eq_some_iff] at hc
      obtain ⟨c', _, rfl⟩ := hc
      exact disown_nil c' cv
    · intro i c cv hc hcv
      rw [List.getElem?_map, Option.map_eq_some_iff] at hc
      obtain ⟨c', hc', rfl⟩ := hc
      exact (hv i _ _ hc' (by simpa using hcv)).disown
  | false =>
    have hg : cs.length = 1 := by simpa using hg
    match cs, vs, hl, hg with
    | [c], [v], _, _ => exact hv 0 c v rfl rfl

theorem op_fld {d off n : Nat} {agg : Bool} {x : ASrc} (hc : chkPure P (.fld d off n agg x) m = true) (hs : step Γ (.fld d off n agg x) s = some (true, s')) (h : SR g s w a) (hn : Goes g s w a s' next) : m.wp P a w next Q := by
  obtain ⟨dst, op, ty, pos, aft, gd⟩ := m
  simp only [chkPure, Bool.and_eq_true, beq_iff_eq] at hc
  obtain ⟨rfl, hc⟩ := hc
  split at hc
  · rename_i t x' fi
    simp only [Bool.and_eq_true] at hc
    obtain ⟨h1, h2⟩ := hc
    have r1 := src_rel h2 h.er
    split at h1
    · rename_i fs u1
      split at h1
      · rename_i fd hfd
        simp only [Bool.and_eq_true, beq_iff_eq, Bool.or_eq_true] at h1
        obtain ⟨h0, h3, h4, h5⟩ := h1
        simp only [step] at hs
        split at hs
        · rename_i cs hx
          split at hs
          · rename_i hle
            obtain rfl : _ = s' := by simpa using hs
            rw [hx] at r1
            generalize hcv : a.eval x' = cv at r1
            cases r1 with
            | agg _ vs hl e1 _ hv =>
              have hv' := loaded_rel (agg := agg) (cs := (cs.drop off).take n) (vs := (vs.toList.drop off).take n) (w := w) (I := g.I) (ρ := g.ρ) (N := s.hp.length)
                (fun c hcm => e1 c (List.mem_of_mem_drop (List.mem_of_mem_take hcm))) (by simp [hl]) (by
                  rcases h5 with h5 | h5
                  · exact .inl h5
                  · right; simp; omega)
                (fun i c cv hc hcv => by
                  simp only [List.getElem?_take, List.getElem?_drop] at hc hcv
                  split at hc
                  · rename_i hi
                    simp only [hi, if_true] at hcv
                    exact hv _ _ _ hc (by simpa using hcv)
                  · simp at hc)
              refine goes_value h rfl (cv := if agg then .agg ((vs.toList.drop off).take n).toArray else ((vs.toList.drop off).take n).headD undef) ?_ hv'.disown ?_ hn
              · cases agg with
                | true =>
                  simp [execOp, hcv, Instr.field, run_underlying u1, hfd, asAgg, part, run_isAggT h4, run_sizeT h3, h0]
                  apply Array.ext'
                  simp [List.extract_eq_take_drop]
                | false =>
                  have h5 : n = 1 := by simpa using h5
                  subst h5
                  have hlt : off < vs.size := by omega
                  have : vs[off]? = some vs[off] := Array.getElem?_eq_getElem hlt
                  have e2 : (vs.toList.drop off).take 1 = [vs[off]] := by rw [List.drop_eq_getElem_cons (by simpa using hlt)]; simp
                  simp [execOp, hcv, Instr.field, run_underlying u1, hfd, asAgg, part, run_isAggT h4, run_sizeT h3, h0, this, e2]
              · exact disown_bare _
          · simp at hs
        · simp at hs
      · simp at h1
    · simp at h1
  · simp at hc

theorem op_ext {d i : Nat} {x : ASrc} (hc : chkPure P (.ext d i x) m = true) (hs : step Γ (.ext d i x) s = some (true, s')) (h : SR g s w a) (hn : Goes g s w a s' next) : m.wp P a w next Q := by
  obtain ⟨dst, op, ty, pos, aft, gd⟩ := m
  simp only [chkPure, Bool.and_eq_true, beq_iff_eq] at hc
  obtain ⟨rfl, hc⟩ := hc
  split at hc
  · rename_i x' i'
    simp only [Bool.and_eq_true, beq_iff_eq] at hc
    obtain ⟨rfl, h2⟩ := hc
    have r1 := src_rel h2 h.er
    simp only [step] at hs
    split at hs
    · rename_i vs hx
      split at hs
      · rename_i hlt
        obtain rfl : _ = s' := by simpa using hs
        rw [hx] at r1
        generalize hcv : a.eval x' = cv at r1
        cases r1 with
        | tup _ cvs hl hv =>
          have h1 : vs[i]? = some vs[i] := List.getElem?_eq_getElem hlt
          have hlt' : i < cvs.size := by omega
          have h2 : cvs[i]? = some cvs[i] := Array.getElem?_eq_getElem hlt'
          have e : vs[i]?.getD V.undef = vs[i] := by simp [h1]
          refine goes_value h rfl (cv := cvs[i]) (by simp [execOp, hcv, Instr.extract, h2]) ?_ (disown_bare _) hn
          rw [e]
          exact (hv _ _ _ h1 h2).disown
      · simp at hs
    · simp at hs
  · simp at hc

theorem op_nck {d : Option Nat} {x : ASrc} (hc : chkPure P (.nck d x) m = true) (hs : step Γ (.nck d x) s = some (true, s')) (h : SR g s w a) (hn : Goes g s w a s' next) : m.wp P a w next Q := by
  obtain ⟨dst, op, ty, pos, aft, gd⟩ := m
  simp only [chkPure, Bool.and_eq_true, beq_iff_eq] at hc
  obtain ⟨rfl, hc⟩ := hc
  split at hc
  · rename_i x'
    have r1 := src_rel hc h.er
    have key : ∀ v cv, VRel g.I g.ρ s.hp.length w v cv → v.bare = true → (execOp a.eval ⟨dst, .nilCheck x', ty, pos, aft, gd⟩).run P w = .ok (.value cv) w → Goes g s w a (s.setO dst v) next → (⟨dst, .nilCheck x', ty, pos, aft, gd⟩ : Oper).wp P a w next Q := by
      intro v cv hv hb hr hg
      cases dst with
      | some d => exact goes_value h rfl hr hv hb hg
      | none =>
        unfold Oper.wp Oper.upon
        rw [hr]
        exact hg _ _ g h (FR.refl _ _ _) rfl
    simp only [step] at hs
    split at hs
    · rename_i id o hx
      obtain rfl : _ = s' := by simpa using hs
      rw [hx] at r1
      generalize hcv : a.eval x' = cv at r1
      have r1' := r1
      cases r1
      exact key _ _ r1' rfl (by simp [execOp, hcv]) hn
    · rename_i cs hx
      obtain rfl : _ = s' := by simpa using hs
      rw [hx] at r1
      generalize hcv : a.eval x' = cv at r1
      have r1' := r1
      cases r1
      exact key _ _ r1' rfl (by simp [execOp, hcv]) hn
    · simp at hs
  · simp at hc

theorem run_load_row {t : TypeId} {n : Nat} {agg : Bool} {b o : Nat} {vs : List Value} (hsz : sizeT P t = some n) (hag : isAggT P t = some agg) (hg : agg = true ∨ n = 1) (hl : vs.length = n)
    (hw : ∀ (j : Nat) v, vs[j]? = some v → w.cell? ⟨b, o + j, none⟩ = some v) :
    (Instr.loadAt t (.pointer (some ⟨b, o, none⟩))).run P w = .ok (if agg then .agg vs.toArray else vs.headD undef) w := by
  cases agg with
  | true =>
    have := run_loadCells_list (P := P) w ⟨b, o, none⟩ vs (fun j v hj => by rw [Addr.add_lit]; exact hw j v hj)
    rw [hl] at this
    simp [Instr.loadAt, Instr.sureAddr, loadVar, run_isAggT hag, run_sizeT hsz, this]
  | false =>
    have hg : n = 1 := by simpa using hg
    subst hg
    match vs, hl with
    | [v], _ =>
      have := hw 0 v rfl
      simp only [Nat.add_zero] at this
      simp [Instr.loadAt, Instr.sureAddr, loadVar, run_isAggT hag, this]

theorem mem_obj {id : Nat} {cs : List V} (ho : s.obj id = some cs) : s.hp[id]? = some (some cs) ∧ isRow cs = false := by
  unfold St.obj at ho
  simp only [List.getD] at ho
  cases hh : s.hp[id]? with
  | none => rw [hh] at ho; simp at ho
  | some x =>
    rw [hh] at ho
    simp only [Option.getD_some] at ho
    split at ho
    · cases ho
    · cases ho
    · rename_i hne hne2
      subst ho
      refine ⟨rfl, ?_⟩
      cases hrow : isRow cs with
      | false => rfl
      | true =>
        unfold isRow at hrow
        split at hrow
        · exact (hne _ rfl).elim
        · exact (hne2 _ _ rfl).elim
        · cases hrow

/-- a row of an object's cells, as values -/
theorem obj_row {id : Nat} {cs : List V} (h : HR g s.hp w) (ho : s.obj id = some cs) : ∃ arr e, w.heap[g.ρ id]? = some (.cells arr e (0, 0)) ∧ ObjOK0 g s.hp.length w id cs arr e := by
  obtain ⟨h1, h2⟩ := mem_obj ho
  obtain ⟨arr, e, fz, h3, h4⟩ := h.obj id cs h1
  obtain ⟨rfl, h5⟩ := h4.low h2
  exact ⟨arr, e, h3, h5⟩

theorem cell_of_heap {b : Nat} {arr : Array Value} {e : TypeId} {fz : Nat × Nat} (h : w.heap[b]? = some (.cells arr e fz)) (j : Nat) : w.cell? ⟨b, j, none⟩ = arr[j]? := by
  simp [World.cell?, h]

theorem op_ld {d n : Nat} {agg : Bool} {x : ASrc} (hc : chkPure P (.ld d n agg false x) m = true) (hs : step Γ (.ld d n agg false x) s = some (true, s')) (h : SR g s w a) (hn : Goes g s w a s' next) : m.wp P a w next Q := by
  obtain ⟨dst, op, ty, pos, aft, gd⟩ := m
  simp only [chkPure, Bool.and_eq_true, beq_iff_eq] at hc
  obtain ⟨rfl, hc⟩ := hc
  split at hc
  · rename_i t x'
    simp only [Bool.and_eq_true, beq_iff_eq, Bool.or_eq_true] at hc
    obtain ⟨h1, h2, h3, h4⟩ := hc
    have r1 := src_rel h4 h.er
    simp only [step] at hs
    split at hs
    · rename_i cs hx
      split at hs
      · rename_i hle
        obtain rfl : _ = s' := by simpa using hs
        rw [hx] at r1
        generalize hcv : a.eval x' = cv at r1
        cases r1 with
        | ea _ b o f e1 hI hw hv =>
          have hrel := loaded_rel (agg := agg) (cs := cs.take n) (vs := (List.range n).map f) (w := w) (I := g.I) (ρ := g.ρ) (N := s.hp.length)
            (fun c hcm => e1 c (List.mem_of_mem_take hcm)) (by simp; omega) (by
              rcases h3 with h3 | h3
              · exact .inl h3
              · right; simp; omega)
            (fun i c cv hc hcv => by
              simp only [List.getElem?_take] at hc
              split at hc
              · rename_i hi
                simp [hi] at hcv
                subst hcv
                exact hv _ _ hc
              · simp at hc)
          refine goes_value h rfl (cv := if agg then .agg ((List.range n).map f).toArray else ((List.range n).map f).headD undef) ?_ hrel.disown (disown_bare _) hn
          have := run_load_row (P := P) (w := w) (b := b) (o := o) (vs := (List.range n).map f) h1 h2 h3 (by simp) (fun j v hj => by
            rw [List.getElem?_map, Option.map_eq_some_iff] at hj
            obtain ⟨j', hj', rfl⟩ := hj
            obtain ⟨hlt, rfl⟩ := List.getElem?_eq_some_iff.1 hj'
            simp only [List.length_range] at hlt
            simpa using hw j (by omega))
          simp [execOp, hcv, this]
      · simp at hs
    · rename_i id o hx
      split at hs
      · rename_i cs ho
        split at hs
        · rename_i hle
          obtain rfl : _ = s' := by simpa using hs
          rw [hx] at r1
          generalize hcv : a.eval x' = cv at r1
          cases r1 with
          | ptr _ _ hid =>
            obtain ⟨arr, e, hb, hok⟩ := obj_row h.hr ho
            have hlen := hok.len
            have hrel := loaded_rel (agg := agg) (cs := (cs.drop o).take n) (vs := (arr.toList.drop o).take n) (w := w) (I := g.I) (ρ := g.ρ) (N := s.hp.length)
              (fun c hcm => hok.one c (List.mem_of_mem_drop (List.mem_of_mem_take hcm))) (by simp; omega) (by
                rcases h3 with h3 | h3
                · exact .inl h3
                · right; simp; omega)
              (fun i c cv hc hcv => by
                simp only [List.getElem?_take, List.getElem?_drop] at hc hcv
                split at hc
                · rename_i hi
                  simp only [hi, if_true] at hcv
                  exact hok.rel _ _ _ hc (by simpa using hcv)
                · simp at hc)
            refine goes_value h rfl (cv := if agg then .agg ((arr.toList.drop o).take n).toArray else ((arr.toList.drop o).take n).headD undef) ?_ hrel.disown (disown_bare _) hn
            have := run_load_row (P := P) (w := w) (b := g.ρ id) (o := o) (vs := (arr.toList.drop o).take n) h1 h2 h3 (by simp; omega) (fun j v hj => by
              rw [cell_of_heap hb]
              simp only [List.getElem?_take, List.getElem?_drop] at hj
              split at hj
              · simpa using hj
              · simp at hj)
            simp [execOp, hcv, this]
        · simp at hs
      · simp at hs
    · simp at hs
  · simp at hc

theorem op_mx {d : Nat} {mn : Bool} {x y : ASrc} (hc : chkPure P (.mx d mn x y) m = true) (hs : step Γ (.mx d mn x y) s = some (true, s')) (h : SR g s w a) (hn : Goes g s w a s' next) : m.wp P a w next Q := by
  obtain ⟨dst, op, ty, pos, aft, gd⟩ := m
  simp only [chkPure, Bool.and_eq_true, beq_iff_eq] at hc
  obtain ⟨rfl, hc⟩ := hc
  simp only [step] at hs
  have fin : ∀ x' y' ts (b : Builtin), op = .call ⟨.builtin b, ⟨[x', y']⟩, ts⟩ → (b = if mn then Builtin.min else Builtin.max) → srcOK x x' = true → srcOK y y' = true → (⟨some d, op, ty, pos, aft, gd⟩ : Oper).wp P a w next Q := by
    rintro x' y' ts b rfl hb h1 h2
    have r1 := src_rel h1 h.er
    have r2 := src_rel h2 h.er
    split at hs
    · rename_i k p k' q hx hy
      split at hs
      · rename_i hk
        subst hk
        obtain rfl : _ = s' := by simpa using hs
        rw [hx] at r1
        rw [hy] at r2
        generalize hcx : a.eval x' = cx at r1
        generalize hcy : a.eval y' = cy at r2
        cases r1 with
        | int _ _ hp =>
        cases r2 with
        | int _ _ hq =>
        cases mn with
        | true =>
          subst hb
          refine goes_value h rfl (cv := .int k (if q < p then q else p)) ?_ (.int _ _ (by split <;> assumption)) rfl hn
          simp [execOp, resolve, hcx, hcy, invoke, builtin, Builtin.min_, Builtin.min2]
        | false =>
          subst hb
          refine goes_value h rfl (cv := .int k (if p < q then q else p)) ?_ (.int _ _ (by split <;> assumption)) rfl hn
          simp [execOp, resolve, hcx, hcy, invoke, builtin, Builtin.max_, Builtin.max2]
      · simp at hs
    · simp at hs
  split at hc
  · rename_i x' y' ts hop
    simp only [Bool.and_eq_true] at hc
    obtain ⟨hm, h1, h2⟩ := hc
    exact fin x' y' _ .min (callB_some hop) (by simp [hm]) h1 h2
  · rename_i x' y' ts hop
    simp only [Bool.and_eq_true, Bool.not_eq_true'] at hc
    obtain ⟨hm, h1, h2⟩ := hc
    exact fin x' y' _ .max (callB_some hop) (by simp [hm]) h1 h2
  · simp at hc

theorem run_equal_bool {t : TypeId} (hu : P.underlying t = some .bool) (p q : Bool) (w : World) : (Op.equal t (.bool p) (.bool q)).run P w = .ok (p == q) w := by
  show (Op.equalIn (9999 + 1) t _ _).run P w = _
  rw [Op.equalIn]
  simp [run_underlying hu]

theorem run_equal_nn {t e : TypeId} (hu : P.underlying t = some (.pointer e)) (w : World) : (Op.equal t (.pointer none) (.pointer none)).run P w = .ok true w := by
  show (Op.equalIn (9999 + 1) t _ _).run P w = _
  rw [Op.equalIn]
  simp [run_underlying hu]

theorem run_equal_np {t e : TypeId} (hu : P.underlying t = some (.pointer e)) (a : Addr) (w : World) : (Op.equal t (.pointer none) (.pointer (some a))).run P w = .ok false w := by
  show (Op.equalIn (9999 + 1) t _ _).run P w = _
  rw [Op.equalIn]
  simp [run_underlying hu]

theorem run_equal_pn {t e : TypeId} (hu : P.underlying t = some (.pointer e)) (a : Addr) (w : World) : (Op.equal t (.pointer (some a)) (.pointer none)).run P w = .ok false w := by
  show (Op.equalIn (9999 + 1) t _ _).run P w = _
  rw [Op.equalIn]
  simp [run_underlying hu]

theorem op_beq {d : Nat} {neg : Bool} {x y : ASrc} (hc : chkPure P (.beq d neg x y) m = true) (hs : step Γ (.beq d neg x y) s = some (true, s')) (h : SR g s w a) (hn : Goes g s w a s' next) : m.wp P a w next Q := by
  obtain ⟨dst, op, ty, pos, aft, gd⟩ := m
  simp only [chkPure, Bool.and_eq_true, beq_iff_eq] at hc
  obtain ⟨rfl, hc⟩ := hc
  split at hc
  · rename_i o' t x' y' t'
    simp only [Bool.and_eq_true, decide_eq_true_eq] at hc
    obtain ⟨rfl, ht, h1, h2⟩ := hc
    have hu : P.underlying t = some .bool := by
      split at ht
      · assumption
      · simp at ht
    have r1 := src_rel h1 h.er
    have r2 := src_rel h2 h.er
    simp only [step] at hs
    generalize hcx : a.eval x' = cx at r1
    generalize hcy : a.eval y' = cy at r2
    split at hs
    · rename_i p q hx hy
      obtain rfl : _ = s' := by simpa using hs
      rw [hx] at r1
      rw [hy] at r2
      cases r1 with
      | bool =>
      cases r2 with
      | bool =>
      refine goes_value h rfl (cv := .bool (cond neg (!(p == q)) (p == q))) ?_ (.bool _) rfl hn
      cases neg <;> simp [execOp, hcx, hcy, eqGuard, binOp, run_equal_bool hu]
    · simp at hs
  · simp at hc

theorem op_peq {d : Nat} {neg : Bool} {x y : ASrc} (hc : chkPure P (.peq d neg x y) m = true) (hs : step Γ (.peq d neg x y) s = some (true, s')) (h : SR g s w a) (hn : Goes g s w a s' next) : m.wp P a w next Q := by
  obtain ⟨dst, op, ty, pos, aft, gd⟩ := m
  simp only [chkPure, Bool.and_eq_true, beq_iff_eq] at hc
  obtain ⟨rfl, hc⟩ := hc
  split at hc
  · rename_i o' t x' y' t'
    simp only [Bool.and_eq_true, decide_eq_true_eq] at hc
    obtain ⟨rfl, ht, h1, h2⟩ := hc
    obtain ⟨e, hu⟩ : ∃ e, P.underlying t = some (.pointer e) := by
      split at ht
      · exact ⟨_, by assumption⟩
      · simp at ht
    have r1 := src_rel h1 h.er
    have r2 := src_rel h2 h.er
    simp only [step] at hs
    generalize hcx : a.eval x' = cx at r1
    generalize hcy : a.eval y' = cy at r2
    split at hs
    · rename_i hx hy
      obtain rfl : _ = s' := by simpa using hs
      rw [hx] at r1
      rw [hy] at r2
      cases r1
      cases r2
      refine goes_value h rfl (cv := .bool (!neg)) ?_ (.bool _) rfl hn
      cases neg <;> simp [execOp, hcx, hcy, eqGuard, binOp, run_equal_nn hu]
    · rename_i hx hy
      obtain rfl : _ = s' := by simpa using hs
      rw [hx] at r1
      rw [hy] at r2
      cases r1
      cases r2
      refine goes_value h rfl (cv := .bool neg) ?_ (.bool _) rfl hn
      cases neg <;> simp [execOp, hcx, hcy, eqGuard, binOp, run_equal_np hu]
    · rename_i hx hy
      obtain rfl : _ = s' := by simpa using hs
      rw [hx] at r1
      rw [hy] at r2
      cases r1
      cases r2
      refine goes_value h rfl (cv := .bool neg) ?_ (.bool _) rfl hn
      cases neg <;> simp [execOp, hcx, hcy, eqGuard, binOp, run_equal_pn hu]
    · simp at hs
  · simp at hc
end
end Go.AM
