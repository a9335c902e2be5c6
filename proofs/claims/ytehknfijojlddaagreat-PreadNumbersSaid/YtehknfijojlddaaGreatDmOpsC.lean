/-
  More operations that only compute.
-/
import Derived.Test.YtehknfijojlddaaGreatDmOpsB
namespace Go.DM
set_option autoImplicit false
set_option linter.unusedSimpArgs false
set_option linter.unusedVariables false
section
variable {g : Gh} {cx : Cx} {s : FS} {w : World} {a : Act} {P : Program} {at_ : Nat} {v : D} {ws : List (Nat × Option Obj)} {next : Act → World → Prop} {Q : Exit → Act → World → Prop}
  {dst : Option Nat} {op : Op} {ty : TypeId} {pos : String} {aft : Array Edge} {gd : Option (Nat × Bool)}

theorem op_len {st : Bool} {x : ASrc} (hc : chkA P cx (.len st x) op = true) (hs : eff at_ s.E s.H (.len st x) = some (v, ws)) (h : SG g cx s w a) (hn : Goes at_ cx g s w a dst v ws next) : (⟨dst, op, ty, pos, aft, gd⟩ : Oper).wp P a w next Q := by
  simp only [chkA] at hc
  split at hc
  · rename_i x' t hop
    obtain rfl := callB_some hop
    simp only [Bool.and_eq_true] at hc
    obtain ⟨h1, h3⟩ := hc
    have r1 := src_rel h3 h
    generalize hcv : a.eval x' = cv at r1
    simp only [eff] at hs
    split at hs
    · rename_i l hx
      simp only [Option.some.injEq, Prod.mk.injEq] at hs
      obtain ⟨rfl, rfl⟩ := hs
      rw [hx] at r1
      have u1 := lenT_str h1
      cases r1 with
      | str _ b hl hm =>
        subst hl
        have hlen : lenL (b.data.toList.map (·.toNat)) 0 = b.size := by rw [lenL_eq, List.length_map, size_data, Nat.zero_add]
        rw [hlen] at hn
        exact goes_value h (cv := .int .i64 b.size) (by simp [execOp, resolve, hcv, invoke, builtin, Builtin.len_, run_underlying u1, goInt]) (.int _ _ (len_range hm)) hn
    · rename_i  hx
      simp only [Option.some.injEq, Prod.mk.injEq] at hs
      obtain ⟨rfl, rfl⟩ := hs
      rw [hx] at r1
      obtain ⟨e, u1⟩ := lenT_sl h1
      cases r1
      refine goes_value h (cv := .int .i64 (.ofNat 0)) (by simp [execOp, resolve, hcv, invoke, builtin, Builtin.len_, run_underlying u1, goInt]) (.int _ _ (by decide)) hn
    · rename_i  hx
      simp only [Option.some.injEq, Prod.mk.injEq] at hs
      obtain ⟨rfl, rfl⟩ := hs
      rw [hx] at r1
      obtain ⟨e, u1⟩ := lenT_sl h1
      cases r1
      refine goes_value h (cv := .int .i64 (.ofNat 0)) (by simp [execOp, resolve, hcv, invoke, builtin, Builtin.len_, run_underlying u1, goInt]) (.int _ _ (by decide)) hn
    · rename_i id off n sz cap hx
      simp only [Option.some.injEq, Prod.mk.injEq] at hs
      obtain ⟨rfl, rfl⟩ := hs
      rw [hx] at r1
      obtain ⟨e, u1⟩ := lenT_sl h1
      cases r1 with
      | sl _ _ _ _ _ c _ _ hc hm _ =>
      exact goes_value h (cv := .int .i64 n) (by simp [execOp, resolve, hcv, invoke, builtin, Builtin.len_, run_underlying u1, goInt]) (.int _ _ (len_range (by omega))) hn
    · simp at hs
  · simp at hc

theorem op_idx {x i : ASrc} (hc : chkA P cx (.idx x i) op = true) (hs : eff at_ s.E s.H (.idx x i) = some (v, ws)) (h : SG g cx s w a) (hn : Goes at_ cx g s w a dst v ws next) : (⟨dst, op, ty, pos, aft, gd⟩ : Oper).wp P a w next Q := by
  simp only [chkA] at hc
  split at hc
  · rename_i t x' i'
    simp only [Bool.and_eq_true] at hc
    obtain ⟨h1, h2, h3⟩ := hc
    have r1 := src_rel h2 h
    have r2 := src_rel h3 h
    have u1 := strT_facts h1
    simp only [eff] at hs
    split at hs
    · rename_i l k n hx hi
      split at hs
      · rename_i q hq
        simp only [Option.some.injEq, Prod.mk.injEq] at hs
        obtain ⟨rfl, rfl⟩ := hs
        rw [hx] at r1
        rw [hi] at r2
        generalize hcv : a.eval x' = cv at r1
        generalize hci : a.eval i' = ci at r2
        cases r2
        cases r1 with
        | str _ b hl hm =>
          subst hl
          rw [List.getElem?_map, Option.map_eq_some_iff] at hq
          obtain ⟨c, hc, rfl⟩ := hq
          have hlt : n < b.size := by rw [← size_data]; exact (List.getElem?_eq_some_iff.1 hc).1
          have hget : b[n]? = some c := by
            rw [getElem?_pos b n hlt]
            have hlt' : n < b.data.toList.length := by rw [size_data]; exact hlt
            rw [List.getElem?_eq_getElem hlt'] at hc
            rw [← Option.some.inj hc]
            rfl
          refine goes_value h (cv := .int .u8 c.toNat) ?_ (.int _ _ (byte_range _)) hn
          simp [execOp, hcv, hci, Instr.index, asIntOf, run_underlying u1, hget]
      · simp at hs
    · simp at hs
  · simp at hc

theorem op_ixa {sz : Nat} {x i : ASrc} (hc : chkA P cx (.ixa sz x i) op = true) (hs : eff at_ s.E s.H (.ixa sz x i) = some (v, ws)) (h : SG g cx s w a) (hn : Goes at_ cx g s w a dst v ws next) : (⟨dst, op, ty, pos, aft, gd⟩ : Oper).wp P a w next Q := by
  simp only [chkA] at hc
  split at hc
  · rename_i t x' i'
    simp only [Bool.and_eq_true] at hc
    obtain ⟨h1, h2, h3⟩ := hc
    have r1 := src_rel h2 h
    have r2 := src_rel h3 h
    obtain ⟨e, u1, u2, u3⟩ := sliceT_facts h1
    simp only [eff] at hs
    split at hs
    · rename_i id off n sz' cap k i hx hi
      simp only [chk_iff, Bool.and_eq_true, Option.some.injEq, Prod.mk.injEq, Nat.blt_eq, Tr.beq_iff, decide_eq_true_eq] at hs
      obtain ⟨⟨hlt, rfl⟩, rfl, rfl⟩ := hs
      rw [hx] at r1
      rw [hi] at r2
      generalize hcv : a.eval x' = cv at r1
      generalize hci : a.eval i' = ci at r2
      cases r2
      cases r1 with
      | sl _ _ _ _ _ c hA hz hc hm hk =>
        refine goes_value h (cv := .pointer (some ⟨g.ρ id, off + i * sz, none⟩)) ?_ (.ptr _ _ hA) hn
        simp [execOp, hcv, hci, Instr.indexAt, asIntOf, run_underlying u1, hlt, run_sizeT u2, Addr.add_lit]
    · simp at hs
  · simp at hc

theorem op_ixp {n sz : Nat} {x i : ASrc} (hc : chkA P cx (.ixp n sz x i) op = true) (hs : eff at_ s.E s.H (.ixp n sz x i) = some (v, ws)) (h : SG g cx s w a) (hn : Goes at_ cx g s w a dst v ws next) : (⟨dst, op, ty, pos, aft, gd⟩ : Oper).wp P a w next Q := by
  simp only [chkA] at hc
  split at hc
  · rename_i t x' i'
    simp only [Bool.and_eq_true] at hc
    obtain ⟨h1, h2, h3⟩ := hc
    have r1 := src_rel h2 h
    have r2 := src_rel h3 h
    split at h1
    · rename_i n' e u1
      simp only [Bool.and_eq_true, beq_iff_eq] at h1
      obtain ⟨rfl, u2⟩ := h1
      simp only [eff] at hs
      split at hs
      · rename_i id off k i hx hi
        simp only [chk_iff, Option.some.injEq, Prod.mk.injEq, Nat.blt_eq] at hs
        obtain ⟨hlt, rfl, rfl⟩ := hs
        rw [hx] at r1
        rw [hi] at r2
        generalize hcv : a.eval x' = cv at r1
        generalize hci : a.eval i' = ci at r2
        cases r2
        cases r1 with
        | ptr _ _ hA =>
          refine goes_value h (cv := .pointer (some ⟨g.ρ id, off + i * sz, none⟩)) ?_ (.ptr _ _ hA) hn
          simp [execOp, hcv, hci, Instr.indexAt, Instr.sureAddr, asIntOf, run_underlying u1, hlt, run_sizeT u2, Addr.add_lit]
      · simp at hs
    · simp at h1
  · simp at hc

theorem sliceBound_ok {k : IntKind} {n y : Nat} {code : BoundsCode} (h1 : n ≤ y) (w : World) : (Instr.sliceBound (.int k (n : Int)) y code).run P w = .ok n w := by
  simp [Instr.sliceBound, asIntOf, h1]

/-- the ends of a slice expression, in the machine and in the model -/
theorem ends_run {len cap : Nat} {isS : Bool} {lo hi : Option ASrc} {lo' hi' : Option Operand} {p q : Nat} (hle : len ≤ cap) (h1 : osrcOK cx lo lo' = true) (h2 : osrcOK cx hi hi' = true)
    (he : ends len (osrc s.E lo) (osrc s.E hi) = some (p, q)) (h : SG g cx s w a) :
    (Instr.sliceBounds isS len cap (lo'.map a.eval) (hi'.map a.eval) none).run P w = .ok (p, q, cap) w ∧ p ≤ q ∧ q ≤ len := by
  have hlo : ∀ (x : ASrc) (y : Operand) (k : IntKind) (n : Int), srcOK cx x y = true → x.ev s.E = .int k n → a.eval y = .int k n := by
    intro x y k n hxy hx
    have r := src_rel hxy h
    rw [hx] at r
    generalize hcv : a.eval y = cv at r
    cases r
    rfl
  unfold ends at he
  split at he
  · rename_i e1 e2
    cases lo <;> cases hi <;> simp [osrc] at e1 e2
    cases lo' <;> cases hi' <;> simp [osrcOK] at h1 h2
    simp only [Option.some.injEq, Prod.mk.injEq] at he
    obtain ⟨rfl, rfl⟩ := he
    exact ⟨by simp [Instr.sliceBounds], by omega, by omega⟩
  · rename_i k n e1 e2
    cases lo with
    | none => simp [osrc] at e1
    | some x =>
    cases hi with
    | some _ => simp [osrc] at e2
    | none =>
    cases lo' with
    | none => simp [osrcOK] at h1
    | some x' =>
    cases hi' with
    | some _ => simp [osrcOK] at h2
    | none =>
    simp only [chk_iff, Option.some.injEq, Prod.mk.injEq, Nat.ble_eq] at he
    obtain ⟨hle2, rfl, rfl⟩ := he
    simp only [osrc, Option.some.injEq] at e1
    have := hlo _ _ _ _ h1 e1
    refine ⟨?_, by omega, by omega⟩
    simp [Instr.sliceBounds, this, sliceBound_ok (P := P) hle2]
  · rename_i k n e1 e2
    cases hi with
    | none => simp [osrc] at e2
    | some x =>
    cases lo with
    | some _ => simp [osrc] at e1
    | none =>
    cases hi' with
    | none => simp [osrcOK] at h2
    | some x' =>
    cases lo' with
    | some _ => simp [osrcOK] at h1
    | none =>
    simp only [chk_iff, Option.some.injEq, Prod.mk.injEq, Nat.ble_eq] at he
    obtain ⟨hle2, rfl, rfl⟩ := he
    simp only [osrc, Option.some.injEq] at e2
    have := hlo _ _ _ _ h2 e2
    refine ⟨?_, by omega, by omega⟩
    simp [Instr.sliceBounds, this, sliceBound_ok (P := P) (y := cap) (Nat.le_trans hle2 hle)]
  · rename_i k n k2 n2 e1 e2
    cases hi with
    | none => simp [osrc] at e2
    | some y =>
    cases lo with
    | none => simp [osrc] at e1
    | some x =>
    cases hi' with
    | none => simp [osrcOK] at h2
    | some y' =>
    cases lo' with
    | none => simp [osrcOK] at h1
    | some x' =>
    simp only [chk_iff, Option.some.injEq, Prod.mk.injEq, Nat.ble_eq, Bool.and_eq_true] at he
    obtain ⟨⟨hle2, hle3⟩, rfl, rfl⟩ := he
    simp only [osrc, Option.some.injEq] at e1 e2
    have q1 := hlo _ _ _ _ h1 e1
    have q2 := hlo _ _ _ _ h2 e2
    refine ⟨?_, by omega, by omega⟩
    simp [Instr.sliceBounds, q1, q2, sliceBound_ok (P := P) (y := cap) (Nat.le_trans hle2 hle), sliceBound_ok (P := P) hle3]
  · simp at he

theorem op_subs {x : ASrc} {lo hi : Option ASrc} (hc : chkA P cx (.subs x lo hi) op = true) (hs : eff at_ s.E s.H (.subs x lo hi) = some (v, ws)) (h : SG g cx s w a) (hn : Goes at_ cx g s w a dst v ws next) : (⟨dst, op, ty, pos, aft, gd⟩ : Oper).wp P a w next Q := by
  simp only [chkA] at hc
  split at hc
  · rename_i t x' lo' hi'
    simp only [Bool.and_eq_true] at hc
    obtain ⟨h1, h2, h3, h4⟩ := hc
    have r1 := src_rel h2 h
    have u1 := strT_facts h1
    simp only [eff] at hs
    split at hs
    · rename_i l hx
      simp only [Option.map_eq_some_iff] at hs
      obtain ⟨⟨p, q⟩, hv, hs⟩ := hs
      simp only [Prod.mk.injEq] at hs
      obtain ⟨rfl, rfl⟩ := hs
      rw [hx] at r1
      generalize hcv : a.eval x' = cv at r1
      cases r1 with
      | str _ b hl hm =>
        subst hl
        rw [List.length_map, size_data] at hv
        obtain ⟨e1, e2, e3⟩ := ends_run (P := P) (isS := false) (Nat.le_refl _) h3 h4 hv h
        refine goes_value h (cv := .string (b.extract p q)) ?_ (.str _ _ ?_ ?_) hn
        · simp [execOp, hcv, Instr.sliceAt, Instr.slice, run_underlying u1, e1]
        · simp [List.extract_eq_take_drop, List.drop_take, List.map_drop, List.map_take]
        · simp [ByteArray.size_extract]; omega
    · simp at hs
  · simp at hc

theorem op_subl {sz : Nat} {x : ASrc} {lo hi : Option ASrc} (hc : chkA P cx (.subl sz x lo hi) op = true) (hs : eff at_ s.E s.H (.subl sz x lo hi) = some (v, ws)) (h : SG g cx s w a) (hn : Goes at_ cx g s w a dst v ws next) : (⟨dst, op, ty, pos, aft, gd⟩ : Oper).wp P a w next Q := by
  simp only [chkA] at hc
  split at hc
  · rename_i t x' lo' hi'
    simp only [Bool.and_eq_true] at hc
    obtain ⟨h1, h2, h3, h4⟩ := hc
    have r1 := src_rel h2 h
    obtain ⟨e, u1, u2, u3⟩ := sliceT_facts h1
    have hsz := fun w' : World => run_sizeT u2 w'
    generalize hcv : a.eval x' = cv at r1
    simp only [eff] at hs
    split at hs
    · rename_i hx
      simp only [Option.map_eq_some_iff] at hs
      obtain ⟨⟨p, q⟩, hv, hs⟩ := hs
      simp only [Prod.mk.injEq] at hs
      obtain ⟨rfl, rfl⟩ := hs
      rw [hx] at r1
      cases r1
      obtain ⟨e1, e2, e3⟩ := ends_run (P := P) (isS := true) (Nat.le_refl _) h3 h4 hv h
      obtain rfl : q = 0 := by omega
      obtain rfl : p = 0 := by omega
      refine goes_value h (cv := .slice none 0 0) ?_ .nils hn
      simp [execOp, hcv, Instr.sliceAt, Instr.slice, run_underlying u1, e1, hsz]
    · rename_i hx
      simp only [Option.map_eq_some_iff] at hs
      obtain ⟨⟨p, q⟩, hv, hs⟩ := hs
      simp only [Prod.mk.injEq] at hs
      obtain ⟨rfl, rfl⟩ := hs
      rw [hx] at r1
      cases r1 with
      | emp ad c hm =>
      obtain ⟨e1, e2, e3⟩ := ends_run (P := P) (isS := true) (Nat.zero_le c) h3 h4 hv h
      obtain rfl : q = 0 := by omega
      obtain rfl : p = 0 := by omega
      refine goes_value h (cv := .slice (some ad) 0 c) ?_ (.emp _ _ hm) hn
      simp [execOp, hcv, Instr.sliceAt, Instr.slice, run_underlying u1, e1, hsz, Addr.add]
    · rename_i id off n sz' cap hx
      rw [chk_iff] at hs
      obtain ⟨hzz, hs⟩ := hs
      simp only [Tr.beq_iff, decide_eq_true_eq] at hzz
      subst hzz
      rw [hx] at r1
      cases r1 with
      | sl _ _ _ _ _ c hA hz hcap hm hk =>
      have run : ∀ p q, ends n (osrc s.E lo) (osrc s.E hi) = some (p, q) → (execOp a.eval ⟨dst, .slice t x' lo' hi' none, ty, pos, aft, gd⟩).run P w = .ok (.value (.slice (if c = p then some ⟨g.ρ id, off, none⟩ else some ⟨g.ρ id, off + p * sz, none⟩) (q - p) (c - p))) w ∧ p ≤ q ∧ q ≤ n := by
        intro p q he
        obtain ⟨e1, e2, e3⟩ := ends_run (P := P) (isS := true) hcap h3 h4 he h
        refine ⟨?_, e2, e3⟩
        by_cases hcp : c = p
        · subst hcp
          simp [execOp, hcv, Instr.sliceAt, Instr.slice, run_underlying u1, e1, hsz]
        · simp [execOp, hcv, Instr.sliceAt, Instr.slice, run_underlying u1, e1, hsz, hcp, Addr.add_lit]
      split at hs
      · rename_i p q k he
        obtain ⟨e1, e2, e3⟩ := run p q he
        simp only [capOK] at hk
        subst hk
        simp only [Option.some.injEq, Prod.mk.injEq] at hs
        obtain ⟨hs, rfl⟩ := hs
        by_cases hcp : c = p
        · have : Nat.beq c p = true := by simp [Tr.beq_iff, hcp]
          rw [this] at hs
          subst hs
          rw [if_pos hcp] at e1
          refine goes_value h e1 ?_ hn
          refine .sl id off (q - p) sz (some 0) _ hA hz (by omega) (by omega) ?_
          show c - p = 0
          omega
        · have : Nat.beq c p = false := by simp [Tr.beq_iff, hcp]
          rw [this] at hs
          subst hs
          rw [if_neg hcp] at e1
          exact goes_value h e1 (.sl id _ (q - p) sz (some (c - p)) _ hA hz (by omega) (by omega) rfl) hn
      · rename_i p q he
        obtain ⟨e1, e2, e3⟩ := run p q he
        simp only [Option.some.injEq, Prod.mk.injEq] at hs
        obtain ⟨hs, rfl⟩ := hs
        by_cases hcp : p = n
        · have : Nat.beq p n = true := by simp [Tr.beq_iff, hcp]
          rw [this] at hs
          subst hs
          have hq : q - p = 0 := by omega
          rw [hq] at e1
          by_cases h' : c = p
          · rw [if_pos h'] at e1
            exact goes_value h e1 (.emp _ _ (by omega)) hn
          · rw [if_neg h'] at e1
            exact goes_value h e1 (.emp _ _ (by omega)) hn
        · have : Nat.beq p n = false := by simp [Tr.beq_iff, hcp]
          rw [this] at hs
          subst hs
          rw [if_neg (by omega)] at e1
          refine goes_value h e1 (.sl id _ (q - p) sz none _ hA hz (by omega) (by omega) ?_) hn
          simp only [capOK] at hk ⊢
          rw [← hk, Nat.add_assoc, ← Nat.add_mul]
          congr 2
          omega
      · simp at hs
    · simp at hs
  · simp at hc

theorem fieldOK_facts {t : TypeId} {f off : Nat} {k : Field → Bool} (h : fieldOK P t f off k = true) : ∃ (fs : Array Field) (fd : Field), P.underlying t = some (.struct fs) ∧ fs[f]? = some fd ∧ fd.offset = off ∧ k fd = true := by
  unfold fieldOK at h
  split at h
  · rename_i fs u1
    split at h
    · rename_i fd hfd
      simp only [Bool.and_eq_true, beq_iff_eq] at h
      exact ⟨fs, fd, u1, hfd, h.1, h.2⟩
    · simp at h
  · simp at h

theorem op_fad {off : Nat} {x : ASrc} (hc : chkA P cx (.fad off x) op = true) (hs : eff at_ s.E s.H (.fad off x) = some (v, ws)) (h : SG g cx s w a) (hn : Goes at_ cx g s w a dst v ws next) : (⟨dst, op, ty, pos, aft, gd⟩ : Oper).wp P a w next Q := by
  simp only [chkA] at hc
  split at hc
  · rename_i t x' fi
    simp only [Bool.and_eq_true] at hc
    obtain ⟨h1, h2⟩ := hc
    have r1 := src_rel h2 h
    obtain ⟨fs, fd, u1, hfd, h0, h1⟩ := fieldOK_facts h1
    have hsz : ∃ n, n ≠ 0 ∧ (sizeOf fd.type).run P w = .ok n w := by
      unfold nonZeroT at h1
      split at h1
      · rename_i n hn'
        exact ⟨n, by simpa using h1, run_sizeT hn' w⟩
      · simp at h1
    obtain ⟨n, hn0, hsz⟩ := hsz
    simp only [eff] at hs
    split at hs
    · rename_i id o hx
      simp only [Option.some.injEq, Prod.mk.injEq] at hs
      obtain ⟨rfl, rfl⟩ := hs
      rw [hx] at r1
      generalize hcv : a.eval x' = cv at r1
      cases r1 with
      | ptr _ _ hA =>
        refine goes_value h (cv := .pointer (some ⟨g.ρ id, o + off, none⟩)) ?_ (.ptr _ _ hA) hn
        simp [execOp, hcv, Instr.fieldAt, run_underlying u1, hfd, Instr.sureAddr, fieldPlace, hsz, hn0, h0, Addr.add_lit]
    · simp at hs
  · simp at hc

theorem op_fld {off n : Nat} {agg : Bool} {x : ASrc} (hc : chkA P cx (.fld off n agg x) op = true) (hs : eff at_ s.E s.H (.fld off n agg x) = some (v, ws)) (h : SG g cx s w a) (hn : Goes at_ cx g s w a dst v ws next) : (⟨dst, op, ty, pos, aft, gd⟩ : Oper).wp P a w next Q := by
  simp only [chkA] at hc
  split at hc
  · rename_i t x' fi
    simp only [Bool.and_eq_true] at hc
    obtain ⟨h1, h2⟩ := hc
    have r1 := src_rel h2 h
    obtain ⟨fs, fd, u1, hfd, h0, h1⟩ := fieldOK_facts h1
    simp only [Bool.and_eq_true, beq_iff_eq, Bool.or_eq_true] at h1
    obtain ⟨h3, h4, h5⟩ := h1
    simp only [eff] at hs
    split at hs
    · rename_i cs hx
      simp only [chk_iff, Option.some.injEq, Prod.mk.injEq, Nat.ble_eq] at hs
      obtain ⟨hle, rfl, rfl⟩ := hs
      rw [hx] at r1
      generalize hcv : a.eval x' = cv at r1
      cases r1 with
      | agg _ vs hl e1 hv =>
        have hrow : Row g ((cs.drop off).take n) ((vs.toList.drop off).take n) := by
          refine ⟨by simp [hl], fun c hcm => e1 c (List.mem_of_mem_drop (List.mem_of_mem_take hcm)), ?_⟩
          intro i c cv hc hcv
          simp only [List.getElem?_take, List.getElem?_drop] at hc hcv
          split at hc
          · rename_i hi
            simp only [hi, if_true] at hcv
            exact hv _ _ _ hc (by simpa using hcv)
          · simp at hc
        have hv' := loaded_rel (agg := agg) hrow (by
          rcases h5 with h5 | h5
          · exact .inl h5
          · right; simp; omega)
        refine goes_value h ?_ hv' hn
        cases agg with
        | true =>
          simp [execOp, hcv, Instr.field, run_underlying u1, hfd, asAgg, part, run_isAggT h4, run_sizeT h3, h0]
          apply Array.ext'
          simp [List.extract_eq_take_drop]
        | false =>
          have h5 : n = 1 := by simpa using h5
          subst h5
          have hlt : off < vs.size := by omega
          have : vs[off]? = some vs[off] := Array.getElem?_eq_getElem hlt
          have e2 : (vs.toList.drop off).take 1 = [vs[off]] := by rw [List.drop_eq_getElem_cons (by simpa using hlt)]; simp
          simp [execOp, hcv, Instr.field, run_underlying u1, hfd, asAgg, part, run_isAggT h4, run_sizeT h3, h0, this, e2]
    · simp at hs
  · simp at hc

theorem op_ld {n : Nat} {agg : Bool} {x : ASrc} (hc : chkA P cx (.ld n agg x) op = true) (hs : eff at_ s.E s.H (.ld n agg x) = some (v, ws)) (h : SG g cx s w a) (hn : Goes at_ cx g s w a dst v ws next) : (⟨dst, op, ty, pos, aft, gd⟩ : Oper).wp P a w next Q := by
  simp only [chkA] at hc
  split at hc
  · rename_i t x'
    simp only [Bool.and_eq_true, beq_iff_eq, Bool.or_eq_true] at hc
    obtain ⟨h1, h2, h3, h4⟩ := hc
    have r1 := src_rel h4 h
    simp only [eff] at hs
    split at hs
    · rename_i id o hx
      split at hs
      · rename_i e f cs ho
        simp only [chk_iff, Option.some.injEq, Prod.mk.injEq, Nat.ble_eq] at hs
        obtain ⟨hle, rfl, rfl⟩ := hs
        rw [hx] at r1
        generalize hcv : a.eval x' = cv at r1
        cases r1 with
        | ptr _ _ hA =>
          obtain ⟨arr, fz, hb, hok⟩ := h.hr.obj _ _ _ _ (cells?_some ho)
          have hlen := hok.len
          have hrow := obj_part hok hle
          have hv := loaded_rel (agg := agg) hrow (by
            rcases h3 with h3 | h3
            · exact .inl h3
            · right; simp; omega)
          refine goes_value h ?_ hv hn
          have := run_load_row (P := P) (w := w) (b := g.ρ id) (o := o) (vs := (arr.toList.drop o).take n) h1 h2 h3 (by simp; omega) (fun j u hj => part_cells hb o n j u hj)
          simp [execOp, hcv, this]
      · simp at hs
    · simp at hs
  · simp at hc

theorem op_ext {i : Nat} {x : ASrc} (hc : chkA P cx (.ext i x) op = true) (hs : eff at_ s.E s.H (.ext i x) = some (v, ws)) (h : SG g cx s w a) (hn : Goes at_ cx g s w a dst v ws next) : (⟨dst, op, ty, pos, aft, gd⟩ : Oper).wp P a w next Q := by
  simp only [chkA] at hc
  split at hc
  · rename_i x' i'
    simp only [Bool.and_eq_true, beq_iff_eq] at hc
    obtain ⟨rfl, h2⟩ := hc
    have r1 := src_rel h2 h
    simp only [eff] at hs
    split at hs
    · rename_i vs hx
      split at hs
      · rename_i v' hv'
        simp only [Option.some.injEq, Prod.mk.injEq] at hs
        obtain ⟨rfl, rfl⟩ := hs
        rw [hx] at r1
        generalize hcv : a.eval x' = cv at r1
        cases r1 with
        | tup _ cvs hl hv =>
          have hlt : i < cvs.size := by rw [← hl]; exact (List.getElem?_eq_some_iff.1 hv').1
          have h2 : cvs[i]? = some cvs[i] := Array.getElem?_eq_getElem hlt
          exact goes_value h (cv := cvs[i]) (by simp [execOp, hcv, Instr.extract, h2]) (hv _ _ _ hv' h2) hn
      · simp at hs
    · simp at hs
  · simp at hc

theorem op_nck {x : ASrc} (hc : chkA P cx (.nck x) op = true) (hs : eff at_ s.E s.H (.nck x) = some (v, ws)) (h : SG g cx s w a) (hn : Goes at_ cx g s w a dst v ws next) : (⟨dst, op, ty, pos, aft, gd⟩ : Oper).wp P a w next Q := by
  simp only [chkA] at hc
  split at hc
  · rename_i x'
    have r1 := src_rel hc h
    simp only [eff] at hs
    split at hs
    · rename_i id o hx
      simp only [Option.some.injEq, Prod.mk.injEq] at hs
      obtain ⟨rfl, rfl⟩ := hs
      rw [hx] at r1
      generalize hcv : a.eval x' = cv at r1
      have r1' := r1
      cases r1
      exact goes_value h (by simp [execOp, hcv]) r1' hn
    · rename_i f cs hx
      simp only [Option.some.injEq, Prod.mk.injEq] at hs
      obtain ⟨rfl, rfl⟩ := hs
      rw [hx] at r1
      generalize hcv : a.eval x' = cv at r1
      have r1' := r1
      cases r1
      exact goes_value h (by simp [execOp, hcv]) r1' hn
    · simp at hs
  · simp at hc

theorem op_mkf {f : Nat} {cs : List ASrc} (hc : chkA P cx (.mkf f cs) op = true) (hs : eff at_ s.E s.H (.mkf f cs) = some (v, ws)) (h : SG g cx s w a) (hn : Goes at_ cx g s w a dst v ws next) : (⟨dst, op, ty, pos, aft, gd⟩ : Oper).wp P a w next Q := by
  simp only [chkA] at hc
  split at hc
  · rename_i f' first ys
    simp only [Bool.and_eq_true, beq_iff_eq] at hc
    obtain ⟨rfl, h1, h2⟩ := hc
    obtain rfl : first = #[] := by simpa using h1
    simp only [eff, Option.some.injEq, Prod.mk.injEq] at hs
    obtain ⟨rfl, rfl⟩ := hs
    obtain ⟨k1, k2⟩ := srcs_rel h cs ys.toList h2
    refine goes_value h (cv := .func (.func f) #[] (ys.map a.eval)) (by simp [execOp, Instr.makeFunc]) (.fn _ _ _ (by simp [k1]) (fun i c cv hc hcv => k2 i c cv hc (by simpa using hcv))) hn
  · simp at hc

theorem bytesN_rel : ∀ {cs : List D} {us : List Value} {l : List Nat}, Row g cs us → bytesN cs = some l → ∃ ns : List Int, us = ns.map (Value.int .u8) ∧ (ns.map fun n => UInt8.ofNat n.toNat).map (·.toNat) = l ∧ ns.length = cs.length
  | [], us, l, h, hb => by
    simp only [bytesN, Option.some.injEq] at hb
    subst hb
    have : us = [] := by simpa using h.len.symm
    exact ⟨[], by simp [this], rfl, rfl⟩
  | c :: cs, [], l, h, hb => by have := h.len; simp at this
  | c :: cs, u :: us, l, h, hb => by
    simp only [bytesN] at hb
    split at hb
    · rename_i n l' h1 h2
      obtain rfl := Option.some.inj hb
      obtain ⟨ns, k1, k2, k3⟩ := bytesN_rel (cs := cs) (us := us) ⟨by simpa using h.len, fun c hc => h.one c (List.mem_cons_of_mem _ hc), fun i c cv hc hcv => h.rel (i + 1) c cv (by simpa using hc) (by simpa using hcv)⟩ h2
      have r := h.rel 0 c u rfl rfl
      unfold byteN at h1
      split at h1
      · rename_i m
        obtain rfl := Option.some.inj h1
        cases r with
        | int _ _ hr =>
        refine ⟨(m : Int) :: ns, by simp [k1], ?_, by simp [k3]⟩
        have hm : m < 256 := by
          have := hr.2
          simp [IntKind.max, IntKind.signed, IntKind.bits] at this
          omega
        simp only [List.map_cons, k2]
        congr 1
        simp [UInt8.toNat_ofNat', Nat.mod_eq_of_lt hm]
      · simp at h1
    · simp at hb

theorem toList_foldl_push (ns : List Int) : ∀ b : ByteArray, (ns.foldl (fun (r : ByteArray) n => r.push (UInt8.ofNat n.toNat)) b).data.toList = b.data.toList ++ ns.map fun n => UInt8.ofNat n.toNat := by
  induction ns with
  | nil => intro b; simp
  | cons n ns ih => intro b; rw [List.foldl_cons, ih]; simp [ByteArray.push]
theorem empty_data : ByteArray.empty.data.toList = [] := rfl

theorem op_b2s {x : ASrc} (hc : chkA P cx (.b2s x) op = true) (hs : eff at_ s.E s.H (.b2s x) = some (v, ws)) (h : SG g cx s w a) (hn : Goes at_ cx g s w a dst v ws next) : (⟨dst, op, ty, pos, aft, gd⟩ : Oper).wp P a w next Q := by
  simp only [chkA] at hc
  split at hc
  · rename_i t1 t2 x'
    simp only [Bool.and_eq_true] at hc
    obtain ⟨h1, h2, h3⟩ := hc
    have r1 := src_rel h3 h
    have u2 := strT_facts h2
    split at h1
    · rename_i e u1
      simp only [Bool.and_eq_true, beq_iff_eq] at h1
      obtain ⟨h1, hsz⟩ := h1
      have u3 := intK_facts h1
      simp only [eff] at hs
      split at hs
      · rename_i q cs hcs
        simp only [chk_iff, Option.map_eq_some_iff, Prod.mk.injEq, lenL_eq, Nat.zero_add, Tr.beq_iff, decide_eq_true_eq] at hs
        obtain ⟨hlen, l, hl, rfl, rfl⟩ := hs
        generalize hcv : a.eval x' = cv at r1
        unfold slCells at hcs
        split at hcs
        · rename_i hx
          rw [hx] at r1
          simp only [Option.some.injEq, Prod.mk.injEq] at hcs
          obtain ⟨rfl, rfl⟩ := hcs
          simp only [bytesN, Option.some.injEq] at hl
          subst hl
          cases r1
          exact goes_value h (cv := .string .empty) (by simp [execOp, hcv, run_convert_bytes_string w _ _ _ _ _ _ u1 u3 u2, Conv.bytesToString]) (.str _ _ rfl (by simp [maxI])) hn
        · rename_i hx
          rw [hx] at r1
          simp only [Option.some.injEq, Prod.mk.injEq] at hcs
          obtain ⟨rfl, rfl⟩ := hcs
          simp only [bytesN, Option.some.injEq] at hl
          subst hl
          cases r1
          exact goes_value h (cv := .string .empty) (by simp [execOp, hcv, run_convert_bytes_string w _ _ _ _ _ _ u1 u3 u2, Conv.bytesToString, loadCells, loadCellsFrom]) (.str _ _ rfl (by simp [maxI])) hn
        · rename_i id off len sz cap hx
          rw [hx] at r1
          split at hcs
          · rename_i e' f cs' ho
            simp only [chk_iff, Option.some.injEq, Prod.mk.injEq, Nat.ble_eq] at hcs
            obtain ⟨hle, rfl, rfl⟩ := hcs
            cases r1 with
            | sl _ _ _ _ _ c hA hz hcap hm hk =>
            obtain ⟨arr, fz, hb, hok⟩ := h.hr.obj _ _ _ _ (cells?_some ho)
            have hal := hok.len
            have hrow := obj_part hok hle
            obtain ⟨ns, k1, k2, k3⟩ := bytesN_rel hrow hl
            have hnl : ns.length = len := k3.trans hlen
            have hcells : (loadCells ⟨g.ρ id, off, none⟩ len).run P w = .ok (ns.map (Value.int .u8)).toArray w := by
              have hll : len = (ns.map (Value.int .u8)).length := by simp [hnl]
              rw [hll]
              refine run_loadCells_list w _ _ ?_
              intro j v hj
              rw [Addr.add_lit]
              rw [← k1] at hj
              exact part_cells hb off _ j v hj
            have hss : (ns.foldl (fun (r : ByteArray) n => r.push (UInt8.ofNat n.toNat)) ByteArray.empty).data.toList = ns.map fun n => UInt8.ofNat n.toNat := by
              rw [toList_foldl_push, empty_data]; simp
            refine goes_value h (cv := .string (ns.foldl (fun (r : ByteArray) n => r.push (UInt8.ofNat n.toNat)) ByteArray.empty)) ?_ (.str _ _ ?_ ?_) hn
            · simp [execOp, hcv, run_convert_bytes_string w _ _ _ _ _ _ u1 u3 u2, run_bytesToString w _ _ _ _ hcells]
            · rw [hss]; exact k2
            · rw [← size_data, hss, List.length_map, hnl]; omega
          · simp at hcs
        · simp at hcs
      · simp at hs
    · simp at h1
  · simp at hc
end
end Go.DM
