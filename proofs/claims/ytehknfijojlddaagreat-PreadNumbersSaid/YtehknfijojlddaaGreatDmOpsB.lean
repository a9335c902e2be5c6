/-
  Operations that only compute, one by one.
-/
import Derived.Test.YtehknfijojlddaaGreatDmOpsA
namespace Go.DM
set_option autoImplicit false
set_option linter.unusedSimpArgs false
set_option linter.unusedVariables false

def lenT (P : Program) (st : Bool) (t : TypeId) : Bool := match st, P.underlying t with | true, some .string => true | false, some (.slice _) => true | _, _ => false
/-- types of which the machine knows when two values are the same -/
def eqT (P : Program) (kk : Nat) (t : TypeId) : Bool := match kk, P.underlying t with | 0, some .bool => true | 1, some (.pointer _) => true | 2, some (.slice _) => true | 3, some (.map _ _) => true | 4, some (.func _ _ _) => true | _, _ => false
def fieldOK (P : Program) (t : TypeId) (f off : Nat) (k : Field → Bool) : Bool := match P.underlying t with | some (.struct fs) => (match fs[f]? with | some fd => (fd.offset == off) && k fd | none => false) | _ => false
def isNilC : ASrc → Bool
  | .c .nilp | .c .nils | .c .nilm | .c .nilf => true
  | _ => false

def chkA (P : Program) (cx : Cx) (o : IOp) (m : Op) : Bool := match o with
  | .mov x => (match m with | .move y => srcOK cx x y | .assign y => srcOK cx x y | _ => false)
  | .pick c x y => (match m with | .pick c' x' y' => srcOK cx c c' && (srcOK cx x x' && srcOK cx y y') | _ => false)
  | .bin o x y => (match m with | .binOp o' _ x' y' _ => decide (o = o') && (srcOK cx x x' && srcOK cx y y') | _ => false)
  | .un o x => (match m with | .unOp o' _ x' => decide (o = o') && srcOK cx x x' | _ => false)
  | .cvi k x => (match m with | .convert u t x' => (P.underlying u).isSome && (intK P t k && srcOK cx x x') | _ => false)
  | .cvs x => (match m with | .convert u t x' => (P.underlying u).isSome && (strT P t && srcOK cx x x') | _ => false)
  | .b2s x => (match m with | .convert u t x' => (match P.underlying u with | some (.slice e) => intK P e .u8 && (sizeT P e == some 1) | _ => false) && (strT P t && srcOK cx x x') | _ => false)
  | .i2s x => (match m with | .convert u t x' => (P.underlying u).isSome && (strT P t && srcOK cx x x') | _ => false)
  | .len st x => (match callB m with | some (.len, [x'], [t]) => lenT P st t && srcOK cx x x' | _ => false)
  | .idx x i => (match m with | .index t x' i' => strT P t && (srcOK cx x x' && srcOK cx i i') | _ => false)
  | .ixa sz x i => (match m with | .indexAddr t x' i' => sliceT P t sz && (srcOK cx x x' && srcOK cx i i') | _ => false)
  | .ixp n sz x i => (match m with | .indexAddr t x' i' => (match P.underlying t with | some (.array n' e) => (n == n') && (sizeT P e == some sz) | _ => false) && (srcOK cx x x' && srcOK cx i i') | _ => false)
  | .subs x lo hi => (match m with | .slice t x' lo' hi' none => strT P t && (srcOK cx x x' && (osrcOK cx lo lo' && osrcOK cx hi hi')) | _ => false)
  | .subl sz x lo hi => (match m with | .slice t x' lo' hi' none => sliceT P t sz && (srcOK cx x x' && (osrcOK cx lo lo' && osrcOK cx hi hi')) | _ => false)
  | .fld off n agg x => (match m with | .field t x' f => fieldOK P t f off (fun fd => (sizeT P fd.type == some n) && ((isAggT P fd.type == some agg) && (agg || n == 1))) && srcOK cx x x' | _ => false)
  | .fad off x => (match m with | .fieldAddr t x' f => fieldOK P t f off (fun fd => nonZeroT P fd.type) && srcOK cx x x' | _ => false)
  | .ld n agg x => (match m with | .load t x' => (sizeT P t == some n) && ((isAggT P t == some agg) && ((agg || n == 1) && srcOK cx x x')) | _ => false)
  | .ext i x => (match m with | .extract x' i' => i == i' && srcOK cx x x' | _ => false)
  | .nck x => (match m with | .nilCheck x' => srcOK cx x x' | _ => false)
  | .mx mn x y => (match callB m with | some (.min, [x', y'], _) => mn && (srcOK cx x x' && srcOK cx y y') | some (.max, [x', y'], _) => !mn && (srcOK cx x x' && srcOK cx y y') | _ => false)
  | .mkf f cs => (match m with | .makeFunc (.func f') first ys => f == f' && (first.isEmpty && srcsOK cx cs ys.toList) | _ => false)
  | .eq kk neg x y => (match m with | .binOp o t x' y' _ => eqT P kk t && (decide (o = if neg then .neq else .eql) && (srcOK cx x x' && srcOK cx y y')) | _ => false)
  | _ => false

section
variable {g : Gh} {cx : Cx} {s : FS} {w : World} {a : Act} {P : Program} {at_ : Nat} {v : D} {ws : List (Nat × Option Obj)} {next : Act → World → Prop} {Q : Exit → Act → World → Prop}
  {dst : Option Nat} {op : Op} {ty : TypeId} {pos : String} {aft : Array Edge} {gd : Option (Nat × Bool)}

theorem cell_of_heap {b : Nat} {arr : Array Value} {e : TypeId} {fz : Nat × Nat} (h : w.heap[b]? = some (.cells arr e fz)) (j : Nat) : w.cell? ⟨b, j, none⟩ = arr[j]? := by
  simp [World.cell?, h]

theorem loaded_rel {agg : Bool} {cs : List D} {vs : List Value} (h : Row g cs vs) (hg : agg = true ∨ cs.length = 1) : VRel g (loaded agg cs) (if agg then .agg vs.toArray else vs.headD undef) := by
  obtain ⟨hl, h1, hv⟩ := h
  cases agg with
  | true =>
    simp only [loaded, cond_true, if_true]
    exact .agg _ _ (by simpa using hl) h1 (fun i c cv hc hcv => hv i c cv hc (by simpa using hcv))
  | false =>
    have hg : cs.length = 1 := by simpa using hg
    match cs, vs, hl, hg with
    | [c], [v], _, _ => exact hv 0 c v rfl rfl

theorem run_load_row {t : TypeId} {n : Nat} {agg : Bool} {b o : Nat} {vs : List Value} (hsz : sizeT P t = some n) (hag : isAggT P t = some agg) (hg : agg = true ∨ n = 1) (hl : vs.length = n)
    (hw : ∀ (j : Nat) v, vs[j]? = some v → w.cell? ⟨b, o + j, none⟩ = some v) :
    (Instr.loadAt t (.pointer (some ⟨b, o, none⟩))).run P w = .ok (if agg then .agg vs.toArray else vs.headD undef) w := by
  cases agg with
  | true =>
    have := run_loadCells_list (P := P) w ⟨b, o, none⟩ vs (fun j v hj => by rw [Addr.add_lit]; exact hw j v hj)
    rw [hl] at this
    simp [Instr.loadAt, Instr.sureAddr, loadVar, run_isAggT hag, run_sizeT hsz, this]
  | false =>
    have hg : n = 1 := by simpa using hg
    subst hg
    match vs, hl with
    | [v], _ =>
      have := hw 0 v rfl
      simp only [Nat.add_zero] at this
      simp [Instr.loadAt, Instr.sureAddr, loadVar, run_isAggT hag, this]

theorem cells?_some {H : Nat → Option Obj} {id : Nat} {e : Nat} {f : Bool} {cs : List D} (h : cells? H id = some (e, f, cs)) : H id = some (.cells e f cs) := by
  unfold cells? at h
  split at h
  · rename_i hh
    simp only [Option.some.injEq, Prod.mk.injEq] at h
    obtain ⟨rfl, rfl, rfl⟩ := h
    exact hh
  · simp at h
theorem map?_some {H : Nat → Option Obj} {id : Nat} {es : List (D × D)} (h : map? H id = some es) : H id = some (.map es) := by
  unfold map? at h
  split at h
  · rename_i hh
    obtain rfl := Option.some.inj h
    exact hh
  · simp at h

/-- a part of an object's row -/
theorem obj_part {id : Nat} {full : Bool} {cs : List D} {arr : Array Value} {fz : Nat × Nat} (h : ObjOK g id full cs arr fz) {o n : Nat} (hle : o + n ≤ cs.length) :
    Row g ((cs.drop o).take n) ((arr.toList.drop o).take n) := by
  have hlen := h.len
  refine ⟨by simp; omega, fun c hc => h.one c (List.mem_of_mem_drop (List.mem_of_mem_take hc)), ?_⟩
  intro i c cv hc hcv
  simp only [List.getElem?_take, List.getElem?_drop] at hc hcv
  split at hc
  · rename_i hi
    simp only [hi, if_true] at hcv
    exact h.rel _ _ _ hc (by simpa using hcv)
  · simp at hc

theorem part_cells {b : Nat} {arr : Array Value} {e : TypeId} {fz : Nat × Nat} (h : w.heap[b]? = some (.cells arr e fz)) (o n : Nat) (j : Nat) (v : Value) (hj : ((arr.toList.drop o).take n)[j]? = some v) : w.cell? ⟨b, o + j, none⟩ = some v := by
  rw [cell_of_heap h]
  simp only [List.getElem?_take, List.getElem?_drop] at hj
  split at hj
  · simpa using hj
  · simp at hj

theorem srcs_rel (h : SG g cx s w a) : ∀ (xs : List ASrc) (ys : List Operand), srcsOK cx xs ys = true → xs.length = ys.length ∧
    ∀ (i : Nat) v cv, (xs.map (·.ev s.E))[i]? = some v → (ys.map a.eval)[i]? = some cv → VRel g v cv
  | [], [], _ => ⟨rfl, by simp⟩
  | x :: xs, y :: ys, hp => by
    simp only [srcsOK, Bool.and_eq_true] at hp
    obtain ⟨k1, k2⟩ := srcs_rel h xs ys hp.2
    refine ⟨by simp [k1], ?_⟩
    intro i v cv hv hcv
    cases i with
    | zero => simp at hv hcv; subst hv hcv; exact src_rel hp.1 h
    | succ i => exact k2 i v cv (by simpa using hv) (by simpa using hcv)
  | [], _ :: _, hp => by simp [srcsOK] at hp
  | _ :: _, [], hp => by simp [srcsOK] at hp

theorem op_mov {x : ASrc} (hc : chkA P cx (.mov x) op = true) (hs : eff at_ s.E s.H (.mov x) = some (v, ws)) (h : SG g cx s w a) (hn : Goes at_ cx g s w a dst v ws next) : (⟨dst, op, ty, pos, aft, gd⟩ : Oper).wp P a w next Q := by
  simp only [eff, Option.some.injEq, Prod.mk.injEq] at hs
  obtain ⟨rfl, rfl⟩ := hs
  simp only [chkA] at hc
  split at hc
  · exact goes_value h (by simp [execOp]) (src_rel hc h) hn
  · exact goes_value h (by simp [execOp]) (src_rel hc h) hn
  · simp at hc

theorem op_pick {c x y : ASrc} (hc : chkA P cx (.pick c x y) op = true) (hs : eff at_ s.E s.H (.pick c x y) = some (v, ws)) (h : SG g cx s w a) (hn : Goes at_ cx g s w a dst v ws next) : (⟨dst, op, ty, pos, aft, gd⟩ : Oper).wp P a w next Q := by
  simp only [chkA] at hc
  split at hc
  · rename_i c' x' y'
    simp only [Bool.and_eq_true] at hc
    obtain ⟨h1, h2, h3⟩ := hc
    have r1 := src_rel h1 h
    have r2 := src_rel h2 h
    have r3 := src_rel h3 h
    simp only [eff] at hs
    split at hs
    · rename_i t ht
      simp only [Option.some.injEq, Prod.mk.injEq] at hs
      obtain ⟨rfl, rfl⟩ := hs
      rw [ht] at r1
      generalize e1 : a.eval c' = cc at r1
      cases r1
      refine goes_value h (cv := if t then a.eval x' else a.eval y') (by simp [execOp, e1, asBool]) ?_ hn
      cases t
      · exact r3
      · exact r2
    · simp at hs
  · simp at hc

theorem orS_some {a b : Option D} {v : D} (h : orS a b = some v) : a = some v ∨ b = some v := by
  cases a with
  | some x => exact .inl h
  | none => exact .inr h
theorem eqS_eq {x y : D} (h : eqS x y = true) : x = y := by
  cases x <;> cases y <;> simp [eqS] at h
  · rfl
  · obtain ⟨h1, h2⟩ := h
    rw [sameK_eq h1]
    rw [eqI_eq] at h2
    rw [of_decide_eq_true h2]
  · rw [sameK_eq h.1, h.2]
theorem eqSO_eq {x y : SOp} (h : eqSO x y = true) : x = y := by
  cases x <;> cases y <;> simp [eqSO] at h
  · rw [h]
  · rw [h]
  · rw [sameK_eq h]
theorem symL_ok {σ : Nat → Int} {o : SOp} {x y r : D} : ∀ {l : List SRow}, (∀ r ∈ l, r.ok σ) → symL o x y l = some r → o.ev (conc σ x) (conc σ y) = some (conc σ r)
  | [], _, h => by simp [symL] at h
  | q :: l, hl, h => by
    simp only [symL] at h
    cases hc : (eqS q.x x && (eqS q.y y && eqSO q.o o)) with
    | true =>
      rw [hc] at h
      simp only [cond_true, Option.some.injEq] at h
      simp only [Bool.and_eq_true] at hc
      have := hl q (by simp)
      unfold SRow.ok at this
      rw [eqS_eq hc.1, eqS_eq hc.2.1, eqSO_eq hc.2.2, h] at this
      exact this
    | false =>
      rw [hc] at h
      exact symL_ok (fun r hr => hl r (by simp [hr])) h
theorem symOp_ok (sg : Sig) {o : SOp} {x y r : D} (h : symOp o x y = some r) : o.ev (conc sg.1 x) (conc sg.1 y) = some (conc sg.1 r) := symL_ok sg.2 h

theorem op_bin {o : BinOp} {x y : ASrc} (hc : chkA P cx (.bin o x y) op = true) (hs : eff at_ s.E s.H (.bin o x y) = some (v, ws)) (h : SG g cx s w a) (hn : Goes at_ cx g s w a dst v ws next) : (⟨dst, op, ty, pos, aft, gd⟩ : Oper).wp P a w next Q := by
  simp only [chkA] at hc
  split at hc
  · rename_i o' t x' y' t'
    simp only [Bool.and_eq_true, decide_eq_true_eq] at hc
    obtain ⟨rfl, h1, h2⟩ := hc
    have r1 := src_rel h1 h
    have r2 := src_rel h2 h
    simp only [eff, Option.map_eq_some_iff] at hs
    obtain ⟨v', hv, hs⟩ := hs
    simp only [Prod.mk.injEq] at hs
    obtain ⟨rfl, rfl⟩ := hs
    generalize hcx : a.eval x' = cxx at r1
    generalize hcy : a.eval y' = cy at r2
    have key : ∀ (o : BinOp) X Y V, binV o X Y = some V → VRel g X cxx → VRel g Y cy → ∃ cv, (execOp a.eval ⟨dst, .binOp o t x' y' t', ty, pos, aft, gd⟩).run P w = .ok (.value cv) w ∧ VRel g V cv := by
      intro o X Y V hv r1 r2
      unfold binV at hv
      split at hv
      · rename_i k p k' q
        cases r1 with
        | int _ _ hp =>
        cases r2 with
        | int _ _ hq =>
        split at hv
        · simp only [chk_iff, ltI_eq, Bool.not_eq_true', decide_eq_false_iff_not, Option.some.injEq] at hv
          obtain ⟨hq0, rfl⟩ := hv
          obtain ⟨e1, e2, e3, e4⟩ := shift_rel (g := g) (P := P) (k' := k') (by omega : 0 ≤ q) hp
          refine ⟨.int k (shlI k p q), ?_, e3⟩
          simp [execOp, hcx, hcy, eqGuard, binOp, e1]
        · simp only [chk_iff, ltI_eq, Bool.not_eq_true', decide_eq_false_iff_not, Option.some.injEq] at hv
          obtain ⟨hq0, rfl⟩ := hv
          obtain ⟨e1, e2, e3, e4⟩ := shift_rel (g := g) (P := P) (k' := k') (by omega : 0 ≤ q) hp
          refine ⟨.int k (shrI k p q), ?_, e4⟩
          simp [execOp, hcx, hcy, eqGuard, binOp, e2]
        · rename_i hs1 hs2
          rw [chk_iff] at hv
          obtain ⟨hk, hv⟩ := hv
          obtain rfl := sameK_eq hk
          obtain ⟨cv, f1, f2⟩ := binInt_rel (g := g) (P := P) hv hp
          have f1 := f1 w
          refine ⟨cv, ?_, f2⟩
          cases o <;> simp_all [execOp, eqGuard, binOp]
      · rename_i p q
        cases r1 with
        | str _ sx hlx hmx =>
        cases r2 with
        | str _ sy hly hmy =>
        subst hlx hly
        obtain ⟨cv, f1, f2⟩ := binStr_rel (g := g) (P := P) hv
        have f1 := f1 w
        refine ⟨cv, ?_, f2⟩
        cases o <;> simp_all [execOp, eqGuard, binOp]
      · simp at hv
    rcases orS_some hv with hv | hv
    · obtain ⟨cv, f1, f2⟩ := key _ _ _ _ hv r1 r2
      exact goes_value h f1 f2 hn
    · obtain ⟨cv, f1, f2⟩ := key _ _ _ _ (symOp_ok g.s hv) r1.conc r2.conc
      exact goes_value h f1 f2.unconc hn
  · simp at hc

theorem op_un {o : UnOp} {x : ASrc} (hc : chkA P cx (.un o x) op = true) (hs : eff at_ s.E s.H (.un o x) = some (v, ws)) (h : SG g cx s w a) (hn : Goes at_ cx g s w a dst v ws next) : (⟨dst, op, ty, pos, aft, gd⟩ : Oper).wp P a w next Q := by
  simp only [chkA] at hc
  split at hc
  · rename_i o' t x'
    simp only [Bool.and_eq_true, decide_eq_true_eq] at hc
    obtain ⟨rfl, h3⟩ := hc
    have r1 := src_rel h3 h
    simp only [eff, Option.map_eq_some_iff] at hs
    obtain ⟨v', hv, hs⟩ := hs
    simp only [Prod.mk.injEq] at hs
    obtain ⟨rfl, rfl⟩ := hs
    generalize hcv : a.eval x' = cv at r1
    have key : ∀ (o : UnOp) X V, unV o X = some V → VRel g X cv → ∃ cv', (execOp a.eval ⟨dst, .unOp o t x', ty, pos, aft, gd⟩).run P w = .ok (.value cv') w ∧ VRel g V cv' := by
      intro o X V hv r1
      unfold unV at hv
      split at hv
      · rename_i b
        cases Option.some.inj hv
        cases r1
        exact ⟨.bool (!b), by simp [execOp, hcv, Op.unary], .bool _⟩
      · rename_i k n
        cases Option.some.inj hv
        cases r1
        exact ⟨.int k (k.wrap (0 - n)), by simp [execOp, hcv, Op.unary, Op.intArith], .int _ _ (wrap_range _ _)⟩
      · rename_i k n
        cases Option.some.inj hv
        cases r1
        exact ⟨.int k (bitsI .xor k (if k.signed then -1 else k.max) n), by simp [execOp, hcv, Op.unary, Op.intBits, bitsI], .int _ _ (wrap_range _ _)⟩
      · simp at hv
    rcases orS_some hv with hv | hv
    · obtain ⟨cv, f1, f2⟩ := key _ _ _ hv r1
      exact goes_value h f1 f2 hn
    · obtain ⟨cv, f1, f2⟩ := key _ _ _ (symOp_ok g.s hv) r1.conc
      exact goes_value h f1 f2.unconc hn
  · simp at hc

theorem op_cvi {k : IntKind} {x : ASrc} (hc : chkA P cx (.cvi k x) op = true) (hs : eff at_ s.E s.H (.cvi k x) = some (v, ws)) (h : SG g cx s w a) (hn : Goes at_ cx g s w a dst v ws next) : (⟨dst, op, ty, pos, aft, gd⟩ : Oper).wp P a w next Q := by
  simp only [chkA] at hc
  split at hc
  · rename_i t1 t2 x'
    simp only [Bool.and_eq_true] at hc
    obtain ⟨h1, h2, h3⟩ := hc
    have r1 := src_rel h3 h
    simp only [eff, Option.map_eq_some_iff] at hs
    obtain ⟨v', hv, hs⟩ := hs
    simp only [Prod.mk.injEq] at hs
    obtain ⟨rfl, rfl⟩ := hs
    obtain ⟨d1, e1⟩ := Option.isSome_iff_exists.1 h1
    have e2 := intK_facts h2
    generalize hcv : a.eval x' = cv at r1
    have key : ∀ X V, SOp.ev (.c k) X .undef = some V → VRel g X cv → ∃ cv', (execOp a.eval ⟨dst, .convert t1 t2 x', ty, pos, aft, gd⟩).run P w = .ok (.value cv') w ∧ VRel g V cv' := by
      intro X V hv r1
      simp only [SOp.ev] at hv
      split at hv
      · rename_i k' n
        cases Option.some.inj hv
        cases r1
        refine ⟨.int k (k.wrap n), ?_, .int _ _ (wrap_range _ _)⟩
        simp only [execOp, hcv, convert]
        cases d1 <;> simp [run_underlying e1, run_underlying e2, Conv.intToInt]
      · simp at hv
    rcases orS_some hv with hv | hv
    · obtain ⟨cv, f1, f2⟩ := key _ _ hv r1
      exact goes_value h f1 f2 hn
    · obtain ⟨cv, f1, f2⟩ := key _ _ (symOp_ok g.s hv) r1.conc
      exact goes_value h f1 f2.unconc hn
  · simp at hc

theorem op_cvs {x : ASrc} (hc : chkA P cx (.cvs x) op = true) (hs : eff at_ s.E s.H (.cvs x) = some (v, ws)) (h : SG g cx s w a) (hn : Goes at_ cx g s w a dst v ws next) : (⟨dst, op, ty, pos, aft, gd⟩ : Oper).wp P a w next Q := by
  simp only [chkA] at hc
  split at hc
  · rename_i t1 t2 x'
    simp only [Bool.and_eq_true] at hc
    obtain ⟨h1, h2, h3⟩ := hc
    have r1 := src_rel h3 h
    simp only [eff] at hs
    split at hs
    · rename_i l hx
      simp only [Option.some.injEq, Prod.mk.injEq] at hs
      obtain ⟨rfl, rfl⟩ := hs
      rw [hx] at r1
      obtain ⟨d1, e1⟩ := Option.isSome_iff_exists.1 h1
      have e2 := strT_facts h2
      generalize hcv : a.eval x' = cv at r1
      have r1' := r1
      cases r1
      refine goes_value h (cv := .string _) ?_ r1' hn
      simp only [execOp, hcv, convert]
      cases d1 <;> simp [run_underlying e1, run_underlying e2]
    · simp at hs
  · simp at hc

theorem op_i2s {x : ASrc} (hc : chkA P cx (.i2s x) op = true) (hs : eff at_ s.E s.H (.i2s x) = some (v, ws)) (h : SG g cx s w a) (hn : Goes at_ cx g s w a dst v ws next) : (⟨dst, op, ty, pos, aft, gd⟩ : Oper).wp P a w next Q := by
  simp only [chkA] at hc
  split at hc
  · rename_i t1 t2 x'
    simp only [Bool.and_eq_true] at hc
    obtain ⟨h1, h2, h3⟩ := hc
    have r1 := src_rel h3 h
    simp only [eff] at hs
    split at hs
    · rename_i k' n hx
      simp only [Option.some.injEq, Prod.mk.injEq] at hs
      obtain ⟨rfl, rfl⟩ := hs
      rw [hx] at r1
      obtain ⟨d1, e1⟩ := Option.isSome_iff_exists.1 h1
      have e2 := strT_facts h2
      generalize hcv : a.eval x' = cv at r1
      cases r1
      refine goes_value h (cv := .string (Utf8.encode n)) ?_ (.str _ _ rfl ?_) hn
      · simp only [execOp, hcv, convert]
        cases d1 <;> simp [run_underlying e1, run_underlying e2, Conv.intToString]
      · have := encode_size_le n
        unfold maxI
        omega
    · simp at hs
  · simp at hc

theorem lenT_str {t : TypeId} (h : lenT P true t = true) : P.underlying t = some .string := by
  unfold lenT at h; split at h <;> first | assumption | contradiction
theorem lenT_sl {t : TypeId} (h : lenT P false t = true) : ∃ e, P.underlying t = some (.slice e) := by
  unfold lenT at h; split at h <;> first | contradiction | exact ⟨_, by assumption⟩
end
end Go.DM
