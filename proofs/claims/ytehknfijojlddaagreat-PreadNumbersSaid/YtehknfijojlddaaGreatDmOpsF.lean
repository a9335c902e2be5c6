/-
  Maps, comparisons, the greater and the smaller of two.
-/
import Derived.Test.YtehknfijojlddaaGreatDmOpsE
import Derived.WideKeyRuns
import Derived.WalkSpells
namespace Go.DM
set_option autoImplicit false
set_option linter.unusedSimpArgs false
set_option linter.unusedVariables false

/-- a key's type: numbers, texts, so many of them -/
def keyT (P : Program) (t kk n : Nat) : Bool := match kk, P.underlying t with
  | 0, some (.int _) => true
  | 1, some .string => true
  | 2, some (.array n' e) => (n == n') && ((sizeT P e == some 1) && (match P.underlying e with | some (.int _) => true | _ => false))
  | 3, some (.array n' e) => (n == n') && ((sizeT P e == some 1) && (match P.underlying e with | some .string => true | _ => false))
  | _, _ => false
def mapT (P : Program) (t kk n : Nat) (k : Nat → Bool) : Bool := match P.underlying t with | some (.map kt e) => keyT P kt kk n && k e | _ => false
def zeroV (P : Program) (e : Nat) (zero : List D) (agg : Bool) : Bool := zeroOK P e zero && ((isAggT P e == some agg) && (agg || zero.length == 1) && (match P.info? e with | some i => (match i.zero with | some z => (match z with | .agg _ => agg | .tuple _ => false | _ => !agg) | none => false) | none => false))

def chkC (P : Program) (cx : Cx) (o : IOp) (m : Op) : Bool := match o with
  | .lkp kk n zero agg ok x k => (match m with | .lookup t x' k' ok' => mapT P t kk n (fun e => zeroV P e zero agg) && ((ok == ok') && (srcOK cx x x' && srcOK cx k k')) | _ => false)
  | .mup kk n x k v => (match m with | .mapUpdate t x' k' v' => mapT P t kk n (fun _ => true) && (srcOK cx x x' && (srcOK cx k k' && srcOK cx v v')) | .insert t x' k' v' => mapT P t kk n (fun _ => true) && (srcOK cx x x' && (srcOK cx k k' && srcOK cx v v')) | _ => false)
  | .ment kk n zero agg x k => (match m with | .mapEntry t x' k' => mapT P t kk n (fun e => zeroV P e zero agg) && (srcOK cx x x' && srcOK cx k k') | _ => false)
  | .mest x i v => (match m with | .entryStore _ x' i' v' => srcOK cx x x' && (srcOK cx i i' && srcOK cx v v') | _ => false)
  | _ => false

section
variable {g g' : Gh} {cx : Cx} {s : FS} {w w' : World} {a : Act} {P : Program} {at_ : Nat} {v : D} {ws : List (Nat × Option Obj)} {next : Act → World → Prop} {Q : Exit → Act → World → Prop}
  {dst : Option Nat} {op : Op} {ty : TypeId} {pos : String} {aft : Array Edge} {gd : Option (Nat × Bool)}

theorem op_mx {mn : Bool} {x y : ASrc} (hc : chkA P cx (.mx mn x y) op = true) (hs : eff at_ s.E s.H (.mx mn x y) = some (v, ws)) (h : SG g cx s w a) (hn : Goes at_ cx g s w a dst v ws next) : (⟨dst, op, ty, pos, aft, gd⟩ : Oper).wp P a w next Q := by
  simp only [chkA] at hc
  simp only [eff] at hs
  have fin : ∀ x' y' ts (b : Builtin), op = .call ⟨.builtin b, ⟨[x', y']⟩, ts⟩ → (b = if mn then Builtin.min else Builtin.max) → srcOK cx x x' = true → srcOK cx y y' = true → (⟨dst, op, ty, pos, aft, gd⟩ : Oper).wp P a w next Q := by
    rintro x' y' ts b rfl hb h1 h2
    have r1 := src_rel h1 h
    have r2 := src_rel h2 h
    split at hs
    · rename_i k p k' q hx hy
      rw [chk_iff] at hs
      obtain ⟨hk, hs⟩ := hs
      obtain rfl := sameK_eq hk
      simp only [Option.some.injEq, Prod.mk.injEq] at hs
      obtain ⟨rfl, rfl⟩ := hs
      rw [hx] at r1
      rw [hy] at r2
      generalize hcx : a.eval x' = cxx at r1
      generalize hcy : a.eval y' = cy at r2
      cases r1 with
      | int _ _ hp =>
      cases r2 with
      | int _ _ hq =>
      cases mn with
      | true =>
        subst hb
        simp only [cond_true, ltI_eq] at hn
        have e : (cond (decide (q < p)) q p) = if q < p then q else p := by by_cases hh : q < p <;> simp [hh]
        rw [e] at hn
        refine goes_value h (cv := .int k (if q < p then q else p)) ?_ (.int _ _ (by split <;> assumption)) hn
        simp [execOp, resolve, hcx, hcy, invoke, builtin, Builtin.min_, Builtin.min2]
      | false =>
        subst hb
        simp only [cond_false, ltI_eq] at hn
        have e : (cond (decide (p < q)) q p) = if p < q then q else p := by by_cases hh : p < q <;> simp [hh]
        rw [e] at hn
        refine goes_value h (cv := .int k (if p < q then q else p)) ?_ (.int _ _ (by split <;> assumption)) hn
        simp [execOp, resolve, hcx, hcy, invoke, builtin, Builtin.max_, Builtin.max2]
    · simp at hs
  split at hc
  · rename_i x' y' ts hop
    simp only [Bool.and_eq_true] at hc
    obtain ⟨hm, h1, h2⟩ := hc
    exact fin x' y' _ .min (callB_some hop) (by simp [hm]) h1 h2
  · rename_i x' y' ts hop
    simp only [Bool.and_eq_true, Bool.not_eq_true'] at hc
    obtain ⟨hm, h1, h2⟩ := hc
    exact fin x' y' _ .max (callB_some hop) (by simp [hm]) h1 h2
  · simp at hc

theorem eqT_0 {t : Nat} (h : eqT P 0 t = true) : P.underlying t = some .bool := by unfold eqT at h; split at h <;> first | assumption | contradiction
theorem eqT_1 {t : Nat} (h : eqT P 1 t = true) : ∃ e, P.underlying t = some (.pointer e) := by unfold eqT at h; split at h <;> first | exact ⟨_, by assumption⟩ | contradiction
theorem eqT_2 {t : Nat} (h : eqT P 2 t = true) : ∃ e, P.underlying t = some (.slice e) := by unfold eqT at h; split at h <;> first | exact ⟨_, by assumption⟩ | contradiction
theorem eqT_3 {t : Nat} (h : eqT P 3 t = true) : ∃ k e, P.underlying t = some (.map k e) := by unfold eqT at h; split at h <;> first | exact ⟨_, _, by assumption⟩ | contradiction
theorem eqT_4 {t : Nat} (h : eqT P 4 t = true) : ∃ x y z, P.underlying t = some (.func x y z) := by unfold eqT at h; split at h <;> first | exact ⟨_, _, _, by assumption⟩ | contradiction

theorem equal_of {t : Nat} {x y : Value} {b : Bool} (h : ∀ (d : Nat) (w : World), (Op.equalIn (d + 1) t x y).run P w = .ok b w) (w : World) : (Op.equal t x y).run P w = .ok b w := h 9999 w

theorem op_eq {kk : Nat} {neg : Bool} {x y : ASrc} (hc : chkA P cx (.eq kk neg x y) op = true) (hs : eff at_ s.E s.H (.eq kk neg x y) = some (v, ws)) (h : SG g cx s w a) (hn : Goes at_ cx g s w a dst v ws next) : (⟨dst, op, ty, pos, aft, gd⟩ : Oper).wp P a w next Q := by
  simp only [chkA] at hc
  split at hc
  · rename_i o t x' y' t'
    simp only [Bool.and_eq_true, decide_eq_true_eq] at hc
    obtain ⟨ht, rfl, h1, h2⟩ := hc
    have r1 := src_rel h1 h
    have r2 := src_rel h2 h
    simp only [eff, Option.map_eq_some_iff, Prod.mk.injEq] at hs
    obtain ⟨b, hb, rfl, rfl⟩ := hs
    generalize hcx : a.eval x' = cxx at r1
    generalize hcy : a.eval y' = cyy at r2
    generalize x.ev s.E = xe at r1 hb
    generalize y.ev s.E = ye at r2 hb
    have fin : (execOp a.eval ⟨dst, .binOp (if neg then .neq else .eql) t x' y' t', ty, pos, aft, gd⟩).run P w = .ok (.value (.bool (cond neg (!b) b))) w → (⟨dst, .binOp (if neg then .neq else .eql) t x' y' t', ty, pos, aft, gd⟩ : Oper).wp P a w next Q :=
      fun hr => goes_value h hr (.bool _) hn
    have go : (Op.equal t cxx cyy).run P w = .ok b w → (∀ k n, cxx ≠ .int k n) → (∀ q, cxx ≠ .string q) → (∀ q, cxx ≠ .agg q) → cxx ≠ .nilIface → (∀ k n, cxx ≠ .float k n) → (∀ k n m, cxx ≠ .complex k n m) → (⟨dst, .binOp (if neg then .neq else .eql) t x' y' t', ty, pos, aft, gd⟩ : Oper).wp P a w next Q := by
      intro hq n1 n2 n3 n4 n5 n6
      refine fin ?_
      cases neg <;> cases cxx <;> first
        | (exfalso; exact n1 _ _ rfl) | (exfalso; exact n2 _ rfl) | (exfalso; exact n3 _ rfl) | (exfalso; exact n4 rfl) | (exfalso; exact n5 _ _ rfl) | (exfalso; exact n6 _ _ _ rfl)
        | (simp [execOp, hcx, hcy, eqGuard, binOp, hq]; done)
    unfold eqN at hb
    split at hb <;> (try (obtain rfl := Option.some.inj hb)) <;> (try cases r1) <;> (try cases r2)
    · have hu := eqT_0 ht
      exact go (equal_of (fun d w => by simp [Op.equalIn, run_underlying hu]) w) (by simp) (by simp) (by simp) (by simp) (by simp) (by simp)
    all_goals first
      | (exfalso; simp at hb; done)
      | (obtain ⟨e, hu⟩ := eqT_1 ht
         exact go (equal_of (fun d w => by simp [Op.equalIn, run_underlying hu]) w) (by simp) (by simp) (by simp) (by simp) (by simp) (by simp))
      | (obtain ⟨e, hu⟩ := eqT_2 ht
         exact go (equal_of (fun d w => by simp [Op.equalIn, run_underlying hu]) w) (by simp) (by simp) (by simp) (by simp) (by simp) (by simp))
      | (obtain ⟨k, e, hu⟩ := eqT_3 ht
         exact go (equal_of (fun d w => by simp [Op.equalIn, run_underlying hu]) w) (by simp) (by simp) (by simp) (by simp) (by simp) (by simp))
      | (obtain ⟨k, e, q, hu⟩ := eqT_4 ht
         exact go (equal_of (fun d w => by simp [Op.equalIn, run_underlying hu]) w) (by simp) (by simp) (by simp) (by simp) (by simp) (by simp))
      | fail
  · simp at hc
end
end Go.DM
