/-
  Functions' runs give their contracts; a closed law whose run gives true.
-/
import Derived.Test.YtehknfijojlddaaGreatDmEnd
import Derived.Below
import Derived.KernelRfl
namespace Go.DM
open Go.RowKit
set_option autoImplicit false
set_option linter.unusedSimpArgs false
set_option linter.unusedVariables false
section
variable {g : Gh} {cx : Cx} {s : FS} {w : World} {a : Act} {P : Program} {Γ : Sp} {T : Nat → Bool}

def rvSem (tmps : Array Value) : ResultVar → Sem Value
  | .tmp t => pure (tmps.getD t undef)
  | .cell a t => do loadVar t (← asAddr (tmps.getD a undef))

theorem rv_run (h : SG g cx s w a) {x : RV} {y : ResultVar} (hc : chkRV P cx x y = true) {v : D} (hv : x.ev s.E s.H = some v) : ∃ cv, (rvSem a.tmps y).run P w = .ok cv w ∧ VRel g v cv := by
  cases x with
  | t n =>
    cases y with
    | tmp m =>
      simp only [chkRV, Bool.and_eq_true, beq_iff_eq, Nat.blt_eq] at hc
      obtain ⟨rfl, hlt⟩ := hc
      simp only [RV.ev, Option.some.injEq] at hv
      subst hv
      exact ⟨_, by simp [rvSem], h.er.rel n hlt⟩
    | cell m t => simp [chkRV] at hc
  | cell n size agg =>
    cases y with
    | tmp m => simp [chkRV] at hc
    | cell m t =>
      simp only [chkRV, Bool.and_eq_true, beq_iff_eq, Bool.or_eq_true, Nat.blt_eq] at hc
      obtain ⟨⟨rfl, hlt⟩, h1, h2, h3⟩ := hc
      have r1 := h.er.rel n hlt
      simp only [RV.ev] at hv
      split at hv
      · rename_i id o hx
        rw [hx] at r1
        generalize hcv : a.tmps.getD n undef = cv at r1
        cases r1 with
        | ptr _ _ hA =>
        split at hv
        · rename_i e f cs ho
          simp only [chk_iff, Option.some.injEq, Nat.ble_eq] at hv
          obtain ⟨hle, rfl⟩ := hv
          obtain ⟨arr, fz, hb, hok⟩ := h.hr.obj _ _ _ _ (cells?_some ho)
          have hlen := hok.len
          have hv := loaded_rel (agg := agg) (obj_part hok hle) (by
            rcases h3 with h3 | h3
            · exact .inl h3
            · right; simp; omega)
          refine ⟨_, ?_, hv⟩
          have := run_load_row (P := P) (w := w) (b := g.ρ id) (o := o) (vs := (arr.toList.drop o).take size) h1 h2 h3 (by simp; omega) (fun j u hj => part_cells hb o size j u hj)
          simp only [Instr.loadAt, Instr.sureAddr] at this
          simp [rvSem, hcv, asAddr]
          simpa using this
        · simp at hv
      · simp at hv

theorem rvs_run (h : SG g cx s w a) : ∀ {xs : List RV} {ys : List ResultVar} {vs : List D}, chkRes P cx xs ys = true → rvs s.E s.H xs = some vs →
    ∃ cvs : List Value, cvs.length = vs.length ∧ xs.length = vs.length ∧ ys.length = vs.length ∧ (∀ (i : Nat) y, ys[i]? = some y → ∃ cv, cvs[i]? = some cv ∧ (rvSem a.tmps y).run P w = .ok cv w) ∧ (∀ (i : Nat) v cv, vs[i]? = some v → cvs[i]? = some cv → VRel g v cv)
  | [], [], vs, _, hv => by
    simp only [rvs, Option.some.injEq] at hv
    subst hv
    exact ⟨[], rfl, rfl, rfl, by simp, by simp⟩
  | x :: xs, y :: ys, vs, hc, hv => by
    simp only [chkRes, Bool.and_eq_true] at hc
    simp only [rvs] at hv
    split at hv
    · rename_i v vs' h1 h2
      obtain rfl := Option.some.inj hv
      obtain ⟨cv, k1, k2⟩ := rv_run h hc.1 h1
      obtain ⟨cvs, l1, l2, l3, l4, l5⟩ := rvs_run h hc.2 h2
      refine ⟨cv :: cvs, by simp [l1], by simp [l2], by simp [l3], ?_, ?_⟩
      · intro i y' hy
        cases i with
        | zero => simp at hy; subst hy; exact ⟨cv, rfl, k1⟩
        | succ i => simpa using l4 i y' (by simpa using hy)
      · intro i v' cv' hv' hcv'
        cases i with
        | zero => simp at hv' hcv'; subst hv' hcv'; exact k2
        | succ i => exact l5 i v' cv' (by simpa using hv') (by simpa using hcv')
    · simp at hv
  | [], _ :: _, _, hc, _ => by simp [chkRes] at hc
  | _ :: _, [], _, hc, _ => by simp [chkRes] at hc

def tupOf : List Value → Value
  | [v] => v
  | vs => .tuple vs.toArray

theorem results_run {fn : Func} {l : List ResultVar} {cvs : List Value} (hl : fn.results.toList = l) (hlen : l.length = cvs.length) (h5 : l.length ≤ 5)
    (h : ∀ (i : Nat) y, l[i]? = some y → ∃ cv, cvs[i]? = some cv ∧ (rvSem a.tmps y).run P w = .ok cv w) :
    (results fn a.tmps).run P w = .ok (tupOf cvs) w := by
  have e : fn.results = l.toArray := by rw [← hl]
  have hr : results fn a.tmps = (do let vs ← fn.results.mapM (rvSem a.tmps); pure (if h : vs.size = 1 then vs[0] else .tuple vs)) := rfl
  rw [hr, e]
  match l, cvs, hlen, h5, h with
  | [], [], _, _, _ => simp [tupOf]
  | [y0], [c0], _, _, h =>
    obtain ⟨_, q0, r0⟩ := h 0 y0 rfl
    simp at q0; subst q0
    simp [r0, tupOf]
  | [y0, y1], [c0, c1], _, _, h =>
    obtain ⟨_, q0, r0⟩ := h 0 y0 rfl
    obtain ⟨_, q1, r1⟩ := h 1 y1 rfl
    simp at q0 q1; subst q0 q1
    simp [r0, r1, tupOf]
  | [y0, y1, y2], [c0, c1, c2], _, _, h =>
    obtain ⟨_, q0, r0⟩ := h 0 y0 rfl
    obtain ⟨_, q1, r1⟩ := h 1 y1 rfl
    obtain ⟨_, q2, r2⟩ := h 2 y2 rfl
    simp at q0 q1 q2; subst q0 q1 q2
    simp [r0, r1, r2, tupOf]
  | [y0, y1, y2, y3], [c0, c1, c2, c3], _, _, h =>
    obtain ⟨_, q0, r0⟩ := h 0 y0 rfl
    obtain ⟨_, q1, r1⟩ := h 1 y1 rfl
    obtain ⟨_, q2, r2⟩ := h 2 y2 rfl
    obtain ⟨_, q3, r3⟩ := h 3 y3 rfl
    simp at q0 q1 q2 q3; subst q0 q1 q2 q3
    simp [r0, r1, r2, r3, tupOf]
  | [y0, y1, y2, y3, y4], [c0, c1, c2, c3, c4], _, _, h =>
    obtain ⟨_, q0, r0⟩ := h 0 y0 rfl
    obtain ⟨_, q1, r1⟩ := h 1 y1 rfl
    obtain ⟨_, q2, r2⟩ := h 2 y2 rfl
    obtain ⟨_, q3, r3⟩ := h 3 y3 rfl
    obtain ⟨_, q4, r4⟩ := h 4 y4 rfl
    simp at q0 q1 q2 q3 q4; subst q0 q1 q2 q3 q4
    simp [r0, r1, r2, r3, r4, tupOf]

theorem chkFn_facts {G : List Nat} {f : Nat} {F : FnC} (h : chkFn P G T f F = true) : ∃ fn c, P.funcs[f]? = some fn ∧ fn.ntmps = F.nt ∧ fn.name ≠ "runtime.NumGoroutine" ∧ chkRes P ⟨F.nt, G⟩ F.rs fn.results.toList = true ∧ fn.results.toList.length ≤ 5 ∧ fn.body = some c ∧ chkCode P ⟨F.nt, G⟩ T F.body c = true := by
  unfold chkFn at h
  split at h
  · rename_i fn hfn
    simp only [Bool.and_eq_true, beq_iff_eq, bne_iff_ne, ne_eq, decide_eq_true_eq] at h
    obtain ⟨h1, h2, h3, h4, h5⟩ := h
    split at h5
    · rename_i c hc
      exact ⟨fn, c, hfn, h1, h2, h3, h4, hc, h5⟩
    · simp at h5
  · simp at h

theorem fin_ok {G : List Nat} {nt : Nat} {rs : List RV} {fn : Func} (hrs : chkRes P ⟨nt, G⟩ rs fn.results.toList = true) (h5 : fn.results.toList.length ≤ 5) {s' : St} {g' : Gh} {w' : World} {a' : Act} (hi : SG g' ⟨nt, G⟩ s'.fs w' a') {v : D} {hp' : Hp}
    (hres : fin rs .ret s' = some (v, hp')) : s'.hp = hp' ∧ ∃ cv, (results fn a'.tmps).run P w' = .ok cv w' ∧ VRel g' v cv := by
  simp only [fin] at hres
  split at hres
  · rename_i v' hv'
    rw [forceH_eq] at hres
    simp only [Option.some.injEq, Prod.mk.injEq] at hres
    obtain ⟨rfl, rfl⟩ := hres
    refine ⟨rfl, ?_⟩
    have hex : ∃ vs', rvs s'.fs.E s'.fs.H rs = some vs' := by
      unfold resultOf at hv'
      cases hh : rvs s'.fs.E s'.fs.H rs with
      | none => rw [hh] at hv'; simp at hv'
      | some vs' => exact ⟨vs', rfl⟩
    obtain ⟨vs', hvs⟩ := hex
    obtain ⟨cvs, l1, l2, l3, l4, l5⟩ := rvs_run hi hrs hvs
    have hr := results_run (fn := fn) (a := a') (P := P) (w := w') rfl (by rw [l3, l1]) h5 l4
    unfold resultOf at hv'
    rw [hvs] at hv'
    clear hvs l3 l4
    match vs', cvs, l1, l5, hr, hv' with
    | [v0], [c0], _, l5, hr, hv' =>
      simp only [Option.some.injEq] at hv'
      subst hv'
      exact ⟨c0, hr, l5 0 v0 c0 rfl rfl⟩
    | [], [], _, l5, hr, hv' =>
      simp only [Option.some.injEq] at hv'
      subst hv'
      exact ⟨_, hr, .tup [] #[] rfl (by simp)⟩
    | v0 :: v1 :: vs', c0 :: c1 :: cvs, l1, l5, hr, hv' =>
      simp only [Option.some.injEq] at hv'
      subst hv'
      exact ⟨_, hr, .tup _ _ (by simpa using l1.symm) (fun i c cv hc hcv => l5 i c cv hc (by simpa using hcv))⟩
  · simp at hres

/-- the slots at a call's beginning -/
theorem args_ok {g : Gh} {nt : Nat} {G : List Nat} {vs : List D} {hp : Hp} {cargs : Array Value} (hfit : vs.length ≤ nt) (hhr : HR g hp.t.get hp.n w) (hgl : ∀ (i b : Nat), G[i]? = some b → g.A i ∧ g.ρ i = b) (hlen : vs.length = cargs.size)
    (hrel : ∀ (i : Nat) x cv, vs[i]? = some x → cargs[i]? = some cv → VRel g x cv) : SG g ⟨nt, G⟩ (St.fs ⟨argsT vs 0 blank, hp⟩) w { tmps := cargs ++ Array.replicate (nt - cargs.size) undef, defers := [] } := by
  refine ⟨hhr, ⟨by simp; omega, ?_⟩, hgl⟩
  intro n hn
  simp only [St.fs, argsT_get, Nat.zero_le, true_and, Nat.zero_add, Nat.sub_zero]
  by_cases h1 : n < vs.length
  · rw [if_pos h1]
    have hv : vs[n]? = some vs[n] := List.getElem?_eq_getElem h1
    have hc' : cargs[n]? = some (cargs[n]'(by omega)) := Array.getElem?_eq_getElem _
    have e : (cargs ++ Array.replicate (nt - cargs.size) undef).getD n undef = cargs[n]'(by omega) := by
      simp only [Array.getD_eq_getD_getElem?]
      rw [Array.getElem?_append_left (by omega), hc']
      rfl
    rw [e, hv]
    exact hrel n _ _ hv hc'
  · rw [if_neg h1, blank_get]
    exact .undef _

theorem callF_wp {G : List Nat} (hΓ : SpecOK P G Γ) {f : Nat} {F : FnC} (hF : chkFn P G T f F = true) {L : Nat} {vs : List D} {hp hp' : Hp} {v : D} (hrun : callF Γ L F vs hp = some (v, hp')) : ∃ fn code, P.funcs[f]? = some fn ∧ fn.body = some code ∧ bodied P f = true ∧
    ∀ (w : World) (g : Gh) (cargs : Array Value), HR g hp.t.get hp.n w → (∀ (i b : Nat), G[i]? = some b → g.A i ∧ g.ρ i = b) → vs.length = cargs.size → (∀ (i : Nat) x cv, vs[i]? = some x → cargs[i]? = some cv → VRel g x cv) →
      code.wp P (bodyPost P fn fun e w' => ∃ cv g', e = .returned cv ∧ HR g' hp'.t.get hp'.n w' ∧ FR (fun id => hp.n ≤ id) g hp.t.get w g' hp'.t.get w' ∧ VRel g' v cv ∧ hp.n ≤ hp'.n) { tmps := cargs ++ Array.replicate (fn.ntmps - cargs.size) undef, defers := [] } w := by
  obtain ⟨fn, code, hf, hnt, hname, hrs, h5, hb, hc⟩ := chkFn_facts hF
  refine ⟨fn, code, hf, hb, by simp [bodied, hf, hb, hname], ?_⟩
  intro w g cargs hhr hgl hlen hrel
  unfold callF at hrun
  rw [chk_iff, argsK_eq] at hrun
  obtain ⟨hfit, hrun⟩ := hrun
  simp only [lenL_eq, Nat.zero_add, Nat.ble_eq] at hfit
  have hsg := args_ok (w := w) hfit hhr hgl hlen hrel
  rw [hnt]
  have hend := run_sound (T := T) (B := hp.n) (df := []) hΓ L F.body code hc (fin F.rs) ⟨argsT vs 0 blank, hp⟩ _ w g hrun ⟨hsg, FR.refl _ _ _ _, Nat.le_refl _, rfl⟩
  refine wp_mono hend ?_
  rintro e a' w' ⟨ex, s', g', he, hk, hi⟩
  have main : ∀ v hp', fin F.rs .ret s' = some (v, hp') → a'.defers = [] ∧ ∃ cv, (results fn a'.tmps).run P w' = .ok cv w' ∧
      (∃ cv' g'', Ending.returned cv = .returned cv' ∧ HR g'' hp'.t.get hp'.n w' ∧ FR (fun id => hp.n ≤ id) g hp.t.get w g'' hp'.t.get w' ∧ VRel g'' v cv' ∧ hp.n ≤ hp'.n) := by
    intro v hp' hres
    obtain ⟨rfl, cv, h1, h2⟩ := fin_ok hrs h5 hi.sg hres
    exact ⟨hi.df, cv, h1, cv, g', rfl, hi.sg.hr, hi.fr, h2, hi.le⟩
  cases ex with
  | normal =>
    cases e <;> simp only [exOK] at he
    exact main _ _ hk
  | exit i => simp [fin] at hk
  | ret =>
    cases e <;> simp only [exOK] at he
    exact main _ _ hk

theorem callF_ok {G : List Nat} (hΓ : SpecOK P G Γ) {f : Nat} {F : FnC} (hF : chkFn P G T f F = true) {L : Nat} {vs : List D} {hp hp' : Hp} {v : D} (hrun : callF Γ L F vs hp = some (v, hp')) : bodied P f = true ∧ FnOK P G f vs hp v hp' := by
  obtain ⟨fn, code, hf, hb, hbo, h⟩ := callF_wp hΓ hF hrun
  exact ⟨hbo, fun w g cargs h1 h2 h3 h4 => calls_of_wp hf hb (h w g cargs h1 h2 h3 h4)⟩

theorem callN_ok {G : List Nat} {Tb : Tab} (hT : ∀ f F, Tb f = some F → chkFn P G T f F = true) (L : Nat) : ∀ d, SpecOK P G (callN Tb L d)
  | 0 => fun f vs hp v hp' h => by simp [callN] at h
  | d + 1 => fun f vs hp v hp' h => by
    simp only [callN] at h
    split at h
    · rename_i F hF
      exact callF_ok (callN_ok hT L d) (hT f F hF) h
    · simp at h

/-- a table of functions -/
def tab : List (Nat × FnC) → Tab
  | [], _ => none
  | (i, F) :: l, f => cond (Nat.beq i f) (some F) (tab l f)
theorem tab_ok {G : List Nat} : ∀ {l : List (Nat × FnC)}, (l.all fun p => chkFn P G T p.1 p.2) = true → ∀ f F, tab l f = some F → chkFn P G T f F = true
  | [], _, f, F, h => by simp [tab] at h
  | (i, F0) :: l, ha, f, F, h => by
    simp only [List.all_cons, Bool.and_eq_true] at ha
    simp only [tab] at h
    cases hb : Nat.beq i f with
    | true =>
      rw [hb] at h
      obtain rfl := Option.some.inj h
      have e : i = f := Nat.eq_of_beq_eq_true hb
      subst e
      exact ha.1
    | false =>
      rw [hb] at h
      exact tab_ok ha.2 f F h

def isTrue : Option (D × Hp) → Bool
  | some (.bool true, _) => true
  | _ => false

/-- a law without arguments that reads no variable: its run's answer is its call's -/
theorem closedT {Tb : Tab} (hT : ∀ f F, Tb f = some F → chkFn P [] T f F = true) {L d f : Nat} (hr : isTrue (callN Tb L d f [] ⟨0, .e⟩) = true) (sg : Sig) (w : World) :
    Calls P f #[] w fun e w' => e = .returned (.bool true) ∧ Below w.heap.size w w' := by
  unfold isTrue at hr
  split at hr
  · rename_i hp' he
    obtain ⟨-, hfn⟩ := callN_ok hT L d _ _ _ _ _ he
    refine (hfn w ⟨fun _ => False, fun _ => 0, fun _ => 0, sg⟩ #[] ?_ (by simp) rfl (by simp)).mono ?_
    · exact HR.of (fun id o h => by simp [Tr.get] at h) (fun id id' o o' h => by simp [Tr.get] at h) (fun id o h => by simp [Tr.get] at h) (fun id h => h.elim)
    · rintro e w' ⟨cv, g', rfl, q1, q2, q3, q4⟩
      cases q3
      exact ⟨rfl, q2.os, q2.tape, q2.output, q2.size, fun k hk => q2.block k hk (fun id o h => by simp [Tr.get] at h)⟩
  · simp at hr
end
end Go.DM
