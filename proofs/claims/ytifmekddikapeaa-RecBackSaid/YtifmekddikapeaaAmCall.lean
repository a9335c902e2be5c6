/-
  A function whose run gives a value: its call gives that value, in every world.
-/
import Derived.Test.YtifmekddikapeaaAmSound
namespace Go.AM
set_option autoImplicit false
set_option linter.unusedSimpArgs false
set_option linter.unusedVariables false

def chkRV (P : Program) : RV → ResultVar → Bool
  | .t n, .tmp m => n == m
  | .cell n size agg, .cell m t => (n == m) && ((sizeT P t == some size) && ((isAggT P t == some agg) && (agg || size == 1)))
  | _, _ => false

def chkRes (P : Program) : List RV → List ResultVar → Bool
  | [], [] => true
  | x :: xs, y :: ys => chkRV P x y && chkRes P xs ys
  | _, _ => false

section
variable {w : World} {g : Gh} {s s' : St} {a : Act} {P : Program} {Γ : ASpec}

/-- who owns a result -/
def rvOwn (g : Gh) (w : World) (x : RV) (v : V) (cv : Value) : Prop := match x with | .t n => OwnOK g w (.slot n) v cv | .cell .. => v.bare = true

def rvSem (tmps : Array Value) : ResultVar → Sem Value
  | .tmp t => pure (tmps.getD t undef)
  | .cell a t => do loadVar t (← asAddr (tmps.getD a undef))

theorem rv_run (h : SR g s w a) {x : RV} {y : ResultVar} (hc : chkRV P x y = true) {v : V} (hv : x.ev s = some v) :
    ∃ cv, (rvSem a.tmps y).run P w = .ok cv w ∧ VRel g.I g.ρ s.hp.length w v cv ∧ rvOwn g w x v cv := by
  cases x with
  | t n =>
    cases y with
    | tmp m =>
      obtain rfl : n = m := by simpa [chkRV] using hc
      simp only [RV.ev, Option.some.injEq] at hv
      subst hv
      exact ⟨_, by simp [rvSem], h.er.get n, h.er.getOwn n⟩
    | cell m t => simp [chkRV] at hc
  | cell n size agg =>
    cases y with
    | tmp m => simp [chkRV] at hc
    | cell m t =>
      simp only [chkRV, Bool.and_eq_true, beq_iff_eq, Bool.or_eq_true] at hc
      obtain ⟨rfl, h1, h2, h3⟩ := hc
      have r1 := h.er.get n
      simp only [RV.ev] at hv
      have fin : ∀ b o (vs : List Value), a.tmps.getD n undef = .pointer (some ⟨b, o, none⟩) → vs.length = size → (∀ (j : Nat) v, vs[j]? = some v → w.cell? ⟨b, o + j, none⟩ = some v) →
          (rvSem a.tmps (.cell n t)).run P w = .ok (if agg then .agg vs.toArray else vs.headD undef) w := by
        intro b o vs hp hl hw
        have := run_load_row (P := P) (w := w) (b := b) (o := o) (vs := vs) h1 h2 h3 hl hw
        simp only [Instr.loadAt, Instr.sureAddr] at this
        simp [rvSem, hp, asAddr]
        simpa using this
      split at hv
      · rename_i id o hx
        rw [hx] at r1
        generalize hcv : a.tmps.getD n undef = cv at r1 fin
        cases r1 with
        | ptr _ _ hid =>
        split at hv
        · rename_i cs ho
          split at hv
          · rename_i hle
            obtain rfl := Option.some.inj hv
            obtain ⟨arr, e, hb, hok⟩ := obj_row h.hr ho
            have hlen := hok.len
            have hrel := loaded_rel (agg := agg) (cs := (cs.drop o).take size) (vs := (arr.toList.drop o).take size) (w := w) (I := g.I) (ρ := g.ρ) (N := s.hp.length)
              (fun c hcm => hok.one c (List.mem_of_mem_drop (List.mem_of_mem_take hcm))) (by simp; omega) (by
                rcases h3 with h3 | h3
                · exact .inl h3
                · right; simp; omega)
              (fun i c cv hc hcv => by
                simp only [List.getElem?_take, List.getElem?_drop] at hc hcv
                split at hc
                · rename_i hi
                  simp only [hi, if_true] at hcv
                  exact hok.rel _ _ _ hc (by simpa using hcv)
                · simp at hc)
            refine ⟨_, fin _ _ ((arr.toList.drop o).take size) rfl (by simp; omega) (fun j v hj => ?_), hrel.disown, disown_bare _⟩
            rw [cell_of_heap hb]
            simp only [List.getElem?_take, List.getElem?_drop] at hj
            split at hj
            · simpa using hj
            · simp at hj
          · simp at hv
        · simp at hv
      · rename_i cs hx
        rw [hx] at r1
        generalize hcv : a.tmps.getD n undef = cv at r1 fin
        cases r1 with
        | ea _ b o f e1 hI hw hv' =>
        split at hv
        · rename_i hle
          obtain rfl := Option.some.inj hv
          have hrel := loaded_rel (agg := agg) (cs := cs.take size) (vs := (List.range size).map f) (w := w) (I := g.I) (ρ := g.ρ) (N := s.hp.length)
            (fun c hcm => e1 c (List.mem_of_mem_take hcm)) (by simp; omega) (by
              rcases h3 with h3 | h3
              · exact .inl h3
              · right; simp; omega)
            (fun i c cv hc hcv => by
              simp only [List.getElem?_take] at hc
              split at hc
              · rename_i hi
                simp [hi] at hcv
                subst hcv
                exact hv' _ _ hc
              · simp at hc)
          refine ⟨_, fin _ _ ((List.range size).map f) rfl (by simp) (fun j v hj => ?_), hrel.disown, disown_bare _⟩
          rw [List.getElem?_map, Option.map_eq_some_iff] at hj
          obtain ⟨j', hj', rfl⟩ := hj
          obtain ⟨hlt, rfl⟩ := List.getElem?_eq_some_iff.1 hj'
          simp only [List.length_range] at hlt
          simpa using hw j (by omega)
        · simp at hv
      · simp at hv

theorem rvs_run (h : SR g s w a) : ∀ {xs : List RV} {ys : List ResultVar} {vs : List V}, chkRes P xs ys = true → rvs s xs = some vs →
    ∃ cvs : List Value, cvs.length = vs.length ∧ xs.length = vs.length ∧ ys.length = vs.length ∧ (∀ (i : Nat) y, ys[i]? = some y → ∃ cv, cvs[i]? = some cv ∧ (rvSem a.tmps y).run P w = .ok cv w) ∧
      (∀ (i : Nat) v cv, vs[i]? = some v → cvs[i]? = some cv → VRel g.I g.ρ s.hp.length w v cv) ∧
      (∀ (i : Nat) x v cv, xs[i]? = some x → vs[i]? = some v → cvs[i]? = some cv → rvOwn g w x v cv)
  | [], [], vs, _, hv => by
    simp only [rvs, Option.some.injEq] at hv
    subst hv
    exact ⟨[], rfl, rfl, rfl, by simp, by simp, by simp⟩
  | x :: xs, y :: ys, vs, hc, hv => by
    simp only [chkRes, Bool.and_eq_true] at hc
    simp only [rvs] at hv
    split at hv
    · rename_i v vs' h1 h2
      obtain rfl := Option.some.inj hv
      obtain ⟨cv, k1, k2, k3⟩ := rv_run h hc.1 h1
      obtain ⟨cvs, l1, l2, l3, l4, l5, l6⟩ := rvs_run h hc.2 h2
      refine ⟨cv :: cvs, by simp [l1], by simp [l2], by simp [l3], ?_, ?_, ?_⟩
      · intro i y' hy
        cases i with
        | zero => simp at hy; subst hy; exact ⟨cv, rfl, k1⟩
        | succ i => simpa using l4 i y' (by simpa using hy)
      · intro i v' cv' hv' hcv'
        cases i with
        | zero => simp at hv' hcv'; subst hv' hcv'; exact k2
        | succ i => exact l5 i v' cv' (by simpa using hv') (by simpa using hcv')
      · intro i x' v' cv' hx' hv' hcv'
        cases i with
        | zero => simp at hx' hv' hcv'; subst hx' hv' hcv'; exact k3
        | succ i => exact l6 i x' v' cv' (by simpa using hx') (by simpa using hv') (by simpa using hcv')
    · simp at hv
  | [], _ :: _, _, hc, _ => by simp [chkRes] at hc
  | _ :: _, [], _, hc, _ => by simp [chkRes] at hc

/-- what is handed over is the callee's no longer -/
def Gh.hand (g : Gh) (r : Option Nat) : Gh := { g with O := fun b => match g.O b with | some (.slot m) => (if some m = r then some .res else none) | some .res => none | o => o }

theorem HR.hand {hp : List AObj} (h : HR g hp w) (r : Option Nat) : HR (g.hand r) hp w := by
  refine ⟨?_, h.apart, h.notI, ?_, h.exI, ?_⟩
  · intro id cs hid
    obtain ⟨arr, e, fz, h1, h2⟩ := h.obj id cs hid
    refine ⟨arr, e, fz, h1, h2.len, h2.plain, h2.typed, h2.cold, h2.one, h2.rel, ?_, h2.bn⟩
    intro j c cv hc hcv
    refine own_keep (h2.own j c cv hc hcv) rfl (fun b j hi => ⟨hi, rfl⟩) ?_
    intro b hb
    exact ⟨by simp [Gh.hand, hb], rfl, fun j hj => hj⟩
  · intro id cs hid
    simp [Gh.hand, h.notO id cs hid]
  · intro b o hb
    cases hO : g.O b with
    | none => simp [Gh.hand, hO] at hb
    | some o' => exact h.oLt b o' hO

theorem FR.hand {g₀ : Gh} {hp₀ hp : List AObj} {w₀ : World} (h : FR g₀ hp₀ w₀ g hp w) (r : Option Nat) : FR g₀ hp₀ w₀ (g.hand r) hp w :=
  ⟨h.beta, h.os, h.tape, h.output, h.size, h.block, h.up, h.iSame, fun b hb ho hO => by simp [Gh.hand, h.oSame b hb ho hO], h.live⟩

def tupOf : List Value → Value
  | [v] => v
  | vs => .tuple vs.toArray

theorem results_run {fn : Func} {l : List ResultVar} {cvs : List Value} (hl : fn.results.toList = l) (hlen : l.length = cvs.length) (h5 : l.length ≤ 5)
    (h : ∀ (i : Nat) y, l[i]? = some y → ∃ cv, cvs[i]? = some cv ∧ (rvSem a.tmps y).run P w = .ok cv w) :
    (results fn a.tmps).run P w = .ok (tupOf cvs) w := by
  have e : fn.results = l.toArray := by rw [← hl]
  have hr : results fn a.tmps = (do let vs ← fn.results.mapM (rvSem a.tmps); pure (if h : vs.size = 1 then vs[0] else .tuple vs)) := rfl
  rw [hr, e]
  match l, cvs, hlen, h5, h with
  | [], [], _, _, _ => simp [tupOf]
  | [y0], [c0], _, _, h =>
    obtain ⟨_, q0, r0⟩ := h 0 y0 rfl
    simp at q0; subst q0
    simp [r0, tupOf]
  | [y0, y1], [c0, c1], _, _, h =>
    obtain ⟨_, q0, r0⟩ := h 0 y0 rfl
    obtain ⟨_, q1, r1⟩ := h 1 y1 rfl
    simp at q0 q1; subst q0 q1
    simp [r0, r1, tupOf]
  | [y0, y1, y2], [c0, c1, c2], _, _, h =>
    obtain ⟨_, q0, r0⟩ := h 0 y0 rfl
    obtain ⟨_, q1, r1⟩ := h 1 y1 rfl
    obtain ⟨_, q2, r2⟩ := h 2 y2 rfl
    simp at q0 q1 q2; subst q0 q1 q2
    simp [r0, r1, r2, tupOf]
  | [y0, y1, y2, y3], [c0, c1, c2, c3], _, _, h =>
    obtain ⟨_, q0, r0⟩ := h 0 y0 rfl
    obtain ⟨_, q1, r1⟩ := h 1 y1 rfl
    obtain ⟨_, q2, r2⟩ := h 2 y2 rfl
    obtain ⟨_, q3, r3⟩ := h 3 y3 rfl
    simp at q0 q1 q2 q3; subst q0 q1 q2 q3
    simp [r0, r1, r2, r3, tupOf]
  | [y0, y1, y2, y3, y4], [c0, c1, c2, c3, c4], _, _, h =>
    obtain ⟨_, q0, r0⟩ := h 0 y0 rfl
    obtain ⟨_, q1, r1⟩ := h 1 y1 rfl
    obtain ⟨_, q2, r2⟩ := h 2 y2 rfl
    obtain ⟨_, q3, r3⟩ := h 3 y3 rfl
    obtain ⟨_, q4, r4⟩ := h 4 y4 rfl
    simp at q0 q1 q2 q3 q4; subst q0 q1 q2 q3 q4
    simp [r0, r1, r2, r3, r4, tupOf]

theorem fnOK_of (hΓ : SpecOK P Γ) {imp : List Nat} (hP : PureS Γ imp) {f : FuncId} {fn : Func} {code : Code} {ir : IR} {rs : List RV} {n : Nat} {vs : List V} {hp hp' : List AObj} {v : V}
    (hf : P.funcs[f]? = some fn) (hb : fn.body = some code) (hc : chkCode P imp hp.length ir code = true) (hrs : chkRes P rs fn.results.toList = true) (h5 : fn.results.toList.length ≤ 5)
    (hrun : callF Γ n fn.ntmps rs ir vs hp = some (v, hp')) : FnOK P f vs hp v hp' := by
  intro w g cargs hβ hhr hlen hbare hrel
  refine calls_of_wp hf hb ?_
  let act : Act := { tmps := cargs ++ Array.replicate (fn.ntmps - cargs.size) undef, defers := [] }
  have hsr : SR g (start fn.ntmps vs hp) w act := by
    refine ⟨hhr, ⟨by simp [start, act, hlen], ?_, ?_⟩⟩
    · intro n v cv hv hcv
      simp only [start, act] at hv hcv
      rcases Nat.lt_or_ge n vs.length with hn | hn
      · rw [List.getElem?_append_left hn] at hv
        rw [Array.getElem?_append_left (by omega)] at hcv
        exact hrel n v cv hv hcv
      · rw [List.getElem?_append_right hn, List.getElem?_replicate] at hv
        split at hv
        · obtain rfl := Option.some.inj hv
          exact .undef _
        · simp at hv
    · intro n v cv hv hcv
      simp only [start] at hv
      rcases Nat.lt_or_ge n vs.length with hn | hn
      · rw [List.getElem?_append_left hn] at hv
        exact bare_own (hbare v (List.mem_of_getElem? hv)) _ _ _ _
      · rw [List.getElem?_append_right hn, List.getElem?_replicate] at hv
        split at hv
        · obtain rfl := Option.some.inj hv
          simp [OwnOK]
        · simp at hv
  have hend := run_sound (df := []) hΓ hβ hP n (Nat.le_refl _) ir code hc (fin rs) (start fn.ntmps vs hp) act w g hrun ⟨hsr, FR.refl _ _ _, rfl⟩
  refine wp_mono hend ?_
  rintro e a' w' ⟨ex, s', g', he, hk, hi⟩
  have main : ∀ v hp', (resultOf s' rs).map (fun v => (v, s'.hp)) = some (v, hp') → a'.defers = [] ∧ ∃ cv, (results fn a'.tmps).run P w' = .ok cv w' ∧
      (∃ cv' g'', Ending.returned cv = .returned cv' ∧ HR g'' hp' w' ∧ FR g hp w g'' hp' w' ∧ VRel g''.I g''.ρ hp'.length w' v cv' ∧ OwnOK g'' w' .res v cv') := by
    intro v hp' hres
    refine ⟨hi.df, ?_⟩
    obtain ⟨v', hv', hpe⟩ := Option.map_eq_some_iff.1 hres
    simp only [Prod.mk.injEq] at hpe
    obtain ⟨rfl, rfl⟩ := hpe
    have hex : ∃ vs', rvs s' rs = some vs' := by
      unfold resultOf at hv'
      cases hh : rvs s' rs with
      | none => rw [hh] at hv'; simp at hv'
      | some vs' => exact ⟨vs', rfl⟩
    obtain ⟨vs', hvs⟩ := hex
    obtain ⟨cvs, l1, l2, l3, l4, l5, l6⟩ := rvs_run hi.sr hrs hvs
    have hr := results_run (fn := fn) (a := a') (P := P) (w := w') rfl (by rw [l3, l1]) h5 l4
    unfold resultOf at hv'
    rw [hvs] at hv'
    clear hvs l3 l4 hres
    match rs, vs', cvs, l1, l2, l5, l6, hr, hv' with
    | [x], [v0], [c0], _, _, l5, l6, hr, hv' =>
      simp only [Option.some.injEq] at hv'
      subst hv'
      have ho := l6 0 x v0 c0 rfl rfl rfl
      have hvr := l5 0 v0 c0 rfl rfl
      cases x with
      | t n =>
        simp only [rvOwn] at ho
        refine ⟨c0, hr, c0, g'.hand (some n), rfl, hi.sr.hr.hand _, hi.fr.hand _, hvr, ?_⟩
        unfold OwnOK at ho ⊢
        split
        · rename_i k xs ad len cap
          obtain ⟨o1, o2, o3⟩ := ho
          exact ⟨by simp [Gh.hand, o1], o2, o3⟩
        · obtain ⟨o1, o2, o3⟩ := ho
          exact ⟨by simp [Gh.hand, o1], o2, o3⟩
        · rcases ho with ho | ⟨b, cap, arr, e, fz, m0, m1, m2, m3, m4, m5⟩
          · exact .inl ho
          · exact .inr ⟨b, cap, arr, e, fz, m0, m1, m2, m3, by simp [Gh.hand, m4], m5⟩
        · trivial
      | cell n size agg =>
        exact ⟨c0, hr, c0, g'.hand none, rfl, hi.sr.hr.hand _, hi.fr.hand _, hvr, bare_own ho _ _ _ _⟩
    | [], [], [], _, _, l5, l6, hr, hv' =>
      simp only [Option.some.injEq] at hv'
      subst hv'
      exact ⟨_, hr, _, g'.hand none, rfl, hi.sr.hr.hand _, hi.fr.hand _, .tup [] #[] rfl (by simp), by simp [OwnOK]⟩
    | x :: y :: rs, v0 :: v1 :: vs', c0 :: c1 :: cvs, l1, _, l5, l6, hr, hv' =>
      simp only [Option.some.injEq] at hv'
      subst hv'
      refine ⟨_, hr, _, g'.hand none, rfl, hi.sr.hr.hand _, hi.fr.hand _, .tup _ _ (by simpa using l1.symm) ?_, by simp [OwnOK]⟩
      intro i c cv hc hcv
      rw [List.getElem?_map, Option.map_eq_some_iff] at hc
      obtain ⟨c', hc', rfl⟩ := hc
      exact (l5 i c' cv hc' (by simpa using hcv)).disown
  cases ex with
  | normal =>
    cases e <;> simp only [exOK] at he
    exact main _ _ hk
  | exit i => simp [fin] at hk
  | ret =>
    cases e <;> simp only [exOK] at he
    exact main _ _ hk
end
end Go.AM
