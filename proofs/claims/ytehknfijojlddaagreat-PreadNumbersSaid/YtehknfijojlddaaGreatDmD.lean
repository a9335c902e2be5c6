/-
  Functions that defer one closure behind code in a row; the closure makes no calls.
-/
import Derived.Test.YtehknfijojlddaaGreatDmX
import Derived.Defers
namespace Go.DM
open Go.RowKit
set_option autoImplicit false
set_option linter.unusedSimpArgs false
set_option linter.unusedVariables false

structure FnD where
  nt : Nat
  rs : List RV
  pre : List IRc
  d : Nat
  g : Nat
  caps : List ASrc
  post : IRc

def finD (C : List D → Hp → Res) (rs : List RV) (vs : List D) : Ex → St → Res
  | .normal, s | .ret, s => match C vs s.hp with
    | some (_, hp') => fin rs .ret ⟨s.env, hp'⟩
    | none => none
  | _, _ => none
def runPre (Γ : Sp) (L : Nat) : List IRc → (St → Res) → (St → Res) → St → Res
  | [], K, _, s => K s
  | x :: l, K, Kr, s => run Γ L x (fun ex s => match ex with
    | .normal => runPre Γ L l K Kr s
    | .ret => Kr s
    | .exit _ => none) s
def callFD (Γ : Sp) (C : List D → Hp → Res) (L : Nat) (F : FnD) (args : List D) (hp : Hp) : Res :=
  chk (Nat.ble (lenL args 0) F.nt) (argsK args 0 blank fun t => runPre Γ L F.pre (fun s => run Γ L F.post (finD C F.rs (F.caps.map (·.ev s.fs.E))) (s.put (some F.d) (.fn F.g (F.caps.map (·.ev s.fs.E))))) (fin F.rs .ret) ⟨t, hp⟩)

def chkDf (P : Program) (cx : Cx) (F : FnD) (ops : Array Oper) : Bool := match ops.toList with
  | [m0, m1] => chkA P cx (.mkf F.g F.caps) m0.op && (m0.dst == some F.d && ((match m0.guard with | none => true | _ => false) && (Nat.blt F.d cx.nt && ((match m1.op with | .defer c => (match c.callee with | .value (.tmp n) => n == F.d | _ => false) && c.args.toList.isEmpty | _ => false) && (m1.dst == none && (match m1.guard with | none => true | _ => false))))))
  | _ => false
def chkPre (P : Program) (cx : Cx) (T : Nat → Bool) (F : FnD) : List IRc → Code → Bool
  | [], .seq (.region _ ops false) c => chkDf P cx F ops && chkCode P cx T F.post c
  | x :: l, .seq a b => chkCode P cx T x a && chkPre P cx T F l b
  | _, _ => false
def chkFnD (P : Program) (G : List Nat) (T : Nat → Bool) (f : Nat) (F : FnD) : Bool := match P.funcs[f]? with
  | some fn => (fn.ntmps == F.nt) && ((fn.name != "runtime.NumGoroutine") && (chkRes P ⟨F.nt, G⟩ F.rs fn.results.toList && (decide (fn.results.toList.length ≤ 5) && (match fn.body with | some c => chkPre P ⟨F.nt, G⟩ T F F.pre c | none => false))))
  | none => false

/-- what a deferred call gives -/
def FnOKD (P : Program) (G : List Nat) (f : FuncId) (vs : List D) (hp : Hp) (v : D) (hp' : Hp) : Prop :=
  ∀ (w : World) (g : Gh) (cargs : Array Value) (u : FrameMode), HR g hp.t.get hp.n w → (∀ (i b : Nat), G[i]? = some b → g.A i ∧ g.ρ i = b) → vs.length = cargs.size → (∀ (i : Nat) x cv, vs[i]? = some x → cargs[i]? = some cv → VRel g x cv) →
    CallsD P f cargs u w fun e u' w' => u' = u ∧ ∃ cv g', e = .returned cv ∧ HR g' hp'.t.get hp'.n w' ∧ FR (fun id => hp.n ≤ id) g hp.t.get w g' hp'.t.get w' ∧ VRel g' v cv ∧ hp.n ≤ hp'.n
section
variable {P : Program} {Γ : Sp} {T : Nat → Bool} {G : List Nat}
theorem callF_okD (hΓ : SpecOK P G Γ) {f : Nat} {F : FnC} (hF : chkFn P G T f F = true) {L : Nat} {vs : List D} {hp hp' : Hp} {v : D} (hrun : callF Γ L F vs hp = some (v, hp')) : bodied P f = true ∧ FnOKD P G f vs hp v hp' := by
  obtain ⟨fn, code, hf, hb, hbo, h⟩ := callF_wp hΓ hF hrun
  exact ⟨hbo, fun w g cargs u h1 h2 h3 h4 => callsD_of_wp hf hb (h w g cargs h1 h2 h3 h4)⟩

theorem bodied_run {f : Nat} (h : bodied P f = true) (args : Array Value) (w : World) : (callFunc f args).run P w = .ok (.enter f args) w := by
  obtain ⟨fn, b1, b2, b3⟩ := body_of h
  simp [callFunc, b1, b3, b2]
  intro hb0
  rw [hb0] at b2
  simp at b2

theorem chkDf_facts {cx : Cx} {F : FnD} {ops : Array Oper} (h : chkDf P cx F ops = true) : ∃ m0 m1 c, ops = #[m0, m1] ∧ chkA P cx (.mkf F.g F.caps) m0.op = true ∧ m0.dst = some F.d ∧ m0.guard = none ∧ F.d < cx.nt ∧ m1.op = .defer c ∧ c.callee = .value (.tmp F.d) ∧ c.args = #[] ∧ m1.dst = none ∧ m1.guard = none := by
  unfold chkDf at h
  split at h
  · rename_i m0 m1 hops
    simp only [Bool.and_eq_true, beq_iff_eq, Nat.blt_eq] at h
    obtain ⟨h1, h2, h3, h4, h5, h6, h7⟩ := h
    split at h5
    · rename_i c hc
      simp only [Bool.and_eq_true] at h5
      obtain ⟨h8, h9⟩ := h5
      split at h8
      · rename_i n hn
        simp only [beq_iff_eq] at h8
        subst h8
        refine ⟨m0, m1, c, ?_, h1, h2, ?_, h4, hc, hn, ?_, h6, ?_⟩
        · rw [← hops]
        · revert h3; cases m0.guard <;> simp
        · have : c.args.toList = [] := by simpa using h9
          rw [← Array.toArray_toList (xs := c.args), this]
        · revert h7; cases m1.guard <;> simp
      · simp at h8
    · simp at h5
  · simp at h

theorem pre_ok (hΓ : SpecOK P G Γ) {F : FnD} {fn : Func} (hrs : chkRes P ⟨F.nt, G⟩ F.rs fn.results.toList = true) (h5 : fn.results.toList.length ≤ 5) {C : List D → Hp → Res} (hC : ∀ vs hp v hp', C vs hp = some (v, hp') → bodied P F.g = true ∧ FnOKD P G F.g vs hp v hp') {L : Nat}
    {hp hp' : Hp} {v : D} {w0 : World} {g0 : Gh} : ∀ (l : List IRc) (c : Code), chkPre P ⟨F.nt, G⟩ T F l c = true → ∀ (s : St) (g : Gh) (w : World) (a : Act),
      runPre Γ L l (fun s => run Γ L F.post (finD C F.rs (F.caps.map (·.ev s.fs.E))) (s.put (some F.d) (.fn F.g (F.caps.map (·.ev s.fs.E))))) (fin F.rs .ret) s = some (v, hp') → Inv hp.n g0 hp.t.get w0 [] ⟨F.nt, G⟩ g s.fs w a →
      c.wp P (bodyPostD P fn fun e w' => ∃ cv g', e = .returned cv ∧ HR g' hp'.t.get hp'.n w' ∧ FR (fun id => hp.n ≤ id) g0 hp.t.get w0 g' hp'.t.get w' ∧ VRel g' v cv ∧ hp.n ≤ hp'.n) a w
  | x :: l, c, hc, s, g, w, a, hr, hi => by
    cases c with
    | seq c d =>
      simp only [chkPre, Bool.and_eq_true] at hc
      simp only [runPre] at hr
      refine wp_seq (wp_mono (run_sound hΓ L x c hc.1 _ s a w g hr hi) ?_)
      rintro e a' w' ⟨ex, s', g', he, hk, hi'⟩
      cases ex with
      | normal =>
        cases e <;> simp only [exOK] at he
        exact pre_ok hΓ hrs h5 hC l d hc.2 s' g' w' a' hk hi'
      | exit i => simp at hk
      | ret =>
        cases e <;> simp only [exOK] at he
        obtain ⟨rfl, cv, h1, h2⟩ := fin_ok hrs h5 hi'.sg hk
        show Leaves P fn a'.tmps _ a'.defers .returning w'
        rw [hi'.df]
        exact ⟨cv, h1, cv, g', rfl, hi'.sg.hr, hi'.fr, h2, hi'.le⟩
    | _ => simp [chkPre] at hc
  | [], c, hc, s, g, w, a, hr, hi => by
    cases c with
    | seq c d =>
      cases c with
      | region id ops draw =>
        cases draw with
        | true => simp [chkPre] at hc
        | false =>
          simp only [chkPre, Bool.and_eq_true] at hc
          obtain ⟨hd, hpost⟩ := hc
          obtain ⟨m0, m1, c, rfl, e1, e2, e3, e4, e5, e6, e7, e8, e9⟩ := chkDf_facts hd
          simp only [runPre] at hr
          refine wp_seq (wp_region ?_)
          show wpOps P #[m0, m1] _ [0, 1] a w
          rw [wpOps_cons]
          unfold wpOp
          simp only [List.getElem?_toArray, List.getElem?_cons_zero]
          rw [if_pos (by simp [Region.wanted, e3])]
          refine .inl (op_sound (at_ := s.hp.n) (o := .mkf F.g F.caps) (v := .fn F.g (F.caps.map (·.ev s.fs.E))) (ws := []) (.inl e1) rfl hi.sg (by simp [IOp.makes]) ?_)
          intro a1 w1 g1 k1 k2 k3
          rw [wpOps_cons]
          unfold wpOp
          simp only [List.getElem?_toArray, List.getElem?_cons_succ, List.getElem?_cons_zero]
          rw [if_pos (by simp [Region.wanted, e9])]
          refine .inl ?_
          have hv := k1.er.rel F.d e4
          have hv2 : VRel g1 (.fn F.g (F.caps.map (·.ev s.fs.E))) (a1.tmps.getD F.d undef) := by
            rw [e2] at hv
            simpa [putF, upd] using hv
          generalize hcv : a1.tmps.getD F.d undef = cv at hv2
          cases hv2 with
          | fn _ _ caps hl hcap =>
          have hrun : (execOp a1.eval m1).run P w1 = .ok (.defer ⟨.fn (.func F.g) caps, #[]⟩) w1 := by
            simp [execOp, e5, resolve, e6, e7, Act.eval, hcv, Deferred.ofValue]
          unfold Oper.wp
          rw [hrun, Oper.upon_defer, e8]
          show wpOps P _ _ [] _ w1
          simp only [wpOps, Exit.then]
          have hfs : (s.put (some F.d) (.fn F.g (F.caps.map (·.ev s.fs.E)))).fs = ⟨putF s.fs.E (some F.d) (.fn F.g (F.caps.map (·.ev s.fs.E))), s.fs.H, s.fs.n⟩ := put_fs s _ _
          have hsg1 : SG g1 ⟨F.nt, G⟩ (s.put (some F.d) (.fn F.g (F.caps.map (·.ev s.fs.E)))).fs w1 { a1 with defers := ⟨.fn (.func F.g) caps, #[]⟩ :: a1.defers } := by
            rw [hfs, ← e2]
            exact ⟨k1.hr, k1.er, k1.gl⟩
          have hfr1 : FR (fun id => hp.n ≤ id) g0 hp.t.get w0 g1 s.fs.H w1 := hi.fr.trans (fun id hid => by have := hi.le; have e : s.fs.n = s.hp.n := rfl; omega) k2
          have hdf1 : a1.defers = [] := k3.trans hi.df
          rw [hdf1] at hsg1 ⊢
          have hend := run_sound (T := T) (B := s.hp.n) (g₀ := g1) (H₀ := s.fs.H) (w₀ := w1) (df := [⟨.fn (.func F.g) caps, #[]⟩]) hΓ L F.post d hpost (finD C F.rs (F.caps.map (·.ev s.fs.E))) _ { a1 with defers := [⟨.fn (.func F.g) caps, #[]⟩] } w1 g1 hr ⟨hsg1, by rw [hfs]; exact FR.refl _ _ _ _, by rw [hfs]; exact Nat.le_refl _, rfl⟩
          refine wp_mono hend ?_
          rintro e a2 w2 ⟨ex, s2, g2, he, hk, hi2⟩
          have main : finD C F.rs (F.caps.map (·.ev s.fs.E)) .ret s2 = some (v, hp') → Leaves P fn a2.tmps (fun e w' => ∃ cv g', e = .returned cv ∧ HR g' hp'.t.get hp'.n w' ∧ FR (fun id => hp.n ≤ id) g0 hp.t.get w0 g' hp'.t.get w' ∧ VRel g' v cv ∧ hp.n ≤ hp'.n) a2.defers .returning w2 := by
            intro hk
            simp only [finD] at hk
            split at hk
            · rename_i vv hp3 hCe
              obtain ⟨hbg, hfn⟩ := hC _ _ _ _ hCe
              rw [hi2.df]
              refine ⟨by simp, _, _, F.g, caps, rfl, ?_, ?_⟩
              · simp only [invoke]
                rw [bodied_run hbg]
                simp
              · refine (hfn w2 g2 caps .returning hi2.sg.hr hi2.sg.gl (by simpa using hl) (fun i x cv hx hcv => (hcap i x cv hx hcv).up hi2.fr.up)).mono ?_
                rintro e u' w3 ⟨rfl, cv3, g3, rfl, q1, q2, q3, q4⟩
                show Leaves P fn a2.tmps _ [] (settle .returning) w3
                have hsg3 : SG g3 ⟨F.nt, G⟩ (St.fs ⟨s2.env, hp3⟩) w3 a2 := ⟨q1, hi2.sg.er.up q2.up, fun i b hib => ⟨q2.up.A _ (hi2.sg.gl i b hib).1, (q2.up.ρ _ (hi2.sg.gl i b hib).1).trans (hi2.sg.gl i b hib).2⟩⟩
                obtain ⟨rfl, cv, h1, h2⟩ := fin_ok hrs h5 hsg3 hk
                have hle : hp.n ≤ s.hp.n := hi.le
                have hle2 : s.hp.n ≤ s2.hp.n := hi2.le
                exact ⟨cv, h1, cv, g3, rfl, q1, (hfr1.trans (fun id hid => Nat.le_trans hle hid) hi2.fr).trans (fun id hid => Nat.le_trans (Nat.le_trans hle hle2) hid) q2, h2, Nat.le_trans hle (Nat.le_trans hle2 q4)⟩
            · simp at hk
          cases ex with
          | normal =>
            cases e <;> simp only [exOK] at he
            exact main hk
          | exit i => simp [finD] at hk
          | ret =>
            cases e <;> simp only [exOK] at he
            exact main hk
      | _ => simp [chkPre] at hc
    | _ => simp [chkPre] at hc

theorem callFD_ok (hΓ : SpecOK P G Γ) {f : Nat} {F : FnD} (hF : chkFnD P G T f F = true) {C : List D → Hp → Res} (hC : ∀ vs hp v hp', C vs hp = some (v, hp') → bodied P F.g = true ∧ FnOKD P G F.g vs hp v hp') {L : Nat} {vs : List D} {hp hp' : Hp} {v : D}
    (hrun : callFD Γ C L F vs hp = some (v, hp')) : bodied P f = true ∧ FnOK P G f vs hp v hp' := by
  unfold chkFnD at hF
  split at hF
  · rename_i fn hf
    simp only [Bool.and_eq_true, beq_iff_eq, bne_iff_ne, ne_eq, decide_eq_true_eq] at hF
    obtain ⟨hnt, hname, hrs, h5, hc⟩ := hF
    split at hc
    · rename_i code hb
      refine ⟨by simp [bodied, hf, hb, hname], ?_⟩
      intro w g cargs hhr hgl hlen hrel
      refine calls_of_wp_defers hf hb ?_
      unfold callFD at hrun
      rw [chk_iff, argsK_eq] at hrun
      obtain ⟨hfit, hrun⟩ := hrun
      simp only [lenL_eq, Nat.zero_add, Nat.ble_eq] at hfit
      rw [hnt]
      exact pre_ok (hp := hp) hΓ hrs h5 hC F.pre code hc _ g w _ hrun ⟨args_ok hfit hhr hgl hlen hrel, FR.refl _ _ _ _, Nat.le_refl _, rfl⟩
    · simp at hc
  · simp at hF
end
end Go.DM
