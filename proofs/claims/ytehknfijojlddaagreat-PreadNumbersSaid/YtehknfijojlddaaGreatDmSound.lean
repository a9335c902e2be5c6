/-
  A step of the machine is the model's: operations, calls, guards.
-/
import Derived.Test.YtehknfijojlddaaGreatDmOrder
namespace Go.DM
set_option autoImplicit false
set_option linter.unusedSimpArgs false
set_option linter.unusedVariables false

def callF? : Op → Option (FuncId × List Operand)
  | .call c => match c.callee with | .value (.func f) => some (f, c.args.toList) | _ => none
  | _ => none
def callD? : Op → Option (Operand × List Operand)
  | .call c => match c.callee with | .value (.tmp n) => some (.tmp n, c.args.toList) | _ => none
  | _ => none
def bodied (P : Program) (f : FuncId) : Bool := match P.funcs[f]? with | some fn => fn.body.isSome && fn.name != "runtime.NumGoroutine" | none => false
def chkCall (P : Program) (cx : Cx) (T : Nat → Bool) (o : IOp) (m : Op) : Bool := match o with
  | .call f as => (match callF? m with | some (f', as') => (f == f') && (srcsOK cx as as' && T f) | none => false)
  | .dcall x as => (match callD? m with | some (x', as') => srcOK cx x x' && srcsOK cx as as' | none => false)
  | _ => false
def chkG (P : Program) (cx : Cx) (T : Nat → Bool) (ops : Array Oper) (x : GOp) (m : Oper) : Bool :=
  (chkA P cx x.o m.op || (chkB P cx x.o m.op || (chkC P cx x.o m.op || chkCall P cx T x.o m.op))) && ((x.d == m.dst) && (match x.g, m.guard with
    | none, none => true
    | some (n, b), some (j, b') => (b == b') && (((ops[j]?).bind (·.dst) == some n) && Nat.blt n cx.nt)
    | _, _ => false))

/-- what a call gives, in a world -/
def FnOK (P : Program) (G : List Nat) (f : FuncId) (vs : List D) (hp : Hp) (v : D) (hp' : Hp) : Prop :=
  ∀ (w : World) (g : Gh) (cargs : Array Value), HR g hp.t.get hp.n w → (∀ (i b : Nat), G[i]? = some b → g.A i ∧ g.ρ i = b) → vs.length = cargs.size → (∀ (i : Nat) x cv, vs[i]? = some x → cargs[i]? = some cv → VRel g x cv) →
    Calls P f cargs w fun e w' => ∃ cv g', e = .returned cv ∧ HR g' hp'.t.get hp'.n w' ∧ FR (fun id => hp.n ≤ id) g hp.t.get w g' hp'.t.get w' ∧ VRel g' v cv ∧ hp.n ≤ hp'.n
def SpecOK (P : Program) (G : List Nat) (Γ : Sp) : Prop := ∀ f vs hp v hp', Γ f vs hp = some (v, hp') → bodied P f = true ∧ FnOK P G f vs hp v hp'

section
variable {g g' : Gh} {cx : Cx} {s s' : FS} {w w' : World} {a : Act} {P : Program} {Γ : Sp} {at_ : Nat} {M : List Nat} {T : Nat → Bool} {v : D} {ws : List (Nat × Option Obj)} {next : Act → World → Prop} {Q : Exit → Act → World → Prop}

theorem op_sound {m : Oper} {o : IOp} (hc : chkA P cx o m.op = true ∨ chkB P cx o m.op = true ∨ chkC P cx o m.op = true) (hs : eff at_ s.E s.H o = some (v, ws)) (h : SG g cx s w a) (hf : o.makes = true → ¬ g.A at_ ∧ at_ < s.n)
    (hn : Goes at_ cx g s w a m.dst v ws next) : m.wp P a w next Q := by
  obtain ⟨dst, op, ty, pos, aft, gd⟩ := m
  rcases hc with hc | hc | hc
  · cases o with
    | mov => exact op_mov hc hs h hn
    | pick => exact op_pick hc hs h hn
    | bin => exact op_bin hc hs h hn
    | un => exact op_un hc hs h hn
    | cvi => exact op_cvi hc hs h hn
    | cvs => exact op_cvs hc hs h hn
    | i2s => exact op_i2s hc hs h hn
    | len => exact op_len hc hs h hn
    | idx => exact op_idx hc hs h hn
    | ixa => exact op_ixa hc hs h hn
    | ixp => exact op_ixp hc hs h hn
    | subs => exact op_subs hc hs h hn
    | subl => exact op_subl hc hs h hn
    | fld => exact op_fld hc hs h hn
    | fad => exact op_fad hc hs h hn
    | ld => exact op_ld hc hs h hn
    | ext => exact op_ext hc hs h hn
    | nck => exact op_nck hc hs h hn
    | mx => exact op_mx hc hs h hn
    | mkf => exact op_mkf hc hs h hn
    | eq => exact op_eq hc hs h hn
    | b2s => exact op_b2s hc hs h hn
    | _ => simp [chkA] at hc
  · cases o with
    | new => exact op_new hc hs h (hf rfl).1 (hf rfl).2 hn
    | box => exact op_box hc hs h (hf rfl).1 (hf rfl).2 hn
    | bsl => exact op_bsl hc hs h (hf rfl).1 (hf rfl).2 hn
    | bld => exact op_bld hc hs h hn
    | mks => exact op_mks hc hs h (hf rfl).1 (hf rfl).2 hn
    | st => exact op_st hc hs h hn
    | app => exact op_app hc hs h (hf rfl).1 (hf rfl).2 hn
    | apt => exact op_apt hc hs h (hf rfl).1 (hf rfl).2 hn
    | mkm => exact op_mkm hc hs h (hf rfl).1 (hf rfl).2 hn
    | _ => simp [chkB] at hc
  · cases o with
    | lkp => exact op_lkp hc hs h hn
    | mup => exact op_mup hc hs h hn
    | ment => exact op_ment hc hs h hn
    | mest => exact op_mest hc hs h hn
    | _ => simp [chkC] at hc

theorem callF?_some {o : Op} {f : FuncId} {as : List Operand} (h : callF? o = some (f, as)) : ∃ ts, o = .call ⟨.value (.func f), ⟨as⟩, ts⟩ := by
  unfold callF? at h
  split at h
  · rename_i c
    obtain ⟨callee, ⟨args⟩, ats⟩ := c
    simp only at h
    split at h
    · simp only [Option.some.injEq, Prod.mk.injEq] at h
      obtain ⟨rfl, rfl⟩ := h
      exact ⟨_, rfl⟩
    · simp at h
  · simp at h
theorem callD?_some {o : Op} {x : Operand} {as : List Operand} (h : callD? o = some (x, as)) : ∃ ts, o = .call ⟨.value x, ⟨as⟩, ts⟩ := by
  unfold callD? at h
  split at h
  · rename_i c
    obtain ⟨callee, ⟨args⟩, ats⟩ := c
    simp only at h
    split at h
    · simp only [Option.some.injEq, Prod.mk.injEq] at h
      obtain ⟨rfl, rfl⟩ := h
      exact ⟨_, rfl⟩
    · simp at h
  · simp at h

/-- behind a call: what was hidden is there again -/
theorem call_back {H' : Nat → Option Obj} {n' : Nat} {cv : Value} {dst : Option Nat} (h : SG g cx s w a) (q1 : HR g' H' n' w') (q2 : FR (fun id => s.n ≤ id) g (hideF M s.H) w g' H' w') (q3 : VRel g' v cv) (hn : s.n ≤ n') :
    SG g' cx ⟨putF s.E dst v, backF M s.H H', n'⟩ w' (a.put dst cv) ∧ FR (fun id => s.n ≤ id) g s.H w g' (backF M s.H H') w' := by
  have hidden : ∀ id o, hideF M s.H id = some o → id ∉ M ∧ s.H id = some o := by
    intro id o hid
    simp only [hideF] at hid
    split at hid
    · simp at hid
    · exact ⟨by assumption, hid⟩
  have masked : ∀ id o, id ∈ M → s.H id = some o → g.A id ∧ g'.ρ id = g.ρ id ∧ g.ρ id < w.heap.size ∧ w'.heap[g.ρ id]? = w.heap[g.ρ id]? := by
    intro id o hM ho
    have hA := h.hr.made id o ho
    have hb := h.hr.block ho
    refine ⟨hA, q2.up.ρ id hA, hb, q2.block _ hb ?_⟩
    intro id' o' h1 e
    obtain ⟨h2, h3⟩ := hidden id' o' h1
    exact h.hr.apart id' id o' o h3 ho (by rintro rfl; exact h2 hM) e
  have look : ∀ id o, backF M s.H H' id = some o → (id ∈ M ∧ s.H id = some o) ∨ (id ∉ M ∧ H' id = some o) := by
    intro id o hid
    simp only [backF] at hid
    split at hid
    · exact .inl ⟨by assumption, hid⟩
    · exact .inr ⟨by assumption, hid⟩
  have cross : ∀ i j o o', i ∈ M → s.H i = some o → H' j = some o' → g'.ρ i ≠ g'.ρ j := by
    intro i j o o' hM ho ho' e
    obtain ⟨m1, m2, m3, m4⟩ := masked i o hM ho
    rcases q2.live j o' ho' with h1 | ⟨id', o2, h1, h2⟩
    · rw [m2] at e; omega
    · obtain ⟨h3, h4⟩ := hidden id' o2 h1
      refine h.hr.apart i id' o o2 ho h4 (by rintro rfl; exact h3 hM) ?_
      rw [h2, ← e, m2]
  refine ⟨⟨HR.of ?_ ?_ ?_ q1.lt, (h.er.up q2.up).put dst q3, ?_⟩, ⟨q2.os, q2.tape, q2.output, q2.size, ?_, q2.up, q2.fresh, ?_⟩⟩
  · intro id o hid
    rcases look id o hid with ⟨hM, ho⟩ | ⟨hM, ho⟩
    · obtain ⟨m1, m2, m3, m4⟩ := masked id o hM ho
      obtain ⟨b, k1, k2⟩ := h.hr.holds ho
      exact ⟨b, by rw [m2, m4]; exact k1, k2.up q2.up m1⟩
    · exact q1.holds ho
  · intro i j o o' h1 h2 hne
    rcases look i o h1 with ⟨hM, ho⟩ | ⟨hM, ho⟩ <;> rcases look j o' h2 with ⟨hM', ho'⟩ | ⟨hM', ho'⟩
    · rw [(masked i o hM ho).2.1, (masked j o' hM' ho').2.1]
      exact h.hr.apart i j o o' ho ho' hne
    · exact cross i j o o' hM ho ho'
    · exact (cross j i o' o hM' ho' ho).symm
    · exact q1.apart i j o o' ho ho' hne
  · intro id o hid
    rcases look id o hid with ⟨hM, ho⟩ | ⟨hM, ho⟩
    · exact q2.up.A id (h.hr.made id o ho)
    · exact q1.made id o ho
  · intro i b hb
    obtain ⟨k1, k2⟩ := h.gl i b hb
    exact ⟨q2.up.A i k1, (q2.up.ρ i k1).trans k2⟩
  · intro b hb hno
    refine q2.block b hb ?_
    intro id o hid
    exact hno id o (hidden id o hid).2
  · intro id o hid
    rcases look id o hid with ⟨hM, ho⟩ | ⟨hM, ho⟩
    · exact .inr ⟨id, o, ho, (masked id o hM ho).2.1.symm⟩
    · rcases q2.live id o ho with h1 | ⟨id', o', h1, h2⟩
      · exact .inl h1
      · exact .inr ⟨id', o', (hidden id' o' h1).2, h2⟩

theorem HR.hide (h : HR g s.H s.n w) : HR g (hideF M s.H) s.n w := by
  have hidden : ∀ id o, hideF M s.H id = some o → s.H id = some o := by
    intro id o hid
    simp only [hideF] at hid
    split at hid
    · simp at hid
    · exact hid
  exact HR.of (fun id o hid => h.holds (hidden id o hid)) (fun i j o o' h1 h2 => h.apart i j o o' (hidden _ _ h1) (hidden _ _ h2)) (fun id o hid => h.made id o (hidden id o hid)) h.lt

/-- where a step leads -/
def Leads (cx : Cx) (g : Gh) (s : FS) (w : World) (a : Act) (at_ : Nat) (s' : FS) (next : Act → World → Prop) : Prop :=
  ∀ a' w' g', SG g' cx s' w' a' → FR (fun id => id = at_ ∨ s.n ≤ id) g s.H w g' s'.H w' → s.n ≤ s'.n → a'.defers = a.defers → next a' w'

theorem enter {f : Nat} {cargs : Array Value} {vs : List D} {hp hp' : Hp} {m : Oper} (hΓ : SpecOK P cx.G Γ) (hg : Γ f vs hp = some (v, hp')) (hh : hp.t.get = hideF M s.H) (hn : hp.n = s.n) (h : SG g cx s w a)
    (hrun : bodied P f = true → (execOp a.eval m).run P w = .ok (.enter f cargs) w) (hl : vs.length = cargs.size) (hrel : ∀ (i : Nat) x cv, vs[i]? = some x → cargs[i]? = some cv → VRel g x cv)
    (hgo : Leads cx g s w a at_ ⟨putF s.E m.dst v, backF M s.H hp'.t.get, hp'.n⟩ next) : m.wp P a w next Q := by
  obtain ⟨hb, hfn⟩ := hΓ _ _ _ _ _ hg
  unfold Oper.wp
  rw [hrun hb, Oper.upon_enter]
  refine (hfn w g cargs (by rw [hh, hn]; exact h.hr.hide) h.gl hl hrel).mono ?_
  rintro e w' ⟨cv, g', rfl, q1, q2, q3, q4⟩
  simp only
  rw [hh, hn] at q2
  rw [hn] at q4
  obtain ⟨r1, r2⟩ := call_back (dst := m.dst) h q1 q2 q3 q4
  exact hgo _ _ _ r1 (r2.weaken (fun id hid => .inr hid)) q4 (put_defers _ _ _)

theorem body_of {f : Nat} (hb : bodied P f = true) : ∃ fn, P.funcs[f]? = some fn ∧ fn.body.isNone = false ∧ fn.name ≠ "runtime.NumGoroutine" := by
  unfold bodied at hb
  split at hb
  · rename_i fn hfn
    simp only [Bool.and_eq_true, bne_iff_ne, ne_eq] at hb
    refine ⟨fn, hfn, ?_, hb.2⟩
    cases hq : fn.body <;> simp_all
  · simp at hb

theorem body_sound {m : Oper} {x : GOp} (hΓ : SpecOK P cx.G Γ) (hc : chkA P cx x.o m.op = true ∨ chkB P cx x.o m.op = true ∨ chkC P cx x.o m.op = true ∨ chkCall P cx T x.o m.op = true) (hd : x.d = m.dst) (hr : RBody Γ at_ M x s s') (h : SG g cx s w a)
    (hf : x.o.makes = true → ¬ g.A at_ ∧ at_ < s.n) (hgo : Leads cx g s w a at_ s' next) : m.wp P a w next Q := by
  have plain : (chkA P cx x.o m.op = true ∨ chkB P cx x.o m.op = true ∨ chkC P cx x.o m.op = true) → (∃ v ws, eff at_ s.E s.H x.o = some (v, ws) ∧ s' = ⟨putF s.E x.d v, putsF s.H ws, s.n⟩) → m.wp P a w next Q := by
    rintro hc ⟨v, ws, he, rfl⟩
    refine op_sound hc he h hf ?_
    intro a' w' g' k1 k2 k3
    rw [hd] at hgo
    exact hgo a' w' g' k1 (k2.weaken (fun id hid => .inl hid)) (Nat.le_refl _) k3
  obtain ⟨d, gd, o⟩ := x
  obtain ⟨dst, op, ty, pos, aft, gd'⟩ := m
  simp only at hd hc plain hgo hf
  subst hd
  unfold RBody at hr
  simp only at hr
  split at hr
  · rename_i f as
    obtain ⟨hp, v, hp', hh, hn, hg, rfl⟩ := hr
    rcases hc with hc | hc | hc | hc
    · simp [chkA] at hc
    · simp [chkB] at hc
    · simp [chkC] at hc
    · simp only [chkCall] at hc
      split at hc
      · rename_i f' as' hop
        obtain ⟨ts, rfl⟩ := callF?_some hop
        simp only [Bool.and_eq_true, beq_iff_eq] at hc
        obtain ⟨rfl, h1, -⟩ := hc
        obtain ⟨k1, k2⟩ := srcs_rel h as as' h1
        refine enter (m := ⟨d, .call ⟨.value (.func f), ⟨as'⟩, ts⟩, ty, pos, aft, gd'⟩) (cargs := (as'.map a.eval).toArray) hΓ hg hh hn h ?_ (by simp [k1]) (fun i x cv hx hcv => k2 i x cv hx (by simpa using hcv)) hgo
        intro hb
        obtain ⟨fn, b1, b2, b3⟩ := body_of hb
        simp [execOp, resolve, Act.eval, Deferred.ofValue, invoke, callFunc, b1, b3, b2]
        intro hb0
        rw [hb0] at b2
        simp at b2
      · simp at hc
  · rename_i y as
    obtain ⟨f, cs, hy, hp, v, hp', hh, hn, hg, rfl⟩ := hr
    rcases hc with hc | hc | hc | hc
    · simp [chkA] at hc
    · simp [chkB] at hc
    · simp [chkC] at hc
    · simp only [chkCall] at hc
      split at hc
      · rename_i x' as' hop
        obtain ⟨ts, rfl⟩ := callD?_some hop
        simp only [Bool.and_eq_true] at hc
        obtain ⟨h0, h1⟩ := hc
        have r0 := src_rel h0 h
        rw [hy] at r0
        obtain ⟨k1, k2⟩ := srcs_rel h as as' h1
        generalize hcv : a.eval x' = cv0 at r0
        cases r0 with
        | fn _ _ vs hl hv =>
        refine enter (m := ⟨d, .call ⟨.value x', ⟨as'⟩, ts⟩, ty, pos, aft, gd'⟩) (cargs := (as'.map a.eval).toArray ++ vs) hΓ hg hh hn h ?_ (by simp [k1, hl]) ?_ hgo
        · intro hb
          obtain ⟨fn, b1, b2, b3⟩ := body_of hb
          simp [execOp, resolve, hcv, Deferred.ofValue, invoke, callFunc, b1, b3, b2]
          intro hb0
          rw [hb0] at b2
          simp at b2
        · intro i x cv hx hcv
          have hla : (as.map (·.ev s.E)).length = (as'.map a.eval).length := by simp [k1]
          rcases Nat.lt_or_ge i (as'.map a.eval).length with hi | hi
          · rw [List.getElem?_append_left (by rw [hla]; exact hi)] at hx
            rw [Array.getElem?_append_left (by simpa using hi)] at hcv
            exact k2 i x cv hx (by simpa using hcv)
          · rw [List.getElem?_append_right (by rw [hla]; exact hi)] at hx
            rw [Array.getElem?_append_right (by simpa using hi)] at hcv
            refine hv _ x cv hx ?_
            rw [hla]
            simpa using hcv
      · simp at hc
  · rename_i n1 n2
    refine plain ?_ hr
    rcases hc with hc | hc | hc | hc
    · exact .inl hc
    · exact .inr (.inl hc)
    · exact .inr (.inr hc)
    · exfalso
      cases o <;> first | exact absurd rfl (n1 _ _) | exact absurd rfl (n2 _ _) | simp [chkCall] at hc

/-- an operation behind its guard -/
theorem gop_sound (hΓ : SpecOK P cx.G Γ) {ops : Array Oper} {j : Nat} {m : Oper} (hm : ops[j]? = some m) {x : GOp} (hc : chkG P cx T ops x m = true) (hr : RStep Γ at_ M x s s') (h : SG g cx s w a)
    (hf : x.o.makes = true → guardB s.E x.g = some true → ¬ g.A at_ ∧ at_ < s.n) (hgo : Leads cx g s w a at_ s' next) : wpOp P ops Q j next a w := by
  simp only [chkG, Bool.and_eq_true, Bool.or_eq_true, beq_iff_eq] at hc
  obtain ⟨hc, hd, hg⟩ := hc
  have skip : s' = ⟨putF s.E x.d (.tup []), s.H, s.n⟩ → next (a.put m.dst undef) w := by
    rintro rfl
    rw [hd] at hgo
    exact hgo _ _ g (h.put m.dst (.tup [] #[] rfl (by simp))) (FR.refl _ _ _ _) (Nat.le_refl _) (put_defers _ _ _)
  unfold wpOp
  rw [hm]
  simp only
  unfold RStep at hr
  cases hxg : x.g with
  | none =>
    rw [hxg] at hg hr
    cases hmg : m.guard with
    | some p => rw [hmg] at hg; simp at hg
    | none =>
    rw [if_pos (by simp [Region.wanted, hmg])]
    exact .inl (body_sound (T := T) hΓ hc hd hr h (fun hm => hf hm (by rw [hxg]; rfl)) hgo)
  | some p =>
    obtain ⟨n, b⟩ := p
    rw [hxg] at hg hr
    cases hmg : m.guard with
    | none => rw [hmg] at hg; simp at hg
    | some p =>
    obtain ⟨j', b'⟩ := p
    rw [hmg] at hg
    simp only [Bool.and_eq_true, beq_iff_eq, Nat.blt_eq] at hg
    obtain ⟨rfl, hj, hlt⟩ := hg
    have hlt' : n < a.tmps.size := by rw [h.er.size]; exact hlt
    have r := h.er.rel n hlt
    have ht : a.tmps[n]? = some (a.tmps.getD n undef) := by simp [Array.getD, hlt', Array.getElem?_eq_getElem hlt']
    generalize a.tmps.getD n undef = cv at r ht
    simp only [guardB] at hr
    cases hE : s.E n with
    | bool t =>
      rw [hE] at r hr
      cases r
      have hw : Region.wanted m (yielded ops a.tmps) = (t == b) := by simp [Region.wanted, hmg, yielded, hj, ht]
      rw [hw]
      cases htb : (t == b) with
      | true =>
        simp only [htb] at hr
        rw [if_pos rfl]
        exact .inl (body_sound (T := T) hΓ hc hd hr h (fun hm => hf hm (by rw [hxg]; simp only [guardB, hE, htb])) hgo)
      | false =>
        simp only [htb] at hr
        rw [if_neg (by simp)]
        exact skip hr
    | tup cs =>
      rw [hE] at r hr
      cases cs with
      | cons c cs => exact hr.elim
      | nil =>
      cases r
      have hw : Region.wanted m (yielded ops a.tmps) = false := by simp [Region.wanted, hmg, yielded, hj, ht]
      rw [hw, if_neg (by simp)]
      exact skip hr
    | _ => rw [hE] at hr; exact hr.elim
end
end Go.DM
