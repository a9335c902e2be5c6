/-
  A run of the abstract machine is a run of the model's: regions, branches, loops, calls.
-/
import Derived.Test.YtifmekddikapeaaAmOrder
import Derived.Test.YtifmekddikapeaaAmOpsH
import Derived.Test.YtifmekddikapeaaAmOpsI
namespace Go.AM
set_option autoImplicit false
set_option linter.unusedSimpArgs false
set_option linter.unusedVariables false

def srcsOK : List ASrc → List Operand → Bool
  | [], [] => true
  | x :: xs, y :: ys => srcOK x y && srcsOK xs ys
  | _, _ => false

def callF? : Op → Option (FuncId × List Operand)
  | .call c => match c.callee with | .value (.func f) => some (f, c.args.toList) | _ => none
  | _ => none

def callD? : Op → Option (Operand × List Operand)
  | .call c => match c.callee with | .value (.tmp n) => some (.tmp n, c.args.toList) | _ => none
  | _ => none

def bodied (P : Program) (f : FuncId) : Bool := match P.funcs[f]? with | some fn => fn.body.isSome && fn.name != "runtime.NumGoroutine" | none => false

def chkCall (P : Program) (o : IOp) (m : Oper) : Bool :=
  match o with
  | .call d f as => (m.dst == d) && (match callF? m.op with | some (f', as') => (f == f') && (srcsOK as as' && bodied P f) | none => false)
  | .dcall d f x as => (m.dst == d) && (match callD? m.op with | some (x', as') => srcOK x x' && (srcsOK as as' && bodied P f) | none => false)
  | _ => false

def chkOp (P : Program) (o : IOp) (m : Oper) : Bool := chkPure P o m || chkRow P o m || chkCall P o m || chkMem P o m || chkNewb P o m || chkRows P o m || chkFn P o m || chkW P o m

def chkG (P : Program) (ops : Array Oper) (x : GOp) (m : Oper) : Bool :=
  chkOp P x.o m && (x.o.dst == m.dst) && (match x.g, m.guard with
    | none, none => true
    | some (n, b), some (j, b') => (b == b') && ((ops[j]?).bind (·.dst) == some n)
    | _, _ => false)

def chkGs (P : Program) (ops : Array Oper) : Nat → List GOp → Bool
  | i, [] => i == ops.size
  | i, x :: l => (match ops[i]? with | some m => chkG P ops x m | none => false) && chkGs P ops (i + 1) l

/-- a region that draws its order: every order that its edges leave open is as good as the text's -/
def chkDraw (P : Program) (imp : List Nat) (ops : Array Oper) (l : List GOp) (pre : List (List Nat)) : Bool :=
  (P.follows .mixedOrders && chkGs P ops 0 l) && ((List.range l.length).all fun j =>
    (match ops[j]? with
      | some m => m.after.toList.all (fun e => !Region.binds .any e || decide (e.on < j)) && (pre.getD j []).all (fun i => m.after.toList.any fun e => Region.binds .any e && (e.on == i || (pre.getD e.on []).contains i))
      | none => false) &&
    (match l[j]? with
      | some x => (List.range j).all fun i => (pre.getD j []).contains i || (match l[i]? with | some y => indep imp y x | none => false)
      | none => false))

def chkCode (P : Program) (imp : List Nat) (base : Nat) : IR → Code → Bool
  | .bad, _ => true
  | .skip, .skip => true
  | .skip, .label _ => true
  | .reg l _, .region _ ops false => chkGs P ops 0 l
  | .reg l pre, .region _ ops true => chkDraw P imp ops l pre
  | .seq x y, .seq c d => chkCode P imp base x c && chkCode P imp base y d
  | .cond v x y, .cond u c d => srcOK v u && (chkCode P imp base x c && chkCode P imp base y d)
  | .block i x, .block j c => i == j && chkCode P imp base x c
  | .loop _ n x, .loop c => Nat.ble base n && chkCode P imp base x c
  | .cut _ n x, c => Nat.ble base n && chkCode P imp base x c
  | .gh _ x, c => chkCode P imp base x c
  | .ghp _ x, c => chkCode P imp base x c
  | .exit i, .exit j => i == j
  | .ret, .ret => true
  | _, _ => false

/-- what a call gives, in a world -/
def FnOK (P : Program) (f : FuncId) (vs : List V) (hp : List AObj) (v : V) (hp' : List AObj) : Prop :=
  ∀ (w : World) (g : Gh) (cargs : Array Value), g.β = byteT P → HR g hp w → vs.length = cargs.size → (∀ x ∈ vs, x.bare = true) →
    (∀ (i : Nat) x cv, vs[i]? = some x → cargs[i]? = some cv → VRel g.I g.ρ hp.length w x cv) →
    Calls P f cargs w fun e w' => ∃ cv g', e = .returned cv ∧ HR g' hp' w' ∧ FR g hp w g' hp' w' ∧ VRel g'.I g'.ρ hp'.length w' v cv ∧ OwnOK g' w' .res v cv

def SpecOK (P : Program) (Γ : ASpec) : Prop := ∀ f vs hp v hp', Γ f vs hp = some (true, v, hp') → FnOK P f vs hp v hp'

section
variable {w : World} {g : Gh} {s s' : St} {a : Act} {P : Program} {Γ : ASpec} {m : Oper} {next : Act → World → Prop} {Q : Exit → Act → World → Prop}

theorem srcs_rel (h : ER g s.hp.length w s.env a.tmps) : ∀ (xs : List ASrc) (ys : List Operand), srcsOK xs ys = true → xs.length = ys.length ∧
    ∀ (i : Nat) v cv, (xs.map fun x => disown (x.ev s))[i]? = some v → (ys.map a.eval)[i]? = some cv → VRel g.I g.ρ s.hp.length w v cv
  | [], [], _ => ⟨rfl, by simp⟩
  | x :: xs, y :: ys, hp => by
    simp only [srcsOK, Bool.and_eq_true] at hp
    obtain ⟨k1, k2⟩ := srcs_rel h xs ys hp.2
    refine ⟨by simp [k1], ?_⟩
    intro i v cv hv hcv
    cases i with
    | zero =>
      simp at hv hcv
      subst hv hcv
      exact (src_rel hp.1 h).disown
    | succ i => exact k2 i v cv (by simpa using hv) (by simpa using hcv)
  | [], _ :: _, hp => by simp [srcsOK] at hp
  | _ :: _, [], hp => by simp [srcsOK] at hp

theorem callF?_some {o : Op} {f : FuncId} {as : List Operand} (h : callF? o = some (f, as)) : ∃ ts, o = .call ⟨.value (.func f), ⟨as⟩, ts⟩ := by
  unfold callF? at h
  split at h
  · rename_i c
    obtain ⟨callee, ⟨args⟩, ats⟩ := c
    simp only at h
    split at h
    · simp only [Option.some.injEq, Prod.mk.injEq] at h
      obtain ⟨rfl, rfl⟩ := h
      exact ⟨_, rfl⟩
    · simp at h
  · simp at h

/-- the caller's rows are not the callee's -/
def Gh.hide (g : Gh) : Gh := { g with O := fun b => match g.O b with | some (.slot _) => none | o => o }

theorem HR.hide {hp : List AObj} (h : HR g hp w) : HR g.hide hp w := by
  refine ⟨?_, h.apart, h.notI, ?_, h.exI, ?_⟩
  · intro id cs hid
    obtain ⟨arr, e, fz, h1, h2⟩ := h.obj id cs hid
    refine ⟨arr, e, fz, h1, h2.len, h2.plain, h2.typed, h2.cold, h2.one, h2.rel, ?_, h2.bn⟩
    intro j c cv hc hcv
    have := h2.own j c cv hc hcv
    refine own_keep this rfl (fun b j hi => ⟨hi, rfl⟩) ?_
    intro b hb
    exact ⟨by simp [Gh.hide, hb], rfl, fun j hj => hj⟩
  · intro id cs hid
    simp [Gh.hide, h.notO id cs hid]
  · intro b o hb
    cases hO : g.O b with
    | none => simp [Gh.hide, hO] at hb
    | some o' => exact h.oLt b o' hO


/-- the rows of both, behind a call -/
def Gh.back (g g' : Gh) (dst : Option Nat) : Gh := { I := g'.I, ρ := g'.ρ, β := g'.β, O := fun b => match g.O b with
  | some (.slot n) => some (.slot n)
  | _ => match g'.O b with
    | some .res => dst.map .slot
    | some (.slot _) => none
    | o => o }

theorem Gh.back_slot {g g' : Gh} {dst : Option Nat} {b n : Nat} (h : g.O b = some (.slot n)) : (g.back g' dst).O b = some (.slot n) := by
  simp [Gh.back, h]

theorem Gh.back_else {g g' : Gh} {dst : Option Nat} {b : Nat} (h : ∀ n, g.O b ≠ some (.slot n)) : (g.back g' dst).O b = (match g'.O b with
    | some .res => dst.map .slot
    | some (.slot _) => none
    | o => o) := by
  cases hO : g.O b with
  | none => simp only [Gh.back, hO]
  | some o =>
    cases o with
    | slot n => exact absurd hO (h n)
    | cell i j => simp only [Gh.back, hO]
    | res => simp only [Gh.back, hO]

theorem call_back {hp' : List AObj} {w' : World} {g' : Gh} {dst : Option Nat} {v : V} {cv : Value} (h : SR g s w a) (q1 : HR g' hp' w') (q2 : FR g.hide s.hp w g' hp' w')
    (q3 : VRel g'.I g'.ρ hp'.length w' v cv) (q4 : OwnOK g' w' .res v cv) :
    SR (g.back g' dst) (St.setO { s with hp := hp' } dst v) w' (a.put dst cv) ∧ FR g s.hp w (g.back g' dst) hp' w' := by
  have hidden : ∀ b n, g.O b = some (.slot n) → g.hide.O b = none := fun b n hb => by simp [Gh.hide, hb]
  have nonObj : ∀ b n, g.O b = some (.slot n) → ∀ (id : Nat) cs, s.hp[id]? = some (some cs) → g.hide.ρ id ≠ b := by
    intro b n hb id cs hid e
    have := h.hr.notO id cs hid
    rw [show g.ρ id = b from e, hb] at this
    simp at this
  have unslot : ∀ b o, g'.O b = some o → ∀ n, g.O b ≠ some (.slot n) := by
    intro b o hb n hn
    have := q2.oSame b (h.hr.oLt _ _ hn) (nonObj b n hn) (hidden b n hn)
    rw [this] at hb
    simp at hb
  have backO : ∀ b o, g'.O b = some o → (∀ n, o ≠ .slot n) → o ≠ .res → (g.back g' dst).O b = some o := by
    intro b o hb h1 h2
    rw [Gh.back_else (unslot b o hb), hb]
    cases o with
    | slot n => exact absurd rfl (h1 n)
    | cell i j => rfl
    | res => exact absurd rfl h2
  have blk : ∀ b n, g.O b = some (.slot n) → w'.heap[b]? = w.heap[b]? ∧ ∀ j, g'.I b j → g.I b j := by
    intro b n hb
    have hlt := h.hr.oLt _ _ hb
    exact ⟨q2.block b hlt (nonObj b n hb) (hidden b n hb), fun j hj => q2.iSame b j hlt (nonObj b n hb) (hidden b n hb) hj⟩
  have up : Up g.I g.ρ s.hp.length w g'.I g'.ρ hp'.length w' := q2.up
  have hs : SR (g.back g' dst) { s with hp := hp' } w' a := by
    refine ⟨⟨?_, q1.apart, q1.notI, ?_, q1.exI, ?_⟩, ⟨h.er.size, ?_, ?_⟩⟩
    · intro id cs hid
      obtain ⟨arr, e, fz, h1, h2⟩ := q1.obj id cs hid
      refine ⟨arr, e, fz, h1, h2.len, h2.plain, h2.typed, h2.cold, h2.one, h2.rel, ?_, h2.bn⟩
      intro j c cv hc hcv
      refine own_keep (h2.own j c cv hc hcv) rfl (fun b j hi => ⟨hi, rfl⟩) ?_
      intro b hb
      exact ⟨backO b _ hb (by simp) (by simp), rfl, fun j hj => hj⟩
    · intro id cs hid
      have h0 := q1.notO id cs hid
      show (g.back g' dst).O (g'.ρ id) = none
      by_cases hsl : ∃ n, g.O (g'.ρ id) = some (.slot n)
      · obtain ⟨n, hn⟩ := hsl
        exfalso
        rcases q2.live id cs hid with ⟨cs₀, hl⟩ | ⟨_, hl | hl | ⟨id', cs', h5, h6⟩⟩
        · have hlt : id < s.hp.length := (List.getElem?_eq_some_iff.1 hl).1
          rw [show g'.ρ id = g.ρ id from q2.up.rho id hlt, h.hr.notO id cs₀ hl] at hn
          simp at hn
        · have := h.hr.oLt _ _ hn
          omega
        · exact hl (hidden _ n hn)
        · exact nonObj _ n hn id' cs' h5 h6
      · rw [Gh.back_else (fun n hn => hsl ⟨n, hn⟩), h0]
    · intro b o hb
      by_cases hsl : ∃ n, g.O b = some (.slot n)
      · obtain ⟨n, hn⟩ := hsl
        have := h.hr.oLt _ _ hn
        exact Nat.lt_of_lt_of_le this q2.size
      · rw [Gh.back_else (fun n hn => hsl ⟨n, hn⟩)] at hb
        cases hO : g'.O b with
        | none => rw [hO] at hb; simp at hb
        | some o' => exact q1.oLt b o' hO
    · intro n v cv hv hcv
      exact (h.er.rel n v cv hv hcv).up up
    · intro n v cv hv hcv
      refine own_keep (h.er.own n v cv hv hcv) q2.beta (fun b j hi => ⟨up.mono b j hi, up.cell b j hi⟩) ?_
      intro b hb
      obtain ⟨b1, b2⟩ := blk b n hb
      exact ⟨by simp [Gh.back, hb], b1, b2⟩
  have fr : FR g s.hp w (g.back g' dst) hp' w' := by
    refine ⟨q2.beta, q2.os, q2.tape, q2.output, q2.size, ?_, up, ?_, ?_, ?_⟩
    · intro b hb ho hO
      exact q2.block b hb ho (by simp [Gh.hide, hO])
    · intro b j hb ho hO hj
      exact q2.iSame b j hb ho (by simp [Gh.hide, hO]) hj
    · intro b hb ho hO
      have := q2.oSame b hb ho (by simp [Gh.hide, hO])
      rw [Gh.back_else (by simp [hO]), this]
    · intro id cs hid
      rcases q2.live id cs hid with hl | ⟨h1, h2 | h2 | h2⟩
      · exact .inl hl
      · exact .inr ⟨h1, .inl h2⟩
      · refine .inr ⟨h1, .inr (.inl fun h3 => h2 ?_)⟩
        show (match g.O (g'.ρ id) with | some (.slot _) => none | o => o) = none
        rw [show g.O (g'.ρ id) = none from h3]
      · exact .inr ⟨h1, .inr (.inr h2)⟩
  refine ⟨?_, fr⟩
  cases dst with
  | none => exact hs
  | some d =>
    refine hs.set d q3 ?_
    -- what the call hands over
    cases v with
    | sl k o xs =>
      cases o with
      | may u => simp [OwnOK]
      | own =>
        cases cv with
        | slice ad len cap =>
          cases ad with
          | none => simp [OwnOK]
          | some ad =>
            obtain ⟨o1, o2, o3⟩ := q4
            refine ⟨?_, o2, o3⟩
            rw [Gh.back_else (unslot _ _ o1), o1]
            rfl
        | _ => simp [OwnOK]
    | raw n =>
      cases cv with
      | pointer ad =>
        cases ad with
        | none => simp [OwnOK]
        | some ad =>
          obtain ⟨o1, o2, o3⟩ := q4
          refine ⟨?_, o2, o3⟩
          rw [Gh.back_else (unslot _ _ o1), o1]
          rfl
      | _ => simp [OwnOK]
    | ul k xs =>
      rcases q4 with q4 | ⟨b, cap, arr, e, fz, m0, m1, m2, m3, m4, m5, m6, m7, m8, m9⟩
      · exact .inl q4
      · refine .inr ⟨b, cap, arr, e, fz, m0, m1, m2, m3, ?_, m5, m6, m7, m8, m9⟩
        rw [Gh.back_else (unslot _ _ m4), m4]
        rfl
    | _ => simp [OwnOK]

theorem op_call (hΓ : SpecOK P Γ) (hβ : g.β = byteT P) {d : Option Nat} {f : Nat} {as : List ASrc} (hc : chkCall P (.call d f as) m = true) (hs : step Γ (.call d f as) s = some (true, s')) (h : SR g s w a) (hn : Goes g s w a s' next) : m.wp P a w next Q := by
  obtain ⟨dst, op, ty, pos, aft, gd⟩ := m
  simp only [chkCall, Bool.and_eq_true, beq_iff_eq] at hc
  obtain ⟨rfl, hc⟩ := hc
  split at hc
  · rename_i f' as' hop
    obtain ⟨ts, rfl⟩ := callF?_some hop
    simp only [Bool.and_eq_true, beq_iff_eq] at hc
    obtain ⟨rfl, h1, h2⟩ := hc
    simp only [step] at hs
    split at hs
    · rename_i c v hp' hg
      simp only [Option.some.injEq, Prod.mk.injEq] at hs
      obtain ⟨rfl, rfl⟩ := hs
      obtain ⟨k1, k2⟩ := srcs_rel h.er as as' h1
      have hfn := hΓ _ _ _ _ _ hg
      unfold bodied at h2
      split at h2
      · rename_i fn hfn'
        simp only [Bool.and_eq_true, bne_iff_ne, ne_eq] at h2
        obtain ⟨h3, h4⟩ := h2
        have hnone : fn.body.isNone = false := by cases hb : fn.body <;> simp_all
        have hrun : (execOp a.eval ⟨dst, .call ⟨.value (.func f), ⟨as'⟩, ts⟩, ty, pos, aft, gd⟩).run P w = .ok (.enter f (as'.map a.eval).toArray) w := by
          simp [execOp, resolve, Act.eval, Deferred.ofValue, invoke, callFunc, hfn', h4, hnone]
          intro hb0
          rw [hb0] at h3
          simp at h3
        unfold Oper.wp
        rw [hrun, Oper.upon_enter]
        refine (hfn w g.hide (as'.map a.eval).toArray hβ h.hr.hide (by simp [k1]) (by
          intro x hx
          obtain ⟨y, _, rfl⟩ := List.mem_map.1 hx
          exact disown_bare _) (fun i x cv hx hcv => k2 i x cv hx (by simpa using hcv))).mono ?_
        rintro e w' ⟨cv, g', rfl, q1, q2, q3, q4⟩
        simp only
        obtain ⟨r1, r2⟩ := call_back (dst := dst) h q1 q2 q3 q4
        refine hn _ _ _ r1 ?_ (by cases dst <;> rfl)
        cases dst <;> exact r2
      · simp at h2
    · simp at hs
  · simp at hc

theorem callD?_some {o : Op} {x : Operand} {as : List Operand} (h : callD? o = some (x, as)) : ∃ ts, o = .call ⟨.value x, ⟨as⟩, ts⟩ := by
  unfold callD? at h
  split at h
  · rename_i c
    obtain ⟨callee, ⟨args⟩, ats⟩ := c
    simp only at h
    split at h
    · simp only [Option.some.injEq, Prod.mk.injEq] at h
      obtain ⟨rfl, rfl⟩ := h
      exact ⟨_, rfl⟩
    · simp at h
  · simp at h

theorem op_dcall (hΓ : SpecOK P Γ) (hβ : g.β = byteT P) {d : Option Nat} {f : Nat} {x : ASrc} {as : List ASrc} (hc : chkCall P (.dcall d f x as) m = true) (hs : step Γ (.dcall d f x as) s = some (true, s')) (h : SR g s w a) (hn : Goes g s w a s' next) : m.wp P a w next Q := by
  obtain ⟨dst, op, ty, pos, aft, gd⟩ := m
  simp only [chkCall, Bool.and_eq_true, beq_iff_eq] at hc
  obtain ⟨rfl, hc⟩ := hc
  split at hc
  · rename_i x' as' hop
    obtain ⟨ts, rfl⟩ := callD?_some hop
    simp only [Bool.and_eq_true, beq_iff_eq] at hc
    obtain ⟨h0, h1, h2⟩ := hc
    have r0 := src_rel h0 h.er
    simp only [step] at hs
    split at hs
    · rename_i f' caps hx
      rw [hx] at r0
      split at hs
      · rename_i c v hp' hg
        simp only [Option.some.injEq, Prod.mk.injEq, Bool.and_eq_true] at hs
        obtain ⟨⟨hff, rfl⟩, rfl⟩ := hs
        obtain rfl := Nat.eq_of_beq_eq_true hff
        generalize hcv : a.eval x' = cv0 at r0
        cases r0 with
        | fn _ _ vs hl hv =>
        obtain ⟨k1, k2⟩ := srcs_rel h.er as as' h1
        have hfn := hΓ _ _ _ _ _ hg
        unfold bodied at h2
        split at h2
        · rename_i fn hfn'
          simp only [Bool.and_eq_true, bne_iff_ne, ne_eq] at h2
          obtain ⟨h3, h4⟩ := h2
          have hnone : fn.body.isNone = false := by cases hb : fn.body <;> simp_all
          have hrun : (execOp a.eval ⟨dst, .call ⟨.value x', ⟨as'⟩, ts⟩, ty, pos, aft, gd⟩).run P w = .ok (.enter f' ((as'.map a.eval).toArray ++ vs)) w := by
            simp [execOp, resolve, hcv, Deferred.ofValue, invoke, callFunc, hfn', h4, hnone]
            intro hb0
            rw [hb0] at h3
            simp at h3
          unfold Oper.wp
          rw [hrun, Oper.upon_enter]
          refine (hfn w g.hide ((as'.map a.eval).toArray ++ vs) hβ h.hr.hide (by simp [k1, hl]) (by
            intro x hx
            rcases List.mem_append.1 hx with hx | hx
            · obtain ⟨y, _, rfl⟩ := List.mem_map.1 hx
              exact disown_bare _
            · obtain ⟨y, _, rfl⟩ := List.mem_map.1 hx
              exact disown_bare _) (fun i x cv hx hcv => by
              have hla : (as.map fun y => disown (y.ev s)).length = (as'.map a.eval).length := by simp [k1]
              rcases Nat.lt_or_ge i (as'.map a.eval).length with hi | hi
              · rw [List.getElem?_append_left (by rw [hla]; exact hi)] at hx
                rw [Array.getElem?_append_left (by simpa using hi)] at hcv
                exact k2 i x cv hx (by simpa using hcv)
              · rw [List.getElem?_append_right (by rw [hla]; exact hi), List.getElem?_map, Option.map_eq_some_iff] at hx
                obtain ⟨y, hy, rfl⟩ := hx
                rw [Array.getElem?_append_right (by simpa using hi)] at hcv
                refine (hv _ y cv hy ?_).disown
                rw [hla]
                simpa using hcv)).mono ?_
          rintro e w' ⟨cv, g', rfl, q1, q2, q3, q4⟩
          simp only
          obtain ⟨r1, r2⟩ := call_back (dst := dst) h q1 q2 q3 q4
          refine hn _ _ _ r1 ?_ (by cases dst <;> rfl)
          cases dst <;> exact r2
        · simp at h2
      · simp at hs
    · simp at hs
  · simp at hc

theorem op_sound (hΓ : SpecOK P Γ) (hβ : g.β = byteT P) {o : IOp} (hc : chkOp P o m = true) (hs : step Γ o s = some (true, s')) (h : SR g s w a) (hn : Goes g s w a s' next) : m.wp P a w next Q := by
  unfold chkOp at hc
  simp only [Bool.or_eq_true] at hc
  rcases hc with ((((((hc | hc) | hc) | hc) | hc) | hc) | hc) | hc
  · cases o with
    | pick => exact op_pick hc hs h hn
    | bin => exact op_bin hc hs h hn
    | un => exact op_un hc hs h hn
    | cvi => exact op_cvi hc hs h hn
    | cvs => exact op_cvs hc hs h hn
    | b2s => exact op_b2s hc hs h hn
    | i2s => exact op_i2s hc hs h hn
    | r2s => exact op_r2s hc hs h hn
    | lens => exact op_lens hc hs h hn
    | lenl => exact op_lenl hc hs h hn
    | idx => exact op_idx hc hs h hn
    | ixa => exact op_ixa hc hs h hn
    | subs => exact op_subs hc hs h hn
    | subl => exact op_subl hc hs h hn
    | fad => exact op_fad hc hs h hn
    | fld => exact op_fld hc hs h hn
    | ext => exact op_ext hc hs h hn
    | nck => exact op_nck hc hs h hn
    | mx => exact op_mx hc hs h hn
    | beq => exact op_beq hc hs h hn
    | peq => exact op_peq hc hs h hn
    | ld d n agg take x =>
      cases take with
      | false => exact op_ld hc hs h hn
      | true => simp [chkPure] at hc
    | _ => simp [chkPure] at hc
  · cases o with
    | mov => exact op_mov hc hs h hn
    | bsl => exact op_bsl hβ hc hs h hn
    | s2b => exact op_s2b hβ hc hs h hn
    | s2r => exact op_s2r hβ hc hs h hn
    | app => exact op_app hβ hc hs h hn
    | apps => exact op_apps hβ hc hs h hn
    | _ => simp [chkRow] at hc
  · cases o with
    | call => exact op_call hΓ hβ hc hs h hn
    | dcall => exact op_dcall hΓ hβ hc hs h hn
    | _ => simp [chkCall] at hc
  · cases o with
    | new => exact op_new hc hs h hn
    | box => exact op_box hc hs h hn
    | st => exact op_st hc hs h hn
    | ld d n agg take x =>
      cases take with
      | true => exact op_ldTake hc hs h hn
      | false => simp [chkMem] at hc
    | bld => exact op_bld hc hs h hn
    | eqs => exact op_eqs hc hs h hn
    | mks => exact op_mks hβ hc hs h hn
    | _ => simp [chkMem] at hc
  · cases o with
    | newb => exact op_newb hc hs h hn
    | boxb => exact op_boxb hc hs h hn
    | _ => simp [chkNewb] at hc
  · cases o with
    | s2o => exact op_s2o hc hs h hn
    | mko => exact op_mko hc hs h hn
    | blo => exact op_blo hc hs h hn
    | aro => exact op_aro hc hs h hn
    | ixp => exact op_ixp hc hs h hn
    | ixo => exact op_ixo hc hs h hn
    | leno => exact op_leno hc hs h hn
    | o2s => exact op_o2s hc hs h hn
    | ldo => exact op_ldo hc hs h hn
    | sto => exact op_sto hc hs h hn
    | mn3 => exact op_mn3 hc hs h hn
    | _ => simp [chkRows] at hc
  · cases o with
    | boxe => exact op_boxe hc hs h hn
    | alr => exact op_alr hc hs h hn
    | frz => exact op_frz hc hs h hn
    | lde => exact op_lde hc hs h hn
    | mkf => exact op_mkf hc hs h hn
    | _ => simp [chkFn] at hc
  · cases o with
    | mku => exact op_mku hβ hc hs h hn
    | apu => exact op_apu hβ hc hs h hn
    | apv => exact op_apv hβ hc hs h hn
    | apw => exact op_apw hβ hc hs h hn
    | blu => exact op_blu hβ hc hs h hn
    | s2u => exact op_s2u hβ hc hs h hn
    | lnw => exact op_lnw hc hs h hn
    | ixw => exact op_ixw hc hs h hn
    | fdw => exact op_fdw hc hs h hn
    | ldw => exact op_ldw hc hs h hn
    | stw => exact op_stw hc hs h hn
    | _ => simp [chkW] at hc

/-- a run's place: the relation, what has not turned, the deferred calls -/
structure Inv (g₀ : Gh) (hp₀ : List AObj) (w₀ : World) (df : List Deferred) (g : Gh) (s : St) (w : World) (a : Act) : Prop where
  sr : SR g s w a
  fr : FR g₀ hp₀ w₀ g s.hp w
  df : a.defers = df

theorem SR.renew (h : SR g s w a) (n : Nat) (b : Bool) (hv : s.get n = .bool b) : SR g (s.set n (.bool b)) w a := by
  have := h.bare n
  rw [hv] at this
  exact this

/-- a slot's test, as the model asks it -/
theorem wanted_of (h : SR g s w a) {o : Oper} {ops : Array Oper} {j n : Nat} {b b' : Bool} (hj : (ops[j]?).bind (·.dst) = some n) (hg : o.guard = some (j, b')) (hv : s.get n = .bool b) :
    Region.wanted o (yielded ops a.tmps) = (b == b') := by
  have hn : n < s.env.length := by
    rcases Nat.lt_or_ge n s.env.length with h1 | h1
    · exact h1
    · simp [St.get, List.getD, List.getElem?_eq_none h1] at hv
  have hn' : n < a.tmps.size := by rw [← h.er.size]; exact hn
  have r := h.er.get n
  rw [hv] at r
  have ht : a.tmps[n]? = some (a.tmps.getD n undef) := by simp [Array.getD, hn', Array.getElem?_eq_getElem hn']
  generalize a.tmps.getD n undef = cv at r ht
  cases r
  simp [Region.wanted, hg, yielded, hj, ht]

/-- a test that was left out asks for nothing -/
theorem wanted_no (h : SR g s w a) {o : Oper} {ops : Array Oper} {j n : Nat} {b' : Bool} (hj : (ops[j]?).bind (·.dst) = some n) (hg : o.guard = some (j, b')) (hv : s.get n = .tup []) :
    Region.wanted o (yielded ops a.tmps) = false := by
  have hn : n < s.env.length := by
    rcases Nat.lt_or_ge n s.env.length with h1 | h1
    · exact h1
    · simp [St.get, List.getD, List.getElem?_eq_none h1] at hv
  have hn' : n < a.tmps.size := by rw [← h.er.size]; exact hn
  have r := h.er.get n
  rw [hv] at r
  have ht : a.tmps[n]? = some (a.tmps.getD n undef) := by simp [Array.getD, hn', Array.getElem?_eq_getElem hn']
  generalize a.tmps.getD n undef = cv at r ht
  cases r
  simp [Region.wanted, hg, yielded, hj, ht]

theorem put_undef (h : SR g s w a) (d : Option Nat) : SR g (s.setO d (.tup [])) w (a.put d undef) := by
  cases d with
  | none => exact h
  | some d => exact h.set d (.tup [] #[] rfl (by simp)) (by simp [OwnOK])

theorem setO_hp (s : St) (d : Option Nat) (v : V) : (s.setO d v).hp = s.hp := by cases d <;> rfl

theorem put_df (a : Act) (d : Option Nat) (v : Value) : (a.put d v).defers = a.defers := by cases d <;> rfl

theorem chk_some {R : Type} {c : Bool} {x : Option R} {r : R} (h : chk c x = some r) : c = true ∧ x = some r := by
  cases c with
  | true => exact ⟨rfl, h⟩
  | false => simp [chk] at h

theorem runOps_sound (hΓ : SpecOK P Γ) {g₀ : Gh} (hβ : g₀.β = byteT P) {R : Type} {K : St → Option R} {r : R} {ops : Array Oper}  {hp₀ : List AObj} {w₀ : World} {df : List Deferred} {Q : Exit → Act → World → Prop}
    (hQ : ∀ s g w a, K s = some r → Inv g₀ hp₀ w₀ df g s w a → Q .normal a w) : ∀ (l : List GOp) (i : Nat), chkGs P ops i l = true → ∀ (s : St) (g : Gh) (w : World) (a : Act),
      runOps Γ l K s = some r → Inv g₀ hp₀ w₀ df g s w a → wpOps P ops Q (List.range' i (ops.size - i)) a w
  | [], i, hc, s, g, w, a, hr, h => by
    simp only [chkGs, beq_iff_eq] at hc
    subst hc
    simp only [Nat.sub_self, List.range'_zero, wpOps]
    exact hQ s g w a hr h
  | ⟨gd, o, ob⟩ :: l, i, hc, s, g, w, a, hr, h => by
    simp only [chkGs, Bool.and_eq_true] at hc
    obtain ⟨hc, hl⟩ := hc
    split at hc
    · rename_i m hm
      have hi : i < ops.size := by
        rcases Nat.lt_or_ge i ops.size with h1 | h1
        · exact h1
        · simp [Array.getElem?_eq_none h1] at hm
      rw [show ops.size - i = (ops.size - (i + 1)) + 1 by omega, List.range'_succ]
      simp only [chkG, Bool.and_eq_true, beq_iff_eq] at hc
      obtain ⟨⟨h1, h2⟩, h3⟩ := hc
      have doit : ∀ s₁, SR g s₁ w a → s₁.hp = s.hp → ∀ c s', stepO Γ ob o s₁ = some (c, s') → chk c (runOps Γ l K s') = some r → m.wp P a w (wpOps P ops Q (List.range' (i + 1) (ops.size - (i + 1)))) Q := by
        intro s₁ hs₁ hhp c s' hst hch
        obtain ⟨rfl, hch⟩ := chk_some hch
        refine op_sound hΓ (h.fr.beta.trans hβ) h1 (stepO_some hst) hs₁ ?_
        intro a' w' g' hs' hf hd
        refine runOps_sound hΓ hβ hQ l (i + 1) hl s' g' w' a' hch ⟨hs', ?_, hd.trans h.df⟩
        rw [hhp] at hf
        exact h.fr.trans hf
      have skip : ∀ s₁, SR g s₁ w a → s₁.hp = s.hp → runOps Γ l K (s₁.setO o.dst (.tup [])) = some r → wpOps P ops Q (List.range' (i + 1) (ops.size - (i + 1))) (a.put m.dst undef) w := by
        intro s₁ hs₁ hhp hr'
        rw [h2] at hr'
        refine runOps_sound hΓ hβ hQ l (i + 1) hl _ g w _ hr' ⟨put_undef hs₁ _, ?_, (put_df _ _ _).trans h.df⟩
        rw [setO_hp, hhp]
        exact h.fr
      simp only [wpOps, hm]
      match gd, h3, hr with
      | none, h3, hr =>
        cases hmg : m.guard with
        | some p => rw [hmg] at h3; simp at h3
        | none =>
        rw [if_pos (by simp [Region.wanted, hmg])]
        left
        simp only [runOps] at hr
        split at hr
        · rename_i c s' hst
          exact doit s h.sr rfl c s' hst hr
        · simp at hr
      | some (n, b), h3, hr =>
        cases hmg : m.guard with
        | none => rw [hmg] at h3; simp at h3
        | some p =>
        obtain ⟨j, b'⟩ := p
        rw [hmg] at h3
        simp only [Bool.and_eq_true, beq_iff_eq] at h3
        obtain ⟨rfl, hj⟩ := h3
        simp only [runOps] at hr
        split at hr
        · rename_i t ht
          rw [wanted_of h.sr hj hmg ht]
          have hs₁ := h.sr.renew n t ht
          cases t with
          | true =>
            simp only [cond_true] at hr
            cases b with
            | true =>
              simp only at hr
              rw [if_pos (by rfl)]
              left
              split at hr
              · rename_i c s' hst
                exact doit _ hs₁ rfl c s' hst hr
              · simp at hr
            | false =>
              rw [if_neg (by simp)]
              exact skip _ hs₁ rfl hr
          | false =>
            simp only [cond_false] at hr
            cases b with
            | false =>
              simp only at hr
              rw [if_pos (by rfl)]
              left
              split at hr
              · rename_i c s' hst
                exact doit _ hs₁ rfl c s' hst hr
              · simp at hr
            | true =>
              rw [if_neg (by simp)]
              exact skip _ hs₁ rfl hr
        · rename_i ht
          rw [wanted_no h.sr hj hmg ht, if_neg (by simp)]
          exact skip _ h.sr rfl hr
        · simp at hr
    · simp at hc

theorem chkGs_get {ops : Array Oper} : ∀ (l : List GOp) (i : Nat), chkGs P ops i l = true → ops.size = i + l.length ∧ ∀ (k : Nat) x, l[k]? = some x → ∃ m, ops[i + k]? = some m ∧ chkG P ops x m = true
  | [], i, h => by
    simp only [chkGs, beq_iff_eq] at h
    exact ⟨by simp [h], by simp⟩
  | x :: l, i, h => by
    simp only [chkGs, Bool.and_eq_true] at h
    obtain ⟨h1, h2⟩ := h
    obtain ⟨k1, k2⟩ := chkGs_get l (i + 1) h2
    refine ⟨by simp [k1]; omega, ?_⟩
    intro k y hy
    cases k with
    | zero =>
      simp at hy
      subst hy
      split at h1
      · rename_i m hm
        exact ⟨m, hm, h1⟩
      · simp at h1
    | succ k =>
      obtain ⟨m, hm, hc⟩ := k2 k y (by simpa using hy)
      exact ⟨m, by rw [← hm]; congr 1; omega, hc⟩

/-- one operation, wherever it stands -/
theorem gop_sound (hΓ : SpecOK P Γ) {g₀ : Gh} (hβ : g₀.β = byteT P) {ops : Array Oper} {i : Nat} {m : Oper} {x : GOp} (hm : ops[i]? = some m) (hc : chkG P ops x m = true)  {hp₀ : List AObj} {w₀ : World} {df : List Deferred} {Q : Exit → Act → World → Prop} {K : Act → World → Prop}
    (hs : gstep Γ x s = some s') (h : Inv g₀ hp₀ w₀ df g s w a) (hK : ∀ g' w' a', Inv g₀ hp₀ w₀ df g' s' w' a' → K a' w') : wpOp P ops Q i K a w := by
  obtain ⟨gd, o, ob⟩ := x
  simp only [chkG, Bool.and_eq_true, beq_iff_eq] at hc
  obtain ⟨⟨h1, h2⟩, h3⟩ := hc
  have doit : (match stepO Γ ob o s with | some (c, s') => chk c (some s') | none => none) = some s' → m.wp P a w K Q := by
    intro hst
    split at hst
    · rename_i c s₁ hst'
      obtain ⟨rfl, hch⟩ := chk_some hst
      obtain rfl : s₁ = s' := by simpa using hch
      refine op_sound hΓ (h.fr.beta.trans hβ) h1 (stepO_some hst') h.sr ?_
      intro a' w' g' hs' hf hd
      exact hK g' w' a' ⟨hs', h.fr.trans hf, hd.trans h.df⟩
    · simp at hst
  unfold wpOp
  simp only [hm]
  match gd, h3, hs with
  | none, h3, hs =>
    cases hmg : m.guard with
    | some p => rw [hmg] at h3; simp at h3
    | none =>
    rw [if_pos (by simp [Region.wanted, hmg])]
    exact .inl (doit hs)
  | some (n, b), h3, hs =>
    cases hmg : m.guard with
    | none => rw [hmg] at h3; simp at h3
    | some p =>
    obtain ⟨j, b'⟩ := p
    rw [hmg] at h3
    simp only [Bool.and_eq_true, beq_iff_eq] at h3
    obtain ⟨rfl, hj⟩ := h3
    simp only [gstep] at hs
    split at hs
    · rename_i t ht
      rw [wanted_of h.sr hj hmg ht]
      split at hs
      · rename_i hb
        rw [if_pos hb]
        exact .inl (doit hs)
      · rename_i hb
        rw [if_neg (by simp [hb])]
        obtain rfl : _ = s' := by simpa using hs
        rw [← h2]
        exact hK g w _ ⟨put_undef h.sr _, by rw [setO_hp]; exact h.fr, (put_df _ _ _).trans h.df⟩
    · rename_i ht
      rw [wanted_no h.sr hj hmg ht, if_neg (by simp)]
      obtain rfl : _ = s' := by simpa using hs
      rw [← h2]
      exact hK g w _ ⟨put_undef h.sr _, by rw [setO_hp]; exact h.fr, (put_df _ _ _).trans h.df⟩
    · simp at hs

theorem any_sound (hΓ : SpecOK P Γ) {g₀ : Gh} (hβ : g₀.β = byteT P) {imp : List Nat} (hP : PureS Γ imp) {R : Type} {K : St → Option R} {r : R} {ops : Array Oper} {l : List GOp} {pre : List (List Nat)} (hc : chkDraw P imp ops l pre = true)  {hp₀ : List AObj} {w₀ : World} {df : List Deferred} {Q : Exit → Act → World → Prop}
    (hQ : ∀ s g w a, K s = some r → Inv g₀ hp₀ w₀ df g s w a → Q .normal a w) : ∀ (fuel : Nat) (rs : List Nat) (listed : Array Bool) (s : St) (g : Gh) (w : World) (a : Act),
      rs.length = fuel → rs.Pairwise (· < ·) → (∀ i, i ∈ rs ↔ i < l.length ∧ listed.getD i true = false) → listed.size = l.length → (∀ j, j < l.length → j ∉ rs → ∀ i ∈ pre.getD j [], i ∉ rs) →
      runOps Γ (rs.filterMap fun i => l[i]?) K s = some r → Inv g₀ hp₀ w₀ df g s w a → wpAny P .any ops Q fuel listed a w := by
  simp only [chkDraw, Bool.and_eq_true] at hc
  obtain ⟨⟨-, hgs⟩, hall⟩ := hc
  obtain ⟨hsize, hget⟩ := chkGs_get l 0 hgs
  simp only [Nat.zero_add] at hsize hget
  have hj : ∀ j, j < l.length → ∃ m x, ops[j]? = some m ∧ l[j]? = some x ∧ chkG P ops x m = true ∧ (∀ e ∈ m.after, Region.binds .any e = true → e.on < j) ∧
      (∀ i ∈ pre.getD j [], ∃ e ∈ m.after, Region.binds .any e = true ∧ (e.on = i ∨ i ∈ pre.getD e.on [])) ∧ (∀ i, i < j → i ∈ pre.getD j [] ∨ ∃ y, l[i]? = some y ∧ indep imp y x = true) := by
    intro j hlt
    have h0 := List.all_eq_true.1 hall j (List.mem_range.2 hlt)
    simp only [Bool.and_eq_true] at h0
    obtain ⟨h1, h2⟩ := h0
    have hx : l[j]? = some l[j] := List.getElem?_eq_getElem hlt
    obtain ⟨m, hm, hcg⟩ := hget j _ hx
    rw [hm] at h1
    rw [hx] at h2
    simp only [Bool.and_eq_true] at h1
    refine ⟨m, l[j], hm, hx, hcg, ?_, ?_, ?_⟩
    · intro e he hb
      have := List.all_eq_true.1 h1.1 e (by simpa using he)
      simpa [hb] using this
    · intro i hi
      have := List.all_eq_true.1 h1.2 i hi
      obtain ⟨e, he, hb⟩ := List.any_eq_true.1 this
      simp only [Bool.and_eq_true, Bool.or_eq_true, beq_iff_eq, List.contains_iff_mem] at hb
      exact ⟨e, by simpa using he, hb.1, hb.2⟩
    · intro i hi
      have := List.all_eq_true.1 h2 i (List.mem_range.2 hi)
      simp only [Bool.or_eq_true, List.contains_iff_mem] at this
      rcases this with h3 | h3
      · exact .inl h3
      · right
        split at h3
        · rename_i y hy; exact ⟨y, hy, h3⟩
        · simp at h3
  have ready : ∀ (rs : List Nat) (listed : Array Bool), (∀ i, i ∈ rs ↔ i < l.length ∧ listed.getD i true = false) → listed.size = l.length → ∀ j m, ops[j]? = some m → (j ∈ Region.ready .any ops listed ↔ j ∈ rs ∧ ∀ e ∈ m.after, Region.binds .any e = true → e.on < l.length ∧ e.on ∉ rs) := by
    intro rs listed hrs hls j m hm
    have hlt : j < l.length := by rw [← hsize]; exact (Array.getElem?_eq_some_iff.1 hm).1
    have key : ∀ i, listed.getD i false = true ↔ i < l.length ∧ i ∉ rs := by
      intro i
      rw [hrs i]
      rcases Nat.lt_or_ge i listed.size with h1 | h1
      · have h2 : i < l.length := by omega
        simp [Array.getD, h1, h2]
      · have h2 : ¬ i < l.length := by omega
        have h3 : ¬ i < listed.size := by omega
        simp [Array.getD, h3, h2]
    rw [mem_ready, hrs j]
    constructor
    · rintro ⟨h1, o, ho, h2⟩
      rw [hm] at ho
      cases ho
      exact ⟨⟨hlt, h1⟩, fun e he hb => (key _).1 (h2 e he hb)⟩
    · rintro ⟨⟨_, h1⟩, h2⟩
      exact ⟨h1, m, hm, fun e he hb => (key _).2 (h2 e he hb)⟩
  intro fuel
  induction fuel with
  | zero =>
    intro rs listed s g w a hlen hpw hrs hls hpre hr h
    have : rs = [] := List.eq_nil_of_length_eq_zero hlen
    subst this
    simp only [wpAny]
    refine ⟨?_, hQ s g w a hr h⟩
    rw [List.eq_nil_iff_forall_not_mem]
    intro j hjr
    have := mem_ready.1 hjr
    obtain ⟨hu, o, ho, _⟩ := this
    exact absurd ((ready [] listed hrs hls j o ho).1 hjr).1 (by simp)
  | succ fuel ih =>
    intro rs listed s g w a hlen hpw hrs hls hpre hr h
    simp only [wpAny]
    refine ⟨?_, ?_⟩
    · intro hno
      exfalso
      cases rs with
      | nil => simp at hlen
      | cons j rs =>
        have hjl := ((hrs j).1 (List.mem_cons_self ..)).1
        obtain ⟨m, x, hm, hx, hcg, he, hp, hi⟩ := hj j hjl
        have : j ∈ Region.ready .any ops listed := by
          refine (ready _ listed hrs hls j m hm).2 ⟨List.mem_cons_self .., fun e hee hb => ?_⟩
          have hlt := he e hee hb
          refine ⟨by omega, ?_⟩
          intro hmem
          rcases List.mem_cons.1 hmem with h1 | h1
          · omega
          · have := (List.pairwise_cons.1 hpw).1 _ h1
            omega
        rw [hno] at this
        simp at this
    · intro j hjr
      obtain ⟨hu, o, ho, _⟩ := mem_ready.1 hjr
      obtain ⟨hjm, hdeps⟩ := (ready rs listed hrs hls j o ho).1 hjr
      have hjl := ((hrs j).1 hjm).1
      obtain ⟨m, x, hm, hx, hcg, he, hp, hi⟩ := hj j hjl
      rw [hm] at ho
      cases ho
      have hpj : ∀ i ∈ pre.getD j [], i ∉ rs := by
        intro i hii
        obtain ⟨e, hee, hb, hor⟩ := hp i hii
        obtain ⟨d1, d2⟩ := hdeps e hee hb
        rcases hor with rfl | hor
        · exact d2
        · exact hpre _ d1 d2 i hor
      obtain ⟨A, B, rfl⟩ := List.append_of_mem hjm
      have hA : ∀ i ∈ A, i < j := by
        intro i hiA
        exact (List.pairwise_append.1 hpw).2.2 i hiA j (List.mem_cons_self ..)
      have hB : ∀ i ∈ B, j < i := by
        intro i hiB
        exact (List.pairwise_cons.1 (List.pairwise_append.1 hpw).2.1).1 i hiB
      rw [List.filterMap_append, List.filterMap_cons_some hx] at hr
      obtain ⟨s', hg, hr'⟩ := bring hP _ s (by
        intro y hy
        obtain ⟨i, hiA, hiy⟩ := List.mem_filterMap.1 hy
        rcases hi i (hA i hiA) with h1 | ⟨y', h1, h2⟩
        · exact absurd (List.mem_append_left _ hiA) (hpj i h1)
        · rw [hiy] at h1
          cases h1
          exact h2) hr
      rw [← List.filterMap_append] at hr'
      refine gop_sound hΓ hβ hm hcg hg h ?_
      intro g' w' a' hinv
      have hmem : ∀ i, i ∈ A ++ B ↔ i ∈ A ++ j :: B ∧ i ≠ j := by
        intro i
        simp only [List.mem_append, List.mem_cons]
        constructor
        · rintro (h1 | h1)
          · exact ⟨.inl h1, by have := hA i h1; omega⟩
          · exact ⟨.inr (.inr h1), by have := hB i h1; omega⟩
        · rintro ⟨h1 | h1 | h1, h2⟩
          · exact .inl h1
          · exact absurd h1 h2
          · exact .inr h1
      refine ih (A ++ B) (listed.setIfInBounds j true) s' g' w' a' ?_ ?_ ?_ (by simp [hls]) ?_ hr' hinv
      · simp only [List.length_append, List.length_cons] at hlen ⊢
        omega
      · exact hpw.sublist (List.Sublist.append_left (List.sublist_cons_self ..) _)
      · intro i
        rw [hmem, hrs]
        by_cases hij : i = j
        · subst hij
          have hsz : i < listed.size := by omega
          simp [Array.getD, hsz]
        · rw [getD_set_ne true (fun e => hij e.symm)]
          simp [hij]
      · intro j' hj' hnot i hii hmi
        obtain ⟨h1, h2⟩ := (hmem i).1 hmi
        by_cases hjj : j' = j
        · subst hjj
          exact hpj i hii h1
        · exact hpre j' hj' (fun hm' => hnot ((hmem j').2 ⟨hm', hjj⟩)) i hii h1

theorem range_filterMap {α : Type} : ∀ (l : List α), ((List.range l.length).filterMap fun i => l[i]?) = l
  | [] => rfl
  | x :: l => by
    rw [List.length_cons, List.range_succ_eq_map, List.filterMap_cons_some (b := x) (by simp), List.filterMap_map]
    have := range_filterMap l
    simp only [Function.comp_def, Nat.succ_eq_add_one, List.getElem?_cons_succ]
    rw [this]

theorem Inv.drew {g₀ : Gh} {hp₀ : List AObj} {w₀ : World} {df : List Deferred} (h : Inv g₀ hp₀ w₀ df g s w a) : Inv g₀ hp₀ w₀ df g s w.drew a := by
  have u : Up g.I g.ρ s.hp.length w g.I g.ρ s.hp.length w.drew := ⟨fun _ _ h => h, fun _ _ _ => rfl, fun _ _ => rfl, Nat.le_refl _⟩
  refine ⟨⟨h.sr.hr.drew, ⟨h.sr.er.size, fun n v cv h1 h2 => (h.sr.er.rel n v cv h1 h2).up u, fun n v cv h1 h2 => own_keep (h.sr.er.own n v cv h1 h2) rfl (fun b j hi => ⟨hi, rfl⟩) (fun b hb => ⟨hb, rfl, fun j hj => hj⟩)⟩⟩, ?_, h.df⟩
  exact ⟨h.fr.beta, h.fr.os, h.fr.tape, h.fr.output, h.fr.size, h.fr.block, h.fr.up.trans u, h.fr.iSame, h.fr.oSame, h.fr.live⟩

theorem draw_sound (hΓ : SpecOK P Γ) {g₀ : Gh} (hβ : g₀.β = byteT P) {imp : List Nat} (hP : PureS Γ imp) {R : Type} {K : St → Option R} {r : R} {id : Nat} {ops : Array Oper} {l : List GOp} {pre : List (List Nat)} (hc : chkDraw P imp ops l pre = true)  {hp₀ : List AObj} {w₀ : World} {df : List Deferred} {Q : Exit → Act → World → Prop}
    (hQ : ∀ s g w a, K s = some r → Inv g₀ hp₀ w₀ df g s w a → Q .normal a w) (hr : runOps Γ l K s = some r) (h : Inv g₀ hp₀ w₀ df g s w a) : (Code.region id ops true).wp P Q a w := by
  have hc' := hc
  simp only [chkDraw, Bool.and_eq_true] at hc'
  have hsize : ops.size = l.length := by simpa using (chkGs_get l 0 hc'.1.2).1
  refine wp_region_any hc'.1.1 ?_
  rw [hsize]
  refine any_sound hΓ hβ hP hc hQ l.length (List.range l.length) _ s g _ a (by simp) List.pairwise_lt_range ?_ (by simp) ?_ (by rw [range_filterMap]; exact hr) h.drew
  · intro i
    by_cases hi : i < l.length <;> simp [Array.getD, hi]
  · intro j hj hnot
    exact absurd (List.mem_range.2 hj) hnot

theorem keepFrom_get (live : List Nat) (m : Nat) : ∀ (env : List V) (i n : Nat) (v : V), (keepFrom live m i env)[n]? = some v → v = .undef ∨ (v.lower m = true ∧ env[n]? = some v)
  | [], i, n, v, h => by simp [keepFrom] at h
  | x :: env, i, n, v, h => by
    simp only [keepFrom] at h
    cases n with
    | zero =>
      simp only [List.getElem?_cons_zero, Option.some.injEq] at h
      split at h
      · rename_i hc
        simp only [Bool.and_eq_true] at hc
        right; subst h; exact ⟨hc.2, by simp⟩
      · left; exact h.symm
    | succ n =>
      simp only [List.getElem?_cons_succ] at h ⊢
      exact keepFrom_get live m env (i + 1) n v h

theorem keepFrom_length (live : List Nat) (m : Nat) : ∀ (env : List V) (i : Nat), (keepFrom live m i env).length = env.length
  | [], i => rfl
  | x :: env, i => by simp [keepFrom, keepFrom_length live m env (i + 1)]

theorem belows_get {n : Nat} : ∀ {cs : List V}, V.lowers n cs = true → ∀ (i : Nat) c, cs[i]? = some c → c.lower n = true
  | [], _, i, c, hc => by simp at hc
  | x :: cs, h, i, c, hc => by
    simp only [V.lowers, Bool.and_eq_true] at h
    cases i with
    | zero => simp at hc; subst hc; exact h.1
    | succ i => exact belows_get h.2 i c (by simpa using hc)

theorem cells_lower {n : Nat} {cs : List V} (h : V.lowers n cs = true) (j : Nat) (c : V) (hc : (cellsOf cs)[j]? = some c) : c.lower n = true := by
  cases hr : isRow cs with
  | false => rw [cellsOf_eq hr] at hc; exact belows_get h j c hc
  | true =>
    unfold isRow at hr
    split at hr
    · simp only [cellsOf, List.getElem?_map, Option.map_eq_some_iff] at hc
      obtain ⟨_, _, rfl⟩ := hc
      rfl
    · simp [V.lowers, V.lower] at h
    · cases hr

theorem VRel.fewer {I : Nat → Nat → Prop} {ρ : Nat → Nat} {N n : Nat} {v : V} {cv : Value} (h : VRel I ρ N w v cv) (hb : v.lower n = true) (hn : n ≤ N) : VRel I ρ n w v cv := by
  induction h with
  | undef cv => exact .undef cv
  | bool b => exact .bool b
  | int k n h => exact .int k n h
  | str l s hl h => exact .str l s hl h
  | sln k o => exact .sln k o
  | sle k o ad ho => exact .sle k o ad ho
  | sl k o xs b off len cap hl hc hm hf f hI hw hv ih =>
    refine .sl k o xs b off len cap hl hc hm hf f hI hw (fun i x j v h1 h2 => ih i x j v h1 h2 ?_)
    have : v ∈ enc k x := List.mem_of_getElem? h2
    cases k <;> simp [enc] at this <;> (first | (rcases this with rfl | rfl | rfl | rfl | rfl | rfl | rfl | rfl | rfl | rfl) | (rcases this with rfl | rfl | rfl | rfl | rfl | rfl | rfl | rfl | rfl) | (rcases this with rfl | rfl | rfl | rfl | rfl) | subst this) <;> rfl
  | agg cs vs hl h1 hb' hv ih => exact .agg cs vs hl h1 hb' (fun i c cv hc hcv => ih i c cv hc hcv (belows_get (by simpa [V.lower] using hb) i c hc))
  | tup cs vs hl hv ih => exact .tup cs vs hl (fun i c cv hc hcv => ih i c cv hc hcv (belows_get (by simpa [V.lower] using hb) i c hc))
  | ea cs b off f h1 hI hw hv ih => exact .ea cs b off f h1 hI hw (fun j c hc => ih j c hc (belows_get (by simpa [V.lower] using hb) j c hc))
  | ptr id off h => exact .ptr id off (by simpa [V.lower, Nat.blt_eq] using hb)
  | nilp => exact .nilp
  | fn f cs vs hl hv ih => exact .fn f cs vs hl (fun i c cv hc hcv => ih i c cv hc hcv (belows_get (by simpa [V.lower] using hb) i c hc))
  | nilif => exact .nilif
  | bn E n p => exact .bn E n p
  | junk cv h => exact .junk cv h
  | so id m cap h hc hm => exact .so id m cap (by simpa [V.lower, Nat.blt_eq] using hb) hc hm
  | raw n b => exact .raw n b
  | ul k xs ad cap hm => exact .ul k xs ad cap hm
  | hd n ad cap hm => exact .hd n ad cap hm
  | sw k id m h hc hm => exact .sw k id m (by simpa [V.lower, Nat.blt_eq] using hb) hc hm
  | wp id k i o h => exact .wp id k i o (by simpa [V.lower, Nat.blt_eq] using hb)

theorem objsBelow_get {n : Nat} : ∀ {hp : List AObj}, objsBelow n hp = true → ∀ (id : Nat) cs, hp[id]? = some (some cs) → V.lowers n cs = true
  | [], _, id, cs, h => by simp at h
  | none :: hp, h0, id, cs, h => by
    cases id with
    | zero => simp at h
    | succ id => exact objsBelow_get (hp := hp) (by simpa [objsBelow] using h0) id cs (by simpa using h)
  | some x :: hp, h0, id, cs, h => by
    simp only [objsBelow, Bool.and_eq_true] at h0
    cases id with
    | zero => simp at h; subst h; exact h0.1
    | succ id => exact objsBelow_get h0.2 id cs (by simpa using h)

theorem SR.keepEnv (h : SR g s w a) (live : List Nat) (n : Nat) : SR g { s with env := keepFrom live n 0 s.env } w a := by
  refine ⟨h.hr, ⟨by simp [keepFrom_length, h.er.size], ?_, ?_⟩⟩
  · intro m v cv hv hcv
    rcases keepFrom_get live n s.env 0 m v hv with rfl | ⟨_, hv⟩
    · exact .undef _
    · exact h.er.rel m v cv hv hcv
  · intro m v cv hv hcv
    rcases keepFrom_get live n s.env 0 m v hv with rfl | ⟨_, hv⟩
    · simp [OwnOK]
    · exact h.er.own m v cv hv hcv

theorem Inv.keeps {g₀ : Gh} {hp₀ : List AObj} {w₀ : World} {df : List Deferred} (h : Inv g₀ hp₀ w₀ df g s w a) (live : List Nat) {n : Nat} (hn : hp₀.length ≤ n) : Inv g₀ hp₀ w₀ df g (s.keep live n) w a := by
  unfold St.keep
  cases hob : objsBelow n (s.hp.take n) with
  | false => exact ⟨h.sr.keepEnv live n, h.fr, h.df⟩
  | true =>
    simp only [cond_true]
    rcases Nat.lt_or_ge n s.hp.length with hlt | hge
    · have hlen : (s.hp.take n).length = n := by simp; omega
      have old : ∀ (id : Nat) cs, (s.hp.take n)[id]? = some (some cs) → s.hp[id]? = some (some cs) := by
        intro id cs hid
        rw [List.getElem?_take] at hid
        split at hid
        · exact hid
        · simp at hid
      have hb := objsBelow_get hob
      refine ⟨⟨⟨?_, ?_, ?_, ?_, h.sr.hr.exI, h.sr.hr.oLt⟩, ⟨by simp [keepFrom_length, h.sr.er.size], ?_, ?_⟩⟩, ?_, h.df⟩
      · intro id cs hid
        obtain ⟨arr, e, fz, h1, h2⟩ := h.sr.hr.obj id cs (old id cs hid)
        refine ⟨arr, e, fz, h1, h2.len, h2.plain, ?_, h2.cold, h2.one, ?_, h2.own, h2.bn⟩
        · rintro k xs rfl
          have := hb id _ hid
          simp [V.lowers, V.lower] at this
        intro j c cv hc hcv
        rw [hlen]
        exact (h2.rel j c cv hc hcv).fewer (cells_lower (hb id cs hid) j c hc) (by omega)
      · intro id id' cs cs' h1 h2 hne
        exact h.sr.hr.apart id id' cs cs' (old _ _ h1) (old _ _ h2) hne
      · intro id cs hid
        exact h.sr.hr.notI id cs (old _ _ hid)
      · intro id cs hid
        exact h.sr.hr.notO id cs (old _ _ hid)
      · intro m v cv hv hcv
        rw [hlen]
        rcases keepFrom_get live n s.env 0 m v hv with rfl | ⟨hbv, hv⟩
        · exact .undef _
        · exact (h.sr.er.rel m v cv hv hcv).fewer hbv (by omega)
      · intro m v cv hv hcv
        rcases keepFrom_get live n s.env 0 m v hv with rfl | ⟨_, hv⟩
        · simp [OwnOK]
        · exact h.sr.er.own m v cv hv hcv
      · refine ⟨h.fr.beta, h.fr.os, h.fr.tape, h.fr.output, h.fr.size, h.fr.block, ⟨h.fr.up.mono, h.fr.up.cell, h.fr.up.rho, by rw [hlen]; exact hn⟩, h.fr.iSame, h.fr.oSame, ?_⟩
        intro id cs hid
        exact h.fr.live id cs (old _ _ hid)
    · rw [List.take_of_length_le hge]
      exact ⟨h.sr.keepEnv live n, h.fr, h.df⟩

def exOK : Ex → Exit → Prop
  | .normal, .normal => True
  | .exit i, .exit j => i = j
  | .ret, .ret => True
  | _, _ => False

/-- how a run comes to an end, in both -/
def Ends {R : Type} (g₀ : Gh) (hp₀ : List AObj) (w₀ : World) (df : List Deferred) (K : Ex → St → Option R) (r : R) (e : Exit) (a : Act) (w : World) : Prop :=
  ∃ x s g, exOK x e ∧ K x s = some r ∧ Inv g₀ hp₀ w₀ df g s w a

theorem run_sound (hΓ : SpecOK P Γ) {g₀ : Gh} (hβ : g₀.β = byteT P) {imp : List Nat} (hP : PureS Γ imp) (n : Nat) {R : Type}  {hp₀ : List AObj} {base : Nat} (hbase : hp₀.length ≤ base) {w₀ : World} {df : List Deferred} {r : R} : ∀ (ir : IR) (c : Code), chkCode P imp base ir c = true → ∀ (K : Ex → St → Option R) (s : St) (a : Act) (w : World) (g : Gh),
    run Γ n ir K s = some r → Inv g₀ hp₀ w₀ df g s w a → c.wp P (Ends g₀ hp₀ w₀ df K r) a w
  | .bad, c, hc, K, s, a, w, g, hr, h => by simp [run] at hr
  | .skip, c, hc, K, s, a, w, g, hr, h => by
    cases c <;> simp [chkCode] at hc
    · exact wp_skip ⟨.normal, s, g, trivial, hr, h⟩
    · exact wp_label ⟨.normal, s, g, trivial, hr, h⟩
  | .reg l pre, c, hc, K, s, a, w, g, hr, h => by
    cases c with
    | region id ops draw =>
      cases draw with
      | true =>
        have hc : chkDraw P imp ops l pre = true := by simpa only [chkCode] using hc
        exact draw_sound (Q := Ends g₀ hp₀ w₀ df K r) hΓ hβ hP hc (K := K .normal) (r := r) (fun s g w a hk hi => ⟨.normal, s, g, trivial, hk, hi⟩) hr h
      | false =>
        have hc : chkGs P ops 0 l = true := by simpa only [chkCode] using hc
        refine wp_region ?_
        have := runOps_sound (Q := Ends g₀ hp₀ w₀ df K r) hΓ hβ (K := K .normal) (r := r) (fun s g w a hk hi => ⟨.normal, s, g, trivial, hk, hi⟩) l 0 hc s g w a hr h
        rwa [Nat.sub_zero, ← List.range_eq_range'] at this
    | _ => simp [chkCode] at hc
  | .seq x y, c, hc, K, s, a, w, g, hr, h => by
    cases c <;> simp [chkCode] at hc
    rename_i c d
    refine wp_seq (wp_mono (run_sound hΓ hβ hP n hbase x c hc.1 _ s a w g hr h) ?_)
    rintro e a' w' ⟨ex, s', g', he, hk, hi⟩
    cases ex with
    | normal =>
      cases e <;> simp only [exOK] at he
      exact run_sound hΓ hβ hP n hbase y d hc.2 K s' a' w' g' hk hi
    | exit i =>
      cases e <;> simp only [exOK] at he
      exact ⟨.exit i, s', g', he, hk, hi⟩
    | ret =>
      cases e <;> simp only [exOK] at he
      exact ⟨.ret, s', g', trivial, hk, hi⟩
  | .cond v x y, c, hc, K, s, a, w, g, hr, h => by
    cases c <;> simp [chkCode] at hc
    rename_i u c d
    simp only [run] at hr
    split at hr
    · rename_i t ht
      have rr := src_rel hc.1 h.sr.er
      rw [ht] at rr
      generalize hcv : a.eval u = cv at rr
      cases rr
      refine wp_cond hcv ?_
      cases t with
      | true =>
        rw [ASrc.fix_eq ht] at hr
        exact run_sound hΓ hβ hP n hbase x c hc.2.1 K s a w g hr h
      | false =>
        simp only [cond_false] at hr
        rw [ASrc.fix_eq ht] at hr
        exact run_sound hΓ hβ hP n hbase y d hc.2.2 K s a w g hr h
    · simp at hr
  | .block i x, c, hc, K, s, a, w, g, hr, h => by
    cases c <;> simp [chkCode] at hc
    rename_i j c
    obtain ⟨rfl, hc⟩ := hc
    refine wp_block (wp_mono (run_sound hΓ hβ hP n hbase x c hc _ s a w g hr h) ?_)
    rintro e a' w' ⟨ex, s', g', he, hk, hi⟩
    cases ex with
    | normal =>
      cases e <;> simp only [exOK] at he
      exact ⟨.normal, s', g', trivial, hk, hi⟩
    | exit k =>
      cases e <;> simp only [exOK] at he
      subst he
      simp only [Exit.inBlock]
      by_cases hki : k = i
      · subst hki
        simp only [if_true]
        simp only [kblock, Nat.beq_refl, cond_true] at hk
        exact ⟨.normal, s', g', trivial, hk, hi⟩
      · simp only [hki, if_false]
        have hb : Nat.beq k i = false := by
          cases hb : Nat.beq k i with
          | true => exact absurd (Nat.eq_of_beq_eq_true hb) hki
          | false => rfl
        simp only [kblock, hb, cond_false] at hk
        exact ⟨.exit k, s', g', rfl, hk, hi⟩
    | ret =>
      cases e <;> simp only [exOK] at he
      exact ⟨.ret, s', g', trivial, hk, hi⟩
  | .loop live q x, c, hc, K, s, a, w, g, hr, h => by
    cases c <;> simp [chkCode] at hc
    rename_i c
    obtain ⟨hq, hc⟩ := hc
    have hq : hp₀.length ≤ q := Nat.le_trans hbase hq
    simp only [run] at hr
    have key : ∀ (m : Nat) (s : St) (a : Act) (w : World) (g : Gh), loopN m (fun again s => run Γ n x (kloop again live q K) s) s = some r → Inv g₀ hp₀ w₀ df g s w a →
        Code.rounds P c (Ends g₀ hp₀ w₀ df K r) m a w := by
      intro m
      induction m with
      | zero => intro s a w g hr h; simp [loopN] at hr
      | succ m ih =>
        intro s a w g hr h
        simp only [loopN] at hr
        rw [rounds_succ]
        refine wp_mono (run_sound hΓ hβ hP n hbase x c hc _ s a w g hr h) ?_
        rintro e a' w' ⟨ex, s', g', he, hk, hi⟩
        cases ex with
        | normal =>
          cases e <;> simp only [exOK] at he
          exact ih _ a' w' g' hk (hi.keeps live hq)
        | exit k =>
          cases e <;> simp only [exOK] at he
          exact ⟨.exit k, s', g', he, hk, hi⟩
        | ret =>
          cases e <;> simp only [exOK] at he
          exact ⟨.ret, s', g', trivial, hk, hi⟩
    exact wp_loop_rounds n (key n _ a w g hr (h.keeps live hq))
  | .cut live q x, c, hc, K, s, a, w, g, hr, h => by
    simp only [chkCode, Bool.and_eq_true] at hc
    obtain ⟨hq, hc⟩ := hc
    simp only [run] at hr
    exact run_sound hΓ hβ hP n hbase x c hc K _ a w g hr (h.keeps live (Nat.le_trans hbase (Nat.le_of_ble_eq_true hq)))
  | .gh x y, c, hc, K, s, a, w, g, hr, h => by
    simp only [chkCode] at hc
    simp only [run] at hr
    split at hr
    · rename_i t s' hs
      cases t with
      | false => simp [chk] at hr
      | true =>
        obtain ⟨g', h1, h2⟩ := ghost_sound h.sr hs
        exact run_sound hΓ hβ hP n hbase y c hc K s' a w g' hr ⟨h1, h.fr.trans h2, h.df⟩
    · simp at hr
  | .ghp x y, c, hc, K, s, a, w, g, hr, h => by
    simp only [chkCode] at hc
    simp only [run] at hr
    refine wp_mono (run_sound hΓ hβ hP n hbase y c hc _ s a w g hr h) ?_
    rintro e a' w' ⟨ex, s', g', he, hk, hi⟩
    cases ex with
    | normal =>
      simp only [kpost] at hk
      split at hk
      · rename_i t s2 hs
        cases t with
        | false => simp [chk] at hk
        | true =>
          obtain ⟨g2, h1, h2⟩ := ghost_sound hi.sr hs
          exact ⟨.normal, s2, g2, he, hk, ⟨h1, hi.fr.trans h2, hi.df⟩⟩
      · simp at hk
    | exit i => exact ⟨.exit i, s', g', he, hk, hi⟩
    | ret => exact ⟨.ret, s', g', he, hk, hi⟩
  | .exit i, c, hc, K, s, a, w, g, hr, h => by
    cases c <;> simp [chkCode] at hc
    subst hc
    exact wp_exit ⟨.exit i, s, g, rfl, hr, h⟩
  | .ret, c, hc, K, s, a, w, g, hr, h => by
    cases c <;> simp [chkCode] at hc
    exact wp_ret ⟨.ret, s, g, trivial, hr, h⟩
end
end Go.AM
