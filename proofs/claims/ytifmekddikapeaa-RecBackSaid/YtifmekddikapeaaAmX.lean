/-
  Runs whose joins and loops are left open: what is behind them is a function that is not looked into.
-/
import Derived.Test.YtifmekddikapeaaAmTot
import Derived.KernelRfl
namespace Go.AM
set_option autoImplicit false
set_option linter.unusedVariables false

/-- a run that stops at joins and loops (each has its number as the last of its slots) -/
def runX {R : Type} (C : Nat → St → Option R) (Γ : ASpec) (n : Nat) : IR → (Ex → St → Option R) → St → Option R
  | .skip, K, s => K .normal s
  | .bad, _, _ => none
  | .reg ops _, K, s => runOps Γ ops (K .normal) s
  | .seq a b, K, s => runX C Γ n a (kseq (runX C Γ n b) K) s
  | .cond c a b, K, s => match c.ev s with
    | .bool t => cond t (runX C Γ n a K (c.fix s true)) (runX C Γ n b K (c.fix s false))
    | _ => none
  | .block id a, K, s => runX C Γ n a (kblock id K) s
  | .loop live m a, K, s => C (live.getLastD 0) (s.keep live m)
  | .cut live m a, K, s => C (live.getLastD 0) (s.keep live m)
  | .gh g a, K, s => match g.step s with
    | some (c, s') => chk c (runX C Γ n a K s')
    | none => none
  | .ghp g a, K, s => runX C Γ n a (kpost g K) s
  | .exit id, K, s => K (.exit id) s
  | .ret, K, s => K .ret s

/-- the joins and loops of code, and what is behind them -/
def cuts {R : Type} (Γ : ASpec) (n : Nat) : IR → (Ex → St → Option R) → List (Nat × (St → Option R))
  | .seq a b, K => cuts Γ n a (kseq (run Γ n b) K) ++ cuts Γ n b K
  | .cond _ a b, K => cuts Γ n a K ++ cuts Γ n b K
  | .block id a, K => cuts Γ n a (kblock id K)
  | .loop live m a, K => [(live.getLastD 0, fun s => loopN n (fun again s => run Γ n a (kloop again live m K) s) s)]
  | .cut live m a, K => [(live.getLastD 0, fun s => run Γ n a K s)]
  | .gh g a, K => cuts Γ n a K
  | .ghp g a, K => cuts Γ n a (kpost g K)
  | _, _ => []

theorem runX_eq {R : Type} {C : Nat → St → Option R} {Γ : ASpec} {n : Nat} : ∀ (ir : IR) (K : Ex → St → Option R), (∀ p ∈ cuts Γ n ir K, C p.1 = p.2) → ∀ s, runX C Γ n ir K s = run Γ n ir K s := by
  intro ir
  induction ir with
  | seq a b iha ihb =>
    intro K h s
    have e : kseq (runX C Γ n b) K = kseq (run Γ n b) K := by
      funext e s
      cases e with
      | normal => exact ihb K (fun p hp => h p (List.mem_append_right _ hp)) s
      | _ => rfl
    show runX C Γ n a (kseq (runX C Γ n b) K) s = run Γ n a (kseq (run Γ n b) K) s
    rw [e]
    exact iha _ (fun p hp => h p (List.mem_append_left _ hp)) s
  | cond c a b iha ihb =>
    intro K h s
    simp only [runX, run, iha K (fun p hp => h p (List.mem_append_left _ hp)), ihb K (fun p hp => h p (List.mem_append_right _ hp))]
    cases c.ev s <;> rfl
  | block id a iha => intro K h s; exact iha _ h s
  | loop live m a iha =>
    intro K h s
    have := h (live.getLastD 0, _) (List.mem_singleton.2 rfl)
    simp only [runX, run]
    rw [this]
  | cut live m a iha =>
    intro K h s
    have := h (live.getLastD 0, _) (List.mem_singleton.2 rfl)
    simp only [runX, run]
    rw [this]
  | gh g a iha =>
    intro K h s
    simp only [runX, run, iha K h]
    cases g.step s <;> rfl
  | ghp g a iha => intro K h s; exact iha _ h s
  | _ => intro K h s; rfl

/-- the function that stands under a number -/
def lookC {R : Type} : List (Nat × (St → Option R)) → Nat → St → Option R
  | [], _ => fun _ => none
  | (j, f) :: l, i => cond (Nat.beq j i) f (lookC l i)

def idsApart : List Nat → Bool
  | [] => true
  | i :: l => !(l.any (Nat.beq i)) && idsApart l

theorem lookC_ok {R : Type} : ∀ {l : List (Nat × (St → Option R))}, idsApart (l.map Prod.fst) = true → ∀ p ∈ l, lookC l p.1 = p.2
  | [], _, p, hp => by simp at hp
  | (j, f) :: l, h, p, hp => by
    simp only [List.map_cons, idsApart, Bool.and_eq_true, Bool.not_eq_true', List.any_eq_false] at h
    rcases List.mem_cons.1 hp with rfl | hp
    · simp [lookC]
    · have hne : Nat.beq j p.1 = false := by
        cases hb : Nat.beq j p.1 with
        | false => rfl
        | true =>
          have := h.1 p.1 (List.mem_map.2 ⟨p, hp, rfl⟩)
          exact absurd hb this
      simp only [lookC, hne, cond_false]
      exact lookC_ok h.2 p hp

/-- what is behind code, its joins and loops left open -/
theorem kseqX {R : Type} {C : Nat → St → Option R} {Γ : ASpec} {n : Nat} {b : IR} {K K' : Ex → St → Option R} (h : ∀ p ∈ cuts Γ n b K, C p.1 = p.2) (e : K' = K) : kseq (runX C Γ n b) K' = kseq (run Γ n b) K := by
  subst e
  funext e s
  cases e with
  | normal => exact runX_eq b K' h s
  | _ => rfl
theorem kblockX {R : Type} {i : Nat} {K K' : Ex → St → Option R} (e : K' = K) : kblock i K' = kblock i K := by rw [e]
theorem kloopX {R : Type} {again : St → Option R} {live : List Nat} {m : Nat} {K K' : Ex → St → Option R} (e : K' = K) : kloop again live m K' = kloop again live m K := by rw [e]
theorem lookL {R : Type} {C : Nat → St → Option R} {l l' : List (Nat × (St → Option R))} (h : ∀ p ∈ l ++ l', C p.1 = p.2) : ∀ p ∈ l, C p.1 = p.2 := fun p hp => h p (List.mem_append_left _ hp)
theorem lookR {R : Type} {C : Nat → St → Option R} {l l' : List (Nat × (St → Option R))} (h : ∀ p ∈ l ++ l', C p.1 = p.2) : ∀ p ∈ l', C p.1 = p.2 := fun p hp => h p (List.mem_append_right _ hp)

/-- a run with an end that is equal -/
theorem runX_end {R : Type} {C : Nat → St → Option R} {Γ : ASpec} {n : Nat} {ir : IR} {K K' : Ex → St → Option R} (h : ∀ p ∈ cuts Γ n ir K, C p.1 = p.2) (e : K' = K) (s : St) : run Γ n ir K s = runX C Γ n ir K' s := by
  subst e
  exact (runX_eq ir K' h s).symm
/-- short words for generated texts -/
abbrev Ro := Option (V × List AObj)
abbrev Bs := List UInt8
abbrev Bss := List (List UInt8)
def U (n : Nat) (l : List V) : List V := List.replicate n .undef ++ l
def Pp (o : IOp) : GOp := ⟨none, o, none⟩
def Pg (g : Nat × Bool) (o : IOp) : GOp := ⟨some g, o, none⟩
def Mv (d x : Nat) : GOp := ⟨none, .mov d (.t x), none⟩
def Fa (d o x : Nat) : GOp := ⟨none, .fad d o (.t x), none⟩
def Ld (d n : Nat) (a : Bool) (x : Nat) : GOp := ⟨none, .lde d n a (.t x), none⟩
def Pa (d c x : Nat) : GOp := ⟨none, .pick d (.t c) (.t x) (.c (.bool false)), none⟩
def Po (d c x : Nat) : GOp := ⟨none, .pick d (.t c) (.c (.bool true)) (.t x), none⟩
def Bi (d : Nat) (o : BinOp) (x y : Nat) : GOp := ⟨none, .bin d o (.t x) (.t y), none⟩
def Bc (d : Nat) (o : BinOp) (x : Nat) (n : Int) : GOp := ⟨none, .bin d o (.t x) (.c (.int .i64 n)), none⟩
def Ex_ (d i x : Nat) : GOp := ⟨none, .ext d i (.t x), none⟩
def Nk (d x : Nat) : GOp := ⟨none, .nck (some d) (.t x), none⟩
instance (n : Nat) : OfNat ASrc n := ⟨.t n⟩
instance (n : Nat) : OfNat (Option Nat) n := ⟨some n⟩
def Rg (l : List GOp) : IR := .reg l []
def Rs (l : List GOp) (a : IR) : IR := .seq (.reg l []) a
def Sq (a b : IR) : IR := .seq a b
def Cn (c : Nat) (a b : IR) : IR := .cond (.t c) a b
def Gt (g : Nat) (o : IOp) : GOp := ⟨some (g, true), o, none⟩
def Gf (g : Nat) (o : IOp) : GOp := ⟨some (g, false), o, none⟩
def Fo (r w : List Nat) (o : IOp) : GOp := ⟨none, o, some (r, w)⟩
def Mi (d : Nat) (n : Int) : GOp := ⟨none, .mov d (.c (.int .i64 n)), none⟩
def Ms (d : Nat) (s : List UInt8) : GOp := ⟨none, .mov d (.c (.str s)), none⟩
def Mb (d : Nat) (b : Bool) : GOp := ⟨none, .mov d (.c (.bool b)), none⟩
def Lq (d x : Nat) : GOp := ⟨none, .lde d 1 false (.t x), none⟩
def Lo (d x : Nat) : GOp := ⟨none, .ld d 1 false false (.t x), none⟩
def Ca (d f : Nat) (l : List ASrc) : GOp := ⟨none, .call (some d) f l, none⟩
def Ix (d : Nat) (k : EK) (x i : Nat) : GOp := ⟨none, .ixa d k (.t x) (.t i), none⟩
def Ll (d x : Nat) : GOp := ⟨none, .lenl d (.t x), none⟩
def Un (d x : Nat) : GOp := ⟨none, .un d .not (.t x), none⟩
def Bx (d x : Nat) : GOp := ⟨none, .boxe d (.t x), none⟩
def Fz (r n v : Nat) : GOp := ⟨none, .frz none r n (.t v), none⟩
def Sv (n x v : Nat) : GOp := ⟨none, .st none n (.t x) (.t v), none⟩
def Sk (n x v : Nat) : GOp := ⟨none, .st none n (.t x) (.tk v), none⟩
def kI (n : Int) : ASrc := .c (.int .i64 n)
def kU (n : Int) : ASrc := .c (.int .u64 n)
def kS (s : List UInt8) : ASrc := .c (.str s)
def kB (b : Bool) : ASrc := .c (.bool b)
def vI (n : Int) : V := .int .i64 n
def vU (n : Int) : V := .int .u64 n
def vS : V := .str []
def nl (k : EK) : V := .sl k .own []
def fu (k : EK) (b : Bool) : V := .sl k (.may b) []
def rg (a b : Nat) : List Nat := List.range' a (b + 1 - a)
/-- a run whose joins and loops are left open, and what stands for them -/
theorem run_of {Γ : ASpec} {N n : Nat} {rs : List RV} {ir : IR} {vs : List V} {hp : List AObj} (l : List (Nat × (St → Ro))) (hl : idsApart (l.map Prod.fst) = true) (e : l = cuts Γ N ir (fin rs) ++ [])
    (S : (Nat → St → Ro) → Ro) (hS : ∀ C, runX C Γ N ir (fin rs) (AM.start n vs hp) = S C) : callF Γ N n rs ir vs hp = S (lookC l) := by
  refine Eq.trans ?_ (hS _)
  exact (runX_eq ir (fin rs) (fun p hp => lookC_ok hl p (by rw [e]; exact List.mem_append_left _ hp)) _).symm

/- tables, row by row -/
structure GRow (P : Program) where
  id : Nat
  t : List V → Option (Bool × V)
  ok : ∀ vs v, t vs = some (true, v) → PureOK P id vs v ∧ vs.all V.flat = true ∧ v.flat = true
structure ORow (P : Program) where
  id : Nat
  t : List V → List (List V) → Option (Bool × V × List (List V))
  ok : ∀ us css v css', t us css = some (true, v, css') → ObjsFn P id us css v css'
structure NRow (P : Program) where
  id : Nat
  t : List V → Option (Bool × List V)
  ok : ∀ us cs, t us = some (true, cs) → NewFn P id us cs

section
variable {P : Program}
def gtab : List (GRow P) → Nat → List V → Option (Bool × V)
  | [], _, _ => none
  | r :: l, f, vs => cond (Nat.beq r.id f) (r.t vs) (gtab l f vs)
def otab : List (ORow P) → OsSpec
  | [], _, _, _ => none
  | r :: l, f, us, css => cond (Nat.beq r.id f) (r.t us css) (otab l f us css)
def ntab : List (NRow P) → NSpec
  | [], _, _ => none
  | r :: l, f, us => cond (Nat.beq r.id f) (r.t us) (ntab l f us)

theorem gtab_ok : ∀ (l : List (GRow P)) f vs v, gtab l f vs = some (true, v) → PureOK P f vs v ∧ vs.all V.flat = true ∧ v.flat = true
  | [], _, _, _, h => by simp [gtab] at h
  | r :: l, f, vs, v, h => by
    unfold gtab at h
    cases hb : Nat.beq r.id f with
    | true =>
      rw [hb] at h
      have e : r.id = f := Nat.eq_of_beq_eq_true hb
      subst e
      exact r.ok vs v h
    | false => rw [hb] at h; exact gtab_ok l f vs v h
theorem otab_ok : ∀ (l : List (ORow P)) f us css v css', otab l f us css = some (true, v, css') → ObjsFn P f us css v css'
  | [], _, _, _, _, _, h => by simp [otab] at h
  | r :: l, f, us, css, v, css', h => by
    unfold otab at h
    cases hb : Nat.beq r.id f with
    | true =>
      rw [hb] at h
      have e : r.id = f := Nat.eq_of_beq_eq_true hb
      subst e
      exact r.ok _ _ _ _ h
    | false => rw [hb] at h; exact otab_ok l f us css v css' h
theorem ntab_ok : ∀ (l : List (NRow P)) f us cs, ntab l f us = some (true, cs) → NewFn P f us cs
  | [], _, _, _, h => by simp [ntab] at h
  | r :: l, f, us, cs, h => by
    unfold ntab at h
    cases hb : Nat.beq r.id f with
    | true =>
      rw [hb] at h
      have e : r.id = f := Nat.eq_of_beq_eq_true hb
      subst e
      exact r.ok _ _ h
    | false => rw [hb] at h; exact ntab_ok l f us cs h
theorem otab_none : ∀ (l : List (ORow P)) f us css, (∀ r ∈ l, r.id ≠ f) → otab l f us css = none
  | [], _, _, _, _ => rfl
  | r :: l, f, us, css, h => by
    unfold otab
    have hb : Nat.beq r.id f = false := by
      cases hb : Nat.beq r.id f with
      | true => exact absurd (Nat.eq_of_beq_eq_true hb) (h r (by simp))
      | false => rfl
    rw [hb]
    exact otab_none l f us css fun r hr => h r (by simp [hr])
theorem ntab_none : ∀ (l : List (NRow P)) f us, (∀ r ∈ l, r.id ≠ f) → ntab l f us = none
  | [], _, _, _ => rfl
  | r :: l, f, us, h => by
    unfold ntab
    have hb : Nat.beq r.id f = false := by
      cases hb : Nat.beq r.id f with
      | true => exact absurd (Nat.eq_of_beq_eq_true hb) (h r (by simp))
      | false => rfl
    rw [hb]
    exact ntab_none l f us fun r hr => h r (by simp [hr])

theorem liftG_ok (l : List (GRow P)) : SpecOK P (liftG (gtab l)) := by
  intro f vs hp v hp' h0
  obtain ⟨h, e⟩ := liftG_inv h0
  subst e
  obtain ⟨h1, h2, h3⟩ := gtab_ok l f vs v h
  exact h1.frame h2 h3 _

def tab (N : List (NRow P)) (O : List (ORow P)) (ls : List Nat) (G : List (GRow P)) : ASpec := withN (ntab N) (withOs (otab O) (withL ls (gtab G) (liftG (gtab G))))

theorem tab_ok (N : List (NRow P)) (O : List (ORow P)) (ls : List Nat) (G : List (GRow P)) : SpecOK P (tab N O ls G) :=
  withN_ok (ntab_ok N) (withOs_ok (otab_ok O) (withL_ok (fun f vs v h => (gtab_ok G f vs v h).1) (liftG_ok G)))

def tabB (N : List (NRow P)) (O : List (ORow P)) (ls imp : List Nat) : Bool :=
  N.all (fun r => imp.contains r.id && !imp.contains (r.id + 2000000)) && O.all (fun r => imp.contains r.id) && (ls ++ imp.filter (fun x => !Nat.blt x 2000000)).all (fun x => imp.contains x)

theorem tab_pure {N : List (NRow P)} {O : List (ORow P)} {ls : List Nat} {G : List (GRow P)} {imp : List Nat} (h : tabB N O ls imp = true) : PureS (tab N O ls G) imp := by
  simp only [tabB, Bool.and_eq_true, List.all_eq_true, Bool.not_eq_true'] at h
  obtain ⟨⟨h1, h2⟩, h3⟩ := h
  refine withN_pure (fun f us hf => ntab_none N f us ?_) (fun f us hf => ntab_none N f us ?_) (withOs_pure (fun f us css hf => otab_none O f us css ?_) (withL_pure (liftG_pure _ _) (List.all_eq_true.2 h3) ?_))
  · rintro r hr rfl
    rw [(h1 r hr).1] at hf
    cases hf
  · rintro r hr rfl
    rw [(h1 r hr).2] at hf
    cases hf
  · rintro r hr rfl
    rw [h2 r hr] at hf
    cases hf
  · refine List.all_eq_true.2 fun x hx => ?_
    cases hb : Nat.blt x 2000000 with
    | true => rfl
    | false =>
      simp only [Bool.false_or]
      rw [List.contains_iff_mem]
      exact List.mem_filter.2 ⟨hx, by simp [hb]⟩

theorem grow_of {f : FuncId} {vs : List V} {a v : V} {R : Type} [Inhabited R] {C : R → Prop} (h : some (can C, a) = some (true, v)) (k : C (pick C) → PureOK P f vs a) (hf : vs.all V.flat = true) (hv : a.flat = true) :
    PureOK P f vs v ∧ vs.all V.flat = true ∧ v.flat = true := by
  simp only [Option.some.injEq, Prod.mk.injEq] at h
  obtain ⟨hc, rfl⟩ := h
  exact ⟨k (of_can hc), hf, hv⟩
theorem orow_of {f : FuncId} {vs : List V} {a v : V} {css cs cs' : List (List V)} {R : Type} [Inhabited R] {C : R → Prop} (h : some (can C, a, cs) = some (true, v, cs')) (k : C (pick C) → ObjsFn P f vs css a cs) : ObjsFn P f vs css v cs' := by
  simp only [Option.some.injEq, Prod.mk.injEq] at h
  obtain ⟨hc, rfl, rfl⟩ := h
  exact k (of_can hc)
theorem nrow_of {f : FuncId} {vs : List V} {cs cs' : List V} {R : Type} [Inhabited R] {C : R → Prop} (h : some (can C, cs) = some (true, cs')) (k : C (pick C) → NewFn P f vs cs) : NewFn P f vs cs' := by
  simp only [Option.some.injEq, Prod.mk.injEq] at h
  obtain ⟨hc, rfl⟩ := h
  exact k (of_can hc)
end

/-- a function's code, and that it is the program's -/
structure FnC (P : Program) (Γ : ASpec) (imp : List Nat) (k : Nat) (f : FuncId) (fn : Func) (ir : IR) (rs : List RV) : Prop where
  spec : SpecOK P Γ
  imps : PureS Γ imp
  func : P.funcs[f]? = some fn
  body : fn.body = some (fn.body.getD .skip)
  chk : (chkCode P imp k ir (fn.body.getD .skip) && chkRes P rs fn.results.toList) = true
  small : fn.results.toList.length ≤ 5

section
variable {P : Program} {Γ : ASpec} {imp : List Nat} {k n : Nat} {f : FuncId} {fn : Func} {ir : IR} {rs : List RV} {vs : List V} {x : Ro}

theorem FnC.fnOK (h : FnC P Γ imp k f fn ir rs) {hp hp' : List AObj} {v : V} (hk : hp.length = k) (hr : callF Γ n fn.ntmps rs ir vs hp = some (v, hp')) : FnOK P f vs hp v hp' := by
  subst hk
  have hc := h.chk
  simp only [Bool.and_eq_true] at hc
  exact fnOK_of h.spec h.imps h.func h.body hc.1 hc.2 h.small hr

theorem FnC.pure (h : FnC P Γ imp 0 f fn ir rs) (hr : callF Γ n fn.ntmps rs ir vs [] = x) {v : V} {hp' : List AObj} (hz : x = some (v, hp')) : PureOK P f vs v := ⟨hp', h.fnOK rfl (hr.trans hz)⟩

theorem FnC.newFn (h : FnC P Γ imp 0 f fn ir rs) (hr : callF Γ n fn.ntmps rs ir vs [] = x) {cs : List V} (hz : x = some (.ptr 0 0, [some cs])) : NewFn P f vs cs := h.fnOK rfl (hr.trans hz)

theorem FnC.objs {css css' : List (List V)} {rest : List AObj} (h : FnC P Γ imp css.length f fn ir rs) (hr : callF Γ n fn.ntmps rs ir vs (css.map some) = x) {v : V} (hz : x = some (v, css'.map some ++ rest)) (hl : css'.length = css.length) :
    ObjsFn P f vs css v css' := ⟨hl, rest, h.fnOK (by simp) (hr.trans hz)⟩
theorem fnC {N : List (NRow P)} {O : List (ORow P)} {ls : List Nat} {G : List (GRow P)} (h : tabB N O ls imp = true) (func : P.funcs[f]? = some fn) (body : fn.body = some (fn.body.getD .skip))
    (chk : (chkCode P imp k ir (fn.body.getD .skip) && chkRes P rs fn.results.toList) = true) (small : fn.results.toList.length ≤ 5) : FnC P (tab N O ls G) imp k f fn ir rs := ⟨tab_ok N O ls G, tab_pure h, func, body, chk, small⟩
end
end Go.AM
