/-
  Two operations that have nothing to do with each other may change places.
-/
import Derived.Test.YtehknfijojlddaaGreatDmSound
namespace Go.DM
set_option autoImplicit false
set_option linter.unusedSimpArgs false
set_option linter.unusedVariables false

/-- an operation, as it was carried out: what it looked at, what it turned; of a call: what is hidden from it, what it left as it was -/
structure AOp where
  x : GOp
  at_ : Nat
  M : List Nat
  cl : Bool
  R : List Nat
  W : List Nat
  U : Nat → Prop

def AStep (Γ : Sp) (a : AOp) (s s' : FS) : Prop := match a.cl with
  | false => ∃ u ws, s' = ⟨putF s.E a.x.d u, putsF s.H ws, s.n⟩ ∧ (∀ p ∈ ws, p.1 ∈ a.W) ∧ ∀ t : FS, (∀ n ∈ a.x.rd, t.E n = s.E n) → (∀ id ∈ a.R, t.H id = s.H id) → RStep Γ a.at_ a.M a.x t ⟨putF t.E a.x.d u, putsF t.H ws, t.n⟩
  | true => ∃ u H' n', s' = ⟨putF s.E a.x.d u, backF a.M s.H H', n'⟩ ∧ (∀ id, a.U id → id ∉ a.M → H' id = s.H id) ∧ ∀ t : FS, (∀ n ∈ a.x.rd, t.E n = s.E n) → t.n = s.n → hideF a.M t.H = hideF a.M s.H → RStep Γ a.at_ a.M a.x t ⟨putF t.E a.x.d u, backF a.M t.H H', n'⟩

theorem AStep.step {Γ : Sp} {a : AOp} {s s' : FS} (h : AStep Γ a s s') : RStep Γ a.at_ a.M a.x s s' := by
  unfold AStep at h
  split at h
  · obtain ⟨u, ws, rfl, _, h⟩ := h
    exact h s (fun _ _ => rfl) (fun _ _ => rfl)
  · obtain ⟨u, H', n', rfl, _, h⟩ := h
    exact h s (fun _ _ => rfl) rfl rfl

/-- slots: neither looks at what the other one yields -/
def slotsApart (x y : GOp) : Prop := (∀ d, x.d = some d → d ∉ y.rd) ∧ (∀ d, y.d = some d → d ∉ x.rd) ∧ (∀ d, x.d = some d → y.d ≠ some d)
/-- objects -/
def objsApart (a b : AOp) : Prop := match a.cl, b.cl with
  | false, false => (∀ i ∈ a.W, i ∉ b.R ∧ i ∉ b.W) ∧ ∀ i ∈ a.R, i ∉ b.W
  | false, true => (∀ i ∈ a.W, i ∈ b.M) ∧ ∀ i ∈ a.R, i ∈ b.M ∨ b.U i
  | true, false => (∀ i ∈ b.W, i ∈ a.M) ∧ ∀ i ∈ b.R, i ∈ a.M ∨ a.U i
  | true, true => False

theorem putF_ne {E : Nat → D} {d : Option Nat} {v : D} {n : Nat} (h : d ≠ some n) : putF E d v n = E n := by
  cases d with
  | none => rfl
  | some d => simp only [putF, upd]; rw [if_neg (by rintro rfl; exact h rfl)]
theorem putF_comm {E : Nat → D} {d e : Option Nat} {u v : D} (h : ∀ n, d = some n → e ≠ some n) : putF (putF E d u) e v = putF (putF E e v) d u := by
  cases d with
  | none => rfl
  | some d =>
  cases e with
  | none => rfl
  | some e =>
    have hne : d ≠ e := by rintro rfl; exact h d rfl rfl
    funext n
    simp only [putF, upd]
    by_cases h1 : n = e
    · subst h1; simp [Ne.symm hne]
    · by_cases h2 : n = d
      · subst h2; simp [hne]
      · simp [h1, h2]
theorem putsF_get {ws : List (Nat × Option Obj)} : ∀ {H : Nat → Option Obj} {i : Nat}, (∀ p ∈ ws, p.1 ≠ i) → putsF H ws i = H i := by
  induction ws with
  | nil => intro H i _; rfl
  | cons p ws ih =>
    intro H i h
    show putsF (upd H p.1 p.2) ws i = _
    rw [ih (fun q hq => h q (List.mem_cons_of_mem _ hq))]
    simp only [upd]
    rw [if_neg (fun e => h p (List.mem_cons_self ..) e.symm)]
theorem putsF_upd {ws : List (Nat × Option Obj)} : ∀ {H : Nat → Option Obj} {i : Nat} {o : Option Obj}, (∀ p ∈ ws, p.1 ≠ i) → putsF (upd H i o) ws = upd (putsF H ws) i o := by
  induction ws with
  | nil => intro H i o _; rfl
  | cons p ws ih =>
    intro H i o h
    show putsF (upd (upd H i o) p.1 p.2) ws = upd (putsF (upd H p.1 p.2) ws) i o
    rw [← ih (fun q hq => h q (List.mem_cons_of_mem _ hq))]
    congr 1
    funext j
    simp only [upd]
    have := h p (List.mem_cons_self ..)
    by_cases h1 : j = p.1
    · subst h1; simp [this]
    · by_cases h2 : j = i
      · subst h2; simp [Ne.symm this]
      · simp [h1, h2]
theorem putsF_comm {vs : List (Nat × Option Obj)} : ∀ {ws : List (Nat × Option Obj)} {H : Nat → Option Obj}, (∀ p ∈ vs, ∀ q ∈ ws, p.1 ≠ q.1) → putsF (putsF H vs) ws = putsF (putsF H ws) vs := by
  intro ws
  induction ws with
  | nil => intro H _; rfl
  | cons q ws ih =>
    intro H h
    show putsF (upd (putsF H vs) q.1 q.2) ws = putsF (putsF (upd H q.1 q.2) ws) vs
    rw [← putsF_upd (fun p hp => h p hp q (List.mem_cons_self ..)), ih (fun p hp r hr => h p hp r (List.mem_cons_of_mem _ hr))]
theorem hideF_puts {M : List Nat} {ws : List (Nat × Option Obj)} {H : Nat → Option Obj} (h : ∀ p ∈ ws, p.1 ∈ M) : hideF M (putsF H ws) = hideF M H := by
  funext i
  simp only [hideF]
  split
  · rfl
  · rename_i hi
    exact putsF_get (fun p hp e => hi (e ▸ h p hp))
theorem backF_puts {M : List Nat} {H' : Nat → Option Obj} {ws : List (Nat × Option Obj)} : ∀ {H : Nat → Option Obj}, (∀ p ∈ ws, p.1 ∈ M) → backF M (putsF H ws) H' = putsF (backF M H H') ws := by
  induction ws with
  | nil => intro H _; rfl
  | cons p ws ih =>
    intro H h
    show backF M (putsF (upd H p.1 p.2) ws) H' = putsF (upd (backF M H H') p.1 p.2) ws
    rw [ih (fun q hq => h q (List.mem_cons_of_mem _ hq))]
    congr 1
    funext i
    simp only [backF, upd]
    have := h p (List.mem_cons_self ..)
    by_cases h1 : i = p.1
    · subst h1; simp [this]
    · simp [h1]

theorem swap {Γ : Sp} {y x : AOp} (hs : slotsApart y.x x.x) (ho : objsApart y x) {s s1 s2 : FS} (h1 : AStep Γ y s s1) (h2 : AStep Γ x s1 s2) : ∃ s1', AStep Γ x s s1' ∧ AStep Γ y s1' s2 := by
  obtain ⟨a1, a2, a3⟩ := hs
  have rdx : ∀ (E : Nat → D) (u : D), ∀ n ∈ x.x.rd, putF E y.x.d u n = E n := fun E u n hn => putF_ne (fun e => a1 n e hn)
  have rdy : ∀ (E : Nat → D) (u : D), ∀ n ∈ y.x.rd, putF E x.x.d u n = E n := fun E u n hn => putF_ne (fun e => a2 n e hn)
  unfold objsApart at ho
  cases hy : y.cl with
  | false =>
    cases hx : x.cl with
    | false =>
      rw [hy, hx] at ho
      obtain ⟨o1, o2⟩ := ho
      simp only [AStep, hy] at h1
      simp only [AStep, hx] at h2
      obtain ⟨u, ws, rfl, w1, l1⟩ := h1
      obtain ⟨v, vs, rfl, w2, l2⟩ := h2
      have gx : ∀ id ∈ x.R, putsF s.H ws id = s.H id := fun id hid => putsF_get (fun p hp e => (o1 _ (w1 p hp)).1 (e ▸ hid))
      have gy : ∀ id ∈ y.R, putsF s.H vs id = s.H id := fun id hid => putsF_get (fun p hp e => o2 _ hid (e ▸ w2 p hp))
      refine ⟨⟨putF s.E x.x.d v, putsF s.H vs, s.n⟩, ?_, ?_⟩
      · simp only [AStep, hx]
        exact ⟨v, vs, rfl, w2, fun t h3 h4 => l2 t (fun n hn => (h3 n hn).trans (rdx _ _ n hn).symm) (fun id hid => (h4 id hid).trans (gx id hid).symm)⟩
      · simp only [AStep, hy]
        refine ⟨u, ws, ?_, w1, fun t h3 h4 => l1 t (fun n hn => (h3 n hn).trans (rdy _ _ n hn)) (fun id hid => (h4 id hid).trans (gy id hid))⟩
        rw [putF_comm a3, putsF_comm (fun p hp q hq e => (o1 _ (w1 p hp)).2 (e ▸ w2 q hq))]
    | true =>
      rw [hy, hx] at ho
      obtain ⟨o1, o2⟩ := ho
      simp only [AStep, hy] at h1
      simp only [AStep, hx] at h2
      obtain ⟨u, ws, rfl, w1, l1⟩ := h1
      obtain ⟨v, H', n', rfl, w2, l2⟩ := h2
      have hM : ∀ p ∈ ws, p.1 ∈ x.M := fun p hp => o1 _ (w1 p hp)
      have out : ∀ id, id ∉ x.M → putsF s.H ws id = s.H id := fun id hid => putsF_get (fun p hp e => hid (e ▸ hM p hp))
      refine ⟨⟨putF s.E x.x.d v, backF x.M s.H H', n'⟩, ?_, ?_⟩
      · simp only [AStep, hx]
        exact ⟨v, H', n', rfl, fun id h3 h4 => (w2 id h3 h4).trans (out id h4), fun t h3 h4 h5 => l2 t (fun n hn => (h3 n hn).trans (rdx _ _ n hn).symm) h4 (h5.trans (hideF_puts hM).symm)⟩
      · simp only [AStep, hy]
        refine ⟨u, ws, ?_, w1, fun t h3 h4 => l1 t (fun n hn => (h3 n hn).trans (rdy _ _ n hn)) (fun id hid => (h4 id hid).trans ?_)⟩
        · rw [putF_comm a3, backF_puts hM]
        · simp only [backF]
          split
          · rfl
          · rename_i hn
            rcases o2 id hid with h5 | h5
            · exact absurd h5 hn
            · exact (w2 id h5 hn).trans (out id hn)
  | true =>
    cases hx : x.cl with
    | true => rw [hy, hx] at ho; exact ho.elim
    | false =>
      rw [hy, hx] at ho
      obtain ⟨o1, o2⟩ := ho
      simp only [AStep, hy] at h1
      simp only [AStep, hx] at h2
      obtain ⟨u, H', n', rfl, w1, l1⟩ := h1
      obtain ⟨v, vs, rfl, w2, l2⟩ := h2
      have hM : ∀ p ∈ vs, p.1 ∈ y.M := fun p hp => o1 _ (w2 p hp)
      have gx : ∀ id ∈ x.R, backF y.M s.H H' id = s.H id := by
        intro id hid
        simp only [backF]
        split
        · rfl
        · rename_i hn
          rcases o2 id hid with h5 | h5
          · exact absurd h5 hn
          · exact w1 id h5 hn
      refine ⟨⟨putF s.E x.x.d v, putsF s.H vs, s.n⟩, ?_, ?_⟩
      · simp only [AStep, hx]
        exact ⟨v, vs, rfl, w2, fun t h3 h4 => l2 t (fun n hn => (h3 n hn).trans (rdx _ _ n hn).symm) (fun id hid => (h4 id hid).trans (gx id hid).symm)⟩
      · simp only [AStep, hy]
        refine ⟨u, H', n', ?_, fun id h3 h4 => (w1 id h3 h4).trans (putsF_get (fun p hp e => h4 (by rw [← e]; exact hM p hp))).symm, fun t h3 h4 h5 => l1 t (fun n hn => (h3 n hn).trans (rdy _ _ n hn)) h4 (h5.trans (hideF_puts hM))⟩
        rw [putF_comm a3, backF_puts hM]

def Chain (Γ : Sp) : List AOp → FS → FS → Prop
  | [], s, s' => s = s'
  | a :: l, s, s' => ∃ s1, AStep Γ a s s1 ∧ Chain Γ l s1 s'

theorem bring {Γ : Sp} {x : AOp} {B : List AOp} {e : FS} : ∀ (A : List AOp) (s : FS), (∀ y ∈ A, slotsApart y.x x.x ∧ objsApart y x) → Chain Γ (A ++ x :: B) s e → ∃ s', AStep Γ x s s' ∧ Chain Γ (A ++ B) s' e
  | [], s, _, h => h
  | y :: A, s, hA, h => by
    obtain ⟨s1, h1, h2⟩ := h
    obtain ⟨s2, h3, h4⟩ := bring A s1 (fun y hy => hA y (List.mem_cons_of_mem _ hy)) h2
    obtain ⟨q1, q2⟩ := hA y (List.mem_cons_self ..)
    obtain ⟨s1', h5, h6⟩ := swap q1 q2 h1 h3
    exact ⟨s1', h5, s2, h6, h4⟩

/-- a run's place -/
structure Inv (B : Nat) (g₀ : Gh) (H₀ : Nat → Option Obj) (w₀ : World) (df : List Deferred) (cx : Cx) (g : Gh) (s : FS) (w : World) (a : Act) : Prop where
  sg : SG g cx s w a
  fr : FR (fun id => B ≤ id) g₀ H₀ w₀ g s.H w
  le : B ≤ s.n
  df : a.defers = df

section
variable {B : Nat} {g₀ g : Gh} {H₀ : Nat → Option Obj} {w₀ w : World} {df : List Deferred} {cx : Cx} {s : FS} {a : Act} {P : Program} {Γ : Sp} {T : Nat → Bool}

def chkGs (P : Program) (cx : Cx) (T : Nat → Bool) (ops : Array Oper) : Nat → List GOp → Bool
  | i, [] => i == ops.size
  | i, x :: l => (match ops[i]? with | some m => chkG P cx T ops x m | none => false) && chkGs P cx T ops (i + 1) l

theorem chkGs_get {ops : Array Oper} : ∀ (l : List GOp) (i : Nat), chkGs P cx T ops i l = true → ops.size = i + l.length ∧ ∀ (k : Nat) x, l[k]? = some x → ∃ m, ops[i + k]? = some m ∧ chkG P cx T ops x m = true
  | [], i, h => by
    simp only [chkGs, beq_iff_eq] at h
    exact ⟨by simp [h], by simp⟩
  | x :: l, i, h => by
    simp only [chkGs, Bool.and_eq_true] at h
    obtain ⟨h1, h2⟩ := h
    obtain ⟨k1, k2⟩ := chkGs_get l (i + 1) h2
    refine ⟨by simp [k1]; omega, ?_⟩
    intro k y hy
    cases k with
    | zero =>
      simp at hy
      subst hy
      split at h1
      · rename_i m hm
        exact ⟨m, hm, h1⟩
      · simp at h1
    | succ k =>
      obtain ⟨m, hm, hc⟩ := k2 k y (by simpa using hy)
      exact ⟨m, by rw [← hm]; congr 1; omega, hc⟩

/-- the orders that a region's edges leave open -/
structure Edges (ops : Array Oper) (l : List AOp) (pre : List (List Nat)) : Prop where
  size : ops.size = l.length
  below : ∀ j m, ops[j]? = some m → ∀ e ∈ m.after, Region.binds .any e = true → e.on < j
  from_ : ∀ j m, ops[j]? = some m → ∀ i ∈ pre.getD j [], ∃ e ∈ m.after, Region.binds .any e = true ∧ (e.on = i ∨ i ∈ pre.getD e.on [])
  apart : ∀ j x, l[j]? = some x → ∀ i y, i < j → l[i]? = some y → i ∈ pre.getD j [] ∨ (slotsApart y.x x.x ∧ objsApart y x)

theorem any_sound (hΓ : SpecOK P cx.G Γ) {ops : Array Oper} {l : List AOp} {pre : List (List Nat)} {n0 : Nat} (hE : Edges ops l pre) (hget : ∀ (j : Nat) x, l[j]? = some x → x.at_ = n0 + j ∧ ∃ m, ops[j]? = some m ∧ chkG P cx T ops x.x m = true) (hn0 : B ≤ n0)
    {e : FS} {Q : Exit → Act → World → Prop} (hQ : ∀ g w a, Inv B g₀ H₀ w₀ df cx g e w a → Q .normal a w) : ∀ (fuel : Nat) (rs : List Nat) (listed : Array Bool) (s : FS) (g : Gh) (w : World) (a : Act),
      rs.length = fuel → rs.Pairwise (· < ·) → (∀ i, i ∈ rs ↔ i < l.length ∧ listed.getD i true = false) → listed.size = l.length → (∀ j, j < l.length → j ∉ rs → ∀ i ∈ pre.getD j [], i ∉ rs) →
      Chain Γ (rs.filterMap fun i => l[i]?) s e → (∀ i ∈ rs, ∀ x, l[i]? = some x → x.x.o.makes = true → ¬ g.A (n0 + i) ∧ n0 + i < s.n) → Inv B g₀ H₀ w₀ df cx g s w a → wpAny P .any ops Q fuel listed a w := by
  have hj : ∀ j, j < l.length → ∃ m x, ops[j]? = some m ∧ l[j]? = some x ∧ x.at_ = n0 + j ∧ chkG P cx T ops x.x m = true := by
    intro j hlt
    have hx : l[j]? = some l[j] := List.getElem?_eq_getElem hlt
    obtain ⟨h1, m, hm, hcg⟩ := hget j _ hx
    exact ⟨m, l[j], hm, hx, h1, hcg⟩
  have ready : ∀ (rs : List Nat) (listed : Array Bool), (∀ i, i ∈ rs ↔ i < l.length ∧ listed.getD i true = false) → listed.size = l.length → ∀ j m, ops[j]? = some m → (j ∈ Region.ready .any ops listed ↔ j ∈ rs ∧ ∀ e ∈ m.after, Region.binds .any e = true → e.on < l.length ∧ e.on ∉ rs) := by
    intro rs listed hrs hls j m hm
    have hlt : j < l.length := by rw [← hE.size]; exact (Array.getElem?_eq_some_iff.1 hm).1
    have key : ∀ i, listed.getD i false = true ↔ i < l.length ∧ i ∉ rs := by
      intro i
      rw [hrs i]
      rcases Nat.lt_or_ge i listed.size with h1 | h1
      · have h2 : i < l.length := by omega
        simp [Array.getD, h1, h2]
      · have h2 : ¬ i < l.length := by omega
        have h3 : ¬ i < listed.size := by omega
        simp [Array.getD, h3, h2]
    rw [mem_ready, hrs j]
    constructor
    · rintro ⟨h1, o, ho, h2⟩
      rw [hm] at ho
      cases ho
      exact ⟨⟨hlt, h1⟩, fun e he hb => (key _).1 (h2 e he hb)⟩
    · rintro ⟨⟨_, h1⟩, h2⟩
      exact ⟨h1, m, hm, fun e he hb => (key _).2 (h2 e he hb)⟩
  intro fuel
  induction fuel with
  | zero =>
    intro rs listed s g w a hlen hpw hrs hls hpre hr hfr h
    have : rs = [] := List.eq_nil_of_length_eq_zero hlen
    subst this
    simp only [wpAny]
    simp only [List.filterMap_nil, Chain] at hr
    subst hr
    refine ⟨?_, hQ g w a h⟩
    rw [List.eq_nil_iff_forall_not_mem]
    intro j hjr
    obtain ⟨hu, o, ho, _⟩ := mem_ready.1 hjr
    exact absurd ((ready [] listed hrs hls j o ho).1 hjr).1 (by simp)
  | succ fuel ih =>
    intro rs listed s g w a hlen hpw hrs hls hpre hr hfr h
    simp only [wpAny]
    refine ⟨?_, ?_⟩
    · intro hno
      exfalso
      cases rs with
      | nil => simp at hlen
      | cons j rs =>
        have hjl := ((hrs j).1 (List.mem_cons_self ..)).1
        obtain ⟨m, x, hm, hx, hat, hcg⟩ := hj j hjl
        have : j ∈ Region.ready .any ops listed := by
          refine (ready _ listed hrs hls j m hm).2 ⟨List.mem_cons_self .., fun e hee hb => ?_⟩
          have hlt := hE.below j m hm e hee hb
          refine ⟨by omega, ?_⟩
          intro hmem
          rcases List.mem_cons.1 hmem with h1 | h1
          · omega
          · have := (List.pairwise_cons.1 hpw).1 _ h1
            omega
        rw [hno] at this
        simp at this
    · intro j hjr
      obtain ⟨hu, o, ho, _⟩ := mem_ready.1 hjr
      obtain ⟨hjm, hdeps⟩ := (ready rs listed hrs hls j o ho).1 hjr
      have hjl := ((hrs j).1 hjm).1
      obtain ⟨m, x, hm, hx, hat, hcg⟩ := hj j hjl
      rw [hm] at ho
      have ho' : m = o := Option.some.inj ho
      subst ho'
      have hpj : ∀ i ∈ pre.getD j [], i ∉ rs := by
        intro i hii
        obtain ⟨e, hee, hb, hor⟩ := hE.from_ j m hm i hii
        obtain ⟨d1, d2⟩ := hdeps e hee hb
        rcases hor with rfl | hor
        · exact d2
        · exact hpre _ d1 d2 i hor
      obtain ⟨A, Bs, rfl⟩ := List.append_of_mem hjm
      have hA : ∀ i ∈ A, i < j := fun i hiA => (List.pairwise_append.1 hpw).2.2 i hiA j (List.mem_cons_self ..)
      have hB : ∀ i ∈ Bs, j < i := fun i hiB => (List.pairwise_cons.1 (List.pairwise_append.1 hpw).2.1).1 i hiB
      rw [List.filterMap_append, List.filterMap_cons_some hx] at hr
      obtain ⟨s', hg, hr'⟩ := bring _ s (by
        intro y hy
        obtain ⟨i, hiA, hiy⟩ := List.mem_filterMap.1 hy
        rcases hE.apart j x hx i y (hA i hiA) hiy with h1 | h1
        · exact absurd (List.mem_append_left _ hiA) (hpj i h1)
        · exact h1) hr
      rw [← List.filterMap_append] at hr'
      refine gop_sound hΓ hm hcg hg.step h.sg (fun hmk _ => by rw [hat]; exact hfr j hjm x hx hmk) ?_
      intro a' w' g' k1 k2 k3 k4
      have hmem : ∀ i, i ∈ A ++ Bs ↔ i ∈ A ++ j :: Bs ∧ i ≠ j := by
        intro i
        simp only [List.mem_append, List.mem_cons]
        constructor
        · rintro (h1 | h1)
          · exact ⟨.inl h1, by have := hA i h1; omega⟩
          · exact ⟨.inr (.inr h1), by have := hB i h1; omega⟩
        · rintro ⟨h1 | h1 | h1, h2⟩
          · exact .inl h1
          · exact absurd h1 h2
          · exact .inr h1
      refine ih (A ++ Bs) (listed.setIfInBounds j true) s' g' w' a' ?_ ?_ ?_ (by simp [hls]) ?_ hr' ?_ ⟨k1, h.fr.trans (fun id hid => ?_) k2, by have := h.le; omega, k4.trans h.df⟩
      · simp only [List.length_append, List.length_cons] at hlen ⊢
        omega
      · exact hpw.sublist (List.Sublist.append_left (List.sublist_cons_self ..) _)
      · intro i
        rw [hmem, hrs]
        by_cases hij : i = j
        · subst hij
          have hsz : i < listed.size := by omega
          simp [Array.getD, hsz]
        · rw [getD_set_ne true (fun e => hij e.symm)]
          simp [hij]
      · intro j' hj' hnot i hii hmi
        obtain ⟨h1, h2⟩ := (hmem i).1 hmi
        by_cases hjj : j' = j
        · subst hjj
          exact hpj i hii h1
        · exact hpre j' hj' (fun hm' => hnot ((hmem j').2 ⟨hm', hjj⟩)) i hii h1
      · intro i hi y hy hmk
        obtain ⟨h1, h2⟩ := (hmem i).1 hi
        obtain ⟨h4, h5⟩ := hfr i h1 y hy hmk
        refine ⟨fun hA' => ?_, by omega⟩
        rcases k2.fresh _ hA' with h3 | h3 | h3
        · exact h4 h3
        · rw [hat] at h3; omega
        · omega
      · rcases hid with hid | hid
        · rw [hat] at hid; omega
        · have := h.le; omega
end
end Go.DM
