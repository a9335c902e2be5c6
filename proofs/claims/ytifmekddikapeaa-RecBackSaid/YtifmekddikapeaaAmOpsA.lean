/-
  What a step of the abstract machine has to do with an operation of the model's: the frame, and the operations that only compute.
-/
import Derived.Test.YtifmekddikapeaaAmRel
namespace Go.AM
set_option autoImplicit false
set_option linter.unusedSimpArgs false

/-- a run's state and the model's -/
structure SR (g : Gh) (s : St) (w : World) (a : Act) : Prop where
  hr : HR g s.hp w
  er : ER g s.hp.length w s.env a.tmps

/-- where a step leads -/
def Goes (g : Gh) (s : St) (w : World) (a : Act) (s' : St) (next : Act → World → Prop) : Prop :=
  ∀ a' w' g', SR g' s' w' a' → FR g s.hp w g' s'.hp w' → a'.defers = a.defers → next a' w'

def const1 : V → Value → Bool
  | .int k n, .int k' n' => decide (k = k') && (n == n' && (decide (k.min ≤ n) && decide (n ≤ k.max)))
  | .bool b, .bool b' => b == b'
  | .str l, .string s => decide (s.data.toList = l) && decide (s.size ≤ maxI)
  | .sl _ _ xs, .slice none 0 0 => xs.isEmpty
  | .ul _ xs, .slice none 0 0 => xs.isEmpty
  | .nilp, .pointer none => true
  | .nilif, .nilIface => true
  | _, _ => false

def const1s : List V → List Value → Bool
  | [], [] => true
  | c :: cs, v :: vs => const1 c v && const1s cs vs
  | _, _ => false

def constOK : V → Value → Bool
  | .agg cs, .agg vs => const1s cs vs.toList
  | v, cv => const1 v cv

def srcOK : ASrc → Operand → Bool
  | .t n, .tmp k => n == k
  | .tk n, .tmp k => n == k
  | .c v, .const cv => constOK v cv
  | .c (.fn f []), .func h => f == h
  | _, _ => false

section
variable {I : Nat → Nat → Prop} {ρ : Nat → Nat} {N : Nat} {w : World} {g : Gh} {s : St} {a : Act} {P : Program}

theorem const1_rel {v : V} {cv : Value} (h : const1 v cv = true) : VRel I ρ N w v cv ∧ v.one = true := by
  unfold const1 at h
  split at h
  · simp only [Bool.and_eq_true, decide_eq_true_eq, beq_iff_eq] at h
    obtain ⟨rfl, rfl, h1, h2⟩ := h
    exact ⟨.int _ _ ⟨h1, h2⟩, rfl⟩
  · obtain rfl := by simpa using h
    exact ⟨.bool _, rfl⟩
  · simp only [Bool.and_eq_true, decide_eq_true_eq] at h
    exact ⟨.str _ _ h.1 h.2, rfl⟩
  · rename_i xs
    cases xs with
    | nil => exact ⟨.sln _ _, rfl⟩
    | cons x xs => simp at h
  · rename_i k xs
    cases xs with
    | nil => exact ⟨.ul k [] none 0 (by simp), rfl⟩
    | cons x xs => simp at h
  · exact ⟨.nilp, rfl⟩
  · exact ⟨.nilif, rfl⟩
  · simp at h

theorem const1_nil {v : V} {cv : Value} (h : const1 v cv = true) : OwnNil v cv := by
  unfold const1 at h
  split at h <;> first | (simp [OwnNil]; done) | (simp at h; done) | (simp [OwnNil]; exact h) | (simp [OwnNil]; simp at h; exact h) | simp at h

theorem const1s_nil : ∀ {cs : List V} {vs : List Value}, const1s cs vs = true → ∀ (i : Nat) c cv, cs[i]? = some c → vs[i]? = some cv → OwnNil c cv
  | [], [], _, i, c, cv, hc, hv => by simp at hc
  | c :: cs, v :: vs, h, i, c', cv', hc, hv => by
    simp only [const1s, Bool.and_eq_true] at h
    cases i with
    | zero => simp at hc hv; subst hc hv; exact const1_nil h.1
    | succ i => exact const1s_nil h.2 i c' cv' (by simpa using hc) (by simpa using hv)
  | [], _ :: _, h, _, _, _, _, _ => by simp [const1s] at h
  | _ :: _, [], h, _, _, _, _, _ => by simp [const1s] at h

theorem const1s_rel : ∀ {cs : List V} {vs : List Value}, const1s cs vs = true → cs.length = vs.length ∧ (∀ c ∈ cs, c.one = true) ∧
    ∀ (i : Nat) c cv, cs[i]? = some c → vs[i]? = some cv → VRel I ρ N w c cv
  | [], [], _ => ⟨rfl, by simp, by simp⟩
  | c :: cs, v :: vs, h => by
    simp only [const1s, Bool.and_eq_true] at h
    obtain ⟨h1, h2⟩ := const1_rel (I := I) (ρ := ρ) (N := N) (w := w) h.1
    obtain ⟨k1, k2, k3⟩ := const1s_rel h.2
    refine ⟨by simp [k1], by simpa using ⟨h2, k2⟩, ?_⟩
    intro i c' cv' hc hv
    cases i with
    | zero => simp at hc hv; subst hc hv; exact h1
    | succ i => simp at hc hv; exact k3 i _ _ hc hv
  | [], _ :: _, h => by simp [const1s] at h
  | _ :: _, [], h => by simp [const1s] at h

theorem constOK_rel {v : V} {cv : Value} (h : constOK v cv = true) : VRel I ρ N w v cv := by
  unfold constOK at h
  split at h
  · rename_i cs vs
    obtain ⟨h1, h2, h3⟩ := const1s_rel (I := I) (ρ := ρ) (N := N) (w := w) h
    exact .agg _ _ (by simpa using h1) h2 (fun i c cv hc hv => const1s_nil h i c cv hc (by simpa using hv)) (fun i c cv hc hv => h3 i c cv hc (by simpa using hv))
  · exact (const1_rel h).1

theorem constOK_own {v : V} {cv : Value} (h : constOK v cv = true) (occ : Occ) : OwnOK g w occ v cv := by
  unfold constOK at h
  split at h
  · simp [OwnOK]
  · unfold const1 at h
    split at h <;> first | (simp [OwnOK]; done) | (exact .inl ⟨by simpa using h, rfl⟩) | simp at h

theorem ER.get (h : ER g N w s.env a.tmps) (n : Nat) : VRel g.I g.ρ N w (s.get n) (a.tmps.getD n undef) := by
  by_cases hn : n < s.env.length
  · have hn' : n < a.tmps.size := by rw [← h.size]; exact hn
    refine h.rel n _ _ ?_ ?_
    · simp [St.get, List.getD, List.getElem?_eq_getElem hn]
    · simp [Array.getD, hn', Array.getElem?_eq_getElem hn']
  · have : s.get n = .undef := by simp [St.get, List.getD, List.getElem?_eq_none (Nat.le_of_not_lt hn)]
    rw [this]; exact .undef _

theorem ER.getOwn (h : ER g N w s.env a.tmps) (n : Nat) : OwnOK g w (.slot n) (s.get n) (a.tmps.getD n undef) := by
  by_cases hn : n < s.env.length
  · have hn' : n < a.tmps.size := by rw [← h.size]; exact hn
    refine h.own n _ _ ?_ ?_
    · simp [St.get, List.getD, List.getElem?_eq_getElem hn]
    · simp [Array.getD, hn', Array.getElem?_eq_getElem hn']
  · have : s.get n = .undef := by simp [St.get, List.getD, List.getElem?_eq_none (Nat.le_of_not_lt hn)]
    rw [this]; simp [OwnOK]

theorem src_rel {x : ASrc} {o : Operand} (h : srcOK x o = true) (e : ER g N w s.env a.tmps) : VRel g.I g.ρ N w (x.ev s) (a.eval o) := by
  unfold srcOK at h
  split at h
  · obtain rfl := by simpa using h
    exact (e.get _).disown
  · obtain rfl := by simpa using h
    exact e.get _
  · exact constOK_rel h
  · obtain rfl := by simpa using h
    exact .fn _ [] #[] rfl (by simp)
  · simp at h

/-- a slot is given a value that owns nothing -/
theorem ER.set (h : ER g N w s.env a.tmps) (d : Nat) {v : V} {cv : Value} (hv : VRel g.I g.ρ N w v cv) (ho : OwnOK g w (.slot d) v cv) :
    ER g N w (s.set d v).env (a.put (some d) cv).tmps := by
  refine ⟨by simp [St.set, Act.put, h.size], ?_, ?_⟩
  · intro n v' cv' hn hn'
    simp only [St.set, Act.put, List.getElem?_set, Array.getElem?_setIfInBounds] at hn hn'
    by_cases e : d = n
    · subst e
      simp only [if_true] at hn hn'
      split at hn <;> split at hn' <;> simp_all
    · simp only [e, if_false] at hn hn'
      exact h.rel n _ _ hn hn'
  · intro n v' cv' hn hn'
    simp only [St.set, Act.put, List.getElem?_set, Array.getElem?_setIfInBounds] at hn hn'
    by_cases e : d = n
    · subst e
      simp only [if_true] at hn hn'
      split at hn <;> split at hn' <;> simp_all
    · simp only [e, if_false] at hn hn'
      exact h.own n _ _ hn hn'

theorem SR.set (h : SR g s w a) (d : Nat) {v : V} {cv : Value} (hv : VRel g.I g.ρ s.hp.length w v cv) (ho : OwnOK g w (.slot d) v cv) :
    SR g (s.set d v) w (a.put (some d) cv) := ⟨h.hr, h.er.set d hv ho⟩

/-- no value of its own: nothing is owned -/
def V.bare : V → Bool
  | .sl _ .own _ => false
  | .raw _ => false
  | .ul _ _ => false
  | _ => true

theorem bare_own {v : V} (h : v.bare = true) (g : Gh) (w : World) (occ : Occ) (cv : Value) : OwnOK g w occ v cv := by
  cases v with
  | sl k o xs => cases o <;> first | simp [V.bare] at h; done | simp [OwnOK]
  | raw n => simp [V.bare] at h
  | ul k xs => simp [V.bare] at h
  | _ => simp [OwnOK]

theorem disown_bare (v : V) : (disown v).bare = true := by
  cases v with
  | sl k o xs => cases o <;> rfl
  | _ => rfl

theorem HR.drew {hp : List AObj} (h : HR g hp w) : HR g hp w.drew := by
  refine ⟨?_, h.apart, h.notI, h.notO, h.exI, h.oLt⟩
  intro id cs hid
  obtain ⟨arr, e, fz, h1, h2⟩ := h.obj id cs hid
  have u : Up g.I g.ρ hp.length w g.I g.ρ hp.length w.drew := ⟨fun _ _ h => h, fun _ _ _ => rfl, fun _ _ => rfl, Nat.le_refl _⟩
  exact ⟨arr, e, fz, h1, h2.len, h2.plain, h2.typed, h2.cold, h2.one, fun j c cv hc hv => (h2.rel j c cv hc hv).up u, fun j c cv hc hv => own_keep (h2.own j c cv hc hv) rfl (fun b j hi => ⟨hi, rfl⟩) (fun b hb => ⟨hb, rfl, fun j hj => hj⟩), h2.bn⟩

/-- an operation that yields a value in the same world -/
theorem goes_value {m : Oper} {d : Nat} {v : V} {cv : Value} {next : Act → World → Prop} {Q : Exit → Act → World → Prop} (h : SR g s w a) (hd : m.dst = some d)
    (hrun : (execOp a.eval m).run P w = .ok (.value cv) w) (hv : VRel g.I g.ρ s.hp.length w v cv) (hb : v.bare = true)
    (hn : Goes g s w a (s.set d v) next) : m.wp P a w next Q := by
  unfold Oper.wp Oper.upon
  rw [hrun, hd]
  exact hn _ _ g (h.set d hv (bare_own hb _ _ _ _)) (FR.refl _ _ _) rfl
end
end Go.AM
