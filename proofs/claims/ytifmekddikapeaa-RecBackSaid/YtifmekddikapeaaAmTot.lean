/-
  Runs that give a value of which a law holds: rules by which a run's text becomes its conditions.
-/
import Derived.Test.YtifmekddikapeaaAmNew
import Derived.Test.YtifmekddikapeaaAmTac
namespace Go.AM
set_option autoImplicit false
set_option linter.unusedVariables false

/-- it gives a value, of which Q holds -/
def Tot {R : Type} (x : Option R) (Q : R → Prop) : Prop := ∃ r, x = some r ∧ Q r

section
variable {R : Type} {Q : R → Prop}
theorem tot_some {r : R} : Tot (some r) Q ↔ Q r := ⟨fun ⟨_, h, hq⟩ => by cases h; exact hq, fun h => ⟨r, rfl, h⟩⟩
theorem tot_none : Tot none Q ↔ False := ⟨fun ⟨_, h, _⟩ => by simp at h, False.elim⟩
theorem tot_chk {c : Bool} {x : Option R} : Tot (chk c x) Q ↔ c = true ∧ Tot x Q := by
  cases c with
  | true => simp [chk]
  | false => simp [chk, tot_none]
theorem tot_cond {b : Bool} {x y : Option R} : Tot (cond b x y) Q ↔ (b = true → Tot x Q) ∧ (b = false → Tot y Q) := by
  cases b <;> simp
theorem tot_mono {x : Option R} {Q' : R → Prop} (h : Tot x Q) (hq : ∀ r, Q r → Q' r) : Tot x Q' := by
  obtain ⟨r, e, h⟩ := h
  exact ⟨r, e, hq r h⟩
theorem tot_eq {x y : Option R} (e : x = y) (h : Tot y Q) : Tot x Q := e ▸ h

/-- rounds that come to an end -/
theorem tot_iter {α : Type} {B : (α → Option R) → α → Option R} (Inv : α → Prop) (μ : α → Nat)
    (step : ∀ (again : α → Option R) x, Inv x → (∀ y, Inv y → μ y < μ x → Tot (again y) Q) → Tot (B again x) Q) : ∀ n x, Inv x → μ x < n → Tot (iterL n B x) Q
  | 0, _, _, h => by omega
  | n + 1, x, hi, hm => step (iterL n B) x hi fun y hy hlt => tot_iter Inv μ step n y hy (by omega)

/- the same, one by one -/
theorem vc_some {r : R} (h : Q r) : Tot (some r) Q := ⟨r, rfl, h⟩
theorem vc_chk {c : Bool} {x : Option R} (hc : c = true) (h : Tot x Q) : Tot (chk c x) Q := by subst hc; exact h
/-- a test that the rules decide -/
theorem vck {c : Bool} {x : Option R} (h : Tot x Q) (hc : c = true := by first | (simp only [bnl, lnl]; done) | (simp only [bnl, lnl]; omega)) : Tot (chk c x) Q := vc_chk hc h
theorem vc_cond {b : Bool} {x y : Option R} (h1 : b = true → Tot x Q) (h2 : b = false → Tot y Q) : Tot (cond b x y) Q := by
  cases b with
  | true => exact h1 rfl
  | false => exact h2 rfl

/-- chosen contracts: they hold of what is chosen -/
theorem pick_of {R : Type} [Inhabited R] {C : R → Prop} (h : ∃ r, C r) : C (pick C) := of_can (can_of h)

theorem vc_call {R' : Type} [Inhabited R'] {C : R' → Prop} {K : R' → Option R} (h : ∃ r, C r) (hK : ∀ r, C r → Tot (K r) Q) : Tot (callC C K) Q :=
  vc_chk (can_of h) (hK _ (pick_of h))
theorem vc_lend {R' : Type} [Inhabited R'] {C : R' → Prop} {T : Bool} {K : R' → Option R} (hT : T = true) (h : ∃ r, C r) (hK : ∀ r, C r → Tot (K r) Q) : Tot (callL C T K) Q :=
  vc_chk (by rw [can_of h, hT]; rfl) (hK _ (pick_of h))
end
end Go.AM
