/-
  strings.Builder's methods in a table of callees.
-/
import Derived.Test.YtifmekddikapeaaLbStr
namespace Go.Proofs.Ytifmekddikapeaa
open Go.AM
set_option autoImplicit false
set_option linter.unusedVariables false
set_option linter.unusedSimpArgs false

/-- the builders of this program: the element's type, the row's cells, the builder's place -/
def lieL (E n o : Nat) : Bool := (E == 54 && n == 2 && o == 0)

theorem lieL_lies {E n o : Nat} (h : lieL E n o = true) : lies E n o = true := by
  simp only [lieL, Bool.or_eq_true, Bool.and_eq_true, beq_iff_eq] at h
  obtain ⟨⟨rfl, rfl⟩, rfl⟩ := h; kernel_rfl

theorem getD_some {hp : List AObj} {id : Nat} {cs : List V} (h : hp.getD id none = some cs) : hp[id]? = some (some cs) := by
  rw [List.getD_eq_getElem?_getD] at h
  cases hq : hp[id]? with
  | none => rw [hq] at h; simp at h
  | some x => rw [hq] at h; simpa using h

theorem getD_cell {cs : List V} {o : Nat} {v : V} (h : cs.getD o .undef = v) (hv : v ≠ .undef) : cs[o]? = some v := by
  rw [List.getD_eq_getElem?_getD] at h
  cases hq : cs[o]? with
  | none => rw [hq] at h; exact absurd h.symm hv
  | some x => rw [hq] at h; simpa using h

def gWS (id o : Nat) (s : List UInt8) (hp : List AObj) : Option (Bool × V × List AObj) :=
  match hp.getD id none with
  | some cs => match cs.getD o .undef, cs.getD (o + 1) .undef with
    | .bn E n, .sl .u8 .own l => cond (lieL E n o) (some (decide (l.length + s.length ≤ 140737488355328), .tup [.int .i64 (s.length : Int), .nilif], hp.set id (some (cs.set (o + 1) (.sl .u8 .own (l ++ s)))))) none
    | _, _ => none
  | none => none

def gST (id o : Nat) (hp : List AObj) : Option (Bool × V × List AObj) :=
  match hp.getD id none with
  | some cs => match cs.getD (o + 1) .undef with
    | .sl .u8 .own l => some (true, .str l, hp.set id (some (cs.set (o + 1) (.sl .u8 (.may false) l))))
    | _ => none
  | none => none

theorem gWS_ok {id o : Nat} {s : List UInt8} {hp hp' : List AObj} {v : V} (h : gWS id o s hp = some (true, v, hp')) : FnOK Try.prog 26 [.ptr id o, .str s] hp v hp' := by
  unfold gWS at h
  split at h
  · rename_i cs hcs
    split at h
    · rename_i E n l hb hl
      cases hlie : lieL E n o with
      | false => rw [hlie] at h; simp at h
      | true =>
        rw [hlie] at h
        simp only [cond_true, Option.some.injEq, Prod.mk.injEq, decide_eq_true_eq] at h
        obtain ⟨hlen, rfl, rfl⟩ := h
        exact ws_ok (getD_some hcs) (getD_cell hb (by simp)) (lieL_lies hlie) (getD_cell hl (by simp)) hlen
    · simp at h
  · simp at h

theorem gST_ok {id o : Nat} {hp hp' : List AObj} {v : V} (h : gST id o hp = some (true, v, hp')) : FnOK Try.prog 27 [.ptr id o] hp v hp' := by
  unfold gST at h
  split at h
  · rename_i cs hcs
    split at h
    · rename_i l hl
      simp only [Option.some.injEq, Prod.mk.injEq, true_and] at h
      obtain ⟨rfl, rfl⟩ := h
      exact st_ok (getD_some hcs) (getD_cell hl (by simp))
    · simp at h
  · simp at h

/-- a table, and the builder's methods -/
def withB (Γ : ASpec) : ASpec := fun f vs hp =>
  if f = 26 then
    match vs with
    | [.ptr id o, .str s] => gWS id o s hp
    | _ => none
  else if f = 27 then
    match vs with
    | [.ptr id o] => gST id o hp
    | _ => none
  else Γ f vs hp

theorem withB_ok {Γ : ASpec} (hΓ : SpecOK Try.prog Γ) : SpecOK Try.prog (withB Γ) := by
  intro f vs hp v hp' h
  unfold withB at h
  split at h
  · rename_i hf; subst hf
    split at h
    · exact gWS_ok h
    · simp at h
  · split at h
    · rename_i hf; subst hf
      split at h
      · exact gST_ok h
      · simp at h
    · exact hΓ _ _ _ _ _ h

theorem withB_pure {Γ : ASpec} (hΓ : PureS Γ []) : PureS (withB Γ) [26, 27] := by
  refine ⟨?_, ?_⟩
  · intro f vs hp hf
    simp only [List.contains_cons, List.contains_nil, Bool.or_false, Bool.or_eq_false_iff, beq_eq_false_iff_ne, ne_eq, decide_eq_true_eq, Bool.not_eq_true, List.mem_cons, List.not_mem_nil, not_or, not_false_eq_true, or_false] at hf
    simp only [withB, hf, if_false]
    exact hΓ.pure f vs hp (by simp)
  · intro f vs hp c v hp' hf h
    simp only [List.contains_cons, List.contains_nil, Bool.or_false, Bool.or_eq_true, beq_iff_eq] at hf
    omega
end Go.Proofs.Ytifmekddikapeaa
