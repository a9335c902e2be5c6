/-
  Records joined; two lists that are the same; whether rec does anything.
-/
import Derived.Test.YtifmekddikapeaaRcRecs
import Derived.KernelRfl
namespace Go.Proofs.Ytifmekddikapeaa
open Go.AM
set_option autoImplicit false
set_option linter.unusedSimpArgs false
set_option linter.unusedVariables false

theorem join_drop (l : List Record) (i : Nat) (h : i < l.length) : joinR (l.drop i) = (l.getD i (dflt .record)).raw ++ joinR (l.drop (i + 1)) := by
  conv => lhs; rw [List.drop_eq_getElem_cons h]
  simp only [joinR, List.flatMap_cons, List.getD_eq_getElem?_getD, List.getElem?_eq_getElem h, Option.getD_some]

theorem sh_rec_Join_eq (N : Nat) (l : List Record) (hl : (joinR l).length ≤ 140737488355328) (h2 : l.length ≤ 9223372036854775807) (hN : l.length < N) : (sh_rec_Join N l).map (·.1) = some (.str (joinR l)) := by
  simp only [sh_rec_Join, sa_rec_Join]
  refine iterL_fst (fun x => x.1 = l ∧ x.2.1 = (l.length : Int) ∧ ∃ i : Nat, x.2.2.1 = (i : Int) ∧ i ≤ l.length ∧ x.2.2.2 ++ joinR (l.drop i) = joinR l) (fun x => (x.2.1 - x.2.2.1).toNat) (fun _ => .str (joinR l)) ?_ N _ ⟨rfl, rfl, 0, rfl, by omega, by simp⟩ (by simp; omega)
  rintro rec ⟨v6, v7, v8, o⟩ ⟨q1, q2, i, q3, q4, q5⟩ hrec
  simp only at q1 q2 q3 q4 q5 hrec ⊢
  subst q1 q2 q3
  simp only [B_rec_Join_0]
  by_cases h : i < v6.length
  · rw [join_drop v6 i h, ← List.append_assoc] at q5
    have e : (o ++ (v6.getD i (dflt .record)).raw).length ≤ (joinR v6).length := by rw [← q5]; simp
    rw [List.length_append] at e
    simp (disch := omega) only [rbase, ]
    exact hrec _ ⟨rfl, rfl, i + 1, by simp, by omega, q5⟩ (by simp; omega)
  · have hi : i = v6.length := by omega
    subst hi
    simp [joinR] at q5
    simp (disch := omega) only [rbase, ]
    simp [joinR, q5]

theorem sh_ref1_Join_eq (N : Nat) (l : List Record) (hl : (joinR l).length ≤ 140737488355328) (h2 : l.length ≤ 9223372036854775807) (hN : l.length < N) : (sh_ref1_Join N l).map (·.1) = some (.str (joinR l)) := by
  simp only [sh_ref1_Join, sa_ref1_Join]
  refine iterL_fst (fun x => x.1 = l ∧ ∃ i : Nat, x.2.2 = (i : Int) ∧ i ≤ l.length ∧ x.2.1 ++ joinR (l.drop i) = joinR l) (fun x => ((x.1.length : Int) - x.2.2).toNat) (fun _ => .str (joinR l)) ?_ N _ ⟨rfl, 0, rfl, by omega, by simp⟩ (by simp; omega)
  rintro rec ⟨v6, o, v8⟩ ⟨q1, i, q3, q4, q5⟩ hrec
  simp only at q1 q3 q4 q5 hrec ⊢
  subst q1 q3
  simp only [B_ref1_Join_0]
  by_cases h : i < v6.length
  · rw [join_drop v6 i h, ← List.append_assoc] at q5
    have e : (o ++ (v6.getD i (dflt .record)).raw).length ≤ (joinR v6).length := by rw [← q5]; simp
    rw [List.length_append] at e
    simp (disch := omega) only [rbase, ]
    exact hrec _ ⟨rfl, i + 1, by simp, by omega, q5⟩ (by simp; omega)
  · have hi : i = v6.length := by omega
    subst hi
    simp [joinR] at q5
    simp (disch := omega) only [rbase, ]
    simp [joinR, q5]

theorem sh_ref1_SameRecords_eq (N : Nat) (l : List Record) (h2 : l.length ≤ 9223372036854775807) (hN : l.length < N) : (sh_ref1_SameRecords N l l).map (·.1) = some (.bool true) := by
  simp only [sh_ref1_SameRecords, sa_ref1_SameRecords]
  simp (disch := omega) only [rbase, ]
  refine iterL_fst (fun x => x.1 = l ∧ x.2.1 = l ∧ ∃ i : Nat, x.2.2 = (i : Int) ∧ i ≤ l.length) (fun x => ((x.1.length : Int) - x.2.2).toNat) (fun _ => .bool true) ?_ N _ ⟨rfl, rfl, 0, rfl, by omega⟩ (by simp; omega)
  rintro rec ⟨v6, o, v8⟩ ⟨q1, q2, i, q3, q4⟩ hrec
  simp only at q1 q2 q3 q4 hrec ⊢
  subst q1 q2 q3
  simp only [B_ref1_SameRecords_0]
  by_cases h : i < o.length
  · simp (disch := omega) only [rbase, decide_true]
    exact hrec _ ⟨rfl, rfl, i + 1, by simp, by omega⟩ (by simp; omega)
  · simp (disch := omega) only [rbase, ]

theorem sh_law1_begun_eq (N : Nat) : sh_law1_begun N = some (.bool true, []) := by kernel_rfl
end Go.Proofs.Ytifmekddikapeaa
