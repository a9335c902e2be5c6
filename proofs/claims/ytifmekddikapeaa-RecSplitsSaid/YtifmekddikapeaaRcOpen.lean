/-
  A record as an argument: its fields.
-/
import Derived.Test.YtifmekddikapeaaChecked
import Derived.ChangeArms
import Derived.WideShapes
import Derived.WideKeyArgs
import Derived.KernelRfl
namespace Go.Proofs.Ytifmekddikapeaa
open Go.ChangeShapes Go.WideShapes
set_option autoImplicit false
set_option linter.unusedVariables false

section
variable {H : Type} {enc : TypeId × Value → H} {w : World} {base : Nat} {spare : Nat → Bool} {held : Bool}

theorem open_record {r : Reach} {b0 : Nat} {v : Value} {d : DataW H} {p : List MemPlace} (hv : Value.okWide Try.prog w r b0 30 v) (h : DataW.Trod enc Try.prog w base spare held 30 v d p) :
    ∃ (a b c : Int) (s u : ByteArray), v = .agg #[.int .i64 a, .int .i64 b, .int .u64 c, .string s, .string u] ∧ p = [] ∧ (Lit.int .i64 a).wf = true ∧ (Lit.int .i64 b).wf = true ∧ (Lit.int .u64 c).wf = true ∧ s.size ≤ maxLen ∧ u.size ≤ maxLen := by
  obtain ⟨cs, rfl, hsz⟩ := okWide_struct Try.underlying30 hv
  have hC : Try.prog.cellsOf 30 = 5 := by kernel_rfl
  have k3 : Try.prog.cellsOf 3 = 1 := by kernel_rfl
  have k8 : Try.prog.cellsOf 22 = 1 := by kernel_rfl
  have k9 : Try.prog.cellsOf 9 = 1 := by kernel_rfl
  obtain ⟨c0, c1, c2, c3, c4, rfl⟩ : ∃ c0 c1 c2 c3 c4, cs = #[c0, c1, c2, c3, c4] := by
    obtain ⟨l⟩ := cs
    match l, hsz.trans hC with
    | [c0, c1, c2, c3, c4], _ => exact ⟨c0, c1, c2, c3, c4, rfl⟩
  obtain ⟨fuel, hf⟩ := h
  obtain ⟨xs, n, -, hx, -, hxl, hfs⟩ := DataW.trod_struct Try.underlying30 hf
  obtain ⟨y0, y1, y2, y3, y4, rfl⟩ : ∃ y0 y1 y2 y3 y4, xs = [y0, y1, y2, y3, y4] := by
    match xs, hxl with
    | [y0, y1, y2, y3, y4], _ => exact ⟨y0, y1, y2, y3, y4, rfl⟩
  have g0 : DataW.trod enc Try.prog w base spare held n 3 (([c0, c1, c2, c3, c4].drop 0).take (Try.prog.cellsOf 3)) = some y0 := hfs 0 _ rfl
  rw [k3] at g0
  have g1 : DataW.trod enc Try.prog w base spare held n 3 (([c0, c1, c2, c3, c4].drop 1).take (Try.prog.cellsOf 3)) = some y1 := hfs 1 _ rfl
  rw [k3] at g1
  have g2 : DataW.trod enc Try.prog w base spare held n 22 (([c0, c1, c2, c3, c4].drop 2).take (Try.prog.cellsOf 22)) = some y2 := hfs 2 _ rfl
  rw [k8] at g2
  have g3 : DataW.trod enc Try.prog w base spare held n 9 (([c0, c1, c2, c3, c4].drop 3).take (Try.prog.cellsOf 9)) = some y3 := hfs 3 _ rfl
  rw [k9] at g3
  have g4 : DataW.trod enc Try.prog w base spare held n 9 (([c0, c1, c2, c3, c4].drop 4).take (Try.prog.cellsOf 9)) = some y4 := hfs 4 _ rfl
  rw [k9] at g4
  obtain ⟨a, e0, rfl, w0⟩ := DataW.trod_int Try.underlying3 g0
  obtain ⟨b, e1, rfl, w1⟩ := DataW.trod_int Try.underlying3 g1
  obtain ⟨c, e2, rfl, w2⟩ := DataW.trod_int Try.underlying22 g2
  obtain ⟨s, e3, rfl, w3⟩ := DataW.trod_string Try.underlying9 g3
  obtain ⟨u, e4, rfl, w4⟩ := DataW.trod_string Try.underlying9 g4
  simp only [List.drop_zero, List.drop_succ_cons, List.take_succ_cons, List.take_zero, List.cons.injEq, and_true] at e0 e1 e2 e3 e4
  subst e0 e1 e2 e3 e4
  simp only [Prod.mk.injEq] at hx
  exact ⟨a, b, c, s, u, rfl, hx.2.trans (by simp), w0, w1, w2, w3, w4⟩
end
end Go.Proofs.Ytifmekddikapeaa
