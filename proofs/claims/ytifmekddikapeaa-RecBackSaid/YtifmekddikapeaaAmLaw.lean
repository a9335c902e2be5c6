/-
  From a plain function's contract to a law's call: it returns true, and nothing that was there has turned.
-/
import Derived.Test.YtifmekddikapeaaAmPure
import Derived.Test.YtifmekddikapeaaAmArith
import Derived.Below
namespace Go.AM
set_option autoImplicit false

/-- at the beginning all that lies is laid for good -/
def laidAll (w : World) : Gh := { I := fun b j => (w.cell? ⟨b, j, none⟩).isSome = true, ρ := id, O := fun _ => none, β := 0 }

theorem law_calls {P : Program} {f : FuncId} {vs : List V} (h : PureOK P f vs (.bool true)) {cargs : Array Value} {w : World} (hl : vs.length = cargs.size) (hb : ∀ x ∈ vs, x.bare = true)
    (hr : ∀ (i : Nat) x cv, vs[i]? = some x → cargs[i]? = some cv → VRel (laidAll w).I id 0 w x cv) :
    Calls P f cargs w fun e w' => e = .returned (.bool true) ∧ RowKit.Below w.heap.size w w' := by
  obtain ⟨hp', h⟩ := h
  refine (h w { laidAll w with β := byteT P } cargs rfl ⟨by simp, by simp, by simp, by simp, fun b j hi => hi, by simp [laidAll]⟩ hl hb hr).mono ?_
  rintro e w' ⟨cv, g', rfl, _, q2, q3, _⟩
  cases q3
  exact ⟨rfl, q2.os, q2.tape, q2.output, q2.size, fun b hb => q2.block b hb (by simp) rfl⟩

theorem arg_str {w : World} (s : ByteArray) (h : s.size ≤ maxLen) : VRel (laidAll w).I id 0 w (.str s.data.toList) (.string s) :=
  .str _ _ rfl (by unfold maxLen at h; unfold maxI; exact h)

theorem arg_int {w : World} (k : IntKind) (n : Int) (h : (Lit.int k n).wf = true) : VRel (laidAll w).I id 0 w (.int k n) (.int k n) :=
  .int _ _ (by simpa [Lit.wf] using h)

theorem arg_bool {w : World} (b : Bool) : VRel (laidAll w).I id 0 w (.bool b) (.bool b) := .bool b
end Go.AM
