/-
  strings.Builder's copyCheck, wherever the builder lies in a row: nothing turns but that its own address is kept.
-/
import Derived.Test.YtifmekddikapeaaAmTac
import Derived.Test.YtifmekddikapeaaChecked
import Derived.WalkKit
import Derived.WalkSpells
import Derived.Laws.Externs
import Derived.Lib.Builder
import Derived.Lib.UnsafeStr
import Derived.KernelRfl
namespace Go.Proofs.Ytifmekddikapeaa
open Go.RowKit
set_option autoImplicit false
set_option linter.unusedVariables false

theorem run_extern_ne (x : Value) (w : World) : (callFunc 30 #[x]).run Try.prog w = .ok (.value x) w := by
  rw [run_callFunc_extern Try.func30 (by kernel_rfl) (by kernel_rfl) (by kernel_rfl) (e := Extern.AbiNoEscape.same) (by kernel_rfl)]
  rw [Lib.run_noEscape]
  rfl

set_option maxHeartbeats 1000000 in
set_option maxRecDepth 100000 in
theorem cc_used (b o : Nat) (w : World) (h0 : w.cell? ⟨b, o, none⟩ = some (.pointer (some ⟨b, o, none⟩))) :
    Calls Try.prog 29 #[.pointer (some ⟨b, o, none⟩)] w fun e w' => e = .returned (.tuple #[]) ∧ w' = w := by
  obtain ⟨j, hj, hjs⟩ : ∃ j, Try.prog.info? 54 = some j ∧ j.size = 2 := Option.map_eq_some_iff.1 (show (Try.prog.info? 54).map (·.size) = some 2 by kernel_rfl)
  go_enter Try.func29, Try.ntmps29
  go_wp2
  rw [Lib.run_neq_ptr_same w _ Try.underlying52 hj]
  go_wp2
  go_end0
  exact ⟨rfl, rfl⟩

set_option maxHeartbeats 1000000 in
set_option maxRecDepth 100000 in
theorem cc_fresh (b o E n : Nat) (w : World) (h0 : w.cell? ⟨b, o, none⟩ = some (.pointer none)) (hsh : w.shape? b = some (E, n)) (ho : o < n)
    (hl : liesAt Try.prog Try.prog.depth E (n / Try.prog.cellsOf E) o 54 1 = true) (hfz : w.frozen? ⟨b, o, none⟩ = false) :
    Calls Try.prog 29 #[.pointer (some ⟨b, o, none⟩)] w fun e w' => e = .returned (.tuple #[]) ∧ w' = w.setCell ⟨b, o, none⟩ (.pointer (some ⟨b, o, none⟩)) := by
  obtain ⟨j, hj, hjs⟩ : ∃ j, Try.prog.info? 54 = some j ∧ j.size = 2 := Option.map_eq_some_iff.1 (show (Try.prog.info? 54).map (·.size) = some 2 by kernel_rfl)
  go_enter Try.func29, Try.ntmps29
  go_wp2
  rw [Lib.run_to_unsafe w ⟨b, o, none⟩ Try.underlying52 Try.underlying61 hj (by rw [hjs]; decide) hsh ho]
  simp only [Result.andThen]
  rw [Oper.upon_value]
  go_wp2
  rw [run_extern_ne]
  rw [Oper.upon_value]
  go_wp2
  rw [Lib.run_from_unsafe w ⟨b, o, none⟩ Try.underlying61 Try.underlying52 hj hsh hl]
  simp only [Result.andThen]
  rw [Oper.upon_value]
  go_wp2
  go_end0
  exact ⟨rfl, rfl⟩
end Go.Proofs.Ytifmekddikapeaa
