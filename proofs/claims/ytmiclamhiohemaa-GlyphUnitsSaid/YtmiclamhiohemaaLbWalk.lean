/-
  strings.Builder's copyCheck, wherever the builder lies in a row: nothing turns but that its own address is kept.
-/
import Derived.Test.YtmiclamhiohemaaAmTac
import Derived.Test.YtmiclamhiohemaaChecked
import Derived.WalkKit
import Derived.WalkSpells
import Derived.Laws.Externs
import Derived.Lib.Builder
import Derived.Lib.UnsafeStr
import Derived.KernelRfl
namespace Go.Proofs.Ytmiclamhiohemaa
open Go.RowKit
set_option autoImplicit false
set_option linter.unusedVariables false

theorem run_extern_ne (x : Value) (w : World) : (callFunc 55 #[x]).run Try.prog w = .ok (.value x) w := by
  rw [run_callFunc_extern Try.func55 (by kernel_rfl) (by kernel_rfl) (by kernel_rfl) (e := Extern.AbiNoEscape.same) (by kernel_rfl)]
  rw [Lib.run_noEscape]
  rfl

set_option maxHeartbeats 1000000 in
set_option maxRecDepth 100000 in
theorem cc_used (b o : Nat) (w : World) (h0 : w.cell? ⟨b, o, none⟩ = some (.pointer (some ⟨b, o, none⟩))) :
    Calls Try.prog 51 #[.pointer (some ⟨b, o, none⟩)] w fun e w' => e = .returned (.tuple #[]) ∧ w' = w := by
  obtain ⟨j, hj, hjs⟩ : ∃ j, Try.prog.info? 60 = some j ∧ j.size = 2 := Option.map_eq_some_iff.1 (show (Try.prog.info? 60).map (·.size) = some 2 by kernel_rfl)
  go_enter Try.func51, Try.ntmps51
  go_wp2
  rw [Lib.run_neq_ptr_same w _ Try.underlying57 hj]
  go_wp2
  go_end0
  exact ⟨rfl, rfl⟩

set_option maxHeartbeats 1000000 in
set_option maxRecDepth 100000 in
theorem cc_fresh (b o E n : Nat) (w : World) (h0 : w.cell? ⟨b, o, none⟩ = some (.pointer none)) (hsh : w.shape? b = some (E, n)) (ho : o < n)
    (hl : liesAt Try.prog Try.prog.depth E (n / Try.prog.cellsOf E) o 60 1 = true) (hfz : w.frozen? ⟨b, o, none⟩ = false) :
    Calls Try.prog 51 #[.pointer (some ⟨b, o, none⟩)] w fun e w' => e = .returned (.tuple #[]) ∧ w' = w.setCell ⟨b, o, none⟩ (.pointer (some ⟨b, o, none⟩)) := by
  obtain ⟨j, hj, hjs⟩ : ∃ j, Try.prog.info? 60 = some j ∧ j.size = 2 := Option.map_eq_some_iff.1 (show (Try.prog.info? 60).map (·.size) = some 2 by kernel_rfl)
  go_enter Try.func51, Try.ntmps51
  go_wp2
  rw [Lib.run_to_unsafe w ⟨b, o, none⟩ Try.underlying57 Try.underlying80 hj (by rw [hjs]; decide) hsh ho]
  simp only [Result.andThen]
  rw [Oper.upon_value]
  go_wp2
  rw [run_extern_ne]
  rw [Oper.upon_value]
  go_wp2
  rw [Lib.run_from_unsafe w ⟨b, o, none⟩ Try.underlying80 Try.underlying57 hj hsh hl]
  simp only [Result.andThen]
  rw [Oper.upon_value]
  go_wp2
  go_end0
  exact ⟨rfl, rfl⟩
end Go.Proofs.Ytmiclamhiohemaa
