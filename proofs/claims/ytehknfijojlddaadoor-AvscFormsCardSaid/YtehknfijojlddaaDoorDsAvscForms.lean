/-
  The code that 'AvscForms' reaches, laid out for the kernel: it is the program's.
-/
import Derived.Test.YtehknfijojlddaaDoorChecked
import Derived.Test.YtehknfijojlddaaDoorDkAvscForms1
import Derived.Test.YtehknfijojlddaaDoorAxLib
namespace Go.Proofs.YtehknfijojlddaaDoor.avscForms
open Go.DM
set_option maxRecDepth 100000
set_option linter.unusedVariables false
theorem ts_ok : (ts.list.all fun p => chkFn Tryd.prog [] (fun _ => true) p.1 p.2.F) = true := by kernel_rfl
theorem fd_ok : chkFnD Tryd.prog [] (fun _ => true) 21 F21 = true := by kernel_rfl
theorem cl_ok : chkFn Tryd.prog [] (fun _ => true) 46 h46.F = true := by kernel_rfl
theorem yy_ok : ∀ Γ, SpecOK Tryd.prog [] Γ → SpecOK Tryd.prog [] (yy Γ) := yDIC_ok fd_ok cl_ok rfl (by kernel_rfl) (by kernel_rfl) Go.Proofs.YtehknfijojlddaaDoor.idxC Go.Proofs.YtehknfijojlddaaDoor.cntC
end Go.Proofs.YtehknfijojlddaaDoor.avscForms
