/-
  The code that 'AvscForms' reaches, laid out for the kernel: its run gives true.
-/
import Derived.Test.YtehknfijojlddaaDoorDkAvscForms1
namespace Go.Proofs.YtehknfijojlddaaDoor.avscForms
open Go.DM
set_option maxRecDepth 100000
set_option linter.unusedVariables false
theorem ev : isTrueR (callYR ts.find yy 100 4 [] ⟨0, .e⟩) = true := by kernel_rfl
end Go.Proofs.YtehknfijojlddaaDoor.avscForms
