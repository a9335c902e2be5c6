/-
  RecForms: which bytes are records. (Closed.)
-/
import Derived.Test.YtifmekddikapeaaRcCode2
namespace Go.Proofs.Ytifmekddikapeaa
open Go.AM
set_option autoImplicit false
set_option linter.unusedVariables false

theorem sh_law1_RecForms_eq : sh_law1_RecForms 1000 = some (.bool true, []) := by kernel_rfl
end Go.Proofs.Ytifmekddikapeaa
