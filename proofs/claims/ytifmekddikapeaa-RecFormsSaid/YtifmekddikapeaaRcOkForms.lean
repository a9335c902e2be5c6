/-
  The contracts of RecForms: written by wip/rec/asm_rec.py.
-/
import Derived.Test.YtifmekddikapeaaRcForms
namespace Go.Proofs.Ytifmekddikapeaa
open Go.AM
set_option autoImplicit false
set_option linter.unusedVariables false
theorem pure_law1_RecForms  : PureOK Try.prog i_law1_RecForms [] (.bool true) := by
  exact ok_law1_RecForms (spec_law1_RecForms pure_law1_begun pure_rec_Split pure_rec_Put) 1000  (sh_law1_RecForms_eq)
end Go.Proofs.Ytifmekddikapeaa
