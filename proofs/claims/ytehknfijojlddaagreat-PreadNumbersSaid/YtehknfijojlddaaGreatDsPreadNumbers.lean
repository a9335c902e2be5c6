/-
  The code that 'PreadNumbers' reaches, laid out for the kernel: it is the program's.
-/
import Derived.Test.YtehknfijojlddaaGreatChecked
import Derived.Test.YtehknfijojlddaaGreatDkPreadNumbers2
namespace Go.Proofs.YtehknfijojlddaaGreat.preadNumbers
open Go.DM
set_option maxRecDepth 100000
set_option linter.unusedVariables false
theorem ts_ok : (ts.list.all fun p => chkFn Tryz.prog [] (fun _ => true) p.1 p.2.F) = true := by kernel_rfl
end Go.Proofs.YtehknfijojlddaaGreat.preadNumbers
