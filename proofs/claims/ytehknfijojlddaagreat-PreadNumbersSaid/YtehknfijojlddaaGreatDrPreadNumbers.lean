/-
  The code that 'PreadNumbers' reaches, laid out for the kernel: its runs give true.
-/
import Derived.Test.YtehknfijojlddaaGreatDkPreadNumbers2
namespace Go.Proofs.YtehknfijojlddaaGreat.preadNumbers
open Go.DM
set_option maxRecDepth 100000
set_option linter.unusedVariables false
theorem ev0 : isTrueR (callYR ts.find yB 100 3 [.sym .i32 0, .sym .i64 1] ⟨0, .e⟩) = true := by kernel_rfl
theorem ev1 : isTrueR (callYR ts.find yB 100 3 [.int .i32 0, .sym .i64 1] ⟨0, .e⟩) = true := by kernel_rfl
theorem ev2 : isTrueR (callYR ts.find yB 100 3 [.sym .i32 0, .int .i64 0] ⟨0, .e⟩) = true := by kernel_rfl
theorem ev3 : isTrueR (callYR ts.find yB 100 3 [.int .i32 0, .int .i64 0] ⟨0, .e⟩) = true := by kernel_rfl
end Go.Proofs.YtehknfijojlddaaGreat.preadNumbers
