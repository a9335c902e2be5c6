/-
  The code that 'CanonForms' reaches, laid out for the kernel: its run gives true.
-/
import Derived.Test.YtehknfijojlddaaDoorDkCanonForms1
namespace Go.Proofs.YtehknfijojlddaaDoor.canonForms
open Go.DM
set_option maxRecDepth 100000
set_option linter.unusedVariables false
noncomputable def tr : BT := (.n (.n (.n (.n (.n (.n (.n .e 3 h3 .e) 5 h5 .e) 6 h6 (.n .e 7 h7 .e)) 8 h8 (.n (.n .e 12 h12 .e) 13 h13 (.n .e 14 h14 .e))) 15 h15 (.n (.n (.n (.n .e 16 h16 .e) 17 h17 .e) 18 h18 (.n .e 19 h19 .e)) 23 h23 (.n (.n .e 24 h24 .e) 25 h25 (.n .e 26 h26 .e)))) 27 h27 (.n (.n (.n (.n (.n .e 28 h28 .e) 29 h29 .e) 30 h30 (.n .e 31 h31 .e)) 32 h32 (.n (.n .e 33 h33 .e) 34 h34 (.n .e 35 h35 .e))) 36 h36 (.n (.n (.n .e 37 h37 .e) 38 h38 (.n .e 41 h41 .e)) 42 h42 (.n (.n .e 43 h43 .e) 44 h44 (.n .e 53 h53 .e))))) 54 h54 (.n (.n (.n (.n (.n (.n .e 55 h55 .e) 56 h56 .e) 57 h57 (.n .e 58 h58 .e)) 59 h59 (.n (.n .e 60 h60 .e) 61 h61 (.n .e 62 h62 .e))) 63 h63 (.n (.n (.n (.n .e 64 h64 .e) 65 h65 .e) 78 h78 (.n .e 79 h79 .e)) 80 h80 (.n (.n .e 81 h81 .e) 82 h82 (.n .e 83 h83 .e)))) 84 h84 (.n (.n (.n (.n (.n .e 85 h85 .e) 86 h86 .e) 87 h87 (.n .e 99 h99 .e)) 100 h100 (.n (.n .e 101 h101 .e) 102 h102 (.n .e 103 h103 .e))) 104 h104 (.n (.n (.n .e 105 h105 .e) 106 h106 (.n .e 107 h107 .e)) 108 h108 (.n (.n .e 120 h120 .e) 121 h121 (.n .e 122 h122 .e))))))
theorem ev : isTrueR (callXR tr.find (xQJ 39 40) 100 3 [] ⟨0, .e⟩) = true := by kernel_rfl
end Go.Proofs.YtehknfijojlddaaDoor.canonForms
