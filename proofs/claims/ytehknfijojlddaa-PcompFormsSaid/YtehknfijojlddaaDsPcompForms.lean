/-
  The code that 'PcompForms' reaches, laid out for the kernel: it is the program's.
-/
import Derived.Test.YtehknfijojlddaaChecked
import Derived.Test.YtehknfijojlddaaDkPcompForms1
namespace Go.Proofs.Ytehknfijojlddaa.pcompForms
open Go.DM
set_option maxRecDepth 100000
set_option linter.unusedVariables false
noncomputable def ts : BT := (.n (.n (.n (.n (.n (.n (.n .e 4 h4 .e) 7 h7 .e) 8 h8 (.n .e 9 h9 .e)) 10 h10 (.n (.n (.n .e 14 h14 .e) 15 h15 .e) 16 h16 (.n .e 17 h17 .e))) 18 h18 (.n (.n (.n (.n .e 19 h19 .e) 20 h20 .e) 21 h21 (.n .e 26 h26 .e)) 27 h27 (.n (.n .e 28 h28 .e) 29 h29 (.n .e 30 h30 .e)))) 31 h31 (.n (.n (.n (.n (.n .e 32 h32 .e) 33 h33 .e) 34 h34 (.n .e 35 h35 .e)) 36 h36 (.n (.n .e 37 h37 .e) 38 h38 (.n .e 39 h39 .e))) 49 h49 (.n (.n (.n (.n .e 50 h50 .e) 51 h51 .e) 52 h52 (.n .e 53 h53 .e)) 54 h54 (.n (.n .e 55 h55 .e) 56 h56 (.n .e 57 h57 .e))))) 58 h58 (.n (.n (.n (.n (.n (.n .e 59 h59 .e) 60 h60 .e) 70 h70 (.n .e 71 h71 .e)) 72 h72 (.n (.n (.n .e 73 h73 .e) 74 h74 .e) 75 h75 (.n .e 76 h76 .e))) 77 h77 (.n (.n (.n (.n .e 78 h78 .e) 79 h79 .e) 80 h80 (.n .e 81 h81 .e)) 82 h82 (.n (.n .e 87 h87 .e) 88 h88 (.n .e 89 h89 .e)))) 90 h90 (.n (.n (.n (.n (.n .e 91 h91 .e) 92 h92 .e) 93 h93 (.n .e 94 h94 .e)) 95 h95 (.n (.n .e 97 h97 .e) 98 h98 (.n .e 99 h99 .e))) 100 h100 (.n (.n (.n (.n .e 101 h101 .e) 102 h102 .e) 103 h103 (.n .e 104 h104 .e)) 105 h105 (.n (.n .e 106 h106 .e) 107 h107 (.n .e 108 h108 .e))))))
theorem ts_ok : (ts.list.all fun p => chkFn Try.prog [] (fun _ => true) p.1 p.2.F) = true := by kernel_rfl
end Go.Proofs.Ytehknfijojlddaa.pcompForms
