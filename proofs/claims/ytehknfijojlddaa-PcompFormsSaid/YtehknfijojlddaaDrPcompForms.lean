/-
  The code that 'PcompForms' reaches, laid out for the kernel: its run gives true.
-/
import Derived.Test.YtehknfijojlddaaDnPcompForms0
import Derived.Test.YtehknfijojlddaaDnPcompForms1
import Derived.Test.YtehknfijojlddaaDnPcompForms2
import Derived.Test.YtehknfijojlddaaDnPcompForms3
namespace Go.Proofs.Ytehknfijojlddaa.pcompForms
open Go.DM
set_option maxRecDepth 100000
set_option linter.unusedVariables false
noncomputable def ks : List Known := [k0, k1, k2, k3, k4, k5, k6, k7, k8, k9, k10, k11, k12, k13, k14, k15, k16, k17, k18, k19, k20, k21, k22]
theorem kn_all : KnAll Try.prog 9 ks := ⟨kn0, kn1, kn2, kn3, kn4, kn5, kn6, kn7, kn8, kn9, kn10, kn11, kn12, kn13, kn14, kn15, kn16, kn17, kn18, kn19, kn20, kn21, kn22, trivial⟩
theorem ev : isTrueR (callKR ts.find (knOf 9 ks) 100 4 [] ⟨0, .e⟩) = true := by kernel_rfl
end Go.Proofs.Ytehknfijojlddaa.pcompForms
