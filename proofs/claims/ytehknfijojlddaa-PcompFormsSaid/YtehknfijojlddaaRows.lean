/-
  No cell of these rows narrows 'for every input' (looked for: loops, veiled, ifaces, maps, wideKeys, modest, calm, conditions, laid).
  DERIVED. THE GIVEN ROWS OF THIS SEAT. 4 by the template 'for every input the law returns true; each argument reads behind the call as it read before'; 0 by the template 'total and deterministic' (their statements: YtehknfijojlddaaTotals.lean).
  GIVEN WITH THE SEED: the statements are not yours to turn. If you find one false, say at which input.
  Laid BY PROGRAM, IN A SANDBOX (cutbox-rows.mjs): the forced cells as the released guide's own fill.sh prints them over the translation f615ac9f3db10c05… (all of the seat's roots in one cut). By AI agents, Wed Nov 11 2026. No macro, syntax, notation, axiom, sorry.
-/
import Derived.Test.YtehknfijojlddaaChecked
import GoSem.Claim
import GoSem.ClaimJoined
import GoSem.ClaimMapViews
import Derived.JoinedTies
import Derived.KernelRfl
namespace Go.Proofs.Ytehknfijojlddaa
/- THE CELL 'sum', in the pinned program and in every row, IS THE sha256 OF THE DUMP (.gsa) THAT YtehknfijojlddaaProg.lean LOADS. Nothing in Lean hashes anything: it is a label: what it is worth is what the hold of that sum in a sandbox is worth. -/
noncomputable def Try.pinned : Pinned := { name := "ytehknfijojlddaa", sum := "f615ac9f3db10c0500c498c873ef9150fa1328e1523cd53d2bf6cbfd81fd45b6", checked := Try.checked }
namespace Rows
def none {H : Type} : Left H := { results := [], args := [] }

/-- 'procliticlaw18.PcompKinds': WHATEVER THE INPUT: true; the input reads as it did. -/
def pcompKindsSpec : ChangeSpec := { name := "pcompKinds", fn := fun _ => fun
  | [] => { results := [.lit (.bool true)], args := [] }
  | _ => none }
def pcompKindsRow : OpenClaim := { program := "ytehknfijojlddaa", sum := "f615ac9f3db10c0500c498c873ef9150fa1328e1523cd53d2bf6cbfd81fd45b6", func := "proclitic/procliticlaw18.PcompKinds", spec := "pcompKinds", unfollowed := true, recurses := true, plainKeys := false, apart := false }
def PcompKindsSaid : Prop := pcompKindsRow.holds Try.pinned (OpenSpec.ofChange pcompKindsSpec)

/-- ITS FALSE NEIGHBOUR: 'it returns false'. Refute it at one input. -/
def pcompKindsWrong : ChangeSpec := { name := "pcompKinds", fn := fun _ => fun
  | [] => { results := [.lit (.bool false)], args := [] }
  | _ => none }
def PcompKindsWrongFalsely : Prop := pcompKindsRow.holds Try.pinned (OpenSpec.ofChange pcompKindsWrong)

/-- 'procliticlaw18.PcompForms': WHATEVER THE INPUT: true; the input reads as it did. -/
def pcompFormsSpec : ChangeSpec := { name := "pcompForms", fn := fun _ => fun
  | [] => { results := [.lit (.bool true)], args := [] }
  | _ => none }
def pcompFormsRow : OpenClaim := { program := "ytehknfijojlddaa", sum := "f615ac9f3db10c0500c498c873ef9150fa1328e1523cd53d2bf6cbfd81fd45b6", func := "proclitic/procliticlaw18.PcompForms", spec := "pcompForms", unfollowed := true, recurses := true, plainKeys := false, apart := false }
def PcompFormsSaid : Prop := pcompFormsRow.holds Try.pinned (OpenSpec.ofChange pcompFormsSpec)

/-- ITS FALSE NEIGHBOUR: 'it returns false'. Refute it at one input. -/
def pcompFormsWrong : ChangeSpec := { name := "pcompForms", fn := fun _ => fun
  | [] => { results := [.lit (.bool false)], args := [] }
  | _ => none }
def PcompFormsWrongFalsely : Prop := pcompFormsRow.holds Try.pinned (OpenSpec.ofChange pcompFormsWrong)

/-- 'procliticlaw23.AcompNumbers': WHATEVER THE INPUT: true; the input reads as it did. -/
def acompNumbersSpec : ChangeSpec := { name := "acompNumbers", fn := fun _ => fun
  | [d1, d2] => { results := [.lit (.bool true)], args := [d1, d2] }
  | _ => none }
def acompNumbersRow : OpenClaim := { program := "ytehknfijojlddaa", sum := "f615ac9f3db10c0500c498c873ef9150fa1328e1523cd53d2bf6cbfd81fd45b6", func := "proclitic/procliticlaw23.AcompNumbers", spec := "acompNumbers", unfollowed := true, recurses := true, plainKeys := false, apart := false }
def AcompNumbersSaid : Prop := acompNumbersRow.holds Try.pinned (OpenSpec.ofChange acompNumbersSpec)

/-- ITS FALSE NEIGHBOUR: 'it returns false'. Refute it at one input. -/
def acompNumbersWrong : ChangeSpec := { name := "acompNumbers", fn := fun _ => fun
  | [d1, d2] => { results := [.lit (.bool false)], args := [d1, d2] }
  | _ => none }
def AcompNumbersWrongFalsely : Prop := acompNumbersRow.holds Try.pinned (OpenSpec.ofChange acompNumbersWrong)

/-- 'procliticlaw23.AcompForms': WHATEVER THE INPUT: true; the input reads as it did. -/
def acompFormsSpec : ChangeSpec := { name := "acompForms", fn := fun _ => fun
  | [] => { results := [.lit (.bool true)], args := [] }
  | _ => none }
def acompFormsRow : OpenClaim := { program := "ytehknfijojlddaa", sum := "f615ac9f3db10c0500c498c873ef9150fa1328e1523cd53d2bf6cbfd81fd45b6", func := "proclitic/procliticlaw23.AcompForms", spec := "acompForms", unfollowed := true, recurses := true, plainKeys := false, apart := false }
def AcompFormsSaid : Prop := acompFormsRow.holds Try.pinned (OpenSpec.ofChange acompFormsSpec)

/-- ITS FALSE NEIGHBOUR: 'it returns false'. Refute it at one input. -/
def acompFormsWrong : ChangeSpec := { name := "acompForms", fn := fun _ => fun
  | [] => { results := [.lit (.bool false)], args := [] }
  | _ => none }
def AcompFormsWrongFalsely : Prop := acompFormsRow.holds Try.pinned (OpenSpec.ofChange acompFormsWrong)

/- THE SECOND FORM. 'bulk': how many values and letters a reading holds, each counted each time it is reached (what is shared counts as often as it is met; a slice's spare places count too). A statement '..UptoSaid' is the law's where the arguments, and the package variables that the reading takes, are together of bulk at most 1048576: NARROWER than '..Said'. Prove '..Said' where nothing that the law and all that it calls make is longer than what came in: it says more and counts as full. Else prove '..UptoSaid'. A law counts once. -/
mutual
def uptoBulk {H : Type} : DataW H → Nat
  | .lit (.string bytes) => bytes.length + 1
  | .lit _ => 1
  | .nil => 1
  | .ptr d => uptoBulk d + 1
  | .slice elems spare => uptoBulkAll elems + uptoBulkAll spare + 1
  | .agg parts => uptoBulkAll parts + 1
  | .iface _ d => uptoBulk d + 1
  | .map entries => uptoBulkEntries entries + 1
  | .held _ => 1
def uptoBulkAll {H : Type} : List (DataW H) → Nat
  | [] => 0
  | d :: r => uptoBulk d + uptoBulkAll r
def uptoBulkEntries {H : Type} : List (Lit × DataW H) → Nat
  | [] => 0
  | x :: r => uptoBulkEntry x + uptoBulkEntries r
def uptoBulkEntry {H : Type} : Lit × DataW H → Nat
  | (.string bytes, d) => bytes.length + uptoBulk d + 1
  | (_, d) => uptoBulk d + 1
 end
def uptoSmall : (H : Type) → List (DataW H) → Bool := fun _ ds => decide (uptoBulkAll ds ≤ 1048576)
def OpenSpec.upto (s : _root_.Go.ChangeSpec) : _root_.Go.OpenSpec := { _root_.Go.OpenSpec.ofChange s with cond := some uptoSmall }

/-- 'procliticlaw18.PcompKinds', WHERE WHAT IT READS IS OF BULK AT MOST 1048576: true; the input reads as it did. -/
def pcompKindsUptoRow : OpenClaim := { program := "ytehknfijojlddaa", sum := "f615ac9f3db10c0500c498c873ef9150fa1328e1523cd53d2bf6cbfd81fd45b6", func := "proclitic/procliticlaw18.PcompKinds", spec := "pcompKinds", unfollowed := true, recurses := true, plainKeys := false, apart := false, narrowed := true }
def PcompKindsUptoSaid : Prop := pcompKindsUptoRow.holds Try.pinned (OpenSpec.upto pcompKindsSpec)

/-- 'procliticlaw18.PcompForms', WHERE WHAT IT READS IS OF BULK AT MOST 1048576: true; the input reads as it did. -/
def pcompFormsUptoRow : OpenClaim := { program := "ytehknfijojlddaa", sum := "f615ac9f3db10c0500c498c873ef9150fa1328e1523cd53d2bf6cbfd81fd45b6", func := "proclitic/procliticlaw18.PcompForms", spec := "pcompForms", unfollowed := true, recurses := true, plainKeys := false, apart := false, narrowed := true }
def PcompFormsUptoSaid : Prop := pcompFormsUptoRow.holds Try.pinned (OpenSpec.upto pcompFormsSpec)

/-- 'procliticlaw23.AcompNumbers', WHERE WHAT IT READS IS OF BULK AT MOST 1048576: true; the input reads as it did. -/
def acompNumbersUptoRow : OpenClaim := { program := "ytehknfijojlddaa", sum := "f615ac9f3db10c0500c498c873ef9150fa1328e1523cd53d2bf6cbfd81fd45b6", func := "proclitic/procliticlaw23.AcompNumbers", spec := "acompNumbers", unfollowed := true, recurses := true, plainKeys := false, apart := false, narrowed := true }
def AcompNumbersUptoSaid : Prop := acompNumbersUptoRow.holds Try.pinned (OpenSpec.upto acompNumbersSpec)

/-- 'procliticlaw23.AcompForms', WHERE WHAT IT READS IS OF BULK AT MOST 1048576: true; the input reads as it did. -/
def acompFormsUptoRow : OpenClaim := { program := "ytehknfijojlddaa", sum := "f615ac9f3db10c0500c498c873ef9150fa1328e1523cd53d2bf6cbfd81fd45b6", func := "proclitic/procliticlaw23.AcompForms", spec := "acompForms", unfollowed := true, recurses := true, plainKeys := false, apart := false, narrowed := true }
def AcompFormsUptoSaid : Prop := acompFormsUptoRow.holds Try.pinned (OpenSpec.upto acompFormsSpec)

end Rows
end Go.Proofs.Ytehknfijojlddaa
