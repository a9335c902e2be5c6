/-
  No cell of these rows narrows 'for every input' (looked for: loops, veiled, ifaces, maps, wideKeys, modest, calm, conditions, laid).
  DERIVED. THE GIVEN ROWS OF THIS SEAT. 4 by the template 'for every input the law returns true; each argument reads behind the call as it read before'; 0 by the template 'total and deterministic' (their statements: YtnhdkcgekjildaaTotals.lean).
  GIVEN WITH THE SEED: the statements are not yours to turn. If you find one false, say at which input.
  Laid BY PROGRAM, IN A SANDBOX (cutbox-rows.mjs): the forced cells as the released guide's own fill.sh prints them over the translation 5cdc712136c56a1e… (all of the seat's roots in one cut). By AI agents, Wed Nov 11 2026. No macro, syntax, notation, axiom, sorry.
-/
import Derived.Test.YtnhdkcgekjildaaChecked
import GoSem.Claim
import GoSem.ClaimJoined
import GoSem.ClaimMapViews
import Derived.JoinedTies
import Derived.KernelRfl
namespace Go.Proofs.Ytnhdkcgekjildaa
/- THE CELL 'sum', in the pinned program and in every row, IS THE sha256 OF THE DUMP (.gsa) THAT YtnhdkcgekjildaaProg.lean LOADS. Nothing in Lean hashes anything: it is a label: what it is worth is what the hold of that sum in a sandbox is worth. -/
noncomputable def Try.pinned : Pinned := { name := "ytnhdkcgekjildaa", sum := "5cdc712136c56a1e9f702e5b28baed1e768969acaacb3e4fd82644b89b222342", checked := Try.checked }
namespace Rows
def none {H : Type} : Left H := { results := [], args := [] }

/-- 'procliticlaw5.FingerAll': WHATEVER THE INPUT: true; the input reads as it did. -/
def fingerAllSpec : ChangeSpec := { name := "fingerAll", fn := fun _ => fun
  | [d1, d2] => { results := [.lit (.bool true)], args := [d1, d2] }
  | _ => none }
def fingerAllRow : OpenClaim := { program := "ytnhdkcgekjildaa", sum := "5cdc712136c56a1e9f702e5b28baed1e768969acaacb3e4fd82644b89b222342", func := "proclitic/procliticlaw5.FingerAll", spec := "fingerAll", apart := false }
def FingerAllSaid : Prop := fingerAllRow.holds Try.pinned (OpenSpec.ofChange fingerAllSpec)

/-- ITS FALSE NEIGHBOUR: 'it returns false'. Refute it at one input. -/
def fingerAllWrong : ChangeSpec := { name := "fingerAll", fn := fun _ => fun
  | [d1, d2] => { results := [.lit (.bool false)], args := [d1, d2] }
  | _ => none }
def FingerAllWrongFalsely : Prop := fingerAllRow.holds Try.pinned (OpenSpec.ofChange fingerAllWrong)

/-- 'procliticlaw5.FingerOne': WHATEVER THE INPUT: true; the input reads as it did. -/
def fingerOneSpec : ChangeSpec := { name := "fingerOne", fn := fun _ => fun
  | [d1, d2, d3, d4] => { results := [.lit (.bool true)], args := [d1, d2, d3, d4] }
  | _ => none }
def fingerOneRow : OpenClaim := { program := "ytnhdkcgekjildaa", sum := "5cdc712136c56a1e9f702e5b28baed1e768969acaacb3e4fd82644b89b222342", func := "proclitic/procliticlaw5.FingerOne", spec := "fingerOne", apart := false }
def FingerOneSaid : Prop := fingerOneRow.holds Try.pinned (OpenSpec.ofChange fingerOneSpec)

/-- ITS FALSE NEIGHBOUR: 'it returns false'. Refute it at one input. -/
def fingerOneWrong : ChangeSpec := { name := "fingerOne", fn := fun _ => fun
  | [d1, d2, d3, d4] => { results := [.lit (.bool false)], args := [d1, d2, d3, d4] }
  | _ => none }
def FingerOneWrongFalsely : Prop := fingerOneRow.holds Try.pinned (OpenSpec.ofChange fingerOneWrong)

/-- 'procliticlaw5.FingerSums': WHATEVER THE INPUT: true; the input reads as it did. -/
def fingerSumsSpec : ChangeSpec := { name := "fingerSums", fn := fun _ => fun
  | [d1, d2] => { results := [.lit (.bool true)], args := [d1, d2] }
  | _ => none }
def fingerSumsRow : OpenClaim := { program := "ytnhdkcgekjildaa", sum := "5cdc712136c56a1e9f702e5b28baed1e768969acaacb3e4fd82644b89b222342", func := "proclitic/procliticlaw5.FingerSums", spec := "fingerSums", apart := false }
def FingerSumsSaid : Prop := fingerSumsRow.holds Try.pinned (OpenSpec.ofChange fingerSumsSpec)

/-- ITS FALSE NEIGHBOUR: 'it returns false'. Refute it at one input. -/
def fingerSumsWrong : ChangeSpec := { name := "fingerSums", fn := fun _ => fun
  | [d1, d2] => { results := [.lit (.bool false)], args := [d1, d2] }
  | _ => none }
def FingerSumsWrongFalsely : Prop := fingerSumsRow.holds Try.pinned (OpenSpec.ofChange fingerSumsWrong)

/-- 'procliticlaw5.FingerTexts': WHATEVER THE INPUT: true; the input reads as it did. -/
def fingerTextsSpec : ChangeSpec := { name := "fingerTexts", fn := fun _ => fun
  | [d] => { results := [.lit (.bool true)], args := [d] }
  | _ => none }
def fingerTextsRow : OpenClaim := { program := "ytnhdkcgekjildaa", sum := "5cdc712136c56a1e9f702e5b28baed1e768969acaacb3e4fd82644b89b222342", func := "proclitic/procliticlaw5.FingerTexts", spec := "fingerTexts", apart := false }
def FingerTextsSaid : Prop := fingerTextsRow.holds Try.pinned (OpenSpec.ofChange fingerTextsSpec)

/-- ITS FALSE NEIGHBOUR: 'it returns false'. Refute it at one input. -/
def fingerTextsWrong : ChangeSpec := { name := "fingerTexts", fn := fun _ => fun
  | [d] => { results := [.lit (.bool false)], args := [d] }
  | _ => none }
def FingerTextsWrongFalsely : Prop := fingerTextsRow.holds Try.pinned (OpenSpec.ofChange fingerTextsWrong)

/- THE SECOND FORM. 'bulk': how many values and letters a reading holds, each counted each time it is reached (what is shared counts as often as it is met; a slice's spare places count too). A statement '..UptoSaid' is the law's where the arguments, and the package variables that the reading takes, are together of bulk at most 1048576: NARROWER than '..Said'. Prove '..Said' where nothing that the law and all that it calls make is longer than what came in: it says more and counts as full. Else prove '..UptoSaid'. A law counts once. -/
mutual
def uptoBulk {H : Type} : DataW H → Nat
  | .lit (.string bytes) => bytes.length + 1
  | .lit _ => 1
  | .nil => 1
  | .ptr d => uptoBulk d + 1
  | .slice elems spare => uptoBulkAll elems + uptoBulkAll spare + 1
  | .agg parts => uptoBulkAll parts + 1
  | .iface _ d => uptoBulk d + 1
  | .map entries => uptoBulkEntries entries + 1
  | .held _ => 1
def uptoBulkAll {H : Type} : List (DataW H) → Nat
  | [] => 0
  | d :: r => uptoBulk d + uptoBulkAll r
def uptoBulkEntries {H : Type} : List (Lit × DataW H) → Nat
  | [] => 0
  | x :: r => uptoBulkEntry x + uptoBulkEntries r
def uptoBulkEntry {H : Type} : Lit × DataW H → Nat
  | (.string bytes, d) => bytes.length + uptoBulk d + 1
  | (_, d) => uptoBulk d + 1
 end
def uptoSmall : (H : Type) → List (DataW H) → Bool := fun _ ds => decide (uptoBulkAll ds ≤ 1048576)
def OpenSpec.upto (s : _root_.Go.ChangeSpec) : _root_.Go.OpenSpec := { _root_.Go.OpenSpec.ofChange s with cond := some uptoSmall }

/-- 'procliticlaw5.FingerAll', WHERE WHAT IT READS IS OF BULK AT MOST 1048576: true; the input reads as it did. -/
def fingerAllUptoRow : OpenClaim := { program := "ytnhdkcgekjildaa", sum := "5cdc712136c56a1e9f702e5b28baed1e768969acaacb3e4fd82644b89b222342", func := "proclitic/procliticlaw5.FingerAll", spec := "fingerAll", apart := false, narrowed := true }
def FingerAllUptoSaid : Prop := fingerAllUptoRow.holds Try.pinned (OpenSpec.upto fingerAllSpec)

/-- 'procliticlaw5.FingerOne', WHERE WHAT IT READS IS OF BULK AT MOST 1048576: true; the input reads as it did. -/
def fingerOneUptoRow : OpenClaim := { program := "ytnhdkcgekjildaa", sum := "5cdc712136c56a1e9f702e5b28baed1e768969acaacb3e4fd82644b89b222342", func := "proclitic/procliticlaw5.FingerOne", spec := "fingerOne", apart := false, narrowed := true }
def FingerOneUptoSaid : Prop := fingerOneUptoRow.holds Try.pinned (OpenSpec.upto fingerOneSpec)

/-- 'procliticlaw5.FingerSums', WHERE WHAT IT READS IS OF BULK AT MOST 1048576: true; the input reads as it did. -/
def fingerSumsUptoRow : OpenClaim := { program := "ytnhdkcgekjildaa", sum := "5cdc712136c56a1e9f702e5b28baed1e768969acaacb3e4fd82644b89b222342", func := "proclitic/procliticlaw5.FingerSums", spec := "fingerSums", apart := false, narrowed := true }
def FingerSumsUptoSaid : Prop := fingerSumsUptoRow.holds Try.pinned (OpenSpec.upto fingerSumsSpec)

/-- 'procliticlaw5.FingerTexts', WHERE WHAT IT READS IS OF BULK AT MOST 1048576: true; the input reads as it did. -/
def fingerTextsUptoRow : OpenClaim := { program := "ytnhdkcgekjildaa", sum := "5cdc712136c56a1e9f702e5b28baed1e768969acaacb3e4fd82644b89b222342", func := "proclitic/procliticlaw5.FingerTexts", spec := "fingerTexts", apart := false, narrowed := true }
def FingerTextsUptoSaid : Prop := fingerTextsUptoRow.holds Try.pinned (OpenSpec.upto fingerTextsSpec)

end Rows
end Go.Proofs.Ytnhdkcgekjildaa
