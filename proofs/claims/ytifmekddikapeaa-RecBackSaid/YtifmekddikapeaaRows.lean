/-
  No cell of these rows narrows 'for every input' (looked for: loops, veiled, ifaces, maps, wideKeys, modest, calm, conditions, laid).
  DERIVED. THE GIVEN ROWS OF THIS SEAT. 7 by the template 'for every input the law returns true; each argument reads behind the call as it read before'; 0 by the template 'total and deterministic' (their statements: YtifmekddikapeaaTotals.lean).
  GIVEN WITH THE SEED: the statements are not yours to turn. If you find one false, say at which input.
  Laid BY PROGRAM, IN A SANDBOX (cutbox-rows.mjs): the forced cells as the released guide's own fill.sh prints them over the translation eaa512dab5ad7fa2… (all of the seat's roots in one cut). By AI agents, Wed Nov 11 2026. No macro, syntax, notation, axiom, sorry.
-/
import Derived.Test.YtifmekddikapeaaChecked
import GoSem.Claim
import GoSem.ClaimJoined
import GoSem.ClaimMapViews
import Derived.JoinedTies
import Derived.KernelRfl
namespace Go.Proofs.Ytifmekddikapeaa
/- THE CELL 'sum', in the pinned program and in every row, IS THE sha256 OF THE DUMP (.gsa) THAT YtifmekddikapeaaProg.lean LOADS. Nothing in Lean hashes anything: it is a label: what it is worth is what the hold of that sum in a sandbox is worth. -/
noncomputable def Try.pinned : Pinned := { name := "ytifmekddikapeaa", sum := "eaa512dab5ad7fa29345746151746cf3878d0e531a7e8f01bda22a0a586dfa0f", checked := Try.checked }
namespace Rows
def none {H : Type} : Left H := { results := [], args := [] }

/-- 'procliticlaw1.RecNumbers': WHATEVER THE INPUT: true; the input reads as it did. -/
def recNumbersSpec : ChangeSpec := { name := "recNumbers", fn := fun _ => fun
  | [d1, d2] => { results := [.lit (.bool true)], args := [d1, d2] }
  | _ => none }
def recNumbersRow : OpenClaim := { program := "ytifmekddikapeaa", sum := "eaa512dab5ad7fa29345746151746cf3878d0e531a7e8f01bda22a0a586dfa0f", func := "proclitic/procliticlaw1.RecNumbers", spec := "recNumbers", inPlace := ["internal/abi.NoEscape"], recurses := true, apart := false }
def RecNumbersSaid : Prop := recNumbersRow.holds Try.pinned (OpenSpec.ofChange recNumbersSpec)

/-- ITS FALSE NEIGHBOUR: 'it returns false'. Refute it at one input. -/
def recNumbersWrong : ChangeSpec := { name := "recNumbers", fn := fun _ => fun
  | [d1, d2] => { results := [.lit (.bool false)], args := [d1, d2] }
  | _ => none }
def RecNumbersWrongFalsely : Prop := recNumbersRow.holds Try.pinned (OpenSpec.ofChange recNumbersWrong)

/-- 'procliticlaw1.RecSplits': WHATEVER THE INPUT: true; the input reads as it did. -/
def recSplitsSpec : ChangeSpec := { name := "recSplits", fn := fun _ => fun
  | [d1, d2] => { results := [.lit (.bool true)], args := [d1, d2] }
  | _ => none }
def recSplitsRow : OpenClaim := { program := "ytifmekddikapeaa", sum := "eaa512dab5ad7fa29345746151746cf3878d0e531a7e8f01bda22a0a586dfa0f", func := "proclitic/procliticlaw1.RecSplits", spec := "recSplits", inPlace := ["internal/abi.NoEscape"], recurses := true, apart := false }
def RecSplitsSaid : Prop := recSplitsRow.holds Try.pinned (OpenSpec.ofChange recSplitsSpec)

/-- ITS FALSE NEIGHBOUR: 'it returns false'. Refute it at one input. -/
def recSplitsWrong : ChangeSpec := { name := "recSplits", fn := fun _ => fun
  | [d1, d2] => { results := [.lit (.bool false)], args := [d1, d2] }
  | _ => none }
def RecSplitsWrongFalsely : Prop := recSplitsRow.holds Try.pinned (OpenSpec.ofChange recSplitsWrong)

/-- 'procliticlaw1.RecJoins': WHATEVER THE INPUT: true; the input reads as it did. -/
def recJoinsSpec : ChangeSpec := { name := "recJoins", fn := fun _ => fun
  | [d1, d2] => { results := [.lit (.bool true)], args := [d1, d2] }
  | _ => none }
def recJoinsRow : OpenClaim := { program := "ytifmekddikapeaa", sum := "eaa512dab5ad7fa29345746151746cf3878d0e531a7e8f01bda22a0a586dfa0f", func := "proclitic/procliticlaw1.RecJoins", spec := "recJoins", inPlace := ["internal/abi.NoEscape"], apart := false }
def RecJoinsSaid : Prop := recJoinsRow.holds Try.pinned (OpenSpec.ofChange recJoinsSpec)

/-- ITS FALSE NEIGHBOUR: 'it returns false'. Refute it at one input. -/
def recJoinsWrong : ChangeSpec := { name := "recJoins", fn := fun _ => fun
  | [d1, d2] => { results := [.lit (.bool false)], args := [d1, d2] }
  | _ => none }
def RecJoinsWrongFalsely : Prop := recJoinsRow.holds Try.pinned (OpenSpec.ofChange recJoinsWrong)

/-- 'procliticlaw1.RecBack': WHATEVER THE INPUT: true; the input reads as it did. -/
def recBackSpec : ChangeSpec := { name := "recBack", fn := fun _ => fun
  | [d1, d2, d3, d4] => { results := [.lit (.bool true)], args := [d1, d2, d3, d4] }
  | _ => none }
def recBackRow : OpenClaim := { program := "ytifmekddikapeaa", sum := "eaa512dab5ad7fa29345746151746cf3878d0e531a7e8f01bda22a0a586dfa0f", func := "proclitic/procliticlaw1.RecBack", spec := "recBack", inPlace := ["internal/abi.NoEscape"], apart := false }
def RecBackSaid : Prop := recBackRow.holds Try.pinned (OpenSpec.ofChange recBackSpec)

/-- ITS FALSE NEIGHBOUR: 'it returns false'. Refute it at one input. -/
def recBackWrong : ChangeSpec := { name := "recBack", fn := fun _ => fun
  | [d1, d2, d3, d4] => { results := [.lit (.bool false)], args := [d1, d2, d3, d4] }
  | _ => none }
def RecBackWrongFalsely : Prop := recBackRow.holds Try.pinned (OpenSpec.ofChange recBackWrong)

/-- 'procliticlaw1.RecLengths': WHATEVER THE INPUT: true; the input reads as it did. -/
def recLengthsSpec : ChangeSpec := { name := "recLengths", fn := fun _ => fun
  | [d1, d2] => { results := [.lit (.bool true)], args := [d1, d2] }
  | _ => none }
def recLengthsRow : OpenClaim := { program := "ytifmekddikapeaa", sum := "eaa512dab5ad7fa29345746151746cf3878d0e531a7e8f01bda22a0a586dfa0f", func := "proclitic/procliticlaw1.RecLengths", spec := "recLengths", inPlace := ["internal/abi.NoEscape"], apart := false }
def RecLengthsSaid : Prop := recLengthsRow.holds Try.pinned (OpenSpec.ofChange recLengthsSpec)

/-- ITS FALSE NEIGHBOUR: 'it returns false'. Refute it at one input. -/
def recLengthsWrong : ChangeSpec := { name := "recLengths", fn := fun _ => fun
  | [d1, d2] => { results := [.lit (.bool false)], args := [d1, d2] }
  | _ => none }
def RecLengthsWrongFalsely : Prop := recLengthsRow.holds Try.pinned (OpenSpec.ofChange recLengthsWrong)

/-- 'procliticlaw1.RecForms': WHATEVER THE INPUT: true; the input reads as it did. -/
def recFormsSpec : ChangeSpec := { name := "recForms", fn := fun _ => fun
  | [] => { results := [.lit (.bool true)], args := [] }
  | _ => none }
def recFormsRow : OpenClaim := { program := "ytifmekddikapeaa", sum := "eaa512dab5ad7fa29345746151746cf3878d0e531a7e8f01bda22a0a586dfa0f", func := "proclitic/procliticlaw1.RecForms", spec := "recForms", inPlace := ["internal/abi.NoEscape"], apart := false }
def RecFormsSaid : Prop := recFormsRow.holds Try.pinned (OpenSpec.ofChange recFormsSpec)

/-- ITS FALSE NEIGHBOUR: 'it returns false'. Refute it at one input. -/
def recFormsWrong : ChangeSpec := { name := "recForms", fn := fun _ => fun
  | [] => { results := [.lit (.bool false)], args := [] }
  | _ => none }
def RecFormsWrongFalsely : Prop := recFormsRow.holds Try.pinned (OpenSpec.ofChange recFormsWrong)

/-- 'procliticlaw1.RecPads': WHATEVER THE INPUT: true; the input reads as it did. -/
def recPadsSpec : ChangeSpec := { name := "recPads", fn := fun _ => fun
  | [d1, d2] => { results := [.lit (.bool true)], args := [d1, d2] }
  | _ => none }
def recPadsRow : OpenClaim := { program := "ytifmekddikapeaa", sum := "eaa512dab5ad7fa29345746151746cf3878d0e531a7e8f01bda22a0a586dfa0f", func := "proclitic/procliticlaw1.RecPads", spec := "recPads", inPlace := ["internal/abi.NoEscape"], apart := false }
def RecPadsSaid : Prop := recPadsRow.holds Try.pinned (OpenSpec.ofChange recPadsSpec)

/-- ITS FALSE NEIGHBOUR: 'it returns false'. Refute it at one input. -/
def recPadsWrong : ChangeSpec := { name := "recPads", fn := fun _ => fun
  | [d1, d2] => { results := [.lit (.bool false)], args := [d1, d2] }
  | _ => none }
def RecPadsWrongFalsely : Prop := recPadsRow.holds Try.pinned (OpenSpec.ofChange recPadsWrong)

/- THE SECOND FORM. 'bulk': how many values and letters a reading holds, each counted each time it is reached (what is shared counts as often as it is met; a slice's spare places count too). A statement '..UptoSaid' is the law's where the arguments, and the package variables that the reading takes, are together of bulk at most 1048576: NARROWER than '..Said'. Prove '..Said' where nothing that the law and all that it calls make is longer than what came in: it says more and counts as full. Else prove '..UptoSaid'. A law counts once. -/
mutual
def uptoBulk {H : Type} : DataW H → Nat
  | .lit (.string bytes) => bytes.length + 1
  | .lit _ => 1
  | .nil => 1
  | .ptr d => uptoBulk d + 1
  | .slice elems spare => uptoBulkAll elems + uptoBulkAll spare + 1
  | .agg parts => uptoBulkAll parts + 1
  | .iface _ d => uptoBulk d + 1
  | .map entries => uptoBulkEntries entries + 1
  | .held _ => 1
def uptoBulkAll {H : Type} : List (DataW H) → Nat
  | [] => 0
  | d :: r => uptoBulk d + uptoBulkAll r
def uptoBulkEntries {H : Type} : List (Lit × DataW H) → Nat
  | [] => 0
  | x :: r => uptoBulkEntry x + uptoBulkEntries r
def uptoBulkEntry {H : Type} : Lit × DataW H → Nat
  | (.string bytes, d) => bytes.length + uptoBulk d + 1
  | (_, d) => uptoBulk d + 1
 end
def uptoSmall : (H : Type) → List (DataW H) → Bool := fun _ ds => decide (uptoBulkAll ds ≤ 1048576)
def OpenSpec.upto (s : _root_.Go.ChangeSpec) : _root_.Go.OpenSpec := { _root_.Go.OpenSpec.ofChange s with cond := some uptoSmall }

/-- 'procliticlaw1.RecNumbers', WHERE WHAT IT READS IS OF BULK AT MOST 1048576: true; the input reads as it did. -/
def recNumbersUptoRow : OpenClaim := { program := "ytifmekddikapeaa", sum := "eaa512dab5ad7fa29345746151746cf3878d0e531a7e8f01bda22a0a586dfa0f", func := "proclitic/procliticlaw1.RecNumbers", spec := "recNumbers", inPlace := ["internal/abi.NoEscape"], recurses := true, apart := false, narrowed := true }
def RecNumbersUptoSaid : Prop := recNumbersUptoRow.holds Try.pinned (OpenSpec.upto recNumbersSpec)

/-- 'procliticlaw1.RecSplits', WHERE WHAT IT READS IS OF BULK AT MOST 1048576: true; the input reads as it did. -/
def recSplitsUptoRow : OpenClaim := { program := "ytifmekddikapeaa", sum := "eaa512dab5ad7fa29345746151746cf3878d0e531a7e8f01bda22a0a586dfa0f", func := "proclitic/procliticlaw1.RecSplits", spec := "recSplits", inPlace := ["internal/abi.NoEscape"], recurses := true, apart := false, narrowed := true }
def RecSplitsUptoSaid : Prop := recSplitsUptoRow.holds Try.pinned (OpenSpec.upto recSplitsSpec)

/-- 'procliticlaw1.RecJoins', WHERE WHAT IT READS IS OF BULK AT MOST 1048576: true; the input reads as it did. -/
def recJoinsUptoRow : OpenClaim := { program := "ytifmekddikapeaa", sum := "eaa512dab5ad7fa29345746151746cf3878d0e531a7e8f01bda22a0a586dfa0f", func := "proclitic/procliticlaw1.RecJoins", spec := "recJoins", inPlace := ["internal/abi.NoEscape"], apart := false, narrowed := true }
def RecJoinsUptoSaid : Prop := recJoinsUptoRow.holds Try.pinned (OpenSpec.upto recJoinsSpec)

/-- 'procliticlaw1.RecBack', WHERE WHAT IT READS IS OF BULK AT MOST 1048576: true; the input reads as it did. -/
def recBackUptoRow : OpenClaim := { program := "ytifmekddikapeaa", sum := "eaa512dab5ad7fa29345746151746cf3878d0e531a7e8f01bda22a0a586dfa0f", func := "proclitic/procliticlaw1.RecBack", spec := "recBack", inPlace := ["internal/abi.NoEscape"], apart := false, narrowed := true }
def RecBackUptoSaid : Prop := recBackUptoRow.holds Try.pinned (OpenSpec.upto recBackSpec)

/-- 'procliticlaw1.RecLengths', WHERE WHAT IT READS IS OF BULK AT MOST 1048576: true; the input reads as it did. -/
def recLengthsUptoRow : OpenClaim := { program := "ytifmekddikapeaa", sum := "eaa512dab5ad7fa29345746151746cf3878d0e531a7e8f01bda22a0a586dfa0f", func := "proclitic/procliticlaw1.RecLengths", spec := "recLengths", inPlace := ["internal/abi.NoEscape"], apart := false, narrowed := true }
def RecLengthsUptoSaid : Prop := recLengthsUptoRow.holds Try.pinned (OpenSpec.upto recLengthsSpec)

/-- 'procliticlaw1.RecForms', WHERE WHAT IT READS IS OF BULK AT MOST 1048576: true; the input reads as it did. -/
def recFormsUptoRow : OpenClaim := { program := "ytifmekddikapeaa", sum := "eaa512dab5ad7fa29345746151746cf3878d0e531a7e8f01bda22a0a586dfa0f", func := "proclitic/procliticlaw1.RecForms", spec := "recForms", inPlace := ["internal/abi.NoEscape"], apart := false, narrowed := true }
def RecFormsUptoSaid : Prop := recFormsUptoRow.holds Try.pinned (OpenSpec.upto recFormsSpec)

/-- 'procliticlaw1.RecPads', WHERE WHAT IT READS IS OF BULK AT MOST 1048576: true; the input reads as it did. -/
def recPadsUptoRow : OpenClaim := { program := "ytifmekddikapeaa", sum := "eaa512dab5ad7fa29345746151746cf3878d0e531a7e8f01bda22a0a586dfa0f", func := "proclitic/procliticlaw1.RecPads", spec := "recPads", inPlace := ["internal/abi.NoEscape"], apart := false, narrowed := true }
def RecPadsUptoSaid : Prop := recPadsUptoRow.holds Try.pinned (OpenSpec.upto recPadsSpec)

end Rows
end Go.Proofs.Ytifmekddikapeaa
