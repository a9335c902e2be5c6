/-
  NARROWER THAN 'FOR EVERY INPUT', by the rows' own cells (each row's printed sentence says how): AvalAll: loops.
  DERIVED. THE GIVEN ROWS OF THIS SEAT. 10 by the template 'for every input the law returns true; each argument reads behind the call as it read before'; 0 by the template 'total and deterministic' (their statements: YtdpajabhmmmjoaaTotals.lean).
  GIVEN WITH THE SEED: the statements are not yours to turn. If you find one false, say at which input.
  Laid BY PROGRAM, IN A SANDBOX (cutbox-rows.mjs): the forced cells as the released guide's own fill.sh prints them over the translation fa746169e533a341… (all of the seat's roots in one cut). By AI agents, Wed Nov 11 2026. No macro, syntax, notation, axiom, sorry.
-/
import Derived.Test.YtdpajabhmmmjoaaChecked
import GoSem.Claim
import GoSem.ClaimJoined
import GoSem.ClaimMapViews
import Derived.JoinedTies
import Derived.KernelRfl
namespace Go.Proofs.Ytdpajabhmmmjoaa
/- THE CELL 'sum', in the pinned program and in every row, IS THE sha256 OF THE DUMP (.gsa) THAT YtdpajabhmmmjoaaProg.lean LOADS. Nothing in Lean hashes anything: it is a label: what it is worth is what the hold of that sum in a sandbox is worth. -/
noncomputable def Try.pinned : Pinned := { name := "ytdpajabhmmmjoaa", sum := "fa746169e533a3417c831157dd54febae494bcef1e3a43b9accc5d5bfb09dae1", checked := Try.checked }
namespace Rows
def none {H : Type} : Left H := { results := [], args := [] }

/-- 'procliticlaw13.BornMade': WHATEVER THE INPUT: true; the input reads as it did. -/
def bornMadeSpec : ChangeSpec := { name := "bornMade", fn := fun _ => fun
  | [d] => { results := [.lit (.bool true)], args := [d] }
  | _ => none }
def bornMadeRow : OpenClaim := { program := "ytdpajabhmmmjoaa", sum := "fa746169e533a3417c831157dd54febae494bcef1e3a43b9accc5d5bfb09dae1", func := "proclitic/procliticlaw13.BornMade", spec := "bornMade", recurses := true, plainKeys := false, apart := false }
def BornMadeSaid : Prop := bornMadeRow.holds Try.pinned (OpenSpec.ofChange bornMadeSpec)

/-- ITS FALSE NEIGHBOUR: 'it returns false'. Refute it at one input. -/
def bornMadeWrong : ChangeSpec := { name := "bornMade", fn := fun _ => fun
  | [d] => { results := [.lit (.bool false)], args := [d] }
  | _ => none }
def BornMadeWrongFalsely : Prop := bornMadeRow.holds Try.pinned (OpenSpec.ofChange bornMadeWrong)

/-- 'procliticlaw20.AvalAll': WHATEVER THE INPUT: true; the input reads as it did. -/
def avalAllSpec : ChangeSpec := { name := "avalAll", fn := fun _ => fun
  | [d1, d2, d3, d4] => { results := [.lit (.bool true)], args := [d1, d2, d3, d4] }
  | _ => none }
def avalAllRow : OpenClaim := { program := "ytdpajabhmmmjoaa", sum := "fa746169e533a3417c831157dd54febae494bcef1e3a43b9accc5d5bfb09dae1", func := "proclitic/procliticlaw20.AvalAll", spec := "avalAll", unfollowed := true, recurses := true, loops := true, plainKeys := false, apart := false }
def AvalAllSaid : Prop := avalAllRow.holds Try.pinned (OpenSpec.ofChange avalAllSpec)

/-- ITS FALSE NEIGHBOUR: 'it returns false'. Refute it at one input. -/
def avalAllWrong : ChangeSpec := { name := "avalAll", fn := fun _ => fun
  | [d1, d2, d3, d4] => { results := [.lit (.bool false)], args := [d1, d2, d3, d4] }
  | _ => none }
def AvalAllWrongFalsely : Prop := avalAllRow.holds Try.pinned (OpenSpec.ofChange avalAllWrong)

/-- 'procliticlaw20.AvalTurned': WHATEVER THE INPUT: true; the input reads as it did. -/
def avalTurnedSpec : ChangeSpec := { name := "avalTurned", fn := fun _ => fun
  | [d1, d2, d3, d4] => { results := [.lit (.bool true)], args := [d1, d2, d3, d4] }
  | _ => none }
def avalTurnedRow : OpenClaim := { program := "ytdpajabhmmmjoaa", sum := "fa746169e533a3417c831157dd54febae494bcef1e3a43b9accc5d5bfb09dae1", func := "proclitic/procliticlaw20.AvalTurned", spec := "avalTurned", unfollowed := true, recurses := true, plainKeys := false, apart := false }
def AvalTurnedSaid : Prop := avalTurnedRow.holds Try.pinned (OpenSpec.ofChange avalTurnedSpec)

/-- ITS FALSE NEIGHBOUR: 'it returns false'. Refute it at one input. -/
def avalTurnedWrong : ChangeSpec := { name := "avalTurned", fn := fun _ => fun
  | [d1, d2, d3, d4] => { results := [.lit (.bool false)], args := [d1, d2, d3, d4] }
  | _ => none }
def AvalTurnedWrongFalsely : Prop := avalTurnedRow.holds Try.pinned (OpenSpec.ofChange avalTurnedWrong)

/-- 'procliticlaw20.AvalRanges': WHATEVER THE INPUT: true; the input reads as it did. -/
def avalRangesSpec : ChangeSpec := { name := "avalRanges", fn := fun _ => fun
  | [d] => { results := [.lit (.bool true)], args := [d] }
  | _ => none }
def avalRangesRow : OpenClaim := { program := "ytdpajabhmmmjoaa", sum := "fa746169e533a3417c831157dd54febae494bcef1e3a43b9accc5d5bfb09dae1", func := "proclitic/procliticlaw20.AvalRanges", spec := "avalRanges", unfollowed := true, recurses := true, plainKeys := false, apart := false }
def AvalRangesSaid : Prop := avalRangesRow.holds Try.pinned (OpenSpec.ofChange avalRangesSpec)

/-- ITS FALSE NEIGHBOUR: 'it returns false'. Refute it at one input. -/
def avalRangesWrong : ChangeSpec := { name := "avalRanges", fn := fun _ => fun
  | [d] => { results := [.lit (.bool false)], args := [d] }
  | _ => none }
def AvalRangesWrongFalsely : Prop := avalRangesRow.holds Try.pinned (OpenSpec.ofChange avalRangesWrong)

/-- 'procliticlaw23.AcompAll': WHATEVER THE INPUT: true; the input reads as it did. -/
def acompAllSpec : ChangeSpec := { name := "acompAll", fn := fun _ => fun
  | [d1, d2, d3] => { results := [.lit (.bool true)], args := [d1, d2, d3] }
  | _ => none }
def acompAllRow : OpenClaim := { program := "ytdpajabhmmmjoaa", sum := "fa746169e533a3417c831157dd54febae494bcef1e3a43b9accc5d5bfb09dae1", func := "proclitic/procliticlaw23.AcompAll", spec := "acompAll", unfollowed := true, recurses := true, plainKeys := false, apart := false }
def AcompAllSaid : Prop := acompAllRow.holds Try.pinned (OpenSpec.ofChange acompAllSpec)

/-- ITS FALSE NEIGHBOUR: 'it returns false'. Refute it at one input. -/
def acompAllWrong : ChangeSpec := { name := "acompAll", fn := fun _ => fun
  | [d1, d2, d3] => { results := [.lit (.bool false)], args := [d1, d2, d3] }
  | _ => none }
def AcompAllWrongFalsely : Prop := acompAllRow.holds Try.pinned (OpenSpec.ofChange acompAllWrong)

/-- 'procliticlaw23.AcompReads': WHATEVER THE INPUT: true; the input reads as it did. -/
def acompReadsSpec : ChangeSpec := { name := "acompReads", fn := fun _ => fun
  | [d1, d2] => { results := [.lit (.bool true)], args := [d1, d2] }
  | _ => none }
def acompReadsRow : OpenClaim := { program := "ytdpajabhmmmjoaa", sum := "fa746169e533a3417c831157dd54febae494bcef1e3a43b9accc5d5bfb09dae1", func := "proclitic/procliticlaw23.AcompReads", spec := "acompReads", unfollowed := true, recurses := true, plainKeys := false, apart := false }
def AcompReadsSaid : Prop := acompReadsRow.holds Try.pinned (OpenSpec.ofChange acompReadsSpec)

/-- ITS FALSE NEIGHBOUR: 'it returns false'. Refute it at one input. -/
def acompReadsWrong : ChangeSpec := { name := "acompReads", fn := fun _ => fun
  | [d1, d2] => { results := [.lit (.bool false)], args := [d1, d2] }
  | _ => none }
def AcompReadsWrongFalsely : Prop := acompReadsRow.holds Try.pinned (OpenSpec.ofChange acompReadsWrong)

/-- 'procliticlaw23.AcompNumbers': WHATEVER THE INPUT: true; the input reads as it did. -/
def acompNumbersSpec : ChangeSpec := { name := "acompNumbers", fn := fun _ => fun
  | [d1, d2] => { results := [.lit (.bool true)], args := [d1, d2] }
  | _ => none }
def acompNumbersRow : OpenClaim := { program := "ytdpajabhmmmjoaa", sum := "fa746169e533a3417c831157dd54febae494bcef1e3a43b9accc5d5bfb09dae1", func := "proclitic/procliticlaw23.AcompNumbers", spec := "acompNumbers", unfollowed := true, recurses := true, plainKeys := false, apart := false }
def AcompNumbersSaid : Prop := acompNumbersRow.holds Try.pinned (OpenSpec.ofChange acompNumbersSpec)

/-- ITS FALSE NEIGHBOUR: 'it returns false'. Refute it at one input. -/
def acompNumbersWrong : ChangeSpec := { name := "acompNumbers", fn := fun _ => fun
  | [d1, d2] => { results := [.lit (.bool false)], args := [d1, d2] }
  | _ => none }
def AcompNumbersWrongFalsely : Prop := acompNumbersRow.holds Try.pinned (OpenSpec.ofChange acompNumbersWrong)

/-- 'procliticlaw23.AcompForms': WHATEVER THE INPUT: true; the input reads as it did. -/
def acompFormsSpec : ChangeSpec := { name := "acompForms", fn := fun _ => fun
  | [] => { results := [.lit (.bool true)], args := [] }
  | _ => none }
def acompFormsRow : OpenClaim := { program := "ytdpajabhmmmjoaa", sum := "fa746169e533a3417c831157dd54febae494bcef1e3a43b9accc5d5bfb09dae1", func := "proclitic/procliticlaw23.AcompForms", spec := "acompForms", unfollowed := true, recurses := true, plainKeys := false, apart := false }
def AcompFormsSaid : Prop := acompFormsRow.holds Try.pinned (OpenSpec.ofChange acompFormsSpec)

/-- ITS FALSE NEIGHBOUR: 'it returns false'. Refute it at one input. -/
def acompFormsWrong : ChangeSpec := { name := "acompForms", fn := fun _ => fun
  | [] => { results := [.lit (.bool false)], args := [] }
  | _ => none }
def AcompFormsWrongFalsely : Prop := acompFormsRow.holds Try.pinned (OpenSpec.ofChange acompFormsWrong)

/-- 'procliticlaw22.AencAll': WHATEVER THE INPUT: true; the input reads as it did. -/
def aencAllSpec : ChangeSpec := { name := "aencAll", fn := fun _ => fun
  | [d1, d2, d3, d4, d5] => { results := [.lit (.bool true)], args := [d1, d2, d3, d4, d5] }
  | _ => none }
def aencAllRow : OpenClaim := { program := "ytdpajabhmmmjoaa", sum := "fa746169e533a3417c831157dd54febae494bcef1e3a43b9accc5d5bfb09dae1", func := "proclitic/procliticlaw22.AencAll", spec := "aencAll", unfollowed := true, recurses := true, plainKeys := false, apart := false }
def AencAllSaid : Prop := aencAllRow.holds Try.pinned (OpenSpec.ofChange aencAllSpec)

/-- ITS FALSE NEIGHBOUR: 'it returns false'. Refute it at one input. -/
def aencAllWrong : ChangeSpec := { name := "aencAll", fn := fun _ => fun
  | [d1, d2, d3, d4, d5] => { results := [.lit (.bool false)], args := [d1, d2, d3, d4, d5] }
  | _ => none }
def AencAllWrongFalsely : Prop := aencAllRow.holds Try.pinned (OpenSpec.ofChange aencAllWrong)

/-- 'procliticlaw22.AencSizes': WHATEVER THE INPUT: true; the input reads as it did. -/
def aencSizesSpec : ChangeSpec := { name := "aencSizes", fn := fun _ => fun
  | [d1, d2, d3] => { results := [.lit (.bool true)], args := [d1, d2, d3] }
  | _ => none }
def aencSizesRow : OpenClaim := { program := "ytdpajabhmmmjoaa", sum := "fa746169e533a3417c831157dd54febae494bcef1e3a43b9accc5d5bfb09dae1", func := "proclitic/procliticlaw22.AencSizes", spec := "aencSizes", unfollowed := true, recurses := true, plainKeys := false, apart := false }
def AencSizesSaid : Prop := aencSizesRow.holds Try.pinned (OpenSpec.ofChange aencSizesSpec)

/-- ITS FALSE NEIGHBOUR: 'it returns false'. Refute it at one input. -/
def aencSizesWrong : ChangeSpec := { name := "aencSizes", fn := fun _ => fun
  | [d1, d2, d3] => { results := [.lit (.bool false)], args := [d1, d2, d3] }
  | _ => none }
def AencSizesWrongFalsely : Prop := aencSizesRow.holds Try.pinned (OpenSpec.ofChange aencSizesWrong)

/- THE SECOND FORM. 'bulk': how many values and letters a reading holds, each counted each time it is reached (what is shared counts as often as it is met; a slice's spare places count too). A statement '..UptoSaid' is the law's where the arguments, and the package variables that the reading takes, are together of bulk at most 1048576: NARROWER than '..Said'. Prove '..Said' where nothing that the law and all that it calls make is longer than what came in: it says more and counts as full. Else prove '..UptoSaid'. A law counts once. -/
mutual
def uptoBulk {H : Type} : DataW H → Nat
  | .lit (.string bytes) => bytes.length + 1
  | .lit _ => 1
  | .nil => 1
  | .ptr d => uptoBulk d + 1
  | .slice elems spare => uptoBulkAll elems + uptoBulkAll spare + 1
  | .agg parts => uptoBulkAll parts + 1
  | .iface _ d => uptoBulk d + 1
  | .map entries => uptoBulkEntries entries + 1
  | .held _ => 1
def uptoBulkAll {H : Type} : List (DataW H) → Nat
  | [] => 0
  | d :: r => uptoBulk d + uptoBulkAll r
def uptoBulkEntries {H : Type} : List (Lit × DataW H) → Nat
  | [] => 0
  | x :: r => uptoBulkEntry x + uptoBulkEntries r
def uptoBulkEntry {H : Type} : Lit × DataW H → Nat
  | (.string bytes, d) => bytes.length + uptoBulk d + 1
  | (_, d) => uptoBulk d + 1
 end
def uptoSmall : (H : Type) → List (DataW H) → Bool := fun _ ds => decide (uptoBulkAll ds ≤ 1048576)
def OpenSpec.upto (s : _root_.Go.ChangeSpec) : _root_.Go.OpenSpec := { _root_.Go.OpenSpec.ofChange s with cond := some uptoSmall }

/-- 'procliticlaw13.BornMade', WHERE WHAT IT READS IS OF BULK AT MOST 1048576: true; the input reads as it did. -/
def bornMadeUptoRow : OpenClaim := { program := "ytdpajabhmmmjoaa", sum := "fa746169e533a3417c831157dd54febae494bcef1e3a43b9accc5d5bfb09dae1", func := "proclitic/procliticlaw13.BornMade", spec := "bornMade", recurses := true, plainKeys := false, apart := false, narrowed := true }
def BornMadeUptoSaid : Prop := bornMadeUptoRow.holds Try.pinned (OpenSpec.upto bornMadeSpec)

/-- 'procliticlaw20.AvalAll', WHERE WHAT IT READS IS OF BULK AT MOST 1048576: true; the input reads as it did. -/
def avalAllUptoRow : OpenClaim := { program := "ytdpajabhmmmjoaa", sum := "fa746169e533a3417c831157dd54febae494bcef1e3a43b9accc5d5bfb09dae1", func := "proclitic/procliticlaw20.AvalAll", spec := "avalAll", unfollowed := true, recurses := true, loops := true, plainKeys := false, apart := false, narrowed := true }
def AvalAllUptoSaid : Prop := avalAllUptoRow.holds Try.pinned (OpenSpec.upto avalAllSpec)

/-- 'procliticlaw20.AvalTurned', WHERE WHAT IT READS IS OF BULK AT MOST 1048576: true; the input reads as it did. -/
def avalTurnedUptoRow : OpenClaim := { program := "ytdpajabhmmmjoaa", sum := "fa746169e533a3417c831157dd54febae494bcef1e3a43b9accc5d5bfb09dae1", func := "proclitic/procliticlaw20.AvalTurned", spec := "avalTurned", unfollowed := true, recurses := true, plainKeys := false, apart := false, narrowed := true }
def AvalTurnedUptoSaid : Prop := avalTurnedUptoRow.holds Try.pinned (OpenSpec.upto avalTurnedSpec)

/-- 'procliticlaw20.AvalRanges', WHERE WHAT IT READS IS OF BULK AT MOST 1048576: true; the input reads as it did. -/
def avalRangesUptoRow : OpenClaim := { program := "ytdpajabhmmmjoaa", sum := "fa746169e533a3417c831157dd54febae494bcef1e3a43b9accc5d5bfb09dae1", func := "proclitic/procliticlaw20.AvalRanges", spec := "avalRanges", unfollowed := true, recurses := true, plainKeys := false, apart := false, narrowed := true }
def AvalRangesUptoSaid : Prop := avalRangesUptoRow.holds Try.pinned (OpenSpec.upto avalRangesSpec)

/-- 'procliticlaw23.AcompAll', WHERE WHAT IT READS IS OF BULK AT MOST 1048576: true; the input reads as it did. -/
def acompAllUptoRow : OpenClaim := { program := "ytdpajabhmmmjoaa", sum := "fa746169e533a3417c831157dd54febae494bcef1e3a43b9accc5d5bfb09dae1", func := "proclitic/procliticlaw23.AcompAll", spec := "acompAll", unfollowed := true, recurses := true, plainKeys := false, apart := false, narrowed := true }
def AcompAllUptoSaid : Prop := acompAllUptoRow.holds Try.pinned (OpenSpec.upto acompAllSpec)

/-- 'procliticlaw23.AcompReads', WHERE WHAT IT READS IS OF BULK AT MOST 1048576: true; the input reads as it did. -/
def acompReadsUptoRow : OpenClaim := { program := "ytdpajabhmmmjoaa", sum := "fa746169e533a3417c831157dd54febae494bcef1e3a43b9accc5d5bfb09dae1", func := "proclitic/procliticlaw23.AcompReads", spec := "acompReads", unfollowed := true, recurses := true, plainKeys := false, apart := false, narrowed := true }
def AcompReadsUptoSaid : Prop := acompReadsUptoRow.holds Try.pinned (OpenSpec.upto acompReadsSpec)

/-- 'procliticlaw23.AcompNumbers', WHERE WHAT IT READS IS OF BULK AT MOST 1048576: true; the input reads as it did. -/
def acompNumbersUptoRow : OpenClaim := { program := "ytdpajabhmmmjoaa", sum := "fa746169e533a3417c831157dd54febae494bcef1e3a43b9accc5d5bfb09dae1", func := "proclitic/procliticlaw23.AcompNumbers", spec := "acompNumbers", unfollowed := true, recurses := true, plainKeys := false, apart := false, narrowed := true }
def AcompNumbersUptoSaid : Prop := acompNumbersUptoRow.holds Try.pinned (OpenSpec.upto acompNumbersSpec)

/-- 'procliticlaw23.AcompForms', WHERE WHAT IT READS IS OF BULK AT MOST 1048576: true; the input reads as it did. -/
def acompFormsUptoRow : OpenClaim := { program := "ytdpajabhmmmjoaa", sum := "fa746169e533a3417c831157dd54febae494bcef1e3a43b9accc5d5bfb09dae1", func := "proclitic/procliticlaw23.AcompForms", spec := "acompForms", unfollowed := true, recurses := true, plainKeys := false, apart := false, narrowed := true }
def AcompFormsUptoSaid : Prop := acompFormsUptoRow.holds Try.pinned (OpenSpec.upto acompFormsSpec)

/-- 'procliticlaw22.AencAll', WHERE WHAT IT READS IS OF BULK AT MOST 1048576: true; the input reads as it did. -/
def aencAllUptoRow : OpenClaim := { program := "ytdpajabhmmmjoaa", sum := "fa746169e533a3417c831157dd54febae494bcef1e3a43b9accc5d5bfb09dae1", func := "proclitic/procliticlaw22.AencAll", spec := "aencAll", unfollowed := true, recurses := true, plainKeys := false, apart := false, narrowed := true }
def AencAllUptoSaid : Prop := aencAllUptoRow.holds Try.pinned (OpenSpec.upto aencAllSpec)

/-- 'procliticlaw22.AencSizes', WHERE WHAT IT READS IS OF BULK AT MOST 1048576: true; the input reads as it did. -/
def aencSizesUptoRow : OpenClaim := { program := "ytdpajabhmmmjoaa", sum := "fa746169e533a3417c831157dd54febae494bcef1e3a43b9accc5d5bfb09dae1", func := "proclitic/procliticlaw22.AencSizes", spec := "aencSizes", unfollowed := true, recurses := true, plainKeys := false, apart := false, narrowed := true }
def AencSizesUptoSaid : Prop := aencSizesUptoRow.holds Try.pinned (OpenSpec.upto aencSizesSpec)

end Rows
end Go.Proofs.Ytdpajabhmmmjoaa
