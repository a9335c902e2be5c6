/-
  No cell of these rows narrows 'for every input' (looked for: loops, veiled, ifaces, maps, wideKeys, modest, calm, conditions, laid).
  DERIVED. THE GIVEN ROWS OF THIS SEAT. 7 by the template 'for every input the law returns true; each argument reads behind the call as it read before'; 0 by the template 'total and deterministic' (their statements: YtndccphabnjkhaaGreatTotals.lean).
  GIVEN WITH THE SEED: the statements are not yours to turn. If you find one false, say at which input.
  Laid BY PROGRAM, IN A SANDBOX (cutbox-rows.mjs): the forced cells as the released guide's own fill.sh prints them over the translation 393e287fc2d6c342… (all of the seat's roots in one cut). By AI agents, Wed Nov 11 2026. No macro, syntax, notation, axiom, sorry.
-/
import Derived.Test.YtndccphabnjkhaaGreatChecked
import GoSem.Claim
import GoSem.ClaimJoined
import GoSem.ClaimMapViews
import Derived.JoinedTies
import Derived.KernelRfl
namespace Go.Proofs.YtndccphabnjkhaaGreat
/- THE CELL 'sum', in the pinned program and in every row, IS THE sha256 OF THE DUMP (.gsa) THAT YtndccphabnjkhaaGreatProg.lean LOADS. Nothing in Lean hashes anything: it is a label: what it is worth is what the hold of that sum in a sandbox is worth. -/
noncomputable def Tryz.pinned : Pinned := { name := "ytndccphabnjkhaagreat", sum := "393e287fc2d6c342e3ccdd0d7e4cfc163a3a2e094e0a3dd3791eb96236944912", checked := Tryz.checked }
namespace Rows
def none {H : Type} : Left H := { results := [], args := [] }

/-- 'procliticlaw17.PencAll': WHATEVER THE INPUT: true; the input reads as it did. -/
def pencAllSpec : ChangeSpec := { name := "pencAll", fn := fun _ => fun
  | [d1, d2, d3, d4, d5] => { results := [.lit (.bool true)], args := [d1, d2, d3, d4, d5] }
  | _ => none }
def pencAllRow : OpenClaim := { program := "ytndccphabnjkhaagreat", sum := "393e287fc2d6c342e3ccdd0d7e4cfc163a3a2e094e0a3dd3791eb96236944912", func := "proclitic/procliticlaw17.PencAll", spec := "pencAll", inPlace := ["internal/bytealg.abigen_runtime_cmpstring", "internal/abi.NoEscape"], unfollowed := true, recurses := true, plainKeys := false, apart := false }
def PencAllSaid : Prop := pencAllRow.holds Tryz.pinned (OpenSpec.ofChange pencAllSpec)

/-- ITS FALSE NEIGHBOUR: 'it returns false'. Refute it at one input. -/
def pencAllWrong : ChangeSpec := { name := "pencAll", fn := fun _ => fun
  | [d1, d2, d3, d4, d5] => { results := [.lit (.bool false)], args := [d1, d2, d3, d4, d5] }
  | _ => none }
def PencAllWrongFalsely : Prop := pencAllRow.holds Tryz.pinned (OpenSpec.ofChange pencAllWrong)

/-- 'procliticlaw17.PencBack': WHATEVER THE INPUT: true; the input reads as it did. -/
def pencBackSpec : ChangeSpec := { name := "pencBack", fn := fun _ => fun
  | [d1, d2, d3] => { results := [.lit (.bool true)], args := [d1, d2, d3] }
  | _ => none }
def pencBackRow : OpenClaim := { program := "ytndccphabnjkhaagreat", sum := "393e287fc2d6c342e3ccdd0d7e4cfc163a3a2e094e0a3dd3791eb96236944912", func := "proclitic/procliticlaw17.PencBack", spec := "pencBack", inPlace := ["internal/bytealg.abigen_runtime_cmpstring", "internal/abi.NoEscape"], unfollowed := true, recurses := true, plainKeys := false, apart := false }
def PencBackSaid : Prop := pencBackRow.holds Tryz.pinned (OpenSpec.ofChange pencBackSpec)

/-- ITS FALSE NEIGHBOUR: 'it returns false'. Refute it at one input. -/
def pencBackWrong : ChangeSpec := { name := "pencBack", fn := fun _ => fun
  | [d1, d2, d3] => { results := [.lit (.bool false)], args := [d1, d2, d3] }
  | _ => none }
def PencBackWrongFalsely : Prop := pencBackRow.holds Tryz.pinned (OpenSpec.ofChange pencBackWrong)

/-- 'procliticlaw17.PencOrder': WHATEVER THE INPUT: true; the input reads as it did. -/
def pencOrderSpec : ChangeSpec := { name := "pencOrder", fn := fun _ => fun
  | [d1, d2] => { results := [.lit (.bool true)], args := [d1, d2] }
  | _ => none }
def pencOrderRow : OpenClaim := { program := "ytndccphabnjkhaagreat", sum := "393e287fc2d6c342e3ccdd0d7e4cfc163a3a2e094e0a3dd3791eb96236944912", func := "proclitic/procliticlaw17.PencOrder", spec := "pencOrder", inPlace := ["internal/bytealg.abigen_runtime_cmpstring", "internal/abi.NoEscape"], unfollowed := true, recurses := true, plainKeys := false, apart := false }
def PencOrderSaid : Prop := pencOrderRow.holds Tryz.pinned (OpenSpec.ofChange pencOrderSpec)

/-- ITS FALSE NEIGHBOUR: 'it returns false'. Refute it at one input. -/
def pencOrderWrong : ChangeSpec := { name := "pencOrder", fn := fun _ => fun
  | [d1, d2] => { results := [.lit (.bool false)], args := [d1, d2] }
  | _ => none }
def PencOrderWrongFalsely : Prop := pencOrderRow.holds Tryz.pinned (OpenSpec.ofChange pencOrderWrong)

/-- 'procliticlaw19.PreadDecodes': WHATEVER THE INPUT: true; the input reads as it did. -/
def preadDecodesSpec : ChangeSpec := { name := "preadDecodes", fn := fun _ => fun
  | [d1, d2, d3] => { results := [.lit (.bool true)], args := [d1, d2, d3] }
  | _ => none }
def preadDecodesRow : OpenClaim := { program := "ytndccphabnjkhaagreat", sum := "393e287fc2d6c342e3ccdd0d7e4cfc163a3a2e094e0a3dd3791eb96236944912", func := "proclitic/procliticlaw19.PreadDecodes", spec := "preadDecodes", inPlace := ["internal/bytealg.abigen_runtime_cmpstring", "internal/abi.NoEscape"], unfollowed := true, recurses := true, plainKeys := false, apart := false }
def PreadDecodesSaid : Prop := preadDecodesRow.holds Tryz.pinned (OpenSpec.ofChange preadDecodesSpec)

/-- ITS FALSE NEIGHBOUR: 'it returns false'. Refute it at one input. -/
def preadDecodesWrong : ChangeSpec := { name := "preadDecodes", fn := fun _ => fun
  | [d1, d2, d3] => { results := [.lit (.bool false)], args := [d1, d2, d3] }
  | _ => none }
def PreadDecodesWrongFalsely : Prop := preadDecodesRow.holds Tryz.pinned (OpenSpec.ofChange preadDecodesWrong)

/-- 'procliticlaw19.PreadSelf': WHATEVER THE INPUT: true; the input reads as it did. -/
def preadSelfSpec : ChangeSpec := { name := "preadSelf", fn := fun _ => fun
  | [d1, d2, d3] => { results := [.lit (.bool true)], args := [d1, d2, d3] }
  | _ => none }
def preadSelfRow : OpenClaim := { program := "ytndccphabnjkhaagreat", sum := "393e287fc2d6c342e3ccdd0d7e4cfc163a3a2e094e0a3dd3791eb96236944912", func := "proclitic/procliticlaw19.PreadSelf", spec := "preadSelf", inPlace := ["internal/bytealg.abigen_runtime_cmpstring", "internal/abi.NoEscape"], unfollowed := true, recurses := true, plainKeys := false, apart := false }
def PreadSelfSaid : Prop := preadSelfRow.holds Tryz.pinned (OpenSpec.ofChange preadSelfSpec)

/-- ITS FALSE NEIGHBOUR: 'it returns false'. Refute it at one input. -/
def preadSelfWrong : ChangeSpec := { name := "preadSelf", fn := fun _ => fun
  | [d1, d2, d3] => { results := [.lit (.bool false)], args := [d1, d2, d3] }
  | _ => none }
def PreadSelfWrongFalsely : Prop := preadSelfRow.holds Tryz.pinned (OpenSpec.ofChange preadSelfWrong)

/-- 'procliticlaw29.CrossAll': WHATEVER THE INPUT: true; the input reads as it did. -/
def crossAllSpec : ChangeSpec := { name := "crossAll", fn := fun _ => fun
  | [d1, d2, d3, d4, d5] => { results := [.lit (.bool true)], args := [d1, d2, d3, d4, d5] }
  | _ => none }
def crossAllRow : OpenClaim := { program := "ytndccphabnjkhaagreat", sum := "393e287fc2d6c342e3ccdd0d7e4cfc163a3a2e094e0a3dd3791eb96236944912", func := "proclitic/procliticlaw29.CrossAll", spec := "crossAll", inPlace := ["internal/bytealg.abigen_runtime_cmpstring"], unfollowed := true, recurses := true, plainKeys := false, apart := false }
def CrossAllSaid : Prop := crossAllRow.holds Tryz.pinned (OpenSpec.ofChange crossAllSpec)

/-- ITS FALSE NEIGHBOUR: 'it returns false'. Refute it at one input. -/
def crossAllWrong : ChangeSpec := { name := "crossAll", fn := fun _ => fun
  | [d1, d2, d3, d4, d5] => { results := [.lit (.bool false)], args := [d1, d2, d3, d4, d5] }
  | _ => none }
def CrossAllWrongFalsely : Prop := crossAllRow.holds Tryz.pinned (OpenSpec.ofChange crossAllWrong)

/-- 'procliticlaw29.CrossBack': WHATEVER THE INPUT: true; the input reads as it did. -/
def crossBackSpec : ChangeSpec := { name := "crossBack", fn := fun _ => fun
  | [d1, d2] => { results := [.lit (.bool true)], args := [d1, d2] }
  | _ => none }
def crossBackRow : OpenClaim := { program := "ytndccphabnjkhaagreat", sum := "393e287fc2d6c342e3ccdd0d7e4cfc163a3a2e094e0a3dd3791eb96236944912", func := "proclitic/procliticlaw29.CrossBack", spec := "crossBack", inPlace := ["internal/bytealg.abigen_runtime_cmpstring"], unfollowed := true, recurses := true, plainKeys := false, apart := false }
def CrossBackSaid : Prop := crossBackRow.holds Tryz.pinned (OpenSpec.ofChange crossBackSpec)

/-- ITS FALSE NEIGHBOUR: 'it returns false'. Refute it at one input. -/
def crossBackWrong : ChangeSpec := { name := "crossBack", fn := fun _ => fun
  | [d1, d2] => { results := [.lit (.bool false)], args := [d1, d2] }
  | _ => none }
def CrossBackWrongFalsely : Prop := crossBackRow.holds Tryz.pinned (OpenSpec.ofChange crossBackWrong)

/- THE SECOND FORM. 'bulk': how many values and letters a reading holds, each counted each time it is reached (what is shared counts as often as it is met; a slice's spare places count too). A statement '..UptoSaid' is the law's where the arguments, and the package variables that the reading takes, are together of bulk at most 1048576: NARROWER than '..Said'. Prove '..Said' where nothing that the law and all that it calls make is longer than what came in: it says more and counts as full. Else prove '..UptoSaid'. A law counts once. -/
mutual
def uptoBulk {H : Type} : DataW H → Nat
  | .lit (.string bytes) => bytes.length + 1
  | .lit _ => 1
  | .nil => 1
  | .ptr d => uptoBulk d + 1
  | .slice elems spare => uptoBulkAll elems + uptoBulkAll spare + 1
  | .agg parts => uptoBulkAll parts + 1
  | .iface _ d => uptoBulk d + 1
  | .map entries => uptoBulkEntries entries + 1
  | .held _ => 1
def uptoBulkAll {H : Type} : List (DataW H) → Nat
  | [] => 0
  | d :: r => uptoBulk d + uptoBulkAll r
def uptoBulkEntries {H : Type} : List (Lit × DataW H) → Nat
  | [] => 0
  | x :: r => uptoBulkEntry x + uptoBulkEntries r
def uptoBulkEntry {H : Type} : Lit × DataW H → Nat
  | (.string bytes, d) => bytes.length + uptoBulk d + 1
  | (_, d) => uptoBulk d + 1
 end
def uptoSmall : (H : Type) → List (DataW H) → Bool := fun _ ds => decide (uptoBulkAll ds ≤ 1048576)
def OpenSpec.upto (s : _root_.Go.ChangeSpec) : _root_.Go.OpenSpec := { _root_.Go.OpenSpec.ofChange s with cond := some uptoSmall }

/-- 'procliticlaw17.PencAll', WHERE WHAT IT READS IS OF BULK AT MOST 1048576: true; the input reads as it did. -/
def pencAllUptoRow : OpenClaim := { program := "ytndccphabnjkhaagreat", sum := "393e287fc2d6c342e3ccdd0d7e4cfc163a3a2e094e0a3dd3791eb96236944912", func := "proclitic/procliticlaw17.PencAll", spec := "pencAll", inPlace := ["internal/bytealg.abigen_runtime_cmpstring", "internal/abi.NoEscape"], unfollowed := true, recurses := true, plainKeys := false, apart := false, narrowed := true }
def PencAllUptoSaid : Prop := pencAllUptoRow.holds Tryz.pinned (OpenSpec.upto pencAllSpec)

/-- 'procliticlaw17.PencBack', WHERE WHAT IT READS IS OF BULK AT MOST 1048576: true; the input reads as it did. -/
def pencBackUptoRow : OpenClaim := { program := "ytndccphabnjkhaagreat", sum := "393e287fc2d6c342e3ccdd0d7e4cfc163a3a2e094e0a3dd3791eb96236944912", func := "proclitic/procliticlaw17.PencBack", spec := "pencBack", inPlace := ["internal/bytealg.abigen_runtime_cmpstring", "internal/abi.NoEscape"], unfollowed := true, recurses := true, plainKeys := false, apart := false, narrowed := true }
def PencBackUptoSaid : Prop := pencBackUptoRow.holds Tryz.pinned (OpenSpec.upto pencBackSpec)

/-- 'procliticlaw17.PencOrder', WHERE WHAT IT READS IS OF BULK AT MOST 1048576: true; the input reads as it did. -/
def pencOrderUptoRow : OpenClaim := { program := "ytndccphabnjkhaagreat", sum := "393e287fc2d6c342e3ccdd0d7e4cfc163a3a2e094e0a3dd3791eb96236944912", func := "proclitic/procliticlaw17.PencOrder", spec := "pencOrder", inPlace := ["internal/bytealg.abigen_runtime_cmpstring", "internal/abi.NoEscape"], unfollowed := true, recurses := true, plainKeys := false, apart := false, narrowed := true }
def PencOrderUptoSaid : Prop := pencOrderUptoRow.holds Tryz.pinned (OpenSpec.upto pencOrderSpec)

/-- 'procliticlaw19.PreadDecodes', WHERE WHAT IT READS IS OF BULK AT MOST 1048576: true; the input reads as it did. -/
def preadDecodesUptoRow : OpenClaim := { program := "ytndccphabnjkhaagreat", sum := "393e287fc2d6c342e3ccdd0d7e4cfc163a3a2e094e0a3dd3791eb96236944912", func := "proclitic/procliticlaw19.PreadDecodes", spec := "preadDecodes", inPlace := ["internal/bytealg.abigen_runtime_cmpstring", "internal/abi.NoEscape"], unfollowed := true, recurses := true, plainKeys := false, apart := false, narrowed := true }
def PreadDecodesUptoSaid : Prop := preadDecodesUptoRow.holds Tryz.pinned (OpenSpec.upto preadDecodesSpec)

/-- 'procliticlaw19.PreadSelf', WHERE WHAT IT READS IS OF BULK AT MOST 1048576: true; the input reads as it did. -/
def preadSelfUptoRow : OpenClaim := { program := "ytndccphabnjkhaagreat", sum := "393e287fc2d6c342e3ccdd0d7e4cfc163a3a2e094e0a3dd3791eb96236944912", func := "proclitic/procliticlaw19.PreadSelf", spec := "preadSelf", inPlace := ["internal/bytealg.abigen_runtime_cmpstring", "internal/abi.NoEscape"], unfollowed := true, recurses := true, plainKeys := false, apart := false, narrowed := true }
def PreadSelfUptoSaid : Prop := preadSelfUptoRow.holds Tryz.pinned (OpenSpec.upto preadSelfSpec)

/-- 'procliticlaw29.CrossAll', WHERE WHAT IT READS IS OF BULK AT MOST 1048576: true; the input reads as it did. -/
def crossAllUptoRow : OpenClaim := { program := "ytndccphabnjkhaagreat", sum := "393e287fc2d6c342e3ccdd0d7e4cfc163a3a2e094e0a3dd3791eb96236944912", func := "proclitic/procliticlaw29.CrossAll", spec := "crossAll", inPlace := ["internal/bytealg.abigen_runtime_cmpstring"], unfollowed := true, recurses := true, plainKeys := false, apart := false, narrowed := true }
def CrossAllUptoSaid : Prop := crossAllUptoRow.holds Tryz.pinned (OpenSpec.upto crossAllSpec)

/-- 'procliticlaw29.CrossBack', WHERE WHAT IT READS IS OF BULK AT MOST 1048576: true; the input reads as it did. -/
def crossBackUptoRow : OpenClaim := { program := "ytndccphabnjkhaagreat", sum := "393e287fc2d6c342e3ccdd0d7e4cfc163a3a2e094e0a3dd3791eb96236944912", func := "proclitic/procliticlaw29.CrossBack", spec := "crossBack", inPlace := ["internal/bytealg.abigen_runtime_cmpstring"], unfollowed := true, recurses := true, plainKeys := false, apart := false, narrowed := true }
def CrossBackUptoSaid : Prop := crossBackUptoRow.holds Tryz.pinned (OpenSpec.upto crossBackSpec)

end Rows
end Go.Proofs.YtndccphabnjkhaaGreat
