/-
  No cell of these rows narrows 'for every input' (looked for: loops, veiled, ifaces, maps, wideKeys, modest, calm, conditions, laid).
  DERIVED. THE GIVEN ROWS OF THIS SEAT. 11 by the template 'for every input the law returns true; each argument reads behind the call as it read before'; 0 by the template 'total and deterministic' (their statements: YtmiclamhiohemaaTotals.lean).
  GIVEN WITH THE SEED: the statements are not yours to turn. If you find one false, say at which input.
  Laid BY PROGRAM, IN A SANDBOX (cutbox-rows.mjs): the forced cells as the released guide's own fill.sh prints them over the translation d28863cad1a55bd1… (all of the seat's roots in one cut). By AI agents, Wed Nov 11 2026. No macro, syntax, notation, axiom, sorry.
-/
import Derived.Test.YtmiclamhiohemaaChecked
import GoSem.Claim
import GoSem.ClaimJoined
import GoSem.ClaimMapViews
import Derived.JoinedTies
import Derived.KernelRfl
namespace Go.Proofs.Ytmiclamhiohemaa
/- THE CELL 'sum', in the pinned program and in every row, IS THE sha256 OF THE DUMP (.gsa) THAT YtmiclamhiohemaaProg.lean LOADS. Nothing in Lean hashes anything: it is a label: what it is worth is what the hold of that sum in a sandbox is worth. -/
noncomputable def Try.pinned : Pinned := { name := "ytmiclamhiohemaa", sum := "d28863cad1a55bd1fc7f77cf6f9c4ca0da22818410b2d85dbdccc7c145661fa1", checked := Try.checked }
namespace Rows
def none {H : Type} : Left H := { results := [], args := [] }

/-- 'procliticlaw2.CastFloats': WHATEVER THE INPUT: true; the input reads as it did. -/
def castFloatsSpec : ChangeSpec := { name := "castFloats", fn := fun _ => fun
  | [d1, d2] => { results := [.lit (.bool true)], args := [d1, d2] }
  | _ => none }
def castFloatsRow : OpenClaim := { program := "ytmiclamhiohemaa", sum := "d28863cad1a55bd1fc7f77cf6f9c4ca0da22818410b2d85dbdccc7c145661fa1", func := "proclitic/procliticlaw2.CastFloats", spec := "castFloats", apart := false }
def CastFloatsSaid : Prop := castFloatsRow.holds Try.pinned (OpenSpec.ofChange castFloatsSpec)

/-- ITS FALSE NEIGHBOUR: 'it returns false'. Refute it at one input. -/
def castFloatsWrong : ChangeSpec := { name := "castFloats", fn := fun _ => fun
  | [d1, d2] => { results := [.lit (.bool false)], args := [d1, d2] }
  | _ => none }
def CastFloatsWrongFalsely : Prop := castFloatsRow.holds Try.pinned (OpenSpec.ofChange castFloatsWrong)

/-- 'procliticlaw2.CastBack': WHATEVER THE INPUT: true; the input reads as it did. -/
def castBackSpec : ChangeSpec := { name := "castBack", fn := fun _ => fun
  | [d] => { results := [.lit (.bool true)], args := [d] }
  | _ => none }
def castBackRow : OpenClaim := { program := "ytmiclamhiohemaa", sum := "d28863cad1a55bd1fc7f77cf6f9c4ca0da22818410b2d85dbdccc7c145661fa1", func := "proclitic/procliticlaw2.CastBack", spec := "castBack", apart := false }
def CastBackSaid : Prop := castBackRow.holds Try.pinned (OpenSpec.ofChange castBackSpec)

/-- ITS FALSE NEIGHBOUR: 'it returns false'. Refute it at one input. -/
def castBackWrong : ChangeSpec := { name := "castBack", fn := fun _ => fun
  | [d] => { results := [.lit (.bool false)], args := [d] }
  | _ => none }
def CastBackWrongFalsely : Prop := castBackRow.holds Try.pinned (OpenSpec.ofChange castBackWrong)

/-- 'procliticlaw2.CastGo': WHATEVER THE INPUT: true; the input reads as it did. -/
def castGoSpec : ChangeSpec := { name := "castGo", fn := fun _ => fun
  | [d] => { results := [.lit (.bool true)], args := [d] }
  | _ => none }
def castGoRow : OpenClaim := { program := "ytmiclamhiohemaa", sum := "d28863cad1a55bd1fc7f77cf6f9c4ca0da22818410b2d85dbdccc7c145661fa1", func := "proclitic/procliticlaw2.CastGo", spec := "castGo", apart := false }
def CastGoSaid : Prop := castGoRow.holds Try.pinned (OpenSpec.ofChange castGoSpec)

/-- ITS FALSE NEIGHBOUR: 'it returns false'. Refute it at one input. -/
def castGoWrong : ChangeSpec := { name := "castGo", fn := fun _ => fun
  | [d] => { results := [.lit (.bool false)], args := [d] }
  | _ => none }
def CastGoWrongFalsely : Prop := castGoRow.holds Try.pinned (OpenSpec.ofChange castGoWrong)

/-- 'procliticlaw2.CastSmall': WHATEVER THE INPUT: true; the input reads as it did. -/
def castSmallSpec : ChangeSpec := { name := "castSmall", fn := fun _ => fun
  | [d] => { results := [.lit (.bool true)], args := [d] }
  | _ => none }
def castSmallRow : OpenClaim := { program := "ytmiclamhiohemaa", sum := "d28863cad1a55bd1fc7f77cf6f9c4ca0da22818410b2d85dbdccc7c145661fa1", func := "proclitic/procliticlaw2.CastSmall", spec := "castSmall", apart := false }
def CastSmallSaid : Prop := castSmallRow.holds Try.pinned (OpenSpec.ofChange castSmallSpec)

/-- ITS FALSE NEIGHBOUR: 'it returns false'. Refute it at one input. -/
def castSmallWrong : ChangeSpec := { name := "castSmall", fn := fun _ => fun
  | [d] => { results := [.lit (.bool false)], args := [d] }
  | _ => none }
def CastSmallWrongFalsely : Prop := castSmallRow.holds Try.pinned (OpenSpec.ofChange castSmallWrong)

/-- 'procliticlaw2.CastOrder': WHATEVER THE INPUT: true; the input reads as it did. -/
def castOrderSpec : ChangeSpec := { name := "castOrder", fn := fun _ => fun
  | [d1, d2] => { results := [.lit (.bool true)], args := [d1, d2] }
  | _ => none }
def castOrderRow : OpenClaim := { program := "ytmiclamhiohemaa", sum := "d28863cad1a55bd1fc7f77cf6f9c4ca0da22818410b2d85dbdccc7c145661fa1", func := "proclitic/procliticlaw2.CastOrder", spec := "castOrder", apart := false }
def CastOrderSaid : Prop := castOrderRow.holds Try.pinned (OpenSpec.ofChange castOrderSpec)

/-- ITS FALSE NEIGHBOUR: 'it returns false'. Refute it at one input. -/
def castOrderWrong : ChangeSpec := { name := "castOrder", fn := fun _ => fun
  | [d1, d2] => { results := [.lit (.bool false)], args := [d1, d2] }
  | _ => none }
def CastOrderWrongFalsely : Prop := castOrderRow.holds Try.pinned (OpenSpec.ofChange castOrderWrong)

/-- 'procliticlaw2.CastWide': WHATEVER THE INPUT: true; the input reads as it did. -/
def castWideSpec : ChangeSpec := { name := "castWide", fn := fun _ => fun
  | [d1, d2] => { results := [.lit (.bool true)], args := [d1, d2] }
  | _ => none }
def castWideRow : OpenClaim := { program := "ytmiclamhiohemaa", sum := "d28863cad1a55bd1fc7f77cf6f9c4ca0da22818410b2d85dbdccc7c145661fa1", func := "proclitic/procliticlaw2.CastWide", spec := "castWide", apart := false }
def CastWideSaid : Prop := castWideRow.holds Try.pinned (OpenSpec.ofChange castWideSpec)

/-- ITS FALSE NEIGHBOUR: 'it returns false'. Refute it at one input. -/
def castWideWrong : ChangeSpec := { name := "castWide", fn := fun _ => fun
  | [d1, d2] => { results := [.lit (.bool false)], args := [d1, d2] }
  | _ => none }
def CastWideWrongFalsely : Prop := castWideRow.holds Try.pinned (OpenSpec.ofChange castWideWrong)

/-- 'procliticlaw3.GlyphAll': WHATEVER THE INPUT: true; the input reads as it did. -/
def glyphAllSpec : ChangeSpec := { name := "glyphAll", fn := fun _ => fun
  | [d1, d2, d3] => { results := [.lit (.bool true)], args := [d1, d2, d3] }
  | _ => none }
def glyphAllRow : OpenClaim := { program := "ytmiclamhiohemaa", sum := "d28863cad1a55bd1fc7f77cf6f9c4ca0da22818410b2d85dbdccc7c145661fa1", func := "proclitic/procliticlaw3.GlyphAll", spec := "glyphAll", inPlace := ["internal/bytealg.IndexByteString", "internal/abi.NoEscape"], recurses := true, apart := false }
def GlyphAllSaid : Prop := glyphAllRow.holds Try.pinned (OpenSpec.ofChange glyphAllSpec)

/-- ITS FALSE NEIGHBOUR: 'it returns false'. Refute it at one input. -/
def glyphAllWrong : ChangeSpec := { name := "glyphAll", fn := fun _ => fun
  | [d1, d2, d3] => { results := [.lit (.bool false)], args := [d1, d2, d3] }
  | _ => none }
def GlyphAllWrongFalsely : Prop := glyphAllRow.holds Try.pinned (OpenSpec.ofChange glyphAllWrong)

/-- 'procliticlaw3.GlyphGo': WHATEVER THE INPUT: true; the input reads as it did. -/
def glyphGoSpec : ChangeSpec := { name := "glyphGo", fn := fun _ => fun
  | [d1, d2] => { results := [.lit (.bool true)], args := [d1, d2] }
  | _ => none }
def glyphGoRow : OpenClaim := { program := "ytmiclamhiohemaa", sum := "d28863cad1a55bd1fc7f77cf6f9c4ca0da22818410b2d85dbdccc7c145661fa1", func := "proclitic/procliticlaw3.GlyphGo", spec := "glyphGo", inPlace := ["internal/bytealg.IndexByteString", "internal/abi.NoEscape"], recurses := true, apart := false }
def GlyphGoSaid : Prop := glyphGoRow.holds Try.pinned (OpenSpec.ofChange glyphGoSpec)

/-- ITS FALSE NEIGHBOUR: 'it returns false'. Refute it at one input. -/
def glyphGoWrong : ChangeSpec := { name := "glyphGo", fn := fun _ => fun
  | [d1, d2] => { results := [.lit (.bool false)], args := [d1, d2] }
  | _ => none }
def GlyphGoWrongFalsely : Prop := glyphGoRow.holds Try.pinned (OpenSpec.ofChange glyphGoWrong)

/-- 'procliticlaw3.GlyphBack': WHATEVER THE INPUT: true; the input reads as it did. -/
def glyphBackSpec : ChangeSpec := { name := "glyphBack", fn := fun _ => fun
  | [d1, d2] => { results := [.lit (.bool true)], args := [d1, d2] }
  | _ => none }
def glyphBackRow : OpenClaim := { program := "ytmiclamhiohemaa", sum := "d28863cad1a55bd1fc7f77cf6f9c4ca0da22818410b2d85dbdccc7c145661fa1", func := "proclitic/procliticlaw3.GlyphBack", spec := "glyphBack", inPlace := ["internal/bytealg.IndexByteString", "internal/abi.NoEscape"], recurses := true, apart := false }
def GlyphBackSaid : Prop := glyphBackRow.holds Try.pinned (OpenSpec.ofChange glyphBackSpec)

/-- ITS FALSE NEIGHBOUR: 'it returns false'. Refute it at one input. -/
def glyphBackWrong : ChangeSpec := { name := "glyphBack", fn := fun _ => fun
  | [d1, d2] => { results := [.lit (.bool false)], args := [d1, d2] }
  | _ => none }
def GlyphBackWrongFalsely : Prop := glyphBackRow.holds Try.pinned (OpenSpec.ofChange glyphBackWrong)

/-- 'procliticlaw3.GlyphUnits': WHATEVER THE INPUT: true; the input reads as it did. -/
def glyphUnitsSpec : ChangeSpec := { name := "glyphUnits", fn := fun _ => fun
  | [d1, d2] => { results := [.lit (.bool true)], args := [d1, d2] }
  | _ => none }
def glyphUnitsRow : OpenClaim := { program := "ytmiclamhiohemaa", sum := "d28863cad1a55bd1fc7f77cf6f9c4ca0da22818410b2d85dbdccc7c145661fa1", func := "proclitic/procliticlaw3.GlyphUnits", spec := "glyphUnits", inPlace := ["internal/bytealg.IndexByteString", "internal/abi.NoEscape"], recurses := true, apart := false }
def GlyphUnitsSaid : Prop := glyphUnitsRow.holds Try.pinned (OpenSpec.ofChange glyphUnitsSpec)

/-- ITS FALSE NEIGHBOUR: 'it returns false'. Refute it at one input. -/
def glyphUnitsWrong : ChangeSpec := { name := "glyphUnits", fn := fun _ => fun
  | [d1, d2] => { results := [.lit (.bool false)], args := [d1, d2] }
  | _ => none }
def GlyphUnitsWrongFalsely : Prop := glyphUnitsRow.holds Try.pinned (OpenSpec.ofChange glyphUnitsWrong)

/-- 'procliticlaw3.GlyphForms': WHATEVER THE INPUT: true; the input reads as it did. -/
def glyphFormsSpec : ChangeSpec := { name := "glyphForms", fn := fun _ => fun
  | [] => { results := [.lit (.bool true)], args := [] }
  | _ => none }
def glyphFormsRow : OpenClaim := { program := "ytmiclamhiohemaa", sum := "d28863cad1a55bd1fc7f77cf6f9c4ca0da22818410b2d85dbdccc7c145661fa1", func := "proclitic/procliticlaw3.GlyphForms", spec := "glyphForms", inPlace := ["internal/bytealg.IndexByteString", "internal/abi.NoEscape"], recurses := true, apart := false }
def GlyphFormsSaid : Prop := glyphFormsRow.holds Try.pinned (OpenSpec.ofChange glyphFormsSpec)

/-- ITS FALSE NEIGHBOUR: 'it returns false'. Refute it at one input. -/
def glyphFormsWrong : ChangeSpec := { name := "glyphForms", fn := fun _ => fun
  | [] => { results := [.lit (.bool false)], args := [] }
  | _ => none }
def GlyphFormsWrongFalsely : Prop := glyphFormsRow.holds Try.pinned (OpenSpec.ofChange glyphFormsWrong)

/- THE SECOND FORM. 'bulk': how many values and letters a reading holds, each counted each time it is reached (what is shared counts as often as it is met; a slice's spare places count too). A statement '..UptoSaid' is the law's where the arguments, and the package variables that the reading takes, are together of bulk at most 1048576: NARROWER than '..Said'. Prove '..Said' where nothing that the law and all that it calls make is longer than what came in: it says more and counts as full. Else prove '..UptoSaid'. A law counts once. -/
mutual
def uptoBulk {H : Type} : DataW H → Nat
  | .lit (.string bytes) => bytes.length + 1
  | .lit _ => 1
  | .nil => 1
  | .ptr d => uptoBulk d + 1
  | .slice elems spare => uptoBulkAll elems + uptoBulkAll spare + 1
  | .agg parts => uptoBulkAll parts + 1
  | .iface _ d => uptoBulk d + 1
  | .map entries => uptoBulkEntries entries + 1
  | .held _ => 1
def uptoBulkAll {H : Type} : List (DataW H) → Nat
  | [] => 0
  | d :: r => uptoBulk d + uptoBulkAll r
def uptoBulkEntries {H : Type} : List (Lit × DataW H) → Nat
  | [] => 0
  | x :: r => uptoBulkEntry x + uptoBulkEntries r
def uptoBulkEntry {H : Type} : Lit × DataW H → Nat
  | (.string bytes, d) => bytes.length + uptoBulk d + 1
  | (_, d) => uptoBulk d + 1
 end
def uptoSmall : (H : Type) → List (DataW H) → Bool := fun _ ds => decide (uptoBulkAll ds ≤ 1048576)
def OpenSpec.upto (s : _root_.Go.ChangeSpec) : _root_.Go.OpenSpec := { _root_.Go.OpenSpec.ofChange s with cond := some uptoSmall }

/-- 'procliticlaw2.CastFloats', WHERE WHAT IT READS IS OF BULK AT MOST 1048576: true; the input reads as it did. -/
def castFloatsUptoRow : OpenClaim := { program := "ytmiclamhiohemaa", sum := "d28863cad1a55bd1fc7f77cf6f9c4ca0da22818410b2d85dbdccc7c145661fa1", func := "proclitic/procliticlaw2.CastFloats", spec := "castFloats", apart := false, narrowed := true }
def CastFloatsUptoSaid : Prop := castFloatsUptoRow.holds Try.pinned (OpenSpec.upto castFloatsSpec)

/-- 'procliticlaw2.CastBack', WHERE WHAT IT READS IS OF BULK AT MOST 1048576: true; the input reads as it did. -/
def castBackUptoRow : OpenClaim := { program := "ytmiclamhiohemaa", sum := "d28863cad1a55bd1fc7f77cf6f9c4ca0da22818410b2d85dbdccc7c145661fa1", func := "proclitic/procliticlaw2.CastBack", spec := "castBack", apart := false, narrowed := true }
def CastBackUptoSaid : Prop := castBackUptoRow.holds Try.pinned (OpenSpec.upto castBackSpec)

/-- 'procliticlaw2.CastGo', WHERE WHAT IT READS IS OF BULK AT MOST 1048576: true; the input reads as it did. -/
def castGoUptoRow : OpenClaim := { program := "ytmiclamhiohemaa", sum := "d28863cad1a55bd1fc7f77cf6f9c4ca0da22818410b2d85dbdccc7c145661fa1", func := "proclitic/procliticlaw2.CastGo", spec := "castGo", apart := false, narrowed := true }
def CastGoUptoSaid : Prop := castGoUptoRow.holds Try.pinned (OpenSpec.upto castGoSpec)

/-- 'procliticlaw2.CastSmall', WHERE WHAT IT READS IS OF BULK AT MOST 1048576: true; the input reads as it did. -/
def castSmallUptoRow : OpenClaim := { program := "ytmiclamhiohemaa", sum := "d28863cad1a55bd1fc7f77cf6f9c4ca0da22818410b2d85dbdccc7c145661fa1", func := "proclitic/procliticlaw2.CastSmall", spec := "castSmall", apart := false, narrowed := true }
def CastSmallUptoSaid : Prop := castSmallUptoRow.holds Try.pinned (OpenSpec.upto castSmallSpec)

/-- 'procliticlaw2.CastOrder', WHERE WHAT IT READS IS OF BULK AT MOST 1048576: true; the input reads as it did. -/
def castOrderUptoRow : OpenClaim := { program := "ytmiclamhiohemaa", sum := "d28863cad1a55bd1fc7f77cf6f9c4ca0da22818410b2d85dbdccc7c145661fa1", func := "proclitic/procliticlaw2.CastOrder", spec := "castOrder", apart := false, narrowed := true }
def CastOrderUptoSaid : Prop := castOrderUptoRow.holds Try.pinned (OpenSpec.upto castOrderSpec)

/-- 'procliticlaw2.CastWide', WHERE WHAT IT READS IS OF BULK AT MOST 1048576: true; the input reads as it did. -/
def castWideUptoRow : OpenClaim := { program := "ytmiclamhiohemaa", sum := "d28863cad1a55bd1fc7f77cf6f9c4ca0da22818410b2d85dbdccc7c145661fa1", func := "proclitic/procliticlaw2.CastWide", spec := "castWide", apart := false, narrowed := true }
def CastWideUptoSaid : Prop := castWideUptoRow.holds Try.pinned (OpenSpec.upto castWideSpec)

/-- 'procliticlaw3.GlyphAll', WHERE WHAT IT READS IS OF BULK AT MOST 1048576: true; the input reads as it did. -/
def glyphAllUptoRow : OpenClaim := { program := "ytmiclamhiohemaa", sum := "d28863cad1a55bd1fc7f77cf6f9c4ca0da22818410b2d85dbdccc7c145661fa1", func := "proclitic/procliticlaw3.GlyphAll", spec := "glyphAll", inPlace := ["internal/bytealg.IndexByteString", "internal/abi.NoEscape"], recurses := true, apart := false, narrowed := true }
def GlyphAllUptoSaid : Prop := glyphAllUptoRow.holds Try.pinned (OpenSpec.upto glyphAllSpec)

/-- 'procliticlaw3.GlyphGo', WHERE WHAT IT READS IS OF BULK AT MOST 1048576: true; the input reads as it did. -/
def glyphGoUptoRow : OpenClaim := { program := "ytmiclamhiohemaa", sum := "d28863cad1a55bd1fc7f77cf6f9c4ca0da22818410b2d85dbdccc7c145661fa1", func := "proclitic/procliticlaw3.GlyphGo", spec := "glyphGo", inPlace := ["internal/bytealg.IndexByteString", "internal/abi.NoEscape"], recurses := true, apart := false, narrowed := true }
def GlyphGoUptoSaid : Prop := glyphGoUptoRow.holds Try.pinned (OpenSpec.upto glyphGoSpec)

/-- 'procliticlaw3.GlyphBack', WHERE WHAT IT READS IS OF BULK AT MOST 1048576: true; the input reads as it did. -/
def glyphBackUptoRow : OpenClaim := { program := "ytmiclamhiohemaa", sum := "d28863cad1a55bd1fc7f77cf6f9c4ca0da22818410b2d85dbdccc7c145661fa1", func := "proclitic/procliticlaw3.GlyphBack", spec := "glyphBack", inPlace := ["internal/bytealg.IndexByteString", "internal/abi.NoEscape"], recurses := true, apart := false, narrowed := true }
def GlyphBackUptoSaid : Prop := glyphBackUptoRow.holds Try.pinned (OpenSpec.upto glyphBackSpec)

/-- 'procliticlaw3.GlyphUnits', WHERE WHAT IT READS IS OF BULK AT MOST 1048576: true; the input reads as it did. -/
def glyphUnitsUptoRow : OpenClaim := { program := "ytmiclamhiohemaa", sum := "d28863cad1a55bd1fc7f77cf6f9c4ca0da22818410b2d85dbdccc7c145661fa1", func := "proclitic/procliticlaw3.GlyphUnits", spec := "glyphUnits", inPlace := ["internal/bytealg.IndexByteString", "internal/abi.NoEscape"], recurses := true, apart := false, narrowed := true }
def GlyphUnitsUptoSaid : Prop := glyphUnitsUptoRow.holds Try.pinned (OpenSpec.upto glyphUnitsSpec)

/-- 'procliticlaw3.GlyphForms', WHERE WHAT IT READS IS OF BULK AT MOST 1048576: true; the input reads as it did. -/
def glyphFormsUptoRow : OpenClaim := { program := "ytmiclamhiohemaa", sum := "d28863cad1a55bd1fc7f77cf6f9c4ca0da22818410b2d85dbdccc7c145661fa1", func := "proclitic/procliticlaw3.GlyphForms", spec := "glyphForms", inPlace := ["internal/bytealg.IndexByteString", "internal/abi.NoEscape"], recurses := true, apart := false, narrowed := true }
def GlyphFormsUptoSaid : Prop := glyphFormsUptoRow.holds Try.pinned (OpenSpec.upto glyphFormsSpec)

end Rows
end Go.Proofs.Ytmiclamhiohemaa
