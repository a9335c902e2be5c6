/-
  DERIVED. GIVEN WITH THE SEED: THE CARDS: each row of YtehknfijojlddaaDoorRows.lean that lists a variable, with what it lists TIED to the program's text (the seventh form; the later family's looks); each row that meets fmt, with fmt's text TOLD by the authors' own Lean function (tested against real Go, not proved from fmt's source: count such statements apart). THE CARD IS WHAT COUNTS. Prove the row's statement (the work); the ties are given (YtehknfijojlddaaDoorTie.lean); close each card by the builder's one call (the guide's Derived/Test/ToyasCard.lean, 'card_holds'). Laid BY PROGRAM, IN A SANDBOX (cutbox-door.mjs). By AI agents, Wed Nov 11 2026. No macro, syntax, notation, axiom, sorry.
-/
import Derived.Test.YtehknfijojlddaaDoorRows
import GoSem.ClaimSeven
namespace Go.Proofs.YtehknfijojlddaaDoor
namespace Rows

/-- THE TIED CARD OF 'procliticlaw12.CanonForms'. -/
def canonFormsCard : Claim7 := { stood := { row := canonFormsRow, standIns := [], harness := (true, "a6013c14c7fe2ef7fd6d8b83824ce002b0db3407b9b3e5b7cb74366899c7d31f"), looks := false }, kinds := [], alts := [], laidByText := true, laidKinds := [.data, .data, .data], laidTests := true, laidLooks := .later }
def CanonFormsCardSaid : Prop := Claim7.holds Tryd.pinned (.plain (OpenSpec.ofChange canonFormsSpec)) canonFormsCard

/-- THE TIED CARD OF 'procliticlaw11.AvscForms'. -/
def avscFormsCard : Claim7 := { stood := { row := avscFormsRow, standIns := [], harness := (true, "a6013c14c7fe2ef7fd6d8b83824ce002b0db3407b9b3e5b7cb74366899c7d31f"), looks := false }, kinds := [], alts := [], laidByText := true, laidKinds := [.data, .pinned], laidTests := true, laidLooks := .later }
def AvscFormsCardSaid : Prop := Claim7.holds Tryd.pinned (.plain (OpenSpec.ofChange avscFormsSpec)) avscFormsCard

/-- THE SECOND FORM's CARD OF 'procliticlaw12.CanonForms'. -/
def canonFormsUptoCard : Claim7 := { stood := { row := canonFormsUptoRow, standIns := [], harness := (true, "a6013c14c7fe2ef7fd6d8b83824ce002b0db3407b9b3e5b7cb74366899c7d31f"), looks := false }, kinds := [], alts := [], laidByText := true, laidKinds := [.data, .data, .data], laidTests := true, laidLooks := .later }
def CanonFormsUptoCardSaid : Prop := Claim7.holds Tryd.pinned (.plain (OpenSpec.upto canonFormsSpec)) canonFormsUptoCard

/-- THE SECOND FORM's CARD OF 'procliticlaw11.AvscForms'. -/
def avscFormsUptoCard : Claim7 := { stood := { row := avscFormsUptoRow, standIns := [], harness := (true, "a6013c14c7fe2ef7fd6d8b83824ce002b0db3407b9b3e5b7cb74366899c7d31f"), looks := false }, kinds := [], alts := [], laidByText := true, laidKinds := [.data, .pinned], laidTests := true, laidLooks := .later }
def AvscFormsUptoCardSaid : Prop := Claim7.holds Tryd.pinned (.plain (OpenSpec.upto avscFormsSpec)) avscFormsUptoCard
end Rows
end Go.Proofs.YtehknfijojlddaaDoor
