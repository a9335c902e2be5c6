/-
  DERIVED. GIVEN WITH THE SEED: THE CARDS: each row of YtkinflmjagfapaaDoorRows.lean that lists a variable, with what it lists TIED to the program's text (the seventh form; the later family's looks); each row that meets fmt, with fmt's text TOLD by the authors' own Lean function (tested against real Go, not proved from fmt's source: count such statements apart). THE CARD IS WHAT COUNTS. Prove the row's statement (the work); the ties are given (YtkinflmjagfapaaDoorTie.lean); close each card by the builder's one call (the guide's Derived/Test/ToyasCard.lean, 'card_holds'). Laid BY PROGRAM, IN A SANDBOX (cutbox-door.mjs). By AI agents, Wed Nov 11 2026. No macro, syntax, notation, axiom, sorry.
-/
import Derived.Test.YtkinflmjagfapaaDoorRows
import GoSem.ClaimSeven
namespace Go.Proofs.YtkinflmjagfapaaDoor
namespace Rows

/-- THE TIED CARD OF 'procliticlaw12.CanonAll'. -/
def canonAllCard : Claim7 := { stood := { row := canonAllRow, standIns := [], harness := (true, "f6b0f4c1343d52b5a1c520b05f3e5162f12f3ceb5c0e8a5046eb0ba639d0ca9d"), looks := false }, kinds := [], alts := [], laidByText := true, laidKinds := [.data, .data, .data], laidTests := true, laidLooks := .later }
def CanonAllCardSaid : Prop := Claim7.holds Tryd.pinned (.plain (OpenSpec.ofChange canonAllSpec)) canonAllCard

/-- THE TIED CARD OF 'procliticlaw12.CanonBack'. -/
def canonBackCard : Claim7 := { stood := { row := canonBackRow, standIns := [], harness := (true, "f6b0f4c1343d52b5a1c520b05f3e5162f12f3ceb5c0e8a5046eb0ba639d0ca9d"), looks := false }, kinds := [], alts := [], laidByText := true, laidKinds := [.data, .data, .data], laidTests := true, laidLooks := .later }
def CanonBackCardSaid : Prop := Claim7.holds Tryd.pinned (.plain (OpenSpec.ofChange canonBackSpec)) canonBackCard

/-- THE TIED CARD OF 'procliticlaw12.CanonSame'. -/
def canonSameCard : Claim7 := { stood := { row := canonSameRow, standIns := [], harness := (true, "f6b0f4c1343d52b5a1c520b05f3e5162f12f3ceb5c0e8a5046eb0ba639d0ca9d"), looks := false }, kinds := [], alts := [], laidByText := true, laidKinds := [.data, .data, .data], laidTests := true, laidLooks := .later }
def CanonSameCardSaid : Prop := Claim7.holds Tryd.pinned (.plain (OpenSpec.ofChange canonSameSpec)) canonSameCard

/-- THE TIED CARD OF 'procliticlaw12.CanonForms'. -/
def canonFormsCard : Claim7 := { stood := { row := canonFormsRow, standIns := [], harness := (true, "f6b0f4c1343d52b5a1c520b05f3e5162f12f3ceb5c0e8a5046eb0ba639d0ca9d"), looks := false }, kinds := [], alts := [], laidByText := true, laidKinds := [.data, .data, .data], laidTests := true, laidLooks := .later }
def CanonFormsCardSaid : Prop := Claim7.holds Tryd.pinned (.plain (OpenSpec.ofChange canonFormsSpec)) canonFormsCard

/-- THE TIED CARD OF 'procliticlaw11.AvscMade'. -/
def avscMadeCard : Claim7 := { stood := { row := avscMadeRow, standIns := [], harness := (true, "f6b0f4c1343d52b5a1c520b05f3e5162f12f3ceb5c0e8a5046eb0ba639d0ca9d"), looks := false }, kinds := [], alts := [], laidByText := true, laidKinds := [.data, .pinned], laidTests := true, laidLooks := .later }
def AvscMadeCardSaid : Prop := Claim7.holds Tryd.pinned (.plain (OpenSpec.ofChange avscMadeSpec)) avscMadeCard

/-- THE TIED CARD OF 'procliticlaw11.AvscForms'. -/
def avscFormsCard : Claim7 := { stood := { row := avscFormsRow, standIns := [], harness := (true, "f6b0f4c1343d52b5a1c520b05f3e5162f12f3ceb5c0e8a5046eb0ba639d0ca9d"), looks := false }, kinds := [], alts := [], laidByText := true, laidKinds := [.data, .pinned], laidTests := true, laidLooks := .later }
def AvscFormsCardSaid : Prop := Claim7.holds Tryd.pinned (.plain (OpenSpec.ofChange avscFormsSpec)) avscFormsCard

/-- THE SECOND FORM's CARD OF 'procliticlaw12.CanonAll'. -/
def canonAllUptoCard : Claim7 := { stood := { row := canonAllUptoRow, standIns := [], harness := (true, "f6b0f4c1343d52b5a1c520b05f3e5162f12f3ceb5c0e8a5046eb0ba639d0ca9d"), looks := false }, kinds := [], alts := [], laidByText := true, laidKinds := [.data, .data, .data], laidTests := true, laidLooks := .later }
def CanonAllUptoCardSaid : Prop := Claim7.holds Tryd.pinned (.plain (OpenSpec.upto canonAllSpec)) canonAllUptoCard

/-- THE SECOND FORM's CARD OF 'procliticlaw12.CanonBack'. -/
def canonBackUptoCard : Claim7 := { stood := { row := canonBackUptoRow, standIns := [], harness := (true, "f6b0f4c1343d52b5a1c520b05f3e5162f12f3ceb5c0e8a5046eb0ba639d0ca9d"), looks := false }, kinds := [], alts := [], laidByText := true, laidKinds := [.data, .data, .data], laidTests := true, laidLooks := .later }
def CanonBackUptoCardSaid : Prop := Claim7.holds Tryd.pinned (.plain (OpenSpec.upto canonBackSpec)) canonBackUptoCard

/-- THE SECOND FORM's CARD OF 'procliticlaw12.CanonSame'. -/
def canonSameUptoCard : Claim7 := { stood := { row := canonSameUptoRow, standIns := [], harness := (true, "f6b0f4c1343d52b5a1c520b05f3e5162f12f3ceb5c0e8a5046eb0ba639d0ca9d"), looks := false }, kinds := [], alts := [], laidByText := true, laidKinds := [.data, .data, .data], laidTests := true, laidLooks := .later }
def CanonSameUptoCardSaid : Prop := Claim7.holds Tryd.pinned (.plain (OpenSpec.upto canonSameSpec)) canonSameUptoCard

/-- THE SECOND FORM's CARD OF 'procliticlaw12.CanonForms'. -/
def canonFormsUptoCard : Claim7 := { stood := { row := canonFormsUptoRow, standIns := [], harness := (true, "f6b0f4c1343d52b5a1c520b05f3e5162f12f3ceb5c0e8a5046eb0ba639d0ca9d"), looks := false }, kinds := [], alts := [], laidByText := true, laidKinds := [.data, .data, .data], laidTests := true, laidLooks := .later }
def CanonFormsUptoCardSaid : Prop := Claim7.holds Tryd.pinned (.plain (OpenSpec.upto canonFormsSpec)) canonFormsUptoCard

/-- THE SECOND FORM's CARD OF 'procliticlaw11.AvscMade'. -/
def avscMadeUptoCard : Claim7 := { stood := { row := avscMadeUptoRow, standIns := [], harness := (true, "f6b0f4c1343d52b5a1c520b05f3e5162f12f3ceb5c0e8a5046eb0ba639d0ca9d"), looks := false }, kinds := [], alts := [], laidByText := true, laidKinds := [.data, .pinned], laidTests := true, laidLooks := .later }
def AvscMadeUptoCardSaid : Prop := Claim7.holds Tryd.pinned (.plain (OpenSpec.upto avscMadeSpec)) avscMadeUptoCard

/-- THE SECOND FORM's CARD OF 'procliticlaw11.AvscForms'. -/
def avscFormsUptoCard : Claim7 := { stood := { row := avscFormsUptoRow, standIns := [], harness := (true, "f6b0f4c1343d52b5a1c520b05f3e5162f12f3ceb5c0e8a5046eb0ba639d0ca9d"), looks := false }, kinds := [], alts := [], laidByText := true, laidKinds := [.data, .pinned], laidTests := true, laidLooks := .later }
def AvscFormsUptoCardSaid : Prop := Claim7.holds Tryd.pinned (.plain (OpenSpec.upto avscFormsSpec)) avscFormsUptoCard
end Rows
end Go.Proofs.YtkinflmjagfapaaDoor
