/-
  DERIVED. GIVEN WITH THE SEED: THE CARDS: each row of YtkinflmjagfapaaGreatDoorRows.lean that lists a variable, with what it lists TIED to the program's text (the seventh form; the later family's looks); each row that meets fmt, with fmt's text TOLD by the authors' own Lean function (tested against real Go, not proved from fmt's source: count such statements apart). THE CARD IS WHAT COUNTS. Prove the row's statement (the work); the ties are given (YtkinflmjagfapaaGreatDoorTie.lean); close each card by the builder's one call (the guide's Derived/Test/ToyasCard.lean, 'card_holds'). Laid BY PROGRAM, IN A SANDBOX (cutbox-door.mjs). By AI agents, Wed Nov 11 2026. No macro, syntax, notation, axiom, sorry.
-/
import Derived.Test.YtkinflmjagfapaaGreatDoorRows
import GoSem.ClaimSeven
namespace Go.Proofs.YtkinflmjagfapaaGreatDoor
namespace Rows

/-- THE TIED CARD OF 'procliticlaw11.AvscTurned'. -/
def avscTurnedCard : Claim7 := { stood := { row := avscTurnedRow, standIns := [], harness := (true, "1eeac2655ed88c12fc88f084edbb1b201bc84f3d9da7316bd839271a2bbf82a1"), looks := false }, kinds := [], alts := [], laidByText := true, laidKinds := [.data, .pinned], laidTests := true, laidLooks := .later }
def AvscTurnedCardSaid : Prop := Claim7.holds Tryz.pinned (.plain (OpenSpec.ofChange avscTurnedSpec)) avscTurnedCard

/-- THE SECOND FORM's CARD OF 'procliticlaw11.AvscTurned'. -/
def avscTurnedUptoCard : Claim7 := { stood := { row := avscTurnedUptoRow, standIns := [], harness := (true, "1eeac2655ed88c12fc88f084edbb1b201bc84f3d9da7316bd839271a2bbf82a1"), looks := false }, kinds := [], alts := [], laidByText := true, laidKinds := [.data, .pinned], laidTests := true, laidLooks := .later }
def AvscTurnedUptoCardSaid : Prop := Claim7.holds Tryz.pinned (.plain (OpenSpec.upto avscTurnedSpec)) avscTurnedUptoCard
end Rows
end Go.Proofs.YtkinflmjagfapaaGreatDoor
