/-
  DERIVED. GIVEN WITH THE SEED: THE CARDS: each row of YtmiclamhiohemaaDoorRows.lean that lists a variable, with what it lists TIED to the program's text (the seventh form; the later family's looks); each row that meets fmt, with fmt's text TOLD by the authors' own Lean function (tested against real Go, not proved from fmt's source: count such statements apart). THE CARD IS WHAT COUNTS. Prove the row's statement (the work); the ties are given (YtmiclamhiohemaaDoorTie.lean); close each card by the builder's one call (the guide's Derived/Test/ToyasCard.lean, 'card_holds'). Laid BY PROGRAM, IN A SANDBOX (cutbox-door.mjs). By AI agents, Wed Nov 11 2026. No macro, syntax, notation, axiom, sorry.
-/
import Derived.Test.YtmiclamhiohemaaDoorRows
import GoSem.ClaimSeven
namespace Go.Proofs.YtmiclamhiohemaaDoor
namespace Rows

/-- THE TIED CARD OF 'procliticlaw4.SixtyAll'. -/
def sixtyAllCard : Claim7 := { stood := { row := sixtyAllRow, standIns := [], harness := (true, "aa533577fc333659c4b28856840019219cb9215a4d83a5392fa0b54153e712aa"), looks := false }, kinds := [], alts := [], laidByText := true, laidKinds := [.data, .pinned], laidTests := true, laidLooks := .later }
def SixtyAllCardSaid : Prop := Claim7.holds Tryd.pinned (.plain (OpenSpec.ofChange sixtyAllSpec)) sixtyAllCard

/-- THE TIED CARD OF 'procliticlaw4.SixtyBack'. -/
def sixtyBackCard : Claim7 := { stood := { row := sixtyBackRow, standIns := [], harness := (true, "aa533577fc333659c4b28856840019219cb9215a4d83a5392fa0b54153e712aa"), looks := false }, kinds := [], alts := [], laidByText := true, laidKinds := [.data, .pinned], laidTests := true, laidLooks := .later }
def SixtyBackCardSaid : Prop := Claim7.holds Tryd.pinned (.plain (OpenSpec.ofChange sixtyBackSpec)) sixtyBackCard

/-- THE TIED CARD OF 'procliticlaw4.SixtyJoins'. -/
def sixtyJoinsCard : Claim7 := { stood := { row := sixtyJoinsRow, standIns := [], harness := (true, "aa533577fc333659c4b28856840019219cb9215a4d83a5392fa0b54153e712aa"), looks := false }, kinds := [], alts := [], laidByText := true, laidKinds := [.data, .pinned], laidTests := true, laidLooks := .later }
def SixtyJoinsCardSaid : Prop := Claim7.holds Tryd.pinned (.plain (OpenSpec.ofChange sixtyJoinsSpec)) sixtyJoinsCard

/-- THE SECOND FORM's CARD OF 'procliticlaw4.SixtyAll'. -/
def sixtyAllUptoCard : Claim7 := { stood := { row := sixtyAllUptoRow, standIns := [], harness := (true, "aa533577fc333659c4b28856840019219cb9215a4d83a5392fa0b54153e712aa"), looks := false }, kinds := [], alts := [], laidByText := true, laidKinds := [.data, .pinned], laidTests := true, laidLooks := .later }
def SixtyAllUptoCardSaid : Prop := Claim7.holds Tryd.pinned (.plain (OpenSpec.upto sixtyAllSpec)) sixtyAllUptoCard

/-- THE SECOND FORM's CARD OF 'procliticlaw4.SixtyBack'. -/
def sixtyBackUptoCard : Claim7 := { stood := { row := sixtyBackUptoRow, standIns := [], harness := (true, "aa533577fc333659c4b28856840019219cb9215a4d83a5392fa0b54153e712aa"), looks := false }, kinds := [], alts := [], laidByText := true, laidKinds := [.data, .pinned], laidTests := true, laidLooks := .later }
def SixtyBackUptoCardSaid : Prop := Claim7.holds Tryd.pinned (.plain (OpenSpec.upto sixtyBackSpec)) sixtyBackUptoCard

/-- THE SECOND FORM's CARD OF 'procliticlaw4.SixtyJoins'. -/
def sixtyJoinsUptoCard : Claim7 := { stood := { row := sixtyJoinsUptoRow, standIns := [], harness := (true, "aa533577fc333659c4b28856840019219cb9215a4d83a5392fa0b54153e712aa"), looks := false }, kinds := [], alts := [], laidByText := true, laidKinds := [.data, .pinned], laidTests := true, laidLooks := .later }
def SixtyJoinsUptoCardSaid : Prop := Claim7.holds Tryd.pinned (.plain (OpenSpec.upto sixtyJoinsSpec)) sixtyJoinsUptoCard
end Rows
end Go.Proofs.YtmiclamhiohemaaDoor
