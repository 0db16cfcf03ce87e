/-
  DERIVED. GIVEN WITH THE SEED: THE CARDS: each row of YtmicenegjfnbmaaGreatDoorRows.lean that lists a variable, with what it lists TIED to the program's text (the seventh form; the later family's looks); each row that meets fmt, with fmt's text TOLD by the authors' own Lean function (tested against real Go, not proved from fmt's source: count such statements apart). THE CARD IS WHAT COUNTS. Prove the row's statement (the work); the ties are given (YtmicenegjfnbmaaGreatDoorTie.lean); close each card by the builder's one call (the guide's Derived/Test/ToyasCard.lean, 'card_holds'). Laid BY PROGRAM, IN A SANDBOX (cutbox-door.mjs). By AI agents, Wed Nov 11 2026. No macro, syntax, notation, axiom, sorry.
-/
import Derived.Test.YtmicenegjfnbmaaGreatDoorRows
import GoSem.ClaimSeven
namespace Go.Proofs.YtmicenegjfnbmaaGreatDoor
namespace Rows

/-- THE TIED CARD OF 'quirelaw10.CellsPrint'. -/
def cellsPrintCard : Claim7 := { stood := { row := cellsPrintRow, standIns := [], harness := (true, "a43914144ef6842fad95e702a88e0b71a8a712cd91f906435a00c0f1e7c48197"), looks := true }, kinds := [], alts := [], laidByText := true, laidKinds := [.data, .data, .data, .data, .sentinel, .sentinel, .pinned], laidTests := true, laidLooks := .later }
def CellsPrintCardSaid : Prop := Claim7.holds Tryz.pinned (.plain (OpenSpec.ofChange cellsPrintSpec)) cellsPrintCard

/-- THE TIED CARD OF 'quirelaw10.CellsParse'. -/
def cellsParseCard : Claim7 := { stood := { row := cellsParseRow, standIns := [], harness := (true, "a43914144ef6842fad95e702a88e0b71a8a712cd91f906435a00c0f1e7c48197"), looks := true }, kinds := [], alts := [], laidByText := true, laidKinds := [.data, .data, .data, .data, .sentinel, .sentinel, .pinned], laidTests := true, laidLooks := .later }
def CellsParseCardSaid : Prop := Claim7.holds Tryz.pinned (.plain (OpenSpec.ofChange cellsParseSpec)) cellsParseCard

/-- THE TIED CARD OF 'quirelaw10.CellsMove'. -/
def cellsMoveCard : Claim7 := { stood := { row := cellsMoveRow, standIns := [], harness := (true, "a43914144ef6842fad95e702a88e0b71a8a712cd91f906435a00c0f1e7c48197"), looks := true }, kinds := [], alts := [], laidByText := true, laidKinds := [.data, .data, .data, .data, .sentinel, .sentinel, .pinned], laidTests := true, laidLooks := .later }
def CellsMoveCardSaid : Prop := Claim7.holds Tryz.pinned (.plain (OpenSpec.ofChange cellsMoveSpec)) cellsMoveCard

/-- THE SECOND FORM's CARD OF 'quirelaw10.CellsPrint'. -/
def cellsPrintUptoCard : Claim7 := { stood := { row := cellsPrintUptoRow, standIns := [], harness := (true, "a43914144ef6842fad95e702a88e0b71a8a712cd91f906435a00c0f1e7c48197"), looks := true }, kinds := [], alts := [], laidByText := true, laidKinds := [.data, .data, .data, .data, .sentinel, .sentinel, .pinned], laidTests := true, laidLooks := .later }
def CellsPrintUptoCardSaid : Prop := Claim7.holds Tryz.pinned (.plain (OpenSpec.upto cellsPrintSpec)) cellsPrintUptoCard

/-- THE SECOND FORM's CARD OF 'quirelaw10.CellsParse'. -/
def cellsParseUptoCard : Claim7 := { stood := { row := cellsParseUptoRow, standIns := [], harness := (true, "a43914144ef6842fad95e702a88e0b71a8a712cd91f906435a00c0f1e7c48197"), looks := true }, kinds := [], alts := [], laidByText := true, laidKinds := [.data, .data, .data, .data, .sentinel, .sentinel, .pinned], laidTests := true, laidLooks := .later }
def CellsParseUptoCardSaid : Prop := Claim7.holds Tryz.pinned (.plain (OpenSpec.upto cellsParseSpec)) cellsParseUptoCard

/-- THE SECOND FORM's CARD OF 'quirelaw10.CellsMove'. -/
def cellsMoveUptoCard : Claim7 := { stood := { row := cellsMoveUptoRow, standIns := [], harness := (true, "a43914144ef6842fad95e702a88e0b71a8a712cd91f906435a00c0f1e7c48197"), looks := true }, kinds := [], alts := [], laidByText := true, laidKinds := [.data, .data, .data, .data, .sentinel, .sentinel, .pinned], laidTests := true, laidLooks := .later }
def CellsMoveUptoCardSaid : Prop := Claim7.holds Tryz.pinned (.plain (OpenSpec.upto cellsMoveSpec)) cellsMoveUptoCard
end Rows
end Go.Proofs.YtmicenegjfnbmaaGreatDoor
