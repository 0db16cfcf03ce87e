/-
  DERIVED. GIVEN WITH THE SEED: THE CARDS: each row of YtmicenegjfnbmaaDoorRows.lean that lists a variable, with what it lists TIED to the program's text (the seventh form; the later family's looks); each row that meets fmt, with fmt's text TOLD by the authors' own Lean function (tested against real Go, not proved from fmt's source: count such statements apart). THE CARD IS WHAT COUNTS. Prove the row's statement (the work); the ties are given (YtmicenegjfnbmaaDoorTie.lean); close each card by the builder's one call (the guide's Derived/Test/ToyasCard.lean, 'card_holds'). Laid BY PROGRAM, IN A SANDBOX (cutbox-door.mjs). By AI agents, Wed Nov 11 2026. No macro, syntax, notation, axiom, sorry.
-/
import Derived.Test.YtmicenegjfnbmaaDoorRows
import GoSem.ClaimSeven
namespace Go.Proofs.YtmicenegjfnbmaaDoor
namespace Rows

/-- THE TIED CARD OF 'quirelaw10.CellsThere'. -/
def cellsThereCard : Claim7 := { stood := { row := cellsThereRow, standIns := [], harness := (true, "83ba9508ea66861afc259a8b708730a97ee5f18581f5ae615013be9f558f5e8e"), looks := true }, kinds := [], alts := [], laidByText := true, laidKinds := [.data, .data, .data, .data, .sentinel, .sentinel, .pinned], laidTests := true, laidLooks := .later }
def CellsThereCardSaid : Prop := Claim7.holds Tryd.pinned (.plain (OpenSpec.ofChange cellsThereSpec)) cellsThereCard

/-- THE TIED CARD OF 'quirelaw10.CellsBack'. -/
def cellsBackCard : Claim7 := { stood := { row := cellsBackRow, standIns := [], harness := (true, "83ba9508ea66861afc259a8b708730a97ee5f18581f5ae615013be9f558f5e8e"), looks := true }, kinds := [], alts := [], laidByText := true, laidKinds := [.data, .data, .data, .data, .sentinel, .sentinel, .pinned], laidTests := true, laidLooks := .later }
def CellsBackCardSaid : Prop := Claim7.holds Tryd.pinned (.plain (OpenSpec.ofChange cellsBackSpec)) cellsBackCard

/-- THE SECOND FORM's CARD OF 'quirelaw10.CellsThere'. -/
def cellsThereUptoCard : Claim7 := { stood := { row := cellsThereUptoRow, standIns := [], harness := (true, "83ba9508ea66861afc259a8b708730a97ee5f18581f5ae615013be9f558f5e8e"), looks := true }, kinds := [], alts := [], laidByText := true, laidKinds := [.data, .data, .data, .data, .sentinel, .sentinel, .pinned], laidTests := true, laidLooks := .later }
def CellsThereUptoCardSaid : Prop := Claim7.holds Tryd.pinned (.plain (OpenSpec.upto cellsThereSpec)) cellsThereUptoCard

/-- THE SECOND FORM's CARD OF 'quirelaw10.CellsBack'. -/
def cellsBackUptoCard : Claim7 := { stood := { row := cellsBackUptoRow, standIns := [], harness := (true, "83ba9508ea66861afc259a8b708730a97ee5f18581f5ae615013be9f558f5e8e"), looks := true }, kinds := [], alts := [], laidByText := true, laidKinds := [.data, .data, .data, .data, .sentinel, .sentinel, .pinned], laidTests := true, laidLooks := .later }
def CellsBackUptoCardSaid : Prop := Claim7.holds Tryd.pinned (.plain (OpenSpec.upto cellsBackSpec)) cellsBackUptoCard
end Rows
end Go.Proofs.YtmicenegjfnbmaaDoor
