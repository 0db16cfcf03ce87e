/-
  DERIVED. GIVEN WITH THE SEED: THE CARDS: each row of YtfkiomjplpbmiaaGreatDoorRows.lean that lists a variable, with what it lists TIED to the program's text (the seventh form; the later family's looks); each row that meets fmt, with fmt's text TOLD by the authors' own Lean function (tested against real Go, not proved from fmt's source: count such statements apart). THE CARD IS WHAT COUNTS. Prove the row's statement (the work); the ties are given (YtfkiomjplpbmiaaGreatDoorTie.lean); close each card by the builder's one call (the guide's Derived/Test/ToyasCard.lean, 'card_holds'). Laid BY PROGRAM, IN A SANDBOX (cutbox-door.mjs). By AI agents, Wed Nov 11 2026. No macro, syntax, notation, axiom, sorry.
-/
import Derived.Test.YtfkiomjplpbmiaaGreatDoorRows
import GoSem.ClaimSeven
namespace Go.Proofs.YtfkiomjplpbmiaaGreatDoor
namespace Rows

/-- THE TIED CARD OF 'quirelaw11.LexTokens'. -/
def lexTokensCard : Claim7 := { stood := { row := lexTokensRow, standIns := [], harness := (true, "017bee86e3a8f8c04b84de1afde0690f5c8553e0cd2260f9eb8d7cbde96bc0a7"), looks := true }, kinds := [], alts := [], laidByText := true, laidKinds := [.data, .data, .data, .data, .sentinel, .sentinel, .pinned], laidTests := true, laidLooks := .later }
def LexTokensCardSaid : Prop := Claim7.holds Tryz.pinned (.plain (OpenSpec.ofChange lexTokensSpec)) lexTokensCard

/-- THE TIED CARD OF 'quirelaw11.LexWords'. -/
def lexWordsCard : Claim7 := { stood := { row := lexWordsRow, standIns := [], harness := (true, "017bee86e3a8f8c04b84de1afde0690f5c8553e0cd2260f9eb8d7cbde96bc0a7"), looks := true }, kinds := [], alts := [], laidByText := true, laidKinds := [.data, .data, .data, .data, .sentinel, .sentinel, .pinned], laidTests := true, laidLooks := .later }
def LexWordsCardSaid : Prop := Claim7.holds Tryz.pinned (.plain (OpenSpec.ofChange lexWordsSpec)) lexWordsCard

/-- THE TIED CARD OF 'quirelaw12.ExprParses'. -/
def exprParsesCard : Claim7 := { stood := { row := exprParsesRow, standIns := [], harness := (true, "017bee86e3a8f8c04b84de1afde0690f5c8553e0cd2260f9eb8d7cbde96bc0a7"), looks := true }, kinds := [], alts := [], laidByText := true, laidKinds := [.data, .data, .data, .data, .sentinel, .sentinel, .pinned], laidTests := true, laidLooks := .later }
def ExprParsesCardSaid : Prop := Claim7.holds Tryz.pinned (.plain (OpenSpec.ofChange exprParsesSpec)) exprParsesCard

/-- THE TIED CARD OF 'quirelaw12.ExprBack'. -/
def exprBackCard : Claim7 := { stood := { row := exprBackRow, standIns := [], harness := (true, "017bee86e3a8f8c04b84de1afde0690f5c8553e0cd2260f9eb8d7cbde96bc0a7"), looks := true }, kinds := [], alts := [], laidByText := true, laidKinds := [.data, .data, .data, .data, .sentinel, .sentinel, .pinned], laidTests := true, laidLooks := .later }
def ExprBackCardSaid : Prop := Claim7.holds Tryz.pinned (.plain (OpenSpec.ofChange exprBackSpec)) exprBackCard

/-- THE TIED CARD OF 'quirelaw12.ExprAgain'. -/
def exprAgainCard : Claim7 := { stood := { row := exprAgainRow, standIns := [], harness := (true, "017bee86e3a8f8c04b84de1afde0690f5c8553e0cd2260f9eb8d7cbde96bc0a7"), looks := true }, kinds := [], alts := [], laidByText := true, laidKinds := [.data, .data, .data, .data, .sentinel, .sentinel, .pinned], laidTests := true, laidLooks := .later }
def ExprAgainCardSaid : Prop := Claim7.holds Tryz.pinned (.plain (OpenSpec.ofChange exprAgainSpec)) exprAgainCard

/-- THE TIED CARD OF 'quirelaw12.ExprTurns'. -/
def exprTurnsCard : Claim7 := { stood := { row := exprTurnsRow, standIns := [], harness := (true, "017bee86e3a8f8c04b84de1afde0690f5c8553e0cd2260f9eb8d7cbde96bc0a7"), looks := true }, kinds := [], alts := [], laidByText := true, laidKinds := [.data, .data, .data, .data, .sentinel, .sentinel, .pinned], laidTests := true, laidLooks := .later }
def ExprTurnsCardSaid : Prop := Claim7.holds Tryz.pinned (.plain (OpenSpec.ofChange exprTurnsSpec)) exprTurnsCard

/-- THE TIED CARD OF 'quirelaw12.ExprThere'. -/
def exprThereCard : Claim7 := { stood := { row := exprThereRow, standIns := [], harness := (true, "017bee86e3a8f8c04b84de1afde0690f5c8553e0cd2260f9eb8d7cbde96bc0a7"), looks := true }, kinds := [], alts := [], laidByText := true, laidKinds := [.data, .data, .data, .data, .sentinel, .sentinel, .pinned], laidTests := true, laidLooks := .later }
def ExprThereCardSaid : Prop := Claim7.holds Tryz.pinned (.plain (OpenSpec.ofChange exprThereSpec)) exprThereCard

/-- THE TIED CARD OF 'quirelaw12.ExprLooks'. -/
def exprLooksCard : Claim7 := { stood := { row := exprLooksRow, standIns := [], harness := (true, "017bee86e3a8f8c04b84de1afde0690f5c8553e0cd2260f9eb8d7cbde96bc0a7"), looks := true }, kinds := [], alts := [], laidByText := true, laidKinds := [.data, .data, .data, .data, .sentinel, .sentinel, .pinned], laidTests := true, laidLooks := .later }
def ExprLooksCardSaid : Prop := Claim7.holds Tryz.pinned (.plain (OpenSpec.ofChange exprLooksSpec)) exprLooksCard

/-- THE SECOND FORM's CARD OF 'quirelaw11.LexTokens'. -/
def lexTokensUptoCard : Claim7 := { stood := { row := lexTokensUptoRow, standIns := [], harness := (true, "017bee86e3a8f8c04b84de1afde0690f5c8553e0cd2260f9eb8d7cbde96bc0a7"), looks := true }, kinds := [], alts := [], laidByText := true, laidKinds := [.data, .data, .data, .data, .sentinel, .sentinel, .pinned], laidTests := true, laidLooks := .later }
def LexTokensUptoCardSaid : Prop := Claim7.holds Tryz.pinned (.plain (OpenSpec.upto lexTokensSpec)) lexTokensUptoCard

/-- THE SECOND FORM's CARD OF 'quirelaw11.LexWords'. -/
def lexWordsUptoCard : Claim7 := { stood := { row := lexWordsUptoRow, standIns := [], harness := (true, "017bee86e3a8f8c04b84de1afde0690f5c8553e0cd2260f9eb8d7cbde96bc0a7"), looks := true }, kinds := [], alts := [], laidByText := true, laidKinds := [.data, .data, .data, .data, .sentinel, .sentinel, .pinned], laidTests := true, laidLooks := .later }
def LexWordsUptoCardSaid : Prop := Claim7.holds Tryz.pinned (.plain (OpenSpec.upto lexWordsSpec)) lexWordsUptoCard

/-- THE SECOND FORM's CARD OF 'quirelaw12.ExprParses'. -/
def exprParsesUptoCard : Claim7 := { stood := { row := exprParsesUptoRow, standIns := [], harness := (true, "017bee86e3a8f8c04b84de1afde0690f5c8553e0cd2260f9eb8d7cbde96bc0a7"), looks := true }, kinds := [], alts := [], laidByText := true, laidKinds := [.data, .data, .data, .data, .sentinel, .sentinel, .pinned], laidTests := true, laidLooks := .later }
def ExprParsesUptoCardSaid : Prop := Claim7.holds Tryz.pinned (.plain (OpenSpec.upto exprParsesSpec)) exprParsesUptoCard

/-- THE SECOND FORM's CARD OF 'quirelaw12.ExprBack'. -/
def exprBackUptoCard : Claim7 := { stood := { row := exprBackUptoRow, standIns := [], harness := (true, "017bee86e3a8f8c04b84de1afde0690f5c8553e0cd2260f9eb8d7cbde96bc0a7"), looks := true }, kinds := [], alts := [], laidByText := true, laidKinds := [.data, .data, .data, .data, .sentinel, .sentinel, .pinned], laidTests := true, laidLooks := .later }
def ExprBackUptoCardSaid : Prop := Claim7.holds Tryz.pinned (.plain (OpenSpec.upto exprBackSpec)) exprBackUptoCard

/-- THE SECOND FORM's CARD OF 'quirelaw12.ExprAgain'. -/
def exprAgainUptoCard : Claim7 := { stood := { row := exprAgainUptoRow, standIns := [], harness := (true, "017bee86e3a8f8c04b84de1afde0690f5c8553e0cd2260f9eb8d7cbde96bc0a7"), looks := true }, kinds := [], alts := [], laidByText := true, laidKinds := [.data, .data, .data, .data, .sentinel, .sentinel, .pinned], laidTests := true, laidLooks := .later }
def ExprAgainUptoCardSaid : Prop := Claim7.holds Tryz.pinned (.plain (OpenSpec.upto exprAgainSpec)) exprAgainUptoCard

/-- THE SECOND FORM's CARD OF 'quirelaw12.ExprTurns'. -/
def exprTurnsUptoCard : Claim7 := { stood := { row := exprTurnsUptoRow, standIns := [], harness := (true, "017bee86e3a8f8c04b84de1afde0690f5c8553e0cd2260f9eb8d7cbde96bc0a7"), looks := true }, kinds := [], alts := [], laidByText := true, laidKinds := [.data, .data, .data, .data, .sentinel, .sentinel, .pinned], laidTests := true, laidLooks := .later }
def ExprTurnsUptoCardSaid : Prop := Claim7.holds Tryz.pinned (.plain (OpenSpec.upto exprTurnsSpec)) exprTurnsUptoCard

/-- THE SECOND FORM's CARD OF 'quirelaw12.ExprThere'. -/
def exprThereUptoCard : Claim7 := { stood := { row := exprThereUptoRow, standIns := [], harness := (true, "017bee86e3a8f8c04b84de1afde0690f5c8553e0cd2260f9eb8d7cbde96bc0a7"), looks := true }, kinds := [], alts := [], laidByText := true, laidKinds := [.data, .data, .data, .data, .sentinel, .sentinel, .pinned], laidTests := true, laidLooks := .later }
def ExprThereUptoCardSaid : Prop := Claim7.holds Tryz.pinned (.plain (OpenSpec.upto exprThereSpec)) exprThereUptoCard

/-- THE SECOND FORM's CARD OF 'quirelaw12.ExprLooks'. -/
def exprLooksUptoCard : Claim7 := { stood := { row := exprLooksUptoRow, standIns := [], harness := (true, "017bee86e3a8f8c04b84de1afde0690f5c8553e0cd2260f9eb8d7cbde96bc0a7"), looks := true }, kinds := [], alts := [], laidByText := true, laidKinds := [.data, .data, .data, .data, .sentinel, .sentinel, .pinned], laidTests := true, laidLooks := .later }
def ExprLooksUptoCardSaid : Prop := Claim7.holds Tryz.pinned (.plain (OpenSpec.upto exprLooksSpec)) exprLooksUptoCard
end Rows
end Go.Proofs.YtfkiomjplpbmiaaGreatDoor
