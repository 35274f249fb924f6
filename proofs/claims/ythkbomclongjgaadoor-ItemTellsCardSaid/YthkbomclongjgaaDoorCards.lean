/-
  DERIVED. GIVEN WITH THE SEED: THE CARDS: each row of YthkbomclongjgaaDoorRows.lean that lists a variable, with what it lists TIED to the program's text (the seventh form; the later family's looks); each row that meets fmt, with fmt's text TOLD by the authors' own Lean function (tested against real Go, not proved from fmt's source: count such statements apart). THE CARD IS WHAT COUNTS. Prove the row's statement (the work); the ties are given (YthkbomclongjgaaDoorTie.lean); close each card by the builder's one call (the guide's Derived/Test/ToyasCard.lean, 'card_holds'). Laid BY PROGRAM, IN A SANDBOX (cutbox-door.mjs). By AI agents, Wed Nov 11 2026. No macro, syntax, notation, axiom, sorry.
-/
import Derived.Test.YthkbomclongjgaaDoorRows
import GoSem.ClaimSeven
namespace Go.Proofs.YthkbomclongjgaaDoor
namespace Rows

/-- THE TIED CARD OF 'gatherumlaw10.LexLines'. -/
def lexLinesCard : Claim7 := { stood := { row := lexLinesRow, standIns := [], harness := (true, "317a0e92f13fe99fbcc6793444b0813dfe09c0612919ce800d2b23b864f72e80"), looks := true }, kinds := [], alts := [], laidByText := true, laidKinds := [.data, .pinned], laidTests := true, laidLooks := .later }
def LexLinesCardSaid : Prop := Claim7.holds Tryd.pinned (.plain (OpenSpec.ofChange lexLinesSpec)) lexLinesCard

/-- THE TIED CARD OF 'gatherumlaw10.LexFields'. -/
def lexFieldsCard : Claim7 := { stood := { row := lexFieldsRow, standIns := [], harness := (true, "317a0e92f13fe99fbcc6793444b0813dfe09c0612919ce800d2b23b864f72e80"), looks := true }, kinds := [], alts := [], laidByText := true, laidKinds := [.data, .pinned], laidTests := true, laidLooks := .later }
def LexFieldsCardSaid : Prop := Claim7.holds Tryd.pinned (.plain (OpenSpec.ofChange lexFieldsSpec)) lexFieldsCard

/-- THE TIED CARD OF 'gatherumlaw10.LexBlanks'. -/
def lexBlanksCard : Claim7 := { stood := { row := lexBlanksRow, standIns := [], harness := (true, "317a0e92f13fe99fbcc6793444b0813dfe09c0612919ce800d2b23b864f72e80"), looks := true }, kinds := [], alts := [], laidByText := true, laidKinds := [.data, .pinned], laidTests := true, laidLooks := .later }
def LexBlanksCardSaid : Prop := Claim7.holds Tryd.pinned (.plain (OpenSpec.ofChange lexBlanksSpec)) lexBlanksCard

/-- THE TIED CARD OF 'gatherumlaw10.LexQuotes'. -/
def lexQuotesCard : Claim7 := { stood := { row := lexQuotesRow, standIns := [], harness := (true, "317a0e92f13fe99fbcc6793444b0813dfe09c0612919ce800d2b23b864f72e80"), looks := true }, kinds := [], alts := [], laidByText := true, laidKinds := [.data, .pinned], laidTests := true, laidLooks := .later }
def LexQuotesCardSaid : Prop := Claim7.holds Tryd.pinned (.plain (OpenSpec.ofChange lexQuotesSpec)) lexQuotesCard

/-- THE TIED CARD OF 'gatherumlaw11.StepOne'. -/
def stepOneCard : Claim7 := { stood := { row := stepOneRow, standIns := [], harness := (true, "317a0e92f13fe99fbcc6793444b0813dfe09c0612919ce800d2b23b864f72e80"), looks := true }, kinds := [], alts := [], laidByText := true, laidKinds := [.data, .data, .data, .listed, .data], laidTests := true, laidLooks := .later }
def StepOneCardSaid : Prop := Claim7.holds Tryd.pinned (.plain (OpenSpec.ofChange stepOneSpec)) stepOneCard

/-- THE TIED CARD OF 'gatherumlaw11.StepFolds'. -/
def stepFoldsCard : Claim7 := { stood := { row := stepFoldsRow, standIns := [], harness := (true, "317a0e92f13fe99fbcc6793444b0813dfe09c0612919ce800d2b23b864f72e80"), looks := true }, kinds := [], alts := [], laidByText := true, laidKinds := [.data, .data, .data, .listed, .data], laidTests := true, laidLooks := .later }
def StepFoldsCardSaid : Prop := Claim7.holds Tryd.pinned (.plain (OpenSpec.ofChange stepFoldsSpec)) stepFoldsCard

/-- THE TIED CARD OF 'gatherumlaw02.DecBack'. -/
def decBackCard : Claim7 := { stood := { row := decBackRow, standIns := [], harness := (true, "317a0e92f13fe99fbcc6793444b0813dfe09c0612919ce800d2b23b864f72e80"), looks := true }, kinds := [], alts := [], laidByText := true, laidKinds := [.data, .data, .data, .sentinel, .sentinel], laidTests := true, laidLooks := .later }
def DecBackCardSaid : Prop := Claim7.holds Tryd.pinned (.plain (OpenSpec.ofChange decBackSpec)) decBackCard

/-- THE TIED CARD OF 'gatherumlaw02.DecWithin'. -/
def decWithinCard : Claim7 := { stood := { row := decWithinRow, standIns := [], harness := (true, "317a0e92f13fe99fbcc6793444b0813dfe09c0612919ce800d2b23b864f72e80"), looks := true }, kinds := [], alts := [], laidByText := true, laidKinds := [.data, .data, .data, .sentinel, .sentinel], laidTests := true, laidLooks := .later }
def DecWithinCardSaid : Prop := Claim7.holds Tryd.pinned (.plain (OpenSpec.ofChange decWithinSpec)) decWithinCard

/-- THE TIED CARD OF 'gatherumlaw24.ItemTells'. -/
def itemTellsCard : Claim7 := { stood := { row := itemTellsRow, standIns := [], harness := (true, "317a0e92f13fe99fbcc6793444b0813dfe09c0612919ce800d2b23b864f72e80"), looks := true }, kinds := [], alts := [], laidByText := true, laidKinds := [.data, .data, .data, .listed, .data], laidTests := true, laidLooks := .later }
def ItemTellsCardSaid : Prop := Claim7.holds Tryd.pinned (.plain (OpenSpec.ofChange itemTellsSpec)) itemTellsCard

/-- THE TIED CARD OF 'gatherumlaw24.ItemMoves'. -/
def itemMovesCard : Claim7 := { stood := { row := itemMovesRow, standIns := [], harness := (true, "317a0e92f13fe99fbcc6793444b0813dfe09c0612919ce800d2b23b864f72e80"), looks := true }, kinds := [], alts := [], laidByText := true, laidKinds := [.data, .data, .data, .listed, .data], laidTests := true, laidLooks := .later }
def ItemMovesCardSaid : Prop := Claim7.holds Tryd.pinned (.plain (OpenSpec.ofChange itemMovesSpec)) itemMovesCard

/-- THE TIED CARD OF 'gatherumlaw11.StepBack'. -/
def stepBackCard : Claim7 := { stood := { row := stepBackRow, standIns := [], harness := (true, "317a0e92f13fe99fbcc6793444b0813dfe09c0612919ce800d2b23b864f72e80"), looks := true }, kinds := [], alts := [], laidByText := true, laidKinds := [.data, .data, .data, .sentinel, .sentinel, .listed, .data], laidTests := true, laidLooks := .later }
def StepBackCardSaid : Prop := Claim7.holds Tryd.pinned (.plain (OpenSpec.ofChange stepBackSpec)) stepBackCard

/-- THE TIED CARD OF 'gatherumlaw33.TokenNext'. -/
def tokenNextCard : Claim7 := { stood := { row := tokenNextRow, standIns := [], harness := (true, "317a0e92f13fe99fbcc6793444b0813dfe09c0612919ce800d2b23b864f72e80"), looks := true }, kinds := [], alts := [], laidByText := true, laidKinds := [.data, .data, .data, .sentinel, .sentinel], laidTests := true, laidLooks := .later }
def TokenNextCardSaid : Prop := Claim7.holds Tryd.pinned (.plain (OpenSpec.ofChange tokenNextSpec)) tokenNextCard

/-- THE SECOND FORM's CARD OF 'gatherumlaw10.LexLines'. -/
def lexLinesUptoCard : Claim7 := { stood := { row := lexLinesUptoRow, standIns := [], harness := (true, "317a0e92f13fe99fbcc6793444b0813dfe09c0612919ce800d2b23b864f72e80"), looks := true }, kinds := [], alts := [], laidByText := true, laidKinds := [.data, .pinned], laidTests := true, laidLooks := .later }
def LexLinesUptoCardSaid : Prop := Claim7.holds Tryd.pinned (.plain (OpenSpec.upto lexLinesSpec)) lexLinesUptoCard

/-- THE SECOND FORM's CARD OF 'gatherumlaw10.LexFields'. -/
def lexFieldsUptoCard : Claim7 := { stood := { row := lexFieldsUptoRow, standIns := [], harness := (true, "317a0e92f13fe99fbcc6793444b0813dfe09c0612919ce800d2b23b864f72e80"), looks := true }, kinds := [], alts := [], laidByText := true, laidKinds := [.data, .pinned], laidTests := true, laidLooks := .later }
def LexFieldsUptoCardSaid : Prop := Claim7.holds Tryd.pinned (.plain (OpenSpec.upto lexFieldsSpec)) lexFieldsUptoCard

/-- THE SECOND FORM's CARD OF 'gatherumlaw10.LexBlanks'. -/
def lexBlanksUptoCard : Claim7 := { stood := { row := lexBlanksUptoRow, standIns := [], harness := (true, "317a0e92f13fe99fbcc6793444b0813dfe09c0612919ce800d2b23b864f72e80"), looks := true }, kinds := [], alts := [], laidByText := true, laidKinds := [.data, .pinned], laidTests := true, laidLooks := .later }
def LexBlanksUptoCardSaid : Prop := Claim7.holds Tryd.pinned (.plain (OpenSpec.upto lexBlanksSpec)) lexBlanksUptoCard

/-- THE SECOND FORM's CARD OF 'gatherumlaw10.LexQuotes'. -/
def lexQuotesUptoCard : Claim7 := { stood := { row := lexQuotesUptoRow, standIns := [], harness := (true, "317a0e92f13fe99fbcc6793444b0813dfe09c0612919ce800d2b23b864f72e80"), looks := true }, kinds := [], alts := [], laidByText := true, laidKinds := [.data, .pinned], laidTests := true, laidLooks := .later }
def LexQuotesUptoCardSaid : Prop := Claim7.holds Tryd.pinned (.plain (OpenSpec.upto lexQuotesSpec)) lexQuotesUptoCard

/-- THE SECOND FORM's CARD OF 'gatherumlaw11.StepOne'. -/
def stepOneUptoCard : Claim7 := { stood := { row := stepOneUptoRow, standIns := [], harness := (true, "317a0e92f13fe99fbcc6793444b0813dfe09c0612919ce800d2b23b864f72e80"), looks := true }, kinds := [], alts := [], laidByText := true, laidKinds := [.data, .data, .data, .listed, .data], laidTests := true, laidLooks := .later }
def StepOneUptoCardSaid : Prop := Claim7.holds Tryd.pinned (.plain (OpenSpec.upto stepOneSpec)) stepOneUptoCard

/-- THE SECOND FORM's CARD OF 'gatherumlaw11.StepFolds'. -/
def stepFoldsUptoCard : Claim7 := { stood := { row := stepFoldsUptoRow, standIns := [], harness := (true, "317a0e92f13fe99fbcc6793444b0813dfe09c0612919ce800d2b23b864f72e80"), looks := true }, kinds := [], alts := [], laidByText := true, laidKinds := [.data, .data, .data, .listed, .data], laidTests := true, laidLooks := .later }
def StepFoldsUptoCardSaid : Prop := Claim7.holds Tryd.pinned (.plain (OpenSpec.upto stepFoldsSpec)) stepFoldsUptoCard

/-- THE SECOND FORM's CARD OF 'gatherumlaw02.DecBack'. -/
def decBackUptoCard : Claim7 := { stood := { row := decBackUptoRow, standIns := [], harness := (true, "317a0e92f13fe99fbcc6793444b0813dfe09c0612919ce800d2b23b864f72e80"), looks := true }, kinds := [], alts := [], laidByText := true, laidKinds := [.data, .data, .data, .sentinel, .sentinel], laidTests := true, laidLooks := .later }
def DecBackUptoCardSaid : Prop := Claim7.holds Tryd.pinned (.plain (OpenSpec.upto decBackSpec)) decBackUptoCard

/-- THE SECOND FORM's CARD OF 'gatherumlaw02.DecWithin'. -/
def decWithinUptoCard : Claim7 := { stood := { row := decWithinUptoRow, standIns := [], harness := (true, "317a0e92f13fe99fbcc6793444b0813dfe09c0612919ce800d2b23b864f72e80"), looks := true }, kinds := [], alts := [], laidByText := true, laidKinds := [.data, .data, .data, .sentinel, .sentinel], laidTests := true, laidLooks := .later }
def DecWithinUptoCardSaid : Prop := Claim7.holds Tryd.pinned (.plain (OpenSpec.upto decWithinSpec)) decWithinUptoCard

/-- THE SECOND FORM's CARD OF 'gatherumlaw24.ItemTells'. -/
def itemTellsUptoCard : Claim7 := { stood := { row := itemTellsUptoRow, standIns := [], harness := (true, "317a0e92f13fe99fbcc6793444b0813dfe09c0612919ce800d2b23b864f72e80"), looks := true }, kinds := [], alts := [], laidByText := true, laidKinds := [.data, .data, .data, .listed, .data], laidTests := true, laidLooks := .later }
def ItemTellsUptoCardSaid : Prop := Claim7.holds Tryd.pinned (.plain (OpenSpec.upto itemTellsSpec)) itemTellsUptoCard

/-- THE SECOND FORM's CARD OF 'gatherumlaw24.ItemMoves'. -/
def itemMovesUptoCard : Claim7 := { stood := { row := itemMovesUptoRow, standIns := [], harness := (true, "317a0e92f13fe99fbcc6793444b0813dfe09c0612919ce800d2b23b864f72e80"), looks := true }, kinds := [], alts := [], laidByText := true, laidKinds := [.data, .data, .data, .listed, .data], laidTests := true, laidLooks := .later }
def ItemMovesUptoCardSaid : Prop := Claim7.holds Tryd.pinned (.plain (OpenSpec.upto itemMovesSpec)) itemMovesUptoCard

/-- THE SECOND FORM's CARD OF 'gatherumlaw11.StepBack'. -/
def stepBackUptoCard : Claim7 := { stood := { row := stepBackUptoRow, standIns := [], harness := (true, "317a0e92f13fe99fbcc6793444b0813dfe09c0612919ce800d2b23b864f72e80"), looks := true }, kinds := [], alts := [], laidByText := true, laidKinds := [.data, .data, .data, .sentinel, .sentinel, .listed, .data], laidTests := true, laidLooks := .later }
def StepBackUptoCardSaid : Prop := Claim7.holds Tryd.pinned (.plain (OpenSpec.upto stepBackSpec)) stepBackUptoCard

/-- THE SECOND FORM's CARD OF 'gatherumlaw33.TokenNext'. -/
def tokenNextUptoCard : Claim7 := { stood := { row := tokenNextUptoRow, standIns := [], harness := (true, "317a0e92f13fe99fbcc6793444b0813dfe09c0612919ce800d2b23b864f72e80"), looks := true }, kinds := [], alts := [], laidByText := true, laidKinds := [.data, .data, .data, .sentinel, .sentinel], laidTests := true, laidLooks := .later }
def TokenNextUptoCardSaid : Prop := Claim7.holds Tryd.pinned (.plain (OpenSpec.upto tokenNextSpec)) tokenNextUptoCard
end Rows
end Go.Proofs.YthkbomclongjgaaDoor
