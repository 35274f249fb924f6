/-
  DERIVED. GIVEN WITH THE SEED: THE CARDS: each row of YtdijdlkljeibjaaDoorRows.lean that lists a variable, with what it lists TIED to the program's text (the seventh form; the later family's looks); each row that meets fmt, with fmt's text TOLD by the authors' own Lean function (tested against real Go, not proved from fmt's source: count such statements apart). THE CARD IS WHAT COUNTS. Prove the row's statement (the work); the ties are given (YtdijdlkljeibjaaDoorTie.lean); close each card by the builder's one call (the guide's Derived/Test/ToyasCard.lean, 'card_holds'). Laid BY PROGRAM, IN A SANDBOX (cutbox-door.mjs). By AI agents, Wed Nov 11 2026. No macro, syntax, notation, axiom, sorry.
-/
import Derived.Test.YtdijdlkljeibjaaDoorRows
import GoSem.ClaimSeven
namespace Go.Proofs.YtdijdlkljeibjaaDoor
namespace Rows

/-- THE TIED CARD OF 'gatherumlaw39.FoldSteps'. -/
def foldStepsCard : Claim7 := { stood := { row := foldStepsRow, standIns := [], harness := (true, "7340b8d58fcb19c635d3e16a9af3ccb53330674122d941aedbf031a288097a4e"), looks := false }, kinds := [], alts := [], laidByText := true, laidKinds := [.data, .data, .data, .listed, .data], laidTests := true, laidLooks := .later }
def FoldStepsCardSaid : Prop := Claim7.holds Tryd.pinned (.plain (OpenSpec.ofChange foldStepsSpec)) foldStepsCard

/-- THE TIED CARD OF 'gatherumlaw39.FoldScheme'. -/
def foldSchemeCard : Claim7 := { stood := { row := foldSchemeRow, standIns := [], harness := (true, "7340b8d58fcb19c635d3e16a9af3ccb53330674122d941aedbf031a288097a4e"), looks := false }, kinds := [], alts := [], laidByText := true, laidKinds := [.data, .data, .data, .listed, .data], laidTests := true, laidLooks := .later }
def FoldSchemeCardSaid : Prop := Claim7.holds Tryd.pinned (.plain (OpenSpec.ofChange foldSchemeSpec)) foldSchemeCard

/-- THE SECOND FORM's CARD OF 'gatherumlaw39.FoldSteps'. -/
def foldStepsUptoCard : Claim7 := { stood := { row := foldStepsUptoRow, standIns := [], harness := (true, "7340b8d58fcb19c635d3e16a9af3ccb53330674122d941aedbf031a288097a4e"), looks := false }, kinds := [], alts := [], laidByText := true, laidKinds := [.data, .data, .data, .listed, .data], laidTests := true, laidLooks := .later }
def FoldStepsUptoCardSaid : Prop := Claim7.holds Tryd.pinned (.plain (OpenSpec.upto foldStepsSpec)) foldStepsUptoCard

/-- THE SECOND FORM's CARD OF 'gatherumlaw39.FoldScheme'. -/
def foldSchemeUptoCard : Claim7 := { stood := { row := foldSchemeUptoRow, standIns := [], harness := (true, "7340b8d58fcb19c635d3e16a9af3ccb53330674122d941aedbf031a288097a4e"), looks := false }, kinds := [], alts := [], laidByText := true, laidKinds := [.data, .data, .data, .listed, .data], laidTests := true, laidLooks := .later }
def FoldSchemeUptoCardSaid : Prop := Claim7.holds Tryd.pinned (.plain (OpenSpec.upto foldSchemeSpec)) foldSchemeUptoCard
end Rows
end Go.Proofs.YtdijdlkljeibjaaDoor
