/-
  No cell of these rows narrows 'for every input' (looked for: loops, veiled, ifaces, maps, wideKeys, modest, calm, conditions, laid).
  DERIVED. THE GIVEN ROWS OF THIS SEAT. 10 by the template 'for every input the law returns true; each argument reads behind the call as it read before'; 0 by the template 'total and deterministic' (their statements: YtnfoibgafmeenaaTotals.lean).
  GIVEN WITH THE SEED: the statements are not yours to turn. If you find one false, say at which input.
  Laid BY PROGRAM, IN A SANDBOX (cutbox-rows.mjs): the forced cells as the released guide's own fill.sh prints them over the translation fba39cece20b43e0… (all of the seat's roots in one cut). By AI agents, Wed Nov 11 2026. No macro, syntax, notation, axiom, sorry.
-/
import Derived.Test.YtnfoibgafmeenaaChecked
import GoSem.Claim
import GoSem.ClaimJoined
import GoSem.ClaimMapViews
import Derived.JoinedTies
import Derived.KernelRfl
namespace Go.Proofs.Ytnfoibgafmeenaa
/- THE CELL 'sum', in the pinned program and in every row, IS THE sha256 OF THE DUMP (.gsa) THAT YtnfoibgafmeenaaProg.lean LOADS. Nothing in Lean hashes anything: it is a label: what it is worth is what the hold of that sum in a sandbox is worth. -/
noncomputable def Try.pinned : Pinned := { name := "ytnfoibgafmeenaa", sum := "fba39cece20b43e0a68c98cbdb47641549d48c80f0fc1f1e45a08e80a4e4b776", checked := Try.checked }
namespace Rows
def none {H : Type} : Left H := { results := [], args := [] }

/-- 'gatherumlaw08.DeckTurns': WHATEVER THE INPUT: true; the input reads as it did. -/
def deckTurnsSpec : ChangeSpec := { name := "deckTurns", fn := fun _ => fun
  | [d] => { results := [.lit (.bool true)], args := [d] }
  | _ => none }
def deckTurnsRow : OpenClaim := { program := "ytnfoibgafmeenaa", sum := "fba39cece20b43e0a68c98cbdb47641549d48c80f0fc1f1e45a08e80a4e4b776", func := "gatherum/gatherumlaw08.DeckTurns", spec := "deckTurns", unfollowed := true, recurses := true, apart := false }
def DeckTurnsSaid : Prop := deckTurnsRow.holds Try.pinned (OpenSpec.ofChange deckTurnsSpec)

/-- ITS FALSE NEIGHBOUR: 'it returns false'. Refute it at one input. -/
def deckTurnsWrong : ChangeSpec := { name := "deckTurns", fn := fun _ => fun
  | [d] => { results := [.lit (.bool false)], args := [d] }
  | _ => none }
def DeckTurnsWrongFalsely : Prop := deckTurnsRow.holds Try.pinned (OpenSpec.ofChange deckTurnsWrong)

/-- 'gatherumlaw07.GridSets': WHATEVER THE INPUT: true; the input reads as it did. -/
def gridSetsSpec : ChangeSpec := { name := "gridSets", fn := fun _ => fun
  | [d1, d2, d3] => { results := [.lit (.bool true)], args := [d1, d2, d3] }
  | _ => none }
def gridSetsRow : OpenClaim := { program := "ytnfoibgafmeenaa", sum := "fba39cece20b43e0a68c98cbdb47641549d48c80f0fc1f1e45a08e80a4e4b776", func := "gatherum/gatherumlaw07.GridSets", spec := "gridSets", unfollowed := true, recurses := true, apart := false }
def GridSetsSaid : Prop := gridSetsRow.holds Try.pinned (OpenSpec.ofChange gridSetsSpec)

/-- ITS FALSE NEIGHBOUR: 'it returns false'. Refute it at one input. -/
def gridSetsWrong : ChangeSpec := { name := "gridSets", fn := fun _ => fun
  | [d1, d2, d3] => { results := [.lit (.bool false)], args := [d1, d2, d3] }
  | _ => none }
def GridSetsWrongFalsely : Prop := gridSetsRow.holds Try.pinned (OpenSpec.ofChange gridSetsWrong)

/-- 'gatherumlaw07.GridWalks': WHATEVER THE INPUT: true; the input reads as it did. -/
def gridWalksSpec : ChangeSpec := { name := "gridWalks", fn := fun _ => fun
  | [d1, d2, d3, d4] => { results := [.lit (.bool true)], args := [d1, d2, d3, d4] }
  | _ => none }
def gridWalksRow : OpenClaim := { program := "ytnfoibgafmeenaa", sum := "fba39cece20b43e0a68c98cbdb47641549d48c80f0fc1f1e45a08e80a4e4b776", func := "gatherum/gatherumlaw07.GridWalks", spec := "gridWalks", unfollowed := true, recurses := true, apart := false }
def GridWalksSaid : Prop := gridWalksRow.holds Try.pinned (OpenSpec.ofChange gridWalksSpec)

/-- ITS FALSE NEIGHBOUR: 'it returns false'. Refute it at one input. -/
def gridWalksWrong : ChangeSpec := { name := "gridWalks", fn := fun _ => fun
  | [d1, d2, d3, d4] => { results := [.lit (.bool false)], args := [d1, d2, d3, d4] }
  | _ => none }
def GridWalksWrongFalsely : Prop := gridWalksRow.holds Try.pinned (OpenSpec.ofChange gridWalksWrong)

/-- 'gatherumlaw08.DeckCuts': WHATEVER THE INPUT: true; the input reads as it did. -/
def deckCutsSpec : ChangeSpec := { name := "deckCuts", fn := fun _ => fun
  | [d1, d2] => { results := [.lit (.bool true)], args := [d1, d2] }
  | _ => none }
def deckCutsRow : OpenClaim := { program := "ytnfoibgafmeenaa", sum := "fba39cece20b43e0a68c98cbdb47641549d48c80f0fc1f1e45a08e80a4e4b776", func := "gatherum/gatherumlaw08.DeckCuts", spec := "deckCuts", unfollowed := true, recurses := true, apart := false }
def DeckCutsSaid : Prop := deckCutsRow.holds Try.pinned (OpenSpec.ofChange deckCutsSpec)

/-- ITS FALSE NEIGHBOUR: 'it returns false'. Refute it at one input. -/
def deckCutsWrong : ChangeSpec := { name := "deckCuts", fn := fun _ => fun
  | [d1, d2] => { results := [.lit (.bool false)], args := [d1, d2] }
  | _ => none }
def DeckCutsWrongFalsely : Prop := deckCutsRow.holds Try.pinned (OpenSpec.ofChange deckCutsWrong)

/-- 'gatherumlaw07.GridParts': WHATEVER THE INPUT: true; the input reads as it did. -/
def gridPartsSpec : ChangeSpec := { name := "gridParts", fn := fun _ => fun
  | [d1, d2, d3, d4] => { results := [.lit (.bool true)], args := [d1, d2, d3, d4] }
  | _ => none }
def gridPartsRow : OpenClaim := { program := "ytnfoibgafmeenaa", sum := "fba39cece20b43e0a68c98cbdb47641549d48c80f0fc1f1e45a08e80a4e4b776", func := "gatherum/gatherumlaw07.GridParts", spec := "gridParts", unfollowed := true, recurses := true, apart := false }
def GridPartsSaid : Prop := gridPartsRow.holds Try.pinned (OpenSpec.ofChange gridPartsSpec)

/-- ITS FALSE NEIGHBOUR: 'it returns false'. Refute it at one input. -/
def gridPartsWrong : ChangeSpec := { name := "gridParts", fn := fun _ => fun
  | [d1, d2, d3, d4] => { results := [.lit (.bool false)], args := [d1, d2, d3, d4] }
  | _ => none }
def GridPartsWrongFalsely : Prop := gridPartsRow.holds Try.pinned (OpenSpec.ofChange gridPartsWrong)

/-- 'gatherumlaw07.GridMirrors': WHATEVER THE INPUT: true; the input reads as it did. -/
def gridMirrorsSpec : ChangeSpec := { name := "gridMirrors", fn := fun _ => fun
  | [d1, d2, d3, d4] => { results := [.lit (.bool true)], args := [d1, d2, d3, d4] }
  | _ => none }
def gridMirrorsRow : OpenClaim := { program := "ytnfoibgafmeenaa", sum := "fba39cece20b43e0a68c98cbdb47641549d48c80f0fc1f1e45a08e80a4e4b776", func := "gatherum/gatherumlaw07.GridMirrors", spec := "gridMirrors", unfollowed := true, recurses := true, apart := false }
def GridMirrorsSaid : Prop := gridMirrorsRow.holds Try.pinned (OpenSpec.ofChange gridMirrorsSpec)

/-- ITS FALSE NEIGHBOUR: 'it returns false'. Refute it at one input. -/
def gridMirrorsWrong : ChangeSpec := { name := "gridMirrors", fn := fun _ => fun
  | [d1, d2, d3, d4] => { results := [.lit (.bool false)], args := [d1, d2, d3, d4] }
  | _ => none }
def GridMirrorsWrongFalsely : Prop := gridMirrorsRow.holds Try.pinned (OpenSpec.ofChange gridMirrorsWrong)

/-- 'gatherumlaw08.DeckLays': WHATEVER THE INPUT: true; the input reads as it did. -/
def deckLaysSpec : ChangeSpec := { name := "deckLays", fn := fun _ => fun
  | [d1, d2, d3] => { results := [.lit (.bool true)], args := [d1, d2, d3] }
  | _ => none }
def deckLaysRow : OpenClaim := { program := "ytnfoibgafmeenaa", sum := "fba39cece20b43e0a68c98cbdb47641549d48c80f0fc1f1e45a08e80a4e4b776", func := "gatherum/gatherumlaw08.DeckLays", spec := "deckLays", unfollowed := true, recurses := true, apart := false }
def DeckLaysSaid : Prop := deckLaysRow.holds Try.pinned (OpenSpec.ofChange deckLaysSpec)

/-- ITS FALSE NEIGHBOUR: 'it returns false'. Refute it at one input. -/
def deckLaysWrong : ChangeSpec := { name := "deckLays", fn := fun _ => fun
  | [d1, d2, d3] => { results := [.lit (.bool false)], args := [d1, d2, d3] }
  | _ => none }
def DeckLaysWrongFalsely : Prop := deckLaysRow.holds Try.pinned (OpenSpec.ofChange deckLaysWrong)

/-- 'gatherumlaw08.DeckSelf': WHATEVER THE INPUT: true; the input reads as it did. -/
def deckSelfSpec : ChangeSpec := { name := "deckSelf", fn := fun _ => fun
  | [d1, d2] => { results := [.lit (.bool true)], args := [d1, d2] }
  | _ => none }
def deckSelfRow : OpenClaim := { program := "ytnfoibgafmeenaa", sum := "fba39cece20b43e0a68c98cbdb47641549d48c80f0fc1f1e45a08e80a4e4b776", func := "gatherum/gatherumlaw08.DeckSelf", spec := "deckSelf", unfollowed := true, recurses := true, apart := false }
def DeckSelfSaid : Prop := deckSelfRow.holds Try.pinned (OpenSpec.ofChange deckSelfSpec)

/-- ITS FALSE NEIGHBOUR: 'it returns false'. Refute it at one input. -/
def deckSelfWrong : ChangeSpec := { name := "deckSelf", fn := fun _ => fun
  | [d1, d2] => { results := [.lit (.bool false)], args := [d1, d2] }
  | _ => none }
def DeckSelfWrongFalsely : Prop := deckSelfRow.holds Try.pinned (OpenSpec.ofChange deckSelfWrong)

/-- 'gatherumlaw39.FoldOne': WHATEVER THE INPUT: true; the input reads as it did. -/
def foldOneSpec : ChangeSpec := { name := "foldOne", fn := fun _ => fun
  | [d1, d2, d3] => { results := [.lit (.bool true)], args := [d1, d2, d3] }
  | _ => none }
def foldOneRow : OpenClaim := { program := "ytnfoibgafmeenaa", sum := "fba39cece20b43e0a68c98cbdb47641549d48c80f0fc1f1e45a08e80a4e4b776", func := "gatherum/gatherumlaw39.FoldOne", spec := "foldOne", apart := false }
def FoldOneSaid : Prop := foldOneRow.holds Try.pinned (OpenSpec.ofChange foldOneSpec)

/-- ITS FALSE NEIGHBOUR: 'it returns false'. Refute it at one input. -/
def foldOneWrong : ChangeSpec := { name := "foldOne", fn := fun _ => fun
  | [d1, d2, d3] => { results := [.lit (.bool false)], args := [d1, d2, d3] }
  | _ => none }
def FoldOneWrongFalsely : Prop := foldOneRow.holds Try.pinned (OpenSpec.ofChange foldOneWrong)

/-- 'gatherumlaw39.FoldKeeps': WHATEVER THE INPUT: true; the input reads as it did. -/
def foldKeepsSpec : ChangeSpec := { name := "foldKeeps", fn := fun _ => fun
  | [d1, d2, d3] => { results := [.lit (.bool true)], args := [d1, d2, d3] }
  | _ => none }
def foldKeepsRow : OpenClaim := { program := "ytnfoibgafmeenaa", sum := "fba39cece20b43e0a68c98cbdb47641549d48c80f0fc1f1e45a08e80a4e4b776", func := "gatherum/gatherumlaw39.FoldKeeps", spec := "foldKeeps", apart := false }
def FoldKeepsSaid : Prop := foldKeepsRow.holds Try.pinned (OpenSpec.ofChange foldKeepsSpec)

/-- ITS FALSE NEIGHBOUR: 'it returns false'. Refute it at one input. -/
def foldKeepsWrong : ChangeSpec := { name := "foldKeeps", fn := fun _ => fun
  | [d1, d2, d3] => { results := [.lit (.bool false)], args := [d1, d2, d3] }
  | _ => none }
def FoldKeepsWrongFalsely : Prop := foldKeepsRow.holds Try.pinned (OpenSpec.ofChange foldKeepsWrong)

/- THE SECOND FORM. 'bulk': how many values and letters a reading holds, each counted each time it is reached (what is shared counts as often as it is met; a slice's spare places count too). A statement '..UptoSaid' is the law's where the arguments, and the package variables that the reading takes, are together of bulk at most 1048576: NARROWER than '..Said'. Prove '..Said' where nothing that the law and all that it calls make is longer than what came in: it says more and counts as full. Else prove '..UptoSaid'. A law counts once. -/
mutual
def uptoBulk {H : Type} : DataW H → Nat
  | .lit (.string bytes) => bytes.length + 1
  | .lit _ => 1
  | .nil => 1
  | .ptr d => uptoBulk d + 1
  | .slice elems spare => uptoBulkAll elems + uptoBulkAll spare + 1
  | .agg parts => uptoBulkAll parts + 1
  | .iface _ d => uptoBulk d + 1
  | .map entries => uptoBulkEntries entries + 1
  | .held _ => 1
def uptoBulkAll {H : Type} : List (DataW H) → Nat
  | [] => 0
  | d :: r => uptoBulk d + uptoBulkAll r
def uptoBulkEntries {H : Type} : List (Lit × DataW H) → Nat
  | [] => 0
  | x :: r => uptoBulkEntry x + uptoBulkEntries r
def uptoBulkEntry {H : Type} : Lit × DataW H → Nat
  | (.string bytes, d) => bytes.length + uptoBulk d + 1
  | (_, d) => uptoBulk d + 1
 end
def uptoSmall : (H : Type) → List (DataW H) → Bool := fun _ ds => decide (uptoBulkAll ds ≤ 1048576)
def OpenSpec.upto (s : _root_.Go.ChangeSpec) : _root_.Go.OpenSpec := { _root_.Go.OpenSpec.ofChange s with cond := some uptoSmall }

/-- 'gatherumlaw08.DeckTurns', WHERE WHAT IT READS IS OF BULK AT MOST 1048576: true; the input reads as it did. -/
def deckTurnsUptoRow : OpenClaim := { program := "ytnfoibgafmeenaa", sum := "fba39cece20b43e0a68c98cbdb47641549d48c80f0fc1f1e45a08e80a4e4b776", func := "gatherum/gatherumlaw08.DeckTurns", spec := "deckTurns", unfollowed := true, recurses := true, apart := false, narrowed := true }
def DeckTurnsUptoSaid : Prop := deckTurnsUptoRow.holds Try.pinned (OpenSpec.upto deckTurnsSpec)

/-- 'gatherumlaw07.GridSets', WHERE WHAT IT READS IS OF BULK AT MOST 1048576: true; the input reads as it did. -/
def gridSetsUptoRow : OpenClaim := { program := "ytnfoibgafmeenaa", sum := "fba39cece20b43e0a68c98cbdb47641549d48c80f0fc1f1e45a08e80a4e4b776", func := "gatherum/gatherumlaw07.GridSets", spec := "gridSets", unfollowed := true, recurses := true, apart := false, narrowed := true }
def GridSetsUptoSaid : Prop := gridSetsUptoRow.holds Try.pinned (OpenSpec.upto gridSetsSpec)

/-- 'gatherumlaw07.GridWalks', WHERE WHAT IT READS IS OF BULK AT MOST 1048576: true; the input reads as it did. -/
def gridWalksUptoRow : OpenClaim := { program := "ytnfoibgafmeenaa", sum := "fba39cece20b43e0a68c98cbdb47641549d48c80f0fc1f1e45a08e80a4e4b776", func := "gatherum/gatherumlaw07.GridWalks", spec := "gridWalks", unfollowed := true, recurses := true, apart := false, narrowed := true }
def GridWalksUptoSaid : Prop := gridWalksUptoRow.holds Try.pinned (OpenSpec.upto gridWalksSpec)

/-- 'gatherumlaw08.DeckCuts', WHERE WHAT IT READS IS OF BULK AT MOST 1048576: true; the input reads as it did. -/
def deckCutsUptoRow : OpenClaim := { program := "ytnfoibgafmeenaa", sum := "fba39cece20b43e0a68c98cbdb47641549d48c80f0fc1f1e45a08e80a4e4b776", func := "gatherum/gatherumlaw08.DeckCuts", spec := "deckCuts", unfollowed := true, recurses := true, apart := false, narrowed := true }
def DeckCutsUptoSaid : Prop := deckCutsUptoRow.holds Try.pinned (OpenSpec.upto deckCutsSpec)

/-- 'gatherumlaw07.GridParts', WHERE WHAT IT READS IS OF BULK AT MOST 1048576: true; the input reads as it did. -/
def gridPartsUptoRow : OpenClaim := { program := "ytnfoibgafmeenaa", sum := "fba39cece20b43e0a68c98cbdb47641549d48c80f0fc1f1e45a08e80a4e4b776", func := "gatherum/gatherumlaw07.GridParts", spec := "gridParts", unfollowed := true, recurses := true, apart := false, narrowed := true }
def GridPartsUptoSaid : Prop := gridPartsUptoRow.holds Try.pinned (OpenSpec.upto gridPartsSpec)

/-- 'gatherumlaw07.GridMirrors', WHERE WHAT IT READS IS OF BULK AT MOST 1048576: true; the input reads as it did. -/
def gridMirrorsUptoRow : OpenClaim := { program := "ytnfoibgafmeenaa", sum := "fba39cece20b43e0a68c98cbdb47641549d48c80f0fc1f1e45a08e80a4e4b776", func := "gatherum/gatherumlaw07.GridMirrors", spec := "gridMirrors", unfollowed := true, recurses := true, apart := false, narrowed := true }
def GridMirrorsUptoSaid : Prop := gridMirrorsUptoRow.holds Try.pinned (OpenSpec.upto gridMirrorsSpec)

/-- 'gatherumlaw08.DeckLays', WHERE WHAT IT READS IS OF BULK AT MOST 1048576: true; the input reads as it did. -/
def deckLaysUptoRow : OpenClaim := { program := "ytnfoibgafmeenaa", sum := "fba39cece20b43e0a68c98cbdb47641549d48c80f0fc1f1e45a08e80a4e4b776", func := "gatherum/gatherumlaw08.DeckLays", spec := "deckLays", unfollowed := true, recurses := true, apart := false, narrowed := true }
def DeckLaysUptoSaid : Prop := deckLaysUptoRow.holds Try.pinned (OpenSpec.upto deckLaysSpec)

/-- 'gatherumlaw08.DeckSelf', WHERE WHAT IT READS IS OF BULK AT MOST 1048576: true; the input reads as it did. -/
def deckSelfUptoRow : OpenClaim := { program := "ytnfoibgafmeenaa", sum := "fba39cece20b43e0a68c98cbdb47641549d48c80f0fc1f1e45a08e80a4e4b776", func := "gatherum/gatherumlaw08.DeckSelf", spec := "deckSelf", unfollowed := true, recurses := true, apart := false, narrowed := true }
def DeckSelfUptoSaid : Prop := deckSelfUptoRow.holds Try.pinned (OpenSpec.upto deckSelfSpec)

/-- 'gatherumlaw39.FoldOne', WHERE WHAT IT READS IS OF BULK AT MOST 1048576: true; the input reads as it did. -/
def foldOneUptoRow : OpenClaim := { program := "ytnfoibgafmeenaa", sum := "fba39cece20b43e0a68c98cbdb47641549d48c80f0fc1f1e45a08e80a4e4b776", func := "gatherum/gatherumlaw39.FoldOne", spec := "foldOne", apart := false, narrowed := true }
def FoldOneUptoSaid : Prop := foldOneUptoRow.holds Try.pinned (OpenSpec.upto foldOneSpec)

/-- 'gatherumlaw39.FoldKeeps', WHERE WHAT IT READS IS OF BULK AT MOST 1048576: true; the input reads as it did. -/
def foldKeepsUptoRow : OpenClaim := { program := "ytnfoibgafmeenaa", sum := "fba39cece20b43e0a68c98cbdb47641549d48c80f0fc1f1e45a08e80a4e4b776", func := "gatherum/gatherumlaw39.FoldKeeps", spec := "foldKeeps", apart := false, narrowed := true }
def FoldKeepsUptoSaid : Prop := foldKeepsUptoRow.holds Try.pinned (OpenSpec.upto foldKeepsSpec)

end Rows
end Go.Proofs.Ytnfoibgafmeenaa
