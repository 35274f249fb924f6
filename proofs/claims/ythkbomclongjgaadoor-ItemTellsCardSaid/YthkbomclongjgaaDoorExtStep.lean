/- What the listed variables of StepOne and StepFolds give: the table of powers of ten, and the table of blanks. No condition. -/
import Derived.Test.YthkbomclongjgaaDoorExtDec
import Derived.Test.YthkbomclongjgaaDoorExtWords
namespace Go.Proofs.YthkbomclongjgaaDoor.ExtStep
open Go.RowKit Go.Proofs.YthkbomclongjgaaDoor.ExtBase Go.Proofs.YthkbomclongjgaaDoor.ExtDec
theorem spacesData : (Rows.laid_strings_asciiSpace : DataW Unit) = Lib.tabData .u8 Lib.asciiSpaceTab := by kernel_rfl
structure GL (w : World) : Prop where
  p : GP w
  s : GS w
theorem GL.below {w w' : World} (h : GL w) (hb : Below w.heap.size w w') : GL w' := ⟨h.p.below hb, h.s.below hb⟩
theorem GL.mk_ (W : World) (h : laidMetH Tryd.prog Rows.stepOneRow.laid W) (_ : W.ShapedOpen Tryd.prog) : GL W := by
  rw [MakeChecks.laidMetH_plain _ _ _ (by kernel_rfl)] at h
  exact ⟨gp_of h.tail.tail, gs_of h.tail.tail.tail.tail spacesData⟩
end Go.Proofs.YthkbomclongjgaaDoor.ExtStep
