/- What the listed variables of StepBack give: the table of powers of ten, the two errors, and the table of blanks. No condition. -/
import Derived.Test.YthkbomclongjgaaDoorExtStep
import Derived.Test.YthkbomclongjgaaDoorExtGet
namespace Go.Proofs.YthkbomclongjgaaDoor.ExtBack
open Go.RowKit Go.Proofs.YthkbomclongjgaaDoor.ExtBase Go.Proofs.YthkbomclongjgaaDoor.ExtDec
structure GL (w : World) : Prop where
  p : GP w
  e : GE w
  s : GS w
theorem GL.below {w w' : World} (h : GL w) (hb : Below w.heap.size w w') : GL w' := ⟨h.p.below hb, h.e.below hb, h.s.below hb⟩
theorem GL.pe {w : World} (h : GL w) : GP w ∧ GE w := ⟨h.p, h.e⟩
theorem GL.ps {w : World} (h : GL w) : ExtStep.GL w := ⟨h.p, h.s⟩
theorem GL.mk_ (W : World) (h : laidMetH Tryd.prog Rows.stepBackRow.laid W) (_ : W.ShapedOpen Tryd.prog) : GL W := by
  rw [MakeChecks.laidMetH_plain _ _ _ (by kernel_rfl)] at h
  exact ⟨gp_of h.tail.tail, ⟨syn_of h.tail.tail.tail.tail, rng_of h.tail.tail.tail⟩, gs_of h.tail.tail.tail.tail.tail.tail ExtStep.spacesData⟩
end Go.Proofs.YthkbomclongjgaaDoor.ExtBack
