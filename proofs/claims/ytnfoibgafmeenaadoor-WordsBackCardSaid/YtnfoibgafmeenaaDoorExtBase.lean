/- What is asked of the library's table of blanks, and that it stays. No condition. -/
import Derived.Test.YtnfoibgafmeenaaDoorProg
import Derived.Test.YtnfoibgafmeenaaDoorShelfLex
import Derived.Test.YtnfoibgafmeenaaDoorExtLex
import Derived.Test.YtnfoibgafmeenaaDoorRows
import Derived.WalkSmall
import Derived.Lib.LaidTab
import Derived.Stop.LaidErr
import Derived.WalkSpells
import Derived.MakeChecks
namespace Go.Proofs.YtnfoibgafmeenaaDoor.ExtBase
open Go.RowKit Go.Proofs.YtnfoibgafmeenaaDoorW.PrintWords Go.Proofs.YtnfoibgafmeenaaDoorW.PrintMore
open Names (spaces)
set_option linter.unusedVariables false
set_option linter.unusedSimpArgs false

theorem tab_below {w w' : World} {n : String} {k : IntKind} {zs : List Int} (h : Lib.TabIs Tryd.prog w n k zs) (hb : Below w.heap.size w w') : Lib.TabIs Tryd.prog w' n k zs := by
  unfold Lib.TabIs World.var? at h ⊢
  cases hg : Tryd.prog.globalNamed n with
  | none => simp [hg] at h
  | some g =>
    simp only [hg, Option.bind_some] at h ⊢
    have hlt : g < w.heap.size := by
      rcases Nat.lt_or_ge g w.heap.size with h' | h'
      · exact h'
      · simp [Array.getElem?_eq_none h'] at h
    rw [hb.block g hlt]
    exact h

/-- The table of blanks. -/
structure GS (w : World) : Prop where
  tab : Lib.TabIs Tryd.prog w spaces .u8 Lib.asciiSpaceTab
theorem GS.below {w w' : World} (h : GS w) (hb : Below w.heap.size w w') : GS w' := ⟨tab_below h.tab hb⟩
theorem gs_of {W : World} {l : List (String × DataW Unit)} {d : DataW Unit} (h : laidMet Tryd.prog ((spaces, d) :: l) W) (e : d = Lib.tabData .u8 Lib.asciiSpaceTab) : GS W := by
  subst e
  exact ⟨Lib.tabIs_of_head (g := 0) (by kernel_rfl) (t := 33) (by kernel_rfl) Tryd.underlying33 Tryd.underlying5 (by kernel_rfl) (by kernel_rfl) h⟩
theorem spacesData : (Rows.laid_strings_asciiSpace : DataW Unit) = Lib.tabData .u8 Lib.asciiSpaceTab := by kernel_rfl
theorem GS.mk_ (W : World) (h : laidMetH Tryd.prog Rows.wordsTellRow.laid W) (_ : W.ShapedOpen Tryd.prog) : GS W := by
  rw [MakeChecks.laidMetH_plain _ _ _ (by kernel_rfl)] at h
  exact gs_of h.tail spacesData
end Go.Proofs.YtnfoibgafmeenaaDoor.ExtBase
