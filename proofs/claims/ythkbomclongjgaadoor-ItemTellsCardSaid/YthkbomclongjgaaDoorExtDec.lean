/- What the listed variables of DecBack and DecWithin give: the table of powers of ten, and the two errors. No condition. -/
import Derived.Test.YthkbomclongjgaaDoorRows
import Derived.Test.YthkbomclongjgaaDoorExtBase
import Derived.MakeChecks
import Derived.Test.YthkbomclongjgaaDoorNames
namespace Go.Proofs.YthkbomclongjgaaDoor.ExtDec
open Go.RowKit Go.Proofs.YthkbomclongjgaaDoor.ExtBase
open Names (pow10 spaces errRange errSyntax errType)
set_option linter.unusedVariables false

theorem gp_of {W : World} {l : List (String × DataW Unit)} (h : laidMet Tryd.prog ((pow10, Lib.tabData .u64 Lib.pow10Tab) :: l) W) : GP W :=
  ⟨Lib.tabIs_of_head (g := 4) (by kernel_rfl) (t := 164) (by kernel_rfl) Tryd.underlying164 Tryd.underlying140 (by kernel_rfl) (by kernel_rfl) h⟩
theorem gs_of {W : World} {l : List (String × DataW Unit)} {d : DataW Unit} (h : laidMet Tryd.prog ((spaces, d) :: l) W) (e : d = Lib.tabData .u8 Lib.asciiSpaceTab) : GS W := by
  subst e
  exact ⟨Lib.tabIs_of_head (g := 2) (by kernel_rfl) (t := 153) (by kernel_rfl) Tryd.underlying153 Tryd.underlying5 (by kernel_rfl) (by kernel_rfl) h⟩

theorem row160 (u : TypeId) (h : Tryd.prog.typeName? 3 u = some errType) : u = 160 :=
  typeName_ptr_named (nm := "errors.errorString") (by kernel_rfl) (by kernel_rfl) (by decide) u (h.trans (by kernel_rfl))
theorem cells162 : Tryd.prog.cellsOf 162 = 1 := by kernel_rfl
theorem cells9 : Tryd.prog.cellsOf 9 = 1 := by kernel_rfl
theorem rng_of {W : World} {x : List UInt8} {l : List (String × DataW Unit)} (h : laidMet Tryd.prog ((errRange, .iface errType (.ptr (.agg [.lit (.string x)]))) :: l) W) : ∃ ev, W.cell? ⟨1, 0, none⟩ = some ev ∧ (ev = .nilIface ∨ ∃ te pe, ev = .iface te pe) := by
  obtain ⟨a1, s1, hv1, -, -, -⟩ := laid_sentinel h (g := 1) (by kernel_rfl) (ti := 80) (by kernel_rfl) Tryd.underlying80 row160 Tryd.underlying160 Tryd.underlying162 rfl rfl Tryd.underlying9 cells162 cells9
  exact ⟨_, by have h0 := World.var?_cell (g := 1) (by kernel_rfl) hv1 0; simpa using h0, Or.inr ⟨_, _, rfl⟩⟩
theorem syn_of {W : World} {x : List UInt8} {l : List (String × DataW Unit)} (h : laidMet Tryd.prog ((errSyntax, .iface errType (.ptr (.agg [.lit (.string x)]))) :: l) W) : ∃ ev, W.cell? ⟨0, 0, none⟩ = some ev ∧ (ev = .nilIface ∨ ∃ te pe, ev = .iface te pe) := by
  obtain ⟨a1, s1, hv1, -, -, -⟩ := laid_sentinel h (g := 0) (by kernel_rfl) (ti := 80) (by kernel_rfl) Tryd.underlying80 row160 Tryd.underlying160 Tryd.underlying162 rfl rfl Tryd.underlying9 cells162 cells9
  exact ⟨_, by have h0 := World.var?_cell (g := 0) (by kernel_rfl) hv1 0; simpa using h0, Or.inr ⟨_, _, rfl⟩⟩

structure GL (w : World) : Prop where
  p : GP w
  e : GE w
theorem GL.below {w w' : World} (h : GL w) (hb : Below w.heap.size w w') : GL w' := ⟨h.p.below hb, h.e.below hb⟩
theorem GL.pe {w : World} (h : GL w) : GP w ∧ GE w := ⟨h.p, h.e⟩
theorem GL.mk_ (W : World) (h : laidMetH Tryd.prog Rows.decBackRow.laid W) (_ : W.ShapedOpen Tryd.prog) : GL W := by
  rw [MakeChecks.laidMetH_plain _ _ _ (by kernel_rfl)] at h
  exact ⟨gp_of h.tail.tail, ⟨syn_of h.tail.tail.tail.tail, rng_of h.tail.tail.tail⟩⟩
end Go.Proofs.YthkbomclongjgaaDoor.ExtDec
