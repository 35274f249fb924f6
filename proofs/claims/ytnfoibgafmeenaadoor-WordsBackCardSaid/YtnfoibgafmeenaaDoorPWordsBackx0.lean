-- written by xprint.py (a program of this session's, over the kit's printer)
import Derived.Test.YtnfoibgafmeenaaDoorProg
import Derived.Below
import Derived.Deep.Draws
import Derived.Deep.AppendLies
import Derived.Maps.AppendAt
import Derived.OwnWalk
import Derived.Laws.BytesArg
import Derived.Laws.MakeOwn
import Derived.Laws.OwnMore
import Derived.Deep.OwnRows
import Derived.Tactics
import Derived.Lib.ConvBytes
import Derived.Laws.Slices
import Derived.WalkKit
import Derived.KernelRfl
import Derived.RowKit3
import Derived.Deep.LoopGhost
import Derived.Deep.QuietTactic
import Derived.BigQuiet
import Derived.WideLaws
import Derived.Deep.DeepCutAuto
import Derived.Deep.CutBlock
import Derived.Deep.RegionHeld3
import Derived.Laws.Rows
import Derived.Lib.AppendStr
import Derived.ArgAppend
import Derived.Laws.IdiomCopy
import Derived.OrdersHeld
import Derived.Laws.BitsLemmas
import Derived.RowKit
import Derived.Test.YtnfoibgafmeenaaDoorExtGet
import Derived.Test.YtnfoibgafmeenaaDoorWWords
import Derived.Test.YtnfoibgafmeenaaDoorWLast
import Derived.Test.YtnfoibgafmeenaaDoorWTab
import Derived.Test.YtnfoibgafmeenaaDoorWFour
import Derived.Test.YtnfoibgafmeenaaDoorWQPut
import Derived.Test.YtnfoibgafmeenaaDoorWApart
import Derived.Test.YtnfoibgafmeenaaDoorWArr
import Derived.Test.YtnfoibgafmeenaaDoorWZeros
import Derived.Test.YtnfoibgafmeenaaDoorWFoot
import Derived.Test.YtnfoibgafmeenaaDoorWKept
import Derived.Test.YtnfoibgafmeenaaDoorWShare
import Derived.Test.YtnfoibgafmeenaaDoorWN
import Derived.Test.YtnfoibgafmeenaaDoorWFootNe
import Derived.Test.YtnfoibgafmeenaaDoorWAt
import Derived.Test.YtnfoibgafmeenaaDoorWEqStruct
import Derived.Test.YtnfoibgafmeenaaDoorWRepsOne
import Derived.Test.YtnfoibgafmeenaaDoorWInv
import Derived.Test.YtnfoibgafmeenaaDoorWInvWords
import Derived.Test.YtnfoibgafmeenaaDoorWGuard
import Derived.Test.YtnfoibgafmeenaaDoorWNEv
import Derived.Test.YtnfoibgafmeenaaDoorWMore
namespace Go.Proofs.YtnfoibgafmeenaaDoor.PWordsBack
open Go.RowKit Go.Proofs.YtnfoibgafmeenaaDoorW.PrintWords Go.Proofs.YtnfoibgafmeenaaDoorW.PrintLast Go.Proofs.YtnfoibgafmeenaaDoorW.PrintMore
attribute [local go_sem] max2_int min2_int max_two min_two max_three min_three max_four min_four   -- for this text's walks alone
set_option linter.unusedVariables false
set_option linter.unusedSimpArgs false



def errW : Option Int → Value
  | none => .nilIface
  | some c => .iface 0 (.int .i64 c)
theorem errW_none : errW none = .nilIface := rfl
theorem errW_some (c : Int) : errW (some c) = .iface 0 (.int .i64 c) := rfl

theorem info9 : (Tryd.prog.info? 9).map (fun i => (i.zero, i.size, i.bytes)) = some (some (.string ⟨#[]⟩), 1, 16) := by kernel_rfl
-- the values' own types

end Go.Proofs.YtnfoibgafmeenaaDoor.PWordsBack
