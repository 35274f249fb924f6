-- written by xprint.py (a program of this session's, over the kit's printer)
import Derived.Test.YthkbomclongjgaaDoorProg
import Derived.Below
import Derived.Deep.Draws
import Derived.Deep.AppendLies
import Derived.Maps.AppendAt
import Derived.OwnWalk
import Derived.Laws.BytesArg
import Derived.Laws.MakeOwn
import Derived.Laws.OwnMore
import Derived.Deep.OwnRows
import Derived.Tactics
import Derived.Lib.ConvBytes
import Derived.Laws.Slices
import Derived.WalkKit
import Derived.KernelRfl
import Derived.RowKit3
import Derived.Deep.LoopGhost
import Derived.Deep.QuietTactic
import Derived.BigQuiet
import Derived.WideLaws
import Derived.Deep.DeepCutAuto
import Derived.Deep.CutBlock
import Derived.Deep.RegionHeld3
import Derived.Laws.Rows
import Derived.Lib.AppendStr
import Derived.ArgAppend
import Derived.Laws.IdiomCopy
import Derived.OrdersHeld
import Derived.Laws.BitsLemmas
import Derived.RowKit
import Derived.Test.YthkbomclongjgaaDoorExtStep
import Derived.Test.YthkbomclongjgaaDoorWWords
import Derived.Test.YthkbomclongjgaaDoorWLast
import Derived.Test.YthkbomclongjgaaDoorWTab
import Derived.Test.YthkbomclongjgaaDoorWFour
import Derived.Test.YthkbomclongjgaaDoorWQPut
import Derived.Test.YthkbomclongjgaaDoorWApart
import Derived.Test.YthkbomclongjgaaDoorWArr
import Derived.Test.YthkbomclongjgaaDoorWZeros
import Derived.Test.YthkbomclongjgaaDoorWFoot
import Derived.Test.YthkbomclongjgaaDoorWKept
import Derived.Test.YthkbomclongjgaaDoorWShare
import Derived.Test.YthkbomclongjgaaDoorWN
import Derived.Test.YthkbomclongjgaaDoorWFootNe
import Derived.Test.YthkbomclongjgaaDoorWAt
import Derived.Test.YthkbomclongjgaaDoorWEqStruct
import Derived.Test.YthkbomclongjgaaDoorWRepsOne
import Derived.Test.YthkbomclongjgaaDoorWInv
import Derived.Test.YthkbomclongjgaaDoorWInvWords
import Derived.Test.YthkbomclongjgaaDoorWGuard
import Derived.Test.YthkbomclongjgaaDoorWNEv
import Derived.Test.YthkbomclongjgaaDoorWMore
namespace Go.Proofs.YthkbomclongjgaaDoor.PPutItem
open Go.RowKit Go.Proofs.YthkbomclongjgaaDoorW.PrintWords Go.Proofs.YthkbomclongjgaaDoorW.PrintLast Go.Proofs.YthkbomclongjgaaDoorW.PrintMore
attribute [local go_sem] max2_int min2_int max_two min_two max_three min_three max_four min_four   -- for this text's walks alone
set_option linter.unusedVariables false
set_option linter.unusedSimpArgs false



def errW : Option Int → Value
  | none => .nilIface
  | some c => .iface 0 (.int .i64 c)
theorem errW_none : errW none = .nilIface := rfl
theorem errW_some (c : Int) : errW (some c) = .iface 0 (.int .i64 c) := rfl

-- the values' own types

end Go.Proofs.YthkbomclongjgaaDoor.PPutItem
