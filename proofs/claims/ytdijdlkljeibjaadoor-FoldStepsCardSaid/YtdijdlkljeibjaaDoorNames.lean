/- The names of the library's variables, as the given rows have them. No condition. -/
import Derived.Test.YtdijdlkljeibjaaDoorRows
namespace Go.Proofs.YtdijdlkljeibjaaDoor.Names
def pow10 : String := (Rows.foldStepsRow.laid.map Prod.fst).getD 2 ""
def spaces : String := (Rows.foldStepsRow.laid.map Prod.fst).getD 4 ""
end Go.Proofs.YtdijdlkljeibjaaDoor.Names
