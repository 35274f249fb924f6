/- The names of the library's variables, as the given rows have them. No condition. -/
import Derived.Test.YthkbomclongjgaaDoorRows
namespace Go.Proofs.YthkbomclongjgaaDoor.Names
def pow10 : String := (Rows.decBackRow.laid.map Prod.fst).getD 2 ""
def spaces : String := (Rows.stepOneRow.laid.map Prod.fst).getD 4 ""
def errRange : String := (Rows.decBackRow.laid.map Prod.fst).getD 3 ""
def errSyntax : String := (Rows.decBackRow.laid.map Prod.fst).getD 4 ""
def errType : String := match (Rows.laid_strconv_ErrRange : DataW Unit) with
  | .iface n _ => n
  | _ => ""
end Go.Proofs.YthkbomclongjgaaDoor.Names
