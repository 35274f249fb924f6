/- The name of the library's table of blanks, as the given rows have it. No condition. -/
import Derived.Test.YtnfoibgafmeenaaDoorRows
namespace Go.Proofs.YtnfoibgafmeenaaDoor.Names
def spaces : String := (Rows.wordsTellRow.laid.map Prod.fst).getD 1 ""
end Go.Proofs.YtnfoibgafmeenaaDoor.Names
