/- Numbers that are not turned by their kind. No condition. -/
import Derived.Test.YtdijdlkljeibjaaDoorTab
namespace Go.Proofs.YtdijdlkljeibjaaDoor.AM
open Go Go.RowKit
theorem wrap_eq {x : Int} (h1 : -9223372036854775808 ≤ x) (h2 : x ≤ 9223372036854775807) : IntKind.i64.wrap x = x := by
  unfold IntKind.wrap
  simp [IntKind.bits, IntKind.signed]
  omega
end Go.Proofs.YtdijdlkljeibjaaDoor.AM
