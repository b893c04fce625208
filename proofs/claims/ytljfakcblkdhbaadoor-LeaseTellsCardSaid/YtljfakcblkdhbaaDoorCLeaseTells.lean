/- What the row of the law LeaseTells says of the program itself holds. -/
import Derived.Test.YtljfakcblkdhbaaDoorRows
import Derived.JoinedOf
namespace Go.Proofs.YtljfakcblkdhbaaDoor
set_option maxRecDepth 100000
theorem row_closed : Go.joinedFacts Tryd.pinned.checked.prog 6 Tryd.f6 Rows.leaseTellsSpec Rows.leaseTellsRow = true := by kernel_rfl
end Go.Proofs.YtljfakcblkdhbaaDoor
