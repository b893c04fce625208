/- What the row of the law LeaseSettles says of the program itself holds. -/
import Derived.Test.YtljfakcblkdhbaaDoorRows
import Derived.JoinedOf
namespace Go.Proofs.YtljfakcblkdhbaaDoor
set_option maxRecDepth 100000
theorem row_closed : Go.joinedFacts Tryd.pinned.checked.prog 4 Tryd.f4 Rows.leaseSettlesSpec Rows.leaseSettlesRow = true := by kernel_rfl
end Go.Proofs.YtljfakcblkdhbaaDoor
