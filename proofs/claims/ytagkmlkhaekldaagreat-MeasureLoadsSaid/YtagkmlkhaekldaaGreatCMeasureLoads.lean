/- What the row of the law MeasureLoads says of the program itself holds. -/
import Derived.Test.YtagkmlkhaekldaaGreatRows
import Derived.JoinedOf
namespace Go.Proofs.YtagkmlkhaekldaaGreat
set_option maxRecDepth 100000
theorem row_closed : Go.joinedFacts Tryz.pinned.checked.prog 6 Tryz.f6 Rows.measureLoadsSpec Rows.measureLoadsRow = true := by kernel_rfl
end Go.Proofs.YtagkmlkhaekldaaGreat
