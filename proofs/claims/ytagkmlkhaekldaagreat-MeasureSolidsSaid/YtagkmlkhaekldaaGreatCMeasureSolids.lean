/- What the row of the law MeasureSolids says of the program itself holds. -/
import Derived.Test.YtagkmlkhaekldaaGreatRows
import Derived.JoinedOf
namespace Go.Proofs.YtagkmlkhaekldaaGreat
set_option maxRecDepth 100000
theorem row_closed : Go.joinedFacts Tryz.pinned.checked.prog 7 Tryz.f7 Rows.measureSolidsSpec Rows.measureSolidsRow = true := by kernel_rfl
end Go.Proofs.YtagkmlkhaekldaaGreat
