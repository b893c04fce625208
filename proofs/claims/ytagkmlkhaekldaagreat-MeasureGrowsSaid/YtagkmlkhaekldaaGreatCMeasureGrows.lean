/- What the row of the law MeasureGrows says of the program itself holds. -/
import Derived.Test.YtagkmlkhaekldaaGreatRows
import Derived.JoinedOf
namespace Go.Proofs.YtagkmlkhaekldaaGreat
set_option maxRecDepth 100000
theorem row_closed : Go.joinedFacts Tryz.pinned.checked.prog 4 Tryz.f4 Rows.measureGrowsSpec Rows.measureGrowsRow = true := by kernel_rfl
end Go.Proofs.YtagkmlkhaekldaaGreat
