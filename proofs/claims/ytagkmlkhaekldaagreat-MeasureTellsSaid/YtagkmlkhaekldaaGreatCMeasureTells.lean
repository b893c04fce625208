/- What the row of the law MeasureTells says of the program itself holds. -/
import Derived.Test.YtagkmlkhaekldaaGreatRows
import Derived.JoinedOf
namespace Go.Proofs.YtagkmlkhaekldaaGreat
set_option maxRecDepth 100000
theorem row_closed : Go.joinedFacts Tryz.pinned.checked.prog 3 Tryz.f3 Rows.measureTellsSpec Rows.measureTellsRow = true := by kernel_rfl
end Go.Proofs.YtagkmlkhaekldaaGreat
