/- What the row of the law MeasureMoves says of the program itself holds. -/
import Derived.Test.YtagkmlkhaekldaaGreatRows
import Derived.JoinedOf
namespace Go.Proofs.YtagkmlkhaekldaaGreat
set_option maxRecDepth 100000
theorem row_closed : Go.joinedFacts Tryz.pinned.checked.prog 5 Tryz.f5 (Rows.OpenSpec.upto Rows.measureMovesSpec).bare Rows.measureMovesUptoRow = true := by kernel_rfl
end Go.Proofs.YtagkmlkhaekldaaGreat
