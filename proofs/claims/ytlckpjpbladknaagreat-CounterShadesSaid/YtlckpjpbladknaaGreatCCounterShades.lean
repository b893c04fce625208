/- What the row of the law CounterShades says of the program itself holds. -/
import Derived.Test.YtlckpjpbladknaaGreatRows
import Derived.JoinedOf
namespace Go.Proofs.YtlckpjpbladknaaGreat
set_option maxRecDepth 100000
theorem row_closed : Go.joinedFacts Tryz.pinned.checked.prog 4 Tryz.f4 Rows.counterShadesSpec Rows.counterShadesRow = true := by kernel_rfl
end Go.Proofs.YtlckpjpbladknaaGreat
