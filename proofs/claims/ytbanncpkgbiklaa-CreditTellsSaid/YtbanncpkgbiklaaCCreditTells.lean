/- What the row of the law CreditTells says of the program itself holds. -/
import Derived.Test.YtbanncpkgbiklaaRows
import Derived.JoinedOf
namespace Go.Proofs.Ytbanncpkgbiklaa
set_option maxRecDepth 100000
theorem row_closed : Go.joinedFacts Try.pinned.checked.prog 6 Try.f6 Rows.creditTellsSpec Rows.creditTellsRow = true := by kernel_rfl
end Go.Proofs.Ytbanncpkgbiklaa
