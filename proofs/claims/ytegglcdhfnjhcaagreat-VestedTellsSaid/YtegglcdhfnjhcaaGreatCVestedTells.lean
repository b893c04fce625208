/- What the row of the law VestedTells says of the program itself holds. -/
import Derived.Test.YtegglcdhfnjhcaaGreatRows
import Derived.JoinedOf
set_option linter.unusedVariables false
set_option linter.unusedSimpArgs false
set_option linter.unusedSectionVars false
namespace Go.Proofs.YtegglcdhfnjhcaaGreat
set_option maxRecDepth 100000
theorem Cd : Go.joinedFacts Tryz.pinned.checked.prog 3 Tryz.f3 Rows.vestedTellsSpec Rows.vestedTellsRow = true := by kernel_rfl
end Go.Proofs.YtegglcdhfnjhcaaGreat
