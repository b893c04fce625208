/- What the row of the law CounterErrors says of the program itself holds. -/
import Derived.Test.YtlckpjpbladknaaGreatRows
import Derived.JoinedOf
namespace Go.Proofs.YtlckpjpbladknaaGreat
set_option maxRecDepth 100000
theorem rc1 : (Rows.counterErrorsRow.inPlace == Tryz.pinned.checked.prog.inPlace 3) = true := by kernel_rfl
theorem rc2 : (Rows.counterErrorsRow.unfollowed == Tryz.pinned.checked.prog.unfollowed 3) = true := by kernel_rfl
theorem rc3 : (Rows.counterErrorsRow.recurses == Tryz.pinned.checked.prog.recurses 3) = true := by kernel_rfl
theorem rc4 : (Rows.counterErrorsRow.named == Tryz.pinned.checked.prog.varsNamed 3) = true := by kernel_rfl
theorem rc5 : laidOutB Tryz.pinned.checked.prog = true := by kernel_rfl
theorem rc6 : mapsRowed Tryz.pinned.checked.prog = true := by kernel_rfl
theorem rc7 : Tryz.pinned.checked.prog.mayEnter = true := by kernel_rfl
theorem row_closed : Go.joinedFacts Tryz.pinned.checked.prog 3 Tryz.f3 Rows.counterErrorsSpec Rows.counterErrorsRow = true := by
  unfold Go.joinedFacts
  rw [rc1, rc2, rc3, rc4, rc5, rc6, rc7]
  kernel_rfl
end Go.Proofs.YtlckpjpbladknaaGreat
