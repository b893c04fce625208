/- What the row of the law CounterUses says of the program itself holds. -/
import Derived.Test.YtlckpjpbladknaaGreatRows
import Derived.JoinedOf
namespace Go.Proofs.YtlckpjpbladknaaGreat
set_option maxRecDepth 100000
theorem rc1 : (Rows.counterUsesRow.inPlace == Tryz.pinned.checked.prog.inPlace 5) = true := by kernel_rfl
theorem rc2 : (Rows.counterUsesRow.unfollowed == Tryz.pinned.checked.prog.unfollowed 5) = true := by kernel_rfl
theorem rc3 : (Rows.counterUsesRow.recurses == Tryz.pinned.checked.prog.recurses 5) = true := by kernel_rfl
theorem rc4 : (Rows.counterUsesRow.named == Tryz.pinned.checked.prog.varsNamed 5) = true := by kernel_rfl
theorem rc5 : laidOutB Tryz.pinned.checked.prog = true := by kernel_rfl
theorem rc6 : mapsRowed Tryz.pinned.checked.prog = true := by kernel_rfl
theorem rc7 : Tryz.pinned.checked.prog.mayEnter = true := by kernel_rfl
theorem row_closed : Go.joinedFacts Tryz.pinned.checked.prog 5 Tryz.f5 Rows.counterUsesSpec Rows.counterUsesRow = true := by
  unfold Go.joinedFacts
  rw [rc1, rc2, rc3, rc4, rc5, rc6, rc7]
  kernel_rfl
end Go.Proofs.YtlckpjpbladknaaGreat
