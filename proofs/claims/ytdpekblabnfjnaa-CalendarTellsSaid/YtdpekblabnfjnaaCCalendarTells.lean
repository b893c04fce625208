/- What the row of the law CalendarTells says of the program itself holds. -/
import Derived.Test.YtdpekblabnfjnaaRows
import Derived.JoinedOf
namespace Go.Proofs.Ytdpekblabnfjnaa
set_option maxRecDepth 100000
theorem row_closed : Go.joinedFacts Try.pinned.checked.prog 3 Try.f3 Rows.calendarTellsSpec Rows.calendarTellsRow = true := by kernel_rfl
end Go.Proofs.Ytdpekblabnfjnaa
