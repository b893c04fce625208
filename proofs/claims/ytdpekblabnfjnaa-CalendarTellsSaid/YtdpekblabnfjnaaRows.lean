/-
  No cell of these rows narrows 'for every input' (looked for: loops, veiled, ifaces, maps, wideKeys, modest, calm, conditions, laid).
  DERIVED. THE GIVEN ROWS OF THIS SEAT. 5 by the template 'for every input the law returns true; each argument reads behind the call as it read before'; 0 by the template 'total and deterministic' (their statements: YtdpekblabnfjnaaTotals.lean).
  GIVEN WITH THE SEED: the statements are not yours to turn. If you find one false, say at which input.
  Laid BY PROGRAM, IN A SANDBOX (cutbox-rows.mjs): the forced cells as the released guide's own fill.sh prints them over the translation 25e3896234f260f1… (all of the seat's roots in one cut). By AI agents, Wed Nov 11 2026. No macro, syntax, notation, axiom, sorry.
-/
import Derived.Test.YtdpekblabnfjnaaChecked
import GoSem.Claim
import GoSem.ClaimJoined
import GoSem.ClaimMapViews
import Derived.JoinedTies
import Derived.KernelRfl
namespace Go.Proofs.Ytdpekblabnfjnaa
/- THE CELL 'sum', in the pinned program and in every row, IS THE sha256 OF THE DUMP (.gsa) THAT YtdpekblabnfjnaaProg.lean LOADS. Nothing in Lean hashes anything: it is a label: what it is worth is what the hold of that sum in a sandbox is worth. -/
noncomputable def Try.pinned : Pinned := { name := "ytdpekblabnfjnaa", sum := "25e3896234f260f1c9c3228f33a559ab81c079ff2a960becbcdd3598c4a25522", checked := Try.checked }
namespace Rows
def none {H : Type} : Left H := { results := [], args := [] }

/-- 'greenbeltlaw29.CalendarTells': WHATEVER THE INPUT: true; the input reads as it did. -/
def calendarTellsSpec : ChangeSpec := { name := "calendarTells", fn := fun _ => fun
  | [d1, d2, d3, d4, d5] => { results := [.lit (.bool true)], args := [d1, d2, d3, d4, d5] }
  | _ => none }
def calendarTellsRow : OpenClaim := { program := "ytdpekblabnfjnaa", sum := "25e3896234f260f1c9c3228f33a559ab81c079ff2a960becbcdd3598c4a25522", func := "greenbelt/greenbeltlaw29.CalendarTells", spec := "calendarTells", unfollowed := true, recurses := true, apart := false }
def CalendarTellsSaid : Prop := calendarTellsRow.holds Try.pinned (OpenSpec.ofChange calendarTellsSpec)

/-- ITS FALSE NEIGHBOUR: 'it returns false'. Refute it at one input. -/
def calendarTellsWrong : ChangeSpec := { name := "calendarTells", fn := fun _ => fun
  | [d1, d2, d3, d4, d5] => { results := [.lit (.bool false)], args := [d1, d2, d3, d4, d5] }
  | _ => none }
def CalendarTellsWrongFalsely : Prop := calendarTellsRow.holds Try.pinned (OpenSpec.ofChange calendarTellsWrong)

/-- 'greenbeltlaw29.CalendarDays': WHATEVER THE INPUT: true; the input reads as it did. -/
def calendarDaysSpec : ChangeSpec := { name := "calendarDays", fn := fun _ => fun
  | [d1, d2, d3, d4] => { results := [.lit (.bool true)], args := [d1, d2, d3, d4] }
  | _ => none }
def calendarDaysRow : OpenClaim := { program := "ytdpekblabnfjnaa", sum := "25e3896234f260f1c9c3228f33a559ab81c079ff2a960becbcdd3598c4a25522", func := "greenbelt/greenbeltlaw29.CalendarDays", spec := "calendarDays", unfollowed := true, recurses := true, apart := false }
def CalendarDaysSaid : Prop := calendarDaysRow.holds Try.pinned (OpenSpec.ofChange calendarDaysSpec)

/-- ITS FALSE NEIGHBOUR: 'it returns false'. Refute it at one input. -/
def calendarDaysWrong : ChangeSpec := { name := "calendarDays", fn := fun _ => fun
  | [d1, d2, d3, d4] => { results := [.lit (.bool false)], args := [d1, d2, d3, d4] }
  | _ => none }
def CalendarDaysWrongFalsely : Prop := calendarDaysRow.holds Try.pinned (OpenSpec.ofChange calendarDaysWrong)

/-- 'greenbeltlaw29.CalendarDeadline': WHATEVER THE INPUT: true; the input reads as it did. -/
def calendarDeadlineSpec : ChangeSpec := { name := "calendarDeadline", fn := fun _ => fun
  | [d1, d2, d3, d4, d5] => { results := [.lit (.bool true)], args := [d1, d2, d3, d4, d5] }
  | _ => none }
def calendarDeadlineRow : OpenClaim := { program := "ytdpekblabnfjnaa", sum := "25e3896234f260f1c9c3228f33a559ab81c079ff2a960becbcdd3598c4a25522", func := "greenbelt/greenbeltlaw29.CalendarDeadline", spec := "calendarDeadline", unfollowed := true, recurses := true, apart := false }
def CalendarDeadlineSaid : Prop := calendarDeadlineRow.holds Try.pinned (OpenSpec.ofChange calendarDeadlineSpec)

/-- ITS FALSE NEIGHBOUR: 'it returns false'. Refute it at one input. -/
def calendarDeadlineWrong : ChangeSpec := { name := "calendarDeadline", fn := fun _ => fun
  | [d1, d2, d3, d4, d5] => { results := [.lit (.bool false)], args := [d1, d2, d3, d4, d5] }
  | _ => none }
def CalendarDeadlineWrongFalsely : Prop := calendarDeadlineRow.holds Try.pinned (OpenSpec.ofChange calendarDeadlineWrong)

/-- 'greenbeltlaw29.CalendarStays': WHATEVER THE INPUT: true; the input reads as it did. -/
def calendarStaysSpec : ChangeSpec := { name := "calendarStays", fn := fun _ => fun
  | [d1, d2, d3, d4, d5, d6] => { results := [.lit (.bool true)], args := [d1, d2, d3, d4, d5, d6] }
  | _ => none }
def calendarStaysRow : OpenClaim := { program := "ytdpekblabnfjnaa", sum := "25e3896234f260f1c9c3228f33a559ab81c079ff2a960becbcdd3598c4a25522", func := "greenbelt/greenbeltlaw29.CalendarStays", spec := "calendarStays", unfollowed := true, recurses := true, apart := false }
def CalendarStaysSaid : Prop := calendarStaysRow.holds Try.pinned (OpenSpec.ofChange calendarStaysSpec)

/-- ITS FALSE NEIGHBOUR: 'it returns false'. Refute it at one input. -/
def calendarStaysWrong : ChangeSpec := { name := "calendarStays", fn := fun _ => fun
  | [d1, d2, d3, d4, d5, d6] => { results := [.lit (.bool false)], args := [d1, d2, d3, d4, d5, d6] }
  | _ => none }
def CalendarStaysWrongFalsely : Prop := calendarStaysRow.holds Try.pinned (OpenSpec.ofChange calendarStaysWrong)

/-- 'greenbeltlaw29.CalendarWeeks': WHATEVER THE INPUT: true; the input reads as it did. -/
def calendarWeeksSpec : ChangeSpec := { name := "calendarWeeks", fn := fun _ => fun
  | [d1, d2, d3] => { results := [.lit (.bool true)], args := [d1, d2, d3] }
  | _ => none }
def calendarWeeksRow : OpenClaim := { program := "ytdpekblabnfjnaa", sum := "25e3896234f260f1c9c3228f33a559ab81c079ff2a960becbcdd3598c4a25522", func := "greenbelt/greenbeltlaw29.CalendarWeeks", spec := "calendarWeeks", unfollowed := true, recurses := true, apart := false }
def CalendarWeeksSaid : Prop := calendarWeeksRow.holds Try.pinned (OpenSpec.ofChange calendarWeeksSpec)

/-- ITS FALSE NEIGHBOUR: 'it returns false'. Refute it at one input. -/
def calendarWeeksWrong : ChangeSpec := { name := "calendarWeeks", fn := fun _ => fun
  | [d1, d2, d3] => { results := [.lit (.bool false)], args := [d1, d2, d3] }
  | _ => none }
def CalendarWeeksWrongFalsely : Prop := calendarWeeksRow.holds Try.pinned (OpenSpec.ofChange calendarWeeksWrong)

/- THE SECOND FORM. 'bulk': how many values and letters a reading holds, each counted each time it is reached (what is shared counts as often as it is met; a slice's spare places count too). A statement '..UptoSaid' is the law's where the arguments, and the package variables that the reading takes, are together of bulk at most 1048576: NARROWER than '..Said'. Prove '..Said' where nothing that the law and all that it calls make is longer than what came in: it says more and counts as full. Else prove '..UptoSaid'. A law counts once. -/
mutual
def uptoBulk {H : Type} : DataW H → Nat
  | .lit (.string bytes) => bytes.length + 1
  | .lit _ => 1
  | .nil => 1
  | .ptr d => uptoBulk d + 1
  | .slice elems spare => uptoBulkAll elems + uptoBulkAll spare + 1
  | .agg parts => uptoBulkAll parts + 1
  | .iface _ d => uptoBulk d + 1
  | .map entries => uptoBulkEntries entries + 1
  | .held _ => 1
def uptoBulkAll {H : Type} : List (DataW H) → Nat
  | [] => 0
  | d :: r => uptoBulk d + uptoBulkAll r
def uptoBulkEntries {H : Type} : List (Lit × DataW H) → Nat
  | [] => 0
  | x :: r => uptoBulkEntry x + uptoBulkEntries r
def uptoBulkEntry {H : Type} : Lit × DataW H → Nat
  | (.string bytes, d) => bytes.length + uptoBulk d + 1
  | (_, d) => uptoBulk d + 1
 end
def uptoSmall : (H : Type) → List (DataW H) → Bool := fun _ ds => decide (uptoBulkAll ds ≤ 1048576)
def OpenSpec.upto (s : _root_.Go.ChangeSpec) : _root_.Go.OpenSpec := { _root_.Go.OpenSpec.ofChange s with cond := some uptoSmall }

/-- 'greenbeltlaw29.CalendarTells', WHERE WHAT IT READS IS OF BULK AT MOST 1048576: true; the input reads as it did. -/
def calendarTellsUptoRow : OpenClaim := { program := "ytdpekblabnfjnaa", sum := "25e3896234f260f1c9c3228f33a559ab81c079ff2a960becbcdd3598c4a25522", func := "greenbelt/greenbeltlaw29.CalendarTells", spec := "calendarTells", unfollowed := true, recurses := true, apart := false, narrowed := true }
def CalendarTellsUptoSaid : Prop := calendarTellsUptoRow.holds Try.pinned (OpenSpec.upto calendarTellsSpec)

/-- 'greenbeltlaw29.CalendarDays', WHERE WHAT IT READS IS OF BULK AT MOST 1048576: true; the input reads as it did. -/
def calendarDaysUptoRow : OpenClaim := { program := "ytdpekblabnfjnaa", sum := "25e3896234f260f1c9c3228f33a559ab81c079ff2a960becbcdd3598c4a25522", func := "greenbelt/greenbeltlaw29.CalendarDays", spec := "calendarDays", unfollowed := true, recurses := true, apart := false, narrowed := true }
def CalendarDaysUptoSaid : Prop := calendarDaysUptoRow.holds Try.pinned (OpenSpec.upto calendarDaysSpec)

/-- 'greenbeltlaw29.CalendarDeadline', WHERE WHAT IT READS IS OF BULK AT MOST 1048576: true; the input reads as it did. -/
def calendarDeadlineUptoRow : OpenClaim := { program := "ytdpekblabnfjnaa", sum := "25e3896234f260f1c9c3228f33a559ab81c079ff2a960becbcdd3598c4a25522", func := "greenbelt/greenbeltlaw29.CalendarDeadline", spec := "calendarDeadline", unfollowed := true, recurses := true, apart := false, narrowed := true }
def CalendarDeadlineUptoSaid : Prop := calendarDeadlineUptoRow.holds Try.pinned (OpenSpec.upto calendarDeadlineSpec)

/-- 'greenbeltlaw29.CalendarStays', WHERE WHAT IT READS IS OF BULK AT MOST 1048576: true; the input reads as it did. -/
def calendarStaysUptoRow : OpenClaim := { program := "ytdpekblabnfjnaa", sum := "25e3896234f260f1c9c3228f33a559ab81c079ff2a960becbcdd3598c4a25522", func := "greenbelt/greenbeltlaw29.CalendarStays", spec := "calendarStays", unfollowed := true, recurses := true, apart := false, narrowed := true }
def CalendarStaysUptoSaid : Prop := calendarStaysUptoRow.holds Try.pinned (OpenSpec.upto calendarStaysSpec)

/-- 'greenbeltlaw29.CalendarWeeks', WHERE WHAT IT READS IS OF BULK AT MOST 1048576: true; the input reads as it did. -/
def calendarWeeksUptoRow : OpenClaim := { program := "ytdpekblabnfjnaa", sum := "25e3896234f260f1c9c3228f33a559ab81c079ff2a960becbcdd3598c4a25522", func := "greenbelt/greenbeltlaw29.CalendarWeeks", spec := "calendarWeeks", unfollowed := true, recurses := true, apart := false, narrowed := true }
def CalendarWeeksUptoSaid : Prop := calendarWeeksUptoRow.holds Try.pinned (OpenSpec.upto calendarWeeksSpec)

end Rows
end Go.Proofs.Ytdpekblabnfjnaa
