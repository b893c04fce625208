/-
  NARROWER THAN 'FOR EVERY INPUT', by the rows' own cells (each row's printed sentence says how): VestedTells: loops · VestedReaches: loops · VestedUses: loops · VestedLapses: loops · VestedGrants: loops · VestedPeaks: loops · VestedDarkens: loops.
  DERIVED. THE GIVEN ROWS OF THIS SEAT. 7 by the template 'for every input the law returns true; each argument reads behind the call as it read before'; 0 by the template 'total and deterministic' (their statements: YtegglcdhfnjhcaaGreatTotals.lean).
  GIVEN WITH THE SEED: the statements are not yours to turn. If you find one false, say at which input.
  Laid BY PROGRAM, IN A SANDBOX (cutbox-rows.mjs): the forced cells as the released guide's own fill.sh prints them over the translation 5a4091b9787e6173… (all of the seat's roots in one cut). By AI agents, Wed Nov 11 2026. No macro, syntax, notation, axiom, sorry.
-/
import Derived.Test.YtegglcdhfnjhcaaGreatChecked
import GoSem.Claim
import GoSem.ClaimJoined
import GoSem.ClaimMapViews
import Derived.JoinedTies
import Derived.KernelRfl
namespace Go.Proofs.YtegglcdhfnjhcaaGreat
/- THE CELL 'sum', in the pinned program and in every row, IS THE sha256 OF THE DUMP (.gsa) THAT YtegglcdhfnjhcaaGreatProg.lean LOADS. Nothing in Lean hashes anything: it is a label: what it is worth is what the hold of that sum in a sandbox is worth. -/
noncomputable def Tryz.pinned : Pinned := { name := "ytegglcdhfnjhcaagreat", sum := "5a4091b9787e6173d49bf531380546c6df2739362ef10bd6ab2fc9cae31547f6", checked := Tryz.checked }
namespace Rows
def none {H : Type} : Left H := { results := [], args := [] }

/-- 'greenbeltlaw33.VestedTells': WHATEVER THE INPUT: true; the input reads as it did. -/
def vestedTellsSpec : ChangeSpec := { name := "vestedTells", fn := fun _ => fun
  | [d1, d2, d3, d4, d5] => { results := [.lit (.bool true)], args := [d1, d2, d3, d4, d5] }
  | _ => none }
def vestedTellsRow : OpenClaim := { program := "ytegglcdhfnjhcaagreat", sum := "5a4091b9787e6173d49bf531380546c6df2739362ef10bd6ab2fc9cae31547f6", func := "greenbelt/greenbeltlaw33.VestedTells", spec := "vestedTells", unfollowed := true, recurses := true, loops := true, apart := false }
def VestedTellsSaid : Prop := vestedTellsRow.holds Tryz.pinned (OpenSpec.ofChange vestedTellsSpec)

/-- ITS FALSE NEIGHBOUR: 'it returns false'. Refute it at one input. -/
def vestedTellsWrong : ChangeSpec := { name := "vestedTells", fn := fun _ => fun
  | [d1, d2, d3, d4, d5] => { results := [.lit (.bool false)], args := [d1, d2, d3, d4, d5] }
  | _ => none }
def VestedTellsWrongFalsely : Prop := vestedTellsRow.holds Tryz.pinned (OpenSpec.ofChange vestedTellsWrong)

/-- 'greenbeltlaw33.VestedReaches': WHATEVER THE INPUT: true; the input reads as it did. -/
def vestedReachesSpec : ChangeSpec := { name := "vestedReaches", fn := fun _ => fun
  | [d1, d2] => { results := [.lit (.bool true)], args := [d1, d2] }
  | _ => none }
def vestedReachesRow : OpenClaim := { program := "ytegglcdhfnjhcaagreat", sum := "5a4091b9787e6173d49bf531380546c6df2739362ef10bd6ab2fc9cae31547f6", func := "greenbelt/greenbeltlaw33.VestedReaches", spec := "vestedReaches", unfollowed := true, recurses := true, loops := true, apart := false }
def VestedReachesSaid : Prop := vestedReachesRow.holds Tryz.pinned (OpenSpec.ofChange vestedReachesSpec)

/-- ITS FALSE NEIGHBOUR: 'it returns false'. Refute it at one input. -/
def vestedReachesWrong : ChangeSpec := { name := "vestedReaches", fn := fun _ => fun
  | [d1, d2] => { results := [.lit (.bool false)], args := [d1, d2] }
  | _ => none }
def VestedReachesWrongFalsely : Prop := vestedReachesRow.holds Tryz.pinned (OpenSpec.ofChange vestedReachesWrong)

/-- 'greenbeltlaw33.VestedUses': WHATEVER THE INPUT: true; the input reads as it did. -/
def vestedUsesSpec : ChangeSpec := { name := "vestedUses", fn := fun _ => fun
  | [d1, d2, d3] => { results := [.lit (.bool true)], args := [d1, d2, d3] }
  | _ => none }
def vestedUsesRow : OpenClaim := { program := "ytegglcdhfnjhcaagreat", sum := "5a4091b9787e6173d49bf531380546c6df2739362ef10bd6ab2fc9cae31547f6", func := "greenbelt/greenbeltlaw33.VestedUses", spec := "vestedUses", unfollowed := true, recurses := true, loops := true, apart := false }
def VestedUsesSaid : Prop := vestedUsesRow.holds Tryz.pinned (OpenSpec.ofChange vestedUsesSpec)

/-- ITS FALSE NEIGHBOUR: 'it returns false'. Refute it at one input. -/
def vestedUsesWrong : ChangeSpec := { name := "vestedUses", fn := fun _ => fun
  | [d1, d2, d3] => { results := [.lit (.bool false)], args := [d1, d2, d3] }
  | _ => none }
def VestedUsesWrongFalsely : Prop := vestedUsesRow.holds Tryz.pinned (OpenSpec.ofChange vestedUsesWrong)

/-- 'greenbeltlaw33.VestedLapses': WHATEVER THE INPUT: true; the input reads as it did. -/
def vestedLapsesSpec : ChangeSpec := { name := "vestedLapses", fn := fun _ => fun
  | [d1, d2, d3, d4] => { results := [.lit (.bool true)], args := [d1, d2, d3, d4] }
  | _ => none }
def vestedLapsesRow : OpenClaim := { program := "ytegglcdhfnjhcaagreat", sum := "5a4091b9787e6173d49bf531380546c6df2739362ef10bd6ab2fc9cae31547f6", func := "greenbelt/greenbeltlaw33.VestedLapses", spec := "vestedLapses", unfollowed := true, recurses := true, loops := true, apart := false }
def VestedLapsesSaid : Prop := vestedLapsesRow.holds Tryz.pinned (OpenSpec.ofChange vestedLapsesSpec)

/-- ITS FALSE NEIGHBOUR: 'it returns false'. Refute it at one input. -/
def vestedLapsesWrong : ChangeSpec := { name := "vestedLapses", fn := fun _ => fun
  | [d1, d2, d3, d4] => { results := [.lit (.bool false)], args := [d1, d2, d3, d4] }
  | _ => none }
def VestedLapsesWrongFalsely : Prop := vestedLapsesRow.holds Tryz.pinned (OpenSpec.ofChange vestedLapsesWrong)

/-- 'greenbeltlaw33.VestedGrants': WHATEVER THE INPUT: true; the input reads as it did. -/
def vestedGrantsSpec : ChangeSpec := { name := "vestedGrants", fn := fun _ => fun
  | [d1, d2, d3] => { results := [.lit (.bool true)], args := [d1, d2, d3] }
  | _ => none }
def vestedGrantsRow : OpenClaim := { program := "ytegglcdhfnjhcaagreat", sum := "5a4091b9787e6173d49bf531380546c6df2739362ef10bd6ab2fc9cae31547f6", func := "greenbelt/greenbeltlaw33.VestedGrants", spec := "vestedGrants", unfollowed := true, recurses := true, loops := true, apart := false }
def VestedGrantsSaid : Prop := vestedGrantsRow.holds Tryz.pinned (OpenSpec.ofChange vestedGrantsSpec)

/-- ITS FALSE NEIGHBOUR: 'it returns false'. Refute it at one input. -/
def vestedGrantsWrong : ChangeSpec := { name := "vestedGrants", fn := fun _ => fun
  | [d1, d2, d3] => { results := [.lit (.bool false)], args := [d1, d2, d3] }
  | _ => none }
def VestedGrantsWrongFalsely : Prop := vestedGrantsRow.holds Tryz.pinned (OpenSpec.ofChange vestedGrantsWrong)

/-- 'greenbeltlaw33.VestedPeaks': WHATEVER THE INPUT: true; the input reads as it did. -/
def vestedPeaksSpec : ChangeSpec := { name := "vestedPeaks", fn := fun _ => fun
  | [d1, d2] => { results := [.lit (.bool true)], args := [d1, d2] }
  | _ => none }
def vestedPeaksRow : OpenClaim := { program := "ytegglcdhfnjhcaagreat", sum := "5a4091b9787e6173d49bf531380546c6df2739362ef10bd6ab2fc9cae31547f6", func := "greenbelt/greenbeltlaw33.VestedPeaks", spec := "vestedPeaks", unfollowed := true, recurses := true, loops := true, apart := false }
def VestedPeaksSaid : Prop := vestedPeaksRow.holds Tryz.pinned (OpenSpec.ofChange vestedPeaksSpec)

/-- ITS FALSE NEIGHBOUR: 'it returns false'. Refute it at one input. -/
def vestedPeaksWrong : ChangeSpec := { name := "vestedPeaks", fn := fun _ => fun
  | [d1, d2] => { results := [.lit (.bool false)], args := [d1, d2] }
  | _ => none }
def VestedPeaksWrongFalsely : Prop := vestedPeaksRow.holds Tryz.pinned (OpenSpec.ofChange vestedPeaksWrong)

/-- 'greenbeltlaw33.VestedDarkens': WHATEVER THE INPUT: true; the input reads as it did. -/
def vestedDarkensSpec : ChangeSpec := { name := "vestedDarkens", fn := fun _ => fun
  | [d1, d2, d3] => { results := [.lit (.bool true)], args := [d1, d2, d3] }
  | _ => none }
def vestedDarkensRow : OpenClaim := { program := "ytegglcdhfnjhcaagreat", sum := "5a4091b9787e6173d49bf531380546c6df2739362ef10bd6ab2fc9cae31547f6", func := "greenbelt/greenbeltlaw33.VestedDarkens", spec := "vestedDarkens", unfollowed := true, recurses := true, loops := true, apart := false }
def VestedDarkensSaid : Prop := vestedDarkensRow.holds Tryz.pinned (OpenSpec.ofChange vestedDarkensSpec)

/-- ITS FALSE NEIGHBOUR: 'it returns false'. Refute it at one input. -/
def vestedDarkensWrong : ChangeSpec := { name := "vestedDarkens", fn := fun _ => fun
  | [d1, d2, d3] => { results := [.lit (.bool false)], args := [d1, d2, d3] }
  | _ => none }
def VestedDarkensWrongFalsely : Prop := vestedDarkensRow.holds Tryz.pinned (OpenSpec.ofChange vestedDarkensWrong)

/- THE SECOND FORM. 'bulk': how many values and letters a reading holds, each counted each time it is reached (what is shared counts as often as it is met; a slice's spare places count too). A statement '..UptoSaid' is the law's where the arguments, and the package variables that the reading takes, are together of bulk at most 1048576: NARROWER than '..Said'. Prove '..Said' where nothing that the law and all that it calls make is longer than what came in: it says more and counts as full. Else prove '..UptoSaid'. A law counts once. -/
mutual
def uptoBulk {H : Type} : DataW H → Nat
  | .lit (.string bytes) => bytes.length + 1
  | .lit _ => 1
  | .nil => 1
  | .ptr d => uptoBulk d + 1
  | .slice elems spare => uptoBulkAll elems + uptoBulkAll spare + 1
  | .agg parts => uptoBulkAll parts + 1
  | .iface _ d => uptoBulk d + 1
  | .map entries => uptoBulkEntries entries + 1
  | .held _ => 1
def uptoBulkAll {H : Type} : List (DataW H) → Nat
  | [] => 0
  | d :: r => uptoBulk d + uptoBulkAll r
def uptoBulkEntries {H : Type} : List (Lit × DataW H) → Nat
  | [] => 0
  | x :: r => uptoBulkEntry x + uptoBulkEntries r
def uptoBulkEntry {H : Type} : Lit × DataW H → Nat
  | (.string bytes, d) => bytes.length + uptoBulk d + 1
  | (_, d) => uptoBulk d + 1
 end
def uptoSmall : (H : Type) → List (DataW H) → Bool := fun _ ds => decide (uptoBulkAll ds ≤ 1048576)
def OpenSpec.upto (s : _root_.Go.ChangeSpec) : _root_.Go.OpenSpec := { _root_.Go.OpenSpec.ofChange s with cond := some uptoSmall }

/-- 'greenbeltlaw33.VestedTells', WHERE WHAT IT READS IS OF BULK AT MOST 1048576: true; the input reads as it did. -/
def vestedTellsUptoRow : OpenClaim := { program := "ytegglcdhfnjhcaagreat", sum := "5a4091b9787e6173d49bf531380546c6df2739362ef10bd6ab2fc9cae31547f6", func := "greenbelt/greenbeltlaw33.VestedTells", spec := "vestedTells", unfollowed := true, recurses := true, loops := true, apart := false, narrowed := true }
def VestedTellsUptoSaid : Prop := vestedTellsUptoRow.holds Tryz.pinned (OpenSpec.upto vestedTellsSpec)

/-- 'greenbeltlaw33.VestedReaches', WHERE WHAT IT READS IS OF BULK AT MOST 1048576: true; the input reads as it did. -/
def vestedReachesUptoRow : OpenClaim := { program := "ytegglcdhfnjhcaagreat", sum := "5a4091b9787e6173d49bf531380546c6df2739362ef10bd6ab2fc9cae31547f6", func := "greenbelt/greenbeltlaw33.VestedReaches", spec := "vestedReaches", unfollowed := true, recurses := true, loops := true, apart := false, narrowed := true }
def VestedReachesUptoSaid : Prop := vestedReachesUptoRow.holds Tryz.pinned (OpenSpec.upto vestedReachesSpec)

/-- 'greenbeltlaw33.VestedUses', WHERE WHAT IT READS IS OF BULK AT MOST 1048576: true; the input reads as it did. -/
def vestedUsesUptoRow : OpenClaim := { program := "ytegglcdhfnjhcaagreat", sum := "5a4091b9787e6173d49bf531380546c6df2739362ef10bd6ab2fc9cae31547f6", func := "greenbelt/greenbeltlaw33.VestedUses", spec := "vestedUses", unfollowed := true, recurses := true, loops := true, apart := false, narrowed := true }
def VestedUsesUptoSaid : Prop := vestedUsesUptoRow.holds Tryz.pinned (OpenSpec.upto vestedUsesSpec)

/-- 'greenbeltlaw33.VestedLapses', WHERE WHAT IT READS IS OF BULK AT MOST 1048576: true; the input reads as it did. -/
def vestedLapsesUptoRow : OpenClaim := { program := "ytegglcdhfnjhcaagreat", sum := "5a4091b9787e6173d49bf531380546c6df2739362ef10bd6ab2fc9cae31547f6", func := "greenbelt/greenbeltlaw33.VestedLapses", spec := "vestedLapses", unfollowed := true, recurses := true, loops := true, apart := false, narrowed := true }
def VestedLapsesUptoSaid : Prop := vestedLapsesUptoRow.holds Tryz.pinned (OpenSpec.upto vestedLapsesSpec)

/-- 'greenbeltlaw33.VestedGrants', WHERE WHAT IT READS IS OF BULK AT MOST 1048576: true; the input reads as it did. -/
def vestedGrantsUptoRow : OpenClaim := { program := "ytegglcdhfnjhcaagreat", sum := "5a4091b9787e6173d49bf531380546c6df2739362ef10bd6ab2fc9cae31547f6", func := "greenbelt/greenbeltlaw33.VestedGrants", spec := "vestedGrants", unfollowed := true, recurses := true, loops := true, apart := false, narrowed := true }
def VestedGrantsUptoSaid : Prop := vestedGrantsUptoRow.holds Tryz.pinned (OpenSpec.upto vestedGrantsSpec)

/-- 'greenbeltlaw33.VestedPeaks', WHERE WHAT IT READS IS OF BULK AT MOST 1048576: true; the input reads as it did. -/
def vestedPeaksUptoRow : OpenClaim := { program := "ytegglcdhfnjhcaagreat", sum := "5a4091b9787e6173d49bf531380546c6df2739362ef10bd6ab2fc9cae31547f6", func := "greenbelt/greenbeltlaw33.VestedPeaks", spec := "vestedPeaks", unfollowed := true, recurses := true, loops := true, apart := false, narrowed := true }
def VestedPeaksUptoSaid : Prop := vestedPeaksUptoRow.holds Tryz.pinned (OpenSpec.upto vestedPeaksSpec)

/-- 'greenbeltlaw33.VestedDarkens', WHERE WHAT IT READS IS OF BULK AT MOST 1048576: true; the input reads as it did. -/
def vestedDarkensUptoRow : OpenClaim := { program := "ytegglcdhfnjhcaagreat", sum := "5a4091b9787e6173d49bf531380546c6df2739362ef10bd6ab2fc9cae31547f6", func := "greenbelt/greenbeltlaw33.VestedDarkens", spec := "vestedDarkens", unfollowed := true, recurses := true, loops := true, apart := false, narrowed := true }
def VestedDarkensUptoSaid : Prop := vestedDarkensUptoRow.holds Tryz.pinned (OpenSpec.upto vestedDarkensSpec)

end Rows
end Go.Proofs.YtegglcdhfnjhcaaGreat
