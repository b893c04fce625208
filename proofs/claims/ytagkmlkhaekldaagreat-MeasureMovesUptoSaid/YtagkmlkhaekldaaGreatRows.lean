/-
  NARROWER THAN 'FOR EVERY INPUT', by the rows' own cells (each row's printed sentence says how): MeasureTells: loops · MeasureGrows: loops · MeasureMoves: loops · MeasureLoads: loops · MeasureSolids: loops.
  DERIVED. THE GIVEN ROWS OF THIS SEAT. 5 by the template 'for every input the law returns true; each argument reads behind the call as it read before'; 0 by the template 'total and deterministic' (their statements: YtagkmlkhaekldaaGreatTotals.lean).
  GIVEN WITH THE SEED: the statements are not yours to turn. If you find one false, say at which input.
  Laid BY PROGRAM, IN A SANDBOX (cutbox-rows.mjs): the forced cells as the released guide's own fill.sh prints them over the translation 152996936c4cc398… (all of the seat's roots in one cut). By AI agents, Wed Nov 11 2026. No macro, syntax, notation, axiom, sorry.
-/
import Derived.Test.YtagkmlkhaekldaaGreatChecked
import GoSem.Claim
import GoSem.ClaimJoined
import GoSem.ClaimMapViews
import Derived.JoinedTies
import Derived.KernelRfl
namespace Go.Proofs.YtagkmlkhaekldaaGreat
/- THE CELL 'sum', in the pinned program and in every row, IS THE sha256 OF THE DUMP (.gsa) THAT YtagkmlkhaekldaaGreatProg.lean LOADS. Nothing in Lean hashes anything: it is a label: what it is worth is what the hold of that sum in a sandbox is worth. -/
noncomputable def Tryz.pinned : Pinned := { name := "ytagkmlkhaekldaagreat", sum := "152996936c4cc3984dbb65f8ec7f018391ecfe374b5b3a4c23389d3039ed7c7c", checked := Tryz.checked }
namespace Rows
def none {H : Type} : Left H := { results := [], args := [] }

/-- 'greenbeltlaw20.MeasureTells': WHATEVER THE INPUT: true; the input reads as it did. -/
def measureTellsSpec : ChangeSpec := { name := "measureTells", fn := fun _ => fun
  | [d1, d2, d3, d4] => { results := [.lit (.bool true)], args := [d1, d2, d3, d4] }
  | _ => none }
def measureTellsRow : OpenClaim := { program := "ytagkmlkhaekldaagreat", sum := "152996936c4cc3984dbb65f8ec7f018391ecfe374b5b3a4c23389d3039ed7c7c", func := "greenbelt/greenbeltlaw20.MeasureTells", spec := "measureTells", unfollowed := true, recurses := true, loops := true, apart := false }
def MeasureTellsSaid : Prop := measureTellsRow.holds Tryz.pinned (OpenSpec.ofChange measureTellsSpec)

/-- ITS FALSE NEIGHBOUR: 'it returns false'. Refute it at one input. -/
def measureTellsWrong : ChangeSpec := { name := "measureTells", fn := fun _ => fun
  | [d1, d2, d3, d4] => { results := [.lit (.bool false)], args := [d1, d2, d3, d4] }
  | _ => none }
def MeasureTellsWrongFalsely : Prop := measureTellsRow.holds Tryz.pinned (OpenSpec.ofChange measureTellsWrong)

/-- 'greenbeltlaw20.MeasureGrows': WHATEVER THE INPUT: true; the input reads as it did. -/
def measureGrowsSpec : ChangeSpec := { name := "measureGrows", fn := fun _ => fun
  | [d1, d2, d3, d4] => { results := [.lit (.bool true)], args := [d1, d2, d3, d4] }
  | _ => none }
def measureGrowsRow : OpenClaim := { program := "ytagkmlkhaekldaagreat", sum := "152996936c4cc3984dbb65f8ec7f018391ecfe374b5b3a4c23389d3039ed7c7c", func := "greenbelt/greenbeltlaw20.MeasureGrows", spec := "measureGrows", unfollowed := true, recurses := true, loops := true, apart := false }
def MeasureGrowsSaid : Prop := measureGrowsRow.holds Tryz.pinned (OpenSpec.ofChange measureGrowsSpec)

/-- ITS FALSE NEIGHBOUR: 'it returns false'. Refute it at one input. -/
def measureGrowsWrong : ChangeSpec := { name := "measureGrows", fn := fun _ => fun
  | [d1, d2, d3, d4] => { results := [.lit (.bool false)], args := [d1, d2, d3, d4] }
  | _ => none }
def MeasureGrowsWrongFalsely : Prop := measureGrowsRow.holds Tryz.pinned (OpenSpec.ofChange measureGrowsWrong)

/-- 'greenbeltlaw20.MeasureMoves': WHATEVER THE INPUT: true; the input reads as it did. -/
def measureMovesSpec : ChangeSpec := { name := "measureMoves", fn := fun _ => fun
  | [d1, d2, d3, d4, d5] => { results := [.lit (.bool true)], args := [d1, d2, d3, d4, d5] }
  | _ => none }
def measureMovesRow : OpenClaim := { program := "ytagkmlkhaekldaagreat", sum := "152996936c4cc3984dbb65f8ec7f018391ecfe374b5b3a4c23389d3039ed7c7c", func := "greenbelt/greenbeltlaw20.MeasureMoves", spec := "measureMoves", unfollowed := true, recurses := true, loops := true, apart := false }
def MeasureMovesSaid : Prop := measureMovesRow.holds Tryz.pinned (OpenSpec.ofChange measureMovesSpec)

/-- ITS FALSE NEIGHBOUR: 'it returns false'. Refute it at one input. -/
def measureMovesWrong : ChangeSpec := { name := "measureMoves", fn := fun _ => fun
  | [d1, d2, d3, d4, d5] => { results := [.lit (.bool false)], args := [d1, d2, d3, d4, d5] }
  | _ => none }
def MeasureMovesWrongFalsely : Prop := measureMovesRow.holds Tryz.pinned (OpenSpec.ofChange measureMovesWrong)

/-- 'greenbeltlaw20.MeasureLoads': WHATEVER THE INPUT: true; the input reads as it did. -/
def measureLoadsSpec : ChangeSpec := { name := "measureLoads", fn := fun _ => fun
  | [d1, d2, d3] => { results := [.lit (.bool true)], args := [d1, d2, d3] }
  | _ => none }
def measureLoadsRow : OpenClaim := { program := "ytagkmlkhaekldaagreat", sum := "152996936c4cc3984dbb65f8ec7f018391ecfe374b5b3a4c23389d3039ed7c7c", func := "greenbelt/greenbeltlaw20.MeasureLoads", spec := "measureLoads", inPlace := ["internal/bytealg.IndexByteString", "internal/bytealg.IndexString"], unfollowed := true, recurses := true, named := ["internal/bytealg.MaxLen"], loops := true, apart := false }
def MeasureLoadsSaid : Prop := measureLoadsRow.holds Tryz.pinned (OpenSpec.ofChange measureLoadsSpec)

/-- ITS FALSE NEIGHBOUR: 'it returns false'. Refute it at one input. -/
def measureLoadsWrong : ChangeSpec := { name := "measureLoads", fn := fun _ => fun
  | [d1, d2, d3] => { results := [.lit (.bool false)], args := [d1, d2, d3] }
  | _ => none }
def MeasureLoadsWrongFalsely : Prop := measureLoadsRow.holds Tryz.pinned (OpenSpec.ofChange measureLoadsWrong)

/-- 'greenbeltlaw20.MeasureSolids': WHATEVER THE INPUT: true; the input reads as it did. -/
def measureSolidsSpec : ChangeSpec := { name := "measureSolids", fn := fun _ => fun
  | [d1, d2, d3] => { results := [.lit (.bool true)], args := [d1, d2, d3] }
  | _ => none }
def measureSolidsRow : OpenClaim := { program := "ytagkmlkhaekldaagreat", sum := "152996936c4cc3984dbb65f8ec7f018391ecfe374b5b3a4c23389d3039ed7c7c", func := "greenbelt/greenbeltlaw20.MeasureSolids", spec := "measureSolids", inPlace := ["internal/bytealg.IndexByteString", "internal/bytealg.IndexString"], unfollowed := true, recurses := true, named := ["internal/bytealg.MaxLen"], loops := true, apart := false }
def MeasureSolidsSaid : Prop := measureSolidsRow.holds Tryz.pinned (OpenSpec.ofChange measureSolidsSpec)

/-- ITS FALSE NEIGHBOUR: 'it returns false'. Refute it at one input. -/
def measureSolidsWrong : ChangeSpec := { name := "measureSolids", fn := fun _ => fun
  | [d1, d2, d3] => { results := [.lit (.bool false)], args := [d1, d2, d3] }
  | _ => none }
def MeasureSolidsWrongFalsely : Prop := measureSolidsRow.holds Tryz.pinned (OpenSpec.ofChange measureSolidsWrong)

/- THE SECOND FORM. 'bulk': how many values and letters a reading holds, each counted each time it is reached (what is shared counts as often as it is met; a slice's spare places count too). A statement '..UptoSaid' is the law's where the arguments, and the package variables that the reading takes, are together of bulk at most 1048576: NARROWER than '..Said'. Prove '..Said' where nothing that the law and all that it calls make is longer than what came in: it says more and counts as full. Else prove '..UptoSaid'. A law counts once. -/
mutual
def uptoBulk {H : Type} : DataW H → Nat
  | .lit (.string bytes) => bytes.length + 1
  | .lit _ => 1
  | .nil => 1
  | .ptr d => uptoBulk d + 1
  | .slice elems spare => uptoBulkAll elems + uptoBulkAll spare + 1
  | .agg parts => uptoBulkAll parts + 1
  | .iface _ d => uptoBulk d + 1
  | .map entries => uptoBulkEntries entries + 1
  | .held _ => 1
def uptoBulkAll {H : Type} : List (DataW H) → Nat
  | [] => 0
  | d :: r => uptoBulk d + uptoBulkAll r
def uptoBulkEntries {H : Type} : List (Lit × DataW H) → Nat
  | [] => 0
  | x :: r => uptoBulkEntry x + uptoBulkEntries r
def uptoBulkEntry {H : Type} : Lit × DataW H → Nat
  | (.string bytes, d) => bytes.length + uptoBulk d + 1
  | (_, d) => uptoBulk d + 1
 end
def uptoSmall : (H : Type) → List (DataW H) → Bool := fun _ ds => decide (uptoBulkAll ds ≤ 1048576)
def OpenSpec.upto (s : _root_.Go.ChangeSpec) : _root_.Go.OpenSpec := { _root_.Go.OpenSpec.ofChange s with cond := some uptoSmall }

/-- 'greenbeltlaw20.MeasureTells', WHERE WHAT IT READS IS OF BULK AT MOST 1048576: true; the input reads as it did. -/
def measureTellsUptoRow : OpenClaim := { program := "ytagkmlkhaekldaagreat", sum := "152996936c4cc3984dbb65f8ec7f018391ecfe374b5b3a4c23389d3039ed7c7c", func := "greenbelt/greenbeltlaw20.MeasureTells", spec := "measureTells", unfollowed := true, recurses := true, loops := true, apart := false, narrowed := true }
def MeasureTellsUptoSaid : Prop := measureTellsUptoRow.holds Tryz.pinned (OpenSpec.upto measureTellsSpec)

/-- 'greenbeltlaw20.MeasureGrows', WHERE WHAT IT READS IS OF BULK AT MOST 1048576: true; the input reads as it did. -/
def measureGrowsUptoRow : OpenClaim := { program := "ytagkmlkhaekldaagreat", sum := "152996936c4cc3984dbb65f8ec7f018391ecfe374b5b3a4c23389d3039ed7c7c", func := "greenbelt/greenbeltlaw20.MeasureGrows", spec := "measureGrows", unfollowed := true, recurses := true, loops := true, apart := false, narrowed := true }
def MeasureGrowsUptoSaid : Prop := measureGrowsUptoRow.holds Tryz.pinned (OpenSpec.upto measureGrowsSpec)

/-- 'greenbeltlaw20.MeasureMoves', WHERE WHAT IT READS IS OF BULK AT MOST 1048576: true; the input reads as it did. -/
def measureMovesUptoRow : OpenClaim := { program := "ytagkmlkhaekldaagreat", sum := "152996936c4cc3984dbb65f8ec7f018391ecfe374b5b3a4c23389d3039ed7c7c", func := "greenbelt/greenbeltlaw20.MeasureMoves", spec := "measureMoves", unfollowed := true, recurses := true, loops := true, apart := false, narrowed := true }
def MeasureMovesUptoSaid : Prop := measureMovesUptoRow.holds Tryz.pinned (OpenSpec.upto measureMovesSpec)

/-- 'greenbeltlaw20.MeasureLoads', WHERE WHAT IT READS IS OF BULK AT MOST 1048576: true; the input reads as it did. -/
def measureLoadsUptoRow : OpenClaim := { program := "ytagkmlkhaekldaagreat", sum := "152996936c4cc3984dbb65f8ec7f018391ecfe374b5b3a4c23389d3039ed7c7c", func := "greenbelt/greenbeltlaw20.MeasureLoads", spec := "measureLoads", inPlace := ["internal/bytealg.IndexByteString", "internal/bytealg.IndexString"], unfollowed := true, recurses := true, named := ["internal/bytealg.MaxLen"], loops := true, apart := false, narrowed := true }
def MeasureLoadsUptoSaid : Prop := measureLoadsUptoRow.holds Tryz.pinned (OpenSpec.upto measureLoadsSpec)

/-- 'greenbeltlaw20.MeasureSolids', WHERE WHAT IT READS IS OF BULK AT MOST 1048576: true; the input reads as it did. -/
def measureSolidsUptoRow : OpenClaim := { program := "ytagkmlkhaekldaagreat", sum := "152996936c4cc3984dbb65f8ec7f018391ecfe374b5b3a4c23389d3039ed7c7c", func := "greenbelt/greenbeltlaw20.MeasureSolids", spec := "measureSolids", inPlace := ["internal/bytealg.IndexByteString", "internal/bytealg.IndexString"], unfollowed := true, recurses := true, named := ["internal/bytealg.MaxLen"], loops := true, apart := false, narrowed := true }
def MeasureSolidsUptoSaid : Prop := measureSolidsUptoRow.holds Tryz.pinned (OpenSpec.upto measureSolidsSpec)

end Rows
end Go.Proofs.YtagkmlkhaekldaaGreat
