/-
  NARROWER THAN 'FOR EVERY INPUT', by the rows' own cells (each row's printed sentence says how): DossierPaths: loops · DossierEnds: loops · DossierFrozen: loops · DossierDays: loops.
  DERIVED. THE GIVEN ROWS OF THIS SEAT. 4 by the template 'for every input the law returns true; each argument reads behind the call as it read before'; 0 by the template 'total and deterministic' (their statements: YtachpkjjlebadaaTotals.lean).
  GIVEN WITH THE SEED: the statements are not yours to turn. If you find one false, say at which input.
  Laid BY PROGRAM, IN A SANDBOX (cutbox-rows.mjs): the forced cells as the released guide's own fill.sh prints them over the translation e5992035b1803fea… (all of the seat's roots in one cut). By AI agents, Wed Nov 11 2026. No macro, syntax, notation, axiom, sorry.
-/
import Derived.Test.YtachpkjjlebadaaChecked
import GoSem.Claim
import GoSem.ClaimJoined
import GoSem.ClaimMapViews
import Derived.JoinedTies
import Derived.KernelRfl
namespace Go.Proofs.Ytachpkjjlebadaa
/- THE CELL 'sum', in the pinned program and in every row, IS THE sha256 OF THE DUMP (.gsa) THAT YtachpkjjlebadaaProg.lean LOADS. Nothing in Lean hashes anything: it is a label: what it is worth is what the hold of that sum in a sandbox is worth. -/
noncomputable def Try.pinned : Pinned := { name := "ytachpkjjlebadaa", sum := "e5992035b1803feaeda189814efa729ba3b8c4d5260d30993111723115d26a14", checked := Try.checked }
namespace Rows
def none {H : Type} : Left H := { results := [], args := [] }

/-- 'greenbeltlaw30.DossierPaths': WHATEVER THE INPUT: true; the input reads as it did. -/
def dossierPathsSpec : ChangeSpec := { name := "dossierPaths", fn := fun _ => fun
  | [d1, d2, d3] => { results := [.lit (.bool true)], args := [d1, d2, d3] }
  | _ => none }
def dossierPathsRow : OpenClaim := { program := "ytachpkjjlebadaa", sum := "e5992035b1803feaeda189814efa729ba3b8c4d5260d30993111723115d26a14", func := "greenbelt/greenbeltlaw30.DossierPaths", spec := "dossierPaths", inPlace := ["internal/bytealg.IndexByteString", "internal/bytealg.IndexString"], unfollowed := true, recurses := true, named := ["internal/bytealg.MaxLen"], loops := true, apart := false }
def DossierPathsSaid : Prop := dossierPathsRow.holds Try.pinned (OpenSpec.ofChange dossierPathsSpec)

/-- ITS FALSE NEIGHBOUR: 'it returns false'. Refute it at one input. -/
def dossierPathsWrong : ChangeSpec := { name := "dossierPaths", fn := fun _ => fun
  | [d1, d2, d3] => { results := [.lit (.bool false)], args := [d1, d2, d3] }
  | _ => none }
def DossierPathsWrongFalsely : Prop := dossierPathsRow.holds Try.pinned (OpenSpec.ofChange dossierPathsWrong)

/-- 'greenbeltlaw30.DossierEnds': WHATEVER THE INPUT: true; the input reads as it did. -/
def dossierEndsSpec : ChangeSpec := { name := "dossierEnds", fn := fun _ => fun
  | [d1, d2, d3] => { results := [.lit (.bool true)], args := [d1, d2, d3] }
  | _ => none }
def dossierEndsRow : OpenClaim := { program := "ytachpkjjlebadaa", sum := "e5992035b1803feaeda189814efa729ba3b8c4d5260d30993111723115d26a14", func := "greenbelt/greenbeltlaw30.DossierEnds", spec := "dossierEnds", inPlace := ["internal/bytealg.IndexByteString", "internal/bytealg.IndexString"], unfollowed := true, recurses := true, named := ["internal/bytealg.MaxLen"], loops := true, apart := false }
def DossierEndsSaid : Prop := dossierEndsRow.holds Try.pinned (OpenSpec.ofChange dossierEndsSpec)

/-- ITS FALSE NEIGHBOUR: 'it returns false'. Refute it at one input. -/
def dossierEndsWrong : ChangeSpec := { name := "dossierEnds", fn := fun _ => fun
  | [d1, d2, d3] => { results := [.lit (.bool false)], args := [d1, d2, d3] }
  | _ => none }
def DossierEndsWrongFalsely : Prop := dossierEndsRow.holds Try.pinned (OpenSpec.ofChange dossierEndsWrong)

/-- 'greenbeltlaw30.DossierFrozen': WHATEVER THE INPUT: true; the input reads as it did. -/
def dossierFrozenSpec : ChangeSpec := { name := "dossierFrozen", fn := fun _ => fun
  | [d1, d2, d3, d4] => { results := [.lit (.bool true)], args := [d1, d2, d3, d4] }
  | _ => none }
def dossierFrozenRow : OpenClaim := { program := "ytachpkjjlebadaa", sum := "e5992035b1803feaeda189814efa729ba3b8c4d5260d30993111723115d26a14", func := "greenbelt/greenbeltlaw30.DossierFrozen", spec := "dossierFrozen", inPlace := ["internal/bytealg.IndexByteString", "internal/bytealg.IndexString"], unfollowed := true, recurses := true, named := ["internal/bytealg.MaxLen"], loops := true, apart := false }
def DossierFrozenSaid : Prop := dossierFrozenRow.holds Try.pinned (OpenSpec.ofChange dossierFrozenSpec)

/-- ITS FALSE NEIGHBOUR: 'it returns false'. Refute it at one input. -/
def dossierFrozenWrong : ChangeSpec := { name := "dossierFrozen", fn := fun _ => fun
  | [d1, d2, d3, d4] => { results := [.lit (.bool false)], args := [d1, d2, d3, d4] }
  | _ => none }
def DossierFrozenWrongFalsely : Prop := dossierFrozenRow.holds Try.pinned (OpenSpec.ofChange dossierFrozenWrong)

/-- 'greenbeltlaw30.DossierDays': WHATEVER THE INPUT: true; the input reads as it did. -/
def dossierDaysSpec : ChangeSpec := { name := "dossierDays", fn := fun _ => fun
  | [d1, d2, d3] => { results := [.lit (.bool true)], args := [d1, d2, d3] }
  | _ => none }
def dossierDaysRow : OpenClaim := { program := "ytachpkjjlebadaa", sum := "e5992035b1803feaeda189814efa729ba3b8c4d5260d30993111723115d26a14", func := "greenbelt/greenbeltlaw30.DossierDays", spec := "dossierDays", inPlace := ["internal/bytealg.IndexByteString", "internal/bytealg.IndexString"], unfollowed := true, recurses := true, named := ["internal/bytealg.MaxLen"], loops := true, apart := false }
def DossierDaysSaid : Prop := dossierDaysRow.holds Try.pinned (OpenSpec.ofChange dossierDaysSpec)

/-- ITS FALSE NEIGHBOUR: 'it returns false'. Refute it at one input. -/
def dossierDaysWrong : ChangeSpec := { name := "dossierDays", fn := fun _ => fun
  | [d1, d2, d3] => { results := [.lit (.bool false)], args := [d1, d2, d3] }
  | _ => none }
def DossierDaysWrongFalsely : Prop := dossierDaysRow.holds Try.pinned (OpenSpec.ofChange dossierDaysWrong)

/- THE SECOND FORM. 'bulk': how many values and letters a reading holds, each counted each time it is reached (what is shared counts as often as it is met; a slice's spare places count too). A statement '..UptoSaid' is the law's where the arguments, and the package variables that the reading takes, are together of bulk at most 1048576: NARROWER than '..Said'. Prove '..Said' where nothing that the law and all that it calls make is longer than what came in: it says more and counts as full. Else prove '..UptoSaid'. A law counts once. -/
mutual
def uptoBulk {H : Type} : DataW H → Nat
  | .lit (.string bytes) => bytes.length + 1
  | .lit _ => 1
  | .nil => 1
  | .ptr d => uptoBulk d + 1
  | .slice elems spare => uptoBulkAll elems + uptoBulkAll spare + 1
  | .agg parts => uptoBulkAll parts + 1
  | .iface _ d => uptoBulk d + 1
  | .map entries => uptoBulkEntries entries + 1
  | .held _ => 1
def uptoBulkAll {H : Type} : List (DataW H) → Nat
  | [] => 0
  | d :: r => uptoBulk d + uptoBulkAll r
def uptoBulkEntries {H : Type} : List (Lit × DataW H) → Nat
  | [] => 0
  | x :: r => uptoBulkEntry x + uptoBulkEntries r
def uptoBulkEntry {H : Type} : Lit × DataW H → Nat
  | (.string bytes, d) => bytes.length + uptoBulk d + 1
  | (_, d) => uptoBulk d + 1
 end
def uptoSmall : (H : Type) → List (DataW H) → Bool := fun _ ds => decide (uptoBulkAll ds ≤ 1048576)
def OpenSpec.upto (s : _root_.Go.ChangeSpec) : _root_.Go.OpenSpec := { _root_.Go.OpenSpec.ofChange s with cond := some uptoSmall }

/-- 'greenbeltlaw30.DossierPaths', WHERE WHAT IT READS IS OF BULK AT MOST 1048576: true; the input reads as it did. -/
def dossierPathsUptoRow : OpenClaim := { program := "ytachpkjjlebadaa", sum := "e5992035b1803feaeda189814efa729ba3b8c4d5260d30993111723115d26a14", func := "greenbelt/greenbeltlaw30.DossierPaths", spec := "dossierPaths", inPlace := ["internal/bytealg.IndexByteString", "internal/bytealg.IndexString"], unfollowed := true, recurses := true, named := ["internal/bytealg.MaxLen"], loops := true, apart := false, narrowed := true }
def DossierPathsUptoSaid : Prop := dossierPathsUptoRow.holds Try.pinned (OpenSpec.upto dossierPathsSpec)

/-- 'greenbeltlaw30.DossierEnds', WHERE WHAT IT READS IS OF BULK AT MOST 1048576: true; the input reads as it did. -/
def dossierEndsUptoRow : OpenClaim := { program := "ytachpkjjlebadaa", sum := "e5992035b1803feaeda189814efa729ba3b8c4d5260d30993111723115d26a14", func := "greenbelt/greenbeltlaw30.DossierEnds", spec := "dossierEnds", inPlace := ["internal/bytealg.IndexByteString", "internal/bytealg.IndexString"], unfollowed := true, recurses := true, named := ["internal/bytealg.MaxLen"], loops := true, apart := false, narrowed := true }
def DossierEndsUptoSaid : Prop := dossierEndsUptoRow.holds Try.pinned (OpenSpec.upto dossierEndsSpec)

/-- 'greenbeltlaw30.DossierFrozen', WHERE WHAT IT READS IS OF BULK AT MOST 1048576: true; the input reads as it did. -/
def dossierFrozenUptoRow : OpenClaim := { program := "ytachpkjjlebadaa", sum := "e5992035b1803feaeda189814efa729ba3b8c4d5260d30993111723115d26a14", func := "greenbelt/greenbeltlaw30.DossierFrozen", spec := "dossierFrozen", inPlace := ["internal/bytealg.IndexByteString", "internal/bytealg.IndexString"], unfollowed := true, recurses := true, named := ["internal/bytealg.MaxLen"], loops := true, apart := false, narrowed := true }
def DossierFrozenUptoSaid : Prop := dossierFrozenUptoRow.holds Try.pinned (OpenSpec.upto dossierFrozenSpec)

/-- 'greenbeltlaw30.DossierDays', WHERE WHAT IT READS IS OF BULK AT MOST 1048576: true; the input reads as it did. -/
def dossierDaysUptoRow : OpenClaim := { program := "ytachpkjjlebadaa", sum := "e5992035b1803feaeda189814efa729ba3b8c4d5260d30993111723115d26a14", func := "greenbelt/greenbeltlaw30.DossierDays", spec := "dossierDays", inPlace := ["internal/bytealg.IndexByteString", "internal/bytealg.IndexString"], unfollowed := true, recurses := true, named := ["internal/bytealg.MaxLen"], loops := true, apart := false, narrowed := true }
def DossierDaysUptoSaid : Prop := dossierDaysUptoRow.holds Try.pinned (OpenSpec.upto dossierDaysSpec)

end Rows
end Go.Proofs.Ytachpkjjlebadaa
