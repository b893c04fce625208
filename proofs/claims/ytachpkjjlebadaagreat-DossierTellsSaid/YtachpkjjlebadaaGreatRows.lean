/-
  NARROWER THAN 'FOR EVERY INPUT', by the rows' own cells (each row's printed sentence says how): DossierTells: loops.
  DERIVED. THE GIVEN ROWS OF THIS SEAT. 2 by the template 'for every input the law returns true; each argument reads behind the call as it read before'; 0 by the template 'total and deterministic' (their statements: YtachpkjjlebadaaGreatTotals.lean).
  GIVEN WITH THE SEED: the statements are not yours to turn. If you find one false, say at which input.
  Laid BY PROGRAM, IN A SANDBOX (cutbox-rows.mjs): the forced cells as the released guide's own fill.sh prints them over the translation 3295782598c5f3ce… (all of the seat's roots in one cut). By AI agents, Wed Nov 11 2026. No macro, syntax, notation, axiom, sorry.
-/
import Derived.Test.YtachpkjjlebadaaGreatChecked
import GoSem.Claim
import GoSem.ClaimJoined
import GoSem.ClaimMapViews
import Derived.JoinedTies
import Derived.KernelRfl
namespace Go.Proofs.YtachpkjjlebadaaGreat
/- THE CELL 'sum', in the pinned program and in every row, IS THE sha256 OF THE DUMP (.gsa) THAT YtachpkjjlebadaaGreatProg.lean LOADS. Nothing in Lean hashes anything: it is a label: what it is worth is what the hold of that sum in a sandbox is worth. -/
noncomputable def Tryz.pinned : Pinned := { name := "ytachpkjjlebadaagreat", sum := "3295782598c5f3ce0e15d640390969ca5d0050e3a6918eb01616b5cfea7faa92", checked := Tryz.checked }
namespace Rows
def none {H : Type} : Left H := { results := [], args := [] }

/-- 'greenbeltlaw30.DossierTells': WHATEVER THE INPUT: true; the input reads as it did. -/
def dossierTellsSpec : ChangeSpec := { name := "dossierTells", fn := fun _ => fun
  | [d1, d2, d3, d4] => { results := [.lit (.bool true)], args := [d1, d2, d3, d4] }
  | _ => none }
def dossierTellsRow : OpenClaim := { program := "ytachpkjjlebadaagreat", sum := "3295782598c5f3ce0e15d640390969ca5d0050e3a6918eb01616b5cfea7faa92", func := "greenbelt/greenbeltlaw30.DossierTells", spec := "dossierTells", inPlace := ["internal/bytealg.IndexByteString", "internal/bytealg.IndexString"], unfollowed := true, recurses := true, named := ["internal/bytealg.MaxLen"], loops := true, apart := false }
def DossierTellsSaid : Prop := dossierTellsRow.holds Tryz.pinned (OpenSpec.ofChange dossierTellsSpec)

/-- ITS FALSE NEIGHBOUR: 'it returns false'. Refute it at one input. -/
def dossierTellsWrong : ChangeSpec := { name := "dossierTells", fn := fun _ => fun
  | [d1, d2, d3, d4] => { results := [.lit (.bool false)], args := [d1, d2, d3, d4] }
  | _ => none }
def DossierTellsWrongFalsely : Prop := dossierTellsRow.holds Tryz.pinned (OpenSpec.ofChange dossierTellsWrong)

/-- 'greenbeltlaw30.DossierLess': WHATEVER THE INPUT: true; the input reads as it did. -/
def dossierLessSpec : ChangeSpec := { name := "dossierLess", fn := fun _ => fun
  | [d1, d2, d3] => { results := [.lit (.bool true)], args := [d1, d2, d3] }
  | _ => none }
def dossierLessRow : OpenClaim := { program := "ytachpkjjlebadaagreat", sum := "3295782598c5f3ce0e15d640390969ca5d0050e3a6918eb01616b5cfea7faa92", func := "greenbelt/greenbeltlaw30.DossierLess", spec := "dossierLess", inPlace := ["internal/bytealg.IndexByteString", "internal/bytealg.IndexString"], unfollowed := true, recurses := true, named := ["internal/bytealg.MaxLen"], apart := false }
def DossierLessSaid : Prop := dossierLessRow.holds Tryz.pinned (OpenSpec.ofChange dossierLessSpec)

/-- ITS FALSE NEIGHBOUR: 'it returns false'. Refute it at one input. -/
def dossierLessWrong : ChangeSpec := { name := "dossierLess", fn := fun _ => fun
  | [d1, d2, d3] => { results := [.lit (.bool false)], args := [d1, d2, d3] }
  | _ => none }
def DossierLessWrongFalsely : Prop := dossierLessRow.holds Tryz.pinned (OpenSpec.ofChange dossierLessWrong)

/- THE SECOND FORM. 'bulk': how many values and letters a reading holds, each counted each time it is reached (what is shared counts as often as it is met; a slice's spare places count too). A statement '..UptoSaid' is the law's where the arguments, and the package variables that the reading takes, are together of bulk at most 1048576: NARROWER than '..Said'. Prove '..Said' where nothing that the law and all that it calls make is longer than what came in: it says more and counts as full. Else prove '..UptoSaid'. A law counts once. -/
mutual
def uptoBulk {H : Type} : DataW H → Nat
  | .lit (.string bytes) => bytes.length + 1
  | .lit _ => 1
  | .nil => 1
  | .ptr d => uptoBulk d + 1
  | .slice elems spare => uptoBulkAll elems + uptoBulkAll spare + 1
  | .agg parts => uptoBulkAll parts + 1
  | .iface _ d => uptoBulk d + 1
  | .map entries => uptoBulkEntries entries + 1
  | .held _ => 1
def uptoBulkAll {H : Type} : List (DataW H) → Nat
  | [] => 0
  | d :: r => uptoBulk d + uptoBulkAll r
def uptoBulkEntries {H : Type} : List (Lit × DataW H) → Nat
  | [] => 0
  | x :: r => uptoBulkEntry x + uptoBulkEntries r
def uptoBulkEntry {H : Type} : Lit × DataW H → Nat
  | (.string bytes, d) => bytes.length + uptoBulk d + 1
  | (_, d) => uptoBulk d + 1
 end
def uptoSmall : (H : Type) → List (DataW H) → Bool := fun _ ds => decide (uptoBulkAll ds ≤ 1048576)
def OpenSpec.upto (s : _root_.Go.ChangeSpec) : _root_.Go.OpenSpec := { _root_.Go.OpenSpec.ofChange s with cond := some uptoSmall }

/-- 'greenbeltlaw30.DossierTells', WHERE WHAT IT READS IS OF BULK AT MOST 1048576: true; the input reads as it did. -/
def dossierTellsUptoRow : OpenClaim := { program := "ytachpkjjlebadaagreat", sum := "3295782598c5f3ce0e15d640390969ca5d0050e3a6918eb01616b5cfea7faa92", func := "greenbelt/greenbeltlaw30.DossierTells", spec := "dossierTells", inPlace := ["internal/bytealg.IndexByteString", "internal/bytealg.IndexString"], unfollowed := true, recurses := true, named := ["internal/bytealg.MaxLen"], loops := true, apart := false, narrowed := true }
def DossierTellsUptoSaid : Prop := dossierTellsUptoRow.holds Tryz.pinned (OpenSpec.upto dossierTellsSpec)

/-- 'greenbeltlaw30.DossierLess', WHERE WHAT IT READS IS OF BULK AT MOST 1048576: true; the input reads as it did. -/
def dossierLessUptoRow : OpenClaim := { program := "ytachpkjjlebadaagreat", sum := "3295782598c5f3ce0e15d640390969ca5d0050e3a6918eb01616b5cfea7faa92", func := "greenbelt/greenbeltlaw30.DossierLess", spec := "dossierLess", inPlace := ["internal/bytealg.IndexByteString", "internal/bytealg.IndexString"], unfollowed := true, recurses := true, named := ["internal/bytealg.MaxLen"], apart := false, narrowed := true }
def DossierLessUptoSaid : Prop := dossierLessUptoRow.holds Tryz.pinned (OpenSpec.upto dossierLessSpec)

end Rows
end Go.Proofs.YtachpkjjlebadaaGreat
