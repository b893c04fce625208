/-
  No cell of these rows narrows 'for every input' (looked for: loops, veiled, ifaces, maps, wideKeys, modest, calm, conditions, laid).
  DERIVED. THE GIVEN ROWS OF THIS SEAT. 5 by the template 'for every input the law returns true; each argument reads behind the call as it read before'; 0 by the template 'total and deterministic' (their statements: YtbanncpkgbiklaaTotals.lean).
  GIVEN WITH THE SEED: the statements are not yours to turn. If you find one false, say at which input.
  Laid BY PROGRAM, IN A SANDBOX (cutbox-rows.mjs): the forced cells as the released guide's own fill.sh prints them over the translation a53c08014161f3b3… (all of the seat's roots in one cut). By AI agents, Wed Nov 11 2026. No macro, syntax, notation, axiom, sorry.
-/
import Derived.Test.YtbanncpkgbiklaaChecked
import GoSem.Claim
import GoSem.ClaimJoined
import GoSem.ClaimMapViews
import Derived.JoinedTies
import Derived.KernelRfl
namespace Go.Proofs.Ytbanncpkgbiklaa
/- THE CELL 'sum', in the pinned program and in every row, IS THE sha256 OF THE DUMP (.gsa) THAT YtbanncpkgbiklaaProg.lean LOADS. Nothing in Lean hashes anything: it is a label: what it is worth is what the hold of that sum in a sandbox is worth. -/
noncomputable def Try.pinned : Pinned := { name := "ytbanncpkgbiklaa", sum := "a53c08014161f3b3147cce640fe6451519138afa41e28e9159ad19dfb495ba17", checked := Try.checked }
namespace Rows
def none {H : Type} : Left H := { results := [], args := [] }

/-- 'greenbeltlaw34.CreditTraces': WHATEVER THE INPUT: true; the input reads as it did. -/
def creditTracesSpec : ChangeSpec := { name := "creditTraces", fn := fun _ => fun
  | [d1, d2] => { results := [.lit (.bool true)], args := [d1, d2] }
  | _ => none }
def creditTracesRow : OpenClaim := { program := "ytbanncpkgbiklaa", sum := "a53c08014161f3b3147cce640fe6451519138afa41e28e9159ad19dfb495ba17", func := "greenbelt/greenbeltlaw34.CreditTraces", spec := "creditTraces", inPlace := ["slices.overlaps[greenbelt/api.Account]"], apart := false }
def CreditTracesSaid : Prop := creditTracesRow.holds Try.pinned (OpenSpec.ofChange creditTracesSpec)

/-- ITS FALSE NEIGHBOUR: 'it returns false'. Refute it at one input. -/
def creditTracesWrong : ChangeSpec := { name := "creditTraces", fn := fun _ => fun
  | [d1, d2] => { results := [.lit (.bool false)], args := [d1, d2] }
  | _ => none }
def CreditTracesWrongFalsely : Prop := creditTracesRow.holds Try.pinned (OpenSpec.ofChange creditTracesWrong)

/-- 'greenbeltlaw34.CreditLimits': WHATEVER THE INPUT: true; the input reads as it did. -/
def creditLimitsSpec : ChangeSpec := { name := "creditLimits", fn := fun _ => fun
  | [d1, d2] => { results := [.lit (.bool true)], args := [d1, d2] }
  | _ => none }
def creditLimitsRow : OpenClaim := { program := "ytbanncpkgbiklaa", sum := "a53c08014161f3b3147cce640fe6451519138afa41e28e9159ad19dfb495ba17", func := "greenbelt/greenbeltlaw34.CreditLimits", spec := "creditLimits", inPlace := ["slices.overlaps[greenbelt/api.Account]"], apart := false }
def CreditLimitsSaid : Prop := creditLimitsRow.holds Try.pinned (OpenSpec.ofChange creditLimitsSpec)

/-- ITS FALSE NEIGHBOUR: 'it returns false'. Refute it at one input. -/
def creditLimitsWrong : ChangeSpec := { name := "creditLimits", fn := fun _ => fun
  | [d1, d2] => { results := [.lit (.bool false)], args := [d1, d2] }
  | _ => none }
def CreditLimitsWrongFalsely : Prop := creditLimitsRow.holds Try.pinned (OpenSpec.ofChange creditLimitsWrong)

/-- 'greenbeltlaw34.CreditSplits': WHATEVER THE INPUT: true; the input reads as it did. -/
def creditSplitsSpec : ChangeSpec := { name := "creditSplits", fn := fun _ => fun
  | [d1, d2, d3, d4, d5, d6] => { results := [.lit (.bool true)], args := [d1, d2, d3, d4, d5, d6] }
  | _ => none }
def creditSplitsRow : OpenClaim := { program := "ytbanncpkgbiklaa", sum := "a53c08014161f3b3147cce640fe6451519138afa41e28e9159ad19dfb495ba17", func := "greenbelt/greenbeltlaw34.CreditSplits", spec := "creditSplits", inPlace := ["slices.overlaps[greenbelt/api.Account]"], apart := false }
def CreditSplitsSaid : Prop := creditSplitsRow.holds Try.pinned (OpenSpec.ofChange creditSplitsSpec)

/-- ITS FALSE NEIGHBOUR: 'it returns false'. Refute it at one input. -/
def creditSplitsWrong : ChangeSpec := { name := "creditSplits", fn := fun _ => fun
  | [d1, d2, d3, d4, d5, d6] => { results := [.lit (.bool false)], args := [d1, d2, d3, d4, d5, d6] }
  | _ => none }
def CreditSplitsWrongFalsely : Prop := creditSplitsRow.holds Try.pinned (OpenSpec.ofChange creditSplitsWrong)

/-- 'greenbeltlaw34.CreditTells': WHATEVER THE INPUT: true; the input reads as it did. -/
def creditTellsSpec : ChangeSpec := { name := "creditTells", fn := fun _ => fun
  | [d1, d2, d3] => { results := [.lit (.bool true)], args := [d1, d2, d3] }
  | _ => none }
def creditTellsRow : OpenClaim := { program := "ytbanncpkgbiklaa", sum := "a53c08014161f3b3147cce640fe6451519138afa41e28e9159ad19dfb495ba17", func := "greenbelt/greenbeltlaw34.CreditTells", spec := "creditTells", inPlace := ["slices.overlaps[greenbelt/api.Account]"], apart := false }
def CreditTellsSaid : Prop := creditTellsRow.holds Try.pinned (OpenSpec.ofChange creditTellsSpec)

/-- ITS FALSE NEIGHBOUR: 'it returns false'. Refute it at one input. -/
def creditTellsWrong : ChangeSpec := { name := "creditTells", fn := fun _ => fun
  | [d1, d2, d3] => { results := [.lit (.bool false)], args := [d1, d2, d3] }
  | _ => none }
def CreditTellsWrongFalsely : Prop := creditTellsRow.holds Try.pinned (OpenSpec.ofChange creditTellsWrong)

/-- 'greenbeltlaw34.CreditKeeps': WHATEVER THE INPUT: true; the input reads as it did. -/
def creditKeepsSpec : ChangeSpec := { name := "creditKeeps", fn := fun _ => fun
  | [d1, d2] => { results := [.lit (.bool true)], args := [d1, d2] }
  | _ => none }
def creditKeepsRow : OpenClaim := { program := "ytbanncpkgbiklaa", sum := "a53c08014161f3b3147cce640fe6451519138afa41e28e9159ad19dfb495ba17", func := "greenbelt/greenbeltlaw34.CreditKeeps", spec := "creditKeeps", inPlace := ["slices.overlaps[greenbelt/api.Account]"], apart := false }
def CreditKeepsSaid : Prop := creditKeepsRow.holds Try.pinned (OpenSpec.ofChange creditKeepsSpec)

/-- ITS FALSE NEIGHBOUR: 'it returns false'. Refute it at one input. -/
def creditKeepsWrong : ChangeSpec := { name := "creditKeeps", fn := fun _ => fun
  | [d1, d2] => { results := [.lit (.bool false)], args := [d1, d2] }
  | _ => none }
def CreditKeepsWrongFalsely : Prop := creditKeepsRow.holds Try.pinned (OpenSpec.ofChange creditKeepsWrong)

/- THE SECOND FORM. 'bulk': how many values and letters a reading holds, each counted each time it is reached (what is shared counts as often as it is met; a slice's spare places count too). A statement '..UptoSaid' is the law's where the arguments, and the package variables that the reading takes, are together of bulk at most 1048576: NARROWER than '..Said'. Prove '..Said' where nothing that the law and all that it calls make is longer than what came in: it says more and counts as full. Else prove '..UptoSaid'. A law counts once. -/
mutual
def uptoBulk {H : Type} : DataW H → Nat
  | .lit (.string bytes) => bytes.length + 1
  | .lit _ => 1
  | .nil => 1
  | .ptr d => uptoBulk d + 1
  | .slice elems spare => uptoBulkAll elems + uptoBulkAll spare + 1
  | .agg parts => uptoBulkAll parts + 1
  | .iface _ d => uptoBulk d + 1
  | .map entries => uptoBulkEntries entries + 1
  | .held _ => 1
def uptoBulkAll {H : Type} : List (DataW H) → Nat
  | [] => 0
  | d :: r => uptoBulk d + uptoBulkAll r
def uptoBulkEntries {H : Type} : List (Lit × DataW H) → Nat
  | [] => 0
  | x :: r => uptoBulkEntry x + uptoBulkEntries r
def uptoBulkEntry {H : Type} : Lit × DataW H → Nat
  | (.string bytes, d) => bytes.length + uptoBulk d + 1
  | (_, d) => uptoBulk d + 1
 end
def uptoSmall : (H : Type) → List (DataW H) → Bool := fun _ ds => decide (uptoBulkAll ds ≤ 1048576)
def OpenSpec.upto (s : _root_.Go.ChangeSpec) : _root_.Go.OpenSpec := { _root_.Go.OpenSpec.ofChange s with cond := some uptoSmall }

/-- 'greenbeltlaw34.CreditTraces', WHERE WHAT IT READS IS OF BULK AT MOST 1048576: true; the input reads as it did. -/
def creditTracesUptoRow : OpenClaim := { program := "ytbanncpkgbiklaa", sum := "a53c08014161f3b3147cce640fe6451519138afa41e28e9159ad19dfb495ba17", func := "greenbelt/greenbeltlaw34.CreditTraces", spec := "creditTraces", inPlace := ["slices.overlaps[greenbelt/api.Account]"], apart := false, narrowed := true }
def CreditTracesUptoSaid : Prop := creditTracesUptoRow.holds Try.pinned (OpenSpec.upto creditTracesSpec)

/-- 'greenbeltlaw34.CreditLimits', WHERE WHAT IT READS IS OF BULK AT MOST 1048576: true; the input reads as it did. -/
def creditLimitsUptoRow : OpenClaim := { program := "ytbanncpkgbiklaa", sum := "a53c08014161f3b3147cce640fe6451519138afa41e28e9159ad19dfb495ba17", func := "greenbelt/greenbeltlaw34.CreditLimits", spec := "creditLimits", inPlace := ["slices.overlaps[greenbelt/api.Account]"], apart := false, narrowed := true }
def CreditLimitsUptoSaid : Prop := creditLimitsUptoRow.holds Try.pinned (OpenSpec.upto creditLimitsSpec)

/-- 'greenbeltlaw34.CreditSplits', WHERE WHAT IT READS IS OF BULK AT MOST 1048576: true; the input reads as it did. -/
def creditSplitsUptoRow : OpenClaim := { program := "ytbanncpkgbiklaa", sum := "a53c08014161f3b3147cce640fe6451519138afa41e28e9159ad19dfb495ba17", func := "greenbelt/greenbeltlaw34.CreditSplits", spec := "creditSplits", inPlace := ["slices.overlaps[greenbelt/api.Account]"], apart := false, narrowed := true }
def CreditSplitsUptoSaid : Prop := creditSplitsUptoRow.holds Try.pinned (OpenSpec.upto creditSplitsSpec)

/-- 'greenbeltlaw34.CreditTells', WHERE WHAT IT READS IS OF BULK AT MOST 1048576: true; the input reads as it did. -/
def creditTellsUptoRow : OpenClaim := { program := "ytbanncpkgbiklaa", sum := "a53c08014161f3b3147cce640fe6451519138afa41e28e9159ad19dfb495ba17", func := "greenbelt/greenbeltlaw34.CreditTells", spec := "creditTells", inPlace := ["slices.overlaps[greenbelt/api.Account]"], apart := false, narrowed := true }
def CreditTellsUptoSaid : Prop := creditTellsUptoRow.holds Try.pinned (OpenSpec.upto creditTellsSpec)

/-- 'greenbeltlaw34.CreditKeeps', WHERE WHAT IT READS IS OF BULK AT MOST 1048576: true; the input reads as it did. -/
def creditKeepsUptoRow : OpenClaim := { program := "ytbanncpkgbiklaa", sum := "a53c08014161f3b3147cce640fe6451519138afa41e28e9159ad19dfb495ba17", func := "greenbelt/greenbeltlaw34.CreditKeeps", spec := "creditKeeps", inPlace := ["slices.overlaps[greenbelt/api.Account]"], apart := false, narrowed := true }
def CreditKeepsUptoSaid : Prop := creditKeepsUptoRow.holds Try.pinned (OpenSpec.upto creditKeepsSpec)

end Rows
end Go.Proofs.Ytbanncpkgbiklaa
