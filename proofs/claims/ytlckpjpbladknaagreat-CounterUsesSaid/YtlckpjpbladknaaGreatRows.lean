/-
  NARROWER THAN 'FOR EVERY INPUT', by the rows' own cells (each row's printed sentence says how): CounterErrors: loops · CounterShades: loops · CounterUses: loops.
  DERIVED. THE GIVEN ROWS OF THIS SEAT. 3 by the template 'for every input the law returns true; each argument reads behind the call as it read before'; 0 by the template 'total and deterministic' (their statements: YtlckpjpbladknaaGreatTotals.lean).
  GIVEN WITH THE SEED: the statements are not yours to turn. If you find one false, say at which input.
  Laid BY PROGRAM, IN A SANDBOX (cutbox-rows.mjs): the forced cells as the released guide's own fill.sh prints them over the translation d1c69f63241dc1eb… (all of the seat's roots in one cut). By AI agents, Wed Nov 11 2026. No macro, syntax, notation, axiom, sorry.
-/
import Derived.Test.YtlckpjpbladknaaGreatChecked
import GoSem.Claim
import GoSem.ClaimJoined
import GoSem.ClaimMapViews
import Derived.JoinedTies
import Derived.KernelRfl
namespace Go.Proofs.YtlckpjpbladknaaGreat
/- THE CELL 'sum', in the pinned program and in every row, IS THE sha256 OF THE DUMP (.gsa) THAT YtlckpjpbladknaaGreatProg.lean LOADS. Nothing in Lean hashes anything: it is a label: what it is worth is what the hold of that sum in a sandbox is worth. -/
noncomputable def Tryz.pinned : Pinned := { name := "ytlckpjpbladknaagreat", sum := "d1c69f63241dc1ebcf5b9fd202ddae89a647a03e4b7ce25477b8a78505d3ce15", checked := Tryz.checked }
namespace Rows
def none {H : Type} : Left H := { results := [], args := [] }

/-- 'greenbeltlaw47.CounterErrors': WHATEVER THE INPUT: true; the input reads as it did. -/
def counterErrorsSpec : ChangeSpec := { name := "counterErrors", fn := fun _ => fun
  | [d1, d2, d3, d4, d5] => { results := [.lit (.bool true)], args := [d1, d2, d3, d4, d5] }
  | _ => none }
def counterErrorsRow : OpenClaim := { program := "ytlckpjpbladknaagreat", sum := "d1c69f63241dc1ebcf5b9fd202ddae89a647a03e4b7ce25477b8a78505d3ce15", func := "greenbelt/greenbeltlaw47.CounterErrors", spec := "counterErrors", inPlace := ["internal/bytealg.IndexByteString", "internal/bytealg.IndexString", "slices.overlaps[greenbelt/api.Filing]"], unfollowed := true, recurses := true, named := ["internal/bytealg.MaxLen"], loops := true, plainKeys := false, apart := false }
def CounterErrorsSaid : Prop := counterErrorsRow.holds Tryz.pinned (OpenSpec.ofChange counterErrorsSpec)

/-- ITS FALSE NEIGHBOUR: 'it returns false'. Refute it at one input. -/
def counterErrorsWrong : ChangeSpec := { name := "counterErrors", fn := fun _ => fun
  | [d1, d2, d3, d4, d5] => { results := [.lit (.bool false)], args := [d1, d2, d3, d4, d5] }
  | _ => none }
def CounterErrorsWrongFalsely : Prop := counterErrorsRow.holds Tryz.pinned (OpenSpec.ofChange counterErrorsWrong)

/-- 'greenbeltlaw47.CounterShades': WHATEVER THE INPUT: true; the input reads as it did. -/
def counterShadesSpec : ChangeSpec := { name := "counterShades", fn := fun _ => fun
  | [d1, d2, d3, d4] => { results := [.lit (.bool true)], args := [d1, d2, d3, d4] }
  | _ => none }
def counterShadesRow : OpenClaim := { program := "ytlckpjpbladknaagreat", sum := "d1c69f63241dc1ebcf5b9fd202ddae89a647a03e4b7ce25477b8a78505d3ce15", func := "greenbelt/greenbeltlaw47.CounterShades", spec := "counterShades", inPlace := ["internal/bytealg.IndexByteString", "internal/bytealg.IndexString", "slices.overlaps[greenbelt/api.Filing]"], unfollowed := true, recurses := true, named := ["internal/bytealg.MaxLen"], loops := true, plainKeys := false, apart := false }
def CounterShadesSaid : Prop := counterShadesRow.holds Tryz.pinned (OpenSpec.ofChange counterShadesSpec)

/-- ITS FALSE NEIGHBOUR: 'it returns false'. Refute it at one input. -/
def counterShadesWrong : ChangeSpec := { name := "counterShades", fn := fun _ => fun
  | [d1, d2, d3, d4] => { results := [.lit (.bool false)], args := [d1, d2, d3, d4] }
  | _ => none }
def CounterShadesWrongFalsely : Prop := counterShadesRow.holds Tryz.pinned (OpenSpec.ofChange counterShadesWrong)

/-- 'greenbeltlaw47.CounterUses': WHATEVER THE INPUT: true; the input reads as it did. -/
def counterUsesSpec : ChangeSpec := { name := "counterUses", fn := fun _ => fun
  | [d1, d2, d3, d4, d5] => { results := [.lit (.bool true)], args := [d1, d2, d3, d4, d5] }
  | _ => none }
def counterUsesRow : OpenClaim := { program := "ytlckpjpbladknaagreat", sum := "d1c69f63241dc1ebcf5b9fd202ddae89a647a03e4b7ce25477b8a78505d3ce15", func := "greenbelt/greenbeltlaw47.CounterUses", spec := "counterUses", inPlace := ["internal/bytealg.IndexByteString", "internal/bytealg.IndexString", "slices.overlaps[greenbelt/api.Filing]", "maps.clone"], unfollowed := true, recurses := true, named := ["internal/bytealg.MaxLen"], loops := true, plainKeys := false, apart := false }
def CounterUsesSaid : Prop := counterUsesRow.holds Tryz.pinned (OpenSpec.ofChange counterUsesSpec)

/-- ITS FALSE NEIGHBOUR: 'it returns false'. Refute it at one input. -/
def counterUsesWrong : ChangeSpec := { name := "counterUses", fn := fun _ => fun
  | [d1, d2, d3, d4, d5] => { results := [.lit (.bool false)], args := [d1, d2, d3, d4, d5] }
  | _ => none }
def CounterUsesWrongFalsely : Prop := counterUsesRow.holds Tryz.pinned (OpenSpec.ofChange counterUsesWrong)

/- THE SECOND FORM. 'bulk': how many values and letters a reading holds, each counted each time it is reached (what is shared counts as often as it is met; a slice's spare places count too). A statement '..UptoSaid' is the law's where the arguments, and the package variables that the reading takes, are together of bulk at most 1048576: NARROWER than '..Said'. Prove '..Said' where nothing that the law and all that it calls make is longer than what came in: it says more and counts as full. Else prove '..UptoSaid'. A law counts once. -/
mutual
def uptoBulk {H : Type} : DataW H → Nat
  | .lit (.string bytes) => bytes.length + 1
  | .lit _ => 1
  | .nil => 1
  | .ptr d => uptoBulk d + 1
  | .slice elems spare => uptoBulkAll elems + uptoBulkAll spare + 1
  | .agg parts => uptoBulkAll parts + 1
  | .iface _ d => uptoBulk d + 1
  | .map entries => uptoBulkEntries entries + 1
  | .held _ => 1
def uptoBulkAll {H : Type} : List (DataW H) → Nat
  | [] => 0
  | d :: r => uptoBulk d + uptoBulkAll r
def uptoBulkEntries {H : Type} : List (Lit × DataW H) → Nat
  | [] => 0
  | x :: r => uptoBulkEntry x + uptoBulkEntries r
def uptoBulkEntry {H : Type} : Lit × DataW H → Nat
  | (.string bytes, d) => bytes.length + uptoBulk d + 1
  | (_, d) => uptoBulk d + 1
 end
def uptoSmall : (H : Type) → List (DataW H) → Bool := fun _ ds => decide (uptoBulkAll ds ≤ 1048576)
def OpenSpec.upto (s : _root_.Go.ChangeSpec) : _root_.Go.OpenSpec := { _root_.Go.OpenSpec.ofChange s with cond := some uptoSmall }

/-- 'greenbeltlaw47.CounterErrors', WHERE WHAT IT READS IS OF BULK AT MOST 1048576: true; the input reads as it did. -/
def counterErrorsUptoRow : OpenClaim := { program := "ytlckpjpbladknaagreat", sum := "d1c69f63241dc1ebcf5b9fd202ddae89a647a03e4b7ce25477b8a78505d3ce15", func := "greenbelt/greenbeltlaw47.CounterErrors", spec := "counterErrors", inPlace := ["internal/bytealg.IndexByteString", "internal/bytealg.IndexString", "slices.overlaps[greenbelt/api.Filing]"], unfollowed := true, recurses := true, named := ["internal/bytealg.MaxLen"], loops := true, plainKeys := false, apart := false, narrowed := true }
def CounterErrorsUptoSaid : Prop := counterErrorsUptoRow.holds Tryz.pinned (OpenSpec.upto counterErrorsSpec)

/-- 'greenbeltlaw47.CounterShades', WHERE WHAT IT READS IS OF BULK AT MOST 1048576: true; the input reads as it did. -/
def counterShadesUptoRow : OpenClaim := { program := "ytlckpjpbladknaagreat", sum := "d1c69f63241dc1ebcf5b9fd202ddae89a647a03e4b7ce25477b8a78505d3ce15", func := "greenbelt/greenbeltlaw47.CounterShades", spec := "counterShades", inPlace := ["internal/bytealg.IndexByteString", "internal/bytealg.IndexString", "slices.overlaps[greenbelt/api.Filing]"], unfollowed := true, recurses := true, named := ["internal/bytealg.MaxLen"], loops := true, plainKeys := false, apart := false, narrowed := true }
def CounterShadesUptoSaid : Prop := counterShadesUptoRow.holds Tryz.pinned (OpenSpec.upto counterShadesSpec)

/-- 'greenbeltlaw47.CounterUses', WHERE WHAT IT READS IS OF BULK AT MOST 1048576: true; the input reads as it did. -/
def counterUsesUptoRow : OpenClaim := { program := "ytlckpjpbladknaagreat", sum := "d1c69f63241dc1ebcf5b9fd202ddae89a647a03e4b7ce25477b8a78505d3ce15", func := "greenbelt/greenbeltlaw47.CounterUses", spec := "counterUses", inPlace := ["internal/bytealg.IndexByteString", "internal/bytealg.IndexString", "slices.overlaps[greenbelt/api.Filing]", "maps.clone"], unfollowed := true, recurses := true, named := ["internal/bytealg.MaxLen"], loops := true, plainKeys := false, apart := false, narrowed := true }
def CounterUsesUptoSaid : Prop := counterUsesUptoRow.holds Tryz.pinned (OpenSpec.upto counterUsesSpec)

end Rows
end Go.Proofs.YtlckpjpbladknaaGreat
