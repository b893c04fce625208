/-
  NARROWER THAN 'FOR EVERY INPUT', by the rows' own cells (each row's printed sentence says how): LeaseKeeps: laid · LeaseSettles: laid · LeaseOnce: laid · LeaseTells: laid · LeaseCovers: laid.
  DERIVED. THE GIVEN ROWS OF THIS SEAT. 5 by the template 'for every input the law returns true; each argument reads behind the call as it read before'; 0 by the template 'total and deterministic' (their statements: YtljfakcblkdhbaaDoorTotals.lean).
  GIVEN WITH THE SEED: the statements are not yours to turn. If you find one false, say at which input.
  Laid BY PROGRAM, IN A SANDBOX (cutbox-rows.mjs): the forced cells as the released guide's own fill.sh prints them over the translation 6ef5d480d7706192… (all of the seat's roots in one cut). By AI agents, Wed Nov 11 2026. No macro, syntax, notation, axiom, sorry.
-/
import Derived.Test.YtljfakcblkdhbaaDoorChecked
import GoSem.Claim
import GoSem.ClaimJoined
import GoSem.ClaimMapViews
import Derived.JoinedTies
import Derived.KernelRfl
namespace Go.Proofs.YtljfakcblkdhbaaDoor
/- THE CELL 'sum', in the pinned program and in every row, IS THE sha256 OF THE DUMP (.gsa) THAT YtljfakcblkdhbaaDoorProg.lean LOADS. Nothing in Lean hashes anything: it is a label: what it is worth is what the hold of that sum in a sandbox is worth. -/
noncomputable def Tryd.pinned : Pinned := { name := "ytljfakcblkdhbaadoor", sum := "6ef5d480d77061923a919d38fea503f475f31020d92f00bd0fb6b880487e18fd", checked := Tryd.checked }
namespace Rows
def none {H : Type} : Left H := { results := [], args := [] }

/- WHAT THE LISTED PACKAGE-LEVEL VARIABLES READ AS WHEN THE CALL BEGINS. Each datum BY PROGRAM (the guide's laid-datum.mjs) off the statement by which the dump's own 'gosem.cut.vars' lays the variable. In a bare row this is a premise. The card (YtljfakcblkdhbaaDoorCards.lean) ties it to the program's text. -/
def laid_greenbelt_lease_zero {H : Type} : DataW H := .agg [.lit (.int .i64 (-1)), .lit (.int .i64 0)]

/-- 'greenbeltlaw46.LeaseKeeps': WHATEVER THE INPUT: true; the input reads as it did. -/
def leaseKeepsSpec : ChangeSpec := { name := "leaseKeeps", fn := fun _ => fun
  | [d1, d2] => { results := [.lit (.bool true)], args := [d1, d2] }
  | _ => none }
def leaseKeepsRow : OpenClaim := { program := "ytljfakcblkdhbaadoor", sum := "6ef5d480d77061923a919d38fea503f475f31020d92f00bd0fb6b880487e18fd", func := "greenbelt/greenbeltlaw46.LeaseKeeps", spec := "leaseKeeps", unfollowed := true, recurses := true, named := ["greenbelt/lease.zero"], plainKeys := false, apart := false, laid := [("greenbelt/lease.zero", laid_greenbelt_lease_zero)] }
def LeaseKeepsSaid : Prop := leaseKeepsRow.holds Tryd.pinned (OpenSpec.ofChange leaseKeepsSpec)

/-- ITS FALSE NEIGHBOUR: 'it returns false'. Refute it at one input. -/
def leaseKeepsWrong : ChangeSpec := { name := "leaseKeeps", fn := fun _ => fun
  | [d1, d2] => { results := [.lit (.bool false)], args := [d1, d2] }
  | _ => none }
def LeaseKeepsWrongFalsely : Prop := leaseKeepsRow.holds Tryd.pinned (OpenSpec.ofChange leaseKeepsWrong)

/-- 'greenbeltlaw46.LeaseSettles': WHATEVER THE INPUT: true; the input reads as it did. -/
def leaseSettlesSpec : ChangeSpec := { name := "leaseSettles", fn := fun _ => fun
  | [d1, d2] => { results := [.lit (.bool true)], args := [d1, d2] }
  | _ => none }
def leaseSettlesRow : OpenClaim := { program := "ytljfakcblkdhbaadoor", sum := "6ef5d480d77061923a919d38fea503f475f31020d92f00bd0fb6b880487e18fd", func := "greenbelt/greenbeltlaw46.LeaseSettles", spec := "leaseSettles", unfollowed := true, recurses := true, named := ["greenbelt/lease.zero"], plainKeys := false, apart := false, laid := [("greenbelt/lease.zero", laid_greenbelt_lease_zero)] }
def LeaseSettlesSaid : Prop := leaseSettlesRow.holds Tryd.pinned (OpenSpec.ofChange leaseSettlesSpec)

/-- ITS FALSE NEIGHBOUR: 'it returns false'. Refute it at one input. -/
def leaseSettlesWrong : ChangeSpec := { name := "leaseSettles", fn := fun _ => fun
  | [d1, d2] => { results := [.lit (.bool false)], args := [d1, d2] }
  | _ => none }
def LeaseSettlesWrongFalsely : Prop := leaseSettlesRow.holds Tryd.pinned (OpenSpec.ofChange leaseSettlesWrong)

/-- 'greenbeltlaw46.LeaseOnce': WHATEVER THE INPUT: true; the input reads as it did. -/
def leaseOnceSpec : ChangeSpec := { name := "leaseOnce", fn := fun _ => fun
  | [d1, d2, d3, d4] => { results := [.lit (.bool true)], args := [d1, d2, d3, d4] }
  | _ => none }
def leaseOnceRow : OpenClaim := { program := "ytljfakcblkdhbaadoor", sum := "6ef5d480d77061923a919d38fea503f475f31020d92f00bd0fb6b880487e18fd", func := "greenbelt/greenbeltlaw46.LeaseOnce", spec := "leaseOnce", inPlace := ["maps.clone"], unfollowed := true, recurses := true, named := ["greenbelt/lease.zero"], plainKeys := false, apart := false, laid := [("greenbelt/lease.zero", laid_greenbelt_lease_zero)] }
def LeaseOnceSaid : Prop := leaseOnceRow.holds Tryd.pinned (OpenSpec.ofChange leaseOnceSpec)

/-- ITS FALSE NEIGHBOUR: 'it returns false'. Refute it at one input. -/
def leaseOnceWrong : ChangeSpec := { name := "leaseOnce", fn := fun _ => fun
  | [d1, d2, d3, d4] => { results := [.lit (.bool false)], args := [d1, d2, d3, d4] }
  | _ => none }
def LeaseOnceWrongFalsely : Prop := leaseOnceRow.holds Tryd.pinned (OpenSpec.ofChange leaseOnceWrong)

/-- 'greenbeltlaw46.LeaseTells': WHATEVER THE INPUT: true; the input reads as it did. -/
def leaseTellsSpec : ChangeSpec := { name := "leaseTells", fn := fun _ => fun
  | [d1, d2, d3, d4, d5, d6] => { results := [.lit (.bool true)], args := [d1, d2, d3, d4, d5, d6] }
  | _ => none }
def leaseTellsRow : OpenClaim := { program := "ytljfakcblkdhbaadoor", sum := "6ef5d480d77061923a919d38fea503f475f31020d92f00bd0fb6b880487e18fd", func := "greenbelt/greenbeltlaw46.LeaseTells", spec := "leaseTells", inPlace := ["maps.clone"], unfollowed := true, recurses := true, named := ["greenbelt/lease.zero"], plainKeys := false, apart := false, laid := [("greenbelt/lease.zero", laid_greenbelt_lease_zero)] }
def LeaseTellsSaid : Prop := leaseTellsRow.holds Tryd.pinned (OpenSpec.ofChange leaseTellsSpec)

/-- ITS FALSE NEIGHBOUR: 'it returns false'. Refute it at one input. -/
def leaseTellsWrong : ChangeSpec := { name := "leaseTells", fn := fun _ => fun
  | [d1, d2, d3, d4, d5, d6] => { results := [.lit (.bool false)], args := [d1, d2, d3, d4, d5, d6] }
  | _ => none }
def LeaseTellsWrongFalsely : Prop := leaseTellsRow.holds Tryd.pinned (OpenSpec.ofChange leaseTellsWrong)

/-- 'greenbeltlaw46.LeaseCovers': WHATEVER THE INPUT: true; the input reads as it did. -/
def leaseCoversSpec : ChangeSpec := { name := "leaseCovers", fn := fun _ => fun
  | [d1, d2, d3, d4] => { results := [.lit (.bool true)], args := [d1, d2, d3, d4] }
  | _ => none }
def leaseCoversRow : OpenClaim := { program := "ytljfakcblkdhbaadoor", sum := "6ef5d480d77061923a919d38fea503f475f31020d92f00bd0fb6b880487e18fd", func := "greenbelt/greenbeltlaw46.LeaseCovers", spec := "leaseCovers", inPlace := ["maps.clone"], unfollowed := true, recurses := true, named := ["greenbelt/lease.zero"], plainKeys := false, apart := false, laid := [("greenbelt/lease.zero", laid_greenbelt_lease_zero)] }
def LeaseCoversSaid : Prop := leaseCoversRow.holds Tryd.pinned (OpenSpec.ofChange leaseCoversSpec)

/-- ITS FALSE NEIGHBOUR: 'it returns false'. Refute it at one input. -/
def leaseCoversWrong : ChangeSpec := { name := "leaseCovers", fn := fun _ => fun
  | [d1, d2, d3, d4] => { results := [.lit (.bool false)], args := [d1, d2, d3, d4] }
  | _ => none }
def LeaseCoversWrongFalsely : Prop := leaseCoversRow.holds Tryd.pinned (OpenSpec.ofChange leaseCoversWrong)

/- THE SECOND FORM. 'bulk': how many values and letters a reading holds, each counted each time it is reached (what is shared counts as often as it is met; a slice's spare places count too). A statement '..UptoSaid' is the law's where the arguments, and the package variables that the reading takes, are together of bulk at most 1048576: NARROWER than '..Said'. Prove '..Said' where nothing that the law and all that it calls make is longer than what came in: it says more and counts as full. Else prove '..UptoSaid'. A law counts once. -/
mutual
def uptoBulk {H : Type} : DataW H → Nat
  | .lit (.string bytes) => bytes.length + 1
  | .lit _ => 1
  | .nil => 1
  | .ptr d => uptoBulk d + 1
  | .slice elems spare => uptoBulkAll elems + uptoBulkAll spare + 1
  | .agg parts => uptoBulkAll parts + 1
  | .iface _ d => uptoBulk d + 1
  | .map entries => uptoBulkEntries entries + 1
  | .held _ => 1
def uptoBulkAll {H : Type} : List (DataW H) → Nat
  | [] => 0
  | d :: r => uptoBulk d + uptoBulkAll r
def uptoBulkEntries {H : Type} : List (Lit × DataW H) → Nat
  | [] => 0
  | x :: r => uptoBulkEntry x + uptoBulkEntries r
def uptoBulkEntry {H : Type} : Lit × DataW H → Nat
  | (.string bytes, d) => bytes.length + uptoBulk d + 1
  | (_, d) => uptoBulk d + 1
 end
def uptoSmall : (H : Type) → List (DataW H) → Bool := fun _ ds => decide (uptoBulkAll ds ≤ 1048576)
def OpenSpec.upto (s : _root_.Go.ChangeSpec) : _root_.Go.OpenSpec := { _root_.Go.OpenSpec.ofChange s with cond := some uptoSmall }

/-- 'greenbeltlaw46.LeaseKeeps', WHERE WHAT IT READS IS OF BULK AT MOST 1048576: true; the input reads as it did. -/
def leaseKeepsUptoRow : OpenClaim := { program := "ytljfakcblkdhbaadoor", sum := "6ef5d480d77061923a919d38fea503f475f31020d92f00bd0fb6b880487e18fd", func := "greenbelt/greenbeltlaw46.LeaseKeeps", spec := "leaseKeeps", unfollowed := true, recurses := true, named := ["greenbelt/lease.zero"], plainKeys := false, apart := false, laid := [("greenbelt/lease.zero", laid_greenbelt_lease_zero)], narrowed := true }
def LeaseKeepsUptoSaid : Prop := leaseKeepsUptoRow.holds Tryd.pinned (OpenSpec.upto leaseKeepsSpec)

/-- 'greenbeltlaw46.LeaseSettles', WHERE WHAT IT READS IS OF BULK AT MOST 1048576: true; the input reads as it did. -/
def leaseSettlesUptoRow : OpenClaim := { program := "ytljfakcblkdhbaadoor", sum := "6ef5d480d77061923a919d38fea503f475f31020d92f00bd0fb6b880487e18fd", func := "greenbelt/greenbeltlaw46.LeaseSettles", spec := "leaseSettles", unfollowed := true, recurses := true, named := ["greenbelt/lease.zero"], plainKeys := false, apart := false, laid := [("greenbelt/lease.zero", laid_greenbelt_lease_zero)], narrowed := true }
def LeaseSettlesUptoSaid : Prop := leaseSettlesUptoRow.holds Tryd.pinned (OpenSpec.upto leaseSettlesSpec)

/-- 'greenbeltlaw46.LeaseOnce', WHERE WHAT IT READS IS OF BULK AT MOST 1048576: true; the input reads as it did. -/
def leaseOnceUptoRow : OpenClaim := { program := "ytljfakcblkdhbaadoor", sum := "6ef5d480d77061923a919d38fea503f475f31020d92f00bd0fb6b880487e18fd", func := "greenbelt/greenbeltlaw46.LeaseOnce", spec := "leaseOnce", inPlace := ["maps.clone"], unfollowed := true, recurses := true, named := ["greenbelt/lease.zero"], plainKeys := false, apart := false, laid := [("greenbelt/lease.zero", laid_greenbelt_lease_zero)], narrowed := true }
def LeaseOnceUptoSaid : Prop := leaseOnceUptoRow.holds Tryd.pinned (OpenSpec.upto leaseOnceSpec)

/-- 'greenbeltlaw46.LeaseTells', WHERE WHAT IT READS IS OF BULK AT MOST 1048576: true; the input reads as it did. -/
def leaseTellsUptoRow : OpenClaim := { program := "ytljfakcblkdhbaadoor", sum := "6ef5d480d77061923a919d38fea503f475f31020d92f00bd0fb6b880487e18fd", func := "greenbelt/greenbeltlaw46.LeaseTells", spec := "leaseTells", inPlace := ["maps.clone"], unfollowed := true, recurses := true, named := ["greenbelt/lease.zero"], plainKeys := false, apart := false, laid := [("greenbelt/lease.zero", laid_greenbelt_lease_zero)], narrowed := true }
def LeaseTellsUptoSaid : Prop := leaseTellsUptoRow.holds Tryd.pinned (OpenSpec.upto leaseTellsSpec)

/-- 'greenbeltlaw46.LeaseCovers', WHERE WHAT IT READS IS OF BULK AT MOST 1048576: true; the input reads as it did. -/
def leaseCoversUptoRow : OpenClaim := { program := "ytljfakcblkdhbaadoor", sum := "6ef5d480d77061923a919d38fea503f475f31020d92f00bd0fb6b880487e18fd", func := "greenbelt/greenbeltlaw46.LeaseCovers", spec := "leaseCovers", inPlace := ["maps.clone"], unfollowed := true, recurses := true, named := ["greenbelt/lease.zero"], plainKeys := false, apart := false, laid := [("greenbelt/lease.zero", laid_greenbelt_lease_zero)], narrowed := true }
def LeaseCoversUptoSaid : Prop := leaseCoversUptoRow.holds Tryd.pinned (OpenSpec.upto leaseCoversSpec)

end Rows
end Go.Proofs.YtljfakcblkdhbaaDoor
