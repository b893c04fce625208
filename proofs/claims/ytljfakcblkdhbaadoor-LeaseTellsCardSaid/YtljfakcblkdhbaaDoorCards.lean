/-
  DERIVED. GIVEN WITH THE SEED: THE CARDS: each row of YtljfakcblkdhbaaDoorRows.lean that lists a variable, with what it lists TIED to the program's text (the seventh form; the later family's looks); each row that meets fmt, with fmt's text TOLD by the authors' own Lean function (tested against real Go, not proved from fmt's source: count such statements apart). THE CARD IS WHAT COUNTS. Prove the row's statement (the work); the ties are given (YtljfakcblkdhbaaDoorTie.lean); close each card by the builder's one call (the guide's Derived/Test/ToyasCard.lean, 'card_holds'). Laid BY PROGRAM, IN A SANDBOX (cutbox-door.mjs). By AI agents, Wed Nov 11 2026. No macro, syntax, notation, axiom, sorry.
-/
import Derived.Test.YtljfakcblkdhbaaDoorRows
import GoSem.ClaimSeven
namespace Go.Proofs.YtljfakcblkdhbaaDoor
namespace Rows

/-- THE TIED CARD OF 'greenbeltlaw46.LeaseKeeps'. -/
def leaseKeepsCard : Claim7 := { stood := { row := leaseKeepsRow, standIns := [], harness := (true, "82aa4a8cc734470c21276c8415f14876de721f1079ec0b1e0d1c3550c24b4331"), looks := true }, kinds := [], alts := [], laidByText := true, laidKinds := [.data], laidTests := true, laidLooks := .later }
def LeaseKeepsCardSaid : Prop := Claim7.holds Tryd.pinned (.plain (OpenSpec.ofChange leaseKeepsSpec)) leaseKeepsCard

/-- THE TIED CARD OF 'greenbeltlaw46.LeaseSettles'. -/
def leaseSettlesCard : Claim7 := { stood := { row := leaseSettlesRow, standIns := [], harness := (true, "82aa4a8cc734470c21276c8415f14876de721f1079ec0b1e0d1c3550c24b4331"), looks := true }, kinds := [], alts := [], laidByText := true, laidKinds := [.data], laidTests := true, laidLooks := .later }
def LeaseSettlesCardSaid : Prop := Claim7.holds Tryd.pinned (.plain (OpenSpec.ofChange leaseSettlesSpec)) leaseSettlesCard

/-- THE TIED CARD OF 'greenbeltlaw46.LeaseOnce'. -/
def leaseOnceCard : Claim7 := { stood := { row := leaseOnceRow, standIns := [], harness := (true, "82aa4a8cc734470c21276c8415f14876de721f1079ec0b1e0d1c3550c24b4331"), looks := true }, kinds := [], alts := [], laidByText := true, laidKinds := [.data], laidTests := true, laidLooks := .later }
def LeaseOnceCardSaid : Prop := Claim7.holds Tryd.pinned (.plain (OpenSpec.ofChange leaseOnceSpec)) leaseOnceCard

/-- THE TIED CARD OF 'greenbeltlaw46.LeaseTells'. -/
def leaseTellsCard : Claim7 := { stood := { row := leaseTellsRow, standIns := [], harness := (true, "82aa4a8cc734470c21276c8415f14876de721f1079ec0b1e0d1c3550c24b4331"), looks := true }, kinds := [], alts := [], laidByText := true, laidKinds := [.data], laidTests := true, laidLooks := .later }
def LeaseTellsCardSaid : Prop := Claim7.holds Tryd.pinned (.plain (OpenSpec.ofChange leaseTellsSpec)) leaseTellsCard

/-- THE TIED CARD OF 'greenbeltlaw46.LeaseCovers'. -/
def leaseCoversCard : Claim7 := { stood := { row := leaseCoversRow, standIns := [], harness := (true, "82aa4a8cc734470c21276c8415f14876de721f1079ec0b1e0d1c3550c24b4331"), looks := true }, kinds := [], alts := [], laidByText := true, laidKinds := [.data], laidTests := true, laidLooks := .later }
def LeaseCoversCardSaid : Prop := Claim7.holds Tryd.pinned (.plain (OpenSpec.ofChange leaseCoversSpec)) leaseCoversCard

/-- THE SECOND FORM's CARD OF 'greenbeltlaw46.LeaseKeeps'. -/
def leaseKeepsUptoCard : Claim7 := { stood := { row := leaseKeepsUptoRow, standIns := [], harness := (true, "82aa4a8cc734470c21276c8415f14876de721f1079ec0b1e0d1c3550c24b4331"), looks := true }, kinds := [], alts := [], laidByText := true, laidKinds := [.data], laidTests := true, laidLooks := .later }
def LeaseKeepsUptoCardSaid : Prop := Claim7.holds Tryd.pinned (.plain (OpenSpec.upto leaseKeepsSpec)) leaseKeepsUptoCard

/-- THE SECOND FORM's CARD OF 'greenbeltlaw46.LeaseSettles'. -/
def leaseSettlesUptoCard : Claim7 := { stood := { row := leaseSettlesUptoRow, standIns := [], harness := (true, "82aa4a8cc734470c21276c8415f14876de721f1079ec0b1e0d1c3550c24b4331"), looks := true }, kinds := [], alts := [], laidByText := true, laidKinds := [.data], laidTests := true, laidLooks := .later }
def LeaseSettlesUptoCardSaid : Prop := Claim7.holds Tryd.pinned (.plain (OpenSpec.upto leaseSettlesSpec)) leaseSettlesUptoCard

/-- THE SECOND FORM's CARD OF 'greenbeltlaw46.LeaseOnce'. -/
def leaseOnceUptoCard : Claim7 := { stood := { row := leaseOnceUptoRow, standIns := [], harness := (true, "82aa4a8cc734470c21276c8415f14876de721f1079ec0b1e0d1c3550c24b4331"), looks := true }, kinds := [], alts := [], laidByText := true, laidKinds := [.data], laidTests := true, laidLooks := .later }
def LeaseOnceUptoCardSaid : Prop := Claim7.holds Tryd.pinned (.plain (OpenSpec.upto leaseOnceSpec)) leaseOnceUptoCard

/-- THE SECOND FORM's CARD OF 'greenbeltlaw46.LeaseTells'. -/
def leaseTellsUptoCard : Claim7 := { stood := { row := leaseTellsUptoRow, standIns := [], harness := (true, "82aa4a8cc734470c21276c8415f14876de721f1079ec0b1e0d1c3550c24b4331"), looks := true }, kinds := [], alts := [], laidByText := true, laidKinds := [.data], laidTests := true, laidLooks := .later }
def LeaseTellsUptoCardSaid : Prop := Claim7.holds Tryd.pinned (.plain (OpenSpec.upto leaseTellsSpec)) leaseTellsUptoCard

/-- THE SECOND FORM's CARD OF 'greenbeltlaw46.LeaseCovers'. -/
def leaseCoversUptoCard : Claim7 := { stood := { row := leaseCoversUptoRow, standIns := [], harness := (true, "82aa4a8cc734470c21276c8415f14876de721f1079ec0b1e0d1c3550c24b4331"), looks := true }, kinds := [], alts := [], laidByText := true, laidKinds := [.data], laidTests := true, laidLooks := .later }
def LeaseCoversUptoCardSaid : Prop := Claim7.holds Tryd.pinned (.plain (OpenSpec.upto leaseCoversSpec)) leaseCoversUptoCard
end Rows
end Go.Proofs.YtljfakcblkdhbaaDoor
