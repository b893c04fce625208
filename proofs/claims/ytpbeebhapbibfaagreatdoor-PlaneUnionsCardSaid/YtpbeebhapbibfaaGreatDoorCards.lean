/-
  DERIVED. GIVEN WITH THE SEED: THE CARDS: each row of YtpbeebhapbibfaaGreatDoorRows.lean that lists a variable, with what it lists TIED to the program's text (the seventh form; the later family's looks); each row that meets fmt, with fmt's text TOLD by the authors' own Lean function (tested against real Go, not proved from fmt's source: count such statements apart). THE CARD IS WHAT COUNTS. Prove the row's statement (the work); the ties are given (YtpbeebhapbibfaaGreatDoorTie.lean); close each card by the builder's one call (the guide's Derived/Test/ToyasCard.lean, 'card_holds'). Laid BY PROGRAM, IN A SANDBOX (cutbox-door.mjs). By AI agents, Wed Nov 11 2026. No macro, syntax, notation, axiom, sorry.
-/
import Derived.Test.YtpbeebhapbibfaaGreatDoorRows
import GoSem.ClaimSeven
namespace Go.Proofs.YtpbeebhapbibfaaGreatDoor
namespace Rows

/-- THE TIED CARD OF 'greenbeltlaw10.PlaneTells'. -/
def planeTellsCard : Claim7 := { stood := { row := planeTellsRow, standIns := [], harness := (true, "21de8dbc12bf9b4a14c8bf181f31eb794437822a9c3af03baddd29bf06afe61c"), looks := false }, kinds := [], alts := [], laidByText := true, laidKinds := [.data], laidTests := true, laidLooks := .later }
def PlaneTellsCardSaid : Prop := Claim7.holds Tryz.pinned (.plain (OpenSpec.ofChange planeTellsSpec)) planeTellsCard

/-- THE TIED CARD OF 'greenbeltlaw10.PlaneUnions'. -/
def planeUnionsCard : Claim7 := { stood := { row := planeUnionsRow, standIns := [], harness := (true, "21de8dbc12bf9b4a14c8bf181f31eb794437822a9c3af03baddd29bf06afe61c"), looks := false }, kinds := [], alts := [], laidByText := true, laidKinds := [.data], laidTests := true, laidLooks := .later }
def PlaneUnionsCardSaid : Prop := Claim7.holds Tryz.pinned (.plain (OpenSpec.ofChange planeUnionsSpec)) planeUnionsCard

/-- THE TIED CARD OF 'greenbeltlaw10.PlaneFirsts'. -/
def planeFirstsCard : Claim7 := { stood := { row := planeFirstsRow, standIns := [], harness := (true, "21de8dbc12bf9b4a14c8bf181f31eb794437822a9c3af03baddd29bf06afe61c"), looks := false }, kinds := [], alts := [], laidByText := true, laidKinds := [.data], laidTests := true, laidLooks := .later }
def PlaneFirstsCardSaid : Prop := Claim7.holds Tryz.pinned (.plain (OpenSpec.ofChange planeFirstsSpec)) planeFirstsCard

/-- THE SECOND FORM's CARD OF 'greenbeltlaw10.PlaneTells'. -/
def planeTellsUptoCard : Claim7 := { stood := { row := planeTellsUptoRow, standIns := [], harness := (true, "21de8dbc12bf9b4a14c8bf181f31eb794437822a9c3af03baddd29bf06afe61c"), looks := false }, kinds := [], alts := [], laidByText := true, laidKinds := [.data], laidTests := true, laidLooks := .later }
def PlaneTellsUptoCardSaid : Prop := Claim7.holds Tryz.pinned (.plain (OpenSpec.upto planeTellsSpec)) planeTellsUptoCard

/-- THE SECOND FORM's CARD OF 'greenbeltlaw10.PlaneUnions'. -/
def planeUnionsUptoCard : Claim7 := { stood := { row := planeUnionsUptoRow, standIns := [], harness := (true, "21de8dbc12bf9b4a14c8bf181f31eb794437822a9c3af03baddd29bf06afe61c"), looks := false }, kinds := [], alts := [], laidByText := true, laidKinds := [.data], laidTests := true, laidLooks := .later }
def PlaneUnionsUptoCardSaid : Prop := Claim7.holds Tryz.pinned (.plain (OpenSpec.upto planeUnionsSpec)) planeUnionsUptoCard

/-- THE SECOND FORM's CARD OF 'greenbeltlaw10.PlaneFirsts'. -/
def planeFirstsUptoCard : Claim7 := { stood := { row := planeFirstsUptoRow, standIns := [], harness := (true, "21de8dbc12bf9b4a14c8bf181f31eb794437822a9c3af03baddd29bf06afe61c"), looks := false }, kinds := [], alts := [], laidByText := true, laidKinds := [.data], laidTests := true, laidLooks := .later }
def PlaneFirstsUptoCardSaid : Prop := Claim7.holds Tryz.pinned (.plain (OpenSpec.upto planeFirstsSpec)) planeFirstsUptoCard
end Rows
end Go.Proofs.YtpbeebhapbibfaaGreatDoor
