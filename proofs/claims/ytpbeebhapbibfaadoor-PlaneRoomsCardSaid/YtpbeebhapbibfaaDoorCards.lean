/-
  DERIVED. GIVEN WITH THE SEED: THE CARDS: each row of YtpbeebhapbibfaaDoorRows.lean that lists a variable, with what it lists TIED to the program's text (the seventh form; the later family's looks); each row that meets fmt, with fmt's text TOLD by the authors' own Lean function (tested against real Go, not proved from fmt's source: count such statements apart). THE CARD IS WHAT COUNTS. Prove the row's statement (the work); the ties are given (YtpbeebhapbibfaaDoorTie.lean); close each card by the builder's one call (the guide's Derived/Test/ToyasCard.lean, 'card_holds'). Laid BY PROGRAM, IN A SANDBOX (cutbox-door.mjs). By AI agents, Wed Nov 11 2026. No macro, syntax, notation, axiom, sorry.
-/
import Derived.Test.YtpbeebhapbibfaaDoorRows
import GoSem.ClaimSeven
namespace Go.Proofs.YtpbeebhapbibfaaDoor
namespace Rows

/-- THE TIED CARD OF 'greenbeltlaw10.PlaneCubes'. -/
def planeCubesCard : Claim7 := { stood := { row := planeCubesRow, standIns := [], harness := (true, "54192e92a02223c23a34230bc47be1cd6a3f998f134d774a97ebc68ffaddf891"), looks := false }, kinds := [], alts := [], laidByText := true, laidKinds := [.data], laidTests := true, laidLooks := .later }
def PlaneCubesCardSaid : Prop := Claim7.holds Tryd.pinned (.plain (OpenSpec.ofChange planeCubesSpec)) planeCubesCard

/-- THE TIED CARD OF 'greenbeltlaw10.PlaneRooms'. -/
def planeRoomsCard : Claim7 := { stood := { row := planeRoomsRow, standIns := [], harness := (true, "54192e92a02223c23a34230bc47be1cd6a3f998f134d774a97ebc68ffaddf891"), looks := false }, kinds := [], alts := [], laidByText := true, laidKinds := [.data], laidTests := true, laidLooks := .later }
def PlaneRoomsCardSaid : Prop := Claim7.holds Tryd.pinned (.plain (OpenSpec.ofChange planeRoomsSpec)) planeRoomsCard

/-- THE SECOND FORM's CARD OF 'greenbeltlaw10.PlaneCubes'. -/
def planeCubesUptoCard : Claim7 := { stood := { row := planeCubesUptoRow, standIns := [], harness := (true, "54192e92a02223c23a34230bc47be1cd6a3f998f134d774a97ebc68ffaddf891"), looks := false }, kinds := [], alts := [], laidByText := true, laidKinds := [.data], laidTests := true, laidLooks := .later }
def PlaneCubesUptoCardSaid : Prop := Claim7.holds Tryd.pinned (.plain (OpenSpec.upto planeCubesSpec)) planeCubesUptoCard

/-- THE SECOND FORM's CARD OF 'greenbeltlaw10.PlaneRooms'. -/
def planeRoomsUptoCard : Claim7 := { stood := { row := planeRoomsUptoRow, standIns := [], harness := (true, "54192e92a02223c23a34230bc47be1cd6a3f998f134d774a97ebc68ffaddf891"), looks := false }, kinds := [], alts := [], laidByText := true, laidKinds := [.data], laidTests := true, laidLooks := .later }
def PlaneRoomsUptoCardSaid : Prop := Claim7.holds Tryd.pinned (.plain (OpenSpec.upto planeRoomsSpec)) planeRoomsUptoCard
end Rows
end Go.Proofs.YtpbeebhapbibfaaDoor
