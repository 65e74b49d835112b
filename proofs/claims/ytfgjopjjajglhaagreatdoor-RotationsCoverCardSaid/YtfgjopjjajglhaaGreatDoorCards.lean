/-
  DERIVED. GIVEN WITH THE SEED: THE CARDS: each row of YtfgjopjjajglhaaGreatDoorRows.lean that lists a variable, with what it lists TIED to the program's text (the seventh form; the later family's looks); each row that meets fmt, with fmt's text TOLD by the authors' own Lean function (tested against real Go, not proved from fmt's source: count such statements apart). THE CARD IS WHAT COUNTS. Prove the row's statement (the work); the ties are given (YtfgjopjjajglhaaGreatDoorTie.lean); close each card by the builder's one call (the guide's Derived/Test/ToyasCard.lean, 'card_holds'). Laid BY PROGRAM, IN A SANDBOX (cutbox-door.mjs). By AI agents, Wed Nov 11 2026. No macro, syntax, notation, axiom, sorry.
-/
import Derived.Test.YtfgjopjjajglhaaGreatDoorRows
import GoSem.ClaimSeven
namespace Go.Proofs.YtfgjopjjajglhaaGreatDoor
namespace Rows

/-- THE TIED CARD OF 'gatekeep2.RotationsCover'. -/
def rotationsCoverCard : Claim7 := { stood := { row := rotationsCoverRow, standIns := [], harness := (true, "6f1bf12b830af6342c3e025f9c2a97e4a5494257b5fe23153afc1ebcf5d4a233"), looks := true }, kinds := [], alts := [], laidByText := true, laidKinds := [.data, .data, .data, .data, .sentinel, .sentinel, .data, .data, .pinned, .pinned], laidTests := true, laidLooks := .later }
def RotationsCoverCardSaid : Prop := Claim7.holds Tryz.pinned (.plain (OpenSpec.ofChange rotationsCoverSpec)) rotationsCoverCard

/-- THE SECOND FORM's CARD OF 'gatekeep2.RotationsCover'. -/
def rotationsCoverUptoCard : Claim7 := { stood := { row := rotationsCoverUptoRow, standIns := [], harness := (true, "6f1bf12b830af6342c3e025f9c2a97e4a5494257b5fe23153afc1ebcf5d4a233"), looks := true }, kinds := [], alts := [], laidByText := true, laidKinds := [.data, .data, .data, .data, .sentinel, .sentinel, .data, .data, .pinned, .pinned], laidTests := true, laidLooks := .later }
def RotationsCoverUptoCardSaid : Prop := Claim7.holds Tryz.pinned (.plain (OpenSpec.upto rotationsCoverSpec)) rotationsCoverUptoCard
end Rows
end Go.Proofs.YtfgjopjjajglhaaGreatDoor
