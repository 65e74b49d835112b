/-
  DERIVED. GIVEN WITH THE SEED: THE CARDS: each row of YtbeodpcdjlphkaaGreatDoorRows.lean that lists a variable, with what it lists TIED to the program's text (the seventh form; the later family's looks); each row that meets fmt, with fmt's text TOLD by the authors' own Lean function (tested against real Go, not proved from fmt's source: count such statements apart). THE CARD IS WHAT COUNTS. Prove the row's statement (the work); the ties are given (YtbeodpcdjlphkaaGreatDoorTie.lean); close each card by the builder's one call (the guide's Derived/Test/ToyasCard.lean, 'card_holds'). Laid BY PROGRAM, IN A SANDBOX (cutbox-door.mjs). By AI agents, Wed Nov 11 2026. No macro, syntax, notation, axiom, sorry.
-/
import Derived.Test.YtbeodpcdjlphkaaGreatDoorRows
import GoSem.ClaimSeven
namespace Go.Proofs.YtbeodpcdjlphkaaGreatDoor
namespace Rows

/-- THE TIED CARD OF 'gatekeep2.HealthIsByItself'. -/
def healthIsByItselfCard : Claim7 := { stood := { row := healthIsByItselfRow, standIns := [], harness := (true, "246899744808c33b0a05c1c51a38a5e6df59d16d2f94d5a6d0153fe97f2739f7"), looks := true }, kinds := [], alts := [], laidByText := true, laidKinds := [.data, .data, .data, .data, .sentinel, .sentinel, .data, .data, .pinned, .pinned], laidTests := true, laidLooks := .later }
def HealthIsByItselfCardSaid : Prop := Claim7.holds Tryz.pinned (.plain (OpenSpec.ofChange healthIsByItselfSpec)) healthIsByItselfCard

/-- THE TIED CARD OF 'gatekeep2.ControlsComeBack'. -/
def controlsComeBackCard : Claim7 := { stood := { row := controlsComeBackRow, standIns := [], harness := (true, "246899744808c33b0a05c1c51a38a5e6df59d16d2f94d5a6d0153fe97f2739f7"), looks := true }, kinds := [], alts := [], laidByText := true, laidKinds := [.data, .data, .data, .data, .sentinel, .sentinel, .data, .data, .pinned, .pinned], laidTests := true, laidLooks := .later }
def ControlsComeBackCardSaid : Prop := Claim7.holds Tryz.pinned (.plain (OpenSpec.ofChange controlsComeBackSpec)) controlsComeBackCard

/-- THE SECOND FORM's CARD OF 'gatekeep2.HealthIsByItself'. -/
def healthIsByItselfUptoCard : Claim7 := { stood := { row := healthIsByItselfUptoRow, standIns := [], harness := (true, "246899744808c33b0a05c1c51a38a5e6df59d16d2f94d5a6d0153fe97f2739f7"), looks := true }, kinds := [], alts := [], laidByText := true, laidKinds := [.data, .data, .data, .data, .sentinel, .sentinel, .data, .data, .pinned, .pinned], laidTests := true, laidLooks := .later }
def HealthIsByItselfUptoCardSaid : Prop := Claim7.holds Tryz.pinned (.plain (OpenSpec.upto healthIsByItselfSpec)) healthIsByItselfUptoCard

/-- THE SECOND FORM's CARD OF 'gatekeep2.ControlsComeBack'. -/
def controlsComeBackUptoCard : Claim7 := { stood := { row := controlsComeBackUptoRow, standIns := [], harness := (true, "246899744808c33b0a05c1c51a38a5e6df59d16d2f94d5a6d0153fe97f2739f7"), looks := true }, kinds := [], alts := [], laidByText := true, laidKinds := [.data, .data, .data, .data, .sentinel, .sentinel, .data, .data, .pinned, .pinned], laidTests := true, laidLooks := .later }
def ControlsComeBackUptoCardSaid : Prop := Claim7.holds Tryz.pinned (.plain (OpenSpec.upto controlsComeBackSpec)) controlsComeBackUptoCard
end Rows
end Go.Proofs.YtbeodpcdjlphkaaGreatDoor
