/-
  DERIVED. GIVEN WITH THE SEED: THE CARDS: each row of YtjphemllikflpaaGreatDoorRows.lean that lists a variable, with what it lists TIED to the program's text (the seventh form; the later family's looks); each row that meets fmt, with fmt's text TOLD by the authors' own Lean function (tested against real Go, not proved from fmt's source: count such statements apart). THE CARD IS WHAT COUNTS. Prove the row's statement (the work); the ties are given (YtjphemllikflpaaGreatDoorTie.lean); close each card by the builder's one call (the guide's Derived/Test/ToyasCard.lean, 'card_holds'). Laid BY PROGRAM, IN A SANDBOX (cutbox-door.mjs). By AI agents, Wed Nov 11 2026. No macro, syntax, notation, axiom, sorry.
-/
import Derived.Test.YtjphemllikflpaaGreatDoorRows
import GoSem.ClaimSeven
namespace Go.Proofs.YtjphemllikflpaaGreatDoor
namespace Rows

/-- THE TIED CARD OF 'gatekeep2.BytesComeBack'. -/
def bytesComeBackCard : Claim7 := { stood := { row := bytesComeBackRow, standIns := [], harness := (true, "e2dab91cfa59e91e9400167f66fb8cc32a5bd672ceb2779110f3dfc1a7cd409e"), looks := true }, kinds := [], alts := [], laidByText := true, laidKinds := [.data, .data, .data, .data, .sentinel, .sentinel, .data, .data, .pinned, .pinned], laidTests := true, laidLooks := .later }
def BytesComeBackCardSaid : Prop := Claim7.holds Tryz.pinned (.plain (OpenSpec.ofChange bytesComeBackSpec)) bytesComeBackCard

/-- THE SECOND FORM's CARD OF 'gatekeep2.BytesComeBack'. -/
def bytesComeBackUptoCard : Claim7 := { stood := { row := bytesComeBackUptoRow, standIns := [], harness := (true, "e2dab91cfa59e91e9400167f66fb8cc32a5bd672ceb2779110f3dfc1a7cd409e"), looks := true }, kinds := [], alts := [], laidByText := true, laidKinds := [.data, .data, .data, .data, .sentinel, .sentinel, .data, .data, .pinned, .pinned], laidTests := true, laidLooks := .later }
def BytesComeBackUptoCardSaid : Prop := Claim7.holds Tryz.pinned (.plain (OpenSpec.upto bytesComeBackSpec)) bytesComeBackUptoCard
end Rows
end Go.Proofs.YtjphemllikflpaaGreatDoor
