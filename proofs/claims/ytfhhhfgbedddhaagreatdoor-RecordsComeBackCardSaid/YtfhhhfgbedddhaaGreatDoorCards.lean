/-
  DERIVED. GIVEN WITH THE SEED: THE CARDS: each row of YtfhhhfgbedddhaaGreatDoorRows.lean that lists a variable, with what it lists TIED to the program's text (the seventh form; the later family's looks); each row that meets fmt, with fmt's text TOLD by the authors' own Lean function (tested against real Go, not proved from fmt's source: count such statements apart). THE CARD IS WHAT COUNTS. Prove the row's statement (the work); the ties are given (YtfhhhfgbedddhaaGreatDoorTie.lean); close each card by the builder's one call (the guide's Derived/Test/ToyasCard.lean, 'card_holds'). Laid BY PROGRAM, IN A SANDBOX (cutbox-door.mjs). By AI agents, Wed Nov 11 2026. No macro, syntax, notation, axiom, sorry.
-/
import Derived.Test.YtfhhhfgbedddhaaGreatDoorRows
import GoSem.ClaimSeven
namespace Go.Proofs.YtfhhhfgbedddhaaGreatDoor
namespace Rows

/-- THE TIED CARD OF 'gatekeep1.RecordsComeBack'. -/
def recordsComeBackCard : Claim7 := { stood := { row := recordsComeBackRow, standIns := [], harness := (true, "85068bd4f2c405bbc45727ca3da21fb4677ca42ccf8ca8cd0ee33966a280bd2a"), looks := true }, kinds := [], alts := [], laidByText := true, laidKinds := [.data, .data, .data, .data, .sentinel, .sentinel, .pinned], laidTests := true, laidLooks := .later }
def RecordsComeBackCardSaid : Prop := Claim7.holds Tryz.pinned (.plain (OpenSpec.ofChange recordsComeBackSpec)) recordsComeBackCard

/-- THE SECOND FORM's CARD OF 'gatekeep1.RecordsComeBack'. -/
def recordsComeBackUptoCard : Claim7 := { stood := { row := recordsComeBackUptoRow, standIns := [], harness := (true, "85068bd4f2c405bbc45727ca3da21fb4677ca42ccf8ca8cd0ee33966a280bd2a"), looks := true }, kinds := [], alts := [], laidByText := true, laidKinds := [.data, .data, .data, .data, .sentinel, .sentinel, .pinned], laidTests := true, laidLooks := .later }
def RecordsComeBackUptoCardSaid : Prop := Claim7.holds Tryz.pinned (.plain (OpenSpec.upto recordsComeBackSpec)) recordsComeBackUptoCard
end Rows
end Go.Proofs.YtfhhhfgbedddhaaGreatDoor
