/-
  DERIVED. GIVEN WITH THE SEED: THE CARDS: each row of YtmclppkligkooaaGreatDoorRows.lean that lists a variable, with what it lists TIED to the program's text (the seventh form; the later family's looks); each row that meets fmt, with fmt's text TOLD by the authors' own Lean function (tested against real Go, not proved from fmt's source: count such statements apart). THE CARD IS WHAT COUNTS. Prove the row's statement (the work); the ties are given (YtmclppkligkooaaGreatDoorTie.lean); close each card by the builder's one call (the guide's Derived/Test/ToyasCard.lean, 'card_holds'). Laid BY PROGRAM, IN A SANDBOX (cutbox-door.mjs). By AI agents, Wed Nov 11 2026. No macro, syntax, notation, axiom, sorry.
-/
import Derived.Test.YtmclppkligkooaaGreatDoorRows
import GoSem.ClaimSeven
namespace Go.Proofs.YtmclppkligkooaaGreatDoor
namespace Rows

/-- THE TIED CARD OF 'gatekeep1.LeavesAreThere'. -/
def leavesAreThereCard : Claim7 := { stood := { row := leavesAreThereRow, standIns := [], harness := (true, "9b77869c0389a5246acf1324ffc4d5bacc24752254d81185094617d29bb4aaec"), looks := true }, kinds := [], alts := [], laidByText := true, laidKinds := [.data, .data, .data, .data, .sentinel, .sentinel, .pinned], laidTests := true, laidLooks := .later }
def LeavesAreThereCardSaid : Prop := Claim7.holds Tryz.pinned (.plain (OpenSpec.ofChange leavesAreThereSpec)) leavesAreThereCard

/-- THE SECOND FORM's CARD OF 'gatekeep1.LeavesAreThere'. -/
def leavesAreThereUptoCard : Claim7 := { stood := { row := leavesAreThereUptoRow, standIns := [], harness := (true, "9b77869c0389a5246acf1324ffc4d5bacc24752254d81185094617d29bb4aaec"), looks := true }, kinds := [], alts := [], laidByText := true, laidKinds := [.data, .data, .data, .data, .sentinel, .sentinel, .pinned], laidTests := true, laidLooks := .later }
def LeavesAreThereUptoCardSaid : Prop := Claim7.holds Tryz.pinned (.plain (OpenSpec.upto leavesAreThereSpec)) leavesAreThereUptoCard
end Rows
end Go.Proofs.YtmclppkligkooaaGreatDoor
