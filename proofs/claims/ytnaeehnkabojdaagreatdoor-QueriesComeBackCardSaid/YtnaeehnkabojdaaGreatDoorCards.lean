/-
  DERIVED. GIVEN WITH THE SEED: THE CARDS: each row of YtnaeehnkabojdaaGreatDoorRows.lean that lists a variable, with what it lists TIED to the program's text (the seventh form; the later family's looks); each row that meets fmt, with fmt's text TOLD by the authors' own Lean function (tested against real Go, not proved from fmt's source: count such statements apart). THE CARD IS WHAT COUNTS. Prove the row's statement (the work); the ties are given (YtnaeehnkabojdaaGreatDoorTie.lean); close each card by the builder's one call (the guide's Derived/Test/ToyasCard.lean, 'card_holds'). Laid BY PROGRAM, IN A SANDBOX (cutbox-door.mjs). By AI agents, Wed Nov 11 2026. No macro, syntax, notation, axiom, sorry.
-/
import Derived.Test.YtnaeehnkabojdaaGreatDoorRows
import GoSem.ClaimSeven
namespace Go.Proofs.YtnaeehnkabojdaaGreatDoor
namespace Rows

/-- THE TIED CARD OF 'gatekeep2.QueriesComeBack'. -/
def queriesComeBackCard : Claim7 := { stood := { row := queriesComeBackRow, standIns := [], harness := (true, "8d6e180a9c12dc0170ce93b5fee109bd3dc2de2056339269ead43c12e12e187b"), looks := true }, kinds := [], alts := [], laidByText := true, laidKinds := [.data, .data, .data, .data, .sentinel, .sentinel, .data, .data, .pinned, .pinned], laidTests := true, laidLooks := .later }
def QueriesComeBackCardSaid : Prop := Claim7.holds Tryz.pinned (.plain (OpenSpec.ofChange queriesComeBackSpec)) queriesComeBackCard

/-- THE TIED CARD OF 'gatekeep2.EntriesAge'. -/
def entriesAgeCard : Claim7 := { stood := { row := entriesAgeRow, standIns := [], harness := (true, "8d6e180a9c12dc0170ce93b5fee109bd3dc2de2056339269ead43c12e12e187b"), looks := true }, kinds := [], alts := [], laidByText := true, laidKinds := [.data, .data, .data, .data, .sentinel, .sentinel, .data, .data, .pinned, .pinned], laidTests := true, laidLooks := .later }
def EntriesAgeCardSaid : Prop := Claim7.holds Tryz.pinned (.plain (OpenSpec.ofChange entriesAgeSpec)) entriesAgeCard

/-- THE SECOND FORM's CARD OF 'gatekeep2.QueriesComeBack'. -/
def queriesComeBackUptoCard : Claim7 := { stood := { row := queriesComeBackUptoRow, standIns := [], harness := (true, "8d6e180a9c12dc0170ce93b5fee109bd3dc2de2056339269ead43c12e12e187b"), looks := true }, kinds := [], alts := [], laidByText := true, laidKinds := [.data, .data, .data, .data, .sentinel, .sentinel, .data, .data, .pinned, .pinned], laidTests := true, laidLooks := .later }
def QueriesComeBackUptoCardSaid : Prop := Claim7.holds Tryz.pinned (.plain (OpenSpec.upto queriesComeBackSpec)) queriesComeBackUptoCard

/-- THE SECOND FORM's CARD OF 'gatekeep2.EntriesAge'. -/
def entriesAgeUptoCard : Claim7 := { stood := { row := entriesAgeUptoRow, standIns := [], harness := (true, "8d6e180a9c12dc0170ce93b5fee109bd3dc2de2056339269ead43c12e12e187b"), looks := true }, kinds := [], alts := [], laidByText := true, laidKinds := [.data, .data, .data, .data, .sentinel, .sentinel, .data, .data, .pinned, .pinned], laidTests := true, laidLooks := .later }
def EntriesAgeUptoCardSaid : Prop := Claim7.holds Tryz.pinned (.plain (OpenSpec.upto entriesAgeSpec)) entriesAgeUptoCard
end Rows
end Go.Proofs.YtnaeehnkabojdaaGreatDoor
