/-
  DERIVED. GIVEN WITH THE SEED: THE CARDS: each row of YtfepnpffbhjakaaGreatDoorRows.lean that lists a variable, with what it lists TIED to the program's text (the seventh form; the later family's looks); each row that meets fmt, with fmt's text TOLD by the authors' own Lean function (tested against real Go, not proved from fmt's source: count such statements apart). THE CARD IS WHAT COUNTS. Prove the row's statement (the work); the ties are given (YtfepnpffbhjakaaGreatDoorTie.lean); close each card by the builder's one call (the guide's Derived/Test/ToyasCard.lean, 'card_holds'). Laid BY PROGRAM, IN A SANDBOX (cutbox-door.mjs). By AI agents, Wed Nov 11 2026. No macro, syntax, notation, axiom, sorry.
-/
import Derived.Test.YtfepnpffbhjakaaGreatDoorRows
import GoSem.ClaimSeven
namespace Go.Proofs.YtfepnpffbhjakaaGreatDoor
namespace Rows

/-- THE TIED CARD OF 'gatekeep2.PricesGrow'. -/
def pricesGrowCard : Claim7 := { stood := { row := pricesGrowRow, standIns := [], harness := (true, "a2556541cea72ba7e11d9807c7bfa2518090ec4bb2cf1056d85feb24388b210b"), looks := true }, kinds := [], alts := [], laidByText := true, laidKinds := [.data, .data, .data, .data, .sentinel, .sentinel, .data, .data, .pinned, .pinned], laidTests := true, laidLooks := .later }
def PricesGrowCardSaid : Prop := Claim7.holds Tryz.pinned (.plain (OpenSpec.ofChange pricesGrowSpec)) pricesGrowCard

/-- THE SECOND FORM's CARD OF 'gatekeep2.PricesGrow'. -/
def pricesGrowUptoCard : Claim7 := { stood := { row := pricesGrowUptoRow, standIns := [], harness := (true, "a2556541cea72ba7e11d9807c7bfa2518090ec4bb2cf1056d85feb24388b210b"), looks := true }, kinds := [], alts := [], laidByText := true, laidKinds := [.data, .data, .data, .data, .sentinel, .sentinel, .data, .data, .pinned, .pinned], laidTests := true, laidLooks := .later }
def PricesGrowUptoCardSaid : Prop := Claim7.holds Tryz.pinned (.plain (OpenSpec.upto pricesGrowSpec)) pricesGrowUptoCard
end Rows
end Go.Proofs.YtfepnpffbhjakaaGreatDoor
