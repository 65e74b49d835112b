/-
  DERIVED. GIVEN WITH THE SEED: THE CARDS: each row of YtljfobpjblnagaaGreatDoorRows.lean that lists a variable, with what it lists TIED to the program's text (the seventh form; the later family's looks); each row that meets fmt, with fmt's text TOLD by the authors' own Lean function (tested against real Go, not proved from fmt's source: count such statements apart). THE CARD IS WHAT COUNTS. Prove the row's statement (the work); the ties are given (YtljfobpjblnagaaGreatDoorTie.lean); close each card by the builder's one call (the guide's Derived/Test/ToyasCard.lean, 'card_holds'). Laid BY PROGRAM, IN A SANDBOX (cutbox-door.mjs). By AI agents, Wed Nov 11 2026. No macro, syntax, notation, axiom, sorry.
-/
import Derived.Test.YtljfobpjblnagaaGreatDoorRows
import GoSem.ClaimSeven
namespace Go.Proofs.YtljfobpjblnagaaGreatDoor
namespace Rows

/-- THE TIED CARD OF 'gatekeep1.ValuesAreOrdered'. -/
def valuesAreOrderedCard : Claim7 := { stood := { row := valuesAreOrderedRow, standIns := [], harness := (true, "9af1ea712c0b64e7bd250fbd7096d6d4c72ff2b26b121e7ad42e2b71fb9899e0"), looks := true }, kinds := [], alts := [], laidByText := true, laidKinds := [.data, .data, .data, .data, .sentinel, .sentinel, .pinned], laidTests := true, laidLooks := .later }
def ValuesAreOrderedCardSaid : Prop := Claim7.holds Tryz.pinned (.plain (OpenSpec.ofChange valuesAreOrderedSpec)) valuesAreOrderedCard

/-- THE SECOND FORM's CARD OF 'gatekeep1.ValuesAreOrdered'. -/
def valuesAreOrderedUptoCard : Claim7 := { stood := { row := valuesAreOrderedUptoRow, standIns := [], harness := (true, "9af1ea712c0b64e7bd250fbd7096d6d4c72ff2b26b121e7ad42e2b71fb9899e0"), looks := true }, kinds := [], alts := [], laidByText := true, laidKinds := [.data, .data, .data, .data, .sentinel, .sentinel, .pinned], laidTests := true, laidLooks := .later }
def ValuesAreOrderedUptoCardSaid : Prop := Claim7.holds Tryz.pinned (.plain (OpenSpec.upto valuesAreOrderedSpec)) valuesAreOrderedUptoCard
end Rows
end Go.Proofs.YtljfobpjblnagaaGreatDoor
