/-
  DERIVED. GIVEN WITH THE SEED: THE CARDS: each row of YtnkobmgkndndfaaGreatDoorRows.lean that lists a variable, with what it lists TIED to the program's text (the seventh form; the later family's looks); each row that meets fmt, with fmt's text TOLD by the authors' own Lean function (tested against real Go, not proved from fmt's source: count such statements apart). THE CARD IS WHAT COUNTS. Prove the row's statement (the work); the ties are given (YtnkobmgkndndfaaGreatDoorTie.lean); close each card by the builder's one call (the guide's Derived/Test/ToyasCard.lean, 'card_holds'). Laid BY PROGRAM, IN A SANDBOX (cutbox-door.mjs). By AI agents, Wed Nov 11 2026. No macro, syntax, notation, axiom, sorry.
-/
import Derived.Test.YtnkobmgkndndfaaGreatDoorRows
import GoSem.ClaimSeven
namespace Go.Proofs.YtnkobmgkndndfaaGreatDoor
namespace Rows

/-- THE TIED CARD OF 'gatekeep1.SharesAreFair'. -/
def sharesAreFairCard : Claim7 := { stood := { row := sharesAreFairRow, standIns := [], harness := (true, "03fd29f34be742ebc9abd5b889d82ab98dfcfe95fcef122edc3e830fad8b65bf"), looks := true }, kinds := [], alts := [], laidByText := true, laidKinds := [.data, .data, .data, .data, .sentinel, .sentinel, .pinned], laidTests := true, laidLooks := .later }
def SharesAreFairCardSaid : Prop := Claim7.holds Tryz.pinned (.plain (OpenSpec.ofChange sharesAreFairSpec)) sharesAreFairCard

/-- THE SECOND FORM's CARD OF 'gatekeep1.SharesAreFair'. -/
def sharesAreFairUptoCard : Claim7 := { stood := { row := sharesAreFairUptoRow, standIns := [], harness := (true, "03fd29f34be742ebc9abd5b889d82ab98dfcfe95fcef122edc3e830fad8b65bf"), looks := true }, kinds := [], alts := [], laidByText := true, laidKinds := [.data, .data, .data, .data, .sentinel, .sentinel, .pinned], laidTests := true, laidLooks := .later }
def SharesAreFairUptoCardSaid : Prop := Claim7.holds Tryz.pinned (.plain (OpenSpec.upto sharesAreFairSpec)) sharesAreFairUptoCard
end Rows
end Go.Proofs.YtnkobmgkndndfaaGreatDoor
