/-
  DERIVED. GIVEN WITH THE SEED: THE CARDS: each row of YtklcapmmogediaaGreatDoorRows.lean that lists a variable, with what it lists TIED to the program's text (the seventh form; the later family's looks); each row that meets fmt, with fmt's text TOLD by the authors' own Lean function (tested against real Go, not proved from fmt's source: count such statements apart). THE CARD IS WHAT COUNTS. Prove the row's statement (the work); the ties are given (YtklcapmmogediaaGreatDoorTie.lean); close each card by the builder's one call (the guide's Derived/Test/ToyasCard.lean, 'card_holds'). Laid BY PROGRAM, IN A SANDBOX (cutbox-door.mjs). By AI agents, Wed Nov 11 2026. No macro, syntax, notation, axiom, sorry.
-/
import Derived.Test.YtklcapmmogediaaGreatDoorRows
import GoSem.ClaimSeven
namespace Go.Proofs.YtklcapmmogediaaGreatDoor
namespace Rows

/-- THE TIED CARD OF 'gatekeep1.TemplatesComeBack'. -/
def templatesComeBackCard : Claim7 := { stood := { row := templatesComeBackRow, standIns := [], harness := (true, "acdaee9bea9be8381a0b4939a1af975318f9db2e06d7ee86c0edaab77aeca4b7"), looks := true }, kinds := [], alts := [], laidByText := true, laidKinds := [.data, .data, .data, .data, .sentinel, .sentinel, .pinned], laidTests := true, laidLooks := .later }
def TemplatesComeBackCardSaid : Prop := Claim7.holds Tryz.pinned (.plain (OpenSpec.ofChange templatesComeBackSpec)) templatesComeBackCard

/-- THE SECOND FORM's CARD OF 'gatekeep1.TemplatesComeBack'. -/
def templatesComeBackUptoCard : Claim7 := { stood := { row := templatesComeBackUptoRow, standIns := [], harness := (true, "acdaee9bea9be8381a0b4939a1af975318f9db2e06d7ee86c0edaab77aeca4b7"), looks := true }, kinds := [], alts := [], laidByText := true, laidKinds := [.data, .data, .data, .data, .sentinel, .sentinel, .pinned], laidTests := true, laidLooks := .later }
def TemplatesComeBackUptoCardSaid : Prop := Claim7.holds Tryz.pinned (.plain (OpenSpec.upto templatesComeBackSpec)) templatesComeBackUptoCard
end Rows
end Go.Proofs.YtklcapmmogediaaGreatDoor
