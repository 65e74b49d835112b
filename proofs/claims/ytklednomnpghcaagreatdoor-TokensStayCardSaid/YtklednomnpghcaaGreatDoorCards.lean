/-
  DERIVED. GIVEN WITH THE SEED: THE CARDS: each row of YtklednomnpghcaaGreatDoorRows.lean that lists a variable, with what it lists TIED to the program's text (the seventh form; the later family's looks); each row that meets fmt, with fmt's text TOLD by the authors' own Lean function (tested against real Go, not proved from fmt's source: count such statements apart). THE CARD IS WHAT COUNTS. Prove the row's statement (the work); the ties are given (YtklednomnpghcaaGreatDoorTie.lean); close each card by the builder's one call (the guide's Derived/Test/ToyasCard.lean, 'card_holds'). Laid BY PROGRAM, IN A SANDBOX (cutbox-door.mjs). By AI agents, Wed Nov 11 2026. No macro, syntax, notation, axiom, sorry.
-/
import Derived.Test.YtklednomnpghcaaGreatDoorRows
import GoSem.ClaimSeven
namespace Go.Proofs.YtklednomnpghcaaGreatDoor
namespace Rows

/-- THE TIED CARD OF 'gatekeep2.TokensStay'. -/
def tokensStayCard : Claim7 := { stood := { row := tokensStayRow, standIns := [], harness := (true, "958b9af1487b07310b964c5033e358074fc68e9745137d67a2ce17d49bde52da"), looks := true }, kinds := [], alts := [], laidByText := true, laidKinds := [.data, .data, .data, .data, .sentinel, .sentinel, .data, .data, .pinned, .pinned], laidTests := true, laidLooks := .later }
def TokensStayCardSaid : Prop := Claim7.holds Tryz.pinned (.plain (OpenSpec.ofChange tokensStaySpec)) tokensStayCard

/-- THE TIED CARD OF 'gatekeep2.RevokedStop'. -/
def revokedStopCard : Claim7 := { stood := { row := revokedStopRow, standIns := [], harness := (true, "958b9af1487b07310b964c5033e358074fc68e9745137d67a2ce17d49bde52da"), looks := true }, kinds := [], alts := [], laidByText := true, laidKinds := [.data, .data, .data, .data, .sentinel, .sentinel, .data, .data, .pinned, .pinned], laidTests := true, laidLooks := .later }
def RevokedStopCardSaid : Prop := Claim7.holds Tryz.pinned (.plain (OpenSpec.ofChange revokedStopSpec)) revokedStopCard

/-- THE SECOND FORM's CARD OF 'gatekeep2.TokensStay'. -/
def tokensStayUptoCard : Claim7 := { stood := { row := tokensStayUptoRow, standIns := [], harness := (true, "958b9af1487b07310b964c5033e358074fc68e9745137d67a2ce17d49bde52da"), looks := true }, kinds := [], alts := [], laidByText := true, laidKinds := [.data, .data, .data, .data, .sentinel, .sentinel, .data, .data, .pinned, .pinned], laidTests := true, laidLooks := .later }
def TokensStayUptoCardSaid : Prop := Claim7.holds Tryz.pinned (.plain (OpenSpec.upto tokensStaySpec)) tokensStayUptoCard

/-- THE SECOND FORM's CARD OF 'gatekeep2.RevokedStop'. -/
def revokedStopUptoCard : Claim7 := { stood := { row := revokedStopUptoRow, standIns := [], harness := (true, "958b9af1487b07310b964c5033e358074fc68e9745137d67a2ce17d49bde52da"), looks := true }, kinds := [], alts := [], laidByText := true, laidKinds := [.data, .data, .data, .data, .sentinel, .sentinel, .data, .data, .pinned, .pinned], laidTests := true, laidLooks := .later }
def RevokedStopUptoCardSaid : Prop := Claim7.holds Tryz.pinned (.plain (OpenSpec.upto revokedStopSpec)) revokedStopUptoCard
end Rows
end Go.Proofs.YtklednomnpghcaaGreatDoor
