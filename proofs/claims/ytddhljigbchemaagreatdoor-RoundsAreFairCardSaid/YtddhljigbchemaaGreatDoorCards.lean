/-
  DERIVED. GIVEN WITH THE SEED: THE CARDS: each row of YtddhljigbchemaaGreatDoorRows.lean that lists a variable, with what it lists TIED to the program's text (the seventh form; the later family's looks); each row that meets fmt, with fmt's text TOLD by the authors' own Lean function (tested against real Go, not proved from fmt's source: count such statements apart). THE CARD IS WHAT COUNTS. Prove the row's statement (the work); the ties are given (YtddhljigbchemaaGreatDoorTie.lean); close each card by the builder's one call (the guide's Derived/Test/ToyasCard.lean, 'card_holds'). Laid BY PROGRAM, IN A SANDBOX (cutbox-door.mjs). By AI agents, Wed Nov 11 2026. No macro, syntax, notation, axiom, sorry.
-/
import Derived.Test.YtddhljigbchemaaGreatDoorRows
import GoSem.ClaimSeven
namespace Go.Proofs.YtddhljigbchemaaGreatDoor
namespace Rows

/-- THE TIED CARD OF 'gatekeep2.RotationsCover'. -/
def rotationsCoverCard : Claim7 := { stood := { row := rotationsCoverRow, standIns := [], harness := (true, "0b382c94aa8d78be5e600d0b2dfa890f3e48972b2e4d24fdbc54916a4650934a"), looks := true }, kinds := [], alts := [], laidByText := true, laidKinds := [.data, .data, .data, .data, .sentinel, .sentinel, .data, .data, .pinned, .pinned], laidTests := true, laidLooks := .later }
def RotationsCoverCardSaid : Prop := Claim7.holds Tryz.pinned (.plain (OpenSpec.ofChange rotationsCoverSpec)) rotationsCoverCard

/-- THE TIED CARD OF 'gatekeep2.CachesStay'. -/
def cachesStayCard : Claim7 := { stood := { row := cachesStayRow, standIns := [], harness := (true, "0b382c94aa8d78be5e600d0b2dfa890f3e48972b2e4d24fdbc54916a4650934a"), looks := true }, kinds := [], alts := [], laidByText := true, laidKinds := [.data, .data, .data, .data, .sentinel, .sentinel, .data, .data, .pinned, .pinned], laidTests := true, laidLooks := .later }
def CachesStayCardSaid : Prop := Claim7.holds Tryz.pinned (.plain (OpenSpec.ofChange cachesStaySpec)) cachesStayCard

/-- THE TIED CARD OF 'gatekeep2.RoundsAreFair'. -/
def roundsAreFairCard : Claim7 := { stood := { row := roundsAreFairRow, standIns := [], harness := (true, "0b382c94aa8d78be5e600d0b2dfa890f3e48972b2e4d24fdbc54916a4650934a"), looks := true }, kinds := [], alts := [], laidByText := true, laidKinds := [.data, .data, .data, .data, .sentinel, .sentinel, .data, .data, .pinned, .pinned], laidTests := true, laidLooks := .later }
def RoundsAreFairCardSaid : Prop := Claim7.holds Tryz.pinned (.plain (OpenSpec.ofChange roundsAreFairSpec)) roundsAreFairCard

/-- THE TIED CARD OF 'gatekeep2.PricesGrow'. -/
def pricesGrowCard : Claim7 := { stood := { row := pricesGrowRow, standIns := [], harness := (true, "0b382c94aa8d78be5e600d0b2dfa890f3e48972b2e4d24fdbc54916a4650934a"), looks := true }, kinds := [], alts := [], laidByText := true, laidKinds := [.data, .data, .data, .data, .sentinel, .sentinel, .data, .data, .pinned, .pinned], laidTests := true, laidLooks := .later }
def PricesGrowCardSaid : Prop := Claim7.holds Tryz.pinned (.plain (OpenSpec.ofChange pricesGrowSpec)) pricesGrowCard

/-- THE TIED CARD OF 'gatekeep2.ScopesAgree'. -/
def scopesAgreeCard : Claim7 := { stood := { row := scopesAgreeRow, standIns := [], harness := (true, "0b382c94aa8d78be5e600d0b2dfa890f3e48972b2e4d24fdbc54916a4650934a"), looks := true }, kinds := [], alts := [], laidByText := true, laidKinds := [.data, .data, .data, .data, .sentinel, .sentinel, .data, .data, .pinned, .pinned], laidTests := true, laidLooks := .later }
def ScopesAgreeCardSaid : Prop := Claim7.holds Tryz.pinned (.plain (OpenSpec.ofChange scopesAgreeSpec)) scopesAgreeCard

/-- THE SECOND FORM's CARD OF 'gatekeep2.RotationsCover'. -/
def rotationsCoverUptoCard : Claim7 := { stood := { row := rotationsCoverUptoRow, standIns := [], harness := (true, "0b382c94aa8d78be5e600d0b2dfa890f3e48972b2e4d24fdbc54916a4650934a"), looks := true }, kinds := [], alts := [], laidByText := true, laidKinds := [.data, .data, .data, .data, .sentinel, .sentinel, .data, .data, .pinned, .pinned], laidTests := true, laidLooks := .later }
def RotationsCoverUptoCardSaid : Prop := Claim7.holds Tryz.pinned (.plain (OpenSpec.upto rotationsCoverSpec)) rotationsCoverUptoCard

/-- THE SECOND FORM's CARD OF 'gatekeep2.CachesStay'. -/
def cachesStayUptoCard : Claim7 := { stood := { row := cachesStayUptoRow, standIns := [], harness := (true, "0b382c94aa8d78be5e600d0b2dfa890f3e48972b2e4d24fdbc54916a4650934a"), looks := true }, kinds := [], alts := [], laidByText := true, laidKinds := [.data, .data, .data, .data, .sentinel, .sentinel, .data, .data, .pinned, .pinned], laidTests := true, laidLooks := .later }
def CachesStayUptoCardSaid : Prop := Claim7.holds Tryz.pinned (.plain (OpenSpec.upto cachesStaySpec)) cachesStayUptoCard

/-- THE SECOND FORM's CARD OF 'gatekeep2.RoundsAreFair'. -/
def roundsAreFairUptoCard : Claim7 := { stood := { row := roundsAreFairUptoRow, standIns := [], harness := (true, "0b382c94aa8d78be5e600d0b2dfa890f3e48972b2e4d24fdbc54916a4650934a"), looks := true }, kinds := [], alts := [], laidByText := true, laidKinds := [.data, .data, .data, .data, .sentinel, .sentinel, .data, .data, .pinned, .pinned], laidTests := true, laidLooks := .later }
def RoundsAreFairUptoCardSaid : Prop := Claim7.holds Tryz.pinned (.plain (OpenSpec.upto roundsAreFairSpec)) roundsAreFairUptoCard

/-- THE SECOND FORM's CARD OF 'gatekeep2.PricesGrow'. -/
def pricesGrowUptoCard : Claim7 := { stood := { row := pricesGrowUptoRow, standIns := [], harness := (true, "0b382c94aa8d78be5e600d0b2dfa890f3e48972b2e4d24fdbc54916a4650934a"), looks := true }, kinds := [], alts := [], laidByText := true, laidKinds := [.data, .data, .data, .data, .sentinel, .sentinel, .data, .data, .pinned, .pinned], laidTests := true, laidLooks := .later }
def PricesGrowUptoCardSaid : Prop := Claim7.holds Tryz.pinned (.plain (OpenSpec.upto pricesGrowSpec)) pricesGrowUptoCard

/-- THE SECOND FORM's CARD OF 'gatekeep2.ScopesAgree'. -/
def scopesAgreeUptoCard : Claim7 := { stood := { row := scopesAgreeUptoRow, standIns := [], harness := (true, "0b382c94aa8d78be5e600d0b2dfa890f3e48972b2e4d24fdbc54916a4650934a"), looks := true }, kinds := [], alts := [], laidByText := true, laidKinds := [.data, .data, .data, .data, .sentinel, .sentinel, .data, .data, .pinned, .pinned], laidTests := true, laidLooks := .later }
def ScopesAgreeUptoCardSaid : Prop := Claim7.holds Tryz.pinned (.plain (OpenSpec.upto scopesAgreeSpec)) scopesAgreeUptoCard
end Rows
end Go.Proofs.YtddhljigbchemaaGreatDoor
