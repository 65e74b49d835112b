/-
  DERIVED. GIVEN WITH THE SEED: THE CARDS: each row of YtbigicdojndnjaaGreatDoorRows.lean that lists a variable, with what it lists TIED to the program's text (the seventh form; the later family's looks); each row that meets fmt, with fmt's text TOLD by the authors' own Lean function (tested against real Go, not proved from fmt's source: count such statements apart). THE CARD IS WHAT COUNTS. Prove the row's statement (the work); the ties are given (YtbigicdojndnjaaGreatDoorTie.lean); close each card by the builder's one call (the guide's Derived/Test/ToyasCard.lean, 'card_holds'). Laid BY PROGRAM, IN A SANDBOX (cutbox-door.mjs). By AI agents, Wed Nov 11 2026. No macro, syntax, notation, axiom, sorry.
-/
import Derived.Test.YtbigicdojndnjaaGreatDoorRows
import GoSem.ClaimSeven
namespace Go.Proofs.YtbigicdojndnjaaGreatDoor
namespace Rows

/-- THE TIED CARD OF 'gatekeep1.WaitingHelps'. -/
def waitingHelpsCard : Claim7 := { stood := { row := waitingHelpsRow, standIns := [], harness := (true, "971208f56a4677e53ec707b9d827a262ff68461d9365ced342340e834fe9dcb1"), looks := true }, kinds := [], alts := [], laidByText := true, laidKinds := [.data, .data, .data, .data, .sentinel, .sentinel, .pinned], laidTests := true, laidLooks := .later }
def WaitingHelpsCardSaid : Prop := Claim7.holds Tryz.pinned (.plain (OpenSpec.ofChange waitingHelpsSpec)) waitingHelpsCard

/-- THE TIED CARD OF 'gatekeep1.LeftIsLetIn'. -/
def leftIsLetInCard : Claim7 := { stood := { row := leftIsLetInRow, standIns := [], harness := (true, "971208f56a4677e53ec707b9d827a262ff68461d9365ced342340e834fe9dcb1"), looks := true }, kinds := [], alts := [], laidByText := true, laidKinds := [.data, .data, .data, .data, .sentinel, .sentinel, .pinned], laidTests := true, laidLooks := .later }
def LeftIsLetInCardSaid : Prop := Claim7.holds Tryz.pinned (.plain (OpenSpec.ofChange leftIsLetInSpec)) leftIsLetInCard

/-- THE TIED CARD OF 'gatekeep1.LimitsStay'. -/
def limitsStayCard : Claim7 := { stood := { row := limitsStayRow, standIns := [], harness := (true, "971208f56a4677e53ec707b9d827a262ff68461d9365ced342340e834fe9dcb1"), looks := true }, kinds := [], alts := [], laidByText := true, laidKinds := [.data, .data, .data, .data, .sentinel, .sentinel, .pinned], laidTests := true, laidLooks := .later }
def LimitsStayCardSaid : Prop := Claim7.holds Tryz.pinned (.plain (OpenSpec.ofChange limitsStaySpec)) limitsStayCard

/-- THE TIED CARD OF 'gatekeep1.SpreadsHold'. -/
def spreadsHoldCard : Claim7 := { stood := { row := spreadsHoldRow, standIns := [], harness := (true, "971208f56a4677e53ec707b9d827a262ff68461d9365ced342340e834fe9dcb1"), looks := true }, kinds := [], alts := [], laidByText := true, laidKinds := [.data, .data, .data, .data, .sentinel, .sentinel, .pinned], laidTests := true, laidLooks := .later }
def SpreadsHoldCardSaid : Prop := Claim7.holds Tryz.pinned (.plain (OpenSpec.ofChange spreadsHoldSpec)) spreadsHoldCard

/-- THE SECOND FORM's CARD OF 'gatekeep1.WaitingHelps'. -/
def waitingHelpsUptoCard : Claim7 := { stood := { row := waitingHelpsUptoRow, standIns := [], harness := (true, "971208f56a4677e53ec707b9d827a262ff68461d9365ced342340e834fe9dcb1"), looks := true }, kinds := [], alts := [], laidByText := true, laidKinds := [.data, .data, .data, .data, .sentinel, .sentinel, .pinned], laidTests := true, laidLooks := .later }
def WaitingHelpsUptoCardSaid : Prop := Claim7.holds Tryz.pinned (.plain (OpenSpec.upto waitingHelpsSpec)) waitingHelpsUptoCard

/-- THE SECOND FORM's CARD OF 'gatekeep1.LeftIsLetIn'. -/
def leftIsLetInUptoCard : Claim7 := { stood := { row := leftIsLetInUptoRow, standIns := [], harness := (true, "971208f56a4677e53ec707b9d827a262ff68461d9365ced342340e834fe9dcb1"), looks := true }, kinds := [], alts := [], laidByText := true, laidKinds := [.data, .data, .data, .data, .sentinel, .sentinel, .pinned], laidTests := true, laidLooks := .later }
def LeftIsLetInUptoCardSaid : Prop := Claim7.holds Tryz.pinned (.plain (OpenSpec.upto leftIsLetInSpec)) leftIsLetInUptoCard

/-- THE SECOND FORM's CARD OF 'gatekeep1.LimitsStay'. -/
def limitsStayUptoCard : Claim7 := { stood := { row := limitsStayUptoRow, standIns := [], harness := (true, "971208f56a4677e53ec707b9d827a262ff68461d9365ced342340e834fe9dcb1"), looks := true }, kinds := [], alts := [], laidByText := true, laidKinds := [.data, .data, .data, .data, .sentinel, .sentinel, .pinned], laidTests := true, laidLooks := .later }
def LimitsStayUptoCardSaid : Prop := Claim7.holds Tryz.pinned (.plain (OpenSpec.upto limitsStaySpec)) limitsStayUptoCard

/-- THE SECOND FORM's CARD OF 'gatekeep1.SpreadsHold'. -/
def spreadsHoldUptoCard : Claim7 := { stood := { row := spreadsHoldUptoRow, standIns := [], harness := (true, "971208f56a4677e53ec707b9d827a262ff68461d9365ced342340e834fe9dcb1"), looks := true }, kinds := [], alts := [], laidByText := true, laidKinds := [.data, .data, .data, .data, .sentinel, .sentinel, .pinned], laidTests := true, laidLooks := .later }
def SpreadsHoldUptoCardSaid : Prop := Claim7.holds Tryz.pinned (.plain (OpenSpec.upto spreadsHoldSpec)) spreadsHoldUptoCard
end Rows
end Go.Proofs.YtbigicdojndnjaaGreatDoor
