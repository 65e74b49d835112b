/-
  DERIVED. GIVEN WITH THE SEED: THE CARDS: each row of YteeomeididcdlaaGreatDoorRows.lean that lists a variable, with what it lists TIED to the program's text (the seventh form; the later family's looks); each row that meets fmt, with fmt's text TOLD by the authors' own Lean function (tested against real Go, not proved from fmt's source: count such statements apart). THE CARD IS WHAT COUNTS. Prove the row's statement (the work); the ties are given (YteeomeididcdlaaGreatDoorTie.lean); close each card by the builder's one call (the guide's Derived/Test/ToyasCard.lean, 'card_holds'). Laid BY PROGRAM, IN A SANDBOX (cutbox-door.mjs). By AI agents, Wed Nov 11 2026. No macro, syntax, notation, axiom, sorry.
-/
import Derived.Test.YteeomeididcdlaaGreatDoorRows
import GoSem.ClaimSeven
namespace Go.Proofs.YteeomeididcdlaaGreatDoor
namespace Rows

/-- THE TIED CARD OF 'gatekeep1.LeftIsLetIn'. -/
def leftIsLetInCard : Claim7 := { stood := { row := leftIsLetInRow, standIns := [], harness := (true, "1cdb05888867f2752412406f686c5b78b7ec139b44d520bec372343daba5720f"), looks := true }, kinds := [], alts := [], laidByText := true, laidKinds := [.data, .data, .data, .data, .sentinel, .sentinel, .pinned], laidTests := true, laidLooks := .later }
def LeftIsLetInCardSaid : Prop := Claim7.holds Tryz.pinned (.plain (OpenSpec.ofChange leftIsLetInSpec)) leftIsLetInCard

/-- THE TIED CARD OF 'gatekeep1.NoneGetMore'. -/
def noneGetMoreCard : Claim7 := { stood := { row := noneGetMoreRow, standIns := [], harness := (true, "1cdb05888867f2752412406f686c5b78b7ec139b44d520bec372343daba5720f"), looks := true }, kinds := [], alts := [], laidByText := true, laidKinds := [.data, .data, .data, .data, .sentinel, .sentinel, .pinned], laidTests := true, laidLooks := .later }
def NoneGetMoreCardSaid : Prop := Claim7.holds Tryz.pinned (.plain (OpenSpec.ofChange noneGetMoreSpec)) noneGetMoreCard

/-- THE TIED CARD OF 'gatekeep1.LimitsStay'. -/
def limitsStayCard : Claim7 := { stood := { row := limitsStayRow, standIns := [], harness := (true, "1cdb05888867f2752412406f686c5b78b7ec139b44d520bec372343daba5720f"), looks := true }, kinds := [], alts := [], laidByText := true, laidKinds := [.data, .data, .data, .data, .sentinel, .sentinel, .pinned], laidTests := true, laidLooks := .later }
def LimitsStayCardSaid : Prop := Claim7.holds Tryz.pinned (.plain (OpenSpec.ofChange limitsStaySpec)) limitsStayCard

/-- THE SECOND FORM's CARD OF 'gatekeep1.LeftIsLetIn'. -/
def leftIsLetInUptoCard : Claim7 := { stood := { row := leftIsLetInUptoRow, standIns := [], harness := (true, "1cdb05888867f2752412406f686c5b78b7ec139b44d520bec372343daba5720f"), looks := true }, kinds := [], alts := [], laidByText := true, laidKinds := [.data, .data, .data, .data, .sentinel, .sentinel, .pinned], laidTests := true, laidLooks := .later }
def LeftIsLetInUptoCardSaid : Prop := Claim7.holds Tryz.pinned (.plain (OpenSpec.upto leftIsLetInSpec)) leftIsLetInUptoCard

/-- THE SECOND FORM's CARD OF 'gatekeep1.NoneGetMore'. -/
def noneGetMoreUptoCard : Claim7 := { stood := { row := noneGetMoreUptoRow, standIns := [], harness := (true, "1cdb05888867f2752412406f686c5b78b7ec139b44d520bec372343daba5720f"), looks := true }, kinds := [], alts := [], laidByText := true, laidKinds := [.data, .data, .data, .data, .sentinel, .sentinel, .pinned], laidTests := true, laidLooks := .later }
def NoneGetMoreUptoCardSaid : Prop := Claim7.holds Tryz.pinned (.plain (OpenSpec.upto noneGetMoreSpec)) noneGetMoreUptoCard

/-- THE SECOND FORM's CARD OF 'gatekeep1.LimitsStay'. -/
def limitsStayUptoCard : Claim7 := { stood := { row := limitsStayUptoRow, standIns := [], harness := (true, "1cdb05888867f2752412406f686c5b78b7ec139b44d520bec372343daba5720f"), looks := true }, kinds := [], alts := [], laidByText := true, laidKinds := [.data, .data, .data, .data, .sentinel, .sentinel, .pinned], laidTests := true, laidLooks := .later }
def LimitsStayUptoCardSaid : Prop := Claim7.holds Tryz.pinned (.plain (OpenSpec.upto limitsStaySpec)) limitsStayUptoCard
end Rows
end Go.Proofs.YteeomeididcdlaaGreatDoor
