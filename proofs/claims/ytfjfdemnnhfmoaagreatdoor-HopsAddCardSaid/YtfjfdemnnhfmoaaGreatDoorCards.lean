/-
  DERIVED. GIVEN WITH THE SEED: THE CARDS: each row of YtfjfdemnnhfmoaaGreatDoorRows.lean that lists a variable, with what it lists TIED to the program's text (the seventh form; the later family's looks); each row that meets fmt, with fmt's text TOLD by the authors' own Lean function (tested against real Go, not proved from fmt's source: count such statements apart). THE CARD IS WHAT COUNTS. Prove the row's statement (the work); the ties are given (YtfjfdemnnhfmoaaGreatDoorTie.lean); close each card by the builder's one call (the guide's Derived/Test/ToyasCard.lean, 'card_holds'). Laid BY PROGRAM, IN A SANDBOX (cutbox-door.mjs). By AI agents, Wed Nov 11 2026. No macro, syntax, notation, axiom, sorry.
-/
import Derived.Test.YtfjfdemnnhfmoaaGreatDoorRows
import GoSem.ClaimSeven
namespace Go.Proofs.YtfjfdemnnhfmoaaGreatDoor
namespace Rows

/-- THE TIED CARD OF 'gatekeep2.PathsStay'. -/
def pathsStayCard : Claim7 := { stood := { row := pathsStayRow, standIns := [], harness := (true, "e9e62d315f78529905eacb1f26f4c90a52cdcdf3447d67696ff69e42125cb07b"), looks := true }, kinds := [], alts := [], laidByText := true, laidKinds := [.data, .data, .data, .data, .sentinel, .sentinel, .data, .data, .pinned, .pinned], laidTests := true, laidLooks := .later }
def PathsStayCardSaid : Prop := Claim7.holds Tryz.pinned (.plain (OpenSpec.ofChange pathsStaySpec)) pathsStayCard

/-- THE TIED CARD OF 'gatekeep2.HopsAdd'. -/
def hopsAddCard : Claim7 := { stood := { row := hopsAddRow, standIns := [], harness := (true, "e9e62d315f78529905eacb1f26f4c90a52cdcdf3447d67696ff69e42125cb07b"), looks := true }, kinds := [], alts := [], laidByText := true, laidKinds := [.data, .data, .data, .data, .sentinel, .sentinel, .data, .data, .pinned, .pinned], laidTests := true, laidLooks := .later }
def HopsAddCardSaid : Prop := Claim7.holds Tryz.pinned (.plain (OpenSpec.ofChange hopsAddSpec)) hopsAddCard

/-- THE TIED CARD OF 'gatekeep2.BytesComeBack'. -/
def bytesComeBackCard : Claim7 := { stood := { row := bytesComeBackRow, standIns := [], harness := (true, "e9e62d315f78529905eacb1f26f4c90a52cdcdf3447d67696ff69e42125cb07b"), looks := true }, kinds := [], alts := [], laidByText := true, laidKinds := [.data, .data, .data, .data, .sentinel, .sentinel, .data, .data, .pinned, .pinned], laidTests := true, laidLooks := .later }
def BytesComeBackCardSaid : Prop := Claim7.holds Tryz.pinned (.plain (OpenSpec.ofChange bytesComeBackSpec)) bytesComeBackCard

/-- THE TIED CARD OF 'gatekeep2.QueriesComeBack'. -/
def queriesComeBackCard : Claim7 := { stood := { row := queriesComeBackRow, standIns := [], harness := (true, "e9e62d315f78529905eacb1f26f4c90a52cdcdf3447d67696ff69e42125cb07b"), looks := true }, kinds := [], alts := [], laidByText := true, laidKinds := [.data, .data, .data, .data, .sentinel, .sentinel, .data, .data, .pinned, .pinned], laidTests := true, laidLooks := .later }
def QueriesComeBackCardSaid : Prop := Claim7.holds Tryz.pinned (.plain (OpenSpec.ofChange queriesComeBackSpec)) queriesComeBackCard

/-- THE SECOND FORM's CARD OF 'gatekeep2.PathsStay'. -/
def pathsStayUptoCard : Claim7 := { stood := { row := pathsStayUptoRow, standIns := [], harness := (true, "e9e62d315f78529905eacb1f26f4c90a52cdcdf3447d67696ff69e42125cb07b"), looks := true }, kinds := [], alts := [], laidByText := true, laidKinds := [.data, .data, .data, .data, .sentinel, .sentinel, .data, .data, .pinned, .pinned], laidTests := true, laidLooks := .later }
def PathsStayUptoCardSaid : Prop := Claim7.holds Tryz.pinned (.plain (OpenSpec.upto pathsStaySpec)) pathsStayUptoCard

/-- THE SECOND FORM's CARD OF 'gatekeep2.HopsAdd'. -/
def hopsAddUptoCard : Claim7 := { stood := { row := hopsAddUptoRow, standIns := [], harness := (true, "e9e62d315f78529905eacb1f26f4c90a52cdcdf3447d67696ff69e42125cb07b"), looks := true }, kinds := [], alts := [], laidByText := true, laidKinds := [.data, .data, .data, .data, .sentinel, .sentinel, .data, .data, .pinned, .pinned], laidTests := true, laidLooks := .later }
def HopsAddUptoCardSaid : Prop := Claim7.holds Tryz.pinned (.plain (OpenSpec.upto hopsAddSpec)) hopsAddUptoCard

/-- THE SECOND FORM's CARD OF 'gatekeep2.BytesComeBack'. -/
def bytesComeBackUptoCard : Claim7 := { stood := { row := bytesComeBackUptoRow, standIns := [], harness := (true, "e9e62d315f78529905eacb1f26f4c90a52cdcdf3447d67696ff69e42125cb07b"), looks := true }, kinds := [], alts := [], laidByText := true, laidKinds := [.data, .data, .data, .data, .sentinel, .sentinel, .data, .data, .pinned, .pinned], laidTests := true, laidLooks := .later }
def BytesComeBackUptoCardSaid : Prop := Claim7.holds Tryz.pinned (.plain (OpenSpec.upto bytesComeBackSpec)) bytesComeBackUptoCard

/-- THE SECOND FORM's CARD OF 'gatekeep2.QueriesComeBack'. -/
def queriesComeBackUptoCard : Claim7 := { stood := { row := queriesComeBackUptoRow, standIns := [], harness := (true, "e9e62d315f78529905eacb1f26f4c90a52cdcdf3447d67696ff69e42125cb07b"), looks := true }, kinds := [], alts := [], laidByText := true, laidKinds := [.data, .data, .data, .data, .sentinel, .sentinel, .data, .data, .pinned, .pinned], laidTests := true, laidLooks := .later }
def QueriesComeBackUptoCardSaid : Prop := Claim7.holds Tryz.pinned (.plain (OpenSpec.upto queriesComeBackSpec)) queriesComeBackUptoCard
end Rows
end Go.Proofs.YtfjfdemnnhfmoaaGreatDoor
