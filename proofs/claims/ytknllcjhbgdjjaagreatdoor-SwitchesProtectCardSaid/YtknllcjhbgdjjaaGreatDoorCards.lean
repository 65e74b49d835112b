/-
  DERIVED. GIVEN WITH THE SEED: THE CARDS: each row of YtknllcjhbgdjjaaGreatDoorRows.lean that lists a variable, with what it lists TIED to the program's text (the seventh form; the later family's looks); each row that meets fmt, with fmt's text TOLD by the authors' own Lean function (tested against real Go, not proved from fmt's source: count such statements apart). THE CARD IS WHAT COUNTS. Prove the row's statement (the work); the ties are given (YtknllcjhbgdjjaaGreatDoorTie.lean); close each card by the builder's one call (the guide's Derived/Test/ToyasCard.lean, 'card_holds'). Laid BY PROGRAM, IN A SANDBOX (cutbox-door.mjs). By AI agents, Wed Nov 11 2026. No macro, syntax, notation, axiom, sorry.
-/
import Derived.Test.YtknllcjhbgdjjaaGreatDoorRows
import GoSem.ClaimSeven
namespace Go.Proofs.YtknllcjhbgdjjaaGreatDoor
namespace Rows

/-- THE TIED CARD OF 'gatekeep2.RoundsAreFair'. -/
def roundsAreFairCard : Claim7 := { stood := { row := roundsAreFairRow, standIns := [], harness := (true, "b20050164de904ce39582170573b292acfae893184aee968cef87d942df1e7eb"), looks := true }, kinds := [], alts := [], laidByText := true, laidKinds := [.data, .data, .data, .data, .sentinel, .sentinel, .data, .data, .pinned, .pinned], laidTests := true, laidLooks := .later }
def RoundsAreFairCardSaid : Prop := Claim7.holds Tryz.pinned (.plain (OpenSpec.ofChange roundsAreFairSpec)) roundsAreFairCard

/-- THE TIED CARD OF 'gatekeep2.PercentilesRank'. -/
def percentilesRankCard : Claim7 := { stood := { row := percentilesRankRow, standIns := [], harness := (true, "b20050164de904ce39582170573b292acfae893184aee968cef87d942df1e7eb"), looks := true }, kinds := [], alts := [], laidByText := true, laidKinds := [.data, .data, .data, .data, .sentinel, .sentinel, .data, .data, .pinned, .pinned], laidTests := true, laidLooks := .later }
def PercentilesRankCardSaid : Prop := Claim7.holds Tryz.pinned (.plain (OpenSpec.ofChange percentilesRankSpec)) percentilesRankCard

/-- THE TIED CARD OF 'gatekeep2.SwitchesProtect'. -/
def switchesProtectCard : Claim7 := { stood := { row := switchesProtectRow, standIns := [], harness := (true, "b20050164de904ce39582170573b292acfae893184aee968cef87d942df1e7eb"), looks := true }, kinds := [], alts := [], laidByText := true, laidKinds := [.data, .data, .data, .data, .sentinel, .sentinel, .data, .data, .pinned, .pinned], laidTests := true, laidLooks := .later }
def SwitchesProtectCardSaid : Prop := Claim7.holds Tryz.pinned (.plain (OpenSpec.ofChange switchesProtectSpec)) switchesProtectCard

/-- THE TIED CARD OF 'gatekeep2.HealthIsByItself'. -/
def healthIsByItselfCard : Claim7 := { stood := { row := healthIsByItselfRow, standIns := [], harness := (true, "b20050164de904ce39582170573b292acfae893184aee968cef87d942df1e7eb"), looks := true }, kinds := [], alts := [], laidByText := true, laidKinds := [.data, .data, .data, .data, .sentinel, .sentinel, .data, .data, .pinned, .pinned], laidTests := true, laidLooks := .later }
def HealthIsByItselfCardSaid : Prop := Claim7.holds Tryz.pinned (.plain (OpenSpec.ofChange healthIsByItselfSpec)) healthIsByItselfCard

/-- THE TIED CARD OF 'gatekeep2.KeysStay'. -/
def keysStayCard : Claim7 := { stood := { row := keysStayRow, standIns := [], harness := (true, "b20050164de904ce39582170573b292acfae893184aee968cef87d942df1e7eb"), looks := true }, kinds := [], alts := [], laidByText := true, laidKinds := [.data, .data, .data, .data, .sentinel, .sentinel, .data, .data, .pinned, .pinned], laidTests := true, laidLooks := .later }
def KeysStayCardSaid : Prop := Claim7.holds Tryz.pinned (.plain (OpenSpec.ofChange keysStaySpec)) keysStayCard

/-- THE TIED CARD OF 'gatekeep2.BoundsHold'. -/
def boundsHoldCard : Claim7 := { stood := { row := boundsHoldRow, standIns := [], harness := (true, "b20050164de904ce39582170573b292acfae893184aee968cef87d942df1e7eb"), looks := true }, kinds := [], alts := [], laidByText := true, laidKinds := [.data, .data, .data, .data, .sentinel, .sentinel, .data, .data, .pinned, .pinned], laidTests := true, laidLooks := .later }
def BoundsHoldCardSaid : Prop := Claim7.holds Tryz.pinned (.plain (OpenSpec.ofChange boundsHoldSpec)) boundsHoldCard

/-- THE SECOND FORM's CARD OF 'gatekeep2.RoundsAreFair'. -/
def roundsAreFairUptoCard : Claim7 := { stood := { row := roundsAreFairUptoRow, standIns := [], harness := (true, "b20050164de904ce39582170573b292acfae893184aee968cef87d942df1e7eb"), looks := true }, kinds := [], alts := [], laidByText := true, laidKinds := [.data, .data, .data, .data, .sentinel, .sentinel, .data, .data, .pinned, .pinned], laidTests := true, laidLooks := .later }
def RoundsAreFairUptoCardSaid : Prop := Claim7.holds Tryz.pinned (.plain (OpenSpec.upto roundsAreFairSpec)) roundsAreFairUptoCard

/-- THE SECOND FORM's CARD OF 'gatekeep2.PercentilesRank'. -/
def percentilesRankUptoCard : Claim7 := { stood := { row := percentilesRankUptoRow, standIns := [], harness := (true, "b20050164de904ce39582170573b292acfae893184aee968cef87d942df1e7eb"), looks := true }, kinds := [], alts := [], laidByText := true, laidKinds := [.data, .data, .data, .data, .sentinel, .sentinel, .data, .data, .pinned, .pinned], laidTests := true, laidLooks := .later }
def PercentilesRankUptoCardSaid : Prop := Claim7.holds Tryz.pinned (.plain (OpenSpec.upto percentilesRankSpec)) percentilesRankUptoCard

/-- THE SECOND FORM's CARD OF 'gatekeep2.SwitchesProtect'. -/
def switchesProtectUptoCard : Claim7 := { stood := { row := switchesProtectUptoRow, standIns := [], harness := (true, "b20050164de904ce39582170573b292acfae893184aee968cef87d942df1e7eb"), looks := true }, kinds := [], alts := [], laidByText := true, laidKinds := [.data, .data, .data, .data, .sentinel, .sentinel, .data, .data, .pinned, .pinned], laidTests := true, laidLooks := .later }
def SwitchesProtectUptoCardSaid : Prop := Claim7.holds Tryz.pinned (.plain (OpenSpec.upto switchesProtectSpec)) switchesProtectUptoCard

/-- THE SECOND FORM's CARD OF 'gatekeep2.HealthIsByItself'. -/
def healthIsByItselfUptoCard : Claim7 := { stood := { row := healthIsByItselfUptoRow, standIns := [], harness := (true, "b20050164de904ce39582170573b292acfae893184aee968cef87d942df1e7eb"), looks := true }, kinds := [], alts := [], laidByText := true, laidKinds := [.data, .data, .data, .data, .sentinel, .sentinel, .data, .data, .pinned, .pinned], laidTests := true, laidLooks := .later }
def HealthIsByItselfUptoCardSaid : Prop := Claim7.holds Tryz.pinned (.plain (OpenSpec.upto healthIsByItselfSpec)) healthIsByItselfUptoCard

/-- THE SECOND FORM's CARD OF 'gatekeep2.KeysStay'. -/
def keysStayUptoCard : Claim7 := { stood := { row := keysStayUptoRow, standIns := [], harness := (true, "b20050164de904ce39582170573b292acfae893184aee968cef87d942df1e7eb"), looks := true }, kinds := [], alts := [], laidByText := true, laidKinds := [.data, .data, .data, .data, .sentinel, .sentinel, .data, .data, .pinned, .pinned], laidTests := true, laidLooks := .later }
def KeysStayUptoCardSaid : Prop := Claim7.holds Tryz.pinned (.plain (OpenSpec.upto keysStaySpec)) keysStayUptoCard

/-- THE SECOND FORM's CARD OF 'gatekeep2.BoundsHold'. -/
def boundsHoldUptoCard : Claim7 := { stood := { row := boundsHoldUptoRow, standIns := [], harness := (true, "b20050164de904ce39582170573b292acfae893184aee968cef87d942df1e7eb"), looks := true }, kinds := [], alts := [], laidByText := true, laidKinds := [.data, .data, .data, .data, .sentinel, .sentinel, .data, .data, .pinned, .pinned], laidTests := true, laidLooks := .later }
def BoundsHoldUptoCardSaid : Prop := Claim7.holds Tryz.pinned (.plain (OpenSpec.upto boundsHoldSpec)) boundsHoldUptoCard
end Rows
end Go.Proofs.YtknllcjhbgdjjaaGreatDoor
