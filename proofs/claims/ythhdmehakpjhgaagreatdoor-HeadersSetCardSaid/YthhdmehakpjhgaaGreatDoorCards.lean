/-
  DERIVED. GIVEN WITH THE SEED: THE CARDS: each row of YthhdmehakpjhgaaGreatDoorRows.lean that lists a variable, with what it lists TIED to the program's text (the seventh form; the later family's looks); each row that meets fmt, with fmt's text TOLD by the authors' own Lean function (tested against real Go, not proved from fmt's source: count such statements apart). THE CARD IS WHAT COUNTS. Prove the row's statement (the work); the ties are given (YthhdmehakpjhgaaGreatDoorTie.lean); close each card by the builder's one call (the guide's Derived/Test/ToyasCard.lean, 'card_holds'). Laid BY PROGRAM, IN A SANDBOX (cutbox-door.mjs). By AI agents, Wed Nov 11 2026. No macro, syntax, notation, axiom, sorry.
-/
import Derived.Test.YthhdmehakpjhgaaGreatDoorRows
import GoSem.ClaimSeven
namespace Go.Proofs.YthhdmehakpjhgaaGreatDoor
namespace Rows

/-- THE TIED CARD OF 'gatekeep2.HeadersSet'. -/
def headersSetCard : Claim7 := { stood := { row := headersSetRow, standIns := [], harness := (true, "94e2932db7d42ba0d54ecf3035e39d462758b377055cc7be5069031a2b775c30"), looks := true }, kinds := [], alts := [], laidByText := true, laidKinds := [.data, .data, .data, .data, .sentinel, .sentinel, .data, .data, .pinned, .pinned], laidTests := true, laidLooks := .later }
def HeadersSetCardSaid : Prop := Claim7.holds Tryz.pinned (.plain (OpenSpec.ofChange headersSetSpec)) headersSetCard

/-- THE TIED CARD OF 'gatekeep2.ScopesAgree'. -/
def scopesAgreeCard : Claim7 := { stood := { row := scopesAgreeRow, standIns := [], harness := (true, "94e2932db7d42ba0d54ecf3035e39d462758b377055cc7be5069031a2b775c30"), looks := true }, kinds := [], alts := [], laidByText := true, laidKinds := [.data, .data, .data, .data, .sentinel, .sentinel, .data, .data, .pinned, .pinned], laidTests := true, laidLooks := .later }
def ScopesAgreeCardSaid : Prop := Claim7.holds Tryz.pinned (.plain (OpenSpec.ofChange scopesAgreeSpec)) scopesAgreeCard

/-- THE TIED CARD OF 'gatekeep2.HealthIsByItself'. -/
def healthIsByItselfCard : Claim7 := { stood := { row := healthIsByItselfRow, standIns := [], harness := (true, "94e2932db7d42ba0d54ecf3035e39d462758b377055cc7be5069031a2b775c30"), looks := true }, kinds := [], alts := [], laidByText := true, laidKinds := [.data, .data, .data, .data, .sentinel, .sentinel, .data, .data, .pinned, .pinned], laidTests := true, laidLooks := .later }
def HealthIsByItselfCardSaid : Prop := Claim7.holds Tryz.pinned (.plain (OpenSpec.ofChange healthIsByItselfSpec)) healthIsByItselfCard

/-- THE TIED CARD OF 'gatekeep2.PricesGrow'. -/
def pricesGrowCard : Claim7 := { stood := { row := pricesGrowRow, standIns := [], harness := (true, "94e2932db7d42ba0d54ecf3035e39d462758b377055cc7be5069031a2b775c30"), looks := true }, kinds := [], alts := [], laidByText := true, laidKinds := [.data, .data, .data, .data, .sentinel, .sentinel, .data, .data, .pinned, .pinned], laidTests := true, laidLooks := .later }
def PricesGrowCardSaid : Prop := Claim7.holds Tryz.pinned (.plain (OpenSpec.ofChange pricesGrowSpec)) pricesGrowCard

/-- THE TIED CARD OF 'gatekeep2.KeysStay'. -/
def keysStayCard : Claim7 := { stood := { row := keysStayRow, standIns := [], harness := (true, "94e2932db7d42ba0d54ecf3035e39d462758b377055cc7be5069031a2b775c30"), looks := true }, kinds := [], alts := [], laidByText := true, laidKinds := [.data, .data, .data, .data, .sentinel, .sentinel, .data, .data, .pinned, .pinned], laidTests := true, laidLooks := .later }
def KeysStayCardSaid : Prop := Claim7.holds Tryz.pinned (.plain (OpenSpec.ofChange keysStaySpec)) keysStayCard

/-- THE TIED CARD OF 'gatekeep2.BoundsHold'. -/
def boundsHoldCard : Claim7 := { stood := { row := boundsHoldRow, standIns := [], harness := (true, "94e2932db7d42ba0d54ecf3035e39d462758b377055cc7be5069031a2b775c30"), looks := true }, kinds := [], alts := [], laidByText := true, laidKinds := [.data, .data, .data, .data, .sentinel, .sentinel, .data, .data, .pinned, .pinned], laidTests := true, laidLooks := .later }
def BoundsHoldCardSaid : Prop := Claim7.holds Tryz.pinned (.plain (OpenSpec.ofChange boundsHoldSpec)) boundsHoldCard

/-- THE SECOND FORM's CARD OF 'gatekeep2.HeadersSet'. -/
def headersSetUptoCard : Claim7 := { stood := { row := headersSetUptoRow, standIns := [], harness := (true, "94e2932db7d42ba0d54ecf3035e39d462758b377055cc7be5069031a2b775c30"), looks := true }, kinds := [], alts := [], laidByText := true, laidKinds := [.data, .data, .data, .data, .sentinel, .sentinel, .data, .data, .pinned, .pinned], laidTests := true, laidLooks := .later }
def HeadersSetUptoCardSaid : Prop := Claim7.holds Tryz.pinned (.plain (OpenSpec.upto headersSetSpec)) headersSetUptoCard

/-- THE SECOND FORM's CARD OF 'gatekeep2.ScopesAgree'. -/
def scopesAgreeUptoCard : Claim7 := { stood := { row := scopesAgreeUptoRow, standIns := [], harness := (true, "94e2932db7d42ba0d54ecf3035e39d462758b377055cc7be5069031a2b775c30"), looks := true }, kinds := [], alts := [], laidByText := true, laidKinds := [.data, .data, .data, .data, .sentinel, .sentinel, .data, .data, .pinned, .pinned], laidTests := true, laidLooks := .later }
def ScopesAgreeUptoCardSaid : Prop := Claim7.holds Tryz.pinned (.plain (OpenSpec.upto scopesAgreeSpec)) scopesAgreeUptoCard

/-- THE SECOND FORM's CARD OF 'gatekeep2.HealthIsByItself'. -/
def healthIsByItselfUptoCard : Claim7 := { stood := { row := healthIsByItselfUptoRow, standIns := [], harness := (true, "94e2932db7d42ba0d54ecf3035e39d462758b377055cc7be5069031a2b775c30"), looks := true }, kinds := [], alts := [], laidByText := true, laidKinds := [.data, .data, .data, .data, .sentinel, .sentinel, .data, .data, .pinned, .pinned], laidTests := true, laidLooks := .later }
def HealthIsByItselfUptoCardSaid : Prop := Claim7.holds Tryz.pinned (.plain (OpenSpec.upto healthIsByItselfSpec)) healthIsByItselfUptoCard

/-- THE SECOND FORM's CARD OF 'gatekeep2.PricesGrow'. -/
def pricesGrowUptoCard : Claim7 := { stood := { row := pricesGrowUptoRow, standIns := [], harness := (true, "94e2932db7d42ba0d54ecf3035e39d462758b377055cc7be5069031a2b775c30"), looks := true }, kinds := [], alts := [], laidByText := true, laidKinds := [.data, .data, .data, .data, .sentinel, .sentinel, .data, .data, .pinned, .pinned], laidTests := true, laidLooks := .later }
def PricesGrowUptoCardSaid : Prop := Claim7.holds Tryz.pinned (.plain (OpenSpec.upto pricesGrowSpec)) pricesGrowUptoCard

/-- THE SECOND FORM's CARD OF 'gatekeep2.KeysStay'. -/
def keysStayUptoCard : Claim7 := { stood := { row := keysStayUptoRow, standIns := [], harness := (true, "94e2932db7d42ba0d54ecf3035e39d462758b377055cc7be5069031a2b775c30"), looks := true }, kinds := [], alts := [], laidByText := true, laidKinds := [.data, .data, .data, .data, .sentinel, .sentinel, .data, .data, .pinned, .pinned], laidTests := true, laidLooks := .later }
def KeysStayUptoCardSaid : Prop := Claim7.holds Tryz.pinned (.plain (OpenSpec.upto keysStaySpec)) keysStayUptoCard

/-- THE SECOND FORM's CARD OF 'gatekeep2.BoundsHold'. -/
def boundsHoldUptoCard : Claim7 := { stood := { row := boundsHoldUptoRow, standIns := [], harness := (true, "94e2932db7d42ba0d54ecf3035e39d462758b377055cc7be5069031a2b775c30"), looks := true }, kinds := [], alts := [], laidByText := true, laidKinds := [.data, .data, .data, .data, .sentinel, .sentinel, .data, .data, .pinned, .pinned], laidTests := true, laidLooks := .later }
def BoundsHoldUptoCardSaid : Prop := Claim7.holds Tryz.pinned (.plain (OpenSpec.upto boundsHoldSpec)) boundsHoldUptoCard
end Rows
end Go.Proofs.YthhdmehakpjhgaaGreatDoor
