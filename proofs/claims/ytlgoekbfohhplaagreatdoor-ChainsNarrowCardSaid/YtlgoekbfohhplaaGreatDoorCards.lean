/-
  DERIVED. GIVEN WITH THE SEED: THE CARDS: each row of YtlgoekbfohhplaaGreatDoorRows.lean that lists a variable, with what it lists TIED to the program's text (the seventh form; the later family's looks); each row that meets fmt, with fmt's text TOLD by the authors' own Lean function (tested against real Go, not proved from fmt's source: count such statements apart). THE CARD IS WHAT COUNTS. Prove the row's statement (the work); the ties are given (YtlgoekbfohhplaaGreatDoorTie.lean); close each card by the builder's one call (the guide's Derived/Test/ToyasCard.lean, 'card_holds'). Laid BY PROGRAM, IN A SANDBOX (cutbox-door.mjs). By AI agents, Wed Nov 11 2026. No macro, syntax, notation, axiom, sorry.
-/
import Derived.Test.YtlgoekbfohhplaaGreatDoorRows
import GoSem.ClaimSeven
namespace Go.Proofs.YtlgoekbfohhplaaGreatDoor
namespace Rows

/-- THE TIED CARD OF 'gatekeep2.ScopesAgree'. -/
def scopesAgreeCard : Claim7 := { stood := { row := scopesAgreeRow, standIns := [], harness := (true, "480641083f186313e0c9a48f4dcbcb95e1e373fa0b3f1d9b5cb944e58da80859"), looks := true }, kinds := [], alts := [], laidByText := true, laidKinds := [.data, .data, .data, .data, .sentinel, .sentinel, .data, .data, .pinned, .pinned], laidTests := true, laidLooks := .later }
def ScopesAgreeCardSaid : Prop := Claim7.holds Tryz.pinned (.plain (OpenSpec.ofChange scopesAgreeSpec)) scopesAgreeCard

/-- THE TIED CARD OF 'gatekeep2.ChainsNarrow'. -/
def chainsNarrowCard : Claim7 := { stood := { row := chainsNarrowRow, standIns := [], harness := (true, "480641083f186313e0c9a48f4dcbcb95e1e373fa0b3f1d9b5cb944e58da80859"), looks := true }, kinds := [], alts := [], laidByText := true, laidKinds := [.data, .data, .data, .data, .sentinel, .sentinel, .data, .data, .pinned, .pinned], laidTests := true, laidLooks := .later }
def ChainsNarrowCardSaid : Prop := Claim7.holds Tryz.pinned (.plain (OpenSpec.ofChange chainsNarrowSpec)) chainsNarrowCard

/-- THE SECOND FORM's CARD OF 'gatekeep2.ScopesAgree'. -/
def scopesAgreeUptoCard : Claim7 := { stood := { row := scopesAgreeUptoRow, standIns := [], harness := (true, "480641083f186313e0c9a48f4dcbcb95e1e373fa0b3f1d9b5cb944e58da80859"), looks := true }, kinds := [], alts := [], laidByText := true, laidKinds := [.data, .data, .data, .data, .sentinel, .sentinel, .data, .data, .pinned, .pinned], laidTests := true, laidLooks := .later }
def ScopesAgreeUptoCardSaid : Prop := Claim7.holds Tryz.pinned (.plain (OpenSpec.upto scopesAgreeSpec)) scopesAgreeUptoCard

/-- THE SECOND FORM's CARD OF 'gatekeep2.ChainsNarrow'. -/
def chainsNarrowUptoCard : Claim7 := { stood := { row := chainsNarrowUptoRow, standIns := [], harness := (true, "480641083f186313e0c9a48f4dcbcb95e1e373fa0b3f1d9b5cb944e58da80859"), looks := true }, kinds := [], alts := [], laidByText := true, laidKinds := [.data, .data, .data, .data, .sentinel, .sentinel, .data, .data, .pinned, .pinned], laidTests := true, laidLooks := .later }
def ChainsNarrowUptoCardSaid : Prop := Claim7.holds Tryz.pinned (.plain (OpenSpec.upto chainsNarrowSpec)) chainsNarrowUptoCard
end Rows
end Go.Proofs.YtlgoekbfohhplaaGreatDoor
