/-
  DERIVED. GIVEN WITH THE SEED: THE CARDS: each row of YtdhifkdijlghdaaGreatDoorRows.lean that lists a variable, with what it lists TIED to the program's text (the seventh form; the later family's looks); each row that meets fmt, with fmt's text TOLD by the authors' own Lean function (tested against real Go, not proved from fmt's source: count such statements apart). THE CARD IS WHAT COUNTS. Prove the row's statement (the work); the ties are given (YtdhifkdijlghdaaGreatDoorTie.lean); close each card by the builder's one call (the guide's Derived/Test/ToyasCard.lean, 'card_holds'). Laid BY PROGRAM, IN A SANDBOX (cutbox-door.mjs). By AI agents, Wed Nov 11 2026. No macro, syntax, notation, axiom, sorry.
-/
import Derived.Test.YtdhifkdijlghdaaGreatDoorRows
import GoSem.ClaimSeven
namespace Go.Proofs.YtdhifkdijlghdaaGreatDoor
namespace Rows

/-- THE TIED CARD OF 'laws.FnExactIssue'. -/
def fnExactIssueCard : Claim7 := { stood := { row := fnExactIssueRow, standIns := [], harness := (true, "f5fe91030af571d5ddf5a56df7cb2e6ae88e25fbafddc6be766b3e09975a33f7"), looks := true }, kinds := [], alts := [], laidByText := true, laidKinds := [.data, .data, .data], laidTests := true, laidLooks := .later }
def FnExactIssueCardSaid : Prop := Claim7.holds Tryz.pinned (.plain (OpenSpec.ofChange fnExactIssueSpec)) fnExactIssueCard

/-- THE TIED CARD OF 'laws.FnForks'. -/
def fnForksCard : Claim7 := { stood := { row := fnForksRow, standIns := [], harness := (true, "f5fe91030af571d5ddf5a56df7cb2e6ae88e25fbafddc6be766b3e09975a33f7"), looks := true }, kinds := [], alts := [], laidByText := true, laidKinds := [.data, .data, .data, .data, .sentinel, .sentinel, .pinned], laidTests := true, laidLooks := .later }
def FnForksCardSaid : Prop := Claim7.holds Tryz.pinned (.plain (OpenSpec.ofChange fnForksSpec)) fnForksCard

/-- THE TIED CARD OF 'laws.FnTrust'. -/
def fnTrustCard : Claim7 := { stood := { row := fnTrustRow, standIns := [], harness := (true, "f5fe91030af571d5ddf5a56df7cb2e6ae88e25fbafddc6be766b3e09975a33f7"), looks := true }, kinds := [], alts := [], laidByText := true, laidKinds := [.data, .data, .data], laidTests := true, laidLooks := .later }
def FnTrustCardSaid : Prop := Claim7.holds Tryz.pinned (.plain (OpenSpec.ofChange fnTrustSpec)) fnTrustCard

/-- THE TIED CARD OF 'laws.FnExactConsole'. -/
def fnExactConsoleCard : Claim7 := { stood := { row := fnExactConsoleRow, standIns := [], harness := (true, "f5fe91030af571d5ddf5a56df7cb2e6ae88e25fbafddc6be766b3e09975a33f7"), looks := true }, kinds := [], alts := [], laidByText := true, laidKinds := [.data, .data, .data, .data, .sentinel, .sentinel, .pinned], laidTests := true, laidLooks := .later }
def FnExactConsoleCardSaid : Prop := Claim7.holds Tryz.pinned (.plain (OpenSpec.ofChange fnExactConsoleSpec)) fnExactConsoleCard

/-- THE SECOND FORM's CARD OF 'laws.FnExactIssue'. -/
def fnExactIssueUptoCard : Claim7 := { stood := { row := fnExactIssueUptoRow, standIns := [], harness := (true, "f5fe91030af571d5ddf5a56df7cb2e6ae88e25fbafddc6be766b3e09975a33f7"), looks := true }, kinds := [], alts := [], laidByText := true, laidKinds := [.data, .data, .data], laidTests := true, laidLooks := .later }
def FnExactIssueUptoCardSaid : Prop := Claim7.holds Tryz.pinned (.plain (OpenSpec.upto fnExactIssueSpec)) fnExactIssueUptoCard

/-- THE SECOND FORM's CARD OF 'laws.FnForks'. -/
def fnForksUptoCard : Claim7 := { stood := { row := fnForksUptoRow, standIns := [], harness := (true, "f5fe91030af571d5ddf5a56df7cb2e6ae88e25fbafddc6be766b3e09975a33f7"), looks := true }, kinds := [], alts := [], laidByText := true, laidKinds := [.data, .data, .data, .data, .sentinel, .sentinel, .pinned], laidTests := true, laidLooks := .later }
def FnForksUptoCardSaid : Prop := Claim7.holds Tryz.pinned (.plain (OpenSpec.upto fnForksSpec)) fnForksUptoCard

/-- THE SECOND FORM's CARD OF 'laws.FnTrust'. -/
def fnTrustUptoCard : Claim7 := { stood := { row := fnTrustUptoRow, standIns := [], harness := (true, "f5fe91030af571d5ddf5a56df7cb2e6ae88e25fbafddc6be766b3e09975a33f7"), looks := true }, kinds := [], alts := [], laidByText := true, laidKinds := [.data, .data, .data], laidTests := true, laidLooks := .later }
def FnTrustUptoCardSaid : Prop := Claim7.holds Tryz.pinned (.plain (OpenSpec.upto fnTrustSpec)) fnTrustUptoCard

/-- THE SECOND FORM's CARD OF 'laws.FnExactConsole'. -/
def fnExactConsoleUptoCard : Claim7 := { stood := { row := fnExactConsoleUptoRow, standIns := [], harness := (true, "f5fe91030af571d5ddf5a56df7cb2e6ae88e25fbafddc6be766b3e09975a33f7"), looks := true }, kinds := [], alts := [], laidByText := true, laidKinds := [.data, .data, .data, .data, .sentinel, .sentinel, .pinned], laidTests := true, laidLooks := .later }
def FnExactConsoleUptoCardSaid : Prop := Claim7.holds Tryz.pinned (.plain (OpenSpec.upto fnExactConsoleSpec)) fnExactConsoleUptoCard
end Rows
end Go.Proofs.YtdhifkdijlghdaaGreatDoor
