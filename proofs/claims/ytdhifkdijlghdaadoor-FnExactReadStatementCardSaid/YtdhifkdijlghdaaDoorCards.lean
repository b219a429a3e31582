/-
  DERIVED. GIVEN WITH THE SEED: THE CARDS: each row of YtdhifkdijlghdaaDoorRows.lean that lists a variable, with what it lists TIED to the program's text (the seventh form; the later family's looks); each row that meets fmt, with fmt's text TOLD by the authors' own Lean function (tested against real Go, not proved from fmt's source: count such statements apart). THE CARD IS WHAT COUNTS. Prove the row's statement (the work); the ties are given (YtdhifkdijlghdaaDoorTie.lean); close each card by the builder's one call (the guide's Derived/Test/ToyasCard.lean, 'card_holds'). Laid BY PROGRAM, IN A SANDBOX (cutbox-door.mjs). By AI agents, Wed Nov 11 2026. No macro, syntax, notation, axiom, sorry.
-/
import Derived.Test.YtdhifkdijlghdaaDoorRows
import GoSem.ClaimSeven
namespace Go.Proofs.YtdhifkdijlghdaaDoor
namespace Rows

/-- THE TIED CARD OF 'laws.FnExactReadStatement'. -/
def fnExactReadStatementCard : Claim7 := { stood := { row := fnExactReadStatementRow, standIns := [], harness := (true, "343b57adcfc13f0bb4018483edccfbab85aad794ff6ecfa85ff8affdd7b3c816"), looks := true }, kinds := [], alts := [], laidByText := true, laidKinds := [.data, .data, .data, .data, .sentinel, .sentinel, .pinned], laidTests := true, laidLooks := .later }
def FnExactReadStatementCardSaid : Prop := Claim7.holds Tryd.pinned (.plain (OpenSpec.ofChange fnExactReadStatementSpec)) fnExactReadStatementCard

/-- THE SECOND FORM's CARD OF 'laws.FnExactReadStatement'. -/
def fnExactReadStatementUptoCard : Claim7 := { stood := { row := fnExactReadStatementUptoRow, standIns := [], harness := (true, "343b57adcfc13f0bb4018483edccfbab85aad794ff6ecfa85ff8affdd7b3c816"), looks := true }, kinds := [], alts := [], laidByText := true, laidKinds := [.data, .data, .data, .data, .sentinel, .sentinel, .pinned], laidTests := true, laidLooks := .later }
def FnExactReadStatementUptoCardSaid : Prop := Claim7.holds Tryd.pinned (.plain (OpenSpec.upto fnExactReadStatementSpec)) fnExactReadStatementUptoCard
end Rows
end Go.Proofs.YtdhifkdijlghdaaDoor
