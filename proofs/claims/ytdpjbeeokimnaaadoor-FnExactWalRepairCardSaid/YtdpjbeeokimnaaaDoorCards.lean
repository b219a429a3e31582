/-
  DERIVED. GIVEN WITH THE SEED: THE CARDS: each row of YtdpjbeeokimnaaaDoorRows.lean that lists a variable, with what it lists TIED to the program's text (the seventh form; the later family's looks); each row that meets fmt, with fmt's text TOLD by the authors' own Lean function (tested against real Go, not proved from fmt's source: count such statements apart). THE CARD IS WHAT COUNTS. Prove the row's statement (the work); the ties are given (YtdpjbeeokimnaaaDoorTie.lean); close each card by the builder's one call (the guide's Derived/Test/ToyasCard.lean, 'card_holds'). Laid BY PROGRAM, IN A SANDBOX (cutbox-door.mjs). By AI agents, Wed Nov 11 2026. No macro, syntax, notation, axiom, sorry.
-/
import Derived.Test.YtdpjbeeokimnaaaDoorRows
import GoSem.ClaimSeven
namespace Go.Proofs.YtdpjbeeokimnaaaDoor
namespace Rows

/-- THE TIED CARD OF 'laws.FnExactReadStatement'. -/
def fnExactReadStatementCard : Claim7 := { stood := { row := fnExactReadStatementRow, standIns := [], harness := (true, "e5e2ef1a1677be0b9c33bab441d2fc08d20eaf7e30cc3903d98af57f03350143"), looks := true }, kinds := [], alts := [], laidByText := true, laidKinds := [.data, .data, .data, .data, .sentinel, .sentinel, .pinned], laidTests := true, laidLooks := .later }
def FnExactReadStatementCardSaid : Prop := Claim7.holds Tryd.pinned (.plain (OpenSpec.ofChange fnExactReadStatementSpec)) fnExactReadStatementCard

/-- THE TIED CARD OF 'laws.FnExactWalRepair'. -/
def fnExactWalRepairCard : Claim7 := { stood := { row := fnExactWalRepairRow, standIns := [], harness := (true, "e5e2ef1a1677be0b9c33bab441d2fc08d20eaf7e30cc3903d98af57f03350143"), looks := true }, kinds := [], alts := [], laidByText := true, laidKinds := [.data, .pinned], laidTests := true, laidLooks := .later }
def FnExactWalRepairCardSaid : Prop := Claim7.holds Tryd.pinned (.plain (OpenSpec.ofChange fnExactWalRepairSpec)) fnExactWalRepairCard

/-- THE SECOND FORM's CARD OF 'laws.FnExactReadStatement'. -/
def fnExactReadStatementUptoCard : Claim7 := { stood := { row := fnExactReadStatementUptoRow, standIns := [], harness := (true, "e5e2ef1a1677be0b9c33bab441d2fc08d20eaf7e30cc3903d98af57f03350143"), looks := true }, kinds := [], alts := [], laidByText := true, laidKinds := [.data, .data, .data, .data, .sentinel, .sentinel, .pinned], laidTests := true, laidLooks := .later }
def FnExactReadStatementUptoCardSaid : Prop := Claim7.holds Tryd.pinned (.plain (OpenSpec.upto fnExactReadStatementSpec)) fnExactReadStatementUptoCard

/-- THE SECOND FORM's CARD OF 'laws.FnExactWalRepair'. -/
def fnExactWalRepairUptoCard : Claim7 := { stood := { row := fnExactWalRepairUptoRow, standIns := [], harness := (true, "e5e2ef1a1677be0b9c33bab441d2fc08d20eaf7e30cc3903d98af57f03350143"), looks := true }, kinds := [], alts := [], laidByText := true, laidKinds := [.data, .pinned], laidTests := true, laidLooks := .later }
def FnExactWalRepairUptoCardSaid : Prop := Claim7.holds Tryd.pinned (.plain (OpenSpec.upto fnExactWalRepairSpec)) fnExactWalRepairUptoCard
end Rows
end Go.Proofs.YtdpjbeeokimnaaaDoor
