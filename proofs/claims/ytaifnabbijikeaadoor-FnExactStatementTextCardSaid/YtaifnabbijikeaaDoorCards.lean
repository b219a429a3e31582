/-
  DERIVED. GIVEN WITH THE SEED: THE CARDS: each row of YtaifnabbijikeaaDoorRows.lean that lists a variable, with what it lists TIED to the program's text (the seventh form; the later family's looks); each row that meets fmt, with fmt's text TOLD by the authors' own Lean function (tested against real Go, not proved from fmt's source: count such statements apart). THE CARD IS WHAT COUNTS. Prove the row's statement (the work); the ties are given (YtaifnabbijikeaaDoorTie.lean); close each card by the builder's one call (the guide's Derived/Test/ToyasCard.lean, 'card_holds'). Laid BY PROGRAM, IN A SANDBOX (cutbox-door.mjs). By AI agents, Wed Nov 11 2026. No macro, syntax, notation, axiom, sorry.
-/
import Derived.Test.YtaifnabbijikeaaDoorRows
import GoSem.ClaimSeven
namespace Go.Proofs.YtaifnabbijikeaaDoor
namespace Rows

/-- THE TIED CARD OF 'laws.FnExactStatementText'. -/
def fnExactStatementTextCard : Claim7 := { stood := { row := fnExactStatementTextRow, standIns := [], harness := (true, "cb41a5e74d810392a454713cfd943cd083387e4e863d17c92344cdfb56027315"), looks := false }, kinds := [], alts := [], laidByText := true, laidKinds := [.data, .data, .data], laidTests := true, laidLooks := .later }
def FnExactStatementTextCardSaid : Prop := Claim7.holds Tryd.pinned (.plain (OpenSpec.ofChange fnExactStatementTextSpec)) fnExactStatementTextCard

/-- THE SECOND FORM's CARD OF 'laws.FnExactStatementText'. -/
def fnExactStatementTextUptoCard : Claim7 := { stood := { row := fnExactStatementTextUptoRow, standIns := [], harness := (true, "cb41a5e74d810392a454713cfd943cd083387e4e863d17c92344cdfb56027315"), looks := false }, kinds := [], alts := [], laidByText := true, laidKinds := [.data, .data, .data], laidTests := true, laidLooks := .later }
def FnExactStatementTextUptoCardSaid : Prop := Claim7.holds Tryd.pinned (.plain (OpenSpec.upto fnExactStatementTextSpec)) fnExactStatementTextUptoCard
end Rows
end Go.Proofs.YtaifnabbijikeaaDoor
