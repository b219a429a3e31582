/-
  DERIVED. GIVEN WITH THE SEED: THE CARDS: each row of YtdpjbeeokimnaaaGreatDoorRows.lean that lists a variable, with what it lists TIED to the program's text (the seventh form; the later family's looks); each row that meets fmt, with fmt's text TOLD by the authors' own Lean function (tested against real Go, not proved from fmt's source: count such statements apart). THE CARD IS WHAT COUNTS. Prove the row's statement (the work); the ties are given (YtdpjbeeokimnaaaGreatDoorTie.lean); close each card by the builder's one call (the guide's Derived/Test/ToyasCard.lean, 'card_holds'). Laid BY PROGRAM, IN A SANDBOX (cutbox-door.mjs). By AI agents, Wed Nov 11 2026. No macro, syntax, notation, axiom, sorry.
-/
import Derived.Test.YtdpjbeeokimnaaaGreatDoorRows
import GoSem.ClaimSeven
namespace Go.Proofs.YtdpjbeeokimnaaaGreatDoor
namespace Rows

/-- THE TIED CARD OF 'laws.FnExactLoadState'. -/
def fnExactLoadStateCard : Claim7 := { stood := { row := fnExactLoadStateRow, standIns := [], harness := (true, "83fa15ca59f336ca2f9c17a3a23debd1152b1556280c636533750039abf8594e"), looks := false }, kinds := [], alts := [], laidByText := true, laidKinds := [.data, .pinned], laidTests := true, laidLooks := .later }
def FnExactLoadStateCardSaid : Prop := Claim7.holds Tryz.pinned (.plain (OpenSpec.ofChange fnExactLoadStateSpec)) fnExactLoadStateCard

/-- THE TIED CARD OF 'laws.FnStates'. -/
def fnStatesCard : Claim7 := { stood := { row := fnStatesRow, standIns := [], harness := (true, "83fa15ca59f336ca2f9c17a3a23debd1152b1556280c636533750039abf8594e"), looks := false }, kinds := [], alts := [], laidByText := true, laidKinds := [.data, .pinned], laidTests := true, laidLooks := .later }
def FnStatesCardSaid : Prop := Claim7.holds Tryz.pinned (.plain (OpenSpec.ofChange fnStatesSpec)) fnStatesCard

/-- THE TIED CARD OF 'laws.FnExactAdvance'. -/
def fnExactAdvanceCard : Claim7 := { stood := { row := fnExactAdvanceRow, standIns := [], harness := (true, "83fa15ca59f336ca2f9c17a3a23debd1152b1556280c636533750039abf8594e"), looks := false }, kinds := [], alts := [], laidByText := true, laidKinds := [.data, .data, .data], laidTests := true, laidLooks := .later }
def FnExactAdvanceCardSaid : Prop := Claim7.holds Tryz.pinned (.plain (OpenSpec.ofChange fnExactAdvanceSpec)) fnExactAdvanceCard

/-- THE TIED CARD OF 'laws.FnExactWalAppend'. -/
def fnExactWalAppendCard : Claim7 := { stood := { row := fnExactWalAppendRow, standIns := [], harness := (true, "83fa15ca59f336ca2f9c17a3a23debd1152b1556280c636533750039abf8594e"), looks := false }, kinds := [], alts := [], laidByText := true, laidKinds := [.data, .pinned], laidTests := true, laidLooks := .later }
def FnExactWalAppendCardSaid : Prop := Claim7.holds Tryz.pinned (.plain (OpenSpec.ofChange fnExactWalAppendSpec)) fnExactWalAppendCard

/-- THE SECOND FORM's CARD OF 'laws.FnExactLoadState'. -/
def fnExactLoadStateUptoCard : Claim7 := { stood := { row := fnExactLoadStateUptoRow, standIns := [], harness := (true, "83fa15ca59f336ca2f9c17a3a23debd1152b1556280c636533750039abf8594e"), looks := false }, kinds := [], alts := [], laidByText := true, laidKinds := [.data, .pinned], laidTests := true, laidLooks := .later }
def FnExactLoadStateUptoCardSaid : Prop := Claim7.holds Tryz.pinned (.plain (OpenSpec.upto fnExactLoadStateSpec)) fnExactLoadStateUptoCard

/-- THE SECOND FORM's CARD OF 'laws.FnStates'. -/
def fnStatesUptoCard : Claim7 := { stood := { row := fnStatesUptoRow, standIns := [], harness := (true, "83fa15ca59f336ca2f9c17a3a23debd1152b1556280c636533750039abf8594e"), looks := false }, kinds := [], alts := [], laidByText := true, laidKinds := [.data, .pinned], laidTests := true, laidLooks := .later }
def FnStatesUptoCardSaid : Prop := Claim7.holds Tryz.pinned (.plain (OpenSpec.upto fnStatesSpec)) fnStatesUptoCard

/-- THE SECOND FORM's CARD OF 'laws.FnExactAdvance'. -/
def fnExactAdvanceUptoCard : Claim7 := { stood := { row := fnExactAdvanceUptoRow, standIns := [], harness := (true, "83fa15ca59f336ca2f9c17a3a23debd1152b1556280c636533750039abf8594e"), looks := false }, kinds := [], alts := [], laidByText := true, laidKinds := [.data, .data, .data], laidTests := true, laidLooks := .later }
def FnExactAdvanceUptoCardSaid : Prop := Claim7.holds Tryz.pinned (.plain (OpenSpec.upto fnExactAdvanceSpec)) fnExactAdvanceUptoCard

/-- THE SECOND FORM's CARD OF 'laws.FnExactWalAppend'. -/
def fnExactWalAppendUptoCard : Claim7 := { stood := { row := fnExactWalAppendUptoRow, standIns := [], harness := (true, "83fa15ca59f336ca2f9c17a3a23debd1152b1556280c636533750039abf8594e"), looks := false }, kinds := [], alts := [], laidByText := true, laidKinds := [.data, .pinned], laidTests := true, laidLooks := .later }
def FnExactWalAppendUptoCardSaid : Prop := Claim7.holds Tryz.pinned (.plain (OpenSpec.upto fnExactWalAppendSpec)) fnExactWalAppendUptoCard
end Rows
end Go.Proofs.YtdpjbeeokimnaaaGreatDoor
