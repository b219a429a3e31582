/-
  DERIVED. GIVEN WITH THE SEED: THE CARDS: each row of YtaanadbpnmcbcaaGreatDoorRows.lean that lists a variable, with what it lists TIED to the program's text (the seventh form; the later family's looks); each row that meets fmt, with fmt's text TOLD by the authors' own Lean function (tested against real Go, not proved from fmt's source: count such statements apart). THE CARD IS WHAT COUNTS. Prove the row's statement (the work); the ties are given (YtaanadbpnmcbcaaGreatDoorTie.lean); close each card by the builder's one call (the guide's Derived/Test/ToyasCard.lean, 'card_holds'). Laid BY PROGRAM, IN A SANDBOX (cutbox-door.mjs). By AI agents, Wed Nov 11 2026. No macro, syntax, notation, axiom, sorry.
-/
import Derived.Test.YtaanadbpnmcbcaaGreatDoorRows
import GoSem.ClaimSeven
namespace Go.Proofs.YtaanadbpnmcbcaaGreatDoor
namespace Rows

/-- THE TIED CARD OF 'laws.FnExactWalForget'. -/
def fnExactWalForgetCard : Claim7 := { stood := { row := fnExactWalForgetRow, standIns := [], harness := (true, "98e09a7c8157d2373748aa531f97ea91c2efec541d38361ef4399a7e19ff627d"), looks := false }, kinds := [], alts := [], laidByText := true, laidKinds := [.data, .pinned], laidTests := true, laidLooks := .later }
def FnExactWalForgetCardSaid : Prop := Claim7.holds Tryz.pinned (.plain (OpenSpec.ofChange fnExactWalForgetSpec)) fnExactWalForgetCard

/-- THE TIED CARD OF 'laws.FnForget'. -/
def fnForgetCard : Claim7 := { stood := { row := fnForgetRow, standIns := [], harness := (true, "98e09a7c8157d2373748aa531f97ea91c2efec541d38361ef4399a7e19ff627d"), looks := false }, kinds := [], alts := [], laidByText := true, laidKinds := [.data, .pinned], laidTests := true, laidLooks := .later }
def FnForgetCardSaid : Prop := Claim7.holds Tryz.pinned (.plain (OpenSpec.ofChange fnForgetSpec)) fnForgetCard

/-- THE TIED CARD OF 'laws.FnWal'. -/
def fnWalCard : Claim7 := { stood := { row := fnWalRow, standIns := [], harness := (true, "98e09a7c8157d2373748aa531f97ea91c2efec541d38361ef4399a7e19ff627d"), looks := false }, kinds := [], alts := [], laidByText := true, laidKinds := [.data, .pinned], laidTests := true, laidLooks := .later }
def FnWalCardSaid : Prop := Claim7.holds Tryz.pinned (.plain (OpenSpec.ofChange fnWalSpec)) fnWalCard

/-- THE TIED CARD OF 'laws.FnExactSaveState'. -/
def fnExactSaveStateCard : Claim7 := { stood := { row := fnExactSaveStateRow, standIns := [], harness := (true, "98e09a7c8157d2373748aa531f97ea91c2efec541d38361ef4399a7e19ff627d"), looks := false }, kinds := [], alts := [], laidByText := true, laidKinds := [.data, .pinned], laidTests := true, laidLooks := .later }
def FnExactSaveStateCardSaid : Prop := Claim7.holds Tryz.pinned (.plain (OpenSpec.ofChange fnExactSaveStateSpec)) fnExactSaveStateCard

/-- THE TIED CARD OF 'laws.FnRecovers'. -/
def fnRecoversCard : Claim7 := { stood := { row := fnRecoversRow, standIns := [], harness := (true, "98e09a7c8157d2373748aa531f97ea91c2efec541d38361ef4399a7e19ff627d"), looks := false }, kinds := [], alts := [], laidByText := true, laidKinds := [.data, .pinned], laidTests := true, laidLooks := .later }
def FnRecoversCardSaid : Prop := Claim7.holds Tryz.pinned (.plain (OpenSpec.ofChange fnRecoversSpec)) fnRecoversCard

/-- THE TIED CARD OF 'laws.FnExactWalAppend'. -/
def fnExactWalAppendCard : Claim7 := { stood := { row := fnExactWalAppendRow, standIns := [], harness := (true, "98e09a7c8157d2373748aa531f97ea91c2efec541d38361ef4399a7e19ff627d"), looks := false }, kinds := [], alts := [], laidByText := true, laidKinds := [.data, .pinned], laidTests := true, laidLooks := .later }
def FnExactWalAppendCardSaid : Prop := Claim7.holds Tryz.pinned (.plain (OpenSpec.ofChange fnExactWalAppendSpec)) fnExactWalAppendCard

/-- THE TIED CARD OF 'laws.FnStates'. -/
def fnStatesCard : Claim7 := { stood := { row := fnStatesRow, standIns := [], harness := (true, "98e09a7c8157d2373748aa531f97ea91c2efec541d38361ef4399a7e19ff627d"), looks := false }, kinds := [], alts := [], laidByText := true, laidKinds := [.data, .pinned], laidTests := true, laidLooks := .later }
def FnStatesCardSaid : Prop := Claim7.holds Tryz.pinned (.plain (OpenSpec.ofChange fnStatesSpec)) fnStatesCard

/-- THE SECOND FORM's CARD OF 'laws.FnExactWalForget'. -/
def fnExactWalForgetUptoCard : Claim7 := { stood := { row := fnExactWalForgetUptoRow, standIns := [], harness := (true, "98e09a7c8157d2373748aa531f97ea91c2efec541d38361ef4399a7e19ff627d"), looks := false }, kinds := [], alts := [], laidByText := true, laidKinds := [.data, .pinned], laidTests := true, laidLooks := .later }
def FnExactWalForgetUptoCardSaid : Prop := Claim7.holds Tryz.pinned (.plain (OpenSpec.upto fnExactWalForgetSpec)) fnExactWalForgetUptoCard

/-- THE SECOND FORM's CARD OF 'laws.FnForget'. -/
def fnForgetUptoCard : Claim7 := { stood := { row := fnForgetUptoRow, standIns := [], harness := (true, "98e09a7c8157d2373748aa531f97ea91c2efec541d38361ef4399a7e19ff627d"), looks := false }, kinds := [], alts := [], laidByText := true, laidKinds := [.data, .pinned], laidTests := true, laidLooks := .later }
def FnForgetUptoCardSaid : Prop := Claim7.holds Tryz.pinned (.plain (OpenSpec.upto fnForgetSpec)) fnForgetUptoCard

/-- THE SECOND FORM's CARD OF 'laws.FnWal'. -/
def fnWalUptoCard : Claim7 := { stood := { row := fnWalUptoRow, standIns := [], harness := (true, "98e09a7c8157d2373748aa531f97ea91c2efec541d38361ef4399a7e19ff627d"), looks := false }, kinds := [], alts := [], laidByText := true, laidKinds := [.data, .pinned], laidTests := true, laidLooks := .later }
def FnWalUptoCardSaid : Prop := Claim7.holds Tryz.pinned (.plain (OpenSpec.upto fnWalSpec)) fnWalUptoCard

/-- THE SECOND FORM's CARD OF 'laws.FnExactSaveState'. -/
def fnExactSaveStateUptoCard : Claim7 := { stood := { row := fnExactSaveStateUptoRow, standIns := [], harness := (true, "98e09a7c8157d2373748aa531f97ea91c2efec541d38361ef4399a7e19ff627d"), looks := false }, kinds := [], alts := [], laidByText := true, laidKinds := [.data, .pinned], laidTests := true, laidLooks := .later }
def FnExactSaveStateUptoCardSaid : Prop := Claim7.holds Tryz.pinned (.plain (OpenSpec.upto fnExactSaveStateSpec)) fnExactSaveStateUptoCard

/-- THE SECOND FORM's CARD OF 'laws.FnRecovers'. -/
def fnRecoversUptoCard : Claim7 := { stood := { row := fnRecoversUptoRow, standIns := [], harness := (true, "98e09a7c8157d2373748aa531f97ea91c2efec541d38361ef4399a7e19ff627d"), looks := false }, kinds := [], alts := [], laidByText := true, laidKinds := [.data, .pinned], laidTests := true, laidLooks := .later }
def FnRecoversUptoCardSaid : Prop := Claim7.holds Tryz.pinned (.plain (OpenSpec.upto fnRecoversSpec)) fnRecoversUptoCard

/-- THE SECOND FORM's CARD OF 'laws.FnExactWalAppend'. -/
def fnExactWalAppendUptoCard : Claim7 := { stood := { row := fnExactWalAppendUptoRow, standIns := [], harness := (true, "98e09a7c8157d2373748aa531f97ea91c2efec541d38361ef4399a7e19ff627d"), looks := false }, kinds := [], alts := [], laidByText := true, laidKinds := [.data, .pinned], laidTests := true, laidLooks := .later }
def FnExactWalAppendUptoCardSaid : Prop := Claim7.holds Tryz.pinned (.plain (OpenSpec.upto fnExactWalAppendSpec)) fnExactWalAppendUptoCard

/-- THE SECOND FORM's CARD OF 'laws.FnStates'. -/
def fnStatesUptoCard : Claim7 := { stood := { row := fnStatesUptoRow, standIns := [], harness := (true, "98e09a7c8157d2373748aa531f97ea91c2efec541d38361ef4399a7e19ff627d"), looks := false }, kinds := [], alts := [], laidByText := true, laidKinds := [.data, .pinned], laidTests := true, laidLooks := .later }
def FnStatesUptoCardSaid : Prop := Claim7.holds Tryz.pinned (.plain (OpenSpec.upto fnStatesSpec)) fnStatesUptoCard
end Rows
end Go.Proofs.YtaanadbpnmcbcaaGreatDoor
