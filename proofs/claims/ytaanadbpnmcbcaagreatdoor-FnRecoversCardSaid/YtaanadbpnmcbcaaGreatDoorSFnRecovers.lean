/-
  The law FnRecovers: its pure statement. Printed by wip/amp/row.py (a session's own program). No condition.
-/
import Derived.Test.YtaanadbpnmcbcaaGreatDoorARow
import Derived.Test.YtaanadbpnmcbcaaGreatDoorXmF3
namespace Go.Proofs.YtaanadbpnmcbcaaGreatDoorA
open Go
set_option linter.unusedVariables false
/-- THE PURE STATEMENT of FnRecovers. -/
def SFnRecovers : Prop := ∀ (x0 : El (.list (.int .u8))) (x1 : El (.list (.int .u8))), (x0.length * 1 ≤ 140737488351232 ∧ x0.length ≤ maxLen ∧ ∀ y ∈ x0, (Lit.int .u8 y).wf = true) → (x1.length * 1 ≤ 140737488351232 ∧ x1.length ≤ maxLen ∧ ∀ y ∈ x1, (Lit.int .u8 y).wf = true) → gq7 x0 x1 = some true
theorem v51 : Rd Tryz.prog 35 (.list (.int .u8)) (fun x : El (.list (.int .u8)) => x.length * 1 ≤ 140737488351232 ∧ x.length ≤ maxLen ∧ ∀ y ∈ x, (Lit.int .u8 y).wf = true) := (vd2 (B := 1) (k := (.int .u8)) Tryz.underlying35 (by kernel_rfl) (by kernel_rfl) (rd_int Tryz.underlying5))
theorem v2c : Rd Tryz.prog 35 (.list (.int .u8)) (fun x : El (.list (.int .u8)) => x.length * 1 ≤ 140737488351232 ∧ x.length ≤ maxLen ∧ ∀ y ∈ x, (Lit.int .u8 y).wf = true) := (vd2 (B := 1) (k := (.int .u8)) Tryz.underlying35 (by kernel_rfl) (by kernel_rfl) (rd_int Tryz.underlying5))
end Go.Proofs.YtaanadbpnmcbcaaGreatDoorA
