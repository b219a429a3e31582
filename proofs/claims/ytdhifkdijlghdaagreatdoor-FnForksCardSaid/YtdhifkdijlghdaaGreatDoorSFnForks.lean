/-
  The law FnForks: its pure statement. Printed by wip/amp/row.py (a session's own program). No condition.
-/
import Derived.Test.YtdhifkdijlghdaaGreatDoorARow
import Derived.Test.YtdhifkdijlghdaaGreatDoorXkF2
namespace Go.Proofs.YtdhifkdijlghdaaGreatDoorA
open Go
set_option linter.unusedVariables false
/-- THE PURE STATEMENT of FnForks. -/
def SFnForks : Prop := ∀ (x0 : El (.list (.int .u8))) (x1 : El (.list (.int .u8))), (x0.length * 1 ≤ 140737488351232 ∧ x0.length ≤ maxLen ∧ ∀ y ∈ x0, (Lit.int .u8 y).wf = true) → (x1.length * 1 ≤ 140737488351232 ∧ x1.length ≤ maxLen ∧ ∀ y ∈ x1, (Lit.int .u8 y).wf = true) → gq4 x0 x1 = some true
theorem rdFnForks0 : Rd Tryz.prog 62 (.list (.int .u8)) (fun x : El (.list (.int .u8)) => x.length * 1 ≤ 140737488351232 ∧ x.length ≤ maxLen ∧ ∀ y ∈ x, (Lit.int .u8 y).wf = true) := (rd_slice (B := 1) (k := (.int .u8)) Tryz.underlying62 (by kernel_rfl) (by kernel_rfl) (rd_int Tryz.underlying5))
theorem rdFnForks1 : Rd Tryz.prog 62 (.list (.int .u8)) (fun x : El (.list (.int .u8)) => x.length * 1 ≤ 140737488351232 ∧ x.length ≤ maxLen ∧ ∀ y ∈ x, (Lit.int .u8 y).wf = true) := (rd_slice (B := 1) (k := (.int .u8)) Tryz.underlying62 (by kernel_rfl) (by kernel_rfl) (rd_int Tryz.underlying5))
end Go.Proofs.YtdhifkdijlghdaaGreatDoorA
