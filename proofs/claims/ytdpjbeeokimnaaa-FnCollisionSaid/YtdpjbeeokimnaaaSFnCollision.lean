/-
  The law FnCollision: its pure statement. Printed by wip/amp/row.py (a session's own program). No condition.
-/
import Derived.Test.YtdpjbeeokimnaaaARow
import Derived.Test.YtdpjbeeokimnaaaXqF1
namespace Go.Proofs.YtdpjbeeokimnaaaA
open Go
set_option linter.unusedVariables false
/-- THE PURE STATEMENT of FnCollision. -/
def SFnCollision : Prop := ∀ (x0 : El (.list (.int .u8))) (x1 : El (.list (.int .u8))), (x0.length * 1 ≤ 140737488351232 ∧ x0.length ≤ maxLen ∧ ∀ y ∈ x0, (Lit.int .u8 y).wf = true) → (x1.length * 1 ≤ 140737488351232 ∧ x1.length ≤ maxLen ∧ ∀ y ∈ x1, (Lit.int .u8 y).wf = true) → l_FnCollision x0 x1 = some true
theorem rdFnCollision0 : Rd Try.prog 22 (.list (.int .u8)) (fun x : El (.list (.int .u8)) => x.length * 1 ≤ 140737488351232 ∧ x.length ≤ maxLen ∧ ∀ y ∈ x, (Lit.int .u8 y).wf = true) := (rd_slice (B := 1) (k := (.int .u8)) Try.underlying22 (by kernel_rfl) (by kernel_rfl) (rd_int Try.underlying5))
theorem rdFnCollision1 : Rd Try.prog 22 (.list (.int .u8)) (fun x : El (.list (.int .u8)) => x.length * 1 ≤ 140737488351232 ∧ x.length ≤ maxLen ∧ ∀ y ∈ x, (Lit.int .u8 y).wf = true) := (rd_slice (B := 1) (k := (.int .u8)) Try.underlying22 (by kernel_rfl) (by kernel_rfl) (rd_int Try.underlying5))
end Go.Proofs.YtdpjbeeokimnaaaA
