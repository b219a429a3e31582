/-
  The law FnCommands: its pure statement. Printed by wip/amp/row.py (a session's own program). No condition.
-/
import Derived.Test.YtaifnabbijikeaaARow
import Derived.Test.YtaifnabbijikeaaXeF1
namespace Go.Proofs.YtaifnabbijikeaaA
open Go
set_option linter.unusedVariables false
/-- THE PURE STATEMENT of FnCommands. -/
def SFnCommands : Prop := ∀ (x0 : El (.list (.int .u8))), (x0.length * 1 ≤ 140737488351232 ∧ x0.length ≤ maxLen ∧ ∀ y ∈ x0, (Lit.int .u8 y).wf = true) → l_FnCommands x0 = some true
theorem rdFnCommands0 : Rd Try.prog 22 (.list (.int .u8)) (fun x : El (.list (.int .u8)) => x.length * 1 ≤ 140737488351232 ∧ x.length ≤ maxLen ∧ ∀ y ∈ x, (Lit.int .u8 y).wf = true) := (rd_slice (B := 1) (k := (.int .u8)) Try.underlying22 (by kernel_rfl) (by kernel_rfl) (rd_int Try.underlying5))
end Go.Proofs.YtaifnabbijikeaaA
