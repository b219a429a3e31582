/-
  The law FnExactFoldRecords: its pure statement. Printed by wip/amp/row.py (a session's own program). No condition.
-/
import Derived.Test.YtdpjbeeokimnaaaARow
import Derived.Test.YtdpjbeeokimnaaaXeF1
namespace Go.Proofs.YtdpjbeeokimnaaaA
open Go
set_option linter.unusedVariables false
/-- THE PURE STATEMENT of FnExactFoldRecords. -/
def SFnExactFoldRecords : Prop := ∀ (x0 : El (.list .str)), (x0.length * 16 ≤ 140737488351232 ∧ x0.length ≤ maxLen ∧ ∀ y ∈ x0, ByteArray.size y ≤ 140737488351232) → l_FnExactFoldRecords x0 = some true
theorem rdFnExactFoldRecords0 : Rd Try.prog 38 (.list .str) (fun x : El (.list .str) => x.length * 16 ≤ 140737488351232 ∧ x.length ≤ maxLen ∧ ∀ y ∈ x, ByteArray.size y ≤ 140737488351232) := (rd_slice (B := 16) (k := .str) Try.underlying38 (by kernel_rfl) (by kernel_rfl) (rd_string Try.underlying9))
end Go.Proofs.YtdpjbeeokimnaaaA
