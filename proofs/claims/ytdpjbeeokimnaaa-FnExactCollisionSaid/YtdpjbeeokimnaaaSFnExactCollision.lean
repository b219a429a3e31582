/-
  The law FnExactCollision: its pure statement. Printed by wip/amp/row.py (a session's own program). No condition.
-/
import Derived.Test.YtdpjbeeokimnaaaARow
import Derived.Test.YtdpjbeeokimnaaaXcF1
namespace Go.Proofs.YtdpjbeeokimnaaaA
open Go
set_option linter.unusedVariables false
/-- THE PURE STATEMENT of FnExactCollision. -/
def SFnExactCollision : Prop := ∀ (x0 : El (.int .i64)) (x1 : El (.int .i64)) (x2 : El .str) (x3 : El (.list .str)) (x4 : El .str) (x5 : El (.list .str)), ((Lit.int .i64 x0).wf = true) → ((Lit.int .i64 x1).wf = true) → (ByteArray.size x2 ≤ 140737488351232) → (x3.length * 16 ≤ 140737488351232 ∧ x3.length ≤ maxLen ∧ ∀ y ∈ x3, ByteArray.size y ≤ 140737488351232) → (ByteArray.size x4 ≤ 140737488351232) → (x5.length * 16 ≤ 140737488351232 ∧ x5.length ≤ maxLen ∧ ∀ y ∈ x5, ByteArray.size y ≤ 140737488351232) → l_FnExactCollision x0 x1 x2 x3 x4 x5 = some true
theorem rdFnExactCollision0 : Rd Try.prog 3 (.int .i64) (fun x : El (.int .i64) => (Lit.int .i64 x).wf = true) := (rd_int Try.underlying3)
theorem rdFnExactCollision1 : Rd Try.prog 3 (.int .i64) (fun x : El (.int .i64) => (Lit.int .i64 x).wf = true) := (rd_int Try.underlying3)
theorem rdFnExactCollision2 : Rd Try.prog 9 .str (fun x : El .str => ByteArray.size x ≤ 140737488351232) := (rd_string Try.underlying9)
theorem rdFnExactCollision3 : Rd Try.prog 38 (.list .str) (fun x : El (.list .str) => x.length * 16 ≤ 140737488351232 ∧ x.length ≤ maxLen ∧ ∀ y ∈ x, ByteArray.size y ≤ 140737488351232) := (rd_slice (B := 16) (k := .str) Try.underlying38 (by kernel_rfl) (by kernel_rfl) (rd_string Try.underlying9))
theorem rdFnExactCollision4 : Rd Try.prog 9 .str (fun x : El .str => ByteArray.size x ≤ 140737488351232) := (rd_string Try.underlying9)
theorem rdFnExactCollision5 : Rd Try.prog 38 (.list .str) (fun x : El (.list .str) => x.length * 16 ≤ 140737488351232 ∧ x.length ≤ maxLen ∧ ∀ y ∈ x, ByteArray.size y ≤ 140737488351232) := (rd_slice (B := 16) (k := .str) Try.underlying38 (by kernel_rfl) (by kernel_rfl) (rd_string Try.underlying9))
end Go.Proofs.YtdpjbeeokimnaaaA
