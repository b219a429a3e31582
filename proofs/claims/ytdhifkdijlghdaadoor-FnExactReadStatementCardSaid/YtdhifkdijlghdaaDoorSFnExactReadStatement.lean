/-
  The law FnExactReadStatement: its pure statement. Printed by wip/amp/row.py (a session's own program). No condition.
-/
import Derived.Test.YtdhifkdijlghdaaDoorARow
import Derived.Test.YtdhifkdijlghdaaDoorXdF0
namespace Go.Proofs.YtdhifkdijlghdaaDoorA
open Go
set_option linter.unusedVariables false
/-- THE PURE STATEMENT of FnExactReadStatement. -/
def SFnExactReadStatement : Prop := ∀ (x0 : El .str), (ByteArray.size x0 ≤ 140737488351232) → gq3 x0 = some true
theorem rdFnExactReadStatement0 : Rd Tryd.prog 9 .str (fun x : El .str => ByteArray.size x ≤ 140737488351232) := (rd_string Tryd.underlying9)
end Go.Proofs.YtdhifkdijlghdaaDoorA
