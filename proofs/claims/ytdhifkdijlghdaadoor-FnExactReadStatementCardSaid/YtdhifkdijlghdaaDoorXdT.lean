/-
  The kinds of the program's types, and a table of these types. No condition.
  Printed by wip/amp/main.py (a session's own program) out of Lean's print of the program; Lean's kernel checks it.
-/
import Derived.Test.YtdhifkdijlghdaaDoorAWord
import Derived.Test.YtdhifkdijlghdaaDoorProg
import Derived.Test.YtdhifkdijlghdaaDoorAExt
import Derived.Test.YtdhifkdijlghdaaDoorXdL
namespace Go.Proofs.YtdhifkdijlghdaaDoorA
open Go
noncomputable section
set_option linter.unusedVariables false
set_option linter.unusedSimpArgs false
set_option maxRecDepth 100000
abbrev kk8a : Kd := .pair (.int .i64) (.pair .str .str)
def tt : List (Nat × TI) := [
 (3, ⟨1, 8, .int .i64, some (.int .i64), some [.int .i64]⟩),
 (4, ⟨1, 1, .bool, some .bool, some [.bool]⟩),
 (5, ⟨1, 1, .int .u8, some (.int .u8), some [.int .u8]⟩),
 (9, ⟨1, 16, .str, some .str, some [.str]⟩),
 (23, ⟨3, 40, .struct [(0, 3), (1, 9), (2, 9)], some kk8a, some [.int .i64, .str, .str]⟩),
 (27, ⟨1, 8, .other, none, none⟩),
 (28, ⟨1, 24, .slice 9, some (.list .str), some [.nil]⟩),
 (41, ⟨1, 24, .slice 5, some (.list (.int .u8)), some [.nil]⟩)]
theorem ttOk : TtOk Tryd.prog tt := by
 unfold TtOk
 kernel_rfl
end
end Go.Proofs.YtdhifkdijlghdaaDoorA
