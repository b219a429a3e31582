/-
  The kinds of the program's types, and a table of these types. No condition.
  Printed by wip/amp/main.py (a session's own program) out of Lean's print of the program; Lean's kernel checks it.
-/
import Derived.Test.YtaifnabbijikeaaAWord
import Derived.Test.YtaifnabbijikeaaProg
namespace Go.Proofs.YtaifnabbijikeaaA
open Go
noncomputable section
set_option linter.unusedVariables false
set_option linter.unusedSimpArgs false
set_option maxRecDepth 100000

abbrev kCommand : Kd := .pair (.int .i64) (.pair (.int .i64) (.pair (.int .i64) (.pair .str .str)))
abbrev kEntry : Kd := .pair (.int .i64) (.pair (.int .i64) .str)
abbrev kReader : Kd := .pair .str .bool
abbrev ksL00Src : Kd := .pair (.list (.int .u8)) (.pair (.int .i64) (.int .i64))
abbrev ksL02Reader : Kd := .pair (.list (.int .u8)) (.pair (.int .i64) .bool)
def tt : List (Nat × TI) := [
  (3, ⟨1, 8, .int .i64, some (.int .i64), some [.int .i64]⟩),
  (4, ⟨1, 1, .bool, some .bool, some [.bool]⟩),
  (5, ⟨1, 1, .int .u8, some (.int .u8), some [.int .u8]⟩),
  (9, ⟨1, 16, .str, some .str, some [.str]⟩),
  (22, ⟨1, 24, .slice 5, some (.list (.int .u8)), some [.nil]⟩),
  (24, ⟨5, 56, .struct [(0, 3), (1, 3), (2, 3), (3, 9), (4, 9)], some kCommand, some [.int .i64, .int .i64, .int .i64, .str, .str]⟩),
  (31, ⟨3, 32, .struct [(0, 3), (1, 3), (2, 9)], some kEntry, some [.int .i64, .int .i64, .str]⟩),
  (38, ⟨1, 8, .ptr 54, none, none⟩),
  (50, ⟨1, 8, .other, none, none⟩),
  (54, ⟨3, 40, .struct [(0, 22), (1, 3), (2, 3)], some ksL00Src, some [.nil, .int .i64, .int .i64]⟩),
  (55, ⟨1, 24, .slice 3, some (.list (.int .i64)), some [.nil]⟩),
  (61, ⟨1, 8, .ptr 63, none, none⟩),
  (63, ⟨2, 24, .struct [(0, 9), (1, 4)], some kReader, some [.str, .bool]⟩),
  (65, ⟨1, 24, .slice 9, some (.list .str), some [.nil]⟩),
  (68, ⟨1, 8, .ptr 70, none, none⟩),
  (70, ⟨3, 40, .struct [(0, 22), (1, 3), (2, 4)], some ksL02Reader, some [.nil, .int .i64, .bool]⟩)]
theorem ttOk : TtOk Try.prog tt := by
  unfold TtOk
  kernel_rfl
end
end Go.Proofs.YtaifnabbijikeaaA
