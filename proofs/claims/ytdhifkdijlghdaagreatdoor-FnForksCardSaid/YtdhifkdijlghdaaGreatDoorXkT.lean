/-
  The kinds of the program's types, and a table of these types. No condition.
  Printed by wip/amp/main.py (a session's own program) out of Lean's print of the program; Lean's kernel checks it.
-/
import Derived.Test.YtdhifkdijlghdaaGreatDoorAWord
import Derived.Test.YtdhifkdijlghdaaGreatDoorProg
import Derived.Test.YtdhifkdijlghdaaGreatDoorAExt
import Derived.Test.YtdhifkdijlghdaaGreatDoorXkL
namespace Go.Proofs.YtdhifkdijlghdaaGreatDoorA
open Go
noncomputable section
set_option linter.unusedVariables false
set_option linter.unusedSimpArgs false
set_option maxRecDepth 100000
abbrev kk27b : Kd := .pair .str (.pair .str .str)
abbrev kk513 : Kd := .pair (.int .i64) .str
abbrev kkc3 : Kd := .pair (.int .i64) kk513
abbrev kkb2 : Kd := .pair (.int .i64) (.pair (.int .i64) kkc3)
abbrev kkcb1 : Kd := .pair (.list .str) (.pair (.list kk27b) (.list kkb2))
abbrev kk8eb : Kd := .tree (.pair .str (.pair .str (.int .i64)))
abbrev kk8a : Kd := .pair (.int .i64) (.pair .str .str)
abbrev kkfb2 : Kd := .pair (.int .i64) (.pair (.int .i64) kk8a)
abbrev kke66 : Kd := .pair .str (.list .bool)
abbrev kkce1 : Kd := .pair kke66 (.pair kk8a (.pair .bool (.int .i64)))
abbrev kk748 : Kd := .pair (.list .str) (.pair kk8eb (.list kkb2))
abbrev kkebf : Kd := .pair .bool (.pair .str (.pair .str (.list kk513)))
abbrev kk7c : Kd := .pair (.list .str) (.pair .bool (.list .str))
abbrev kkbd : Kd := .pair (.int .i64) (.pair (.list .str) (.list .str))
abbrev kka8d : Kd := .pair .str (.pair .bool kk8a)
abbrev ksL00Src : Kd := .pair (.list (.int .u8)) (.pair (.int .i64) (.int .i64))
def tt : List (Nat × TI) := [
 (3, ⟨1, 8, .int .i64, some (.int .i64), some [.int .i64]⟩),
 (4, ⟨1, 1, .bool, some .bool, some [.bool]⟩),
 (5, ⟨1, 1, .int .u8, some (.int .u8), some [.int .u8]⟩),
 (9, ⟨1, 16, .str, some .str, some [.str]⟩),
 (29, ⟨1, 24, .slice 9, some (.list .str), some [.nil]⟩),
 (39, ⟨3, 40, .struct [(0, 3), (1, 9), (2, 9)], some kk8a, some [.int .i64, .str, .str]⟩),
 (43, ⟨3, 56, .struct [(0, 3), (1, 29), (2, 29)], some kkbd, some [.int .i64, .nil, .nil]⟩),
 (62, ⟨1, 24, .slice 5, some (.list (.int .u8)), some [.nil]⟩),
 (70, ⟨5, 64, .struct [(0, 9), (1, 4), (2, 3), (3, 9), (4, 9)], some kka8d, some [.str, .bool, .int .i64, .str, .str]⟩),
 (102, ⟨1, 8, .other, none, none⟩),
 (126, ⟨1, 8, .ptr 209, none, none⟩),
 (197, ⟨1, 24, .slice 3, some (.list (.int .i64)), some [.nil]⟩),
 (209, ⟨3, 40, .struct [(0, 62), (1, 3), (2, 3)], some ksL00Src, some [.nil, .int .i64, .int .i64]⟩),
 (213, ⟨1, 4, .int .u32, some (.int .u32), some [.int .u32]⟩),
 (214, ⟨1, 24, .slice 213, some (.list (.int .u32)), some [.nil]⟩),
 (215, ⟨1, 8, .int .u64, some (.int .u64), some [.int .u64]⟩),
 (231, ⟨1, 8, .ptr 233, none, none⟩),
 (233, ⟨3, 56, .struct [(0, 29), (1, 4), (2, 29)], some kk7c, some [.nil, .bool, .nil]⟩),
 (237, ⟨8, 32, .array 8 213, none, some [.int .u32, .int .u32, .int .u32, .int .u32, .int .u32, .int .u32, .int .u32, .int .u32]⟩),
 (239, ⟨64, 256, .array 64 213, none, some (repZ [.int .u32] 64)⟩)]
theorem ttOk : TtOk Tryz.prog tt := by
 unfold TtOk
 kernel_rfl
end
end Go.Proofs.YtdhifkdijlghdaaGreatDoorA
