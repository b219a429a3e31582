/-
  The kinds of the program's types, and a table of these types. No condition.
  Printed by wip/amp/main.py (a session's own program) out of Lean's print of the program; Lean's kernel checks it.
-/
import Derived.Test.YtooijdhcaghdlaaAWord
import Derived.Test.YtooijdhcaghdlaaProg
import Derived.Test.YtooijdhcaghdlaaAExt
import Derived.Test.YtooijdhcaghdlaaXuL
namespace Go.Proofs.YtooijdhcaghdlaaA
open Go
noncomputable section
set_option linter.unusedVariables false
set_option linter.unusedSimpArgs false
set_option maxRecDepth 100000
abbrev kk8eb : Kd := .tree (.pair .str (.pair .str (.int .i64)))
abbrev kkc3 : Kd := .pair (.int .i64) (.pair (.int .i64) .str)
abbrev kkb2 : Kd := .pair (.int .i64) (.pair (.int .i64) kkc3)
abbrev kk748 : Kd := .pair (.list .str) (.pair kk8eb (.list kkb2))
abbrev kk27b : Kd := .pair .str (.pair .str .str)
abbrev kk8a : Kd := .pair (.int .i64) (.pair .str .str)
def tt : List (Nat × TI) := [
 (3, ⟨1, 8, .int .i64, some (.int .i64), some [.int .i64]⟩),
 (4, ⟨1, 1, .bool, some .bool, some [.bool]⟩),
 (5, ⟨1, 1, .int .u8, some (.int .u8), some [.int .u8]⟩),
 (9, ⟨1, 16, .str, some .str, some [.str]⟩),
 (22, ⟨1, 24, .slice 9, some (.list .str), some [.nil]⟩),
 (23, ⟨1, 24, .slice 25, some (.list kk8eb), some [.nil]⟩),
 (25, ⟨4, 64, .struct [(0, 9), (1, 9), (2, 3), (3, 23)], some kk8eb, some [.str, .str, .int .i64, .nil]⟩),
 (26, ⟨1, 24, .slice 70, some (.list kkb2), some [.nil]⟩),
 (28, ⟨6, 112, .struct [(0, 22), (1, 25), (5, 26)], some kk748, some [.nil, .str, .str, .int .i64, .nil, .nil]⟩),
 (31, ⟨3, 40, .struct [(0, 3), (1, 9), (2, 9)], some kk8a, some [.int .i64, .str, .str]⟩),
 (34, ⟨1, 24, .slice 36, some (.list kk8eb), some [.nil]⟩),
 (36, ⟨4, 64, .struct [(0, 9), (1, 9), (2, 3), (3, 34)], some kk8eb, some [.str, .str, .int .i64, .nil]⟩),
 (37, ⟨1, 24, .slice 75, some (.list kkb2), some [.nil]⟩),
 (39, ⟨6, 112, .struct [(0, 22), (1, 36), (5, 37)], some kk748, some [.nil, .str, .str, .int .i64, .nil, .nil]⟩),
 (68, ⟨3, 32, .struct [(0, 3), (1, 3), (2, 9)], some kkc3, some [.int .i64, .int .i64, .str]⟩),
 (70, ⟨5, 48, .struct [(0, 3), (1, 3), (2, 68)], some kkb2, some [.int .i64, .int .i64, .int .i64, .int .i64, .str]⟩),
 (73, ⟨3, 32, .struct [(0, 3), (1, 3), (2, 9)], some kkc3, some [.int .i64, .int .i64, .str]⟩),
 (75, ⟨5, 48, .struct [(0, 3), (1, 3), (2, 73)], some kkb2, some [.int .i64, .int .i64, .int .i64, .int .i64, .str]⟩),
 (87, ⟨1, 24, .slice 5, some (.list (.int .u8)), some [.nil]⟩),
 (95, ⟨1, 8, .other, none, none⟩),
 (96, ⟨1, 24, .slice 119, some (.list kk27b), some [.nil]⟩),
 (102, ⟨1, 4, .int .u32, some (.int .u32), some [.int .u32]⟩),
 (103, ⟨1, 24, .slice 102, some (.list (.int .u32)), some [.nil]⟩),
 (104, ⟨1, 8, .int .u64, some (.int .u64), some [.int .u64]⟩),
 (109, ⟨1, 8, .ptr 3, none, none⟩),
 (112, ⟨8, 32, .array 8 102, none, some [.int .u32, .int .u32, .int .u32, .int .u32, .int .u32, .int .u32, .int .u32, .int .u32]⟩),
 (114, ⟨64, 256, .array 64 102, none, some (repZ [.int .u32] 64)⟩),
 (119, ⟨3, 48, .struct [(0, 9), (1, 9), (2, 9)], some kk27b, some [.str, .str, .str]⟩),
 (122, ⟨1, 8, .other, none, none⟩)]
theorem ttOk : TtOk Try.prog tt := by
 unfold TtOk
 kernel_rfl
end
end Go.Proofs.YtooijdhcaghdlaaA
