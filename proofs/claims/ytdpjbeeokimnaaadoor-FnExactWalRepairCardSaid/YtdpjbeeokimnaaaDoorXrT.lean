/-
  The kinds of the program's types, and a table of these types. No condition.
  Printed by wip/amp/main.py (a session's own program) out of Lean's print of the program; Lean's kernel checks it.
-/
import Derived.Test.YtdpjbeeokimnaaaDoorAWord
import Derived.Test.YtdpjbeeokimnaaaDoorProg
import Derived.Test.YtdpjbeeokimnaaaDoorAExt
import Derived.Test.YtdpjbeeokimnaaaDoorXrL
import Derived.Test.YtdpjbeeokimnaaaDoorXrR
namespace Go.Proofs.YtdpjbeeokimnaaaDoorA
open Go
noncomputable section
set_option linter.unusedVariables false
set_option linter.unusedSimpArgs false
set_option maxRecDepth 100000

abbrev kFile : Kd := .pair .str (.pair .str (.int .i64))
abbrev kDisk : Kd := .pair (.int .i64) (.list kFile)
abbrev kFileAct : Kd := .pair (.int .i64) (.pair (.int .i64) (.pair .str (.pair .str (.pair .str (.list (.int .i64))))))
abbrev kStatement : Kd := .pair (.int .i64) (.pair .str .str)
abbrev kWal : Kd := .pair (.int .i64) (.pair (.list .str) (.pair (.list .str) (.int .i64)))
abbrev kWalReader : Kd := .pair kWal (.int .i64)
abbrev ksL02Reader : Kd := .pair (.list (.int .u8)) (.pair (.int .i64) .bool)
def tt : List (Nat × TI) := [
  (3, ⟨1, 8, .int .i64, some (.int .i64), some [.int .i64]⟩),
  (4, ⟨1, 1, .bool, some .bool, some [.bool]⟩),
  (5, ⟨1, 1, .int .u8, some (.int .u8), some [.int .u8]⟩),
  (9, ⟨1, 16, .str, some .str, some [.str]⟩),
  (28, ⟨1, 24, .slice 85, some (.list kFile), some [.nil]⟩),
  (30, ⟨2, 32, .struct [(0, 3), (1, 28)], some kDisk, some [.int .i64, .nil]⟩),
  (32, ⟨1, 24, .slice 63, some (.list kFile), some [.nil]⟩),
  (34, ⟨2, 32, .struct [(0, 3), (1, 32)], some kDisk, some [.int .i64, .nil]⟩),
  (41, ⟨1, 24, .slice 9, some (.list .str), some [.nil]⟩),
  (56, ⟨4, 64, .struct [(0, 3), (1, 41), (2, 41), (3, 3)], some kWal, some [.int .i64, .nil, .nil, .int .i64]⟩),
  (63, ⟨3, 40, .struct [(0, 9), (1, 9), (2, 3)], some kFile, some [.str, .str, .int .i64]⟩),
  (64, ⟨1, 24, .slice 3, some (.list (.int .i64)), some [.nil]⟩),
  (66, ⟨6, 88, .struct [(0, 3), (1, 3), (2, 9), (3, 9), (4, 9), (5, 64)], some kFileAct, some [.int .i64, .int .i64, .str, .str, .str, .nil]⟩),
  (70, ⟨1, 24, .slice 5, some (.list (.int .u8)), some [.nil]⟩),
  (83, ⟨1, 8, .int .u64, some (.int .u64), some [.int .u64]⟩),
  (85, ⟨3, 40, .struct [(0, 9), (1, 9), (2, 3)], some kFile, some [.str, .str, .int .i64]⟩),
  (94, ⟨1, 8, .other, none, none⟩),
  (95, ⟨1, 8, .ptr 34, none, none⟩),
  (115, ⟨1, 8, .ptr 117, none, none⟩),
  (117, ⟨3, 40, .struct [(0, 70), (1, 3), (2, 4)], some ksL02Reader, some [.nil, .int .i64, .bool]⟩),
  (125, ⟨1, 8, .ptr 127, none, none⟩),
  (127, ⟨5, 72, .struct [(0, 56), (4, 3)], some kWalReader, some [.int .i64, .nil, .nil, .int .i64, .int .i64]⟩),
  (162, ⟨1, 4, .int .u32, some (.int .u32), some [.int .u32]⟩)]
theorem ttOk : TtOk Tryd.prog tt := by
  unfold TtOk
  kernel_rfl
end
end Go.Proofs.YtdpjbeeokimnaaaDoorA
