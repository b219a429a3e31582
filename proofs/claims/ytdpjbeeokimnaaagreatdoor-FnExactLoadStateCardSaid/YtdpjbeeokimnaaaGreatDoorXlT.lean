/-
  The kinds of the program's types, and a table of these types. No condition.
  Printed by wip/amp/main.py (a session's own program) out of Lean's print of the program; Lean's kernel checks it.
-/
import Derived.Test.YtdpjbeeokimnaaaGreatDoorAWord
import Derived.Test.YtdpjbeeokimnaaaGreatDoorProg
import Derived.Test.YtdpjbeeokimnaaaGreatDoorAExt
import Derived.Test.YtdpjbeeokimnaaaGreatDoorXlL
namespace Go.Proofs.YtdpjbeeokimnaaaGreatDoorA
open Go
noncomputable section
set_option linter.unusedVariables false
set_option linter.unusedSimpArgs false
set_option maxRecDepth 100000

abbrev kStatement : Kd := .pair (.int .i64) (.pair .str .str)
abbrev kCommand : Kd := .pair (.int .i64) (.pair (.int .i64) kStatement)
abbrev kFile : Kd := .pair .str (.pair .str (.int .i64))
abbrev kDisk : Kd := .pair (.int .i64) (.list kFile)
abbrev kEntry : Kd := .pair (.int .i64) (.pair (.int .i64) .str)
abbrev kFileAct : Kd := .pair (.int .i64) (.pair (.int .i64) (.pair .str (.pair .str (.pair .str (.list (.int .i64))))))
abbrev kProver : Kd := .pair (.list .str) (.pair .bool (.list .str))
abbrev kReader : Kd := .pair .str .bool
abbrev kSignature : Kd := .pair (.int .i64) (.pair (.list .str) (.list .str))
abbrev kState : Kd := .pair (.int .i64) (.pair (.int .i64) (.list kEntry))
abbrev kTrust : Kd := .pair .str (.pair .bool kStatement)
abbrev kWal : Kd := .pair (.int .i64) (.pair (.list .str) (.pair (.list .str) (.int .i64)))
abbrev kWalReader : Kd := .pair kWal (.int .i64)
abbrev ksL00Src : Kd := .pair (.list (.int .u8)) (.pair (.int .i64) (.int .i64))
abbrev ksL02Reader : Kd := .pair (.list (.int .u8)) (.pair (.int .i64) .bool)
def tt : List (Nat × TI) := [
  (3, ⟨1, 8, .int .i64, some (.int .i64), some [.int .i64]⟩),
  (4, ⟨1, 1, .bool, some .bool, some [.bool]⟩),
  (5, ⟨1, 1, .int .u8, some (.int .u8), some [.int .u8]⟩),
  (9, ⟨1, 16, .str, some .str, some [.str]⟩),
  (22, ⟨1, 24, .slice 117, some (.list kFile), some [.nil]⟩),
  (24, ⟨2, 32, .struct [(0, 3), (1, 22)], some kDisk, some [.int .i64, .nil]⟩),
  (26, ⟨1, 24, .slice 96, some (.list kEntry), some [.nil]⟩),
  (28, ⟨3, 40, .struct [(0, 3), (1, 3), (2, 26)], some kState, some [.int .i64, .int .i64, .nil]⟩),
  (31, ⟨1, 24, .slice 119, some (.list kFile), some [.nil]⟩),
  (33, ⟨2, 32, .struct [(0, 3), (1, 31)], some kDisk, some [.int .i64, .nil]⟩),
  (40, ⟨1, 24, .slice 5, some (.list (.int .u8)), some [.nil]⟩),
  (42, ⟨1, 24, .slice 9, some (.list .str), some [.nil]⟩),
  (80, ⟨4, 64, .struct [(0, 3), (1, 42), (2, 42), (3, 3)], some kWal, some [.int .i64, .nil, .nil, .int .i64]⟩),
  (96, ⟨3, 32, .struct [(0, 3), (1, 3), (2, 9)], some kEntry, some [.int .i64, .int .i64, .str]⟩),
  (117, ⟨3, 40, .struct [(0, 9), (1, 9), (2, 3)], some kFile, some [.str, .str, .int .i64]⟩),
  (119, ⟨3, 40, .struct [(0, 9), (1, 9), (2, 3)], some kFile, some [.str, .str, .int .i64]⟩),
  (122, ⟨1, 8, .other, none, none⟩),
  (140, ⟨1, 24, .slice 3, some (.list (.int .i64)), some [.nil]⟩),
  (145, ⟨1, 8, .other, none, none⟩),
  (161, ⟨1, 8, .ptr 163, none, none⟩),
  (163, ⟨3, 40, .struct [(0, 40), (1, 3), (2, 4)], some ksL02Reader, some [.nil, .int .i64, .bool]⟩),
  (166, ⟨1, 8, .ptr 168, none, none⟩),
  (168, ⟨5, 72, .struct [(0, 80), (4, 3)], some kWalReader, some [.int .i64, .nil, .nil, .int .i64, .int .i64]⟩),
  (171, ⟨1, 8, .ptr 28, none, none⟩),
  (203, ⟨1, 8, .ptr 205, none, none⟩),
  (205, ⟨2, 24, .struct [(0, 9), (1, 4)], some kReader, some [.str, .bool]⟩),
  (217, ⟨1, 4, .int .u32, some (.int .u32), some [.int .u32]⟩)]
theorem ttOk : TtOk Tryz.prog tt := by
  unfold TtOk
  kernel_rfl
end
end Go.Proofs.YtdpjbeeokimnaaaGreatDoorA
