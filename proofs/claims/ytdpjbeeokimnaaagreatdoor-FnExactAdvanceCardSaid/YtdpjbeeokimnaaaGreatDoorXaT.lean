/-
  The kinds of the program's types, and a table of these types. No condition.
  Printed by wip/amp/main.py (a session's own program) out of Lean's print of the program; Lean's kernel checks it.
-/
import Derived.Test.YtdpjbeeokimnaaaGreatDoorAWord
import Derived.Test.YtdpjbeeokimnaaaGreatDoorProg
import Derived.Test.YtdpjbeeokimnaaaGreatDoorAExt
import Derived.Test.YtdpjbeeokimnaaaGreatDoorXaL
namespace Go.Proofs.YtdpjbeeokimnaaaGreatDoorA
open Go
noncomputable section
set_option linter.unusedVariables false
set_option linter.unusedSimpArgs false
set_option maxRecDepth 100000

abbrev kStatement : Kd := .pair (.int .i64) (.pair .str .str)
abbrev kCommand : Kd := .pair (.int .i64) (.pair (.int .i64) kStatement)
abbrev kFile : Kd := .pair .str (.pair .str (.int .i64))
abbrev kDisk : Kd := .pair (.int .i64) (.list kFile)
abbrev kEntry : Kd := .pair (.int .i64) (.pair (.int .i64) .str)
abbrev kFileAct : Kd := .pair (.int .i64) (.pair (.int .i64) (.pair .str (.pair .str (.pair .str (.list (.int .i64))))))
abbrev kProver : Kd := .pair (.list .str) (.pair .bool (.list .str))
abbrev kReader : Kd := .pair .str .bool
abbrev kSignature : Kd := .pair (.int .i64) (.pair (.list .str) (.list .str))
abbrev kState : Kd := .pair (.int .i64) (.pair (.int .i64) (.list kEntry))
abbrev kTrust : Kd := .pair .str (.pair .bool kStatement)
abbrev kWal : Kd := .pair (.int .i64) (.pair (.list .str) (.pair (.list .str) (.int .i64)))
abbrev kWalReader : Kd := .pair kWal (.int .i64)
abbrev ksL00Src : Kd := .pair (.list (.int .u8)) (.pair (.int .i64) (.int .i64))
abbrev ksL02Reader : Kd := .pair (.list (.int .u8)) (.pair (.int .i64) .bool)
def tt : List (Nat × TI) := [
  (3, ⟨1, 8, .int .i64, some (.int .i64), some [.int .i64]⟩),
  (4, ⟨1, 1, .bool, some .bool, some [.bool]⟩),
  (5, ⟨1, 1, .int .u8, some (.int .u8), some [.int .u8]⟩),
  (9, ⟨1, 16, .str, some .str, some [.str]⟩),
  (40, ⟨1, 24, .slice 5, some (.list (.int .u8)), some [.nil]⟩),
  (42, ⟨1, 24, .slice 9, some (.list .str), some [.nil]⟩),
  (55, ⟨5, 64, .struct [(0, 9), (1, 4), (2, 3), (3, 9), (4, 9)], some kTrust, some [.str, .bool, .int .i64, .str, .str]⟩),
  (57, ⟨3, 40, .struct [(0, 3), (1, 9), (2, 9)], some kStatement, some [.int .i64, .str, .str]⟩),
  (59, ⟨3, 56, .struct [(0, 3), (1, 42), (2, 42)], some kSignature, some [.int .i64, .nil, .nil]⟩),
  (64, ⟨5, 64, .struct [(0, 9), (1, 4), (2, 3), (3, 9), (4, 9)], some kTrust, some [.str, .bool, .int .i64, .str, .str]⟩),
  (68, ⟨3, 40, .struct [(0, 3), (1, 9), (2, 9)], some kStatement, some [.int .i64, .str, .str]⟩),
  (70, ⟨3, 56, .struct [(0, 3), (1, 42), (2, 42)], some kSignature, some [.int .i64, .nil, .nil]⟩),
  (122, ⟨1, 8, .other, none, none⟩),
  (140, ⟨1, 24, .slice 3, some (.list (.int .i64)), some [.nil]⟩),
  (178, ⟨1, 8, .int .u64, some (.int .u64), some [.int .u64]⟩),
  (217, ⟨1, 4, .int .u32, some (.int .u32), some [.int .u32]⟩),
  (218, ⟨1, 24, .slice 217, some (.list (.int .u32)), some [.nil]⟩),
  (221, ⟨1, 8, .ptr 223, none, none⟩),
  (223, ⟨3, 56, .struct [(0, 42), (1, 4), (2, 42)], some kProver, some [.nil, .bool, .nil]⟩),
  (236, ⟨8, 32, .array 8 217, none, some [.int .u32, .int .u32, .int .u32, .int .u32, .int .u32, .int .u32, .int .u32, .int .u32]⟩),
  (238, ⟨64, 256, .array 64 217, none, some (repZ [.int .u32] 64)⟩)]
theorem ttOk : TtOk Tryz.prog tt := by
  unfold TtOk
  kernel_rfl
end
end Go.Proofs.YtdpjbeeokimnaaaGreatDoorA
