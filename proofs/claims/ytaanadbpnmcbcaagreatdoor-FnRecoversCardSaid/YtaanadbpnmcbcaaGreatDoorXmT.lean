/-
  The kinds of the program's types, and a table of these types. No condition.
  Printed by wip/amp/main.py (a session's own program) out of Lean's print of the program; Lean's kernel checks it.
-/
import Derived.Test.YtaanadbpnmcbcaaGreatDoorAWord
import Derived.Test.YtaanadbpnmcbcaaGreatDoorProg
import Derived.Test.YtaanadbpnmcbcaaGreatDoorAExt
import Derived.Test.YtaanadbpnmcbcaaGreatDoorXmL
import Derived.Test.YtaanadbpnmcbcaaGreatDoorXmR
namespace Go.Proofs.YtaanadbpnmcbcaaGreatDoorA
open Go
noncomputable section
set_option linter.unusedVariables false
set_option linter.unusedSimpArgs false
set_option maxRecDepth 100000
abbrev kkfb2 : Kd := .pair (.int .i64) (.pair (.int .i64) (.pair (.int .i64) (.pair .str .str)))
abbrev u4 : Kd := .pair .str (.pair .str (.int .i64))
abbrev kDisk : Kd := .pair (.int .i64) (.list u4)
abbrev ue : Kd := .pair (.int .i64) (.pair (.int .i64) .str)
abbrev u24 : Kd := .pair (.int .i64) (.pair (.int .i64) (.pair .str (.pair .str (.pair .str (.list (.int .i64))))))
abbrev kkac8 : Kd := .pair .str .bool
abbrev kk4d8 : Kd := .pair (.int .i64) (.pair (.int .i64) (.list ue))
abbrev kWal : Kd := .pair (.int .i64) (.pair (.list .str) (.pair (.list .str) (.int .i64)))
abbrev kk53 : Kd := .pair kWal (.int .i64)
abbrev ksL00Src : Kd := .pair (.list (.int .u8)) (.pair (.int .i64) (.int .i64))
abbrev vb0 : Kd := .pair (.list (.int .u8)) (.pair (.int .i64) .bool)
def tt : List (Nat × TI) := [
 (3, ⟨1, 8, .int .i64, some (.int .i64), some [.int .i64]⟩),
 (4, ⟨1, 1, .bool, some .bool, some [.bool]⟩),
 (5, ⟨1, 1, .int .u8, some (.int .u8), some [.int .u8]⟩),
 (9, ⟨1, 16, .str, some .str, some [.str]⟩),
 (26, ⟨1, 24, .slice 97, some (.list u4), some [.nil]⟩),
 (28, ⟨2, 32, .struct [(0, 3), (1, 26)], some kDisk, some [.int .i64, .nil]⟩),
 (35, ⟨1, 24, .slice 5, some (.list (.int .u8)), some [.nil]⟩),
 (40, ⟨1, 24, .slice 9, some (.list .str), some [.nil]⟩),
 (42, ⟨4, 64, .struct [(0, 3), (1, 40), (2, 40), (3, 3)], some kWal, some [.int .i64, .nil, .nil, .int .i64]⟩),
 (49, ⟨1, 24, .slice 56, some (.list u24), some [.nil]⟩),
 (53, ⟨1, 24, .slice 3, some (.list (.int .i64)), some [.nil]⟩),
 (56, ⟨6, 88, .struct [(0, 3), (1, 3), (2, 9), (3, 9), (4, 9), (5, 53)], some u24, some [.int .i64, .int .i64, .str, .str, .str, .nil]⟩),
 (62, ⟨1, 24, .slice 111, some (.list ue), some [.nil]⟩),
 (64, ⟨3, 40, .struct [(0, 3), (1, 3), (2, 62)], some kk4d8, some [.int .i64, .int .i64, .nil]⟩),
 (92, ⟨1, 8, .ptr 136, none, none⟩),
 (97, ⟨3, 40, .struct [(0, 9), (1, 9), (2, 3)], some u4, some [.str, .str, .int .i64]⟩),
 (111, ⟨3, 32, .struct [(0, 3), (1, 3), (2, 9)], some ue, some [.int .i64, .int .i64, .str]⟩),
 (119, ⟨1, 8, .ptr 121, none, none⟩),
 (121, ⟨3, 40, .struct [(0, 35), (1, 3), (2, 4)], some vb0, some [.nil, .int .i64, .bool]⟩),
 (127, ⟨1, 8, .ptr 28, none, none⟩),
 (136, ⟨3, 40, .struct [(0, 35), (1, 3), (2, 3)], some ksL00Src, some [.nil, .int .i64, .int .i64]⟩),
 (139, ⟨1, 8, .other, none, none⟩),
 (140, ⟨1, 8, .ptr 142, none, none⟩),
 (142, ⟨5, 72, .struct [(0, 42), (4, 3)], some kk53, some [.int .i64, .nil, .nil, .int .i64, .int .i64]⟩),
 (150, ⟨1, 8, .other, none, none⟩),
 (164, ⟨1, 8, .int .u64, some (.int .u64), some [.int .u64]⟩),
 (175, ⟨5, 56, .struct [(0, 3), (1, 3), (2, 3), (3, 9), (4, 9)], some kkfb2, some [.int .i64, .int .i64, .int .i64, .str, .str]⟩),
 (177, ⟨1, 8, .ptr 64, none, none⟩),
 (189, ⟨1, 8, .other, none, none⟩),
 (190, ⟨1, 8, .ptr 192, none, none⟩),
 (192, ⟨2, 24, .struct [(0, 9), (1, 4)], some kkac8, some [.str, .bool]⟩),
 (197, ⟨1, 4, .int .u32, some (.int .u32), some [.int .u32]⟩)]
theorem ttOk : TtOk Tryz.prog tt := by
 unfold TtOk
 kernel_rfl
end
end Go.Proofs.YtaanadbpnmcbcaaGreatDoorA
