/-
  The kinds of the program's types, and a table of these types. No condition.
  Printed by wip/amp/main.py (a session's own program) out of Lean's print of the program; Lean's kernel checks it.
-/
import Derived.Test.YtdpjbeeokimnaaaAWord
import Derived.Test.YtdpjbeeokimnaaaProg
import Derived.Test.YtdpjbeeokimnaaaAExt
import Derived.Test.YtdpjbeeokimnaaaXqL
import Derived.Test.YtdpjbeeokimnaaaXqD
namespace Go.Proofs.YtdpjbeeokimnaaaA
open Go
noncomputable section
set_option linter.unusedVariables false
set_option linter.unusedSimpArgs false
set_option maxRecDepth 100000

abbrev kStatement : Kd := .pair (.int .i64) (.pair .str .str)
abbrev kCommand : Kd := .pair (.int .i64) (.pair (.int .i64) kStatement)
abbrev kMapStep : Kd := .pair (.int .i64) .str
abbrev kEntry : Kd := .pair (.int .i64) kMapStep
abbrev kMapProof : Kd := .pair .bool (.pair .str (.pair .str (.list kMapStep)))
abbrev kProver : Kd := .pair (.list .str) (.pair .bool (.list .str))
abbrev kReader : Kd := .pair .str .bool
abbrev kState : Kd := .pair (.int .i64) (.pair (.int .i64) (.list kEntry))
abbrev kTrust : Kd := .pair .str (.pair .bool kStatement)
abbrev ksL00Src : Kd := .pair (.list (.int .u8)) (.pair (.int .i64) (.int .i64))
abbrev ksL02Reader : Kd := .pair (.list (.int .u8)) (.pair (.int .i64) .bool)
def tt : List (Nat × TI) := [
  (3, ⟨1, 8, .int .i64, some (.int .i64), some [.int .i64]⟩),
  (4, ⟨1, 1, .bool, some .bool, some [.bool]⟩),
  (5, ⟨1, 1, .int .u8, some (.int .u8), some [.int .u8]⟩),
  (9, ⟨1, 16, .str, some .str, some [.str]⟩),
  (22, ⟨1, 24, .slice 5, some (.list (.int .u8)), some [.nil]⟩),
  (38, ⟨1, 24, .slice 9, some (.list .str), some [.nil]⟩),
  (77, ⟨1, 8, .ptr 119, none, none⟩),
  (90, ⟨1, 8, .other, none, none⟩),
  (119, ⟨3, 40, .struct [(0, 22), (1, 3), (2, 3)], some ksL00Src, some [.nil, .int .i64, .int .i64]⟩),
  (120, ⟨1, 24, .slice 3, some (.list (.int .i64)), some [.nil]⟩),
  (139, ⟨1, 8, .ptr 141, none, none⟩),
  (141, ⟨3, 56, .struct [(0, 38), (1, 4), (2, 38)], some kProver, some [.nil, .bool, .nil]⟩),
  (149, ⟨1, 4, .int .u32, some (.int .u32), some [.int .u32]⟩),
  (150, ⟨8, 32, .array 8 149, none, some [.int .u32, .int .u32, .int .u32, .int .u32, .int .u32, .int .u32, .int .u32, .int .u32]⟩),
  (152, ⟨64, 256, .array 64 149, none, some (repZ [.int .u32] 64)⟩),
  (165, ⟨1, 8, .int .u64, some (.int .u64), some [.int .u64]⟩),
  (172, ⟨1, 24, .slice 149, some (.list (.int .u32)), some [.nil]⟩)]
theorem ttOk : TtOk Try.prog tt := by
  unfold TtOk
  kernel_rfl
end
end Go.Proofs.YtdpjbeeokimnaaaA
