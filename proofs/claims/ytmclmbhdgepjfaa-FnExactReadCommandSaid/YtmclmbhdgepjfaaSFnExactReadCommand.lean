/-
  The law FnExactReadCommand: its pure statement, and how what its arguments read as is told. Laid by wip/xprint.py (a session's own program). Lean checks it.
-/
import Derived.Test.YtmclmbhdgepjfaaQx20
import Derived.Test.YtmclmbhdgepjfaaXRead
import Derived.Test.YtmclmbhdgepjfaaRows
namespace Go.Proofs.Ytmclmbhdgepjfaa.SFnExactReadCommand
open Go.RowKit Go.Proofs.Ytmclmbhdgepjfaa.Q Go.Proofs.YtmclmbhdgepjfaaX Go.Proofs.YtmclmbhdgepjfaaW.PrintWords Go.Proofs.YtmclmbhdgepjfaaW.PrintLast
set_option linter.unusedVariables false

/-- THE PURE STATEMENT of FnExactReadCommand. -/
def Pure : Prop := ∀ (l0 : List Int), (l0.length * 1 ≤ 140737488351232 ∧ l0.length ≤ maxLen ∧ ∀ y ∈ l0, (Lit.int .u8 y).wf = true) → ∃ k, laws_FnExactReadCommand.f k l0 = some true
theorem rdA0 : Rd Try.prog 48 (Kd.slice 5 (Kd.int .u8)) (fun x : List Int => x.length * 1 ≤ 140737488351232 ∧ x.length ≤ maxLen ∧ ∀ y ∈ x, (Lit.int .u8 y).wf = true) := by
  exact (rd_slice (B := 1) (d := (Kd.int .u8)) Try.underlying48 (by kernel_rfl) (by kernel_rfl) (rd_int Try.underlying5))
theorem agg_of {cs : Array Value} {l : List Value} (h : (Value.agg cs).cells.toList = l) : cs = l.toArray := by
  subst h
  simp [Value.cells]
end Go.Proofs.Ytmclmbhdgepjfaa.SFnExactReadCommand
