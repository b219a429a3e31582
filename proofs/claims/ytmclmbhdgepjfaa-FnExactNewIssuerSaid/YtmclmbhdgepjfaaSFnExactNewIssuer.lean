/-
  The law FnExactNewIssuer: its pure statement, and how what its arguments read as is told. Laid by wip/xprint.py (a session's own program). Lean checks it.
-/
import Derived.Test.YtmclmbhdgepjfaaQx11
import Derived.Test.YtmclmbhdgepjfaaXRead
import Derived.Test.YtmclmbhdgepjfaaRows
namespace Go.Proofs.Ytmclmbhdgepjfaa.SFnExactNewIssuer
open Go.RowKit Go.Proofs.Ytmclmbhdgepjfaa.Q Go.Proofs.YtmclmbhdgepjfaaX Go.Proofs.YtmclmbhdgepjfaaW.PrintWords Go.Proofs.YtmclmbhdgepjfaaW.PrintLast
set_option linter.unusedVariables false

/-- THE PURE STATEMENT of FnExactNewIssuer. -/
def Pure : Prop := ∀ (a0 : ByteArray), (a0.size ≤ 140737488351232) → ∃ k, laws_FnExactNewIssuer.f k a0 = some true
theorem rdA0 : Rd Try.prog 9 Kd.string (fun x : ByteArray => x.size ≤ 140737488351232) := by
  exact (rd_string Try.underlying9)
theorem agg_of {cs : Array Value} {l : List Value} (h : (Value.agg cs).cells.toList = l) : cs = l.toArray := by
  subst h
  simp [Value.cells]
end Go.Proofs.Ytmclmbhdgepjfaa.SFnExactNewIssuer
