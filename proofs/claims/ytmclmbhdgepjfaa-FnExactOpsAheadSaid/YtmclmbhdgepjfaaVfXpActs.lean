import Derived.Test.YtmclmbhdgepjfaaVfQx0
import Derived.Test.YtmclmbhdgepjfaaVfQx2
import Derived.Test.YtmclmbhdgepjfaaVfQx32
import Derived.Test.YtmclmbhdgepjfaaVfQx33
import Derived.Test.YtmclmbhdgepjfaaVfXFn
import Derived.Test.YtmclmbhdgepjfaaVfWApart
import Derived.Lib.SliceRun
import Derived.Laws.IdiomCopy
import Derived.Test.YtmclmbhdgepjfaaVfXpOps
namespace Go.Proofs.Ytmclmbhdgepjfaa.Pure
open Go.RowKit Go.Proofs.Ytmclmbhdgepjfaa.Q Go.Proofs.YtmclmbhdgepjfaaX Go.Proofs.YtmclmbhdgepjfaaW.PrintWords Go.Proofs.YtmclmbhdgepjfaaW.PrintLast
set_option linter.unusedVariables false
set_option linter.unusedSimpArgs false
theorem opsCode_eq (l : List S89) : impl_opsCode.f l = some (if l.length ≤ 4096 then (if l.length ≤ 7 ∧ l.all opOK = true then 0 else 1) else 2) := by
 unfold impl_opsCode.f impl_Op_122.f
 simp only [impl_OpsOK_eq, Option.bind_some]
 by_cases h : l.length ≤ 4096
 ·simp only [decide_eq_true_iff, if_pos (show (l.length : Int) ≤ 4096 by omega), if_pos h]
  by_cases h2 : l.length ≤ 7 ∧ l.all opOK = true
  ·rw [if_pos (by simpa using h2), if_pos h2]
  ·rw [if_neg (by simpa using h2), if_neg h2]
 ·simp only [decide_eq_true_iff, if_neg (show ¬ (l.length : Int) ≤ 4096 by omega), if_neg h]
end Go.Proofs.Ytmclmbhdgepjfaa.Pure

