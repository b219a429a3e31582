import Derived.Test.YtmclmbhdgepjfaaVfQx0
import Derived.Test.YtmclmbhdgepjfaaVfQx37
import Derived.Test.YtmclmbhdgepjfaaVfQx39
import Derived.Test.YtmclmbhdgepjfaaVfQx41
import Derived.Test.YtmclmbhdgepjfaaVfQx32
import Derived.Test.YtmclmbhdgepjfaaVfQx4
import Derived.Test.YtmclmbhdgepjfaaVfXpActs
namespace Go.Proofs.Ytmclmbhdgepjfaa.Pure
open Go.RowKit Go.Proofs.Ytmclmbhdgepjfaa.Q Go.Proofs.YtmclmbhdgepjfaaX Go.Proofs.YtmclmbhdgepjfaaW.PrintWords Go.Proofs.YtmclmbhdgepjfaaW.PrintLast
set_option linter.unusedVariables false
set_option linter.unusedSimpArgs false
set_option linter.unusedSectionVars false

/-- One list holds a number. -/
def has (l : List Int) (v : Int) : Bool := l.any fun x => x == v
/-- How many of the places below n no list holds. -/
def free (n : Nat) (l : List Int) : Nat := ((List.range n).filter fun j : Nat => !has l (j : Int)).length
/-- One act has ended before the other one begins. -/
def aheadB (a b : S89) : Bool := decide (a.f1 ≥ 0) && decide (a.f1 < b.f0)
theorem isAhead_eq (a b : S89) : impl_Op_isAhead.f a.f0 a.f1 a.f2 a.f3 b.f0 b.f1 b.f2 b.f3 = some (aheadB a b) := by
 unfold impl_Op_isAhead.f impl_Op_hasEnded.f aheadB
 simp only [Option.bind_some]
 by_cases h : a.f1 ≥ 0
 ·simp [h]
 ·simp [h]
theorem l14Ahead_eq (a b : S89) : spec_l14Ahead.f a.f0 a.f1 a.f2 a.f3 b.f0 b.f1 b.f2 b.f3 = some (aheadB a b) := by
 unfold spec_l14Ahead.f aheadB
 by_cases h : a.f1 ≥ 0
 ·simp [h]
 ·simp [h]
section
variable (ops : List S89) (hops : ops.all opOK = true) (hn : ops.length ≤ 7)
include hops hn
end
end Go.Proofs.Ytmclmbhdgepjfaa.Pure

