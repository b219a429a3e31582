-- Laid by wip/xprint.py (a session's own program, over the kit's print.py). Lean checks it.
import Derived.Test.YtmclmbhdgepjfaaProg
import Derived.Below
import Derived.Deep.Draws
import Derived.Deep.AppendLies
import Derived.Maps.AppendAt
import Derived.OwnWalk
import Derived.Laws.BytesArg
import Derived.Laws.MakeOwn
import Derived.Laws.OwnMore
import Derived.Deep.OwnRows
import Derived.Tactics
import Derived.Lib.ConvBytes
import Derived.Laws.Slices
import Derived.WalkKit
import Derived.KernelRfl
import Derived.RowKit3
import Derived.Deep.LoopGhost
import Derived.Deep.QuietTactic
import Derived.BigQuiet
import Derived.WideLaws
import Derived.Deep.DeepCutAuto
import Derived.Deep.CutBlock
import Derived.Deep.RegionHeld3
import Derived.Laws.Rows
import Derived.Lib.AppendStr
import Derived.ArgAppend
import Derived.Laws.IdiomCopy
import Derived.OrdersHeld
import Derived.Laws.BitsLemmas
import Derived.RowKit
import Derived.Test.YtmclmbhdgepjfaaXFn
import Derived.Test.YtmclmbhdgepjfaaWWords
import Derived.Test.YtmclmbhdgepjfaaWLast
import Derived.Test.YtmclmbhdgepjfaaWTab
import Derived.Test.YtmclmbhdgepjfaaWFour
import Derived.Test.YtmclmbhdgepjfaaWQPut
import Derived.Test.YtmclmbhdgepjfaaWApart
import Derived.Test.YtmclmbhdgepjfaaWArr
import Derived.Test.YtmclmbhdgepjfaaWZeros
import Derived.Test.YtmclmbhdgepjfaaWFoot
import Derived.Test.YtmclmbhdgepjfaaWKept
import Derived.Test.YtmclmbhdgepjfaaWShare
import Derived.Test.YtmclmbhdgepjfaaWN
import Derived.Test.YtmclmbhdgepjfaaWFootNe
import Derived.Test.YtmclmbhdgepjfaaWAt
import Derived.Test.YtmclmbhdgepjfaaWEqStruct
import Derived.Test.YtmclmbhdgepjfaaWRepsOne
import Derived.Test.YtmclmbhdgepjfaaWInv
import Derived.Test.YtmclmbhdgepjfaaWInvWords
import Derived.Test.YtmclmbhdgepjfaaWGuard
import Derived.Test.YtmclmbhdgepjfaaWNEv
import Derived.Test.YtmclmbhdgepjfaaWMore
namespace Go.Proofs.Ytmclmbhdgepjfaa.Q
open Go.RowKit Go.Proofs.YtmclmbhdgepjfaaX Go.Proofs.YtmclmbhdgepjfaaW.PrintWords Go.Proofs.YtmclmbhdgepjfaaW.PrintLast Go.Proofs.YtmclmbhdgepjfaaW.PrintMore
attribute [local go_sem] max2_int min2_int max_two min_two max_three min_three max_four min_four   -- for this text's walks alone
set_option linter.unusedVariables false
set_option linter.unusedSimpArgs false



def errW : Option Int → Value
  | none => .nilIface
  | some c => .iface 0 (.int .i64 c)
theorem errW_none : errW none = .nilIface := rfl
theorem errW_some (c : Int) : errW (some c) = .iface 0 (.int .i64 c) := rfl

theorem info9 : (Try.prog.info? 9).map (fun i => (i.zero, i.size, i.bytes)) = some (some (.string ⟨#[]⟩), 1, 16) := by kernel_rfl
-- the values' own types

end Go.Proofs.Ytmclmbhdgepjfaa.Q
