-- Laid by wip/xprint.py (a session's own program, over the kit's print.py). Lean checks it.
import Derived.Test.YtaifnabbijikeaaDoorProg
import Derived.Below
import Derived.Deep.Draws
import Derived.Deep.AppendLies
import Derived.Maps.AppendAt
import Derived.OwnWalk
import Derived.Laws.BytesArg
import Derived.Laws.MakeOwn
import Derived.Laws.OwnMore
import Derived.Deep.OwnRows
import Derived.Tactics
import Derived.Lib.ConvBytes
import Derived.Laws.Slices
import Derived.WalkKit
import Derived.KernelRfl
import Derived.RowKit3
import Derived.Deep.LoopGhost
import Derived.Deep.QuietTactic
import Derived.BigQuiet
import Derived.WideLaws
import Derived.Deep.DeepCutAuto
import Derived.Deep.CutBlock
import Derived.Deep.RegionHeld3
import Derived.Laws.Rows
import Derived.Lib.AppendStr
import Derived.ArgAppend
import Derived.Laws.IdiomCopy
import Derived.OrdersHeld
import Derived.Laws.BitsLemmas
import Derived.RowKit
import Derived.Test.YtaifnabbijikeaaDoorXDel
import Derived.Test.YtaifnabbijikeaaDoorWWords
import Derived.Test.YtaifnabbijikeaaDoorWLast
import Derived.Test.YtaifnabbijikeaaDoorWTab
import Derived.Test.YtaifnabbijikeaaDoorWFour
import Derived.Test.YtaifnabbijikeaaDoorWQPut
import Derived.Test.YtaifnabbijikeaaDoorWApart
import Derived.Test.YtaifnabbijikeaaDoorWArr
import Derived.Test.YtaifnabbijikeaaDoorWZeros
import Derived.Test.YtaifnabbijikeaaDoorWFoot
import Derived.Test.YtaifnabbijikeaaDoorWKept
import Derived.Test.YtaifnabbijikeaaDoorWShare
import Derived.Test.YtaifnabbijikeaaDoorWN
import Derived.Test.YtaifnabbijikeaaDoorWFootNe
import Derived.Test.YtaifnabbijikeaaDoorWAt
import Derived.Test.YtaifnabbijikeaaDoorWEqStruct
import Derived.Test.YtaifnabbijikeaaDoorWRepsOne
import Derived.Test.YtaifnabbijikeaaDoorWInv
import Derived.Test.YtaifnabbijikeaaDoorWInvWords
import Derived.Test.YtaifnabbijikeaaDoorWGuard
import Derived.Test.YtaifnabbijikeaaDoorWNEv
import Derived.Test.YtaifnabbijikeaaDoorWMore
namespace Go.Proofs.YtaifnabbijikeaaDoor.Q
open Go.RowKit Go.Proofs.YtaifnabbijikeaaDoorX Go.Proofs.YtaifnabbijikeaaDoorW.PrintWords Go.Proofs.YtaifnabbijikeaaDoorW.PrintLast Go.Proofs.YtaifnabbijikeaaDoorW.PrintMore
attribute [local go_sem] max2_int min2_int max_two min_two max_three min_three max_four min_four   -- for this text's walks alone
set_option linter.unusedVariables false
set_option linter.unusedSimpArgs false



def errW : Option Int → Value
  | none => .nilIface
  | some c => .iface 0 (.int .i64 c)
theorem errW_none : errW none = .nilIface := rfl
theorem errW_some (c : Int) : errW (some c) = .iface 0 (.int .i64 c) := rfl

theorem info5 : (Tryd.prog.info? 5).map (fun i => (i.zero, i.size, i.bytes)) = some (some (.int .u8 0), 1, 1) := by kernel_rfl
theorem info9 : (Tryd.prog.info? 9).map (fun i => (i.zero, i.size, i.bytes)) = some (some (.string ⟨#[]⟩), 1, 16) := by kernel_rfl
-- the values' own types

end Go.Proofs.YtaifnabbijikeaaDoor.Q
