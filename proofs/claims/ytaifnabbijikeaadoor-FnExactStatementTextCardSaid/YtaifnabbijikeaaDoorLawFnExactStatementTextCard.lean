/-
  For every input the law FnExactStatementText returns true and leaves its arguments as they were; what the listed package variables hold is tied to the program's text. No condition but the card's own.
  Laid by wip/xprint.py (a session's own program). Lean checks it.
-/
import Derived.Test.YtaifnabbijikeaaDoorLawFnExactStatementText
import Derived.Test.YtaifnabbijikeaaDoorCards
import Derived.Test.YtaifnabbijikeaaDoorTie
import Derived.SevenTiedAt
namespace Go.Proofs.YtaifnabbijikeaaDoor
open Go
set_option linter.unusedVariables false
theorem fnExactStatementTextCard_holds : Rows.FnExactStatementTextCardSaid :=
  Claim7.holds_tied_plain_at .later [] [.data, .data, .data] true (true, "cb41a5e74d810392a454713cfd943cd083387e4e863d17c92344cdfb56027315") false
    fnExactStatementText_holds (fun _ h => by cases h) (by kernel_rfl) (fun _ h => by cases h) fnExactStatementText_row_tie rfl ⟨rfl, rfl⟩ (by kernel_rfl) rfl
    (fun f fn hf hfn => by
      obtain rfl : f = 3 := Option.some.inj ((show Tryd.prog.funcNamed "loop.example/g00220/laws.FnExactStatementText" = some 3 by kernel_rfl).symm.trans hf) |>.symm
      obtain rfl : fn = Tryd.f3 := (Option.some.inj (Tryd.func3.symm.trans hfn)).symm
      exact ⟨by kernel_rfl, fun j t ht => by
        rw [Tryd.params3] at ht
        have hm : t ∈ ([23] : List TypeId) := by simpa using Array.mem_of_getElem? ht
        have hall : (([23] : List TypeId).all fun u => !Tryd.prog.wantsStandIn u) = true := by kernel_rfl
        exact (show Tryd.prog.wantsStandIn t = false by simpa using List.all_eq_true.1 hall t hm)⟩)
    (by kernel_rfl)
#print axioms fnExactStatementTextCard_holds
end Go.Proofs.YtaifnabbijikeaaDoor
