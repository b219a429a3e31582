/-
  For every input the law FnExactWalRepair returns true and leaves its arguments as they were; what the listed package variables hold is tied to the program's text. No condition but the card's own.
-/
import Derived.Test.YtdpjbeeokimnaaaDoorLawFnExactWalRepair
import Derived.Test.YtdpjbeeokimnaaaDoorCards
import Derived.Test.YtdpjbeeokimnaaaDoorTie
import Derived.SevenTiedAt
namespace Go.Proofs.YtdpjbeeokimnaaaDoor
open Go
set_option linter.unusedVariables false
theorem fnExactWalRepairCard_holds : Rows.FnExactWalRepairCardSaid :=
  Claim7.holds_tied_plain_at .later [] [.data, .pinned] true (true, "e5e2ef1a1677be0b9c33bab441d2fc08d20eaf7e30cc3903d98af57f03350143") true
    fnExactWalRepair_holds (fun _ h => by cases h) (by kernel_rfl) (fun _ h => by cases h) fnExactWalRepair_row_tie rfl ⟨rfl, rfl⟩ (by kernel_rfl) rfl
    (fun f fn hf hfn => by
      obtain rfl : f = 4 := Option.some.inj ((show Tryd.prog.funcNamed "loop.example/g00220/laws.FnExactWalRepair" = some 4 by kernel_rfl).symm.trans hf) |>.symm
      obtain rfl : fn = Tryd.f4 := (Option.some.inj (Tryd.func4.symm.trans hfn)).symm
      exact ⟨by kernel_rfl, fun j t ht => by
        rw [Tryd.params4] at ht
        have hm : t ∈ ([30] : List TypeId) := by simpa using Array.mem_of_getElem? ht
        have hall : (([30] : List TypeId).all fun u => !Tryd.prog.wantsStandIn u) = true := by kernel_rfl
        exact (show Tryd.prog.wantsStandIn t = false by simpa using List.all_eq_true.1 hall t hm)⟩)
    (by kernel_rfl)
#print axioms fnExactWalRepairCard_holds
end Go.Proofs.YtdpjbeeokimnaaaDoor
