/-
  For every input the law FnExactAdvance returns true and leaves its arguments as they were; what the listed package variables hold is tied to the program's text. No condition but the card's own.
-/
import Derived.Test.YtdpjbeeokimnaaaGreatDoorLawFnExactAdvance
import Derived.Test.YtdpjbeeokimnaaaGreatDoorCards
import Derived.Test.YtdpjbeeokimnaaaGreatDoorTie
import Derived.SevenTiedAt
namespace Go.Proofs.YtdpjbeeokimnaaaGreatDoor
open Go
set_option linter.unusedVariables false
theorem fnExactAdvanceCard_holds : Rows.FnExactAdvanceCardSaid :=
  Claim7.holds_tied_plain_at .later [] [.data, .data, .data] true (true, "83fa15ca59f336ca2f9c17a3a23debd1152b1556280c636533750039abf8594e") false
    fnExactAdvance_holds (fun _ h => by cases h) (by kernel_rfl) (fun _ h => by cases h) fnExactAdvance_row_tie rfl ⟨rfl, rfl⟩ (by kernel_rfl) rfl
    (fun f fn hf hfn => by
      obtain rfl : f = 5 := Option.some.inj ((show Tryz.prog.funcNamed "loop.example/g00220/laws.FnExactAdvance" = some 5 by kernel_rfl).symm.trans hf) |>.symm
      obtain rfl : fn = Tryz.f5 := (Option.some.inj (Tryz.func5.symm.trans hfn)).symm
      exact ⟨by kernel_rfl, fun j t ht => by
        rw [Tryz.params5] at ht
        have hm : t ∈ ([55, 57, 59, 42] : List TypeId) := by simpa using Array.mem_of_getElem? ht
        have hall : (([55, 57, 59, 42] : List TypeId).all fun u => !Tryz.prog.wantsStandIn u) = true := by kernel_rfl
        exact (show Tryz.prog.wantsStandIn t = false by simpa using List.all_eq_true.1 hall t hm)⟩)
    (by kernel_rfl)
#print axioms fnExactAdvanceCard_holds
end Go.Proofs.YtdpjbeeokimnaaaGreatDoor
