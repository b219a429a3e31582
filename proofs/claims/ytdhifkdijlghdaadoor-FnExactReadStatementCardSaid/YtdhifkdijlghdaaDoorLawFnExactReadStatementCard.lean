/-
  For every input the law FnExactReadStatement returns true and leaves its arguments as they were; what the listed package variables hold is tied to the program's text. No condition but the card's own.
-/
import Derived.Test.YtdhifkdijlghdaaDoorLawFnExactReadStatement
import Derived.Test.YtdhifkdijlghdaaDoorCards
import Derived.Test.YtdhifkdijlghdaaDoorTie
import Derived.SevenTiedAt
namespace Go.Proofs.YtdhifkdijlghdaaDoor
open Go
set_option linter.unusedVariables false
theorem fnExactReadStatementCard_holds : Rows.FnExactReadStatementCardSaid :=
  Claim7.holds_tied_plain_at .later [] [.data, .data, .data, .data, .sentinel, .sentinel, .pinned] true (true, "343b57adcfc13f0bb4018483edccfbab85aad794ff6ecfa85ff8affdd7b3c816") true
    fnExactReadStatement_holds (fun _ h => by cases h) (by kernel_rfl) (fun _ h => by cases h) fnExactReadStatement_row_tie rfl ⟨rfl, rfl⟩ (by kernel_rfl) rfl
    (fun f fn hf hfn => by
      obtain rfl : f = 3 := Option.some.inj ((show Tryd.prog.funcNamed "loop.example/g00220/laws.FnExactReadStatement" = some 3 by kernel_rfl).symm.trans hf) |>.symm
      obtain rfl : fn = Tryd.f3 := (Option.some.inj (Tryd.func3.symm.trans hfn)).symm
      exact ⟨by kernel_rfl, fun j t ht => by
        rw [Tryd.params3] at ht
        have hm : t ∈ ([9] : List TypeId) := by simpa using Array.mem_of_getElem? ht
        have hall : (([9] : List TypeId).all fun u => !Tryd.prog.wantsStandIn u) = true := by kernel_rfl
        exact (show Tryd.prog.wantsStandIn t = false by simpa using List.all_eq_true.1 hall t hm)⟩)
    (by kernel_rfl)
#print axioms fnExactReadStatementCard_holds
end Go.Proofs.YtdhifkdijlghdaaDoor
