/-
  For every input the law FnForks returns true and leaves its arguments as they were; what the listed package variables hold is tied to the program's text. No condition but the card's own.
-/
import Derived.Test.YtdhifkdijlghdaaGreatDoorLawFnForks
import Derived.Test.YtdhifkdijlghdaaGreatDoorCards
import Derived.Test.YtdhifkdijlghdaaGreatDoorTie
import Derived.SevenTiedAt
namespace Go.Proofs.YtdhifkdijlghdaaGreatDoor
open Go
set_option linter.unusedVariables false
set_option maxHeartbeats 40000000 in
theorem fnForksCard_holds : Rows.FnForksCardSaid :=
  Claim7.holds_tied_plain_at .later [] [.data, .data, .data, .data, .sentinel, .sentinel, .pinned] true (true, "f5fe91030af571d5ddf5a56df7cb2e6ae88e25fbafddc6be766b3e09975a33f7") true
    fnForks_holds (fun _ h => by cases h) (by as_aux_lemma => kernel_rfl) (fun _ h => by cases h) fnForks_row_tie rfl ⟨rfl, rfl⟩ (by as_aux_lemma => kernel_rfl) rfl
    (fun f fn hf hfn => by
      obtain rfl : f = 4 := Option.some.inj ((show Tryz.prog.funcNamed "loop.example/g00220/laws.FnForks" = some 4 by kernel_rfl).symm.trans hf) |>.symm
      obtain rfl : fn = Tryz.f4 := (Option.some.inj (Tryz.func4.symm.trans hfn)).symm
      exact ⟨by as_aux_lemma => kernel_rfl, fun j t ht => by
        rw [Tryz.params4] at ht
        have hm : t ∈ ([62, 62] : List TypeId) := by simpa using Array.mem_of_getElem? ht
        have hall : (([62, 62] : List TypeId).all fun u => !Tryz.prog.wantsStandIn u) = true := by kernel_rfl
        exact (show Tryz.prog.wantsStandIn t = false by simpa using List.all_eq_true.1 hall t hm)⟩)
    (by as_aux_lemma => kernel_rfl)
#print axioms fnForksCard_holds
end Go.Proofs.YtdhifkdijlghdaaGreatDoor
