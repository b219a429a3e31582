/-
  For every input the law FnRecovers returns true and leaves its arguments as they were; what the listed package variables hold is tied to the program's text. No condition but the card's own.
-/
import Derived.Test.YtaanadbpnmcbcaaGreatDoorLawFnRecovers
import Derived.Test.YtaanadbpnmcbcaaGreatDoorCards
import Derived.Test.YtaanadbpnmcbcaaGreatDoorTie
import Derived.SevenTiedAt
namespace Go.Proofs.YtaanadbpnmcbcaaGreatDoor
open Go
set_option linter.unusedVariables false
theorem fnRecoversCard_holds : Rows.FnRecoversCardSaid :=
  Claim7.holds_tied_plain_at .later [] [.data, .pinned] true (true, "98e09a7c8157d2373748aa531f97ea91c2efec541d38361ef4399a7e19ff627d") false
    fnRecovers_holds (fun _ h => by cases h) (by kernel_rfl) (fun _ h => by cases h) fnRecovers_row_tie rfl ⟨rfl, rfl⟩ (by kernel_rfl) rfl
    (fun f fn hf hfn => by
      obtain rfl : f = 7 := Option.some.inj ((show Tryz.prog.funcNamed "loop.example/g00220/laws.FnRecovers" = some 7 by kernel_rfl).symm.trans hf) |>.symm
      obtain rfl : fn = Tryz.f7 := (Option.some.inj (Tryz.func7.symm.trans hfn)).symm
      exact ⟨by kernel_rfl, fun j t ht => by
        rw [Tryz.params7] at ht
        have hm : t ∈ ([35, 35] : List TypeId) := by simpa using Array.mem_of_getElem? ht
        have hall : (([35, 35] : List TypeId).all fun u => !Tryz.prog.wantsStandIn u) = true := by kernel_rfl
        exact (show Tryz.prog.wantsStandIn t = false by simpa using List.all_eq_true.1 hall t hm)⟩)
    (by kernel_rfl)
#print axioms fnRecoversCard_holds
end Go.Proofs.YtaanadbpnmcbcaaGreatDoor
