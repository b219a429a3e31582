/-
  For every input the law FnForks returns true and leaves its arguments as they were. No condition but the row's own.
  The row out of its pure statement and the small machine's runs: printed by wip/amp/row.py (a session's own program). Lean checks it.
-/
import Derived.Test.YtdhifkdijlghdaaGreatDoorLowFnForks
namespace Go.Proofs.YtdhifkdijlghdaaGreatDoor.fnForks
open Go.ChangeShapes Go.WideShapes Go.ChangeAt Go.RowKit Go.Proofs.YtdhifkdijlghdaaGreatDoorA
set_option linter.unusedVariables false
theorem and_t {a b : Bool} (h : a = true) (k : b = true) : (a && b) = true := by rw [h, k]; rfl
set_option maxHeartbeats 40000000 in
/-- The row's closed facts, each by a lemma of its own: the kernel's memory is that of one. -/
theorem facts : joinedFacts Tryz.prog 4 Tryz.f4 Rows.fnForksSpec Rows.fnForksRow = true := by
  unfold joinedFacts
  repeat' with_reducible apply and_t
  all_goals as_aux_lemma => kernel_rfl
theorem over : Rows.fnForksRow.holds Tryz.pinned (OpenSpec.ofChange Rows.fnForksSpec) :=
  OpenClaim.holds_of_wide 4 Tryz.f4 rfl rfl rfl rfl rfl rfl rfl ⟨rfl, rfl, rfl, rfl, rfl⟩ rfl rfl rfl rfl rfl (by kernel_rfl) Tryz.func4 facts
    (of_decide_eq_true (by kernel_rfl)) (by unfold Func.isWrapper; first | (rw [if_pos (by decide +kernel)]; kernel_rfl) | (rw [if_neg (by decide +kernel)]; exact ⟨rfl, rfl⟩))
    (fun os started H enc _ => lifted os started H enc)
theorem proved : Rows.FnForksSaid := over
#print axioms proved
end Go.Proofs.YtdhifkdijlghdaaGreatDoor.fnForks
namespace Go.Proofs.YtdhifkdijlghdaaGreatDoor
/-- The row, under a short name, for the claim. -/
theorem fnForks_holds : Rows.FnForksSaid := fnForks.proved
end Go.Proofs.YtdhifkdijlghdaaGreatDoor
