import Derived.Test.YtmclmbhdgepjfaaVeQx55
import Derived.Test.YtmclmbhdgepjfaaVeXRead
import Derived.Test.YtmclmbhdgepjfaaRows
namespace Go.Proofs.Ytmclmbhdgepjfaa.SFnWeaker
open Go.RowKit Go.Proofs.Ytmclmbhdgepjfaa.Q Go.Proofs.YtmclmbhdgepjfaaX Go.Proofs.YtmclmbhdgepjfaaW.PrintWords Go.Proofs.YtmclmbhdgepjfaaW.PrintLast
set_option linter.unusedVariables false

/-- THE PURE STATEMENT of FnWeaker. -/
def Pure : Prop := ∀ (l0 : List Int) (l1 : List Int), (l0.length * 1 ≤ 140737488351232 ∧ l0.length ≤ maxLen ∧ ∀ y ∈ l0, (Lit.int .u8 y).wf = true) → (l1.length * 1 ≤ 140737488351232 ∧ l1.length ≤ maxLen ∧ ∀ y ∈ l1, (Lit.int .u8 y).wf = true) → ∃ k, laws_FnWeaker.f k l0 l1 = some true
theorem rdA0 : Rd Try.prog 48 (Kd.slice 5 (Kd.int .u8)) (fun x : List Int => x.length * 1 ≤ 140737488351232 ∧ x.length ≤ maxLen ∧ ∀ y ∈ x, (Lit.int .u8 y).wf = true) := by
 exact (rd_slice (B := 1) (d := (Kd.int .u8)) Try.underlying48 (by kernel_rfl) (by kernel_rfl) (rd_int Try.underlying5))
theorem rdA1 : Rd Try.prog 48 (Kd.slice 5 (Kd.int .u8)) (fun x : List Int => x.length * 1 ≤ 140737488351232 ∧ x.length ≤ maxLen ∧ ∀ y ∈ x, (Lit.int .u8 y).wf = true) := by
 exact (rd_slice (B := 1) (d := (Kd.int .u8)) Try.underlying48 (by kernel_rfl) (by kernel_rfl) (rd_int Try.underlying5))
end Go.Proofs.Ytmclmbhdgepjfaa.SFnWeaker

