import Derived.Test.YtmclmbhdgepjfaaVeXPure
import Derived.Laws.BytesArg
import Derived.Lib.Strings
namespace Go.Proofs.YtmclmbhdgepjfaaX
open Go.RowKit Go.Proofs.YtmclmbhdgepjfaaW.PrintWords
set_option linter.unusedVariables false
set_option linter.unusedSimpArgs false
def IsBytes (l : List Int) : Prop := ∀ y ∈ l, 0 ≤ y ∧ y < 256
theorem IsBytes.drop {l : List Int} (h : IsBytes l) (n : Nat) : IsBytes (l.drop n) := fun y hy => h y (List.mem_of_mem_drop hy)
theorem IsBytes.take {l : List Int} (h : IsBytes l) (n : Nat) : IsBytes (l.take n) := fun y hy => h y (List.mem_of_mem_take hy)
theorem isBytes_of_wf {l : List Int} (h : ∀ y ∈ l, (Lit.int .u8 y).wf = true) : IsBytes l := fun y hy => by
 have := h y hy
 simp [Lit.wf, IntKind.min, IntKind.max, IntKind.signed, IntKind.bits] at this
 omega
end Go.Proofs.YtmclmbhdgepjfaaX

