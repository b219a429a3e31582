import Derived.Test.YtmclmbhdgepjfaaVeQx0
import Derived.Test.YtmclmbhdgepjfaaVeQx2
import Derived.Test.YtmclmbhdgepjfaaVeQx4
import Derived.Test.YtmclmbhdgepjfaaVeQx37
import Derived.Test.YtmclmbhdgepjfaaVeQx39
import Derived.Test.YtmclmbhdgepjfaaVeQx41
import Derived.Test.YtmclmbhdgepjfaaVeQx44
import Derived.Test.YtmclmbhdgepjfaaVeQx32
import Derived.Test.YtmclmbhdgepjfaaVeXpOrder
namespace Go.Proofs.Ytmclmbhdgepjfaa.Pure
open Go.RowKit Go.Proofs.Ytmclmbhdgepjfaa.Q Go.Proofs.YtmclmbhdgepjfaaX Go.Proofs.YtmclmbhdgepjfaaW.PrintWords Go.Proofs.YtmclmbhdgepjfaaW.PrintLast
set_option linter.unusedVariables false
set_option linter.unusedSimpArgs false
set_option linter.unusedSectionVars false

theorem Ev.uniq {α : Type} {g : Nat → Option α} {r s : α} (h : Ev g r) (k : Ev g s) : r = s := by
 obtain ⟨K, h⟩ := h
 obtain ⟨L, k⟩ := k
 have h1 := h (max K L) (Nat.le_max_left _ _)
 have h2 := k (max K L) (Nat.le_max_right _ _)
 rw [h1] at h2
 exact Option.some.inj h2
/-- What an act finds: a write anything, a read its own value. -/
def valueOK (x : S89) (v : ByteArray) : Prop := x.f2 = true ∨ x.f3.toList = v.toList
/-- May k come behind those of pre? -/
def StepOK (ops : List S89) (pre : List Int) (k : Int) : Prop := ∀ a ∈ pre, a ≠ k ∧ aheadB (rd_T89 ops k) (rd_T89 ops a) = false
def LegalFrom (ops : List S89) : List Int → ByteArray → List Int → Prop
 | _, _, [] => True
 | pre, v, k :: ks => StepOK ops pre k ∧ valueOK (rd_T89 ops k) v ∧ LegalFrom ops (pre ++ [k]) (rd_T89 ops k).f3 ks
def AllEnded (ops : List S89) (ids : List Int) : Prop := ∀ j : Int, 0 ≤ j → j < ops.length → (rd_T89 ops j).f1 < 0 ∨ has ids j = true
def InR (ops : List S89) (ids : List Int) : Prop := ∀ a ∈ ids, 0 ≤ a ∧ a < (ops.length : Int)
end Go.Proofs.Ytmclmbhdgepjfaa.Pure

