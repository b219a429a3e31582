/-
  Shapes made alike, and a state's core. No condition.
-/
import Derived.Test.YtdhifkdijlghdaaGreatDoorACode6
namespace Go.Proofs.YtdhifkdijlghdaaGreatDoorA
open Go
set_option linter.unusedVariables false
set_option linter.unusedSimpArgs false
variable {P : Program} {E : Env} {M0 : Addr → Prop} {w0 w : World} {g : Gh} {σ : St} {a : Act} {h : List Ob}
theorem normC_ok {ck : List CastAt × List Nat} {kp : Kp} (h : normC E ck σ = some kp) (hF : Fr P E M0 w0 g σ a w) (hne : E.ne ≤ σ.heap.length) : ∃ g', Fr P E M0 w0 g' (kp.st ck.2) a w ∧ LaterE E.ne g w g' w ∧ E.ne ≤ kp.heap.length := by
 unfold normC at h
 cases h1 : castX ck.1 σ with
 | none => rw [h1] at h; simp at h
 | some σ1 =>
  rw [h1] at h
  obtain ⟨g1, hF1, hL1⟩ := castX_ok h1 hF
  have hne1 : E.ne ≤ σ1.heap.length := by
   rcases Nat.lt_or_ge σ1.heap.length E.ne with hlt | hge
   ·exfalso
    have h1 := hF.inv.ob σ1.heap.length _ (List.getElem?_eq_getElem (show σ1.heap.length < σ.heap.length by omega))
    have h2 := hL1.ext.loc _ (ObR.loc h1)
    rw [hF1.inv.no σ1.heap.length (List.getElem?_eq_none (Nat.le_refl _))] at h2
    exact ObR.loc h1 h2.symm
   ·exact hge
  obtain ⟨g2, hF2, hL2, hne2⟩ := norm_ok h hF1 hne1
  exact ⟨g2, hF2, (hF.later hne hL1).trans hL2, hne2⟩
end Go.Proofs.YtdhifkdijlghdaaGreatDoorA
