/-
  The law FnExactFoldRecords: its pure statement holds. No condition.
-/
import Derived.Test.YtdpjbeeokimnaaaPFoldAll
namespace Go.Proofs.YtdpjbeeokimnaaaA
open Go
set_option linter.unusedVariables false
set_option linter.unusedSimpArgs false

theorem eqState_self (t v : Int) (l : List (El kEntry)) (h : l.length ≤ 1048576) : l_eqState t v l t v l = some true := by
  unfold l_eqState l_eqState.F
  simp only [bne_self_eq_false, cf, eqEntryS_self l h, bs, Bool.not_true]
theorem pFnExactFoldRecords : ∀ (x0 : El (.list .str)), (x0.length * 16 ≤ 140737488351232 ∧ x0.length ≤ maxLen ∧ ∀ y ∈ x0, ByteArray.size y ≤ 140737488351232) → l_FnExactFoldRecords x0 = some true := by
  intro x0 ⟨h1, h2, h3⟩
  unfold l_FnExactFoldRecords l_FnExactFoldRecords.F
  obtain ⟨r, hr, hr1, hr2⟩ := szStringS_eq x0 1048576 (by decide) (by decide) (by omega) h3
  rw [hr, bs]
  by_cases hn : r < 0
  · rw [decide_t hn, ct]
  · obtain ⟨hlen, hsz⟩ := hr2 hn
    have hlen' : List.length (α := ByteArray) x0 ≤ 1048576 := hlen
    have hk := told_sok x0
    have hkl : (told x0).2.2.1.length ≤ 60 := hk.1
    rw [decide_f hn, cf]
    simp only [toStringS_eq x0 hlen', bs, foldRecords_s x0 (by omega), foldRecords_i x0 (by omega), eqState_self _ _ (told x0).2.2.1 (by omega), eqStringS_self x0 hlen', Bool.not_true, cf, bne_self_eq_false]
    have hms : l_markStringS x0 1 = some (1 + (x0.length : Int), mkL mT 1 1 x0.length) := markStringS_eq x0 hlen' 1 (by decide) (by decide)
    rw [hms]
    simp only [bs]
    rw [decide_f (show ¬ (1 + (List.length (α := ByteArray) x0 : Int)) < 0 by omega), cf]
    unfold l_markState l_markState.F
    rw [markEntryS_eq _ (by omega) 1 (by decide) (by decide)]
    simp only [bs]
    unfold l_heldState l_heldState.F
    rw [heldEntryS_eq _ (by omega) 1 (by decide) (by decide)]
    simp only [bs]
    have hp : ¬ (1 + 3 * ((told x0).2.2.1.length : Int)) < 0 := by omega
    simp only [decide_f hp, cf, bs, bne_self_eq_false]
end Go.Proofs.YtdpjbeeokimnaaaA
