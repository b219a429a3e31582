/-
  For every argument the law FnCommands returns true: commands and entries are read back from their bytes, and bytes that are read are just those of what was read.
  No condition but what the row itself says of its arguments.
-/
import Derived.Test.YtaifnabbijikeaaPEnt
namespace Go.Proofs.YtaifnabbijikeaaA
open Go
set_option linter.unusedVariables false
set_option linter.unusedSimpArgs false

theorem CommandOf_eq (c : List Int) (hb : IsBytes c) (hl : c.length ≤ 1048576) : ∃ k se q K V, s_CommandOf c = some (k, se, q, strL K, strL V) ∧ IsBytes K ∧ IsBytes V ∧ cmdOK k se q (strL K) (strL V) = true := by
  obtain ⟨s, e1, h1⟩ := source_eq c hb hl
  obtain ⟨k, se, q, key, val, a2, s2, e2, hok, _, _⟩ := command_eq h1 (by omega)
  obtain ⟨K, hK, rfl⟩ := exStr key
  obtain ⟨V, hV, rfl⟩ := exStr val
  unfold s_CommandOf s_CommandOf.F
  rw [e1, bs]
  dsimp only
  rw [e2, bs]
  exact ⟨_, _, _, _, _, rfl, hK, hV, hok⟩
theorem EntryOf_eq (c : List Int) (hb : IsBytes c) (hl : c.length ≤ 1048576) : ∃ t k D, s_EntryOf c = some (t, k, strL D) ∧ IsBytes D ∧ entOK t k D = true := by
  obtain ⟨s, e1, h1⟩ := source_eq c hb hl
  obtain ⟨t, k, D, a2, s2, e2, hD, hok, _, _⟩ := entry_eq h1 (by omega)
  unfold s_EntryOf s_EntryOf.F
  rw [e1, bs]
  dsimp only
  rw [e2, bs]
  exact ⟨_, _, _, rfl, hD, hok⟩
theorem ReadCommand_back {k s q : Int} {K V : List Int} (hK : IsBytes K) (hV : IsBytes V) (h : cmdOK k s q (strL K) (strL V) = true) : i_ReadCommand (cmdB k s q K V) = some (k, s, q, strL K, strL V, 0) := by
  obtain ⟨h1, h2, hs, hq, h3⟩ := cmdOK_short h
  have hl : (cmdB k s q K V).length ≤ 91 := by rw [cmdB_length]; omega
  unfold i_ReadCommand i_ReadCommand.F
  rw [decide_f (by omega), cf]
  obtain ⟨g1, g2, g3, g4, g5, h4⟩ := readCmd_i _ (cmdB_bytes (k := k) (s := s) (q := q) hK hV)
  rw [h4, bs, pCmd_cmdB (by omega) hs hq (by omega) (by omega)]
  simp only [h, decide_t, Bool.and_self, Bool.not_true, cf]
theorem CommandBytes_ok {k s q : Int} {K V : List Int} (hK : IsBytes K) (hV : IsBytes V) (h : cmdOK k s q (strL K) (strL V) = true) : i_CommandBytes k s q (strL K) (strL V) = some (cmdB k s q K V, 0) ∧ s_CommandBytes k s q (strL K) (strL V) = some (cmdB k s q K V, 0) := by
  obtain ⟨h1, h2, hs, hq, h3⟩ := cmdOK_short h
  constructor
  · unfold i_CommandBytes i_CommandBytes.F
    rw [commandOK_i, bs, h, Bool.not_true, cf, cmdBytes_i k s q K V (by omega) (by omega), bs, bytesL_strL (cmdB_bytes hK hV)]
  · unfold s_CommandBytes s_CommandBytes.F
    rw [commandOK_s, bs, h, Bool.not_true, cf, cmdBytes_s k s q K V hK hV (by omega) (by omega) hs hq, bs]
theorem EntryBytes_ok {t k : Int} {D : List Int} (hD : IsBytes D) (h : entOK t k D = true) : i_EntryBytes t k (strL D) = some (entB t k D, 0) ∧ s_EntryBytes t k (strL D) = some (entB t k D, 0) := by
  obtain ⟨h1, h2, h3⟩ := entOK_short h
  constructor
  · unfold i_EntryBytes i_EntryBytes.F
    rw [entryOK_i t k D hD (by omega), bs, h, Bool.not_true, cf, entBytes_i t k D (by omega), bs, bytesL_strL (entB_bytes hD)]
  · unfold s_EntryBytes s_EntryBytes.F
    rw [entryOK_s t k D hD (by omega), bs, h, Bool.not_true, cf, entBytes_s t k D hD (by omega), bs]
theorem pFnCommands : ∀ (x0 : List Int), (x0.length * 1 ≤ 140737488351232 ∧ x0.length ≤ maxLen ∧ ∀ y ∈ x0, (Lit.int .u8 y).wf = true) → l_FnCommands x0 = some true := by
  intro c ⟨_, _, hw⟩
  have hb := isBytes_of_wf hw
  unfold l_FnCommands l_FnCommands.F
  by_cases hbig : (c.length : Int) > 1048576
  · rw [decide_t hbig, ct]
  · rw [decide_f hbig, cf]
    obtain ⟨k, se, q, K, V, e1, hK, hV, hok⟩ := CommandOf_eq c hb (by omega)
    obtain ⟨t, ek, D, e2, hD, hoe⟩ := EntryOf_eq c hb (by omega)
    obtain ⟨c1, c2⟩ := CommandBytes_ok hK hV hok
    obtain ⟨d1, d2⟩ := EntryBytes_ok hD hoe
    rw [e1, bs]
    dsimp only
    rw [c1, bs, c2, bs]
    dsimp only
    rw [ReadCommand_back hK hV hok, bs, e2, bs]
    dsimp only
    rw [d1, bs, d2, bs]
    dsimp only
    rw [ReadEntry_back hD hoe, bs]
    dsimp only
    have n0 : ((0 : Int) != 0) = false := rfl
    simp only [n0, cf, sEq_self, Bool.not_true, beq_self_eq_true, Bool.and_self]
    rw [commandOK_i, bs, hok, Bool.not_true, cf]
    rw [← ReadCommand_eq c hb]
    unfold i_ReadCommand i_ReadCommand.F
    by_cases h6 : (c.length : Int) > 65536
    · rw [decide_t h6, ct, bs, bs]
      rfl
    · rw [decide_f h6, cf]
      obtain ⟨g1, g2, g3, g4, g5, h1⟩ := readCmd_i c hb
      rw [h1, bs]
      cases hp : pCmd c with
      | none =>
        simp only [Bool.not_false, ct, bs]
        rfl
      | some x =>
        simp only
        by_cases hx : x.r = []
        · obtain ⟨f1, f2, f3, f4, f5, f6, f7, f8⟩ := cmd_of_pCmd hb hp hx
          rw [decide_t hx, Bool.true_and]
          cases hcm : cmdOK x.k x.s x.q (strL x.K) (strL x.V) with
          | false =>
            simp only [Bool.not_false, ct, bs]
            rfl
          | true =>
            simp only [Bool.not_true, cf, bs]
            rw [(CommandBytes_ok f2 f3 hcm).1, bs]
            dsimp only
            rw [← f1]
            simp only [n0, cf, beq_self_eq_true, ct, sEq_self]
        · rw [decide_f hx, Bool.false_and]
          simp only [Bool.not_false, ct, bs]
          rfl
end Go.Proofs.YtaifnabbijikeaaA
