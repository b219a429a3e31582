/-
  For every argument the law FnExactNewIssuer returns true: the program's NewIssuer answers as the reference's, and its answer owns its memory.
  No condition but what the row itself says of its arguments.
-/
import Derived.Test.YtmclmbhdgepjfaaSFnExactNewIssuer
import Derived.Test.YtmclmbhdgepjfaaFamFnExactNewIssuer
import Derived.Test.YtmclmbhdgepjfaaXpIssuer
namespace Go.Proofs.Ytmclmbhdgepjfaa.Pure
open Go.RowKit Go.Proofs.Ytmclmbhdgepjfaa.Q Go.Proofs.YtmclmbhdgepjfaaX Go.Proofs.Ytmclmbhdgepjfaa.FamFnExactNewIssuer Go.Proofs.YtmclmbhdgepjfaaW.PrintWords Go.Proofs.YtmclmbhdgepjfaaW.PrintLast
set_option linter.unusedVariables false
set_option linter.unusedSimpArgs false

theorem NewIssuer_eq (a : ByteArray) : ∃ s l c, spec_NewIssuer.f a = some (s, l, 0, ⟨#[]⟩, ⟨#[]⟩, false, 0, c) ∧ impl_NewIssuer.f a = some (s, l, 0, ⟨#[]⟩, ⟨#[]⟩, false, 0, c) ∧ l.length ≤ 4 := by
  unfold spec_NewIssuer.f impl_NewIssuer.f
  simp only [isText_eq, isHash_eq, Option.bind_some, List.all_cons, List.all_nil, Bool.and_true, decide_eq_true_eq, beq_iff_eq]
  by_cases h : a.size ≤ 65536
  · simp only [if_neg (show ¬ (a.size : Int) > 65536 by omega), if_pos h]
    by_cases h2 : a.size = 32
    · simp only [if_pos (show (a.size : Int) = 32 by omega), if_pos h2, if_pos (show 4 ≤ 281474976710656 by omega)]
      exact ⟨_, _, _, rfl, rfl, by simp⟩
    · simp only [if_neg (show ¬ (a.size : Int) = 32 by omega), if_neg h2]
      exact ⟨_, _, _, rfl, rfl, by simp⟩
  · simp only [if_pos (show (a.size : Int) > 65536 by omega), if_neg h]
    exact ⟨_, _, _, rfl, rfl, by simp⟩

theorem FnExactNewIssuer : Go.Proofs.Ytmclmbhdgepjfaa.SFnExactNewIssuer.Pure := by
  intro a _
  refine Ev.rounds ?_
  unfold laws_FnExactNewIssuer.f
  obtain ⟨s, l, c, hs, hi, hl⟩ := NewIssuer_eq a
  by_cases hn : (a.size : Int) > 1048576
  · simp only [if_pos hn]
    exact Ev.now _
  · simp only [if_neg hn, hs, hi, Option.bind_some]
    refine Ev.bind (laws_eqIssuer_refl s l 0 _ _ false 0 (by omega)) ?_
    simp only [if_true]
    obtain ⟨l', r, e, hl', hm, hh⟩ := laws_markIssuer_ok s l 0 ⟨#[]⟩ ⟨#[]⟩ false 0 (by omega) (n := 1) (by omega) (by omega)
    refine Ev.step (fun k => by rw [laws_FnExactNewIssuer.j0]) ?_
    simp only [bne_self_eq_false, Bool.false_eq_true, if_false]
    refine Ev.bind hm (Ev.bind hh ?_)
    simp only [if_neg (show ¬ r < 0 by omega), if_true, hi, Option.bind_some]
    refine Ev.bind (laws_eqIssuer_refl s l 0 _ _ false 0 (by omega)) ?_
    simp only [if_true]
    refine Ev.step (fun k => by rw [laws_FnExactNewIssuer.j1]) ?_
    simp only [bne_self_eq_false, Bool.false_eq_true, if_false]
    refine Ev.bind hh ?_
    simp only [if_neg (show ¬ r < 0 by omega), if_true]
    exact Ev.now _
end Go.Proofs.Ytmclmbhdgepjfaa.Pure
