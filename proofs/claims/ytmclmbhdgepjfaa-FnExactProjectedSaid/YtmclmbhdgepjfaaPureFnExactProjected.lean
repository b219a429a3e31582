/-
  For every argument the law FnExactProjected returns true: the program's Projected answers as the reference's.
  No condition but what the row itself says of its arguments.
-/
import Derived.Test.YtmclmbhdgepjfaaSFnExactProjected
import Derived.Test.YtmclmbhdgepjfaaFamFnExactProjected
import Derived.Test.YtmclmbhdgepjfaaXpActs
namespace Go.Proofs.Ytmclmbhdgepjfaa.Pure
open Go.RowKit Go.Proofs.Ytmclmbhdgepjfaa.Q Go.Proofs.YtmclmbhdgepjfaaX Go.Proofs.Ytmclmbhdgepjfaa.FamFnExactProjected Go.Proofs.YtmclmbhdgepjfaaW.PrintWords Go.Proofs.YtmclmbhdgepjfaaW.PrintLast
set_option linter.unusedVariables false

theorem FnExactProjected : Go.Proofs.Ytmclmbhdgepjfaa.SFnExactProjected.Pure := by
  intro l a b ⟨hb, hm, hv⟩ _ _
  refine Ev.rounds ?_
  unfold laws_FnExactProjected.f
  obtain ⟨r, _, hr⟩ := laws_szOpS_ok l (by omega) (fun y hy => (hv y hy).2.2.2) (e := 1048576) (by omega) (by omega)
  refine Ev.bind hr ?_
  by_cases hn : r < 0
  · simp only [if_pos hn]
    exact Ev.now _
  · simp only [if_neg hn]
    have ht := laws_toOpS_ok l (by omega) (by omega)
    generalize hm' : l.map (fun x : S97 => (⟨x.f0, x.f1, x.f2, x.f3⟩ : S89)) = m at ht
    have hml : m.length = l.length := by rw [← hm']; simp
    obtain ⟨⟨ra, rb⟩, hl7, h1, h2⟩ := Projected_rel m a b
    replace hl7 : ra.length ≤ 7 := hl7
    have hre := laws_eqOpS_refl ra (by omega)
    refine Ev.bind ht (Ev.bind h1 (Ev.bind ht ?_))
    simp only [h2, Option.bind_some]
    refine Ev.bind hre ?_
    simp only [if_true, bne_self_eq_false]
    refine Ev.step (fun k => by rw [laws_FnExactProjected.j0]) ?_
    simp only [Bool.false_eq_true, if_false]
    refine Ev.bind ht (Ev.bind (laws_eqOpS_refl m (by omega)) ?_)
    obtain ⟨m', _, hmk, _⟩ := laws_markOpS_ok m (by omega) (n := 1) (by omega) (by omega)
    simp only [if_true]
    refine Ev.bind hmk ?_
    simp only [if_neg (show ¬ 1 + 4 * (m.length : Int) < 0 by omega)]
    refine Ev.bind hre ?_
    simp only [if_true, bne_self_eq_false]
    refine Ev.step (fun k => by rw [laws_FnExactProjected.j1]) ?_
    obtain ⟨ra', _, hk, hh⟩ := laws_markOpS_ok ra (by omega) (n := 1) (by omega) (by omega)
    simp only [Bool.false_eq_true, if_false]
    refine Ev.bind hk (Ev.bind hh ?_)
    simp only [if_neg (show ¬ 1 + 4 * (ra.length : Int) < 0 by omega), if_true]
    refine Ev.bind ht ?_
    simp only [h2, Option.bind_some]
    refine Ev.bind hre ?_
    simp only [if_true, bne_self_eq_false]
    refine Ev.step (fun k => by rw [laws_FnExactProjected.j2]) ?_
    simp only [Bool.false_eq_true, if_false]
    refine Ev.bind hh ?_
    simp only [if_neg (show ¬ 1 + 4 * (ra.length : Int) < 0 by omega), if_true]
    exact Ev.now _
end Go.Proofs.Ytmclmbhdgepjfaa.Pure
