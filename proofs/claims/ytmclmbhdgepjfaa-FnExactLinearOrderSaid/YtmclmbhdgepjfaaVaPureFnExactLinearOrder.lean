import Derived.Test.YtmclmbhdgepjfaaVaSFnExactLinearOrder
import Derived.Test.YtmclmbhdgepjfaaVaFamFnExactLinearOrder
import Derived.Test.YtmclmbhdgepjfaaVaXpOrder
namespace Go.Proofs.Ytmclmbhdgepjfaa.Pure
open Go.RowKit Go.Proofs.Ytmclmbhdgepjfaa.Q Go.Proofs.YtmclmbhdgepjfaaX Go.Proofs.Ytmclmbhdgepjfaa.FamFnExactLinearOrder Go.Proofs.YtmclmbhdgepjfaaW.PrintWords Go.Proofs.YtmclmbhdgepjfaaW.PrintLast
set_option linter.unusedVariables false

theorem FnExactLinearOrder : Go.Proofs.Ytmclmbhdgepjfaa.SFnExactLinearOrder.Pure := by
 intro l ⟨hb, hm, hv⟩
 refine Ev.rounds ?_
 unfold laws_FnExactLinearOrder.f
 obtain ⟨r, _, hr⟩ := laws_szOpS_ok l (by omega) (fun y hy => (hv y hy).2.2.2) (e := 1048576) (by omega) (by omega)
 refine Ev.bind hr ?_
 by_cases hn : r < 0
 ·simp only [if_pos hn]
  exact Ev.now _
 ·simp only [if_neg hn]
  have ht := laws_toOpS_ok l (by omega) (by omega)
  generalize hm : l.map (fun x : S97 => (⟨x.f0, x.f1, x.f2, x.f3⟩ : S89)) = m at ht
  have hml : m.length = l.length := by rw [← hm]; simp
  obtain ⟨⟨ra, rb⟩, hl7, h1, h2⟩ := LinearOrder_rel m
  replace hl7 : ra.length ≤ 7 := hl7
  have hre := laws_eqIntS_refl ra (by omega)
  refine Ev.bind ht (Ev.bind h1 (Ev.bind ht (Ev.bind h2 (Ev.bind hre ?_))))
  simp only [if_true, bne_self_eq_false]
  refine Ev.step (fun k => by rw [laws_FnExactLinearOrder.j0]) ?_
  simp only [Bool.false_eq_true, if_false]
  refine Ev.bind ht (Ev.bind (laws_eqOpS_refl m (by omega)) ?_)
  obtain ⟨m', _, hmk, _⟩ := laws_markOpS_ok m (by omega) (n := 1) (by omega) (by omega)
  simp only [if_true]
  refine Ev.bind hmk ?_
  simp only [if_neg (show ¬ 1 + 4 * (m.length : Int) < 0 by omega)]
  refine Ev.bind hre ?_
  simp only [if_true, bne_self_eq_false]
  refine Ev.step (fun k => by rw [laws_FnExactLinearOrder.j1]) ?_
  obtain ⟨ra', _, hk, hh⟩ := laws_markIntS_ok ra (by omega) (n := 1) (by omega) (by omega)
  simp only [Bool.false_eq_true, if_false]
  refine Ev.bind hk (Ev.bind hh ?_)
  simp only [if_neg (show ¬ 1 + 1 * (ra.length : Int) < 0 by omega), if_true]
  refine Ev.bind ht (Ev.bind h2 (Ev.bind hre ?_))
  simp only [if_true, bne_self_eq_false]
  refine Ev.step (fun k => by rw [laws_FnExactLinearOrder.j2]) ?_
  simp only [Bool.false_eq_true, if_false]
  refine Ev.bind hh ?_
  simp only [if_neg (show ¬ 1 + 1 * (ra.length : Int) < 0 by omega), if_true]
  exact Ev.now _
end Go.Proofs.Ytmclmbhdgepjfaa.Pure

