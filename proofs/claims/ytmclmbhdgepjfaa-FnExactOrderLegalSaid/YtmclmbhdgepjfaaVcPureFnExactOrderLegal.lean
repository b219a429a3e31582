import Derived.Test.YtmclmbhdgepjfaaVcSFnExactOrderLegal
import Derived.Test.YtmclmbhdgepjfaaVcFamFnExactOrderLegal
import Derived.Test.YtmclmbhdgepjfaaVcXpLegal
namespace Go.Proofs.Ytmclmbhdgepjfaa.Pure
open Go.RowKit Go.Proofs.Ytmclmbhdgepjfaa.Q Go.Proofs.YtmclmbhdgepjfaaX Go.Proofs.Ytmclmbhdgepjfaa.FamFnExactOrderLegal Go.Proofs.YtmclmbhdgepjfaaW.PrintWords Go.Proofs.YtmclmbhdgepjfaaW.PrintLast
set_option linter.unusedVariables false

theorem FnExactOrderLegal : Go.Proofs.Ytmclmbhdgepjfaa.SFnExactOrderLegal.Pure := by
 intro l order ⟨hb, hm, hv⟩ ⟨hb1, hm1, _⟩
 refine Ev.rounds ?_
 unfold laws_FnExactOrderLegal.f
 by_cases hbig : (order.length : Int) > 1048576
 ·simp only [if_pos hbig]
  exact Ev.now _
 simp only [if_neg hbig]
 obtain ⟨r, _, hr⟩ := laws_szOpS_ok l (by omega) (fun y hy => (hv y hy).2.2.2) (e := 1048576) (by omega) (by omega)
 refine Ev.bind hr ?_
 by_cases hn : r < 0
 ·simp only [if_pos hn]
  exact Ev.now _
 ·simp only [if_neg hn]
  have ht := laws_toOpS_ok l (by omega) (by omega)
  generalize hm' : l.map (fun x : S97 => (⟨x.f0, x.f1, x.f2, x.f3⟩ : S89)) = m at ht
  have hml : m.length = l.length := by rw [← hm']; simp
  have hi := laws_toIntS_ok order (by omega) (by omega)
  obtain ⟨r, h1, h2, _, _⟩ := OrderLegal_rel m order
  refine Ev.bind ht (Ev.bind hi (Ev.bind h1 (Ev.bind ht (Ev.bind hi (Ev.bind h2 ?_)))))
  simp only [bne_self_eq_false, Bool.false_eq_true, if_false]
  refine Ev.step (fun k => by rw [laws_FnExactOrderLegal.j0]) ?_
  simp only [Bool.false_eq_true, if_false]
  refine Ev.bind ht (Ev.bind (laws_eqOpS_refl m (by omega)) ?_)
  simp only [if_true]
  refine Ev.bind hi (Ev.bind (laws_eqIntS_refl order (by omega)) ?_)
  simp only [if_true]
  exact Ev.now _
end Go.Proofs.Ytmclmbhdgepjfaa.Pure

