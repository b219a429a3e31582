/-
  For every argument the law FnExactOpsOK returns true: the program's OpsOK answers as the reference's.
  No condition but what the row itself says of its arguments.
-/
import Derived.Test.YtmclmbhdgepjfaaSFnExactOpsOK
import Derived.Test.YtmclmbhdgepjfaaFamFnExactOpsOK
import Derived.Test.YtmclmbhdgepjfaaXpOps
namespace Go.Proofs.Ytmclmbhdgepjfaa.Pure
open Go.RowKit Go.Proofs.Ytmclmbhdgepjfaa.Q Go.Proofs.YtmclmbhdgepjfaaX Go.Proofs.Ytmclmbhdgepjfaa.FamFnExactOpsOK Go.Proofs.YtmclmbhdgepjfaaW.PrintWords Go.Proofs.YtmclmbhdgepjfaaW.PrintLast
set_option linter.unusedVariables false

theorem FnExactOpsOK : Go.Proofs.Ytmclmbhdgepjfaa.SFnExactOpsOK.Pure := by
  intro l ⟨hb, hm, hv⟩
  refine Ev.rounds ?_
  unfold laws_FnExactOpsOK.f
  obtain ⟨r, _, hr⟩ := laws_szOpS_ok l (by omega) (fun y hy => (hv y hy).2.2.2) (e := 1048576) (by omega) (by omega)
  refine Ev.bind hr ?_
  by_cases hn : r < 0
  · simp only [if_pos hn]
    exact Ev.now _
  · simp only [if_neg hn]
    have ht := laws_toOpS_ok l (by omega) (by omega)
    refine Ev.bind ht (Ev.bind (spec_OpsOK_eq _) (Ev.bind ht ?_))
    simp only [impl_OpsOK_eq, Option.bind_some, bne_self_eq_false, Bool.false_eq_true, if_false]
    refine Ev.bind ht (Ev.bind (laws_eqOpS_refl _ (by simp; omega)) ?_)
    simp only [if_true]
    exact Ev.now _
end Go.Proofs.Ytmclmbhdgepjfaa.Pure
