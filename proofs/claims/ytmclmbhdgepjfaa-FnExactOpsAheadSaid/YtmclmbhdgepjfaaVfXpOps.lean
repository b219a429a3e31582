import Derived.Test.YtmclmbhdgepjfaaVfQx0
import Derived.Test.YtmclmbhdgepjfaaVfQx2
import Derived.Test.YtmclmbhdgepjfaaVfQx4
import Derived.Test.YtmclmbhdgepjfaaVfQx5
import Derived.Test.YtmclmbhdgepjfaaVfXPure
namespace Go.Proofs.Ytmclmbhdgepjfaa.Pure
open Go.RowKit Go.Proofs.Ytmclmbhdgepjfaa.Q Go.Proofs.YtmclmbhdgepjfaaX Go.Proofs.YtmclmbhdgepjfaaW.PrintWords Go.Proofs.YtmclmbhdgepjfaaW.PrintLast
set_option linter.unusedVariables false
set_option linter.unusedSimpArgs false

/-- An act is right. -/
def opOK (x : S89) : Bool := (decide (0 ≤ x.f0) && decide (x.f0 ≤ 1000000)) && (decide (x.f1 = -1) || (decide (x.f0 + 1 ≤ x.f1) && decide (x.f1 ≤ 1000001))) && decide (x.f3.size ≤ 60)
theorem l01In_eq (a b c : Int) : spec_l01In.f a b c = some (decide (b ≤ a) && decide (a ≤ c)) := by
 unfold spec_l01In.f
 by_cases h : b ≤ a
 ·rw [if_pos h]; simp [h]
 ·rw [if_neg h]; simp [h]
theorem within_eq' (a b c : Int) : impl_within.f a b c = some (decide (b ≤ a) && decide (a ≤ c)) := l01In_eq a b c
theorem opsOK_1_eq (x : S89) : impl_OpsOK_1.f x.f0 x.f1 x.f2 x.f3 = some (!opOK x) := by
 unfold impl_OpsOK_1.f impl_isValue.f
 simp only [within_eq', Option.bind_some]
 by_cases h0 : 0 ≤ x.f0 ∧ x.f0 ≤ 1000000
 ·have hw : wrap64 (x.f0 + 1) = x.f0 + 1 := by unfold wrap64; omega
  rw [hw]
  simp only [opOK, h0.1, h0.2, decide_true, Bool.and_true, if_true, Bool.true_and]
  by_cases h1 : x.f1 = -1
  ·rw [if_pos h1]
   simp [h1]
   omega
  ·rw [if_neg h1]
   simp only [h1, decide_false, Bool.false_or]
   split
   ·rename_i h2
    simp [h2]
    omega
   ·rename_i h2
    simp [Bool.eq_false_iff.mpr h2]
 ·have h2 : (decide (0 ≤ x.f0) && decide (x.f0 ≤ 1000000)) = false := by
   rw [Bool.eq_false_iff]
   simpa using h0
  rw [h2, if_neg (by decide)]
  simp [opOK, h2]
theorem impl_OpsOK_eq (l : List S89) : impl_OpsOK.f l = some (decide (l.length ≤ 7) && l.all opOK) := by
 unfold impl_OpsOK.f impl_OpsOK_1_any.f
 rw [anyO_total (p := fun x : S89 => impl_OpsOK_1.f x.f0 x.f1 x.f2 x.f3) (q := fun x => !opOK x) l (fun x _ => opsOK_1_eq x)]
 have e : (!l.any fun x => !opOK x) = l.all opOK := by
  rw [Bool.eq_iff_iff]
  simp
 by_cases h : l.length ≤ 7
 ·rw [if_pos (by omega)]
  simp only [Option.bind_some, e, h, decide_true, Bool.true_and]
 ·rw [if_neg (by omega)]
  simp [h]
theorem spec_OpsOK_l0 (l : List S89) (hl : l.length ≤ 7) : ∀ (d : Nat) (i : Int), 0 ≤ i → i + d = l.length → Ev (fun k => spec_OpsOK.l0 k l i) ((l.drop i.toNat).all opOK) := by
 intro d
 induction d with
 | zero =>
  intro i h0 h1
  refine Ev.step (fun k => by rw [spec_OpsOK.l0]) ?_
  rw [List.drop_eq_nil_of_le (by omega)]
  simp only [if_neg (show ¬ i < (l.length : Int) by omega)]
  exact Ev.now _
 | succ d ih =>
  intro i h0 h1
  refine Ev.step (fun k => by rw [spec_OpsOK.l0]) ?_
  have hi : i.toNat < l.length := by omega
  have hd : l.drop i.toNat = rd_T89 l i :: l.drop (i + 1).toNat := by
   rw [show (i + 1).toNat = i.toNat + 1 by omega, List.drop_eq_getElem_cons hi]
   congr 1
   show _ = l.getD i.toNat z89
   rw [List.getD_eq_getElem?_getD, List.getElem?_eq_getElem hi]
   rfl
  rw [hd, List.all_cons]
  have ih' := ih (i + 1) (by omega) (by omega)
  generalize rd_T89 l i = x at hd ⊢
  simp only [if_pos (show i < (l.length : Int) by omega), if_pos h0, wrap_up h0 (show i < (l.length : Int) by omega) (by omega : l.length ≤ 9223372036854775807), l01In_eq, Option.bind_some]
  by_cases hf0 : 0 ≤ x.f0 ∧ x.f0 ≤ 1000000
  ·have hw : wrap64 (x.f0 + 1) = x.f0 + 1 := by unfold wrap64; omega
   simp only [hw, opOK, hf0.1, hf0.2, decide_true, Bool.and_true, if_true, Bool.true_and]
   by_cases h3 : x.f3.size ≤ 60
   ·simp only [if_neg (show ¬ (x.f3.size : Int) > 60 by omega), h3, decide_true, Bool.and_true]
    by_cases hf1 : x.f1 = -1
    ·simp only [if_pos hf1, hf1, decide_true, Bool.true_or, Bool.true_and]
     exact ih'
    ·simp only [if_neg hf1, hf1, decide_false, Bool.false_or]
     cases hq : (decide (x.f0 + 1 ≤ x.f1) && decide (x.f1 ≤ 1000001)) with
     | true => simp only [if_true, Bool.true_and]; exact ih'
     | false => simp only [Bool.false_eq_true, if_false, Bool.false_and]; exact Ev.now _
   ·simp only [if_pos (show (x.f3.size : Int) > 60 by omega), h3, decide_false, Bool.and_false, Bool.false_and]
    by_cases hf1 : x.f1 = -1
    ·simp only [if_pos hf1]
     exact Ev.now _
    ·simp only [if_neg hf1, ite_self]
     exact Ev.now _
  ·have h2 : (decide (0 ≤ x.f0) && decide (x.f0 ≤ 1000000)) = false := by
    rw [Bool.eq_false_iff]
    simpa using hf0
   simp only [h2, opOK, Bool.false_and, Bool.false_eq_true, if_false]
   exact Ev.now _
theorem spec_OpsOK_eq (l : List S89) : Ev (fun k => spec_OpsOK.f k l) (decide (l.length ≤ 7) && l.all opOK) := by
 unfold spec_OpsOK.f
 by_cases h : l.length ≤ 7
 ·simp only [if_neg (show ¬ (l.length : Int) > 4096 by omega), if_neg (show ¬ (l.length : Int) > 7 by omega), h, decide_true, Bool.true_and]
  exact spec_OpsOK_l0 l h l.length 0 (by omega) (by omega)
 ·simp only [h, decide_false, Bool.false_and, if_pos (show (l.length : Int) > 7 by omega), ite_self]
  exact Ev.now _
end Go.Proofs.Ytmclmbhdgepjfaa.Pure

