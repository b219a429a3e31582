import Derived.Test.YtmclmbhdgepjfaaVeQx0
import Derived.Test.YtmclmbhdgepjfaaVeQx2
import Derived.Test.YtmclmbhdgepjfaaVeQx32
import Derived.Test.YtmclmbhdgepjfaaVeQx33
import Derived.Test.YtmclmbhdgepjfaaVeXDel
import Derived.Test.YtmclmbhdgepjfaaVeXpOps
namespace Go.Proofs.Ytmclmbhdgepjfaa.Pure
open Go.RowKit Go.Proofs.Ytmclmbhdgepjfaa.Q Go.Proofs.YtmclmbhdgepjfaaX Go.Proofs.YtmclmbhdgepjfaaW.PrintWords Go.Proofs.YtmclmbhdgepjfaaW.PrintLast
set_option linter.unusedVariables false
set_option linter.unusedSimpArgs false
theorem opsCode_eq (l : List S89) : impl_opsCode.f l = some (if l.length ≤ 4096 then (if l.length ≤ 7 ∧ l.all opOK = true then 0 else 1) else 2) := by
 unfold impl_opsCode.f impl_Op_122.f
 simp only [impl_OpsOK_eq, Option.bind_some]
 by_cases h : l.length ≤ 4096
 ·simp only [decide_eq_true_iff, if_pos (show (l.length : Int) ≤ 4096 by omega), if_pos h]
  by_cases h2 : l.length ≤ 7 ∧ l.all opOK = true
  ·rw [if_pos (by simpa using h2), if_pos h2]
  ·rw [if_neg (by simpa using h2), if_neg h2]
 ·simp only [decide_eq_true_iff, if_neg (show ¬ (l.length : Int) ≤ 4096 by omega), if_neg h]
/-- Those that began within some time. -/
def inTime (a b : Int) (l : List S89) : List S89 := l.filter fun x => decide (a ≤ x.f0) && decide (x.f0 ≤ b)
theorem spec_Projected_l0 (l : List S89) (hl : l.length ≤ 7) (a b : Int) : ∀ (d : Nat) (i : Int) (acc : List S89), 0 ≤ i → i + d = l.length → acc.length + d ≤ 7 → Ev (fun k => spec_Projected.l0 k l a b acc i) (acc ++ inTime a b (l.drop i.toNat), 0) := by
 intro d
 induction d with
 | zero =>
  intro i acc h0 h1 h2
  refine Ev.step (fun k => by rw [spec_Projected.l0]) ?_
  rw [List.drop_eq_nil_of_le (by omega)]
  simp only [if_neg (show ¬ i < (l.length : Int) by omega), inTime, List.filter_nil, List.append_nil]
  exact Ev.now _
 | succ d ih =>
  intro i acc h0 h1 h2
  refine Ev.step (fun k => by rw [spec_Projected.l0]) ?_
  have hi : i.toNat < l.length := by omega
  have hd : l.drop i.toNat = rd_T89 l i :: l.drop (i + 1).toNat := by
   rw [show (i + 1).toNat = i.toNat + 1 by omega, List.drop_eq_getElem_cons hi]
   congr 1
   show _ = l.getD i.toNat z89
   rw [List.getD_eq_getElem?_getD, List.getElem?_eq_getElem hi]
   rfl
  rw [hd]
  generalize rd_T89 l i = x at hd ⊢
  simp only [if_pos (show i < (l.length : Int) by omega), if_pos h0, wrap_up h0 (show i < (l.length : Int) by omega) (by omega : l.length ≤ 9223372036854775807), l01In_eq, Option.bind_some]
  cases hq : (decide (a ≤ x.f0) && decide (x.f0 ≤ b)) with
  | true =>
   simp only [if_true, if_pos (show acc.length < 3518437208883 by omega)]
   have := ih (i + 1) (acc ++ [x]) (by omega) (by omega) (by simp; omega)
   simp only [inTime, List.filter_cons, hq, if_true]
   rw [List.append_assoc] at this
   exact this
  | false =>
   simp only [Bool.false_eq_true, if_false]
   simp only [inTime, List.filter_cons, hq, Bool.false_eq_true, if_false]
   exact ih (i + 1) acc (by omega) (by omega) (by omega)
theorem Projected_rel (l : List S89) (a b : Int) : ∃ r, r.1.length ≤ 7 ∧ Ev (fun k => spec_Projected.f k l a b) r ∧ impl_Projected.f l a b = some r := by
 simp only [spec_Projected.f, impl_Projected.f, opsCode_eq, Option.bind_some]
 by_cases h : l.length ≤ 4096
 ·simp only [if_neg (show ¬ (l.length : Int) > 4096 by omega), if_pos h]
  have hok := spec_OpsOK_eq l
  by_cases h2 : l.length ≤ 7 ∧ l.all opOK = true
  ·have e : (decide (l.length ≤ 7) && l.all opOK) = true := by simpa using h2
   rw [e] at hok
   simp only [if_pos h2, if_true]
   have hk := keepO_total (p := fun x : S89 => (impl_within.f x.f0 a b).map (!·)) (q := fun x => !(decide (a ≤ x.f0) && decide (x.f0 ≤ b))) l (fun x _ => by simp only [within_eq', Option.map_some])
   have e2 : (l.filter fun x => !(!(decide (a ≤ x.f0) && decide (x.f0 ≤ b)))) = inTime a b l := by
    simp only [Bool.not_not]
    rfl
   rw [e2] at hk
   refine ⟨(inTime a b l, 0), Nat.le_trans (List.length_filter_le _ _) h2.1, Ev.bind hok ?_, ?_⟩
   ·simp only [if_true]
    have := spec_Projected_l0 l h2.1 a b l.length 0 [] (by omega) (by omega) (by simp; omega)
    simpa using this
   ·simp only [impl_Op_91.f, if_pos (show l.length < 3518437208883 by omega), Option.bind_some, hk, Option.map_some]
  ·have e : (decide (l.length ≤ 7) && l.all opOK) = false := by
    rw [Bool.eq_false_iff]
    simpa using h2
   rw [e] at hok
   refine ⟨([], 1), by simp, Ev.bind hok ?_, ?_⟩
   ·simp only [Bool.false_eq_true, if_false]
    exact Ev.now _
   ·simp only [if_neg h2]
    rfl
 ·simp only [if_pos (show (l.length : Int) > 4096 by omega), if_neg h]
  exact ⟨([], 2), by simp, Ev.now _, rfl⟩
end Go.Proofs.Ytmclmbhdgepjfaa.Pure

