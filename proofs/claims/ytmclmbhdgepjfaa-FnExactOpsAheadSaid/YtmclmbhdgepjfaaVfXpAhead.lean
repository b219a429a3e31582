import Derived.Test.YtmclmbhdgepjfaaVfQx0
import Derived.Test.YtmclmbhdgepjfaaVfQx38
import Derived.Test.YtmclmbhdgepjfaaVfQx39
import Derived.Test.YtmclmbhdgepjfaaVfXpOrder
namespace Go.Proofs.Ytmclmbhdgepjfaa.Pure
open Go.RowKit Go.Proofs.Ytmclmbhdgepjfaa.Q Go.Proofs.YtmclmbhdgepjfaaX Go.Proofs.YtmclmbhdgepjfaaW.PrintWords Go.Proofs.YtmclmbhdgepjfaaW.PrintLast
set_option linter.unusedVariables false
set_option linter.unusedSimpArgs false

def rowOf (ops : List S89) (a : S89) : List Bool := ops.map fun b => aheadB a b
def aheadM (ops : List S89) : List (List Bool) := ops.map fun a => rowOf ops a
theorem drop_rd' (ops : List S89) {i : Int} (h0 : 0 ≤ i) (hi : i < (ops.length : Int)) : ops.drop i.toNat = rd_T89 ops i :: ops.drop (i + 1).toNat := by
 rw [show (i + 1).toNat = i.toNat + 1 by omega, List.drop_eq_getElem_cons (show i.toNat < ops.length by omega)]
 congr 1
 show _ = ops.getD i.toNat z89
 rw [List.getD_eq_getElem?_getD, List.getElem?_eq_getElem (by omega)]
 rfl
theorem spec_OpsAhead_l1 (ops : List S89) (hn : ops.length ≤ 7) (out : List (List Bool)) (ho : out.length ≤ 7) (i : Int) (h0 : 0 ≤ i) (hi : i < ops.length) (r : List (List Bool) × Int) : ∀ (d : Nat) (j : Int) (row : List Bool), 0 ≤ j → j + d = ops.length → row.length + d ≤ 7 →
  Ev (fun k => spec_OpsAhead.l0 k ops (out ++ [row ++ rowOf (ops.drop j.toNat) (rd_T89 ops i)]) (i + 1)) r → Ev (fun k => spec_OpsAhead.l1 k ops out i row j) r := by
 intro d
 induction d with
 | zero =>
  intro j row h1 h2 h3 hr
  rw [List.drop_eq_nil_of_le (by omega)] at hr
  refine Ev.step (fun k => by rw [spec_OpsAhead.l1]) ?_
  simp only [if_neg (show ¬ j < (ops.length : Int) by omega), if_pos (show out.length < 5864062014805 by omega), wrap_up h0 hi (by omega)]
  simpa [rowOf] using hr
 | succ d ih =>
  intro j row h1 h2 h3 hr
  have hj : j < (ops.length : Int) := by omega
  refine Ev.step (fun k => by rw [spec_OpsAhead.l1]) ?_
  simp only [if_pos hj, if_pos h0, if_pos hi, if_pos h1, l14Ahead_eq, Option.bind_some, if_pos (show row.length < 140737488355328 by omega), wrap_up h1 hj (by omega)]
  refine ih (j + 1) _ (by omega) (by omega) (by simp; omega) ?_
  rw [drop_rd' ops h1 hj] at hr
  simpa [rowOf] using hr
theorem spec_OpsAhead_l0 (ops : List S89) (hn : ops.length ≤ 7) : ∀ (d : Nat) (i : Int) (out : List (List Bool)), 0 ≤ i → i + d = ops.length → out.length + d ≤ 7 → Ev (fun k => spec_OpsAhead.l0 k ops out i) (out ++ (ops.drop i.toNat).map (rowOf ops), 0) := by
 intro d
 induction d with
 | zero =>
  intro i out h0 h1 h2
  refine Ev.step (fun k => by rw [spec_OpsAhead.l0]) ?_
  rw [List.drop_eq_nil_of_le (by omega)]
  simp only [if_neg (show ¬ i < (ops.length : Int) by omega), List.map_nil, List.append_nil]
  exact Ev.now _
 | succ d ih =>
  intro i out h0 h1 h2
  have hi : i < (ops.length : Int) := by omega
  refine Ev.step (fun k => by rw [spec_OpsAhead.l0]) ?_
  simp only [if_pos hi]
  refine spec_OpsAhead_l1 ops hn out (by omega) i h0 hi _ ops.length 0 [] (by omega) (by omega) (by simp; omega) ?_
  have := ih (i + 1) (out ++ [rowOf ops (rd_T89 ops i)]) (by omega) (by omega) (by simp; omega)
  rw [drop_rd' ops h0 hi]
  simpa using this
theorem impl_OpsAhead_l1 (ops : List S89) (hn : ops.length ≤ 7) (out : List (List Bool)) (ho : out.length ≤ 7) (i : Int) (h0 : 0 ≤ i) (hi : i < ops.length) (x : S89) (r : List (List Bool) × Int) : ∀ (d : Nat) (j : Int) (row : List Bool), 0 ≤ j → j + d = ops.length → row.length + d ≤ 7 →
  Ev (fun k => impl_OpsAhead.l0 k ops (out ++ [row ++ rowOf (ops.drop j.toNat) x]) ops (ops.length : Int) (i + 1)) r → Ev (fun k => impl_OpsAhead.l1 k ops out row ops (ops.length : Int) i ops (ops.length : Int) j x.f0 x.f1 x.f2 x.f3) r := by
 intro d
 induction d with
 | zero =>
  intro j row h1 h2 h3 hr
  rw [List.drop_eq_nil_of_le (by omega)] at hr
  refine Ev.step (fun k => by rw [impl_OpsAhead.l1]) ?_
  simp only [if_neg (show ¬ j < (ops.length : Int) by omega), if_pos (show out.length < 5864062014805 by omega), wrap_up h0 hi (by omega)]
  simpa [rowOf] using hr
 | succ d ih =>
  intro j row h1 h2 h3 hr
  have hj : j < (ops.length : Int) := by omega
  refine Ev.step (fun k => by rw [impl_OpsAhead.l1]) ?_
  simp only [if_pos hj, if_pos h1, isAhead_eq, Option.bind_some, if_pos (show row.length < 140737488355328 by omega), wrap_up h1 hj (by omega)]
  refine ih (j + 1) _ (by omega) (by omega) (by simp; omega) ?_
  rw [drop_rd' ops h1 hj] at hr
  simpa [rowOf] using hr
theorem impl_OpsAhead_l0 (ops : List S89) (hn : ops.length ≤ 7) : ∀ (d : Nat) (i : Int) (out : List (List Bool)), 0 ≤ i → i + d = ops.length → out.length + d ≤ 7 → Ev (fun k => impl_OpsAhead.l0 k ops out ops (ops.length : Int) i) (out ++ (ops.drop i.toNat).map (rowOf ops), 0) := by
 intro d
 induction d with
 | zero =>
  intro i out h0 h1 h2
  refine Ev.step (fun k => by rw [impl_OpsAhead.l0]) ?_
  rw [List.drop_eq_nil_of_le (by omega)]
  simp only [if_neg (show ¬ i < (ops.length : Int) by omega), List.map_nil, List.append_nil]
  exact Ev.now _
 | succ d ih =>
  intro i out h0 h1 h2
  have hi : i < (ops.length : Int) := by omega
  refine Ev.step (fun k => by rw [impl_OpsAhead.l0]) ?_
  simp only [if_pos hi, if_pos h0]
  refine impl_OpsAhead_l1 ops hn out (by omega) i h0 hi (rd_T89 ops i) _ ops.length 0 [] (by omega) (by omega) (by simp; omega) ?_
  have := ih (i + 1) (out ++ [rowOf ops (rd_T89 ops i)]) (by omega) (by omega) (by simp; omega)
  rw [drop_rd' ops h0 hi]
  simpa using this
/-- What OpsAhead tells. -/
theorem OpsAhead_rel (l : List S89) : ∃ r, Ev (fun k => spec_OpsAhead.f k l) r ∧ Ev (fun k => impl_OpsAhead.f k l) r ∧ (l.length ≤ 7 → l.all opOK = true → r = (aheadM l, 0)) ∧ (r = (aheadM l, 0) ∧ l.length ≤ 7 ∨ r.1 = []) := by
 simp only [spec_OpsAhead.f, impl_OpsAhead.f, opsCode_eq, Option.bind_some]
 by_cases h : l.length ≤ 4096
 ·simp only [if_neg (show ¬ (l.length : Int) > 4096 by omega), if_pos h]
  have hok := spec_OpsOK_eq l
  by_cases h2 : l.length ≤ 7 ∧ l.all opOK = true
  ·have e : (decide (l.length ≤ 7) && l.all opOK) = true := by simpa using h2
   rw [e] at hok
   simp only [if_pos h2, if_true]
   have h3 := spec_OpsAhead_l0 l h2.1 l.length 0 [] (by omega) (by omega) (by simp; omega)
   have h4 := impl_OpsAhead_l0 l h2.1 l.length 0 [] (by omega) (by omega) (by simp; omega)
   refine ⟨(aheadM l, 0), Ev.bind hok ?_, ?_, fun _ _ => rfl, .inl ⟨rfl, h2.1⟩⟩
   ·simp only [if_true]
    simpa [aheadM] using h3
   ·simpa [aheadM] using h4
  ·have e : (decide (l.length ≤ 7) && l.all opOK) = false := by
    rw [Bool.eq_false_iff]
    simpa using h2
   rw [e] at hok
   refine ⟨([], 1), Ev.bind hok ?_, ?_, fun h3 h4 => absurd ⟨h3, h4⟩ h2, .inr rfl⟩
   ·simp only [Bool.false_eq_true, if_false]
    exact Ev.now _
   ·simp only [if_neg h2, if_neg (show ¬ (1 : Int) = 0 by decide)]
    exact Ev.now _
 ·simp only [if_pos (show (l.length : Int) > 4096 by omega), if_neg h, if_neg (show ¬ (2 : Int) = 0 by decide)]
  exact ⟨([], 2), Ev.now _, Ev.now _, fun h3 => by omega, .inr rfl⟩
theorem aheadM_length (l : List S89) : (aheadM l).length = l.length := by simp [aheadM]
theorem rowOf_length (l : List S89) (a : S89) : (rowOf l a).length = l.length := by simp [rowOf]
end Go.Proofs.Ytmclmbhdgepjfaa.Pure

