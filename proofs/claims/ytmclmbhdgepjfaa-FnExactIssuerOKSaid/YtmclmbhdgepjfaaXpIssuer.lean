/-
  What is a hash, what is a text: the program's answers, told plainly.
  Own text of this seat (a session's); Ytmclmbhdgepjfaa stands for the seat's name.
-/
import Derived.Test.YtmclmbhdgepjfaaQx0
import Derived.Test.YtmclmbhdgepjfaaQx2
import Derived.Test.YtmclmbhdgepjfaaQx3
import Derived.Test.YtmclmbhdgepjfaaQx8
import Derived.Test.YtmclmbhdgepjfaaXPure
namespace Go.Proofs.Ytmclmbhdgepjfaa.Pure
open Go.RowKit Go.Proofs.Ytmclmbhdgepjfaa.Q Go.Proofs.YtmclmbhdgepjfaaX Go.Proofs.YtmclmbhdgepjfaaW.PrintWords Go.Proofs.YtmclmbhdgepjfaaW.PrintLast
set_option linter.unusedVariables false
set_option linter.unusedSimpArgs false
theorem l01In_eq (a b c : Int) : spec_l01In.f a b c = some (decide (b ≤ a) && decide (a ≤ c)) := by
  unfold spec_l01In.f
  by_cases h : b ≤ a
  · rw [if_pos h]; simp [h]
  · rw [if_neg h]; simp [h]
theorem within_eq' (a b c : Int) : impl_within.f a b c = some (decide (b ≤ a) && decide (a ≤ c)) := l01In_eq a b c
theorem isHash_eq (l : List ByteArray) : impl_isHash.f l = some (l.all fun s => s.size == 32) := by
  unfold impl_isHash.f impl_isHash_1_any.f
  rw [anyO_total (p := fun x => impl_isHash_1.f x) (q := fun s => ((s.size : Int) != 32)) l (fun x _ => rfl)]
  simp only [Option.bind_some]
  congr 1
  induction l with
  | nil => rfl
  | cons x xs ih =>
    simp only [List.any_cons, List.all_cons, Bool.not_or, ih]
    congr 1
    rw [Bool.eq_iff_iff]
    simp
    omega
theorem isText_eq (l : List ByteArray) : impl_isText.f l = some (l.all fun s => decide (s.size ≤ 65536)) := by
  unfold impl_isText.f impl_isText_1_any.f
  rw [anyO_total (p := fun x => impl_isText_1.f x) (q := fun s => decide ((s.size : Int) > 65536)) l (fun x _ => rfl)]
  simp only [Option.bind_some]
  congr 1
  induction l with
  | nil => rfl
  | cons x xs ih =>
    simp only [List.any_cons, List.all_cons, Bool.not_or, ih]
    congr 1
    rw [Bool.eq_iff_iff]
    simp
    omega
theorem statementOK_eq (n : Int) (a b : ByteArray) : impl_statementOK.f n a b = spec_l15Statement.f n a b := by
  unfold impl_statementOK.f spec_l15Statement.f
  rw [within_eq', ← l01In_eq, isHash_eq]
  congr 1
  funext t
  simp only [Option.bind_some, List.all_cons, List.all_nil, Bool.and_true]
  split
  · by_cases h : a.size = 32
    · rw [if_pos (by omega)]
      simp [h]
      rw [Bool.eq_iff_iff]
      simp
      omega
    · rw [if_neg (by omega)]
      simp [h]
  · rfl
theorem l15Statement_some (n : Int) (a b : ByteArray) : ∃ t, spec_l15Statement.f n a b = some t := by
  unfold spec_l15Statement.f
  rw [l01In_eq]
  simp only [Option.bind_some]
  repeat' (first | exact ⟨_, rfl⟩ | split)
end Go.Proofs.Ytmclmbhdgepjfaa.Pure
