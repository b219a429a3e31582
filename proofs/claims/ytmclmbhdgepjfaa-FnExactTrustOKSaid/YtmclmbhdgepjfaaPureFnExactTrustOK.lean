/-
  For every argument the law FnExactTrustOK returns true: the program's TrustOK answers as the reference's.
  No condition but what the row itself says of its arguments.
-/
import Derived.Test.YtmclmbhdgepjfaaSFnExactTrustOK
import Derived.Test.YtmclmbhdgepjfaaXPure
namespace Go.Proofs.Ytmclmbhdgepjfaa.Pure
open Go.RowKit Go.Proofs.Ytmclmbhdgepjfaa.Q Go.Proofs.YtmclmbhdgepjfaaX Go.Proofs.YtmclmbhdgepjfaaW.PrintWords Go.Proofs.YtmclmbhdgepjfaaW.PrintLast
set_option linter.unusedVariables false

theorem isHash_eq (l : List ByteArray) : impl_isHash.f l = some (l.all fun s => s.size == 32) := by
  unfold impl_isHash.f impl_isHash_1_any.f
  rw [anyO_total (p := fun x => impl_isHash_1.f x) (q := fun s => ((s.size : Int) != 32)) l (fun x _ => rfl)]
  simp only [Option.bind_some]
  congr 1
  induction l with
  | nil => rfl
  | cons x xs ih =>
    simp only [List.any_cons, List.all_cons, Bool.not_or, ih]
    congr 1
    rw [Bool.eq_iff_iff]
    simp
    omega

theorem within_eq (a b c : Int) : impl_within.f a b c = spec_l01In.f a b c := rfl

theorem statementOK_eq (n : Int) (a b : ByteArray) : impl_statementOK.f n a b = spec_l15Statement.f n a b := by
  unfold impl_statementOK.f spec_l15Statement.f
  rw [within_eq, isHash_eq]
  congr 1
  funext t
  simp only [Option.bind_some, List.all_cons, List.all_nil, Bool.and_true]
  split
  · by_cases h : a.size = 32
    · rw [if_pos (by omega)]
      simp [h]
      rw [Bool.eq_iff_iff]
      simp
      omega
    · rw [if_neg (by omega)]
      simp [h]
  · rfl

theorem TrustOK_eq (k : ByteArray) (h : Bool) (n : Int) (a b : ByteArray) : impl_TrustOK.f k h n a b = spec_TrustOK.f k h n a b := by
  unfold impl_TrustOK.f spec_TrustOK.f impl_Trust_last.f
  rw [isHash_eq]
  simp only [Option.bind_some, List.all_cons, List.all_nil, Bool.and_true]
  by_cases hk : k.size = 32
  · rw [show (k.size == 32) = true by simp [hk], if_pos rfl, if_pos (show (k.size : Int) = 32 by omega)]
    cases h with
    | true =>
      simp only [if_true]
      rw [statementOK_eq]
    | false =>
      simp only [Bool.false_eq_true, if_false]
      by_cases hn : n = 0
      · subst hn
        by_cases ha : a.toList = []
        · simp [ha]
        · simp [ha]
      · simp [hn]
  · rw [show (k.size == 32) = false by simp [hk], if_neg (by decide), if_neg (show ¬ (k.size : Int) = 32 by omega)]

theorem spec_TrustOK_some (k : ByteArray) (h : Bool) (n : Int) (a b : ByteArray) : ∃ t, spec_TrustOK.f k h n a b = some t := by
  unfold spec_TrustOK.f spec_l15Statement.f spec_l01In.f
  repeat' (first | exact ⟨_, rfl⟩ | split)
  all_goals simp only [Option.bind_some]
  all_goals repeat' (first | exact ⟨_, rfl⟩ | split)

theorem FnExactTrustOK : Go.Proofs.Ytmclmbhdgepjfaa.SFnExactTrustOK.Pure := by
  intro k h n a b _ _ _ _
  unfold laws_FnExactTrustOK.f laws_szTrust.f laws_toTrust.f
  obtain ⟨t, ht⟩ := spec_TrustOK_some k h n a b
  have hi := (TrustOK_eq k h n a b).trans ht
  repeat' split
  all_goals simp only [Option.bind_some, ht, hi]
  all_goals repeat' split
  all_goals first | rfl | simp_all

end Go.Proofs.Ytmclmbhdgepjfaa.Pure
