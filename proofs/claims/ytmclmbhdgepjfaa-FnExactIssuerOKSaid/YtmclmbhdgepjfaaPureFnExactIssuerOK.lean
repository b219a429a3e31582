/-
  For every argument the law FnExactIssuerOK returns true: the program's IssuerOK answers as the reference's.
  No condition but what the row itself says of its arguments.
-/
import Derived.Test.YtmclmbhdgepjfaaSFnExactIssuerOK
import Derived.Test.YtmclmbhdgepjfaaFamFnExactIssuerOK
import Derived.Test.YtmclmbhdgepjfaaXpIssuer
namespace Go.Proofs.Ytmclmbhdgepjfaa.Pure
open Go.RowKit Go.Proofs.Ytmclmbhdgepjfaa.Q Go.Proofs.YtmclmbhdgepjfaaX Go.Proofs.Ytmclmbhdgepjfaa.FamFnExactIssuerOK Go.Proofs.YtmclmbhdgepjfaaW.PrintWords Go.Proofs.YtmclmbhdgepjfaaW.PrintLast
set_option linter.unusedVariables false
set_option linter.unusedSimpArgs false

/-- What both loops answer: from place i on each flag tells whether the place is below the count; behind them the last statement is asked. -/
theorem loops_eq (s : ByteArray) (l : List Bool) (hl : l.length = 4) (n : Int) (a b : ByteArray) (h : Bool) (c : Int) : ∀ (d : Nat) (i : Int), 0 ≤ i → i + d = 4 →
    ∃ t, Ev (fun k => spec_IssuerOK.l0 k i s l n a b h c) t ∧ Ev (fun k => impl_IssuerOK.l0 k l (l.length : Int) i s l n a b h c) t := by
  intro d
  induction d with
  | zero =>
    intro i h0 h1
    cases h with
    | true =>
      obtain ⟨t, ht⟩ := l15Statement_some n a b
      refine ⟨t, Ev.step (fun k => by rw [spec_IssuerOK.l0]) ?_, Ev.step (fun k => by rw [impl_IssuerOK.l0]) ?_⟩
      · simp only [if_neg (show ¬ i < 4 by omega), if_true, ht, Option.bind_some]
        exact Ev.now _
      · simp only [if_neg (show ¬ i < (l.length : Int) by omega), if_true, statementOK_eq, ht, Option.bind_some]
        exact Ev.now _
    | false =>
      refine ⟨(n == 0 && (a.toList == ([] : List UInt8) && (b.toList == ([] : List UInt8)))), Ev.step (fun k => by rw [spec_IssuerOK.l0]) ?_, Ev.step (fun k => by rw [impl_IssuerOK.l0]) ?_⟩
      · simp only [if_neg (show ¬ i < 4 by omega), Bool.false_eq_true, if_false]
        exact Ev.now _
      · simp only [if_neg (show ¬ i < (l.length : Int) by omega), Bool.false_eq_true, if_false]
        exact Ev.now _
  | succ d ih =>
    intro i h0 h1
    obtain ⟨t, h2, h3⟩ := ih (i + 1) (by omega) (by omega)
    have hw : wrap64 (i + 1) = i + 1 := by unfold wrap64; omega
    cases hq : (rdOf false l i != decide (i < c)) with
    | true =>
      refine ⟨false, Ev.step (fun k => by rw [spec_IssuerOK.l0]) ?_, Ev.step (fun k => by rw [impl_IssuerOK.l0]) ?_⟩
      · simp only [if_pos (show i < 4 by omega), if_pos h0, if_pos (show i < (l.length : Int) by omega), hq, if_true]
        exact Ev.now _
      · simp only [if_pos h0, if_pos (show i < (l.length : Int) by omega), hq, if_true]
        exact Ev.now _
    | false =>
      refine ⟨t, Ev.step (fun k => by rw [spec_IssuerOK.l0]) ?_, Ev.step (fun k => by rw [impl_IssuerOK.l0]) ?_⟩
      · simp only [if_pos (show i < 4 by omega), if_pos h0, if_pos (show i < (l.length : Int) by omega), hq, Bool.false_eq_true, if_false, hw]
        exact h2
      · simp only [if_pos h0, if_pos (show i < (l.length : Int) by omega), hq, Bool.false_eq_true, if_false, hw]
        exact h3

theorem SignerOK_eq (s : ByteArray) (l : List Bool) : spec_SignerOK.f s l = some (decide (s.size = 32) && decide (l.length = 4)) ∧ impl_SignerOK.f s l = some (decide (s.size = 32) && decide (l.length = 4)) := by
  unfold spec_SignerOK.f impl_SignerOK.f
  simp only [isHash_eq, Option.bind_some, List.all_cons, List.all_nil, Bool.and_true]
  have e : ((l.length : Int) == 4) = decide (l.length = 4) := by
    rw [Bool.eq_iff_iff]
    simp
    omega
  by_cases h : s.size = 32
  · rw [if_pos (show (s.size : Int) = 32 by omega), e]
    simp [h]
  · rw [if_neg (show ¬ (s.size : Int) = 32 by omega)]
    simp [h]

theorem IssuerOK_eq (s : ByteArray) (l : List Bool) (n : Int) (a b : ByteArray) (h : Bool) (c : Int) : ∃ t, Ev (fun k => spec_IssuerOK.f k s l n a b h c) t ∧ Ev (fun k => impl_IssuerOK.f k s l n a b h c) t := by
  unfold spec_IssuerOK.f impl_IssuerOK.f
  simp only [(SignerOK_eq s l).1, (SignerOK_eq s l).2, Option.bind_some, l01In_eq, within_eq']
  have hno : ∀ t : Bool, t = true → (Ev (fun k => spec_IssuerOK.j0 k t s l n a b h c) false ∧ Ev (fun k => impl_IssuerOK.j0 k t s l n a b h c) false) := by
    rintro t rfl
    refine ⟨Ev.step (fun k => by rw [spec_IssuerOK.j0]) ?_, Ev.step (fun k => by rw [impl_IssuerOK.j0]) ?_⟩ <;> simp only [if_true] <;> exact Ev.now _
  cases hs : (decide (s.size = 32) && decide (l.length = 4)) with
  | false =>
    simp only [Bool.false_eq_true, if_false]
    exact ⟨false, (hno true rfl).1, (hno true rfl).2⟩
  | true =>
    simp only [if_true]
    cases hc : (decide (0 ≤ c) && decide (c ≤ 4)) with
    | false =>
      simp only [Bool.false_eq_true, if_false]
      exact ⟨false, (hno true rfl).1, (hno true rfl).2⟩
    | true =>
      simp only [if_true]
      cases hq : (h != decide (c > 0)) with
      | true => exact ⟨false, (hno true rfl).1, (hno true rfl).2⟩
      | false =>
        obtain ⟨t, h1, h2⟩ := loops_eq s l (by simp at hs; exact hs.2) n a b h c 4 0 (by omega) (by omega)
        refine ⟨t, Ev.step (fun k => by rw [spec_IssuerOK.j0]) ?_, Ev.step (fun k => by rw [impl_IssuerOK.j0]) ?_⟩
        · simp only [Bool.false_eq_true, if_false]
          exact h1
        · simp only [Bool.false_eq_true, if_false]
          exact h2

theorem FnExactIssuerOK : Go.Proofs.Ytmclmbhdgepjfaa.SFnExactIssuerOK.Pure := by
  intro s l n a b h c hs ⟨hl, hl2, _⟩ hn ha hb hc
  refine Ev.rounds ?_
  unfold laws_FnExactIssuerOK.f
  obtain ⟨r, _, hr⟩ := laws_szIssuer_ok s l n a b h c hs (by omega) ha hb (e := 1048576) (by omega) (by omega)
  simp only [hr, Option.bind_some]
  by_cases hneg : r < 0
  · simp only [if_pos hneg]
    exact Ev.now _
  · simp only [if_neg hneg]
    have ht := laws_toIssuer_ok s l n a b h c (by omega) (by omega)
    obtain ⟨t, h1, h2⟩ := IssuerOK_eq s l n a b h c
    refine Ev.bind ht (Ev.bind h1 (Ev.bind ht (Ev.bind h2 ?_)))
    simp only [bne_self_eq_false, Bool.false_eq_true, if_false]
    refine Ev.bind ht (Ev.bind (laws_eqIssuer_refl s l n a b h c (by omega)) ?_)
    simp only [if_true]
    exact Ev.now _
end Go.Proofs.Ytmclmbhdgepjfaa.Pure
