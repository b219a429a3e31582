import Derived.Test.YtmclmbhdgepjfaaVcQx0
import Derived.Test.YtmclmbhdgepjfaaVcQx37
import Derived.Test.YtmclmbhdgepjfaaVcQx39
import Derived.Test.YtmclmbhdgepjfaaVcQx41
import Derived.Test.YtmclmbhdgepjfaaVcQx44
import Derived.Test.YtmclmbhdgepjfaaVcQx32
import Derived.Test.YtmclmbhdgepjfaaVcQx4
import Derived.Test.YtmclmbhdgepjfaaVcXpActs
namespace Go.Proofs.Ytmclmbhdgepjfaa.Pure
open Go.RowKit Go.Proofs.Ytmclmbhdgepjfaa.Q Go.Proofs.YtmclmbhdgepjfaaX Go.Proofs.YtmclmbhdgepjfaaW.PrintWords Go.Proofs.YtmclmbhdgepjfaaW.PrintLast
set_option linter.unusedVariables false
set_option linter.unusedSimpArgs false
set_option linter.unusedSectionVars false

theorem bytes_ext' {a b : ByteArray} (h : a.toList = b.toList) : a = b := by
 rw [ByteArray.toList_eq, ByteArray.toList_eq] at h
 obtain ⟨⟨l⟩⟩ := a
 obtain ⟨⟨m⟩⟩ := b
 simp at h
 subst h
 rfl
/-- One list holds a number. -/
def has (l : List Int) (v : Int) : Bool := l.any fun x => x == v
theorem spec_l10Has_l0 (l : List Int) (v : Int) (h : l.length ≤ 9223372036854775806) : ∀ (d : Nat) (i : Int), 0 ≤ i → i + d = l.length → Ev (fun k => spec_l10Has.l0 k l v i) (has (l.drop i.toNat) v) := by
 intro d
 induction d with
 | zero =>
  intro i h0 h1
  refine Ev.step (fun k => by rw [spec_l10Has.l0]) ?_
  rw [List.drop_eq_nil_of_le (by omega)]
  simp only [if_neg (show ¬ i < (l.length : Int) by omega)]
  exact Ev.now _
 | succ d ih =>
  intro i h0 h1
  have hi : i.toNat < l.length := by omega
  refine Ev.step (fun k => by rw [spec_l10Has.l0]) ?_
  have hd : l.drop i.toNat = l[i.toNat] :: l.drop (i + 1).toNat := by
   rw [List.drop_eq_getElem_cons hi, show (i + 1).toNat = i.toNat + 1 by omega]
  have hr : rd l i = l[i.toNat] := by
   show l.getD i.toNat 0 = _
   rw [List.getD_eq_getElem?_getD, List.getElem?_eq_getElem hi]; rfl
  rw [hd]
  simp only [if_pos (show i < (l.length : Int) by omega), if_pos h0, hr, wrap_up h0 (show i < (l.length : Int) by omega) (by omega)]
  by_cases hq : l[i.toNat] = v
  ·simp only [if_pos hq]
   have : has (l[i.toNat] :: l.drop (i + 1).toNat) v = true := by simp [has, hq]
   rw [this]
   exact Ev.now _
  ·simp only [if_neg hq]
   have : has (l[i.toNat] :: l.drop (i + 1).toNat) v = has (l.drop (i + 1).toNat) v := by simp [has, hq]
   rw [this]
   exact ih (i + 1) (by omega) (by omega)
theorem spec_l10Has_ev (l : List Int) (v : Int) (h : l.length ≤ 9223372036854775806) : Ev (fun k => spec_l10Has.f k l v) (has l v) := by
 exact spec_l10Has_l0 l v h l.length 0 (by omega) (by omega)
theorem slices_Index_l0 (l : List Int) (v : Int) (h : l.length ≤ 9223372036854775806) : ∀ (d : Nat) (i : Int), 0 ≤ i → i + d = l.length → ∃ r, ((0 ≤ r) ↔ has (l.drop i.toNat) v = true) ∧ Ev (fun k => slices_Index_int_int.l0 k l v (l.length : Int) i) r := by
 intro d
 induction d with
 | zero =>
  intro i h0 h1
  refine ⟨-1, ?_, Ev.step (fun k => by rw [slices_Index_int_int.l0]) ?_⟩
  ·rw [List.drop_eq_nil_of_le (by omega)]
   simp [has]
  ·simp only [if_neg (show ¬ i < (l.length : Int) by omega)]
   exact Ev.now _
 | succ d ih =>
  intro i h0 h1
  have hi : i.toNat < l.length := by omega
  have hd : l.drop i.toNat = l[i.toNat] :: l.drop (i + 1).toNat := by
   rw [List.drop_eq_getElem_cons hi, show (i + 1).toNat = i.toNat + 1 by omega]
  have hr : rd l i = l[i.toNat] := by
   show l.getD i.toNat 0 = _
   rw [List.getD_eq_getElem?_getD, List.getElem?_eq_getElem hi]; rfl
  rw [hd]
  by_cases hq : v = l[i.toNat]
  ·refine ⟨i, ?_, Ev.step (fun k => by rw [slices_Index_int_int.l0]) ?_⟩
   ·simp [has, hq, h0]
   ·simp only [if_pos (show i < (l.length : Int) by omega), if_pos h0, hr, if_pos hq]
    exact Ev.now _
  ·obtain ⟨r, h2, h3⟩ := ih (i + 1) (by omega) (by omega)
   refine ⟨r, ?_, Ev.step (fun k => by rw [slices_Index_int_int.l0]) ?_⟩
   ·rw [h2]
    simp [has, Ne.symm hq]
   ·simp only [if_pos (show i < (l.length : Int) by omega), if_pos h0, hr, if_neg hq, wrap_up h0 (show i < (l.length : Int) by omega) (by omega)]
    exact h3
theorem slices_Contains_ev (l : List Int) (v : Int) (h : l.length ≤ 9223372036854775806) : Ev (fun k => slices_Contains_int_int.f k l v) (has l v) := by
 obtain ⟨r, h1, h2⟩ := slices_Index_l0 l v h l.length 0 (by omega) (by omega)
 simp only [slices_Contains_int_int.f, slices_Index_int_int.f]
 refine Ev.bind h2 ?_
 have : decide (r ≥ 0) = has l v := by
  rw [Bool.eq_iff_iff, decide_eq_true_iff]
  exact h1
 rw [this]
 exact Ev.now _
/-- How many of the places below n no list holds. -/
def free (n : Nat) (l : List Int) : Nat := ((List.range n).filter fun j : Nat => !has l (j : Int)).length
/-- One act has ended before the other one begins. -/
def aheadB (a b : S89) : Bool := decide (a.f1 ≥ 0) && decide (a.f1 < b.f0)
theorem isAhead_eq (a b : S89) : impl_Op_isAhead.f a.f0 a.f1 a.f2 a.f3 b.f0 b.f1 b.f2 b.f3 = some (aheadB a b) := by
 unfold impl_Op_isAhead.f impl_Op_hasEnded.f aheadB
 simp only [Option.bind_some]
 by_cases h : a.f1 ≥ 0
 ·simp [h]
 ·simp [h]
theorem l14Ahead_eq (a b : S89) : spec_l14Ahead.f a.f0 a.f1 a.f2 a.f3 b.f0 b.f1 b.f2 b.f3 = some (aheadB a b) := by
 unfold spec_l14Ahead.f aheadB
 by_cases h : a.f1 ≥ 0
 ·simp [h]
 ·simp [h]
section
variable (ops : List S89) (hops : ops.all opOK = true) (hn : ops.length ≤ 7)
include hops hn
end
end Go.Proofs.Ytmclmbhdgepjfaa.Pure

