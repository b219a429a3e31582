import Derived.Test.YtmclmbhdgepjfaaVbQx0
import Derived.Test.YtmclmbhdgepjfaaVbQx2
import Derived.Test.YtmclmbhdgepjfaaVbQx26
import Derived.Test.YtmclmbhdgepjfaaVbQx28
import Derived.Test.YtmclmbhdgepjfaaVbQx29
import Derived.Test.YtmclmbhdgepjfaaVbXpBytes
namespace Go.Proofs.Ytmclmbhdgepjfaa.Pure
open Go.RowKit Go.Proofs.Ytmclmbhdgepjfaa.Q Go.Proofs.YtmclmbhdgepjfaaX Go.Proofs.YtmclmbhdgepjfaaW.PrintWords Go.Proofs.YtmclmbhdgepjfaaW.PrintLast
set_option linter.unusedVariables false
set_option linter.unusedSimpArgs false

def allFrom (p : Int → Bool) : Nat → Int → Bool
 | 0, _ => true
 | d + 1, i => p i && allFrom p d (i + 1)
theorem allFrom_iff (p : Int → Bool) : ∀ (d : Nat) (i : Int), allFrom p d i = true ↔ ∀ j, i ≤ j → j < i + d → p j = true
 | 0, i => by
  simp only [allFrom, true_iff]
  intro j h1 h2
  omega
 | d + 1, i => by
  simp only [allFrom, Bool.and_eq_true, allFrom_iff p d (i + 1)]
  constructor
  ·rintro ⟨h1, h2⟩ j h3 h4
   by_cases h : j = i
   ·rw [h]; exact h1
   ·exact h2 j (by omega) (by omega)
  ·intro h
   exact ⟨h i (by omega) (by omega), fun j h1 h2 => h j (by omega) (by omega)⟩
theorem bt_range (s : ByteArray) (i : Int) : 0 ≤ bt s i ∧ bt s i < 256 := by
 unfold bt
 split
 ·rename_i h
  have := (s[i.toNat]'h).toNat_lt
  omega
 ·omega
theorem bt_wrap (s : ByteArray) (i : Int) : wrap64 (bt s i) = bt s i := by
 have := bt_range s i
 unfold wrap64
 omega
/-- One place of the members' text. -/
def placeOK (s : ByteArray) (i : Int) : Bool := (decide (0 ≤ bt s i) && decide (bt s i ≤ 6)) && (decide (i ≤ 0) || decide (bt s (i - 1) < bt s i))
theorem mem_l01In_eq (a b c : Int) : spec_l01In.f a b c = some (decide (b ≤ a) && decide (a ≤ c)) := by
 unfold spec_l01In.f
 by_cases h : b ≤ a
 ·rw [if_pos h]; simp [h]
 ·rw [if_neg h]; simp [h]
theorem mem_within_eq (a b c : Int) : impl_within.f a b c = some (decide (b ≤ a) && decide (a ≤ c)) := mem_l01In_eq a b c
theorem spec_l02Members_l0 (s : ByteArray) (hs : s.size ≤ 65536) : ∀ (d : Nat) (i : Int) (acc : List Int), 0 ≤ i → i + d = s.size → (acc.length : Int) = i → ∃ l, Ev (fun k => spec_l02Members.l0 k s acc i) (l, allFrom (placeOK s) d i && decide (0 < s.size)) := by
 intro d
 induction d with
 | zero =>
  intro i acc h0 h1 h2
  refine ⟨acc, Ev.step (fun k => by rw [spec_l02Members.l0]) ?_⟩
  have e : (decide ((acc.length : Int) > 0)) = (allFrom (placeOK s) 0 i && decide (0 < s.size)) := by
   rw [Bool.eq_iff_iff]
   simp [allFrom]
   omega
  simp only [if_neg (show ¬ i < (s.size : Int) by omega), e]
  exact Ev.now _
 | succ d ih =>
  intro i acc h0 h1 h2
  have hi : i < (s.size : Int) := by omega
  have hw := wrap_up h0 hi (by omega)
  have hw2 : wrap64 (i - 1) = i - 1 := by unfold wrap64; omega
  obtain ⟨l, h3⟩ := ih (i + 1) (acc ++ [bt s i]) (by omega) (by omega) (by simp; omega)
  cases hq : (decide (0 ≤ bt s i) && decide (bt s i ≤ 6)) with
  | false =>
   refine ⟨[], Ev.step (fun k => by rw [spec_l02Members.l0]) ?_⟩
   have e : (allFrom (placeOK s) (d + 1) i && decide (0 < s.size)) = false := by simp [allFrom, placeOK, hq]
   rw [e]
   simp only [if_pos hi, if_pos h0, bt_wrap, mem_l01In_eq, hq, Option.bind_some, Bool.false_eq_true, if_false]
   exact Ev.now _
  | true =>
   by_cases hpos : i > 0
   ·by_cases hr : bt s (i - 1) ≥ bt s i
    ·refine ⟨[], Ev.step (fun k => by rw [spec_l02Members.l0]) ?_⟩
     have e : (allFrom (placeOK s) (d + 1) i && decide (0 < s.size)) = false := by
      have h4 : placeOK s i = false := by simp [placeOK, hq]; omega
      simp [allFrom, h4]
     rw [e]
     simp only [if_pos hi, if_pos h0, bt_wrap, mem_l01In_eq, hq, Option.bind_some, if_true, if_pos hpos, hw2, if_pos (show 0 ≤ i - 1 by omega), if_pos (show i - 1 < (s.size : Int) by omega), if_pos hr]
     exact Ev.now _
    ·refine ⟨l, Ev.step (fun k => by rw [spec_l02Members.l0]) ?_⟩
     have e : allFrom (placeOK s) (d + 1) i = allFrom (placeOK s) d (i + 1) := by
      have h4 : placeOK s i = true := by simp [placeOK, hq]; omega
      simp [allFrom, h4]
     rw [e]
     simp only [if_pos hi, if_pos h0, bt_wrap, mem_l01In_eq, hq, Option.bind_some, if_true, if_pos hpos, hw2, if_pos (show 0 ≤ i - 1 by omega), if_pos (show i - 1 < (s.size : Int) by omega), if_neg hr, if_pos (show acc.length < 17592186044416 by omega), hw]
     exact h3
   ·refine ⟨l, Ev.step (fun k => by rw [spec_l02Members.l0]) ?_⟩
    have e : allFrom (placeOK s) (d + 1) i = allFrom (placeOK s) d (i + 1) := by
     have h4 : placeOK s i = true := by simp [placeOK, hq]; omega
     simp [allFrom, h4]
    rw [e]
    simp only [if_pos hi, if_pos h0, bt_wrap, mem_l01In_eq, hq, Option.bind_some, if_true, if_neg hpos, if_pos (show acc.length < 17592186044416 by omega), hw]
    exact h3
def riseOK (l : List Int) (i : Int) : Bool := decide (rd l (i - 1) < rd l i)
theorem areRising_l0 (l : List Int) (hl : l.length ≤ 65536) : ∀ (d : Nat) (i : Int), 1 ≤ i → i + d = l.length → Ev (fun k => impl_areRising.l0 k l i) (allFrom (riseOK l) d i) := by
 intro d
 induction d with
 | zero =>
  intro i h0 h1
  refine Ev.step (fun k => by rw [impl_areRising.l0]) ?_
  simp only [if_neg (show ¬ i < (l.length : Int) by omega)]
  exact Ev.now _
 | succ d ih =>
  intro i h0 h1
  have hi : i < (l.length : Int) := by omega
  have hw := wrap_up (show 0 ≤ i by omega) hi (by omega)
  have hw2 : wrap64 (i - 1) = i - 1 := by unfold wrap64; omega
  refine Ev.step (fun k => by rw [impl_areRising.l0]) ?_
  simp only [if_pos hi, hw2, if_pos (show 0 ≤ i - 1 by omega), if_pos (show i - 1 < (l.length : Int) by omega), if_pos (show 0 ≤ i by omega), hw]
  by_cases hr : rd l (i - 1) ≥ rd l i
  ·have e : allFrom (riseOK l) (d + 1) i = false := by
    have h4 : riseOK l i = false := by simp [riseOK]; omega
    simp [allFrom, h4]
   rw [e]
   simp only [if_pos hr]
   exact Ev.now _
  ·have e : allFrom (riseOK l) (d + 1) i = allFrom (riseOK l) d (i + 1) := by
    have h4 : riseOK l i = true := by simp [riseOK]; omega
    simp [allFrom, h4]
   rw [e]
   simp only [if_neg hr]
   exact ih (i + 1) (by omega) (by omega)
theorem areNumbers_eq (l : List Int) : impl_areNumbers.f l = some (l.all fun x => decide (0 ≤ x) && decide (x ≤ 6)) := by
 unfold impl_areNumbers.f impl_areNumbers_1_any.f
 rw [anyO_total (p := fun x : Int => impl_areNumbers_1.f x) (q := fun x => !(decide (0 ≤ x) && decide (x ≤ 6))) l (fun x _ => by
  unfold impl_areNumbers_1.f
  simp only [mem_within_eq, Option.bind_some])]
 simp only [Option.bind_some]
 congr 1
 rw [Bool.eq_iff_iff]
 simp [List.any_eq_false]
/-- The text's members. -/
def mems (s : ByteArray) : List Int := (List.range s.size).map fun j : Nat => bt s (j : Int)
theorem mems_len (s : ByteArray) : (mems s).length = s.size := by simp [mems]
theorem mems_rd (s : ByteArray) (i : Int) (h0 : 0 ≤ i) (h1 : i < s.size) : rd (mems s) i = bt s i := by
 show (mems s).getD i.toNat 0 = _
 have hi : i.toNat < (mems s).length := by rw [mems_len]; omega
 rw [List.getD_eq_getElem?_getD, List.getElem?_eq_getElem hi]
 simp [mems]
 congr 1
 omega
theorem membersOK_ev (s : ByteArray) (hs : s.size ≤ 65536) : Ev (fun k => impl_membersOK.f k (mems s)) (allFrom (placeOK s) s.size 0 && decide (0 < s.size)) := by
 simp only [impl_membersOK.f, mems_len]
 by_cases hz : (s.size : Int) > 0
 ·have hA : (allFrom (placeOK s) s.size 0 && decide (0 < s.size)) = (((mems s).all fun x => decide (0 ≤ x) && decide (x ≤ 6)) && allFrom (riseOK (mems s)) (s.size - 1) 1) := by
   rw [Bool.eq_iff_iff]
   simp only [Bool.and_eq_true, allFrom_iff, List.all_eq_true, decide_eq_true_iff]
   constructor
   ·rintro ⟨h1, h2⟩
    refine ⟨fun x hx => ?_, fun j h3 h4 => ?_⟩
    ·obtain ⟨j, hj, rfl⟩ := List.mem_map.1 hx
     have h5 := h1 (j : Int) (by omega) (by have := List.mem_range.1 hj; omega)
     simp [placeOK] at h5
     exact h5.1
    ·have h5 := h1 j (by omega) (by omega)
     simp [placeOK] at h5
     unfold riseOK
     rw [mems_rd s (j - 1) (by omega) (by omega), mems_rd s j (by omega) (by omega), decide_eq_true_iff]
     rcases h5.2 with h6 | h6
     ·omega
     ·exact h6
   ·rintro ⟨h1, h2⟩
    refine ⟨fun j h3 h4 => ?_, by omega⟩
    have hmem : bt s j ∈ mems s := by
     show _ ∈ (List.range s.size).map fun j : Nat => bt s (j : Int)
     have hlt : j.toNat < s.size := by omega
     exact List.mem_map.2 ⟨j.toNat, List.mem_range.2 hlt, by rw [show ((j.toNat : Nat) : Int) = j by omega]⟩
    have h5 := h1 (bt s j) hmem
    unfold placeOK
    simp only [Bool.and_eq_true, Bool.or_eq_true, decide_eq_true_iff]
    refine ⟨h5, ?_⟩
    by_cases hj : j ≤ 0
    ·exact .inl hj
    ·right
     have h6 := h2 j (by omega) (by omega)
     unfold riseOK at h6
     rw [mems_rd s (j - 1) (by omega) (by omega), mems_rd s j (by omega) (by omega), decide_eq_true_iff] at h6
     exact h6
  rw [hA]
  simp only [if_pos hz, areNumbers_eq, Option.bind_some]
  cases hall : ((mems s).all fun x => decide (0 ≤ x) && decide (x ≤ 6)) with
  | false =>
   simp only [Bool.false_eq_true, if_false, Bool.false_and]
   exact Ev.now _
  | true =>
   simp only [if_true, Bool.true_and, impl_areRising.f]
   exact Ev.bind (areRising_l0 (mems s) (by rw [mems_len]; exact hs) (s.size - 1) 1 (by omega) (by rw [mems_len]; omega)) (Ev.now _)
 ·have e : (allFrom (placeOK s) s.size 0 && decide (0 < s.size)) = false := by rw [show decide (0 < s.size) = false from decide_eq_false (by omega), Bool.and_false]
  rw [e]
  simp only [if_neg hz]
  exact Ev.now _
theorem readMembers_l0 (s : ByteArray) (hs : s.size ≤ 65536) : ∀ (d : Nat) (i : Int), 0 ≤ i → i + d = s.size → Ev (fun k => impl_readMembers.l0 k s ((mems s).take i.toNat) (s.size : Int) i) (mems s, allFrom (placeOK s) s.size 0 && decide (0 < s.size)) := by
 intro d
 induction d with
 | zero =>
  intro i h0 h1
  refine Ev.step (fun k => by rw [impl_readMembers.l0]) ?_
  rw [List.take_of_length_le (by rw [mems_len]; omega)]
  simp only [if_neg (show ¬ i < (s.size : Int) by omega)]
  exact Ev.bind (membersOK_ev s hs) (Ev.now _)
 | succ d ih =>
  intro i h0 h1
  have hi : i < (s.size : Int) := by omega
  have hw := wrap_up h0 hi (by omega)
  have hm : i.toNat < (mems s).length := by rw [mems_len]; omega
  refine Ev.step (fun k => by rw [impl_readMembers.l0]) ?_
  have e : (mems s).take i.toNat ++ [bt s i] = (mems s).take (i + 1).toNat := by
   rw [show (i + 1).toNat = i.toNat + 1 by omega, List.take_succ_eq_append_getElem hm, ← mems_rd s i h0 hi]
   congr 2
   show (mems s).getD i.toNat 0 = _
   rw [List.getD_eq_getElem?_getD, List.getElem?_eq_getElem hm]
   rfl
  simp only [if_pos hi, if_pos h0, bt_wrap, if_pos (show ((mems s).take i.toNat).length < 17592186044416 by rw [List.length_take]; omega), hw, e]
  exact ih (i + 1) (by omega) (by omega)
theorem Entry_some (a b : Int) (s : ByteArray) (hs : s.size ≤ 65536) : ∃ r, Ev (fun k => spec_l02Entry.f k a b s) r ∧ Ev (fun k => impl_entryOK.f k a b s) r := by
 unfold spec_l02Entry.f impl_entryOK.f
 simp only [mem_l01In_eq, mem_within_eq, Option.bind_some]
 split
 ·split
  ·exact ⟨_, Ev.now _, Ev.now _⟩
  ·split
   ·refine ⟨decide (1 ≤ (s.size : Int)) && decide ((s.size : Int) ≤ 100), ?_, Ev.now _⟩
    by_cases h : (s.size : Int) ≥ 1
    ·simp only [if_pos h, show decide (1 ≤ (s.size : Int)) = true from decide_eq_true h, Bool.true_and]
     exact Ev.now _
    ·simp only [if_neg h, show decide (1 ≤ (s.size : Int)) = false from decide_eq_false h, Bool.false_and]
     exact Ev.now _
   ·split
    ·obtain ⟨l, h1⟩ := spec_l02Members_l0 s hs s.size 0 [] (by omega) (by omega) (by simp)
     have h2 : Ev (fun k => impl_readMembers.f k s) (mems s, allFrom (placeOK s) s.size 0 && decide (0 < s.size)) := readMembers_l0 s hs s.size 0 (by omega) (by omega)
     have h1' : Ev (fun k => spec_l02Members.f k s) (l, allFrom (placeOK s) s.size 0 && decide (0 < s.size)) := h1
     exact ⟨allFrom (placeOK s) s.size 0 && decide (0 < s.size), Ev.bind h1' (Ev.now _), Ev.bind h2 (Ev.now _)⟩
    ·exact ⟨_, Ev.now _, Ev.now _⟩
 ·exact ⟨_, Ev.now _, Ev.now _⟩
end Go.Proofs.Ytmclmbhdgepjfaa.Pure

