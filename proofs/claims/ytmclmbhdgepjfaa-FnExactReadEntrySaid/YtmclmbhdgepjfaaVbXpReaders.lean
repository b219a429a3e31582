import Derived.Test.YtmclmbhdgepjfaaVbQx0
import Derived.Test.YtmclmbhdgepjfaaVbQx12
import Derived.Test.YtmclmbhdgepjfaaVbQx15
import Derived.Test.YtmclmbhdgepjfaaVbQx16
import Derived.Test.YtmclmbhdgepjfaaVbXpBytes
namespace Go.Proofs.Ytmclmbhdgepjfaa.Pure
open Go.RowKit Go.Proofs.Ytmclmbhdgepjfaa.Q Go.Proofs.YtmclmbhdgepjfaaX Go.Proofs.YtmclmbhdgepjfaaW.PrintWords Go.Proofs.YtmclmbhdgepjfaaW.PrintLast
set_option linter.unusedVariables false
set_option linter.unusedSimpArgs false

theorem pow_le3 : ∀ (m : Nat), m ≤ 3 → (256 : Int) ^ m ≤ 16777216
 | 0, _ => by decide
 | 1, _ => by decide
 | 2, _ => by decide
 | 3, _ => by decide
 | m + 4, h => by omega
theorem pow_up {acc x : Int} (m : Nat) (h : acc < 256 ^ m) (hx : x < 256) : acc * 256 + x < 256 ^ (m + 1) := by
 rw [Int.pow_succ]
 have h2 : acc + 1 ≤ 256 ^ m := h
 have := Int.mul_le_mul_of_nonneg_right h2 (show (0 : Int) ≤ 256 by decide)
 omega
theorem spec_number_l0 (bs : List Int) (hb : IsBytes bs) (hl : bs.length ≤ 140737488351232) (n : Int) (hn : n ≤ 4) : ∀ (d : Nat) (i acc at_ : Int), 0 ≤ i → i + d = n → 0 ≤ at_ → at_ ≤ bs.length → 0 ≤ acc → acc < 256 ^ i.toNat →
  ∃ a2, at_ ≤ a2 ∧ a2 ≤ bs.length ∧ Ev (fun k => spec_l02Reader_number.l0 k n acc i bs at_ false) (if at_ + d ≤ bs.length then (beN acc ((bs.drop at_.toNat).take d), at_ + d, false) else (0, a2, true)) := by
 intro d
 induction d with
 | zero =>
  intro i acc at_ h0 h1 h2 h3 h4 h5
  have e : (if at_ + ((0 : Nat) : Int) ≤ (bs.length : Int) then (beN acc ((bs.drop at_.toNat).take 0), at_ + ((0 : Nat) : Int), false) else (0, at_, true)) = (acc, at_, false) := by
   rw [if_pos (by omega), List.take_zero, show at_ + ((0 : Nat) : Int) = at_ by omega]
   rfl
  refine ⟨at_, Int.le_refl _, h3, ?_⟩
  rw [e]
  refine Ev.step (fun k => by rw [spec_l02Reader_number.l0]) ?_
  simp only [if_neg (show ¬ i < n by omega)]
  exact Ev.now _
 | succ d ih =>
  intro i acc at_ h0 h1 h2 h3 h4 h5
  have hi : i < n := by omega
  by_cases hlt : at_ < (bs.length : Int)
  ·have hx := hb _ (getD_mem 0 h2 hlt)
   generalize hxe : bs.getD at_.toNat 0 = x at hx
   have hacc : acc < 16777216 := Int.lt_of_lt_of_le h5 (pow_le3 _ (by omega))
   have hw1 : wrap64 (acc * 256) = acc * 256 := by unfold wrap64; omega
   have hw2 : wrap64 x = x := by unfold wrap64; omega
   have hw3 : wrap64 (acc * 256 + x) = acc * 256 + x := by unfold wrap64; omega
   have hw4 : wrap64 (i + 1) = i + 1 := by unfold wrap64; omega
   have hw5 : wrap64 (at_ + 1) = at_ + 1 := by unfold wrap64; omega
   obtain ⟨a2, h6, h7, h8⟩ := ih (i + 1) (acc * 256 + x) (at_ + 1) (by omega) (by omega) (by omega) (by omega) (by omega) (by
    rw [show (i + 1).toNat = i.toNat + 1 by omega]
    exact pow_up _ h5 hx.2)
   refine ⟨a2, by omega, h7, Ev.step (fun k => by rw [spec_l02Reader_number.l0]) ?_⟩
   have hrd : rd bs at_ = x := hxe
   simp only [if_pos hi, Bool.false_eq_true, if_false, if_neg (show ¬ at_ ≥ (bs.length : Int) by omega), if_pos h2, if_pos hlt, hrd, hw1, hw2, hw3, hw4, hw5]
   have hat : at_.toNat < bs.length := by omega
   have hd : (bs.drop at_.toNat).take (d + 1) = x :: (bs.drop (at_ + 1).toNat).take d := by
    rw [List.drop_eq_getElem_cons hat, List.take_succ_cons, show (at_ + 1).toNat = at_.toNat + 1 by omega]
    congr 1
    rw [← hxe, List.getD_eq_getElem?_getD, List.getElem?_eq_getElem hat]
    rfl
   rw [hd, show at_ + ((d + 1 : Nat) : Int) = at_ + 1 + (d : Int) by omega]
   exact h8
  ·refine ⟨at_, Int.le_refl _, h3, ?_⟩
   rw [if_neg (show ¬ at_ + ((d + 1 : Nat) : Int) ≤ (bs.length : Int) by omega)]
   refine Ev.step (fun k => by rw [spec_l02Reader_number.l0]) ?_
   simp only [if_pos hi, Bool.false_eq_true, if_false, if_pos (show at_ ≥ (bs.length : Int) by omega)]
   exact Ev.now _
theorem impl_numberOf_l0 (l : List Int) (hb : IsBytes l) (hl : l.length ≤ 4) : ∀ (d : Nat) (i acc : Int), 0 ≤ i → i + d = l.length → 0 ≤ acc → acc < 256 ^ i.toNat → Ev (fun k => impl_numberOf.l0 k (strOfNums l) acc (l.length : Int) i) (beN acc (l.drop i.toNat)) := by
 intro d
 induction d with
 | zero =>
  intro i acc h0 h1 h2 h3
  refine Ev.step (fun k => by rw [impl_numberOf.l0]) ?_
  rw [List.drop_eq_nil_of_le (by omega)]
  simp only [if_neg (show ¬ i < (l.length : Int) by omega), beN]
  exact Ev.now _
 | succ d ih =>
  intro i acc h0 h1 h2 h3
  have hi : i.toNat < l.length := by omega
  have hx := hb _ (getD_mem 0 h0 (show i < (l.length : Int) by omega))
  have hbt := strOf_bt l hb i h0 (by omega)
  generalize hxe : l.getD i.toNat 0 = x at hx hbt
  have hacc : acc < 16777216 := Int.lt_of_lt_of_le h3 (pow_le3 _ (by omega))
  have hw1 : wrap64 (acc * 256) = acc * 256 := by unfold wrap64; omega
  have hw2 : wrap64 x = x := by unfold wrap64; omega
  have hw3 : wrap64 (acc * 256 + x) = acc * 256 + x := by unfold wrap64; omega
  have hw4 : wrap64 (i + 1) = i + 1 := by unfold wrap64; omega
  have h8 := ih (i + 1) (acc * 256 + x) (by omega) (by omega) (by omega) (by
   rw [show (i + 1).toNat = i.toNat + 1 by omega]
   exact pow_up _ h3 hx.2)
  refine Ev.step (fun k => by rw [impl_numberOf.l0]) ?_
  simp only [if_pos (show i < (l.length : Int) by omega), if_pos h0, strOf_size, hbt, hw1, hw2, hw3, hw4]
  have hd : l.drop i.toNat = x :: l.drop (i + 1).toNat := by
   rw [List.drop_eq_getElem_cons hi, show (i + 1).toNat = i.toNat + 1 by omega]
   congr 1
   rw [← hxe, List.getD_eq_getElem?_getD, List.getElem?_eq_getElem hi]
   rfl
  rw [hd]
  exact h8
theorem impl_numberOf_ev (l : List Int) (hb : IsBytes l) (hl : l.length ≤ 4) : Ev (fun k => impl_numberOf.f k (strOfNums l)) (beN 0 l) := by
 simp only [impl_numberOf.f, strOf_size]
 exact impl_numberOf_l0 l hb hl l.length 0 0 (by omega) (by omega) (by omega) (by decide)
/-- Both readers stand at one place. -/
def Rel (bs : List Int) (a : Int) (b : Bool) (s : ByteArray) : Prop := 0 ≤ a ∧ a ≤ bs.length ∧ (b = false → s = strOfNums (bs.drop a.toNat))
theorem impl_take_eq (l : List Int) (n : Int) (h0 : 0 ≤ n) : impl_reader_take.f (strOfNums l) false n = if n > (l.length : Int) then some ((⟨#[]⟩ : ByteArray), strOfNums l, true) else some (strOfNums (l.take n.toNat), strOfNums (l.drop n.toNat), false) := by
 unfold impl_reader_take.f
 rw [if_neg (by decide), strOf_size]
 by_cases h : n > (l.length : Int)
 ·rw [if_pos h, if_pos h]
 ·rw [if_neg h, if_neg h, if_pos h0, if_pos (by omega), strOf_extract, strOf_extract, List.drop_zero, List.take_of_length_le (Nat.le_refl _)]
theorem number_rel (bs : List Int) (hb : IsBytes bs) (hl : bs.length ≤ 140737488351232) {a : Int} {b : Bool} {s : ByteArray} (h : Rel bs a b s) (n : Int) (h1 : 1 ≤ n) (h4 : n ≤ 4) :
  ∃ v a2 b2 s2, Ev (fun k => spec_l02Reader_number.f k bs a b n) (v, a2, b2) ∧ Ev (fun k => impl_reader_number.f k s b n) (v, s2, b2) ∧ Rel bs a2 b2 s2 ∧ 0 ≤ v ∧ (n = 1 → v < 256) := by
 obtain ⟨h0, hle, hs⟩ := h
 have hbad : Ev (fun k => impl_numberOf.f k (⟨#[]⟩ : ByteArray)) 0 := impl_numberOf_ev [] (fun y hy => by cases hy) (by decide)
 cases b with
 | true =>
  refine ⟨0, a, true, s, ?_, ?_, ⟨h0, hle, fun h => by cases h⟩, by omega, by omega⟩
  ·simp only [spec_l02Reader_number.f]
   refine Ev.step (fun k => by rw [spec_l02Reader_number.l0]) ?_
   simp only [if_pos (show 0 < n by omega), if_true]
   exact Ev.now _
  ·simp only [impl_reader_number.f, impl_reader_take.f, if_true, Option.bind_some]
   refine Ev.bind hbad ?_
   exact Ev.now _
 | false =>
  obtain rfl := hs rfl
  obtain ⟨a2, h5, h6, h7⟩ := spec_number_l0 bs hb hl n h4 n.toNat 0 0 a (by omega) (by omega) h0 hle (by omega) (by decide)
  rw [show (n.toNat : Int) = n by omega] at h7
  have hlen : (bs.drop a.toNat).length = bs.length - a.toNat := List.length_drop
  by_cases hfit : a + n ≤ bs.length
  ·rw [if_pos hfit] at h7
   have hv := beN_bounds ((bs.drop a.toNat).take n.toNat) 0 ((hb.drop _).take _) (by omega)
   refine ⟨beN 0 ((bs.drop a.toNat).take n.toNat), a + n, false, strOfNums (bs.drop (a + n).toNat), ?_, ?_, ⟨by omega, hfit, fun _ => rfl⟩, hv.1, fun h => ?_⟩
   ·simp only [spec_l02Reader_number.f]
    exact h7
   ·simp only [impl_reader_number.f, impl_take_eq _ n (by omega), if_neg (show ¬ n > ((bs.drop a.toNat).length : Int) by omega), Option.bind_some]
    refine Ev.bind (impl_numberOf_ev _ ((hb.drop _).take _) (by rw [List.length_take]; omega)) ?_
    rw [List.drop_drop, show a.toNat + n.toNat = (a + n).toNat by omega]
    exact Ev.now _
   ·have h2 := hv.2
    rw [List.length_take, hlen, h] at h2
    rw [h]
    have : min (1 : Int).toNat (bs.length - a.toNat) = 1 := by omega
    rw [this] at h2
    simpa using h2
  ·rw [if_neg hfit] at h7
   refine ⟨0, a2, true, strOfNums (bs.drop a.toNat), ?_, ?_, ⟨by omega, h6, fun h => by cases h⟩, by omega, by omega⟩
   ·simp only [spec_l02Reader_number.f]
    exact h7
   ·simp only [impl_reader_number.f, impl_take_eq _ n (by omega), if_pos (show n > ((bs.drop a.toNat).length : Int) by omega), Option.bind_some]
    refine Ev.bind hbad ?_
    exact Ev.now _
theorem text_rel (bs : List Int) (hl : bs.length ≤ 140737488351232) {a : Int} {b : Bool} {s : ByteArray} (h : Rel bs a b s) (n : Int) (h0 : 0 ≤ n) (h4 : n ≤ 65535) :
  ∃ t a2 b2 s2, spec_l02Reader_text.f bs a b n = some (t, a2, b2) ∧ impl_reader_take.f s b n = some (t, s2, b2) ∧ Rel bs a2 b2 s2 := by
 obtain ⟨ha, hle, hs⟩ := h
 unfold spec_l02Reader_text.f
 rw [if_pos ⟨ha, hle, by omega, h4⟩]
 cases b with
 | true =>
  refine ⟨⟨#[]⟩, a, true, s, ?_, ?_, ⟨ha, hle, fun h => by cases h⟩⟩
  ·rw [if_pos rfl]
  ·simp only [impl_reader_take.f, if_true]
 | false =>
  obtain rfl := hs rfl
  have hlen : (bs.drop a.toNat).length = bs.length - a.toNat := List.length_drop
  rw [if_neg (by decide), if_neg (by omega), impl_take_eq _ n h0]
  by_cases hfit : a + n > bs.length
  ·rw [if_pos hfit, if_pos (by omega)]
   exact ⟨_, _, _, _, rfl, rfl, ⟨ha, hle, fun h => by cases h⟩⟩
  ·rw [if_neg hfit, if_neg (by omega)]
   refine ⟨_, _, _, _, rfl, ?_, ⟨by omega, by omega, fun _ => rfl⟩⟩
   rw [List.drop_drop, List.drop_take, show (a + n).toNat - a.toNat = n.toNat by omega, show a.toNat + n.toNat = (a + n).toNat by omega]
theorem counted_rel (bs : List Int) (hb : IsBytes bs) (hl : bs.length ≤ 140737488351232) {a : Int} {b : Bool} {s : ByteArray} (h : Rel bs a b s) :
  ∃ v a1 b1 t a2 b2 s2, Ev (fun k => spec_l02Reader_number.f k bs a b 1) (v, a1, b1) ∧ spec_l02Reader_text.f bs a1 b1 v = some (t, a2, b2) ∧ Ev (fun k => impl_reader_counted.f k s b) (t, s2, b2) ∧ Rel bs a2 b2 s2 := by
 obtain ⟨v4, a4, b4, s4, h4, g4, r4, z4, y4⟩ := number_rel bs hb hl h 1 (by omega) (by omega)
 have y4' := y4 rfl
 obtain ⟨t5, a5, b5, s5, h5, g5, r5⟩ := text_rel bs hl r4 v4 z4 (by omega)
 refine ⟨v4, a4, b4, t5, a5, b5, s5, h4, h5, ?_, r5⟩
 unfold impl_reader_counted.f
 refine Ev.bind g4 ?_
 simp only [g5, Option.bind_some]
 exact Ev.now _
theorem Rel.start (bs : List Int) : Rel bs 0 false (strOfNums bs) := ⟨by omega, by omega, fun _ => by simp⟩
/-- Both tell alike whether all has been read. -/
theorem Rel.ends {bs : List Int} {a : Int} {s : ByteArray} (h : Rel bs a false s) : (a = (bs.length : Int)) ↔ (s.toList = ([] : List UInt8)) := by
 rw [h.2.2 rfl, strOf_empty, List.drop_eq_nil_iff]
 have := h.1
 have := h.2.1
 omega
end Go.Proofs.Ytmclmbhdgepjfaa.Pure

