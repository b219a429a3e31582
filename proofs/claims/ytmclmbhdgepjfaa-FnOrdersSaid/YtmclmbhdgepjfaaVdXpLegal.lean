import Derived.Test.YtmclmbhdgepjfaaVdQx0
import Derived.Test.YtmclmbhdgepjfaaVdQx2
import Derived.Test.YtmclmbhdgepjfaaVdQx4
import Derived.Test.YtmclmbhdgepjfaaVdQx37
import Derived.Test.YtmclmbhdgepjfaaVdQx39
import Derived.Test.YtmclmbhdgepjfaaVdQx42
import Derived.Test.YtmclmbhdgepjfaaVdQx43
import Derived.Test.YtmclmbhdgepjfaaVdQx44
import Derived.Test.YtmclmbhdgepjfaaVdQx45
import Derived.Test.YtmclmbhdgepjfaaVdXpOrder
namespace Go.Proofs.Ytmclmbhdgepjfaa.Pure
open Go.RowKit Go.Proofs.Ytmclmbhdgepjfaa.Q Go.Proofs.YtmclmbhdgepjfaaX Go.Proofs.YtmclmbhdgepjfaaW.PrintWords Go.Proofs.YtmclmbhdgepjfaaW.PrintLast
set_option linter.unusedVariables false
set_option linter.unusedSimpArgs false
set_option linter.unusedSectionVars false

theorem Ev.uniq {α : Type} {g : Nat → Option α} {r s : α} (h : Ev g r) (k : Ev g s) : r = s := by
 obtain ⟨K, h⟩ := h
 obtain ⟨L, k⟩ := k
 have h1 := h (max K L) (Nat.le_max_left _ _)
 have h2 := k (max K L) (Nat.le_max_right _ _)
 rw [h1] at h2
 exact Option.some.inj h2
/-- What an act finds: a write anything, a read its own value. -/
def valueOK (x : S89) (v : ByteArray) : Prop := x.f2 = true ∨ x.f3.toList = v.toList
/-- May k come behind those of pre? -/
def StepOK (ops : List S89) (pre : List Int) (k : Int) : Prop := ∀ a ∈ pre, a ≠ k ∧ aheadB (rd_T89 ops k) (rd_T89 ops a) = false
def LegalFrom (ops : List S89) : List Int → ByteArray → List Int → Prop
 | _, _, [] => True
 | pre, v, k :: ks => StepOK ops pre k ∧ valueOK (rd_T89 ops k) v ∧ LegalFrom ops (pre ++ [k]) (rd_T89 ops k).f3 ks
def AllEnded (ops : List S89) (ids : List Int) : Prop := ∀ j : Int, 0 ≤ j → j < ops.length → (rd_T89 ops j).f1 < 0 ∨ has ids j = true
def InR (ops : List S89) (ids : List Int) : Prop := ∀ a ∈ ids, 0 ≤ a ∧ a < (ops.length : Int)
theorem finds_eq (x : S89) (v : ByteArray) : ∃ b, impl_Op_finds.f x.f0 x.f1 x.f2 x.f3 v = some (x.f3, b) ∧ (b = true ↔ valueOK x v) := by
 unfold impl_Op_finds.f valueOK
 cases h : x.f2 with
 | true => exact ⟨true, by rw [if_pos rfl], by simp⟩
 | false => exact ⟨(x.f3.toList == v.toList), by rw [if_neg (by decide)], by simp⟩
theorem g1_eq (ops : List S89) : ∀ (suf pre : List Int) (v : ByteArray), InR ops (pre ++ suf) → ∃ b, impl_isOrder.g1 ops pre suf v = some b ∧ (b = true ↔ LegalFrom ops pre v suf)
 | [], pre, v, _ => ⟨true, rfl, by simp [LegalFrom]⟩
 | k :: ks, pre, v, hR => by
  have hk := hR k (by simp)
  have hany := anyO_total (p := fun a => impl_isOrder.c ops k a) (q := fun a => (a == k) || aheadB (rd_T89 ops k) (rd_T89 ops a)) pre (fun a ha => by
   have h1 := hR a (by simp [ha])
   unfold impl_isOrder.c
   by_cases he : a = k
   ·rw [if_pos he]; simp [he]
   ·rw [if_neg he, if_pos ⟨hk.1, hk.2, h1.1, h1.2⟩, isAhead_eq]
    simp [he])
  have hs : (pre.any fun a => (a == k) || aheadB (rd_T89 ops k) (rd_T89 ops a)) = true ↔ ¬ StepOK ops pre k := by
   simp only [StepOK, List.any_eq_true, Bool.or_eq_true, beq_iff_eq]
   constructor
   ·rintro ⟨a, ha, h⟩ hn
    obtain ⟨h1, h2⟩ := hn a ha
    rcases h with h | h
    ·exact h1 h
    ·rw [h2] at h; cases h
   ·intro hn
    apply Classical.byContradiction
    intro hc
    apply hn
    intro a ha
    refine ⟨fun e => hc ⟨a, ha, .inl e⟩, ?_⟩
    cases hb : aheadB (rd_T89 ops k) (rd_T89 ops a) with
    | true => exact absurd ⟨a, ha, .inr hb⟩ hc
    | false => rfl
  simp only [impl_isOrder.g1, hany, Option.bind_some]
  cases hq : (pre.any fun a => (a == k) || aheadB (rd_T89 ops k) (rd_T89 ops a)) with
  | true =>
   refine ⟨false, by simp, ?_⟩
   simp only [LegalFrom, Bool.false_eq_true, false_iff]
   exact fun h => (hs.1 hq) h.1
  | false =>
   have hst : StepOK ops pre k := Classical.byContradiction fun h => by
    have := hs.2 h
    rw [hq] at this
    cases this
   obtain ⟨b, hf, hb⟩ := finds_eq (rd_T89 ops k) v
   obtain ⟨b2, h2, hb2⟩ := g1_eq ops ks (pre ++ [k]) (rd_T89 ops k).f3 (by simpa using hR)
   simp only [Bool.false_eq_true, if_false, if_pos hk, hf, Option.bind_some]
   cases b with
   | true =>
    refine ⟨b2, by simpa using h2, ?_⟩
    simp only [LegalFrom]
    rw [hb2]
    exact ⟨fun h => ⟨hst, hb.1 rfl, h⟩, fun h => h.2.2⟩
   | false =>
    refine ⟨false, by simp, ?_⟩
    simp only [LegalFrom, Bool.false_eq_true, false_iff]
    exact fun h => by have := hb.2 h.2.1; cases this
theorem hasEnded_eq (x : S89) : impl_Op_hasEnded.f x.f0 x.f1 x.f2 x.f3 = some (decide (x.f1 ≥ 0)) := rfl
theorem drop_rd (ops : List S89) {i : Nat} (hi : i < ops.length) : ops.drop i = rd_T89 ops (i : Int) :: ops.drop (i + 1) := by
 rw [List.drop_eq_getElem_cons hi]
 congr 1
 show _ = ops.getD (i : Int).toNat z89
 rw [Int.toNat_natCast, List.getD_eq_getElem?_getD, List.getElem?_eq_getElem hi]
 rfl
theorem g2_ev (ops : List S89) (l1 : List Int) (hl : l1.length ≤ 9223372036854775806) : ∀ (d i : Nat), i + d = ops.length → ∃ b, Ev (fun k => impl_isOrder.g2 k l1 (i : Int) (ops.drop i)) b ∧ (b = true ↔ ∀ j : Int, (i : Int) ≤ j → j < ops.length → (rd_T89 ops j).f1 < 0 ∨ has l1 j = true) := by
 intro d
 induction d with
 | zero =>
  intro i hi
  rw [List.drop_eq_nil_of_le (by omega)]
  exact ⟨true, Ev.now _, by simp; intro j h1 h2; omega⟩
 | succ d ih =>
  intro i hi
  obtain ⟨b, h1, h2⟩ := ih (i + 1) (by omega)
  rw [drop_rd ops (by omega)]
  have e1 : ((i : Int) + 1) = ((i + 1 : Nat) : Int) := by omega
  have hsplit : ∀ P : Int → Prop, (∀ j : Int, (i : Int) ≤ j → j < ops.length → P j) ↔ (P i ∧ ∀ j : Int, ((i + 1 : Nat) : Int) ≤ j → j < ops.length → P j) := fun P => ⟨fun h => ⟨h i (by omega) (by omega), fun j h3 h4 => h j (by omega) h4⟩, fun h j h3 h4 => by
   rcases Int.lt_or_eq_of_le h3 with h5 | h5
   ·exact h.2 j (by omega) h4
   ·exact h5 ▸ h.1⟩
  simp only [impl_isOrder.g2, hasEnded_eq, Option.bind_some, e1]
  rw [hsplit, ← h2]
  by_cases hneg : (rd_T89 ops (i : Int)).f1 < 0
  ·refine ⟨b, ?_, by simp [hneg]⟩
   simp only [decide_eq_true_iff, if_neg (show ¬ (rd_T89 ops (i : Int)).f1 ≥ 0 by omega)]
   exact h1
  ·have hc := slices_Contains_ev l1 (i : Int) hl
   cases hq : has l1 (i : Int) with
   | true =>
    rw [hq] at hc
    refine ⟨b, ?_, by simp⟩
    simp only [decide_eq_true_iff, if_pos (show (rd_T89 ops (i : Int)).f1 ≥ 0 by omega)]
    refine Ev.bind hc ?_
    simp only [if_true]
    exact h1
   | false =>
    rw [hq] at hc
    refine ⟨false, ?_, by simp [hneg]⟩
    simp only [decide_eq_true_iff, if_pos (show (rd_T89 ops (i : Int)).f1 ≥ 0 by omega)]
    refine Ev.bind hc ?_
    simp only [Bool.false_eq_true, if_false]
    exact Ev.now _
theorem isOrder_ev (ops : List S89) (order : List Int) (hR : InR ops order) (hl : order.length ≤ 9223372036854775806) : ∃ b, Ev (fun k => impl_isOrder.f k ops order) b ∧ (b = true ↔ LegalFrom ops [] ⟨#[]⟩ order ∧ AllEnded ops order) := by
 obtain ⟨b1, h1, h2⟩ := g1_eq ops order [] ⟨#[]⟩ (by simpa using hR)
 obtain ⟨b2, h3, h4⟩ := g2_ev ops order hl ops.length 0 (by omega)
 simp only [impl_isOrder.f, h1, Option.bind_some]
 cases b1 with
 | true =>
  refine ⟨b2, by simpa using h3, ?_⟩
  rw [h4]
  exact ⟨fun h => ⟨h2.1 rfl, fun j => h j⟩, fun h => h.2⟩
 | false =>
  refine ⟨false, by simpa using Ev.now false, ?_⟩
  simp only [Bool.false_eq_true, false_iff]
  exact fun h => by have := h2.2 h.1; cases this
/-- The reference's loop over those ahead of place i in the order. -/
theorem l14Legal_l1 (ops : List S89) (order : List Int) (hR : InR ops order) (hl : order.length ≤ 4096) (v : ByteArray) (i : Int) (h0 : 0 ≤ i) (hi : i < order.length) (r : Bool)
  (hr : Ev (fun k => spec_l14Legal.l1 k ops order v i i (rd_T89 ops (rd order i)).f0 (rd_T89 ops (rd order i)).f1 (rd_T89 ops (rd order i)).f2 (rd_T89 ops (rd order i)).f3) r) :
  ∀ (d : Nat) (q : Int), 0 ≤ q → q + d = i →
   ((∀ p : Int, q ≤ p → p < i → rd order p ≠ rd order i ∧ aheadB (rd_T89 ops (rd order i)) (rd_T89 ops (rd order p)) = false) → Ev (fun k => spec_l14Legal.l1 k ops order v i q (rd_T89 ops (rd order i)).f0 (rd_T89 ops (rd order i)).f1 (rd_T89 ops (rd order i)).f2 (rd_T89 ops (rd order i)).f3) r) ∧
   (¬ (∀ p : Int, q ≤ p → p < i → rd order p ≠ rd order i ∧ aheadB (rd_T89 ops (rd order i)) (rd_T89 ops (rd order p)) = false) → Ev (fun k => spec_l14Legal.l1 k ops order v i q (rd_T89 ops (rd order i)).f0 (rd_T89 ops (rd order i)).f1 (rd_T89 ops (rd order i)).f2 (rd_T89 ops (rd order i)).f3) false) := by
 intro d
 induction d with
 | zero =>
  intro q h1 h2
  obtain rfl : q = i := by omega
  exact ⟨fun _ => hr, fun h => absurd (fun p h3 h4 => by omega) h⟩
 | succ d ih =>
  intro q h1 h2
  obtain ⟨ih1, ih2⟩ := ih (q + 1) (by omega) (by omega)
  have hq := hR (rd order q) (getD_mem 0 h1 (by omega))
  have hw : wrap64 (q + 1) = q + 1 := by unfold wrap64; omega
  have hsplit : ∀ P : Int → Prop, (∀ p : Int, q ≤ p → p < i → P p) ↔ (P q ∧ ∀ p : Int, q + 1 ≤ p → p < i → P p) := fun P => ⟨fun h => ⟨h q (by omega) (by omega), fun j h3 h4 => h j (by omega) h4⟩, fun h j h3 h4 => by
   rcases Int.lt_or_eq_of_le h3 with h5 | h5
   ·exact h.2 j (by omega) h4
   ·exact h5 ▸ h.1⟩
  rw [hsplit (fun p => rd order p ≠ rd order i ∧ aheadB (rd_T89 ops (rd order i)) (rd_T89 ops (rd order p)) = false)]
  have hstep : ∀ s, Ev (fun k => if rd order q = rd order i then some false else (if 0 ≤ rd order q then (if rd order q < (ops.length : Int) then ((spec_l14Ahead.f (rd_T89 ops (rd order i)).f0 (rd_T89 ops (rd order i)).f1 (rd_T89 ops (rd order i)).f2 (rd_T89 ops (rd order i)).f3 ((rd_T89 ops (rd order q)).f0) ((rd_T89 ops (rd order q)).f1) ((rd_T89 ops (rd order q)).f2) ((rd_T89 ops (rd order q)).f3)).bind fun t719 => (if t719 = true then (some false) else (spec_l14Legal.l1 k ops order v i (q + 1) (rd_T89 ops (rd order i)).f0 (rd_T89 ops (rd order i)).f1 (rd_T89 ops (rd order i)).f2 (rd_T89 ops (rd order i)).f3))) else none) else none)) s → Ev (fun k => spec_l14Legal.l1 k ops order v i q (rd_T89 ops (rd order i)).f0 (rd_T89 ops (rd order i)).f1 (rd_T89 ops (rd order i)).f2 (rd_T89 ops (rd order i)).f3) s := by
   intro s hs
   refine Ev.step (fun k => by rw [spec_l14Legal.l1]) ?_
   simp only [if_pos (show q < i by omega), if_pos h1, if_pos (show q < (order.length : Int) by omega), if_pos h0, if_pos hi, hw]
   exact hs
  by_cases he : rd order q = rd order i
  ·refine ⟨fun h => absurd he h.1.1, fun _ => hstep false ?_⟩
   simp only [if_pos he]
   exact Ev.now _
  ·simp only [if_neg he, if_pos hq.1, if_pos hq.2, l14Ahead_eq, Option.bind_some] at hstep
   cases ha : aheadB (rd_T89 ops (rd order i)) (rd_T89 ops (rd order q)) with
   | true =>
    refine ⟨(fun h => by cases h.1.2), fun _ => hstep false ?_⟩
    simp only [ha, if_true]
    exact Ev.now _
   | false =>
    simp only [ha, Bool.false_eq_true, if_false] at hstep
    exact ⟨fun h => hstep r (ih1 h.2), fun h => hstep false (ih2 fun h' => h ⟨⟨he, rfl⟩, h'⟩)⟩
theorem l14Legal_l2 (ops : List S89) (order : List Int) (hn : ops.length ≤ 4096) (hl : order.length ≤ 4096) : ∀ (d : Nat) (i : Int), 0 ≤ i → i + d = ops.length → ∃ b, Ev (fun k => spec_l14Legal.l2 k ops order i) b ∧ (b = true ↔ ∀ j : Int, i ≤ j → j < ops.length → (rd_T89 ops j).f1 < 0 ∨ has order j = true) := by
 intro d
 induction d with
 | zero =>
  intro i h0 h1
  refine ⟨true, Ev.step (fun k => by rw [spec_l14Legal.l2]) ?_, by simp; intro j h1 h2; omega⟩
  simp only [if_neg (show ¬ i < (ops.length : Int) by omega)]
  exact Ev.now _
 | succ d ih =>
  intro i h0 h1
  obtain ⟨b, h2, h3⟩ := ih (i + 1) (by omega) (by omega)
  have hw : wrap64 (i + 1) = i + 1 := by unfold wrap64; omega
  have hsplit : ∀ P : Int → Prop, (∀ j : Int, i ≤ j → j < ops.length → P j) ↔ (P i ∧ ∀ j : Int, i + 1 ≤ j → j < ops.length → P j) := fun P => ⟨fun h => ⟨h i (by omega) (by omega), fun j h3 h4 => h j (by omega) h4⟩, fun h j h3 h4 => by
   rcases Int.lt_or_eq_of_le h3 with h5 | h5
   ·exact h.2 j (by omega) h4
   ·exact h5 ▸ h.1⟩
  rw [hsplit, ← h3]
  by_cases hneg : (rd_T89 ops i).f1 < 0
  ·refine ⟨b, Ev.step (fun k => by rw [spec_l14Legal.l2]) ?_, by simp [hneg]⟩
   simp only [if_pos (show i < (ops.length : Int) by omega), if_pos h0, if_neg (show ¬ (rd_T89 ops i).f1 ≥ 0 by omega), hw]
   exact h2
  ·have hc := spec_l10Has_ev order i (by omega)
   cases hq : has order i with
   | true =>
    rw [hq] at hc
    refine ⟨b, Ev.step (fun k => by rw [spec_l14Legal.l2]) ?_, by simp⟩
    simp only [if_pos (show i < (ops.length : Int) by omega), if_pos h0, if_pos (show (rd_T89 ops i).f1 ≥ 0 by omega), hw]
    refine Ev.bind hc ?_
    simp only [if_true]
    exact h2
   | false =>
    rw [hq] at hc
    refine ⟨false, Ev.step (fun k => by rw [spec_l14Legal.l2]) ?_, by simp [hneg]⟩
    simp only [if_pos (show i < (ops.length : Int) by omega), if_pos h0, if_pos (show (rd_T89 ops i).f1 ≥ 0 by omega), hw]
    refine Ev.bind hc ?_
    simp only [Bool.false_eq_true, if_false]
    exact Ev.now _
theorem l14Legal_l0 (ops : List S89) (order : List Int) (hn : ops.length ≤ 4096) (hl : order.length ≤ 4096) (hR : InR ops order) : ∀ (suf pre : List Int) (v : ByteArray), order = pre ++ suf → ∃ b, Ev (fun k => spec_l14Legal.l0 k ops order v (pre.length : Int)) b ∧ (b = true ↔ LegalFrom ops pre v suf ∧ AllEnded ops order)
 | [], pre, v, he => by
  obtain ⟨b, h1, h2⟩ := l14Legal_l2 ops order hn hl ops.length 0 (by omega) (by omega)
  have hp : (pre.length : Int) = order.length := by rw [he]; simp
  refine ⟨b, Ev.step (fun k => by rw [spec_l14Legal.l0]) ?_, ?_⟩
  ·simp only [if_neg (show ¬ (pre.length : Int) < (order.length : Int) by omega)]
   exact h1
  ·rw [h2]
   simp only [LegalFrom, true_and]
   rfl
 | k :: ks, pre, v, he => by
  obtain ⟨b, h1, h2⟩ := l14Legal_l0 ops order hn hl hR ks (pre ++ [k]) (rd_T89 ops k).f3 (by rw [he]; simp)
  have hlen : pre.length < order.length := by rw [he]; simp
  have hrd : rd order (pre.length : Int) = k := by
   rw [he]
   show (pre ++ k :: ks).getD (pre.length : Int).toNat 0 = k
   rw [Int.toNat_natCast, List.getD_eq_getElem?_getD, List.getElem?_append_right (Nat.le_refl _), Nat.sub_self]
   rfl
  have hk := hR k (by rw [he]; simp)
  have hw : wrap64 ((pre.length : Int) + 1) = ((pre ++ [k]).length : Int) := by
   simp only [List.length_append, List.length_cons, List.length_nil]
   unfold wrap64
   omega
  have hpre : (∀ p : Int, 0 ≤ p → p < (pre.length : Int) → rd order p ≠ k ∧ aheadB (rd_T89 ops k) (rd_T89 ops (rd order p)) = false) ↔ StepOK ops pre k := by
   have hat : ∀ q : Nat, q < pre.length → rd order (q : Int) = pre.getD q 0 := by
    intro q hq
    rw [he]
    show (pre ++ k :: ks).getD (q : Int).toNat 0 = _
    rw [Int.toNat_natCast, List.getD_eq_getElem?_getD, List.getD_eq_getElem?_getD, List.getElem?_append_left hq]
   constructor
   ·intro h a ha
    obtain ⟨q, hq, rfl⟩ := List.getElem_of_mem ha
    have h3 := h (q : Int) (by omega) (by omega)
    rw [hat q hq, List.getD_eq_getElem?_getD, List.getElem?_eq_getElem hq] at h3
    exact h3
   ·intro h p h3 h4
    obtain ⟨q, rfl⟩ : ∃ q : Nat, p = q := ⟨p.toNat, by omega⟩
    rw [hat q (by omega)]
    exact h _ (by rw [List.getD_eq_getElem?_getD, List.getElem?_eq_getElem (by omega)]; exact List.getElem_mem _)
  -- the end of the inner loop
  have hend : ∃ b', Ev (fun q => spec_l14Legal.l1 q ops order v (pre.length : Int) (pre.length : Int) (rd_T89 ops k).f0 (rd_T89 ops k).f1 (rd_T89 ops k).f2 (rd_T89 ops k).f3) b' ∧ (b' = true ↔ valueOK (rd_T89 ops k) v ∧ LegalFrom ops (pre ++ [k]) (rd_T89 ops k).f3 ks ∧ AllEnded ops order) := by
   cases hb : (rd_T89 ops k).f2 with
   | true =>
    refine ⟨b, Ev.step (fun q => by rw [spec_l14Legal.l1]) ?_, ?_⟩
    ·simp only [if_neg (show ¬ (pre.length : Int) < (pre.length : Int) by omega), if_true, hw]
     exact h1
    ·rw [h2]
     simp [valueOK, hb]
   | false =>
    by_cases hv : (rd_T89 ops k).f3.toList = v.toList
    ·have hv' := bytes_ext' hv
     refine ⟨b, Ev.step (fun q => by rw [spec_l14Legal.l1]) ?_, ?_⟩
     ·simp only [if_neg (show ¬ (pre.length : Int) < (pre.length : Int) by omega), Bool.false_eq_true, if_false, if_pos hv, hw]
      rw [hv'] at h1
      exact h1
     ·rw [h2]
      simp [valueOK, hv]
    ·refine ⟨false, Ev.step (fun q => by rw [spec_l14Legal.l1]) ?_, ?_⟩
     ·simp only [if_neg (show ¬ (pre.length : Int) < (pre.length : Int) by omega), Bool.false_eq_true, if_false, if_neg hv]
      exact Ev.now _
     ·simp [valueOK, hb, hv]
  obtain ⟨b', h3, h4⟩ := hend
  have hl1 := l14Legal_l1 ops order hR hl v (pre.length : Int) (by omega) (by omega) b' (by rw [hrd]; exact h3) pre.length 0 (by omega) (by omega)
  rw [hrd] at hl1
  rw [hpre] at hl1
  have hstep : ∀ s, Ev (fun q => spec_l14Legal.l1 q ops order v (pre.length : Int) 0 (rd_T89 ops k).f0 (rd_T89 ops k).f1 (rd_T89 ops k).f2 (rd_T89 ops k).f3) s → Ev (fun q => spec_l14Legal.l0 q ops order v (pre.length : Int)) s := by
   intro s hs
   refine Ev.step (fun q => by rw [spec_l14Legal.l0]) ?_
   simp only [if_pos (show (pre.length : Int) < (order.length : Int) by omega), if_pos (show 0 ≤ (pre.length : Int) by omega), hrd, if_pos hk.1, if_pos hk.2]
   exact hs
  simp only [LegalFrom]
  by_cases hst : StepOK ops pre k
  ·exact ⟨b', hstep _ (hl1.1 hst), by rw [h4]; exact ⟨fun h => ⟨⟨hst, h.1, h.2.1⟩, h.2.2⟩, fun h => ⟨h.1.2.1, h.1.2.2, h.2⟩⟩⟩
  ·exact ⟨false, hstep _ (hl1.2 hst), by simp only [Bool.false_eq_true, false_iff]; exact fun h => hst h.1.1⟩
/-- What OrderLegal tells. -/
theorem OrderLegal_rel (l : List S89) (order : List Int) : ∃ r, Ev (fun k => spec_OrderLegal.f k l order) r ∧ Ev (fun k => impl_OrderLegal.f k l order) r ∧ (r.1 = true → InR l order ∧ LegalFrom l [] ⟨#[]⟩ order ∧ AllEnded l order) ∧
  (l.length ≤ 7 → l.all opOK = true → order.length ≤ 7 → InR l order → r.2 = 0 ∧ (LegalFrom l [] ⟨#[]⟩ order → AllEnded l order → r.1 = true)) := by
 have hok := spec_OpsOK_eq l
 -- how the reference goes on behind each test
 have hj1 : ∀ b r, Ev (fun k => if b = true then some (false, 1) else spec_OrderLegal.l0 k l order 0) r → Ev (fun k => spec_OrderLegal.j1 k l order b) r := fun b r h => Ev.step (fun k => by rw [spec_OrderLegal.j1]) h
 have hj0 : ∀ b r, Ev (fun k => if b = true then some (false, 2) else ((spec_OpsOK.f k l).bind fun t722 => (if t722 = true then (spec_OrderLegal.j1 k l order (decide ((order.length : Int) > 7))) else (spec_OrderLegal.j1 k l order true)))) r → Ev (fun k => spec_OrderLegal.j0 k l order b) r := fun b r h => Ev.step (fun k => by rw [spec_OrderLegal.j0]) h
 simp only [spec_OrderLegal.f, impl_OrderLegal.f, impl_isList_int.f, opsCode_eq, Option.bind_some, decide_eq_true_iff]
 by_cases hl : l.length ≤ 4096
 ·simp only [if_neg (show ¬ (l.length : Int) > 4096 by omega), if_pos hl]
  by_cases ho : order.length ≤ 4096
  ·simp only [if_pos (show (order.length : Int) ≤ 4096 by omega)]
   have hd : decide ((order.length : Int) > 4096) = false := decide_eq_false (by omega)
   by_cases h2 : l.length ≤ 7 ∧ l.all opOK = true
   ·have e : (decide (l.length ≤ 7) && l.all opOK) = true := by simpa using h2
    rw [e] at hok
    simp only [if_pos h2, if_true]
    by_cases h7 : order.length ≤ 7
    ·simp only [if_neg (show ¬ (order.length : Int) > 7 by omega)]
     have hd7 : decide ((order.length : Int) > 7) = false := decide_eq_false (by omega)
     have hwn : wrap64 ((l.length : Int) - 1) = (l.length : Int) - 1 := by unfold wrap64; omega
     have hany := anyO_total (p := fun x => (impl_within.f x 0 (wrap64 ((l.length : Int) - 1))).map (!·)) (q := fun x => !(decide (0 ≤ x) && decide (x ≤ (l.length : Int) - 1))) order (fun x _ => by simp only [hwn, within_eq', Option.map_some])
     -- the reference's loop over the range
     have hloop : ∀ (r : Bool × Int), Ev (fun k => (spec_l14Legal.f k l order).bind fun t725 => (some (t725, 0))) r → ∀ (d : Nat) (i : Int), 0 ≤ i → i + d = order.length → ((∀ j : Int, i ≤ j → j < order.length → 0 ≤ rd order j ∧ rd order j < l.length) → Ev (fun k => spec_OrderLegal.l0 k l order i) r) ∧ (¬ (∀ j : Int, i ≤ j → j < order.length → 0 ≤ rd order j ∧ rd order j < l.length) → Ev (fun k => spec_OrderLegal.l0 k l order i) (false, 4)) := by
      intro r hr d
      induction d with
      | zero =>
       intro i h0 h1
       refine ⟨fun _ => Ev.step (fun k => by rw [spec_OrderLegal.l0]) ?_, fun h => absurd (fun j h3 h4 => by omega) h⟩
       simp only [if_neg (show ¬ i < (order.length : Int) by omega)]
       exact hr
      | succ d ih =>
       intro i h0 h1
       obtain ⟨ih1, ih2⟩ := ih (i + 1) (by omega) (by omega)
       have hw : wrap64 (i + 1) = i + 1 := by unfold wrap64; omega
       have hsplit : ∀ P : Int → Prop, (∀ j : Int, i ≤ j → j < order.length → P j) ↔ (P i ∧ ∀ j : Int, i + 1 ≤ j → j < order.length → P j) := fun P => ⟨fun h => ⟨h i (by omega) (by omega), fun j h3 h4 => h j (by omega) h4⟩, fun h j h3 h4 => by
        rcases Int.lt_or_eq_of_le h3 with h5 | h5
        ·exact h.2 j (by omega) h4
        ·exact h5 ▸ h.1⟩
       rw [hsplit (fun j => 0 ≤ rd order j ∧ rd order j < l.length)]
       have hstep : ∀ s, Ev (fun k => if (decide (0 ≤ rd order i) && decide (rd order i ≤ (l.length : Int) - 1)) = true then spec_OrderLegal.l0 k l order (i + 1) else some (false, 4)) s → Ev (fun k => spec_OrderLegal.l0 k l order i) s := by
        intro s hs
        refine Ev.step (fun k => by rw [spec_OrderLegal.l0]) ?_
        simp only [if_pos (show i < (order.length : Int) by omega), if_pos h0, hwn, l01In_eq, Option.bind_some, hw]
        exact hs
       by_cases hb : 0 ≤ rd order i ∧ rd order i < l.length
       ·have hb' : (decide (0 ≤ rd order i) && decide (rd order i ≤ (l.length : Int) - 1)) = true := by simp; omega
        simp only [hb', if_true] at hstep
        exact ⟨fun h => hstep _ (ih1 h.2), fun h => hstep _ (ih2 fun h' => h ⟨hb, h'⟩)⟩
       ·have hb' : (decide (0 ≤ rd order i) && decide (rd order i ≤ (l.length : Int) - 1)) = false := by
         rw [Bool.eq_false_iff]
         simp
         omega
        simp only [hb', Bool.false_eq_true, if_false] at hstep
        exact ⟨fun h => absurd h.1 hb, fun _ => hstep _ (Ev.now _)⟩
     have hin : (∀ j : Int, 0 ≤ j → j < order.length → 0 ≤ rd order j ∧ rd order j < l.length) ↔ InR l order := by
      constructor
      ·intro h a ha
       obtain ⟨q, hq, rfl⟩ := List.getElem_of_mem ha
       have h3 := h (q : Int) (by omega) (by omega)
       have e2 : rd order (q : Int) = order[q] := by
        show order.getD (q : Int).toNat 0 = _
        rw [Int.toNat_natCast, List.getD_eq_getElem?_getD, List.getElem?_eq_getElem hq]
        rfl
       rw [e2] at h3
       exact h3
      ·intro h j h3 h4
       exact h _ (getD_mem 0 h3 h4)
     by_cases hR : InR l order
     ·obtain ⟨b, h3, h4⟩ := isOrder_ev l order hR (by omega)
      obtain ⟨b', h5, h6⟩ := l14Legal_l0 l order hl ho hR order [] ⟨#[]⟩ rfl
      have hbb : b' = b := by
       rw [Bool.eq_iff_iff, h6, h4]
      subst hbb
      refine ⟨(b', 0), hj0 _ _ ?_, ?_, fun h => ⟨hR, h4.1 h⟩, fun _ _ _ _ => ⟨rfl, fun h h' => h4.2 ⟨h, h'⟩⟩⟩
      ·simp only [hd, Bool.false_eq_true, if_false]
       refine Ev.bind hok ?_
       simp only [if_true]
       refine hj1 _ _ ?_
       simp only [hd7, Bool.false_eq_true, if_false]
       exact (hloop (b', 0) (Ev.bind (by simpa [spec_l14Legal.f] using h5) (Ev.now _)) order.length 0 (by omega) (by omega)).1 (hin.2 hR)
      ·have hf : (order.any fun x => !(decide (0 ≤ x) && decide (x ≤ (l.length : Int) - 1))) = false := by
        rw [Bool.eq_false_iff]
        simp only [ne_eq, List.any_eq_true, not_exists, not_and]
        intro x hx
        have := hR x hx
        simp
        omega
       rw [hany, hf]
       simp only [Option.bind_some, Bool.false_eq_true, if_false]
       obtain ⟨K, hK⟩ := h3
       exact ⟨K, fun k hk => by
        have h9 : impl_isOrder.f k l order = some b' := hK k hk
        show Option.map _ (impl_isOrder.f k l order) = _
        rw [h9]
        rfl⟩
     ·have hbad : ¬ (∀ j : Int, 0 ≤ j → j < order.length → 0 ≤ rd order j ∧ rd order j < l.length) := fun h => hR (hin.1 h)
      have hf : (order.any fun x => !(decide (0 ≤ x) && decide (x ≤ (l.length : Int) - 1))) = true := by
       apply Classical.byContradiction
       intro hc
       apply hR
       intro a ha
       have : ¬ (!(decide (0 ≤ a) && decide (a ≤ (l.length : Int) - 1))) = true := fun h => hc (List.any_eq_true.2 ⟨a, ha, h⟩)
       simp at this
       omega
      obtain ⟨d0, hd0⟩ : ∃ r : Bool × Int, r = (false, 4) := ⟨_, rfl⟩
      refine ⟨(false, 4), hj0 _ _ ?_, ?_, (fun h => by cases h), fun _ _ _ h => absurd h hR⟩
      ·simp only [hd, Bool.false_eq_true, if_false]
       refine Ev.bind hok ?_
       simp only [if_true]
       refine hj1 _ _ ?_
       simp only [hd7, Bool.false_eq_true, if_false]
       -- it stops ahead of the end, whatever stands there
       have hstop : ∀ (d : Nat) (i : Int), 0 ≤ i → i + d = order.length → ¬ (∀ j : Int, i ≤ j → j < order.length → 0 ≤ rd order j ∧ rd order j < l.length) → Ev (fun k => spec_OrderLegal.l0 k l order i) (false, 4) := by
        intro d
        induction d with
        | zero => intro i h0 h1 h; exact absurd (fun j h3 h4 => by omega) h
        | succ d ih =>
         intro i h0 h1 h
         have hw : wrap64 (i + 1) = i + 1 := by unfold wrap64; omega
         refine Ev.step (fun k => by rw [spec_OrderLegal.l0]) ?_
         simp only [if_pos (show i < (order.length : Int) by omega), if_pos h0, hwn, l01In_eq, Option.bind_some, hw]
         by_cases hb : 0 ≤ rd order i ∧ rd order i < l.length
         ·have hb' : (decide (0 ≤ rd order i) && decide (rd order i ≤ (l.length : Int) - 1)) = true := by simp; omega
          simp only [hb', if_true]
          refine ih (i + 1) (by omega) (by omega) fun h' => h fun j h3 h4 => ?_
          rcases Int.lt_or_eq_of_le h3 with h5 | h5
          ·exact h' j (by omega) h4
          ·exact h5 ▸ hb
         ·have hb' : (decide (0 ≤ rd order i) && decide (rd order i ≤ (l.length : Int) - 1)) = false := by
           rw [Bool.eq_false_iff]
           simp
           omega
          simp only [hb', Bool.false_eq_true, if_false]
          exact Ev.now _
       exact hstop order.length 0 (by omega) (by omega) hbad
      ·rw [hany, hf]
       simp only [Option.bind_some, if_true]
       exact Ev.now _
    ·refine ⟨(false, 1), hj0 _ _ ?_, ?_, (fun h => by cases h), fun _ _ h => absurd h h7⟩
     ·simp only [hd, Bool.false_eq_true, if_false]
      refine Ev.bind hok ?_
      simp only [if_true]
      refine hj1 _ _ ?_
      simp only [decide_eq_true (show (order.length : Int) > 7 by omega), if_true]
      exact Ev.now _
     ·simp only [if_pos (show (order.length : Int) > 7 by omega)]
      exact Ev.now _
   ·have e : (decide (l.length ≤ 7) && l.all opOK) = false := by
     rw [Bool.eq_false_iff]
     simpa using h2
    rw [e] at hok
    refine ⟨(false, 1), hj0 _ _ ?_, ?_, (fun h => by cases h), fun h h' => absurd ⟨h, h'⟩ h2⟩
    ·simp only [hd, Bool.false_eq_true, if_false]
     refine Ev.bind hok ?_
     simp only [Bool.false_eq_true, if_false]
     refine hj1 _ _ ?_
     simp only [if_true]
     exact Ev.now _
    ·simp only [if_neg h2, if_neg (show ¬ (1 : Int) = 0 by decide)]
     exact Ev.now _
  ·refine ⟨(false, 2), hj0 _ _ ?_, ?_, (fun h => by cases h), fun _ _ h => by omega⟩
   ·simp only [decide_eq_true (show (order.length : Int) > 4096 by omega), if_true]
    exact Ev.now _
   ·simp only [if_neg (show ¬ (order.length : Int) ≤ 4096 by omega)]
    exact Ev.now _
 ·simp only [if_pos (show (l.length : Int) > 4096 by omega), if_neg hl]
  refine ⟨(false, 2), hj0 _ _ ?_, ?_, (fun h => by cases h), fun h => by omega⟩
  ·simp only [if_true]
   exact Ev.now _
  ·by_cases ho : (order.length : Int) ≤ 4096
   ·simp only [if_pos ho, if_neg (show ¬ (2 : Int) = 0 by decide)]
    exact Ev.now _
   ·simp only [if_neg ho]
    exact Ev.now _
end Go.Proofs.Ytmclmbhdgepjfaa.Pure

