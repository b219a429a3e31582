import Derived.Test.YtmclmbhdgepjfaaVeQx0
import Derived.Test.YtmclmbhdgepjfaaVeQx37
import Derived.Test.YtmclmbhdgepjfaaVeQx39
import Derived.Test.YtmclmbhdgepjfaaVeQx41
import Derived.Test.YtmclmbhdgepjfaaVeQx44
import Derived.Test.YtmclmbhdgepjfaaVeQx51
import Derived.Test.YtmclmbhdgepjfaaVeQx52
import Derived.Test.YtmclmbhdgepjfaaVeQx53
import Derived.Test.YtmclmbhdgepjfaaVeQx54
import Derived.Test.YtmclmbhdgepjfaaVeQx56
import Derived.Test.YtmclmbhdgepjfaaVeQx57
import Derived.Test.YtmclmbhdgepjfaaVeXpActs
namespace Go.Proofs.Ytmclmbhdgepjfaa.Pure
open Go.RowKit Go.Proofs.Ytmclmbhdgepjfaa.Q Go.Proofs.YtmclmbhdgepjfaaX Go.Proofs.YtmclmbhdgepjfaaW.PrintWords Go.Proofs.YtmclmbhdgepjfaaW.PrintLast
set_option linter.unusedVariables false
set_option linter.unusedSimpArgs false
set_option linter.unusedSectionVars false

theorem bytes_ext' {a b : ByteArray} (h : a.toList = b.toList) : a = b := by
 rw [ByteArray.toList_eq, ByteArray.toList_eq] at h
 obtain ⟨⟨l⟩⟩ := a
 obtain ⟨⟨m⟩⟩ := b
 simp at h
 subst h
 rfl
/-- One list holds a number. -/
def has (l : List Int) (v : Int) : Bool := l.any fun x => x == v
theorem has_app (l : List Int) (v w : Int) : has (l ++ [w]) v = (has l v || w == v) := by
 simp [has]
theorem spec_l10Has_l0 (l : List Int) (v : Int) (h : l.length ≤ 9223372036854775806) : ∀ (d : Nat) (i : Int), 0 ≤ i → i + d = l.length → Ev (fun k => spec_l10Has.l0 k l v i) (has (l.drop i.toNat) v) := by
 intro d
 induction d with
 | zero =>
  intro i h0 h1
  refine Ev.step (fun k => by rw [spec_l10Has.l0]) ?_
  rw [List.drop_eq_nil_of_le (by omega)]
  simp only [if_neg (show ¬ i < (l.length : Int) by omega)]
  exact Ev.now _
 | succ d ih =>
  intro i h0 h1
  have hi : i.toNat < l.length := by omega
  refine Ev.step (fun k => by rw [spec_l10Has.l0]) ?_
  have hd : l.drop i.toNat = l[i.toNat] :: l.drop (i + 1).toNat := by
   rw [List.drop_eq_getElem_cons hi, show (i + 1).toNat = i.toNat + 1 by omega]
  have hr : rd l i = l[i.toNat] := by
   show l.getD i.toNat 0 = _
   rw [List.getD_eq_getElem?_getD, List.getElem?_eq_getElem hi]; rfl
  rw [hd]
  simp only [if_pos (show i < (l.length : Int) by omega), if_pos h0, hr, wrap_up h0 (show i < (l.length : Int) by omega) (by omega)]
  by_cases hq : l[i.toNat] = v
  ·simp only [if_pos hq]
   have : has (l[i.toNat] :: l.drop (i + 1).toNat) v = true := by simp [has, hq]
   rw [this]
   exact Ev.now _
  ·simp only [if_neg hq]
   have : has (l[i.toNat] :: l.drop (i + 1).toNat) v = has (l.drop (i + 1).toNat) v := by simp [has, hq]
   rw [this]
   exact ih (i + 1) (by omega) (by omega)
theorem spec_l10Has_ev (l : List Int) (v : Int) (h : l.length ≤ 9223372036854775806) : Ev (fun k => spec_l10Has.f k l v) (has l v) := by
 exact spec_l10Has_l0 l v h l.length 0 (by omega) (by omega)
theorem slices_Index_l0 (l : List Int) (v : Int) (h : l.length ≤ 9223372036854775806) : ∀ (d : Nat) (i : Int), 0 ≤ i → i + d = l.length → ∃ r, ((0 ≤ r) ↔ has (l.drop i.toNat) v = true) ∧ Ev (fun k => slices_Index_int_int.l0 k l v (l.length : Int) i) r := by
 intro d
 induction d with
 | zero =>
  intro i h0 h1
  refine ⟨-1, ?_, Ev.step (fun k => by rw [slices_Index_int_int.l0]) ?_⟩
  ·rw [List.drop_eq_nil_of_le (by omega)]
   simp [has]
  ·simp only [if_neg (show ¬ i < (l.length : Int) by omega)]
   exact Ev.now _
 | succ d ih =>
  intro i h0 h1
  have hi : i.toNat < l.length := by omega
  have hd : l.drop i.toNat = l[i.toNat] :: l.drop (i + 1).toNat := by
   rw [List.drop_eq_getElem_cons hi, show (i + 1).toNat = i.toNat + 1 by omega]
  have hr : rd l i = l[i.toNat] := by
   show l.getD i.toNat 0 = _
   rw [List.getD_eq_getElem?_getD, List.getElem?_eq_getElem hi]; rfl
  rw [hd]
  by_cases hq : v = l[i.toNat]
  ·refine ⟨i, ?_, Ev.step (fun k => by rw [slices_Index_int_int.l0]) ?_⟩
   ·simp [has, hq, h0]
   ·simp only [if_pos (show i < (l.length : Int) by omega), if_pos h0, hr, if_pos hq]
    exact Ev.now _
  ·obtain ⟨r, h2, h3⟩ := ih (i + 1) (by omega) (by omega)
   refine ⟨r, ?_, Ev.step (fun k => by rw [slices_Index_int_int.l0]) ?_⟩
   ·rw [h2]
    simp [has, Ne.symm hq]
   ·simp only [if_pos (show i < (l.length : Int) by omega), if_pos h0, hr, if_neg hq, wrap_up h0 (show i < (l.length : Int) by omega) (by omega)]
    exact h3
theorem slices_Contains_ev (l : List Int) (v : Int) (h : l.length ≤ 9223372036854775806) : Ev (fun k => slices_Contains_int_int.f k l v) (has l v) := by
 obtain ⟨r, h1, h2⟩ := slices_Index_l0 l v h l.length 0 (by omega) (by omega)
 simp only [slices_Contains_int_int.f, slices_Index_int_int.f]
 refine Ev.bind h2 ?_
 have : decide (r ≥ 0) = has l v := by
  rw [Bool.eq_iff_iff, decide_eq_true_iff]
  exact h1
 rw [this]
 exact Ev.now _
/-- How many of the places below n no list holds. -/
def free (n : Nat) (l : List Int) : Nat := ((List.range n).filter fun j : Nat => !has l (j : Int)).length
theorem filter_le {α : Type} (p q : α → Bool) (hs : ∀ y, p y = true → q y = true) : ∀ (l : List α), (l.filter p).length ≤ (l.filter q).length
 | [] => Nat.le_refl _
 | y :: ys => by
  have ih := filter_le p q hs ys
  cases hp : p y with
  | true =>
   rw [List.filter_cons_of_pos hp, List.filter_cons_of_pos (hs y hp), List.length_cons, List.length_cons]
   omega
  | false =>
   rw [List.filter_cons_of_neg (by simp [hp])]
   cases hq : q y with
   | true =>
    rw [List.filter_cons_of_pos hq, List.length_cons]
    omega
   | false =>
    rw [List.filter_cons_of_neg (by simp [hq])]
    exact ih
theorem filter_less {α : Type} (p q : α → Bool) : ∀ (l : List α) (x : α), x ∈ l → q x = true → p x = false → (∀ y, p y = true → q y = true) → (l.filter p).length < (l.filter q).length
 | [], x, h, _, _, _ => by cases h
 | y :: ys, x, h, hq, hp, hs => by
  rcases List.mem_cons.1 h with rfl | hm
  ·have := filter_le p q hs ys
   rw [List.filter_cons_of_pos hq, List.filter_cons_of_neg (by simp [hp]), List.length_cons]
   omega
  ·have ih := filter_less p q ys x hm hq hp hs
   cases hp' : p y with
   | true =>
    rw [List.filter_cons_of_pos hp', List.filter_cons_of_pos (hs y hp'), List.length_cons, List.length_cons]
    omega
   | false =>
    rw [List.filter_cons_of_neg (by simp [hp'])]
    cases hq' : q y with
    | true =>
     rw [List.filter_cons_of_pos hq', List.length_cons]
     omega
    | false =>
     rw [List.filter_cons_of_neg (by simp [hq'])]
     exact ih
theorem free_app (n : Nat) (l : List Int) (i : Int) (h0 : 0 ≤ i) (h1 : i < n) (h : has l i = false) : free n (l ++ [i]) < free n l := by
 obtain ⟨m, rfl⟩ : ∃ m : Nat, i = (m : Int) := ⟨i.toNat, by omega⟩
 refine filter_less (fun j : Nat => !has (l ++ [(m : Int)]) (j : Int)) (fun j : Nat => !has l (j : Int)) _ m (List.mem_range.2 (by omega)) ?_ ?_ ?_
 ·simp [h]
 ·simp [has_app]
 ·intro y hy
  simp only [has_app, Bool.not_or, Bool.and_eq_true] at hy
  exact hy.1
/-- One act has ended before the other one begins. -/
def aheadB (a b : S89) : Bool := decide (a.f1 ≥ 0) && decide (a.f1 < b.f0)
theorem isAhead_eq (a b : S89) : impl_Op_isAhead.f a.f0 a.f1 a.f2 a.f3 b.f0 b.f1 b.f2 b.f3 = some (aheadB a b) := by
 unfold impl_Op_isAhead.f impl_Op_hasEnded.f aheadB
 simp only [Option.bind_some]
 by_cases h : a.f1 ≥ 0
 ·simp [h]
 ·simp [h]
theorem l14Ahead_eq (a b : S89) : spec_l14Ahead.f a.f0 a.f1 a.f2 a.f3 b.f0 b.f1 b.f2 b.f3 = some (aheadB a b) := by
 unfold spec_l14Ahead.f aheadB
 by_cases h : a.f1 ≥ 0
 ·simp [h]
 ·simp [h]
theorem ahead_self {a : S89} (h : opOK a = true) : aheadB a a = false := by
 simp [opOK] at h
 simp [aheadB]
 omega
section
variable (ops : List S89) (hops : ops.all opOK = true) (hn : ops.length ≤ 7)
include hops hn
/-- May the place go next? The program's answer, and how the reference's loop goes on. -/
theorem mayGo_rel (ids : List Int) (hids : ids.length ≤ 1000) (v : ByteArray) (i : Int) (h0 : 0 ≤ i) (h1 : i < ops.length) (hi : has ids i = false) : ∀ (d : Nat) (j : Int), 0 ≤ j → j + d = ops.length →
  ∃ t, Ev (fun k => impl_mayGo.l0 k ops ids i ops (ops.length : Int) j) t ∧
   ∀ r, (t = true → Ev (fun k => spec_l14Search.l2 k ops ids v i true (ops.length : Int)) r) → (t = false → Ev (fun k => spec_l14Search.l1 k ops ids v (i + 1)) r) → Ev (fun k => spec_l14Search.l2 k ops ids v i true j) r := by
 have hw1 : wrap64 (i + 1) = i + 1 := by unfold wrap64; omega
 -- where it may not, the loop runs out
 have hout : ∀ (r : List Int × Bool), Ev (fun k => spec_l14Search.l1 k ops ids v (i + 1)) r → ∀ (d : Nat) (j : Int), 0 ≤ j → j + d = ops.length → Ev (fun k => spec_l14Search.l2 k ops ids v i false j) r := by
  intro r hr d
  induction d with
  | zero =>
   intro j h2 h3
   refine Ev.step (fun k => by rw [spec_l14Search.l2]) ?_
   simp only [if_neg (show ¬ j < (ops.length : Int) by omega), Bool.false_eq_true, if_false, hw1]
   exact hr
  | succ d ih =>
   intro j h2 h3
   refine Ev.step (fun k => by rw [spec_l14Search.l2]) ?_
   simp only [if_pos (show j < (ops.length : Int) by omega), Bool.false_eq_true, if_false, wrap_up h2 (show j < (ops.length : Int) by omega) (by omega)]
   exact ih (j + 1) (by omega) (by omega)
 intro d
 induction d with
 | zero =>
  intro j h2 h3
  refine ⟨true, Ev.step (fun k => by rw [impl_mayGo.l0]) ?_, ?_⟩
  ·simp only [if_neg (show ¬ j < (ops.length : Int) by omega)]
   exact Ev.now _
  ·intro r hr _
   rw [show j = (ops.length : Int) by omega]
   exact hr rfl
 | succ d ih =>
  intro j h2 h3
  have hj : j < (ops.length : Int) := by omega
  have hw := wrap_up h2 hj (by omega)
  obtain ⟨t, h4, h5⟩ := ih (j + 1) (by omega) (by omega)
  have hhas := spec_l10Has_ev ids j (by omega)
  have hhas' := slices_Contains_ev ids j (by omega)
  cases hq : has ids j with
  | true =>
   have hne : ¬ j = i := fun e => by rw [e, hi] at hq; cases hq
   rw [hq] at hhas hhas'
   refine ⟨t, Ev.step (fun k => by rw [impl_mayGo.l0]) ?_, fun r hr hr' => Ev.step (fun k => by rw [spec_l14Search.l2]) ?_⟩
   ·simp only [if_pos hj, if_pos h2, if_neg hne, hw]
    refine Ev.bind hhas' ?_
    simp only [if_true]
    exact h4
   ·simp only [if_pos hj, if_true, hw]
    refine Ev.bind hhas ?_
    simp only [if_true]
    exact h5 r hr hr'
  | false =>
   rw [hq] at hhas hhas'
   by_cases hne : j = i
   ·have ha : aheadB (rd_T89 ops j) (rd_T89 ops i) = false := by
     rw [hne]
     exact ahead_self (List.all_eq_true.1 hops _ (getD_mem _ h0 h1))
    refine ⟨t, Ev.step (fun k => by rw [impl_mayGo.l0]) ?_, fun r hr hr' => Ev.step (fun k => by rw [spec_l14Search.l2]) ?_⟩
    ·simp only [if_pos hj, if_pos h2, if_pos hne, hw]
     exact h4
    ·simp only [if_pos hj, if_true, hw]
     refine Ev.bind hhas ?_
     simp only [Bool.false_eq_true, if_false, if_pos h2, if_pos h0, if_pos h1, l14Ahead_eq, ha, Option.bind_some, Bool.not_false]
     exact h5 r hr hr'
   ·cases ha : aheadB (rd_T89 ops j) (rd_T89 ops i) with
    | false =>
     refine ⟨t, Ev.step (fun k => by rw [impl_mayGo.l0]) ?_, fun r hr hr' => Ev.step (fun k => by rw [spec_l14Search.l2]) ?_⟩
     ·simp only [if_pos hj, if_pos h2, if_neg hne, hw]
      refine Ev.bind hhas' ?_
      simp only [Bool.false_eq_true, if_false, if_pos h0, if_pos h1, isAhead_eq, ha, Option.bind_some]
      exact h4
     ·simp only [if_pos hj, if_true, hw]
      refine Ev.bind hhas ?_
      simp only [Bool.false_eq_true, if_false, if_pos h2, if_pos h0, if_pos h1, l14Ahead_eq, ha, Option.bind_some, Bool.not_false]
      exact h5 r hr hr'
    | true =>
     refine ⟨false, Ev.step (fun k => by rw [impl_mayGo.l0]) ?_, fun r hr hr' => Ev.step (fun k => by rw [spec_l14Search.l2]) ?_⟩
     ·simp only [if_pos hj, if_pos h2, if_neg hne, hw]
      refine Ev.bind hhas' ?_
      simp only [Bool.false_eq_true, if_false, if_pos h0, if_pos h1, isAhead_eq, ha, Option.bind_some, if_true]
      exact Ev.now _
     ·simp only [if_pos hj, if_true, hw]
      refine Ev.bind hhas ?_
      simp only [Bool.false_eq_true, if_false, if_pos h2, if_pos h0, if_pos h1, l14Ahead_eq, ha, Option.bind_some, Bool.not_true]
      exact hout r (hr' rfl) d (j + 1) (by omega) (by omega)
/-- Both searches from one place on, told that they agree on all that is longer. -/
theorem l1_rel (ids : List Int) (v : ByteArray) (hids : ids.length ≤ 1000)
  (ih : ∀ (i : Int) (w : ByteArray), 0 ≤ i → i < ops.length → has ids i = false → ∃ r, r.1.length ≤ 7 ∧ Ev (fun k => spec_l14Search.f k ops (ids ++ [i]) w) r ∧ Ev (fun k => impl_linear.f k ops (ids ++ [i]) w) r) :
  ∀ (d : Nat) (i : Int), 0 ≤ i → i + d = ops.length → ∃ r, r.1.length ≤ 7 ∧ Ev (fun k => spec_l14Search.l1 k ops ids v i) r ∧ Ev (fun k => impl_linear.l1 k ops ids v ops (ops.length : Int) i) r := by
 intro d
 induction d with
 | zero =>
  intro i h0 h1
  refine ⟨([], false), by simp, Ev.step (fun k => by rw [spec_l14Search.l1]) ?_, Ev.step (fun k => by rw [impl_linear.l1]) ?_⟩ <;> simp only [if_neg (show ¬ i < (ops.length : Int) by omega)] <;> exact Ev.now _
 | succ d ihd =>
  intro i h0 h1
  have hi : i < (ops.length : Int) := by omega
  have hw := wrap_up h0 hi (by omega)
  obtain ⟨rn, hln, h2, h3⟩ := ihd (i + 1) (by omega) (by omega)
  have hhas := spec_l10Has_ev ids i (by omega)
  have hhas' := slices_Contains_ev ids i (by omega)
  generalize hx : rd_T89 ops i = x
  -- the program's step, once what it finds is known
  have himpl : ∀ (w : ByteArray) (b : Bool) (r : List Int × Bool), impl_Op_finds.f x.f0 x.f1 x.f2 x.f3 v = some (w, b) →
    (b = true → ∃ t, Ev (fun k => impl_mayGo.f k ops ids i) t ∧ Ev (fun k => impl_linear.j2 k ops ids v i w ops (ops.length : Int) i (!t)) r) → (b = false → Ev (fun k => impl_linear.l1 k ops ids v ops (ops.length : Int) (i + 1)) r) → Ev (fun k => impl_linear.l1 k ops ids v ops (ops.length : Int) i) r := by
   intro w b r hf hy hno
   refine Ev.step (fun k => by rw [impl_linear.l1]) ?_
   simp only [if_pos hi, if_pos h0, hx, hf, Option.bind_some]
   cases b with
   | true =>
    obtain ⟨t, h4, h5⟩ := hy rfl
    simp only [if_true]
    exact Ev.bind h4 h5
   | false =>
    simp only [Bool.false_eq_true, if_false]
    refine Ev.step (fun k => by rw [impl_linear.j2]) ?_
    simp only [if_true, hw]
    exact hno rfl
  have hskip : ∀ w, Ev (fun k => impl_linear.j2 k ops ids v i w ops (ops.length : Int) i true) rn := by
   intro w
   refine Ev.step (fun k => by rw [impl_linear.j2]) ?_
   simp only [if_true, hw]
   exact h3
  have hsskip : Ev (fun k => spec_l14Search.j2 k ops ids v i true) rn := by
   refine Ev.step (fun k => by rw [spec_l14Search.j2]) ?_
   simp only [if_true, hw]
   exact h2
  have hfind : ∃ w b, impl_Op_finds.f x.f0 x.f1 x.f2 x.f3 v = some (w, b) ∧ (x.f2 = true → b = true ∧ w = x.f3) ∧ (x.f2 = false → b = (x.f3.toList == v.toList) ∧ w = x.f3) := by
   unfold impl_Op_finds.f
   cases x.f2 with
   | true => exact ⟨x.f3, true, rfl, (fun _ => ⟨rfl, rfl⟩), (fun h => nomatch h)⟩
   | false => exact ⟨x.f3, (x.f3.toList == v.toList), rfl, (fun h => nomatch h), fun _ => ⟨rfl, rfl⟩⟩
  obtain ⟨w, b, hf, hf1, hf2⟩ := hfind
  cases hq : has ids i with
  | true =>
   rw [hq] at hhas hhas'
   refine ⟨rn, hln, ?_, himpl w b rn hf (fun _ => ⟨false, ?_, hskip w⟩) (fun _ => h3)⟩
   ·refine Ev.step (fun k => by rw [spec_l14Search.l1]) ?_
    simp only [if_pos hi]
    refine Ev.bind hhas ?_
    simp only [if_true]
    exact hsskip
   ·simp only [impl_mayGo.f]
    refine Ev.bind hhas' ?_
    simp only [if_true]
    exact Ev.now _
  | false =>
   rw [hq] at hhas hhas'
   obtain ⟨t, h4, h5⟩ := mayGo_rel ops hops hn ids hids v i h0 hi hq ops.length 0 (by omega) (by omega)
   have hmay : Ev (fun k => impl_mayGo.f k ops ids i) t := by
    simp only [impl_mayGo.f]
    refine Ev.bind hhas' ?_
    simp only [Bool.false_eq_true, if_false]
    exact h4
   -- the reference's place, once what the act asks for holds
   have hspec : ∀ (q : Bool) (r : List Int × Bool), ((x.f2 = true ∧ q = false) ∨ (x.f2 = false ∧ q = (x.f3.toList != v.toList))) → Ev (fun k => spec_l14Search.j2 k ops ids v i q) r → Ev (fun k => spec_l14Search.l1 k ops ids v i) r := by
    intro q r hc hr
    refine Ev.step (fun k => by rw [spec_l14Search.l1]) ?_
    simp only [if_pos hi]
    refine Ev.bind hhas ?_
    simp only [Bool.false_eq_true, if_false, if_pos h0, hx]
    rcases hc with ⟨h6, rfl⟩ | ⟨h6, rfl⟩
    ·simp only [h6, if_true]
     exact hr
    ·simp only [h6, Bool.false_eq_true, if_false]
     exact hr
   cases t with
   | false =>
    have hsp : ∀ q, Ev (fun k => spec_l14Search.j2 k ops ids v i q) rn := by
     intro q
     cases q with
     | true => exact hsskip
     | false =>
      refine Ev.step (fun k => by rw [spec_l14Search.j2]) ?_
      simp only [Bool.false_eq_true, if_false]
      exact h5 rn (fun h => by cases h) (fun _ => h2)
    refine ⟨rn, hln, ?_, himpl w b rn hf (fun _ => ⟨false, hmay, hskip w⟩) (fun _ => h3)⟩
    cases hb : x.f2 with
    | true => exact hspec false rn (.inl ⟨hb, rfl⟩) (hsp _)
    | false => exact hspec _ rn (.inr ⟨hb, rfl⟩) (hsp _)
   | true =>
    -- it may go: both go on with one more
    have hgo : ∀ u : ByteArray, ((x.f2 = true ∧ u = x.f3) ∨ (x.f2 = false ∧ u = v)) → ∃ r, r.1.length ≤ 7 ∧ Ev (fun k => spec_l14Search.j2 k ops ids v i false) r ∧ Ev (fun k => impl_linear.j2 k ops ids v i u ops (ops.length : Int) i false) r := by
     intro u hu
     obtain ⟨⟨ra, rb⟩, hlr, h6, h7⟩ := ih i u h0 hi hq
     have hfit : ([] ++ ids : List Int) = ids := rfl
     have hend : ∀ r, Ev (fun k => (spec_l14Search.f k ops (ids ++ [i]) u).bind fun bt => (if bt.2 = true then (some (bt.1, true)) else (spec_l14Search.l1 k ops ids v (i + 1)))) r → Ev (fun k => spec_l14Search.j2 k ops ids v i false) r := by
      intro r hr
      refine Ev.step (fun k => by rw [spec_l14Search.j2]) ?_
      simp only [Bool.false_eq_true, if_false]
      refine h5 r (fun _ => ?_) (fun h => by cases h)
      refine Ev.step (fun k => by rw [spec_l14Search.l2]) ?_
      simp only [if_neg (show ¬ (ops.length : Int) < (ops.length : Int) by omega), if_true, if_pos h0, if_pos hi, hx, Option.bind_some, List.nil_append, List.length_nil, hw, if_pos (show 0 + ids.length < 17592186044416 by omega), if_pos (show ids.length < 17592186044416 by omega)]
      rcases hu with ⟨h8, rfl⟩ | ⟨h8, rfl⟩
      ·simp only [h8, if_true]
       exact hr
      ·simp only [h8, Bool.false_eq_true, if_false]
       exact hr
     have hiend : ∀ r, Ev (fun k => (impl_linear.f k ops (ids ++ [i]) u).bind fun bt => (if bt.2 = true then (some (bt.1, true)) else (impl_linear.l1 k ops ids v ops (ops.length : Int) (i + 1)))) r → Ev (fun k => impl_linear.j2 k ops ids v i u ops (ops.length : Int) i false) r := by
      intro r hr
      refine Ev.step (fun k => by rw [impl_linear.j2]) ?_
      simp only [Bool.false_eq_true, if_false, slices_Clone_int_int.f, if_pos (show ids.length < 17592186044416 by omega), Option.bind_some, hw]
      exact hr
     cases rb with
     | true =>
      refine ⟨(ra, true), hlr, hend _ (Ev.bind h6 ?_), hiend _ (Ev.bind h7 ?_)⟩ <;> simp only [if_true] <;> exact Ev.now _
     | false =>
      refine ⟨rn, hln, hend _ (Ev.bind h6 ?_), hiend _ (Ev.bind h7 ?_)⟩ <;> simp only [Bool.false_eq_true, if_false]
      ·exact h2
      ·exact h3
    cases hb : x.f2 with
    | true =>
     obtain ⟨rfl, rfl⟩ := hf1 hb
     obtain ⟨r, hlr, h6, h7⟩ := hgo x.f3 (.inl ⟨hb, rfl⟩)
     exact ⟨r, hlr, hspec false r (.inl ⟨hb, rfl⟩) h6, himpl _ _ r hf (fun _ => ⟨true, hmay, h7⟩) (fun h => by cases h)⟩
    | false =>
     obtain ⟨hbb, rfl⟩ := hf2 hb
     cases hs : (x.f3.toList == v.toList) with
     | true =>
      have hsv : x.f3 = v := by
       have h6 : x.f3.toList = v.toList := by simpa using hs
       exact bytes_ext' h6
      obtain ⟨r, hlr, h6, h7⟩ := hgo x.f3 (.inr ⟨hb, hsv⟩)
      refine ⟨r, hlr, hspec _ r (.inr ⟨hb, rfl⟩) ?_, himpl _ _ r hf (fun _ => ⟨true, hmay, h7⟩) (fun h => by rw [hbb, hs] at h; cases h)⟩
      have : (x.f3.toList != v.toList) = false := by rw [bne, hs]; rfl
      rw [this]
      exact h6
     | false =>
      refine ⟨rn, hln, hspec _ rn (.inr ⟨hb, rfl⟩) ?_, himpl _ _ rn hf (fun h => by rw [hbb, hs] at h; cases h) (fun _ => h3)⟩
      have : (x.f3.toList != v.toList) = true := by rw [bne, hs]; rfl
      rw [this]
      exact hsskip
theorem l0_rel (ids : List Int) (v : ByteArray) (hids : ids.length ≤ 1000) (r1 : List Int × Bool) (hr : Ev (fun k => spec_l14Search.l1 k ops ids v 0) r1) (hr' : Ev (fun k => impl_linear.l1 k ops ids v ops (ops.length : Int) 0) r1) :
  ∀ (d : Nat) (i : Int) (b : Bool), 0 ≤ i → i + d = ops.length → ∃ r, (r = r1 ∨ r = (ids, true)) ∧ Ev (fun k => spec_l14Search.l0 k ops ids v (!b) i) r ∧ Ev (fun k => impl_linear.l0 k ops ids v b ops (ops.length : Int) i) r := by
 intro d
 induction d with
 | zero =>
  intro i b h0 h1
  cases b with
  | true =>
   refine ⟨r1, .inl rfl, Ev.step (fun k => by rw [spec_l14Search.l0]) ?_, Ev.step (fun k => by rw [impl_linear.l0]) ?_⟩ <;> simp only [if_neg (show ¬ i < (ops.length : Int) by omega), Bool.not_true, Bool.false_eq_true, if_false, if_true]
   ·exact hr
   ·exact hr'
  | false =>
   refine ⟨(ids, true), .inr rfl, Ev.step (fun k => by rw [spec_l14Search.l0]) ?_, Ev.step (fun k => by rw [impl_linear.l0]) ?_⟩ <;> simp only [if_neg (show ¬ i < (ops.length : Int) by omega), Bool.not_false, Bool.false_eq_true, if_false, if_true] <;> exact Ev.now _
 | succ d ih =>
  intro i b h0 h1
  have hi : i < (ops.length : Int) := by omega
  have hw := wrap_up h0 hi (by omega)
  cases b with
  | true =>
   obtain ⟨r, h2, h3, h4⟩ := ih (i + 1) true (by omega) (by omega)
   refine ⟨r, h2, Ev.step (fun k => by rw [spec_l14Search.l0]) ?_, Ev.step (fun k => by rw [impl_linear.l0]) ?_⟩
   ·simp only [if_pos hi, Bool.not_true, Bool.false_eq_true, if_false, hw]
    exact h3
   ·simp only [if_pos hi, if_pos h0, if_true, hw]
    exact h4
  | false =>
   by_cases hneg : (rd_T89 ops i).f1 < 0
   ·obtain ⟨r, h2, h3, h4⟩ := ih (i + 1) false (by omega) (by omega)
    refine ⟨r, h2, Ev.step (fun k => by rw [spec_l14Search.l0]) ?_, Ev.step (fun k => by rw [impl_linear.l0]) ?_⟩
    ·simp only [if_pos hi, Bool.not_false, if_true, if_pos h0, if_pos hneg, hw]
     exact h3
    ·simp only [if_pos hi, if_pos h0, Bool.false_eq_true, if_false, impl_Op_hasEnded.f, Option.bind_some, decide_eq_true_iff, if_neg (show ¬ (rd_T89 ops i).f1 ≥ 0 by omega), hw]
     exact h4
   ·obtain ⟨r, h2, h3, h4⟩ := ih (i + 1) (!has ids i) (by omega) (by omega)
    rw [Bool.not_not] at h3
    refine ⟨r, h2, Ev.step (fun k => by rw [spec_l14Search.l0]) ?_, Ev.step (fun k => by rw [impl_linear.l0]) ?_⟩
    ·simp only [if_pos hi, Bool.not_false, if_true, if_pos h0, if_neg hneg, hw]
     exact Ev.bind (spec_l10Has_ev ids i (by omega)) h3
    ·simp only [if_pos hi, if_pos h0, Bool.false_eq_true, if_false, impl_Op_hasEnded.f, Option.bind_some, decide_eq_true_iff, if_pos (show (rd_T89 ops i).f1 ≥ 0 by omega), hw]
     exact Ev.bind (slices_Contains_ev ids i (by omega)) h4
theorem linear_rel : ∀ (m : Nat) (ids : List Int) (v : ByteArray), free ops.length ids ≤ m → ids.length + m ≤ 7 → ∃ r, r.1.length ≤ 7 ∧ Ev (fun k => spec_l14Search.f k ops ids v) r ∧ Ev (fun k => impl_linear.f k ops ids v) r := by
 intro m
 induction m with
 | zero =>
  intro ids v hf hl
  obtain ⟨r1, hl1, h1, h2⟩ := l1_rel ops hops hn ids v (by omega) (fun i w h0 h1 hq => by
   have := free_app ops.length ids i h0 h1 hq
   omega) ops.length 0 (by omega) (by omega)
  obtain ⟨r, hc, h3, h4⟩ := l0_rel ops hops hn ids v (by omega) r1 h1 h2 ops.length 0 false (by omega) (by omega)
  rw [Bool.not_false] at h3
  refine ⟨r, ?_, Ev.step (fun k => by rw [spec_l14Search.f]) h3, Ev.step (fun k => by rw [impl_linear.f]) h4⟩
  rcases hc with rfl | rfl
  ·exact hl1
  ·show ids.length ≤ 7
   omega
 | succ m ih =>
  intro ids v hf hl
  obtain ⟨r1, hl1, h1, h2⟩ := l1_rel ops hops hn ids v (by omega) (fun i w h0 h1 hq => by
   have := free_app ops.length ids i h0 h1 hq
   exact ih (ids ++ [i]) w (by omega) (by simp; omega)) ops.length 0 (by omega) (by omega)
  obtain ⟨r, hc, h3, h4⟩ := l0_rel ops hops hn ids v (by omega) r1 h1 h2 ops.length 0 false (by omega) (by omega)
  rw [Bool.not_false] at h3
  refine ⟨r, ?_, Ev.step (fun k => by rw [spec_l14Search.f]) h3, Ev.step (fun k => by rw [impl_linear.f]) h4⟩
  rcases hc with rfl | rfl
  ·exact hl1
  ·show ids.length ≤ 7
   omega
end
theorem free_start (n : Nat) : free n [] ≤ n := by
 unfold free
 exact Nat.le_trans (List.length_filter_le _ _) (by simp)
theorem LinearOrder_rel (l : List S89) : ∃ r, r.1.length ≤ 7 ∧ Ev (fun k => spec_LinearOrder.f k l) r ∧ Ev (fun k => impl_LinearOrder.f k l) r := by
 simp only [spec_LinearOrder.f, impl_LinearOrder.f, opsCode_eq, Option.bind_some]
 by_cases h : l.length ≤ 4096
 ·simp only [if_neg (show ¬ (l.length : Int) > 4096 by omega), if_pos h]
  have hok := spec_OpsOK_eq l
  by_cases h2 : l.length ≤ 7 ∧ l.all opOK = true
  ·obtain ⟨⟨ra, rb⟩, h3, h4, h5⟩ := linear_rel l h2.2 h2.1 l.length [] ⟨#[]⟩ (free_start _) (by simp; omega)
   have e : (decide (l.length ≤ 7) && l.all opOK) = true := by simpa using h2
   rw [e] at hok
   simp only [if_pos h2, if_true]
   cases rb with
   | true =>
    refine ⟨(ra, 0), h3, Ev.bind hok ?_, Ev.bind h5 (Ev.now _)⟩
    simp only [if_true]
    exact Ev.bind h4 (Ev.now _)
   | false =>
    refine ⟨([], 5), by simp, Ev.bind hok ?_, Ev.bind h5 (Ev.now _)⟩
    simp only [if_true]
    exact Ev.bind h4 (Ev.now _)
  ·have e : (decide (l.length ≤ 7) && l.all opOK) = false := by
    rw [Bool.eq_false_iff]
    simpa using h2
   rw [e] at hok
   simp only [if_neg h2, if_neg (show ¬ (1 : Int) = 0 by decide)]
   refine ⟨([], 1), by simp, Ev.bind hok ?_, Ev.now _⟩
   simp only [Bool.false_eq_true, if_false]
   exact Ev.now _
 ·simp only [if_pos (show (l.length : Int) > 4096 by omega), if_neg h, if_neg (show ¬ (2 : Int) = 0 by decide)]
  exact ⟨([], 2), by simp, Ev.now _, Ev.now _⟩
end Go.Proofs.Ytmclmbhdgepjfaa.Pure

