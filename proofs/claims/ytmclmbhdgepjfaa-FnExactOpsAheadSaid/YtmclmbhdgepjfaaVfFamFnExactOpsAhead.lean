import Derived.Test.YtmclmbhdgepjfaaVfQx3
import Derived.Test.YtmclmbhdgepjfaaVfQx4
import Derived.Test.YtmclmbhdgepjfaaVfQx5
import Derived.Test.YtmclmbhdgepjfaaVfQx6
import Derived.Test.YtmclmbhdgepjfaaVfQx7
import Derived.Test.YtmclmbhdgepjfaaVfQx9
import Derived.Test.YtmclmbhdgepjfaaVfQx10
import Derived.Test.YtmclmbhdgepjfaaVfQx33
import Derived.Test.YtmclmbhdgepjfaaVfQx34
import Derived.Test.YtmclmbhdgepjfaaVfQx35
import Derived.Test.YtmclmbhdgepjfaaVfQx40
import Derived.Test.YtmclmbhdgepjfaaVfXPure
namespace Go.Proofs.Ytmclmbhdgepjfaa.FamFnExactOpsAhead
open Go.RowKit Go.Proofs.Ytmclmbhdgepjfaa.Q Go.Proofs.YtmclmbhdgepjfaaX Go.Proofs.YtmclmbhdgepjfaaW.PrintWords Go.Proofs.YtmclmbhdgepjfaaW.PrintLast
set_option linter.unusedVariables false
set_option linter.unusedSimpArgs false
/-! laws_szOp -/
theorem laws_szOp_ok (p0 : Int) (p1 : Int) (p2 : Bool) (p3 : ByteArray) (hp3 : p3.size ≤ 140737488351232)  {e : Int} (he0 : 0 ≤ e) (he1 : e ≤ 1048576) : ∃ r, r ≤ 1048576 ∧ laws_szOp.f p0 p1 p2 p3 e = some r := by
 simp only [laws_szOp.f]
 obtain ⟨r0, hc0⟩ : ∃ z, e - (p3.size : Int) = z := ⟨_, rfl⟩
 have hw0 : wrap64 (e - (p3.size : Int)) = r0 := by unfold wrap64; omega
 by_cases hn0 : r0 < 0
 ·refine ⟨-1, by omega, ?_⟩
  simp only [hw0, if_pos hn0]
 ·refine ⟨r0, by omega, ?_⟩
  simp only [hw0, if_neg hn0]
/-! laws_szOpS -/
theorem laws_szOpS_ok_l0 (p : List (S97)) (h : p.length ≤ 140737488351232) (hy : ∀ y ∈ p, y.f3.size ≤ 140737488351232) : ∀ (d : Nat) (i e : Int), 0 ≤ i → i + d = p.length → 0 ≤ e → e ≤ 1048576 → ∃ r, r ≤ 1048576 ∧ Ev (fun k => laws_szOpS.l0 k p e i) r := by
 intro d
 induction d with
 | zero =>
  intro i e h0 h1 h2 h3
  refine ⟨e, h3, Ev.step (fun k => by rw [laws_szOpS.l0]) ?_⟩
  simp only [if_neg (show ¬ i < (p.length : Int) by omega)]
  exact Ev.now _
 | succ d ih =>
  intro i e h0 h1 h2 h3
  have hx := hy (rd_T97 p i) (getD_mem _ h0 (by omega))
  obtain ⟨r, hr1, hr⟩ := laws_szOp_ok ((rd_T97 p i).f0) ((rd_T97 p i).f1) ((rd_T97 p i).f2) ((rd_T97 p i).f3) hx h2 h3
  by_cases hn : r < 0
  ·refine ⟨-1, by omega, Ev.step (fun k => by rw [laws_szOpS.l0]) ?_⟩
   simp only [if_pos (show i < (p.length : Int) by omega), if_pos h0, wrap_up h0 (show i < (p.length : Int) by omega) (by omega : p.length ≤ 9223372036854775807), hr, Option.bind_some]
   simp only [if_pos hn]
   exact Ev.now _
  ·obtain ⟨r2, hr2, hr3⟩ := ih (i + 1) r (by omega) (by omega) (by omega) hr1
   refine ⟨r2, hr2, Ev.step (fun k => by rw [laws_szOpS.l0]) ?_⟩
   simp only [if_pos (show i < (p.length : Int) by omega), if_pos h0, wrap_up h0 (show i < (p.length : Int) by omega) (by omega : p.length ≤ 9223372036854775807), hr, Option.bind_some]
   simp only [if_neg hn]
   exact hr3
theorem laws_szOpS_ok (p : List (S97)) (hp : p.length ≤ 140737488351232) (hy : ∀ y ∈ p, y.f3.size ≤ 140737488351232) {e : Int} (he0 : 0 ≤ e) (he1 : e ≤ 1048576) : ∃ r, r ≤ 1048576 ∧ Ev (fun k => laws_szOpS.f k p e) r := by
 have hw : wrap64 (e - (p.length : Int)) = e - (p.length : Int) := by unfold wrap64; omega
 by_cases hn : e - (p.length : Int) < 0
 ·refine ⟨-1, by omega, ?_⟩
  simp only [laws_szOpS.f, hw, if_pos hn]
  exact Ev.now _
 ·obtain ⟨r, hr1, hr⟩ := laws_szOpS_ok_l0 p hp hy p.length 0 (e - (p.length : Int)) (by omega) (by omega) (by omega) (by omega)
  refine ⟨r, hr1, ?_⟩
  simp only [laws_szOpS.f, hw, if_neg hn]
  exact hr
/-! laws_toOp -/
theorem laws_toOp_ok (p0 : Int) (p1 : Int) (p2 : Bool) (p3 : ByteArray) : laws_toOp.f p0 p1 p2 p3 = some (p0, p1, p2, p3) := by
 simp only [laws_toOp.f, Option.bind_some]
/-! laws_toOpS -/
theorem laws_toOpS_ok_l0 (p : List (S97)) (h : p.length ≤ 9223372036854775807) : ∀ (d : Nat) (i : Int) (acc : List (S89)), 0 ≤ i → i + d = p.length → acc.length = p.length → acc.take i.toNat = (p.map (fun x : S97 => (⟨x.f0, x.f1, x.f2, x.f3⟩ : S89))).take i.toNat → Ev (fun k => laws_toOpS.l0 k p acc i) (p.map (fun x : S97 => (⟨x.f0, x.f1, x.f2, x.f3⟩ : S89))) := by
 intro d
 induction d with
 | zero =>
  intro i acc h0 h1 h2 h3
  refine Ev.step (fun k => by rw [laws_toOpS.l0]) ?_
  simp only [if_neg (show ¬ i < (p.length : Int) by omega)]
  rw [take_whole (a := acc) (b := p.map (fun x : S97 => (⟨x.f0, x.f1, x.f2, x.f3⟩ : S89))) (by simpa using h2) (by omega) h3]
  exact Ev.now _
 | succ d ih =>
  intro i acc h0 h1 h2 h3
  refine Ev.step (fun k => by rw [laws_toOpS.l0]) ?_
  simp only [if_pos (show i < (p.length : Int) by omega), if_pos h0, wrap_up h0 (show i < (p.length : Int) by omega) h, if_pos (show i < (acc.length : Int) by omega), laws_toOp_ok, Option.bind_some]
  exact ih (i + 1) _ (by omega) (by omega) (by simpa using h2) (take_step (c := (fun x : S97 => (⟨x.f0, x.f1, x.f2, x.f3⟩ : S89))) z97 h0 (by omega) h2 h3)
theorem laws_toOpS_ok (p : List (S97)) (hp : p.length ≤ 9223372036854775807) (hlp : p.length ≤ 7036874417766) : Ev (fun k => laws_toOpS.f k p) (p.map (fun x : S97 => (⟨x.f0, x.f1, x.f2, x.f3⟩ : S89))) := by
 simp only [laws_toOpS.f, if_pos (show 0 ≤ (p.length : Int) by omega), if_pos (show ((p.length : Int) : Int).toNat ≤ 7036874417766 by omega)]
 exact laws_toOpS_ok_l0 p hp p.length 0 _ (by omega) (by omega) (by simp) (by simp)
/-! laws_eqOp -/
theorem laws_eqOp_refl (p0 : Int) (p1 : Int) (p2 : Bool) (p3 : ByteArray) : laws_eqOp.f p0 p1 p2 p3 p0 p1 p2 p3 = some true := by
 simp [laws_eqOp.f]
/-! laws_eqOpS -/
theorem laws_eqOpS_refl_l0 (p : List (S89)) (h : p.length ≤ 9223372036854775807) : ∀ (d : Nat) (i : Int), 0 ≤ i → i + d = p.length → Ev (fun k => laws_eqOpS.l0 k p p i) true := by
 intro d
 induction d with
 | zero =>
  intro i h0 h1
  refine Ev.step (fun k => by rw [laws_eqOpS.l0]) ?_
  simp only [if_neg (show ¬ i < (p.length : Int) by omega)]
  exact Ev.now _
 | succ d ih =>
  intro i h0 h1
  refine Ev.step (fun k => by rw [laws_eqOpS.l0]) ?_
  simp only [if_pos (show i < (p.length : Int) by omega), if_pos h0, wrap_up h0 (show i < (p.length : Int) by omega) h, laws_eqOp_refl, Option.bind_some, if_true]
  exact ih (i + 1) (by omega) (by omega)
theorem laws_eqOpS_refl (p : List (S89)) (hp0 : p.length ≤ 9223372036854775807) : Ev (fun k => laws_eqOpS.f k p p) true := by
 simp only [laws_eqOpS.f, if_true]
 exact laws_eqOpS_refl_l0 p hp0 p.length 0 (by omega) (by omega)
/-! laws_markText -/
theorem laws_markText_l0 : ∀ (d : Nat) (n : Int) (acc : ByteArray), n ≤ d → d + acc.size ≤ 9223372036854775800 → ∃ t, Ev (fun k => laws_markText.l0 k n acc) t := by
 intro d
 induction d with
 | zero =>
  intro n acc h0 h1
  refine ⟨(⟨#[109]⟩ : ByteArray) ++ acc, Ev.step (fun k => by rw [laws_markText.l0]) ?_⟩
  simp only [if_neg (show ¬ n > 0 by omega), if_pos (show 1 + acc.size ≤ 9223372036854775807 by omega)]
  exact Ev.now _
 | succ d ih =>
  intro n acc h0 h1
  by_cases hn : n > 0
  ·have hw : wrap64 (Int.tdiv n 10) = Int.tdiv n 10 := by
    rw [Int.tdiv_eq_ediv_of_nonneg (by omega)]
    unfold wrap64
    omega
   have hq : Int.tdiv n 10 ≤ d := by
    rw [Int.tdiv_eq_ediv_of_nonneg (by omega)]
    omega
   have hz : ∀ x : Int, (strOfNums [x]).size = 1 := fun x => rfl
   obtain ⟨t, ht⟩ := ih (Int.tdiv n 10) (strOfNums [(wrap64 (48 + Int.tmod n 10)) % 256] ++ acc) hq (by rw [ByteArray.size_append, hz]; omega)
   refine ⟨t, Ev.step (fun k => by rw [laws_markText.l0]) ?_⟩
   simp only [if_pos hn, Option.bind_some, hz, if_pos (show 1 + acc.size ≤ 9223372036854775807 by omega), hw]
   exact ht
  ·refine ⟨(⟨#[109]⟩ : ByteArray) ++ acc, Ev.step (fun k => by rw [laws_markText.l0]) ?_⟩
   simp only [if_neg hn, if_pos (show 1 + acc.size ≤ 9223372036854775807 by omega)]
   exact Ev.now _
theorem laws_markText_ok (n : Int) (h0 : 0 ≤ n) (h1 : n ≤ 4611686018427387904) : ∃ t, Ev (fun k => laws_markText.f k n) t := by
 by_cases hn : n ≤ 0
 ·refine ⟨(⟨#[109, 48]⟩ : ByteArray), ?_⟩
  simp only [laws_markText.f, if_pos hn]
  exact Ev.now _
 ·obtain ⟨t, ht⟩ := laws_markText_l0 n.toNat n ⟨#[]⟩ (by omega) (by show n.toNat + 0 ≤ _; omega)
  refine ⟨t, ?_⟩
  simp only [laws_markText.f, if_neg hn]
  exact ht
/-! laws_markOpS -/
theorem laws_markOpS_ok_l0 : ∀ (d : Nat) (p : List (S89)) (i n r : Int), p.length ≤ 9223372036854775807 → 0 ≤ i → i + d = p.length → 0 ≤ n → r = n + 4 * d → r ≤ 4611686018427387904 → ∃ p', p'.length = p.length ∧ p'.take i.toNat = p.take i.toNat ∧ Ev (fun k => laws_markOpS.l0 k p n i) (r, p') ∧ Ev (fun k => laws_heldOpS.l0 k p' n i) r := by
 intro d
 induction d with
 | zero =>
  intro p i n r hp h0 h1 h2 h3 h4
  obtain rfl : r = n := by omega
  refine ⟨p, rfl, rfl, Ev.step (fun k => by rw [laws_markOpS.l0]) ?_, Ev.step (fun k => by rw [laws_heldOpS.l0]) ?_⟩
  ·simp only [if_neg (show ¬ i < (p.length : Int) by omega)]
   exact Ev.now _
  ·simp only [if_neg (show ¬ i < (p.length : Int) by omega)]
   exact Ev.now _
 | succ d ih =>
  intro p i n r hp h0 h1 h2 h3 h4
  have w0 : wrap64 (n + 1) = n + 1 := by unfold wrap64; omega
  have w1 : wrap64 (n + 1 + 1) = n + 1 + 1 := by unfold wrap64; omega
  have w2 : wrap64 (n + 1 + 1 + 1) = n + 1 + 1 + 1 := by unfold wrap64; omega
  have w3 : wrap64 (n + 1 + 1 + 1 + 1) = n + 1 + 1 + 1 + 1 := by unfold wrap64; omega
  obtain ⟨t3, ht3⟩ := laws_markText_ok (n + 1 + 1 + 1) (by omega) (by omega)
  obtain ⟨p', hl, ht, hm, hh⟩ := ih (p.set i.toNat (⟨n, n + 1, (Int.tmod (n + 1 + 1) 3) == 0, t3⟩ : S89)) (i + 1) (n + 1 + 1 + 1 + 1) r (by simpa using hp) (by omega) (by simp; omega) (by omega) (by omega) h4
  have hpi : i < (p.length : Int) := by omega
  have hl2 : p'.length = p.length := by simpa using hl
  have hi' : i < (p'.length : Int) := by omega
  have he : rd_T89 p' i = (⟨n, n + 1, (Int.tmod (n + 1 + 1) 3) == 0, t3⟩ : S89) := (getD_of_take z89 h0 ht).trans (getD_set_self z89 (⟨n, n + 1, (Int.tmod (n + 1 + 1) 3) == 0, t3⟩ : S89) h0 hpi)
  have hs : ∀ v, rd_T89 (p.set i.toNat v) i = v := fun v => getD_set_self z89 v h0 hpi
  refine ⟨p', by simpa using hl, (take_less h0 ht).trans (take_set_same _), Ev.step (fun k => by rw [laws_markOpS.l0]) ?_, Ev.step (fun k => by rw [laws_heldOpS.l0]) ?_⟩
  ·simp only [if_pos hpi, if_pos h0, w0, w1, w2, w3, wrap_up h0 hpi hp, Option.bind_some, hs, List.set_set]
   refine Ev.bind ht3 ?_
   try simp only [hs, List.set_set]
   exact hm
  ·simp only [if_pos hi', if_pos h0, w0, w1, w2, w3, wrap_up h0 hi' (by omega), he, if_true, if_false, Bool.false_eq_true, bne_self_eq_false, Option.bind_some, beq_self_eq_true, eq_self_iff_true, ite_true, ite_false, ne_eq, not_true_eq_false]
   refine Ev.bind ht3 ?_
   simp only [if_true, if_false, Bool.false_eq_true, bne_self_eq_false, Option.bind_some, beq_self_eq_true, eq_self_iff_true, ite_true, ite_false, ne_eq, not_true_eq_false]
   exact hh
theorem laws_markOpS_ok (p : List (S89)) (hp : p.length ≤ 9223372036854775807) {n : Int} (h2 : 0 ≤ n) (h3 : n + 4 * p.length ≤ 4611686018427387904) : ∃ p', p'.length = p.length ∧ Ev (fun k => laws_markOpS.f k p n) (n + 4 * p.length, p') ∧ Ev (fun k => laws_heldOpS.f k p' n) (n + 4 * p.length) := by
 obtain ⟨p', hl, _, hm, hh⟩ := laws_markOpS_ok_l0 p.length p 0 n (n + 4 * p.length) hp (by omega) (by omega) h2 rfl h3
 exact ⟨p', hl, hm, hh⟩
/-! laws_eqBoolS -/
theorem laws_eqBoolS_refl_l0 (p : List Bool) (h : p.length ≤ 9223372036854775807) : ∀ (d : Nat) (i : Int), 0 ≤ i → i + d = p.length → Ev (fun k => laws_eqBoolS.l0 k p p i) true := by
 intro d
 induction d with
 | zero =>
  intro i h0 h1
  refine Ev.step (fun k => by rw [laws_eqBoolS.l0]) ?_
  simp only [if_neg (show ¬ i < (p.length : Int) by omega)]
  exact Ev.now _
 | succ d ih =>
  intro i h0 h1
  refine Ev.step (fun k => by rw [laws_eqBoolS.l0]) ?_
  simp only [if_pos (show i < (p.length : Int) by omega), if_pos h0, wrap_up h0 (show i < (p.length : Int) by omega) h, if_true, if_false, Bool.false_eq_true, bne_self_eq_false, Option.bind_some, beq_self_eq_true, eq_self_iff_true, ite_true, ite_false, ne_eq, not_true_eq_false]
  exact ih (i + 1) (by omega) (by omega)
theorem laws_eqBoolS_refl (p : List Bool) (hp0 : p.length ≤ 9223372036854775807) : Ev (fun k => laws_eqBoolS.f k p p) true := by
 simp only [laws_eqBoolS.f, if_true]
 exact laws_eqBoolS_refl_l0 p hp0 p.length 0 (by omega) (by omega)
/-! laws_eqBoolSS -/
theorem laws_eqBoolSS_refl_l0 (p : List (List Bool)) (h : p.length ≤ 9223372036854775807) (hp : ∀ y ∈ p, y.length ≤ 9223372036854775807) : ∀ (d : Nat) (i : Int), 0 ≤ i → i + d = p.length → Ev (fun k => laws_eqBoolSS.l0 k p p i) true := by
 intro d
 induction d with
 | zero =>
  intro i h0 h1
  refine Ev.step (fun k => by rw [laws_eqBoolSS.l0]) ?_
  simp only [if_neg (show ¬ i < (p.length : Int) by omega)]
  exact Ev.now _
 | succ d ih =>
  intro i h0 h1
  refine Ev.step (fun k => by rw [laws_eqBoolSS.l0]) ?_
  simp only [if_pos (show i < (p.length : Int) by omega), if_pos h0, wrap_up h0 (show i < (p.length : Int) by omega) h]
  refine Ev.bind (laws_eqBoolS_refl _ (hp _ (getD_mem _ h0 (by omega)))) ?_
  simp only [if_true]
  exact ih (i + 1) (by omega) (by omega)
theorem laws_eqBoolSS_refl (p : List (List Bool)) (hp0 : p.length ≤ 9223372036854775807) (hp : ∀ y ∈ p, y.length ≤ 9223372036854775807) : Ev (fun k => laws_eqBoolSS.f k p p) true := by
 simp only [laws_eqBoolSS.f, if_true]
 exact laws_eqBoolSS_refl_l0 p hp0 hp p.length 0 (by omega) (by omega)
/-! laws_markBoolS -/
theorem laws_markBoolS_ok_l0 : ∀ (d : Nat) (p : List Bool) (i n r : Int), p.length ≤ 9223372036854775807 → 0 ≤ i → i + d = p.length → 0 ≤ n → r = n + 1 * d → r ≤ 4611686018427387904 → ∃ p', p'.length = p.length ∧ p'.take i.toNat = p.take i.toNat ∧ Ev (fun k => laws_markBoolS.l0 k p n i) (r, p') ∧ Ev (fun k => laws_heldBoolS.l0 k p' n i) r := by
 intro d
 induction d with
 | zero =>
  intro p i n r hp h0 h1 h2 h3 h4
  obtain rfl : r = n := by omega
  refine ⟨p, rfl, rfl, Ev.step (fun k => by rw [laws_markBoolS.l0]) ?_, Ev.step (fun k => by rw [laws_heldBoolS.l0]) ?_⟩
  ·simp only [if_neg (show ¬ i < (p.length : Int) by omega)]
   exact Ev.now _
  ·simp only [if_neg (show ¬ i < (p.length : Int) by omega)]
   exact Ev.now _
 | succ d ih =>
  intro p i n r hp h0 h1 h2 h3 h4
  have w0 : wrap64 (n + 1) = n + 1 := by unfold wrap64; omega
  obtain ⟨p', hl, ht, hm, hh⟩ := ih (p.set i.toNat ((Int.tmod n 3) == 0)) (i + 1) (n + 1) r (by simpa using hp) (by omega) (by simp; omega) (by omega) (by omega) h4
  have hpi : i < (p.length : Int) := by omega
  have hl2 : p'.length = p.length := by simpa using hl
  have hi' : i < (p'.length : Int) := by omega
  have he : rdOf false p' i = ((Int.tmod n 3) == 0) := (getD_of_take false h0 ht).trans (getD_set_self false ((Int.tmod n 3) == 0) h0 hpi)
  refine ⟨p', by simpa using hl, (take_less h0 ht).trans (take_set_same _), Ev.step (fun k => by rw [laws_markBoolS.l0]) ?_, Ev.step (fun k => by rw [laws_heldBoolS.l0]) ?_⟩
  ·simp only [if_pos hpi, if_pos h0, w0, wrap_up h0 hpi hp]
   exact hm
  ·simp only [if_pos hi', if_pos h0, w0, wrap_up h0 hi' (by omega), he, if_true, if_false, Bool.false_eq_true, bne_self_eq_false, Option.bind_some, beq_self_eq_true, eq_self_iff_true, ite_true, ite_false, ne_eq, not_true_eq_false]
   exact hh
theorem laws_markBoolS_ok (p : List Bool) (hp : p.length ≤ 9223372036854775807) {n : Int} (h2 : 0 ≤ n) (h3 : n + 1 * p.length ≤ 4611686018427387904) : ∃ p', p'.length = p.length ∧ Ev (fun k => laws_markBoolS.f k p n) (n + 1 * p.length, p') ∧ Ev (fun k => laws_heldBoolS.f k p' n) (n + 1 * p.length) := by
 obtain ⟨p', hl, _, hm, hh⟩ := laws_markBoolS_ok_l0 p.length p 0 n (n + 1 * p.length) hp (by omega) (by omega) h2 rfl h3
 exact ⟨p', hl, hm, hh⟩
end Go.Proofs.Ytmclmbhdgepjfaa.FamFnExactOpsAhead

