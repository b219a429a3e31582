/-
  The helpers of the law FnExactNewIssuer: equality is reflexive, a copy is the thing, sizes are told. Laid by wip/xprint.py (a session's own program). Lean checks it.
-/
import Derived.Test.YtmclmbhdgepjfaaQx9
import Derived.Test.YtmclmbhdgepjfaaQx10
import Derived.Test.YtmclmbhdgepjfaaXPure
namespace Go.Proofs.Ytmclmbhdgepjfaa.FamFnExactNewIssuer
open Go.RowKit Go.Proofs.Ytmclmbhdgepjfaa.Q Go.Proofs.YtmclmbhdgepjfaaX Go.Proofs.YtmclmbhdgepjfaaW.PrintWords Go.Proofs.YtmclmbhdgepjfaaW.PrintLast
set_option linter.unusedVariables false
set_option linter.unusedSimpArgs false
/-! laws_eqBoolS -/
theorem laws_eqBoolS_refl_l0 (p : List Bool) (h : p.length ≤ 9223372036854775807) : ∀ (d : Nat) (i : Int), 0 ≤ i → i + d = p.length → Ev (fun k => laws_eqBoolS.l0 k p p i) true := by
  intro d
  induction d with
  | zero =>
    intro i h0 h1
    refine Ev.step (fun k => by rw [laws_eqBoolS.l0]) ?_
    simp only [if_neg (show ¬ i < (p.length : Int) by omega)]
    exact Ev.now _
  | succ d ih =>
    intro i h0 h1
    refine Ev.step (fun k => by rw [laws_eqBoolS.l0]) ?_
    simp only [if_pos (show i < (p.length : Int) by omega), if_pos h0, wrap_up h0 (show i < (p.length : Int) by omega) h, if_true, if_false, Bool.false_eq_true, bne_self_eq_false, Option.bind_some, beq_self_eq_true, eq_self_iff_true, ite_true, ite_false, ne_eq, not_true_eq_false]
    exact ih (i + 1) (by omega) (by omega)
theorem laws_eqBoolS_refl (p : List Bool) (hp0 : p.length ≤ 9223372036854775807) : Ev (fun k => laws_eqBoolS.f k p p) true := by
  simp only [laws_eqBoolS.f, if_true]
  exact laws_eqBoolS_refl_l0 p hp0 p.length 0 (by omega) (by omega)
/-! laws_eqSigner -/
theorem laws_eqSigner_refl (p0 : ByteArray) (p1 : List Bool) (hp1 : p1.length ≤ 9223372036854775807) : Ev (fun k => laws_eqSigner.f k p0 p1 p0 p1) true := by
  simp only [laws_eqSigner.f]
  try simp only [if_true, if_false, Bool.false_eq_true, bne_self_eq_false, Option.bind_some, beq_self_eq_true, eq_self_iff_true, ite_true, ite_false, ne_eq, not_true_eq_false]
  refine Ev.bind (laws_eqBoolS_refl _ (by assumption)) ?_
  try simp only [if_true, if_false, Bool.false_eq_true, bne_self_eq_false, Option.bind_some, beq_self_eq_true, eq_self_iff_true, ite_true, ite_false, ne_eq, not_true_eq_false]
  exact Ev.now _
/-! laws_eqStatement -/
theorem laws_eqStatement_refl (p0 : Int) (p1 : ByteArray) (p2 : ByteArray) : laws_eqStatement.f p0 p1 p2 p0 p1 p2 = some true := by
  simp [laws_eqStatement.f]
/-! laws_eqIssuer -/
theorem laws_eqIssuer_refl (p0 : ByteArray) (p1 : List Bool) (p2 : Int) (p3 : ByteArray) (p4 : ByteArray) (p5 : Bool) (p6 : Int) (hp1 : p1.length ≤ 9223372036854775807) : Ev (fun k => laws_eqIssuer.f k p0 p1 p2 p3 p4 p5 p6 p0 p1 p2 p3 p4 p5 p6) true := by
  simp only [laws_eqIssuer.f]
  try simp only [if_true, if_false, Bool.false_eq_true, bne_self_eq_false, Option.bind_some, beq_self_eq_true, eq_self_iff_true, ite_true, ite_false, ne_eq, not_true_eq_false, laws_eqStatement_refl]
  refine Ev.bind (laws_eqSigner_refl _ _ (by assumption)) ?_
  try simp only [if_true, if_false, Bool.false_eq_true, bne_self_eq_false, Option.bind_some, beq_self_eq_true, eq_self_iff_true, ite_true, ite_false, ne_eq, not_true_eq_false, laws_eqStatement_refl]
  exact Ev.now _
/-! laws_markBoolS -/
theorem laws_markBoolS_ok_l0 : ∀ (d : Nat) (p : List Bool) (i n r : Int), p.length ≤ 9223372036854775807 → 0 ≤ i → i + d = p.length → 0 ≤ n → r = n + 1 * d → r ≤ 4611686018427387904 → ∃ p', p'.length = p.length ∧ p'.take i.toNat = p.take i.toNat ∧ Ev (fun k => laws_markBoolS.l0 k p n i) (r, p') ∧ Ev (fun k => laws_heldBoolS.l0 k p' n i) r := by
  intro d
  induction d with
  | zero =>
    intro p i n r hp h0 h1 h2 h3 h4
    obtain rfl : r = n := by omega
    refine ⟨p, rfl, rfl, Ev.step (fun k => by rw [laws_markBoolS.l0]) ?_, Ev.step (fun k => by rw [laws_heldBoolS.l0]) ?_⟩
    · simp only [if_neg (show ¬ i < (p.length : Int) by omega)]
      exact Ev.now _
    · simp only [if_neg (show ¬ i < (p.length : Int) by omega)]
      exact Ev.now _
  | succ d ih =>
    intro p i n r hp h0 h1 h2 h3 h4
    have w0 : wrap64 (n + 1) = n + 1 := by unfold wrap64; omega
    obtain ⟨p', hl, ht, hm, hh⟩ := ih (p.set i.toNat ((Int.tmod n 3) == 0)) (i + 1) (n + 1) r (by simpa using hp) (by omega) (by simp; omega) (by omega) (by omega) h4
    have hpi : i < (p.length : Int) := by omega
    have hl2 : p'.length = p.length := by simpa using hl
    have hi' : i < (p'.length : Int) := by omega
    have he : rdOf false p' i = ((Int.tmod n 3) == 0) := (getD_of_take false h0 ht).trans (getD_set_self false ((Int.tmod n 3) == 0) h0 hpi)
    refine ⟨p', by simpa using hl, (take_less h0 ht).trans (take_set_same _), Ev.step (fun k => by rw [laws_markBoolS.l0]) ?_, Ev.step (fun k => by rw [laws_heldBoolS.l0]) ?_⟩
    · simp only [if_pos hpi, if_pos h0, w0, wrap_up h0 hpi hp]
      exact hm
    · simp only [if_pos hi', if_pos h0, w0, wrap_up h0 hi' (by omega), he, if_true, if_false, Bool.false_eq_true, bne_self_eq_false, Option.bind_some, beq_self_eq_true, eq_self_iff_true, ite_true, ite_false, ne_eq, not_true_eq_false]
      exact hh
theorem laws_markBoolS_ok (p : List Bool) (hp : p.length ≤ 9223372036854775807) {n : Int} (h2 : 0 ≤ n) (h3 : n + 1 * p.length ≤ 4611686018427387904) : ∃ p', p'.length = p.length ∧ Ev (fun k => laws_markBoolS.f k p n) (n + 1 * p.length, p') ∧ Ev (fun k => laws_heldBoolS.f k p' n) (n + 1 * p.length) := by
  obtain ⟨p', hl, _, hm, hh⟩ := laws_markBoolS_ok_l0 p.length p 0 n (n + 1 * p.length) hp (by omega) (by omega) h2 rfl h3
  exact ⟨p', hl, hm, hh⟩
/-! laws_markSigner -/
theorem laws_markSigner_ok (p0 : ByteArray) (p1 : List Bool) (hp1 : p1.length ≤ 9223372036854775807) {n : Int} (h2 : 0 ≤ n) (h3 : n + (1 * p1.length) ≤ 4611686018427387904) : ∃ p1' r, r = n + (1 * p1.length) ∧ p1'.length = p1.length ∧ Ev (fun k => laws_markSigner.f k p0 p1 n) (r, p1') ∧ Ev (fun k => laws_heldSigner.f k p0 p1' n) r := by
  obtain ⟨p1', l0, m0, q0⟩ := laws_markBoolS_ok p1 hp1 (n := n) (by omega) (by omega)
  refine ⟨p1', n + 1 * p1.length, by omega, l0, ?_, ?_⟩
  · simp only [laws_markSigner.f]
    refine Ev.bind m0 ?_
    exact Ev.now _
  · simp only [laws_heldSigner.f]
    refine Ev.bind q0 ?_
    simp only [if_neg (show ¬ n + 1 * p1.length < 0 by omega)]
    exact Ev.now _
/-! laws_markIssuer -/
theorem laws_markIssuer_ok (p0 : ByteArray) (p1 : List Bool) (p2 : Int) (p3 : ByteArray) (p4 : ByteArray) (p5 : Bool) (p6 : Int) (hp1 : p1.length ≤ 9223372036854775807) {n : Int} (h2 : 0 ≤ n) (h3 : n + (1 * p1.length) ≤ 4611686018427387904) : ∃ p1' r, r = n + (1 * p1.length) ∧ p1'.length = p1.length ∧ Ev (fun k => laws_markIssuer.f k p0 p1 p2 p3 p4 p5 p6 n) (r, p1') ∧ Ev (fun k => laws_heldIssuer.f k p0 p1' p2 p3 p4 p5 p6 n) r := by
  obtain ⟨p1', r0, e0, l0_0, m0, q0⟩ := laws_markSigner_ok p0 p1 hp1 (n := n) (by omega) (by omega)
  refine ⟨p1', r0, by omega, l0_0, ?_, ?_⟩
  · simp only [laws_markIssuer.f]
    refine Ev.bind m0 ?_
    exact Ev.now _
  · simp only [laws_heldIssuer.f]
    refine Ev.bind q0 ?_
    simp only [if_neg (show ¬ r0 < 0 by omega)]
    exact Ev.now _
end Go.Proofs.Ytmclmbhdgepjfaa.FamFnExactNewIssuer
