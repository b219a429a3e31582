/-
  The helpers of the law FnExactIssuerOK: equality is reflexive, a copy is the thing, sizes are told. Laid by wip/xprint.py (a session's own program). Lean checks it.
-/
import Derived.Test.YtmclmbhdgepjfaaQx9
import Derived.Test.YtmclmbhdgepjfaaQx17
import Derived.Test.YtmclmbhdgepjfaaQx18
import Derived.Test.YtmclmbhdgepjfaaQx20
import Derived.Test.YtmclmbhdgepjfaaXPure
namespace Go.Proofs.Ytmclmbhdgepjfaa.FamFnExactIssuerOK
open Go.RowKit Go.Proofs.Ytmclmbhdgepjfaa.Q Go.Proofs.YtmclmbhdgepjfaaX Go.Proofs.YtmclmbhdgepjfaaW.PrintWords Go.Proofs.YtmclmbhdgepjfaaW.PrintLast
set_option linter.unusedVariables false
set_option linter.unusedSimpArgs false
/-! laws_eqBoolS -/
theorem laws_eqBoolS_refl_l0 (p : List Bool) (h : p.length ≤ 9223372036854775807) : ∀ (d : Nat) (i : Int), 0 ≤ i → i + d = p.length → Ev (fun k => laws_eqBoolS.l0 k p p i) true := by
  intro d
  induction d with
  | zero =>
    intro i h0 h1
    refine Ev.step (fun k => by rw [laws_eqBoolS.l0]) ?_
    simp only [if_neg (show ¬ i < (p.length : Int) by omega)]
    exact Ev.now _
  | succ d ih =>
    intro i h0 h1
    refine Ev.step (fun k => by rw [laws_eqBoolS.l0]) ?_
    simp only [if_pos (show i < (p.length : Int) by omega), if_pos h0, wrap_up h0 (show i < (p.length : Int) by omega) h, if_true, if_false, Bool.false_eq_true, bne_self_eq_false, Option.bind_some, beq_self_eq_true, eq_self_iff_true, ite_true, ite_false, ne_eq, not_true_eq_false]
    exact ih (i + 1) (by omega) (by omega)
theorem laws_eqBoolS_refl (p : List Bool) (hp0 : p.length ≤ 9223372036854775807) : Ev (fun k => laws_eqBoolS.f k p p) true := by
  simp only [laws_eqBoolS.f, if_true]
  exact laws_eqBoolS_refl_l0 p hp0 p.length 0 (by omega) (by omega)
/-! laws_eqSigner -/
theorem laws_eqSigner_refl (p0 : ByteArray) (p1 : List Bool) (hp1 : p1.length ≤ 9223372036854775807) : Ev (fun k => laws_eqSigner.f k p0 p1 p0 p1) true := by
  simp only [laws_eqSigner.f]
  try simp only [if_true, if_false, Bool.false_eq_true, bne_self_eq_false, Option.bind_some, beq_self_eq_true, eq_self_iff_true, ite_true, ite_false, ne_eq, not_true_eq_false]
  refine Ev.bind (laws_eqBoolS_refl _ (by assumption)) ?_
  try simp only [if_true, if_false, Bool.false_eq_true, bne_self_eq_false, Option.bind_some, beq_self_eq_true, eq_self_iff_true, ite_true, ite_false, ne_eq, not_true_eq_false]
  exact Ev.now _
/-! laws_eqStatement -/
theorem laws_eqStatement_refl (p0 : Int) (p1 : ByteArray) (p2 : ByteArray) : laws_eqStatement.f p0 p1 p2 p0 p1 p2 = some true := by
  simp [laws_eqStatement.f]
/-! laws_eqIssuer -/
theorem laws_eqIssuer_refl (p0 : ByteArray) (p1 : List Bool) (p2 : Int) (p3 : ByteArray) (p4 : ByteArray) (p5 : Bool) (p6 : Int) (hp1 : p1.length ≤ 9223372036854775807) : Ev (fun k => laws_eqIssuer.f k p0 p1 p2 p3 p4 p5 p6 p0 p1 p2 p3 p4 p5 p6) true := by
  simp only [laws_eqIssuer.f]
  try simp only [if_true, if_false, Bool.false_eq_true, bne_self_eq_false, Option.bind_some, beq_self_eq_true, eq_self_iff_true, ite_true, ite_false, ne_eq, not_true_eq_false, laws_eqStatement_refl]
  refine Ev.bind (laws_eqSigner_refl _ _ (by assumption)) ?_
  try simp only [if_true, if_false, Bool.false_eq_true, bne_self_eq_false, Option.bind_some, beq_self_eq_true, eq_self_iff_true, ite_true, ite_false, ne_eq, not_true_eq_false, laws_eqStatement_refl]
  exact Ev.now _
/-! laws_szBoolS -/
theorem laws_szBoolS_ok (p : List Bool) (hp : p.length ≤ 140737488351232)  {e : Int} (he0 : 0 ≤ e) (he1 : e ≤ 1048576) : ∃ r, r ≤ 1048576 ∧ laws_szBoolS.f p e = some r := by
  simp only [laws_szBoolS.f]
  split
  · exact ⟨_, by omega, rfl⟩
  · refine ⟨_, ?_, rfl⟩
    unfold wrap64
    omega
/-! laws_szSigner -/
theorem laws_szSigner_ok (p0 : ByteArray) (p1 : List Bool) (hp0 : p0.size ≤ 140737488351232) (hp1 : p1.length ≤ 140737488351232)  {e : Int} (he0 : 0 ≤ e) (he1 : e ≤ 1048576) : ∃ r, r ≤ 1048576 ∧ laws_szSigner.f p0 p1 e = some r := by
  simp only [laws_szSigner.f]
  obtain ⟨r0, hc0⟩ : ∃ z, e - (p0.size : Int) = z := ⟨_, rfl⟩
  have hw0 : wrap64 (e - (p0.size : Int)) = r0 := by unfold wrap64; omega
  by_cases hn0 : r0 < 0
  · refine ⟨-1, by omega, ?_⟩
    simp only [hw0, if_pos hn0]
  · skip
    obtain ⟨r1, hb1, hr1⟩ := laws_szBoolS_ok p1 hp1 (e := r0) (by omega) (by omega)
    by_cases hn1 : r1 < 0
    · refine ⟨-1, by omega, ?_⟩
      simp only [hw0, if_neg hn0]
      simp only [hr1, Option.bind_some, if_pos hn1]
    · refine ⟨r1, by omega, ?_⟩
      simp only [hw0, if_neg hn0]
      simp only [hr1, Option.bind_some, if_neg hn1]
/-! laws_szStatement -/
theorem laws_szStatement_ok (p0 : Int) (p1 : ByteArray) (p2 : ByteArray) (hp1 : p1.size ≤ 140737488351232) (hp2 : p2.size ≤ 140737488351232)  {e : Int} (he0 : 0 ≤ e) (he1 : e ≤ 1048576) : ∃ r, r ≤ 1048576 ∧ laws_szStatement.f p0 p1 p2 e = some r := by
  simp only [laws_szStatement.f]
  obtain ⟨r0, hc0⟩ : ∃ z, e - (p1.size : Int) = z := ⟨_, rfl⟩
  have hw0 : wrap64 (e - (p1.size : Int)) = r0 := by unfold wrap64; omega
  by_cases hn0 : r0 < 0
  · refine ⟨-1, by omega, ?_⟩
    simp only [hw0, if_pos hn0]
  · skip
    obtain ⟨r1, hc1⟩ : ∃ z, r0 - (p2.size : Int) = z := ⟨_, rfl⟩
    have hw1 : wrap64 (r0 - (p2.size : Int)) = r1 := by unfold wrap64; omega
    by_cases hn1 : r1 < 0
    · refine ⟨-1, by omega, ?_⟩
      simp only [hw0, if_neg hn0]
      simp only [hw1, if_pos hn1]
    · refine ⟨r1, by omega, ?_⟩
      simp only [hw0, if_neg hn0]
      simp only [hw1, if_neg hn1]
/-! laws_szIssuer -/
theorem laws_szIssuer_ok (p0 : ByteArray) (p1 : List Bool) (p2 : Int) (p3 : ByteArray) (p4 : ByteArray) (p5 : Bool) (p6 : Int) (hp0 : p0.size ≤ 140737488351232) (hp1 : p1.length ≤ 140737488351232) (hp3 : p3.size ≤ 140737488351232) (hp4 : p4.size ≤ 140737488351232)  {e : Int} (he0 : 0 ≤ e) (he1 : e ≤ 1048576) : ∃ r, r ≤ 1048576 ∧ laws_szIssuer.f p0 p1 p2 p3 p4 p5 p6 e = some r := by
  simp only [laws_szIssuer.f]
  obtain ⟨r0, hb0, hr0⟩ := laws_szSigner_ok p0 p1 hp0 hp1 (e := e) (by omega) (by omega)
  by_cases hn0 : r0 < 0
  · refine ⟨-1, by omega, ?_⟩
    simp only [hr0, Option.bind_some, if_pos hn0]
  · skip
    obtain ⟨r1, hb1, hr1⟩ := laws_szStatement_ok p2 p3 p4 hp3 hp4 (e := r0) (by omega) (by omega)
    by_cases hn1 : r1 < 0
    · refine ⟨-1, by omega, ?_⟩
      simp only [hr0, Option.bind_some, if_neg hn0]
      simp only [hr1, Option.bind_some, if_pos hn1]
    · refine ⟨r1, by omega, ?_⟩
      simp only [hr0, Option.bind_some, if_neg hn0]
      simp only [hr1, Option.bind_some, if_neg hn1]
/-! laws_toBoolS -/
theorem laws_toBoolS_ok_l0 (p : List Bool) (h : p.length ≤ 9223372036854775807) : ∀ (d : Nat) (i : Int) (acc : List Bool), 0 ≤ i → i + d = p.length → acc.length = p.length → acc.take i.toNat = (p.map (fun x => x)).take i.toNat → Ev (fun k => laws_toBoolS.l0 k p acc i) (p.map (fun x => x)) := by
  intro d
  induction d with
  | zero =>
    intro i acc h0 h1 h2 h3
    refine Ev.step (fun k => by rw [laws_toBoolS.l0]) ?_
    simp only [if_neg (show ¬ i < (p.length : Int) by omega)]
    rw [take_whole (a := acc) (b := p.map (fun x => x)) (by simpa using h2) (by omega) h3]
    exact Ev.now _
  | succ d ih =>
    intro i acc h0 h1 h2 h3
    refine Ev.step (fun k => by rw [laws_toBoolS.l0]) ?_
    simp only [if_pos (show i < (p.length : Int) by omega), if_pos h0, wrap_up h0 (show i < (p.length : Int) by omega) h, if_pos (show i < (acc.length : Int) by omega)]
    exact ih (i + 1) _ (by omega) (by omega) (by simpa using h2) (take_step (c := (fun x => x)) false h0 (by omega) h2 h3)
theorem laws_toBoolS_ok (p : List Bool) (hp : p.length ≤ 9223372036854775807) (hlp : p.length ≤ 281474976710656) : Ev (fun k => laws_toBoolS.f k p) p := by
  simp only [laws_toBoolS.f, if_pos (show 0 ≤ (p.length : Int) by omega), if_pos (show ((p.length : Int) : Int).toNat ≤ 281474976710656 by omega)]
  have z := laws_toBoolS_ok_l0 p hp p.length 0 (List.replicate ((p.length : Int) : Int).toNat false) (by omega) (by omega) (by simp) (by simp)
  simpa using z
/-! laws_toSigner -/
theorem laws_toSigner_ok (p0 : ByteArray) (p1 : List Bool) (hp1 : p1.length ≤ 9223372036854775807) (hlp1 : p1.length ≤ 281474976710656) : Ev (fun k => laws_toSigner.f k p0 p1) (p0, p1) := by
  simp only [laws_toSigner.f]
  try simp only [Option.bind_some]
  refine Ev.bind (laws_toBoolS_ok p1 hp1 hlp1) ?_
  try simp only [Option.bind_some]
  exact Ev.now _
/-! laws_toStatement -/
theorem laws_toStatement_ok (p0 : Int) (p1 : ByteArray) (p2 : ByteArray) : laws_toStatement.f p0 p1 p2 = some (p0, p1, p2) := by
  simp only [laws_toStatement.f, Option.bind_some]
/-! laws_toIssuer -/
theorem laws_toIssuer_ok (p0 : ByteArray) (p1 : List Bool) (p2 : Int) (p3 : ByteArray) (p4 : ByteArray) (p5 : Bool) (p6 : Int) (hp1 : p1.length ≤ 9223372036854775807) (hlp1 : p1.length ≤ 281474976710656) : Ev (fun k => laws_toIssuer.f k p0 p1 p2 p3 p4 p5 p6) (p0, p1, p2, p3, p4, p5, p6) := by
  simp only [laws_toIssuer.f]
  try simp only [Option.bind_some, laws_toStatement_ok]
  refine Ev.bind (laws_toSigner_ok p0 p1 hp1 hlp1) ?_
  try simp only [Option.bind_some, laws_toStatement_ok]
  exact Ev.now _
end Go.Proofs.Ytmclmbhdgepjfaa.FamFnExactIssuerOK
