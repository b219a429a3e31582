import Derived.Test.YtmclmbhdgepjfaaVbQx15
import Derived.Test.YtmclmbhdgepjfaaVbQx19
import Derived.Test.YtmclmbhdgepjfaaVbQx31
import Derived.Test.YtmclmbhdgepjfaaVbXPure
namespace Go.Proofs.Ytmclmbhdgepjfaa.FamFnExactReadEntry
open Go.RowKit Go.Proofs.Ytmclmbhdgepjfaa.Q Go.Proofs.YtmclmbhdgepjfaaX Go.Proofs.YtmclmbhdgepjfaaW.PrintWords Go.Proofs.YtmclmbhdgepjfaaW.PrintLast
set_option linter.unusedVariables false
set_option linter.unusedSimpArgs false
/-! laws_toByteS -/
theorem laws_toByteS_ok_l0 (p : List Int) (h : p.length ≤ 9223372036854775807) : ∀ (d : Nat) (i : Int) (acc : List Int), 0 ≤ i → i + d = p.length → acc.length = p.length → acc.take i.toNat = (p.map (fun x => x)).take i.toNat → Ev (fun k => laws_toByteS.l0 k p acc i) (p.map (fun x => x)) := by
 intro d
 induction d with
 | zero =>
  intro i acc h0 h1 h2 h3
  refine Ev.step (fun k => by rw [laws_toByteS.l0]) ?_
  simp only [if_neg (show ¬ i < (p.length : Int) by omega)]
  rw [take_whole (a := acc) (b := p.map (fun x => x)) (by simpa using h2) (by omega) h3]
  exact Ev.now _
 | succ d ih =>
  intro i acc h0 h1 h2 h3
  refine Ev.step (fun k => by rw [laws_toByteS.l0]) ?_
  simp only [if_pos (show i < (p.length : Int) by omega), if_pos h0, wrap_up h0 (show i < (p.length : Int) by omega) h, if_pos (show i < (acc.length : Int) by omega)]
  exact ih (i + 1) _ (by omega) (by omega) (by simpa using h2) (take_step (c := (fun x => x)) 0 h0 (by omega) h2 h3)
theorem laws_toByteS_ok (p : List Int) (hp : p.length ≤ 9223372036854775807) (hlp : p.length ≤ 281474976710656) : Ev (fun k => laws_toByteS.f k p) p := by
 simp only [laws_toByteS.f, if_pos (show 0 ≤ (p.length : Int) by omega), if_pos (show ((p.length : Int) : Int).toNat ≤ 281474976710656 by omega)]
 have z := laws_toByteS_ok_l0 p hp p.length 0 (List.replicate ((p.length : Int) : Int).toNat 0) (by omega) (by omega) (by simp) (by simp)
 simpa using z
/-! laws_eqByteS -/
theorem laws_eqByteS_refl_l0 (p : List Int) (h : p.length ≤ 9223372036854775807) : ∀ (d : Nat) (i : Int), 0 ≤ i → i + d = p.length → Ev (fun k => laws_eqByteS.l0 k p p i) true := by
 intro d
 induction d with
 | zero =>
  intro i h0 h1
  refine Ev.step (fun k => by rw [laws_eqByteS.l0]) ?_
  simp only [if_neg (show ¬ i < (p.length : Int) by omega)]
  exact Ev.now _
 | succ d ih =>
  intro i h0 h1
  refine Ev.step (fun k => by rw [laws_eqByteS.l0]) ?_
  simp only [if_pos (show i < (p.length : Int) by omega), if_pos h0, wrap_up h0 (show i < (p.length : Int) by omega) h, if_true, if_false, Bool.false_eq_true, bne_self_eq_false, Option.bind_some, beq_self_eq_true, eq_self_iff_true, ite_true, ite_false, ne_eq, not_true_eq_false]
  exact ih (i + 1) (by omega) (by omega)
theorem laws_eqByteS_refl (p : List Int) (hp0 : p.length ≤ 9223372036854775807) : Ev (fun k => laws_eqByteS.f k p p) true := by
 simp only [laws_eqByteS.f, if_true]
 exact laws_eqByteS_refl_l0 p hp0 p.length 0 (by omega) (by omega)
/-! laws_eqEntry -/
theorem laws_eqEntry_refl (p0 : Int) (p1 : Int) (p2 : ByteArray) : laws_eqEntry.f p0 p1 p2 p0 p1 p2 = some true := by
 simp [laws_eqEntry.f]
end Go.Proofs.Ytmclmbhdgepjfaa.FamFnExactReadEntry

