import Derived.Test.YtmclmbhdgepjfaaVcQx3
import Derived.Test.YtmclmbhdgepjfaaVcQx4
import Derived.Test.YtmclmbhdgepjfaaVcQx5
import Derived.Test.YtmclmbhdgepjfaaVcQx6
import Derived.Test.YtmclmbhdgepjfaaVcQx7
import Derived.Test.YtmclmbhdgepjfaaVcQx44
import Derived.Test.YtmclmbhdgepjfaaVcQx46
import Derived.Test.YtmclmbhdgepjfaaVcXPure
namespace Go.Proofs.Ytmclmbhdgepjfaa.FamFnExactOrderLegal
open Go.RowKit Go.Proofs.Ytmclmbhdgepjfaa.Q Go.Proofs.YtmclmbhdgepjfaaX Go.Proofs.YtmclmbhdgepjfaaW.PrintWords Go.Proofs.YtmclmbhdgepjfaaW.PrintLast
set_option linter.unusedVariables false
set_option linter.unusedSimpArgs false
/-! laws_szOp -/
theorem laws_szOp_ok (p0 : Int) (p1 : Int) (p2 : Bool) (p3 : ByteArray) (hp3 : p3.size ≤ 140737488351232)  {e : Int} (he0 : 0 ≤ e) (he1 : e ≤ 1048576) : ∃ r, r ≤ 1048576 ∧ laws_szOp.f p0 p1 p2 p3 e = some r := by
 simp only [laws_szOp.f]
 obtain ⟨r0, hc0⟩ : ∃ z, e - (p3.size : Int) = z := ⟨_, rfl⟩
 have hw0 : wrap64 (e - (p3.size : Int)) = r0 := by unfold wrap64; omega
 by_cases hn0 : r0 < 0
 ·refine ⟨-1, by omega, ?_⟩
  simp only [hw0, if_pos hn0]
 ·refine ⟨r0, by omega, ?_⟩
  simp only [hw0, if_neg hn0]
/-! laws_szOpS -/
theorem laws_szOpS_ok_l0 (p : List (S97)) (h : p.length ≤ 140737488351232) (hy : ∀ y ∈ p, y.f3.size ≤ 140737488351232) : ∀ (d : Nat) (i e : Int), 0 ≤ i → i + d = p.length → 0 ≤ e → e ≤ 1048576 → ∃ r, r ≤ 1048576 ∧ Ev (fun k => laws_szOpS.l0 k p e i) r := by
 intro d
 induction d with
 | zero =>
  intro i e h0 h1 h2 h3
  refine ⟨e, h3, Ev.step (fun k => by rw [laws_szOpS.l0]) ?_⟩
  simp only [if_neg (show ¬ i < (p.length : Int) by omega)]
  exact Ev.now _
 | succ d ih =>
  intro i e h0 h1 h2 h3
  have hx := hy (rd_T97 p i) (getD_mem _ h0 (by omega))
  obtain ⟨r, hr1, hr⟩ := laws_szOp_ok ((rd_T97 p i).f0) ((rd_T97 p i).f1) ((rd_T97 p i).f2) ((rd_T97 p i).f3) hx h2 h3
  by_cases hn : r < 0
  ·refine ⟨-1, by omega, Ev.step (fun k => by rw [laws_szOpS.l0]) ?_⟩
   simp only [if_pos (show i < (p.length : Int) by omega), if_pos h0, wrap_up h0 (show i < (p.length : Int) by omega) (by omega : p.length ≤ 9223372036854775807), hr, Option.bind_some]
   simp only [if_pos hn]
   exact Ev.now _
  ·obtain ⟨r2, hr2, hr3⟩ := ih (i + 1) r (by omega) (by omega) (by omega) hr1
   refine ⟨r2, hr2, Ev.step (fun k => by rw [laws_szOpS.l0]) ?_⟩
   simp only [if_pos (show i < (p.length : Int) by omega), if_pos h0, wrap_up h0 (show i < (p.length : Int) by omega) (by omega : p.length ≤ 9223372036854775807), hr, Option.bind_some]
   simp only [if_neg hn]
   exact hr3
theorem laws_szOpS_ok (p : List (S97)) (hp : p.length ≤ 140737488351232) (hy : ∀ y ∈ p, y.f3.size ≤ 140737488351232) {e : Int} (he0 : 0 ≤ e) (he1 : e ≤ 1048576) : ∃ r, r ≤ 1048576 ∧ Ev (fun k => laws_szOpS.f k p e) r := by
 have hw : wrap64 (e - (p.length : Int)) = e - (p.length : Int) := by unfold wrap64; omega
 by_cases hn : e - (p.length : Int) < 0
 ·refine ⟨-1, by omega, ?_⟩
  simp only [laws_szOpS.f, hw, if_pos hn]
  exact Ev.now _
 ·obtain ⟨r, hr1, hr⟩ := laws_szOpS_ok_l0 p hp hy p.length 0 (e - (p.length : Int)) (by omega) (by omega) (by omega) (by omega)
  refine ⟨r, hr1, ?_⟩
  simp only [laws_szOpS.f, hw, if_neg hn]
  exact hr
/-! laws_toOp -/
theorem laws_toOp_ok (p0 : Int) (p1 : Int) (p2 : Bool) (p3 : ByteArray) : laws_toOp.f p0 p1 p2 p3 = some (p0, p1, p2, p3) := by
 simp only [laws_toOp.f, Option.bind_some]
/-! laws_toOpS -/
theorem laws_toOpS_ok_l0 (p : List (S97)) (h : p.length ≤ 9223372036854775807) : ∀ (d : Nat) (i : Int) (acc : List (S89)), 0 ≤ i → i + d = p.length → acc.length = p.length → acc.take i.toNat = (p.map (fun x : S97 => (⟨x.f0, x.f1, x.f2, x.f3⟩ : S89))).take i.toNat → Ev (fun k => laws_toOpS.l0 k p acc i) (p.map (fun x : S97 => (⟨x.f0, x.f1, x.f2, x.f3⟩ : S89))) := by
 intro d
 induction d with
 | zero =>
  intro i acc h0 h1 h2 h3
  refine Ev.step (fun k => by rw [laws_toOpS.l0]) ?_
  simp only [if_neg (show ¬ i < (p.length : Int) by omega)]
  rw [take_whole (a := acc) (b := p.map (fun x : S97 => (⟨x.f0, x.f1, x.f2, x.f3⟩ : S89))) (by simpa using h2) (by omega) h3]
  exact Ev.now _
 | succ d ih =>
  intro i acc h0 h1 h2 h3
  refine Ev.step (fun k => by rw [laws_toOpS.l0]) ?_
  simp only [if_pos (show i < (p.length : Int) by omega), if_pos h0, wrap_up h0 (show i < (p.length : Int) by omega) h, if_pos (show i < (acc.length : Int) by omega), laws_toOp_ok, Option.bind_some]
  exact ih (i + 1) _ (by omega) (by omega) (by simpa using h2) (take_step (c := (fun x : S97 => (⟨x.f0, x.f1, x.f2, x.f3⟩ : S89))) z97 h0 (by omega) h2 h3)
theorem laws_toOpS_ok (p : List (S97)) (hp : p.length ≤ 9223372036854775807) (hlp : p.length ≤ 7036874417766) : Ev (fun k => laws_toOpS.f k p) (p.map (fun x : S97 => (⟨x.f0, x.f1, x.f2, x.f3⟩ : S89))) := by
 simp only [laws_toOpS.f, if_pos (show 0 ≤ (p.length : Int) by omega), if_pos (show ((p.length : Int) : Int).toNat ≤ 7036874417766 by omega)]
 exact laws_toOpS_ok_l0 p hp p.length 0 _ (by omega) (by omega) (by simp) (by simp)
/-! laws_eqOp -/
theorem laws_eqOp_refl (p0 : Int) (p1 : Int) (p2 : Bool) (p3 : ByteArray) : laws_eqOp.f p0 p1 p2 p3 p0 p1 p2 p3 = some true := by
 simp [laws_eqOp.f]
/-! laws_eqOpS -/
theorem laws_eqOpS_refl_l0 (p : List (S89)) (h : p.length ≤ 9223372036854775807) : ∀ (d : Nat) (i : Int), 0 ≤ i → i + d = p.length → Ev (fun k => laws_eqOpS.l0 k p p i) true := by
 intro d
 induction d with
 | zero =>
  intro i h0 h1
  refine Ev.step (fun k => by rw [laws_eqOpS.l0]) ?_
  simp only [if_neg (show ¬ i < (p.length : Int) by omega)]
  exact Ev.now _
 | succ d ih =>
  intro i h0 h1
  refine Ev.step (fun k => by rw [laws_eqOpS.l0]) ?_
  simp only [if_pos (show i < (p.length : Int) by omega), if_pos h0, wrap_up h0 (show i < (p.length : Int) by omega) h, laws_eqOp_refl, Option.bind_some, if_true]
  exact ih (i + 1) (by omega) (by omega)
theorem laws_eqOpS_refl (p : List (S89)) (hp0 : p.length ≤ 9223372036854775807) : Ev (fun k => laws_eqOpS.f k p p) true := by
 simp only [laws_eqOpS.f, if_true]
 exact laws_eqOpS_refl_l0 p hp0 p.length 0 (by omega) (by omega)
/-! laws_toIntS -/
theorem laws_toIntS_ok_l0 (p : List Int) (h : p.length ≤ 9223372036854775807) : ∀ (d : Nat) (i : Int) (acc : List Int), 0 ≤ i → i + d = p.length → acc.length = p.length → acc.take i.toNat = (p.map (fun x => x)).take i.toNat → Ev (fun k => laws_toIntS.l0 k p acc i) (p.map (fun x => x)) := by
 intro d
 induction d with
 | zero =>
  intro i acc h0 h1 h2 h3
  refine Ev.step (fun k => by rw [laws_toIntS.l0]) ?_
  simp only [if_neg (show ¬ i < (p.length : Int) by omega)]
  rw [take_whole (a := acc) (b := p.map (fun x => x)) (by simpa using h2) (by omega) h3]
  exact Ev.now _
 | succ d ih =>
  intro i acc h0 h1 h2 h3
  refine Ev.step (fun k => by rw [laws_toIntS.l0]) ?_
  simp only [if_pos (show i < (p.length : Int) by omega), if_pos h0, wrap_up h0 (show i < (p.length : Int) by omega) h, if_pos (show i < (acc.length : Int) by omega)]
  exact ih (i + 1) _ (by omega) (by omega) (by simpa using h2) (take_step (c := (fun x => x)) 0 h0 (by omega) h2 h3)
theorem laws_toIntS_ok (p : List Int) (hp : p.length ≤ 9223372036854775807) (hlp : p.length ≤ 35184372088832) : Ev (fun k => laws_toIntS.f k p) p := by
 simp only [laws_toIntS.f, if_pos (show 0 ≤ (p.length : Int) by omega), if_pos (show ((p.length : Int) : Int).toNat ≤ 35184372088832 by omega)]
 have z := laws_toIntS_ok_l0 p hp p.length 0 (List.replicate ((p.length : Int) : Int).toNat 0) (by omega) (by omega) (by simp) (by simp)
 simpa using z
/-! laws_eqIntS -/
theorem laws_eqIntS_refl_l0 (p : List Int) (h : p.length ≤ 9223372036854775807) : ∀ (d : Nat) (i : Int), 0 ≤ i → i + d = p.length → Ev (fun k => laws_eqIntS.l0 k p p i) true := by
 intro d
 induction d with
 | zero =>
  intro i h0 h1
  refine Ev.step (fun k => by rw [laws_eqIntS.l0]) ?_
  simp only [if_neg (show ¬ i < (p.length : Int) by omega)]
  exact Ev.now _
 | succ d ih =>
  intro i h0 h1
  refine Ev.step (fun k => by rw [laws_eqIntS.l0]) ?_
  simp only [if_pos (show i < (p.length : Int) by omega), if_pos h0, wrap_up h0 (show i < (p.length : Int) by omega) h, if_true, if_false, Bool.false_eq_true, bne_self_eq_false, Option.bind_some, beq_self_eq_true, eq_self_iff_true, ite_true, ite_false, ne_eq, not_true_eq_false]
  exact ih (i + 1) (by omega) (by omega)
theorem laws_eqIntS_refl (p : List Int) (hp0 : p.length ≤ 9223372036854775807) : Ev (fun k => laws_eqIntS.f k p p) true := by
 simp only [laws_eqIntS.f, if_true]
 exact laws_eqIntS_refl_l0 p hp0 p.length 0 (by omega) (by omega)
end Go.Proofs.Ytmclmbhdgepjfaa.FamFnExactOrderLegal

