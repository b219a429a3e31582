/-
  The helpers of the law FnExactStatementText: equality is reflexive, a copy is the thing, sizes are told. Laid by wip/xprint.py (a session's own program). Lean checks it.
-/
import Derived.Test.YtaifnabbijikeaaDoorQx1
import Derived.Test.YtaifnabbijikeaaDoorQx4
import Derived.Test.YtaifnabbijikeaaDoorXPure
namespace Go.Proofs.YtaifnabbijikeaaDoor.FamFnExactStatementText
open Go.RowKit Go.Proofs.YtaifnabbijikeaaDoor.Q Go.Proofs.YtaifnabbijikeaaDoorX Go.Proofs.YtaifnabbijikeaaDoorW.PrintWords Go.Proofs.YtaifnabbijikeaaDoorW.PrintLast
set_option linter.unusedVariables false
set_option linter.unusedSimpArgs false
/-! laws_szStatement -/
theorem laws_szStatement_ok (p0 : Int) (p1 : ByteArray) (p2 : ByteArray) (hp1 : p1.size ≤ 140737488351232) (hp2 : p2.size ≤ 140737488351232)  {e : Int} (he0 : 0 ≤ e) (he1 : e ≤ 1048576) : ∃ r, r ≤ 1048576 ∧ laws_szStatement.f p0 p1 p2 e = some r := by
  simp only [laws_szStatement.f]
  obtain ⟨r0, hc0⟩ : ∃ z, e - (p1.size : Int) = z := ⟨_, rfl⟩
  have hw0 : wrap64 (e - (p1.size : Int)) = r0 := by unfold wrap64; omega
  by_cases hn0 : r0 < 0
  · refine ⟨-1, by omega, ?_⟩
    simp only [hw0, if_pos hn0]
  · skip
    obtain ⟨r1, hc1⟩ : ∃ z, r0 - (p2.size : Int) = z := ⟨_, rfl⟩
    have hw1 : wrap64 (r0 - (p2.size : Int)) = r1 := by unfold wrap64; omega
    by_cases hn1 : r1 < 0
    · refine ⟨-1, by omega, ?_⟩
      simp only [hw0, if_neg hn0]
      simp only [hw1, if_pos hn1]
    · refine ⟨r1, by omega, ?_⟩
      simp only [hw0, if_neg hn0]
      simp only [hw1, if_neg hn1]
/-! laws_toStatement -/
theorem laws_toStatement_ok (p0 : Int) (p1 : ByteArray) (p2 : ByteArray) : laws_toStatement.f p0 p1 p2 = some (p0, p1, p2) := by
  simp only [laws_toStatement.f, Option.bind_some]
end Go.Proofs.YtaifnabbijikeaaDoor.FamFnExactStatementText
