/-
  The law FnExactStatementText: its pure statement, and how what its arguments read as is told. Laid by wip/xprint.py (a session's own program). Lean checks it.
-/
import Derived.Test.YtaifnabbijikeaaDoorQx8
import Derived.Test.YtaifnabbijikeaaDoorXRead
import Derived.Test.YtaifnabbijikeaaDoorRows
namespace Go.Proofs.YtaifnabbijikeaaDoor.SFnExactStatementText
open Go.RowKit Go.Proofs.YtaifnabbijikeaaDoor.Q Go.Proofs.YtaifnabbijikeaaDoorX Go.Proofs.YtaifnabbijikeaaDoorW.PrintWords Go.Proofs.YtaifnabbijikeaaDoorW.PrintLast
set_option linter.unusedVariables false

/-- THE PURE STATEMENT of FnExactStatementText. -/
def Pure : Prop := ∀ (a0_0 : Int) (a0_1 : ByteArray) (a0_2 : ByteArray), ((Lit.int .i64 a0_0).wf = true) → (a0_1.size ≤ 140737488351232) → (a0_2.size ≤ 140737488351232) → ∃ k, laws_FnExactStatementText.f k a0_0 a0_1 a0_2 = some true
theorem rdA0 : Rd Tryd.prog 23 (Kd.pair (Kd.int .i64) (Kd.pair Kd.string Kd.string)) (fun x : Int × ByteArray × ByteArray => (fun x : Int => (Lit.int .i64 x).wf = true) x.1 ∧ (fun x : ByteArray × ByteArray => (fun x : ByteArray => x.size ≤ 140737488351232) x.1 ∧ (fun x : ByteArray => x.size ≤ 140737488351232) x.2) x.2) := by
  refine rd_struct Tryd.underlying23 (by kernel_rfl) (fun n => ?_)
  refine rds_cons (V0 := (fun x : Int => (Lit.int .i64 x).wf = true)) (V1 := (fun x : ByteArray × ByteArray => (fun x : ByteArray => x.size ≤ 140737488351232) x.1 ∧ (fun x : ByteArray => x.size ≤ 140737488351232) x.2)) ?_ ?_ ?_ ?_
  · rfl
  · kernel_rfl
  · exact (rd_int Tryd.underlying3) n
  refine rds_cons (V0 := (fun x : ByteArray => x.size ≤ 140737488351232)) (V1 := (fun x : ByteArray => x.size ≤ 140737488351232)) ?_ ?_ ?_ ?_
  · rfl
  · kernel_rfl
  · exact (rd_string Tryd.underlying9) n
  refine rds_one ?_ ?_ ?_
  · rfl
  · kernel_rfl
  · exact (rd_string Tryd.underlying9) n
theorem agg_of {cs : Array Value} {l : List Value} (h : (Value.agg cs).cells.toList = l) : cs = l.toArray := by
  subst h
  simp [Value.cells]
end Go.Proofs.YtaifnabbijikeaaDoor.SFnExactStatementText
