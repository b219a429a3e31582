-- Laid by wip/xprint.py (a session's own program, over the kit's print.py). Lean checks it.
import Derived.Test.YtmclmbhdgepjfaaQx3
import Derived.Test.YtmclmbhdgepjfaaXRead
import Derived.Test.YtmclmbhdgepjfaaRows
namespace Go.Proofs.Ytmclmbhdgepjfaa.SFnExactTrustOK
open Go.RowKit Go.Proofs.Ytmclmbhdgepjfaa.Q Go.Proofs.YtmclmbhdgepjfaaX Go.Proofs.YtmclmbhdgepjfaaW.PrintWords Go.Proofs.YtmclmbhdgepjfaaW.PrintLast
set_option linter.unusedVariables false

/-- THE PURE STATEMENT of FnExactTrustOK. -/
def Pure : Prop := ∀ (a0_0 : ByteArray) (a0_1 : Bool) (a0_2 : Int) (a0_3 : ByteArray) (a0_4 : ByteArray), (a0_0.size ≤ 140737488351232) → ((Lit.int .i64 a0_2).wf = true) → (a0_3.size ≤ 140737488351232) → (a0_4.size ≤ 140737488351232) → laws_FnExactTrustOK.f a0_0 a0_1 a0_2 a0_3 a0_4 = some true
theorem rdA0 : Rd Try.prog 23 (Kd.pair Kd.string (Kd.pair Kd.bool (Kd.pair (Kd.int .i64) (Kd.pair Kd.string Kd.string)))) (fun x : ByteArray × Bool × Int × ByteArray × ByteArray => (fun x : ByteArray => x.size ≤ 140737488351232) x.1 ∧ (fun x : Bool × Int × ByteArray × ByteArray => (fun x : Bool => True) x.1 ∧ (fun x : Int × ByteArray × ByteArray => (fun x : Int => (Lit.int .i64 x).wf = true) x.1 ∧ (fun x : ByteArray × ByteArray => (fun x : ByteArray => x.size ≤ 140737488351232) x.1 ∧ (fun x : ByteArray => x.size ≤ 140737488351232) x.2) x.2) x.2) x.2) := by
  refine rd_struct Try.underlying23 (by kernel_rfl) (fun n => ?_)
  refine rds_cons (V0 := (fun x : ByteArray => x.size ≤ 140737488351232)) (V1 := (fun x : Bool × Int × ByteArray × ByteArray => (fun x : Bool => True) x.1 ∧ (fun x : Int × ByteArray × ByteArray => (fun x : Int => (Lit.int .i64 x).wf = true) x.1 ∧ (fun x : ByteArray × ByteArray => (fun x : ByteArray => x.size ≤ 140737488351232) x.1 ∧ (fun x : ByteArray => x.size ≤ 140737488351232) x.2) x.2) x.2)) ?_ ?_ ?_ ?_
  · rfl
  · kernel_rfl
  · exact (rd_string Try.underlying9) n
  refine rds_cons (V0 := (fun x : Bool => True)) (V1 := (fun x : Int × ByteArray × ByteArray => (fun x : Int => (Lit.int .i64 x).wf = true) x.1 ∧ (fun x : ByteArray × ByteArray => (fun x : ByteArray => x.size ≤ 140737488351232) x.1 ∧ (fun x : ByteArray => x.size ≤ 140737488351232) x.2) x.2)) ?_ ?_ ?_ ?_
  · rfl
  · kernel_rfl
  · exact (rd_bool Try.underlying4) n
  refine rds_cons (V0 := (fun x : Int => (Lit.int .i64 x).wf = true)) (V1 := (fun x : ByteArray × ByteArray => (fun x : ByteArray => x.size ≤ 140737488351232) x.1 ∧ (fun x : ByteArray => x.size ≤ 140737488351232) x.2)) ?_ ?_ ?_ ?_
  · rfl
  · kernel_rfl
  · exact (rd_int Try.underlying3) n
  refine rds_cons (V0 := (fun x : ByteArray => x.size ≤ 140737488351232)) (V1 := (fun x : ByteArray => x.size ≤ 140737488351232)) ?_ ?_ ?_ ?_
  · rfl
  · kernel_rfl
  · exact (rd_string Try.underlying9) n
  refine rds_one ?_ ?_ ?_
  · rfl
  · kernel_rfl
  · exact (rd_string Try.underlying9) n
theorem agg_of {cs : Array Value} {l : List Value} (h : (Value.agg cs).cells.toList = l) : cs = l.toArray := by
  subst h
  simp [Value.cells]
end Go.Proofs.Ytmclmbhdgepjfaa.SFnExactTrustOK
