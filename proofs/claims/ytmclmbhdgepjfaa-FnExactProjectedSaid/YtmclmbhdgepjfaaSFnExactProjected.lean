/-
  The law FnExactProjected: its pure statement, and how what its arguments read as is told. Laid by wip/xprint.py (a session's own program). Lean checks it.
-/
import Derived.Test.YtmclmbhdgepjfaaQx36
import Derived.Test.YtmclmbhdgepjfaaXRead
import Derived.Test.YtmclmbhdgepjfaaRows
namespace Go.Proofs.Ytmclmbhdgepjfaa.SFnExactProjected
open Go.RowKit Go.Proofs.Ytmclmbhdgepjfaa.Q Go.Proofs.YtmclmbhdgepjfaaX Go.Proofs.YtmclmbhdgepjfaaW.PrintWords Go.Proofs.YtmclmbhdgepjfaaW.PrintLast
set_option linter.unusedVariables false

/-- What is known of each element of type 97. -/
def v97 (x : S97) : Prop := ((Lit.int .i64 x.f0).wf = true) ∧ ((Lit.int .i64 x.f1).wf = true) ∧ (True) ∧ (x.f3.size ≤ 140737488351232)
theorem rdT97 : Rd Try.prog 97 k97 v97 := by
  refine rd_iso (d := (Kd.pair (Kd.int .i64) (Kd.pair (Kd.int .i64) (Kd.pair Kd.bool Kd.string)))) (V := (fun x : Int × Int × Bool × ByteArray => (fun x : Int => (Lit.int .i64 x).wf = true) x.1 ∧ (fun x : Int × Bool × ByteArray => (fun x : Int => (Lit.int .i64 x).wf = true) x.1 ∧ (fun x : Bool × ByteArray => (fun x : Bool => True) x.1 ∧ (fun x : ByteArray => x.size ≤ 140737488351232) x.2) x.2) x.2)) (f := fun x : S97 => (x.f0, x.f1, x.f2, x.f3)) (fun a => (⟨a.1, a.2.1, a.2.2.1, a.2.2.2⟩ : S97)) (fun _ => rfl) ?_
  refine rd_struct Try.underlying97 (by kernel_rfl) (fun n => ?_)
  refine rds_cons (V0 := (fun x : Int => (Lit.int .i64 x).wf = true)) (V1 := (fun x : Int × Bool × ByteArray => (fun x : Int => (Lit.int .i64 x).wf = true) x.1 ∧ (fun x : Bool × ByteArray => (fun x : Bool => True) x.1 ∧ (fun x : ByteArray => x.size ≤ 140737488351232) x.2) x.2)) ?_ ?_ ?_ ?_
  · rfl
  · kernel_rfl
  · exact (rd_int Try.underlying3) n
  refine rds_cons (V0 := (fun x : Int => (Lit.int .i64 x).wf = true)) (V1 := (fun x : Bool × ByteArray => (fun x : Bool => True) x.1 ∧ (fun x : ByteArray => x.size ≤ 140737488351232) x.2)) ?_ ?_ ?_ ?_
  · rfl
  · kernel_rfl
  · exact (rd_int Try.underlying3) n
  refine rds_cons (V0 := (fun x : Bool => True)) (V1 := (fun x : ByteArray => x.size ≤ 140737488351232)) ?_ ?_ ?_ ?_
  · rfl
  · kernel_rfl
  · exact (rd_bool Try.underlying4) n
  refine rds_one ?_ ?_ ?_
  · rfl
  · kernel_rfl
  · exact (rd_string Try.underlying9) n
/-- THE PURE STATEMENT of FnExactProjected. -/
def Pure : Prop := ∀ (l0 : List (S97)) (a1 : Int) (a2 : Int), (l0.length * 40 ≤ 140737488351232 ∧ l0.length ≤ maxLen ∧ ∀ y ∈ l0, v97 y) → ((Lit.int .i64 a1).wf = true) → ((Lit.int .i64 a2).wf = true) → ∃ k, laws_FnExactProjected.f k l0 a1 a2 = some true
theorem rdA0 : Rd Try.prog 29 (Kd.slice 97 k97) (fun x : List (S97) => x.length * 40 ≤ 140737488351232 ∧ x.length ≤ maxLen ∧ ∀ y ∈ x, v97 y) := by
  exact (rd_slice (B := 40) (d := k97) Try.underlying29 (by kernel_rfl) (by kernel_rfl) rdT97)
theorem rdA1 : Rd Try.prog 3 (Kd.int .i64) (fun x : Int => (Lit.int .i64 x).wf = true) := by
  exact (rd_int Try.underlying3)
theorem rdA2 : Rd Try.prog 3 (Kd.int .i64) (fun x : Int => (Lit.int .i64 x).wf = true) := by
  exact (rd_int Try.underlying3)
theorem agg_of {cs : Array Value} {l : List Value} (h : (Value.agg cs).cells.toList = l) : cs = l.toArray := by
  subst h
  simp [Value.cells]
end Go.Proofs.Ytmclmbhdgepjfaa.SFnExactProjected
