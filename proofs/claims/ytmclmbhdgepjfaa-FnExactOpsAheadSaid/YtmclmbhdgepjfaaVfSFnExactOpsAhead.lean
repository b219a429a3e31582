import Derived.Test.YtmclmbhdgepjfaaVfQx41
import Derived.Test.YtmclmbhdgepjfaaVfXRead
import Derived.Test.YtmclmbhdgepjfaaRows
namespace Go.Proofs.Ytmclmbhdgepjfaa.SFnExactOpsAhead
open Go.RowKit Go.Proofs.Ytmclmbhdgepjfaa.Q Go.Proofs.YtmclmbhdgepjfaaX Go.Proofs.YtmclmbhdgepjfaaW.PrintWords Go.Proofs.YtmclmbhdgepjfaaW.PrintLast
set_option linter.unusedVariables false

/-- What is known of each element of type 97. -/
def v97 (x : S97) : Prop := ((Lit.int .i64 x.f0).wf = true) ∧ ((Lit.int .i64 x.f1).wf = true) ∧ (True) ∧ (x.f3.size ≤ 140737488351232)
theorem rdT97 : Rd Try.prog 97 k97 v97 := by
 refine rd_iso (d := (Kd.pair (Kd.int .i64) (Kd.pair (Kd.int .i64) (Kd.pair Kd.bool Kd.string)))) (V := (fun x : Int × Int × Bool × ByteArray => (fun x : Int => (Lit.int .i64 x).wf = true) x.1 ∧ (fun x : Int × Bool × ByteArray => (fun x : Int => (Lit.int .i64 x).wf = true) x.1 ∧ (fun x : Bool × ByteArray => (fun x : Bool => True) x.1 ∧ (fun x : ByteArray => x.size ≤ 140737488351232) x.2) x.2) x.2)) (f := fun x : S97 => (x.f0, x.f1, x.f2, x.f3)) (fun a => (⟨a.1, a.2.1, a.2.2.1, a.2.2.2⟩ : S97)) (fun _ => rfl) ?_
 refine rd_struct Try.underlying97 (by kernel_rfl) (fun n => ?_)
 refine rds_cons (V0 := (fun x : Int => (Lit.int .i64 x).wf = true)) (V1 := (fun x : Int × Bool × ByteArray => (fun x : Int => (Lit.int .i64 x).wf = true) x.1 ∧ (fun x : Bool × ByteArray => (fun x : Bool => True) x.1 ∧ (fun x : ByteArray => x.size ≤ 140737488351232) x.2) x.2)) ?_ ?_ ?_ ?_
 ·rfl
 ·kernel_rfl
 ·exact (rd_int Try.underlying3) n
 refine rds_cons (V0 := (fun x : Int => (Lit.int .i64 x).wf = true)) (V1 := (fun x : Bool × ByteArray => (fun x : Bool => True) x.1 ∧ (fun x : ByteArray => x.size ≤ 140737488351232) x.2)) ?_ ?_ ?_ ?_
 ·rfl
 ·kernel_rfl
 ·exact (rd_int Try.underlying3) n
 refine rds_cons (V0 := (fun x : Bool => True)) (V1 := (fun x : ByteArray => x.size ≤ 140737488351232)) ?_ ?_ ?_ ?_
 ·rfl
 ·kernel_rfl
 ·exact (rd_bool Try.underlying4) n
 refine rds_one ?_ ?_ ?_
 ·rfl
 ·kernel_rfl
 ·exact (rd_string Try.underlying9) n
/-- THE PURE STATEMENT of FnExactOpsAhead. -/
def Pure : Prop := ∀ (l0 : List (S97)), (l0.length * 40 ≤ 140737488351232 ∧ l0.length ≤ maxLen ∧ ∀ y ∈ l0, v97 y) → ∃ k, laws_FnExactOpsAhead.f k l0 = some true
theorem rdA0 : Rd Try.prog 29 (Kd.slice 97 k97) (fun x : List (S97) => x.length * 40 ≤ 140737488351232 ∧ x.length ≤ maxLen ∧ ∀ y ∈ x, v97 y) := by
 exact (rd_slice (B := 40) (d := k97) Try.underlying29 (by kernel_rfl) (by kernel_rfl) rdT97)
end Go.Proofs.Ytmclmbhdgepjfaa.SFnExactOpsAhead

