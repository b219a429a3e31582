/-
  The law FnExactIssuerOK: its pure statement, and how what its arguments read as is told. Laid by wip/xprint.py (a session's own program). Lean checks it.
-/
import Derived.Test.YtmclmbhdgepjfaaQx22
import Derived.Test.YtmclmbhdgepjfaaXRead
import Derived.Test.YtmclmbhdgepjfaaRows
namespace Go.Proofs.Ytmclmbhdgepjfaa.SFnExactIssuerOK
open Go.RowKit Go.Proofs.Ytmclmbhdgepjfaa.Q Go.Proofs.YtmclmbhdgepjfaaX Go.Proofs.YtmclmbhdgepjfaaW.PrintWords Go.Proofs.YtmclmbhdgepjfaaW.PrintLast
set_option linter.unusedVariables false

/-- THE PURE STATEMENT of FnExactIssuerOK. -/
def Pure : Prop := ∀ (a0_0 : ByteArray) (l0_1 : List Bool) (a0_2 : Int) (a0_3 : ByteArray) (a0_4 : ByteArray) (a0_5 : Bool) (a0_6 : Int), (a0_0.size ≤ 140737488351232) → (l0_1.length * 1 ≤ 140737488351232 ∧ l0_1.length ≤ maxLen ∧ ∀ y ∈ l0_1, True) → ((Lit.int .i64 a0_2).wf = true) → (a0_3.size ≤ 140737488351232) → (a0_4.size ≤ 140737488351232) → ((Lit.int .i64 a0_6).wf = true) → ∃ k, laws_FnExactIssuerOK.f k a0_0 l0_1 a0_2 a0_3 a0_4 a0_5 a0_6 = some true
theorem rdA0 : Rd Try.prog 60 (Kd.pair (Kd.pair Kd.string (Kd.slice 4 Kd.bool)) (Kd.pair (Kd.pair (Kd.int .i64) (Kd.pair Kd.string Kd.string)) (Kd.pair Kd.bool (Kd.int .i64)))) (fun x : (ByteArray × (List Bool)) × (Int × ByteArray × ByteArray) × Bool × Int => (fun x : ByteArray × (List Bool) => (fun x : ByteArray => x.size ≤ 140737488351232) x.1 ∧ (fun x : List Bool => x.length * 1 ≤ 140737488351232 ∧ x.length ≤ maxLen ∧ ∀ y ∈ x, True) x.2) x.1 ∧ (fun x : (Int × ByteArray × ByteArray) × Bool × Int => (fun x : Int × ByteArray × ByteArray => (fun x : Int => (Lit.int .i64 x).wf = true) x.1 ∧ (fun x : ByteArray × ByteArray => (fun x : ByteArray => x.size ≤ 140737488351232) x.1 ∧ (fun x : ByteArray => x.size ≤ 140737488351232) x.2) x.2) x.1 ∧ (fun x : Bool × Int => (fun x : Bool => True) x.1 ∧ (fun x : Int => (Lit.int .i64 x).wf = true) x.2) x.2) x.2) := by
  refine rd_struct Try.underlying60 (by kernel_rfl) (fun n => ?_)
  refine rds_cons (V0 := (fun x : ByteArray × (List Bool) => (fun x : ByteArray => x.size ≤ 140737488351232) x.1 ∧ (fun x : List Bool => x.length * 1 ≤ 140737488351232 ∧ x.length ≤ maxLen ∧ ∀ y ∈ x, True) x.2)) (V1 := (fun x : (Int × ByteArray × ByteArray) × Bool × Int => (fun x : Int × ByteArray × ByteArray => (fun x : Int => (Lit.int .i64 x).wf = true) x.1 ∧ (fun x : ByteArray × ByteArray => (fun x : ByteArray => x.size ≤ 140737488351232) x.1 ∧ (fun x : ByteArray => x.size ≤ 140737488351232) x.2) x.2) x.1 ∧ (fun x : Bool × Int => (fun x : Bool => True) x.1 ∧ (fun x : Int => (Lit.int .i64 x).wf = true) x.2) x.2)) ?_ ?_ ?_ ?_
  · rfl
  · kernel_rfl
  · refine rd_struct Try.underlying57 (by kernel_rfl) (fun n => ?_) n
    refine rds_cons (V0 := (fun x : ByteArray => x.size ≤ 140737488351232)) (V1 := (fun x : List Bool => x.length * 1 ≤ 140737488351232 ∧ x.length ≤ maxLen ∧ ∀ y ∈ x, True)) ?_ ?_ ?_ ?_
    · rfl
    · kernel_rfl
    · exact (rd_string Try.underlying9) n
    refine rds_one ?_ ?_ ?_
    · rfl
    · kernel_rfl
    · exact (rd_slice (B := 1) (d := Kd.bool) Try.underlying36 (by kernel_rfl) (by kernel_rfl) (rd_bool Try.underlying4)) n
  refine rds_cons (V0 := (fun x : Int × ByteArray × ByteArray => (fun x : Int => (Lit.int .i64 x).wf = true) x.1 ∧ (fun x : ByteArray × ByteArray => (fun x : ByteArray => x.size ≤ 140737488351232) x.1 ∧ (fun x : ByteArray => x.size ≤ 140737488351232) x.2) x.2)) (V1 := (fun x : Bool × Int => (fun x : Bool => True) x.1 ∧ (fun x : Int => (Lit.int .i64 x).wf = true) x.2)) ?_ ?_ ?_ ?_
  · rfl
  · kernel_rfl
  · refine rd_struct Try.underlying58 (by kernel_rfl) (fun n => ?_) n
    refine rds_cons (V0 := (fun x : Int => (Lit.int .i64 x).wf = true)) (V1 := (fun x : ByteArray × ByteArray => (fun x : ByteArray => x.size ≤ 140737488351232) x.1 ∧ (fun x : ByteArray => x.size ≤ 140737488351232) x.2)) ?_ ?_ ?_ ?_
    · rfl
    · kernel_rfl
    · exact (rd_int Try.underlying3) n
    refine rds_cons (V0 := (fun x : ByteArray => x.size ≤ 140737488351232)) (V1 := (fun x : ByteArray => x.size ≤ 140737488351232)) ?_ ?_ ?_ ?_
    · rfl
    · kernel_rfl
    · exact (rd_string Try.underlying9) n
    refine rds_one ?_ ?_ ?_
    · rfl
    · kernel_rfl
    · exact (rd_string Try.underlying9) n
  refine rds_cons (V0 := (fun x : Bool => True)) (V1 := (fun x : Int => (Lit.int .i64 x).wf = true)) ?_ ?_ ?_ ?_
  · rfl
  · kernel_rfl
  · exact (rd_bool Try.underlying4) n
  refine rds_one ?_ ?_ ?_
  · rfl
  · kernel_rfl
  · exact (rd_int Try.underlying3) n
theorem agg_of {cs : Array Value} {l : List Value} (h : (Value.agg cs).cells.toList = l) : cs = l.toArray := by
  subst h
  simp [Value.cells]
end Go.Proofs.Ytmclmbhdgepjfaa.SFnExactIssuerOK
