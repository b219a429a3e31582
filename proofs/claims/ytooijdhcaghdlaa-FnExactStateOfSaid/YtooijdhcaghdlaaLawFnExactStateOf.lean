/-
  For every input the law FnExactStateOf returns true and leaves its arguments as they were. No condition but the row's own.
  The row out of its pure statement and the small machine's runs: printed by wip/amp/row.py (a session's own program). Lean checks it.
-/
import Derived.Test.YtooijdhcaghdlaaSFnExactStateOf
import Derived.Test.YtooijdhcaghdlaaPFnExactStateOf
import Derived.Test.YtooijdhcaghdlaaRows
import Derived.WalkKit
import Derived.ProofKit
import Derived.OpenShut
import Derived.ShutString
import Derived.ChangeOld
import Derived.Below
import Derived.SizedLaws
import Derived.Carry
import Derived.WideShapes
namespace Go.Proofs.Ytooijdhcaghdlaa.fnExactStateOf
open Go.ChangeShapes Go.WideShapes Go.ChangeAt Go.RowKit Go.Proofs.YtooijdhcaghdlaaA
open Go.ChangeMaps (open_string shut_string)
set_option linter.unusedVariables false
theorem own : ownKnob Try.prog.godebug = none := by kernel_rfl
theorem laidOut : laidOutB Try.prog = true := by kernel_rfl
set_option maxRecDepth 100000 in
set_option maxHeartbeats 4000000 in
theorem lifted (os : Os) (started : os.Started) (H : Type) (enc : TypeId × Value → H) :
    ReturnsInHanded {} Try.checked os 3 .any (Rows.fnExactStateOfSpec.pre6 enc Try.prog Try.f3 Rows.fnExactStateOfRow.domain false) (Rows.fnExactStateOfSpec.post enc Try.prog Try.f3 false true false false) := by
  refine returnsInHanded_of_change_sized (C := Try.checked) own started (by kernel_rfl) Try.func3
    (ChangeSpec.witness6 (enc := enc) (C := Try.checked) false ⟨#[], #[.agg #[.slice none 0 0, .string ByteArray.empty, .string ByteArray.empty, .int .i64 0, .slice none 0 0, .slice none 0 0]], []⟩ 8 (by kernel_rfl) (by kernel_rfl) (by kernel_rfl) (by kernel_rfl)) ?_
  intro W base args ds gs before hval0 hW hcnd hsz0 _
  have hsz : (DataW.weightsEach Try.prog (Try.f3.params.toList ++ Rows.fnExactStateOfSpec.plain.varTypes Try.prog) (ds ++ gs)).all (· ≤ reachBytes) = true := hsz0
  have hval : ∀ (j : Nat) t v, Try.f3.params[j]? = some t → args[j]? = some v → Value.okWide Try.prog W .any base t v := hval0
  have hW' := hW
  obtain ⟨p, q, hA0, hV, rfl, hfz, hnd⟩ := hW
  have hA : DataW.TrodAll enc Try.prog W 0 (fun _ => true) true Try.f3.params.toList args.toList ds p := hA0
  rw [Try.params3] at hA hval hsz
  obtain ⟨v0, vs0, d0, ds0, p0, q0, hargs, rfl, rfl, h0, r0⟩ := trodAll_cons hA
  obtain ⟨rfl, rfl, rfl⟩ := trodAll_nil r0
  obtain rfl : args = #[v0] := by cases args; simp_all
  obtain ⟨rfl, rfl⟩ := trodVars_none hV
  have k0 := h0
  have lt0 : ∀ x ∈ p0, x.block < W.heap.size := by obtain ⟨m, hm⟩ := k0; exact DataW.trod_lt m _ _ _ hm
  obtain ⟨x0, K0, V0⟩ := rd_arg rdFnExactStateOf0 hsz (j := 0) (t := 28) rfl rfl h0
  obtain ⟨cs0, rfl, _⟩ := okWide_struct Try.underlying28 (hval 0 28 v0 rfl rfl)
  clear hA0 hval0 hsz0 hsz
  have h := pFnExactStateOf x0 V0
  have hs : gq3.fi.sem ([⟨true, kk748, x0⟩].map AV.arg) = some true := (show gq3.fi.sem ([⟨true, kk748, x0⟩].map AV.arg) = gq3 x0.1 (Tree.val x0.2.1).1 (Tree.val x0.2.1).2.1 (Tree.val x0.2.1).2.2 (Tree.kids x0.2.1) x0.2.2 by kernel_rfl).trans h
  have hR : F2 (AV.R W) [⟨true, kk748, x0⟩] [_] := ⟨⟨K0, cs0, rfl⟩, trivial⟩
  refine (law_calls gq3.fok hR hs rfl).mono fun e W' ⟨he, bel0⟩ => ?_
  have bel : Below W.heap.size W W' := bel0
  subst he
  exact ⟨_, rfl, _, _, _, [], _, [], hW', trodAll_mk1 (shut_bool Try.underlying4 _), (trodAll_cons_mk (Below.trod laidOut (by kernel_rfl) (of_decide_eq_true (by kernel_rfl)) k0 bel lt0) trodAll_mk0), rfl, bel.frame _, fun h => by cases h⟩
theorem over : Rows.fnExactStateOfRow.holds Try.pinned (OpenSpec.ofChange Rows.fnExactStateOfSpec) :=
  OpenClaim.holds_of_wide 3 Try.f3 rfl rfl rfl rfl rfl rfl rfl ⟨rfl, rfl, rfl, rfl, rfl⟩ rfl rfl rfl rfl rfl (by kernel_rfl) Try.func3 (by kernel_rfl)
    (of_decide_eq_true (by kernel_rfl)) (by unfold Func.isWrapper; first | (rw [if_pos (by decide +kernel)]; kernel_rfl) | (rw [if_neg (by decide +kernel)]; exact ⟨rfl, rfl⟩))
    (fun os started H enc _ => lifted os started H enc)
theorem proved : Rows.FnExactStateOfSaid := over
#print axioms proved
end Go.Proofs.Ytooijdhcaghdlaa.fnExactStateOf
namespace Go.Proofs.Ytooijdhcaghdlaa
/-- The row, under a short name, for the claim. -/
theorem fnExactStateOf_holds : Rows.FnExactStateOfSaid := fnExactStateOf.proved
end Go.Proofs.Ytooijdhcaghdlaa
