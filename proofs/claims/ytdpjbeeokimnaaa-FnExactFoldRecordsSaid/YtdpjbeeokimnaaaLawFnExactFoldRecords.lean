/-
  For every input the law FnExactFoldRecords returns true and leaves its arguments as they were. No condition but the row's own.
  The row out of its pure statement and the small machine's runs: printed by wip/amp/row.py (a session's own program). Lean checks it.
-/
import Derived.Test.YtdpjbeeokimnaaaSFnExactFoldRecords
import Derived.Test.YtdpjbeeokimnaaaPFnExactFoldRecords
import Derived.Test.YtdpjbeeokimnaaaRows
import Derived.WalkKit
import Derived.ProofKit
import Derived.OpenShut
import Derived.ShutString
import Derived.ChangeOld
import Derived.Below
import Derived.SizedLaws
import Derived.Carry
import Derived.WideShapes
namespace Go.Proofs.Ytdpjbeeokimnaaa.fnExactFoldRecords
open Go.ChangeShapes Go.WideShapes Go.ChangeAt Go.RowKit Go.Proofs.YtdpjbeeokimnaaaA
open Go.ChangeMaps (open_string shut_string)
set_option linter.unusedVariables false
theorem own : ownKnob Try.prog.godebug = none := by kernel_rfl
theorem laidOut : laidOutB Try.prog = true := by kernel_rfl
set_option maxRecDepth 100000 in
set_option maxHeartbeats 4000000 in
theorem lifted (os : Os) (started : os.Started) (H : Type) (enc : TypeId × Value → H) :
    ReturnsInHanded {} Try.checked os 4 .any (Rows.fnExactFoldRecordsSpec.pre6 enc Try.prog Try.f4 Rows.fnExactFoldRecordsRow.domain false) (Rows.fnExactFoldRecordsSpec.post enc Try.prog Try.f4 false true false false) := by
  refine returnsInHanded_of_change_sized (C := Try.checked) own started (by kernel_rfl) Try.func4
    (ChangeSpec.witness6 (enc := enc) (C := Try.checked) false ⟨#[], #[.slice none 0 0], []⟩ 8 (by kernel_rfl) (by kernel_rfl) (by kernel_rfl) (by kernel_rfl)) ?_
  intro W base args ds gs before hval0 hW hcnd hsz0 _
  have hsz : (DataW.weightsEach Try.prog (Try.f4.params.toList ++ Rows.fnExactFoldRecordsSpec.plain.varTypes Try.prog) (ds ++ gs)).all (· ≤ reachBytes) = true := hsz0
  have hval : ∀ (j : Nat) t v, Try.f4.params[j]? = some t → args[j]? = some v → Value.okWide Try.prog W .any base t v := hval0
  have hW' := hW
  obtain ⟨p, q, hA0, hV, rfl, hfz, hnd⟩ := hW
  have hA : DataW.TrodAll enc Try.prog W 0 (fun _ => true) true Try.f4.params.toList args.toList ds p := hA0
  rw [Try.params4] at hA hval hsz
  obtain ⟨v0, vs0, d0, ds0, p0, q0, hargs, rfl, rfl, h0, r0⟩ := trodAll_cons hA
  obtain ⟨rfl, rfl, rfl⟩ := trodAll_nil r0
  obtain rfl : args = #[v0] := by cases args; simp_all
  obtain ⟨rfl, rfl⟩ := trodVars_none hV
  have k0 := h0
  have lt0 : ∀ x ∈ p0, x.block < W.heap.size := by obtain ⟨m, hm⟩ := k0; exact DataW.trod_lt m _ _ _ hm
  obtain ⟨x0, K0, V0⟩ := rd_arg rdFnExactFoldRecords0 hsz (j := 0) (t := 38) rfl rfl h0
  obtain ⟨a0x, len0x, cap0x, rfl⟩ := okWide_slice Try.underlying38 (hval 0 38 v0 rfl rfl)
  clear hA0 hval0 hsz0 hsz
  have h := pFnExactFoldRecords x0 V0
  have hs : l_FnExactFoldRecords.fi.sem ([⟨false, (.list .str), x0⟩].map AV.arg) = some true := (show l_FnExactFoldRecords.fi.sem ([⟨false, (.list .str), x0⟩].map AV.arg) = l_FnExactFoldRecords x0 by kernel_rfl).trans h
  have hR : F2 (AV.R W) [⟨false, (.list .str), x0⟩] [_] := ⟨⟨K0, rfl, rfl⟩, trivial⟩
  refine (law_calls l_FnExactFoldRecords.fok hR hs rfl).mono fun e W' ⟨he, bel0⟩ => ?_
  have bel : Below W.heap.size W W' := bel0
  subst he
  exact ⟨_, rfl, _, _, _, [], _, [], hW', trodAll_mk1 (shut_bool Try.underlying4 _), (trodAll_cons_mk (Below.trod laidOut (by kernel_rfl) (of_decide_eq_true (by kernel_rfl)) k0 bel lt0) trodAll_mk0), rfl, bel.frame _, fun h => by cases h⟩
theorem over : Rows.fnExactFoldRecordsRow.holds Try.pinned (OpenSpec.ofChange Rows.fnExactFoldRecordsSpec) :=
  OpenClaim.holds_of_wide 4 Try.f4 rfl rfl rfl rfl rfl rfl rfl ⟨rfl, rfl, rfl, rfl, rfl⟩ rfl rfl rfl rfl rfl (by kernel_rfl) Try.func4 (by kernel_rfl)
    (of_decide_eq_true (by kernel_rfl)) (by unfold Func.isWrapper; first | (rw [if_pos (by decide +kernel)]; kernel_rfl) | (rw [if_neg (by decide +kernel)]; exact ⟨rfl, rfl⟩))
    (fun os started H enc _ => lifted os started H enc)
theorem proved : Rows.FnExactFoldRecordsSaid := over
#print axioms proved
end Go.Proofs.Ytdpjbeeokimnaaa.fnExactFoldRecords
namespace Go.Proofs.Ytdpjbeeokimnaaa
/-- The row, under a short name, for the claim. -/
theorem fnExactFoldRecords_holds : Rows.FnExactFoldRecordsSaid := fnExactFoldRecords.proved
end Go.Proofs.Ytdpjbeeokimnaaa
