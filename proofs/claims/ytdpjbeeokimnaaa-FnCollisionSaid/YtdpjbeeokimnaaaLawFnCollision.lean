/-
  For every input the law FnCollision returns true and leaves its arguments as they were. No condition but the row's own.
  The row out of its pure statement and the small machine's runs: printed by wip/amp/row.py (a session's own program). Lean checks it.
-/
import Derived.Test.YtdpjbeeokimnaaaSFnCollision
import Derived.Test.YtdpjbeeokimnaaaPFnCollision
import Derived.Test.YtdpjbeeokimnaaaRows
import Derived.WalkKit
import Derived.ProofKit
import Derived.OpenShut
import Derived.ShutString
import Derived.ChangeOld
import Derived.Below
import Derived.SizedLaws
import Derived.Carry
import Derived.WideShapes
namespace Go.Proofs.Ytdpjbeeokimnaaa.fnCollision
open Go.ChangeShapes Go.WideShapes Go.ChangeAt Go.RowKit Go.Proofs.YtdpjbeeokimnaaaA
open Go.ChangeMaps (open_string shut_string)
set_option linter.unusedVariables false
theorem own : ownKnob Try.prog.godebug = none := by kernel_rfl
theorem laidOut : laidOutB Try.prog = true := by kernel_rfl
set_option maxRecDepth 100000 in
set_option maxHeartbeats 4000000 in
theorem lifted (os : Os) (started : os.Started) (H : Type) (enc : TypeId × Value → H) :
    ReturnsInHanded {} Try.checked os 7 .any (Rows.fnCollisionSpec.pre6 enc Try.prog Try.f7 Rows.fnCollisionRow.domain false) (Rows.fnCollisionSpec.post enc Try.prog Try.f7 false true false false) := by
  refine returnsInHanded_of_change_sized (C := Try.checked) own started (by kernel_rfl) Try.func7
    (ChangeSpec.witness6 (enc := enc) (C := Try.checked) false ⟨#[], #[.slice none 0 0, .slice none 0 0], []⟩ 8 (by kernel_rfl) (by kernel_rfl) (by kernel_rfl) (by kernel_rfl)) ?_
  intro W base args ds gs before hval0 hW hcnd hsz0 _
  have hsz : (DataW.weightsEach Try.prog (Try.f7.params.toList ++ Rows.fnCollisionSpec.plain.varTypes Try.prog) (ds ++ gs)).all (· ≤ reachBytes) = true := hsz0
  have hval : ∀ (j : Nat) t v, Try.f7.params[j]? = some t → args[j]? = some v → Value.okWide Try.prog W .any base t v := hval0
  have hW' := hW
  obtain ⟨p, q, hA0, hV, rfl, hfz, hnd⟩ := hW
  have hA : DataW.TrodAll enc Try.prog W 0 (fun _ => true) true Try.f7.params.toList args.toList ds p := hA0
  rw [Try.params7] at hA hval hsz
  obtain ⟨v0, vs0, d0, ds0, p0, q0, hargs, rfl, rfl, h0, r0⟩ := trodAll_cons hA
  obtain ⟨v1, vs1, d1, ds1, p1, q1, rfl, rfl, rfl, h1, r1⟩ := trodAll_cons r0
  obtain ⟨rfl, rfl, rfl⟩ := trodAll_nil r1
  obtain rfl : args = #[v0, v1] := by cases args; simp_all
  obtain ⟨rfl, rfl⟩ := trodVars_none hV
  have k0 := h0
  have lt0 : ∀ x ∈ p0, x.block < W.heap.size := by obtain ⟨m, hm⟩ := k0; exact DataW.trod_lt m _ _ _ hm
  obtain ⟨x0, K0, V0⟩ := rd_arg rdFnCollision0 hsz (j := 0) (t := 22) rfl rfl h0
  obtain ⟨a0x, len0x, cap0x, rfl⟩ := okWide_slice Try.underlying22 (hval 0 22 v0 rfl rfl)
  have k1 := h1
  have lt1 : ∀ x ∈ p1, x.block < W.heap.size := by obtain ⟨m, hm⟩ := k1; exact DataW.trod_lt m _ _ _ hm
  obtain ⟨x1, K1, V1⟩ := rd_arg rdFnCollision1 hsz (j := 1) (t := 22) rfl rfl h1
  obtain ⟨a1x, len1x, cap1x, rfl⟩ := okWide_slice Try.underlying22 (hval 1 22 v1 rfl rfl)
  clear hA0 hval0 hsz0 hsz
  have h := pFnCollision x0 x1 V0 V1
  have hs : l_FnCollision.fi.sem ([⟨false, (.list (.int .u8)), x0⟩, ⟨false, (.list (.int .u8)), x1⟩].map AV.arg) = some true := (show l_FnCollision.fi.sem ([⟨false, (.list (.int .u8)), x0⟩, ⟨false, (.list (.int .u8)), x1⟩].map AV.arg) = l_FnCollision x0 x1 by kernel_rfl).trans h
  have hR : F2 (AV.R W) [⟨false, (.list (.int .u8)), x0⟩, ⟨false, (.list (.int .u8)), x1⟩] [_, _] := ⟨⟨K0, rfl, rfl⟩, ⟨⟨K1, rfl, rfl⟩, trivial⟩⟩
  refine (law_calls l_FnCollision.fok hR hs rfl).mono fun e W' ⟨he, bel0⟩ => ?_
  have bel : Below W.heap.size W W' := bel0
  subst he
  exact ⟨_, rfl, _, _, _, [], _, [], hW', trodAll_mk1 (shut_bool Try.underlying4 _), (trodAll_cons_mk (Below.trod laidOut (by kernel_rfl) (of_decide_eq_true (by kernel_rfl)) k0 bel lt0) (trodAll_cons_mk (Below.trod laidOut (by kernel_rfl) (of_decide_eq_true (by kernel_rfl)) k1 bel lt1) trodAll_mk0)), rfl, bel.frame _, fun h => by cases h⟩
theorem over : Rows.fnCollisionRow.holds Try.pinned (OpenSpec.ofChange Rows.fnCollisionSpec) :=
  OpenClaim.holds_of_wide 7 Try.f7 rfl rfl rfl rfl rfl rfl rfl ⟨rfl, rfl, rfl, rfl, rfl⟩ rfl rfl rfl rfl rfl (by kernel_rfl) Try.func7 (by kernel_rfl)
    (of_decide_eq_true (by kernel_rfl)) (by unfold Func.isWrapper; first | (rw [if_pos (by decide +kernel)]; kernel_rfl) | (rw [if_neg (by decide +kernel)]; exact ⟨rfl, rfl⟩))
    (fun os started H enc _ => lifted os started H enc)
theorem proved : Rows.FnCollisionSaid := over
#print axioms proved
end Go.Proofs.Ytdpjbeeokimnaaa.fnCollision
namespace Go.Proofs.Ytdpjbeeokimnaaa
/-- The row, under a short name, for the claim. -/
theorem fnCollision_holds : Rows.FnCollisionSaid := fnCollision.proved
end Go.Proofs.Ytdpjbeeokimnaaa
