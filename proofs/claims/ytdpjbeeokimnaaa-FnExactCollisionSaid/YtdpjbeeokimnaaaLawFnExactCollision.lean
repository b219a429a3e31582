/-
  For every input the law FnExactCollision returns true and leaves its arguments as they were. No condition but the row's own.
  The row out of its pure statement and the small machine's runs: printed by wip/amp/row.py (a session's own program). Lean checks it.
-/
import Derived.Test.YtdpjbeeokimnaaaSFnExactCollision
import Derived.Test.YtdpjbeeokimnaaaPFnExactCollision
import Derived.Test.YtdpjbeeokimnaaaRows
import Derived.WalkKit
import Derived.ProofKit
import Derived.OpenShut
import Derived.ShutString
import Derived.ChangeOld
import Derived.Below
import Derived.SizedLaws
import Derived.Carry
import Derived.WideShapes
namespace Go.Proofs.Ytdpjbeeokimnaaa.fnExactCollision
open Go.ChangeShapes Go.WideShapes Go.ChangeAt Go.RowKit Go.Proofs.YtdpjbeeokimnaaaA
open Go.ChangeMaps (open_string shut_string)
set_option linter.unusedVariables false
theorem own : ownKnob Try.prog.godebug = none := by kernel_rfl
theorem laidOut : laidOutB Try.prog = true := by kernel_rfl
set_option maxRecDepth 100000 in
set_option maxHeartbeats 4000000 in
theorem lifted (os : Os) (started : os.Started) (H : Type) (enc : TypeId × Value → H) :
    ReturnsInHanded {} Try.checked os 5 .any (Rows.fnExactCollisionSpec.pre6 enc Try.prog Try.f5 Rows.fnExactCollisionRow.domain false) (Rows.fnExactCollisionSpec.post enc Try.prog Try.f5 false true false false) := by
  refine returnsInHanded_of_change_sized (C := Try.checked) own started (by kernel_rfl) Try.func5
    (ChangeSpec.witness6 (enc := enc) (C := Try.checked) false ⟨#[], #[.int .i64 0, .int .i64 0, .string ByteArray.empty, .slice none 0 0, .string ByteArray.empty, .slice none 0 0], []⟩ 8 (by kernel_rfl) (by kernel_rfl) (by kernel_rfl) (by kernel_rfl)) ?_
  intro W base args ds gs before hval0 hW hcnd hsz0 _
  have hsz : (DataW.weightsEach Try.prog (Try.f5.params.toList ++ Rows.fnExactCollisionSpec.plain.varTypes Try.prog) (ds ++ gs)).all (· ≤ reachBytes) = true := hsz0
  have hval : ∀ (j : Nat) t v, Try.f5.params[j]? = some t → args[j]? = some v → Value.okWide Try.prog W .any base t v := hval0
  have hW' := hW
  obtain ⟨p, q, hA0, hV, rfl, hfz, hnd⟩ := hW
  have hA : DataW.TrodAll enc Try.prog W 0 (fun _ => true) true Try.f5.params.toList args.toList ds p := hA0
  rw [Try.params5] at hA hval hsz
  obtain ⟨v0, vs0, d0, ds0, p0, q0, hargs, rfl, rfl, h0, r0⟩ := trodAll_cons hA
  obtain ⟨v1, vs1, d1, ds1, p1, q1, rfl, rfl, rfl, h1, r1⟩ := trodAll_cons r0
  obtain ⟨v2, vs2, d2, ds2, p2, q2, rfl, rfl, rfl, h2, r2⟩ := trodAll_cons r1
  obtain ⟨v3, vs3, d3, ds3, p3, q3, rfl, rfl, rfl, h3, r3⟩ := trodAll_cons r2
  obtain ⟨v4, vs4, d4, ds4, p4, q4, rfl, rfl, rfl, h4, r4⟩ := trodAll_cons r3
  obtain ⟨v5, vs5, d5, ds5, p5, q5, rfl, rfl, rfl, h5, r5⟩ := trodAll_cons r4
  obtain ⟨rfl, rfl, rfl⟩ := trodAll_nil r5
  obtain rfl : args = #[v0, v1, v2, v3, v4, v5] := by cases args; simp_all
  obtain ⟨rfl, rfl⟩ := trodVars_none hV
  have k0 := h0
  have lt0 : ∀ x ∈ p0, x.block < W.heap.size := by obtain ⟨m, hm⟩ := k0; exact DataW.trod_lt m _ _ _ hm
  obtain ⟨x0, K0, V0⟩ := rd_arg rdFnExactCollision0 hsz (j := 0) (t := 3) rfl rfl h0
  obtain ⟨y0, rfl⟩ := okWide_int Try.underlying3 (hval 0 3 v0 rfl rfl)
  have k1 := h1
  have lt1 : ∀ x ∈ p1, x.block < W.heap.size := by obtain ⟨m, hm⟩ := k1; exact DataW.trod_lt m _ _ _ hm
  obtain ⟨x1, K1, V1⟩ := rd_arg rdFnExactCollision1 hsz (j := 1) (t := 3) rfl rfl h1
  obtain ⟨y1, rfl⟩ := okWide_int Try.underlying3 (hval 1 3 v1 rfl rfl)
  have k2 := h2
  have lt2 : ∀ x ∈ p2, x.block < W.heap.size := by obtain ⟨m, hm⟩ := k2; exact DataW.trod_lt m _ _ _ hm
  obtain ⟨x2, K2, V2⟩ := rd_arg rdFnExactCollision2 hsz (j := 2) (t := 9) rfl rfl h2
  obtain ⟨y2, rfl⟩ := okWide_string Try.underlying9 (hval 2 9 v2 rfl rfl)
  have k3 := h3
  have lt3 : ∀ x ∈ p3, x.block < W.heap.size := by obtain ⟨m, hm⟩ := k3; exact DataW.trod_lt m _ _ _ hm
  obtain ⟨x3, K3, V3⟩ := rd_arg rdFnExactCollision3 hsz (j := 3) (t := 38) rfl rfl h3
  obtain ⟨a3x, len3x, cap3x, rfl⟩ := okWide_slice Try.underlying38 (hval 3 38 v3 rfl rfl)
  have k4 := h4
  have lt4 : ∀ x ∈ p4, x.block < W.heap.size := by obtain ⟨m, hm⟩ := k4; exact DataW.trod_lt m _ _ _ hm
  obtain ⟨x4, K4, V4⟩ := rd_arg rdFnExactCollision4 hsz (j := 4) (t := 9) rfl rfl h4
  obtain ⟨y4, rfl⟩ := okWide_string Try.underlying9 (hval 4 9 v4 rfl rfl)
  have k5 := h5
  have lt5 : ∀ x ∈ p5, x.block < W.heap.size := by obtain ⟨m, hm⟩ := k5; exact DataW.trod_lt m _ _ _ hm
  obtain ⟨x5, K5, V5⟩ := rd_arg rdFnExactCollision5 hsz (j := 5) (t := 38) rfl rfl h5
  obtain ⟨a5x, len5x, cap5x, rfl⟩ := okWide_slice Try.underlying38 (hval 5 38 v5 rfl rfl)
  clear hA0 hval0 hsz0 hsz
  have h := pFnExactCollision x0 x1 x2 x3 x4 x5 V0 V1 V2 V3 V4 V5
  have hs : l_FnExactCollision.fi.sem ([⟨false, (.int .i64), x0⟩, ⟨false, (.int .i64), x1⟩, ⟨false, .str, x2⟩, ⟨false, (.list .str), x3⟩, ⟨false, .str, x4⟩, ⟨false, (.list .str), x5⟩].map AV.arg) = some true := (show l_FnExactCollision.fi.sem ([⟨false, (.int .i64), x0⟩, ⟨false, (.int .i64), x1⟩, ⟨false, .str, x2⟩, ⟨false, (.list .str), x3⟩, ⟨false, .str, x4⟩, ⟨false, (.list .str), x5⟩].map AV.arg) = l_FnExactCollision x0 x1 x2 x3 x4 x5 by kernel_rfl).trans h
  have hR : F2 (AV.R W) [⟨false, (.int .i64), x0⟩, ⟨false, (.int .i64), x1⟩, ⟨false, .str, x2⟩, ⟨false, (.list .str), x3⟩, ⟨false, .str, x4⟩, ⟨false, (.list .str), x5⟩] [_, _, _, _, _, _] := ⟨⟨K0, rfl, rfl⟩, ⟨⟨K1, rfl, rfl⟩, ⟨⟨K2, rfl, rfl⟩, ⟨⟨K3, rfl, rfl⟩, ⟨⟨K4, rfl, rfl⟩, ⟨⟨K5, rfl, rfl⟩, trivial⟩⟩⟩⟩⟩⟩
  refine (law_calls l_FnExactCollision.fok hR hs rfl).mono fun e W' ⟨he, bel0⟩ => ?_
  have bel : Below W.heap.size W W' := bel0
  subst he
  exact ⟨_, rfl, _, _, _, [], _, [], hW', trodAll_mk1 (shut_bool Try.underlying4 _), (trodAll_cons_mk (Below.trod laidOut (by kernel_rfl) (of_decide_eq_true (by kernel_rfl)) k0 bel lt0) (trodAll_cons_mk (Below.trod laidOut (by kernel_rfl) (of_decide_eq_true (by kernel_rfl)) k1 bel lt1) (trodAll_cons_mk (Below.trod laidOut (by kernel_rfl) (of_decide_eq_true (by kernel_rfl)) k2 bel lt2) (trodAll_cons_mk (Below.trod laidOut (by kernel_rfl) (of_decide_eq_true (by kernel_rfl)) k3 bel lt3) (trodAll_cons_mk (Below.trod laidOut (by kernel_rfl) (of_decide_eq_true (by kernel_rfl)) k4 bel lt4) (trodAll_cons_mk (Below.trod laidOut (by kernel_rfl) (of_decide_eq_true (by kernel_rfl)) k5 bel lt5) trodAll_mk0)))))), rfl, bel.frame _, fun h => by cases h⟩
theorem over : Rows.fnExactCollisionRow.holds Try.pinned (OpenSpec.ofChange Rows.fnExactCollisionSpec) :=
  OpenClaim.holds_of_wide 5 Try.f5 rfl rfl rfl rfl rfl rfl rfl ⟨rfl, rfl, rfl, rfl, rfl⟩ rfl rfl rfl rfl rfl (by kernel_rfl) Try.func5 (by kernel_rfl)
    (of_decide_eq_true (by kernel_rfl)) (by unfold Func.isWrapper; first | (rw [if_pos (by decide +kernel)]; kernel_rfl) | (rw [if_neg (by decide +kernel)]; exact ⟨rfl, rfl⟩))
    (fun os started H enc _ => lifted os started H enc)
theorem proved : Rows.FnExactCollisionSaid := over
#print axioms proved
end Go.Proofs.Ytdpjbeeokimnaaa.fnExactCollision
namespace Go.Proofs.Ytdpjbeeokimnaaa
/-- The row, under a short name, for the claim. -/
theorem fnExactCollision_holds : Rows.FnExactCollisionSaid := fnExactCollision.proved
end Go.Proofs.Ytdpjbeeokimnaaa
