/-
  For every input the law FnExactCheckEntry returns true and leaves its arguments as they were. No condition but the row's own.
  The row out of its pure statement and the small machine's runs: printed by wip/amp/row.py (a session's own program). Lean checks it.
-/
import Derived.Test.YtdpjbeeokimnaaaSFnExactCheckEntry
import Derived.Test.YtdpjbeeokimnaaaPFnExactCheckEntry
import Derived.Test.YtdpjbeeokimnaaaRows
import Derived.WalkKit
import Derived.ProofKit
import Derived.OpenShut
import Derived.ShutString
import Derived.ChangeOld
import Derived.Below
import Derived.SizedLaws
import Derived.Carry
import Derived.WideShapes
namespace Go.Proofs.Ytdpjbeeokimnaaa.fnExactCheckEntry
open Go.ChangeShapes Go.WideShapes Go.ChangeAt Go.RowKit Go.Proofs.YtdpjbeeokimnaaaA
open Go.ChangeMaps (open_string shut_string)
set_option linter.unusedVariables false
theorem own : ownKnob Try.prog.godebug = none := by kernel_rfl
theorem laidOut : laidOutB Try.prog = true := by kernel_rfl
set_option maxRecDepth 100000 in
set_option maxHeartbeats 4000000 in
theorem lifted (os : Os) (started : os.Started) (H : Type) (enc : TypeId × Value → H) :
    ReturnsInHanded {} Try.checked os 6 .any (Rows.fnExactCheckEntrySpec.pre6 enc Try.prog Try.f6 Rows.fnExactCheckEntryRow.domain false) (Rows.fnExactCheckEntrySpec.post enc Try.prog Try.f6 false true false false) := by
  refine returnsInHanded_of_change_sized (C := Try.checked) own started (by kernel_rfl) Try.func6
    (ChangeSpec.witness6 (enc := enc) (C := Try.checked) false ⟨#[], #[.agg #[.string ByteArray.empty, .bool false, .int .i64 0, .string ByteArray.empty, .string ByteArray.empty], .string ByteArray.empty, .int .i64 0, .slice none 0 0], []⟩ 8 (by kernel_rfl) (by kernel_rfl) (by kernel_rfl) (by kernel_rfl)) ?_
  intro W base args ds gs before hval0 hW hcnd hsz0 _
  have hsz : (DataW.weightsEach Try.prog (Try.f6.params.toList ++ Rows.fnExactCheckEntrySpec.plain.varTypes Try.prog) (ds ++ gs)).all (· ≤ reachBytes) = true := hsz0
  have hval : ∀ (j : Nat) t v, Try.f6.params[j]? = some t → args[j]? = some v → Value.okWide Try.prog W .any base t v := hval0
  have hW' := hW
  obtain ⟨p, q, hA0, hV, rfl, hfz, hnd⟩ := hW
  have hA : DataW.TrodAll enc Try.prog W 0 (fun _ => true) true Try.f6.params.toList args.toList ds p := hA0
  rw [Try.params6] at hA hval hsz
  obtain ⟨v0, vs0, d0, ds0, p0, q0, hargs, rfl, rfl, h0, r0⟩ := trodAll_cons hA
  obtain ⟨v1, vs1, d1, ds1, p1, q1, rfl, rfl, rfl, h1, r1⟩ := trodAll_cons r0
  obtain ⟨v2, vs2, d2, ds2, p2, q2, rfl, rfl, rfl, h2, r2⟩ := trodAll_cons r1
  obtain ⟨v3, vs3, d3, ds3, p3, q3, rfl, rfl, rfl, h3, r3⟩ := trodAll_cons r2
  obtain ⟨rfl, rfl, rfl⟩ := trodAll_nil r3
  obtain rfl : args = #[v0, v1, v2, v3] := by cases args; simp_all
  obtain ⟨rfl, rfl⟩ := trodVars_none hV
  have k0 := h0
  have lt0 : ∀ x ∈ p0, x.block < W.heap.size := by obtain ⟨m, hm⟩ := k0; exact DataW.trod_lt m _ _ _ hm
  obtain ⟨x0, K0, V0⟩ := rd_arg rdFnExactCheckEntry0 hsz (j := 0) (t := 54) rfl rfl h0
  obtain ⟨cs0, rfl, _⟩ := okWide_struct Try.underlying54 (hval 0 54 v0 rfl rfl)
  have k1 := h1
  have lt1 : ∀ x ∈ p1, x.block < W.heap.size := by obtain ⟨m, hm⟩ := k1; exact DataW.trod_lt m _ _ _ hm
  obtain ⟨x1, K1, V1⟩ := rd_arg rdFnExactCheckEntry1 hsz (j := 1) (t := 9) rfl rfl h1
  obtain ⟨y1, rfl⟩ := okWide_string Try.underlying9 (hval 1 9 v1 rfl rfl)
  have k2 := h2
  have lt2 : ∀ x ∈ p2, x.block < W.heap.size := by obtain ⟨m, hm⟩ := k2; exact DataW.trod_lt m _ _ _ hm
  obtain ⟨x2, K2, V2⟩ := rd_arg rdFnExactCheckEntry2 hsz (j := 2) (t := 3) rfl rfl h2
  obtain ⟨y2, rfl⟩ := okWide_int Try.underlying3 (hval 2 3 v2 rfl rfl)
  have k3 := h3
  have lt3 : ∀ x ∈ p3, x.block < W.heap.size := by obtain ⟨m, hm⟩ := k3; exact DataW.trod_lt m _ _ _ hm
  obtain ⟨x3, K3, V3⟩ := rd_arg rdFnExactCheckEntry3 hsz (j := 3) (t := 38) rfl rfl h3
  obtain ⟨a3x, len3x, cap3x, rfl⟩ := okWide_slice Try.underlying38 (hval 3 38 v3 rfl rfl)
  clear hA0 hval0 hsz0 hsz
  have h := pFnExactCheckEntry x0 x1 x2 x3 V0 V1 V2 V3
  have hs : l_FnExactCheckEntry.fi.sem ([⟨true, kTrust, x0⟩, ⟨false, .str, x1⟩, ⟨false, (.int .i64), x2⟩, ⟨false, (.list .str), x3⟩].map AV.arg) = some true := (show l_FnExactCheckEntry.fi.sem ([⟨true, kTrust, x0⟩, ⟨false, .str, x1⟩, ⟨false, (.int .i64), x2⟩, ⟨false, (.list .str), x3⟩].map AV.arg) = l_FnExactCheckEntry x0.1 x0.2.1 x0.2.2.1 x0.2.2.2.1 x0.2.2.2.2 x1 x2 x3 by kernel_rfl).trans h
  have hR : F2 (AV.R W) [⟨true, kTrust, x0⟩, ⟨false, .str, x1⟩, ⟨false, (.int .i64), x2⟩, ⟨false, (.list .str), x3⟩] [_, _, _, _] := ⟨⟨K0, cs0, rfl⟩, ⟨⟨K1, rfl, rfl⟩, ⟨⟨K2, rfl, rfl⟩, ⟨⟨K3, rfl, rfl⟩, trivial⟩⟩⟩⟩
  refine (law_calls l_FnExactCheckEntry.fok hR hs rfl).mono fun e W' ⟨he, bel0⟩ => ?_
  have bel : Below W.heap.size W W' := bel0
  subst he
  exact ⟨_, rfl, _, _, _, [], _, [], hW', trodAll_mk1 (shut_bool Try.underlying4 _), (trodAll_cons_mk (Below.trod laidOut (by kernel_rfl) (of_decide_eq_true (by kernel_rfl)) k0 bel lt0) (trodAll_cons_mk (Below.trod laidOut (by kernel_rfl) (of_decide_eq_true (by kernel_rfl)) k1 bel lt1) (trodAll_cons_mk (Below.trod laidOut (by kernel_rfl) (of_decide_eq_true (by kernel_rfl)) k2 bel lt2) (trodAll_cons_mk (Below.trod laidOut (by kernel_rfl) (of_decide_eq_true (by kernel_rfl)) k3 bel lt3) trodAll_mk0)))), rfl, bel.frame _, fun h => by cases h⟩
theorem over : Rows.fnExactCheckEntryRow.holds Try.pinned (OpenSpec.ofChange Rows.fnExactCheckEntrySpec) :=
  OpenClaim.holds_of_wide 6 Try.f6 rfl rfl rfl rfl rfl rfl rfl ⟨rfl, rfl, rfl, rfl, rfl⟩ rfl rfl rfl rfl rfl (by kernel_rfl) Try.func6 (by kernel_rfl)
    (of_decide_eq_true (by kernel_rfl)) (by unfold Func.isWrapper; first | (rw [if_pos (by decide +kernel)]; kernel_rfl) | (rw [if_neg (by decide +kernel)]; exact ⟨rfl, rfl⟩))
    (fun os started H enc _ => lifted os started H enc)
theorem proved : Rows.FnExactCheckEntrySaid := over
#print axioms proved
end Go.Proofs.Ytdpjbeeokimnaaa.fnExactCheckEntry
namespace Go.Proofs.Ytdpjbeeokimnaaa
/-- The row, under a short name, for the claim. -/
theorem fnExactCheckEntry_holds : Rows.FnExactCheckEntrySaid := fnExactCheckEntry.proved
end Go.Proofs.Ytdpjbeeokimnaaa
