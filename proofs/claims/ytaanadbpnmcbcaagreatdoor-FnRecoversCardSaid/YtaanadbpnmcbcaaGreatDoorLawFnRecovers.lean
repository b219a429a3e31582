/-
  For every input the law FnRecovers returns true and leaves its arguments as they were. No condition but the row's own.
  The row out of its pure statement and the small machine's runs: printed by wip/amp/row.py (a session's own program). Lean checks it.
-/
import Derived.Test.YtaanadbpnmcbcaaGreatDoorSFnRecovers
import Derived.Test.YtaanadbpnmcbcaaGreatDoorPFnRecovers
import Derived.Test.YtaanadbpnmcbcaaGreatDoorRows
import Derived.WalkKit
import Derived.ProofKit
import Derived.OpenShut
import Derived.ShutString
import Derived.ChangeOld
import Derived.Below
import Derived.SizedLaws
import Derived.Carry
import Derived.WideShapes
import Derived.LaidMore
import Derived.Stop.Joined
import Derived.LaidLaws
import Derived.Lay
namespace Go.Proofs.YtaanadbpnmcbcaaGreatDoor.fnRecovers
open Go.ChangeShapes Go.WideShapes Go.ChangeAt Go.RowKit Go.Proofs.YtaanadbpnmcbcaaGreatDoorA
open Go.ChangeMaps (open_string shut_string)
set_option linter.unusedVariables false
theorem own : ownKnob Tryz.prog.godebug = none := by kernel_rfl
theorem laidOut : laidOutB Tryz.prog = true := by kernel_rfl
theorem laid_met (os : Os) (args : Array Value) : laidMetH Tryz.prog Rows.fnRecoversRow.laid ((World.laidAll Tryz.prog os Rows.fnRecoversRow.laid).forCall (fun _ _ => 0) ⟨#[], args, []⟩).memory := by
  rw [MakeChecks.laidMetH_plain _ _ _ (by kernel_rfl)]
  exact laidMet_laidAll _ (by kernel_rfl) (by kernel_rfl)
set_option maxRecDepth 100000 in
set_option maxHeartbeats 4000000 in
theorem lifted (os : Os) (started : os.Started) (H : Type) (enc : TypeId × Value → H) :
    ReturnsInHanded {} Tryz.checked os 7 .any (fun w args => (Rows.fnRecoversSpec.pre enc Tryz.prog Tryz.f7 [] false w args ∧ laidMetH Tryz.prog Rows.fnRecoversRow.laid w) ∧ sizedMet enc Tryz.prog Tryz.f7 (OpenSpec.ofChange Rows.fnRecoversSpec) false w args) (Rows.fnRecoversSpec.post enc Tryz.prog Tryz.f7 false true false false) := by
  refine returnsInHanded_of_change_and (C := Tryz.checked) (X := fun w _ => laidMetH Tryz.prog Rows.fnRecoversRow.laid w) (fun _ _ _ hh h => h.of_heap hh) own started (by kernel_rfl) Tryz.func7
    (ChangeSpec.witness_shaped (enc := enc) (C := Tryz.checked) (os := os) (X := fun w _ => laidMetH Tryz.prog Rows.fnRecoversRow.laid w) false (World.laidAll Tryz.prog os Rows.fnRecoversRow.laid) #[.slice none 0 0, .slice none 0 0] 8 (World.laidAll_os _ _ _) (World.shaped_of_ZipB (by kernel_rfl) (by kernel_rfl)) (by kernel_rfl) (by kernel_rfl) (by kernel_rfl) (laid_met os _)) ?_
  intro W base args ds gs before hval0 hW hcnd hsz0 hL _
  have hsz : (DataW.weightsEach Tryz.prog (Tryz.f7.params.toList ++ Rows.fnRecoversSpec.plain.varTypes Tryz.prog) (ds ++ gs)).all (· ≤ reachBytes) = true := hsz0
  have hval : ∀ (j : Nat) t v, Tryz.f7.params[j]? = some t → args[j]? = some v → Value.okWide Tryz.prog W .any base t v := hval0
  have hW' := hW
  obtain ⟨p, q, hA0, hV, rfl, hfz, hnd⟩ := hW
  have hA : DataW.TrodAll enc Tryz.prog W 0 (fun _ => true) true Tryz.f7.params.toList args.toList ds p := hA0
  rw [Tryz.params7] at hA hval hsz
  obtain ⟨v0, vs0, d0, ds0, p0, q0, hargs, rfl, rfl, h0, r0⟩ := trodAll_cons hA
  obtain ⟨v1, vs1, d1, ds1, p1, q1, rfl, rfl, rfl, h1, r1⟩ := trodAll_cons r0
  obtain ⟨rfl, rfl, rfl⟩ := trodAll_nil r1
  obtain rfl : args = #[v0, v1] := by cases args; simp_all
  obtain ⟨rfl, rfl⟩ := trodVars_none hV
  have k0 := h0
  have lt0 : ∀ x ∈ p0, x.block < W.heap.size := by obtain ⟨m, hm⟩ := k0; exact DataW.trod_lt m _ _ _ hm
  obtain ⟨x0, K0, V0⟩ := rd_arg v51 hsz (j := 0) (t := 35) rfl rfl h0
  obtain ⟨a0x, len0x, cap0x, rfl⟩ := okWide_slice Tryz.underlying35 (hval 0 35 v0 rfl rfl)
  have k1 := h1
  have lt1 : ∀ x ∈ p1, x.block < W.heap.size := by obtain ⟨m, hm⟩ := k1; exact DataW.trod_lt m _ _ _ hm
  obtain ⟨x1, K1, V1⟩ := rd_arg v2c hsz (j := 1) (t := 35) rfl rfl h1
  obtain ⟨a1x, len1x, cap1x, rfl⟩ := okWide_slice Tryz.underlying35 (hval 1 35 v1 rfl rfl)
  clear hA0 hval0 hsz0 hsz
  have h := v9c x0 x1 V0 V1
  have hs : gq7.fi.sem ([⟨false, (.list (.int .u8)), x0⟩, ⟨false, (.list (.int .u8)), x1⟩].map AV.arg) = some true := (show gq7.fi.sem ([⟨false, (.list (.int .u8)), x0⟩, ⟨false, (.list (.int .u8)), x1⟩].map AV.arg) = gq7 x0 x1 by kernel_rfl).trans h
  have hR : F2 (AV.R W) [⟨false, (.list (.int .u8)), x0⟩, ⟨false, (.list (.int .u8)), x1⟩] [_, _] := ⟨⟨K0, rfl, rfl⟩, ⟨⟨K1, rfl, rfl⟩, trivial⟩⟩
  refine (w92 gq7.fok hR hs rfl).mono fun e W' ⟨he, bel0⟩ => ?_
  have bel : Below W.heap.size W W' := bel0
  subst he
  exact ⟨_, rfl, _, _, _, [], _, [], hW', trodAll_mk1 (shut_bool Tryz.underlying4 _), (trodAll_cons_mk (Below.trod laidOut (by kernel_rfl) (of_decide_eq_true (by kernel_rfl)) k0 bel lt0) (trodAll_cons_mk (Below.trod laidOut (by kernel_rfl) (of_decide_eq_true (by kernel_rfl)) k1 bel lt1) trodAll_mk0)), rfl, bel.frame _, fun h => by cases h⟩
theorem over : Rows.fnRecoversRow.holds Tryz.pinned (OpenSpec.ofChange Rows.fnRecoversSpec) :=
  OpenClaim.holds_of_wide 7 Tryz.f7 rfl rfl rfl rfl rfl rfl rfl ⟨rfl, rfl, rfl, rfl, rfl⟩ rfl rfl rfl rfl rfl (by kernel_rfl) Tryz.func7 (by kernel_rfl)
    (of_decide_eq_true (by kernel_rfl)) (by unfold Func.isWrapper; first | (rw [if_pos (by decide +kernel)]; kernel_rfl) | (rw [if_neg (by decide +kernel)]; exact ⟨rfl, rfl⟩))
    (fun os started H enc _ => lifted os started H enc)
theorem proved : Rows.FnRecoversSaid := over
#print axioms proved
end Go.Proofs.YtaanadbpnmcbcaaGreatDoor.fnRecovers
namespace Go.Proofs.YtaanadbpnmcbcaaGreatDoor
/-- The row, under a short name, for the claim. -/
theorem fnRecovers_holds : Rows.FnRecoversSaid := fnRecovers.proved
end Go.Proofs.YtaanadbpnmcbcaaGreatDoor
