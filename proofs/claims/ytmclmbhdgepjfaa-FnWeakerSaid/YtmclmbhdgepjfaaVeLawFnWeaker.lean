import Derived.Test.YtmclmbhdgepjfaaVeSFnWeaker
import Derived.Test.YtmclmbhdgepjfaaVePureFnWeaker
import Derived.WalkKit
import Derived.ProofKit
import Derived.OpenShut
import Derived.ShutString
import Derived.ChangeOld
import Derived.Below
import Derived.SizedLaws
import Derived.Carry
import Derived.WideShapes
namespace Go.Proofs.Ytmclmbhdgepjfaa.fnWeaker
open Go.ChangeShapes Go.WideShapes Go.ChangeAt Go.RowKit Go.Proofs.YtmclmbhdgepjfaaX Go.Proofs.Ytmclmbhdgepjfaa.SFnWeaker
open Go.ChangeMaps (open_string shut_string)
set_option linter.unusedVariables false
theorem own : ownKnob Try.prog.godebug = none := by kernel_rfl
theorem laidOut : laidOutB Try.prog = true := by kernel_rfl
set_option maxRecDepth 100000 in
set_option maxHeartbeats 4000000 in
theorem lifted (os : Os) (started : os.Started) (H : Type) (enc : TypeId × Value → H) :
  ReturnsInHanded {} Try.checked os 12 .any (Rows.fnWeakerSpec.pre6 enc Try.prog Try.f12 Rows.fnWeakerRow.domain false) (Rows.fnWeakerSpec.post enc Try.prog Try.f12 false true false false) := by
 refine returnsInHanded_of_change_sized (C := Try.checked) own started (by kernel_rfl) Try.func12
  (ChangeSpec.witness6 (enc := enc) (C := Try.checked) false ⟨#[], #[.slice none 0 0, .slice none 0 0], []⟩ 8 (by kernel_rfl) (by kernel_rfl) (by kernel_rfl) (by kernel_rfl)) ?_
 intro W base args ds gs before hval0 hW hcnd hsz0 _
 have hsz : (DataW.weightsEach Try.prog (Try.f12.params.toList ++ Rows.fnWeakerSpec.plain.varTypes Try.prog) (ds ++ gs)).all (· ≤ reachBytes) = true := hsz0
 have hval : ∀ (j : Nat) t v, Try.f12.params[j]? = some t → args[j]? = some v → Value.okWide Try.prog W .any base t v := hval0
 have hW' := hW
 obtain ⟨p, q, hA0, hV, rfl, hfz, hnd⟩ := hW
 have hA : DataW.TrodAll enc Try.prog W 0 (fun _ => true) true Try.f12.params.toList args.toList ds p := hA0
 rw [Try.params12] at hA hval hsz
 obtain ⟨v0, vs0, d0, ds0, p0, q0, hargs, rfl, rfl, h0, r0⟩ := trodAll_cons hA
 obtain ⟨v1, vs1, d1, ds1, p1, q1, rfl, rfl, rfl, h1, r1⟩ := trodAll_cons r0
 obtain ⟨rfl, rfl, rfl⟩ := trodAll_nil r1
 obtain rfl : args = #[v0, v1] := by cases args; simp_all
 obtain ⟨rfl, rfl⟩ := trodVars_none hV
 have k0 := h0
 have lt0 : ∀ x ∈ p0, x.block < W.heap.size := by obtain ⟨m, hm⟩ := k0; exact DataW.trod_lt m _ _ _ hm
 obtain ⟨l0, K0, V0⟩ := rd_arg rdA0 hsz (j := 0) (t := 48) rfl rfl h0
 obtain ⟨a0x, len0x, cap0x, rfl⟩ := okWide_slice Try.underlying48 (hval 0 48 v0 rfl rfl)
 obtain ⟨A0, c0, e0_, hc0, hr0⟩ := K0
 obtain ⟨rfl, rfl, rfl⟩ : a0x = A0 ∧ len0x = l0.length ∧ cap0x = c0 := by simpa [Value.cells] using e0_
 have k1 := h1
 have lt1 : ∀ x ∈ p1, x.block < W.heap.size := by obtain ⟨m, hm⟩ := k1; exact DataW.trod_lt m _ _ _ hm
 obtain ⟨l1, K1, V1⟩ := rd_arg rdA1 hsz (j := 1) (t := 48) rfl rfl h1
 obtain ⟨a1x, len1x, cap1x, rfl⟩ := okWide_slice Try.underlying48 (hval 1 48 v1 rfl rfl)
 obtain ⟨A1, c1, e1_, hc1, hr1⟩ := K1
 obtain ⟨rfl, rfl, rfl⟩ : a1x = A1 ∧ len1x = l1.length ∧ cap1x = c1 := by simpa [Value.cells] using e1_
 clear hA0 hval0 hsz0 hsz
 obtain ⟨k, h⟩ := Pure.FnWeaker l0 l1 V0 V1
 refine (Go.Proofs.Ytmclmbhdgepjfaa.Q.laws_FnWeaker.calls k _ _ l0 _ _ l1 true W hr0 hc0 hr1 hc1 h).mono fun e W' ⟨he, bel0⟩ => ?_
 have bel : Below W.heap.size W W' := bel0
 subst he
 exact ⟨_, rfl, _, _, _, [], _, [], hW', trodAll_mk1 (shut_bool Try.underlying4 _), (trodAll_cons_mk (Below.trod laidOut (by kernel_rfl) (of_decide_eq_true (by kernel_rfl)) k0 bel lt0) (trodAll_cons_mk (Below.trod laidOut (by kernel_rfl) (of_decide_eq_true (by kernel_rfl)) k1 bel lt1) trodAll_mk0)), rfl, bel.frame _, fun h => by cases h⟩
theorem over : Rows.fnWeakerRow.holds Try.pinned (OpenSpec.ofChange Rows.fnWeakerSpec) :=
 OpenClaim.holds_of_wide 12 Try.f12 rfl rfl rfl rfl rfl rfl rfl ⟨rfl, rfl, rfl, rfl, rfl⟩ rfl rfl rfl rfl rfl (by kernel_rfl) Try.func12 (by kernel_rfl)
  (of_decide_eq_true (by kernel_rfl)) (by unfold Func.isWrapper; first | (rw [if_pos (by decide +kernel)]; kernel_rfl) | (rw [if_neg (by decide +kernel)]; exact ⟨rfl, rfl⟩))
  (fun os started H enc _ => lifted os started H enc)
theorem proved : Rows.FnWeakerSaid := over
#print axioms proved
end Go.Proofs.Ytmclmbhdgepjfaa.fnWeaker
namespace Go.Proofs.Ytmclmbhdgepjfaa
/-- The row, under a short name, for the claim. -/
theorem fnWeaker_holds : Rows.FnWeakerSaid := fnWeaker.proved
end Go.Proofs.Ytmclmbhdgepjfaa

