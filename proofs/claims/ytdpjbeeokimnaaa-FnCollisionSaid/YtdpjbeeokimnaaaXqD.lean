/-
  slices.Backward at the types that are met. No condition.
  Printed by wip/amp/main.py (a session's own program) out of Lean's print of the program; Lean's kernel checks it.
-/
import Derived.Test.YtdpjbeeokimnaaaABack
import Derived.Test.YtdpjbeeokimnaaaProg
import Derived.RangeFuncBox
import Derived.RangeFuncLeaves
import Derived.RangeFuncKeeps
import Derived.RangeFuncBound
import Derived.Shelf.Abstract
import Derived.WalkKit
import Derived.OwnWalkIn
import Derived.TacticsInMore
import Derived.LoopNIn
import Derived.LoopIn
namespace Go.Proofs.YtdpjbeeokimnaaaA
open Go
noncomputable section
set_option linter.unusedVariables false
set_option linter.unusedSimpArgs false
set_option maxRecDepth 100000

open Go.RowKit Go.Shelf Go.Proofs
attribute [local go_sem] Oper.semAt_some
set_option maxRecDepth 100000 in
set_option maxHeartbeats 2000000 in
theorem dn74i (n l Bs b off len cap : Nat) (u : Nat → Nat → Value) (hreach : len * 16 ≤ 140737488351232) (S : Addr → Prop) (hS0 : S ⟨Bs, 0, none⟩) (hS1 : ∀ j, j < len → S ⟨b, off + j, none⟩) (J : Nat → World → Prop) (Jx : World → Prop)
    (hY : ∀ k x W1, k + x + 1 = len → J k W1 → YieldAt Fence.wide n Try.prog l #[.int .i64 ((x : Nat) : Int), u (x) 0] W1 fun e W' =>
      (e = .returned (.bool true) ∧ J (k + 1) W' ∧ ∀ p, S p → W'.cell? p = W1.cell? p) ∨ (e = .returned (.bool false) ∧ Jx W'))
    (W : World) (hBs : W.cell? ⟨Bs, 0, none⟩ = some (.slice (some ⟨b, off, none⟩) len cap)) (hc : ∀ j, j < len → W.cell? ⟨b, off + j, none⟩ = some (u j 0)) (h0 : J 0 W) :
    CallsIn Fence.wide (n + 1) Try.prog 120 #[.func (.yield l) #[] #[], .pointer (some ⟨Bs, 0, none⟩)] W fun e W' => (∃ v, e = .returned v) ∧ (J len W' ∨ Jx W') := by
  refine callsIn_of_wp Try.func120 rfl trivial ?_ rfl
  simp only [Try.ntmps120, List.size_toArray, List.length_cons, List.length_nil, Nat.reduceAdd, Nat.reduceSub, Array.replicate_succ, Array.replicate_zero, List.push_toArray, List.append_toArray, List.nil_append, List.cons_append]
  gi_wp2
  gi_loopw [3] (fun i wr => ∃ k : Nat, k ≤ len ∧ i = .int .i64 ((len : Int) - 1 - k) ∧ J k wr ∧ ∀ p, S p → wr.cell? p = W.cell? p)
    (fun i _ => (intOf i + 1).toNat)
  case atStart => exact ⟨0, Nat.zero_le _, by simp, h0, fun _ _ => rfl⟩
  case round =>
    obtain ⟨k, hk, rfl, hJs, hnx⟩ := hrel
    by_cases hlt : k < len
    · obtain ⟨i, hi⟩ : ∃ i : Nat, k + i + 1 = len := ⟨len - 1 - k, by omega⟩
      have hix : ((len : Int) - 1 - k) = (i : Int) := by omega
      rw [hix]
      have hil : i < len := by omega
      have p0 := hc i hil
      have q0 := hS1 i hil
      have hcx0 : wr.cell? ⟨b, off + i, none⟩ = some (u i 0) := (hnx _ q0).trans p0
      have hBx : wr.cell? ⟨Bs, 0, none⟩ = some (.slice (some ⟨b, off, none⟩) len cap) := (hnx _ hS0).trans hBs
      obtain ⟨fn, tmps, assign, body, hy, hR⟩ := hY k i wr hi hJs
      try dsimp only at hy
      gi_wp2
      refine hR.mono ?_
      rintro e W3 (⟨rfl, hJ3, hk3⟩ | ⟨rfl, hJx3⟩)
      · gi_wp2
        go_roundw
        case rel => exact ⟨k + 1, by omega, by first | (simp; done) | (simp; omega), hJ3, fun p hp => (hk3 p hp).trans (hnx p hp)⟩
        case measure => first | (simp [intOf]; done) | (simp [intOf]; omega)
      · gi_wp2
        refine bodyPost_ret (results_none rfl _ _ _) rfl ?_
        exact ⟨⟨_, rfl⟩, .inr hJx3⟩
    · obtain rfl : k = len := by omega
      have hix : ((k : Int) - 1 - k) = -1 := by omega
      rw [hix]
      gi_wp2
      go_end0
      exact ⟨⟨_, rfl⟩, .inl hJs⟩
set_option maxRecDepth 100000 in
set_option maxHeartbeats 1000000 in
theorem dn74n (n l Bs cap : Nat) (X : Option Addr) (J : World → Prop) (W : World) (hBs : W.cell? ⟨Bs, 0, none⟩ = some (.slice X 0 cap)) (h0 : J W) :
    CallsIn Fence.wide (n + 1) Try.prog 120 #[.func (.yield l) #[] #[], .pointer (some ⟨Bs, 0, none⟩)] W fun e W' => (∃ v, e = .returned v) ∧ J W' := by
  refine callsIn_of_wp Try.func120 rfl trivial ?_ rfl
  simp only [Try.ntmps120, List.size_toArray, List.length_cons, List.length_nil, Nat.reduceAdd, Nat.reduceSub, Array.replicate_succ, Array.replicate_zero, List.push_toArray, List.append_toArray, List.nil_append, List.cons_append]
  gi_wp2
  gi_loopw [3] (fun i wr => i = .int .i64 (-1) ∧ J wr) (fun _ _ => 0)
  case atStart => exact ⟨rfl, h0⟩
  case round =>
    obtain ⟨rfl, hJs⟩ := hrel
    gi_wp2
    go_end0
    exact ⟨⟨_, rfl⟩, hJs⟩
set_option maxRecDepth 100000 in
set_option maxHeartbeats 1000000 in
theorem dn74 : DownOk Try.prog 74 120 38 1 16 false := by
  refine ⟨⟨_, _, Try.func74, by kernel_rfl, rfl⟩, enters_of Try.func120 (by kernel_rfl) rfl, ?_, ?_⟩
  · intro a len cap w
    refine (callsIn_wide (n := 0)).1 ?_
    refine callsIn_of_wp Try.func74 rfl trivial ?_ rfl
    simp only [Try.ntmps74, List.size_toArray, List.length_cons, List.length_nil, Nat.reduceAdd, Nat.reduceSub, Array.replicate_succ, Array.replicate_zero, List.push_toArray, List.append_toArray, List.nil_append, List.cons_append]
    gi_wp2
    go_ret
    exact ⟨rfl, rfl⟩
  · intro n Bs A len cap us S w hreach hus hBs hS0 hat l J Jx W hW hY h0
    have hc' := (hW _ hS0).trans hBs
    rcases hat with rfl | ⟨a, rfl, hsp, hcs⟩
    · obtain rfl : len = 0 := by simp at hus; omega
      exact (dn74n n l Bs cap A (fun W => J 0 W) W hc' h0).mono fun e W' ⟨he, hj⟩ => ⟨he, .inl hj⟩
    · obtain ⟨b, off, sp⟩ := a
      obtain rfl : sp = none := hsp
      have key : ∀ j, j < us.length → w.cell? ⟨b, off + j, none⟩ = some (us.getD j undef) ∧ S ⟨b, off + j, none⟩ := fun j hj => by
        have := hcs j us[j] (List.getElem?_eq_getElem hj)
        rw [List.getD_eq_getElem?_getD, List.getElem?_eq_getElem hj]
        exact this
      have cut : ∀ x, x < len → mkV false ((us.drop (x * 1)).take 1) = us.getD (x * 1 + 0) undef := fun x hx => by
        have hl : x * 1 + 1 ≤ us.length := by omega
        have := take_rows us x 1 hl
        rw [this]
        rfl
      refine dn74i n l Bs b off len cap (fun j c => us.getD (j * 1 + c) undef) hreach S hS0 ?_ J Jx ?_ W hc' ?_ h0
      · intro j hj
        exact (by have := (key (j * 1 + 0) (by omega)).2; simpa [Nat.add_assoc] using this)
      · intro k x W1 hk hj
        have := hY k x W1 hk hj
        dsimp only at this
        rw [cut x (by omega)] at this
        exact this
      · intro j hj
        exact (by have h1 := (key (j * 1 + 0) (by omega)); have := (hW _ h1.2).trans h1.1; simpa [Nat.add_assoc] using this)
end
end Go.Proofs.YtdpjbeeokimnaaaA
