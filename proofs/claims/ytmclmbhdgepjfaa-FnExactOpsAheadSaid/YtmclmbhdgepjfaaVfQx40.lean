import Derived.Test.YtmclmbhdgepjfaaVfQx0
import Derived.Test.YtmclmbhdgepjfaaVfQx9
import Derived.Test.YtmclmbhdgepjfaaVfQx10
-- Laid by wip/xprint.py (a session's own program, over the kit's print.py). Lean checks it.
namespace Go.Proofs.Ytmclmbhdgepjfaa.Q
open Go.RowKit Go.Proofs.YtmclmbhdgepjfaaX Go.Proofs.YtmclmbhdgepjfaaW.PrintWords Go.Proofs.YtmclmbhdgepjfaaW.PrintLast Go.Proofs.YtmclmbhdgepjfaaW.PrintMore
attribute [local go_sem] max2_int min2_int max_two min_two max_three min_three max_four min_four   -- for this text's walks alone
set_option linter.unusedVariables false
set_option linter.unusedSimpArgs false

/-! ### laws_eqBoolSS: function 47 -/
def laws_eqBoolSS.l0 : Nat → List (List Bool) → List (List Bool) → Int → Option (Bool)
 | 0, _, _, _ => none
 | k + 1, x0, x1, x5 => if x5 < (x0.length : Int) then (if 0 ≤ x5 then (if x5 < (x1.length : Int) then ((laws_eqBoolS.f k (rd_L7 x0 x5) (rd_L7 x1 x5)).bind fun t684 => (if t684 = true then (laws_eqBoolSS.l0 k x0 x1 (wrap64 (x5 + 1))) else (some false))) else (none)) else (none)) else (some true)
def laws_eqBoolSS.f (k : Nat) (l0 : List (List Bool)) (l1 : List (List Bool)) : Option (Bool) := if (l0.length : Int) = (l1.length : Int) then (laws_eqBoolSS.l0 k l0 l1 0) else (some false)
theorem laws_eqBoolSS.mono_l : ∀ k, (∀ y0 y1 y2, LeO (laws_eqBoolSS.l0 k y0 y1 y2) (laws_eqBoolSS.l0 (k + 1) y0 y1 y2))
 | 0 => fun _ _ _ r h => by simp [laws_eqBoolSS.l0] at h
 | k + 1 => by
  have ih0 := laws_eqBoolSS.mono_l k
  ·intro y0 y1 y2
   unfold laws_eqBoolSS.l0
   repeat' first
   | (with_reducible exact ih0 _ _ _)
   | (with_reducible exact laws_eqBoolS.mono _ _ _)
   | (with_reducible exact LeO.refl _)
   | (with_reducible exact LeO.none _)
   | (with_reducible refine LeO.ite ?_ ?_)
   | (with_reducible refine LeO.bind ?_ (fun _ => ?_))
   | exact ih0 _ _ _
   | exact laws_eqBoolS.mono _ _ _
   | exact LeO.none _
   | refine LeO.ite ?_ ?_
   | refine LeO.bind ?_ (fun _ => ?_)
theorem laws_eqBoolSS.mono : ∀ a0 a1 k, LeO (laws_eqBoolSS.f k a0 a1) (laws_eqBoolSS.f (k + 1) a0 a1) := by
 intro a0 a1 k
 have ih0 := laws_eqBoolSS.mono_l k
 unfold laws_eqBoolSS.f
 repeat' first
   | (with_reducible exact ih0 _ _ _)
   | (with_reducible exact laws_eqBoolS.mono _ _ _)
   | (with_reducible exact LeO.refl _)
   | (with_reducible exact LeO.none _)
   | (with_reducible refine LeO.ite ?_ ?_)
   | (with_reducible refine LeO.bind ?_ (fun _ => ?_))
   | exact ih0 _ _ _
   | exact laws_eqBoolS.mono _ _ _
   | exact LeO.none _
   | refine LeO.ite ?_ ?_
   | refine LeO.bind ?_ (fun _ => ?_)
set_option maxHeartbeats 8000000 in
set_option maxRecDepth 100000 in
theorem laws_eqBoolSS.calls (k : Nat) (A0 : Option Addr) (c0 : Nat) (l0 : List (List Bool)) (A1 : Option Addr) (c1 : Nat) (l1 : List (List Bool)) (r : Bool) (w : World) (hr0 : Kd.C (Kd.slice 4 Kd.bool) w A0 l0.length l0) (hc0 : l0.length ≤ c0) (hr1 : Kd.C (Kd.slice 4 Kd.bool) w A1 l1.length l1) (hc1 : l1.length ≤ c1) (h : laws_eqBoolSS.f k l0 l1 = some r) :
  Calls Try.prog 47 #[.slice A0 l0.length c0, .slice A1 l1.length c1] w fun e w' => e = .returned (.bool r) ∧ Drawn0 w w' := by
 have HR0 := Aside0.mk hr0
 have HC0 := Aside0.mk hc0
 clear hr0 hc0
 have HR1 := Aside0.mk hr1
 have HC1 := Aside0.mk hc1
 clear hr1 hc1
 have H : (if (l0.length : Int) = (l1.length : Int) then (laws_eqBoolSS.l0 k l0 l1 0) else (some false)) = some r := h
 clear h
 by_cases c3 : (l0.length : Int) = (l1.length : Int)
 ·rw [if_pos c3] at H
  have c3b0 : ((l0.length : Int) == (l1.length : Int)) = true := beq_iff_eq.mpr c3
  have c3b1 : ((l0.length : Int) != (l1.length : Int)) = false := bne_eq_false_iff_eq.mpr c3
  have c3b2 : (l0.length == l1.length) = true := by first | simpa using c3 | (simp at c3 ⊢; omega)
  clear c3
  have H' := Aside0.mk H
  clear H
  go_enter Try.func47, Try.ntmps47
  go_wp2
  repeat (go_quiet (fail); try go_wp2)
  go_loopg [5] k (fun kq v5 w' => ∃ (x5_1 : Int), v5 = .int .i64 x5_1 ∧ Aside0 (laws_eqBoolSS.l0 kq l0 l1 x5_1 = some r) ∧ Aside0 (kq ≤ k) ∧ Drawn0 w w')
  case atStart => exact ⟨(0), (by first | rfl | (simp; done) | (simp [*]; done)), H', ⟨Nat.le_refl _⟩, by repeat (first | exact Drawn0.refl _ | apply Drawn0.step)⟩
  case round =>
   clear H'
   try clear c1
   try clear p2
   try clear c3
   try clear c3b0
   try clear c3b1
   try clear c3b2
   obtain ⟨x5_1, rfl, HA, HK1, ⟨m1, rfl⟩⟩ := hrel
   cases gk with
   | zero => exact absurd HA.out (by simp [laws_eqBoolSS.l0])
   | succ k1 =>
    have H := HA.out
    clear HA
    simp only [laws_eqBoolSS.l0] at H
    by_cases c4 : x5_1 < (l0.length : Int)
    ·rw [if_pos c4] at H
     have c4b0 : decide (x5_1 < (l0.length : Int)) = true := decide_eq_true c4
     clear c4
     by_cases c5 : 0 ≤ x5_1
     ·rw [if_pos c5] at H
      have c5b0 : decide (0 ≤ x5_1) = true := decide_eq_true c5
      clear c5
      by_cases c6 : x5_1 < (l1.length : Int)
      ·rw [if_pos c6] at H
       have c6b0 : decide (x5_1 < (l1.length : Int)) = true := decide_eq_true c6
       clear c6
       replace H := Option.bind_eq_some_iff.mp H
       obtain ⟨t684, A70, H⟩ := H
       replace H : (if t684 = true then (laws_eqBoolSS.l0 k1 l0 l1 (wrap64 (x5_1 + 1))) else (some false)) = some r := H
       have A7 := Aside0.mk A70
       clear A70
       by_cases c8 : t684 = true
       ·subst c8
        have H1 : (laws_eqBoolSS.l0 k1 l0 l1 (wrap64 (x5_1 + 1))) = some r := by rw [if_pos rfl] at H; exact H
        clear H
        have H := H1
        clear H1
        have H' := Aside0.mk H
        clear H
        have p682 : 0 ≤ (x5_1 : Int) := of_decide_eq_true (by first | (with_reducible assumption) | assumption)
        have q682 : x5_1 < (l0.length : Int) := of_decide_eq_true (by first | (with_reducible assumption) | assumption)
        obtain ⟨ad682, A682_0, c682_0, e682, hx682_0, hl682_0, hi682_0⟩ := at_L7 HR0.out x5_1 p682 q682
        cases e682
        have HR682_0 := Aside0.mk hi682_0
        have HC682_0 := Aside0.mk hl682_0
        clear hi682_0 hl682_0
        replace p682 := eq_true p682
        replace q682 := eq_true q682
        have p683 : 0 ≤ (x5_1 : Int) := of_decide_eq_true (by first | (with_reducible assumption) | assumption)
        have q683 : x5_1 < (l1.length : Int) := of_decide_eq_true (by first | (with_reducible assumption) | assumption)
        obtain ⟨ad683, A683_0, c683_0, e683, hx683_0, hl683_0, hi683_0⟩ := at_L7 HR1.out x5_1 p683 q683
        cases e683
        have HR683_0 := Aside0.mk hi683_0
        have HC683_0 := Aside0.mk hl683_0
        clear hi683_0 hl683_0
        replace p683 := eq_true p683
        replace q683 := eq_true q683
        go_wp2_with (first | (go_at_call 96; (with_reducible refine (laws_eqBoolS.calls k1 _ _ (rd_L7 l0 x5_1) _ _ (rd_L7 l1 x5_1) true _ ?side1 ?side2 ?side3 ?side4 A7.out).mono ?_); (case side1 => repeat (first | exact HR682_0.out | (with_reducible refine Kd.C_alloc ?_ _) | (with_reducible refine Kd.C_drewN ?_ _) | (with_reducible refine Kd.C_drew ?_))); (case side2 => exact HC682_0.out); (case side3 => repeat (first | exact HR683_0.out | (with_reducible refine Kd.C_alloc ?_ _) | (with_reducible refine Kd.C_drewN ?_ _) | (with_reducible refine Kd.C_drew ?_))); (case side4 => exact HC683_0.out); rintro e w' ⟨rfl, ⟨nd, rfl⟩⟩; (try first | exact ⟨rfl, _, World.drewN_drewN _ _ _⟩ | exact ⟨rfl, _, Eq.trans (World.drewN_drewN _ _ _) (congrArg (World.drewN _) (Nat.add_assoc _ _ _))⟩)))
        repeat (go_quiet (first | (go_at_call 96; (with_reducible refine (laws_eqBoolS.calls k1 _ _ (rd_L7 l0 x5_1) _ _ (rd_L7 l1 x5_1) true _ ?side1 ?side2 ?side3 ?side4 A7.out).mono ?_); (case side1 => repeat (first | exact HR682_0.out | (with_reducible refine Kd.C_alloc ?_ _) | (with_reducible refine Kd.C_drewN ?_ _) | (with_reducible refine Kd.C_drew ?_))); (case side2 => exact HC682_0.out); (case side3 => repeat (first | exact HR683_0.out | (with_reducible refine Kd.C_alloc ?_ _) | (with_reducible refine Kd.C_drewN ?_ _) | (with_reducible refine Kd.C_drew ?_))); (case side4 => exact HC683_0.out); rintro e w' ⟨rfl, ⟨nd, rfl⟩⟩; (try first | exact ⟨rfl, _, World.drewN_drewN _ _ _⟩ | exact ⟨rfl, _, Eq.trans (World.drewN_drewN _ _ _) (congrArg (World.drewN _) (Nat.add_assoc _ _ _))⟩))); try go_wp2_with (first | (go_at_call 96; (with_reducible refine (laws_eqBoolS.calls k1 _ _ (rd_L7 l0 x5_1) _ _ (rd_L7 l1 x5_1) true _ ?side1 ?side2 ?side3 ?side4 A7.out).mono ?_); (case side1 => repeat (first | exact HR682_0.out | (with_reducible refine Kd.C_alloc ?_ _) | (with_reducible refine Kd.C_drewN ?_ _) | (with_reducible refine Kd.C_drew ?_))); (case side2 => exact HC682_0.out); (case side3 => repeat (first | exact HR683_0.out | (with_reducible refine Kd.C_alloc ?_ _) | (with_reducible refine Kd.C_drewN ?_ _) | (with_reducible refine Kd.C_drew ?_))); (case side4 => exact HC683_0.out); rintro e w' ⟨rfl, ⟨nd, rfl⟩⟩; (try first | exact ⟨rfl, _, World.drewN_drewN _ _ _⟩ | exact ⟨rfl, _, Eq.trans (World.drewN_drewN _ _ _) (congrArg (World.drewN _) (Nat.add_assoc _ _ _))⟩))))
        go_roundg k1
        case measure => have := HK1.out; omega
        case rel => exact ⟨(wrap64 (x5_1 + 1)), (by first | rfl | (simp; done) | (simp [*]; done)), H', ⟨by have := HK1.out; omega⟩, by repeat (first | exact Drawn0.refl _ | apply Drawn0.step)⟩
       ·replace c8 := Bool.eq_false_iff.mpr c8
        subst c8
        have H1 : (some false) = some r := by rw [if_neg (show ¬ (false = true) by decide)] at H; exact H
        clear H
        have H := H1
        clear H1
        obtain rfl := Option.some.inj H
        have p682 : 0 ≤ (x5_1 : Int) := of_decide_eq_true (by first | (with_reducible assumption) | assumption)
        have q682 : x5_1 < (l0.length : Int) := of_decide_eq_true (by first | (with_reducible assumption) | assumption)
        obtain ⟨ad682, A682_0, c682_0, e682, hx682_0, hl682_0, hi682_0⟩ := at_L7 HR0.out x5_1 p682 q682
        cases e682
        have HR682_0 := Aside0.mk hi682_0
        have HC682_0 := Aside0.mk hl682_0
        clear hi682_0 hl682_0
        replace p682 := eq_true p682
        replace q682 := eq_true q682
        have p683 : 0 ≤ (x5_1 : Int) := of_decide_eq_true (by first | (with_reducible assumption) | assumption)
        have q683 : x5_1 < (l1.length : Int) := of_decide_eq_true (by first | (with_reducible assumption) | assumption)
        obtain ⟨ad683, A683_0, c683_0, e683, hx683_0, hl683_0, hi683_0⟩ := at_L7 HR1.out x5_1 p683 q683
        cases e683
        have HR683_0 := Aside0.mk hi683_0
        have HC683_0 := Aside0.mk hl683_0
        clear hi683_0 hl683_0
        replace p683 := eq_true p683
        replace q683 := eq_true q683
        go_wp2_with (first | (go_at_call 96; (with_reducible refine (laws_eqBoolS.calls k1 _ _ (rd_L7 l0 x5_1) _ _ (rd_L7 l1 x5_1) false _ ?side1 ?side2 ?side3 ?side4 A7.out).mono ?_); (case side1 => repeat (first | exact HR682_0.out | (with_reducible refine Kd.C_alloc ?_ _) | (with_reducible refine Kd.C_drewN ?_ _) | (with_reducible refine Kd.C_drew ?_))); (case side2 => exact HC682_0.out); (case side3 => repeat (first | exact HR683_0.out | (with_reducible refine Kd.C_alloc ?_ _) | (with_reducible refine Kd.C_drewN ?_ _) | (with_reducible refine Kd.C_drew ?_))); (case side4 => exact HC683_0.out); rintro e w' ⟨rfl, ⟨nd, rfl⟩⟩; (try first | exact ⟨rfl, _, World.drewN_drewN _ _ _⟩ | exact ⟨rfl, _, Eq.trans (World.drewN_drewN _ _ _) (congrArg (World.drewN _) (Nat.add_assoc _ _ _))⟩)))
        repeat (go_quiet (first | (go_at_call 96; (with_reducible refine (laws_eqBoolS.calls k1 _ _ (rd_L7 l0 x5_1) _ _ (rd_L7 l1 x5_1) false _ ?side1 ?side2 ?side3 ?side4 A7.out).mono ?_); (case side1 => repeat (first | exact HR682_0.out | (with_reducible refine Kd.C_alloc ?_ _) | (with_reducible refine Kd.C_drewN ?_ _) | (with_reducible refine Kd.C_drew ?_))); (case side2 => exact HC682_0.out); (case side3 => repeat (first | exact HR683_0.out | (with_reducible refine Kd.C_alloc ?_ _) | (with_reducible refine Kd.C_drewN ?_ _) | (with_reducible refine Kd.C_drew ?_))); (case side4 => exact HC683_0.out); rintro e w' ⟨rfl, ⟨nd, rfl⟩⟩; (try first | exact ⟨rfl, _, World.drewN_drewN _ _ _⟩ | exact ⟨rfl, _, Eq.trans (World.drewN_drewN _ _ _) (congrArg (World.drewN _) (Nat.add_assoc _ _ _))⟩))); try go_wp2_with (first | (go_at_call 96; (with_reducible refine (laws_eqBoolS.calls k1 _ _ (rd_L7 l0 x5_1) _ _ (rd_L7 l1 x5_1) false _ ?side1 ?side2 ?side3 ?side4 A7.out).mono ?_); (case side1 => repeat (first | exact HR682_0.out | (with_reducible refine Kd.C_alloc ?_ _) | (with_reducible refine Kd.C_drewN ?_ _) | (with_reducible refine Kd.C_drew ?_))); (case side2 => exact HC682_0.out); (case side3 => repeat (first | exact HR683_0.out | (with_reducible refine Kd.C_alloc ?_ _) | (with_reducible refine Kd.C_drewN ?_ _) | (with_reducible refine Kd.C_drew ?_))); (case side4 => exact HC683_0.out); rintro e w' ⟨rfl, ⟨nd, rfl⟩⟩; (try first | exact ⟨rfl, _, World.drewN_drewN _ _ _⟩ | exact ⟨rfl, _, Eq.trans (World.drewN_drewN _ _ _) (congrArg (World.drewN _) (Nat.add_assoc _ _ _))⟩))))
        go_ret
        exact ⟨by first | rfl | (simp; done) | (simp [*]; done), by repeat (first | exact Drawn0.refl _ | apply Drawn0.step)⟩
      ·rw [if_neg c6] at H
       exact absurd H (by simp)
     ·rw [if_neg c5] at H
      exact absurd H (by simp)
    ·rw [if_neg c4] at H
     have c4b0 : decide (x5_1 < (l0.length : Int)) = false := decide_eq_false c4
     clear c4
     obtain rfl := Option.some.inj H
     go_wp2
     repeat (go_quiet (fail); try go_wp2)
     go_ret
     exact ⟨by first | rfl | (simp; done) | (simp [*]; done), by repeat (first | exact Drawn0.refl _ | apply Drawn0.step)⟩
 ·rw [if_neg c3] at H
  have c3b0 : ((l0.length : Int) == (l1.length : Int)) = false := beq_eq_false_iff_ne.mpr c3
  have c3b1 : ((l0.length : Int) != (l1.length : Int)) = true := bne_iff_ne.mpr c3
  have c3b2 : (l0.length == l1.length) = false := by first | simpa using c3 | (simp at c3 ⊢; omega)
  obtain rfl := Option.some.inj H
  go_enter Try.func47, Try.ntmps47
  go_wp2
  repeat (go_quiet (fail); try go_wp2)
  go_ret
  exact ⟨by first | rfl | (simp; done) | (simp [*]; done), by repeat (first | exact Drawn0.refl _ | apply Drawn0.step)⟩
/-! ### laws_markBoolSS: function 48 (by hand) -/
def laws_markBoolSS.m (k : Nat) : List (List Bool) → Int → Option (Int × List (List Bool))
 | [], n => some (n, [])
 | x :: xs, n => (laws_markBoolS.f k x n).bind fun b => (laws_markBoolSS.m k xs b.1).map fun q => (q.1, b.2 :: q.2)
def laws_markBoolSS.f (k : Nat) (l0 : List (List Bool)) (a1 : Int) : Option (Int × List (List Bool)) := laws_markBoolSS.m k l0 a1
theorem laws_markBoolSS.mono : ∀ a0 a1 k, LeO (laws_markBoolSS.f k a0 a1) (laws_markBoolSS.f (k + 1) a0 a1)
 | [], _, _ => LeO.refl _
 | x :: xs, n, k => LeO.bind (laws_markBoolS.mono x n k) (fun b => LeO.map _ (laws_markBoolSS.mono xs b.1 k))
set_option maxHeartbeats 4000000 in
set_option maxRecDepth 100000 in
theorem laws_markBoolSS.calls (k : Nat) (P0_ : Nat → Prop) (u9000_ : Value) (l0 : List (List Bool)) (a1 : Int) (r1 : Int) (r2 : List (List Bool)) (w0 w : World) (hB : Below w0.heap.size w0 w) (ho0 : Kd.S (Kd.slice 4 Kd.bool) 36 w w0.heap.size P0_ u9000_ l0) (h : laws_markBoolSS.f k l0 a1 = some (r1, r2)) :
  Calls Try.prog 48 #[u9000_, .int .i64 a1] w fun e w' => e = .returned (.int .i64 r1) ∧ Kd.S (Kd.slice 4 Kd.bool) 36 w' w0.heap.size (fun k_ => (P0_ k_ ∨ w.heap.size ≤ k_)) u9000_ r2 ∧ Below w0.heap.size w0 w' ∧ Kept w w' (fun k_ => P0_ k_) := by
 obtain ⟨A, c, rfl⟩ := Kd.S_slice ho0
 have HS0 := Aside0.mk (Kd.S_mono ho0 (fun k_ hk => (.inl hk : P0_ k_ ∨ w.heap.size ≤ k_)))
 have HB0 := Aside0.mk hB
 have HK0 := Aside0.mk (Kept.refl w P0_)
 have hn : l0.length ≤ 9223372036854775807 := (Kd.S_reads' ho0).2.2.2.1
 have HM := Aside0.mk (show laws_markBoolSS.m k (l0.drop 0) a1 = some (r1, r2) ∧ l0.take 0 ++ r2 = r2 from ⟨h, rfl⟩)
 clear ho0 hB h
 generalize hlen : l0.length = n at *
 have HL := Aside0.mk hlen
 clear hlen
 go_enter Try.func48, Try.ntmps48
 go_wp2
 go_loopg [5, 1] n (fun gg s5 s1 wr => ∃ (i : Nat) (m : Int) (dk rr : List (List Bool)), s5 = .int .i64 i ∧ s1 = .int .i64 m ∧ i ≤ n ∧ n - i ≤ gg ∧ Aside0 (Kd.S (Kd.slice 4 Kd.bool) 36 wr w0.heap.size (fun k_ => (P0_ k_ ∨ w.heap.size ≤ k_)) (.slice A n c) dk) ∧ Aside0 (Below w0.heap.size w0 wr) ∧ Aside0 (Kept w wr P0_) ∧ Aside0 (dk.length = n ∧ dk.drop i = l0.drop i ∧ laws_markBoolSS.m k (l0.drop i) m = some (r1, rr) ∧ dk.take i ++ rr = r2))
 case atStart => exact ⟨0, a1, l0, r2, by rfl, by rfl, by omega, by omega, HS0, HB0, HK0, ⟨HL.out, rfl, HM.out.1, HM.out.2⟩⟩
 case round =>
  obtain ⟨i, m, dk, rr, rfl, rfl, hin, hgg, HS, HB, HK, HD⟩ := hrel
  by_cases hlt : i < n
  ·have hltz : (i : Int) < (n : Int) := by omega
   have hltb : decide ((i : Int) < (n : Int)) = true := decide_eq_true hltz
   obtain ⟨d1, d2, d3, d4⟩ := HD.out
   obtain ⟨g, cap, eo, hgb, hgl, _⟩ := Kd.S_form HS.out (by rw [d1]; omega)
   have eA : A = some ⟨g, 0, none⟩ := by injection eo
   subst eA
   clear eo
   have HGB := Aside0.mk hgb
   obtain ⟨oki, cs, hcl, hM, hcc, hoki, HH⟩ := Kd.S_lend HS.out [] (i : Int) (by omega) (by omega)
   have hdi : l0.drop i = dk.getD i [] :: l0.drop (i + 1) := by
    have hi' : i < dk.length := by omega
    have hi2 : i < l0.length := by rw [HL.out]; omega
    have h1 := d2
    rw [List.drop_eq_getElem_cons hi', List.drop_eq_getElem_cons hi2] at h1
    rw [List.drop_eq_getElem_cons hi2, List.getD_eq_getElem?_getD, List.getElem?_eq_getElem hi']
    injection h1 with h1 h2
    rw [← h1]
    rfl
   rw [hdi] at d3
   obtain ⟨b, b1, b2⟩ := Option.bind_eq_some_iff.1 d3
   obtain ⟨q, q1, q2⟩ := Option.map_eq_some_iff.1 b2
   rw [Int.toNat_natCast] at hM
   generalize dk.getD i [] = x at *
   obtain ⟨v, rfl, hR⟩ := hM
   obtain ⟨A', c', rfl⟩ := Kd.R_slice hR
   have hx0 : wr.cell? ⟨g, i, none⟩ = some (.slice A' x.length c') := by
    have z := hcc 0 _ rfl
    rw [Int.toNat_natCast, Nat.add_zero, show (Kd.slice 4 Kd.bool).sz = 1 from rfl, Nat.mul_one] at z
    exact z
   obtain ⟨m2, x2⟩ := b
   obtain ⟨q0, q3⟩ := q
   simp only [Prod.mk.injEq] at q2
   obtain ⟨rfl, rfl⟩ := q2
   have HC := Aside0.mk (laws_markBoolS.calls k oki _ x m m2 x2 w0 wr HB.out hR b1)
   have HX := Aside0.mk (And.intro HH hoki)
   have HQ := Aside0.mk q1
   clear d1 d2 d3 d4 b1 b2 q1 hcc hR hdi HH hoki hcl hgb
   go_wp2_with ((with_reducible refine gate_callee (f := 97) rfl ?_); refine goesL_ (some 17) rfl rfl Try.func97 (by kernel_rfl) rfl #[.slice A' x.length c', .int .i64 m] rfl (by (try simp only [List.map_toArray, List.map_cons, List.map_nil]); first | done | rfl) ?_; (with_reducible refine (HC.out).mono ?_); rintro e w2 ⟨rfl, hy, hb, hkp⟩; have HY := Aside0.mk hy; have HB2 := Aside0.mk hb; have HK2 := Aside0.mk hkp; clear hy hb hkp; refine ⟨_, rfl, ?_⟩)
   go_roundg (n - (i + 1))
   case measure => omega
   case rel =>
    have hsz : w.heap.size ≤ wr.heap.size := HK.out.1
    have hS2 := Kd.H_back (okp := fun k_ => oki k_ ∨ wr.heap.size ≤ k_) (x' := x2) (Kd.H_step (Kd.H_widen HX.out.1) (fun k_ _ hn hlt => HK2.out.2 k_ hlt (fun h => hn (.inl h)))) (⟨_, rfl, HY.out⟩ : (Kd.slice 4 Kd.bool).M w2 w0.heap.size (fun k_ => oki k_ ∨ wr.heap.size ≤ k_) x2 [.slice A' x.length c']) (fun k_ hk => hk.elim .inl (fun h => .inr ⟨.inr (Nat.le_trans hsz h), h⟩))
    rw [Int.toNat_natCast] at hS2
    refine ⟨i + 1, m2, dk.set i x2, q3, by go_num, rfl, by omega, by omega, ⟨hS2⟩, HB2, ⟨Kept.then_ HK.out HK2.out (fun k_ hk => (HX.out.2 k_ hk).1)⟩, ⟨by rw [List.length_set]; exact HD.out.1, ?_, HQ.out, ?_⟩⟩
    ·rw [List.drop_set_of_lt (by omega), ← List.drop_drop, ← List.drop_drop, HD.out.2.1]
    ·have hi' : i < dk.length := by rw [HD.out.1]; omega
     rw [List.take_succ_eq_append_getElem (by simpa using hi'), List.getElem_set_self, List.take_set_of_le (by omega), List.append_assoc]
     exact HD.out.2.2.2
  ·obtain rfl : i = n := by omega
   have hltb : decide ((i : Int) < (i : Int)) = false := decide_eq_false (by omega)
   obtain ⟨d1, d2, d3, d4⟩ := HD.out
   rw [List.drop_eq_nil_of_le (by rw [HL.out]; exact Nat.le_refl _)] at d3
   simp only [laws_markBoolSS.m, Option.some.injEq, Prod.mk.injEq] at d3
   obtain ⟨rfl, rfl⟩ := d3
   rw [List.append_nil, List.take_of_length_le (by omega)] at d4
   subst d4
   clear d1 d2
   go_wp2
   go_ret
   exact ⟨rfl, HS.out, HB.out, HK.out⟩
/-! ### laws_heldBoolSS: function 49 -/
def laws_heldBoolSS.l0 : Nat → List (List Bool) → Int → Int → Option (Int)
 | 0, _, _, _ => none
 | k + 1, x0, x1, x5 => if x5 < (x0.length : Int) then (if 0 ≤ x5 then ((laws_heldBoolS.f k (rd_L7 x0 x5) x1).bind fun t686 => (if t686 < 0 then (some (-1)) else (laws_heldBoolSS.l0 k x0 t686 (wrap64 (x5 + 1))))) else (none)) else (some x1)
def laws_heldBoolSS.f (k : Nat) (l0 : List (List Bool)) (a1 : Int) : Option (Int) := laws_heldBoolSS.l0 k l0 a1 0
theorem laws_heldBoolSS.mono_l : ∀ k, (∀ y0 y1 y2, LeO (laws_heldBoolSS.l0 k y0 y1 y2) (laws_heldBoolSS.l0 (k + 1) y0 y1 y2))
 | 0 => fun _ _ _ r h => by simp [laws_heldBoolSS.l0] at h
 | k + 1 => by
  have ih0 := laws_heldBoolSS.mono_l k
  ·intro y0 y1 y2
   unfold laws_heldBoolSS.l0
   repeat' first
   | (with_reducible exact ih0 _ _ _)
   | (with_reducible exact laws_heldBoolS.mono _ _ _)
   | (with_reducible exact LeO.refl _)
   | (with_reducible exact LeO.none _)
   | (with_reducible refine LeO.ite ?_ ?_)
   | (with_reducible refine LeO.bind ?_ (fun _ => ?_))
   | exact ih0 _ _ _
   | exact laws_heldBoolS.mono _ _ _
   | exact LeO.none _
   | refine LeO.ite ?_ ?_
   | refine LeO.bind ?_ (fun _ => ?_)
theorem laws_heldBoolSS.mono : ∀ a0 a1 k, LeO (laws_heldBoolSS.f k a0 a1) (laws_heldBoolSS.f (k + 1) a0 a1) := by
 intro a0 a1 k
 have ih0 := laws_heldBoolSS.mono_l k
 unfold laws_heldBoolSS.f
 repeat' first
   | (with_reducible exact ih0 _ _ _)
   | (with_reducible exact laws_heldBoolS.mono _ _ _)
   | (with_reducible exact LeO.refl _)
   | (with_reducible exact LeO.none _)
   | (with_reducible refine LeO.ite ?_ ?_)
   | (with_reducible refine LeO.bind ?_ (fun _ => ?_))
   | exact ih0 _ _ _
   | exact laws_heldBoolS.mono _ _ _
   | exact LeO.none _
   | refine LeO.ite ?_ ?_
   | refine LeO.bind ?_ (fun _ => ?_)
set_option maxHeartbeats 8000000 in
set_option maxRecDepth 100000 in
theorem laws_heldBoolSS.calls (k : Nat) (A0 : Option Addr) (c0 : Nat) (l0 : List (List Bool)) (a1 : Int) (r : Int) (w : World) (hr0 : Kd.C (Kd.slice 4 Kd.bool) w A0 l0.length l0) (hc0 : l0.length ≤ c0) (h : laws_heldBoolSS.f k l0 a1 = some r) :
  Calls Try.prog 49 #[.slice A0 l0.length c0, .int .i64 a1] w fun e w' => e = .returned (.int .i64 r) ∧ Drawn0 w w' := by
 have HR0 := Aside0.mk hr0
 have HC0 := Aside0.mk hc0
 clear hr0 hc0
 have H : (laws_heldBoolSS.l0 k l0 a1 0) = some r := h
 clear h
 have H' := Aside0.mk H
 clear H
 go_enter Try.func49, Try.ntmps49
 go_wp2
 go_loopg [1, 5] k (fun kq v1 v5 w' => ∃ (x1_1 : Int) (x5_1 : Int), v1 = .int .i64 x1_1 ∧ v5 = .int .i64 x5_1 ∧ Aside0 (laws_heldBoolSS.l0 kq l0 x1_1 x5_1 = some r) ∧ Aside0 (kq ≤ k) ∧ Drawn0 w w')
 case atStart => exact ⟨(a1), (0), (by first | rfl | (simp; done) | (simp [*]; done)), (by first | rfl | (simp; done) | (simp [*]; done)), H', ⟨Nat.le_refl _⟩, by repeat (first | exact Drawn0.refl _ | apply Drawn0.step)⟩
 case round =>
  clear H'
  try clear p2
  obtain ⟨x1_1, x5_1, rfl, rfl, HA, HK1, ⟨m1, rfl⟩⟩ := hrel
  cases gk with
  | zero => exact absurd HA.out (by simp [laws_heldBoolSS.l0])
  | succ k1 =>
   have H := HA.out
   clear HA
   simp only [laws_heldBoolSS.l0] at H
   by_cases c3 : x5_1 < (l0.length : Int)
   ·rw [if_pos c3] at H
    have c3b0 : decide (x5_1 < (l0.length : Int)) = true := decide_eq_true c3
    clear c3
    by_cases c4 : 0 ≤ x5_1
    ·rw [if_pos c4] at H
     have c4b0 : decide (0 ≤ x5_1) = true := decide_eq_true c4
     clear c4
     replace H := Option.bind_eq_some_iff.mp H
     obtain ⟨t686, A50, H⟩ := H
     replace H : (if t686 < 0 then (some (-1)) else (laws_heldBoolSS.l0 k1 l0 t686 (wrap64 (x5_1 + 1)))) = some r := H
     have A5 := Aside0.mk A50
     clear A50
     by_cases c6 : t686 < 0
     ·rw [if_pos c6] at H
      have c6b0 : decide (t686 < 0) = true := decide_eq_true c6
      clear c6
      obtain rfl := Option.some.inj H
      have p685 : 0 ≤ (x5_1 : Int) := of_decide_eq_true (by first | (with_reducible assumption) | assumption)
      have q685 : x5_1 < (l0.length : Int) := of_decide_eq_true (by first | (with_reducible assumption) | assumption)
      obtain ⟨ad685, A685_0, c685_0, e685, hx685_0, hl685_0, hi685_0⟩ := at_L7 HR0.out x5_1 p685 q685
      cases e685
      have HR685_0 := Aside0.mk hi685_0
      have HC685_0 := Aside0.mk hl685_0
      clear hi685_0 hl685_0
      replace p685 := eq_true p685
      replace q685 := eq_true q685
      go_wp2_with (first | ((with_reducible refine gate_callee (f := 98) rfl ?_); refine goesL_ (some 17) rfl rfl Try.func98 (by kernel_rfl) rfl #[.slice A685_0 (rd_L7 l0 x5_1).length c685_0, .int .i64 x1_1] rfl (by (try simp only [List.map_toArray, List.map_cons, List.map_nil]); first | done | rfl | (simp only [List.length_drop, List.length_take]; rfl)) ?_; (with_reducible refine (laws_heldBoolS.calls k1 _ _ (rd_L7 l0 x5_1) x1_1 t686 _ ?side1 ?side2 A5.out).mono ?_); (case side1 => repeat (first | exact HR685_0.out | (with_reducible refine Kd.C_alloc ?_ _) | (with_reducible refine Kd.C_drewN ?_ _) | (with_reducible refine Kd.C_drew ?_))); (case side2 => exact HC685_0.out); rintro e w' ⟨rfl, ⟨nd, rfl⟩⟩; refine ⟨_, rfl, ?_⟩))
      go_ret
      exact ⟨by first | rfl | (simp; done) | (simp [*]; done), by repeat (first | exact Drawn0.refl _ | apply Drawn0.step)⟩
     ·rw [if_neg c6] at H
      have c6b0 : decide (t686 < 0) = false := decide_eq_false c6
      clear c6
      have H' := Aside0.mk H
      clear H
      have p685 : 0 ≤ (x5_1 : Int) := of_decide_eq_true (by first | (with_reducible assumption) | assumption)
      have q685 : x5_1 < (l0.length : Int) := of_decide_eq_true (by first | (with_reducible assumption) | assumption)
      obtain ⟨ad685, A685_0, c685_0, e685, hx685_0, hl685_0, hi685_0⟩ := at_L7 HR0.out x5_1 p685 q685
      cases e685
      have HR685_0 := Aside0.mk hi685_0
      have HC685_0 := Aside0.mk hl685_0
      clear hi685_0 hl685_0
      replace p685 := eq_true p685
      replace q685 := eq_true q685
      go_wp2_with (first | ((with_reducible refine gate_callee (f := 98) rfl ?_); refine goesL_ (some 17) rfl rfl Try.func98 (by kernel_rfl) rfl #[.slice A685_0 (rd_L7 l0 x5_1).length c685_0, .int .i64 x1_1] rfl (by (try simp only [List.map_toArray, List.map_cons, List.map_nil]); first | done | rfl | (simp only [List.length_drop, List.length_take]; rfl)) ?_; (with_reducible refine (laws_heldBoolS.calls k1 _ _ (rd_L7 l0 x5_1) x1_1 t686 _ ?side1 ?side2 A5.out).mono ?_); (case side1 => repeat (first | exact HR685_0.out | (with_reducible refine Kd.C_alloc ?_ _) | (with_reducible refine Kd.C_drewN ?_ _) | (with_reducible refine Kd.C_drew ?_))); (case side2 => exact HC685_0.out); rintro e w' ⟨rfl, ⟨nd, rfl⟩⟩; refine ⟨_, rfl, ?_⟩))
      go_roundg k1
      case measure => have := HK1.out; omega
      case rel => exact ⟨(t686), (wrap64 (x5_1 + 1)), (by first | rfl | (simp; done) | (simp [*]; done)), (by first | rfl | (simp; done) | (simp [*]; done)), H', ⟨by have := HK1.out; omega⟩, by repeat (first | exact Drawn0.refl _ | apply Drawn0.step)⟩
    ·rw [if_neg c4] at H
     exact absurd H (by simp)
   ·rw [if_neg c3] at H
    have c3b0 : decide (x5_1 < (l0.length : Int)) = false := decide_eq_false c3
    clear c3
    obtain rfl := Option.some.inj H
    go_wp2
    go_ret
    exact ⟨by first | rfl | (simp; done) | (simp [*]; done), by repeat (first | exact Drawn0.refl _ | apply Drawn0.step)⟩
end Go.Proofs.Ytmclmbhdgepjfaa.Q

