-- Laid by wip/xprint.py (a session's own program, over the kit's print.py). Lean checks it.
import Derived.Test.YtmclmbhdgepjfaaQx0
import Derived.Test.YtmclmbhdgepjfaaQx1
import Derived.Test.YtmclmbhdgepjfaaQx2
import Derived.Test.YtmclmbhdgepjfaaQx3
import Derived.Test.YtmclmbhdgepjfaaQx20
namespace Go.Proofs.Ytmclmbhdgepjfaa.Q
open Go.RowKit Go.Proofs.YtmclmbhdgepjfaaX Go.Proofs.YtmclmbhdgepjfaaW.PrintWords Go.Proofs.YtmclmbhdgepjfaaW.PrintLast Go.Proofs.YtmclmbhdgepjfaaW.PrintMore
attribute [local go_sem] max2_int min2_int max_two min_two max_three min_three max_four min_four   -- for this text's walks alone
set_option linter.unusedVariables false
set_option linter.unusedSimpArgs false

attribute [local go_sem high] eqA40
/-! ### impl_IssuerOK: function 37 -/
mutual
def impl_IssuerOK.j0 : Nat → Bool → ByteArray → List Bool → Int → ByteArray → ByteArray → Bool → Int → Option (Bool)
  | 0, _, _, _, _, _, _, _, _ => none
  | k + 1, x22, x380000, x380001, x380002, x380003, x380004, x380005, x380006 => if x22 = true then (some false) else (impl_IssuerOK.l0 k x380001 (x380001.length : Int) 0 x380000 x380001 x380002 x380003 x380004 x380005 x380006)
def impl_IssuerOK.l0 : Nat → List Bool → Int → Int → ByteArray → List Bool → Int → ByteArray → ByteArray → Bool → Int → Option (Bool)
  | 0, _, _, _, _, _, _, _, _, _, _ => none
  | k + 1, x25, x26, x27, x380000, x380001, x380002, x380003, x380004, x380005, x380006 => if x27 < x26 then (if 0 ≤ x27 then (if x27 < (x25.length : Int) then (if ((rdOf false x25 x27) != (decide (x27 < x380006))) = true then (some false) else (impl_IssuerOK.l0 k x25 x26 (wrap64 (x27 + 1)) x380000 x380001 x380002 x380003 x380004 x380005 x380006)) else (none)) else (none)) else (if x380005 = true then ((impl_statementOK.f x380002 x380003 x380004).bind fun t383 => (some t383)) else (some (x380002 == 0 && (x380003.toList == ([] : List UInt8) && (x380004.toList == ([] : List UInt8))))))
end
def impl_IssuerOK.f (k : Nat) (a0_0 : ByteArray) (l0_1 : List Bool) (a0_2 : Int) (a0_3 : ByteArray) (a0_4 : ByteArray) (a0_5 : Bool) (a0_6 : Int) : Option (Bool) := (impl_SignerOK.f a0_0 l0_1).bind fun t380 => (if t380 = true then ((impl_within.f a0_6 0 4).bind fun t381 => (if t381 = true then (impl_IssuerOK.j0 k (a0_5 != (decide (a0_6 > 0))) a0_0 l0_1 a0_2 a0_3 a0_4 a0_5 a0_6) else (impl_IssuerOK.j0 k true a0_0 l0_1 a0_2 a0_3 a0_4 a0_5 a0_6))) else (impl_IssuerOK.j0 k true a0_0 l0_1 a0_2 a0_3 a0_4 a0_5 a0_6))
theorem impl_IssuerOK.mono_l : ∀ k, (∀ y0 y1 y2 y3 y4 y5 y6 y7, LeO (impl_IssuerOK.j0 k y0 y1 y2 y3 y4 y5 y6 y7) (impl_IssuerOK.j0 (k + 1) y0 y1 y2 y3 y4 y5 y6 y7)) ∧ (∀ y0 y1 y2 y3 y4 y5 y6 y7 y8 y9, LeO (impl_IssuerOK.l0 k y0 y1 y2 y3 y4 y5 y6 y7 y8 y9) (impl_IssuerOK.l0 (k + 1) y0 y1 y2 y3 y4 y5 y6 y7 y8 y9))
  | 0 => ⟨fun _ _ _ _ _ _ _ _ r h => by simp [impl_IssuerOK.j0] at h, fun _ _ _ _ _ _ _ _ _ _ r h => by simp [impl_IssuerOK.l0] at h⟩
  | k + 1 => by
    obtain ⟨ih0, ih1⟩ := impl_IssuerOK.mono_l k
    refine ⟨?_, ?_⟩
    · intro y0 y1 y2 y3 y4 y5 y6 y7
      unfold impl_IssuerOK.j0
      repeat' first
      | (with_reducible exact ih0 _ _ _ _ _ _ _ _)
      | (with_reducible exact ih1 _ _ _ _ _ _ _ _ _ _)
      | (with_reducible exact LeO.refl _)
      | (with_reducible exact LeO.none _)
      | (with_reducible refine LeO.ite ?_ ?_)
      | (with_reducible refine LeO.bind ?_ (fun _ => ?_))
      | exact ih0 _ _ _ _ _ _ _ _
      | exact ih1 _ _ _ _ _ _ _ _ _ _
      | exact LeO.none _
      | refine LeO.ite ?_ ?_
      | refine LeO.bind ?_ (fun _ => ?_)
    · intro y0 y1 y2 y3 y4 y5 y6 y7 y8 y9
      unfold impl_IssuerOK.l0
      repeat' first
      | (with_reducible exact ih0 _ _ _ _ _ _ _ _)
      | (with_reducible exact ih1 _ _ _ _ _ _ _ _ _ _)
      | (with_reducible exact LeO.refl _)
      | (with_reducible exact LeO.none _)
      | (with_reducible refine LeO.ite ?_ ?_)
      | (with_reducible refine LeO.bind ?_ (fun _ => ?_))
      | exact ih0 _ _ _ _ _ _ _ _
      | exact ih1 _ _ _ _ _ _ _ _ _ _
      | exact LeO.none _
      | refine LeO.ite ?_ ?_
      | refine LeO.bind ?_ (fun _ => ?_)
theorem impl_IssuerOK.mono : ∀ a0 a1 a2 a3 a4 a5 a6 k, LeO (impl_IssuerOK.f k a0 a1 a2 a3 a4 a5 a6) (impl_IssuerOK.f (k + 1) a0 a1 a2 a3 a4 a5 a6) := by
  intro a0 a1 a2 a3 a4 a5 a6 k
  obtain ⟨ih0, ih1⟩ := impl_IssuerOK.mono_l k
  unfold impl_IssuerOK.f
  repeat' first
      | (with_reducible exact ih0 _ _ _ _ _ _ _ _)
      | (with_reducible exact ih1 _ _ _ _ _ _ _ _ _ _)
      | (with_reducible exact LeO.refl _)
      | (with_reducible exact LeO.none _)
      | (with_reducible refine LeO.ite ?_ ?_)
      | (with_reducible refine LeO.bind ?_ (fun _ => ?_))
      | exact ih0 _ _ _ _ _ _ _ _
      | exact ih1 _ _ _ _ _ _ _ _ _ _
      | exact LeO.none _
      | refine LeO.ite ?_ ?_
      | refine LeO.bind ?_ (fun _ => ?_)
set_option maxHeartbeats 8000000 in
set_option maxRecDepth 100000 in
theorem impl_IssuerOK.calls (k : Nat) (a0_0 : ByteArray) (A0_1 : Option Addr) (c0_1 : Nat) (l0_1 : List Bool) (a0_2 : Int) (a0_3 : ByteArray) (a0_4 : ByteArray) (a0_5 : Bool) (a0_6 : Int) (r : Bool) (w : World) (hr0_1 : Kd.C Kd.bool w A0_1 l0_1.length l0_1) (hc0_1 : l0_1.length ≤ c0_1) (h : impl_IssuerOK.f k a0_0 l0_1 a0_2 a0_3 a0_4 a0_5 a0_6 = some r) :
    Calls Try.prog 37 #[.agg #[.string a0_0, .slice A0_1 l0_1.length c0_1, .int .i64 a0_2, .string a0_3, .string a0_4, .bool a0_5, .int .i64 a0_6]] w fun e w' => e = .returned (.bool r) ∧ Below w.heap.size w w' := by
  have hu42 := Try.underlying42
  have hu38 := Try.underlying38
  have hu40 := Try.underlying40
  have HR0_1 := Aside0.mk hr0_1
  have HC0_1 := Aside0.mk hc0_1
  clear hr0_1 hc0_1
  have HB := Aside0.mk (Below.refl w.heap.size w)
  have H : ((impl_SignerOK.f a0_0 l0_1).bind fun t380 => (if t380 = true then ((impl_within.f a0_6 0 4).bind fun t381 => (if t381 = true then (impl_IssuerOK.j0 k (a0_5 != (decide (a0_6 > 0))) a0_0 l0_1 a0_2 a0_3 a0_4 a0_5 a0_6) else (impl_IssuerOK.j0 k true a0_0 l0_1 a0_2 a0_3 a0_4 a0_5 a0_6))) else (impl_IssuerOK.j0 k true a0_0 l0_1 a0_2 a0_3 a0_4 a0_5 a0_6))) = some r := h
  clear h
  have HC2 := Aside0.mk H
  clear H
  go_enter Try.func37, Try.ntmps37
  go_upto_region 1 with (first | ((with_reducible refine gate_dst (N := 1) rfl ?_); refine box_event ?hg (N := 1) ?hd (cs := #[.string a0_0, .slice A0_1 l0_1.length c0_1, .int .i64 a0_2, .string a0_3, .string a0_4, .bool a0_5, .int .i64 a0_6]) (t := 42) ?hr ?_; (case hd => rfl); (case hg => rfl); (case hr => first | (go_simp; done) | (go_simp; rfl)); intro gb379 hg w3 hbox hb; have n0_ := Aside0.mk (below_step (by repeat (first | (with_reducible first | exact HB.out | apply below_alloc | apply pw_below_drewN | apply below_drew1) | exact HB.out)) hb); have n1_ := Aside0.mk (hbox); have n2_ := Aside0.mk ((by rw [hg]; exact (below_size (by repeat (first | (with_reducible first | exact HB.out | apply below_alloc | apply pw_below_drewN | apply below_drew1) | exact HB.out))) : w.heap.size ≤ gb379)); have n3_ := Aside0.mk ((by rw [hg]; exact (below_size (by repeat (first | (with_reducible first | exact HB.out | apply below_alloc | apply pw_below_drewN | apply below_drew1) | exact HB.out))) : w.heap.size ≤ gb379)); clear HB; have HB := n0_; have BK379 := n1_; have GW379 := n2_; have GE379 := n3_; clear n0_ n1_ n2_ n3_; clear hb hbox hg))
  (try simp only [Act.put, List.setIfInBounds_toArray, List.set_cons_zero, List.set_cons_succ])
  go_cut [22] (fun v22 wc => ∃ (kq : Nat) (x22_1 : Bool), v22 = .bool x22_1 ∧ Aside0 (impl_IssuerOK.j0 kq x22_1 a0_0 l0_1 a0_2 a0_3 a0_4 a0_5 a0_6 = some r) ∧ Aside0 (kq ≤ k) ∧ Aside0 (wc.heap[gb379]? = some (.cells #[.string a0_0, (.slice A0_1 l0_1.length c0_1), .int .i64 a0_2, .string a0_3, .string a0_4, .bool a0_5, .int .i64 a0_6] 42 (0, 0))) ∧ Aside0 (Below w.heap.size w wc))
  case first =>
    have H := HC2.out
    clear HC2
    replace H := Option.bind_eq_some_iff.mp H
    obtain ⟨t380, A40, H⟩ := H
    replace H : (if t380 = true then ((impl_within.f a0_6 0 4).bind fun t381 => (if t381 = true then (impl_IssuerOK.j0 k (a0_5 != (decide (a0_6 > 0))) a0_0 l0_1 a0_2 a0_3 a0_4 a0_5 a0_6) else (impl_IssuerOK.j0 k true a0_0 l0_1 a0_2 a0_3 a0_4 a0_5 a0_6))) else (impl_IssuerOK.j0 k true a0_0 l0_1 a0_2 a0_3 a0_4 a0_5 a0_6)) = some r := H
    have A4 := Aside0.mk A40
    clear A40
    by_cases c5 : t380 = true
    · subst c5
      have H1 : ((impl_within.f a0_6 0 4).bind fun t381 => (if t381 = true then (impl_IssuerOK.j0 k (a0_5 != (decide (a0_6 > 0))) a0_0 l0_1 a0_2 a0_3 a0_4 a0_5 a0_6) else (impl_IssuerOK.j0 k true a0_0 l0_1 a0_2 a0_3 a0_4 a0_5 a0_6))) = some r := by rw [if_pos rfl] at H; exact H
      clear H
      have H := H1
      clear H1
      replace H := Option.bind_eq_some_iff.mp H
      obtain ⟨t381, A60, H⟩ := H
      replace H : (if t381 = true then (impl_IssuerOK.j0 k (a0_5 != (decide (a0_6 > 0))) a0_0 l0_1 a0_2 a0_3 a0_4 a0_5 a0_6) else (impl_IssuerOK.j0 k true a0_0 l0_1 a0_2 a0_3 a0_4 a0_5 a0_6)) = some r := H
      have A6 := Aside0.mk A60
      clear A60
      by_cases c7 : t381 = true
      · subst c7
        have H1 : (impl_IssuerOK.j0 k (a0_5 != (decide (a0_6 > 0))) a0_0 l0_1 a0_2 a0_3 a0_4 a0_5 a0_6) = some r := by rw [if_pos rfl] at H; exact H
        clear H
        have H := H1
        clear H1
        have H' := Aside0.mk H
        clear H
        have hcz8_0 : w3.cell? ⟨gb379, 0, none⟩ = some (.string a0_0) := (blk_cell BK379.out 0).trans rfl
        have hcz8_1 : w3.cell? ⟨gb379, 1, none⟩ = some (.slice A0_1 l0_1.length c0_1) := (blk_cell BK379.out 1).trans rfl
        have hcz8_2 : w3.cell? ⟨gb379, 2, none⟩ = some (.int .i64 a0_2) := (blk_cell BK379.out 2).trans rfl
        have hcz8_3 : w3.cell? ⟨gb379, 3, none⟩ = some (.string a0_3) := (blk_cell BK379.out 3).trans rfl
        have hcz8_4 : w3.cell? ⟨gb379, 4, none⟩ = some (.string a0_4) := (blk_cell BK379.out 4).trans rfl
        have hcz8_5 : w3.cell? ⟨gb379, 5, none⟩ = some (.bool a0_5) := (blk_cell BK379.out 5).trans rfl
        have hcz8_6 : w3.cell? ⟨gb379, 6, none⟩ = some (.int .i64 a0_6) := (blk_cell BK379.out 6).trans rfl
        have hfz8_0 := blk_frozen BK379.out 0
        have hfz8_1 := blk_frozen BK379.out 1
        have hfz8_2 := blk_frozen BK379.out 2
        have hfz8_3 := blk_frozen BK379.out 3
        have hfz8_4 := blk_frozen BK379.out 4
        have hfz8_5 := blk_frozen BK379.out 5
        have hfz8_6 := blk_frozen BK379.out 6
        go_wp2_with (first | ((with_reducible refine gate_callee (f := 86) rfl ?_); refine goesL_ (some 7) rfl rfl Try.func86 (by kernel_rfl) rfl #[.agg #[.string a0_0, .slice A0_1 l0_1.length c0_1]] rfl (by (try simp only [List.map_toArray, List.map_cons, List.map_nil]); first | done | rfl | (simp only [List.length_drop, List.length_take]; rfl)) ?_; (with_reducible refine (impl_SignerOK.calls a0_0 _ _ l0_1 true _ ?side1 ?side2 A4.out).mono ?_); (case side1 => repeat (first | exact (Kd.C_below HR0_1.out HB.out) | (with_reducible refine Kd.C_alloc ?_ _) | (with_reducible refine Kd.C_drewN ?_ _) | (with_reducible refine Kd.C_drew ?_))); (case side2 => exact HC0_1.out); rintro e w9 ⟨rfl, hb⟩; refine ⟨_, rfl, ?_⟩; have n0_ := Aside0.mk (blk_below (g := gb379) (o := .cells #[.string a0_0, .slice A0_1 l0_1.length c0_1, .int .i64 a0_2, .string a0_3, .string a0_4, .bool a0_5, .int .i64 a0_6] 42 (0, 0)) (by (with_reducible repeat (first | refine blk_drewN ?_ _ | refine blk_drew ?_ | refine blk_alloc ?_ _)); exact BK379.out) hb); have n1_ := Aside0.mk (below_step (by repeat (first | (with_reducible first | exact HB.out | apply below_alloc | apply pw_below_drewN | apply below_drew1 | refine below_set ?_ GE379.out) | exact HB.out)) hb); clear BK379; clear HB; have BK379 := n0_; have HB := n1_; clear n0_ n1_; (try clear hb); (try clear hb2); (try clear hk); (try clear hi); have hcz10_0 : w9.cell? ⟨gb379, 0, none⟩ = some (.string a0_0) := (blk_cell BK379.out 0).trans rfl; have hcz10_1 : w9.cell? ⟨gb379, 1, none⟩ = some (.slice A0_1 l0_1.length c0_1) := (blk_cell BK379.out 1).trans rfl; have hcz10_2 : w9.cell? ⟨gb379, 2, none⟩ = some (.int .i64 a0_2) := (blk_cell BK379.out 2).trans rfl; have hcz10_3 : w9.cell? ⟨gb379, 3, none⟩ = some (.string a0_3) := (blk_cell BK379.out 3).trans rfl; have hcz10_4 : w9.cell? ⟨gb379, 4, none⟩ = some (.string a0_4) := (blk_cell BK379.out 4).trans rfl; have hcz10_5 : w9.cell? ⟨gb379, 5, none⟩ = some (.bool a0_5) := (blk_cell BK379.out 5).trans rfl; have hcz10_6 : w9.cell? ⟨gb379, 6, none⟩ = some (.int .i64 a0_6) := (blk_cell BK379.out 6).trans rfl; have hfz10_0 := blk_frozen BK379.out 0; have hfz10_1 := blk_frozen BK379.out 1; have hfz10_2 := blk_frozen BK379.out 2; have hfz10_3 := blk_frozen BK379.out 3; have hfz10_4 := blk_frozen BK379.out 4; have hfz10_5 := blk_frozen BK379.out 5; have hfz10_6 := blk_frozen BK379.out 6) | (go_at_call 71; (with_reducible refine (impl_within.calls a0_6 0 4 true _ A6.out).mono ?_); rintro e w' ⟨rfl, ⟨nd, rfl⟩⟩))
        go_meet
        case rel => exact ⟨_, ((a0_5 != (decide (a0_6 > 0)))), (by first | rfl | (simp; done) | (simp [*]; done)), H', ⟨by first | omega | exact Nat.le_refl _⟩, ⟨by (with_reducible repeat (first | refine blk_drewN ?_ _ | refine blk_drew ?_ | refine blk_alloc ?_ _)); exact BK379.out⟩, ⟨by repeat (first | (with_reducible first | exact HB.out | apply below_alloc | apply pw_below_drewN | apply below_drew1 | refine below_set ?_ GE379.out) | exact HB.out)⟩⟩
      · replace c7 := Bool.eq_false_iff.mpr c7
        subst c7
        have H1 : (impl_IssuerOK.j0 k true a0_0 l0_1 a0_2 a0_3 a0_4 a0_5 a0_6) = some r := by rw [if_neg (show ¬ (false = true) by decide)] at H; exact H
        clear H
        have H := H1
        clear H1
        have H' := Aside0.mk H
        clear H
        have hcz11_0 : w3.cell? ⟨gb379, 0, none⟩ = some (.string a0_0) := (blk_cell BK379.out 0).trans rfl
        have hcz11_1 : w3.cell? ⟨gb379, 1, none⟩ = some (.slice A0_1 l0_1.length c0_1) := (blk_cell BK379.out 1).trans rfl
        have hcz11_2 : w3.cell? ⟨gb379, 2, none⟩ = some (.int .i64 a0_2) := (blk_cell BK379.out 2).trans rfl
        have hcz11_3 : w3.cell? ⟨gb379, 3, none⟩ = some (.string a0_3) := (blk_cell BK379.out 3).trans rfl
        have hcz11_4 : w3.cell? ⟨gb379, 4, none⟩ = some (.string a0_4) := (blk_cell BK379.out 4).trans rfl
        have hcz11_5 : w3.cell? ⟨gb379, 5, none⟩ = some (.bool a0_5) := (blk_cell BK379.out 5).trans rfl
        have hcz11_6 : w3.cell? ⟨gb379, 6, none⟩ = some (.int .i64 a0_6) := (blk_cell BK379.out 6).trans rfl
        have hfz11_0 := blk_frozen BK379.out 0
        have hfz11_1 := blk_frozen BK379.out 1
        have hfz11_2 := blk_frozen BK379.out 2
        have hfz11_3 := blk_frozen BK379.out 3
        have hfz11_4 := blk_frozen BK379.out 4
        have hfz11_5 := blk_frozen BK379.out 5
        have hfz11_6 := blk_frozen BK379.out 6
        go_wp2_with (first | ((with_reducible refine gate_callee (f := 86) rfl ?_); refine goesL_ (some 7) rfl rfl Try.func86 (by kernel_rfl) rfl #[.agg #[.string a0_0, .slice A0_1 l0_1.length c0_1]] rfl (by (try simp only [List.map_toArray, List.map_cons, List.map_nil]); first | done | rfl | (simp only [List.length_drop, List.length_take]; rfl)) ?_; (with_reducible refine (impl_SignerOK.calls a0_0 _ _ l0_1 true _ ?side1 ?side2 A4.out).mono ?_); (case side1 => repeat (first | exact (Kd.C_below HR0_1.out HB.out) | (with_reducible refine Kd.C_alloc ?_ _) | (with_reducible refine Kd.C_drewN ?_ _) | (with_reducible refine Kd.C_drew ?_))); (case side2 => exact HC0_1.out); rintro e w12 ⟨rfl, hb⟩; refine ⟨_, rfl, ?_⟩; have n0_ := Aside0.mk (blk_below (g := gb379) (o := .cells #[.string a0_0, .slice A0_1 l0_1.length c0_1, .int .i64 a0_2, .string a0_3, .string a0_4, .bool a0_5, .int .i64 a0_6] 42 (0, 0)) (by (with_reducible repeat (first | refine blk_drewN ?_ _ | refine blk_drew ?_ | refine blk_alloc ?_ _)); exact BK379.out) hb); have n1_ := Aside0.mk (below_step (by repeat (first | (with_reducible first | exact HB.out | apply below_alloc | apply pw_below_drewN | apply below_drew1 | refine below_set ?_ GE379.out) | exact HB.out)) hb); clear BK379; clear HB; have BK379 := n0_; have HB := n1_; clear n0_ n1_; (try clear hb); (try clear hb2); (try clear hk); (try clear hi); have hcz13_0 : w12.cell? ⟨gb379, 0, none⟩ = some (.string a0_0) := (blk_cell BK379.out 0).trans rfl; have hcz13_1 : w12.cell? ⟨gb379, 1, none⟩ = some (.slice A0_1 l0_1.length c0_1) := (blk_cell BK379.out 1).trans rfl; have hcz13_2 : w12.cell? ⟨gb379, 2, none⟩ = some (.int .i64 a0_2) := (blk_cell BK379.out 2).trans rfl; have hcz13_3 : w12.cell? ⟨gb379, 3, none⟩ = some (.string a0_3) := (blk_cell BK379.out 3).trans rfl; have hcz13_4 : w12.cell? ⟨gb379, 4, none⟩ = some (.string a0_4) := (blk_cell BK379.out 4).trans rfl; have hcz13_5 : w12.cell? ⟨gb379, 5, none⟩ = some (.bool a0_5) := (blk_cell BK379.out 5).trans rfl; have hcz13_6 : w12.cell? ⟨gb379, 6, none⟩ = some (.int .i64 a0_6) := (blk_cell BK379.out 6).trans rfl; have hfz13_0 := blk_frozen BK379.out 0; have hfz13_1 := blk_frozen BK379.out 1; have hfz13_2 := blk_frozen BK379.out 2; have hfz13_3 := blk_frozen BK379.out 3; have hfz13_4 := blk_frozen BK379.out 4; have hfz13_5 := blk_frozen BK379.out 5; have hfz13_6 := blk_frozen BK379.out 6) | (go_at_call 71; (with_reducible refine (impl_within.calls a0_6 0 4 false _ A6.out).mono ?_); rintro e w' ⟨rfl, ⟨nd, rfl⟩⟩))
        go_meet
        case rel => exact ⟨_, (true), (by first | rfl | (simp; done) | (simp [*]; done)), H', ⟨by first | omega | exact Nat.le_refl _⟩, ⟨by (with_reducible repeat (first | refine blk_drewN ?_ _ | refine blk_drew ?_ | refine blk_alloc ?_ _)); exact BK379.out⟩, ⟨by repeat (first | (with_reducible first | exact HB.out | apply below_alloc | apply pw_below_drewN | apply below_drew1 | refine below_set ?_ GE379.out) | exact HB.out)⟩⟩
    · replace c5 := Bool.eq_false_iff.mpr c5
      subst c5
      have H1 : (impl_IssuerOK.j0 k true a0_0 l0_1 a0_2 a0_3 a0_4 a0_5 a0_6) = some r := by rw [if_neg (show ¬ (false = true) by decide)] at H; exact H
      clear H
      have H := H1
      clear H1
      have H' := Aside0.mk H
      clear H
      have hcz14_0 : w3.cell? ⟨gb379, 0, none⟩ = some (.string a0_0) := (blk_cell BK379.out 0).trans rfl
      have hcz14_1 : w3.cell? ⟨gb379, 1, none⟩ = some (.slice A0_1 l0_1.length c0_1) := (blk_cell BK379.out 1).trans rfl
      have hcz14_2 : w3.cell? ⟨gb379, 2, none⟩ = some (.int .i64 a0_2) := (blk_cell BK379.out 2).trans rfl
      have hcz14_3 : w3.cell? ⟨gb379, 3, none⟩ = some (.string a0_3) := (blk_cell BK379.out 3).trans rfl
      have hcz14_4 : w3.cell? ⟨gb379, 4, none⟩ = some (.string a0_4) := (blk_cell BK379.out 4).trans rfl
      have hcz14_5 : w3.cell? ⟨gb379, 5, none⟩ = some (.bool a0_5) := (blk_cell BK379.out 5).trans rfl
      have hcz14_6 : w3.cell? ⟨gb379, 6, none⟩ = some (.int .i64 a0_6) := (blk_cell BK379.out 6).trans rfl
      have hfz14_0 := blk_frozen BK379.out 0
      have hfz14_1 := blk_frozen BK379.out 1
      have hfz14_2 := blk_frozen BK379.out 2
      have hfz14_3 := blk_frozen BK379.out 3
      have hfz14_4 := blk_frozen BK379.out 4
      have hfz14_5 := blk_frozen BK379.out 5
      have hfz14_6 := blk_frozen BK379.out 6
      go_wp2_with (first | ((with_reducible refine gate_callee (f := 86) rfl ?_); refine goesL_ (some 7) rfl rfl Try.func86 (by kernel_rfl) rfl #[.agg #[.string a0_0, .slice A0_1 l0_1.length c0_1]] rfl (by (try simp only [List.map_toArray, List.map_cons, List.map_nil]); first | done | rfl | (simp only [List.length_drop, List.length_take]; rfl)) ?_; (with_reducible refine (impl_SignerOK.calls a0_0 _ _ l0_1 false _ ?side1 ?side2 A4.out).mono ?_); (case side1 => repeat (first | exact (Kd.C_below HR0_1.out HB.out) | (with_reducible refine Kd.C_alloc ?_ _) | (with_reducible refine Kd.C_drewN ?_ _) | (with_reducible refine Kd.C_drew ?_))); (case side2 => exact HC0_1.out); rintro e w15 ⟨rfl, hb⟩; refine ⟨_, rfl, ?_⟩; have n0_ := Aside0.mk (blk_below (g := gb379) (o := .cells #[.string a0_0, .slice A0_1 l0_1.length c0_1, .int .i64 a0_2, .string a0_3, .string a0_4, .bool a0_5, .int .i64 a0_6] 42 (0, 0)) (by (with_reducible repeat (first | refine blk_drewN ?_ _ | refine blk_drew ?_ | refine blk_alloc ?_ _)); exact BK379.out) hb); have n1_ := Aside0.mk (below_step (by repeat (first | (with_reducible first | exact HB.out | apply below_alloc | apply pw_below_drewN | apply below_drew1 | refine below_set ?_ GE379.out) | exact HB.out)) hb); clear BK379; clear HB; have BK379 := n0_; have HB := n1_; clear n0_ n1_; (try clear hb); (try clear hb2); (try clear hk); (try clear hi)))
      go_meet
      case rel => exact ⟨_, (true), (by first | rfl | (simp; done) | (simp [*]; done)), H', ⟨by first | omega | exact Nat.le_refl _⟩, ⟨by (with_reducible repeat (first | refine blk_drewN ?_ _ | refine blk_drew ?_ | refine blk_alloc ?_ _)); exact BK379.out⟩, ⟨by repeat (first | (with_reducible first | exact HB.out | apply below_alloc | apply pw_below_drewN | apply below_drew1 | refine below_set ?_ GE379.out) | exact HB.out)⟩⟩
  case rest =>
    clear HC2
    try clear p2
    try clear c3
    try clear c5
    try clear c7
    try clear c8
    try clear hcz10_0
    try clear hcz10_1
    try clear hcz10_2
    try clear hcz10_3
    try clear hcz10_4
    try clear hcz10_5
    try clear hcz10_6
    try clear hcz11_0
    try clear hcz11_1
    try clear hcz11_2
    try clear hcz11_3
    try clear hcz11_4
    try clear hcz11_5
    try clear hcz11_6
    try clear hcz13_0
    try clear hcz13_1
    try clear hcz13_2
    try clear hcz13_3
    try clear hcz13_4
    try clear hcz13_5
    try clear hcz13_6
    try clear hcz14_0
    try clear hcz14_1
    try clear hcz14_2
    try clear hcz14_3
    try clear hcz14_4
    try clear hcz14_5
    try clear hcz14_6
    try clear hcz8_0
    try clear hcz8_1
    try clear hcz8_2
    try clear hcz8_3
    try clear hcz8_4
    try clear hcz8_5
    try clear hcz8_6
    try clear hfz10_0
    try clear hfz10_1
    try clear hfz10_2
    try clear hfz10_3
    try clear hfz10_4
    try clear hfz10_5
    try clear hfz10_6
    try clear hfz11_0
    try clear hfz11_1
    try clear hfz11_2
    try clear hfz11_3
    try clear hfz11_4
    try clear hfz11_5
    try clear hfz11_6
    try clear hfz13_0
    try clear hfz13_1
    try clear hfz13_2
    try clear hfz13_3
    try clear hfz13_4
    try clear hfz13_5
    try clear hfz13_6
    try clear hfz14_0
    try clear hfz14_1
    try clear hfz14_2
    try clear hfz14_3
    try clear hfz14_4
    try clear hfz14_5
    try clear hfz14_6
    try clear hfz8_0
    try clear hfz8_1
    try clear hfz8_2
    try clear hfz8_3
    try clear hfz8_4
    try clear hfz8_5
    try clear hfz8_6
    obtain ⟨kq, x22_1, rfl, HA, HJ1, BK379, HB⟩ := hcut
    cases kq with
    | zero => exact absurd HA.out (by simp [impl_IssuerOK.j0])
    | succ kj1 =>
      have H := HA.out
      clear HA
      simp only [impl_IssuerOK.j0] at H
      by_cases c16 : x22_1 = true
      · subst c16
        have H1 : (some false) = some r := by rw [if_pos rfl] at H; exact H
        clear H
        have H := H1
        clear H1
        obtain rfl := Option.some.inj H
        go_wp2
        go_ret
        exact ⟨by first | rfl | (simp [errW_none, errW_some] <;> rfl) | (simp [*, errW_none, errW_some] <;> rfl), by repeat (first | (with_reducible first | exact HB.out | apply below_alloc | apply pw_below_drewN | apply below_drew1 | refine below_set ?_ GE379.out) | exact HB.out)⟩
      · replace c16 := Bool.eq_false_iff.mpr c16
        subst c16
        have H1 : (impl_IssuerOK.l0 kj1 l0_1 (l0_1.length : Int) 0 a0_0 l0_1 a0_2 a0_3 a0_4 a0_5 a0_6) = some r := by rw [if_neg (show ¬ (false = true) by decide)] at H; exact H
        clear H
        have H := H1
        clear H1
        have H' := Aside0.mk H
        clear H
        have hcz17_0 : wc.cell? ⟨gb379, 0, none⟩ = some (.string a0_0) := (blk_cell BK379.out 0).trans rfl
        have hcz17_1 : wc.cell? ⟨gb379, 1, none⟩ = some (.slice A0_1 l0_1.length c0_1) := (blk_cell BK379.out 1).trans rfl
        have hcz17_2 : wc.cell? ⟨gb379, 2, none⟩ = some (.int .i64 a0_2) := (blk_cell BK379.out 2).trans rfl
        have hcz17_3 : wc.cell? ⟨gb379, 3, none⟩ = some (.string a0_3) := (blk_cell BK379.out 3).trans rfl
        have hcz17_4 : wc.cell? ⟨gb379, 4, none⟩ = some (.string a0_4) := (blk_cell BK379.out 4).trans rfl
        have hcz17_5 : wc.cell? ⟨gb379, 5, none⟩ = some (.bool a0_5) := (blk_cell BK379.out 5).trans rfl
        have hcz17_6 : wc.cell? ⟨gb379, 6, none⟩ = some (.int .i64 a0_6) := (blk_cell BK379.out 6).trans rfl
        have hfz17_0 := blk_frozen BK379.out 0
        have hfz17_1 := blk_frozen BK379.out 1
        have hfz17_2 := blk_frozen BK379.out 2
        have hfz17_3 := blk_frozen BK379.out 3
        have hfz17_4 := blk_frozen BK379.out 4
        have hfz17_5 := blk_frozen BK379.out 5
        have hfz17_6 := blk_frozen BK379.out 6
        go_wp2
        go_loopg [27] kj1 (fun kq v27 w' => ∃ (x27_2 : Int), v27 = .int .i64 x27_2 ∧ Aside0 (impl_IssuerOK.l0 kq l0_1 (l0_1.length : Int) x27_2 a0_0 l0_1 a0_2 a0_3 a0_4 a0_5 a0_6 = some r) ∧ Aside0 (kq ≤ kj1) ∧ Aside0 (w'.heap[gb379]? = some (.cells #[.string a0_0, (.slice A0_1 l0_1.length c0_1), .int .i64 a0_2, .string a0_3, .string a0_4, .bool a0_5, .int .i64 a0_6] 42 (0, 0))) ∧ Aside0 (Below w.heap.size w w'))
        case atStart => exact ⟨(0), (by first | rfl | (simp; done) | (simp [*]; done)), H', ⟨Nat.le_refl _⟩, ⟨by (with_reducible repeat (first | refine blk_drewN ?_ _ | refine blk_drew ?_ | refine blk_alloc ?_ _)); exact BK379.out⟩, ⟨by repeat (first | (with_reducible first | exact HB.out | apply below_alloc | apply pw_below_drewN | apply below_drew1 | refine below_set ?_ GE379.out) | exact HB.out)⟩⟩
        case round =>
          clear H'
          try clear c1
          try clear p2
          try clear c3
          try clear c5
          try clear c7
          try clear c8
          try clear c16
          try clear hcz10_0
          try clear hcz10_1
          try clear hcz10_2
          try clear hcz10_3
          try clear hcz10_4
          try clear hcz10_5
          try clear hcz10_6
          try clear hcz11_0
          try clear hcz11_1
          try clear hcz11_2
          try clear hcz11_3
          try clear hcz11_4
          try clear hcz11_5
          try clear hcz11_6
          try clear hcz13_0
          try clear hcz13_1
          try clear hcz13_2
          try clear hcz13_3
          try clear hcz13_4
          try clear hcz13_5
          try clear hcz13_6
          try clear hcz14_0
          try clear hcz14_1
          try clear hcz14_2
          try clear hcz14_3
          try clear hcz14_4
          try clear hcz14_5
          try clear hcz14_6
          try clear hcz17_0
          try clear hcz17_1
          try clear hcz17_2
          try clear hcz17_3
          try clear hcz17_4
          try clear hcz17_5
          try clear hcz17_6
          try clear hcz8_0
          try clear hcz8_1
          try clear hcz8_2
          try clear hcz8_3
          try clear hcz8_4
          try clear hcz8_5
          try clear hcz8_6
          try clear hfz10_0
          try clear hfz10_1
          try clear hfz10_2
          try clear hfz10_3
          try clear hfz10_4
          try clear hfz10_5
          try clear hfz10_6
          try clear hfz11_0
          try clear hfz11_1
          try clear hfz11_2
          try clear hfz11_3
          try clear hfz11_4
          try clear hfz11_5
          try clear hfz11_6
          try clear hfz13_0
          try clear hfz13_1
          try clear hfz13_2
          try clear hfz13_3
          try clear hfz13_4
          try clear hfz13_5
          try clear hfz13_6
          try clear hfz14_0
          try clear hfz14_1
          try clear hfz14_2
          try clear hfz14_3
          try clear hfz14_4
          try clear hfz14_5
          try clear hfz14_6
          try clear hfz17_0
          try clear hfz17_1
          try clear hfz17_2
          try clear hfz17_3
          try clear hfz17_4
          try clear hfz17_5
          try clear hfz17_6
          try clear hfz8_0
          try clear hfz8_1
          try clear hfz8_2
          try clear hfz8_3
          try clear hfz8_4
          try clear hfz8_5
          try clear hfz8_6
          try clear p2
          obtain ⟨x27_2, rfl, HA, HK2, BK379, HB⟩ := hrel
          cases gk with
          | zero => exact absurd HA.out (by simp [impl_IssuerOK.l0])
          | succ k2 =>
            have H := HA.out
            clear HA
            simp only [impl_IssuerOK.l0] at H
            by_cases c18 : x27_2 < (l0_1.length : Int)
            · rw [if_pos c18] at H
              have c18b0 : decide (x27_2 < (l0_1.length : Int)) = true := decide_eq_true c18
              clear c18
              by_cases c19 : 0 ≤ x27_2
              · rw [if_pos c19] at H
                have c19b0 : decide (0 ≤ x27_2) = true := decide_eq_true c19
                clear c19
                by_cases c20 : x27_2 < (l0_1.length : Int)
                · rw [if_pos c20] at H
                  have c20b0 : decide (x27_2 < (l0_1.length : Int)) = true := decide_eq_true c20
                  clear c20
                  by_cases c21 : ((rdOf false l0_1 x27_2) != (decide (x27_2 < a0_6))) = true
                  · rw [if_pos c21] at H
                    have c21b0 : ((rdOf false l0_1 x27_2) != (decide (x27_2 < a0_6))) = true := c21
                    (try (have c21b1 : decide ((rdOf false l0_1 x27_2) = (decide (x27_2 < a0_6))) = false := by simpa using c21))
                    (try (have c21b2 : ((rdOf false l0_1 x27_2) == (decide (x27_2 < a0_6))) = false := by simpa using c21))
                    (try (have c21b3 : ¬ ((rdOf false l0_1 x27_2) = (decide (x27_2 < a0_6))) := by simpa using c21))
                    clear c21
                    obtain rfl := Option.some.inj H
                    have p382 : 0 ≤ (x27_2 : Int) := of_decide_eq_true (by first | (with_reducible assumption) | assumption)
                    have q382 : x27_2 < (l0_1.length : Int) := of_decide_eq_true (by first | (with_reducible assumption) | assumption)
                    obtain ⟨ad382, e382, hx382_0⟩ := Kd.at_bool HR0_1.out x27_2 p382 q382
                    cases e382
                    replace hx382_0 := (HB.out.cell (World.block_lt_of_cell? w _ hx382_0)).trans hx382_0
                    replace p382 := eq_true p382
                    replace q382 := eq_true q382
                    have hcz22_0 : wr.cell? ⟨gb379, 0, none⟩ = some (.string a0_0) := (blk_cell BK379.out 0).trans rfl
                    have hcz22_1 : wr.cell? ⟨gb379, 1, none⟩ = some (.slice (some ad382) l0_1.length c0_1) := (blk_cell BK379.out 1).trans rfl
                    have hcz22_2 : wr.cell? ⟨gb379, 2, none⟩ = some (.int .i64 a0_2) := (blk_cell BK379.out 2).trans rfl
                    have hcz22_3 : wr.cell? ⟨gb379, 3, none⟩ = some (.string a0_3) := (blk_cell BK379.out 3).trans rfl
                    have hcz22_4 : wr.cell? ⟨gb379, 4, none⟩ = some (.string a0_4) := (blk_cell BK379.out 4).trans rfl
                    have hcz22_5 : wr.cell? ⟨gb379, 5, none⟩ = some (.bool a0_5) := (blk_cell BK379.out 5).trans rfl
                    have hcz22_6 : wr.cell? ⟨gb379, 6, none⟩ = some (.int .i64 a0_6) := (blk_cell BK379.out 6).trans rfl
                    have hfz22_0 := blk_frozen BK379.out 0
                    have hfz22_1 := blk_frozen BK379.out 1
                    have hfz22_2 := blk_frozen BK379.out 2
                    have hfz22_3 := blk_frozen BK379.out 3
                    have hfz22_4 := blk_frozen BK379.out 4
                    have hfz22_5 := blk_frozen BK379.out 5
                    have hfz22_6 := blk_frozen BK379.out 6
                    go_wp2
                    go_ret
                    exact ⟨by first | rfl | (simp [errW_none, errW_some] <;> rfl) | (simp [*, errW_none, errW_some] <;> rfl), by repeat (first | (with_reducible first | exact HB.out | apply below_alloc | apply pw_below_drewN | apply below_drew1 | refine below_set ?_ GE379.out) | exact HB.out)⟩
                  · rw [if_neg c21] at H
                    have c21b0 : ((rdOf false l0_1 x27_2) != (decide (x27_2 < a0_6))) = false := by simpa using c21
                    (try (have c21b1 : decide ((rdOf false l0_1 x27_2) = (decide (x27_2 < a0_6))) = true := by simpa using c21))
                    (try (have c21b2 : ((rdOf false l0_1 x27_2) == (decide (x27_2 < a0_6))) = true := by simpa using c21))
                    clear c21
                    have H' := Aside0.mk H
                    clear H
                    have p382 : 0 ≤ (x27_2 : Int) := of_decide_eq_true (by first | (with_reducible assumption) | assumption)
                    have q382 : x27_2 < (l0_1.length : Int) := of_decide_eq_true (by first | (with_reducible assumption) | assumption)
                    obtain ⟨ad382, e382, hx382_0⟩ := Kd.at_bool HR0_1.out x27_2 p382 q382
                    cases e382
                    replace hx382_0 := (HB.out.cell (World.block_lt_of_cell? w _ hx382_0)).trans hx382_0
                    replace p382 := eq_true p382
                    replace q382 := eq_true q382
                    have hcz23_0 : wr.cell? ⟨gb379, 0, none⟩ = some (.string a0_0) := (blk_cell BK379.out 0).trans rfl
                    have hcz23_1 : wr.cell? ⟨gb379, 1, none⟩ = some (.slice (some ad382) l0_1.length c0_1) := (blk_cell BK379.out 1).trans rfl
                    have hcz23_2 : wr.cell? ⟨gb379, 2, none⟩ = some (.int .i64 a0_2) := (blk_cell BK379.out 2).trans rfl
                    have hcz23_3 : wr.cell? ⟨gb379, 3, none⟩ = some (.string a0_3) := (blk_cell BK379.out 3).trans rfl
                    have hcz23_4 : wr.cell? ⟨gb379, 4, none⟩ = some (.string a0_4) := (blk_cell BK379.out 4).trans rfl
                    have hcz23_5 : wr.cell? ⟨gb379, 5, none⟩ = some (.bool a0_5) := (blk_cell BK379.out 5).trans rfl
                    have hcz23_6 : wr.cell? ⟨gb379, 6, none⟩ = some (.int .i64 a0_6) := (blk_cell BK379.out 6).trans rfl
                    have hfz23_0 := blk_frozen BK379.out 0
                    have hfz23_1 := blk_frozen BK379.out 1
                    have hfz23_2 := blk_frozen BK379.out 2
                    have hfz23_3 := blk_frozen BK379.out 3
                    have hfz23_4 := blk_frozen BK379.out 4
                    have hfz23_5 := blk_frozen BK379.out 5
                    have hfz23_6 := blk_frozen BK379.out 6
                    go_wp2
                    go_roundg k2
                    case measure => have := HJ1.out; have := HK2.out; omega
                    case rel => exact ⟨(wrap64 (x27_2 + 1)), (by first | rfl | (simp; done) | (simp [*]; done)), H', ⟨by have := HJ1.out; have := HK2.out; omega⟩, ⟨by (with_reducible repeat (first | refine blk_drewN ?_ _ | refine blk_drew ?_ | refine blk_alloc ?_ _)); exact BK379.out⟩, ⟨by repeat (first | (with_reducible first | exact HB.out | apply below_alloc | apply pw_below_drewN | apply below_drew1 | refine below_set ?_ GE379.out) | exact HB.out)⟩⟩
                · rw [if_neg c20] at H
                  exact absurd H (by simp)
              · rw [if_neg c19] at H
                exact absurd H (by simp)
            · rw [if_neg c18] at H
              have c18b0 : decide (x27_2 < (l0_1.length : Int)) = false := decide_eq_false c18
              clear c18
              by_cases c24 : a0_5 = true
              · subst c24
                have H1 : ((impl_statementOK.f a0_2 a0_3 a0_4).bind fun t383 => (some t383)) = some r := by rw [if_pos rfl] at H; exact H
                clear H
                have H := H1
                clear H1
                replace H := Option.bind_eq_some_iff.mp H
                obtain ⟨t383, A250, H⟩ := H
                replace H : (some t383) = some r := H
                have A25 := Aside0.mk A250
                clear A250
                obtain rfl := Option.some.inj H
                have hcz26_0 : wr.cell? ⟨gb379, 0, none⟩ = some (.string a0_0) := (blk_cell BK379.out 0).trans rfl
                have hcz26_1 : wr.cell? ⟨gb379, 1, none⟩ = some (.slice A0_1 l0_1.length c0_1) := (blk_cell BK379.out 1).trans rfl
                have hcz26_2 : wr.cell? ⟨gb379, 2, none⟩ = some (.int .i64 a0_2) := (blk_cell BK379.out 2).trans rfl
                have hcz26_3 : wr.cell? ⟨gb379, 3, none⟩ = some (.string a0_3) := (blk_cell BK379.out 3).trans rfl
                have hcz26_4 : wr.cell? ⟨gb379, 4, none⟩ = some (.string a0_4) := (blk_cell BK379.out 4).trans rfl
                have hcz26_5 : wr.cell? ⟨gb379, 5, none⟩ = some (.bool true) := (blk_cell BK379.out 5).trans rfl
                have hcz26_6 : wr.cell? ⟨gb379, 6, none⟩ = some (.int .i64 a0_6) := (blk_cell BK379.out 6).trans rfl
                have hfz26_0 := blk_frozen BK379.out 0
                have hfz26_1 := blk_frozen BK379.out 1
                have hfz26_2 := blk_frozen BK379.out 2
                have hfz26_3 := blk_frozen BK379.out 3
                have hfz26_4 := blk_frozen BK379.out 4
                have hfz26_5 := blk_frozen BK379.out 5
                have hfz26_6 := blk_frozen BK379.out 6
                go_wp2_with (first | ((with_reducible refine gate_callee (f := 65) rfl ?_); refine goesL_ (some 48) rfl rfl Try.func65 (by kernel_rfl) rfl #[.agg #[.int .i64 a0_2, .string a0_3, .string a0_4]] rfl (by (try simp only [List.map_toArray, List.map_cons, List.map_nil]); first | done | rfl | (simp only [List.length_drop, List.length_take]; rfl)) ?_; (with_reducible refine (impl_statementOK.calls a0_2 a0_3 a0_4 t383 _ A25.out).mono ?_); rintro e w27 ⟨rfl, hb⟩; refine ⟨_, rfl, ?_⟩; have n0_ := Aside0.mk (blk_below (g := gb379) (o := .cells #[.string a0_0, .slice A0_1 l0_1.length c0_1, .int .i64 a0_2, .string a0_3, .string a0_4, .bool true, .int .i64 a0_6] 42 (0, 0)) (by (with_reducible repeat (first | refine blk_drewN ?_ _ | refine blk_drew ?_ | refine blk_alloc ?_ _)); exact BK379.out) hb); have n1_ := Aside0.mk (below_step (by repeat (first | (with_reducible first | exact HB.out | apply below_alloc | apply pw_below_drewN | apply below_drew1 | refine below_set ?_ GE379.out) | exact HB.out)) hb); clear BK379; clear HB; have BK379 := n0_; have HB := n1_; clear n0_ n1_; (try clear hb); (try clear hb2); (try clear hk); (try clear hi)))
                go_ret
                exact ⟨by first | rfl | (simp [errW_none, errW_some] <;> rfl) | (simp [*, errW_none, errW_some] <;> rfl), by repeat (first | (with_reducible first | exact HB.out | apply below_alloc | apply pw_below_drewN | apply below_drew1 | refine below_set ?_ GE379.out) | exact HB.out)⟩
              · replace c24 := Bool.eq_false_iff.mpr c24
                subst c24
                have H1 : (some (a0_2 == 0 && (a0_3.toList == ([] : List UInt8) && (a0_4.toList == ([] : List UInt8))))) = some r := by rw [if_neg (show ¬ (false = true) by decide)] at H; exact H
                clear H
                have H := H1
                clear H1
                obtain rfl := Option.some.inj H
                have hcz28_0 : wr.cell? ⟨gb379, 0, none⟩ = some (.string a0_0) := (blk_cell BK379.out 0).trans rfl
                have hcz28_1 : wr.cell? ⟨gb379, 1, none⟩ = some (.slice A0_1 l0_1.length c0_1) := (blk_cell BK379.out 1).trans rfl
                have hcz28_2 : wr.cell? ⟨gb379, 2, none⟩ = some (.int .i64 a0_2) := (blk_cell BK379.out 2).trans rfl
                have hcz28_3 : wr.cell? ⟨gb379, 3, none⟩ = some (.string a0_3) := (blk_cell BK379.out 3).trans rfl
                have hcz28_4 : wr.cell? ⟨gb379, 4, none⟩ = some (.string a0_4) := (blk_cell BK379.out 4).trans rfl
                have hcz28_5 : wr.cell? ⟨gb379, 5, none⟩ = some (.bool false) := (blk_cell BK379.out 5).trans rfl
                have hcz28_6 : wr.cell? ⟨gb379, 6, none⟩ = some (.int .i64 a0_6) := (blk_cell BK379.out 6).trans rfl
                have hfz28_0 := blk_frozen BK379.out 0
                have hfz28_1 := blk_frozen BK379.out 1
                have hfz28_2 := blk_frozen BK379.out 2
                have hfz28_3 := blk_frozen BK379.out 3
                have hfz28_4 := blk_frozen BK379.out 4
                have hfz28_5 := blk_frozen BK379.out 5
                have hfz28_6 := blk_frozen BK379.out 6
                go_wp2
                go_ret
                exact ⟨by first | rfl | (simp [errW_none, errW_some] <;> rfl) | (simp [*, errW_none, errW_some] <;> rfl), by repeat (first | (with_reducible first | exact HB.out | apply below_alloc | apply pw_below_drewN | apply below_drew1 | refine below_set ?_ GE379.out) | exact HB.out)⟩

end Go.Proofs.Ytmclmbhdgepjfaa.Q
