-- Laid by wip/xprint.py (a session's own program, over the kit's print.py). Lean checks it.
import Derived.Test.YtmclmbhdgepjfaaQx0
import Derived.Test.YtmclmbhdgepjfaaQx8
import Derived.Test.YtmclmbhdgepjfaaQx9
import Derived.Test.YtmclmbhdgepjfaaQx10
namespace Go.Proofs.Ytmclmbhdgepjfaa.Q
open Go.RowKit Go.Proofs.YtmclmbhdgepjfaaX Go.Proofs.YtmclmbhdgepjfaaW.PrintWords Go.Proofs.YtmclmbhdgepjfaaW.PrintLast Go.Proofs.YtmclmbhdgepjfaaW.PrintMore
attribute [local go_sem] max2_int min2_int max_two min_two max_three min_three max_four min_four   -- for this text's walks alone
set_option linter.unusedVariables false
set_option linter.unusedSimpArgs false

/-! ### laws_FnExactNewIssuer: function 5 -/
mutual
def laws_FnExactNewIssuer.j0 : Nat → ByteArray → Int → Bool → ByteArray → List Bool → Int → ByteArray → ByteArray → Bool → Int → ByteArray → List Bool → Int → ByteArray → ByteArray → Bool → Int → Option (Bool)
  | 0, _, _, _, _, _, _, _, _, _, _, _, _, _, _, _, _, _ => none
  | k + 1, x0, x4, x32, x238000, x238001, x238002, x238003, x238004, x238005, x238006, x249000, x249001, x249002, x249003, x249004, x249005, x249006 => if x32 = true then (some false) else ((laws_markIssuer.f k x249000 x249001 x249002 x249003 x249004 x249005 x249006 1).bind fun bt250 => ((laws_heldIssuer.f k x249000 bt250.2 x249002 x249003 x249004 x249005 x249006 1).bind fun t252 => (if t252 < 0 then (some false) else (if t252 = bt250.1 then ((impl_NewIssuer.f x0).bind fun bt253 => ((laws_eqIssuer.f k bt253.1 bt253.2.1 bt253.2.2.1 bt253.2.2.2.1 bt253.2.2.2.2.1 bt253.2.2.2.2.2.1 bt253.2.2.2.2.2.2.1 x238000 x238001 x238002 x238003 x238004 x238005 x238006).bind fun t264 => (if t264 = true then (laws_FnExactNewIssuer.j1 k bt250.1 (bt253.2.2.2.2.2.2.2 != x4) x249000 bt250.2 x249002 x249003 x249004 x249005 x249006) else (laws_FnExactNewIssuer.j1 k bt250.1 true x249000 bt250.2 x249002 x249003 x249004 x249005 x249006)))) else (some false)))))
def laws_FnExactNewIssuer.j1 : Nat → Int → Bool → ByteArray → List Bool → Int → ByteArray → ByteArray → Bool → Int → Option (Bool)
  | 0, _, _, _, _, _, _, _, _, _ => none
  | k + 1, x7, x57, x249000, x249001, x249002, x249003, x249004, x249005, x249006 => if x57 = true then (some false) else ((laws_heldIssuer.f k x249000 x249001 x249002 x249003 x249004 x249005 x249006 1).bind fun t265 => (if t265 < 0 then (some false) else (if t265 = x7 then (some true) else (some false))))
end
def laws_FnExactNewIssuer.f (k : Nat) (a0 : ByteArray) : Option (Bool) := if (a0.size : Int) > 1048576 then (some true) else ((spec_NewIssuer.f a0).bind fun bt227 => ((impl_NewIssuer.f a0).bind fun bt238 => ((laws_eqIssuer.f k bt238.1 bt238.2.1 bt238.2.2.1 bt238.2.2.2.1 bt238.2.2.2.2.1 bt238.2.2.2.2.2.1 bt238.2.2.2.2.2.2.1 bt227.1 bt227.2.1 bt227.2.2.1 bt227.2.2.2.1 bt227.2.2.2.2.1 bt227.2.2.2.2.2.1 bt227.2.2.2.2.2.2.1).bind fun t249 => (if t249 = true then (laws_FnExactNewIssuer.j0 k a0 bt227.2.2.2.2.2.2.2 (bt238.2.2.2.2.2.2.2 != bt227.2.2.2.2.2.2.2) bt227.1 bt227.2.1 bt227.2.2.1 bt227.2.2.2.1 bt227.2.2.2.2.1 bt227.2.2.2.2.2.1 bt227.2.2.2.2.2.2.1 bt238.1 bt238.2.1 bt238.2.2.1 bt238.2.2.2.1 bt238.2.2.2.2.1 bt238.2.2.2.2.2.1 bt238.2.2.2.2.2.2.1) else (laws_FnExactNewIssuer.j0 k a0 bt227.2.2.2.2.2.2.2 true bt227.1 bt227.2.1 bt227.2.2.1 bt227.2.2.2.1 bt227.2.2.2.2.1 bt227.2.2.2.2.2.1 bt227.2.2.2.2.2.2.1 bt238.1 bt238.2.1 bt238.2.2.1 bt238.2.2.2.1 bt238.2.2.2.2.1 bt238.2.2.2.2.2.1 bt238.2.2.2.2.2.2.1)))))
theorem laws_FnExactNewIssuer.mono_l : ∀ k, (∀ y0 y1 y2 y3 y4 y5 y6 y7 y8 y9 y10 y11 y12 y13 y14 y15 y16, LeO (laws_FnExactNewIssuer.j0 k y0 y1 y2 y3 y4 y5 y6 y7 y8 y9 y10 y11 y12 y13 y14 y15 y16) (laws_FnExactNewIssuer.j0 (k + 1) y0 y1 y2 y3 y4 y5 y6 y7 y8 y9 y10 y11 y12 y13 y14 y15 y16)) ∧ (∀ y0 y1 y2 y3 y4 y5 y6 y7 y8, LeO (laws_FnExactNewIssuer.j1 k y0 y1 y2 y3 y4 y5 y6 y7 y8) (laws_FnExactNewIssuer.j1 (k + 1) y0 y1 y2 y3 y4 y5 y6 y7 y8))
  | 0 => ⟨fun _ _ _ _ _ _ _ _ _ _ _ _ _ _ _ _ _ r h => by simp [laws_FnExactNewIssuer.j0] at h, fun _ _ _ _ _ _ _ _ _ r h => by simp [laws_FnExactNewIssuer.j1] at h⟩
  | k + 1 => by
    obtain ⟨ih0, ih1⟩ := laws_FnExactNewIssuer.mono_l k
    refine ⟨?_, ?_⟩
    · intro y0 y1 y2 y3 y4 y5 y6 y7 y8 y9 y10 y11 y12 y13 y14 y15 y16
      unfold laws_FnExactNewIssuer.j0
      repeat' first
      | (with_reducible exact ih0 _ _ _ _ _ _ _ _ _ _ _ _ _ _ _ _ _)
      | (with_reducible exact ih1 _ _ _ _ _ _ _ _ _)
      | (with_reducible exact laws_eqIssuer.mono _ _ _ _ _ _ _ _ _ _ _ _ _ _ _)
      | (with_reducible exact laws_heldIssuer.mono _ _ _ _ _ _ _ _ _)
      | (with_reducible exact laws_markIssuer.mono _ _ _ _ _ _ _ _ _)
      | (with_reducible exact LeO.refl _)
      | (with_reducible exact LeO.none _)
      | (with_reducible refine LeO.ite ?_ ?_)
      | (with_reducible refine LeO.bind ?_ (fun _ => ?_))
      | exact ih0 _ _ _ _ _ _ _ _ _ _ _ _ _ _ _ _ _
      | exact ih1 _ _ _ _ _ _ _ _ _
      | exact laws_eqIssuer.mono _ _ _ _ _ _ _ _ _ _ _ _ _ _ _
      | exact laws_heldIssuer.mono _ _ _ _ _ _ _ _ _
      | exact laws_markIssuer.mono _ _ _ _ _ _ _ _ _
      | exact LeO.none _
      | refine LeO.ite ?_ ?_
      | refine LeO.bind ?_ (fun _ => ?_)
    · intro y0 y1 y2 y3 y4 y5 y6 y7 y8
      unfold laws_FnExactNewIssuer.j1
      repeat' first
      | (with_reducible exact ih0 _ _ _ _ _ _ _ _ _ _ _ _ _ _ _ _ _)
      | (with_reducible exact ih1 _ _ _ _ _ _ _ _ _)
      | (with_reducible exact laws_eqIssuer.mono _ _ _ _ _ _ _ _ _ _ _ _ _ _ _)
      | (with_reducible exact laws_heldIssuer.mono _ _ _ _ _ _ _ _ _)
      | (with_reducible exact laws_markIssuer.mono _ _ _ _ _ _ _ _ _)
      | (with_reducible exact LeO.refl _)
      | (with_reducible exact LeO.none _)
      | (with_reducible refine LeO.ite ?_ ?_)
      | (with_reducible refine LeO.bind ?_ (fun _ => ?_))
      | exact ih0 _ _ _ _ _ _ _ _ _ _ _ _ _ _ _ _ _
      | exact ih1 _ _ _ _ _ _ _ _ _
      | exact laws_eqIssuer.mono _ _ _ _ _ _ _ _ _ _ _ _ _ _ _
      | exact laws_heldIssuer.mono _ _ _ _ _ _ _ _ _
      | exact laws_markIssuer.mono _ _ _ _ _ _ _ _ _
      | exact LeO.none _
      | refine LeO.ite ?_ ?_
      | refine LeO.bind ?_ (fun _ => ?_)
theorem laws_FnExactNewIssuer.mono : ∀ a0 k, LeO (laws_FnExactNewIssuer.f k a0) (laws_FnExactNewIssuer.f (k + 1) a0) := by
  intro a0 k
  obtain ⟨ih0, ih1⟩ := laws_FnExactNewIssuer.mono_l k
  unfold laws_FnExactNewIssuer.f
  repeat' first
      | (with_reducible exact ih0 _ _ _ _ _ _ _ _ _ _ _ _ _ _ _ _ _)
      | (with_reducible exact ih1 _ _ _ _ _ _ _ _ _)
      | (with_reducible exact laws_eqIssuer.mono _ _ _ _ _ _ _ _ _ _ _ _ _ _ _)
      | (with_reducible exact laws_heldIssuer.mono _ _ _ _ _ _ _ _ _)
      | (with_reducible exact laws_markIssuer.mono _ _ _ _ _ _ _ _ _)
      | (with_reducible exact LeO.refl _)
      | (with_reducible exact LeO.none _)
      | (with_reducible refine LeO.ite ?_ ?_)
      | (with_reducible refine LeO.bind ?_ (fun _ => ?_))
      | exact ih0 _ _ _ _ _ _ _ _ _ _ _ _ _ _ _ _ _
      | exact ih1 _ _ _ _ _ _ _ _ _
      | exact laws_eqIssuer.mono _ _ _ _ _ _ _ _ _ _ _ _ _ _ _
      | exact laws_heldIssuer.mono _ _ _ _ _ _ _ _ _
      | exact laws_markIssuer.mono _ _ _ _ _ _ _ _ _
      | exact LeO.none _
      | refine LeO.ite ?_ ?_
      | refine LeO.bind ?_ (fun _ => ?_)
set_option maxHeartbeats 8000000 in
set_option maxRecDepth 100000 in
theorem laws_FnExactNewIssuer.calls (k : Nat) (a0 : ByteArray) (r : Bool) (w : World) (h : laws_FnExactNewIssuer.f k a0 = some r) :
    Calls Try.prog 5 #[.string a0] w fun e w' => e = .returned (.bool r) ∧ Below w.heap.size w w' := by
  have hu42 := Try.underlying42
  have HB := Aside0.mk (Below.refl w.heap.size w)
  have H : (if (a0.size : Int) > 1048576 then (some true) else ((spec_NewIssuer.f a0).bind fun bt227 => ((impl_NewIssuer.f a0).bind fun bt238 => ((laws_eqIssuer.f k bt238.1 bt238.2.1 bt238.2.2.1 bt238.2.2.2.1 bt238.2.2.2.2.1 bt238.2.2.2.2.2.1 bt238.2.2.2.2.2.2.1 bt227.1 bt227.2.1 bt227.2.2.1 bt227.2.2.2.1 bt227.2.2.2.2.1 bt227.2.2.2.2.2.1 bt227.2.2.2.2.2.2.1).bind fun t249 => (if t249 = true then (laws_FnExactNewIssuer.j0 k a0 bt227.2.2.2.2.2.2.2 (bt238.2.2.2.2.2.2.2 != bt227.2.2.2.2.2.2.2) bt227.1 bt227.2.1 bt227.2.2.1 bt227.2.2.2.1 bt227.2.2.2.2.1 bt227.2.2.2.2.2.1 bt227.2.2.2.2.2.2.1 bt238.1 bt238.2.1 bt238.2.2.1 bt238.2.2.2.1 bt238.2.2.2.2.1 bt238.2.2.2.2.2.1 bt238.2.2.2.2.2.2.1) else (laws_FnExactNewIssuer.j0 k a0 bt227.2.2.2.2.2.2.2 true bt227.1 bt227.2.1 bt227.2.2.1 bt227.2.2.2.1 bt227.2.2.2.2.1 bt227.2.2.2.2.2.1 bt227.2.2.2.2.2.2.1 bt238.1 bt238.2.1 bt238.2.2.1 bt238.2.2.2.1 bt238.2.2.2.2.1 bt238.2.2.2.2.2.1 bt238.2.2.2.2.2.2.1)))))) = some r := h
  clear h
  by_cases c2 : (a0.size : Int) > 1048576
  · rw [if_pos c2] at H
    have c2b0 : decide (1048576 < (a0.size : Int)) = true := decide_eq_true c2
    have c2b1 : decide (1048576 < a0.size) = true := decide_eq_true (by omega)
    clear c2
    obtain rfl := Option.some.inj H
    go_enter Try.func5, Try.ntmps5
    go_wp2
    go_ret
    exact ⟨by first | rfl | (simp [errW_none, errW_some] <;> rfl) | (simp [*, errW_none, errW_some] <;> rfl), by repeat (first | (with_reducible first | exact HB.out | apply below_alloc | apply pw_below_drewN | apply below_drew1) | exact HB.out)⟩
  · rw [if_neg c2] at H
    have c2b0 : decide (1048576 < (a0.size : Int)) = false := decide_eq_false c2
    have c2b1 : decide (1048576 < a0.size) = false := decide_eq_false (by omega)
    clear c2
    replace H := Option.bind_eq_some_iff.mp H
    obtain ⟨⟨t227, t228, t231, t232, t233, t234, t235, t236⟩, A30, H⟩ := H
    replace H : ((impl_NewIssuer.f a0).bind fun bt238 => ((laws_eqIssuer.f k bt238.1 bt238.2.1 bt238.2.2.1 bt238.2.2.2.1 bt238.2.2.2.2.1 bt238.2.2.2.2.2.1 bt238.2.2.2.2.2.2.1 t227 t228 t231 t232 t233 t234 t235).bind fun t249 => (if t249 = true then (laws_FnExactNewIssuer.j0 k a0 t236 (bt238.2.2.2.2.2.2.2 != t236) t227 t228 t231 t232 t233 t234 t235 bt238.1 bt238.2.1 bt238.2.2.1 bt238.2.2.2.1 bt238.2.2.2.2.1 bt238.2.2.2.2.2.1 bt238.2.2.2.2.2.2.1) else (laws_FnExactNewIssuer.j0 k a0 t236 true t227 t228 t231 t232 t233 t234 t235 bt238.1 bt238.2.1 bt238.2.2.1 bt238.2.2.2.1 bt238.2.2.2.2.1 bt238.2.2.2.2.2.1 bt238.2.2.2.2.2.2.1)))) = some r := H
    have A3 := Aside0.mk A30
    clear A30
    replace H := Option.bind_eq_some_iff.mp H
    obtain ⟨⟨t238, t239, t242, t243, t244, t245, t246, t247⟩, A40, H⟩ := H
    replace H : ((laws_eqIssuer.f k t238 t239 t242 t243 t244 t245 t246 t227 t228 t231 t232 t233 t234 t235).bind fun t249 => (if t249 = true then (laws_FnExactNewIssuer.j0 k a0 t236 (t247 != t236) t227 t228 t231 t232 t233 t234 t235 t238 t239 t242 t243 t244 t245 t246) else (laws_FnExactNewIssuer.j0 k a0 t236 true t227 t228 t231 t232 t233 t234 t235 t238 t239 t242 t243 t244 t245 t246))) = some r := H
    have A4 := Aside0.mk A40
    clear A40
    have HC5 := Aside0.mk H
    clear H
    go_enter Try.func5, Try.ntmps5
    go_upto_region 5 with (first | ((with_reducible refine gate_callee (f := 24) rfl ?_); refine goesL_ (some 16) rfl rfl Try.func24 (by kernel_rfl) rfl #[.string a0] rfl (by (try simp only [List.map_toArray, List.map_cons, List.map_nil]); first | done | rfl | (simp only [List.length_drop, List.length_take]; rfl)) ?_; (with_reducible refine (spec_NewIssuer.calls a0 t227 t228 t231 t232 t233 t234 t235 t236 _ A3.out).mono ?_); rintro e w6 ⟨v229, rfl, ho0, hb⟩; refine ⟨_, rfl, ?_⟩; have n0_ := Aside0.mk (Kd.R_lower ho0 (below_size (by repeat (first | (with_reducible first | exact HB.out | apply below_alloc | apply pw_below_drewN | apply below_drew1) | exact HB.out)))); have n1_ := Aside0.mk (below_step (by repeat (first | (with_reducible first | exact HB.out | apply below_alloc | apply pw_below_drewN | apply below_drew1) | exact HB.out)) hb); clear HB; have HO230 := n0_; have HB := n1_; clear n0_ n1_; (try clear hb); (try clear hb2); (try clear hk); (try clear hi); (try clear ho0)) | ((with_reducible refine gate_dst (N := 3) rfl ?_); refine box_event ?hg (N := 3) ?hd (cs := #[.string (⟨#[]⟩ : ByteArray), .slice none 0 0, .int .i64 0, .string (⟨#[]⟩ : ByteArray), .string (⟨#[]⟩ : ByteArray), .bool false, .int .i64 0]) (t := 42) ?hr ?_; (case hd => rfl); (case hg => rfl); (case hr => first | (go_simp; done) | (go_simp; rfl)); intro gb237 hg w7 hbox hb; have n0_ := Aside0.mk (Kd.R_below (by (with_reducible repeat (first | apply Kd.R_alloc | apply Kd.R_drewN | apply Kd.R_drew)); exact HO230.out) hb); have n1_ := Aside0.mk (below_step (by repeat (first | (with_reducible first | exact HB.out | apply below_alloc | apply pw_below_drewN | apply below_drew1) | exact HB.out)) hb); have n2_ := Aside0.mk (hbox); have n3_ := Aside0.mk ((by rw [hg]; exact (below_size (by repeat (first | (with_reducible first | exact HB.out | apply below_alloc | apply pw_below_drewN | apply below_drew1) | exact HB.out))) : w.heap.size ≤ gb237)); have n4_ := Aside0.mk ((by rw [hg]; exact (below_size (by repeat (first | (with_reducible first | exact HB.out | apply below_alloc | apply pw_below_drewN | apply below_drew1) | exact HB.out))) : w.heap.size ≤ gb237)); clear HO230; clear HB; have HO230 := n0_; have HB := n1_; have BK237 := n2_; have GW237 := n3_; have GE237 := n4_; clear n0_ n1_ n2_ n3_ n4_; clear hb hbox hg; have hcz8_0 : w7.cell? ⟨gb237, 0, none⟩ = some (.string (⟨#[]⟩ : ByteArray)) := (blk_cell BK237.out 0).trans rfl; have hcz8_1 : w7.cell? ⟨gb237, 1, none⟩ = some (.slice none 0 0) := (blk_cell BK237.out 1).trans rfl; have hcz8_2 : w7.cell? ⟨gb237, 2, none⟩ = some (.int .i64 0) := (blk_cell BK237.out 2).trans rfl; have hcz8_3 : w7.cell? ⟨gb237, 3, none⟩ = some (.string (⟨#[]⟩ : ByteArray)) := (blk_cell BK237.out 3).trans rfl; have hcz8_4 : w7.cell? ⟨gb237, 4, none⟩ = some (.string (⟨#[]⟩ : ByteArray)) := (blk_cell BK237.out 4).trans rfl; have hcz8_5 : w7.cell? ⟨gb237, 5, none⟩ = some (.bool false) := (blk_cell BK237.out 5).trans rfl; have hcz8_6 : w7.cell? ⟨gb237, 6, none⟩ = some (.int .i64 0) := (blk_cell BK237.out 6).trans rfl; have hfz8_0 := blk_frozen BK237.out 0; have hfz8_1 := blk_frozen BK237.out 1; have hfz8_2 := blk_frozen BK237.out 2; have hfz8_3 := blk_frozen BK237.out 3; have hfz8_4 := blk_frozen BK237.out 4; have hfz8_5 := blk_frozen BK237.out 5; have hfz8_6 := blk_frozen BK237.out 6; obtain ⟨Ao9, co9, eo9⟩ := Kd.R_slice HO230.out; subst eo9) | ((with_reducible refine gate_callee (f := 25) rfl ?_); refine goesL_ (some 21) rfl rfl Try.func25 (by kernel_rfl) rfl #[.string a0] rfl (by (try simp only [List.map_toArray, List.map_cons, List.map_nil]); first | done | rfl | (simp only [List.length_drop, List.length_take]; rfl)) ?_; (with_reducible refine (impl_NewIssuer.calls a0 t238 t239 t242 t243 t244 t245 t246 t247 _ A4.out).mono ?_); rintro e w10 ⟨v240, rfl, ho0, hb⟩; refine ⟨_, rfl, ?_⟩; have n0_ := Aside0.mk (Kd.R_elder' (by (with_reducible repeat (first | apply Kd.R_alloc | apply Kd.R_drewN | apply Kd.R_drew)); exact (Kd.R_mono (Kd.R_far (p := ⟨gb237, 6, none⟩) (Kd.R_far (p := ⟨gb237, 5, none⟩) (Kd.R_far (p := ⟨gb237, 4, none⟩) (Kd.R_far (p := ⟨gb237, 3, none⟩) (Kd.R_far (p := ⟨gb237, 2, none⟩) (Kd.R_far (p := ⟨gb237, 1, none⟩) (Kd.R_far (p := ⟨gb237, 0, none⟩) (Kd.R_types HO230.out BK237.out (by decide)) (fun _ hk => hk.2) (.string t227)) (fun _ hk => hk.2) (.slice Ao9 t228.length co9)) (fun _ hk => hk.2) (.int .i64 t231)) (fun _ hk => hk.2) (.string t232)) (fun _ hk => hk.2) (.string t233)) (fun _ hk => hk.2) (.bool t234)) (fun _ hk => hk.2) (.int .i64 t235)) (fun _ h_ => h_.1))) (Kd.R_base ho0) hb); have n1_ := Aside0.mk (Kd.R_lower (Kd.R_new' ho0 (Kd.R_lt (by (with_reducible repeat (first | apply Kd.R_alloc | apply Kd.R_drewN | apply Kd.R_drew)); exact (Kd.R_mono (Kd.R_far (p := ⟨gb237, 6, none⟩) (Kd.R_far (p := ⟨gb237, 5, none⟩) (Kd.R_far (p := ⟨gb237, 4, none⟩) (Kd.R_far (p := ⟨gb237, 3, none⟩) (Kd.R_far (p := ⟨gb237, 2, none⟩) (Kd.R_far (p := ⟨gb237, 1, none⟩) (Kd.R_far (p := ⟨gb237, 0, none⟩) (Kd.R_types HO230.out BK237.out (by decide)) (fun _ hk => hk.2) (.string t227)) (fun _ hk => hk.2) (.slice Ao9 t228.length co9)) (fun _ hk => hk.2) (.int .i64 t231)) (fun _ hk => hk.2) (.string t232)) (fun _ hk => hk.2) (.string t233)) (fun _ hk => hk.2) (.bool t234)) (fun _ hk => hk.2) (.int .i64 t235)) (fun _ h_ => h_.1))))) (below_size (by repeat (first | (with_reducible first | exact HB.out | apply below_alloc | apply pw_below_drewN | apply below_drew1 | refine below_set ?_ GE237.out) | exact HB.out)))); have n2_ := Aside0.mk (blk_below (g := gb237) (o := .cells #[.string t227, .slice Ao9 t228.length co9, .int .i64 t231, .string t232, .string t233, .bool t234, .int .i64 t235] 42 (0, 0)) (by (with_reducible repeat (first | refine blk_drewN ?_ _ | refine blk_drew ?_ | refine blk_alloc ?_ _)); refine blk_put (cs := #[.string t227, .slice Ao9 t228.length co9, .int .i64 t231, .string t232, .string t233, .bool t234, .int .i64 0]) ?_ 6 _ rfl; (with_reducible repeat (first | refine blk_drewN ?_ _ | refine blk_drew ?_ | refine blk_alloc ?_ _)); refine blk_put (cs := #[.string t227, .slice Ao9 t228.length co9, .int .i64 t231, .string t232, .string t233, .bool false, .int .i64 0]) ?_ 5 _ rfl; (with_reducible repeat (first | refine blk_drewN ?_ _ | refine blk_drew ?_ | refine blk_alloc ?_ _)); refine blk_put (cs := #[.string t227, .slice Ao9 t228.length co9, .int .i64 t231, .string t232, .string (⟨#[]⟩ : ByteArray), .bool false, .int .i64 0]) ?_ 4 _ rfl; (with_reducible repeat (first | refine blk_drewN ?_ _ | refine blk_drew ?_ | refine blk_alloc ?_ _)); refine blk_put (cs := #[.string t227, .slice Ao9 t228.length co9, .int .i64 t231, .string (⟨#[]⟩ : ByteArray), .string (⟨#[]⟩ : ByteArray), .bool false, .int .i64 0]) ?_ 3 _ rfl; (with_reducible repeat (first | refine blk_drewN ?_ _ | refine blk_drew ?_ | refine blk_alloc ?_ _)); refine blk_put (cs := #[.string t227, .slice Ao9 t228.length co9, .int .i64 0, .string (⟨#[]⟩ : ByteArray), .string (⟨#[]⟩ : ByteArray), .bool false, .int .i64 0]) ?_ 2 _ rfl; (with_reducible repeat (first | refine blk_drewN ?_ _ | refine blk_drew ?_ | refine blk_alloc ?_ _)); refine blk_put (cs := #[.string t227, .slice none 0 0, .int .i64 0, .string (⟨#[]⟩ : ByteArray), .string (⟨#[]⟩ : ByteArray), .bool false, .int .i64 0]) ?_ 1 _ rfl; (with_reducible repeat (first | refine blk_drewN ?_ _ | refine blk_drew ?_ | refine blk_alloc ?_ _)); refine blk_put (cs := #[.string (⟨#[]⟩ : ByteArray), .slice none 0 0, .int .i64 0, .string (⟨#[]⟩ : ByteArray), .string (⟨#[]⟩ : ByteArray), .bool false, .int .i64 0]) ?_ 0 _ rfl; (with_reducible repeat (first | refine blk_drewN ?_ _ | refine blk_drew ?_ | refine blk_alloc ?_ _)); exact BK237.out) hb); have n3_ := Aside0.mk (below_step (by repeat (first | (with_reducible first | exact HB.out | apply below_alloc | apply pw_below_drewN | apply below_drew1 | refine below_set ?_ GE237.out) | exact HB.out)) hb); clear HO230; clear BK237; clear HB; have HO230 := n0_; have HO241 := n1_; have BK237 := n2_; have HB := n3_; clear n0_ n1_ n2_ n3_; (try clear hb); (try clear hb2); (try clear hk); (try clear hi); (try clear ho0)) | ((with_reducible refine gate_dst (N := 5) rfl ?_); refine box_event ?hg (N := 5) ?hd (cs := #[.string (⟨#[]⟩ : ByteArray), .slice none 0 0, .int .i64 0, .string (⟨#[]⟩ : ByteArray), .string (⟨#[]⟩ : ByteArray), .bool false, .int .i64 0]) (t := 42) ?hr ?_; (case hd => rfl); (case hg => rfl); (case hr => first | (go_simp; done) | (go_simp; rfl)); intro gb248 hg w11 hbox hb; have n0_ := Aside0.mk (Kd.R_below (by (with_reducible repeat (first | apply Kd.R_alloc | apply Kd.R_drewN | apply Kd.R_drew)); exact HO230.out) hb); have n1_ := Aside0.mk (Kd.R_below (by (with_reducible repeat (first | apply Kd.R_alloc | apply Kd.R_drewN | apply Kd.R_drew)); exact HO241.out) hb); have n2_ := Aside0.mk (blk_below (g := gb237) (o := .cells #[.string t227, .slice Ao9 t228.length co9, .int .i64 t231, .string t232, .string t233, .bool t234, .int .i64 t235] 42 (0, 0)) (by (with_reducible repeat (first | refine blk_drewN ?_ _ | refine blk_drew ?_ | refine blk_alloc ?_ _)); exact BK237.out) hb); have n3_ := Aside0.mk (below_step (by repeat (first | (with_reducible first | exact HB.out | apply below_alloc | apply pw_below_drewN | apply below_drew1 | refine below_set ?_ GE237.out) | exact HB.out)) hb); have n4_ := Aside0.mk (hbox); have n5_ := Aside0.mk ((by rw [hg]; exact (below_size (by repeat (first | (with_reducible first | exact HB.out | apply below_alloc | apply pw_below_drewN | apply below_drew1 | refine below_set ?_ GE237.out) | exact HB.out))) : w.heap.size ≤ gb248)); have n6_ := Aside0.mk ((by rw [hg]; exact (below_size (by repeat (first | (with_reducible first | exact HB.out | apply below_alloc | apply pw_below_drewN | apply below_drew1 | refine below_set ?_ GE237.out) | exact HB.out))) : w.heap.size ≤ gb248)); have n7_ := Aside0.mk ((by rw [hg]; exact Nat.ne_of_lt (blk_lt (g := gb237) (o := .cells #[.string t227, .slice Ao9 t228.length co9, .int .i64 t231, .string t232, .string t233, .bool t234, .int .i64 t235] 42 (0, 0)) (by (with_reducible repeat (first | refine blk_drewN ?_ _ | refine blk_drew ?_ | refine blk_alloc ?_ _)); exact BK237.out)) : gb237 ≠ gb248)); have n8_ := Aside0.mk ((by rw [hg]; exact Nat.ne_of_gt (blk_lt (g := gb237) (o := .cells #[.string t227, .slice Ao9 t228.length co9, .int .i64 t231, .string t232, .string t233, .bool t234, .int .i64 t235] 42 (0, 0)) (by (with_reducible repeat (first | refine blk_drewN ?_ _ | refine blk_drew ?_ | refine blk_alloc ?_ _)); exact BK237.out)) : gb248 ≠ gb237)); clear HO230; clear HO241; clear BK237; clear HB; have HO230 := n0_; have HO241 := n1_; have BK237 := n2_; have HB := n3_; have BK248 := n4_; have GW248 := n5_; have GE248 := n6_; have NB237_248 := n7_; have NB248_237 := n8_; clear n0_ n1_ n2_ n3_ n4_ n5_ n6_ n7_ n8_; clear hb hbox hg; have hnb12 := NB248_237.out; have hnc12 := NB237_248.out; have hcz13_0 : w11.cell? ⟨gb248, 0, none⟩ = some (.string (⟨#[]⟩ : ByteArray)) := (blk_cell BK248.out 0).trans rfl; have hcz13_1 : w11.cell? ⟨gb248, 1, none⟩ = some (.slice none 0 0) := (blk_cell BK248.out 1).trans rfl; have hcz13_2 : w11.cell? ⟨gb248, 2, none⟩ = some (.int .i64 0) := (blk_cell BK248.out 2).trans rfl; have hcz13_3 : w11.cell? ⟨gb248, 3, none⟩ = some (.string (⟨#[]⟩ : ByteArray)) := (blk_cell BK248.out 3).trans rfl; have hcz13_4 : w11.cell? ⟨gb248, 4, none⟩ = some (.string (⟨#[]⟩ : ByteArray)) := (blk_cell BK248.out 4).trans rfl; have hcz13_5 : w11.cell? ⟨gb248, 5, none⟩ = some (.bool false) := (blk_cell BK248.out 5).trans rfl; have hcz13_6 : w11.cell? ⟨gb248, 6, none⟩ = some (.int .i64 0) := (blk_cell BK248.out 6).trans rfl; have hfz13_0 := blk_frozen BK248.out 0; have hfz13_1 := blk_frozen BK248.out 1; have hfz13_2 := blk_frozen BK248.out 2; have hfz13_3 := blk_frozen BK248.out 3; have hfz13_4 := blk_frozen BK248.out 4; have hfz13_5 := blk_frozen BK248.out 5; have hfz13_6 := blk_frozen BK248.out 6; obtain ⟨Ao14, co14, eo14⟩ := Kd.R_slice HO241.out; subst eo14))
    (try simp only [Act.put, List.setIfInBounds_toArray, List.set_cons_zero, List.set_cons_succ])
    go_cut [32] (fun v32 wc => ∃ (kq : Nat) (x32_4 : Bool), v32 = .bool x32_4 ∧ Aside0 (laws_FnExactNewIssuer.j0 kq a0 t236 x32_4 t227 t228 t231 t232 t233 t234 t235 t238 t239 t242 t243 t244 t245 t246 = some r) ∧ Aside0 (kq ≤ k) ∧ Aside0 (Kd.R Kd.bool 4 wc w.heap.size (fun k_ => some k_ ≠ ((.slice Ao14 t239.length co14) : Value).ownBlock) (.slice Ao9 t228.length co9) t228) ∧ Aside0 (Kd.R Kd.bool 4 wc w.heap.size (fun k_ => some k_ ≠ ((.slice Ao9 t228.length co9) : Value).ownBlock) (.slice Ao14 t239.length co14) t239) ∧ Aside0 (wc.heap[gb237]? = some (.cells #[.string t227, (.slice Ao9 t228.length co9), .int .i64 t231, .string t232, .string t233, .bool t234, .int .i64 t235] 42 (0, 0))) ∧ Aside0 (wc.heap[gb248]? = some (.cells #[.string t238, (.slice Ao14 t239.length co14), .int .i64 t242, .string t243, .string t244, .bool t245, .int .i64 t246] 42 (0, 0))) ∧ Aside0 (Below w.heap.size w wc))
    case first =>
      have H := HC5.out
      clear HC5
      replace H := Option.bind_eq_some_iff.mp H
      obtain ⟨t249, A150, H⟩ := H
      replace H : (if t249 = true then (laws_FnExactNewIssuer.j0 k a0 t236 (t247 != t236) t227 t228 t231 t232 t233 t234 t235 t238 t239 t242 t243 t244 t245 t246) else (laws_FnExactNewIssuer.j0 k a0 t236 true t227 t228 t231 t232 t233 t234 t235 t238 t239 t242 t243 t244 t245 t246)) = some r := H
      have A15 := Aside0.mk A150
      clear A150
      by_cases c16 : t249 = true
      · subst c16
        have H1 : (laws_FnExactNewIssuer.j0 k a0 t236 (t247 != t236) t227 t228 t231 t232 t233 t234 t235 t238 t239 t242 t243 t244 t245 t246) = some r := by rw [if_pos rfl] at H; exact H
        clear H
        have H := H1
        clear H1
        have H' := Aside0.mk H
        clear H
        have hnb17 := NB248_237.out
        have hnc17 := NB237_248.out
        have hcz18_0 : w11.cell? ⟨gb248, 0, none⟩ = some (.string (⟨#[]⟩ : ByteArray)) := (blk_cell BK248.out 0).trans rfl
        have hcz18_1 : w11.cell? ⟨gb248, 1, none⟩ = some (.slice none 0 0) := (blk_cell BK248.out 1).trans rfl
        have hcz18_2 : w11.cell? ⟨gb248, 2, none⟩ = some (.int .i64 0) := (blk_cell BK248.out 2).trans rfl
        have hcz18_3 : w11.cell? ⟨gb248, 3, none⟩ = some (.string (⟨#[]⟩ : ByteArray)) := (blk_cell BK248.out 3).trans rfl
        have hcz18_4 : w11.cell? ⟨gb248, 4, none⟩ = some (.string (⟨#[]⟩ : ByteArray)) := (blk_cell BK248.out 4).trans rfl
        have hcz18_5 : w11.cell? ⟨gb248, 5, none⟩ = some (.bool false) := (blk_cell BK248.out 5).trans rfl
        have hcz18_6 : w11.cell? ⟨gb248, 6, none⟩ = some (.int .i64 0) := (blk_cell BK248.out 6).trans rfl
        have hfz18_0 := blk_frozen BK248.out 0
        have hfz18_1 := blk_frozen BK248.out 1
        have hfz18_2 := blk_frozen BK248.out 2
        have hfz18_3 := blk_frozen BK248.out 3
        have hfz18_4 := blk_frozen BK248.out 4
        have hfz18_5 := blk_frozen BK248.out 5
        have hfz18_6 := blk_frozen BK248.out 6
        have hcz19_0 : w11.cell? ⟨gb237, 0, none⟩ = some (.string t227) := (blk_cell BK237.out 0).trans rfl
        have hcz19_1 : w11.cell? ⟨gb237, 1, none⟩ = some (.slice Ao9 t228.length co9) := (blk_cell BK237.out 1).trans rfl
        have hcz19_2 : w11.cell? ⟨gb237, 2, none⟩ = some (.int .i64 t231) := (blk_cell BK237.out 2).trans rfl
        have hcz19_3 : w11.cell? ⟨gb237, 3, none⟩ = some (.string t232) := (blk_cell BK237.out 3).trans rfl
        have hcz19_4 : w11.cell? ⟨gb237, 4, none⟩ = some (.string t233) := (blk_cell BK237.out 4).trans rfl
        have hcz19_5 : w11.cell? ⟨gb237, 5, none⟩ = some (.bool t234) := (blk_cell BK237.out 5).trans rfl
        have hcz19_6 : w11.cell? ⟨gb237, 6, none⟩ = some (.int .i64 t235) := (blk_cell BK237.out 6).trans rfl
        have hfz19_0 := blk_frozen BK237.out 0
        have hfz19_1 := blk_frozen BK237.out 1
        have hfz19_2 := blk_frozen BK237.out 2
        have hfz19_3 := blk_frozen BK237.out 3
        have hfz19_4 := blk_frozen BK237.out 4
        have hfz19_5 := blk_frozen BK237.out 5
        have hfz19_6 := blk_frozen BK237.out 6
        go_wp2_with (first | ((with_reducible refine gate_callee (f := 26) rfl ?_); refine goesL_ (some 26) rfl rfl Try.func26 (by kernel_rfl) rfl #[.agg #[.string t238, .slice Ao14 t239.length co14, .int .i64 t242, .string t243, .string t244, .bool t245, .int .i64 t246], .agg #[.string t227, .slice Ao9 t228.length co9, .int .i64 t231, .string t232, .string t233, .bool t234, .int .i64 t235]] rfl (by (try simp only [List.map_toArray, List.map_cons, List.map_nil]); first | done | rfl | (simp only [List.length_drop, List.length_take]; rfl)) ?_; (with_reducible refine (laws_eqIssuer.calls k t238 _ _ t239 t242 t243 t244 t245 t246 t227 _ _ t228 t231 t232 t233 t234 t235 true _ ?side1 ?side2 ?side3 ?side4 A15.out).mono ?_); (case side1 => refine (Kd.R_reads' (e := 4) (base := w.heap.size) (ok := fun k_ => (True ∧ some k_ ≠ (.slice Ao9 t228.length co9 : Value).ownBlock)) (n := t239.length) (c := co14) ?_).2.2; exact (by (with_reducible repeat (first | apply Kd.R_alloc | apply Kd.R_drewN | apply Kd.R_drew)); exact (Kd.R_mono (Kd.R_far (p := ⟨gb248, 6, none⟩) (Kd.R_far (p := ⟨gb248, 5, none⟩) (Kd.R_far (p := ⟨gb248, 4, none⟩) (Kd.R_far (p := ⟨gb248, 3, none⟩) (Kd.R_far (p := ⟨gb248, 2, none⟩) (Kd.R_far (p := ⟨gb248, 1, none⟩) (Kd.R_far (p := ⟨gb248, 0, none⟩) (Kd.R_types HO241.out BK248.out (by decide)) (fun _ hk => hk.2) (.string t238)) (fun _ hk => hk.2) (.slice Ao14 t239.length co14)) (fun _ hk => hk.2) (.int .i64 t242)) (fun _ hk => hk.2) (.string t243)) (fun _ hk => hk.2) (.string t244)) (fun _ hk => hk.2) (.bool t245)) (fun _ hk => hk.2) (.int .i64 t246)) (fun _ h_ => h_.1)))); (case side2 => exact (Kd.R_reads' HO241.out).2.1); (case side3 => refine (Kd.R_reads' (e := 4) (base := w.heap.size) (ok := fun k_ => (True ∧ some k_ ≠ (.slice Ao14 t239.length co14 : Value).ownBlock)) (n := t228.length) (c := co9) ?_).2.2; exact (by (with_reducible repeat (first | apply Kd.R_alloc | apply Kd.R_drewN | apply Kd.R_drew)); exact (Kd.R_mono (Kd.R_far (p := ⟨gb248, 6, none⟩) (Kd.R_far (p := ⟨gb248, 5, none⟩) (Kd.R_far (p := ⟨gb248, 4, none⟩) (Kd.R_far (p := ⟨gb248, 3, none⟩) (Kd.R_far (p := ⟨gb248, 2, none⟩) (Kd.R_far (p := ⟨gb248, 1, none⟩) (Kd.R_far (p := ⟨gb248, 0, none⟩) (Kd.R_types HO230.out BK248.out (by decide)) (fun _ hk => hk.2) (.string t238)) (fun _ hk => hk.2) (.slice Ao14 t239.length co14)) (fun _ hk => hk.2) (.int .i64 t242)) (fun _ hk => hk.2) (.string t243)) (fun _ hk => hk.2) (.string t244)) (fun _ hk => hk.2) (.bool t245)) (fun _ hk => hk.2) (.int .i64 t246)) (fun _ h_ => h_.1)))); (case side4 => exact (Kd.R_reads' HO230.out).2.1); rintro e w20 ⟨rfl, hb⟩; refine ⟨_, rfl, ?_⟩; have n0_ := Aside0.mk (Kd.R_below (by (with_reducible repeat (first | apply Kd.R_alloc | apply Kd.R_drewN | apply Kd.R_drew)); exact (Kd.R_mono (Kd.R_far (p := ⟨gb248, 6, none⟩) (Kd.R_far (p := ⟨gb248, 5, none⟩) (Kd.R_far (p := ⟨gb248, 4, none⟩) (Kd.R_far (p := ⟨gb248, 3, none⟩) (Kd.R_far (p := ⟨gb248, 2, none⟩) (Kd.R_far (p := ⟨gb248, 1, none⟩) (Kd.R_far (p := ⟨gb248, 0, none⟩) (Kd.R_types HO230.out BK248.out (by decide)) (fun _ hk => hk.2) (.string t238)) (fun _ hk => hk.2) (.slice Ao14 t239.length co14)) (fun _ hk => hk.2) (.int .i64 t242)) (fun _ hk => hk.2) (.string t243)) (fun _ hk => hk.2) (.string t244)) (fun _ hk => hk.2) (.bool t245)) (fun _ hk => hk.2) (.int .i64 t246)) (fun _ h_ => h_.1))) hb); have n1_ := Aside0.mk (Kd.R_below (by (with_reducible repeat (first | apply Kd.R_alloc | apply Kd.R_drewN | apply Kd.R_drew)); exact (Kd.R_mono (Kd.R_far (p := ⟨gb248, 6, none⟩) (Kd.R_far (p := ⟨gb248, 5, none⟩) (Kd.R_far (p := ⟨gb248, 4, none⟩) (Kd.R_far (p := ⟨gb248, 3, none⟩) (Kd.R_far (p := ⟨gb248, 2, none⟩) (Kd.R_far (p := ⟨gb248, 1, none⟩) (Kd.R_far (p := ⟨gb248, 0, none⟩) (Kd.R_types HO241.out BK248.out (by decide)) (fun _ hk => hk.2) (.string t238)) (fun _ hk => hk.2) (.slice Ao14 t239.length co14)) (fun _ hk => hk.2) (.int .i64 t242)) (fun _ hk => hk.2) (.string t243)) (fun _ hk => hk.2) (.string t244)) (fun _ hk => hk.2) (.bool t245)) (fun _ hk => hk.2) (.int .i64 t246)) (fun _ h_ => h_.1))) hb); have n2_ := Aside0.mk (blk_below (g := gb237) (o := .cells #[.string t227, .slice Ao9 t228.length co9, .int .i64 t231, .string t232, .string t233, .bool t234, .int .i64 t235] 42 (0, 0)) (by (with_reducible repeat (first | refine blk_drewN ?_ _ | refine blk_drew ?_ | refine blk_alloc ?_ _)); refine blk_far ?_ NB237_248.out _; (with_reducible repeat (first | refine blk_drewN ?_ _ | refine blk_drew ?_ | refine blk_alloc ?_ _)); refine blk_far ?_ NB237_248.out _; (with_reducible repeat (first | refine blk_drewN ?_ _ | refine blk_drew ?_ | refine blk_alloc ?_ _)); refine blk_far ?_ NB237_248.out _; (with_reducible repeat (first | refine blk_drewN ?_ _ | refine blk_drew ?_ | refine blk_alloc ?_ _)); refine blk_far ?_ NB237_248.out _; (with_reducible repeat (first | refine blk_drewN ?_ _ | refine blk_drew ?_ | refine blk_alloc ?_ _)); refine blk_far ?_ NB237_248.out _; (with_reducible repeat (first | refine blk_drewN ?_ _ | refine blk_drew ?_ | refine blk_alloc ?_ _)); refine blk_far ?_ NB237_248.out _; (with_reducible repeat (first | refine blk_drewN ?_ _ | refine blk_drew ?_ | refine blk_alloc ?_ _)); refine blk_far ?_ NB237_248.out _; (with_reducible repeat (first | refine blk_drewN ?_ _ | refine blk_drew ?_ | refine blk_alloc ?_ _)); exact BK237.out) hb); have n3_ := Aside0.mk (blk_below (g := gb248) (o := .cells #[.string t238, .slice Ao14 t239.length co14, .int .i64 t242, .string t243, .string t244, .bool t245, .int .i64 t246] 42 (0, 0)) (by (with_reducible repeat (first | refine blk_drewN ?_ _ | refine blk_drew ?_ | refine blk_alloc ?_ _)); refine blk_put (cs := #[.string t238, .slice Ao14 t239.length co14, .int .i64 t242, .string t243, .string t244, .bool t245, .int .i64 0]) ?_ 6 _ rfl; (with_reducible repeat (first | refine blk_drewN ?_ _ | refine blk_drew ?_ | refine blk_alloc ?_ _)); refine blk_put (cs := #[.string t238, .slice Ao14 t239.length co14, .int .i64 t242, .string t243, .string t244, .bool false, .int .i64 0]) ?_ 5 _ rfl; (with_reducible repeat (first | refine blk_drewN ?_ _ | refine blk_drew ?_ | refine blk_alloc ?_ _)); refine blk_put (cs := #[.string t238, .slice Ao14 t239.length co14, .int .i64 t242, .string t243, .string (⟨#[]⟩ : ByteArray), .bool false, .int .i64 0]) ?_ 4 _ rfl; (with_reducible repeat (first | refine blk_drewN ?_ _ | refine blk_drew ?_ | refine blk_alloc ?_ _)); refine blk_put (cs := #[.string t238, .slice Ao14 t239.length co14, .int .i64 t242, .string (⟨#[]⟩ : ByteArray), .string (⟨#[]⟩ : ByteArray), .bool false, .int .i64 0]) ?_ 3 _ rfl; (with_reducible repeat (first | refine blk_drewN ?_ _ | refine blk_drew ?_ | refine blk_alloc ?_ _)); refine blk_put (cs := #[.string t238, .slice Ao14 t239.length co14, .int .i64 0, .string (⟨#[]⟩ : ByteArray), .string (⟨#[]⟩ : ByteArray), .bool false, .int .i64 0]) ?_ 2 _ rfl; (with_reducible repeat (first | refine blk_drewN ?_ _ | refine blk_drew ?_ | refine blk_alloc ?_ _)); refine blk_put (cs := #[.string t238, .slice none 0 0, .int .i64 0, .string (⟨#[]⟩ : ByteArray), .string (⟨#[]⟩ : ByteArray), .bool false, .int .i64 0]) ?_ 1 _ rfl; (with_reducible repeat (first | refine blk_drewN ?_ _ | refine blk_drew ?_ | refine blk_alloc ?_ _)); refine blk_put (cs := #[.string (⟨#[]⟩ : ByteArray), .slice none 0 0, .int .i64 0, .string (⟨#[]⟩ : ByteArray), .string (⟨#[]⟩ : ByteArray), .bool false, .int .i64 0]) ?_ 0 _ rfl; (with_reducible repeat (first | refine blk_drewN ?_ _ | refine blk_drew ?_ | refine blk_alloc ?_ _)); exact BK248.out) hb); have n4_ := Aside0.mk (below_step (by repeat (first | (with_reducible first | exact HB.out | apply below_alloc | apply pw_below_drewN | apply below_drew1 | refine below_set ?_ GE237.out | refine below_set ?_ GE248.out) | exact HB.out)) hb); clear HO230; clear HO241; clear BK237; clear BK248; clear HB; have HO230 := n0_; have HO241 := n1_; have BK237 := n2_; have BK248 := n3_; have HB := n4_; clear n0_ n1_ n2_ n3_ n4_; (try clear hb); (try clear hb2); (try clear hk); (try clear hi)))
        go_meet
        case rel => exact ⟨_, ((t247 != t236)), (by first | rfl | (simp; done) | (simp [*]; done)), H', ⟨by first | omega | exact Nat.le_refl _⟩, ⟨by (with_reducible repeat (first | apply Kd.R_alloc | apply Kd.R_drewN | apply Kd.R_drew)); exact Kd.R_mono HO230.out (fun _ hk => hk.2)⟩, ⟨by (with_reducible repeat (first | apply Kd.R_alloc | apply Kd.R_drewN | apply Kd.R_drew)); exact Kd.R_mono HO241.out (fun _ hk => hk.2)⟩, ⟨by (with_reducible repeat (first | refine blk_drewN ?_ _ | refine blk_drew ?_ | refine blk_alloc ?_ _)); exact BK237.out⟩, ⟨by (with_reducible repeat (first | refine blk_drewN ?_ _ | refine blk_drew ?_ | refine blk_alloc ?_ _)); exact BK248.out⟩, ⟨by repeat (first | (with_reducible first | exact HB.out | apply below_alloc | apply pw_below_drewN | apply below_drew1 | refine below_set ?_ GE237.out | refine below_set ?_ GE248.out) | exact HB.out)⟩⟩
      · replace c16 := Bool.eq_false_iff.mpr c16
        subst c16
        have H1 : (laws_FnExactNewIssuer.j0 k a0 t236 true t227 t228 t231 t232 t233 t234 t235 t238 t239 t242 t243 t244 t245 t246) = some r := by rw [if_neg (show ¬ (false = true) by decide)] at H; exact H
        clear H
        have H := H1
        clear H1
        have H' := Aside0.mk H
        clear H
        have hnb21 := NB248_237.out
        have hnc21 := NB237_248.out
        have hcz22_0 : w11.cell? ⟨gb248, 0, none⟩ = some (.string (⟨#[]⟩ : ByteArray)) := (blk_cell BK248.out 0).trans rfl
        have hcz22_1 : w11.cell? ⟨gb248, 1, none⟩ = some (.slice none 0 0) := (blk_cell BK248.out 1).trans rfl
        have hcz22_2 : w11.cell? ⟨gb248, 2, none⟩ = some (.int .i64 0) := (blk_cell BK248.out 2).trans rfl
        have hcz22_3 : w11.cell? ⟨gb248, 3, none⟩ = some (.string (⟨#[]⟩ : ByteArray)) := (blk_cell BK248.out 3).trans rfl
        have hcz22_4 : w11.cell? ⟨gb248, 4, none⟩ = some (.string (⟨#[]⟩ : ByteArray)) := (blk_cell BK248.out 4).trans rfl
        have hcz22_5 : w11.cell? ⟨gb248, 5, none⟩ = some (.bool false) := (blk_cell BK248.out 5).trans rfl
        have hcz22_6 : w11.cell? ⟨gb248, 6, none⟩ = some (.int .i64 0) := (blk_cell BK248.out 6).trans rfl
        have hfz22_0 := blk_frozen BK248.out 0
        have hfz22_1 := blk_frozen BK248.out 1
        have hfz22_2 := blk_frozen BK248.out 2
        have hfz22_3 := blk_frozen BK248.out 3
        have hfz22_4 := blk_frozen BK248.out 4
        have hfz22_5 := blk_frozen BK248.out 5
        have hfz22_6 := blk_frozen BK248.out 6
        have hcz23_0 : w11.cell? ⟨gb237, 0, none⟩ = some (.string t227) := (blk_cell BK237.out 0).trans rfl
        have hcz23_1 : w11.cell? ⟨gb237, 1, none⟩ = some (.slice Ao9 t228.length co9) := (blk_cell BK237.out 1).trans rfl
        have hcz23_2 : w11.cell? ⟨gb237, 2, none⟩ = some (.int .i64 t231) := (blk_cell BK237.out 2).trans rfl
        have hcz23_3 : w11.cell? ⟨gb237, 3, none⟩ = some (.string t232) := (blk_cell BK237.out 3).trans rfl
        have hcz23_4 : w11.cell? ⟨gb237, 4, none⟩ = some (.string t233) := (blk_cell BK237.out 4).trans rfl
        have hcz23_5 : w11.cell? ⟨gb237, 5, none⟩ = some (.bool t234) := (blk_cell BK237.out 5).trans rfl
        have hcz23_6 : w11.cell? ⟨gb237, 6, none⟩ = some (.int .i64 t235) := (blk_cell BK237.out 6).trans rfl
        have hfz23_0 := blk_frozen BK237.out 0
        have hfz23_1 := blk_frozen BK237.out 1
        have hfz23_2 := blk_frozen BK237.out 2
        have hfz23_3 := blk_frozen BK237.out 3
        have hfz23_4 := blk_frozen BK237.out 4
        have hfz23_5 := blk_frozen BK237.out 5
        have hfz23_6 := blk_frozen BK237.out 6
        go_wp2_with (first | ((with_reducible refine gate_callee (f := 26) rfl ?_); refine goesL_ (some 26) rfl rfl Try.func26 (by kernel_rfl) rfl #[.agg #[.string t238, .slice Ao14 t239.length co14, .int .i64 t242, .string t243, .string t244, .bool t245, .int .i64 t246], .agg #[.string t227, .slice Ao9 t228.length co9, .int .i64 t231, .string t232, .string t233, .bool t234, .int .i64 t235]] rfl (by (try simp only [List.map_toArray, List.map_cons, List.map_nil]); first | done | rfl | (simp only [List.length_drop, List.length_take]; rfl)) ?_; (with_reducible refine (laws_eqIssuer.calls k t238 _ _ t239 t242 t243 t244 t245 t246 t227 _ _ t228 t231 t232 t233 t234 t235 false _ ?side1 ?side2 ?side3 ?side4 A15.out).mono ?_); (case side1 => refine (Kd.R_reads' (e := 4) (base := w.heap.size) (ok := fun k_ => (True ∧ some k_ ≠ (.slice Ao9 t228.length co9 : Value).ownBlock)) (n := t239.length) (c := co14) ?_).2.2; exact (by (with_reducible repeat (first | apply Kd.R_alloc | apply Kd.R_drewN | apply Kd.R_drew)); exact (Kd.R_mono (Kd.R_far (p := ⟨gb248, 6, none⟩) (Kd.R_far (p := ⟨gb248, 5, none⟩) (Kd.R_far (p := ⟨gb248, 4, none⟩) (Kd.R_far (p := ⟨gb248, 3, none⟩) (Kd.R_far (p := ⟨gb248, 2, none⟩) (Kd.R_far (p := ⟨gb248, 1, none⟩) (Kd.R_far (p := ⟨gb248, 0, none⟩) (Kd.R_types HO241.out BK248.out (by decide)) (fun _ hk => hk.2) (.string t238)) (fun _ hk => hk.2) (.slice Ao14 t239.length co14)) (fun _ hk => hk.2) (.int .i64 t242)) (fun _ hk => hk.2) (.string t243)) (fun _ hk => hk.2) (.string t244)) (fun _ hk => hk.2) (.bool t245)) (fun _ hk => hk.2) (.int .i64 t246)) (fun _ h_ => h_.1)))); (case side2 => exact (Kd.R_reads' HO241.out).2.1); (case side3 => refine (Kd.R_reads' (e := 4) (base := w.heap.size) (ok := fun k_ => (True ∧ some k_ ≠ (.slice Ao14 t239.length co14 : Value).ownBlock)) (n := t228.length) (c := co9) ?_).2.2; exact (by (with_reducible repeat (first | apply Kd.R_alloc | apply Kd.R_drewN | apply Kd.R_drew)); exact (Kd.R_mono (Kd.R_far (p := ⟨gb248, 6, none⟩) (Kd.R_far (p := ⟨gb248, 5, none⟩) (Kd.R_far (p := ⟨gb248, 4, none⟩) (Kd.R_far (p := ⟨gb248, 3, none⟩) (Kd.R_far (p := ⟨gb248, 2, none⟩) (Kd.R_far (p := ⟨gb248, 1, none⟩) (Kd.R_far (p := ⟨gb248, 0, none⟩) (Kd.R_types HO230.out BK248.out (by decide)) (fun _ hk => hk.2) (.string t238)) (fun _ hk => hk.2) (.slice Ao14 t239.length co14)) (fun _ hk => hk.2) (.int .i64 t242)) (fun _ hk => hk.2) (.string t243)) (fun _ hk => hk.2) (.string t244)) (fun _ hk => hk.2) (.bool t245)) (fun _ hk => hk.2) (.int .i64 t246)) (fun _ h_ => h_.1)))); (case side4 => exact (Kd.R_reads' HO230.out).2.1); rintro e w24 ⟨rfl, hb⟩; refine ⟨_, rfl, ?_⟩; have n0_ := Aside0.mk (Kd.R_below (by (with_reducible repeat (first | apply Kd.R_alloc | apply Kd.R_drewN | apply Kd.R_drew)); exact (Kd.R_mono (Kd.R_far (p := ⟨gb248, 6, none⟩) (Kd.R_far (p := ⟨gb248, 5, none⟩) (Kd.R_far (p := ⟨gb248, 4, none⟩) (Kd.R_far (p := ⟨gb248, 3, none⟩) (Kd.R_far (p := ⟨gb248, 2, none⟩) (Kd.R_far (p := ⟨gb248, 1, none⟩) (Kd.R_far (p := ⟨gb248, 0, none⟩) (Kd.R_types HO230.out BK248.out (by decide)) (fun _ hk => hk.2) (.string t238)) (fun _ hk => hk.2) (.slice Ao14 t239.length co14)) (fun _ hk => hk.2) (.int .i64 t242)) (fun _ hk => hk.2) (.string t243)) (fun _ hk => hk.2) (.string t244)) (fun _ hk => hk.2) (.bool t245)) (fun _ hk => hk.2) (.int .i64 t246)) (fun _ h_ => h_.1))) hb); have n1_ := Aside0.mk (Kd.R_below (by (with_reducible repeat (first | apply Kd.R_alloc | apply Kd.R_drewN | apply Kd.R_drew)); exact (Kd.R_mono (Kd.R_far (p := ⟨gb248, 6, none⟩) (Kd.R_far (p := ⟨gb248, 5, none⟩) (Kd.R_far (p := ⟨gb248, 4, none⟩) (Kd.R_far (p := ⟨gb248, 3, none⟩) (Kd.R_far (p := ⟨gb248, 2, none⟩) (Kd.R_far (p := ⟨gb248, 1, none⟩) (Kd.R_far (p := ⟨gb248, 0, none⟩) (Kd.R_types HO241.out BK248.out (by decide)) (fun _ hk => hk.2) (.string t238)) (fun _ hk => hk.2) (.slice Ao14 t239.length co14)) (fun _ hk => hk.2) (.int .i64 t242)) (fun _ hk => hk.2) (.string t243)) (fun _ hk => hk.2) (.string t244)) (fun _ hk => hk.2) (.bool t245)) (fun _ hk => hk.2) (.int .i64 t246)) (fun _ h_ => h_.1))) hb); have n2_ := Aside0.mk (blk_below (g := gb237) (o := .cells #[.string t227, .slice Ao9 t228.length co9, .int .i64 t231, .string t232, .string t233, .bool t234, .int .i64 t235] 42 (0, 0)) (by (with_reducible repeat (first | refine blk_drewN ?_ _ | refine blk_drew ?_ | refine blk_alloc ?_ _)); refine blk_far ?_ NB237_248.out _; (with_reducible repeat (first | refine blk_drewN ?_ _ | refine blk_drew ?_ | refine blk_alloc ?_ _)); refine blk_far ?_ NB237_248.out _; (with_reducible repeat (first | refine blk_drewN ?_ _ | refine blk_drew ?_ | refine blk_alloc ?_ _)); refine blk_far ?_ NB237_248.out _; (with_reducible repeat (first | refine blk_drewN ?_ _ | refine blk_drew ?_ | refine blk_alloc ?_ _)); refine blk_far ?_ NB237_248.out _; (with_reducible repeat (first | refine blk_drewN ?_ _ | refine blk_drew ?_ | refine blk_alloc ?_ _)); refine blk_far ?_ NB237_248.out _; (with_reducible repeat (first | refine blk_drewN ?_ _ | refine blk_drew ?_ | refine blk_alloc ?_ _)); refine blk_far ?_ NB237_248.out _; (with_reducible repeat (first | refine blk_drewN ?_ _ | refine blk_drew ?_ | refine blk_alloc ?_ _)); refine blk_far ?_ NB237_248.out _; (with_reducible repeat (first | refine blk_drewN ?_ _ | refine blk_drew ?_ | refine blk_alloc ?_ _)); exact BK237.out) hb); have n3_ := Aside0.mk (blk_below (g := gb248) (o := .cells #[.string t238, .slice Ao14 t239.length co14, .int .i64 t242, .string t243, .string t244, .bool t245, .int .i64 t246] 42 (0, 0)) (by (with_reducible repeat (first | refine blk_drewN ?_ _ | refine blk_drew ?_ | refine blk_alloc ?_ _)); refine blk_put (cs := #[.string t238, .slice Ao14 t239.length co14, .int .i64 t242, .string t243, .string t244, .bool t245, .int .i64 0]) ?_ 6 _ rfl; (with_reducible repeat (first | refine blk_drewN ?_ _ | refine blk_drew ?_ | refine blk_alloc ?_ _)); refine blk_put (cs := #[.string t238, .slice Ao14 t239.length co14, .int .i64 t242, .string t243, .string t244, .bool false, .int .i64 0]) ?_ 5 _ rfl; (with_reducible repeat (first | refine blk_drewN ?_ _ | refine blk_drew ?_ | refine blk_alloc ?_ _)); refine blk_put (cs := #[.string t238, .slice Ao14 t239.length co14, .int .i64 t242, .string t243, .string (⟨#[]⟩ : ByteArray), .bool false, .int .i64 0]) ?_ 4 _ rfl; (with_reducible repeat (first | refine blk_drewN ?_ _ | refine blk_drew ?_ | refine blk_alloc ?_ _)); refine blk_put (cs := #[.string t238, .slice Ao14 t239.length co14, .int .i64 t242, .string (⟨#[]⟩ : ByteArray), .string (⟨#[]⟩ : ByteArray), .bool false, .int .i64 0]) ?_ 3 _ rfl; (with_reducible repeat (first | refine blk_drewN ?_ _ | refine blk_drew ?_ | refine blk_alloc ?_ _)); refine blk_put (cs := #[.string t238, .slice Ao14 t239.length co14, .int .i64 0, .string (⟨#[]⟩ : ByteArray), .string (⟨#[]⟩ : ByteArray), .bool false, .int .i64 0]) ?_ 2 _ rfl; (with_reducible repeat (first | refine blk_drewN ?_ _ | refine blk_drew ?_ | refine blk_alloc ?_ _)); refine blk_put (cs := #[.string t238, .slice none 0 0, .int .i64 0, .string (⟨#[]⟩ : ByteArray), .string (⟨#[]⟩ : ByteArray), .bool false, .int .i64 0]) ?_ 1 _ rfl; (with_reducible repeat (first | refine blk_drewN ?_ _ | refine blk_drew ?_ | refine blk_alloc ?_ _)); refine blk_put (cs := #[.string (⟨#[]⟩ : ByteArray), .slice none 0 0, .int .i64 0, .string (⟨#[]⟩ : ByteArray), .string (⟨#[]⟩ : ByteArray), .bool false, .int .i64 0]) ?_ 0 _ rfl; (with_reducible repeat (first | refine blk_drewN ?_ _ | refine blk_drew ?_ | refine blk_alloc ?_ _)); exact BK248.out) hb); have n4_ := Aside0.mk (below_step (by repeat (first | (with_reducible first | exact HB.out | apply below_alloc | apply pw_below_drewN | apply below_drew1 | refine below_set ?_ GE237.out | refine below_set ?_ GE248.out) | exact HB.out)) hb); clear HO230; clear HO241; clear BK237; clear BK248; clear HB; have HO230 := n0_; have HO241 := n1_; have BK237 := n2_; have BK248 := n3_; have HB := n4_; clear n0_ n1_ n2_ n3_ n4_; (try clear hb); (try clear hb2); (try clear hk); (try clear hi)))
        go_meet
        case rel => exact ⟨_, (true), (by first | rfl | (simp; done) | (simp [*]; done)), H', ⟨by first | omega | exact Nat.le_refl _⟩, ⟨by (with_reducible repeat (first | apply Kd.R_alloc | apply Kd.R_drewN | apply Kd.R_drew)); exact Kd.R_mono HO230.out (fun _ hk => hk.2)⟩, ⟨by (with_reducible repeat (first | apply Kd.R_alloc | apply Kd.R_drewN | apply Kd.R_drew)); exact Kd.R_mono HO241.out (fun _ hk => hk.2)⟩, ⟨by (with_reducible repeat (first | refine blk_drewN ?_ _ | refine blk_drew ?_ | refine blk_alloc ?_ _)); exact BK237.out⟩, ⟨by (with_reducible repeat (first | refine blk_drewN ?_ _ | refine blk_drew ?_ | refine blk_alloc ?_ _)); exact BK248.out⟩, ⟨by repeat (first | (with_reducible first | exact HB.out | apply below_alloc | apply pw_below_drewN | apply below_drew1 | refine below_set ?_ GE237.out | refine below_set ?_ GE248.out) | exact HB.out)⟩⟩
    case rest =>
      clear HC5
      try clear c1
      try clear c2
      try clear c2b0
      try clear c2b1
      try clear p2
      try clear c5
      try clear c12
      try clear c16
      try clear c17
      try clear c21
      try clear c24
      try clear hcz13_0
      try clear hcz13_1
      try clear hcz13_2
      try clear hcz13_3
      try clear hcz13_4
      try clear hcz13_5
      try clear hcz13_6
      try clear hcz18_0
      try clear hcz18_1
      try clear hcz18_2
      try clear hcz18_3
      try clear hcz18_4
      try clear hcz18_5
      try clear hcz18_6
      try clear hcz19_0
      try clear hcz19_1
      try clear hcz19_2
      try clear hcz19_3
      try clear hcz19_4
      try clear hcz19_5
      try clear hcz19_6
      try clear hcz22_0
      try clear hcz22_1
      try clear hcz22_2
      try clear hcz22_3
      try clear hcz22_4
      try clear hcz22_5
      try clear hcz22_6
      try clear hcz23_0
      try clear hcz23_1
      try clear hcz23_2
      try clear hcz23_3
      try clear hcz23_4
      try clear hcz23_5
      try clear hcz23_6
      try clear hcz8_0
      try clear hcz8_1
      try clear hcz8_2
      try clear hcz8_3
      try clear hcz8_4
      try clear hcz8_5
      try clear hcz8_6
      try clear hfz13_0
      try clear hfz13_1
      try clear hfz13_2
      try clear hfz13_3
      try clear hfz13_4
      try clear hfz13_5
      try clear hfz13_6
      try clear hfz18_0
      try clear hfz18_1
      try clear hfz18_2
      try clear hfz18_3
      try clear hfz18_4
      try clear hfz18_5
      try clear hfz18_6
      try clear hfz19_0
      try clear hfz19_1
      try clear hfz19_2
      try clear hfz19_3
      try clear hfz19_4
      try clear hfz19_5
      try clear hfz19_6
      try clear hfz22_0
      try clear hfz22_1
      try clear hfz22_2
      try clear hfz22_3
      try clear hfz22_4
      try clear hfz22_5
      try clear hfz22_6
      try clear hfz23_0
      try clear hfz23_1
      try clear hfz23_2
      try clear hfz23_3
      try clear hfz23_4
      try clear hfz23_5
      try clear hfz23_6
      try clear hfz8_0
      try clear hfz8_1
      try clear hfz8_2
      try clear hfz8_3
      try clear hfz8_4
      try clear hfz8_5
      try clear hfz8_6
      obtain ⟨kq, x32_4, rfl, HA, HJ4, HO_238001, HO_249001, BK237, BK248, HB⟩ := hcut
      cases kq with
      | zero => exact absurd HA.out (by simp [laws_FnExactNewIssuer.j0])
      | succ kj4 =>
        have H := HA.out
        clear HA
        simp only [laws_FnExactNewIssuer.j0] at H
        by_cases c25 : x32_4 = true
        · subst c25
          have H1 : (some false) = some r := by rw [if_pos rfl] at H; exact H
          clear H
          have H := H1
          clear H1
          obtain rfl := Option.some.inj H
          go_wp2
          go_ret
          exact ⟨by first | rfl | (simp [errW_none, errW_some] <;> rfl) | (simp [*, errW_none, errW_some] <;> rfl), by repeat (first | (with_reducible first | exact HB.out | apply below_alloc | apply pw_below_drewN | apply below_drew1 | refine below_set ?_ GE237.out | refine below_set ?_ GE248.out) | exact HB.out)⟩
        · replace c25 := Bool.eq_false_iff.mpr c25
          subst c25
          have H1 : ((laws_markIssuer.f kj4 t238 t239 t242 t243 t244 t245 t246 1).bind fun bt250 => ((laws_heldIssuer.f kj4 t238 bt250.2 t242 t243 t244 t245 t246 1).bind fun t252 => (if t252 < 0 then (some false) else (if t252 = bt250.1 then ((impl_NewIssuer.f a0).bind fun bt253 => ((laws_eqIssuer.f kj4 bt253.1 bt253.2.1 bt253.2.2.1 bt253.2.2.2.1 bt253.2.2.2.2.1 bt253.2.2.2.2.2.1 bt253.2.2.2.2.2.2.1 t227 t228 t231 t232 t233 t234 t235).bind fun t264 => (if t264 = true then (laws_FnExactNewIssuer.j1 kj4 bt250.1 (bt253.2.2.2.2.2.2.2 != t236) t238 bt250.2 t242 t243 t244 t245 t246) else (laws_FnExactNewIssuer.j1 kj4 bt250.1 true t238 bt250.2 t242 t243 t244 t245 t246)))) else (some false))))) = some r := by rw [if_neg (show ¬ (false = true) by decide)] at H; exact H
          clear H
          have H := H1
          clear H1
          replace H := Option.bind_eq_some_iff.mp H
          obtain ⟨⟨t250, t251⟩, A260, H⟩ := H
          replace H : ((laws_heldIssuer.f kj4 t238 t251 t242 t243 t244 t245 t246 1).bind fun t252 => (if t252 < 0 then (some false) else (if t252 = t250 then ((impl_NewIssuer.f a0).bind fun bt253 => ((laws_eqIssuer.f kj4 bt253.1 bt253.2.1 bt253.2.2.1 bt253.2.2.2.1 bt253.2.2.2.2.1 bt253.2.2.2.2.2.1 bt253.2.2.2.2.2.2.1 t227 t228 t231 t232 t233 t234 t235).bind fun t264 => (if t264 = true then (laws_FnExactNewIssuer.j1 kj4 t250 (bt253.2.2.2.2.2.2.2 != t236) t238 t251 t242 t243 t244 t245 t246) else (laws_FnExactNewIssuer.j1 kj4 t250 true t238 t251 t242 t243 t244 t245 t246)))) else (some false)))) = some r := H
          have A26 := Aside0.mk A260
          clear A260
          replace H := Option.bind_eq_some_iff.mp H
          obtain ⟨t252, A270, H⟩ := H
          replace H : (if t252 < 0 then (some false) else (if t252 = t250 then ((impl_NewIssuer.f a0).bind fun bt253 => ((laws_eqIssuer.f kj4 bt253.1 bt253.2.1 bt253.2.2.1 bt253.2.2.2.1 bt253.2.2.2.2.1 bt253.2.2.2.2.2.1 bt253.2.2.2.2.2.2.1 t227 t228 t231 t232 t233 t234 t235).bind fun t264 => (if t264 = true then (laws_FnExactNewIssuer.j1 kj4 t250 (bt253.2.2.2.2.2.2.2 != t236) t238 t251 t242 t243 t244 t245 t246) else (laws_FnExactNewIssuer.j1 kj4 t250 true t238 t251 t242 t243 t244 t245 t246)))) else (some false))) = some r := H
          have A27 := Aside0.mk A270
          clear A270
          by_cases c28 : t252 < 0
          · rw [if_pos c28] at H
            have c28b0 : decide (t252 < 0) = true := decide_eq_true c28
            clear c28
            obtain rfl := Option.some.inj H
            have hnb29 := NB248_237.out
            have hnc29 := NB237_248.out
            have hcz30_0 : wc.cell? ⟨gb248, 0, none⟩ = some (.string t238) := (blk_cell BK248.out 0).trans rfl
            have hcz30_1 : wc.cell? ⟨gb248, 1, none⟩ = some (.slice Ao14 t239.length co14) := (blk_cell BK248.out 1).trans rfl
            have hcz30_2 : wc.cell? ⟨gb248, 2, none⟩ = some (.int .i64 t242) := (blk_cell BK248.out 2).trans rfl
            have hcz30_3 : wc.cell? ⟨gb248, 3, none⟩ = some (.string t243) := (blk_cell BK248.out 3).trans rfl
            have hcz30_4 : wc.cell? ⟨gb248, 4, none⟩ = some (.string t244) := (blk_cell BK248.out 4).trans rfl
            have hcz30_5 : wc.cell? ⟨gb248, 5, none⟩ = some (.bool t245) := (blk_cell BK248.out 5).trans rfl
            have hcz30_6 : wc.cell? ⟨gb248, 6, none⟩ = some (.int .i64 t246) := (blk_cell BK248.out 6).trans rfl
            have hfz30_0 := blk_frozen BK248.out 0
            have hfz30_1 := blk_frozen BK248.out 1
            have hfz30_2 := blk_frozen BK248.out 2
            have hfz30_3 := blk_frozen BK248.out 3
            have hfz30_4 := blk_frozen BK248.out 4
            have hfz30_5 := blk_frozen BK248.out 5
            have hfz30_6 := blk_frozen BK248.out 6
            go_wp2_with (first | ((with_reducible refine gate_callee (f := 27) rfl ?_); refine goesL_ (some 35) rfl rfl Try.func27 (by kernel_rfl) rfl #[.agg #[.string t238, .slice Ao14 t239.length co14, .int .i64 t242, .string t243, .string t244, .bool t245, .int .i64 t246], .int .i64 1] rfl (by (try simp only [List.map_toArray, List.map_cons, List.map_nil]); first | done | rfl | (simp only [List.length_drop, List.length_take]; rfl)) ?_; (with_reducible refine (laws_markIssuer.calls kj4 t238 (fun k_ => some k_ = (.slice Ao14 t239.length co14 : Value).ownBlock) (.slice Ao14 t239.length co14) t239 t242 t243 t244 t245 t246 1 t250 t251 w _ ?side1 ?side2 A26.out).mono ?_); (case side1 => repeat (first | (with_reducible first | exact HB.out | apply below_alloc | apply pw_below_drewN | apply below_drew1 | refine below_set ?_ GE237.out | refine below_set ?_ GE248.out) | exact HB.out)); (case side2 => exact Kd.R_tight rfl HO_249001.out); rintro e w31 ⟨rfl, hy0, hb, hkp⟩; refine ⟨_, rfl, ?_⟩; have n0_ := Aside0.mk (Kd.R_mono (ok' := fun k_ => some k_ ≠ (.slice Ao14 t239.length co14 : Value).ownBlock) (Kd.R_keptB (HO_238001.out) hkp (fun k_ hk_ hs_ => (hk_) hs_)) (fun k_ hk_ => hk_.1)); have n1_ := Aside0.mk (Kd.R_reok rfl hy0 (fun k_ e_ => HO_249001.out.1 k_ e_)); have n2_ := Aside0.mk (blk_kept (by (with_reducible repeat (first | refine blk_drewN ?_ _ | refine blk_drew ?_ | refine blk_alloc ?_ _)); exact BK237.out) hkp (fun hs_ => (fun e_ => (Kd.R_ne HO_249001.out BK237.out (by decide)) e_) hs_)); have n3_ := Aside0.mk (blk_kept (by (with_reducible repeat (first | refine blk_drewN ?_ _ | refine blk_drew ?_ | refine blk_alloc ?_ _)); exact BK248.out) hkp (fun hs_ => (fun e_ => (Kd.R_ne HO_249001.out BK248.out (by decide)) e_) hs_)); have n4_ := Aside0.mk (hb); clear HO_238001; clear HO_249001; clear BK237; clear BK248; clear HB; have HO_238001 := n0_; have HO_249001 := n1_; have BK237 := n2_; have BK248 := n3_; have HB := n4_; clear n0_ n1_ n2_ n3_ n4_; (try clear hb); (try clear hkp); (try clear hy0); have hcz32_0 : w31.cell? ⟨gb248, 0, none⟩ = some (.string t238) := (blk_cell BK248.out 0).trans rfl; have hcz32_1 : w31.cell? ⟨gb248, 1, none⟩ = some (.slice Ao14 t239.length co14) := (blk_cell BK248.out 1).trans rfl; have hcz32_2 : w31.cell? ⟨gb248, 2, none⟩ = some (.int .i64 t242) := (blk_cell BK248.out 2).trans rfl; have hcz32_3 : w31.cell? ⟨gb248, 3, none⟩ = some (.string t243) := (blk_cell BK248.out 3).trans rfl; have hcz32_4 : w31.cell? ⟨gb248, 4, none⟩ = some (.string t244) := (blk_cell BK248.out 4).trans rfl; have hcz32_5 : w31.cell? ⟨gb248, 5, none⟩ = some (.bool t245) := (blk_cell BK248.out 5).trans rfl; have hcz32_6 : w31.cell? ⟨gb248, 6, none⟩ = some (.int .i64 t246) := (blk_cell BK248.out 6).trans rfl; have hfz32_0 := blk_frozen BK248.out 0; have hfz32_1 := blk_frozen BK248.out 1; have hfz32_2 := blk_frozen BK248.out 2; have hfz32_3 := blk_frozen BK248.out 3; have hfz32_4 := blk_frozen BK248.out 4; have hfz32_5 := blk_frozen BK248.out 5; have hfz32_6 := blk_frozen BK248.out 6) | ((with_reducible refine gate_callee (f := 28) rfl ?_); refine goesL_ (some 38) rfl rfl Try.func28 (by kernel_rfl) rfl #[.agg #[.string t238, .slice Ao14 t251.length co14, .int .i64 t242, .string t243, .string t244, .bool t245, .int .i64 t246], .int .i64 1] rfl (by (try simp only [List.map_toArray, List.map_cons, List.map_nil]); first | done | (rw [show t251.length = t239.length from (Kd.R_reads' HO_249001.out).1.symm] <;> rfl) | rfl | (simp only [List.length_drop, List.length_take]; rfl)) ?_; (with_reducible refine (laws_heldIssuer.calls kj4 t238 _ _ t251 t242 t243 t244 t245 t246 1 t252 _ ?side1 ?side2 A27.out).mono ?_); (case side1 => repeat (first | exact (Kd.R_reads' HO_249001.out).2.2 | (with_reducible refine Kd.C_alloc ?_ _) | (with_reducible refine Kd.C_drewN ?_ _) | (with_reducible refine Kd.C_drew ?_))); (case side2 => rw [show t251.length = t239.length from (Kd.R_reads' HO_249001.out).1.symm]; exact (Kd.R_reads' HO_249001.out).2.1); rintro e w33 ⟨rfl, hb⟩; refine ⟨_, rfl, ?_⟩; have n0_ := Aside0.mk (Kd.R_below (by (with_reducible repeat (first | apply Kd.R_alloc | apply Kd.R_drewN | apply Kd.R_drew)); exact HO_238001.out) hb); have n1_ := Aside0.mk (Kd.R_below (by (with_reducible repeat (first | apply Kd.R_alloc | apply Kd.R_drewN | apply Kd.R_drew)); exact HO_249001.out) hb); have n2_ := Aside0.mk (blk_below (g := gb237) (o := .cells #[.string t227, .slice Ao9 t228.length co9, .int .i64 t231, .string t232, .string t233, .bool t234, .int .i64 t235] 42 (0, 0)) (by (with_reducible repeat (first | refine blk_drewN ?_ _ | refine blk_drew ?_ | refine blk_alloc ?_ _)); exact BK237.out) hb); have n3_ := Aside0.mk (blk_below (g := gb248) (o := .cells #[.string t238, .slice Ao14 t239.length co14, .int .i64 t242, .string t243, .string t244, .bool t245, .int .i64 t246] 42 (0, 0)) (by (with_reducible repeat (first | refine blk_drewN ?_ _ | refine blk_drew ?_ | refine blk_alloc ?_ _)); exact BK248.out) hb); have n4_ := Aside0.mk (below_step (by repeat (first | (with_reducible first | exact HB.out | apply below_alloc | apply pw_below_drewN | apply below_drew1 | refine below_set ?_ GE237.out | refine below_set ?_ GE248.out) | exact HB.out)) hb); clear HO_238001; clear HO_249001; clear BK237; clear BK248; clear HB; have HO_238001 := n0_; have HO_249001 := n1_; have BK237 := n2_; have BK248 := n3_; have HB := n4_; clear n0_ n1_ n2_ n3_ n4_; (try clear hb); (try clear hb2); (try clear hk); (try clear hi)))
            go_ret
            exact ⟨by first | rfl | (simp [errW_none, errW_some] <;> rfl) | (simp [*, errW_none, errW_some] <;> rfl), by repeat (first | (with_reducible first | exact HB.out | apply below_alloc | apply pw_below_drewN | apply below_drew1 | refine below_set ?_ GE237.out | refine below_set ?_ GE248.out) | exact HB.out)⟩
          · rw [if_neg c28] at H
            have c28b0 : decide (t252 < 0) = false := decide_eq_false c28
            clear c28
            by_cases c34 : t252 = t250
            · rw [if_pos c34] at H
              have c34b0 : (t252 == t250) = true := beq_iff_eq.mpr c34
              have c34b1 : (t252 != t250) = false := bne_eq_false_iff_eq.mpr c34
              clear c34
              replace H := Option.bind_eq_some_iff.mp H
              obtain ⟨⟨t253, t254, t257, t258, t259, t260, t261, t262⟩, A350, H⟩ := H
              replace H : ((laws_eqIssuer.f kj4 t253 t254 t257 t258 t259 t260 t261 t227 t228 t231 t232 t233 t234 t235).bind fun t264 => (if t264 = true then (laws_FnExactNewIssuer.j1 kj4 t250 (t262 != t236) t238 t251 t242 t243 t244 t245 t246) else (laws_FnExactNewIssuer.j1 kj4 t250 true t238 t251 t242 t243 t244 t245 t246))) = some r := H
              have A35 := Aside0.mk A350
              clear A350
              have HC36 := Aside0.mk H
              clear H
              have hnb37 := NB248_237.out
              have hnc37 := NB237_248.out
              have hcz38_0 : wc.cell? ⟨gb248, 0, none⟩ = some (.string t238) := (blk_cell BK248.out 0).trans rfl
              have hcz38_1 : wc.cell? ⟨gb248, 1, none⟩ = some (.slice Ao14 t239.length co14) := (blk_cell BK248.out 1).trans rfl
              have hcz38_2 : wc.cell? ⟨gb248, 2, none⟩ = some (.int .i64 t242) := (blk_cell BK248.out 2).trans rfl
              have hcz38_3 : wc.cell? ⟨gb248, 3, none⟩ = some (.string t243) := (blk_cell BK248.out 3).trans rfl
              have hcz38_4 : wc.cell? ⟨gb248, 4, none⟩ = some (.string t244) := (blk_cell BK248.out 4).trans rfl
              have hcz38_5 : wc.cell? ⟨gb248, 5, none⟩ = some (.bool t245) := (blk_cell BK248.out 5).trans rfl
              have hcz38_6 : wc.cell? ⟨gb248, 6, none⟩ = some (.int .i64 t246) := (blk_cell BK248.out 6).trans rfl
              have hfz38_0 := blk_frozen BK248.out 0
              have hfz38_1 := blk_frozen BK248.out 1
              have hfz38_2 := blk_frozen BK248.out 2
              have hfz38_3 := blk_frozen BK248.out 3
              have hfz38_4 := blk_frozen BK248.out 4
              have hfz38_5 := blk_frozen BK248.out 5
              have hfz38_6 := blk_frozen BK248.out 6
              go_upto_region 16 with (first | ((with_reducible refine gate_callee (f := 27) rfl ?_); refine goesL_ (some 35) rfl rfl Try.func27 (by kernel_rfl) rfl #[.agg #[.string t238, .slice Ao14 t239.length co14, .int .i64 t242, .string t243, .string t244, .bool t245, .int .i64 t246], .int .i64 1] rfl (by (try simp only [List.map_toArray, List.map_cons, List.map_nil]); first | done | rfl | (simp only [List.length_drop, List.length_take]; rfl)) ?_; (with_reducible refine (laws_markIssuer.calls kj4 t238 (fun k_ => some k_ = (.slice Ao14 t239.length co14 : Value).ownBlock) (.slice Ao14 t239.length co14) t239 t242 t243 t244 t245 t246 1 t250 t251 w _ ?side1 ?side2 A26.out).mono ?_); (case side1 => repeat (first | (with_reducible first | exact HB.out | apply below_alloc | apply pw_below_drewN | apply below_drew1 | refine below_set ?_ GE237.out | refine below_set ?_ GE248.out) | exact HB.out)); (case side2 => exact Kd.R_tight rfl HO_249001.out); rintro e w39 ⟨rfl, hy0, hb, hkp⟩; refine ⟨_, rfl, ?_⟩; have n0_ := Aside0.mk (Kd.R_mono (ok' := fun k_ => some k_ ≠ (.slice Ao14 t239.length co14 : Value).ownBlock) (Kd.R_keptB (HO_238001.out) hkp (fun k_ hk_ hs_ => (hk_) hs_)) (fun k_ hk_ => hk_.1)); have n1_ := Aside0.mk (Kd.R_reok rfl hy0 (fun k_ e_ => HO_249001.out.1 k_ e_)); have n2_ := Aside0.mk (blk_kept (by (with_reducible repeat (first | refine blk_drewN ?_ _ | refine blk_drew ?_ | refine blk_alloc ?_ _)); exact BK237.out) hkp (fun hs_ => (fun e_ => (Kd.R_ne HO_249001.out BK237.out (by decide)) e_) hs_)); have n3_ := Aside0.mk (blk_kept (by (with_reducible repeat (first | refine blk_drewN ?_ _ | refine blk_drew ?_ | refine blk_alloc ?_ _)); exact BK248.out) hkp (fun hs_ => (fun e_ => (Kd.R_ne HO_249001.out BK248.out (by decide)) e_) hs_)); have n4_ := Aside0.mk (hb); clear HO_238001; clear HO_249001; clear BK237; clear BK248; clear HB; have HO_238001 := n0_; have HO_249001 := n1_; have BK237 := n2_; have BK248 := n3_; have HB := n4_; clear n0_ n1_ n2_ n3_ n4_; (try clear hb); (try clear hkp); (try clear hy0); have hcz40_0 : w39.cell? ⟨gb248, 0, none⟩ = some (.string t238) := (blk_cell BK248.out 0).trans rfl; have hcz40_1 : w39.cell? ⟨gb248, 1, none⟩ = some (.slice Ao14 t239.length co14) := (blk_cell BK248.out 1).trans rfl; have hcz40_2 : w39.cell? ⟨gb248, 2, none⟩ = some (.int .i64 t242) := (blk_cell BK248.out 2).trans rfl; have hcz40_3 : w39.cell? ⟨gb248, 3, none⟩ = some (.string t243) := (blk_cell BK248.out 3).trans rfl; have hcz40_4 : w39.cell? ⟨gb248, 4, none⟩ = some (.string t244) := (blk_cell BK248.out 4).trans rfl; have hcz40_5 : w39.cell? ⟨gb248, 5, none⟩ = some (.bool t245) := (blk_cell BK248.out 5).trans rfl; have hcz40_6 : w39.cell? ⟨gb248, 6, none⟩ = some (.int .i64 t246) := (blk_cell BK248.out 6).trans rfl; have hfz40_0 := blk_frozen BK248.out 0; have hfz40_1 := blk_frozen BK248.out 1; have hfz40_2 := blk_frozen BK248.out 2; have hfz40_3 := blk_frozen BK248.out 3; have hfz40_4 := blk_frozen BK248.out 4; have hfz40_5 := blk_frozen BK248.out 5; have hfz40_6 := blk_frozen BK248.out 6) | ((with_reducible refine gate_callee (f := 28) rfl ?_); refine goesL_ (some 38) rfl rfl Try.func28 (by kernel_rfl) rfl #[.agg #[.string t238, .slice Ao14 t251.length co14, .int .i64 t242, .string t243, .string t244, .bool t245, .int .i64 t246], .int .i64 1] rfl (by (try simp only [List.map_toArray, List.map_cons, List.map_nil]); first | done | (rw [show t251.length = t239.length from (Kd.R_reads' HO_249001.out).1.symm] <;> rfl) | rfl | (simp only [List.length_drop, List.length_take]; rfl)) ?_; (with_reducible refine (laws_heldIssuer.calls kj4 t238 _ _ t251 t242 t243 t244 t245 t246 1 t252 _ ?side1 ?side2 A27.out).mono ?_); (case side1 => repeat (first | exact (Kd.R_reads' HO_249001.out).2.2 | (with_reducible refine Kd.C_alloc ?_ _) | (with_reducible refine Kd.C_drewN ?_ _) | (with_reducible refine Kd.C_drew ?_))); (case side2 => rw [show t251.length = t239.length from (Kd.R_reads' HO_249001.out).1.symm]; exact (Kd.R_reads' HO_249001.out).2.1); rintro e w41 ⟨rfl, hb⟩; refine ⟨_, rfl, ?_⟩; have n0_ := Aside0.mk (Kd.R_below (by (with_reducible repeat (first | apply Kd.R_alloc | apply Kd.R_drewN | apply Kd.R_drew)); exact HO_238001.out) hb); have n1_ := Aside0.mk (Kd.R_below (by (with_reducible repeat (first | apply Kd.R_alloc | apply Kd.R_drewN | apply Kd.R_drew)); exact HO_249001.out) hb); have n2_ := Aside0.mk (blk_below (g := gb237) (o := .cells #[.string t227, .slice Ao9 t228.length co9, .int .i64 t231, .string t232, .string t233, .bool t234, .int .i64 t235] 42 (0, 0)) (by (with_reducible repeat (first | refine blk_drewN ?_ _ | refine blk_drew ?_ | refine blk_alloc ?_ _)); exact BK237.out) hb); have n3_ := Aside0.mk (blk_below (g := gb248) (o := .cells #[.string t238, .slice Ao14 t239.length co14, .int .i64 t242, .string t243, .string t244, .bool t245, .int .i64 t246] 42 (0, 0)) (by (with_reducible repeat (first | refine blk_drewN ?_ _ | refine blk_drew ?_ | refine blk_alloc ?_ _)); exact BK248.out) hb); have n4_ := Aside0.mk (below_step (by repeat (first | (with_reducible first | exact HB.out | apply below_alloc | apply pw_below_drewN | apply below_drew1 | refine below_set ?_ GE237.out | refine below_set ?_ GE248.out) | exact HB.out)) hb); clear HO_238001; clear HO_249001; clear BK237; clear BK248; clear HB; have HO_238001 := n0_; have HO_249001 := n1_; have BK237 := n2_; have BK248 := n3_; have HB := n4_; clear n0_ n1_ n2_ n3_ n4_; (try clear hb); (try clear hb2); (try clear hk); (try clear hi)) | ((with_reducible refine gate_callee (f := 25) rfl ?_); refine goesL_ (some 46) rfl rfl Try.func25 (by kernel_rfl) rfl #[.string a0] rfl (by (try simp only [List.map_toArray, List.map_cons, List.map_nil]); first | done | rfl | (simp only [List.length_drop, List.length_take]; rfl)) ?_; (with_reducible refine (impl_NewIssuer.calls a0 t253 t254 t257 t258 t259 t260 t261 t262 _ A35.out).mono ?_); rintro e w42 ⟨v255, rfl, ho0, hb⟩; refine ⟨_, rfl, ?_⟩; have n0_ := Aside0.mk (Kd.R_elder' (by (with_reducible repeat (first | apply Kd.R_alloc | apply Kd.R_drewN | apply Kd.R_drew)); exact HO_238001.out) (Kd.R_base ho0) hb); have n1_ := Aside0.mk (Kd.R_elder' (by (with_reducible repeat (first | apply Kd.R_alloc | apply Kd.R_drewN | apply Kd.R_drew)); exact HO_249001.out) (Kd.R_base ho0) hb); have n2_ := Aside0.mk (Kd.R_lower (Kd.R_new' (Kd.R_new' ho0 (Kd.R_lt (by (with_reducible repeat (first | apply Kd.R_alloc | apply Kd.R_drewN | apply Kd.R_drew)); exact HO_238001.out))) (Kd.R_lt (by (with_reducible repeat (first | apply Kd.R_alloc | apply Kd.R_drewN | apply Kd.R_drew)); exact HO_249001.out))) (below_size (by repeat (first | (with_reducible first | exact HB.out | apply below_alloc | apply pw_below_drewN | apply below_drew1 | refine below_set ?_ GE237.out | refine below_set ?_ GE248.out) | exact HB.out)))); have n3_ := Aside0.mk (blk_below (g := gb237) (o := .cells #[.string t227, .slice Ao9 t228.length co9, .int .i64 t231, .string t232, .string t233, .bool t234, .int .i64 t235] 42 (0, 0)) (by (with_reducible repeat (first | refine blk_drewN ?_ _ | refine blk_drew ?_ | refine blk_alloc ?_ _)); exact BK237.out) hb); have n4_ := Aside0.mk (blk_below (g := gb248) (o := .cells #[.string t238, .slice Ao14 t239.length co14, .int .i64 t242, .string t243, .string t244, .bool t245, .int .i64 t246] 42 (0, 0)) (by (with_reducible repeat (first | refine blk_drewN ?_ _ | refine blk_drew ?_ | refine blk_alloc ?_ _)); exact BK248.out) hb); have n5_ := Aside0.mk (below_step (by repeat (first | (with_reducible first | exact HB.out | apply below_alloc | apply pw_below_drewN | apply below_drew1 | refine below_set ?_ GE237.out | refine below_set ?_ GE248.out) | exact HB.out)) hb); clear HO_238001; clear HO_249001; clear BK237; clear BK248; clear HB; have HO_238001 := n0_; have HO_249001 := n1_; have HO256 := n2_; have BK237 := n3_; have BK248 := n4_; have HB := n5_; clear n0_ n1_ n2_ n3_ n4_ n5_; (try clear hb); (try clear hb2); (try clear hk); (try clear hi); (try clear ho0)) | ((with_reducible refine gate_dst (N := 9) rfl ?_); refine box_event ?hg (N := 9) ?hd (cs := #[.string (⟨#[]⟩ : ByteArray), .slice none 0 0, .int .i64 0, .string (⟨#[]⟩ : ByteArray), .string (⟨#[]⟩ : ByteArray), .bool false, .int .i64 0]) (t := 42) ?hr ?_; (case hd => rfl); (case hg => rfl); (case hr => first | (go_simp; done) | (go_simp; rfl)); intro gb263 hg w43 hbox hb; have n0_ := Aside0.mk (Kd.R_below (by (with_reducible repeat (first | apply Kd.R_alloc | apply Kd.R_drewN | apply Kd.R_drew)); exact HO_238001.out) hb); have n1_ := Aside0.mk (Kd.R_below (by (with_reducible repeat (first | apply Kd.R_alloc | apply Kd.R_drewN | apply Kd.R_drew)); exact HO_249001.out) hb); have n2_ := Aside0.mk (Kd.R_below (by (with_reducible repeat (first | apply Kd.R_alloc | apply Kd.R_drewN | apply Kd.R_drew)); exact HO256.out) hb); have n3_ := Aside0.mk (blk_below (g := gb237) (o := .cells #[.string t227, .slice Ao9 t228.length co9, .int .i64 t231, .string t232, .string t233, .bool t234, .int .i64 t235] 42 (0, 0)) (by (with_reducible repeat (first | refine blk_drewN ?_ _ | refine blk_drew ?_ | refine blk_alloc ?_ _)); exact BK237.out) hb); have n4_ := Aside0.mk (blk_below (g := gb248) (o := .cells #[.string t238, .slice Ao14 t239.length co14, .int .i64 t242, .string t243, .string t244, .bool t245, .int .i64 t246] 42 (0, 0)) (by (with_reducible repeat (first | refine blk_drewN ?_ _ | refine blk_drew ?_ | refine blk_alloc ?_ _)); exact BK248.out) hb); have n5_ := Aside0.mk (below_step (by repeat (first | (with_reducible first | exact HB.out | apply below_alloc | apply pw_below_drewN | apply below_drew1 | refine below_set ?_ GE237.out | refine below_set ?_ GE248.out) | exact HB.out)) hb); have n6_ := Aside0.mk (hbox); have n7_ := Aside0.mk ((by rw [hg]; exact (below_size (by repeat (first | (with_reducible first | exact HB.out | apply below_alloc | apply pw_below_drewN | apply below_drew1 | refine below_set ?_ GE237.out | refine below_set ?_ GE248.out) | exact HB.out))) : w.heap.size ≤ gb263)); have n8_ := Aside0.mk ((by rw [hg]; exact (below_size (by repeat (first | (with_reducible first | exact HB.out | apply below_alloc | apply pw_below_drewN | apply below_drew1 | refine below_set ?_ GE237.out | refine below_set ?_ GE248.out) | exact HB.out))) : w.heap.size ≤ gb263)); have n9_ := Aside0.mk ((by rw [hg]; exact Nat.ne_of_lt (blk_lt (g := gb237) (o := .cells #[.string t227, .slice Ao9 t228.length co9, .int .i64 t231, .string t232, .string t233, .bool t234, .int .i64 t235] 42 (0, 0)) (by (with_reducible repeat (first | refine blk_drewN ?_ _ | refine blk_drew ?_ | refine blk_alloc ?_ _)); exact BK237.out)) : gb237 ≠ gb263)); have n10_ := Aside0.mk ((by rw [hg]; exact Nat.ne_of_gt (blk_lt (g := gb237) (o := .cells #[.string t227, .slice Ao9 t228.length co9, .int .i64 t231, .string t232, .string t233, .bool t234, .int .i64 t235] 42 (0, 0)) (by (with_reducible repeat (first | refine blk_drewN ?_ _ | refine blk_drew ?_ | refine blk_alloc ?_ _)); exact BK237.out)) : gb263 ≠ gb237)); have n11_ := Aside0.mk ((by rw [hg]; exact Nat.ne_of_lt (blk_lt (g := gb248) (o := .cells #[.string t238, .slice Ao14 t239.length co14, .int .i64 t242, .string t243, .string t244, .bool t245, .int .i64 t246] 42 (0, 0)) (by (with_reducible repeat (first | refine blk_drewN ?_ _ | refine blk_drew ?_ | refine blk_alloc ?_ _)); exact BK248.out)) : gb248 ≠ gb263)); have n12_ := Aside0.mk ((by rw [hg]; exact Nat.ne_of_gt (blk_lt (g := gb248) (o := .cells #[.string t238, .slice Ao14 t239.length co14, .int .i64 t242, .string t243, .string t244, .bool t245, .int .i64 t246] 42 (0, 0)) (by (with_reducible repeat (first | refine blk_drewN ?_ _ | refine blk_drew ?_ | refine blk_alloc ?_ _)); exact BK248.out)) : gb263 ≠ gb248)); clear HO_238001; clear HO_249001; clear HO256; clear BK237; clear BK248; clear HB; have HO_238001 := n0_; have HO_249001 := n1_; have HO256 := n2_; have BK237 := n3_; have BK248 := n4_; have HB := n5_; have BK263 := n6_; have GW263 := n7_; have GE263 := n8_; have NB237_263 := n9_; have NB263_237 := n10_; have NB248_263 := n11_; have NB263_248 := n12_; clear n0_ n1_ n2_ n3_ n4_ n5_ n6_ n7_ n8_ n9_ n10_ n11_ n12_; clear hb hbox hg; have hnb44 := NB263_237.out; have hnc44 := NB237_263.out; have hnb45 := NB263_248.out; have hnc45 := NB248_263.out; have hcz46_0 : w43.cell? ⟨gb263, 0, none⟩ = some (.string (⟨#[]⟩ : ByteArray)) := (blk_cell BK263.out 0).trans rfl; have hcz46_1 : w43.cell? ⟨gb263, 1, none⟩ = some (.slice none 0 0) := (blk_cell BK263.out 1).trans rfl; have hcz46_2 : w43.cell? ⟨gb263, 2, none⟩ = some (.int .i64 0) := (blk_cell BK263.out 2).trans rfl; have hcz46_3 : w43.cell? ⟨gb263, 3, none⟩ = some (.string (⟨#[]⟩ : ByteArray)) := (blk_cell BK263.out 3).trans rfl; have hcz46_4 : w43.cell? ⟨gb263, 4, none⟩ = some (.string (⟨#[]⟩ : ByteArray)) := (blk_cell BK263.out 4).trans rfl; have hcz46_5 : w43.cell? ⟨gb263, 5, none⟩ = some (.bool false) := (blk_cell BK263.out 5).trans rfl; have hcz46_6 : w43.cell? ⟨gb263, 6, none⟩ = some (.int .i64 0) := (blk_cell BK263.out 6).trans rfl; have hfz46_0 := blk_frozen BK263.out 0; have hfz46_1 := blk_frozen BK263.out 1; have hfz46_2 := blk_frozen BK263.out 2; have hfz46_3 := blk_frozen BK263.out 3; have hfz46_4 := blk_frozen BK263.out 4; have hfz46_5 := blk_frozen BK263.out 5; have hfz46_6 := blk_frozen BK263.out 6; obtain ⟨Ao47, co47, eo47⟩ := Kd.R_slice HO256.out; subst eo47))
              (try simp only [Act.put, List.setIfInBounds_toArray, List.set_cons_zero, List.set_cons_succ])
              go_cut [57] (fun v57 wc => ∃ (kq : Nat) (x57_35 : Bool), v57 = .bool x57_35 ∧ Aside0 (laws_FnExactNewIssuer.j1 kq t250 x57_35 t238 t251 t242 t243 t244 t245 t246 = some r) ∧ Aside0 (kq ≤ kj4) ∧ Aside0 (Kd.R Kd.bool 4 wc w.heap.size (fun k_ => some k_ ≠ ((.slice Ao14 t239.length co14) : Value).ownBlock ∧ some k_ ≠ ((.slice Ao47 t254.length co47) : Value).ownBlock) (.slice Ao9 t228.length co9) t228) ∧ Aside0 (Kd.R Kd.bool 4 wc w.heap.size (fun k_ => some k_ ≠ ((.slice Ao9 t228.length co9) : Value).ownBlock ∧ some k_ ≠ ((.slice Ao47 t254.length co47) : Value).ownBlock) (.slice Ao14 t239.length co14) t251) ∧ Aside0 (Kd.R Kd.bool 4 wc w.heap.size (fun k_ => some k_ ≠ ((.slice Ao9 t228.length co9) : Value).ownBlock ∧ some k_ ≠ ((.slice Ao14 t239.length co14) : Value).ownBlock) (.slice Ao47 t254.length co47) t254) ∧ Aside0 (wc.heap[gb237]? = some (.cells #[.string t227, (.slice Ao9 t228.length co9), .int .i64 t231, .string t232, .string t233, .bool t234, .int .i64 t235] 42 (0, 0))) ∧ Aside0 (wc.heap[gb248]? = some (.cells #[.string t238, (.slice Ao14 t239.length co14), .int .i64 t242, .string t243, .string t244, .bool t245, .int .i64 t246] 42 (0, 0))) ∧ Aside0 (wc.heap[gb263]? = some (.cells #[.string t253, (.slice Ao47 t254.length co47), .int .i64 t257, .string t258, .string t259, .bool t260, .int .i64 t261] 42 (0, 0))) ∧ Aside0 (Below w.heap.size w wc))
              case first =>
                have H := HC36.out
                clear HC36
                replace H := Option.bind_eq_some_iff.mp H
                obtain ⟨t264, A480, H⟩ := H
                replace H : (if t264 = true then (laws_FnExactNewIssuer.j1 kj4 t250 (t262 != t236) t238 t251 t242 t243 t244 t245 t246) else (laws_FnExactNewIssuer.j1 kj4 t250 true t238 t251 t242 t243 t244 t245 t246)) = some r := H
                have A48 := Aside0.mk A480
                clear A480
                by_cases c49 : t264 = true
                · subst c49
                  have H1 : (laws_FnExactNewIssuer.j1 kj4 t250 (t262 != t236) t238 t251 t242 t243 t244 t245 t246) = some r := by rw [if_pos rfl] at H; exact H
                  clear H
                  have H := H1
                  clear H1
                  have H' := Aside0.mk H
                  clear H
                  have hnb50 := NB263_237.out
                  have hnc50 := NB237_263.out
                  have hnb51 := NB263_248.out
                  have hnc51 := NB248_263.out
                  have hcz52_0 : w43.cell? ⟨gb263, 0, none⟩ = some (.string (⟨#[]⟩ : ByteArray)) := (blk_cell BK263.out 0).trans rfl
                  have hcz52_1 : w43.cell? ⟨gb263, 1, none⟩ = some (.slice none 0 0) := (blk_cell BK263.out 1).trans rfl
                  have hcz52_2 : w43.cell? ⟨gb263, 2, none⟩ = some (.int .i64 0) := (blk_cell BK263.out 2).trans rfl
                  have hcz52_3 : w43.cell? ⟨gb263, 3, none⟩ = some (.string (⟨#[]⟩ : ByteArray)) := (blk_cell BK263.out 3).trans rfl
                  have hcz52_4 : w43.cell? ⟨gb263, 4, none⟩ = some (.string (⟨#[]⟩ : ByteArray)) := (blk_cell BK263.out 4).trans rfl
                  have hcz52_5 : w43.cell? ⟨gb263, 5, none⟩ = some (.bool false) := (blk_cell BK263.out 5).trans rfl
                  have hcz52_6 : w43.cell? ⟨gb263, 6, none⟩ = some (.int .i64 0) := (blk_cell BK263.out 6).trans rfl
                  have hfz52_0 := blk_frozen BK263.out 0
                  have hfz52_1 := blk_frozen BK263.out 1
                  have hfz52_2 := blk_frozen BK263.out 2
                  have hfz52_3 := blk_frozen BK263.out 3
                  have hfz52_4 := blk_frozen BK263.out 4
                  have hfz52_5 := blk_frozen BK263.out 5
                  have hfz52_6 := blk_frozen BK263.out 6
                  have hnb53 := NB237_248.out
                  have hnc53 := NB248_237.out
                  have hcz54_0 : w43.cell? ⟨gb237, 0, none⟩ = some (.string t227) := (blk_cell BK237.out 0).trans rfl
                  have hcz54_1 : w43.cell? ⟨gb237, 1, none⟩ = some (.slice Ao9 t228.length co9) := (blk_cell BK237.out 1).trans rfl
                  have hcz54_2 : w43.cell? ⟨gb237, 2, none⟩ = some (.int .i64 t231) := (blk_cell BK237.out 2).trans rfl
                  have hcz54_3 : w43.cell? ⟨gb237, 3, none⟩ = some (.string t232) := (blk_cell BK237.out 3).trans rfl
                  have hcz54_4 : w43.cell? ⟨gb237, 4, none⟩ = some (.string t233) := (blk_cell BK237.out 4).trans rfl
                  have hcz54_5 : w43.cell? ⟨gb237, 5, none⟩ = some (.bool t234) := (blk_cell BK237.out 5).trans rfl
                  have hcz54_6 : w43.cell? ⟨gb237, 6, none⟩ = some (.int .i64 t235) := (blk_cell BK237.out 6).trans rfl
                  have hfz54_0 := blk_frozen BK237.out 0
                  have hfz54_1 := blk_frozen BK237.out 1
                  have hfz54_2 := blk_frozen BK237.out 2
                  have hfz54_3 := blk_frozen BK237.out 3
                  have hfz54_4 := blk_frozen BK237.out 4
                  have hfz54_5 := blk_frozen BK237.out 5
                  have hfz54_6 := blk_frozen BK237.out 6
                  go_wp2_with (first | ((with_reducible refine gate_callee (f := 26) rfl ?_); refine goesL_ (some 51) rfl rfl Try.func26 (by kernel_rfl) rfl #[.agg #[.string t253, .slice Ao47 t254.length co47, .int .i64 t257, .string t258, .string t259, .bool t260, .int .i64 t261], .agg #[.string t227, .slice Ao9 t228.length co9, .int .i64 t231, .string t232, .string t233, .bool t234, .int .i64 t235]] rfl (by (try simp only [List.map_toArray, List.map_cons, List.map_nil]); first | done | rfl | (simp only [List.length_drop, List.length_take]; rfl)) ?_; (with_reducible refine (laws_eqIssuer.calls kj4 t253 _ _ t254 t257 t258 t259 t260 t261 t227 _ _ t228 t231 t232 t233 t234 t235 true _ ?side1 ?side2 ?side3 ?side4 A48.out).mono ?_); (case side1 => refine (Kd.R_reads' (e := 4) (base := w.heap.size) (ok := fun k_ => ((True ∧ some k_ ≠ (.slice Ao9 t228.length co9 : Value).ownBlock) ∧ some k_ ≠ (.slice Ao14 t239.length co14 : Value).ownBlock)) (n := t254.length) (c := co47) ?_).2.2; exact (by (with_reducible repeat (first | apply Kd.R_alloc | apply Kd.R_drewN | apply Kd.R_drew)); exact (Kd.R_mono (Kd.R_far (p := ⟨gb263, 6, none⟩) (Kd.R_far (p := ⟨gb263, 5, none⟩) (Kd.R_far (p := ⟨gb263, 4, none⟩) (Kd.R_far (p := ⟨gb263, 3, none⟩) (Kd.R_far (p := ⟨gb263, 2, none⟩) (Kd.R_far (p := ⟨gb263, 1, none⟩) (Kd.R_far (p := ⟨gb263, 0, none⟩) (Kd.R_types HO256.out BK263.out (by decide)) (fun _ hk => hk.2) (.string t253)) (fun _ hk => hk.2) (.slice Ao47 t254.length co47)) (fun _ hk => hk.2) (.int .i64 t257)) (fun _ hk => hk.2) (.string t258)) (fun _ hk => hk.2) (.string t259)) (fun _ hk => hk.2) (.bool t260)) (fun _ hk => hk.2) (.int .i64 t261)) (fun _ h_ => h_.1)))); (case side2 => exact (Kd.R_reads' HO256.out).2.1); (case side3 => refine (Kd.R_reads' (e := 4) (base := w.heap.size) (ok := fun k_ => (some k_ ≠ (.slice Ao14 t239.length co14 : Value).ownBlock ∧ some k_ ≠ (.slice Ao47 t254.length co47 : Value).ownBlock)) (n := t228.length) (c := co9) ?_).2.2; exact (by (with_reducible repeat (first | apply Kd.R_alloc | apply Kd.R_drewN | apply Kd.R_drew)); exact (Kd.R_mono (Kd.R_far (p := ⟨gb263, 6, none⟩) (Kd.R_far (p := ⟨gb263, 5, none⟩) (Kd.R_far (p := ⟨gb263, 4, none⟩) (Kd.R_far (p := ⟨gb263, 3, none⟩) (Kd.R_far (p := ⟨gb263, 2, none⟩) (Kd.R_far (p := ⟨gb263, 1, none⟩) (Kd.R_far (p := ⟨gb263, 0, none⟩) (Kd.R_types HO_238001.out BK263.out (by decide)) (fun _ hk => hk.2) (.string t253)) (fun _ hk => hk.2) (.slice Ao47 t254.length co47)) (fun _ hk => hk.2) (.int .i64 t257)) (fun _ hk => hk.2) (.string t258)) (fun _ hk => hk.2) (.string t259)) (fun _ hk => hk.2) (.bool t260)) (fun _ hk => hk.2) (.int .i64 t261)) (fun _ h_ => h_.1)))); (case side4 => exact (Kd.R_reads' HO_238001.out).2.1); rintro e w55 ⟨rfl, hb⟩; refine ⟨_, rfl, ?_⟩; have n0_ := Aside0.mk (Kd.R_below (by (with_reducible repeat (first | apply Kd.R_alloc | apply Kd.R_drewN | apply Kd.R_drew)); exact (Kd.R_mono (Kd.R_far (p := ⟨gb263, 6, none⟩) (Kd.R_far (p := ⟨gb263, 5, none⟩) (Kd.R_far (p := ⟨gb263, 4, none⟩) (Kd.R_far (p := ⟨gb263, 3, none⟩) (Kd.R_far (p := ⟨gb263, 2, none⟩) (Kd.R_far (p := ⟨gb263, 1, none⟩) (Kd.R_far (p := ⟨gb263, 0, none⟩) (Kd.R_types HO_238001.out BK263.out (by decide)) (fun _ hk => hk.2) (.string t253)) (fun _ hk => hk.2) (.slice Ao47 t254.length co47)) (fun _ hk => hk.2) (.int .i64 t257)) (fun _ hk => hk.2) (.string t258)) (fun _ hk => hk.2) (.string t259)) (fun _ hk => hk.2) (.bool t260)) (fun _ hk => hk.2) (.int .i64 t261)) (fun _ h_ => h_.1))) hb); have n1_ := Aside0.mk (Kd.R_below (by (with_reducible repeat (first | apply Kd.R_alloc | apply Kd.R_drewN | apply Kd.R_drew)); exact (Kd.R_mono (Kd.R_far (p := ⟨gb263, 6, none⟩) (Kd.R_far (p := ⟨gb263, 5, none⟩) (Kd.R_far (p := ⟨gb263, 4, none⟩) (Kd.R_far (p := ⟨gb263, 3, none⟩) (Kd.R_far (p := ⟨gb263, 2, none⟩) (Kd.R_far (p := ⟨gb263, 1, none⟩) (Kd.R_far (p := ⟨gb263, 0, none⟩) (Kd.R_types HO_249001.out BK263.out (by decide)) (fun _ hk => hk.2) (.string t253)) (fun _ hk => hk.2) (.slice Ao47 t254.length co47)) (fun _ hk => hk.2) (.int .i64 t257)) (fun _ hk => hk.2) (.string t258)) (fun _ hk => hk.2) (.string t259)) (fun _ hk => hk.2) (.bool t260)) (fun _ hk => hk.2) (.int .i64 t261)) (fun _ h_ => h_.1))) hb); have n2_ := Aside0.mk (Kd.R_below (by (with_reducible repeat (first | apply Kd.R_alloc | apply Kd.R_drewN | apply Kd.R_drew)); exact (Kd.R_mono (Kd.R_far (p := ⟨gb263, 6, none⟩) (Kd.R_far (p := ⟨gb263, 5, none⟩) (Kd.R_far (p := ⟨gb263, 4, none⟩) (Kd.R_far (p := ⟨gb263, 3, none⟩) (Kd.R_far (p := ⟨gb263, 2, none⟩) (Kd.R_far (p := ⟨gb263, 1, none⟩) (Kd.R_far (p := ⟨gb263, 0, none⟩) (Kd.R_types HO256.out BK263.out (by decide)) (fun _ hk => hk.2) (.string t253)) (fun _ hk => hk.2) (.slice Ao47 t254.length co47)) (fun _ hk => hk.2) (.int .i64 t257)) (fun _ hk => hk.2) (.string t258)) (fun _ hk => hk.2) (.string t259)) (fun _ hk => hk.2) (.bool t260)) (fun _ hk => hk.2) (.int .i64 t261)) (fun _ h_ => h_.1))) hb); have n3_ := Aside0.mk (blk_below (g := gb237) (o := .cells #[.string t227, .slice Ao9 t228.length co9, .int .i64 t231, .string t232, .string t233, .bool t234, .int .i64 t235] 42 (0, 0)) (by (with_reducible repeat (first | refine blk_drewN ?_ _ | refine blk_drew ?_ | refine blk_alloc ?_ _)); refine blk_far ?_ NB237_263.out _; (with_reducible repeat (first | refine blk_drewN ?_ _ | refine blk_drew ?_ | refine blk_alloc ?_ _)); refine blk_far ?_ NB237_263.out _; (with_reducible repeat (first | refine blk_drewN ?_ _ | refine blk_drew ?_ | refine blk_alloc ?_ _)); refine blk_far ?_ NB237_263.out _; (with_reducible repeat (first | refine blk_drewN ?_ _ | refine blk_drew ?_ | refine blk_alloc ?_ _)); refine blk_far ?_ NB237_263.out _; (with_reducible repeat (first | refine blk_drewN ?_ _ | refine blk_drew ?_ | refine blk_alloc ?_ _)); refine blk_far ?_ NB237_263.out _; (with_reducible repeat (first | refine blk_drewN ?_ _ | refine blk_drew ?_ | refine blk_alloc ?_ _)); refine blk_far ?_ NB237_263.out _; (with_reducible repeat (first | refine blk_drewN ?_ _ | refine blk_drew ?_ | refine blk_alloc ?_ _)); refine blk_far ?_ NB237_263.out _; (with_reducible repeat (first | refine blk_drewN ?_ _ | refine blk_drew ?_ | refine blk_alloc ?_ _)); exact BK237.out) hb); have n4_ := Aside0.mk (blk_below (g := gb248) (o := .cells #[.string t238, .slice Ao14 t239.length co14, .int .i64 t242, .string t243, .string t244, .bool t245, .int .i64 t246] 42 (0, 0)) (by (with_reducible repeat (first | refine blk_drewN ?_ _ | refine blk_drew ?_ | refine blk_alloc ?_ _)); refine blk_far ?_ NB248_263.out _; (with_reducible repeat (first | refine blk_drewN ?_ _ | refine blk_drew ?_ | refine blk_alloc ?_ _)); refine blk_far ?_ NB248_263.out _; (with_reducible repeat (first | refine blk_drewN ?_ _ | refine blk_drew ?_ | refine blk_alloc ?_ _)); refine blk_far ?_ NB248_263.out _; (with_reducible repeat (first | refine blk_drewN ?_ _ | refine blk_drew ?_ | refine blk_alloc ?_ _)); refine blk_far ?_ NB248_263.out _; (with_reducible repeat (first | refine blk_drewN ?_ _ | refine blk_drew ?_ | refine blk_alloc ?_ _)); refine blk_far ?_ NB248_263.out _; (with_reducible repeat (first | refine blk_drewN ?_ _ | refine blk_drew ?_ | refine blk_alloc ?_ _)); refine blk_far ?_ NB248_263.out _; (with_reducible repeat (first | refine blk_drewN ?_ _ | refine blk_drew ?_ | refine blk_alloc ?_ _)); refine blk_far ?_ NB248_263.out _; (with_reducible repeat (first | refine blk_drewN ?_ _ | refine blk_drew ?_ | refine blk_alloc ?_ _)); exact BK248.out) hb); have n5_ := Aside0.mk (blk_below (g := gb263) (o := .cells #[.string t253, .slice Ao47 t254.length co47, .int .i64 t257, .string t258, .string t259, .bool t260, .int .i64 t261] 42 (0, 0)) (by (with_reducible repeat (first | refine blk_drewN ?_ _ | refine blk_drew ?_ | refine blk_alloc ?_ _)); refine blk_put (cs := #[.string t253, .slice Ao47 t254.length co47, .int .i64 t257, .string t258, .string t259, .bool t260, .int .i64 0]) ?_ 6 _ rfl; (with_reducible repeat (first | refine blk_drewN ?_ _ | refine blk_drew ?_ | refine blk_alloc ?_ _)); refine blk_put (cs := #[.string t253, .slice Ao47 t254.length co47, .int .i64 t257, .string t258, .string t259, .bool false, .int .i64 0]) ?_ 5 _ rfl; (with_reducible repeat (first | refine blk_drewN ?_ _ | refine blk_drew ?_ | refine blk_alloc ?_ _)); refine blk_put (cs := #[.string t253, .slice Ao47 t254.length co47, .int .i64 t257, .string t258, .string (⟨#[]⟩ : ByteArray), .bool false, .int .i64 0]) ?_ 4 _ rfl; (with_reducible repeat (first | refine blk_drewN ?_ _ | refine blk_drew ?_ | refine blk_alloc ?_ _)); refine blk_put (cs := #[.string t253, .slice Ao47 t254.length co47, .int .i64 t257, .string (⟨#[]⟩ : ByteArray), .string (⟨#[]⟩ : ByteArray), .bool false, .int .i64 0]) ?_ 3 _ rfl; (with_reducible repeat (first | refine blk_drewN ?_ _ | refine blk_drew ?_ | refine blk_alloc ?_ _)); refine blk_put (cs := #[.string t253, .slice Ao47 t254.length co47, .int .i64 0, .string (⟨#[]⟩ : ByteArray), .string (⟨#[]⟩ : ByteArray), .bool false, .int .i64 0]) ?_ 2 _ rfl; (with_reducible repeat (first | refine blk_drewN ?_ _ | refine blk_drew ?_ | refine blk_alloc ?_ _)); refine blk_put (cs := #[.string t253, .slice none 0 0, .int .i64 0, .string (⟨#[]⟩ : ByteArray), .string (⟨#[]⟩ : ByteArray), .bool false, .int .i64 0]) ?_ 1 _ rfl; (with_reducible repeat (first | refine blk_drewN ?_ _ | refine blk_drew ?_ | refine blk_alloc ?_ _)); refine blk_put (cs := #[.string (⟨#[]⟩ : ByteArray), .slice none 0 0, .int .i64 0, .string (⟨#[]⟩ : ByteArray), .string (⟨#[]⟩ : ByteArray), .bool false, .int .i64 0]) ?_ 0 _ rfl; (with_reducible repeat (first | refine blk_drewN ?_ _ | refine blk_drew ?_ | refine blk_alloc ?_ _)); exact BK263.out) hb); have n6_ := Aside0.mk (below_step (by repeat (first | (with_reducible first | exact HB.out | apply below_alloc | apply pw_below_drewN | apply below_drew1 | refine below_set ?_ GE237.out | refine below_set ?_ GE248.out | refine below_set ?_ GE263.out) | exact HB.out)) hb); clear HO_238001; clear HO_249001; clear HO256; clear BK237; clear BK248; clear BK263; clear HB; have HO_238001 := n0_; have HO_249001 := n1_; have HO256 := n2_; have BK237 := n3_; have BK248 := n4_; have BK263 := n5_; have HB := n6_; clear n0_ n1_ n2_ n3_ n4_ n5_ n6_; (try clear hb); (try clear hb2); (try clear hk); (try clear hi)))
                  go_meet
                  case rel => exact ⟨_, ((t262 != t236)), (by first | rfl | (simp; done) | (simp [*]; done)), H', ⟨by have := HJ4.out; first | omega | exact Nat.le_refl _⟩, ⟨by (with_reducible repeat (first | apply Kd.R_alloc | apply Kd.R_drewN | apply Kd.R_drew)); exact HO_238001.out⟩, ⟨by (with_reducible repeat (first | apply Kd.R_alloc | apply Kd.R_drewN | apply Kd.R_drew)); exact HO_249001.out⟩, ⟨by (with_reducible repeat (first | apply Kd.R_alloc | apply Kd.R_drewN | apply Kd.R_drew)); exact Kd.R_mono HO256.out (fun _ hk => ⟨hk.1.2, hk.2⟩)⟩, ⟨by (with_reducible repeat (first | refine blk_drewN ?_ _ | refine blk_drew ?_ | refine blk_alloc ?_ _)); exact BK237.out⟩, ⟨by (with_reducible repeat (first | refine blk_drewN ?_ _ | refine blk_drew ?_ | refine blk_alloc ?_ _)); exact BK248.out⟩, ⟨by (with_reducible repeat (first | refine blk_drewN ?_ _ | refine blk_drew ?_ | refine blk_alloc ?_ _)); exact BK263.out⟩, ⟨by repeat (first | (with_reducible first | exact HB.out | apply below_alloc | apply pw_below_drewN | apply below_drew1 | refine below_set ?_ GE237.out | refine below_set ?_ GE248.out | refine below_set ?_ GE263.out) | exact HB.out)⟩⟩
                · replace c49 := Bool.eq_false_iff.mpr c49
                  subst c49
                  have H1 : (laws_FnExactNewIssuer.j1 kj4 t250 true t238 t251 t242 t243 t244 t245 t246) = some r := by rw [if_neg (show ¬ (false = true) by decide)] at H; exact H
                  clear H
                  have H := H1
                  clear H1
                  have H' := Aside0.mk H
                  clear H
                  have hnb56 := NB263_237.out
                  have hnc56 := NB237_263.out
                  have hnb57 := NB263_248.out
                  have hnc57 := NB248_263.out
                  have hcz58_0 : w43.cell? ⟨gb263, 0, none⟩ = some (.string (⟨#[]⟩ : ByteArray)) := (blk_cell BK263.out 0).trans rfl
                  have hcz58_1 : w43.cell? ⟨gb263, 1, none⟩ = some (.slice none 0 0) := (blk_cell BK263.out 1).trans rfl
                  have hcz58_2 : w43.cell? ⟨gb263, 2, none⟩ = some (.int .i64 0) := (blk_cell BK263.out 2).trans rfl
                  have hcz58_3 : w43.cell? ⟨gb263, 3, none⟩ = some (.string (⟨#[]⟩ : ByteArray)) := (blk_cell BK263.out 3).trans rfl
                  have hcz58_4 : w43.cell? ⟨gb263, 4, none⟩ = some (.string (⟨#[]⟩ : ByteArray)) := (blk_cell BK263.out 4).trans rfl
                  have hcz58_5 : w43.cell? ⟨gb263, 5, none⟩ = some (.bool false) := (blk_cell BK263.out 5).trans rfl
                  have hcz58_6 : w43.cell? ⟨gb263, 6, none⟩ = some (.int .i64 0) := (blk_cell BK263.out 6).trans rfl
                  have hfz58_0 := blk_frozen BK263.out 0
                  have hfz58_1 := blk_frozen BK263.out 1
                  have hfz58_2 := blk_frozen BK263.out 2
                  have hfz58_3 := blk_frozen BK263.out 3
                  have hfz58_4 := blk_frozen BK263.out 4
                  have hfz58_5 := blk_frozen BK263.out 5
                  have hfz58_6 := blk_frozen BK263.out 6
                  have hnb59 := NB237_248.out
                  have hnc59 := NB248_237.out
                  have hcz60_0 : w43.cell? ⟨gb237, 0, none⟩ = some (.string t227) := (blk_cell BK237.out 0).trans rfl
                  have hcz60_1 : w43.cell? ⟨gb237, 1, none⟩ = some (.slice Ao9 t228.length co9) := (blk_cell BK237.out 1).trans rfl
                  have hcz60_2 : w43.cell? ⟨gb237, 2, none⟩ = some (.int .i64 t231) := (blk_cell BK237.out 2).trans rfl
                  have hcz60_3 : w43.cell? ⟨gb237, 3, none⟩ = some (.string t232) := (blk_cell BK237.out 3).trans rfl
                  have hcz60_4 : w43.cell? ⟨gb237, 4, none⟩ = some (.string t233) := (blk_cell BK237.out 4).trans rfl
                  have hcz60_5 : w43.cell? ⟨gb237, 5, none⟩ = some (.bool t234) := (blk_cell BK237.out 5).trans rfl
                  have hcz60_6 : w43.cell? ⟨gb237, 6, none⟩ = some (.int .i64 t235) := (blk_cell BK237.out 6).trans rfl
                  have hfz60_0 := blk_frozen BK237.out 0
                  have hfz60_1 := blk_frozen BK237.out 1
                  have hfz60_2 := blk_frozen BK237.out 2
                  have hfz60_3 := blk_frozen BK237.out 3
                  have hfz60_4 := blk_frozen BK237.out 4
                  have hfz60_5 := blk_frozen BK237.out 5
                  have hfz60_6 := blk_frozen BK237.out 6
                  go_wp2_with (first | ((with_reducible refine gate_callee (f := 26) rfl ?_); refine goesL_ (some 51) rfl rfl Try.func26 (by kernel_rfl) rfl #[.agg #[.string t253, .slice Ao47 t254.length co47, .int .i64 t257, .string t258, .string t259, .bool t260, .int .i64 t261], .agg #[.string t227, .slice Ao9 t228.length co9, .int .i64 t231, .string t232, .string t233, .bool t234, .int .i64 t235]] rfl (by (try simp only [List.map_toArray, List.map_cons, List.map_nil]); first | done | rfl | (simp only [List.length_drop, List.length_take]; rfl)) ?_; (with_reducible refine (laws_eqIssuer.calls kj4 t253 _ _ t254 t257 t258 t259 t260 t261 t227 _ _ t228 t231 t232 t233 t234 t235 false _ ?side1 ?side2 ?side3 ?side4 A48.out).mono ?_); (case side1 => refine (Kd.R_reads' (e := 4) (base := w.heap.size) (ok := fun k_ => ((True ∧ some k_ ≠ (.slice Ao9 t228.length co9 : Value).ownBlock) ∧ some k_ ≠ (.slice Ao14 t239.length co14 : Value).ownBlock)) (n := t254.length) (c := co47) ?_).2.2; exact (by (with_reducible repeat (first | apply Kd.R_alloc | apply Kd.R_drewN | apply Kd.R_drew)); exact (Kd.R_mono (Kd.R_far (p := ⟨gb263, 6, none⟩) (Kd.R_far (p := ⟨gb263, 5, none⟩) (Kd.R_far (p := ⟨gb263, 4, none⟩) (Kd.R_far (p := ⟨gb263, 3, none⟩) (Kd.R_far (p := ⟨gb263, 2, none⟩) (Kd.R_far (p := ⟨gb263, 1, none⟩) (Kd.R_far (p := ⟨gb263, 0, none⟩) (Kd.R_types HO256.out BK263.out (by decide)) (fun _ hk => hk.2) (.string t253)) (fun _ hk => hk.2) (.slice Ao47 t254.length co47)) (fun _ hk => hk.2) (.int .i64 t257)) (fun _ hk => hk.2) (.string t258)) (fun _ hk => hk.2) (.string t259)) (fun _ hk => hk.2) (.bool t260)) (fun _ hk => hk.2) (.int .i64 t261)) (fun _ h_ => h_.1)))); (case side2 => exact (Kd.R_reads' HO256.out).2.1); (case side3 => refine (Kd.R_reads' (e := 4) (base := w.heap.size) (ok := fun k_ => (some k_ ≠ (.slice Ao14 t239.length co14 : Value).ownBlock ∧ some k_ ≠ (.slice Ao47 t254.length co47 : Value).ownBlock)) (n := t228.length) (c := co9) ?_).2.2; exact (by (with_reducible repeat (first | apply Kd.R_alloc | apply Kd.R_drewN | apply Kd.R_drew)); exact (Kd.R_mono (Kd.R_far (p := ⟨gb263, 6, none⟩) (Kd.R_far (p := ⟨gb263, 5, none⟩) (Kd.R_far (p := ⟨gb263, 4, none⟩) (Kd.R_far (p := ⟨gb263, 3, none⟩) (Kd.R_far (p := ⟨gb263, 2, none⟩) (Kd.R_far (p := ⟨gb263, 1, none⟩) (Kd.R_far (p := ⟨gb263, 0, none⟩) (Kd.R_types HO_238001.out BK263.out (by decide)) (fun _ hk => hk.2) (.string t253)) (fun _ hk => hk.2) (.slice Ao47 t254.length co47)) (fun _ hk => hk.2) (.int .i64 t257)) (fun _ hk => hk.2) (.string t258)) (fun _ hk => hk.2) (.string t259)) (fun _ hk => hk.2) (.bool t260)) (fun _ hk => hk.2) (.int .i64 t261)) (fun _ h_ => h_.1)))); (case side4 => exact (Kd.R_reads' HO_238001.out).2.1); rintro e w61 ⟨rfl, hb⟩; refine ⟨_, rfl, ?_⟩; have n0_ := Aside0.mk (Kd.R_below (by (with_reducible repeat (first | apply Kd.R_alloc | apply Kd.R_drewN | apply Kd.R_drew)); exact (Kd.R_mono (Kd.R_far (p := ⟨gb263, 6, none⟩) (Kd.R_far (p := ⟨gb263, 5, none⟩) (Kd.R_far (p := ⟨gb263, 4, none⟩) (Kd.R_far (p := ⟨gb263, 3, none⟩) (Kd.R_far (p := ⟨gb263, 2, none⟩) (Kd.R_far (p := ⟨gb263, 1, none⟩) (Kd.R_far (p := ⟨gb263, 0, none⟩) (Kd.R_types HO_238001.out BK263.out (by decide)) (fun _ hk => hk.2) (.string t253)) (fun _ hk => hk.2) (.slice Ao47 t254.length co47)) (fun _ hk => hk.2) (.int .i64 t257)) (fun _ hk => hk.2) (.string t258)) (fun _ hk => hk.2) (.string t259)) (fun _ hk => hk.2) (.bool t260)) (fun _ hk => hk.2) (.int .i64 t261)) (fun _ h_ => h_.1))) hb); have n1_ := Aside0.mk (Kd.R_below (by (with_reducible repeat (first | apply Kd.R_alloc | apply Kd.R_drewN | apply Kd.R_drew)); exact (Kd.R_mono (Kd.R_far (p := ⟨gb263, 6, none⟩) (Kd.R_far (p := ⟨gb263, 5, none⟩) (Kd.R_far (p := ⟨gb263, 4, none⟩) (Kd.R_far (p := ⟨gb263, 3, none⟩) (Kd.R_far (p := ⟨gb263, 2, none⟩) (Kd.R_far (p := ⟨gb263, 1, none⟩) (Kd.R_far (p := ⟨gb263, 0, none⟩) (Kd.R_types HO_249001.out BK263.out (by decide)) (fun _ hk => hk.2) (.string t253)) (fun _ hk => hk.2) (.slice Ao47 t254.length co47)) (fun _ hk => hk.2) (.int .i64 t257)) (fun _ hk => hk.2) (.string t258)) (fun _ hk => hk.2) (.string t259)) (fun _ hk => hk.2) (.bool t260)) (fun _ hk => hk.2) (.int .i64 t261)) (fun _ h_ => h_.1))) hb); have n2_ := Aside0.mk (Kd.R_below (by (with_reducible repeat (first | apply Kd.R_alloc | apply Kd.R_drewN | apply Kd.R_drew)); exact (Kd.R_mono (Kd.R_far (p := ⟨gb263, 6, none⟩) (Kd.R_far (p := ⟨gb263, 5, none⟩) (Kd.R_far (p := ⟨gb263, 4, none⟩) (Kd.R_far (p := ⟨gb263, 3, none⟩) (Kd.R_far (p := ⟨gb263, 2, none⟩) (Kd.R_far (p := ⟨gb263, 1, none⟩) (Kd.R_far (p := ⟨gb263, 0, none⟩) (Kd.R_types HO256.out BK263.out (by decide)) (fun _ hk => hk.2) (.string t253)) (fun _ hk => hk.2) (.slice Ao47 t254.length co47)) (fun _ hk => hk.2) (.int .i64 t257)) (fun _ hk => hk.2) (.string t258)) (fun _ hk => hk.2) (.string t259)) (fun _ hk => hk.2) (.bool t260)) (fun _ hk => hk.2) (.int .i64 t261)) (fun _ h_ => h_.1))) hb); have n3_ := Aside0.mk (blk_below (g := gb237) (o := .cells #[.string t227, .slice Ao9 t228.length co9, .int .i64 t231, .string t232, .string t233, .bool t234, .int .i64 t235] 42 (0, 0)) (by (with_reducible repeat (first | refine blk_drewN ?_ _ | refine blk_drew ?_ | refine blk_alloc ?_ _)); refine blk_far ?_ NB237_263.out _; (with_reducible repeat (first | refine blk_drewN ?_ _ | refine blk_drew ?_ | refine blk_alloc ?_ _)); refine blk_far ?_ NB237_263.out _; (with_reducible repeat (first | refine blk_drewN ?_ _ | refine blk_drew ?_ | refine blk_alloc ?_ _)); refine blk_far ?_ NB237_263.out _; (with_reducible repeat (first | refine blk_drewN ?_ _ | refine blk_drew ?_ | refine blk_alloc ?_ _)); refine blk_far ?_ NB237_263.out _; (with_reducible repeat (first | refine blk_drewN ?_ _ | refine blk_drew ?_ | refine blk_alloc ?_ _)); refine blk_far ?_ NB237_263.out _; (with_reducible repeat (first | refine blk_drewN ?_ _ | refine blk_drew ?_ | refine blk_alloc ?_ _)); refine blk_far ?_ NB237_263.out _; (with_reducible repeat (first | refine blk_drewN ?_ _ | refine blk_drew ?_ | refine blk_alloc ?_ _)); refine blk_far ?_ NB237_263.out _; (with_reducible repeat (first | refine blk_drewN ?_ _ | refine blk_drew ?_ | refine blk_alloc ?_ _)); exact BK237.out) hb); have n4_ := Aside0.mk (blk_below (g := gb248) (o := .cells #[.string t238, .slice Ao14 t239.length co14, .int .i64 t242, .string t243, .string t244, .bool t245, .int .i64 t246] 42 (0, 0)) (by (with_reducible repeat (first | refine blk_drewN ?_ _ | refine blk_drew ?_ | refine blk_alloc ?_ _)); refine blk_far ?_ NB248_263.out _; (with_reducible repeat (first | refine blk_drewN ?_ _ | refine blk_drew ?_ | refine blk_alloc ?_ _)); refine blk_far ?_ NB248_263.out _; (with_reducible repeat (first | refine blk_drewN ?_ _ | refine blk_drew ?_ | refine blk_alloc ?_ _)); refine blk_far ?_ NB248_263.out _; (with_reducible repeat (first | refine blk_drewN ?_ _ | refine blk_drew ?_ | refine blk_alloc ?_ _)); refine blk_far ?_ NB248_263.out _; (with_reducible repeat (first | refine blk_drewN ?_ _ | refine blk_drew ?_ | refine blk_alloc ?_ _)); refine blk_far ?_ NB248_263.out _; (with_reducible repeat (first | refine blk_drewN ?_ _ | refine blk_drew ?_ | refine blk_alloc ?_ _)); refine blk_far ?_ NB248_263.out _; (with_reducible repeat (first | refine blk_drewN ?_ _ | refine blk_drew ?_ | refine blk_alloc ?_ _)); refine blk_far ?_ NB248_263.out _; (with_reducible repeat (first | refine blk_drewN ?_ _ | refine blk_drew ?_ | refine blk_alloc ?_ _)); exact BK248.out) hb); have n5_ := Aside0.mk (blk_below (g := gb263) (o := .cells #[.string t253, .slice Ao47 t254.length co47, .int .i64 t257, .string t258, .string t259, .bool t260, .int .i64 t261] 42 (0, 0)) (by (with_reducible repeat (first | refine blk_drewN ?_ _ | refine blk_drew ?_ | refine blk_alloc ?_ _)); refine blk_put (cs := #[.string t253, .slice Ao47 t254.length co47, .int .i64 t257, .string t258, .string t259, .bool t260, .int .i64 0]) ?_ 6 _ rfl; (with_reducible repeat (first | refine blk_drewN ?_ _ | refine blk_drew ?_ | refine blk_alloc ?_ _)); refine blk_put (cs := #[.string t253, .slice Ao47 t254.length co47, .int .i64 t257, .string t258, .string t259, .bool false, .int .i64 0]) ?_ 5 _ rfl; (with_reducible repeat (first | refine blk_drewN ?_ _ | refine blk_drew ?_ | refine blk_alloc ?_ _)); refine blk_put (cs := #[.string t253, .slice Ao47 t254.length co47, .int .i64 t257, .string t258, .string (⟨#[]⟩ : ByteArray), .bool false, .int .i64 0]) ?_ 4 _ rfl; (with_reducible repeat (first | refine blk_drewN ?_ _ | refine blk_drew ?_ | refine blk_alloc ?_ _)); refine blk_put (cs := #[.string t253, .slice Ao47 t254.length co47, .int .i64 t257, .string (⟨#[]⟩ : ByteArray), .string (⟨#[]⟩ : ByteArray), .bool false, .int .i64 0]) ?_ 3 _ rfl; (with_reducible repeat (first | refine blk_drewN ?_ _ | refine blk_drew ?_ | refine blk_alloc ?_ _)); refine blk_put (cs := #[.string t253, .slice Ao47 t254.length co47, .int .i64 0, .string (⟨#[]⟩ : ByteArray), .string (⟨#[]⟩ : ByteArray), .bool false, .int .i64 0]) ?_ 2 _ rfl; (with_reducible repeat (first | refine blk_drewN ?_ _ | refine blk_drew ?_ | refine blk_alloc ?_ _)); refine blk_put (cs := #[.string t253, .slice none 0 0, .int .i64 0, .string (⟨#[]⟩ : ByteArray), .string (⟨#[]⟩ : ByteArray), .bool false, .int .i64 0]) ?_ 1 _ rfl; (with_reducible repeat (first | refine blk_drewN ?_ _ | refine blk_drew ?_ | refine blk_alloc ?_ _)); refine blk_put (cs := #[.string (⟨#[]⟩ : ByteArray), .slice none 0 0, .int .i64 0, .string (⟨#[]⟩ : ByteArray), .string (⟨#[]⟩ : ByteArray), .bool false, .int .i64 0]) ?_ 0 _ rfl; (with_reducible repeat (first | refine blk_drewN ?_ _ | refine blk_drew ?_ | refine blk_alloc ?_ _)); exact BK263.out) hb); have n6_ := Aside0.mk (below_step (by repeat (first | (with_reducible first | exact HB.out | apply below_alloc | apply pw_below_drewN | apply below_drew1 | refine below_set ?_ GE237.out | refine below_set ?_ GE248.out | refine below_set ?_ GE263.out) | exact HB.out)) hb); clear HO_238001; clear HO_249001; clear HO256; clear BK237; clear BK248; clear BK263; clear HB; have HO_238001 := n0_; have HO_249001 := n1_; have HO256 := n2_; have BK237 := n3_; have BK248 := n4_; have BK263 := n5_; have HB := n6_; clear n0_ n1_ n2_ n3_ n4_ n5_ n6_; (try clear hb); (try clear hb2); (try clear hk); (try clear hi)))
                  go_meet
                  case rel => exact ⟨_, (true), (by first | rfl | (simp; done) | (simp [*]; done)), H', ⟨by have := HJ4.out; first | omega | exact Nat.le_refl _⟩, ⟨by (with_reducible repeat (first | apply Kd.R_alloc | apply Kd.R_drewN | apply Kd.R_drew)); exact HO_238001.out⟩, ⟨by (with_reducible repeat (first | apply Kd.R_alloc | apply Kd.R_drewN | apply Kd.R_drew)); exact HO_249001.out⟩, ⟨by (with_reducible repeat (first | apply Kd.R_alloc | apply Kd.R_drewN | apply Kd.R_drew)); exact Kd.R_mono HO256.out (fun _ hk => ⟨hk.1.2, hk.2⟩)⟩, ⟨by (with_reducible repeat (first | refine blk_drewN ?_ _ | refine blk_drew ?_ | refine blk_alloc ?_ _)); exact BK237.out⟩, ⟨by (with_reducible repeat (first | refine blk_drewN ?_ _ | refine blk_drew ?_ | refine blk_alloc ?_ _)); exact BK248.out⟩, ⟨by (with_reducible repeat (first | refine blk_drewN ?_ _ | refine blk_drew ?_ | refine blk_alloc ?_ _)); exact BK263.out⟩, ⟨by repeat (first | (with_reducible first | exact HB.out | apply below_alloc | apply pw_below_drewN | apply below_drew1 | refine below_set ?_ GE237.out | refine below_set ?_ GE248.out | refine below_set ?_ GE263.out) | exact HB.out)⟩⟩
              case rest =>
                clear HC36
                try clear c1
                try clear c2
                try clear c2b0
                try clear c2b1
                try clear p2
                try clear c3
                try clear c4
                try clear c5
                try clear c12
                try clear c16
                try clear c17
                try clear c21
                try clear c24
                try clear c25
                try clear c26
                try clear c27
                try clear c28
                try clear c28b0
                try clear c29
                try clear c34
                try clear c34b0
                try clear c34b1
                try clear c37
                try clear c44
                try clear c45
                try clear c49
                try clear c50
                try clear c51
                try clear c53
                try clear c56
                try clear c57
                try clear c59
                try clear hcz13_0
                try clear hcz13_1
                try clear hcz13_2
                try clear hcz13_3
                try clear hcz13_4
                try clear hcz13_5
                try clear hcz13_6
                try clear hcz18_0
                try clear hcz18_1
                try clear hcz18_2
                try clear hcz18_3
                try clear hcz18_4
                try clear hcz18_5
                try clear hcz18_6
                try clear hcz19_0
                try clear hcz19_1
                try clear hcz19_2
                try clear hcz19_3
                try clear hcz19_4
                try clear hcz19_5
                try clear hcz19_6
                try clear hcz22_0
                try clear hcz22_1
                try clear hcz22_2
                try clear hcz22_3
                try clear hcz22_4
                try clear hcz22_5
                try clear hcz22_6
                try clear hcz23_0
                try clear hcz23_1
                try clear hcz23_2
                try clear hcz23_3
                try clear hcz23_4
                try clear hcz23_5
                try clear hcz23_6
                try clear hcz30_0
                try clear hcz30_1
                try clear hcz30_2
                try clear hcz30_3
                try clear hcz30_4
                try clear hcz30_5
                try clear hcz30_6
                try clear hcz32_0
                try clear hcz32_1
                try clear hcz32_2
                try clear hcz32_3
                try clear hcz32_4
                try clear hcz32_5
                try clear hcz32_6
                try clear hcz38_0
                try clear hcz38_1
                try clear hcz38_2
                try clear hcz38_3
                try clear hcz38_4
                try clear hcz38_5
                try clear hcz38_6
                try clear hcz40_0
                try clear hcz40_1
                try clear hcz40_2
                try clear hcz40_3
                try clear hcz40_4
                try clear hcz40_5
                try clear hcz40_6
                try clear hcz46_0
                try clear hcz46_1
                try clear hcz46_2
                try clear hcz46_3
                try clear hcz46_4
                try clear hcz46_5
                try clear hcz46_6
                try clear hcz52_0
                try clear hcz52_1
                try clear hcz52_2
                try clear hcz52_3
                try clear hcz52_4
                try clear hcz52_5
                try clear hcz52_6
                try clear hcz54_0
                try clear hcz54_1
                try clear hcz54_2
                try clear hcz54_3
                try clear hcz54_4
                try clear hcz54_5
                try clear hcz54_6
                try clear hcz58_0
                try clear hcz58_1
                try clear hcz58_2
                try clear hcz58_3
                try clear hcz58_4
                try clear hcz58_5
                try clear hcz58_6
                try clear hcz60_0
                try clear hcz60_1
                try clear hcz60_2
                try clear hcz60_3
                try clear hcz60_4
                try clear hcz60_5
                try clear hcz60_6
                try clear hcz8_0
                try clear hcz8_1
                try clear hcz8_2
                try clear hcz8_3
                try clear hcz8_4
                try clear hcz8_5
                try clear hcz8_6
                try clear hfz13_0
                try clear hfz13_1
                try clear hfz13_2
                try clear hfz13_3
                try clear hfz13_4
                try clear hfz13_5
                try clear hfz13_6
                try clear hfz18_0
                try clear hfz18_1
                try clear hfz18_2
                try clear hfz18_3
                try clear hfz18_4
                try clear hfz18_5
                try clear hfz18_6
                try clear hfz19_0
                try clear hfz19_1
                try clear hfz19_2
                try clear hfz19_3
                try clear hfz19_4
                try clear hfz19_5
                try clear hfz19_6
                try clear hfz22_0
                try clear hfz22_1
                try clear hfz22_2
                try clear hfz22_3
                try clear hfz22_4
                try clear hfz22_5
                try clear hfz22_6
                try clear hfz23_0
                try clear hfz23_1
                try clear hfz23_2
                try clear hfz23_3
                try clear hfz23_4
                try clear hfz23_5
                try clear hfz23_6
                try clear hfz30_0
                try clear hfz30_1
                try clear hfz30_2
                try clear hfz30_3
                try clear hfz30_4
                try clear hfz30_5
                try clear hfz30_6
                try clear hfz32_0
                try clear hfz32_1
                try clear hfz32_2
                try clear hfz32_3
                try clear hfz32_4
                try clear hfz32_5
                try clear hfz32_6
                try clear hfz38_0
                try clear hfz38_1
                try clear hfz38_2
                try clear hfz38_3
                try clear hfz38_4
                try clear hfz38_5
                try clear hfz38_6
                try clear hfz40_0
                try clear hfz40_1
                try clear hfz40_2
                try clear hfz40_3
                try clear hfz40_4
                try clear hfz40_5
                try clear hfz40_6
                try clear hfz46_0
                try clear hfz46_1
                try clear hfz46_2
                try clear hfz46_3
                try clear hfz46_4
                try clear hfz46_5
                try clear hfz46_6
                try clear hfz52_0
                try clear hfz52_1
                try clear hfz52_2
                try clear hfz52_3
                try clear hfz52_4
                try clear hfz52_5
                try clear hfz52_6
                try clear hfz54_0
                try clear hfz54_1
                try clear hfz54_2
                try clear hfz54_3
                try clear hfz54_4
                try clear hfz54_5
                try clear hfz54_6
                try clear hfz58_0
                try clear hfz58_1
                try clear hfz58_2
                try clear hfz58_3
                try clear hfz58_4
                try clear hfz58_5
                try clear hfz58_6
                try clear hfz60_0
                try clear hfz60_1
                try clear hfz60_2
                try clear hfz60_3
                try clear hfz60_4
                try clear hfz60_5
                try clear hfz60_6
                try clear hfz8_0
                try clear hfz8_1
                try clear hfz8_2
                try clear hfz8_3
                try clear hfz8_4
                try clear hfz8_5
                try clear hfz8_6
                try clear p2
                obtain ⟨kq, x57_35, rfl, HA, HJ35, HO_238001, HO_249001, HO_264001, BK237, BK248, BK263, HB⟩ := hcut
                have hl249001_35 := (Kd.R_reads' HO_249001.out).1
                rw [hl249001_35] at HO_249001
                (try simp only [hl249001_35])
                (try simp only [hl249001_35] at BK237)
                (try simp only [hl249001_35] at BK248)
                (try simp only [hl249001_35] at BK263)
                (try simp only [hl249001_35] at HO_238001)
                (try simp only [hl249001_35] at HO_264001)
                cases kq with
                | zero => exact absurd HA.out (by simp [laws_FnExactNewIssuer.j1])
                | succ kj35 =>
                  have H := HA.out
                  clear HA
                  simp only [laws_FnExactNewIssuer.j1] at H
                  by_cases c62 : x57_35 = true
                  · subst c62
                    have H1 : (some false) = some r := by rw [if_pos rfl] at H; exact H
                    clear H
                    have H := H1
                    clear H1
                    obtain rfl := Option.some.inj H
                    go_wp2
                    go_ret
                    exact ⟨by first | rfl | (simp [errW_none, errW_some] <;> rfl) | (simp [*, errW_none, errW_some] <;> rfl), by repeat (first | (with_reducible first | exact HB.out | apply below_alloc | apply pw_below_drewN | apply below_drew1 | refine below_set ?_ GE237.out | refine below_set ?_ GE248.out | refine below_set ?_ GE263.out) | exact HB.out)⟩
                  · replace c62 := Bool.eq_false_iff.mpr c62
                    subst c62
                    have H1 : ((laws_heldIssuer.f kj35 t238 t251 t242 t243 t244 t245 t246 1).bind fun t265 => (if t265 < 0 then (some false) else (if t265 = t250 then (some true) else (some false)))) = some r := by rw [if_neg (show ¬ (false = true) by decide)] at H; exact H
                    clear H
                    have H := H1
                    clear H1
                    replace H := Option.bind_eq_some_iff.mp H
                    obtain ⟨t265, A630, H⟩ := H
                    replace H : (if t265 < 0 then (some false) else (if t265 = t250 then (some true) else (some false))) = some r := H
                    have A63 := Aside0.mk A630
                    clear A630
                    by_cases c64 : t265 < 0
                    · rw [if_pos c64] at H
                      have c64b0 : decide (t265 < 0) = true := decide_eq_true c64
                      clear c64
                      obtain rfl := Option.some.inj H
                      have hnb65 := NB248_237.out
                      have hnc65 := NB237_248.out
                      have hnb66 := NB248_263.out
                      have hnc66 := NB263_248.out
                      have hcz67_0 : wc.cell? ⟨gb248, 0, none⟩ = some (.string t238) := (blk_cell BK248.out 0).trans rfl
                      have hcz67_1 : wc.cell? ⟨gb248, 1, none⟩ = some (.slice Ao14 t251.length co14) := (blk_cell BK248.out 1).trans rfl
                      have hcz67_2 : wc.cell? ⟨gb248, 2, none⟩ = some (.int .i64 t242) := (blk_cell BK248.out 2).trans rfl
                      have hcz67_3 : wc.cell? ⟨gb248, 3, none⟩ = some (.string t243) := (blk_cell BK248.out 3).trans rfl
                      have hcz67_4 : wc.cell? ⟨gb248, 4, none⟩ = some (.string t244) := (blk_cell BK248.out 4).trans rfl
                      have hcz67_5 : wc.cell? ⟨gb248, 5, none⟩ = some (.bool t245) := (blk_cell BK248.out 5).trans rfl
                      have hcz67_6 : wc.cell? ⟨gb248, 6, none⟩ = some (.int .i64 t246) := (blk_cell BK248.out 6).trans rfl
                      have hfz67_0 := blk_frozen BK248.out 0
                      have hfz67_1 := blk_frozen BK248.out 1
                      have hfz67_2 := blk_frozen BK248.out 2
                      have hfz67_3 := blk_frozen BK248.out 3
                      have hfz67_4 := blk_frozen BK248.out 4
                      have hfz67_5 := blk_frozen BK248.out 5
                      have hfz67_6 := blk_frozen BK248.out 6
                      go_wp2_with (first | ((with_reducible refine gate_callee (f := 28) rfl ?_); refine goesL_ (some 60) rfl rfl Try.func28 (by kernel_rfl) rfl #[.agg #[.string t238, .slice Ao14 t251.length co14, .int .i64 t242, .string t243, .string t244, .bool t245, .int .i64 t246], .int .i64 1] rfl (by (try simp only [List.map_toArray, List.map_cons, List.map_nil]); first | done | rfl | (simp only [List.length_drop, List.length_take]; rfl)) ?_; (with_reducible refine (laws_heldIssuer.calls kj35 t238 _ _ t251 t242 t243 t244 t245 t246 1 t265 _ ?side1 ?side2 A63.out).mono ?_); (case side1 => repeat (first | exact (Kd.R_reads' HO_249001.out).2.2 | (with_reducible refine Kd.C_alloc ?_ _) | (with_reducible refine Kd.C_drewN ?_ _) | (with_reducible refine Kd.C_drew ?_))); (case side2 => exact (Kd.R_reads' HO_249001.out).2.1); rintro e w68 ⟨rfl, hb⟩; refine ⟨_, rfl, ?_⟩; have n0_ := Aside0.mk (Kd.R_below (by (with_reducible repeat (first | apply Kd.R_alloc | apply Kd.R_drewN | apply Kd.R_drew)); exact HO_238001.out) hb); have n1_ := Aside0.mk (Kd.R_below (by (with_reducible repeat (first | apply Kd.R_alloc | apply Kd.R_drewN | apply Kd.R_drew)); exact HO_249001.out) hb); have n2_ := Aside0.mk (Kd.R_below (by (with_reducible repeat (first | apply Kd.R_alloc | apply Kd.R_drewN | apply Kd.R_drew)); exact HO_264001.out) hb); have n3_ := Aside0.mk (blk_below (g := gb237) (o := .cells #[.string t227, .slice Ao9 t228.length co9, .int .i64 t231, .string t232, .string t233, .bool t234, .int .i64 t235] 42 (0, 0)) (by (with_reducible repeat (first | refine blk_drewN ?_ _ | refine blk_drew ?_ | refine blk_alloc ?_ _)); exact BK237.out) hb); have n4_ := Aside0.mk (blk_below (g := gb248) (o := .cells #[.string t238, .slice Ao14 t251.length co14, .int .i64 t242, .string t243, .string t244, .bool t245, .int .i64 t246] 42 (0, 0)) (by (with_reducible repeat (first | refine blk_drewN ?_ _ | refine blk_drew ?_ | refine blk_alloc ?_ _)); exact BK248.out) hb); have n5_ := Aside0.mk (blk_below (g := gb263) (o := .cells #[.string t253, .slice Ao47 t254.length co47, .int .i64 t257, .string t258, .string t259, .bool t260, .int .i64 t261] 42 (0, 0)) (by (with_reducible repeat (first | refine blk_drewN ?_ _ | refine blk_drew ?_ | refine blk_alloc ?_ _)); exact BK263.out) hb); have n6_ := Aside0.mk (below_step (by repeat (first | (with_reducible first | exact HB.out | apply below_alloc | apply pw_below_drewN | apply below_drew1 | refine below_set ?_ GE237.out | refine below_set ?_ GE248.out | refine below_set ?_ GE263.out) | exact HB.out)) hb); clear HO_238001; clear HO_249001; clear HO_264001; clear BK237; clear BK248; clear BK263; clear HB; have HO_238001 := n0_; have HO_249001 := n1_; have HO_264001 := n2_; have BK237 := n3_; have BK248 := n4_; have BK263 := n5_; have HB := n6_; clear n0_ n1_ n2_ n3_ n4_ n5_ n6_; (try clear hb); (try clear hb2); (try clear hk); (try clear hi)))
                      go_ret
                      exact ⟨by first | rfl | (simp [errW_none, errW_some] <;> rfl) | (simp [*, errW_none, errW_some] <;> rfl), by repeat (first | (with_reducible first | exact HB.out | apply below_alloc | apply pw_below_drewN | apply below_drew1 | refine below_set ?_ GE237.out | refine below_set ?_ GE248.out | refine below_set ?_ GE263.out) | exact HB.out)⟩
                    · rw [if_neg c64] at H
                      have c64b0 : decide (t265 < 0) = false := decide_eq_false c64
                      clear c64
                      by_cases c69 : t265 = t250
                      · rw [if_pos c69] at H
                        have c69b0 : (t265 == t250) = true := beq_iff_eq.mpr c69
                        have c69b1 : (t265 != t250) = false := bne_eq_false_iff_eq.mpr c69
                        clear c69
                        obtain rfl := Option.some.inj H
                        have hnb70 := NB248_237.out
                        have hnc70 := NB237_248.out
                        have hnb71 := NB248_263.out
                        have hnc71 := NB263_248.out
                        have hcz72_0 : wc.cell? ⟨gb248, 0, none⟩ = some (.string t238) := (blk_cell BK248.out 0).trans rfl
                        have hcz72_1 : wc.cell? ⟨gb248, 1, none⟩ = some (.slice Ao14 t251.length co14) := (blk_cell BK248.out 1).trans rfl
                        have hcz72_2 : wc.cell? ⟨gb248, 2, none⟩ = some (.int .i64 t242) := (blk_cell BK248.out 2).trans rfl
                        have hcz72_3 : wc.cell? ⟨gb248, 3, none⟩ = some (.string t243) := (blk_cell BK248.out 3).trans rfl
                        have hcz72_4 : wc.cell? ⟨gb248, 4, none⟩ = some (.string t244) := (blk_cell BK248.out 4).trans rfl
                        have hcz72_5 : wc.cell? ⟨gb248, 5, none⟩ = some (.bool t245) := (blk_cell BK248.out 5).trans rfl
                        have hcz72_6 : wc.cell? ⟨gb248, 6, none⟩ = some (.int .i64 t246) := (blk_cell BK248.out 6).trans rfl
                        have hfz72_0 := blk_frozen BK248.out 0
                        have hfz72_1 := blk_frozen BK248.out 1
                        have hfz72_2 := blk_frozen BK248.out 2
                        have hfz72_3 := blk_frozen BK248.out 3
                        have hfz72_4 := blk_frozen BK248.out 4
                        have hfz72_5 := blk_frozen BK248.out 5
                        have hfz72_6 := blk_frozen BK248.out 6
                        go_wp2_with (first | ((with_reducible refine gate_callee (f := 28) rfl ?_); refine goesL_ (some 60) rfl rfl Try.func28 (by kernel_rfl) rfl #[.agg #[.string t238, .slice Ao14 t251.length co14, .int .i64 t242, .string t243, .string t244, .bool t245, .int .i64 t246], .int .i64 1] rfl (by (try simp only [List.map_toArray, List.map_cons, List.map_nil]); first | done | rfl | (simp only [List.length_drop, List.length_take]; rfl)) ?_; (with_reducible refine (laws_heldIssuer.calls kj35 t238 _ _ t251 t242 t243 t244 t245 t246 1 t265 _ ?side1 ?side2 A63.out).mono ?_); (case side1 => repeat (first | exact (Kd.R_reads' HO_249001.out).2.2 | (with_reducible refine Kd.C_alloc ?_ _) | (with_reducible refine Kd.C_drewN ?_ _) | (with_reducible refine Kd.C_drew ?_))); (case side2 => exact (Kd.R_reads' HO_249001.out).2.1); rintro e w73 ⟨rfl, hb⟩; refine ⟨_, rfl, ?_⟩; have n0_ := Aside0.mk (Kd.R_below (by (with_reducible repeat (first | apply Kd.R_alloc | apply Kd.R_drewN | apply Kd.R_drew)); exact HO_238001.out) hb); have n1_ := Aside0.mk (Kd.R_below (by (with_reducible repeat (first | apply Kd.R_alloc | apply Kd.R_drewN | apply Kd.R_drew)); exact HO_249001.out) hb); have n2_ := Aside0.mk (Kd.R_below (by (with_reducible repeat (first | apply Kd.R_alloc | apply Kd.R_drewN | apply Kd.R_drew)); exact HO_264001.out) hb); have n3_ := Aside0.mk (blk_below (g := gb237) (o := .cells #[.string t227, .slice Ao9 t228.length co9, .int .i64 t231, .string t232, .string t233, .bool t234, .int .i64 t235] 42 (0, 0)) (by (with_reducible repeat (first | refine blk_drewN ?_ _ | refine blk_drew ?_ | refine blk_alloc ?_ _)); exact BK237.out) hb); have n4_ := Aside0.mk (blk_below (g := gb248) (o := .cells #[.string t238, .slice Ao14 t251.length co14, .int .i64 t242, .string t243, .string t244, .bool t245, .int .i64 t246] 42 (0, 0)) (by (with_reducible repeat (first | refine blk_drewN ?_ _ | refine blk_drew ?_ | refine blk_alloc ?_ _)); exact BK248.out) hb); have n5_ := Aside0.mk (blk_below (g := gb263) (o := .cells #[.string t253, .slice Ao47 t254.length co47, .int .i64 t257, .string t258, .string t259, .bool t260, .int .i64 t261] 42 (0, 0)) (by (with_reducible repeat (first | refine blk_drewN ?_ _ | refine blk_drew ?_ | refine blk_alloc ?_ _)); exact BK263.out) hb); have n6_ := Aside0.mk (below_step (by repeat (first | (with_reducible first | exact HB.out | apply below_alloc | apply pw_below_drewN | apply below_drew1 | refine below_set ?_ GE237.out | refine below_set ?_ GE248.out | refine below_set ?_ GE263.out) | exact HB.out)) hb); clear HO_238001; clear HO_249001; clear HO_264001; clear BK237; clear BK248; clear BK263; clear HB; have HO_238001 := n0_; have HO_249001 := n1_; have HO_264001 := n2_; have BK237 := n3_; have BK248 := n4_; have BK263 := n5_; have HB := n6_; clear n0_ n1_ n2_ n3_ n4_ n5_ n6_; (try clear hb); (try clear hb2); (try clear hk); (try clear hi)))
                        go_ret
                        exact ⟨by first | rfl | (simp [errW_none, errW_some] <;> rfl) | (simp [*, errW_none, errW_some] <;> rfl), by repeat (first | (with_reducible first | exact HB.out | apply below_alloc | apply pw_below_drewN | apply below_drew1 | refine below_set ?_ GE237.out | refine below_set ?_ GE248.out | refine below_set ?_ GE263.out) | exact HB.out)⟩
                      · rw [if_neg c69] at H
                        have c69b0 : (t265 == t250) = false := beq_eq_false_iff_ne.mpr c69
                        have c69b1 : (t265 != t250) = true := bne_iff_ne.mpr c69
                        obtain rfl := Option.some.inj H
                        have hnb74 := NB248_237.out
                        have hnc74 := NB237_248.out
                        have hnb75 := NB248_263.out
                        have hnc75 := NB263_248.out
                        have hcz76_0 : wc.cell? ⟨gb248, 0, none⟩ = some (.string t238) := (blk_cell BK248.out 0).trans rfl
                        have hcz76_1 : wc.cell? ⟨gb248, 1, none⟩ = some (.slice Ao14 t251.length co14) := (blk_cell BK248.out 1).trans rfl
                        have hcz76_2 : wc.cell? ⟨gb248, 2, none⟩ = some (.int .i64 t242) := (blk_cell BK248.out 2).trans rfl
                        have hcz76_3 : wc.cell? ⟨gb248, 3, none⟩ = some (.string t243) := (blk_cell BK248.out 3).trans rfl
                        have hcz76_4 : wc.cell? ⟨gb248, 4, none⟩ = some (.string t244) := (blk_cell BK248.out 4).trans rfl
                        have hcz76_5 : wc.cell? ⟨gb248, 5, none⟩ = some (.bool t245) := (blk_cell BK248.out 5).trans rfl
                        have hcz76_6 : wc.cell? ⟨gb248, 6, none⟩ = some (.int .i64 t246) := (blk_cell BK248.out 6).trans rfl
                        have hfz76_0 := blk_frozen BK248.out 0
                        have hfz76_1 := blk_frozen BK248.out 1
                        have hfz76_2 := blk_frozen BK248.out 2
                        have hfz76_3 := blk_frozen BK248.out 3
                        have hfz76_4 := blk_frozen BK248.out 4
                        have hfz76_5 := blk_frozen BK248.out 5
                        have hfz76_6 := blk_frozen BK248.out 6
                        go_wp2_with (first | ((with_reducible refine gate_callee (f := 28) rfl ?_); refine goesL_ (some 60) rfl rfl Try.func28 (by kernel_rfl) rfl #[.agg #[.string t238, .slice Ao14 t251.length co14, .int .i64 t242, .string t243, .string t244, .bool t245, .int .i64 t246], .int .i64 1] rfl (by (try simp only [List.map_toArray, List.map_cons, List.map_nil]); first | done | rfl | (simp only [List.length_drop, List.length_take]; rfl)) ?_; (with_reducible refine (laws_heldIssuer.calls kj35 t238 _ _ t251 t242 t243 t244 t245 t246 1 t265 _ ?side1 ?side2 A63.out).mono ?_); (case side1 => repeat (first | exact (Kd.R_reads' HO_249001.out).2.2 | (with_reducible refine Kd.C_alloc ?_ _) | (with_reducible refine Kd.C_drewN ?_ _) | (with_reducible refine Kd.C_drew ?_))); (case side2 => exact (Kd.R_reads' HO_249001.out).2.1); rintro e w77 ⟨rfl, hb⟩; refine ⟨_, rfl, ?_⟩; have n0_ := Aside0.mk (Kd.R_below (by (with_reducible repeat (first | apply Kd.R_alloc | apply Kd.R_drewN | apply Kd.R_drew)); exact HO_238001.out) hb); have n1_ := Aside0.mk (Kd.R_below (by (with_reducible repeat (first | apply Kd.R_alloc | apply Kd.R_drewN | apply Kd.R_drew)); exact HO_249001.out) hb); have n2_ := Aside0.mk (Kd.R_below (by (with_reducible repeat (first | apply Kd.R_alloc | apply Kd.R_drewN | apply Kd.R_drew)); exact HO_264001.out) hb); have n3_ := Aside0.mk (blk_below (g := gb237) (o := .cells #[.string t227, .slice Ao9 t228.length co9, .int .i64 t231, .string t232, .string t233, .bool t234, .int .i64 t235] 42 (0, 0)) (by (with_reducible repeat (first | refine blk_drewN ?_ _ | refine blk_drew ?_ | refine blk_alloc ?_ _)); exact BK237.out) hb); have n4_ := Aside0.mk (blk_below (g := gb248) (o := .cells #[.string t238, .slice Ao14 t251.length co14, .int .i64 t242, .string t243, .string t244, .bool t245, .int .i64 t246] 42 (0, 0)) (by (with_reducible repeat (first | refine blk_drewN ?_ _ | refine blk_drew ?_ | refine blk_alloc ?_ _)); exact BK248.out) hb); have n5_ := Aside0.mk (blk_below (g := gb263) (o := .cells #[.string t253, .slice Ao47 t254.length co47, .int .i64 t257, .string t258, .string t259, .bool t260, .int .i64 t261] 42 (0, 0)) (by (with_reducible repeat (first | refine blk_drewN ?_ _ | refine blk_drew ?_ | refine blk_alloc ?_ _)); exact BK263.out) hb); have n6_ := Aside0.mk (below_step (by repeat (first | (with_reducible first | exact HB.out | apply below_alloc | apply pw_below_drewN | apply below_drew1 | refine below_set ?_ GE237.out | refine below_set ?_ GE248.out | refine below_set ?_ GE263.out) | exact HB.out)) hb); clear HO_238001; clear HO_249001; clear HO_264001; clear BK237; clear BK248; clear BK263; clear HB; have HO_238001 := n0_; have HO_249001 := n1_; have HO_264001 := n2_; have BK237 := n3_; have BK248 := n4_; have BK263 := n5_; have HB := n6_; clear n0_ n1_ n2_ n3_ n4_ n5_ n6_; (try clear hb); (try clear hb2); (try clear hk); (try clear hi)))
                        go_ret
                        exact ⟨by first | rfl | (simp [errW_none, errW_some] <;> rfl) | (simp [*, errW_none, errW_some] <;> rfl), by repeat (first | (with_reducible first | exact HB.out | apply below_alloc | apply pw_below_drewN | apply below_drew1 | refine below_set ?_ GE237.out | refine below_set ?_ GE248.out | refine below_set ?_ GE263.out) | exact HB.out)⟩
            · rw [if_neg c34] at H
              have c34b0 : (t252 == t250) = false := beq_eq_false_iff_ne.mpr c34
              have c34b1 : (t252 != t250) = true := bne_iff_ne.mpr c34
              obtain rfl := Option.some.inj H
              have hnb78 := NB248_237.out
              have hnc78 := NB237_248.out
              have hcz79_0 : wc.cell? ⟨gb248, 0, none⟩ = some (.string t238) := (blk_cell BK248.out 0).trans rfl
              have hcz79_1 : wc.cell? ⟨gb248, 1, none⟩ = some (.slice Ao14 t239.length co14) := (blk_cell BK248.out 1).trans rfl
              have hcz79_2 : wc.cell? ⟨gb248, 2, none⟩ = some (.int .i64 t242) := (blk_cell BK248.out 2).trans rfl
              have hcz79_3 : wc.cell? ⟨gb248, 3, none⟩ = some (.string t243) := (blk_cell BK248.out 3).trans rfl
              have hcz79_4 : wc.cell? ⟨gb248, 4, none⟩ = some (.string t244) := (blk_cell BK248.out 4).trans rfl
              have hcz79_5 : wc.cell? ⟨gb248, 5, none⟩ = some (.bool t245) := (blk_cell BK248.out 5).trans rfl
              have hcz79_6 : wc.cell? ⟨gb248, 6, none⟩ = some (.int .i64 t246) := (blk_cell BK248.out 6).trans rfl
              have hfz79_0 := blk_frozen BK248.out 0
              have hfz79_1 := blk_frozen BK248.out 1
              have hfz79_2 := blk_frozen BK248.out 2
              have hfz79_3 := blk_frozen BK248.out 3
              have hfz79_4 := blk_frozen BK248.out 4
              have hfz79_5 := blk_frozen BK248.out 5
              have hfz79_6 := blk_frozen BK248.out 6
              go_wp2_with (first | ((with_reducible refine gate_callee (f := 27) rfl ?_); refine goesL_ (some 35) rfl rfl Try.func27 (by kernel_rfl) rfl #[.agg #[.string t238, .slice Ao14 t239.length co14, .int .i64 t242, .string t243, .string t244, .bool t245, .int .i64 t246], .int .i64 1] rfl (by (try simp only [List.map_toArray, List.map_cons, List.map_nil]); first | done | rfl | (simp only [List.length_drop, List.length_take]; rfl)) ?_; (with_reducible refine (laws_markIssuer.calls kj4 t238 (fun k_ => some k_ = (.slice Ao14 t239.length co14 : Value).ownBlock) (.slice Ao14 t239.length co14) t239 t242 t243 t244 t245 t246 1 t250 t251 w _ ?side1 ?side2 A26.out).mono ?_); (case side1 => repeat (first | (with_reducible first | exact HB.out | apply below_alloc | apply pw_below_drewN | apply below_drew1 | refine below_set ?_ GE237.out | refine below_set ?_ GE248.out) | exact HB.out)); (case side2 => exact Kd.R_tight rfl HO_249001.out); rintro e w80 ⟨rfl, hy0, hb, hkp⟩; refine ⟨_, rfl, ?_⟩; have n0_ := Aside0.mk (Kd.R_mono (ok' := fun k_ => some k_ ≠ (.slice Ao14 t239.length co14 : Value).ownBlock) (Kd.R_keptB (HO_238001.out) hkp (fun k_ hk_ hs_ => (hk_) hs_)) (fun k_ hk_ => hk_.1)); have n1_ := Aside0.mk (Kd.R_reok rfl hy0 (fun k_ e_ => HO_249001.out.1 k_ e_)); have n2_ := Aside0.mk (blk_kept (by (with_reducible repeat (first | refine blk_drewN ?_ _ | refine blk_drew ?_ | refine blk_alloc ?_ _)); exact BK237.out) hkp (fun hs_ => (fun e_ => (Kd.R_ne HO_249001.out BK237.out (by decide)) e_) hs_)); have n3_ := Aside0.mk (blk_kept (by (with_reducible repeat (first | refine blk_drewN ?_ _ | refine blk_drew ?_ | refine blk_alloc ?_ _)); exact BK248.out) hkp (fun hs_ => (fun e_ => (Kd.R_ne HO_249001.out BK248.out (by decide)) e_) hs_)); have n4_ := Aside0.mk (hb); clear HO_238001; clear HO_249001; clear BK237; clear BK248; clear HB; have HO_238001 := n0_; have HO_249001 := n1_; have BK237 := n2_; have BK248 := n3_; have HB := n4_; clear n0_ n1_ n2_ n3_ n4_; (try clear hb); (try clear hkp); (try clear hy0); have hcz81_0 : w80.cell? ⟨gb248, 0, none⟩ = some (.string t238) := (blk_cell BK248.out 0).trans rfl; have hcz81_1 : w80.cell? ⟨gb248, 1, none⟩ = some (.slice Ao14 t239.length co14) := (blk_cell BK248.out 1).trans rfl; have hcz81_2 : w80.cell? ⟨gb248, 2, none⟩ = some (.int .i64 t242) := (blk_cell BK248.out 2).trans rfl; have hcz81_3 : w80.cell? ⟨gb248, 3, none⟩ = some (.string t243) := (blk_cell BK248.out 3).trans rfl; have hcz81_4 : w80.cell? ⟨gb248, 4, none⟩ = some (.string t244) := (blk_cell BK248.out 4).trans rfl; have hcz81_5 : w80.cell? ⟨gb248, 5, none⟩ = some (.bool t245) := (blk_cell BK248.out 5).trans rfl; have hcz81_6 : w80.cell? ⟨gb248, 6, none⟩ = some (.int .i64 t246) := (blk_cell BK248.out 6).trans rfl; have hfz81_0 := blk_frozen BK248.out 0; have hfz81_1 := blk_frozen BK248.out 1; have hfz81_2 := blk_frozen BK248.out 2; have hfz81_3 := blk_frozen BK248.out 3; have hfz81_4 := blk_frozen BK248.out 4; have hfz81_5 := blk_frozen BK248.out 5; have hfz81_6 := blk_frozen BK248.out 6) | ((with_reducible refine gate_callee (f := 28) rfl ?_); refine goesL_ (some 38) rfl rfl Try.func28 (by kernel_rfl) rfl #[.agg #[.string t238, .slice Ao14 t251.length co14, .int .i64 t242, .string t243, .string t244, .bool t245, .int .i64 t246], .int .i64 1] rfl (by (try simp only [List.map_toArray, List.map_cons, List.map_nil]); first | done | (rw [show t251.length = t239.length from (Kd.R_reads' HO_249001.out).1.symm] <;> rfl) | rfl | (simp only [List.length_drop, List.length_take]; rfl)) ?_; (with_reducible refine (laws_heldIssuer.calls kj4 t238 _ _ t251 t242 t243 t244 t245 t246 1 t252 _ ?side1 ?side2 A27.out).mono ?_); (case side1 => repeat (first | exact (Kd.R_reads' HO_249001.out).2.2 | (with_reducible refine Kd.C_alloc ?_ _) | (with_reducible refine Kd.C_drewN ?_ _) | (with_reducible refine Kd.C_drew ?_))); (case side2 => rw [show t251.length = t239.length from (Kd.R_reads' HO_249001.out).1.symm]; exact (Kd.R_reads' HO_249001.out).2.1); rintro e w82 ⟨rfl, hb⟩; refine ⟨_, rfl, ?_⟩; have n0_ := Aside0.mk (Kd.R_below (by (with_reducible repeat (first | apply Kd.R_alloc | apply Kd.R_drewN | apply Kd.R_drew)); exact HO_238001.out) hb); have n1_ := Aside0.mk (Kd.R_below (by (with_reducible repeat (first | apply Kd.R_alloc | apply Kd.R_drewN | apply Kd.R_drew)); exact HO_249001.out) hb); have n2_ := Aside0.mk (blk_below (g := gb237) (o := .cells #[.string t227, .slice Ao9 t228.length co9, .int .i64 t231, .string t232, .string t233, .bool t234, .int .i64 t235] 42 (0, 0)) (by (with_reducible repeat (first | refine blk_drewN ?_ _ | refine blk_drew ?_ | refine blk_alloc ?_ _)); exact BK237.out) hb); have n3_ := Aside0.mk (blk_below (g := gb248) (o := .cells #[.string t238, .slice Ao14 t239.length co14, .int .i64 t242, .string t243, .string t244, .bool t245, .int .i64 t246] 42 (0, 0)) (by (with_reducible repeat (first | refine blk_drewN ?_ _ | refine blk_drew ?_ | refine blk_alloc ?_ _)); exact BK248.out) hb); have n4_ := Aside0.mk (below_step (by repeat (first | (with_reducible first | exact HB.out | apply below_alloc | apply pw_below_drewN | apply below_drew1 | refine below_set ?_ GE237.out | refine below_set ?_ GE248.out) | exact HB.out)) hb); clear HO_238001; clear HO_249001; clear BK237; clear BK248; clear HB; have HO_238001 := n0_; have HO_249001 := n1_; have BK237 := n2_; have BK248 := n3_; have HB := n4_; clear n0_ n1_ n2_ n3_ n4_; (try clear hb); (try clear hb2); (try clear hk); (try clear hi)))
              go_ret
              exact ⟨by first | rfl | (simp [errW_none, errW_some] <;> rfl) | (simp [*, errW_none, errW_some] <;> rfl), by repeat (first | (with_reducible first | exact HB.out | apply below_alloc | apply pw_below_drewN | apply below_drew1 | refine below_set ?_ GE237.out | refine below_set ?_ GE248.out) | exact HB.out)⟩

end Go.Proofs.Ytmclmbhdgepjfaa.Q
