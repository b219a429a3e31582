import Derived.Test.YtmclmbhdgepjfaaVeQx0
import Derived.Test.YtmclmbhdgepjfaaVeQx2
import Derived.Test.YtmclmbhdgepjfaaVeQx5
import Derived.Test.YtmclmbhdgepjfaaVeQx32
-- Laid by wip/xprint.py (a session's own program, over the kit's print.py). Lean checks it.
namespace Go.Proofs.Ytmclmbhdgepjfaa.Q
open Go.RowKit Go.Proofs.YtmclmbhdgepjfaaX Go.Proofs.YtmclmbhdgepjfaaW.PrintWords Go.Proofs.YtmclmbhdgepjfaaW.PrintLast Go.Proofs.YtmclmbhdgepjfaaW.PrintMore
attribute [local go_sem] max2_int min2_int max_two min_two max_three min_three max_four min_four   -- for this text's walks alone
set_option linter.unusedVariables false
set_option linter.unusedSimpArgs false

/-! ### impl_Projected: function 42 (by hand) -/
set_option maxHeartbeats 4000000 in
set_option maxRecDepth 100000 in
theorem impl_Projected.del.cut (p : S89 → Option Bool) (gf : Nat) (lb : Array Value) (base g cap : Nat) (l0 r : List (S89)) (w : World) (hr0 : Kd.R k89 89 w base (fun _ => True) (.slice (some ⟨g, 0, none⟩) l0.length cap) l0)
  (eg : ∀ args w, (callFunc gf args).run Try.prog w = .ok (.enter gf args) w) (hp : PredW Try.prog gf lb k89 mkA p l0 (fun W => w.grownBy W (some g))) (h : keepO p l0 = some r) :
  Calls Try.prog 90 #[.slice (some ⟨g, 0, none⟩) l0.length cap, .func (.func gf) #[] lb] w fun e w' => ∃ v, e = .returned v ∧ Kd.R k89 89 w' base (fun _ => True) v r ∧ w.grownBy w' (some g) := by
 obtain ⟨_, hcap, hC0⟩ := Kd.R_reads' hr0
 have hn : l0.length ≤ 9223372036854775807 := hC0.2.1
 obtain ⟨q, hq, hq2⟩ := keepO_idx l0 0 r h
 have HI := Aside0.mk (ix110.calls p gf lb (some ⟨g, 0, none⟩) cap l0 q w hC0 eg (hp.toK (fun W hW => grown_of_below hW _)) hq)
 have HR := Aside0.mk hr0
 have HP := Aside0.mk hp
 clear hr0 hp hq hC0 h
 generalize hlen : l0.length = n at hn hcap HI HR hq2 ⊢
 have HL := Aside0.mk hlen
 clear hlen
 rcases hq2 with ⟨rfl, rfl⟩ | ⟨k, hk, hqk, r', hr', hrr⟩
 ·go_enter Try.func90, Try.ntmps90
  go_wp2_with ((with_reducible refine gate_callee (f := 110) rfl ?_); refine goesL_ (some 10) rfl rfl Try.func110 (by kernel_rfl) rfl #[.slice (some ⟨g, 0, none⟩) n cap, .func (.func gf) #[] lb] rfl (by (try simp only [List.map_toArray, List.map_cons, List.map_nil]); first | done | rfl) ?_; (with_reducible refine (HI.out).mono ?_); rintro e w' ⟨rfl, hb'⟩; refine ⟨_, rfl, ?_⟩)
  go_ret
  exact ⟨.slice (some ⟨g, 0, none⟩) n cap, rfl, Kd.R_below HR.out hb', grown_of_below hb' _⟩
 ·obtain rfl : q = (k : Int) := by simpa using hqk
  clear hqk
  have HS := Aside0.mk (⟨hr', hrr⟩ : keepO p (l0.drop (k + 1)) = some r' ∧ l0.take k ++ r' = r)
  clear hr' hrr
  have hne1 : ((k : Int) == -1) = false := beq_eq_false_iff_ne.2 (by omega)
  go_enter Try.func90, Try.ntmps90
  go_wp2_with ((with_reducible refine gate_callee (f := 110) rfl ?_); refine goesL_ (some 10) rfl rfl Try.func110 (by kernel_rfl) rfl #[.slice (some ⟨g, 0, none⟩) n cap, .func (.func gf) #[] lb] rfl (by (try simp only [List.map_toArray, List.map_cons, List.map_nil]); first | done | rfl) ?_; (with_reducible refine (HI.out).mono ?_); rintro e w' ⟨rfl, hb'⟩; refine ⟨_, rfl, ?_⟩; have HB0 := Aside0.mk hb'; clear hb')
  go_loopg [5, 6, 7] n (fun gg s5 s6 _ wr => ∃ (i j : Nat) (dk r' : List S89), s5 = .int .i64 i ∧ s6 = .int .i64 j ∧ i < j ∧ j ≤ n ∧ n - j ≤ gg ∧ Aside0 (Kd.R k89 89 wr base (fun _ => True) (.slice (some ⟨g, 0, none⟩) n cap) dk) ∧ Aside0 (w.grownBy wr (some g)) ∧ Aside0 (dk.length = n ∧ dk.drop j = l0.drop j ∧ keepO p (l0.drop j) = some r' ∧ dk.take i ++ r' = r))
  case atStart => exact ⟨k, k + 1, l0, r', rfl, by go_num, by omega, by omega, by omega, ⟨Kd.R_below HR.out HB0.out⟩, ⟨grown_of_below HB0.out _⟩, ⟨HL.out, rfl, HS.out.1, HS.out.2⟩⟩
  case round =>
   obtain ⟨i, j, dk, r2, rfl, rfl, hij, hjn, hgg, HR1, HG1, HD⟩ := hrel
   by_cases hlt : j < n
   ·have hltz : (j : Int) < (n : Int) := by omega
    have hltb : decide ((j : Int) < (n : Int)) = true := decide_eq_true hltz
    obtain ⟨d1, d2, d3, d4⟩ := HD.out
    obtain ⟨hx, b, hb, ht, hf⟩ := keepO_step (d := z89) (by rw [HL.out]; exact hlt) d3
    have hdj : dk.getD j z89 = l0.getD j z89 := by
     have h1 := congrArg (fun l => l.getD 0 z89) d2
     simpa [List.getD_eq_getElem?_getD, List.getElem?_drop] using h1
    obtain ⟨ce, hcl, hM, hcc, hfr⟩ := Kd.R_elem HR1.out z89 (j : Int) (by omega) hltz
    rw [Int.toNat_natCast, hdj] at hM
    obtain rfl := k89_openM hM
    have HX := Aside0.mk (⟨hx, hb, ht, hf⟩ : l0.getD j z89 ∈ l0 ∧ p (l0.getD j z89) = some b ∧ (b = true → keepO p (l0.drop (j + 1)) = some r2) ∧ (b = false → ∃ r', keepO p (l0.drop (j + 1)) = some r' ∧ r2 = l0.getD j z89 :: r'))
    clear hx hb ht hf hM d1 d2 d3 d4 hdj
    generalize l0.getD j z89 = x at *
    have hx0 : wr.cell? ⟨g, j * 4, none⟩ = some _ := hcc 0 _ rfl
    have hx1 : wr.cell? ⟨g, j * 4 + 1, none⟩ = some _ := hcc 1 _ rfl
    have hx2 : wr.cell? ⟨g, j * 4 + 2, none⟩ = some _ := hcc 2 _ rfl
    have hx3 : wr.cell? ⟨g, j * 4 + 3, none⟩ = some _ := hcc 3 _ rfl
    clear hcc hfr hcl
    have HX0 := Aside0.mk hx0
    have hW : w.grownBy (wr.alloc (.cells #[.int .i64 x.f0, .int .i64 x.f1, .bool x.f2, .string x.f3] 89)) (some g) := World.grownBy.trans HG1.out (World.grownBy_alloc _ _ _)
    have hcall : Calls Try.prog gf (#[.agg #[.int .i64 x.f0, .int .i64 x.f1, .bool x.f2, .string x.f3]] ++ lb) (wr.alloc (.cells #[.int .i64 x.f0, .int .i64 x.f1, .bool x.f2, .string x.f3] 89)) fun e w' => e = .returned (.bool b) ∧ Below (wr.alloc (.cells #[.int .i64 x.f0, .int .i64 x.f1, .bool x.f2, .string x.f3] 89)).heap.size (wr.alloc (.cells #[.int .i64 x.f0, .int .i64 x.f1, .bool x.f2, .string x.f3] 89)) w' := HP.out x HX.out.1 b HX.out.2.1 _ [.int .i64 x.f0, .int .i64 x.f1, .bool x.f2, .string x.f3] hW (k89.K_of_M (base := base) (ok := fun _ => True) (k89_mkM _ base (fun _ => True) x))
    have HC := Aside0.mk hcall
    have HW := Aside0.mk hW
    clear hcall hW
    cases b with
    | true =>
     have HT := Aside0.mk (HX.out.2.2.1 rfl)
     go_wp2_with ((with_reducible refine (HC.out).mono ?_); rintro e w2 ⟨rfl, hb'⟩; have HB2 := Aside0.mk hb'; clear hb')
     go_roundg (n - (j + 1))
     case measure => omega
     case rel => exact ⟨i, j + 1, dk, r2, rfl, by go_num, by omega, by omega, by omega, ⟨Kd.R_below (Kd.R_alloc HR1.out _) HB2.out⟩, ⟨World.grownBy.trans HW.out (grown_of_below HB2.out _)⟩, ⟨HD.out.1, by rw [← List.drop_drop, ← List.drop_drop, HD.out.2.1], HT.out, HD.out.2.2.2⟩⟩
    | false =>
     obtain ⟨r3, hk3, e3⟩ := HX.out.2.2.2 rfl
     have HT := Aside0.mk (⟨hk3, e3⟩ : keepO p (l0.drop (j + 1)) = some r3 ∧ r2 = x :: r3)
     clear hk3 e3
     go_wp2_with (first | ((with_reducible refine (HC.out).mono ?_); rintro e w2 ⟨rfl, hb'⟩; have HB2 := Aside0.mk hb'; clear hb'; have HR2 := Aside0.mk (Kd.R_below (Kd.R_alloc HR1.out _) HB2.out); have hN := blk_below (blk_new wr _) HB2.out; have hv0 := blk_cell hN 0; have hv1 := blk_cell hN 1; have hv2 := blk_cell hN 2; have hv3 := blk_cell hN 3; clear hN; (try simp at hv0 hv1 hv2 hv3); obtain ⟨ce2, hcl2, hM2, hcc2, hfr2⟩ := Kd.R_elem HR2.out z89 (i : Int) (by omega) (by omega); obtain rfl := k89_openM hM2; have HP2 := Kd.R_seg HR2.out (i : Int) (by omega) (by omega) (seg := [.int .i64 x.f0, .int .i64 x.f1, .bool x.f2, .string x.f3]) (j := 0) hcl2 hcc2 (show 4 ≤ 4 from by decide) (x' := x) (okp := fun _ => False) (k89_mkM _ _ _ x) (fun _ hk => hk.elim); have hy0 : w2.cell? ⟨g, i * 4, none⟩ = some _ := hcc2 0 _ rfl; have hy1 : w2.cell? ⟨g, i * 4 + 1, none⟩ = some _ := hcc2 1 _ rfl; have hy2 : w2.cell? ⟨g, i * 4 + 2, none⟩ = some _ := hcc2 2 _ rfl; have hy3 : w2.cell? ⟨g, i * 4 + 3, none⟩ = some _ := hcc2 3 _ rfl; have hz0 : w2.frozen? ⟨g, i * 4, none⟩ = false := hfr2 0; have hz1 : w2.frozen? ⟨g, i * 4 + 1, none⟩ = false := hfr2 1; have hz2 : w2.frozen? ⟨g, i * 4 + 2, none⟩ = false := hfr2 2; have hz3 : w2.frozen? ⟨g, i * 4 + 3, none⟩ = false := hfr2 3; clear hcl2 hcc2 hfr2 hM2; have HQ2 := Aside0.mk HP2; clear HP2) | ((with_reducible refine gate_store (t := 89) (p := 33) rfl ?_); refine store_event (t := 89) (p := 33) (v := ?vo_w3) (w1 := ((((w2.setCell ⟨g, i * 4, none⟩ (.int .i64 x.f0)).setCell ⟨g, i * 4 + 1, none⟩ (.int .i64 x.f1)).setCell ⟨g, i * 4 + 2, none⟩ (.bool x.f2)).setCell ⟨g, i * 4 + 3, none⟩ (.string x.f3))) ?hg ?ho ?hn ?hr ?_; (case ho => rfl); (case hg => rfl); (case hn => rfl); (case hr => first | (go_simp; done) | (go_simp; rfl)); intro w3 hw; have HR3 := Aside0.mk (show Kd.R k89 89 w3 base (fun _ => True) (.slice (some ⟨g, 0, none⟩) n cap) (dk.set i x) from (by rw [hw]; exact HQ2.out.1)); have HG3 := Aside0.mk (show w2.grownBy w3 (some g) from (by rw [hw]; exact HQ2.out.2)); clear hw))
     go_roundg (n - (j + 1))
     case measure => omega
     case rel =>
      have hin : i < dk.length := by rw [HD.out.1]; omega
      refine ⟨i + 1, j + 1, dk.set i x, r3, by go_num, by go_num, by omega, by omega, by omega, ⟨HR3.out⟩, ⟨World.grownBy.trans (World.grownBy.trans HW.out (grown_of_below HB2.out _)) HG3.out⟩, ⟨by rw [List.length_set]; exact HD.out.1, ?_, HT.out.1, ?_⟩⟩
      ·rw [List.drop_set_of_lt (by omega), ← List.drop_drop, ← List.drop_drop, HD.out.2.1]
      ·rw [List.take_succ_eq_append_getElem (by simpa using hin), List.getElem_set_self, List.take_set_of_le (by omega), List.append_assoc]
       have := HD.out.2.2.2
       rw [HT.out.2] at this
       exact this
   ·obtain rfl : j = n := by omega
    have hltb : decide ((j : Int) < (j : Int)) = false := decide_eq_false (by omega)
    obtain ⟨ys, hy1, hy2, hy3, hy4⟩ := Kd.R_zero (okp := fun _ => False) (zs := [.int .i64 0, .int .i64 0, .bool false, .string ⟨#[]⟩]) (z := z89) rfl (by decide) (fun _ hk => hk.elim) (fun W => k89_mkM W base (fun _ => False) z89) (j - i) i dk wr (by have := HD.out.1; omega) (HD.out.1.symm ▸ HR1.out)
    have hcells : ∀ q, q < (j - i) * 4 → (wr.cell? ⟨g, i * 4 + q, none⟩).isSome = true ∧ wr.frozen? ⟨g, i * 4 + q, none⟩ = false := by
     intro q hq
     obtain ⟨c, hcl, _, hcc, hfr⟩ := Kd.R_elem HR1.out z89 ((i + q / 4 : Nat) : Int) (by omega) (by omega)
     have h1 := hcc (q % 4) _ (List.getElem?_eq_getElem (by rw [hcl]; exact Nat.mod_lt _ (by decide)))
     have h2 := hfr (q % 4)
     rw [Int.toNat_natCast] at h1 h2
     have e : (i + q / 4) * k89.sz + q % 4 = i * 4 + q := by
      show (i + q / 4) * 4 + q % 4 = i * 4 + q
      omega
     rw [e] at h1 h2
     exact ⟨by rw [h1]; rfl, h2⟩
    have hcl : ∀ ty, (Builtin.clear_ #[32] ty #[.slice (some ⟨g, i * 4, none⟩) (j - i) (cap - i)]).run Try.prog wr = .ok (.tuple #[]) (wr.setCells g (i * 4) (rep [.int .i64 0, .int .i64 0, .bool false, .string ⟨#[]⟩] (j - i))) :=
     fun ty => run_clear_rows wr 32 89 ty (.agg #[.int .i64 0, .int .i64 0, .bool false, .string ⟨#[]⟩]) Try.underlying32 (fun w => by go_simp <;> rfl) (by decide) (by decide) g (i * 4) _ _ (by omega) (fun q hq => (hcells q hq).1) (fun q hq => (hcells q hq).2)
    have hij2 : (i : Int) ≤ (j : Int) := by omega
    clear hcells
    go_wp2
    go_ret
    obtain ⟨d1, d2, d3, d4⟩ := HD.out
    have e2 : r2 = [] := by
     rw [List.drop_eq_nil_of_le (by rw [HL.out]; exact Nat.le_refl _)] at d3
     exact (Option.some.inj d3).symm
    have hR := Kd.R_take (m := i) hy3 (by rw [hy1, d1]; omega)
    rw [hy2, show dk.take i = r by rw [← d4, e2, List.append_nil]] at hR
    exact ⟨.slice (some ⟨g, 0, none⟩) i cap, rfl, hR, World.grownBy.trans HG1.out hy4⟩
set_option maxHeartbeats 4000000 in
set_option maxRecDepth 100000 in
theorem impl_Projected.del.calls (p : S89 → Option Bool) (gf : Nat) (lb : Array Value) (base : Nat) (A : Option Addr) (cap : Nat) (l0 r : List (S89)) (w : World) (hr0 : Kd.R k89 89 w base (fun _ => True) (.slice A l0.length cap) l0)
  (eg : ∀ args w, (callFunc gf args).run Try.prog w = .ok (.enter gf args) w) (hp : PredW Try.prog gf lb k89 mkA p l0 (fun W => w.grownBy W (Value.slice A l0.length cap).ownBlock)) (h : keepO p l0 = some r) :
  Calls Try.prog 90 #[.slice A l0.length cap, .func (.func gf) #[] lb] w fun e w' => ∃ v, e = .returned v ∧ Kd.R k89 89 w' base (fun _ => True) v r ∧ w.grownBy w' (Value.slice A l0.length cap).ownBlock := by
 cases A with
 | some ad =>
  obtain ⟨g, rfl⟩ := Kd.R_head hr0
  exact impl_Projected.del.cut p gf lb base g cap l0 r w hr0 eg hp h
 | none =>
  obtain ⟨_, hcap, hC0⟩ := Kd.R_reads' hr0
  have hl : l0 = [] := by
   rcases Nat.eq_zero_or_pos l0.length with h0 | h0
   ·exact List.eq_nil_of_length_eq_zero h0
   ·obtain ⟨ad, ha, _⟩ := hC0.2.2 h0
    cases ha
  subst hl
  obtain rfl := Option.some.inj h
  have HI := Aside0.mk (show Calls Try.prog 110 #[.slice none 0 cap, .func (.func gf) #[] lb] w fun e w' => e = .returned (.int .i64 (-1)) ∧ Below w.heap.size w w' from ix110.calls p gf lb none cap [] (-1) w hC0 eg (fun x hx => by cases hx) rfl)
  have HR := Aside0.mk hr0
  clear hr0 hp hC0 h
  go_enter Try.func90, Try.ntmps90
  go_wp2_with ((with_reducible refine gate_callee (f := 110) rfl ?_); refine goesL_ (some 10) rfl rfl Try.func110 (by kernel_rfl) rfl #[.slice none 0 cap, .func (.func gf) #[] lb] rfl (by (try simp only [List.map_toArray, List.map_cons, List.map_nil]); first | done | rfl) ?_; (with_reducible refine (HI.out).mono ?_); rintro e w' ⟨rfl, hb'⟩; refine ⟨_, rfl, ?_⟩)
  go_ret
  exact ⟨.slice none 0 cap, rfl, Kd.R_below HR.out hb', grown_of_below hb' _⟩
set_option maxHeartbeats 4000000 in
set_option maxRecDepth 100000 in
theorem impl_Projected.cl.calls (a1 a2 : Int) (x : S89) (b : Bool) (g1 g2 : Nat) (W : World) (h1 : W.heap[g1]? = some (.cells #[.int .i64 a1] 3 (0, 0))) (h2 : W.heap[g2]? = some (.cells #[.int .i64 a2] 3 (0, 0))) (hb : (impl_within.f x.f0 a1 a2).map (!·) = some b) :
  Calls Try.prog 92 (#[.agg #[.int .i64 x.f0, .int .i64 x.f1, .bool x.f2, .string x.f3]] ++ #[.pointer (some ⟨g1, 0, none⟩), .pointer (some ⟨g2, 0, none⟩)]) W fun e w' => e = .returned (.bool b) ∧ Below W.heap.size W w' := by
 obtain ⟨b0, hb0, rfl⟩ := Option.map_eq_some_iff.1 hb
 have H1 := Aside0.mk h1
 have H2 := Aside0.mk h2
 have HB0 := Aside0.mk hb0
 clear hb hb0 h1 h2
 show Calls Try.prog 92 #[.agg #[.int .i64 x.f0, .int .i64 x.f1, .bool x.f2, .string x.f3], .pointer (some ⟨g1, 0, none⟩), .pointer (some ⟨g2, 0, none⟩)] W _
 go_enter Try.func92, Try.ntmps92
 go_wp2_with (first | ((with_reducible refine gate_dst (N := 3) rfl ?_); refine box_event ?hg (N := 3) ?hd (cs := #[.int .i64 x.f0, .int .i64 x.f1, .bool x.f2, .string x.f3]) (t := 89) ?hr ?_; (case hd => rfl); (case hg => rfl); (case hr => first | (go_simp; done) | (go_simp; rfl)); intro gb hg w1 hbox hb; have HB := Aside0.mk hb; have f1 := blk_cell (blk_below H1.out hb) 0; have f2 := blk_cell (blk_below H2.out hb) 0; have f3 := blk_cell hbox 0; (try simp at f1 f2 f3); clear hg hbox hb) | ((with_reducible refine gate_callee (f := 71) rfl ?_); refine goesL_ (some 9) rfl rfl Try.func71 (by kernel_rfl) rfl #[.int .i64 x.f0, .int .i64 a1, .int .i64 a2] rfl (by (try simp only [List.map_toArray, List.map_cons, List.map_nil]); first | done | rfl) ?_; (with_reducible refine (impl_within.calls x.f0 a1 a2 b0 _ HB0.out).mono ?_); rintro e w2 ⟨rfl, ⟨nd, rfl⟩⟩; refine ⟨_, rfl, ?_⟩))
 go_ret
 exact ⟨rfl, pw_below_drewN HB.out _⟩
def impl_Projected.f (l0 : List (S89)) (a1 : Int) (a2 : Int) : Option (List (S89) × Int) := (impl_opsCode.f l0).bind fun t => if t = 0 then ((impl_Op_91.f l0).bind fun l => (keepO (fun x => (impl_within.f x.f0 a1 a2).map (!·)) l).map fun q => (q, 0)) else some (([] : List (S89)), t)
set_option maxHeartbeats 4000000 in
set_option maxRecDepth 100000 in
theorem impl_Projected.calls (A0 : Option Addr) (c0 : Nat) (l0 : List (S89)) (a1 : Int) (a2 : Int) (r1 : List (S89)) (r2 : Int) (w : World) (hr0 : Kd.C k89 w A0 l0.length l0) (hc0 : l0.length ≤ c0) (h : impl_Projected.f l0 a1 a2 = some (r1, r2)) :
  Calls Try.prog 42 #[.slice A0 l0.length c0, .int .i64 a1, .int .i64 a2] w fun e w' => ∃ v0_ : Value, e = .returned (.tuple #[v0_, .int .i64 r2]) ∧ Kd.R k89 89 w' w.heap.size (fun _ => True) v0_ r1 ∧ Below w.heap.size w w' := by
 have HR := Aside0.mk hr0
 have HC := Aside0.mk hc0
 clear hr0 hc0
 obtain ⟨t1, A1, h⟩ := Option.bind_eq_some_iff.1 h
 have A1 := Aside0.mk A1
 by_cases c1 : t1 = 0
 ·subst c1
  rw [if_pos rfl] at h
  obtain ⟨l, A2, h⟩ := Option.bind_eq_some_iff.1 h
  obtain ⟨q, A3, h⟩ := Option.map_eq_some_iff.1 h
  simp only [Prod.mk.injEq] at h
  obtain ⟨rfl, rfl⟩ := h
  have A2 := Aside0.mk A2
  have A3 := Aside0.mk A3
  go_enter Try.func42, Try.ntmps42
  go_wp2_with (first | ((with_reducible refine gate_dst (N := 4) rfl ?_); refine box_event ?hg (N := 4) ?hd (cs := #[.int .i64 a1]) (t := 3) ?hr ?_; (case hd => rfl); (case hg => rfl); (case hr => first | (go_simp; done) | (go_simp; rfl)); intro g1 hg w1 hbox hb; have HB1 := Aside0.mk hb; have HX1 := Aside0.mk hbox; clear hg hbox hb) | ((with_reducible refine gate_dst (N := 5) rfl ?_); refine box_event ?hg (N := 5) ?hd (cs := #[.int .i64 a2]) (t := 3) ?hr ?_; (case hd => rfl); (case hg => rfl); (case hr => first | (go_simp; done) | (go_simp; rfl)); intro g2 hg w2 hbox hb; have HB2 := Aside0.mk (below_step HB1.out hb); have HX2 := Aside0.mk (⟨blk_below HX1.out hb, hbox⟩ : w2.heap[g1]? = some (.cells #[.int .i64 a1] 3 (0, 0)) ∧ w2.heap[g2]? = some (.cells #[.int .i64 a2] 3 (0, 0))); clear hg hbox hb HB1 HX1) | ((with_reducible refine gate_callee (f := 89) rfl ?_); refine goesL_ (some 10) rfl rfl Try.func89 (by kernel_rfl) rfl #[.slice A0 l0.length c0] rfl (by (try simp only [List.map_toArray, List.map_cons, List.map_nil]); first | done | rfl) ?_; (with_reducible refine (impl_opsCode.calls A0 c0 l0 0 _ (Kd.C_below HR.out HB2.out) HC.out A1.out).mono ?_); rintro e w3 ⟨rfl, hb⟩; have HB3 := Aside0.mk (below_step HB2.out hb); have HX3 := Aside0.mk (And.intro (blk_below HX2.out.1 hb) (blk_below HX2.out.2 hb)); clear HB2 HX2 hb; refine ⟨_, rfl, ?_⟩) | ((with_reducible refine gate_callee (f := 91) rfl ?_); refine goesL_ (some 15) rfl rfl Try.func91 (by kernel_rfl) rfl #[.slice A0 l0.length c0] rfl (by (try simp only [List.map_toArray, List.map_cons, List.map_nil]); first | done | rfl) ?_; (with_reducible refine (impl_Op_91.calls A0 c0 l0 l _ (Kd.C_below HR.out HB3.out) HC.out A2.out).mono ?_); rintro e w4 ⟨v4, rfl, hR, hb⟩; obtain ⟨A4, c4, e4⟩ := Kd.R_slice hR; subst e4; have HR4 := Aside0.mk (Kd.R_lower hR HB3.out.size); have HB4 := Aside0.mk (below_step HB3.out hb); have HX4 := Aside0.mk (And.intro (And.intro (blk_below HX3.out.1 hb) (blk_lt HX3.out.1)) (And.intro (blk_below HX3.out.2 hb) (blk_lt HX3.out.2))); have HO4 := Aside0.mk (Kd.R_base hR); clear hR hb HX3 HB3; have hD := impl_Projected.del.calls (fun x => (impl_within.f x.f0 a1 a2).map (!·)) 92 #[.pointer (some ⟨g1, 0, none⟩), .pointer (some ⟨g2, 0, none⟩)] w.heap.size A4 c4 l q w4 HR4.out (fun a w => Try.call92 a w) (fun x _ b hb W cs hW hK => (by obtain rfl : cs = [.int .i64 x.f0, .int .i64 x.f1, .bool x.f2, .string x.f3] := (by first | exact hK | exact k89_open hK); exact impl_Projected.cl.calls a1 a2 x b g1 g2 W (blk_grown HX4.out.1.1 hW (fun e => by have h1 := HO4.out g1 e.symm; have h2 := HX4.out.1.2; omega)) (blk_grown HX4.out.2.1 hW (fun e => by have h1 := HO4.out g2 e.symm; have h2 := HX4.out.2.2; omega)) hb)) A3.out; have HD := Aside0.mk hD; clear hD; refine ⟨_, rfl, ?_⟩) | ((with_reducible refine (HD.out).mono ?_); rintro e w5 ⟨v5, rfl, hR5, hg5⟩; have HR5 := Aside0.mk hR5; have HB5 := Aside0.mk (HB4.out.grown hg5 HB4.out.size (Kd.R_base HR4.out)); clear hR5 hg5))
  go_ret2
  exact ⟨_, rfl, HR5.out, HB5.out⟩
 ·rw [if_neg c1] at h
  simp only [Option.some.injEq, Prod.mk.injEq] at h
  obtain ⟨rfl, rfl⟩ := h
  have c1b : (t1 == 0) = false := beq_eq_false_iff_ne.2 c1
  have c1n : (t1 != 0) = true := bne_iff_ne.2 c1
  clear c1
  go_enter Try.func42, Try.ntmps42
  go_wp2_with (first | ((with_reducible refine gate_dst (N := 4) rfl ?_); refine box_event ?hg (N := 4) ?hd (cs := #[.int .i64 a1]) (t := 3) ?hr ?_; (case hd => rfl); (case hg => rfl); (case hr => first | (go_simp; done) | (go_simp; rfl)); intro g1 hg w1 hbox hb; have HB1 := Aside0.mk hb; clear hg hbox hb) | ((with_reducible refine gate_dst (N := 5) rfl ?_); refine box_event ?hg (N := 5) ?hd (cs := #[.int .i64 a2]) (t := 3) ?hr ?_; (case hd => rfl); (case hg => rfl); (case hr => first | (go_simp; done) | (go_simp; rfl)); intro g2 hg w2 hbox hb; have HB2 := Aside0.mk (below_step HB1.out hb); clear hg hbox hb HB1) | ((with_reducible refine gate_callee (f := 89) rfl ?_); refine goesL_ (some 10) rfl rfl Try.func89 (by kernel_rfl) rfl #[.slice A0 l0.length c0] rfl (by (try simp only [List.map_toArray, List.map_cons, List.map_nil]); first | done | rfl) ?_; (with_reducible refine (impl_opsCode.calls A0 c0 l0 t1 _ (Kd.C_below HR.out HB2.out) HC.out A1.out).mono ?_); rintro e w3 ⟨rfl, hb⟩; have HB3 := Aside0.mk (below_step HB2.out hb); clear HB2 hb; refine ⟨_, rfl, ?_⟩))
  go_ret2
  exact ⟨.slice none 0 0, rfl, Kd.R_nil _ _ _ _ _, HB3.out⟩
end Go.Proofs.Ytmclmbhdgepjfaa.Q

