import Derived.Test.YtmclmbhdgepjfaaVdQx0
import Derived.Test.YtmclmbhdgepjfaaVdQx2
import Derived.Test.YtmclmbhdgepjfaaVdQx28
import Derived.Test.YtmclmbhdgepjfaaVdQx32
import Derived.Test.YtmclmbhdgepjfaaVdQx39
import Derived.Test.YtmclmbhdgepjfaaVdQx44
-- Laid by wip/xprint.py (a session's own program, over the kit's print.py). Lean checks it.
namespace Go.Proofs.Ytmclmbhdgepjfaa.Q
open Go.RowKit Go.Proofs.YtmclmbhdgepjfaaX Go.Proofs.YtmclmbhdgepjfaaW.PrintWords Go.Proofs.YtmclmbhdgepjfaaW.PrintLast Go.Proofs.YtmclmbhdgepjfaaW.PrintMore
attribute [local go_sem] max2_int min2_int max_two min_two max_three min_three max_four min_four   -- for this text's walks alone
set_option linter.unusedVariables false
set_option linter.unusedSimpArgs false

/-! ### impl_isOrder: function 103 (by hand) -/
set_option maxHeartbeats 4000000 in
set_option maxRecDepth 100000 in
theorem impl_isOrder.cf (p : Int → Option Bool) (gf : Nat) (lb : Array Value) (A0 : Option Addr) (c0 : Nat) (n : Nat) (l0 : List Int) (r : Bool) (w : World) (hn : l0.length = n) (hr0 : Kd.C (Kd.int .i64) w A0 n l0)
  (eg : ∀ args w, (callFunc gf args).run Try.prog w = .ok (.enter gf args) w) (hp : PredK Try.prog gf lb (Kd.int .i64) mk1 p l0 w) (h : anyO p l0 = some r) :
  Calls Try.prog 101 #[.slice A0 n c0, .func (.func gf) #[] lb] w fun e w' => e = .returned (.bool r) ∧ Below w.heap.size w w' := by
 subst hn
 obtain ⟨i, hi, rfl⟩ := Option.map_eq_some_iff.1 (show (idxO p 0 l0).map (fun i => decide (0 ≤ i)) = some r from h)
 have HC := Aside0.mk (ix125.calls p gf lb A0 c0 l0 i w hr0 eg hp hi)
 clear hr0 hp hi h
 go_enter Try.func101, Try.ntmps101
 go_wp2_with ((with_reducible refine (HC.out).mono ?_); rintro e w' ⟨rfl, hb'⟩)
 go_ret
 exact ⟨rfl, hb'⟩
def impl_isOrder.c (l0 : List (S89)) (k : Int) (a : Int) : Option Bool := if a = k then some true else if 0 ≤ k ∧ k < (l0.length : Int) ∧ 0 ≤ a ∧ a < (l0.length : Int) then impl_Op_isAhead.f (rd_T89 l0 k).f0 (rd_T89 l0 k).f1 (rd_T89 l0 k).f2 (rd_T89 l0 k).f3 (rd_T89 l0 a).f0 (rd_T89 l0 a).f1 (rd_T89 l0 a).f2 (rd_T89 l0 a).f3 else none
set_option maxHeartbeats 4000000 in
set_option maxRecDepth 100000 in
theorem impl_isOrder.cl (A0 : Option Addr) (c0 : Nat) (l0 : List (S89)) (k a : Int) (b : Bool) (g1 g2 : Nat) (W : World) (hr : Kd.C k89 W A0 l0.length l0) (h1 : W.heap[g1]? = some (.cells #[.int .i64 k] 3 (0, 0))) (h2 : W.heap[g2]? = some (.cells #[.slice A0 l0.length c0] 32 (0, 0))) (hb : impl_isOrder.c l0 k a = some b) :
  Calls Try.prog 126 (#[.int .i64 a] ++ #[.pointer (some ⟨g1, 0, none⟩), .pointer (some ⟨g2, 0, none⟩)]) W fun e w' => e = .returned (.bool b) ∧ Below W.heap.size W w' := by
 unfold impl_isOrder.c at hb
 have f1 := blk_cell h1 0
 have f2 := blk_cell h2 0
 simp at f1 f2
 show Calls Try.prog 126 #[.int .i64 a, .pointer (some ⟨g1, 0, none⟩), .pointer (some ⟨g2, 0, none⟩)] W _
 by_cases c1 : a = k
 ·rw [if_pos c1] at hb
  obtain rfl := Option.some.inj hb
  subst c1
  have c1b : (a == a) = true := beq_self_eq_true a
  clear hr h1 h2 hb
  go_enter Try.func126, Try.ntmps126
  go_wp2
  go_quiet (fail)
  go_wp2
  go_ret
  exact ⟨rfl, pw_below_drewN (Below.refl _ _) _⟩
 ·rw [if_neg c1] at hb
  have c1b : (a == k) = false := beq_eq_false_iff_ne.2 c1
  by_cases c2 : 0 ≤ k ∧ k < (l0.length : Int) ∧ 0 ≤ a ∧ a < (l0.length : Int)
  ·rw [if_pos c2] at hb
   obtain ⟨ad, rfl, hx0, hx1, hx2, hx3⟩ := at_T89 hr k c2.1 c2.2.1
   obtain ⟨ad', e', hy0, hy1, hy2, hy3⟩ := at_T89 hr a c2.2.2.1 c2.2.2.2
   cases e'
   have q0 := eq_true c2.1
   have q1 := eq_true c2.2.1
   have q2 := eq_true c2.2.2.1
   have q3 := eq_true c2.2.2.2
   generalize rd_T89 l0 k = x at *
   generalize rd_T89 l0 a = y at *
   have A1 := Aside0.mk hb
   clear hr h1 h2 hb c1 c2
   go_enter Try.func126, Try.ntmps126
   go_wp2
   refine wp_region_still_tail 12 (by kernel_rfl) (by kernel_rfl) ?_
   simp only [List.take_succ_cons, List.take_zero, List.drop_succ_cons, List.drop_zero]
   generalize hW1 : ({ W with drawn := W.drawn + 1 } : World) = W1
   have HB := Aside0.mk (show Below W.heap.size W W1 from by rw [← hW1]; exact below_drew (Below.refl _ _))
   have z0 := pw_cell_below HB.out hx0
   have z1 := pw_cell_below HB.out hx1
   have z2 := pw_cell_below HB.out hx2
   have z3 := pw_cell_below HB.out hx3
   have y0 := pw_cell_below HB.out hy0
   have y1 := pw_cell_below HB.out hy1
   have y2 := pw_cell_below HB.out hy2
   have y3 := pw_cell_below HB.out hy3
   have v1 := pw_cell_below HB.out f1
   have v2 := pw_cell_below HB.out f2
   clear hx0 hx1 hx2 hx3 hy0 hy1 hy2 hy3 f1 f2 hW1
   repeat still_step
   refine wpStill_nil ?_
   change wpList _ _ _ _ _ W1
   go_wp2_with ((with_reducible refine (impl_Op_isAhead.calls x.f0 x.f1 x.f2 x.f3 y.f0 y.f1 y.f2 y.f3 b _ A1.out).mono ?_); rintro e w2 ⟨rfl, hb⟩; have HB2 := Aside0.mk (below_step HB.out hb); clear hb)
   go_ret
   exact ⟨rfl, HB2.out⟩
  ·rw [if_neg c2] at hb
   cases hb
def impl_isOrder.g1 (l0 : List (S89)) : List Int → List Int → ByteArray → Option Bool
 | _, [], _ => some true
 | pre, k :: ks, v => (anyO (fun a => impl_isOrder.c l0 k a) pre).bind fun b => if b = true then some false else if 0 ≤ k ∧ k < (l0.length : Int) then (impl_Op_finds.f (rd_T89 l0 k).f0 (rd_T89 l0 k).f1 (rd_T89 l0 k).f2 (rd_T89 l0 k).f3 v).bind fun q => if q.2 = true then impl_isOrder.g1 l0 (pre ++ [k]) ks q.1 else some false else none
def impl_isOrder.g2 (k : Nat) (l1 : List Int) : Int → List (S89) → Option Bool
 | _, [] => some true
 | i, x :: xs => (impl_Op_hasEnded.f x.f0 x.f1 x.f2 x.f3).bind fun b => if b = true then (slices_Contains_int_int.f k l1 i).bind fun c => if c = true then impl_isOrder.g2 k l1 (i + 1) xs else some false else impl_isOrder.g2 k l1 (i + 1) xs
def impl_isOrder.f (k : Nat) (l0 : List (S89)) (l1 : List Int) : Option Bool := (impl_isOrder.g1 l0 [] l1 (⟨#[]⟩ : ByteArray)).bind fun b => if b = true then impl_isOrder.g2 k l1 0 l0 else some false
theorem impl_isOrder.mono2 (l1 : List Int) : ∀ (l : List (S89)) (i : Int) (k : Nat), LeO (impl_isOrder.g2 k l1 i l) (impl_isOrder.g2 (k + 1) l1 i l)
 | [], _, _ => LeO.refl _
 | x :: xs, i, k => LeO.bind (LeO.refl _) (fun b => LeO.ite (LeO.bind (slices_Contains_int_int.mono _ _ _) (fun c => LeO.ite (impl_isOrder.mono2 l1 xs (i + 1) k) (LeO.refl _))) (impl_isOrder.mono2 l1 xs (i + 1) k))
theorem impl_isOrder.mono : ∀ a0 a1 k, LeO (impl_isOrder.f k a0 a1) (impl_isOrder.f (k + 1) a0 a1) := fun l0 l1 k => LeO.bind (LeO.refl _) (fun b => LeO.ite (impl_isOrder.mono2 l1 l0 0 k) (LeO.refl _))
set_option maxHeartbeats 4000000 in
set_option maxRecDepth 100000 in
theorem impl_isOrder.calls (k : Nat) (A0 : Option Addr) (c0 : Nat) (l0 : List (S89)) (A1 : Option Addr) (c1 : Nat) (l1 : List Int) (r : Bool) (w : World) (hr0 : Kd.C k89 w A0 l0.length l0) (hc0 : l0.length ≤ c0) (hr1 : Kd.C (Kd.int .i64) w A1 l1.length l1) (hc1 : l1.length ≤ c1) (h : impl_isOrder.f k l0 l1 = some r) :
  Calls Try.prog 103 #[.slice A0 l0.length c0, .slice A1 l1.length c1] w fun e w' => e = .returned (.bool r) ∧ Below w.heap.size w w' := by
 have HR0 := Aside0.mk hr0
 have HC0 := Aside0.mk hc0
 have HR1 := Aside0.mk hr1
 have HC1 := Aside0.mk hc1
 have hn0 := hr0.2.1
 have hn1 := hr1.2.1
 obtain ⟨b1, G1, G2⟩ := Option.bind_eq_some_iff.1 h
 have H1 := Aside0.mk G1
 have H2 := Aside0.mk (show (if b1 = true then impl_isOrder.g2 k l1 0 l0 else some false) = some r from G2)
 clear hr0 hc0 hr1 h G1 G2
 go_enter Try.func103, Try.ntmps103
 go_wp2_with ((with_reducible refine gate_dst (N := 2) rfl ?_); refine box_event ?hg (N := 2) ?hd (cs := #[.slice A0 l0.length c0]) (t := 32) ?hr ?_; (case hd => rfl); (case hg => rfl); (case hr => first | (go_simp; done) | (go_simp; rfl)); intro g2 hg w1 hbox hb; have HB1 := Aside0.mk hb; have HX1 := Aside0.mk hbox; clear hg hbox hb)
 go_loopg [14, 5] l1.length (fun gg s14 s5 wr => ∃ (pre suf : List Int) (v : ByteArray), s14 = .int .i64 (pre.length : Int) ∧ s5 = .string v ∧ suf.length ≤ gg ∧ pre.length + suf.length = l1.length ∧ Aside0 (l1 = pre ++ suf) ∧ Aside0 (impl_isOrder.g1 l0 pre suf v = some b1) ∧ Aside0 (Below w.heap.size w wr) ∧ Aside0 (wr.heap[g2]? = some (.cells #[.slice A0 l0.length c0] 32 (0, 0))))
 case atStart => exact ⟨[], l1, ⟨#[]⟩, by rfl, by rfl, Nat.le_refl _, by simp, ⟨rfl⟩, H1, HB1, HX1⟩
 case round =>
  obtain ⟨pre, suf, v, rfl, rfl, hgg, hlen, HE, HG, HB, HX⟩ := hrel
  have f2 := blk_cell HX.out 0
  simp at f2
  have hpre : pre.length ≤ l1.length := by omega
  cases suf with
  | nil =>
   have hl1 : pre.length = l1.length := by simpa using hlen
   have hltb : decide ((pre.length : Int) < (l1.length : Int)) = false := decide_eq_false (by omega)
   have hltc : decide (pre.length < l1.length) = false := decide_eq_false (by omega)
   have hltd : (pre.length < l1.length) = False := eq_false (by omega)
   obtain rfl : b1 = true := (Option.some.inj HG.out).symm
   have G2 := Aside0.mk (show impl_isOrder.g2 k l1 ((0 : Nat) : Int) (l0.drop 0) = some r from by have := H2.out; rw [if_pos rfl] at this; exact this)
   clear HG HE H1 H2 hl1 hlen hpre hgg
   go_wp2
   go_loopg [39] l0.length (fun gg s39 wr2 => ∃ (i : Nat), s39 = .int .i64 i ∧ i ≤ l0.length ∧ l0.length - i ≤ gg ∧ Aside0 (impl_isOrder.g2 k l1 i (l0.drop i) = some r) ∧ Aside0 (Below w.heap.size w wr2))
   case atStart => exact ⟨0, rfl, by omega, by omega, G2, HB⟩
   case round =>
    obtain ⟨i, rfl, hin, hgg2, HG2, HB2⟩ := hrel
    by_cases hlt : i < l0.length
    ·have hltb2 : decide ((i : Int) < (l0.length : Int)) = true := decide_eq_true (by omega)
     obtain ⟨ad, e1, hx0, hx1, hx2, hx3⟩ := at_T89 HR0.out (i : Int) (by omega) (by omega)
     cases e1
     replace hx0 := pw_cell_below HB2.out hx0
     replace hx1 := pw_cell_below HB2.out hx1
     replace hx2 := pw_cell_below HB2.out hx2
     replace hx3 := pw_cell_below HB2.out hx3
     simp only [Int.toNat_natCast] at hx0 hx1 hx2 hx3
     have e2 : l0.drop i = rd_T89 l0 i :: l0.drop (i + 1) := by
      rw [List.drop_eq_getElem_cons hlt]
      congr 1
      show _ = l0.getD (i : Int).toNat z89
      rw [Int.toNat_natCast, List.getD_eq_getElem?_getD, List.getElem?_eq_getElem hlt]
      rfl
     have G3 := HG2.out
     rw [e2] at G3
     generalize rd_T89 l0 i = x at *
     obtain ⟨b, B1, B2⟩ := Option.bind_eq_some_iff.1 G3
     have AE := Aside0.mk B1
     have hq0 := eq_true (show 0 ≤ (i : Int) by omega)
     have hq1 := eq_true (show (i : Int) < (l0.length : Int) by omega)
     clear G3 HG2 e2 B1
     cases b with
     | true =>
      obtain ⟨c, C1, C2⟩ := Option.bind_eq_some_iff.1 B2
      have AC := Aside0.mk C1
      clear B2 C1
      cases c with
      | true =>
       have G4 := Aside0.mk (show impl_isOrder.g2 k l1 ((i + 1 : Nat) : Int) (l0.drop (i + 1)) = some r from C2)
       clear C2
       go_wp2_with (first | ((with_reducible refine (impl_Op_hasEnded.calls x.f0 x.f1 x.f2 x.f3 true _ AE.out).mono ?_); rintro e w3 ⟨rfl, hb⟩; have HB3 := Aside0.mk (below_step (below_alloc HB2.out (.cells #[.int .i64 x.f0, .int .i64 x.f1, .bool x.f2, .string x.f3] 89)) hb); clear hb) | ((with_reducible refine (slices_Contains_int_int.calls k A1 c1 l1 i true _ (Kd.C_below HR1.out HB3.out) HC1.out AC.out).mono ?_); rintro e w4 ⟨rfl, ⟨nd, rfl⟩⟩))
       go_roundg (l0.length - (i + 1))
       case measure => omega
       case rel => exact ⟨i + 1, by go_num, by omega, by omega, G4, ⟨pw_below_drewN HB3.out _⟩⟩
      | false =>
       obtain rfl := Option.some.inj C2
       clear C2
       go_wp2_with (first | ((with_reducible refine (impl_Op_hasEnded.calls x.f0 x.f1 x.f2 x.f3 true _ AE.out).mono ?_); rintro e w3 ⟨rfl, hb⟩; have HB3 := Aside0.mk (below_step (below_alloc HB2.out (.cells #[.int .i64 x.f0, .int .i64 x.f1, .bool x.f2, .string x.f3] 89)) hb); clear hb) | ((with_reducible refine (slices_Contains_int_int.calls k A1 c1 l1 i false _ (Kd.C_below HR1.out HB3.out) HC1.out AC.out).mono ?_); rintro e w4 ⟨rfl, ⟨nd, rfl⟩⟩))
       go_ret
       exact ⟨rfl, pw_below_drewN HB3.out _⟩
     | false =>
      have G4 := Aside0.mk (show impl_isOrder.g2 k l1 ((i + 1 : Nat) : Int) (l0.drop (i + 1)) = some r from B2)
      clear B2
      go_wp2_with ((with_reducible refine (impl_Op_hasEnded.calls x.f0 x.f1 x.f2 x.f3 false _ AE.out).mono ?_); rintro e w3 ⟨rfl, hb⟩; have HB3 := Aside0.mk (below_step (below_alloc HB2.out (.cells #[.int .i64 x.f0, .int .i64 x.f1, .bool x.f2, .string x.f3] 89)) hb); clear hb)
      go_roundg (l0.length - (i + 1))
      case measure => omega
      case rel => exact ⟨i + 1, by go_num, by omega, by omega, G4, ⟨HB3.out⟩⟩
    ·obtain rfl : i = l0.length := by omega
     have hltb2 : decide ((l0.length : Int) < (l0.length : Int)) = false := decide_eq_false (by omega)
     have G3 := HG2.out
     rw [List.drop_eq_nil_of_le (Nat.le_refl _)] at G3
     obtain rfl := Option.some.inj G3
     clear G3 HG2
     go_wp2
     go_ret
     exact ⟨rfl, HB2.out⟩
  | cons kk suf =>
   have hlt : pre.length < l1.length := by simp at hlen; omega
   have hltb : decide ((pre.length : Int) < (l1.length : Int)) = true := decide_eq_true (by omega)
   obtain ⟨ad, e1, hcell⟩ := Kd.at_int HR1.out (pre.length : Int) (by omega) (by omega)
   cases e1
   replace hcell := pw_cell_below HB.out hcell
   have hrd : rd l1 (pre.length : Int) = kk := by
    rw [HE.out]
    show (pre ++ kk :: suf).getD (pre.length : Int).toNat 0 = kk
    rw [Int.toNat_natCast, List.getD_eq_getElem?_getD, List.getElem?_append_right (Nat.le_refl _), Nat.sub_self]
    rfl
   rw [hrd, Int.toNat_natCast] at hcell
   have hCpre : Kd.C (Kd.int .i64) w (some ad) pre.length pre := by
    have z := Kd.C_take HR1.out hpre
    rw [show l1.take pre.length = pre by rw [HE.out]; simp] at z
    exact z
   obtain ⟨b, B1, B2⟩ := Option.bind_eq_some_iff.1 HG.out
   have BW := Aside0.mk (below_alloc HB.out (.cells #[.int .i64 kk] 3))
   have hcf : Calls Try.prog 101 #[.slice (some ad) pre.length c1, .func (.func 126) #[] #[.pointer (some ⟨wr.heap.size, 0, none⟩), .pointer (some ⟨g2, 0, none⟩)]] (wr.alloc (.cells #[.int .i64 kk] 3)) fun e w' => e = .returned (.bool b) ∧ Below (wr.alloc (.cells #[.int .i64 kk] 3)).heap.size (wr.alloc (.cells #[.int .i64 kk] 3)) w' :=
    impl_isOrder.cf (fun a => impl_isOrder.c l0 kk a) 126 #[.pointer (some ⟨wr.heap.size, 0, none⟩), .pointer (some ⟨g2, 0, none⟩)] (some ad) c1 pre.length pre b _ rfl (Kd.C_below hCpre BW.out) (fun a w => Try.call126 a w) (fun x _ b hb W cs hW hK => (by
     obtain rfl : cs = [.int .i64 x] := hK
     exact (impl_isOrder.cl A0 c0 l0 kk x b wr.heap.size g2 W (Kd.C_below (Kd.C_below HR0.out BW.out) hW) (blk_below (blk_new wr _) hW) (blk_below (blk_below HX.out (below_alloc (Below.refl _ _) _)) hW) hb).mono fun e w' h' => ⟨h'.1, below_step hW h'.2⟩)) B1
   have HCF := Aside0.mk hcf
   clear hcf hrd hCpre B1
   have hq0 := eq_true (show 0 ≤ (pre.length : Int) by omega)
   have hq1 := eq_true (show (pre.length : Int) < (l1.length : Int) by omega)
   have hq2 := eq_true (show (pre.length : Int) ≤ (l1.length : Int) by omega)
   cases b with
   | true =>
    obtain rfl : b1 = false := (Option.some.inj B2).symm
    obtain rfl : r = false := (Option.some.inj H2.out).symm
    clear B2 HG
    go_wp2_with ((with_reducible refine (HCF.out).mono ?_); rintro e w2 ⟨rfl, hb⟩; have HB2 := Aside0.mk (below_step BW.out hb); clear hb)
    go_ret
    exact ⟨rfl, HB2.out⟩
   | false =>
    rw [if_neg (by decide)] at B2
    by_cases hk : 0 ≤ kk ∧ kk < (l0.length : Int)
    ·rw [if_pos hk] at B2
     obtain ⟨q, Q1, Q2⟩ := Option.bind_eq_some_iff.1 B2
     obtain ⟨q1, q2⟩ := q
     obtain ⟨ad0, e1, hx0, hx1, hx2, hx3⟩ := at_T89 HR0.out kk hk.1 hk.2
     cases e1
     have hk0 := eq_true hk.1
     have hk1 := eq_true hk.2
     replace hx0 := pw_cell_below BW.out hx0
     replace hx1 := pw_cell_below BW.out hx1
     replace hx2 := pw_cell_below BW.out hx2
     replace hx3 := pw_cell_below BW.out hx3
     generalize rd_T89 l0 kk = x at *
     have HN := Aside0.mk (blk_new wr (.cells #[.int .i64 kk] 3))
     have HXW := Aside0.mk (blk_below HX.out (below_alloc (Below.refl _ _) (.cells #[.int .i64 kk] 3)))
     have AQ := Aside0.mk Q1
     have HX0 := Aside0.mk (And.intro hx0 (And.intro hx1 (And.intro hx2 hx3)))
     clear Q1 B2 hx0 hx1 hx2 hx3 hk
     cases q2 with
     | true =>
      have G5 := Aside0.mk (show impl_isOrder.g1 l0 (pre ++ [kk]) suf q1 = some b1 from Q2)
      clear Q2 HG
      go_wp2_with (first | ((with_reducible refine (HCF.out).mono ?_); rintro e w2 ⟨rfl, hb⟩; have f2 := blk_cell (blk_below HXW.out hb) 0; have f3 := blk_cell (blk_below HN.out hb) 0; (try simp at f2 f3); have hx0 := pw_cell_below hb HX0.out.1; have hx1 := pw_cell_below hb HX0.out.2.1; have hx2 := pw_cell_below hb HX0.out.2.2.1; have hx3 := pw_cell_below hb HX0.out.2.2.2; have HB2 := Aside0.mk (below_step BW.out hb); have HX2 := Aside0.mk (blk_below HXW.out hb); clear hb) | ((with_reducible refine (impl_Op_finds.calls x.f0 x.f1 x.f2 x.f3 v q1 true _ AQ.out).mono ?_); rintro e w3 ⟨rfl, hb⟩; have HB3 := Aside0.mk (below_step HB2.out hb); have HX3 := Aside0.mk (blk_below HX2.out hb); clear hb))
      go_roundg suf.length
      case measure => simp at hgg; omega
      case rel => exact ⟨pre ++ [kk], suf, q1, by rw [List.length_append]; go_num, rfl, Nat.le_refl _, by simp at hlen ⊢; omega, ⟨by rw [HE.out]; simp⟩, G5, HB3, HX3⟩
     | false =>
      obtain rfl : b1 = false := (Option.some.inj Q2).symm
      obtain rfl : r = false := (Option.some.inj H2.out).symm
      clear Q2 HG
      go_wp2_with (first | ((with_reducible refine (HCF.out).mono ?_); rintro e w2 ⟨rfl, hb⟩; have f2 := blk_cell (blk_below HXW.out hb) 0; have f3 := blk_cell (blk_below HN.out hb) 0; (try simp at f2 f3); have hx0 := pw_cell_below hb HX0.out.1; have hx1 := pw_cell_below hb HX0.out.2.1; have hx2 := pw_cell_below hb HX0.out.2.2.1; have hx3 := pw_cell_below hb HX0.out.2.2.2; have HB2 := Aside0.mk (below_step BW.out hb); clear hb) | ((with_reducible refine (impl_Op_finds.calls x.f0 x.f1 x.f2 x.f3 v q1 false _ AQ.out).mono ?_); rintro e w3 ⟨rfl, hb⟩; have HB3 := Aside0.mk (below_step HB2.out hb); clear hb))
      go_ret
      exact ⟨rfl, HB3.out⟩
    ·rw [if_neg hk] at B2
     cases B2
/-! ### impl_OrderLegal: function 52 (by hand) -/
set_option maxHeartbeats 4000000 in
set_option maxRecDepth 100000 in
theorem impl_OrderLegal.cl (A0 : Option Addr) (c0 : Nat) (l0 : List (S89)) (hn : l0.length ≤ 9223372036854775807) (x : Int) (b : Bool) (g : Nat) (W : World) (h : W.heap[g]? = some (.cells #[.slice A0 l0.length c0] 32 (0, 0))) (hb : (impl_within.f x 0 (wrap64 ((l0.length : Int) - 1))).map (!·) = some b) :
  Calls Try.prog 102 (#[.int .i64 x] ++ #[.pointer (some ⟨g, 0, none⟩)]) W fun e w' => e = .returned (.bool b) ∧ Below W.heap.size W w' := by
 obtain ⟨b0, hb0, rfl⟩ := Option.map_eq_some_iff.1 hb
 have f1 := blk_cell h 0
 simp at f1
 have hw : wrap64 ((l0.length : Int) - 1) = (l0.length : Int) - 1 := by unfold wrap64; omega
 rw [hw] at hb0
 have HB0 := Aside0.mk hb0
 have hw2 : IntKind.i64.wrap ((l0.length : Int) - 1) = (l0.length : Int) - 1 := IntWalk.i64_in _ (by omega)
 clear hb hb0 h hw
 show Calls Try.prog 102 #[.int .i64 x, .pointer (some ⟨g, 0, none⟩)] W _
 go_enter Try.func102, Try.ntmps102
 go_wp2_with ((with_reducible refine (impl_within.calls x 0 ((l0.length : Int) - 1) b0 _ HB0.out).mono ?_); rintro e w2 ⟨rfl, ⟨nd, rfl⟩⟩)
 go_ret
 exact ⟨rfl, pw_below_drewN (Below.refl _ _) _⟩
def impl_OrderLegal.f (k : Nat) (l0 : List (S89)) (l1 : List Int) : Option (Bool × Int) := (impl_isList_int.f l1).bind fun b => if b = true then ((impl_opsCode.f l0).bind fun c => if c = 0 then (if (l1.length : Int) > 7 then some (false, 1) else (anyO (fun x => (impl_within.f x 0 (wrap64 ((l0.length : Int) - 1))).map (!·)) l1).bind fun d => if d = true then some (false, 4) else (impl_isOrder.f k l0 l1).map fun q => (q, 0)) else some (false, c)) else some (false, 2)
theorem impl_OrderLegal.mono : ∀ a0 a1 k, LeO (impl_OrderLegal.f k a0 a1) (impl_OrderLegal.f (k + 1) a0 a1) := fun l0 l1 k => LeO.bind (LeO.refl _) (fun b => LeO.ite (LeO.bind (LeO.refl _) (fun c => LeO.ite (LeO.ite (LeO.refl _) (LeO.bind (LeO.refl _) (fun d => LeO.ite (LeO.refl _) (LeO.map _ (impl_isOrder.mono l0 l1 k))))) (LeO.refl _))) (LeO.refl _))
set_option maxHeartbeats 4000000 in
set_option maxRecDepth 100000 in
theorem impl_OrderLegal.calls (k : Nat) (A0 : Option Addr) (c0 : Nat) (l0 : List (S89)) (A1 : Option Addr) (c1 : Nat) (l1 : List Int) (r1 : Bool) (r2 : Int) (w : World) (hr0 : Kd.C k89 w A0 l0.length l0) (hc0 : l0.length ≤ c0) (hr1 : Kd.C (Kd.int .i64) w A1 l1.length l1) (hc1 : l1.length ≤ c1) (h : impl_OrderLegal.f k l0 l1 = some (r1, r2)) :
  Calls Try.prog 52 #[.slice A0 l0.length c0, .slice A1 l1.length c1] w fun e w' => e = .returned (.tuple #[.bool r1, .int .i64 r2]) ∧ Below w.heap.size w w' := by
 have HR0 := Aside0.mk hr0
 have HC0 := Aside0.mk hc0
 have HR1 := Aside0.mk hr1
 have HC1 := Aside0.mk hc1
 have hn0 := hr0.2.1
 clear hr0 hc0 hr1 hc1
 obtain ⟨b, E1, h⟩ := Option.bind_eq_some_iff.1 h
 have E1 := Aside0.mk E1
 cases b with
 | false =>
  rw [if_neg (by decide)] at h
  simp only [Option.some.injEq, Prod.mk.injEq] at h
  obtain ⟨rfl, rfl⟩ := h
  go_enter Try.func52, Try.ntmps52
  go_wp2_with (first | ((with_reducible refine gate_dst (N := 2) rfl ?_); refine box_event ?hg (N := 2) ?hd (cs := #[.slice A0 l0.length c0]) (t := 32) ?hr ?_; (case hd => rfl); (case hg => rfl); (case hr => first | (go_simp; done) | (go_simp; rfl)); intro g2 hg w1 hbox hb; have HB1 := Aside0.mk hb; have HX1 := Aside0.mk hbox; have f2 := blk_cell hbox 0; (try simp at f2); clear hg hbox hb) | ((with_reducible refine (impl_isList_int.calls A1 c1 l1 false _ (Kd.C_below HR1.out HB1.out) HC1.out E1.out).mono ?_); rintro e w2 ⟨rfl, ⟨nd2, rfl⟩⟩; have HX2 := Aside0.mk (show (w1.drewN nd2).heap[g2]? = some (.cells #[.slice A0 l0.length c0] 32 (0, 0)) from HX1.out)))
  go_ret2
  exact ⟨rfl, pw_below_drewN HB1.out _⟩
 | true =>
  rw [if_pos rfl] at h
  obtain ⟨c, E2, h⟩ := Option.bind_eq_some_iff.1 h
  have E2 := Aside0.mk E2
  by_cases hc : c = 0
  ·subst hc
   rw [if_pos rfl] at h
   by_cases hl : (l1.length : Int) > 7
   ·rw [if_pos hl] at h
    simp only [Option.some.injEq, Prod.mk.injEq] at h
    obtain ⟨rfl, rfl⟩ := h
    have hl1 : decide (7 < (l1.length : Int)) = true := decide_eq_true hl
    have hl2 : decide (7 < l1.length) = true := decide_eq_true (by omega)
    have hl3 : (7 < l1.length) = True := eq_true (by omega)
    go_enter Try.func52, Try.ntmps52
    go_wp2_with (first | ((with_reducible refine gate_dst (N := 2) rfl ?_); refine box_event ?hg (N := 2) ?hd (cs := #[.slice A0 l0.length c0]) (t := 32) ?hr ?_; (case hd => rfl); (case hg => rfl); (case hr => first | (go_simp; done) | (go_simp; rfl)); intro g2 hg w1 hbox hb; have HB1 := Aside0.mk hb; have HX1 := Aside0.mk hbox; have f2 := blk_cell hbox 0; (try simp at f2); clear hg hbox hb) | ((with_reducible refine (impl_isList_int.calls A1 c1 l1 true _ (Kd.C_below HR1.out HB1.out) HC1.out E1.out).mono ?_); rintro e w2 ⟨rfl, ⟨nd2, rfl⟩⟩; have HX2 := Aside0.mk (show (w1.drewN nd2).heap[g2]? = some (.cells #[.slice A0 l0.length c0] 32 (0, 0)) from HX1.out)) | ((with_reducible refine (impl_opsCode.calls A0 c0 l0 0 _ (Kd.C_below HR0.out (pw_below_drewN HB1.out _)) HC0.out E2.out).mono ?_); rintro e w3 ⟨rfl, hb⟩; have HB3 := Aside0.mk (below_step (pw_below_drewN HB1.out _) hb); have HX3 := Aside0.mk (blk_below HX2.out hb); have f3 := blk_cell HX3.out 0; (try simp at f3); clear hb))
    go_ret2
    exact ⟨rfl, HB3.out⟩
   ·rw [if_neg hl] at h
    obtain ⟨d, E3, h⟩ := Option.bind_eq_some_iff.1 h
    have E3 := Aside0.mk E3
    have hl1 : decide (7 < (l1.length : Int)) = false := decide_eq_false hl
    have hl2 : decide (7 < l1.length) = false := decide_eq_false (by omega)
    have hl3 : (7 < l1.length) = False := eq_false (by omega)
    clear hl
    cases d with
    | true =>
     rw [if_pos rfl] at h
     simp only [Option.some.injEq, Prod.mk.injEq] at h
     obtain ⟨rfl, rfl⟩ := h
     go_enter Try.func52, Try.ntmps52
     go_wp2_with (first | ((with_reducible refine gate_dst (N := 2) rfl ?_); refine box_event ?hg (N := 2) ?hd (cs := #[.slice A0 l0.length c0]) (t := 32) ?hr ?_; (case hd => rfl); (case hg => rfl); (case hr => first | (go_simp; done) | (go_simp; rfl)); intro g2 hg w1 hbox hb; have HB1 := Aside0.mk hb; have HX1 := Aside0.mk hbox; have f2 := blk_cell hbox 0; (try simp at f2); clear hg hbox hb) | ((with_reducible refine (impl_isList_int.calls A1 c1 l1 true _ (Kd.C_below HR1.out HB1.out) HC1.out E1.out).mono ?_); rintro e w2 ⟨rfl, ⟨nd2, rfl⟩⟩; have HX2 := Aside0.mk (show (w1.drewN nd2).heap[g2]? = some (.cells #[.slice A0 l0.length c0] 32 (0, 0)) from HX1.out)) | ((with_reducible refine (impl_opsCode.calls A0 c0 l0 0 _ (Kd.C_below HR0.out (pw_below_drewN HB1.out _)) HC0.out E2.out).mono ?_); rintro e w3 ⟨rfl, hb⟩; have HB3 := Aside0.mk (below_step (pw_below_drewN HB1.out _) hb); have HX3 := Aside0.mk (blk_below HX2.out hb); have f3 := blk_cell HX3.out 0; (try simp at f3); clear hb; have HCF := Aside0.mk (show Calls Try.prog 101 #[.slice A1 l1.length c1, .func (.func 102) #[] #[.pointer (some ⟨g2, 0, none⟩)]] w3 fun e w' => e = .returned (.bool true) ∧ Below w3.heap.size w3 w' from impl_isOrder.cf (fun x => (impl_within.f x 0 (wrap64 ((l0.length : Int) - 1))).map (!·)) 102 #[.pointer (some ⟨g2, 0, none⟩)] A1 c1 l1.length l1 true _ rfl (Kd.C_below HR1.out HB3.out) (fun a w => Try.call102 a w) (fun x _ b hb W cs hW hK => (by obtain rfl : cs = [.int .i64 x] := hK; exact (impl_OrderLegal.cl A0 c0 l0 hn0 x b g2 W (blk_below HX3.out hW) hb).mono fun e w' h' => ⟨h'.1, below_step hW h'.2⟩)) E3.out)) | ((with_reducible refine (HCF.out).mono ?_); rintro e w4 ⟨rfl, hb⟩; have HB4 := Aside0.mk (below_step HB3.out hb); have HX4 := Aside0.mk (blk_below HX3.out hb); have f4 := blk_cell HX4.out 0; (try simp at f4); clear hb))
     go_ret2
     exact ⟨rfl, HB4.out⟩
    | false =>
     rw [if_neg (by decide)] at h
     obtain ⟨r3, E4, h⟩ := Option.map_eq_some_iff.1 h
     simp only [Prod.mk.injEq] at h
     obtain ⟨rfl, rfl⟩ := h
     have E4 := Aside0.mk E4
     go_enter Try.func52, Try.ntmps52
     go_wp2_with (first | ((with_reducible refine gate_dst (N := 2) rfl ?_); refine box_event ?hg (N := 2) ?hd (cs := #[.slice A0 l0.length c0]) (t := 32) ?hr ?_; (case hd => rfl); (case hg => rfl); (case hr => first | (go_simp; done) | (go_simp; rfl)); intro g2 hg w1 hbox hb; have HB1 := Aside0.mk hb; have HX1 := Aside0.mk hbox; have f2 := blk_cell hbox 0; (try simp at f2); clear hg hbox hb) | ((with_reducible refine (impl_isList_int.calls A1 c1 l1 true _ (Kd.C_below HR1.out HB1.out) HC1.out E1.out).mono ?_); rintro e w2 ⟨rfl, ⟨nd2, rfl⟩⟩; have HX2 := Aside0.mk (show (w1.drewN nd2).heap[g2]? = some (.cells #[.slice A0 l0.length c0] 32 (0, 0)) from HX1.out)) | ((with_reducible refine (impl_opsCode.calls A0 c0 l0 0 _ (Kd.C_below HR0.out (pw_below_drewN HB1.out _)) HC0.out E2.out).mono ?_); rintro e w3 ⟨rfl, hb⟩; have HB3 := Aside0.mk (below_step (pw_below_drewN HB1.out _) hb); have HX3 := Aside0.mk (blk_below HX2.out hb); have f3 := blk_cell HX3.out 0; (try simp at f3); clear hb; have HCF := Aside0.mk (show Calls Try.prog 101 #[.slice A1 l1.length c1, .func (.func 102) #[] #[.pointer (some ⟨g2, 0, none⟩)]] w3 fun e w' => e = .returned (.bool false) ∧ Below w3.heap.size w3 w' from impl_isOrder.cf (fun x => (impl_within.f x 0 (wrap64 ((l0.length : Int) - 1))).map (!·)) 102 #[.pointer (some ⟨g2, 0, none⟩)] A1 c1 l1.length l1 false _ rfl (Kd.C_below HR1.out HB3.out) (fun a w => Try.call102 a w) (fun x _ b hb W cs hW hK => (by obtain rfl : cs = [.int .i64 x] := hK; exact (impl_OrderLegal.cl A0 c0 l0 hn0 x b g2 W (blk_below HX3.out hW) hb).mono fun e w' h' => ⟨h'.1, below_step hW h'.2⟩)) E3.out)) | ((with_reducible refine (HCF.out).mono ?_); rintro e w4 ⟨rfl, hb⟩; have HB4 := Aside0.mk (below_step HB3.out hb); have HX4 := Aside0.mk (blk_below HX3.out hb); have f4 := blk_cell HX4.out 0; (try simp at f4); clear hb) | ((with_reducible refine (impl_isOrder.calls k A0 c0 l0 A1 c1 l1 r3 _ (Kd.C_below HR0.out HB4.out) HC0.out (Kd.C_below HR1.out HB4.out) HC1.out E4.out).mono ?_); rintro e w5 ⟨rfl, hb⟩; have HB5 := Aside0.mk (below_step HB4.out hb); clear hb))
     go_ret2
     exact ⟨rfl, HB5.out⟩
  ·rw [if_neg hc] at h
   simp only [Option.some.injEq, Prod.mk.injEq] at h
   obtain ⟨rfl, rfl⟩ := h
   have hcb : (c == 0) = false := beq_eq_false_iff_ne.2 hc
   have hcn : (c != 0) = true := bne_iff_ne.2 hc
   go_enter Try.func52, Try.ntmps52
   go_wp2_with (first | ((with_reducible refine gate_dst (N := 2) rfl ?_); refine box_event ?hg (N := 2) ?hd (cs := #[.slice A0 l0.length c0]) (t := 32) ?hr ?_; (case hd => rfl); (case hg => rfl); (case hr => first | (go_simp; done) | (go_simp; rfl)); intro g2 hg w1 hbox hb; have HB1 := Aside0.mk hb; have HX1 := Aside0.mk hbox; have f2 := blk_cell hbox 0; (try simp at f2); clear hg hbox hb) | ((with_reducible refine (impl_isList_int.calls A1 c1 l1 true _ (Kd.C_below HR1.out HB1.out) HC1.out E1.out).mono ?_); rintro e w2 ⟨rfl, ⟨nd2, rfl⟩⟩; have HX2 := Aside0.mk (show (w1.drewN nd2).heap[g2]? = some (.cells #[.slice A0 l0.length c0] 32 (0, 0)) from HX1.out)) | ((with_reducible refine (impl_opsCode.calls A0 c0 l0 c _ (Kd.C_below HR0.out (pw_below_drewN HB1.out _)) HC0.out E2.out).mono ?_); rintro e w3 ⟨rfl, hb⟩; have HB3 := Aside0.mk (below_step (pw_below_drewN HB1.out _) hb); have HX3 := Aside0.mk (blk_below HX2.out hb); have f3 := blk_cell HX3.out 0; (try simp at f3); clear hb))
   go_ret2
   exact ⟨rfl, HB3.out⟩
end Go.Proofs.Ytmclmbhdgepjfaa.Q

