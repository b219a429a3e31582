import Derived.Test.YtmclmbhdgepjfaaVdQx0
import Derived.Test.YtmclmbhdgepjfaaVdQx2
-- Laid by wip/xprint.py (a session's own program, over the kit's print.py). Lean checks it.
namespace Go.Proofs.Ytmclmbhdgepjfaa.Q
open Go.RowKit Go.Proofs.YtmclmbhdgepjfaaX Go.Proofs.YtmclmbhdgepjfaaW.PrintWords Go.Proofs.YtmclmbhdgepjfaaW.PrintLast Go.Proofs.YtmclmbhdgepjfaaW.PrintMore
attribute [local go_sem] max2_int min2_int max_two min_two max_three min_three max_four min_four   -- for this text's walks alone
set_option linter.unusedVariables false
set_option linter.unusedSimpArgs false

/-! ### slices.IndexFunc (function 125) at whatever predicate -/
set_option maxHeartbeats 4000000 in
set_option maxRecDepth 100000 in
theorem ix125.calls (p : Int → Option Bool) (gf : Nat) (lb : Array Value) (A0 : Option Addr) (c0 : Nat) (l0 : List (Int)) (r : Int) (w : World) (hr0 : Kd.C (Kd.int .i64) w A0 l0.length l0)
  (eg : ∀ args w, (callFunc gf args).run Try.prog w = .ok (.enter gf args) w) (hp : PredK Try.prog gf lb (Kd.int .i64) mk1 p l0 w) (h : idxO p 0 l0 = some r) :
  Calls Try.prog 125 #[.slice A0 l0.length c0, .func (.func gf) #[] lb] w fun e w' => e = .returned (.int .i64 r) ∧ Below w.heap.size w w' := by
 have hn : l0.length ≤ 9223372036854775807 := hr0.2.1
 generalize hlen : l0.length = n at hn hr0 ⊢
 have HL := Aside0.mk hlen
 clear hlen
 have HR := Aside0.mk hr0
 clear hr0
 have HP := Aside0.mk hp
 clear hp
 go_enter Try.func125, Try.ntmps125
 go_wp2
 go_loopg [5, 8] n (fun gg _ s8 wr => ∃ i : Int, 0 ≤ i ∧ i ≤ n ∧ n - i.toNat ≤ gg ∧ s8 = .int .i64 i ∧ Aside0 (Below w.heap.size w wr) ∧ Aside0 (idxO p (i.toNat : Int) (l0.drop i.toNat) = some r))
 case atStart => exact ⟨0, by omega, by omega, by omega, rfl, ⟨Below.refl _ w⟩, ⟨by simpa using h⟩⟩
 case round =>
  obtain ⟨i, hi0, hin, hg, rfl, BW, AR⟩ := hrel
  clear h
  by_cases hlt : i < (n : Int)
  ·obtain ⟨ad, cc, rfl, hcl, hK, hc0⟩ := Kd.C_get HR.out 0 i hi0 hlt
   obtain ⟨hx, b, hb, ht, hf⟩ := idxO_next (d := 0) (by have := HL.out; omega) AR.out
   generalize l0.getD i.toNat 0 = x at hx hK hb
   obtain ⟨u0, rfl⟩ := cells1 (hcl.trans (rfl : ((Kd.int .i64)).sz = 1))
   have f0 : wr.cell? (ad.add i.toNat) = some u0 := by
    have z := pw_cell_below BW.out (hc0 0 _ rfl)
    rw [show i.toNat * ((Kd.int .i64)).sz + 0 = i.toNat * 1 + 0 from by rfl] at z
    rw [Nat.add_zero, Nat.mul_one] at z
    exact z
   have hcall : Calls Try.prog gf (#[u0] ++ lb) wr fun e w' => e = .returned (.bool b) ∧ Below w.heap.size w w' := HP.out x hx b hb wr [u0] BW.out ((Kd.int .i64).K_below BW.out hK)
   clear hc0 hK hb hx hcl
   have HC := Aside0.mk hcall
   clear hcall
   cases b with
   | true =>
    have AR4 := Aside0.mk (ht rfl)
    clear ht hf
    go_wp2_with ((with_reducible refine (HC.out).mono ?_); rintro e w' ⟨rfl, hb'⟩)
    go_ret
    exact ⟨by rw [← AR4.out, Int.toNat_of_nonneg hi0]; rfl, hb'⟩
   | false =>
    have AR4 := Aside0.mk (hf rfl)
    clear ht hf
    go_wp2_with ((with_reducible refine (HC.out).mono ?_); rintro e w' ⟨rfl, hb'⟩)
    go_roundg (n - (i.toNat + 1))
    case measure => omega
    case rel => exact ⟨i + 1, by omega, by omega, by omega, by first | rfl | go_num, ⟨hb'⟩, ⟨by rw [show (i + 1).toNat = i.toNat + 1 from by omega]; exact AR4.out⟩⟩
  ·have AR4 := AR.out
   rw [List.drop_eq_nil_of_le (by have := HL.out; omega)] at AR4
   have AR5 := Aside0.mk (Option.some.inj AR4)
   clear AR4
   go_wp2
   go_ret
   exact ⟨by rw [← AR5.out]; rfl, BW.out⟩
end Go.Proofs.Ytmclmbhdgepjfaa.Q

