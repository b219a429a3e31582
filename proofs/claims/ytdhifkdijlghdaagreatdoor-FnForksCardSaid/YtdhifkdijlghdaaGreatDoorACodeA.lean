/-
  A function's contract out of its run; an operation without a call. No condition.
-/
import Derived.RangeFuncLeaves
import Derived.RangeFuncRecord
import Derived.Test.YtdhifkdijlghdaaGreatDoorACode9
namespace Go.Proofs.YtdhifkdijlghdaaGreatDoorA
open Go
set_option linter.unusedVariables false
set_option linter.unusedSimpArgs false
variable {P : Program} {E : Env} {M0 : Addr → Prop} {w0 w : World} {g : Gh} {H : Nat → Option Ob} {σ : St} {a : Act}
theorem lk_number : ∀ (vs : List TV) (i t : Nat) (v : TV), lk (number i vs) t = some v → ∃ j : Nat, t = i + j ∧ vs[j]? = some v
 | [], i, t, v, h => by simp [number, lk] at h
 | x :: vs, i, t, v, h => by
  simp only [number, lk] at h
  split at h
  ·rename_i e; subst e; cases h; exact ⟨0, rfl, rfl⟩
  ·obtain ⟨j, h1, h2⟩ := lk_number vs (i + 1) t v h
   exact ⟨j + 1, by omega, by simpa using h2⟩
theorem enter_ids : ∀ (as : List Arg) (i nid j : Nat) (vs : List TV) (h : List Ob) (xs : List Exit1) (gs : List GV), enter i nid j as = some (vs, h, xs, gs) →
  ∀ x ∈ xs, ∀ k, (x.ptr = some k ∨ k ∈ x.own) → nid ≤ k ∧ k < nid + h.length
 | [], i, nid, j, vs, h, xs, gs, he, x, hx => by simp [enter] at he; obtain ⟨_, _, rfl, _⟩ := he; simp at hx
 | a :: as, i, nid, j, vs, h, xs, gs, he, x, hx => by
  have hown : ∀ (n : List Ob) k, k ∈ ownsAt nid n → nid ≤ k ∧ k < nid + n.length := by
   intro n k hk
   simp only [ownsAt, List.mem_map, List.mem_range] at hk
   obtain ⟨q, hq, rfl⟩ := hk
   omega
  unfold enter at he
  split at he
  ·simp at he
  ·rename_i v n x0 g0 hh
   cases hr : enter (i + 1) (nid + n.length) (j + g0.length) as with
   | none => rw [hr] at he; simp at he
   | some y =>
    obtain ⟨vs', n', xs', gs'⟩ := y
    rw [hr] at he
    simp only [Option.some.injEq, Prod.mk.injEq] at he
    obtain ⟨_, rfl, rfl, _⟩ := he
    intro k hk
    rcases List.mem_cons.1 hx with rfl | hx
    ·have : nid ≤ k ∧ k < nid + n.length := by
      unfold enter1 at hh
      cases a with
      | v y =>
       cases y with
       | one c =>
        obtain ⟨⟨c', n1⟩, h1, h2⟩ := Option.map_eq_some_iff.1 hh
        simp only [Prod.mk.injEq] at h2
        obtain ⟨_, rfl, rfl, _⟩ := h2
        rcases hk with hk | hk
        ·simp at hk
        ·exact hown _ k hk
       | agg cs =>
        obtain ⟨⟨c', n1⟩, h1, h2⟩ := Option.map_eq_some_iff.1 hh
        simp only [Prod.mk.injEq] at h2
        obtain ⟨_, rfl, rfl, _⟩ := h2
        rcases hk with hk | hk
        ·simp at hk
        ·exact hown _ k hk
       | vec n0 k0 xs0 =>
        simp only at hh
        split at hh
        ·simp only [Option.some.injEq, Prod.mk.injEq] at hh
         obtain ⟨_, rfl, rfl, _⟩ := hh
         simp at hk
        ·simp at hh
       | pbx cs => simp at hh
      | ptr cs =>
       obtain ⟨⟨c', n1⟩, h1, h2⟩ := Option.map_eq_some_iff.1 hh
       simp only [Prod.mk.injEq] at h2
       obtain ⟨_, rfl, rfl, _⟩ := h2
       simp at hk
       subst hk
       simp
      | ro cs =>
       obtain ⟨⟨c', n1⟩, h1, h2⟩ := Option.bind_eq_some_iff.1 hh
       simp only at h2
       split at h2
       ·simp only [Option.some.injEq, Prod.mk.injEq] at h2
        obtain ⟨_, rfl, rfl, _⟩ := h2
        simp at hk
       ·simp at h2
      | fn g =>
       simp only [Option.some.injEq, Prod.mk.injEq] at hh
       obtain ⟨_, rfl, rfl, _⟩ := hh
       simp at hk
     rw [List.length_append]
     omega
    ·have := enter_ids as _ _ _ _ _ _ _ hr x hx k hk
     rw [List.length_append]
     omega
theorem backX_ids : ∀ (xs : List Exit1) (ios : List (List C)) (nid : Nat) (ps : List (Nat × Nat)) (n : List Ob), backX xs ios nid = some (ps, n) → ∀ i j, (i, j) ∈ ps → ∃ x ∈ xs, x.ptr = some i ∨ i ∈ x.own
 | [], [], nid, ps, n, h, i, j, hij => by simp [backX] at h; rw [h.1] at hij; simp at hij
 | [], _ :: _, nid, ps, n, h, i, j, hij => by simp [backX] at h
 | _ :: _, [], nid, ps, n, h, i, j, hij => by simp [backX] at h
 | x :: xs, io :: ios, nid, ps, n, h, i, j, hij => by
  unfold backX at h
  split at h
  ·simp at h
  ·rename_i ps1 n1 hh
   cases hr : backX xs ios (nid + n1.length) with
   | none => rw [hr] at h; simp at h
   | some y =>
    rw [hr] at h
    simp only [Option.some.injEq, Prod.mk.injEq] at h
    obtain ⟨rfl, _⟩ := h
    rcases List.mem_append.1 hij with hij | hij
    ·refine ⟨x, by simp, ?_⟩
     cases hx : x.ptr with
     | some i0 =>
      rw [hx] at hh
      obtain ⟨b, _, h2⟩ := Option.map_eq_some_iff.1 hh
      simp only [Prod.mk.injEq] at h2
      rw [← h2.1] at hij
      simp at hij
      exact .inl (by rw [hij.1])
     | none =>
      rw [hx] at hh
      obtain ⟨b, _, h2⟩ := Option.bind_eq_some_iff.1 hh
      split at h2
      ·simp only [Option.some.injEq, Prod.mk.injEq] at h2
       rw [← h2.1] at hij
       exact .inr (List.of_mem_zip hij).1
      ·simp at h2
    ·obtain ⟨y, hy, h3⟩ := backX_ids xs ios _ _ _ hr i j hij
     exact ⟨y, by simp [hy], h3⟩
theorem leaves_ok {fn : Func} {tmps : Array Value} {R : Ending → World → Prop} {B : Nat} (C : World → Prop) (hC : ∀ w D, C w → B ≤ D → w.heap[D]? = some (.deferred (some [])) → C (w.putObj D (.deferred none)))
  (h0 : ∀ w, C w → ∃ v, (results fn tmps).run P w = .ok v w ∧ R (.returned v) w) : ∀ (ds : List Deferred) (w : World), DfOk B w ds → C w → LeavesInM Fence.wide 0 P fn tmps R ds .returning w
 | [], w, _, hw => h0 w hw
 | d :: ds, w, ⟨⟨D, hB, h1, h2, h3⟩, h⟩, hw => by
  refine ⟨by simp, .inl ⟨D, w.putObj D (.deferred none), by rw [h1], run_takeDeferred h2, ?_⟩⟩
  exact leaves_ok C hC h0 ds _ (h.take (lt_of_heap h2) h3) (hC w D hw hB h2)
theorem fok_of_run {f : Nat} {fn : Func} {c : Code} {fi : FI} {wy : Way} {h : List GV → Hint} (hm : P.follows .mixedOrders = true) (hT : TtOk P E.tt)
  (hO : ∀ gs, OpsOk P { E with gv := gs }) (hf : P.funcs[f]? = some fn) (hn : (fn.name == "runtime.NumGoroutine") = false) (hb : fn.body = some c) (hnt : E.nt ≤ fn.ntmps)
  (hh : ∀ args a tvs hp xs gs, fi.sem args = some a → enter 0 0 0 args = some (tvs, hp, xs, gs) → HintOk P { E with gv := gs } c (h gs))
  (hr : ∀ args a, fi.sem args = some a → run E wy fn.results.toList c h args = some (fi.out a)) : FOk P f fi := by
 refine ⟨⟨fn, c, hf, hn, hb⟩, fun args x hx tvs hp xs gs he w g M0 us hI hl0 hfv hus => ?_⟩
 have hrun := hr args x hx
 unfold run at hrun
 rw [he] at hrun
 dsimp only at hrun
 cases hne : Nat.ble E.ne hp.length && fixedB E.ne xs with
 | false => rw [hne] at hrun; simp at hrun
 | true =>
 rw [hne] at hrun
 dsimp only [cond_true] at hrun
 rw [Bool.and_eq_true] at hne
 obtain ⟨hne, hfx⟩ := hne
 have hne := Nat.le_of_ble_eq_true hne
 have hF0 : Fr P { E with gv := gs } M0 w g ⟨number 0 tvs, hp⟩ { tmps := us.toArray ++ Array.replicate (fn.ntmps - us.toArray.size) undef, defers := [] } w := by
  refine ⟨hI, hfv, fun t v ht => ?_, by simp; omega, DfOk.nil _ _⟩
  obtain ⟨j, rfl, hj⟩ := lk_number _ _ _ _ ht
  obtain ⟨u, h1, h2⟩ := F2.get hus j v hj
  refine ⟨u, ?_, h2⟩
  have hlt : j < us.length := by
   rcases Nat.lt_or_ge j us.length with h | h
   ·exact h
   ·rw [List.getElem?_eq_none h] at h1; simp at h1
  show (us.toArray ++ Array.replicate _ undef)[0 + j]? = _
  rw [Nat.zero_add, Array.getElem?_append_left (by simpa using hlt)]
  simpa using h1
 refine (callsIn_wide (n := 0)).1 (callsIn_of_wp_marks (F := Fence.wide) hf hb trivial (exec_ok (nn_ := 0) (hO gs) hm c (h gs) (hh args x tvs hp xs gs hx he) _ _ _ g _ w _ hrun hF0 hne ?_))
 intro e σ' g' a' w' hK hF hne' hL
 have main : ∀ (a' : Act) (w' : World) σ' g', Fr P { E with gv := gs } M0 w g' σ' a' w' → LaterE E.ne g w g' w' → (match leave E wy fn.results.toList xs σ' (fun id => σ'.heap[id]?) with | some (r, _) => some r | none => none) = some (fi.out x) →
   ∃ v, (results fn a'.tmps).run P w' = .ok v w' ∧ ∃ rv vs h2 ps g2, Ending.returned v = .returned rv ∧ canon (fi.out x) xs = some (vs, h2, ps) ∧ Inv M0 w g2 (fun i => h2[i]?) w' ∧ TVR g2 w' (tvOf vs) rv ∧
   (∀ i j, (i, j) ∈ ps → g2.loc j = g.loc i) ∧ (∀ b p, b ≠ 0 → g2.L b p → g.L b p) ∧ (∀ b p, g.L b p → w'.cell? p = w.cell? p) := by
  intro a' w' σ' g' hF hL h1
  cases hl : leave E wy fn.results.toList xs σ' (fun id => σ'.heap[id]?) with
  | none => rw [hl] at h1; simp at h1
  | some y =>
   obtain ⟨r, l⟩ := y
   rw [hl] at h1
   simp only [Option.some.injEq] at h1
   subst h1
   obtain ⟨rv, vs, h2, ps, g2, h3, h4, h5, h6, h7, h8⟩ := leave_ok hT hF.tm hF.inv rfl hl
   refine ⟨rv, h3, rv, vs, h2, ps, g2, rfl, h4, h5, h6, fun i j hij => ?_, fun b p hb hp => hL.nz b p hb (h8.1 ▸ hp), hL.st⟩
   rw [h7 i j hij]
   unfold canon at h4
   split at h4
   ·simp at h4
   ·rename_i vs1 n1 _
    cases hbx : backX xs (fi.out x).ios n1.length with
    | none => rw [hbx] at h4; simp at h4
    | some y =>
     rw [hbx] at h4
     simp only [Option.some.injEq, Prod.mk.injEq] at h4
     obtain ⟨_, _, rfl⟩ := h4
     obtain ⟨z, hz, h9⟩ := backX_ids _ _ _ _ _ hbx i j hij
     have hz2 := List.all_eq_true.1 hfx z hz
     rw [Bool.and_eq_true] at hz2
     refine hL.loc i (show i < E.ne from ?_)
     rcases h9 with h9 | h9
     ·have h10 := hz2.1
      rw [h9] at h10
      exact Nat.le_of_ble_eq_true h10
     ·exact Nat.le_of_ble_eq_true (List.all_eq_true.1 hz2.2 i h9)
 have hfin : (match castX wy.cs σ' with | none => none | some σ => match leave E wy fn.results.toList xs σ (fun id => σ.heap[id]?) with | some (r, _) => some r | none => none) = some (fi.out x) → bodyPostM Fence.wide 0 P fn (fun e w' => ∃ rv vs h2 ps g2, e = .returned rv ∧ canon (fi.out x) xs = some (vs, h2, ps) ∧ Inv M0 w g2 (fun i => h2[i]?) w' ∧ TVR g2 w' (tvOf vs) rv ∧
   (∀ i j, (i, j) ∈ ps → g2.loc j = g.loc i) ∧ (∀ b p, b ≠ 0 → g2.L b p → g.L b p) ∧ (∀ b p, g.L b p → w'.cell? p = w.cell? p)) .ret a' w' := by
  intro h1
  cases hc : castX wy.cs σ' with
  | none => rw [hc] at h1; simp at h1
  | some σ2 =>
   rw [hc] at h1
   obtain ⟨g2, hF2, hL2⟩ := castX_ok hc hF
   refine leaves_ok (B := w.heap.size) (fun w2 => Fr P { E with gv := gs } M0 w g2 σ2 { a' with defers := [] } w2 ∧ LaterE E.ne g w g2 w2) ?_ (fun w2 ⟨h2, h3⟩ => main { a' with defers := [] } w2 σ2 g2 h2 h3 h1) a'.defers w' hF.df ⟨⟨hF2.inv, hF2.fv, hF2.tm, hF2.nt, DfOk.nil _ _⟩, hL.trans (hF.later hne' hL2)⟩
   rintro w2 D ⟨h2, h3⟩ hB hD
   have hcell := putObj_cell (o' := .deferred none) hD rfl rfl
   exact ⟨⟨h2.inv.putObj hB hD rfl rfl, h2.fv.mono (Ext.refl g2) (fun b p _ => hcell p) (by rw [putObj_size]; exact Nat.le_refl _), h2.tm.ext (Ext.refl g2) (fun b p _ => hcell p), h2.nt, DfOk.nil _ _⟩, h3.L, h3.nz, h3.fv, fun b p hp => (hcell p).trans (h3.st b p hp), h3.loc, by rw [putObj_size]; exact h3.ko.size, fun k o hk ho => by
    have hlt := lt_of_heap hk
    rw [putObj_heap _ _ _ _ (lt_of_heap hD), if_neg (by omega)]
    exact h3.ko.same k o hk ho⟩
 cases e with
 | nrm => exact hfin hK
 | ret => exact hfin hK
 | ext id => simp [fin] at hK
def Own (g : Gh) (H : Nat → Option Ob) (p : Addr) : Prop := (∃ i o, H i = some o ∧ MR g i o p) ∨ g.L 0 p
theorem Inv.rebase (h : Inv M0 w0 g H w) : Inv (Own g H) w g H w :=
 ⟨h.ob, h.dj, h.st, fun i o p hi hm => .inl (.inl ⟨i, o, hi, hm⟩), h.no, h.lt, fun p hp => .inl (.inr hp), Keeps.refl _ _, h.tz⟩
theorem Inv.unbase {g' : Gh} {H' : Nat → Option Ob} {w' : World} (h : Inv M0 w0 g H w) (h' : Inv (Own g H) w g' H' w') : Inv M0 w0 g' H' w' := by
 have key : ∀ p, Own g H p → M0 p ∨ w0.heap.size ≤ p.block := fun p hp => hp.elim (fun ⟨i, o, hi, hm⟩ => h.al i o p hi hm) (h.l0 p)
 have key2 : ∀ p : Addr, w.heap.size ≤ p.block → M0 p ∨ w0.heap.size ≤ p.block := fun p hp => .inr (Nat.le_trans h.keep.size hp)
 refine ⟨h'.ob, h'.dj, h'.st, fun i o p hi hm => (h'.al i o p hi hm).elim (key p) (key2 p), h'.no, h'.lt, fun p hp => (h'.l0 p hp).elim (key p) (key2 p), h.keep.trans' h'.keep (fun p hp hm => ?_), h'.tz⟩
 rcases key p hm with h | h
 ·exact h
 ·omega
theorem ops_done (hT : TtOk P E.tt) {o : Oper} {tmps : List (Nat × TV)} {nid : Nat} {r : Res1} {l : List Nat} {e : Eff} (hI : Inv M0 w0 g H w) (ht : TmR g w tmps a) (hn : ∀ i, nid ≤ i → i < nid + e.news.length → H i = none)
  (h : pre0 E o (ev tmps) nid H = some (r, l)) (hg : r.g = true) (he : r.act = .done e) : Runs P o a w (fun v w' => Good M0 w0 g H w nid e v w' ∧ w.heap.size ≤ w'.heap.size) := by
 obtain ⟨v, w', hd, g', h1, h2, h3, h4⟩ := pre_done hT ht hI.rebase (fun hh => hn nid (Nat.le_refl _) (by
  simp only [hasNew, he] at hh
  cases hnn : e.news with
  | nil => rw [hnn] at hh; simp at hh
  | cons => simp)) h hg he
 exact hd.runs ⟨⟨g', hI.unbase h1, h2, h3, h4⟩, h1.keep.size⟩
end Go.Proofs.YtdhifkdijlghdaaGreatDoorA
