/-
  All arguments of a call. No condition.
-/
import Derived.Test.YtdhifkdijlghdaaGreatDoorACodeG
namespace Go.Proofs.YtdhifkdijlghdaaGreatDoorA
open Go
set_option linter.unusedVariables false
set_option linter.unusedSimpArgs false
variable {P : Program} {E : Env} {M0 : Addr → Prop} {w0 w : World} {g gc : Gh} {H : Nat → Option Ob}
def CdAll (g : Gh) (H : Nat → Option Ob) (i : Nat) (ais : List AI) (g2 : Gh) : Prop := ∀ (q : Nat) ai, ais[q]? = some ai → CdA g H (i + q) ai g2
theorem CdAll.head {i : Nat} {a : AI} {ais : List AI} {g2 : Gh} (h : CdAll g H i (a :: ais) g2) : CdA g H i a g2 := h 0 a rfl
theorem CdAll.tail {i : Nat} {a : AI} {ais : List AI} {g2 : Gh} (h : CdAll g H i (a :: ais) g2) : CdAll g H (i + 1) ais g2 := fun q ai hq => by
 have := h (q + 1) ai (by simpa using hq)
 rwa [show i + (q + 1) = i + 1 + q by omega] at this
structure ArgsOk (P : Program) (g : Gh) (w : World) (H : Nat → Option Ob) (i nid j : Nat) (args : List Arg) (ais : List AI) (us : List Value) (tvs : List TV) (n : List Ob) (xs : List Exit1) (gs : List GV) (ls : List Loc) (og : List (Option Nat)) (fvs : List Value) : Prop where
 en : enter i nid j args = some (tvs, n, xs, gs)
 pc : Piece (CdAll g H i ais) g w H nid n ls og
 fo : og.filterMap id = ais.flatMap AI.busy
 bor : ∀ ai ∈ ais, BorOk H ai.bor
 rd : ∀ ai ∈ ais, ∀ id ∈ ai.rd, (∃ cs, H id = some (.box cs)) ∨ ∃ m cs, H id = some (.cbox m cs)
 hid : ∀ i ∈ ais.flatMap AI.busy, (H i).isSome = true
 xr : ∀ gc : Gh, (∀ (q : Nat) L, ls[q]? = some L → gc.loc (nid + q) = L) → F2 (XRel gc g) xs ais
 lf : fvs.length = gs.length
 tv : ∀ g2, CdAll g H i ais g2 → (∀ (q : Nat) L, ls[q]? = some L → g2.loc (nid + q) = L) → (∀ (q : Nat) v, fvs[q]? = some v → g2.fv (j + q) = v) → F2 (TVR g2 w) tvs us
 fn : ∀ g2, CdAll g H i ais g2 → (∀ b p, g.L b p → ∃ b', g2.L b' p) → (∀ b p, g2.L b p → p.block < w.heap.size ∧ p.spot = none) → ∀ (q : Nat) gf v, gs[q]? = some gf → fvs[q]? = some v → FnR P w (fun p => ∃ b, g2.L b p) v gf
theorem exArgs_ok (hE : EOk P E) (hI : Inv M0 w0 g H w) (hfv : FvOk P g w E.gv) : ∀ {ps : List PS} {xs : List TV} {args : List Arg} {ais : List AI} {l : List Nat} {us : List Value}, exArgs E ps xs H = some ((args, ais), l) → F2 (TVR g w) xs us → ∀ (i nid j : Nat),
  ∃ tvs n x0 gs ls og fvs, ArgsOk P g w H i nid j args ais us tvs n x0 gs ls og fvs
 | [], [], args, ais, l, us, h, hu, i, nid, j => by
  unfold exArgs at h
  cases M.ret_some (H := H) h
  match us, hu with
  | [], _ =>
   exact ⟨[], [], [], [], [], [], [], rfl, (Piece.nil nid), rfl, fun ai h => by simp at h, fun ai h => by simp at h, fun k hk => by simp at hk, fun _ _ => trivial, rfl, fun _ _ _ _ => trivial, fun _ _ _ _ q gf v h => by simp at h⟩
 | p :: ps, x :: xs, args, ais, l, us, h, hu, i, nid, j => by
  unfold exArgs at h
  obtain ⟨a, l1, l2, h1, h2, _⟩ := M.bind_some h
  obtain ⟨b, l3, l4, h3, h4, _⟩ := M.bind_some h2
  cases M.ret_some h4
  match us, hu with
  | u :: us, hu =>
   obtain ⟨v, n, x0, gs, ls, og, hA⟩ := exArg_ok hE hI hfv h1 hu.1 i nid j
   obtain ⟨tvs, n', xs0, gs', ls', og', fvs', hB⟩ := exArgs_ok hE hI hfv h3 hu.2 (i + 1) (nid + n.length) (j + gs.length)
   refine ⟨v :: tvs, n ++ n', x0 :: xs0, gs ++ gs', ls ++ ls', og ++ og', List.replicate gs.length u ++ fvs', by simp only [enter, hA.en, hB.en], (hA.pc.mono fun g2 hc => hc.head).app (hB.pc.mono fun g2 hc => hc.tail), by rw [List.filterMap_append, hA.fo, hB.fo, List.flatMap_cons], fun ai hai => ?_, fun ai hai => ?_, fun k hk => ?_, fun gc hl => ⟨hA.xr gc fun q L hL => hl q L (getL' hL), hB.xr gc fun q L hL => ?_⟩, by simp [hB.lf], fun g2 hc hl hv => ⟨hA.tv g2 hc.head (fun q L hL => hl q L (getL' hL)) fun q hq => ?_, hB.tv g2 hc.tail (fun q L hL => ?_) fun q v hq => ?_⟩, fun g2 hc hg hlt q gf v hq hv => ?_⟩
   ·rcases List.mem_cons.1 hai with rfl | hai
    ·exact hA.bor
    ·exact hB.bor ai hai
   ·rcases List.mem_cons.1 hai with rfl | hai
    ·exact hA.rd
    ·exact hB.rd ai hai
   ·rw [List.flatMap_cons] at hk
    exact (List.mem_append.1 hk).elim (hA.hid k) (hB.hid k)
   ·have := hl (n.length + q) L (getR hA.pc.l1 hL)
    rwa [← Nat.add_assoc] at this
   ·exact hv q u (getL' (by simp [hq]))
   ·have := hl (n.length + q) L (getR hA.pc.l1 hL)
    rwa [← Nat.add_assoc] at this
   ·have := hv (gs.length + q) v (getR (by simp) hq)
    rwa [← Nat.add_assoc] at this
   ·rcases Nat.lt_or_ge q gs.length with hlt' | hge
    ·rw [List.getElem?_append_left hlt'] at hq
     rw [List.getElem?_append_left (by simpa using hlt')] at hv
     simp [hlt'] at hv
     subst hv
     exact hA.fn g2 hc.head hg hlt gf (List.mem_of_getElem? hq)
    ·rw [List.getElem?_append_right hge] at hq
     rw [List.getElem?_append_right (by simpa using hge), List.length_replicate] at hv
     exact hB.fn g2 hc.tail hg hlt _ gf v hq hv
 | [], _ :: _, args, ais, l, us, h, hu, i, nid, j => by exact (M.fail_some (H := H) h).elim
 | _ :: _, [], args, ais, l, us, h, hu, i, nid, j => by exact (M.fail_some (H := H) h).elim
def Lc (g : Gh) (H : Nat → Option Ob) (ais : List AI) (b : Nat) (p : Addr) : Prop :=
 (∃ (q : Nat) (ai : AI), ais[q]? = some ai ∧ ((b = q + 1 ∧ (SM g.L ai.m p ∨ ∃ x ∈ ai.bor, Vis g x p)) ∨ (b = q + 4097 ∧ ∃ id ∈ ai.rd, Cel g H id p))) ∨ (b = 8193 ∧ ∃ b', g.L b' p)
theorem Lc.cd {ais : List AI} {g2 : Gh} (h : g2.L = Lc g H ais) : CdAll g H 0 ais g2 := fun q ai hq => by
 rw [Nat.zero_add]
 refine ⟨fun p hp => ?_, fun x hx p hp => ?_, fun id hid p hp => ?_⟩ <;> rw [h]
 ·exact .inl ⟨q, ai, hq, .inl ⟨rfl, .inl hp⟩⟩
 ·exact .inl ⟨q, ai, hq, .inl ⟨rfl, .inr ⟨x, hx, hp⟩⟩⟩
 ·exact .inl ⟨q, ai, hq, .inr ⟨rfl, id, hid, hp⟩⟩
theorem Vis.in (hI : Inv M0 w0 g H w) {x : Nat × Ob} {k : Kd} {xs : List (El k)} {m : List Nat} {b : Bool} (h1 : H x.1 = some (.arr k xs m b)) (h2 : x.2 = .arr k xs m false) {p : Addr} (h : Vis g x p) :
  (b = true ∧ MR g x.1 (.arr k xs m true) p) ∨ (b = false ∧ g.L 0 p) := by
 obtain ⟨a, n, c, k', xs', m', b', j, e, e2, hj, rfl⟩ := h
 rw [h2] at e2
 cases e2
 obtain ⟨A, n2, c2, us, e3, hx, hnc, hu, hcell⟩ := hI.ob _ _ h1
 rw [e] at e3; cases e3
 have hjc : j < c * k.size := Nat.lt_of_lt_of_le hj (Nat.mul_le_mul_right _ (by omega))
 cases b with
 | true => exact .inl ⟨rfl, a, n, c, j, e, by simp, hjc, rfl⟩
 | false =>
  rcases hcell with h0 | ⟨a', ha, _, _, _, h7⟩
  ·subst h0; simp at hjc
  ·cases ha
   exact .inr ⟨rfl, h7.1 rfl j (by rw [Rows2.len (ER.len k) hu]; exact hj)⟩
theorem Cel.in (hI : Inv M0 w0 g H w) {id : Nat} {p : Addr} (h : Cel g H id p) : (∃ cs, H id = some (.box cs) ∧ MR g id (.box cs) p) ∨ ∃ b, g.L b p := by
 obtain ⟨a, cs, j, e, hh, hj, rfl⟩ := h
 rcases hh with hh | ⟨m, hh⟩
 ·exact .inl ⟨cs, hh, a, j, e, hj, rfl⟩
 ·obtain ⟨a', us, e', hu, hc⟩ := hI.ob _ _ hh
  rw [e] at e'; cases e'
  have hj' : j < us.length := by rw [← hu.len]; exact hj
  obtain ⟨_, b, _, hl⟩ := hc j _ (List.getElem?_eq_getElem hj')
  exact .inr ⟨b, hl⟩
end Go.Proofs.YtdhifkdijlghdaaGreatDoorA
