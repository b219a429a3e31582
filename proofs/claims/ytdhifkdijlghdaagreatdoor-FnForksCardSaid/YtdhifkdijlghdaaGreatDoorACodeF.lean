/-
  Handing over functions; one argument; all arguments. No condition.
-/
import Derived.Test.YtdhifkdijlghdaaGreatDoorACodeE
namespace Go.Proofs.YtdhifkdijlghdaaGreatDoorA
open Go
set_option linter.unusedVariables false
set_option linter.unusedSimpArgs false
variable {P : Program} {E : Env} {M0 : Addr → Prop} {w0 w : World} {g gc : Gh} {H : Nat → Option Ob}
theorem ObR.cbox_ext {g' : Gh} {w w' : World} (h : Ext g g') (hw : ∀ b p, g.L b p → w'.cell? p = w.cell? p) {id : Nat} {m : List Nat} {cs : List C} : ObR g w id (.cbox m cs) → ObR g' w' id (.cbox m cs)
 | ⟨a, us, e, h1, h2⟩ => ⟨a, us, by rw [h.loc id (by rw [e]; simp), e], F2.mono (CR.ext h hw) h1, fun j u hu => by
   obtain ⟨h3, b, hb, hl⟩ := h2 j u hu
   exact ⟨by rw [hw b _ hl]; exact h3, b, hb, h.L _ _ hl⟩⟩
theorem asFn_ok {f : Nat} {fi : FI} (hF : FOk P f fi) (hI : Inv M0 w0 g H w) {S : Addr → Prop} (hlt : ∀ p, S p → p.block < w.heap.size ∧ p.spot = none) (hT : Tab S w) {caps : List C} {args : List Arg} {ai : AI} {l : List Nat} {cus : Array Value} {outs : List SV}
  (h : capArgs caps H = some ((args, ai), l)) (hu : F2 (CR g w) caps cus.toList) (hS : InS g H ai S) : FnR P w S (.func (.func f) #[] cus) (asFn fi outs args) := by
 refine ⟨f, cus, rfl, hF.1, fun w' hw' hsz htz vs rs hgf hns us hus => ?_⟩
 unfold asFn at hgf
 simp only [hns, cond_true] at hgf
 obtain ⟨x, h1, h2⟩ := Option.bind_eq_some_iff.1 hgf
 cases hout : (noSl (fi.out x).vals && (fi.out x).ios.all (·.isEmpty)) with
 | false => rw [hout] at h2; simp at h2
 | true =>
  rw [hout] at h2
  simp only [Bool.and_eq_true] at hout
  have h2 : (fi.out x).vals = GV.enc (asFn fi outs args) rs := SVL_some h2
  have hout1 : noSl (GV.enc (asFn fi outs args) rs) = true := h2 ▸ hout.1
  obtain ⟨tvs, n, xs, e1, e2, ls, e3, e4⟩ := capArgs_ok hI h hu hS (0 + vs.length) 0 0
  have he := enter_plain vs args 0 0 0 hns e1
  let g2 : Gh := ⟨fun i => (ls[i]?).getD .none, fun b p => b ≠ 0 ∧ S p, fun _ => undef⟩
  obtain ⟨b1, b2⟩ := e4 g2 (fun b p hb hp => ⟨hb, hp⟩) (fun q L hL => by show (ls[0 + q]?).getD .none = L; rw [Nat.zero_add, hL]; rfl)
  have hw2 : ∀ b p, g2.L b p → w'.cell? p = w.cell? p := fun b p hp => hw' p hp.2
  have hno : ∀ i o p, n[i]? = some o → ¬ MR g2 i o p := by
   intro i o p hi hm
   obtain ⟨m, cs, rfl⟩ := e2 o (List.mem_of_getElem? hi)
   exact hm
  have hInv : Inv (fun _ => False) w' g2 (fun i => n[i]?) w' := by
   refine ⟨fun i o hi => ?_, fun i j o o' p _ hi _ hm => (hno i o p hi hm).elim, fun i o p b hi hm => (hno i o p hi hm).elim, fun i o p hi hm => (hno i o p hi hm).elim, fun i hi => ?_, fun b p hp => ⟨Nat.lt_of_lt_of_le (hlt p hp.2).1 hsz, (hlt p hp.2).2⟩, fun p hp => absurd rfl hp.1, Keeps.refl _ _, htz⟩
   ·have := b2 i o hi
    rw [Nat.zero_add] at this
    obtain ⟨m, cs, rfl⟩ := e2 o (List.mem_of_getElem? hi)
    exact ObR.cbox_ext (Ext.refl g2) hw2 this
   ·have hi' : n[i]? = none := hi
    show (ls[i]?).getD .none = _
    rw [List.getElem?_eq_none (by rw [e3]; exact List.getElem?_eq_none_iff.1 hi')]; rfl
  have hargs : F2 (TVR g2 w') (vs.map .v ++ tvs) (us ++ cus.toList) := by
   refine F2.append ?_ (F2.mono (TVR.ext (Ext.refl g2) hw2) b1)
   have key : ∀ (vs : List V1) (us : List Value), F2 (V1R g2 w') vs us → F2 (TVR g2 w') (vs.map .v) us := by
    intro vs
    induction vs with
    | nil => intro us h; match us, h with | [], _ => exact trivial
    | cons v vs ih => intro us h; match us, h with | u :: us, h => exact ⟨h.1, ih us h.2⟩
   exact key vs us (noSlVs hns hus)
  have hcall := hF.2 _ x h1 _ _ _ _ he w' g2 (fun _ => False) (us ++ cus.toList) hInv (fun p hp => hp.1 rfl) ⟨hT.mono (fun p hp => ⟨1, by decide, hp⟩) (fun p hp => hw' p hp), fun j gf hj => by simp at hj⟩ hargs
  rw [show us.toArray ++ cus = (us ++ cus.toList).toArray by simp]
  refine hcall.mono ?_
  rintro e w'' ⟨rv, vs2, h2', ps, g3, rfl, hcan, hI3, hv3, _⟩
  refine ⟨rv, rfl, hout1, ?_, hI3.keep⟩
  unfold canon at hcan
  rw [imVs_plain id 0 _ hout.1] at hcan
  dsimp only at hcan
  split at hcan
  ·simp at hcan
  ·simp only [Option.some.injEq, Prod.mk.injEq] at hcan
   rw [← hcan.1, h2] at hv3
   exact noSlT hout1 hv3
structure ArgOk (P : Program) (E : Env) (g : Gh) (w : World) (H : Nat → Option Ob) (i nid j : Nat) (arg : Arg) (ai : AI) (u : Value) (v : TV) (n : List Ob) (x0 : Exit1) (gs : List GV) (ls : List Loc) (og : List (Option Nat)) : Prop where
 en : enter1 i nid j arg = some (v, n, x0, gs)
 pc : Piece (CdA g H i ai) g w H nid n ls og
 fo : og.filterMap id = ai.busy
 bor : BorOk H ai.bor
 rd : ∀ id ∈ ai.rd, (∃ cs, H id = some (.box cs)) ∨ ∃ m cs, H id = some (.cbox m cs)
 hid : ∀ i ∈ ai.busy, (H i).isSome = true
 xr : ∀ gc : Gh, (∀ (q : Nat) L, ls[q]? = some L → gc.loc (nid + q) = L) → XRel gc g x0 ai
 tv : ∀ g2, CdA g H i ai g2 → (∀ (q : Nat) L, ls[q]? = some L → g2.loc (nid + q) = L) → (∀ q, q < gs.length → g2.fv (j + q) = u) → TVR g2 w v u
 fn : ∀ g2, CdA g H i ai g2 → (∀ b p, g.L b p → ∃ b', g2.L b' p) → (∀ b p, g2.L b p → p.block < w.heap.size ∧ p.spot = none) → ∀ gf ∈ gs, FnR P w (fun p => ∃ b, g2.L b p) u gf
theorem ownsAt_get {nid : Nat} {n : List Ob} {q i : Nat} (h : (ownsAt nid n)[q]? = some i) : i = nid + q ∧ q < n.length := by
 simp only [ownsAt, List.getElem?_map] at h
 obtain ⟨q', h1, h2⟩ := Option.map_eq_some_iff.1 h
 have hlt : q < n.length := by
  rcases Nat.lt_or_ge q n.length with h | h
  ·exact h
  ·rw [List.getElem?_eq_none (by simpa using h)] at h1; simp at h1
 rw [List.getElem?_range hlt] at h1
 cases h1
 exact ⟨h2.symm, hlt⟩
theorem ExOk.arg {i nid j : Nat} {ai : AI} {n : List Ob} {ls : List Loc} {og : List (Option Nat)} {arg : Arg} {v : TV} {u : Value} (h : ExOk g w H i nid true ai n ls og) (he : enter1 i nid j arg = some (v, n, ⟨none, ownsAt nid n⟩, []))
  (ht : ∀ g2, CdA g H i ai g2 → (∀ (q : Nat) L, ls[q]? = some L → g2.loc (nid + q) = L) → TVR g2 w v u) : ArgOk P E g w H i nid j arg ai u v n ⟨none, ownsAt nid n⟩ [] ls og := by
 have hbusy : ai.busy = ai.own.map (·.1) := by simp [AI.busy, h.bx]
 have hlen : n.length = ai.own.length := by
  have h1 := h.ov rfl
  have h2 := h.pc.l2
  rw [h1] at h2
  simpa using h2.symm
 refine ⟨he, h.pc, by rw [h.fo, hbusy], h.bor, fun id hid => by rw [h.rd] at hid; simp at hid, fun k hk => ?_, fun gc hl => ?_, fun g2 hc hl _ => ht g2 hc hl, fun g2 _ _ _ gf hgf => by simp at hgf⟩
 ·rw [hbusy] at hk
  obtain ⟨x, hx, rfl⟩ := List.mem_map.1 hk
  exact h.hid x hx
 ·unfold XRel
  rw [h.bx]
  refine ⟨rfl, by simp [ownsAt, hlen], fun q k o hq ho => ?_⟩
  obtain ⟨rfl, hlt⟩ := ownsAt_get hq
  have : og[q]? = some (some o.1) := by rw [h.ov rfl, List.getElem?_map, ho]; rfl
  exact hl q _ (h.lo q o.1 this)
theorem ArgOk.fnr {i nid j : Nat} {ai : AI} {u : Value} {gf : GV} (hu : ∃ f us, u = .func f #[] us) (hai : ai.own = []) (hbx : ai.bx = none) (hb : BorOk H ai.bor) (hrd : ∀ id ∈ ai.rd, (∃ cs, H id = some (.box cs)) ∨ ∃ m cs, H id = some (.cbox m cs))
  (hf : ∀ g2, CdA g H i ai g2 → (∀ b p, g.L b p → ∃ b', g2.L b' p) → (∀ b p, g2.L b p → p.block < w.heap.size ∧ p.spot = none) → FnR P w (fun p => ∃ b, g2.L b p) u gf) : ArgOk P E g w H i nid j (.fn gf) ai u (one1 (.fv j)) [] ⟨none, []⟩ [gf] [] [] := by
 refine ⟨rfl, Piece.nil nid, by simp [AI.busy, hai, hbx], hb, hrd, fun k hk => by simp [AI.busy, hai, hbx] at hk, fun gc _ => ?_, fun g2 hc hl hfv => ?_, fun g2 hc hg hlt gf' hgf => ?_⟩
 ·unfold XRel
  rw [hbx]
  exact ⟨rfl, by simp [hai], fun q k o hq => by simp at hq⟩
 ·have h1 := hfv 0 (by simp)
  rw [Nat.add_zero] at h1
  exact ⟨h1.symm, hu⟩
 ·simp at hgf; subst hgf
  exact hf g2 hc hg hlt
end Go.Proofs.YtdhifkdijlghdaaGreatDoorA
