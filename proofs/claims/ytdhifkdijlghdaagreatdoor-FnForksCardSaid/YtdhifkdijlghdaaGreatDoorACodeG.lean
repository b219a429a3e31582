/-
  One argument; all arguments. No condition.
-/
import Derived.Test.YtdhifkdijlghdaaGreatDoorACodeF
namespace Go.Proofs.YtdhifkdijlghdaaGreatDoorA
open Go
set_option linter.unusedVariables false
set_option linter.unusedSimpArgs false
variable {P : Program} {E : Env} {M0 : Addr → Prop} {w0 w : World} {g gc : Gh} {H : Nat → Option Ob}
theorem FnR.mono {S S' : Addr → Prop} {v : Value} {gf : GV} (h : FnR P w S v gf) (hs : ∀ p, S p → S' p) : FnR P w S' v gf := by
 obtain ⟨f, caps, h1, h2, h3⟩ := h
 exact ⟨f, caps, h1, h2, fun w' hw' => h3 w' fun p hp => hw' p (hs p hp)⟩
theorem CdA.ins {i : Nat} {ai : AI} {g2 : Gh} (h : CdA g H i ai g2) : InS g H ai (fun p => ∃ b, g2.L b p) :=
 ⟨fun p hp => ⟨_, h.m p hp⟩, fun x hx p hp => ⟨_, h.bor x hx p hp⟩, fun x hx p hp => ⟨_, h.rd x hx p hp⟩⟩
theorem capArg_ai : ∀ {cs : List C} {args : List Arg} {ai : AI} {l : List Nat}, Inv M0 w0 g H w → (∃ us, F2 (CR g w) cs us) → capArgs cs H = some ((args, ai), l) → ai.own = [] ∧ ai.bx = none ∧ BorOk H ai.bor ∧ ∀ id ∈ ai.rd, (∃ cs, H id = some (.box cs)) ∨ ∃ m cs, H id = some (.cbox m cs)
 | [], args, ai, l, hI, hu, h => by
  unfold capArgs at h
  cases M.ret_some (H := H) h
  exact ⟨rfl, rfl, fun x hx => by simp [AI.e] at hx, fun x hx => by simp [AI.e] at hx⟩
 | c :: cs, args, ai, l, hI, ⟨us, hu⟩, h => by
  unfold capArgs at h
  obtain ⟨a, l1, l2, h1, h2, _⟩ := M.bind_some h
  obtain ⟨b, l3, l4, h3, h4, _⟩ := M.bind_some h2
  cases M.ret_some h4
  match us, hu with
  | u :: us, hu =>
   obtain ⟨k1, k2, k3, k4⟩ := capArg_ai hI ⟨us, hu.2⟩ h3
   have head : a.2.own = [] ∧ a.2.bx = none ∧ BorOk H a.2.bor ∧ ∀ id ∈ a.2.rd, (∃ cs, H id = some (.box cs)) ∨ ∃ m cs, H id = some (.cbox m cs) := by
    unfold capArg at h1
    split at h1
    ·rename_i id off hu
     obtain ⟨o, l5, l6, h5, h6, _⟩ := M.bind_some h1
     have hid := M.get_some h5
     have key : ∀ (cs1 : List C), (H id = some (.box cs1) ∨ ∃ m, H id = some (.cbox m cs1)) → (M.bind (exCs true [] (cs1.drop off)) fun a => if a.2.own.isEmpty then M.ret (Arg.ro a.1, { a.2 with rd := id :: a.2.rd }) else M.fail) H = some (a, l6) → a.2.own = [] ∧ a.2.bx = none ∧ BorOk H a.2.bor ∧ ∀ id ∈ a.2.rd, (∃ cs, H id = some (.box cs)) ∨ ∃ m cs, H id = some (.cbox m cs) := by
      intro cs1 hid1 h7
      obtain ⟨z, l7, l8, h8, h9, _⟩ := M.bind_some h7
      split at h9
      ·rename_i ho
       cases M.ret_some (H := H) h9
       obtain ⟨c2, L, e1, e2, e3, e4, e5, e6, _⟩ := ro_ok (t := cs1.length) hI hid1 (by rw [List.take_of_length_le (by simp)]; exact h8) ho hu.1 0 0 0
       refine ⟨e4, e5, e3, fun k hk => ?_⟩
       rcases List.mem_cons.1 hk with rfl | hk
       ·rcases hid1 with h | ⟨m, h⟩
        ·exact .inl ⟨_, h⟩
        ·exact .inr ⟨_, _, h⟩
       ·rw [e6] at hk; simp at hk
      ·exact (M.fail_some (H := H) h9).elim
     cases o <;> try exact (M.fail_some h6).elim
     ·exact key _ (.inl hid) h6
     ·exact key _ (.inr ⟨_, hid⟩) h6
    ·obtain ⟨z, l7, l8, h8, h9, _⟩ := M.bind_some h1
     cases M.ret_some (H := H) h9
     obtain ⟨c2, n, ls, og, e1, e2, e3⟩ := exC_ok hI h8 hu.1 0 0
     exact ⟨exC_none h8, e2.bx, e2.bor, fun k hk => by rw [e2.rd] at hk; simp at hk⟩
   obtain ⟨m1, m2, m3, m4⟩ := head
   refine ⟨by simp [AI.app, m1, k1], by simp [AI.app, m2, k2], fun x hx => ?_, fun x hx => ?_⟩
   ·exact (List.mem_append.1 hx).elim (m3 x) (k3 x)
   ·exact (List.mem_append.1 hx).elim (m4 x) (k4 x)
theorem exArg_ok (hE : EOk P E) (hI : Inv M0 w0 g H w) (hfv : FvOk P g w E.gv) {ps : PS} {x : TV} {arg : Arg} {ai : AI} {l : List Nat} (h : exArg E ps x H = some ((arg, ai), l)) {u : Value} (hu : TVR g w x u) (i nid j : Nat) :
  ∃ v n x0 gs ls og, ArgOk P E g w H i nid j arg ai u v n x0 gs ls og := by
 unfold exArg at h
 split at h
 ·obtain ⟨z, l1, l2, h1, h2, _⟩ := M.bind_some h
  cases M.ret_some h2
  obtain ⟨c2, n, ls, og, e1, e2, e3⟩ := exC_ok hI h1 hu i nid
  exact ⟨one1 c2, n, _, [], ls, og, e2.arg (by simp [enter1, e1]) e3⟩
 ·obtain ⟨z, l1, l2, h1, h2, _⟩ := M.bind_some h
  cases M.ret_some h2
  obtain ⟨us, rfl, hus⟩ := hu
  obtain ⟨c2, n, ls, og, e1, _, e2, e3⟩ := exCs_ok hI h1 hus i nid
  exact ⟨.v (.agg c2), n, _, [], ls, og, e2.arg (by simp [enter1, e1]) fun g2 hc hl => ⟨us, rfl, e3 g2 hc hl⟩⟩
 ·split at h
  ·rename_i n0 k xs hf
   cases M.ret_some (H := H) h
   obtain ⟨us, rfl, hx, _, hr⟩ := hu
   exact ⟨.v (.vec n0 k xs), [], _, [], [], [], (ExOk.plain []).arg (by simp [enter1, hf, ownsAt]) fun g2 _ _ => ⟨us, rfl, hx, hf, hr⟩⟩
  ·exact (M.fail_some (H := H) h).elim
 ·rename_i cks id off
  obtain ⟨o, l1, l2, h1, h2, _⟩ := M.bind_some h
  have hid := M.get_some h1
  cases o <;> try exact (M.fail_some h2).elim
  rename_i cs
  dsimp only at h2
  split at h2
  ·rename_i hoff
   obtain ⟨rfl, hlen⟩ := hoff
   obtain ⟨z, l3, l4, h3, h4, _⟩ := M.bind_some h2
   cases M.ret_some h4
   obtain ⟨a, us, e, hus, hcell⟩ := hI.ob _ _ hid
   obtain ⟨c2, n, ls, og, e1, e1l, e2, e3⟩ := exCs_ok hI h3 hus i (nid + 1)
   obtain ⟨a', e', rfl⟩ := hu
   rw [e] at e'; cases e'
   have hbusy : AI.busy { z.2 with bx := some (id, cs) } = id :: z.2.own.map (·.1) := by simp [AI.busy]
   have hcd : ∀ g2, CdA g H i { z.2 with bx := some (id, cs) } g2 → CdA g H i z.2 g2 := fun g2 hc => ⟨hc.m, hc.bor, hc.rd⟩
   have hl1 : ∀ g2 : Gh, (∀ (q : Nat) L, (Loc.box a :: ls)[q]? = some L → g2.loc (nid + q) = L) → ∀ (q : Nat) L, ls[q]? = some L → g2.loc (nid + 1 + q) = L := fun g2 hl q L hL => by
    have := hl (q + 1) L (by simpa using hL)
    rwa [show nid + (q + 1) = nid + 1 + q by omega] at this
   refine ⟨one1 (.bptr nid 0), .box c2 :: n, ⟨some nid, []⟩, [], .box a :: ls, some id :: og, ?_, ⟨by simp [e2.pc.l1], by simp [e2.pc.l2], fun L hL => ?_, fun g2 hc hl q o hq => ?_⟩, by rw [hbusy]; simp [e2.fo], e2.bor, fun k hk => ?_, fun k hk => ?_, fun gc hl => ?_, fun g2 hc hl _ => ?_, fun g2 _ _ _ gf hgf => by simp at hgf⟩
   ·simp [enter1, e1]
   ·rcases List.mem_cons.1 hL with rfl | hL
    ·simp
    ·exact e2.pc.nn L hL
   ·cases q with
    | zero =>
     simp at hq; subst hq
     have hloc : g2.loc (nid + 0) = .box a := hl 0 _ rfl
     refine ⟨⟨a, us, hloc, e3 g2 (hcd g2 hc) (hl1 g2 hl), hcell⟩, fun p ⟨a', j, e', hj, hp⟩ => ⟨id, _, rfl, hid, a', j, by rw [e, ← hloc]; exact e', by rw [← e1l]; exact hj, hp⟩⟩
    | succ q =>
     have := e2.pc.ob g2 (hcd g2 hc) (hl1 g2 hl) q o (by simpa using hq)
     rw [show nid + 1 + q = nid + (q + 1) by omega] at this
     refine ⟨this.1, fun p hp => ?_⟩
     obtain ⟨id', o', h1, h2⟩ := this.2 p hp
     exact ⟨id', o', by simpa using h1, h2⟩
   ·have hk' : k ∈ z.2.rd := hk
    rw [e2.rd] at hk'; simp at hk'
   ·rw [hbusy] at hk
    rcases List.mem_cons.1 hk with rfl | hk
    ·simp [hid]
    ·obtain ⟨y, hy, rfl⟩ := List.mem_map.1 hk
     exact e2.hid y hy
   ·exact ⟨nid, rfl, by have := hl 0 _ rfl; rw [Nat.add_zero] at this; rw [this, e]⟩
   ·exact ⟨a, by have := hl 0 _ rfl; rwa [Nat.add_zero] at this, rfl⟩
  ·exact (M.fail_some (H := H) h2).elim
 ·rename_i cks id off
  obtain ⟨o, l1, l2, h1, h2, _⟩ := M.bind_some h
  have hid := M.get_some h1
  have key : ∀ (cs1 : List C), (H id = some (.box cs1) ∨ ∃ m, H id = some (.cbox m cs1)) → (M.bind (exCs true cks ((cs1.drop off).take cks.length)) fun a => if a.2.own.isEmpty then M.ret (Arg.ro a.1, { a.2 with rd := id :: a.2.rd }) else M.fail) H = some ((arg, ai), l2) → ∃ v n x0 gs ls og, ArgOk P E g w H i nid j arg ai u v n x0 gs ls og := by
   intro cs1 hid1 h7
   obtain ⟨z, l7, l8, h8, h9, _⟩ := M.bind_some h7
   split at h9
   ·rename_i ho
    cases M.ret_some (H := H) h9
    obtain ⟨c2, L, e1, e2, e3, e4, e5, e6, e7⟩ := ro_ok hI hid1 h8 ho hu i nid j
    have hloc : ∀ g2 : Gh, (∀ (q : Nat) L', [L][q]? = some L' → g2.loc (nid + q) = L') → g2.loc nid = L := fun g2 hl => by have := hl 0 L rfl; rwa [Nat.add_zero] at this
    refine ⟨_, _, _, _, [L], [none], e1, ⟨rfl, rfl, fun L' hL => by simp at hL; subst hL; exact e2, fun g2 hc hl q o hq => ?_⟩, by simp [AI.busy, e4, e5], e3, fun k hk => ?_, fun k hk => by simp [AI.busy, e4, e5] at hk, fun gc hl => ?_, fun g2 hc hl _ => (e7 g2 hc (hloc g2 hl)).1, fun g2 _ _ _ gf hgf => by simp at hgf⟩
    ·cases q with
     | zero =>
      simp at hq; subst hq
      exact ⟨(e7 g2 hc (hloc g2 hl)).2, fun p hp => hp.elim⟩
     | succ q => simp at hq
    ·rcases List.mem_cons.1 hk with rfl | hk
     ·rcases hid1 with h | ⟨m, h⟩
      ·exact .inl ⟨_, h⟩
      ·exact .inr ⟨_, _, h⟩
     ·rw [e6] at hk; simp at hk
    ·unfold XRel
     simp only [e5, e4]
     exact ⟨trivial, rfl, fun q k o hq => by simp at hq⟩
   ·exact (M.fail_some (H := H) h9).elim
  cases o <;> try exact (M.fail_some h2).elim
  ·exact key _ (.inl hid) h2
  ·exact key _ (.inr ⟨_, hid⟩) h2
 ·rename_i f
  cases hfi : E.fi f with
  | none => rw [hfi] at h; exact (M.fail_some (H := H) h).elim
  | some fi =>
   rw [hfi] at h
   cases M.ret_some (H := H) h
   have hu' : u = .func (.func f) #[] #[] := hu
   exact ⟨_, _, _, _, _, _, ArgOk.fnr ⟨_, _, hu'⟩ rfl rfl (fun x hx => by simp [AI.e] at hx) (fun x hx => by simp [AI.e] at hx) fun g2 hc hg hlt => by
    rw [hu']
    exact asFn_ok (hE.fi f fi hfi) hI (fun p ⟨b, hp⟩ => hlt b p hp) (hfv.tab.mono (fun p ⟨b, hp⟩ => hg b p hp) (fun _ _ => rfl)) (caps := []) (args := []) (ai := .e) (l := []) rfl trivial hc.ins⟩
 ·rename_i f id
  cases hfi : E.fi f with
  | none => rw [hfi] at h; exact (M.fail_some (H := H) h).elim
  | some fi =>
   rw [hfi] at h
   obtain ⟨o, l1, l2, h1, h2, _⟩ := M.bind_some h
   have hid := M.get_some h1
   cases o <;> try exact (M.fail_some h2).elim
   rename_i caps
   obtain ⟨z, l3, l4, h3, h4, _⟩ := M.bind_some h2
   cases M.ret_some h4
   obtain ⟨us, e, hus⟩ := hI.ob _ _ hid
   obtain ⟨us', e', hu'⟩ := hu
   rw [e] at e'; cases e'
   obtain ⟨k1, k2, k3, k4⟩ := capArg_ai hI ⟨_, hus⟩ h3
   exact ⟨_, _, _, _, _, _, ArgOk.fnr ⟨_, _, hu'⟩ k1 k2 k3 k4 fun g2 hc hg hlt => by
    rw [hu']
    exact asFn_ok (hE.fi f fi hfi) hI (fun p ⟨b, hp⟩ => hlt b p hp) (hfv.tab.mono (fun p ⟨b, hp⟩ => hg b p hp) (fun _ _ => rfl)) h3 hus hc.ins⟩
 ·rename_i k
  cases hgf : E.gv[k]? with
  | none => rw [hgf] at h; exact (M.fail_some (H := H) h).elim
  | some gf =>
   rw [hgf] at h
   cases M.ret_some (H := H) h
   obtain ⟨hu1, hu2⟩ : u = g.fv k ∧ ∃ f us, u = .func f #[] us := hu
   exact ⟨_, _, _, _, _, _, ArgOk.fnr hu2 rfl rfl (fun x hx => by simp [AI.e] at hx) (fun x hx => by simp [AI.e] at hx) fun g2 hc hg hlt => by
    rw [hu1]
    exact (hfv.fn k gf hgf).mono fun p ⟨b, hp⟩ => hg b p hp⟩
 ·exact (M.fail_some (H := H) h).elim
end Go.Proofs.YtdhifkdijlghdaaGreatDoorA
