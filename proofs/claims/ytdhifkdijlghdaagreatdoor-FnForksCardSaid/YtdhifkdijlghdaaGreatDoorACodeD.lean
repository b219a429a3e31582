/-
  Handing over: the called function's objects out of the caller's. No condition.
-/
import Derived.Test.YtdhifkdijlghdaaGreatDoorACodeC
namespace Go.Proofs.YtdhifkdijlghdaaGreatDoorA
open Go
set_option linter.unusedVariables false
set_option linter.unusedSimpArgs false
variable {P : Program} {E : Env} {M0 : Addr → Prop} {w0 w : World} {g gc : Gh} {H : Nat → Option Ob}
def Vis (g : Gh) (x : Nat × Ob) (p : Addr) : Prop := ∃ a n c k xs m b j, g.loc x.1 = .arr (some a) n c ∧ x.2 = .arr k xs m b ∧ j < xs.length * k.size ∧ p = pl a j
def Cel (g : Gh) (H : Nat → Option Ob) (id : Nat) (p : Addr) : Prop := ∃ a cs j, g.loc id = .box a ∧ (H id = some (.box cs) ∨ ∃ m, H id = some (.cbox m cs)) ∧ j < cs.length ∧ p = pl a j
structure CdA (g : Gh) (H : Nat → Option Ob) (i : Nat) (ai : AI) (g2 : Gh) : Prop where
 m : ∀ p, SM g.L ai.m p → g2.L (i + 1) p
 bor : ∀ x ∈ ai.bor, ∀ p, Vis g x p → g2.L (i + 1) p
 rd : ∀ id ∈ ai.rd, ∀ p, Cel g H id p → g2.L (i + 4097) p
theorem CdA.left {i : Nat} {a b : AI} {g2 : Gh} (h : CdA g H i (a.app b) g2) : CdA g H i a g2 :=
 ⟨fun p ⟨q, hq, hl⟩ => h.m p ⟨q, mem_un_l hq, hl⟩, fun x hx => h.bor x (List.mem_append.2 (.inl hx)), fun x hx => h.rd x (List.mem_append.2 (.inl hx))⟩
theorem CdA.right {i : Nat} {a b : AI} {g2 : Gh} (h : CdA g H i (a.app b) g2) : CdA g H i b g2 :=
 ⟨fun p ⟨q, hq, hl⟩ => h.m p ⟨q, mem_un_r hq, hl⟩, fun x hx => h.bor x (List.mem_append.2 (.inr hx)), fun x hx => h.rd x (List.mem_append.2 (.inr hx))⟩
theorem Piece.mono {Cd Cd' : Gh → Prop} {nid : Nat} {n : List Ob} {ls : List Loc} {og : List (Option Nat)} (h : Piece Cd g w H nid n ls og) (hc : ∀ g2, Cd' g2 → Cd g2) : Piece Cd' g w H nid n ls og :=
 ⟨h.l1, h.l2, h.nn, fun g2 hg => h.ob g2 (hc g2 hg)⟩
def BorOk (H : Nat → Option Ob) (bor : List (Nat × Ob)) : Prop := ∀ x ∈ bor, ∃ k xs m b, H x.1 = some (.arr k xs m b) ∧ x.2 = .arr k xs m false
structure ExOk (g : Gh) (w : World) (H : Nat → Option Ob) (i nid : Nat) (val : Bool) (ai : AI) (n : List Ob) (ls : List Loc) (og : List (Option Nat)) : Prop where
 pc : Piece (CdA g H i ai) g w H nid n ls og
 fo : og.filterMap id = ai.own.map (·.1)
 ov : val = true → og = ai.own.map fun x => some x.1
 lo : ∀ (q i : Nat), og[q]? = some (some i) → ls[q]? = some (g.loc i)
 bx : ai.bx = none
 rd : ai.rd = []
 bor : BorOk H ai.bor
 hid : ∀ x ∈ ai.own, (H x.1).isSome = true
theorem ExOk.plain {i nid : Nat} {val : Bool} (m : List Nat) : ExOk g w H i nid val ⟨m, [], none, [], []⟩ [] [] [] :=
 ⟨Piece.nil nid, rfl, fun _ => rfl, fun q i h => by simp at h, rfl, rfl, fun x hx => by simp at hx, fun x hx => by simp at hx⟩
theorem ExOk.app {i nid : Nat} {val : Bool} {a b : AI} {n n' : List Ob} {ls ls' : List Loc} {og og' : List (Option Nat)} (h : ExOk g w H i nid val a n ls og) (k : ExOk g w H i (nid + n.length) val b n' ls' og') : ExOk g w H i nid val (a.app b) (n ++ n') (ls ++ ls') (og ++ og') := by
 refine ⟨(h.pc.mono fun g2 hc => hc.left).app (k.pc.mono fun g2 hc => hc.right), by rw [List.filterMap_append, h.fo, k.fo]; simp [AI.app], fun hv => by rw [h.ov hv, k.ov hv]; simp [AI.app], fun q j hq => ?_, by simp [AI.app, h.bx, k.bx], by simp [AI.app, h.rd, k.rd], fun x hx => ?_, fun x hx => ?_⟩
 ·rcases Nat.lt_or_ge q n.length with hlt | hge
  ·rw [List.getElem?_append_left (by rw [h.pc.l2]; exact hlt)] at hq
   exact getL' (h.lo q j hq)
  ·rw [List.getElem?_append_right (by rw [h.pc.l2]; exact hge), h.pc.l2] at hq
   have := getR (a := ls) h.pc.l1 (k.lo _ j hq)
   rwa [show n.length + (q - n.length) = q by omega] at this
 ·rcases List.mem_append.1 hx with hx | hx
  ·exact h.bor x hx
  ·exact k.bor x hx
 ·rcases List.mem_append.1 hx with hx | hx
  ·exact h.hid x hx
  ·exact k.hid x hx
theorem exC_ok (hI : Inv M0 w0 g H w) {val : Bool} {ck : Option (Kd × Bool)} {c c' : C} {ai : AI} {l : List Nat} (h : exC val ck c H = some ((c', ai), l)) {v : Value} (hc : CR g w c v) (i nid : Nat) :
  ∃ c2 n ls og, inC (i + 1) nid c' = some (c2, n) ∧ ExOk g w H i nid val ai n ls og ∧ ∀ g2, CdA g H i ai g2 → (∀ (q : Nat) L, ls[q]? = some L → g2.loc (nid + q) = L) → CR g2 w c2 v := by
 cases c with
 | int k n => cases M.ret_some (H := H) h; exact ⟨_, _, _, _, rfl, ExOk.plain [], fun g2 _ _ => hc⟩
 | bool b => cases M.ret_some (H := H) h; exact ⟨_, _, _, _, rfl, ExOk.plain [], fun g2 _ _ => hc⟩
 | str s => cases M.ret_some (H := H) h; exact ⟨_, _, _, _, rfl, ExOk.plain [], fun g2 _ _ => hc⟩
 | slv m k xs =>
  simp only [exC] at h
  split at h
  ·exact (M.fail_some (H := H) h).elim
  ·cases M.ret_some (H := H) h
   exact ⟨_, _, _, _, rfl, ExOk.plain m, fun g2 hcd _ => ER.mono (fun p hp => ⟨i + 1, by simp, hcd.m p hp⟩) (fun _ _ => rfl) _ _ _ hc⟩
 | nil =>
  obtain ⟨A, rfl⟩ := hc
  cases ck with
  | none => exact (M.fail_some (H := H) h).elim
  | some kb =>
   obtain ⟨k, b⟩ := kb
   cases b with
   | true =>
    cases val with
    | true => exact (M.fail_some (H := H) h).elim
    | false =>
     cases M.ret_some (H := H) h
     refine ⟨_, _, [.arr A 0 0], [none], rfl, ⟨Piece.empty A, rfl, fun h => by simp at h, fun q i h => ?_, rfl, rfl, fun x hx => by simp [AI.e] at hx, fun x hx => by simp [AI.e] at hx⟩, fun g2 _ hl => ⟨A, 0, 0, by have := hl 0 _ rfl; rwa [Nat.add_zero] at this, rfl⟩⟩
     cases q <;> simp at h
   | false =>
    cases M.ret_some (H := H) h
    exact ⟨_, _, _, _, rfl, ExOk.plain [], fun g2 _ _ => ⟨A, 0, 0, [], rfl, rfl, Nat.le_refl _, rfl, .inl rfl⟩⟩
 | slo id' =>
  obtain ⟨o, l1, l2, h1, h2, _⟩ := M.bind_some h
  have hid := M.get_some h1
  cases o <;> try exact (M.fail_some h2).elim
  rename_i k xs m b
  have hborrow : ∀ {r : C × AI}, (M.ret (C.slv [] k xs, (⟨m, [(id', .arr k xs m false)], none, [], []⟩ : AI)) : M (C × AI)) H = some (r, l2) → r = (c', ai) → ∃ c2 n ls og, inC (i + 1) nid c' = some (c2, n) ∧ ExOk g w H i nid val ai n ls og ∧ ∀ g2, CdA g H i ai g2 → (∀ (q : Nat) L, ls[q]? = some L → g2.loc (nid + q) = L) → CR g2 w c2 v := by
   intro r hr he
   cases M.ret_some hr
   cases he
   refine ⟨_, _, [], [], rfl, ⟨Piece.nil nid, rfl, fun _ => rfl, fun q i h => by simp at h, rfl, rfl, fun x hx => ?_, fun x hx => by simp at hx⟩, fun g2 hcd _ => ?_⟩
   ·simp at hx; subst hx
    exact ⟨k, xs, m, b, hid, rfl⟩
   ·obtain ⟨A, n, c, e, rfl⟩ := hc
    obtain ⟨A2, n2, c2, us, e2, hx, hnc, hu, hcell⟩ := hI.ob _ _ hid
    rw [e] at e2; cases e2
    refine ⟨A, n, c, us, rfl, hx, hnc, Rows2.mono (ER.mono (fun p hp => ⟨i + 1, by simp, hcd.m p hp⟩) (fun _ _ => rfl) k) hu, ?_⟩
    have hul := Rows2.len (ER.len k) hu
    rcases hcell with h0 | ⟨a, ha, hsp, h5, h6, h7⟩
    ·left
     have hx0 : xs.length = 0 := by omega
     rw [hx0] at hul
     exact List.eq_nil_of_length_eq_zero (by simpa using hul)
    ·refine .inr ⟨a, ha, hsp, fun j u hj => ⟨h5 j u hj, i + 1, by simp, hcd.bor (id', .arr k xs m false) (by simp) _ ⟨a, n, c, k, xs, m, false, j, by rw [e, ha], rfl, ?_, rfl⟩⟩⟩
     rw [← hul]
     rcases Nat.lt_or_ge j us.length with h | h
     ·exact h
     ·rw [List.getElem?_eq_none h] at hj; simp at hj
  cases ck with
  | none => exact hborrow h2 rfl
  | some kb =>
   obtain ⟨k', b'⟩ := kb
   cases b' with
   | false => exact hborrow h2 rfl
   | true =>
    cases b with
    | false => exact (M.fail_some (H := H) (show (M.fail : M (C × AI)) H = _ from h2)).elim
    | true =>
     cases M.ret_some (H := H) (show (M.ret (C.own [] k xs true, (⟨m, [], none, [(id', val)], []⟩ : AI)) : M (C × AI)) H = _ from h2)
     obtain ⟨A, n, c, e, rfl⟩ := hc
     refine ⟨_, _, _, _, rfl, ⟨Piece.arr (fun _ _ _ _ _ => trivial) hI hid (fun g2 hcd p hp => ⟨i + 1, by simp, hcd.m p hp⟩) (fun g2 hs hb => by simp at hb), rfl, fun _ => rfl, fun q j hq => ?_, rfl, rfl, fun x hx => by simp at hx, fun x hx => ?_⟩, fun g2 _ hl => ⟨A, n, c, by have := hl 0 _ rfl; rw [Nat.add_zero] at this; rw [this, e], rfl⟩⟩
     ·cases q with
      | zero => simp at hq; subst hq; rfl
      | succ q => simp at hq
     ·simp at hx; subst hx; simp [hid]
 | _ => exact (M.fail_some (H := H) h).elim
theorem exCs_ok (hI : Inv M0 w0 g H w) {val : Bool} : ∀ {cs : List C} {cks : List (Option (Kd × Bool))} {cs' : List C} {ai : AI} {l : List Nat}, exCs val cks cs H = some ((cs', ai), l) → ∀ {us : List Value}, F2 (CR g w) cs us → ∀ (i nid : Nat),
  ∃ c2 n ls og, inCs (i + 1) nid cs' = some (c2, n) ∧ c2.length = cs.length ∧ ExOk g w H i nid val ai n ls og ∧ ∀ g2, CdA g H i ai g2 → (∀ (q : Nat) L, ls[q]? = some L → g2.loc (nid + q) = L) → F2 (CR g2 w) c2 us
 | [], cks, cs', ai, l, h, us, hu, i, nid => by
  unfold exCs at h
  cases M.ret_some (H := H) h
  match us, hu with
  | [], _ => exact ⟨[], [], [], [], rfl, rfl, ExOk.plain [], fun _ _ _ => trivial⟩
 | c :: cs, cks, cs', ai, l, h, us, hu, i, nid => by
  unfold exCs at h
  obtain ⟨a, l1, l2, h1, h2, _⟩ := M.bind_some h
  obtain ⟨b, l3, l4, h3, h4, _⟩ := M.bind_some h2
  cases M.ret_some h4
  match us, hu with
  | u :: us, hu =>
   obtain ⟨c2, n, ls, og, e1, e2, e3⟩ := exC_ok hI h1 hu.1 i nid
   obtain ⟨cs2, n', ls', og', f1, f0, f2, f3⟩ := exCs_ok hI h3 hu.2 i (nid + n.length)
   refine ⟨c2 :: cs2, n ++ n', ls ++ ls', og ++ og', by simp only [inCs, e1, f1], by simp [f0], e2.app f2, fun g2 hs hl => ⟨e3 g2 hs.left fun q L hL => hl q L (getL' hL), f3 g2 hs.right fun q L hL => ?_⟩⟩
   have := hl (n.length + q) L (getR e2.pc.l1 hL)
   rwa [← Nat.add_assoc] at this
end Go.Proofs.YtdhifkdijlghdaaGreatDoorA
