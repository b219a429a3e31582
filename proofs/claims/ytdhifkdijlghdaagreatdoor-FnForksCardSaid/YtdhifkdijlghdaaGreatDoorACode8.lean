/-
  Objects that change hands: what goes out of a function. No condition.
-/
import Derived.Test.YtdhifkdijlghdaaGreatDoorACode7
namespace Go.Proofs.YtdhifkdijlghdaaGreatDoorA
open Go
set_option linter.unusedVariables false
set_option linter.unusedSimpArgs false
variable {P : Program} {E : Env} {M0 : Addr → Prop} {w0 w : World} {g : Gh} {H : Nat → Option Ob} {σ : St} {a : Act}
structure Piece (Cd : Gh → Prop) (g : Gh) (w : World) (H : Nat → Option Ob) (nid : Nat) (n : List Ob) (ls : List Loc) (og : List (Option Nat)) : Prop where
 l1 : ls.length = n.length
 l2 : og.length = n.length
 nn : ∀ L ∈ ls, L ≠ .none
 ob : ∀ g2, Cd g2 → (∀ (q : Nat) L, ls[q]? = some L → g2.loc (nid + q) = L) → ∀ (q : Nat) o, n[q]? = some o → ObR g2 w (nid + q) o ∧ ∀ p, MR g2 (nid + q) o p → ∃ id o', og[q]? = some (some id) ∧ H id = some o' ∧ MR g id o' p
theorem Piece.nil {Cd : Gh → Prop} (nid : Nat) : Piece Cd g w H nid [] [] [] := ⟨rfl, rfl, fun _ h => by simp at h, fun _ _ _ q o h => by simp at h⟩
theorem Piece.app {Cd : Gh → Prop} {nid : Nat} {n n' : List Ob} {ls ls' : List Loc} {og og' : List (Option Nat)} (h : Piece Cd g w H nid n ls og) (h' : Piece Cd g w H (nid + n.length) n' ls' og') : Piece Cd g w H nid (n ++ n') (ls ++ ls') (og ++ og') := by
 refine ⟨by simp [h.l1, h'.l1], by simp [h.l2, h'.l2], fun L hL => (List.mem_append.1 hL).elim (h.nn L) (h'.nn L), fun g2 hc hl q o hq => ?_⟩
 rcases Nat.lt_or_ge q n.length with hlt | hge
 ·rw [List.getElem?_append_left hlt] at hq
  obtain ⟨h1, h2⟩ := h.ob g2 hc (fun q L hL => hl q L (by
   rw [List.getElem?_append_left]
   ·exact hL
   ·rcases Nat.lt_or_ge q ls.length with h | h
    ·exact h
    ·rw [List.getElem?_eq_none h] at hL; simp at hL)) q o hq
  refine ⟨h1, fun p hp => ?_⟩
  obtain ⟨id, o', h3, h4⟩ := h2 p hp
  exact ⟨id, o', by rw [List.getElem?_append_left (by rw [h.l2]; exact hlt)]; exact h3, h4⟩
 ·rw [List.getElem?_append_right hge] at hq
  obtain ⟨h1, h2⟩ := h'.ob g2 hc (fun q L hL => by
   have := hl (n.length + q) L (by rw [List.getElem?_append_right (by rw [h.l1]; omega), h.l1]; rwa [Nat.add_sub_cancel_left])
   rwa [← Nat.add_assoc] at this) (q - n.length) o hq
  rw [show nid + n.length + (q - n.length) = nid + q by omega] at h1 h2
  refine ⟨h1, fun p hp => ?_⟩
  obtain ⟨id, o', h3, h4⟩ := h2 p hp
  exact ⟨id, o', by rw [List.getElem?_append_right (by rw [h.l2]; exact hge), h.l2]; exact h3, h4⟩
def gls (g : Gh) (ls : List Loc) : Gh := { g with loc := fun i => (ls[i]?).getD .none }
theorem gls_loc {ls : List Loc} (q : Nat) (L : Loc) (h : ls[q]? = some L) : (gls g ls).loc (0 + q) = L := by
 show (ls[0 + q]?).getD .none = L
 rw [Nat.zero_add, h]; rfl
theorem Piece.inv {Cd : Gh → Prop} {M0' : Addr → Prop} {w0' : World} {gx : Gh} {n : List Ob} {ls : List Loc} {og : List (Option Nat)} (hI : Inv M0 w0 g H w) (h : Piece Cd g w H 0 n ls og) (hnd : (og.filterMap id).Nodup) (hc : Cd (gls gx ls))
  (hst : ∀ b p, gx.L b p → ∀ i o, some i ∈ og → H i = some o → ¬ MR g i o p) (hal : ∀ i o p, some i ∈ og → H i = some o → MR g i o p → M0' p ∨ w0'.heap.size ≤ p.block) (hlt : ∀ b p, gx.L b p → p.block < w.heap.size ∧ p.spot = none)
  (hl0 : ∀ p, gx.L 0 p → M0' p ∨ w0'.heap.size ≤ p.block) (hk : Keeps M0' w0' w) : Inv M0' w0' (gls gx ls) (fun i => n[i]?) w := by
 have hob := h.ob (gls gx ls) hc gls_loc
 refine ⟨fun i o hi => by have := (hob i o hi).1; rwa [Nat.zero_add] at this, ?_, ?_, ?_, ?_, hlt, hl0, hk, hI.tz⟩
 ·intro i j o o' p hij hi hj hm hm'
  obtain ⟨id1, o1, h1, h2, h3⟩ := (hob i o hi).2 p (by rwa [Nat.zero_add])
  obtain ⟨id2, o2, h4, h5, h6⟩ := (hob j o' hj).2 p (by rwa [Nat.zero_add])
  by_cases he : id1 = id2
  ·subst he
   exact hij (nodup_fm hnd h1 h4)
  ·exact hI.dj id1 id2 o1 o2 p he h2 h5 h3 h6
 ·intro i o p b hi hm hl
  obtain ⟨id1, o1, h1, h2, h3⟩ := (hob i o hi).2 p (by rwa [Nat.zero_add])
  exact hst b p hl id1 o1 (List.mem_of_getElem? h1) h2 h3
 ·intro i o p hi hm
  obtain ⟨id1, o1, h1, h2, h3⟩ := (hob i o hi).2 p (by rwa [Nat.zero_add])
  exact hal id1 o1 p (List.mem_of_getElem? h1) h2 h3
 ·intro i hi
  have hi' : n[i]? = none := hi
  show (ls[i]?).getD .none = _
  rw [List.getElem?_eq_none (by rw [h.l1]; exact List.getElem?_eq_none_iff.1 hi')]; rfl
where
 nodup_fm {og : List (Option Nat)} {i j : Nat} {x : Nat} (hnd : (og.filterMap id).Nodup) (h1 : og[i]? = some (some x)) (h2 : og[j]? = some (some x)) : i = j := by
  induction og generalizing i j with
  | nil => simp at h1
  | cons y og ih =>
   cases y with
   | none =>
    simp only [List.filterMap_cons, id] at hnd
    cases i with
    | zero => simp at h1
    | succ i => cases j with
     | zero => simp at h2
     | succ j => exact congrArg (· + 1) (ih (i := i) (j := j) hnd (by simpa using h1) (by simpa using h2))
   | some y =>
    simp only [List.filterMap_cons, id, List.nodup_cons] at hnd
    have hno : ∀ k : Nat, og[k]? = some (some y) → False := fun k hk => hnd.1 (List.mem_filterMap.2 ⟨some y, List.mem_of_getElem? hk, rfl⟩)
    cases i with
    | zero =>
     simp at h1; subst h1
     cases j with
     | zero => rfl
     | succ j => exact (hno j (by simpa using h2)).elim
    | succ i => cases j with
     | zero => simp at h2; subst h2; exact (hno i (by simpa using h1)).elim
     | succ j => exact congrArg (· + 1) (ih (i := i) (j := j) hnd.2 (by simpa using h1) (by simpa using h2))
def SameL (g : Gh) (g2 : Gh) : Prop := g2.L = g.L ∧ g2.fv = g.fv
theorem Piece.arr {Cd : Gh → Prop} (hcd : ∀ g2, Cd g2 → ∀ b p, g.L b p → True) {nid id : Nat} {k : Kd} {xs : List (El k)} {m m2 : List Nat} {b : Bool} (hI : Inv M0 w0 g H w) (hid : H id = some (.arr k xs m b))
  (hS : ∀ g2, Cd g2 → ∀ p, SM g.L m p → SM g2.L m2 p) (hL0 : ∀ g2, Cd g2 → b = false → ∀ a n c j, g.loc id = .arr (some a) n c → j < xs.length * k.size → g2.L 0 (pl a j)) :
  Piece Cd g w H nid [.arr k xs (nm k m2) b] [g.loc id] [some id] := by
 obtain ⟨A, n, c, us, e, hx, hnc, hu, hcell⟩ := hI.ob _ _ hid
 refine ⟨rfl, rfl, fun L hL => by simp at hL; subst hL; rw [e]; simp, fun g2 hc hl q o hq => ?_⟩
 cases q with
 | succ q => simp at hq
 | zero =>
  simp at hq; subst hq
  have hloc : g2.loc (nid + 0) = g.loc id := hl 0 _ rfl
  have hul := Rows2.len (ER.len k) hu
  refine ⟨⟨A, n, c, us, by rw [hloc, e], hx, hnc, Rows2.mono (fun x y hxy => ER.nm (ER.mono (fun p hp => hS g2 hc p hp) (fun _ _ => rfl) k x y hxy)) hu, ?_⟩, fun p ⟨a, n', c', j, e', hj, hj', hp⟩ => ⟨id, _, rfl, hid, a, n', c', j, by rw [← hloc]; exact e', hj, hj', hp⟩⟩
  rcases hcell with h0 | ⟨a, ha, hsp, h1, h2, h3⟩
  ·exact .inl h0
  ·exact .inr ⟨a, ha, hsp, h1, h2, fun hb j hj => hL0 g2 hc hb a n c j (by rw [e, ha]) (by omega), h3.2⟩
theorem Piece.empty {Cd : Gh → Prop} {nid : Nat} {k : Kd} {m : List Nat} (A : Option Addr) : Piece Cd g w H nid [.arr k [] m true] [.arr A 0 0] [none] := by
 refine ⟨rfl, rfl, fun L hL => by simp at hL; subst hL; simp, fun g2 hc hl q o hq => ?_⟩
 cases q with
 | succ q => simp at hq
 | zero =>
  simp at hq; subst hq
  have hloc : g2.loc (nid + 0) = .arr A 0 0 := hl 0 _ rfl
  refine ⟨⟨A, 0, 0, [], hloc, rfl, Nat.le_refl _, rfl, .inl rfl⟩, fun p ⟨a, n', c', j, e', hj, hj', hp⟩ => ?_⟩
  rw [hloc] at e'; cases e'; simp at hj'
theorem outC_ok (hI : Inv M0 w0 g H w) {ck : Option (Kd × Bool)} {c c' : C} {ids l : List Nat} (h : outC ck c H = some ((c', ids), l)) {v : Value} (hc : CR g w c v) (nid : Nat) :
  ∃ c2 n ls og, imC id nid c' = some (c2, n) ∧ Piece (SameL g) g w H nid n ls og ∧ og.filterMap id = ids ∧ (∀ i, some i ∈ og → i ∈ ids) ∧ ∀ g2, SameL g g2 → (∀ (q : Nat) L, ls[q]? = some L → g2.loc (nid + q) = L) → CR g2 w c2 v := by
 have hE : ∀ g2, SameL g g2 → ∀ m p, SM g.L m p → SM g2.L m p := fun g2 h m p hp => by rw [h.1]; exact hp
 cases c with
 | int k n => cases M.ret_some (H := H) h; exact ⟨_, _, _, _, rfl, Piece.nil nid, rfl, fun i hi => by simp at hi, fun g2 _ _ => hc⟩
 | bool b => cases M.ret_some (H := H) h; exact ⟨_, _, _, _, rfl, Piece.nil nid, rfl, fun i hi => by simp at hi, fun g2 _ _ => hc⟩
 | str s => cases M.ret_some (H := H) h; exact ⟨_, _, _, _, rfl, Piece.nil nid, rfl, fun i hi => by simp at hi, fun g2 _ _ => hc⟩
 | slv m k xs =>
  simp only [outC] at h
  split at h
  ·exact (M.fail_some (H := H) h).elim
  ·cases M.ret_some (H := H) h
   exact ⟨_, _, _, _, rfl, Piece.nil nid, rfl, fun i hi => by simp at hi, fun g2 hs _ => by
    show ER w (SM g2.L m) (.list k) xs [v]
    rw [hs.1]; exact hc⟩
 | nil =>
  obtain ⟨A, rfl⟩ := hc
  cases ck with
  | none => exact (M.fail_some (H := H) h).elim
  | some kb =>
   obtain ⟨k, b⟩ := kb
   cases b with
   | true =>
    cases M.ret_some (H := H) h
    refine ⟨_, _, _, _, rfl, Piece.empty A, rfl, fun i hi => by simp at hi, fun g2 _ hl => ⟨A, 0, 0, by have := hl 0 _ rfl; rwa [Nat.add_zero] at this, rfl⟩⟩
   | false =>
    cases M.ret_some (H := H) h
    exact ⟨_, _, _, _, rfl, Piece.nil nid, rfl, fun i hi => by simp at hi, fun g2 _ _ => ⟨A, 0, 0, [], rfl, rfl, Nat.le_refl _, rfl, .inl rfl⟩⟩
 | slo id' =>
  obtain ⟨o, l1, l2, h1, h2, _⟩ := M.bind_some h
  have hid := M.get_some h1
  cases o <;> try exact (M.fail_some h2).elim
  rename_i k xs m b
  cases ck with
  | none => exact (M.fail_some h2).elim
  | some kb =>
   obtain ⟨k', b'⟩ := kb
   cases b' with
   | false => exact (M.fail_some h2).elim
   | true =>
    cases M.ret_some h2
    obtain ⟨A, n, c, e, rfl⟩ := hc
    refine ⟨_, _, _, _, rfl, Piece.arr (fun _ _ _ _ _ => trivial) hI hid (fun g2 hs p hp => hE g2 hs _ p hp) (fun g2 hs hb a' n' c' j e' hj => ?_), rfl, fun i hi => by simpa using hi, fun g2 _ hl => ⟨A, n, c, by have := hl 0 _ rfl; rw [Nat.add_zero] at this; rw [this, e], rfl⟩⟩
    rw [hs.1]
    obtain ⟨A2, n2, c2, us, e2, hx, hnc, hu, hcell⟩ := hI.ob _ _ hid
    rw [e'] at e2; cases e2
    rcases hcell with h0 | ⟨a, ha, hsp, _, _, h3⟩
    ·have hx0 : xs.length = 0 := by omega
     rw [hx0] at hj; simp at hj
    ·cases ha
     exact h3.1 hb j (by rw [Rows2.len (ER.len k) hu]; exact hj)
 | _ => exact (M.fail_some (H := H) h).elim
theorem outCs_ok (hI : Inv M0 w0 g H w) : ∀ (cs : List C) (cks : List (Option (Kd × Bool))) (cs' : List C) (ids l : List Nat), outCs cks cs H = some ((cs', ids), l) → ∀ us, F2 (CR g w) cs us → ∀ nid,
  ∃ cs2 n ls og, imCs id nid cs' = some (cs2, n) ∧ cs2.length = cs.length ∧ Piece (SameL g) g w H nid n ls og ∧ og.filterMap id = ids ∧ (∀ i, some i ∈ og → i ∈ ids) ∧ ∀ g2, SameL g g2 → (∀ (q : Nat) L, ls[q]? = some L → g2.loc (nid + q) = L) → F2 (CR g2 w) cs2 us
 | [], cks, cs', ids, l, h, us, hu, nid => by
  unfold outCs at h
  cases M.ret_some (H := H) h
  match us, hu with
  | [], _ => exact ⟨[], [], [], [], rfl, rfl, Piece.nil nid, rfl, fun i hi => by simp at hi, fun _ _ _ => trivial⟩
 | c :: cs, cks, cs', ids, l, h, us, hu, nid => by
  unfold outCs at h
  obtain ⟨a, l1, l2, h1, h2, _⟩ := M.bind_some h
  obtain ⟨b, l3, l4, h3, h4, _⟩ := M.bind_some h2
  cases M.ret_some h4
  match us, hu with
  | u :: us, hu =>
   obtain ⟨c2, n, ls, og, e1, e2, e3, e3', e4⟩ := outC_ok hI h1 hu.1 nid
   obtain ⟨cs2, n', ls', og', f1, f0, f2, f3, f3', f4⟩ := outCs_ok hI cs cks.tail b.1 b.2 l3 h3 us hu.2 (nid + n.length)
   refine ⟨c2 :: cs2, n ++ n', ls ++ ls', og ++ og', by simp only [imCs, e1, f1], by simp [f0], e2.app f2, by rw [List.filterMap_append, e3, f3], fun i hi => ?_, fun g2 hs hl => ⟨e4 g2 hs fun q L hL => hl q L ?_, f4 g2 hs fun q L hL => ?_⟩⟩
   ·rcases List.mem_append.1 hi with hi | hi
    ·exact List.mem_append.2 (.inl (e3' i hi))
    ·exact List.mem_append.2 (.inr (f3' i hi))
   ·rw [List.getElem?_append_left]
    ·exact hL
    ·rcases Nat.lt_or_ge q ls.length with h | h
     ·exact h
     ·rw [List.getElem?_eq_none h] at hL; simp at hL
   ·have := hl (n.length + q) L (by rw [List.getElem?_append_right (by rw [e2.l1]; omega), e2.l1]; rwa [Nat.add_sub_cancel_left])
    rwa [← Nat.add_assoc] at this
end Go.Proofs.YtdhifkdijlghdaaGreatDoorA
