/-
  A function of the small machine's, from its run: the contract. No condition.
-/
import Derived.Test.YtdhifkdijlghdaaGreatDoorACode8
namespace Go.Proofs.YtdhifkdijlghdaaGreatDoorA
open Go
set_option linter.unusedVariables false
set_option linter.unusedSimpArgs false
variable {P : Program} {E : Env} {M0 : Addr → Prop} {w0 w : World} {g : Gh} {H : Nat → Option Ob} {σ : St} {a : Act}
theorem getL {ls ls' : List Loc} {q : Nat} {L : Loc} (h : ls[q]? = some L) : (ls ++ ls')[q]? = some L := by
 rw [List.getElem?_append_left]
 ·exact h
 ·rcases Nat.lt_or_ge q ls.length with h' | h'
  ·exact h'
  ·rw [List.getElem?_eq_none h'] at h; simp at h
theorem outV_ok (hI : Inv M0 w0 g H w) {cks : List (Option (Kd × Bool))} {x x' : V1} {ids l : List Nat} (h : outV cks x H = some ((x', ids), l)) {v : Value} (hc : V1R g w x v) (nid : Nat) :
  ∃ x2 n ls og, imV id nid x' = some (x2, n) ∧ Piece (SameL g) g w H nid n ls og ∧ og.filterMap id = ids ∧ (∀ i, some i ∈ og → i ∈ ids) ∧ ∀ g2, SameL g g2 → (∀ (q : Nat) L, ls[q]? = some L → g2.loc (nid + q) = L) → V1R g2 w x2 v := by
 cases x with
 | one c =>
  by_cases hb : ∃ id, c = .bptr id 0
  ·obtain ⟨i0, rfl⟩ := hb
   unfold outV at h
   obtain ⟨o, l5, l6, h5, h6, _⟩ := M.bind_some h
   have hid := M.get_some h5
   cases o <;> try exact (M.fail_some h6).elim
   rename_i cs
   obtain ⟨b, l7, l8, h7, h8, _⟩ := M.bind_some h6
   cases M.ret_some h8
   obtain ⟨a0, us, e0, hu, hcell⟩ := hI.ob _ _ hid
   obtain ⟨a', e', rfl⟩ := hc
   rw [e0] at e'; cases e'
   obtain ⟨cs2, n, ls, og, e1, e1l, e2, e3, e3', e4⟩ := outCs_ok hI cs _ b.1 b.2 l7 h7 us hu (nid + 1)
   have hl' : ∀ g2 : Gh, (∀ (q : Nat) L, (g.loc i0 :: ls)[q]? = some L → g2.loc (nid + q) = L) → ∀ (q : Nat) L, ls[q]? = some L → g2.loc (nid + 1 + q) = L := fun g2 hl q L hL => by
    have := hl (q + 1) L (by simpa using hL)
    rwa [show nid + (q + 1) = nid + 1 + q by omega] at this
   refine ⟨.one (.bptr nid 0), .box cs2 :: n, g.loc i0 :: ls, some i0 :: og, by simp [imV, e1], ⟨by simp [e2.l1], by simp [e2.l2], fun L hL => ?_, fun g2 hs hl q o hq => ?_⟩, by simp [e3], fun i hi => ?_, fun g2 hs hl => ?_⟩
   ·rcases List.mem_cons.1 hL with rfl | hL
    ·rw [e0]; simp
    ·exact e2.nn L hL
   ·cases q with
    | zero =>
     simp at hq; subst hq
     have hloc : g2.loc (nid + 0) = g.loc i0 := hl 0 _ rfl
     refine ⟨⟨a0, us, by rw [hloc, e0], e4 g2 hs (hl' g2 hl), hcell⟩, fun p ⟨a', j, e', hj, hp⟩ => ⟨i0, _, rfl, hid, a', j, by rw [← hloc]; exact e', by rw [← e1l]; exact hj, hp⟩⟩
    | succ q =>
     have := e2.ob g2 hs (hl' g2 hl) q o (by simpa using hq)
     rw [show nid + 1 + q = nid + (q + 1) by omega] at this
     refine ⟨this.1, fun p hp => ?_⟩
     obtain ⟨id', o', h1, h2⟩ := this.2 p hp
     exact ⟨id', o', by simpa using h1, h2⟩
   ·rcases List.mem_cons.1 hi with hi | hi
    ·simp at hi; simp [hi]
    ·simp [e3' i hi]
   ·have := hl 0 _ rfl
    rw [Nat.add_zero] at this
    exact ⟨a0, by rw [this, e0], rfl⟩
  ·have h' : (M.bind (outC (cks.headD none) c) fun a => M.ret (V1.one a.1, a.2)) H = some ((x', ids), l) := by
    cases c <;> first | exact h | (rename_i i0 off; cases off with | zero => exact absurd ⟨i0, rfl⟩ hb | succ k => exact h)
   obtain ⟨b, l1, l2, h1, h2, _⟩ := M.bind_some h'
   cases M.ret_some h2
   obtain ⟨c2, n, ls, og, e1, e2, e3, e3', e4⟩ := outC_ok hI h1 hc nid
   exact ⟨.one c2, n, ls, og, by simp [imV, e1], e2, e3, e3', e4⟩
 | pbx => exact hc.elim
 | agg cs =>
  unfold outV at h
  dsimp only at h
  obtain ⟨b, l1, l2, h1, h2, _⟩ := M.bind_some h
  cases M.ret_some h2
  obtain ⟨us, rfl, hu⟩ := hc
  obtain ⟨c2, n, ls, og, e1, _, e2, e3, e3', e4⟩ := outCs_ok hI cs cks b.1 b.2 l1 h1 us.toList hu nid
  exact ⟨.agg c2, n, ls, og, by simp [imV, e1], e2, e3, e3', fun g2 hs hl => ⟨us, rfl, e4 g2 hs hl⟩⟩
 | vec n k xs =>
  unfold outV at h
  dsimp only at h
  split at h
  ·rename_i hf
   cases M.ret_some (H := H) h
   obtain ⟨us, rfl, hn, hf', hu⟩ := hc
   exact ⟨.vec n k xs, [], [], [], by simp [imV, hf], Piece.nil nid, rfl, fun i hi => by simp at hi, fun g2 _ _ => ⟨us, rfl, hn, hf', hu⟩⟩
  ·exact (M.fail_some (H := H) h).elim
def resF (tmps : Array Value) : ResultVar → Sem Value
 | .tmp t => pure (tmps.getD t undef)
 | .cell a t => do loadVar t (← asAddr (tmps.getD a undef))
theorem resV_ok (hT : TtOk P E.tt) {tmps : List (Nat × TV)} (ht : TmR g w tmps a) (hI : Inv M0 w0 g H w) {r : ResultVar} {x : V1} {l : List Nat} (h : resV E tmps r H = some (x, l)) : ∃ u, (resF a.tmps r).run P w = .ok u w ∧ V1R g w x u := by
 cases r with
 | tmp t =>
  unfold resV at h
  cases h1 : lk tmps t with
  | none => simp only [h1] at h; exact (M.fail_some (H := H) h).elim
  | some v =>
   cases v with
   | tup => simp only [h1] at h; exact (M.fail_some (H := H) h).elim
   | v y =>
    simp only [h1] at h
    cases M.ret_some (H := H) h
    obtain ⟨u, h2, h3⟩ := ht t _ h1
    refine ⟨u, ?_, h3⟩
    simp only [resF, Array.getD_eq_getD_getElem?, h2]; rfl
 | cell b t =>
  unfold resV at h
  cases h1 : lk tmps b with
  | none => simp only [h1] at h; exact (M.fail_some (H := H) h).elim
  | some v =>
   cases v with
   | tup => simp only [h1] at h; exact (M.fail_some (H := H) h).elim
   | v y =>
    cases y <;> simp only [h1] at h <;> try exact (M.fail_some (H := H) h).elim
    rename_i p
    cases h2 : E.ti t with
    | none => simp only [h2] at h; exact (M.fail_some (H := H) h).elim
    | some ti =>
     simp only [h2] at h
     obtain ⟨i, d, hi⟩ := Env.tiOk hT h2
     obtain ⟨u, h3, h4⟩ := ht b _ h1
     obtain ⟨r, h5, h6⟩ := pLoad_ok hi hI h4 h
     refine ⟨r, ?_, h6⟩
     have hu : ∃ ad, u = .pointer (some ad) := by
      cases p <;> try exact (M.fail_some (H := H) h).elim
      ·obtain ⟨q, _, e⟩ := h4; exact ⟨_, e⟩
      ·obtain ⟨q, _, _, _, e⟩ := h4; exact ⟨_, e⟩
      ·obtain ⟨q, _, _, _, _, e⟩ := h4; exact ⟨_, e⟩
      ·obtain ⟨q, _, e, _⟩ := h4; exact ⟨_, e⟩
     obtain ⟨ad, rfl⟩ := hu
     simp only [resF, Array.getD_eq_getD_getElem?, h3, Option.getD_some, asAddr, Sem.run_bind, Sem.run_pure, Result.andThen_ok]
     simpa [Instr.loadAt, Instr.sureAddr] using h5
theorem outRs_ok (hT : TtOk P E.tt) {tmps : List (Nat × TV)} (ht : TmR g w tmps a) (hI : Inv M0 w0 g H w) : ∀ (rs : List ResultVar) (ws : List (List (Option (Kd × Bool)))) (vs : List V1) (ids l : List Nat), outRs E tmps ws rs H = some ((vs, ids), l) → ∀ nid,
  ∃ us : List Value, (rs.mapM (resF a.tmps)).run P w = .ok us w ∧ ∃ vs2 n ls og, imVs id nid vs = some (vs2, n) ∧ Piece (SameL g) g w H nid n ls og ∧ og.filterMap id = ids ∧ (∀ i, some i ∈ og → i ∈ ids) ∧ ∀ g2, SameL g g2 → (∀ (q : Nat) L, ls[q]? = some L → g2.loc (nid + q) = L) → F2 (V1R g2 w) vs2 us
 | [], ws, vs, ids, l, h, nid => by
  unfold outRs at h
  cases M.ret_some (H := H) h
  exact ⟨[], by simp, [], [], [], [], rfl, Piece.nil nid, rfl, fun i hi => by simp at hi, fun _ _ _ => trivial⟩
 | r :: rs, ws, vs, ids, l, h, nid => by
  unfold outRs at h
  obtain ⟨x, l1, l2, h1, h2, _⟩ := M.bind_some h
  obtain ⟨y, l3, l4, h3, h4, _⟩ := M.bind_some h2
  obtain ⟨z, l5, l6, h5, h6, _⟩ := M.bind_some h4
  cases M.ret_some h6
  obtain ⟨u, hu1, hu2⟩ := resV_ok hT ht hI h1
  obtain ⟨x2, n, ls, og, e1, e2, e3, e3', e4⟩ := outV_ok hI h3 hu2 nid
  obtain ⟨us, hus, vs2, n', ls', og', f1, f2, f3, f3', f4⟩ := outRs_ok hT ht hI rs ws.tail z.1 z.2 l5 h5 (nid + n.length)
  refine ⟨u :: us, by simp [List.mapM_cons, hu1, hus], x2 :: vs2, n ++ n', ls ++ ls', og ++ og', by simp only [imVs, e1, f1], e2.app f2, by rw [List.filterMap_append, e3, f3], fun i hi => ?_, fun g2 hs hl => ⟨e4 g2 hs fun q L hL => hl q L (getL hL), f4 g2 hs fun q L hL => ?_⟩⟩
  ·rcases List.mem_append.1 hi with hi | hi
   ·exact List.mem_append.2 (.inl (e3' i hi))
   ·exact List.mem_append.2 (.inr (f3' i hi))
  ·have := hl (n.length + q) L (by rw [List.getElem?_append_right (by rw [e2.l1]; omega), e2.l1]; rwa [Nat.add_sub_cancel_left])
   rwa [← Nat.add_assoc] at this
theorem outOwn_ok (hI : Inv M0 w0 g H w) : ∀ (own : List Nat) (cs : List C) (ids l : List Nat), outOwn own H = some ((cs, ids), l) → ∀ nid,
  ∃ cs2 n ls og, imCs id nid cs = some (cs2, n) ∧ n.length = own.length ∧ cs.length = own.length ∧ Piece (SameL g) g w H nid n ls og ∧ og.filterMap id = ids ∧ (∀ i, some i ∈ og → i ∈ ids) ∧ ∀ (q i : Nat), own[q]? = some i → ls[q]? = some (g.loc i)
 | [], cs, ids, l, h, nid => by
  unfold outOwn at h
  cases M.ret_some (H := H) h
  exact ⟨[], [], [], [], rfl, rfl, rfl, Piece.nil nid, rfl, fun i hi => by simp at hi, fun q i hq => by simp at hq⟩
 | i :: own, cs, ids, l, h, nid => by
  unfold outOwn at h
  obtain ⟨o, l1, l2, h1, h2, _⟩ := M.bind_some h
  have hid := M.get_some h1
  cases o <;> try exact (M.fail_some h2).elim
  rename_i k xs m b
  obtain ⟨z, l3, l4, h3, h4, _⟩ := M.bind_some h2
  cases M.ret_some h4
  obtain ⟨cs2, n, ls, og, e1, e2, e2', e3, e4, e4', e5⟩ := outOwn_ok hI own z.1 z.2 l3 h3 (nid + 1)
  have hp : Piece (SameL g) g w H nid [.arr k xs (nm k m) b] [g.loc i] [some i] := Piece.arr (fun _ _ _ _ _ => trivial) hI hid (fun g2 hs p hp => by rw [hs.1]; exact hp) (fun g2 hs hb a' n' c' j e' hj => by
   rw [hs.1]
   obtain ⟨A2, n2, c2, us, e2, hx, hnc, hu, hcell⟩ := hI.ob _ _ hid
   rw [e'] at e2; cases e2
   rcases hcell with h0 | ⟨a, ha, hsp, _, _, h3⟩
   ·have hx0 : xs.length = 0 := by omega
    rw [hx0] at hj; simp at hj
   ·cases ha
    exact h3.1 hb j (by rw [Rows2.len (ER.len k) hu]; exact hj))
  refine ⟨.slo nid :: cs2, [.arr k xs (nm k m) b] ++ n, [g.loc i] ++ ls, [some i] ++ og, ?_, by simp [e2], by simp [e2'], hp.app e3, by simp [e4], fun j hj => ?_, fun q j hq => ?_⟩
  ·simp only [imCs, imC, List.length_cons, List.length_nil, Nat.zero_add]
   rw [e1]
   try rfl
  ·rcases List.mem_append.1 hj with hj | hj
   ·simp at hj; simp [hj]
   ·simp [e4' j hj]
  ·cases q with
   | zero => simp at hq; subst hq; rfl
   | succ q => simpa using e5 q j (by simpa using hq)
theorem outIos_ok (hI : Inv M0 w0 g H w) : ∀ (xs : List Exit1) (ps : List (List (Option (Kd × Bool)))) (ios : List (List C)) (ids l : List Nat), outIos ps xs H = some ((ios, ids), l) → ∀ nid,
  ∃ prs n ls og, backX xs ios nid = some (prs, n) ∧ Piece (SameL g) g w H nid n ls og ∧ og.filterMap id = ids ∧ (∀ i, some i ∈ og → i ∈ ids) ∧ ∀ i j, (i, j) ∈ prs → ∃ q : Nat, j = nid + q ∧ ls[q]? = some (g.loc i)
 | [], ps, ios, ids, l, h, nid => by
  unfold outIos at h
  cases M.ret_some (H := H) h
  exact ⟨[], [], [], [], rfl, Piece.nil nid, rfl, fun i hi => by simp at hi, fun i j hij => by simp at hij⟩
 | x :: xs, ps, ios, ids, l, h, nid => by
  unfold outIos at h
  obtain ⟨y, l1, l2, h1, h2, _⟩ := M.bind_some h
  obtain ⟨z, l3, l4, h3, h4, _⟩ := M.bind_some h2
  cases M.ret_some h4
  have head : ∃ prs n ls og, (match x.ptr with
   | some i0 => (imCs id (nid + 1) y.1).map fun (a : List C × List Ob) => ([(i0, nid)], Ob.box a.1 :: a.2)
   | none => (imCs id nid y.1).bind fun (a : List C × List Ob) => if (a.2.length = x.own.length ∧ y.1.length = x.own.length) ∨ y.1 = [] then some (x.own.zip ((List.range a.2.length).map (nid + ·)), a.2) else none) = some (prs, n) ∧
    Piece (SameL g) g w H nid n ls og ∧ og.filterMap id = y.2 ∧ (∀ i, some i ∈ og → i ∈ y.2) ∧ ∀ i j, (i, j) ∈ prs → ∃ q : Nat, j = nid + q ∧ ls[q]? = some (g.loc i) := by
   cases hp : x.ptr with
   | some i0 =>
    rw [hp] at h1
    obtain ⟨o, l5, l6, h5, h6, _⟩ := M.bind_some h1
    have hid := M.get_some h5
    cases o <;> try exact (M.fail_some h6).elim
    rename_i cs
    obtain ⟨b, l7, l8, h7, h8, _⟩ := M.bind_some h6
    cases M.ret_some h8
    obtain ⟨a0, us, e0, hu, hcell⟩ := hI.ob _ _ hid
    obtain ⟨cs2, n, ls, og, e1, e1l, e2, e3, e3', e4⟩ := outCs_ok hI cs _ b.1 b.2 l7 h7 us hu (nid + 1)
    refine ⟨[(i0, nid)], .box cs2 :: n, g.loc i0 :: ls, some i0 :: og, by rw [e1]; rfl, ⟨by simp [e2.l1], by simp [e2.l2], fun L hL => ?_, fun g2 hs hl q o hq => ?_⟩, by simp [e3], fun i hi => ?_, fun i j hij => ?_⟩
    ·rcases List.mem_cons.1 hL with rfl | hL
     ·rw [e0]; simp
     ·exact e2.nn L hL
    ·have hl' : ∀ (q : Nat) L, ls[q]? = some L → g2.loc (nid + 1 + q) = L := fun q L hL => by
      have := hl (q + 1) L (by simpa using hL)
      rwa [show nid + (q + 1) = nid + 1 + q by omega] at this
     cases q with
     | zero =>
      simp at hq; subst hq
      have hloc : g2.loc (nid + 0) = g.loc i0 := hl 0 _ rfl
      refine ⟨⟨a0, us, by rw [hloc, e0], e4 g2 hs hl', hcell⟩, fun p ⟨a', j, e', hj, hp⟩ => ⟨i0, _, rfl, hid, a', j, by rw [← hloc]; exact e', by rw [← e1l]; exact hj, hp⟩⟩
     | succ q =>
      have := e2.ob g2 hs hl' q o (by simpa using hq)
      rw [show nid + 1 + q = nid + (q + 1) by omega] at this
      refine ⟨this.1, fun p hp => ?_⟩
      obtain ⟨id', o', h1, h2⟩ := this.2 p hp
      exact ⟨id', o', by simpa using h1, h2⟩
    ·rcases List.mem_cons.1 hi with hi | hi
     ·simp at hi; simp [hi]
     ·simp [e3' i hi]
    ·simp at hij
     obtain ⟨rfl, rfl⟩ := hij
     exact ⟨0, rfl, rfl⟩
   | none =>
    rw [hp] at h1
    have h1 : (match ps.headD [] with
     | [] => outOwn x.own
     | _ :: _ => (.ret ([], []) : M (List C × List Nat))) H = some (y, l1) := h1
    cases hh : ps.headD [] with
    | cons q qs =>
     rw [hh] at h1
     cases M.ret_some (H := H) h1
     exact ⟨[], [], [], [], by simp [imCs], Piece.nil nid, rfl, fun i hi => by simp at hi, fun i j hij => by simp at hij⟩
    | nil =>
    rw [hh] at h1
    obtain ⟨cs2, n, ls, og, e1, e2, e2', e3, e4, e4', e5⟩ := outOwn_ok hI x.own y.1 y.2 l1 h1 nid
    refine ⟨_, n, ls, og, by rw [e1]; exact if_pos (.inl ⟨e2, e2'⟩), e3, e4, e4', fun i j hij => ?_⟩
    obtain ⟨q, hq⟩ := List.mem_iff_getElem?.1 hij
    rw [List.getElem?_zip_eq_some] at hq
    obtain ⟨hq1, hq2⟩ := hq
    rw [List.getElem?_map] at hq2
    obtain ⟨q', hq3, hq4⟩ := Option.map_eq_some_iff.1 hq2
    have hqq : q' = q := by
     rw [List.getElem?_range] at hq3
     ·exact (Option.some.inj hq3).symm
     ·rcases Nat.lt_or_ge q n.length with h | h
      ·exact h
      ·rw [List.getElem?_eq_none (by simpa using h)] at hq3; simp at hq3
    subst hqq
    exact ⟨q', hq4.symm, e5 q' i hq1⟩
  obtain ⟨prs, n, ls, og, e1, e2, e3, e3', e4⟩ := head
  obtain ⟨prs', n', ls', og', f1, f2, f3, f3', f4⟩ := outIos_ok hI xs ps.tail z.1 z.2 l3 h3 (nid + n.length)
  refine ⟨prs ++ prs', n ++ n', ls ++ ls', og ++ og', by unfold backX; cases hp : x.ptr <;> rw [hp] at e1 <;> dsimp only at e1 ⊢ <;> rw [e1] <;> dsimp only <;> rw [f1], e2.app f2, by rw [List.filterMap_append, e3, f3], fun i hi => ?_, fun i j hij => ?_⟩
  ·rcases List.mem_append.1 hi with hi | hi
   ·exact List.mem_append.2 (.inl (e3' i hi))
   ·exact List.mem_append.2 (.inr (f3' i hi))
  ·rcases List.mem_append.1 hij with hij | hij
   ·obtain ⟨q, h1, h2⟩ := e4 i j hij
    exact ⟨q, h1, getL h2⟩
   ·obtain ⟨q, h1, h2⟩ := f4 i j hij
    exact ⟨n.length + q, by omega, by rw [List.getElem?_append_right (by rw [e2.l1]; omega), e2.l1, Nat.add_sub_cancel_left]; exact h2⟩
theorem tvOf_ok {vs : List V1} {us : List Value} (h : F2 (V1R g w) vs us) : TVR g w (tvOf vs) (if h : us.toArray.size = 1 then us.toArray[0] else .tuple us.toArray) := by
 match vs, us, h with
 | [], [], _ => exact ⟨#[], rfl, trivial⟩
 | [v], [u], h => exact h.1
 | v :: v' :: vs, u :: u' :: us, h =>
  rw [dif_neg (by simp)]
  exact ⟨(u :: u' :: us).toArray, rfl, by simpa using h⟩
 | [_], _ :: _ :: _, h => exact h.2.elim
 | _ :: _ :: _, [_], h => exact h.2.elim
theorem leave_ok (hT : TtOk P E.tt) {tmps : List (Nat × TV)} (ht : TmR g w tmps a) (hI : Inv M0 w0 g H w) {wy : Way} {fn : Func} {xs : List Exit1} {σ : St} (hσ : σ.tmps = tmps) {r : CRes} {l : List Nat} (h : leave E wy fn.results.toList xs σ H = some (r, l)) :
  ∃ rv vs h2 ps g2, (results fn a.tmps).run P w = .ok rv w ∧ canon r xs = some (vs, h2, ps) ∧ Inv M0 w0 g2 (fun i => h2[i]?) w ∧ TVR g2 w (tvOf vs) rv ∧ (∀ i j, (i, j) ∈ ps → g2.loc j = g.loc i) ∧ SameL g g2 := by
 subst hσ
 unfold leave at h
 obtain ⟨x, l1, l2, h1, h2, _⟩ := M.bind_some h
 obtain ⟨y, l3, l4, h3, h4, _⟩ := M.bind_some h2
 have h4' : (if (x.2 ++ y.2).Nodup then (M.ret ⟨x.1, y.1⟩ : M CRes) else M.fail) H = some (r, l4) := h4
 split at h4'
 ·rename_i hnd
  cases M.ret_some (H := H) h4'
  obtain ⟨us, hus, vs2, n, ls, og, e1, e2, e3, e3', e4⟩ := outRs_ok hT ht hI fn.results.toList wy.rs x.1 x.2 l1 h1 0
  obtain ⟨prs, n', ls', og', f1, f2, f3, f3', f4⟩ := outIos_ok hI xs wy.ps y.1 y.2 l3 h3 (0 + n.length)
  have hP := e2.app f2
  have hSame : SameL g (gls g (ls ++ ls')) := ⟨rfl, rfl⟩
  have hInv := hP.inv (M0' := M0) (w0' := w0) (gx := g) hI (by rw [List.filterMap_append, e3, f3]; exact hnd) hSame (fun b p hl i o _ hi hm => hI.st i o p b hi hm hl) (fun i o p _ hi hm => hI.al i o p hi hm) hI.lt hI.l0 hI.keep
  have hF := e4 (gls g (ls ++ ls')) hSame fun q L hL => gls_loc q L (getL hL)
  refine ⟨_, vs2, n ++ n', prs, gls g (ls ++ ls'), ?_, ?_, hInv, tvOf_ok hF, fun i j hij => ?_, hSame⟩
  ·have : (fn.results.mapM (resF a.tmps)).run P w = .ok us.toArray w := by
    rw [Array.mapM_eq_mapM_toList]
    simp [hus]
   have he : results fn a.tmps = (fn.results.mapM (resF a.tmps) >>= fun vs => (pure (if h : vs.size = 1 then vs[0] else .tuple vs) : Sem Value)) := by
    unfold results
    congr 1
   rw [he, Sem.run_bind, this]
   rfl
  ·simp only [canon, e1]
   rw [Nat.zero_add] at f1
   rw [f1]
  ·obtain ⟨q, h5, h6⟩ := f4 i j hij
   have := gls_loc (g := g) (ls := ls ++ ls') (n.length + q) (g.loc i) (by rw [List.getElem?_append_right (by rw [e2.l1]; omega), e2.l1, Nat.add_sub_cancel_left]; exact h6)
   rw [h5]
   rwa [← Nat.add_assoc] at this
 ·exact (M.fail_some (H := H) h4').elim
end Go.Proofs.YtdhifkdijlghdaaGreatDoorA
