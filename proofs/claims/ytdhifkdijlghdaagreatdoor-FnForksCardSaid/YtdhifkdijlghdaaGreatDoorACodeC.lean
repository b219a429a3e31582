/-
  Back to the caller: all that a call hands back. No condition.
-/
import Derived.Test.YtdhifkdijlghdaaGreatDoorACodeB
namespace Go.Proofs.YtdhifkdijlghdaaGreatDoorA
open Go
set_option linter.unusedVariables false
set_option linter.unusedSimpArgs false
variable {P : Program} {E : Env} {M0 : Addr → Prop} {w0 w : World} {g gc : Gh} {H : Nat → Option Ob} {tr : List Nat → List Nat} {g2 : Gh} {ms : List Nat}
def LocsO (g2 g' : Gh) (nc : Nat) (org : List Nat) : Prop := ∀ (q i : Nat), org[q]? = some i → g'.loc i = g2.loc (nc + q)
structure BackOk (tr : List Nat → List Nat) (ms : List Nat) (g2 : Gh) (w : World) (g : Gh) (B : List Nat) (nc nid : Nat) (n n' : List Ob) (u : List (Nat × Ob)) (org : List Nat) (nls : List Loc) : Prop where
 l1 : org.length = n.length
 l2 : nls.length = n'.length
 loc : ∀ (q i : Nat), org[q]? = some i → (i ∈ B ∧ g2.loc (nc + q) = g.loc i) ∨ ∃ q' : Nat, i = nid + q' ∧ nls[q']? = some (g2.loc (nc + q))
 upd : ∀ i o', (i, o') ∈ u → i ∈ B ∧ (o' = .dead ∨ ∃ (q : Nat) (oq : Ob), org[q]? = some i ∧ n[q]? = some oq ∧ ∀ g', Bk tr ms g2 g' → LocsO g2 g' nc org → Mv g2 g' w (nc + q) i oq o')
 new : ∀ (q' : Nat) o', n'[q']? = some o' → ∃ (q : Nat) (oq : Ob), org[q]? = some (nid + q') ∧ n[q]? = some oq ∧ ∀ g', Bk tr ms g2 g' → LocsO g2 g' nc org → Mv g2 g' w (nc + q) (nid + q') oq o'
 all : ∀ i ∈ B, ∃ o', (i, o') ∈ u
theorem getL' {α : Type} {a b : List α} {q : Nat} {x : α} (h : a[q]? = some x) : (a ++ b)[q]? = some x := by
 rw [List.getElem?_append_left]
 ·exact h
 ·rcases Nat.lt_or_ge q a.length with h' | h'
  ·exact h'
  ·rw [List.getElem?_eq_none h'] at h; simp at h
theorem getR {α : Type} {a b : List α} {n q : Nat} (hn : a.length = n) {x : α} (h : b[q]? = some x) : (a ++ b)[n + q]? = some x := by
 rw [List.getElem?_append_right (by omega), hn, Nat.add_sub_cancel_left]; exact h
theorem LocsO.left {g' : Gh} {nc : Nat} {a b : List Nat} (h : LocsO g2 g' nc (a ++ b)) : LocsO g2 g' nc a := fun q i hq => h q i (getL' hq)
theorem LocsO.right {g' : Gh} {nc n : Nat} {a b : List Nat} (hn : a.length = n) (h : LocsO g2 g' nc (a ++ b)) : LocsO g2 g' (nc + n) b := fun q i hq => by
 have := h (n + q) i (getR hn hq)
 rwa [← Nat.add_assoc] at this
theorem BackOk.app {B B' : List Nat} {nc nid : Nat} {n n' m m' : List Ob} {u v : List (Nat × Ob)} {org org2 : List Nat} {nls nls2 : List Loc} (h : BackOk tr ms g2 w g B nc nid n n' u org nls)
  (k : BackOk tr ms g2 w g B' (nc + n.length) (nid + n'.length) m m' v org2 nls2) : BackOk tr ms g2 w g (B ++ B') nc nid (n ++ m) (n' ++ m') (u ++ v) (org ++ org2) (nls ++ nls2) := by
 refine ⟨by simp [h.l1, k.l1], by simp [h.l2, k.l2], fun q i hq => ?_, fun i o' hi => ?_, fun q' o' hq => ?_, fun i hi => ?_⟩
 ·rcases Nat.lt_or_ge q n.length with hlt | hge
  ·rw [List.getElem?_append_left (by rw [h.l1]; exact hlt)] at hq
   rcases h.loc q i hq with ⟨h1, h2⟩ | ⟨q', h1, h2⟩
   ·exact .inl ⟨List.mem_append.2 (.inl h1), h2⟩
   ·exact .inr ⟨q', h1, getL' h2⟩
  ·rw [List.getElem?_append_right (by rw [h.l1]; exact hge), h.l1] at hq
   have e : nc + n.length + (q - n.length) = nc + q := by omega
   rcases k.loc _ i hq with ⟨h1, h2⟩ | ⟨q', h1, h2⟩
   ·exact .inl ⟨List.mem_append.2 (.inr h1), by rwa [e] at h2⟩
   ·exact .inr ⟨n'.length + q', by omega, getR h.l2 (by rwa [e] at h2)⟩
 ·rcases List.mem_append.1 hi with hi | hi
  ·obtain ⟨h1, h2⟩ := h.upd i o' hi
   refine ⟨List.mem_append.2 (.inl h1), h2.imp id fun ⟨q, oq, h3, h4, h5⟩ => ⟨q, oq, getL' h3, getL' h4, fun g' hb hl => h5 g' hb hl.left⟩⟩
  ·obtain ⟨h1, h2⟩ := k.upd i o' hi
   refine ⟨List.mem_append.2 (.inr h1), h2.imp id fun ⟨q, oq, h3, h4, h5⟩ => ⟨n.length + q, oq, getR h.l1 h3, getR rfl h4, fun g' hb hl => ?_⟩⟩
   rw [← Nat.add_assoc]
   exact h5 g' hb (hl.right h.l1)
 ·rcases Nat.lt_or_ge q' n'.length with hlt | hge
  ·rw [List.getElem?_append_left hlt] at hq
   obtain ⟨q, oq, h3, h4, h5⟩ := h.new q' o' hq
   exact ⟨q, oq, getL' h3, getL' h4, fun g' hb hl => h5 g' hb hl.left⟩
  ·rw [List.getElem?_append_right hge] at hq
   obtain ⟨q, oq, h3, h4, h5⟩ := k.new _ o' hq
   have e : nid + n'.length + (q' - n'.length) = nid + q' := by omega
   rw [e] at h3 h5
   refine ⟨n.length + q, oq, getR h.l1 h3, getR rfl h4, fun g' hb hl => ?_⟩
   rw [← Nat.add_assoc]
   exact h5 g' hb (hl.right h.l1)
 ·rcases List.mem_append.1 hi with hi | hi
  ·obtain ⟨o', h1⟩ := h.all i hi; exact ⟨o', List.mem_append.2 (.inl h1)⟩
  ·obtain ⟨o', h1⟩ := k.all i hi; exact ⟨o', List.mem_append.2 (.inr h1)⟩
theorem BackOk.news {nc nid : Nat} {n n' : List Ob} (hl : n'.length = n.length) (h : ∀ g', Bk tr ms g2 g' → Locs g2 g' nc nid n.length → Mvs g2 g' w nc nid n n') :
  BackOk tr ms g2 w g [] nc nid n n' [] ((List.range n.length).map (nid + ·)) ((List.range n.length).map fun q => g2.loc (nc + q)) := by
 have hget : ∀ (f : Nat → Nat) (q : Nat), q < n.length → ((List.range n.length).map f)[q]? = some (f q) := fun f q hq => by simp [hq]
 refine ⟨by simp, by simp [hl], fun q i hq => .inr ⟨q, ?_⟩, fun i o' hi => by simp at hi, fun q' o' hq => ?_, fun i hi => by simp at hi⟩
 ·have hlt : q < n.length := by
   rcases Nat.lt_or_ge q n.length with h | h
   ·exact h
   ·rw [List.getElem?_eq_none (by simpa using h)] at hq; simp at hq
  rw [hget _ q hlt] at hq
  exact ⟨(Option.some.inj hq).symm, by simp [hlt]⟩
 ·have hlt : q' < n.length := by
   rcases Nat.lt_or_ge q' n.length with h | h
   ·exact h
   ·rw [List.getElem?_eq_none (by omega)] at hq; simp at hq
  refine ⟨q', n[q'], hget _ q' hlt, List.getElem?_eq_getElem hlt, fun g' hb hlo => ?_⟩
  obtain ⟨o, h1, h2⟩ := h g' hb (fun q hq => hlo q _ (hget _ q hq)) q' o' hq
  rw [List.getElem?_eq_getElem hlt] at h1
  cases h1
  exact h2
def XRel (gc g : Gh) (x : Exit1) (ai : AI) : Prop := match ai.bx with
 | some b => ∃ i0, x.ptr = some i0 ∧ gc.loc i0 = g.loc b.1
 | none => x.ptr = none ∧ x.own.length = ai.own.length ∧ ∀ (q i : Nat) o, x.own[q]? = some i → ai.own[q]? = some o → gc.loc i = g.loc o.1
theorem backs_ok : ∀ {xs : List Exit1} {ais : List AI} {ios : List (List C)} {nc nid : Nat} {ps : List (Nat × Nat)} {n n' : List Ob} {u : List (Nat × Ob)}, backX xs ios nc = some (ps, n) → backs tr nid ais ios = some (u, n') → F2 (XRel gc g) xs ais →
  (∀ b ∈ ios.flatMap maskCs, b ∈ ms) → (∀ i j, (i, j) ∈ ps → g2.loc j = gc.loc i) → ∃ org nls, BackOk tr ms g2 w g (ais.flatMap AI.busy) nc nid n n' u org nls
 | [], [], [], nc, nid, ps, n, n', u, h, h', _, _, _ => by
  simp only [backX, backs, Option.some.injEq, Prod.mk.injEq] at h h'
  obtain ⟨_, rfl⟩ := h
  obtain ⟨rfl, rfl⟩ := h'
  exact ⟨[], [], rfl, rfl, fun q i h => by simp at h, fun i o h => by simp at h, fun q o h => by simp at h, fun i h => by simp at h⟩
 | [], _, _ :: _, _, _, _, _, _, _, h, _, _, _, _ => by simp [backX] at h
 | _ :: _, _, [], _, _, _, _, _, _, h, _, _, _, _ => by simp [backX] at h
 | [], _ :: _, _, _, _, _, _, _, _, _, _, h, _, _ => h.elim
 | _ :: _, [], _, _, _, _, _, _, _, _, _, h, _, _ => h.elim
 | x :: xs, ai :: ais, io :: ios, nc, nid, ps, n, n', u, h, h', hx, hm, hp => by
  unfold backX at h
  unfold backs at h'
  split at h
  ·simp at h
  ·rename_i ps1 n1 hh
   cases hr : backX xs ios (nc + n1.length) with
   | none => rw [hr] at h; simp at h
   | some y =>
    obtain ⟨ps2, n2⟩ := y
    rw [hr] at h
    simp only [Option.some.injEq, Prod.mk.injEq] at h
    obtain ⟨rfl, rfl⟩ := h
    split at h'
    ·simp at h'
    ·rename_i u1 n1' hh'
     cases hr' : backs tr (nid + n1'.length) ais ios with
     | none => rw [hr'] at h'; simp at h'
     | some y =>
      obtain ⟨u2, n2'⟩ := y
      rw [hr'] at h'
      simp only [Option.some.injEq, Prod.mk.injEq] at h'
      obtain ⟨rfl, rfl⟩ := h'
      have hm1 : ∀ b ∈ maskCs io, b ∈ ms := fun b hb => hm b (by rw [List.flatMap_cons, List.mem_append]; exact .inl hb)
      have hp1 : ∀ i j, (i, j) ∈ ps1 → g2.loc j = gc.loc i := fun i j hij => hp i j (List.mem_append.2 (.inl hij))
      have head : ∃ org nls, BackOk tr ms g2 w g ai.busy nc nid n1 n1' u1 org nls := by
       have hx1 := hx.1
       unfold XRel at hx1
       cases hb : ai.bx with
       | some b =>
        obtain ⟨id0, cs⟩ := b
        rw [hb] at hx1 hh'
        obtain ⟨i0, hx2, hx3⟩ := hx1
        rw [hx2] at hh
        dsimp only at hh hh' hx3
        obtain ⟨⟨cs2, m1⟩, h1, h2⟩ := Option.map_eq_some_iff.1 hh
        simp only [Prod.mk.injEq] at h2
        obtain ⟨rfl, rfl⟩ := h2
        obtain ⟨cs3, m3, e1, e2, e3, e4, e5⟩ := imCs_tr (tr := tr) (g2 := g2) (w := w) (ms := ms) h1 hm1 nid
        rw [e1] at hh'
        dsimp only at hh'
        split at hh'
        ·rename_i hlen
         simp only [Option.some.injEq, Prod.mk.injEq] at hh'
         obtain ⟨rfl, rfl⟩ := hh'
         have hlocb : g2.loc nc = g.loc id0 := (hp1 i0 nc (by simp)).trans hx3
         have hN := BackOk.news (tr := tr) (ms := ms) (g2 := g2) (w := w) (g := g) (nc := nc + 1) (nid := nid) e2 (fun g' hb hl => (e5 g' hb hl).2)
         have hbusy : ai.busy = id0 :: ai.own.map (·.1) := by simp [AI.busy, hb]
         refine ⟨id0 :: (List.range m1.length).map (nid + ·), (List.range m1.length).map fun q => g2.loc (nc + 1 + q), by simp, by simp [e2], fun q i hq => ?_, fun i o' hi => ?_, fun q' o' hq => ?_, fun i hi => ?_⟩
         ·cases q with
          | zero => simp at hq; subst hq; exact .inl ⟨by simp [hbusy], hlocb⟩
          | succ q =>
           rcases hN.loc q i (by simpa using hq) with ⟨h, _⟩ | ⟨q', h1, h2⟩
           ·simp at h
           ·exact .inr ⟨q', h1, by rw [show nc + (q + 1) = nc + 1 + q by omega]; exact h2⟩
         ·rcases List.mem_cons.1 hi with hi | hi
          ·simp only [Prod.mk.injEq] at hi
           obtain ⟨rfl, rfl⟩ := hi
           refine ⟨by simp [hbusy], .inr ⟨0, _, rfl, rfl, fun g' hb' hl => ?_⟩⟩
           have hl0 : g'.loc i = g2.loc (nc + 0) := hl 0 i rfl
           have hl1 : Locs g2 g' (nc + 1) nid m1.length := fun q hq => by
            have := hl (q + 1) (nid + q) (by simp [hq])
            rwa [show nc + (q + 1) = nc + 1 + q by omega] at this
           refine ⟨fun ⟨a, us, e, hu, hc⟩ => ⟨a, us, by rw [hl0, e], (e5 g' hb' hl1).1 us hu, hc⟩, fun p ⟨a, j, e, hj, hpp⟩ => ⟨a, j, by rw [← hl0, e], by omega, hpp⟩⟩
          ·obtain ⟨o, ho, h2⟩ := List.mem_map.1 hi
           simp only [Prod.mk.injEq] at h2
           obtain ⟨rfl, rfl⟩ := h2
           exact ⟨by rw [hbusy]; exact List.mem_cons_of_mem _ (List.mem_map.2 ⟨o, ho, rfl⟩), .inl rfl⟩
         ·obtain ⟨q, oq, h3, h4, h5⟩ := hN.new q' o' hq
          refine ⟨q + 1, oq, by simpa using h3, by simpa using h4, fun g' hb' hl => ?_⟩
          rw [show nc + (q + 1) = nc + 1 + q by omega]
          exact h5 g' hb' fun q i hq => by
           have := hl (q + 1) i (by simpa using hq)
           rwa [show nc + (q + 1) = nc + 1 + q by omega] at this
         ·rw [hbusy] at hi
          rcases List.mem_cons.1 hi with rfl | hi
          ·exact ⟨_, List.mem_cons_self ..⟩
          ·obtain ⟨o, ho, rfl⟩ := List.mem_map.1 hi
           exact ⟨.dead, List.mem_cons_of_mem _ (List.mem_map.2 ⟨o, ho, rfl⟩)⟩
        ·simp at hh'
       | none =>
        rw [hb] at hx1 hh'
        obtain ⟨hx2, hx3, hx4⟩ := hx1
        rw [hx2] at hh
        dsimp only at hh hh'
        cases io with
        | nil =>
         simp only [Option.some.injEq, Prod.mk.injEq] at hh'
         obtain ⟨rfl, rfl⟩ := hh'
         obtain ⟨⟨cs2, m1⟩, h3, h4⟩ := Option.bind_eq_some_iff.1 hh
         simp only [imCs, Option.some.injEq, Prod.mk.injEq] at h3
         obtain ⟨rfl, rfl⟩ := h3
         rw [if_pos (.inr rfl)] at h4
         simp only [Option.some.injEq, Prod.mk.injEq] at h4
         obtain ⟨rfl, rfl⟩ := h4
         have hbusy : ai.busy = ai.own.map (·.1) := by simp [AI.busy, hb]
         refine ⟨[], [], rfl, rfl, fun q i hq => by simp at hq, fun i o' hi => ?_, fun q' o' hq => by simp at hq, fun i hi => ?_⟩
         ·obtain ⟨o, ho, h2⟩ := List.mem_map.1 hi
          simp only [Prod.mk.injEq] at h2
          obtain ⟨rfl, rfl⟩ := h2
          exact ⟨by rw [hbusy]; exact List.mem_map.2 ⟨o, ho, rfl⟩, .inl rfl⟩
         ·rw [hbusy] at hi
          obtain ⟨o, ho, rfl⟩ := List.mem_map.1 hi
          exact ⟨.dead, List.mem_map.2 ⟨o, ho, rfl⟩⟩
        | cons c0 io0 =>
        generalize hio : c0 :: io0 = io at *
        have hne : io ≠ [] := by rw [← hio]; simp
        have hh' : (backOwn tr ai.own io).map (fun u => (u, ([] : List Ob))) = some (u1, n1') := by
         first | exact hh' | (rw [← hio] at hh' ⊢; exact hh')
        obtain ⟨u3, h1, h2⟩ := Option.map_eq_some_iff.1 hh'
        simp only [Prod.mk.injEq] at h2
        obtain ⟨rfl, rfl⟩ := h2
        obtain ⟨⟨cs2, m1⟩, h3, h4⟩ := Option.bind_eq_some_iff.1 hh
        dsimp only at h4
        split at h4
        ·rename_i hlen0
         have hlen := hlen0.resolve_right hne
         simp only [Option.some.injEq, Prod.mk.injEq] at h4
         obtain ⟨rfl, rfl⟩ := h4
         obtain ⟨cs3, m3, e1, e2, e3, e4, e5⟩ := backOwn_ok (tr := tr) (g2 := g2) (w := w) (ms := ms) (nc := nc) h1 hm1
         rw [h3] at e1
         simp only [Option.some.injEq, Prod.mk.injEq] at e1
         obtain ⟨rfl, rfl⟩ := e1
         have hbusy : ai.busy = ai.own.map (·.1) := by simp [AI.busy, hb]
         refine ⟨ai.own.map (·.1), [], by simp [e2], rfl, fun q i hq => ?_, fun i o' hi => ?_, fun q' o' hq => by simp at hq, fun i hi => ?_⟩
         ·rw [List.getElem?_map] at hq
          obtain ⟨o, ho1, ho2⟩ := Option.map_eq_some_iff.1 hq
          have hlt : q < m1.length := by
           rw [e2]
           rcases Nat.lt_or_ge q ai.own.length with h | h
           ·exact h
           ·rw [List.getElem?_eq_none h] at ho1; simp at ho1
          refine .inl ⟨by rw [hbusy]; exact List.mem_map.2 ⟨o, List.mem_of_getElem? ho1, ho2⟩, ?_⟩
          have hxq : x.own[q]? = some (x.own[q]'(by omega)) := List.getElem?_eq_getElem _
          have h6 : (x.own[q]'(by omega), nc + q) ∈ x.own.zip ((List.range m1.length).map (nc + ·)) := List.mem_iff_getElem?.2 ⟨q, by
           rw [List.getElem?_zip_eq_some]
           exact ⟨hxq, by simp [hlt]⟩⟩
          rw [hp1 _ _ h6, hx4 q _ o hxq ho1, ho2]
         ·obtain ⟨q, oq, b, h5, h6, h7⟩ := e5 i o' hi
          refine ⟨by rw [hbusy]; exact List.mem_map.2 ⟨_, List.mem_of_getElem? h5, rfl⟩, .inr ⟨q, oq, by simp [h5], h6, fun g' hb' hl => h7 g' hb' (hl q i (by simp [h5]))⟩⟩
         ·rw [hbusy] at hi
          obtain ⟨o, ho, rfl⟩ := List.mem_map.1 hi
          exact e4 o ho
        ·simp at h4
      obtain ⟨org, nls, hB⟩ := head
      obtain ⟨org2, nls2, hB2⟩ := backs_ok hr hr' hx.2 (fun b hb => hm b (by rw [List.flatMap_cons, List.mem_append]; exact .inr hb)) (fun i j hij => hp i j (List.mem_append.2 (.inr hij)))
      exact ⟨_, _, by rw [List.flatMap_cons]; exact hB.app hB2⟩
end Go.Proofs.YtdhifkdijlghdaaGreatDoorA
