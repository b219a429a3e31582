/-
  Boxes, structs and slices that are made. No condition.
-/
import Derived.Test.YtdhifkdijlghdaaGreatDoorAOps2
import Derived.Laws.Tables
import Derived.Great.BuildSlice
import Derived.Laws.MakeOwn
namespace Go.Proofs.YtdhifkdijlghdaaGreatDoorA
open Go
set_option linter.unusedVariables false
set_option linter.unusedSimpArgs false
variable {P : Program} {M0 : Addr → Prop} {w0 w : World} {g : Gh} {H : Nat → Option Ob}
theorem new_cell (w : World) (us : Array Value) (e : TypeId) (j : Nat) (u : Value) (h : us.toList[j]? = some u) :
  (w.alloc (.cells us e)).cell? (pl ⟨w.heap.size, 0, none⟩ j) = some u ∧ (w.alloc (.cells us e)).frozen? (pl ⟨w.heap.size, 0, none⟩ j) = false := by
 simp only [pl, Nat.zero_add]
 exact ⟨by rw [World.cell?_alloc_new]; simpa using h, World.frozen?_alloc_new w us e j⟩
theorem Good.box {nid : Nat} {cs : List C} {us : Array Value} {t : TypeId} (h : Inv M0 w0 g H w) (hn : H nid = none) (hu : F2 (CR g w) cs us.toList) :
  Good M0 w0 g H w nid ⟨one1 (.bptr nid 0), [], [.box cs]⟩ (.pointer (some ⟨w.heap.size, 0, none⟩)) (w.alloc (.cells us t)) := by
 have he : Ext g { g with loc := fun i => if i = nid then .box ⟨w.heap.size, 0, none⟩ else g.loc i } := ⟨fun i hi => by
  show (if i = nid then _ else g.loc i) = _
  rw [if_neg]; rintro rfl; exact hi (h.no _ hn), fun _ _ h => h, rfl, fun _ _ _ h => h⟩
 have hw : ∀ b p, g.L b p → (w.alloc (.cells us t)).cell? p = w.cell? p := fun b p hl => World.cell?_alloc_lt w _ p (h.lt b p hl).1
 refine Good.new (l := .box ⟨w.heap.size, 0, none⟩) h hn (Keeps.alloc _ w _) (by simp) ?_ ?_ ?_
 ·refine ⟨⟨w.heap.size, 0, none⟩, us.toList, by simp, F2.mono (CR.ext he hw) hu, fun j u hj => ?_⟩
  have := new_cell w us t j u hj
  exact this
 ·rintro p ⟨a, j, e, _, rfl⟩
  simp at e; subst e; exact Nat.le_refl _
 ·exact ⟨⟨w.heap.size, 0, none⟩, by simp, by simp [pl]⟩
theorem rows_plain {k : Kd} {xs : List (El k)} {us : List Value} (hf : k.flat = true) (hu : Rows2 (ER w (fun _ => False) k) xs us) : ∀ S, Rows2 (ER w S k) xs us := fun S => Rows2.mono (fun x y => ER.flat k x y hf) hu
theorem Good.vec {nid n : Nat} {k : Kd} {xs : List (El k)} {us : Array Value} {t : TypeId} (h : Inv M0 w0 g H w) (hn : H nid = none) (hf : k.flat = true) (hx : xs.length = n) (hu : Rows2 (ER w (fun _ => False) k) xs us.toList) :
  Good M0 w0 g H w nid ⟨one1 (.aptr nid), [], [.vec n k xs]⟩ (.pointer (some ⟨w.heap.size, 0, none⟩)) (w.alloc (.cells us t)) := by
 refine Good.new (l := .arr (some ⟨w.heap.size, 0, none⟩) n n) h hn (Keeps.alloc _ w _) (by simp) ?_ ?_ ?_
 ·refine ⟨⟨w.heap.size, 0, none⟩, us.toList, by simp, hx, hf, Rows2.mono (fun x y => ER.flat k x y hf) hu, fun j u hj => ?_⟩
  exact new_cell w us t j u hj
 ·rintro p ⟨a, c, j, e, _, rfl⟩
  simp at e; rw [← e.1]; exact Nat.le_refl _
 ·exact ⟨⟨w.heap.size, 0, none⟩, n, n, by simp, by simp [pl]⟩
theorem Good.arr {w1 : World} {nid n c : Nat} {k : Kd} {xs : List (El k)} {m : List Nat} {us : Array Value} {t : TypeId} {fz : Nat × Nat} (h : Inv M0 w0 g H w) (hn : H nid = none) (hk : Keeps (fun _ => False) w w1) (hL : ∀ b p, g.L b p → w1.cell? p = w.cell? p)
  (hb : w1.heap[w.heap.size]? = some (.cells us t fz)) (hfz : ∀ j, j < us.size → ¬ (fz.1 ≤ j ∧ j < fz.2)) (hfe : k.size ≠ 1 → ¬ (fz.1 ≤ us.size ∧ us.size < fz.2)) (hx : xs.length = n) (hnc : n ≤ c) (hs : us.size = c * k.size) (hu : Rows2 (ER w (SM g.L m) k) xs (us.toList.take (n * k.size))) :
  Good M0 w0 g H w nid ⟨one1 (.slo nid), [], [.arr k xs m true]⟩ (.slice (some ⟨w.heap.size, 0, none⟩) n c) w1 := by
 have hcell : ∀ j u, us.toList[j]? = some u → w1.cell? (pl ⟨w.heap.size, 0, none⟩ j) = some u ∧ w1.frozen? (pl ⟨w.heap.size, 0, none⟩ j) = false := by
  intro j u hj
  have hjs : j < us.size := by
   rcases Nat.lt_or_ge j us.size with h | h
   ·exact h
   ·rw [List.getElem?_eq_none (by simpa using h)] at hj; simp at hj
  simp only [pl, Nat.zero_add, World.cell?, World.frozen?, hb]
  refine ⟨by simpa using hj, ?_⟩
  have := hfz j hjs
  obtain ⟨lo, hi⟩ := fz
  simp only at this ⊢
  by_cases h1 : lo ≤ j <;> by_cases h2 : j < hi <;> simp_all
 refine Good.new (l := .arr (some ⟨w.heap.size, 0, none⟩) n c) h hn hk (by simp) ?_ ?_ ?_
 ·refine ⟨some ⟨w.heap.size, 0, none⟩, n, c, us.toList.take (n * k.size), by simp, hx, hnc, Rows2.mono (ER.mono (fun p hp => hp) (fun p ⟨b, _, hp⟩ => hL b p hp) k) hu, .inr ⟨⟨w.heap.size, 0, none⟩, rfl, rfl, fun j u hj => ?_, fun j hj => ?_, fun h => by simp at h, fun hk e' n' hs => by
   have h1 := hfe hk
   simp only [World.shape?, hb, Option.some.injEq, Prod.mk.injEq] at hs
   obtain ⟨rfl, rfl⟩ := hs
   obtain ⟨lo, hi⟩ := fz
   simp only [World.frozen?, hb]
   simpa using h1⟩⟩
  ·rw [List.getElem?_take] at hj
   split at hj
   ·exact (hcell j u hj).1
   ·simp at hj
  ·have hj' : j < us.toList.length := by simp; omega
   have := hcell j _ (List.getElem?_eq_getElem hj')
   exact ⟨by rw [this.1]; rfl, this.2⟩
 ·rintro p ⟨a, n', c', j, e, _, _, rfl⟩
  simp at e; rw [← e.1]; exact Nat.le_refl _
 ·exact ⟨some ⟨w.heap.size, 0, none⟩, n, c, by simp, rfl⟩
theorem Good.arr' {nid n c : Nat} {k : Kd} {xs : List (El k)} {m : List Nat} {us : Array Value} {t : TypeId} (h : Inv M0 w0 g H w) (hn : H nid = none) (hx : xs.length = n) (hnc : n ≤ c) (hs : us.size = c * k.size) (hu : Rows2 (ER w (SM g.L m) k) xs (us.toList.take (n * k.size))) :
  Good M0 w0 g H w nid ⟨one1 (.slo nid), [], [.arr k xs m true]⟩ (.slice (some ⟨w.heap.size, 0, none⟩) n c) (w.alloc (.cells us t)) :=
 Good.arr h hn (Keeps.alloc _ w _) (fun b p hl => World.cell?_alloc_lt w _ p (h.lt b p hl).1) (us := us) (t := t) (fz := (0, 0)) (by simp [World.alloc, -World.alloc_eq]) (fun j _ => by simp) (fun _ => by simp) hx hnc hs hu
theorem pBox_ok {t : Nat} {ti : TI} {nid : Nat} {r : Res1} (hI : Inv M0 w0 g H w) (hn : hasNew r = true → H nid = none) {v : V1} {x : Value} (hv : V1R g w v x)  {l : List Nat} (h : pBox ti nid v H = some (r, l)) :
  ∃ e u w', r = ⟨true, .done e⟩ ∧ (Instr.box t x).run P w = .ok u w' ∧ Good M0 w0 g H w nid e u w' := by
 have hrun : (Instr.box t x).run P w = .ok (.pointer (some ⟨w.heap.size, 0, none⟩)) (w.alloc (.cells x.cells t)) := by simp [Instr.box, newVar, newRow]
 unfold pBox at h
 cases v with
 | vec n k xs =>
  dsimp only at h
  split at h
  ·rename_i hf
   obtain ⟨us, rfl, hx, _, hu⟩ := hv
   exact ⟨_, _, _, done_some h, hrun, Good.vec hI (hn (by rw [done_some h]; rfl)) hf hx hu⟩
  ·exact (M.fail_some (H := H) h).elim
 | one c =>
  dsimp only [V1.cells] at h
  split at h
  ·rename_i hp
   have hp' : c.plain = true := by simpa using hp
   exact ⟨_, _, _, done_some h, hrun, Good.box hI (hn (by rw [done_some h]; rfl)) (by rw [(CR.plain (C.plain_ne hp') hv).2]; exact ⟨hv, trivial⟩)⟩
  ·exact (M.fail_some (H := H) h).elim
 | agg cs =>
  dsimp only [V1.cells] at h
  split at h
  ·obtain ⟨us, rfl, hu⟩ := hv
   exact ⟨_, _, _, done_some h, hrun, Good.box hI (hn (by rw [done_some h]; rfl)) hu⟩
  ·exact (M.fail_some (H := H) h).elim
 | pbx => exact hv.elim
theorem repZ_len (z : List Z) (n : Nat) : (repZ z n).length = n * z.length := by
 induction n with
 | zero => simp [repZ]
 | succ n ih => simp [repZ, ih, Nat.succ_mul, Nat.add_comm]
theorem rows_zero {k : Kd} {S : Addr → Prop} : ∀ (n : Nat) (us : List Value), F2 (CR g w) ((repZ k.zs n).map Z.c) us → Rows2 (ER w S k) (List.replicate n k.zero) us
 | 0, us, h => by
  match us, h with
  | [], _ => rfl
 | n + 1, us, h => by
  simp only [repZ, List.map_append] at h
  have hl := h.len
  have h1 := F2.take k.zs.length h
  have h2 := F2.drop k.zs.length h
  rw [List.take_append_of_le_length (by simp), List.take_of_length_le (by simp)] at h1
  rw [List.drop_append_of_le_length (by simp), List.drop_of_length_le (by simp), List.nil_append] at h2
  exact ⟨us.take k.zs.length, us.drop k.zs.length, (List.take_append_drop _ _).symm, ER.zero k _ h1, rows_zero n _ h2⟩
theorem zeroC_ok {E : Env} (hT : TtOk P E.tt) {t : Nat} {cs : List C} (h : zeroC E t = some cs) : ∃ i z, P.info? t = some i ∧ i.zero = some z ∧ F2 (CR g w) cs z.cells.toList ∧ cs.all C.plain = true := by
 unfold zeroC at h
 cases ht : E.ti t with
 | none => rw [ht] at h; simp at h
 | some ti =>
  rw [ht] at h
  obtain ⟨zc, hz, rfl⟩ := Option.map_eq_some_iff.1 h
  obtain ⟨i, d, hi⟩ := Env.tiOk hT ht
  obtain ⟨z, hz1, hz2⟩ := hi.zero zc hz
  exact ⟨i, z, hi.info, hz1, zsOf_ok hz2, Z.plain zc⟩
theorem pAlloc_ok {E : Env} (hT : TtOk P E.tt) {t nid : Nat} {r : Res1} (hI : Inv M0 w0 g H w) (hn : hasNew r = true → H nid = none)  {l : List Nat} (h : pAlloc E t nid H = some (r, l)) :
  ∃ e u w', r = ⟨true, .done e⟩ ∧ (Instr.alloc t true (.tuple #[])).run P w = .ok u w' ∧ Good M0 w0 g H w nid e u w' := by
 have hrun : ∀ i z, P.info? t = some i → i.zero = some z → (Instr.alloc t true (.tuple #[])).run P w = .ok (.pointer (some ⟨w.heap.size, 0, none⟩)) (w.alloc (.cells z.cells t)) := by
  intro i z hi hz
  simp [Instr.alloc, zeroValue, typeInfo, hi, hz, newVar, newRow]
 unfold pAlloc at h
 cases ht : E.ti t with
 | none => rw [ht] at h; exact (M.fail_some (H := H) h).elim
 | some ti =>
  have main : (match zeroC E t with
   | some cs => done true (one1 (.bptr nid 0)) [] [.box cs]
   | none => .fail) H = some (r, l) → ∃ e u w', r = ⟨true, .done e⟩ ∧ (Instr.alloc t true (.tuple #[])).run P w = .ok u w' ∧ Good M0 w0 g H w nid e u w' := by
   intro h
   cases hz : zeroC E t with
   | none => rw [hz] at h; exact (M.fail_some (H := H) h).elim
   | some cs =>
    rw [hz] at h
    obtain ⟨i, z, hi, hz1, hz2, _⟩ := zeroC_ok (g := g) (w := w) hT hz
    exact ⟨_, _, _, done_some h, hrun i z hi hz1, Good.box hI (hn (by rw [done_some h]; rfl)) hz2⟩
  rw [ht] at h
  obtain ⟨sz, by', d, kd, zc⟩ := ti
  cases d <;> try exact main h
  rename_i n e
  dsimp only at h
  cases he : E.ti e with
  | none => rw [he] at h; exact (M.fail_some (H := H) h).elim
  | some ei =>
   rw [he] at h
   obtain ⟨sz', by'', d', kd', zc'⟩ := ei
   cases kd' with
   | none => exact (M.fail_some (H := H) h).elim
   | some k =>
    dsimp only at h
    split at h
    ·rename_i hc
     obtain ⟨hf, rfl⟩ := hc
     obtain ⟨i, d, hi⟩ := Env.tiOk hT ht
     obtain ⟨z, hz1, hz2⟩ := hi.zero _ rfl
     exact ⟨_, _, _, done_some h, hrun i z hi.info hz1, Good.vec hI (hn (by rw [done_some h]; rfl)) hf (by simp) (rows_zero n _ (zsOf_ok (g := g) hz2))⟩
    ·exact (M.fail_some (H := H) h).elim
theorem foldset : ∀ (vs : List Value) (n off : Nat) (cs : Array Value), off + n + vs.length ≤ cs.size →
  ((vs.zipIdx n).foldl (fun cs p => cs.setIfInBounds (off + p.2) p.1) cs).toList = cs.toList.take (off + n) ++ vs ++ cs.toList.drop (off + n + vs.length)
 | [], n, off, cs, h => by simp
 | v :: vs, n, off, cs, h => by
  simp only [List.length_cons] at h
  rw [List.zipIdx_cons, List.foldl_cons, foldset vs (n + 1) off _ (by simp; omega)]
  apply List.ext_getElem?
  intro q
  have e1 : (cs.setIfInBounds (off + n) v).toList = cs.toList.set (off + n) v := by simp
  simp only [e1]
  have hl1 : (cs.toList.take (off + n)).length = off + n := by simp; omega
  have hl2 : ((cs.toList.set (off + n) v).take (off + (n + 1))).length = off + n + 1 := by simp; omega
  rw [splice_get _ _ _ (by simp; omega)]
  have := splice_get cs.toList (v :: vs) (off + n) (by simp; omega) q
  rw [this]
  simp only [List.length_cons, List.getElem?_set, Array.length_toList]
  by_cases h1 : off + n = q
  ·subst h1
   rw [if_neg (by omega), if_pos rfl, if_pos (by omega), if_pos (by omega)]; simp
  ·by_cases h2 : off + (n + 1) ≤ q ∧ q < off + (n + 1) + vs.length
   ·rw [if_pos h2, if_pos (by omega)]
    rw [show q - (off + n) = (q - (off + (n + 1))) + 1 by omega, List.getElem?_cons_succ]
   ·rw [if_neg h2, if_neg h1, if_neg (by omega)]
theorem fill_ok (place place' : Nat → Option (Nat × Nat)) (hpp : ∀ i p, place i = some p → place' i = some p) : ∀ (parts : List (Nat × V1)) (cs : List C) (us : Array Value) (ps : List (Nat × Value)), F2 (CR g w) cs us.toList → F2 (fun a b => a.1 = b.1 ∧ V1R g w a.2 b.2) parts ps →
  ∀ cs', fillC place cs parts = some cs' → ∃ us' : Array Value, Instr.fill place' us ps = some us' ∧ F2 (CR g w) cs' us'.toList
 | [], cs, us, [], hu, _, cs', h => by cases h; exact ⟨us, rfl, hu⟩
 | (i, v) :: r, cs, us, (j, x) :: ps, hu, hp, cs', h => by
  obtain ⟨⟨hij, hv⟩, hp⟩ := hp
  simp only at hij; subst hij
  simp only [fillC] at h
  cases hpl : place i with
  | none => rw [hpl] at h; simp at h
  | some os =>
   obtain ⟨off, sz⟩ := os
   rw [hpl] at h
   cases hc : v.cells with
   | none => rw [hc] at h; simp at h
   | some ns =>
    rw [hc] at h
    dsimp only at h
    split at h
    ·rename_i hcd
     obtain ⟨h1, h2, h3⟩ := hcd
     obtain ⟨vs, hvs, hvr⟩ := V1.cells_ok hc h3 hv
     have hl := hvr.len
     have hlu := hu.len
     have hvs' : x.cells.size = vs.length := by rw [← hvs]; simp
     have hfs := foldset vs 0 off us (by rw [Nat.add_zero, ← hl]; simp at hlu; omega)
     have := fill_ok place place' hpp r (splice cs off ns) (x.cells.zipIdx.foldl (fun cs p => cs.setIfInBounds (off + p.2) p.1) us) ps (by
      have e : (x.cells.zipIdx.foldl (fun cs p => cs.setIfInBounds (off + p.2) p.1) us).toList = us.toList.take off ++ vs ++ us.toList.drop (off + vs.length) := by
       rw [← Array.foldl_toList, Array.toList_zipIdx, hvs]
       simpa using hfs
      rw [e]
      exact F2.splice off hu hvr) hp cs' h
     obtain ⟨us', h4, h5⟩ := this
     refine ⟨us', ?_, h5⟩
     simp only [Instr.fill, hpp _ _ hpl]
     rw [if_neg (by simp only [Array.length_toList] at hlu; simp; omega)]
     exact h4
    ·simp at h
 | [], _, _, _ :: _, _, h, _, _ => h.elim
 | _ :: _, _, _, [], _, h, _, _ => h.elim
theorem ofRows_ok {k : Kd} : ∀ (n : Nat) (cs : List C) (xs : List (El k)) (m : List Nat), ofRows k n cs = some (xs, m) → ∀ us, F2 (CR g w) cs us → xs.length = n ∧ us.length = n * k.size ∧ ∀ m', (∀ b, b ∈ m → b ∈ m') → Rows2 (ER w (SM g.L m') k) xs us
 | 0, cs, xs, m, h, us, hu => by
  match cs, h, us, hu with
  | [], h, [], _ => cases h; exact ⟨rfl, by simp, fun _ _ => rfl⟩
  | _ :: _, h, _, _ => simp [ofRows] at h
 | n + 1, cs, xs, m, h, us, hu => by
  simp only [ofRows] at h
  split at h
  ·simp at h
  ·rename_i x m1 r h1
   split at h
   ·simp at h
   ·rename_i ys m2 h2
    cases h
    obtain ⟨u, v, rfl, h3, h4⟩ := ofCells_ok k cs x m1 r h1 us hu
    obtain ⟨h5, h6, h7⟩ := ofRows_ok n r ys m2 h2 v h4
    refine ⟨by simp [h5], by rw [List.length_append, h6, ER.len _ _ _ (h3 m1 fun _ h => h), Nat.succ_mul, Nat.add_comm], fun m' hm => ⟨u, v, rfl, h3 m' fun b hb => hm b (mem_un_l hb), h7 m' fun b hb => hm b (mem_un_r hb)⟩⟩
theorem mapM_fields {E : Env} (hT : TtOk P E.tt) : ∀ (fields : List Field), (∀ f ∈ fields, (∃ i, P.info? f.type = some i ∧ i.size ≠ 0) ∧ f.name ≠ "_") →
  ∃ places, fields.mapM (fun f => (P.info? f.type).map fun i => (f.offset, i.size)) = some places ∧ places.length = fields.length ∧ ∀ (j : Nat) (f : Field), fields[j]? = some f → ∃ i, P.info? f.type = some i ∧ places[j]? = some (f.offset, i.size)
 | [], _ => ⟨[], rfl, rfl, fun j f h => by simp at h⟩
 | f :: fs, h => by
  obtain ⟨pls, h1, h2, h3⟩ := mapM_fields hT fs fun f hf => h f (by simp [hf])
  obtain ⟨⟨i, hi, _⟩, _⟩ := h f (by simp)
  refine ⟨(f.offset, i.size) :: pls, by simp [List.mapM_cons, hi, h1], by simp [h2], fun j f' hf => ?_⟩
  cases j with
  | zero => simp at hf; subst hf; exact ⟨i, hi, rfl⟩
  | succ j => simpa using h3 j f' (by simpa using hf)
theorem pBuild_ok {E : Env} (hT : TtOk P E.tt) {t nid : Nat} (hI : Inv M0 w0 g H w) {parts : List (Nat × V1)} {ps : Array (Nat × Value)} (hp : F2 (fun a b => a.1 = b.1 ∧ V1R g w a.2 b.2) parts ps.toList) {r : Res1} {l : List Nat} (h : pBuild E t parts H = some (r, l)) :
  ∃ e u w', r = ⟨true, .done e⟩ ∧ (Instr.build t ps).run P w = .ok u w' ∧ Good M0 w0 g H w nid e u w' := by
 unfold pBuild at h
 cases ht : E.ti t with
 | none => rw [ht] at h; exact (M.fail_some (H := H) h).elim
 | some ti =>
  rw [ht] at h
  obtain ⟨i, d, hi⟩ := Env.tiOk hT ht
  obtain ⟨sz, by', td, kd, zc⟩ := ti
  cases td <;> try exact (M.fail_some (H := H) h).elim
  ·rename_i fs
   dsimp only at h
   cases hz : zeroC E t with
   | none => rw [hz] at h; exact (M.fail_some (H := H) h).elim
   | some z =>
    rw [hz] at h
    dsimp only at h
    generalize hff : fillC _ z parts = ff at h
    cases ff with
    | none => exact (M.fail_some (H := H) h).elim
    | some cs =>
     have hf := hff
     obtain ⟨i', zv, hi', hz1, hz2, _⟩ := zeroC_ok (g := g) (w := w) hT hz
     rw [hi.info] at hi'; cases hi'
     obtain ⟨fields, rfl, hfs, hall⟩ := hi.struct rfl
     obtain ⟨places, hp1, hp2, hp3⟩ := mapM_fields hT fields.toList hall
     obtain ⟨us', hpl, h5⟩ := fill_ok _ (places.toArray[·]?) (fun j pr hj => by
      rw [← hfs, List.getElem?_map] at hj
      cases hj' : fields.toList[j]? with
      | none => rw [hj'] at hj; simp at hj
      | some f =>
       rw [hj'] at hj
       obtain ⟨i2, h6, h7⟩ := hp3 j f hj'
       simp only [Option.map_some] at hj
       cases hft : E.ti f.type with
       | none => rw [hft] at hj; simp at hj
       | some fi =>
        rw [hft] at hj
        obtain ⟨i3, d3, hi3⟩ := Env.tiOk hT hft
        have := hi3.info
        rw [h6] at this; cases this
        simp only [Option.some.injEq] at hj
        rw [← hj, ← hi3.size]
        simpa using h7) parts z zv.cells ps.toList hz2 hp cs hf
     exact ⟨_, _, w, done_some h, run_build w t ps us' (by simp only [Program.built, hi.info, hi.und, hz1, hp1]; exact hpl), Good.same hI ⟨us', rfl, h5⟩⟩
  ·rename_i n e
   dsimp only at h
   cases he : E.ti e with
   | none => rw [he] at h; exact (M.fail_some (H := H) h).elim
   | some ei =>
    rw [he] at h
    obtain ⟨esz, eby, etd, ekd, ezc⟩ := ei
    cases hz : zeroC E t with
    | none => rw [hz] at h; cases ekd <;> exact (M.fail_some (H := H) h).elim
    | some z =>
     rw [hz] at h
     cases ekd with
     | none => exact (M.fail_some (H := H) h).elim
     | some k => exact arr hT hI hp hi he hz h
where
 arr {E : Env} (hT : TtOk P E.tt) {t nid n e : Nat} {sz by' : Nat} {kd : Option Kd} {zc : Option (List Z)} {i : TypeInfo} {d : TypeDesc} {esz eby : Nat} {etd : TD} {ezc : Option (List Z)} {z : List C} (hI : Inv M0 w0 g H w) {parts : List (Nat × V1)} {ps : Array (Nat × Value)} (hp : F2 (fun a b => a.1 = b.1 ∧ V1R g w a.2 b.2) parts ps.toList)
  (hi : TiOk P t ⟨sz, by', .array n e, kd, zc⟩ i d) {k : Kd} (he : E.ti e = some ⟨esz, eby, etd, some k, ezc⟩) (hz : zeroC E t = some z) {r : Res1} {l : List Nat}
  (h : (if k.flat = true ∧ esz = k.size then (match fillC (fun i => if i < n then some (i * esz, esz) else none) z parts with
   | some cs => match ofRows k n cs with
    | some (xs, _) => done true (.v (.vec n k xs))
    | none => .fail
   | none => .fail) else .fail : M Res1) H = some (r, l)) :
  ∃ e u w', r = ⟨true, .done e⟩ ∧ (Instr.build t ps).run P w = .ok u w' ∧ Good M0 w0 g H w nid e u w' := by
  split at h
  ·rename_i hc
   obtain ⟨hfl, rfl⟩ := hc
   cases hf : fillC (fun i => if i < n then some (i * k.size, k.size) else none) z parts with
   | none => rw [hf] at h; exact (M.fail_some (H := H) h).elim
   | some cs =>
    rw [hf] at h
    cases ho : ofRows k n cs with
    | none => simp only [ho] at h; exact (M.fail_some (H := H) h).elim
    | some xm =>
     obtain ⟨xs, m⟩ := xm
     simp only [ho] at h
     obtain ⟨ie, de, hie⟩ := Env.tiOk hT he
     obtain ⟨rfl, hn⟩ := hi.array rfl
     obtain ⟨i', zv, hi', hz1, hz2, _⟩ := zeroC_ok (g := g) (w := w) hT hz
     rw [hi.info] at hi'; cases hi'
     obtain ⟨us', hpl, h5⟩ := fill_ok _ (fun i => some (i * ie.size, ie.size)) (fun j pr hj => by
      split at hj
      ·rw [← hj, hie.size]
      ·simp at hj) parts z zv.cells ps.toList hz2 hp cs hf
     obtain ⟨h6, h7, h8⟩ := ofRows_ok n cs xs m ho us'.toList h5
     exact ⟨_, _, w, done_some h, run_build w t ps us' (by simp only [Program.built, hi.info, hi.und, hz1, hie.info]; exact hpl), Good.same hI ⟨us', rfl, h6, hfl, Rows2.mono (fun x y => ER.flat k x y hfl) (h8 m fun _ h => h)⟩⟩
  ·exact (M.fail_some (H := H) h).elim
theorem repC_len (z : List C) : ∀ n, (repC z n).length = n * z.length
 | 0 => by simp [repC]
 | n + 1 => by simp [repC, repC_len z n, Nat.succ_mul, Nat.add_comm]
theorem made_ok {z : List C} {zs : Array Value} (hz : F2 (CR g w) z zs.toList) (n : Nat) : F2 (CR g w) (repC z n) (madeCells zs (n * zs.size)).toList := by
 have hrep : ∀ n, F2 (CR g w) (repC z n) (List.replicate n zs.toList).flatten := by
  intro n
  induction n with
  | zero => trivial
  | succ n ih => rw [List.replicate_succ, List.flatten_cons]; exact F2.append hz ih
 have : (madeCells zs (n * zs.size)).toList = (List.replicate n zs.toList).flatten := by
  rcases Nat.eq_zero_or_pos zs.size with h0 | h0
  ·have : zs = #[] := Array.eq_empty_of_size_eq_zero h0
   subst this
   simp [madeCells]
  ·apply List.ext_getElem?
   intro j
   have hlen : (List.replicate n zs.toList).flatten.length = n * zs.size := by simp
   by_cases hj : j < n * zs.size
   ·have hget : ∀ (n j : Nat), j < n * zs.size → (List.replicate n zs.toList).flatten[j]? = zs.toList[j % zs.size]? := by
     intro n
     induction n with
     | zero => intro j hj; simp at hj
     | succ n ih =>
      intro j hj
      rw [List.replicate_succ, List.flatten_cons, List.getElem?_append]
      split
      ·rename_i h; simp at h; rw [Nat.mod_eq_of_lt h]
      ·rename_i h
       simp at h
       rw [ih (j - zs.toList.length) (by simp; rw [Nat.succ_mul] at hj; omega)]
       simp only [Array.length_toList]
       rw [← Nat.mod_eq_sub_mod h]
    rw [hget n j hj]
    have hm : j % zs.size < zs.size := Nat.mod_lt _ h0
    simp [madeCells, hj, getElem!_pos zs (j % zs.size) hm, hm]
   ·rw [List.getElem?_eq_none (by simp [madeCells]; omega), List.getElem?_eq_none (by rw [hlen]; omega)]
 rw [this]
 exact hrep n
theorem pBuildSlice_ok {E : Env} (hT : TtOk P E.tt) {t n nid : Nat} {r : Res1} (hI : Inv M0 w0 g H w) (hn : hasNew r = true → H nid = none) {parts : List (Nat × V1)} {ps : Array (Nat × Value)} (hp : F2 (fun a b => a.1 = b.1 ∧ V1R g w a.2 b.2) parts ps.toList)  {l : List Nat} (h : pBuildSlice E t n nid parts H = some (r, l)) :
  ∃ e u w', r = ⟨true, .done e⟩ ∧ (Instr.buildSlice t n ps).run P w = .ok u w' ∧ Good M0 w0 g H w nid e u w' := by
 unfold pBuildSlice at h
 cases ht : E.ti t with
 | none => rw [ht] at h; exact (M.fail_some (H := H) h).elim
 | some ti =>
  rw [ht] at h
  obtain ⟨i, d, hi⟩ := Env.tiOk hT ht
  obtain ⟨sz, by', td, kd, zc⟩ := ti
  cases td <;> try exact (M.fail_some (H := H) h).elim
  rename_i e
  dsimp only at h
  cases he : E.ti e with
  | none => rw [he] at h; exact (M.fail_some (H := H) h).elim
  | some ei =>
   rw [he] at h
   obtain ⟨esz, eby, etd, ekd, ezc⟩ := ei
   cases ekd with
   | none => exact (M.fail_some (H := H) h).elim
   | some k =>
    dsimp only at h
    split at h
    ·rename_i hc
     obtain ⟨rfl, rfl, hsm⟩ := hc
     cases hf : fillC (fun i => if i < n then some (i * k.size, k.size) else none) (repC (k.zs.map Z.c) n) parts with
     | none => rw [hf] at h; exact (M.fail_some (H := H) h).elim
     | some cs =>
      rw [hf] at h
      cases ho : ofRows k n cs with
      | none => simp only [ho] at h; exact (M.fail_some (H := H) h).elim
      | some xm =>
       obtain ⟨xs, m⟩ := xm
       simp only [ho] at h
       obtain ⟨ie, de, hie⟩ := Env.tiOk hT he
       have hsz : ie.size = k.size := hie.size
       obtain rfl := hi.slice rfl
       obtain ⟨zv, hz1, hz2⟩ := hie.zero _ rfl
       have hz2 := zsOf_ok (g := g) (w := w) hz2
       have hzl : zv.cells.size = k.size := by
        have := hz2.len
        simp [zs_len] at this
        omega
       rcases Nat.eq_zero_or_pos n with h0 | h0
       ·subst h0
        have hrun : ∀ (us : Array Value), Instr.fill (fun i => some (i * ie.size, ie.size)) #[] ps.toList = some us → (Instr.buildSlice t 0 ps).run P w = .ok (.slice (some ⟨w.heap.size, 0, none⟩) 0 0) (w.alloc (.cells us e)) := by
         intro us hus
         simp [Instr.buildSlice, run_underlying hi.und, sizeOf, typeInfo, hie.info, hus, newRow, Array.range_zero']
        obtain ⟨us', hpl, h5⟩ := fill_ok _ (fun i => some (i * ie.size, ie.size)) (fun j pr hj => by simp at hj) parts (repC (k.zs.map Z.c) 0) #[] ps.toList (by trivial) hp cs hf
        obtain ⟨h6, h7, h8⟩ := ofRows_ok 0 cs xs m ho us'.toList h5
        exact ⟨_, _, _, done_some h, hrun us' hpl, Good.arr' hI (hn (by rw [done_some h]; rfl)) h6 (Nat.le_refl _) (by simpa using h7) (by
         rw [List.take_of_length_le (by rw [h7]; exact Nat.le_refl _)]
         exact Rows2.mono (fun x y => ER.nm) (h8 m fun _ h => h))⟩
       ·obtain ⟨us', hpl, h5⟩ := fill_ok _ (fun i => some (i * ie.size, ie.size)) (fun j pr hj => by
         split at hj
         ·rw [← hj, hsz]
         ·simp at hj) parts (repC (k.zs.map Z.c) n) (madeCells zv.cells (n * zv.cells.size)) ps.toList (made_ok hz2 n) hp cs hf
        obtain ⟨h6, h7, h8⟩ := ofRows_ok n cs xs m ho us'.toList h5
        have hkp := Kd.size_pos k
        have hpos : ¬ n * ie.size = 0 := by
         rw [hsz]
         exact Nat.ne_of_gt (Nat.mul_pos h0 hkp)
        refine ⟨_, _, _, done_some h, run_buildSlice w t e n ps us' ie zv hi.und hie.info hz1 (by rw [hsz]; omega) hpos (by rw [hzl] at hpl; rw [hsz] at hpl ⊢; exact hpl), ?_⟩
        exact Good.arr' hI (hn (by rw [done_some h]; rfl)) h6 (Nat.le_refl _) (by simpa using h7) (by
         rw [List.take_of_length_le (by rw [h7]; exact Nat.le_refl _)]
         exact Rows2.mono (fun x y => ER.nm) (h8 m fun _ h => h))
    ·exact (M.fail_some (H := H) h).elim
theorem pMake_ok {E : Env} (hT : TtOk P E.tt) {t nid : Nat} {r : Res1} (hI : Inv M0 w0 g H w) (hn : hasNew r = true → H nid = none) {lc cc : C} {lu cu : Value} (hl : CR g w lc lu) (hc : CR g w cc cu)  {l : List Nat} (h : pMake E t nid lc cc H = some (r, l)) (hg : r.g = true) :
  ∃ e u w', r.act = .done e ∧ (Instr.makeSlice t lu cu).run P w = .ok u w' ∧ Good M0 w0 g H w nid e u w' := by
 unfold pMake at h
 cases ht : E.ti t with
 | none => rw [ht] at h; exact (M.fail_some (H := H) h).elim
 | some ti =>
  rw [ht] at h
  obtain ⟨i, d, hi⟩ := Env.tiOk hT ht
  obtain ⟨sz, by', td, kd, zc⟩ := ti
  cases td <;> try exact (M.fail_some (H := H) h).elim
  rename_i e
  cases lc <;> try exact (M.fail_some (H := H) h).elim
  rename_i kl ln
  cases kl <;> try exact (M.fail_some (H := H) h).elim
  cases cc <;> try exact (M.fail_some (H := H) h).elim
  rename_i kc cn
  cases kc <;> try exact (M.fail_some (H := H) h).elim
  dsimp only at h
  cases he : E.ti e with
  | none => rw [he] at h; exact (M.fail_some (H := H) h).elim
  | some ei =>
   rw [he] at h
   obtain ⟨esz, eby, etd, ekd, ezc⟩ := ei
   cases ekd with
   | none => exact (M.fail_some (H := H) h).elim
   | some k =>
    dsimp only at h
    split at h
    ·rename_i hc'
     obtain ⟨rfl, rfl, hb0⟩ := hc'
     have hr := done_some h
     subst hr
     simp only [Bool.and_eq_true, decide_eq_true_eq] at hg
     obtain ⟨⟨g1, g2⟩, g3⟩ := hg
     obtain ⟨ie, de, hie⟩ := Env.tiOk hT he
     have hsz : ie.size = k.size := hie.size
     have hby : ie.bytes = eby := hie.bytes
     obtain rfl := hi.slice rfl
     obtain ⟨zv, hz1, hz2⟩ := hie.zero _ rfl
     have hz2 := zsOf_ok (g := g) (w := w) hz2
     have hzl : zv.cells.size = k.size := by
      have := hz2.len
      simp [zs_len] at this
      omega
     cases hl
     cases hc
     have hc63 : cn ≤ 140737488355328 := Int.le_trans (by
      have : cn * 1 ≤ cn * eby := Int.mul_le_mul_of_nonneg_left (by omega) (by omega)
      omega) g3
     refine ⟨_, _, _, rfl, run_make (P := P) w t e ie zv hi.und hie.info hz1 .i64 .i64 ln cn g1 g2 (by rw [hby, Int.mul_comm]; omega) (by omega), ?_⟩
     refine Good.arr' hI (hn (by rw [done_some h]; rfl)) (by simp) (by omega) (by rw [size_madeCells, hsz]) ?_
     have hmk := made_ok hz2 cn.toNat
     have hrz : ∀ n, repC (k.zs.map Z.c) n = (repZ k.zs n).map Z.c := by
      intro n
      induction n with
      | zero => rfl
      | succ n ih => simp [repC, repZ, ih]
     rw [hrz] at hmk
     have := Rows2.take (ER.len k) ln.toNat (rows_zero (S := SM g.L []) _ _ hmk)
     rw [List.take_replicate, Nat.min_eq_left (by omega)] at this
     rw [hsz, ← hzl]
     rw [← hzl] at this
     exact this
    ·exact (M.fail_some (H := H) h).elim
end Go.Proofs.YtdhifkdijlghdaaGreatDoorA
