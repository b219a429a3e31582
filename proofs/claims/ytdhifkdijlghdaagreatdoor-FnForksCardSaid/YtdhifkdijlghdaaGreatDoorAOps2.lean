/-
  Loads, stores, boxes, numbers: what the model's operations do where the small machine's values stand for theirs. No condition.
-/
import Derived.RangeFuncOwn
import Derived.Test.YtdhifkdijlghdaaGreatDoorAOps1
namespace Go.Proofs.YtdhifkdijlghdaaGreatDoorA
open Go
set_option linter.unusedVariables false
set_option linter.unusedSimpArgs false
variable {P : Program} {M0 : Addr → Prop} {w0 w : World} {g : Gh} {H : Nat → Option Ob}
def lkU : List (Nat × Ob) → Nat → Option Ob → Option Ob
 | [], _, d => d
 | (j, o) :: r, i, d => lkU r i (if j = i then some o else d)
def apH (H : Nat → Option Ob) (nid : Nat) (e : Eff) (i : Nat) : Option Ob :=
 if nid ≤ i ∧ i < nid + e.news.length then e.news[i - nid]? else lkU e.upd i (H i)
def hasNew (r : Res1) : Bool := match r.act with
 | .done e => !e.news.isEmpty
 | _ => false
theorem Keeps.others {M : Addr → Prop} {w w' : World} (h : Keeps M w w') : KeepsOthers w w' := by
 refine ⟨h.size, fun i o ho hc => ?_⟩
 have hi : i < w.heap.size := by
  rcases Nat.lt_or_ge i w.heap.size with h1 | h1
  ·exact h1
  ·rw [Array.getElem?_eq_none h1] at ho; cases ho
 rcases h.block i hi with h1 | ⟨c, e, fz, c', h1, _⟩
 ·rw [h1]; exact ho
 ·rw [h1] at ho
  cases ho
  cases hc
def Good (M0 : Addr → Prop) (w0 : World) (g : Gh) (H : Nat → Option Ob) (w : World) (nid : Nat) (e : Eff) (v : Value) (w' : World) : Prop :=
 ∃ g', Inv M0 w0 g' (apH H nid e) w' ∧ Ext g g' ∧ (∀ b p, g.L b p → w'.cell? p = w.cell? p) ∧ TVR g' w' e.val v ∧ KeepsOthers w w'
theorem Good.same {nid : Nat} {x : TV} {v : Value} (h : Inv M0 w0 g H w) (hv : TVR g w x v) : Good M0 w0 g H w nid ⟨x, [], []⟩ v w :=
 ⟨g, by
  have : apH H nid ⟨x, [], []⟩ = H := by funext i; simp [apH, lkU]; omega
  rw [this]; exact h, Ext.refl g, fun _ _ _ => rfl, hv, KeepsOthers.refl w⟩
theorem Good.new {w' : World} {nid : Nat} {x : TV} {v : Value} {o : Ob} {l : Loc} (h : Inv M0 w0 g H w) (hn : H nid = none) (hk : Keeps (fun _ => False) w w') (hl : l ≠ .none)
  (ho : ObR { g with loc := fun i => if i = nid then l else g.loc i } w' nid o) (hm : ∀ p, MR { g with loc := fun i => if i = nid then l else g.loc i } nid o p → w.heap.size ≤ p.block)
  (hv : TVR { g with loc := fun i => if i = nid then l else g.loc i } w' x v) : Good M0 w0 g H w nid ⟨x, [], [o]⟩ v w' := by
 have he : Ext g { g with loc := fun i => if i = nid then l else g.loc i } := ⟨fun i hi => by
  show (if i = nid then l else g.loc i) = _
  rw [if_neg]; rintro rfl; exact hi (h.no _ hn), fun _ _ h => h, rfl, fun _ _ _ h => h⟩
 have ha : ∀ i, apH H nid ⟨x, [], [o]⟩ i = if i = nid then some o else H i := by
  intro i
  simp only [apH, lkU, List.length_cons, List.length_nil]
  by_cases e : i = nid
  ·subst e; simp
  ·rw [if_neg (by omega), if_neg e]
 obtain ⟨hi, hw⟩ := h.frame (w' := w') (g' := { g with loc := fun i => if i = nid then l else g.loc i }) (H' := apH H nid ⟨x, [], [o]⟩) (fun i => i = nid)
  (fun i hi => by rw [ha, if_neg hi]) (fun i o' hi hh => by
   cases hi; rw [ha, if_pos rfl] at hh; cases hh; exact ⟨ho, fun p hp => .inr (hm p hp)⟩)
  (fun i j o o' p hij hi hj => by cases hi; cases hj; exact absurd rfl hij) (fun b p hb => .inl hb) (hk.mono fun _ _ h => h.elim) he
  (fun i hi => by
   rw [ha] at hi
   split at hi
   ·simp at hi
   ·rename_i hne
    show (if i = nid then l else g.loc i) = _
    rw [if_neg hne]; exact h.no i hi)
 exact ⟨_, hi, he, hw, hv, hk.others⟩
theorem Good.put {w' : World} {nid id : Nat} {o o' : Ob} (h : Inv M0 w0 g H w) (hid : H id = some o) (hk : Keeps (MR g id o) w w')
  (ho : ObR g w' id o') (hm : ∀ p, MR g id o' p → MR g id o p) : Good M0 w0 g H w nid ⟨.tup [], [(id, o')], []⟩ undef w' := by
 have ha : ∀ i, apH H nid ⟨.tup [], [(id, o')], []⟩ i = if i = id then some o' else H i := by
  intro i
  simp only [apH, lkU, List.length_nil]
  rw [if_neg (by omega)]
  by_cases e : i = id
  ·subst e; simp
  ·rw [if_neg e, if_neg (fun h => e h.symm)]
 obtain ⟨hi, hw⟩ := h.frame (w' := w') (g' := g) (H' := apH H nid ⟨.tup [], [(id, o')], []⟩) (fun i => i = id)
  (fun i hi => by rw [ha, if_neg hi]) (fun i o1 hi hh => by
   cases hi; rw [ha, if_pos rfl] at hh; cases hh; exact ⟨ho, fun p hp => .inl ⟨id, o, rfl, hid, hm p hp⟩⟩)
  (fun i j o o' p hij hi hj => by cases hi; cases hj; exact absurd rfl hij) (fun b p hb => .inl hb) (hk.mono fun p _ hp => .inl ⟨id, o, rfl, hid, hp⟩) (Ext.refl g)
  (fun i hi => by
   rw [ha] at hi
   split at hi
   ·simp at hi
   ·exact h.no i hi)
 exact ⟨g, hi, Ext.refl g, hw, ⟨#[], rfl, trivial⟩, hk.others⟩
def TmR (g : Gh) (w : World) (tmps : List (Nat × TV)) (a : Act) : Prop := ∀ t v, lk tmps t = some v → ∃ u, a.tmps[t]? = some u ∧ TVR g w v u
theorem cOf_ok {v : Value} {c : C} (h : cOf v = some c) : CR g w c v := by
 unfold cOf at h
 split at h
 ·cases h; rfl
 ·cases h; rfl
 ·cases h; rfl
 ·cases h; exact ⟨none, rfl⟩
 ·cases h; trivial
 ·simp at h
theorem cOfs_ok : ∀ {vs : List Value} {cs : List C}, cOfs vs = some cs → F2 (CR g w) cs vs
 | [], cs, h => by cases h; trivial
 | v :: r, cs, h => by
  simp only [cOfs] at h
  split at h
  ·rename_i c cs' hc hcs
   cases h
   exact ⟨cOf_ok hc, cOfs_ok hcs⟩
  ·simp at h
theorem vOf_ok {v : Value} {x : V1} (h : vOf v = some x) : V1R g w x v := by
 unfold vOf at h
 split at h
 ·rename_i cs
  obtain ⟨l, hl, rfl⟩ := Option.map_eq_some_iff.1 h
  exact ⟨cs, rfl, cOfs_ok hl⟩
 ·obtain ⟨c, hc, rfl⟩ := Option.map_eq_some_iff.1 h
  exact cOf_ok hc
theorem ev_ok {tmps : List (Nat × TV)} {a : Act} (ht : TmR g w tmps a) : ∀ {x : Operand} {v : TV}, ev tmps x = some v → TVR g w v (a.eval x)
 | .tmp t, v, h => by
  obtain ⟨u, hu, hr⟩ := ht t v h
  show TVR g w v (a.tmps.getD t undef)
  rw [Array.getD_eq_getD_getElem?, hu]; exact hr
 | .const c, v, h => by
  obtain ⟨x, hx, rfl⟩ := Option.map_eq_some_iff.1 h
  exact vOf_ok hx
 | .func f, v, h => by cases h; rfl
 | .global _, v, h => by simp [ev] at h
theorem F2.ex {α β : Type} {R : α → β → Prop} : ∀ {cs : List α} {us : List β}, F2 R cs us → ∀ (j : Nat) (u : β), us[j]? = some u → ∃ c, cs[j]? = some c ∧ R c u
 | a :: as, b :: bs, h, 0, x, hx => ⟨a, rfl, by simp at hx; exact hx ▸ h.1⟩
 | a :: as, b :: bs, h, i + 1, x, hx => by simpa using F2.ex h.2 i x (by simpa using hx)
 | [], [], _, i, x, hx => by simp at hx
 | [], b :: bs, h, _, _, _ => h.elim
 | a :: as, [], h, _, _, _ => h.elim
theorem run_load_cells {t : Nat} {ti : TI} {i : TypeInfo} {d : TypeDesc} (hT : TiOk P t ti i d) {cs : List C} {us : List Value} {v : V1} (hmk : mk ti cs = some v) (hu : F2 (CR g w) cs us) (b o : Nat)
  (hc : ∀ j u, us[j]? = some u → w.cell? ⟨b, o + j, none⟩ = some u) :
  ∃ u, (Instr.loadAt t (.pointer (some ⟨b, o, none⟩))).run P w = .ok u w ∧ V1R g w v u := by
 unfold mk at hmk
 split at hmk
 ·simp at hmk
 ·rename_i hl0
  have hl : us.length = ti.size := by rw [← hu.len]; omega
  split at hmk
  ·rename_i fs _ hd
   cases hmk
   obtain ⟨fields, rfl, _⟩ := hT.struct hd
   exact ⟨.agg us.toArray, run_loadAt_mid w b o t us _ hc hT.und rfl (by rw [hT.info]; simp [hT.size]; omega), us.toArray, rfl, by simpa using hu⟩
  ·simp at hmk
  ·rename_i c h1 h2
   cases hmk
   match us, hu, hl, hc with
   | [u], hu, hl, hc =>
    have h0 := hc 0 u rfl
    simp only [Nat.add_zero] at h0
    refine ⟨u, ?_, hu.1⟩
    have hagg : (isAgg t).run P w = .ok false w := by
     unfold isAgg
     rw [Sem.run_bind, run_underlying hT.und w]
     have := hT.desc
     cases d <;> simp_all [dCheck] <;> cases hd : ti.d <;> simp_all [dCheck]
    simp [Instr.loadAt, Instr.sureAddr, loadVar, hagg, h0]
  ·simp at hmk
theorem pLoad_ok {t : Nat} {ti : TI} {i : TypeInfo} {d : TypeDesc} (hT : TiOk P t ti i d) (hI : Inv M0 w0 g H w) {c : C} {u : Value} (hc : CR g w c u) {v : V1} {l : List Nat} (h : pLoad ti c H = some (v, l)) :
  ∃ r, (Instr.loadAt t u).run P w = .ok r w ∧ V1R g w v r := by
 cases c with
 | bptr id off =>
  obtain ⟨a, e, rfl⟩ := hc
  obtain ⟨o, l1, l2, h1, h2, _⟩ := M.bind_some h
  have ho := hI.ob _ _ (M.get_some h1)
  split at h2
  ·rename_i cs
   obtain ⟨a', us, e', hu, hcell⟩ := ho
   rw [e] at e'; cases e'
   refine run_load_cells hT (M.opt_some h2) (F2.take _ (F2.drop off hu)) _ _ fun j u hj => ?_
   have := (hcell (off + j) u (by
    rw [List.getElem?_take] at hj
    split at hj
    ·simpa using hj
    ·simp at hj)).1
   simpa [pl, Nat.add_assoc] using this
  ·rename_i m cs
   obtain ⟨a', us, e', hu, hcell⟩ := ho
   rw [e] at e'; cases e'
   refine run_load_cells hT (M.opt_some h2) (F2.take _ (F2.drop off hu)) _ _ fun j u hj => ?_
   have := (hcell (off + j) u (by
    rw [List.getElem?_take] at hj
    split at hj
    ·simpa using hj
    ·simp at hj)).1
   simpa [pl, Nat.add_assoc] using this
  ·exact (M.fail_some h2).elim
 | aptr id =>
  obtain ⟨a, n, c, e, rfl⟩ := hc
  obtain ⟨o, l1, l2, h1, h2, _⟩ := M.bind_some h
  have ho := hI.ob _ _ (M.get_some h1)
  generalize hd : ti.d = dd at h2
  cases o <;> cases dd <;> try exact (M.fail_some h2).elim
  ·rename_i n' k xs n'' e''
   dsimp only at h2
   split at h2
   ·rename_i hn
    cases M.ret_some h2
    obtain ⟨a', us, e', hx, hf, hu, hcell⟩ := ho
    rw [e] at e'; cases e'
    obtain ⟨rfl, _⟩ := hT.array hd
    have hl := Rows2.len (ER.len k) hu
    refine ⟨.agg us.toArray, ?_, us.toArray, rfl, hx, hf, by simpa using hu⟩
    refine run_loadAt_mid w _ _ t us _ (fun j u hj => ?_) hT.und rfl (by rw [hT.info]; simp [hT.size, hl, hx]; omega)
    simpa [pl, Nat.add_assoc] using (hcell j u hj).1
   ·exact (M.fail_some h2).elim
 | eptr id ix sz off =>
  obtain ⟨a, n, c, e, hi, rfl⟩ := hc
  obtain ⟨o, l1, l2, h1, h2, _⟩ := M.bind_some h
  have ho := hI.ob _ _ (M.get_some h1)
  split at h2
  ·rename_i k xs m x
   split at h2
   ·rename_i hs; subst hs
    obtain ⟨A, n', c', us, e', hx, hnc, hu, hcell⟩ := ho
    rw [e] at e'; cases e'
    rcases hcell with rfl | ⟨a', ha, hsp, hcell, _⟩
    ·omega
    ·cases ha
     have hg : xs[ix]? = some (rdE k xs ix) := by unfold rdE; rw [List.getD_eq_getElem?_getD, List.getElem?_eq_getElem (by omega)]; rfl
     have hr := ER.cells (g := g) k _ _ (Rows2.get (ER.len k) hu ix _ hg)
     refine run_load_cells hT (M.opt_some h2) (F2.take _ (F2.drop off hr)) _ _ fun j u hj => ?_
     have := hcell (ix * k.size + (off + j)) u (by
      rw [List.getElem?_take] at hj
      split at hj
      ·rw [List.getElem?_drop, List.getElem?_take] at hj
       split at hj
       ·simpa using hj
       ·simp at hj
      ·simp at hj)
     simpa [pl, Nat.add_assoc] using this
   ·exact (M.fail_some h2).elim
  ·rename_i n1 k xs
   split at h2
   ·rename_i hs; subst hs
    obtain ⟨a', us, e', hx, hf, hu, hcell⟩ := ho
    rw [e] at e'; cases e'
    have hg : xs[ix]? = some (rdE k xs ix) := by unfold rdE; rw [List.getD_eq_getElem?_getD, List.getElem?_eq_getElem (by omega)]; rfl
    have hr := ER.cells (g := g) (w := w) (m := []) k _ _ (ER.flat k _ _ hf (Rows2.get (ER.len k) hu ix _ hg))
    refine run_load_cells hT (M.opt_some h2) (F2.take _ (F2.drop off hr)) _ _ fun j u hj => ?_
    have := (hcell (ix * k.size + (off + j)) u (by
      rw [List.getElem?_take] at hj
      split at hj
      ·rw [List.getElem?_drop, List.getElem?_take] at hj
       split at hj
       ·simpa using hj
       ·simp at hj
      ·simp at hj)).1
    simpa [pl, Nat.add_assoc] using this
   ·exact (M.fail_some h2).elim
  ·exact (M.fail_some h2).elim
 | rptr m k x off =>
  obtain ⟨a, us, rfl, he, hcell⟩ := hc
  refine run_load_cells hT (M.opt_some h) (F2.take _ (F2.drop off (ER.cells k x us he))) _ _ fun j u hj => ?_
  have := (hcell (off + j) u (by
   rw [List.getElem?_take] at hj
   split at hj
   ·simpa using hj
   ·simp at hj)).1
  simpa [pl, Nat.add_assoc] using this
 | _ => exact (M.fail_some (H := H) h).elim
theorem Keeps.setCells {M : Addr → Prop} (b : Nat) : ∀ (vs : List Value) (o : Nat) (w : World), (∀ j, j < vs.length → M ⟨b, o + j, none⟩) → Keeps M w (w.setCells b o vs)
 | [], o, w, _ => Keeps.refl M w
 | v :: r, o, w, h => (Keeps.setCell w v (by simpa using h 0 (by simp))).trans' (Keeps.setCells b r (o + 1) (w.setCell ⟨b, o, none⟩ v) fun j hj => by
   have := h (j + 1) (by simp; omega)
   rwa [show o + (j + 1) = o + 1 + j by omega] at this) fun p _ hp => hp
theorem V1.cells_ok {v : V1} {u : Value} {ns : List C} (h : v.cells = some ns) (hp : ns.all C.plain = true) (hv : V1R g w v u) : ∃ us : List Value, u.cells.toList = us ∧ F2 (CR g w) ns us := by
 cases v with
 | one c =>
  cases h
  have hp' : c.plain = true := by simpa using hp
  exact ⟨_, rfl, by rw [(CR.plain (C.plain_ne hp') hv).2]; exact ⟨hv, trivial⟩⟩
 | agg cs =>
  cases h
  obtain ⟨us, rfl, hu⟩ := hv
  exact ⟨_, rfl, hu⟩
 | vec => simp [V1.cells] at h
 | pbx => simp [V1.cells] at h
theorem run_store_cells {t : Nat} {ti : TI} {i : TypeInfo} {d : TypeDesc} (hT : TiOk P t ti i d) (b o : Nat) (u : Value) (us : List Value) (hus : u.cells.toList = us) (hl : us.length = ti.size) (ht : w.there b o us.length) (h1 : ∀ x ∈ us, x.oneCell' = true) :
  (Instr.storeAt t (.pointer (some ⟨b, o, none⟩)) u).run P w = .ok () (w.setCells b o us) := by
 have hs : u.cells.size = ti.size := by rw [← hl, ← hus]; simp
 have := run_storeCells_cells (P := P) b o us 0 w (fun j hj => by simpa using (ht j hj).1) (fun j hj => by simpa using (ht j hj).2) h1
 simp only [Nat.add_zero] at this
 simp [Instr.storeAt, Instr.sureAddr, storeVar, sizeOf, typeInfo, hT.info, hT.size, hs, hus, this]
theorem splice_get {α : Type} (us vs : List α) (off : Nat) (h : off + vs.length ≤ us.length) (j : Nat) : (us.take off ++ vs ++ us.drop (off + vs.length))[j]? = if off ≤ j ∧ j < off + vs.length then vs[j - off]? else us[j]? := by
 have hl : (us.take off).length = off := by simp; omega
 rw [List.append_assoc, List.getElem?_append, hl]
 split
 ·rw [List.getElem?_take, if_pos (by assumption), if_neg (by omega)]
 ·rw [List.getElem?_append]
  split
  ·rw [if_pos (by omega)]
  ·rw [List.getElem?_drop, if_neg (by omega)]
   congr 1
   omega
theorem cell_setCells (b o : Nat) (vs : List Value) (w : World) (h : ∀ j, j < vs.length → (w.cell? ⟨b, o + j, none⟩).isSome = true) (q : Nat) :
  (w.setCells b o vs).cell? ⟨b, q, none⟩ = if o ≤ q ∧ q < o + vs.length then vs[q - o]? else w.cell? ⟨b, q, none⟩ := by
 split
 ·rename_i hq
  have := World.cell?_setCells_in b vs o w h (q - o) (by omega)
  rw [show o + (q - o) = q by omega] at this
  rw [this, List.getElem?_eq_getElem]
 ·exact World.cell?_setCells_out b vs o w _ (fun _ _ => by simp only; omega)
theorem L_store {b o : Nat} {vs : List Value} {id : Nat} {ob : Ob} (hI : Inv M0 w0 g H w) (hid : H id = some ob) (hm : ∀ j, j < vs.length → MR g id ob ⟨b, o + j, none⟩) : ∀ l p, g.L l p → (w.setCells b o vs).cell? p = w.cell? p := by
 intro l p hl
 refine World.cell?_setCells_out b vs o w p fun hb hs => ?_
 rcases Nat.lt_or_ge p.off o with h | h
 ·exact .inl h
 ·refine .inr ?_
  rcases Nat.lt_or_ge p.off (o + vs.length) with h' | h'
  ·have := hm (p.off - o) (by omega)
   rw [show o + (p.off - o) = p.off by omega] at this
   exact absurd hl (hI.st id ob p l hid (by cases p; simp_all))
  ·exact h'
theorem ofCells_plain : ∀ (k : Kd) (cs : List C) (x : El k) (m : List Nat) (r : List C), ofCells k cs = some (x, m, r) → ∃ p, cs = p ++ r ∧ p.all C.plain = true := by
 intro k
 induction k with
 | pair a b iha ihb =>
  intro cs x m r h
  simp only [ofCells] at h
  split at h
  ·simp at h
  ·rename_i h1
   split at h
   ·simp at h
   ·rename_i h2
    cases h
    obtain ⟨p, rfl, hp⟩ := iha _ _ _ _ h1
    obtain ⟨q, rfl, hq⟩ := ihb _ _ _ _ h2
    exact ⟨p ++ q, by simp, by simp [hp, hq]⟩
 | tree k ih =>
  intro cs x m r h
  simp only [ofCells] at h
  split at h
  ·simp at h
  ·rename_i h1
   obtain ⟨p, rfl, hp⟩ := ih _ _ _ _ h1
   split at h
   ·split at h
    ·cases h; exact ⟨p ++ [_], by simp; rfl, by simp [hp]; rfl⟩
    ·simp at h
   ·cases h; exact ⟨p ++ [.nil], by simp, by simp [hp]; rfl⟩
   ·simp at h
 | list k ih =>
  intro cs x m r h
  match cs with
  | .slv m1 k' xs :: cs =>
   simp only [ofCells] at h
   split at h
   ·rename_i e; subst e; cases h; exact ⟨[_], rfl, rfl⟩
   ·simp at h
  | .nil :: cs => simp only [ofCells] at h; cases h; exact ⟨[_], rfl, rfl⟩
  | [] => simp [ofCells] at h
  | .int .. :: _ | .bool _ :: _ | .str _ :: _ | .own .. :: _ | .slo _ :: _ | .bptr .. :: _ | .aptr _ :: _ | .eptr .. :: _ | .rptr .. :: _ | .fn _ :: _ | .clo .. :: _ | .fv _ :: _ | .undef :: _ => simp [ofCells] at h
 | int k =>
  intro cs x m r h
  match cs with
  | .int k' n :: cs =>
   simp only [ofCells] at h
   split at h
   ·rename_i e; subst e; cases h; exact ⟨[_], rfl, rfl⟩
   ·simp at h
  | [] => simp [ofCells] at h
  | .nil :: _ | .slv .. :: _ | .bool _ :: _ | .str _ :: _ | .own .. :: _ | .slo _ :: _ | .bptr .. :: _ | .aptr _ :: _ | .eptr .. :: _ | .rptr .. :: _ | .fn _ :: _ | .clo .. :: _ | .fv _ :: _ | .undef :: _ => simp [ofCells] at h
 | bool =>
  intro cs x m r h
  match cs with
  | .bool n :: cs => simp only [ofCells] at h; cases h; exact ⟨[_], rfl, rfl⟩
  | [] => simp [ofCells] at h
  | .nil :: _ | .slv .. :: _ | .int .. :: _ | .str _ :: _ | .own .. :: _ | .slo _ :: _ | .bptr .. :: _ | .aptr _ :: _ | .eptr .. :: _ | .rptr .. :: _ | .fn _ :: _ | .clo .. :: _ | .fv _ :: _ | .undef :: _ => simp [ofCells] at h
 | str =>
  intro cs x m r h
  match cs with
  | .str n :: cs => simp only [ofCells] at h; cases h; exact ⟨[_], rfl, rfl⟩
  | [] => simp [ofCells] at h
  | .nil :: _ | .slv .. :: _ | .int .. :: _ | .bool _ :: _ | .own .. :: _ | .slo _ :: _ | .bptr .. :: _ | .aptr _ :: _ | .eptr .. :: _ | .rptr .. :: _ | .fn _ :: _ | .clo .. :: _ | .fv _ :: _ | .undef :: _ => simp [ofCells] at h
theorem ofAll_plain {k : Kd} {cs : List C} {x : El k} {m : List Nat} (h : ofAll k cs = some (x, m)) : cs.all C.plain = true := by
 unfold ofAll at h
 split at h
 ·rename_i hoc
  obtain ⟨p, hp1, hp2⟩ := ofCells_plain _ _ _ _ _ hoc
  rw [List.append_nil] at hp1
  rw [hp1]; exact hp2
 ·simp at h
theorem splice_plain {cs ns : List C} {off : Nat} (h : (splice cs off ns).all C.plain = true) : ns.all C.plain = true := by
 simp only [splice, List.all_append, Bool.and_eq_true] at h
 exact h.1.2
theorem row_splice (us vs : List Value) (p sz off : Nat) (hix : p + sz ≤ us.length) (ho : off + vs.length ≤ sz) :
  us.take p ++ (((us.drop p).take sz).take off ++ vs ++ ((us.drop p).take sz).drop (off + vs.length)) ++ us.drop (p + sz) = us.take (p + off) ++ vs ++ us.drop (p + off + vs.length) := by
 apply List.ext_getElem?
 intro q
 rw [splice_get _ _ _ (by omega)]
 have hA : (((us.drop p).take sz).take off ++ vs ++ ((us.drop p).take sz).drop (off + vs.length)).length = sz := by simp; omega
 rw [List.append_assoc, List.getElem?_append, List.length_take, Nat.min_eq_left (by omega)]
 split
 ·rw [List.getElem?_take, if_pos (by assumption), if_neg (by omega)]
 ·rw [List.getElem?_append, hA]
  split
  ·rw [splice_get _ _ _ (by simp; omega)]
   by_cases hq : off ≤ q - p ∧ q - p < off + vs.length
   ·rw [if_pos hq, if_pos (by omega)]; congr 1; omega
   ·rw [if_neg hq, if_neg (by omega), List.getElem?_take, if_pos (by omega), List.getElem?_drop]; congr 1; omega
  ·rw [List.getElem?_drop, if_neg (by omega)]; congr 1; omega
theorem pStore_ok {t : Nat} {ti : TI} {i : TypeInfo} {d : TypeDesc} (hT : TiOk P t ti i d) (hI : Inv M0 w0 g H w) {nid : Nat} {c : C} {u : Value} (hc : CR g w c u) {v : V1} {x : Value} (hv : V1R g w v x)
  {r : Res1} {l : List Nat} (h : pStore ti v c H = some (r, l)) : ∃ e w', r = ⟨true, .done e⟩ ∧ (Instr.storeAt t u x).run P w = .ok () w' ∧ Good M0 w0 g H w nid e undef w' := by
 cases c with
 | bptr id off =>
  obtain ⟨a, e, rfl⟩ := hc
  obtain ⟨o, l1, l2, h1, h2, _⟩ := M.bind_some h
  have hid := M.get_some h1
  have ho := hI.ob _ _ hid
  generalize hns : v.cells = nn at h2
  cases o <;> cases nn <;> try exact (M.fail_some h2).elim
  ·rename_i cs ns
   dsimp only at h2
   split at h2
   ·rename_i hc
    obtain ⟨hn1, hn2, hn3⟩ := hc
    have hr := done_some h2
    obtain ⟨a', us, e', hu, hcell⟩ := ho
    rw [e] at e'; cases e'
    obtain ⟨vs, hvs, hvr⟩ := V1.cells_ok hns hn3 hv
    have hl1 := hvr.len
    have hl2 := hu.len
    have hth : w.there a.block (a.off + off) vs.length := fun j hj => by
     have := hcell (off + j) _ (List.getElem?_eq_getElem (by omega))
     simp only [pl, ← Nat.add_assoc] at this
     exact ⟨by rw [this.1]; rfl, this.2⟩
    have hmr : ∀ j, j < vs.length → MR g id (.box cs) ⟨a.block, a.off + off + j, none⟩ := fun j hj => ⟨a, off + j, e, by omega, by simp [pl, Nat.add_assoc]⟩
    have hL := L_store hI hid hmr
    refine ⟨_, _, hr, run_store_cells hT _ _ x vs hvs (by omega) hth (F2.plain hn3 hvr), ?_⟩
    refine Good.put hI hid (Keeps.setCells _ _ _ _ hmr) ?_ ?_
    ·refine ⟨a, us.take off ++ vs ++ us.drop (off + vs.length), e, ?_, fun j u hj => ?_⟩
     ·exact F2.splice off (F2.mono (CR.ext (Ext.refl g) hL) hu) (F2.mono (CR.ext (Ext.refl g) hL) hvr)
     ·rw [splice_get _ _ _ (by omega)] at hj
      have hz := cell_setCells a.block (a.off + off) vs w (fun j hj => (hth j hj).1) (a.off + j)
      refine ⟨?_, ?_⟩
      ·show World.cell? _ ⟨a.block, a.off + j, none⟩ = _
       rw [hz]
       split
       ·rename_i hq
        rw [if_pos (by omega)] at hj
        rw [← hj]; congr 1; omega
       ·rename_i hq
        rw [if_neg (by omega)] at hj
        exact (hcell j u hj).1
      ·show World.frozen? _ ⟨a.block, a.off + j, none⟩ = _
       rw [World.frozen?_setCells]
       have hjl : j < us.length := by
        split at hj
        ·omega
        ·rcases Nat.lt_or_ge j us.length with h | h
         ·exact h
         ·simp [List.getElem?_eq_none h] at hj
       exact (hcell j _ (List.getElem?_eq_getElem hjl)).2
    ·rintro p ⟨a', j, e', hj, rfl⟩
     rw [e] at e'; cases e'
     exact ⟨a, j, e, by simp [splice] at hj; omega, rfl⟩
   ·exact (M.fail_some h2).elim
 | aptr id =>
  obtain ⟨a, n, c, e, rfl⟩ := hc
  obtain ⟨o, l1, l2, h1, h2, _⟩ := M.bind_some h
  have hid := M.get_some h1
  have ho := hI.ob _ _ hid
  cases o <;> cases v <;> try exact (M.fail_some h2).elim
  ·rename_i n1 k xs n2 k' ys
   dsimp only at h2
   split at h2
   ·rename_i hn
    obtain ⟨rfl, hn⟩ := hn
    cases hy : castL k' k ys <;> rw [hy] at h2 <;> try exact (M.fail_some h2).elim
    ·rename_i ys'
     unfold castL at hy
     split at hy
     ·rename_i hk; subst hk; cases hy
      have hr := done_some h2
      obtain ⟨a', us, e', hx, hf, hu, hcell⟩ := ho
      rw [e] at e'; cases e'
      obtain ⟨vs, rfl, hy1, _, hvr⟩ := hv
      have hl1 := Rows2.len (ER.len k') hu
      have hl2 := Rows2.len (ER.len k') hvr
      have hth : w.there a.block a.off vs.toList.length := fun j hj => by
       have := hcell j _ (List.getElem?_eq_getElem (by rw [hl1, hx]; rw [hl2, hy1] at hj; exact hj))
       exact ⟨by show (w.cell? (pl a j)).isSome = true; rw [this.1]; rfl, this.2⟩
      have hmr : ∀ j, j < vs.toList.length → MR g id (.vec _ k' xs) ⟨a.block, a.off + j, none⟩ := fun j hj => ⟨a, _, j, e, by rw [hl2, hy1] at hj; exact hj, rfl⟩
      have hL := L_store hI hid hmr
      have h1c : ∀ (k : Kd) (xs : List (El k)) (us : List Value), k.flat = true → Rows2 (ER w (fun _ => False) k) xs us → ∀ x ∈ us, x.oneCell' = true := by
       intro k xs us hf
       induction xs generalizing us with
       | nil => intro h x hx; cases h; simp at hx
       | cons y ys ih =>
        rintro ⟨u, r, rfl, h1, h2⟩ x hx
        rcases List.mem_append.1 hx with hx | hx
        ·have hF := ER.cells (g := g) (w := w) (m := []) k y u (ER.flat k _ _ hf h1)
         have hpl : ∀ (k : Kd) (y : El k), (cells [] k y).all C.plain = true := by
          intro k
          induction k with
          | pair a b iha ihb => intro y; simp only [cells, List.all_append, iha, ihb, Bool.and_self]
          | tree k ih => intro y; simp only [cells, List.all_append, ih]; rfl
          | _ => intro y; rfl
         exact F2.plain (hpl k y) hF x hx
        ·exact ih r h2 x hx
      refine ⟨_, w.setCells a.block a.off vs.toList, hr, ?_, ?_⟩
      ·have := run_store_cells (P := P) (w := w) hT a.block a.off (.agg vs) vs.toList rfl (by rw [hl2, hy1]; exact hn) hth (h1c _ _ _ hf hvr)
       simpa [pl] using this
      ·refine Good.put hI hid (Keeps.setCells _ _ _ _ hmr) ?_ ?_
       ·refine ⟨a, vs.toList, e, hy1, hf, Rows2.mono (fun x y => ER.flat k' x y hf) hvr, fun j u hj => ?_⟩
        have hjl : j < vs.toList.length := by
         rcases Nat.lt_or_ge j vs.toList.length with h | h
         ·exact h
         ·simp [List.getElem?_eq_none h] at hj
        have hz := cell_setCells a.block a.off vs.toList w (fun j hj => (hth j hj).1) (a.off + j)
        rw [if_pos (by omega)] at hz
        refine ⟨?_, ?_⟩
        ·show World.cell? _ ⟨a.block, a.off + j, none⟩ = _
         rw [hz, ← hj]; congr 1; omega
        ·show World.frozen? _ ⟨a.block, a.off + j, none⟩ = _
         rw [World.frozen?_setCells]; exact (hth j hjl).2
       ·rintro p ⟨a', c', j, e', hj, rfl⟩
        exact ⟨a', c', j, e', hj, rfl⟩
     ·simp at hy
   ·exact (M.fail_some h2).elim
 | eptr id ix sz off =>
  obtain ⟨a, n, c, e, hi, rfl⟩ := hc
  obtain ⟨o, l1, l2, h1, h2, _⟩ := M.bind_some h
  have hid := M.get_some h1
  have ho := hI.ob _ _ hid
  generalize hns : v.cells = nn at h2
  cases o with
  | arr k xs m x =>
   cases x <;> cases nn <;> try exact (M.fail_some h2).elim
   rename_i ns
   dsimp only at h2
   split at h2
   ·rename_i hcd
    obtain ⟨rfl, hn1, hn2⟩ := hcd
    cases hof : ofAll k (splice (cells m k (rdE k xs ix)) off ns) <;> rw [hof] at h2 <;> try exact (M.fail_some h2).elim
    ·rename_i elm
     obtain ⟨el, m'⟩ := elm
     have hr := done_some h2
     obtain ⟨A, n', c', us, e', hx, hnc, hu, hcell⟩ := ho
     rw [e] at e'; cases e'
     rcases hcell with rfl | ⟨a', ha, hsp, hcell, hex, hend⟩
     ·omega
     ·cases ha
      have hul := Rows2.len (ER.len k) hu
      have hg : xs[ix]? = some (rdE k xs ix) := by unfold rdE; rw [List.getD_eq_getElem?_getD, List.getElem?_eq_getElem (by omega)]; rfl
      have her := Rows2.get (ER.len k) hu ix _ hg
      have hrow := ER.cells (g := g) k _ _ her
      have hrl := ER.len _ _ _ her
      have hix : ix * k.size + k.size ≤ us.length := by
       rw [hul, ← Nat.succ_mul]; exact Nat.mul_le_mul_right _ (by omega)
      have hnp : ns.all C.plain = true := splice_plain (ofAll_plain hof)
      obtain ⟨vs, hvs, hvr⟩ := V1.cells_ok hns hnp hv
      have hl1 := hvr.len
      have hcl := cells_len m k (rdE k xs ix)
      have hth : w.there a.block (a.off + (ix * k.size + off)) vs.length := fun j hj => by
       have := hex (ix * k.size + off + j) (by
        have : c * k.size ≥ us.length := by rw [hul, hx]; exact Nat.mul_le_mul_right _ hnc
        omega)
       simp only [pl, ← Nat.add_assoc] at this ⊢
       exact this
      have hmr : ∀ j, j < vs.length → MR g id (.arr k xs m true) ⟨a.block, a.off + (ix * k.size + off) + j, none⟩ := fun j hj => ⟨a, n, c, ix * k.size + off + j, e, by simp, by
        have : c * k.size ≥ us.length := by rw [hul, hx]; exact Nat.mul_le_mul_right _ hnc
        omega, by simp [pl, Nat.add_assoc]⟩
      have hL := L_store hI hid hmr
      refine ⟨_, _, hr, run_store_cells hT _ _ x vs hvs (by omega) hth (F2.plain hnp hvr), ?_⟩
      refine Good.put hI hid (Keeps.setCells _ _ _ _ hmr) ?_ ?_
      ·have hnew : ER w (SM g.L (un m m')) k el (((us.drop (ix * k.size)).take k.size).take off ++ vs ++ ((us.drop (ix * k.size)).take k.size).drop (off + vs.length)) :=
        ofAll_ok hof (F2.splice off hrow hvr) fun b hb => mem_un_r hb
       have hset := Rows2.set (ER.len k) ix (Rows2.mono (fun x y => ER.mono (fun p ⟨b, hb, hl⟩ => ⟨b, mem_un_l hb, hl⟩) (fun _ _ => rfl) k x y) hu) hnew (by omega)
       refine ⟨some a, n, c, us.take (ix * k.size + off) ++ vs ++ us.drop (ix * k.size + off + vs.length), e, by simp [setE, hx], hnc, ?_, .inr ⟨a, rfl, hsp, fun j u hj => ?_, fun j hj => ?_, fun h => by simp at h, fun hk => (Keeps.setCells (M := MR g id (.arr k xs m true)) _ _ _ _ hmr).endAt (t := ix * k.size) (hex (ix * k.size) (by
        have h1 : c * k.size ≥ us.length := by rw [hul, hx]; exact Nat.mul_le_mul_right _ hnc
        have h2 := Kd.size_pos k
        omega)).1 (hend.2 hk)⟩⟩
       ·have := row_splice us vs (ix * k.size) k.size off hix (by omega)
        rw [← this]
        exact Rows2.mono (fun x y hxy => ER.nm (ER.mono (fun p hp => hp) (fun p ⟨b, hb, hl⟩ => hL b p hl) k x y hxy)) hset
       ·rw [splice_get _ _ _ (by omega)] at hj
        have hz := cell_setCells a.block (a.off + (ix * k.size + off)) vs w (fun j hj => (hth j hj).1) (a.off + j)
        show World.cell? _ ⟨a.block, a.off + j, none⟩ = _
        rw [hz]
        split
        ·rw [if_pos (by omega)] at hj
         rw [← hj]; congr 1; omega
        ·rw [if_neg (by omega)] at hj
         exact hcell j u hj
       ·refine ⟨(Keeps.setCells (M := fun _ => True) _ _ _ _ (fun _ _ => trivial)).some (hex j hj).1, ?_⟩
        show World.frozen? _ ⟨a.block, a.off + j, none⟩ = _
        rw [World.frozen?_setCells]; exact (hex j hj).2
      ·rintro p ⟨a', n', c', j, e', hj, hj', rfl⟩
       exact ⟨a', n', c', j, e', hj, hj', rfl⟩
   ·exact (M.fail_some h2).elim
  | vec n1 k xs =>
   cases nn <;> try exact (M.fail_some h2).elim
   rename_i ns
   dsimp only at h2
   split at h2
   ·rename_i hcd
    obtain ⟨hfl, rfl, hn1, hn2⟩ := hcd
    cases hof : ofAll k (splice (cells [] k (rdE k xs ix)) off ns) <;> rw [hof] at h2 <;> try exact (M.fail_some h2).elim
    ·rename_i elm
     obtain ⟨el, m'⟩ := elm
     have hr := done_some h2
     obtain ⟨a', us, e', hx, hf, hu, hcell⟩ := ho
     rw [e] at e'; cases e'
     have hul := Rows2.len (ER.len k) hu
     have hg : xs[ix]? = some (rdE k xs ix) := by unfold rdE; rw [List.getD_eq_getElem?_getD, List.getElem?_eq_getElem (by omega)]; rfl
     have her := Rows2.get (ER.len k) hu ix _ hg
     have hrow := ER.cells (g := g) (w := w) (m := []) k _ _ (ER.flat k _ _ hf her)
     have hrl := ER.len _ _ _ her
     have hix : ix * k.size + k.size ≤ us.length := by
      rw [hul, ← Nat.succ_mul]; exact Nat.mul_le_mul_right _ (by omega)
     have hnp : ns.all C.plain = true := splice_plain (ofAll_plain hof)
     obtain ⟨vs, hvs, hvr⟩ := V1.cells_ok hns hnp hv
     have hl1 := hvr.len
     have hcl := cells_len [] k (rdE k xs ix)
     have hth : w.there a.block (a.off + (ix * k.size + off)) vs.length := fun j hj => by
      have := hcell (ix * k.size + off + j) _ (List.getElem?_eq_getElem (by omega))
      simp only [pl, ← Nat.add_assoc] at this ⊢
      exact ⟨by rw [this.1]; rfl, this.2⟩
     have hmr : ∀ j, j < vs.length → MR g id (.vec n k xs) ⟨a.block, a.off + (ix * k.size + off) + j, none⟩ := fun j hj => ⟨a, n, ix * k.size + off + j, e, by rw [hul, hx] at hix; omega, by simp [pl, Nat.add_assoc]⟩
     have hL := L_store hI hid hmr
     refine ⟨_, _, hr, run_store_cells hT _ _ x vs hvs (by omega) hth (F2.plain hnp hvr), ?_⟩
     refine Good.put hI hid (Keeps.setCells _ _ _ _ hmr) ?_ ?_
     ·have hnew : ER w (fun _ => False) k el (((us.drop (ix * k.size)).take k.size).take off ++ vs ++ ((us.drop (ix * k.size)).take k.size).drop (off + vs.length)) :=
       ER.flat k _ _ hf (ofAll_ok (m' := m') hof (F2.splice off hrow hvr) fun b hb => hb)
      have hset := Rows2.set (ER.len k) ix hu hnew (by omega)
      refine ⟨a, us.take (ix * k.size + off) ++ vs ++ us.drop (ix * k.size + off + vs.length), e, by simp [setE, hx], hf, ?_, fun j u hj => ?_⟩
      ·rw [← row_splice us vs (ix * k.size) k.size off hix (by omega)]
       exact Rows2.mono (fun x y => ER.flat k x y hf) hset
      ·rw [splice_get _ _ _ (by omega)] at hj
       have hz := cell_setCells a.block (a.off + (ix * k.size + off)) vs w (fun j hj => (hth j hj).1) (a.off + j)
       have hjl : j < us.length := by
        split at hj
        ·omega
        ·rcases Nat.lt_or_ge j us.length with h | h
         ·exact h
         ·simp [List.getElem?_eq_none h] at hj
       refine ⟨?_, ?_⟩
       ·show World.cell? _ ⟨a.block, a.off + j, none⟩ = _
        rw [hz]
        split
        ·rw [if_pos (by omega)] at hj
         rw [← hj]; congr 1; omega
        ·rw [if_neg (by omega)] at hj
         exact (hcell j u hj).1
       ·show World.frozen? _ ⟨a.block, a.off + j, none⟩ = _
        rw [World.frozen?_setCells]; exact (hcell j _ (List.getElem?_eq_getElem hjl)).2
     ·rintro p ⟨a', c', j, e', hj, rfl⟩
      exact ⟨a', c', j, e', hj, rfl⟩
   ·exact (M.fail_some h2).elim
  | _ => exact (M.fail_some h2).elim
 | _ => exact (M.fail_some (H := H) h).elim
end Go.Proofs.YtdhifkdijlghdaaGreatDoorA
