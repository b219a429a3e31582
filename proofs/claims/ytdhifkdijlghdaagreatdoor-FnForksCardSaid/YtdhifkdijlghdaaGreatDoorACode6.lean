/-
  What is kept of a state, under new numbers. No condition.
-/
import Derived.Test.YtdhifkdijlghdaaGreatDoorACode5
namespace Go.Proofs.YtdhifkdijlghdaaGreatDoorA
open Go
set_option linter.unusedVariables false
set_option linter.unusedSimpArgs false
variable {P : Program} {E : Env} {M0 : Addr → Prop} {w0 w : World} {g : Gh} {σ : St} {a : Act} {R : Type}
def gmp (g : Gh) (mp : List Nat) : Gh := { g with loc := fun i => match mp[i]? with | some id => g.loc id | none => .none }
structure Grew (mp mp1 : List Nat) : Prop where
 pre : mp <+: mp1
 nd : mp.Nodup → mp1.Nodup
theorem Grew.refl (mp : List Nat) : Grew mp mp := ⟨List.prefix_refl _, id⟩
theorem Grew.trans {a b c : List Nat} (h : Grew a b) (k : Grew b c) : Grew a c := ⟨h.pre.trans k.pre, fun x => k.nd (h.nd x)⟩
theorem prefix_get {a b : List Nat} (h : a <+: b) {i x : Nat} (hi : a[i]? = some x) : b[i]? = some x := by
 obtain ⟨c, rfl⟩ := h
 rw [List.getElem?_append_left]
 ·exact hi
 ·rcases Nat.lt_or_ge i a.length with h | h
  ·exact h
  ·rw [List.getElem?_eq_none h] at hi; simp at hi
theorem rnI_ok (mp : List Nat) (id : Nat) : Grew mp (rnI mp id).2 ∧ (rnI mp id).2[(rnI mp id).1]? = some id := by
 unfold rnI
 cases h : mp.findIdx? (· == id) with
 | none =>
  have hn : ∀ x ∈ mp, ¬ x = id := by
   intro x hx e
   have := List.findIdx?_eq_none_iff.1 h x hx
   simp [e] at this
  refine ⟨⟨List.prefix_append _ _, fun hnd => ?_⟩, by simp⟩
  rw [List.nodup_append]
  exact ⟨hnd, by simp, fun x hx y hy e => hn x hx (by simp at hy; rw [e, hy])⟩
 | some i =>
  obtain ⟨hi, h1, _⟩ := List.findIdx?_eq_some_iff_getElem.1 h
  refine ⟨Grew.refl _, ?_⟩
  simp only
  rw [List.getElem?_eq_getElem hi]
  simp at h1
  rw [h1]
theorem gmp_loc {mp1 mpf : List Nat} {i id : Nat} (h : mp1[i]? = some id) (hp : mp1 <+: mpf) : (gmp g mpf).loc i = g.loc id := by
 show (match mpf[i]? with | some id => g.loc id | none => .none) = _
 rw [prefix_get hp h]
theorem rnC_ok (mp : List Nat) (c : C) : Grew mp (rnC mp c).2 ∧ ∀ mpf, (rnC mp c).2 <+: mpf → ∀ v, CR g w c v → CR (gmp g mpf) w (rnC mp c).1 v := by
 cases c with
 | slo id =>
  obtain ⟨h1, h2⟩ := rnI_ok mp id
  exact ⟨h1, fun mpf hp v ⟨A, n, c, e, hv⟩ => ⟨A, n, c, by rw [gmp_loc h2 hp, e], hv⟩⟩
 | bptr id off =>
  obtain ⟨h1, h2⟩ := rnI_ok mp id
  exact ⟨h1, fun mpf hp v ⟨A, e, hv⟩ => ⟨A, by rw [gmp_loc h2 hp, e], hv⟩⟩
 | aptr id =>
  obtain ⟨h1, h2⟩ := rnI_ok mp id
  exact ⟨h1, fun mpf hp v ⟨A, n, c, e, hv⟩ => ⟨A, n, c, by rw [gmp_loc h2 hp, e], hv⟩⟩
 | eptr id i sz off =>
  obtain ⟨h1, h2⟩ := rnI_ok mp id
  exact ⟨h1, fun mpf hp v ⟨A, n, c, e, hi, hv⟩ => ⟨A, n, c, by rw [gmp_loc h2 hp, e], hi, hv⟩⟩
 | clo f id =>
  obtain ⟨h1, h2⟩ := rnI_ok mp id
  exact ⟨h1, fun mpf hp v ⟨us, e, hv⟩ => ⟨us, by rw [gmp_loc h2 hp, e], hv⟩⟩
 | _ => exact ⟨Grew.refl _, fun mpf _ v hv => hv⟩
theorem rnCs_ok : ∀ (cs : List C) (mp : List Nat), Grew mp (rnCs mp cs).2 ∧ (rnCs mp cs).1.length = cs.length ∧ ∀ mpf, (rnCs mp cs).2 <+: mpf → ∀ us, F2 (CR g w) cs us → F2 (CR (gmp g mpf) w) (rnCs mp cs).1 us
 | [], mp => ⟨Grew.refl _, rfl, fun _ _ us h => by match us, h with | [], _ => exact trivial⟩
 | c :: cs, mp => by
  obtain ⟨h1, h2⟩ := rnC_ok (g := g) (w := w) mp c
  obtain ⟨h3, h3l, h4⟩ := rnCs_ok cs (rnC mp c).2
  refine ⟨h1.trans h3, by simp [rnCs, h3l], fun mpf hp us h => ?_⟩
  match us, h with
  | u :: us, h => exact ⟨h2 mpf (h3.pre.trans hp) u h.1, h4 mpf hp us h.2⟩
theorem rnV_ok (mp : List Nat) (x : V1) : Grew mp (rnV mp x).2 ∧ ∀ mpf, (rnV mp x).2 <+: mpf → ∀ v, V1R g w x v → V1R (gmp g mpf) w (rnV mp x).1 v := by
 cases x with
 | one c => exact rnC_ok mp c
 | agg cs =>
  obtain ⟨h1, _, h2⟩ := rnCs_ok (g := g) (w := w) cs mp
  exact ⟨h1, fun mpf hp v ⟨us, e, h⟩ => ⟨us, e, h2 mpf hp _ h⟩⟩
 | vec n k xs => exact ⟨Grew.refl _, fun _ _ v h => h⟩
 | pbx cs => exact ⟨Grew.refl _, fun _ _ v h => h⟩
theorem rnVs_ok : ∀ (cs : List V1) (mp : List Nat), Grew mp (rnVs mp cs).2 ∧ ∀ mpf, (rnVs mp cs).2 <+: mpf → ∀ us, F2 (V1R g w) cs us → F2 (V1R (gmp g mpf) w) (rnVs mp cs).1 us
 | [], mp => ⟨Grew.refl _, fun _ _ us h => by match us, h with | [], _ => exact trivial⟩
 | c :: cs, mp => by
  obtain ⟨h1, h2⟩ := rnV_ok (g := g) (w := w) mp c
  obtain ⟨h3, h4⟩ := rnVs_ok cs (rnV mp c).2
  refine ⟨h1.trans h3, fun mpf hp us h => ?_⟩
  match us, h with
  | u :: us, h => exact ⟨h2 mpf (h3.pre.trans hp) u h.1, h4 mpf hp us h.2⟩
theorem rnT_ok (mp : List Nat) (x : TV) : Grew mp (rnT mp x).2 ∧ ∀ mpf, (rnT mp x).2 <+: mpf → ∀ v, TVR g w x v → TVR (gmp g mpf) w (rnT mp x).1 v := by
 cases x with
 | v x => exact rnV_ok mp x
 | tup xs =>
  obtain ⟨h1, h2⟩ := rnVs_ok (g := g) (w := w) xs mp
  exact ⟨h1, fun mpf hp v ⟨us, e, h⟩ => ⟨us, e, h2 mpf hp _ h⟩⟩
theorem rnTs_ok : ∀ (cs : List TV) (mp : List Nat), Grew mp (rnTs mp cs).2 ∧ (rnTs mp cs).1.length = cs.length ∧ ∀ mpf, (rnTs mp cs).2 <+: mpf → ∀ (j : Nat) x, cs[j]? = some x → ∃ y, (rnTs mp cs).1[j]? = some y ∧ ∀ v, TVR g w x v → TVR (gmp g mpf) w y v
 | [], mp => ⟨Grew.refl _, rfl, fun _ _ j x h => by simp at h⟩
 | c :: cs, mp => by
  obtain ⟨h1, h2⟩ := rnT_ok (g := g) (w := w) mp c
  obtain ⟨h3, h3l, h4⟩ := rnTs_ok cs (rnT mp c).2
  refine ⟨h1.trans h3, by simp [rnTs, h3l], fun mpf hp j x h => ?_⟩
  cases j with
  | zero => simp at h; subst h; exact ⟨_, rfl, h2 mpf (h3.pre.trans hp)⟩
  | succ j => exact h4 mpf hp j x (by simpa using h)
theorem rnO_ok (mp : List Nat) (o : Ob) : Grew mp (rnO mp o).2 ∧ ∀ mpf, (rnO mp o).2 <+: mpf → ∀ i id, mpf[i]? = some id → (ObR g w id o → ObR (gmp g mpf) w i (rnO mp o).1) ∧ ∀ p, MR (gmp g mpf) i (rnO mp o).1 p ↔ MR g id o p := by
 have hl : ∀ (mpf : List Nat) (i id : Nat), mpf[i]? = some id → (gmp g mpf).loc i = g.loc id := fun mpf i id h => gmp_loc h (List.prefix_refl _)
 cases o with
 | box cs =>
  obtain ⟨h1, hlen, h2⟩ := rnCs_ok (g := g) (w := w) cs mp
  refine ⟨h1, fun mpf hp i id hi => ⟨fun ⟨a, us, e, hu, hc⟩ => ⟨a, us, by rw [hl mpf i id hi, e], h2 mpf hp us hu, hc⟩, fun p => ?_⟩⟩
  show (∃ a j, (gmp g mpf).loc i = .box a ∧ j < (rnCs mp cs).1.length ∧ p = pl a j) ↔ ∃ a j, g.loc id = .box a ∧ j < cs.length ∧ p = pl a j
  rw [hl mpf i id hi, hlen]
 | arr k xs m x =>
  refine ⟨Grew.refl _, fun mpf hp i id hi => ⟨fun ⟨A, n, c, us, e, h⟩ => ⟨A, n, c, us, by rw [hl mpf i id hi, e], h⟩, fun p => ?_⟩⟩
  show (∃ a n c j, (gmp g mpf).loc i = _ ∧ _) ↔ _
  rw [hl mpf i id hi]; rfl
 | vec n k xs =>
  refine ⟨Grew.refl _, fun mpf hp i id hi => ⟨fun ⟨A, us, e, h⟩ => ⟨A, us, by rw [hl mpf i id hi, e], h⟩, fun p => ?_⟩⟩
  show (∃ a c j, (gmp g mpf).loc i = _ ∧ _) ↔ _
  rw [hl mpf i id hi]; rfl
 | clo cs =>
  obtain ⟨h1, hlen, h2⟩ := rnCs_ok (g := g) (w := w) cs mp
  exact ⟨h1, fun mpf hp i id hi => ⟨fun ⟨us, e, hu⟩ => ⟨us, by rw [hl mpf i id hi, e], h2 mpf hp _ hu⟩, fun p => Iff.rfl⟩⟩
 | cbox m cs =>
  obtain ⟨h1, hlen, h2⟩ := rnCs_ok (g := g) (w := w) cs mp
  exact ⟨h1, fun mpf hp i id hi => ⟨fun ⟨a, us, e, hu, hc⟩ => ⟨a, us, by rw [hl mpf i id hi, e], h2 mpf hp us hu, hc⟩, fun p => Iff.rfl⟩⟩
 | dead => exact ⟨Grew.refl _, fun mpf hp i id hi => ⟨fun h => by show (gmp g mpf).loc i ≠ _; rw [hl mpf i id hi]; exact h, fun p => Iff.rfl⟩⟩
theorem rnH_ok {h : List Ob} : ∀ (f i : Nat) (mp : List Nat) (os : List Ob) (mp' : List Nat), rnH h f i mp = some (os, mp') → i ≤ mp.length → Grew mp mp' ∧ i + os.length = mp'.length ∧
  ∀ (j : Nat) o', os[j]? = some o' → ∃ id o, mp'[i + j]? = some id ∧ h[id]? = some o ∧ (ObR g w id o → ObR (gmp g mp') w (i + j) o') ∧ ∀ p, MR (gmp g mp') (i + j) o' p ↔ MR g id o p
 | 0, i, mp, os, mp', hh, _ => by simp [rnH] at hh
 | f + 1, i, mp, os, mp', hh, hi => by
  simp only [rnH] at hh
  cases hid : mp[i]? with
  | none =>
   rw [hid] at hh
   cases hh
   refine ⟨Grew.refl _, ?_, fun j o' hj => by simp at hj⟩
   have := List.getElem?_eq_none_iff.1 hid
   simp; omega
  | some id =>
   rw [hid] at hh
   dsimp only at hh
   cases ho : h[id]? with
   | none => rw [ho] at hh; simp at hh
   | some o =>
    rw [ho] at hh
    dsimp only at hh
    obtain ⟨h1, h2⟩ := rnO_ok (g := g) (w := w) mp o
    cases hr : rnH h f (i + 1) (rnO mp o).2 with
    | none => rw [hr] at hh; simp at hh
    | some osm =>
     obtain ⟨os2, mp2⟩ := osm
     rw [hr] at hh
     cases hh
     have hlt : i < mp.length := by
      rcases Nat.lt_or_ge i mp.length with h | h
      ·exact h
      ·rw [List.getElem?_eq_none h] at hid; simp at hid
     obtain ⟨h3, h4, h5⟩ := rnH_ok f (i + 1) _ _ _ hr (by have := h1.pre.length_le; omega)
     refine ⟨h1.trans h3, by simp; omega, fun j o' hj => ?_⟩
     cases j with
     | zero =>
      simp at hj; subst hj
      have hmp := prefix_get (h1.trans h3).pre hid
      obtain ⟨h6, h7⟩ := h2 _ h3.pre i id hmp
      exact ⟨id, o, hmp, ho, h6, h7⟩
     | succ j =>
      obtain ⟨id2, o2, h6, h7, h8, h9⟩ := h5 j o' (by simpa using hj)
      rw [show i + 1 + j = i + (j + 1) by omega] at h6 h8 h9
      exact ⟨id2, o2, h6, h7, h8, h9⟩
structure LaterE (ne : Nat) (g : Gh) (w : World) (g' : Gh) (w' : World) : Prop where
 L : ∀ b p, g.L b p → g'.L b p
 nz : ∀ b p, b ≠ 0 → g'.L b p → g.L b p
 fv : g'.fv = g.fv
 st : ∀ b p, g.L b p → w'.cell? p = w.cell? p
 loc : ∀ i, i < ne → g'.loc i = g.loc i
 ko : KeepsOthers w w'
theorem LaterE.refl (ne : Nat) (g : Gh) (w : World) : LaterE ne g w g w := ⟨fun _ _ h => h, fun _ _ _ h => h, rfl, fun _ _ _ => rfl, fun _ _ => rfl, KeepsOthers.refl w⟩
theorem LaterE.trans {ne : Nat} {g1 g2 g3 : Gh} {w1 w2 w3 : World} (h : LaterE ne g1 w1 g2 w2) (k : LaterE ne g2 w2 g3 w3) : LaterE ne g1 w1 g3 w3 :=
 ⟨fun b p hp => k.L b p (h.L b p hp), fun b p hb hp => h.nz b p hb (k.nz b p hb hp), k.fv.trans h.fv, fun b p hp => (k.st b p (h.L b p hp)).trans (h.st b p hp), fun i hi => (k.loc i hi).trans (h.loc i hi), h.ko.trans k.ko⟩
theorem Fr.later {g' : Gh} {w' : World} (hF : Fr P E M0 w0 g σ a w) (hne : E.ne ≤ σ.heap.length) (h : Later g w g' w') : LaterE E.ne g w g' w' :=
 ⟨h.ext.L, h.ext.nz, h.ext.fv, h.st, fun i hi => h.ext.loc i (ObR.loc (hF.inv.ob i _ (List.getElem?_eq_getElem (by omega)))), h.ko⟩
theorem lk_zip : ∀ (ts : List Nat) (vs : List TV) (t : Nat) (v : TV), lk (ts.zip vs) t = some v → ∃ j : Nat, ts[j]? = some t ∧ vs[j]? = some v
 | [], vs, t, v, h => by simp [lk] at h
 | s :: ts, [], t, v, h => by simp [lk] at h
 | s :: ts, x :: vs, t, v, h => by
  simp only [List.zip_cons_cons, lk] at h
  split at h
  ·rename_i e; subst e; cases h; exact ⟨0, rfl, rfl⟩
  ·obtain ⟨j, h1, h2⟩ := lk_zip ts vs t v h
   exact ⟨j + 1, by simpa using h1, by simpa using h2⟩
theorem norm_ok {keep : List Nat} {kp : Kp} (h : norm E keep σ = some kp) (hF : Fr P E M0 w0 g σ a w) (hne : E.ne ≤ σ.heap.length) : ∃ g', Fr P E M0 w0 g' (kp.st keep) a w ∧ LaterE E.ne g w g' w ∧ E.ne ≤ kp.heap.length := by
 unfold norm at h
 split at h
 ·simp at h
 ·rename_i hk
  have hk' : ∀ t ∈ keep, t < E.nt := by simpa using hk
  obtain ⟨h1, h1l, h2⟩ := rnTs_ok (g := g) (w := w) (keepV σ.tmps keep) (List.range E.ne)
  dsimp only at h
  cases hr : rnH σ.heap (σ.heap.length + 1) 0 (rnTs (List.range E.ne) (keepV σ.tmps keep)).2 with
  | none => rw [hr] at h; simp at h
  | some om =>
   obtain ⟨os, mp⟩ := om
   rw [hr] at h
   cases h
   obtain ⟨h3, h4, h5⟩ := rnH_ok (g := g) (w := w) _ _ _ _ _ hr (Nat.zero_le _)
   have hG := h1.trans h3
   have hnd : mp.Nodup := hG.nd List.nodup_range
   have hpre := hG.pre
   simp only [Nat.zero_add] at h4 h5
   refine ⟨gmp g mp, ⟨⟨?_, ?_, ?_, ?_, ?_, hF.inv.lt, hF.inv.l0, hF.inv.keep, hF.inv.tz⟩, ?_, ?_, hF.nt, hF.df⟩, ⟨fun _ _ h => h, fun _ _ _ h => h, rfl, fun _ _ _ => rfl, fun i hi => ?_, KeepsOthers.refl w⟩, ?_⟩
   ·intro i o ho
    obtain ⟨id, o', h6, h7, h8, _⟩ := h5 i o ho
    exact h8 (hF.inv.ob id o' h7)
   ·intro i j o o' p hij hi hj hm hm'
    obtain ⟨id, o1, h6, h7, _, h9⟩ := h5 i o hi
    obtain ⟨id', o2, h6', h7', _, h9'⟩ := h5 j o' hj
    have hne' : id ≠ id' := by
     rintro rfl
     exact hij ((List.getElem?_inj (by
      rcases Nat.lt_or_ge i mp.length with h | h
      ·exact h
      ·rw [List.getElem?_eq_none h] at h6; simp at h6) hnd).1 (h6.trans h6'.symm))
    exact hF.inv.dj id id' o1 o2 p hne' h7 h7' ((h9 p).1 hm) ((h9' p).1 hm')
   ·intro i o p b hi hm
    obtain ⟨id, o1, h6, h7, _, h9⟩ := h5 i o hi
    exact hF.inv.st id o1 p b h7 ((h9 p).1 hm)
   ·intro i o p hi hm
    obtain ⟨id, o1, h6, h7, _, h9⟩ := h5 i o hi
    exact hF.inv.al id o1 p h7 ((h9 p).1 hm)
   ·intro i hi
    have : mp[i]? = none := by
     have hi' : os[i]? = none := hi
     rw [List.getElem?_eq_none_iff] at hi' ⊢
     omega
    show (match mp[i]? with | some id => g.loc id | none => .none) = _
    rw [this]
   ·exact ⟨hF.fv.tab, fun j gf hj => hF.fv.fn j gf hj⟩
   ·intro t v hv
    obtain ⟨j, hj1, hj2⟩ := lk_zip _ _ _ _ hv
    have hkv : (keepV σ.tmps keep)[j]? = some (match lk σ.tmps t with | some v => v | none => .v (.one .undef)) := by
     simp only [keepV, List.getElem?_map, hj1, Option.map_some]
     rfl
    obtain ⟨y, hy1, hy2⟩ := h2 mp h3.pre j _ hkv
    rw [hj2] at hy1; cases hy1
    have htn : t < a.tmps.size := Nat.lt_of_lt_of_le (hk' t (List.mem_of_getElem? hj1)) hF.nt
    cases hl : lk σ.tmps t with
    | none =>
     rw [hl] at hy2
     exact ⟨a.tmps[t], Array.getElem?_eq_getElem htn, hy2 _ trivial⟩
    | some x =>
     rw [hl] at hy2
     obtain ⟨u, h6, h7⟩ := hF.tm t x hl
     exact ⟨u, h6, hy2 u h7⟩
   ·have : mp[i]? = some i := prefix_get hpre (by simp [hi])
    show (match mp[i]? with | some id => g.loc id | none => .none) = _
    rw [this]
   ·have := hpre.length_le
    simp at this
    simp only
    omega
end Go.Proofs.YtdhifkdijlghdaaGreatDoorA
