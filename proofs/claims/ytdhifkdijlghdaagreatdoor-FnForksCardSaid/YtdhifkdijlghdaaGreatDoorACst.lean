/-
  Shapes made alike. No condition.
-/
import Derived.Test.YtdhifkdijlghdaaGreatDoorACode1
namespace Go.Proofs.YtdhifkdijlghdaaGreatDoorA
open Go
set_option linter.unusedVariables false
set_option linter.unusedSimpArgs false
variable {P : Program} {E : Env} {M0 : Addr → Prop} {w0 w : World} {g : Gh} {σ : St} {a : Act} {h : List Ob}
theorem set_fun {h : List Ob} {id : Nat} {o o' : Ob} (hid : h[id]? = some o') : (fun i => (h.set id o)[i]?) = fun i => if i = id then some o else h[i]? := by
 have hlt : id < h.length := by
  rcases Nat.lt_or_ge id h.length with h1 | h1
  ·exact h1
  ·rw [List.getElem?_eq_none h1] at hid; simp at hid
 funext i
 rw [List.getElem?_set]
 by_cases hi : id = i
 ·subst hi; simp [hlt]
 ·rw [if_neg hi, if_neg (fun e => hi e.symm)]
theorem subL_mem {a b : List Nat} (h : subL a b = true) {x : Nat} (hx : x ∈ a) : x ∈ b := by
 simp only [subL, List.all_eq_true, List.contains_eq_mem, decide_eq_true_eq] at h
 exact h x hx
theorem Inv.reshape {H : Nat → Option Ob} {id : Nat} {o o' : Ob} (hI : Inv M0 w0 g H w) (hid : H id = some o) (ho : ObR g w id o') (hm : ∀ p, MR g id o' p → MR g id o p) : Inv M0 w0 g (fun i => if i = id then some o' else H i) w := by
 have key : ∀ i x p, (if i = id then some o' else H i) = some x → MR g i x p → ∃ y, H i = some y ∧ MR g i y p := by
  intro i x p hi hx
  split at hi
  ·rename_i e; subst e
   cases hi
   exact ⟨o, hid, hm p hx⟩
  ·exact ⟨x, hi, hx⟩
 refine ⟨fun i x hi => ?_, fun i j x y p hij hi hj h1 h2 => ?_, fun i x p b hi h1 => ?_, fun i x p hi h1 => ?_, fun i hi => ?_, hI.lt, hI.l0, hI.keep, hI.tz⟩
 ·split at hi
  ·rename_i e; subst e
   cases hi
   exact ho
  ·exact hI.ob i x hi
 ·obtain ⟨x', h3, h4⟩ := key i x p hi h1
  obtain ⟨y', h5, h6⟩ := key j y p hj h2
  exact hI.dj i j x' y' p hij h3 h5 h4 h6
 ·obtain ⟨x', h3, h4⟩ := key i x p hi h1
  exact hI.st i x' p b h3 h4
 ·obtain ⟨x', h3, h4⟩ := key i x p hi h1
  exact hI.al i x' p h3 h4
 ·split at hi
  ·simp at hi
  ·exact hI.no i hi
theorem castC_ok (hI : Inv M0 w0 g (fun i => h[i]?) w) {c : Cast} {x x' : C} {h' : List Ob} (hc : castC c h x = some (x', h')) {v : Value} (hv : CR g w x v) :
  ∃ g', Inv M0 w0 g' (fun i => h'[i]?) w ∧ Ext g g' ∧ CR g' w x' v ∧ ∀ (id : Nat) (cs : List C), h[id]? = some (Ob.box cs) → h'[id]? = some (Ob.box cs) := by
 unfold castC at hc
 split at hc
 ·rename_i k
  simp only [Option.some.injEq, Prod.mk.injEq] at hc
  obtain ⟨rfl, rfl⟩ := hc
  obtain ⟨A, rfl⟩ := hv
  have hno : g.loc h.length = .none := hI.no _ (List.getElem?_eq_none (Nat.le_refl _))
  obtain ⟨g', h1, h2, h3, h4, _⟩ := Good.new (l := .arr A 0 0) (x := one1 (.slo h.length)) (v := .slice A 0 0) (o := .arr k [] [] true) hI (nid := h.length) (List.getElem?_eq_none (Nat.le_refl _)) (Keeps.refl _ _) (by simp)
   ⟨A, 0, 0, [], if_pos rfl, rfl, Nat.le_refl _, rfl, .inl rfl⟩ (fun p ⟨a, n, c, j, e, _, hj, _⟩ => by simp at e; obtain ⟨_, rfl, rfl⟩ := e; simp at hj) ⟨A, 0, 0, if_pos rfl, rfl⟩
  refine ⟨g', ?_, h2, h4, fun id cs hid => ?_⟩
  ·have := apH_heap (h := h) (e := ⟨one1 (.slo h.length), [], [.arr k [] [] true]⟩) (fun x hx => by simp at hx)
   rw [this] at h1
   exact h1
  ·rw [List.getElem?_append_left]
   ·exact hid
   ·rcases Nat.lt_or_ge id h.length with h | h
    ·exact h
    ·rw [List.getElem?_eq_none h] at hid; simp at hid
 ·rename_i m k
  simp only [Option.some.injEq, Prod.mk.injEq] at hc
  obtain ⟨rfl, rfl⟩ := hc
  obtain ⟨A, rfl⟩ := hv
  exact ⟨g, hI, Ext.refl g, ⟨A, 0, 0, [], rfl, rfl, Nat.le_refl _, rfl, .inl rfl⟩, fun id cs h => h⟩
 ·split at hc
  ·rename_i hs
   simp only [Option.some.injEq, Prod.mk.injEq] at hc
   obtain ⟨rfl, rfl⟩ := hc
   exact ⟨g, hI, Ext.refl g, ER.mono (fun p ⟨b, hb, hl⟩ => ⟨b, subL_mem hs hb, hl⟩) (fun _ _ => rfl) _ _ _ hv, fun id cs h => h⟩
  ·simp at hc
 ·rename_i id
  split at hc
  ·rename_i k xs m' b hid
   obtain ⟨A, n, cp, us, e, hx, hnc, hu, hcell⟩ := hI.ob _ _ hid
   split at hc
   ·simp only [Option.some.injEq, Prod.mk.injEq] at hc
    obtain ⟨rfl, rfl⟩ := hc
    exact ⟨g, hI, Ext.refl g, hv, fun id cs h => h⟩
   ·split at hc
    ·rename_i m _ hs
     simp only [Option.some.injEq, Prod.mk.injEq] at hc
     obtain ⟨rfl, rfl⟩ := hc
     obtain ⟨g', hi', hE, hloc, hL⟩ := Good.freeze hI hid
     refine ⟨g', by rw [set_fun hid]; exact hi', hE, ?_, fun id' cs h => ?_⟩
     ·obtain ⟨A', n', c', e', rfl⟩ := hv
      rw [e] at e'; cases e'
      refine ⟨A, n, cp, us, rfl, hx, hnc, Rows2.mono (ER.mono (fun p ⟨b, hb, hl⟩ => ⟨b, subL_mem hs (List.mem_cons_of_mem _ hb), hE.L _ _ hl⟩) (fun _ _ => rfl) k) hu, ?_⟩
      have hul := Rows2.len (ER.len k) hu
      rcases hcell with h0 | ⟨a, ha, hsp, h5, _⟩
      ·left
       have hx0 : xs.length = 0 := by omega
       rw [hx0] at hul
       exact List.eq_nil_of_length_eq_zero (by simpa using hul)
      ·refine .inr ⟨a, ha, hsp, fun j u hj => ⟨h5 j u hj, 0, subL_mem hs (by simp), hL a n cp j (by rw [e, ha]) ?_⟩⟩
       rw [← hul]
       rcases Nat.lt_or_ge j us.length with h | h
       ·exact h
       ·rw [List.getElem?_eq_none h] at hj; simp at hj
     ·rw [List.getElem?_set_ne (by rintro rfl; rw [hid] at h; simp at h)]; exact h
    ·simp at hc
   ·split at hc
    ·rename_i m hs
     simp only [Option.some.injEq, Prod.mk.injEq] at hc
     obtain ⟨rfl, rfl⟩ := hc
     refine ⟨g, ?_, Ext.refl g, hv, fun id' cs h => ?_⟩
     ·rw [set_fun hid]
      exact hI.reshape hid ⟨A, n, cp, us, e, hx, hnc, Rows2.mono (fun x y hxy => ER.nm (ER.mono (fun p ⟨b, hb, hl⟩ => ⟨b, subL_mem hs hb, hl⟩) (fun _ _ => rfl) k x y hxy)) hu, hcell⟩ fun p hp => hp
     ·rw [List.getElem?_set_ne (by rintro rfl; rw [hid] at h; simp at h)]; exact h
    ·simp at hc
   ·split at hc
    ·rename_i m hs
     simp only [Option.some.injEq, Prod.mk.injEq] at hc
     obtain ⟨rfl, rfl⟩ := hc
     obtain ⟨g', hi', hE, hloc, hL⟩ := Good.freeze hI hid
     have hid2 : (fun i => if i = id then some (Ob.arr k xs m' false) else h[i]?) id = some (Ob.arr k xs m' false) := if_pos rfl
     obtain ⟨A2, n2, cp2, us2, e2, hx2, hnc2, hu2, hcell2⟩ := hi'.ob _ _ hid2
     refine ⟨g', ?_, hE, ?_, fun id' cs h => ?_⟩
     ·rw [set_fun hid]
      have hr := hi'.reshape hid2 (o' := .arr k xs (nm k m) false) ⟨A2, n2, cp2, us2, e2, hx2, hnc2, Rows2.mono (fun x y hxy => ER.nm (ER.mono (fun p ⟨b, hb, hl⟩ => ⟨b, subL_mem hs hb, hl⟩) (fun _ _ => rfl) k x y hxy)) hu2, hcell2⟩ fun p hp => hp
      have hf : (fun i => if i = id then some (Ob.arr k xs (nm k m) false) else (fun i => if i = id then some (Ob.arr k xs m' false) else h[i]?) i) = fun i => if i = id then some (Ob.arr k xs (nm k m) false) else h[i]? := by
       funext i
       by_cases hi : i = id
       ·rw [if_pos hi, if_pos hi]
       ·rw [if_neg hi, if_neg hi]; exact if_neg hi
      rw [hf] at hr
      exact hr
     ·obtain ⟨A', n', c', e', rfl⟩ := hv
      exact ⟨A', n', c', by rw [hloc]; exact e', rfl⟩
     ·rw [List.getElem?_set_ne (by rintro rfl; rw [hid] at h; simp at h)]; exact h
    ·simp at hc
  ·simp at hc
 ·simp at hc
theorem F2.set {α β : Type} {R : α → β → Prop} : ∀ {as : List α} {bs : List β} (j : Nat) {x : α} {b : β}, F2 R as bs → bs[j]? = some b → R x b → F2 R (as.set j x) bs
 | a :: as, b' :: bs, 0, x, b, h, hj, hx => by
  simp at hj; subst hj
  exact ⟨hx, h.2⟩
 | a :: as, b' :: bs, j + 1, x, b, h, hj, hx => ⟨h.1, F2.set j h.2 (by simpa using hj) hx⟩
 | [], [], j, x, b, h, hj, hx => trivial
 | [], _ :: _, j, x, b, h, hj, hx => h.elim
 | _ :: _, [], j, x, b, h, hj, hx => h.elim
theorem castV_ok (hI : Inv M0 w0 g (fun i => h[i]?) w) {c : Cast} {j : Nat} {x x' : V1} {h' : List Ob} (hc : castV c j h x = some (x', h')) {v : Value} (hv : V1R g w x v) :
  ∃ g', Inv M0 w0 g' (fun i => h'[i]?) w ∧ Ext g g' ∧ V1R g' w x' v := by
 cases x with
 | one y =>
  obtain ⟨⟨y', h2⟩, h1, h3⟩ := Option.map_eq_some_iff.1 hc
  simp only [Prod.mk.injEq] at h3
  obtain ⟨rfl, rfl⟩ := h3
  obtain ⟨g', a1, a2, a3, _⟩ := castC_ok hI h1 hv
  exact ⟨g', a1, a2, a3⟩
 | agg cs =>
  simp only [castV] at hc
  cases hj : cs[j]? with
  | none => rw [hj] at hc; simp at hc
  | some y =>
   rw [hj] at hc
   obtain ⟨⟨y', h2⟩, h1, h3⟩ := Option.map_eq_some_iff.1 hc
   simp only [Prod.mk.injEq] at h3
   obtain ⟨rfl, rfl⟩ := h3
   obtain ⟨us, rfl, hu⟩ := hv
   obtain ⟨u, hu1, hu2⟩ := F2.get hu j y hj
   obtain ⟨g', a1, a2, a3, _⟩ := castC_ok hI h1 hu2
   exact ⟨g', a1, a2, us, rfl, F2.set j (F2.mono (CR.ext a2 fun _ _ _ => rfl) hu) hu1 a3⟩
 | vec n k xs => simp [castV] at hc
 | pbx => simp [castV] at hc
theorem castAt_ok {c : CastAt} {σ' : St} (hc : castAt c σ = some σ') (hF : Fr P E M0 w0 g σ a w) : ∃ g', Fr P E M0 w0 g' σ' a w ∧ Later g w g' w := by
 unfold castAt at hc
 split at hc
 ·rename_i v hv
  obtain ⟨u, hu1, hu2⟩ := hF.tm _ _ hv
  split at hc
  ·split at hc
   ·rename_i id off
    split at hc
    ·rename_i cs hid
     split at hc
     ·rename_i x hx
      obtain ⟨⟨x', h2⟩, h1, h3⟩ := Option.map_eq_some_iff.1 hc
      subst h3
      obtain ⟨ad, us, e, hus, hcell⟩ := hF.inv.ob id _ hid
      obtain ⟨y, hy1, hy2⟩ := F2.get hus _ x hx
      obtain ⟨g', a1, a2, a3, a4⟩ := castC_ok hF.inv h1 hy2
      have hid2 := a4 id cs hid
      have hL : Later g w g' w := ⟨a2, fun _ _ _ => rfl, KeepsOthers.refl w⟩
      have e' : g'.loc id = .box ad := by rw [a2.loc id (by rw [e]; simp), e]
      refine ⟨g', ⟨?_, hF.fv.mono a2 (fun _ _ _ => rfl) (Nat.le_refl _), hF.tm.ext a2 (fun _ _ _ => rfl), hF.nt, hF.df⟩, hL⟩
      show Inv M0 w0 g' (fun i => (h2.set id _)[i]?) w
      rw [set_fun hid2]
      exact a1.reshape hid2 ⟨ad, us, e', F2.set _ (F2.mono (CR.ext a2 fun _ _ _ => rfl) hus) hy1 a3, hcell⟩ fun p ⟨ad', j, e2, hj, hp⟩ => ⟨ad', j, e2, by simpa using hj, hp⟩
     ·simp at hc
    ·simp at hc
   ·simp at hc
  ·obtain ⟨⟨x', h2⟩, h1, h3⟩ := Option.map_eq_some_iff.1 hc
   subst h3
   obtain ⟨g', a1, a2, a3⟩ := castV_ok hF.inv h1 hu2
   refine ⟨g', ⟨a1, hF.fv.mono a2 (fun _ _ _ => rfl) (Nat.le_refl _), fun t y hy => ?_, hF.nt, hF.df⟩, ⟨a2, fun _ _ _ => rfl, KeepsOthers.refl w⟩⟩
   rw [lk_putT] at hy
   split at hy
   ·rename_i e; subst e; cases hy
    exact ⟨u, hu1, a3⟩
   ·exact hF.tm.ext a2 (fun _ _ _ => rfl) t y hy
 ·simp at hc
theorem castX_ok : ∀ {cs : List CastAt} {σ σ' : St} {g : Gh}, castX cs σ = some σ' → Fr P E M0 w0 g σ a w → ∃ g', Fr P E M0 w0 g' σ' a w ∧ Later g w g' w
 | [], σ, σ', g, hc, hF => by
  simp only [castX, Option.some.injEq] at hc
  subst hc
  exact ⟨g, hF, Later.refl _ _⟩
 | c :: cs, σ, σ', g, hc, hF => by
  simp only [castX] at hc
  cases h1 : castAt c σ with
  | none => rw [h1] at hc; simp at hc
  | some σ1 =>
   rw [h1] at hc
   obtain ⟨g1, hF1, hL1⟩ := castAt_ok h1 hF
   obtain ⟨g2, hF2, hL2⟩ := castX_ok hc hF1
   exact ⟨g2, hF2, hL1.trans hL2⟩
theorem frzX_ok : ∀ {ts : List Nat} {σ σ' : St} {g : Gh}, frzX σ ts = some σ' → Fr P E M0 w0 g σ a w → ∃ g', Fr P E M0 w0 g' σ' a w ∧ Later g w g' w
 | [], σ, σ', g, hc, hF => by
  simp only [frzX, Option.some.injEq] at hc
  subst hc
  exact ⟨g, hF, Later.refl _ _⟩
 | t :: ts, σ, σ', g, hc, hF => by
  simp only [frzX] at hc
  cases h1 : castX (frzT σ t) σ with
  | none => rw [h1] at hc; simp at hc
  | some σ1 =>
   rw [h1] at hc
   obtain ⟨g1, hF1, hL1⟩ := castX_ok h1 hF
   obtain ⟨g2, hF2, hL2⟩ := frzX_ok hc hF1
   exact ⟨g2, hF2, hL1.trans hL2⟩
end Go.Proofs.YtdhifkdijlghdaaGreatDoorA
