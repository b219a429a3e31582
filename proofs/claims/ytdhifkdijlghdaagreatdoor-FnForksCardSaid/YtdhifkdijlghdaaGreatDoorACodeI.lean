/-
  A call. No condition.
-/
import Derived.Test.YtdhifkdijlghdaaGreatDoorACodeH
namespace Go.Proofs.YtdhifkdijlghdaaGreatDoorA
open Go
set_option linter.unusedVariables false
set_option linter.unusedSimpArgs false
variable {P : Program} {E : Env} {M0 : Addr → Prop} {w0 w : World} {g gc : Gh} {H : Nat → Option Ob}
theorem trM_mem {ais : List AI} : ∀ {m : List Nat} {b c : Nat}, b ∈ m → ((b = 0 ∧ c = 0) ∨ ∃ (q : Nat) (ai : AI), b = q + 1 ∧ ais[q]? = some ai ∧ ((ai.bor ≠ [] ∧ c = 0) ∨ c ∈ ai.m)) → c ∈ trM ais m := by
 have keep : ∀ (m : List Nat) (acc : List Nat) (c : Nat), c ∈ acc → c ∈ m.foldl (fun acc b => match b with
   | 0 => un acc [0]
   | i + 1 => match ais[i]? with
    | some ai => un acc (un (if ai.bor.isEmpty then [] else [0]) ai.m)
    | none => acc) acc := by
  intro m
  induction m with
  | nil => intro acc c h; exact h
  | cons b m ih =>
   intro acc c h
   refine ih _ c ?_
   cases b with
   | zero => exact mem_un_l h
   | succ i =>
    dsimp only
    split
    ·exact mem_un_l h
    ·exact h
 intro m b c hb hc
 unfold trM
 have key : ∀ (m : List Nat) (acc : List Nat), b ∈ m → c ∈ m.foldl (fun acc b => match b with
   | 0 => un acc [0]
   | i + 1 => match ais[i]? with
    | some ai => un acc (un (if ai.bor.isEmpty then [] else [0]) ai.m)
    | none => acc) acc := by
  intro m
  induction m with
  | nil => intro acc h; simp at h
  | cons d m ih =>
   intro acc h
   rcases List.mem_cons.1 h with rfl | h
   ·refine keep m _ c ?_
    rcases hc with ⟨rfl, rfl⟩ | ⟨q, ai, rfl, hq, hc⟩
    ·exact mem_un_r (by simp)
    ·dsimp only
     rw [hq]
     dsimp only
     refine mem_un_r ?_
     rcases hc with ⟨hne, rfl⟩ | hc
     ·refine mem_un_l ?_
      rw [if_neg (by simpa using hne)]
      simp
     ·exact mem_un_r hc
   ·exact ih _ h
 exact key m [] hb
theorem freezes_mem {used : List Nat} {x : Nat × Ob} : ∀ {ais : List AI} {i : Nat}, x ∈ freezes used i ais ↔ ∃ (q : Nat) (ai : AI), ais[q]? = some ai ∧ (i + q + 1) ∈ used ∧ x ∈ ai.bor
 | [], i => by simp [freezes]
 | a :: ais, i => by
  simp only [freezes, List.mem_append]
  constructor
  ·rintro (h | h)
   ·split at h
    ·rename_i hu
     exact ⟨0, a, rfl, by simpa using hu, h⟩
    ·simp at h
   ·obtain ⟨q, ai, h1, h2, h3⟩ := freezes_mem.1 h
    exact ⟨q + 1, ai, by simpa using h1, by rwa [show i + (q + 1) + 1 = i + 1 + q + 1 by omega], h3⟩
  ·rintro ⟨q, ai, h1, h2, h3⟩
   cases q with
   | zero =>
    simp at h1; subst h1
    left
    rw [if_pos (by simpa using h2)]
    exact h3
   | succ q => exact .inr (freezes_mem.2 ⟨q, ai, by simpa using h1, by rwa [show i + 1 + q + 1 = i + (q + 1) + 1 by omega], h3⟩)
theorem lkU_some : ∀ {u : List (Nat × Ob)} {i : Nat} {d : Option Ob} {o : Ob}, lkU u i d = some o → (i, o) ∈ u ∨ (d = some o ∧ ∀ x ∈ u, x.1 ≠ i)
 | [], i, d, o, h => .inr ⟨h, fun x hx => by simp at hx⟩
 | (j, o') :: r, i, d, o, h => by
  simp only [lkU] at h
  rcases lkU_some h with h | ⟨h1, h2⟩
  ·exact .inl (List.mem_cons_of_mem _ h)
  ·split at h1
   ·rename_i hj
    subst hj
    cases h1
    exact .inl (List.mem_cons_self ..)
   ·rename_i hj
    exact .inr ⟨h1, fun x hx => by
     rcases List.mem_cons.1 hx with rfl | hx
     ·exact hj
     ·exact h2 x hx⟩
theorem lkU_isNone : ∀ {u : List (Nat × Ob)} {i : Nat} {d : Option Ob}, lkU u i d = none → d = none
 | [], i, d, h => h
 | (j, o') :: r, i, d, h => by
  have := lkU_isNone (u := r) h
  split at this
  ·simp at this
  ·exact this
theorem call_ok (hE : EOk P E) (hI : Inv M0 w0 g H w) (hfv : FvOk P g w E.gv) {f : Nat} {fi : FI} (hfi : E.fi f = some fi) {xs : List TV} {args : List Arg} {ais : List AI} {l : List Nat} (h : exArgs E fi.ps xs H = some ((args, ais), l)) (hap : apart ais = true)
  {us : List Value} (hu : F2 (TVR g w) xs us) {x : fi.A} (hx : fi.sem args = some x) {nid : Nat} {e : Eff} (hp : postC ais nid (fi.out x) = some e) (hn : ∀ i, nid ≤ i → i < nid + e.news.length → H i = none) :
  Calls P f us.toArray w fun en w' => ∃ v, en = .returned v ∧ Good M0 w0 g H w nid e v w' ∧ w.heap.size ≤ w'.heap.size := by
 obtain ⟨tvs, n, x0, gs, ls, og, fvs, hA⟩ := exArgs_ok hE hI hfv h hu 0 0 0
 simp only [apart, Bool.and_eq_true, decide_eq_true_eq, List.all_eq_true, Bool.not_eq_true', List.contains_eq_mem, decide_eq_false_iff_not] at hap
 obtain ⟨⟨h4096, hnd⟩, hrd⟩ := hap
 have hborB : ∀ ai ∈ ais, ∀ y ∈ ai.bor, y.1 ∉ ais.flatMap AI.busy := fun ai hai y hy => hrd y.1 (List.mem_flatMap.2 ⟨ai, hai, List.mem_append.2 (.inl (List.mem_map.2 ⟨y, hy, rfl⟩))⟩)
 have hrdB : ∀ ai ∈ ais, ∀ y ∈ ai.rd, y ∉ ais.flatMap AI.busy := fun ai hai y hy => hrd y (List.mem_flatMap.2 ⟨ai, hai, List.mem_append.2 (.inr hy)⟩)
 let gx : Gh := ⟨fun _ => .none, Lc g H ais, fun j => (fvs[j]?).getD undef⟩
 let B : List Nat := ais.flatMap AI.busy
 let MB : Addr → Prop := fun p => ∃ i o, i ∈ B ∧ H i = some o ∧ MR g i o p
 have hLst : ∀ b p, Lc g H ais b p → (∃ b', g.L b' p) ∨ ∃ i o, i ∉ B ∧ H i = some o ∧ MR g i o p := by
  rintro b p (⟨q, ai, hq, ⟨_, ⟨b', _, hl⟩ | ⟨y, hy, hv⟩⟩ | ⟨_, id, hid, hc⟩⟩ | ⟨_, hb⟩)
  ·exact .inl ⟨b', hl⟩
  ·obtain ⟨k, ys, m, b, h1, h2⟩ := hA.bor ai (List.mem_of_getElem? hq) y hy
   rcases Vis.in hI h1 h2 hv with ⟨rfl, hm⟩ | ⟨_, hl⟩
   ·exact .inr ⟨y.1, _, hborB ai (List.mem_of_getElem? hq) y hy, h1, hm⟩
   ·exact .inl ⟨0, hl⟩
  ·rcases Cel.in hI hc with ⟨cs, h1, hm⟩ | hb
   ·exact .inr ⟨id, _, hrdB ai (List.mem_of_getElem? hq) id hid, h1, hm⟩
   ·exact .inl hb
  ·exact .inl hb
 have hLMB : ∀ b p, Lc g H ais b p → ∀ i o, i ∈ B → H i = some o → ¬ MR g i o p := by
  intro b p hl i o hi ho hm
  rcases hLst b p hl with ⟨b', hb⟩ | ⟨i', o', hi', ho', hm'⟩
  ·exact hI.st i o p b' ho hm hb
  ·exact hI.dj i i' o o' p (fun e => hi' (e ▸ hi)) ho ho' hm hm'
 have hLlt : ∀ b p, Lc g H ais b p → p.block < w.heap.size ∧ p.spot = none := by
  intro b p hl
  rcases hLst b p hl with ⟨b', hb⟩ | ⟨i', o', hi', ho', hm'⟩
  ·exact hI.lt b' p hb
  ·exact ⟨MR.lt (hI.ob i' o' ho') hm', by rw [MR.spot hm']⟩
 have hcd : CdAll g H 0 ais (gls gx ls) := Lc.cd rfl
 have hl0 : ∀ p, ¬ Lc g H ais 0 p := by
  rintro p (⟨q, ai, hq, ⟨h, _⟩ | ⟨h, _⟩⟩ | ⟨h, _⟩) <;> omega
 have hInv : Inv MB w (gls gx ls) (fun i => n[i]?) w := hA.pc.inv (M0' := MB) (w0' := w) (gx := gx) hI (by rw [hA.fo]; exact hnd) hcd
  (fun b p hl i o hi ho => hLMB b p hl i o (by rw [show B = og.filterMap id from hA.fo.symm]; exact List.mem_filterMap.2 ⟨some i, hi, rfl⟩) ho)
  (fun i o p hi ho hm => .inl ⟨i, o, by rw [show B = og.filterMap id from hA.fo.symm]; exact List.mem_filterMap.2 ⟨some i, hi, rfl⟩, ho, hm⟩) hLlt (fun p hp => (hl0 p hp).elim) (Keeps.refl _ _)
 have hloc : ∀ (q : Nat) L, ls[q]? = some L → (gls gx ls).loc (0 + q) = L := fun q L hL => gls_loc q L hL
 have hT := hA.tv (gls gx ls) hcd hloc (fun q v hq => by show (fvs[0 + q]?).getD undef = v; rw [Nat.zero_add, hq]; rfl)
 have hFv : FvOk P (gls gx ls) w gs := by
  refine ⟨hfv.tab.mono (fun p ⟨b, hb⟩ => ⟨8193, .inr ⟨rfl, b, hb⟩⟩) (fun _ _ => rfl), ?_⟩
  intro j gf hj
  have hlt : j < fvs.length := by
   rw [hA.lf]
   rcases Nat.lt_or_ge j gs.length with h | h
   ·exact h
   ·rw [List.getElem?_eq_none h] at hj; simp at hj
  have := hA.fn (gls gx ls) hcd (fun b p hb => ⟨8193, .inr ⟨rfl, b, hb⟩⟩) hLlt j gf fvs[j] hj (List.getElem?_eq_getElem hlt)
  rwa [show fvs[j] = (gls gx ls).fv j by show _ = (fvs[j]?).getD undef; rw [List.getElem?_eq_getElem hlt]; rfl] at this
 refine ((hE.fi f fi hfi).2 args x hx _ _ _ _ hA.en w (gls gx ls) MB us hInv (fun p => hl0 p) hFv hT).mono ?_
 rintro en w' ⟨rv, vs, h2, ps, g2, rfl, hcan, hI2, hv2, hps, hnz, hst⟩
 refine ⟨rv, rfl, ?_, hI2.keep.size⟩
 unfold canon at hcan
 unfold postC at hp
 simp only at hp
 split at hp
 ·simp at hp
 ·rename_i hmask
  have hmask' : ∀ b ∈ (fi.out x).masks, b ≤ ais.length := by simpa using hmask
  cases hv1 : imVs id 0 (fi.out x).vals with
  | none => rw [hv1] at hcan; simp at hcan
  | some y =>
   obtain ⟨vs1, n1⟩ := y
   rw [hv1] at hcan
   dsimp only at hcan
   cases hb1 : backX x0 (fi.out x).ios n1.length with
   | none => rw [hb1] at hcan; simp at hcan
   | some y =>
    obtain ⟨ps1, n2⟩ := y
    rw [hb1] at hcan
    simp only [Option.some.injEq, Prod.mk.injEq] at hcan
    obtain ⟨rfl, rfl, rfl⟩ := hcan
    obtain ⟨vs', n1', e1, e2, e3, e4⟩ := imVs_tr (tr := trM ais) (g2 := g2) (w := w') (ms := (fi.out x).masks) hv1 (fun b hb => List.mem_append.2 (.inl hb)) nid
    rw [e1] at hp
    dsimp only at hp
    cases hbk : backs (trM ais) (nid + n1'.length) ais (fi.out x).ios with
    | none => rw [hbk] at hp; simp at hp
    | some y =>
     obtain ⟨u, n2'⟩ := y
     rw [hbk] at hp
     simp only [Option.some.injEq] at hp
     subst hp
     obtain ⟨org2, nls2, hB2⟩ := backs_ok (g := g) (gc := gls gx ls) (w := w') (g2 := g2) (ms := (fi.out x).masks) hb1 hbk (hA.xr _ hloc) (fun b hb => List.mem_append.2 (.inr hb)) hps
     have hB1 := BackOk.news (tr := trM ais) (ms := (fi.out x).masks) (g2 := g2) (w := w') (g := g) (nc := 0) (nid := nid) e2 (fun g' hb hl => (e4 g' hb hl).2)
     have hB := hB1.app (by rw [Nat.zero_add]; exact hB2)
     rw [List.nil_append, List.nil_append] at hB
     generalize horg : (List.range n1.length).map (nid + ·) ++ org2 = org at hB
     generalize hnls : ((List.range n1.length).map fun q => g2.loc (0 + q)) ++ nls2 = nls at hB
     let frz := freezes (fi.out x).masks 0 ais
     have hfrz : ∀ y ∈ frz, ∃ k ys m b, H y.1 = some (.arr k ys m b) ∧ y.2 = .arr k ys m false ∧ y.1 ∉ B := by
      intro y hy
      obtain ⟨q, ai, h1, _, h3⟩ := freezes_mem.1 hy
      obtain ⟨k, ys, m, b, h4, h5⟩ := hA.bor ai (List.mem_of_getElem? h1) y h3
      exact ⟨k, ys, m, b, h4, h5, hborB ai (List.mem_of_getElem? h1) y h3⟩
     have hnew : ∀ i, (nid ≤ i ∧ i < nid + (n1' ++ n2').length) → H i = none := fun i hi => hn i hi.1 hi.2
     let Fz : Addr → Prop := fun p => ∃ y ∈ frz, (∃ k ys m, H y.1 = some (.arr k ys m true)) ∧ Vis g y p
     let g' : Gh := ⟨fun i => if nid ≤ i ∧ i < nid + (n1' ++ n2').length then (nls[i - nid]?).getD .none else g.loc i, fun b p => if b = 0 then g.L 0 p ∨ g2.L 0 p ∨ Fz p else g.L b p, g.fv⟩
     have hgloc : ∀ i o, H i = some o → g'.loc i = g.loc i := fun i o ho => if_neg fun hi => by rw [hnew i hi] at ho; simp at ho
     have hgL0 : ∀ p, g'.L 0 p ↔ (g.L 0 p ∨ g2.L 0 p ∨ Fz p) := fun p => by show (if (0 : Nat) = 0 then (g.L 0 p ∨ g2.L 0 p ∨ Fz p) else g.L 0 p) ↔ _; rw [if_pos rfl]
     have hgL : ∀ b p, b ≠ 0 → (g'.L b p ↔ g.L b p) := fun b p hb => by show (if b = 0 then (g.L 0 p ∨ g2.L 0 p ∨ Fz p) else g.L b p) ↔ _; rw [if_neg hb]
     have hgl : ∀ b p, g.L b p → g'.L b p := fun b p hl => by
      by_cases hb : b = 0
      ·subst hb; exact (hgL0 p).2 (.inl hl)
      ·exact (hgL b p hb).2 hl
     have hExt : Ext g g' := ⟨fun i hi => if_neg fun hh => hi (hI.no i (hnew i hh)), hgl, rfl, fun b p hb hl => (hgL b p hb).1 hl⟩
     have hBk : Bk (trM ais) (fi.out x).masks g2 g' := by
      refine ⟨fun m hm p ⟨b, hb, hl⟩ => ?_, fun p hl => (hgL0 p).2 (.inr (.inl hl))⟩
      by_cases hb0 : b = 0
      ·subst hb0
       exact ⟨0, trM_mem hb (.inl ⟨rfl, rfl⟩), (hgL0 p).2 (.inr (.inl hl))⟩
      ·have hbl := hmask' b (hm b hb)
       have hL : Lc g H ais b p := hnz b p hb0 hl
       rcases hL with ⟨q, ai, hq, ⟨rfl, ⟨b', hb', hl'⟩ | ⟨y, hy, hv⟩⟩ | ⟨rfl, _⟩⟩ | ⟨rfl, _⟩
       ·exact ⟨b', trM_mem hb (.inr ⟨q, ai, rfl, hq, .inr hb'⟩), hgl b' p hl'⟩
       ·refine ⟨0, trM_mem hb (.inr ⟨q, ai, rfl, hq, .inl ⟨by rintro h; rw [h] at hy; simp at hy, rfl⟩⟩), (hgL0 p).2 ?_⟩
        obtain ⟨k, ys, m', b', h1, h2⟩ := hA.bor ai (List.mem_of_getElem? hq) y hy
        rcases Vis.in hI h1 h2 hv with ⟨rfl, _⟩ | ⟨_, h0⟩
        ·exact .inr (.inr ⟨y, freezes_mem.2 ⟨q, ai, hq, by rw [Nat.zero_add]; exact hm _ hb, hy⟩, ⟨k, ys, m', h1⟩, hv⟩)
        ·exact .inl h0
       ·omega
       ·omega
     have hLo : LocsO g2 g' 0 org := by
      intro q i hq
      rcases hB.loc q i hq with ⟨h1, h2⟩ | ⟨q', h1, h2⟩
      ·obtain ⟨o, ho⟩ := Option.isSome_iff_exists.1 (hA.hid i h1)
       rw [hgloc i o ho, h2]
      ·subst h1
       have hlt : q' < (n1' ++ n2').length := by
        rw [← hB.l2]
        rcases Nat.lt_or_ge q' nls.length with h | h
        ·exact h
        ·rw [List.getElem?_eq_none h] at h2; simp at h2
       show (if _ then _ else _) = _
       rw [if_pos ⟨by omega, by omega⟩, Nat.add_sub_cancel_left, h2]
       rfl
     let D : Nat → Prop := fun i => i ∈ B ∨ (∃ y ∈ frz, y.1 = i) ∨ (nid ≤ i ∧ i < nid + (n1' ++ n2').length)
     let ef : Eff := ⟨tvOf vs', frz ++ u, n1' ++ n2'⟩
     let Cor : Nat → Ob → Prop := fun i o => (o = .dead ∧ i ∈ B) ∨ (∃ (q : Nat) (oq : Ob), org[q]? = some i ∧ (n1 ++ n2)[q]? = some oq ∧ Mv g2 g' w' (0 + q) i oq o) ∨ (∃ k ys m b, i ∉ B ∧ H i = some (.arr k ys m b) ∧ o = .arr k ys m false ∧ ∃ y ∈ frz, y.1 = i)
     have hcor : ∀ i o, D i → apH H nid ef i = some o → Cor i o := by
      intro i o hD ho
      unfold apH at ho
      split at ho
      ·rename_i hi
       obtain ⟨q, oq, h1, h2, h3⟩ := hB.new _ o ho
       rw [show nid + (i - nid) = i by omega] at h1 h3
       exact .inr (.inl ⟨q, oq, h1, h2, h3 g' hBk hLo⟩)
      ·rename_i hi
       rcases lkU_some ho with h | ⟨_, h⟩
       ·rcases List.mem_append.1 h with h | h
        ·obtain ⟨k, ys, m, b, h1, h2, h3⟩ := hfrz _ h
         exact .inr (.inr ⟨k, ys, m, b, h3, h1, h2, _, h, rfl⟩)
        ·obtain ⟨h1, rfl | ⟨q, oq, h2, h3, h4⟩⟩ := hB.upd i o h
         ·exact .inl ⟨rfl, h1⟩
         ·exact .inr (.inl ⟨q, oq, h2, h3, h4 g' hBk hLo⟩)
       ·exfalso
        rcases hD with hD | ⟨y, hy, rfl⟩ | hD
        ·obtain ⟨o', ho'⟩ := hB.all i hD
         exact h _ (List.mem_append.2 (.inr ho')) rfl
        ·exact h _ (List.mem_append.2 (.inl hy)) rfl
        ·exact hi hD
     have hcan : ∀ (q : Nat) oq p, (n1 ++ n2)[q]? = some oq → MR g2 q oq p → MB p ∨ w.heap.size ≤ p.block := fun q oq p hq hm => hI2.al q oq p hq hm
     have hMBfree : ∀ p, MB p → Free g H w D p := fun p ⟨i, o, hi, ho, hm⟩ => .inl ⟨i, o, .inl hi, ho, hm⟩
     have hfz : ∀ i k ys m b p, H i = some (.arr k ys m b) → MR g' i (.arr k ys m false) p → MR g i (.arr k ys m b) p := by
      rintro i k ys m b p hi ⟨a, n, c, j, e, hj, hj', hpp⟩
      refine ⟨a, n, c, j, by rw [← hgloc i _ hi]; exact e, ?_, hj', hpp⟩
      cases b with
      | true => simp
      | false => exact hj
     have hmbfz : ∀ i o p, i ∉ B → H i = some o → MR g i o p → ¬ (MB p ∨ w.heap.size ≤ p.block) := by
      rintro i o p hi ho hm (⟨i', o', hi', ho', hm'⟩ | hp)
      ·exact hI.dj i i' o o' p (fun e => hi (e ▸ hi')) ho ho' hm hm'
      ·have := MR.lt (hI.ob i o ho) hm
       omega
     have hframe := hI.frame (g' := g') (H' := apH H nid ef) (w' := w') D ?_ ?_ ?_ ?_ ?_ hExt ?_
     ·refine ⟨g', hframe.1, hExt, hframe.2, ?_⟩
      have hLo1 : Locs g2 g' 0 nid n1.length := fun q hq => hLo q (nid + q) (by rw [← horg]; exact getL' (by simp [hq]))
      exact ⟨tvOf_tr e3 (e4 g' hBk hLo1).1 hv2, hI2.keep.others⟩
     ·intro i hD
      show apH H nid ef i = _
      unfold apH
      rw [if_neg (fun hi => hD (.inr (.inr hi)))]
      refine lkU_none _ _ (fun y hy => ?_) _
      rintro rfl
      rcases List.mem_append.1 hy with hy | hy
      ·exact hD (.inr (.inl ⟨y, hy, rfl⟩))
      ·exact hD (.inl (hB.upd y.1 y.2 hy).1)
     ·intro i o hD ho
      rcases hcor i o hD ho with ⟨rfl, hi⟩ | ⟨q, oq, h1, h2, h3⟩ | ⟨k, ys, m, b, h1, h2, rfl, y, hy, rfl⟩
      ·obtain ⟨o', ho'⟩ := Option.isSome_iff_exists.1 (hA.hid i hi)
       exact ⟨by show g'.loc i ≠ _; rw [hgloc i o' ho']; exact ObR.loc (hI.ob i o' ho'), fun p hp => hp.elim⟩
      ·rw [Nat.zero_add] at h3
       refine ⟨h3.1 (hI2.ob q oq h2), fun p hp => ?_⟩
       rcases hcan q oq p h2 (h3.2 p hp) with h | h
       ·exact hMBfree p h
       ·exact .inr h
      ·refine ⟨?_, fun p hp => .inl ⟨y.1, _, .inr (.inl ⟨y, hy, rfl⟩), h2, hfz _ _ _ _ _ p h2 hp⟩⟩
       obtain ⟨A, n', c, us', e', hx', hnc, hus', hcell⟩ := hI.ob _ _ h2
       have hstw : ∀ b p, g.L b p → w'.cell? p = w.cell? p := fun b p hl => hst 8193 p (.inr ⟨rfl, b, hl⟩)
       refine ⟨A, n', c, us', by rw [hgloc _ _ h2]; exact e', hx', hnc, Rows2.mono (ER.mono (fun p ⟨b, hb, hl⟩ => ⟨b, hb, hgl b p hl⟩) (fun p ⟨b, _, hl⟩ => hstw b p hl) k) hus', ?_⟩
       have hvis : ∀ a, A = some a → ∀ j, j < us'.length → Vis g y (pl a j) := fun a ha j hj => by
        obtain ⟨k2, ys2, m2, b2, h4, h5, _⟩ := hfrz y hy
        rw [h2] at h4; cases h4
        exact ⟨a, n', c, k, ys, m, false, j, by rw [e', ha], h5, by rw [← Rows2.len (ER.len k) hus']; exact hj, rfl⟩
       have hvst : ∀ p, Vis g y p → w'.cell? p = w.cell? p := fun p hv => by
        obtain ⟨q, ai, h4, _, h6⟩ := freezes_mem.1 hy
        exact hst (q + 1) p (.inl ⟨q, ai, h4, .inl ⟨rfl, .inr ⟨y, h6, hv⟩⟩⟩)
       rcases hcell with h0 | ⟨a, ha, hsp, h5, h6, h7⟩
       ·exact .inl h0
       ·rcases Nat.eq_zero_or_pos c with h0 | hc0
        ·exact .inl h0
        refine .inr ⟨a, ha, hsp, fun j u hj => ?_, fun j hj => ⟨hI2.keep.some (h6 j hj).1, ?_⟩, fun _ j hj => (hgL0 _).2 ?_, fun hk => hI2.keep.endAt (h6 0 (Nat.mul_pos hc0 (Kd.size_pos k))).1 (h7.2 hk)⟩
        ·have hlt : j < us'.length := by
          rcases Nat.lt_or_ge j us'.length with h | h
          ·exact h
          ·rw [List.getElem?_eq_none h] at hj; simp at hj
         rw [hvst _ (hvis a ha j hlt)]
         exact h5 j u hj
        ·obtain ⟨v, hv⟩ := Option.isSome_iff_exists.1 (h6 j hj).1
         rw [hI2.keep.frozen (World.block_lt_of_cell? w _ hv)]
         exact (h6 j hj).2
        ·obtain ⟨k2, ys2, m2, b2, h4, h5', _⟩ := hfrz y hy
         rcases Vis.in hI h4 h5' (hvis a ha j hj) with ⟨rfl, _⟩ | ⟨_, h8⟩
         ·exact .inr (.inr ⟨y, hy, ⟨k2, ys2, m2, h4⟩, hvis a ha j hj⟩)
         ·exact .inl h8
     ·intro i j o o' p hij hDi hDj ho ho' hm hm'
      rcases hcor i o hDi ho with ⟨rfl, _⟩ | ⟨q, oq, h1, h2, h3⟩ | ⟨k, ys, m, b, h1, h2, rfl, _⟩
      ·exact hm
      ·rw [Nat.zero_add] at h3
       rcases hcor j o' hDj ho' with ⟨rfl, _⟩ | ⟨q', oq', h1', h2', h3'⟩ | ⟨k, ys, m, b, h1', h2', rfl, _⟩
       ·exact hm'
       ·rw [Nat.zero_add] at h3'
        have hqq : q ≠ q' := by rintro rfl; rw [h1] at h1'; exact hij (Option.some.inj h1')
        exact hI2.dj q q' oq oq' p hqq h2 h2' (h3.2 p hm) (h3'.2 p hm')
       ·exact hmbfz j _ p h1' h2' (hfz _ _ _ _ _ p h2' hm') (hcan q oq p h2 (h3.2 p hm))
      ·rcases hcor j o' hDj ho' with ⟨rfl, _⟩ | ⟨q', oq', h1', h2', h3'⟩ | ⟨k', ys', m', b', h1', h2', rfl, _⟩
       ·exact hm'
       ·rw [Nat.zero_add] at h3'
        exact hmbfz i _ p h1 h2 (hfz _ _ _ _ _ p h2 hm) (hcan q' oq' p h2' (h3'.2 p hm'))
       ·exact hI.dj i j _ _ p hij h2 h2' (hfz _ _ _ _ _ p h2 hm) (hfz _ _ _ _ _ p h2' hm')
     ·intro b p hl
      by_cases hb : b = 0
      ·subst hb
       rcases (hgL0 p).1 hl with hl | hl | ⟨y, hy, ⟨k, ys, m, h4⟩, hv⟩
       ·exact .inl hl
       ·refine .inr ⟨rfl, ?_, hI2.lt 0 p hl, fun i o hD ho hm => ?_⟩
        ·rcases hI2.l0 p hl with h | h
         ·exact hMBfree p h
         ·exact .inr h
        ·rcases hcor i o hD ho with ⟨rfl, _⟩ | ⟨q, oq, h1, h2, h3⟩ | ⟨k, ys, m, b, h1, h2, rfl, _⟩
         ·exact hm
         ·rw [Nat.zero_add] at h3
          exact hI2.st q oq p 0 h2 (h3.2 p hm) hl
         ·exact hmbfz i _ p h1 h2 (hfz _ _ _ _ _ p h2 hm) (hI2.l0 p hl)
       ·obtain ⟨k2, ys2, m2, b2, h5, h6, h7⟩ := hfrz y hy
        rw [h4] at h5; cases h5
        have hmr : MR g y.1 (.arr k ys m true) p := by
         rcases Vis.in hI h4 h6 hv with ⟨_, h⟩ | ⟨h, _⟩
         ·exact h
         ·simp at h
        refine .inr ⟨rfl, .inl ⟨y.1, _, .inr (.inl ⟨y, hy, rfl⟩), h4, hmr⟩, ⟨Nat.lt_of_lt_of_le (MR.lt (hI.ob _ _ h4) hmr) hI2.keep.size, by rw [MR.spot hmr]⟩, fun i o hD ho hm => ?_⟩
        rcases hcor i o hD ho with ⟨rfl, _⟩ | ⟨q, oq, h1, h2, h3⟩ | ⟨k', ys', m', b', h1, h2, rfl, _⟩
        ·exact hm
        ·rw [Nat.zero_add] at h3
         exact hmbfz y.1 _ p h7 h4 hmr (hcan q oq p h2 (h3.2 p hm))
        ·by_cases hiy : i = y.1
         ·subst hiy
          rw [h4] at h2; cases h2
          obtain ⟨a, n', c, j, e', hj, hj', hpp⟩ := hm
          obtain ⟨a2, n3, c3, k3, ys3, m3, b3, j3, e3', h8, hj3, hp3⟩ := hv
          rw [h6] at h8; cases h8
          rw [hgloc _ _ h4, e3'] at e'
          cases e'
          rw [hpp] at hp3
          have := pl_inj hp3
          simp at hj
          omega
         ·exact hI.dj i y.1 _ _ p hiy h2 h4 (hfz _ _ _ _ _ p h2 hm) hmr
      ·exact .inl ((hgL b p hb).1 hl)
     ·exact hI2.keep.mono fun p _ hm => hMBfree p hm
     ·intro i hi
      have hi' : apH H nid ef i = none := hi
      unfold apH at hi'
      split at hi'
      ·rename_i hh
       exfalso
       rw [List.getElem?_eq_none_iff] at hi'
       have : ef.news.length = (n1' ++ n2').length := rfl
       omega
      ·rename_i hh
       show (if _ then _ else _) = _
       rw [if_neg hh]
       exact hI.no i (lkU_isNone hi')
end Go.Proofs.YtdhifkdijlghdaaGreatDoorA
