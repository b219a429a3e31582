/-
  Elements, cuts, conversions. No condition.
-/
import Derived.Test.YtdhifkdijlghdaaGreatDoorAOps4
namespace Go.Proofs.YtdhifkdijlghdaaGreatDoorA
open Go
set_option linter.unusedVariables false
set_option linter.unusedSimpArgs false
variable {P : Program} {M0 : Addr → Prop} {w0 w : World} {g : Gh} {H : Nat → Option Ob}
theorem pIndex_ok {E : Env} (hT : TtOk P E.tt) {t nid : Nat} (hI : Inv M0 w0 g H w) {x : V1} {ic : C} {u iu : Value} (hx : V1R g w x u) (hi' : CR g w ic iu) {r : Res1} {l : List Nat} (h : pIndex E t x ic H = some (r, l)) (hg : r.g = true) :
  ∃ e v w', r.act = .done e ∧ (Instr.index t u iu).run P w = .ok v w' ∧ Good M0 w0 g H w nid e v w' := by
 unfold pIndex at h
 cases ht : E.ti t with
 | none => rw [ht] at h; exact (M.fail_some (H := H) h).elim
 | some ti =>
  rw [ht] at h
  obtain ⟨i, d, hi⟩ := Env.tiOk hT ht
  obtain ⟨sz, by', td, kd, zc⟩ := ti
  cases ic <;> (try (cases td <;> cases x <;> (try rename_i c; cases c) <;> exact (M.fail_some (H := H) h).elim))
  rename_i ik ix
  cases hi'
  cases td <;> try (cases x <;> (try (rename_i c; cases c)) <;> exact (M.fail_some (H := H) h).elim)
  ·obtain rfl := hi.str rfl
   cases x <;> try exact (M.fail_some (H := H) h).elim
   rename_i c
   cases c <;> try exact (M.fail_some (H := H) h).elim
   rename_i s
   cases hx
   have hr := done_some h
   subst hr
   simp only [Bool.and_eq_true, decide_eq_true_eq] at hg
   obtain ⟨g1, g2⟩ := hg
   have hlt : ix.toNat < s.size := by omega
   refine ⟨_, _, _, rfl, ?_, Good.same hI rfl⟩
   have hget : s[ix.toNat]? = some s[ix.toNat] := by simp [hlt]
   simp [Instr.index, asIntOf, run_underlying hi.und, g1, hget, byteAt, hlt]
  ·rename_i n e
   obtain ⟨rfl, hn1⟩ := hi.array rfl
   cases x <;> try exact (M.fail_some (H := H) h).elim
   rename_i n2 k xs
   dsimp only at h
   cases he : E.ti e with
   | none => rw [he] at h; exact (M.fail_some (H := H) h).elim
   | some ei =>
    rw [he] at h
    dsimp only at h
    split at h
    ·rename_i hcd
     obtain ⟨rfl, hsz⟩ := hcd
     cases hmk : mk ei (cells [] k (rdE k xs ix.toNat)) with
     | none => rw [hmk] at h; exact (M.fail_some (H := H) h).elim
     | some v =>
      rw [hmk] at h
      have hr := done_some h
      subst hr
      simp only [Bool.and_eq_true, decide_eq_true_eq] at hg
      obtain ⟨ie, de, hie⟩ := Env.tiOk hT he
      obtain ⟨us, rfl, hxl, hf, hu⟩ := hx
      have hgx : xs[ix.toNat]? = some (rdE k xs ix.toNat) := by unfold rdE; rw [List.getD_eq_getElem?_getD, List.getElem?_eq_getElem (by omega)]; rfl
      have hrow := ER.cells (g := g) (w := w) (m := []) k _ _ (ER.flat k _ _ hf (Rows2.get (ER.len k) hu _ _ hgx))
      have hul := Rows2.len (ER.len k) hu
      have hkey : ∃ rr, (part e us (ix.toNat * k.size)).run P w = .ok rr w ∧ V1R g w v rr := by
       have hF : F2 (CR g w) (List.replicate (ix.toNat * k.size) C.undef ++ cells [] k (rdE k xs ix.toNat) ++ List.replicate (us.size - (ix.toNat * k.size + k.size)) C.undef) us.toList := by
        have hix : ix.toNat * k.size + k.size ≤ us.toList.length := by
         rw [hul, ← Nat.succ_mul]; exact Nat.mul_le_mul_right _ (by omega)
        have hsplit : us.toList = us.toList.take (ix.toNat * k.size) ++ (us.toList.drop (ix.toNat * k.size)).take k.size ++ us.toList.drop (ix.toNat * k.size + k.size) := by
         rw [List.append_assoc, ← List.drop_drop, List.take_append_drop, List.take_append_drop]
        have hundef : ∀ (vs : List Value), F2 (CR g w) (List.replicate vs.length C.undef) vs := by
         intro vs
         induction vs with
         | nil => trivial
         | cons v vs ih => exact ⟨trivial, ih⟩
        rw [hsplit]
        have h1 := hundef (us.toList.take (ix.toNat * k.size))
        have h2 := hundef (us.toList.drop (ix.toNat * k.size + k.size))
        rw [List.length_take, Nat.min_eq_left (by omega)] at h1
        rw [List.length_drop] at h2
        exact F2.append (F2.append h1 hrow) h2
       refine run_part hie (o := ix.toNat * k.size) hF ?_
       rw [List.append_assoc, List.drop_left' (by simp), List.take_left' (by rw [cells_len, hsz]), hmk]
      obtain ⟨rr, hr1, hr2⟩ := hkey
      refine ⟨_, rr, w, rfl, ?_, Good.same hI hr2⟩
      have hse : ie.size = k.size := by rw [hie.size, hsz]
      simp [Instr.index, asIntOf, run_underlying hi.und, sizeOf, typeInfo, hie.info, hg, hse, hr1]
    ·exact (M.fail_some (H := H) h).elim
def OptR (g : Gh) (w : World) : Option C → Option Value → Prop
 | none, none => True
 | some c, some v => CR g w c v
 | _, _ => False
theorem run_bounds {lo hi : Option C} {lo' hi' : Option Value} (hl : OptR g w lo lo') (hh : OptR g w hi hi') (sl : Bool) {len cap : Nat} {l h : Int} (h1 : bnd 0 lo = some l) (h2 : bnd len hi = some h) (g1 : 0 ≤ l) (g2 : l ≤ h) (g3 : h ≤ cap) (hlc : len ≤ cap) :
  (Instr.sliceBounds sl len cap lo' hi' none).run P w = .ok (l.toNat, h.toNat, cap) w := by
 have hb : ∀ (c : C) (v : Value) (y : Nat) (code : BoundsCode) (d n : Int), CR g w c v → bnd d (some c) = some n → 0 ≤ n → n ≤ y → (Instr.sliceBound v y code).run P w = .ok n.toNat w := by
  intro c v y code d n hc hb h0 h1
  cases c <;> simp [bnd] at hb
  subst hb
  cases hc
  simp [Instr.sliceBound, asIntOf, h0, h1]
 cases lo <;> cases lo' <;> try exact hl.elim
 ·cases hi <;> cases hi' <;> try exact hh.elim
  ·simp [bnd] at h1 h2; subst h1; subst h2
   simp [Instr.sliceBounds]
  ·simp [bnd] at h1; subst h1
   have f := fun code => hb _ _ cap code _ _ hh h2 (by omega) g3
   simp [Instr.sliceBounds, f]
 ·have f1 := fun code => hb _ _ h.toNat code _ _ hl h1 g1 (by omega)
  cases hi <;> cases hi' <;> try exact hh.elim
  ·simp [bnd] at h2; subst h2
   simp only [Int.toNat_natCast] at f1
   simp [Instr.sliceBounds, f1]
  ·have f := fun code => hb _ _ cap code _ _ hh h2 (by omega) g3
   simp [Instr.sliceBounds, f, f1]
theorem At.cut {S : Addr → Prop} {A : Option Addr} {us : List Value} {l h c sz : Nat} (hlh : l ≤ h) (hhc : h ≤ c) (hsz : 0 < sz) (hat : us = [] ∨ ∃ a, A = some a ∧ a.spot = none ∧ ∀ j u, us[j]? = some u → w.cell? (pl a j) = some u ∧ S (pl a j)) :
  At w S (if c = l then A else A.map (·.add (l * sz))) ((us.take (h * sz)).drop (l * sz)) := by
 rcases hat with rfl | ⟨a, rfl, hsp, hc⟩
 ·exact .inl (by simp)
 ·by_cases he : (us.take (h * sz)).drop (l * sz) = []
  ·exact .inl he
  ·have hlt : l < h := by
    rcases Nat.lt_or_ge l h with h1 | h1
    ·exact h1
    ·exact absurd (List.drop_of_length_le (by rw [List.length_take]; have := Nat.mul_le_mul_right sz h1; omega)) he
   rw [if_neg (by omega)]
   refine .inr ⟨pl a (l * sz), by simp [add_pl hsp], rfl, fun j u hj => ?_⟩
   rw [List.getElem?_drop, List.getElem?_take] at hj
   split at hj
   ·rw [pl_pl]; exact hc _ u hj
   ·simp at hj
theorem sub_len {α : Type} (xs : List α) (l h : Int) (h0 : 0 ≤ l) (h1 : l ≤ h) (h2 : h ≤ xs.length) : (sub xs l h).length = h.toNat - l.toNat := by
 simp [sub]; omega
theorem sub_rows {k : Kd} {S : Addr → Prop} {xs : List (El k)} {us : List Value} (hu : Rows2 (ER w S k) xs us) (l h : Int) : Rows2 (ER w S k) (sub xs l h) ((us.take (h.toNat * k.size)).drop (l.toNat * k.size)) :=
 Rows2.drop (ER.len k) _ (Rows2.take (ER.len k) _ hu)
theorem Good.freeze {id : Nat} {k : Kd} {xs : List (El k)} {m : List Nat} {x : Bool} (hI : Inv M0 w0 g H w) (hid : H id = some (.arr k xs m x)) :
  ∃ g', Inv M0 w0 g' (fun i => if i = id then some (.arr k xs m false) else H i) w ∧ Ext g g' ∧ g'.loc = g.loc ∧ ∀ a n c j, g.loc id = .arr (some a) n c → j < xs.length * k.size → g'.L 0 (pl a j) := by
 obtain ⟨A, n, c, us, e, hx, hnc, hu, hcell⟩ := hI.ob _ _ hid
 have hul := Rows2.len (ER.len k) hu
 have hcn : xs.length * k.size ≤ c * k.size := Nat.mul_le_mul_right _ (by omega)
 refine ⟨{ g with L := fun b p => g.L b p ∨ (b = 0 ∧ ∃ a n c j, g.loc id = .arr (some a) n c ∧ j < xs.length * k.size ∧ p = pl a j) }, ?_, ⟨fun _ _ => rfl, fun _ _ h => .inl h, rfl, fun b p hb h => h.resolve_right fun h => hb h.1⟩, rfl, fun a n c j h hj => .inr ⟨rfl, a, n, c, j, h, hj, rfl⟩⟩
 have hE : Ext g { g with L := fun b p => g.L b p ∨ (b = 0 ∧ ∃ a n c j, g.loc id = .arr (some a) n c ∧ j < xs.length * k.size ∧ p = pl a j) } := ⟨fun _ _ => rfl, fun _ _ h => .inl h, rfl, fun b p hb h => h.resolve_right fun h => hb h.1⟩
 refine (hI.frame (w' := w) (H' := fun i => if i = id then some (.arr k xs m false) else H i) (fun i => i = id) (fun i hi => if_neg hi) ?_ (fun i j o o' p hij hi hj => by cases hi; cases hj; exact absurd rfl hij) ?_ (Keeps.refl _ _) hE ?_).1
 ·rintro i o rfl ho
  simp only [if_true, Option.some.injEq] at ho
  subst ho
  refine ⟨⟨A, n, c, us, e, hx, hnc, Rows2.mono (ER.mono (fun p hp => hp.ext hE) (fun _ _ => rfl) k) hu, ?_⟩, ?_⟩
  ·rcases hcell with h0 | ⟨a, ha, hsp, h1, h2, hend⟩
   ·exact .inl h0
   ·exact .inr ⟨a, ha, hsp, h1, h2, fun _ j hj => .inr ⟨rfl, a, n, c, j, by rw [e, ha], by omega, rfl⟩, hend.2⟩
  ·rintro p ⟨a, n', c', j, e', hj, hj', rfl⟩
   refine .inl ⟨i, _, rfl, hid, a, n', c', j, e', ?_, hj', rfl⟩
   split
   ·omega
   ·simpa using hj
 ·rintro b p (hl | ⟨rfl, a, n', c', j, e', hj, rfl⟩)
  ·exact .inl hl
  ·rw [e] at e'; cases e'
   rcases hcell with h0 | ⟨a', ha, hsp, h1, h2, h3⟩
   ·subst h0; omega
   ·cases ha
    cases x with
    | false => exact .inl (h3.1 rfl j (by omega))
    | true =>
     refine .inr ⟨rfl, .inl ⟨id, _, rfl, hid, a, n, c, j, e, by simp, by omega, rfl⟩, ⟨?_, rfl⟩, ?_⟩
     ·obtain ⟨u, hu⟩ := Option.isSome_iff_exists.1 (h2 j (by omega)).1
      exact World.block_lt_of_cell? w _ hu
     ·rintro i o rfl ho hp
      simp only [if_true, Option.some.injEq] at ho
      subst ho
      obtain ⟨a2, n2, c2, j2, e2, h5, h6, h7⟩ := hp
      simp only [e] at e2; cases e2
      have := pl_inj h7
      simp at h5
      omega
 ·intro i hi
  split at hi
  ·simp at hi
  ·exact hI.no i hi
theorem apH_upd (H : Nat → Option Ob) (nid id : Nat) (v : TV) (o : Ob) : apH H nid ⟨v, [(id, o)], []⟩ = fun i => if i = id then some o else H i := by
 funext i
 simp only [apH, lkU, List.length_nil]
 rw [if_neg (by omega)]
 by_cases e : i = id
 ·subst e; simp
 ·rw [if_neg e, if_neg (fun h => e h.symm)]
theorem apH_mv (H : Nat → Option Ob) (nid id : Nat) (v : TV) (o o' : Ob) : apH H nid ⟨v, [(id, o)], [o']⟩ = fun i => if i = nid then some o' else if i = id then some o else H i := by
 funext i
 simp only [apH, lkU, List.length_cons, List.length_nil]
 by_cases e : i = nid
 ·subst e; simp
 ·rw [if_neg (by omega), if_neg e]
  by_cases e : i = id
  ·subst e; simp
  ·rw [if_neg e, if_neg (fun h => e h.symm)]
theorem Good.move {w' : World} {nid id : Nat} {k : Kd} {xs ys : List (El k)} {m m' : List Nat} {x : Bool} {A' : Option Addr} {n' c' : Nat} (hI : Inv M0 w0 g H w) (hid : H id = some (.arr k xs m x)) (hn : H nid = none)
  (hk : Keeps (Free g H w (· = id)) w w') (ho : ObR { g with loc := fun i => if i = nid then .arr A' n' c' else g.loc i } w' nid (.arr k ys m' x)) (hm : ∀ p, MR { g with loc := fun i => if i = nid then .arr A' n' c' else g.loc i } nid (.arr k ys m' x) p → Free g H w (· = id) p)  :
  Good M0 w0 g H w nid ⟨one1 (.slo nid), [(id, .dead)], [.arr k ys m' x]⟩ (.slice A' n' c') w' := by
 have he : Ext g { g with loc := fun i => if i = nid then .arr A' n' c' else g.loc i } := ⟨fun i hi => by
  show (if i = nid then _ else g.loc i) = _
  rw [if_neg]; rintro rfl; exact hi (hI.no _ hn), fun _ _ h => h, rfl, fun _ _ _ h => h⟩
 have hD : ∀ p, Free g H w (· = id) p → Free g H w (fun i => i = id ∨ i = nid) p := by
  rintro p (⟨i, o, rfl, h1, h2⟩ | h)
  ·exact .inl ⟨i, o, .inl rfl, h1, h2⟩
  ·exact .inr h
 have hne : id ≠ nid := by rintro rfl; rw [hid] at hn; simp at hn
 have hfr := hI.frame (w' := w') (g' := { g with loc := fun i => if i = nid then .arr A' n' c' else g.loc i }) (H' := apH H nid ⟨one1 (.slo nid), [(id, .dead)], [.arr k ys m' x]⟩) (fun i => i = id ∨ i = nid)
  (fun i hi => by rw [apH_mv]; simp only; rw [if_neg (fun h => hi (.inr h)), if_neg (fun h => hi (.inl h))])
  (fun i o hi hh => by
   rw [apH_mv] at hh
   rcases hi with rfl | rfl
   ·simp only [if_neg hne, if_true, Option.some.injEq] at hh
    subst hh
    refine ⟨?_, fun p hp => hp.elim⟩
    show (if i = nid then _ else g.loc i) ≠ _
    rw [if_neg hne]; exact ObR.loc (hI.ob _ _ hid)
   ·simp only [if_true, Option.some.injEq] at hh
    subst hh
    exact ⟨ho, fun p hp => hD p (hm p hp)⟩)
  (fun i j o o' p hij hi hj hh hh' hp hp' => by
   rw [apH_mv] at hh hh'
   rcases hi with rfl | rfl <;> rcases hj with rfl | rfl
   ·exact hij rfl
   ·simp only [if_neg hne, if_true, Option.some.injEq] at hh
    subst hh; exact hp
   ·simp only [if_neg hne, if_true, Option.some.injEq] at hh'
    subst hh'; exact hp'
   ·exact hij rfl)
  (fun b p hb => .inl hb) (hk.mono fun p _ hp => hD p hp) he
  (fun i hi => by
   rw [apH_mv] at hi
   simp only at hi
   split at hi
   ·simp at hi
   ·rename_i hi1
    split at hi
    ·simp at hi
    ·show (if i = nid then _ else g.loc i) = _
     rw [if_neg hi1]; exact hI.no i hi)
 exact ⟨_, hfr.1, he, hfr.2, ⟨A', n', c', by simp, rfl⟩, hk.others⟩
theorem pSlice_ok {E : Env} (hT : TtOk P E.tt) {mv : Bool} {t nid : Nat} {r : Res1} (hI : Inv M0 w0 g H w) (hn : hasNew r = true → H nid = none) {c : C} {u : Value} (hc : CR g w c u) {lo hi mx : Option C} {lo' hi' mx' : Option Value} (hl : OptR g w lo lo') (hh : OptR g w hi hi') (hm : OptR g w mx mx')
  {l : List Nat} (h : pSlice E mv t nid c lo hi mx H = some (r, l)) (hg : r.g = true) :
  ∃ e v w', r.act = .done e ∧ (Instr.sliceAt t u lo' hi' mx').run P w = .ok v w' ∧ Good M0 w0 g H w nid e v w' := by
 unfold pSlice at h
 cases ht : E.ti t with
 | none => rw [ht] at h; exact (M.fail_some (H := H) h).elim
 | some ti =>
  rw [ht] at h
  obtain ⟨i, d, hti⟩ := Env.tiOk hT ht
  obtain ⟨sz, by', td, kd, zc⟩ := ti
  cases td <;> try (cases mx <;> (try (rename_i mc; cases mc)) <;> exact (M.fail_some (H := H) h).elim)
  ·-- a string
   obtain rfl := hti.str rfl
   cases c <;> try exact (M.fail_some (H := H) h).elim
   rename_i s
   cases mx <;> try exact (M.fail_some (H := H) h).elim
   cases mx' <;> try exact hm.elim
   cases hc
   dsimp only at h
   cases hbl : bnd 0 lo with
   | none => rw [hbl] at h; exact (M.fail_some (H := H) h).elim
   | some l' =>
    rw [hbl] at h
    cases hbh : bnd s.size hi with
    | none => rw [hbh] at h; exact (M.fail_some (H := H) h).elim
    | some h' =>
     rw [hbh] at h
     have hr := done_some h
     subst hr
     simp only [Bool.and_eq_true, decide_eq_true_eq] at hg
     obtain ⟨⟨g1, g2⟩, g3⟩ := hg
     refine ⟨_, _, _, rfl, ?_, Good.same hI rfl⟩
     have hb := run_bounds (P := P) hl hh false hbl hbh g1 g2 g3 (Nat.le_refl _)
     simp [Instr.sliceAt, run_underlying hti.und, Instr.slice, hb, cut]
  ·rename_i e
   obtain rfl := hti.slice rfl
   cases mx with
   | none =>
    cases mx' <;> try exact hm.elim
    dsimp only at h
    cases he : E.ti e with
    | none => rw [he] at h; exact (M.fail_some (H := H) h).elim
    | some ei =>
     rw [he] at h
     obtain ⟨ie, de, hie⟩ := Env.tiOk hT he
     obtain ⟨sl, l1, l2, h1, h2, _⟩ := M.bind_some h
     obtain ⟨A, n, cp, us, hs⟩ := getSl_ok hI hc h1
     cases hbl : bnd 0 lo with
     | none => rw [hbl] at h2; exact (M.fail_some (H := H) h2).elim
     | some l' =>
      rw [hbl] at h2
      cases hbh : bnd sl.xs.length hi with
      | none => rw [hbh] at h2; exact (M.fail_some (H := H) h2).elim
      | some h' =>
       rw [hbh] at h2
       dsimp only at h2
       split at h2
       ·rename_i hsz
        have hse : ie.size = sl.k.size := by rw [hie.size, hsz]
        have hrun : (decide (0 ≤ l') && decide (l' ≤ h') && decide (h' ≤ sl.xs.length)) = true → (Instr.sliceAt t u lo' hi' none).run P w = .ok (.slice (if cp = l'.toNat then A else A.map (·.add (l'.toNat * sl.k.size))) (h'.toNat - l'.toNat) (cp - l'.toNat)) w := by
         intro hg
         simp only [Bool.and_eq_true, decide_eq_true_eq] at hg
         obtain ⟨⟨g1, g2⟩, g3⟩ := hg
         rw [hs.len] at hbh g3
         have hb := run_bounds (P := P) (cap := cp) hl hh true hbl hbh g1 g2 (by have := hs.cap; omega) hs.cap
         rw [hs.val]
         simp [Instr.sliceAt, run_underlying hti.und, Instr.slice, hb, sizeOf, typeInfo, hie.info, hse]
        have hplain : (∀ j u, us[j]? = some u → ∀ a, A = some a → SM g.L sl.m (pl a j)) → r = ⟨decide (0 ≤ l') && decide (l' ≤ h') && decide (h' ≤ sl.xs.length), .done ⟨one1 (.slv sl.m sl.k (sub sl.xs l' h')), [], []⟩⟩ →
          ∃ e v w', r.act = .done e ∧ (Instr.sliceAt t u lo' hi' none).run P w = .ok v w' ∧ Good M0 w0 g H w nid e v w' := by
         intro hS hr
         subst hr
         refine ⟨_, _, _, rfl, hrun hg, Good.same hI ?_⟩
         simp only [Bool.and_eq_true, decide_eq_true_eq] at hg
         obtain ⟨⟨g1, g2⟩, g3⟩ := hg
         have hcp := hs.cap
         have hln := hs.len
         refine ⟨_, _, _, _, rfl, sub_len _ _ _ g1 g2 g3, by omega, sub_rows hs.rows l' h', ?_⟩
         refine At.cut (by omega) (by omega) (Kd.size_pos _) ?_
         rcases hs.at_ with h0 | ⟨a, ha, hsp, hcell⟩
         ·exact .inl h0
         ·exact .inr ⟨a, ha, hsp, fun j u hj => ⟨hcell j u hj, hS j u hj a ha⟩⟩
        cases c with
        | slv m k xs =>
         cases M.ret_some (H := H) h1
         refine hplain ?_ (done_some h2)
         intro j u hj a ha
         simp only [CR, ER] at hc
         obtain ⟨A2, n2, c2, us2, e2, h3, h4, h5, h6⟩ := hc
         simp only [List.cons.injEq, and_true] at e2
         have := hs.val
         rw [e2] at this; cases this
         rcases h6 with h0 | ⟨a2, ha2, hsp2, h7⟩
         ·subst h0
          have hx0 : xs.length = 0 := by
           have := Rows2.len (ER.len _) h5
           simp at this
           have hk := Kd.size_pos k
           rcases Nat.eq_zero_or_pos xs.length with h | h
           ·exact h
           ·have := Nat.mul_pos h hk; omega
          have hul := Rows2.len (ER.len _) hs.rows
          simp only [hx0, Nat.zero_mul] at hul
          rw [List.getElem?_eq_none (by rw [hul]; exact Nat.zero_le _)] at hj
          simp at hj
         ·rw [ha] at ha2; cases ha2
          have hul := Rows2.len (ER.len _) hs.rows
          have hul2 := Rows2.len (ER.len _) h5
          have hjl : j < us2.length := by
           rw [hul2]
           rcases Nat.lt_or_ge j us.length with h | h
           ·rw [hul] at h; exact h
           ·rw [List.getElem?_eq_none h] at hj; simp at hj
          exact (h7 j _ (List.getElem?_eq_getElem hjl)).2
        | nil =>
         cases hk : ei.kd with
         | none => rw [hk] at h1; exact (M.fail_some (H := H) h1).elim
         | some k =>
          rw [hk] at h1
          cases M.ret_some (H := H) h1
          refine hplain ?_ (done_some h2)
          intro j u hj
          have := hs.rows
          simp only [Rows2] at this
          subst this; simp at hj
        | slo id =>
         obtain ⟨A2, n2, c2, e2, hv⟩ := hc
         have hvv := hs.val
         rw [hv] at hvv; cases hvv
         obtain ⟨o, l3, l4, h3, h4, _⟩ := M.bind_some h2
         have hid := M.get_some h3
         obtain ⟨o', l5, l6, h5, h6, _⟩ := M.bind_some h1
         have hid' := M.get_some h5
         rw [hid] at hid'; cases hid'
         cases o <;> try exact (M.fail_some h4).elim
         rename_i k xs m b
         cases M.ret_some h6
         dsimp only at h4
         split at h4
         ·split at h4
          ·rename_i hmv hb
           subst hb
           have hr := done_some h4
           subst hr
           refine ⟨_, _, _, rfl, hrun hg, ?_⟩
           simp only [Bool.and_eq_true, decide_eq_true_eq] at hg
           obtain ⟨⟨g1, g2⟩, g3⟩ := hg
           obtain ⟨A3, n3, c3, us3, e3, hx, hnc, hu, hcell⟩ := hI.ob _ _ hid
           rw [e2] at e3; cases e3
           refine Good.move hI hid (hn rfl) (Keeps.refl _ _) ?_ ?_
           ·have he : Ext g { g with loc := fun i => if i = nid then .arr (if cp = l'.toNat then A else A.map (·.add (l'.toNat * k.size))) (h'.toNat - l'.toNat) (cp - l'.toNat) else g.loc i } := ⟨fun i hi => by
             show (if i = nid then _ else g.loc i) = _
             rw [if_neg]; rintro rfl; exact hi (hI.no _ (hn rfl)), fun _ _ h => h, rfl, fun _ _ _ h => h⟩
            refine ⟨_, _, _, (us3.take (h'.toNat * k.size)).drop (l'.toNat * k.size), if_pos rfl, sub_len _ _ _ g1 g2 g3, by omega, sub_rows hu l' h', ?_⟩
            by_cases hcl : cp - l'.toNat = 0
            ·exact .inl hcl
            ·rcases hcell with h0 | ⟨a, ha, hsp, h7, h8, hend⟩
             ·omega
             ·cases ha
              refine .inr ⟨pl a (l'.toNat * k.size), by rw [if_neg (by omega)]; simp [add_pl hsp], rfl, fun j u hj => ?_, fun j hj => ?_, fun h => by simp at h, hend.2⟩
              ·rw [List.getElem?_drop, List.getElem?_take] at hj
               split at hj
               ·rw [pl_pl]; exact h7 _ u hj
               ·simp at hj
              ·rw [pl_pl]
               exact h8 _ (by
                have := Nat.sub_mul cp l'.toNat k.size
                rw [this] at hj; omega)
           ·rintro p ⟨a2, n4, c4, j, e4, hj, hj', rfl⟩
            simp only [if_true, Loc.arr.injEq] at e4
            obtain ⟨e5, rfl, rfl⟩ := e4
            by_cases hcl : cp = l'.toNat
            ·rw [hcl] at hj'; simp at hj'
            ·rw [if_neg hcl] at e5
             obtain ⟨a, rfl, rfl⟩ := Option.map_eq_some_iff.1 e5
             rcases hcell with h0 | ⟨a', ha, hsp, h7, h8, _⟩
             ·omega
             ·cases ha
              refine .inl ⟨id, _, rfl, hid, a, n, cp, l'.toNat * k.size + j, e2, by simp, ?_, by rw [add_pl hsp, pl_pl]⟩
              have := Nat.sub_mul cp l'.toNat k.size
              rw [this] at hj'; omega
          ·exact (M.fail_some h4).elim
         ·have hr := done_some h4
          subst hr
          refine ⟨_, _, _, rfl, hrun hg, ?_⟩
          simp only [Bool.and_eq_true, decide_eq_true_eq] at hg
          obtain ⟨⟨g1, g2⟩, g3⟩ := hg
          obtain ⟨g', hi', hE, hloc, hL⟩ := Good.freeze hI hid
          have hcp : n ≤ cp := hs.cap
          have hln : xs.length = n := hs.len
          have g3' : h' ≤ xs.length := g3
          refine ⟨g', by rw [apH_upd]; exact hi', hE, fun _ _ _ => rfl, ?_, KeepsOthers.refl w⟩
          refine ⟨_, _, _, _, rfl, sub_len _ _ _ g1 g2 g3, by omega, sub_rows (Rows2.mono (ER.mono (fun p ⟨b, hb, hl⟩ => ⟨b, mem_un_r hb, hE.L _ _ hl⟩) (fun _ _ => rfl) k) hs.rows) l' h', ?_⟩
          refine At.cut (by omega) (by omega) (Kd.size_pos _) ?_
          rcases hs.at_ with h0 | ⟨a, ha, hsp, hcell⟩
          ·exact .inl h0
          ·refine .inr ⟨a, ha, hsp, fun j u hj => ⟨hcell j u hj, 0, mem_un_l (by simp), hL a n cp j (by rw [e2, ha]) ?_⟩⟩
           have hul := Rows2.len (ER.len _) hs.rows
           rw [← hul]
           rcases Nat.lt_or_ge j us.length with h | h
           ·exact h
           ·rw [List.getElem?_eq_none h] at hj; simp at hj
        | _ => exact (M.fail_some (H := H) h1).elim
       ·exact (M.fail_some (H := H) h2).elim
   | some mc =>
    cases mx' with
    | none => exact hm.elim
    | some mu =>
     dsimp only at h
     cases he : E.ti e with
     | none => rw [he] at h; exact (M.fail_some (H := H) h).elim
     | some ei =>
      rw [he] at h
      obtain ⟨ie, de, hie⟩ := Env.tiOk hT he
      obtain ⟨sl, l1, l2, h1, h2, _⟩ := M.bind_some h
      obtain ⟨A, n, cp, us, hs⟩ := getSl_ok hI hc h1
      cases hb1 : bnd 0 lo with
      | none => rw [hb1] at h2; exact (M.fail_some (H := H) h2).elim
      | some l' =>
       rw [hb1] at h2
       cases hb2 : bndS hi with
       | none => rw [hb2] at h2; exact (M.fail_some (H := H) h2).elim
       | some h' =>
        rw [hb2] at h2
        cases hb3 : bndS (some mc) with
        | none => rw [hb3] at h2; exact (M.fail_some (H := H) h2).elim
        | some m' =>
         rw [hb3] at h2
         dsimp only at h2
         split at h2
         ·rename_i hz
          obtain ⟨rfl, rfl, rfl⟩ := hz
          have hr := done_some h2
          subst hr
          cases mc <;> simp [bndS] at hb3
          subst hb3
          cases hm
          cases hi <;> simp [bndS] at hb2
          rename_i hc2
          cases hc2 <;> simp at hb2
          subst hb2
          cases hi' <;> try exact hh.elim
          cases hh
          refine ⟨_, .slice (if 0 = 0 then A else A.map (·.add 0)) 0 0, w, rfl, ?_, Good.same hI ⟨A, rfl⟩⟩
          rw [hs.val]
          cases lo <;> cases lo' <;> try exact hl.elim
          ·simp [Instr.sliceAt, run_underlying hti.und, Instr.slice, Instr.sliceBounds, Instr.sliceBound, asIntOf, sizeOf, typeInfo, hie.info]
          ·rename_i c1 v1
           cases c1 <;> simp [bnd] at hb1
           subst hb1
           cases hl
           simp [Instr.sliceAt, run_underlying hti.und, Instr.slice, Instr.sliceBounds, Instr.sliceBound, asIntOf, sizeOf, typeInfo, hie.info]
         ·exact (M.fail_some (H := H) h2).elim
end Go.Proofs.YtdhifkdijlghdaaGreatDoorA
