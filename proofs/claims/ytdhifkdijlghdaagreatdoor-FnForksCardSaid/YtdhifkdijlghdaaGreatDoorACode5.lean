/-
  A region that draws its order: every order that is let comes to the text's. No condition.
-/
import Derived.Test.YtdhifkdijlghdaaGreatDoorACode4
namespace Go.Proofs.YtdhifkdijlghdaaGreatDoorA
open Go
set_option linter.unusedVariables false
set_option linter.unusedSimpArgs false
variable {rr : Option Nat} {nn_ : Nat}
variable {P : Program} {E : Env} {M0 : Addr → Prop} {w0 w : World} {g : Gh} {σ : St} {a : Act} {R : Type}
theorem mem_un {a b : List Nat} {x : Nat} (h : x ∈ un a b) : x ∈ a ∨ x ∈ b := by
 unfold un at h
 induction b generalizing a with
 | nil => exact .inl h
 | cons y b ih =>
  simp only [List.foldl_cons] at h
  rcases ih h with h | h
  ·split at h
   ·exact .inl h
   ·rcases List.mem_append.1 h with h | h
    ·exact .inl h
    ·simp at h; subst h; exact .inr (by simp)
  ·exact .inr (by simp [h])
inductive Rch (A : List Oper) : Nat → Nat → Prop where
 | one (i : Nat) (o : Oper) (e : Edge) : A[i]? = some o → e ∈ o.after.toList → Region.binds .any e = true → Rch A i e.on
 | step (i j : Nat) (o : Oper) (e : Edge) : A[i]? = some o → e ∈ o.after.toList → Region.binds .any e = true → Rch A e.on j → Rch A i j
theorem predOf_rch {A : List Oper} {acc : List (List Nat)} {i : Nat} {o : Oper} (ho : A[i]? = some o) (hacc : ∀ (k : Nat) l, acc[k]? = some l → ∀ j ∈ l, Rch A k j) : ∀ j ∈ predOf acc o, Rch A i j := by
 unfold predOf
 have : ∀ (es : List Edge) (s : List Nat), (∀ e ∈ es, e ∈ o.after.toList) → (∀ j ∈ s, Rch A i j) → ∀ j ∈ es.foldl (fun s e => if Region.binds .any e then un s (e.on :: acc.getD e.on []) else s) s, Rch A i j := by
  intro es
  induction es with
  | nil => intro s _ hs j hj; exact hs j hj
  | cons e es ih =>
   intro s he hs j hj
   simp only [List.foldl_cons] at hj
   refine ih _ (fun e' he' => he e' (by simp [he'])) ?_ j hj
   intro j hj
   split at hj
   ·rename_i hb
    rcases mem_un hj with hj | hj
    ·exact hs j hj
    ·rcases List.mem_cons.1 hj with rfl | hj
     ·exact .one i o e ho (he e (by simp)) hb
     ·rw [List.getD_eq_getElem?_getD] at hj
      cases hk : acc[e.on]? with
      | none => rw [hk] at hj; simp at hj
      | some l =>
       rw [hk] at hj
       exact .step i j o e ho (he e (by simp)) hb (hacc _ l hk j hj)
   ·exact hs j hj
 exact this _ [] (fun e he => he) (fun j hj => by simp at hj)
theorem predsGo_rch {A : List Oper} : ∀ (r : List Oper) (acc : List (List Nat)), (∀ (j : Nat) (o : Oper), r[j]? = some o → A[acc.length + j]? = some o) → (∀ (k : Nat) l, acc[k]? = some l → ∀ j ∈ l, Rch A k j) → ∀ (k : Nat) l, (predsGo r acc)[k]? = some l → ∀ j ∈ l, Rch A k j
 | [], acc, _, hacc => hacc
 | o :: r, acc, hA, hacc => by
  simp only [predsGo]
  refine predsGo_rch r _ (fun j o' hj => by
   have := hA (j + 1) o' (by simpa using hj)
   simp only [List.length_append, List.length_cons, List.length_nil]
   rwa [show acc.length + (0 + 1) + j = acc.length + (j + 1) by omega]) ?_
  intro k l hk
  rw [List.getElem?_append] at hk
  split at hk
  ·exact hacc k l hk
  ·rename_i hlt
   have hk0 : k = acc.length := by
    rcases Nat.lt_or_ge (k - acc.length) 1 with h | h
    ·omega
    ·rw [List.getElem?_eq_none (by simpa using h)] at hk; simp at hk
   subst hk0
   simp at hk
   subst hk
   exact predOf_rch (by simpa using hA 0 o rfl) hacc
theorem preds_rch {A : List Oper} {i j : Nat} (h : j ∈ (preds A).getD i []) : Rch A i j := by
 rw [List.getD_eq_getElem?_getD] at h
 cases hk : (preds A)[i]? with
 | none => rw [hk] at h; simp at h
 | some l =>
  rw [hk] at h
  exact predsGo_rch A [] (fun j o hj => by simpa using hj) (fun k l hk => by simp at hk) i l hk j h
def Closed (A : List Oper) (S : Nat → Bool) : Prop := ∀ (i : Nat) o e, S i = true → A[i]? = some o → e ∈ o.after.toList → Region.binds .any e = true → S e.on = true
theorem Rch.closed {A : List Oper} {S : Nat → Bool} (hS : Closed A S) {i j : Nat} (h : Rch A i j) : (∀ o e, A[i]? = some o → e ∈ o.after.toList → Region.binds .any e = true → S e.on = true) → S j = true := by
 induction h with
 | one i o e ho he hb => exact fun h => h o e ho he hb
 | step i j o e ho he hb _ ih => exact fun h => ih fun o' e' ho' he' hb' => hS e.on o' e' (h o e ho he hb) ho' he' hb'
def XF {α : Type} (F : Nat → Nat → α) (W : Nat → List Nat) (S : Nat → Bool) : Nat → Nat → α
 | 0, x => F 0 x
 | k + 1, x => if S k = true ∧ x ∈ W k then F (k + 1) x else XF F W S k x
section
variable {α : Type} {F : Nat → Nat → α} {W : Nat → List Nat} {S : Nat → Bool} {n : Nat}
theorem XF_upto (hout : ∀ k, k < n → ∀ x, x ∉ W k → F (k + 1) x = F k x) {i x : Nat} (hi : i ≤ n) (hw : ∀ k, k < i → x ∈ W k → S k = true) : ∀ k, k ≤ i → XF F W S k x = F k x
 | 0, _ => rfl
 | k + 1, hk => by
  simp only [XF]
  by_cases hx : x ∈ W k
  ·rw [if_pos ⟨hw k (by omega) hx, hx⟩]
  ·rw [if_neg (fun h => hx h.2), XF_upto hout hi hw k (by omega), hout k (by omega) x hx]
theorem XF_from {i x : Nat} (hw : ∀ k, i ≤ k → x ∈ W k → S k = false) : ∀ k, i ≤ k → XF F W S k x = XF F W S i x := by
 intro k hk
 induction k with
 | zero => rw [show i = 0 by omega]
 | succ k ih =>
  rcases Nat.lt_or_ge k i with h | h
  ·rw [show i = k + 1 by omega]
  ·simp only [XF]
   rw [if_neg, ih h]
   rintro ⟨h1, h2⟩
   rw [hw k h h2] at h1; simp at h1
theorem XF_at (hout : ∀ k, k < n → ∀ x, x ∉ W k → F (k + 1) x = F k x) {i x : Nat} (hi : i < n) (h1 : ∀ k, k < i → x ∈ W k → S k = true) (h2 : ∀ k, i ≤ k → x ∈ W k → S k = false) : XF F W S n x = F i x := by
 rw [XF_from h2 n (by omega), XF_upto hout (by omega) h1 i (Nat.le_refl _)]
theorem XF_step (hout : ∀ k, k < n → ∀ x, x ∉ W k → F (k + 1) x = F k x) {i : Nat} (hi : i < n) (hS : S i = false) (h1 : ∀ x, x ∈ W i → ∀ k, k < i → x ∈ W k → S k = true) (h2 : ∀ x, x ∈ W i → ∀ k, i < k → x ∈ W k → S k = false) :
  XF F W (fun k => S k || k == i) n = ovr (XF F W S n) (W i) (F (i + 1)) := by
 funext x
 unfold ovr
 split
 ·rename_i hx
  rw [XF_from (i := i + 1) (fun k hk hxk => by
   simp only [h2 x hx k (by omega) hxk, Bool.false_or]
   simp; omega) n (by omega)]
  simp [XF, hx]
 ·rename_i hx
  have : ∀ k, XF F W (fun k => S k || k == i) k x = XF F W S k x := by
   intro k
   induction k with
   | zero => rfl
   | succ k ih =>
    simp only [XF, ih]
    by_cases hk : k = i
    ·subst hk
     rw [if_neg (fun h => hx h.2), if_neg (fun h => hx h.2)]
    ·simp [hk]
  exact this n
end
theorem Chain.fn {A : Array Oper} {Q : Exit → Act → World → Prop} {i : Nat} {fs : List Foot} {T T2 : Nat → Option TV} {H H2 : Nat → Option Ob} (h : Chain rr nn_ P E M0 w0 A Q i fs T H T2 H2) :
  ∃ TT : Nat → Nat → Option TV, ∃ HH : Nat → Nat → Option Ob, TT 0 = T ∧ HH 0 = H ∧ TT fs.length = T2 ∧ HH fs.length = H2 ∧ ∀ (k : Nat) f, fs[k]? = some f → StepSem P E M0 w0 (fun KK a w => wpOpIn (Fw rr) nn_ P A Q (i + k) KK a w) f (TT k) (HH k) (TT (k + 1)) (HH (k + 1)) := by
 induction h with
 | nil i T H => exact ⟨fun _ => T, fun _ => H, rfl, rfl, rfl, rfl, fun k f hk => by simp at hk⟩
 | cons i f fs T T1 T2 H H1 H2 hf hs _ ih =>
  obtain ⟨TT, HH, e1, e2, e3, e4, h5⟩ := ih
  refine ⟨fun k => match k with | 0 => T | k + 1 => TT k, fun k => match k with | 0 => H | k + 1 => HH k, rfl, rfl, e3, e4, fun k f' hk => ?_⟩
  cases k with
  | zero =>
   simp at hk; subst hk
   simp only [e1, e2]
   exact hs
  | succ k =>
   have := h5 k f' (by simpa using hk)
   rw [show i + 1 + k = i + (k + 1) by omega] at this
   exact this
theorem okPairs_ok {pr : List (List Nat)} : ∀ {fs : List Foot}, okPairs pr fs = true → ∀ (j k : Nat) a b, j < k → fs[j]? = some a → fs[k]? = some b → clash a b = true → a.i ∈ pr.getD b.i []
 | [], _, j, k, a, b, _, h, _, _ => by simp at h
 | f :: fs, h, j, k, a, b, hjk, ha, hb, hc => by
  simp only [okPairs, Bool.and_eq_true] at h
  cases k with
  | zero => omega
  | succ k =>
   cases j with
   | zero =>
    simp at ha; subst ha
    have := List.all_eq_true.1 h.1 b (List.mem_of_getElem? (by simpa using hb))
    simp only [Bool.or_eq_true, Bool.not_eq_true', hc, Bool.true_eq_false, false_or] at this
    simpa using this
   | succ j => exact okPairs_ok h.2 j k a b (by omega) (by simpa using ha) (by simpa using hb) hc
theorem meets_iff {a b : List Nat} : meets a b = true ↔ ∃ x, x ∈ a ∧ x ∈ b := by
 simp [meets]
theorem okEdges_ok : ∀ {r : List Oper} {i : Nat}, okEdges i r = true → ∀ (j : Nat) o e, r[j]? = some o → e ∈ o.after.toList → Region.binds .any e = true → e.on < i + j
 | [], i, _, j, o, e, h, _, _ => by simp at h
 | o' :: r, i, h, j, o, e, ho, he, hb => by
  simp only [okEdges, Bool.and_eq_true] at h
  cases j with
  | zero =>
   simp at ho; subst ho
   have := List.all_eq_true.1 h.1 e he
   simp only [hb, Bool.not_true, Bool.false_or, decide_eq_true_eq] at this
   omega
  | succ j =>
   have := okEdges_ok h.2 j o e (by simpa using ho) he hb
   omega
theorem any_ok {A : Array Oper} {Q : Exit → Act → World → Prop} {fs : List Foot} {TT : Nat → Nat → Option TV} {HH : Nat → Nat → Option Ob} {K : Gh → Act → World → Prop} (hlen : fs.length = A.size) (hi : ∀ (j : Nat) f, fs[j]? = some f → f.i = j)
  (hs : ∀ (k : Nat) f, fs[k]? = some f → StepSem P E M0 w0 (fun KK a w => wpOpIn (Fw rr) nn_ P A Q k KK a w) f (TT k) (HH k) (TT (k + 1)) (HH (k + 1))) (hE : okEdges 0 A.toList = true) (hP : okPairs (preds A.toList) fs = true)
  (g0 : Gh) (W0 : World) (hQ : ∀ g a w, FrF P E M0 w0 g (TT fs.length) (HH fs.length) a w → Later g0 W0 g w → Q .normal a w) :
  ∀ (fuel : Nat) (listed : Array Bool) (g : Gh) (a : Act) (w : World), listed.size = A.size → ((List.range A.size).filter fun k => !listed.getD k true).length ≤ fuel → Closed A.toList (fun k => listed.getD k false) →
   FrF P E M0 w0 g (XF TT (fun k => ((fs[k]?).map (·.tw)).getD []) (fun k => listed.getD k false) fs.length) (XF HH (fun k => ((fs[k]?).map (·.wr)).getD []) (fun k => listed.getD k false) fs.length) a w → Later g0 W0 g w →
   wpAnyIn (Fw rr) nn_ P .any A Q fuel listed a w := by
 have hget : ∀ k, k < fs.length → ∃ f, fs[k]? = some f := fun k hk => ⟨_, List.getElem?_eq_getElem hk⟩
 have houtT : ∀ k, k < fs.length → ∀ x, x ∉ ((fs[k]?).map (·.tw)).getD [] → TT (k + 1) x = TT k x := by
  intro k hk x hx
  obtain ⟨f, hf⟩ := hget k hk
  rw [hf] at hx
  exact (hs k f hf).1 x (by simpa using hx)
 have houtH : ∀ k, k < fs.length → ∀ x, x ∉ ((fs[k]?).map (·.wr)).getD [] → HH (k + 1) x = HH k x := by
  intro k hk x hx
  obtain ⟨f, hf⟩ := hget k hk
  rw [hf] at hx
  exact (hs k f hf).2.1 x (by simpa using hx)
 intro fuel
 induction fuel with
 | zero =>
  intro listed g a w hsz hfu hcl hF hL
  have hall : ∀ k, k < A.size → listed.getD k true = true := by
   intro k hk
   cases h : listed.getD k true with
   | true => rfl
   | false =>
    have : k ∈ (List.range A.size).filter fun k => !listed.getD k true := List.mem_filter.2 ⟨List.mem_range.2 hk, by rw [h]; rfl⟩
    have := List.length_pos_of_mem this
    omega
  exact fin listed g a w hsz hall hF hL
 | succ fuel ih =>
  intro listed g a w hsz hfu hcl hF hL
  refine ⟨fun hnil => ?_, fun i hir => ?_⟩
  ·-- nothing is ready: all is done
   by_cases hall : ∀ k, k < A.size → listed.getD k true = true
   ·exact (fin listed g a w hsz hall hF hL).2
   ·exfalso
    have hex : ∃ k, k < A.size ∧ listed.getD k true = false := by
     rcases Classical.not_forall.1 hall with ⟨k, hk⟩
     rcases Classical.not_imp.1 hk with ⟨h1, h2⟩
     exact ⟨k, h1, by simpa using h2⟩
    have hmin : ∃ k, (k < A.size ∧ listed.getD k true = false) ∧ ∀ j, j < k → ¬ (j < A.size ∧ listed.getD j true = false) := by
     obtain ⟨k, hk⟩ := hex
     induction k using Nat.strongRecOn with
     | _ k ihk =>
      by_cases hj : ∃ j, j < k ∧ (j < A.size ∧ listed.getD j true = false)
      ·obtain ⟨j, hjk, hj⟩ := hj
       exact ihk j hjk hj
      ·exact ⟨k, hk, fun j hjk hj' => hj ⟨j, hjk, hj'⟩⟩
    obtain ⟨k, ⟨hk, hkf⟩, hk2⟩ := hmin
    have : k ∈ Region.ready .any A listed := by
     unfold Region.ready
     simp only [List.mem_filter, List.mem_range]
     refine ⟨hk, ?_⟩
     rw [hkf]
     have hAk : A[k]? = some A[k] := Array.getElem?_eq_getElem hk
     simp only [hAk, Option.map_some, Option.getD_some, Bool.not_false, Bool.true_and]
     rw [Array.all_eq_true']
     intro e he
     cases hb : Region.binds .any e with
     | false => rfl
     | true =>
      have hlt := okEdges_ok hE k A[k] e (by simp [hAk]) (by simpa using he) hb
      have hn := hk2 e.on (by omega)
      have h3 : listed.getD e.on true = true := by
       cases h : listed.getD e.on true with
       | true => rfl
       | false => exact absurd ⟨by omega, h⟩ hn
      have h4 : listed.getD e.on false = true := by
       have hlt2 : e.on < listed.size := by omega
       simp only [Array.getD, hlt2, dite_true] at h3 ⊢
       exact h3
      simp [h4]
    rw [hnil] at this; simp at this
  ·-- one that is ready
   unfold Region.ready at hir
   simp only [List.mem_filter, List.mem_range, Bool.and_eq_true, Bool.not_eq_true'] at hir
   obtain ⟨hiA, hnl, hed⟩ := hir
   have hisz : i < listed.size := by omega
   have hSi : listed.getD i false = false := by
    simp only [Array.getD, hisz, dite_true] at hnl ⊢
    exact hnl
   have hAi : A[i]? = some A[i] := Array.getElem?_eq_getElem hiA
   rw [hAi] at hed
   simp only [Option.map_some, Option.getD_some, Array.all_eq_true', Bool.or_eq_true, Bool.not_eq_true'] at hed
   have hready : ∀ o e, A.toList[i]? = some o → e ∈ o.after.toList → Region.binds .any e = true → listed.getD e.on false = true := by
    intro o e ho he hb
    have : o = A[i] := by
     have : A[i]? = some o := by simpa using ho
     rw [hAi] at this; exact (Option.some.inj this).symm
    subst this
    rcases hed e (by simpa using he) with h | h
    ·rw [hb] at h; simp at h
    ·exact h
   have hpre : ∀ j, j ∈ (preds A.toList).getD i [] → listed.getD j false = true := fun j hj => (preds_rch hj).closed hcl hready
   obtain ⟨f, hf⟩ := hget i (by omega)
   have hfi := hi i f hf
   have hbefore : ∀ k fk, fs[k]? = some fk → k < i → clash fk f = true → listed.getD k false = true := by
    intro k fk hk hki hc
    have := okPairs_ok hP k i fk f hki hk hf hc
    rw [hi k fk hk, hfi] at this
    exact hpre k this
   have hbehind : ∀ k fk, fs[k]? = some fk → i < k → clash f fk = true → listed.getD k false = false := by
    intro k fk hk hik hc
    cases hl : listed.getD k false with
    | false => rfl
    | true =>
     have := okPairs_ok hP i k f fk hik hf hk hc
     rw [hi k fk hk, hfi] at this
     have := (preds_rch this).closed hcl (fun o e ho he hb => hcl k o e hl ho he hb)
     rw [hSi] at this; simp at this
   have hTat : ∀ t, t ∈ f.tr ∨ t ∈ f.tw → XF TT (fun k => ((fs[k]?).map (·.tw)).getD []) (fun k => listed.getD k false) fs.length t = TT i t := by
    intro t ht
    refine XF_at houtT (by omega) (fun k hk hx => ?_) (fun k hk hx => ?_)
    ·obtain ⟨fk, hfk⟩ := hget k (by omega)
     rw [hfk] at hx
     refine hbefore k fk hfk hk ?_
     simp only [clash, Bool.or_eq_true]
     refine .inl (.inr (meets_iff.2 ⟨t, by simpa using hx, ?_⟩))
     rw [List.mem_append]; exact ht
    ·rcases Nat.eq_or_lt_of_le hk with rfl | hk
     ·exact hSi
     ·cases hfk : fs[k]? with
      | none => rw [hfk] at hx; simp at hx
      | some fk =>
       rw [hfk] at hx
       refine hbehind k fk hfk hk ?_
       simp only [clash, Bool.or_eq_true]
       rcases ht with ht | ht
       ·exact .inr (meets_iff.2 ⟨t, ht, by simpa using hx⟩)
       ·exact .inl (.inr (meets_iff.2 ⟨t, ht, by rw [List.mem_append]; exact .inr (by simpa using hx)⟩))
   have hHat : ∀ t, t ∈ f.rd ∨ t ∈ f.wr → XF HH (fun k => ((fs[k]?).map (·.wr)).getD []) (fun k => listed.getD k false) fs.length t = HH i t := by
    intro t ht
    refine XF_at houtH (by omega) (fun k hk hx => ?_) (fun k hk hx => ?_)
    ·obtain ⟨fk, hfk⟩ := hget k (by omega)
     rw [hfk] at hx
     refine hbefore k fk hfk hk ?_
     simp only [clash, Bool.or_eq_true]
     refine .inl (.inl (.inl (meets_iff.2 ⟨t, by simpa using hx, ?_⟩)))
     rw [List.mem_append]; exact ht
    ·rcases Nat.eq_or_lt_of_le hk with rfl | hk
     ·exact hSi
     ·cases hfk : fs[k]? with
      | none => rw [hfk] at hx; simp at hx
      | some fk =>
       rw [hfk] at hx
       refine hbehind k fk hfk hk ?_
       simp only [clash, Bool.or_eq_true]
       rcases ht with ht | ht
       ·exact .inl (.inl (.inr (meets_iff.2 ⟨t, ht, by simpa using hx⟩)))
       ·exact .inl (.inl (.inl (meets_iff.2 ⟨t, ht, by rw [List.mem_append]; exact .inr (by simpa using hx)⟩)))
   have hS' : (fun k => (listed.setIfInBounds i true).getD k false) = fun k => listed.getD k false || k == i := by
    funext k
    by_cases hk : k = i
    ·subst hk; simp [Array.getD, hisz]
    ·have : (listed.setIfInBounds i true)[k]? = listed[k]? := Array.getElem?_setIfInBounds_ne (fun e => hk e.symm)
     simp only [Array.getD_eq_getD_getElem?, this]
     simp [hk]
   refine (hs i f hf).2.2 _ _ g a w _ hF (fun t ht => hTat t (.inl ht)) hHat ?_
   intro g' a' w' hF' hL'
   refine ih (listed.setIfInBounds i true) g' a' w' (by simpa using hsz) ?_ ?_ ?_ (hL.trans hL')
   ·have hsub : ((List.range A.size).filter fun k => !(listed.setIfInBounds i true).getD k true) = (((List.range A.size).filter fun k => !listed.getD k true).filter fun k => k != i) := by
     rw [List.filter_filter]
     congr 1
     funext k
     by_cases hk : k = i
     ·subst hk; simp [Array.getD, hisz]
     ·have : (listed.setIfInBounds i true)[k]? = listed[k]? := Array.getElem?_setIfInBounds_ne (fun e => hk e.symm)
      simp only [Array.getD_eq_getD_getElem?, this]
      simp [hk]
    rw [hsub]
    have hmem : i ∈ (List.range A.size).filter fun k => !listed.getD k true := List.mem_filter.2 ⟨List.mem_range.2 hiA, by rw [hnl]; rfl⟩
    have : (((List.range A.size).filter fun k => !listed.getD k true).filter fun k => k != i).length < ((List.range A.size).filter fun k => !listed.getD k true).length := by
     rw [List.length_filter_lt_length_iff_exists]
     exact ⟨i, hmem, by simp⟩
    omega
   ·rw [hS']
    intro k o e hk ho he hb
    simp only [Bool.or_eq_true, beq_iff_eq] at hk ⊢
    rcases hk with hk | rfl
    ·exact .inl (hcl k o e hk ho he hb)
    ·exact .inl (hready o e ho he hb)
   ·have e1 := XF_step (F := TT) (W := fun k => ((fs[k]?).map (·.tw)).getD []) (S := fun k => listed.getD k false) (n := fs.length) houtT (i := i) (by omega) hSi
     (fun x hx k hk hxk => by
      obtain ⟨fk, hfk⟩ := hget k (by omega)
      rw [hfk] at hxk
      rw [hf] at hx
      exact hbefore k fk hfk hk (by
       simp only [clash, Bool.or_eq_true]
       exact .inl (.inr (meets_iff.2 ⟨x, by simpa using hxk, by rw [List.mem_append]; exact .inr (by simpa using hx)⟩))))
     (fun x hx k hk hxk => by
      cases hfk : fs[k]? with
      | none => rw [hfk] at hxk; simp at hxk
      | some fk =>
       rw [hfk] at hxk
       rw [hf] at hx
       exact hbehind k fk hfk hk (by
        simp only [clash, Bool.or_eq_true]
        exact .inl (.inr (meets_iff.2 ⟨x, by simpa using hx, by rw [List.mem_append]; exact .inr (by simpa using hxk)⟩))))
    have e2 := XF_step (F := HH) (W := fun k => ((fs[k]?).map (·.wr)).getD []) (S := fun k => listed.getD k false) (n := fs.length) houtH (i := i) (by omega) hSi
     (fun x hx k hk hxk => by
      obtain ⟨fk, hfk⟩ := hget k (by omega)
      rw [hfk] at hxk
      rw [hf] at hx
      exact hbefore k fk hfk hk (by
       simp only [clash, Bool.or_eq_true]
       exact .inl (.inl (.inl (meets_iff.2 ⟨x, by simpa using hxk, by rw [List.mem_append]; exact .inr (by simpa using hx)⟩)))))
     (fun x hx k hk hxk => by
      cases hfk : fs[k]? with
      | none => rw [hfk] at hxk; simp at hxk
      | some fk =>
       rw [hfk] at hxk
       rw [hf] at hx
       exact hbehind k fk hfk hk (by
        simp only [clash, Bool.or_eq_true]
        exact .inl (.inl (.inl (meets_iff.2 ⟨x, by simpa using hx, by rw [List.mem_append]; exact .inr (by simpa using hxk)⟩)))))
    rw [hS', e1, e2]
    simpa only [hf, Option.map_some, Option.getD_some] using hF'
where
 fin (listed : Array Bool) (g : Gh) (a : Act) (w : World) (hsz : listed.size = A.size) (hall : ∀ k, k < A.size → listed.getD k true = true)
   (hF : FrF P E M0 w0 g (XF TT (fun k => ((fs[k]?).map (·.tw)).getD []) (fun k => listed.getD k false) fs.length) (XF HH (fun k => ((fs[k]?).map (·.wr)).getD []) (fun k => listed.getD k false) fs.length) a w) (hL : Later g0 W0 g w) :
   Region.ready .any A listed = [] ∧ Q .normal a w := by
  have hS : ∀ k, k < A.size → listed.getD k false = true := by
   intro k hk
   have := hall k hk
   have hlt2 : k < listed.size := by omega
   simp only [Array.getD, hlt2, dite_true] at this ⊢
   exact this
  have e1 : XF TT (fun k => ((fs[k]?).map (·.tw)).getD []) (fun k => listed.getD k false) fs.length = TT fs.length := by
   funext x
   exact XF_upto (n := fs.length) (fun k hk x hx => by
    have hf : fs[k]? = some fs[k] := List.getElem?_eq_getElem hk
    rw [hf] at hx
    exact (hs k _ hf).1 x (by simpa using hx)) (Nat.le_refl _) (fun k hk _ => hS k (by omega)) _ (Nat.le_refl _)
  have e2 : XF HH (fun k => ((fs[k]?).map (·.wr)).getD []) (fun k => listed.getD k false) fs.length = HH fs.length := by
   funext x
   exact XF_upto (n := fs.length) (fun k hk x hx => by
    have hf : fs[k]? = some fs[k] := List.getElem?_eq_getElem hk
    rw [hf] at hx
    exact (hs k _ hf).2.1 x (by simpa using hx)) (Nat.le_refl _) (fun k hk _ => hS k (by omega)) _ (Nat.le_refl _)
  rw [e1, e2] at hF
  refine ⟨?_, hQ g a w hF hL⟩
  unfold Region.ready
  rw [List.filter_eq_nil_iff]
  intro k hk
  simp only [List.mem_range] at hk
  rw [hall k hk]; simp
theorem regionX_ok (hO : OpsOk P E) (hm : P.follows .mixedOrders = true) {id : Nat} {A : Array Oper} {draw : Bool} {K : St → Option R} {r : R} {Q : Exit → Act → World → Prop}
  (h : regionX (!draw) E A.toList (if draw then (fun fs => okEdges 0 A.toList && okPairs (preds A.toList) fs) else fun _ => true) 0 A.toList [] σ K = some r) (hF : Fr P E M0 w0 g σ a w)
  (hK : ∀ σ' g' a' w', K σ' = some r → Fr P E M0 w0 g' σ' a' w' → Later g w g' w' → Q .normal a' w') : (Code.region id A draw).wpIn (Fw rr) nn_ P Q a w := by
 cases draw with
 | false =>
  refine wpIn_region ?_
  rw [List.range_eq_range', ← Array.length_toList]
  exact region_ok hO A.toList 0 [] σ a w g h (fun j o hj => by simpa using hj) hF hK
 | true =>
  refine wpIn_region_any hm ?_
  simp only [if_true] at h
  obtain ⟨fs, σ', h1, h2, h3, h4⟩ := region_chain hO (rr := rr) (nn_ := nn_) (P := P) (M0 := M0) (w0 := w0) (Q := Q) A.toList 0 [] σ h (fun j o hj => by simpa using hj)
  simp only [List.nil_append, Bool.and_eq_true] at h2
  obtain ⟨TT, HH, e1, e2, e3, e4, h5⟩ := h4.fn
  have hdrew : Fr P E M0 w0 g σ a w.drew := by
   have hk : Keeps (Free g (hp σ) w fun _ => False) w w.drew := Keeps.drew _ _
   obtain ⟨hI, _⟩ := hF.inv.frame (w' := w.drew) (g' := g) (H' := fun i => σ.heap[i]?) (fun _ => False) (fun _ _ => rfl) (fun i o h => h.elim) (fun i j o o' p _ h => h.elim) (fun b p h => .inl h) hk (Ext.refl g) hF.inv.no
   exact ⟨hI, hF.fv.mono (Ext.refl g) (fun _ _ _ => rfl) (Nat.le_refl _), hF.tm.ext (Ext.refl g) (fun _ _ _ => rfl), hF.nt, hF.df.keep (KeepsOthers.drew w)⟩
  have hS0 : (fun k => (Array.replicate A.size false).getD k false) = fun _ => false := by
   funext k
   simp only [Array.getD]
   split <;> simp
  have hXT : ∀ (F : Nat → Nat → Option TV) (W : Nat → List Nat) (n : Nat), XF F W (fun _ => false) n = F 0 := by
   intro F W n
   induction n with
   | zero => rfl
   | succ n ih => funext x; simp [XF, ih]
  have hXH : ∀ (F : Nat → Nat → Option Ob) (W : Nat → List Nat) (n : Nat), XF F W (fun _ => false) n = F 0 := by
   intro F W n
   induction n with
   | zero => rfl
   | succ n ih => funext x; simp [XF, ih]
  refine any_ok (P := P) (E := E) (M0 := M0) (w0 := w0) (K := fun _ _ _ => True) (by rw [h1]; simp) (fun j f hj => by have := h4.len j f hj; omega) (fun k f hk => by have := h5 k f hk; rwa [Nat.zero_add] at this) h2.1 h2.2 g w.drew
   (fun g' a' w' hF' hL' => ?_) A.size (Array.replicate A.size false) g a w.drew (by simp) ?_ ?_ ?_ (Later.refl _ _)
  ·rw [e3, e4] at hF'
   exact hK σ' g' a' w' h3 hF'.fr ⟨hL'.ext, fun b p hp => hL'.st b p hp, (KeepsOthers.drew w).trans hL'.ko⟩
  ·exact Nat.le_trans (List.length_filter_le _ _) (by simp)
  ·rw [hS0]
   intro i o e h
   simp at h
  ·rw [hS0, hXT, hXH, e1, e2]
   exact hdrew.f
end Go.Proofs.YtdhifkdijlghdaaGreatDoorA
