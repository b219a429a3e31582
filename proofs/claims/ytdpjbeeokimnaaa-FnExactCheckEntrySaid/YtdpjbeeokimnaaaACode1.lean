/-
  A region without a draw: the model's operations one by one. No condition.
-/
import Derived.Test.YtdpjbeeokimnaaaAOps8
namespace Go.Proofs.YtdpjbeeokimnaaaA
open Go
set_option linter.unusedVariables false
set_option linter.unusedSimpArgs false

variable {P : Program} {M0 : Addr → Prop} {w0 w : World} {g : Gh} {H : Nat → Option Ob}

/-! ### Functions that are called -/
def HasBody (P : Program) (f : Nat) : Prop := ∃ fn c, P.funcs[f]? = some fn ∧ (fn.name == "runtime.NumGoroutine") = false ∧ fn.body = some c
def g00 : Gh := ⟨fun _ => .none, fun _ _ => False, fun _ => undef⟩
/-- A function value computes what a function of the small machine's says, as long as these cells are as they were. -/
def FnR (P : Program) (w : World) (S : Addr → Prop) (v : Value) (gf : GV) : Prop :=
  ∃ f caps, v = .func (.func f) #[] caps ∧ HasBody P f ∧ ∀ w', (∀ p, S p → w'.cell? p = w.cell? p) → w.heap.size ≤ w'.heap.size → ∀ vs rs, gf.sem vs = some rs → noSl vs = true → ∀ us, F2 (V1R g00 w') vs us →
    Calls P f (us.toArray ++ caps) w' fun e w'' => ∃ rv, e = .returned rv ∧ noSl (gf.enc rs) = true ∧ TVR g00 w'' (tvOf (gf.enc rs)) rv ∧ Keeps (fun _ => False) w' w''
def FvOk (P : Program) (g : Gh) (w : World) (gv : List GV) : Prop := ∀ j gf, gv[j]? = some gf → FnR P w (fun p => ∃ b, g.L b p) (g.fv j) gf
theorem FvOk.mono {g' : Gh} {w' : World} {gv : List GV} (h : FvOk P g w gv) (he : Ext g g') (hw : ∀ b p, g.L b p → w'.cell? p = w.cell? p) (hs : w.heap.size ≤ w'.heap.size) : FvOk P g' w' gv := by
  intro j gf hj
  obtain ⟨f, caps, hv, hb, hc⟩ := h j gf hj
  refine ⟨f, caps, by rw [he.fv]; exact hv, hb, fun w'' hw'' hs'' => hc w'' (fun p ⟨b, hp⟩ => ?_) (Nat.le_trans hs hs'')⟩
  rw [hw'' p ⟨b, he.L b p hp⟩, hw b p hp]

/-- What a function of the small machine's hands back, as objects with numbers of their own. -/
def backX : List Exit1 → List (List C) → Nat → Option (List (Nat × Nat) × List Ob)
  | [], [], _ => some ([], [])
  | x :: xs, io :: ios, nid =>
    match (match x.ptr with
      | some i0 => (imCs id (nid + 1) io).map fun (a : List C × List Ob) => ([(i0, nid)], Ob.box a.1 :: a.2)
      | none => (imCs id nid io).bind fun (a : List C × List Ob) => if a.2.length = x.own.length ∧ io.length = x.own.length then some (x.own.zip ((List.range a.2.length).map (nid + ·)), a.2) else none) with
    | none => none
    | some (ps, n) => match backX xs ios (nid + n.length) with
      | none => none
      | some (ps', n') => some (ps ++ ps', n ++ n')
  | _, _, _ => none
def canon (r : CRes) (xs : List Exit1) : Option (List V1 × List Ob × List (Nat × Nat)) :=
  match imVs id 0 r.vals with
  | none => none
  | some (vs, n) => match backX xs r.ios n.length with
    | none => none
    | some (ps, n') => some (vs, n ++ n', ps)
/-- THE CONTRACT of a function of the small machine's. -/
def FOk (P : Program) (f : Nat) (fi : FI) : Prop :=
  HasBody P f ∧ ∀ args a, fi.sem args = some a → ∀ tvs h xs gs, enter 0 0 0 args = some (tvs, h, xs, gs) → ∀ (w : World) (g : Gh) (M0 : Addr → Prop) (us : List Value),
    Inv M0 w g (fun i => h[i]?) w → (∀ p, ¬ g.L 0 p) → FvOk P g w gs → F2 (TVR g w) tvs us →
    Calls P f us.toArray w fun e w' => ∃ rv vs h2 ps g2, e = .returned rv ∧ canon (fi.out a) xs = some (vs, h2, ps) ∧ Inv M0 w g2 (fun i => h2[i]?) w' ∧ TVR g2 w' (tvOf vs) rv ∧
      (∀ i j, (i, j) ∈ ps → g2.loc j = g.loc i) ∧ (∀ b p, b ≠ 0 → g2.L b p → g.L b p) ∧ (∀ b p, g.L b p → w'.cell? p = w.cell? p)
structure EOk (P : Program) (E : Env) : Prop where
  tt : TtOk P E.tt
  fi : ∀ f fi, E.fi f = some fi → FOk P f fi

/-! ### One operation, calls too -/
/-- The operation is run: whatever goes on from what it leaves. -/
def Runs (P : Program) (o : Oper) (a : Act) (w : World) (R : Value → World → Prop) : Prop := ∀ K Q, (∀ v w', R v w' → K (a.put o.dst v) w') → o.wp P a w K Q
theorem Does.runs {o : Oper} {a : Act} {v : Value} {w' : World} (h : Does P o a w v w') {R : Value → World → Prop} (hr : R v w') : Runs P o a w R := by
  intro K Q hK
  unfold Oper.wp
  rcases h with h | ⟨h, rfl⟩
  · rw [h]; exact hK _ _ hr
  · rw [h]; exact hK _ _ hr
def Goes (E : Env) (r : Res1) (e : Eff) : Prop := r.g = true ∧ match r.act with
  | .done e' => e' = e
  | .call f args post => ∃ fi a, E.fi f = some fi ∧ fi.sem args = some a ∧ post (fi.out a) = some e
  | .callv j args post => ∃ (gf : GV) (rs : TL SV.T gf.outs), E.gv[j]? = some gf ∧ gf.sem args = some rs ∧ post (gf.enc rs) = some e
theorem Res1.go_some {R : Type} {E : Env} {heap : List Ob} {K : Eff → Option R} {r : Res1} {x : R} (h : r.go E heap K = some x) : ∃ e, Goes E r e ∧ K e = some x := by
  unfold Res1.go at h
  cases hg : r.g with
  | false => rw [hg] at h; simp at h
  | true =>
    rw [hg] at h
    simp only [cond_true] at h
    unfold Goes
    cases ha : r.act with
    | done e => rw [ha] at h; exact ⟨e, ⟨hg, rfl⟩, h⟩
    | call f args post =>
      rw [ha] at h
      dsimp only at h
      cases hf : E.fi f with
      | none => rw [hf] at h; simp at h
      | some fi =>
        rw [hf] at h
        obtain ⟨a, h1, h2⟩ := Option.bind_eq_some_iff.1 h
        cases hp : post (fi.out a) with
        | none => rw [hp] at h2; simp at h2
        | some e => rw [hp] at h2; exact ⟨e, ⟨hg, fi, a, hf, h1, hp⟩, h2⟩
    | callv j args post =>
      rw [ha] at h
      dsimp only at h
      cases hf : E.gv[j]? with
      | none => rw [hf] at h; simp at h
      | some gf =>
        rw [hf] at h
        obtain ⟨a, h1, h2⟩ := Option.bind_eq_some_iff.1 h
        cases hp : post (gf.enc a) with
        | none => rw [hp] at h2; simp at h2
        | some e => rw [hp] at h2; exact ⟨e, ⟨hg, gf, a, hf, h1, hp⟩, h2⟩
/-- ONE OPERATION. -/
def OpsOk1 (P : Program) (E : Env) : Prop := ∀ (o : Oper) (a : Act) (tmps : List (Nat × TV)) (nid : Nat) (M0 : Addr → Prop) (w0 w : World) (g : Gh) (H : Nat → Option Ob) (r : Res1) (l : List Nat) (e : Eff),
  Inv M0 w0 g H w → FvOk P g w E.gv → TmR g w tmps a → (∀ i, nid ≤ i → i < nid + e.news.length → H i = none) → pre E o (ev tmps) nid H = some (r, l) → Goes E r e → Runs P o a w (fun v w' => Good M0 w0 g H w nid e v w' ∧ w.heap.size ≤ w'.heap.size)
structure OpsOk (P : Program) (E : Env) : Prop where
  tt : TtOk P E.tt
  op : OpsOk1 P E

/-! ### A frame's state -/
structure Fr (P : Program) (E : Env) (M0 : Addr → Prop) (w0 : World) (g : Gh) (σ : St) (a : Act) (w : World) : Prop where
  inv : Inv M0 w0 g (fun i => σ.heap[i]?) w
  fv : FvOk P g w E.gv
  tm : TmR g w σ.tmps a
  nt : E.nt ≤ a.tmps.size
  df : a.defers = []
theorem lk_putT (l : List (Nat × TV)) (t : Nat) (x : TV) (u : Nat) : lk (putT l t x) u = if u = t then some x else lk l u := by
  induction l with
  | nil =>
    simp only [putT, lk]
    by_cases h : t = u
    · subst h; simp
    · rw [if_neg h, if_neg (fun h' => h h'.symm)]
  | cons p r ih =>
    obtain ⟨v, y⟩ := p
    simp only [putT]
    split
    · rename_i hv; subst hv
      simp only [lk]
      by_cases h : v = u
      · subst h; simp
      · rw [if_neg h, if_neg h, if_neg (fun h' => h h'.symm)]
    · rename_i hv
      simp only [lk, ih]
      by_cases h : v = u
      · subst h; rw [if_pos rfl, if_neg hv, if_pos rfl]
      · rw [if_neg h, if_neg h]
theorem TmR.put {tmps : List (Nat × TV)} {a : Act} (h : TmR g w tmps a) {x : TV} {v : Value} (hv : TVR g w x v) {t : Nat} (ht : t < a.tmps.size) : TmR g w (putT tmps t x) (a.put (some t) v) := by
  intro u y hu
  rw [lk_putT] at hu
  split at hu
  · rename_i e; subst e
    cases hu
    exact ⟨v, by simp [Act.put, ht], hv⟩
  · rename_i hne
    obtain ⟨u', h1, h2⟩ := h u y hu
    exact ⟨u', by simp only [Act.put]; rw [Array.getElem?_setIfInBounds_ne (fun e => hne e.symm)]; exact h1, h2⟩
theorem TmR.ext {g' : Gh} {w' : World} {tmps : List (Nat × TV)} {a : Act} (h : TmR g w tmps a) (he : Ext g g') (hw : ∀ b p, g.L b p → w'.cell? p = w.cell? p) : TmR g' w' tmps a := fun t v ht =>
  let ⟨u, h1, h2⟩ := h t v ht
  ⟨u, h1, TVR.ext he hw v u h2⟩
theorem put_size (a : Act) (d : Option Nat) (v : Value) : (a.put d v).tmps.size = a.tmps.size := by cases d <;> simp [Act.put]
theorem put_defers' (a : Act) (d : Option Nat) (v : Value) : (a.put d v).defers = a.defers := by cases d <;> rfl
theorem getElem?_setO : ∀ (u : List (Nat × Ob)) (h : List Ob) (i : Nat), i < h.length → (setO h u)[i]? = lkU u i h[i]? ∧ (setO h u).length = h.length
  | [], h, i, hi => ⟨rfl, rfl⟩
  | (j, o) :: r, h, i, hi => by
    have := getElem?_setO r (h.set j o) i (by simpa using hi)
    simp only [setO, List.foldl_cons] at this ⊢
    refine ⟨?_, by simpa using this.2⟩
    rw [this.1]
    simp only [lkU]
    congr 1
    rw [List.getElem?_set]
    by_cases e : j = i
    · subst e; simp [hi]
    · simp [e]
theorem setO_length : ∀ (u : List (Nat × Ob)) (h : List Ob), (setO h u).length = h.length
  | [], h => rfl
  | (j, o) :: r, h => by
    have := setO_length r (h.set j o)
    simp only [setO, List.foldl_cons] at this ⊢
    simpa using this
/-- Only objects that are there are turned. -/
theorem lkU_none : ∀ (u : List (Nat × Ob)) (i : Nat), (∀ x ∈ u, x.1 ≠ i) → ∀ d, lkU u i d = d
  | [], i, h, d => rfl
  | (j, o) :: r, i, h, d => by
    simp only [lkU]
    rw [if_neg (h (j, o) (by simp)), lkU_none r i (fun x hx => h x (by simp [hx]))]
theorem apH_heap {h : List Ob} {e : Eff} (hu : ∀ x ∈ e.upd, x.1 < h.length) : apH (fun i => h[i]?) h.length e = fun i => (setO h e.upd ++ e.news)[i]? := by
  funext i
  simp only [apH]
  rw [List.getElem?_append, setO_length]
  split
  · rename_i hi
    rw [if_neg (by omega)]
  · split
    · rename_i h1 h2
      rw [(getElem?_setO e.upd h i h2).1]
    · rename_i h1 h2
      rw [lkU_none _ _ (fun x hx => by have := hu x hx; omega)]
      rw [List.getElem?_eq_none (by omega), List.getElem?_eq_none (by omega)]
end Go.Proofs.YtdpjbeeokimnaaaA
