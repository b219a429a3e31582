/-
  A region without a draw: the model's operations one by one. No condition.
-/
import Derived.Test.YtdhifkdijlghdaaGreatDoorAOps8
import Derived.CallsIn
import Derived.OrdersIn
import Derived.LoopNIn
import Derived.RangeFuncCalls
namespace Go.Proofs.YtdhifkdijlghdaaGreatDoorA
open Go
set_option linter.unusedVariables false
set_option linter.unusedSimpArgs false
variable {P : Program} {M0 : Addr → Prop} {w0 w : World} {g : Gh} {H : Nat → Option Ob}
def HasBody (P : Program) (f : Nat) : Prop := ∃ fn c, P.funcs[f]? = some fn ∧ (fn.name == "runtime.NumGoroutine") = false ∧ fn.body = some c
def g00 : Gh := ⟨fun _ => .none, fun _ _ => False, fun _ => undef⟩
def FnR (P : Program) (w : World) (S : Addr → Prop) (v : Value) (gf : GV) : Prop :=
 ∃ f caps, v = .func (.func f) #[] caps ∧ HasBody P f ∧ ∀ w', (∀ p, S p → w'.cell? p = w.cell? p) → w.heap.size ≤ w'.heap.size → TabZ w' → ∀ vs rs, gf.sem vs = some rs → noSl vs = true → ∀ us, F2 (V1R g00 w') vs us →
  Calls P f (us.toArray ++ caps) w' fun e w'' => ∃ rv, e = .returned rv ∧ noSl (gf.enc rs) = true ∧ TVR g00 w'' (tvOf (gf.enc rs)) rv ∧ Keeps (fun _ => False) w' w''
structure FvOk (P : Program) (g : Gh) (w : World) (gv : List GV) : Prop where
 tab : Tab (fun p => ∃ b, g.L b p) w
 fn : ∀ j gf, gv[j]? = some gf → FnR P w (fun p => ∃ b, g.L b p) (g.fv j) gf
theorem FvOk.mono {g' : Gh} {w' : World} {gv : List GV} (h : FvOk P g w gv) (he : Ext g g') (hw : ∀ b p, g.L b p → w'.cell? p = w.cell? p) (hs : w.heap.size ≤ w'.heap.size) : FvOk P g' w' gv := by
 refine ⟨h.tab.mono (fun p ⟨b, hp⟩ => ⟨b, he.L b p hp⟩) (fun p ⟨b, hp⟩ => hw b p hp), ?_⟩
 intro j gf hj
 obtain ⟨f, caps, hv, hb, hc⟩ := h.fn j gf hj
 refine ⟨f, caps, by rw [he.fv]; exact hv, hb, fun w'' hw'' hs'' => hc w'' (fun p ⟨b, hp⟩ => ?_) (Nat.le_trans hs hs'')⟩
 rw [hw'' p ⟨b, he.L b p hp⟩, hw b p hp]
def backX : List Exit1 → List (List C) → Nat → Option (List (Nat × Nat) × List Ob)
 | [], [], _ => some ([], [])
 | x :: xs, io :: ios, nid =>
  match (match x.ptr with
   | some i0 => (imCs id (nid + 1) io).map fun (a : List C × List Ob) => ([(i0, nid)], Ob.box a.1 :: a.2)
   | none => (imCs id nid io).bind fun (a : List C × List Ob) => if (a.2.length = x.own.length ∧ io.length = x.own.length) ∨ io = [] then some (x.own.zip ((List.range a.2.length).map (nid + ·)), a.2) else none) with
  | none => none
  | some (ps, n) => match backX xs ios (nid + n.length) with
   | none => none
   | some (ps', n') => some (ps ++ ps', n ++ n')
 | _, _, _ => none
def canon (r : CRes) (xs : List Exit1) : Option (List V1 × List Ob × List (Nat × Nat)) :=
 match imVs id 0 r.vals with
 | none => none
 | some (vs, n) => match backX xs r.ios n.length with
  | none => none
  | some (ps, n') => some (vs, n ++ n', ps)
def FOk (P : Program) (f : Nat) (fi : FI) : Prop :=
 HasBody P f ∧ ∀ args a, fi.sem args = some a → ∀ tvs h xs gs, enter 0 0 0 args = some (tvs, h, xs, gs) → ∀ (w : World) (g : Gh) (M0 : Addr → Prop) (us : List Value),
  Inv M0 w g (fun i => h[i]?) w → (∀ p, ¬ g.L 0 p) → FvOk P g w gs → F2 (TVR g w) tvs us →
  Calls P f us.toArray w fun e w' => ∃ rv vs h2 ps g2, e = .returned rv ∧ canon (fi.out a) xs = some (vs, h2, ps) ∧ Inv M0 w g2 (fun i => h2[i]?) w' ∧ TVR g2 w' (tvOf vs) rv ∧
   (∀ i j, (i, j) ∈ ps → g2.loc j = g.loc i) ∧ (∀ b p, b ≠ 0 → g2.L b p → g.L b p) ∧ (∀ b p, g.L b p → w'.cell? p = w.cell? p)
structure EOk (P : Program) (E : Env) : Prop where
 tt : TtOk P E.tt
 fi : ∀ f fi, E.fi f = some fi → FOk P f fi
def Fw : Option Nat → Fence
 | none => Fence.wide
 | some l => Fence.wide.inRound l
theorem Fw_fn (r : Option Nat) (f : FuncId) : (Fw r).fn f := by cases r <;> trivial
theorem Fw_depth (r : Option Nat) : (Fw r).depth = none := by cases r <;> rfl
theorem Fw_round (r : Option Nat) : (Fw r).round = r := by cases r <;> rfl
theorem Fw_calls {r : Option Nat} {n : Nat} {f : FuncId} {args : Array Value} {R : Ending → World → Prop} (h : Calls P f args w R) : CallsIn (Fw r) n P f args w R := by
 cases r with
 | none => exact callsIn_wide.2 h
 | some l => exact CallsIn.inRound l (callsIn_wide.2 h)
theorem semAt_ok {r : Option Nat} {o : Oper} {a : Act} {w' : World} {x : Next} (h : (execOp a.eval o).run P w = .ok x w') (hx : ∀ d, x ≠ .defer d) : Oper.semAt r a.eval o = execOp a.eval o := by
 refine Oper.semAt_eq r a.eval o fun c hc => ?_
 simp only [execOp, hc] at h
 have key : (∃ d, resolve a.eval c o.type = pure d) ∨ ∃ t, resolve a.eval c o.type = stuck t := by
  unfold resolve
  rcases c with ⟨callee, args, ts⟩
  cases callee with
  | builtin b => exact .inl ⟨_, rfl⟩
  | invoke r n => exact .inl ⟨_, rfl⟩
  | value f =>
   dsimp only
   unfold Deferred.ofValue
   split
   ·exact .inl ⟨_, rfl⟩
   ·exact .inl ⟨_, rfl⟩
   ·exact .inr ⟨_, rfl⟩
 rcases key with ⟨d, hd⟩ | ⟨t, ht⟩
 ·rw [hd] at h
  have h2 : Result.ok (.defer d) w = Result.ok x w' := h
  cases h2
  exact hx d rfl
 ·rw [ht] at h
  have h2 : (stuck t : Sem Next).run P w = Result.ok x w' := h
  cases h2
theorem wpIn_ok {r : Option Nat} {n : Nat} {o : Oper} {a : Act} {w' : World} {x : Next} {K : Act → World → Prop} {Q : Exit → Act → World → Prop} (h : (execOp a.eval o).run P w = .ok x w') (hx : ∀ d, x ≠ .defer d) (hu : o.uponIn (Fw r) n P a K Q (.ok x w')) : o.wpIn (Fw r) n P a w K Q := by
 refine ⟨fun f _ => Fw_fn r f, ?_⟩
 rw [Fw_round, semAt_ok h hx, h]
 exact hu
def Runs (P : Program) (o : Oper) (a : Act) (w : World) (R : Value → World → Prop) : Prop := ∀ (r : Option Nat) (n : Nat) K Q, (∀ v w', R v w' → K (a.put o.dst v) w') → o.wpIn (Fw r) n P a w K Q
theorem Does.runs {o : Oper} {a : Act} {v : Value} {w' : World} (h : Does P o a w v w') {R : Value → World → Prop} (hr : R v w') : Runs P o a w R := by
 intro r n K Q hK
 rcases h with h | ⟨h, rfl⟩
 ·exact wpIn_ok h (fun _ => by simp) (hK _ _ hr)
 ·exact wpIn_ok h (fun _ => by simp) (hK _ _ hr)
def Goes (E : Env) (r : Res1) (e : Eff) : Prop := r.g = true ∧ match r.act with
 | .done e' => e' = e
 | .call f args post => ∃ fi a, E.fi f = some fi ∧ fi.sem args = some a ∧ post (fi.out a) = some e
 | .callv j args post => ∃ (gf : GV) (rs : TL SV.T gf.outs), E.gv[j]? = some gf ∧ gf.sem args = some rs ∧ post (gf.enc rs) = some e
theorem Res1.go_some {R : Type} {E : Env} {heap : List Ob} {K : Eff → Option R} {r : Res1} {x : R} (h : r.go E heap K = some x) : ∃ e, Goes E r e ∧ K e = some x := by
 unfold Res1.go at h
 cases hg : r.g with
 | false => rw [hg] at h; simp at h
 | true =>
  rw [hg] at h
  simp only [cond_true] at h
  unfold Goes
  cases ha : r.act with
  | done e => rw [ha] at h; exact ⟨e, ⟨hg, rfl⟩, h⟩
  | call f args post =>
   rw [ha] at h
   dsimp only at h
   cases hf : E.fi f with
   | none => rw [hf] at h; simp at h
   | some fi =>
    rw [hf] at h
    obtain ⟨a, h1, h2⟩ := Option.bind_eq_some_iff.1 h
    cases hp : post (fi.out a) with
    | none => rw [hp] at h2; simp at h2
    | some e => rw [hp] at h2; exact ⟨e, ⟨hg, fi, a, hf, h1, hp⟩, h2⟩
  | callv j args post =>
   rw [ha] at h
   dsimp only at h
   cases hf : E.gv[j]? with
   | none => rw [hf] at h; simp at h
   | some gf =>
    rw [hf] at h
    obtain ⟨a, h1, h2⟩ := Option.bind_eq_some_iff.1 h
    cases hp : post (gf.enc a) with
    | none => rw [hp] at h2; simp at h2
    | some e => rw [hp] at h2; exact ⟨e, ⟨hg, gf, a, hf, h1, hp⟩, h2⟩
def OpsOk1 (P : Program) (E : Env) : Prop := ∀ (o : Oper) (a : Act) (tmps : List (Nat × TV)) (nid : Nat) (M0 : Addr → Prop) (w0 w : World) (g : Gh) (H : Nat → Option Ob) (r : Res1) (l : List Nat) (e : Eff),
 Inv M0 w0 g H w → FvOk P g w E.gv → TmR g w tmps a → (∀ i, nid ≤ i → i < nid + e.news.length → H i = none) → pre E o (ev tmps) nid H = some (r, l) → Goes E r e → Runs P o a w (fun v w' => Good M0 w0 g H w nid e v w' ∧ w.heap.size ≤ w'.heap.size)
structure OpsOk (P : Program) (E : Env) : Prop where
 tt : TtOk P E.tt
 op : OpsOk1 P E
theorem putObj_heap (w : World) (D : Nat) (o : Obj) (k : Nat) (h : D < w.heap.size) : (w.putObj D o).heap[k]? = if k = D then some o else w.heap[k]? := by
 simp only [World.putObj, Array.getElem?_setIfInBounds]
 by_cases e : D = k
 ·subst e; rw [if_pos rfl, if_pos h, if_pos rfl]
 ·rw [if_neg e, if_neg (fun h => e h.symm)]
theorem lt_of_heap {w : World} {D : Nat} {o : Obj} (h : w.heap[D]? = some o) : D < w.heap.size := by
 rcases Nat.lt_or_ge D w.heap.size with h1 | h1
 ·exact h1
 ·rw [Array.getElem?_eq_none h1] at h; cases h
theorem putObj_cell {w : World} {D : Nat} {o o' : Obj} (h : w.heap[D]? = some o) (hc : o.isCells = false) (hc' : o'.isCells = false) (p : Addr) : (w.putObj D o').cell? p = w.cell? p := by
 have h1 := putObj_heap w D o' p.block (lt_of_heap h)
 by_cases e : p.block = D
 ·rw [if_pos e] at h1
  rw [← e] at h
  unfold World.cell?
  rw [h1, h]
  cases o <;> cases o' <;> first | rfl | exact Bool.noConfusion (show true = false from hc) | exact Bool.noConfusion (show true = false from hc')
 ·rw [if_neg e] at h1
  unfold World.cell?
  rw [h1]
theorem putObj_frozen {w : World} {D : Nat} {o o' : Obj} (h : w.heap[D]? = some o) (hc : o.isCells = false) (hc' : o'.isCells = false) (p : Addr) : (w.putObj D o').frozen? p = w.frozen? p := by
 have h1 := putObj_heap w D o' p.block (lt_of_heap h)
 by_cases e : p.block = D
 ·rw [if_pos e] at h1
  rw [← e] at h
  unfold World.frozen?
  rw [h1, h]
  cases o <;> cases o' <;> first | rfl | exact Bool.noConfusion (show true = false from hc) | exact Bool.noConfusion (show true = false from hc')
 ·rw [if_neg e] at h1
  unfold World.frozen?
  rw [h1]
theorem putObj_size (w : World) (D : Nat) (o : Obj) : (w.putObj D o).heap.size = w.heap.size := by simp [World.putObj]
theorem Inv.putObj {D : Nat} {o o' : Obj} (h : Inv M0 w0 g H w) (hD : w0.heap.size ≤ D) (ho : w.heap[D]? = some o) (hc : o.isCells = false) (hc' : o'.isCells = false) : Inv M0 w0 g H (w.putObj D o') := by
 have c := putObj_cell ho hc hc'
 have f := putObj_frozen ho hc hc'
 refine ⟨fun id x hx => ObR.ext (Ext.refl g) (fun _ p _ => c p) (fun p _ => ⟨c p, f p⟩) (fun p hp => ⟨by rw [c]; exact hp, f p⟩) (fun b hb he e n hs => by
  rw [f]
  refine he e n ?_
  have h1 := putObj_heap w D o' b (lt_of_heap ho)
  by_cases e' : b = D
  ·rw [if_pos e'] at h1
   simp only [World.shape?, h1] at hs
   cases o' <;> first | (cases hs; done) | exact Bool.noConfusion (show true = false from hc')
  ·rw [if_neg e'] at h1
   simp only [World.shape?, h1] at hs ⊢
   exact hs) (h.ob id x hx), h.dj, h.st, h.al, h.no, fun b p hp => by rw [putObj_size]; exact h.lt b p hp, h.l0, ?_, fun x hx => by
  obtain ⟨e, he⟩ := h.tz x hx
  have h1 := putObj_heap w D o' x.1 (lt_of_heap ho)
  by_cases e' : x.1 = D
  ·exfalso
   simp only [World.shape?, e', ho] at he
   cases o <;> first | (cases he; done) | exact Bool.noConfusion (show true = false from hc)
  ·rw [if_neg e'] at h1
   refine ⟨e, ?_⟩
   simp only [World.shape?, h1] at he ⊢
   exact he⟩
 refine ⟨h.keep.os, h.keep.tape, h.keep.output, by rw [putObj_size]; exact h.keep.size, fun b hb => ?_⟩
 have h1 := putObj_heap w D o' b (lt_of_heap ho)
 rw [if_neg (by omega)] at h1
 rw [h1]
 exact h.keep.block b hb
def DfOk (B : Nat) (w : World) : List Deferred → Prop
 | [] => True
 | d :: ds => (∃ D, B ≤ D ∧ d = { target := .collected D, args := #[] } ∧ w.heap[D]? = some (.deferred (some [])) ∧ ∀ D', ({ target := .collected D', args := #[] } : Deferred) ∈ ds → D' ≠ D) ∧ DfOk B w ds
theorem DfOk.nil (B : Nat) (w : World) : DfOk B w [] := trivial
theorem DfOk.keep {B : Nat} {w w' : World} : ∀ {ds : List Deferred}, DfOk B w ds → KeepsOthers w w' → DfOk B w' ds
 | [], _, _ => trivial
 | d :: ds, ⟨⟨D, h0, h1, h2, h3⟩, h⟩, k => ⟨⟨D, h0, h1, k.same D _ h2 rfl, h3⟩, DfOk.keep h k⟩
theorem DfOk.take {B : Nat} {w : World} {D : Nat} : ∀ {ds : List Deferred}, DfOk B w ds → D < w.heap.size → (∀ D', ({ target := .collected D', args := #[] } : Deferred) ∈ ds → D' ≠ D) → DfOk B (w.putObj D (.deferred none)) ds
 | [], _, _, _ => trivial
 | d :: ds, ⟨⟨D1, h0, h1, h2, h3⟩, h⟩, hD, hn => by
  refine ⟨⟨D1, h0, h1, ?_, h3⟩, DfOk.take h hD fun D' hm => hn D' (List.mem_cons_of_mem _ hm)⟩
  rw [putObj_heap _ _ _ _ hD, if_neg (hn D1 (by rw [h1]; exact List.mem_cons_self))]
  exact h2
structure Fr (P : Program) (E : Env) (M0 : Addr → Prop) (w0 : World) (g : Gh) (σ : St) (a : Act) (w : World) : Prop where
 inv : Inv M0 w0 g (fun i => σ.heap[i]?) w
 fv : FvOk P g w E.gv
 tm : TmR g w σ.tmps a
 nt : E.nt ≤ a.tmps.size
 df : DfOk w0.heap.size w a.defers
theorem lk_putT (l : List (Nat × TV)) (t : Nat) (x : TV) (u : Nat) : lk (putT l t x) u = if u = t then some x else lk l u := by
 induction l with
 | nil =>
  simp only [putT, lk]
  by_cases h : t = u
  ·subst h; simp
  ·rw [if_neg h, if_neg (fun h' => h h'.symm)]
 | cons p r ih =>
  obtain ⟨v, y⟩ := p
  simp only [putT]
  split
  ·rename_i hv; subst hv
   simp only [lk]
   by_cases h : v = u
   ·subst h; simp
   ·rw [if_neg h, if_neg h, if_neg (fun h' => h h'.symm)]
  ·rename_i hv
   simp only [lk, ih]
   by_cases h : v = u
   ·subst h; rw [if_pos rfl, if_neg hv, if_pos rfl]
   ·rw [if_neg h, if_neg h]
theorem TmR.put {tmps : List (Nat × TV)} {a : Act} (h : TmR g w tmps a) {x : TV} {v : Value} (hv : TVR g w x v) {t : Nat} (ht : t < a.tmps.size) : TmR g w (putT tmps t x) (a.put (some t) v) := by
 intro u y hu
 rw [lk_putT] at hu
 split at hu
 ·rename_i e; subst e
  cases hu
  exact ⟨v, by simp [Act.put, ht], hv⟩
 ·rename_i hne
  obtain ⟨u', h1, h2⟩ := h u y hu
  exact ⟨u', by simp only [Act.put]; rw [Array.getElem?_setIfInBounds_ne (fun e => hne e.symm)]; exact h1, h2⟩
theorem TmR.ext {g' : Gh} {w' : World} {tmps : List (Nat × TV)} {a : Act} (h : TmR g w tmps a) (he : Ext g g') (hw : ∀ b p, g.L b p → w'.cell? p = w.cell? p) : TmR g' w' tmps a := fun t v ht =>
 let ⟨u, h1, h2⟩ := h t v ht
 ⟨u, h1, TVR.ext he hw v u h2⟩
theorem put_size (a : Act) (d : Option Nat) (v : Value) : (a.put d v).tmps.size = a.tmps.size := by cases d <;> simp [Act.put]
theorem put_defers' (a : Act) (d : Option Nat) (v : Value) : (a.put d v).defers = a.defers := by cases d <;> rfl
theorem getElem?_setO : ∀ (u : List (Nat × Ob)) (h : List Ob) (i : Nat), i < h.length → (setO h u)[i]? = lkU u i h[i]? ∧ (setO h u).length = h.length
 | [], h, i, hi => ⟨rfl, rfl⟩
 | (j, o) :: r, h, i, hi => by
  have := getElem?_setO r (h.set j o) i (by simpa using hi)
  simp only [setO, List.foldl_cons] at this ⊢
  refine ⟨?_, by simpa using this.2⟩
  rw [this.1]
  simp only [lkU]
  congr 1
  rw [List.getElem?_set]
  by_cases e : j = i
  ·subst e; simp [hi]
  ·simp [e]
theorem setO_length : ∀ (u : List (Nat × Ob)) (h : List Ob), (setO h u).length = h.length
 | [], h => rfl
 | (j, o) :: r, h => by
  have := setO_length r (h.set j o)
  simp only [setO, List.foldl_cons] at this ⊢
  simpa using this
theorem lkU_none : ∀ (u : List (Nat × Ob)) (i : Nat), (∀ x ∈ u, x.1 ≠ i) → ∀ d, lkU u i d = d
 | [], i, h, d => rfl
 | (j, o) :: r, i, h, d => by
  simp only [lkU]
  rw [if_neg (h (j, o) (by simp)), lkU_none r i (fun x hx => h x (by simp [hx]))]
theorem apH_heap {h : List Ob} {e : Eff} (hu : ∀ x ∈ e.upd, x.1 < h.length) : apH (fun i => h[i]?) h.length e = fun i => (setO h e.upd ++ e.news)[i]? := by
 funext i
 simp only [apH]
 rw [List.getElem?_append, setO_length]
 split
 ·rename_i hi
  rw [if_neg (by omega)]
 ·split
  ·rename_i h1 h2
   rw [(getElem?_setO e.upd h i h2).1]
  ·rename_i h1 h2
   rw [lkU_none _ _ (fun x hx => by have := hu x hx; omega)]
   rw [List.getElem?_eq_none (by omega), List.getElem?_eq_none (by omega)]
structure Later (g : Gh) (w : World) (g' : Gh) (w' : World) : Prop where
 ext : Ext g g'
 st : ∀ b p, g.L b p → w'.cell? p = w.cell? p
 ko : KeepsOthers w w'
theorem Later.refl (g : Gh) (w : World) : Later g w g w := ⟨Ext.refl g, fun _ _ _ => rfl, KeepsOthers.refl w⟩
theorem Later.trans {g1 g2 g3 : Gh} {w1 w2 w3 : World} (h : Later g1 w1 g2 w2) (k : Later g2 w2 g3 w3) : Later g1 w1 g3 w3 :=
 ⟨h.ext.trans k.ext, fun b p hp => (k.st b p (h.ext.L b p hp)).trans (h.st b p hp), h.ko.trans k.ko⟩
end Go.Proofs.YtdhifkdijlghdaaGreatDoorA
