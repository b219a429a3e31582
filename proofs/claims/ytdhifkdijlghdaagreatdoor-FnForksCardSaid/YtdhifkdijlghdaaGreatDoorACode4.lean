/-
  A region that draws its order: what the operations leave is the same in every order that is let. No condition.
-/
import Derived.Test.YtdhifkdijlghdaaGreatDoorACode3
namespace Go.Proofs.YtdhifkdijlghdaaGreatDoorA
open Go
set_option linter.unusedVariables false
set_option linter.unusedSimpArgs false
variable {rr : Option Nat} {nn_ : Nat}
variable {P : Program} {E : Env} {M0 : Addr → Prop} {w0 w : World} {g : Gh} {σ : St} {a : Act} {R : Type}
structure FrF (P : Program) (E : Env) (M0 : Addr → Prop) (w0 : World) (g : Gh) (T : Nat → Option TV) (H : Nat → Option Ob) (a : Act) (w : World) : Prop where
 inv : Inv M0 w0 g H w
 fv : FvOk P g w E.gv
 tm : ∀ t v, T t = some v → ∃ u, a.tmps[t]? = some u ∧ TVR g w v u
 nt : E.nt ≤ a.tmps.size
 df : DfOk w0.heap.size w a.defers
def hp (σ : St) : Nat → Option Ob := fun i => σ.heap[i]?
theorem Fr.f (h : Fr P E M0 w0 g σ a w) : FrF P E M0 w0 g (lk σ.tmps) (hp σ) a w := ⟨h.inv, h.fv, h.tm, h.nt, h.df⟩
theorem FrF.fr (h : FrF P E M0 w0 g (lk σ.tmps) (hp σ) a w) : Fr P E M0 w0 g σ a w := ⟨h.inv, h.fv, h.tm, h.nt, h.df⟩
def ovr {α : Type} (F : Nat → α) (ids : List Nat) (F' : Nat → α) : Nat → α := fun x => if x ∈ ids then F' x else F x
def StepSem (P : Program) (E : Env) (M0 : Addr → Prop) (w0 : World) (wpx : (Act → World → Prop) → Act → World → Prop) (f : Foot) (T : Nat → Option TV) (H : Nat → Option Ob) (T' : Nat → Option TV) (H' : Nat → Option Ob) : Prop :=
 (∀ t, t ∉ f.tw → T' t = T t) ∧ (∀ i, i ∉ f.wr → H' i = H i) ∧
 ∀ TS HS g a w KK, FrF P E M0 w0 g TS HS a w → (∀ t, t ∈ f.tr → TS t = T t) → (∀ i, i ∈ f.rd ∨ i ∈ f.wr → HS i = H i) →
  (∀ g' a' w', FrF P E M0 w0 g' (ovr TS f.tw T') (ovr HS f.wr H') a' w' → Later g w g' w' → KK a' w') → wpx KK a w
theorem put_f {TS : Nat → Option TV} {HS : Nat → Option Ob} (hF : FrF P E M0 w0 g TS HS a w) {x : TV} {v : Value} (hv : TVR g w x v) {d : Option Nat} (hd : inN E d = true) {T' : Nat → Option TV} (hT : ∀ t, d = some t → T' t = some x) :
  FrF P E M0 w0 g (ovr TS d.toList T') HS (a.put d v) w := by
 refine ⟨hF.inv, hF.fv, fun t y hy => ?_, by rw [put_size]; exact hF.nt, by rw [put_defers']; exact hF.df⟩
 cases d with
 | none => simp [ovr] at hy; exact hF.tm t y hy
 | some t0 =>
  have ht0 : t0 < a.tmps.size := Nat.lt_of_lt_of_le (by simpa [inN] using hd) hF.nt
  simp only [ovr, Option.toList, List.mem_singleton] at hy
  split at hy
  ·rename_i e; subst e
   rw [hT t rfl] at hy; cases hy
   exact ⟨v, by simp [Act.put, ht0], hv⟩
  ·rename_i hne
   obtain ⟨u, h1, h2⟩ := hF.tm t y hy
   exact ⟨u, by simp only [Act.put]; rw [Array.getElem?_setIfInBounds_ne (fun e => hne e.symm)]; exact h1, h2⟩
def restr (T : Nat → Option TV) : List Nat → List (Nat × TV)
 | [] => []
 | t :: r => match T t with
  | some v => (t, v) :: restr T r
  | none => restr T r
theorem lk_restr (T : Nat → Option TV) : ∀ (l : List Nat) (t : Nat), lk (restr T l) t = if t ∈ l then T t else none
 | [], t => by simp [restr, lk]
 | s :: r, t => by
  simp only [restr]
  cases hs : T s with
  | none =>
   simp only
   rw [lk_restr T r t]
   by_cases e : t = s
   ·subst e; simp [hs]
   ·simp [e]
  | some v =>
   simp only [lk]
   by_cases e : s = t
   ·subst e; simp [hs]
   ·rw [if_neg e, lk_restr T r t]
    have : t ≠ s := fun h => e h.symm
    simp [this]
theorem mem_opTmps {o : Oper} {t : Nat} (h : .tmp t ∈ o.op.operands) : t ∈ opTmps o := by
 unfold opTmps
 simp only [List.mem_filterMap, Array.mem_toList_iff]
 exact ⟨_, h, rfl⟩
theorem ev_restr {T : List (Nat × TV)} {o : Oper} {x : Operand} (hx : x ∈ o.op.operands) : ev (restr (lk T) (opTmps o)) x = ev T x := by
 cases x with
 | tmp t => simp only [ev]; rw [lk_restr, if_pos (mem_opTmps hx)]
 | _ => rfl
theorem lk_lit {b : Bool} {t : Nat} {tmps : List (Nat × TV)} (h : lk tmps t = some (.v (.one (.bool b)))) : lk (putT tmps t (one1 (.bool b))) = lk tmps := by
 funext u
 rw [lk_putT]
 split
 ·rename_i e; subst e; exact h.symm
 ·rfl
theorem condO_lk {x : Operand} {K : Bool → St → Option R} {r : R} (h : condO σ x K = some r) : ∃ b σ', ev σ.tmps x = some (.v (.one (.bool b))) ∧ K b σ' = some r ∧ lk σ'.tmps = lk σ.tmps ∧ σ'.heap = σ.heap := by
 unfold condO at h
 split at h
 ·rename_i b hb
  split at h
  ·rename_i t
   cases b with
   | true => exact ⟨true, _, hb, h, lk_lit hb, rfl⟩
   | false => exact ⟨false, _, hb, h, lk_lit hb, rfl⟩
  ·cases b with
   | true => exact ⟨true, σ, hb, h, rfl, rfl⟩
   | false => exact ⟨false, σ, hb, h, rfl, rfl⟩
 ·simp at h
theorem ev_lk {T T' : List (Nat × TV)} (h : lk T = lk T') : ev T = ev T' := by
 funext x
 cases x <;> simp only [ev, h]
theorem lk_put_out (σ : St) (d : Option Nat) (x : TV) (t : Nat) (h : t ∉ d.toList) : lk (σ.put d x).tmps t = lk σ.tmps t := by
 cases d with
 | none => rfl
 | some s =>
  show lk (putT σ.tmps s x) t = _
  rw [lk_putT, if_neg (by simpa using h)]
theorem lk_put_in (σ : St) (d : Option Nat) (x : TV) (t : Nat) (h : d = some t) : lk (σ.put d x).tmps t = some x := by
 subst h
 show lk (putT σ.tmps t x) t = _
 rw [lk_putT, if_pos rfl]
theorem put_heap (σ : St) (d : Option Nat) (x : TV) : (σ.put d x).heap = σ.heap := by cases d <;> rfl
theorem stepO_sem (hO : OpsOk P E) {Q : Exit → Act → World → Prop} {i : Nat} {o : Oper} {K : Foot → St → Option R} {r : R} (h : stepO E i o σ K = some r) :
  ∃ f σ', K f σ' = some r ∧ f.i = i ∧ StepSem P E M0 w0 (fun KK a w => o.wpIn (Fw rr) nn_ P a w KK Q) f (lk σ.tmps) (hp σ) (lk σ'.tmps) (hp σ') := by
 unfold stepO at h
 cases hd : inN E o.dst with
 | false => rw [hd] at h; simp at h
 | true =>
  rw [hd] at h
  simp only [cond_true] at h
  split at h
  ·rename_i c x y hop
   obtain ⟨b, σ', hb, hK', hlk, hhp⟩ := condO_lk h
   cases hv : ev σ'.tmps (if b = true then x else y) with
   | none => rw [hv] at hK'; simp at hK'
   | some v =>
    rw [hv] at hK'
    refine ⟨_, _, hK', rfl, fun t ht => by rw [lk_put_out _ _ _ _ ht, hlk], fun i _ => by unfold hp; rw [put_heap, hhp], ?_⟩
    intro TS HS g a w KK hF hT hH hKK
    have hops : o.op.operands = #[c, x, y] := by rw [hop]; rfl
    have hrel : ∀ z, z ∈ o.op.operands → ∀ v, ev σ.tmps z = some v → TVR g w v (a.eval z) := by
     intro z hz v hv
     cases z with
     | tmp t =>
      obtain ⟨u, h1, h2⟩ := hF.tm t v (by rw [hT t (mem_opTmps hz)]; exact hv)
      show TVR g w v (a.tmps.getD t undef)
      rw [Array.getD_eq_getD_getElem?, h1]; exact h2
     | const q =>
      obtain ⟨x, hx, rfl⟩ := Option.map_eq_some_iff.1 hv
      exact vOf_ok hx
     | func q => cases hv; rfl
     | global q => simp [ev] at hv
    have hcv : a.eval c = .bool b := hrel c (by rw [hops]; simp) _ hb
    have hr : TVR g w v (a.eval (if b = true then x else y)) := hrel _ (by rw [hops]; cases b <;> simp) _ (by rw [← ev_lk hlk]; exact hv)
    have hrun : (execOp a.eval o).run P w = .ok (.value (a.eval (if b = true then x else y))) w := by
     simp only [execOp, hop, hcv, asBool]
     cases b <;> simp
    show o.wpIn (Fw rr) nn_ P a w KK Q
    refine wpIn_ok hrun (fun _ => by simp) ?_
    refine hKK g _ w ?_ (Later.refl _ _)
    have h1 := put_f hF hr hd (T' := lk (σ'.put o.dst v).tmps) fun t ht => lk_put_in _ _ _ _ ht
    have h2 : ovr HS [] (hp (σ'.put o.dst v)) = HS := by funext q; simp [ovr]
    show FrF P E M0 w0 g (ovr TS o.dst.toList (lk (σ'.put o.dst v).tmps)) (ovr HS [] (hp (σ'.put o.dst v))) _ w
    rw [h2]; exact h1
  ·split at h
   ·simp at h
   ·rename_i r1 rd hpre
    obtain ⟨e, he, h2⟩ := Res1.go_some h
    cases hup : e.upd.all fun x => decide (x.1 < σ.heap.length) with
    | false => rw [hup] at h2; simp at h2
    | true =>
     rw [hup] at h2
     simp only [cond_true] at h2
     have hup' : ∀ x ∈ e.upd, x.1 < σ.heap.length := by simpa using hup
     have hheap := apH_heap hup'
     have hhp' : hp (St.put { σ with heap := setO σ.heap e.upd ++ e.news } o.dst e.val) = apH (hp σ) σ.heap.length e := by
      show (fun i => (St.put { σ with heap := setO σ.heap e.upd ++ e.news } o.dst e.val).heap[i]?) = apH (fun i => σ.heap[i]?) _ _
      rw [put_heap, hheap]
     have hwr : ∀ i, i ∈ (foot i o rd σ.heap.length e).wr ↔ (∃ x ∈ e.upd, x.1 = i) ∨ (σ.heap.length ≤ i ∧ i < σ.heap.length + e.news.length) := by
      intro i
      simp only [foot, List.mem_append, List.mem_map, List.mem_range]
      constructor
      ·rintro (h | ⟨j, hj, rfl⟩)
       ·exact .inl h
       ·exact .inr ⟨by omega, by omega⟩
      ·rintro (h | ⟨h1, h2⟩)
       ·exact .inl h
       ·exact .inr ⟨i - σ.heap.length, by omega, by omega⟩
     have hout : ∀ (H : Nat → Option Ob) i, i ∉ (foot i o rd σ.heap.length e).wr → apH H σ.heap.length e i = H i := by
      intro H i hi
      have h3 : ¬ ((∃ x ∈ e.upd, x.1 = i) ∨ (σ.heap.length ≤ i ∧ i < σ.heap.length + e.news.length)) := fun h => hi ((hwr i).2 h)
      unfold apH
      rw [if_neg (fun h => h3 (.inr h)), lkU_none _ _ (fun x hx hxi => h3 (.inl ⟨x, hx, hxi⟩))]
     refine ⟨_, _, h2, rfl, fun t ht => lk_put_out _ _ _ _ ht, fun j hj => ?_, ?_⟩
     ·rw [hhp']
      exact hout _ _ (by simpa [foot] using hj)
     ·intro TS HS g a w KK hF hT hH hKK
      have hT' : TmR g w (restr (lk σ.tmps) (opTmps o)) a := by
       intro t v hv
       rw [lk_restr] at hv
       split at hv
       ·rename_i hm
        exact hF.tm t v (by rw [hT t hm]; exact hv)
       ·simp at hv
      have hpre' : pre E o (ev (restr (lk σ.tmps) (opTmps o))) σ.heap.length HS = some (r1, rd) := by
       rw [pre_congr (ρ := ev (restr (lk σ.tmps) (opTmps o))) (ρ' := ev σ.tmps) (fun x hx => ev_restr hx)]
       exact Local.pre E o _ _ _ _ _ _ hpre fun i hi => hH i (.inl hi)
      show o.wpIn (Fw rr) nn_ P a w KK Q
      refine hO.op o a _ σ.heap.length M0 w0 w g HS r1 rd e hF.inv hF.fv hT' (fun i h1 h2 => ?_) hpre' he rr nn_ KK Q ?_
      ·have : HS i = hp σ i := hH i (.inr ((hwr i).2 (.inr ⟨h1, h2⟩)))
       rw [this]; exact List.getElem?_eq_none h1
      ·rintro v w' ⟨⟨g', hI, hE, hL, hv, hko⟩, hsz⟩
       refine hKK g' _ w' ?_ ⟨hE, hL, hko⟩
       have hHeq : ovr HS (foot i o rd σ.heap.length e).wr (hp (St.put { σ with heap := setO σ.heap e.upd ++ e.news } o.dst e.val)) = apH HS σ.heap.length e := by
        funext q
        unfold ovr
        split
        ·rename_i hq
         rw [hhp']
         have : HS q = hp σ q := hH q (.inr hq)
         unfold apH
         rw [this]
        ·rename_i hq
         exact (hout HS q hq).symm
       rw [hHeq]
       have hF1 : FrF P E M0 w0 g' TS (apH HS σ.heap.length e) a w' := ⟨hI, hF.fv.mono hE hL hsz, fun t v ht => by
        obtain ⟨u, h1, h2⟩ := hF.tm t v ht
        exact ⟨u, h1, TVR.ext hE hL v u h2⟩, hF.nt, hF.df.keep hko⟩
       exact put_f hF1 hv hd fun t ht => lk_put_in _ _ _ _ ht
inductive Chain (rr : Option Nat) (nn_ : Nat) (P : Program) (E : Env) (M0 : Addr → Prop) (w0 : World) (A : Array Oper) (Q : Exit → Act → World → Prop) : Nat → List Foot → (Nat → Option TV) → (Nat → Option Ob) → (Nat → Option TV) → (Nat → Option Ob) → Prop where
 | nil (i : Nat) (T : Nat → Option TV) (H : Nat → Option Ob) : Chain rr nn_ P E M0 w0 A Q i [] T H T H
 | cons (i : Nat) (f : Foot) (fs : List Foot) (T T1 T2 : Nat → Option TV) (H H1 H2 : Nat → Option Ob) : f.i = i → StepSem P E M0 w0 (fun KK a w => wpOpIn (Fw rr) nn_ P A Q i KK a w) f T H T1 H1 → Chain rr nn_ P E M0 w0 A Q (i + 1) fs T1 H1 T2 H2 → Chain rr nn_ P E M0 w0 A Q i (f :: fs) T H T2 H2
theorem Chain.len {A : Array Oper} {Q : Exit → Act → World → Prop} {i : Nat} {fs : List Foot} {T T2 : Nat → Option TV} {H H2 : Nat → Option Ob} (h : Chain rr nn_ P E M0 w0 A Q i fs T H T2 H2) : ∀ j f, fs[j]? = some f → f.i = i + j := by
 induction h with
 | nil => intro j f hj; simp at hj
 | cons i f fs T T1 T2 H H1 H2 hf _ _ ih =>
  intro j f' hj
  cases j with
  | zero => simp at hj; subst hj; exact hf
  | succ j => have := ih j f' (by simpa using hj); omega
theorem region_chain (hO : OpsOk P E) {A : Array Oper} {Q : Exit → Act → World → Prop} {chk : List Foot → Bool} {K : St → Option R} {r : R} : ∀ (ops : List Oper) (i : Nat) (fs : List Foot) (σ : St),
  regionX false E A.toList chk i ops fs σ K = some r → (∀ (j : Nat) (o : Oper), ops[j]? = some o → A[i + j]? = some o) →
  ∃ gs σ', gs.length = ops.length ∧ chk (fs ++ gs) = true ∧ K σ' = some r ∧ Chain rr nn_ P E M0 w0 A Q i gs (lk σ.tmps) (hp σ) (lk σ'.tmps) (hp σ')
 | [], i, fs, σ, h, _ => by
  simp only [regionX, stepQ, cond_false] at h
  cases hc : chk fs with
  | false => rw [hc] at h; simp at h
  | true => rw [hc] at h; exact ⟨[], σ, rfl, by simpa using hc, h, .nil _ _ _⟩
 | o :: ops, i, fs, σ, h, hA => by
  have hoi : A[i]? = some o := by simpa using hA 0 o rfl
  have hA' : ∀ (j : Nat) (o : Oper), ops[j]? = some o → A[i + 1 + j]? = some o := fun j o' hj => by
   have := hA (j + 1) o' (by simpa using hj)
   rwa [show i + (j + 1) = i + 1 + j by omega] at this
  simp only [regionX, stepQ, cond_false] at h
  have go : ∀ (f : Foot) (σ σ1 : St), regionX false E A.toList chk (i + 1) ops (fs ++ [f]) σ1 K = some r → f.i = i → StepSem P E M0 w0 (fun KK a w => wpOpIn (Fw rr) nn_ P A Q i KK a w) f (lk σ.tmps) (hp σ) (lk σ1.tmps) (hp σ1) →
    ∃ gs σ', gs.length = (o :: ops).length ∧ chk (fs ++ gs) = true ∧ K σ' = some r ∧ Chain rr nn_ P E M0 w0 A Q i gs (lk σ.tmps) (hp σ) (lk σ'.tmps) (hp σ') := by
   intro f σ σ1 hr hf hs
   obtain ⟨gs, σ', h1, h2, h3, h4⟩ := region_chain hO ops (i + 1) (fs ++ [f]) σ1 hr hA'
   exact ⟨f :: gs, σ', by simp [h1], by simpa using h2, h3, .cons _ _ _ _ _ _ _ _ _ hf hs h4⟩
  have wpx : ∀ (KK : Act → World → Prop) (a : Act) (w : World), (Region.wanted o (yielded A a.tmps) = true → o.wpIn (Fw rr) nn_ P a w KK Q) → (Region.wanted o (yielded A a.tmps) = false → KK (a.put o.dst undef) w) → wpOpIn (Fw rr) nn_ P A Q i KK a w := by
   intro KK a w h1 h2
   unfold wpOpIn
   simp only [hoi]
   cases hw : Region.wanted o (yielded A a.tmps) with
   | true => rw [if_pos rfl]; exact h1 hw
   | false => rw [if_neg (by simp)]; exact ⟨fun f _ => Fw_fn rr f, h2 hw⟩
  cases hgd : o.guard with
  | none =>
   rw [hgd] at h
   obtain ⟨f, σ1, h1, h2, h3, h4, h5⟩ := stepO_sem hO (P := P) (M0 := M0) (w0 := w0) (Q := Q) h
   exact go f σ σ1 h1 h2 ⟨h3, h4, fun TS HS g a w KK hF hT hH hKK => wpx KK a w (fun _ => h5 TS HS g a w KK hF hT hH hKK) fun hw => by simp [Region.wanted, hgd] at hw⟩
  | some jw =>
   obtain ⟨j, want⟩ := jw
   rw [hgd] at h
   dsimp only at h
   cases hdj : dstOf A.toList j with
   | none => rw [hdj] at h; simp at h
   | some t =>
    rw [hdj] at h
    dsimp only at h
    have hdst : (A[j]?).bind (·.dst) = some t := by
     unfold dstOf at hdj
     split at hdj
     ·rename_i o' ho'
      have : A[j]? = some o' := by simpa using ho'
      rw [this]; exact hdj
     ·simp at hdj
    have hyi : ∀ (a : Act) (u : Value), a.tmps[t]? = some u → yielded A a.tmps j = match u with | .bool b => some b | _ => none := by
     intro a u hu
     simp only [yielded, hdst, Option.bind_some, hu]
     cases u <;> rfl
    have skip : ∀ (σ : St), cond (inN E o.dst) (regionX false E A.toList chk (i + 1) ops (fs ++ [⟨i, [], [], [t], o.dst.toList⟩]) (σ.put o.dst (.tup [])) K) none = some r →
      (∀ g a w TS HS, FrF P E M0 w0 g TS HS a w → TS t = lk σ.tmps t → Region.wanted o (yielded A a.tmps) = false) →
      ∃ gs σ', gs.length = (o :: ops).length ∧ chk (fs ++ gs) = true ∧ K σ' = some r ∧ Chain rr nn_ P E M0 w0 A Q i gs (lk σ.tmps) (hp σ) (lk σ'.tmps) (hp σ') := by
     intro σ hs hwn
     cases hd : inN E o.dst with
     | false => rw [hd] at hs; simp at hs
     | true =>
      rw [hd] at hs
      refine go _ σ _ hs rfl ⟨fun t ht => lk_put_out _ _ _ _ ht, fun i _ => by unfold hp; rw [put_heap], fun TS HS g a w KK hF hT hH hKK => wpx KK a w (fun hw => ?_) fun _ => ?_⟩
      ·rw [hwn g a w TS HS hF (hT t (by simp))] at hw; simp at hw
      ·refine hKK g _ w ?_ (Later.refl _ _)
       have h2 : ovr HS [] (hp (σ.put o.dst (.tup []))) = HS := by funext q; simp [ovr]
       show FrF P E M0 w0 g (ovr TS o.dst.toList (lk (σ.put o.dst (.tup [])).tmps)) (ovr HS [] (hp (σ.put o.dst (.tup [])))) _ w
       rw [h2]
       exact put_f hF (x := .tup []) (v := undef) ⟨#[], rfl, trivial⟩ hd fun t ht => lk_put_in _ _ _ _ ht
    split at h
    ·rename_i b0 hb0
     obtain ⟨b, σ1, hb, hK', hlk, hhp⟩ := condO_lk h
     have hbt : lk σ.tmps t = some (.v (.one (.bool b))) := hb
     have hhp1 : hp σ1 = hp σ := by unfold hp; rw [hhp]
     have hwant : ∀ g a w TS HS, FrF P E M0 w0 g TS HS a w → TS t = lk σ.tmps t → Region.wanted o (yielded A a.tmps) = (b == want) := by
      intro g a w TS HS hF hTt
      obtain ⟨u, hu1, hu2⟩ := hF.tm t _ (by rw [hTt]; exact hbt)
      cases hu2
      have hy := hyi a _ hu1
      dsimp only at hy
      simp only [Region.wanted, hgd, hy]
      cases b <;> cases want <;> rfl
     cases hbw : b == want with
     | true =>
      rw [hbw] at hK'
      obtain ⟨f, σ2, h1, h2, h3, h4, h5⟩ := stepO_sem hO (P := P) (M0 := M0) (w0 := w0) (Q := Q) (by simpa using hK')
      rw [hlk, hhp1] at h5
      refine go { f with tr := t :: f.tr } σ σ2 h1 h2 ⟨fun t ht => by rw [h3 t ht, hlk], fun i hi => by rw [h4 i hi, hhp1], fun TS HS g a w KK hF hT hH hKK => wpx KK a w (fun _ => ?_) fun hw => ?_⟩
      ·exact h5 TS HS g a w KK hF (fun s hs => hT s (by simp [hs])) hH hKK
      ·rw [hwant g a w TS HS hF (hT t (by simp)), hbw] at hw; simp at hw
     | false =>
      rw [hbw] at hK'
      obtain ⟨gs, σ', h1, h2, h3, h4⟩ := skip σ1 (by simpa using hK') (fun g a w TS HS hF hTt => by rw [hwant g a w TS HS hF (by rw [hTt, hlk]), hbw])
      exact ⟨gs, σ', h1, h2, h3, by rw [hlk, hhp1] at h4; exact h4⟩
    ·rename_i hl
     refine skip σ h fun g a w TS HS hF hTt => ?_
     obtain ⟨u, hu1, us, hu2, hu3⟩ := hF.tm t _ (by rw [hTt]; exact hl)
     have hy := hyi a _ hu1
     subst hu2
     dsimp only at hy
     simp only [Region.wanted, hgd, hy]; rfl
    ·simp at h
end Go.Proofs.YtdhifkdijlghdaaGreatDoorA
