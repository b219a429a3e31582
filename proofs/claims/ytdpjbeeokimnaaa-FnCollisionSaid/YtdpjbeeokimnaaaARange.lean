/-
  A range over slices.Backward: the region ahead of it. No condition.
-/
import Derived.Test.YtdpjbeeokimnaaaAShape
import Derived.RangeFuncWrites
namespace Go.Proofs.YtdpjbeeokimnaaaA
open Go
set_option linter.unusedVariables false
set_option linter.unusedSimpArgs false

variable {rr : Option Nat} {nn_ : Nat}
variable {P : Program} {E : Env} {M0 : Addr → Prop} {w0 w : World} {g : Gh} {σ : St} {a : Act}

/-- A temporary of which nothing is known may hold whatever. -/
theorem Fr.putx {v : Value} {t : Nat} (hF : Fr P E M0 w0 g σ a w) (hn : lk σ.tmps t = none) : Fr P E M0 w0 g σ (a.put (some t) v) w := by
  refine ⟨hF.inv, hF.fv, fun u y hu => ?_, by rw [put_size]; exact hF.nt, by rw [put_defers']; exact hF.df⟩
  obtain ⟨z, h1, h2⟩ := hF.tm u y hu
  refine ⟨z, ?_, h2⟩
  have hne : t ≠ u := by rintro rfl; rw [hn] at hu; cases hu
  show (a.tmps.setIfInBounds t v)[u]? = some z
  rw [Array.getElem?_setIfInBounds, if_neg hne]
  exact h1
/-- A new cell that stays. -/
theorem Fr.stay {o : Value} {tS : TypeId} (hF : Fr P E M0 w0 g σ a w) (hne : E.ne ≤ σ.heap.length) : ∃ g1, Fr P E M0 w0 g1 σ a (w.alloc (.cells #[o] tS)) ∧ LaterE E.ne g w g1 (w.alloc (.cells #[o] tS)) ∧ g1.L 0 ⟨w.heap.size, 0, none⟩ := by
  have hk : Keeps (Free g (fun i => σ.heap[i]?) w fun _ => False) w (w.alloc (.cells #[o] tS)) := Keeps.alloc _ w _
  have he : Ext g { g with L := fun b p => g.L b p ∨ (b = 0 ∧ p = ⟨w.heap.size, 0, none⟩) } := ⟨fun _ _ => rfl, fun _ _ h => .inl h, rfl, fun b p hb h => h.elim id fun h => absurd h.1 hb⟩
  obtain ⟨hI, hL⟩ := hF.inv.frame (w' := w.alloc (.cells #[o] tS)) (g' := { g with L := fun b p => g.L b p ∨ (b = 0 ∧ p = ⟨w.heap.size, 0, none⟩) }) (H' := fun i => σ.heap[i]?) (fun _ => False) (fun _ _ => rfl) (fun _ _ h => h.elim) (fun _ _ _ _ _ _ h => h.elim)
    (fun b p hb => hb.imp id fun ⟨h1, h2⟩ => ⟨h1, .inr (by rw [h2]; exact Nat.le_refl _), ⟨by rw [h2, World.size_alloc]; exact Nat.lt_succ_self _, by rw [h2]⟩, fun _ _ h => h.elim⟩) hk he hF.inv.no
  refine ⟨_, ⟨hI, hF.fv.mono he hL hk.size, hF.tm.ext he hL, hF.nt, hF.df.keep hk.others⟩, ⟨fun b p h => .inl h, he.nz, rfl, hL, fun _ _ => rfl, hk.others⟩, .inr ⟨rfl, rfl⟩⟩
theorem put_get {t : Nat} {v : Value} (h : t < a.tmps.size) : (a.put (some t) v).eval (.tmp t) = v := by
  show (a.tmps.setIfInBounds t v).getD t undef = v
  simp [Array.getD, h]
theorem put_other {t u : Nat} {v : Value} (h : t ≠ u) : (a.put (some t) v).eval (.tmp u) = a.eval (.tmp u) := by
  show (a.tmps.setIfInBounds t v).getD u undef = a.tmps.getD u undef
  simp only [Array.getD_eq_getD_getElem?, Array.getElem?_setIfInBounds, if_neg h]
theorem wpOps_step {ops : Array Oper} {Q : Exit → Act → World → Prop} {i : Nat} {rest : List Nat} {o : Oper} (h : ops[i]? = some o) (hg : o.guard = none) (hw : o.wpIn (Fw rr) nn_ P a w (wpOpsIn (Fw rr) nn_ P ops Q rest) Q) : wpOpsIn (Fw rr) nn_ P ops Q (i :: rest) a w := by
  rw [wpOpsIn_cons]
  unfold wpOpIn
  rw [h]
  dsimp only
  rw [if_pos (by simp [Region.wanted, hg])]
  exact hw
/-- THE CALL AHEAD OF THE LOOP: Backward is called on a row. -/
theorem call_back {t0 t1 fB fC : Nat} {tS : TypeId} {p1 : String} {y1 : TypeId} {f1 : Array Edge} {ts : Array TypeId} {ops : Array Oper} {i : Nat} {Q : Exit → Act → World → Prop} {A : Option Addr} {n c : Nat}
    (hop : ops[i]? = some ⟨some t1, .call ⟨.value (.func fB), #[.tmp t0], ts⟩, y1, p1, f1, none⟩)
    (hb : HasBody P fB) (hB : ∀ w, Calls P fB #[.slice A n c] w fun e w' => e = .returned (.func (.func fC) #[] #[.pointer (some ⟨w.heap.size, 0, none⟩)]) ∧ w' = w.alloc (.cells #[.slice A n c] tS))
    (hF : Fr P E M0 w0 g σ a w) (hne : E.ne ≤ σ.heap.length) (hs : a.eval (.tmp t0) = .slice A n c) (h1 : lk σ.tmps t1 = none) (ht1 : t1 < a.tmps.size)
    (hQ : ∀ g1 a1, Fr P E M0 w0 g1 σ a1 (w.alloc (.cells #[.slice A n c] tS)) → LaterE E.ne g w g1 (w.alloc (.cells #[.slice A n c] tS)) → g1.L 0 ⟨w.heap.size, 0, none⟩ → a1.eval (.tmp t1) = .func (.func fC) #[] #[.pointer (some ⟨w.heap.size, 0, none⟩)] →
      Q .normal a1 (w.alloc (.cells #[.slice A n c] tS))) :
    wpOpsIn (Fw rr) nn_ P ops Q [i] a w := by
  refine wpOps_step (i := i) (rest := []) hop rfl (wpIn_ok (run_call (o := ⟨some t1, .call ⟨.value (.func fB), #[.tmp t0], ts⟩, y1, p1, f1, none⟩) (al := #[.tmp t0]) (ts := ts) (caps := #[]) (fop := .func fB) rfl (show a.eval (.func fB) = .func (.func fB) #[] #[] from rfl) hb) (fun _ => by simp) ?_)
  rw [Oper.uponIn_enter]
  refine ⟨fun hh => by rw [Fw_depth] at hh; simp at hh, Fw_calls ?_⟩
  have ha : (#[Operand.tmp t0].map a.eval ++ #[] : Array Value) = #[.slice A n c] := by simp [hs]
  rw [ha]
  refine (hB w).mono ?_
  rintro e w' ⟨rfl, rfl⟩
  obtain ⟨g1, hF1, hL1, hS⟩ := hF.stay (o := .slice A n c) (tS := tS) hne
  exact hQ g1 _ (hF1.putx h1) hL1 hS (put_get ht1)
/-- Code without summaries: every object keeps its number. -/
theorem exec_later (hO : OpsOk P E) (hm : P.follows .mixedOrders = true) {R : Type} : ∀ (c : Code) (σ : St) (K : Ex → St → Option R) (r : R) (g : Gh) (a : Act) (w : World) (Q : Exit → Act → World → Prop),
    exec E c .a σ K = some r → Fr P E M0 w0 g σ a w →
    (∀ e σ' g' a' w', K e σ' = some r → Fr P E M0 w0 g' σ' a' w' → Later g w g' w' → Q (ex e) a' w') → c.wpIn (Fw rr) nn_ P Q a w := by
  intro c
  induction c with
  | skip => intro σ K r g a w Q hx hF hK; exact wpIn_skip (hK .nrm σ g a w hx hF (Later.refl _ _))
  | label l => intro σ K r g a w Q hx hF hK; exact wpIn_label (hK .nrm σ g a w hx hF (Later.refl _ _))
  | ret => intro σ K r g a w Q hx hF hK; exact wpIn_ret (hK .ret σ g a w hx hF (Later.refl _ _))
  | exit id => intro σ K r g a w Q hx hF hK; exact wpIn_exit (hK (.ext id) σ g a w hx hF (Later.refl _ _))
  | region id ops draw => intro σ K r g a w Q hx hF hK; exact regionX_ok hO hm hx hF fun σ' g' a' w' h1 h2 h3 => hK .nrm σ' g' a' w' h1 h2 h3
  | seq x y ihx ihy =>
    intro σ K r g a w Q hx hF hK
    refine wpIn_seq (ihx σ (fun e σ => match e with | .nrm => exec E y .a σ K | e => K e σ) r g a w _ hx hF ?_)
    intro e σ' g' a' w' h1 hF' hL
    cases e with
    | nrm => exact ihy σ' K r g' a' w' Q h1 hF' fun e σ2 g2 a2 w2 h2 hF2 hL2 => hK e σ2 g2 a2 w2 h2 hF2 (hL.trans hL2)
    | ext id => exact hK (.ext id) σ' g' a' w' h1 hF' hL
    | ret => exact hK .ret σ' g' a' w' h1 hF' hL
  | cond cc x y ihx ihy =>
    intro σ K r g a w Q hx hF hK
    have hx2 : condO σ cc (fun b σ => if b then exec E x .a σ K else exec E y .a σ K) = some r := hx
    obtain ⟨b, σ', hb, hF', hx', hhp, _⟩ := condO_ok hx2 hF
    refine wpIn_cond hb ?_
    cases b with
    | true => exact ihx σ' K r g a w Q (by simpa using hx') hF' hK
    | false => exact ihy σ' K r g a w Q (by simpa using hx') hF' hK
  | block id x ih =>
    intro σ K r g a w Q hx hF hK
    refine wpIn_block (ih σ (fun e σ => match e with | .ext id' => if id' = id then K .nrm σ else K (.ext id') σ | e => K e σ) r g a w _ hx hF ?_)
    intro e σ' g' a' w' h1 hF' hL
    cases e with
    | nrm => exact hK .nrm σ' g' a' w' h1 hF' hL
    | ext id' =>
      dsimp only at h1
      show (if id' = id then Q .normal a' w' else Q (.exit id') a' w')
      split at h1
      · rename_i e; rw [if_pos e]; exact hK .nrm σ' g' a' w' h1 hF' hL
      · rename_i e; rw [if_neg e]; exact hK (.ext id') σ' g' a' w' h1 hF' hL
    | ret => exact hK .ret σ' g' a' w' h1 hF' hL
  | _ => intros; rename_i hx hF hK; simp [exec] at hx
/-- A cell that names no object from a number on. -/
def C.free (N : Nat) : C → Bool
  | .slo id => Nat.blt id N
  | .bptr id _ => Nat.blt id N
  | .aptr id => Nat.blt id N
  | .eptr id _ _ _ => Nat.blt id N
  | .clo _ id => Nat.blt id N
  | _ => true
def Ob.free (N : Nat) : Ob → Bool
  | .box cs => cs.all (C.free N)
  | .arr _ _ _ _ => true
  | .vec _ _ _ => true
  | .dead => true
  | .cbox _ cs => cs.all (C.free N)
  | .clo cs => cs.all (C.free N)
def cutG (g : Gh) (N : Nat) : Gh := { g with loc := fun i => if i < N then g.loc i else .none }
theorem blt_lt {a b : Nat} (h : Nat.blt a b = true) : a < b := Nat.le_of_ble_eq_true h
theorem CR.cut {N : Nat} : ∀ {c : C} {v : Value}, c.free N = true → CR g w c v → CR (cutG g N) w c v
  | .int _ _, _, _, h => h
  | .bool _, _, _, h => h
  | .str _, _, _, h => h
  | .nil, _, _, h => h
  | .slv _ _ _, _, _, h => h
  | .own _ _ _ _, _, _, h => h
  | .slo id, _, hf, ⟨A, n, c, e, h⟩ => ⟨A, n, c, (if_pos (blt_lt hf)).trans e, h⟩
  | .bptr id off, _, hf, ⟨a, e, h⟩ => ⟨a, (if_pos (blt_lt hf)).trans e, h⟩
  | .aptr id, _, hf, ⟨a, n, c, e, h⟩ => ⟨a, n, c, (if_pos (blt_lt hf)).trans e, h⟩
  | .eptr id i sz off, _, hf, ⟨a, n, c, e, h⟩ => ⟨a, n, c, (if_pos (blt_lt hf)).trans e, h⟩
  | .rptr _ _ _ _, _, _, h => h
  | .fn _, _, _, h => h
  | .clo f id, _, hf, ⟨us, e, h⟩ => ⟨us, (if_pos (blt_lt hf)).trans e, h⟩
  | .fv _, _, _, h => h
  | .undef, _, _, h => h
theorem F2CR.cut {N : Nat} : ∀ {cs : List C} {us : List Value}, cs.all (C.free N) = true → F2 (CR g w) cs us → F2 (CR (cutG g N) w) cs us
  | [], [], _, _ => trivial
  | c :: cs, u :: us, hf, h => by
    rw [List.all_cons, Bool.and_eq_true] at hf
    exact ⟨CR.cut hf.1 h.1, F2CR.cut hf.2 h.2⟩
theorem ObR.cut {N id : Nat} (hi : id < N) : ∀ {o : Ob}, o.free N = true → ObR g w id o → ObR (cutG g N) w id o
  | .box cs, hf, ⟨a, us, e, h1, h2⟩ => ⟨a, us, (if_pos hi).trans e, F2CR.cut hf h1, h2⟩
  | .arr k xs m x, _, ⟨A, n, c, us, e, h⟩ => ⟨A, n, c, us, (if_pos hi).trans e, h⟩
  | .vec n k xs, _, ⟨a, us, e, h⟩ => ⟨a, us, (if_pos hi).trans e, h⟩
  | .clo cs, hf, ⟨us, e, h⟩ => ⟨us, (if_pos hi).trans e, F2CR.cut hf h⟩
  | .cbox m cs, hf, ⟨a, us, e, h1, h2⟩ => ⟨a, us, (if_pos hi).trans e, F2CR.cut hf h1, h2⟩
  | .dead, _, h => fun e => h ((if_pos hi).symm.trans e)
theorem MR.cut {N id : Nat} (hi : id < N) : ∀ {o : Ob} {p : Addr}, MR (cutG g N) id o p → MR g id o p
  | .box cs, p, ⟨a, j, e, h⟩ => ⟨a, j, (if_pos hi).symm.trans e, h⟩
  | .arr k xs _ x, p, ⟨a, n, c, j, e, h⟩ => ⟨a, n, c, j, (if_pos hi).symm.trans e, h⟩
  | .vec n k _, p, ⟨a, c, j, e, h⟩ => ⟨a, c, j, (if_pos hi).symm.trans e, h⟩
/-- The objects from a number on are dropped. -/
theorem Inv.cut {H : Nat → Option Ob} {N : Nat} (h : Inv M0 w0 g H w) (hf : ∀ i o, i < N → H i = some o → o.free N = true) : Inv M0 w0 (cutG g N) (fun i => if i < N then H i else none) w := by
  have hH : ∀ i o, (if i < N then H i else none) = some o → i < N ∧ H i = some o := fun i o hi => by
    split at hi
    · exact ⟨‹_›, hi⟩
    · cases hi
  refine ⟨fun i o hi => ?_, fun i j o o' p hij hi hj hm hm' => ?_, fun i o p b hi hm => ?_, fun i o p hi hm => ?_, fun i hi => ?_, h.lt, h.l0, h.keep⟩
  · obtain ⟨h1, h2⟩ := hH i o hi
    exact ObR.cut h1 (hf i o h1 h2) (h.ob i o h2)
  · obtain ⟨h1, h2⟩ := hH i o hi
    obtain ⟨h3, h4⟩ := hH j o' hj
    exact h.dj i j o o' p hij h2 h4 (MR.cut h1 hm) (MR.cut h3 hm')
  · obtain ⟨h1, h2⟩ := hH i o hi
    exact h.st i o p b h2 (MR.cut h1 hm)
  · obtain ⟨h1, h2⟩ := hH i o hi
    exact h.al i o p h2 (MR.cut h1 hm)
  · show (if i < N then g.loc i else .none) = .none
    by_cases hn : i < N
    · rw [if_pos hn] at hi ⊢
      exact h.no i hi
    · rw [if_neg hn]
end Go.Proofs.YtdpjbeeokimnaaaA
