/-
  A range over a row from its end on: the loop's law, the iterator's word. No condition.
-/
import Derived.Test.YtdpjbeeokimnaaaARange
namespace Go.Proofs.YtdpjbeeokimnaaaA
open Go Go.RowKit
set_option linter.unusedVariables false
set_option linter.unusedSimpArgs false

variable {nn_ : Nat}
variable {P : Program} {E : Env} {M0 : Addr → Prop} {w0 w : World} {g : Gh} {σ : St} {a : Act}

/-- The word of an iterator over so many places, from the end: the place that is next is handed to yield; these cells are read. -/
def SeqDown (n : Nat) (P : Program) (gf : Nat) (lb : Array Value) (encs : Nat → Array Value) (S : Addr → Prop) (len : Nat) (w : World) : Prop :=
  ∀ (l : Nat) (J : Nat → World → Prop) (Jx : World → Prop) (W : World), (∀ p, S p → W.cell? p = w.cell? p) →
    (∀ k x W1, k + x + 1 = len → J k W1 → YieldAt Fence.wide n P l (encs x) W1 fun e W' =>
      (e = .returned (.bool true) ∧ J (k + 1) W' ∧ ∀ p, S p → W'.cell? p = W1.cell? p) ∨ (e = .returned (.bool false) ∧ Jx W')) →
    J 0 W → CallsIn Fence.wide (n + 1) P gf (#[.func (.yield l) #[] #[]] ++ lb) W fun e W' => (∃ v, e = .returned v) ∧ (J len W' ∨ Jx W')
/-- How a round may end. -/
def downPost (S : Addr → Prop) (I : Nat → World → Prop) (Ix : Code → World → Prop) (k : Nat) (W : World) : Exit → Act → World → Prop
  | .normal, _, W' => KeepsOthers W W' ∧ (∀ p, S p → W'.cell? p = W.cell? p) ∧ I k W'
  | .ret, _, W' => KeepsOthers W W' ∧ Ix .ret W'
  | .exit id, _, W' => KeepsOthers W W' ∧ Ix (.exit id) W'
  | .goto _, _, _ => False
  | .panic _, _, _ => False
  | .outgrown, _, _ => False
/-- What is said abides the turn of a row that holds no cells, laid since. -/
def Abide (B : Nat) (I : World → Prop) : Prop := ∀ W D (lp : Loop) (o' : Obj), B ≤ D → W.heap[D]? = some (.loop lp) → o'.isCells = false → I W → I (W.putObj D o')
theorem putObj_same {W : World} {D : Nat} {o : Obj} (h : D < W.heap.size) : (W.putObj D o).heap[D]? = some o := by
  rw [putObj_heap _ _ _ _ h, if_pos rfl]
theorem putObj_else {W : World} {D k : Nat} {o : Obj} (hk : k ≠ D) : (W.putObj D o).heap[k]? = W.heap[k]? := World.putObj_heap_other hk
/-- THE LOOP. -/
theorem wpIn_down {n : Nat} {gt : Operand} {ps : Array Tmp} {assign body : Code} {Q : Exit → Act → World → Prop} {gf : Nat} {lb : Array Value} (hg : a.eval gt = .func (.func gf) #[] lb) (eg : ∀ args w, (callFunc gf args).run P w = .ok (.enter gf args) w)
    {encs : Nat → Array Value} {S : Addr → Prop} {len : Nat} (hseq : SeqDown n P gf lb encs S len w) (hS : ∀ p, S p → p.block < w.heap.size) (hps : ∀ x, (encs x).size = ps.size)
    (I : Nat → World → Prop) (J : Nat → Act → World → Prop) (Ix : Code → World → Prop) (hI : ∀ k, Abide w.heap.size (I k)) (hJ : ∀ k a1, Abide w.heap.size (J k a1)) (hIx : ∀ c, Abide w.heap.size (Ix c))
    (h0 : ∀ rec, I 0 ((w.alloc (.deferred (some []))).alloc (.loop rec)))
    (hassign : ∀ l k x W, k + x + 1 = len → I k W → assign.wpIn (Fence.wide.inRound l) n P (Exit.then (fun a1 W1 => KeepsOthers W W1 ∧ (∀ p, S p → W1.cell? p = W.cell? p) ∧ J k a1 W1) (fun _ _ _ => False))
      { tmps := (ps.zip (encs x)).foldl (fun t (p, v) => t.setIfInBounds p v) a.tmps, defers := [] } W)
    (hbody : ∀ l k a1 W, k < len → J k a1 W → body.wpIn (Fence.wide.inRound l) n P (downPost S I Ix (k + 1) W) a1 W)
    (hdone : ∀ D W, w.heap.size ≤ D → I len W → W.heap[D]? = some (.deferred (some [])) → Q .normal { a with defers := { target := .collected D, args := #[] } :: a.defers } W)
    (hstop : ∀ D c W, w.heap.size ≤ D → Ix c W → W.heap[D]? = some (.deferred (some [])) → c.wpIn Fence.wide (n + 2) P Q { a with defers := { target := .collected D, args := #[] } :: a.defers } W) :
    (Code.rangeFunc gt ps assign body).wpIn Fence.wide (n + 2) P Q a w := by
  refine wpIn_rangeFunc ?_
  intro fn hfn
  rw [show Fence.wide.round = none from rfl]
  obtain ⟨rec, hrec⟩ : ∃ rec : LoopState → Option Code → Loop, rec = fun st pe => { state := st, pending := pe, fn, tmps := a.tmps, params := ps, assign, body, defers := w.heap.size } := ⟨_, rfl⟩
  obtain ⟨W1, hW1⟩ : ∃ W1, (w.alloc (.deferred (some []))).alloc (.loop (rec .ready none)) = W1 := ⟨_, rfl⟩
  have hL1 : W1.heap[w.heap.size + 1]? = some (.loop (rec .ready none)) := by
    rw [← hW1]; have := World.alloc_heap_new (w.alloc (.deferred (some []))) (.loop (rec .ready none)); rwa [World.size_alloc] at this
  have hK1 : W1.heap[w.heap.size]? = some (.deferred (some [])) := by
    rw [← hW1]; exact (Below.heap_alloc _ _ _ (by simp)).trans (World.alloc_heap_new w _)
  have hC1 : ∀ p, S p → W1.cell? p = w.cell? p := fun p hp => by
    rw [← hW1, World.cell?_alloc_lt _ _ p (by have := hS p hp; simp; omega), World.cell?_alloc_lt _ _ p (hS p hp)]
  refine ⟨w.heap.size + 1, [{ target := .collected w.heap.size, args := #[] }], W1, { target := .fn (.func gf) lb, args := #[.func (.yield (w.heap.size + 1)) #[] #[]] }, W1, gf,
    #[.func (.yield (w.heap.size + 1)) #[] #[]] ++ lb, W1, ?_, ?_, ?_, ?_, fun _ => by omega, ?_⟩
  · rw [← hW1, hrec]; exact run_enterLoop_outer _ _ _ _ _
  · simp only [resolve, hg]
    simp [go_sem]
  · intro f' hf'; trivial
  · simp [invoke, go_sem, eg]
  · refine (hseq (w.heap.size + 1)
      (fun k W => I k W ∧ W.heap[w.heap.size + 1]? = some (.loop (rec .ready none)) ∧ W.heap[w.heap.size]? = some (.deferred (some [])))
      (fun W => ∃ c, Ix c W ∧ W.heap[w.heap.size + 1]? = some (.loop (rec .done (some c))) ∧ W.heap[w.heap.size]? = some (.deferred (some [])))
      W1 hC1 ?_ ⟨by rw [← hW1]; exact h0 _, hL1, hK1⟩).mono ?_
    · -- one round
      rintro k x W hkx ⟨hi, hl, hk⟩
      have hlt := lt_of_heap hl
      have hy := run_yield (P := P) (args := encs x) hl (by rw [hrec]; exact hps x)
      rw [hrec] at hy
      refine ⟨fn, _, assign, body, hy, roundIn_of_wpIn hfn (wpIn_mono (hassign _ k x W hkx hi) ?_)⟩
      rintro e a1 W2 hp
      cases e with
      | normal =>
        obtain ⟨ho2, hc2, hj2⟩ := hp
        have hl2 := ho2.same _ _ hl rfl
        have hk2 := ho2.same _ _ hk rfl
        refine ⟨_, run_beginRound hl2 (by rw [hrec]), ?_⟩
        have hlt2 := lt_of_heap hl2
        have hl3 : (W2.putObj (w.heap.size + 1) (.loop { rec .ready none with state := .busy })).heap[w.heap.size + 1]? = some (.loop { rec .ready none with state := .busy }) := putObj_same hlt2
        have hk3 : (W2.putObj (w.heap.size + 1) (.loop { rec .ready none with state := .busy })).heap[w.heap.size]? = some (.deferred (some [])) := (putObj_else (by omega)).trans hk2
        have hc3 : ∀ p, S p → (W2.putObj (w.heap.size + 1) (.loop { rec .ready none with state := .busy })).cell? p = W.cell? p := fun p hp => (putObj_cell hl2 rfl rfl p).trans (hc2 p hp)
        refine wpIn_mono (hbody _ k a1 _ (by omega) (hJ k a1 W2 _ _ _ (by omega) hl2 rfl hj2)) ?_
        have fin : ∀ (jump : Option Code) (W4 : World), KeepsOthers (W2.putObj (w.heap.size + 1) (.loop { rec .ready none with state := .busy })) W4 →
            (Instr.endRound (w.heap.size + 1) jump).run P W4 = .ok (.bool jump.isNone) (W4.putObj (w.heap.size + 1) (.loop (rec (if jump.isNone then .ready else .done) jump))) ∧
            W4.heap[w.heap.size + 1]? = some (.loop { rec .ready none with state := .busy }) ∧
            (W4.putObj (w.heap.size + 1) (.loop (rec (if jump.isNone then .ready else .done) jump))).heap[w.heap.size + 1]? = some (.loop (rec (if jump.isNone then .ready else .done) jump)) ∧
            (W4.putObj (w.heap.size + 1) (.loop (rec (if jump.isNone then .ready else .done) jump))).heap[w.heap.size]? = some (.deferred (some [])) := fun jump W4 hk4 => by
          have hl4 := hk4.same _ _ hl3 rfl
          have := run_endRound (P := P) jump hl4
          rw [hrec] at this ⊢
          exact ⟨this, by rw [hrec] at hl4; exact hl4, putObj_same (lt_of_heap hl4), (putObj_else (by omega)).trans (hk4.same _ _ hk3 rfl)⟩
        rintro e a3 W4 hp
        cases e with
        | normal =>
          obtain ⟨ho4, hc4, hi4⟩ := hp
          obtain ⟨hr, hl4, hl5, hk5⟩ := fin none W4 ho4
          exact ⟨_, _, hr, .inl ⟨rfl, ⟨hI _ W4 _ _ _ (by omega) hl4 rfl hi4, hl5, hk5⟩, fun p hp => (putObj_cell hl4 rfl rfl p).trans ((hc4 p hp).trans (hc3 p hp))⟩⟩
        | ret =>
          obtain ⟨ho4, hi4⟩ := hp
          obtain ⟨hr, hl4, hl5, hk5⟩ := fin (some .ret) W4 ho4
          exact ⟨_, _, hr, .inr ⟨rfl, .ret, hIx _ W4 _ _ _ (by omega) hl4 rfl hi4, hl5, hk5⟩⟩
        | exit id =>
          obtain ⟨ho4, hi4⟩ := hp
          obtain ⟨hr, hl4, hl5, hk5⟩ := fin (some (.exit id)) W4 ho4
          exact ⟨_, _, hr, .inr ⟨rfl, .exit id, hIx _ W4 _ _ _ (by omega) hl4 rfl hi4, hl5, hk5⟩⟩
        | goto t => exact hp.elim
        | panic ch => exact hp.elim
        | outgrown => exact hp.elim
      | _ => exact hp.elim
    · rintro e W2 ⟨⟨v, rfl⟩, (⟨hi, hl, hk⟩ | ⟨c, hi, hl, hk⟩)⟩
      · exact ⟨none, _, by have := run_endLoop (P := P) hl (by rw [hrec]; simp); rw [hrec] at this; exact this, hdone _ _ (Nat.le_refl _) (hI _ W2 _ _ _ (by omega) hl rfl hi) ((putObj_else (by omega)).trans hk)⟩
      · exact ⟨some c, _, by have := run_endLoop (P := P) hl (by rw [hrec]; simp); rw [hrec] at this; exact this, hstop _ c _ (Nat.le_refl _) (hIx c W2 _ _ _ (by omega) hl rfl hi) ((putObj_else (by omega)).trans hk)⟩
def mkV (ag : Bool) (l : List Value) : Value := cond ag (.agg l.toArray) (l.headD undef)
/-- slices.Backward at a type: the call lays the row in a box, the closure hands out the places from the end. -/
structure DownOk (P : Program) (fB fC tS K BY : Nat) (ag : Bool) : Prop where
  hb : HasBody P fB
  ec : ∀ args w, (callFunc fC args).run P w = .ok (.enter fC args) w
  call : ∀ A n c w, Calls P fB #[.slice A n c] w fun e w' => e = .returned (.func (.func fC) #[] #[.pointer (some ⟨w.heap.size, 0, none⟩)]) ∧ w' = w.alloc (.cells #[.slice A n c] tS)
  seq : ∀ (n Bs : Nat) (A : Option Addr) (len cap : Nat) (us : List Value) (S : Addr → Prop) (w : World), len * BY ≤ 140737488351232 → us.length = len * K → w.cell? ⟨Bs, 0, none⟩ = some (.slice A len cap) → S ⟨Bs, 0, none⟩ → At w S A us →
    SeqDown n P fC #[.pointer (some ⟨Bs, 0, none⟩)] (fun x => #[.int .i64 (x : Int), mkV ag ((us.drop (x * K)).take K)]) S len w

theorem take_rows (us : List Value) (x K : Nat) (h : x * K + K ≤ us.length) : (us.drop (x * K)).take K = (List.range K).map fun c => us.getD (x * K + c) undef := by
  apply List.ext_getElem?
  intro i
  rw [List.getElem?_take, List.getElem?_map]
  by_cases hi : i < K
  · rw [if_pos hi, List.getElem?_drop, List.getElem?_range hi, Option.map_some, List.getD_eq_getElem?_getD, List.getElem?_eq_getElem (by omega)]
    rfl
  · rw [if_neg hi, List.getElem?_eq_none (by simpa using hi)]
    rfl
/-! ### The loop as a piece of code that a function stands for -/
theorem DfOk.lt {B : Nat} : ∀ {ds : List Deferred}, DfOk B w ds → ∀ D, ({ target := .collected D, args := #[] } : Deferred) ∈ ds → w.heap[D]? = some (.deferred (some []))
  | [], _, D, h => by cases h
  | d :: ds, ⟨⟨D1, h0, h1, h2, h3⟩, h⟩, D, hm => by
    rcases List.mem_cons.1 hm with e | hm
    · rw [h1] at e
      cases e
      exact h2
    · exact DfOk.lt h D hm
theorem DfOk.put {B D : Nat} {o : Obj} : ∀ {ds : List Deferred}, DfOk B w ds → D < w.heap.size → (∀ D', ({ target := .collected D', args := #[] } : Deferred) ∈ ds → D' ≠ D) → DfOk B (w.putObj D o) ds
  | [], _, _, _ => trivial
  | d :: ds, ⟨⟨D1, h0, h1, h2, h3⟩, h⟩, hD, hn => by
    refine ⟨⟨D1, h0, h1, ?_, h3⟩, DfOk.put h hD fun D' hm => hn D' (List.mem_cons_of_mem _ hm)⟩
    rw [putObj_heap _ _ _ _ hD, if_neg (hn D1 (by rw [h1]; exact List.mem_cons_self))]
    exact h2
/-- A loop's record that is turned. -/
theorem Fr.putL {D : Nat} {lp : Loop} {o' : Obj} (hF : Fr P E M0 w0 g σ a w) (hD : w0.heap.size ≤ D) (ho : w.heap[D]? = some (.loop lp)) (hc : o'.isCells = false) : Fr P E M0 w0 g σ a (w.putObj D o') := by
  have hcell := putObj_cell ho rfl hc
  refine ⟨hF.inv.putObj hD ho rfl hc, hF.fv.mono (Ext.refl g) (fun _ p _ => hcell p) (by rw [putObj_size]; exact Nat.le_refl _), hF.tm.ext (Ext.refl g) (fun _ p _ => hcell p), hF.nt, hF.df.put (lt_of_heap ho) fun D' hm e => ?_⟩
  have := hF.df.lt D' hm
  rw [e, ho] at this
  cases this
theorem Fr.allocO {o : Obj} (hF : Fr P E M0 w0 g σ a w) : Fr P E M0 w0 g σ a (w.alloc o) := by
  have hk : Keeps (Free g (fun i => σ.heap[i]?) w fun _ => False) w (w.alloc o) := Keeps.alloc _ w _
  obtain ⟨hI, hL⟩ := hF.inv.frame (w' := w.alloc o) (g' := g) (H' := fun i => σ.heap[i]?) (fun _ => False) (fun _ _ => rfl) (fun _ _ h => h.elim) (fun _ _ _ _ _ _ h => h.elim) (fun b p hb => .inl hb) hk (Ext.refl g) hF.inv.no
  exact ⟨hI, hF.fv.mono (Ext.refl g) hL hk.size, hF.tm.ext (Ext.refl g) hL, hF.nt, hF.df.keep hk.others⟩
theorem Fr.defer {D : Nat} (hF : Fr P E M0 w0 g σ a w) (hD : w0.heap.size ≤ D) (ho : w.heap[D]? = some (.deferred (some []))) (hn : ∀ D', ({ target := .collected D', args := #[] } : Deferred) ∈ a.defers → D' ≠ D) :
    Fr P E M0 w0 g σ { a with defers := { target := .collected D, args := #[] } :: a.defers } w := ⟨hF.inv, hF.fv, hF.tm, hF.nt, ⟨D, hD, rfl, ho, hn⟩, hF.df⟩
/-- BEHIND A ROUND, where a loop's record may have been turned. -/
theorem Fr.round2 {g2 : Gh} {σ2 : St} {a2 : Act} {w2 : World} (hF : Fr P E M0 w0 g σ a w) (hF2 : Fr P E M0 w0 g2 σ2 a2 w2) (hx : Ext g g2) (hst : ∀ b p, g.L b p → w2.cell? p = w.cell? p) (hsz : w.heap.size ≤ w2.heap.size) (hdf : DfOk w0.heap.size w2 a.defers)
    (hN : σ.heap.length ≤ σ2.heap.length) (hf : ∀ i o, i < σ.heap.length → σ2.heap[i]? = some o → o.free σ.heap.length = true) :
    Fr P E M0 w0 (cutG g2 σ.heap.length) ⟨σ.tmps, σ2.heap.take σ.heap.length⟩ a w2 ∧ Ext g (cutG g2 σ.heap.length) := by
  have hE : Ext g (cutG g2 σ.heap.length) := ⟨fun i hi => by
    have hlt : i < σ.heap.length := by
      rcases Nat.lt_or_ge i σ.heap.length with h | h
      · exact h
      · exact absurd (hF.inv.no i (List.getElem?_eq_none h)) hi
    exact (if_pos hlt).trans (hx.loc i hi), hx.L, hx.fv, hx.nz⟩
  have hI := hF2.inv.cut (N := σ.heap.length) hf
  have hH : (fun i => (σ2.heap.take σ.heap.length)[i]?) = fun i => if i < σ.heap.length then σ2.heap[i]? else none := by
    funext i
    rw [List.getElem?_take]
  exact ⟨⟨by rw [hH]; exact hI, hF.fv.mono hE hst hsz, hF.tm.ext hE hst, hF.nt, hdf⟩, hE⟩
def freeB (N : Nat) (h : List Ob) : Bool := Nat.ble N h.length && (h.take N).all (Ob.free N)
theorem freeB_ok {N : Nat} {h : List Ob} (hb : freeB N h = true) : N ≤ h.length ∧ ∀ i o, i < N → h[i]? = some o → o.free N = true := by
  unfold freeB at hb
  rw [Bool.and_eq_true] at hb
  refine ⟨Nat.le_of_ble_eq_true hb.1, fun i o hi ho => List.all_eq_true.1 hb.2 o (List.mem_of_getElem? (i := i) ?_)⟩
  rw [List.getElem?_take, if_pos hi]
  exact ho
def elTV (ag : Bool) (cs : List C) : TV := cond ag (.v (.agg cs)) (match cs with
  | c :: _ => one1 c
  | [] => .tup [])
theorem elTV_ok {ag : Bool} {cs : List C} {us : List Value} (h : F2 (CR g w) cs us) (hn : cs ≠ []) : TVR g w (elTV ag cs) (mkV ag us) := by
  cases ag with
  | true => exact ⟨us.toArray, rfl, by simpa using h⟩
  | false =>
    cases cs with
    | nil => exact absurd rfl hn
    | cons c cs =>
      cases us with
      | nil => exact h.elim
      | cons u us => exact h.1
/-- The row that is ranged over. -/
def rowOf (tm : List (Nat × TV)) (src : Operand) : Option SL := match ev tm src with
  | some (.v (.one (.slv m k xs))) => some ⟨m, k, xs⟩
  | _ => none
/-- A way out of the loop, as one out of the block around it. -/
def outB (bl : Nat) : Ex → Ex
  | .ext i => cond (Nat.beq i bl) .nrm (.ext i)
  | e => e
/-- A round, and what comes behind it. -/
noncomputable def stepB {R : Type} (E : Env) (keep : List Nat) (kout : Ex → List CastAt × List Nat) (assign body : Code) (bl p0 p1 : Nat) (el : TV) (j : Nat) (f : Kp → (Ex → Kp → Option R) → Option R) (K : Ex → Kp → Option R) (kp : Kp) : Option R :=
  exec E assign .a ⟨putT (putT (kp.st keep).tmps p0 (one1 (.int .i64 (j : Int)))) p1 el, kp.heap⟩ fun e σ1 => match e with
    | .nrm => exec E body .a σ1 fun e σ2 => cond (freeB kp.heap.length σ2.heap) (match e with
      | .nrm => f ⟨kp.vals, σ2.heap.take kp.heap.length⟩ K
      | e => keepX E kout K (outB bl e) ⟨(kp.st keep).tmps, σ2.heap.take kp.heap.length⟩) none
    | _ => none
theorem keepsO {D : Nat} {o : Obj} {W W' : World} (hD : W.heap.size ≤ D) (h : KeepsOthers W W') : KeepsOthers W (W'.putObj D o) :=
  ⟨by rw [putObj_size]; exact h.size, fun k o' hk hc => (putObj_else (by have := lt_of_heap hk; omega)).trans (h.same k o' hk hc)⟩
theorem sum_back (hO : OpsOk P E) (hm : P.follows .mixedOrders = true) {bl t0 t1 fB fC p0 p1 BY : Nat} {tS : TypeId} {ag : Bool} {q1 : String} {y1 : TypeId} {f1 : Array Edge} {ts : Array TypeId} {ops : Array Oper} {assign body : Code}
    {keep : List Nat} {kout : Ex → List CastAt × List Nat} {k : Kd} (hB : DownOk P fB fC tS k.size BY ag)
    (hsz : 0 < ops.size) (hop : ops[ops.size - 1]? = some ⟨some t1, .call ⟨.value (.func fB), #[.tmp t0], ts⟩, y1, q1, f1, none⟩)
    (ht1 : t1 < E.nt) (hp0 : p0 < E.nt) (hp1 : p1 < E.nt) (hk1 : keep.contains t1 = false) (casts : List CastAt)
    {f : (R : Type) → Kp → (Ex → Kp → Option R) → Option R} {F : Nat → (R : Type) → Kp → (Ex → Kp → Option R) → Option R}
    (hf : ∀ R kp K r, f R kp K = some r → ∃ m xs, rowOf (kp.st keep).tmps (.tmp t0) = some ⟨m, k, xs⟩ ∧ xs.length * BY ≤ 140737488351232 ∧ F xs.length R kp K = some r)
    (h0 : ∀ R kp K r, F 0 R kp K = some r → keepX E kout K .nrm (kp.st keep) = some r)
    (hs : ∀ j R kp K r m xs, rowOf (kp.st keep).tmps (.tmp t0) = some ⟨m, k, xs⟩ → F (j + 1) R kp K = some r → stepB E keep kout assign body bl p0 p1 (elTV ag (cells m k (rdE k xs j))) j (F j R) K kp = some r) :
    TailOk P E ops (.block bl (.rangeFunc (.tmp t1) #[p0, p1] assign body)) ⟨(casts, keep), f, kout⟩ := by
  refine ⟨hsz, ?_⟩
  intro nn_ R kp K r hx M0 w0 g a w Q hF hne hK
  simp only at hx hF hK
  obtain ⟨m, xs, hrow, hlen, hFx⟩ := hf R kp K r hx
  have hev : ev (kp.st keep).tmps (.tmp t0) = some (.v (.one (.slv m k xs))) := by
    unfold rowOf at hrow
    split at hrow
    · rename_i m' k' xs' h1
      cases hrow
      exact h1
    · cases hrow
  have hv : ER w (SM g.L m) (.list k) xs [a.eval (.tmp t0)] := ev_ok hF.tm hev
  simp only [ER] at hv
  obtain ⟨A, n, c, us, e1, hxl, hnc, hrows, hat⟩ := hv
  have e1 : a.eval (.tmp t0) = .slice A n c := by simpa using e1
  subst hxl
  have hnk : ∀ t, keep.contains t = false → lk (kp.st keep).tmps t = none := by
    intro t ht
    have : ∀ (ks : List Nat) (vs : List TV), ks.contains t = false → lk (ks.zip vs) t = none := by
      intro ks
      induction ks with
      | nil => intro vs _; rfl
      | cons u ks ih =>
        intro vs hc
        cases vs with
        | nil => rfl
        | cons v vs =>
          rw [List.contains_cons, Bool.or_eq_false_iff] at hc
          show (if u = t then some v else lk (ks.zip vs) t) = none
          rw [if_neg (fun e => by rw [e] at hc; simp at hc)]
          exact ih vs hc.2
    exact this keep kp.vals ht
  refine call_back (rr := none) (tS := tS) hop hB.hb (hB.call A xs.length c) hF hne e1 (hnk _ hk1) (Nat.lt_of_lt_of_le ht1 hF.nt) ?_
  intro g1 a1 hF1 hL1 hbox hcl
  obtain ⟨w1, hw1⟩ : ∃ w1, w.alloc (.cells #[.slice A xs.length c] tS) = w1 := ⟨_, rfl⟩
  have hcb : w1.cell? ⟨w.heap.size, 0, none⟩ = some (.slice A xs.length c) := by
    rw [← hw1]
    unfold World.cell?
    rw [show (w.alloc (.cells #[.slice A xs.length c] tS)).heap[(⟨w.heap.size, 0, none⟩ : Addr).block]? = some (.cells #[.slice A xs.length c] tS) from World.alloc_heap_new w _]
    rfl
  rw [hw1] at hF1 hL1
  have hS : ∀ p, (∃ b, g1.L b p) → p.block < w1.heap.size := fun p ⟨b, hp⟩ => (hF1.inv.lt b p hp).1
  have hw0 : w0.heap.size ≤ w1.heap.size := hF1.inv.keep.size
  have hatS : At w1 (fun p => ∃ b, g1.L b p) A us := At.mono (fun p ⟨b, _, hp⟩ => ⟨b, hL1.L b p hp⟩) (fun p ⟨b, _, hp⟩ => hL1.st b p hp) hat
  have hus : us.length = xs.length * k.size := Rows2.len (ER.len k) hrows
  have hseq := hB.seq 0 w.heap.size A xs.length c us (fun p => ∃ b, g1.L b p) w1 hlen hus hcb ⟨0, hbox⟩ hatS
  show Code.wpIn Fence.wide nn_ P (Code.block bl (.rangeFunc (.tmp t1) #[p0, p1] assign body)) Q a1 (w.alloc (.cells #[.slice A xs.length c] tS))
  rw [hw1, wpIn_wide, ← wpIn_wide (n := 2)]
  refine wpIn_block ?_
  have hDlt : ∀ D', ({ target := .collected D', args := #[] } : Deferred) ∈ a1.defers → D' < w1.heap.size := fun D' hm => lt_of_heap (hF1.df.lt D' hm)
  have hQb : ∀ e (a' : Act) (w' : World), Q (ex (outB bl e)) a' w' → (match ex e with
      | .exit id' => if id' = bl then Q .normal a' w' else Q (.exit id') a' w'
      | e => Q e a' w') := by
    intro e a' w' hq
    cases e with
    | nrm => exact hq
    | ret => exact hq
    | ext i =>
      show (if i = bl then Q .normal a' w' else Q (.exit i) a' w')
      by_cases hi : i = bl
      · rw [if_pos hi]
        simpa [outB, hi, Nat.beq_refl, ex] using hq
      · rw [if_neg hi]
        have : Nat.beq i bl = false := by
          cases hb : Nat.beq i bl with
          | false => rfl
          | true => exact absurd (Nat.eq_of_beq_eq_true hb) hi
        simpa [outB, this, ex] using hq
  refine wpIn_down (n := 0) hcl hB.ec hseq hS (fun _ => rfl)
    (fun i W => ∃ h' g', F (xs.length - i) R ⟨kp.vals, h'⟩ K = some r ∧ Fr P E M0 w0 g' ⟨(kp.st keep).tmps, h'⟩ a1 W ∧ E.ne ≤ h'.length ∧ Later g1 w1 g' W)
    (fun i a' W => ∃ h' g' W0 σ1 g'', exec E body .a σ1 (fun e σ2 => cond (freeB h'.length σ2.heap) (match e with
        | .nrm => F (xs.length - (i + 1)) R ⟨kp.vals, σ2.heap.take h'.length⟩ K
        | e => keepX E kout K (outB bl e) ⟨(kp.st keep).tmps, σ2.heap.take h'.length⟩) none) = some r ∧ Fr P E M0 w0 g' ⟨(kp.st keep).tmps, h'⟩ a1 W0 ∧ E.ne ≤ h'.length ∧ Fr P E M0 w0 g'' σ1 a' W ∧ Ext g1 g' ∧ Ext g' g'' ∧
        (∀ b p, g'.L b p → W.cell? p = W0.cell? p) ∧ W0.heap.size ≤ W.heap.size ∧ (∀ b p, g1.L b p → W.cell? p = w1.cell? p) ∧ KeepsOthers w1 W)
    (fun c W => ∃ e kp' g', (c = .ret ∧ e = .ret ∨ ∃ i, c = .exit i ∧ e = .ext i) ∧ K (outB bl e) kp' = some r ∧ Fr P E M0 w0 g' (kp'.st (kout (outB bl e)).2) a1 W ∧ E.ne ≤ kp'.heap.length ∧ LaterE E.ne g1 w1 g' W)
    ?_ ?_ ?_ ?_ ?_ ?_ ?_ ?_
  · -- I abides
    rintro i W D lp o' hD ho hc ⟨h', g', h1, h2, h3, h4⟩
    exact ⟨h', g', h1, h2.putL (by omega) ho hc, h3, h4.ext, fun b p hp => (putObj_cell ho rfl hc p).trans (h4.st b p hp), keepsO hD h4.ko⟩
  · rintro i a' W D lp o' hD ho hc ⟨h', g', W0, σ1, g'', h1, h2, h3, h4, h5, h6, h7, h8, h9, h10⟩
    exact ⟨h', g', W0, σ1, g'', h1, h2, h3, h4.putL (by omega) ho hc, h5, h6, fun b p hp => (putObj_cell ho rfl hc p).trans (h7 b p hp), by rw [putObj_size]; exact h8, fun b p hp => (putObj_cell ho rfl hc p).trans (h9 b p hp), keepsO hD h10⟩
  · rintro c W D lp o' hD ho hc ⟨e, kp', g', h1, h2, h3, h4, h5⟩
    exact ⟨e, kp', g', h1, h2, h3.putL (by omega) ho hc, h4, h5.L, h5.nz, h5.fv, fun b p hp => (putObj_cell ho rfl hc p).trans (h5.st b p hp), h5.loc, keepsO hD h5.ko⟩
  · intro rec
    refine ⟨kp.heap, g1, by rw [Nat.sub_zero]; exact hFx, hF1.allocO.allocO, hne, Ext.refl g1, fun b p hp => ?_, (KeepsOthers.alloc _ _).trans (KeepsOthers.alloc _ _)⟩
    have hlt := (hF1.inv.lt b p hp).1
    rw [World.cell?_alloc_lt _ _ p (by rw [World.size_alloc]; omega), World.cell?_alloc_lt _ _ p hlt]
  · -- the left sides
    rintro l i x W hix ⟨h', g', h1, h2, h3, h4⟩
    have hxx : xs.length - i = x + 1 := by omega
    rw [hxx] at h1
    have hst := hs x R ⟨kp.vals, h'⟩ K r m xs hrow h1
    unfold stepB at hst
    have hxlt : x < xs.length := by omega
    -- the element
    have hel : TVR g' W (elTV ag (cells m k (rdE k xs x))) (mkV ag ((us.drop (x * k.size)).take k.size)) := by
      have hg := Rows2.get (ER.len k) hrows x xs[x] (List.getElem?_eq_getElem hxlt)
      have hrd : rdE k xs x = xs[x] := by
        unfold rdE
        rw [List.getD_eq_getElem?_getD, List.getElem?_eq_getElem hxlt]
        rfl
      rw [hrd]
      have h5 := ER.cells k xs[x] _ (ER.mono (S' := SM g'.L m) (w' := W) (fun p ⟨b, hb, hp⟩ => ⟨b, hb, h4.ext.L b p (hL1.L b p hp)⟩) (fun p ⟨b, hb, hp⟩ => (h4.st b p (hL1.L b p hp)).trans (hL1.st b p hp)) k _ _ hg)
      refine elTV_ok h5 ?_
      have := h5.len
      intro e
      rw [e] at this
      have h6 := ER.len k _ _ hg
      have h7 := Kd.size_pos k
      rw [List.length_nil] at this
      omega
    have hFr : Fr P E M0 w0 g' ⟨putT (putT (kp.st keep).tmps p0 (one1 (.int .i64 (x : Int)))) p1 (elTV ag (cells m k (rdE k xs x))), h'⟩ { tmps := (a1.tmps.setIfInBounds p0 (.int .i64 (x : Int))).setIfInBounds p1 (mkV ag ((us.drop (x * k.size)).take k.size)), defers := [] } W := by
      have hA : TmR g' W (kp.st keep).tmps a1 := h2.tm
      have hB1 := TmR.put hA (x := one1 (.int .i64 (x : Int))) (v := .int .i64 (x : Int)) rfl (t := p0) (Nat.lt_of_lt_of_le hp0 h2.nt)
      have hB2 := TmR.put hB1 hel (t := p1) (by rw [put_size]; exact Nat.lt_of_lt_of_le hp1 h2.nt)
      refine ⟨h2.inv, h2.fv, fun t y hy => hB2 t y hy, ?_, trivial⟩
      show E.nt ≤ ((a1.tmps.setIfInBounds p0 _).setIfInBounds p1 _).size
      rw [Array.size_setIfInBounds, Array.size_setIfInBounds]
      exact h2.nt
    have hz : ∀ (v0 v1 : Value) (tt : Array Value), (#[p0, p1].zip #[v0, v1]).foldl (fun t (p, v) => t.setIfInBounds p v) tt = (tt.setIfInBounds p0 v0).setIfInBounds p1 v1 := by
      intro v0 v1 tt
      simp
    rw [hz]
    show Code.wpIn (Fw (some l)) 0 P assign _ { tmps := (a1.tmps.setIfInBounds p0 (.int .i64 (x : Int))).setIfInBounds p1 (mkV ag ((us.drop (x * k.size)).take k.size)), defers := [] } W
    refine exec_later hO hm assign _ _ r g' _ W _ hst hFr ?_
    intro e σ1 g2 a2 W2 h5 hF2 hL2
    cases e with
    | nrm =>
      refine ⟨hL2.ko, fun p ⟨b, hp⟩ => hL2.st b p (h4.ext.L b p hp), h', g', W, σ1, g2, ?_, h2, h3, hF2, h4.ext, hL2.ext, hL2.st, hL2.ko.size, fun b p hp => (hL2.st b p (h4.ext.L b p hp)).trans (h4.st b p hp), h4.ko.trans hL2.ko⟩
      have hxe : xs.length - (i + 1) = x := by omega
      rw [hxe]
      exact h5
    | ext id => simp at h5
    | ret => simp at h5
  · -- the body
    rintro l i a' W hi ⟨h', g', W0, σ1, g'', h1, h2, h3, h4, h5, h6, h7, h8, h9, h10⟩
    show Code.wpIn (Fw (some l)) 0 P body _ a' W
    refine exec_later hO hm body σ1 _ r g'' a' W _ h1 h4 ?_
    intro e σ2 g3 a3 W3 hy hF3 hL3
    cases hb : freeB h'.length σ2.heap with
    | false => rw [hb] at hy; cases hy
    | true =>
      rw [hb] at hy
      simp only [cond_true] at hy
      obtain ⟨hN, hfr⟩ := freeB_ok hb
      have hdf : DfOk w0.heap.size W3 a1.defers := by
        have := hF1.df.keep (h10.trans hL3.ko)
        exact this
      obtain ⟨hR, hRx⟩ := Fr.round2 h2 hF3 (h6.trans hL3.ext) (fun b p hp => (hL3.st b p (h6.L b p hp)).trans (h7 b p hp)) (Nat.le_trans h8 hL3.ko.size) hdf hN hfr
      have hR : Fr P E M0 w0 (cutG g3 h'.length) ⟨(kp.st keep).tmps, σ2.heap.take h'.length⟩ a1 W3 := hR
      have hRx : Ext g' (cutG g3 h'.length) := hRx
      have hlen2 : E.ne ≤ (σ2.heap.take h'.length).length := by rw [List.length_take]; omega
      have hLt : Later g1 w1 (cutG g3 h'.length) W3 := ⟨h5.trans hRx, fun b p hp => (hL3.st b p (h6.L b p (h5.L b p hp))).trans (h9 b p hp), h10.trans hL3.ko⟩
      have hcl : ∀ p, (∃ b, g1.L b p) → W3.cell? p = W.cell? p := fun p ⟨b, hp⟩ => hL3.st b p (h6.L b p (h5.L b p hp))
      have out : ∀ e, keepX E kout K (outB bl e) ⟨(kp.st keep).tmps, σ2.heap.take h'.length⟩ = some r → ∃ kp' g', K (outB bl e) kp' = some r ∧ Fr P E M0 w0 g' (kp'.st (kout (outB bl e)).2) a1 W3 ∧ E.ne ≤ kp'.heap.length ∧ LaterE E.ne g1 w1 g' W3 := by
        intro e he
        obtain ⟨kp', g4, k1, k2, k3, k4⟩ := keepX_ok he hR hlen2
        exact ⟨kp', g4, k1, k2, k3, (hF1.later hne hLt).trans k4⟩
      cases e with
      | nrm => exact ⟨hL3.ko, hcl, _, _, hy, hR, hlen2, hLt⟩
      | ext id =>
        obtain ⟨kp', g4, k1, k2, k3, k4⟩ := out (.ext id) hy
        exact ⟨hL3.ko, .ext id, kp', g4, .inr ⟨id, rfl, rfl⟩, k1, k2, k3, k4⟩
      | ret =>
        obtain ⟨kp', g4, k1, k2, k3, k4⟩ := out .ret hy
        exact ⟨hL3.ko, .ret, kp', g4, .inl ⟨rfl, rfl⟩, k1, k2, k3, k4⟩
  · -- all have come
    rintro D W hD ⟨h', g', h1, h2, h3, h4⟩ ho
    rw [Nat.sub_self] at h1
    obtain ⟨kp', g4, k1, k2, k3, k4⟩ := keepX_ok (h0 R _ K r h1) h2 h3
    exact hK .nrm kp' g4 _ W k1 (k2.defer (by omega) ho fun D' hm e => by have := hDlt D' hm; omega) k3 (hL1.trans ((hF1.later hne h4).trans k4))
  · -- a round has left
    rintro D c W hD ⟨e, kp', g', h1, h2, h3, h4, h5⟩ ho
    have hfin := hQb e _ _ <| hK (outB bl e) kp' g' _ W h2 (h3.defer (by omega) ho fun D' hm e => by have := hDlt D' hm; omega) h4 (hL1.trans h5)
    rcases h1 with ⟨rfl, rfl⟩ | ⟨i, rfl, rfl⟩
    · exact wpIn_ret hfin
    · exact wpIn_exit hfin

/-! ### As it is printed -/
def opsOf : Code → Array Oper
  | .region _ ops _ => ops
  | _ => #[]
def rfA : Code → Code
  | .block _ (.rangeFunc _ _ x _) => x
  | c => c
def rfB : Code → Code
  | .block _ (.rangeFunc _ _ _ y) => y
  | c => c
def isBack (o : Oper) : Option (Nat × Nat × Nat) := match o with
  | ⟨some t1, .call ⟨.value (.func fB), args, _⟩, _, _, _, none⟩ => match args.toList with
    | [.tmp t0] => some (t1, fB, t0)
    | _ => none
  | _ => none
theorem isBack_some {o : Oper} {t1 fB t0 : Nat} (h : isBack o = some (t1, fB, t0)) : ∃ ts y1 q1 f1, o = ⟨some t1, .call ⟨.value (.func fB), #[.tmp t0], ts⟩, y1, q1, f1, none⟩ := by
  unfold isBack at h
  split at h
  · rename_i t1' fB' args ts y1 q1 f1
    split at h
    · rename_i t0' ha
      cases h
      have : args = #[.tmp t0] := by
        cases args
        simpa using ha
      subst this
      exact ⟨_, _, _, _, rfl⟩
    · cases h
  · cases h
noncomputable def backF {k : Kd} (sh : SK) (row : sh.T → List (El k)) (BY : Nat) (F : Nat → (R : Type) → sh.T → (Ex → Kp → Option R) → Option R) : (R : Type) → Kp → (Ex → Kp → Option R) → Option R :=
  fun R kp K => (sh.dec kp).bind fun t => cond (decide ((row t).length * BY ≤ 140737488351232)) (F (row t).length R t K) none
theorem backS (hO : OpsOk P E) (hm : P.follows .mixedOrders = true) {bl t0 t1 fB fC p0 p1 BY : Nat} {tS : TypeId} {ag : Bool} {ops : Array Oper} {y : Code} {keep : List Nat} {kout : Ex → List CastAt × List Nat} {k : Kd} {casts : List CastAt} {m : List Nat}
    {sh : SK} {row : sh.T → List (El k)} {F : Nat → (R : Type) → sh.T → (Ex → Kp → Option R) → Option R}
    (hB : DownOk P fB fC tS k.size BY ag) (hop : (ops[ops.size - 1]?).bind isBack = some (t1, fB, t0)) (hy : y = .block bl (.rangeFunc (.tmp t1) #[p0, p1] (rfA y) (rfB y)))
    (hn : (Nat.blt t1 E.nt && (Nat.blt p0 E.nt && (Nat.blt p1 E.nt && !keep.contains t1))) = true)
    (hrow : ∀ t : sh.T, rowOf ((sh.enc t).st keep).tmps (.tmp t0) = some ⟨m, k, row t⟩)
    (h0 : ∀ (R : Type) (t : sh.T) (K : Ex → Kp → Option R), F 0 R t K = keepX E kout K .nrm ((sh.enc t).st keep))
    (hs : ∀ (j : Nat) (R : Type) (t : sh.T) (K : Ex → Kp → Option R), stepB E keep kout (rfA y) (rfB y) bl p0 p1 (elTV ag (cells m k (rdE k (row t) j))) j (sumF sh (F j) R) K (sh.enc t) = F (j + 1) R t K) :
    TailOk P E ops y ⟨(casts, keep), backF sh row BY F, kout⟩ := by
  obtain ⟨o, ho1, ho2⟩ := Option.bind_eq_some_iff.1 hop
  obtain ⟨ts, y1, q1, f1, rfl⟩ := isBack_some ho2
  rw [Bool.and_eq_true, Bool.and_eq_true, Bool.and_eq_true] at hn
  obtain ⟨n1, n2, n3, n4⟩ := hn
  have lt : ∀ {a b : Nat}, Nat.blt a b = true → a < b := fun h => Nat.le_of_ble_eq_true h
  have hsz : 0 < ops.size := by
    rcases Nat.eq_zero_or_pos ops.size with h | h
    · rw [h] at ho1
      simp [Array.getElem?_eq_none (show ops.size ≤ 0 - 1 by omega)] at ho1
    · exact h
  rw [hy]
  refine sum_back hO hm hB hsz ho1 (lt n1) (lt n2) (lt n3) (by simpa using n4) casts (F := fun j => sumF sh (F j)) ?_ ?_ ?_
  · intro R kp K r hx
    obtain ⟨t, h1, h2⟩ := Option.bind_eq_some_iff.1 hx
    have h3 := SK.dec_some h1
    subst h3
    cases hd : decide ((row t).length * BY ≤ 140737488351232) with
    | false => rw [hd] at h2; cases h2
    | true =>
      rw [hd] at h2
      refine ⟨m, row t, hrow t, of_decide_eq_true hd, ?_⟩
      show (sh.dec (sh.enc t)).bind _ = some r
      rw [h1]
      exact h2
  · intro R kp K r hx
    obtain ⟨t, h1, h2⟩ := Option.bind_eq_some_iff.1 hx
    have h3 := SK.dec_some h1
    subst h3
    exact (h0 R t K).symm.trans h2
  · intro j R kp K r m' xs hr hx
    obtain ⟨t, h1, h2⟩ := Option.bind_eq_some_iff.1 hx
    have h3 := SK.dec_some h1
    subst h3
    rw [hrow t] at hr
    cases hr
    exact (hs j R t K).trans h2
end Go.Proofs.YtdpjbeeokimnaaaA
