/-
  Code: what the small machine runs, the model runs. No condition.
-/
import Derived.Test.YtdhifkdijlghdaaGreatDoorACast
import Derived.LoopNIn
namespace Go.Proofs.YtdhifkdijlghdaaGreatDoorA
open Go
set_option linter.unusedVariables false
set_option linter.unusedSimpArgs false
variable {nn_ : Nat}
variable {P : Program} {E : Env} {M0 : Addr → Prop} {w0 w : World} {g : Gh} {σ : St} {a : Act}
def ex : Ex → Exit
 | .nrm => .normal
 | .ext id => .exit id
 | .ret => .ret
def SumOk (P : Program) (E : Env) (c : Code) (s : Sum) : Prop := ∀ (nn_ : Nat) (R : Type) (kp : Kp) (K : Ex → Kp → Option R) (r : R), s.f R kp K = some r → ∀ M0 w0 g a w (Q : Exit → Act → World → Prop), Fr P E M0 w0 g (kp.st s.kin.2) a w → E.ne ≤ kp.heap.length →
 (∀ e kp' g' a' w', K e kp' = some r → Fr P E M0 w0 g' (kp'.st (s.kout e).2) a' w' → E.ne ≤ kp'.heap.length → LaterE E.ne g w g' w' → Q (ex e) a' w') → c.wpIn (Fw none) nn_ P Q a w
def TailOk (P : Program) (E : Env) (ops : Array Oper) (y : Code) (s : Sum) : Prop := 0 < ops.size ∧ ∀ (nn_ : Nat) (R : Type) (kp : Kp) (K : Ex → Kp → Option R) (r : R), s.f R kp K = some r → ∀ M0 w0 g a w (Q : Exit → Act → World → Prop), Fr P E M0 w0 g (kp.st s.kin.2) a w → E.ne ≤ kp.heap.length →
 (∀ e kp' g' a' w', K e kp' = some r → Fr P E M0 w0 g' (kp'.st (s.kout e).2) a' w' → E.ne ≤ kp'.heap.length → LaterE E.ne g w g' w' → Q (ex e) a' w') → wpOpsIn (Fw none) nn_ P ops (Exit.then (y.wpIn (Fw none) nn_ P Q) Q) [ops.size - 1] a w
def HintOk (P : Program) (E : Env) : Code → Hint → Prop
 | .seq x y, .n h h' => HintOk P E x h ∧ HintOk P E y h'
 | .cond _ x y, .n h h' => HintOk P E x h ∧ HintOk P E y h'
 | .block _ x, .b h => HintOk P E x h
 | .seq (.region _ ops false) y, .r s => TailOk P E ops y s
 | c, .s s => SumOk P E c s
 | _, _ => True
theorem HintOk.auto (P : Program) (E : Env) (c : Code) : HintOk P E c .a := by cases c <;> trivial
theorem Fr.ne {g' : Gh} {σ' : St} {a' : Act} {w' : World} (hF : Fr P E M0 w0 g σ a w) (hne : E.ne ≤ σ.heap.length) (hF' : Fr P E M0 w0 g' σ' a' w') (h : Later g w g' w') : E.ne ≤ σ'.heap.length := by
 rcases Nat.lt_or_ge σ'.heap.length E.ne with hlt | hge
 ·exfalso
  have h1 := hF.inv.ob σ'.heap.length _ (List.getElem?_eq_getElem (show σ'.heap.length < σ.heap.length by omega))
  have h2 := h.ext.loc _ (ObR.loc h1)
  rw [hF'.inv.no σ'.heap.length (List.getElem?_eq_none (Nat.le_refl _))] at h2
  exact ObR.loc h1 h2.symm
 ·exact hge
theorem sum_case {R : Type} {c : Code} {s : Sum} (hs : SumOk P E c s) {K : Ex → St → Option R} {r : R} {Q : Exit → Act → World → Prop}
  (h : (match normC E s.kin σ with | none => none | some kp => s.f R kp fun e kp' => K e (kp'.st (s.kout e).2)) = some r) (hF : Fr P E M0 w0 g σ a w) (hne : E.ne ≤ σ.heap.length)
  (hK : ∀ e σ' g' a' w', K e σ' = some r → Fr P E M0 w0 g' σ' a' w' → E.ne ≤ σ'.heap.length → LaterE E.ne g w g' w' → Q (ex e) a' w') : c.wpIn (Fw none) nn_ P Q a w := by
 cases hn : normC E s.kin σ with
 | none => rw [hn] at h; simp at h
 | some kp =>
  rw [hn] at h
  obtain ⟨g1, hF1, hL1, hne1⟩ := normC_ok hn hF hne
  exact hs nn_ R kp _ r h M0 w0 g1 a w Q hF1 hne1 fun e kp' g' a' w' h2 hF' hne' hL' => hK _ _ g' a' w' h2 hF' hne' (hL1.trans hL')
theorem tail_case (hO : OpsOk P E) {R : Type} {id : Nat} {ops : Array Oper} {y : Code} {s : Sum} (hs : TailOk P E ops y s) {K : Ex → St → Option R} {r : R} {Q : Exit → Act → World → Prop}
  (h : regionX true E ops.toList (fun _ => true) 0 ops.toList.dropLast [] σ (fun σ => match normC E s.kin σ with | none => none | some kp => s.f R kp fun e kp' => K e (kp'.st (s.kout e).2)) = some r) (hF : Fr P E M0 w0 g σ a w) (hne : E.ne ≤ σ.heap.length)
  (hK : ∀ e σ' g' a' w', K e σ' = some r → Fr P E M0 w0 g' σ' a' w' → E.ne ≤ σ'.heap.length → LaterE E.ne g w g' w' → Q (ex e) a' w') : (Code.seq (.region id ops false) y).wpIn (Fw none) nn_ P Q a w := by
 refine wpIn_seq (wpIn_region ?_)
 obtain ⟨hpos, hs⟩ := hs
 obtain ⟨m, hm⟩ : ∃ m, ops.size = m + 1 := ⟨ops.size - 1, by omega⟩
 have e : List.range ops.size = List.range' 0 ops.toList.dropLast.length ++ [ops.size - 1] := by
  rw [List.length_dropLast, Array.length_toList, hm, Nat.add_sub_cancel, List.range_succ, List.range_eq_range']
 rw [e]
 refine region_to (rr := none) hO ops.toList.dropLast 0 [] σ a w g h (fun j o hj => ?_) hF ?_
 ·rw [List.getElem?_dropLast] at hj
  split at hj
  ·rw [Nat.zero_add]; simpa using hj
  ·cases hj
 ·intro σ' g' a' w' h2 hF' hL
  cases hn : normC E s.kin σ' with
  | none => rw [hn] at h2; simp at h2
  | some kp =>
   rw [hn] at h2
   obtain ⟨g1, hF1, hL1, hne1⟩ := normC_ok hn hF' (hF.ne hne hF' hL)
   exact hs nn_ R kp _ r h2 M0 w0 g1 a' w' Q hF1 hne1 fun e kp' g2 a2 w2 h3 hF2 hne2 hL2 => hK _ _ g2 a2 w2 h3 hF2 hne2 ((hF.later hne hL).trans (hL1.trans hL2))
theorem exec_ok (hO : OpsOk P E) (hm : P.follows .mixedOrders = true) {R : Type} : ∀ (c : Code) (h : Hint), HintOk P E c h → ∀ (σ : St) (K : Ex → St → Option R) (r : R) (g : Gh) (a : Act) (w : World) (Q : Exit → Act → World → Prop),
  exec E c h σ K = some r → Fr P E M0 w0 g σ a w → E.ne ≤ σ.heap.length →
  (∀ e σ' g' a' w', K e σ' = some r → Fr P E M0 w0 g' σ' a' w' → E.ne ≤ σ'.heap.length → LaterE E.ne g w g' w' → Q (ex e) a' w') → c.wpIn (Fw none) nn_ P Q a w := by
 intro c
 induction c with
 | skip =>
  intro h hh σ K r g a w Q hx hF hne hK
  cases h with
  | a => exact wpIn_skip (hK .nrm σ g a w hx hF hne (LaterE.refl _ _ _))
  | s s => exact sum_case hh hx hF hne hK
  | _ => simp [exec] at hx
 | label l =>
  intro h hh σ K r g a w Q hx hF hne hK
  cases h with
  | a => exact wpIn_label (hK .nrm σ g a w hx hF hne (LaterE.refl _ _ _))
  | s s => exact sum_case hh hx hF hne hK
  | _ => simp [exec] at hx
 | ret =>
  intro h hh σ K r g a w Q hx hF hne hK
  cases h with
  | a => exact wpIn_ret (hK .ret σ g a w hx hF hne (LaterE.refl _ _ _))
  | s s => exact sum_case hh hx hF hne hK
  | _ => simp [exec] at hx
 | exit id =>
  intro h hh σ K r g a w Q hx hF hne hK
  cases h with
  | a => exact wpIn_exit (hK (.ext id) σ g a w hx hF hne (LaterE.refl _ _ _))
  | s s => exact sum_case hh hx hF hne hK
  | _ => simp [exec] at hx
 | region id ops draw =>
  intro h hh σ K r g a w Q hx hF hne hK
  cases h with
  | a => exact regionX_ok hO hm hx hF fun σ' g' a' w' h1 h2 h3 => hK .nrm σ' g' a' w' h1 h2 (hF.ne hne h2 h3) (hF.later hne h3)
  | s s => exact sum_case hh hx hF hne hK
  | _ => simp [exec] at hx
 | seq x y ihx ihy =>
  have main : ∀ h h', HintOk P E x h → HintOk P E y h' → ∀ (σ : St) (K : Ex → St → Option R) (r : R) (g : Gh) (a : Act) (w : World) (Q : Exit → Act → World → Prop),
    exec E x h σ (fun e σ => match e with | .nrm => exec E y h' σ K | e => K e σ) = some r → Fr P E M0 w0 g σ a w → E.ne ≤ σ.heap.length →
    (∀ e σ' g' a' w', K e σ' = some r → Fr P E M0 w0 g' σ' a' w' → E.ne ≤ σ'.heap.length → LaterE E.ne g w g' w' → Q (ex e) a' w') → (Code.seq x y).wpIn (Fw none) nn_ P Q a w := by
   intro h h' hh hh' σ K r g a w Q hx hF hne hK
   refine wpIn_seq (ihx h hh σ _ r g a w _ hx hF hne ?_)
   intro e σ' g' a' w' h1 hF' hne' hL
   cases e with
   | nrm => exact ihy h' hh' σ' K r g' a' w' Q h1 hF' hne' fun e σ2 g2 a2 w2 h2 hF2 hne2 hL2 => hK e σ2 g2 a2 w2 h2 hF2 hne2 (hL.trans hL2)
   | ext id => exact hK (.ext id) σ' g' a' w' h1 hF' hne' hL
   | ret => exact hK .ret σ' g' a' w' h1 hF' hne' hL
  intro h hh σ K r g a w Q hx hF hne hK
  cases h with
  | a => exact main .a .a (HintOk.auto P E x) (HintOk.auto P E y) σ K r g a w Q hx hF hne hK
  | n h h' => exact main h h' hh.1 hh.2 σ K r g a w Q hx hF hne hK
  | s s => exact sum_case hh hx hF hne hK
  | b => simp [exec] at hx
  | r s =>
   cases x with
   | region id ops d =>
    cases d with
    | false => exact tail_case hO hh hx hF hne hK
    | true => simp [exec] at hx
   | _ => simp [exec] at hx
 | cond cc x y ihx ihy =>
  have main : ∀ h h', HintOk P E x h → HintOk P E y h' → ∀ (σ : St) (K : Ex → St → Option R) (r : R) (g : Gh) (a : Act) (w : World) (Q : Exit → Act → World → Prop),
    condO σ cc (fun b σ => if b then exec E x h σ K else exec E y h' σ K) = some r → Fr P E M0 w0 g σ a w → E.ne ≤ σ.heap.length →
    (∀ e σ' g' a' w', K e σ' = some r → Fr P E M0 w0 g' σ' a' w' → E.ne ≤ σ'.heap.length → LaterE E.ne g w g' w' → Q (ex e) a' w') → (Code.cond cc x y).wpIn (Fw none) nn_ P Q a w := by
   intro h h' hh hh' σ K r g a w Q hx hF hne hK
   obtain ⟨b, σ', hb, hF', hx', hhp, _⟩ := condO_ok hx hF
   refine wpIn_cond hb ?_
   cases b with
   | true => exact ihx h hh σ' K r g a w Q (by simpa using hx') hF' (by rw [hhp]; exact hne) hK
   | false => exact ihy h' hh' σ' K r g a w Q (by simpa using hx') hF' (by rw [hhp]; exact hne) hK
  intro h hh σ K r g a w Q hx hF hne hK
  cases h with
  | a => exact main .a .a (HintOk.auto P E x) (HintOk.auto P E y) σ K r g a w Q hx hF hne hK
  | n h h' => exact main h h' hh.1 hh.2 σ K r g a w Q hx hF hne hK
  | s s => exact sum_case hh hx hF hne hK
  | b => simp [exec] at hx
  | r => simp [exec] at hx
 | block id x ih =>
  have main : ∀ h, HintOk P E x h → ∀ (σ : St) (K : Ex → St → Option R) (r : R) (g : Gh) (a : Act) (w : World) (Q : Exit → Act → World → Prop),
    exec E x h σ (fun e σ => match e with | .ext id' => if id' = id then K .nrm σ else K (.ext id') σ | e => K e σ) = some r → Fr P E M0 w0 g σ a w → E.ne ≤ σ.heap.length →
    (∀ e σ' g' a' w', K e σ' = some r → Fr P E M0 w0 g' σ' a' w' → E.ne ≤ σ'.heap.length → LaterE E.ne g w g' w' → Q (ex e) a' w') → (Code.block id x).wpIn (Fw none) nn_ P Q a w := by
   intro h hh σ K r g a w Q hx hF hne hK
   refine wpIn_block (ih h hh σ _ r g a w _ hx hF hne ?_)
   intro e σ' g' a' w' h1 hF' hne' hL
   cases e with
   | nrm => exact hK .nrm σ' g' a' w' h1 hF' hne' hL
   | ext id' =>
    dsimp only at h1
    show (if id' = id then Q .normal a' w' else Q (.exit id') a' w')
    split at h1
    ·rename_i e; rw [if_pos e]; exact hK .nrm σ' g' a' w' h1 hF' hne' hL
    ·rename_i e; rw [if_neg e]; exact hK (.ext id') σ' g' a' w' h1 hF' hne' hL
   | ret => exact hK .ret σ' g' a' w' h1 hF' hne' hL
  intro h hh σ K r g a w Q hx hF hne hK
  cases h with
  | a => exact main .a (HintOk.auto P E x) σ K r g a w Q hx hF hne hK
  | b h => exact main h hh σ K r g a w Q hx hF hne hK
  | s s => exact sum_case hh hx hF hne hK
  | n => simp [exec] at hx
  | r => simp [exec] at hx
 | loop x ih =>
  intro h hh σ K r g a w Q hx hF hne hK
  cases h with
  | s s => exact sum_case hh hx hF hne hK
  | _ => simp [exec] at hx
 | rangeFunc f ps x y ihx ihy =>
  intro h hh σ K r g a w Q hx hF hne hK
  cases h with
  | s s => exact sum_case hh hx hF hne hK
  | _ => simp [exec] at hx
 | scope x ih =>
  intro h hh σ K r g a w Q hx hF hne hK
  cases h with
  | s s => exact sum_case hh hx hF hne hK
  | _ => simp [exec] at hx
 | goto l =>
  intro h hh σ K r g a w Q hx hF hne hK
  cases h with
  | s s => exact sum_case hh hx hF hne hK
  | _ => simp [exec] at hx
 | refuse y =>
  intro h hh σ K r g a w Q hx hF hne hK
  cases h with
  | s s => exact sum_case hh hx hF hne hK
  | _ => simp [exec] at hx
def keepX {R : Type} (E : Env) (kout : Ex → List CastAt × List Nat) (K : Ex → Kp → Option R) (e : Ex) (σ : St) : Option R := match normC E (kout e) σ with
 | some kp => K e kp
 | none => none
theorem keepX_ok {R : Type} {kout : Ex → List CastAt × List Nat} {K : Ex → Kp → Option R} {r : R} {e : Ex} (h : keepX E kout K e σ = some r) (hF : Fr P E M0 w0 g σ a w) (hne : E.ne ≤ σ.heap.length) :
  ∃ kp g', K e kp = some r ∧ Fr P E M0 w0 g' (kp.st (kout e).2) a w ∧ E.ne ≤ kp.heap.length ∧ LaterE E.ne g w g' w := by
 unfold keepX at h
 cases hn : normC E (kout e) σ with
 | none => rw [hn] at h; simp at h
 | some kp =>
  rw [hn] at h
  obtain ⟨g2, hF2, hL2, hne2⟩ := normC_ok hn hF hne
  exact ⟨kp, g2, h, hF2, hne2, hL2⟩
theorem sum_code (hO : OpsOk P E) (hm : P.follows .mixedOrders = true) {c : Code} {s : Sum} {h : Hint} (hh : HintOk P E c h)
  (hs : ∀ R kp K r, s.f R kp K = some r → exec E c h (kp.st s.kin.2) (keepX E s.kout K) = some r) : SumOk P E c s := by
 intro nn_ R kp K r hx M0 w0 g a w Q hF hne hK
 refine exec_ok hO hm c h hh _ _ _ g a w _ (hs R kp K r hx) hF hne ?_
 intro e σ' g' a' w' h1 hF' hne' hL
 obtain ⟨kp', g2, h2, hF2, hne2, hL2⟩ := keepX_ok h1 hF' hne'
 exact hK e kp' g2 a' w' h2 hF2 hne2 (hL.trans hL2)
def roundX {R : Type} (E : Env) (kin : List CastAt × List Nat) (kout : Ex → List CastAt × List Nat) (f : Kp → (Ex → Kp → Option R) → Option R) (K : Ex → Kp → Option R) (e : Ex) (σ : St) : Option R := match e with
 | .nrm => (match normC E kin σ with
  | some kp' => f kp' K
  | none => none)
 | e => keepX E kout K e σ
theorem sum_loop (hO : OpsOk P E) (hm : P.follows .mixedOrders = true) {c : Code} {h : Hint} (hh : HintOk P E c h) {kin : List CastAt × List Nat} {kout : Ex → List CastAt × List Nat} {f : Nat → (R : Type) → Kp → (Ex → Kp → Option R) → Option R}
  (h0 : ∀ R kp K, f 0 R kp K = none) (hs : ∀ k R kp K r, f (k + 1) R kp K = some r → exec E c h (kp.st kin.2) (roundX E kin kout (f k R) K) = some r) : ∀ k, SumOk P E (.loop c) ⟨kin, f k, kout⟩ := by
 intro k nn_ R kp K r hfx M0 w0 g a w Q hF hne hK
 simp only at hfx hF hK
 refine wpIn_loop_rounds k ?_
 have key : ∀ (k : Nat) (kp : Kp) (g' : Gh) (a' : Act) (w' : World), f k R kp K = some r → Fr P E M0 w0 g' (kp.st kin.2) a' w' → E.ne ≤ kp.heap.length → LaterE E.ne g w g' w' → Code.roundsIn (Fw none) nn_ P c Q k a' w' := by
  intro k
  induction k with
  | zero => intro kp g' a' w' hy; rw [h0] at hy; simp at hy
  | succ k ih =>
   intro kp g' a' w' hy hF hne hL
   refine exec_ok hO hm c h hh _ _ _ g' a' w' _ (hs k R kp K r hy) hF hne ?_
   intro e σ2 g2 a2 w2 h1 hF2 hne2 hL2
   have out2 : keepX E kout K e σ2 = some r → Q (ex e) a2 w2 := by
    intro h1
    obtain ⟨kp', g3, h2, hF3, hne3, hL3⟩ := keepX_ok h1 hF2 hne2
    exact hK e kp' g3 a2 w2 h2 hF3 hne3 (hL.trans (hL2.trans hL3))
   cases e with
   | nrm =>
    simp only [roundX] at h1
    cases hn : normC E kin σ2 with
    | none => rw [hn] at h1; simp at h1
    | some kp' =>
     rw [hn] at h1
     obtain ⟨g3, hF3, hL3, hne3⟩ := normC_ok hn hF2 hne2
     exact ih kp' g3 a2 w2 h1 hF3 hne3 (hL.trans (hL2.trans hL3))
   | ext id => exact out2 h1
   | ret => exact out2 h1
 exact key k kp g a w hfx hF hne (LaterE.refl _ _ _)
end Go.Proofs.YtdhifkdijlghdaaGreatDoorA
