/-
  A region without a draw: the model's operations one by one. No condition.
-/
import Derived.Test.YtdhifkdijlghdaaGreatDoorACst
import Derived.Laws.Cover3
namespace Go.Proofs.YtdhifkdijlghdaaGreatDoorA
open Go
set_option linter.unusedVariables false
set_option linter.unusedSimpArgs false
variable {rr : Option Nat} {nn_ : Nat}
variable {P : Program} {E : Env} {M0 : Addr → Prop} {w0 w : World} {g : Gh} {σ : St} {a : Act} {R : Type}
theorem condO_ok {x : Operand} {K : Bool → St → Option R} {r : R} (h : condO σ x K = some r) (hF : Fr P E M0 w0 g σ a w) : ∃ b σ', a.eval x = .bool b ∧ Fr P E M0 w0 g σ' a w ∧ K b σ' = some r ∧ σ'.heap = σ.heap ∧ (∀ t, (lk σ'.tmps t).isSome = (lk σ.tmps t).isSome) ∧ (∀ t, x = .tmp t → lk σ'.tmps t = some (one1 (.bool b))) := by
 unfold condO at h
 split at h
 ·rename_i b hb
  have hv : a.eval x = .bool b := ev_ok hF.tm hb
  have key : ∀ (t : Nat) (q : Bool), x = .tmp t → b = q → Fr P E M0 w0 g (σ.put (some t) (one1 (.bool q))) a w := by
   rintro t q rfl rfl
   refine ⟨hF.inv, hF.fv, fun u y hu => ?_, hF.nt, hF.df⟩
   have hu' : lk (putT σ.tmps t (one1 (.bool b))) u = some y := hu
   rw [lk_putT] at hu'
   split at hu'
   ·rename_i e; subst e; cases hu'
    obtain ⟨u', h1, h2⟩ := hF.tm _ _ hb
    exact ⟨u', h1, h2⟩
   ·exact hF.tm u y hu'
  split at h
  ·rename_i t
   cases b with
   | true => exact ⟨true, _, hv, key t true rfl rfl, h, rfl, fun u => by
     show (lk (putT σ.tmps t _) u).isSome = _
     rw [lk_putT]; split
     ·rename_i e; subst e
      have : lk σ.tmps u = some _ := hb
      rw [this]; rfl
     ·rfl, fun u hu => by cases hu; show lk (putT σ.tmps t _) t = _; rw [lk_putT, if_pos rfl]⟩
   | false => exact ⟨false, _, hv, key t false rfl rfl, h, rfl, fun u => by
     show (lk (putT σ.tmps t _) u).isSome = _
     rw [lk_putT]; split
     ·rename_i e; subst e
      have : lk σ.tmps u = some _ := hb
      rw [this]; rfl
     ·rfl, fun u hu => by cases hu; show lk (putT σ.tmps t _) t = _; rw [lk_putT, if_pos rfl]⟩
  ·rename_i hne
   cases b with
   | true => exact ⟨true, σ, hv, hF, h, rfl, fun _ => rfl, fun t ht => absurd ht (hne t)⟩
   | false => exact ⟨false, σ, hv, hF, h, rfl, fun _ => rfl, fun t ht => absurd ht (hne t)⟩
 ·simp at h
theorem Fr.put {x : TV} {v : Value} (hF : Fr P E M0 w0 g σ a w) (hv : TVR g w x v) {d : Option Nat} (hd : inN E d = true) : Fr P E M0 w0 g (σ.put d x) (a.put d v) w := by
 cases d with
 | none => exact hF
 | some t =>
  have ht : t < a.tmps.size := Nat.lt_of_lt_of_le (by simpa [inN] using hd) hF.nt
  exact ⟨hF.inv, hF.fv, TmR.put hF.tm hv ht, by rw [put_size]; exact hF.nt, by rw [put_defers']; exact hF.df⟩
theorem stepO_ok (hO : OpsOk P E) {i : Nat} {o : Oper} {K : Foot → St → Option R} {r : R} (h : stepO E i o σ K = some r) (hF : Fr P E M0 w0 g σ a w) {KK : Act → World → Prop} {Q : Exit → Act → World → Prop}
  (hK : ∀ f σ' g' a' w', K f σ' = some r → Fr P E M0 w0 g' σ' a' w' → Later g w g' w' → KK a' w') : o.wpIn (Fw rr) nn_ P a w KK Q := by
 unfold stepO at h
 cases hd : inN E o.dst with
 | false => rw [hd] at h; simp at h
 | true =>
  rw [hd] at h
  simp only [cond_true] at h
  split at h
  ·rename_i c x y hop
   obtain ⟨b, σ', hb, hF', hK', _⟩ := condO_ok h hF
   cases hv : ev σ'.tmps (if b = true then x else y) with
   | none => rw [hv] at hK'; simp at hK'
   | some v =>
    rw [hv] at hK'
    have hr := ev_ok hF'.tm hv
    have hrun : (execOp a.eval o).run P w = .ok (.value (a.eval (if b = true then x else y))) w := by
     simp only [execOp, hop, hb, asBool]
     cases b <;> simp
    refine wpIn_ok hrun (fun _ => by simp) ?_
    exact hK _ _ _ _ _ hK' (hF'.put hr hd) (Later.refl _ _)
  ·split at h
   ·simp at h
   ·rename_i r1 rd hp
    obtain ⟨e, he, h2⟩ := Res1.go_some h
    cases hup : e.upd.all fun x => decide (x.1 < σ.heap.length) with
    | false => rw [hup] at h2; simp at h2
    | true =>
     rw [hup] at h2
     simp only [cond_true] at h2
     have hup' : ∀ x ∈ e.upd, x.1 < σ.heap.length := by simpa using hup
     refine hO.op o a σ.tmps σ.heap.length M0 w0 w g _ r1 rd e hF.inv hF.fv hF.tm (fun i hi _ => List.getElem?_eq_none hi) hp he rr nn_ KK Q ?_
     rintro v w' ⟨⟨g', hI, hE, hL, hv, hko⟩, hsz⟩
     refine hK _ _ g' _ w' h2 ?_ ⟨hE, hL, hko⟩
     have hF1 : Fr P E M0 w0 g' { σ with heap := setO σ.heap e.upd ++ e.news } a w' := ⟨by rw [apH_heap hup'] at hI; exact hI, hF.fv.mono hE hL hsz, hF.tm.ext hE hL, hF.nt, hF.df.keep hko⟩
     exact hF1.put hv hd
theorem agree_some {R : Type} {x y : Option R} {r : R} (h : agree x y = some r) : x = some r ∧ y = some r := by
 unfold agree at h
 split at h
 ·rename_i e
  exact ⟨h, e ▸ h⟩
 ·simp at h
theorem nilO_ok (hO : OpsOk P E) {t : Nat} {x : Operand} {K : Bool → Option R} {r : R} (h : nilO E t σ x K = some r) (hF : Fr P E M0 w0 g σ a w) : ∃ (A : Option Addr) (n c : Nat) (e : TypeId), a.eval x = .slice A n c ∧ P.underlying t = some (.slice e) ∧ K A.isNone = some r := by
 unfold nilO at h
 split at h
 ·rename_i sz b e kd zc hti
  obtain ⟨i, d, hi⟩ := Env.tiOk hO.tt hti
  have hu : P.underlying t = some (.slice e) := by rw [hi.und, hi.slice rfl]
  have both : ∀ (A : Option Addr), agree (K true) (K false) = some r → K A.isNone = some r := fun A h => by
   cases A with
   | none => exact (agree_some h).1
   | some q => exact (agree_some h).2
  split at h
  ·rename_i hx
   obtain ⟨A, hv⟩ : ∃ A, a.eval x = .slice A 0 0 := ev_ok hF.tm hx
   exact ⟨A, 0, 0, e, hv, hu, both A h⟩
  ·rename_i m k xs hx
   have hv : ER w (SM g.L m) (.list k) xs [a.eval x] := ev_ok hF.tm hx
   simp only [ER] at hv
   obtain ⟨A, n, c, us, h1, h2, h3, h4, h5⟩ := hv
   simp only [List.cons.injEq, and_true] at h1
   refine ⟨A, n, c, e, h1, hu, ?_⟩
   cases xs with
   | nil => exact both A h
   | cons y ys =>
    rcases h5 with h5 | ⟨q, rfl, _⟩
    ·subst h5
     exfalso
     have h8 := Rows2.len (ER.len k) h4
     have h9 := Kd.size_pos k
     rw [List.length_nil, List.length_cons, Nat.succ_mul] at h8
     omega
    ·exact h
  ·rename_i id hx
   obtain ⟨A, n, c, h1, h2⟩ : ∃ A n c, g.loc id = .arr A n c ∧ a.eval x = .slice A n c := ev_ok hF.tm hx
   split at h
   ·rename_i k xs m b hid
    refine ⟨A, n, c, e, h2, hu, ?_⟩
    obtain ⟨A', n', c', us, h3, h4, h5, h6, h7⟩ := hF.inv.ob id _ hid
    rw [h1] at h3
    cases h3
    cases xs with
    | nil => exact both A h
    | cons y ys =>
     rcases h7 with h7 | ⟨q, rfl, _⟩
     ·simp at h4; omega
     ·exact h
   ·simp at h
  ·simp at h
 ·simp at h
theorem stepQ_ok (hO : OpsOk P E) {nn : Bool} {i : Nat} {o : Oper} {K : Foot → St → Option R} {r : R} (h : stepQ nn E i o σ K = some r) (hF : Fr P E M0 w0 g σ a w) {KK : Act → World → Prop} {Q : Exit → Act → World → Prop}
  (hK : ∀ f σ' g' a' w', K f σ' = some r → Fr P E M0 w0 g' σ' a' w' → Later g w g' w' → KK a' w') : o.wpIn (Fw rr) nn_ P a w KK Q := by
 cases nn with
 | false => exact stepO_ok hO h hF hK
 | true =>
  have h : stepN E i o σ K = some r := h
  unfold stepN at h
  split at h
  ·rename_i t x tt hop
   cases hd : inN E o.dst with
   | false => rw [hd] at h; simp at h
   | true =>
    rw [hd] at h
    simp only [cond_true] at h
    obtain ⟨A, n, c, e, hv, hu, hk⟩ := nilO_ok hO h hF
    have hrun : (execOp a.eval o).run P w = .ok (.value (.bool A.isNone)) w := by
     have he : a.eval (.const (.slice none 0 0)) = .slice none 0 0 := rfl
     have hg : ∀ op, eqGuard op t x (.const (.slice none 0 0)) (.slice A n c) (.slice none 0 0) = pure () := fun op => by cases op <;> rfl
     simp [execOp, hop, hv, he, hg, binOp, run_equal_slice_nil w t e A n c hu]
    refine wpIn_ok hrun (fun _ => by simp) ?_
    exact hK _ _ _ _ _ hk (hF.put (x := one1 (.bool A.isNone)) rfl hd) (Later.refl _ _)
  ·rename_i t x tt hop
   cases hd : inN E o.dst with
   | false => rw [hd] at h; simp at h
   | true =>
    rw [hd] at h
    simp only [cond_true] at h
    obtain ⟨A, n, c, e, hv, hu, hk⟩ := nilO_ok hO h hF
    have hrun : (execOp a.eval o).run P w = .ok (.value (.bool (!A.isNone))) w := by
     have he : a.eval (.const (.slice none 0 0)) = .slice none 0 0 := rfl
     have hg : ∀ op, eqGuard op t x (.const (.slice none 0 0)) (.slice A n c) (.slice none 0 0) = pure () := fun op => by cases op <;> rfl
     simp [execOp, hop, hv, he, hg, binOp, run_equal_slice_nil w t e A n c hu]
    refine wpIn_ok hrun (fun _ => by simp) ?_
    exact hK _ _ _ _ _ hk (hF.put (x := one1 (.bool (!A.isNone))) rfl hd) (Later.refl _ _)
  ·cases hz : E.fz.isEmpty with
   | true => rw [hz] at h; exact stepO_ok hO h hF hK
   | false =>
    rw [hz] at h
    simp only [cond_false] at h
    cases hx : frzX σ ((opTmps o).filter fun t => E.fz.contains t) with
    | none => rw [hx] at h; cases h
    | some σ1 =>
     rw [hx] at h
     obtain ⟨g1, hF1, hL1⟩ := frzX_ok hx hF
     exact stepO_ok hO h hF1 fun f σ' g' a' w' h1 h2 h3 => hK f σ' g' a' w' h1 h2 (hL1.trans h3)
theorem region_to (hO : OpsOk P E) {rest : List Nat} {nn : Bool} {A : Array Oper} {chk : List Foot → Bool} {K : St → Option R} {r : R} {Q : Exit → Act → World → Prop} : ∀ (ops : List Oper) (i : Nat) (fs : List Foot) (σ : St) (a : Act) (w : World) (g : Gh),
  regionX nn E A.toList chk i ops fs σ K = some r → (∀ (j : Nat) (o : Oper), ops[j]? = some o → A[i + j]? = some o) → Fr P E M0 w0 g σ a w → (∀ σ' g' a' w', K σ' = some r → Fr P E M0 w0 g' σ' a' w' → Later g w g' w' → wpOpsIn (Fw rr) nn_ P A Q rest a' w') →
  wpOpsIn (Fw rr) nn_ P A Q (List.range' i ops.length ++ rest) a w
 | [], i, fs, σ, a, w, g, h, _, hF, hK => by
  simp only [regionX] at h
  cases hc : chk fs with
  | false => rw [hc] at h; simp at h
  | true => rw [hc] at h; exact hK σ g a w h hF (Later.refl _ _)
 | o :: ops, i, fs, σ, a, w, g, h, hA, hF, hK => by
  have hoi : A[i]? = some o := by simpa using hA 0 o rfl
  have hA' : ∀ (j : Nat) (o : Oper), ops[j]? = some o → A[i + 1 + j]? = some o := fun j o' hj => by
   have := hA (j + 1) o' (by simpa using hj)
   rwa [show i + (j + 1) = i + 1 + j by omega] at this
  simp only [regionX] at h
  have hyes : ∀ (ff : Foot → List Foot) (σ : St) (hF : Fr P E M0 w0 g σ a w), Region.wanted o (yielded A a.tmps) = true → stepQ nn E i o σ (fun f σ => regionX nn E A.toList chk (i + 1) ops (ff f) σ K) = some r → wpOpsIn (Fw rr) nn_ P A Q (List.range' i (o :: ops).length ++ rest) a w := by
   intro ff σ hF hw hs
   simp only [List.length_cons, List.range'_succ, List.cons_append, wpOpsIn, hoi]
   rw [if_pos hw]
   refine stepQ_ok hO hs hF ?_
   intro f σ' g' a' w' hK' hF' hL
   exact region_to hO ops (i + 1) _ σ' a' w' g' hK' hA' hF' fun σ2 g2 a2 w2 h1 h2 h3 => hK σ2 g2 a2 w2 h1 h2 (hL.trans h3)
  have hno : ∀ (fs : List Foot) (σ : St) (hF : Fr P E M0 w0 g σ a w), Region.wanted o (yielded A a.tmps) = false → cond (inN E o.dst) (regionX nn E A.toList chk (i + 1) ops fs (σ.put o.dst (.tup [])) K) none = some r → wpOpsIn (Fw rr) nn_ P A Q (List.range' i (o :: ops).length ++ rest) a w := by
   intro fs σ hF hw hs
   simp only [List.length_cons, List.range'_succ, List.cons_append, wpOpsIn, hoi]
   rw [if_neg (by rw [hw]; simp)]
   cases hd : inN E o.dst with
   | false => rw [hd] at hs; simp at hs
   | true =>
    rw [hd] at hs
    exact ⟨fun f _ => Fw_fn rr f, region_to hO ops (i + 1) _ _ _ w g hs hA' (hF.put (x := .tup []) (v := undef) ⟨#[], rfl, trivial⟩ hd) hK⟩
  cases hgd : o.guard with
  | none =>
   rw [hgd] at h
   exact hyes (fun f => fs ++ [f]) σ hF (by simp [Region.wanted, hgd]) h
  | some jw =>
   obtain ⟨j, want⟩ := jw
   rw [hgd] at h
   dsimp only at h
   cases hdj : dstOf A.toList j with
   | none => rw [hdj] at h; simp at h
   | some t =>
    rw [hdj] at h
    dsimp only at h
    have hdst : (A[j]?).bind (·.dst) = some t := by
     unfold dstOf at hdj
     split at hdj
     ·rename_i o' ho'
      have : A[j]? = some o' := by simpa using ho'
      rw [this]; exact hdj
     ·simp at hdj
    have hyi : ∀ (u : Value), a.tmps[t]? = some u → yielded A a.tmps j = match u with | .bool b => some b | _ => none := by
     intro u hu
     simp only [yielded, hdst, Option.bind_some, hu]
     cases u <;> rfl
    split at h
    ·obtain ⟨b, σ', hb, hF', hK', _, hlk, hlk2⟩ := condO_ok h hF
     obtain ⟨u, hu1, hu2⟩ := hF'.tm t _ (hlk2 t rfl)
     cases hu2
     have hy := hyi _ hu1
     dsimp only at hy
     cases hbw : b == want with
     | true =>
      rw [hbw] at hK'
      exact hyes (fun f => fs ++ [{ f with tr := t :: f.tr }]) σ' hF' (by simp only [Region.wanted, hgd, hy]; simpa using hbw) (by simpa using hK')
     | false =>
      rw [hbw] at hK'
      exact hno _ σ' hF' (by simp only [Region.wanted, hgd, hy]; simpa using hbw) (by simpa using hK')
    ·rename_i hl
     obtain ⟨u, hu1, us, hu2, hu3⟩ := hF.tm t _ hl
     have hy := hyi _ hu1
     subst hu2
     dsimp only at hy
     exact hno _ σ hF (by simp only [Region.wanted, hgd, hy]; rfl) h
    ·simp at h
theorem region_ok (hO : OpsOk P E) {nn : Bool} {A : Array Oper} {chk : List Foot → Bool} {K : St → Option R} {r : R} {Q : Exit → Act → World → Prop} (ops : List Oper) (i : Nat) (fs : List Foot) (σ : St) (a : Act) (w : World) (g : Gh)
  (h : regionX nn E A.toList chk i ops fs σ K = some r) (hA : ∀ (j : Nat) (o : Oper), ops[j]? = some o → A[i + j]? = some o) (hF : Fr P E M0 w0 g σ a w) (hK : ∀ σ' g' a' w', K σ' = some r → Fr P E M0 w0 g' σ' a' w' → Later g w g' w' → Q .normal a' w') :
  wpOpsIn (Fw rr) nn_ P A Q (List.range' i ops.length) a w := by
 have := region_to (rr := rr) (nn_ := nn_) (rest := []) (Q := Q) hO ops i fs σ a w g h hA hF hK
 rwa [List.append_nil] at this
end Go.Proofs.YtdhifkdijlghdaaGreatDoorA
