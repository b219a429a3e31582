/-
  Numbers, texts, comparisons. No condition.
-/
import Derived.Test.YtdhifkdijlghdaaGreatDoorAOps6
namespace Go.Proofs.YtdhifkdijlghdaaGreatDoorA
open Go
set_option linter.unusedVariables false
set_option linter.unusedSimpArgs false
variable {P : Program} {M0 : Addr → Prop} {w0 w : World} {g : Gh} {H : Nat → Option Ob}
theorem binI_ok {op : BinOp} {k : IntKind} {x y : Int} {c : C} (h : binI op k x y = some (true, c)) (t : TypeId) : ∃ v, (binOp op t (.int k x) (.int k y)).run P w = .ok v w ∧ CR g w c v := by
 cases op <;> simp only [binI, Option.some.injEq, Prod.mk.injEq, reduceCtorEq] at h <;> obtain ⟨h0, rfl⟩ := h
 case quo =>
  have h1 : y ≠ 0 := by simpa using h0
  exact ⟨_, by simp [binOp, Op.intDiv, h1] <;> rfl, rfl⟩
 case rem =>
  have h1 : y ≠ 0 := by simpa using h0
  exact ⟨_, by simp [binOp, Op.intDiv, h1] <;> rfl, rfl⟩
 case andNot => exact ⟨.int k (iAndNot k x y), by rw [binOp_andNot]; rfl, rfl⟩
 all_goals exact ⟨_, by simp [binOp, Op.intArith, Op.intCmp, Op.intBits] <;> rfl, rfl⟩
theorem binS_ok {op : BinOp} {x y : ByteArray} {c : C} (h : binS op x y = some (true, c)) (t : TypeId) : ∃ v, (binOp op t (.string x) (.string y)).run P w = .ok v w ∧ CR g w c v := by
 cases op <;> simp only [binS, Option.some.injEq, Prod.mk.injEq, reduceCtorEq] at h <;> obtain ⟨h0, rfl⟩ := h
 all_goals first
  | exact ⟨.string (x ++ y), by
    have h1 : ¬ (9223372036854775807 < (x.size : Int) + (y.size : Int)) := by
     have : x.size + y.size ≤ 9223372036854775807 := by simpa using h0
     omega
    simp [binOp, Op.stringOp, h1], rfl⟩
  | exact ⟨_, by simp [binOp, Op.stringOp] <;> rfl, rfl⟩
theorem binC_ok {bt : Bool} {op : BinOp} {a b : C} {u v : Value} (ha : CR g w a u) (hb : CR g w b v) {c : C} (h : binC bt op a b = some (true, c)) (t : TypeId) (hbt : bt = true → P.underlying t = some .bool) (x y : Operand) :
  ∃ r, (do eqGuard op t x y u v; binOp op t u v).run P w = .ok r w ∧ CR g w c r := by
 cases a <;> try (simp [binC] at h; done)
 ·rename_i k n
  cases ha
  cases b <;> try (simp [binC] at h; done)
  rename_i k' n'
  cases hb
  have hgd : eqGuard op t x y (.int k n) (.int k' n') = pure () := eqGuard_at_int op t x y _ k n
  by_cases hs : op = .shl ∨ op = .shr
  ·rcases hs with rfl | rfl <;> simp only [binC, Option.some.injEq, Prod.mk.injEq] at h <;> obtain ⟨h0, rfl⟩ := h
   ·have h1 : ¬ (n' < 0) := by simp at h0; omega
    exact ⟨_, by rw [hgd]; simp [binOp, Op.shift, h1] <;> rfl, rfl⟩
   ·have h1 : ¬ (n' < 0) := by simp at h0; omega
    exact ⟨_, by rw [hgd]; simp [binOp, Op.shift, h1] <;> rfl, rfl⟩
  ·have h' : (if k = k' then binI op k n n' else none) = some (true, c) := by
    cases op <;> first | exact h | simp at hs
   split at h'
   ·rename_i hk
    subst hk
    obtain ⟨r, h1, h2⟩ := binI_ok (P := P) (w := w) (g := g) h' t
    exact ⟨r, by rw [hgd]; simpa using h1, h2⟩
   ·simp at h'
 ·rename_i q
  cases ha
  cases b <;> try (simp [binC] at h; done)
  rename_i q'
  cases hb
  have hgd : eqGuard op t x y (.bool q) (.bool q') = pure () := eqGuard_at_bool op t x y _ q
  simp only [binC] at h
  split at h
  ·rename_i hb
   have := hbt hb
   cases op <;> simp only [Option.some.injEq, Prod.mk.injEq, reduceCtorEq] at h <;> obtain ⟨h0, rfl⟩ := h
   ·exact ⟨_, by rw [hgd]; simp [binOp, Op.equal, Op.maxDepth, run_equalIn_bool w 9999 t q q' this] <;> rfl, rfl⟩
   ·exact ⟨_, by rw [hgd]; simp [binOp, Op.equal, Op.maxDepth, run_equalIn_bool w 9999 t q q' this] <;> rfl, rfl⟩
  ·simp at h
 ·rename_i s
  cases ha
  cases b <;> try (simp [binC] at h; done)
  rename_i s'
  cases hb
  have hgd : eqGuard op t x y (.string s) (.string s') = pure () := eqGuard_at_string op t x y _ s
  obtain ⟨r, h1, h2⟩ := binS_ok (P := P) (w := w) (g := g) h t
  exact ⟨r, by rw [hgd]; simpa using h1, h2⟩
theorem unC_ok {op : UnOp} {a c : C} {u : Value} (ha : CR g w a u) (h : unC op a = some c) : ∃ r, (Op.unary op u).run P w = .ok r w ∧ CR g w c r := by
 cases a <;> try (simp [unC] at h; done)
 ·cases ha
  cases op <;> simp [unC] at h <;> subst h
  ·exact ⟨_, by simp [Op.unary, Op.intArith] <;> rfl, rfl⟩
  ·exact ⟨_, by simp [Op.unary, Op.intBits] <;> rfl, rfl⟩
 ·cases ha
  cases op <;> simp [unC] at h
  subst h
  exact ⟨_, by simp [Op.unary] <;> rfl, rfl⟩
theorem isBoolT_ok {E : Env} (hT : TtOk P E.tt) {t : Nat} (h : isBoolT E t = true) : P.underlying t = some .bool := by
 unfold isBoolT at h
 cases ht : E.ti t with
 | none => rw [ht] at h; simp at h
 | some ti =>
  rw [ht] at h
  obtain ⟨i, d, hi⟩ := Env.tiOk hT ht
  obtain ⟨a1, a2, a3, a4, a5⟩ := ti
  cases a3 <;> simp at h
  have := hi.desc
  rw [hi.und]
  cases d <;> simp [dCheck] at this
  rfl
theorem eqD_ok {t : Nat} {ti : TI} {i : TypeInfo} {d : TypeDesc} (hT : TiOk P t ti i d) {a b : C} {u v : Value} (ha : CR g w a u) (hb : CR g w b v) {p : Bool} (h : eqD ti.d a b = some p) (D : Nat) : (Op.equalIn (D + 1) t u v).run P w = .ok p w := by
 cases hd : ti.d <;> rw [hd] at h <;> cases a <;> cases b <;> simp only [eqD, reduceCtorEq] at h
 ·split at h
  ·rename_i hk; subst hk
   cases h; cases ha; cases hb
   exact run_equalIn_int w D t _ _ _ _ (by rw [hT.und, hT.int hd])
  ·simp at h
 ·cases h; cases ha; cases hb
  have := hT.desc
  rw [hd] at this
  exact run_equalIn_bool' w D t _ _ (by rw [hT.und]; cases d <;> simp [dCheck] at this; rfl)
 ·cases h; cases ha; cases hb
  exact run_equalIn_string w D t _ _ (by rw [hT.und, hT.str hd])
theorem eqT_ok {E : Env} (hT : TtOk P E.tt) : ∀ (f t : Nat) (as bs : List C) (p : Bool), eqT E f t as bs = some p → ∀ us vs : Array Value, F2 (CR g w) as us.toList → F2 (CR g w) bs vs.toList → ∀ D, f ≤ D →
  (Op.equalIn (D + 1) t (.agg us) (.agg vs)).run P w = .ok p w ∧ P.eqGuardType P.depth t = false
 | 0, t, as, bs, p, h, _, _, _, _, _, _ => by simp [eqT] at h
 | f + 1, t, as, bs, p, h, us, vs, hu, hv, D, hD => by
  simp only [eqT] at h
  cases ht : E.ti t with
  | none => rw [ht] at h; simp at h
  | some ti =>
   rw [ht] at h
   obtain ⟨i, d, hi⟩ := Env.tiOk hT ht
   dsimp only at h
   cases hd : ti.d <;> rw [hd] at h <;> try (simp at h; done)
   rename_i fs
   dsimp only at h
   obtain ⟨fields, rfl, hfs, hall⟩ := hi.struct hd
   obtain ⟨hq1, hq2⟩ := hi.eqs fs hd
   have hfo : P.fieldsOf t = fields := by simp [Program.fieldsOf, hi.und]
   refine ⟨?_, hq1⟩
   rw [run_equalIn_struct w D t us vs (by rw [hfo]; exact hi.und) hq2, hfo]
   have hpart : ∀ (x : Nat × Nat) (q : Bool), eqP E (eqT E f) as bs x = some q → ∃ a b, (part x.2 us x.1).run P w = .ok a w ∧ (part x.2 vs x.1).run P w = .ok b w ∧ (Op.equalIn D x.2 a b).run P w = .ok q w := by
    intro x q hq
    unfold eqP at hq
    cases hx : E.ti x.2 with
    | none => rw [hx] at hq; simp at hq
    | some fi =>
     rw [hx] at hq
     obtain ⟨i2, d2, hi2⟩ := Env.tiOk hT hx
     dsimp only at hq
     cases h1 : mk fi ((as.drop x.1).take fi.size) with
     | none => rw [h1] at hq; simp at hq
     | some va =>
      cases h2 : mk fi ((bs.drop x.1).take fi.size) with
      | none => rw [h1, h2] at hq; cases va <;> simp at hq
      | some vb =>
       rw [h1, h2] at hq
       obtain ⟨ra, hr1, hr2⟩ := run_part hi2 hu h1
       obtain ⟨rb, hr3, hr4⟩ := run_part hi2 hv h2
       refine ⟨ra, rb, hr1, hr3, ?_⟩
       obtain ⟨D', rfl⟩ : ∃ D', D = D' + 1 := ⟨D - 1, by omega⟩
       cases va <;> cases vb <;> simp only [reduceCtorEq] at hq
       ·exact eqD_ok hi2 hr2 hr4 hq D'
       ·obtain ⟨ua, rfl, hua⟩ := hr2
        obtain ⟨ub, rfl, hub⟩ := hr4
        exact (eqT_ok hT f x.2 _ _ q hq ua ub hua hub D' (by omega)).1
   rw [← hfs] at h
   clear hfo hfs
   have hnm : ∀ fd ∈ fields.toList, fd.name ≠ "_" := fun fd hfd => (hall fd hfd).2
   clear hall
   have key : ∀ (l : List Field) (p : Bool), (∀ fd ∈ l, fd.name ≠ "_") → eqF E (eqT E f) as bs (l.map fun f => (f.offset, f.type)) = some p → (Op.eqFields D us vs l).run P w = .ok p w := by
    intro l
    induction l with
    | nil => intro p _ h; simp [eqF] at h; subst h; rfl
    | cons fd l ih =>
     intro p hn h
     have hn1 := hn fd (by simp)
     have hstep : ∀ q r, eqP E (eqT E f) as bs (fd.offset, fd.type) = some q → (q = true → (Op.eqFields D us vs l).run P w = .ok r w) → (Op.eqFields D us vs (fd :: l)).run P w = .ok (q && r) w := by
      intro q r hq hr
      obtain ⟨a, b, h1, h2, h3⟩ := hpart _ q hq
      simp only at h1 h2 h3
      cases q with
      | true => simp [Op.eqFields, hn1, h1, h2, h3, hr rfl]
      | false => simp [Op.eqFields, hn1, h1, h2, h3]
     cases l with
     | nil =>
      simp only [List.map_cons, List.map_nil, eqF] at h
      have := hstep p true h (fun _ => rfl)
      simpa using this
     | cons fd2 l2 =>
      simp only [List.map_cons, eqF] at h
      cases h1 : eqP E (eqT E f) as bs (fd.offset, fd.type) with
      | none => rw [h1] at h; simp at h
      | some q =>
       rw [h1] at h
       cases h2 : eqF E (eqT E f) as bs ((fd2.offset, fd2.type) :: l2.map fun f => (f.offset, f.type)) with
       | none => rw [h2] at h; simp at h
       | some r =>
        rw [h2] at h
        simp only [Option.some.injEq] at h
        subst h
        exact hstep q r h1 fun _ => ih r (fun fd hfd => hn fd (by simp [hfd])) (by simpa using h2)
   exact key fields.toList p hnm h
end Go.Proofs.YtdhifkdijlghdaaGreatDoorA
