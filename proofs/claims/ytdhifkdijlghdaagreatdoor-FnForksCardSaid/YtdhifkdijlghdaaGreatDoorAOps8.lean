/-
  One operation of the small machine that is no call: the model's operation does the same. No condition.
-/
import Derived.Test.YtdhifkdijlghdaaGreatDoorAOps7
namespace Go.Proofs.YtdhifkdijlghdaaGreatDoorA
open Go
set_option linter.unusedVariables false
set_option linter.unusedSimpArgs false
variable {P : Program} {M0 : Addr → Prop} {w0 w : World} {g : Gh} {H : Nat → Option Ob}
def Does (P : Program) (o : Oper) (a : Act) (w : World) (v : Value) (w' : World) : Prop :=
 (execOp a.eval o).run P w = .ok (.value v) w' ∨ ((execOp a.eval o).run P w = .ok .skip w' ∧ v = undef)
theorem F2.map_parts {a : Act} {tmps : List (Nat × TV)} (ht : TmR g w tmps a) : ∀ {ps : List (Nat × Operand)} {l : List (Nat × V1)}, partsO (ev tmps) ps = some l → F2 (fun a b => a.1 = b.1 ∧ V1R g w a.2 b.2) l (ps.map fun p => (p.1, a.eval p.2))
 | [], l, h => by cases h; trivial
 | (i, x) :: r, l, h => by
  simp only [partsO] at h
  cases h1 : ev tmps x with
  | none => rw [h1] at h; simp at h
  | some v =>
   rw [h1] at h
   cases v with
   | tup => simp at h
   | v y =>
    cases h2 : partsO (ev tmps) r with
    | none => rw [h2] at h; simp at h
    | some l' =>
     rw [h2] at h
     cases h
     exact ⟨⟨rfl, ev_ok ht h1⟩, F2.map_parts ht h2⟩
theorem onesO_ok {a : Act} {tmps : List (Nat × TV)} (ht : TmR g w tmps a) : ∀ {xs : List Operand} {cs : List C}, onesO (ev tmps) xs = some cs → F2 (CR g w) cs (xs.map a.eval)
 | [], l, h => by cases h; trivial
 | x :: r, l, h => by
  simp only [onesO] at h
  cases h1 : ev tmps x with
  | none => rw [h1] at h; simp at h
  | some v =>
   rw [h1] at h
   cases v with
   | tup => simp at h
   | v y =>
    cases y <;> try (simp at h; done)
    cases h2 : onesO (ev tmps) r with
    | none => rw [h2] at h; simp at h
    | some l' =>
     rw [h2] at h
     cases h
     exact ⟨ev_ok ht h1, onesO_ok ht h2⟩
theorem tvsO_ok {a : Act} {tmps : List (Nat × TV)} (ht : TmR g w tmps a) : ∀ {xs : List Operand} {vs : List TV}, tvsO (ev tmps) xs = some vs → F2 (TVR g w) vs (xs.map a.eval)
 | [], l, h => by cases h; trivial
 | x :: r, l, h => by
  simp only [tvsO] at h
  cases h1 : ev tmps x with
  | none => rw [h1] at h; simp at h
  | some v =>
   rw [h1] at h
   cases h2 : tvsO (ev tmps) r with
   | none => rw [h2] at h; simp at h
   | some l' =>
    rw [h2] at h
    cases h
    exact ⟨ev_ok ht h1, tvsO_ok ht h2⟩
theorem oneO_ok {a : Act} {tmps : List (Nat × TV)} (ht : TmR g w tmps a) {x : Option Operand} {c : Option C} (h : oneO (ev tmps) x = some c) : OptR g w c (x.map a.eval) := by
 cases x with
 | none => cases h; trivial
 | some x =>
  simp only [oneO] at h
  cases h1 : ev tmps x with
  | none => rw [h1] at h; simp at h
  | some v =>
   rw [h1] at h
   cases v with
   | tup => simp at h
   | v y =>
    cases y <;> simp at h
    subst h
    exact ev_ok ht h1
theorem foldI_ok {f : Int → Int → Int} {f2 : Value → Value → Sem Value} {k : IntKind} (hf : ∀ x y w, (f2 (.int k x) (.int k y)).run P w = .ok (.int k (f x y)) w) : ∀ {vs : List TV} {us : List Value} {n m : Int}, foldI f k n vs = some m → F2 (TVR g w) vs us → (us.foldlM f2 (.int k n)).run P w = .ok (.int k m) w
 | [], [], n, m, h, _ => by cases h; simp
 | v :: vs, u :: us, n, m, h, hu => by
  cases v with
  | tup => simp [foldI] at h
  | v x =>
   cases x <;> try (simp [foldI] at h; done)
   rename_i c
   cases c <;> try (simp [foldI] at h; done)
   rename_i k' y
   simp only [foldI] at h
   split at h
   ·rename_i hk; subst hk
    have h1 : u = .int k y := hu.1
    subst h1
    simp [List.foldlM_cons, hf, foldI_ok hf h hu.2]
   ·simp at h
 | [], _ :: _, _, _, _, h => h.elim
 | _ :: _, [], _, _, _, h => h.elim
theorem Good.of_eff {nid : Nat} {r : Res1} {e e' : Eff} {v : Value} {w' : World} (hr : r = ⟨true, .done e'⟩) (he : r.act = .done e) (h : Good M0 w0 g H w nid e' v w') : Good M0 w0 g H w nid e v w' := by
 subst hr
 cases he
 exact h
theorem pCallF_not_done {E : Env} {nid f : Nat} {vs : List TV} {caps : List C} {r : Res1} {l : List Nat} (h : pCallF E nid f vs caps H = some (r, l)) {e : Eff} (he : r.act = .done e) : False := by
 unfold pCallF at h
 cases hf : E.fi f with
 | none => rw [hf] at h; exact (M.fail_some (H := H) h).elim
 | some fi =>
  rw [hf] at h
  obtain ⟨x, l1, l2, h1, h2, _⟩ := M.bind_some h
  split at h2
  ·rw [← M.ret_some h2] at he; cases he
  ·exact (M.fail_some h2).elim
theorem pCallV_not_done {E : Env} {nid : Nat} {c : C} {vs : List TV} {r : Res1} {l : List Nat} (h : pCallV E nid c vs H = some (r, l)) {e : Eff} (he : r.act = .done e) : False := by
 cases c <;> try exact (M.fail_some (H := H) h).elim
 ·exact pCallF_not_done h he
 ·obtain ⟨x, l1, l2, h1, h2, _⟩ := M.bind_some h
  cases x <;> try exact (M.fail_some h2).elim
  exact pCallF_not_done h2 he
 ·simp only [pCallV] at h
  cases hv : v1s vs with
  | none => rw [hv] at h; exact (M.fail_some (H := H) h).elim
  | some ws =>
   rw [hv] at h
   dsimp only at h
   split at h
   ·rw [← M.ret_some h] at he; cases he
   ·exact (M.fail_some (H := H) h).elim
theorem selB_ok {b : Builtin} {vs : List TV} {ts : List Nat} {s : BS} (h : selB b vs ts = some s) :
  (∃ t x, b = .len ∧ vs = [.v x] ∧ ts = [t] ∧ s = .len t x) ∨ (∃ t t2 c x, b = .append ∧ vs = [.v (.one c), .v (.one x)] ∧ ts = [t, t2] ∧ s = .app t t2 c x) ∨
  (∃ k n m r, vs = .v (.one (.int k n)) :: r ∧ s = .mxn k m ∧ ((b = .max ∧ foldI mx2 k n r = some m) ∨ (b = .min ∧ foldI mn2 k n r = some m))) := by
 unfold selB at h
 split at h
 ·cases h; exact .inl ⟨_, _, rfl, rfl, rfl, rfl⟩
 ·cases h; exact .inr (.inl ⟨_, _, _, _, rfl, rfl, rfl, rfl⟩)
 ·obtain ⟨m, h1, rfl⟩ := Option.map_eq_some_iff.1 h; exact .inr (.inr ⟨_, _, m, _, rfl, rfl, .inl ⟨rfl, h1⟩⟩)
 ·obtain ⟨m, h1, rfl⟩ := Option.map_eq_some_iff.1 h; exact .inr (.inr ⟨_, _, m, _, rfl, rfl, .inr ⟨rfl, h1⟩⟩)
 ·simp at h
set_option maxHeartbeats 1000000 in
theorem pre_done {E : Env} (hT : TtOk P E.tt) {o : Oper} {a : Act} {tmps : List (Nat × TV)} (ht : TmR g w tmps a) {nid : Nat} {r : Res1} (hI : Inv M0 w0 g H w) (hn : hasNew r = true → H nid = none)  {l : List Nat} (h : pre0 E o (ev tmps) nid H = some (r, l)) (hg : r.g = true)
  {e : Eff} (he : r.act = .done e) : ∃ v w', Does P o a w v w' ∧ Good M0 w0 g H w nid e v w' := by
 obtain ⟨dst, op, type, pos, after, guard⟩ := o
 unfold pre0 at h
 have F : ∀ {x : M Res1}, x = M.fail → x H = some (r, l) → False := fun hx hh => M.fail_some (H := H) (hx ▸ hh)
 cases op <;> try exact (M.fail_some (H := H) h).elim
 case move x =>
  obtain ⟨v, l1, l2, h1, h2, _⟩ := M.bind_some h
  have hv := ev_ok ht (M.opt_some h1)
  exact ⟨a.eval x, w, .inl (by simp [execOp]), Good.of_eff (done_some h2) he (Good.same hI hv)⟩
 case assign x =>
  obtain ⟨v, l1, l2, h1, h2, _⟩ := M.bind_some h
  have hv := ev_ok ht (M.opt_some h1)
  exact ⟨a.eval x, w, .inl (by simp [execOp]), Good.of_eff (done_some h2) he (Good.same hI hv)⟩
 case alloc t =>
  obtain ⟨e', u, w', hr, hrun, hG⟩ := pAlloc_ok hT hI hn h
  exact ⟨u, w', .inl (by simp [execOp, hrun]), Good.of_eff hr he hG⟩
 case box t x =>
  cases h1 : E.ti t with
  | none => simp only [h1] at h; exact (M.fail_some (H := H) h).elim
  | some ti =>
   cases h2 : ev tmps x with
   | none => simp only [h1, h2] at h; exact (M.fail_some (H := H) h).elim
   | some v =>
    cases v with
    | tup => simp only [h1, h2] at h; exact (M.fail_some (H := H) h).elim
    | v y =>
     simp only [h1, h2] at h
     obtain ⟨e', u, w', hr, hrun, hG⟩ := pBox_ok (P := P) (t := t) hI hn (ev_ok ht h2) h
     exact ⟨u, w', .inl (by simp [execOp, hrun]), Good.of_eff hr he hG⟩
 case build t ps =>
  cases h1 : partsO (ev tmps) ps.toList with
  | none => simp only [h1] at h; exact (M.fail_some (H := H) h).elim
  | some pl' =>
   simp only [h1] at h
   have hp := F2.map_parts ht h1
   obtain ⟨e', u, w', hr, hrun, hG⟩ := pBuild_ok hT (nid := nid) (ps := ps.map fun (i, x) => (i, a.eval x)) hI (by simpa using hp) h
   exact ⟨u, w', .inl (by simp [execOp, hrun]), Good.of_eff hr he hG⟩
 case buildSlice t n ps =>
  cases h1 : partsO (ev tmps) ps.toList with
  | none => simp only [h1] at h; exact (M.fail_some (H := H) h).elim
  | some pl' =>
   simp only [h1] at h
   have hp := F2.map_parts ht h1
   obtain ⟨e', u, w', hr, hrun, hG⟩ := pBuildSlice_ok hT (ps := ps.map fun (i, x) => (i, a.eval x)) hI hn (by simpa using hp) h
   exact ⟨u, w', .inl (by simp [execOp, hrun]), Good.of_eff hr he hG⟩
 case load t x =>
  cases h1 : E.ti t with
  | none => simp only [h1] at h; exact (M.fail_some (H := H) h).elim
  | some ti =>
   cases h2 : ev tmps x with
   | none => simp only [h1, h2] at h; exact (M.fail_some (H := H) h).elim
   | some v =>
    cases v with
    | tup => simp only [h1, h2] at h; exact (M.fail_some (H := H) h).elim
    | v y =>
     cases y <;> simp only [h1, h2] at h <;> try exact (M.fail_some (H := H) h).elim
     obtain ⟨i, d, hi⟩ := Env.tiOk hT h1
     obtain ⟨v, l1, l2, h3, h4, _⟩ := M.bind_some h
     obtain ⟨rv, hrun, hv⟩ := pLoad_ok hi hI (ev_ok ht h2) h3
     exact ⟨rv, w, .inl (by simp [execOp, hrun]), Good.of_eff (done_some h4) he (Good.same hI hv)⟩
 case store t x y =>
  cases h1 : E.ti t with
  | none => simp only [h1] at h; exact (M.fail_some (H := H) h).elim
  | some ti =>
   cases h2 : ev tmps x with
   | none => simp only [h1, h2] at h; exact (M.fail_some (H := H) h).elim
   | some v =>
    cases v with
    | tup => simp only [h1, h2] at h; exact (M.fail_some (H := H) h).elim
    | v z =>
     cases h3 : ev tmps y with
     | none => simp only [h1, h2, h3] at h; cases z <;> exact (M.fail_some (H := H) h).elim
     | some v2 =>
      cases v2 with
      | tup => simp only [h1, h2, h3] at h; cases z <;> exact (M.fail_some (H := H) h).elim
      | v z2 =>
       cases z <;> simp only [h1, h2, h3] at h <;> try exact (M.fail_some (H := H) h).elim
       obtain ⟨i, d, hi⟩ := Env.tiOk hT h1
       obtain ⟨e', w', hr, hrun, hG⟩ := pStore_ok hi hI (ev_ok ht h2) (ev_ok ht h3) h
       exact ⟨undef, w', .inr ⟨by simp [execOp, hrun], rfl⟩, Good.of_eff hr he hG⟩
 case nilCheck x =>
  cases h2 : ev tmps x with
  | none => simp only [h2] at h; exact (M.fail_some (H := H) h).elim
  | some v =>
   cases v with
   | tup => simp only [h2] at h; exact (M.fail_some (H := H) h).elim
   | v y =>
    cases y <;> simp only [h2] at h <;> try exact (M.fail_some (H := H) h).elim
    rename_i c
    have hv : CR g w c (a.eval x) := ev_ok ht h2
    have fin : done true (one1 c) [] [] H = some (r, l) → (∀ q : Value, q = a.eval x → (execOp a.eval ⟨dst, .nilCheck x, type, pos, after, guard⟩).run P w = .ok (.value q) w) → ∃ v w', Does P ⟨dst, .nilCheck x, type, pos, after, guard⟩ a w v w' ∧ Good M0 w0 g H w nid e v w' :=
     fun hh hrun => ⟨a.eval x, w, .inl (hrun _ rfl), Good.of_eff (done_some hh) he (Good.same hI hv)⟩
    cases c <;> try exact (M.fail_some (H := H) h).elim
    ·obtain ⟨p, e1, e2⟩ := hv; exact fin h fun q hq => by subst hq; simp [execOp, e2]
    ·obtain ⟨p, n, c, e1, e2⟩ := hv; exact fin h fun q hq => by subst hq; simp [execOp, e2]
    ·obtain ⟨p, n, c, e1, _, e2⟩ := hv; exact fin h fun q hq => by subst hq; simp [execOp, e2]
    ·obtain ⟨p, us, e2, _⟩ := hv; exact fin h fun q hq => by subst hq; simp [execOp, e2]
    ·exact fin h fun q hq => by
      subst hq
      have e2 : a.eval x = _ := hv
      simp [execOp, e2]
    ·obtain ⟨us, e1, e2⟩ := hv; exact fin h fun q hq => by subst hq; simp [execOp, e2]
 case binOp op t x y yt =>
  cases h2 : ev tmps x with
  | none => simp only [h2] at h; exact (M.fail_some (H := H) h).elim
  | some v =>
   cases v with
   | tup => simp only [h2] at h; exact (M.fail_some (H := H) h).elim
   | v p =>
    cases h3 : ev tmps y with
    | none => simp only [h2, h3] at h; cases p <;> exact (M.fail_some (H := H) h).elim
    | some v2 =>
     cases v2 with
     | tup => simp only [h2, h3] at h; cases p <;> exact (M.fail_some (H := H) h).elim
     | v q =>
      cases p <;> cases q <;> simp only [h2, h3] at h <;> try exact (M.fail_some (H := H) h).elim
      ·rename_i c1 c2
       cases hb : binC (isBoolT E t) op c1 c2 with
       | none => simp only [hb] at h; exact (M.fail_some (H := H) h).elim
       | some gc =>
        obtain ⟨gd, c⟩ := gc
        simp only [hb] at h
        have hr := done_some h
        subst hr
        simp only at hg
        subst hg
        obtain ⟨rv, hrun, hc⟩ := binC_ok (P := P) (ev_ok ht h2) (ev_ok ht h3) hb t (isBoolT_ok hT) x y
        refine ⟨rv, w, .inl ?_, Good.of_eff rfl he (Good.same hI hc)⟩
        simp only [execOp]
        rw [Sem.run_bind, hrun]; rfl
      ·rename_i as bs
       cases hq : eqT E 6 t as bs with
       | none => simp only [hq] at h; cases op <;> exact (M.fail_some (H := H) h).elim
       | some b =>
        obtain ⟨us, hu1, hu2⟩ := ev_ok ht h2
        obtain ⟨vs, hv1, hv2⟩ := ev_ok ht h3
        obtain ⟨hq1, hq2⟩ := eqT_ok (P := P) hT 6 t as bs b hq us vs hu2 hv2 9999 (by omega)
        cases op <;> simp only [hq] at h <;> try exact (M.fail_some (H := H) h).elim
        ·refine ⟨.bool b, w, .inl ?_, Good.of_eff (done_some h) he (Good.same hI rfl)⟩
         simp [execOp, hu1, hv1, run_eqGuard_agg w _ t x y us vs hq2, run_eql_struct, hq1]
        ·refine ⟨.bool (!b), w, .inl ?_, Good.of_eff (done_some h) he (Good.same hI rfl)⟩
         simp [execOp, hu1, hv1, run_eqGuard_agg w _ t x y us vs hq2, run_neq_struct, hq1]
 case unOp op t x =>
  cases h2 : ev tmps x with
  | none => simp only [h2] at h; exact (M.fail_some (H := H) h).elim
  | some v =>
   cases v with
   | tup => simp only [h2] at h; exact (M.fail_some (H := H) h).elim
   | v p =>
    cases p <;> simp only [h2] at h <;> try exact (M.fail_some (H := H) h).elim
    rename_i c1
    cases hb : unC op c1 with
    | none => simp only [hb] at h; exact (M.fail_some (H := H) h).elim
    | some c =>
     simp only [hb] at h
     obtain ⟨rv, hrun, hc⟩ := unC_ok (P := P) (ev_ok ht h2) hb
     exact ⟨rv, w, .inl (by simp [execOp, hrun]), Good.of_eff (done_some h) he (Good.same hI hc)⟩
 case convert s d x =>
  cases h2 : ev tmps x with
  | none => simp only [h2] at h; exact (M.fail_some (H := H) h).elim
  | some v =>
   cases v with
   | tup => simp only [h2] at h; exact (M.fail_some (H := H) h).elim
   | v p =>
    cases p <;> simp only [h2] at h <;> try exact (M.fail_some (H := H) h).elim
    obtain ⟨e', u, w', hr, hrun, hG⟩ := pConvert_ok hT hI hn (ev_ok ht h2) h
    exact ⟨u, w', .inl (by simp [execOp, hrun]), Good.of_eff hr he hG⟩
 case makeSlice t x y =>
  cases h2 : ev tmps x with
  | none => simp only [h2] at h; exact (M.fail_some (H := H) h).elim
  | some v =>
   cases v with
   | tup => simp only [h2] at h; exact (M.fail_some (H := H) h).elim
   | v p =>
    cases h3 : ev tmps y with
    | none => simp only [h2, h3] at h; cases p <;> exact (M.fail_some (H := H) h).elim
    | some v2 =>
     cases v2 with
     | tup => simp only [h2, h3] at h; cases p <;> exact (M.fail_some (H := H) h).elim
     | v q =>
      cases p <;> cases q <;> simp only [h2, h3] at h <;> try exact (M.fail_some (H := H) h).elim
      obtain ⟨e', u, w', hr, hrun, hG⟩ := pMake_ok hT hI hn (ev_ok ht h2) (ev_ok ht h3) h hg
      rw [hr] at he; cases he
      exact ⟨u, w', .inl (by simp [execOp, hrun]), hG⟩
 case indexAddr t x y =>
  cases h2 : ev tmps x with
  | none => simp only [h2] at h; exact (M.fail_some (H := H) h).elim
  | some v =>
   cases v with
   | tup => simp only [h2] at h; exact (M.fail_some (H := H) h).elim
   | v p =>
    cases h3 : ev tmps y with
    | none => simp only [h2, h3] at h; cases p <;> exact (M.fail_some (H := H) h).elim
    | some v2 =>
     cases v2 with
     | tup => simp only [h2, h3] at h; cases p <;> exact (M.fail_some (H := H) h).elim
     | v q =>
      cases p <;> cases q <;> simp only [h2, h3] at h <;> try exact (M.fail_some (H := H) h).elim
      obtain ⟨e', u, w', hr, hrun, hG⟩ := pIndexAddr_ok hT (nid := nid) hI (ev_ok ht h2) (ev_ok ht h3) h hg
      rw [hr] at he; cases he
      exact ⟨u, w', .inl (by simp [execOp, hrun]), hG⟩
 case index t x y =>
  cases h2 : ev tmps x with
  | none => simp only [h2] at h; exact (M.fail_some (H := H) h).elim
  | some v =>
   cases v with
   | tup => simp only [h2] at h; exact (M.fail_some (H := H) h).elim
   | v p =>
    cases h3 : ev tmps y with
    | none => simp only [h2, h3] at h; cases p <;> exact (M.fail_some (H := H) h).elim
    | some v2 =>
     cases v2 with
     | tup => simp only [h2, h3] at h; cases p <;> exact (M.fail_some (H := H) h).elim
     | v q =>
      cases q <;> simp only [h2, h3] at h <;> try exact (M.fail_some (H := H) h).elim
      obtain ⟨e', u, w', hr, hrun, hG⟩ := pIndex_ok hT (nid := nid) hI (ev_ok ht h2) (ev_ok ht h3) h hg
      rw [hr] at he; cases he
      exact ⟨u, w', .inl (by simp [execOp, hrun]), hG⟩
 case fieldAddr t x f =>
  cases h2 : ev tmps x with
  | none => simp only [h2] at h; exact (M.fail_some (H := H) h).elim
  | some v =>
   cases v with
   | tup => simp only [h2] at h; exact (M.fail_some (H := H) h).elim
   | v p =>
    cases p <;> simp only [h2] at h <;> try exact (M.fail_some (H := H) h).elim
    obtain ⟨e', u, w', hr, hrun, hG⟩ := pFieldAddr_ok hT (nid := nid) hI (ev_ok ht h2) h
    exact ⟨u, w', .inl (by simp [execOp, hrun]), Good.of_eff hr he hG⟩
 case field t x f =>
  cases h2 : ev tmps x with
  | none => simp only [h2] at h; exact (M.fail_some (H := H) h).elim
  | some v =>
   cases v with
   | tup => simp only [h2] at h; exact (M.fail_some (H := H) h).elim
   | v p =>
    simp only [h2] at h
    obtain ⟨e', u, w', hr, hrun, hG⟩ := pField_ok hT (nid := nid) hI (ev_ok ht h2) h
    exact ⟨u, w', .inl (by simp [execOp, hrun]), Good.of_eff hr he hG⟩
 case extract x i =>
  cases h2 : ev tmps x with
  | none => simp only [h2] at h; exact (M.fail_some (H := H) h).elim
  | some v =>
   cases v with
   | v p => simp only [h2] at h; exact (M.fail_some (H := H) h).elim
   | tup vs =>
    simp only [h2] at h
    cases h3 : vs[i]? with
    | none => simp only [h3] at h; exact (M.fail_some (H := H) h).elim
    | some v1 =>
     simp only [h3] at h
     obtain ⟨us, hu1, hu2⟩ := ev_ok ht h2
     obtain ⟨u, hu3, hu4⟩ := F2.get hu2 i v1 h3
     have hu5 : us[i]? = some u := by simpa using hu3
     exact ⟨u, w, .inl (by simp [execOp, hu1, Instr.extract, hu5]), Good.of_eff (done_some h) he (Good.same hI hu4)⟩
 case slice t x lo hi mx =>
  cases h2 : ev tmps x with
  | none => simp only [h2] at h; exact (M.fail_some (H := H) h).elim
  | some v =>
   cases v with
   | tup => simp only [h2] at h; exact (M.fail_some (H := H) h).elim
   | v p =>
    cases p <;> try (simp only [h2] at h; exact (M.fail_some (H := H) h).elim)
    rename_i c
    cases h3 : oneO (ev tmps) lo with
    | none => simp only [h2, h3] at h; exact (M.fail_some (H := H) h).elim
    | some lo' =>
     cases h4 : oneO (ev tmps) hi with
     | none => simp only [h2, h3, h4] at h; exact (M.fail_some (H := H) h).elim
     | some hi' =>
      cases h5 : oneO (ev tmps) mx with
      | none => simp only [h2, h3, h4, h5] at h; exact (M.fail_some (H := H) h).elim
      | some mx' =>
       simp only [h2, h3, h4, h5] at h
       obtain ⟨e', u, w', hr, hrun, hG⟩ := pSlice_ok hT hI hn (ev_ok ht h2) (oneO_ok ht h3) (oneO_ok ht h4) (oneO_ok ht h5) h hg
       rw [hr] at he; cases he
       exact ⟨u, w', .inl (by simp [execOp, hrun]), hG⟩
 case makeFunc fn first caps =>
  cases fn <;> try exact (M.fail_some (H := H) h).elim
  rename_i f
  dsimp only at h
  split at h
  ·rename_i hfe
   have hfe' : first = #[] := by simpa using hfe
   subst hfe'
   cases h1 : onesO (ev tmps) caps.toList with
   | none => simp only [h1] at h; exact (M.fail_some (H := H) h).elim
   | some cs =>
    have hcs := onesO_ok ht h1
    cases cs with
    | nil =>
     simp only [h1] at h
     have hc0 : caps = #[] := by
      have := hcs.len
      simp at this
      exact Array.eq_empty_of_size_eq_zero (by omega)
     subst hc0
     exact ⟨.func (.func f) #[] #[], w, .inl (by simp [execOp, Instr.makeFunc]), Good.of_eff (done_some h) he (Good.same hI rfl)⟩
    | cons c cs =>
     simp only [h1] at h
     split at h
     ·refine ⟨.func (.func f) #[] (caps.map a.eval), w, .inl (by simp [execOp, Instr.makeFunc]), Good.of_eff (done_some h) he ?_⟩
      have he' : Ext g { g with loc := fun i => if i = nid then .clo (caps.map a.eval) else g.loc i } := ⟨fun i hi => by
       show (if i = nid then _ else g.loc i) = _
       rw [if_neg]; rintro rfl; exact hi (hI.no _ (hn (by rw [done_some h]; rfl))), fun _ _ h => h, rfl, fun _ _ _ h => h⟩
      refine Good.new (l := .clo (caps.map a.eval)) hI (hn (by rw [done_some h]; rfl)) (Keeps.refl _ _) (by simp) ?_ (fun p hp => hp.elim) ⟨_, if_pos rfl, rfl⟩
      exact ⟨caps.map a.eval, if_pos rfl, F2.mono (CR.ext he' fun _ _ _ => rfl) (by simpa using hcs)⟩
     ·exact (M.fail_some (H := H) h).elim
  ·exact (M.fail_some (H := H) h).elim
 case call c =>
  obtain ⟨callee, args, ats⟩ := c
  cases callee with
  | invoke => exact (M.fail_some (H := H) h).elim
  | value f =>
   exfalso
   dsimp only at h
   cases h2 : ev tmps f with
   | none => simp only [h2] at h; exact (M.fail_some (H := H) h).elim
   | some v =>
    cases v with
    | tup => simp only [h2] at h; exact (M.fail_some (H := H) h).elim
    | v p =>
     cases p <;> try (simp only [h2] at h; exact (M.fail_some (H := H) h).elim)
     cases h3 : tvsO (ev tmps) args.toList with
     | none => simp only [h2, h3] at h; exact (M.fail_some (H := H) h).elim
     | some vs =>
      simp only [h2, h3] at h
      exact pCallV_not_done h he
  | builtin b =>
   dsimp only at h
   obtain ⟨al, rfl⟩ : ∃ al : List Operand, args = al.toArray := ⟨args.toList, by simp⟩
   obtain ⟨tl, rfl⟩ : ∃ tl : List TypeId, ats = tl.toArray := ⟨ats.toList, by simp⟩
   simp only [List.toList_toArray] at h
   cases h3 : tvsO (ev tmps) al with
   | none => simp only [h3] at h; exact (M.fail_some (H := H) h).elim
   | some vs =>
    have hvs := tvsO_ok ht h3
    have hal := hvs.len
    rw [List.length_map] at hal
    simp only [h3] at h
    cases hb : selB b vs tl with
    | none => rw [hb] at h; exact (M.fail_some (H := H) h).elim
    | some bs =>
     rw [hb] at h
     rcases selB_ok hb with ⟨t, x, rfl, rfl, rfl, rfl⟩ | ⟨t, t2, s, x, rfl, rfl, rfl, rfl⟩ | ⟨k, n, m, r', rfl, hf, h5⟩
     ·match al, hal, hvs, h with
      | [ox], _, hvs, h =>
       obtain ⟨e', u, w', hr, hrun, hG⟩ := pLen_ok hT (ty := type) (nid := nid) hI hvs.1 h
       exact ⟨u, w', .inl (by simp [execOp, resolve, invoke, builtin, hrun]), Good.of_eff hr he hG⟩
     ·match al, hal, hvs, h with
      | [os, ox], _, hvs, h =>
       obtain ⟨e', u, w', hr, hrun, hG⟩ := pAppend_ok hT (ty := type) hI hn hvs.1 hvs.2.1 h hg
       rw [hr] at he; cases he
       exact ⟨u, w', .inl (by simp [execOp, resolve, invoke, builtin, hrun]), hG⟩
     ·obtain ⟨rfl⟩ := hf
      match al, hal, hvs, h with
      | o1 :: al, _, hvs, h =>
       have h1 : a.eval o1 = .int k n := hvs.1
       rcases h5 with ⟨rfl, h5⟩ | ⟨rfl, h5⟩
       ·have hrun := foldI_ok (P := P) (w := w) (f2 := Builtin.max2) (fun x y w => by simp [Builtin.max2, mx2]) h5 hvs.2
        exact ⟨.int k m, w, .inl (by simp [execOp, resolve, invoke, builtin, Builtin.max_, h1, hrun]), Good.of_eff (done_some h) he (Good.same hI rfl)⟩
       ·have hrun := foldI_ok (P := P) (w := w) (f2 := Builtin.min2) (fun x y w => by simp [Builtin.min2, mn2]) h5 hvs.2
        exact ⟨.int k m, w, .inl (by simp [execOp, resolve, invoke, builtin, Builtin.min_, h1, hrun]), Good.of_eff (done_some h) he (Good.same hI rfl)⟩
end Go.Proofs.YtdhifkdijlghdaaGreatDoorA
