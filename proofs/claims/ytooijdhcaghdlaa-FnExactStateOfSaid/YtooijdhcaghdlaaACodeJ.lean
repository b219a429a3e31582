/-
  Every operation, calls too. No condition.
-/
import Derived.Test.YtooijdhcaghdlaaACodeI
namespace Go.Proofs.YtooijdhcaghdlaaA
open Go
set_option linter.unusedVariables false
set_option linter.unusedSimpArgs false
variable {P : Program} {E : Env} {M0 : Addr → Prop} {w0 w : World} {g gc : Gh} {H : Nat → Option Ob}
def IsD (x : M Res1) : Prop := ∀ H r l, x H = some (r, l) → ∃ e, r.act = .done e
theorem IsD.done {g : Bool} {v : TV} {u : List (Nat × Ob)} {n : List Ob} : IsD (done g v u n) := fun H r l h => by
 have := done_some h
 subst this
 exact ⟨_, rfl⟩
theorem IsD.fail : IsD M.fail := fun H r l h => (M.fail_some h).elim
theorem IsD.bind {α : Type} {x : M α} {f : α → M Res1} (h : ∀ a, IsD (f a)) : IsD (M.bind x f) := fun H r l hh => by
 obtain ⟨a, l1, l2, h1, h2, _⟩ := M.bind_some hh
 exact h a H r l2 h2
set_option maxHeartbeats 1000000 in
theorem pre_isD {o : Oper} {ρ : Operand → Option TV} {nid : Nat} (hno : ∀ fop al ts, o.op ≠ .call ⟨.value fop, al, ts⟩) : IsD (pre E o ρ nid) := by
 obtain ⟨dst, op, type, pos, after, guard⟩ := o
 simp only at hno
 cases op with
 | call c =>
  obtain ⟨callee, args, ats⟩ := c
  cases callee with
  | value f => exact absurd rfl (hno f args ats)
  | invoke => exact IsD.fail
  | builtin b =>
   simp only [pre, pLen, pAppend]
   repeat' (first | exact IsD.done | exact IsD.fail | (refine IsD.bind fun _ => ?_) | split)
 | makeFunc fn first caps =>
  cases fn with
  | func f =>
   simp only [pre]
   split
   ·split
    ·exact IsD.done
    ·split
     ·exact IsD.done
     ·exact IsD.fail
    ·exact IsD.fail
   ·exact IsD.fail
  | _ => exact IsD.fail
 | _ =>
  simp only [pre, pAlloc, pBox, pBuild, pBuildSlice, pStore, pMake, pSlice, pFieldAddr, pField, pIndexAddr, pIndex, pConvert]
  repeat' (first | exact IsD.done | exact IsD.fail | (refine IsD.bind fun _ => ?_) | split)
theorem run_call {o : Oper} {a : Act} {fop : Operand} {al : Array Operand} {ts : Array TypeId} {f : Nat} {caps : Array Value} (hop : o.op = .call ⟨.value fop, al, ts⟩) (hv : a.eval fop = .func (.func f) #[] caps) (hb : HasBody P f) :
  (execOp a.eval o).run P w = .ok (.enter f (al.map a.eval ++ caps)) w := by
 obtain ⟨fn, c, h1, h2, h3⟩ := hb
 have h2' : ¬ fn.name = "runtime.NumGoroutine" := by simpa using h2
 simp [execOp, hop, resolve, hv, invoke, callFunc, Deferred.ofValue, h1, h2', h3]
theorem onesO_F2 {g : Gh} {w : World} : ∀ {cs : List C} {us : List Value}, F2 (CR g w) cs us → F2 (TVR g w) (cs.map one1) us
 | [], [], _ => trivial
 | c :: cs, u :: us, h => ⟨h.1, onesO_F2 h.2⟩
theorem v1s_ok {g : Gh} {w : World} : ∀ {vs : List TV} {xs : List V1} {us : List Value}, v1s vs = some xs → F2 (TVR g w) vs us → F2 (V1R g w) xs us
 | [], xs, us, h, hu => by
  simp only [v1s, Option.some.injEq] at h
  subst h
  match us, hu with | [], _ => exact trivial
 | .v x :: vs, xs, us, h, hu => by
  simp only [v1s] at h
  obtain ⟨ys, h1, rfl⟩ := Option.map_eq_some_iff.1 h
  match us, hu with
  | u :: us, hu => exact ⟨hu.1, v1s_ok h1 hu.2⟩
 | .tup _ :: vs, xs, us, h, hu => by simp [v1s] at h
theorem ops_ok (hE : EOk P E) : OpsOk P E := by
 refine ⟨hE.tt, ?_⟩
 intro o a tmps nid M0 w0 w g H r l e hI hfv ht hn h hgo
 obtain ⟨hg, hact⟩ := hgo
 by_cases hop : ∃ fop al ts, o.op = .call ⟨.value fop, al, ts⟩
 ·obtain ⟨fop, al, ts, hop⟩ := hop
  obtain ⟨dst, op, type, pos, after, guard⟩ := o
  simp only at hop
  subst hop
  simp only [pre] at h
  cases h2 : ev tmps fop with
  | none => simp only [h2] at h; exact (M.fail_some (H := H) h).elim
  | some v =>
   cases v with
   | tup => simp only [h2] at h; exact (M.fail_some (H := H) h).elim
   | v p =>
    cases p <;> try (simp only [h2] at h; exact (M.fail_some (H := H) h).elim)
    rename_i c
    cases h3 : tvsO (ev tmps) al.toList with
    | none => simp only [h2, h3] at h; exact (M.fail_some (H := H) h).elim
    | some vs =>
     simp only [h2, h3] at h
     have hc : CR g w c (a.eval fop) := ev_ok ht h2
     have hvs := tvsO_ok ht h3
     have callF : ∀ (f : Nat) (caps : List C) (cus : Array Value) (l : List Nat), pCallF E nid f vs caps H = some (r, l) → a.eval fop = .func (.func f) #[] cus → F2 (CR g w) caps cus.toList →
       Runs P ⟨dst, .call ⟨.value fop, al, ts⟩, type, pos, after, guard⟩ a w (fun v w' => Good M0 w0 g H w nid e v w' ∧ w.heap.size ≤ w'.heap.size) := by
      intro f caps cus l hcall hfv' hcaps rr nn_ K Q hK
      unfold pCallF at hcall
      cases hfi : E.fi f with
      | none => rw [hfi] at hcall; exact (M.fail_some (H := H) hcall).elim
      | some fi =>
       rw [hfi] at hcall
       obtain ⟨x, l1, l2, h4, h5, _⟩ := M.bind_some hcall
       split at h5
       ·rename_i hap
        have hr := M.ret_some h5
        subst hr
        simp only at hact
        obtain ⟨fi', y, h6, h7, h8⟩ := hact
        rw [hfi] at h6
        cases h6
        have hus : F2 (TVR g w) (vs ++ caps.map one1) (al.toList.map a.eval ++ cus.toList) := F2.append hvs (onesO_F2 hcaps)
        have := call_ok hE hI hfv hfi h4 hap hus h7 h8 hn
        refine wpIn_ok (run_call rfl hfv' (hE.fi f fi hfi).1) (fun _ => by simp) ?_
        rw [Oper.uponIn_enter]
        refine ⟨fun hh => by rw [Fw_depth] at hh; simp at hh, Fw_calls ?_⟩
        rw [show al.map a.eval ++ cus = (al.toList.map a.eval ++ cus.toList).toArray by simp]
        refine this.mono ?_
        rintro en w' ⟨v, rfl, hG⟩
        exact hK v w' hG
       ·exact (M.fail_some (H := H) h5).elim
     cases c <;> try exact (M.fail_some (H := H) h).elim
     ·rename_i f
      exact callF f [] #[] l h hc trivial
     ·rename_i f id
      obtain ⟨ob, l1, l2, h4, h5, _⟩ := M.bind_some h
      have hid := M.get_some h4
      cases ob <;> try exact (M.fail_some h5).elim
      rename_i caps
      obtain ⟨us, e1, hus⟩ := hI.ob _ _ hid
      obtain ⟨us', e2, hu'⟩ := hc
      rw [e1] at e2; cases e2
      exact callF f caps _ l2 h5 hu' hus
     ·rename_i j
      simp only [pCallV] at h
      cases h4 : v1s vs with
      | none => rw [h4] at h; exact (M.fail_some (H := H) h).elim
      | some ws =>
       rw [h4] at h
       dsimp only at h
       split at h
       ·rename_i hns
        have hr := M.ret_some (H := H) h
        subst hr
        simp only at hact
        obtain ⟨gf, rs, h6, h7, h8⟩ := hact
        split at h8
        ·rename_i hns2
         cases h8
         obtain ⟨hc1, _⟩ : a.eval fop = g.fv j ∧ _ := hc
         obtain ⟨f, caps, h9, h10, h11⟩ := hfv j gf h6
         intro rr nn_ K Q hK
         refine wpIn_ok (run_call rfl (hc1.trans h9) h10) (fun _ => by simp) ?_
         rw [Oper.uponIn_enter]
         refine ⟨fun hh => by rw [Fw_depth] at hh; simp at hh, Fw_calls ?_⟩
         have := h11 w (fun _ _ => rfl) (Nat.le_refl _) ws rs h7 hns (al.toList.map a.eval) (noSlVs hns (v1s_ok h4 hvs))
         rw [show al.map a.eval ++ caps = (al.toList.map a.eval).toArray ++ caps by rw [← Array.toList_map, Array.toArray_toList]]
         refine this.mono ?_
         rintro en w' ⟨rv, rfl, _, hv, hk⟩
         refine hK rv w' ⟨?_, hk.size⟩
         have hfr := hI.frame (g' := g) (H' := H) (w' := w') (fun _ => False) (fun _ _ => rfl) (fun _ _ h => h.elim) (fun _ _ _ _ _ _ h => h.elim) (fun b p hl => .inl hl) (hk.mono fun _ _ h => h.elim) (Ext.refl g) hI.no
         have he : apH H nid ⟨tvOf (gf.enc rs), [], []⟩ = H := by
          funext i
          unfold apH
          rw [if_neg (fun hh => by have h1 := hh.1; have h2 : i < nid + 0 := hh.2; omega)]
          rfl
         exact ⟨g, by rw [he]; exact hfr.1, Ext.refl g, hfr.2, noSlT hns2 hv, hk.others⟩
        ·simp at h8
       ·exact (M.fail_some (H := H) h).elim
 ·obtain ⟨e', he'⟩ := pre_isD (fun fop al ts hh => hop ⟨fop, al, ts, hh⟩) H r l h
  rw [he'] at hact
  simp only at hact
  subst hact
  exact ops_done hE.tt hI ht hn h hg he'
theorem fok {f : Nat} {fn : Func} {c : Code} {fi : FI} {wy : Way} {h : List GV → Hint} (hm : P.follows .mixedOrders = true) (hE : EOk P E)
  (hf : P.funcs[f]? = some fn) (hn : (fn.name == "runtime.NumGoroutine") = false) (hb : fn.body = some c) (hnt : E.nt ≤ fn.ntmps)
  (hh : ∀ args a tvs hp xs gs, fi.sem args = some a → enter 0 0 0 args = some (tvs, hp, xs, gs) → HintOk P { E with gv := gs } c (h gs))
  (hr : ∀ args a, fi.sem args = some a → run E wy fn.results.toList c h args = some (fi.out a)) : FOk P f fi :=
 fok_of_run hm hE.tt (fun gs => ops_ok ⟨hE.tt, hE.fi⟩) hf hn hb hnt hh hr
end Go.Proofs.YtooijdhcaghdlaaA
