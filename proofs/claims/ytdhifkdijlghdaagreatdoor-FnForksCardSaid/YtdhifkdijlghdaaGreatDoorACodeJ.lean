/-
  Every operation, calls too. No condition.
-/
import Derived.Test.YtdhifkdijlghdaaGreatDoorACodeI
namespace Go.Proofs.YtdhifkdijlghdaaGreatDoorA
open Go
set_option linter.unusedVariables false
set_option linter.unusedSimpArgs false
variable {P : Program} {E : Env} {M0 : Addr → Prop} {w0 w : World} {g gc : Gh} {H : Nat → Option Ob}
def IsD (x : M Res1) : Prop := ∀ H r l, x H = some (r, l) → ∃ e, r.act = .done e
theorem IsD.done {g : Bool} {v : TV} {u : List (Nat × Ob)} {n : List Ob} : IsD (done g v u n) := fun H r l h => by
 have := done_some h
 subst this
 exact ⟨_, rfl⟩
theorem IsD.fail : IsD M.fail := fun H r l h => (M.fail_some h).elim
theorem IsD.bind {α : Type} {x : M α} {f : α → M Res1} (h : ∀ a, IsD (f a)) : IsD (M.bind x f) := fun H r l hh => by
 obtain ⟨a, l1, l2, h1, h2, _⟩ := M.bind_some hh
 exact h a H r l2 h2
set_option maxHeartbeats 1000000 in
theorem pre_isD {o : Oper} {ρ : Operand → Option TV} {nid : Nat} (hno : ∀ fop al ts, o.op ≠ .call ⟨.value fop, al, ts⟩) : IsD (pre0 E o ρ nid) := by
 obtain ⟨dst, op, type, pos, after, guard⟩ := o
 simp only at hno
 cases op with
 | call c =>
  obtain ⟨callee, args, ats⟩ := c
  cases callee with
  | value f => exact absurd rfl (hno f args ats)
  | invoke => exact IsD.fail
  | builtin b =>
   simp only [pre0, pLen, pAppend]
   repeat' (first | exact IsD.done | exact IsD.fail | (refine IsD.bind fun _ => ?_) | split)
 | makeFunc fn first caps =>
  cases fn with
  | func f =>
   simp only [pre0]
   split
   ·split
    ·exact IsD.done
    ·split
     ·exact IsD.done
     ·exact IsD.fail
    ·exact IsD.fail
   ·exact IsD.fail
  | _ => exact IsD.fail
 | _ =>
  simp only [pre0, pAlloc, pBox, pBuild, pBuildSlice, pStore, pMake, pSlice, pFieldAddr, pField, pIndexAddr, pIndex, pConvert]
  repeat' (first | exact IsD.done | exact IsD.fail | (refine IsD.bind fun _ => ?_) | split)
theorem run_call {o : Oper} {a : Act} {fop : Operand} {al : Array Operand} {ts : Array TypeId} {f : Nat} {caps : Array Value} (hop : o.op = .call ⟨.value fop, al, ts⟩) (hv : a.eval fop = .func (.func f) #[] caps) (hb : HasBody P f) :
  (execOp a.eval o).run P w = .ok (.enter f (al.map a.eval ++ caps)) w := by
 obtain ⟨fn, c, h1, h2, h3⟩ := hb
 have h2' : ¬ fn.name = "runtime.NumGoroutine" := by simpa using h2
 simp [execOp, hop, resolve, hv, invoke, callFunc, Deferred.ofValue, h1, h2', h3]
theorem onesO_F2 {g : Gh} {w : World} : ∀ {cs : List C} {us : List Value}, F2 (CR g w) cs us → F2 (TVR g w) (cs.map one1) us
 | [], [], _ => trivial
 | c :: cs, u :: us, h => ⟨h.1, onesO_F2 h.2⟩
theorem v1s_ok {g : Gh} {w : World} : ∀ {vs : List TV} {xs : List V1} {us : List Value}, v1s vs = some xs → F2 (TVR g w) vs us → F2 (V1R g w) xs us
 | [], xs, us, h, hu => by
  simp only [v1s, Option.some.injEq] at h
  subst h
  match us, hu with | [], _ => exact trivial
 | .v x :: vs, xs, us, h, hu => by
  simp only [v1s] at h
  obtain ⟨ys, h1, rfl⟩ := Option.map_eq_some_iff.1 h
  match us, hu with
  | u :: us, hu => exact ⟨hu.1, v1s_ok h1 hu.2⟩
 | .tup _ :: vs, xs, us, h, hu => by simp [v1s] at h
theorem ops_ok0 (hE : EOk P E) (o : Oper) (a : Act) (tmps : List (Nat × TV)) (nid : Nat) (M0 : Addr → Prop) (w0 w : World) (g : Gh) (H : Nat → Option Ob) (r : Res1) (l : List Nat) (e : Eff)
  (hI : Inv M0 w0 g H w) (hfv : FvOk P g w E.gv) (ht : TmR g w tmps a) (hn : ∀ i, nid ≤ i → i < nid + e.news.length → H i = none) (h : pre0 E o (ev tmps) nid H = some (r, l)) (hgo : Goes E r e) : Runs P o a w (fun v w' => Good M0 w0 g H w nid e v w' ∧ w.heap.size ≤ w'.heap.size) := by
 obtain ⟨hg, hact⟩ := hgo
 by_cases hop : ∃ fop al ts, o.op = .call ⟨.value fop, al, ts⟩
 ·obtain ⟨fop, al, ts, hop⟩ := hop
  obtain ⟨dst, op, type, pos, after, guard⟩ := o
  simp only at hop
  subst hop
  simp only [pre0] at h
  cases h2 : ev tmps fop with
  | none => simp only [h2] at h; exact (M.fail_some (H := H) h).elim
  | some v =>
   cases v with
   | tup => simp only [h2] at h; exact (M.fail_some (H := H) h).elim
   | v p =>
    cases p <;> try (simp only [h2] at h; exact (M.fail_some (H := H) h).elim)
    rename_i c
    cases h3 : tvsO (ev tmps) al.toList with
    | none => simp only [h2, h3] at h; exact (M.fail_some (H := H) h).elim
    | some vs =>
     simp only [h2, h3] at h
     have hc : CR g w c (a.eval fop) := ev_ok ht h2
     have hvs := tvsO_ok ht h3
     have callF : ∀ (f : Nat) (caps : List C) (cus : Array Value) (l : List Nat), pCallF E nid f vs caps H = some (r, l) → a.eval fop = .func (.func f) #[] cus → F2 (CR g w) caps cus.toList →
       Runs P ⟨dst, .call ⟨.value fop, al, ts⟩, type, pos, after, guard⟩ a w (fun v w' => Good M0 w0 g H w nid e v w' ∧ w.heap.size ≤ w'.heap.size) := by
      intro f caps cus l hcall hfv' hcaps rr nn_ K Q hK
      unfold pCallF at hcall
      cases hfi : E.fi f with
      | none => rw [hfi] at hcall; exact (M.fail_some (H := H) hcall).elim
      | some fi =>
       rw [hfi] at hcall
       obtain ⟨x, l1, l2, h4, h5, _⟩ := M.bind_some hcall
       split at h5
       ·rename_i hap
        have hr := M.ret_some h5
        subst hr
        simp only at hact
        obtain ⟨fi', y, h6, h7, h8⟩ := hact
        rw [hfi] at h6
        cases h6
        have hus : F2 (TVR g w) (vs ++ caps.map one1) (al.toList.map a.eval ++ cus.toList) := F2.append hvs (onesO_F2 hcaps)
        have := call_ok hE hI hfv hfi h4 hap hus h7 h8 hn
        refine wpIn_ok (run_call rfl hfv' (hE.fi f fi hfi).1) (fun _ => by simp) ?_
        rw [Oper.uponIn_enter]
        refine ⟨fun hh => by rw [Fw_depth] at hh; simp at hh, Fw_calls ?_⟩
        rw [show al.map a.eval ++ cus = (al.toList.map a.eval ++ cus.toList).toArray by simp]
        refine this.mono ?_
        rintro en w' ⟨v, rfl, hG⟩
        exact hK v w' hG
       ·exact (M.fail_some (H := H) h5).elim
     cases c <;> try exact (M.fail_some (H := H) h).elim
     ·rename_i f
      exact callF f [] #[] l h hc trivial
     ·rename_i f id
      obtain ⟨ob, l1, l2, h4, h5, _⟩ := M.bind_some h
      have hid := M.get_some h4
      cases ob <;> try exact (M.fail_some h5).elim
      rename_i caps
      obtain ⟨us, e1, hus⟩ := hI.ob _ _ hid
      obtain ⟨us', e2, hu'⟩ := hc
      rw [e1] at e2; cases e2
      exact callF f caps _ l2 h5 hu' hus
     ·rename_i j
      simp only [pCallV] at h
      cases h4 : v1s vs with
      | none => rw [h4] at h; exact (M.fail_some (H := H) h).elim
      | some ws =>
       rw [h4] at h
       dsimp only at h
       split at h
       ·rename_i hns
        have hr := M.ret_some (H := H) h
        subst hr
        simp only at hact
        obtain ⟨gf, rs, h6, h7, h8⟩ := hact
        split at h8
        ·rename_i hns2
         cases h8
         obtain ⟨hc1, _⟩ : a.eval fop = g.fv j ∧ _ := hc
         obtain ⟨f, caps, h9, h10, h11⟩ := hfv.fn j gf h6
         intro rr nn_ K Q hK
         refine wpIn_ok (run_call rfl (hc1.trans h9) h10) (fun _ => by simp) ?_
         rw [Oper.uponIn_enter]
         refine ⟨fun hh => by rw [Fw_depth] at hh; simp at hh, Fw_calls ?_⟩
         have := h11 w (fun _ _ => rfl) (Nat.le_refl _) hI.tz ws rs h7 hns (al.toList.map a.eval) (noSlVs hns (v1s_ok h4 hvs))
         rw [show al.map a.eval ++ caps = (al.toList.map a.eval).toArray ++ caps by rw [← Array.toList_map, Array.toArray_toList]]
         refine this.mono ?_
         rintro en w' ⟨rv, rfl, _, hv, hk⟩
         refine hK rv w' ⟨?_, hk.size⟩
         have hfr := hI.frame (g' := g) (H' := H) (w' := w') (fun _ => False) (fun _ _ => rfl) (fun _ _ h => h.elim) (fun _ _ _ _ _ _ h => h.elim) (fun b p hl => .inl hl) (hk.mono fun _ _ h => h.elim) (Ext.refl g) hI.no
         have he : apH H nid ⟨tvOf (gf.enc rs), [], []⟩ = H := by
          funext i
          unfold apH
          rw [if_neg (fun hh => by have h1 := hh.1; have h2 : i < nid + 0 := hh.2; omega)]
          rfl
         exact ⟨g, by rw [he]; exact hfr.1, Ext.refl g, hfr.2, noSlT hns2 hv, hk.others⟩
        ·simp at h8
       ·exact (M.fail_some (H := H) h).elim
 ·obtain ⟨e', he'⟩ := pre_isD (fun fop al ts hh => hop ⟨fop, al, ts, hh⟩) H r l h
  rw [he'] at hact
  simp only at hact
  subst hact
  exact ops_done hE.tt hI ht hn h hg he'
theorem CR.frzS {id : Nat} {k : Kd} {xs : List (El k)} {m : List Nat} {b : Bool} {g' : Gh} (ho : ObR g w id (.arr k xs m b)) (hE : Ext g g') (hloc : g'.loc = g.loc) (hL : ∀ a n c j, g.loc id = .arr (some a) n c → j < xs.length * k.size → g'.L 0 (pl a j)) {c : C} {v : Value} (h : CR g w c v) : CR g' w (frzS id k xs m c) v := by
 have old : CR g' w c v := CR.ext hE (fun _ _ _ => rfl) c v h
 cases c <;> try exact old
 rename_i i
 show CR g' w (cond (Nat.beq i id) _ _) v
 cases hb : Nat.beq i id with
 | false => exact old
 | true =>
  obtain rfl := Nat.eq_of_beq_eq_true hb
  obtain ⟨A, n, cp, us, e, hx, hnc, hu, hcell⟩ := ho
  obtain ⟨A', n', c', e', rfl⟩ := h
  rw [e] at e'; cases e'
  refine ⟨A, n, cp, us, rfl, hx, hnc, Rows2.mono (ER.mono (fun p ⟨b, hb, hl⟩ => ⟨b, mem_un_r hb, hE.L _ _ hl⟩) (fun _ _ => rfl) k) hu, ?_⟩
  have hul := Rows2.len (ER.len k) hu
  rcases hcell with h0 | ⟨a, ha, hsp, h5, _⟩
  ·left
   have hx0 : xs.length = 0 := by omega
   rw [hx0] at hul
   exact List.eq_nil_of_length_eq_zero (by simpa using hul)
  ·refine .inr ⟨a, ha, hsp, fun j u hj => ⟨h5 j u hj, 0, mem_un_l (by simp), hL a n cp j (by rw [e, ha]) ?_⟩⟩
   rw [← hul]
   rcases Nat.lt_or_ge j us.length with h | h
   ·exact h
   ·rw [List.getElem?_eq_none h] at hj; simp at hj
theorem F2.map1 {α β : Type} {R R' : α → β → Prop} {f : α → α} (hf : ∀ a b, R a b → R' (f a) b) : ∀ {as : List α} {bs : List β}, F2 R as bs → F2 R' (as.map f) bs
 | [], [], _ => trivial
 | a :: as, b :: bs, h => ⟨hf a b h.1, F2.map1 hf h.2⟩
theorem V1R.map {g' : Gh} {f : C → C} (hf : ∀ c v, CR g w c v → CR g' w (f c) v) {x : V1} {v : Value} (h : V1R g w x v) : V1R g' w (mapV f x) v := by
 cases x with
 | one c => exact hf c v h
 | agg cs => obtain ⟨us, e, hu⟩ := h; exact ⟨us, e, F2.map1 hf hu⟩
 | vec n k xs => exact h
 | pbx => exact h.elim
theorem Good.frz1 {nid q : Nat} {e : Eff} {v : Value} {w' : World} (h : Good M0 w0 g H w nid e v w') : Good M0 w0 g H w nid (frz1 nid e q) v w' := by
 unfold Go.Proofs.YtdhifkdijlghdaaGreatDoorA.frz1
 split
 ·rename_i k xs m b hq
  obtain ⟨g', hI, hE, hL, hv, hko⟩ := h
  have hlt : q < e.news.length := by
   rcases Nat.lt_or_ge q e.news.length with h | h
   ·exact h
   ·rw [List.getElem?_eq_none h] at hq; simp at hq
  have hid : apH H nid e (nid + q) = some (.arr k xs m b) := by
   unfold apH
   rw [if_pos ⟨by omega, by omega⟩, Nat.add_sub_cancel_left]
   exact hq
  obtain ⟨g2, hI2, hE2, hloc, hL2⟩ := Good.freeze hI hid
  have hH : apH H nid ⟨mapT (frzS (nid + q) k xs m) e.val, e.upd, e.news.set q (.arr k xs m false)⟩ = fun i => if i = nid + q then some (.arr k xs m false) else apH H nid e i := by
   funext i
   unfold apH
   simp only [List.length_set]
   by_cases hi : i = nid + q
   ·subst hi
    rw [if_pos ⟨by omega, by omega⟩, if_pos rfl, Nat.add_sub_cancel_left]
    simp [hlt]
   ·rw [if_neg hi]
    by_cases hr : nid ≤ i ∧ i < nid + e.news.length
    ·rw [if_pos hr, if_pos hr, List.getElem?_set_ne (by omega)]
    ·rw [if_neg hr, if_neg hr]
  have hc : ∀ c u, CR g' w' c u → CR g2 w' (frzS (nid + q) k xs m c) u := fun c u hcu => CR.frzS (hI.ob _ _ hid) hE2 hloc hL2 hcu
  refine ⟨g2, by rw [hH]; exact hI2, hE.trans hE2, hL, ?_, hko⟩
  show TVR g2 w' (mapT (frzS (nid + q) k xs m) e.val) v
  cases hvv : e.val with
  | v x => rw [hvv] at hv; exact V1R.map hc hv
  | tup ys => rw [hvv] at hv; obtain ⟨us, e1, hu⟩ := hv; exact ⟨us, e1, F2.map1 (f := mapV (frzS (nid + q) k xs m)) (fun a b hab => V1R.map hc hab) hu⟩
 ·exact h
theorem frz1_len (nid : Nat) (e : Eff) (q : Nat) : (frz1 nid e q).news.length = e.news.length := by
 unfold frz1
 split <;> simp
theorem Good.frzL {nid : Nat} {v : Value} {w' : World} : ∀ (qs : List Nat) (e : Eff), Good M0 w0 g H w nid e v w' → Good M0 w0 g H w nid (qs.foldl (Go.Proofs.YtdhifkdijlghdaaGreatDoorA.frz1 nid) e) v w' ∧ (qs.foldl (Go.Proofs.YtdhifkdijlghdaaGreatDoorA.frz1 nid) e).news.length = e.news.length
 | [], e, h => ⟨h, rfl⟩
 | q :: qs, e, h => by
  obtain ⟨h1, h2⟩ := Good.frzL qs _ (Good.frz1 (q := q) h)
  exact ⟨h1, h2.trans (frz1_len nid e q)⟩
theorem frzE_len (nid : Nat) (e : Eff) : (frzE nid e).news.length = e.news.length := by
 unfold frzE
 generalize List.range e.news.length = qs
 induction qs generalizing e with
 | nil => rfl
 | cons q qs ih => exact (ih _).trans (frz1_len nid e q)
theorem ops_ok (hE : EOk P E) : OpsOk P E := by
 refine ⟨hE.tt, ?_⟩
 intro o a tmps nid M0 w0 w g H r l e hI hfv ht hn h hgo
 unfold pre at h
 cases hf : frzD E o with
 | false => rw [hf] at h; exact ops_ok0 hE o a tmps nid M0 w0 w g H r l e hI hfv ht hn h hgo
 | true =>
  rw [hf] at h
  have h : M.bind (pre0 E o (ev tmps) nid) (fun r => M.ret (r.frz nid)) H = some (r, l) := h
  obtain ⟨r0, l1, l2, h1, h2, _⟩ := M.bind_some h
  have hr := M.ret_some h2
  subst hr
  obtain ⟨e0, he0, rfl⟩ : ∃ e0, Goes E r0 e0 ∧ e = frzE nid e0 := by
   obtain ⟨hg, hact⟩ := hgo
   obtain ⟨g0, act⟩ := r0
   cases act with
   | done e0 => exact ⟨e0, ⟨hg, rfl⟩, (show frzE nid e0 = e from hact).symm⟩
   | call f args post =>
    obtain ⟨fi, y, k1, k2, k3⟩ := hact
    obtain ⟨e0, k4, k5⟩ := Option.map_eq_some_iff.1 k3
    exact ⟨e0, ⟨hg, fi, y, k1, k2, k4⟩, k5.symm⟩
   | callv j args post =>
    obtain ⟨gf, rs, k1, k2, k3⟩ := hact
    obtain ⟨e0, k4, k5⟩ := Option.map_eq_some_iff.1 k3
    exact ⟨e0, ⟨hg, gf, rs, k1, k2, k4⟩, k5.symm⟩
  rw [frzE_len] at hn
  have := ops_ok0 hE o a tmps nid M0 w0 w g H r0 l1 e0 hI hfv ht hn h1 he0
  intro rr nn_ K Q hK
  exact this rr nn_ K Q fun v w' ⟨hG, hs⟩ => hK v w' ⟨(Good.frzL _ e0 hG).1, hs⟩
theorem fok {f : Nat} {fn : Func} {c : Code} {fi : FI} {wy : Way} {h : List GV → Hint} (hm : P.follows .mixedOrders = true) (hE : EOk P E)
  (hf : P.funcs[f]? = some fn) (hn : (fn.name == "runtime.NumGoroutine") = false) (hb : fn.body = some c) (hnt : E.nt ≤ fn.ntmps)
  (hh : ∀ args a tvs hp xs gs, fi.sem args = some a → enter 0 0 0 args = some (tvs, hp, xs, gs) → HintOk P { E with gv := gs } c (h gs))
  (hr : ∀ args a, fi.sem args = some a → run E wy fn.results.toList c h args = some (fi.out a)) : FOk P f fi :=
 fok_of_run hm hE.tt (fun gs => ops_ok ⟨hE.tt, hE.fi⟩) hf hn hb hnt hh hr
end Go.Proofs.YtdhifkdijlghdaaGreatDoorA
