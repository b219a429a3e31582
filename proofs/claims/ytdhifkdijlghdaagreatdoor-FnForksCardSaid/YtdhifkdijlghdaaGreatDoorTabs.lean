/-
  What the listed package variables hold: as the small machine's tables. No condition.
-/
import Derived.Test.YtdhifkdijlghdaaGreatDoorARow
import Derived.Test.YtdhifkdijlghdaaGreatDoorRows
import Derived.Shelf.Vars
import Derived.Shelf.Strconv.Itoa3
import Derived.ProofKit
import Derived.OpenShut
import Derived.LaidMore
import Derived.Stop.Joined
import Derived.MakeChecks
namespace Go.Proofs.YtdhifkdijlghdaaGreatDoorA
open Go Go.Proofs.YtdhifkdijlghdaaGreatDoor
set_option linter.unusedVariables false
set_option linter.unusedSimpArgs false
theorem laidVars_mem {P : Program} {w : World} : ∀ {laid : List (String × DataW Unit)} {ps : List MemPlace}, DataW.LaidVars P w laid ps → ∀ n d, (n, d) ∈ laid →
  ∃ g t cs fuel p, P.globalNamed n = some g ∧ (P.globals[g]?).map (·.type) = some t ∧ w.var? P n = some cs ∧ DataW.trod (fun _ => ()) P w 0 (fun _ => true) false fuel t cs.toList = some (d, p)
 | [], _, _, n, d, h => by simp at h
 | (n', d') :: r, ps, hv, n, d, h => by
  obtain ⟨g, t, cs, fuel, p, q, h1, h2, h3, h4, h5, _⟩ := hv
  rcases List.mem_cons.1 h with e | h
  ·obtain ⟨rfl, rfl⟩ := Prod.mk.inj e
   exact ⟨g, t, cs, fuel, p, h1, h2, h3, h4⟩
  ·exact laidVars_mem h5 n d h
theorem var_heap {P : Program} {w : World} {n : String} {g : Nat} {cs : Array Value} (hg : P.globalNamed n = some g) (hv : w.var? P n = some cs) : ∃ e fz, w.heap[g]? = some (.cells cs e fz) := by
 unfold World.var? at hv
 rw [hg, Option.bind_some] at hv
 split at hv
 ·rename_i c e fz hh
  obtain rfl := Option.some.inj hv
  exact ⟨e, fz, hh⟩
 ·cases hv
theorem trod_err {P : Program} {w : World} {t fuel : Nat} {cs : List Value} {x : DataW Unit × List MemPlace} {ms : List (String × TypeId)} (ht : P.underlying t = some (.interface ms.toArray))
  (h : DataW.trod (fun _ => ()) P w 0 (fun _ => true) false fuel t cs = some x) : ∃ v, cs = [v] ∧ (v = .nilIface ∨ ∃ te pe, v = .iface te pe) := by
 cases fuel with
 | zero => simp [DataW.trod] at h
 | succ m =>
  unfold DataW.trod at h
  rw [ht] at h
  split at h <;> simp_all
theorem tab_of {W : World} (hsh : W.ShapedOpen Tryz.prog) (hL : laidMetH Tryz.prog Rows.fnForksRow.laid W) : Tab (Old W) W ∧ TabZ W := by
 rw [MakeChecks.laidMetH_plain _ _ _ (by kernel_rfl)] at hL
 obtain ⟨ps, hv, _, _⟩ := hL
 obtain ⟨m0, c0⟩ := cell_of_shapedOpen_int (zero := #[.int .i64 0]) (t := 3) (k := .i64) (g := 0) hsh (of_decide_eq_true (by kernel_rfl)) (by kernel_rfl) rfl (by kernel_rfl) (by kernel_rfl) Tryz.underlying3
 obtain ⟨cs0, z0, y0, _⟩ := hsh.1 0 #[.int .i64 0] 3 (of_decide_eq_true (by kernel_rfl)) (by kernel_rfl)
 have err : ∀ (n : String) (d : DataW Unit) (g : Nat), (n, d) ∈ Rows.fnForksRow.laid → Tryz.prog.globalNamed n = some g → (Tryz.prog.globals[g]?).map (·.type) = some 185 → ∃ v e, (v = .nilIface ∨ ∃ te pe, v = .iface te pe) ∧ W.cell? ⟨g, 0, none⟩ = some v ∧ W.shape? g = some (e, 1) := by
  intro n d g hm hn ht
  obtain ⟨g', t, cs, fuel, p, h1, h2, h3, h4⟩ := laidVars_mem hv n d hm
  obtain rfl := Option.some.inj (hn.symm.trans h1)
  obtain rfl := Option.some.inj (ht.symm.trans h2)
  obtain ⟨v, ev, hv2⟩ := trod_err Tryz.underlying185 h4
  obtain ⟨e, fz, hh⟩ := var_heap h1 h3
  obtain rfl : cs = #[v] := by
   apply Array.ext'
   simpa using ev
  exact ⟨v, e, hv2, by simp [World.cell?, hh], by simp [World.shape?, hh]⟩
 obtain ⟨v1, t1, e1, c1, s1⟩ := err "strconv.ErrSyntax" _ 1 (List.mem_cons_of_mem _ (List.mem_cons_of_mem _ (List.mem_cons_of_mem _ (List.mem_cons_of_mem _ (List.mem_cons_of_mem _ (List.mem_cons_self ..)))))) (by kernel_rfl) (by kernel_rfl)
 obtain ⟨v2, t2, e2, c2, s2⟩ := err "strconv.ErrRange" _ 2 (List.mem_cons_of_mem _ (List.mem_cons_of_mem _ (List.mem_cons_of_mem _ (List.mem_cons_of_mem _ (List.mem_cons_self ..))))) (by kernel_rfl) (by kernel_rfl)
 obtain ⟨g, t, cs, fuel, p, h1, h2, h3, h4⟩ := laidVars_mem hv "internal/strconv.uint64pow10" Rows.laid_internal_strconv_uint64pow10 (List.mem_cons_of_mem _ (List.mem_cons_of_mem _ (List.mem_cons_self ..)))
 obtain rfl := Option.some.inj ((show Tryz.prog.globalNamed "internal/strconv.uint64pow10" = some 3 by kernel_rfl).symm.trans h1)
 obtain rfl := Option.some.inj ((show (Tryz.prog.globals[3]?).map (·.type) = some 355 by kernel_rfl).symm.trans h2)
 obtain ⟨e5, fz5, hh⟩ := var_heap h1 h3
 obtain ⟨xs, m, _, ex, hcl, hl, hel⟩ := DataW.trod_array Tryz.underlying355 h4
 have kU : Tryz.prog.cellsOf 326 = 1 := by kernel_rfl
 have kArr : Tryz.prog.cellsOf 355 = 20 := by kernel_rfl
 have h20 : Lib.pow10Tab.length = 20 := rfl
 have e3 : (xs.map (·.1)) = Lib.pow10Tab.map fun n => .lit (.int .u64 n) := (DataW.agg.inj (Prod.mk.inj ex).1).symm
 have c5 : ∀ j, j < 20 → W.cell? ⟨3, j, none⟩ = some (.int .u64 (Lib.pow10Tab.getD j 0)) := by
  intro j hj
  have hE := hel j hj
  rw [kU, Nat.mul_one, List.getElem?_eq_getElem (by omega)] at hE
  obtain ⟨z, f1, f2, _⟩ := DataW.trod_int Tryz.underlying326 hE
  have e4 : (xs.map (·.1))[j]? = (Lib.pow10Tab.map fun n => (DataW.lit (.int .u64 n) : DataW Unit))[j]? := by rw [e3]
  rw [List.getElem?_map, List.getElem?_map, List.getElem?_eq_getElem (by omega : j < xs.length), List.getElem?_eq_getElem (by omega : j < Lib.pow10Tab.length), f2] at e4
  have hz : z = Lib.pow10Tab.getD j 0 := by
   simp only [Option.map_some, Option.some.injEq, DataW.lit.injEq, Lit.int.injEq, true_and] at e4
   rw [e4, List.getD, List.getElem?_eq_getElem (by omega : j < Lib.pow10Tab.length)]; rfl
  rw [← hz]
  have : cs.toList[j]? = some (.int .u64 z) := by
   have h0 : ((cs.toList.drop j).take 1)[0]? = some (.int .u64 z) := by rw [f1]; rfl
   simpa using h0
  simpa [World.cell?, hh] using this
 have htabs : tabs = [(0, [.i64]), (1, [.err]), (2, [.err]), (3, Lib.pow10Tab.map TC.u64)] := rfl
 have old : ∀ {b j : Nat} {v : Value}, W.cell? ⟨b, j, none⟩ = some v → Old W ⟨b, j, none⟩ := fun h => ⟨by rw [h]; rfl, rfl⟩
 have one : ∀ {j : Nat} {c c' : TC}, ([c] : List TC)[j]? = some c' → j = 0 ∧ c' = c := fun {j c c'} h => by
  cases j with
  | zero => simp at h; exact ⟨rfl, h.symm⟩
  | succ j => simp at h
 constructor
 ·intro x hx j c hc
  rw [htabs] at hx
  simp only [List.mem_cons, List.not_mem_nil, or_false] at hx
  rcases hx with rfl | rfl | rfl | rfl
  ·obtain ⟨rfl, rfl⟩ := one hc
   exact ⟨old c0, _, c0, _, rfl⟩
  ·obtain ⟨rfl, rfl⟩ := one hc
   exact ⟨old c1, _, c1, e1⟩
  ·obtain ⟨rfl, rfl⟩ := one hc
   exact ⟨old c2, _, c2, e2⟩
  ·dsimp only at hc
   have hj : j < 20 := by
    rcases Nat.lt_or_ge j 20 with h | h
    ·exact h
    ·rw [List.getElem?_eq_none (by rw [List.length_map]; omega)] at hc; cases hc
   rw [List.getElem?_map, List.getElem?_eq_getElem (by omega : j < Lib.pow10Tab.length)] at hc
   obtain rfl := Option.some.inj hc
   have := c5 j hj
   rw [List.getD_eq_getElem?_getD, List.getElem?_eq_getElem (by omega : j < Lib.pow10Tab.length)] at this
   exact ⟨old this, _, this, rfl⟩
 ·intro x hx
  rw [htabs] at hx
  simp only [List.mem_cons, List.not_mem_nil, or_false] at hx
  rcases hx with rfl | rfl | rfl | rfl
  ·exact ⟨3, by simp [World.shape?, z0]; exact y0⟩
  ·exact ⟨_, s1⟩
  ·exact ⟨_, s2⟩
  ·refine ⟨e5, ?_⟩
   have : cs.size = 20 := by have := hcl; rw [kArr] at this; simpa using this
   simp [World.shape?, hh, this, h20]
theorem returnsInHanded_of_change_tabs {H : Type} {enc : TypeId × Value → H} {a : Assume} {C : Checked} {os : Os} {f : FuncId} {fn : Func} {s : ChangeSpec} {conds : List PathCond} {apart fresh handsOn again : Bool} {X : World → Array Value → Prop}
  (hX : ∀ (w w' : World) (args : Array Value), w.heap = w'.heap → X w args → X w' args)
  (own : ownKnob C.prog.godebug = none) (started : os.Started) (noInit : C.prog.inits.idxOf? f = none) (hfn : C.prog.funcs[f]? = some fn)
  (witness : ∃ (w : World) (tape : Tape) (i : Input), w.os = os ∧ (w.forCall tape i).Shaped C.prog ∧ i.vars = [] ∧ Input.okWide C.prog (w.forCall tape i) .any w.heap.size f i ∧
   ((s.pre enc C.prog fn conds apart (w.forCall tape i).memory i.args ∧ X (w.forCall tape i).memory i.args) ∧ sizedMet enc C.prog fn (OpenSpec.ofChange s) apart (w.forCall tape i).memory i.args) ∧ a.holds C.prog (lone (Frame.enter C.prog f i.args .normal) [] (w.forCall tape i)))
  (contract : ∀ (W : World) (base : Nat) (args : Array Value) (ds gs : List (DataW H)) (before : List MemPlace),
   (∀ (j : Nat) t v, fn.params[j]? = some t → args[j]? = some v → Value.okWide C.prog W .any base t v) →
   DataW.Whole enc C.prog fn.params.toList s.vars apart W args.toList ds gs before →
   conds.all (PathCond.test C.prog ⟨fn.params.toList, ds, s.plain.varTypes C.prog, gs⟩) = true →
   (DataW.weightsEach C.prog (fn.params.toList ++ s.plain.varTypes C.prog) (ds ++ gs)).all (· ≤ reachBytes) = true → X W args ∧ W.ShapedOpen C.prog →
   a.holds C.prog (lone (Frame.enter C.prog f args .normal) [] W) →
   Calls C.prog f args W fun e W' => ∃ v, e = .returned v ∧ s.post enc C.prog fn apart fresh handsOn again W args v W') :
  ReturnsInHanded a C os f .any (fun w args => (s.pre enc C.prog fn conds apart w args ∧ X w args) ∧ sizedMet enc C.prog fn (OpenSpec.ofChange s) apart w args) (s.post enc C.prog fn apart fresh handsOn again) := by
 refine returnsInHanded_of_calls own started noInit witness ?_
 intro w tape i _ hsh _ hok hpre hholds
 obtain ⟨_, _, _, fn', hfn', _, _, _, _, hval⟩ := hok
 obtain rfl : fn' = fn := Option.some.inj (hfn'.symm.trans hfn)
 obtain ⟨⟨⟨ds, gs, before, hw, hc⟩, hx⟩, hz⟩ := hpre
 refine (contract (w.forCall tape i) w.heap.size i.args ds gs before hval (DataW.Whole.of_heap (w' := w.forCall tape i) (by rfl) hw) hc (hz.weights hw) ⟨hX _ _ _ (by rfl) hx, hsh⟩ hholds).mono fun e W' ⟨v, he, hp⟩ => ?_
 subst he
 exact ChangeSpec.post_blind hp
end Go.Proofs.YtdhifkdijlghdaaGreatDoorA
