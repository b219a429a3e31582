/-
  Back to the caller: cells and objects under the caller's numbers. No condition.
-/
import Derived.Test.YtdhifkdijlghdaaGreatDoorACodeA
namespace Go.Proofs.YtdhifkdijlghdaaGreatDoorA
open Go
set_option linter.unusedVariables false
set_option linter.unusedSimpArgs false
variable {P : Program} {E : Env} {M0 : Addr → Prop} {w0 w : World} {g : Gh} {H : Nat → Option Ob} {tr : List Nat → List Nat} {g2 : Gh} {ms : List Nat}
structure Bk (tr : List Nat → List Nat) (ms : List Nat) (g2 g' : Gh) : Prop where
 tr : ∀ m, (∀ b ∈ m, b ∈ ms) → ∀ p, SM g2.L m p → SM g'.L (tr m) p
 l0 : ∀ p, g2.L 0 p → g'.L 0 p
def Mv (g2 g' : Gh) (w : World) (j i : Nat) (o o' : Ob) : Prop := (ObR g2 w j o → ObR g' w i o') ∧ ∀ p, MR g' i o' p → MR g2 j o p
theorem Mv.arr {g' : Gh} (hb : Bk tr ms g2 g') {m : List Nat} (hm : ∀ b ∈ m, b ∈ ms) {j i : Nat} (hl : g'.loc i = g2.loc j) (k : Kd) (xs : List (El k)) (x : Bool) : Mv g2 g' w j i (.arr k xs (nm k m) x) (.arr k xs (nm k (tr m)) x) := by
 refine ⟨fun ⟨A, n, c, us, e, h1, h2, h3, h4⟩ => ⟨A, n, c, us, by rw [hl, e], h1, h2, ?_, ?_⟩, fun p ⟨a, n, c, q, e, h1, h2, h3⟩ => ⟨a, n, c, q, by rw [← hl, e], h1, h2, h3⟩⟩
 ·refine Rows2.mono (fun y z hyz => ?_) h3
  cases hf : k.flat with
  | true => exact ER.flat k y z hf hyz
  | false =>
   simp only [nm, hf] at hyz ⊢
   exact ER.mono (fun p hp => hb.tr m hm p hp) (fun _ _ => rfl) k y z hyz
 ·rcases h4 with h4 | ⟨a, ha, hsp, h5, h6, h7⟩
  ·exact .inl h4
  ·exact .inr ⟨a, ha, hsp, h5, h6, fun hx q hq => hb.l0 _ (h7.1 hx q hq), h7.2⟩
def Mvs (g2 g' : Gh) (w : World) (nc nid : Nat) (n n' : List Ob) : Prop := ∀ (q : Nat) o', n'[q]? = some o' → ∃ o, n[q]? = some o ∧ Mv g2 g' w (nc + q) (nid + q) o o'
theorem Mvs.nil {g' : Gh} (nc nid : Nat) : Mvs g2 g' w nc nid [] [] := fun q o' h => by simp at h
theorem Mvs.app {g' : Gh} {nc nid : Nat} {n n' m m' : List Ob} (hl : n'.length = n.length) (h : Mvs g2 g' w nc nid n n') (k : Mvs g2 g' w (nc + n.length) (nid + n'.length) m m') : Mvs g2 g' w nc nid (n ++ m) (n' ++ m') := by
 intro q o' hq
 rcases Nat.lt_or_ge q n'.length with hlt | hge
 ·rw [List.getElem?_append_left hlt] at hq
  obtain ⟨o, h1, h2⟩ := h q o' hq
  exact ⟨o, by rw [List.getElem?_append_left (by omega)]; exact h1, h2⟩
 ·rw [List.getElem?_append_right hge] at hq
  obtain ⟨o, h1, h2⟩ := k _ o' hq
  refine ⟨o, by rw [List.getElem?_append_right (by omega), ← hl]; exact h1, ?_⟩
  rwa [show nc + n.length + (q - n'.length) = nc + q by omega, show nid + n'.length + (q - n'.length) = nid + q by omega] at h2
def Locs (g2 g' : Gh) (nc nid len : Nat) : Prop := ∀ q, q < len → g'.loc (nid + q) = g2.loc (nc + q)
theorem Locs.left {g' : Gh} {nc nid a b : Nat} (h : Locs g2 g' nc nid (a + b)) : Locs g2 g' nc nid a := fun q hq => h q (by omega)
theorem Locs.right {g' : Gh} {nc nid a b : Nat} (h : Locs g2 g' nc nid (a + b)) : Locs g2 g' (nc + a) (nid + a) b := fun q hq => by
 have := h (a + q) (by omega)
 rwa [← Nat.add_assoc, ← Nat.add_assoc] at this
theorem imC_tr {c c2 : C} {n : List Ob} {nc : Nat} (h : imC id nc c = some (c2, n)) (hc : ∀ b ∈ maskC c, b ∈ ms) (nid : Nat) : ∃ c3 n3, imC tr nid c = some (c3, n3) ∧ n3.length = n.length ∧
  ∀ g', Bk tr ms g2 g' → Locs g2 g' nc nid n.length → (∀ v, CR g2 w c2 v → CR g' w c3 v) ∧ Mvs g2 g' w nc nid n n3 := by
 cases c <;> simp only [imC] at h <;> (try simp only [Option.some.injEq, Prod.mk.injEq] at h) <;> (try obtain ⟨rfl, rfl⟩ := h)
 ·exact ⟨_, _, rfl, rfl, fun g' _ _ => ⟨fun v hv => hv, Mvs.nil _ _⟩⟩
 ·exact ⟨_, _, rfl, rfl, fun g' _ _ => ⟨fun v hv => hv, Mvs.nil _ _⟩⟩
 ·exact ⟨_, _, rfl, rfl, fun g' _ _ => ⟨fun v hv => hv, Mvs.nil _ _⟩⟩
 ·rename_i m k xs
  exact ⟨_, _, rfl, rfl, fun g' hb _ => ⟨fun v hv => ER.mono (fun p hp => hb.tr m hc p hp) (fun _ _ => rfl) _ _ _ hv, Mvs.nil _ _⟩⟩
 ·rename_i m k xs x
  refine ⟨_, _, rfl, rfl, fun g' hb hl => ⟨fun v ⟨A, n, c, e, hv⟩ => ⟨A, n, c, by have := hl 0 (by simp); simp only [Nat.add_zero] at this; rw [this, e], hv⟩, fun q o' hq => ?_⟩⟩
  cases q with
  | succ q => simp at hq
  | zero =>
   simp at hq; subst hq
   exact ⟨_, rfl, Mv.arr hb hc (hl 0 (by simp)) k xs x⟩
theorem imCs_tr : ∀ {cs cs2 : List C} {n : List Ob} {nc : Nat}, imCs id nc cs = some (cs2, n) → (∀ b ∈ maskCs cs, b ∈ ms) → ∀ nid, ∃ cs3 n3, imCs tr nid cs = some (cs3, n3) ∧ n3.length = n.length ∧ cs3.length = cs2.length ∧ cs3.length = cs.length ∧
  ∀ g', Bk tr ms g2 g' → Locs g2 g' nc nid n.length → (∀ us, F2 (CR g2 w) cs2 us → F2 (CR g' w) cs3 us) ∧ Mvs g2 g' w nc nid n n3
 | [], cs2, n, nc, h, hc, nid => by
  simp only [imCs, Option.some.injEq, Prod.mk.injEq] at h
  obtain ⟨rfl, rfl⟩ := h
  exact ⟨[], [], rfl, rfl, rfl, rfl, fun g' _ _ => ⟨fun us h => by match us, h with | [], _ => exact trivial, Mvs.nil _ _⟩⟩
 | c :: cs, cs2, n, nc, h, hc, nid => by
  simp only [imCs] at h
  cases h1 : imC id nc c with
  | none => rw [h1] at h; simp at h
  | some x =>
   obtain ⟨c2, n1⟩ := x
   rw [h1] at h
   dsimp only at h
   cases h2 : imCs id (nc + n1.length) cs with
   | none => rw [h2] at h; simp at h
   | some y =>
    obtain ⟨cs2', n2⟩ := y
    rw [h2] at h
    simp only [Option.some.injEq, Prod.mk.injEq] at h
    obtain ⟨rfl, rfl⟩ := h
    obtain ⟨c3, n3, e1, e2, e3⟩ := imC_tr (tr := tr) (g2 := g2) (w := w) (ms := ms) h1 (fun b hb => hc b (by simp [maskCs, hb])) nid
    obtain ⟨cs3, n3', f1, f2, f3, f3', f4⟩ := imCs_tr h2 (fun b hb => hc b (by simp only [maskCs, List.flatMap_cons, List.mem_append]; exact .inr hb)) (nid + n3.length)
    refine ⟨c3 :: cs3, n3 ++ n3', by simp only [imCs, e1, f1], by simp [e2, f2], by simp [f3], by simp [f3'], fun g' hb hl => ?_⟩
    rw [List.length_append] at hl
    obtain ⟨a1, a2⟩ := e3 g' hb hl.left
    obtain ⟨b1, b2⟩ := f4 g' hb (by rw [e2]; exact hl.right)
    refine ⟨fun us h => ?_, a2.app e2 b2⟩
    match us, h with
    | u :: us, h => exact ⟨a1 u h.1, b1 us h.2⟩
theorem imV_tr {x x2 : V1} {n : List Ob} {nc : Nat} (h : imV id nc x = some (x2, n)) (hc : ∀ b ∈ maskV x, b ∈ ms) (nid : Nat) : ∃ x3 n3, imV tr nid x = some (x3, n3) ∧ n3.length = n.length ∧
  ∀ g', Bk tr ms g2 g' → Locs g2 g' nc nid n.length → (∀ v, V1R g2 w x2 v → V1R g' w x3 v) ∧ Mvs g2 g' w nc nid n n3 := by
 cases x with
 | one c =>
  obtain ⟨⟨c2, n1⟩, h1, h2⟩ := Option.map_eq_some_iff.1 h
  simp only [Prod.mk.injEq] at h2
  obtain ⟨rfl, rfl⟩ := h2
  obtain ⟨c3, n3, e1, e2, e3⟩ := imC_tr (tr := tr) (g2 := g2) (w := w) (ms := ms) h1 hc nid
  exact ⟨.one c3, n3, by simp [imV, e1], e2, e3⟩
 | agg cs =>
  obtain ⟨⟨c2, n1⟩, h1, h2⟩ := Option.map_eq_some_iff.1 h
  simp only [Prod.mk.injEq] at h2
  obtain ⟨rfl, rfl⟩ := h2
  obtain ⟨c3, n3, e1, e2, _, _, e3⟩ := imCs_tr (tr := tr) (g2 := g2) (w := w) (ms := ms) h1 hc nid
  exact ⟨.agg c3, n3, by simp [imV, e1], e2, fun g' hb hl => ⟨fun v ⟨us, e, hu⟩ => ⟨us, e, (e3 g' hb hl).1 _ hu⟩, (e3 g' hb hl).2⟩⟩
 | vec n0 k xs =>
  simp only [imV] at h
  split at h
  ·rename_i hf
   simp only [Option.some.injEq, Prod.mk.injEq] at h
   obtain ⟨rfl, rfl⟩ := h
   exact ⟨.vec n0 k xs, [], by simp [imV, hf], rfl, fun g' _ _ => ⟨fun v hv => hv, Mvs.nil _ _⟩⟩
  ·simp at h
 | pbx cs =>
  obtain ⟨⟨c2, n1⟩, h1, h2⟩ := Option.map_eq_some_iff.1 h
  simp only [Prod.mk.injEq] at h2
  obtain ⟨rfl, rfl⟩ := h2
  obtain ⟨c3, n3, e1, e2, e3, e4, e5⟩ := imCs_tr (tr := tr) (g2 := g2) (w := w) (ms := ms) h1 hc (nid + 1)
  have hl1 : ∀ g', Locs g2 g' nc nid (n1.length + 1) → Locs g2 g' (nc + 1) (nid + 1) n1.length := fun g' hl q hq => by
   have := hl (q + 1) (by omega)
   rwa [show nid + (q + 1) = nid + 1 + q by omega, show nc + (q + 1) = nc + 1 + q by omega] at this
  refine ⟨.one (.bptr nid 0), .box c3 :: n3, by simp [imV, e1], by simp [e2], fun g' hb hl => ?_⟩
  have hl0 : g'.loc nid = g2.loc nc := hl 0 (by simp)
  have hl2 := hl1 g' (by simpa using hl)
  refine ⟨fun v ⟨a, e, hv⟩ => ⟨a, by rw [hl0, e], hv⟩, fun q o' hq => ?_⟩
  cases q with
  | zero =>
   simp at hq; subst hq
   exact ⟨_, rfl, fun ⟨a, us, e, hu, hcl⟩ => ⟨a, us, by rw [Nat.add_zero, hl0]; exact e, (e5 g' hb hl2).1 us hu, hcl⟩, fun p ⟨a, j, e, hj, hp⟩ => ⟨a, j, by rw [Nat.add_zero, hl0] at e; exact e, by omega, hp⟩⟩
  | succ q =>
   obtain ⟨o, h1', h2'⟩ := (e5 g' hb hl2).2 q o' (by simpa using hq)
   refine ⟨o, by simpa using h1', ?_⟩
   rwa [show nid + (q + 1) = nid + 1 + q by omega, show nc + (q + 1) = nc + 1 + q by omega]
theorem imVs_tr : ∀ {cs cs2 : List V1} {n : List Ob} {nc : Nat}, imVs id nc cs = some (cs2, n) → (∀ b ∈ cs.flatMap maskV, b ∈ ms) → ∀ nid, ∃ cs3 n3, imVs tr nid cs = some (cs3, n3) ∧ n3.length = n.length ∧ cs3.length = cs2.length ∧
  ∀ g', Bk tr ms g2 g' → Locs g2 g' nc nid n.length → (∀ us, F2 (V1R g2 w) cs2 us → F2 (V1R g' w) cs3 us) ∧ Mvs g2 g' w nc nid n n3
 | [], cs2, n, nc, h, hc, nid => by
  simp only [imVs, Option.some.injEq, Prod.mk.injEq] at h
  obtain ⟨rfl, rfl⟩ := h
  exact ⟨[], [], rfl, rfl, rfl, fun g' _ _ => ⟨fun us h => by match us, h with | [], _ => exact trivial, Mvs.nil _ _⟩⟩
 | c :: cs, cs2, n, nc, h, hc, nid => by
  simp only [imVs] at h
  cases h1 : imV id nc c with
  | none => rw [h1] at h; simp at h
  | some x =>
   obtain ⟨c2, n1⟩ := x
   rw [h1] at h
   dsimp only at h
   cases h2 : imVs id (nc + n1.length) cs with
   | none => rw [h2] at h; simp at h
   | some y =>
    obtain ⟨cs2', n2⟩ := y
    rw [h2] at h
    simp only [Option.some.injEq, Prod.mk.injEq] at h
    obtain ⟨rfl, rfl⟩ := h
    obtain ⟨c3, n3, e1, e2, e3⟩ := imV_tr (tr := tr) (g2 := g2) (w := w) (ms := ms) h1 (fun b hb => hc b (by simp [hb])) nid
    obtain ⟨cs3, n3', f1, f2, f3, f4⟩ := imVs_tr h2 (fun b hb => hc b (by rw [List.flatMap_cons, List.mem_append]; exact .inr hb)) (nid + n3.length)
    refine ⟨c3 :: cs3, n3 ++ n3', by simp only [imVs, e1, f1], by simp [e2, f2], by simp [f3], fun g' hb hl => ?_⟩
    rw [List.length_append] at hl
    obtain ⟨a1, a2⟩ := e3 g' hb hl.left
    obtain ⟨b1, b2⟩ := f4 g' hb (by rw [e2]; exact hl.right)
    refine ⟨fun us h => ?_, a2.app e2 b2⟩
    match us, h with
    | u :: us, h => exact ⟨a1 u h.1, b1 us h.2⟩
theorem tvOf_tr {g' : Gh} {vs vs' : List V1} (hl : vs'.length = vs.length) (h : ∀ us, F2 (V1R g2 w) vs us → F2 (V1R g' w) vs' us) {v : Value} (hv : TVR g2 w (tvOf vs) v) : TVR g' w (tvOf vs') v := by
 match vs, vs', hl, h, hv with
 | [], [], _, h, ⟨us, e, hu⟩ => exact ⟨us, e, h _ hu⟩
 | [x], [y], _, h, hv => exact (h [v] ⟨hv, trivial⟩).1
 | x :: x' :: vs, y :: y' :: vs', _, h, ⟨us, e, hu⟩ => exact ⟨us, e, h _ hu⟩
theorem backOwn_ok : ∀ {own : List (Nat × Bool)} {io : List C} {u : List (Nat × Ob)} {nc : Nat}, backOwn tr own io = some u → (∀ b ∈ maskCs io, b ∈ ms) → ∃ cs2 n, imCs id nc io = some (cs2, n) ∧ n.length = own.length ∧ io.length = own.length ∧ (∀ x ∈ own, ∃ o, (x.1, o) ∈ u) ∧
  ∀ i o', (i, o') ∈ u → ∃ (q : Nat) (oq : Ob) (b : Bool), own[q]? = some (i, b) ∧ n[q]? = some oq ∧ ∀ g', Bk tr ms g2 g' → g'.loc i = g2.loc (nc + q) → Mv g2 g' w (nc + q) i oq o'
 | [], [], u, nc, h, hm => by
  simp only [backOwn, Option.some.injEq] at h
  subst h
  exact ⟨[], [], rfl, rfl, rfl, fun x hx => by simp at hx, fun i o h => by simp at h⟩
 | (id0, true) :: own, c :: io, u, nc, h, hm => by
  cases c <;> first | (simp [backOwn] at h; done) | skip
  rename_i m k xs x
  simp only [backOwn] at h
  obtain ⟨u', h1, rfl⟩ := Option.map_eq_some_iff.1 h
  obtain ⟨cs2, n, e1, e2, e3, e4, e5⟩ := backOwn_ok (nc := nc + 1) h1 (fun b hb => hm b (by simp only [maskCs, List.flatMap_cons, List.mem_append]; exact .inr hb))
  refine ⟨.slo nc :: cs2, .arr k xs (nm k m) x :: n, by simp only [imCs, imC, List.length_cons, List.length_nil, Nat.zero_add]; rw [e1]; rfl, by simp [e2], by simp [e3], fun y hy => ?_, fun i o' hi => ?_⟩
  ·rcases List.mem_cons.1 hy with rfl | hy
   ·exact ⟨_, List.mem_cons_self ..⟩
   ·obtain ⟨o, ho⟩ := e4 y hy
    exact ⟨o, List.mem_cons_of_mem _ ho⟩
  ·rcases List.mem_cons.1 hi with hi | hi
   ·simp only [Prod.mk.injEq] at hi
    obtain ⟨rfl, rfl⟩ := hi
    exact ⟨0, _, true, rfl, rfl, fun g' hb hl => Mv.arr hb (fun b hb' => hm b (by simp [maskCs, maskC, hb'])) hl k xs x⟩
   ·obtain ⟨q, oq, b, h2, h3, h4⟩ := e5 i o' hi
    refine ⟨q + 1, oq, b, by simpa using h2, by simpa using h3, fun g' hb hl => ?_⟩
    rw [show nc + (q + 1) = nc + 1 + q by omega] at hl ⊢
    exact h4 g' hb hl
 | [], _ :: _, u, nc, h, hm => by simp [backOwn] at h
 | (_, false) :: _, _, u, nc, h, hm => by simp [backOwn] at h
 | (_, true) :: _, [], u, nc, h, hm => by simp [backOwn] at h
end Go.Proofs.YtdhifkdijlghdaaGreatDoorA
