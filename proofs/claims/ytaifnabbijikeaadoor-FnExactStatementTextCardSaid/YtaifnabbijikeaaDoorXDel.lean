/-
  What slices.DeleteFunc leaves, and the built-in clear at elements of several cells. Without any program.
  Own text of this seat (a session's); YtaifnabbijikeaaDoor stands for the seat's name.
-/
import Derived.Test.YtaifnabbijikeaaDoorXFn
import Derived.Test.YtaifnabbijikeaaDoorWApart
import Derived.Lib.SliceRun
import Derived.Laws.IdiomCopy
set_option linter.unusedVariables false
set_option linter.unusedSimpArgs false
namespace Go.Proofs.YtaifnabbijikeaaDoorX
open Go.RowKit Go.Proofs.YtaifnabbijikeaaDoorW.PrintWords
/-- Asked of a predicate, whatever the world is, if it is one of those of J. -/
def PredW {α : Type} (P : Program) (g : Nat) (lb : Array Value) (d : Kd α) (mk : List Value → Value) (p : α → Option Bool) (l : List α) (J : World → Prop) : Prop :=
  ∀ x, x ∈ l → ∀ b, p x = some b → ∀ W cs, J W → d.K W x cs → Calls P g (#[mk cs] ++ lb) W fun e w' => e = .returned (.bool b) ∧ Below W.heap.size W w'
theorem PredW.toK {α : Type} {P : Program} {g : Nat} {lb : Array Value} {d : Kd α} {mk : List Value → Value} {p : α → Option Bool} {l : List α} {w : World} {J : World → Prop} (h : PredW P g lb d mk p l J) (hJ : ∀ W, Below w.heap.size w W → J W) : PredK P g lb d mk p l w :=
  fun x hx b hb W cs hW hK => (h x hx b hb W cs (hJ W hW) hK).mono fun e w' h' => ⟨h'.1, below_step hW h'.2⟩
/-- What is left behind DeleteFunc: those of which p does not hold. -/
def keepO {α : Type} (p : α → Option Bool) : List α → Option (List α)
  | [] => some []
  | x :: xs => (p x).bind fun b => (keepO p xs).map fun r => if b = true then r else x :: r
theorem keepO_mono {α : Type} {p q : α → Option Bool} (h : ∀ x, LeO (p x) (q x)) : ∀ (l : List α), LeO (keepO p l) (keepO q l)
  | [] => LeO.refl _
  | x :: xs => LeO.bind (h x) (fun b => LeO.map _ (keepO_mono h xs))
theorem keepO_total {α : Type} {p : α → Option Bool} {q : α → Bool} : ∀ (l : List α), (∀ x ∈ l, p x = some (q x)) → keepO p l = some (l.filter fun x => !q x)
  | [], _ => rfl
  | x :: xs, h => by
    have hx := h x List.mem_cons_self
    have ih := keepO_total (p := p) (q := q) xs (fun y hy => h y (List.mem_cons_of_mem _ hy))
    simp only [keepO, hx, ih, Option.bind_some, Option.map_some, List.filter_cons]
    cases q x <;> rfl
theorem keepO_step {α : Type} {p : α → Option Bool} {l : List α} {j : Nat} {r : List α} (d : α) (hj : j < l.length) (h : keepO p (l.drop j) = some r) :
    l.getD j d ∈ l ∧ ∃ b, p (l.getD j d) = some b ∧ (b = true → keepO p (l.drop (j + 1)) = some r) ∧ (b = false → ∃ r', keepO p (l.drop (j + 1)) = some r' ∧ r = l.getD j d :: r') := by
  have e : l.getD j d = l[j] := by rw [List.getD_eq_getElem?_getD, List.getElem?_eq_getElem hj]; rfl
  rw [List.drop_eq_getElem_cons hj] at h
  obtain ⟨b, h1, h2⟩ := Option.bind_eq_some_iff.1 h
  obtain ⟨r', h3, h4⟩ := Option.map_eq_some_iff.1 h2
  rw [e]
  refine ⟨List.getElem_mem _, b, h1, fun hb => ?_, fun hb => ⟨r', h3, ?_⟩⟩
  · subst hb
    rw [if_pos rfl] at h4
    exact h4 ▸ h3
  · subst hb
    rw [if_neg (by decide)] at h4
    exact h4.symm
theorem keepO_idx {α : Type} {p : α → Option Bool} : ∀ (l : List α) (i : Nat) (r : List α), keepO p l = some r →
    ∃ q, idxO p (i : Int) l = some q ∧ ((q = -1 ∧ r = l) ∨ ∃ k, k < l.length ∧ q = ((i + k : Nat) : Int) ∧ ∃ r', keepO p (l.drop (k + 1)) = some r' ∧ l.take k ++ r' = r)
  | [], i, r, h => ⟨-1, rfl, .inl ⟨rfl, (Option.some.inj h).symm⟩⟩
  | x :: xs, i, r, h => by
    obtain ⟨b, h1, h2⟩ := Option.bind_eq_some_iff.1 h
    obtain ⟨r', h3, h4⟩ := Option.map_eq_some_iff.1 h2
    cases b with
    | true =>
      refine ⟨i, by simp [idxO, h1], .inr ⟨0, by simp, by simp, r', by simpa using h3, ?_⟩⟩
      rw [if_pos rfl] at h4
      simpa using h4
    | false =>
      rw [if_neg (by decide)] at h4
      obtain ⟨q, e, hq⟩ := keepO_idx xs (i + 1) r' h3
      refine ⟨q, by simpa [idxO, h1] using e, ?_⟩
      rcases hq with ⟨h5, h6⟩ | ⟨k, hk, h5, r2, h6, h7⟩
      · exact .inl ⟨h5, by rw [← h4, h6]⟩
      · exact .inr ⟨k + 1, by simpa using hk, by rw [h5]; congr 1; omega, r2, by simpa using h6, by rw [← h4, ← h7]; rfl⟩
/-- m times the cells zs. -/
def rep (zs : List Value) (m : Nat) : List Value := (List.range (m * zs.length)).map fun i => zs.getD (i % zs.length) undef
theorem rep_length (zs : List Value) (m : Nat) : (rep zs m).length = m * zs.length := by simp [rep]
theorem rep_succ (zs : List Value) (hz : 0 < zs.length) (m : Nat) : rep zs (m + 1) = zs ++ rep zs m := by
  apply List.ext_getElem
  · simp [rep_length, Nat.add_mul]; omega
  · intro i h1 h2
    rw [rep_length] at h1
    by_cases hi : i < zs.length
    · rw [List.getElem_append_left hi]
      simp only [rep, List.getElem_map, List.getElem_range, Nat.mod_eq_of_lt hi]
      rw [List.getD_eq_getElem?_getD, List.getElem?_eq_getElem hi]
      rfl
    · have hle : zs.length ≤ i := by omega
      rw [List.getElem_append_right hle]
      simp only [rep, List.getElem_map, List.getElem_range]
      rw [Nat.mod_eq_sub_mod hle]
theorem rep_mem {zs : List Value} (hz : 0 < zs.length) {m : Nat} {v : Value} (h : v ∈ rep zs m) : v ∈ zs := by
  simp only [rep, List.mem_map, List.mem_range] at h
  obtain ⟨i, _, rfl⟩ := h
  have hm := Nat.mod_lt i hz
  rw [List.getD_eq_getElem?_getD, List.getElem?_eq_getElem hm]
  exact List.getElem_mem _
theorem zeroCells_rep (z : Array Value) (m : Nat) : (Builtin.zeroCells z m).toList = rep z.toList m := by
  apply List.ext_getElem
  · simp [Builtin.zeroCells, rep_length]
  · intro i h1 h2
    simp only [rep_length, Array.length_toList] at h2
    have hz : 0 < z.size := by
      rcases Nat.eq_zero_or_pos z.size with h | h
      · rw [h] at h2; omega
      · exact h
    have hm := Nat.mod_lt i hz
    simp only [Builtin.zeroCells, rep, Array.toList_map, Array.toList_range, List.getElem_map, List.getElem_range, Array.length_toList]
    rw [List.getD_eq_getElem?_getD, List.getElem?_eq_getElem (by simpa using hm)]
    simp
    exact getElem!_pos z (i % z.size) hm
theorem setCells_append (g : Nat) : ∀ (vs us : List Value) (o : Nat) (w : World), w.setCells g o (vs ++ us) = (w.setCells g o vs).setCells g (o + vs.length) us
  | [], us, o, w => by simp [World.setCells]
  | v :: vs, us, o, w => by
    show (w.setCell ⟨g, o, none⟩ v).setCells g (o + 1) (vs ++ us) = ((w.setCell ⟨g, o, none⟩ v).setCells g (o + 1) vs).setCells g (o + (v :: vs).length) us
    rw [setCells_append g vs us (o + 1), List.length_cons, Nat.add_assoc, Nat.add_comm 1]
theorem run_clear_rows {P : Program} (w : World) (t e ty : TypeId) (z : Value) (ht : P.underlying t = some (.slice e)) (hv : ∀ w, (zeroValue e).run P w = .ok z w) (h1 : ∀ v ∈ z.cells.toList, v.oneCell' = true) (hz : 0 < z.cells.size) (b o n c : Nat) (hn : 0 < n)
    (hc : ∀ j, j < n * z.cells.size → (w.cell? ⟨b, o + j, none⟩).isSome = true) (hf : ∀ j, j < n * z.cells.size → w.frozen? ⟨b, o + j, none⟩ = false) :
    (Builtin.clear_ #[t] ty #[.slice (some ⟨b, o, none⟩) n c]).run P w = .ok (.tuple #[]) (w.setCells b o (rep z.cells.toList n)) := by
  have hst := run_storeCells_cells (P := P) b o (rep z.cells.toList n) 0 w (by simpa [rep_length] using hc) (by simpa [rep_length] using hf) (fun v hv' => h1 v (rep_mem (by simpa using hz) hv'))
  simp only [Nat.add_zero] at hst
  obtain ⟨m, rfl⟩ : ∃ m, n = m + 1 := ⟨n - 1, by omega⟩
  simp [Builtin.clear_, run_underlying ht, hv, zeroCells_rep, hst]
namespace Kd
/-- The last elements of a row of one's own set to the value z (cells zs), one behind the other: the first ones stay. -/
theorem R_zero {α : Type} {d : Kd α} {e base g cap : Nat} {ok okp : Nat → Prop} {zs : List Value} {z : α} (hzl : zs.length = d.sz) (hs : 0 < d.sz) (hokp : ∀ k, okp k → ok k ∧ k ≠ g) (hM : ∀ W, d.M W base okp z zs) :
    ∀ (m i : Nat) (xs : List α) (W : World), i + m = xs.length → d.R e W base ok (.slice (some ⟨g, 0, none⟩) xs.length cap) xs →
      ∃ ys, ys.length = xs.length ∧ ys.take i = xs.take i ∧ d.R e (W.setCells g (i * d.sz) (rep zs m)) base ok (.slice (some ⟨g, 0, none⟩) xs.length cap) ys ∧ W.grownBy (W.setCells g (i * d.sz) (rep zs m)) (some g)
  | 0, i, xs, W, _, h => ⟨xs, rfl, rfl, by simpa [rep, World.setCells] using h, by
      have : W.setCells g (i * d.sz) (rep zs 0) = W := by simp [rep, World.setCells]
      rw [this]
      exact grown_of_below (Below.refl _ _) _⟩
  | m + 1, i, xs, W, hi, h => by
    have hlt : i < xs.length := by omega
    obtain ⟨c, hcl, _, hcc, _⟩ := Kd.R_elem h z (i : Int) (by omega) (by omega)
    have hp := Kd.R_seg h (i : Int) (by omega) (by omega) (seg := zs) (j := 0) hcl hcc (by omega) (x' := z) (okp := okp) (by
      rw [List.take_zero, List.nil_append, List.drop_eq_nil_of_le (by omega), List.append_nil]
      exact hM W) hokp
    simp only [Int.toNat_natCast, Nat.add_zero] at hp
    obtain ⟨ys, h1, h2, h3, h4⟩ := R_zero (e := e) (base := base) (g := g) (cap := cap) (ok := ok) hzl hs hokp hM m (i + 1) (xs.set i z) _ (by simp; omega) (by simpa using hp.1)
    have e1 : (i + 1) * d.sz = i * d.sz + zs.length := by rw [hzl, Nat.add_mul, Nat.one_mul]
    rw [rep_succ zs (by omega), setCells_append, ← e1]
    refine ⟨ys, by simpa using h1, ?_, by simpa using h3, ?_⟩
    · have h5 := congrArg (List.take i) h2
      rw [List.take_take, List.take_take, Nat.min_eq_left (by omega)] at h5
      rw [h5, List.take_set_of_le (by omega)]
    · exact World.grownBy.trans hp.2 h4
end Kd
end Go.Proofs.YtaifnabbijikeaaDoorX
