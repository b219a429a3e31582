/-
  What data read as: a value that reads as a datum of type t, whatever the memory, holds a value of kind d (the print's kinds) that meets V.
  Own text of this seat (a session's); YtaifnabbijikeaaDoor stands for the seat's name.
-/
import Derived.SizedLaws
import Derived.ChangeSlices
import Derived.ChangeArms
import Derived.DataReads
import Derived.DataElems
import Derived.Test.YtaifnabbijikeaaDoorWWords
namespace Go.Proofs.YtaifnabbijikeaaDoorX
open Go.Proofs.YtaifnabbijikeaaDoorW.PrintWords
variable {P : Program}

/-- At every fuel up to n: what reads as a datum of type t is of kind d and meets V. -/
def RdF {α : Type} (P : Program) (t : TypeId) (d : Kd α) (V : α → Prop) (n : Nat) : Prop :=
  ∀ (fuel : Nat), fuel ≤ n → ∀ {H : Type} (enc : TypeId × Value → H) (W : World) (base : Nat) (spare : Nat → Bool) (held : Bool) (cs : List Value) (x : DataW H × List MemPlace),
    DataW.trod enc P W base spare held fuel t cs = some x → (∀ m ∈ x.1.weights P t, m ≤ reachBytes) → ∃ a : α, d.K W a cs ∧ V a
def Rd {α : Type} (P : Program) (t : TypeId) (d : Kd α) (V : α → Prop) : Prop := ∀ n, RdF P t d V n

theorem RdF.mono {α : Type} {t : TypeId} {d : Kd α} {V : α → Prop} {n m : Nat} (h : RdF P t d V n) (hm : m ≤ n) : RdF P t d V m := fun fuel hf => h fuel (Nat.le_trans hf hm)
theorem RdF.imp {α : Type} {t : TypeId} {d : Kd α} {V V' : α → Prop} {n : Nat} (h : RdF P t d V n) (hV : ∀ a, V a → V' a) : RdF P t d V' n := fun fuel hf H enc W base spare held cs x hx hw => by
  obtain ⟨a, h1, h2⟩ := h fuel hf enc W base spare held cs x hx hw
  exact ⟨a, h1, hV a h2⟩
theorem Rd.imp {α : Type} {t : TypeId} {d : Kd α} {V V' : α → Prop} (h : Rd P t d V) (hV : ∀ a, V a → V' a) : Rd P t d V' := fun n => (h n).imp hV

theorem rd_int {t : TypeId} {k : IntKind} (hu : P.underlying t = some (.int k)) : Rd P t (Kd.int k) (fun n => (Lit.int k n).wf = true) := by
  intro n fuel hf H enc W base spare held cs x hx hw
  obtain ⟨a, rfl, rfl, h⟩ := DataW.trod_int hu hx
  exact ⟨a, rfl, h⟩
theorem rd_bool {t : TypeId} (hu : P.underlying t = some .bool) : Rd P t Kd.bool (fun _ => True) := by
  intro n fuel hf H enc W base spare held cs x hx hw
  obtain ⟨a, rfl, rfl⟩ := DataW.trod_bool hu hx
  exact ⟨a, rfl, trivial⟩
theorem rd_string {t : TypeId} (hu : P.underlying t = some .string) : Rd P t Kd.string (fun s => s.size ≤ 140737488351232) := by
  intro n fuel hf H enc W base spare held cs x hx hw
  obtain ⟨a, rfl, rfl, h⟩ := DataW.trod_string hu hx
  refine ⟨a, rfl, ?_⟩
  have h1 := hw a.data.toList.length (by simp [DataW.weights])
  have h2 : a.data.toList.length = a.size := by rw [Array.length_toList]; rfl
  rw [h2] at h1
  exact h1

theorem weights_in_all {H : Type} {e : TypeId} : ∀ {ds : List (DataW H)} {d : DataW H}, d ∈ ds → ∀ m ∈ d.weights P e, m ∈ DataW.weightsAll P e ds
  | d0 :: r, d, hd, m, hm => by
    simp only [DataW.weightsAll, List.mem_append]
    rcases List.mem_cons.1 hd with rfl | hd
    · exact .inl hm
    · exact .inr (weights_in_all hd m hm)
theorem list_of {α : Type} {R : Nat → α → Prop} : ∀ (n : Nat), (∀ i, i < n → ∃ a, R i a) → ∃ l : List α, l.length = n ∧ ∀ i a, l[i]? = some a → R i a
  | 0, _ => ⟨[], rfl, fun i a h => by simp at h⟩
  | n + 1, h => by
    obtain ⟨l, hl, hr⟩ := list_of n (fun i hi => h i (by omega))
    obtain ⟨a, ha⟩ := h n (by omega)
    refine ⟨l ++ [a], by simp [hl], fun i b hb => ?_⟩
    rcases Nat.lt_or_ge i l.length with hi | hi
    · rw [List.getElem?_append_left hi] at hb
      exact hr i b hb
    · have hi2 : i < (l ++ [a]).length := (List.getElem?_eq_some_iff.1 hb).1
      have : i = n := by simp at hi2; omega
      subst this
      rw [List.getElem?_append_right hi, hl, Nat.sub_self] at hb
      simp at hb
      subst hb
      exact ha

theorem rdF_slice {α : Type} {t e : TypeId} {d : Kd α} {V : α → Prop} {n B : Nat} (hu : P.underlying t = some (.slice e)) (hc : P.cellsOf e = d.sz) (hb : P.bytesOf e = B) (h : RdF P e d V n) :
    RdF P t (Kd.slice e d) (fun l => l.length * B ≤ 140737488351232 ∧ l.length ≤ maxLen ∧ ∀ x ∈ l, V x) n := by
  intro fuel hf H enc W base spare held cs x hx hw
  rcases DataW.trod_slice hu hx with ⟨rfl, rfl⟩ | ⟨a, len, cap, elems, rest, m, rfl, rfl, rfl, _, hl, hm, hlen, hel, _, _⟩
  · exact ⟨[], ⟨none, 0, rfl, Nat.le_refl _, rfl, Nat.zero_le _, fun h => absurd h (Nat.lt_irrefl 0)⟩, by simp, by simp, fun x hx => by cases hx⟩
  · have hwt := hw ((elems.map (·.1)).length + (rest.map (·.1)).length |> (· * P.bytesOf e)) (by simp [DataW.weights, hu])
    have hlb : len * B ≤ 140737488351232 := by
      rw [hb] at hwt
      simp only [List.length_map, hlen] at hwt
      exact Nat.le_trans (Nat.mul_le_mul_right _ (Nat.le_add_right _ _)) hwt
    obtain ⟨l, hll, hr⟩ := list_of (R := fun i (b : α) => V b ∧ ∃ c, c.length = d.sz ∧ d.K W b c ∧ ∀ j u, c[j]? = some u → W.cell? (a.add (i * d.sz + j)) = some u) len (fun i hi => by
      have h0 := hel i hi
      obtain ⟨y, hy⟩ : ∃ y, elems[i]? = some y := ⟨_, List.getElem?_eq_getElem (by omega)⟩
      rw [hy] at h0
      obtain ⟨c, hc1, hc2⟩ := Option.bind_eq_some_iff.1 h0
      have hmem : y.1 ∈ elems.map (·.1) := List.mem_map.2 ⟨y, List.mem_of_getElem? hy, rfl⟩
      obtain ⟨b, hb1, hb2⟩ := h m (by omega) enc W base spare held c y hc2 (fun q hq => hw q (by
        simp only [DataW.weights, hu, List.mem_cons, List.mem_append]
        exact .inr (.inl (weights_in_all hmem q hq))))
      obtain ⟨_, k1, k2⟩ := World.cells?_some hc1
      rw [hc] at k1 k2
      refine ⟨b, hb2, c, k1, hb1, fun j u hu => ?_⟩
      have hj : j < d.sz := by have := (List.getElem?_eq_some_iff.1 hu).1; omega
      rw [← Addr.add_add, k2 j hj]
      exact hu)
    have hmax : len ≤ maxLen := Nat.le_trans hl hm
    refine ⟨l, ⟨some a, cap, by rw [hll], by rw [hll]; exact hl, ⟨rfl, by rw [hll]; exact hmax, fun _ => ⟨a, rfl, fun j p hj => (hr j p hj).2⟩⟩⟩, by rw [hll]; exact hlb, by rw [hll]; exact hmax, fun x hx => ?_⟩
    obtain ⟨i, hi⟩ := List.getElem?_of_mem hx
    exact (hr i x hi).1
theorem rd_slice {α : Type} {t e : TypeId} {d : Kd α} {V : α → Prop} {B : Nat} (hu : P.underlying t = some (.slice e)) (hc : P.cellsOf e = d.sz) (hb : P.bytesOf e = B) (h : Rd P e d V) :
    Rd P t (Kd.slice e d) (fun l => l.length * B ≤ 140737488351232 ∧ l.length ≤ maxLen ∧ ∀ x ∈ l, V x) := fun n => rdF_slice hu hc hb (h n)

/-- The fields from offset o on. -/
def Rds {α : Type} (P : Program) (fs : List Field) (o : Nat) (d : Kd α) (V : α → Prop) (n : Nat) : Prop :=
  ∀ (fuel : Nat), fuel ≤ n → ∀ {H : Type} (enc : TypeId × Value → H) (W : World) (base : Nat) (spare : Nat → Bool) (held : Bool) (cs : List Value) (xs : List (DataW H × List MemPlace)), cs.length = o + d.sz → xs.length = fs.length →
    (∀ (i : Nat) (f : Field), fs[i]? = some f → DataW.trod enc P W base spare held fuel f.type ((cs.drop f.offset).take (P.cellsOf f.type)) = xs[i]?) →
    (∀ m ∈ DataW.weightsEach P (fs.map (·.type)) (xs.map (·.1)), m ≤ reachBytes) → ∃ a : α, d.K W a (cs.drop o) ∧ V a
theorem rds_one {α : Type} {f : Field} {o : Nat} {d : Kd α} {V : α → Prop} {n : Nat} (ho : f.offset = o) (hc : P.cellsOf f.type = d.sz) (h : RdF P f.type d V n) : Rds P [f] o d V n := by
  intro fuel hf H enc W base spare held cs xs hl hx hall hw
  obtain ⟨y, rfl⟩ : ∃ y, xs = [y] := by
    match xs, hx with
    | [y], _ => exact ⟨y, rfl⟩
  have h0 := hall 0 f rfl
  rw [ho, hc, List.take_of_length_le (by rw [List.length_drop]; omega)] at h0
  exact h fuel hf enc W base spare held _ y h0 (fun m hm => hw m (by simp [DataW.weightsEach, hm]))
theorem rds_cons {α β : Type} {f : Field} {fs : List Field} {o : Nat} {d0 : Kd α} {d1 : Kd β} {V0 : α → Prop} {V1 : β → Prop} {n : Nat} (ho : f.offset = o) (hc : P.cellsOf f.type = d0.sz) (h : RdF P f.type d0 V0 n) (hs : Rds P fs (o + d0.sz) d1 V1 n) :
    Rds P (f :: fs) o (Kd.pair d0 d1) (fun x => V0 x.1 ∧ V1 x.2) n := by
  intro fuel hf H enc W base spare held cs xs hl hx hall hw
  have hl' : cs.length = o + (d0.sz + d1.sz) := hl
  obtain ⟨y, ys, rfl⟩ : ∃ y ys, xs = y :: ys := by
    match xs, hx with
    | y :: ys, _ => exact ⟨y, ys, rfl⟩
  have h0 := hall 0 f rfl
  rw [ho, hc] at h0
  obtain ⟨a, ka, va⟩ := h fuel hf enc W base spare held _ y h0 (fun m hm => hw m (by simp [DataW.weightsEach, hm]))
  obtain ⟨b, kb, vb⟩ := hs fuel hf enc W base spare held cs ys (by rw [hl']; omega) (by simpa using hx) (fun i g hg => by simpa using hall (i + 1) g (by simpa using hg)) (fun m hm => hw m (by simp only [List.map_cons, DataW.weightsEach, List.mem_append]; exact .inr hm))
  refine ⟨(a, b), ⟨(cs.drop o).take d0.sz, cs.drop (o + d0.sz), ?_, ka, kb⟩, va, vb⟩
  rw [← List.drop_drop, List.take_append_drop]
theorem rdF_struct {α : Type} {t : TypeId} {fs : Array Field} {d : Kd α} {V : α → Prop} {n : Nat} (hu : P.underlying t = some (.struct fs)) (hc : P.cellsOf t = d.sz) (h : Rds P fs.toList 0 d V n) : RdF P t d V (n + 1) := by
  intro fuel hf H enc W base spare held cs x hx hw
  obtain ⟨xs, m, rfl, rfl, hl, hlen, hall⟩ := DataW.trod_struct hu hx
  exact h m (by omega) enc W base spare held cs xs (by rw [hl, hc, Nat.zero_add]) (by simpa using hlen) (fun i f hf => hall i f (by simpa using hf)) (fun q hq => hw q (by simpa [DataW.weights, hu] using hq))
theorem rd_struct {α : Type} {t : TypeId} {fs : Array Field} {d : Kd α} {V : α → Prop} (hu : P.underlying t = some (.struct fs)) (hc : P.cellsOf t = d.sz) (h : ∀ n, Rds P fs.toList 0 d V n) : Rd P t d V := fun n => (rdF_struct hu hc (h n)).mono (Nat.le_succ n)
theorem rdF_iso {α β : Type} {t : TypeId} {d : Kd α} {V : α → Prop} {f : β → α} {n : Nat} (g : α → β) (hg : ∀ a, f (g a) = a) (h : RdF P t d V n) : RdF P t (Kd.iso d f) (fun x => V (f x)) n := by
  intro fuel hf H enc W base spare held cs x hx hw
  obtain ⟨a, h1, h2⟩ := h fuel hf enc W base spare held cs x hx hw
  refine ⟨g a, ?_, ?_⟩
  · show d.K W (f (g a)) cs
    rw [hg]
    exact h1
  · show V (f (g a))
    rw [hg]
    exact h2
theorem rd_iso {α β : Type} {t : TypeId} {d : Kd α} {V : α → Prop} {f : β → α} (g : α → β) (hg : ∀ a, f (g a) = a) (h : Rd P t d V) : Rd P t (Kd.iso d f) (fun x => V (f x)) := fun n => rdF_iso g hg (h n)
/-- A type nested in itself. -/
theorem rd_fix {α : Type} {t : TypeId} {F : Kd α → Kd α} {sz : Nat} {E : List Nat} {hs : ∀ n, (Kd.upto F sz E n).sz = sz} {hE : ∀ n q, q ∈ (Kd.upto F sz E n).E → q ∈ E} {V : α → Prop} (h : ∀ (d : Kd α) (n : Nat), d.sz = sz → RdF P t d V n → RdF P t (F d) V (n + 1)) : Rd P t (Kd.fix F sz E hs hE) V := by
  have key : ∀ n, RdF P t (Kd.upto F sz E n) V n := by
    intro n
    induction n with
    | zero =>
      intro fuel hf H enc W base spare held cs x hx hw
      obtain rfl : fuel = 0 := by omega
      simp [DataW.trod] at hx
    | succ n ih => exact h _ n (hs n) ih
  intro n fuel hf H enc W base spare held cs x hx hw
  obtain ⟨a, h1, h2⟩ := key n fuel hf enc W base spare held cs x hx hw
  exact ⟨a, ⟨n, h1⟩, h2⟩
/-- A row's argument j. -/
theorem rd_arg {α : Type} {H : Type} {enc : TypeId × Value → H} {W : World} {base : Nat} {spare : Nat → Bool} {held : Bool} {t : TypeId} {d : Kd α} {V : α → Prop} {v : Value} {x : DataW H} {ps : List MemPlace} {ts : List TypeId} {ds : List (DataW H)} {j : Nat} (h : Rd P t d V)
    (hsz : (DataW.weightsEach P ts ds).all (· ≤ reachBytes) = true) (ht : ts[j]? = some t) (hd : ds[j]? = some x) (hx : DataW.Trod enc P W base spare held t v x ps) : ∃ a : α, d.K W a v.cells.toList ∧ V a := by
  obtain ⟨fuel, hf⟩ := hx
  exact h fuel fuel (Nat.le_refl _) enc W base spare held _ _ hf (fun m hm => by
    have := List.all_eq_true.1 hsz _ (DataW.weights_mem_each ht hd m hm)
    simpa using this)
end Go.Proofs.YtaifnabbijikeaaDoorX
