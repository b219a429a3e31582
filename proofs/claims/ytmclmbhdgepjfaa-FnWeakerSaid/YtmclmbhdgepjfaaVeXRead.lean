import Derived.SizedLaws
import Derived.ChangeSlices
import Derived.ChangeArms
import Derived.DataReads
import Derived.DataElems
import Derived.Test.YtmclmbhdgepjfaaVeWWords
namespace Go.Proofs.YtmclmbhdgepjfaaX
open Go.Proofs.YtmclmbhdgepjfaaW.PrintWords
variable {P : Program}

/-- At every fuel up to n: what reads as a datum of type t is of kind d and meets V. -/
def RdF {α : Type} (P : Program) (t : TypeId) (d : Kd α) (V : α → Prop) (n : Nat) : Prop :=
 ∀ (fuel : Nat), fuel ≤ n → ∀ {H : Type} (enc : TypeId × Value → H) (W : World) (base : Nat) (spare : Nat → Bool) (held : Bool) (cs : List Value) (x : DataW H × List MemPlace),
  DataW.trod enc P W base spare held fuel t cs = some x → (∀ m ∈ x.1.weights P t, m ≤ reachBytes) → ∃ a : α, d.K W a cs ∧ V a
def Rd {α : Type} (P : Program) (t : TypeId) (d : Kd α) (V : α → Prop) : Prop := ∀ n, RdF P t d V n
theorem RdF.mono {α : Type} {t : TypeId} {d : Kd α} {V : α → Prop} {n m : Nat} (h : RdF P t d V n) (hm : m ≤ n) : RdF P t d V m := fun fuel hf => h fuel (Nat.le_trans hf hm)
theorem rd_int {t : TypeId} {k : IntKind} (hu : P.underlying t = some (.int k)) : Rd P t (Kd.int k) (fun n => (Lit.int k n).wf = true) := by
 intro n fuel hf H enc W base spare held cs x hx hw
 obtain ⟨a, rfl, rfl, h⟩ := DataW.trod_int hu hx
 exact ⟨a, rfl, h⟩
theorem weights_in_all {H : Type} {e : TypeId} : ∀ {ds : List (DataW H)} {d : DataW H}, d ∈ ds → ∀ m ∈ d.weights P e, m ∈ DataW.weightsAll P e ds
 | d0 :: r, d, hd, m, hm => by
  simp only [DataW.weightsAll, List.mem_append]
  rcases List.mem_cons.1 hd with rfl | hd
  ·exact .inl hm
  ·exact .inr (weights_in_all hd m hm)
theorem list_of {α : Type} {R : Nat → α → Prop} : ∀ (n : Nat), (∀ i, i < n → ∃ a, R i a) → ∃ l : List α, l.length = n ∧ ∀ i a, l[i]? = some a → R i a
 | 0, _ => ⟨[], rfl, fun i a h => by simp at h⟩
 | n + 1, h => by
  obtain ⟨l, hl, hr⟩ := list_of n (fun i hi => h i (by omega))
  obtain ⟨a, ha⟩ := h n (by omega)
  refine ⟨l ++ [a], by simp [hl], fun i b hb => ?_⟩
  rcases Nat.lt_or_ge i l.length with hi | hi
  ·rw [List.getElem?_append_left hi] at hb
   exact hr i b hb
  ·have hi2 : i < (l ++ [a]).length := (List.getElem?_eq_some_iff.1 hb).1
   have : i = n := by simp at hi2; omega
   subst this
   rw [List.getElem?_append_right hi, hl, Nat.sub_self] at hb
   simp at hb
   subst hb
   exact ha
theorem rdF_slice {α : Type} {t e : TypeId} {d : Kd α} {V : α → Prop} {n B : Nat} (hu : P.underlying t = some (.slice e)) (hc : P.cellsOf e = d.sz) (hb : P.bytesOf e = B) (h : RdF P e d V n) :
  RdF P t (Kd.slice e d) (fun l => l.length * B ≤ 140737488351232 ∧ l.length ≤ maxLen ∧ ∀ x ∈ l, V x) n := by
 intro fuel hf H enc W base spare held cs x hx hw
 rcases DataW.trod_slice hu hx with ⟨rfl, rfl⟩ | ⟨a, len, cap, elems, rest, m, rfl, rfl, rfl, _, hl, hm, hlen, hel, _, _⟩
 ·exact ⟨[], ⟨none, 0, rfl, Nat.le_refl _, rfl, Nat.zero_le _, fun h => absurd h (Nat.lt_irrefl 0)⟩, by simp, by simp, fun x hx => by cases hx⟩
 ·have hwt := hw ((elems.map (·.1)).length + (rest.map (·.1)).length |> (· * P.bytesOf e)) (by simp [DataW.weights, hu])
  have hlb : len * B ≤ 140737488351232 := by
   rw [hb] at hwt
   simp only [List.length_map, hlen] at hwt
   exact Nat.le_trans (Nat.mul_le_mul_right _ (Nat.le_add_right _ _)) hwt
  obtain ⟨l, hll, hr⟩ := list_of (R := fun i (b : α) => V b ∧ ∃ c, c.length = d.sz ∧ d.K W b c ∧ ∀ j u, c[j]? = some u → W.cell? (a.add (i * d.sz + j)) = some u) len (fun i hi => by
   have h0 := hel i hi
   obtain ⟨y, hy⟩ : ∃ y, elems[i]? = some y := ⟨_, List.getElem?_eq_getElem (by omega)⟩
   rw [hy] at h0
   obtain ⟨c, hc1, hc2⟩ := Option.bind_eq_some_iff.1 h0
   have hmem : y.1 ∈ elems.map (·.1) := List.mem_map.2 ⟨y, List.mem_of_getElem? hy, rfl⟩
   obtain ⟨b, hb1, hb2⟩ := h m (by omega) enc W base spare held c y hc2 (fun q hq => hw q (by
    simp only [DataW.weights, hu, List.mem_cons, List.mem_append]
    exact .inr (.inl (weights_in_all hmem q hq))))
   obtain ⟨_, k1, k2⟩ := World.cells?_some hc1
   rw [hc] at k1 k2
   refine ⟨b, hb2, c, k1, hb1, fun j u hu => ?_⟩
   have hj : j < d.sz := by have := (List.getElem?_eq_some_iff.1 hu).1; omega
   rw [← Addr.add_add, k2 j hj]
   exact hu)
  have hmax : len ≤ maxLen := Nat.le_trans hl hm
  refine ⟨l, ⟨some a, cap, by rw [hll], by rw [hll]; exact hl, ⟨rfl, by rw [hll]; exact hmax, fun _ => ⟨a, rfl, fun j p hj => (hr j p hj).2⟩⟩⟩, by rw [hll]; exact hlb, by rw [hll]; exact hmax, fun x hx => ?_⟩
  obtain ⟨i, hi⟩ := List.getElem?_of_mem hx
  exact (hr i x hi).1
theorem rd_slice {α : Type} {t e : TypeId} {d : Kd α} {V : α → Prop} {B : Nat} (hu : P.underlying t = some (.slice e)) (hc : P.cellsOf e = d.sz) (hb : P.bytesOf e = B) (h : Rd P e d V) :
  Rd P t (Kd.slice e d) (fun l => l.length * B ≤ 140737488351232 ∧ l.length ≤ maxLen ∧ ∀ x ∈ l, V x) := fun n => rdF_slice hu hc hb (h n)
/-- A row's argument j. -/
theorem rd_arg {α : Type} {H : Type} {enc : TypeId × Value → H} {W : World} {base : Nat} {spare : Nat → Bool} {held : Bool} {t : TypeId} {d : Kd α} {V : α → Prop} {v : Value} {x : DataW H} {ps : List MemPlace} {ts : List TypeId} {ds : List (DataW H)} {j : Nat} (h : Rd P t d V)
  (hsz : (DataW.weightsEach P ts ds).all (· ≤ reachBytes) = true) (ht : ts[j]? = some t) (hd : ds[j]? = some x) (hx : DataW.Trod enc P W base spare held t v x ps) : ∃ a : α, d.K W a v.cells.toList ∧ V a := by
 obtain ⟨fuel, hf⟩ := hx
 exact h fuel fuel (Nat.le_refl _) enc W base spare held _ _ hf (fun m hm => by
  have := List.all_eq_true.1 hsz _ (DataW.weights_mem_each ht hd m hm)
  simpa using this)
end Go.Proofs.YtmclmbhdgepjfaaX

