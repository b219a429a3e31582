import Derived.Test.YtmclmbhdgepjfaaVeXFn
namespace Go.Proofs.YtmclmbhdgepjfaaX
open Go.RowKit Go.Proofs.YtmclmbhdgepjfaaW.PrintWords
/-- The place of the first element of which q holds, from i on; -1 if there is none. -/
def idxB {α : Type} (q : α → Bool) : Int → List α → Int
 | _, [] => -1
 | i, x :: xs => if q x = true then i else idxB q (i + 1) xs
theorem idxO_total {α : Type} {p : α → Option Bool} {q : α → Bool} : ∀ (l : List α) (i : Int), (∀ x ∈ l, p x = some (q x)) → idxO p i l = some (idxB q i l)
 | [], _, _ => rfl
 | x :: xs, i, h => by
  have hx := h x List.mem_cons_self
  have ih := idxO_total (p := p) (q := q) xs (i + 1) (fun y hy => h y (List.mem_cons_of_mem _ hy))
  simp only [idxO, idxB, hx, Option.bind_some]
  split
  ·rfl
  ·exact ih
theorem idxB_neg {α : Type} {q : α → Bool} : ∀ (l : List α) (i : Int), 0 ≤ i → ((0 ≤ idxB q i l) ↔ l.any q = true)
 | [], i, _ => by simp [idxB]
 | x :: xs, i, hi => by
  have ih := idxB_neg (q := q) xs (i + 1) (by omega)
  simp only [idxB, List.any_cons, Bool.or_eq_true]
  split
  ·rename_i h
   exact ⟨fun _ => .inl h, fun _ => hi⟩
  ·rename_i h
   rw [ih]
   exact ⟨.inr, fun h' => h'.resolve_left h⟩
theorem anyO_total {α : Type} {p : α → Option Bool} {q : α → Bool} (l : List α) (h : ∀ x ∈ l, p x = some (q x)) : anyO p l = some (l.any q) := by
 unfold anyO
 rw [idxO_total l 0 h]
 simp only [Option.map_some]
 congr 1
 rw [Bool.eq_iff_iff, decide_eq_true_iff]
 exact idxB_neg l 0 (Int.le_refl 0)
theorem getD_mem {α : Type} {l : List α} {i : Int} (d : α) (h0 : 0 ≤ i) (h1 : i < (l.length : Int)) : l.getD i.toNat d ∈ l := by
 rw [List.getD_eq_getElem?_getD, List.getElem?_eq_getElem (by omega)]
 exact List.getElem_mem _
theorem wrap_up {i : Int} {n : Nat} (h0 : 0 ≤ i) (h : i < (n : Int)) (hn : n ≤ 9223372036854775807) : wrap64 (i + 1) = i + 1 := by
 unfold wrap64
 omega
end Go.Proofs.YtmclmbhdgepjfaaX

