/-
  Small laws of the searches and of numbers, without any program.
  Own text of this seat (a session's); YtaifnabbijikeaaDoor stands for the seat's name.
-/
import Derived.Test.YtaifnabbijikeaaDoorXFn
namespace Go.Proofs.YtaifnabbijikeaaDoorX
open Go.RowKit Go.Proofs.YtaifnabbijikeaaDoorW.PrintWords
/-- The place of the first element of which q holds, from i on; -1 if there is none. -/
def idxB {α : Type} (q : α → Bool) : Int → List α → Int
  | _, [] => -1
  | i, x :: xs => if q x = true then i else idxB q (i + 1) xs
theorem idxO_total {α : Type} {p : α → Option Bool} {q : α → Bool} : ∀ (l : List α) (i : Int), (∀ x ∈ l, p x = some (q x)) → idxO p i l = some (idxB q i l)
  | [], _, _ => rfl
  | x :: xs, i, h => by
    have hx := h x List.mem_cons_self
    have ih := idxO_total (p := p) (q := q) xs (i + 1) (fun y hy => h y (List.mem_cons_of_mem _ hy))
    simp only [idxO, idxB, hx, Option.bind_some]
    split
    · rfl
    · exact ih
theorem idxB_neg {α : Type} {q : α → Bool} : ∀ (l : List α) (i : Int), 0 ≤ i → ((0 ≤ idxB q i l) ↔ l.any q = true)
  | [], i, _ => by simp [idxB]
  | x :: xs, i, hi => by
    have ih := idxB_neg (q := q) xs (i + 1) (by omega)
    simp only [idxB, List.any_cons, Bool.or_eq_true]
    split
    · rename_i h
      exact ⟨fun _ => .inl h, fun _ => hi⟩
    · rename_i h
      rw [ih]
      exact ⟨.inr, fun h' => h'.resolve_left h⟩
theorem anyO_total {α : Type} {p : α → Option Bool} {q : α → Bool} (l : List α) (h : ∀ x ∈ l, p x = some (q x)) : anyO p l = some (l.any q) := by
  unfold anyO
  rw [idxO_total l 0 h]
  simp only [Option.map_some]
  congr 1
  rw [Bool.eq_iff_iff, decide_eq_true_iff]
  exact idxB_neg l 0 (Int.le_refl 0)
theorem size_zero_iff (s : ByteArray) : (s.toList = ([] : List UInt8)) ↔ s.size = 0 := by
  rw [← List.length_eq_zero_iff]
  have : s.toList.length = s.size := by
    rw [ByteArray.toList_eq]
    exact Array.length_toList
  rw [this]
theorem getD_mem {α : Type} {l : List α} {i : Int} (d : α) (h0 : 0 ≤ i) (h1 : i < (l.length : Int)) : l.getD i.toNat d ∈ l := by
  rw [List.getD_eq_getElem?_getD, List.getElem?_eq_getElem (by omega)]
  exact List.getElem_mem _
theorem getD_set_self {α : Type} {l : List α} {i : Int} (d v : α) (h0 : 0 ≤ i) (h1 : i < (l.length : Int)) : (l.set i.toNat v).getD i.toNat d = v := by
  rw [List.getD_eq_getElem?_getD, List.getElem?_set_self (by omega)]
  rfl
theorem wrap_up {i : Int} {n : Nat} (h0 : 0 ≤ i) (h : i < (n : Int)) (hn : n ≤ 9223372036854775807) : wrap64 (i + 1) = i + 1 := by
  unfold wrap64
  omega
theorem wrap_in {i : Int} (h0 : -9223372036854775808 ≤ i) (h : i ≤ 9223372036854775807) : wrap64 i = i := by
  unfold wrap64
  omega
/-- A row that is filled element by element. -/
theorem take_step {α β : Type} {l : List α} {acc : List β} {c : α → β} {i : Int} (d : α) (h0 : 0 ≤ i) (h1 : i < (l.length : Int)) (hl : acc.length = l.length) (h : acc.take i.toNat = (l.map c).take i.toNat) :
    (acc.set i.toNat (c (l.getD i.toNat d))).take (i + 1).toNat = (l.map c).take (i + 1).toNat := by
  have e : (i + 1).toNat = i.toNat + 1 := by omega
  have hi : i.toNat < l.length := by omega
  have hx : l.getD i.toNat d = l[i.toNat] := by rw [List.getD_eq_getElem?_getD, List.getElem?_eq_getElem hi]; rfl
  rw [e, hx, List.take_succ_eq_append_getElem (by simp; omega), List.take_succ_eq_append_getElem (by simp; omega), List.getElem_set_self, List.getElem_map, List.take_set_of_le (by omega), h]
theorem take_whole {α : Type} {a b : List α} {i : Int} (hl : a.length = b.length) (hi : i = (a.length : Int)) (h : a.take i.toNat = b.take i.toNat) : a = b := by
  rw [List.take_of_length_le (by omega), List.take_of_length_le (by omega)] at h
  exact h
/-- An element that stays, in a row of which the first so many stay. -/
theorem getD_of_take {α : Type} {a b : List α} {i : Int} (d : α) (h0 : 0 ≤ i) (h : a.take (i + 1).toNat = b.take (i + 1).toNat) : a.getD i.toNat d = b.getD i.toNat d := by
  have e : (i + 1).toNat = i.toNat + 1 := by omega
  rw [e] at h
  have h2 := congrArg (fun l => l[i.toNat]?) h
  simp only [List.getElem?_take] at h2
  rw [if_pos (Nat.lt_succ_self _), if_pos (Nat.lt_succ_self _)] at h2
  rw [List.getD_eq_getElem?_getD, List.getD_eq_getElem?_getD, h2]
theorem take_less {α : Type} {a b : List α} {i : Int} (h0 : 0 ≤ i) (h : a.take (i + 1).toNat = b.take (i + 1).toNat) : a.take i.toNat = b.take i.toNat := by
  have e : (i + 1).toNat = i.toNat + 1 := by omega
  rw [e] at h
  have h2 := congrArg (fun l => l.take i.toNat) h
  simpa [List.take_take] using h2
theorem take_set_same {α : Type} {a : List α} {i : Int} (v : α) : (a.set i.toNat v).take i.toNat = a.take i.toNat := List.take_set_of_le (Nat.le_refl _)
end Go.Proofs.YtaifnabbijikeaaDoorX
