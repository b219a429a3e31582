/-
  Predicates that are handed to slices.IndexFunc and ContainsFunc: what the search tells, and what is asked of the predicate.
  Own text of this seat (a session's); YtaifnabbijikeaaDoor stands for the seat's name.
-/
import Derived.Test.YtaifnabbijikeaaDoorWWords
import Derived.Laws.Entries
import Derived.Below
import Derived.WalkKit
import Derived.WalkSpells
import Derived.StillTailTactics
set_option linter.unusedVariables false
namespace Go.Proofs.YtaifnabbijikeaaDoorX
open Go.RowKit Go.Proofs.YtaifnabbijikeaaDoorW.PrintWords
/-- The place of the first element of which p holds, from place i on; -1 if there is none. -/
def idxO {α : Type} (p : α → Option Bool) : Int → List α → Option Int
  | _, [] => some (-1)
  | i, x :: xs => (p x).bind fun b => if b = true then some i else idxO p (i + 1) xs
def anyO {α : Type} (p : α → Option Bool) (l : List α) : Option Bool := (idxO p 0 l).map fun i => decide (0 ≤ i)
theorem idxO_mono {α : Type} {p q : α → Option Bool} (h : ∀ x, LeO (p x) (q x)) : ∀ (l : List α) (i : Int), LeO (idxO p i l) (idxO q i l)
  | [], _ => LeO.refl _
  | x :: xs, i => LeO.bind (h x) (fun b => LeO.ite (LeO.refl _) (idxO_mono h xs (i + 1)))
theorem anyO_mono {α : Type} {p q : α → Option Bool} (h : ∀ x, LeO (p x) (q x)) (l : List α) : LeO (anyO p l) (anyO q l) := LeO.map _ (idxO_mono h l 0)
/-- The value of some cells: of one cell that cell, of a struct's cells the struct. -/
def mk1 (cs : List Value) : Value := cs.headD undef
def mkA (cs : List Value) : Value := .agg cs.toArray
/-- Asked of a predicate (function g, that has captured lb): where p tells b of an element, the call returns b and leaves all that lay in w. -/
def PredK {α : Type} (P : Program) (g : Nat) (lb : Array Value) (d : Kd α) (mk : List Value → Value) (p : α → Option Bool) (l : List α) (w : World) : Prop :=
  ∀ x, x ∈ l → ∀ b, p x = some b → ∀ W cs, Below w.heap.size w W → d.K W x cs → Calls P g (#[mk cs] ++ lb) W fun e w' => e = .returned (.bool b) ∧ Below w.heap.size w w'
theorem idxO_next {α : Type} {p : α → Option Bool} {l : List α} {i : Nat} {r : Int} {d : α} (hi : i < l.length) (h : idxO p (i : Int) (l.drop i) = some r) :
    l.getD i d ∈ l ∧ ∃ b, p (l.getD i d) = some b ∧ (b = true → (i : Int) = r) ∧ (b = false → idxO p ((i + 1 : Nat) : Int) (l.drop (i + 1)) = some r) := by
  have e : l.getD i d = l[i] := by rw [List.getD_eq_getElem?_getD, List.getElem?_eq_getElem hi]; rfl
  rw [List.drop_eq_getElem_cons hi] at h
  obtain ⟨b, h1, h2⟩ := Option.bind_eq_some_iff.1 h
  rw [e]
  refine ⟨List.getElem_mem _, b, h1, fun hb => ?_, fun hb => ?_⟩
  · subst hb
    exact Option.some.inj h2
  · subst hb
    rw [if_neg (by decide)] at h2
    exact h2
theorem cells1 {c : List Value} (h : c.length = 1) : ∃ a, c = [a] := by match c, h with | [a], _ => exact ⟨a, rfl⟩
theorem cells2 {c : List Value} (h : c.length = 2) : ∃ a b, c = [a, b] := by match c, h with | [a, b], _ => exact ⟨a, b, rfl⟩
theorem cells3 {c : List Value} (h : c.length = 3) : ∃ a b d, c = [a, b, d] := by match c, h with | [a, b, d], _ => exact ⟨a, b, d, rfl⟩
theorem cells4 {c : List Value} (h : c.length = 4) : ∃ a b d e, c = [a, b, d, e] := by match c, h with | [a, b, d, e], _ => exact ⟨a, b, d, e, rfl⟩
theorem cells5 {c : List Value} (h : c.length = 5) : ∃ a b d e f, c = [a, b, d, e, f] := by match c, h with | [a, b, d, e, f], _ => exact ⟨a, b, d, e, f, rfl⟩
theorem cells6 {c : List Value} (h : c.length = 6) : ∃ a b d e f g, c = [a, b, d, e, f, g] := by match c, h with | [a, b, d, e, f, g], _ => exact ⟨a, b, d, e, f, g, rfl⟩
theorem cells9 {c : List Value} (h : c.length = 9) : ∃ a b d e f g i j k, c = [a, b, d, e, f, g, i, j, k] := by match c, h with | [a, b, d, e, f, g, i, j, k], _ => exact ⟨a, b, d, e, f, g, i, j, k, rfl⟩
end Go.Proofs.YtaifnabbijikeaaDoorX
