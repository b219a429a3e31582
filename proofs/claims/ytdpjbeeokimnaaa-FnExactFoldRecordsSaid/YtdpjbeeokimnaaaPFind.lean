/-
  Searches along a row, for any of the printed loops that go so. No condition.
-/
import Derived.Test.YtdpjbeeokimnaaaPBase
namespace Go.Proofs.YtdpjbeeokimnaaaA
open Go
set_option linter.unusedVariables false
set_option linter.unusedSimpArgs false

/-- The first of which q holds, from j on. -/
theorem find_loop {k : Kd} {R : Type} {L : Nat → List (El k) → Int → Int → Option R} {f : El k → Option (Bool × Unit)} {kke : Option R} {kkr : Int → Option R}
    (hL : ∀ n s i j, L (n + 1) s i j = cond (decide (j < i)) (grd (gIx j (List.length s)) ((f (rdE k s (Int.toNat j))).bind fun r => cond r.1 (kkr j) (L n s i (IntKind.wrap .i64 (j + 1))))) kke)
    {q : El k → Bool} {l : List (El k)} (hl : l.length ≤ 9223372036854775806) (hf : ∀ x ∈ l, f x = some (q x, ())) :
    ∀ (m n j : Nat), j + m = l.length → m < n → L n l l.length j = match (l.drop j).findIdx? q with | none => kke | some d => kkr ((j + d : Nat) : Int)
  | 0, n + 1, j, e, _ => by
    rw [hL, decide_f (by omega : ¬ (j : Int) < l.length), cond_false, List.drop_of_length_le (by omega)]
    rfl
  | m + 1, n + 1, j, e, h => by
    have hj : j < l.length := by omega
    rw [hL, decide_t (by omega : (j : Int) < l.length), cond_true, grd_of (gIx_t (by omega) (by omega)), Int.toNat_natCast, rdE_at hj, hf _ (List.getElem_mem hj), Option.bind_some, drop_cons hj, List.findIdx?_cons]
    cases hq : q l[j] with
    | true => simp
    | false =>
      simp only [cond_false, Bool.false_eq_true, if_false]
      rw [wr (by omega) (by omega), show ((j : Int) + 1) = ((j + 1 : Nat) : Int) by omega, find_loop hL hl hf m n (j + 1) (by omega) (by omega)]
      cases (l.drop (j + 1)).findIdx? q with
      | none => rfl
      | some d => simp only [Option.map_some]; congr 1; omega
theorem findIdx_any {α : Type} (l : List α) (q : α → Bool) : (l.findIdx? q).isSome = l.any q := by
  induction l with
  | nil => rfl
  | cons x l ih =>
    rw [List.findIdx?_cons, List.any_cons]
    cases q x with
    | true => simp
    | false => simp [ih]
/-- A loop that runs through a row. -/
theorem each_loop {k : Kd} {R S : Type} {L : Nat → S → Int → Option R} {l : List (El k)} (hl : l.length ≤ 9223372036854775806) {step : S → Nat → S} {fin : S → Option R} (Inv : Nat → S → Prop)
    (hL : ∀ n s j, j < l.length → Inv j s → L (n + 1) s (j : Int) = L n (step s j) ((j + 1 : Nat) : Int)) (hI : ∀ s j, j < l.length → Inv j s → Inv (j + 1) (step s j))
    (h0 : ∀ n s, Inv l.length s → L (n + 1) s (l.length : Int) = fin s) : ∀ (m n j : Nat) (s : S), j + m = l.length → m < n → Inv j s → ∃ s', L n s j = fin s' ∧ Inv l.length s'
  | 0, n + 1, j, s, e, _, hi => by
    have : j = l.length := by omega
    subst this
    exact ⟨s, h0 n s hi, hi⟩
  | m + 1, n + 1, j, s, e, h, hi => by
    have hj : j < l.length := by omega
    rw [hL n s j hj hi]
    exact each_loop hl Inv hL hI h0 m n (j + 1) _ (by omega) (by omega) (hI s j hj hi)
end Go.Proofs.YtdpjbeeokimnaaaA
