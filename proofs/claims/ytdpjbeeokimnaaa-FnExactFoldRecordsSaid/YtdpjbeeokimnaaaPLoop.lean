/-
  Loops of the laws' helpers: rows copied, held against each other, measured, marked. No condition.
-/
import Derived.Test.YtdpjbeeokimnaaaPBase
namespace Go.Proofs.YtdpjbeeokimnaaaA
open Go
set_option linter.unusedVariables false
set_option linter.unusedSimpArgs false

theorem fuel_big {n : Nat} (h : n < 18446744073709551616) : n < fuel := by rw [fuel_eq]; exact h
theorem setE_eq {k : Kd} (xs : List (El k)) (i : Nat) (e : El k) : setE k xs i e = xs.set i e := rfl
theorem setE_length {k : Kd} (xs : List (El k)) (i : Nat) (e : El k) : (setE k xs i e).length = xs.length := by simp [setE]
theorem rdE_setE {k : Kd} (xs : List (El k)) (i : Nat) (e : El k) (h : i < xs.length) : rdE k (setE k xs i e) i = e := by
  rw [rdE_at (by rw [setE_length]; exact h)]
  simp [setE]
theorem setE_setE {k : Kd} (xs : List (El k)) (i : Nat) (e e' : El k) : setE k (setE k xs i e) i e' = setE k xs i e' := by simp [setE]
theorem set_pre {α : Type} {pre rest : List α} {y x : α} {i : Nat} (h : pre.length = i) : (pre ++ y :: rest).set i x = (pre ++ [x]) ++ rest := by
  subst h
  simp
/-- Copying. -/
theorem copy_loop {k : Kd} {R : Type} {L : Nat → Int → List (El k) → Option R} {a : List (El k)} {fin : List (El k) → Option R}
    (hs : ∀ (n i : Nat) (out : List (El k)) (h : i < a.length), out.length = a.length → L (n + 1) i out = L n ((i + 1 : Nat) : Int) (out.set i a[i])) (h0 : ∀ n out, L (n + 1) a.length out = fin out) :
    ∀ (m n i : Nat) (out : List (El k)), i + m = a.length → m < n → out.length = a.length → out.take i = a.take i → L n i out = fin a
  | 0, n + 1, i, out, e, _, hl, ht => by
    have : i = a.length := by omega
    subst this
    rw [h0]
    congr 1
    rw [List.take_of_length_le (by omega), List.take_of_length_le (Nat.le_refl _)] at ht
    exact ht
  | m + 1, n + 1, i, out, e, hn, hl, ht => by
    have hi : i < a.length := by omega
    rw [hs n i out hi hl]
    refine copy_loop hs h0 m n (i + 1) _ (by omega) (by omega) (by simpa using hl) ?_
    rw [take_snoc (by simpa using (show i < out.length by omega)), take_snoc hi, List.getElem_set_self, List.take_set_of_le (Nat.le_refl _), ht]
/-- A loop of as many rounds as a row has elements, each of which goes on. -/
theorem pass_loop {R S : Type} {L : Nat → S → Int → Option R} {len : Nat} {step : S → Nat → S} {fin : S → Option R} (Inv : Nat → S → Prop)
    (hs : ∀ n s i, i < len → Inv i s → L (n + 1) s (i : Int) = L n (step s i) ((i + 1 : Nat) : Int)) (hI : ∀ s i, i < len → Inv i s → Inv (i + 1) (step s i)) (h0 : ∀ n s, Inv len s → L (n + 1) s (len : Int) = fin s) :
    ∀ (m n i : Nat) (s : S), i + m = len → m < n → Inv i s → ∃ s', L n s i = fin s' ∧ Inv len s'
  | 0, n + 1, i, s, e, _, hi => by
    have : i = len := by omega
    subst this
    exact ⟨s, h0 n s hi, hi⟩
  | m + 1, n + 1, i, s, e, hn, hi => by
    have h1 : i < len := by omega
    rw [hs n s i h1 hi]
    exact pass_loop Inv hs hI h0 m n (i + 1) _ (by omega) (by omega) (hI s i h1 hi)
/-- What is marked: element after element, from a number on. -/
def mkL {α : Type} (f : Int → α) (c : Int) : Int → Nat → List α
  | _, 0 => []
  | k, n + 1 => f k :: mkL f c (k + c) n
theorem mkL_length {α : Type} (f : Int → α) (c : Int) (k : Int) (n : Nat) : (mkL f c k n).length = n := by
  induction n generalizing k with
  | zero => rfl
  | succ n ih => simp [mkL, ih]
theorem mkL_get {α : Type} (f : Int → α) (c : Int) (k : Int) (n i : Nat) (h : i < (mkL f c k n).length) : (mkL f c k n)[i] = f (k + c * i) := by
  induction n generalizing k i with
  | zero => simp [mkL] at h
  | succ n ih =>
    cases i with
    | zero => simp [mkL]
    | succ i =>
      simp only [mkL, List.getElem_cons_succ]
      rw [ih]
      congr 1
      rw [Int.natCast_add, Int.mul_add]
      omega
theorem mark_loop {k : Kd} {R : Type} {L : Nat → Int → Int → List (El k) → Option R} {f : Int → El k} {c : Int} (hc : 0 ≤ c) {B : Int} {fin : Int → List (El k) → Option R}
    (hs : ∀ (n i : Nat) (q : Int) (a : List (El k)), i < a.length → a.length ≤ 1048576 → 0 < q → q ≤ B → L (n + 1) q i a = L n (q + c) ((i + 1 : Nat) : Int) (a.set i (f q))) (h0 : ∀ n q a, L (n + 1) q (List.length a : Int) a = fin q a) :
    ∀ (rest pre : List (El k)) (n : Nat) (q : Int), rest.length < n → pre.length + rest.length ≤ 1048576 → 0 < q → q + c * rest.length ≤ B → L n q pre.length (pre ++ rest) = fin (q + c * rest.length) (pre ++ mkL f c q rest.length)
  | [], pre, n + 1, q, _, _, _, _ => by
    have := h0 n q (pre ++ [])
    simp only [List.append_nil] at this ⊢
    rw [this]
    simp [mkL]
  | y :: rest, pre, n + 1, q, hn, hN, hq, hB => by
    have hl : ((y :: rest).length : Int) = rest.length + 1 := by simp
    have e : c * ((y :: rest).length : Int) = c * rest.length + c := by rw [hl, Int.mul_add, Int.mul_one]
    have hp : 0 ≤ c * (rest.length : Int) := Int.mul_nonneg hc (by omega)
    rw [e] at hB
    rw [hs n pre.length q (pre ++ y :: rest) (by simp) (by simp at hN ⊢; omega) hq (by omega), set_pre rfl]
    have := mark_loop hc hs h0 rest (pre ++ [f q]) n (q + c) (by simp at hn; omega) (by simp at hN ⊢; omega) (by omega) (by omega)
    rw [List.length_append, List.length_singleton] at this
    rw [this, e, List.append_assoc]
    show fin (q + c + c * (rest.length : Int)) (pre ++ (f q :: mkL f c (q + c) rest.length)) = fin _ (pre ++ (f q :: mkL f c (q + c) rest.length))
    congr 1
    omega
theorem held_loop {k : Kd} {R : Type} {L : Nat → List (El k) → Int → Int → Option R} {f : Int → El k} {c : Int} (hc : 0 ≤ c) {B : Int} {a : List (El k)} {fin : Int → Option R}
    (hs : ∀ (n i : Nat) (q : Int) (h : i < a.length), a[i] = f q → 0 < q → q ≤ B → L (n + 1) a q i = L n a (q + c) ((i + 1 : Nat) : Int)) (h0 : ∀ n q, L (n + 1) a q (List.length a : Int) = fin q) {q0 : Int} (ha : a = mkL f c q0 a.length) (hq0 : 0 < q0) (hB : q0 + c * a.length ≤ B) :
    ∀ (m n i : Nat), i + m = a.length → m < n → L n a (q0 + c * i) i = fin (q0 + c * a.length)
  | 0, n + 1, i, e, _ => by
    have : i = a.length := by omega
    subst this
    exact h0 n _
  | m + 1, n + 1, i, e, hn => by
    have hi : i < a.length := by omega
    have h1 : c * (i : Int) ≤ c * a.length := Int.mul_le_mul_of_nonneg_left (by omega) hc
    have h2 : 0 ≤ c * (i : Int) := Int.mul_nonneg hc (by omega)
    have hg : a[i] = f (q0 + c * i) := by
      have h3 : i < (mkL f c q0 a.length).length := by rw [mkL_length]; exact hi
      have := mkL_get f c q0 a.length i h3
      rw [← this]
      congr 1
    rw [hs n i _ hi hg (by omega) (by omega)]
    have := held_loop hc hs h0 ha hq0 hB m n (i + 1) (by omega) (by omega)
    rw [← this]
    congr 1
    rw [Int.natCast_add, Int.mul_add]
    omega
end Go.Proofs.YtdpjbeeokimnaaaA
