/-
  Numbers in bytes, and back: what the printed functions 'number', 'numberOf', 'within' compute. No condition.
-/
import Derived.Test.YtdpjbeeokimnaaaPBase
import Derived.Test.YtdpjbeeokimnaaaXeF1
namespace Go.Proofs.YtdpjbeeokimnaaaA
open Go
set_option linter.unusedVariables false
set_option linter.unusedSimpArgs false

theorem fuel_gt {n : Nat} (h : n < 18446744073709551616) : ∃ m, fuel = n + m + 1 := ⟨fuel - n - 1, by rw [fuel_eq]; omega⟩
theorem pow256_le {a b : Nat} (h : a ≤ b) : (256 : Int) ^ a ≤ 256 ^ b := by
  have h2 : ((256 ^ a : Nat) : Int) ≤ ((256 ^ b : Nat) : Int) := Int.ofNat_le.2 (Nat.pow_le_pow_right (n := 256) (by decide) h)
  rw [Int.natCast_pow, Int.natCast_pow] at h2
  exact h2
/-- A number in so many bytes, the highest first. -/
def beL (n : Int) : Nat → List Int
  | 0 => []
  | m + 1 => beL (n / 256) m ++ [n % 256]
theorem beL_length (n : Int) (m : Nat) : (beL n m).length = m := by
  induction m generalizing n with
  | zero => rfl
  | succ m ih => simp [beL, ih]
theorem beL_bytes (n : Int) (m : Nat) : IsBytes (beL n m) := by
  induction m generalizing n with
  | zero => exact IsBytes.nil
  | succ m ih => exact (ih _).append (IsBytes.cons (by omega) (by omega) IsBytes.nil)
/-- The number that bytes tell, behind what there is. -/
def beN : Int → List Int → Int
  | a, [] => a
  | a, x :: xs => beN (a * 256 + x) xs
theorem beN_append (a : Int) (l m : List Int) : beN a (l ++ m) = beN (beN a l) m := by
  induction l generalizing a with
  | nil => rfl
  | cons x l ih => exact ih _
theorem beN_beL (n : Int) (m : Nat) (h0 : 0 ≤ n) (h : n < 256 ^ m) : beN 0 (beL n m) = n := by
  induction m generalizing n with
  | zero => simp [beL, beN] at *; omega
  | succ m ih =>
    rw [beL, beN_append, ih (n / 256) (by omega) (by rw [Int.pow_succ] at h; omega)]
    simp [beN]
    omega
theorem beN_bounds : ∀ (l : List Int) (a : Int), IsBytes l → 0 ≤ a → 0 ≤ beN a l ∧ beN a l < (a + 1) * 256 ^ l.length
  | [], a, _, ha => by simp [beN]; omega
  | x :: xs, a, h, ha => by
    have hx := h x List.mem_cons_self
    have ih := beN_bounds xs (a * 256 + x) (fun y hy => h y (List.mem_cons_of_mem _ hy)) (by omega)
    refine ⟨ih.1, Int.lt_of_lt_of_le ih.2 ?_⟩
    have e : (a + 1) * 256 ^ (x :: xs).length = ((a + 1) * 256) * 256 ^ xs.length := by
      rw [List.length_cons, Int.pow_succ, Int.mul_comm (256 ^ xs.length) 256, Int.mul_assoc]
    rw [e]
    exact Int.mul_le_mul_of_nonneg_right (by omega) (Int.pow_nonneg (by decide))
theorem beL_beN (l : List Int) (h : IsBytes l) : beL (beN 0 l) l.length = l := by
  have key : ∀ (k : Nat) (l : List Int), l.length = k → IsBytes l → beL (beN 0 l) l.length = l := by
    intro k
    induction k with
    | zero => intro l hl _; rw [List.length_eq_zero_iff.1 hl]; rfl
    | succ k ih =>
      intro l hl h
      have hne : l ≠ [] := by intro e; subst e; simp at hl
      obtain ⟨m, x, rfl⟩ : ∃ m x, l = m ++ [x] := ⟨l.dropLast, l.getLast hne, (List.dropLast_concat_getLast hne).symm⟩
      have hm : m.length = k := by simpa using hl
      have hx := h x (by simp)
      have e1 : beN 0 (m ++ [x]) = beN 0 m * 256 + x := by rw [beN_append]; rfl
      have e2 : (beN 0 m * 256 + x) / 256 = beN 0 m := by omega
      have e3 : (beN 0 m * 256 + x) % 256 = x := by omega
      rw [e1, List.length_append, List.length_singleton, beL, e2, e3, ih m hm h.left]
  exact key _ l rfl h
theorem number_l1 {R : Type} (kk : List Int → Option R) : ∀ (j n : Nat) (x : Int) (out : List Int), j ≤ out.length → j < 1000 → j < n → i_number.l1 kk n x ((j : Int) - 1) out = kk (beL x j ++ out.drop j)
  | 0, n + 1, x, out, _, _, _ => by
    simp only [i_number.l1, decide_f (show ¬ ((0 : Nat) : Int) - 1 ≥ 0 by omega), cond_false]
    simp [beL]
  | j + 1, n + 1, x, out, h1, h2, h3 => by
    have e : (((j + 1 : Nat) : Int) - 1) = j := by omega
    rw [e]
    simp only [i_number.l1]
    rw [decide_t (by omega : (j : Int) ≥ 0), cond_true, grd_of (gIx_t (by omega) (by omega)), grd_of (gSh_t (by omega)), wr (by omega) (by omega), shr8, wr8m]
    rw [number_l1 kk j n (x / 256) _ (by simp [setE]; omega) (by omega) (by omega)]
    congr 1
    have hj : j < out.length := by omega
    simp only [setE, Int.toNat_natCast, beL, List.append_assoc]
    congr 1
    rw [List.drop_set_of_lt_drop hj]
where
  List.drop_set_of_lt_drop {out : List Int} {j : Nat} {a : Int} (hj : j < out.length) : (out.set j a).drop j = [a] ++ out.drop (j + 1) := by
    rw [List.drop_eq_getElem_cons (by simpa using hj), List.getElem_set_self, List.drop_set_of_lt (by omega)]
    rfl
theorem number_eq (x : Int) (m : Nat) (h : m < 1000) : i_number x m = some (strL (beL x m)) := by
  obtain ⟨q, hq⟩ := fuel_gt (n := m) (by omega)
  have hl : (List.replicate (Int.toNat (m : Int)) (0 : Int)).length = m := by simp
  unfold i_number i_number.F
  rw [grd_of (gMk_t (by omega) (by omega) (by omega)), wr (by omega) (by omega), number_l1 _ m fuel x _ (by omega) h (by omega)]
  congr 2
  rw [List.drop_of_length_le (by omega), List.append_nil]
theorem numberOf_l1 {R : Type} (kk : Int → Option R) (l : List Int) (h : IsBytes l) (hl : l.length ≤ 7) : ∀ (j n : Nat) (a : Int), j ≤ l.length → j < n → 0 ≤ a → a < 256 ^ (l.length - j) →
    i_numberOf.l1 kk n (strL l) a l.length ((l.length - j : Nat) : Int) = kk (beN a (l.drop (l.length - j)))
  | 0, n + 1, a, _, _, _, _ => by
    simp only [i_numberOf.l1, Nat.sub_zero, decide_f (show ¬ (l.length : Int) < l.length by omega), cond_false, List.drop_length, beN]
  | j + 1, n + 1, a, h1, h2, h3, h4 => by
    have hi : l.length - (j + 1) < l.length := by omega
    have hb := h.get hi
    have h6 : a < 256 ^ 6 := Int.lt_of_lt_of_le h4 (by
      have : (256 : Int) ^ (l.length - (j + 1)) ≤ 256 ^ 6 := pow256_le (by omega)
      exact this)
    simp only [i_numberOf.l1]
    rw [decide_t (by omega : ((l.length - (j + 1) : Nat) : Int) < l.length), cond_true, grd_of (gSh_t (by omega)), grd_of (gIx_t (by omega) (by rw [strL_size]; omega)), byteAt_strL h (by omega) (by omega), shl8]
    have e0 : l.getD (Int.toNat ((l.length - (j + 1) : Nat) : Int)) 0 = l[l.length - (j + 1)] := by
      rw [Int.toNat_natCast, List.getD_eq_getElem?_getD, List.getElem?_eq_getElem hi]; rfl
    rw [e0]
    have e1 : IntKind.wrap .i64 (a * 256) = a * 256 := wr (by omega) (by omega)
    rw [e1, wr (x := l[l.length - (j + 1)]) (by omega) (by omega), wr (x := a * 256 + l[l.length - (j + 1)]) (by omega) (by omega), wr (by omega) (by omega)]
    have e2 : (((l.length - (j + 1) : Nat) : Int) + 1) = ((l.length - j : Nat) : Int) := by omega
    rw [e2, numberOf_l1 kk l h hl j n _ (by omega) (by omega) (by omega) ?_]
    · rw [drop_cons hi, show l.length - (j + 1) + 1 = l.length - j by omega]
      rfl
    · have : (256 : Int) ^ (l.length - j) = 256 ^ (l.length - (j + 1)) * 256 := by
        rw [← Int.pow_succ]; congr 1; omega
      rw [this]
      omega
theorem numberOf_eq (l : List Int) (h : IsBytes l) (hl : l.length ≤ 7) : i_numberOf (strL l) = some (beN 0 l) := by
  unfold i_numberOf i_numberOf.F
  rw [strL_size]
  have := numberOf_l1 (fun n_ => some n_) l h hl l.length fuel 0 (Nat.le_refl _) (by rw [fuel_eq]; omega) (by omega) (by simp)
  simpa using this
theorem within_eq (n lo hi : Int) : i_within n lo hi = some (decide (lo ≤ n) && decide (n ≤ hi)) := by
  unfold i_within i_within.F
  by_cases h : n ≥ lo
  · simp [h]
  · simp [h]
theorem l01In_eq (n lo hi : Int) : s_l01In n lo hi = some (decide (lo ≤ n) && decide (n ≤ hi)) := by
  unfold s_l01In s_l01In.F
  by_cases h : n ≥ lo
  · simp [h]
  · simp [h]
end Go.Proofs.YtdpjbeeokimnaaaA
