/-
  Members of a group, read from bytes: the program's and the reference's test agree. No condition.
-/
import Derived.Test.YtdpjbeeokimnaaaPRead
import Derived.Test.YtdpjbeeokimnaaaPFind
namespace Go.Proofs.YtdpjbeeokimnaaaA
open Go
set_option linter.unusedVariables false
set_option linter.unusedSimpArgs false

def inSeven (n : Int) : Bool := decide (0 ≤ n) && decide (n ≤ 6)
def rising : List Int → Bool
  | [] => true
  | x :: xs => (match xs with | [] => true | y :: _ => decide (x < y)) && rising xs
def memOK (l : List Int) : Bool := decide (0 < l.length) && l.all inSeven && rising l
theorem not_any_not {α : Type} (q : α → Bool) (l : List α) : (!(l.any fun x => !q x)) = l.all q := by
  induction l with
  | nil => rfl
  | cons x l ih => rw [List.any_cons, List.all_cons, ← ih]; cases q x <;> simp
theorem areNumbers_eq (l : List Int) (hl : l.length ≤ 9223372036854775806) : i_areNumbers l = some (l.all inSeven) := by
  have h1 : i_areNumbers l = some (!(l.any fun x => !inSeven x)) := by
    unfold i_areNumbers i_areNumbers.F slices_ContainsFunc_SLint_int slices_ContainsFunc_SLint_int.F slices_IndexFunc_SLint_int slices_IndexFunc_SLint_int.F
    have hq : ∀ x ∈ l, (fun x : Int => (fun t : Int × Unit => (i_areNumbers_1 t.1).bind fun a => some (a, ())) (x, ())) x = some (!inSeven x, ()) := by
      intro x _
      simp only [i_areNumbers_1, i_areNumbers_1.F, within_eq, Option.bind_some, inSeven]
    have := find_loop (k := .int .i64) (L := slices_IndexFunc_SLint_int.l1 (fun t => (i_areNumbers_1 t.1).bind fun a => some (a, ())) (some (-1 : Int)) (fun i => some i)) (fun n s i j => rfl) hl hq l.length fuel 0 (by omega) (by rw [fuel_eq]; omega)
    rw [Int.natCast_zero] at this
    rw [this, List.drop_zero, ← findIdx_any]
    cases l.findIdx? fun x => !inSeven x with
    | none => rfl
    | some d => simp
  rw [h1, not_any_not]
theorem rising_l1 (l : List Int) (hl : l.length ≤ 9223372036854775806) : ∀ (m n j : Nat), j + 1 + m = l.length → m < n → i_areRising.l1 (some true) (fun b => some b) n l ((j + 1 : Nat) : Int) = some (rising (l.drop j))
  | 0, n + 1, j, e, _ => by
    have hj : j < l.length := by omega
    simp only [i_areRising.l1, decide_f (show ¬ ((j + 1 : Nat) : Int) < l.length by omega), cond_false]
    rw [drop_cons hj, List.drop_of_length_le (by omega)]
    rfl
  | m + 1, n + 1, j, e, h => by
    have hj : j < l.length := by omega
    have hj1 : j + 1 < l.length := by omega
    simp only [i_areRising.l1, decide_t (show ((j + 1 : Nat) : Int) < l.length by omega), cond_true]
    rw [wr (x := ((j + 1 : Nat) : Int) - 1) (by omega) (by omega), wr (x := ((j + 1 : Nat) : Int) + 1) (by omega) (by omega)]
    rw [grd_of (gIx_t (by omega) (by omega)), grd_of (gIx_t (by omega) (by omega)), show (((j + 1 : Nat) : Int) - 1).toNat = j by omega, Int.toNat_natCast, rdE_at (k := .int .i64) hj, rdE_at (k := .int .i64) hj1]
    rw [show (((j + 1 : Nat) : Int) + 1) = ((j + 1 + 1 : Nat) : Int) by omega, rising_l1 l hl m n (j + 1) (by omega) (by omega)]
    rw [drop_cons hj, drop_cons hj1]
    simp only [rising]
    by_cases hlt : l[j] < l[j + 1]
    · rw [decide_f (by omega : ¬ l[j] ≥ l[j + 1]), cond_false, decide_t hlt, Bool.true_and]
    · rw [decide_t (by omega : l[j] ≥ l[j + 1]), cond_true, decide_f hlt, Bool.false_and]
theorem areRising_eq (l : List Int) (hl : l.length ≤ 9223372036854775806) : i_areRising l = some (rising l) := by
  unfold i_areRising i_areRising.F
  rcases Nat.eq_zero_or_pos l.length with h | h
  · rw [List.length_eq_zero_iff.1 h]
    obtain ⟨q, hq⟩ := fuel_gt (n := 0) (by omega)
    rw [hq]
    rfl
  · have := rising_l1 l hl (l.length - 1) fuel 0 (by omega) (by rw [fuel_eq]; omega)
    rw [List.drop_zero] at this
    exact this
theorem membersOK_eq (l : List Int) (hl : l.length ≤ 9223372036854775806) : i_membersOK l = some (memOK l) := by
  unfold i_membersOK i_membersOK.F memOK
  rw [areNumbers_eq l hl, areRising_eq l hl]
  by_cases h : 0 < l.length
  · rw [decide_t (by omega : (l.length : Int) > 0), cond_true, Option.bind_some, decide_t h, Bool.true_and]
    cases l.all inSeven <;> rfl
  · rw [decide_f (by omega : ¬ (l.length : Int) > 0), cond_false, decide_f h, Bool.false_and, Bool.false_and]
theorem readMembers_l1 (l : List Int) (hb : IsBytes l) (hl : l.length ≤ 1000000000000) {R : Type} (kk : List Int → Option R) : ∀ (m n j : Nat), j + m = l.length → m < n → i_readMembers.l1 kk n (strL l) l.length j (l.take j) = kk l
  | 0, n + 1, j, e, _ => by
    simp only [i_readMembers.l1, decide_f (show ¬ (j : Int) < l.length by omega), cond_false]
    rw [List.take_of_length_le (by omega)]
  | m + 1, n + 1, j, e, h => by
    have hj : j < l.length := by omega
    have hg := hb.get hj
    simp only [i_readMembers.l1, decide_t (show (j : Int) < l.length by omega), cond_true]
    have e0 : l.getD (Int.toNat (j : Int)) 0 = l[j] := by
      rw [Int.toNat_natCast, List.getD_eq_getElem?_getD, List.getElem?_eq_getElem hj]; rfl
    rw [grd_of (gIx_t (by omega) (by rw [strL_size]; omega)), grd_of (gRm_t (by simp; omega)), byteAt_strL hb (by omega) (by omega), e0, wr (x := l[j]) (by omega) (by omega), wr (by omega) (by omega), ← take_snoc hj, show ((j : Int) + 1) = ((j + 1 : Nat) : Int) by omega]
    exact readMembers_l1 l hb hl kk m n (j + 1) (by omega) (by omega)
theorem readMembers_eq (l : List Int) (hb : IsBytes l) (hl : l.length ≤ 1000000000000) : i_readMembers (strL l) = some (l, memOK l) := by
  unfold i_readMembers i_readMembers.F
  rw [strL_size]
  have := readMembers_l1 l hb hl (fun out => (i_membersOK out).bind fun r => some (out, r)) l.length fuel 0 (by omega) (by rw [fuel_eq]; omega)
  rw [List.take_zero, Int.natCast_zero] at this
  rw [this, membersOK_eq l (by omega)]
  rfl
/-- The reference's test of a row, from place j on. -/
def memS (l : List Int) : Bool := l.all inSeven && rising l
theorem memS_step (l : List Int) (j : Nat) (h1 : j + 1 < l.length) : memS (l.drop j) = (inSeven (l[j]'(by omega)) && decide (l[j]'(by omega) < l[j + 1]) && memS (l.drop (j + 1))) := by
  rw [drop_cons (show j < l.length by omega), drop_cons h1]
  simp only [memS, List.all_cons, rising]
  cases inSeven l[j] <;> cases inSeven l[j + 1] <;> cases decide (l[j] < l[j + 1]) <;> simp
theorem l02Members_l1 (l : List Int) (hb : IsBytes l) (hl : l.length ≤ 1000000000000) {R : Type} (ke : List Int → Option R) (kr : Bool → List Int → Option R) : ∀ (m n j : Nat), j + m = l.length → m < n → (j = 0 ∨ (0 < j ∧ ∃ h : j - 1 < l.length, inSeven l[j - 1] = true)) →
    s_l02Members.l1 ke kr n (strL l) j (l.take j) = if memS (l.drop (j - 1)) = true then ke l else kr false []
  | 0, n + 1, j, e, _, h0 => by
    simp only [s_l02Members.l1]
    rw [decide_f (show ¬ (j : Int) < (strL l).size by rw [strL_size]; omega), cond_false, List.take_of_length_le (by omega)]
    rw [if_pos]
    rcases h0 with rfl | ⟨hp, h, h1⟩
    · rw [show l = [] from List.length_eq_zero_iff.1 (by omega)]; rfl
    · rw [drop_cons h, show j - 1 + 1 = j by omega, List.drop_of_length_le (by omega)]
      simp [memS, rising, h1]
  | m + 1, n + 1, j, e, hn, h0 => by
    have hj : j < l.length := by omega
    have hg := hb.get hj
    have e0 : byteAt (strL l) (j : Int) = l[j] := by
      rw [byteAt_strL hb (by omega) (by omega), Int.toNat_natCast, List.getD_eq_getElem?_getD, List.getElem?_eq_getElem hj]; rfl
    simp only [s_l02Members.l1]
    rw [decide_t (show (j : Int) < (strL l).size by rw [strL_size]; omega), cond_true, e0, wr (x := l[j]) (by omega) (by omega), l01In_eq, Option.bind_some]
    rw [grd_of (gIx_t (by omega) (by rw [strL_size]; omega)), show (decide ((0 : Int) ≤ l[j]) && decide (l[j] ≤ 6)) = inSeven l[j] from rfl]
    have hrec : s_l02Members.l1 ke kr n (strL l) ((j + 1 : Nat) : Int) (l.take (j + 1)) = if inSeven l[j] = true then (if memS (l.drop j) = true then ke l else kr false []) else s_l02Members.l1 ke kr n (strL l) ((j + 1 : Nat) : Int) (l.take (j + 1)) := by
      by_cases hs : inSeven l[j] = true
      · rw [if_pos hs, l02Members_l1 l hb hl ke kr m n (j + 1) (by omega) (by omega) (.inr ⟨by omega, by omega, by simpa using hs⟩)]
        rfl
      · rw [if_neg hs]
    rw [wr (x := (j : Int) + 1) (by omega) (by omega), wr (x := (j : Int) - 1) (by omega) (by omega), grd_of (gRm_t (by simp; omega)), ← take_snoc hj, show ((j : Int) + 1) = ((j + 1 : Nat) : Int) by omega]
    cases hs : inSeven l[j] with
    | false =>
      simp only [Bool.not_false, cond_true]
      rw [if_neg]
      have : memS (l.drop j) = false := by
        rw [drop_cons hj]; simp only [memS, List.all_cons, hs, Bool.false_and]
      rcases h0 with rfl | ⟨hp, h, h1⟩
      · rw [this]; simp
      · rw [memS_step l (j - 1) (by omega)]; simp only [show j - 1 + 1 = j by omega, this]; simp
    | true =>
      rw [hrec, if_pos hs]
      simp only [Bool.not_true, cond_false]
      rcases h0 with rfl | ⟨hp, h, h1⟩
      · rw [decide_f (by omega : ¬ ((0 : Nat) : Int) > 0), cond_false, grd_of (gIx_t (by omega) (by rw [strL_size]; omega))]
      · have ep : byteAt (strL l) ((j : Int) - 1) = l[j - 1] := by
          rw [byteAt_strL hb (by omega) (by omega), show ((j : Int) - 1).toNat = j - 1 by omega, List.getD_eq_getElem?_getD, List.getElem?_eq_getElem h]; rfl
        rw [decide_t (by omega : (j : Int) > 0), cond_true, grd_of (gIx_t (by omega) (by rw [strL_size]; omega)), grd_of (gIx_t (by omega) (by rw [strL_size]; omega)), ep]
        have := memS_step l (j - 1) (by omega)
        simp only [show j - 1 + 1 = j by omega, h1, Bool.true_and] at this
        rw [this]
        by_cases hlt : l[j - 1] < l[j]
        · rw [decide_f (by omega : ¬ l[j - 1] ≥ l[j]), cond_false, decide_t hlt, Bool.true_and, grd_of (gIx_t (by omega) (by rw [strL_size]; omega))]
        · rw [decide_t (by omega : l[j - 1] ≥ l[j]), cond_true, decide_f hlt, Bool.false_and, if_neg (by simp)]
theorem l02Members_eq (l : List Int) (hb : IsBytes l) (hl : l.length ≤ 1000000000000) : s_l02Members (strL l) = some (if memS l = true then (l, decide (0 < l.length)) else ([], false)) := by
  unfold s_l02Members s_l02Members.F
  have := l02Members_l1 l hb hl (fun out => some (out, decide ((List.length out : Int) > (0 : Int)))) (fun b l => some (l, b)) l.length fuel 0 (by omega) (by rw [fuel_eq]; omega) (.inl rfl)
  rw [List.take_zero, Int.natCast_zero] at this
  rw [this]
  simp only [Nat.zero_sub, List.drop_zero]
  split
  · congr 2
    rw [Bool.eq_iff_iff, decide_eq_true_iff, decide_eq_true_iff]
    omega
  · rfl
theorem memOK_S (l : List Int) : memOK l = (decide (0 < l.length) && memS l) := by
  unfold memOK memS
  rw [Bool.and_assoc]
theorem members_agree (l : List Int) (hb : IsBytes l) (hl : l.length ≤ 1000000000000) : ∃ m, s_l02Members (strL l) = some (m, memOK l) := by
  rw [l02Members_eq l hb hl, memOK_S]
  cases memS l with
  | true => exact ⟨l, by simp⟩
  | false => exact ⟨[], by simp⟩
end Go.Proofs.YtdpjbeeokimnaaaA
