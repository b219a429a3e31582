/-
  Readers of bytes: what the program's and the reference's take. No condition.
-/
import Derived.Test.YtdpjbeeokimnaaaPNum
namespace Go.Proofs.YtdpjbeeokimnaaaA
open Go
set_option linter.unusedVariables false
set_option linter.unusedSimpArgs false

theorem take_ok (l : List Int) (m : Int) (h0 : 0 ≤ m) (h1 : m ≤ l.length) : i_reader_take (strL l) false m = some (strL (l.take m.toNat), strL (l.drop m.toNat), false) := by
  unfold i_reader_take i_reader_take.F
  rw [cond_false, decide_f (by rw [strL_size]; omega), cond_false, strL_size, grd_of (gSl_t (by omega) (by omega) (by omega)), grd_of (gSl_t (by omega) (by omega) (by omega)), cut_strL, cut_strL, sub_take, sub_drop l m rfl]
theorem take_no (l : List Int) (m : Int) (h1 : (l.length : Int) < m) : i_reader_take (strL l) false m = some (ByteArray.empty, strL l, true) := by
  unfold i_reader_take i_reader_take.F
  rw [cond_false, decide_t (by rw [strL_size]; omega), cond_true]
theorem take_bad (s : ByteArray) (m : Int) : i_reader_take s true m = some (ByteArray.empty, s, true) := rfl
theorem numberOf_nil : i_numberOf ByteArray.empty = some 0 := by
  have := numberOf_eq [] IsBytes.nil (by simp)
  exact this
theorem rnum_ok (l : List Int) (hb : IsBytes l) (m : Nat) (hm : m ≤ 7) (h1 : m ≤ l.length) : i_reader_number (strL l) false m = some (beN 0 (l.take m), strL (l.drop m), false) := by
  unfold i_reader_number i_reader_number.F
  rw [take_ok l m (by omega) (by omega), Option.bind_some, Int.toNat_natCast, numberOf_eq _ (hb.take m) (by simp; omega)]
  rfl
theorem rnum_no (l : List Int) (m : Int) (h1 : (l.length : Int) < m) : i_reader_number (strL l) false m = some (0, strL l, true) := by
  unfold i_reader_number i_reader_number.F
  rw [take_no l m h1, Option.bind_some, numberOf_nil]
  rfl
theorem rnum_bad (s : ByteArray) (m : Int) : i_reader_number s true m = some (0, s, true) := by
  unfold i_reader_number i_reader_number.F
  rw [take_bad, Option.bind_some, numberOf_nil]
  rfl
theorem rcnt_bad (s : ByteArray) : i_reader_counted s true = some (ByteArray.empty, s, true) := by
  unfold i_reader_counted i_reader_counted.F
  rw [rnum_bad, Option.bind_some, take_bad]
  rfl
/-- A text behind its length. -/
theorem rcnt_ok (a : Int) (l : List Int) (hb : IsBytes (a :: l)) (h : a ≤ l.length) : i_reader_counted (strL (a :: l)) false = some (strL (l.take a.toNat), strL (l.drop a.toNat), false) := by
  have ha := hb a List.mem_cons_self
  unfold i_reader_counted i_reader_counted.F
  have := rnum_ok (a :: l) hb 1 (by omega) (by simp)
  rw [show ((1 : Nat) : Int) = 1 by rfl] at this
  rw [this, Option.bind_some]
  have e : beN 0 (List.take 1 (a :: l)) = a := by simp [beN]
  simp only [e, List.drop_succ_cons, List.drop_zero]
  rw [take_ok l a (by omega) (by omega)]
  rfl
theorem rcnt_nil : i_reader_counted (strL []) false = some (ByteArray.empty, strL [], true) := by
  unfold i_reader_counted i_reader_counted.F
  rw [rnum_no [] 1 (by simp), Option.bind_some, take_bad]
  rfl
theorem rcnt_no (a : Int) (l : List Int) (hb : IsBytes (a :: l)) (h : (l.length : Int) < a) : i_reader_counted (strL (a :: l)) false = some (ByteArray.empty, strL l, true) := by
  have ha := hb a List.mem_cons_self
  unfold i_reader_counted i_reader_counted.F
  have := rnum_ok (a :: l) hb 1 (by omega) (by simp)
  rw [show ((1 : Nat) : Int) = 1 by rfl] at this
  rw [this, Option.bind_some]
  have e : beN 0 (List.take 1 (a :: l)) = a := by simp [beN]
  simp only [e, List.drop_succ_cons, List.drop_zero]
  rw [take_no l a h]
  rfl

/-! ### The reference's reader -/
theorem snum_l1 {R : Type} (ke kr : Int → List Int → Int → Bool → Option R) (l : List Int) (hb : IsBytes l) (hl : l.length ≤ 1000000) (m : Nat) (hm : m ≤ 7) : ∀ (j n i p : Nat) (a : Int), i + j = m → j < n → p ≤ l.length → 0 ≤ a → a < 256 ^ i →
    s_l02Reader_number.l1 ke kr n m a i l p false = if p + j ≤ l.length then ke (beN a ((l.drop p).take j)) l ((p + j : Nat) : Int) false else kr 0 l l.length true
  | 0, n + 1, i, p, a, e, _, hp, h0, h1 => by
    simp only [s_l02Reader_number.l1, decide_f (show ¬ (i : Int) < m by omega), cond_false, Nat.add_zero, if_pos hp, List.take_zero, beN]
  | j + 1, n + 1, i, p, a, e, hn, hp, h0, h1 => by
    simp only [s_l02Reader_number.l1, decide_t (show (i : Int) < m by omega), cond_true, cond_false]
    by_cases hlt : p < l.length
    · have hg := hb.get hlt
      have h6 : a < 256 ^ 6 := Int.lt_of_lt_of_le h1 (pow256_le (by omega))
      have e256 : (256 : Int) ^ 6 = 281474976710656 := by decide
      rw [decide_f (by omega : ¬ (p : Int) ≥ l.length), cond_false, grd_of (gIx_t (by omega) (by omega)), Int.toNat_natCast, rdE_at hlt]
      have e1 : IntKind.wrap .i64 (a * 256) = a * 256 := wr (by omega) (by omega)
      rw [e1, wr (x := l[p]) (by omega) (by omega), wr (x := a * 256 + l[p]) (by omega) (by omega), wr (x := (i : Int) + 1) (by omega) (by omega), wr (x := (p : Int) + 1) (by omega) (by omega)]
      have := snum_l1 ke kr l hb hl m hm j n (i + 1) (p + 1) (a * 256 + l[p]) (by omega) (by omega) (by omega) (by omega) (by rw [Int.pow_succ]; omega)
      rw [show ((i : Int) + 1) = ((i + 1 : Nat) : Int) by omega, show ((p : Int) + 1) = ((p + 1 : Nat) : Int) by omega, this]
      rw [show p + 1 + j = p + (j + 1) by omega, drop_cons hlt]
      rfl
    · rw [decide_t (by omega : (p : Int) ≥ l.length), cond_true, if_neg (by omega)]
      congr 1
      omega
theorem snum_eq (l : List Int) (hb : IsBytes l) (hl : l.length ≤ 1000000) (m : Nat) (hm : m ≤ 7) (p : Nat) (hp : p ≤ l.length) :
    s_l02Reader_number l p false m = if p + m ≤ l.length then some (beN 0 ((l.drop p).take m), l, ((p + m : Nat) : Int), false) else some (0, l, (l.length : Int), true) := by
  unfold s_l02Reader_number s_l02Reader_number.F
  exact snum_l1 _ _ l hb hl m hm m fuel 0 p 0 (by omega) (by rw [fuel_eq]; omega) hp (by omega) (by simp)
theorem snum_bad (l : List Int) (p : Int) (m : Int) (h : 0 < m) : s_l02Reader_number l p true m = some (0, l, p, true) := by
  unfold s_l02Reader_number s_l02Reader_number.F
  obtain ⟨q, hq⟩ := fuel_gt (n := 0) (by omega)
  rw [hq]
  simp only [s_l02Reader_number.l1, decide_t h, cond_true]
theorem stext_bad (l : List Int) (p m : Int) : s_l02Reader_text l p true m = some (ByteArray.empty, l, p, true) := rfl
theorem stext_eq (l : List Int) (hl : l.length ≤ 1000000) (p : Nat) (hp : p ≤ l.length) (m : Int) (h0 : 0 ≤ m) (h1 : m ≤ 1000000) :
    s_l02Reader_text l p false m = if p + m.toNat ≤ l.length then some (strL ((l.drop p).take m.toNat), l, ((p + m.toNat : Nat) : Int), false) else some (ByteArray.empty, l, (p : Int), true) := by
  unfold s_l02Reader_text s_l02Reader_text.F
  rw [cond_false, decide_f (by omega : ¬ m < 0), cond_false, wr (by omega) (by omega)]
  by_cases h : p + m.toNat ≤ l.length
  · rw [decide_f (by omega), cond_false, wr (by omega) (by omega), grd_of (gSl_t (by omega) (by omega) (by omega)), if_pos h]
    have e1 : ((p : Int) + m - m) = p := by omega
    have e2 : ((p : Int) + m) = ((p + m.toNat : Nat) : Int) := by omega
    rw [e1, e2]
    congr 3
    unfold sub
    rw [Int.toNat_natCast, Int.toNat_natCast, List.drop_take]
    congr 1
    omega
  · rw [decide_t (by omega), cond_true, if_neg h]
end Go.Proofs.YtdpjbeeokimnaaaA
