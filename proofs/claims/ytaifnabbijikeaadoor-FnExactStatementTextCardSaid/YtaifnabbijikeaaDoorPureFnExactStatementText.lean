/-
  For every argument the law FnExactStatementText returns true: the program's StatementText answers as the reference's.
  No condition but what the row itself says of its arguments.
-/
import Derived.Test.YtaifnabbijikeaaDoorSFnExactStatementText
import Derived.Test.YtaifnabbijikeaaDoorFamFnExactStatementText
import Derived.Test.YtaifnabbijikeaaDoorXpBytes
namespace Go.Proofs.YtaifnabbijikeaaDoor.Pure
open Go.RowKit Go.Proofs.YtaifnabbijikeaaDoor.Q Go.Proofs.YtaifnabbijikeaaDoorX Go.Proofs.YtaifnabbijikeaaDoor.FamFnExactStatementText Go.Proofs.YtaifnabbijikeaaDoorW.PrintWords Go.Proofs.YtaifnabbijikeaaDoorW.PrintLast
set_option linter.unusedVariables false
set_option linter.unusedSimpArgs false

theorem digits_all : ∀ m : Fin 51, (strconv_small.f ((m.val : Nat) : Int)).map (fun b => b.data.toList) = (spec_l00Digits.f 3 ((m.val : Nat) : Int)).map (fun b => b.data.toList) ∧ (strconv_small.f ((m.val : Nat) : Int)).any (fun b => b.size ≤ 2) = true := by decide +kernel
theorem digits_rel (n : Int) (h0 : 0 ≤ n) (h1 : n ≤ 50) : ∃ t, t.size ≤ 2 ∧ strconv_Itoa_17.f n = some t ∧ Ev (fun k => spec_l00Digits.f k n) t := by
  obtain ⟨m, rfl⟩ : ∃ m : Nat, n = (m : Int) := ⟨n.toNat, by omega⟩
  have hm : m < 51 := by omega
  obtain ⟨e1, e2⟩ := digits_all ⟨m, hm⟩
  simp only at e1 e2
  cases hs : strconv_small.f (m : Int) with
  | none => rw [hs] at e2; cases e2
  | some t =>
    rw [hs] at e1 e2
    have hsz : t.size ≤ 2 := by simpa using e2
    obtain ⟨u, hu, he⟩ := Option.map_eq_some_iff.1 e1.symm
    have htu : u = t := byteArray_ext he
    subst htu
    refine ⟨u, hsz, ?_, Ev.of (fun k => spec_l00Digits.mono _ k) hu⟩
    have hc : (10 : Int) = 10 ∧ 0 ≤ (m : Int) ∧ (m : Int) < 100 := ⟨rfl, by omega, by omega⟩
    unfold strconv_Itoa_17.f strconv_Itoa_21.f strconv_FormatInt.f
    rw [if_pos hc, hs]
    rfl
theorem and15 (b : Int) (h : 0 ≤ b ∧ b ≤ 255) : Go.bits .and .u8 b 15 = b % 16 := by
  obtain ⟨m, rfl⟩ : ∃ m : Nat, b = (m : Int) := ⟨b.toNat, by omega⟩
  have hm : m < 256 := by omega
  have := (show ∀ q : Fin 256, Go.bits .and .u8 ((q.val : Nat) : Int) 15 = ((q.val : Nat) : Int) % 16 by decide +kernel) ⟨m, hm⟩
  exact this
theorem hex_l0 (x : ByteArray) (hx : x.size ≤ 1000000) : ∀ (d : Nat) (i : Int) (acc : List Int), 0 ≤ i → i + d = x.size → acc.length + 2 * d ≤ 2000000 → ∃ r, r.size = acc.length + 2 * d ∧ Ev (fun k => spec_l01Hex.l0 k x acc i) r ∧ Ev (fun k => impl_hexOf.l0 k x acc (x.size : Int) i) r := by
  intro d
  induction d with
  | zero =>
    intro i acc h0 h1 h2
    refine ⟨strOfNums acc, by rw [strOf_size]; omega, Ev.step (fun k => by rw [spec_l01Hex.l0]) ?_, Ev.step (fun k => by rw [impl_hexOf.l0]) ?_⟩ <;> simp only [if_neg (show ¬ i < (x.size : Int) by omega)] <;> exact Ev.now _
  | succ d ih =>
    intro i acc h0 h1 h2
    have hi : i < (x.size : Int) := by omega
    have hb := bt_range x i
    have hw : wrap64 (i + 1) = i + 1 := by unfold wrap64; omega
    have e1 : Int.tdiv (bt x i) 16 % 256 = bt x i / 16 := by
      rw [Int.tdiv_eq_ediv_of_nonneg hb.1]
      omega
    have e2 : Int.tmod (bt x i) 16 = bt x i % 16 := Int.tmod_eq_emod_of_nonneg hb.1
    have e3 := and15 (bt x i) hb
    obtain ⟨r, h3, h4, h5⟩ := ih (i + 1) (acc ++ [bt (⟨#[48, 49, 50, 51, 52, 53, 54, 55, 56, 57, 97, 98, 99, 100, 101, 102]⟩ : ByteArray) (bt x i / 16), bt (⟨#[48, 49, 50, 51, 52, 53, 54, 55, 56, 57, 97, 98, 99, 100, 101, 102]⟩ : ByteArray) (bt x i % 16)]) (by omega) (by omega) (by simp; omega)
    refine ⟨r, by rw [h3]; simp; omega, Ev.step (fun k => by rw [spec_l01Hex.l0]) ?_, Ev.step (fun k => by rw [impl_hexOf.l0]) ?_⟩
    · simp only [if_pos hi, if_pos h0, e1, e2, if_pos (show 0 ≤ bt x i / 16 by omega), if_pos (show bt x i / 16 < 16 by omega), if_pos (show 0 ≤ bt x i % 16 by omega), if_pos (show bt x i % 16 < 16 by omega), Option.bind_some, List.length_cons, List.length_nil, if_pos (show acc.length + (0 + 1 + 1) < 140737488355328 by omega), hw]
      exact h4
    · simp only [if_pos hi, if_pos h0, e3, if_pos (show 0 ≤ bt x i / 16 by omega), if_pos (show bt x i / 16 < 16 by omega), if_pos (show 0 ≤ bt x i % 16 by omega), if_pos (show bt x i % 16 < 16 by omega), Option.bind_some, List.length_cons, List.length_nil, if_pos (show acc.length + (0 + 1 + 1) < 140737488355328 by omega), hw]
      exact h5
theorem hex_rel (x : ByteArray) (hx : x.size = 32) : ∃ r, r.size = 64 ∧ Ev (fun k => spec_l01Hex.f k x) r ∧ Ev (fun k => impl_hexOf.f k x) r := by
  obtain ⟨r, h1, h2, h3⟩ := hex_l0 x (by omega) 32 0 [] (by omega) (by omega) (by simp)
  exact ⟨r, by simpa using h1, h2, h3⟩
theorem text_rel (n : Int) (a b : ByteArray) (h0 : 0 ≤ n) (h1 : n ≤ 50) (ha : a.size = 32) (hb : b.size = 32) : ∃ r, Ev (fun k => spec_l15Text.f k n a b) r ∧ Ev (fun k => impl_Statement_text.f k n a b) r := by
  obtain ⟨t, ht, e1, e2⟩ := digits_rel n h0 h1
  obtain ⟨u, hu, e3, e4⟩ := hex_rel a ha
  obtain ⟨v, hv, e5, e6⟩ := hex_rel b hb
  have s5 : (⟨#[115, 105, 122, 101, 32]⟩ : ByteArray).size = 5 := rfl
  have s6 : (⟨#[32, 108, 111, 103, 32]⟩ : ByteArray).size = 5 := rfl
  have s7 : (⟨#[32, 109, 97, 112, 32]⟩ : ByteArray).size = 5 := rfl
  refine ⟨(((((⟨#[115, 105, 122, 101, 32]⟩ : ByteArray) ++ t) ++ (⟨#[32, 108, 111, 103, 32]⟩ : ByteArray)) ++ u) ++ (⟨#[32, 109, 97, 112, 32]⟩ : ByteArray)) ++ v, ?_, ?_⟩
  rotate_left
  · simp only [impl_Statement_text.f, e1, Option.bind_some, ByteArray.size_append, s5, s6, s7, if_pos (show 5 + t.size ≤ 9223372036854775807 by omega), if_pos (show 5 + t.size + 5 ≤ 9223372036854775807 by omega)]
    refine Ev.bind e4 ?_
    simp only [if_pos (show 5 + t.size + 5 + u.size ≤ 9223372036854775807 by omega), if_pos (show 5 + t.size + 5 + u.size + 5 ≤ 9223372036854775807 by omega)]
    refine Ev.bind e6 ?_
    simp only [if_pos (show 5 + t.size + 5 + u.size + 5 + v.size ≤ 9223372036854775807 by omega)]
    exact Ev.now _
  · simp only [spec_l15Text.f, ByteArray.size_append, s5, s6, s7]
    refine Ev.bind e2 ?_
    simp only [if_pos (show 5 + t.size ≤ 9223372036854775807 by omega), if_pos (show 5 + t.size + 5 ≤ 9223372036854775807 by omega)]
    refine Ev.bind e3 ?_
    simp only [if_pos (show 5 + t.size + 5 + u.size ≤ 9223372036854775807 by omega), if_pos (show 5 + t.size + 5 + u.size + 5 ≤ 9223372036854775807 by omega)]
    refine Ev.bind e5 ?_
    simp only [if_pos (show 5 + t.size + 5 + u.size + 5 + v.size ≤ 9223372036854775807 by omega)]
    exact Ev.now _
theorem within_in (a b c : Int) : impl_within.f a b c = spec_l01In.f a b c := rfl
theorem ok_rel (n : Int) (a b : ByteArray) : ∃ r, spec_l15Statement.f n a b = some r ∧ impl_statementOK.f n a b = some r ∧ (r = true → 0 ≤ n ∧ n ≤ 50 ∧ a.size = 32 ∧ b.size = 32) := by
  unfold spec_l15Statement.f impl_statementOK.f impl_isHash.f impl_isHash_1_any.f
  rw [within_in, anyO_total (p := fun x : ByteArray => impl_isHash_1.f x) (q := fun x => (x.size : Int) != 32) [a, b] (fun x _ => rfl)]
  unfold spec_l01In.f
  by_cases h0 : n ≥ 0
  · rw [if_pos h0]
    simp only [Option.bind_some]
    by_cases h1 : n ≤ 50
    · simp only [decide_eq_true h1, if_true]
      by_cases ha : (a.size : Int) = 32
      · by_cases hb : (b.size : Int) = 32
        · refine ⟨true, by simp [ha, hb], by simp [ha, hb], fun _ => ⟨h0, h1, by omega, by omega⟩⟩
        · refine ⟨false, by simp [ha, hb], by simp [ha, hb], fun h => by cases h⟩
      · refine ⟨false, by simp [ha], by simp [ha], fun h => by cases h⟩
    · simp only [decide_eq_false h1, Bool.false_eq_true, if_false]
      exact ⟨false, rfl, rfl, fun h => by cases h⟩
  · rw [if_neg h0]
    exact ⟨false, rfl, rfl, fun h => by cases h⟩
theorem FnExactStatementText : Go.Proofs.YtaifnabbijikeaaDoor.SFnExactStatementText.Pure := by
  intro n a b hn ha hb
  refine Ev.rounds ?_
  unfold laws_FnExactStatementText.f
  obtain ⟨r, _, hr⟩ := laws_szStatement_ok n a b ha hb (e := 1048576) (by omega) (by omega)
  simp only [hr, laws_toStatement_ok, Option.bind_some]
  by_cases hneg : r < 0
  · simp only [if_pos hneg]
    exact Ev.now _
  · simp only [if_neg hneg]
    obtain ⟨ok, h1, h2, h3⟩ := ok_rel n a b
    simp only [spec_StatementText.f, impl_StatementText.f, h1, h2, Option.bind_some]
    cases ok with
    | false =>
      simp only [Bool.false_eq_true, if_false, Option.bind_some, if_true]
      exact Ev.now _
    | true =>
      obtain ⟨h4, h5, h6, h7⟩ := h3 rfl
      obtain ⟨t, e1, e2⟩ := text_rel n a b h4 h5 h6 h7
      simp only [if_true]
      refine Ev.bind (Ev.bind e1 (Ev.now _)) (Ev.bind (Ev.bind e2 (Ev.now _)) ?_)
      simp only [if_true]
      exact Ev.now _
end Go.Proofs.YtaifnabbijikeaaDoor.Pure
