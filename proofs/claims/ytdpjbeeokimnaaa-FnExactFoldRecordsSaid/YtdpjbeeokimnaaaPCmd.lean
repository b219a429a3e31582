/-
  Commands and entries in bytes: the program's and the reference's. No condition.
-/
import Derived.Test.YtdpjbeeokimnaaaPMem
namespace Go.Proofs.YtdpjbeeokimnaaaA
open Go
set_option linter.unusedVariables false
set_option linter.unusedSimpArgs false

theorem exStr (s : ByteArray) : ∃ l, IsBytes l ∧ s = strL l := ⟨bytesL s, IsBytes.bytesL s, (strL_bytesL s).symm⟩
def inShort (n : Int) : Bool := decide (0 ≤ n) && decide (n ≤ 65535)
def isKeyB (s : ByteArray) : Bool := decide (1 ≤ s.size) && decide (s.size ≤ 24)
def cmdOK (k s q : Int) (key val : ByteArray) : Bool :=
  inShort s && (inShort q && (decide (val.size ≤ 60) && (if k = 1 ∨ k = 2 then isKeyB key else if k = 3 then isKeyB key && sEq val ByteArray.empty else if k = 4 ∨ k = 5 then sEq key ByteArray.empty && (sEq val ByteArray.empty && (q == 0)) else false)))
theorem isShort_eq (n : Int) : i_isShort n = some (inShort n) := by
  unfold i_isShort i_isShort.F
  rw [within_eq]
  rfl
theorem isKey_eq (s : ByteArray) : i_isKey s = some (isKeyB s) := by
  unfold i_isKey i_isKey.F isKeyB
  rw [within_eq, Option.bind_some]
  congr 2 <;> (rw [Bool.eq_iff_iff, decide_eq_true_iff, decide_eq_true_iff]; omega)
theorem l02Key_eq (s : ByteArray) : s_l02Key s = some (isKeyB s) := by
  unfold s_l02Key s_l02Key.F isKeyB
  by_cases h : 1 ≤ s.size
  · rw [decide_t (by omega : (s.size : Int) ≥ 1), cond_true, decide_t h, Bool.true_and]
    congr 1
    rw [Bool.eq_iff_iff, decide_eq_true_iff, decide_eq_true_iff]; omega
  · rw [decide_f (by omega : ¬ (s.size : Int) ≥ 1), cond_false, decide_f h, Bool.false_and]
theorem isValue_eq (s : ByteArray) : i_isValue s = some (decide (s.size ≤ 60)) := by
  unfold i_isValue i_isValue.F
  congr 1
  rw [Bool.eq_iff_iff, decide_eq_true_iff, decide_eq_true_iff]; omega
theorem commandOK_i (k s q : Int) (key val : ByteArray) : i_CommandOK k s q key val = some (cmdOK k s q key val) := by
  unfold i_CommandOK i_CommandOK.F cmdOK
  simp only [isShort_eq, isValue_eq, isKey_eq, Option.bind_some, i_CommandOK.j1, i_CommandOK.j2]
  cases inShort s <;> cases inShort q <;> cases decide (val.size ≤ 60) <;> simp only [Bool.not_true, Bool.not_false, cond_true, cond_false, Bool.false_and, Bool.true_and]
  by_cases h1 : k = 1
  · simp [h1]
  by_cases h2 : k = 2
  · simp [h2]
  by_cases h3 : k = 3
  · simp [h3]
    cases isKeyB key <;> rfl
  by_cases h4 : k = 4
  · simp [h4]
    cases sEq key ByteArray.empty <;> cases sEq val ByteArray.empty <;> rfl
  by_cases h5 : k = 5
  · simp [h5]
    cases sEq key ByteArray.empty <;> cases sEq val ByteArray.empty <;> rfl
  have b : ∀ z : Int, k ≠ z → (k == z) = false := fun z h => beq_eq_false_iff_ne.2 h
  simp [h1, h2, h3, h4, h5, b 1 h1, b 2 h2, b 3 h3, b 4 h4, b 5 h5]
theorem commandOK_s (k s q : Int) (key val : ByteArray) : s_CommandOK k s q key val = some (cmdOK k s q key val) := by
  unfold s_CommandOK s_CommandOK.F cmdOK
  have hv : decide ((ByteArray.size val : Int) > 60) = !decide (val.size ≤ 60) := by
    by_cases h : val.size ≤ 60
    · rw [decide_f (by omega), decide_t h]; rfl
    · rw [decide_t (by omega), decide_f h]; rfl
  simp only [l01In_eq, l02Key_eq, Option.bind_some, s_CommandOK.j1, s_CommandOK.j2, hv]
  show cond (!inShort s) _ _ = _
  rw [show (decide (0 ≤ q) && decide (q ≤ 65535)) = inShort q from rfl]
  cases inShort s <;> cases inShort q <;> cases decide (val.size ≤ 60) <;> simp only [Bool.not_true, Bool.not_false, cond_true, cond_false, Bool.false_and, Bool.true_and]
  by_cases h1 : k = 1
  · simp [h1]
  by_cases h2 : k = 2
  · simp [h2]
  by_cases h3 : k = 3
  · simp [h3]
    cases isKeyB key <;> rfl
  by_cases h4 : k = 4
  · simp [h4]
    cases sEq key ByteArray.empty <;> cases sEq val ByteArray.empty <;> rfl
  by_cases h5 : k = 5
  · simp [h5]
    cases sEq key ByteArray.empty <;> cases sEq val ByteArray.empty <;> rfl
  have b : ∀ z : Int, k ≠ z → (k == z) = false := fun z h => beq_eq_false_iff_ne.2 h
  simp [h1, h2, h3, h4, h5, b 1 h1, b 2 h2, b 3 h3, b 4 h4, b 5 h5]

/-! ### Bytes of commands -/
def cntB (l : List Int) : List Int := (l.length : Int) % 256 :: l
def cmdB (k s q : Int) (K V : List Int) : List Int := beL k 1 ++ beL s 2 ++ beL q 2 ++ cntB K ++ cntB V
theorem beL1 (n : Int) : beL n 1 = [n % 256] := rfl
theorem beL2 (n : Int) : beL n 2 = [n / 256 % 256, n % 256] := rfl
theorem beL4 (n : Int) : beL n 4 = [n / 16777216 % 256, n / 65536 % 256, n / 256 % 256, n % 256] := by
  show [n / 256 / 256 / 256 % 256, n / 256 / 256 % 256, n / 256 % 256, n % 256] = _
  rw [show n / 256 / 256 / 256 = n / 16777216 by omega, show n / 256 / 256 = n / 65536 by omega]
theorem cntB_bytes {l : List Int} (h : IsBytes l) : IsBytes (cntB l) := IsBytes.cons (by omega) (by omega) h
theorem cmdB_bytes {k s q : Int} {K V : List Int} (hK : IsBytes K) (hV : IsBytes V) : IsBytes (cmdB k s q K V) :=
  ((((beL_bytes _ _).append (beL_bytes _ _)).append (beL_bytes _ _)).append (cntB_bytes hK)).append (cntB_bytes hV)
theorem cmdB_length (k s q : Int) (K V : List Int) : (cmdB k s q K V).length = 7 + K.length + V.length := by
  simp [cmdB, cntB, beL_length]
  omega
theorem strL_sz (l : List Int) : (strL l).size = l.length := strL_size l
theorem number1 (x : Int) : i_number x 1 = some (strL (beL x 1)) := number_eq x 1 (by omega)
theorem number2 (x : Int) : i_number x 2 = some (strL (beL x 2)) := number_eq x 2 (by omega)
theorem number4 (x : Int) : i_number x 4 = some (strL (beL x 4)) := number_eq x 4 (by omega)
theorem counted_eq (l : List Int) (h : l.length ≤ 1000000000000) : i_counted (strL l) = some (strL (cntB l)) := by
  unfold i_counted i_counted.F
  rw [number1, Option.bind_some, grd_of (gCat_t (by rw [strL_size, strL_size, beL_length]; omega)), strL_append, strL_size, beL1]
  simp [cntB]
theorem cmdBytes_i (k s q : Int) (K V : List Int) (hK : K.length ≤ 1000000) (hV : V.length ≤ 1000000) : i_Command_bytes k s q (strL K) (strL V) = some (strL (cmdB k s q K V)) := by
  unfold i_Command_bytes i_Command_bytes.F
  simp only [number1, number2, counted_eq K (by omega), counted_eq V (by omega), bs, strL_append]
  have e : ∀ l m : List Int, l.length + m.length ≤ 100000000 → gCat (strL l) (strL m) = true := fun l m h => by
    refine gCat_t ?_
    rw [strL_size, strL_size]
    omega
  rw [grd_of (e _ _ (by simp [beL_length])), grd_of (e _ _ (by simp [beL_length])), grd_of (e _ _ (by simp [beL_length, cntB]; omega)), grd_of (e _ _ (by simp [beL_length, cntB]; omega))]
  simp only [cmdB]
theorem two_eq (n : Int) (h0 : 0 ≤ n) (h1 : n ≤ 65535) : s_l02Two n = some (beL n 2) := by
  unfold s_l02Two s_l02Two.F
  rw [grd_of (gNz_t (by decide)), tdiv_pos h0, wr (by omega) (by omega), wr8m, wr8m, beL2]
theorem four_eq (n : Int) : s_l02Four n = some (beL n 4) := by
  unfold s_l02Four s_l02Four.F
  rw [grd_of (gSh_t (by decide)), grd_of (gSh_t (by decide)), grd_of (gSh_t (by decide)), shr24, shr16, shr8, wr8m, wr8m, wr8m, wr8m, beL4]
theorem cmdBytes_s (k s q : Int) (K V : List Int) (hK : IsBytes K) (hV : IsBytes V) (hKl : K.length ≤ 1000000) (hVl : V.length ≤ 1000000) (hs : inShort s = true) (hq : inShort q = true) : s_l02Bytes k s q (strL K) (strL V) = some (cmdB k s q K V) := by
  simp only [inShort, Bool.and_eq_true, decide_eq_true_iff] at hs hq
  unfold s_l02Bytes s_l02Bytes.F
  simp only [two_eq s hs.1 hs.2, two_eq q hq.1 hq.2, bs, bytesL_strL hK, bytesL_strL hV, strL_size, wr8m]
  rw [grd_of (gRm_t (by simp [beL_length])), grd_of (gRm_t (by simp [beL_length])), grd_of (gRm_t (by simp [beL_length])), grd_of (gRm_t (by simp [beL_length]; omega)), grd_of (gRm_t (by simp [beL_length]; omega)), grd_of (gRm_t (by simp [beL_length]; omega))]
  simp [cmdB, cntB, beL1]

/-! ### Commands read -/
theorem rnum1 (a : Int) (l : List Int) (hb : IsBytes (a :: l)) : i_reader_number (strL (a :: l)) false 1 = some (a, strL l, false) := by
  have := rnum_ok (a :: l) hb 1 (by omega) (by simp)
  simpa [beN] using this
theorem rnum2 (a b : Int) (l : List Int) (hb : IsBytes (a :: b :: l)) : i_reader_number (strL (a :: b :: l)) false 2 = some (a * 256 + b, strL l, false) := by
  have := rnum_ok (a :: b :: l) hb 2 (by omega) (by simp)
  simpa [beN] using this
theorem rnum4 (a b c d : Int) (l : List Int) (hb : IsBytes (a :: b :: c :: d :: l)) : i_reader_number (strL (a :: b :: c :: d :: l)) false 4 = some (((a * 256 + b) * 256 + c) * 256 + d, strL l, false) := by
  have := rnum_ok (a :: b :: c :: d :: l) hb 4 (by omega) (by simp)
  simpa [beN] using this
theorem IsBytes.tail {a : Int} {l : List Int} (h : IsBytes (a :: l)) : IsBytes l := fun y hy => h y (List.mem_cons_of_mem _ hy)
/-- A counted text at the front: its bytes, what is behind. -/
def pCnt : List Int → Option (List Int × List Int)
  | [] => none
  | a :: l => if a ≤ l.length then some (l.take a.toNat, l.drop a.toNat) else none
theorem rcnt_eq (l : List Int) (hb : IsBytes l) : ∃ r, i_reader_counted (strL l) false = some (match pCnt l with | some x => (strL x.1, strL x.2, false) | none => (ByteArray.empty, r, true)) := by
  cases l with
  | nil => exact ⟨_, rcnt_nil⟩
  | cons a l =>
    by_cases h : a ≤ l.length
    · exact ⟨ByteArray.empty, by rw [rcnt_ok a l hb h, pCnt, if_pos h]⟩
    · exact ⟨strL l, by rw [rcnt_no a l hb (by omega), pCnt, if_neg h]⟩
/-- The reference's: a number of one byte and a text of so many. -/
theorem scnt_eq (l : List Int) (hb : IsBytes l) (hl : l.length ≤ 1000000) (p : Nat) (hp : p ≤ l.length) : ∃ r n, s_l02Reader_number l p false 1 = some (n, r) ∧ r.1 = l ∧
    match pCnt (l.drop p) with
    | some x => r.2.2 = false ∧ s_l02Reader_text l r.2.1 false n = some (strL x.1, l, ((l.length - x.2.length : Nat) : Int), false) ∧ x.2 = l.drop (l.length - x.2.length) ∧ x.2.length ≤ l.length
    | none => ∃ q, s_l02Reader_text l r.2.1 r.2.2 n = some (ByteArray.empty, l, q, true) := by
  have h1 := snum_eq l hb hl 1 (by omega) p hp
  rw [show ((1 : Nat) : Int) = 1 from rfl] at h1
  by_cases hlt : p < l.length
  · rw [if_pos (by omega)] at h1
    have hg := hb.get hlt
    have e1 : beN 0 ((l.drop p).take 1) = l[p] := by rw [drop_cons hlt, List.take_succ_cons, List.take_zero, beN, beN]; omega
    rw [e1] at h1
    refine ⟨_, _, h1, rfl, ?_⟩
    have ht := stext_eq l hl (p + 1) (by omega) l[p] (by omega) (by omega)
    rw [drop_cons hlt, pCnt]
    by_cases h2 : l[p] ≤ ((l.drop (p + 1)).length : Int)
    · rw [if_pos h2]
      have h3 := h2
      rw [List.length_drop] at h3
      rw [if_pos (by omega)] at ht
      refine ⟨rfl, ?_, ?_, ?_⟩
      · show s_l02Reader_text l ((p + 1 : Nat) : Int) false l[p] = _
        rw [ht]
        simp only [List.length_drop]
        congr 4
        omega
      · show List.drop l[p].toNat (List.drop (p + 1) l) = List.drop _ l
        rw [List.drop_drop]
        congr 1
        simp only [List.length_drop]
        omega
      · simp only [List.length_drop]; omega
    · rw [if_neg h2]
      rw [List.length_drop] at h2
      rw [if_neg (by omega)] at ht
      exact ⟨_, ht⟩
  · rw [if_neg (by omega)] at h1
    refine ⟨_, _, h1, rfl, ?_⟩
    rw [List.drop_of_length_le (by omega), pCnt]
    exact ⟨_, stext_bad l _ _⟩
end Go.Proofs.YtdpjbeeokimnaaaA
