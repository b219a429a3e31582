/-
  Entries of a log in bytes: the program's and the reference's; a drawn entry is a right one. No condition.
-/
import Derived.Test.YtdpjbeeokimnaaaPDraw
namespace Go.Proofs.YtdpjbeeokimnaaaA
open Go
set_option linter.unusedVariables false
set_option linter.unusedSimpArgs false

def entOK (t k : Int) (D : List Int) : Bool :=
  (decide (1 ≤ t) && decide (t ≤ 1000000)) && (if k = 0 then decide (D = []) else if k = 1 then decide (1 ≤ D.length) && decide (D.length ≤ 100) else if k = 2 then memOK D else false)
theorem entryOK_i (t k : Int) (D : List Int) (hD : IsBytes D) (hl : D.length ≤ 1000000000000) : i_entryOK t k (strL D) = some (entOK t k D) := by
  unfold i_entryOK i_entryOK.F entOK
  rw [within_eq, bs]
  cases (decide (1 ≤ t) && decide (t ≤ 1000000)) with
  | false => rfl
  | true =>
    rw [Bool.not_true, cf, Bool.true_and]
    have b : ∀ z : Int, k ≠ z → (k == z) = false := fun z h => beq_eq_false_iff_ne.2 h
    by_cases h0 : k = 0
    · subst h0
      rw [if_pos rfl, show ((0 : Int) == 0) = true from rfl, ct, ← strL_nil, sEq_strL hD IsBytes.nil]
    by_cases h1 : k = 1
    · subst h1
      rw [if_neg h0, if_pos rfl, b 0 h0, cf, show ((1 : Int) == 1) = true from rfl, ct, within_eq, bs, strL_size]
      congr 2 <;> (rw [Bool.eq_iff_iff, decide_eq_true_iff, decide_eq_true_iff]; omega)
    by_cases h2 : k = 2
    · subst h2
      rw [if_neg h0, if_neg h1, if_pos rfl, b 0 h0, cf, b 1 h1, cf, show ((2 : Int) == 2) = true from rfl, ct, readMembers_eq D hD hl, bs]
    rw [if_neg h0, if_neg h1, if_neg h2, b 0 h0, cf, b 1 h1, cf, b 2 h2, cf]
theorem entryOK_s (t k : Int) (D : List Int) (hD : IsBytes D) (hl : D.length ≤ 1000000000000) : s_l02Entry t k (strL D) = some (entOK t k D) := by
  unfold s_l02Entry s_l02Entry.F entOK
  rw [l01In_eq, bs]
  cases (decide (1 ≤ t) && decide (t ≤ 1000000)) with
  | false => rfl
  | true =>
    rw [Bool.not_true, cf, Bool.true_and]
    have b : ∀ z : Int, k ≠ z → (k == z) = false := fun z h => beq_eq_false_iff_ne.2 h
    by_cases h0 : k = 0
    · subst h0
      rw [if_pos rfl, show ((0 : Int) == 0) = true from rfl, ct, ← strL_nil, sEq_strL hD IsBytes.nil]
    by_cases h1 : k = 1
    · subst h1
      rw [if_neg h0, if_pos rfl, b 0 h0, cf, show ((1 : Int) == 1) = true from rfl, ct, strL_size]
      by_cases h : 1 ≤ D.length
      · rw [decide_t (by omega : (D.length : Int) ≥ 1), ct, decide_t h, Bool.true_and]
        congr 1
        rw [Bool.eq_iff_iff, decide_eq_true_iff, decide_eq_true_iff]; omega
      · rw [decide_f (by omega : ¬ (D.length : Int) ≥ 1), cf, decide_f h, Bool.false_and]
    by_cases h2 : k = 2
    · subst h2
      obtain ⟨m, hm⟩ := members_agree D hD hl
      rw [if_neg h0, if_neg h1, if_pos rfl, b 0 h0, cf, b 1 h1, cf, show ((2 : Int) == 2) = true from rfl, ct, hm, bs]
    rw [if_neg h0, if_neg h1, if_neg h2, b 0 h0, cf, b 1 h1, cf, b 2 h2, cf]
theorem memOK_short {D : List Int} (h : memOK D = true) : D.length ≤ 7 := by
  unfold memOK at h
  simp only [Bool.and_eq_true, List.all_eq_true] at h
  obtain ⟨⟨_, h1⟩, h2⟩ := h
  have key : ∀ (l : List Int) (a : Int), (∀ x ∈ l, inSeven x = true) → rising l = true → (∀ x ∈ l.head?, a ≤ x) → a ≤ 7 → (l.length : Int) ≤ 7 - a := by
    intro l
    induction l with
    | nil => intro a _ _ _ ha; simp; omega
    | cons x l ih =>
      intro a h1 h2 h3 ha
      have hx := h1 x List.mem_cons_self
      simp only [inSeven, Bool.and_eq_true, decide_eq_true_iff] at hx
      have h4 := h3 x (by simp)
      simp only [rising, Bool.and_eq_true] at h2
      have := ih (x + 1) (fun y hy => h1 y (List.mem_cons_of_mem _ hy)) h2.2 (fun y hy => by
        cases l with
        | nil => simp at hy
        | cons z l =>
          simp at hy; subst hy
          have := h2.1
          simp at this
          omega) (by omega)
      simp
      omega
  have := key D 0 h1 h2 (fun x hx => by
    cases D with
    | nil => simp at hx
    | cons y D =>
      simp at hx; subst hx
      have := h1 y List.mem_cons_self
      simp only [inSeven, Bool.and_eq_true, decide_eq_true_iff] at this
      exact this.1) (by omega)
  omega
theorem entOK_short {t k : Int} {D : List Int} (h : entOK t k D = true) : D.length ≤ 100 ∧ (1 ≤ t ∧ t ≤ 1000000) ∧ 0 ≤ k ∧ k ≤ 2 := by
  unfold entOK at h
  simp only [Bool.and_eq_true, decide_eq_true_iff] at h
  obtain ⟨⟨h1, h2⟩, h3⟩ := h
  split at h3
  · rename_i h0
    subst h0
    have : D = [] := by simpa using h3
    subst this
    exact ⟨by simp, ⟨h1, h2⟩, by omega, by omega⟩
  · split at h3
    · rename_i h0
      subst h0
      simp only [Bool.and_eq_true, decide_eq_true_iff] at h3
      exact ⟨h3.2, ⟨h1, h2⟩, by omega, by omega⟩
    · split at h3
      · rename_i h0
        subst h0
        have := memOK_short h3
        exact ⟨by omega, ⟨h1, h2⟩, by omega, by omega⟩
      · simp at h3
def entB (t k : Int) (D : List Int) : List Int := beL t 4 ++ beL k 1 ++ cntB D
theorem entB_bytes {t k : Int} {D : List Int} (hD : IsBytes D) : IsBytes (entB t k D) := ((beL_bytes _ _).append (beL_bytes _ _)).append (cntB_bytes hD)
theorem entB_length (t k : Int) (D : List Int) : (entB t k D).length = 6 + D.length := by
  simp [entB, cntB, beL_length]
  omega
theorem entBytes_i (t k : Int) (D : List Int) (hl : D.length ≤ 1000000) : i_Entry_bytes t k (strL D) = some (strL (entB t k D)) := by
  unfold i_Entry_bytes i_Entry_bytes.F
  have e : ∀ l m : List Int, l.length + m.length ≤ 100000000 → gCat (strL l) (strL m) = true := fun l m h => by
    refine gCat_t ?_
    rw [strL_size, strL_size]
    omega
  simp only [number1, number4, counted_eq D (by omega), bs, strL_append]
  rw [grd_of (e _ _ (by simp [beL_length])), grd_of (e _ _ (by simp [beL_length, cntB]; omega))]
  simp only [entB]
theorem entBytes_s (t k : Int) (D : List Int) (hD : IsBytes D) (hl : D.length ≤ 1000000) : s_l02EntryBytes t k (strL D) = some (entB t k D) := by
  unfold s_l02EntryBytes s_l02EntryBytes.F
  simp only [four_eq, bs, bytesL_strL hD, strL_size, wr8m]
  rw [grd_of (gRm_t (by simp [beL_length])), grd_of (gRm_t (by simp [beL_length]; omega))]
  simp [entB, cntB, beL1]
structure PE where
  t : Int
  k : Int
  D : List Int
  r : List Int
def pEnt : List Int → Option PE
  | a :: b :: c :: d :: e :: l => match pCnt l with
    | some (D, l1) => some ⟨((a * 256 + b) * 256 + c) * 256 + d, e, D, l1⟩
    | none => none
  | _ => none
theorem readEnt_i (l : List Int) (hb : IsBytes l) (hl : l.length ≤ 1000000) : ∃ g1 g2 g3, i_readEntry (strL l) = some (match pEnt l with | some x => (x.t, x.k, strL x.D, decide (x.r = []) && entOK x.t x.k x.D) | none => (g1, g2, g3, false)) := by
  unfold i_readEntry i_readEntry.F
  match l, hb, hl with
  | [], hb, hl => exact ⟨_, _, _, by simp only [rnum_no [] 4 (by simp), rnum_bad, rcnt_bad, bs, Bool.not_true, cf, pEnt]; rfl⟩
  | [a], hb, hl => exact ⟨_, _, _, by simp only [rnum_no [a] 4 (by simp), rnum_bad, rcnt_bad, bs, Bool.not_true, cf, pEnt]; rfl⟩
  | [a, b], hb, hl => exact ⟨_, _, _, by simp only [rnum_no [a, b] 4 (by simp), rnum_bad, rcnt_bad, bs, Bool.not_true, cf, pEnt]; rfl⟩
  | [a, b, c], hb, hl => exact ⟨_, _, _, by simp only [rnum_no [a, b, c] 4 (by simp), rnum_bad, rcnt_bad, bs, Bool.not_true, cf, pEnt]; rfl⟩
  | [a, b, c, d], hb, hl => exact ⟨_, _, _, by simp only [rnum4 a b c d _ hb, rnum_no [] 1 (by simp), rnum_bad, rcnt_bad, bs, Bool.not_true, cf, pEnt]; rfl⟩
  | a :: b :: c :: d :: e :: l, hb, hl =>
    have h4 := hb.tail.tail.tail.tail
    have h5 : IsBytes l := h4.tail
    obtain ⟨r1, h1⟩ := rcnt_eq l h5
    simp only [rnum4 a b c d _ hb, rnum1 e _ h4, bs, h1, pEnt]
    cases h2 : pCnt l with
    | none => exact ⟨_, _, _, by simp only [bs, Bool.not_true, cf]; rfl⟩
    | some x =>
      obtain ⟨D, l1⟩ := x
      obtain ⟨hD, hl1, _, hDl⟩ := pCnt_bytes h5 h2
      refine ⟨0, 0, ByteArray.empty, ?_⟩
      simp only [bs, Bool.not_false, ct, ← strL_nil, sEq_strL hl1 IsBytes.nil, entryOK_i _ _ D hD (by omega)]
      cases decide (l1 = []) <;> rfl
theorem pEnt_entB {t k : Int} {D : List Int} (ht : 0 ≤ t ∧ t < 4294967296) (hk : 0 ≤ k ∧ k < 256) (hD : D.length < 256) : pEnt (entB t k D) = some ⟨t, k, D, []⟩ := by
  have e : entB t k D = (t / 16777216 % 256) :: (t / 65536 % 256) :: (t / 256 % 256) :: (t % 256) :: (k % 256) :: (cntB D ++ []) := by
    unfold entB
    rw [beL1, beL4]
    simp
  rw [e, pEnt, pCnt_cntB hD]
  simp only [Option.some.injEq, PE.mk.injEq, and_true]
  omega
theorem ReadEntry_back {t k : Int} {D : List Int} (hD : IsBytes D) (h : entOK t k D = true) : i_ReadEntry (entB t k D) = some (t, k, strL D, 0) := by
  obtain ⟨h1, h2, h3⟩ := entOK_short h
  have hl : (entB t k D).length ≤ 106 := by rw [entB_length]; omega
  unfold i_ReadEntry i_ReadEntry.F
  rw [decide_f (by omega), cf]
  obtain ⟨g1, g2, g3, h4⟩ := readEnt_i _ (entB_bytes (t := t) (k := k) hD) (by omega)
  rw [h4, bs, pEnt_entB (by omega) (by omega) (by omega)]
  simp only [h, decide_t, Bool.and_self, Bool.not_true, cf]
theorem cmdOK_short {k s q : Int} {K V : List Int} (h : cmdOK k s q (strL K) (strL V) = true) : K.length ≤ 24 ∧ V.length ≤ 60 ∧ inShort s = true ∧ inShort q = true ∧ 1 ≤ k ∧ k ≤ 5 := by
  unfold cmdOK at h
  simp only [Bool.and_eq_true] at h
  obtain ⟨h1, h2, h3, h4⟩ := h
  have h3 := of_decide_eq_true h3
  rw [strL_size] at h3
  refine ⟨?_, h3, h1, h2, ?_⟩
  · split at h4
    · simp only [isKeyB, Bool.and_eq_true, decide_eq_true_iff, strL_size] at h4; omega
    · split at h4
      · simp only [isKeyB, Bool.and_eq_true, decide_eq_true_iff, strL_size] at h4; omega
      · split at h4
        · simp only [Bool.and_eq_true] at h4
          have := congrArg ByteArray.size (sEq_iff.1 h4.1)
          rw [strL_size] at this
          rw [this]; decide
        · simp at h4
  · split at h4
    · omega
    · split at h4
      · omega
      · split at h4
        · omega
        · simp at h4
theorem entry_eq {c : List Int} {a s N : Int} (h : SrcOK c a s N) (hN : N + 33 ≤ 4611686018427387904) : ∃ t k D a' s', s_l00Src_entry c a s = some (t, k, strL D, c, a', s') ∧ IsBytes D ∧ entOK t k D = true ∧ t ≤ 4 ∧ SrcOK c a' s' (N + 33) := by
  unfold s_l00Src_entry s_l00Src_entry.F
  obtain ⟨v1, a1, s1, e1, hv1, h1⟩ := next_eq h (by omega) 4 (by decide) (by decide)
  obtain ⟨ck, cs, cq, key, val, a2, s2, e2, hok, hck, h2⟩ := command_eq h1 (by omega)
  obtain ⟨K, hK, rfl⟩ := exStr key
  obtain ⟨Vl, hV, rfl⟩ := exStr val
  obtain ⟨hKl, hVl, hs, hq, hk1, hk2⟩ := cmdOK_short hok
  obtain ⟨v3, a3, s3, e3, hv3, h3⟩ := next_eq h2 (by omega) 6 (by decide) (by decide)
  rw [e1, bs]
  dsimp only
  rw [e2, bs]
  dsimp only
  rw [cmdBytes_s ck cs cq K Vl hK hV (by omega) (by omega) hs hq, bs, e3, bs]
  dsimp only
  rw [wr (x := 1 + v1) (by omega) (by omega)]
  have hT : (decide (1 ≤ 1 + v1) && decide (1 + v1 ≤ 1000000)) = true := by simp; omega
  by_cases h30 : v3 = 0
  · subst h30
    rw [show ((0 : Int) == 0) = true from rfl, ct]
    exact ⟨_, 0, [], _, _, rfl, IsBytes.nil, by unfold entOK; rw [hT]; rfl, by omega, h3.mono (by omega) (by omega)⟩
  · rw [show (v3 == 0) = false from beq_eq_false_iff_ne.2 h30, cf]
    by_cases h31 : v3 = 1
    · subst h31
      rw [show ((1 : Int) == 1) = true from rfl, ct]
      obtain ⟨v4, a4, s4, e4, hv4, h4⟩ := pick_eq h3 (by omega) [(⟨#[0, 1, 2]⟩ : ByteArray), (⟨#[0, 1]⟩ : ByteArray), (⟨#[0, 1, 2, 3]⟩ : ByteArray), (⟨#[4]⟩ : ByteArray)] (by decide) (by decide)
      rw [e4, bs]
      dsimp only
      have : ∃ D, IsBytes D ∧ v4 = strL D ∧ memOK D = true := by
        simp only [List.mem_cons, List.not_mem_nil, or_false] at hv4
        have b : ∀ l : List Int, (l.all fun x => decide (0 ≤ x) && decide (x < 256)) = true → IsBytes l := fun l h y hy => by
          have := List.all_eq_true.1 h y hy
          simpa using this
        rcases hv4 with rfl | rfl | rfl | rfl
        · exact ⟨[0, 1, 2], b _ rfl, rfl, rfl⟩
        · exact ⟨[0, 1], b _ rfl, rfl, rfl⟩
        · exact ⟨[0, 1, 2, 3], b _ rfl, rfl, rfl⟩
        · exact ⟨[4], b _ rfl, rfl, rfl⟩
      obtain ⟨D, hD, rfl, hm⟩ := this
      exact ⟨_, 2, D, _, _, rfl, hD, by unfold entOK; rw [hT]; simp [hm], by omega, h4.mono (by omega) (by omega)⟩
    · rw [show (v3 == 1) = false from beq_eq_false_iff_ne.2 h31, cf]
      refine ⟨_, 1, _, _, _, rfl, cmdB_bytes hK hV, ?_, by omega, h3.mono (by omega) (by omega)⟩
      unfold entOK
      rw [hT]
      have := cmdB_length ck cs cq K Vl
      simp
      omega
end Go.Proofs.YtdpjbeeokimnaaaA
