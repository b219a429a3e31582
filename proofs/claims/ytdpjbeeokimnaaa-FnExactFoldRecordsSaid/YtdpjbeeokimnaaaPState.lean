/-
  States and their records: the program's fold and the reference's. No condition.
-/
import Derived.Test.YtdpjbeeokimnaaaPFamS
namespace Go.Proofs.YtdpjbeeokimnaaaA
open Go
set_option linter.unusedVariables false
set_option linter.unusedSimpArgs false

theorem numberOf_total (s : ByteArray) (h : s.size ≤ 1000000000000) : ∃ n, i_numberOf s = some n := by
  unfold i_numberOf i_numberOf.F
  have key : ∀ (m n i : Nat) (a : Int), i + m = s.size → m < n → ∃ r, i_numberOf.l1 (fun n_ => some n_) n s a s.size i = some r := by
    intro m
    induction m with
    | zero =>
      intro n i a e hn
      obtain ⟨n, rfl⟩ : ∃ q, n = q + 1 := ⟨n - 1, by omega⟩
      simp only [i_numberOf.l1]
      rw [decide_f (by omega), cf]
      exact ⟨_, rfl⟩
    | succ m ih =>
      intro n i a e hn
      obtain ⟨n, rfl⟩ : ∃ q, n = q + 1 := ⟨n - 1, by omega⟩
      simp only [i_numberOf.l1]
      rw [decide_t (by omega), ct, grd_of (gSh_t (by decide)), grd_of (gIx_t (by omega) (by omega)), wr (x := (i : Int) + 1) (by omega) (by omega), show ((i : Int) + 1) = ((i + 1 : Nat) : Int) by omega]
      exact ih n (i + 1) _ (by omega) (by omega)
  exact key s.size fuel 0 0 (by omega) (fuel_big (by omega))
theorem readEnt_s (l : List Int) (hb : IsBytes l) (hl : l.length ≤ 1000000) : ∃ g1 g2 g3, s_l02ReadEntry l = some (match pEnt l with | some x => (x.t, x.k, strL x.D, decide (x.r = []) && entOK x.t x.k x.D) | none => (g1, g2, g3, false)) := by
  unfold s_l02ReadEntry s_l02ReadEntry.F
  have b1 : ∀ p, s_l02Reader_number l p true 1 = some (0, l, p, true) := fun p => snum_bad l p 1 (by decide)
  have n1 := fun h => snum_no l hb hl 4 (by omega) 0 (by omega) h
  have a1 := fun h => snum_at l hb hl 4 (by omega) 0 h
  have n2 := fun h0 h => snum_no l hb hl 1 (by omega) 4 h0 h
  have a2 := fun h => snum_at l hb hl 1 (by omega) 4 h
  have c1 : ((4 : Nat) : Int) = 4 := rfl
  have c2 : ((1 : Nat) : Int) = 1 := rfl
  by_cases h4 : l.length < 4
  · have h1 := n1 (by omega)
    simp only [Int.natCast_zero, c1] at h1
    have hp : pEnt l = none := by
      match l, h4 with
      | [], _ => rfl
      | [_], _ => rfl
      | [_, _], _ => rfl
      | [_, _, _], _ => rfl
    rw [hp]
    exact ⟨_, _, _, by simp only [h1, b1, stext_bad, bs, Bool.not_true, cf]; rfl⟩
  · have h1 := a1 (by omega)
    simp only [Int.natCast_zero, c1, Nat.zero_add] at h1
    by_cases h5 : l.length = 4
    · have h2 := n2 (by omega) (by omega)
      simp only [c1, c2] at h2
      have hp : pEnt l = none := by
        match l, h5 with
        | [_, _, _, _], _ => rfl
      rw [hp]
      exact ⟨_, _, _, by simp only [h1, h2, b1, stext_bad, bs, Bool.not_true, cf]; rfl⟩
    · have h2 := a2 (by omega)
      simp only [c1, c2, show 4 + 1 = 5 from rfl] at h2
      obtain ⟨a, b, c, d, e, r, hL⟩ : ∃ a b c d e r, l = a :: b :: c :: d :: e :: r := by
        match l, h4, h5 with
        | [], h, _ => exact absurd (by simp) h
        | [_], h, _ => exact absurd (by simp) h
        | [_, _], h, _ => exact absurd (by simp) h
        | [_, _, _], h, _ => exact absurd (by simp) h
        | [_, _, _, _], _, h => exact absurd rfl h
        | a :: b :: c :: d :: e :: r, _, _ => exact ⟨a, b, c, d, e, r, rfl⟩
      have e1 : beN 0 ((l.drop 0).take 4) = ((a * 256 + b) * 256 + c) * 256 + d := by rw [hL]; simp [beN]
      have e2 : beN 0 ((l.drop 4).take 1) = e := by rw [hL]; simp [beN]
      rw [e1] at h1
      rw [e2] at h2
      have hd : l.drop 5 = r := by rw [hL]; rfl
      have h6 : IsBytes r := by rw [← hd]; exact hb.drop 5
      have hlen : l.length = r.length + 5 := by rw [hL]; rfl
      obtain ⟨q, n, h7, h7', h8⟩ := scnt_eq l hb hl 5 (by omega)
      obtain ⟨rb, ra, rd⟩ := q
      dsimp only at h7' h8
      subst h7'
      rw [hd] at h8
      have c5 : ((5 : Nat) : Int) = 5 := rfl
      rw [c5] at h7 h2
      simp only [h1, h2, h7, bs]
      have hp : pEnt rb = match pCnt r with
          | some (D, l1) => some ⟨((a * 256 + b) * 256 + c) * 256 + d, e, D, l1⟩
          | none => none := by rw [hL]; rfl
      rw [hp]
      cases h9 : pCnt r with
      | none =>
        rw [h9] at h8
        obtain ⟨q, h10⟩ := h8
        exact ⟨_, _, _, by simp only [h10, bs, Bool.not_true, cf]; rfl⟩
      | some x =>
        obtain ⟨D, l1⟩ := x
        obtain ⟨hD, hl1, _, hDl⟩ := pCnt_bytes h6 h9
        rw [h9] at h8
        dsimp only at h8
        obtain ⟨rfl, h10, h11, h12⟩ := h8
        refine ⟨0, 0, ByteArray.empty, ?_⟩
        simp only [h10, bs, Bool.not_false, ct, entryOK_s _ _ D hD (by omega)]
        have : (((rb.length - l1.length : Nat) : Int) == (rb.length : Int)) = decide (l1 = []) := by
          rw [Bool.eq_iff_iff, beq_iff_eq, decide_eq_true_iff, ← List.length_eq_zero_iff]
          omega
        rw [this]
        cases decide (l1 = []) <;> rfl

/-! ### Right states -/
/-- An entry at its place in a log. -/
def ChkE (term : Int) (l : List (El kEntry)) (i : Nat) : Prop := ∃ h : i < l.length, entOK l[i].1 l[i].2.1 (bytesL l[i].2.2) = true ∧ l[i].1 ≤ term ∧ ∀ (h0 : 0 < i), (l[i - 1]'(by omega)).1 ≤ l[i].1
def LogOK (term : Int) (l : List (El kEntry)) : Prop := l.length ≤ 60 ∧ ∀ i, i < l.length → ChkE term l i
def StOK (t v : Int) (l : List (El kEntry)) : Prop := (0 ≤ t ∧ t ≤ 1000000) ∧ (-1 ≤ v ∧ v ≤ 6) ∧ LogOK t l
/-- No data is longer than any machine's. -/
def Short (l : List (El kEntry)) : Prop := l.length ≤ 1000000000000 ∧ ∀ e ∈ l, e.2.2.size ≤ 1000000000000
theorem entryOK_i' (t k : Int) (s : ByteArray) (h : s.size ≤ 1000000000000) : i_entryOK t k s = some (entOK t k (bytesL s)) := by
  have := entryOK_i t k (bytesL s) (IsBytes.bytesL s) (by rw [bytesL_length]; exact h)
  rwa [strL_bytesL] at this
theorem entryOK_s' (t k : Int) (s : ByteArray) (h : s.size ≤ 1000000000000) : s_l02Entry t k s = some (entOK t k (bytesL s)) := by
  have := entryOK_s t k (bytesL s) (IsBytes.bytesL s) (by rw [bytesL_length]; exact h)
  rwa [strL_bytesL] at this
theorem logOK_i (l : List (El kEntry)) (term : Int) (hs : Short l) : ∃ b, i_logOK l term = some b ∧ (b = true ↔ LogOK term l) := by
  unfold i_logOK i_logOK.F
  have key : ∀ (m n j : Nat), j + m = l.length → m < n → ∃ b, i_logOK.l1 (fun log1 => some (decide ((List.length log1 : Int) ≤ (60 : Int)))) (fun b => some b) n l term l l.length j = some b ∧ (b = true ↔ l.length ≤ 60 ∧ ∀ i, j ≤ i → i < l.length → ChkE term l i) := by
    intro m
    induction m with
    | zero =>
      intro n j e hn
      obtain ⟨n, rfl⟩ : ∃ q, n = q + 1 := ⟨n - 1, by omega⟩
      simp only [i_logOK.l1]
      rw [decide_f (by omega), cf]
      refine ⟨_, rfl, ?_⟩
      rw [decide_eq_true_iff]
      exact ⟨fun h => ⟨by omega, fun i h1 h2 => by omega⟩, fun h => by have := h.1; omega⟩
    | succ m ih =>
      intro n j e hn
      obtain ⟨n, rfl⟩ : ∃ q, n = q + 1 := ⟨n - 1, by omega⟩
      have hj : j < l.length := by omega
      have hlen := hs.1
      have hsz := hs.2 _ (List.getElem_mem hj)
      obtain ⟨b, h1, h2⟩ := ih n (j + 1) (by omega) (by omega)
      simp only [i_logOK.l1]
      rw [decide_t (by omega), ct, grd_of (gIx_t (by omega) (by omega)), Int.toNat_natCast, rdE_at (k := kEntry) hj, entryOK_i' _ _ _ hsz, bs, wr (x := (j : Int) + 1) (by omega) (by omega), show ((j : Int) + 1) = ((j + 1 : Nat) : Int) by omega]
      have no : ∀ q : Prop, (¬ ChkE term l j) → (∃ b, (some false : Option Bool) = some b ∧ (b = true ↔ l.length ≤ 60 ∧ ∀ i, j ≤ i → i < l.length → ChkE term l i)) := fun _ hc => ⟨false, rfl, by simp; intro _; exact ⟨j, Nat.le_refl _, hj, hc⟩⟩
      cases hok : entOK l[j].1 l[j].2.1 (bytesL l[j].2.2) with
      | false =>
        rw [Bool.not_false, ct]
        exact no True fun ⟨_, h3, _⟩ => by rw [hok] at h3; simp at h3
      | true =>
        rw [Bool.not_true, cf]
        by_cases ht : l[j].1 > term
        · rw [decide_t ht, ct]
          exact no True fun ⟨_, _, h3, _⟩ => absurd h3 (Int.not_le.2 ht)
        · rw [decide_f ht, cf]
          have yes : (∀ (h0 : 0 < j), (l[j - 1]'(by omega)).1 ≤ l[j].1) → ∃ b', i_logOK.l1 (fun log1 => some (decide ((List.length log1 : Int) ≤ (60 : Int)))) (fun b => some b) n l term l l.length ((j + 1 : Nat) : Int) = some b' ∧ (b' = true ↔ l.length ≤ 60 ∧ ∀ i, j ≤ i → i < l.length → ChkE term l i) := fun hp => by
            refine ⟨b, h1, h2.trans ⟨fun ⟨h3, h4⟩ => ⟨h3, fun i h5 h6 => ?_⟩, fun ⟨h3, h4⟩ => ⟨h3, fun i h5 h6 => h4 i (by omega) h6⟩⟩⟩
            rcases Nat.eq_or_lt_of_le h5 with rfl | h5
            · exact ⟨hj, hok, Int.not_lt.1 ht, hp⟩
            · exact h4 i h5 h6
          by_cases h0 : (j : Int) > 0
          · rw [decide_t h0, ct, wr (x := (j : Int) - 1) (by omega) (by omega), grd_of (gIx_t (by omega) (by omega)), show ((j : Int) - 1).toNat = j - 1 by omega, rdE_at (k := kEntry) (show j - 1 < l.length by omega)]
            by_cases hp : (l[j - 1]'(by omega)).1 > l[j].1
            · rw [decide_t hp, ct]
              exact no True fun ⟨_, _, _, h3⟩ => absurd (h3 (by omega)) (Int.not_le.2 hp)
            · rw [decide_f hp, cf]
              exact yes fun _ => Int.not_lt.1 hp
          · rw [decide_f h0, cf]
            exact yes fun h => by omega
  obtain ⟨b, h1, h2⟩ := key l.length fuel 0 (by omega) (fuel_big (by have := hs.1; omega))
  exact ⟨b, h1, h2.trans ⟨fun ⟨h3, h4⟩ => ⟨h3, fun i h => h4 i (by omega) h⟩, fun ⟨h3, h4⟩ => ⟨h3, fun i _ h => h4 i h⟩⟩⟩
theorem stateOK_i (t v : Int) (l : List (El kEntry)) (hs : Short l) : ∃ b, i_StateOK t v l = some b ∧ (b = true ↔ StOK t v l) := by
  unfold i_StateOK i_StateOK.F StOK
  rw [within_eq, bs]
  by_cases h1 : 0 ≤ t ∧ t ≤ 1000000
  · rw [decide_t h1.1, decide_t h1.2, Bool.and_self, ct, within_eq, bs]
    by_cases h2 : -1 ≤ v ∧ v ≤ 6
    · obtain ⟨b, h3, h4⟩ := logOK_i l t hs
      rw [decide_t h2.1, decide_t h2.2, Bool.and_self, ct, h3, bs]
      exact ⟨b, rfl, h4.trans ⟨fun h => ⟨h1, h2, h⟩, fun h => h.2.2⟩⟩
    · rw [show (decide (-1 ≤ v) && decide (v ≤ 6)) = false by rw [← Bool.not_eq_true, Bool.and_eq_true, decide_eq_true_iff, decide_eq_true_iff]; exact h2, cf]
      exact ⟨false, rfl, by simp; intro _ _ h3 h4; exact absurd ⟨h3, h4⟩ h2⟩
  · rw [show (decide (0 ≤ t) && decide (t ≤ 1000000)) = false by rw [← Bool.not_eq_true, Bool.and_eq_true, decide_eq_true_iff, decide_eq_true_iff]; exact h1, cf]
    exact ⟨false, rfl, by simp; intro h3 h4; exact absurd ⟨h3, h4⟩ h1⟩
theorem stateOK_s (t v : Int) (l : List (El kEntry)) (hs : Short l) : ∃ b, s_StateOK t v l = some b ∧ (b = true ↔ StOK t v l) := by
  unfold s_StateOK s_StateOK.F StOK
  have key : l.length ≤ 60 → ∀ (m n j : Nat), j + m = l.length → m < n → ∃ b, s_StateOK.l1 (some true) (fun b => some b) n j t v l = some b ∧ (b = true ↔ ∀ i, j ≤ i → i < l.length → ChkE t l i) := by
    intro h60 m
    induction m with
    | zero =>
      intro n j e hn
      obtain ⟨n, rfl⟩ : ∃ q, n = q + 1 := ⟨n - 1, by omega⟩
      simp only [s_StateOK.l1]
      rw [decide_f (by omega), cf]
      exact ⟨_, rfl, by simp; intro i h1 h2; omega⟩
    | succ m ih =>
      intro n j e hn
      obtain ⟨n, rfl⟩ : ∃ q, n = q + 1 := ⟨n - 1, by omega⟩
      have hj : j < l.length := by omega
      have hsz := hs.2 _ (List.getElem_mem hj)
      obtain ⟨b, h1, h2⟩ := ih n (j + 1) (by omega) (by omega)
      simp only [s_StateOK.l1]
      rw [decide_t (by omega), ct, grd_of (gIx_t (by omega) (by omega)), Int.toNat_natCast, rdE_at (k := kEntry) hj, entryOK_s' _ _ _ hsz, bs, wr (x := (j : Int) + 1) (by omega) (by omega), show ((j : Int) + 1) = ((j + 1 : Nat) : Int) by omega]
      have no : ∀ q : Prop, (¬ ChkE t l j) → (∃ b, (some false : Option Bool) = some b ∧ (b = true ↔ ∀ i, j ≤ i → i < l.length → ChkE t l i)) := fun _ hc => ⟨false, rfl, by simp; exact ⟨j, Nat.le_refl _, hj, hc⟩⟩
      cases hok : entOK l[j].1 l[j].2.1 (bytesL l[j].2.2) with
      | false =>
        rw [Bool.not_false, ct]
        exact no True fun ⟨_, h3, _⟩ => by rw [hok] at h3; simp at h3
      | true =>
        rw [Bool.not_true, cf, grd_of (gIx_t (by omega) (by omega))]
        by_cases ht : l[j].1 > t
        · rw [decide_t ht, ct]
          exact no True fun ⟨_, _, h3, _⟩ => absurd h3 (Int.not_le.2 ht)
        · rw [decide_f ht, cf]
          have yes : (∀ (h0 : 0 < j), (l[j - 1]'(by omega)).1 ≤ l[j].1) → ∃ b', s_StateOK.l1 (some true) (fun b => some b) n ((j + 1 : Nat) : Int) t v l = some b' ∧ (b' = true ↔ ∀ i, j ≤ i → i < l.length → ChkE t l i) := fun hp => by
            refine ⟨b, h1, h2.trans ⟨fun h4 i h5 h6 => ?_, fun h4 i h5 h6 => h4 i (by omega) h6⟩⟩
            rcases Nat.eq_or_lt_of_le h5 with rfl | h5
            · exact ⟨hj, hok, Int.not_lt.1 ht, hp⟩
            · exact h4 i h5 h6
          by_cases h0 : (j : Int) > 0
          · rw [decide_t h0, ct, wr (x := (j : Int) - 1) (by omega) (by omega), grd_of (gIx_t (by omega) (by omega)), grd_of (gIx_t (by omega) (by omega)), show ((j : Int) - 1).toNat = j - 1 by omega, rdE_at (k := kEntry) (show j - 1 < l.length by omega)]
            by_cases hp : (l[j - 1]'(by omega)).1 > l[j].1
            · rw [decide_t hp, ct]
              exact no True fun ⟨_, _, _, h3⟩ => absurd (h3 (by omega)) (Int.not_le.2 hp)
            · rw [decide_f hp, cf]
              exact yes fun _ => Int.not_lt.1 hp
          · rw [decide_f h0, cf]
            exact yes fun h => by omega
  rw [l01In_eq, bs]
  by_cases h1 : 0 ≤ t ∧ t ≤ 1000000
  · rw [decide_t h1.1, decide_t h1.2, Bool.and_self, Bool.not_true, cf, l01In_eq, bs]
    by_cases h2 : -1 ≤ v ∧ v ≤ 6
    · rw [decide_t h2.1, decide_t h2.2, Bool.and_self, Bool.not_true, cf]
      by_cases h3 : (l.length : Int) > 60
      · rw [decide_t h3, ct]
        exact ⟨false, rfl, by simp; intro _ _ _ _ h4; have := h4.1; omega⟩
      · rw [decide_f h3, cf]
        obtain ⟨b, h4, h5⟩ := key (by omega) l.length fuel 0 (by omega) (fuel_big (by omega))
        exact ⟨b, h4, h5.trans ⟨fun h => ⟨h1, h2, by omega, fun i hi => h i (by omega) hi⟩, fun h i _ hi => h.2.2.2 i hi⟩⟩
    · rw [show (decide (-1 ≤ v) && decide (v ≤ 6)) = false by rw [← Bool.not_eq_true, Bool.and_eq_true, decide_eq_true_iff, decide_eq_true_iff]; exact h2, Bool.not_false, ct]
      exact ⟨false, rfl, by simp; intro _ _ h3 h4; exact absurd ⟨h3, h4⟩ h2⟩
  · rw [show (decide (0 ≤ t) && decide (t ≤ 1000000)) = false by rw [← Bool.not_eq_true, Bool.and_eq_true, decide_eq_true_iff, decide_eq_true_iff]; exact h1, Bool.not_false, ct]
    exact ⟨false, rfl, by simp; intro h3 h4; exact absurd ⟨h3, h4⟩ h1⟩
end Go.Proofs.YtdpjbeeokimnaaaA
