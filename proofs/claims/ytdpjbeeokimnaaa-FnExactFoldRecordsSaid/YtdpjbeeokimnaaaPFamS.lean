/-
  The laws' helpers at texts and entries. No condition.
-/
import Derived.Test.YtdpjbeeokimnaaaPLoop
import Derived.Test.YtdpjbeeokimnaaaPEnt
namespace Go.Proofs.YtdpjbeeokimnaaaA
open Go
set_option linter.unusedVariables false
set_option linter.unusedSimpArgs false

/-- A mark's text, of a number up to 2^62. -/
theorem markText_ok (k : Int) (h : k ≤ 4611686018427387904) : ∃ s, l_markText k = some s := by
  unfold l_markText l_markText.F
  by_cases h0 : k ≤ 0
  · rw [decide_t h0, ct]
    exact ⟨_, rfl⟩
  · rw [decide_f h0, cf]
    have key : ∀ (m n : Nat) (x : Int) (out : ByteArray), x ≤ m → m < n → 0 ≤ x → x ≤ 4611686018427387904 → out.size + m ≤ 9223372036854775000 →
        ∃ s, l_markText.l1 (fun out => grd (gCat (⟨#[109]⟩ : ByteArray) out) <| some ((⟨#[109]⟩ : ByteArray) ++ out)) n x out = some s := by
      intro m
      induction m with
      | zero =>
        intro n x out hx hn h1 h2 h3
        obtain ⟨n, rfl⟩ : ∃ q, n = q + 1 := ⟨n - 1, by omega⟩
        simp only [l_markText.l1]
        rw [decide_f (by omega), cf, grd_of (gCat_t (by
          have : (⟨#[109]⟩ : ByteArray).size = 1 := rfl
          omega))]
        exact ⟨_, rfl⟩
      | succ m ih =>
        intro n x out hx hn h1 h2 h3
        obtain ⟨n, rfl⟩ : ∃ q, n = q + 1 := ⟨n - 1, by omega⟩
        simp only [l_markText.l1]
        by_cases hp : x > 0
        · have hs : (strL [IntKind.wrap .u8 (IntKind.wrap .i64 ((48 : Int) + (Int.tmod x (10 : Int))))]).size = 1 := rfl
          rw [decide_t hp, ct, grd_of (gNz_t (by decide)), grd_of (gCat_t (by omega)), grd_of (gNz_t (by decide)), tdiv_pos (by omega), wr (x := x / 10) (by omega) (by omega)]
          refine ih n (x / 10) _ (by omega) (by omega) (by omega) (by omega) ?_
          rw [ByteArray.size_append, hs]
          omega
        · rw [decide_f hp, cf, grd_of (gCat_t (by
            have : (⟨#[109]⟩ : ByteArray).size = 1 := rfl
            omega))]
          exact ⟨_, rfl⟩
    exact key k.toNat fuel k ByteArray.empty (by omega) (fuel_big (by omega)) (by omega) h (by
      have : ByteArray.empty.size = 0 := rfl
      omega)
noncomputable def mT (k : Int) : ByteArray := (l_markText k).getD ByteArray.empty
theorem markText_eq (k : Int) (h : k ≤ 4611686018427387904) : l_markText k = some (mT k) := by
  obtain ⟨s, hs⟩ := markText_ok k h
  unfold mT
  rw [hs]
  rfl

/-! ### Rows of texts -/
/-- What the measure says: few of them, none long. -/
structure SzS (a : List ByteArray) : Prop where
  len : a.length ≤ 1048576
  each : ∀ s ∈ a, s.size ≤ 1048576
theorem szStringS_eq (a : List ByteArray) (left : Int) (h : 0 ≤ left) (hl : left ≤ 1048576) (ha : a.length ≤ 9223372036854775) (hs : ∀ s ∈ a, s.size ≤ 140737488351232) : ∃ r, l_szStringS a left = some r ∧ r ≤ left ∧ (¬ r < 0 → SzS a) := by
  unfold l_szStringS l_szStringS.F
  rw [wr (x := left - (a.length : Int)) (by omega) (by omega)]
  by_cases h0 : left - (a.length : Int) < 0
  · rw [decide_t h0, ct]
    exact ⟨_, rfl, by omega, fun h => by omega⟩
  · rw [decide_f h0, cf]
    have key : ∀ (m n i : Nat) (q : Int), i + m = a.length → m < n → 0 ≤ q → q ≤ left → ∃ r, l_szStringS.l1 (fun left1 => some left1) (fun i => some i) n a q i = some r ∧ r ≤ left ∧ (¬ r < 0 → ∀ s ∈ a.drop i, s.size ≤ 1048576) := by
      intro m
      induction m with
      | zero =>
        intro n i q e hn hq hq1
        obtain ⟨n, rfl⟩ : ∃ q, n = q + 1 := ⟨n - 1, by omega⟩
        simp only [l_szStringS.l1]
        rw [decide_f (by omega), cf, List.drop_of_length_le (by omega)]
        exact ⟨_, rfl, hq1, fun _ s hs => by simp at hs⟩
      | succ m ih =>
        intro n i q e hn hq hq1
        obtain ⟨n, rfl⟩ : ∃ q, n = q + 1 := ⟨n - 1, by omega⟩
        have hi : i < a.length := by omega
        have h2 := hs _ (List.getElem_mem hi)
        simp only [l_szStringS.l1]
        rw [decide_t (by omega), ct, grd_of (gIx_t (by omega) (by omega)), Int.toNat_natCast, rdE_at (k := .str) hi, wr (x := q - (a[i].size : Int)) (by omega) (by omega)]
        by_cases h3 : q - (a[i].size : Int) < 0
        · rw [decide_t h3, ct]
          exact ⟨_, rfl, by omega, fun h => by omega⟩
        · rw [decide_f h3, cf, wr (x := (i : Int) + 1) (by omega) (by omega)]
          obtain ⟨r, h4, h5, h6⟩ := ih n (i + 1) _ (by omega) (by omega) (by omega : 0 ≤ q - (a[i].size : Int)) (by omega)
          rw [show ((i + 1 : Nat) : Int) = (i : Int) + 1 by omega] at h4
          refine ⟨r, h4, h5, fun h s hs => ?_⟩
          rw [drop_cons hi] at hs
          rcases List.mem_cons.1 hs with rfl | hs
          · omega
          · exact h6 h s hs
    obtain ⟨r, h4, h5, h6⟩ := key a.length fuel 0 _ (by omega) (fuel_big (by omega)) (by omega : 0 ≤ left - (a.length : Int)) (by omega)
    refine ⟨r, h4, h5, fun h => ⟨by omega, fun s hs => h6 h s (by simpa using hs)⟩⟩
theorem toStringS_eq (a : List ByteArray) (h : a.length ≤ 1048576) : l_toStringS a = some a := by
  unfold l_toStringS l_toStringS.F
  rw [grd_of (gMk_t (by omega) (by omega) (by omega))]
  refine copy_loop (k := .str) (L := fun n i out => l_toStringS.l1 (fun out => some out) n a i out) (fin := fun out => some out) ?_ ?_ a.length fuel 0 _ (by omega) (fuel_big (by omega)) (by simp) (by simp)
  · intro n i out hi hl
    simp only [l_toStringS.l1]
    rw [decide_t (by omega), ct, grd_of (gIx_t (by omega) (by omega)), grd_of (gIx_t (by omega) (by omega)), wr (by omega) (by omega), Int.toNat_natCast, rdE_at (k := .str) hi, show ((i : Int) + 1) = ((i + 1 : Nat) : Int) by omega]
    rfl
  · intro n out
    simp only [l_toStringS.l1]
    rw [decide_f (by omega), cf]
theorem eqStringS_self (a : List ByteArray) (h : a.length ≤ 1048576) : l_eqStringS a a = some true := by
  unfold l_eqStringS l_eqStringS.F
  rw [show ((a.length : Int) != a.length) = false by simp, cf]
  have hs : ∀ (n : Nat) (s : Unit) (i : Nat), i < a.length → True → l_eqStringS.l1 (some true) (fun b1 => some b1) (n + 1) a a (i : Int) = l_eqStringS.l1 (some true) (fun b1 => some b1) n a a ((i + 1 : Nat) : Int) := by
    intro n _ i hi _
    simp only [l_eqStringS.l1]
    rw [decide_t (by omega), ct, grd_of (gIx_t (by omega) (by omega)), grd_of (gIx_t (by omega) (by omega)), sEq_self, Bool.not_true, cf, wr (by omega) (by omega), show ((i : Int) + 1) = ((i + 1 : Nat) : Int) by omega]
  have h0 : ∀ (n : Nat) (s : Unit), True → l_eqStringS.l1 (some true) (fun b1 => some b1) (n + 1) a a (a.length : Int) = some true := by
    intro n _ _
    simp only [l_eqStringS.l1]
    rw [decide_f (by omega), cf]
  obtain ⟨_, h1, _⟩ := pass_loop (S := Unit) (L := fun n _ i => l_eqStringS.l1 (some true) (fun b1 => some b1) n a a i) (len := a.length) (step := fun _ _ => ()) (fin := fun _ => some true) (fun _ _ => True) hs (fun _ _ _ _ => trivial) h0 a.length fuel 0 () (by omega) (fuel_big (by omega)) trivial
  exact h1
theorem markStringS_eq (a : List ByteArray) (h : a.length ≤ 1048576) (k : Int) (h0 : 0 < k) (h1 : k ≤ 1000000000000) : l_markStringS a k = some (k + a.length, mkL mT 1 k a.length) := by
  unfold l_markStringS l_markStringS.F
  have := mark_loop (k := .str) (L := fun n q i a => l_markStringS.l1 (fun k_1 a1 => some (k_1, a1)) n q i a) (f := mT) (c := 1) (by decide) (B := 2000000000000) (fin := fun q a => some (q, a)) ?_ ?_ a [] fuel k (fuel_big (by omega)) (by simp; omega) h0 (by omega)
  · simp only [List.length_nil, Int.natCast_zero, List.nil_append] at this
    rw [this, Int.one_mul]
  · intro n i q a hi hN hq hB
    simp only [l_markStringS.l1]
    rw [decide_t (by omega), ct, markText_eq q (by omega), bs, grd_of (gIx_t (by omega) (by omega)), wr (x := q + 1) (by omega) (by omega), wr (by omega) (by omega), Int.toNat_natCast, show ((i : Int) + 1) = ((i + 1 : Nat) : Int) by omega]
    rfl
  · intro n q a
    simp only [l_markStringS.l1]
    rw [decide_f (by omega), cf]

/-! ### Rows of entries -/
theorem eqEntry_self (t k : Int) (D : ByteArray) : l_eqEntry t k D t k D = some true := by
  unfold l_eqEntry l_eqEntry.F
  simp only [bne_self_eq_false, cf, sEq_self, Bool.not_true]
theorem eqEntryS_self (a : List (El kEntry)) (h : a.length ≤ 1048576) : l_eqEntryS a a = some true := by
  unfold l_eqEntryS l_eqEntryS.F
  rw [show ((a.length : Int) != a.length) = false by simp, cf]
  have hs : ∀ (n : Nat) (s : Unit) (i : Nat), i < a.length → True → l_eqEntryS.l1 (some true) (fun b1 => some b1) (n + 1) a a (i : Int) = l_eqEntryS.l1 (some true) (fun b1 => some b1) n a a ((i + 1 : Nat) : Int) := by
    intro n _ i hi _
    simp only [l_eqEntryS.l1]
    rw [decide_t (by omega), ct, grd_of (gIx_t (by omega) (by omega)), grd_of (gIx_t (by omega) (by omega)), eqEntry_self, bs, Bool.not_true, cf, wr (by omega) (by omega), show ((i : Int) + 1) = ((i + 1 : Nat) : Int) by omega]
  have h0 : ∀ (n : Nat) (s : Unit), True → l_eqEntryS.l1 (some true) (fun b1 => some b1) (n + 1) a a (a.length : Int) = some true := by
    intro n _ _
    simp only [l_eqEntryS.l1]
    rw [decide_f (by omega), cf]
  obtain ⟨_, h1, _⟩ := pass_loop (S := Unit) (L := fun n _ i => l_eqEntryS.l1 (some true) (fun b1 => some b1) n a a i) (len := a.length) (step := fun _ _ => ()) (fin := fun _ => some true) (fun _ _ => True) hs (fun _ _ _ _ => trivial) h0 a.length fuel 0 () (by omega) (fuel_big (by omega)) trivial
  exact h1
noncomputable def mE (k : Int) : El kEntry := (k, (k + 1, mT (k + 2)))
theorem markEntryS_eq (a : List (El kEntry)) (h : a.length ≤ 1048576) (k : Int) (h0 : 0 < k) (h1 : k ≤ 1000000000000) : l_markEntryS a k = some (k + 3 * a.length, mkL mE 3 k a.length) := by
  unfold l_markEntryS l_markEntryS.F
  have := mark_loop (k := kEntry) (L := fun n q i a => l_markEntryS.l1 (fun k_1 a1 => some (k_1, a1)) n q i a) (f := mE) (c := 3) (by decide) (B := 2000000000000) (fin := fun q a => some (q, a)) ?_ ?_ a [] fuel k (fuel_big (by omega)) (by simp; omega) h0 (by omega)
  · simp only [List.length_nil, Int.natCast_zero, List.nil_append] at this
    rw [this]
  · intro n i q a hi hN hq hB
    simp only [l_markEntryS.l1]
    rw [decide_t (by omega), ct]
    simp only [setE_length (k := kEntry), Int.toNat_natCast, rdE_setE (k := kEntry) _ _ _ hi, rdE_setE (k := kEntry) _ _ _ (show i < (setE kEntry a i (q, (rdE kEntry a i).2)).length by rw [setE_length]; exact hi), setE_setE (k := kEntry)]
    rw [grd_of (gIx_t (by omega) (by omega)), grd_of (gIx_t (by omega) (by omega)), wr (x := q + 1) (by omega) (by omega), wr (x := q + 1 + 1) (by omega) (by omega), markText_eq _ (by omega), bs, grd_of (gIx_t (by omega) (by omega)), wr (x := q + 1 + 1 + 1) (by omega) (by omega), wr (by omega) (by omega), show ((i : Int) + 1) = ((i + 1 : Nat) : Int) by omega, show q + 1 + 1 + 1 = q + 3 by omega, show q + 1 + 1 = q + 2 by omega]
    rfl
  · intro n q a
    simp only [l_markEntryS.l1]
    rw [decide_f (by omega), cf]
theorem heldEntryS_eq (n : Nat) (h : n ≤ 1048576) (k : Int) (h0 : 0 < k) (h1 : k ≤ 1000000000000) : l_heldEntryS (mkL mE 3 k n) k = some (k + 3 * n) := by
  have hl := mkL_length mE 3 k n
  unfold l_heldEntryS l_heldEntryS.F
  have := held_loop (k := kEntry) (L := fun n a q i => l_heldEntryS.l1 (fun k_1 => some k_1) (fun i => some i) n a q i) (f := mE) (c := 3) (by decide) (B := 2000000000000) (a := mkL mE 3 k n) (fin := fun q => some q) ?_ ?_ (q0 := k) (by rw [hl]) h0 (by rw [hl]; omega) n fuel 0 (by omega) (fuel_big (by omega))
  · simp only [Int.natCast_zero, Int.mul_zero, Int.add_zero, hl] at this
    exact this
  · intro n' i q hi hg hq hB
    simp only [l_heldEntryS.l1]
    rw [decide_t (by omega), ct, Int.toNat_natCast, rdE_at hi, hg]
    simp only [mE]
    rw [grd_of (gIx_t (by omega) (by omega)), bne_self_eq_false, cf, grd_of (gIx_t (by omega) (by omega)), wr (x := q + 1) (by omega) (by omega), bne_self_eq_false, cf, grd_of (gIx_t (by omega) (by omega)), wr (x := q + 1 + 1) (by omega) (by omega), show q + 1 + 1 = q + 2 by omega, markText_eq _ (by omega), bs, sEq_self, Bool.not_true, cf, wr (x := q + 2 + 1) (by omega) (by omega), wr (by omega) (by omega), show ((i : Int) + 1) = ((i + 1 : Nat) : Int) by omega, show q + 2 + 1 = q + 3 by omega]
  · intro n' q
    simp only [l_heldEntryS.l1]
    rw [decide_f (by omega), cf]
end Go.Proofs.YtdpjbeeokimnaaaA
