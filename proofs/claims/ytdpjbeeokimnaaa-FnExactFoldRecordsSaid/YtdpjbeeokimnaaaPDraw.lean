/-
  Draws out of a code: each draw comes to an end, with a number below what is asked. No condition.
-/
import Derived.Test.YtdpjbeeokimnaaaPCmd2
namespace Go.Proofs.YtdpjbeeokimnaaaA
open Go
set_option linter.unusedVariables false
set_option linter.unusedSimpArgs false

structure SrcOK (c : List Int) (a s : Int) (N : Int) : Prop where
  hb : IsBytes c
  hl : c.length ≤ 1048576
  a0 : 0 ≤ a
  aN : a ≤ N
  NN : N ≤ 4611686018427387904
  s0 : 0 ≤ s
  s1 : s < 2147483648
theorem SrcOK.mono {c : List Int} {a s N M : Int} (h : SrcOK c a s N) (h1 : N ≤ M) (h2 : M ≤ 4611686018427387904) : SrcOK c a s M := ⟨h.hb, h.hl, h.a0, by have := h.aN; omega, h2, h.s0, h.s1⟩
theorem byte_eq {c : List Int} {a s N : Int} (h : SrcOK c a s N) (hN : N + 1 ≤ 4611686018427387904) : ∃ v a' s', s_l00Src_byte c a s = some (v, c, a', s') ∧ (0 ≤ v ∧ v < 256) ∧ SrcOK c a' s' (N + 1) := by
  obtain ⟨hb, hl, a0, aN, _, s0, s1⟩ := h
  unfold s_l00Src_byte s_l00Src_byte.F
  rw [wr (x := a + 1) (by omega) (by omega), wr (x := a + 1 - 1) (by omega) (by omega)]
  by_cases h1 : a + 1 ≤ c.length
  · have hlt : a.toNat < c.length := by omega
    have hg := hb.get hlt
    have e : rdE (.int .u8) c (a + 1 - 1).toNat = c[a.toNat] := by
      rw [show (a + 1 - 1) = a by omega]; exact rdE_at (k := .int .u8) hlt
    rw [decide_t h1, cond_true, grd_of (gIx_t (by omega) (by omega)), grd_of (gNz_t (by decide)), grd_of (gIx_t (by omega) (by omega)), e]
    rw [wr (x := c[a.toNat]) (by omega) (by omega), wr (x := s * 31) (by omega) (by omega), wr (x := s * 31 + c[a.toNat]) (by omega) (by omega), wr (x := s * 31 + c[a.toNat] + 7) (by omega) (by omega), tmod_pos (by omega)]
    exact ⟨_, _, _, rfl, hg, hb, hl, by omega, by omega, by omega, by omega, by omega⟩
  · rw [decide_f h1, cond_false]
    by_cases h2 : a + 1 > 3000
    · rw [decide_t h2, cond_true]
      exact ⟨_, _, _, rfl, by decide, hb, hl, by omega, by omega, by omega, s0, s1⟩
    · rw [decide_f h2, cond_false, grd_of (gNz_t (by decide)), grd_of (gNz_t (by decide)), grd_of (gNz_t (by decide))]
      rw [wr (x := s * 1103515245) (by omega) (by omega), wr (x := s * 1103515245 + 12345) (by omega) (by omega), tmod_pos (x := s * 1103515245 + 12345) (by omega), tdiv_pos (by omega), wr (x := (s * 1103515245 + 12345) % 2147483648 / 65536) (by omega) (by omega), tmod_pos (by omega)]
      exact ⟨_, _, _, rfl, by omega, hb, hl, by omega, by omega, by omega, by omega, by omega⟩
theorem next_eq {c : List Int} {a s N : Int} (h : SrcOK c a s N) (hN : N + 3 ≤ 4611686018427387904) (n : Int) (h1 : 1 < n) (h2 : n ≤ 16777216) : ∃ v a' s', s_l00Src_next c a s n = some (v, c, a', s') ∧ (0 ≤ v ∧ v < n) ∧ SrcOK c a' s' (N + 3) := by
  unfold s_l00Src_next s_l00Src_next.F
  rw [decide_f (by omega : ¬ n ≤ 1), cond_false]
  obtain ⟨v, a1, s1, e1, hv, h3⟩ := byte_eq h (by omega)
  by_cases h4 : n ≤ 256
  · rw [decide_t h4, cond_true, e1, Option.bind_some, grd_of (gNz_t (by omega)), tmod_pos hv.1]
    exact ⟨_, _, _, rfl, ⟨Int.emod_nonneg _ (by omega), Int.emod_lt_of_pos _ (by omega)⟩, h3.mono (by omega) (by omega)⟩
  · obtain ⟨v2, a2, s2, e2, hv2, h5⟩ := byte_eq h3 (by omega)
    obtain ⟨v3, a3, s3, e3, hv3, h6⟩ := byte_eq h5 (by omega)
    rw [decide_f h4, cond_false, e1, Option.bind_some]
    dsimp only
    rw [e2, Option.bind_some]
    dsimp only
    rw [e3, Option.bind_some]
    dsimp only
    rw [grd_of (gNz_t (by omega)), wr (x := v * 65536) (by omega) (by omega), wr (x := v2 * 256) (by omega) (by omega), wr (x := v * 65536 + v2 * 256) (by omega) (by omega), wr (x := v * 65536 + v2 * 256 + v3) (by omega) (by omega), tmod_pos (by omega)]
    exact ⟨_, _, _, rfl, ⟨Int.emod_nonneg _ (by omega), Int.emod_lt_of_pos _ (by omega)⟩, h6.mono (by omega) (by omega)⟩
theorem next_one {c : List Int} {a s : Int} (n : Int) (h1 : n ≤ 1) : s_l00Src_next c a s n = some (0, c, a, s) := by
  unfold s_l00Src_next s_l00Src_next.F
  rw [decide_t h1, cond_true]
theorem source_eq (c : List Int) (hb : IsBytes c) (hl : c.length ≤ 1048576) : ∃ s, s_l00Source c = some (c, 0, s) ∧ SrcOK c 0 s 0 := by
  unfold s_l00Source s_l00Source.F
  rw [grd_of (gNz_t (by decide)), tmod_pos (by omega)]
  exact ⟨_, rfl, hb, hl, by omega, by omega, by decide, by omega, by omega⟩
theorem pick_eq {c : List Int} {a s N : Int} (h : SrcOK c a s N) (hN : N + 3 ≤ 4611686018427387904) (l : List ByteArray) (h0 : 1 < l.length) (h1 : l.length ≤ 1000) : ∃ v a' s', s_l00Src_pick c a s l = some (v, c, a', s') ∧ v ∈ l ∧ SrcOK c a' s' (N + 3) := by
  unfold s_l00Src_pick s_l00Src_pick.F
  rw [show ((l.length : Int) == 0) = false from beq_eq_false_iff_ne.2 (by omega), cond_false]
  obtain ⟨v, a', s', e, hv, h2⟩ := next_eq h hN l.length (by omega) (by omega)
  rw [e, Option.bind_some]
  dsimp only
  rw [grd_of (gIx_t hv.1 hv.2), rdE_at (k := .str) (by omega)]
  exact ⟨_, _, _, rfl, List.getElem_mem _, h2⟩
theorem chance_eq {c : List Int} {a s N : Int} (h : SrcOK c a s N) (hN : N + 3 ≤ 4611686018427387904) (n : Int) (h1 : 1 < n) (h2 : n ≤ 16777216) : ∃ v a' s', s_l00Src_chance c a s n = some (v, c, a', s') ∧ SrcOK c a' s' (N + 3) := by
  unfold s_l00Src_chance s_l00Src_chance.F
  obtain ⟨v, a', s', e, hv, h3⟩ := next_eq h hN n h1 h2
  rw [e, Option.bind_some]
  exact ⟨_, _, _, rfl, h3⟩
theorem isKey_of {v : ByteArray} (h : v ∈ [(⟨#[97]⟩ : ByteArray), (⟨#[98]⟩ : ByteArray), (⟨#[99]⟩ : ByteArray), (⟨#[97, 108, 112, 104, 97]⟩ : ByteArray), (⟨#[98, 101, 116, 97]⟩ : ByteArray)]) : isKeyB v = true := by
  simp only [List.mem_cons, List.not_mem_nil, or_false] at h
  rcases h with rfl | rfl | rfl | rfl | rfl <;> rfl
theorem val_of {v : ByteArray} (h : v ∈ [ByteArray.empty, (⟨#[49]⟩ : ByteArray), (⟨#[50]⟩ : ByteArray), (⟨#[120]⟩ : ByteArray), (⟨#[108, 111, 110, 103, 101, 114, 32, 118, 97, 108, 117, 101]⟩ : ByteArray)]) : v.size ≤ 60 := by
  simp only [List.mem_cons, List.not_mem_nil, or_false] at h
  rcases h with rfl | rfl | rfl | rfl | rfl <;> decide
/-- A drawn command is a right one. -/
theorem command_eq {c : List Int} {a s N : Int} (h : SrcOK c a s N) (hN : N + 24 ≤ 4611686018427387904) : ∃ k se q key val a' s', s_l00Src_command c a s = some (k, se, q, key, val, c, a', s') ∧ cmdOK k se q key val = true ∧ (0 ≤ k ∧ k < 256) ∧ SrcOK c a' s' (N + 24) := by
  unfold s_l00Src_command s_l00Src_command.F
  obtain ⟨v1, a1, s1, e1, hv1, h1⟩ := next_eq h (by omega) 5 (by decide) (by decide)
  obtain ⟨v2, a2, s2, e2, hv2, h2⟩ := next_eq h1 (by omega) 3 (by decide) (by decide)
  obtain ⟨v3, a3, s3, e3, hv3, h3⟩ := next_eq h2 (by omega) 5 (by decide) (by decide)
  have hk : ∃ key a4 s4, s_l00Src_key c a3 s3 = some (key, c, a4, s4) ∧ isKeyB key = true ∧ SrcOK c a4 s4 (N + 3 + 3 + 3 + 3) := by
    unfold s_l00Src_key s_l00Src_key.F
    obtain ⟨v, a', s', e, hv, h'⟩ := pick_eq h3 (by omega) [(⟨#[97]⟩ : ByteArray), (⟨#[98]⟩ : ByteArray), (⟨#[99]⟩ : ByteArray), (⟨#[97, 108, 112, 104, 97]⟩ : ByteArray), (⟨#[98, 101, 116, 97]⟩ : ByteArray)] (by decide) (by decide)
    rw [e, Option.bind_some]
    exact ⟨_, _, _, rfl, isKey_of hv, h'⟩
  obtain ⟨key, a4, s4, e4, hkey, h4⟩ := hk
  have hd : ∃ val a5 s5, s_l00Src_datum c a4 s4 = some (val, c, a5, s5) ∧ val.size ≤ 60 ∧ SrcOK c a5 s5 (N + 3 + 3 + 3 + 3 + 3) := by
    unfold s_l00Src_datum s_l00Src_datum.F
    obtain ⟨v, a', s', e, hv, h'⟩ := pick_eq h4 (by omega) [ByteArray.empty, (⟨#[49]⟩ : ByteArray), (⟨#[50]⟩ : ByteArray), (⟨#[120]⟩ : ByteArray), (⟨#[108, 111, 110, 103, 101, 114, 32, 118, 97, 108, 117, 101]⟩ : ByteArray)] (by decide) (by decide)
    rw [e, Option.bind_some]
    exact ⟨_, _, _, rfl, val_of hv, h'⟩
  obtain ⟨val, a5, s5, e5, hval, h5⟩ := hd
  obtain ⟨v6, a6, s6, e6, h6⟩ := chance_eq h5 (by omega) 4 (by decide) (by decide)
  obtain ⟨v7, a7, s7, e7, hv7, h7⟩ := next_eq h6 (by omega) 2 (by decide) (by decide)
  obtain ⟨v8, a8, s8, e8, hv8, h8⟩ := next_eq h7 (by omega) 3 (by decide) (by decide)
  have hkind : ∃ k0 : Int, rdE (.int .i64) [(1 : Int), (1 : Int), (2 : Int), (2 : Int), (3 : Int)] v1.toNat = k0 ∧ (k0 = 1 ∨ k0 = 2 ∨ k0 = 3) := by
    refine ⟨_, rfl, ?_⟩
    obtain ⟨w, rfl⟩ : ∃ w : Nat, v1 = w := ⟨v1.toNat, by omega⟩
    have : w < 5 := by omega
    match w, this with
    | 0, _ => exact .inl rfl
    | 1, _ => exact .inl rfl
    | 2, _ => exact .inr (.inl rfl)
    | 3, _ => exact .inr (.inl rfl)
    | 4, _ => exact .inr (.inr rfl)
  obtain ⟨k0, ek, hk0⟩ := hkind
  rw [e1, Option.bind_some]
  dsimp only
  rw [grd_of (gIx_t hv1.1 (by simpa using hv1.2)), e2, Option.bind_some]
  dsimp only
  rw [e3, Option.bind_some]
  dsimp only
  rw [e4, Option.bind_some]
  dsimp only
  rw [e5, Option.bind_some]
  dsimp only
  rw [ek, wr (x := 1 + v2) (by omega) (by omega), wr (x := 1 + v3) (by omega) (by omega)]
  have ok : ∀ (v : ByteArray), v.size ≤ 60 → (k0 = 3 → v = ByteArray.empty) → cmdOK k0 (1 + v2) (1 + v3) key v = true := by
    intro v hv h3
    have i1 : inShort (1 + v2) = true := by simp [inShort]; omega
    have i2 : inShort (1 + v3) = true := by simp [inShort]; omega
    unfold cmdOK
    rw [i1, i2, decide_t hv, hkey]
    rcases hk0 with rfl | rfl | rfl
    · simp
    · simp
    · rw [h3 rfl]; simp [sEq_self]
  have ko : ∀ w : Int, 0 ≤ w → w < 2 → cmdOK (4 + w) (1 + v8) 0 ByteArray.empty ByteArray.empty = true := by
    intro w hw0 hw1
    have i1 : inShort (1 + v8) = true := by simp [inShort]; omega
    unfold cmdOK
    rw [i1]
    rcases (show w = 0 ∨ w = 1 by omega) with rfl | rfl <;> simp [sEq_self, inShort]
  unfold s_l00Src_command.j1
  have tail : ∀ (v : ByteArray), v.size ≤ 60 → (k0 = 3 → v = ByteArray.empty) → ∃ k se q key' val' a' s',
      ((s_l00Src_chance c a5 s5 (4 : Int)).bind fun r5 =>
        cond r5.1 ((s_l00Src_next r5.2.1 r5.2.2.1 r5.2.2.2 (2 : Int)).bind fun r6 => (s_l00Src_next r6.2.1 r6.2.2.1 r6.2.2.2 (3 : Int)).bind fun r7 =>
          some (IntKind.wrap .i64 ((4 : Int) + r6.1), IntKind.wrap .i64 ((1 : Int) + r7.1), (0 : Int), ByteArray.empty, ByteArray.empty, r7.2.1, r7.2.2.1, r7.2.2.2))
          (some (k0, 1 + v2, 1 + v3, key, v, r5.2.1, r5.2.2.1, r5.2.2.2))) = some (k, se, q, key', val', c, a', s') ∧ cmdOK k se q key' val' = true ∧ (0 ≤ k ∧ k < 256) ∧ SrcOK c a' s' (N + 24) := by
    intro v hv h3
    rw [e6, Option.bind_some]
    dsimp only
    cases v6 with
    | false =>
      rw [cond_false]
      exact ⟨_, _, _, _, _, _, _, rfl, ok v hv h3, by omega, h6.mono (by omega) (by omega)⟩
    | true =>
      rw [cond_true, e7, Option.bind_some]
      dsimp only
      rw [e8, Option.bind_some]
      dsimp only
      rw [wr (x := 4 + v7) (by omega) (by omega), wr (x := 1 + v8) (by omega) (by omega)]
      exact ⟨_, _, _, _, _, _, _, rfl, ko v7 hv7.1 hv7.2, by omega, h8.mono (by omega) (by omega)⟩
  by_cases h3 : k0 = 3
  · rw [show (k0 == 3) = true from beq_iff_eq.2 h3, cond_true]
    exact tail ByteArray.empty (by decide) (fun _ => rfl)
  · rw [show (k0 == 3) = false from beq_eq_false_iff_ne.2 h3, cond_false]
    exact tail val hval (fun h => absurd h h3)
end Go.Proofs.YtdpjbeeokimnaaaA
