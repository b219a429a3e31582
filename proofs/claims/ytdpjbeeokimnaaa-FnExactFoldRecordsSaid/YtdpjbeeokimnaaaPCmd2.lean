/-
  Commands read from bytes: the program and the reference read alike, and read back what was written. No condition.
-/
import Derived.Test.YtdpjbeeokimnaaaPCmd
namespace Go.Proofs.YtdpjbeeokimnaaaA
open Go
set_option linter.unusedVariables false
set_option linter.unusedSimpArgs false

theorem pCnt_bytes {l K r : List Int} (h : IsBytes l) (hp : pCnt l = some (K, r)) : IsBytes K ∧ IsBytes r ∧ l = cntB K ++ r ∧ K.length < 256 := by
  cases l with
  | nil => simp [pCnt] at hp
  | cons a l =>
    simp only [pCnt] at hp
    split at hp
    · rename_i hl
      have ha := h a List.mem_cons_self
      simp only [Option.some.injEq, Prod.mk.injEq] at hp
      obtain ⟨rfl, rfl⟩ := hp
      refine ⟨h.tail.take _, h.tail.drop _, ?_, by simp; omega⟩
      unfold cntB
      rw [List.length_take, List.cons_append, List.take_append_drop]
      congr 1
      omega
    · simp at hp
theorem pCnt_cntB {K r : List Int} (h : K.length < 256) : pCnt (cntB K ++ r) = some (K, r) := by
  unfold cntB
  rw [List.cons_append, pCnt, if_pos (by simp; omega)]
  have : ((K.length : Int) % 256).toNat = K.length := by omega
  rw [this, List.take_left, List.drop_left]
structure PC where
  k : Int
  s : Int
  q : Int
  K : List Int
  V : List Int
  r : List Int
def pCmd : List Int → Option PC
  | a :: b :: c :: d :: e :: l => match pCnt l with
    | some (K, l1) => match pCnt l1 with
      | some (V, l2) => some ⟨a, b * 256 + c, d * 256 + e, K, V, l2⟩
      | none => none
    | none => none
  | _ => none
theorem readCmd_i (l : List Int) (hb : IsBytes l) : ∃ g1 g2 g3 g4 g5, i_readCommand (strL l) = some (match pCmd l with | some x => (x.k, x.s, x.q, strL x.K, strL x.V, decide (x.r = []) && cmdOK x.k x.s x.q (strL x.K) (strL x.V)) | none => (g1, g2, g3, g4, g5, false)) := by
  unfold i_readCommand i_readCommand.F
  match l, hb with
  | [], hb => exact ⟨_, _, _, _, _, by simp only [rnum_no [] 1 (by simp), rnum_bad, rcnt_bad, bs, Bool.not_true, cf, pCmd]; rfl⟩
  | [a], hb => exact ⟨_, _, _, _, _, by simp only [rnum1 a _ hb, rnum_no [] 2 (by simp), rnum_bad, rcnt_bad, bs, Bool.not_true, cf, pCmd]; rfl⟩
  | [a, b], hb => exact ⟨_, _, _, _, _, by simp only [rnum1 a _ hb, rnum_no [b] 2 (by simp), rnum_bad, rcnt_bad, bs, Bool.not_true, cf, pCmd]; rfl⟩
  | [a, b, c], hb => exact ⟨_, _, _, _, _, by simp only [rnum1 a _ hb, rnum2 b c _ hb.tail, rnum_no [] 2 (by simp), rnum_bad, rcnt_bad, bs, Bool.not_true, cf, pCmd]; rfl⟩
  | [a, b, c, d], hb => exact ⟨_, _, _, _, _, by simp only [rnum1 a _ hb, rnum2 b c _ hb.tail, rnum_no [d] 2 (by simp), rnum_bad, rcnt_bad, bs, Bool.not_true, cf, pCmd]; rfl⟩
  | a :: b :: c :: d :: e :: l, hb =>
    have h5 : IsBytes l := hb.tail.tail.tail.tail.tail
    obtain ⟨r1, h1⟩ := rcnt_eq l h5
    simp only [rnum1 a _ hb, rnum2 b c _ hb.tail, rnum2 d e _ hb.tail.tail.tail, bs, h1, pCmd]
    cases h2 : pCnt l with
    | none => exact ⟨_, _, _, _, _, by simp only [rcnt_bad, bs, Bool.not_true, cf]; rfl⟩
    | some x =>
      obtain ⟨K, l1⟩ := x
      obtain ⟨hK, hl1, _, _⟩ := pCnt_bytes h5 h2
      obtain ⟨r2, h3⟩ := rcnt_eq l1 hl1
      simp only [h3]
      cases h4 : pCnt l1 with
      | none => exact ⟨_, _, _, _, _, by simp only [bs, Bool.not_true, cf]; rfl⟩
      | some y =>
        obtain ⟨V, l2⟩ := y
        obtain ⟨hV, hl2, _, _⟩ := pCnt_bytes hl1 h4
        refine ⟨0, 0, 0, ByteArray.empty, ByteArray.empty, ?_⟩
        simp only [bs, Bool.not_false, ct, ← strL_nil, sEq_strL hl2 IsBytes.nil, commandOK_i]
        cases decide (l2 = []) <;> rfl
theorem snum_at (l : List Int) (hb : IsBytes l) (hl : l.length ≤ 1000000) (m : Nat) (hm : m ≤ 7) (p : Nat) (h : p + m ≤ l.length) : s_l02Reader_number l p false m = some (beN 0 ((l.drop p).take m), l, ((p + m : Nat) : Int), false) := by
  rw [snum_eq l hb hl m hm p (by omega), if_pos h]
theorem snum_no (l : List Int) (hb : IsBytes l) (hl : l.length ≤ 1000000) (m : Nat) (hm : m ≤ 7) (p : Nat) (hp : p ≤ l.length) (h : l.length < p + m) : s_l02Reader_number l p false m = some (0, l, (l.length : Int), true) := by
  rw [snum_eq l hb hl m hm p hp, if_neg (by omega)]
theorem readCmd_s (l : List Int) (hb : IsBytes l) (hl : l.length ≤ 1000000) : ∃ g1 g2 g3 g4 g5, s_l02Read l = some (match pCmd l with | some x => (x.k, x.s, x.q, strL x.K, strL x.V, decide (x.r = []) && cmdOK x.k x.s x.q (strL x.K) (strL x.V)) | none => (g1, g2, g3, g4, g5, false)) := by
  unfold s_l02Read s_l02Read.F
  have b1 : ∀ p, s_l02Reader_number l p true 1 = some (0, l, p, true) := fun p => snum_bad l p 1 (by decide)
  have b2 : ∀ p, s_l02Reader_number l p true 2 = some (0, l, p, true) := fun p => snum_bad l p 2 (by decide)
  have n1 := fun h => snum_no l hb hl 1 (by omega) 0 (by omega) h
  have a1 := fun h => snum_at l hb hl 1 (by omega) 0 h
  have n2 := fun h0 h => snum_no l hb hl 2 (by omega) 1 h0 h
  have a2 := fun h => snum_at l hb hl 2 (by omega) 1 h
  have n3 := fun h0 h => snum_no l hb hl 2 (by omega) 3 h0 h
  have a3 := fun h => snum_at l hb hl 2 (by omega) 3 h
  match l, hb, b1, b2, n1, a1, n2, a2, n3, a3 with
  | [], hb, b1, b2, n1, a1, n2, a2, n3, a3 =>
    have := n1 (by simp)
    simp only [Int.natCast_zero, show ((1 : Nat) : Int) = 1 from rfl] at this
    exact ⟨_, _, _, _, _, by simp only [this, b1, b2, stext_bad, bs, Bool.not_true, cf, pCmd]; rfl⟩
  | [a], hb, b1, b2, n1, a1, n2, a2, n3, a3 =>
    have h1 := a1 (by simp)
    have h2 := n2 (by simp) (by simp)
    simp only [Int.natCast_zero, show ((1 : Nat) : Int) = 1 from rfl, show ((2 : Nat) : Int) = 2 from rfl, Nat.zero_add] at h1 h2
    exact ⟨_, _, _, _, _, by simp only [h1, h2, b1, b2, stext_bad, bs, Bool.not_true, cf, pCmd]; rfl⟩
  | [a, b], hb, b1, b2, n1, a1, n2, a2, n3, a3 =>
    have h1 := a1 (by simp)
    have h2 := n2 (by simp) (by simp)
    simp only [Int.natCast_zero, show ((1 : Nat) : Int) = 1 from rfl, show ((2 : Nat) : Int) = 2 from rfl, Nat.zero_add] at h1 h2
    exact ⟨_, _, _, _, _, by simp only [h1, h2, b1, b2, stext_bad, bs, Bool.not_true, cf, pCmd]; rfl⟩
  | [a, b, c], hb, b1, b2, n1, a1, n2, a2, n3, a3 =>
    have h1 := a1 (by simp)
    have h2 := a2 (by simp)
    have h3 := n3 (by simp) (by simp)
    simp only [Int.natCast_zero, show ((1 : Nat) : Int) = 1 from rfl, show ((2 : Nat) : Int) = 2 from rfl, show ((3 : Nat) : Int) = 3 from rfl, Nat.zero_add, show 1 + 2 = 3 from rfl] at h1 h2 h3
    exact ⟨_, _, _, _, _, by simp only [h1, h2, h3, b1, b2, stext_bad, bs, Bool.not_true, cf, pCmd]; rfl⟩
  | [a, b, c, d], hb, b1, b2, n1, a1, n2, a2, n3, a3 =>
    have h1 := a1 (by simp)
    have h2 := a2 (by simp)
    have h3 := n3 (by simp) (by simp)
    simp only [Int.natCast_zero, show ((1 : Nat) : Int) = 1 from rfl, show ((2 : Nat) : Int) = 2 from rfl, show ((3 : Nat) : Int) = 3 from rfl, Nat.zero_add, show 1 + 2 = 3 from rfl] at h1 h2 h3
    exact ⟨_, _, _, _, _, by simp only [h1, h2, h3, b1, b2, stext_bad, bs, Bool.not_true, cf, pCmd]; rfl⟩
  | a :: b :: c :: d :: e :: l, hb, b1, b2, n1, a1, n2, a2, n3, a3 =>
    have h1 := a1 (by simp)
    have h2 := a2 (by simp)
    have h3 := a3 (by simp)
    have e1 : beN 0 (((a :: b :: c :: d :: e :: l).drop 0).take 1) = a := by simp [beN]
    have e2 : beN 0 (((a :: b :: c :: d :: e :: l).drop 1).take 2) = b * 256 + c := by simp [beN]
    have e3 : beN 0 (((a :: b :: c :: d :: e :: l).drop 3).take 2) = d * 256 + e := by simp [beN]
    rw [e1] at h1
    rw [e2] at h2
    rw [e3] at h3
    simp only [Int.natCast_zero, show ((1 : Nat) : Int) = 1 from rfl, show ((2 : Nat) : Int) = 2 from rfl, show ((3 : Nat) : Int) = 3 from rfl, Nat.zero_add, show 1 + 2 = 3 from rfl, show 3 + 2 = 5 from rfl] at h1 h2 h3
    generalize hL : a :: b :: c :: d :: e :: l = L at *
    have hd : L.drop 5 = l := by rw [← hL]; rfl
    have h5 : IsBytes l := by rw [← hd]; exact hb.drop 5
    have hlen : L.length = l.length + 5 := by rw [← hL]; rfl
    obtain ⟨r, n, h4, h4', h6⟩ := scnt_eq L hb hl 5 (by omega)
    obtain ⟨rb, ra, rd⟩ := r
    dsimp only at h4' h6
    subst h4'
    rw [hd] at h6
    simp only [h1, h2, h3, h4, bs]
    have hp : pCmd rb = match pCnt l with
        | some (K, l1) => (match pCnt l1 with
          | some (V, l2) => some ⟨a, b * 256 + c, d * 256 + e, K, V, l2⟩
          | none => none)
        | none => none := by rw [← hL]; rfl
    rw [hp]
    cases h7 : pCnt l with
    | none =>
      rw [h7] at h6
      obtain ⟨q, h8⟩ := h6
      exact ⟨_, _, _, _, _, by simp only [h8, b1, b2, stext_bad, bs, Bool.not_true, cf]; rfl⟩
    | some x =>
      obtain ⟨K, l1⟩ := x
      obtain ⟨hK, hl1, _, _⟩ := pCnt_bytes h5 h7
      rw [h7] at h6
      dsimp only at h6
      obtain ⟨rfl, h8, h9, h10⟩ := h6
      obtain ⟨r, n', h11, h11', h12⟩ := scnt_eq rb hb hl (rb.length - l1.length) (by omega)
      obtain ⟨rb', ra', rd'⟩ := r
      dsimp only at h11' h12
      subst h11'
      rw [← h9] at h12
      simp only [h8, h11, bs]
      cases h13 : pCnt l1 with
      | none =>
        rw [h13] at h12
        obtain ⟨q, h14⟩ := h12
        exact ⟨_, _, _, _, _, by simp only [h14, bs, Bool.not_true, cf]; rfl⟩
      | some y =>
        obtain ⟨V, l2⟩ := y
        rw [h13] at h12
        dsimp only at h12
        obtain ⟨rfl, h14, h15, h16⟩ := h12
        refine ⟨0, 0, 0, ByteArray.empty, ByteArray.empty, ?_⟩
        simp only [h14, bs, Bool.not_false, ct, commandOK_s]
        have : (((rb'.length - l2.length : Nat) : Int) == (rb'.length : Int)) = decide (l2 = []) := by
          rw [Bool.eq_iff_iff, beq_iff_eq, decide_eq_true_iff, ← List.length_eq_zero_iff]
          omega
        rw [this]
        cases decide (l2 = []) <;> rfl
theorem pCmd_cmdB {k s q : Int} {K V : List Int} (hk : 0 ≤ k ∧ k < 256) (hs : inShort s = true) (hq : inShort q = true) (hK : K.length < 256) (hV : V.length < 256) : pCmd (cmdB k s q K V) = some ⟨k, s, q, K, V, []⟩ := by
  simp only [inShort, Bool.and_eq_true, decide_eq_true_iff] at hs hq
  have e : cmdB k s q K V = k % 256 :: (s / 256 % 256) :: (s % 256) :: (q / 256 % 256) :: (q % 256) :: (cntB K ++ (cntB V ++ [])) := by
    unfold cmdB
    rw [beL1, beL2, beL2]
    simp
  rw [e, pCmd, pCnt_cntB hK]
  dsimp only
  rw [pCnt_cntB hV]
  simp only [Option.some.injEq, PC.mk.injEq, and_true]
  omega
theorem cmd_of_pCmd {l : List Int} (hb : IsBytes l) {x : PC} (h : pCmd l = some x) (hr : x.r = []) : l = cmdB x.k x.s x.q x.K x.V ∧ IsBytes x.K ∧ IsBytes x.V ∧ x.K.length < 256 ∧ x.V.length < 256 ∧ (0 ≤ x.k ∧ x.k < 256) ∧ inShort x.s = true ∧ inShort x.q = true := by
  match l, hb, h with
  | a :: b :: c :: d :: e :: l, hb, h =>
    have h5 : IsBytes l := hb.tail.tail.tail.tail.tail
    simp only [pCmd] at h
    cases h2 : pCnt l with
    | none => rw [h2] at h; simp at h
    | some y =>
      obtain ⟨K, l1⟩ := y
      obtain ⟨hK, hl1, e1, e2⟩ := pCnt_bytes h5 h2
      rw [h2] at h
      dsimp only at h
      cases h4 : pCnt l1 with
      | none => rw [h4] at h; simp at h
      | some z =>
        obtain ⟨V, l2⟩ := z
        obtain ⟨hV, hl2, e3, e4⟩ := pCnt_bytes hl1 h4
        rw [h4] at h
        simp only [Option.some.injEq] at h
        subst h
        dsimp only at hr ⊢
        subst hr
        have ha := hb a (by simp)
        have hb' := hb b (by simp)
        have hc := hb c (by simp)
        have hd := hb d (by simp)
        have he := hb e (by simp)
        refine ⟨?_, hK, hV, e2, e4, ha, ?_, ?_⟩
        · rw [e1, e3]
          unfold cmdB
          rw [beL1, beL2, beL2, show a % 256 = a by omega, show (b * 256 + c) / 256 % 256 = b by omega, show (b * 256 + c) % 256 = c by omega, show (d * 256 + e) / 256 % 256 = d by omega, show (d * 256 + e) % 256 = e by omega]
          simp
        · simp [inShort]; omega
        · simp [inShort]; omega
/-- ReadCommand: what the program and the reference return. -/
theorem ReadCommand_eq (l : List Int) (hb : IsBytes l) : i_ReadCommand l = s_ReadCommand l := by
  unfold i_ReadCommand i_ReadCommand.F s_ReadCommand s_ReadCommand.F
  by_cases h : (l.length : Int) > 65536
  · rw [decide_t h, cond_true, cond_true]
  · rw [decide_f h, cond_false, cond_false]
    obtain ⟨g1, g2, g3, g4, g5, h1⟩ := readCmd_i l hb
    obtain ⟨k1, k2, k3, k4, k5, h2⟩ := readCmd_s l hb (by omega)
    rw [h1, h2, Option.bind_some, Option.bind_some]
    cases pCmd l with
    | none => rfl
    | some x => rfl
end Go.Proofs.YtdpjbeeokimnaaaA
