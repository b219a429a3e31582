/-
  One record folded into a state, and all of them: the program's and the reference's. No condition.
-/
import Derived.Test.YtdpjbeeokimnaaaPState
namespace Go.Proofs.YtdpjbeeokimnaaaA
open Go
set_option linter.unusedVariables false
set_option linter.unusedSimpArgs false

def fStep (t v : Int) (l : List (El kEntry)) : List Int → Option (Int × Int × List (El kEntry))
  | [] => none
  | x :: m =>
    if x = 84 then (if m.length = 5 then some (beN 0 (m.take 4), beN 0 (m.drop 4) - 1, l) else none)
    else if x = 67 then (if m.length = 4 ∧ beN 0 m ≤ l.length then some (t, v, l.take (beN 0 m).toNat) else none)
    else if x = 69 then (match pEnt m with
      | some y => if (decide (y.r = []) && entOK y.t y.k y.D) = true ∧ l.length + 1 ≤ 60 then some (t, v, l ++ [(y.t, (y.k, strL y.D))]) else none
      | none => none)
    else none
theorem cut_tail (x : Int) (m : List Int) : cut (strL (x :: m)) 1 (ByteArray.size (strL (x :: m)) : Int) = strL m := by
  rw [strL_size, cut_strL, sub_drop _ _ rfl]
  rfl
theorem byteAt_head {x : Int} {m : List Int} (h : IsBytes (x :: m)) : byteAt (strL (x :: m)) 0 = x := by
  rw [byteAt_strL h (by decide) (by simp)]
  rfl
theorem sEq_cons {x : Int} {m : List Int} (h : IsBytes (x :: m)) : sEq (strL (x :: m)) ByteArray.empty = false := by
  rw [← strL_nil, sEq_strL h IsBytes.nil]
  simp
theorem beq_f {x y : Int} (h : ¬ x = y) : (x == y) = false := by simp [h]
theorem fold_i (t v : Int) (l : List (El kEntry)) (r : List Int) (hb : IsBytes r) (hr : r.length ≤ 1000) (hl : l.length ≤ 60) :
    match fStep t v l r with
    | some y => i_State_fold t v l (strL r) = some (true, y.1, y.2.1, y.2.2)
    | none => ∃ g1 g2 g3, i_State_fold t v l (strL r) = some (false, g1, g2, g3) := by
  unfold i_State_fold i_State_fold.F
  match r, hb, hr with
  | [], hb, hr =>
    rw [strL_nil, sEq_self, ct]
    exact ⟨_, _, _, rfl⟩
  | x :: m, hb, hr =>
    have hm : m.length ≤ 1000 := by simp at hr; omega
    have hbm := hb.tail
    rw [sEq_cons hb, cf, grd_of (gSl_t (by decide) (by rw [strL_size]; simp; omega) (by omega)), grd_of (gIx_t (by decide) (by rw [strL_size]; simp)), byteAt_head hb, cut_tail]
    simp only [fStep, strL_size m]
    by_cases h1 : x = 84
    · subst h1
      rw [if_pos rfl, beq_self_eq_true, ct]
      by_cases h2 : m.length = 5
      · have e4 : IsBytes (m.take 4) := hbm.take 4
        have e5 : IsBytes (m.drop 4) := hbm.drop 4
        have hx : (m.drop 4).length = 1 := by simp [h2]
        have hb1 := beN_bounds _ 0 e5 (by decide)
        rw [hx] at hb1
        have h256 : (0 + 1 : Int) * 256 ^ 1 = 256 := by decide
        rw [h256] at hb1
        rw [if_pos h2, show ((m.length : Int) != 5) = false by simp [h2], cf, grd_of (gSl_t (by decide) (by decide) (by omega)), cut_strL, sub_take, show (4 : Int).toNat = 4 from rfl, numberOf_eq _ e4 (by simp; omega), bs, grd_of (gSl_t (by decide) (by omega) (by omega)), cut_strL, sub_drop _ _ rfl, show (4 : Int).toNat = 4 from rfl, numberOf_eq _ e5 (by omega), bs, wr (by omega) (by omega)]
      · rw [if_neg h2, show ((m.length : Int) != 5) = true by simp; omega, ct]
        exact ⟨_, _, _, rfl⟩
    · rw [if_neg h1, beq_f h1, cf]
      by_cases h2 : x = 67
      · subst h2
        obtain ⟨n, hn⟩ := numberOf_total (strL m) (by rw [strL_size]; omega)
        rw [if_pos rfl, beq_self_eq_true, ct, hn, bs]
        by_cases h3 : m.length = 4
        · have hn' : n = beN 0 m := by
            have := numberOf_eq m hbm (by omega)
            rw [hn] at this
            exact Option.some.inj this
          have hb1 := beN_bounds _ 0 hbm (by decide)
          rw [show ((m.length : Int) != 4) = false by simp [h3], cf, hn']
          by_cases h4 : beN 0 m ≤ l.length
          · rw [if_pos ⟨h3, h4⟩, decide_f (Int.not_lt.2 h4), cf, grd_of (gSl_t (by decide) hb1.1 h4), sub_take]
          · rw [if_neg (fun h => h4 h.2), decide_t (Int.not_le.1 h4), ct]
            exact ⟨_, _, _, rfl⟩
        · rw [if_neg (fun h => h3 h.1), show ((m.length : Int) != 4) = true by simp; omega, ct]
          exact ⟨_, _, _, rfl⟩
      · rw [if_neg h2, beq_f h2, cf]
        by_cases h3 : x = 69
        · subst h3
          obtain ⟨g1, g2, g3, h4⟩ := readEnt_i m hbm (by omega)
          rw [if_pos rfl, beq_self_eq_true, ct, h4, bs, grd_of (gRm_t (by simp; omega))]
          cases hp : pEnt m with
          | none => exact ⟨_, _, _, by rw [cf]⟩
          | some y =>
            dsimp only
            cases hq : (decide (y.r = []) && entOK y.t y.k y.D) with
            | false => 
              rw [if_neg (fun h => by simp at h), cf]
              exact ⟨_, _, _, rfl⟩
            | true =>
              rw [ct]
              by_cases h5 : l.length + 1 ≤ 60
              · rw [if_pos ⟨rfl, h5⟩, decide_t (by simp; omega)]
              · rw [if_neg (fun h => h5 h.2), decide_f (by simp; omega)]
                exact ⟨_, _, _, rfl⟩
        · rw [if_neg h3, beq_f h3, cf]
          exact ⟨_, _, _, rfl⟩
theorem fold_s (t v : Int) (l : List (El kEntry)) (r : List Int) (hb : IsBytes r) (hr : r.length ≤ 1000) (hl : l.length ≤ 60) :
    match fStep t v l r with
    | some y => s_l05Fold t v l (strL r) = some (y.1, y.2.1, y.2.2, true) ∧ y.2.2.length ≤ 60
    | none => ∃ g1 g2 g3 b, s_l05Fold t v l (strL r) = some (g1, g2, g3, b) ∧ (b = true → ¬ g3.length ≤ 60) := by
  unfold s_l05Fold s_l05Fold.F
  match r, hb, hr with
  | [], hb, hr =>
    rw [strL_nil, sEq_self, ct]
    exact ⟨_, _, _, _, rfl, fun h => by simp at h⟩
  | x :: m, hb, hr =>
    have hm : m.length ≤ 1000 := by simp at hr; omega
    have hbm := hb.tail
    have hlen : (x :: m).length = m.length + 1 := rfl
    rw [sEq_cons hb, cf, grd_of (gIx_t (by decide) (by rw [strL_size]; simp)), byteAt_head hb, bytesL_strL hb, strL_size]
    simp only [fStep]
    have a1 := fun h => snum_at (x :: m) hb (by omega) 4 (by omega) 1 h
    have n1 := fun h => snum_no (x :: m) hb (by omega) 4 (by omega) 1 (by omega) h
    simp only [Int.natCast_one, show ((4 : Nat) : Int) = 4 from rfl] at a1 n1
    by_cases h1 : x = 84
    · subst h1
      rw [if_pos rfl, beq_self_eq_true, ct]
      by_cases h2 : 4 ≤ m.length
      · rw [a1 (by omega), bs]
        dsimp only
        by_cases h3 : m.length = 4
        · have n2 := snum_no (84 :: m) hb (by omega) 1 (by omega) 5 (by omega) (by omega)
          rw [if_neg (by omega), show (((1 + 4 : Nat) : Int)) = ((5 : Nat) : Int) from rfl, show (1 : Int) = ((1 : Nat) : Int) from rfl, n2, bs]
          exact ⟨_, _, _, _, by rw [Bool.not_true, cf], fun h => by simp at h⟩
        · have n2 := snum_at (84 :: m) hb (by omega) 1 (by omega) 5 (by omega)
          have e5 : IsBytes ((m.drop 4).take 1) := (hbm.drop 4).take 1
          have hx : ((m.drop 4).take 1).length = 1 := by simp; omega
          have hb1 := beN_bounds _ 0 e5 (by decide)
          rw [hx] at hb1
          have h256 : (0 + 1 : Int) * 256 ^ 1 = 256 := by decide
          rw [h256] at hb1
          rw [show (((1 + 4 : Nat) : Int)) = ((5 : Nat) : Int) from rfl, show s_l02Reader_number (84 :: m) ((5 : Nat) : Int) false 1 = s_l02Reader_number (84 :: m) ((5 : Nat) : Int) false ((1 : Nat) : Int) from rfl, n2, bs]
          dsimp only
          rw [Bool.not_false, ct, show (84 :: m).drop 5 = m.drop 4 from rfl, show (84 :: m).drop 1 = m from rfl, wr (by omega) (by omega), hlen]
          by_cases h4 : m.length = 5
          · rw [if_pos h4]
            have e1 : (m.drop 4).take 1 = m.drop 4 := List.take_of_length_le (by simp; omega)
            rw [e1, show (((5 + 1 : Nat) : Int) == ((m.length + 1 : Nat) : Int)) = true by rw [h4]; simp]
            exact ⟨rfl, hl⟩
          · rw [if_neg h4, show (((5 + 1 : Nat) : Int) == ((m.length + 1 : Nat) : Int)) = false by simp; omega]
            exact ⟨_, _, _, _, rfl, fun h => by simp at h⟩
      · rw [if_neg (by omega), n1 (by omega), bs]
        dsimp only
        rw [snum_bad _ _ _ (by decide), bs]
        exact ⟨_, _, _, _, by rw [Bool.not_true, cf], fun h => by simp at h⟩
    · rw [if_neg h1, beq_f h1, cf]
      by_cases h2 : x = 67
      · subst h2
        rw [if_pos rfl, beq_self_eq_true, ct]
        by_cases h2 : 4 ≤ m.length
        · rw [a1 (by omega), bs]
          dsimp only
          rw [cf, hlen]
          by_cases h3 : m.length = 4
          · have e1 : (67 :: m).drop 1 = m := rfl
            have hb1 := beN_bounds _ 0 hbm (by decide)
            rw [show (((1 + 4 : Nat) : Int) != ((m.length + 1 : Nat) : Int)) = false by rw [h3]; simp, cf, e1, show m.take 4 = m from List.take_of_length_le (by omega)]
            by_cases h4 : beN 0 m ≤ l.length
            · rw [if_pos ⟨h3, h4⟩, decide_f (Int.not_lt.2 h4), cf, grd_of (gSl_t (by decide) hb1.1 h4), sub_take, grd_of (gRm_t (by simp; omega)), List.nil_append]
              exact ⟨rfl, by simp; omega⟩
            · rw [if_neg (fun h => h4 h.2), decide_t (Int.not_le.1 h4), ct]
              exact ⟨_, _, _, _, rfl, fun h => by simp at h⟩
          · rw [if_neg (fun h => h3 h.1), show (((1 + 4 : Nat) : Int) != ((m.length + 1 : Nat) : Int)) = true by simp; omega, ct]
            exact ⟨_, _, _, _, rfl, fun h => by simp at h⟩
        · rw [if_neg (by omega), n1 (by omega), bs]
          exact ⟨_, _, _, _, by rw [ct], fun h => by simp at h⟩
      · rw [if_neg h2, beq_f h2, cf]
        by_cases h3 : x = 69
        · subst h3
          obtain ⟨g1, g2, g3, h4⟩ := readEnt_s m hbm (by omega)
          have hc : cut (strL (69 :: m)) 1 ((69 :: m).length : Int) = strL m := by rw [← strL_size]; exact cut_tail 69 m
          rw [if_pos rfl, beq_self_eq_true, ct, grd_of (gSl_t (by decide) (by simp; omega) (by omega)), hc, bytesL_strL hbm, h4, bs, grd_of (gRm_t (by simp; omega)), grd_of (gRm_t (by simp; omega)), List.nil_append]
          cases hp : pEnt m with
          | none => exact ⟨_, _, _, _, rfl, fun h => by simp at h⟩
          | some y =>
            dsimp only
            cases hq : (decide (y.r = []) && entOK y.t y.k y.D) with
            | false => 
              rw [if_neg (fun h => by simp at h)]
              exact ⟨_, _, _, _, rfl, fun h => by simp at h⟩
            | true =>
              by_cases h5 : l.length + 1 ≤ 60
              · rw [if_pos ⟨rfl, h5⟩]
                exact ⟨rfl, by simp; omega⟩
              · rw [if_neg (fun h => h5 h.2)]
                exact ⟨_, _, _, _, rfl, fun _ => by simp; omega⟩
        · rw [if_neg h3, beq_f h3, cf]
          exact ⟨_, _, _, _, rfl, fun h => by simp at h⟩
end Go.Proofs.YtdpjbeeokimnaaaA
