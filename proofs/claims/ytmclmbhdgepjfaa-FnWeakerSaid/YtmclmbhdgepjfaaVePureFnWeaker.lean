import Derived.Test.YtmclmbhdgepjfaaVeSFnWeaker
import Derived.Test.YtmclmbhdgepjfaaVeXpSearch
import Derived.Test.YtmclmbhdgepjfaaVeXpSrc
import Derived.Test.YtmclmbhdgepjfaaVeXpAhead
namespace Go.Proofs.Ytmclmbhdgepjfaa.Pure
open Go.RowKit Go.Proofs.Ytmclmbhdgepjfaa.Q Go.Proofs.YtmclmbhdgepjfaaX Go.Proofs.YtmclmbhdgepjfaaW.PrintWords Go.Proofs.YtmclmbhdgepjfaaW.PrintLast
set_option linter.unusedVariables false
set_option linter.unusedSimpArgs false
set_option linter.unusedSectionVars false

theorem at_ok {l : List Int} (hl : IsBytes l) (hlen : l.length ≤ 1048576) (n : Int) (h1 : 1 ≤ n) (h6 : n ≤ 6) : ∃ r, laws_at.f l 0 n = some r ∧ 0 ≤ r ∧ r < n := by
 unfold laws_at.f
 by_cases hn : n ≤ 1
 ·rw [if_pos hn]
  exact ⟨0, rfl, by omega, by omega⟩
 ·rw [if_neg hn]
  have hn0 : ¬ n = 0 := by omega
  by_cases hz : (l.length : Int) = 0
  ·rw [if_pos hz, if_neg hn0]
   refine ⟨_, rfl, ?_⟩
   have : wrap64 (0 * 7) = 0 := by unfold wrap64; omega
   rw [this, Int.zero_tmod]
   omega
  ·rw [if_neg hz]
   have e0 : Int.tmod 0 (l.length : Int) = 0 := Int.zero_tmod _
   have e1 : wrap64 (0 + 1) = 1 := by unfold wrap64; omega
   have e2 : Int.tmod 1 (l.length : Int) = 1 % (l.length : Int) := Int.tmod_eq_emod_of_nonneg (by omega)
   have e3 : Int.tdiv 0 (l.length : Int) = 0 := Int.zero_tdiv _
   have h2 : 0 ≤ 1 % (l.length : Int) := Int.emod_nonneg _ hz
   have h3 : 1 % (l.length : Int) < l.length := Int.emod_lt_of_pos _ (by omega)
   rw [e0, e1, e2, e3, if_pos (show (0 : Int) ≤ 0 by omega), if_pos (show (0 : Int) < l.length by omega), if_pos h2, if_pos h3, if_neg hn0]
   refine ⟨_, rfl, ?_⟩
   have ha := hl (rd l 0) (getD_mem 0 (Int.le_refl 0) (by omega))
   have hb := hl (rd l (1 % (l.length : Int))) (getD_mem 0 h2 h3)
   have hw : wrap64 (wrap64 (wrap64 (wrap64 (rd l 0) * 31) + wrap64 (rd l (1 % (l.length : Int)))) + wrap64 0) = rd l 0 * 31 + rd l (1 % (l.length : Int)) := by
    unfold wrap64
    omega
   rw [hw, Int.tmod_eq_emod_of_nonneg (by omega)]
   exact ⟨Int.emod_nonneg _ hn0, Int.emod_lt_of_pos _ (by omega)⟩
/-- The acts, one of which is not known to have ended. -/
def opened (ops : List S89) (t : Int) : List S89 := ops.set t.toNat (⟨(rd_T89 ops t).f0, (-1), (rd_T89 ops t).f2, (rd_T89 ops t).f3⟩ : S89)
theorem opened_at (ops : List S89) (t : Int) (ht : 0 ≤ t ∧ t < ops.length) (j : Int) (h0 : 0 ≤ j) (hj : j < ops.length) : (rd_T89 (opened ops t) j).f0 = (rd_T89 ops j).f0 ∧ (rd_T89 (opened ops t) j).f2 = (rd_T89 ops j).f2 ∧ (rd_T89 (opened ops t) j).f3 = (rd_T89 ops j).f3 ∧ ((rd_T89 (opened ops t) j).f1 = (rd_T89 ops j).f1 ∨ (rd_T89 (opened ops t) j).f1 = -1) := by
 have hg : rd_T89 (opened ops t) j = if t = j then (⟨(rd_T89 ops t).f0, (-1), (rd_T89 ops t).f2, (rd_T89 ops t).f3⟩ : S89) else rd_T89 ops j := by
  show (ops.set t.toNat _).getD j.toNat z89 = _
  rw [List.getD_eq_getElem?_getD, List.getElem?_set]
  by_cases he : t = j
  ·subst he
   rw [if_pos rfl, if_pos (by omega), if_pos rfl]
   rfl
  ·rw [if_neg (by omega), if_neg he]
   show _ = ops.getD j.toNat z89
   rw [List.getD_eq_getElem?_getD]
 rw [hg]
 by_cases he : t = j
 ·subst he
  rw [if_pos rfl]
  exact ⟨rfl, rfl, rfl, .inr rfl⟩
 ·rw [if_neg he]
  exact ⟨rfl, rfl, rfl, .inl rfl⟩
theorem opened_ok (ops : List S89) (hops : ops.all opOK = true) (t : Int) (ht : 0 ≤ t ∧ t < ops.length) : (opened ops t).all opOK = true := by
 rw [List.all_eq_true] at hops ⊢
 intro x hx
 rcases List.mem_or_eq_of_mem_set hx with h | h
 ·exact hops x h
 ·have := hops (rd_T89 ops t) (getD_mem z89 ht.1 ht.2)
  rw [h]
  simp [opOK] at this ⊢
  omega
theorem opened_ahead (ops : List S89) (t : Int) (ht : 0 ≤ t ∧ t < ops.length) (a b : Int) (ha0 : 0 ≤ a) (ha : a < ops.length) (hb0 : 0 ≤ b) (hb : b < ops.length) (h : aheadB (rd_T89 ops a) (rd_T89 ops b) = false) : aheadB (rd_T89 (opened ops t) a) (rd_T89 (opened ops t) b) = false := by
 obtain ⟨_, _, _, h1⟩ := opened_at ops t ht a ha0 ha
 obtain ⟨h2, _, _, _⟩ := opened_at ops t ht b hb0 hb
 simp only [aheadB, Bool.and_eq_false_iff, decide_eq_false_iff_not] at h ⊢
 omega
theorem opened_legal (ops : List S89) (t : Int) (ht : 0 ≤ t ∧ t < ops.length) : ∀ (suf pre : List Int) (v : ByteArray), InR ops (pre ++ suf) → LegalFrom ops pre v suf → LegalFrom (opened ops t) pre v suf
 | [], _, _, _, _ => trivial
 | k :: ks, pre, v, hR, h => by
  have hk := hR k (by simp)
  obtain ⟨_, h2, h3, _⟩ := opened_at ops t ht k hk.1 hk.2
  refine ⟨fun a ha => ?_, ?_, ?_⟩
  ·have har := hR a (by simp [ha])
   exact ⟨(h.1 a ha).1, opened_ahead ops t ht k a hk.1 hk.2 har.1 har.2 (h.1 a ha).2⟩
  ·have := h.2.1
   unfold valueOK at this ⊢
   rw [h2, h3]
   exact this
  ·rw [h3]
   exact opened_legal ops t ht ks (pre ++ [k]) _ (by simpa using hR) h.2.2
theorem Projected_ok (l : List S89) (hl : l.all opOK = true) (hn : l.length ≤ 7) (a b : Int) : ∃ p, Ev (fun k => spec_Projected.f k l a b) (p, 0) ∧ impl_Projected.f l a b = some (p, 0) := by
 obtain ⟨⟨p, c⟩, _, h1, h2⟩ := Projected_rel l a b
 have h3 : c = 0 := by
  have h4 := h2
  have h2l : l.length ≤ 7 ∧ l.all opOK = true := ⟨hn, hl⟩
  simp only [impl_Projected.f, opsCode_eq, Option.bind_some, if_pos (show l.length ≤ 4096 by omega), if_pos h2l, if_true] at h4
  obtain ⟨q, _, h5⟩ := Option.bind_eq_some_iff.1 h4
  obtain ⟨s, _, h6⟩ := Option.map_eq_some_iff.1 h5
  simp only [Prod.mk.injEq] at h6
  exact h6.2.symm
 subst h3
 exact ⟨p, h1, h2⟩
section
variable (ops : List S89) (hops : ops.all opOK = true) (hn : ops.length ≤ 6) (more : List Int) (hmore : IsBytes more) (hml : more.length ≤ 1048576)
include hops hn hmore hml
theorem Weaker_end : Ev (fun k => laws_FnWeaker.l0 k more ops (aheadM ops) (aheadM ops) (ops.length : Int)) true := by
 refine Ev.step (fun k => by rw [laws_FnWeaker.l0]) ?_
 simp only [if_neg (show ¬ (ops.length : Int) < (ops.length : Int) by omega)]
 by_cases hz : (ops.length : Int) = 0
 ·simp only [if_pos hz]
  exact Ev.now _
 ·simp only [if_neg hz]
  obtain ⟨⟨r1, c1⟩, _, _, h1, h2⟩ := LinearOrder_full ops hops (by omega)
  obtain ⟨t, ht, ht0, ht1⟩ := at_ok hmore hml (ops.length : Int) (by omega) (by omega)
  have hlen : (opened ops t).length = ops.length := by simp [opened]
  obtain ⟨⟨r2, c2⟩, _, _, h3, h4⟩ := LinearOrder_full (opened ops t) (opened_ok ops hops t ⟨ht0, ht1⟩) (by omega)
  obtain ⟨p, h5, h6⟩ := Projected_ok ops hops (by omega) 0 5
  refine Ev.bind h1 ?_
  simp only [Option.bind_some, List.nil_append, List.length_nil, if_pos (show 0 + ops.length < 3518437208883 by omega), ht, if_pos ht0, if_pos ht1]
  refine Ev.bind h3 ?_
  simp only [h6, Option.bind_some]
  refine Ev.bind h5 ?_
  simp only [if_true]
  by_cases hc : c1 = 0
  ·simp only [if_pos hc]
   have hp : Path ops [] ⟨#[]⟩ r1 := by
    rcases h2 with ⟨_, h⟩ | ⟨h, _⟩
    ·exact h
    ·simp only at h
     omega
   obtain ⟨h7, h8, h9⟩ := legal_of_path r1 [] _ hp (fun a ha => by cases ha)
   have hR' : InR (opened ops t) r1 := fun a ha => by rw [hlen]; exact h9 a ha
   have hp' : Path (opened ops t) [] ⟨#[]⟩ r1 := path_of_legal (opened_ok ops hops t ⟨ht0, ht1⟩) r1 [] _ (opened_legal ops t ⟨ht0, ht1⟩ r1 [] _ (by simpa using h9) h7) (fun j hj0 hj1 => by
    rw [hlen] at hj1
    obtain ⟨_, _, _, h10⟩ := opened_at ops t ⟨ht0, ht1⟩ j hj0 hj1
    rcases h8 j hj0 hj1 with h11 | h11
    ·left
     omega
    ·exact .inr h11) hR'
   have hc2 : c2 = 0 := by
    rcases h4 with ⟨h, _⟩ | ⟨_, h⟩
    ·exact h
    ·exact absurd hp' (h r1)
   have e : (c2 == 0) = true := by rw [hc2]; rfl
   simp only [e]
   exact Ev.now _
  ·simp only [if_neg hc]
   exact Ev.now _
theorem Weaker_l1 (i : Int) (h0 : 0 ≤ i) (hi : i < ops.length) (r : Bool) (hr : Ev (fun k => laws_FnWeaker.l0 k more ops (aheadM ops) (aheadM ops) (i + 1)) r) : ∀ (d : Nat) (j : Int), 0 ≤ j → j + d = ops.length → Ev (fun k => laws_FnWeaker.l1 k more ops (aheadM ops) (aheadM ops) i j) r := by
 have hM := aheadM_length ops
 intro d
 induction d with
 | zero =>
  intro j h1 h2
  refine Ev.step (fun k => by rw [laws_FnWeaker.l1]) ?_
  simp only [if_neg (show ¬ j < (ops.length : Int) by omega), wrap_up h0 hi (by omega)]
  exact hr
 | succ d ih =>
  intro j h1 h2
  have hj : j < (ops.length : Int) := by omega
  have e1 : rd_L7 (aheadM ops) i = rowOf ops (rd_T89 ops i) := aheadM_row ops h0 hi
  have e2 : rd_L7 (aheadM ops) j = rowOf ops (rd_T89 ops j) := aheadM_row ops h1 hj
  have ih' := ih (j + 1) (by omega) (by omega)
  refine Ev.step (fun k => by rw [laws_FnWeaker.l1]) ?_
  simp only [if_pos hj, if_pos h0, hM, if_pos hi, if_pos h1, e1, e2, rowOf_length, rowOf_at ops _ h1 hj, rowOf_at ops _ h0 hi, bne_self_eq_false, Bool.false_eq_true, if_false, wrap_up h1 hj (by omega)]
  cases ha : aheadB (rd_T89 ops i) (rd_T89 ops j) with
  | false =>
   simp only [Bool.false_eq_true, if_false]
   exact ih'
  | true =>
   have hb := ahead_once (List.all_eq_true.1 hops _ (getD_mem z89 h0 hi)) (List.all_eq_true.1 hops _ (getD_mem z89 h1 hj)) ha
   have hb' : aheadB (rd_T89 ops j) (rd_T89 ops i) = false := hb
   simp only [if_true, hb', Bool.false_eq_true, if_false]
   exact ih'
theorem Weaker_l0 : ∀ (d : Nat) (i : Int), 0 ≤ i → i + d = ops.length → Ev (fun k => laws_FnWeaker.l0 k more ops (aheadM ops) (aheadM ops) i) true := by
 intro d
 induction d with
 | zero =>
  intro i h0 h1
  obtain rfl : i = (ops.length : Int) := by omega
  exact Weaker_end ops hops hn more hmore hml
 | succ d ih =>
  intro i h0 h1
  have hi : i < (ops.length : Int) := by omega
  refine Ev.step (fun k => by rw [laws_FnWeaker.l0]) ?_
  simp only [if_pos hi]
  exact Weaker_l1 ops hops hn more hmore hml i h0 hi true (ih (i + 1) (by omega) (by omega)) ops.length 0 (by omega) (by omega)
end
theorem FnWeaker : Go.Proofs.Ytmclmbhdgepjfaa.SFnWeaker.Pure := by
 intro l more ⟨hb, hm, hv⟩ ⟨hb1, hm1, hv1⟩
 refine Ev.rounds ?_
 unfold laws_FnWeaker.f
 have hj : ∀ b, (b = true ∨ (l.length : Int) ≤ 1048576 ∧ (more.length : Int) ≤ 1048576) → Ev (fun k => laws_FnWeaker.j0 k l more b) true := by
  intro b hb'
  refine Ev.step (fun k => by rw [laws_FnWeaker.j0]) ?_
  cases b with
  | true =>
   simp only [if_true]
   exact Ev.now _
  | false =>
   obtain ⟨_, hml⟩ := hb'.resolve_left (by decide)
   simp only [Bool.false_eq_true, if_false]
   obtain ⟨ops, h1, h2, h3⟩ := OpsOf_ok (isBytes_of_wf hv)
   obtain ⟨r, h4, h5, h6, _⟩ := OpsAhead_rel ops
   obtain rfl := h6 (by omega) h3
   refine Ev.bind h1 (Ev.bind h5 (Ev.bind h4 ?_))
   simp only [if_true, aheadM_length, bne_self_eq_false]
   refine Ev.step (fun k => by rw [laws_FnWeaker.j1]) ?_
   simp only [Bool.false_eq_true, if_false]
   exact Weaker_l0 ops h3 h2 more (isBytes_of_wf hv1) (by omega) ops.length 0 (by omega) (by omega)
 by_cases hbig : (l.length : Int) > 1048576
 ·simp only [if_pos hbig]
  exact hj true (.inl rfl)
 ·simp only [if_neg hbig]
  refine hj _ ?_
  by_cases h2 : (more.length : Int) > 1048576
  ·exact .inl (decide_eq_true h2)
  ·exact .inr ⟨by omega, by omega⟩
end Go.Proofs.Ytmclmbhdgepjfaa.Pure

