import Derived.Test.YtmclmbhdgepjfaaVfSFnExactOpsAhead
import Derived.Test.YtmclmbhdgepjfaaVfFamFnExactOpsAhead
import Derived.Test.YtmclmbhdgepjfaaVfXpAhead
namespace Go.Proofs.Ytmclmbhdgepjfaa.Pure
open Go.RowKit Go.Proofs.Ytmclmbhdgepjfaa.Q Go.Proofs.YtmclmbhdgepjfaaX Go.Proofs.Ytmclmbhdgepjfaa.FamFnExactOpsAhead Go.Proofs.YtmclmbhdgepjfaaW.PrintWords Go.Proofs.YtmclmbhdgepjfaaW.PrintLast
set_option linter.unusedVariables false
set_option linter.unusedSimpArgs false

/-- How many cells the rows of a row have. -/
def total : List (List Bool) → Int
 | [] => 0
 | x :: xs => x.length + total xs
theorem total_pos : ∀ l, 0 ≤ total l
 | [] => by simp [total]
 | x :: xs => by
  have := total_pos xs
  simp only [total]
  omega
theorem markBoolSS_ok : ∀ (suf : List (List Bool)) (n : Int), 0 ≤ n → n + total suf ≤ 4611686018427387904 → suf.length ≤ 4096 → (∀ y ∈ suf, y.length ≤ 4096) →
  ∃ suf', suf'.length = suf.length ∧ Ev (fun k => laws_markBoolSS.m k suf n) (n + total suf, suf') ∧ ∀ pre : List (List Bool), pre.length + suf.length ≤ 8192 → Ev (fun k => laws_heldBoolSS.l0 k (pre ++ suf') n (pre.length : Int)) (n + total suf)
 | [], n, h0, h1, h2, h3 => by
  refine ⟨[], rfl, by simpa [laws_markBoolSS.m, total] using Ev.now (n, ([] : List (List Bool))), fun pre hp => Ev.step (fun k => by rw [laws_heldBoolSS.l0]) ?_⟩
  simp only [List.append_nil, if_neg (show ¬ (pre.length : Int) < (pre.length : Int) by omega), total, Int.add_zero]
  exact Ev.now _
 | x :: xs, n, h0, h1, h2, h3 => by
  have hx := h3 x (by simp)
  have ht := total_pos xs
  simp only [total] at h1 ⊢
  obtain ⟨x', hx', e1, e2⟩ := laws_markBoolS_ok x (by omega) (n := n) h0 (by omega)
  rw [Int.one_mul] at e1 e2
  obtain ⟨xs', hxs', e3, e4⟩ := markBoolSS_ok xs (n + x.length) (by omega) (by omega) (by simp at h2; omega) (fun y hy => h3 y (by simp [hy]))
  refine ⟨x' :: xs', by simp [hxs'], ?_, fun pre hp => ?_⟩
  ·simp only [laws_markBoolSS.m]
   refine Ev.bind e1 ?_
   obtain ⟨K, hK⟩ := e3
   refine ⟨K, fun k hk => ?_⟩
   have := hK k hk
   simp only at this
   simp only [this, Option.map_some]
   congr 2
   omega
  ·have hlt : (pre.length : Int) < ((pre ++ x' :: xs').length : Int) := by simp; omega
   have hrd : rd_L7 (pre ++ x' :: xs') (pre.length : Int) = x' := by
    show (pre ++ x' :: xs').getD (pre.length : Int).toNat [] = x'
    rw [Int.toNat_natCast, List.getD_eq_getElem?_getD, List.getElem?_append_right (Nat.le_refl _), Nat.sub_self]
    rfl
   have hw : wrap64 ((pre.length : Int) + 1) = ((pre ++ [x']).length : Int) := by
    simp only [List.length_append, List.length_cons, List.length_nil]
    simp only [List.length_cons] at hp
    unfold wrap64
    omega
   refine Ev.step (fun k => by rw [laws_heldBoolSS.l0]) ?_
   simp only [if_pos hlt, if_pos (show 0 ≤ (pre.length : Int) by omega), hrd, hw]
   refine Ev.bind e2 ?_
   simp only [if_neg (show ¬ n + (x.length : Int) < 0 by omega)]
   have := e4 (pre ++ [x']) (by simp at hp ⊢; omega)
   rw [List.append_assoc, List.singleton_append] at this
   rw [show n + ((x.length : Int) + total xs) = n + x.length + total xs by omega]
   exact this
theorem aheadM_rows (l : List S89) : ∀ y ∈ aheadM l, y.length = l.length := by
 intro y hy
 obtain ⟨a, _, rfl⟩ := List.mem_map.1 hy
 exact rowOf_length l a
theorem total_rows : ∀ (m : List (List Bool)) (n : Nat), (∀ y ∈ m, y.length = n) → total m = m.length * n
 | [], _, _ => by simp [total]
 | x :: xs, n, h => by
  have h1 := h x (by simp)
  have h2 := total_rows xs n (fun y hy => h y (by simp [hy]))
  simp only [total, h1, h2, List.length_cons]
  rw [Int.natCast_add, Int.add_mul]
  simp
  omega
theorem FnExactOpsAhead : Go.Proofs.Ytmclmbhdgepjfaa.SFnExactOpsAhead.Pure := by
 intro l ⟨hb, hm, hv⟩
 refine Ev.rounds ?_
 unfold laws_FnExactOpsAhead.f
 obtain ⟨r, _, hr⟩ := laws_szOpS_ok l (by omega) (fun y hy => (hv y hy).2.2.2) (e := 1048576) (by omega) (by omega)
 refine Ev.bind hr ?_
 by_cases hn : r < 0
 ·simp only [if_pos hn]
  exact Ev.now _
 ·simp only [if_neg hn]
  have ht := laws_toOpS_ok l (by omega) (by omega)
  generalize hm' : l.map (fun x : S97 => (⟨x.f0, x.f1, x.f2, x.f3⟩ : S89)) = m at ht
  have hml : m.length = l.length := by rw [← hm']; simp
  obtain ⟨⟨ra, rb⟩, h1, h2, _, h4⟩ := OpsAhead_rel m
  have hsz : ra.length ≤ 7 ∧ (∀ y ∈ ra, y.length ≤ 7) ∧ total ra ≤ 49 := by
   rcases h4 with ⟨h, h7⟩ | h
   ·simp only [Prod.mk.injEq] at h
    obtain ⟨rfl, rfl⟩ := h
    refine ⟨by rw [aheadM_length]; exact h7, fun y hy => by rw [aheadM_rows m y hy]; exact h7, ?_⟩
    rw [total_rows _ m.length (aheadM_rows m), aheadM_length]
    have : (m.length : Int) * m.length ≤ 7 * 7 := Int.mul_le_mul (by omega) (by omega) (by omega) (by omega)
    omega
   ·simp only at h
    subst h
    simp [total]
  obtain ⟨hs1, hs2, hs3⟩ := hsz
  have hre := laws_eqBoolSS_refl ra (by omega) (fun y hy => by have := hs2 y hy; omega)
  obtain ⟨m', _, hmk, _⟩ := laws_markOpS_ok m (by omega) (n := 1) (by omega) (by omega)
  obtain ⟨ra', _, hk, hh⟩ := markBoolSS_ok ra 1 (by omega) (by omega) (by omega) (fun y hy => by have := hs2 y hy; omega)
  have htp := total_pos ra
  refine Ev.bind ht (Ev.bind h1 (Ev.bind h2 (Ev.bind hre (Ev.bind (laws_eqOpS_refl m (by omega)) (Ev.bind hmk (Ev.bind (show Ev (fun k => laws_markBoolSS.f k ra 1) _ from hk) (Ev.bind (show Ev (fun k => laws_heldBoolSS.f k ra' 1) (1 + total ra) from hh [] (by simp; omega)) ?_)))))))
  simp only [true_and, and_true, if_pos (show 0 ≤ 1 + 4 * (m.length : Int) ∧ 0 ≤ 1 + total ra from ⟨by omega, by omega⟩)]
  exact Ev.now _
end Go.Proofs.Ytmclmbhdgepjfaa.Pure

