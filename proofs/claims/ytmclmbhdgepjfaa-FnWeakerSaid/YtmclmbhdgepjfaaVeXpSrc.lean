import Derived.Test.YtmclmbhdgepjfaaVeQx0
import Derived.Test.YtmclmbhdgepjfaaVeQx47
import Derived.Test.YtmclmbhdgepjfaaVeQx48
import Derived.Test.YtmclmbhdgepjfaaVeQx49
import Derived.Test.YtmclmbhdgepjfaaVeQx50
import Derived.Test.YtmclmbhdgepjfaaVeXpOps
import Derived.Test.YtmclmbhdgepjfaaVeXpBytes
namespace Go.Proofs.Ytmclmbhdgepjfaa.Pure
open Go.RowKit Go.Proofs.Ytmclmbhdgepjfaa.Q Go.Proofs.YtmclmbhdgepjfaaX Go.Proofs.YtmclmbhdgepjfaaW.PrintWords Go.Proofs.YtmclmbhdgepjfaaW.PrintLast
set_option linter.unusedVariables false
set_option linter.unusedSimpArgs false

/-- A source that has given at most n bytes. -/
def SrcOK (a s n : Int) : Prop := 0 ≤ a ∧ a ≤ n ∧ 0 ≤ s ∧ s < 2147483648
theorem byte_ok {l : List Int} (hl : IsBytes l) {a s n : Int} (h : SrcOK a s n) (hn : n < 4611686018427387904) : ∃ r a' s', spec_l00Src_byte.f l a s = some (r, a', s') ∧ (0 ≤ r ∧ r < 256) ∧ SrcOK a' s' (n + 1) := by
 obtain ⟨h0, h1, h2, h3⟩ := h
 unfold spec_l00Src_byte.f
 rw [if_pos ⟨h0, by omega, h2, h3⟩]
 by_cases hi : a < (l.length : Int)
 ·have hx := hl (rd l a) (getD_mem 0 h0 hi)
  rw [if_pos hi, if_pos hx]
  exact ⟨_, _, _, rfl, hx, by omega, by omega, by omega, by omega⟩
 ·rw [if_neg hi]
  by_cases hb : a + 1 > 3000
  ·rw [if_pos hb]
   exact ⟨_, _, _, rfl, by omega, by omega, by omega, h2, h3⟩
  ·rw [if_neg hb]
   exact ⟨_, _, _, rfl, by omega, by omega, by omega, by omega, by omega⟩
theorem next_ok {l : List Int} (hl : IsBytes l) {a s n : Int} (h : SrcOK a s n) (hn : n < 4611686018427387904) (m : Int) (hm : 1 < m) (hm2 : m ≤ 256) : ∃ r a' s', spec_l00Src_next.f l a s m = some (r, a', s') ∧ (0 ≤ r ∧ r < m) ∧ SrcOK a' s' (n + 1) := by
 obtain ⟨r, a', s', h1, h2, h3⟩ := byte_ok hl h hn
 unfold spec_l00Src_next.f
 rw [if_neg (by omega), if_pos hm2, h1]
 simp only [Option.bind_some, if_neg (show ¬ m = 0 by omega)]
 refine ⟨_, _, _, rfl, ?_, h3⟩
 rw [Int.tmod_eq_emod_of_nonneg h2.1]
 exact ⟨Int.emod_nonneg _ (by omega), Int.emod_lt_of_pos _ (by omega)⟩
theorem chance_ok {l : List Int} (hl : IsBytes l) {a s n : Int} (h : SrcOK a s n) (hn : n < 4611686018427387904) (m : Int) (hm : 1 < m) (hm2 : m ≤ 256) : ∃ b a' s', spec_l00Src_chance.f l a s m = some (b, a', s') ∧ SrcOK a' s' (n + 1) := by
 obtain ⟨r, a', s', h1, h2, h3⟩ := next_ok hl h hn m hm hm2
 unfold spec_l00Src_chance.f
 rw [h1]
 exact ⟨_, _, _, rfl, h3⟩
theorem pick_ok {l : List Int} (hl : IsBytes l) {a s n : Int} (h : SrcOK a s n) (hn : n < 4611686018427387904) (ts : List ByteArray) (hm : 1 < ts.length) (hm2 : ts.length ≤ 256) : ∃ x a' s', spec_l00Src_pick.f l a s ts = some (x, a', s') ∧ x ∈ ts ∧ SrcOK a' s' (n + 1) := by
 obtain ⟨r, a', s', h1, h2, h3⟩ := next_ok hl h hn (ts.length : Int) (by omega) (by omega)
 unfold spec_l00Src_pick.f
 rw [if_neg (by omega), h1]
 simp only [Option.bind_some, if_pos h2.1, if_pos h2.2]
 exact ⟨_, _, _, rfl, getD_mem _ h2.1 h2.2, h3⟩
theorem all_app {α : Type} {p : α → Bool} {l : List α} {x : α} (h : l.all p = true) (hx : p x = true) : (l ++ [x]).all p = true := by
 rw [List.all_append, h]
 simp [hx]
theorem ops_l0 {l : List Int} (hl : IsBytes l) : ∀ (d : Nat) (acc : List S89) (a s n : Int), acc.length + d ≤ 6 → acc.all opOK = true → SrcOK a s n → n + 6 * d < 4611686018427387904 → ∃ r a' s', Ev (fun k => spec_l00Src_ops.l0 k acc (d : Int) l a s) (r, a', s') ∧ r.length ≤ 6 ∧ r.all opOK = true := by
 intro d
 induction d with
 | zero =>
  intro acc a s n h1 h2 h3 h4
  refine ⟨acc, a, s, Ev.step (fun k => by rw [spec_l00Src_ops.l0]) ?_, by omega, h2⟩
  simp only [if_neg (show ¬ ((0 : Nat) : Int) > 0 by omega)]
  exact Ev.now _
 | succ d ih =>
  intro acc a s n h1 h2 h3 h4
  obtain ⟨b, a1, s1, e1, hb, k1⟩ := next_ok hl h3 (by omega) 12 (by decide) (by decide)
  obtain ⟨w, a2, s2, e2, k2⟩ := chance_ok hl k1 (by omega) 2 (by decide) (by decide)
  obtain ⟨v, a3, s3, e3, hv, k3⟩ := pick_ok hl k2 (by omega) ([(⟨#[]⟩ : ByteArray), (⟨#[97]⟩ : ByteArray), (⟨#[98]⟩ : ByteArray)] : List ByteArray) (by decide) (by decide)
  obtain ⟨q, a4, s4, e4, hq, k4⟩ := next_ok hl k3 (by omega) 6 (by decide) (by decide)
  obtain ⟨c, a5, s5, e5, k5⟩ := chance_ok hl k4 (by omega) 8 (by decide) (by decide)
  have hvs : v.size ≤ 60 := by
   rcases List.mem_cons.1 hv with rfl | hv
   ·decide
   ·rcases List.mem_cons.1 hv with rfl | hv
    ·decide
    ·obtain rfl := List.mem_singleton.1 hv
     decide
  have hw : wrap64 (((d + 1 : Nat) : Int) - 1) = (d : Int) := by unfold wrap64; omega
  have hw1 : wrap64 (wrap64 (b + 1) + q) = b + 1 + q := by unfold wrap64; omega
  -- both ways on
  have hgo : ∀ e : Int, (e = -1 ∨ e = b + 1 + q) → ∃ r a' s', Ev (fun k => spec_l00Src_ops.l0 k (acc ++ [(⟨b, e, w, v⟩ : S89)]) (d : Int) l a5 s5) (r, a', s') ∧ r.length ≤ 6 ∧ r.all opOK = true := by
   intro e he
   refine ih _ a5 s5 _ (by simp; omega) (all_app h2 ?_) k5 (by omega)
   simp only [opOK, Bool.and_eq_true, Bool.or_eq_true, decide_eq_true_iff]
   omega
  have hstep : ∀ r, Ev (fun k => if c = true then (if acc.length < 3518437208883 then spec_l00Src_ops.l0 k (acc ++ [(⟨b, (-1), w, v⟩ : S89)]) (d : Int) l a5 s5 else none) else (if acc.length < 3518437208883 then spec_l00Src_ops.l0 k (acc ++ [(⟨b, b + 1 + q, w, v⟩ : S89)]) (d : Int) l a5 s5 else none)) r → Ev (fun k => spec_l00Src_ops.l0 k acc ((d + 1 : Nat) : Int) l a s) r := by
   intro r hr
   refine Ev.step (fun k => by rw [spec_l00Src_ops.l0]) ?_
   simp only [if_pos (show ((d + 1 : Nat) : Int) > 0 by omega), e1, e2, e3, e4, e5, Option.bind_some, hw, hw1]
   exact hr
  have hacc : acc.length < 3518437208883 := by omega
  simp only [if_pos hacc] at hstep
  cases c with
  | true =>
   obtain ⟨r, a', s', h5, h6, h7⟩ := hgo (-1) (.inl rfl)
   exact ⟨r, a', s', hstep _ (by simpa using h5), h6, h7⟩
  | false =>
   obtain ⟨r, a', s', h5, h6, h7⟩ := hgo (b + 1 + q) (.inr rfl)
   exact ⟨r, a', s', hstep _ (by simpa using h5), h6, h7⟩
theorem OpsOf_ok {l : List Int} (hl : IsBytes l) : ∃ r, Ev (fun k => spec_OpsOf.f k l) r ∧ r.length ≤ 6 ∧ r.all opOK = true := by
 obtain ⟨n, hn0, hn1⟩ : ∃ n : Int, 0 ≤ n ∧ n < 100 := ⟨0, by decide, by decide⟩
 obtain ⟨s0, hs0, hs1⟩ : ∃ s0 : Int, s0 = (l.length : Int) % 1000 ∧ (0 ≤ s0 ∧ s0 < 1000) := ⟨_, rfl, by omega⟩
 have h0 : SrcOK 0 s0 n := ⟨by omega, by omega, by omega, by omega⟩
 obtain ⟨i, a1, s1, e1, hi, k1⟩ := next_ok hl h0 (by omega) 7 (by decide) (by decide)
 obtain ⟨m, rfl⟩ : ∃ m : Nat, i = (m : Int) := ⟨i.toNat, by omega⟩
 obtain ⟨r, a', s', h1, h2, h3⟩ := ops_l0 hl m [] a1 s1 _ (by simp; omega) rfl k1 (by omega)
 refine ⟨r, ?_, h2, h3⟩
 simp only [spec_OpsOf.f, spec_l00Source.f, Option.bind_some, spec_l00Src_ops.f, ← hs0, e1]
 exact Ev.bind h1 (Ev.now _)
end Go.Proofs.Ytmclmbhdgepjfaa.Pure

