import Derived.Test.YtmclmbhdgepjfaaVeQx0
import Derived.Test.YtmclmbhdgepjfaaVeQx54
import Derived.Test.YtmclmbhdgepjfaaVeQx56
import Derived.Test.YtmclmbhdgepjfaaVeQx57
import Derived.Test.YtmclmbhdgepjfaaVeXpLegal
namespace Go.Proofs.Ytmclmbhdgepjfaa.Pure
open Go.RowKit Go.Proofs.Ytmclmbhdgepjfaa.Q Go.Proofs.YtmclmbhdgepjfaaX Go.Proofs.YtmclmbhdgepjfaaW.PrintWords Go.Proofs.YtmclmbhdgepjfaaW.PrintLast
set_option linter.unusedVariables false
set_option linter.unusedSimpArgs false
set_option linter.unusedSectionVars false

def CanGo (ops : List S89) (ids : List Int) (i : Int) : Prop := has ids i = false ∧ ∀ q : Int, 0 ≤ q → q < ops.length → has ids q = true ∨ aheadB (rd_T89 ops q) (rd_T89 ops i) = false
def Path (ops : List S89) : List Int → ByteArray → List Int → Prop
 | ids, _, [] => AllEnded ops ids
 | ids, v, i :: rest => (0 ≤ i ∧ i < (ops.length : Int)) ∧ CanGo ops ids i ∧ valueOK (rd_T89 ops i) v ∧ Path ops (ids ++ [i]) (rd_T89 ops i).f3 rest
theorem has_mem {l : List Int} {v : Int} : has l v = true ↔ v ∈ l := by
 unfold has
 rw [List.any_eq_true]
 exact ⟨fun ⟨x, h1, h2⟩ => by simp at h2; exact h2 ▸ h1, fun h => ⟨v, h, by simp⟩⟩
theorem has_not {l : List Int} {v : Int} : has l v = false ↔ v ∉ l := by
 rw [← has_mem, Bool.eq_false_iff]
/-- In a legal order no one is ahead of who goes before it. -/
theorem legal_behind {ops : List S89} : ∀ (suf pre : List Int) (v : ByteArray), LegalFrom ops pre v suf → ∀ q ∈ suf, ∀ a ∈ pre, aheadB (rd_T89 ops q) (rd_T89 ops a) = false
 | [], _, _, _, q, hq, _, _ => by cases hq
 | k :: ks, pre, v, h, q, hq, a, ha => by
  rcases List.mem_cons.1 hq with rfl | hq
  ·exact (h.1 a ha).2
  ·exact legal_behind ks (pre ++ [k]) _ h.2.2 q hq a (by simp [ha])
theorem path_of_legal {ops : List S89} (hops : ops.all opOK = true) : ∀ (suf pre : List Int) (v : ByteArray), LegalFrom ops pre v suf → AllEnded ops (pre ++ suf) → InR ops suf → Path ops pre v suf
 | [], pre, v, _, he, _ => by simpa [Path] using he
 | i :: rest, pre, v, h, he, hR => by
  have hi := hR i (by simp)
  refine ⟨hi, ⟨?_, fun q h0 h1 => ?_⟩, h.2.1, path_of_legal hops rest (pre ++ [i]) _ h.2.2 (by simpa using he) (fun a ha => hR a (by simp [ha]))⟩
  ·rw [has_not]
   exact fun hm => (h.1 i hm).1 rfl
  ·cases ha : aheadB (rd_T89 ops q) (rd_T89 ops i) with
   | false => exact .inr rfl
   | true =>
    left
    have hf1 : (rd_T89 ops q).f1 ≥ 0 := by
     simp only [aheadB, Bool.and_eq_true, decide_eq_true_iff] at ha
     exact ha.1
    rcases he q h0 h1 with h2 | h2
    ·omega
    ·rw [has_mem] at h2 ⊢
     rcases List.mem_append.1 h2 with h2 | h2
     ·exact h2
     ·rcases List.mem_cons.1 h2 with rfl | h2
      ·rw [ahead_self (List.all_eq_true.1 hops (rd_T89 ops q) (getD_mem z89 h0 h1))] at ha
       cases ha
      ·have := legal_behind rest (pre ++ [i]) _ h.2.2 q h2 i (by simp)
       rw [this] at ha
       cases ha
theorem legal_of_path {ops : List S89} : ∀ (suf pre : List Int) (v : ByteArray), Path ops pre v suf → (∀ a ∈ pre, ∀ q : Int, 0 ≤ q → q < ops.length → aheadB (rd_T89 ops q) (rd_T89 ops a) = true → has pre q = true) → LegalFrom ops pre v suf ∧ AllEnded ops (pre ++ suf) ∧ InR ops suf
 | [], pre, v, h, _ => ⟨trivial, by simpa [Path] using h, fun a ha => by cases ha⟩
 | i :: rest, pre, v, h, hI => by
  obtain ⟨hi, hc, hv, hp⟩ := h
  have hI' : ∀ a ∈ pre ++ [i], ∀ q : Int, 0 ≤ q → q < ops.length → aheadB (rd_T89 ops q) (rd_T89 ops a) = true → has (pre ++ [i]) q = true := by
   intro a ha q h0 h1 h2
   rw [has_app]
   rcases List.mem_append.1 ha with ha | ha
   ·rw [hI a ha q h0 h1 h2]; rfl
   ·have : a = i := by simpa using ha
    subst this
    rcases hc.2 q h0 h1 with h3 | h3
    ·rw [h3]; rfl
    ·rw [h3] at h2; cases h2
  obtain ⟨h1, h2, h3⟩ := legal_of_path rest (pre ++ [i]) _ hp hI'
  refine ⟨⟨fun a ha => ⟨?_, ?_⟩, hv, h1⟩, by simpa using h2, fun a ha => ?_⟩
  ·rintro rfl
   exact has_not.1 hc.1 ha
  ·cases hb : aheadB (rd_T89 ops i) (rd_T89 ops a) with
   | false => rfl
   | true =>
    have := hI a ha i hi.1 hi.2 hb
    rw [hc.1] at this
    cases this
  ·rcases List.mem_cons.1 ha with rfl | ha
   ·exact hi
   ·exact h3 a ha
section
variable (ops : List S89) (hops : ops.all opOK = true) (hn : ops.length ≤ 7)
include hops hn
theorem search_l0 (ids : List Int) (v : ByteArray) (hids : ids.length ≤ 1000) (r1 : List Int × Bool) (hr : Ev (fun k => spec_l14Search.l1 k ops ids v 0) r1) : ∀ (d : Nat) (i : Int) (b : Bool), 0 ≤ i → i + d = ops.length →
  ((b = true ∧ ∀ j : Int, i ≤ j → j < ops.length → (rd_T89 ops j).f1 < 0 ∨ has ids j = true) → Ev (fun k => spec_l14Search.l0 k ops ids v b i) (ids, true)) ∧
  (¬ (b = true ∧ ∀ j : Int, i ≤ j → j < ops.length → (rd_T89 ops j).f1 < 0 ∨ has ids j = true) → Ev (fun k => spec_l14Search.l0 k ops ids v b i) r1) := by
 intro d
 induction d with
 | zero =>
  intro i b h0 h1
  refine ⟨fun h => Ev.step (fun k => by rw [spec_l14Search.l0]) ?_, fun h => Ev.step (fun k => by rw [spec_l14Search.l0]) ?_⟩
  ·simp only [if_neg (show ¬ i < (ops.length : Int) by omega), if_pos h.1]
   exact Ev.now _
  ·have hb : ¬ b = true := fun hb => h ⟨hb, fun j h3 h4 => by omega⟩
   simp only [if_neg (show ¬ i < (ops.length : Int) by omega), if_neg hb]
   exact hr
 | succ d ih =>
  intro i b h0 h1
  have hi : i < (ops.length : Int) := by omega
  have hw := wrap_up h0 hi (by omega)
  have hsplit : ∀ P : Int → Prop, (∀ j : Int, i ≤ j → j < ops.length → P j) ↔ (P i ∧ ∀ j : Int, i + 1 ≤ j → j < ops.length → P j) := fun P => ⟨fun h => ⟨h i (by omega) (by omega), fun j h3 h4 => h j (by omega) h4⟩, fun h j h3 h4 => by
   rcases Int.lt_or_eq_of_le h3 with h5 | h5
   ·exact h.2 j (by omega) h4
   ·exact h5 ▸ h.1⟩
  rw [hsplit]
  cases b with
  | false =>
   obtain ⟨_, ih2⟩ := ih (i + 1) false (by omega) (by omega)
   refine ⟨fun h => (by cases h.1), fun h => Ev.step (fun k => by rw [spec_l14Search.l0]) ?_⟩
   simp only [if_pos hi, Bool.false_eq_true, if_false, hw]
   exact ih2 (fun h => by cases h.1)
  | true =>
   by_cases hneg : (rd_T89 ops i).f1 < 0
   ·obtain ⟨ih1, ih2⟩ := ih (i + 1) true (by omega) (by omega)
    refine ⟨fun h => Ev.step (fun k => by rw [spec_l14Search.l0]) ?_, fun h => Ev.step (fun k => by rw [spec_l14Search.l0]) ?_⟩ <;> simp only [if_pos hi, if_true, if_pos h0, if_pos hneg, hw]
    ·exact ih1 ⟨rfl, h.2.2⟩
    ·exact ih2 fun h' => h ⟨rfl, .inl hneg, h'.2⟩
   ·obtain ⟨ih1, ih2⟩ := ih (i + 1) (has ids i) (by omega) (by omega)
    refine ⟨fun h => Ev.step (fun k => by rw [spec_l14Search.l0]) ?_, fun h => Ev.step (fun k => by rw [spec_l14Search.l0]) ?_⟩ <;> simp only [if_pos hi, if_true, if_pos h0, if_neg hneg, hw] <;> refine Ev.bind (spec_l10Has_ev ids i (by omega)) ?_
    ·exact ih1 ⟨h.2.1.resolve_left hneg, h.2.2⟩
    ·exact ih2 fun h' => h ⟨rfl, .inr h'.1, h'.2⟩
theorem search_l2 (ids : List Int) (v : ByteArray) (hids : ids.length ≤ 1000) (i : Int) (h0 : 0 ≤ i) (h1 : i < ops.length) (rg rn : List Int × Bool) (hg : Ev (fun k => spec_l14Search.l2 k ops ids v i true (ops.length : Int)) rg) (hnx : Ev (fun k => spec_l14Search.l1 k ops ids v (i + 1)) rn) : ∀ (d : Nat) (j : Int) (b : Bool), 0 ≤ j → j + d = ops.length →
  ((b = true ∧ ∀ q : Int, j ≤ q → q < ops.length → has ids q = true ∨ aheadB (rd_T89 ops q) (rd_T89 ops i) = false) → Ev (fun k => spec_l14Search.l2 k ops ids v i b j) rg) ∧
  (¬ (b = true ∧ ∀ q : Int, j ≤ q → q < ops.length → has ids q = true ∨ aheadB (rd_T89 ops q) (rd_T89 ops i) = false) → Ev (fun k => spec_l14Search.l2 k ops ids v i b j) rn) := by
 have hwi : wrap64 (i + 1) = i + 1 := by unfold wrap64; omega
 intro d
 induction d with
 | zero =>
  intro j b h2 h3
  obtain rfl : j = (ops.length : Int) := by omega
  refine ⟨fun h => by rw [h.1]; exact hg, fun h => Ev.step (fun k => by rw [spec_l14Search.l2]) ?_⟩
  have hb : ¬ b = true := fun hb => h ⟨hb, fun j h3 h4 => by omega⟩
  simp only [if_neg (show ¬ (ops.length : Int) < (ops.length : Int) by omega), if_neg hb, hwi]
  exact hnx
 | succ d ih =>
  intro j b h2 h3
  have hj : j < (ops.length : Int) := by omega
  have hw := wrap_up h2 hj (by omega)
  have hsplit : ∀ P : Int → Prop, (∀ q : Int, j ≤ q → q < ops.length → P q) ↔ (P j ∧ ∀ q : Int, j + 1 ≤ q → q < ops.length → P q) := fun P => ⟨fun h => ⟨h j (by omega) (by omega), fun q h3 h4 => h q (by omega) h4⟩, fun h q h3 h4 => by
   rcases Int.lt_or_eq_of_le h3 with h5 | h5
   ·exact h.2 q (by omega) h4
   ·exact h5 ▸ h.1⟩
  rw [hsplit]
  cases b with
  | false =>
   obtain ⟨_, ih2⟩ := ih (j + 1) false (by omega) (by omega)
   refine ⟨fun h => (by cases h.1), fun h => Ev.step (fun k => by rw [spec_l14Search.l2]) ?_⟩
   simp only [if_pos hj, Bool.false_eq_true, if_false, hw]
   exact ih2 (fun h => by cases h.1)
  | true =>
   have hhas := spec_l10Has_ev ids j (by omega)
   cases hq : has ids j with
   | true =>
    rw [hq] at hhas
    obtain ⟨ih1, ih2⟩ := ih (j + 1) true (by omega) (by omega)
    refine ⟨fun h => Ev.step (fun k => by rw [spec_l14Search.l2]) ?_, fun h => Ev.step (fun k => by rw [spec_l14Search.l2]) ?_⟩ <;> simp only [if_pos hj, if_true, hw] <;> refine Ev.bind hhas ?_ <;> simp only [if_true]
    ·exact ih1 ⟨rfl, h.2.2⟩
    ·exact ih2 fun h' => h ⟨rfl, .inl rfl, h'.2⟩
   | false =>
    rw [hq] at hhas
    obtain ⟨ih1, ih2⟩ := ih (j + 1) (!aheadB (rd_T89 ops j) (rd_T89 ops i)) (by omega) (by omega)
    refine ⟨fun h => Ev.step (fun k => by rw [spec_l14Search.l2]) ?_, fun h => Ev.step (fun k => by rw [spec_l14Search.l2]) ?_⟩ <;> simp only [if_pos hj, if_true, hw] <;> refine Ev.bind hhas ?_ <;> simp only [Bool.false_eq_true, if_false, if_pos h2, if_pos h0, if_pos h1, l14Ahead_eq, Option.bind_some]
    ·exact ih1 ⟨by rw [h.2.1.resolve_left (by simp)]; rfl, h.2.2⟩
    ·exact ih2 fun h' => h ⟨rfl, .inr (by simpa using h'.1), h'.2⟩
theorem search_l1 (ids : List Int) (v : ByteArray) (hids : ids.length ≤ 1000)
  (ih : ∀ (i : Int) (w : ByteArray), 0 ≤ i → i < ops.length → has ids i = false → ∃ r, Ev (fun k => spec_l14Search.f k ops (ids ++ [i]) w) r ∧ (r.2 = true → ∃ path, r.1 = (ids ++ [i]) ++ path ∧ Path ops (ids ++ [i]) w path) ∧ (r.2 = false → ∀ path, ¬ Path ops (ids ++ [i]) w path)) :
  ∀ (d : Nat) (i : Int), 0 ≤ i → i + d = ops.length → ∃ r, Ev (fun k => spec_l14Search.l1 k ops ids v i) r ∧
   (r.2 = true → ∃ j path, i ≤ j ∧ r.1 = ids ++ (j :: path) ∧ Path ops ids v (j :: path)) ∧ (r.2 = false → ∀ j path, i ≤ j → ¬ Path ops ids v (j :: path)) := by
 intro d
 induction d with
 | zero =>
  intro i h0 h1
  refine ⟨([], false), Ev.step (fun k => by rw [spec_l14Search.l1]) ?_, (fun h => by cases h), fun _ j path h2 h3 => ?_⟩
  ·simp only [if_neg (show ¬ i < (ops.length : Int) by omega)]
   exact Ev.now _
  ·have := h3.1.2
   omega
 | succ d ihd =>
  intro i h0 h1
  have hi : i < (ops.length : Int) := by omega
  have hw := wrap_up h0 hi (by omega)
  obtain ⟨rn, h2, h3, h4⟩ := ihd (i + 1) (by omega) (by omega)
  have hhas := spec_l10Has_ev ids i (by omega)
  have hskip : Ev (fun k => spec_l14Search.j2 k ops ids v i true) rn := by
   refine Ev.step (fun k => by rw [spec_l14Search.j2]) ?_
   simp only [if_true, hw]
   exact h2
  -- where this place does not go
  have hnot : (∀ path, ¬ Path ops ids v (i :: path)) → (rn.2 = true → ∃ j path, i ≤ j ∧ rn.1 = ids ++ (j :: path) ∧ Path ops ids v (j :: path)) ∧ (rn.2 = false → ∀ j path, i ≤ j → ¬ Path ops ids v (j :: path)) := by
   intro hno
   refine ⟨fun h => ?_, fun h j path hj hp => ?_⟩
   ·obtain ⟨j, path, h5, h6, h7⟩ := h3 h
    exact ⟨j, path, by omega, h6, h7⟩
   ·rcases Int.lt_or_eq_of_le hj with h5 | h5
    ·exact h4 h j path (by omega) hp
    ·subst h5
     exact hno path hp
  cases hq : has ids i with
  | true =>
   rw [hq] at hhas
   refine ⟨rn, Ev.step (fun k => by rw [spec_l14Search.l1]) ?_, hnot fun path hp => ?_⟩
   ·simp only [if_pos hi]
    refine Ev.bind hhas ?_
    simp only [if_true]
    exact hskip
   ·have := hp.2.1.1
    rw [hq] at this
    cases this
  | false =>
   rw [hq] at hhas
   have hin : ∀ q s, ((rd_T89 ops i).f2 = true ∧ q = false ∨ (rd_T89 ops i).f2 = false ∧ q = ((rd_T89 ops i).f3.toList != v.toList)) → Ev (fun k => spec_l14Search.j2 k ops ids v i q) s → Ev (fun k => spec_l14Search.l1 k ops ids v i) s := by
    intro q s hc hs
    refine Ev.step (fun k => by rw [spec_l14Search.l1]) ?_
    simp only [if_pos hi]
    refine Ev.bind hhas ?_
    simp only [Bool.false_eq_true, if_false, if_pos h0]
    rcases hc with ⟨h6, rfl⟩ | ⟨h6, rfl⟩ <;> simp only [h6, if_true, Bool.false_eq_true, if_false] <;> exact hs
   by_cases hv : valueOK (rd_T89 ops i) v
   ·-- the value fits
    have hj2 : ∀ s, Ev (fun k => spec_l14Search.l2 k ops ids v i true 0) s → Ev (fun k => spec_l14Search.l1 k ops ids v i) s := by
     intro s hs
     have hj : Ev (fun k => spec_l14Search.j2 k ops ids v i false) s := by
      refine Ev.step (fun k => by rw [spec_l14Search.j2]) ?_
      simp only [Bool.false_eq_true, if_false]
      exact hs
     cases hf : (rd_T89 ops i).f2 with
     | true => exact hin false s (.inl ⟨hf, rfl⟩) hj
     | false =>
      have : (rd_T89 ops i).f3.toList = v.toList := hv.resolve_left (by rw [hf]; decide)
      exact hin _ s (.inr ⟨hf, rfl⟩) (by rw [show ((rd_T89 ops i).f3.toList != v.toList) = false by rw [this]; simp]; exact hj)
    obtain ⟨⟨ra, rb⟩, h5, h6, h7⟩ := ih i (rd_T89 ops i).f3 h0 hi hq
    -- where it goes on
    have hgo : ∀ r, Ev (fun k => (spec_l14Search.f k ops (ids ++ [i]) (rd_T89 ops i).f3).bind fun bt => (if bt.2 = true then (some (bt.1, true)) else (spec_l14Search.l1 k ops ids v (i + 1)))) r → Ev (fun k => spec_l14Search.l2 k ops ids v i true (ops.length : Int)) r := by
     intro r hr
     refine Ev.step (fun k => by rw [spec_l14Search.l2]) ?_
     simp only [if_neg (show ¬ (ops.length : Int) < (ops.length : Int) by omega), if_true, if_pos h0, if_pos hi, Option.bind_some, List.nil_append, List.length_nil, hw, if_pos (show 0 + ids.length < 17592186044416 by omega), if_pos (show ids.length < 17592186044416 by omega)]
     cases hf : (rd_T89 ops i).f2 with
     | true =>
      simp only [if_true]
      exact hr
     | false =>
      have : (rd_T89 ops i).f3 = v := bytes_ext' (hv.resolve_left (by rw [hf]; decide))
      simp only [Bool.false_eq_true, if_false]
      rw [this] at hr
      exact hr
    have hgor : ∃ rg : List Int × Bool, Ev (fun k => spec_l14Search.l2 k ops ids v i true (ops.length : Int)) rg ∧ (rb = true → rg = (ra, true)) ∧ (rb = false → rg = rn) := by
     cases rb with
     | true => exact ⟨(ra, true), hgo _ (Ev.bind h5 (by simp only [if_true]; exact Ev.now _)), fun _ => rfl, (fun h => by cases h)⟩
     | false => exact ⟨rn, hgo _ (Ev.bind h5 (by simp only [Bool.false_eq_true, if_false]; exact h2)), (fun h => by cases h), fun _ => rfl⟩
    obtain ⟨rg, h8, h9, h10⟩ := hgor
    have hl2 := search_l2 ops hops hn ids v hids i h0 hi rg rn h8 h2 ops.length 0 true (by omega) (by omega)
    by_cases hc : ∀ q : Int, 0 ≤ q → q < ops.length → has ids q = true ∨ aheadB (rd_T89 ops q) (rd_T89 ops i) = false
    ·have hev := hj2 rg (hl2.1 ⟨rfl, hc⟩)
     cases rb with
     | true =>
      obtain rfl := h9 rfl
      obtain ⟨path, h11, h12⟩ := h6 rfl
      exact ⟨(ra, true), hev, fun _ => ⟨i, path, Int.le_refl _, by rw [h11]; simp, ⟨h0, hi⟩, ⟨hq, hc⟩, hv, h12⟩, (fun h => by cases h)⟩
     | false =>
      obtain rfl := h10 rfl
      exact ⟨rg, hev, hnot fun path hp => h7 rfl path hp.2.2.2⟩
    ·exact ⟨rn, hj2 rn (hl2.2 fun h => hc h.2), hnot fun path hp => hc hp.2.1.2⟩
   ·refine ⟨rn, ?_, hnot fun path hp => hv hp.2.2.1⟩
    cases hf : (rd_T89 ops i).f2 with
    | true => exact absurd (.inl hf) hv
    | false =>
     have : ((rd_T89 ops i).f3.toList != v.toList) = true := by
      rw [bne_iff_ne]
      exact fun h => hv (.inr h)
     exact hin _ rn (.inr ⟨hf, rfl⟩) (by rw [this]; exact hskip)
theorem search_full : ∀ (m : Nat) (ids : List Int) (v : ByteArray), free ops.length ids ≤ m → ids.length + m ≤ 7 → ∃ r, Ev (fun k => spec_l14Search.f k ops ids v) r ∧ (r.2 = true → ∃ path, r.1 = ids ++ path ∧ Path ops ids v path) ∧ (r.2 = false → ∀ path, ¬ Path ops ids v path) := by
 intro m
 induction m with
 | zero =>
  intro ids v hf hl
  obtain ⟨r1, h1, h2, h3⟩ := search_l1 ops hops hn ids v (by omega) (fun i w h0 h1 hq => by
   have := free_app ops.length ids i h0 h1 hq
   omega) ops.length 0 (by omega) (by omega)
  exact search_end ids v hl r1 h1 h2 h3
 | succ m ih =>
  intro ids v hf hl
  obtain ⟨r1, h1, h2, h3⟩ := search_l1 ops hops hn ids v (by omega) (fun i w h0 h1 hq => by
   have := free_app ops.length ids i h0 h1 hq
   exact ih (ids ++ [i]) w (by omega) (by simp; omega)) ops.length 0 (by omega) (by omega)
  exact search_end ids v hl r1 h1 h2 h3
where
 search_end {m : Nat} (ids : List Int) (v : ByteArray) (hl : ids.length + m ≤ 7) (r1 : List Int × Bool) (h1 : Ev (fun k => spec_l14Search.l1 k ops ids v 0) r1) (h2 : r1.2 = true → ∃ j path, 0 ≤ j ∧ r1.1 = ids ++ (j :: path) ∧ Path ops ids v (j :: path)) (h3 : r1.2 = false → ∀ j path, 0 ≤ j → ¬ Path ops ids v (j :: path)) : ∃ r, Ev (fun k => spec_l14Search.f k ops ids v) r ∧ (r.2 = true → ∃ path, r.1 = ids ++ path ∧ Path ops ids v path) ∧ (r.2 = false → ∀ path, ¬ Path ops ids v path) := by
  have hl0 := search_l0 ops hops hn ids v (by omega) r1 h1 ops.length 0 true (by omega) (by omega)
  by_cases hd : AllEnded ops ids
  ·exact ⟨(ids, true), Ev.step (fun k => by rw [spec_l14Search.f]) (hl0.1 ⟨rfl, hd⟩), fun _ => ⟨[], by simp, hd⟩, (fun h => by cases h)⟩
  ·refine ⟨r1, Ev.step (fun k => by rw [spec_l14Search.f]) (hl0.2 fun h => hd h.2), fun h => ?_, fun h path hp => ?_⟩
   ·obtain ⟨j, path, _, h5, h6⟩ := h2 h
    exact ⟨j :: path, h5, h6⟩
   ·cases path with
    | nil => exact hd hp
    | cons j path => exact h3 h j path hp.1.1 hp
end
/-- What LinearOrder tells of right acts. -/
theorem LinearOrder_full (l : List S89) (hops : l.all opOK = true) (hn : l.length ≤ 7) : ∃ r, r.1.length ≤ 7 ∧ Ev (fun k => spec_LinearOrder.f k l) r ∧ Ev (fun k => impl_LinearOrder.f k l) r ∧
  (r.2 = 0 ∧ Path l [] ⟨#[]⟩ r.1 ∨ r.2 = 5 ∧ ∀ path, ¬ Path l [] ⟨#[]⟩ path) := by
 obtain ⟨r, h1, h2, h3⟩ := LinearOrder_rel l
 refine ⟨r, h1, h2, h3, ?_⟩
 obtain ⟨⟨ra, rb⟩, h4, h5, h6⟩ := search_full l hops hn l.length [] ⟨#[]⟩ (free_start _) (by simp; omega)
 have hok := spec_OpsOK_eq l
 have e : (decide (l.length ≤ 7) && l.all opOK) = true := by simp [hn, hops]
 rw [e] at hok
 cases rb with
 | true =>
  have h7 : Ev (fun k => spec_LinearOrder.f k l) (ra, 0) := by
   simp only [spec_LinearOrder.f, if_neg (show ¬ (l.length : Int) > 4096 by omega)]
   refine Ev.bind hok ?_
   simp only [if_true]
   refine Ev.bind h4 ?_
   simp only [if_true]
   exact Ev.now _
  obtain rfl := Ev.uniq h2 h7
  obtain ⟨path, h8, h9⟩ := h5 rfl
  left
  refine ⟨rfl, ?_⟩
  simp only [List.nil_append] at h8
  rw [h8]
  exact h9
 | false =>
  have h7 : Ev (fun k => spec_LinearOrder.f k l) ([], 5) := by
   simp only [spec_LinearOrder.f, if_neg (show ¬ (l.length : Int) > 4096 by omega)]
   refine Ev.bind hok ?_
   simp only [if_true]
   refine Ev.bind h4 ?_
   simp only [Bool.false_eq_true, if_false]
   exact Ev.now _
  obtain rfl := Ev.uniq h2 h7
  exact .inr ⟨rfl, h6 rfl⟩
end Go.Proofs.Ytmclmbhdgepjfaa.Pure

