import Derived.Test.YtmclmbhdgepjfaaVdSFnOrders
import Derived.Test.YtmclmbhdgepjfaaVdXpSearch
import Derived.Test.YtmclmbhdgepjfaaVdXpSrc
namespace Go.Proofs.Ytmclmbhdgepjfaa.Pure
open Go.RowKit Go.Proofs.Ytmclmbhdgepjfaa.Q Go.Proofs.YtmclmbhdgepjfaaX Go.Proofs.YtmclmbhdgepjfaaW.PrintWords Go.Proofs.YtmclmbhdgepjfaaW.PrintLast
set_option linter.unusedVariables false
set_option linter.unusedSimpArgs false

theorem sameInts_l0 (l : List Int) (hl : l.length ≤ 4096) : ∀ (d : Nat) (i : Int), 0 ≤ i → i + d = l.length → Ev (fun k => laws_sameInts.l0 k l l i) true := by
 intro d
 induction d with
 | zero =>
  intro i h0 h1
  refine Ev.step (fun k => by rw [laws_sameInts.l0]) ?_
  simp only [if_neg (show ¬ i < (l.length : Int) by omega)]
  exact Ev.now _
 | succ d ih =>
  intro i h0 h1
  refine Ev.step (fun k => by rw [laws_sameInts.l0]) ?_
  simp only [if_pos (show i < (l.length : Int) by omega), if_pos h0, if_true, wrap_up h0 (show i < (l.length : Int) by omega) (by omega)]
  exact ih (i + 1) (by omega) (by omega)
theorem sameInts_refl (l : List Int) (hl : l.length ≤ 4096) : Ev (fun k => laws_sameInts.f k l l) true := by
 simp only [laws_sameInts.f, if_true]
 exact sameInts_l0 l hl l.length 0 (by omega) (by omega)
/-- Is a place used? -/
theorem used_ev (ops : List S89) (order : List Int) (ho : order.length ≤ 4096) (i : Int) (r : Bool) (hu : has order i = true → Ev (fun k => laws_some.l1 k ops order i true (order.length : Int)) r) (hf : has order i = false → Ev (fun k => laws_some.l1 k ops order i false (order.length : Int)) r) :
  ∀ (d : Nat) (j : Int) (b : Bool), 0 ≤ j → j + d = order.length → (b || has (order.drop j.toNat) i) = has order i → Ev (fun k => laws_some.l1 k ops order i b j) r := by
 intro d
 induction d with
 | zero =>
  intro j b h0 h1 h2
  obtain rfl : j = (order.length : Int) := by omega
  rw [List.drop_eq_nil_of_le (by omega)] at h2
  cases b with
  | true => exact hu h2.symm
  | false => exact hf h2.symm
 | succ d ih =>
  intro j b h0 h1 h2
  have hj : j < (order.length : Int) := by omega
  have hw := wrap_up h0 hj (by omega)
  have hd : order.drop j.toNat = rd order j :: order.drop (j + 1).toNat := by
   rw [show (j + 1).toNat = j.toNat + 1 by omega, List.drop_eq_getElem_cons (show j.toNat < order.length by omega)]
   congr 1
   show _ = order.getD j.toNat 0
   rw [List.getD_eq_getElem?_getD, List.getElem?_eq_getElem (by omega)]
   rfl
  rw [hd] at h2
  have h3 : has (rd order j :: order.drop (j + 1).toNat) i = ((rd order j == i) || has (order.drop (j + 1).toNat) i) := by simp [has]
  rw [h3] at h2
  refine Ev.step (fun k => by rw [laws_some.l1]) ?_
  cases b with
  | true =>
   simp only [if_pos hj, if_true, hw]
   exact ih (j + 1) true (by omega) (by omega) (by simpa using h2)
  | false =>
   simp only [if_pos hj, Bool.false_eq_true, if_false, if_pos h0, hw]
   exact ih (j + 1) _ (by omega) (by omega) (by simpa using h2)
/-- Where there is no path, no order that is tried is legal. -/
theorem some_false (ops : List S89) (hops : ops.all opOK = true) (hn : ops.length ≤ 7) (hno : ∀ path, ¬ Path ops [] ⟨#[]⟩ path) : ∀ (m : Nat) (order : List Int), free ops.length order ≤ m → order.length + m ≤ 7 → Ev (fun k => laws_some.f k ops order) false := by
 have hlegal : ∀ order, ∃ c, Ev (fun k => impl_OrderLegal.f k ops order) (false, c) := by
  intro order
  obtain ⟨⟨b, c⟩, _, h2, h3, _⟩ := OrderLegal_rel ops order
  cases b with
  | false => exact ⟨c, h2⟩
  | true =>
   obtain ⟨h4, h5, h6⟩ := h3 rfl
   exact absurd (path_of_legal hops order [] _ h5 (by simpa using h6) h4) (hno order)
 -- the loop over the places
 have hloop : ∀ (order : List Int), order.length ≤ 7 → (∀ i : Int, 0 ≤ i → i < ops.length → has order i = false → Ev (fun k => laws_some.f k ops (order ++ [i])) false) → ∀ (d : Nat) (i : Int), 0 ≤ i → i + d = ops.length → Ev (fun k => laws_some.l0 k ops order i) false := by
  intro order ho hsub d
  induction d with
  | zero =>
   intro i h0 h1
   refine Ev.step (fun k => by rw [laws_some.l0]) ?_
   simp only [if_neg (show ¬ i < (ops.length : Int) by omega)]
   exact Ev.now _
  | succ d ih =>
   intro i h0 h1
   have hi : i < (ops.length : Int) := by omega
   have hw := wrap_up h0 hi (by omega)
   refine Ev.step (fun k => by rw [laws_some.l0]) ?_
   simp only [if_pos hi]
   refine used_ev ops order (by omega) i false (fun hu => ?_) (fun hf => ?_) order.length 0 false (by omega) (by omega) (by simp)
   ·refine Ev.step (fun k => by rw [laws_some.l1]) ?_
    simp only [if_neg (show ¬ (order.length : Int) < (order.length : Int) by omega), if_true, hw]
    exact ih (i + 1) (by omega) (by omega)
   ·refine Ev.step (fun k => by rw [laws_some.l1]) ?_
    simp only [if_neg (show ¬ (order.length : Int) < (order.length : Int) by omega), Bool.false_eq_true, if_false, Option.bind_some, List.nil_append, List.length_nil, if_pos (show 0 + order.length < 17592186044416 by omega), if_pos (show order.length < 17592186044416 by omega), hw]
    refine Ev.bind (hsub i h0 hi hf) ?_
    simp only [Bool.false_eq_true, if_false]
    exact ih (i + 1) (by omega) (by omega)
 intro m
 induction m with
 | zero =>
  intro order hf hl
  obtain ⟨c, hc⟩ := hlegal order
  refine Ev.step (fun k => by rw [laws_some.f]) ?_
  refine Ev.bind hc ?_
  simp only [Bool.false_eq_true, if_false]
  exact hloop order (by omega) (fun i h0 h1 hq => by
   have := free_app ops.length order i h0 h1 hq
   omega) ops.length 0 (by omega) (by omega)
 | succ m ih =>
  intro order hf hl
  obtain ⟨c, hc⟩ := hlegal order
  refine Ev.step (fun k => by rw [laws_some.f]) ?_
  refine Ev.bind hc ?_
  simp only [Bool.false_eq_true, if_false]
  exact hloop order (by omega) (fun i h0 h1 hq => by
   have := free_app ops.length order i h0 h1 hq
   exact ih (order ++ [i]) (by omega) (by simp; omega)) ops.length 0 (by omega) (by omega)
theorem FnOrders_j0 (ops : List S89) (hops : ops.all opOK = true) (hn : ops.length ≤ 7) : Ev (fun k => laws_FnOrders.j0 k ops) true := by
 obtain ⟨⟨ra, rc⟩, h1, h2, h3, h4⟩ := LinearOrder_full ops hops hn
 replace h1 : ra.length ≤ 7 := h1
 refine Ev.step (fun k => by rw [laws_FnOrders.j0]) ?_
 refine Ev.bind h3 (Ev.bind h2 ?_)
 simp only [if_true]
 refine Ev.bind (sameInts_refl ra (by omega)) ?_
 have e : (decide (ops.length ≤ 7) && ops.all opOK) = true := by simp [hn, hops]
 simp only [if_true, impl_OpsOK_eq, Option.bind_some, e]
 refine Ev.step (fun k => by rw [laws_FnOrders.j1]) ?_
 simp only [Bool.not_true, Bool.false_eq_true, if_false]
 rcases h4 with ⟨h5, h6⟩ | ⟨h5, h6⟩
 ·simp only at h5 h6
  obtain ⟨h7, h8, h9⟩ := legal_of_path ra [] _ h6 (fun a ha => by cases ha)
  obtain ⟨⟨b, c⟩, _, h10, _, h11⟩ := OrderLegal_rel ops ra
  obtain ⟨h12, h13⟩ := h11 hn hops h1 h9
  simp only at h12 h13
  obtain rfl := h13 h7 (by simpa using h8)
  subst h12
  simp only [if_pos h5]
  refine Ev.bind h10 ?_
  simp only [if_true]
  exact Ev.now _
 ·simp only at h5 h6
  simp only [h5, if_neg (show ¬ (5 : Int) = 0 by decide), if_true]
  refine Ev.bind (some_false ops hops hn h6 ops.length [] (free_start _) (by simp; omega)) ?_
  simp only [Bool.not_false]
  exact Ev.now _
theorem FnOrders : Go.Proofs.Ytmclmbhdgepjfaa.SFnOrders.Pure := by
 intro l ⟨hb, hm, hv⟩
 refine Ev.rounds ?_
 unfold laws_FnOrders.f
 by_cases hbig : (l.length : Int) > 1048576
 ·simp only [if_pos hbig]
  exact Ev.now _
 simp only [if_neg hbig]
 obtain ⟨r, h1, h2, h3⟩ := OpsOf_ok (isBytes_of_wf hv)
 refine Ev.bind h1 ?_
 by_cases h5 : (r.length : Int) > 5
 ·simp only [if_pos h5, if_pos (show 5 ≤ (r.length : Int) by omega)]
  exact FnOrders_j0 _ (List.all_eq_true.2 fun x hx => List.all_eq_true.1 h3 x (List.mem_of_mem_take hx)) (by rw [List.length_take]; omega)
 ·simp only [if_neg h5]
  exact FnOrders_j0 _ h3 (by omega)
end Go.Proofs.Ytmclmbhdgepjfaa.Pure

