/-
  All records folded: the program's answer is the reference's. No condition.
-/
import Derived.Test.YtdpjbeeokimnaaaPFold
namespace Go.Proofs.YtdpjbeeokimnaaaA
open Go
set_option linter.unusedVariables false
set_option linter.unusedSimpArgs false

/-- A state's log is short, and so is each entry of it. -/
def SOk (l : List (El kEntry)) : Prop := l.length ≤ 60 ∧ ∀ e ∈ l, e.2.2.size ≤ 1000
theorem SOk.short {l : List (El kEntry)} (h : SOk l) : Short l := ⟨by have := h.1; omega, fun e he => by have := h.2 e he; omega⟩
theorem fStep_ok {t v : Int} {l : List (El kEntry)} {r : List Int} {y : Int × Int × List (El kEntry)} (hl : SOk l) (h : fStep t v l r = some y) : SOk y.2.2 := by
  match r with
  | [] => simp [fStep] at h
  | x :: m =>
    simp only [fStep] at h
    by_cases h1 : x = 84
    · rw [if_pos h1] at h
      by_cases h2 : m.length = 5
      · rw [if_pos h2] at h
        obtain rfl := Option.some.inj h
        exact hl
      · rw [if_neg h2] at h
        cases h
    · rw [if_neg h1] at h
      by_cases h2 : x = 67
      · rw [if_pos h2] at h
        by_cases h3 : m.length = 4 ∧ beN 0 m ≤ l.length
        · rw [if_pos h3] at h
          obtain rfl := Option.some.inj h
          exact ⟨by have := hl.1; simp; omega, fun e he => hl.2 e (List.mem_of_mem_take he)⟩
        · rw [if_neg h3] at h
          cases h
      · rw [if_neg h2] at h
        by_cases h3 : x = 69
        · rw [if_pos h3] at h
          cases hp : pEnt m with
          | none => rw [hp] at h; cases h
          | some y =>
            rw [hp] at h
            dsimp only at h
            by_cases h4 : (decide (y.r = []) && entOK y.t y.k y.D) = true ∧ l.length + 1 ≤ 60
            · rw [if_pos h4] at h
              obtain rfl := Option.some.inj h
              obtain ⟨h5, h6⟩ := h4
              rw [Bool.and_eq_true] at h5
              have h7 := (entOK_short h5.2).1
              refine ⟨by simp; omega, fun e he => ?_⟩
              rcases List.mem_append.1 he with he | he
              · exact hl.2 e he
              · rw [List.mem_singleton.1 he]
                show (strL y.D).size ≤ 1000
                rw [strL_size]
                omega
            · rw [if_neg h4] at h
              cases h
        · rw [if_neg h3] at h
          cases h
def fAll : Int × Int × List (El kEntry) → List ByteArray → Option (Int × Int × List (El kEntry))
  | q, [] => some q
  | q, s :: rs => match fStep q.1 q.2.1 q.2.2 (bytesL s) with
    | some y => fAll y rs
    | none => none
theorem fAll_ok : ∀ {rs : List ByteArray} {q y : Int × Int × List (El kEntry)}, SOk q.2.2 → fAll q rs = some y → SOk y.2.2
  | [], q, y, h, e => by
    obtain rfl := Option.some.inj e
    exact h
  | s :: rs, q, y, h, e => by
    unfold fAll at e
    cases hs : fStep q.1 q.2.1 q.2.2 (bytesL s) with
    | none => rw [hs] at e; cases e
    | some z =>
      rw [hs] at e
      exact fAll_ok (fStep_ok h hs) e
theorem foldLoop_i {R : Type} (kke : Int → Int → Int → Int → List (El kEntry) → Option R) (kkr : Int → Int → Int → Option R) (list : List ByteArray) (hl : list.length ≤ 1000000) (hz : ∀ s ∈ list, s.size ≤ 1000) (a b : Int) :
    ∀ (m n j : Nat) (q : Int × Int × List (El kEntry)), j + m = list.length → m < n → SOk q.2.2 →
      i_foldRecords.l1 kke kkr n list list.length j a b q.1 q.2.1 q.2.2 = match fAll q (list.drop j) with | some y => kke a b y.1 y.2.1 y.2.2 | none => kkr 3 0 0
  | 0, n + 1, j, q, e, _, hq => by
    simp only [i_foldRecords.l1]
    rw [decide_f (by omega), cf, List.drop_of_length_le (by omega)]
    rfl
  | m + 1, n + 1, j, q, e, hn, hq => by
    have hj : j < list.length := by omega
    have hs := hz _ (List.getElem_mem hj)
    have hf := fold_i q.1 q.2.1 q.2.2 (bytesL list[j]) (IsBytes.bytesL _) (by rw [bytesL_length]; exact hs) hq.1
    rw [strL_bytesL] at hf
    simp only [i_foldRecords.l1]
    rw [decide_t (by omega), ct, grd_of (gIx_t (by omega) (by omega)), Int.toNat_natCast, rdE_at (k := .str) hj, wr (by omega) (by omega), drop_cons hj]
    simp only [fAll]
    cases h1 : fStep q.1 q.2.1 q.2.2 (bytesL list[j]) with
    | none =>
      rw [h1] at hf
      obtain ⟨g1, g2, g3, hg⟩ := hf
      rw [hg, bs, Bool.not_false, ct]
    | some y =>
      rw [h1] at hf
      dsimp only at hf
      rw [hf, bs, Bool.not_true, cf, show ((j : Int) + 1) = ((j + 1 : Nat) : Int) by omega]
      exact foldLoop_i kke kkr list hl hz a b m n (j + 1) y (by omega) (by omega) (fStep_ok hq h1)
theorem foldLoop_s {R : Type} (kke : Int → Int → Int → Int → List (El kEntry) → Option R) (kkr : Bool → Int → Int → List (El kEntry) → Option R) (list : List ByteArray) (hl : list.length ≤ 1000000) (hz : ∀ s ∈ list, s.size ≤ 1000) (a b : Int) :
    ∀ (m n j : Nat) (q : Int × Int × List (El kEntry)), j + m = list.length → m < n → SOk q.2.2 →
      ∃ g1 g2 g3, s_l05FoldAll.l1 kke kkr n list j a b q.1 q.2.1 q.2.2 = match fAll q (list.drop j) with | some y => kke a b y.1 y.2.1 y.2.2 | none => kkr false g1 g2 g3
  | 0, n + 1, j, q, e, _, hq => by
    simp only [s_l05FoldAll.l1]
    rw [decide_f (by omega), cf, List.drop_of_length_le (by omega)]
    exact ⟨0, 0, [], rfl⟩
  | m + 1, n + 1, j, q, e, hn, hq => by
    have hj : j < list.length := by omega
    have hs := hz _ (List.getElem_mem hj)
    have hf := fold_s q.1 q.2.1 q.2.2 (bytesL list[j]) (IsBytes.bytesL _) (by rw [bytesL_length]; exact hs) hq.1
    rw [strL_bytesL] at hf
    simp only [s_l05FoldAll.l1]
    rw [decide_t (by omega), ct, grd_of (gIx_t (by omega) (by omega)), Int.toNat_natCast, rdE_at (k := .str) hj, wr (by omega) (by omega), drop_cons hj]
    simp only [fAll]
    cases h1 : fStep q.1 q.2.1 q.2.2 (bytesL list[j]) with
    | none =>
      rw [h1] at hf
      obtain ⟨g1, g2, g3, bb, hg, hb⟩ := hf
      rw [hg, bs]
      dsimp only
      cases bb with
      | false =>
        rw [Bool.not_false, ct]
        exact ⟨_, _, _, rfl⟩
      | true =>
        have h2 := hb rfl
        rw [Bool.not_true, cf, decide_t (by omega), ct]
        exact ⟨_, _, _, rfl⟩
    | some y =>
      rw [h1] at hf
      dsimp only at hf
      obtain ⟨h2, h3⟩ := hf
      rw [h2, bs]
      dsimp only
      rw [Bool.not_true, cf, decide_f (by omega), cf, show ((j : Int) + 1) = ((j + 1 : Nat) : Int) by omega]
      exact foldLoop_s kke kkr list hl hz a b m n (j + 1) y (by omega) (by omega) (fStep_ok hq h1)
theorem clone_entry (l : List (El kEntry)) (h : l.length ≤ 1000000) : slices_Clone_SLi_Entry_i_Entry l = some l := by
  cases l with
  | nil =>
    have e : slices_Clone_SLi_Entry_i_Entry [] = agree (some []) (some []) := by kernel_rfl
    rw [e, agree_self]
  | cons x l =>
    unfold slices_Clone_SLi_Entry_i_Entry slices_Clone_SLi_Entry_i_Entry.F
    rw [List.isEmpty_cons, cf, grd_of (gRm_t (by simp at h ⊢; omega)), List.nil_append]
/-- A state as it is told: all of it, and 0; or none, and why. -/
noncomputable def told (list : List ByteArray) : Int × Int × List (El kEntry) × Int :=
  open Classical in
  if list.length > 4096 then (0, 0, [], 2)
  else if list.any (fun s => decide ((s.size : Int) > 110)) then (0, 0, [], 4)
  else match fAll (0, -1, []) list with
    | some y => if StOK y.1 y.2.1 y.2.2 then (y.1, y.2.1, y.2.2, 0) else (0, 0, [], 3)
    | none => (0, 0, [], 3)
theorem sok_nil : SOk [] := ⟨by decide, fun e he => by cases he⟩
theorem told_sok (list : List ByteArray) : SOk (told list).2.2.1 := by
  unfold told
  split
  · exact sok_nil
  · split
    · exact sok_nil
    · cases h : fAll (0, -1, []) list with
      | none => exact sok_nil
      | some y =>
        dsimp only
        split
        · exact fAll_ok (q := (0, -1, [])) sok_nil h
        · exact sok_nil
theorem foldRecords_i (list : List ByteArray) (h : list.length ≤ 1000000000) : i_FoldRecords list = some (told list) := by
  unfold i_FoldRecords i_FoldRecords.F i_isList_string i_isList_string.F told
  rw [bs]
  by_cases h0 : list.length > 4096
  · rw [if_pos h0, decide_f (by omega), Bool.not_false, ct]
  · rw [if_neg h0, decide_t (by omega), Bool.not_true, cf]
    have h1 : i_foldRecords list = some (open Classical in if list.any (fun s => decide ((s.size : Int) > 110)) then ((0 : Int), (0 : Int), ([] : List (El kEntry)), (4 : Int))
        else match fAll (0, -1, []) list with
          | some y => if StOK y.1 y.2.1 y.2.2 then (y.1, y.2.1, y.2.2, 0) else (0, 0, [], 3)
          | none => (0, 0, [], 3)) := by
      unfold i_foldRecords i_foldRecords.F slices_ContainsFunc_SLstring_string slices_ContainsFunc_SLstring_string.F slices_IndexFunc_SLstring_string slices_IndexFunc_SLstring_string.F
      have hq : ∀ x ∈ list, (fun x : ByteArray => (fun t : ByteArray × Unit => (i_foldRecords_1 t.1).bind fun a => some (a, ())) (x, ())) x = some (decide ((x.size : Int) > 110), ()) := by
        intro x _
        simp only [i_foldRecords_1, i_foldRecords_1.F, bs]
      have := find_loop (k := .str) (L := slices_IndexFunc_SLstring_string.l1 (fun t => (i_foldRecords_1 t.1).bind fun a => some (a, ())) (some (-1 : Int)) (fun i => some i)) (fun n s i j => rfl) (l := list) (by omega) hq list.length fuel 0 (by omega) (fuel_big (by omega))
      rw [Int.natCast_zero] at this
      rw [this, List.drop_zero, ← findIdx_any]
      cases hd : list.findIdx? fun s => decide ((s.size : Int) > 110) with
      | some d =>
        dsimp only
        rw [bs, bs, decide_t (by omega), ct, Option.isSome_some, if_pos rfl]
      | none =>
        dsimp only
        have hall : ∀ s ∈ list, s.size ≤ 1000 := fun s hs => by
          have := (List.findIdx?_eq_none_iff.1 hd) s hs
          rw [decide_eq_false_iff_not] at this
          omega
        rw [bs, bs, decide_f (by decide), cf, Option.isSome_none, if_neg (by decide)]
        have hloop := foldLoop_i (fun i i1 s s1 l => (i_StateOK s s1 l).bind fun r1 => cond (!r1) (some ((0 : Int), (0 : Int), ([] : List (El kEntry)), (3 : Int))) ((slices_Clone_SLi_Entry_i_Entry l).bind fun r2 => some (s, s1, r2, (0 : Int)))) (fun i2 i3 i4 => some (i3, i4, [], i2)) list (by omega) hall 0 0 list.length fuel 0 (0, -1, []) (by omega) (fuel_big (by omega)) sok_nil
        rw [Int.natCast_zero, List.drop_zero] at hloop
        rw [hloop]
        cases hf : fAll (0, -1, []) list with
        | none => rfl
        | some y =>
          have hs := fAll_ok (q := (0, -1, [])) sok_nil hf
          obtain ⟨b, h2, h3⟩ := stateOK_i y.1 y.2.1 y.2.2 hs.short
          dsimp only
          rw [h2, bs]
          cases b with
          | false => rw [Bool.not_false, ct, if_neg (fun h => by simpa using h3.2 h)]
          | true => rw [Bool.not_true, cf, if_pos (h3.1 rfl), clone_entry _ (by have := hs.1; omega), bs]
    rw [h1, bs]
theorem sizeLoop_s {R : Type} (kke : List ByteArray → Int → Int → Option R) (kkr : Int → Int → Int → Option R) (list : List ByteArray) (hl : list.length ≤ 1000000) (a b : Int) :
    ∀ (m n j : Nat), j + m = list.length → m < n →
      s_FoldRecords.l1 kke kkr n list j a b = if (list.drop j).any (fun s => decide ((s.size : Int) > 110)) then kkr 4 0 0 else kke list a b
  | 0, n + 1, j, e, _ => by
    simp only [s_FoldRecords.l1]
    rw [decide_f (by omega), cf, List.drop_of_length_le (by omega)]
    rfl
  | m + 1, n + 1, j, e, hn => by
    have hj : j < list.length := by omega
    simp only [s_FoldRecords.l1]
    rw [decide_t (by omega), ct, grd_of (gIx_t (by omega) (by omega)), Int.toNat_natCast, rdE_at (k := .str) hj, wr (by omega) (by omega), drop_cons hj, List.any_cons]
    by_cases h : (list[j].size : Int) > 110
    · rw [decide_t h, ct, Bool.true_or, if_pos rfl]
    · rw [decide_f h, cf, Bool.false_or, show ((j : Int) + 1) = ((j + 1 : Nat) : Int) by omega]
      exact sizeLoop_s kke kkr list hl a b m n (j + 1) (by omega) (by omega)
theorem foldRecords_s (list : List ByteArray) (h : list.length ≤ 1000000000) : s_FoldRecords list = some (told list) := by
  unfold s_FoldRecords s_FoldRecords.F told
  by_cases h0 : list.length > 4096
  · rw [if_pos h0, decide_t (by omega), ct]
  · rw [if_neg h0, decide_f (by omega), cf]
    have hloop := sizeLoop_s (fun list1 i i1 => (s_l05FoldAll list1).bind fun r => cond (!r.2.2.2) (some ((0 : Int), (0 : Int), ([] : List (El kEntry)), (3 : Int))) (some (r.1, r.2.1, r.2.2.1, (0 : Int)))) (fun i2 i3 i4 => some (i3, i4, [], i2)) list (by omega) 0 0 list.length fuel 0 (by omega) (fuel_big (by omega))
    rw [Int.natCast_zero, List.drop_zero] at hloop
    rw [hloop]
    by_cases h1 : list.any (fun s => decide ((s.size : Int) > 110)) = true
    · rw [if_pos h1, if_pos h1]
    · rw [if_neg h1, if_neg h1]
      have hall : ∀ s ∈ list, s.size ≤ 1000 := fun s hs => by
        rw [List.any_eq_true] at h1
        have : ¬ (s.size : Int) > 110 := fun h => h1 ⟨s, hs, decide_eq_true h⟩
        omega
      unfold s_l05FoldAll s_l05FoldAll.F
      obtain ⟨g1, g2, g3, hl⟩ := foldLoop_s (fun i i1 s s1 s2 => (s_StateOK s s1 s2).bind fun r => some (s, s1, s2, r)) (fun b i2 i3 l => some (i2, i3, l, b)) list (by omega) hall 0 0 list.length fuel 0 (0, -1, []) (by omega) (fuel_big (by omega)) sok_nil
      rw [Int.natCast_zero, List.drop_zero] at hl
      rw [hl]
      cases hf : fAll (0, -1, []) list with
      | none => rfl
      | some y =>
        have hs := fAll_ok (q := (0, -1, [])) sok_nil hf
        obtain ⟨b, h2, h3⟩ := stateOK_s y.1 y.2.1 y.2.2 hs.short
        dsimp only
        rw [h2, bs, bs]
        cases b with
        | false => rw [Bool.not_false, ct, if_neg (fun h => by simpa using h3.2 h)]
        | true => rw [Bool.not_true, cf, if_pos (h3.1 rfl)]
end Go.Proofs.YtdpjbeeokimnaaaA
