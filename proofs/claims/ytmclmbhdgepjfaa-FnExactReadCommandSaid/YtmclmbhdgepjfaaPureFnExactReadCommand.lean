/-
  For every argument the law FnExactReadCommand returns true: the program's ReadCommand answers as the reference's.
  No condition but what the row itself says of its arguments.
-/
import Derived.Test.YtmclmbhdgepjfaaSFnExactReadCommand
import Derived.Test.YtmclmbhdgepjfaaFamFnExactReadCommand
import Derived.Test.YtmclmbhdgepjfaaXpReaders
namespace Go.Proofs.Ytmclmbhdgepjfaa.Pure
open Go.RowKit Go.Proofs.Ytmclmbhdgepjfaa.Q Go.Proofs.YtmclmbhdgepjfaaX Go.Proofs.Ytmclmbhdgepjfaa.FamFnExactReadCommand Go.Proofs.YtmclmbhdgepjfaaW.PrintWords Go.Proofs.YtmclmbhdgepjfaaW.PrintLast
set_option linter.unusedVariables false
set_option linter.unusedSimpArgs false
namespace RC
theorem l01In_eq (a b c : Int) : spec_l01In.f a b c = some (decide (b ≤ a) && decide (a ≤ c)) := by
  unfold spec_l01In.f
  by_cases h : b ≤ a
  · rw [if_pos h]; simp [h]
  · rw [if_neg h]; simp [h]
theorem within_eq' (a b c : Int) : impl_within.f a b c = some (decide (b ≤ a) && decide (a ≤ c)) := l01In_eq a b c
theorem isKey_eq (s : ByteArray) : impl_isKey.f s = spec_l02Key.f s := by
  unfold impl_isKey.f spec_l02Key.f
  simp only [within_eq', Option.bind_some]
  by_cases h : 1 ≤ (s.size : Int)
  · rw [if_pos (show (s.size : Int) ≥ 1 from h)]; simp [h]
  · rw [if_neg (show ¬ (s.size : Int) ≥ 1 from h)]; simp [h]
theorem isShort_eq (a : Int) : impl_isShort.f a = spec_l01In.f a 0 65535 := by
  unfold impl_isShort.f
  simp only [within_eq', l01In_eq, Option.bind_some]
theorem isValue_eq (s : ByteArray) : impl_isValue.f s = some (decide ((s.size : Int) ≤ 60)) := rfl
theorem j1_eq (k : Nat) (a : Int) (q : Bool) (b c d : Int) (s t : ByteArray) : impl_CommandOK.j1 k a q b c d s t = spec_CommandOK.j1 k a q b c d s t := by
  cases k with
  | zero => rw [impl_CommandOK.j1, spec_CommandOK.j1]
  | succ k => rw [impl_CommandOK.j1, spec_CommandOK.j1, isKey_eq]
theorem j0_eq (k : Nat) (q : Bool) (b c d : Int) (s t : ByteArray) : impl_CommandOK.j0 k q b c d s t = spec_CommandOK.j0 k q b c d s t := by
  cases k with
  | zero => rw [impl_CommandOK.j0, spec_CommandOK.j0]
  | succ k => rw [impl_CommandOK.j0, spec_CommandOK.j0]; simp only [j1_eq]
theorem CommandOK_eq (k : Nat) (a b c : Int) (s t : ByteArray) : impl_CommandOK.f k a b c s t = spec_CommandOK.f k a b c s t := by
  unfold impl_CommandOK.f spec_CommandOK.f
  have e : (!decide ((t.size : Int) ≤ 60)) = decide ((t.size : Int) > 60) := by
    rw [Bool.eq_iff_iff]; simp
  simp only [isShort_eq, isValue_eq, Option.bind_some, j0_eq, e]
theorem j1_some (a : Int) (q : Bool) (b c d : Int) (s t : ByteArray) : ∃ r, ∀ k, spec_CommandOK.j1 (k + 1) a q b c d s t = some r := by
  have hk : ∃ u, spec_l02Key.f s = some u := by
    unfold spec_l02Key.f
    split <;> exact ⟨_, rfl⟩
  obtain ⟨u, hu⟩ := hk
  simp only [spec_CommandOK.j1, hu, Option.bind_some]
  repeat' (first | exact ⟨_, fun _ => rfl⟩ | split)
theorem j0_some (q : Bool) (b c d : Int) (s t : ByteArray) : ∃ r, ∀ k, spec_CommandOK.j0 (k + 2) q b c d s t = some r := by
  obtain ⟨r1, h1⟩ := j1_some b (b == 1) b c d s t
  obtain ⟨r2, h2⟩ := j1_some b (b == 2) b c d s t
  simp only [spec_CommandOK.j0, h1, h2]
  repeat' (first | exact ⟨_, fun _ => rfl⟩ | split)
theorem CommandOK_some (a b c : Int) (s t : ByteArray) : ∃ r, Ev (fun k => spec_CommandOK.f k a b c s t) r ∧ Ev (fun k => impl_CommandOK.f k a b c s t) r := by
  have h : ∃ r, ∀ k, spec_CommandOK.f (k + 2) a b c s t = some r := by
    unfold spec_CommandOK.f
    simp only [l01In_eq, Option.bind_some]
    obtain ⟨r1, h1⟩ := j0_some true a b c s t
    obtain ⟨r2, h2⟩ := j0_some (decide ((t.size : Int) > 60)) a b c s t
    simp only [h1, h2]
    repeat' (first | exact ⟨_, fun _ => rfl⟩ | split)
  obtain ⟨r, hr⟩ := h
  have hev : Ev (fun k => spec_CommandOK.f k a b c s t) r := ⟨2, fun k hk => by
    obtain ⟨j, rfl⟩ : ∃ j, k = j + 2 := ⟨k - 2, by omega⟩
    exact hr j⟩
  refine ⟨r, hev, ?_⟩
  simp only [CommandOK_eq]
  exact hev

theorem counted_rel (bs : List Int) (hb : IsBytes bs) (hl : bs.length ≤ 140737488351232) {a : Int} {b : Bool} {s : ByteArray} (h : Rel bs a b s) :
    ∃ v a1 b1 t a2 b2 s2, Ev (fun k => spec_l02Reader_number.f k bs a b 1) (v, a1, b1) ∧ spec_l02Reader_text.f bs a1 b1 v = some (t, a2, b2) ∧ Ev (fun k => impl_reader_counted.f k s b) (t, s2, b2) ∧ Rel bs a2 b2 s2 := by
  obtain ⟨v4, a4, b4, s4, h4, g4, r4, z4, y4⟩ := number_rel bs hb hl h 1 (by omega) (by omega)
  have y4' := y4 rfl
  obtain ⟨t5, a5, b5, s5, h5, g5, r5⟩ := text_rel bs hl r4 v4 z4 (by omega)
  refine ⟨v4, a4, b4, t5, a5, b5, s5, h4, h5, ?_, r5⟩
  unfold impl_reader_counted.f
  refine Ev.bind g4 ?_
  simp only [g5, Option.bind_some]
  exact Ev.now _
theorem read_eq (bs : List Int) (hb : IsBytes bs) (hl : bs.length ≤ 140737488351232) : ∃ r, Ev (fun k => spec_l02Read.f k bs) r ∧ Ev (fun k => impl_readCommand.f k (strOfNums bs)) r := by
  obtain ⟨v1, a1, b1, s1, h1, g1, r1, _, _⟩ := number_rel bs hb hl (Rel.start bs) 1 (by omega) (by omega)
  obtain ⟨v2, a2, b2, s2, h2, g2, r2, _, _⟩ := number_rel bs hb hl r1 2 (by omega) (by omega)
  obtain ⟨v3, a3, b3, s3, h3, g3, r3, _, _⟩ := number_rel bs hb hl r2 2 (by omega) (by omega)
  obtain ⟨v4, a4, b4, t5, a5, b5, s5, h4, h5, g5, r5⟩ := counted_rel bs hb hl r3
  obtain ⟨v6, a6, b6, t7, a7, b7, s7, h6, h7, g7, r7⟩ := counted_rel bs hb hl r5
  obtain ⟨r, hr1, hr2⟩ := CommandOK_some v1 v2 v3 t5 t7
  have hs : ∀ x, Ev (fun k => if b7 = true then some (v1, v2, v3, t5, t7, false) else if a7 = (bs.length : Int) then (spec_CommandOK.f k v1 v2 v3 t5 t7).bind fun t => some (v1, v2, v3, t5, t7, t) else some (v1, v2, v3, t5, t7, false)) x → Ev (fun k => spec_l02Read.f k bs) x := by
    intro x hx
    unfold spec_l02Read.f
    refine Ev.bind h1 (Ev.bind h2 (Ev.bind h3 (Ev.bind h4 ?_)))
    simp only [h5, Option.bind_some]
    refine Ev.bind h6 ?_
    simp only [h7, Option.bind_some]
    exact hx
  have hi : ∀ x, Ev (fun k => if b7 = true then some (v1, v2, v3, t5, t7, false) else if s7.toList = ([] : List UInt8) then (impl_CommandOK.f k v1 v2 v3 t5 t7).bind fun t => some (v1, v2, v3, t5, t7, t) else some (v1, v2, v3, t5, t7, false)) x → Ev (fun k => impl_readCommand.f k (strOfNums bs)) x := by
    intro x hx
    unfold impl_readCommand.f
    exact Ev.bind g1 (Ev.bind g2 (Ev.bind g3 (Ev.bind g5 (Ev.bind g7 hx))))
  have hboth : ∃ x, Ev (fun k => spec_l02Read.f k bs) x ∧ Ev (fun k => impl_readCommand.f k (strOfNums bs)) x := by
    cases b7 with
    | true =>
      refine ⟨(v1, v2, v3, t5, t7, false), hs _ ?_, hi _ ?_⟩ <;> simp only [if_true] <;> exact Ev.now _
    | false =>
      have hends := r7.ends
      by_cases hend : a7 = (bs.length : Int)
      · refine ⟨(v1, v2, v3, t5, t7, r), hs _ ?_, hi _ ?_⟩
        · simp only [Bool.false_eq_true, if_false, if_pos hend]
          exact Ev.bind hr1 (Ev.now _)
        · simp only [Bool.false_eq_true, if_false, if_pos (hends.1 hend)]
          exact Ev.bind hr2 (Ev.now _)
      · refine ⟨(v1, v2, v3, t5, t7, false), hs _ ?_, hi _ ?_⟩
        · simp only [Bool.false_eq_true, if_false, if_neg hend]
          exact Ev.now _
        · simp only [Bool.false_eq_true, if_false, if_neg (fun h => hend (hends.2 h))]
          exact Ev.now _
  exact hboth
end RC
theorem FnExactReadCommand : Go.Proofs.Ytmclmbhdgepjfaa.SFnExactReadCommand.Pure := by
  intro l ⟨hl, hl2, hb⟩
  refine Ev.rounds ?_
  unfold laws_FnExactReadCommand.f
  have hl' : l.length ≤ 140737488351232 := by omega
  by_cases hbig : (l.length : Int) > 1048576
  · simp only [if_pos hbig]
    exact Ev.now _
  · simp only [if_neg hbig]
    have ht := laws_toByteS_ok l (by omega) (by omega)
    have hq : ∃ r, Ev (fun k => spec_ReadCommand.f k l) r ∧ Ev (fun k => impl_ReadCommand.f k l) r := by
      unfold spec_ReadCommand.f impl_ReadCommand.f
      by_cases h : (l.length : Int) > 65536
      · simp only [if_pos h]
        exact ⟨_, Ev.now _, Ev.now _⟩
      · simp only [if_neg h]
        obtain ⟨⟨v1, v2, v3, v4, v5, v6⟩, h1, h2⟩ := RC.read_eq l (isBytes_of_wf hb) hl'
        cases v6 with
        | true => exact ⟨(v1, v2, v3, v4, v5, 0), Ev.bind h1 (Ev.now _), Ev.bind h2 (Ev.now _)⟩
        | false => exact ⟨(0, 0, 0, ⟨#[]⟩, ⟨#[]⟩, 3), Ev.bind h1 (Ev.now _), Ev.bind h2 (Ev.now _)⟩
    obtain ⟨⟨v1, v2, v3, v4, v5, v6⟩, h1, h2⟩ := hq
    refine Ev.bind ht (Ev.bind h1 (Ev.bind ht (Ev.bind h2 ?_)))
    simp only [laws_eqCommand_refl, Option.bind_some, if_true, bne_self_eq_false]
    refine Ev.step (fun k => by rw [laws_FnExactReadCommand.j0]) ?_
    simp only [Bool.false_eq_true, if_false]
    refine Ev.bind ht (Ev.bind (laws_eqByteS_refl l (by omega)) ?_)
    simp only [if_true]
    exact Ev.now _
end Go.Proofs.Ytmclmbhdgepjfaa.Pure
