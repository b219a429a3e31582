import Derived.Test.YtmclmbhdgepjfaaVbSFnExactReadEntry
import Derived.Test.YtmclmbhdgepjfaaVbFamFnExactReadEntry
import Derived.Test.YtmclmbhdgepjfaaVbXpReaders
import Derived.Test.YtmclmbhdgepjfaaVbXpMembers
namespace Go.Proofs.Ytmclmbhdgepjfaa.Pure
open Go.RowKit Go.Proofs.Ytmclmbhdgepjfaa.Q Go.Proofs.YtmclmbhdgepjfaaX Go.Proofs.Ytmclmbhdgepjfaa.FamFnExactReadEntry Go.Proofs.YtmclmbhdgepjfaaW.PrintWords Go.Proofs.YtmclmbhdgepjfaaW.PrintLast
set_option linter.unusedVariables false
set_option linter.unusedSimpArgs false
namespace RE
theorem read_eq (bs : List Int) (hb : IsBytes bs) (hl : bs.length ≤ 65536) : ∃ r, Ev (fun k => spec_l02ReadEntry.f k bs) r ∧ Ev (fun k => impl_readEntry.f k (strOfNums bs)) r := by
 obtain ⟨v1, a1, b1, s1, h1, g1, r1, _, _⟩ := number_rel bs hb (by omega) (Rel.start bs) 4 (by omega) (by omega)
 obtain ⟨v2, a2, b2, s2, h2, g2, r2, _, _⟩ := number_rel bs hb (by omega) r1 1 (by omega) (by omega)
 obtain ⟨v4, a4, b4, t5, a5, b5, s5, h4, h5, g5, r5⟩ := counted_rel bs hb (by omega) r2
 have hsz : t5.size ≤ 65536 := by
  unfold spec_l02Reader_text.f at h5
  split at h5
  ·split at h5
   ·injection h5 with e; injection e with e _; rw [← e]; decide
   ·split at h5
    ·injection h5 with e; injection e with e _; rw [← e]; decide
    ·split at h5
     ·injection h5 with e; injection e with e _; rw [← e]; decide
     ·injection h5 with e
      injection e with e _
      rw [← e, strOf_size, List.length_drop, List.length_take]
      omega
  ·cases h5
 obtain ⟨r, hr1, hr2⟩ := Entry_some v1 v2 t5 hsz
 have hs : ∀ x, Ev (fun k => if b5 = true then some (v1, v2, t5, false) else if a5 = (bs.length : Int) then (spec_l02Entry.f k v1 v2 t5).bind fun t => some (v1, v2, t5, t) else some (v1, v2, t5, false)) x → Ev (fun k => spec_l02ReadEntry.f k bs) x := by
  intro x hx
  unfold spec_l02ReadEntry.f
  refine Ev.bind h1 (Ev.bind h2 (Ev.bind h4 ?_))
  simp only [h5, Option.bind_some]
  exact hx
 have hi : ∀ x, Ev (fun k => if b5 = true then some (v1, v2, t5, false) else if s5.toList = ([] : List UInt8) then (impl_entryOK.f k v1 v2 t5).bind fun t => some (v1, v2, t5, t) else some (v1, v2, t5, false)) x → Ev (fun k => impl_readEntry.f k (strOfNums bs)) x := by
  intro x hx
  unfold impl_readEntry.f
  exact Ev.bind g1 (Ev.bind g2 (Ev.bind g5 hx))
 cases b5 with
 | true =>
  refine ⟨(v1, v2, t5, false), hs _ ?_, hi _ ?_⟩ <;> simp only [if_true] <;> exact Ev.now _
 | false =>
  have hends := r5.ends
  by_cases hend : a5 = (bs.length : Int)
  ·refine ⟨(v1, v2, t5, r), hs _ ?_, hi _ ?_⟩
   ·simp only [Bool.false_eq_true, if_false, if_pos hend]
    exact Ev.bind hr1 (Ev.now _)
   ·simp only [Bool.false_eq_true, if_false, if_pos (hends.1 hend)]
    exact Ev.bind hr2 (Ev.now _)
  ·refine ⟨(v1, v2, t5, false), hs _ ?_, hi _ ?_⟩
   ·simp only [Bool.false_eq_true, if_false, if_neg hend]
    exact Ev.now _
   ·simp only [Bool.false_eq_true, if_false, if_neg (fun h => hend (hends.2 h))]
    exact Ev.now _
end RE
theorem FnExactReadEntry : Go.Proofs.Ytmclmbhdgepjfaa.SFnExactReadEntry.Pure := by
 intro l ⟨hl, hl2, hb⟩
 refine Ev.rounds ?_
 unfold laws_FnExactReadEntry.f
 have hl' : l.length ≤ 140737488351232 := by omega
 by_cases hbig : (l.length : Int) > 1048576
 ·simp only [if_pos hbig]
  exact Ev.now _
 ·simp only [if_neg hbig]
  have ht := laws_toByteS_ok l (by omega) (by omega)
  have hq : ∃ r, Ev (fun k => spec_ReadEntry.f k l) r ∧ Ev (fun k => impl_ReadEntry.f k l) r := by
   unfold spec_ReadEntry.f impl_ReadEntry.f
   by_cases h : (l.length : Int) > 65536
   ·simp only [if_pos h]
    exact ⟨_, Ev.now _, Ev.now _⟩
   ·simp only [if_neg h]
    obtain ⟨⟨v1, v2, v3, v4⟩, h1, h2⟩ := RE.read_eq l (isBytes_of_wf hb) (by omega)
    cases v4 with
    | true => exact ⟨(v1, v2, v3, 0), Ev.bind h1 (Ev.now _), Ev.bind h2 (Ev.now _)⟩
    | false => exact ⟨(0, 0, ⟨#[]⟩, 3), Ev.bind h1 (Ev.now _), Ev.bind h2 (Ev.now _)⟩
  obtain ⟨⟨v1, v2, v3, v4⟩, h1, h2⟩ := hq
  refine Ev.bind ht (Ev.bind h1 (Ev.bind ht (Ev.bind h2 ?_)))
  simp only [laws_eqEntry_refl, Option.bind_some, if_true, bne_self_eq_false]
  refine Ev.step (fun k => by rw [laws_FnExactReadEntry.j0]) ?_
  simp only [Bool.false_eq_true, if_false]
  refine Ev.bind ht (Ev.bind (laws_eqByteS_refl l (by omega)) ?_)
  simp only [if_true]
  exact Ev.now _
end Go.Proofs.Ytmclmbhdgepjfaa.Pure

