/-
  Handing over functions: a literal's captured cells; what is plain. No condition.
-/
import Derived.Test.YtdhifkdijlghdaaGreatDoorACodeD
namespace Go.Proofs.YtdhifkdijlghdaaGreatDoorA
open Go
set_option linter.unusedVariables false
set_option linter.unusedSimpArgs false
variable {P : Program} {E : Env} {M0 : Addr → Prop} {w0 w : World} {g gc : Gh} {H : Nat → Option Ob}
theorem ro_ok (hI : Inv M0 w0 g H w) {id off t : Nat} {cs cs' : List C} {cks : List (Option (Kd × Bool))} {ai : AI} {l : List Nat} (hid : H id = some (.box cs) ∨ ∃ m, H id = some (.cbox m cs))
  (h : exCs true cks ((cs.drop off).take t) H = some ((cs', ai), l)) (ho : ai.own.isEmpty = true) {v : Value} (hv : CR g w (.bptr id off) v) (i nid j : Nat) :
  ∃ c2 L, enter1 i nid j (.ro cs') = some (one1 (.bptr nid 0), [.cbox [i + 4097] c2], ⟨none, []⟩, []) ∧ L ≠ Loc.none ∧ BorOk H ai.bor ∧ ai.own = [] ∧ ai.bx = none ∧ ai.rd = [] ∧
   ∀ g2, CdA g H i { ai with rd := id :: ai.rd } g2 → g2.loc nid = L → CR g2 w (.bptr nid 0) v ∧ ObR g2 w nid (.cbox [i + 4097] c2) := by
 obtain ⟨a, e, rfl⟩ := hv
 obtain ⟨us, hu, hcell⟩ : ∃ us, F2 (CR g w) cs us ∧ ∀ j u, us[j]? = some u → w.cell? (pl a j) = some u := by
  rcases hid with hid | ⟨m, hid⟩
  ·obtain ⟨a', us, e', hu, hc⟩ := hI.ob _ _ hid
   rw [e] at e'; cases e'
   exact ⟨us, hu, fun j u hj => (hc j u hj).1⟩
  ·obtain ⟨a', us, e', hu, hc⟩ := hI.ob _ _ hid
   rw [e] at e'; cases e'
   exact ⟨us, hu, fun j u hj => (hc j u hj).1⟩
 have hu2 := F2.take t (F2.drop off hu)
 obtain ⟨c2, n, ls, og, e1, e2, e3, e4⟩ := exCs_ok hI h hu2 i (nid + 1)
 have hown : ai.own = [] := List.isEmpty_iff.1 ho
 have hn : n = [] := by
  have h1 := e3.ov rfl
  rw [hown] at h1
  have h2 := e3.pc.l2
  rw [h1] at h2
  exact List.eq_nil_of_length_eq_zero h2.symm
 subst hn
 have hls : ls = [] := List.eq_nil_of_length_eq_zero (by rw [e3.pc.l1]; rfl)
 subst hls
 refine ⟨c2, .box (pl a off), by simp [enter1, e1], by simp, e3.bor, hown, e3.bx, e3.rd, fun g2 hc hl => ⟨⟨pl a off, hl, by rw [pl_pl]; rfl⟩, pl a off, _, hl, e4 g2 ⟨hc.m, hc.bor, fun x hx => hc.rd x (List.mem_cons_of_mem _ hx)⟩ (fun q L hL => by simp at hL), fun j u hj => ?_⟩⟩
 have hj1 : us[off + j]? = some u := by
  rw [List.getElem?_take] at hj
  split at hj
  ·rwa [List.getElem?_drop] at hj
  ·simp at hj
 have hj2 : off + j < cs.length := by
  rw [hu.len]
  rcases Nat.lt_or_ge (off + j) us.length with h | h
  ·exact h
  ·rw [List.getElem?_eq_none h] at hj1; simp at hj1
 rw [pl_pl]
 exact ⟨hcell _ u hj1, i + 4097, by simp, hc.rd id (by simp) _ ⟨a, cs, off + j, e, hid, hj2, rfl⟩⟩
theorem noSlC {g g' : Gh} {w w' : World} {c : C} (h : (match c with | .int .. | .bool _ | .str _ => true | _ => false) = true) {v : Value} (hv : CR g w c v) : CR g' w' c v := by
 cases c <;> first | exact hv | simp at h
theorem noSl_cons {x : V1} {r : List V1} (h : noSl (x :: r) = true) : noSl [x] = true ∧ noSl r = true := by
 cases x with
 | one c => cases c <;> first | exact ⟨rfl, h⟩ | simp [noSl] at h
 | agg cs => simp only [noSl, Bool.and_eq_true] at h ⊢; exact ⟨⟨h.1, trivial⟩, h.2⟩
 | vec n k xs => simp only [noSl, Bool.and_eq_true] at h ⊢; exact ⟨⟨h.1, trivial⟩, h.2⟩
 | pbx => simp [noSl] at h
theorem noSlV {g g' : Gh} {w w' : World} {x : V1} (h : noSl [x] = true) {v : Value} (hv : V1R g w x v) : V1R g' w' x v := by
 cases x with
 | one c => exact noSlC (by cases c <;> first | rfl | simp [noSl] at h) hv
 | agg cs =>
  simp only [noSl, Bool.and_eq_true] at h
  obtain ⟨us, e, hu⟩ := hv
  refine ⟨us, e, ?_⟩
  have key : ∀ (cs : List C) (us : List Value), (cs.all fun | .int .. | .bool _ | .str _ => true | _ => false) = true → F2 (CR g w) cs us → F2 (CR g' w') cs us := by
   intro cs
   induction cs with
   | nil => intro us _ h; match us, h with | [], _ => exact trivial
   | cons c cs ih =>
    intro us hc h
    simp only [List.all_cons, Bool.and_eq_true] at hc
    match us, h with
    | u :: us, h => exact ⟨noSlC hc.1 h.1, ih us hc.2 h.2⟩
  exact key cs _ h.1 hu
 | vec n k xs =>
  obtain ⟨us, e, h1, hf, h2⟩ := hv
  exact ⟨us, e, h1, hf, Rows2.mono (fun a b => ER.flat k a b hf) h2⟩
 | pbx => exact hv.elim
theorem noSlVs {g g' : Gh} {w w' : World} : ∀ {vs : List V1} {us : List Value}, noSl vs = true → F2 (V1R g w) vs us → F2 (V1R g' w') vs us
 | [], [], _, _ => trivial
 | x :: vs, u :: us, h, hu => ⟨noSlV (noSl_cons h).1 hu.1, noSlVs (noSl_cons h).2 hu.2⟩
theorem noSlT {g g' : Gh} {w w' : World} {vs : List V1} (h : noSl vs = true) {v : Value} (hv : TVR g w (tvOf vs) v) : TVR g' w' (tvOf vs) v := by
 match vs, h, hv with
 | [], _, ⟨us, e, hu⟩ => exact ⟨us, e, noSlVs (vs := []) rfl hu⟩
 | [x], h, hv => exact noSlV h hv
 | x :: y :: vs, h, ⟨us, e, hu⟩ => exact ⟨us, e, noSlVs h hu⟩
theorem inCs_plain (m nid : Nat) : ∀ (cs : List C), (cs.all fun | .int .. | .bool _ | .str _ => true | _ => false) = true → inCs m nid cs = some (cs, [])
 | [], _ => rfl
 | c :: cs, h => by
  simp only [List.all_cons, Bool.and_eq_true] at h
  have := inCs_plain m nid cs h.2
  cases c <;> first | (simp [inCs, inC, this]; done) | (exact absurd h.1 (by simp))
theorem imCs_plain (tr : List Nat → List Nat) (nid : Nat) : ∀ (cs : List C), (cs.all fun | .int .. | .bool _ | .str _ => true | _ => false) = true → imCs tr nid cs = some (cs, [])
 | [], _ => rfl
 | c :: cs, h => by
  simp only [List.all_cons, Bool.and_eq_true] at h
  have := imCs_plain tr nid cs h.2
  cases c <;> first | (simp [imCs, imC, this]; done) | (exact absurd h.1 (by simp))
theorem enter1_plain {x : V1} (h : noSl [x] = true) (i nid j : Nat) : enter1 i nid j (.v x) = some (.v x, [], ⟨none, []⟩, []) := by
 cases x with
 | one c => cases c <;> first | rfl | simp [noSl] at h
 | agg cs =>
  simp only [noSl, Bool.and_eq_true] at h
  simp [enter1, inCs_plain _ _ cs h.1, ownsAt]
 | vec n k xs =>
  simp only [noSl, Bool.and_eq_true] at h
  simp [enter1, h.1]
 | pbx => simp [noSl] at h
theorem imVs_plain (tr : List Nat → List Nat) (nid : Nat) : ∀ (vs : List V1), noSl vs = true → imVs tr nid vs = some (vs, [])
 | [], _ => rfl
 | x :: vs, h => by
  have h1 := (noSl_cons h).1
  have := imVs_plain tr nid vs (noSl_cons h).2
  have hx : imV tr nid x = some (x, []) := by
   cases x with
   | one c => cases c <;> first | rfl | simp [noSl] at h1
   | agg cs =>
    simp only [noSl, Bool.and_eq_true] at h1
    simp [imV, imCs_plain _ _ cs h1.1]
   | vec n k xs =>
    simp only [noSl, Bool.and_eq_true] at h1
    simp [imV, h1.1]
   | pbx => simp [noSl] at h1
  simp [imVs, hx, this]
theorem enter_plain : ∀ (vs : List V1) (as : List Arg) (i nid j : Nat) {tvs : List TV} {h : List Ob} {xs : List Exit1} {gs : List GV}, noSl vs = true → enter (i + vs.length) nid j as = some (tvs, h, xs, gs) →
  enter i nid j (vs.map .v ++ as) = some (vs.map .v ++ tvs, h, vs.map (fun _ => (⟨none, []⟩ : Exit1)) ++ xs, gs)
 | [], as, i, nid, j, tvs, h, xs, gs, _, he => he
 | x :: vs, as, i, nid, j, tvs, h, xs, gs, hn, he => by
  have := enter_plain vs as (i + 1) nid j (noSl_cons hn).2 (by rw [show i + 1 + vs.length = i + (x :: vs).length by simp; omega]; exact he)
  simp only [List.map_cons, List.cons_append, enter, enter1_plain (noSl_cons hn).1, List.length_nil, Nat.add_zero, this, List.nil_append]
structure InS (g : Gh) (H : Nat → Option Ob) (ai : AI) (S : Addr → Prop) : Prop where
 m : ∀ p, SM g.L ai.m p → S p
 bor : ∀ x ∈ ai.bor, ∀ p, Vis g x p → S p
 rd : ∀ id ∈ ai.rd, ∀ p, Cel g H id p → S p
theorem InS.cd {ai : AI} {S : Addr → Prop} (h : InS g H ai S) {g2 : Gh} (hg : ∀ b p, b ≠ 0 → S p → g2.L b p) (i : Nat) : CdA g H i ai g2 :=
 ⟨fun p hp => hg _ p (by omega) (h.m p hp), fun x hx p hp => hg _ p (by omega) (h.bor x hx p hp), fun x hx p hp => hg _ p (by omega) (h.rd x hx p hp)⟩
theorem exC_none {val : Bool} {c c' : C} {ai : AI} {l : List Nat} (h : exC val none c H = some ((c', ai), l)) : ai.own = [] := by
 cases c with
 | slo id =>
  obtain ⟨o, l1, l2, h1, h2, _⟩ := M.bind_some h
  cases o <;> try exact (M.fail_some h2).elim
  cases M.ret_some h2
  rfl
 | slv m k xs => cases M.ret_some (H := H) (show (M.ret _ : M (C × AI)) H = _ from h); rfl
 | int k n => cases M.ret_some (H := H) (show (M.ret _ : M (C × AI)) H = _ from h); rfl
 | bool b => cases M.ret_some (H := H) (show (M.ret _ : M (C × AI)) H = _ from h); rfl
 | str s => cases M.ret_some (H := H) (show (M.ret _ : M (C × AI)) H = _ from h); rfl
 | _ => exact (M.fail_some (H := H) h).elim
theorem capArgs_ok (hI : Inv M0 w0 g H w) {S : Addr → Prop} : ∀ {cs : List C} {args : List Arg} {ai : AI} {l : List Nat} {us : List Value}, capArgs cs H = some ((args, ai), l) → F2 (CR g w) cs us → InS g H ai S → ∀ (i nid j : Nat),
  ∃ tvs n xs, enter i nid j args = some (tvs, n, xs, []) ∧ (∀ o ∈ n, ∃ m cs, o = .cbox m cs) ∧ ∃ ls : List Loc, ls.length = n.length ∧
   ∀ g2, (∀ b p, b ≠ 0 → S p → g2.L b p) → (∀ (q : Nat) L, ls[q]? = some L → g2.loc (nid + q) = L) → F2 (TVR g2 w) tvs us ∧ ∀ (q : Nat) o, n[q]? = some o → ObR g2 w (nid + q) o
 | [], args, ai, l, us, h, hu, hS, i, nid, j => by
  unfold capArgs at h
  cases M.ret_some (H := H) h
  match us, hu with
  | [], _ => exact ⟨[], [], [], rfl, fun o ho => by simp at ho, [], rfl, fun g2 _ _ => ⟨trivial, fun q o hq => by simp at hq⟩⟩
 | c :: cs, args, ai, l, us, h, hu, hS, i, nid, j => by
  unfold capArgs at h
  obtain ⟨a, l1, l2, h1, h2, _⟩ := M.bind_some h
  obtain ⟨b, l3, l4, h3, h4, _⟩ := M.bind_some h2
  cases M.ret_some h4
  match us, hu with
  | u :: us, hu =>
   have hSa : InS g H a.2 S := ⟨fun p ⟨q, hq, hl⟩ => hS.m p ⟨q, mem_un_l hq, hl⟩, fun x hx => hS.bor x (List.mem_append.2 (.inl hx)), fun x hx => hS.rd x (List.mem_append.2 (.inl hx))⟩
   have hSb : InS g H b.2 S := ⟨fun p ⟨q, hq, hl⟩ => hS.m p ⟨q, mem_un_r hq, hl⟩, fun x hx => hS.bor x (List.mem_append.2 (.inr hx)), fun x hx => hS.rd x (List.mem_append.2 (.inr hx))⟩
   have head : ∃ v n x, enter1 i nid j a.1 = some (v, n, x, []) ∧ (∀ o ∈ n, ∃ m cs, o = .cbox m cs) ∧ ∃ ls : List Loc, ls.length = n.length ∧
     ∀ g2, (∀ b p, b ≠ 0 → S p → g2.L b p) → (∀ (q : Nat) L, ls[q]? = some L → g2.loc (nid + q) = L) → TVR g2 w v u ∧ ∀ (q : Nat) o, n[q]? = some o → ObR g2 w (nid + q) o := by
    unfold capArg at h1
    split at h1
    ·rename_i id off hu
     obtain ⟨o, l5, l6, h5, h6, _⟩ := M.bind_some h1
     have hid := M.get_some h5
     have key : ∀ (cs1 : List C), (H id = some (.box cs1) ∨ ∃ m, H id = some (.cbox m cs1)) → (M.bind (exCs true [] (cs1.drop off)) fun a => if a.2.own.isEmpty then M.ret (Arg.ro a.1, { a.2 with rd := id :: a.2.rd }) else M.fail) H = some (a, l6) → ∃ v n x, enter1 i nid j a.1 = some (v, n, x, []) ∧ (∀ o ∈ n, ∃ m cs, o = .cbox m cs) ∧ ∃ ls : List Loc, ls.length = n.length ∧
       ∀ g2, (∀ b p, b ≠ 0 → S p → g2.L b p) → (∀ (q : Nat) L, ls[q]? = some L → g2.loc (nid + q) = L) → TVR g2 w v u ∧ ∀ (q : Nat) o, n[q]? = some o → ObR g2 w (nid + q) o := by
      intro cs1 hid1 h7
      obtain ⟨z, l7, l8, h8, h9, _⟩ := M.bind_some h7
      split at h9
      ·rename_i ho
       cases M.ret_some (H := H) h9
       obtain ⟨c2, L, e1, e2, _, _, _, _, e3⟩ := ro_ok (t := cs1.length) hI hid1 (by rw [List.take_of_length_le (by simp)]; exact h8) ho hu.1 i nid j
       refine ⟨_, _, _, e1, fun o ho => ?_, [L], rfl, fun g2 hg hl => ?_⟩
       ·simp at ho; exact ⟨_, _, ho⟩
       ·obtain ⟨f1, f2⟩ := e3 g2 (hSa.cd hg i) (by have := hl 0 L rfl; rwa [Nat.add_zero] at this)
        refine ⟨f1, fun q o hq => ?_⟩
        cases q with
        | zero => simp at hq; subst hq; exact f2
        | succ q => simp at hq
      ·exact (M.fail_some (H := H) h9).elim
     cases o <;> try exact (M.fail_some h6).elim
     ·exact key _ (.inl hid) h6
     ·exact key _ (.inr ⟨_, hid⟩) h6
    ·obtain ⟨z, l7, l8, h8, h9, _⟩ := M.bind_some h1
     cases M.ret_some (H := H) h9
     obtain ⟨c2, n, ls, og, e1, e2, e3⟩ := exC_ok hI h8 hu.1 i nid
     have hn : n = [] := by
      have h1 := e2.ov rfl
      rw [exC_none h8] at h1
      have h2 := e2.pc.l2
      rw [h1] at h2
      exact List.eq_nil_of_length_eq_zero h2.symm
     subst hn
     have hls : ls = [] := List.eq_nil_of_length_eq_zero (by rw [e2.pc.l1]; rfl)
     subst hls
     exact ⟨one1 c2, [], _, by simp [enter1, e1]; rfl, fun o ho => by simp at ho, [], rfl, fun g2 hg hl => ⟨e3 g2 (hSa.cd hg i) hl, fun q o hq => by simp at hq⟩⟩
   obtain ⟨v, n, x, e1, e2, ls, e3, e4⟩ := head
   obtain ⟨tvs, n', xs, f1, f2, ls', f3, f4⟩ := capArgs_ok hI h3 hu.2 hSb (i + 1) (nid + n.length) j
   refine ⟨v :: tvs, n ++ n', x :: xs, by simp only [enter, e1, List.length_nil, Nat.add_zero, f1, List.nil_append], fun o ho => (List.mem_append.1 ho).elim (e2 o) (f2 o), ls ++ ls', by simp [e3, f3], fun g2 hg hl => ?_⟩
   obtain ⟨a1, a2⟩ := e4 g2 hg fun q L hL => hl q L (getL' hL)
   obtain ⟨b1, b2⟩ := f4 g2 hg fun q L hL => by
    have := hl (n.length + q) L (getR e3 hL)
    rwa [← Nat.add_assoc] at this
   refine ⟨⟨a1, b1⟩, fun q o hq => ?_⟩
   rcases Nat.lt_or_ge q n.length with hlt | hge
   ·rw [List.getElem?_append_left hlt] at hq
    exact a2 q o hq
   ·rw [List.getElem?_append_right hge] at hq
    have := b2 _ o hq
    rwa [show nid + n.length + (q - n.length) = nid + q by omega] at this
end Go.Proofs.YtdhifkdijlghdaaGreatDoorA
