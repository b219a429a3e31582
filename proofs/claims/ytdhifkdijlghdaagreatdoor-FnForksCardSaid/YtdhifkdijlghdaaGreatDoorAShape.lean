/-
  Shapes: what a state, an argument or a result is but for its numbers, texts and rows; a function's contract out of its run at a shape. No condition.
-/
import Derived.Test.YtdhifkdijlghdaaGreatDoorACodeJ
namespace Go.Proofs.YtdhifkdijlghdaaGreatDoorA
open Go
set_option linter.unusedVariables false
set_option linter.unusedSimpArgs false
variable {P : Program} {E : Env}
inductive STV where
 | v (x : SV) | tup (xs : List SV)
@[reducible] def STV.T : STV → Type
 | .v x => x.T
 | .tup xs => TL SV.T xs
def STV.enc : (s : STV) → s.T → TV
 | .v s, t => .v (s.enc t)
 | .tup ss, t => .tup (encL SV.enc ss t)
def STV.dec : (s : STV) → TV → Option s.T
 | .v s, .v x => s.dec x
 | .tup ss, .tup xs => decL SV.dec ss xs
 | _, _ => none
theorem STV.dec_some {s : STV} {c : TV} {t : s.T} (h : s.dec c = some t) : c = s.enc t := by
 cases s <;> cases c <;> simp only [STV.dec, reduceCtorEq] at h
 ·simp only [STV.enc]; rw [SV.dec_some h]
 ·simp only [STV.enc]; rw [SVL_some h]
theorem STVL_some {ss : List STV} {cs} {t : TL STV.T ss} (h : decL STV.dec ss cs = some t) : cs = encL STV.enc ss t := decL_some (enc := STV.enc) (dec := STV.dec) (fun _ _ _ => STV.dec_some) h
inductive SO where
 | box (cs : List SC) | arr (k : Kd) (m : List Nat) (x : Bool) | vec (n : Nat) (k : Kd) | clo (cs : List SC) | cbox (m : List Nat) (cs : List SC) | dead
@[reducible] def SO.T : SO → Type
 | .box cs => TL SC.T cs
 | .arr k _ _ => List (El k)
 | .vec _ k => List (El k)
 | .clo cs => TL SC.T cs
 | .cbox _ cs => TL SC.T cs
 | .dead => Unit
def SO.enc : (s : SO) → s.T → Ob
 | .box cs, t => .box (encL SC.enc cs t)
 | .arr k m x, xs => .arr k xs m x
 | .vec n k, xs => .vec n k xs
 | .clo cs, t => .clo (encL SC.enc cs t)
 | .cbox m cs, t => .cbox m (encL SC.enc cs t)
 | .dead, _ => .dead
def SO.dec : (s : SO) → Ob → Option s.T
 | .box ss, .box cs => decL SC.dec ss cs
 | .arr k m x, .arr k' xs m' x' => if m' = m ∧ x' = x then castL k' k xs else none
 | .vec n k, .vec n' k' xs => if n' = n then castL k' k xs else none
 | .clo ss, .clo cs => decL SC.dec ss cs
 | .cbox m ss, .cbox m' cs => if m' = m then decL SC.dec ss cs else none
 | .dead, .dead => some ()
 | _, _ => none
theorem SO.dec_some {s : SO} {c : Ob} {t : s.T} (h : s.dec c = some t) : c = s.enc t := by
 cases s <;> cases c <;> simp only [SO.dec, reduceCtorEq] at h
 ·simp only [SO.enc]; rw [SCL_some h]
 ·split at h
  ·rename_i e; obtain ⟨rfl, rfl⟩ := e; obtain ⟨e, rfl⟩ := castL_some h; subst e; rfl
  ·simp at h
 ·split at h
  ·rename_i e; subst e; obtain ⟨e, rfl⟩ := castL_some h; subst e; rfl
  ·simp at h
 ·simp only [SO.enc]; rw [SCL_some h]
 ·split at h
  ·rename_i e; subst e; simp only [SO.enc]; rw [SCL_some h]
  ·simp at h
 ·rfl
theorem SOL_some {ss : List SO} {cs} {t : TL SO.T ss} (h : decL SO.dec ss cs = some t) : cs = encL SO.enc ss t := decL_some (enc := SO.enc) (dec := SO.dec) (fun _ _ _ => SO.dec_some) h
structure SK where
 vals : List STV
 heap : List SO
@[reducible] def SK.T (s : SK) : Type := TL STV.T s.vals × TL SO.T s.heap
def SK.enc (s : SK) (t : s.T) : Kp := ⟨encL STV.enc s.vals t.1, encL SO.enc s.heap t.2⟩
def SK.dec (s : SK) (kp : Kp) : Option s.T := match decL STV.dec s.vals kp.vals with
 | none => none
 | some x => match decL SO.dec s.heap kp.heap with
  | none => none
  | some y => some (x, y)
theorem SK.dec_some {s : SK} {kp : Kp} {t : s.T} (h : s.dec kp = some t) : kp = s.enc t := by
 unfold SK.dec at h
 cases h1 : decL STV.dec s.vals kp.vals with
 | none => rw [h1] at h; simp at h
 | some x =>
  cases h2 : decL SO.dec s.heap kp.heap with
  | none => rw [h1, h2] at h; simp at h
  | some y =>
   rw [h1, h2] at h
   cases h
   unfold SK.enc
   rw [← STVL_some h1, ← SOL_some h2]
inductive SA where
 | v (x : SV) | ptr (cs : List SC) | ro (cs : List SC) | fn (ins outs : List SV)
@[reducible] def SA.T : SA → Type
 | .v x => x.T
 | .ptr cs => TL SC.T cs
 | .ro cs => TL SC.T cs
 | .fn ins outs => TL SV.T ins → Option (TL SV.T outs)
def fnE (ins outs : List SV) (p : TL SV.T ins → Option (TL SV.T outs)) : GV := ⟨outs, fun vs => (decL SV.dec ins vs).bind p⟩
def fnP (ins outs : List SV) (g : GV) : TL SV.T ins → Option (TL SV.T outs) := fun t => if h : g.outs = outs then h ▸ g.sem (encL SV.enc ins t) else none
def SA.enc : (s : SA) → s.T → Arg
 | .v x, t => .v (x.enc t)
 | .ptr cs, t => .ptr (encL SC.enc cs t)
 | .ro cs, t => .ro (encL SC.enc cs t)
 | .fn ins outs, p => .fn (fnE ins outs p)
def SA.dec : (s : SA) → Arg → Option s.T
 | .v s, .v x => s.dec x
 | .ptr ss, .ptr cs => decL SC.dec ss cs
 | .ro ss, .ro cs => decL SC.dec ss cs
 | .fn ins outs, .fn g => some (fnP ins outs g)
 | _, _ => none
def GvLe (g g' : GV) : Prop := ∀ vs rs, g.sem vs = some rs → ∃ rs', g'.sem vs = some rs' ∧ g'.enc rs' = g.enc rs
def ArgLe : Arg → Arg → Prop
 | .fn g, .fn g' => GvLe g g'
 | a, b => a = b
theorem SA.dec_some {s : SA} {a : Arg} {t : s.T} (h : s.dec a = some t) : ArgLe (s.enc t) a := by
 cases s <;> cases a <;> simp only [SA.dec, reduceCtorEq] at h
 ·simp only [SA.enc, ArgLe]; rw [SV.dec_some h]
 ·simp only [SA.enc, ArgLe]; rw [SCL_some h]
 ·simp only [SA.enc, ArgLe]; rw [SCL_some h]
 ·rename_i ins outs g
  cases h
  intro vs rs hv
  obtain ⟨x, h1, h2⟩ := Option.bind_eq_some_iff.1 hv
  rw [SVL_some h1]
  obtain ⟨o, s⟩ := g
  simp only [fnP] at h2
  split at h2
  ·rename_i e
   have e : o = outs := e
   subst e
   exact ⟨rs, h2, rfl⟩
  ·simp at h2
def fnsOf : List Arg → List GV
 | [] => []
 | .fn g :: r => g :: fnsOf r
 | _ :: r => fnsOf r
theorem enter_fns : ∀ {i nid j : Nat} {as : List Arg} {vs : List TV} {h : List Ob} {xs : List Exit1} {gs : List GV}, enter i nid j as = some (vs, h, xs, gs) → gs = fnsOf as
 | i, nid, j, [], vs, h, xs, gs, he => by simp [enter] at he; exact he.2.2.2
 | i, nid, j, a :: as, vs, h, xs, gs, he => by
  unfold enter at he
  split at he
  ·simp at he
  ·rename_i v n x0 g0 hh
   cases hr : enter (i + 1) (nid + n.length) (j + g0.length) as with
   | none => rw [hr] at he; simp at he
   | some y =>
    obtain ⟨vs', n', xs', gs'⟩ := y
    rw [hr] at he
    simp only [Option.some.injEq, Prod.mk.injEq] at he
    obtain ⟨_, _, _, rfl⟩ := he
    rw [enter_fns hr]
    unfold enter1 at hh
    cases a with
    | v y =>
     cases y with
     | one c => obtain ⟨_, _, h2⟩ := Option.map_eq_some_iff.1 hh; simp only [Prod.mk.injEq] at h2; obtain ⟨_, _, _, rfl⟩ := h2; rfl
     | agg cs => obtain ⟨_, _, h2⟩ := Option.map_eq_some_iff.1 hh; simp only [Prod.mk.injEq] at h2; obtain ⟨_, _, _, rfl⟩ := h2; rfl
     | vec n0 k0 xs0 =>
      simp only at hh
      split at hh
      ·simp only [Option.some.injEq, Prod.mk.injEq] at hh; obtain ⟨_, _, _, rfl⟩ := hh; rfl
      ·simp at hh
     | pbx cs => simp at hh
    | ptr cs => obtain ⟨_, _, h2⟩ := Option.map_eq_some_iff.1 hh; simp only [Prod.mk.injEq] at h2; obtain ⟨_, _, _, rfl⟩ := h2; rfl
    | ro cs =>
     obtain ⟨_, _, h2⟩ := Option.bind_eq_some_iff.1 hh
     simp only at h2
     split at h2
     ·simp only [Option.some.injEq, Prod.mk.injEq] at h2; obtain ⟨_, _, _, rfl⟩ := h2; rfl
     ·simp at h2
    | fn g => simp only [Option.some.injEq, Prod.mk.injEq] at hh; obtain ⟨_, _, _, rfl⟩ := hh; rfl
theorem enter_le : ∀ {as bs : List Arg}, F2 ArgLe as bs → ∀ {i nid j : Nat} {vs : List TV} {h : List Ob} {xs : List Exit1} {gs : List GV}, enter i nid j bs = some (vs, h, xs, gs) →
  enter i nid j as = some (vs, h, xs, fnsOf as) ∧ (fnsOf as).length = gs.length ∧ ∀ (k : Nat) (g' : GV), (fnsOf as)[k]? = some g' → ∃ g, gs[k]? = some g ∧ GvLe g' g
 | [], [], _, i, nid, j, vs, h, xs, gs, he => by simp [enter] at he; obtain ⟨rfl, rfl, rfl, rfl⟩ := he; simp [enter, fnsOf]
 | a :: as, b :: bs, hle, i, nid, j, vs, h, xs, gs, he => by
  have hfn := enter_fns he
  unfold enter at he
  split at he
  ·simp at he
  ·rename_i v n x0 g0 hh
   cases hr : enter (i + 1) (nid + n.length) (j + g0.length) bs with
   | none => rw [hr] at he; simp at he
   | some y =>
    obtain ⟨vs', n', xs', gs'⟩ := y
    rw [hr] at he
    simp only [Option.some.injEq, Prod.mk.injEq] at he
    obtain ⟨rfl, rfl, rfl, rfl⟩ := he
    obtain ⟨h1, h2, h3⟩ := enter_le hle.2 hr
    have key : a = b ∨ ∃ g g', a = .fn g' ∧ b = .fn g ∧ GvLe g' g := by
     have := hle.1
     cases a <;> cases b <;> simp only [ArgLe, reduceCtorEq] at this <;> first | exact .inl this | exact .inr ⟨_, _, rfl, rfl, this⟩
    rcases key with rfl | ⟨g, g', rfl, rfl, hg⟩
    ·have hg0 : fnsOf (a :: as) = g0 ++ fnsOf as := by
      have e1 := enter_fns hr
      have e2 : g0 ++ gs' = fnsOf (a :: bs) := hfn
      rw [e1] at e2
      cases a <;> simp only [fnsOf] at e2 ⊢
      case fn g1 =>
       cases g0 with
       | nil =>
        unfold enter1 at hh
        simp at hh
       | cons y ys =>
        unfold enter1 at hh
        simp at hh
        obtain ⟨_, _, _, rfl, rfl⟩ := hh
        rfl
      all_goals
       have : g0 = [] := by
        have := congrArg List.length e2
        simp at this
        exact this
       rw [this]; rfl
     refine ⟨?_, ?_, ?_⟩
     ·unfold enter
      rw [hh]
      dsimp only
      rw [h1, hg0]
     ·rw [hg0]; simp [h2]
     ·intro k g' hk
      rw [hg0] at hk
      rcases Nat.lt_or_ge k g0.length with hlt | hge
      ·rw [List.getElem?_append_left hlt] at hk
       exact ⟨g', by rw [List.getElem?_append_left hlt]; exact hk, fun _ _ h => ⟨_, h, rfl⟩⟩
      ·rw [List.getElem?_append_right hge] at hk
       obtain ⟨g, h4, h5⟩ := h3 _ _ hk
       exact ⟨g, by rw [List.getElem?_append_right hge]; exact h4, h5⟩
    ·simp only [enter1, Option.some.injEq, Prod.mk.injEq] at hh
     obtain ⟨rfl, rfl, rfl, rfl⟩ := hh
     refine ⟨?_, ?_, ?_⟩
     ·unfold enter
      simp only [enter1]
      have h1' : enter (i + 1) (nid + ([] : List Ob).length) (j + [g'].length) as = some (vs', n', xs', fnsOf as) := h1
      rw [h1']
      rfl
     ·simp [fnsOf, h2]
     ·intro k gk hk
      cases k with
      | zero => simp [fnsOf] at hk; subst hk; exact ⟨g, by simp, hg⟩
      | succ k =>
       simp only [fnsOf, List.getElem?_cons_succ] at hk
       obtain ⟨g1, h4, h5⟩ := h3 _ _ hk
       exact ⟨g1, by simpa using h4, h5⟩
 | [], b :: bs, h, _, _, _, _, _, _, _, _ => h.elim
 | a :: as, [], h, _, _, _, _, _, _, _, _ => h.elim
theorem decL_le : ∀ {ss : List SA} {as : List Arg} {t : TL SA.T ss}, decL SA.dec ss as = some t → F2 ArgLe (encL SA.enc ss t) as
 | [], [], t, h => trivial
 | a :: as, b :: bs, t, h => by
  simp only [decL] at h
  cases h1 : SA.dec a b with
  | none => rw [h1] at h; simp at h
  | some x =>
   cases h2 : decL SA.dec as bs with
   | none => rw [h1, h2] at h; simp at h
   | some y =>
    rw [h1, h2] at h
    cases h
    exact ⟨SA.dec_some h1, decL_le h2⟩
 | [], b :: bs, t, h => by simp [decL] at h
 | a :: as, [], t, h => by simp [decL] at h
theorem FOk.of_le {f : Nat} {A : Type} {sem : List Arg → Option A} {out : A → CRes} {ps ps' : List PS} {sh : List SA} {F : TL SA.T sh → Option A}
  (h : FOk P f ⟨A, sem, out, ps⟩) (hs : ∀ t, F t = none ∨ sem (encL SA.enc sh t) = F t) : FOk P f ⟨A, fun args => (decL SA.dec sh args).bind F, out, ps'⟩ := by
 refine ⟨h.1, fun args a ha tvs hp xs gs he w g M0 us hI hl hfv hus => ?_⟩
 obtain ⟨t, h1, h2⟩ := Option.bind_eq_some_iff.1 ha
 obtain ⟨e1, e2, e3⟩ := enter_le (decL_le h1) he
 rcases hs t with h0 | h0
 ·rw [h0] at h2; simp at h2
 ·refine h.2 _ a (h0.trans h2) tvs hp xs _ e1 w g M0 us hI hl ⟨hfv.tab, ?_⟩ hus
  intro j gf hj
  obtain ⟨gf', h4, h5⟩ := e3 j gf hj
  obtain ⟨f', caps, k1, k2, k3⟩ := hfv.fn j gf' h4
  refine ⟨f', caps, k1, k2, fun w' h6 h7 h6z vs rs hv hn us hus => ?_⟩
  obtain ⟨rs', hv', he'⟩ := h5 vs rs hv
  have := k3 w' h6 h7 h6z vs rs' hv' hn us hus
  rw [he'] at this
  exact this
def FIs (sh : List SA) (A : Type) (F : TL SA.T sh → Option A) (out : A → CRes) (ps : List PS) : FI := ⟨A, fun args => (decL SA.dec sh args).bind F, out, ps⟩
open Classical in
theorem fokS {f : Nat} {fn : Func} {c : Code} {sh : List SA} {A : Type} {F : TL SA.T sh → Option A} {out : A → CRes} {ps : List PS} {wy : Way} {h : List GV → Hint}
  {G : TL SA.T sh → (A → Option CRes) → Option CRes} (hm : P.follows .mixedOrders = true) (hE : EOk P E)
  (hf : P.funcs[f]? = some fn) (hn : (fn.name == "runtime.NumGoroutine") = false) (hb : fn.body = some c) (hnt : E.nt ≤ fn.ntmps)
  (hh : ∀ t, HintOk P { E with gv := fnsOf (encL SA.enc sh t) } c (h (fnsOf (encL SA.enc sh t))))
  (hnat : ∀ t g, G t g = (F t).bind g) (hr : ∀ t, run E wy fn.results.toList c h (encL SA.enc sh t) = G t (fun a => some (out a))) : FOk P f (FIs sh A F out ps) := by
 have main : FOk P f ⟨CRes, fun args => run E wy fn.results.toList c h args |>.bind fun r => if ∃ t, args = encL SA.enc sh t then some r else none, id, ps⟩ := by
  refine fok (wy := wy) (h := h) hm hE hf hn hb hnt ?_ ?_
  ·intro args a tvs hp xs gs hs he
   obtain ⟨r, _, h2⟩ := Option.bind_eq_some_iff.1 hs
   split at h2
   ·rename_i ht
    obtain ⟨t, rfl⟩ := ht
    rw [enter_fns he]
    exact hh t
   ·simp at h2
  ·intro args a hs
   obtain ⟨r, h1, h2⟩ := Option.bind_eq_some_iff.1 hs
   split at h2
   ·cases h2; exact h1
   ·simp at h2
 refine ⟨main.1, fun args a ha tvs hp xs gs he w g M0 us hI hl hfv hus => ?_⟩
 obtain ⟨t, h1, h2⟩ := Option.bind_eq_some_iff.1 ha
 obtain ⟨e1, e2, e3⟩ := enter_le (decL_le h1) he
 have hsem : (run E wy fn.results.toList c h (encL SA.enc sh t)).bind (fun r => if ∃ t', encL SA.enc sh t = encL SA.enc sh t' then some r else none) = some (out a) := by
  rw [hr t, hnat, h2]
  exact if_pos ⟨t, rfl⟩
 refine main.2 _ (out a) hsem tvs hp xs _ e1 w g M0 us hI hl ⟨hfv.tab, ?_⟩ hus
 intro j gf hj
 obtain ⟨gf', h4, h5⟩ := e3 j gf hj
 obtain ⟨f', caps, k1, k2, k3⟩ := hfv.fn j gf' h4
 refine ⟨f', caps, k1, k2, fun w' h6 h7 h6z vs rs hv hn us hus => ?_⟩
 obtain ⟨rs', hv', he'⟩ := h5 vs rs hv
 have := k3 w' h6 h7 h6z vs rs' hv' hn us hus
 rw [he'] at this
 exact this
def sumF (sh : SK) (F : (R : Type) → sh.T → (Ex → Kp → Option R) → Option R) : (R : Type) → Kp → (Ex → Kp → Option R) → Option R := fun R kp K => (sh.dec kp).bind fun t => F R t K
theorem sumS (hO : OpsOk P E) (hm : P.follows .mixedOrders = true) {c : Code} {kin : List CastAt × List Nat} {kout : Ex → List CastAt × List Nat} {sh : SK} {F : (R : Type) → sh.T → (Ex → Kp → Option R) → Option R} {h : Hint} (hh : HintOk P E c h)
  (hs : ∀ (R : Type) (t : sh.T) (K : Ex → Kp → Option R), exec E c h ((sh.enc t).st kin.2) (keepX E kout K) = F R t K) : SumOk P E c ⟨kin, sumF sh F, kout⟩ := by
 refine sum_code hO hm hh fun R kp K r hx => ?_
 obtain ⟨t, h1, h2⟩ := Option.bind_eq_some_iff.1 hx
 rw [SK.dec_some h1]
 exact (hs R t K).trans h2
theorem loopS (hO : OpsOk P E) (hm : P.follows .mixedOrders = true) {c : Code} {kin : List CastAt × List Nat} {kout : Ex → List CastAt × List Nat} {sh : SK} {F : Nat → (R : Type) → sh.T → (Ex → Kp → Option R) → Option R} {h : Hint} (hh : HintOk P E c h)
  (h0 : ∀ (R : Type) (t : sh.T) (K : Ex → Kp → Option R), F 0 R t K = none)
  (hs : ∀ (k : Nat) (R : Type) (t : sh.T) (K : Ex → Kp → Option R), exec E c h ((sh.enc t).st kin.2) (roundX E kin kout (sumF sh (F k) R) K) = F (k + 1) R t K) (k : Nat) : SumOk P E (.loop c) ⟨kin, sumF sh (F k), kout⟩ := by
 refine sum_loop (f := fun k => sumF sh (F k)) hO hm hh ?_ (fun k R kp K r hx => ?_) k
 ·intro R kp K
  unfold sumF
  cases sh.dec kp with
  | none => rfl
  | some t => exact h0 R t K
 ·obtain ⟨t, h1, h2⟩ := Option.bind_eq_some_iff.1 hx
  rw [SK.dec_some h1]
  exact (hs k R t K).trans h2
end Go.Proofs.YtdhifkdijlghdaaGreatDoorA
