/-
  Functions of Go's library by their contracts: plain arguments, plain results. No condition.
-/
import Derived.Test.YtdhifkdijlghdaaGreatDoorAWord
namespace Go.Proofs.YtdhifkdijlghdaaGreatDoorA
open Go
set_option linter.unusedVariables false
set_option linter.unusedSimpArgs false
def SC.pln : SC → Bool
 | .int _ => true
 | .bool => true
 | .str => true
 | _ => false
def SA.pln : SA → Bool
 | .v (.one c) => c.pln
 | _ => false
def C.pln : C → Bool
 | .int _ _ => true
 | .bool _ => true
 | .str _ => true
 | _ => false
def C.val : C → Value
 | .int k n => .int k n
 | .bool b => .bool b
 | .str s => .string s
 | _ => .tuple #[]
def Arg.val : Arg → Value
 | .v (.one c) => c.val
 | _ => .tuple #[]
def retV : List C → Value
 | [c] => c.val
 | cs => .tuple (cs.map C.val).toArray
theorem CR.val {g : Gh} {w : World} {c : C} (hp : c.pln = true) : CR g w c c.val := by
 cases c <;> first | rfl | (simp [C.pln] at hp)
theorem CR.val_eq {g : Gh} {w : World} {c : C} (hp : c.pln = true) {v : Value} (h : CR g w c v) : v = c.val := by
 cases c <;> first | exact h | (simp [C.pln] at hp)
theorem inC_plain {c : C} (m nid : Nat) (hp : c.pln = true) : inC m nid c = some (c, []) := by
 cases c <;> first | rfl | (simp [C.pln] at hp)
theorem imC_plain {c : C} (tr : List Nat → List Nat) (nid : Nat) (hp : c.pln = true) : imC tr nid c = some (c, []) := by
 cases c <;> first | rfl | (simp [C.pln] at hp)
theorem SC.enc_plain {s : SC} (t : s.T) (h : s.pln = true) : (s.enc t).pln = true := by
 cases s <;> first | rfl | (simp [SC.pln] at h)
theorem SC.dec_enc_plain {s : SC} {c : C} {t : s.T} (h : s.pln = true) (hd : s.dec c = some t) : c = s.enc t := by
 cases s <;> first | (simp [SC.pln] at h; done) | skip
 ·rename_i k
  cases c <;> simp only [SC.dec, reduceCtorEq] at hd
  split at hd
  ·rename_i e
   obtain rfl := Option.some.inj hd
   subst e
   rfl
  ·cases hd
 ·cases c <;> simp only [SC.dec, reduceCtorEq] at hd
  obtain rfl := Option.some.inj hd
  rfl
 ·cases c <;> simp only [SC.dec, reduceCtorEq] at hd
  obtain rfl := Option.some.inj hd
  rfl
theorem pln_args : ∀ {sh : List SA} {args : List Arg} {t : TL SA.T sh}, sh.all SA.pln = true → decL SA.dec sh args = some t → args = encL SA.enc sh t
 | [], [], t, _, _ => rfl
 | [], _ :: _, t, _, h => by simp [decL] at h
 | _ :: _, [], t, _, h => by simp [decL] at h
 | s :: sh, a :: args, t, hs, h => by
  rw [List.all_cons, Bool.and_eq_true] at hs
  simp only [decL] at h
  cases h1 : s.dec a with
  | none => simp [h1] at h
  | some t1 =>
   cases h2 : decL SA.dec sh args with
   | none => simp [h1, h2] at h
   | some t2 =>
    simp [h1, h2] at h
    subst h
    show a :: args = s.enc t1 :: encL SA.enc sh t2
    rw [pln_args hs.2 h2]
    congr 1
    match s, hs.1, t1, h1 with
    | .v (.one c), hc, t1, h1 =>
     match a, h1 with
     | .v (.one x), h1 =>
      show Arg.v (.one x) = Arg.v (.one (c.enc t1))
      rw [SC.dec_enc_plain hc h1]
theorem enter_pln : ∀ {sh : List SA} (t : TL SA.T sh) (i nid j : Nat), sh.all SA.pln = true → ∃ tvs, enter i nid j (encL SA.enc sh t) = some (tvs, [], sh.map (fun _ => ⟨none, []⟩), []) ∧ ∀ (g : Gh) (w : World) us, F2 (TVR g w) tvs us → us = (encL SA.enc sh t).map Arg.val
 | [], t, i, nid, j, _ => ⟨[], rfl, fun g w us h => by cases us with
   | nil => rfl
   | cons u us => cases h⟩
 | s :: sh, t, i, nid, j, hs => by
  rw [List.all_cons, Bool.and_eq_true] at hs
  obtain ⟨tvs, h1, h2⟩ := enter_pln (sh := sh) t.2 (i + 1) nid j hs.2
  match s, hs.1, t, h1, h2 with
  | .v (.one c), hc, t, h1, h2 =>
   have hp : (c.enc t.1).pln = true := SC.enc_plain t.1 hc
   refine ⟨one1 (c.enc t.1) :: tvs, ?_, fun g w us h => ?_⟩
   ·show (match enter1 i nid j (.v (.one (c.enc t.1))) with
     | none => none
     | some (v, n, x, g) => match enter (i + 1) (nid + n.length) (j + g.length) (encL SA.enc sh t.2) with
      | none => none
      | some (vs, n', xs, gs) => some (v :: vs, n ++ n', x :: xs, g ++ gs)) = _
    have e1 : enter1 i nid j (.v (.one (c.enc t.1))) = some (one1 (c.enc t.1), [], ⟨none, []⟩, []) := by
     simp only [enter1, inC_plain _ _ hp, Option.map_some]
     rfl
    rw [e1]
    simp only [List.length_nil, Nat.add_zero]
    rw [h1]
    rfl
   ·cases us with
    | nil => cases h
    | cons u us =>
     show u :: us = (c.enc t.1).val :: (encL SA.enc sh t.2).map Arg.val
     rw [← h2 g w us h.2, ← CR.val_eq hp h.1]
theorem imVs_pln (tr : List Nat → List Nat) : ∀ (cs : List C) (nid : Nat), cs.all C.pln = true → imVs tr nid (cs.map .one) = some (cs.map .one, [])
 | [], nid, _ => rfl
 | c :: cs, nid, h => by
  rw [List.all_cons, Bool.and_eq_true] at h
  simp only [List.map_cons, imVs, imV, imC_plain tr nid h.1, Option.map_some, List.length_nil, Nat.add_zero, imVs_pln tr cs nid h.2, List.append_nil]
theorem backX_pln : ∀ (sh : List SA) (nid : Nat), backX (sh.map fun _ => ⟨none, []⟩) (sh.map fun _ => []) nid = some ([], [])
 | [], nid => rfl
 | s :: sh, nid => by
  simp only [List.map_cons, backX, imCs, Option.bind_some, List.length_nil, and_self, or_self, if_true, List.zip_nil_left, Nat.add_zero, backX_pln sh nid, List.append_nil]
theorem F2_val {g : Gh} {w : World} : ∀ (cs : List C), cs.all C.pln = true → F2 (V1R g w) (cs.map .one) (cs.map C.val)
 | [], _ => trivial
 | c :: cs, h => by
  rw [List.all_cons, Bool.and_eq_true] at h
  exact ⟨CR.val h.1, F2_val cs h.2⟩
theorem Keeps.of_below {w w' : World} (h : RowKit.Below w.heap.size w w') (M : Addr → Prop) : Keeps M w w' := ⟨h.os, h.tape, h.output, h.size, fun b hb => .inl (h.block b hb)⟩
theorem fok_ext {P : Program} {f : Nat} {sh : List SA} {A : Type} {F : TL SA.T sh → Option A} {out : A → CRes} {ps : List PS} (hb : HasBody P f) (hsh : sh.all SA.pln = true) (cs : A → List C)
  (hout : ∀ a, out a = ⟨(cs a).map .one, sh.map fun _ => []⟩) (hp : ∀ a, (cs a).all C.pln = true)
  (hc : ∀ t a, F t = some a → ∀ w, Calls P f ((encL SA.enc sh t).map Arg.val).toArray w fun e w' => e = .returned (retV (cs a)) ∧ RowKit.Below w.heap.size w w') : FOk P f (FIs sh A F out ps) := by
 refine ⟨hb, fun args a ha tvs h xs gs he w g M0 us hI hl hfv hus => ?_⟩
 obtain ⟨t, h1, h2⟩ := Option.bind_eq_some_iff.1 ha
 obtain rfl := pln_args hsh h1
 obtain ⟨tvs', e1, e2⟩ := enter_pln t 0 0 0 hsh
 rw [e1] at he
 simp only [Option.some.injEq, Prod.mk.injEq] at he
 obtain ⟨rfl, rfl, rfl, rfl⟩ := he
 obtain rfl := e2 g w us hus
 refine (hc t a h2 w).mono ?_
 rintro e w' ⟨rfl, hbel⟩
 obtain ⟨hI', hcell⟩ := hI.frame (w' := w') (g' := g) (H' := fun i => ([] : List Ob)[i]?) (fun _ => False) (fun _ _ => rfl) (fun _ _ hd => hd.elim) (fun _ _ _ _ _ _ hd => hd.elim) (fun b p h => .inl h) (Keeps.of_below hbel _) (Ext.refl g) hI.no
 refine ⟨retV (cs a), (cs a).map .one, [], [], g, rfl, ?_, hI', ?_, fun i j h => by simp at h, fun b p _ h => h, hcell⟩
 ·unfold canon
  show (match imVs id 0 (out a).vals with
   | none => none
   | some (vs, n) => match backX (sh.map fun _ => ⟨none, []⟩) (out a).ios n.length with
    | none => none
    | some (ps, n') => some (vs, n ++ n', ps)) = _
  rw [hout a]
  dsimp only
  rw [imVs_pln id (cs a) 0 (hp a)]
  dsimp only
  rw [backX_pln]
  rfl
 ·have := F2_val (g := g) (w := w') (cs a) (hp a)
  have h3 := hp a
  match hcs : cs a with
  | [] => rw [hcs] at this; exact ⟨_, rfl, this⟩
  | [c] => rw [hcs] at this; exact this.1
  | c :: d :: r => rw [hcs] at this; exact ⟨_, rfl, this⟩
theorem fok_extT {P : Program} {f : Nat} {sh : List SA} {A : Type} {F : TL SA.T sh → Option A} {out : A → CRes} {ps : List PS} (hb : HasBody P f) (hsh : sh.all SA.pln = true) (cs : A → List C)
  (hout : ∀ a, out a = ⟨(cs a).map .one, sh.map fun _ => []⟩) (hp : ∀ a, (cs a).all C.pln = true)
  (hc : ∀ t a, F t = some a → ∀ w, Tab (fun _ => True) w → TabZ w → Calls P f ((encL SA.enc sh t).map Arg.val).toArray w fun e w' => e = .returned (retV (cs a)) ∧ RowKit.Below w.heap.size w w') : FOk P f (FIs sh A F out ps) := by
 refine ⟨hb, fun args a ha tvs h xs gs he w g M0 us hI hl hfv hus => ?_⟩
 obtain ⟨t, h1, h2⟩ := Option.bind_eq_some_iff.1 ha
 obtain rfl := pln_args hsh h1
 obtain ⟨tvs', e1, e2⟩ := enter_pln t 0 0 0 hsh
 rw [e1] at he
 simp only [Option.some.injEq, Prod.mk.injEq] at he
 obtain ⟨rfl, rfl, rfl, rfl⟩ := he
 obtain rfl := e2 g w us hus
 refine (hc t a h2 w (hfv.tab.mono (fun _ _ => trivial) (fun _ _ => rfl)) hI.tz).mono ?_
 rintro e w' ⟨rfl, hbel⟩
 obtain ⟨hI', hcell⟩ := hI.frame (w' := w') (g' := g) (H' := fun i => ([] : List Ob)[i]?) (fun _ => False) (fun _ _ => rfl) (fun _ _ hd => hd.elim) (fun _ _ _ _ _ _ hd => hd.elim) (fun b p h => .inl h) (Keeps.of_below hbel _) (Ext.refl g) hI.no
 refine ⟨retV (cs a), (cs a).map .one, [], [], g, rfl, ?_, hI', ?_, fun i j h => by simp at h, fun b p _ h => h, hcell⟩
 ·unfold canon
  show (match imVs id 0 (out a).vals with
   | none => none
   | some (vs, n) => match backX (sh.map fun _ => ⟨none, []⟩) (out a).ios n.length with
    | none => none
    | some (ps, n') => some (vs, n ++ n', ps)) = _
  rw [hout a]
  dsimp only
  rw [imVs_pln id (cs a) 0 (hp a)]
  dsimp only
  rw [backX_pln]
  rfl
 ·have := F2_val (g := g) (w := w') (cs a) (hp a)
  have h3 := hp a
  match hcs : cs a with
  | [] => rw [hcs] at this; exact ⟨_, rfl, this⟩
  | [c] => rw [hcs] at this; exact this.1
  | c :: d :: r => rw [hcs] at this; exact ⟨_, rfl, this⟩
theorem rows_str {w : World} {S : Addr → Prop} : ∀ xs : List ByteArray, Rows2 (ER w S .str) xs (xs.map Value.string)
 | [] => rfl
 | x :: xs => ⟨[.string x], _, rfl, rfl, rows_str xs⟩
theorem fok_rowT {P : Program} {f : Nat} {sh : List SA} {F : TL SA.T sh → Option (List ByteArray)} {out : List ByteArray → CRes} {ps : List PS} (hb : HasBody P f) (hsh : sh.all SA.pln = true)
  (hout : ∀ a, out a = ⟨[.one (.own [] .str a true)], sh.map fun _ => []⟩)
  (hc : ∀ t a, F t = some a → ∀ w, Tab (fun _ => True) w → TabZ w → Calls P f ((encL SA.enc sh t).map Arg.val).toArray w fun e w' => e = .returned (.slice (some ⟨w.heap.size, 0, none⟩) a.length a.length) ∧ ∃ ty, w' = w.alloc (.cells (a.map Value.string).toArray ty)) : FOk P f (FIs sh (List ByteArray) F out ps) := by
 refine ⟨hb, fun args a ha tvs h xs gs he w g M0 us hI hl hfv hus => ?_⟩
 obtain ⟨t, h1, h2⟩ := Option.bind_eq_some_iff.1 ha
 obtain rfl := pln_args hsh h1
 obtain ⟨tvs', e1, e2⟩ := enter_pln t 0 0 0 hsh
 rw [e1] at he
 simp only [Option.some.injEq, Prod.mk.injEq] at he
 obtain ⟨rfl, rfl, rfl, rfl⟩ := he
 obtain rfl := e2 g w us hus
 obtain ⟨a, rfl⟩ : ∃ xs : List ByteArray, xs = a := ⟨a, rfl⟩
 refine (hc t a h2 w (hfv.tab.mono (fun _ _ => trivial) (fun _ _ => rfl)) hI.tz).mono ?_
 rintro e w' ⟨rfl, ty, rfl⟩
 obtain ⟨g', k1, k2, k3, k4, _⟩ := Good.arr' (nid := 0) (n := a.length) (c := a.length) (k := .str) (xs := a) (m := []) (us := (a.map Value.string).toArray) (t := ty) hI rfl rfl (Nat.le_refl _) (by simp [Kd.size]) (by
  rw [List.take_of_length_le (by simp [Kd.size])]
  exact rows_str a)
 have hap : apH (fun i => ([] : List Ob)[i]?) 0 ⟨one1 (.slo 0), [], [.arr .str a [] true]⟩ = fun i => ([Ob.arr .str a [] true] : List Ob)[i]? := by
  funext i
  unfold apH
  cases i with
  | zero => rfl
  | succ i => simp [lkU]
 rw [hap] at k1
 refine ⟨_, [.one (.slo 0)], [.arr .str a [] true], [], g', rfl, ?_, k1, k4, fun i j h => by simp at h, fun b p hb h => k2.nz b p hb h, k3⟩
 unfold canon
 show (match imVs id 0 (out a).vals with
  | none => none
  | some (vs, n) => match backX (sh.map fun _ => ⟨none, []⟩) (out a).ios n.length with
   | none => none
   | some (ps, n') => some (vs, n ++ n', ps)) = _
 rw [hout a]
 have e3 : imVs id 0 [V1.one (.own [] .str a true)] = some ([.one (.slo 0)], [.arr .str a [] true]) := rfl
 dsimp only
 rw [e3]
 dsimp only
 rw [backX_pln]
 rfl
theorem fok_row {P : Program} {f : Nat} {sh : List SA} {F : TL SA.T sh → Option (List ByteArray)} {out : List ByteArray → CRes} {ps : List PS} (hb : HasBody P f) (hsh : sh.all SA.pln = true)
  (hout : ∀ a, out a = ⟨[.one (.own [] .str a true)], sh.map fun _ => []⟩)
  (hc : ∀ t a, F t = some a → ∀ w, Calls P f ((encL SA.enc sh t).map Arg.val).toArray w fun e w' => e = .returned (.slice (some ⟨w.heap.size, 0, none⟩) a.length a.length) ∧ ∃ ty, w' = w.alloc (.cells (a.map Value.string).toArray ty)) : FOk P f (FIs sh (List ByteArray) F out ps) :=
 fok_rowT hb hsh hout fun t a h w _ _ => hc t a h w
theorem one_at {o o' : Ob} {i : Nat} (h : ([o] : List Ob)[i]? = some o') : i = 0 ∧ o' = o := by
 cases i with
 | zero => simp at h; exact ⟨rfl, h.symm⟩
 | succ i => simp at h
theorem row_out {M0 : Addr → Prop} {w w' : World} {g : Gh} {k : Kd} (hk : k.flat = true) {xs ys : List (El k)} {m m' : List Nat} (hI : Inv M0 w g (fun i => ([Ob.arr k xs m true] : List Ob)[i]?) w) {A' : Option Addr} {n' c' : Nat} {us' : List Value}
  (hys : ys.length = n') (hnc : n' ≤ c') (hrows : Rows2 (ER w' (fun _ => False) k) ys us')
  (hcell : c' = 0 ∨ ∃ a, A' = some a ∧ a.spot = none ∧ (∀ j u, us'[j]? = some u → w'.cell? (pl a j) = some u) ∧ (∀ j, j < c' * k.size → (w'.cell? (pl a j)).isSome = true ∧ w'.frozen? (pl a j) = false) ∧ (k.size ≠ 1 → EndFree w' a.block))
  (hkeep : Keeps (MR g 0 (.arr k xs m true)) w w') (hin : ∀ a j, A' = some a → j < c' * k.size → MR g 0 (.arr k xs m true) (pl a j) ∨ w.heap.size ≤ (pl a j).block) :
  Inv M0 w { g with loc := fun i => if i = 0 then .arr A' n' c' else .none } (fun i => ([Ob.arr k ys m' true] : List Ob)[i]?) w' ∧ (∀ b p, g.L b p → w'.cell? p = w.cell? p) := by
 have h0 : (fun i => ([Ob.arr k xs m true] : List Ob)[i]?) 0 = some (.arr k xs m true) := rfl
 have hMR : ∀ p, MR { g with loc := fun i => if i = 0 then .arr A' n' c' else .none } 0 (.arr k ys m' true) p → MR g 0 (.arr k xs m true) p ∨ w.heap.size ≤ p.block := by
  rintro p ⟨a, n, c, j, e, _, hj, rfl⟩
  simp only [if_true, Loc.arr.injEq] at e
  obtain ⟨rfl, _, rfl⟩ := e
  exact hin a j rfl hj
 have hcl : ∀ b p, g.L b p → w'.cell? p = w.cell? p := fun b p hl => hkeep.cell (hI.lt b p hl).1 (by
  rw [show (⟨p.block, p.off, none⟩ : Addr) = p from by have := (hI.lt b p hl).2; obtain ⟨x1, x2, x3⟩ := p; simp at this; rw [this]]
  exact fun hm => hI.st 0 _ p b h0 hm hl)
 refine ⟨⟨fun i o hi => ?_, fun i j o o' p hij hi hj => ?_, fun i o p b hi hp hl => ?_, fun i o p hi hp => ?_, fun i hi => ?_, fun b p hl => ⟨Nat.lt_of_lt_of_le (hI.lt b p hl).1 hkeep.size, (hI.lt b p hl).2⟩, hI.l0, ?_, hI.tz.keep hkeep⟩, hcl⟩
 ·obtain ⟨rfl, rfl⟩ := one_at hi
  refine ⟨A', n', c', us', rfl, hys, hnc, Rows2.mono (fun x y h => ER.flat k x y hk h) hrows, ?_⟩
  rcases hcell with h | ⟨a, h1, h2, h3, h4, h5⟩
  ·exact .inl h
  ·exact .inr ⟨a, h1, h2, h3, h4, (fun h => by cases h), h5⟩
 ·obtain ⟨rfl, _⟩ := one_at hi
  obtain ⟨rfl, _⟩ := one_at hj
  exact absurd rfl hij
 ·obtain ⟨rfl, rfl⟩ := one_at hi
  rcases hMR p hp with h | h
  ·exact hI.st 0 _ p b h0 h hl
  ·have := (hI.lt b p hl).1
   omega
 ·obtain ⟨rfl, rfl⟩ := one_at hi
  rcases hMR p hp with h | h
  ·exact hI.al 0 _ p h0 h
  ·exact .inr h
 ·show (if i = 0 then _ else _) = _
  rw [if_neg]
  rintro rfl
  simp at hi
 ·exact hkeep.mono fun p hb hp => (hI.al 0 _ p h0 hp).resolve_right (by omega)
theorem decV1 {s : SV} {sh : List SA} {args : List Arg} {t : TL SA.T (.v s :: sh)} (h : decL SA.dec (.v s :: sh) args = some t) : ∃ rest, args = .v (s.enc t.1) :: rest ∧ decL SA.dec sh rest = some t.2 := by
 cases args with
 | nil => simp [decL] at h
 | cons a r =>
  simp only [decL] at h
  cases ha : (SA.v s).dec a with
  | none => rw [ha] at h; simp at h
  | some x =>
   cases hr : decL SA.dec sh r with
   | none => rw [ha, hr] at h; simp at h
   | some y =>
    rw [ha, hr] at h
    simp only [Option.some.injEq] at h
    subst h
    refine ⟨r, ?_, hr⟩
    cases a <;> simp only [SA.dec, reduceCtorEq] at ha
    rw [SV.dec_some ha]
theorem decV0 {args : List Arg} {t : TL SA.T []} (h : decL SA.dec [] args = some t) : args = [] := by
 cases args with
 | nil => rfl
 | cons a r => simp [decL] at h
end Go.Proofs.YtdhifkdijlghdaaGreatDoorA
