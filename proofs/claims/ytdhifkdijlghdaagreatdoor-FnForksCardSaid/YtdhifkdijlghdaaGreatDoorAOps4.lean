/-
  Slices that are read, cut and indexed; fields; lengths; conversions. No condition.
-/
import Derived.Test.YtdhifkdijlghdaaGreatDoorAOps3
namespace Go.Proofs.YtdhifkdijlghdaaGreatDoorA
open Go
set_option linter.unusedVariables false
set_option linter.unusedSimpArgs false
variable {P : Program} {M0 : Addr → Prop} {w0 w : World} {g : Gh} {H : Nat → Option Ob}
structure SlR (w : World) (L : Nat → Addr → Prop) (sl : SL) (u : Value) (A : Option Addr) (n c : Nat) (us : List Value) : Prop where
 val : u = .slice A n c
 len : sl.xs.length = n
 cap : n ≤ c
 rows : Rows2 (ER w (SM L sl.m) sl.k) sl.xs us
 at_ : us = [] ∨ ∃ a, A = some a ∧ a.spot = none ∧ ∀ j u, us[j]? = some u → w.cell? (pl a j) = some u
theorem getSl_ok (hI : Inv M0 w0 g H w) {ck : Option Kd} {c : C} {u : Value} (hc : CR g w c u) {sl : SL} {l : List Nat} (h : getSl ck c H = some (sl, l)) : ∃ A n cp us, SlR w g.L sl u A n cp us := by
 cases c with
 | slv m k xs =>
  cases M.ret_some (H := H) h
  simp only [CR, ER] at hc
  obtain ⟨A, n, cp, us, e, h1, h2, h3, h4⟩ := hc
  simp only [List.cons.injEq, and_true] at e
  refine ⟨A, n, cp, us, e, h1, h2, h3, ?_⟩
  rcases h4 with h4 | ⟨a, ea, hs, h5⟩
  ·exact .inl h4
  ·exact .inr ⟨a, ea, hs, fun j u hj => (h5 j u hj).1⟩
 | slo id =>
  obtain ⟨A, n, cp, e, rfl⟩ := hc
  obtain ⟨o, l1, l2, h1, h2, _⟩ := M.bind_some h
  have ho := hI.ob _ _ (M.get_some h1)
  cases o <;> try exact (M.fail_some h2).elim
  rename_i k xs m x
  cases M.ret_some h2
  obtain ⟨A', n', c', us, e', h3, h4, h5, h6⟩ := ho
  rw [e] at e'; cases e'
  refine ⟨A, n, cp, us, rfl, h3, h4, h5, ?_⟩
  rcases h6 with rfl | ⟨a, ea, hs, h7, _⟩
  ·refine .inl ?_
   have : xs = [] := List.eq_nil_of_length_eq_zero (by omega)
   subst this; exact h5
  ·exact .inr ⟨a, ea, hs, h7⟩
 | nil =>
  obtain ⟨A, rfl⟩ := hc
  cases ck with
  | none => exact (M.fail_some (H := H) h).elim
  | some k => cases M.ret_some (H := H) h; exact ⟨A, 0, 0, [], rfl, rfl, Nat.le_refl _, rfl, .inl rfl⟩
 | _ => exact (M.fail_some (H := H) h).elim
theorem pFieldAddr_ok {E : Env} (hT : TtOk P E.tt) {t f nid : Nat} (hI : Inv M0 w0 g H w) {c : C} {u : Value} (hc : CR g w c u) {r : Res1} {l : List Nat} (h : pFieldAddr E t f c H = some (r, l)) :
  ∃ e v w', r = ⟨true, .done e⟩ ∧ (Instr.fieldAt t u f).run P w = .ok v w' ∧ Good M0 w0 g H w nid e v w' := by
 unfold pFieldAddr at h
 cases ht : E.ti t with
 | none => rw [ht] at h; exact (M.fail_some (H := H) h).elim
 | some ti =>
  rw [ht] at h
  obtain ⟨i, d, hi⟩ := Env.tiOk hT ht
  obtain ⟨sz, by', td, kd, zc⟩ := ti
  cases td <;> try exact (M.fail_some (H := H) h).elim
  rename_i fs
  dsimp only at h
  cases hf : fs[f]? with
  | none => rw [hf] at h; exact (M.fail_some (H := H) h).elim
  | some of' =>
   obtain ⟨o, ft⟩ := of'
   rw [hf] at h
   obtain ⟨fields, rfl, hfs, hall⟩ := hi.struct rfl
   rw [← hfs, List.getElem?_map] at hf
   obtain ⟨fd, hfd, hff⟩ := Option.map_eq_some_iff.1 hf
   simp only [Prod.mk.injEq] at hff
   obtain ⟨rfl, rfl⟩ := hff
   obtain ⟨⟨ii, hii, hne⟩, _⟩ := hall fd (List.mem_of_getElem? hfd)
   have hfd' : fields[f]? = some fd := by simpa using hfd
   have hrun : ∀ b off, (Instr.fieldAt t (.pointer (some ⟨b, off, none⟩)) f).run P w = .ok (.pointer (some ⟨b, off + fd.offset, none⟩)) w := by
    intro b off
    simp [Instr.fieldAt, run_underlying hi.und, hfd', Instr.sureAddr, fieldPlace, sizeOf, typeInfo, hii, hne, Addr.add_mid]
   cases c <;> try exact (M.fail_some (H := H) h).elim
   ·obtain ⟨a, e, rfl⟩ := hc
    exact ⟨_, _, _, done_some h, hrun _ _, Good.same hI ⟨a, e, by simp [pl, Nat.add_assoc]⟩⟩
   ·obtain ⟨a, n, cp, e, hix, rfl⟩ := hc
    exact ⟨_, _, _, done_some h, hrun _ _, Good.same hI ⟨a, n, cp, e, hix, by simp [pl, Nat.add_assoc]⟩⟩
   ·obtain ⟨a, us, rfl, he, hce⟩ := hc
    exact ⟨_, _, _, done_some h, hrun _ _, Good.same hI ⟨a, us, by simp [pl, Nat.add_assoc], he, hce⟩⟩
theorem run_part {t : Nat} {ti : TI} {i : TypeInfo} {d : TypeDesc} (hT : TiOk P t ti i d) {cs : List C} {us : Array Value} {o : Nat} {v : V1} (hu : F2 (CR g w) cs us.toList) (hmk : mk ti ((cs.drop o).take ti.size) = some v) :
  ∃ r, (part t us o).run P w = .ok r w ∧ V1R g w v r := by
 have hF := F2.take ti.size (F2.drop o hu)
 generalize (cs.drop o).take ti.size = cc at hmk hF
 unfold mk at hmk
 split at hmk
 ·simp at hmk
 ·rename_i hl0
  have hl : ((us.toList.drop o).take ti.size).length = ti.size := by rw [← hF.len]; omega
  split at hmk
  ·rename_i hd
   cases hmk
   obtain ⟨fields, rfl, _⟩ := hT.struct hd
   have hagg : (isAgg t).run P w = .ok true w := by unfold isAgg; rw [Sem.run_bind, run_underlying hT.und w]; rfl
   refine ⟨.agg (us.extract o (o + ti.size)), by simp [part, hagg, sizeOf, typeInfo, hT.info, hT.size], _, rfl, ?_⟩
   rw [Array.toList_extract, List.extract_eq_drop_take', List.drop_take, show o + ti.size - o = ti.size by omega]
   exact hF
  ·simp at hmk
  ·rename_i c h1 h2
   cases hmk
   have hd1 : ti.size = 1 := by
    simp at hl0; omega
   cases hq : (us.toList.drop o).take ti.size with
   | nil => rw [hq] at hl; simp at hl; omega
   | cons u r =>
    rw [hq] at hF
    have hou : us[o]? = some u := by
     have : ((us.toList.drop o).take ti.size)[0]? = some u := by rw [hq]; rfl
     rw [List.getElem?_take, if_pos (by omega), List.getElem?_drop] at this
     simpa using this
    refine ⟨u, ?_, hF.1⟩
    have hagg : (isAgg t).run P w = .ok false w := by
     unfold isAgg
     rw [Sem.run_bind, run_underlying hT.und w]
     have := hT.desc
     cases d <;> simp_all [dCheck] <;> cases hd : ti.d <;> simp_all [dCheck]
    simp [part, hagg, hou]
  ·simp at hmk
theorem pField_ok {E : Env} (hT : TtOk P E.tt) {t f nid : Nat} (hI : Inv M0 w0 g H w) {x : V1} {u : Value} (hx : V1R g w x u) {r : Res1} {l : List Nat} (h : pField E t f x H = some (r, l)) :
  ∃ e v w', r = ⟨true, .done e⟩ ∧ (Instr.field t u f).run P w = .ok v w' ∧ Good M0 w0 g H w nid e v w' := by
 unfold pField at h
 cases ht : E.ti t with
 | none => rw [ht] at h; exact (M.fail_some (H := H) h).elim
 | some ti =>
  rw [ht] at h
  obtain ⟨i, d, hi⟩ := Env.tiOk hT ht
  obtain ⟨sz, by', td, kd, zc⟩ := ti
  cases td <;> try exact (M.fail_some (H := H) h).elim
  rename_i fs
  cases x <;> try exact (M.fail_some (H := H) h).elim
  rename_i cs
  dsimp only at h
  cases hf : fs[f]? with
  | none => rw [hf] at h; exact (M.fail_some (H := H) h).elim
  | some of' =>
   obtain ⟨o, ft⟩ := of'
   rw [hf] at h
   dsimp only at h
   cases hft : E.ti ft with
   | none => rw [hft] at h; exact (M.fail_some (H := H) h).elim
   | some fi =>
    rw [hft] at h
    dsimp only at h
    cases hmk : mk fi ((cs.drop o).take fi.size) with
    | none => rw [hmk] at h; exact (M.fail_some (H := H) h).elim
    | some v =>
     rw [hmk] at h
     obtain ⟨fields, rfl, hfs, hall⟩ := hi.struct rfl
     rw [← hfs, List.getElem?_map] at hf
     obtain ⟨fd, hfd, hff⟩ := Option.map_eq_some_iff.1 hf
     simp only [Prod.mk.injEq] at hff
     obtain ⟨rfl, rfl⟩ := hff
     have hfd' : fields[f]? = some fd := by simpa using hfd
     obtain ⟨i2, d2, hi2⟩ := Env.tiOk hT hft
     obtain ⟨us, rfl, hu⟩ := hx
     obtain ⟨rr, hr1, hr2⟩ := run_part hi2 hu hmk
     refine ⟨_, _, _, done_some h, ?_, Good.same hI hr2⟩
     simp [Instr.field, run_underlying hi.und, hfd', asAgg, hr1]
theorem pIndexAddr_ok {E : Env} (hT : TtOk P E.tt) {t nid : Nat} (hI : Inv M0 w0 g H w) {c ic : C} {u iu : Value} (hc : CR g w c u) (hi' : CR g w ic iu) {r : Res1} {l : List Nat} (h : pIndexAddr E t c ic H = some (r, l)) (hg : r.g = true) :
  ∃ e v w', r.act = .done e ∧ (Instr.indexAt t u iu).run P w = .ok v w' ∧ Good M0 w0 g H w nid e v w' := by
 unfold pIndexAddr at h
 cases ht : E.ti t with
 | none => rw [ht] at h; exact (M.fail_some (H := H) h).elim
 | some ti =>
  rw [ht] at h
  obtain ⟨i, d, hi⟩ := Env.tiOk hT ht
  obtain ⟨sz, by', td, kd, zc⟩ := ti
  cases ic <;> (try (cases td <;> exact (M.fail_some (H := H) h).elim))
  rename_i ik ix
  cases hi'
  cases td <;> try exact (M.fail_some (H := H) h).elim
  ·rename_i e
   obtain rfl := hi.slice rfl
   dsimp only at h
   cases he : E.ti e with
   | none => rw [he] at h; exact (M.fail_some (H := H) h).elim
   | some ei =>
    rw [he] at h
    obtain ⟨ie, de, hie⟩ := Env.tiOk hT he
    obtain ⟨sl, l1, l2, h1, h2, _⟩ := M.bind_some h
    obtain ⟨A, n, cp, us, hs⟩ := getSl_ok hI hc h1
    split at h2
    ·rename_i hsz
     have hse : ie.size = sl.k.size := by rw [hie.size, hsz]
     have key : ∀ (cv : C), r = ⟨decide (0 ≤ ix) && decide (ix < sl.xs.length), .done ⟨one1 cv, [], []⟩⟩ →
       (0 ≤ ix → ix.toNat < n → ∀ a, A = some a → a.spot = none → (∀ j u, us[j]? = some u → w.cell? (pl a j) = some u) → CR g w cv (.pointer (some (pl a (ix.toNat * sl.k.size))))) →
       ∃ e v w', r.act = .done e ∧ (Instr.indexAt t u (.int ik ix)).run P w = .ok v w' ∧ Good M0 w0 g H w nid e v w' := by
      intro cv hr hcv
      subst hr
      simp only [Bool.and_eq_true, decide_eq_true_eq] at hg
      obtain ⟨g1, g2⟩ := hg
      have hlt : ix.toNat < n := by rw [← hs.len]; omega
      have hul := Rows2.len (ER.len _) hs.rows
      rcases hs.at_ with h0 | ⟨a, rfl, hsp, hcell⟩
      ·subst h0
       have := Nat.mul_pos (show 0 < sl.xs.length by omega) (Kd.size_pos sl.k)
       rw [← hul] at this; simp at this
      ·refine ⟨_, .pointer (some (pl a (ix.toNat * sl.k.size))), w, rfl, ?_, Good.same hI (hcv g1 hlt a rfl hsp hcell)⟩
       rw [hs.val]
       have hb : 0 ≤ ix ∧ ix < (n : Int) := ⟨g1, by rw [← hs.len]; exact g2⟩
       simp [Instr.indexAt, asIntOf, run_underlying hi.und, sizeOf, typeInfo, hie.info, hb, hse, add_pl hsp]
     cases c with
     | slo id =>
      obtain ⟨A', n', c', e', hv⟩ := hc
      refine key (.eptr id ix.toNat sl.k.size 0) (done_some h2) fun _ hlt a ha hsp _ => ?_
      have := hs.val
      rw [hv] at this; cases this
      exact ⟨a, n, cp, by rw [e', ha], hlt, rfl⟩
     | slv m k xs =>
      cases M.ret_some (H := H) h1
      refine key _ (done_some h2) fun _ hlt a ha hsp hcell => ?_
      simp only [CR, ER] at hc
      obtain ⟨A2, n2, c2, us2, e2, h3, h4, h5, h6⟩ := hc
      simp only [List.cons.injEq, and_true] at e2
      have := hs.val
      rw [e2] at this; cases this
      have hgx : xs[ix.toNat]? = some (rdE k xs ix.toNat) := by unfold rdE; rw [List.getD_eq_getElem?_getD, List.getElem?_eq_getElem (by omega)]; rfl
      rcases h6 with h0 | ⟨a2, ha2, hsp2, h7⟩
      ·subst h0
       have hul := Rows2.len (ER.len _) h5
       have := Nat.mul_pos (show 0 < xs.length by omega) (Kd.size_pos k)
       rw [← hul] at this; simp at this
      ·rw [ha] at ha2; cases ha2
       refine ⟨pl a (ix.toNat * k.size), _, by simp [pl], Rows2.get (ER.len k) h5 _ _ hgx, fun j u hj => ?_⟩
       rw [List.getElem?_take] at hj
       split at hj
       ·rw [List.getElem?_drop] at hj
        have := h7 _ _ hj
        rw [pl_pl]; exact this
       ·simp at hj
     | nil =>
      cases hk : ei.kd with
      | none => rw [hk] at h1; exact (M.fail_some (H := H) h1).elim
      | some k =>
       rw [hk] at h1
       cases M.ret_some (H := H) h1
       refine key _ (done_some h2) fun _ hlt => ?_
       have := hs.len
       simp at this; omega
     | _ => exact (M.fail_some (H := H) h1).elim
    ·exact (M.fail_some (H := H) h2).elim
  ·rename_i n e
   obtain ⟨rfl, hn1⟩ := hi.array rfl
   dsimp only at h
   cases he : E.ti e with
   | none => rw [he] at h; exact (M.fail_some (H := H) h).elim
   | some ei =>
    rw [he] at h
    obtain ⟨ie, de, hie⟩ := Env.tiOk hT he
    cases c <;> try exact (M.fail_some (H := H) h).elim
    rename_i id
    obtain ⟨a, n', cp, e', rfl⟩ := hc
    obtain ⟨o, l1, l2, h1, h2, _⟩ := M.bind_some h
    have ho := hI.ob _ _ (M.get_some h1)
    cases o <;> try exact (M.fail_some (H := H) h2).elim
    rename_i n2 k xs
    dsimp only at h2
    split at h2
    ·rename_i hcd
     obtain ⟨rfl, hsz⟩ := hcd
     have hr := done_some h2
     subst hr
     simp only [Bool.and_eq_true, decide_eq_true_eq] at hg
     obtain ⟨a', us, e2, hx, _⟩ := ho
     rw [e'] at e2; cases e2
     have hlt : ix.toNat < n := by omega
     refine ⟨_, .pointer (some (pl a (ix.toNat * k.size))), w, rfl, ?_, Good.same hI ⟨a, n, n, e', hlt, by simp⟩⟩
     have hse : ie.size = k.size := by rw [hie.size, hsz]
     simp [Instr.indexAt, asIntOf, run_underlying hi.und, sizeOf, typeInfo, hie.info, hg, hse, Instr.sureAddr]
     rw [add_pl (by rfl), pl_pl, Nat.zero_add]
    ·exact (M.fail_some (H := H) h2).elim
theorem pLen_ok {E : Env} (hT : TtOk P E.tt) {t ty nid : Nat} (hI : Inv M0 w0 g H w) {x : V1} {u : Value} (hx : V1R g w x u) {r : Res1} {l : List Nat} (h : pLen E t x H = some (r, l)) :
  ∃ e v w', r = ⟨true, .done e⟩ ∧ (Builtin.len_ #[t] ty #[u]).run P w = .ok v w' ∧ Good M0 w0 g H w nid e v w' := by
 unfold pLen at h
 cases ht : E.ti t with
 | none => rw [ht] at h; exact (M.fail_some (H := H) h).elim
 | some ti =>
  rw [ht] at h
  obtain ⟨i, d, hi⟩ := Env.tiOk hT ht
  obtain ⟨sz, by', td, kd, zc⟩ := ti
  cases td <;> try (cases x <;> exact (M.fail_some (H := H) h).elim)
  ·obtain rfl := hi.str rfl
   cases x <;> try exact (M.fail_some (H := H) h).elim
   rename_i c
   cases c <;> try exact (M.fail_some (H := H) h).elim
   cases hx
   exact ⟨_, _, _, done_some h, by simp [Builtin.len_, run_underlying hi.und, goInt], Good.same hI rfl⟩
  ·rename_i e
   obtain rfl := hi.slice rfl
   cases x <;> try exact (M.fail_some (H := H) h).elim
   rename_i c
   dsimp only at h
   cases he : E.ti e with
   | none => rw [he] at h; exact (M.fail_some (H := H) h).elim
   | some ei =>
    rw [he] at h
    obtain ⟨sl, l1, l2, h1, h2, _⟩ := M.bind_some h
    obtain ⟨A, n, cp, us, hs⟩ := getSl_ok hI hx h1
    refine ⟨_, _, _, done_some h2, ?_, Good.same hI rfl⟩
    rw [hs.val]
    simp [Builtin.len_, run_underlying hi.und, hs.len, goInt]
  ·rename_i n e
   obtain ⟨rfl, _⟩ := hi.array rfl
   exact ⟨_, _, _, done_some h, by simp [Builtin.len_, run_underlying hi.und, goInt], Good.same hI rfl⟩
end Go.Proofs.YtdhifkdijlghdaaGreatDoorA
