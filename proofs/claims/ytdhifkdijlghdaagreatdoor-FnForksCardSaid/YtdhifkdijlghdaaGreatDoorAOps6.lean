/-
  Conversions and 'append'. No condition.
-/
import Derived.Test.YtdhifkdijlghdaaGreatDoorAOps5
namespace Go.Proofs.YtdhifkdijlghdaaGreatDoorA
open Go
set_option linter.unusedVariables false
set_option linter.unusedSimpArgs false
set_option linter.unusedSectionVars false
variable {P : Program} {M0 : Addr → Prop} {w0 w : World} {g : Gh} {H : Nat → Option Ob}
theorem cells_plain (m : List Nat) : ∀ (k : Kd) (y : El k), (cells m k y).all C.plain = true := by
 intro k
 induction k with
 | pair a b iha ihb => intro y; simp only [cells, List.all_append, iha, ihb, Bool.and_self]
 | tree k ih => intro y; simp only [cells, List.all_append, ih]; rfl
 | _ => intro y; rfl
theorem ER.one {L : Nat → Addr → Prop} {m : List Nat} {k : Kd} {x : El k} {us : List Value} (h : ER w (SM L m) k x us) : ∀ u ∈ us, u.oneCell' = true :=
 F2.plain (cells_plain m k x) (ER.cells (g := ⟨fun _ => .none, L, fun _ => undef⟩) k x us h)
theorem rows_one {L : Nat → Addr → Prop} {m : List Nat} {k : Kd} : ∀ {xs : List (El k)} {us : List Value}, Rows2 (ER w (SM L m) k) xs us → ∀ u ∈ us, u.oneCell' = true
 | [], us, h, u, hu => by cases h; simp at hu
 | x :: xs, _, ⟨v, r, rfl, h1, h2⟩, u, hu => by
  rcases List.mem_append.1 hu with hu | hu
  ·exact ER.one h1 u hu
  ·exact rows_one h2 u hu
theorem bytesL_rows {S : Addr → Prop} (l : List UInt8) : Rows2 (ER w S (.int .u8)) (l.map fun b => (b.toNat : Int)) (l.map fun b => Value.int .u8 b.toNat) := by
 induction l with
 | nil => rfl
 | cons b l ih => exact ⟨[.int .u8 b.toNat], _, rfl, rfl, ih⟩
theorem bytesL_len (s : ByteArray) : (bytesL s).length = s.size := by simp [bytesL]
theorem Keeps.bytes (w : World) (e : TypeId) (s : ByteArray) : Keeps (fun _ => False) w (Lib.bytesWorld w e s) :=
 ⟨rfl, rfl, rfl, by rw [Lib.bytesWorld_size]; omega, fun b hb => .inl (Lib.bytesWorld_at_old w e s b hb)⟩
theorem pConvert_ok {E : Env} (hT : TtOk P E.tt) {s d nid : Nat} {r : Res1} (hI : Inv M0 w0 g H w) (hn : hasNew r = true → H nid = none) {c : C} {u : Value} (hc : CR g w c u)  {l : List Nat} (h : pConvert E s d nid c H = some (r, l)) :
  ∃ e v w', r = ⟨true, .done e⟩ ∧ (convert s d u).run P w = .ok v w' ∧ Good M0 w0 g H w nid e v w' := by
 unfold pConvert at h
 cases hs : E.ti s with
 | none => rw [hs] at h; exact (M.fail_some (H := H) h).elim
 | some si =>
  rw [hs] at h
  cases hd : E.ti d with
  | none => rw [hd] at h; exact (M.fail_some (H := H) h).elim
  | some di =>
   rw [hd] at h
   obtain ⟨i1, d1, hs1⟩ := Env.tiOk hT hs
   obtain ⟨i2, d2, hd1⟩ := Env.tiOk hT hd
   obtain ⟨ssz, sby, sd, skd, szc⟩ := si
   obtain ⟨dsz, dby, dd, dkd, dzc⟩ := di
   dsimp only at h
   cases sd <;> cases dd <;> try (cases c <;> exact (M.fail_some (H := H) h).elim)
   ·cases c <;> try exact (M.fail_some (H := H) h).elim
    obtain rfl := hs1.int rfl
    obtain rfl := hd1.int rfl
    cases hc
    exact ⟨_, _, _, done_some h, by simp [convert, run_underlying hs1.und, run_underlying hd1.und, Conv.intToInt], Good.same hI rfl⟩
   ·cases c <;> try exact (M.fail_some (H := H) h).elim
    obtain rfl := hs1.str rfl
    obtain rfl := hd1.str rfl
    cases hc
    exact ⟨_, _, _, done_some h, by simp [convert, run_underlying hs1.und, run_underlying hd1.und], Good.same hI rfl⟩
   ·rename_i e
    cases c <;> try exact (M.fail_some (H := H) h).elim
    rename_i b
    cases hc
    obtain rfl := hd1.slice rfl
    dsimp only at h
    cases he : E.ti e with
    | none => rw [he] at h; exact (M.fail_some (H := H) h).elim
    | some ei =>
     rw [he] at h
     obtain ⟨ie, de, hie⟩ := Env.tiOk hT he
     obtain ⟨esz, eby, etd, ekd, ezc⟩ := ei
     dsimp only at h
     cases etd <;> try exact (M.fail_some (H := H) h).elim
     rename_i ek
     cases ek <;> try exact (M.fail_some (H := H) h).elim
     obtain rfl := hie.int rfl
     have hge := grownCap_ge w b.size 0 e
     refine ⟨_, _, _, done_some h, Lib.run_convert_string_bytes w s d e b hs1.und hd1.und hie.und, ?_⟩
     refine Good.arr (us := Lib.bytesCells w e b) (t := e) (fz := ((Lib.bytesCells w e b).size, (Lib.bytesCells w e b).size + 1)) hI (hn (by rw [done_some h]; rfl)) (Keeps.bytes w e b) (fun l p hl => Lib.bytesWorld_old w e b p (hI.lt l p hl).1) (Lib.bytesWorld_at_new w e b) (fun j hj => by simp only; omega) (fun h => absurd rfl h) (bytesL_len b) hge ?_ ?_
     ·simp [Lib.bytesCells, Kd.size, grownCap] at hge ⊢
      have : b.data.size = b.size := rfl
      omega
     ·have : (Lib.bytesCells w e b).toList.take (b.size * (Kd.int .u8).size) = b.data.toList.map fun b => Value.int .u8 b.toNat := by
       have hb : b.size = b.data.toList.length := by simp
       simp only [Lib.bytesCells, Kd.size, Nat.mul_one, Array.toList_append, Array.toList_map]
       rw [List.take_left' (by rw [List.length_map]; exact hb.symm)]
      rw [this]
      exact bytesL_rows _
   ·rename_i e
    dsimp only at h
    cases he : E.ti e with
    | none => rw [he] at h; exact (M.fail_some (H := H) h).elim
    | some ei =>
     rw [he] at h
     obtain ⟨ie, de, hie⟩ := Env.tiOk hT he
     obtain ⟨esz, eby, etd, ekd, ezc⟩ := ei
     dsimp only at h
     cases etd <;> try exact (M.fail_some (H := H) h).elim
     rename_i ek
     cases ek <;> try exact (M.fail_some (H := H) h).elim
     obtain rfl := hie.int rfl
     obtain rfl := hs1.slice rfl
     obtain rfl := hd1.str rfl
     obtain ⟨sl, l1, l2, h1, h2, _⟩ := M.bind_some h
     obtain ⟨A, n, cp, us, hS⟩ := getSl_ok hI hc h1
     cases hcast : castL sl.k (.int .u8) sl.xs with
     | none => rw [hcast] at h2; exact (M.fail_some (H := H) h2).elim
     | some xs =>
      rw [hcast] at h2
      obtain ⟨m, k, ys⟩ := sl
      unfold castL at hcast
      split at hcast
      ·rename_i hk
       dsimp only at hk
       subst hk
       cases hcast
       have hul := Rows2.len (ER.len _) hS.rows
       have hrow : ∀ (ys : List Int) (us : List Value), Rows2 (ER w (SM g.L m) (.int .u8)) ys us → us = ys.map fun n => Value.int .u8 n := by
        intro ys
        induction ys with
        | nil => intro us h; exact h
        | cons y ys ih =>
         rintro us ⟨v, r, rfl, h1, h2⟩
         simp only [ER] at h1
         subst h1
         rw [ih r h2]; rfl
       have hus := hrow _ _ hS.rows
       have hlen : ys.length = n := hS.len
       refine ⟨_, .string (strL ys), w, done_some h2, ?_, Good.same hI rfl⟩
       rw [hS.val]
       rcases hS.at_ with h0 | ⟨a, rfl, hsp, hcell⟩
       ·have hy : ys = [] := by
         rw [h0] at hus
         cases ys with
         | nil => rfl
         | cons y ys => simp at hus
        subst hy
        simp at hlen; subst hlen
        cases A with
        | none => simp [convert, run_underlying hs1.und, run_underlying hd1.und, run_underlying hie.und, Conv.bytesToString, strL]; rfl
        | some a => simp [convert, run_underlying hs1.und, run_underlying hd1.und, run_underlying hie.und, Conv.bytesToString, loadCells, loadCellsFrom, strL]; rfl
       ·have := run_convert_bytes_arg (P := P) w s e hs1.und hie.und a.block a.off n cp ys hlen (fun i hi => by
         have := hcell i (.int .u8 (ys.getD i 0)) (by rw [hus, List.getElem?_map, List.getD_eq_getElem?_getD, List.getElem?_eq_getElem (show i < ys.length by omega)]; rfl)
         exact this) d hd1.und
        rw [show (⟨a.block, a.off, none⟩ : Addr) = a from by obtain ⟨b, o, s⟩ := a; cases hsp; rfl] at this
        exact this
      ·simp at hcast
structure XR (P : Program) (w : World) (L : Nat → Addr → Prop) (sl : SL) (u : Value) (us : List Value) : Prop where
 rows : Rows2 (ER w (SM L sl.m) sl.k) sl.xs us
 len : ∀ W, (Builtin.lenOf u).run P W = .ok sl.xs.length W
 first : ∀ W, (∀ p, (w.cell? p).isSome = true → W.cell? p = w.cell? p) → (Builtin.firstCells sl.k.size sl.xs.length u).run P W = .ok us.toArray W
theorem SlR.xr {L : Nat → Addr → Prop} {sl : SL} {u : Value} {A : Option Addr} {n c : Nat} {us : List Value} (h : SlR w L sl u A n c us) : XR P w L sl u us := by
 refine ⟨h.rows, fun W => by rw [h.val, h.len]; rfl, fun W hW => ?_⟩
 have hul := Rows2.len (ER.len _) h.rows
 rw [h.val]
 rcases h.at_ with h0 | ⟨a, rfl, hsp, hcell⟩
 ·subst h0
  have h0 : sl.xs.length * sl.k.size = 0 := by simpa using hul.symm
  cases A with
  | none => simp [Builtin.firstCells]
  | some a => simp [Builtin.firstCells, h0, loadCells, loadCellsFrom]
 ·simp only [Builtin.firstCells]
  rw [← hul]
  exact run_loadCells_list W a us fun j v hj => by
   rw [add_pl hsp, hW _ (by rw [hcell j v hj]; rfl)]; exact hcell j v hj
theorem str_xr (b : ByteArray) (L : Nat → Addr → Prop) : XR P w L ⟨[], .int .u8, bytesL b⟩ (.string b) (b.data.toList.map fun b => Value.int .u8 b.toNat) := by
 refine ⟨bytesL_rows _, fun W => by rw [bytesL_len]; rfl, fun W _ => ?_⟩
 have : b.extract 0 b.size = b := ByteArray.extract_zero_size
 simp only [Builtin.firstCells, bytesL_len, this, Sem.run_pure]
 rw [← Array.toList_map]
section
variable (t t2 ty e : TypeId) {i : TypeInfo} {z : Value} {d2 : TypeDesc} (ht : P.underlying t = some (.slice e)) (ht2 : P.underlying t2 = some d2) (hd2 : d2 = .string ∨ ∃ e', d2 = .slice e') (hi : P.info? e = some i) (hz : i.zero = some z)
 {L : Nat → Addr → Prop} {sl : SL} {x : Value} {news : List Value} (hx : XR P w L sl x news) (hsz : i.size = sl.k.size)
include ht ht2 hd2 hi hz hx hsz
set_option maxHeartbeats 1000000 in
theorem run_append_fit (base : Option Addr) (n c : Nat) (hroom : n + sl.xs.length ≤ c) (hb : news = [] ∨ ∃ a, base = some a ∧ a.spot = none ∧ w.there a.block (a.off + n * sl.k.size) news.length) :
  ∃ w', (Builtin.append_ #[t, t2] ty #[.slice base n c, x]).run P w = .ok (.slice base (n + sl.xs.length) c) w' ∧ ((news = [] ∧ w' = w) ∨ ∃ a, base = some a ∧ w' = w.setCells a.block (a.off + n * sl.k.size) news) := by
 have hf := hx.first w fun _ _ => rfl
 rcases hb with rfl | ⟨a, rfl, hsp, hth⟩
 ·refine ⟨w, ?_, .inl ⟨rfl, rfl⟩⟩
  cases base with
  | none => rcases hd2 with rfl | ⟨e', rfl⟩ <;> simp [Builtin.append_, run_underlying ht, run_underlying ht2, sizeOf, typeInfo, hi, hsz, hx.len, hroom, hf]
  | some a => rcases hd2 with rfl | ⟨e', rfl⟩ <;> simp [Builtin.append_, run_underlying ht, run_underlying ht2, sizeOf, typeInfo, hi, hsz, hx.len, hroom, hf, storeCells]
 ·have hst := run_storeCells_cells (P := P) a.block (a.off + n * sl.k.size) news 0 w (fun j hj => by simpa using (hth j hj).1) (fun j hj => by simpa using (hth j hj).2) (rows_one hx.rows)
  simp only [Nat.add_zero] at hst
  have ha : a.add (n * sl.k.size) = ⟨a.block, a.off + n * sl.k.size, none⟩ := add_pl hsp _
  refine ⟨_, ?_, .inr ⟨a, rfl, rfl⟩⟩
  rcases hd2 with rfl | ⟨e', rfl⟩ <;> simp [Builtin.append_, run_underlying ht, run_underlying ht2, sizeOf, typeInfo, hi, hsz, hx.len, hroom, hf, ha, hst]
set_option maxHeartbeats 1000000 in
theorem run_append_new (base : Option Addr) (n c : Nat) (olds : List Value) (hold : (Builtin.firstCells sl.k.size n (.slice base n c)).run P w.drew = .ok olds.toArray w.drew) (hg : c < n + sl.xs.length) (h63 : ((n + sl.xs.length : Nat) : Int) ≤ 9223372036854775807)
  (hfit : Builtin.nextslicecap (n + sl.xs.length) c * i.bytes ≤ 281474976710656) :
  (Builtin.append_ #[t, t2] ty #[.slice base n c, x]).run P w = .ok (.slice (some ⟨w.heap.size, 0, none⟩) (n + sl.xs.length) (grownCap w (n + sl.xs.length) c e))
   (w.drew.alloc (.cells (olds.toArray ++ news.toArray ++ Builtin.zeroCells z.cells (grownCap w (n + sl.xs.length) c e - (n + sl.xs.length))) e)) := by
 have hf := hx.first w.drew fun _ _ => rfl
 have hn : ¬ (n + sl.xs.length ≤ c) := by omega
 have h63' : ¬ (9223372036854775807 < ((n : Int) + (sl.xs.length : Int))) := by omega
 have hfit' : ¬ (281474976710656 < Builtin.nextslicecap (n + sl.xs.length) c * i.bytes) := by omega
 rcases hd2 with rfl | ⟨e', rfl⟩ <;> simp [Builtin.append_, run_underlying ht, run_underlying ht2, sizeOf, typeInfo, hi, hz, hsz, zeroValue, hx.len, hn, h63', hfit', hf, hold, Question.forced, newRow, grownCap] <;> simp [← Array.append_assoc]
end
theorem endFree_new (w : World) (cs : Array Value) (e : TypeId) : EndFree (w.alloc (.cells cs e)) w.heap.size := by
 intro t n hs
 simp [World.frozen?, World.alloc, -World.alloc_eq]
theorem Good.grown {nid id : Nat} {k : Kd} {xs zs : List (El k)} {m m' : List Nat} {olds news : List Value} {z : Array Value} {n c : Nat} (hI : Inv M0 w0 g H w) (hn : H nid = none) (hid : H id = some (.arr k xs m true))
  (hzs : z.size = k.size) (e : TypeId) (hc : n ≤ c) (hx : zs.length = n) (hu : Rows2 (ER w (SM g.L m') k) zs (olds ++ news)) :
  Good M0 w0 g H w nid ⟨one1 (.slo nid), [(id, .dead)], [.arr k zs m' true]⟩ (.slice (some ⟨w.heap.size, 0, none⟩) n c) (w.drew.alloc (.cells (olds.toArray ++ news.toArray ++ Builtin.zeroCells z (c - n)) e)) := by
 have hk : Keeps (Free g H w (· = id)) w (w.drew.alloc (.cells (olds.toArray ++ news.toArray ++ Builtin.zeroCells z (c - n)) e)) := (Keeps.drew _ w).trans' (Keeps.alloc _ w.drew _) fun p _ h => h
 have hul := Rows2.len (ER.len k) hu
 have hL : ∀ b p, g.L b p → (w.drew.alloc (.cells (olds.toArray ++ news.toArray ++ Builtin.zeroCells z (c - n)) e)).cell? p = w.cell? p := fun b p hl => World.cell?_alloc_lt w.drew _ p (hI.lt b p hl).1
 have hsz : (olds.toArray ++ news.toArray ++ Builtin.zeroCells z (c - n)).size = c * k.size := by
  have : (olds ++ news).length = n * k.size := by rw [hul, hx]
  simp only [List.length_append] at this
  have h2 : (Builtin.zeroCells z (c - n)).size = (c - n) * k.size := by simp [Builtin.zeroCells, hzs]
  simp only [Array.size_append, List.size_toArray, h2]
  rw [Nat.sub_mul]
  have := Nat.mul_le_mul_right k.size hc
  omega
 refine Good.move hI hid hn hk ?_ ?_
 ·refine ⟨_, _, _, olds ++ news, if_pos rfl, hx, hc, Rows2.mono (ER.mono (fun p hp => hp) (fun p ⟨b, _, hp⟩ => hL b p hp) k) hu, .inr ⟨⟨w.heap.size, 0, none⟩, rfl, rfl, fun j u hj => ?_, fun j hj => ?_, fun h => by simp at h, fun _ => endFree_new w.drew _ e⟩⟩
  ·refine (new_cell w.drew _ e j u ?_).1
   simp only [Array.toList_append]
   rw [List.getElem?_append_left (by
    rcases Nat.lt_or_ge j (olds ++ news).length with h | h
    ·exact h
    ·rw [List.getElem?_eq_none h] at hj; simp at hj)]
   exact hj
  ·have hj' : j < (olds.toArray ++ news.toArray ++ Builtin.zeroCells z (c - n)).toList.length := by rw [Array.length_toList, hsz]; exact hj
   have := new_cell w.drew _ e j _ (List.getElem?_eq_getElem hj')
   rw [World.size_drew] at this
   exact ⟨by rw [this.1]; rfl, this.2⟩
 ·rintro p ⟨a, n', c', j, e', _, _, rfl⟩
  simp only [if_true, Loc.arr.injEq, Option.some.injEq] at e'
  exact .inr (by rw [← e'.1]; exact Nat.le_refl _)
theorem Good.moveF {w' : World} {nid id : Nat} {k : Kd} {xs ys : List (El k)} {m m' : List Nat} {A' : Option Addr} {n' c' : Nat} (hI : Inv M0 w0 g H w) (hid : H id = some (.arr k xs m false)) (hn : H nid = none)
  (hk : Keeps (Free g H w (· = id)) w w')
  (ho : ObR { g with loc := fun i => if i = nid then .arr A' n' c' else g.loc i, L := fun b p => g.L b p ∨ (b = 0 ∧ ∃ a j, A' = some a ∧ j < ys.length * k.size ∧ p = pl a j) } w' nid (.arr k ys m' false))
  (hm : ∀ p, MR { g with loc := fun i => if i = nid then .arr A' n' c' else g.loc i } nid (.arr k ys m' false) p → Free g H w (· = id) p)
  (hF : ∀ a j, A' = some a → j < ys.length * k.size → g.L 0 (pl a j) ∨ (Free g H w (· = id) (pl a j) ∧ (pl a j).block < w'.heap.size)) :
  Good M0 w0 g H w nid ⟨one1 (.slo nid), [(id, .dead)], [.arr k ys m' false]⟩ (.slice A' n' c') w' := by
 have he : Ext g { g with loc := fun i => if i = nid then .arr A' n' c' else g.loc i, L := fun b p => g.L b p ∨ (b = 0 ∧ ∃ a j, A' = some a ∧ j < ys.length * k.size ∧ p = pl a j) } := ⟨fun i hi => by
  show (if i = nid then _ else g.loc i) = _
  rw [if_neg]; rintro rfl; exact hi (hI.no _ hn), fun _ _ h => .inl h, rfl, fun b p hb h => h.resolve_right fun h => hb h.1⟩
 have hD : ∀ p, Free g H w (· = id) p → Free g H w (fun i => i = id ∨ i = nid) p := by
  rintro p (⟨i, o, rfl, h1, h2⟩ | h)
  ·exact .inl ⟨i, o, .inl rfl, h1, h2⟩
  ·exact .inr h
 have hne : id ≠ nid := by rintro rfl; rw [hid] at hn; simp at hn
 have hfr := hI.frame (w' := w') (g' := { g with loc := fun i => if i = nid then .arr A' n' c' else g.loc i, L := fun b p => g.L b p ∨ (b = 0 ∧ ∃ a j, A' = some a ∧ j < ys.length * k.size ∧ p = pl a j) }) (H' := apH H nid ⟨one1 (.slo nid), [(id, .dead)], [.arr k ys m' false]⟩) (fun i => i = id ∨ i = nid)
  (fun i hi => by rw [apH_mv]; simp only; rw [if_neg (fun h => hi (.inr h)), if_neg (fun h => hi (.inl h))])
  (fun i o hi hh => by
   rw [apH_mv] at hh
   rcases hi with rfl | rfl
   ·simp only [if_neg hne, if_true, Option.some.injEq] at hh
    subst hh
    refine ⟨?_, fun p hp => hp.elim⟩
    show (if i = nid then _ else g.loc i) ≠ _
    rw [if_neg hne]; exact ObR.loc (hI.ob _ _ hid)
   ·simp only [if_true, Option.some.injEq] at hh
    subst hh
    exact ⟨ho, fun p hp => hD p (hm p hp)⟩)
  (fun i j o o' p hij hi hj hh hh' hp hp' => by
   rw [apH_mv] at hh hh'
   rcases hi with rfl | rfl <;> rcases hj with rfl | rfl
   ·exact hij rfl
   ·simp only [if_neg hne, if_true, Option.some.injEq] at hh
    subst hh; exact hp
   ·simp only [if_neg hne, if_true, Option.some.injEq] at hh'
    subst hh'; exact hp'
   ·exact hij rfl)
  (by
   rintro b p (hb | ⟨rfl, a, j, ha, hj, rfl⟩)
   ·exact .inl hb
   ·rcases hF a j ha hj with h | ⟨h1, h2⟩
    ·exact .inl h
    ·refine .inr ⟨rfl, hD _ h1, ⟨h2, rfl⟩, fun i o hi hh hp => ?_⟩
     rw [apH_mv] at hh
     rcases hi with rfl | rfl
     ·simp only [if_neg hne, if_true, Option.some.injEq] at hh
      subst hh; exact hp
     ·simp only [if_true, Option.some.injEq] at hh
      subst hh
      obtain ⟨a2, n2, c2, j2, e2, h5, h6, h7⟩ := hp
      simp only [if_true, Loc.arr.injEq] at e2
      have e3 := e2.1
      rw [ha] at e3
      cases e3
      have := pl_inj h7
      simp at h5
      omega) (hk.mono fun p _ hp => hD p hp) he
  (fun i hi => by
   rw [apH_mv] at hi
   simp only at hi
   split at hi
   ·simp at hi
   ·rename_i hi1
    split at hi
    ·simp at hi
    ·show (if i = nid then _ else g.loc i) = _
     rw [if_neg hi1]; exact hI.no i hi)
 exact ⟨_, hfr.1, he, hfr.2, ⟨A', n', c', by simp, rfl⟩, hk.others⟩
theorem Good.grownF {nid id : Nat} {k : Kd} {xs zs : List (El k)} {m m' : List Nat} {olds news : List Value} {z : Array Value} {n c : Nat} (hI : Inv M0 w0 g H w) (hn : H nid = none) (hid : H id = some (.arr k xs m false))
  (hzs : z.size = k.size) (e : TypeId) (hc : n ≤ c) (hx : zs.length = n) (hu : Rows2 (ER w (SM g.L m') k) zs (olds ++ news)) :
  Good M0 w0 g H w nid ⟨one1 (.slo nid), [(id, .dead)], [.arr k zs m' false]⟩ (.slice (some ⟨w.heap.size, 0, none⟩) n c) (w.drew.alloc (.cells (olds.toArray ++ news.toArray ++ Builtin.zeroCells z (c - n)) e)) := by
 have hk : Keeps (Free g H w (· = id)) w (w.drew.alloc (.cells (olds.toArray ++ news.toArray ++ Builtin.zeroCells z (c - n)) e)) := (Keeps.drew _ w).trans' (Keeps.alloc _ w.drew _) fun p _ h => h
 have hul := Rows2.len (ER.len k) hu
 have hL : ∀ b p, g.L b p → (w.drew.alloc (.cells (olds.toArray ++ news.toArray ++ Builtin.zeroCells z (c - n)) e)).cell? p = w.cell? p := fun b p hl => World.cell?_alloc_lt w.drew _ p (hI.lt b p hl).1
 have hsz : (olds.toArray ++ news.toArray ++ Builtin.zeroCells z (c - n)).size = c * k.size := by
  have : (olds ++ news).length = n * k.size := by rw [hul, hx]
  simp only [List.length_append] at this
  have h2 : (Builtin.zeroCells z (c - n)).size = (c - n) * k.size := by simp [Builtin.zeroCells, hzs]
  simp only [Array.size_append, List.size_toArray, h2]
  rw [Nat.sub_mul]
  have := Nat.mul_le_mul_right k.size hc
  omega
 refine Good.moveF hI hid hn hk ?_ ?_ ?_
 ·refine ⟨_, _, _, olds ++ news, if_pos rfl, hx, hc, Rows2.mono (ER.mono (fun p ⟨b, hb, hl⟩ => ⟨b, hb, .inl hl⟩) (fun p ⟨b, _, hp⟩ => hL b p hp) k) hu, .inr ⟨⟨w.heap.size, 0, none⟩, rfl, rfl, fun j u hj => ?_, fun j hj => ?_, fun _ j hj => .inr ⟨rfl, _, j, rfl, by rw [← hul]; exact hj, rfl⟩, fun _ => endFree_new w.drew _ e⟩⟩
  ·refine (new_cell w.drew _ e j u ?_).1
   simp only [Array.toList_append]
   rw [List.getElem?_append_left (by
    rcases Nat.lt_or_ge j (olds ++ news).length with h | h
    ·exact h
    ·rw [List.getElem?_eq_none h] at hj; simp at hj)]
   exact hj
  ·have hj' : j < (olds.toArray ++ news.toArray ++ Builtin.zeroCells z (c - n)).toList.length := by rw [Array.length_toList, hsz]; exact hj
   have := new_cell w.drew _ e j _ (List.getElem?_eq_getElem hj')
   rw [World.size_drew] at this
   exact ⟨by rw [this.1]; rfl, this.2⟩
 ·rintro p ⟨a, n', c', j, e', _, _, rfl⟩
  simp only [if_true, Loc.arr.injEq, Option.some.injEq] at e'
  exact .inr (by rw [← e'.1]; exact Nat.le_refl _)
 ·intro a j ha hj
  cases ha
  refine .inr ⟨.inr (Nat.le_refl _), ?_⟩
  have hcj : j < c * k.size := Nat.lt_of_lt_of_le hj (Nat.mul_le_mul_right _ (by omega))
  have hj' : j < (olds.toArray ++ news.toArray ++ Builtin.zeroCells z (c - n)).toList.length := by rw [Array.length_toList, hsz]; exact hcj
  have h2 := new_cell w.drew _ e j _ (List.getElem?_eq_getElem hj')
  rw [World.size_drew] at h2
  exact World.block_lt_of_cell? _ _ h2.1
theorem pAppend_ok {E : Env} (hT : TtOk P E.tt) {t t2 ty nid : Nat} {r : Res1} (hI : Inv M0 w0 g H w) (hn : hasNew r = true → H nid = none) {s x : C} {su xu : Value} (hs : CR g w s su) (hx : CR g w x xu)  {l : List Nat} (h : pAppend E t t2 nid s x H = some (r, l)) (hg : r.g = true) :
  ∃ e v w', r.act = .done e ∧ (Builtin.append_ #[t, t2] ty #[su, xu]).run P w = .ok v w' ∧ Good M0 w0 g H w nid e v w' := by
 unfold pAppend at h
 cases hsq : isSeq E t2 with
 | false => rw [hsq] at h; exact (M.fail_some (H := H) h).elim
 | true =>
 rw [if_neg (by rw [hsq]; simp)] at h
 obtain ⟨d2, hd2, hd2'⟩ : ∃ d2, P.underlying t2 = some d2 ∧ (d2 = .string ∨ ∃ e', d2 = .slice e') := by
  unfold isSeq at hsq
  cases h2 : E.ti t2 with
  | none => rw [h2] at hsq; simp at hsq
  | some ti2 =>
   rw [h2] at hsq
   obtain ⟨i2, d2, hi2⟩ := Env.tiOk hT h2
   obtain ⟨a1, a2, a3, a4, a5⟩ := ti2
   cases a3 <;> simp at hsq
   ·exact ⟨d2, hi2.und, .inl (hi2.str rfl)⟩
   ·exact ⟨d2, hi2.und, .inr ⟨_, hi2.slice rfl⟩⟩
 cases ht : E.ti t with
 | none => rw [ht] at h; exact (M.fail_some (H := H) h).elim
 | some ti =>
  rw [ht] at h
  obtain ⟨i, d, hi⟩ := Env.tiOk hT ht
  obtain ⟨sz, by', td, kd, zc⟩ := ti
  cases td <;> try exact (M.fail_some (H := H) h).elim
  rename_i e
  obtain rfl := hi.slice rfl
  dsimp only at h
  cases he : E.ti e with
  | none => rw [he] at h; exact (M.fail_some (H := H) h).elim
  | some ei =>
   rw [he] at h
   obtain ⟨ie, de, hie⟩ := Env.tiOk hT he
   obtain ⟨esz, eby, etd, ekd, ezc⟩ := ei
   cases ekd with
   | none => exact (M.fail_some (H := H) h).elim
   | some k =>
    dsimp only at h
    split at h
    ·rename_i hcd
     obtain ⟨rfl, rfl, hb0⟩ := hcd
     obtain ⟨zv, hz1, hz2⟩ := hie.zero _ rfl
     have hz2 := zsOf_ok (g := g) (w := w) hz2
     have hzl : zv.cells.size = k.size := by
      have := hz2.len
      simp [zs_len] at this
      omega
     have hsz : ie.size = k.size := hie.size
     have hby : ie.bytes = eby := hie.bytes
     obtain ⟨sl, l1, l2, h1, h2, _⟩ := M.bind_some h
     have hxr : ∃ us, XR P w g.L sl xu us := by
      cases x with
      | str b =>
       dsimp only at h1
       split at h1
       ·cases M.ret_some (H := H) h1
        cases hx
        exact ⟨_, str_xr b g.L⟩
       ·exact (M.fail_some (H := H) h1).elim
      | _ =>
       obtain ⟨A, n, cp, us, hS⟩ := getSl_ok hI hx h1
       exact ⟨us, hS.xr⟩
     obtain ⟨news, hxr⟩ := hxr
     cases hcast : castL sl.k k sl.xs with
     | none => rw [hcast] at h2; exact (M.fail_some (H := H) h2).elim
     | some ys =>
      rw [hcast] at h2
      obtain ⟨m2, k2, ys2⟩ := sl
      unfold castL at hcast
      split at hcast
      ·rename_i hk
       dsimp only at hk
       subst hk
       cases hcast
       dsimp only at h2
       have hrows : Rows2 (ER w (SM g.L m2) k2) ys2 news := hxr.rows
       have hnl := Rows2.len (ER.len _) hrows
       cases s <;> try exact (M.fail_some (H := H) h2).elim
       ·-- an empty one
        obtain ⟨A, rfl⟩ := hs
        have hr := done_some h2
        subst hr
        simp only [decide_eq_true_eq] at hg
        rcases Nat.eq_zero_or_pos ys2.length with h0 | h0
        ·have hy : ys2 = [] := List.eq_nil_of_length_eq_zero h0
         subst hy
         cases hrows
         obtain ⟨w', hr1, hr2⟩ := run_append_fit t t2 ty e hi.und hd2 hd2' hie.info hz1 hxr hsz A 0 0 (by simp) (.inl rfl)
         have hw' : w' = w := by
          rcases hr2 with ⟨_, h⟩ | ⟨a, _, h⟩
          ·exact h
          ·rw [h]; rfl
         subst hw'
         refine ⟨_, _, _, rfl, hr1, ?_⟩
         refine Good.new (l := .arr A 0 0) hI (hn rfl) (Keeps.refl _ _) (by simp) ⟨A, 0, 0, [], if_pos rfl, rfl, Nat.le_refl _, rfl, .inl rfl⟩ ?_ ⟨A, 0, 0, if_pos rfl, rfl⟩
         rintro p ⟨a, n', c', j, e', _, hj, rfl⟩
         simp only [if_true, Loc.arr.injEq] at e'
         rw [← e'.2.2] at hj; simp at hj
        ·have hfit : ys2.length * ie.bytes ≤ 140737488355328 := by rw [hby]; exact hg
         have hl63 : ys2.length ≤ 140737488355328 := Nat.le_trans (Nat.le_mul_of_pos_right _ (by omega : 0 < ie.bytes)) hfit
         have hrun := run_append_new t t2 ty e hi.und hd2 hd2' hie.info hz1 hxr hsz A 0 0 [] (by cases A <;> simp [Builtin.firstCells, loadCells, loadCellsFrom]) (by simp; omega) (by simp; omega) (by
          have := growslice_fits (need := 0 + ys2.length) (old := 0) (bytes := ie.bytes) (by omega) (by simpa using hfit)
          exact this)
         refine ⟨_, _, _, rfl, hrun, ?_⟩
         have hge := grownCap_ge w (0 + ys2.length) 0 e
         refine Good.arr (w1 := w.drew.alloc _) hI (hn rfl) ((Keeps.drew _ w).trans' (Keeps.alloc _ w.drew _) fun p _ h => h) (fun b p hl => World.cell?_alloc_lt w.drew _ p (hI.lt b p hl).1) (us := #[] ++ news.toArray ++ Builtin.zeroCells zv.cells (grownCap w (0 + ys2.length) 0 e - (0 + ys2.length))) (t := e) (fz := (0, 0)) (by simp [World.alloc, World.drew, -World.alloc_eq, -World.drew_eq]) (fun j _ => by simp) (fun _ => by simp) (by simp) hge ?_ ?_
         ·have h2 : (Builtin.zeroCells zv.cells (grownCap w (0 + ys2.length) 0 e - (0 + ys2.length))).size = (grownCap w (0 + ys2.length) 0 e - (0 + ys2.length)) * k2.size := by simp [Builtin.zeroCells, hzl]
          simp only [Array.size_append, List.size_toArray, h2, hnl, Nat.sub_mul]
          have := Nat.mul_le_mul_right k2.size hge
          simp at this ⊢; omega
         ·have : (#[] ++ news.toArray ++ Builtin.zeroCells zv.cells (grownCap w (0 + ys2.length) 0 e - (0 + ys2.length))).toList.take ((0 + ys2.length) * k2.size) = news := by
           simp only [Array.toList_append, Nat.zero_add]
           rw [← hnl]
           simp
          rw [this]
          exact Rows2.mono (fun x y => ER.nm) hrows
       ·rename_i id
        obtain ⟨A, n, c, e', rfl⟩ := hs
        obtain ⟨o, l3, l4, h3, h4, _⟩ := M.bind_some h2
        have hid := M.get_some h3
        cases o <;> try exact (M.fail_some (H := H) h4).elim
        rename_i k' xs m b
        cases b
        ·dsimp only at h4
         cases hcast : castL k' k2 xs with
         | none => rw [hcast] at h4; exact (M.fail_some (H := H) h4).elim
         | some xs' =>
          rw [hcast] at h4
          unfold castL at hcast
          split at hcast
          ·rename_i hk
           subst hk
           cases hcast
           have hr := done_some h4
           subst hr
           simp only [decide_eq_true_eq] at hg
           obtain ⟨A', n', c', us, e2, hxl, hnc, hu, hcell⟩ := hI.ob _ _ hid
           rw [e'] at e2; cases e2
           have hul := Rows2.len (ER.len _) hu
           have hall : Rows2 (ER w (SM g.L (nm k' (un m m2))) k') (xs ++ ys2) (us ++ news) :=
            Rows2.append (Rows2.mono (fun x y hxy => ER.nm (ER.mono (fun p ⟨b, hb, hl⟩ => ⟨b, mem_un_l hb, hl⟩) (fun _ _ => rfl) k' x y hxy)) hu)
             (Rows2.mono (fun x y hxy => ER.nm (ER.mono (fun p ⟨b, hb, hl⟩ => ⟨b, mem_un_r hb, hl⟩) (fun _ _ => rfl) k' x y hxy)) hrows)
           by_cases hroom : n + ys2.length ≤ c
           ·have hnus : n * k'.size = us.length := by rw [hul, hxl]
            have hcs : us.length + news.length ≤ c * k'.size := by
             rw [← hnus, hnl, ← Nat.add_mul]; exact Nat.mul_le_mul_right _ hroom
            obtain ⟨w', hr1, hr2⟩ := run_append_fit t t2 ty e hi.und hd2 hd2' hie.info hz1 hxr hsz A n c hroom (by
             rcases hcell with h0 | ⟨a, ha, hsp, h5, h6, _⟩
             ·subst h0
              refine .inl (List.eq_nil_of_length_eq_zero ?_)
              rw [Nat.zero_mul] at hcs; omega
             ·refine .inr ⟨a, ha, hsp, fun j hj => ?_⟩
              have := h6 (us.length + j) (by omega)
              rw [hnus]
              simpa [pl, Nat.add_assoc] using this)
            refine ⟨_, _, _, rfl, hr1, ?_⟩
            have hcellw : ∀ a, A = some a → a.spot = none → (∀ j, j < c * k'.size → (w.cell? (pl a j)).isSome = true ∧ w.frozen? (pl a j) = false) → ∀ q, w'.cell? (pl a q) = if us.length ≤ q ∧ q < us.length + news.length then news[q - us.length]? else w.cell? (pl a q) := by
             intro a ha hsp h6 q
             rcases hr2 with ⟨h7, h8⟩ | ⟨a2, h7, h8⟩
             ·subst h7; subst h8; rw [if_neg (by simp)]
             ·rw [ha] at h7; cases h7
              have := cell_setCells a.block (a.off + us.length) news w (fun j hj => by
               have := (h6 (us.length + j) (by omega)).1
               simpa [pl, Nat.add_assoc] using this) (a.off + q)
              rw [h8, hnus]
              show World.cell? _ ⟨a.block, a.off + q, none⟩ = _
              rw [this]
              by_cases hq : us.length ≤ q ∧ q < us.length + news.length
              ·rw [if_pos (by omega), if_pos hq]; congr 1; omega
              ·rw [if_neg (by omega), if_neg hq]; rfl
            have hkeep : Keeps (MR g id (.arr k' xs m false)) w w' := by
             rcases hr2 with ⟨h7, h8⟩ | ⟨a2, h7, h8⟩
             ·rw [h8]; exact Keeps.refl _ _
             ·rw [h8]
              refine Keeps.setCells _ _ _ _ fun j hj => ⟨a2, n, c, us.length + j, by rw [e', h7], by simp only [Bool.false_eq_true, if_false]; omega, by omega, by simp [pl, hnus, Nat.add_assoc]⟩
            have hL : ∀ b p, g.L b p → w'.cell? p = w.cell? p := fun b p hl => hkeep.cell (hI.lt b p hl).1 (by
             rw [show (⟨p.block, p.off, none⟩ : Addr) = p from by have := (hI.lt b p hl).2; obtain ⟨x1, x2, x3⟩ := p; simp at this; rw [this]]
             exact fun hm => hI.st id _ p b hid hm hl)
            have hul2 : (us ++ news).length = (xs ++ ys2).length * k'.size := Rows2.len (ER.len _) hall
            refine Good.moveF hI hid (hn rfl) (hkeep.mono fun p _ hp => .inl ⟨id, _, rfl, hid, hp⟩) ?_ ?_ ?_
            ·refine ⟨_, _, _, us ++ news, if_pos rfl, by simp [hxl], hroom, Rows2.mono (ER.mono (fun p ⟨b, hb, hl⟩ => ⟨b, hb, .inl hl⟩) (fun p ⟨b, _, hp⟩ => hL b p hp) k') hall, ?_⟩
             by_cases hc0 : c = 0
             ·exact .inl hc0
             rcases hcell with h0 | ⟨a, ha, hsp, h5, h6, hend⟩
             ·exact .inl h0
             ·refine .inr ⟨a, ha, hsp, fun j u hj => ?_, fun j hj => ⟨hkeep.some (h6 j hj).1, ?_⟩, fun _ j hj => .inr ⟨rfl, a, j, ha, by rw [← hul2]; exact hj, rfl⟩, fun hk => ?_⟩
              ·rw [hcellw a ha hsp h6 j]
               rw [List.getElem?_append] at hj
               split at hj
               ·rw [if_neg (by omega)]; exact h5 j u hj
               ·rw [if_pos ⟨by omega, by
                 rcases Nat.lt_or_ge (j - us.length) news.length with h | h
                 ·omega
                 ·rw [List.getElem?_eq_none h] at hj; simp at hj⟩]
                exact hj
              ·obtain ⟨u, hu⟩ := Option.isSome_iff_exists.1 (h6 j hj).1
               rw [hkeep.frozen (World.block_lt_of_cell? w _ hu)]; exact (h6 j hj).2
              ·exact hkeep.endAt (t := 0) (h6 0 (Nat.mul_pos (Nat.pos_of_ne_zero hc0) (Kd.size_pos k'))).1 (hend.2 hk)
            ·rintro p ⟨a2, n4, c4, j, e4, hj, hj', rfl⟩
             simp only [if_true, Loc.arr.injEq] at e4
             obtain ⟨e5, rfl, rfl⟩ := e4
             refine .inl ⟨id, _, rfl, hid, a2, n, c, j, by rw [e', e5], ?_, hj', rfl⟩
             simp only [Bool.false_eq_true, if_false] at hj ⊢
             rw [← hul2, List.length_append] at hj
             omega
            ·intro a j ha hj
             rw [← hul2, List.length_append] at hj
             rcases hcell with h0 | ⟨a', ha', hsp, h5, h6, h7⟩
             ·subst h0
              rw [Nat.zero_mul] at hcs; omega
             ·rw [ha'] at ha; cases ha
              by_cases hju : j < us.length
              ·exact .inl (h7.1 rfl j hju)
              ·refine .inr ⟨.inl ⟨id, _, rfl, hid, a, n, c, j, by rw [e', ha'], ?_, by omega, rfl⟩, ?_⟩
               ·simp only [Bool.false_eq_true, if_false]
                omega
               ·obtain ⟨u, hu⟩ := Option.isSome_iff_exists.1 (hkeep.some (h6 j (by omega)).1)
                exact World.block_lt_of_cell? w' _ hu
           ·have hfit : (n + ys2.length) * ie.bytes ≤ 140737488355328 := by rw [hby, ← hxl]; exact hg
            have hl63 : n + ys2.length ≤ 140737488355328 := Nat.le_trans (Nat.le_mul_of_pos_right _ (by omega : 0 < ie.bytes)) hfit
            have hold : (Builtin.firstCells k'.size n (.slice A n c)).run P w.drew = .ok us.toArray w.drew := by
             rcases hcell with h0 | ⟨a, rfl, hsp, h5, _⟩
             ·subst h0
              have hn0 : n = 0 := by omega
              subst hn0
              rw [hxl] at hul
              simp at hul
              subst hul
              cases A <;> simp [Builtin.firstCells, loadCells, loadCellsFrom]
             ·simp only [Builtin.firstCells]
              rw [← hxl, ← hul]
              exact run_loadCells_list w.drew a us fun j v hj => by rw [add_pl hsp]; exact h5 j v hj
            have hrun := run_append_new t t2 ty e hi.und hd2 hd2' hie.info hz1 hxr hsz A n c us hold (by simp only; omega) (by simp only; omega) (growslice_fits (by simp only; omega) hfit)
            refine ⟨_, _, _, rfl, hrun, ?_⟩
            exact Good.grownF hI (hn rfl) hid hzl e (grownCap_ge w _ c e) (by simp [hxl]) hall
          ·simp at hcast
        ·dsimp only at h4
         cases hcast : castL k' k2 xs with
         | none => rw [hcast] at h4; exact (M.fail_some (H := H) h4).elim
         | some xs' =>
          rw [hcast] at h4
          unfold castL at hcast
          split at hcast
          ·rename_i hk
           subst hk
           cases hcast
           have hr := done_some h4
           subst hr
           simp only [decide_eq_true_eq] at hg
           obtain ⟨A', n', c', us, e2, hxl, hnc, hu, hcell⟩ := hI.ob _ _ hid
           rw [e'] at e2; cases e2
           have hul := Rows2.len (ER.len _) hu
           have hall : Rows2 (ER w (SM g.L (nm k' (un m m2))) k') (xs ++ ys2) (us ++ news) :=
            Rows2.append (Rows2.mono (fun x y hxy => ER.nm (ER.mono (fun p ⟨b, hb, hl⟩ => ⟨b, mem_un_l hb, hl⟩) (fun _ _ => rfl) k' x y hxy)) hu)
             (Rows2.mono (fun x y hxy => ER.nm (ER.mono (fun p ⟨b, hb, hl⟩ => ⟨b, mem_un_r hb, hl⟩) (fun _ _ => rfl) k' x y hxy)) hrows)
           by_cases hroom : n + ys2.length ≤ c
           ·have hnus : n * k'.size = us.length := by rw [hul, hxl]
            have hcs : us.length + news.length ≤ c * k'.size := by
             rw [← hnus, hnl, ← Nat.add_mul]; exact Nat.mul_le_mul_right _ hroom
            obtain ⟨w', hr1, hr2⟩ := run_append_fit t t2 ty e hi.und hd2 hd2' hie.info hz1 hxr hsz A n c hroom (by
             rcases hcell with h0 | ⟨a, ha, hsp, h5, h6, _⟩
             ·subst h0
              refine .inl (List.eq_nil_of_length_eq_zero ?_)
              rw [Nat.zero_mul] at hcs; omega
             ·refine .inr ⟨a, ha, hsp, fun j hj => ?_⟩
              have := h6 (us.length + j) (by omega)
              rw [hnus]
              simpa [pl, Nat.add_assoc] using this)
            refine ⟨_, _, _, rfl, hr1, ?_⟩
            have hcellw : ∀ a, A = some a → a.spot = none → (∀ j, j < c * k'.size → (w.cell? (pl a j)).isSome = true ∧ w.frozen? (pl a j) = false) → ∀ q, w'.cell? (pl a q) = if us.length ≤ q ∧ q < us.length + news.length then news[q - us.length]? else w.cell? (pl a q) := by
             intro a ha hsp h6 q
             rcases hr2 with ⟨h7, h8⟩ | ⟨a2, h7, h8⟩
             ·subst h7; subst h8; rw [if_neg (by simp)]
             ·rw [ha] at h7; cases h7
              have := cell_setCells a.block (a.off + us.length) news w (fun j hj => by
               have := (h6 (us.length + j) (by omega)).1
               simpa [pl, Nat.add_assoc] using this) (a.off + q)
              rw [h8, hnus]
              show World.cell? _ ⟨a.block, a.off + q, none⟩ = _
              rw [this]
              by_cases hq : us.length ≤ q ∧ q < us.length + news.length
              ·rw [if_pos (by omega), if_pos hq]; congr 1; omega
              ·rw [if_neg (by omega), if_neg hq]; rfl
            have hkeep : Keeps (MR g id (.arr k' xs m true)) w w' := by
             rcases hr2 with ⟨h7, h8⟩ | ⟨a2, h7, h8⟩
             ·rw [h8]; exact Keeps.refl _ _
             ·rw [h8]
              refine Keeps.setCells _ _ _ _ fun j hj => ⟨a2, n, c, us.length + j, by rw [e', h7], by simp, by omega, by simp [pl, hnus, Nat.add_assoc]⟩
            have hL : ∀ b p, g.L b p → w'.cell? p = w.cell? p := fun b p hl => hkeep.cell (hI.lt b p hl).1 (by
             rw [show (⟨p.block, p.off, none⟩ : Addr) = p from by have := (hI.lt b p hl).2; obtain ⟨x1, x2, x3⟩ := p; simp at this; rw [this]]
             exact fun hm => hI.st id _ p b hid hm hl)
            refine Good.move hI hid (hn rfl) (hkeep.mono fun p _ hp => .inl ⟨id, _, rfl, hid, hp⟩) ?_ ?_
            ·refine ⟨_, _, _, us ++ news, if_pos rfl, by simp [hxl], hroom, Rows2.mono (ER.mono (fun p hp => hp) (fun p ⟨b, _, hp⟩ => hL b p hp) k') hall, ?_⟩
             by_cases hc0 : c = 0
             ·exact .inl hc0
             rcases hcell with h0 | ⟨a, ha, hsp, h5, h6, hend⟩
             ·exact .inl h0
             ·refine .inr ⟨a, ha, hsp, fun j u hj => ?_, fun j hj => ⟨hkeep.some (h6 j hj).1, ?_⟩, fun h => by simp at h, fun hk => ?_⟩
              ·rw [hcellw a ha hsp h6 j]
               rw [List.getElem?_append] at hj
               split at hj
               ·rw [if_neg (by omega)]; exact h5 j u hj
               ·rw [if_pos ⟨by omega, by
                 rcases Nat.lt_or_ge (j - us.length) news.length with h | h
                 ·omega
                 ·rw [List.getElem?_eq_none h] at hj; simp at hj⟩]
                exact hj
              ·obtain ⟨u, hu⟩ := Option.isSome_iff_exists.1 (h6 j hj).1
               rw [hkeep.frozen (World.block_lt_of_cell? w _ hu)]; exact (h6 j hj).2
              ·exact hkeep.endAt (t := 0) (h6 0 (Nat.mul_pos (Nat.pos_of_ne_zero hc0) (Kd.size_pos k'))).1 (hend.2 hk)
            ·rintro p ⟨a2, n4, c4, j, e4, hj, hj', rfl⟩
             simp only [if_true, Loc.arr.injEq] at e4
             obtain ⟨e5, rfl, rfl⟩ := e4
             exact .inl ⟨id, _, rfl, hid, a2, n, c, j, by rw [e', e5], by simp, hj', rfl⟩
           ·have hfit : (n + ys2.length) * ie.bytes ≤ 140737488355328 := by rw [hby, ← hxl]; exact hg
            have hl63 : n + ys2.length ≤ 140737488355328 := Nat.le_trans (Nat.le_mul_of_pos_right _ (by omega : 0 < ie.bytes)) hfit
            have hold : (Builtin.firstCells k'.size n (.slice A n c)).run P w.drew = .ok us.toArray w.drew := by
             rcases hcell with h0 | ⟨a, rfl, hsp, h5, _⟩
             ·subst h0
              have hn0 : n = 0 := by omega
              subst hn0
              rw [hxl] at hul
              simp at hul
              subst hul
              cases A <;> simp [Builtin.firstCells, loadCells, loadCellsFrom]
             ·simp only [Builtin.firstCells]
              rw [← hxl, ← hul]
              exact run_loadCells_list w.drew a us fun j v hj => by rw [add_pl hsp]; exact h5 j v hj
            have hrun := run_append_new t t2 ty e hi.und hd2 hd2' hie.info hz1 hxr hsz A n c us hold (by simp only; omega) (by simp only; omega) (growslice_fits (by simp only; omega) hfit)
            refine ⟨_, _, _, rfl, hrun, ?_⟩
            exact Good.grown hI (hn rfl) hid hzl e (grownCap_ge w _ c e) (by simp [hxl]) hall
          ·simp at hcast
      ·simp at hcast
    ·exact (M.fail_some (H := H) h).elim
end Go.Proofs.YtdhifkdijlghdaaGreatDoorA
