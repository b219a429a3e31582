/-
  slices.Delete at rows that are taken whole. No condition.
  Printed by wip/amp/rowfn.py (a session's own program).
-/
import Derived.Shelf.RegionOpenPlain
import Derived.WalkKit
import Derived.Deep.LoopGhost
import Derived.Deep.RegionLaw
import Derived.Lib.Walk
import Derived.Sort.WalkB12
import Derived.Lib.SliceRun
import Derived.Lib.SlicesDelete
import Derived.Test.YtaanadbpnmcbcaaGreatDoorAExt
import Derived.Test.YtaanadbpnmcbcaaGreatDoorProg
namespace Go.Proofs.YtaanadbpnmcbcaaGreatDoorA
open Go Go.Shelf Go.RowKit Go.Lib Go.Sort
set_option linter.unusedVariables false
set_option linter.unusedSimpArgs false
/-- No contract yet: it says nothing of the call. -/
def slices_Insert_SLi_File_i_File (s : List (El (.pair .str (.pair .str (.int .i64))))) (i : Int) (v : List (El (.pair .str (.pair .str (.int .i64))))) : Option (List (El (.pair .str (.pair .str (.int .i64))))) := none
def slices_Insert_SLi_File_i_File.out : List (El (.pair .str (.pair .str (.int .i64)))) → CRes := fun a => ⟨encL SV.enc [.one (.own [] (.pair .str (.pair .str (.int .i64))) true)] (a, ()), [encL SC.enc [] (), encL SC.enc [] (), encL SC.enc [] ()]⟩
def slices_Insert_SLi_File_i_File.ps : List PS := [.val [some (.pair .str (.pair .str (.int .i64)), true)], .val [none], .val [some (.pair .str (.pair .str (.int .i64)), false)]]
def slices_Insert_SLi_File_i_File.sA : List SA := [.v (.one (.own [] (.pair .str (.pair .str (.int .i64))) true)), .v (.one (.int .i64)), .v (.one (.slv [] (.pair .str (.pair .str (.int .i64)))))]
def slices_Insert_SLi_File_i_File.fi : FI := FIs slices_Insert_SLi_File_i_File.sA (List (El (.pair .str (.pair .str (.int .i64))))) (fun t => slices_Insert_SLi_File_i_File t.1 t.2.1 t.2.2.1) slices_Insert_SLi_File_i_File.out slices_Insert_SLi_File_i_File.ps
theorem slices_Insert_SLi_File_i_File.fok : FOk Tryz.prog 149 slices_Insert_SLi_File_i_File.fi := ⟨⟨_, _, Tryz.func149, by kernel_rfl, rfl⟩, fun args a ha => by
  obtain ⟨t, _, h2⟩ := Option.bind_eq_some_iff.1 ha
  cases h2⟩

theorem slices_Delete_SLi_File_i_File.zc (z : Value) (n : Nat) : (Builtin.zeroCells z.cells n).toList.length = n * z.cells.size := by simp [Builtin.zeroCells]
theorem slices_Delete_SLi_File_i_File.info : (Tryz.prog.info? 97).map (fun i => (i.zero, i.size, i.bytes)) = some (some (.agg #[.string ⟨#[]⟩, .string ⟨#[]⟩, .int .i64 0]), 3, 40) := by kernel_rfl
theorem slices_Delete_SLi_File_i_File.clear (w : World) (ty : TypeId) (b o n c : Nat) (hn : 0 < n) (zs : List Value) (hz : zs = (Builtin.zeroCells #[.string ⟨#[]⟩, .string ⟨#[]⟩, .int .i64 0] n).toList)
    (hc : ∀ j, j < n * 3 → (w.cell? ⟨b, o + j, none⟩).isSome = true ∧ w.frozen? ⟨b, o + j, none⟩ = false) :
    (Builtin.clear_ #[26] ty #[.slice (some ⟨b, o, none⟩) n c]).run Tryz.prog w = .ok (.tuple #[]) (w.setCells b o zs) := by
  have hl : zs.length = n * 3 := by rw [hz]; simp [Builtin.zeroCells]
  have h1 : ∀ u ∈ zs, u.oneCell' = true := by
    intro u hu
    rw [hz] at hu
    simp only [Builtin.zeroCells, Array.toList_map, List.mem_map] at hu
    obtain ⟨i, _, rfl⟩ := hu
    have h3 : i % 3 < 3 := Nat.mod_lt _ (by decide)
    generalize hq : i % 3 = q at h3
    rcases (show q = 0 ∨ q = 1 ∨ q = 2 by omega) with rfl | rfl | rfl <;> rfl
  have hst := run_storeCells_cells (P := Tryz.prog) b o zs 0 w (by rw [hl]; intro j hj; rw [Nat.add_zero]; exact (hc j hj).1) (by rw [hl]; intro j hj; rw [Nat.add_zero]; exact (hc j hj).2) h1
  simp only [Nat.add_zero] at hst
  obtain ⟨m, rfl⟩ : ∃ m, n = m + 1 := ⟨n - 1, by omega⟩
  have hz' : (Value.agg #[Value.string ⟨#[]⟩, Value.string ⟨#[]⟩, Value.int .i64 0]).cells = #[Value.string ⟨#[]⟩, Value.string ⟨#[]⟩, Value.int .i64 0] := rfl
  simp [Builtin.clear_, run_underlying Tryz.underlying26, Tryz.zeroValue97, hz', ← hz, hst]
set_option maxHeartbeats 4000000 in
set_option maxRecDepth 1000000 in
theorem slices_Delete_SLi_File_i_File.walk (blk off n cap i j : Nat) (us zs : List Value) (w : World) (hul : us.length = n * 3) (hu : ∀ t u, us[t]? = some u → w.cell? ⟨blk, off + t, none⟩ = some u) (h1 : ∀ u ∈ us, u.oneCell' = true)
    (hc : ∀ t, t < cap * 3 → (w.cell? ⟨blk, off + t, none⟩).isSome = true ∧ w.frozen? ⟨blk, off + t, none⟩ = false) (hcap : n ≤ cap) (hij : i < j) (hj : j ≤ n) (hz : zs = (Builtin.zeroCells #[.string ⟨#[]⟩, .string ⟨#[]⟩, .int .i64 0] (j - i)).toList) :
    Calls Tryz.prog 107 #[.slice (some ⟨blk, off, none⟩) n cap, .int .i64 i, .int .i64 j] w fun e w' => e = .returned (.slice (some ⟨blk, off, none⟩) (n - (j - i)) cap) ∧ w' = (w.drew.setCells blk (off + i * 3) (us.drop (j * 3))).setCells blk (off + (n - (j - i)) * 3) zs := by
  obtain ⟨i0, hi0, hz0, hz1, hz2⟩ := info_parts slices_Delete_SLi_File_i_File.info
  obtain ⟨news, hnews⟩ : ∃ news, news = us.drop (j * 3) := ⟨_, rfl⟩
  have hlen : news.length = (n - j) * 3 := by rw [hnews, List.length_drop, hul, Nat.sub_mul]
  have hget : ∀ t, t < news.length → news[t]? = us[j * 3 + t]? := by intro t ht; rw [hnews, List.getElem?_drop]
  obtain ⟨A, hA, hsrc⟩ : ∃ A : Addr, (if cap = j then some (⟨blk, off, none⟩ : Addr) else some ⟨blk, off + j * 3, none⟩) = some A ∧ Hid (∀ t u, news[t]? = some u → w.drew.cell? (A.add t) = some u) := by
    by_cases h : cap = j
    · refine ⟨⟨blk, off, none⟩, by simp [h], fun t u hu => ?_⟩
      have h0 : news.length = 0 := by rw [hlen]; omega
      rw [List.length_eq_zero_iff.1 h0] at hu
      simp at hu
    · refine ⟨⟨blk, off + j * 3, none⟩, by simp [h], fun t u hu' => ?_⟩
      rw [hnews, List.getElem?_drop] at hu'
      rw [Addr.add_lit, show off + j * 3 + t = off + (j * 3 + t) by omega]
      exact hu _ _ hu'
  have s1 : Hid (news.length = (n - j) * 3) := hlen
  have s2 : Hid (∀ u ∈ news, u.oneCell' = true) := by
    intro u hu
    rw [hnews] at hu
    exact h1 u (List.mem_of_mem_drop hu)
  have s3 : Hid (∀ t, t < news.length → (w.drew.cell? ⟨blk, off + i * 3 + t, none⟩).isSome = true ∧ w.drew.frozen? ⟨blk, off + i * 3 + t, none⟩ = false) := by
    intro t ht
    rw [hlen] at ht
    rw [Nat.add_assoc]
    exact hc _ (by omega)
  obtain ⟨W1, hW1⟩ : ∃ W1, W1 = w.drew.setCells blk (off + i * 3) news := ⟨_, rfl⟩
  have hcl : ∀ ty, (Builtin.clear_ #[26] ty #[.slice (some ⟨blk, off + (i + (n - j)) * 3, none⟩) (n - (i + (n - j))) (cap - (i + (n - j)))]).run Tryz.prog W1 = .ok (.tuple #[]) (W1.setCells blk (off + (i + (n - j)) * 3) zs) := by
    intro ty
    refine slices_Delete_SLi_File_i_File.clear W1 ty blk _ _ _ (by omega) zs (by rw [hz]; congr 2; omega) fun t ht => ?_
    have hb : (i + (n - j)) * 3 + t < cap * 3 := by omega
    have h0 := hc _ hb
    rw [hW1, Nat.add_assoc]
    have e := cell_setCells blk (off + i * 3) news w.drew (fun t ht => by rw [Nat.add_assoc]; exact (hc (i * 3 + t) (by omega)).1) (off + ((i + (n - j)) * 3 + t))
    constructor
    · rw [e]
      split
      · rename_i h
        rw [List.getElem?_eq_getElem (by omega)]
        rfl
      · exact h0.1
    · rw [World.frozen?_setCells]; exact h0.2
  have hW : Hid (W1 = w.drew.setCells blk (off + i * 3) news) := hW1
  have hic : i ≤ cap := by omega
  have hjc : j ≤ cap := by omega
  have hN : n - (j - i) = i + (n - j) := by omega
  rw [hN, ← hnews, ← hW1]
  have mixed : Tryz.prog.follows .mixedOrders = true := by kernel_rfl
  clear hW1 hc hu hget hnews hlen hul h1 hz
  go_enter Tryz.func107, Tryz.ntmps107
  go_wp2_with fail
  go_region_law_o (refine step_append_room rfl (.tmp 22) (.tmp 25) 26 rfl 97 i0 3 Tryz.underlying26 hi0 hz1 blk off i cap (by simp [Act.eval, Act.put]) A (n - j) (cap - j) news (by simp [Act.eval, Act.put]) s1.out hsrc.out s2.out (by omega) s3.out ?_; rw [← hW.out])
  go_wp2
  go_ret
  exact ⟨rfl, rfl⟩

noncomputable def slices_Delete_SLi_File_i_File.F {R : Type} (kk : List (El (.pair .str (.pair .str (.int .i64)))) → Option R) (s : List (El (.pair .str (.pair .str (.int .i64))))) (i j : Int) : Option R := grd (decide (0 ≤ i) && (decide (i < j) && decide (j ≤ s.length))) <| kk (s.take i.toNat ++ s.drop j.toNat)
noncomputable def slices_Delete_SLi_File_i_File (s : List (El (.pair .str (.pair .str (.int .i64))))) (i j : Int) : Option (List (El (.pair .str (.pair .str (.int .i64))))) := slices_Delete_SLi_File_i_File.F (fun y0 => some y0) s i j
def slices_Delete_SLi_File_i_File.out : List (El (.pair .str (.pair .str (.int .i64)))) → CRes := fun a => ⟨encL SV.enc [.one (.own [] (.pair .str (.pair .str (.int .i64))) true)] (a, ()), [encL SC.enc [] (), encL SC.enc [] (), encL SC.enc [] ()]⟩
def slices_Delete_SLi_File_i_File.ps : List PS := [.val [some (.pair .str (.pair .str (.int .i64)), true)], .val [none], .val [none]]
def slices_Delete_SLi_File_i_File.sA : List SA := [.v (.one (.own [] (.pair .str (.pair .str (.int .i64))) true)), .v (.one (.int .i64)), .v (.one (.int .i64))]
noncomputable def slices_Delete_SLi_File_i_File.fi : FI := FIs slices_Delete_SLi_File_i_File.sA (List (El (.pair .str (.pair .str (.int .i64))))) (fun t => slices_Delete_SLi_File_i_File t.1 t.2.1 t.2.2.1) slices_Delete_SLi_File_i_File.out slices_Delete_SLi_File_i_File.ps
theorem slices_Delete_SLi_File_i_File.core {s a : List (El (.pair .str (.pair .str (.int .i64))))} {i j : Int} (h2 : slices_Delete_SLi_File_i_File s i j = some a) {M0 : Addr → Prop} {w : World} {g : Gh} {m : List Nat} (hI : Inv M0 w g (fun i => ([Ob.arr (.pair .str (.pair .str (.int .i64))) s m true] : List Ob)[i]?) w) {A : Option Addr} {n c : Nat} (hloc : g.loc 0 = .arr A n c) :
    Calls Tryz.prog 107 #[.slice A n c, .int .i64 i, .int .i64 j] w fun e w' => ∃ A' n' c', e = .returned (.slice A' n' c') ∧ Inv M0 w { g with loc := fun i => if i = 0 then .arr A' n' c' else .none } (fun i => ([Ob.arr (.pair .str (.pair .str (.int .i64))) a [] true] : List Ob)[i]?) w' ∧ (∀ b p, g.L b p → w'.cell? p = w.cell? p) := by
  have h2' : grd (decide (0 ≤ i) && (decide (i < j) && decide (j ≤ s.length))) (some (s.take i.toNat ++ s.drop j.toNat)) = some a := h2
  cases hg : decide (0 ≤ i) && (decide (i < j) && decide (j ≤ (List.length s : Int))) with
  | false => rw [hg] at h2'; cases h2'
  | true =>
    rw [hg] at h2'
    obtain rfl := Option.some.inj h2'
    rw [Bool.and_eq_true, Bool.and_eq_true, decide_eq_true_iff, decide_eq_true_iff, decide_eq_true_iff] at hg
    obtain ⟨g0, g1, g2⟩ := hg
    obtain ⟨A', n', c', us, e2, hxl, hnc, hu, hcell⟩ := hI.ob 0 _ rfl
    rw [hloc] at e2
    cases e2
    obtain ⟨i, rfl⟩ : ∃ q : Nat, i = q := ⟨i.toNat, by omega⟩
    obtain ⟨j, rfl⟩ : ∃ q : Nat, j = q := ⟨j.toNat, by omega⟩
    have hul := Rows2.len (ER.len _) hu
    have k3 : Kd.size (.pair .str (.pair .str (.int .i64))) = 3 := rfl
    rw [k3] at hul
    have hone := rows_one (L := g.L) hu
    rcases hcell with h0 | ⟨⟨blk, off, sp⟩, rfl, hsp, h5, h6, _, hef⟩
    · omega
    · have hsp : sp = none := hsp
      subst hsp
      rw [k3] at h6
      have h5' : ∀ (t : Nat) (u : Value), us[t]? = some u → w.cell? ⟨blk, off + t, none⟩ = some u := fun t u h => h5 t u h
      have h6' : ∀ t, t < c * 3 → (w.cell? ⟨blk, off + t, none⟩).isSome = true ∧ w.frozen? ⟨blk, off + t, none⟩ = false := fun t ht => h6 t ht
      obtain ⟨zs, hz⟩ : ∃ zs, zs = (Builtin.zeroCells #[.string ⟨#[]⟩, .string ⟨#[]⟩, .int .i64 0] (j - i)).toList := ⟨_, rfl⟩
      have hzl : zs.length = (j - i) * 3 := by rw [hz]; simp [Builtin.zeroCells]
      have hul' : us.length = n * 3 := by rw [hul, hxl]
      have hcl := slices_Delete_SLi_File_i_File.walk blk off n c i j us zs w hul' h5' hone h6' hnc (by omega) (by omega) hz
      refine hcl.mono ?_
      rintro e w' ⟨rfl, rfl⟩
      have hnl : (us.drop (j * 3)).length = (n - j) * 3 := by rw [List.length_drop, hul', Nat.sub_mul]
      have hd6 : ∀ t, t < c * 3 → (w.drew.cell? ⟨blk, off + t, none⟩).isSome = true := fun t ht => (h6' t ht).1
      have c1 : ∀ q, (w.drew.setCells blk (off + i * 3) (us.drop (j * 3))).cell? ⟨blk, q, none⟩ = if off + i * 3 ≤ q ∧ q < off + i * 3 + (us.drop (j * 3)).length then (us.drop (j * 3))[q - (off + i * 3)]? else w.drew.cell? ⟨blk, q, none⟩ := fun q => cell_setCells blk (off + i * 3) (us.drop (j * 3)) w.drew (fun t ht => by rw [Nat.add_assoc]; exact hd6 _ (by omega)) q
      have hd7 : ∀ t, t < c * 3 → ((w.drew.setCells blk (off + i * 3) (us.drop (j * 3))).cell? ⟨blk, off + t, none⟩).isSome = true := by
        intro t ht
        rw [c1]
        split
        · rename_i h
          rw [List.getElem?_eq_getElem (by omega)]
          rfl
        · exact hd6 t ht
      have c2 : ∀ q, ((w.drew.setCells blk (off + i * 3) (us.drop (j * 3))).setCells blk (off + (n - (j - i)) * 3) zs).cell? ⟨blk, q, none⟩ = if off + (n - (j - i)) * 3 ≤ q ∧ q < off + (n - (j - i)) * 3 + zs.length then zs[q - (off + (n - (j - i)) * 3)]? else (w.drew.setCells blk (off + i * 3) (us.drop (j * 3))).cell? ⟨blk, q, none⟩ := fun q => cell_setCells blk _ zs _ (fun t ht => by rw [Nat.add_assoc]; exact hd7 _ (by omega)) q
      have hrows := Rows2.append (Rows2.take (ER.len (w := w) (S := SM g.L m) (.pair .str (.pair .str (.int .i64)))) i hu) (Rows2.drop (ER.len (w := w) (S := SM g.L m) (.pair .str (.pair .str (.int .i64)))) j hu)
      have hkeep : Keeps (MR g 0 (.arr (.pair .str (.pair .str (.int .i64))) s m true)) w ((w.drew.setCells blk (off + i * 3) (us.drop (j * 3))).setCells blk (off + (n - (j - i)) * 3) zs) := by
        refine ((Keeps.drew _ w).trans' (Keeps.setCells _ _ _ _ fun t ht => ?_) fun p _ h => h).trans' (Keeps.setCells _ _ _ _ fun t ht => ?_) fun p _ h => h
        · exact ⟨⟨blk, off, none⟩, n, c, i * 3 + t, hloc, by simp, by rw [k3]; omega, by simp [pl, Nat.add_assoc]⟩
        · exact ⟨⟨blk, off, none⟩, n, c, (n - (j - i)) * 3 + t, hloc, by simp, by rw [k3]; omega, by simp [pl, Nat.add_assoc]⟩
      have htl : (us.take (i * 3)).length = i * 3 := by rw [List.length_take, hul']; omega
      have q1 : ∀ (t : Nat) (u : Value), (us.take (i * 3) ++ us.drop (j * 3))[t]? = some u → ((w.drew.setCells blk (off + i * 3) (us.drop (j * 3))).setCells blk (off + (n - (j - i)) * 3) zs).cell? (pl ⟨blk, off, none⟩ t) = some u := by
        intro t u ht
        have hlt : t < (us.take (i * 3) ++ us.drop (j * 3)).length := by
          rcases Nat.lt_or_ge t (us.take (i * 3) ++ us.drop (j * 3)).length with h | h
          · exact h
          · rw [List.getElem?_eq_none h] at ht; cases ht
        rw [List.length_append, htl, hnl] at hlt
        show World.cell? _ ⟨blk, off + t, none⟩ = some u
        rw [c2, if_neg (by omega), c1]
        rw [List.getElem?_append, htl] at ht
        split at ht
        · rw [if_neg (by omega)]
          rw [List.getElem?_take, if_pos (by assumption)] at ht
          exact h5' t u ht
        · rw [if_pos (by omega), show off + t - (off + i * 3) = t - i * 3 by omega]
          exact ht
      have q2 : ∀ t, t < c * Kd.size (.pair .str (.pair .str (.int .i64))) → (((w.drew.setCells blk (off + i * 3) (us.drop (j * 3))).setCells blk (off + (n - (j - i)) * 3) zs).cell? (pl ⟨blk, off, none⟩ t)).isSome = true ∧ ((w.drew.setCells blk (off + i * 3) (us.drop (j * 3))).setCells blk (off + (n - (j - i)) * 3) zs).frozen? (pl ⟨blk, off, none⟩ t) = false := by
        intro t ht
        rw [k3] at ht
        constructor
        · show (World.cell? _ ⟨blk, off + t, none⟩).isSome = true
          rw [c2]
          split
          · rename_i h
            rw [List.getElem?_eq_getElem (by omega)]
            rfl
          · exact hd7 t ht
        · rw [World.frozen?_setCells, World.frozen?_setCells]
          exact (h6' t ht).2
      have q3 : ∀ (a : Addr) (t : Nat), some (⟨blk, off, none⟩ : Addr) = some a → t < c * Kd.size (.pair .str (.pair .str (.int .i64))) → MR g 0 (.arr (.pair .str (.pair .str (.int .i64))) s m true) (pl a t) ∨ w.heap.size ≤ (pl a t).block := by
        intro a t ha ht
        cases ha
        exact .inl ⟨⟨blk, off, none⟩, n, c, t, hloc, by simp, ht, rfl⟩
      obtain ⟨i1, i2⟩ := row_out (k := .pair .str (.pair .str (.int .i64))) (ys := s.take i ++ s.drop j) (m' := []) (A' := some ⟨blk, off, none⟩) (n' := n - (j - i)) (c' := c) rfl hI (by simp; omega) (by omega) (Rows2.mono (fun x y h => ER.flat _ x y rfl h) hrows)
        (.inr ⟨⟨blk, off, none⟩, rfl, rfl, q1, q2, fun hk => hkeep.endAt (a := ⟨blk, off, none⟩) (t := 0) (h6' 0 (by omega)).1 (hef hk)⟩) hkeep q3
      exact ⟨_, _, _, rfl, i1, i2⟩
theorem slices_Delete_SLi_File_i_File.fok : FOk Tryz.prog 107 slices_Delete_SLi_File_i_File.fi := by
  refine ⟨⟨_, _, Tryz.func107, by kernel_rfl, rfl⟩, fun args a ha tvs h xs gs he w g M0 us hI hl hfv hus => ?_⟩
  obtain ⟨t, h1, h2⟩ := Option.bind_eq_some_iff.1 ha
  obtain ⟨r1, rfl, k1⟩ := decV1 h1
  obtain ⟨r2, rfl, k2⟩ := decV1 k1
  obtain ⟨r3, rfl, k4⟩ := decV1 k2
  obtain rfl := decV0 k4
  obtain ⟨s, i, j, u⟩ := t
  have he' : some (([one1 (.slo 0), one1 (.int .i64 i), one1 (.int .i64 j)], [.arr (.pair .str (.pair .str (.int .i64))) s [] true], [⟨none, [0]⟩, ⟨none, []⟩, ⟨none, []⟩], []) : List TV × List Ob × List Exit1 × List GV) = some (tvs, h, xs, gs) := he
  simp only [Option.some.injEq, Prod.mk.injEq] at he'
  obtain ⟨rfl, rfl, rfl, rfl⟩ := he'
  match us, hus with
  | [u0, u1, u2], hus =>
    obtain ⟨⟨A, n, c, hloc, rfl⟩, hu1, hu2, _⟩ := hus
    have hu1 : u1 = .int .i64 i := hu1
    have hu2 : u2 = .int .i64 j := hu2
    subst hu1
    subst hu2
    refine (slices_Delete_SLi_File_i_File.core h2 hI hloc).mono ?_
    rintro e w' ⟨A', n', c', rfl, i1, i2⟩
    exact ⟨_, [.one (.slo 0)], [.arr (.pair .str (.pair .str (.int .i64))) a [] true], [], _, rfl, rfl, i1, ⟨A', n', c', rfl, rfl⟩, fun i j h => by simp at h, fun b p _ h => h, i2⟩

end Go.Proofs.YtaanadbpnmcbcaaGreatDoorA
