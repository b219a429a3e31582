/-
  slices.Delete and slices.Insert at rows that are taken whole. No condition.
  Printed by wip/amp/rowfn.py (a session's own program).
-/
import Derived.Shelf.Spec.SlicesInsertGrow
import Derived.Shelf.RegionOpenPlain
import Derived.WalkKit
import Derived.Deep.LoopGhost
import Derived.Deep.RegionLaw
import Derived.Lib.Walk
import Derived.Sort.WalkB12
import Derived.Lib.SliceRun
import Derived.Lib.SlicesDelete
import Derived.Test.YtaanadbpnmcbcaaGreatDoorAExt
import Derived.Test.YtaanadbpnmcbcaaGreatDoorProg
namespace Go.Proofs.YtaanadbpnmcbcaaGreatDoorA
open Go Go.Shelf Go.RowKit Go.Lib Go.Sort
set_option linter.unusedVariables false
set_option linter.unusedSimpArgs false
theorem gq149.copyN {P : Program} (w : World) (dT sT ty elem : TypeId) (k b o dLen dCap : Nat) (a : Addr) (sLen sCap n : Nat) (cs : List Value)
  (hu : P.underlying dT = some (.slice elem)) (hs : (P.info? elem).map (·.size) = some k) (hm : Nat.min sLen dLen = n) (hn : cs.length = n * k)
  (hsrc : ∀ j v, cs[j]? = some v → w.cell? (a.add j) = some v) (hc : ∀ j, j < cs.length → (w.cell? ⟨b, o + j, none⟩).isSome = true) (hf : ∀ j, j < cs.length → w.frozen? ⟨b, o + j, none⟩ = false) (h1 : ∀ v ∈ cs, v.oneCell' = true) :
  (Builtin.copy_ #[dT, sT] ty #[.slice (some ⟨b, o, none⟩) dLen dCap, .slice (some a) sLen sCap]).run P w = .ok (goInt n) (w.setCells b o cs) := by
 have hl := run_loadCells_list (P := P) w a cs hsrc
 have hst := run_storeCells_cells (P := P) b o cs 0 w (by simpa using hc) (by simpa using hf) h1
 cases hq : P.info? elem with
 | none => simp [hq] at hs
 | some i =>
  have hi : i.size = k := by simpa [hq] using hs
  simp [Builtin.copy_, run_underlying hu, Builtin.lenOf, Builtin.firstCells, sizeOf, typeInfo, hq, hi, hm, ← hn, hl, hst]
theorem gq149.overlapsR {P : Program} (w : World) (tS tR e : TypeId) (ht : P.underlying tS = some (.slice e)) (size : Nat) (hz : ∀ w, (Go.sizeOf e).run P w = .ok size w)
  (a b : Addr) (la ca lb cb : Nat) (hap : a.block = b.block → b.off + lb * size ≤ a.off ∨ a.off + la * size ≤ b.off) (hfb : w.frozen? b = false) (hc : (w.cell? b).isSome = true) (hfe : u4d w b.block) (tA : TypeId) (kA : Nat) (hsa : w.shape? a.block = some (tA, kA)) (hkA : kA ≠ 0) :
  (Extern.SlicesOverlaps.overlaps #[tS, tS] #[tR] #[.slice (some a) la ca, .slice (some b) lb cb]).run P w = .ok (.bool false) w := by
 change Sem.run P (α := Value) (do
  let some t := (#[tS, tS] : Array TypeId)[0]? | stuck "slices.overlaps: no parameter types"
  let .slice elem ← underlying t | stuck "slices.overlaps: slice type expected"
  let size ← sizeOf elem
  match (some a : Option Addr), (some b : Option Addr) with
  | some a, some b =>
   if la = 0 ∨ lb = 0 ∨ size = 0 then pure (Value.bool false)
   else if a.block != b.block && (← frozen a) && (← frozen b) then unsupported .addressObserved
   else do
    if a.block != b.block then do
     noView a; noView b
     if ← mayBeOne a b then return Value.bool ((← choose (.extern "sameAddr.stringBytes" 2)) == 1)
    pure (Value.bool (a.block == b.block && a.off < b.off + lb * size && b.off < a.off + la * size))
  | _, _ => pure (Value.bool false)) w = _
 by_cases h0 : la = 0 ∨ lb = 0 ∨ size = 0
 ·simp [run_underlying ht, hz, h0]
 ·by_cases hb : a.block = b.block
  ·have hnb : (a.block != b.block) = false := by simpa using hb
   have hnb' : (a.block == b.block) = true := by simpa using hb
   have hx : (decide (a.off < b.off + lb * size) && decide (b.off < a.off + la * size)) = false := by
    rw [← Bool.not_eq_true, Bool.and_eq_true, decide_eq_true_iff, decide_eq_true_iff]
    rcases hap hb with h | h <;> omega
   simp [run_underlying ht, hz, h0, hnb, hnb', frozen, Sem.run, hfb, hx]
  ·have hnb : (a.block != b.block) = true := by simpa using hb
   have hnb' : (a.block == b.block) = false := by simpa using hb
   obtain ⟨c, e', fz, hh⟩ : ∃ c e fz, w.heap[b.block]? = some (.cells c e fz) := by
    cases hh : w.heap[b.block]? with
    | none => simp [World.cell?, hh] at hc
    | some o =>
     cases o with
     | cells c e fz => exact ⟨c, e, fz, rfl⟩
     | _ => simp [World.cell?, hh] at hc
   have hsb : w.shape? b.block = some (e', c.size) := by simp [World.shape?, hh]
   have hcs : c.size ≠ 0 := by
    intro h0
    have : c = #[] := Array.eq_empty_of_size_eq_zero h0
    subst this
    simp [World.cell?, hh] at hc
   have hfe' := hfe e' c.size hsb
   obtain ⟨s1, hs1⟩ : ∃ s, c.size = s + 1 := ⟨c.size - 1, by omega⟩
   obtain ⟨k1, hk1⟩ : ∃ s, kA = s + 1 := ⟨kA - 1, by omega⟩
   rw [hs1] at hsb hfe'
   subst hk1
   cases hfa : w.frozen? a <;> cases hfx : w.frozen? ⟨a.block, k1 + 1, none⟩ <;>
    simp [run_underlying ht, hz, h0, hnb, hnb', frozen, noView, viewAt, mayBeOne, stringish, shape, Sem.run, hsa, hsb, hfa, hfb, hfe', hfx]
theorem gq149.info : (Tryz.prog.info? 97).map (fun i => (i.zero, i.size, i.bytes)) = some (some (.agg #[.string ⟨#[]⟩, .string ⟨#[]⟩, .int .i64 0]), 3, 40) := by kernel_rfl
set_option maxHeartbeats 4000000 in
set_option maxRecDepth 100000 in
theorem gq149.end_room (b off n c vb voff m vc : Nat) (vs : List Value) (w : World) (hm : 0 < m) (hroom : n + m ≤ c)
  (hvl : vs.length = m * 3) (hsp : ∀ j, j < m * 3 → (w.cell? ⟨b, off + n * 3 + j, none⟩).isSome = true) (hfz : ∀ j, j < m * 3 → w.frozen? ⟨b, off + n * 3 + j, none⟩ = false)
  (hvs : ∀ j v, vs[j]? = some v → w.cell? ⟨vb, voff + j, none⟩ = some v) (h1v : ∀ v ∈ vs, v.oneCell' = true) :
  Calls Tryz.prog 149 #[.slice (some ⟨b, off, none⟩) n c, .int .i64 n, .slice (some ⟨vb, voff, none⟩) m vc] w fun e w' =>
   e = .returned (.slice (some ⟨b, off, none⟩) (n + m) c) ∧ w' = w.setCells b (off + n * 3) vs := by
 have mixed : Tryz.prog.follows .mixedOrders = true := by kernel_rfl
 obtain ⟨i0, hi0, hz0, hzs, hzb⟩ := info_parts gq149.info
 have hz1 : ¬ ((m : Int) = 0) := by omega
 have hsrc : Src Tryz.prog i0.size 26 (.slice (some ⟨vb, voff, none⟩) m vc) m vs w := by
  rw [hzs]
  exact Src.ofSlice w Tryz.underlying26 ⟨vb, voff, none⟩ m vc vs hvl (fun j u hj => by rw [Addr.add_lit]; exact hvs j u hj) h1v
 go_enter Tryz.func149, Tryz.ntmps149
 go_wp2_with (at_builtin; refine wpList_append_room_src _ rfl (.tmp 23) (.tmp 24) 26 26 rfl 97 i0 Tryz.underlying26 hi0 b off n c rfl _ rfl m vs hsrc hroom (by rw [hzs, hvl]; exact hsp) (by rw [hzs, hvl]; exact hfz) ?_)
 go_ret
 exact ⟨rfl, rfl⟩
set_option maxHeartbeats 4000000 in
set_option maxRecDepth 100000 in
theorem gq149.end_grow (base : Option Addr) (n c vb voff m vc : Nat) (cs vs : List Value) (w : World) (hm : 0 < m) (hnc : n ≤ c) (hroom : c < n + m) (hbig : (n + m) * 40 ≤ 140737488355328)
  (hcl : cs.length = n * 3) (hvl : vs.length = m * 3) (hnil : base = none → n = 0)
  (hcs : ∀ a, base = some a → ∀ j v, cs[j]? = some v → w.cell? (a.add j) = some v)
  (hvs : ∀ j v, vs[j]? = some v → w.cell? ⟨vb, voff + j, none⟩ = some v) (h1v : ∀ v ∈ vs, v.oneCell' = true) :
  Calls Tryz.prog 149 #[.slice base n c, .int .i64 n, .slice (some ⟨vb, voff, none⟩) m vc] w fun e w' =>
   e = .returned (.slice (some ⟨w.heap.size, 0, none⟩) (n + m) (grownCap w (n + m) c 97)) ∧
   w' = w.drew.alloc (.cells ((cs ++ vs).toArray ++ Builtin.zeroCells (Value.agg #[.string ⟨#[]⟩, .string ⟨#[]⟩, .int .i64 0]).cells (grownCap w (n + m) c 97 - (n + m))) 97) := by
 have mixed : Tryz.prog.follows .mixedOrders = true := by kernel_rfl
 obtain ⟨i0, hi0, hz0, hzs, hzb⟩ := info_parts gq149.info
 have hz1 : ¬ ((m : Int) = 0) := by omega
 have hsrc : Src Tryz.prog i0.size 26 (.slice (some ⟨vb, voff, none⟩) m vc) m vs w := by
  rw [hzs]
  exact Src.ofSlice w Tryz.underlying26 ⟨vb, voff, none⟩ m vc vs hvl (fun j u hj => by rw [Addr.add_lit]; exact hvs j u hj) h1v
 have hold : (Builtin.firstCells i0.size n (.slice base n c)).run Tryz.prog w.drew = .ok cs.toArray w.drew := by
  rw [hzs]
  cases base with
  | none =>
   have h0 := hnil rfl
   subst h0
   rw [List.length_eq_zero_iff.1 (by omega : cs.length = 0)]
   exact run_firstCells_none w.drew 3 0 0 c
  | some a => exact run_firstCells_some w.drew 3 n a n c cs hcl (fun j v hj => hcs a rfl j v hj)
 have hrun : ∀ ty, (Builtin.append_ #[26, 26] ty #[.slice base n c, .slice (some ⟨vb, voff, none⟩) m vc]).run Tryz.prog w = _ := fun ty =>
  run_append_grow_src w 26 26 ty 97 i0 _ Tryz.underlying26 hi0 hz0 base n c cs hold _ m vs hsrc hroom (by omega) (by rw [hzb]; exact growslice_fits hroom hbig)
 go_enter Tryz.func149, Tryz.ntmps149
 cases base with
 | none =>
  have h0 := hnil rfl
  subst h0
  go_wp2_with (at_builtin; refine Lib.wpList_append_run _ rfl _ _ _ _ rfl _ _ rfl rfl _ _ (hrun _) ?_)
  go_ret
  exact ⟨rfl, rfl⟩
 | some a =>
  obtain ⟨ab, ao, asp⟩ := a
  go_wp2_with (at_builtin; refine Lib.wpList_append_run _ rfl _ _ _ _ rfl _ _ rfl rfl _ _ (hrun _) ?_)
  all_goals (go_ret; exact ⟨rfl, rfl⟩)
theorem gq149.size3 : ∀ w, (Go.sizeOf 97).run Tryz.prog w = .ok 3 w := fun w => by
 obtain ⟨i0, hi0, hz0, hzs, hzb⟩ := info_parts gq149.info
 simp [sizeOf, typeInfo, hi0, hzs]
set_option maxHeartbeats 4000000 in
set_option maxRecDepth 100000 in
theorem gq149.shift (b off n c i vb voff m vc : Nat) (cs vs : List Value) (w : World) (hi : i < n) (hm : 0 < m) (hroom : n + m ≤ c) (hbig : (n + m) * 40 ≤ 140737488355328)
  (hcl : cs.length = n * 3) (hvl : vs.length = m * 3)
  (hcs : ∀ j v, cs[j]? = some v → w.cell? ⟨b, off + j, none⟩ = some v) (hsp : ∀ j, j < (n + m) * 3 → (w.cell? ⟨b, off + j, none⟩).isSome = true) (hfz : ∀ j, j < (n + m) * 3 → w.frozen? ⟨b, off + j, none⟩ = false)
  (hvs : ∀ j v, vs[j]? = some v → w.cell? ⟨vb, voff + j, none⟩ = some v) (h1c : ∀ v ∈ cs, v.oneCell' = true) (h1v : ∀ v ∈ vs, v.oneCell' = true)
  (hap : vb = b → off + (n + m) * 3 ≤ voff ∨ voff + m * 3 ≤ off) (hef : u4d w b) :
  Calls Tryz.prog 149 #[.slice (some ⟨b, off, none⟩) n c, .int .i64 i, .slice (some ⟨vb, voff, none⟩) m vc] w fun e w' =>
   e = .returned (.slice (some ⟨b, off, none⟩) (n + m) c) ∧ w' = (w.drew.setCells b (off + (i + m) * 3) (cs.drop (i * 3))).setCells b (off + i * 3) vs := by
 have mixed : Tryz.prog.follows .mixedOrders = true := by kernel_rfl
 have hz1 : ¬ ((m : Int) = 0) := by omega
 have hz2 : ¬ ((i : Int) = (n : Int)) := by omega
 have hsz : (Tryz.prog.info? 97).map (·.size) = some 3 := by
  obtain ⟨i0, hi0, hz0, hzs, hzb⟩ := info_parts gq149.info
  rw [hi0]; simp [hzs]
 obtain ⟨kA, tA, hsa, hkA⟩ : ∃ kA tA, w.shape? vb = some (tA, kA) ∧ kA ≠ 0 := by
  have h0 := hvs 0 _ (List.getElem?_eq_getElem (by omega))
  cases hh : w.heap[vb]? with
  | none => simp [World.cell?, hh] at h0
  | some o =>
   cases o with
   | cells cc e fz =>
    refine ⟨cc.size, e, by simp [World.shape?, hh], fun hc0 => ?_⟩
    have : cc = #[] := Array.eq_empty_of_size_eq_zero hc0
    subst this
    simp [World.cell?, hh] at h0
   | _ => simp [World.cell?, hh] at h0
 have hov : ∀ cb, (callFunc 167 #[.slice (some ⟨vb, voff, none⟩) m vc, .slice (some ⟨b, off + (i + m) * 3, none⟩) (n + m - (i + m)) cb]).run Tryz.prog w = .ok (.value (.bool false)) w := fun cb => by
  rw [run_callFunc_extern Tryz.func167 (by kernel_rfl) (by kernel_rfl) (by kernel_rfl) (e := Extern.SlicesOverlaps.overlaps #[26, 26] #[4]) (by kernel_rfl),
   gq149.overlapsR w 26 4 97 Tryz.underlying26 3 gq149.size3 ⟨vb, voff, none⟩ ⟨b, off + (i + m) * 3, none⟩ m vc (n + m - (i + m)) cb (fun h => by dsimp only; rcases hap h with h | h <;> omega) (hfz _ (by omega)) (hsp _ (by omega)) hef tA kA hsa hkA]
  rfl
 have hdl : (cs.drop (i * 3)).length = (n - i) * 3 := by rw [List.length_drop, hcl, Nat.sub_mul]
 have hw1 : IntKind.i64.wrap ((i : Int) + (m : Int)) = (i : Int) + (m : Int) := by rw [IntKind.wrap_i64]; omega
 have hb1 : (0 : Int) ≤ (i : Int) + (m : Int) := by omega
 have hin : i ≤ n := by omega
 have htn : ((i : Int) + (m : Int)).toNat = i + m := by omega
 have hb2 : ¬ (c = i + m) := by omega
 have hb3 : (i : Int) ≤ (n : Int) + (m : Int) := by omega
 have hb4 : ¬ (c = i) := by omega
 have hcp1 : ∀ ty dc sc, (Builtin.copy_ #[26, 26] ty #[.slice (some ⟨b, off + (i + m) * 3, none⟩) (n + m - (i + m)) dc, .slice (some ⟨b, off + i * 3, none⟩) (n + m - i) sc]).run Tryz.prog w.drew = .ok (goInt ((n - i : Nat) : Int)) (w.drew.setCells b (off + (i + m) * 3) (cs.drop (i * 3))) := fun ty dc sc =>
  gq149.copyN w.drew _ _ ty 97 3 b (off + (i + m) * 3) (n + m - (i + m)) dc ⟨b, off + i * 3, none⟩ (n + m - i) sc (n - i) (cs.drop (i * 3)) Tryz.underlying26 hsz (by simp only [Nat.min_def]; split <;> omega) hdl
   (fun j v hj => by rw [Addr.add_lit, Nat.add_assoc]; exact hcs (i * 3 + j) v (by rwa [List.getElem?_drop] at hj))
   (fun j hj => by rw [Nat.add_assoc]; exact hsp _ (by omega)) (fun j hj => by rw [Nat.add_assoc]; exact hfz _ (by omega)) (fun v hv => h1c v (List.mem_of_mem_drop hv))
 obtain ⟨W1, hW1⟩ : ∃ W1, W1 = w.drew.setCells b (off + (i + m) * 3) (cs.drop (i * 3)) := ⟨_, rfl⟩
 have hsp1 : ∀ k, k < (n + m) * 3 → (W1.cell? ⟨b, off + k, none⟩).isSome = true := fun k hk => by
  rw [hW1]
  exact isSome_setCells b _ _ _ (fun j hj => by rw [Nat.add_assoc]; exact hsp _ (by omega)) _ (hsp k hk)
 have hcp2 : ∀ (W : World), (∀ x, W.cell? x = W1.cell? x) → (∀ x, W.frozen? x = W1.frozen? x) → ∀ ty dc, (Builtin.copy_ #[26, 26] ty #[.slice (some ⟨b, off + i * 3, none⟩) (n + m - i) dc, .slice (some ⟨vb, voff, none⟩) m vc]).run Tryz.prog W = .ok (goInt m) (W.setCells b (off + i * 3) vs) := fun W hWc hWf ty dc =>
  gq149.copyN W _ _ ty 97 3 b (off + i * 3) (n + m - i) dc ⟨vb, voff, none⟩ m vc m vs Tryz.underlying26 hsz (by simp only [Nat.min_def]; split <;> omega) hvl
   (fun j v hj => by
    have hjl : j < vs.length := by
     rcases Nat.lt_or_ge j vs.length with h | h
     ·exact h
     ·rw [List.getElem?_eq_none h] at hj; cases hj
    rw [Addr.add_lit, hWc, hW1, World.cell?_setCells_out b _ _ _ _ (fun h _ => by rw [hdl]; rcases hap h with h | h <;> dsimp only <;> omega)]
    exact hvs j v hj)
   (fun j hj => by rw [hWc, Nat.add_assoc]; exact hsp1 _ (by omega)) (fun j hj => by rw [hWf, hW1, World.frozen?_setCells, Nat.add_assoc]; exact hfz _ (by omega)) h1v
 rw [← hW1] at hcp1
 go_enter Tryz.func149, Tryz.ntmps149
 go_wp2_with (simp only [hov])
 go_region_law_o (refine step_copy_runI rfl _ _ 26 26 rfl _ _ (by simp [Act.eval, Act.put]) (by simp [Act.eval, Act.put]) (hcp1 _ _ _) ?_)
 go_wp2_with (at_builtin; refine wpList_copy_runI _ rfl _ _ 26 26 rfl _ _ rfl rfl (hcp2 _ (fun _ => rfl) (fun _ => rfl) _ _) ?_)
 go_ret
 first | exact ⟨rfl, rfl⟩ | exact ⟨rfl, by rw [hW1]⟩
set_option maxHeartbeats 4000000 in
set_option maxRecDepth 100000 in
theorem gq149.grow (b off n c i vb voff m vc : Nat) (cs vs : List Value) (w : World) (hi : i < n) (hm : 0 < m) (hnc : n ≤ c) (hroom : c < n + m) (hbig : (n + m) * 40 ≤ 140737488355328)
  (hcl : cs.length = n * 3) (hvl : vs.length = m * 3)
  (hcs : ∀ j v, cs[j]? = some v → w.cell? ⟨b, off + j, none⟩ = some v)
  (hvs : ∀ j v, vs[j]? = some v → w.cell? ⟨vb, voff + j, none⟩ = some v) (h1c : ∀ v ∈ cs, v.oneCell' = true) (h1v : ∀ v ∈ vs, v.oneCell' = true) :
  Calls Tryz.prog 149 #[.slice (some ⟨b, off, none⟩) n c, .int .i64 i, .slice (some ⟨vb, voff, none⟩) m vc] w fun e w' =>
   e = .returned (.slice (some ⟨w.heap.size, 0, none⟩) (n + m) (grownCap w (n + m) c 97)) ∧
   w' = (((w.alloc (.cells ((cs.take (i * 3)).toArray ++ Builtin.zeroCells (Value.agg #[.string ⟨#[]⟩, .string ⟨#[]⟩, .int .i64 0]).cells (n + m - i) ++ Builtin.zeroCells (Value.agg #[.string ⟨#[]⟩, .string ⟨#[]⟩, .int .i64 0]).cells (grownCap w (n + m) c 97 - (n + m))) 97)).drew.setCells w.heap.size (i * 3) vs).drew).setCells w.heap.size ((i + m) * 3) (cs.drop (i * 3)) := by
 have mixed : Tryz.prog.follows .mixedOrders = true := by kernel_rfl
 obtain ⟨i0, hi0, hz0, hzs, hzb⟩ := info_parts gq149.info
 have hz1 : ¬ ((m : Int) = 0) := by omega
 have hz2 : ¬ ((i : Int) = (n : Int)) := by omega
 have hz3 : (c : Int) < (n : Int) + (m : Int) := by omega
 have hsz : (Tryz.prog.info? 97).map (·.size) = some 3 := by rw [hi0]; simp [hzs]
 have hbw : b < w.heap.size := block_lt_of_cell (hcs 0 _ (List.getElem?_eq_getElem (by omega)))
 have hvw : vb < w.heap.size := block_lt_of_cell (hvs 0 _ (List.getElem?_eq_getElem (by omega)))
 have hkk : (n : Int) + (m : Int) - (i : Int) = ((n + m - i : Nat) : Int) := by omega
 have hik : i + (n + m - i) = n + m := by omega
 have hold : (Builtin.firstCells i0.size i (.slice (some ⟨b, off, none⟩) i c)).run Tryz.prog w.drew = .ok (cs.take (i * 3)).toArray w.drew := by
  rw [hzs]
  exact run_firstCells_some w.drew 3 i ⟨b, off, none⟩ i c (cs.take (i * 3)) (by rw [List.length_take]; omega) (fun j v hj => by
   rw [Addr.add_lit]
   rw [List.getElem?_take] at hj
   split at hj
   ·exact hcs j v hj
   ·cases hj)
 have hrz : ∀ ty, (Builtin.append_ #[26, 3] ty #[.slice (some ⟨b, off, none⟩) i c, .int .i64 ((n : Int) + (m : Int) - (i : Int))]).run Tryz.prog w =
   .ok (.slice (some ⟨w.heap.size, 0, none⟩) (n + m) (grownCap w (n + m) c 97)) (w.drew.alloc (.cells ((cs.take (i * 3)).toArray ++ Builtin.zeroCells (Value.agg #[.string ⟨#[]⟩, .string ⟨#[]⟩, .int .i64 0]).cells (n + m - i) ++ Builtin.zeroCells (Value.agg #[.string ⟨#[]⟩, .string ⟨#[]⟩, .int .i64 0]).cells (grownCap w (n + m) c 97 - (n + m))) 97)) := fun ty => by
  have h := Lib.run_append_grow_zeros w 26 3 ty 97 i0 _ .i64 .i64 Tryz.underlying26 Tryz.underlying3 hi0 hz0 (some ⟨b, off, none⟩) i c (cs.take (i * 3)) hold (n + m - i) (by omega) (by omega) (by omega) (by omega) (by rw [hzb]; omega) (by rw [hzb, hik]; exact growslice_fits hroom hbig)
  rw [hik] at h
  rw [hkk]
  exact h
 obtain ⟨G, hG⟩ : ∃ G, G = grownCap w (n + m) c 97 := ⟨_, rfl⟩
 obtain ⟨ROW, hROW⟩ : ∃ ROW : Array Value, ROW = (cs.take (i * 3)).toArray ++ Builtin.zeroCells (Value.agg #[.string ⟨#[]⟩, .string ⟨#[]⟩, .int .i64 0]).cells (n + m - i) ++ Builtin.zeroCells (Value.agg #[.string ⟨#[]⟩, .string ⟨#[]⟩, .int .i64 0]).cells (G - (n + m)) := ⟨_, rfl⟩
 rw [← hG] at hrz ⊢
 rw [← hROW] at hrz ⊢
 have hRl : (n + m) * 3 ≤ ROW.size := by
  rw [hROW]
  simp [Builtin.zeroCells, Value.cells]
  omega
 obtain ⟨W1, hW1⟩ : ∃ W1, W1 = w.drew.alloc (.cells ROW 97) := ⟨_, rfl⟩
 rw [← hW1] at hrz
 have hN : ∀ j, j < (n + m) * 3 → (W1.cell? ⟨w.heap.size, j, none⟩).isSome = true := fun j hj => by
  rw [hW1, World.cell?_alloc_at (w := w.drew) ROW _ w.heap.size j rfl, Array.getElem?_eq_getElem (by omega)]; rfl
 have hNf : ∀ j, W1.frozen? ⟨w.heap.size, j, none⟩ = false := fun j => by rw [hW1]; exact World.frozen?_alloc_at (w := w.drew) ROW _ w.heap.size j rfl
 have hOb : ∀ j v, w.cell? ⟨b, j, none⟩ = some v → W1.cell? ⟨b, j, none⟩ = some v := fun j v h => by rw [hW1, World.cell?_alloc_past (w := w.drew) _ b j hbw]; exact h
 have hOv : ∀ j v, w.cell? ⟨vb, j, none⟩ = some v → W1.cell? ⟨vb, j, none⟩ = some v := fun j v h => by rw [hW1, World.cell?_alloc_past (w := w.drew) _ vb j hvw]; exact h
 have hcpA : ∀ (W : World), (∀ x, W.cell? x = W1.cell? x) → (∀ x, W.frozen? x = W1.frozen? x) → ∀ ty dc, (Builtin.copy_ #[26, 26] ty #[.slice (some ⟨w.heap.size, i * 3, none⟩) (n + m - i) dc, .slice (some ⟨vb, voff, none⟩) m vc]).run Tryz.prog W = .ok (goInt m) (W.setCells w.heap.size (i * 3) vs) := fun W hWc hWf ty dc =>
  gq149.copyN W _ _ ty 97 3 w.heap.size (i * 3) (n + m - i) dc ⟨vb, voff, none⟩ m vc m vs Tryz.underlying26 hsz (by simp only [Nat.min_def]; split <;> omega) hvl
   (fun j v hj => by rw [Addr.add_lit, hWc]; exact hOv _ v (hvs j v hj))
   (fun j hj => by rw [hWc]; exact hN _ (by omega)) (fun j hj => by rw [hWf]; exact hNf _) h1v
 have hGn : n + m ≤ G := by rw [hG]; exact grownCap_ge w _ _ _
 have hG63 : G ≤ 9223372036854775807 := by
  have := grownCap_le_maxLen w (n + m) c 97 (by unfold maxLen; omega)
  rw [← hG] at this
  unfold maxLen at this
  omega
 have hGi : ¬ (G = i) := by omega
 have hGim : ¬ (G = i + m) := by omega
 have hci : ¬ (c = i) := by omega
 have hbN : b ≠ w.heap.size := by omega
 have hdl : (cs.drop (i * 3)).length = (n - i) * 3 := by rw [List.length_drop, hcl, Nat.sub_mul]
 have hcpB : ∀ (W : World), (∀ x, W.cell? x = (W1.setCells w.heap.size (i * 3) vs).cell? x) → (∀ x, W.frozen? x = (W1.setCells w.heap.size (i * 3) vs).frozen? x) → ∀ ty dc sc, (Builtin.copy_ #[26, 26] ty #[.slice (some ⟨w.heap.size, (i + m) * 3, none⟩) (n + m - (i + m)) dc, .slice (some ⟨b, off + i * 3, none⟩) (n - i) sc]).run Tryz.prog W = .ok (goInt ((n - i : Nat) : Int)) (W.setCells w.heap.size ((i + m) * 3) (cs.drop (i * 3))) := fun W hWc hWf ty dc sc =>
  gq149.copyN W _ _ ty 97 3 w.heap.size ((i + m) * 3) (n + m - (i + m)) dc ⟨b, off + i * 3, none⟩ (n - i) sc (n - i) (cs.drop (i * 3)) Tryz.underlying26 hsz (by simp only [Nat.min_def]; split <;> omega) hdl
   (fun j v hj => by
    rw [Addr.add_lit, hWc, World.cell?_setCells_out _ _ _ _ _ (fun h _ => absurd h hbN), Nat.add_assoc]
    exact hOb _ v (hcs (i * 3 + j) v (by rwa [List.getElem?_drop] at hj)))
   (fun j hj => by rw [hWc]; exact isSome_setCells _ _ _ _ (fun t ht => hN _ (by omega)) _ (hN _ (by omega)))
   (fun j hj => by rw [hWf, World.frozen?_setCells]; exact hNf _) (fun v hv => h1c v (List.mem_of_mem_drop hv))
 subst hW1
 have hE1 : ∀ x, ((w.alloc (.cells ROW 97)).drew).cell? x = (w.drew.alloc (.cells ROW 97)).cell? x := fun x => rfl
 have hE2 : ∀ x, ((w.alloc (.cells ROW 97)).drew).frozen? x = (w.drew.alloc (.cells ROW 97)).frozen? x := fun x => rfl
 have hF1 : ∀ x, (((w.alloc (.cells ROW 97)).drew.setCells w.heap.size (i * 3) vs).drew).cell? x = ((w.drew.alloc (.cells ROW 97)).setCells w.heap.size (i * 3) vs).cell? x := fun x => rfl
 have hF2 : ∀ x, (((w.alloc (.cells ROW 97)).drew.setCells w.heap.size (i * 3) vs).drew).frozen? x = ((w.drew.alloc (.cells ROW 97)).setCells w.heap.size (i * 3) vs).frozen? x := fun x => rfl
 have hw1 : IntKind.i64.wrap ((i : Int) + (m : Int)) = (i : Int) + (m : Int) := by rw [IntKind.wrap_i64]; omega
 have hb1 : (0 : Int) ≤ (i : Int) + (m : Int) := by omega
 have hin : i ≤ n := by omega
 have htn : ((i : Int) + (m : Int)).toNat = i + m := by omega
 have hb3 : (i : Int) ≤ (n : Int) := by omega
 clear hkk hik hold hROW hG hRl
 go_enter Tryz.func149, Tryz.ntmps149
 go_wp2_with (first
  | (at_builtin; refine Lib.wpList_append_run _ rfl _ _ _ _ rfl _ _ rfl rfl _ _ (hrz _) ?_)
  | (at_builtin; refine wpList_copy_runI _ rfl _ _ 26 26 rfl _ _ rfl rfl (hcpA _ hE1 hE2 _ _) ?_)
  | (at_builtin; refine wpList_copy_runI _ rfl _ _ 26 26 rfl _ _ rfl rfl (hcpB _ (fun _ => rfl) (fun _ => rfl) _ _ _) ?_))
 go_region_law_o (refine step_copy_runI rfl _ _ 26 26 rfl (.slice (some ⟨w.heap.size, (i + m) * 3, none⟩) (n + m - (i + m)) (G - (i + m))) (.slice (some ⟨b, off + i * 3, none⟩) (n - i) (c - i)) (by simp [Act.eval, Act.put]) (by simp [Act.eval, Act.put]) (hcpB _ hF1 hF2 3 (G - (i + m)) (c - i)) ?_)
 go_wp2
 go_ret
 exact ⟨rfl, rfl⟩
noncomputable def gq149.F {R : Type} (kk : List (El (.pair .str (.pair .str (.int .i64)))) → Option R) (s : List (El (.pair .str (.pair .str (.int .i64))))) (i : Int) (v : List (El (.pair .str (.pair .str (.int .i64))))) : Option R := grd (decide (0 ≤ i) && (decide (i ≤ s.length) && (decide (0 < v.length) && decide ((s.length + v.length) * 40 ≤ 140737488355328)))) <| kk (s.take i.toNat ++ v ++ s.drop i.toNat)
noncomputable def gq149 (s : List (El (.pair .str (.pair .str (.int .i64))))) (i : Int) (v : List (El (.pair .str (.pair .str (.int .i64))))) : Option (List (El (.pair .str (.pair .str (.int .i64))))) := gq149.F (fun y0 => some y0) s i v
def gq149.out : List (El (.pair .str (.pair .str (.int .i64)))) → CRes := fun a => ⟨encL SV.enc [.one (.own [] (.pair .str (.pair .str (.int .i64))) true)] (a, ()), [encL SC.enc [] (), encL SC.enc [] (), encL SC.enc [] ()]⟩
def gq149.ps : List PS := [.val [some (.pair .str (.pair .str (.int .i64)), true)], .val [none], .val [some (.pair .str (.pair .str (.int .i64)), false)]]
def gq149.sA : List SA := [.v (.one (.own [] (.pair .str (.pair .str (.int .i64))) true)), .v (.one (.int .i64)), .v (.one (.slv [] (.pair .str (.pair .str (.int .i64)))))]
noncomputable def gq149.fi : FI := FIs gq149.sA (List (El (.pair .str (.pair .str (.int .i64))))) (fun t => gq149 t.1 t.2.1 t.2.2.1) gq149.out gq149.ps
theorem gq149.zc3 (n : Nat) : (Builtin.zeroCells (Value.agg #[.string ⟨#[]⟩, .string ⟨#[]⟩, .int .i64 0]).cells n).size = n * 3 := by
 simp [Builtin.zeroCells, Value.cells]
theorem gq149.alloc_cell (w : World) (ROW : Array Value) (e : TypeId) (j : Nat) : (w.alloc (.cells ROW e)).cell? ⟨w.heap.size, j, none⟩ = ROW[j]? := by
 rw [World.cell?_alloc_at (w := w) ROW e w.heap.size j rfl]
theorem gq149.core {s v a : List (El (.pair .str (.pair .str (.int .i64))))} {i : Int} (h2 : gq149 s i v = some a) {M0 : Addr → Prop} {w : World} {g : Gh} {m : List Nat} (hI : Inv M0 w g (fun i => ([Ob.arr (.pair .str (.pair .str (.int .i64))) s m true] : List Ob)[i]?) w) {A : Option Addr} {n c : Nat} (hloc : g.loc 0 = .arr A n c)
  {u2 : Value} {mm : List Nat} (hv : CR g w (.slv mm (.pair .str (.pair .str (.int .i64))) v) u2) :
  Calls Tryz.prog 149 #[.slice A n c, .int .i64 i, u2] w fun e w' => ∃ A' n' c', e = .returned (.slice A' n' c') ∧ Inv M0 w { g with loc := fun i => if i = 0 then .arr A' n' c' else .none } (fun i => ([Ob.arr (.pair .str (.pair .str (.int .i64))) a [] true] : List Ob)[i]?) w' ∧ (∀ b p, g.L b p → w'.cell? p = w.cell? p) := by
 have h2' : grd (decide (0 ≤ i) && (decide (i ≤ s.length) && (decide (0 < v.length) && decide ((s.length + v.length) * 40 ≤ 140737488355328)))) (some (s.take i.toNat ++ v ++ s.drop i.toNat)) = some a := h2
 cases hg : (decide (0 ≤ i) && (decide (i ≤ (List.length s : Int)) && (decide (0 < List.length v) && decide ((List.length s + List.length v) * 40 ≤ 140737488355328)))) with
 | false => rw [hg] at h2'; cases h2'
 | true =>
  rw [hg] at h2'
  obtain rfl := Option.some.inj h2'
  rw [Bool.and_eq_true, Bool.and_eq_true, Bool.and_eq_true, decide_eq_true_iff, decide_eq_true_iff, decide_eq_true_iff, decide_eq_true_iff] at hg
  obtain ⟨g0, g1, g2, g3⟩ := hg
  obtain ⟨A', n', c', us, e2, hxl, hnc, hu, hcell⟩ := hI.ob 0 _ rfl
  rw [hloc] at e2
  cases e2
  obtain ⟨A2, m2, vc, vs, ev, hvm, hvc, hvu, hat⟩ : ∃ A n c us, [u2] = [Value.slice A n c] ∧ v.length = n ∧ n ≤ c ∧ Rows2 (ER w (SM g.L mm) (.pair .str (.pair .str (.int .i64)))) v us ∧ At w (SM g.L mm) A us := hv
  obtain rfl : u2 = .slice A2 m2 vc := by simpa using ev
  obtain ⟨i, rfl⟩ : ∃ q : Nat, i = q := ⟨i.toNat, by omega⟩
  have hul := Rows2.len (ER.len _) hu
  have hvl := Rows2.len (ER.len _) hvu
  have k3 : Kd.size (.pair .str (.pair .str (.int .i64))) = 3 := rfl
  rw [k3] at hul hvl
  have hone := u9d (L := g.L) hu
  have honev := u9d (L := g.L) hvu
  rcases hat with h0 | ⟨⟨vb, voff, vsp⟩, rfl, hvsp, hvat⟩
  ·rw [h0] at hvl; simp at hvl; omega
  have hvsp : vsp = none := hvsp
  subst hvsp
  have hvs : ∀ (t : Nat) (u : Value), vs[t]? = some u → w.cell? ⟨vb, voff + t, none⟩ = some u := fun t u h => (hvat t u h).1
  have hul' : us.length = n * 3 := by rw [hul, hxl]
  have hvl' : vs.length = m2 * 3 := by rw [hvl, hvm]
  have hm : 0 < m2 := by omega
  have hbig : (n + m2) * 40 ≤ 140737488355328 := by rw [← hxl, ← hvm]; exact g3
  have hin : i ≤ n := by omega
  obtain ⟨new, hnew⟩ : ∃ new, new = us.take (i * 3) ++ vs ++ us.drop (i * 3) := ⟨_, rfl⟩
  have htl : (us.take (i * 3)).length = i * 3 := by rw [List.length_take, hul']; omega
  have hdl : (us.drop (i * 3)).length = (n - i) * 3 := by rw [List.length_drop, hul', Nat.sub_mul]
  have hnl : new.length = (n + m2) * 3 := by
   rw [hnew, List.length_append, List.length_append, htl, hdl, hvl']
   omega
  have hget : ∀ t, new[t]? = if t < i * 3 then us[t]? else if t < (i + m2) * 3 then vs[t - i * 3]? else us[t - m2 * 3]? := by
   intro t
   rw [hnew, List.append_assoc, List.getElem?_append, htl]
   split
   ·rw [List.getElem?_take, if_pos (by assumption)]
   ·rw [List.getElem?_append, hvl']
    by_cases h : t < (i + m2) * 3
    ·rw [if_pos (by omega), if_pos h]
    ·rw [if_neg (by omega), if_neg h, List.getElem?_drop]
     congr 1
     omega
  have hyl : (List.take (Int.toNat (i : Int)) s ++ v ++ List.drop (Int.toNat (i : Int)) s).length = n + m2 := by
   rw [List.length_append, List.length_append, List.length_take, List.length_drop, hxl, hvm, Int.toNat_natCast]
   omega
  have hrows : ∀ w', Rows2 (ER w' (fun _ => False) (.pair .str (.pair .str (.int .i64)))) (List.take (Int.toNat (i : Int)) s ++ v ++ List.drop (Int.toNat (i : Int)) s) new := by
   intro w'
   rw [hnew, Int.toNat_natCast]
   have r1 : Rows2 (ER w' (fun _ => False) (.pair .str (.pair .str (.int .i64)))) s us := Rows2.mono (fun x y h => ER.flat _ x y rfl h) hu
   have r2 : Rows2 (ER w' (fun _ => False) (.pair .str (.pair .str (.int .i64)))) v vs := Rows2.mono (fun x y h => ER.flat _ x y rfl h) hvu
   exact Rows2.append (Rows2.append (Rows2.take (ER.len (.pair .str (.pair .str (.int .i64)))) i r1) r2) (Rows2.drop (ER.len (.pair .str (.pair .str (.int .i64)))) i r1)
  have hlt : ∀ (t : Nat) (u : Value) (l : List Value), l[t]? = some u → t < l.length := fun t u l h => by
   rcases Nat.lt_or_ge t l.length with h' | h'
   ·exact h'
   ·rw [List.getElem?_eq_none h'] at h; cases h
  rcases Nat.lt_or_ge c (n + m2) with hgrow | hroom
  ·-- no room: a new row
   have fin : ∀ (w' : World), (∀ t u, new[t]? = some u → w'.cell? ⟨w.heap.size, t, none⟩ = some u) → (∀ t, t < grownCap w (n + m2) c 97 * 3 → (w'.cell? ⟨w.heap.size, t, none⟩).isSome = true ∧ w'.frozen? ⟨w.heap.size, t, none⟩ = false) → u4d w' w.heap.size → Keeps (MR g 0 (.arr (.pair .str (.pair .str (.int .i64))) s m true)) w w' →
     Inv M0 w { g with loc := fun i => if i = 0 then .arr (some ⟨w.heap.size, 0, none⟩) (n + m2) (grownCap w (n + m2) c 97) else .none } (fun j => ([Ob.arr (.pair .str (.pair .str (.int .i64))) (List.take (Int.toNat (i : Int)) s ++ v ++ List.drop (Int.toNat (i : Int)) s) [] true] : List Ob)[j]?) w' ∧ (∀ b p, g.L b p → w'.cell? p = w.cell? p) := fun w' q1 q2 q3 hk =>
    v98 (k := .pair .str (.pair .str (.int .i64))) rfl hI hyl (grownCap_ge w _ _ _) (hrows w') (.inr ⟨⟨w.heap.size, 0, none⟩, rfl, rfl, fun t u h => by show w'.cell? ⟨w.heap.size, 0 + t, none⟩ = _; rw [Nat.zero_add]; exact q1 t u h, fun t ht => by show (w'.cell? ⟨w.heap.size, 0 + t, none⟩).isSome = true ∧ w'.frozen? ⟨w.heap.size, 0 + t, none⟩ = false; rw [Nat.zero_add]; exact q2 t ht, fun _ => q3⟩) hk (fun a t ha _ => by cases ha; exact .inr (Nat.le_refl _))
   rcases Nat.lt_or_ge i n with hi | hi
   ·-- inside
    rcases hcell with h0 | ⟨⟨blk, off, sp⟩, rfl, hsp, h5, h6, _, hef⟩
    ·omega
    have hsp : sp = none := hsp
    subst hsp
    have h5' : ∀ (t : Nat) (u : Value), us[t]? = some u → w.cell? ⟨blk, off + t, none⟩ = some u := fun t u h => h5 t u h
    refine (gq149.grow blk off n c i vb voff m2 vc us vs w hi hm hnc hgrow hbig hul' hvl' h5' hvs hone honev).mono ?_
    rintro e w' ⟨rfl, rfl⟩
    obtain ⟨G, hG⟩ : ∃ G, G = grownCap w (n + m2) c 97 := ⟨_, rfl⟩
    have hGn : n + m2 ≤ G := by rw [hG]; exact grownCap_ge w _ _ _
    rw [← hG] at fin ⊢
    obtain ⟨ROW, hROW⟩ : ∃ ROW : Array Value, ROW = (us.take (i * 3)).toArray ++ Builtin.zeroCells (Value.agg #[.string ⟨#[]⟩, .string ⟨#[]⟩, .int .i64 0]).cells (n + m2 - i) ++ Builtin.zeroCells (Value.agg #[.string ⟨#[]⟩, .string ⟨#[]⟩, .int .i64 0]).cells (G - (n + m2)) := ⟨_, rfl⟩
    rw [← hROW]
    have hRs : ROW.size = G * 3 := by
     rw [hROW, Array.size_append, Array.size_append, gq149.zc3, gq149.zc3, List.size_toArray, htl]
     omega
    have hRt : ∀ t, t < i * 3 → ROW[t]? = us[t]? := by
     intro t ht
     rw [hROW, Array.append_assoc, Array.getElem?_append, List.size_toArray, htl, if_pos ht]
     rw [List.getElem?_toArray, List.getElem?_take, if_pos ht]
    have d0 : ∀ t, t < G * 3 → ((w.alloc (.cells ROW 97)).drew.cell? ⟨w.heap.size, t, none⟩).isSome = true := fun t ht => by
     show ((w.alloc (.cells ROW 97)).cell? _).isSome = true
     rw [gq149.alloc_cell, Array.getElem?_eq_getElem (by omega)]; rfl
    have c1 := u1f w.heap.size (i * 3) vs (w.alloc (.cells ROW 97)).drew (fun t ht => d0 _ (by omega))
    have d1 : ∀ t, t < G * 3 → (((w.alloc (.cells ROW 97)).drew.setCells w.heap.size (i * 3) vs).drew.cell? ⟨w.heap.size, t, none⟩).isSome = true := fun t ht => by
     show (((w.alloc (.cells ROW 97)).drew.setCells w.heap.size (i * 3) vs).cell? _).isSome = true
     rw [c1]
     split
     ·rw [List.getElem?_eq_getElem (by omega)]; rfl
     ·exact d0 t ht
    have c2 := u1f w.heap.size ((i + m2) * 3) (us.drop (i * 3)) ((w.alloc (.cells ROW 97)).drew.setCells w.heap.size (i * 3) vs).drew (fun t ht => d1 _ (by omega))
    refine (fun q => ⟨_, _, _, rfl, q.1, q.2⟩) (fin _ (fun t u ht => ?_) (fun t ht => ⟨?_, ?_⟩) ?_ ?_)
    ·have htn := hlt t u _ ht
     rw [hnl] at htn
     rw [hget] at ht
     rw [c2]
     by_cases h1 : t < i * 3
     ·rw [if_pos h1] at ht
      rw [if_neg (by omega)]
      show ((w.alloc (.cells ROW 97)).drew.setCells w.heap.size (i * 3) vs).cell? _ = _
      rw [c1, if_neg (by omega)]
      show (w.alloc (.cells ROW 97)).cell? _ = _
      rw [gq149.alloc_cell, hRt t h1]
      exact ht
     ·rw [if_neg h1] at ht
      by_cases h3 : t < (i + m2) * 3
      ·rw [if_pos h3] at ht
       rw [if_neg (by omega)]
       show ((w.alloc (.cells ROW 97)).drew.setCells w.heap.size (i * 3) vs).cell? _ = _
       rw [c1, if_pos (by omega)]
       exact ht
      ·rw [if_neg h3] at ht
       rw [if_pos (by omega), List.getElem?_drop, show i * 3 + (t - (i + m2) * 3) = t - m2 * 3 by omega]
       exact ht
    ·rw [c2]
     split
     ·rw [List.getElem?_eq_getElem (by omega)]; rfl
     ·exact d1 t ht
    ·rw [World.frozen?_setCells]
     show World.frozen? ((w.alloc (.cells ROW 97)).drew.setCells w.heap.size (i * 3) vs) _ = false
     rw [World.frozen?_setCells]
     show World.frozen? (w.alloc (.cells ROW 97)) _ = false
     exact World.frozen?_alloc_at (w := w) ROW _ w.heap.size t rfl
    ·have k1 : Keeps (fun _ => True) (w.alloc (.cells ROW 97)) ((((w.alloc (.cells ROW 97)).drew.setCells w.heap.size (i * 3) vs).drew).setCells w.heap.size ((i + m2) * 3) (us.drop (i * 3))) :=
      (((Keeps.drew _ _).trans' (Keeps.setCells _ _ _ _ fun _ _ => trivial) fun p _ h => h).trans' (Keeps.drew _ _) fun p _ h => h).trans' (Keeps.setCells _ _ _ _ fun _ _ => trivial) fun p _ h => h
     exact k1.endFree (by simp) (u71 w ROW 97)
    ·refine (((((Keeps.alloc _ w _).trans' (Keeps.drew (fun _ => False) _) fun p _ h => h.elim).trans' (Keeps.setCells (M := fun p => p.block = w.heap.size) _ _ _ _ fun _ _ => rfl) fun p hp h => ?_).trans' (Keeps.drew (fun _ => False) _) fun p _ h => h.elim).trans' (Keeps.setCells (M := fun p => p.block = w.heap.size) _ _ _ _ fun _ _ => rfl) fun p hp h => ?_)
     ·exact absurd h (by omega)
     ·exact absurd h (by omega)
   ·-- at the end
    obtain rfl : i = n := by omega
    have hcs : ∀ a, A = some a → ∀ j u, us[j]? = some u → w.cell? (a.add j) = some u := by
     intro a ha j u hj
     rcases hcell with h0 | ⟨a', ha', hsp, h5, _⟩
     ·have := hlt j u us hj
      omega
     ·rw [ha] at ha'
      cases ha'
      rw [u7a hsp]
      exact h5 j u hj
    have hnil : A = none → i = 0 := by
     intro ha
     rcases hcell with h0 | ⟨a', ha', _⟩
     ·omega
     ·rw [ha] at ha'; cases ha'
    refine (gq149.end_grow A i c vb voff m2 vc us vs w hm hnc hgrow hbig hul' hvl' hnil hcs hvs honev).mono ?_
    rintro e w' ⟨rfl, rfl⟩
    obtain ⟨G, hG⟩ : ∃ G, G = grownCap w (i + m2) c 97 := ⟨_, rfl⟩
    have hGn : i + m2 ≤ G := by rw [hG]; exact grownCap_ge w _ _ _
    rw [← hG] at fin ⊢
    obtain ⟨ROW, hROW⟩ : ∃ ROW : Array Value, ROW = (us ++ vs).toArray ++ Builtin.zeroCells (Value.agg #[.string ⟨#[]⟩, .string ⟨#[]⟩, .int .i64 0]).cells (G - (i + m2)) := ⟨_, rfl⟩
    rw [← hROW]
    have hRs : ROW.size = G * 3 := by
     rw [hROW, Array.size_append, gq149.zc3, List.size_toArray, List.length_append, hul', hvl']
     omega
    have hRt : ∀ t, t < (i + m2) * 3 → ROW[t]? = (us ++ vs)[t]? := by
     intro t ht
     rw [hROW, Array.getElem?_append, List.size_toArray, List.length_append, hul', hvl', if_pos (by omega), List.getElem?_toArray]
    refine (fun q => ⟨_, _, _, rfl, q.1, q.2⟩) (fin (w.drew.alloc (.cells ROW 97)) (fun t u ht => ?_) (fun t ht => ⟨?_, ?_⟩) (u71 w.drew ROW 97) ((Keeps.drew _ w).trans' (Keeps.alloc _ _ _) fun p _ h => h))
    ·have htn := hlt t u _ ht
     rw [hnl] at htn
     rw [show w.heap.size = w.drew.heap.size from rfl, gq149.alloc_cell, hRt t htn]
     rw [hnew, List.take_of_length_le (by omega), List.drop_eq_nil_of_le (by omega), List.append_nil] at ht
     exact ht
    ·rw [show w.heap.size = w.drew.heap.size from rfl, gq149.alloc_cell, Array.getElem?_eq_getElem (by omega)]; rfl
    ·exact World.frozen?_alloc_at (w := w.drew) ROW _ w.drew.heap.size t rfl
  ·-- room: in place
   rcases hcell with h0 | ⟨⟨blk, off, sp⟩, rfl, hsp, h5, h6, _, hef⟩
   ·omega
   have hsp : sp = none := hsp
   subst hsp
   rw [k3] at h6
   have h5' : ∀ (t : Nat) (u : Value), us[t]? = some u → w.cell? ⟨blk, off + t, none⟩ = some u := fun t u h => h5 t u h
   have h6' : ∀ t, t < c * 3 → (w.cell? ⟨blk, off + t, none⟩).isSome = true ∧ w.frozen? ⟨blk, off + t, none⟩ = false := fun t ht => h6 t ht
   have hmr : ∀ t, t < c * 3 → MR g 0 (.arr (.pair .str (.pair .str (.int .i64))) s m true) ⟨blk, off + t, none⟩ := fun t ht => ⟨⟨blk, off, none⟩, n, c, t, hloc, by simp, by rw [k3]; exact ht, rfl⟩
   have hap : vb = blk → off + (n + m2) * 3 ≤ voff ∨ voff + m2 * 3 ≤ off := by
    rintro rfl
    rcases Nat.lt_or_ge voff (off + (n + m2) * 3) with h1 | h1
    ·rcases Nat.lt_or_ge off (voff + m2 * 3) with h3 | h3
     ·exfalso
      obtain ⟨t, q, ht, hq, e⟩ : ∃ t q, t < c * 3 ∧ q < m2 * 3 ∧ off + t = voff + q := by
       rcases Nat.le_total off voff with h4 | h4
       ·exact ⟨voff - off, 0, by omega, by omega, by omega⟩
       ·exact ⟨0, off - voff, by omega, by omega, by omega⟩
      have hq' := (hvat q _ (List.getElem?_eq_getElem (by omega))).2
      obtain ⟨b, _, hb⟩ := hq'
      have hm1 := hmr t ht
      rw [e] at hm1
      exact hI.st 0 _ _ b rfl hm1 hb
     ·exact .inr h3
    ·exact .inl h1
   have fin : ∀ (w' : World), (∀ t u, new[t]? = some u → w'.cell? ⟨blk, off + t, none⟩ = some u) → (∀ t, t < c * 3 → (w'.cell? ⟨blk, off + t, none⟩).isSome = true ∧ w'.frozen? ⟨blk, off + t, none⟩ = false) → Keeps (MR g 0 (.arr (.pair .str (.pair .str (.int .i64))) s m true)) w w' →
     Inv M0 w { g with loc := fun i => if i = 0 then .arr (some ⟨blk, off, none⟩) (n + m2) c else .none } (fun j => ([Ob.arr (.pair .str (.pair .str (.int .i64))) (List.take (Int.toNat (i : Int)) s ++ v ++ List.drop (Int.toNat (i : Int)) s) [] true] : List Ob)[j]?) w' ∧ (∀ b p, g.L b p → w'.cell? p = w.cell? p) := fun w' q1 q2 hk =>
    v98 (k := .pair .str (.pair .str (.int .i64))) rfl hI hyl hroom (hrows w') (.inr ⟨⟨blk, off, none⟩, rfl, rfl, fun t u h => q1 t u h, fun t ht => q2 t ht, fun hk' => hk.endAt (a := ⟨blk, off, none⟩) (t := 0) (h6' 0 (by omega)).1 (hef hk')⟩) hk (fun a t ha ht => by cases ha; exact .inl (hmr t ht))
   rcases Nat.lt_or_ge i n with hi | hi
   ·refine (gq149.shift blk off n c i vb voff m2 vc us vs w hi hm hroom hbig hul' hvl' h5' (fun t ht => (h6' t (by omega)).1) (fun t ht => (h6' t (by omega)).2) hvs hone honev hap (hef (by decide))).mono ?_
    rintro e w' ⟨rfl, rfl⟩
    have d0 : ∀ t, t < c * 3 → (w.drew.cell? ⟨blk, off + t, none⟩).isSome = true := fun t ht => (h6' t ht).1
    have c1 := u1f blk (off + (i + m2) * 3) (us.drop (i * 3)) w.drew (fun t ht => by rw [Nat.add_assoc]; exact d0 _ (by omega))
    have d1 : ∀ t, t < c * 3 → ((w.drew.setCells blk (off + (i + m2) * 3) (us.drop (i * 3))).cell? ⟨blk, off + t, none⟩).isSome = true := fun t ht => by
     rw [c1]
     split
     ·rw [List.getElem?_eq_getElem (by omega)]; rfl
     ·exact d0 t ht
    have c2 := u1f blk (off + i * 3) vs (w.drew.setCells blk (off + (i + m2) * 3) (us.drop (i * 3))) (fun t ht => by rw [Nat.add_assoc]; exact d1 _ (by omega))
    refine (fun q => ⟨_, _, _, rfl, q.1, q.2⟩) (fin _ (fun t u ht => ?_) (fun t ht => ⟨?_, ?_⟩) ?_)
    ·have htn := hlt t u _ ht
     rw [hnl] at htn
     rw [hget] at ht
     rw [c2]
     by_cases h1 : t < i * 3
     ·rw [if_pos h1] at ht
      rw [if_neg (by omega), c1, if_neg (by omega)]
      exact h5' t u ht
     ·rw [if_neg h1] at ht
      by_cases h3 : t < (i + m2) * 3
      ·rw [if_pos h3] at ht
       rw [if_pos (by omega), show off + t - (off + i * 3) = t - i * 3 by omega]
       exact ht
      ·rw [if_neg h3] at ht
       rw [if_neg (by omega), c1, if_pos (by omega), List.getElem?_drop, show i * 3 + (off + t - (off + (i + m2) * 3)) = t - m2 * 3 by omega]
       exact ht
    ·rw [c2]
     split
     ·rw [List.getElem?_eq_getElem (by omega)]; rfl
     ·exact d1 t ht
    ·rw [World.frozen?_setCells, World.frozen?_setCells]
     exact (h6' t ht).2
    ·refine ((Keeps.drew _ w).trans' (Keeps.setCells _ _ _ _ fun t ht => ?_) fun p _ h => h).trans' (Keeps.setCells _ _ _ _ fun t ht => ?_) fun p _ h => h
     ·rw [Nat.add_assoc]; exact hmr _ (by omega)
     ·rw [Nat.add_assoc]; exact hmr _ (by omega)
   ·obtain rfl : i = n := by omega
    refine (gq149.end_room blk off i c vb voff m2 vc vs w hm hroom hvl' (fun t ht => by rw [Nat.add_assoc]; exact (h6' _ (by omega)).1) (fun t ht => by rw [Nat.add_assoc]; exact (h6' _ (by omega)).2) hvs honev).mono ?_
    rintro e w' ⟨rfl, rfl⟩
    have c1 := u1f blk (off + i * 3) vs w (fun t ht => by rw [Nat.add_assoc]; exact (h6' _ (by omega)).1)
    refine (fun q => ⟨_, _, _, rfl, q.1, q.2⟩) (fin _ (fun t u ht => ?_) (fun t ht => ⟨?_, ?_⟩) ?_)
    ·have htn := hlt t u _ ht
     rw [hnl] at htn
     rw [hget] at ht
     rw [c1]
     by_cases h1 : t < i * 3
     ·rw [if_pos h1] at ht
      rw [if_neg (by omega)]
      exact h5' t u ht
     ·rw [if_neg h1, if_pos htn] at ht
      rw [if_pos (by omega), show off + t - (off + i * 3) = t - i * 3 by omega]
      exact ht
    ·rw [c1]
     split
     ·rw [List.getElem?_eq_getElem (by omega)]; rfl
     ·exact (h6' t ht).1
    ·rw [World.frozen?_setCells]
     exact (h6' t ht).2
    ·refine Keeps.setCells _ _ _ _ fun t ht => ?_
     rw [Nat.add_assoc]; exact hmr _ (by omega)
theorem gq149.fok : FOk Tryz.prog 149 gq149.fi := by
 refine ⟨⟨_, _, Tryz.func149, by kernel_rfl, rfl⟩, fun args a ha tvs h xs gs he w g M0 us hI hl hfv hus => ?_⟩
 obtain ⟨t, h1, h2⟩ := Option.bind_eq_some_iff.1 ha
 obtain ⟨r1, rfl, k1⟩ := w19 h1
 obtain ⟨r2, rfl, k2⟩ := w19 k1
 obtain ⟨r3, rfl, k4⟩ := w19 k2
 obtain rfl := decV0 k4
 obtain ⟨s, i, v, u⟩ := t
 have he' : some (([one1 (.slo 0), one1 (.int .i64 i), one1 (.slv [3] (.pair .str (.pair .str (.int .i64))) v)], [.arr (.pair .str (.pair .str (.int .i64))) s [] true], [⟨none, [0]⟩, ⟨none, []⟩, ⟨none, []⟩], []) : List TV × List Ob × List u5a × List GV) = some (tvs, h, xs, gs) := he
 simp only [Option.some.injEq, Prod.mk.injEq] at he'
 obtain ⟨rfl, rfl, rfl, rfl⟩ := he'
 match us, hus with
 | [u0, u1, u2], hus =>
  obtain ⟨⟨A, n, c, hloc, rfl⟩, hu1, hu2, _⟩ := hus
  have hu1 : u1 = .int .i64 i := hu1
  subst hu1
  refine (gq149.core h2 hI hloc hu2).mono ?_
  rintro e w' ⟨A', n', c', rfl, i1, i2⟩
  exact ⟨_, [.one (.slo 0)], [.arr (.pair .str (.pair .str (.int .i64))) a [] true], [], _, rfl, rfl, i1, ⟨A', n', c', rfl, rfl⟩, fun i j h => by simp at h, fun b p _ h => h, i2⟩
theorem gq107.zc (z : Value) (n : Nat) : (Builtin.zeroCells z.cells n).toList.length = n * z.cells.size := by simp [Builtin.zeroCells]
theorem gq107.info : (Tryz.prog.info? 97).map (fun i => (i.zero, i.size, i.bytes)) = some (some (.agg #[.string ⟨#[]⟩, .string ⟨#[]⟩, .int .i64 0]), 3, 40) := by kernel_rfl
theorem gq107.clear (w : World) (ty : TypeId) (b o n c : Nat) (hn : 0 < n) (zs : List Value) (hz : zs = (Builtin.zeroCells #[.string ⟨#[]⟩, .string ⟨#[]⟩, .int .i64 0] n).toList)
  (hc : ∀ j, j < n * 3 → (w.cell? ⟨b, o + j, none⟩).isSome = true ∧ w.frozen? ⟨b, o + j, none⟩ = false) :
  (Builtin.clear_ #[26] ty #[.slice (some ⟨b, o, none⟩) n c]).run Tryz.prog w = .ok (.tuple #[]) (w.setCells b o zs) := by
 have hl : zs.length = n * 3 := by rw [hz]; simp [Builtin.zeroCells]
 have h1 : ∀ u ∈ zs, u.oneCell' = true := by
  intro u hu
  rw [hz] at hu
  simp only [Builtin.zeroCells, Array.toList_map, List.mem_map] at hu
  obtain ⟨i, _, rfl⟩ := hu
  have h3 : i % 3 < 3 := Nat.mod_lt _ (by decide)
  generalize hq : i % 3 = q at h3
  rcases (show q = 0 ∨ q = 1 ∨ q = 2 by omega) with rfl | rfl | rfl <;> rfl
 have hst := run_storeCells_cells (P := Tryz.prog) b o zs 0 w (by rw [hl]; intro j hj; rw [Nat.add_zero]; exact (hc j hj).1) (by rw [hl]; intro j hj; rw [Nat.add_zero]; exact (hc j hj).2) h1
 simp only [Nat.add_zero] at hst
 obtain ⟨m, rfl⟩ : ∃ m, n = m + 1 := ⟨n - 1, by omega⟩
 have hz' : (Value.agg #[Value.string ⟨#[]⟩, Value.string ⟨#[]⟩, Value.int .i64 0]).cells = #[Value.string ⟨#[]⟩, Value.string ⟨#[]⟩, Value.int .i64 0] := rfl
 simp [Builtin.clear_, run_underlying Tryz.underlying26, Tryz.zeroValue97, hz', ← hz, hst]
set_option maxHeartbeats 4000000 in
set_option maxRecDepth 1000000 in
theorem gq107.walk (blk off n cap i j : Nat) (us zs : List Value) (w : World) (hul : us.length = n * 3) (hu : ∀ t u, us[t]? = some u → w.cell? ⟨blk, off + t, none⟩ = some u) (h1 : ∀ u ∈ us, u.oneCell' = true)
  (hc : ∀ t, t < cap * 3 → (w.cell? ⟨blk, off + t, none⟩).isSome = true ∧ w.frozen? ⟨blk, off + t, none⟩ = false) (hcap : n ≤ cap) (hij : i < j) (hj : j ≤ n) (hz : zs = (Builtin.zeroCells #[.string ⟨#[]⟩, .string ⟨#[]⟩, .int .i64 0] (j - i)).toList) :
  Calls Tryz.prog 107 #[.slice (some ⟨blk, off, none⟩) n cap, .int .i64 i, .int .i64 j] w fun e w' => e = .returned (.slice (some ⟨blk, off, none⟩) (n - (j - i)) cap) ∧ w' = (w.drew.setCells blk (off + i * 3) (us.drop (j * 3))).setCells blk (off + (n - (j - i)) * 3) zs := by
 obtain ⟨i0, hi0, hz0, hz1, hz2⟩ := info_parts gq107.info
 obtain ⟨news, hnews⟩ : ∃ news, news = us.drop (j * 3) := ⟨_, rfl⟩
 have hlen : news.length = (n - j) * 3 := by rw [hnews, List.length_drop, hul, Nat.sub_mul]
 have hget : ∀ t, t < news.length → news[t]? = us[j * 3 + t]? := by intro t ht; rw [hnews, List.getElem?_drop]
 obtain ⟨A, hA, hsrc⟩ : ∃ A : Addr, (if cap = j then some (⟨blk, off, none⟩ : Addr) else some ⟨blk, off + j * 3, none⟩) = some A ∧ Hid (∀ t u, news[t]? = some u → w.drew.cell? (A.add t) = some u) := by
  by_cases h : cap = j
  ·refine ⟨⟨blk, off, none⟩, by simp [h], fun t u hu => ?_⟩
   have h0 : news.length = 0 := by rw [hlen]; omega
   rw [List.length_eq_zero_iff.1 h0] at hu
   simp at hu
  ·refine ⟨⟨blk, off + j * 3, none⟩, by simp [h], fun t u hu' => ?_⟩
   rw [hnews, List.getElem?_drop] at hu'
   rw [Addr.add_lit, show off + j * 3 + t = off + (j * 3 + t) by omega]
   exact hu _ _ hu'
 have s1 : Hid (news.length = (n - j) * 3) := hlen
 have s2 : Hid (∀ u ∈ news, u.oneCell' = true) := by
  intro u hu
  rw [hnews] at hu
  exact h1 u (List.mem_of_mem_drop hu)
 have s3 : Hid (∀ t, t < news.length → (w.drew.cell? ⟨blk, off + i * 3 + t, none⟩).isSome = true ∧ w.drew.frozen? ⟨blk, off + i * 3 + t, none⟩ = false) := by
  intro t ht
  rw [hlen] at ht
  rw [Nat.add_assoc]
  exact hc _ (by omega)
 obtain ⟨W1, hW1⟩ : ∃ W1, W1 = w.drew.setCells blk (off + i * 3) news := ⟨_, rfl⟩
 have hcl : ∀ ty, (Builtin.clear_ #[26] ty #[.slice (some ⟨blk, off + (i + (n - j)) * 3, none⟩) (n - (i + (n - j))) (cap - (i + (n - j)))]).run Tryz.prog W1 = .ok (.tuple #[]) (W1.setCells blk (off + (i + (n - j)) * 3) zs) := by
  intro ty
  refine gq107.clear W1 ty blk _ _ _ (by omega) zs (by rw [hz]; congr 2; omega) fun t ht => ?_
  have hb : (i + (n - j)) * 3 + t < cap * 3 := by omega
  have h0 := hc _ hb
  rw [hW1, Nat.add_assoc]
  have e := u1f blk (off + i * 3) news w.drew (fun t ht => by rw [Nat.add_assoc]; exact (hc (i * 3 + t) (by omega)).1) (off + ((i + (n - j)) * 3 + t))
  constructor
  ·rw [e]
   split
   ·rename_i h
    rw [List.getElem?_eq_getElem (by omega)]
    rfl
   ·exact h0.1
  ·rw [World.frozen?_setCells]; exact h0.2
 have hW : Hid (W1 = w.drew.setCells blk (off + i * 3) news) := hW1
 have hic : i ≤ cap := by omega
 have hjc : j ≤ cap := by omega
 have hN : n - (j - i) = i + (n - j) := by omega
 rw [hN, ← hnews, ← hW1]
 have mixed : Tryz.prog.follows .mixedOrders = true := by kernel_rfl
 clear hW1 hc hu hget hnews hlen hul h1 hz
 go_enter Tryz.func107, Tryz.ntmps107
 go_wp2_with fail
 go_region_law_o (refine step_append_room rfl (.tmp 22) (.tmp 25) 26 rfl 97 i0 3 Tryz.underlying26 hi0 hz1 blk off i cap (by simp [Act.eval, Act.put]) A (n - j) (cap - j) news (by simp [Act.eval, Act.put]) s1.out hsrc.out s2.out (by omega) s3.out ?_; rw [← hW.out])
 go_wp2
 go_ret
 exact ⟨rfl, rfl⟩
noncomputable def gq107.F {R : Type} (kk : List (El (.pair .str (.pair .str (.int .i64)))) → Option R) (s : List (El (.pair .str (.pair .str (.int .i64))))) (i j : Int) : Option R := grd (decide (0 ≤ i) && (decide (i < j) && decide (j ≤ s.length))) <| kk (s.take i.toNat ++ s.drop j.toNat)
noncomputable def gq107 (s : List (El (.pair .str (.pair .str (.int .i64))))) (i j : Int) : Option (List (El (.pair .str (.pair .str (.int .i64))))) := gq107.F (fun y0 => some y0) s i j
def gq107.out : List (El (.pair .str (.pair .str (.int .i64)))) → CRes := fun a => ⟨encL SV.enc [.one (.own [] (.pair .str (.pair .str (.int .i64))) true)] (a, ()), [encL SC.enc [] (), encL SC.enc [] (), encL SC.enc [] ()]⟩
def gq107.ps : List PS := [.val [some (.pair .str (.pair .str (.int .i64)), true)], .val [none], .val [none]]
def gq107.sA : List SA := [.v (.one (.own [] (.pair .str (.pair .str (.int .i64))) true)), .v (.one (.int .i64)), .v (.one (.int .i64))]
noncomputable def gq107.fi : FI := FIs gq107.sA (List (El (.pair .str (.pair .str (.int .i64))))) (fun t => gq107 t.1 t.2.1 t.2.2.1) gq107.out gq107.ps
theorem gq107.core {s a : List (El (.pair .str (.pair .str (.int .i64))))} {i j : Int} (h2 : gq107 s i j = some a) {M0 : Addr → Prop} {w : World} {g : Gh} {m : List Nat} (hI : Inv M0 w g (fun i => ([Ob.arr (.pair .str (.pair .str (.int .i64))) s m true] : List Ob)[i]?) w) {A : Option Addr} {n c : Nat} (hloc : g.loc 0 = .arr A n c) :
  Calls Tryz.prog 107 #[.slice A n c, .int .i64 i, .int .i64 j] w fun e w' => ∃ A' n' c', e = .returned (.slice A' n' c') ∧ Inv M0 w { g with loc := fun i => if i = 0 then .arr A' n' c' else .none } (fun i => ([Ob.arr (.pair .str (.pair .str (.int .i64))) a [] true] : List Ob)[i]?) w' ∧ (∀ b p, g.L b p → w'.cell? p = w.cell? p) := by
 have h2' : grd (decide (0 ≤ i) && (decide (i < j) && decide (j ≤ s.length))) (some (s.take i.toNat ++ s.drop j.toNat)) = some a := h2
 cases hg : decide (0 ≤ i) && (decide (i < j) && decide (j ≤ (List.length s : Int))) with
 | false => rw [hg] at h2'; cases h2'
 | true =>
  rw [hg] at h2'
  obtain rfl := Option.some.inj h2'
  rw [Bool.and_eq_true, Bool.and_eq_true, decide_eq_true_iff, decide_eq_true_iff, decide_eq_true_iff] at hg
  obtain ⟨g0, g1, g2⟩ := hg
  obtain ⟨A', n', c', us, e2, hxl, hnc, hu, hcell⟩ := hI.ob 0 _ rfl
  rw [hloc] at e2
  cases e2
  obtain ⟨i, rfl⟩ : ∃ q : Nat, i = q := ⟨i.toNat, by omega⟩
  obtain ⟨j, rfl⟩ : ∃ q : Nat, j = q := ⟨j.toNat, by omega⟩
  have hul := Rows2.len (ER.len _) hu
  have k3 : Kd.size (.pair .str (.pair .str (.int .i64))) = 3 := rfl
  rw [k3] at hul
  have hone := u9d (L := g.L) hu
  rcases hcell with h0 | ⟨⟨blk, off, sp⟩, rfl, hsp, h5, h6, _, hef⟩
  ·omega
  ·have hsp : sp = none := hsp
   subst hsp
   rw [k3] at h6
   have h5' : ∀ (t : Nat) (u : Value), us[t]? = some u → w.cell? ⟨blk, off + t, none⟩ = some u := fun t u h => h5 t u h
   have h6' : ∀ t, t < c * 3 → (w.cell? ⟨blk, off + t, none⟩).isSome = true ∧ w.frozen? ⟨blk, off + t, none⟩ = false := fun t ht => h6 t ht
   obtain ⟨zs, hz⟩ : ∃ zs, zs = (Builtin.zeroCells #[.string ⟨#[]⟩, .string ⟨#[]⟩, .int .i64 0] (j - i)).toList := ⟨_, rfl⟩
   have hzl : zs.length = (j - i) * 3 := by rw [hz]; simp [Builtin.zeroCells]
   have hul' : us.length = n * 3 := by rw [hul, hxl]
   have hcl := gq107.walk blk off n c i j us zs w hul' h5' hone h6' hnc (by omega) (by omega) hz
   refine hcl.mono ?_
   rintro e w' ⟨rfl, rfl⟩
   have hnl : (us.drop (j * 3)).length = (n - j) * 3 := by rw [List.length_drop, hul', Nat.sub_mul]
   have hd6 : ∀ t, t < c * 3 → (w.drew.cell? ⟨blk, off + t, none⟩).isSome = true := fun t ht => (h6' t ht).1
   have c1 : ∀ q, (w.drew.setCells blk (off + i * 3) (us.drop (j * 3))).cell? ⟨blk, q, none⟩ = if off + i * 3 ≤ q ∧ q < off + i * 3 + (us.drop (j * 3)).length then (us.drop (j * 3))[q - (off + i * 3)]? else w.drew.cell? ⟨blk, q, none⟩ := fun q => u1f blk (off + i * 3) (us.drop (j * 3)) w.drew (fun t ht => by rw [Nat.add_assoc]; exact hd6 _ (by omega)) q
   have hd7 : ∀ t, t < c * 3 → ((w.drew.setCells blk (off + i * 3) (us.drop (j * 3))).cell? ⟨blk, off + t, none⟩).isSome = true := by
    intro t ht
    rw [c1]
    split
    ·rename_i h
     rw [List.getElem?_eq_getElem (by omega)]
     rfl
    ·exact hd6 t ht
   have c2 : ∀ q, ((w.drew.setCells blk (off + i * 3) (us.drop (j * 3))).setCells blk (off + (n - (j - i)) * 3) zs).cell? ⟨blk, q, none⟩ = if off + (n - (j - i)) * 3 ≤ q ∧ q < off + (n - (j - i)) * 3 + zs.length then zs[q - (off + (n - (j - i)) * 3)]? else (w.drew.setCells blk (off + i * 3) (us.drop (j * 3))).cell? ⟨blk, q, none⟩ := fun q => u1f blk _ zs _ (fun t ht => by rw [Nat.add_assoc]; exact hd7 _ (by omega)) q
   have hrows := Rows2.append (Rows2.take (ER.len (w := w) (S := SM g.L m) (.pair .str (.pair .str (.int .i64)))) i hu) (Rows2.drop (ER.len (w := w) (S := SM g.L m) (.pair .str (.pair .str (.int .i64)))) j hu)
   have hkeep : Keeps (MR g 0 (.arr (.pair .str (.pair .str (.int .i64))) s m true)) w ((w.drew.setCells blk (off + i * 3) (us.drop (j * 3))).setCells blk (off + (n - (j - i)) * 3) zs) := by
    refine ((Keeps.drew _ w).trans' (Keeps.setCells _ _ _ _ fun t ht => ?_) fun p _ h => h).trans' (Keeps.setCells _ _ _ _ fun t ht => ?_) fun p _ h => h
    ·exact ⟨⟨blk, off, none⟩, n, c, i * 3 + t, hloc, by simp, by rw [k3]; omega, by simp [pl, Nat.add_assoc]⟩
    ·exact ⟨⟨blk, off, none⟩, n, c, (n - (j - i)) * 3 + t, hloc, by simp, by rw [k3]; omega, by simp [pl, Nat.add_assoc]⟩
   have htl : (us.take (i * 3)).length = i * 3 := by rw [List.length_take, hul']; omega
   have q1 : ∀ (t : Nat) (u : Value), (us.take (i * 3) ++ us.drop (j * 3))[t]? = some u → ((w.drew.setCells blk (off + i * 3) (us.drop (j * 3))).setCells blk (off + (n - (j - i)) * 3) zs).cell? (pl ⟨blk, off, none⟩ t) = some u := by
    intro t u ht
    have hlt : t < (us.take (i * 3) ++ us.drop (j * 3)).length := by
     rcases Nat.lt_or_ge t (us.take (i * 3) ++ us.drop (j * 3)).length with h | h
     ·exact h
     ·rw [List.getElem?_eq_none h] at ht; cases ht
    rw [List.length_append, htl, hnl] at hlt
    show World.cell? _ ⟨blk, off + t, none⟩ = some u
    rw [c2, if_neg (by omega), c1]
    rw [List.getElem?_append, htl] at ht
    split at ht
    ·rw [if_neg (by omega)]
     rw [List.getElem?_take, if_pos (by assumption)] at ht
     exact h5' t u ht
    ·rw [if_pos (by omega), show off + t - (off + i * 3) = t - i * 3 by omega]
     exact ht
   have q2 : ∀ t, t < c * Kd.size (.pair .str (.pair .str (.int .i64))) → (((w.drew.setCells blk (off + i * 3) (us.drop (j * 3))).setCells blk (off + (n - (j - i)) * 3) zs).cell? (pl ⟨blk, off, none⟩ t)).isSome = true ∧ ((w.drew.setCells blk (off + i * 3) (us.drop (j * 3))).setCells blk (off + (n - (j - i)) * 3) zs).frozen? (pl ⟨blk, off, none⟩ t) = false := by
    intro t ht
    rw [k3] at ht
    constructor
    ·show (World.cell? _ ⟨blk, off + t, none⟩).isSome = true
     rw [c2]
     split
     ·rename_i h
      rw [List.getElem?_eq_getElem (by omega)]
      rfl
     ·exact hd7 t ht
    ·rw [World.frozen?_setCells, World.frozen?_setCells]
     exact (h6' t ht).2
   have q3 : ∀ (a : Addr) (t : Nat), some (⟨blk, off, none⟩ : Addr) = some a → t < c * Kd.size (.pair .str (.pair .str (.int .i64))) → MR g 0 (.arr (.pair .str (.pair .str (.int .i64))) s m true) (pl a t) ∨ w.heap.size ≤ (pl a t).block := by
    intro a t ha ht
    cases ha
    exact .inl ⟨⟨blk, off, none⟩, n, c, t, hloc, by simp, ht, rfl⟩
   obtain ⟨i1, i2⟩ := v98 (k := .pair .str (.pair .str (.int .i64))) (ys := s.take i ++ s.drop j) (m' := []) (A' := some ⟨blk, off, none⟩) (n' := n - (j - i)) (c' := c) rfl hI (by simp; omega) (by omega) (Rows2.mono (fun x y h => ER.flat _ x y rfl h) hrows)
    (.inr ⟨⟨blk, off, none⟩, rfl, rfl, q1, q2, fun hk => hkeep.endAt (a := ⟨blk, off, none⟩) (t := 0) (h6' 0 (by omega)).1 (hef hk)⟩) hkeep q3
   exact ⟨_, _, _, rfl, i1, i2⟩
theorem gq107.fok : FOk Tryz.prog 107 gq107.fi := by
 refine ⟨⟨_, _, Tryz.func107, by kernel_rfl, rfl⟩, fun args a ha tvs h xs gs he w g M0 us hI hl hfv hus => ?_⟩
 obtain ⟨t, h1, h2⟩ := Option.bind_eq_some_iff.1 ha
 obtain ⟨r1, rfl, k1⟩ := w19 h1
 obtain ⟨r2, rfl, k2⟩ := w19 k1
 obtain ⟨r3, rfl, k4⟩ := w19 k2
 obtain rfl := decV0 k4
 obtain ⟨s, i, j, u⟩ := t
 have he' : some (([one1 (.slo 0), one1 (.int .i64 i), one1 (.int .i64 j)], [.arr (.pair .str (.pair .str (.int .i64))) s [] true], [⟨none, [0]⟩, ⟨none, []⟩, ⟨none, []⟩], []) : List TV × List Ob × List u5a × List GV) = some (tvs, h, xs, gs) := he
 simp only [Option.some.injEq, Prod.mk.injEq] at he'
 obtain ⟨rfl, rfl, rfl, rfl⟩ := he'
 match us, hus with
 | [u0, u1, u2], hus =>
  obtain ⟨⟨A, n, c, hloc, rfl⟩, hu1, hu2, _⟩ := hus
  have hu1 : u1 = .int .i64 i := hu1
  have hu2 : u2 = .int .i64 j := hu2
  subst hu1
  subst hu2
  refine (gq107.core h2 hI hloc).mono ?_
  rintro e w' ⟨A', n', c', rfl, i1, i2⟩
  exact ⟨_, [.one (.slo 0)], [.arr (.pair .str (.pair .str (.int .i64))) a [] true], [], _, rfl, rfl, i1, ⟨A', n', c', rfl, rfl⟩, fun i j h => by simp at h, fun b p _ h => h, i2⟩
end Go.Proofs.YtaanadbpnmcbcaaGreatDoorA
