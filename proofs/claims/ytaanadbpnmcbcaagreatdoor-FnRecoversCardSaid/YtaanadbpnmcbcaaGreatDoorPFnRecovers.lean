import Derived.Test.YtaanadbpnmcbcaaGreatDoorAWord
import Derived.Laws.BytesArg
import Derived.Lib.Strings
import Derived.Test.YtaanadbpnmcbcaaGreatDoorXmF3
import Derived.Lib.SlTrimSet
import Derived.Test.YtaanadbpnmcbcaaGreatDoorPFnRecoversa
set_option linter.unusedVariables false
set_option linter.unusedSimpArgs false
namespace Go.Proofs.YtaanadbpnmcbcaaGreatDoorA
open Go
def suF (f : El u4) : Int := f.2.2
def szF (f : El u4) : Nat := ByteArray.size f.2.1
def crN (keep : List Int) (i : Nat) (f : El u4) : Int := if i < keep.length then mx2 (suF f) (mn2 (szF f : Int) (suF f + mn2 3000 (rdE (.int .i64 : Kd) keep i))) else suF f
def crF (keep : List Int) (i : Nat) (f : El u4) : El u4 := (f.1, (cut f.2.1 0 (crN keep i f), crN keep i f))
def crL (keep : List Int) : Nat → List (El u4) → List (El u4)
 | _, [] => []
 | i, f :: r => crF keep i f :: crL keep (i + 1) r
theorem crn_int (s z k : Int) (h0 : 0 ≤ s) (h1 : s ≤ z) : s ≤ mx2 s (mn2 z (s + mn2 3000 k)) ∧ mx2 s (mn2 z (s + mn2 3000 k)) ≤ z := by
 unfold mx2 mn2
 repeat' split
 all_goals omega
theorem ueb {keep : List Int} {i : Nat} {f : El u4} (h0 : 0 ≤ suF f) (h1 : suF f ≤ (szF f : Int)) : suF f ≤ crN keep i f ∧ crN keep i f ≤ (szF f : Int) := by
 unfold crN
 split
 ·exact crn_int _ _ _ h0 h1
 ·exact ⟨Int.le_refl _, h1⟩
theorem cut_all (s : ByteArray) : cut s 0 (s.size : Int) = s := by
 have := u36 (bytesL s) 0 (s.size : Int)
 rw [u1e] at this
 rw [this, show sub (bytesL s) 0 (s.size : Int) = bytesL s by
  show ((bytesL s).take (s.size : Int).toNat).drop (0 : Int).toNat = bytesL s
  rw [Int.toNat_natCast, List.take_of_length_le (by rw [u13]; exact Nat.le_refl _)]
  rfl, u1e]
theorem vc4 (A : List (El u4)) (f : El u4) (r : List (El u4)) : rdE u4 (A ++ f :: r) A.length = f := by
 rw [u1b (k := u4) (by simp)]
 simp
theorem v47 (A : List (El u4)) (f x : El u4) (r : List (El u4)) : setE u4 (A ++ f :: r) A.length x = A ++ x :: r := by
 rw [w84, List.set_append_right _ _ (Nat.le_refl _), Nat.sub_self]
 rfl
theorem v11 {R : Type} (kke : Int → Int → List (El u4) → Option R) (keep : List Int) (hk : ∀ x ∈ keep, 0 ≤ x ∧ x ≤ 1000) (hkl : keep.length ≤ 1000) (i1 out : Int) : ∀ (B : List (El u4)) (A : List (El u4)) (fu : Nat), (∀ f ∈ B, 0 ≤ suF f ∧ suF f ≤ (szF f : Int) ∧ szF f ≤ 3000) → A.length + B.length ≤ 1000 → B.length < fu →
  gq123.l2 kke fu keep (A.length : Int) i1 out (A ++ B) = kke i1 out (A ++ crL keep A.length B)
 | [], A, fu, _, hl, hf => by
  obtain ⟨fu, rfl⟩ : ∃ q, fu = q + 1 := ⟨fu - 1, by omega⟩
  simp only [gq123.l2]
  rw [List.append_nil, uf (by omega), cf]
  simp [crL]
 | f :: r, A, fu, hb, hl, hf => by
  rw [List.length_cons] at hl hf
  obtain ⟨fu, rfl⟩ : ∃ q, fu = q + 1 := ⟨fu - 1, by omega⟩
  obtain ⟨b0, b1, b2⟩ := hb f (by simp)
  have hcr := ueb (keep := keep) (i := A.length) b0 b1
  have hlen : (A ++ f :: r).length = A.length + (r.length + 1) := by simp
  have fin : ∀ n_ : Int, n_ = crN keep A.length f → (grd (gSl (0 : Int) n_ (ByteArray.size f.2.1)) <| gq123.l2 kke fu keep (IntKind.wrap .i64 ((A.length : Int) + 1)) i1 out (A ++ (f.1, (cut f.2.1 0 n_, n_)) :: r)) = kke i1 out (A ++ crL keep A.length (f :: r)) := by
   rintro _ rfl
   rw [u10 (show gSl 0 (crN keep A.length f) (ByteArray.size f.2.1) = true from u4f (by decide) (by omega) hcr.2), wr (by omega) (by omega)]
   have ih := v11 kke keep hk hkl i1 out r (A ++ [crF keep A.length f]) fu (fun x hx => hb x (by simp [hx])) (by simp; omega) (by omega)
   rw [List.append_assoc, List.append_assoc, List.length_append, List.length_singleton] at ih
   rw [show ((A.length : Int) + 1) = ((A.length + 1 : Nat) : Int) by omega]
   exact ih
  simp only [gq123.l2, gq123.j1]
  rw [ud (by omega), ct, u10 (u17 (by omega) (by omega)), Int.toNat_natCast]
  by_cases hi : A.length < keep.length
  ·have hx := hk _ (List.getElem_mem hi)
   have hrd : rdE (.int .i64 : Kd) keep A.length = keep[A.length] := u1b (k := .int .i64) hi
   have hm : 0 ≤ mn2 3000 keep[A.length] ∧ mn2 3000 keep[A.length] ≤ 3000 := by unfold mn2; split <;> omega
   rw [ud (by omega), ct, u10 (u17 (by omega) (by omega))]
   rw [vc4, v47, vc4, v47, hrd]
   have hw : IntKind.wrap .i64 (suF f + mn2 3000 keep[A.length]) = suF f + mn2 3000 keep[A.length] := wr (by omega) (by omega)
   refine fin _ ?_
   show mx2 (suF f) (mn2 (szF f : Int) (IntKind.wrap .i64 (suF f + mn2 3000 keep[A.length]))) = _
   rw [hw]
   unfold crN
   rw [if_pos hi, hrd]
  ·rw [uf (by omega), cf]
   rw [vc4, v47, vc4, v47]
   refine fin _ ?_
   unfold crN
   rw [if_neg hi]
   rfl
theorem u89 {l : List (El u4)} (h : DP 3000 l) (keep : List Int) (hk : ∀ x ∈ keep, 0 ≤ x ∧ x ≤ 1000) (hkl : keep.length ≤ 1000) (hdp : (crL keep 0 l).length ≤ 1000) :
  gq29 3000 l 5 0 ByteArray.empty ByteArray.empty ByteArray.empty keep = some (3000, crL keep 0 l, 0) := by
 have h8 := h.len
 unfold gq29 gq29.F
 have hz : decide ((ByteArray.size ByteArray.empty : Int) > 65536) = false := rfl
 rw [hz, cf, cf, cf, uf (by omega), cf, w32 3000 l (by omega) ⟨h.dk.fit, fun f hf => by have := h.dk.data hf; omega⟩, bs, h.ok, Bool.not_true, cf]
 unfold gq74 gq74.F gq74.j1
 rw [show ((5 : Int) == 1) = false from rfl, cf, show ((5 : Int) == 5) = true from rfl, ct]
 unfold gq123 gq123.F gq50 gq50.F
 rw [u10 (u28 (by simp only [List.length_nil]; omega)), bs, List.nil_append]
 have e := v11 (fun i out l => some (out, l)) keep hk hkl 0 3000 l [] fuel (fun f hf => ⟨(h.sure f hf).1, (h.sure f hf).2, h.dk.data hf⟩) (by simp; omega) (u1c (by omega))
 rw [List.length_nil, Int.natCast_zero, List.nil_append, List.nil_append] at e
 dsimp only
 rw [e, bs, bs]
 dsimp only
 rw [u10 (u28 (by simp only [List.length_nil]; omega)), bs, List.nil_append]
theorem vd1 (keep : List Int) : ∀ (l : List (El u4)) (i : Nat), (∀ f ∈ l, suF f = (szF f : Int)) → crL keep i l = l
 | [], _, _ => rfl
 | f :: r, i, h => by
  have hf := h f (by simp)
  have hr := ueb (keep := keep) (i := i) (f := f) (by omega) (by omega)
  have e : crN keep i f = (szF f : Int) := by omega
  have e2 : crF keep i f = f := by
   unfold crF
   rw [e, show cut f.2.1 0 (szF f : Int) = f.2.1 from cut_all _, ← hf]
   rfl
  rw [crL, e2, vd1 keep r (i + 1) fun x hx => h x (by simp [hx])]
theorem v18 (keep : List Int) : ∀ (a b : List (El u4)) (i : Nat), crL keep i (a ++ b) = crL keep i a ++ crL keep (i + a.length) b
 | [], b, i => rfl
 | f :: a, b, i => by
  rw [List.cons_append, crL, crL, v18 keep a b (i + 1), List.cons_append, List.length_cons, Nat.add_assoc, Nat.add_comm 1]
def u3f (n : Nat) (x : List Int) (s : Int) : El u4 := (nmV (n : Int), (strL x, s))
theorem v60 {n F j : Nat} {g : List ByteArray} {x : List Int} {s : Int} (hg : ∀ r ∈ g, Rec1 r) (hn : n ≤ 99) (hF : F < 4294967296) {u c : Int} (hx : frT x = (((segD F g).take j).map strL, u, c)) (hxb : IsBytes x) (hc : c = 0 ∨ c = 16) (last : Int) (R N : List ByteArray)
  (h : N.isEmpty = true ∧ F = 0 ∨ N.isEmpty = false ∧ last + 1 = n ∧ (F : Int) = (R.length : Int)) :
  wGo [u3f n x s] last 0 R N 0 = (0, R ++ g.take (j - 1), N ++ [nmV (n : Int)], (x.length : Int) - u, 0) := by
 have hfr : frF (u3f n x s) = (((segD F g).take j).map strL, u, c) := by
  unfold frF u3f
  rw [u1d hxb, hx]
 have hh : beN 0 (bytesL (strL (beL (F : Int) 4))) = (F : Int) := by
  rw [u1d (u25 _ _)]
  exact ub0 _ 4 (by omega) (by omega)
 have hs : ((strL (beL (F : Int) 4)).size : Int) = 4 := by rw [u11, u14]; rfl
 have hb : (c != 0 && !(true && c == 16)) = false := by rcases hc with rfl | rfl <;> rfl
 have hseg : segB (u3f n x s).1 = (n : Int) := u7b n hn
 have hgap : (!N.isEmpty && segB (u3f n x s).1 != last + 1) = false := by
  rw [hseg]
  rcases h with ⟨h, _⟩ | ⟨h, h1, _⟩
  ·rw [h]; rfl
  ·rw [h, h1]; simp
 have key : cW 0 R N last (u3f n x s) true = 0 ∧ fW 0 N (u3f n x s) = 0 ∧ (frF (u3f n x s)).1.tail = g.take (j - 1) := by
  unfold cW fW
  rw [hfr, hgap]
  dsimp only
  rw [hb, cf, cf]
  cases j with
  | zero =>
   rw [List.take_zero]
   exact ⟨rfl, rfl, by simp⟩
  | succ j =>
   have e : ((segD F g).take (j + 1)).map strL = strL (beL F 4) :: g.take j := by
    rw [segD, List.take_succ_cons, List.map_cons, ← List.map_take, vc7]
   rw [e, List.isEmpty_cons, cf, List.headD_cons, hs, hh, List.tail_cons, Nat.add_sub_cancel]
   refine ⟨?_, ?_, rfl⟩
   ·rcases h with ⟨h, h1⟩ | ⟨h, _, h1⟩
    ·rw [h]; rfl
    ·rw [h, h1]; simp
   ·rcases h with ⟨h, h1⟩ | ⟨h, _, h1⟩
    ·rw [h, h1]; rfl
    ·rw [h]; rfl
 unfold wGo
 rw [List.isEmpty_nil, key.1, show ((0 : Int) != 0) = false from rfl, cf, key.2.1, key.2.2]
 unfold wGo
 rw [hfr]
 show (0, R ++ g.take (j - 1), N ++ [nmV (n : Int)], ((strL x).size : Int) - u, 0) = _
 rw [u11]
theorem v20 {a : Gs} (ha : ue4 a) {j : Nat} {g : List ByteArray} {x : List Int} {s : Int} (hg : ∀ r ∈ g, Rec1 r) (hn : 1 + a.length ≤ 99) (hF : (allR a).length < 4294967296) {u c : Int} (hx : frT x = (((segD (allR a).length g).take j).map strL, u, c)) (hxb : IsBytes x) (hc : c = 0 ∨ c = 16) :
  wV (logF 1 0 a ++ [u3f (1 + a.length) x s]) = (0, allR a ++ g.take (j - 1), nms 1 a.length ++ [nmV ((1 + a.length : Nat) : Int)], (x.length : Int) - u, 0) := by
 have hsg : segs (logF 1 0 a ++ [u3f (1 + a.length) x s]) = logF 1 0 a ++ [u3f (1 + a.length) x s] := by
  refine vf2 fun f hf => ?_
  rcases List.mem_append.1 hf with hf | hf
  ·obtain ⟨i, F', g', h1, h2, _, rfl⟩ := u4e a 1 0 f hf
   rw [show segB (segF i F' g'.1 g'.2).1 = (i : Int) from u7b i (by omega)]
   omega
  ·obtain rfl := List.mem_singleton.1 hf
   rw [show segB (u3f (1 + a.length) x s).1 = ((1 + a.length : Nat) : Int) from u7b _ hn]
   omega
 unfold wV
 rw [hsg]
 cases ha0 : a with
 | nil =>
  subst ha0
  exact v60 (n := 1) (F := 0) hg (by decide) (by decide) hx hxb hc 0 [] [] (.inl ⟨rfl, rfl⟩)
 | cons y b =>
  have hne : a ≠ [] := by rw [ha0]; simp
  rw [← ha0, vd0 a 1 0 ha (by omega) (by omega) hne]
  refine v60 hg hn hF hx hxb hc _ _ _ (.inr ⟨?_, by omega, rfl⟩)
  rw [ha0]
  rfl
theorem DP.last {room : Int} {l : List (El u4)} {f f' : El u4} (h : DP room (l ++ [f])) (h1 : f'.1 = f.1) (h2 : ByteArray.size f'.2.1 ≤ ByteArray.size f.2.1) (h3 : 0 ≤ suF f' ∧ suF f' ≤ (szF f' : Int)) : DP room (l ++ [f']) := by
 have ht := h.tot
 have e : ∀ x : El u4, totF (l ++ [x]) = totF l + ByteArray.size x.2.1 := fun x => by
  rw [u6d]
  simp [totF]
 rw [e] at ht
 refine ⟨h.rm, by simpa using h.len, by rw [e]; omega, fun x hx => ?_, ?_, fun x hx => ?_⟩
 ·rcases List.mem_append.1 hx with hx | hx
  ·exact h.name x (by simp [hx])
  ·obtain rfl := List.mem_singleton.1 hx
   rw [h1]
   exact h.name f (by simp)
 ·have hr := h.rise
  rw [List.pairwise_append] at hr ⊢
  refine ⟨hr.1, List.pairwise_singleton _ _, fun x hx y hy => ?_⟩
  obtain rfl := List.mem_singleton.1 hy
  rw [h1]
  exact hr.2.2 x hx f (by simp)
 ·rcases List.mem_append.1 hx with hx | hx
  ·exact h.sure x (by simp [hx])
  ·obtain rfl := List.mem_singleton.1 hx
   exact h3
theorem ud3 {room : Int} {l : List (El u4)} (h : DK room l) {k : Nat} (hk : k < l.length) (h0 : (wV l).2.2.2.2 = 0) (hN : ∃ N', (wV l).2.2.1 = N' ++ [l[k].1] ∧ N'.length ≤ 1000) (hT : (wV l).2.2.2.1 = (ByteArray.size l[k].2.1 : Int) - (frF l[k]).2.1) :
  gq30 room l = some (room, cond (decide ((wV l).2.2.2.1 > 0)) (cond ((frF l[k]).2.1 == 0) (l.take k ++ l.drop (k + 1)) (l.set k (l[k].1, (cut l[k].2.1 0 (frF l[k]).2.1, mn2 l[k].2.2 (frF l[k]).2.1)))) l, 0) := by
 have h8 := h.len
 have hdp := h.dp
 obtain ⟨N', hN, hNl⟩ := hN
 unfold gq30 gq30.F
 have hr := uce room l (by omega) ⟨h.fit, fun f hf => by have := h.data hf; omega⟩
 unfold u5e at hr
 rw [hdp.ok, ct] at hr
 rw [hr, bs, h0, show ((0 : Int) != 0) = false from rfl, cf]
 unfold gq53 gq53.F
 rw [v9f l (by omega), bs, bs, hN, w4e _ _ N' l[k].1 _ (by omega), bs]
 obtain ⟨_, _, u0, u1⟩ := u9b l[k]
 have hsz := h.data (List.getElem_mem hk)
 by_cases ht : (wV l).2.2.2.1 > 0
 ·rw [ud ht, ct, ct, u52 h hk, bs]
  dsimp only
  rw [u10 (u17 (by omega) (by omega)), Int.toNat_natCast k, u1b (k := u4) hk, hT, wr (x := (ByteArray.size l[k].2.1 : Int) - ((ByteArray.size l[k].2.1 : Int) - (frF l[k]).2.1)) (by omega) (by omega), show (ByteArray.size l[k].2.1 : Int) - ((ByteArray.size l[k].2.1 : Int) - (frF l[k]).2.1) = (frF l[k]).2.1 by omega]
  by_cases hz : (frF l[k]).2.1 = 0
  ·rw [hz, show ((0 : Int) == 0) = true from rfl, ct, ct, do_drop h hk, bs]
  ·rw [show ((frF l[k]).2.1 == 0) = false by simpa using hz, cf, cf, do_cut h hk _ u0 u1, bs]
 ·rw [uf ht, cf, cf]
theorem w30 (F : Nat) (g : List ByteArray) (t : Nat) : (recs ((segD F g).take (t + 1))).length = u19 (g.take t) := by
 rw [← u57 F (g.take t)]
 congr 2
 unfold segD
 rw [List.take_succ_cons, List.map_take]
theorem v5d {a : Gs} {g : List ByteArray} {s : Int} (h : LG (a ++ [(g, s)])) (hfull : ∀ x ∈ a, x.2 = (u19 x.1 : Int)) (keep : List Int) (hk : ∀ x ∈ keep, 0 ≤ x ∧ x ≤ 1000) (hkl : keep.length ≤ 1000) (t : Nat) (htl : t ≤ g.length) (ht : t = 0 ∨ (u19 (g.take t) : Int) ≤ s) :
  ∃ x y N F q, gq29 3000 (logF 1 0 (a ++ [(g, s)])) 5 0 ByteArray.empty ByteArray.empty ByteArray.empty keep = some (3000, x, 0) ∧ gq30 3000 x = some (3000, y, 0) ∧ DP 3000 x ∧
   DP 3000 y ∧ u5e 3000 y = (F, allR a ++ g.take q, N, 0, 0) ∧ t ≤ q := by
 have hlen : a.length + 1 ≤ 8 := by have := h.len; simpa using this
 have hg : ∀ r ∈ g, Rec1 r := h.recs (g, s) (by simp)
 have hra : ue4 a := fun x hx => h.recs x (by simp [hx])
 have hs := h.sure (g, s) (by simp)
 have hcnt := h.cnt
 rw [u23, List.length_append] at hcnt
 have hdp := h.dp 1 0 (by simp; omega)
 have e1 : logF 1 0 (a ++ [(g, s)]) = logF 1 0 a ++ [segF (1 + a.length) (0 + (allR a).length) g s] := u2c a [(g, s)] 1 0
 rw [Nat.zero_add] at e1
 have hda := w8b (allR a).length hg
 have hzsz : szF (segF (1 + a.length) (allR a).length g s) = u19 g := (u11 _).trans (u57 _ g)
 have hsu : suF (segF (1 + a.length) (allR a).length g s) = s := rfl
 have hcr := ueb (keep := keep) (i := a.length) (f := segF (1 + a.length) (allR a).length g s) (by rw [hsu]; exact hs.1) (by rw [hsu, hzsz]; exact hs.2)
 rw [hsu, hzsz] at hcr
 obtain ⟨p, hp⟩ : ∃ p : Nat, crN keep a.length (segF (1 + a.length) (allR a).length g s) = (p : Int) := ⟨(crN keep a.length (segF (1 + a.length) (allR a).length g s)).toNat, by have := hs.1; omega⟩
 rw [hp] at hcr
 have hpl : p ≤ (recs (segD (allR a).length g)).length := by rw [u57]; omega
 have hx : crL keep 0 (logF 1 0 (a ++ [(g, s)])) = logF 1 0 a ++ [u3f (1 + a.length) ((recs (segD (allR a).length g)).take p) p] := by
  rw [e1, v18, vd1 keep (logF 1 0 a) 0 (fun f hf => by
   obtain ⟨i, F', g', _, _, h3, rfl⟩ := u4e a 1 0 f hf
   rw [show szF (segF i F' g'.1 g'.2) = u19 g'.1 from (u11 _).trans (u57 F' g'.1)]
   exact hfull g' h3), u26, Nat.zero_add]
  show logF 1 0 a ++ [crF keep a.length (segF (1 + a.length) (allR a).length g s)] = _
  unfold crF
  rw [hp]
  unfold u3f segF
  dsimp only
  rw [u36, u3d, Int.toNat_natCast]
 have hxb : IsBytes ((recs (segD (allR a).length g)).take p) := (uae hda).take p
 have hplen : ((recs (segD (allR a).length g)).take p).length = p := by rw [List.length_take]; omega
 have hstep := u89 hdp keep hk hkl (by rw [hx, List.length_append, u26, List.length_singleton]; omega)
 have hdx : ∀ (y : List Int) (u : Int), y.length ≤ p → 0 ≤ u → u ≤ (y.length : Int) → DP 3000 (logF 1 0 a ++ [u3f (1 + a.length) y u]) := fun y u h1 h2 h3 => by
  rw [e1] at hdp
  refine hdp.last rfl ?_ ⟨h2, by show u ≤ ((strL y).size : Int); rw [u11]; exact h3⟩
  show (strL y).size ≤ (strL (recs (segD (allR a).length g))).size
  rw [u11, u11]
  omega
 have hdpx := hdx ((recs (segD (allR a).length g)).take p) p (by omega) (by omega) (by omega)
 rw [hx] at hstep
 obtain ⟨j, hj, hjp, hcut⟩ := vcd (segD (allR a).length g) p hpl
 have hjt : t ≤ j - 1 := by
  rcases ht with h0 | h0
  ·omega
  ·rcases Nat.lt_or_ge j (t + 1) with hlt | hge
   ·rcases Nat.eq_zero_or_pos t with ht0 | ht0
    ·omega
    ·exfalso
     have hle := v88 (segD (allR a).length g) (show j + 1 ≤ t + 1 by omega)
     have hsz := w30 (allR a).length g t
     rcases hcut with ⟨h5, h6⟩ | ⟨hj', h5, h6, _⟩
     ·-- exact: then p is the length of j frames, below t + 1 frames
      have hlt2 : (recs ((segD (allR a).length g).take j)).length < (recs ((segD (allR a).length g).take (j + 1))).length ∨ j = (segD (allR a).length g).length := by
       rcases Nat.lt_or_ge j (segD (allR a).length g).length with h7 | h7
       ·left
        rw [u81 h7, u90, List.length_append]
        have : 0 < (recs [(segD (allR a).length g)[j]]).length := by
         rw [u31, List.length_append, u34]
         omega
        omega
       ·right; omega
      rcases hlt2 with h7 | h7
      ·omega
      ·have h9 : (segD (allR a).length g).length = g.length + 1 := by unfold segD; simp
       omega
     ·omega
   ·omega
 have hL9 : 1 + a.length ≤ 99 := by omega
 have hFl : (allR a).length < 4294967296 := by omega
 have hjtk : ∀ d ∈ (segD (allR a).length g).take j, Fr1 d := fun d hd => hda d (List.mem_of_mem_take hd)
 have hk8 : a.length < (logF 1 0 a ++ [u3f (1 + a.length) ((recs (segD (allR a).length g)).take p) (p : Int)]).length := by rw [List.length_append, u26, List.length_singleton]; omega
 have hget : ∀ f : El u4, (logF 1 0 a ++ [f])[a.length]'(by rw [List.length_append, u26, List.length_singleton]; omega) = f := fun f => by
  rw [List.getElem_append_right (by rw [u26]; exact Nat.le_refl _)]
  have hone : ∀ (i : Nat) (hi : i < [f].length), [f][i] = f := fun i hi => by
   rw [List.length_singleton] at hi
   obtain rfl : i = 0 := by omega
   rfl
  exact hone _ _
 have hnms : (nms 1 a.length).length ≤ 1000 := by rw [v13]; omega
 have read : ∀ (y : List Int) (u : Int), DP 3000 (logF 1 0 a ++ [u3f (1 + a.length) y u]) → frT y = (((segD (allR a).length g).take j).map strL, (y.length : Int), 0) → IsBytes y → u5e 3000 (logF 1 0 a ++ [u3f (1 + a.length) y u]) = (0, allR a ++ g.take (j - 1), nms 1 a.length ++ [nmV ((1 + a.length : Nat) : Int)], 0, 0) := fun y u hd hf hb => by
  unfold u5e
  rw [hd.ok, ct, v20 hra hg hL9 hFl hf hb (.inl rfl), Int.sub_self]
 rcases hcut with ⟨h5, h6⟩ | ⟨hj', h5, h6, h7, h8⟩
 ·-- whole frames
  have hfr := v97 hjtk
  rw [← h6] at hfr
  rw [h6] at hplen
  have hfr' : frT ((recs (segD (allR a).length g)).take p) = (((segD (allR a).length g).take j).map strL, (((recs (segD (allR a).length g)).take p).length : Int), 0) := hfr
  have hw := v20 hra (s := (p : Int)) hg hL9 hFl hfr' hxb (.inl rfl)
  have hrep := ud3 hdpx.dk hk8 (by rw [hw]) ⟨nms 1 a.length, by rw [hw, hget]; rfl, hnms⟩ (by
   rw [hw, hget]
   unfold frF u3f
   rw [u1d hxb, hfr', u11])
  rw [hw] at hrep
  dsimp only at hrep
  rw [Int.sub_self, show decide ((0 : Int) > 0) = false from rfl, cf] at hrep
  exact ⟨_, _, _, _, j - 1, hstep, hrep, hdpx, hdpx, read _ _ hdpx hfr' hxb, hjt⟩
 ·-- a piece of a frame behind them
  have hpos : 0 < p - (recs ((segD (allR a).length g).take j)).length := by omega
  have hfr := frT_part hjtk (hda _ (List.getElem_mem hj')) hpos h7
  rw [← h8] at hfr
  have hw := v20 hra (s := (p : Int)) hg hL9 hFl hfr hxb (.inr rfl)
  have hu : (frF (u3f (1 + a.length) ((recs (segD (allR a).length g)).take p) (p : Int))).2.1 = ((recs ((segD (allR a).length g).take j)).length : Int) := by
   unfold frF u3f
   rw [u1d hxb, hfr]
  have hrep := ud3 hdpx.dk hk8 (by rw [hw]) ⟨nms 1 a.length, by rw [hw, hget]; rfl, hnms⟩ (by
   rw [hw, hget, hu]
   show _ = ((strL ((recs (segD (allR a).length g)).take p)).size : Int) - _
   rw [u11])
  rw [hw, hget, hu] at hrep
  dsimp only at hrep
  rw [ud (by omega), ct] at hrep
  by_cases hz : ((recs ((segD (allR a).length g).take j)).length : Int) = 0
  ·-- none is whole: the segment goes
   have hj0 : j = 0 := by
    have := v3e (ds := (segD (allR a).length g).take j)
    rw [List.length_take] at this
    omega
   rw [hz, show ((0 : Int) == 0) = true from rfl, ct] at hrep
   have htk : (logF 1 0 a ++ [u3f (1 + a.length) ((recs (segD (allR a).length g)).take p) (p : Int)]).take a.length ++ (logF 1 0 a ++ [u3f (1 + a.length) ((recs (segD (allR a).length g)).take p) (p : Int)]).drop (a.length + 1) = logF 1 0 a := by
    rw [List.take_left' (u26 a 1 0), List.drop_of_length_le (by rw [List.length_append, u26, List.length_singleton]; exact Nat.le_refl _), List.append_nil]
   rw [htk] at hrep
   have hda' : DP 3000 (logF 1 0 a) := hdpx.sub (List.sublist_append_left _ _)
   refine ⟨_, _, nms 1 a.length, 0, j - 1, hstep, hrep, hdpx, hda', ?_, hjt⟩
   unfold u5e
   rw [hda'.ok, ct, hj0]
   cases ha0 : a with
   | nil => rfl
   | cons y b =>
    rw [← ha0, wV_log a 1 0 hra (Nat.le_refl _) (by omega) (by omega) (by rw [ha0]; simp)]
    simp
  ·rw [show (((recs ((segD (allR a).length g).take j)).length : Int) == 0) = false by simpa using hz, cf] at hrep
   have hmn : mn2 (p : Int) ((recs ((segD (allR a).length g).take j)).length : Int) = ((recs ((segD (allR a).length g).take j)).length : Int) := by
    unfold mn2
    split <;> omega
   have hcutl : cut (strL ((recs (segD (allR a).length g)).take p)) 0 ((recs ((segD (allR a).length g).take j)).length : Int) = strL (recs ((segD (allR a).length g).take j)) := by
    rw [u36, u3d, Int.toNat_natCast, h8]
    rw [List.take_left' rfl]
   have hset : (logF 1 0 a ++ [u3f (1 + a.length) ((recs (segD (allR a).length g)).take p) (p : Int)]).set a.length ((u3f (1 + a.length) ((recs (segD (allR a).length g)).take p) (p : Int)).1, (cut (u3f (1 + a.length) ((recs (segD (allR a).length g)).take p) (p : Int)).2.1 0 ((recs ((segD (allR a).length g).take j)).length : Int), mn2 (u3f (1 + a.length) ((recs (segD (allR a).length g)).take p) (p : Int)).2.2 ((recs ((segD (allR a).length g).take j)).length : Int))) = logF 1 0 a ++ [u3f (1 + a.length) (recs ((segD (allR a).length g).take j)) ((recs ((segD (allR a).length g).take j)).length : Int)] := by
    rw [List.set_append_right _ _ (by rw [u26]; exact Nat.le_refl _), u26, Nat.sub_self]
    show logF 1 0 a ++ [((u3f (1 + a.length) ((recs (segD (allR a).length g)).take p) (p : Int)).1, (cut (strL ((recs (segD (allR a).length g)).take p)) 0 ((recs ((segD (allR a).length g).take j)).length : Int), mn2 (p : Int) ((recs ((segD (allR a).length g).take j)).length : Int)))] = _
    rw [hcutl, hmn]
    rfl
   rw [hset] at hrep
   have hdy := hdx (recs ((segD (allR a).length g).take j)) ((recs ((segD (allR a).length g).take j)).length : Int) (by omega) (by omega) (Int.le_refl _)
   exact ⟨_, _, _, _, j - 1, hstep, hrep, hdpx, hdy, read _ _ hdy (v97 hjtk) (uae hjtk), hjt⟩
theorem w88 : ∀ (gs : Gs), (∀ g ∈ gs, g.1 ≠ []) → gs.length ≤ (allR gs).length
 | [], _ => Nat.le_refl _
 | g :: gs, h => by
  have h1 := w88 gs fun x hx => h x (by simp [hx])
  have h3 : g.1.length ≠ 0 := fun e => h g (by simp) (List.length_eq_zero_iff.1 e)
  rw [u55, List.length_append, List.length_cons]
  omega
def Syn (gs : Gs) (sy : Nat) : Prop := (gs = [] ∧ sy = 0) ∨ ∃ a g s t, gs = a ++ [(g, s)] ∧ (∀ x ∈ a, x.2 = (u19 x.1 : Int)) ∧ t ≤ g.length ∧ (t = 0 ∨ (u19 (g.take t) : Int) ≤ s) ∧ sy = (allR a).length + t
def b2 (gs : Gs) (r : ByteArray) : Bool := match gs.getLast? with
 | none => false
 | some g => decide (160 < u19 g.1 + (6 + r.size))
theorem Syn.add {gs : Gs} {sy : Nat} (h : Syn gs sy) (r : ByteArray) : Syn (addG gs r) (cond (b2 gs r) (allR gs).length sy) := by
 rcases h with ⟨rfl, rfl⟩ | ⟨a, g, s, t, rfl, h1, h2, h3, rfl⟩
 ·exact .inr ⟨[], [r], 0, 0, rfl, fun x hx => by simp at hx, Nat.zero_le _, .inl rfl, rfl⟩
 ·rw [u76]
  have hb : b2 (a ++ [(g, s)]) r = decide (160 < u19 g + (6 + r.size)) := by
   unfold b2
   simp
  rw [hb]
  by_cases hz : u19 g + (6 + r.size) ≤ 160
  ·rw [if_pos hz, uf (by omega), cf]
   refine .inr ⟨a, g ++ [r], s, t, rfl, h1, by simp; omega, ?_, rfl⟩
   rw [List.take_append_of_le_length h2]
   exact h3
  ·rw [if_neg hz, ud (by omega), ct]
   refine .inr ⟨a ++ [(g, (u19 g : Int))], [r], 0, 0, by simp, fun x hx => ?_, Nat.zero_le _, .inl rfl, ?_⟩
   ·rcases List.mem_append.1 hx with hx | hx
    ·exact h1 x hx
    ·obtain rfl := List.mem_singleton.1 hx
     rfl
   ·rw [u23, u23]
    rfl
theorem sync_lg {gs : Gs} (h : LG gs) (hne : gs ≠ []) {sy : Nat} (hs : Syn gs sy) : ∃ gs', syncV (logF 1 0 gs) = logF 1 0 gs' ∧ LG gs' ∧ allR gs' = allR gs ∧ Syn gs' (allR gs).length := by
 rcases hs with ⟨rfl, _⟩ | ⟨a, g, s, t, rfl, h1, h2, h3, rfl⟩
 ·exact absurd rfl hne
 have hlen : a.length + 1 ≤ 8 := by have := h.len; simpa using this
 have e1 : logF 1 0 (a ++ [(g, s)]) = logF 1 0 a ++ [segF (1 + a.length) (0 + (allR a).length) g s] := u2c a [(g, s)] 1 0
 have hlast : (segs (logF 1 0 (a ++ [(g, s)]))).getLast? = some (segF (1 + a.length) (0 + (allR a).length) g s) := by
  rw [uc4 _ 1 0 (Nat.le_refl _) (by simp; omega), e1, List.getLast?_append]
  rfl
 have hall : allR (a ++ [(g, (u19 g : Int))]) = allR (a ++ [(g, s)]) := by rw [u23, u23]; rfl
 refine ⟨a ++ [(g, (u19 g : Int))], ?_, ⟨fun x hx => ?_, fun x hx => ?_, fun x hx => ?_, by simp; omega, by rw [hall]; exact h.cnt⟩, hall, .inr ⟨a, g, _, g.length, rfl, h1, Nat.le_refl _, .inr (by rw [List.take_length]; exact Int.le_refl _), ?_⟩⟩
 ·unfold syncV
  rw [hlast]
  exact sy_log (n := 1) (F := 0) (gs := a) (g := g) (s := s) (by omega)
 ·rcases List.mem_append.1 hx with hx | hx
  ·exact h.recs x (by simp [hx])
  ·obtain rfl := List.mem_singleton.1 hx
   exact h.recs (g, s) (by simp)
 ·rcases List.mem_append.1 hx with hx | hx
  ·exact h.ne x (by simp [hx])
  ·obtain rfl := List.mem_singleton.1 hx
   exact h.ne (g, s) (by simp)
 ·rcases List.mem_append.1 hx with hx | hx
  ·exact h.sure x (by simp [hx])
  ·obtain rfl := List.mem_singleton.1 hx
   exact ⟨Int.natCast_nonneg _, Int.le_refl _⟩
 ·rw [u23]
  simp [allR]
def u4c (t v : Int) (l : List (El ue)) : List Int → Option (Int × Int × List (El ue))
 | [] => none
 | x :: m =>
  if x = 84 then (if m.length = 5 then some (beN 0 (m.take 4), beN 0 (m.drop 4) - 1, l) else none)
  else if x = 67 then (if m.length = 4 ∧ beN 0 m ≤ l.length then some (t, v, l.take (beN 0 m).toNat) else none)
  else if x = 69 then (match pEnt m with
   | some y => if (decide (y.r = []) && u42 y.t y.k y.D) = true ∧ l.length + 1 ≤ 60 then some (t, v, l ++ [(y.t, (y.k, strL y.D))]) else none
   | none => none)
  else none
theorem ve6 (x : Int) (m : List Int) : cut (strL (x :: m)) 1 (ByteArray.size (strL (x :: m)) : Int) = strL m := by
 rw [u11, u36, v56 _ _ rfl]
 rfl
theorem ud8 {x : Int} {m : List Int} (h : IsBytes (x :: m)) : u21 (strL (x :: m)) 0 = x := by
 rw [u22 h (by decide) (by simp)]
 rfl
theorem vf3 {x : Int} {m : List Int} (h : IsBytes (x :: m)) : sEq (strL (x :: m)) ByteArray.empty = false := by
 rw [← u82, u84 h IsBytes.nil]
 simp
theorem vfa {x y : Int} (h : ¬ x = y) : (x == y) = false := by simp [h]
theorem fold_i (t v : Int) (l : List (El ue)) (r : List Int) (hb : IsBytes r) (hr : r.length ≤ 1000) (hl : l.length ≤ 60) :
  match u4c t v l r with
  | some y => gq143 t v l (strL r) = some (true, y.1, y.2.1, y.2.2)
  | none => ∃ g1 g2 g3, gq143 t v l (strL r) = some (false, g1, g2, g3) := by
 unfold gq143 gq143.F
 match r, hb, hr with
 | [], hb, hr =>
  rw [u82, u2f, ct]
  exact ⟨_, _, _, rfl⟩
 | x :: m, hb, hr =>
  have hm : m.length ≤ 1000 := by simp at hr; omega
  have hbm := hb.tail
  rw [vf3 hb, cf, u10 (u4f (by decide) (by rw [u11]; simp; omega) (by omega)), u10 (u17 (by decide) (by rw [u11]; simp)), ud8 hb, ve6]
  simp only [u4c, u11 m]
  by_cases h1 : x = 84
  ·subst h1
   rw [if_pos rfl, beq_self_eq_true, ct]
   by_cases h2 : m.length = 5
   ·have e4 : IsBytes (m.take 4) := hbm.take 4
    have e5 : IsBytes (m.drop 4) := hbm.drop 4
    have hx : (m.drop 4).length = 1 := by simp [h2]
    have hb1 := u53 _ 0 e5 (by decide)
    rw [hx] at hb1
    have h256 : (0 + 1 : Int) * 256 ^ 1 = 256 := by decide
    rw [h256] at hb1
    rw [if_pos h2, show ((m.length : Int) != 5) = false by simp [h2], cf, u10 (u4f (by decide) (by decide) (by omega)), u36, u3d, show (4 : Int).toNat = 4 from rfl, u3c _ e4 (by simp; omega), bs, u10 (u4f (by decide) (by omega) (by omega)), u36, v56 _ _ rfl, show (4 : Int).toNat = 4 from rfl, u3c _ e5 (by omega), bs, wr (by omega) (by omega)]
   ·rw [if_neg h2, show ((m.length : Int) != 5) = true by simp; omega, ct]
    exact ⟨_, _, _, rfl⟩
  ·rw [if_neg h1, vfa h1, cf]
   by_cases h2 : x = 67
   ·subst h2
    obtain ⟨n, hn⟩ := u8b (strL m) (by rw [u11]; omega)
    rw [if_pos rfl, beq_self_eq_true, ct, hn, bs]
    by_cases h3 : m.length = 4
    ·have hn' : n = beN 0 m := by
      have := u3c m hbm (by omega)
      rw [hn] at this
      exact Option.some.inj this
     have hb1 := u53 _ 0 hbm (by decide)
     rw [show ((m.length : Int) != 4) = false by simp [h3], cf, hn']
     by_cases h4 : beN 0 m ≤ l.length
     ·rw [if_pos ⟨h3, h4⟩, uf (Int.not_lt.2 h4), cf, u10 (u4f (by decide) hb1.1 h4), u3d]
     ·rw [if_neg (fun h => h4 h.2), ud (Int.not_le.1 h4), ct]
      exact ⟨_, _, _, rfl⟩
    ·rw [if_neg (fun h => h3 h.1), show ((m.length : Int) != 4) = true by simp; omega, ct]
     exact ⟨_, _, _, rfl⟩
   ·rw [if_neg h2, vfa h2, cf]
    by_cases h3 : x = 69
    ·subst h3
     obtain ⟨g1, g2, g3, h4⟩ := w20 m hbm (by omega)
     rw [if_pos rfl, beq_self_eq_true, ct, h4, bs, u10 (u28 (by simp; omega))]
     cases hp : pEnt m with
     | none => exact ⟨_, _, _, by rw [cf]⟩
     | some y =>
      dsimp only
      cases hq : (decide (y.r = []) && u42 y.t y.k y.D) with
      | false =>
       rw [if_neg (fun h => by simp at h), cf]
       exact ⟨_, _, _, rfl⟩
      | true =>
       rw [ct]
       by_cases h5 : l.length + 1 ≤ 60
       ·rw [if_pos ⟨rfl, h5⟩, ud (by simp; omega)]
       ·rw [if_neg (fun h => h5 h.2), uf (by simp; omega)]
        exact ⟨_, _, _, rfl⟩
    ·rw [if_neg h3, vfa h3, cf]
     exact ⟨_, _, _, rfl⟩
theorem fold_s (t v : Int) (l : List (El ue)) (r : List Int) (hb : IsBytes r) (hr : r.length ≤ 1000) (hl : l.length ≤ 60) :
  match u4c t v l r with
  | some y => gq145 t v l (strL r) = some (y.1, y.2.1, y.2.2, true) ∧ y.2.2.length ≤ 60
  | none => ∃ g1 g2 g3 b, gq145 t v l (strL r) = some (g1, g2, g3, b) ∧ (b = true → ¬ g3.length ≤ 60) := by
 unfold gq145 gq145.F
 match r, hb, hr with
 | [], hb, hr =>
  rw [u82, u2f, ct]
  exact ⟨_, _, _, _, rfl, fun h => by simp at h⟩
 | x :: m, hb, hr =>
  have hm : m.length ≤ 1000 := by simp at hr; omega
  have hbm := hb.tail
  have hlen : (x :: m).length = m.length + 1 := rfl
  rw [vf3 hb, cf, u10 (u17 (by decide) (by rw [u11]; simp)), ud8 hb, u1d hb, u11]
  simp only [u4c]
  have a1 := fun h => v1f (x :: m) hb (by omega) 4 (by omega) 1 h
  have n1 := fun h => v2e (x :: m) hb (by omega) 4 (by omega) 1 (by omega) h
  simp only [Int.natCast_one, show ((4 : Nat) : Int) = 4 from rfl] at a1 n1
  by_cases h1 : x = 84
  ·subst h1
   rw [if_pos rfl, beq_self_eq_true, ct]
   by_cases h2 : 4 ≤ m.length
   ·rw [a1 (by omega), bs]
    dsimp only
    by_cases h3 : m.length = 4
    ·have n2 := v2e (84 :: m) hb (by omega) 1 (by omega) 5 (by omega) (by omega)
     rw [if_neg (by omega), show (((1 + 4 : Nat) : Int)) = ((5 : Nat) : Int) from rfl, show (1 : Int) = ((1 : Nat) : Int) from rfl, n2, bs]
     exact ⟨_, _, _, _, by rw [Bool.not_true, cf], fun h => by simp at h⟩
    ·have n2 := v1f (84 :: m) hb (by omega) 1 (by omega) 5 (by omega)
     have e5 : IsBytes ((m.drop 4).take 1) := (hbm.drop 4).take 1
     have hx : ((m.drop 4).take 1).length = 1 := by simp; omega
     have hb1 := u53 _ 0 e5 (by decide)
     rw [hx] at hb1
     have h256 : (0 + 1 : Int) * 256 ^ 1 = 256 := by decide
     rw [h256] at hb1
     rw [show (((1 + 4 : Nat) : Int)) = ((5 : Nat) : Int) from rfl, show gq98 (84 :: m) ((5 : Nat) : Int) false 1 = gq98 (84 :: m) ((5 : Nat) : Int) false ((1 : Nat) : Int) from rfl, n2, bs]
     dsimp only
     rw [Bool.not_false, ct, show (84 :: m).drop 5 = m.drop 4 from rfl, show (84 :: m).drop 1 = m from rfl, wr (by omega) (by omega), hlen]
     by_cases h4 : m.length = 5
     ·rw [if_pos h4]
      have e1 : (m.drop 4).take 1 = m.drop 4 := List.take_of_length_le (by simp; omega)
      rw [e1, show (((5 + 1 : Nat) : Int) == ((m.length + 1 : Nat) : Int)) = true by rw [h4]; simp]
      exact ⟨rfl, hl⟩
     ·rw [if_neg h4, show (((5 + 1 : Nat) : Int) == ((m.length + 1 : Nat) : Int)) = false by simp; omega]
      exact ⟨_, _, _, _, rfl, fun h => by simp at h⟩
   ·rw [if_neg (by omega), n1 (by omega), bs]
    dsimp only
    rw [vd7 _ _ _ (by decide), bs]
    exact ⟨_, _, _, _, by rw [Bool.not_true, cf], fun h => by simp at h⟩
  ·rw [if_neg h1, vfa h1, cf]
   by_cases h2 : x = 67
   ·subst h2
    rw [if_pos rfl, beq_self_eq_true, ct]
    by_cases h2 : 4 ≤ m.length
    ·rw [a1 (by omega), bs]
     dsimp only
     rw [cf, hlen]
     by_cases h3 : m.length = 4
     ·have e1 : (67 :: m).drop 1 = m := rfl
      have hb1 := u53 _ 0 hbm (by decide)
      rw [show (((1 + 4 : Nat) : Int) != ((m.length + 1 : Nat) : Int)) = false by rw [h3]; simp, cf, e1, show m.take 4 = m from List.take_of_length_le (by omega)]
      by_cases h4 : beN 0 m ≤ l.length
      ·rw [if_pos ⟨h3, h4⟩, uf (Int.not_lt.2 h4), cf, u10 (u4f (by decide) hb1.1 h4), u3d, u10 (u28 (by simp; omega)), List.nil_append]
       exact ⟨rfl, by simp; omega⟩
      ·rw [if_neg (fun h => h4 h.2), ud (Int.not_le.1 h4), ct]
       exact ⟨_, _, _, _, rfl, fun h => by simp at h⟩
     ·rw [if_neg (fun h => h3 h.1), show (((1 + 4 : Nat) : Int) != ((m.length + 1 : Nat) : Int)) = true by simp; omega, ct]
      exact ⟨_, _, _, _, rfl, fun h => by simp at h⟩
    ·rw [if_neg (by omega), n1 (by omega), bs]
     exact ⟨_, _, _, _, by rw [ct], fun h => by simp at h⟩
   ·rw [if_neg h2, vfa h2, cf]
    by_cases h3 : x = 69
    ·subst h3
     obtain ⟨g1, g2, g3, h4⟩ := w4c m hbm (by omega)
     have hc : cut (strL (69 :: m)) 1 ((69 :: m).length : Int) = strL m := by rw [← u11]; exact ve6 69 m
     rw [if_pos rfl, beq_self_eq_true, ct, u10 (u4f (by decide) (by simp; omega) (by omega)), hc, u1d hbm, h4, bs, u10 (u28 (by simp; omega)), u10 (u28 (by simp; omega)), List.nil_append]
     cases hp : pEnt m with
     | none => exact ⟨_, _, _, _, rfl, fun h => by simp at h⟩
     | some y =>
      dsimp only
      cases hq : (decide (y.r = []) && u42 y.t y.k y.D) with
      | false =>
       rw [if_neg (fun h => by simp at h)]
       exact ⟨_, _, _, _, rfl, fun h => by simp at h⟩
      | true =>
       by_cases h5 : l.length + 1 ≤ 60
       ·rw [if_pos ⟨rfl, h5⟩]
        exact ⟨rfl, by simp; omega⟩
       ·rw [if_neg (fun h => h5 h.2)]
        exact ⟨_, _, _, _, rfl, fun _ => by simp; omega⟩
    ·rw [if_neg h3, vfa h3, cf]
     exact ⟨_, _, _, _, rfl, fun h => by simp at h⟩
def SOk (l : List (El ue)) : Prop := l.length ≤ 60 ∧ ∀ e ∈ l, e.2.2.size ≤ 1000
theorem SOk.short {l : List (El ue)} (h : SOk l) : Short l := ⟨by have := h.1; omega, fun e he => by have := h.2 e he; omega⟩
theorem v55 {t v : Int} {l : List (El ue)} {r : List Int} {y : Int × Int × List (El ue)} (hl : SOk l) (h : u4c t v l r = some y) : SOk y.2.2 := by
 match r with
 | [] => simp [u4c] at h
 | x :: m =>
  simp only [u4c] at h
  by_cases h1 : x = 84
  ·rw [if_pos h1] at h
   by_cases h2 : m.length = 5
   ·rw [if_pos h2] at h
    obtain rfl := Option.some.inj h
    exact hl
   ·rw [if_neg h2] at h
    cases h
  ·rw [if_neg h1] at h
   by_cases h2 : x = 67
   ·rw [if_pos h2] at h
    by_cases h3 : m.length = 4 ∧ beN 0 m ≤ l.length
    ·rw [if_pos h3] at h
     obtain rfl := Option.some.inj h
     exact ⟨by have := hl.1; simp; omega, fun e he => hl.2 e (List.mem_of_mem_take he)⟩
    ·rw [if_neg h3] at h
     cases h
   ·rw [if_neg h2] at h
    by_cases h3 : x = 69
    ·rw [if_pos h3] at h
     cases hp : pEnt m with
     | none => rw [hp] at h; cases h
     | some y =>
      rw [hp] at h
      dsimp only at h
      by_cases h4 : (decide (y.r = []) && u42 y.t y.k y.D) = true ∧ l.length + 1 ≤ 60
      ·rw [if_pos h4] at h
       obtain rfl := Option.some.inj h
       obtain ⟨h5, h6⟩ := h4
       rw [Bool.and_eq_true] at h5
       have h7 := (ue7 h5.2).1
       refine ⟨by simp; omega, fun e he => ?_⟩
       rcases List.mem_append.1 he with he | he
       ·exact hl.2 e he
       ·rw [List.mem_singleton.1 he]
        show (strL y.D).size ≤ 1000
        rw [u11]
        omega
      ·rw [if_neg h4] at h
       cases h
    ·rw [if_neg h3] at h
     cases h
def fAll : Int × Int × List (El ue) → List ByteArray → Option (Int × Int × List (El ue))
 | q, [] => some q
 | q, s :: rs => match u4c q.1 q.2.1 q.2.2 (bytesL s) with
  | some y => fAll y rs
  | none => none
theorem v3d : ∀ {rs : List ByteArray} {q y : Int × Int × List (El ue)}, SOk q.2.2 → fAll q rs = some y → SOk y.2.2
 | [], q, y, h, e => by
  obtain rfl := Option.some.inj e
  exact h
 | s :: rs, q, y, h, e => by
  unfold fAll at e
  cases hs : u4c q.1 q.2.1 q.2.2 (bytesL s) with
  | none => rw [hs] at e; cases e
  | some z =>
   rw [hs] at e
   exact v3d (v55 h hs) e
theorem v1d {R : Type} (kke : Int → Int → Int → Int → List (El ue) → Option R) (kkr : Int → Int → Int → Option R) (list : List ByteArray) (hl : list.length ≤ 1000000) (hz : ∀ s ∈ list, s.size ≤ 1000) (a b : Int) :
  ∀ (m n j : Nat) (q : Int × Int × List (El ue)), j + m = list.length → m < n → SOk q.2.2 →
   gq87.l1 kke kkr n list list.length j a b q.1 q.2.1 q.2.2 = match fAll q (list.drop j) with | some y => kke a b y.1 y.2.1 y.2.2 | none => kkr 3 0 0
 | 0, n + 1, j, q, e, _, hq => by
  simp only [gq87.l1]
  rw [uf (by omega), cf, List.drop_of_length_le (by omega)]
  rfl
 | m + 1, n + 1, j, q, e, hn, hq => by
  have hj : j < list.length := by omega
  have hs := hz _ (List.getElem_mem hj)
  have hf := fold_i q.1 q.2.1 q.2.2 (bytesL list[j]) (IsBytes.bytesL _) (by rw [u13]; exact hs) hq.1
  rw [u1e] at hf
  simp only [gq87.l1]
  rw [ud (by omega), ct, u10 (u17 (by omega) (by omega)), Int.toNat_natCast, u1b (k := .str) hj, wr (by omega) (by omega), u18 hj]
  simp only [fAll]
  cases h1 : u4c q.1 q.2.1 q.2.2 (bytesL list[j]) with
  | none =>
   rw [h1] at hf
   obtain ⟨g1, g2, g3, hg⟩ := hf
   rw [hg, bs, Bool.not_false, ct]
  | some y =>
   rw [h1] at hf
   dsimp only at hf
   rw [hf, bs, Bool.not_true, cf, show ((j : Int) + 1) = ((j + 1 : Nat) : Int) by omega]
   exact v1d kke kkr list hl hz a b m n (j + 1) y (by omega) (by omega) (v55 hq h1)
theorem vf {R : Type} (kke : Int → Int → Int → Int → List (El ue) → Option R) (kkr : Bool → Int → Int → List (El ue) → Option R) (list : List ByteArray) (hl : list.length ≤ 1000000) (hz : ∀ s ∈ list, s.size ≤ 1000) (a b : Int) :
  ∀ (m n j : Nat) (q : Int × Int × List (El ue)), j + m = list.length → m < n → SOk q.2.2 →
   ∃ g1 g2 g3, gq88.l1 kke kkr n list j a b q.1 q.2.1 q.2.2 = match fAll q (list.drop j) with | some y => kke a b y.1 y.2.1 y.2.2 | none => kkr false g1 g2 g3
 | 0, n + 1, j, q, e, _, hq => by
  simp only [gq88.l1]
  rw [uf (by omega), cf, List.drop_of_length_le (by omega)]
  exact ⟨0, 0, [], rfl⟩
 | m + 1, n + 1, j, q, e, hn, hq => by
  have hj : j < list.length := by omega
  have hs := hz _ (List.getElem_mem hj)
  have hf := fold_s q.1 q.2.1 q.2.2 (bytesL list[j]) (IsBytes.bytesL _) (by rw [u13]; exact hs) hq.1
  rw [u1e] at hf
  simp only [gq88.l1]
  rw [ud (by omega), ct, u10 (u17 (by omega) (by omega)), Int.toNat_natCast, u1b (k := .str) hj, wr (by omega) (by omega), u18 hj]
  simp only [fAll]
  cases h1 : u4c q.1 q.2.1 q.2.2 (bytesL list[j]) with
  | none =>
   rw [h1] at hf
   obtain ⟨g1, g2, g3, bb, hg, hb⟩ := hf
   rw [hg, bs]
   dsimp only
   cases bb with
   | false =>
    rw [Bool.not_false, ct]
    exact ⟨_, _, _, rfl⟩
   | true =>
    have h2 := hb rfl
    rw [Bool.not_true, cf, ud (by omega), ct]
    exact ⟨_, _, _, rfl⟩
  | some y =>
   rw [h1] at hf
   dsimp only at hf
   obtain ⟨h2, h3⟩ := hf
   rw [h2, bs]
   dsimp only
   rw [Bool.not_true, cf, uf (by omega), cf, show ((j : Int) + 1) = ((j + 1 : Nat) : Int) by omega]
   exact vf kke kkr list hl hz a b m n (j + 1) y (by omega) (by omega) (v55 hq h1)
theorem v94 (l : List (El ue)) (h : l.length ≤ 1000000) : gq144 l = some l := by
 cases l with
 | nil =>
  have e : gq144 [] = ub5 (some []) (some []) := by kernel_rfl
  rw [e, u50]
 | cons x l =>
  unfold gq144 gq144.F
  rw [List.isEmpty_cons, cf, u10 (u28 (by simp at h ⊢; omega)), List.nil_append]
noncomputable def told (list : List ByteArray) : Int × Int × List (El ue) × Int :=
 open Classical in
 if list.length > 4096 then (0, 0, [], 2)
 else if list.any (fun s => decide ((s.size : Int) > 110)) then (0, 0, [], 4)
 else match fAll (0, -1, []) list with
  | some y => if StOK y.1 y.2.1 y.2.2 then (y.1, y.2.1, y.2.2, 0) else (0, 0, [], 3)
  | none => (0, 0, [], 3)
theorem u6f : SOk [] := ⟨by decide, fun e he => by cases he⟩
theorem told_sok (list : List ByteArray) : SOk (told list).2.2.1 := by
 unfold told
 split
 ·exact u6f
 ·split
  ·exact u6f
  ·cases h : fAll (0, -1, []) list with
   | none => exact u6f
   | some y =>
    dsimp only
    split
    ·exact v3d (q := (0, -1, [])) u6f h
    ·exact u6f
theorem w3a (list : List ByteArray) (h : list.length ≤ 1000000) : gq87 list = some (open Classical in if list.any (fun s => decide ((s.size : Int) > 110)) then ((0 : Int), (0 : Int), ([] : List (El ue)), (4 : Int))
    else match fAll (0, -1, []) list with
     | some y => if StOK y.1 y.2.1 y.2.2 then (y.1, y.2.1, y.2.2, 0) else (0, 0, [], 3)
     | none => (0, 0, [], 3)) := by
 unfold gq87 gq87.F gq117 gq117.F gq154 gq154.F
 have hq : ∀ x ∈ list, (fun x : ByteArray => (fun t : ByteArray × Unit => (gq142 t.1).bind fun a => some (a, ())) (x, ())) x = some (decide ((x.size : Int) > 110), ()) := by
  intro x _
  simp only [gq142, gq142.F, bs]
 have := u9a (k := .str) (L := gq154.l1 (fun t => (gq142 t.1).bind fun a => some (a, ())) (some (-1 : Int)) (fun i => some i)) (fun n s i j => rfl) (l := list) (by omega) hq list.length fuel 0 (by omega) (u1c (by omega))
 rw [Int.natCast_zero] at this
 rw [this, List.drop_zero, ← u8d]
 cases hd : list.findIdx? fun s => decide ((s.size : Int) > 110) with
 | some d =>
  dsimp only
  rw [bs, bs, ud (by omega), ct, Option.isSome_some, if_pos rfl]
 | none =>
  dsimp only
  have hall : ∀ s ∈ list, s.size ≤ 1000 := fun s hs => by
   have := (List.findIdx?_eq_none_iff.1 hd) s hs
   rw [decide_eq_false_iff_not] at this
   omega
  rw [bs, bs, uf (by decide), cf, Option.isSome_none, if_neg (by decide)]
  have hloop := v1d (fun i i1 s s1 l => (gq47 s s1 l).bind fun r1 => cond (!r1) (some ((0 : Int), (0 : Int), ([] : List (El ue)), (3 : Int))) ((gq144 l).bind fun r2 => some (s, s1, r2, (0 : Int)))) (fun i2 i3 i4 => some (i3, i4, [], i2)) list (by omega) hall 0 0 list.length fuel 0 (0, -1, []) (by omega) (u1c (by omega)) u6f
  rw [Int.natCast_zero, List.drop_zero] at hloop
  rw [hloop]
  cases hf : fAll (0, -1, []) list with
  | none => rfl
  | some y =>
   have hs := v3d (q := (0, -1, [])) u6f hf
   obtain ⟨b, h2, h3⟩ := w36 y.1 y.2.1 y.2.2 hs.short
   dsimp only
   rw [h2, bs]
   cases b with
   | false => rw [Bool.not_false, ct, if_neg (fun h => by simpa using h3.2 h)]
   | true => rw [Bool.not_true, cf, if_pos (h3.1 rfl), v94 _ (by have := hs.1; omega), bs]
theorem v16 {R : Type} (kke : List ByteArray → Int → Int → Option R) (kkr : Int → Int → Int → Option R) (list : List ByteArray) (hl : list.length ≤ 1000000) (a b : Int) :
  ∀ (m n j : Nat), j + m = list.length → m < n →
   gq42.l1 kke kkr n list j a b = if (list.drop j).any (fun s => decide ((s.size : Int) > 110)) then kkr 4 0 0 else kke list a b
 | 0, n + 1, j, e, _ => by
  simp only [gq42.l1]
  rw [uf (by omega), cf, List.drop_of_length_le (by omega)]
  rfl
 | m + 1, n + 1, j, e, hn => by
  have hj : j < list.length := by omega
  simp only [gq42.l1]
  rw [ud (by omega), ct, u10 (u17 (by omega) (by omega)), Int.toNat_natCast, u1b (k := .str) hj, wr (by omega) (by omega), u18 hj, List.any_cons]
  by_cases h : (list[j].size : Int) > 110
  ·rw [ud h, ct, Bool.true_or, if_pos rfl]
  ·rw [uf h, cf, Bool.false_or, show ((j : Int) + 1) = ((j + 1 : Nat) : Int) by omega]
   exact v16 kke kkr list hl a b m n (j + 1) (by omega) (by omega)
theorem ua4 (list : List ByteArray) (h : list.length ≤ 1000000000) : gq42 list = some (told list) := by
 unfold gq42 gq42.F told
 by_cases h0 : list.length > 4096
 ·rw [if_pos h0, ud (by omega), ct]
 ·rw [if_neg h0, uf (by omega), cf]
  have hloop := v16 (fun list1 i i1 => (gq88 list1).bind fun r => cond (!r.2.2.2) (some ((0 : Int), (0 : Int), ([] : List (El ue)), (3 : Int))) (some (r.1, r.2.1, r.2.2.1, (0 : Int)))) (fun i2 i3 i4 => some (i3, i4, [], i2)) list (by omega) 0 0 list.length fuel 0 (by omega) (u1c (by omega))
  rw [Int.natCast_zero, List.drop_zero] at hloop
  rw [hloop]
  by_cases h1 : list.any (fun s => decide ((s.size : Int) > 110)) = true
  ·rw [if_pos h1, if_pos h1]
  ·rw [if_neg h1, if_neg h1]
   have hall : ∀ s ∈ list, s.size ≤ 1000 := fun s hs => by
    rw [List.any_eq_true] at h1
    have : ¬ (s.size : Int) > 110 := fun h => h1 ⟨s, hs, decide_eq_true h⟩
    omega
   unfold gq88 gq88.F
   obtain ⟨g1, g2, g3, hl⟩ := vf (fun i i1 s s1 s2 => (gq79 s s1 s2).bind fun r => some (s, s1, s2, r)) (fun b i2 i3 l => some (i2, i3, l, b)) list (by omega) hall 0 0 list.length fuel 0 (0, -1, []) (by omega) (u1c (by omega)) u6f
   rw [Int.natCast_zero, List.drop_zero] at hl
   rw [hl]
   cases hf : fAll (0, -1, []) list with
   | none => rfl
   | some y =>
    have hs := v3d (q := (0, -1, [])) u6f hf
    obtain ⟨b, h2, h3⟩ := v68 y.1 y.2.1 y.2.2 hs.short
    dsimp only
    rw [h2, bs, bs]
    cases b with
    | false => rw [Bool.not_false, ct, if_neg (fun h => by simpa using h3.2 h)]
    | true => rw [Bool.not_true, cf, if_pos (h3.1 rfl)]
theorem v19 : ∀ (l : List Int) (a : Int), u74 l = true → l.all u29 = true → (∀ x, l.head? = some x → a ≤ x) → (l.length : Int) ≤ 7 - a ∨ l = []
 | [], a, _, _, _ => .inr rfl
 | [x], a, _, h, k => by
  left
  have h1 := k x rfl
  simp only [List.all_cons, List.all_nil, Bool.and_true, u29, Bool.and_eq_true, decide_eq_true_iff] at h
  simp
  omega
 | x :: y :: l, a, h, k, hk => by
  left
  have h1 := hk x rfl
  rw [u74, Bool.and_eq_true, decide_eq_true_iff] at h
  rw [List.all_cons, Bool.and_eq_true] at k
  rcases v19 (y :: l) (a + 1) h.2 k.2 (fun z hz => by simp at hz; omega) with h2 | h2
  ·simp only [List.length_cons] at h2 ⊢
   omega
  ·cases h2
theorem w47 {l : List Int} (h : ubf l = true) : l.length ≤ 7 := by
 unfold ubf at h
 rw [Bool.and_eq_true, Bool.and_eq_true] at h
 rcases v19 l 0 h.2 h.1.2 (fun x hx => by
  have := List.all_eq_true.1 h.1.2 x (List.mem_of_mem_head? hx)
  simp only [u29, Bool.and_eq_true, decide_eq_true_iff] at this
  exact this.1) with h2 | h2
 ·omega
 ·rw [h2]; simp
theorem v6d {t k : Int} {D : List Int} (h : u42 t k D = true) : D.length ≤ 100 := by
 unfold u42 at h
 rw [Bool.and_eq_true] at h
 have h := h.2
 split at h
 ·have := of_decide_eq_true h
  rw [this]; simp
 ·split at h
  ·rw [Bool.and_eq_true, decide_eq_true_iff, decide_eq_true_iff] at h
   exact h.2
  ·split at h
   ·have := w47 h; omega
   ·cases h
theorem pCnt_len {l D r : List Int} (hb : IsBytes l) (h : pCnt l = some (D, r)) : l.length = 1 + D.length + r.length := by
 obtain ⟨_, _, h3, _⟩ := ub8 hb h
 rw [h3]
 simp [cntB]
 omega
theorem pEnt_len {m : List Int} {y : PE} (hb : IsBytes m) (h : pEnt m = some y) : m.length = 6 + y.D.length + y.r.length := by
 unfold pEnt at h
 split at h
 ·rename_i a b c d e l
  split at h
  ·rename_i D l1 hc
   cases h
   have := pCnt_len (l := l) (fun z hz => hb z (by simp [hz])) hc
   simp only [List.length_cons]
   omega
  ·cases h
 ·cases h
theorem w5c {t v : Int} {l : List (El ue)} {r : List Int} {y : Int × Int × List (El ue)} (hb : IsBytes r) (h : u4c t v l r = some y) : r.length ≤ 110 := by
 unfold u4c at h
 split at h
 ·cases h
 ·rename_i x m
  split at h
  ·split at h
   ·simp; omega
   ·cases h
  ·split at h
   ·split at h
    ·rename_i hh; simp; omega
    ·cases h
   ·split at h
    ·split at h
     ·rename_i z hz
      split at h
      ·rename_i hh
       rw [Bool.and_eq_true, decide_eq_true_iff] at hh
       have h1 := pEnt_len (fun z hz => hb z (by simp [hz])) hz
       have h2 := v6d hh.1.2
       have h3 : z.r.length = 0 := by rw [hh.1.1]; rfl
       simp
       omega
      ·cases h
     ·cases h
    ·cases h
theorem v73 : ∀ {rs : List ByteArray} {q : Int × Int × List (El ue)}, rs.any (fun s => decide ((s.size : Int) > 110)) = true → fAll q rs = none
 | [], q, h => by simp at h
 | s :: rs, q, h => by
  unfold fAll
  cases hs : u4c q.1 q.2.1 q.2.2 (bytesL s) with
  | none => rfl
  | some y =>
   have := w5c (IsBytes.bytesL s) hs
   rw [u13] at this
   rw [List.any_cons, uf (by omega), Bool.false_or] at h
   exact v73 h
noncomputable def loadV (room : Int) (l : List (El u4)) : Int × Int × List (El ue) × Int :=
 open Classical in
 cond ((u5e room l).2.2.2.2 != 0) (0, 0, [], (u5e room l).2.2.2.2) (match fAll (0, -1, []) (u5e room l).2.1 with
  | some y => if StOK y.1 y.2.1 y.2.2 then (y.1, y.2.1, y.2.2, 0) else (0, 0, [], 3)
  | none => (0, 0, [], 3))
theorem w90 (room : Int) (l : List (El u4)) : (u5e room l).2.1.length ≤ 24000 ∧ ∀ s ∈ (u5e room l).2.1, s.size ≤ 200 := by
 unfold u5e
 cases hd : dOK room l with
 | false => exact ⟨by simp [wErr], fun s h => by simp [wErr] at h⟩
 | true => exact wV_len (w74 hd)
theorem load_i (room : Int) (l : List (El u4)) (hl : l.length ≤ 1000000000) (h : DFit l) : gq41 room l = some (loadV room l) := by
 unfold gq41 gq41.F loadV
 have hr := w90 room l
 rw [uce room l hl h, bs]
 cases (u5e room l).2.2.2.2 != 0 with
 | true => rfl
 | false =>
  rw [cf, cf, w3a _ (by omega), bs]
  by_cases ha : (u5e room l).2.1.any (fun s => decide ((s.size : Int) > 110)) = true
  ·rw [if_pos ha, v73 ha]
   rfl
  ·rw [if_neg ha]
   cases fAll (0, -1, []) (u5e room l).2.1 with
   | none => rfl
   | some y =>
    dsimp only
    split <;> rfl
theorem StOK.data {t v : Int} {l : List (El ue)} (h : StOK t v l) : l.length ≤ 60 ∧ ∀ e ∈ l, e.2.2.size ≤ 100 := by
 refine ⟨h.2.2.1, fun e he => ?_⟩
 obtain ⟨i, hi, rfl⟩ := List.getElem_of_mem he
 obtain ⟨_, h1, _⟩ := h.2.2.2 i hi
 have := v6d h1
 rwa [u13] at this
theorem w5d (t v : Int) : (tRec t v).size = 6 := by unfold tRec; rw [u11]; simp [u14]
theorem w89 (k : Int) : (cRec k).size = 5 := by unfold cRec; rw [u11]; simp [u14]
theorem w87 (e : El ue) : (eRec e).size = 7 + e.2.2.size := by
 unfold eRec
 rw [u11, List.length_append, uea, u13]
 simp
 omega
theorem v4e {t v : Int} {l : List (El ue)} {t' v' : Int} {l' : List (El ue)} (hs : ∀ e ∈ l', e.2.2.size ≤ 100) : ∀ r ∈ recV t v l t' v' l', 1 ≤ r.size ∧ r.size ≤ 110 := by
 intro r hr
 unfold recV at hr
 rcases List.mem_append.1 hr with hr | hr
 ·rcases List.mem_append.1 hr with hr | hr
  ·cases h : (t != t' || v != v') with
   | true =>
    rw [h, ct] at hr
    obtain rfl := List.mem_singleton.1 hr
    rw [w5d]
    omega
   | false => rw [h, cf] at hr; cases hr
  ·cases h : decide (u2d l l' < l.length) with
   | true =>
    rw [h, ct] at hr
    obtain rfl := List.mem_singleton.1 hr
    rw [w89]
    omega
   | false => rw [h, cf] at hr; cases hr
 ·obtain ⟨e, he, rfl⟩ := List.mem_map.1 hr
  have := hs e (List.mem_of_mem_drop he)
  rw [w87]
  omega
theorem recV_len (t v : Int) (l : List (El ue)) (t' v' : Int) (l' : List (El ue)) : (recV t v l t' v' l').length ≤ 2 + l'.length := by
 unfold recV
 cases (t != t' || v != v') <;> cases decide (u2d l l' < l.length) <;> simp <;> omega
def tmE (e : El ue) : Int := e.1
def okE (e : El ue) : Bool := u42 e.1 e.2.1 (bytesL e.2.2)
structure LgP (T : Int) (L : List (El ue)) : Prop where
 ok : ∀ e ∈ L, okE e = true ∧ tmE e ≤ T
 up : L.Pairwise fun a b => tmE a ≤ tmE b
theorem LgP.nil (T : Int) : LgP T [] := ⟨fun e h => by simp at h, List.Pairwise.nil⟩
theorem LgP.sub {T : Int} {L M : List (El ue)} (h : LgP T M) (hs : L.Sublist M) : LgP T L := ⟨fun e he => h.ok e (hs.subset he), h.up.sublist hs⟩
theorem LgP.mono {T T' : Int} {L : List (El ue)} (h : LgP T L) (ht : T ≤ T') : LgP T' L := ⟨fun e he => ⟨(h.ok e he).1, Int.le_trans (h.ok e he).2 ht⟩, h.up⟩
theorem LgP.snoc {T : Int} {L : List (El ue)} {e : El ue} (h : LgP T L) (he : okE e = true) (ht : tmE e ≤ T) (hu : ∀ x ∈ L, tmE x ≤ tmE e) : LgP T (L ++ [e]) := by
 refine ⟨fun x hx => ?_, ?_⟩
 ·rcases List.mem_append.1 hx with hx | hx
  ·exact h.ok x hx
  ·obtain rfl := List.mem_singleton.1 hx
   exact ⟨he, ht⟩
 ·rw [List.pairwise_append]
  refine ⟨h.up, List.pairwise_singleton _ _, fun x hx y hy => ?_⟩
  obtain rfl := List.mem_singleton.1 hy
  exact hu x hx
theorem LgP.st {T V : Int} {L : List (El ue)} (h : LgP T L) (h0 : 0 ≤ T ∧ T ≤ 1000000) (hv : -1 ≤ V ∧ V ≤ 6) (hl : L.length ≤ 60) : StOK T V L := by
 refine ⟨h0, hv, hl, fun i hi => ⟨hi, (h.ok _ (List.getElem_mem hi)).1, (h.ok _ (List.getElem_mem hi)).2, fun hp => ?_⟩⟩
 exact List.pairwise_iff_getElem.1 h.up (i - 1) i (by omega) hi (by omega)
theorem w17 {t t' k : Int} {D : List Int} (h : u42 t k D = true) (h0 : 1 ≤ t') (h1 : t' ≤ 1000000) : u42 t' k D = true := by
 unfold u42 at h ⊢
 rw [Bool.and_eq_true] at h ⊢
 refine ⟨?_, h.2⟩
 rw [ud h0, ud h1]
 rfl
theorem w25 (T : Int) : mx2 1 T = if 1 ≤ T then T else 1 := by
 unfold mx2
 split <;> split <;> omega
theorem w15 {R : Type} (kke : List Int → Int → Int → Int → Int → Int → Int → List (El ue) → Option R) {c : List Int} (i1 i2 V : Int) : ∀ (m fu : Nat) (a s N T : Int) (L : List (El ue)), m < fu → SrcOK c a s N → N + 33 * m ≤ 4611686018427387904 → 0 ≤ T → T ≤ 1000 → L.length + m ≤ 1000 → LgP T L →
  ∃ a' s' T' new, gq86.l1 kke fu (m : Int) c a s i1 i2 T V L = kke c a' s' i1 i2 T' V (L ++ new) ∧ new.length = m ∧ T ≤ T' ∧ (T' ≤ T + 1 ∧ (1 ≤ T → T' = T)) ∧ LgP T' (L ++ new) := by
 intro m
 induction m with
 | zero =>
  intro fu a s N T L hf h hN h0 h1 hl hL
  obtain ⟨fu, rfl⟩ : ∃ q, fu = q + 1 := ⟨fu - 1, by omega⟩
  simp only [gq86.l1]
  rw [uf (by omega), cf]
  exact ⟨a, s, T, [], by rw [List.append_nil], rfl, Int.le_refl _, ⟨by omega, fun _ => rfl⟩, by rw [List.append_nil]; exact hL⟩
 | succ m ih =>
  intro fu a s N T L hf h hN h0 h1 hl hL
  obtain ⟨fu, rfl⟩ : ∃ q, fu = q + 1 := ⟨fu - 1, by omega⟩
  simp only [gq86.l1]
  obtain ⟨t, k, D, a', s', e1, hD, hok, ht4, h2⟩ := entry_eq h (by omega)
  rw [ud (by omega), ct, e1, bs]
  dsimp only
  have hm1 : 1 ≤ mx2 1 T ∧ T ≤ mx2 1 T ∧ mx2 1 T ≤ 1000 ∧ (1 ≤ T → mx2 1 T = T) := by
   rw [w25]
   split <;> omega
  have hm2 : mx2 T (mx2 1 T) = mx2 1 T := by
   generalize mx2 1 T = z at hm1
   unfold mx2
   split <;> omega
  have hL2 : LgP (mx2 1 T) (L ++ [(mx2 1 T, (k, strL D))]) := by
   refine (hL.mono hm1.2.1).snoc ?_ (Int.le_refl _) fun x hx => Int.le_trans (hL.ok x hx).2 hm1.2.1
   show u42 (mx2 1 T) k (bytesL (strL D)) = true
   rw [u1d hD]
   exact w17 hok hm1.1 (by omega)
  rw [u10 (u28 (by simp; omega)), wr (by omega) (by omega), hm2, show (((m + 1 : Nat) : Int) - 1) = (m : Int) by omega]
  obtain ⟨a2, s2, T', new, e2, n1, n2, n3, n4⟩ := ih fu a' s' (N + 33) (mx2 1 T) (L ++ [(mx2 1 T, (k, strL D))]) (by omega) h2 (by omega) (by omega) hm1.2.2.1 (by simp; omega) hL2
  rw [List.append_assoc] at e2 n4
  refine ⟨a2, s2, T', [(mx2 1 T, (k, strL D))] ++ new, e2, by simp; omega, by omega, ?_, n4⟩
  have e3 := n3.2 hm1.1
  rw [e3]
  refine ⟨?_, hm1.2.2.2⟩
  rw [w25]
  split <;> omega
theorem later_eq {c : List Int} {a s N : Int} (h : SrcOK c a s N) (hN : N ≤ 1000000) {xT xV : Int} {xL : List (El ue)} (h0 : 0 ≤ xT ∧ xT ≤ 900) (hl : xL.length ≤ 50) (hL : LgP xT xL) :
  ∃ T V k new a' s', gq86 c a s xT xV xL = some (T, V, xL.take k ++ new, c, a', s') ∧ xT ≤ T ∧ T ≤ xT + 2 ∧ (-1 ≤ V ∧ V ≤ 3) ∧ new.length ≤ 2 ∧ LgP T (xL.take k ++ new) := by
 unfold gq86 gq86.F
 obtain ⟨r, a1, s1, e1, r0, h1⟩ := u3e h (by omega) 2 (by decide) (by decide)
 obtain ⟨v, a2, s2, e2, v0, h2⟩ := u3e h1 (by omega) 5 (by decide) (by decide)
 rw [e1, bs]
 dsimp only
 rw [e2, bs, wr (x := (xL.length : Int) + 1) (by omega) (by omega)]
 dsimp only
 obtain ⟨d, a3, s3, e3, d0, d1, h3⟩ : ∃ d a3 s3, gq140 c a2 s2 (mn2 3 ((xL.length : Int) + 1)) = some (d, c, a3, s3) ∧ 0 ≤ d ∧ d ≤ xL.length ∧ SrcOK c a3 s3 (N + 9) := by
  have hm : mn2 3 ((xL.length : Int) + 1) = if xL.length ≤ 2 then (xL.length : Int) + 1 else 3 := by
   unfold mn2
   split <;> split <;> omega
  rw [hm]
  by_cases hx0 : xL.length = 0
  ·rw [if_pos (by omega), next_one _ (by omega)]
   exact ⟨0, a2, s2, rfl, Int.le_refl _, by omega, h2.mono (by omega) (by omega)⟩
  ·split
   ·obtain ⟨d, a3, s3, e3, d0, h3⟩ := u3e h2 (by omega) ((xL.length : Int) + 1) (by omega) (by omega)
    exact ⟨d, a3, s3, e3, d0.1, by omega, h3.mono (by omega) (by omega)⟩
   ·obtain ⟨d, a3, s3, e3, d0, h3⟩ := u3e h2 (by omega) 3 (by omega) (by omega)
    exact ⟨d, a3, s3, e3, d0.1, by omega, h3.mono (by omega) (by omega)⟩
 rw [e3, bs]
 dsimp only
 rw [wr (x := (xL.length : Int) - d) (by omega) (by omega), u10 (u4f (by decide) (by omega) (by omega)), u10 (u28 (by rw [u3d, List.length_take, List.length_nil]; omega)), u3d, List.nil_append]
 obtain ⟨n, a4, s4, e4, n0, h4⟩ := u3e h3 (by omega) 3 (by decide) (by decide)
 rw [e4, bs]
 dsimp only
 rw [wr (x := xT + r) (by omega) (by omega), wr (x := v - 1) (by omega) (by omega)]
 obtain ⟨q, rfl⟩ : ∃ q : Nat, n = q := ⟨n.toNat, by omega⟩
 obtain ⟨k, hk⟩ : ∃ k : Nat, ((xL.length : Int) - d).toNat = k := ⟨_, rfl⟩
 rw [hk]
 obtain ⟨a5, s5, T', new, e5, n1, n2, n3, n4⟩ := w15 (fun s s1 s2 i i1 out out1 l => some (out, out1, l, s, s1, s2)) 0 0 (v - 1) q fuel a4 s4 (N + 9 + 3) (xT + r) (xL.take k) (u1c (by omega)) h4 (by omega) (by omega) (by omega) (by rw [List.length_take]; omega) ((hL.sub (List.take_sublist _ _)).mono (by omega))
 refine ⟨T', v - 1, k, new, a5, s5, e5, by omega, by omega, by omega, by omega, n4⟩
theorem uf6 (c : List Int) (hb : IsBytes c) (hl : c.length ≤ 1048576) {xT xV : Int} {xL : List (El ue)} (h0 : 0 ≤ xT ∧ xT ≤ 900) (hxl : xL.length ≤ 50) (hL : LgP xT xL) :
  ∃ T V k new, gq39 c xT xV xL = some (T, V, xL.take k ++ new) ∧ xT ≤ T ∧ T ≤ xT + 2 ∧ (-1 ≤ V ∧ V ≤ 3) ∧ new.length ≤ 2 ∧ LgP T (xL.take k ++ new) := by
 obtain ⟨s, e1, h1⟩ := w6f c hb hl
 obtain ⟨T, V, k, new, a', s', e2, p1, p2, p3, p4, p5⟩ := later_eq h1 (by decide) (xV := xV) h0 hxl hL
 unfold gq39 gq39.F
 rw [e1, bs]
 dsimp only
 rw [e2, bs]
 exact ⟨T, V, k, new, rfl, p1, p2, p3, p4, p5⟩
theorem eqE_eq {a b : El ue} (h : eqE a b = true) : a = b := by
 unfold eqE at h
 rw [Bool.and_eq_true, Bool.and_eq_true] at h
 have h1 : a.1 = b.1 := by simpa using h.1
 have h2 : a.2.1 = b.2.1 := by simpa using h.2.1
 have h3 : a.2.2 = b.2.2 := sEq_iff.1 h.2.2
 obtain ⟨x, y, z⟩ := a
 obtain ⟨x', y', z'⟩ := b
 dsimp only at h1 h2 h3
 subst h1 h2 h3
 rfl
theorem v1a : ∀ (a b : List (El ue)), a.take (u2d a b) = b.take (u2d a b)
 | [], _ => by simp [u2d]
 | _ :: _, [] => by simp [u2d]
 | a :: r, b :: q => by
  unfold u2d
  cases h : eqE a b with
  | true =>
   rw [ct, List.take_succ_cons, List.take_succ_cons, v1a r q, eqE_eq h]
  | false => rw [cf, List.take_zero, List.take_zero]
theorem eqE_self (a : El ue) : eqE a a = true := by
 unfold eqE
 simp [u2f]
theorem ubd : ∀ (p x y : List (El ue)), p.length ≤ u2d (p ++ x) (p ++ y)
 | [], _, _ => Nat.zero_le _
 | a :: p, x, y => by
  have := ubd p x y
  rw [List.cons_append, List.cons_append]
  unfold u2d
  rw [eqE_self, ct, List.length_cons]
  omega
abbrev Q3 := Int × Int × List (El ue)
theorem u8e : ∀ (P R : List ByteArray) (q : Q3), fAll q (P ++ R) = (fAll q P).bind fun y => fAll y R
 | [], R, q => rfl
 | s :: P, R, q => by
  rw [List.cons_append]
  simp only [fAll]
  cases u4c q.1 q.2.1 q.2.2 (bytesL s) with
  | none => rfl
  | some y => exact u8e P R y
def GoodF (q : Q3) (L : List ByteArray) (y : Q3) : Prop := fAll q L = some y ∧ ∀ j, ∃ z, fAll q (L.take j) = some z ∧ StOK z.1 z.2.1 z.2.2
theorem GoodF.nil {q : Q3} (h : StOK q.1 q.2.1 q.2.2) : GoodF q [] q := ⟨rfl, fun j => ⟨q, by rw [List.take_nil]; rfl, h⟩⟩
theorem GoodF.append {q y z : Q3} {P R : List ByteArray} (h : GoodF q P y) (k : GoodF y R z) : GoodF q (P ++ R) z := by
 refine ⟨by rw [u8e, h.1]; exact k.1, fun j => ?_⟩
 rw [List.take_append]
 rcases Nat.le_total j P.length with hj | hj
 ·rw [show j - P.length = 0 by omega, List.take_zero, List.append_nil]
  exact h.2 j
 ·obtain ⟨w, k1, k2⟩ := k.2 (j - P.length)
  exact ⟨w, by rw [List.take_of_length_le hj, u8e, h.1]; exact k1, k2⟩
theorem GoodF.one {q y : Q3} {r : ByteArray} (hq : StOK q.1 q.2.1 q.2.2) (h : u4c q.1 q.2.1 q.2.2 (bytesL r) = some y) (hy : StOK y.1 y.2.1 y.2.2) : GoodF q [r] y := by
 have e : fAll q [r] = some y := by
  simp only [fAll]
  rw [h]
 refine ⟨e, fun j => ?_⟩
 cases j with
 | zero => exact ⟨q, rfl, hq⟩
 | succ j => exact ⟨y, by rw [List.take_succ_cons, List.take_nil]; exact e, hy⟩
theorem fStep_t {T V t v : Int} {L : List (El ue)} (ht : 0 ≤ t ∧ t < 4294967296) (hv : -1 ≤ v ∧ v < 255) : u4c T V L (bytesL (tRec t v)) = some (t, v, L) := by
 unfold tRec
 rw [u1d (((show IsBytes [84] by intro y hy; obtain rfl := List.mem_singleton.1 hy; decide).append (u25 _ _)).append (u25 _ _)), List.append_assoc]
 show u4c T V L (84 :: (beL t 4 ++ beL (v + 1) 1)) = _
 unfold u4c
 dsimp only
 rw [if_pos rfl, if_pos (by rw [List.length_append, u14, u14]), List.take_left' (u14 _ _), List.drop_left' (u14 _ _), ub0 t 4 ht.1 (by omega), ub0 (v + 1) 1 (by omega) (by omega)]
 congr 3
 omega
theorem fStep_c {T V : Int} {L : List (El ue)} {k : Nat} (hk : k ≤ L.length) (hL : L.length ≤ 1000) : u4c T V L (bytesL (cRec k)) = some (T, V, L.take k) := by
 unfold cRec
 rw [u1d ((show IsBytes [67] by intro y hy; obtain rfl := List.mem_singleton.1 hy; decide).append (u25 _ _))]
 show u4c T V L (67 :: beL k 4) = _
 unfold u4c
 dsimp only
 rw [if_neg (by decide), if_pos rfl, ub0 (k : Int) 4 (by omega) (by omega), if_pos ⟨u14 _ _, by omega⟩, Int.toNat_natCast]
theorem fStep_e {T V : Int} {L : List (El ue)} {e : El ue} (h : okE e = true) (hL : L.length + 1 ≤ 60) : u4c T V L (bytesL (eRec e)) = some (T, V, L ++ [e]) := by
 unfold okE at h
 obtain ⟨h1, h2, h3⟩ := ue7 h
 unfold eRec
 rw [u1d ((show IsBytes [69] by intro y hy; obtain rfl := List.mem_singleton.1 hy; decide).append (wa (IsBytes.bytesL _)))]
 show u4c T V L (69 :: entB e.1 e.2.1 (bytesL e.2.2)) = _
 unfold u4c
 dsimp only
 rw [if_neg (by decide), if_neg (by decide), if_pos rfl, w8c (by omega) (by omega) (by omega)]
 dsimp only
 rw [if_pos ⟨by rw [h]; simp, hL⟩, u1e]
theorem v8b {T V : Int} (hT : 0 ≤ T ∧ T ≤ 1000000) (hV : -1 ≤ V ∧ V ≤ 6) : ∀ (E L : List (El ue)), LgP T (L ++ E) → (L ++ E).length ≤ 60 → GoodF (T, V, L) (E.map eRec) (T, V, L ++ E)
 | [], L, h, hl => by
  rw [List.append_nil] at h hl ⊢
  exact GoodF.nil (h.st hT hV hl)
 | e :: E, L, h, hl => by
  have ea : L ++ e :: E = (L ++ [e]) ++ E := by simp
  have h1 : LgP T (L ++ [e]) := h.sub (by rw [ea]; exact List.sublist_append_left _ _)
  have h0 : LgP T L := h.sub (List.sublist_append_left _ _)
  have hll : L.length + 1 ≤ 60 := by rw [ea, List.length_append, List.length_append] at hl; simp at hl; omega
  have ih := v8b hT hV E (L ++ [e]) (by rw [← ea]; exact h) (by rw [← ea]; exact hl)
  rw [List.map_cons, ea]
  exact (GoodF.one (q := (T, V, L)) (y := (T, V, L ++ [e])) (h0.st hT hV (by omega)) (fStep_e (h.ok e (by simp)).1 hll) (h1.st hT hV (by simp; omega))).append ih
theorem v61 {t v : Int} {l : List (El ue)} {t' v' : Int} {l' : List (El ue)} (hl : LgP t l) (hl' : LgP t' l') (ht : 0 ≤ t ∧ t ≤ t' ∧ t' ≤ 1000000) (hv : -1 ≤ v ∧ v ≤ 6) (hv' : -1 ≤ v' ∧ v' ≤ 6) (n1 : l.length ≤ 60) (n2 : l'.length ≤ 60) :
  GoodF (t, v, l) (recV t v l t' v' l') (t', v', l') := by
 have hk := v53 l l'
 have hst0 := hl.st (V := v) ⟨ht.1, by omega⟩ hv n1
 have hl2 : LgP t' l := hl.mono ht.2.1
 have hst1 := hl2.st (V := v') ⟨by omega, ht.2.2⟩ hv' n1
 have hl3 : LgP t' (l.take (u2d l l')) := hl2.sub (List.take_sublist _ _)
 have hst2 := hl3.st (V := v') ⟨by omega, ht.2.2⟩ hv' (by rw [List.length_take]; omega)
 have g1 : GoodF (t, v, l) (cond (t != t' || v != v') [tRec t' v'] []) (t', v', l) := by
  cases hc : (t != t' || v != v') with
  | true => exact GoodF.one hst0 (fStep_t ⟨by omega, by omega⟩ ⟨hv'.1, by omega⟩) hst1
  | false =>
   rw [Bool.or_eq_false_iff, bne_eq_false_iff_eq, bne_eq_false_iff_eq] at hc
   obtain ⟨rfl, rfl⟩ := hc
   exact GoodF.nil hst0
 have g2 : GoodF (t', v', l) (cond (decide (u2d l l' < l.length)) [cRec (u2d l l')] []) (t', v', l.take (u2d l l')) := by
  by_cases hc : u2d l l' < l.length
  ·rw [ud hc, ct]
   exact GoodF.one hst1 (fStep_c hk.1 (show l.length ≤ 1000 by omega)) hst2
  ·rw [uf hc, cf, List.take_of_length_le (by omega)]
   exact GoodF.nil hst1
 have e : l.take (u2d l l') ++ l'.drop (u2d l l') = l' := by rw [v1a, List.take_append_drop]
 have g3 := v8b (T := t') (V := v') ⟨by omega, ht.2.2⟩ hv' (l'.drop (u2d l l')) (l.take (u2d l l')) (by rw [e]; exact hl') (by rw [e]; exact n2)
 rw [e] at g3
 unfold recV
 exact (g1.append g2).append g3
theorem Syn.le {gs : Gs} {sy : Nat} (h : Syn gs sy) : sy ≤ (allR gs).length := by
 rcases h with ⟨rfl, rfl⟩ | ⟨a, g, s, t, rfl, _, h2, _, rfl⟩
 ·exact Nat.zero_le _
 ·rw [u23, List.length_append]
  simp [allR]
  omega
theorem w52 : ∀ (L : List ByteArray) (gs : Gs), LG gs → (∀ r ∈ L, Rec1 r) → (allR gs).length + L.length ≤ 8 →
  ∃ gs', u96 3000 (logF 1 0 gs) L = (0, logF 1 0 gs') ∧ LG gs' ∧ allR gs' = allR gs ++ L ∧ ∀ sy, Syn gs sy → ∃ sy', sy ≤ sy' ∧ Syn gs' sy'
 | [], gs, h, _, _ => ⟨gs, rfl, h, by simp, fun sy hs => ⟨sy, Nat.le_refl _, hs⟩⟩
 | r :: L, gs, h, hL, hc => by
  rw [List.length_cons] at hc
  have hr := hL r (by simp)
  have hgl := w88 gs h.ne
  have hal := (vd9 gs r).1
  have w := (wap_lg h hr (by omega)).1 (by omega)
  have h2 := h.add hr (by omega) (by omega)
  have hall := v3f gs r
  obtain ⟨gs', e1, e2, e3, e4⟩ := w52 L (addG gs r) h2 (fun x hx => hL x (by simp [hx])) (by rw [hall]; simp; omega)
  refine ⟨gs', ?_, e2, by rw [e3, hall, List.append_assoc]; rfl, fun sy hs => ?_⟩
  ·simp only [u96]
   rw [w]
   dsimp only
   rw [show ((0 : Int) != 0) = false from rfl, cf]
   exact e1
  ·obtain ⟨sy', p1, p2⟩ := e4 _ (hs.add r)
   have := hs.le
   refine ⟨sy', ?_, p2⟩
   cases hb : b2 gs r with
   | true => rw [hb, ct] at p1; omega
   | false => rw [hb, cf] at p1; exact p1
theorem sync_any {gs : Gs} (h : LG gs) {sy : Nat} (hs : Syn gs sy) : ∃ gs', syncV (logF 1 0 gs) = logF 1 0 gs' ∧ LG gs' ∧ allR gs' = allR gs ∧ Syn gs' (allR gs).length := by
 rcases Classical.em (gs = []) with rfl | hne
 ·exact ⟨[], rfl, h, rfl, .inl ⟨rfl, rfl⟩⟩
 ·exact sync_lg h hne hs
theorem w24 {gs : Gs} (h : LG gs) : ∃ N, u5e 3000 (logF 1 0 gs) = (0, allR gs, N, 0, 0) := by
 have hlen := h.len
 have hdp := h.dp 1 0 (by omega)
 unfold u5e
 rw [hdp.ok, ct]
 rcases Classical.em (gs = []) with rfl | hne
 ·exact ⟨[], rfl⟩
 ·exact ⟨_, wV_lg h 1 0 (Nat.le_refl _) (by omega) (by omega) hne⟩
theorem v76 (a : List (El ue)) (h : a.length ≤ 1000000) : gq89 a a = some true := by
 unfold gq89 gq89.F
 rw [show ((a.length : Int) != a.length) = false by simp, cf]
 have key : ∀ (m fu i : Nat), i + m = a.length → m < fu → gq89.l1 (some true) (fun b1 => some b1) fu a a (i : Int) = some true := by
  intro m
  induction m with
  | zero =>
   intro fu i e hf
   obtain ⟨fu, rfl⟩ : ∃ q, fu = q + 1 := ⟨fu - 1, by omega⟩
   simp only [gq89.l1]
   rw [uf (by omega), cf]
  | succ m ih =>
   intro fu i e hf
   obtain ⟨fu, rfl⟩ : ∃ q, fu = q + 1 := ⟨fu - 1, by omega⟩
   simp only [gq89.l1]
   rw [ud (by omega), ct, u10 (u17 (by omega) (by omega)), u10 (u17 (by omega) (by omega)), u2f, beq_self_eq_true, beq_self_eq_true, Bool.and_self, Bool.and_self, Bool.not_true, cf, wr (by omega) (by omega), show ((i : Int) + 1) = ((i + 1 : Nat) : Int) by omega]
   exact ih fu (i + 1) (by omega) (by omega)
 have := key a.length fuel 0 (by omega) (u1c (by omega))
 rwa [Int.natCast_zero] at this
theorem w1a (t v : Int) (a : List (El ue)) (h : a.length ≤ 1000000) : gq43 t v a t v a = some true := by
 unfold gq43 gq43.F
 rw [beq_self_eq_true, beq_self_eq_true, ct, ct, v76 a h, bs]
theorem w8 {room : Int} {l : List (El u4)} {F : Int} {R N : List ByteArray} {T : Int} (hr : u5e room l = (F, R, N, T, 0)) {y : Q3} (h : fAll (0, -1, []) R = some y) (hy : StOK y.1 y.2.1 y.2.2) : loadV room l = (y.1, y.2.1, y.2.2, 0) := by
 unfold loadV
 rw [hr]
 dsimp only
 rw [show ((0 : Int) != 0) = false from rfl, cf, h]
 dsimp only
 rw [if_pos hy]
theorem uc8 {t v : Int} {l : List (El ue)} (h : StOK t v l) : gq79 t v l = some true := by
 obtain ⟨a1, a2⟩ := h.data
 obtain ⟨x, x1, x2⟩ := v68 t v l ⟨by omega, fun e he => by have := a2 e he; omega⟩
 rw [x1, x2.2 h]
theorem vf1 {t v : Int} {l : List (El ue)} {t' v' : Int} {l' : List (El ue)} (h : StOK t v l) (h' : StOK t' v' l') : gq40 t v l t' v' l' = some (recV t v l t' v' l', 0) := by
 obtain ⟨a1, a2⟩ := h.data
 obtain ⟨b1, b2⟩ := h'.data
 unfold gq40 gq40.F
 rw [uc8 h, bs, Bool.not_true, cf, uc8 h', bs, Bool.not_true, cf, v8e t v l t' v' l' (by omega) (by omega) (fun e he => by have := b2 e he; omega) (by have := h'.2.1; omega), bs]
theorem vad {room : Int} {l : List (El u4)} (h : DP room l) {t v : Int} {L : List (El ue)} {t' v' : Int} {L' : List (El ue)} (h1 : StOK t v L) (h2 : StOK t' v' L') :
  gq34 room l t v L t' v' L' = some (cond ((u96 room l (recV t v L t' v' L')).1 != 0) (0, [], (u96 room l (recV t v L t' v' L')).1) (room, syncV (u96 room l (recV t v L t' v' L')).2, 0)) := by
 obtain ⟨a1, a2⟩ := h1.data
 obtain ⟨b1, b2⟩ := h2.data
 have h8 := h.len
 have hrm := v4e (t := t) (v := v) (l := L) (t' := t') (v' := v') b2
 have hrl := recV_len t v L t' v' L'
 unfold gq34 gq34.F
 rw [w32 room l (by omega) ⟨h.dk.fit, fun f hf => by have := h.dk.data hf; omega⟩, bs, h.ok, Bool.not_true, cf, uc8 h1, bs, Bool.not_true, cf, uc8 h2, bs, Bool.not_true, cf, v8e t v L t' v' L' (by omega) (by omega) (fun e he => by have := b2 e he; omega) (by have := h2.2.1; omega), bs]
 have e := w9 (fun d d1 i => (gq81 d d1).bind fun r4 => (gq50 r4.1 r4.2).bind fun r5 => some (r5.1, r5.2, (0 : Int))) (fun i1 i2 => some (i2, ([] : List (El u4)), i1)) room (recV t v L t' v' L') (by omega) (fun r hr => by have := hrm r hr; omega) 0 (recV t v L t' v' L').length fuel 0 l (by omega) (u1c (by omega)) h
 rw [Int.natCast_zero, List.drop_zero] at e
 refine e.trans ?_
 cases hc : (u96 room l (recV t v L t' v' L')).1 != 0 with
 | true => rfl
 | false =>
  have hdp := vc9 h (by simpa using hc)
  have h8' := hdp.syncV.len
  rw [cf, cf, w2c hdp.dk, bs]
  unfold gq50 gq50.F
  dsimp only
  rw [u10 (u28 (by simp only [List.length_nil]; omega)), bs, List.nil_append]
theorem rec_loop {R : Type} (kke : List Int → Int → Int → Int → Int → Int → Int → List ByteArray → Int → List (El ue) → List (El u4) → Option R) (kkr : Bool → Option R) (more : List Int) (c none_ none1 a a1 : Int) (L : List ByteArray) (hL : ∀ r ∈ L, Rec1 r) (hLl : L.length ≤ 8) (K : Nat) (hK : K ≤ L.length) (lg : List (El ue)) :
  ∀ (m fu i : Nat) (gs : Gs), i + m = K → m < fu → LG gs → (allR gs).length + m ≤ 8 →
   ∃ gs', LG gs' ∧ allR gs' = allR gs ++ (L.drop i).take m ∧ (∀ sy, Syn gs sy → ∃ sy', sy ≤ sy' ∧ Syn gs' sy') ∧ gq7.l1 kke kkr fu more c (K : Int) (i : Int) none_ none1 a a1 L 3000 lg (logF 1 0 gs) = kke more c (K : Int) none_ none1 a a1 L 3000 lg (logF 1 0 gs') := by
 intro m
 induction m with
 | zero =>
  intro fu i gs e hf h hc
  obtain ⟨fu, rfl⟩ : ∃ q, fu = q + 1 := ⟨fu - 1, by omega⟩
  simp only [gq7.l1]
  rw [uf (by omega), cf]
  exact ⟨gs, h, by simp, fun sy hs => ⟨sy, Nat.le_refl _, hs⟩, rfl⟩
 | succ m ih =>
  intro fu i gs e hf h hc
  obtain ⟨fu, rfl⟩ : ∃ q, fu = q + 1 := ⟨fu - 1, by omega⟩
  have hi : i < L.length := by omega
  have hr := hL _ (List.getElem_mem hi)
  have hr' := hr
  unfold Rec1 at hr'
  have hgl := w88 gs h.ne
  have hal := (vd9 gs L[i]).1
  have w := (wap_lg h hr (by omega)).1 (by omega)
  have h2 := h.add hr (by omega) (by omega)
  have hall := v3f gs L[i]
  have hdp := h.dp 1 0 (by have := h.len; omega)
  have hap : gq27 3000 (logF 1 0 gs) L[i] = some (3000, logF 1 0 (addG gs L[i]), 0) := by
   rw [w6c 3000 (logF 1 0 gs) (by have := hdp.len; omega) ⟨hdp.dk.fit, fun f hf => by have := hdp.dk.data hf; omega⟩ L[i] (by omega)]
   unfold wfV
   rw [uf (by omega), cf, hdp.ok, Bool.not_true, cf, w]
  simp only [gq7.l1]
  rw [ud (by omega), ct, u10 (u17 (by omega) (by omega)), Int.toNat_natCast, u1b (k := .str) hi, hap, bs]
  dsimp only
  rw [show ((0 : Int) != 0) = false from rfl, cf, wr (by omega) (by omega), show ((i : Int) + 1) = ((i + 1 : Nat) : Int) by omega]
  obtain ⟨gs', e1, e2, e3, e4⟩ := ih fu (i + 1) (addG gs L[i]) (by omega) (by omega) h2 (by rw [hall]; simp; omega)
  refine ⟨gs', e1, ?_, fun sy hs => ?_, e4⟩
  ·rw [e2, hall, u18 hi, List.take_succ_cons, List.append_assoc]
   rfl
  ·obtain ⟨sy', p1, p2⟩ := e3 _ (hs.add L[i])
   have := hs.le
   refine ⟨sy', ?_, p2⟩
   cases hb : b2 gs L[i] with
   | true => rw [hb, ct] at p1; omega
   | false => rw [hb, cf] at p1; exact p1
theorem vf8 {R : Type} (kke : Int → Int → Int → Int → Int → Int → List ByteArray → Int → List Int → List (El ue) → List (El u4) → Option R) (more : List Int) (hm : IsBytes more) (hml : more.length ≤ 1048576) (c k none_ none1 a a1 d : Int) (list : List ByteArray) (lg : List (El ue)) (l : List (El u4)) : ∀ (m fu i : Nat) (keep : List Int), i + m = 8 → m < fu → keep.length = i → (∀ x ∈ keep, 0 ≤ x ∧ x ≤ 1000) →
  ∃ keep', keep'.length = 8 ∧ (∀ x ∈ keep', 0 ≤ x ∧ x ≤ 1000) ∧ gq7.l2 kke fu more c k (i : Int) none_ none1 a a1 list d keep lg l = kke c k none_ none1 a a1 list d keep' lg l := by
 intro m
 induction m with
 | zero =>
  intro fu i keep e hf hk hx
  obtain ⟨fu, rfl⟩ : ∃ q, fu = q + 1 := ⟨fu - 1, by omega⟩
  simp only [gq7.l2]
  rw [uf (by omega), cf]
  exact ⟨keep, by omega, hx, rfl⟩
 | succ m ih =>
  intro fu i keep e hf hk hx
  obtain ⟨fu, rfl⟩ : ∃ q, fu = q + 1 := ⟨fu - 1, by omega⟩
  simp only [gq7.l2]
  obtain ⟨v, e5, v0, v1⟩ := at_eq more hm hml (9 + (i : Int)) 40 (by omega) (by omega) (by decide) (by decide)
  rw [ud (by omega), ct, wr (x := 9 + (i : Int)) (by omega) (by omega), e5, bs, u10 (u28 (by simp; omega)), wr (by omega) (by omega), show ((i : Int) + 1) = ((i + 1 : Nat) : Int) by omega]
  refine ih fu (i + 1) _ (by omega) (by omega) (by simp; omega) fun x hx' => ?_
  rcases List.mem_append.1 hx' with hx' | hx'
  ·exact hx x hx'
  ·obtain rfl := List.mem_singleton.1 hx'
   omega
theorem va1 (a b : List (El ue)) (h : a.length ≤ 1000000) : ∃ x, gq89 a b = some x := by
 unfold gq89 gq89.F
 by_cases hl : a.length = b.length
 ·rw [show ((a.length : Int) != b.length) = false by rw [bne_eq_false_iff_eq]; omega, cf]
  have key : ∀ (m fu i : Nat), i + m = a.length → m < fu → ∃ x, gq89.l1 (some true) (fun b1 => some b1) fu a b (i : Int) = some x := by
   intro m
   induction m with
   | zero =>
    intro fu i e hf
    obtain ⟨fu, rfl⟩ : ∃ q, fu = q + 1 := ⟨fu - 1, by omega⟩
    simp only [gq89.l1]
    rw [uf (by omega), cf]
    exact ⟨_, rfl⟩
   | succ m ih =>
    intro fu i e hf
    obtain ⟨fu, rfl⟩ : ∃ q, fu = q + 1 := ⟨fu - 1, by omega⟩
    simp only [gq89.l1]
    rw [ud (by omega), ct, u10 (u17 (by omega) (by omega)), u10 (u17 (by omega) (by omega)), wr (by omega) (by omega), show ((i : Int) + 1) = ((i + 1 : Nat) : Int) by omega]
    cases !(((rdE ue a (Int.toNat i)).1 == (rdE ue b (Int.toNat i)).1) && (((rdE ue a (Int.toNat i)).2.1 == (rdE ue b (Int.toNat i)).2.1) && (sEq (rdE ue a (Int.toNat i)).2.2 (rdE ue b (Int.toNat i)).2.2))) with
    | true => exact ⟨_, rfl⟩
    | false =>
     rw [cf]
     exact ih fu (i + 1) (by omega) (by omega)
  have := key a.length fuel 0 (by omega) (u1c (by omega))
  rwa [Int.natCast_zero] at this
 ·rw [show ((a.length : Int) != b.length) = true by rw [bne_iff_ne]; omega, ct]
  exact ⟨_, rfl⟩
theorem w7c (t v : Int) (a : List (El ue)) (t' v' : Int) (b : List (El ue)) (h : a.length ≤ 1000000) : ∃ x, gq43 t v a t' v' b = some x := by
 obtain ⟨x, hx⟩ := va1 a b h
 unfold gq43 gq43.F
 rw [hx]
 cases (t == t') <;> cases (v == v') <;> exact ⟨_, rfl⟩
theorem wc {R : Type} (kke : Option R) (kkr : Bool → Option R) (list first : List ByteArray) (hl : list.length ≤ 100) (hf1 : first.length ≤ 100) (K : Nat) (hK : K ≤ list.length) (y : Q3) (J : Nat) (hJ : J ≤ K) (hy : told (first ++ list.take J) = (y.1, y.2.1, y.2.2, 0)) (hyl : y.2.2.length ≤ 1000) (hall : ∀ i, (told (first ++ list.take i)).2.2.1.length ≤ 1000) :
  ∀ (m fu i : Nat), i + m = J → m < fu → gq7.l3 kke kkr fu list (K : Int) (i : Int) y.1 y.2.1 first y.2.2 = kkr true := by
 intro m
 induction m with
 | zero =>
  intro fu i e hf
  obtain ⟨fu, rfl⟩ : ∃ q, fu = q + 1 := ⟨fu - 1, by omega⟩
  obtain rfl : i = J := by omega
  simp only [gq7.l3]
  rw [ud (by omega), ct, u10 (u28 (by simp; omega)), u10 (u4f (by decide) (by omega) (by omega)), u3d, Int.toNat_natCast, u10 (u28 (by simp; omega)), List.nil_append, ua4 _ (by simp; omega), hy, bs]
  dsimp only
  rw [show ((0 : Int) == 0) = true from rfl, ct, w1a _ _ _ (by omega), bs, ct]
 | succ m ih =>
  intro fu i e hf
  obtain ⟨fu, rfl⟩ : ∃ q, fu = q + 1 := ⟨fu - 1, by omega⟩
  have hi := ih fu (i + 1) (by omega) (by omega)
  simp only [gq7.l3]
  rw [ud (by omega), ct, u10 (u28 (by simp; omega)), u10 (u4f (by decide) (by omega) (by omega)), u3d, Int.toNat_natCast, u10 (u28 (by simp; omega)), List.nil_append, ua4 _ (by simp; omega), bs, wr (by omega) (by omega), show ((i : Int) + 1) = ((i + 1 : Nat) : Int) by omega, hi]
  obtain ⟨x, hx⟩ := w7c (told (first ++ list.take i)).1 (told (first ++ list.take i)).2.1 (told (first ++ list.take i)).2.2.1 y.1 y.2.1 y.2.2 (by have := hall i; omega)
  rw [hx]
  cases ((told (first ++ list.take i)).2.2.2 == 0) <;> cases x <;> rfl
theorem at_le (more : List Int) (hb : IsBytes more) (hl : more.length ≤ 1048576) (n : Int) (hn : 1 ≤ n) (hn1 : n ≤ 1000) : ∃ v, l_at more 0 n = some v ∧ 0 ≤ v ∧ v < n := by
 by_cases h : n = 1
 ·subst h
  refine ⟨0, ?_, by decide, by decide⟩
  unfold l_at l_at.F
  rw [ud (by decide), ct]
 ·exact at_eq more hb hl 0 n (by decide) (by decide) (by omega) hn1
theorem w16 : gq30 3000 [] = some (3000, [], 0) := by
 have hdp := LG.nil.dp 1 0 (by simp)
 have hr := uce 3000 (logF 1 0 []) (by simp [logF]) ⟨hdp.dk.fit, fun f hf => by have := hdp.dk.data hf; omega⟩
 obtain ⟨N, hN⟩ := w24 LG.nil
 rw [hN] at hr
 have hr : gq21 3000 [] = some (0, allR [], N, 0, 0) := hr
 unfold gq30 gq30.F
 rw [hr, bs]
 dsimp only
 rw [show ((0 : Int) != 0) = false from rfl, cf]
 unfold gq53 gq53.F
 rw [v9f [] (by simp), bs, bs]
 have hNl : N.length ≤ 1000000 := by
  unfold u5e at hN
  rw [hdp.ok, ct] at hN
  have : (wV (logF 1 0 [])).2.2.1 = N := by rw [hN]
  rw [← this]
  decide
 obtain ⟨x, hx⟩ := last_any 0 (allR []) N 0 hNl
 rw [hx, bs, show decide ((0 : Int) > 0) = false from rfl, cf]
theorem w33 {gs : Gs} (h : LG gs) {sy : Nat} (hs : Syn gs sy) (keep : List Int) (hk : ∀ x ∈ keep, 0 ≤ x ∧ x ≤ 1000) (hkl : keep.length ≤ 1000) :
  ∃ x y N F n, gq29 3000 (logF 1 0 gs) 5 0 ByteArray.empty ByteArray.empty ByteArray.empty keep = some (3000, x, 0) ∧ gq30 3000 x = some (3000, y, 0) ∧ DP 3000 y ∧ u5e 3000 y = (F, (allR gs).take n, N, 0, 0) ∧ sy ≤ n := by
 rcases hs with ⟨rfl, rfl⟩ | ⟨a, g, s, t, rfl, h3, h4, h5, rfl⟩
 ·obtain ⟨N, hN⟩ := w24 LG.nil
  exact ⟨[], [], N, 0, 0, u89 (LG.nil.dp 1 0 (by simp)) keep hk hkl (by simp [logF, crL]), w16, LG.nil.dp 1 0 (by simp), hN, Nat.le_refl _⟩
 ·obtain ⟨x, y, N', F, q, c1, c2, c3, c4, c5, c6⟩ := v5d h h3 keep hk hkl t h4 h5
  refine ⟨x, y, N', F, (allR a).length + q, c1, c2, c4, ?_, by omega⟩
  have e : (allR (a ++ [(g, s)])).take ((allR a).length + q) = allR a ++ g.take q := by
   rw [u23, show allR [(g, s)] = g by simp [allR], List.take_append, List.take_of_length_le (l := allR a) (by omega), Nat.add_sub_cancel_left]
  rw [c5, e]
theorem v6a (code more : List Int) (hc : IsBytes code) (hm : IsBytes more) : gq7 code more = some true := by
 unfold gq7 gq7.F
 by_cases h1 : (code.length : Int) > 1048576
 ·rw [ud h1, ct]
 rw [uf h1, cf]
 by_cases h2 : (more.length : Int) > 1048576
 ·rw [ud h2, ct]
 rw [uf h2, cf]
 obtain ⟨T1, V1, k1, n1, e1, t1, t2, v1, l1, g1⟩ := uf6 code hc (by omega) (xT := 0) (xV := -1) (xL := []) (by decide) (by simp) (LgP.nil 0)
 obtain ⟨L1, hL1⟩ : ∃ L, ([] : List (El ue)).take k1 ++ n1 = L := ⟨_, rfl⟩
 rw [hL1] at e1 g1
 have hl1 : L1.length ≤ 2 := by rw [← hL1]; simpa using l1
 obtain ⟨T2, V2, k2, n2, e2, t3, t4, v2, l2, g2⟩ := uf6 more hm (by omega) (xT := T1) (xV := V1) (xL := L1) (by omega) (by omega) g1
 obtain ⟨L2, hL2⟩ : ∃ L, L1.take k2 ++ n2 = L := ⟨_, rfl⟩
 have hcom : (L1.take k2).length ≤ u2d L1 L2 := by
  have := ubd (L1.take k2) (L1.drop k2) n2
  rwa [List.take_append_drop, hL2] at this
 rw [hL2] at e2 g2
 have hl2 : L2.length ≤ 4 := by rw [← hL2, List.length_append, List.length_take]; omega
 have hd2 : (L2.drop (u2d L1 L2)).length ≤ 2 := by
  rw [List.length_drop]
  have : L2.length = (L1.take k2).length + n2.length := by rw [← hL2, List.length_append]
  omega
 have s0 : StOK 0 (-1) [] := (LgP.nil 0).st (by decide) (by decide) (by simp)
 have s1 : StOK T1 V1 L1 := g1.st (by omega) (by omega) (by omega)
 have s2 : StOK T2 V2 L2 := g2.st (by omega) (by omega) (by omega)
 have f1 := v61 (v := -1) (v' := V1) (LgP.nil 0) g1 (by omega) (by decide) (by omega) (by simp) (by omega)
 have f2 := v61 (v := V1) (v' := V2) g1 g2 (by omega) (by omega) (by omega) (by omega) (by omega)
 have f3 := f1.append f2
 have r1 : (recV 0 (-1) [] T1 V1 L1).length ≤ 3 := by
  have : (recV 0 (-1) [] T1 V1 L1).length ≤ 1 + L1.length := by
   unfold recV
   rw [show decide (u2d [] L1 < ([] : List (El ue)).length) = false by simp, cf, List.append_nil, List.length_append, List.length_map, List.length_drop]
   cases ((0 : Int) != T1 || (-1 : Int) != V1) <;> simp <;> omega
  omega
 have r2 : (recV T1 V1 L1 T2 V2 L2).length ≤ 4 := by
  unfold recV
  rw [List.length_append, List.length_append, List.length_map]
  cases (T1 != T2 || V1 != V2) <;> cases decide (u2d L1 L2 < L1.length) <;> simp at hd2 ⊢ <;> omega
 obtain ⟨R1, hR1⟩ : ∃ R, recV 0 (-1) [] T1 V1 L1 = R := ⟨_, rfl⟩
 obtain ⟨R2, hR2⟩ : ∃ R, recV T1 V1 L1 T2 V2 L2 = R := ⟨_, rfl⟩
 have m1 := v4e (t := 0) (v := -1) (l := []) (t' := T1) (v' := V1) s1.data.2
 have m2 := v4e (t := T1) (v := V1) (l := L1) (t' := T2) (v' := V2) s2.data.2
 have a3 := vf1 s1 s2
 have a4 := vf1 s0 s1
 rw [hR1] at r1 m1 a4 f1 f3
 rw [hR2] at r2 m2 a3 f2 f3
 obtain ⟨ga, b1, b2', b3, b4⟩ := w52 R1 [] LG.nil m1 (by simp [allR]; omega)
 obtain ⟨sy, _, hsy⟩ := b4 0 (.inl ⟨rfl, rfl⟩)
 obtain ⟨gb, c1, c2, c3, c4⟩ := sync_any b2' hsy
 have hga : allR ga = R1 := by rw [b3]; simp [allR]
 have hgb : allR gb = R1 := by rw [c3, hga]
 rw [hga] at c4
 have k1' := vad (LG.nil.dp 1 0 (by simp)) s0 s1
 rw [hR1, b1] at k1'
 dsimp only at k1'
 rw [show ((0 : Int) != 0) = false from rfl, cf, c1] at k1'
 have k1'' : gq34 3000 [] 0 (-1) [] T1 V1 L1 = some (3000, logF 1 0 gb, 0) := k1'
 obtain ⟨v, e5, v0, v3⟩ := at_le more hm (by omega) ((R2.length : Int) + 1) (by omega) (by omega)
 obtain ⟨K, rfl⟩ : ∃ K : Nat, v = K := ⟨v.toNat, by omega⟩
 rw [e1, bs]
 dsimp only
 rw [e2, bs, w54, bs]
 dsimp only
 rw [k1'', bs, a3, bs]
 dsimp only
 rw [wr (by omega) (by omega), e5, bs]
 obtain ⟨gs, d1, d2, d3, d4⟩ := rec_loop (fun more1 c k_ none_ none_1 a a1 list torn l l1 =>
    gq7.l2 (fun c1 k_1 none_2 none_3 a2 a3 list1 torn1 keep l2 l3 =>
     (gq29 torn1 l3 (5 : Int) (0 : Int) ByteArray.empty ByteArray.empty ByteArray.empty keep).bind fun r6 =>
     (gq30 r6.1 r6.2.1).bind fun r7 =>
     (gq41 r7.1 r7.2.1).bind fun r8 =>
     cond (c1 != (0 : Int)) (some false) (
      cond (r7.2.2 != (0 : Int)) (some false) (
       cond (r8.2.2.2 != (0 : Int)) (some false) (
        (gq40 none_2 none_3 [] a2 a3 l2).bind fun r9 =>
        gq7.l3 (some false) (fun b => some b) fuel list1 k_1 (0 : Int) r8.1 r8.2.1 r9.1 r8.2.2.1)))) fuel more1 c k_ (0 : Int) none_ none_1 a a1 list torn ([] : List Int) l l1) (fun b1 => some b1) more 0 0 (-1) T1 V1 R2 m2 (by omega) K (by omega) L1 K fuel 0 gb (by omega) (u1c (by omega)) c2 (by rw [hgb]; omega)
 refine Eq.trans d4 ?_
 obtain ⟨sy2, p1, p2⟩ := d3 _ c4
 rw [List.drop_zero, hgb] at d2
 obtain ⟨keep, q1, q2, q3⟩ := vf8 (fun c1 k_1 none_2 none_3 a2 a3 list1 torn1 keep l2 l3 =>
     (gq29 torn1 l3 (5 : Int) (0 : Int) ByteArray.empty ByteArray.empty ByteArray.empty keep).bind fun r6 =>
     (gq30 r6.1 r6.2.1).bind fun r7 =>
     (gq41 r7.1 r7.2.1).bind fun r8 =>
     cond (c1 != (0 : Int)) (some false) (
      cond (r7.2.2 != (0 : Int)) (some false) (
       cond (r8.2.2.2 != (0 : Int)) (some false) (
        (gq40 none_2 none_3 [] a2 a3 l2).bind fun r9 =>
        gq7.l3 (some false) (fun b => some b) fuel list1 k_1 (0 : Int) r8.1 r8.2.1 r9.1 r8.2.2.1)))) more hm (by omega) 0 (K : Int) 0 (-1) T1 V1 3000 R2 L1 (logF 1 0 gs) 8 fuel 0 [] rfl (u1c (by decide)) rfl (fun x hx => by simp at hx)
 refine Eq.trans q3 ?_
 obtain ⟨x, y, N, F, n, w1, w2, w3, w4, w5⟩ := w33 d1 p2 keep q2 (by omega)
 obtain ⟨J, hJ, hJK⟩ : ∃ J, (allR gs).take n = R1 ++ R2.take J ∧ J ≤ K := by
  rw [d2, List.take_append, List.take_of_length_le (l := R1) (by omega), List.take_take]
  exact ⟨_, rfl, Nat.min_le_right _ _⟩
 rw [hJ] at w4
 have hpre : R1 ++ R2.take J = (R1 ++ R2).take (R1.length + J) := by
  rw [List.take_append, List.take_of_length_le (l := R1) (by omega), Nat.add_sub_cancel_left]
 obtain ⟨z, z1, z2⟩ := f3.2 (R1.length + J)
 rw [← hpre] at z1
 have k3' := load_i 3000 y (by have := w3.len; omega) ⟨w3.dk.fit, fun f hf => by have := w3.dk.data hf; omega⟩
 rw [w8 w4 z1 z2] at k3'
 have hz1 : ((0 : Int) != 0) = false := rfl
 rw [w1, bs]
 dsimp only
 rw [w2, bs]
 dsimp only
 rw [k3', bs]
 dsimp only
 rw [hz1, cf, cf, cf, a4, bs]
 have htold : told (R1 ++ R2.take J) = (z.1, z.2.1, z.2.2, 0) := by
  unfold told
  have hlen : (R1 ++ R2.take J).length ≤ 4096 := by rw [List.length_append, List.length_take]; omega
  rw [if_neg (by omega), if_neg (by
   rw [List.any_eq_true]
   rintro ⟨r, hr, h2⟩
   have h4 := of_decide_eq_true h2
   rcases List.mem_append.1 hr with hr | hr
   ·have := (m1 r hr).2; omega
   ·have := (m2 r (List.mem_of_mem_take hr)).2; omega), z1]
  dsimp only
  rw [if_pos z2]
 exact wc (some false) (fun b => some b) R2 R1 (by omega) (by omega) K (by omega) z J hJK htold (by have := z2.data.1; omega) (fun i => by have := (told_sok (R1 ++ R2.take i)).1; omega) J fuel 0 (by omega) (u1c (by omega))
theorem v9c : ∀ (x0 : El (.list (.int .u8))) (x1 : El (.list (.int .u8))), (x0.length * 1 ≤ 140737488351232 ∧ x0.length ≤ maxLen ∧ ∀ y ∈ x0, (Lit.int .u8 y).wf = true) → (x1.length * 1 ≤ 140737488351232 ∧ x1.length ≤ maxLen ∧ ∀ y ∈ x1, (Lit.int .u8 y).wf = true) → gq7 x0 x1 = some true := by
 intro x0 x1 h0 h1
 exact v6a x0 x1 (u92 h0.2.2) (u92 h1.2.2)
end Go.Proofs.YtaanadbpnmcbcaaGreatDoorA
