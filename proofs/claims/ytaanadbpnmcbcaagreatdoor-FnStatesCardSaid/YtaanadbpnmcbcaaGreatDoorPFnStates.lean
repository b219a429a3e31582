import Derived.Test.YtaanadbpnmcbcaaGreatDoorAWord
import Derived.Laws.BytesArg
import Derived.Lib.Strings
import Derived.Test.YtaanadbpnmcbcaaGreatDoorXkF2
import Derived.Lib.SlTrimSet
namespace Go.Proofs.YtaanadbpnmcbcaaGreatDoorA
open Go
set_option linter.unusedVariables false
set_option linter.unusedSimpArgs false
theorem bs {A B : Type} (a : A) (f : A → Option B) : Option.bind (some a) f = f a := id rfl
theorem ct {A : Type} (a b : A) : cond true a b = a := id rfl
theorem cf {A : Type} (a b : A) : cond false a b = b := id rfl
theorem grd_t {R : Type} (x : Option R) : grd true x = x := rfl
theorem grd_of {R : Type} {g : Bool} (h : g = true) (x : Option R) : grd g x = x := by rw [h]; rfl
theorem gIx_t {i : Int} {n : Nat} (h : 0 ≤ i) (h' : i < n) : gIx i n = true := by simp [gIx, h, h']
theorem gSl_t {l h : Int} {n : Nat} (h0 : 0 ≤ l) (h1 : l ≤ h) (h2 : h ≤ n) : gSl l h n = true := by simp [gSl, h0, h1, h2]
theorem gRm_t {n : Nat} (h : n ≤ 140737488355328) : gRm n = true := by simp [gRm, h]
theorem gCat_t {x y : ByteArray} (h : x.size + y.size ≤ 9223372036854775807) : gCat x y = true := by
 unfold gCat
 rw [decide_eq_true_iff]
 omega
theorem gSh_t {y : Int} (h : 0 ≤ y) : gSh y = true := by simp [gSh, h]
theorem gNz_t {y : Int} (h : y ≠ 0) : gNz y = true := by simp [gNz, h]
theorem gMk_t {l c : Int} {b : Nat} (h0 : 0 ≤ l) (h1 : l ≤ c) (h2 : c * b ≤ 140737488355328) : gMk l c b = true := by simp [gMk, h0, h1, h2]
theorem wr {x : Int} (h : -9223372036854775808 ≤ x) (h' : x ≤ 9223372036854775807) : IntKind.wrap .i64 x = x := by
 simp only [IntKind.wrap, IntKind.signed, IntKind.bits]
 simp
 omega
theorem wr8 {x : Int} (h : 0 ≤ x) (h' : x < 256) : IntKind.wrap .u8 x = x := by
 simp only [IntKind.wrap, IntKind.signed, IntKind.bits]
 simp
 omega
theorem wr8m (x : Int) : IntKind.wrap .u8 x = x % 256 := by
 simp only [IntKind.wrap, IntKind.signed, IntKind.bits]
 simp
theorem wr32m (x : Int) : IntKind.wrap .u32 x = x % 4294967296 := by
 simp only [IntKind.wrap, IntKind.signed, IntKind.bits]
 simp
theorem shl_eq {x : Int} {n : Int} (h0 : 0 ≤ n) (h1 : n ≤ 64) : iShl .i64 x n = IntKind.wrap .i64 (x * 2 ^ n.toNat) := by
 unfold iShl
 congr 3
 simp [IntKind.bits]
 omega
theorem shr_eq {x : Int} {n : Int} (h0 : 0 ≤ n) (h1 : n ≤ 64) : iShr .i64 x n = x / 2 ^ n.toNat := by
 unfold iShr
 rw [show min n.toNat (IntKind.bits .i64) = n.toNat by simp [IntKind.bits]; omega]
 rw [Int.fdiv_eq_ediv_of_nonneg]
 exact Int.pow_nonneg (by decide)
theorem shr8 (x : Int) : iShr .i64 x 8 = x / 256 := by rw [shr_eq (by decide) (by decide)]; rfl
theorem shr16 (x : Int) : iShr .i64 x 16 = x / 65536 := by rw [shr_eq (by decide) (by decide)]; rfl
theorem shr24 (x : Int) : iShr .i64 x 24 = x / 16777216 := by rw [shr_eq (by decide) (by decide)]; rfl
theorem shl8 (x : Int) : iShl .i64 x 8 = IntKind.wrap .i64 (x * 256) := by rw [shl_eq (by decide) (by decide)]; rfl
theorem tmod_pos {x y : Int} (h : 0 ≤ x) : Int.tmod x y = x % y := Int.tmod_eq_emod_of_nonneg h
theorem tdiv_pos {x y : Int} (h : 0 ≤ x) : Int.tdiv x y = x / y := Int.tdiv_eq_ediv_of_nonneg h
def IsBytes (l : List Int) : Prop := ∀ y ∈ l, 0 ≤ y ∧ y < 256
theorem IsBytes.nil : IsBytes [] := fun y h => by simp at h
theorem IsBytes.cons {a : Int} {l : List Int} (h0 : 0 ≤ a) (h1 : a < 256) (h : IsBytes l) : IsBytes (a :: l) := fun y hy => by
 rcases List.mem_cons.1 hy with rfl | hy
 ·exact ⟨h0, h1⟩
 ·exact h y hy
theorem IsBytes.append {l m : List Int} (h : IsBytes l) (h' : IsBytes m) : IsBytes (l ++ m) := fun y hy => (List.mem_append.1 hy).elim (h y) (h' y)
theorem IsBytes.left {l m : List Int} (h : IsBytes (l ++ m)) : IsBytes l := fun y hy => h y (List.mem_append.2 (.inl hy))
theorem IsBytes.right {l m : List Int} (h : IsBytes (l ++ m)) : IsBytes m := fun y hy => h y (List.mem_append.2 (.inr hy))
theorem IsBytes.drop {l : List Int} (h : IsBytes l) (n : Nat) : IsBytes (l.drop n) := fun y hy => h y (List.mem_of_mem_drop hy)
theorem IsBytes.take {l : List Int} (h : IsBytes l) (n : Nat) : IsBytes (l.take n) := fun y hy => h y (List.mem_of_mem_take hy)
theorem IsBytes.sub {l : List Int} (h : IsBytes l) (a b : Int) : IsBytes (sub l a b) := (h.take _).drop _
theorem IsBytes.get {l : List Int} (h : IsBytes l) {i : Nat} (hi : i < l.length) : 0 ≤ l[i] ∧ l[i] < 256 := h _ (List.getElem_mem _)
theorem IsBytes.bytesL (s : ByteArray) : IsBytes (bytesL s) := fun y hy => by
 obtain ⟨b, _, rfl⟩ := List.mem_map.1 hy
 have := b.toNat_lt
 omega
theorem isBytes_of_wf {l : List Int} (h : ∀ y ∈ l, (Lit.int .u8 y).wf = true) : IsBytes l := fun y hy => by
 have := h y hy
 simp [Lit.wf, IntKind.min, IntKind.max, IntKind.signed, IntKind.bits] at this
 omega
theorem ba_ext {a b : ByteArray} (h : a.data.toList = b.data.toList) : a = b := by
 obtain ⟨⟨l⟩⟩ := a
 obtain ⟨⟨m⟩⟩ := b
 simp at h
 subst h
 rfl
theorem strL_size (l : List Int) : (strL l).size = l.length := by
 show (List.toArray _).size = _
 simp
theorem bytesL_length (s : ByteArray) : (bytesL s).length = s.size := by simp [bytesL]
theorem strL_list (l : List Int) : (strL l).data.toList = l.map fun n => UInt8.ofNat n.toNat := by simp [strL]
theorem strL_bytesL (s : ByteArray) : strL (bytesL s) = s := by
 apply ba_ext
 rw [strL_list, bytesL, List.map_map]
 conv => rhs; rw [← List.map_id s.data.toList]
 apply List.map_congr_left
 intro b _
 simp
theorem bytesL_strL {l : List Int} (h : IsBytes l) : bytesL (strL l) = l := by
 unfold bytesL
 rw [strL_list, List.map_map]
 conv => rhs; rw [← List.map_id l]
 apply List.map_congr_left
 intro b hb
 have := h b hb
 simp
 omega
theorem strL_append (l m : List Int) : strL l ++ strL m = strL (l ++ m) := by
 apply ba_ext
 rw [ByteArray.data_append, Array.toList_append, strL_list, strL_list, strL_list, List.map_append]
theorem strL_nil : strL [] = ByteArray.empty := rfl
theorem cut_strL (l : List Int) (a b : Int) : cut (strL l) a b = strL (sub l a b) := by
 apply ba_ext
 unfold cut sub
 rw [Lib.extract_data, strL_list, strL_list, ← List.map_drop, ← List.map_take, List.drop_take]
theorem byteAt_strL {l : List Int} (h : IsBytes l) {i : Int} (h0 : 0 ≤ i) (h1 : i < l.length) : byteAt (strL l) i = l.getD i.toNat 0 := by
 have hi : i.toNat < l.length := by omega
 have hs : i.toNat < (strL l).size := by rw [strL_size]; exact hi
 unfold byteAt
 rw [dif_pos hs]
 have e : (strL l)[i.toNat]'hs = UInt8.ofNat (l[i.toNat]).toNat := by
  show (strL l).data[i.toNat]'_ = _
  simp [strL]
 rw [e, List.getD_eq_getElem?_getD, List.getElem?_eq_getElem hi]
 have := h l[i.toNat] (List.getElem_mem _)
 simp
 omega
theorem sEq_iff {a b : ByteArray} : sEq a b = true ↔ a = b := by
 unfold sEq
 rw [beq_iff_eq]
 constructor
 ·intro h
  apply ba_ext
  rwa [ByteArray.toList_eq, ByteArray.toList_eq] at h
 ·rintro rfl; rfl
theorem sEq_self (a : ByteArray) : sEq a a = true := sEq_iff.2 rfl
theorem strL_inj {l m : List Int} (hl : IsBytes l) (hm : IsBytes m) (h : strL l = strL m) : l = m := by rw [← bytesL_strL hl, ← bytesL_strL hm, h]
theorem sEq_strL {l m : List Int} (hl : IsBytes l) (hm : IsBytes m) : sEq (strL l) (strL m) = decide (l = m) := by
 rw [Bool.eq_iff_iff, sEq_iff, decide_eq_true_iff]
 exact ⟨strL_inj hl hm, fun h => by rw [h]⟩
theorem sEq_dec (a b : ByteArray) : sEq a b = decide (a = b) := by rw [Bool.eq_iff_iff, sEq_iff, decide_eq_true_iff]
theorem sub_take {α : Type} (l : List α) (n : Int) : sub l 0 n = l.take n.toNat := by simp [sub]
theorem sub_drop {α : Type} (l : List α) (n : Int) {m : Int} (h : m = l.length) : sub l n m = l.drop n.toNat := by subst h; simp [sub]
theorem rdE_at {k : Kd} {l : List (El k)} {i : Nat} (h : i < l.length) : rdE k l i = l[i] := by
 unfold rdE
 rw [List.getD_eq_getElem?_getD, List.getElem?_eq_getElem h]
 rfl
theorem take_snoc {α : Type} {l : List α} {i : Nat} (h : i < l.length) : l.take (i + 1) = l.take i ++ [l[i]] := by
 rw [List.take_add_one, List.getElem?_eq_getElem h]
 rfl
theorem drop_cons {α : Type} {l : List α} {i : Nat} (h : i < l.length) : l.drop i = l[i] :: l.drop (i + 1) := List.drop_eq_getElem_cons h
theorem decide_t {p : Prop} [Decidable p] (h : p) : decide p = true := decide_eq_true h
theorem decide_f {p : Prop} [Decidable p] (h : ¬ p) : decide p = false := decide_eq_false h
end Go.Proofs.YtaanadbpnmcbcaaGreatDoorA
namespace Go.Proofs.YtaanadbpnmcbcaaGreatDoorA
open Go
set_option linter.unusedVariables false
set_option linter.unusedSimpArgs false
theorem fuel_gt {n : Nat} (h : n < 18446744073709551616) : ∃ m, fuel = n + m + 1 := ⟨fuel - n - 1, by rw [fuel_eq]; omega⟩
theorem pow256_le {a b : Nat} (h : a ≤ b) : (256 : Int) ^ a ≤ 256 ^ b := by
 have h2 : ((256 ^ a : Nat) : Int) ≤ ((256 ^ b : Nat) : Int) := Int.ofNat_le.2 (Nat.pow_le_pow_right (n := 256) (by decide) h)
 rw [Int.natCast_pow, Int.natCast_pow] at h2
 exact h2
def beL (n : Int) : Nat → List Int
 | 0 => []
 | m + 1 => beL (n / 256) m ++ [n % 256]
theorem beL_length (n : Int) (m : Nat) : (beL n m).length = m := by
 induction m generalizing n with
 | zero => rfl
 | succ m ih => simp [beL, ih]
theorem beL_bytes (n : Int) (m : Nat) : IsBytes (beL n m) := by
 induction m generalizing n with
 | zero => exact IsBytes.nil
 | succ m ih => exact (ih _).append (IsBytes.cons (by omega) (by omega) IsBytes.nil)
def beN : Int → List Int → Int
 | a, [] => a
 | a, x :: xs => beN (a * 256 + x) xs
theorem beN_append (a : Int) (l m : List Int) : beN a (l ++ m) = beN (beN a l) m := by
 induction l generalizing a with
 | nil => rfl
 | cons x l ih => exact ih _
theorem beN_beL (n : Int) (m : Nat) (h0 : 0 ≤ n) (h : n < 256 ^ m) : beN 0 (beL n m) = n := by
 induction m generalizing n with
 | zero => simp [beL, beN] at *; omega
 | succ m ih =>
  rw [beL, beN_append, ih (n / 256) (by omega) (by rw [Int.pow_succ] at h; omega)]
  simp [beN]
  omega
theorem beN_bounds : ∀ (l : List Int) (a : Int), IsBytes l → 0 ≤ a → 0 ≤ beN a l ∧ beN a l < (a + 1) * 256 ^ l.length
 | [], a, _, ha => by simp [beN]; omega
 | x :: xs, a, h, ha => by
  have hx := h x List.mem_cons_self
  have ih := beN_bounds xs (a * 256 + x) (fun y hy => h y (List.mem_cons_of_mem _ hy)) (by omega)
  refine ⟨ih.1, Int.lt_of_lt_of_le ih.2 ?_⟩
  have e : (a + 1) * 256 ^ (x :: xs).length = ((a + 1) * 256) * 256 ^ xs.length := by
   rw [List.length_cons, Int.pow_succ, Int.mul_comm (256 ^ xs.length) 256, Int.mul_assoc]
  rw [e]
  exact Int.mul_le_mul_of_nonneg_right (by omega) (Int.pow_nonneg (by decide))
theorem number_l1 {R : Type} (kk : List Int → Option R) : ∀ (j n : Nat) (x : Int) (out : List Int), j ≤ out.length → j < 1000 → j < n → gq137.l1 kk n x ((j : Int) - 1) out = kk (beL x j ++ out.drop j)
 | 0, n + 1, x, out, _, _, _ => by
  simp only [gq137.l1, decide_f (show ¬ ((0 : Nat) : Int) - 1 ≥ 0 by omega), cond_false]
  simp [beL]
 | j + 1, n + 1, x, out, h1, h2, h3 => by
  have e : (((j + 1 : Nat) : Int) - 1) = j := by omega
  rw [e]
  simp only [gq137.l1]
  rw [decide_t (by omega : (j : Int) ≥ 0), cond_true, grd_of (gIx_t (by omega) (by omega)), grd_of (gSh_t (by omega)), wr (by omega) (by omega), shr8, wr8m]
  rw [number_l1 kk j n (x / 256) _ (by simp [setE]; omega) (by omega) (by omega)]
  congr 1
  have hj : j < out.length := by omega
  simp only [setE, Int.toNat_natCast, beL, List.append_assoc]
  congr 1
  rw [List.drop_set_of_lt_drop hj]
where
 List.drop_set_of_lt_drop {out : List Int} {j : Nat} {a : Int} (hj : j < out.length) : (out.set j a).drop j = [a] ++ out.drop (j + 1) := by
  rw [List.drop_eq_getElem_cons (by simpa using hj), List.getElem_set_self, List.drop_set_of_lt (by omega)]
  rfl
theorem number_eq (x : Int) (m : Nat) (h : m < 1000) : gq137 x m = some (strL (beL x m)) := by
 obtain ⟨q, hq⟩ := fuel_gt (n := m) (by omega)
 have hl : (List.replicate (Int.toNat (m : Int)) (0 : Int)).length = m := by simp
 unfold gq137 gq137.F
 rw [grd_of (gMk_t (by omega) (by omega) (by omega)), wr (by omega) (by omega), number_l1 _ m fuel x _ (by omega) h (by omega)]
 congr 2
 rw [List.drop_of_length_le (by omega), List.append_nil]
theorem numberOf_l1 {R : Type} (kk : Int → Option R) (l : List Int) (h : IsBytes l) (hl : l.length ≤ 7) : ∀ (j n : Nat) (a : Int), j ≤ l.length → j < n → 0 ≤ a → a < 256 ^ (l.length - j) →
  gq103.l1 kk n (strL l) a l.length ((l.length - j : Nat) : Int) = kk (beN a (l.drop (l.length - j)))
 | 0, n + 1, a, _, _, _, _ => by
  simp only [gq103.l1, Nat.sub_zero, decide_f (show ¬ (l.length : Int) < l.length by omega), cond_false, List.drop_length, beN]
 | j + 1, n + 1, a, h1, h2, h3, h4 => by
  have hi : l.length - (j + 1) < l.length := by omega
  have hb := h.get hi
  have h6 : a < 256 ^ 6 := Int.lt_of_lt_of_le h4 (by
   have : (256 : Int) ^ (l.length - (j + 1)) ≤ 256 ^ 6 := pow256_le (by omega)
   exact this)
  simp only [gq103.l1]
  rw [decide_t (by omega : ((l.length - (j + 1) : Nat) : Int) < l.length), cond_true, grd_of (gSh_t (by omega)), grd_of (gIx_t (by omega) (by rw [strL_size]; omega)), byteAt_strL h (by omega) (by omega), shl8]
  have e0 : l.getD (Int.toNat ((l.length - (j + 1) : Nat) : Int)) 0 = l[l.length - (j + 1)] := by
   rw [Int.toNat_natCast, List.getD_eq_getElem?_getD, List.getElem?_eq_getElem hi]; rfl
  rw [e0]
  have e1 : IntKind.wrap .i64 (a * 256) = a * 256 := wr (by omega) (by omega)
  rw [e1, wr (x := l[l.length - (j + 1)]) (by omega) (by omega), wr (x := a * 256 + l[l.length - (j + 1)]) (by omega) (by omega), wr (by omega) (by omega)]
  have e2 : (((l.length - (j + 1) : Nat) : Int) + 1) = ((l.length - j : Nat) : Int) := by omega
  rw [e2, numberOf_l1 kk l h hl j n _ (by omega) (by omega) (by omega) ?_]
  ·rw [drop_cons hi, show l.length - (j + 1) + 1 = l.length - j by omega]
   rfl
  ·have : (256 : Int) ^ (l.length - j) = 256 ^ (l.length - (j + 1)) * 256 := by
    rw [← Int.pow_succ]; congr 1; omega
   rw [this]
   omega
theorem numberOf_eq (l : List Int) (h : IsBytes l) (hl : l.length ≤ 7) : gq103 (strL l) = some (beN 0 l) := by
 unfold gq103 gq103.F
 rw [strL_size]
 have := numberOf_l1 (fun n_ => some n_) l h hl l.length fuel 0 (Nat.le_refl _) (by rw [fuel_eq]; omega) (by omega) (by simp)
 simpa using this
theorem within_eq (n lo hi : Int) : gq67 n lo hi = some (decide (lo ≤ n) && decide (n ≤ hi)) := by
 unfold gq67 gq67.F
 by_cases h : n ≥ lo
 ·simp [h]
 ·simp [h]
theorem l01In_eq (n lo hi : Int) : gq59 n lo hi = some (decide (lo ≤ n) && decide (n ≤ hi)) := by
 unfold gq59 gq59.F
 by_cases h : n ≥ lo
 ·simp [h]
 ·simp [h]
end Go.Proofs.YtaanadbpnmcbcaaGreatDoorA
namespace Go.Proofs.YtaanadbpnmcbcaaGreatDoorA
open Go
set_option linter.unusedVariables false
set_option linter.unusedSimpArgs false
theorem bits32 (f : BitVec 32 → BitVec 32 → BitVec 32) (x y : Int) : bits .u32 f x y = ((f (BitVec.ofInt 32 x) (BitVec.ofInt 32 y)).toNat : Int) := by
 show IntKind.wrap .u32 ((f (BitVec.ofInt 32 x) (BitVec.ofInt 32 y)).toNat : Int) = _
 rw [wr32m]
 have := (f (BitVec.ofInt 32 x) (BitVec.ofInt 32 y)).isLt
 omega
theorem and32 (x y : Int) : iAnd .u32 x y = ((BitVec.ofInt 32 x &&& BitVec.ofInt 32 y).toNat : Int) := bits32 _ x y
def Turns : List Int := [7, 18, 17, 19, 6, 11, 25, 2, 13, 22]
theorem t2 : (2 : Int) ∈ Turns := by decide
end Go.Proofs.YtaanadbpnmcbcaaGreatDoorA
namespace Go.Proofs.YtaanadbpnmcbcaaGreatDoorA
open Go
set_option linter.unusedVariables false
set_option linter.unusedSimpArgs false
theorem fuel_big {n : Nat} (h : n < 18446744073709551616) : n < fuel := by rw [fuel_eq]; exact h
theorem setE_eq {k : Kd} (xs : List (El k)) (i : Nat) (e : El k) : setE k xs i e = xs.set i e := rfl
end Go.Proofs.YtaanadbpnmcbcaaGreatDoorA
namespace Go.Proofs.YtaanadbpnmcbcaaGreatDoorA
open Go
set_option linter.unusedVariables false
set_option linter.unusedSimpArgs false
theorem take_ok (l : List Int) (m : Int) (h0 : 0 ≤ m) (h1 : m ≤ l.length) : gq191 (strL l) false m = some (strL (l.take m.toNat), strL (l.drop m.toNat), false) := by
 unfold gq191 gq191.F
 rw [cond_false, decide_f (by rw [strL_size]; omega), cond_false, strL_size, grd_of (gSl_t (by omega) (by omega) (by omega)), grd_of (gSl_t (by omega) (by omega) (by omega)), cut_strL, cut_strL, sub_take, sub_drop l m rfl]
theorem take_no (l : List Int) (m : Int) (h1 : (l.length : Int) < m) : gq191 (strL l) false m = some (ByteArray.empty, strL l, true) := by
 unfold gq191 gq191.F
 rw [cond_false, decide_t (by rw [strL_size]; omega), cond_true]
theorem take_bad (s : ByteArray) (m : Int) : gq191 s true m = some (ByteArray.empty, s, true) := rfl
theorem numberOf_nil : gq103 ByteArray.empty = some 0 := by
 have := numberOf_eq [] IsBytes.nil (by simp)
 exact this
theorem rnum_ok (l : List Int) (hb : IsBytes l) (m : Nat) (hm : m ≤ 7) (h1 : m ≤ l.length) : gq182 (strL l) false m = some (beN 0 (l.take m), strL (l.drop m), false) := by
 unfold gq182 gq182.F
 rw [take_ok l m (by omega) (by omega), Option.bind_some, Int.toNat_natCast, numberOf_eq _ (hb.take m) (by simp; omega)]
 rfl
theorem rnum_no (l : List Int) (m : Int) (h1 : (l.length : Int) < m) : gq182 (strL l) false m = some (0, strL l, true) := by
 unfold gq182 gq182.F
 rw [take_no l m h1, Option.bind_some, numberOf_nil]
 rfl
theorem rnum_bad (s : ByteArray) (m : Int) : gq182 s true m = some (0, s, true) := by
 unfold gq182 gq182.F
 rw [take_bad, Option.bind_some, numberOf_nil]
 rfl
theorem rcnt_bad (s : ByteArray) : gq183 s true = some (ByteArray.empty, s, true) := by
 unfold gq183 gq183.F
 rw [rnum_bad, Option.bind_some, take_bad]
 rfl
theorem rcnt_ok (a : Int) (l : List Int) (hb : IsBytes (a :: l)) (h : a ≤ l.length) : gq183 (strL (a :: l)) false = some (strL (l.take a.toNat), strL (l.drop a.toNat), false) := by
 have ha := hb a List.mem_cons_self
 unfold gq183 gq183.F
 have := rnum_ok (a :: l) hb 1 (by omega) (by simp)
 rw [show ((1 : Nat) : Int) = 1 by rfl] at this
 rw [this, Option.bind_some]
 have e : beN 0 (List.take 1 (a :: l)) = a := by simp [beN]
 simp only [e, List.drop_succ_cons, List.drop_zero]
 rw [take_ok l a (by omega) (by omega)]
 rfl
theorem rcnt_nil : gq183 (strL []) false = some (ByteArray.empty, strL [], true) := by
 unfold gq183 gq183.F
 rw [rnum_no [] 1 (by simp), Option.bind_some, take_bad]
 rfl
theorem rcnt_no (a : Int) (l : List Int) (hb : IsBytes (a :: l)) (h : (l.length : Int) < a) : gq183 (strL (a :: l)) false = some (ByteArray.empty, strL l, true) := by
 have ha := hb a List.mem_cons_self
 unfold gq183 gq183.F
 have := rnum_ok (a :: l) hb 1 (by omega) (by simp)
 rw [show ((1 : Nat) : Int) = 1 by rfl] at this
 rw [this, Option.bind_some]
 have e : beN 0 (List.take 1 (a :: l)) = a := by simp [beN]
 simp only [e, List.drop_succ_cons, List.drop_zero]
 rw [take_no l a h]
 rfl
end Go.Proofs.YtaanadbpnmcbcaaGreatDoorA
namespace Go.Proofs.YtaanadbpnmcbcaaGreatDoorA
open Go
set_option linter.unusedVariables false
set_option linter.unusedSimpArgs false
theorem xorN (k : IntKind) (hk : k = .u32 ∨ k = .i64) (a b : Nat) (ha : a < 4294967296) (hb : b < 4294967296) : iXor k (a : Int) (b : Int) = ((a ^^^ b : Nat) : Int) := by
 have hx : a ^^^ b < 4294967296 := Nat.xor_lt_two_pow (n := 32) ha hb
 rcases hk with rfl | rfl
 ·unfold iXor bits
  rw [BitVec.toNat_xor, BitVec.ofInt_natCast, BitVec.ofInt_natCast, BitVec.toNat_ofNat, BitVec.toNat_ofNat, Nat.mod_eq_of_lt (show a < 2 ^ IntKind.bits .u32 from ha), Nat.mod_eq_of_lt (show b < 2 ^ IntKind.bits .u32 from hb), wr32m]
  omega
 ·unfold iXor bits
  rw [BitVec.toNat_xor, BitVec.ofInt_natCast, BitVec.ofInt_natCast, BitVec.toNat_ofNat, BitVec.toNat_ofNat, Nat.mod_eq_of_lt (show a < 2 ^ IntKind.bits .i64 from by simp [IntKind.bits]; omega), Nat.mod_eq_of_lt (show b < 2 ^ IntKind.bits .i64 from by simp [IntKind.bits]; omega), wr (by omega) (by omega)]
def bitN (n : Nat) : Nat := if n % 2 = 1 then (n / 2) ^^^ 3988292384 else n / 2
theorem bitN_lt {n : Nat} (h : n < 4294967296) : bitN n < 4294967296 := by
 unfold bitN
 split
 ·exact Nat.xor_lt_two_pow (n := 32) (by omega) (by decide)
 ·omega
def bitsN : Nat → Nat → Nat
 | 0, n => n
 | m + 1, n => bitsN m (bitN n)
theorem bitsN_lt : ∀ {m n : Nat}, n < 4294967296 → bitsN m n < 4294967296
 | 0, _, h => h
 | m + 1, _, h => bitsN_lt (m := m) (bitN_lt h)
def crcF (n : Nat) : List Int → Nat
 | [] => n
 | b :: l => crcF (bitsN 8 (n ^^^ b.toNat)) l
theorem crcF_lt : ∀ {l : List Int} {n : Nat}, IsBytes l → n < 4294967296 → crcF n l < 4294967296
 | [], _, _, h => h
 | b :: l, n, hb, h => by
  have h0 := hb b (by simp)
  exact crcF_lt (l := l) (fun y hy => hb y (by simp [hy])) (bitsN_lt (Nat.xor_lt_two_pow (n := 32) h (by omega)))
def crcV (l : List Int) : Int := ((crcF 4294967295 l ^^^ 4294967295 : Nat) : Int)
theorem crcV_range {l : List Int} (h : IsBytes l) : 0 ≤ crcV l ∧ crcV l < 4294967296 := by
 have := Nat.xor_lt_two_pow (n := 32) (crcF_lt h (show 4294967295 < 4294967296 by decide)) (show (4294967295 : Nat) < 2 ^ 32 by decide)
 unfold crcV
 omega
theorem shr32_1 (n : Nat) : iShr .u32 (n : Int) 1 = ((n / 2 : Nat) : Int) := by
 unfold iShr
 rw [show min (1 : Int).toNat (IntKind.bits .u32) = 1 from rfl, Int.fdiv_eq_ediv_of_nonneg _ (by decide)]
 omega
theorem and32_1 (n : Nat) (h : n < 4294967296) : iAnd .u32 (n : Int) 1 = ((n % 2 : Nat) : Int) := by
 rw [and32, BitVec.toNat_and, BitVec.ofInt_natCast, BitVec.toNat_ofNat, Nat.mod_eq_of_lt (show n < 2 ^ 32 from h), show (BitVec.ofInt 32 1).toNat = 1 from rfl, Nat.and_one_is_mod]
theorem crcb_i {R : Type} (kk : ByteArray → Int → Int → Int → Option R) (s : ByteArray) (a b : Int) : ∀ (m fu j n : Nat), j + m = 8 → m < fu → n < 4294967296 → gq176.l1 kk fu s (n : Int) a b (j : Int) = kk s (bitsN m n : Nat) a b
 | 0, fu + 1, j, n, e, _, _ => by
  simp only [gq176.l1]
  rw [decide_f (by omega), cf]
  rfl
 | m + 1, fu + 1, j, n, e, hf, hn => by
  simp only [gq176.l1]
  rw [decide_t (by omega), ct, grd_of (gSh_t (by decide)), and32_1 n hn, shr32_1, wr (by omega) (by omega), show ((j : Int) + 1) = ((j + 1 : Nat) : Int) by omega]
  have hb := bitN_lt hn
  by_cases h : n % 2 = 1
  ·rw [show (((n % 2 : Nat) : Int) == 1) = true by rw [h]; rfl, ct, show (3988292384 : Int) = ((3988292384 : Nat) : Int) from rfl, xorN .u32 (.inl rfl) _ _ (by omega) (by decide)]
   have := crcb_i kk s a b m fu (j + 1) (bitN n) (by omega) (by omega) hb
   rw [show bitN n = (n / 2) ^^^ 3988292384 by rw [bitN, if_pos h]] at this
   rw [this, bitsN, bitN, if_pos h]
  ·rw [show (((n % 2 : Nat) : Int) == 1) = false by simp; omega, cf]
   have := crcb_i kk s a b m fu (j + 1) (bitN n) (by omega) (by omega) hb
   rw [show bitN n = n / 2 by rw [bitN, if_neg h]] at this
   rw [this, bitsN, bitN, if_neg h]
theorem crcl_i {R : Type} (kk : Int → Option R) (l : List Int) (hb : IsBytes l) (hl : l.length ≤ 1000000000000) : ∀ (m fu j n : Nat), j + m = l.length → m < fu → n < 4294967296 → gq176.l2 kk fu (strL l) (n : Int) (l.length : Int) (j : Int) = kk (crcF n (l.drop j) : Nat)
 | 0, fu + 1, j, n, e, _, _ => by
  simp only [gq176.l2]
  rw [decide_f (by omega), cf, List.drop_of_length_le (by omega)]
  rfl
 | m + 1, fu + 1, j, n, e, hf, hn => by
  have hj : j < l.length := by omega
  have hbj := hb.get hj
  simp only [gq176.l2]
  rw [decide_t (by omega), ct, grd_of (gIx_t (by omega) (by rw [strL_size]; omega)), byteAt_strL hb (by omega) (by omega), Int.toNat_natCast, List.getD_eq_getElem?_getD, List.getElem?_eq_getElem hj, Option.getD_some, wr32m, Int.emod_eq_of_lt hbj.1 (by omega),
   show l[j] = ((l[j].toNat : Nat) : Int) by omega, xorN .u32 (.inl rfl) _ _ hn (by omega), show (0 : Int) = ((0 : Nat) : Int) from rfl, crcb_i _ _ _ _ 8 fuel 0 _ (by omega) (fuel_big (by decide)) (Nat.xor_lt_two_pow (n := 32) hn (by omega)), wr (by omega) (by omega), show ((j : Int) + 1) = ((j + 1 : Nat) : Int) by omega]
  rw [crcl_i kk l hb hl m fu (j + 1) _ (by omega) (by omega) (bitsN_lt (Nat.xor_lt_two_pow (n := 32) hn (by omega))), drop_cons hj]
  rfl
theorem check_i (l : List Int) (hb : IsBytes l) (hl : l.length ≤ 1000000000000) : gq176 (strL l) = some (crcV l) := by
 unfold gq176 gq176.F
 have hc := crcF_lt hb (show 4294967295 < 4294967296 by decide)
 rw [strL_size, show (4294967295 : Int) = ((4294967295 : Nat) : Int) from rfl, show (0 : Int) = ((0 : Nat) : Int) from rfl, crcl_i _ l hb hl l.length fuel 0 4294967295 (by omega) (fuel_big (by omega)) (by decide), List.drop_zero,
  show IntKind.max .u32 = ((4294967295 : Nat) : Int) from rfl, xorN .u32 (.inl rfl) _ _ (by decide) hc, Nat.xor_comm]
 have := crcV_range hb
 unfold crcV at this ⊢
 rw [wr (by omega) (by omega)]
def frL (d : List Int) : List Int := (beL d.length 2 ++ beL (crcV (beL d.length 2 ++ d)) 4) ++ d
theorem frL_bytes {d : List Int} (h : IsBytes d) : IsBytes (frL d) := ((beL_bytes _ _).append (beL_bytes _ _)).append h
theorem frL_len (d : List Int) : (frL d).length = 6 + d.length := by simp only [frL, List.length_append, beL_length]
theorem frame_i (d : List Int) (h : IsBytes d) (hl : d.length < 65536) : gq155 (strL d) = some (strL (frL d)) := by
 unfold gq155 gq155.F
 rw [strL_size, show (2 : Int) = ((2 : Nat) : Int) from rfl, number_eq _ 2 (by decide), bs, grd_of (gCat_t (by rw [strL_size, strL_size, beL_length]; omega)), strL_append, check_i _ ((beL_bytes _ _).append h) (by rw [List.length_append, beL_length]; omega), bs,
  show (4 : Int) = ((4 : Nat) : Int) from rfl, number_eq _ 4 (by decide), bs, grd_of (gCat_t (by rw [strL_size, strL_size, beL_length, beL_length]; omega)), strL_append, grd_of (gCat_t (by rw [strL_size, strL_size, List.length_append, beL_length, beL_length]; omega)), strL_append]
 rfl
def frAt (l : List Int) : List Int × Int :=
 if l.length < 6 then ([], 16)
 else if ¬ (1 ≤ beN 0 (l.take 2) ∧ beN 0 (l.take 2) ≤ 200) then ([], 8)
 else if l.length < 6 + (beN 0 (l.take 2)).toNat then ([], 16)
 else if frL ((l.drop 6).take (beN 0 (l.take 2)).toNat) = l.take (6 + (beN 0 (l.take 2)).toNat) then ((l.drop 6).take (beN 0 (l.take 2)).toNat, 0)
 else ([], 8)
theorem sub_drop_take (l : List Int) (a n : Nat) : sub l (a : Int) ((a + n : Nat) : Int) = (l.drop a).take n := by
 unfold sub
 rw [Int.toNat_natCast, Int.toNat_natCast, List.drop_take, Nat.add_sub_cancel_left]
theorem frameAt_i (l : List Int) (h : IsBytes l) (hl : l.length ≤ 1000000000000) : gq148 (strL l) = some (strL (frAt l).1, (frAt l).2) := by
 unfold gq148 gq148.F frAt
 rw [strL_size]
 by_cases h6 : l.length < 6
 ·rw [decide_t (by omega), ct, if_pos h6]
  rfl
 ·rw [decide_f (by omega), cf, if_neg h6, grd_of (gSl_t (by decide) (by decide) (by omega)), cut_strL, show sub l 0 2 = l.take 2 by simp [sub], numberOf_eq _ (h.take 2) (by simp; omega), bs, within_eq, bs]
  obtain ⟨n, hn⟩ : ∃ n, beN 0 (l.take 2) = n := ⟨_, rfl⟩
  rw [hn]
  by_cases hr : 1 ≤ n ∧ n ≤ 200
  ·rw [decide_t hr.1, decide_t hr.2, Bool.and_self, Bool.not_true, cf, if_neg (fun h => h hr), wr (by omega) (by omega)]
   obtain ⟨q, rfl⟩ : ∃ q : Nat, n = q := ⟨n.toNat, by omega⟩
   rw [Int.toNat_natCast, show ((6 : Int) + (q : Int)) = ((6 + q : Nat) : Int) by omega]
   by_cases hs : l.length < 6 + q
   ·rw [decide_t (by omega), ct, if_pos hs]
    rfl
   ·rw [decide_f (by omega), cf, if_neg hs, grd_of (gSl_t (by decide) (by omega) (by omega)), cut_strL, show sub l 6 ((6 + q : Nat) : Int) = (l.drop 6).take q from sub_drop_take l 6 q, frame_i _ ((h.drop 6).take q) (by simp; omega), bs,
     grd_of (gSl_t (by decide) (by omega) (by omega)), cut_strL, show sub l 0 ((6 + q : Nat) : Int) = l.take (6 + q) by rw [sub_take, Int.toNat_natCast], sEq_strL (frL_bytes ((h.drop 6).take q)) (h.take _)]
    by_cases hf : frL ((l.drop 6).take q) = l.take (6 + q)
    ·rw [decide_t hf, Bool.not_true, cf, if_pos hf, grd_of (gSl_t (by decide) (by omega) (by omega))]
    ·rw [decide_f hf, Bool.not_false, ct, if_neg hf]
     rfl
  ·rw [show (decide (1 ≤ n) && decide (n ≤ 200)) = false by rw [← Bool.not_eq_true, Bool.and_eq_true, decide_eq_true_iff, decide_eq_true_iff]; exact hr, Bool.not_false, ct, if_pos hr]
   rfl
theorem frAt_code (l : List Int) : (frAt l).2 = 0 ∨ (frAt l).2 = 8 ∨ (frAt l).2 = 16 := by
 unfold frAt
 repeat' split
 all_goals simp
theorem frAt_ok {l : List Int} (hc : (frAt l).2 = 0) : 1 ≤ (frAt l).1.length ∧ (frAt l).1.length ≤ 200 ∧ 6 + (frAt l).1.length ≤ l.length := by
 unfold frAt at hc ⊢
 split at hc
 ·simp at hc
 ·rename_i h1
  rw [if_neg h1]
  split at hc
  ·simp at hc
  ·rename_i h2
   rw [if_neg h2]
   split at hc
   ·simp at hc
   ·rename_i h3
    rw [if_neg h3]
    split at hc
    ·rename_i h4
     rw [if_pos h4]
     have h2 := Classical.not_not.1 h2
     rw [List.length_take, List.length_drop]
     omega
    ·simp at hc
def frs : Nat → List Int → List ByteArray × Nat × Int
 | 0, _ => ([], 0, 0)
 | m + 1, l => if l.length = 0 then ([], 0, 0)
  else if (frAt l).2 = 0 then (strL (frAt l).1 :: (frs m (l.drop (6 + (frAt l).1.length))).1, 6 + (frAt l).1.length + (frs m (l.drop (6 + (frAt l).1.length))).2.1, (frs m (l.drop (6 + (frAt l).1.length))).2.2)
  else ([], 0, (frAt l).2)
theorem frs_code : ∀ (m : Nat) (l : List Int), (frs m l).2.2 = 0 ∨ (frs m l).2.2 = 8 ∨ (frs m l).2.2 = 16
 | 0, l => .inl rfl
 | m + 1, l => by
  unfold frs
  split
  ·exact .inl rfl
  ·split
   ·exact frs_code m _
   ·exact frAt_code l
theorem frs_size : ∀ (m : Nat) (l : List Int), (frs m l).1.length ≤ m ∧ (∀ s ∈ (frs m l).1, s.size ≤ 200) ∧ (frs m l).2.1 ≤ l.length
 | 0, l => ⟨Nat.le_refl _, (fun s h => by cases h), Nat.zero_le _⟩
 | m + 1, l => by
  unfold frs
  split
  ·exact ⟨by simp, (fun s h => by cases h), Nat.zero_le _⟩
  ·split
   ·rename_i hc
    have h0 := frAt_ok hc
    obtain ⟨h1, h2, h3⟩ := frs_size m (l.drop (6 + (frAt l).1.length))
    refine ⟨by simp; omega, fun s hs => ?_, ?_⟩
    ·rcases List.mem_cons.1 hs with rfl | hs
     ·rw [strL_size]; omega
     ·exact h2 s hs
    ·rw [List.length_drop] at h3
     show 6 + (frAt l).1.length + _ ≤ _
     omega
   ·exact ⟨by simp, (fun s h => by cases h), Nat.zero_le _⟩
def frOut {R : Type} (kke : Int → List ByteArray → Option R) (kkr : Int → Int → List ByteArray → Option R) (p : Nat) (out : List ByteArray) (r : List ByteArray × Nat × Int) : Option R :=
 if r.2.2 = 0 then kke ((p + r.2.1 : Nat) : Int) (out ++ r.1) else kkr ((p + r.2.1 : Nat) : Int) r.2.2 (out ++ r.1)
theorem frOut_step {R : Type} (kke : Int → List ByteArray → Option R) (kkr : Int → Int → List ByteArray → Option R) (p : Nat) (out : List ByteArray) (m : Nat) (l : List Int) (hl : l.length ≠ 0) (hc : (frAt l).2 = 0) :
  frOut kke kkr p out (frs (m + 1) l) = frOut kke kkr (p + (6 + (frAt l).1.length)) (out ++ [strL (frAt l).1]) (frs m (l.drop (6 + (frAt l).1.length))) := by
 unfold frOut
 rw [show frs (m + 1) l = (strL (frAt l).1 :: (frs m (l.drop (6 + (frAt l).1.length))).1, 6 + (frAt l).1.length + (frs m (l.drop (6 + (frAt l).1.length))).2.1, (frs m (l.drop (6 + (frAt l).1.length))).2.2) by rw [frs, if_neg hl, if_pos hc]]
 dsimp only
 rw [List.append_assoc, List.singleton_append, Nat.add_assoc p]
theorem frOut_stop {R : Type} (kke : Int → List ByteArray → Option R) (kkr : Int → Int → List ByteArray → Option R) (p : Nat) (out : List ByteArray) (m : Nat) (l : List Int) (hl : l.length ≠ 0) (hc : ¬ (frAt l).2 = 0) :
  frOut kke kkr p out (frs (m + 1) l) = kkr (p : Int) (frAt l).2 out := by
 unfold frOut
 rw [show frs (m + 1) l = ([], 0, (frAt l).2) by rw [frs, if_neg hl, if_neg hc]]
 dsimp only
 rw [if_neg hc, List.append_nil, Nat.add_zero]
theorem frOut_end {R : Type} (kke : Int → List ByteArray → Option R) (kkr : Int → Int → List ByteArray → Option R) (p : Nat) (out : List ByteArray) (m : Nat) (l : List Int) (hl : l.length = 0) :
  frOut kke kkr p out (frs m l) = kke (p : Int) out := by
 unfold frOut
 have : frs m l = ([], 0, 0) := by
  cases m with
  | zero => rfl
  | succ m => rw [frs, if_pos hl]
 rw [this]
 simp
theorem cut_drop (l : List Int) (p : Nat) (hp : p ≤ l.length) : cut (strL l) (p : Int) (l.length : Int) = strL (l.drop p) := by
 rw [cut_strL]
 unfold sub
 rw [Int.toNat_natCast, Int.toNat_natCast, List.take_length]
theorem frs_i {R : Type} (kke : Int → List ByteArray → Option R) (kkr : Int → Int → List ByteArray → Option R) (l : List Int) (hb : IsBytes l) (hl : l.length ≤ 1000000000) : ∀ (m fu p : Nat) (out : List ByteArray), l.length - p ≤ m → m < fu → p ≤ l.length → out.length + m ≤ 1000000000 →
  gq102.l1 kke kkr fu (strL l) (p : Int) out = frOut kke kkr p out (frs m (l.drop p))
 | m, 0, p, out, _, h, _, _ => by omega
 | 0, fu + 1, p, out, h1, h2, h3, h4 => by
  simp only [gq102.l1]
  rw [strL_size, decide_f (by omega), cf, frOut_end _ _ _ _ _ _ (by simp; omega)]
 | m + 1, fu + 1, p, out, h1, h2, h3, h4 => by
  simp only [gq102.l1]
  rw [strL_size]
  by_cases hp : p < l.length
  ·have hne : (l.drop p).length ≠ 0 := by simp; omega
   rw [decide_t (by omega), ct, grd_of (gSl_t (by omega) (by omega) (by omega)), cut_drop l p h3, frameAt_i _ (hb.drop p) (by simp; omega), bs]
   dsimp only
   by_cases hc : (frAt (l.drop p)).2 = 0
   ·have h5 := frAt_ok hc
    rw [List.length_drop] at h5
    rw [show ((frAt (l.drop p)).2 != 0) = false by rw [hc]; rfl, cf, grd_of (gRm_t (by simp; omega)), strL_size, wr (x := (p : Int) + 6) (by omega) (by omega), wr (by omega) (by omega),
     show ((p : Int) + 6 + ((frAt (l.drop p)).1.length : Int)) = ((p + (6 + (frAt (l.drop p)).1.length) : Nat) : Int) by omega, frs_i kke kkr l hb hl m fu _ _ (by omega) (by omega) (by omega) (by simp; omega), frOut_step _ _ _ _ _ _ hne hc, List.drop_drop]
   ·rw [show ((frAt (l.drop p)).2 != 0) = true by simp [hc], ct, frOut_stop _ _ _ _ _ _ hne hc]
  ·rw [decide_f (by omega), cf, frOut_end _ _ _ _ _ _ (by simp; omega)]
def frT (l : List Int) : List ByteArray × Int × Int := ((frs l.length l).1, ((frs l.length l).2.1 : Int), (frs l.length l).2.2)
theorem frames_i (l : List Int) (hb : IsBytes l) (hl : l.length ≤ 1000000000) : gq102 (strL l) = some (frT l) := by
 unfold gq102 gq102.F
 have := frs_i (fun used out => some (out, used, (0 : Int))) (fun i i1 l => some (l, i, i1)) l hb hl l.length fuel 0 [] (by omega) (fuel_big (by omega)) (by omega) (by simp; omega)
 rw [Int.natCast_zero, List.drop_zero] at this
 rw [this, frOut, frT, Nat.zero_add, List.nil_append]
 split
 ·rename_i h; rw [h]
 ·rfl
end Go.Proofs.YtaanadbpnmcbcaaGreatDoorA
namespace Go.Proofs.YtaanadbpnmcbcaaGreatDoorA
open Go
set_option linter.unusedVariables false
set_option linter.unusedSimpArgs false
theorem find_loop {k : Kd} {R : Type} {L : Nat → List (El k) → Int → Int → Option R} {f : El k → Option (Bool × Unit)} {kke : Option R} {kkr : Int → Option R}
  (hL : ∀ n s i j, L (n + 1) s i j = cond (decide (j < i)) (grd (gIx j (List.length s)) ((f (rdE k s (Int.toNat j))).bind fun r => cond r.1 (kkr j) (L n s i (IntKind.wrap .i64 (j + 1))))) kke)
  {q : El k → Bool} {l : List (El k)} (hl : l.length ≤ 9223372036854775806) (hf : ∀ x ∈ l, f x = some (q x, ())) :
  ∀ (m n j : Nat), j + m = l.length → m < n → L n l l.length j = match (l.drop j).findIdx? q with | none => kke | some d => kkr ((j + d : Nat) : Int)
 | 0, n + 1, j, e, _ => by
  rw [hL, decide_f (by omega : ¬ (j : Int) < l.length), cond_false, List.drop_of_length_le (by omega)]
  rfl
 | m + 1, n + 1, j, e, h => by
  have hj : j < l.length := by omega
  rw [hL, decide_t (by omega : (j : Int) < l.length), cond_true, grd_of (gIx_t (by omega) (by omega)), Int.toNat_natCast, rdE_at hj, hf _ (List.getElem_mem hj), Option.bind_some, drop_cons hj, List.findIdx?_cons]
  cases hq : q l[j] with
  | true => simp
  | false =>
   simp only [cond_false, Bool.false_eq_true, if_false]
   rw [wr (by omega) (by omega), show ((j : Int) + 1) = ((j + 1 : Nat) : Int) by omega, find_loop hL hl hf m n (j + 1) (by omega) (by omega)]
   cases (l.drop (j + 1)).findIdx? q with
   | none => rfl
   | some d => simp only [Option.map_some]; congr 1; omega
theorem findIdx_any {α : Type} (l : List α) (q : α → Bool) : (l.findIdx? q).isSome = l.any q := by
 induction l with
 | nil => rfl
 | cons x l ih =>
  rw [List.findIdx?_cons, List.any_cons]
  cases q x with
  | true => simp
  | false => simp [ih]
end Go.Proofs.YtaanadbpnmcbcaaGreatDoorA
namespace Go.Proofs.YtaanadbpnmcbcaaGreatDoorA
open Go
set_option linter.unusedVariables false
set_option linter.unusedSimpArgs false
def inSeven (n : Int) : Bool := decide (0 ≤ n) && decide (n ≤ 6)
def rising : List Int → Bool
 | [] => true
 | x :: xs => (match xs with | [] => true | y :: _ => decide (x < y)) && rising xs
def memOK (l : List Int) : Bool := decide (0 < l.length) && l.all inSeven && rising l
theorem not_any_not {α : Type} (q : α → Bool) (l : List α) : (!(l.any fun x => !q x)) = l.all q := by
 induction l with
 | nil => rfl
 | cons x l ih => rw [List.any_cons, List.all_cons, ← ih]; cases q x <;> simp
theorem areNumbers_eq (l : List Int) (hl : l.length ≤ 9223372036854775806) : gq192 l = some (l.all inSeven) := by
 have h1 : gq192 l = some (!(l.any fun x => !inSeven x)) := by
  unfold gq192 gq192.F gq198 gq198.F gq204 gq204.F
  have hq : ∀ x ∈ l, (fun x : Int => (fun t : Int × Unit => (gq199 t.1).bind fun a => some (a, ())) (x, ())) x = some (!inSeven x, ()) := by
   intro x _
   simp only [gq199, gq199.F, within_eq, Option.bind_some, inSeven]
  have := find_loop (k := .int .i64) (L := gq204.l1 (fun t => (gq199 t.1).bind fun a => some (a, ())) (some (-1 : Int)) (fun i => some i)) (fun n s i j => rfl) hl hq l.length fuel 0 (by omega) (by rw [fuel_eq]; omega)
  rw [Int.natCast_zero] at this
  rw [this, List.drop_zero, ← findIdx_any]
  cases l.findIdx? fun x => !inSeven x with
  | none => rfl
  | some d => simp
 rw [h1, not_any_not]
theorem rising_l1 (l : List Int) (hl : l.length ≤ 9223372036854775806) : ∀ (m n j : Nat), j + 1 + m = l.length → m < n → gq193.l1 (some true) (fun b => some b) n l ((j + 1 : Nat) : Int) = some (rising (l.drop j))
 | 0, n + 1, j, e, _ => by
  have hj : j < l.length := by omega
  simp only [gq193.l1, decide_f (show ¬ ((j + 1 : Nat) : Int) < l.length by omega), cond_false]
  rw [drop_cons hj, List.drop_of_length_le (by omega)]
  rfl
 | m + 1, n + 1, j, e, h => by
  have hj : j < l.length := by omega
  have hj1 : j + 1 < l.length := by omega
  simp only [gq193.l1, decide_t (show ((j + 1 : Nat) : Int) < l.length by omega), cond_true]
  rw [wr (x := ((j + 1 : Nat) : Int) - 1) (by omega) (by omega), wr (x := ((j + 1 : Nat) : Int) + 1) (by omega) (by omega)]
  rw [grd_of (gIx_t (by omega) (by omega)), grd_of (gIx_t (by omega) (by omega)), show (((j + 1 : Nat) : Int) - 1).toNat = j by omega, Int.toNat_natCast, rdE_at (k := .int .i64) hj, rdE_at (k := .int .i64) hj1]
  rw [show (((j + 1 : Nat) : Int) + 1) = ((j + 1 + 1 : Nat) : Int) by omega, rising_l1 l hl m n (j + 1) (by omega) (by omega)]
  rw [drop_cons hj, drop_cons hj1]
  simp only [rising]
  by_cases hlt : l[j] < l[j + 1]
  ·rw [decide_f (by omega : ¬ l[j] ≥ l[j + 1]), cond_false, decide_t hlt, Bool.true_and]
  ·rw [decide_t (by omega : l[j] ≥ l[j + 1]), cond_true, decide_f hlt, Bool.false_and]
theorem areRising_eq (l : List Int) (hl : l.length ≤ 9223372036854775806) : gq193 l = some (rising l) := by
 unfold gq193 gq193.F
 rcases Nat.eq_zero_or_pos l.length with h | h
 ·rw [List.length_eq_zero_iff.1 h]
  obtain ⟨q, hq⟩ := fuel_gt (n := 0) (by omega)
  rw [hq]
  rfl
 ·have := rising_l1 l hl (l.length - 1) fuel 0 (by omega) (by rw [fuel_eq]; omega)
  rw [List.drop_zero] at this
  exact this
theorem membersOK_eq (l : List Int) (hl : l.length ≤ 9223372036854775806) : gq185 l = some (memOK l) := by
 unfold gq185 gq185.F memOK
 rw [areNumbers_eq l hl, areRising_eq l hl]
 by_cases h : 0 < l.length
 ·rw [decide_t (by omega : (l.length : Int) > 0), cond_true, Option.bind_some, decide_t h, Bool.true_and]
  cases l.all inSeven <;> rfl
 ·rw [decide_f (by omega : ¬ (l.length : Int) > 0), cond_false, decide_f h, Bool.false_and, Bool.false_and]
theorem readMembers_l1 (l : List Int) (hb : IsBytes l) (hl : l.length ≤ 1000000000000) {R : Type} (kk : List Int → Option R) : ∀ (m n j : Nat), j + m = l.length → m < n → gq166.l1 kk n (strL l) l.length j (l.take j) = kk l
 | 0, n + 1, j, e, _ => by
  simp only [gq166.l1, decide_f (show ¬ (j : Int) < l.length by omega), cond_false]
  rw [List.take_of_length_le (by omega)]
 | m + 1, n + 1, j, e, h => by
  have hj : j < l.length := by omega
  have hg := hb.get hj
  simp only [gq166.l1, decide_t (show (j : Int) < l.length by omega), cond_true]
  have e0 : l.getD (Int.toNat (j : Int)) 0 = l[j] := by
   rw [Int.toNat_natCast, List.getD_eq_getElem?_getD, List.getElem?_eq_getElem hj]; rfl
  rw [grd_of (gIx_t (by omega) (by rw [strL_size]; omega)), grd_of (gRm_t (by simp; omega)), byteAt_strL hb (by omega) (by omega), e0, wr (x := l[j]) (by omega) (by omega), wr (by omega) (by omega), ← take_snoc hj, show ((j : Int) + 1) = ((j + 1 : Nat) : Int) by omega]
  exact readMembers_l1 l hb hl kk m n (j + 1) (by omega) (by omega)
theorem readMembers_eq (l : List Int) (hb : IsBytes l) (hl : l.length ≤ 1000000000000) : gq166 (strL l) = some (l, memOK l) := by
 unfold gq166 gq166.F
 rw [strL_size]
 have := readMembers_l1 l hb hl (fun out => (gq185 out).bind fun r => some (out, r)) l.length fuel 0 (by omega) (by rw [fuel_eq]; omega)
 rw [List.take_zero, Int.natCast_zero] at this
 rw [this, membersOK_eq l (by omega)]
 rfl
def memS (l : List Int) : Bool := l.all inSeven && rising l
theorem memS_step (l : List Int) (j : Nat) (h1 : j + 1 < l.length) : memS (l.drop j) = (inSeven (l[j]'(by omega)) && decide (l[j]'(by omega) < l[j + 1]) && memS (l.drop (j + 1))) := by
 rw [drop_cons (show j < l.length by omega), drop_cons h1]
 simp only [memS, List.all_cons, rising]
 cases inSeven l[j] <;> cases inSeven l[j + 1] <;> cases decide (l[j] < l[j + 1]) <;> simp
theorem l02Members_l1 (l : List Int) (hb : IsBytes l) (hl : l.length ≤ 1000000000000) {R : Type} (ke : List Int → Option R) (kr : Bool → List Int → Option R) : ∀ (m n j : Nat), j + m = l.length → m < n → (j = 0 ∨ (0 < j ∧ ∃ h : j - 1 < l.length, inSeven l[j - 1] = true)) →
  gq159.l1 ke kr n (strL l) j (l.take j) = if memS (l.drop (j - 1)) = true then ke l else kr false []
 | 0, n + 1, j, e, _, h0 => by
  simp only [gq159.l1]
  rw [decide_f (show ¬ (j : Int) < (strL l).size by rw [strL_size]; omega), cond_false, List.take_of_length_le (by omega)]
  rw [if_pos]
  rcases h0 with rfl | ⟨hp, h, h1⟩
  ·rw [show l = [] from List.length_eq_zero_iff.1 (by omega)]; rfl
  ·rw [drop_cons h, show j - 1 + 1 = j by omega, List.drop_of_length_le (by omega)]
   simp [memS, rising, h1]
 | m + 1, n + 1, j, e, hn, h0 => by
  have hj : j < l.length := by omega
  have hg := hb.get hj
  have e0 : byteAt (strL l) (j : Int) = l[j] := by
   rw [byteAt_strL hb (by omega) (by omega), Int.toNat_natCast, List.getD_eq_getElem?_getD, List.getElem?_eq_getElem hj]; rfl
  simp only [gq159.l1]
  rw [decide_t (show (j : Int) < (strL l).size by rw [strL_size]; omega), cond_true, e0, wr (x := l[j]) (by omega) (by omega), l01In_eq, Option.bind_some]
  rw [grd_of (gIx_t (by omega) (by rw [strL_size]; omega)), show (decide ((0 : Int) ≤ l[j]) && decide (l[j] ≤ 6)) = inSeven l[j] from rfl]
  have hrec : gq159.l1 ke kr n (strL l) ((j + 1 : Nat) : Int) (l.take (j + 1)) = if inSeven l[j] = true then (if memS (l.drop j) = true then ke l else kr false []) else gq159.l1 ke kr n (strL l) ((j + 1 : Nat) : Int) (l.take (j + 1)) := by
   by_cases hs : inSeven l[j] = true
   ·rw [if_pos hs, l02Members_l1 l hb hl ke kr m n (j + 1) (by omega) (by omega) (.inr ⟨by omega, by omega, by simpa using hs⟩)]
    rfl
   ·rw [if_neg hs]
  rw [wr (x := (j : Int) + 1) (by omega) (by omega), wr (x := (j : Int) - 1) (by omega) (by omega), grd_of (gRm_t (by simp; omega)), ← take_snoc hj, show ((j : Int) + 1) = ((j + 1 : Nat) : Int) by omega]
  cases hs : inSeven l[j] with
  | false =>
   simp only [Bool.not_false, cond_true]
   rw [if_neg]
   have : memS (l.drop j) = false := by
    rw [drop_cons hj]; simp only [memS, List.all_cons, hs, Bool.false_and]
   rcases h0 with rfl | ⟨hp, h, h1⟩
   ·rw [this]; simp
   ·rw [memS_step l (j - 1) (by omega)]; simp only [show j - 1 + 1 = j by omega, this]; simp
  | true =>
   rw [hrec, if_pos hs]
   simp only [Bool.not_true, cond_false]
   rcases h0 with rfl | ⟨hp, h, h1⟩
   ·rw [decide_f (by omega : ¬ ((0 : Nat) : Int) > 0), cond_false, grd_of (gIx_t (by omega) (by rw [strL_size]; omega))]
   ·have ep : byteAt (strL l) ((j : Int) - 1) = l[j - 1] := by
     rw [byteAt_strL hb (by omega) (by omega), show ((j : Int) - 1).toNat = j - 1 by omega, List.getD_eq_getElem?_getD, List.getElem?_eq_getElem h]; rfl
    rw [decide_t (by omega : (j : Int) > 0), cond_true, grd_of (gIx_t (by omega) (by rw [strL_size]; omega)), grd_of (gIx_t (by omega) (by rw [strL_size]; omega)), ep]
    have := memS_step l (j - 1) (by omega)
    simp only [show j - 1 + 1 = j by omega, h1, Bool.true_and] at this
    rw [this]
    by_cases hlt : l[j - 1] < l[j]
    ·rw [decide_f (by omega : ¬ l[j - 1] ≥ l[j]), cond_false, decide_t hlt, Bool.true_and, grd_of (gIx_t (by omega) (by rw [strL_size]; omega))]
    ·rw [decide_t (by omega : l[j - 1] ≥ l[j]), cond_true, decide_f hlt, Bool.false_and, if_neg (by simp)]
theorem l02Members_eq (l : List Int) (hb : IsBytes l) (hl : l.length ≤ 1000000000000) : gq159 (strL l) = some (if memS l = true then (l, decide (0 < l.length)) else ([], false)) := by
 unfold gq159 gq159.F
 have := l02Members_l1 l hb hl (fun out => some (out, decide ((List.length out : Int) > (0 : Int)))) (fun b l => some (l, b)) l.length fuel 0 (by omega) (by rw [fuel_eq]; omega) (.inl rfl)
 rw [List.take_zero, Int.natCast_zero] at this
 rw [this]
 simp only [Nat.zero_sub, List.drop_zero]
 split
 ·congr 2
  rw [Bool.eq_iff_iff, decide_eq_true_iff, decide_eq_true_iff]
  omega
 ·rfl
theorem memOK_S (l : List Int) : memOK l = (decide (0 < l.length) && memS l) := by
 unfold memOK memS
 rw [Bool.and_assoc]
theorem members_agree (l : List Int) (hb : IsBytes l) (hl : l.length ≤ 1000000000000) : ∃ m, gq159 (strL l) = some (m, memOK l) := by
 rw [l02Members_eq l hb hl, memOK_S]
 cases memS l with
 | true => exact ⟨l, by simp⟩
 | false => exact ⟨[], by simp⟩
end Go.Proofs.YtaanadbpnmcbcaaGreatDoorA
namespace Go.Proofs.YtaanadbpnmcbcaaGreatDoorA
open Go
set_option linter.unusedVariables false
set_option linter.unusedSimpArgs false
theorem exStr (s : ByteArray) : ∃ l, IsBytes l ∧ s = strL l := ⟨bytesL s, IsBytes.bytesL s, (strL_bytesL s).symm⟩
def inShort (n : Int) : Bool := decide (0 ≤ n) && decide (n ≤ 65535)
def isKeyB (s : ByteArray) : Bool := decide (1 ≤ s.size) && decide (s.size ≤ 24)
def cmdOK (k s q : Int) (key val : ByteArray) : Bool :=
 inShort s && (inShort q && (decide (val.size ≤ 60) && (if k = 1 ∨ k = 2 then isKeyB key else if k = 3 then isKeyB key && sEq val ByteArray.empty else if k = 4 ∨ k = 5 then sEq key ByteArray.empty && (sEq val ByteArray.empty && (q == 0)) else false)))
def cntB (l : List Int) : List Int := (l.length : Int) % 256 :: l
def cmdB (k s q : Int) (K V : List Int) : List Int := beL k 1 ++ beL s 2 ++ beL q 2 ++ cntB K ++ cntB V
theorem beL1 (n : Int) : beL n 1 = [n % 256] := rfl
theorem beL2 (n : Int) : beL n 2 = [n / 256 % 256, n % 256] := rfl
theorem beL4 (n : Int) : beL n 4 = [n / 16777216 % 256, n / 65536 % 256, n / 256 % 256, n % 256] := by
 show [n / 256 / 256 / 256 % 256, n / 256 / 256 % 256, n / 256 % 256, n % 256] = _
 rw [show n / 256 / 256 / 256 = n / 16777216 by omega, show n / 256 / 256 = n / 65536 by omega]
theorem cntB_bytes {l : List Int} (h : IsBytes l) : IsBytes (cntB l) := IsBytes.cons (by omega) (by omega) h
theorem cmdB_bytes {k s q : Int} {K V : List Int} (hK : IsBytes K) (hV : IsBytes V) : IsBytes (cmdB k s q K V) :=
 ((((beL_bytes _ _).append (beL_bytes _ _)).append (beL_bytes _ _)).append (cntB_bytes hK)).append (cntB_bytes hV)
theorem cmdB_length (k s q : Int) (K V : List Int) : (cmdB k s q K V).length = 7 + K.length + V.length := by
 simp [cmdB, cntB, beL_length]
 omega
theorem number1 (x : Int) : gq137 x 1 = some (strL (beL x 1)) := number_eq x 1 (by omega)
theorem number4 (x : Int) : gq137 x 4 = some (strL (beL x 4)) := number_eq x 4 (by omega)
theorem counted_eq (l : List Int) (h : l.length ≤ 1000000000000) : gq160 (strL l) = some (strL (cntB l)) := by
 unfold gq160 gq160.F
 rw [number1, Option.bind_some, grd_of (gCat_t (by rw [strL_size, strL_size, beL_length]; omega)), strL_append, strL_size, beL1]
 simp [cntB]
theorem two_eq (n : Int) (h0 : 0 ≤ n) (h1 : n ≤ 65535) : gq150 n = some (beL n 2) := by
 unfold gq150 gq150.F
 rw [grd_of (gNz_t (by decide)), tdiv_pos h0, wr (by omega) (by omega), wr8m, wr8m, beL2]
theorem four_eq (n : Int) : gq133 n = some (beL n 4) := by
 unfold gq133 gq133.F
 rw [grd_of (gSh_t (by decide)), grd_of (gSh_t (by decide)), grd_of (gSh_t (by decide)), shr24, shr16, shr8, wr8m, wr8m, wr8m, wr8m, beL4]
theorem cmdBytes_s (k s q : Int) (K V : List Int) (hK : IsBytes K) (hV : IsBytes V) (hKl : K.length ≤ 1000000) (hVl : V.length ≤ 1000000) (hs : inShort s = true) (hq : inShort q = true) : gq162 k s q (strL K) (strL V) = some (cmdB k s q K V) := by
 simp only [inShort, Bool.and_eq_true, decide_eq_true_iff] at hs hq
 unfold gq162 gq162.F
 simp only [two_eq s hs.1 hs.2, two_eq q hq.1 hq.2, bs, bytesL_strL hK, bytesL_strL hV, strL_size, wr8m]
 rw [grd_of (gRm_t (by simp [beL_length])), grd_of (gRm_t (by simp [beL_length])), grd_of (gRm_t (by simp [beL_length])), grd_of (gRm_t (by simp [beL_length]; omega)), grd_of (gRm_t (by simp [beL_length]; omega)), grd_of (gRm_t (by simp [beL_length]; omega))]
 simp [cmdB, cntB, beL1]
theorem rnum1 (a : Int) (l : List Int) (hb : IsBytes (a :: l)) : gq182 (strL (a :: l)) false 1 = some (a, strL l, false) := by
 have := rnum_ok (a :: l) hb 1 (by omega) (by simp)
 simpa [beN] using this
theorem rnum4 (a b c d : Int) (l : List Int) (hb : IsBytes (a :: b :: c :: d :: l)) : gq182 (strL (a :: b :: c :: d :: l)) false 4 = some (((a * 256 + b) * 256 + c) * 256 + d, strL l, false) := by
 have := rnum_ok (a :: b :: c :: d :: l) hb 4 (by omega) (by simp)
 simpa [beN] using this
theorem IsBytes.tail {a : Int} {l : List Int} (h : IsBytes (a :: l)) : IsBytes l := fun y hy => h y (List.mem_cons_of_mem _ hy)
def pCnt : List Int → Option (List Int × List Int)
 | [] => none
 | a :: l => if a ≤ l.length then some (l.take a.toNat, l.drop a.toNat) else none
theorem rcnt_eq (l : List Int) (hb : IsBytes l) : ∃ r, gq183 (strL l) false = some (match pCnt l with | some x => (strL x.1, strL x.2, false) | none => (ByteArray.empty, r, true)) := by
 cases l with
 | nil => exact ⟨_, rcnt_nil⟩
 | cons a l =>
  by_cases h : a ≤ l.length
  ·exact ⟨ByteArray.empty, by rw [rcnt_ok a l hb h, pCnt, if_pos h]⟩
  ·exact ⟨strL l, by rw [rcnt_no a l hb (by omega), pCnt, if_neg h]⟩
end Go.Proofs.YtaanadbpnmcbcaaGreatDoorA
namespace Go.Proofs.YtaanadbpnmcbcaaGreatDoorA
open Go
set_option linter.unusedVariables false
set_option linter.unusedSimpArgs false
theorem and_f {p q : Prop} [Decidable p] [Decidable q] (h : ¬ (p ∧ q)) : (decide p && decide q) = false := by
 rw [← Bool.not_eq_true, Bool.and_eq_true, decide_eq_true_iff, decide_eq_true_iff]
 exact h
theorem and_t {p q : Prop} [Decidable p] [Decidable q] (h : p ∧ q) : (decide p && decide q) = true := by
 rw [Bool.and_eq_true, decide_eq_true_iff, decide_eq_true_iff]
 exact h
def letB (c : Int) : Bool := ((decide (97 ≤ c) && decide (c ≤ 122)) || (decide (65 ≤ c) && decide (c ≤ 90))) || c == 95
def digB (c : Int) : Bool := decide (48 ≤ c) && decide (c ≤ 57)
def okN : Bool → List Int → Bool
 | _, [] => true
 | true, c :: r => letB c && okN false r
 | false, c :: r => (letB c || digB c) && okN false r
def nameV (l : List Int) : Bool := (decide (1 ≤ l.length) && decide (l.length ≤ 40)) && okN true l
theorem name_j1 {R : Type} (kkn : ByteArray → Int → Int → Bool → Int → Int → Option R) (t : ByteArray) (i b i1 i2 : Int) : gq114.j1 kkn t i b i1 i2 = kkn t i b (letB b) i1 i2 := by
 unfold gq114.j1 letB
 by_cases h1 : (97 : Int) ≤ b <;> by_cases h2 : b ≤ 122 <;> by_cases h3 : (65 : Int) ≤ b <;> by_cases h4 : b ≤ 90 <;> simp [h1, h2, h3, h4]
theorem name_l2 {R : Type} (kke : ByteArray → Option R) (kkr : Bool → Option R) (l : List Int) (hb : IsBytes l) (hl : l.length ≤ 1000000000000000) : ∀ (m fu j : Nat), j + m = l.length → m < fu →
  gq114.l2 kke kkr fu (strL l) (l.length : Int) (j : Int) = if okN (decide (j = 0)) (l.drop j) = true then kke (strL l) else kkr false
 | 0, fu + 1, j, e, _ => by
  simp only [gq114.l2]
  rw [decide_f (by omega), cf, List.drop_of_length_le (by omega)]
  simp [okN]
 | m + 1, fu + 1, j, e, hf => by
  have hj : j < l.length := by omega
  simp only [gq114.l2]
  rw [decide_t (by omega), ct, grd_of (gIx_t (by omega) (by rw [strL_size]; omega)), byteAt_strL hb (by omega) (by omega), Int.toNat_natCast, List.getD_eq_getElem?_getD, List.getElem?_eq_getElem hj, Option.getD_some, name_j1, wr (by omega) (by omega), show ((j : Int) + 1) = ((j + 1 : Nat) : Int) by omega,
   name_l2 kke kkr l hb hl m fu (j + 1) (by omega) (by omega), drop_cons hj, decide_f (show ¬ j + 1 = 0 by omega)]
  have hle : ∀ x y : Int, decide (x < y) = !decide (y ≤ x) := fun x y => by
   by_cases h : x < y
   ·rw [decide_t h, decide_f (by omega)]; rfl
   ·rw [decide_f h, decide_t (by omega)]; rfl
  have hgt : ∀ x y : Int, decide (x > y) = !decide (x ≤ y) := fun x y => hle y x
  rw [hle, hgt]
  by_cases h0 : j = 0
  ·subst h0
   rw [decide_t rfl, okN]
   cases h1 : letB l[0] <;> cases h2 : okN false (l.drop (0 + 1)) <;> rfl
  ·rw [decide_f h0, okN, show ((j : Int) == 0) = false by simp; omega]
   unfold digB
   cases letB l[j] <;> cases okN false (l.drop (j + 1)) <;> cases decide (48 ≤ l[j]) <;> cases decide (l[j] ≤ 57) <;> rfl
theorem name_i (l : List Int) (hb : IsBytes l) (hl : l.length ≤ 1000000000000000) : gq114 (strL l) = some (nameV l) := by
 unfold gq114 gq114.F
 have := name_l2 (fun t_1 => (gq67 (ByteArray.size t_1 : Int) (1 : Int) (40 : Int)).bind fun r => some r) (fun b => some b) l hb hl l.length fuel 0 (by omega) (fuel_big (by omega))
 rw [Int.natCast_zero, List.drop_zero, decide_t rfl] at this
 rw [strL_size, this, nameV]
 cases okN true l with
 | false => simp
 | true =>
  rw [if_pos rfl, within_eq, bs, strL_size, Bool.and_true]
  congr 2
  ·rw [decide_eq_decide]; omega
  ·rw [decide_eq_decide]; omega
def nameB (s : ByteArray) : Bool := nameV (bytesL s)
theorem nameB_i (s : ByteArray) (h : s.size ≤ 1000000000000000) : gq114 s = some (nameB s) := by
 have := name_i (bytesL s) (IsBytes.bytesL s) (by rw [bytesL_length]; exact h)
 rwa [strL_bytesL] at this
theorem nameB_size {s : ByteArray} (h : nameB s = true) : 1 ≤ s.size ∧ s.size ≤ 40 := by
 unfold nameB nameV at h
 rw [Bool.and_eq_true, Bool.and_eq_true, decide_eq_true_iff, decide_eq_true_iff, bytesL_length] at h
 exact h.1
theorem less_irrefl : ∀ (l : List UInt8), Op.bytesLess l l = false
 | [] => rfl
 | a :: l => by
  simp only [Op.bytesLess, less_irrefl l, Bool.and_false, Bool.or_false]
  rw [decide_eq_false_iff_not]
  exact Nat.lt_irrefl _
theorem less_trans : ∀ {a b c : List UInt8}, Op.bytesLess a b = true → Op.bytesLess b c = true → Op.bytesLess a c = true
 | _, [], _, h, _ => by cases ‹List UInt8› <;> simp [Op.bytesLess] at h
 | _, _ :: _, [], _, k => by simp [Op.bytesLess] at k
 | [], _ :: _, _ :: _, _, _ => rfl
 | x :: a, y :: b, z :: c, h, k => by
  simp only [Op.bytesLess, Bool.or_eq_true, Bool.and_eq_true, decide_eq_true_iff, beq_iff_eq] at h k ⊢
  rcases h with h | ⟨rfl, h⟩ <;> rcases k with k | ⟨rfl, k⟩
  ·exact .inl (Nat.lt_trans h k)
  ·exact .inl h
  ·exact .inl k
  ·exact .inr ⟨rfl, less_trans h k⟩
theorem less_total : ∀ {a b : List UInt8}, Op.bytesLess a b = false → Op.bytesLess b a = false → a = b
 | [], [], _, _ => rfl
 | [], _ :: _, h, _ => by simp [Op.bytesLess] at h
 | _ :: _, [], _, k => by simp [Op.bytesLess] at k
 | x :: a, y :: b, h, k => by
  simp only [Op.bytesLess, Bool.or_eq_false_iff, Bool.and_eq_false_iff, decide_eq_false_iff_not, beq_eq_false_iff_ne] at h k
  have e : x = y := by
   apply UInt8.toNat_inj.1
   have h1 : ¬ x.toNat < y.toNat := h.1
   have h2 : ¬ y.toNat < x.toNat := k.1
   omega
  subst e
  have h3 := h.2.resolve_left (fun n => n rfl)
  have k3 := k.2.resolve_left (fun n => n rfl)
  rw [less_total h3 k3]
theorem sLt_irrefl (a : ByteArray) : sLt a a = false := less_irrefl _
theorem sLt_trans {a b c : ByteArray} (h : sLt a b = true) (k : sLt b c = true) : sLt a c = true := less_trans h k
theorem toList_inj {a b : ByteArray} (h : a.toList = b.toList) : a = b := by
 have : sEq a b = true := by
  unfold sEq
  rw [h]
  exact beq_self_eq_true _
 exact sEq_iff.1 this
theorem sLt_total {a b : ByteArray} (h : sLt a b = false) (k : sLt b a = false) : a = b := toList_inj (less_total h k)
theorem sLt_ne {a b : ByteArray} (h : sLt a b = true) : a ≠ b := by
 rintro rfl
 rw [sLt_irrefl] at h
 cases h
def totF : List (El kFile) → Nat
 | [] => 0
 | f :: r => ByteArray.size f.2.1 + totF r
theorem totF_mem : ∀ {l : List (El kFile)} {f : El kFile}, f ∈ l → ByteArray.size f.2.1 ≤ totF l
 | f :: r, g, h => by
  simp only [totF]
  rcases List.mem_cons.1 h with rfl | h
  ·omega
  ·have := totF_mem h; omega
theorem used_i {R : Type} (kke : Int → Option R) (l : List (El kFile)) (hl : l.length ≤ 1000000000) (ht : totF l ≤ 1000000000000000000) : ∀ (m fu j acc : Nat), j + m = l.length → m < fu → acc + totF (l.drop j) ≤ 1000000000000000000 →
  gq113.l1 kke fu (acc : Int) l (l.length : Int) (j : Int) = kke ((acc + totF (l.drop j) : Nat) : Int)
 | 0, fu + 1, j, acc, e, _, _ => by
  simp only [gq113.l1]
  rw [decide_f (by omega), cf, List.drop_of_length_le (by omega)]
  rfl
 | m + 1, fu + 1, j, acc, e, hf, ha => by
  have hj : j < l.length := by omega
  rw [drop_cons hj] at ha ⊢
  simp only [totF] at ha
  simp only [gq113.l1, totF]
  rw [decide_t (by omega), ct, grd_of (gIx_t (by omega) (by omega)), Int.toNat_natCast, rdE_at (k := kFile) hj, wr (x := (acc : Int) + _) (by omega) (by omega), wr (by omega) (by omega), show ((j : Int) + 1) = ((j + 1 : Nat) : Int) by omega,
   show ((acc : Int) + (ByteArray.size l[j].2.1 : Int)) = ((acc + ByteArray.size l[j].2.1 : Nat) : Int) by omega, used_i kke l hl ht m fu (j + 1) _ (by omega) (by omega) (by omega), Nat.add_assoc]
theorem usedV_i (room : Int) (l : List (El kFile)) (hl : l.length ≤ 1000000000) (ht : totF l ≤ 1000000000000000000) : gq113 room l = some (totF l : Int) := by
 unfold gq113 gq113.F
 have := used_i (fun sum => some sum) l hl ht l.length fuel 0 0 (by omega) (fuel_big (by omega)) (by simp; exact ht)
 rw [Int.natCast_zero, List.drop_zero, Nat.zero_add] at this
 exact this
def fOK (l : List (El kFile)) (i : Nat) : Bool := nameB (rdE kFile l i).1 && ((decide (i = 0) || sLt (rdE kFile l (i - 1)).1 (rdE kFile l i).1) && (decide ((0 : Int) ≤ (rdE kFile l i).2.2) && decide ((rdE kFile l i).2.2 ≤ (ByteArray.size (rdE kFile l i).2.1 : Int))))
def fAllOK (l : List (El kFile)) : Nat → Nat → Bool
 | 0, _ => true
 | m + 1, j => fOK l j && fAllOK l m (j + 1)
def NamesFit (l : List (El kFile)) : Prop := ∀ f ∈ l, ByteArray.size f.1 ≤ 1000000000000000
theorem NamesFit.rd {l : List (El kFile)} (h : NamesFit l) {j : Nat} (hj : j < l.length) : ByteArray.size (rdE kFile l j).1 ≤ 1000000000000000 := by
 rw [rdE_at (k := kFile) hj]
 exact h _ (List.getElem_mem hj)
theorem files_i {R : Type} (kke : Option R) (kkr : Bool → Option R) (room : Int) (l : List (El kFile)) (hl : l.length ≤ 1000000000) (hn : NamesFit l) : ∀ (m fu j : Nat), j + m = l.length → m < fu →
  gq65.l1 kke kkr fu l (l.length : Int) (j : Int) room l = cond (fAllOK l m j) kke (kkr false)
 | 0, fu + 1, j, e, _ => by
  simp only [gq65.l1]
  rw [decide_f (by omega), cf]
  rfl
 | m + 1, fu + 1, j, e, hf => by
  have hj : j < l.length := by omega
  simp only [gq65.l1, fAllOK, fOK]
  rw [decide_t (by omega), ct, grd_of (gIx_t (by omega) (by omega)), Int.toNat_natCast, nameB_i _ (hn.rd hj), bs, within_eq, bs, wr (x := (j : Int) + 1) (by omega) (by omega), show ((j : Int) + 1) = ((j + 1 : Nat) : Int) by omega, files_i kke kkr room l hl hn m fu (j + 1) (by omega) (by omega)]
  by_cases h0 : j = 0
  ·subst h0
   rw [decide_f (by omega), cf, decide_t rfl, Bool.true_or]
   cases nameB (rdE kFile l 0).1 <;> cases (decide ((0 : Int) ≤ (rdE kFile l 0).2.2) && decide ((rdE kFile l 0).2.2 ≤ (ByteArray.size (rdE kFile l 0).2.1 : Int))) <;> cases fAllOK l m (0 + 1) <;> rfl
  ·rw [decide_t (show (j : Int) > 0 by omega), ct, decide_f h0, Bool.false_or, wr (x := (j : Int) - 1) (by omega) (by omega), grd_of (gIx_t (by omega) (by omega)), show ((j : Int) - 1).toNat = j - 1 by omega]
   cases nameB (rdE kFile l j).1 <;> cases sLt (rdE kFile l (j - 1)).1 (rdE kFile l j).1 <;> cases (decide ((0 : Int) ≤ (rdE kFile l j).2.2) && decide ((rdE kFile l j).2.2 ≤ (ByteArray.size (rdE kFile l j).2.1 : Int))) <;> cases fAllOK l m (j + 1) <;> rfl
def dOK (room : Int) (l : List (El kFile)) : Bool := (decide (0 ≤ room) && decide (room ≤ 3000)) && (decide (l.length ≤ 8) && (decide ((totF l : Int) ≤ room) && fAllOK l l.length 0))
def DFit (l : List (El kFile)) : Prop := NamesFit l ∧ ∀ f ∈ l, ByteArray.size f.2.1 ≤ 1000000000000000
theorem totF_fit : ∀ {l : List (El kFile)}, (∀ f ∈ l, ByteArray.size f.2.1 ≤ 1000000000000000) → totF l ≤ l.length * 1000000000000000
 | [], _ => Nat.le_refl _
 | f :: r, h => by
  have h1 := h f (by simp)
  have h2 := totF_fit (l := r) fun g hg => h g (by simp [hg])
  simp only [totF, List.length_cons]
  omega
theorem disk_i (room : Int) (l : List (El kFile)) (hl : l.length ≤ 1000000000) (h : DFit l) : gq65 room l = some (dOK room l) := by
 unfold gq65 gq65.F dOK
 rw [within_eq, bs]
 by_cases h0 : 0 ≤ room ∧ room ≤ 3000
 ·rw [and_t h0, Bool.not_true, cf, Bool.true_and]
  by_cases h1 : l.length ≤ 8
  ·have ht := totF_fit h.2
   rw [decide_f (by omega), cf, decide_t h1, Bool.true_and, usedV_i room l hl (by omega), bs]
   by_cases h2 : (totF l : Int) ≤ room
   ·rw [decide_f (by omega), cf, decide_t h2, Bool.true_and]
    have := files_i (some true) (fun b => some b) room l hl h.1 l.length fuel 0 (by omega) (fuel_big (by omega))
    rw [Int.natCast_zero] at this
    rw [this]
    cases fAllOK l l.length 0 <;> rfl
   ·rw [decide_t (by omega), ct, decide_f h2, Bool.false_and]
  ·rw [decide_t (by omega), ct, decide_f h1, Bool.false_and]
 ·rw [and_f h0, Bool.not_false, ct, Bool.false_and]
theorem fAllOK_at (l : List (El kFile)) : ∀ (m j : Nat), fAllOK l m j = true → ∀ i, j ≤ i → i < j + m → fOK l i = true
 | 0, j, _, i, h1, h2 => by omega
 | m + 1, j, h, i, h1, h2 => by
  simp only [fAllOK, Bool.and_eq_true] at h
  by_cases e : i = j
  ·subst e; exact h.1
  ·exact fAllOK_at l m (j + 1) h.2 i (by omega) (by omega)
structure DK (room : Int) (l : List (El kFile)) : Prop where
 rm : 0 ≤ room ∧ room ≤ 3000
 len : l.length ≤ 8
 tot : (totF l : Int) ≤ room
 name : ∀ i (h : i < l.length), nameB l[i].1 = true
 rise : ∀ i (h : i + 1 < l.length), sLt (l[i]'(by omega)).1 l[i + 1].1 = true
 sure : ∀ i (h : i < l.length), (0 : Int) ≤ l[i].2.2 ∧ (l[i].2.2 : Int) ≤ (ByteArray.size l[i].2.1 : Int)
theorem dOK_DK {room : Int} {l : List (El kFile)} (h : dOK room l = true) : DK room l := by
 unfold dOK at h
 rw [Bool.and_eq_true, Bool.and_eq_true, Bool.and_eq_true, Bool.and_eq_true, decide_eq_true_iff, decide_eq_true_iff, decide_eq_true_iff, decide_eq_true_iff] at h
 obtain ⟨h0, h1, h2, h3⟩ := h
 have at_ : ∀ i (hi : i < l.length), fOK l i = true := fun i hi => fAllOK_at l _ 0 h3 i (by omega) (by omega)
 refine ⟨h0, h1, h2, fun i hi => ?_, fun i hi => ?_, fun i hi => ?_⟩
 ·have := at_ i hi
  unfold fOK at this
  rw [Bool.and_eq_true, rdE_at (k := kFile) hi] at this
  exact this.1
 ·have := at_ (i + 1) hi
  unfold fOK at this
  rw [Bool.and_eq_true, Bool.and_eq_true, decide_f (show ¬ i + 1 = 0 by omega), Bool.false_or, Nat.add_sub_cancel, rdE_at (k := kFile) hi, rdE_at (k := kFile) (show i < l.length by omega)] at this
  exact this.2.1
 ·have := at_ i hi
  unfold fOK at this
  rw [Bool.and_eq_true, Bool.and_eq_true, Bool.and_eq_true, decide_eq_true_iff, decide_eq_true_iff, rdE_at (k := kFile) hi] at this
  exact this.2.2
theorem DK.lt {room : Int} {l : List (El kFile)} (h : DK room l) : ∀ (d i : Nat) (hi : i + d + 1 < l.length), sLt (l[i]'(by omega)).1 (l[i + d + 1]'hi).1 = true
 | 0, i, hi => h.rise i hi
 | d + 1, i, hi => sLt_trans (DK.lt h d i (by omega)) (h.rise (i + d + 1) (by omega))
theorem DK.inj {room : Int} {l : List (El kFile)} (h : DK room l) {i j : Nat} (hi : i < l.length) (hj : j < l.length) (e : l[i].1 = l[j].1) : i = j := by
 rcases Nat.lt_trichotomy i j with hlt | he | hlt
 ·obtain ⟨d, rfl⟩ : ∃ d, j = i + d + 1 := ⟨j - i - 1, by omega⟩
  exact absurd e (sLt_ne (h.lt d i hj))
 ·exact he
 ·obtain ⟨d, rfl⟩ : ∃ d, i = j + d + 1 := ⟨i - j - 1, by omega⟩
  exact absurd e.symm (sLt_ne (h.lt d j hi))
theorem DK.data {room : Int} {l : List (El kFile)} (h : DK room l) {f : El kFile} (hf : f ∈ l) : ByteArray.size f.2.1 ≤ 3000 := by
 have := totF_mem hf
 have := h.tot
 have := h.rm
 omega
end Go.Proofs.YtaanadbpnmcbcaaGreatDoorA
namespace Go.Proofs.YtaanadbpnmcbcaaGreatDoorA
open Go
set_option linter.unusedVariables false
set_option linter.unusedSimpArgs false
theorem pCnt_bytes {l K r : List Int} (h : IsBytes l) (hp : pCnt l = some (K, r)) : IsBytes K ∧ IsBytes r ∧ l = cntB K ++ r ∧ K.length < 256 := by
 cases l with
 | nil => simp [pCnt] at hp
 | cons a l =>
  simp only [pCnt] at hp
  split at hp
  ·rename_i hl
   have ha := h a List.mem_cons_self
   simp only [Option.some.injEq, Prod.mk.injEq] at hp
   obtain ⟨rfl, rfl⟩ := hp
   refine ⟨h.tail.take _, h.tail.drop _, ?_, by simp; omega⟩
   unfold cntB
   rw [List.length_take, List.cons_append, List.take_append_drop]
   congr 1
   omega
  ·simp at hp
theorem pCnt_cntB {K r : List Int} (h : K.length < 256) : pCnt (cntB K ++ r) = some (K, r) := by
 unfold cntB
 rw [List.cons_append, pCnt, if_pos (by simp; omega)]
 have : ((K.length : Int) % 256).toNat = K.length := by omega
 rw [this, List.take_left, List.drop_left]
end Go.Proofs.YtaanadbpnmcbcaaGreatDoorA
namespace Go.Proofs.YtaanadbpnmcbcaaGreatDoorA
open Go
set_option linter.unusedVariables false
set_option linter.unusedSimpArgs false
structure SrcOK (c : List Int) (a s : Int) (N : Int) : Prop where
 hb : IsBytes c
 hl : c.length ≤ 2097152
 a0 : 0 ≤ a
 aN : a ≤ N
 NN : N ≤ 4611686018427387904
 s0 : 0 ≤ s
 s1 : s < 2147483648
theorem SrcOK.mono {c : List Int} {a s N M : Int} (h : SrcOK c a s N) (h1 : N ≤ M) (h2 : M ≤ 4611686018427387904) : SrcOK c a s M := ⟨h.hb, h.hl, h.a0, by have := h.aN; omega, h2, h.s0, h.s1⟩
theorem byte_eq {c : List Int} {a s N : Int} (h : SrcOK c a s N) (hN : N + 1 ≤ 4611686018427387904) : ∃ v a' s', gq161 c a s = some (v, c, a', s') ∧ (0 ≤ v ∧ v < 256) ∧ SrcOK c a' s' (N + 1) := by
 obtain ⟨hb, hl, a0, aN, _, s0, s1⟩ := h
 unfold gq161 gq161.F
 rw [wr (x := a + 1) (by omega) (by omega), wr (x := a + 1 - 1) (by omega) (by omega)]
 by_cases h1 : a + 1 ≤ c.length
 ·have hlt : a.toNat < c.length := by omega
  have hg := hb.get hlt
  have e : rdE (.int .u8) c (a + 1 - 1).toNat = c[a.toNat] := by
   rw [show (a + 1 - 1) = a by omega]; exact rdE_at (k := .int .u8) hlt
  rw [decide_t h1, cond_true, grd_of (gIx_t (by omega) (by omega)), grd_of (gNz_t (by decide)), grd_of (gIx_t (by omega) (by omega)), e]
  rw [wr (x := c[a.toNat]) (by omega) (by omega), wr (x := s * 31) (by omega) (by omega), wr (x := s * 31 + c[a.toNat]) (by omega) (by omega), wr (x := s * 31 + c[a.toNat] + 7) (by omega) (by omega), tmod_pos (by omega)]
  exact ⟨_, _, _, rfl, hg, hb, hl, by omega, by omega, by omega, by omega, by omega⟩
 ·rw [decide_f h1, cond_false]
  by_cases h2 : a + 1 > 3000
  ·rw [decide_t h2, cond_true]
   exact ⟨_, _, _, rfl, by decide, hb, hl, by omega, by omega, by omega, s0, s1⟩
  ·rw [decide_f h2, cond_false, grd_of (gNz_t (by decide)), grd_of (gNz_t (by decide)), grd_of (gNz_t (by decide))]
   rw [wr (x := s * 1103515245) (by omega) (by omega), wr (x := s * 1103515245 + 12345) (by omega) (by omega), tmod_pos (x := s * 1103515245 + 12345) (by omega), tdiv_pos (by omega), wr (x := (s * 1103515245 + 12345) % 2147483648 / 65536) (by omega) (by omega), tmod_pos (by omega)]
   exact ⟨_, _, _, rfl, by omega, hb, hl, by omega, by omega, by omega, by omega, by omega⟩
theorem next_eq {c : List Int} {a s N : Int} (h : SrcOK c a s N) (hN : N + 3 ≤ 4611686018427387904) (n : Int) (h1 : 1 < n) (h2 : n ≤ 16777216) : ∃ v a' s', gq140 c a s n = some (v, c, a', s') ∧ (0 ≤ v ∧ v < n) ∧ SrcOK c a' s' (N + 3) := by
 unfold gq140 gq140.F
 rw [decide_f (by omega : ¬ n ≤ 1), cond_false]
 obtain ⟨v, a1, s1, e1, hv, h3⟩ := byte_eq h (by omega)
 by_cases h4 : n ≤ 256
 ·rw [decide_t h4, cond_true, e1, Option.bind_some, grd_of (gNz_t (by omega)), tmod_pos hv.1]
  exact ⟨_, _, _, rfl, ⟨Int.emod_nonneg _ (by omega), Int.emod_lt_of_pos _ (by omega)⟩, h3.mono (by omega) (by omega)⟩
 ·obtain ⟨v2, a2, s2, e2, hv2, h5⟩ := byte_eq h3 (by omega)
  obtain ⟨v3, a3, s3, e3, hv3, h6⟩ := byte_eq h5 (by omega)
  rw [decide_f h4, cond_false, e1, Option.bind_some]
  dsimp only
  rw [e2, Option.bind_some]
  dsimp only
  rw [e3, Option.bind_some]
  dsimp only
  rw [grd_of (gNz_t (by omega)), wr (x := v * 65536) (by omega) (by omega), wr (x := v2 * 256) (by omega) (by omega), wr (x := v * 65536 + v2 * 256) (by omega) (by omega), wr (x := v * 65536 + v2 * 256 + v3) (by omega) (by omega), tmod_pos (by omega)]
  exact ⟨_, _, _, rfl, ⟨Int.emod_nonneg _ (by omega), Int.emod_lt_of_pos _ (by omega)⟩, h6.mono (by omega) (by omega)⟩
theorem next_one {c : List Int} {a s : Int} (n : Int) (h1 : n ≤ 1) : gq140 c a s n = some (0, c, a, s) := by
 unfold gq140 gq140.F
 rw [decide_t h1, cond_true]
theorem source_eq (c : List Int) (hb : IsBytes c) (hl : c.length ≤ 1048576) : ∃ s, gq63 c = some (c, 0, s) ∧ SrcOK c 0 s 0 := by
 unfold gq63 gq63.F
 rw [grd_of (gNz_t (by decide)), tmod_pos (by omega)]
 exact ⟨_, rfl, hb, by omega, by omega, by omega, by decide, by omega, by omega⟩
theorem pick_eq {c : List Int} {a s N : Int} (h : SrcOK c a s N) (hN : N + 3 ≤ 4611686018427387904) (l : List ByteArray) (h0 : 1 < l.length) (h1 : l.length ≤ 1000) : ∃ v a' s', gq112 c a s l = some (v, c, a', s') ∧ v ∈ l ∧ SrcOK c a' s' (N + 3) := by
 unfold gq112 gq112.F
 rw [show ((l.length : Int) == 0) = false from beq_eq_false_iff_ne.2 (by omega), cond_false]
 obtain ⟨v, a', s', e, hv, h2⟩ := next_eq h hN l.length (by omega) (by omega)
 rw [e, Option.bind_some]
 dsimp only
 rw [grd_of (gIx_t hv.1 hv.2), rdE_at (k := .str) (by omega)]
 exact ⟨_, _, _, rfl, List.getElem_mem _, h2⟩
theorem chance_eq {c : List Int} {a s N : Int} (h : SrcOK c a s N) (hN : N + 3 ≤ 4611686018427387904) (n : Int) (h1 : 1 < n) (h2 : n ≤ 16777216) : ∃ v a' s', gq181 c a s n = some (v, c, a', s') ∧ SrcOK c a' s' (N + 3) := by
 unfold gq181 gq181.F
 obtain ⟨v, a', s', e, hv, h3⟩ := next_eq h hN n h1 h2
 rw [e, Option.bind_some]
 exact ⟨_, _, _, rfl, h3⟩
theorem isKey_of {v : ByteArray} (h : v ∈ [(⟨#[97]⟩ : ByteArray), (⟨#[98]⟩ : ByteArray), (⟨#[99]⟩ : ByteArray), (⟨#[97, 108, 112, 104, 97]⟩ : ByteArray), (⟨#[98, 101, 116, 97]⟩ : ByteArray)]) : isKeyB v = true := by
 simp only [List.mem_cons, List.not_mem_nil, or_false] at h
 rcases h with rfl | rfl | rfl | rfl | rfl <;> rfl
theorem val_of {v : ByteArray} (h : v ∈ [ByteArray.empty, (⟨#[49]⟩ : ByteArray), (⟨#[50]⟩ : ByteArray), (⟨#[120]⟩ : ByteArray), (⟨#[108, 111, 110, 103, 101, 114, 32, 118, 97, 108, 117, 101]⟩ : ByteArray)]) : v.size ≤ 60 := by
 simp only [List.mem_cons, List.not_mem_nil, or_false] at h
 rcases h with rfl | rfl | rfl | rfl | rfl <;> decide
theorem command_eq {c : List Int} {a s N : Int} (h : SrcOK c a s N) (hN : N + 24 ≤ 4611686018427387904) : ∃ k se q key val a' s', gq163 c a s = some (k, se, q, key, val, c, a', s') ∧ cmdOK k se q key val = true ∧ (0 ≤ k ∧ k < 256) ∧ SrcOK c a' s' (N + 24) := by
 unfold gq163 gq163.F
 obtain ⟨v1, a1, s1, e1, hv1, h1⟩ := next_eq h (by omega) 5 (by decide) (by decide)
 obtain ⟨v2, a2, s2, e2, hv2, h2⟩ := next_eq h1 (by omega) 3 (by decide) (by decide)
 obtain ⟨v3, a3, s3, e3, hv3, h3⟩ := next_eq h2 (by omega) 5 (by decide) (by decide)
 have hk : ∃ key a4 s4, gq179 c a3 s3 = some (key, c, a4, s4) ∧ isKeyB key = true ∧ SrcOK c a4 s4 (N + 3 + 3 + 3 + 3) := by
  unfold gq179 gq179.F
  obtain ⟨v, a', s', e, hv, h'⟩ := pick_eq h3 (by omega) [(⟨#[97]⟩ : ByteArray), (⟨#[98]⟩ : ByteArray), (⟨#[99]⟩ : ByteArray), (⟨#[97, 108, 112, 104, 97]⟩ : ByteArray), (⟨#[98, 101, 116, 97]⟩ : ByteArray)] (by decide) (by decide)
  rw [e, Option.bind_some]
  exact ⟨_, _, _, rfl, isKey_of hv, h'⟩
 obtain ⟨key, a4, s4, e4, hkey, h4⟩ := hk
 have hd : ∃ val a5 s5, gq180 c a4 s4 = some (val, c, a5, s5) ∧ val.size ≤ 60 ∧ SrcOK c a5 s5 (N + 3 + 3 + 3 + 3 + 3) := by
  unfold gq180 gq180.F
  obtain ⟨v, a', s', e, hv, h'⟩ := pick_eq h4 (by omega) [ByteArray.empty, (⟨#[49]⟩ : ByteArray), (⟨#[50]⟩ : ByteArray), (⟨#[120]⟩ : ByteArray), (⟨#[108, 111, 110, 103, 101, 114, 32, 118, 97, 108, 117, 101]⟩ : ByteArray)] (by decide) (by decide)
  rw [e, Option.bind_some]
  exact ⟨_, _, _, rfl, val_of hv, h'⟩
 obtain ⟨val, a5, s5, e5, hval, h5⟩ := hd
 obtain ⟨v6, a6, s6, e6, h6⟩ := chance_eq h5 (by omega) 4 (by decide) (by decide)
 obtain ⟨v7, a7, s7, e7, hv7, h7⟩ := next_eq h6 (by omega) 2 (by decide) (by decide)
 obtain ⟨v8, a8, s8, e8, hv8, h8⟩ := next_eq h7 (by omega) 3 (by decide) (by decide)
 have hkind : ∃ k0 : Int, rdE (.int .i64) [(1 : Int), (1 : Int), (2 : Int), (2 : Int), (3 : Int)] v1.toNat = k0 ∧ (k0 = 1 ∨ k0 = 2 ∨ k0 = 3) := by
  refine ⟨_, rfl, ?_⟩
  obtain ⟨w, rfl⟩ : ∃ w : Nat, v1 = w := ⟨v1.toNat, by omega⟩
  have : w < 5 := by omega
  match w, this with
  | 0, _ => exact .inl rfl
  | 1, _ => exact .inl rfl
  | 2, _ => exact .inr (.inl rfl)
  | 3, _ => exact .inr (.inl rfl)
  | 4, _ => exact .inr (.inr rfl)
 obtain ⟨k0, ek, hk0⟩ := hkind
 rw [e1, Option.bind_some]
 dsimp only
 rw [grd_of (gIx_t hv1.1 (by simpa using hv1.2)), e2, Option.bind_some]
 dsimp only
 rw [e3, Option.bind_some]
 dsimp only
 rw [e4, Option.bind_some]
 dsimp only
 rw [e5, Option.bind_some]
 dsimp only
 rw [ek, wr (x := 1 + v2) (by omega) (by omega), wr (x := 1 + v3) (by omega) (by omega)]
 have ok : ∀ (v : ByteArray), v.size ≤ 60 → (k0 = 3 → v = ByteArray.empty) → cmdOK k0 (1 + v2) (1 + v3) key v = true := by
  intro v hv h3
  have i1 : inShort (1 + v2) = true := by simp [inShort]; omega
  have i2 : inShort (1 + v3) = true := by simp [inShort]; omega
  unfold cmdOK
  rw [i1, i2, decide_t hv, hkey]
  rcases hk0 with rfl | rfl | rfl
  ·simp
  ·simp
  ·rw [h3 rfl]; simp [sEq_self]
 have ko : ∀ w : Int, 0 ≤ w → w < 2 → cmdOK (4 + w) (1 + v8) 0 ByteArray.empty ByteArray.empty = true := by
  intro w hw0 hw1
  have i1 : inShort (1 + v8) = true := by simp [inShort]; omega
  unfold cmdOK
  rw [i1]
  rcases (show w = 0 ∨ w = 1 by omega) with rfl | rfl <;> simp [sEq_self, inShort]
 unfold gq163.j1
 have tail : ∀ (v : ByteArray), v.size ≤ 60 → (k0 = 3 → v = ByteArray.empty) → ∃ k se q key' val' a' s',
   ((gq181 c a5 s5 (4 : Int)).bind fun r5 =>
    cond r5.1 ((gq140 r5.2.1 r5.2.2.1 r5.2.2.2 (2 : Int)).bind fun r6 => (gq140 r6.2.1 r6.2.2.1 r6.2.2.2 (3 : Int)).bind fun r7 =>
     some (IntKind.wrap .i64 ((4 : Int) + r6.1), IntKind.wrap .i64 ((1 : Int) + r7.1), (0 : Int), ByteArray.empty, ByteArray.empty, r7.2.1, r7.2.2.1, r7.2.2.2))
     (some (k0, 1 + v2, 1 + v3, key, v, r5.2.1, r5.2.2.1, r5.2.2.2))) = some (k, se, q, key', val', c, a', s') ∧ cmdOK k se q key' val' = true ∧ (0 ≤ k ∧ k < 256) ∧ SrcOK c a' s' (N + 24) := by
  intro v hv h3
  rw [e6, Option.bind_some]
  dsimp only
  cases v6 with
  | false =>
   rw [cond_false]
   exact ⟨_, _, _, _, _, _, _, rfl, ok v hv h3, by omega, h6.mono (by omega) (by omega)⟩
  | true =>
   rw [cond_true, e7, Option.bind_some]
   dsimp only
   rw [e8, Option.bind_some]
   dsimp only
   rw [wr (x := 4 + v7) (by omega) (by omega), wr (x := 1 + v8) (by omega) (by omega)]
   exact ⟨_, _, _, _, _, _, _, rfl, ko v7 hv7.1 hv7.2, by omega, h8.mono (by omega) (by omega)⟩
 by_cases h3 : k0 = 3
 ·rw [show (k0 == 3) = true from beq_iff_eq.2 h3, cond_true]
  exact tail ByteArray.empty (by decide) (fun _ => rfl)
 ·rw [show (k0 == 3) = false from beq_eq_false_iff_ne.2 h3, cond_false]
  exact tail val hval (fun h => absurd h h3)
end Go.Proofs.YtaanadbpnmcbcaaGreatDoorA
namespace Go.Proofs.YtaanadbpnmcbcaaGreatDoorA
open Go
set_option linter.unusedVariables false
set_option linter.unusedSimpArgs false
def entOK (t k : Int) (D : List Int) : Bool :=
 (decide (1 ≤ t) && decide (t ≤ 1000000)) && (if k = 0 then decide (D = []) else if k = 1 then decide (1 ≤ D.length) && decide (D.length ≤ 100) else if k = 2 then memOK D else false)
theorem entryOK_i (t k : Int) (D : List Int) (hD : IsBytes D) (hl : D.length ≤ 1000000000000) : gq146 t k (strL D) = some (entOK t k D) := by
 unfold gq146 gq146.F entOK
 rw [within_eq, bs]
 cases (decide (1 ≤ t) && decide (t ≤ 1000000)) with
 | false => rfl
 | true =>
  rw [Bool.not_true, cf, Bool.true_and]
  have b : ∀ z : Int, k ≠ z → (k == z) = false := fun z h => beq_eq_false_iff_ne.2 h
  by_cases h0 : k = 0
  ·subst h0
   rw [if_pos rfl, show ((0 : Int) == 0) = true from rfl, ct, ← strL_nil, sEq_strL hD IsBytes.nil]
  by_cases h1 : k = 1
  ·subst h1
   rw [if_neg h0, if_pos rfl, b 0 h0, cf, show ((1 : Int) == 1) = true from rfl, ct, within_eq, bs, strL_size]
   congr 2 <;> (rw [Bool.eq_iff_iff, decide_eq_true_iff, decide_eq_true_iff]; omega)
  by_cases h2 : k = 2
  ·subst h2
   rw [if_neg h0, if_neg h1, if_pos rfl, b 0 h0, cf, b 1 h1, cf, show ((2 : Int) == 2) = true from rfl, ct, readMembers_eq D hD hl, bs]
  rw [if_neg h0, if_neg h1, if_neg h2, b 0 h0, cf, b 1 h1, cf, b 2 h2, cf]
theorem entryOK_s (t k : Int) (D : List Int) (hD : IsBytes D) (hl : D.length ≤ 1000000000000) : gq132 t k (strL D) = some (entOK t k D) := by
 unfold gq132 gq132.F entOK
 rw [l01In_eq, bs]
 cases (decide (1 ≤ t) && decide (t ≤ 1000000)) with
 | false => rfl
 | true =>
  rw [Bool.not_true, cf, Bool.true_and]
  have b : ∀ z : Int, k ≠ z → (k == z) = false := fun z h => beq_eq_false_iff_ne.2 h
  by_cases h0 : k = 0
  ·subst h0
   rw [if_pos rfl, show ((0 : Int) == 0) = true from rfl, ct, ← strL_nil, sEq_strL hD IsBytes.nil]
  by_cases h1 : k = 1
  ·subst h1
   rw [if_neg h0, if_pos rfl, b 0 h0, cf, show ((1 : Int) == 1) = true from rfl, ct, strL_size]
   by_cases h : 1 ≤ D.length
   ·rw [decide_t (by omega : (D.length : Int) ≥ 1), ct, decide_t h, Bool.true_and]
    congr 1
    rw [Bool.eq_iff_iff, decide_eq_true_iff, decide_eq_true_iff]; omega
   ·rw [decide_f (by omega : ¬ (D.length : Int) ≥ 1), cf, decide_f h, Bool.false_and]
  by_cases h2 : k = 2
  ·subst h2
   obtain ⟨m, hm⟩ := members_agree D hD hl
   rw [if_neg h0, if_neg h1, if_pos rfl, b 0 h0, cf, b 1 h1, cf, show ((2 : Int) == 2) = true from rfl, ct, hm, bs]
  rw [if_neg h0, if_neg h1, if_neg h2, b 0 h0, cf, b 1 h1, cf, b 2 h2, cf]
theorem memOK_short {D : List Int} (h : memOK D = true) : D.length ≤ 7 := by
 unfold memOK at h
 simp only [Bool.and_eq_true, List.all_eq_true] at h
 obtain ⟨⟨_, h1⟩, h2⟩ := h
 have key : ∀ (l : List Int) (a : Int), (∀ x ∈ l, inSeven x = true) → rising l = true → (∀ x ∈ l.head?, a ≤ x) → a ≤ 7 → (l.length : Int) ≤ 7 - a := by
  intro l
  induction l with
  | nil => intro a _ _ _ ha; simp; omega
  | cons x l ih =>
   intro a h1 h2 h3 ha
   have hx := h1 x List.mem_cons_self
   simp only [inSeven, Bool.and_eq_true, decide_eq_true_iff] at hx
   have h4 := h3 x (by simp)
   simp only [rising, Bool.and_eq_true] at h2
   have := ih (x + 1) (fun y hy => h1 y (List.mem_cons_of_mem _ hy)) h2.2 (fun y hy => by
    cases l with
    | nil => simp at hy
    | cons z l =>
     simp at hy; subst hy
     have := h2.1
     simp at this
     omega) (by omega)
   simp
   omega
 have := key D 0 h1 h2 (fun x hx => by
  cases D with
  | nil => simp at hx
  | cons y D =>
   simp at hx; subst hx
   have := h1 y List.mem_cons_self
   simp only [inSeven, Bool.and_eq_true, decide_eq_true_iff] at this
   exact this.1) (by omega)
 omega
theorem entOK_short {t k : Int} {D : List Int} (h : entOK t k D = true) : D.length ≤ 100 ∧ (1 ≤ t ∧ t ≤ 1000000) ∧ 0 ≤ k ∧ k ≤ 2 := by
 unfold entOK at h
 simp only [Bool.and_eq_true, decide_eq_true_iff] at h
 obtain ⟨⟨h1, h2⟩, h3⟩ := h
 split at h3
 ·rename_i h0
  subst h0
  have : D = [] := by simpa using h3
  subst this
  exact ⟨by simp, ⟨h1, h2⟩, by omega, by omega⟩
 ·split at h3
  ·rename_i h0
   subst h0
   simp only [Bool.and_eq_true, decide_eq_true_iff] at h3
   exact ⟨h3.2, ⟨h1, h2⟩, by omega, by omega⟩
  ·split at h3
   ·rename_i h0
    subst h0
    have := memOK_short h3
    exact ⟨by omega, ⟨h1, h2⟩, by omega, by omega⟩
   ·simp at h3
def entB (t k : Int) (D : List Int) : List Int := beL t 4 ++ beL k 1 ++ cntB D
theorem entB_bytes {t k : Int} {D : List Int} (hD : IsBytes D) : IsBytes (entB t k D) := ((beL_bytes _ _).append (beL_bytes _ _)).append (cntB_bytes hD)
theorem entB_length (t k : Int) (D : List Int) : (entB t k D).length = 6 + D.length := by
 simp [entB, cntB, beL_length]
 omega
theorem entBytes_i (t k : Int) (D : List Int) (hl : D.length ≤ 1000000) : gq138 t k (strL D) = some (strL (entB t k D)) := by
 unfold gq138 gq138.F
 have e : ∀ l m : List Int, l.length + m.length ≤ 100000000 → gCat (strL l) (strL m) = true := fun l m h => by
  refine gCat_t ?_
  rw [strL_size, strL_size]
  omega
 simp only [number1, number4, counted_eq D (by omega), bs, strL_append]
 rw [grd_of (e _ _ (by simp [beL_length])), grd_of (e _ _ (by simp [beL_length, cntB]; omega))]
 simp only [entB]
theorem entBytes_s (t k : Int) (D : List Int) (hD : IsBytes D) (hl : D.length ≤ 1000000) : gq134 t k (strL D) = some (entB t k D) := by
 unfold gq134 gq134.F
 simp only [four_eq, bs, bytesL_strL hD, strL_size, wr8m]
 rw [grd_of (gRm_t (by simp [beL_length])), grd_of (gRm_t (by simp [beL_length]; omega))]
 simp [entB, cntB, beL1]
structure PE where
 t : Int
 k : Int
 D : List Int
 r : List Int
def pEnt : List Int → Option PE
 | a :: b :: c :: d :: e :: l => match pCnt l with
  | some (D, l1) => some ⟨((a * 256 + b) * 256 + c) * 256 + d, e, D, l1⟩
  | none => none
 | _ => none
theorem readEnt_i (l : List Int) (hb : IsBytes l) (hl : l.length ≤ 1000000) : ∃ g1 g2 g3, gq164 (strL l) = some (match pEnt l with | some x => (x.t, x.k, strL x.D, decide (x.r = []) && entOK x.t x.k x.D) | none => (g1, g2, g3, false)) := by
 unfold gq164 gq164.F
 match l, hb, hl with
 | [], hb, hl => exact ⟨_, _, _, by simp only [rnum_no [] 4 (by simp), rnum_bad, rcnt_bad, bs, Bool.not_true, cf, pEnt]; rfl⟩
 | [a], hb, hl => exact ⟨_, _, _, by simp only [rnum_no [a] 4 (by simp), rnum_bad, rcnt_bad, bs, Bool.not_true, cf, pEnt]; rfl⟩
 | [a, b], hb, hl => exact ⟨_, _, _, by simp only [rnum_no [a, b] 4 (by simp), rnum_bad, rcnt_bad, bs, Bool.not_true, cf, pEnt]; rfl⟩
 | [a, b, c], hb, hl => exact ⟨_, _, _, by simp only [rnum_no [a, b, c] 4 (by simp), rnum_bad, rcnt_bad, bs, Bool.not_true, cf, pEnt]; rfl⟩
 | [a, b, c, d], hb, hl => exact ⟨_, _, _, by simp only [rnum4 a b c d _ hb, rnum_no [] 1 (by simp), rnum_bad, rcnt_bad, bs, Bool.not_true, cf, pEnt]; rfl⟩
 | a :: b :: c :: d :: e :: l, hb, hl =>
  have h4 := hb.tail.tail.tail.tail
  have h5 : IsBytes l := h4.tail
  obtain ⟨r1, h1⟩ := rcnt_eq l h5
  simp only [rnum4 a b c d _ hb, rnum1 e _ h4, bs, h1, pEnt]
  cases h2 : pCnt l with
  | none => exact ⟨_, _, _, by simp only [bs, Bool.not_true, cf]; rfl⟩
  | some x =>
   obtain ⟨D, l1⟩ := x
   obtain ⟨hD, hl1, _, hDl⟩ := pCnt_bytes h5 h2
   refine ⟨0, 0, ByteArray.empty, ?_⟩
   simp only [bs, Bool.not_false, ct, ← strL_nil, sEq_strL hl1 IsBytes.nil, entryOK_i _ _ D hD (by omega)]
   cases decide (l1 = []) <;> rfl
theorem pEnt_entB {t k : Int} {D : List Int} (ht : 0 ≤ t ∧ t < 4294967296) (hk : 0 ≤ k ∧ k < 256) (hD : D.length < 256) : pEnt (entB t k D) = some ⟨t, k, D, []⟩ := by
 have e : entB t k D = (t / 16777216 % 256) :: (t / 65536 % 256) :: (t / 256 % 256) :: (t % 256) :: (k % 256) :: (cntB D ++ []) := by
  unfold entB
  rw [beL1, beL4]
  simp
 rw [e, pEnt, pCnt_cntB hD]
 simp only [Option.some.injEq, PE.mk.injEq, and_true]
 omega
theorem cmdOK_short {k s q : Int} {K V : List Int} (h : cmdOK k s q (strL K) (strL V) = true) : K.length ≤ 24 ∧ V.length ≤ 60 ∧ inShort s = true ∧ inShort q = true ∧ 1 ≤ k ∧ k ≤ 5 := by
 unfold cmdOK at h
 simp only [Bool.and_eq_true] at h
 obtain ⟨h1, h2, h3, h4⟩ := h
 have h3 := of_decide_eq_true h3
 rw [strL_size] at h3
 refine ⟨?_, h3, h1, h2, ?_⟩
 ·split at h4
  ·simp only [isKeyB, Bool.and_eq_true, decide_eq_true_iff, strL_size] at h4; omega
  ·split at h4
   ·simp only [isKeyB, Bool.and_eq_true, decide_eq_true_iff, strL_size] at h4; omega
   ·split at h4
    ·simp only [Bool.and_eq_true] at h4
     have := congrArg ByteArray.size (sEq_iff.1 h4.1)
     rw [strL_size] at this
     rw [this]; decide
    ·simp at h4
 ·split at h4
  ·omega
  ·split at h4
   ·omega
   ·split at h4
    ·omega
    ·simp at h4
theorem entry_eq {c : List Int} {a s N : Int} (h : SrcOK c a s N) (hN : N + 33 ≤ 4611686018427387904) : ∃ t k D a' s', gq141 c a s = some (t, k, strL D, c, a', s') ∧ IsBytes D ∧ entOK t k D = true ∧ t ≤ 4 ∧ SrcOK c a' s' (N + 33) := by
 unfold gq141 gq141.F
 obtain ⟨v1, a1, s1, e1, hv1, h1⟩ := next_eq h (by omega) 4 (by decide) (by decide)
 obtain ⟨ck, cs, cq, key, val, a2, s2, e2, hok, hck, h2⟩ := command_eq h1 (by omega)
 obtain ⟨K, hK, rfl⟩ := exStr key
 obtain ⟨Vl, hV, rfl⟩ := exStr val
 obtain ⟨hKl, hVl, hs, hq, hk1, hk2⟩ := cmdOK_short hok
 obtain ⟨v3, a3, s3, e3, hv3, h3⟩ := next_eq h2 (by omega) 6 (by decide) (by decide)
 rw [e1, bs]
 dsimp only
 rw [e2, bs]
 dsimp only
 rw [cmdBytes_s ck cs cq K Vl hK hV (by omega) (by omega) hs hq, bs, e3, bs]
 dsimp only
 rw [wr (x := 1 + v1) (by omega) (by omega)]
 have hT : (decide (1 ≤ 1 + v1) && decide (1 + v1 ≤ 1000000)) = true := by simp; omega
 by_cases h30 : v3 = 0
 ·subst h30
  rw [show ((0 : Int) == 0) = true from rfl, ct]
  exact ⟨_, 0, [], _, _, rfl, IsBytes.nil, by unfold entOK; rw [hT]; rfl, by omega, h3.mono (by omega) (by omega)⟩
 ·rw [show (v3 == 0) = false from beq_eq_false_iff_ne.2 h30, cf]
  by_cases h31 : v3 = 1
  ·subst h31
   rw [show ((1 : Int) == 1) = true from rfl, ct]
   obtain ⟨v4, a4, s4, e4, hv4, h4⟩ := pick_eq h3 (by omega) [(⟨#[0, 1, 2]⟩ : ByteArray), (⟨#[0, 1]⟩ : ByteArray), (⟨#[0, 1, 2, 3]⟩ : ByteArray), (⟨#[4]⟩ : ByteArray)] (by decide) (by decide)
   rw [e4, bs]
   dsimp only
   have : ∃ D, IsBytes D ∧ v4 = strL D ∧ memOK D = true := by
    simp only [List.mem_cons, List.not_mem_nil, or_false] at hv4
    have b : ∀ l : List Int, (l.all fun x => decide (0 ≤ x) && decide (x < 256)) = true → IsBytes l := fun l h y hy => by
     have := List.all_eq_true.1 h y hy
     simpa using this
    rcases hv4 with rfl | rfl | rfl | rfl
    ·exact ⟨[0, 1, 2], b _ rfl, rfl, rfl⟩
    ·exact ⟨[0, 1], b _ rfl, rfl, rfl⟩
    ·exact ⟨[0, 1, 2, 3], b _ rfl, rfl, rfl⟩
    ·exact ⟨[4], b _ rfl, rfl, rfl⟩
   obtain ⟨D, hD, rfl, hm⟩ := this
   exact ⟨_, 2, D, _, _, rfl, hD, by unfold entOK; rw [hT]; simp [hm], by omega, h4.mono (by omega) (by omega)⟩
  ·rw [show (v3 == 1) = false from beq_eq_false_iff_ne.2 h31, cf]
   refine ⟨_, 1, _, _, _, rfl, cmdB_bytes hK hV, ?_, by omega, h3.mono (by omega) (by omega)⟩
   unfold entOK
   rw [hT]
   have := cmdB_length ck cs cq K Vl
   simp
   omega
end Go.Proofs.YtaanadbpnmcbcaaGreatDoorA
namespace Go.Proofs.YtaanadbpnmcbcaaGreatDoorA
open Go
set_option linter.unusedVariables false
set_option linter.unusedSimpArgs false
end Go.Proofs.YtaanadbpnmcbcaaGreatDoorA
namespace Go.Proofs.YtaanadbpnmcbcaaGreatDoorA
open Go
set_option linter.unusedVariables false
set_option linter.unusedSimpArgs false
theorem numberOf_total (s : ByteArray) (h : s.size ≤ 1000000000000) : ∃ n, gq103 s = some n := by
 unfold gq103 gq103.F
 have key : ∀ (m n i : Nat) (a : Int), i + m = s.size → m < n → ∃ r, gq103.l1 (fun n_ => some n_) n s a s.size i = some r := by
  intro m
  induction m with
  | zero =>
   intro n i a e hn
   obtain ⟨n, rfl⟩ : ∃ q, n = q + 1 := ⟨n - 1, by omega⟩
   simp only [gq103.l1]
   rw [decide_f (by omega), cf]
   exact ⟨_, rfl⟩
  | succ m ih =>
   intro n i a e hn
   obtain ⟨n, rfl⟩ : ∃ q, n = q + 1 := ⟨n - 1, by omega⟩
   simp only [gq103.l1]
   rw [decide_t (by omega), ct, grd_of (gSh_t (by decide)), grd_of (gIx_t (by omega) (by omega)), wr (x := (i : Int) + 1) (by omega) (by omega), show ((i : Int) + 1) = ((i + 1 : Nat) : Int) by omega]
   exact ih n (i + 1) _ (by omega) (by omega)
 exact key s.size fuel 0 0 (by omega) (fuel_big (by omega))
def ChkE (term : Int) (l : List (El kkb53)) (i : Nat) : Prop := ∃ h : i < l.length, entOK l[i].1 l[i].2.1 (bytesL l[i].2.2) = true ∧ l[i].1 ≤ term ∧ ∀ (h0 : 0 < i), (l[i - 1]'(by omega)).1 ≤ l[i].1
def LogOK (term : Int) (l : List (El kkb53)) : Prop := l.length ≤ 60 ∧ ∀ i, i < l.length → ChkE term l i
def StOK (t v : Int) (l : List (El kkb53)) : Prop := (0 ≤ t ∧ t ≤ 1000000) ∧ (-1 ≤ v ∧ v ≤ 6) ∧ LogOK t l
def Short (l : List (El kkb53)) : Prop := l.length ≤ 1000000000000 ∧ ∀ e ∈ l, e.2.2.size ≤ 1000000000000
theorem entryOK_i' (t k : Int) (s : ByteArray) (h : s.size ≤ 1000000000000) : gq146 t k s = some (entOK t k (bytesL s)) := by
 have := entryOK_i t k (bytesL s) (IsBytes.bytesL s) (by rw [bytesL_length]; exact h)
 rwa [strL_bytesL] at this
theorem entryOK_s' (t k : Int) (s : ByteArray) (h : s.size ≤ 1000000000000) : gq132 t k s = some (entOK t k (bytesL s)) := by
 have := entryOK_s t k (bytesL s) (IsBytes.bytesL s) (by rw [bytesL_length]; exact h)
 rwa [strL_bytesL] at this
theorem logOK_i (l : List (El kkb53)) (term : Int) (hs : Short l) : ∃ b, gq92 l term = some b ∧ (b = true ↔ LogOK term l) := by
 unfold gq92 gq92.F
 have key : ∀ (m n j : Nat), j + m = l.length → m < n → ∃ b, gq92.l1 (fun log1 => some (decide ((List.length log1 : Int) ≤ (60 : Int)))) (fun b => some b) n l term l l.length j = some b ∧ (b = true ↔ l.length ≤ 60 ∧ ∀ i, j ≤ i → i < l.length → ChkE term l i) := by
  intro m
  induction m with
  | zero =>
   intro n j e hn
   obtain ⟨n, rfl⟩ : ∃ q, n = q + 1 := ⟨n - 1, by omega⟩
   simp only [gq92.l1]
   rw [decide_f (by omega), cf]
   refine ⟨_, rfl, ?_⟩
   rw [decide_eq_true_iff]
   exact ⟨fun h => ⟨by omega, fun i h1 h2 => by omega⟩, fun h => by have := h.1; omega⟩
  | succ m ih =>
   intro n j e hn
   obtain ⟨n, rfl⟩ : ∃ q, n = q + 1 := ⟨n - 1, by omega⟩
   have hj : j < l.length := by omega
   have hlen := hs.1
   have hsz := hs.2 _ (List.getElem_mem hj)
   obtain ⟨b, h1, h2⟩ := ih n (j + 1) (by omega) (by omega)
   simp only [gq92.l1]
   rw [decide_t (by omega), ct, grd_of (gIx_t (by omega) (by omega)), Int.toNat_natCast, rdE_at (k := kkb53) hj, entryOK_i' _ _ _ hsz, bs, wr (x := (j : Int) + 1) (by omega) (by omega), show ((j : Int) + 1) = ((j + 1 : Nat) : Int) by omega]
   have no : ∀ q : Prop, (¬ ChkE term l j) → (∃ b, (some false : Option Bool) = some b ∧ (b = true ↔ l.length ≤ 60 ∧ ∀ i, j ≤ i → i < l.length → ChkE term l i)) := fun _ hc => ⟨false, rfl, by simp; intro _; exact ⟨j, Nat.le_refl _, hj, hc⟩⟩
   cases hok : entOK l[j].1 l[j].2.1 (bytesL l[j].2.2) with
   | false =>
    rw [Bool.not_false, ct]
    exact no True fun ⟨_, h3, _⟩ => by rw [hok] at h3; simp at h3
   | true =>
    rw [Bool.not_true, cf]
    by_cases ht : l[j].1 > term
    ·rw [decide_t ht, ct]
     exact no True fun ⟨_, _, h3, _⟩ => absurd h3 (Int.not_le.2 ht)
    ·rw [decide_f ht, cf]
     have yes : (∀ (h0 : 0 < j), (l[j - 1]'(by omega)).1 ≤ l[j].1) → ∃ b', gq92.l1 (fun log1 => some (decide ((List.length log1 : Int) ≤ (60 : Int)))) (fun b => some b) n l term l l.length ((j + 1 : Nat) : Int) = some b' ∧ (b' = true ↔ l.length ≤ 60 ∧ ∀ i, j ≤ i → i < l.length → ChkE term l i) := fun hp => by
      refine ⟨b, h1, h2.trans ⟨fun ⟨h3, h4⟩ => ⟨h3, fun i h5 h6 => ?_⟩, fun ⟨h3, h4⟩ => ⟨h3, fun i h5 h6 => h4 i (by omega) h6⟩⟩⟩
      rcases Nat.eq_or_lt_of_le h5 with rfl | h5
      ·exact ⟨hj, hok, Int.not_lt.1 ht, hp⟩
      ·exact h4 i h5 h6
     by_cases h0 : (j : Int) > 0
     ·rw [decide_t h0, ct, wr (x := (j : Int) - 1) (by omega) (by omega), grd_of (gIx_t (by omega) (by omega)), show ((j : Int) - 1).toNat = j - 1 by omega, rdE_at (k := kkb53) (show j - 1 < l.length by omega)]
      by_cases hp : (l[j - 1]'(by omega)).1 > l[j].1
      ·rw [decide_t hp, ct]
       exact no True fun ⟨_, _, _, h3⟩ => absurd (h3 (by omega)) (Int.not_le.2 hp)
      ·rw [decide_f hp, cf]
       exact yes fun _ => Int.not_lt.1 hp
     ·rw [decide_f h0, cf]
      exact yes fun h => by omega
 obtain ⟨b, h1, h2⟩ := key l.length fuel 0 (by omega) (fuel_big (by have := hs.1; omega))
 exact ⟨b, h1, h2.trans ⟨fun ⟨h3, h4⟩ => ⟨h3, fun i h => h4 i (by omega) h⟩, fun ⟨h3, h4⟩ => ⟨h3, fun i _ h => h4 i h⟩⟩⟩
theorem stateOK_i (t v : Int) (l : List (El kkb53)) (hs : Short l) : ∃ b, gq47 t v l = some b ∧ (b = true ↔ StOK t v l) := by
 unfold gq47 gq47.F StOK
 rw [within_eq, bs]
 by_cases h1 : 0 ≤ t ∧ t ≤ 1000000
 ·rw [decide_t h1.1, decide_t h1.2, Bool.and_self, ct, within_eq, bs]
  by_cases h2 : -1 ≤ v ∧ v ≤ 6
  ·obtain ⟨b, h3, h4⟩ := logOK_i l t hs
   rw [decide_t h2.1, decide_t h2.2, Bool.and_self, ct, h3, bs]
   exact ⟨b, rfl, h4.trans ⟨fun h => ⟨h1, h2, h⟩, fun h => h.2.2⟩⟩
  ·rw [show (decide (-1 ≤ v) && decide (v ≤ 6)) = false by rw [← Bool.not_eq_true, Bool.and_eq_true, decide_eq_true_iff, decide_eq_true_iff]; exact h2, cf]
   exact ⟨false, rfl, by simp; intro _ _ h3 h4; exact absurd ⟨h3, h4⟩ h2⟩
 ·rw [show (decide (0 ≤ t) && decide (t ≤ 1000000)) = false by rw [← Bool.not_eq_true, Bool.and_eq_true, decide_eq_true_iff, decide_eq_true_iff]; exact h1, cf]
  exact ⟨false, rfl, by simp; intro h3 h4; exact absurd ⟨h3, h4⟩ h1⟩
theorem stateOK_s (t v : Int) (l : List (El kkb53)) (hs : Short l) : ∃ b, gq79 t v l = some b ∧ (b = true ↔ StOK t v l) := by
 unfold gq79 gq79.F StOK
 have key : l.length ≤ 60 → ∀ (m n j : Nat), j + m = l.length → m < n → ∃ b, gq79.l1 (some true) (fun b => some b) n j t v l = some b ∧ (b = true ↔ ∀ i, j ≤ i → i < l.length → ChkE t l i) := by
  intro h60 m
  induction m with
  | zero =>
   intro n j e hn
   obtain ⟨n, rfl⟩ : ∃ q, n = q + 1 := ⟨n - 1, by omega⟩
   simp only [gq79.l1]
   rw [decide_f (by omega), cf]
   exact ⟨_, rfl, by simp; intro i h1 h2; omega⟩
  | succ m ih =>
   intro n j e hn
   obtain ⟨n, rfl⟩ : ∃ q, n = q + 1 := ⟨n - 1, by omega⟩
   have hj : j < l.length := by omega
   have hsz := hs.2 _ (List.getElem_mem hj)
   obtain ⟨b, h1, h2⟩ := ih n (j + 1) (by omega) (by omega)
   simp only [gq79.l1]
   rw [decide_t (by omega), ct, grd_of (gIx_t (by omega) (by omega)), Int.toNat_natCast, rdE_at (k := kkb53) hj, entryOK_s' _ _ _ hsz, bs, wr (x := (j : Int) + 1) (by omega) (by omega), show ((j : Int) + 1) = ((j + 1 : Nat) : Int) by omega]
   have no : ∀ q : Prop, (¬ ChkE t l j) → (∃ b, (some false : Option Bool) = some b ∧ (b = true ↔ ∀ i, j ≤ i → i < l.length → ChkE t l i)) := fun _ hc => ⟨false, rfl, by simp; exact ⟨j, Nat.le_refl _, hj, hc⟩⟩
   cases hok : entOK l[j].1 l[j].2.1 (bytesL l[j].2.2) with
   | false =>
    rw [Bool.not_false, ct]
    exact no True fun ⟨_, h3, _⟩ => by rw [hok] at h3; simp at h3
   | true =>
    rw [Bool.not_true, cf, grd_of (gIx_t (by omega) (by omega))]
    by_cases ht : l[j].1 > t
    ·rw [decide_t ht, ct]
     exact no True fun ⟨_, _, h3, _⟩ => absurd h3 (Int.not_le.2 ht)
    ·rw [decide_f ht, cf]
     have yes : (∀ (h0 : 0 < j), (l[j - 1]'(by omega)).1 ≤ l[j].1) → ∃ b', gq79.l1 (some true) (fun b => some b) n ((j + 1 : Nat) : Int) t v l = some b' ∧ (b' = true ↔ ∀ i, j ≤ i → i < l.length → ChkE t l i) := fun hp => by
      refine ⟨b, h1, h2.trans ⟨fun h4 i h5 h6 => ?_, fun h4 i h5 h6 => h4 i (by omega) h6⟩⟩
      rcases Nat.eq_or_lt_of_le h5 with rfl | h5
      ·exact ⟨hj, hok, Int.not_lt.1 ht, hp⟩
      ·exact h4 i h5 h6
     by_cases h0 : (j : Int) > 0
     ·rw [decide_t h0, ct, wr (x := (j : Int) - 1) (by omega) (by omega), grd_of (gIx_t (by omega) (by omega)), grd_of (gIx_t (by omega) (by omega)), show ((j : Int) - 1).toNat = j - 1 by omega, rdE_at (k := kkb53) (show j - 1 < l.length by omega)]
      by_cases hp : (l[j - 1]'(by omega)).1 > l[j].1
      ·rw [decide_t hp, ct]
       exact no True fun ⟨_, _, _, h3⟩ => absurd (h3 (by omega)) (Int.not_le.2 hp)
      ·rw [decide_f hp, cf]
       exact yes fun _ => Int.not_lt.1 hp
     ·rw [decide_f h0, cf]
      exact yes fun h => by omega
 rw [l01In_eq, bs]
 by_cases h1 : 0 ≤ t ∧ t ≤ 1000000
 ·rw [decide_t h1.1, decide_t h1.2, Bool.and_self, Bool.not_true, cf, l01In_eq, bs]
  by_cases h2 : -1 ≤ v ∧ v ≤ 6
  ·rw [decide_t h2.1, decide_t h2.2, Bool.and_self, Bool.not_true, cf]
   by_cases h3 : (l.length : Int) > 60
   ·rw [decide_t h3, ct]
    exact ⟨false, rfl, by simp; intro _ _ _ _ h4; have := h4.1; omega⟩
   ·rw [decide_f h3, cf]
    obtain ⟨b, h4, h5⟩ := key (by omega) l.length fuel 0 (by omega) (fuel_big (by omega))
    exact ⟨b, h4, h5.trans ⟨fun h => ⟨h1, h2, by omega, fun i hi => h i (by omega) hi⟩, fun h i _ hi => h.2.2.2 i hi⟩⟩
  ·rw [show (decide (-1 ≤ v) && decide (v ≤ 6)) = false by rw [← Bool.not_eq_true, Bool.and_eq_true, decide_eq_true_iff, decide_eq_true_iff]; exact h2, Bool.not_false, ct]
   exact ⟨false, rfl, by simp; intro _ _ h3 h4; exact absurd ⟨h3, h4⟩ h2⟩
 ·rw [show (decide (0 ≤ t) && decide (t ≤ 1000000)) = false by rw [← Bool.not_eq_true, Bool.and_eq_true, decide_eq_true_iff, decide_eq_true_iff]; exact h1, Bool.not_false, ct]
  exact ⟨false, rfl, by simp; intro h3 h4; exact absurd ⟨h3, h4⟩ h1⟩
end Go.Proofs.YtaanadbpnmcbcaaGreatDoorA
namespace Go.Proofs.YtaanadbpnmcbcaaGreatDoorA
open Go
set_option linter.unusedVariables false
set_option linter.unusedSimpArgs false
def segV : List Int → Int
 | [a, b, c] => cond (a == 115 && (digB b && digB c)) ((b - 48) * 10 + (c - 48)) 0
 | _ => 0
def segB (s : ByteArray) : Int := segV (bytesL s)
theorem segV_range (l : List Int) : 0 ≤ segV l ∧ segV l ≤ 99 := by
 unfold segV
 split
 ·rename_i a b c
  cases h : (a == 115 && (digB b && digB c)) with
  | false => rw [cond_false]; omega
  | true =>
   rw [Bool.and_eq_true, Bool.and_eq_true] at h
   have h1 := h.2.1
   have h2 := h.2.2
   unfold digB at h1 h2
   rw [Bool.and_eq_true, decide_eq_true_iff, decide_eq_true_iff] at h1 h2
   rw [cond_true]
   omega
 ·exact ⟨by decide, by decide⟩
theorem segB_range (s : ByteArray) : 0 ≤ segB s ∧ segB s ≤ 99 := segV_range _
def digitsD : ByteArray := ⟨#[48, 49, 50, 51, 52, 53, 54, 55, 56, 57]⟩
set_option maxRecDepth 100000 in
theorem dig_fin : ∀ n : Fin 256, ([48, 49, 50, 51, 52, 53, 54, 55, 56, 57] : List UInt8).contains (UInt8.ofNat n.1) = (decide (48 ≤ n.1) && decide (n.1 ≤ 57)) := by decide
theorem dig_contains {b : Int} (h0 : 0 ≤ b) (h1 : b < 256) : ([48, 49, 50, 51, 52, 53, 54, 55, 56, 57] : List UInt8).contains (UInt8.ofNat b.toNat) = digB b := by
 have := dig_fin ⟨b.toNat, by omega⟩
 dsimp only at this
 rw [this]
 unfold digB
 congr 1
 ·rw [decide_eq_decide]; omega
 ·rw [decide_eq_decide]; omega
theorem trim2 (b c : Int) (hb : 0 ≤ b ∧ b < 256) (hc : 0 ≤ c ∧ c < 256) : ∃ r, gq152 (strL [b, c]) digitsD = some r ∧ sEq r ByteArray.empty = (digB b && digB c) := by
 refine ⟨trimS (strL [b, c]) digitsD, ?_, ?_⟩
 ·rw [gq152_eq]
  unfold gq152.F
  rw [gTrim_eq, strL_size]
  rfl
 ·rw [trimS_eq, strL_list, show digitsD.data.toList = [48, 49, 50, 51, 52, 53, 54, 55, 56, 57] from rfl]
  have e : ∀ l : List UInt8, sEq (⟨l.toArray⟩ : ByteArray) ByteArray.empty = l.isEmpty := fun l => by
   cases l with
   | nil => exact sEq_self _
   | cons x l =>
    rw [sEq_dec]
    refine decide_eq_false fun h => ?_
    have := congrArg (fun a : ByteArray => a.data.toList) h
    simp at this
  rw [e]
  have h1 := dig_contains hb.1 hb.2
  have h2 := dig_contains hc.1 hc.2
  unfold Lib.trimS Lib.trimRightS Lib.trimLeftS
  simp only [List.map_cons, List.map_nil, List.reverse_cons, List.reverse_nil, List.nil_append, List.cons_append]
  cases hd : digB c with
  | false =>
   rw [hd] at h2
   rw [List.dropWhile_cons_of_neg (by rw [h2]; decide), Bool.and_false]
   simp only [List.reverse_cons, List.reverse_nil, List.nil_append, List.cons_append]
   cases hd1 : digB b with
   | false => rw [hd1] at h1; rw [List.dropWhile_cons_of_neg (by rw [h1]; decide)]; rfl
   | true => rw [hd1] at h1; rw [List.dropWhile_cons_of_pos h1, List.dropWhile_cons_of_neg (by rw [h2]; decide)]; rfl
  | true =>
   rw [hd] at h2
   rw [List.dropWhile_cons_of_pos h2, Bool.and_true]
   cases hd1 : digB b with
   | false =>
    rw [hd1] at h1
    rw [List.dropWhile_cons_of_neg (by rw [h1]; decide)]
    simp only [List.reverse_cons, List.reverse_nil, List.nil_append]
    rw [List.dropWhile_cons_of_neg (by rw [h1]; decide)]
    rfl
   | true =>
    rw [hd1] at h1
    rw [List.dropWhile_cons_of_pos h1]
    rfl
theorem three {l : List Int} (h : l.length = 3) : ∃ a b c, l = [a, b, c] := by
 match l, h with
 | [a, b, c], _ => exact ⟨a, b, c, rfl⟩
theorem seg_i (l : List Int) (hb : IsBytes l) (hl : l.length ≤ 1000000000000000) : gq115 (strL l) = some (segV l) := by
 unfold gq115 gq115.F
 rw [strL_size]
 by_cases h3 : l.length = 3
 ·obtain ⟨a, b, c, rfl⟩ := three h3
  have ha := hb a (by simp)
  have hb' := hb b (by simp)
  have hc := hb c (by simp)
  have g0 : byteAt (strL [a, b, c]) 0 = a := byteAt_strL hb (by decide) (by simp)
  have g1 : byteAt (strL [a, b, c]) 1 = b := byteAt_strL hb (by decide) (by simp)
  have g2 : byteAt (strL [a, b, c]) 2 = c := byteAt_strL hb (by decide) (by simp)
  rw [show ((([a, b, c] : List Int).length : Int) != 3) = false from rfl, cf, grd_of (gIx_t (by decide) (by simp)), g0, g1, g2]
  show _ = some (cond (a == 115 && (digB b && digB c)) ((b - 48) * 10 + (c - 48)) 0)
  cases h0 : a == 115 with
  | false => rw [bne, h0, Bool.not_false, ct]; rfl
  | true =>
   obtain ⟨r, hr1, hr2⟩ := trim2 b c hb' hc
   rw [bne, h0, Bool.not_true, cf, grd_of (gSl_t (by decide) (by simp) (by simp)), cut_strL, show sub [a, b, c] 1 (([a, b, c] : List Int).length : Int) = [b, c] from rfl, show (⟨#[48, 49, 50, 51, 52, 53, 54, 55, 56, 57]⟩ : ByteArray) = digitsD from rfl, hr1, bs, hr2]
   cases hd : (digB b && digB c) with
   | false => rfl
   | true =>
    rw [Bool.and_eq_true] at hd
    have h1 := hd.1
    have h2 := hd.2
    unfold digB at h1 h2
    rw [Bool.and_eq_true, decide_eq_true_iff, decide_eq_true_iff] at h1 h2
    rw [Bool.not_true, cf, grd_of (gIx_t (by decide) (by simp)), grd_of (gIx_t (by decide) (by simp)), wr8 (by omega) (by omega), wr8 (by omega) (by omega), wr (x := b - 48) (by omega) (by omega), wr (x := c - 48) (by omega) (by omega), wr (x := (b - 48) * 10) (by omega) (by omega), wr (by omega) (by omega)]
    rfl
 ·rw [show ((l.length : Int) != 3) = true by simp; omega, ct]
  unfold segV
  split
  ·exact absurd rfl h3
  ·rfl
theorem segB_i (s : ByteArray) (h : s.size ≤ 1000000000000000) : gq115 s = some (segB s) := by
 have := seg_i (bytesL s) (IsBytes.bytesL s) (by rw [bytesL_length]; exact h)
 rwa [strL_bytesL] at this
def nmV (n : Int) : ByteArray := strL [115, 48 + n / 10, 48 + n % 10]
theorem nm_of_seg {s : ByteArray} (h : 0 < segB s) : s = nmV (segB s) := by
 unfold segB at h ⊢
 have e : s = strL (bytesL s) := (strL_bytesL s).symm
 obtain ⟨l, hl⟩ : ∃ l, bytesL s = l := ⟨_, rfl⟩
 rw [hl] at h e ⊢
 rw [e]
 unfold segV at h ⊢
 split at h
 ·rename_i a b c
  cases hd : (a == 115 && (digB b && digB c)) with
  | false => rw [hd] at h; simp at h
  | true =>
   rw [Bool.and_eq_true, Bool.and_eq_true, beq_iff_eq] at hd
   obtain ⟨rfl, h1, h2⟩ := hd
   unfold digB at h1 h2
   rw [Bool.and_eq_true, decide_eq_true_iff, decide_eq_true_iff] at h1 h2
   rw [cond_true, nmV]
   congr 1
   simp only [List.cons.injEq, and_true, true_and]
   omega
 ·simp at h
def segs (l : List (El kFile)) : List (El kFile) := l.filter fun f => decide (0 < segB f.1)
theorem segs_i {R : Type} (kke : Int → Int → List (El kFile) → Option R) (l : List (El kFile)) (hl : l.length ≤ 1000000) (hn : NamesFit l) (a b : Int) : ∀ (m fu j : Nat) (acc : List (El kFile)), j + m = l.length → m < fu → acc.length + m ≤ 1000000 →
  gq66.l1 kke fu l (l.length : Int) (j : Int) a b acc = kke a b (acc ++ segs (l.drop j))
 | 0, fu + 1, j, acc, e, _, _ => by
  simp only [gq66.l1]
  rw [decide_f (by omega), cf, List.drop_of_length_le (by omega), segs, List.filter_nil, List.append_nil]
 | m + 1, fu + 1, j, acc, e, hf, ha => by
  have hj : j < l.length := by omega
  simp only [gq66.l1]
  rw [decide_t (by omega), ct, grd_of (gIx_t (by omega) (by omega)), Int.toNat_natCast, segB_i _ (hn.rd hj), bs, rdE_at (k := kFile) hj, wr (by omega) (by omega), show ((j : Int) + 1) = ((j + 1 : Nat) : Int) by omega, drop_cons hj, segs, List.filter_cons]
  by_cases h : 0 < segB l[j].1
  ·rw [decide_t h, ct, if_pos rfl, grd_of (gRm_t (by simp; omega)), segs_i kke l hl hn a b m fu (j + 1) _ (by omega) (by omega) (by simp; omega), List.append_assoc]
   rfl
  ·rw [decide_f h, cf, if_neg (by decide), segs_i kke l hl hn a b m fu (j + 1) _ (by omega) (by omega) (by omega)]
   rfl
end Go.Proofs.YtaanadbpnmcbcaaGreatDoorA
namespace Go.Proofs.YtaanadbpnmcbcaaGreatDoorA
open Go
set_option linter.unusedVariables false
set_option linter.unusedSimpArgs false
abbrev WV := Int × List ByteArray × List ByteArray × Int × Int
def wErr (c : Int) : WV := (0, [], [], 0, c)
def frF (f : El kFile) : List ByteArray × Int × Int := frT (bytesL f.2.1)
def cW (F : Int) (R N : List ByteArray) (last : Int) (f : El kFile) (isLast : Bool) : Int :=
 cond ((frF f).2.2 != 0 && !(isLast && (frF f).2.2 == 16)) 8
  (cond (!N.isEmpty && segB f.1 != last + 1) 3
  (cond ((frF f).1.isEmpty) (cond isLast 0 3)
  (cond ((ByteArray.size ((frF f).1.headD ByteArray.empty) : Int) != 4) 3
  (cond (!N.isEmpty && beN 0 (bytesL ((frF f).1.headD ByteArray.empty)) != F + (R.length : Int)) 3 0))))
def fW (F : Int) (N : List ByteArray) (f : El kFile) : Int := cond ((frF f).1.isEmpty || !N.isEmpty) F (beN 0 (bytesL ((frF f).1.headD ByteArray.empty)))
def wGo : List (El kFile) → Int → Int → List ByteArray → List ByteArray → Int → WV
 | [], _, F, R, N, T => (F, R, N, T, 0)
 | f :: fs, last, F, R, N, T => cond (cW F R N last f fs.isEmpty != 0) (wErr (cW F R N last f fs.isEmpty))
  (wGo fs (segB f.1) (fW F N f) (R ++ (frF f).1.tail) (N ++ [f.1]) ((ByteArray.size f.2.1 : Int) - (frF f).2.1))
theorem frF_code (f : El kFile) : (frF f).2.2 = 0 ∨ (frF f).2.2 = 8 ∨ (frF f).2.2 = 16 := frs_code _ _
theorem frF_size (f : El kFile) : (frF f).1.length ≤ ByteArray.size f.2.1 ∧ (∀ s ∈ (frF f).1, s.size ≤ 200) ∧ 0 ≤ (frF f).2.1 ∧ (frF f).2.1 ≤ (ByteArray.size f.2.1 : Int) := by
 obtain ⟨h1, h2, h3⟩ := frs_size (bytesL f.2.1).length (bytesL f.2.1)
 rw [bytesL_length] at h1 h3
 unfold frF frT
 rw [bytesL_length] at *
 exact ⟨h1, h2, by show (0 : Int) ≤ (((frs _ _).2.1 : Nat) : Int); omega, by show (((frs _ _).2.1 : Nat) : Int) ≤ _; omega⟩
theorem frF_i (f : El kFile) (h : ByteArray.size f.2.1 ≤ 1000000000) : gq102 f.2.1 = some (frF f) := by
 have := frames_i (bytesL f.2.1) (IsBytes.bytesL _) (by rw [bytesL_length]; exact h)
 rwa [strL_bytesL] at this
theorem num4 (s : ByteArray) (h : (s.size : Int) = 4) : gq103 s = some (beN 0 (bytesL s)) := by
 have := numberOf_eq (bytesL s) (IsBytes.bytesL s) (by rw [bytesL_length]; omega)
 rwa [strL_bytesL] at this
theorem num4_range (s : ByteArray) (h : (s.size : Int) = 4) : 0 ≤ beN 0 (bytesL s) ∧ beN 0 (bytesL s) < 4294967296 := by
 have := beN_bounds (bytesL s) 0 (IsBytes.bytesL s) (by decide)
 rw [bytesL_length, show s.size = 4 by omega] at this
 exact ⟨this.1, by have := this.2; omega⟩
theorem seg_step (F : Int) (R N : List ByteArray) (T last : Int) (f : El kFile) (isLast : Bool) (hF : 0 ≤ F ∧ F < 4294967296) (hR : R.length ≤ 1000000) (hN : N.length ≤ 1000) (hl : 0 ≤ last ∧ last ≤ 99) (hlN : (0 < last) ↔ N.isEmpty = false) (hn : ByteArray.size f.1 ≤ 1000000) (hd : ByteArray.size f.2.1 ≤ 1000000) :
  ∃ s, gq116 F R N T last f.1 f.2.1 f.2.2 isLast = some (cW F R N last f isLast, s) ∧ (cW F R N last f isLast = 0 → s = (fW F N f, R ++ (frF f).1.tail, N ++ [f.1], (ByteArray.size f.2.1 : Int) - (frF f).2.1, segB f.1)) := by
 unfold gq116 gq116.F gq116.j2 gq116.j1
 have hsz := frF_size f
 have hsr := segB_range f.1
 have hcode := frF_code f
 rw [frF_i f (by omega), bs, segB_i f.1 (by omega), bs]
 unfold cW fW
 obtain ⟨t, ht⟩ : ∃ t, frF f = t := ⟨_, rfl⟩
 rw [ht] at hsz hcode ⊢
 obtain ⟨fr, used, code⟩ := t
 obtain ⟨nm, dt, sr⟩ := f
 obtain ⟨sg, hsg⟩ : ∃ sg, segB nm = sg := ⟨_, rfl⟩
 dsimp only at hsz hcode hsr hn hd ⊢
 rw [hsg] at hsr ⊢
 have e1 : decide (last > 0) = !N.isEmpty := by
  rw [Bool.eq_iff_iff, decide_eq_true_iff, Bool.not_eq_true']
  exact hlN
 have e2 : (IntKind.wrap .i64 (last + 1)) = last + 1 := wr (by omega) (by omega)
 have e3 : IntKind.wrap .i64 ((ByteArray.size dt : Int) - used) = (ByteArray.size dt : Int) - used := wr (by omega) (by omega)
 have e4 : grd (gRm ((List.length N + List.length [nm]) * 16)) = fun (x : Option (Int × Int × List ByteArray × List ByteArray × Int × Int)) => x := by
  funext x
  exact grd_of (gRm_t (by simp; omega)) x
 have e5 : ((List.length (N ++ [nm]) : Int) == 1) = N.isEmpty := by
  rw [Bool.eq_iff_iff, beq_iff_eq, List.isEmpty_iff]
  constructor
  ·intro h; simp at h; exact List.eq_nil_of_length_eq_zero (by omega)
  ·rintro rfl; rfl
 have e6 : decide ((List.length (N ++ [nm]) : Int) > 1) = !N.isEmpty := by
  rw [Bool.eq_iff_iff, decide_eq_true_iff, Bool.not_eq_true']
  cases N with
  | nil => simp
  | cons x l => simp; omega
 unfold gq116.j3 gq116.j4 gq153 gq153.F
 simp only [e1, e2, e3, e4, e5, e6]
 cases fr with
 | nil =>
  simp only [List.length_nil, List.isEmpty_nil, Bool.true_or, cond_true, List.tail_nil, List.append_nil, show (((0 : Nat) : Int) == 0) = true from rfl]
  cases code != 0 <;> cases isLast <;> cases code == 16 <;> cases N.isEmpty <;> cases sg != last + 1 <;> first | exact ⟨_, rfl, fun _ => rfl⟩ | exact ⟨_, rfl, fun h => by simp at h⟩
 | cons h0 tl =>
  have hh := hsz.2.1 h0 (by simp)
  have htl : tl.length + 1 ≤ ByteArray.size dt := hsz.1
  obtain ⟨n0, hn0, hn4⟩ : ∃ n0, gq103 h0 = some n0 ∧ (((h0.size : Int) != 4) = false → n0 = beN 0 (bytesL h0)) := by
   by_cases h4 : (h0.size : Int) = 4
   ·exact ⟨_, num4 h0 h4, fun _ => rfl⟩
   ·obtain ⟨n, hn⟩ := numberOf_total h0 (by omega)
    exact ⟨n, hn, fun h => by simp [h4] at h⟩
  have e7 : ((List.length (h0 :: tl) : Int) == 0) = false := by rw [beq_eq_false_iff_ne]; simp; omega
  have e8 : (rdE (.str : Kd) (h0 :: tl) (Int.toNat 0)) = h0 := rfl
  have e9 : IntKind.wrap .i64 (F + (List.length R : Int)) = F + (List.length R : Int) := wr (by omega) (by omega)
  have e10 : sub (h0 :: tl) 1 (List.length (h0 :: tl) : Int) = tl := by
   unfold sub
   rw [Int.toNat_natCast, List.take_length]
   rfl
  simp only [e7, e8, hn0, bs, e9, e10, grd_of (gIx_t (i := 0) (n := List.length (h0 :: tl)) (by decide) (by simp only [List.length_cons]; omega)), grd_of (gSl_t (l := 1) (h := (List.length (h0 :: tl) : Int)) (n := List.length (h0 :: tl)) (by decide) (by simp only [List.length_cons]; omega) (Int.le_refl _)), grd_of (gRm_t (n := (List.length R + List.length tl) * 16) (by omega)), List.isEmpty_cons, Bool.false_or, List.headD_cons, List.tail_cons]
  cases h4 : ((h0.size : Int) != 4) with
  | true => cases code != 0 <;> cases isLast <;> cases code == 16 <;> cases N.isEmpty <;> cases sg != last + 1 <;> first | exact ⟨_, rfl, fun _ => rfl⟩ | exact ⟨_, rfl, fun h => by simp at h⟩
  | false =>
   have := hn4 h4
   subst this
   cases code != 0 <;> cases isLast <;> cases code == 16 <;> cases N.isEmpty <;> cases sg != last + 1 <;> cases beN 0 (bytesL h0) != F + (List.length R : Int) <;> first | exact ⟨_, rfl, fun _ => rfl⟩ | exact ⟨_, rfl, fun h => by simp at h⟩
theorem cW_four {F : Int} {R N : List ByteArray} {last : Int} {f : El kFile} {b : Bool} (h : cW F R N last f b = 0) (hn : (frF f).1.isEmpty = false) : (ByteArray.size ((frF f).1.headD ByteArray.empty) : Int) = 4 := by
 unfold cW at h
 rw [hn] at h
 cases h1 : ((frF f).2.2 != 0 && !(b && (frF f).2.2 == 16)) with
 | true => rw [h1] at h; simp at h
 | false =>
  cases h2 : (!N.isEmpty && segB f.1 != last + 1) with
  | true => rw [h1, h2] at h; simp at h
  | false =>
   rw [h1, h2] at h
   cases h3 : ((ByteArray.size ((frF f).1.headD ByteArray.empty) : Int) != 4) with
   | true => rw [h3] at h; simp at h
   | false => simpa using h3
theorem fW_range {F : Int} {R N : List ByteArray} {last : Int} {f : El kFile} {b : Bool} (h : cW F R N last f b = 0) (hF : 0 ≤ F ∧ F < 4294967296) : 0 ≤ fW F N f ∧ fW F N f < 4294967296 := by
 unfold fW
 cases hn : (frF f).1.isEmpty with
 | true => exact hF
 | false =>
  cases N.isEmpty with
  | true => exact num4_range _ (cW_four h hn)
  | false => exact hF
def SegOk (S : List (El kFile)) : Prop := ∀ f ∈ S, 0 < segB f.1 ∧ ByteArray.size f.1 ≤ 40 ∧ ByteArray.size f.2.1 ≤ 3000
theorem isLast_eq {S : List (El kFile)} {j : Nat} (hj : j < S.length) (hS : S.length ≤ 1000) : ((j : Int) == IntKind.wrap .i64 ((S.length : Int) - 1)) = (S.drop (j + 1)).isEmpty := by
 rw [wr (by omega) (by omega), Bool.eq_iff_iff, beq_iff_eq, List.isEmpty_iff, List.drop_eq_nil_iff]
 omega
theorem walGo_i (S : List (El kFile)) (hS : S.length ≤ 100) (hok : SegOk S) (a b : Int) : ∀ (m fu j : Nat) (F : Int) (R N : List ByteArray) (T last : Int), j + m = S.length → m < fu → 0 ≤ F ∧ F < 4294967296 → R.length + 4000 * m ≤ 1000000 → N.length + m ≤ 1000 → 0 ≤ last ∧ last ≤ 99 → ((0 < last) ↔ N.isEmpty = false) →
  gq66.l2 (fun i2 i3 r r1 r2 l l1 => some ((r, l, l1, r1, (0 : Int)) : WV)) (fun i4 i5 i6 => some ((i5, [], [], i6, i4) : WV)) fu (S.length : Int) (j : Int) a b S F T last R N = some (wGo (S.drop j) last F R N T)
 | 0, fu + 1, j, F, R, N, T, last, e, _, _, _, _, _, _ => by
  simp only [gq66.l2]
  rw [decide_f (by omega), cf, List.drop_of_length_le (by omega), wGo]
 | m + 1, fu + 1, j, F, R, N, T, last, e, hf, hF, hR, hN, hl, hlN => by
  have hj : j < S.length := by omega
  obtain ⟨f, hfe⟩ : ∃ f, S[j] = f := ⟨_, rfl⟩
  obtain ⟨k1, k2, k3⟩ := hok S[j] (List.getElem_mem hj)
  simp only [gq66.l2]
  rw [decide_t (by omega), ct, grd_of (gIx_t (by omega) (by omega)), Int.toNat_natCast, isLast_eq hj (by omega), rdE_at (k := kFile) hj, drop_cons hj, wr (x := (j : Int) + 1) (by omega) (by omega), show ((j : Int) + 1) = ((j + 1 : Nat) : Int) by omega]
  rw [hfe] at k1 k2 k3 ⊢
  obtain ⟨s, h1, h2⟩ := seg_step F R N T last f (S.drop (j + 1)).isEmpty hF (by omega) (by omega) hl hlN (by omega) (by omega)
  rw [h1, bs, wGo]
  dsimp only
  by_cases hc : cW F R N last f (S.drop (j + 1)).isEmpty = 0
  ·rw [show (cW F R N last f (S.drop (j + 1)).isEmpty != 0) = false by rw [hc]; rfl, cf, cf, h2 hc]
   have hsz := (frF_size f).1
   have hsr := segB_range f.1
   exact walGo_i S hS hok a b m fu (j + 1) _ _ _ _ _ (by omega) (by omega) (fW_range hc hF) (by simp; omega) (by simp; omega) hsr ⟨fun _ => by simp, fun _ => k1⟩
  ·rw [show (cW F R N last f (S.drop (j + 1)).isEmpty != 0) = true by simp [hc], ct, ct]
   rfl
theorem segs_ok {room : Int} {l : List (El kFile)} (h : DK room l) : SegOk (segs l) := fun f hf => by
 have hm := (List.mem_filter.1 hf)
 obtain ⟨i, hi, rfl⟩ := List.getElem_of_mem hm.1
 exact ⟨of_decide_eq_true hm.2, (nameB_size (h.name i hi)).2, h.data hm.1⟩
theorem DK.fit {room : Int} {l : List (El kFile)} (h : DK room l) : NamesFit l := fun f hf => by
 obtain ⟨i, hi, rfl⟩ := List.getElem_of_mem hf
 have := nameB_size (h.name i hi)
 omega
def wV (l : List (El kFile)) : WV := wGo (segs l) 0 0 [] [] 0
theorem segs_len (l : List (El kFile)) : (segs l).length ≤ l.length := List.length_filter_le _ _
theorem wal_i {room : Int} {l : List (El kFile)} (h : DK room l) : gq66 room l = some (wV l) := by
 have hlen := h.len
 have hs := segs_len l
 unfold gq66 gq66.F
 have e1 := segs_i (fun i i1 segments => gq66.l2 (fun i2 i3 r r1 r2 l l1 => some ((r, l, l1, r1, (0 : Int)) : WV)) (fun i4 i5 i6 => some ((i5, [], [], i6, i4) : WV)) fuel (List.length segments : Int) (0 : Int) i i1 segments (0 : Int) (0 : Int) (0 : Int) [] []) l (by omega) h.fit 0 0 l.length fuel 0 [] (by omega) (fuel_big (by omega)) (by simp; omega)
 rw [Int.natCast_zero, List.drop_zero, List.nil_append] at e1
 rw [e1]
 have e2 := walGo_i (segs l) (by omega) (segs_ok h) 0 0 (segs l).length fuel 0 0 [] [] 0 0 (by omega) (fuel_big (by omega)) (by decide) (by simp; omega) (by simp; omega) (by decide) (by simp)
 rw [Int.natCast_zero, List.drop_zero] at e2
 exact e2
noncomputable def readV (room : Int) (l : List (El kFile)) : WV := cond (dOK room l) (wV l) (wErr 1)
theorem walRead_i (room : Int) (l : List (El kFile)) (hl : l.length ≤ 1000000000) (h : DFit l) : gq21 room l = some (readV room l) := by
 unfold gq21 gq21.F readV
 rw [disk_i room l hl h, bs]
 cases hd : dOK room l with
 | false => rfl
 | true => rw [Bool.not_true, cf, wal_i (dOK_DK hd), bs, ct]
theorem wGo_len : ∀ (S : List (El kFile)) (last F : Int) (R N : List ByteArray) (T : Int) (B : Nat), SegOk S → (∀ s ∈ R, s.size ≤ 200) → R.length ≤ B → (wGo S last F R N T).2.1.length ≤ B + 3000 * S.length ∧ ∀ s ∈ (wGo S last F R N T).2.1, s.size ≤ 200
 | [], _, _, R, _, _, B, _, h1, h2 => ⟨by simpa [wGo] using h2, h1⟩
 | f :: fs, last, F, R, N, T, B, hs, h1, h2 => by
  rw [wGo]
  cases hc : cW F R N last f fs.isEmpty != 0 with
  | true => exact ⟨by simp [wErr], fun s h => by simp [wErr] at h⟩
  | false =>
   have hsz := frF_size f
   have hf := hs f (by simp)
   have := wGo_len fs (segB f.1) (fW F N f) (R ++ (frF f).1.tail) (N ++ [f.1]) ((ByteArray.size f.2.1 : Int) - (frF f).2.1) (B + 3000) (fun g hg => hs g (by simp [hg])) (fun s hm => by
    rcases List.mem_append.1 hm with hm | hm
    ·exact h1 s hm
    ·exact hsz.2.1 s (List.mem_of_mem_tail hm)) (by simp; omega)
   rw [cond_false]
   refine ⟨by have := this.1; simp only [List.length_cons]; omega, this.2⟩
theorem wV_len {room : Int} {l : List (El kFile)} (h : DK room l) : (wV l).2.1.length ≤ 24000 ∧ ∀ s ∈ (wV l).2.1, s.size ≤ 200 := by
 have := wGo_len (segs l) 0 0 [] [] 0 0 (segs_ok h) (fun s h => by simp at h) (Nat.le_refl _)
 have h1 := segs_len l
 have h2 := h.len
 exact ⟨by have := this.1; unfold wV; omega, this.2⟩
end Go.Proofs.YtaanadbpnmcbcaaGreatDoorA
namespace Go.Proofs.YtaanadbpnmcbcaaGreatDoorA
open Go
set_option linter.unusedVariables false
set_option linter.unusedSimpArgs false
theorem cmp_less : ∀ a b : List UInt8, (Lib.compareBytes a b < 0 ↔ Op.bytesLess a b = true) ∧ (Lib.compareBytes a b = 0 ↔ a = b)
 | [], [] => by simp [Lib.compareBytes, Op.bytesLess]
 | [], _ :: _ => by simp [Lib.compareBytes, Op.bytesLess]
 | _ :: _, [] => by simp [Lib.compareBytes, Op.bytesLess]
 | x :: a, y :: b => by
  have ih := cmp_less a b
  unfold Lib.compareBytes Op.bytesLess
  by_cases h1 : x < y
  ·rw [if_pos h1]
   have hne : x ≠ y := by rintro rfl; exact absurd h1 (Nat.lt_irrefl _)
   simp [h1, hne]
  ·rw [if_neg h1]
   by_cases h2 : y < x
   ·rw [if_pos h2]
    have hne : x ≠ y := by rintro rfl; exact absurd h2 (Nat.lt_irrefl _)
    simp [h1, hne]
   ·rw [if_neg h2]
    have e : x = y := by
     apply UInt8.toNat_inj.1
     have h1 : ¬ x.toNat < y.toNat := h1
     have h2 : ¬ y.toNat < x.toNat := h2
     omega
    subst e
    simp [h1, ih.1, ih.2]
theorem cmpS_lt (a b : ByteArray) : decide (cmpS a b < 0) = sLt a b := by
 rw [cmpS_eq, Bool.eq_iff_iff, decide_eq_true_iff, (cmp_less _ _).1]
 unfold sLt
 rw [ByteArray.toList_eq, ByteArray.toList_eq]
theorem cmpS_zero (a b : ByteArray) : (cmpS a b == 0) = decide (a = b) := by
 rw [cmpS_eq, Bool.eq_iff_iff, beq_iff_eq, decide_eq_true_iff, (cmp_less _ _).2]
 exact ⟨ba_ext, fun h => by rw [h]⟩
def Rise (l : List (El kFile)) : Prop := ∀ i (h : i + 1 < l.length), sLt (l[i]'(by omega)).1 l[i + 1].1 = true
theorem half_mid (i j : Nat) (h : i < j) (hj : j ≤ 1000000000) : IntKind.wrap .i64 (iShr .u64 (IntKind.wrap .u64 (IntKind.wrap .i64 ((i : Int) + (j : Int)))) 1) = (((i + j) / 2 : Nat) : Int) := by
 rw [wr (x := (i : Int) + (j : Int)) (by omega) (by omega)]
 have e : IntKind.wrap .u64 ((i : Int) + (j : Int)) = (i : Int) + (j : Int) := by
  unfold IntKind.wrap
  simp [IntKind.signed, IntKind.bits]
  omega
 rw [e]
 unfold iShr
 rw [show min (1 : Int).toNat (IntKind.bits .u64) = 1 from rfl, Int.fdiv_eq_ediv_of_nonneg _ (by decide)]
 rw [wr (by omega) (by omega)]
 omega
noncomputable def cmpF (name : ByteArray) : ((ByteArray × ByteArray × Int × Unit) × ByteArray × Unit) → Option (Int × Unit) := fun t => (gq128 t.1.1 t.1.2.1 t.1.2.2.1 t.2.1).bind fun a => some (a, ())
theorem cmpF_eq (f : El kFile) (name : ByteArray) : (gq128 f.1 f.2.1 f.2.2 name) = some (cmpS f.1 name) := by
 unfold gq128 gq128.F
 rw [gq129_eq]
 rfl
theorem Rise.lt {l : List (El kFile)} (h : Rise l) : ∀ (d i : Nat) (hi : i + d + 1 < l.length), sLt (l[i]'(by omega)).1 (l[i + d + 1]'hi).1 = true
 | 0, i, hi => h i hi
 | d + 1, i, hi => sLt_trans (Rise.lt h d i (by omega)) (h (i + d + 1) (by omega))
structure Pos (l : List (El kFile)) (name : ByteArray) (p : Nat) : Prop where
 le : p ≤ l.length
 lo : ∀ q (h : q < l.length), q < p → sLt l[q].1 name = true
 hi : ∀ q (h : q < l.length), p ≤ q → sLt l[q].1 name = false
theorem search_i {R : Type} (kke : List (El kFile) → ByteArray → Int → Int → Option R) (l : List (El kFile)) (hl : l.length ≤ 1000000) (hr : Rise l) (name : ByteArray) (n_ : Int) : ∀ (m fu i j : Nat), j ≤ i + m → m < fu → i ≤ j → j ≤ l.length →
  (∀ q (h : q < l.length), q < i → sLt l[q].1 name = true) → (∀ q (h : q < l.length), j ≤ q → sLt l[q].1 name = false) →
  ∃ p : Nat, gq127.l1 (cmpF name) kke fu l name n_ (i : Int) (j : Int) = kke l name n_ (p : Int) ∧ Pos l name p := by
 intro m
 induction m with
 | zero =>
  intro fu i j h1 hf h2 h3 hlo hhi
  obtain ⟨fu, rfl⟩ : ∃ q, fu = q + 1 := ⟨fu - 1, by omega⟩
  obtain rfl : i = j := by omega
  simp only [gq127.l1]
  rw [decide_f (by omega), cf]
  exact ⟨i, rfl, h3, hlo, hhi⟩
 | succ m ih =>
  intro fu i j h1 hf h2 h3 hlo hhi
  obtain ⟨fu, rfl⟩ : ∃ q, fu = q + 1 := ⟨fu - 1, by omega⟩
  simp only [gq127.l1]
  by_cases h : i < j
  ·have hk : (i + j) / 2 < l.length := by omega
   rw [decide_t (by omega), ct, grd_of (gSh_t (by decide)), half_mid i j h (by omega), grd_of (gIx_t (by omega) (by omega)), Int.toNat_natCast, rdE_at (k := kFile) hk]
   have ec : cmpF name ((l[(i + j) / 2].1, l[(i + j) / 2].2.1, l[(i + j) / 2].2.2, ()), name, ()) = some (cmpS l[(i + j) / 2].1 name, ()) := by
    unfold cmpF
    dsimp only
    rw [cmpF_eq]
    rfl
   rw [ec, bs]
   dsimp only
   rw [cmpS_lt, wr (by omega) (by omega), show (((i + j) / 2 : Nat) : Int) + 1 = (((i + j) / 2 + 1 : Nat) : Int) by omega]
   cases hc : sLt l[(i + j) / 2].1 name with
   | true =>
    rw [ct]
    refine ih fu ((i + j) / 2 + 1) j (by omega) (by omega) (by omega) h3 (fun q hq hlt => ?_) hhi
    by_cases he : q = (i + j) / 2
    ·subst he; exact hc
    ·obtain ⟨d, hd⟩ : ∃ d, (i + j) / 2 = q + d + 1 := ⟨(i + j) / 2 - q - 1, by omega⟩
     have h5 := hr.lt d q (by omega)
     simp only [← hd] at h5
     exact sLt_trans h5 hc
   | false =>
    rw [cf]
    refine ih fu i ((i + j) / 2) (by omega) (by omega) (by omega) (by omega) hlo (fun q hq hle => ?_)
    by_cases he : q = (i + j) / 2
    ·subst he; exact hc
    ·obtain ⟨d, rfl⟩ : ∃ d, q = (i + j) / 2 + d + 1 := ⟨q - (i + j) / 2 - 1, by omega⟩
     have h5 := hr.lt d ((i + j) / 2) (by omega)
     rw [← Bool.not_eq_true]
     intro h6
     rw [sLt_trans h5 h6] at hc
     cases hc
  ·obtain rfl : i = j := by omega
   rw [decide_f (by omega), cf]
   exact ⟨i, rfl, h3, hlo, hhi⟩
theorem fileAt_i (room : Int) (l : List (El kFile)) (hl : l.length ≤ 1000000) (hr : Rise l) (name : ByteArray) : ∃ p : Nat, gq76 room l name = some ((p : Int), match l[p]? with | some f => decide (f.1 = name) | none => false) ∧ Pos l name p := by
 unfold gq76 gq76.F gq127 gq127.F
 obtain ⟨p, e, hp⟩ := search_i (fun x1 target1 n_ i =>
  cond (decide (i < n_)) (
   grd (gIx i (List.length x1)) <|
   (cmpF name (((rdE kFile x1 (Int.toNat i)).1, (rdE kFile x1 (Int.toNat i)).2.1, (rdE kFile x1 (Int.toNat i)).2.2, ()), target1, ())).bind fun r =>
   some (i, (r.1 == (0 : Int)))) (some (i, false))) l hl hr name (l.length : Int) l.length fuel 0 l.length (by omega) (fuel_big (by omega)) (by omega) (Nat.le_refl _) (fun q _ h => by omega) (fun q h h' => by omega)
 refine ⟨p, ?_, hp⟩
 rw [Int.natCast_zero] at e
 refine (congrArg (fun z => Option.bind z fun r => some (r.1, r.2)) (show _ = _ from e)).trans ?_
 by_cases h : p < l.length
 ·rw [decide_t (by omega), ct, grd_of (gIx_t (by omega) (by omega)), Int.toNat_natCast, rdE_at (k := kFile) h, List.getElem?_eq_getElem h]
  have ec : cmpF name ((l[p].1, l[p].2.1, l[p].2.2, ()), name, ()) = some (cmpS l[p].1 name, ()) := by
   unfold cmpF
   dsimp only
   rw [cmpF_eq]
   rfl
  rw [ec, bs]
  dsimp only
  rw [cmpS_zero]
  rfl
 ·rw [decide_f (by omega), cf, List.getElem?_eq_none (by omega)]
  rfl
theorem Pos.of_mem {l : List (El kFile)} {name : ByteArray} {p k : Nat} (hp : Pos l name p) (hr : Rise l) (hk : k < l.length) (e : l[k].1 = name) : p = k := by
 rcases Nat.lt_trichotomy p k with h | h | h
 ·obtain ⟨d, rfl⟩ : ∃ d, k = p + d + 1 := ⟨k - p - 1, by omega⟩
  have h5 := hr.lt d p hk
  rw [e, hp.hi p (by omega) (Nat.le_refl _)] at h5
  cases h5
 ·exact h
 ·have h5 := hp.lo k hk h
  rw [e, sLt_irrefl] at h5
  cases h5
end Go.Proofs.YtaanadbpnmcbcaaGreatDoorA
namespace Go.Proofs.YtaanadbpnmcbcaaGreatDoorA
open Go
set_option linter.unusedVariables false
set_option linter.unusedSimpArgs false
theorem DK.Rise {room : Int} {l : List (El kFile)} (h : DK room l) : Rise l := h.rise
end Go.Proofs.YtaanadbpnmcbcaaGreatDoorA
namespace Go.Proofs.YtaanadbpnmcbcaaGreatDoorA
open Go
set_option linter.unusedVariables false
set_option linter.unusedSimpArgs false
theorem file_found {room : Int} {l : List (El kFile)} (h : DK room l) {k : Nat} (hk : k < l.length) : gq76 room l l[k].1 = some ((k : Int), true) := by
 obtain ⟨p, e, hp⟩ := fileAt_i room l (by have := h.len; omega) h.Rise l[k].1
 obtain rfl := hp.of_mem h.Rise hk rfl
 rw [e, List.getElem?_eq_getElem hk]
 dsimp only
 rw [decide_t rfl]
theorem clone_i (l : List (El kFile)) (hl : l.length ≤ 10000000) : gq101 l = some l := by
 unfold gq101 gq101.F
 rw [grd_of (gRm_t (by simp only [List.length_nil]; omega)), List.nil_append]
 cases l with
 | nil => rw [List.isEmpty_nil, ct, agree_self]
 | cons f r => rw [List.isEmpty_cons, cf]
theorem last_i (F : Int) (R N' : List ByteArray) (x : ByteArray) (T : Int) (hN : N'.length ≤ 1000000) : gq75 F R (N' ++ [x]) T = some x := by
 unfold gq75 gq75.F
 have e : (List.length (N' ++ [x]) : Int) = (N'.length : Int) + 1 := by simp
 rw [e, show (((N'.length : Int) + 1) == 0) = false by rw [beq_eq_false_iff_ne]; omega, cf, wr (by omega) (by omega), show ((N'.length : Int) + 1 - 1) = (N'.length : Int) by omega, grd_of (gIx_t (by omega) (by simp; omega)), Int.toNat_natCast, rdE_at (k := .str) (show N'.length < List.length (α := ByteArray) (N' ++ [x]) by simp)]
 simp
end Go.Proofs.YtaanadbpnmcbcaaGreatDoorA
namespace Go.Proofs.YtaanadbpnmcbcaaGreatDoorA
open Go
set_option linter.unusedVariables false
set_option linter.unusedSimpArgs false
structure DP (room : Int) (l : List (El kFile)) : Prop where
 rm : 0 ≤ room ∧ room ≤ 3000
 len : l.length ≤ 8
 tot : (totF l : Int) ≤ room
 name : ∀ f ∈ l, nameB f.1 = true
 rise : l.Pairwise fun a b => sLt a.1 b.1 = true
 sure : ∀ f ∈ l, (0 : Int) ≤ f.2.2 ∧ (f.2.2 : Int) ≤ (ByteArray.size f.2.1 : Int)
theorem DK.dp {room : Int} {l : List (El kFile)} (h : DK room l) : DP room l := by
 refine ⟨h.rm, h.len, h.tot, fun f hf => ?_, ?_, fun f hf => ?_⟩
 ·obtain ⟨i, hi, rfl⟩ := List.getElem_of_mem hf
  exact h.name i hi
 ·rw [List.pairwise_iff_getElem]
  intro i j hi hj hij
  obtain ⟨d, rfl⟩ : ∃ d, j = i + d + 1 := ⟨j - i - 1, by omega⟩
  exact h.lt d i hj
 ·obtain ⟨i, hi, rfl⟩ := List.getElem_of_mem hf
  exact h.sure i hi
theorem DP.dk {room : Int} {l : List (El kFile)} (h : DP room l) : DK room l :=
 ⟨h.rm, h.len, h.tot, fun i hi => h.name _ (List.getElem_mem hi), fun i hi => List.pairwise_iff_getElem.1 h.rise i (i + 1) (by omega) hi (by omega), fun i hi => h.sure _ (List.getElem_mem hi)⟩
theorem totF_sub {l m : List (El kFile)} (h : l.Sublist m) : totF l ≤ totF m := by
 induction h with
 | slnil => exact Nat.le_refl _
 | cons a _ ih => simp only [totF]; omega
 | cons_cons a _ ih => simp only [totF]; omega
theorem DP.sub {room : Int} {l m : List (El kFile)} (h : DP room m) (hs : l.Sublist m) : DP room l := by
 have h1 := totF_sub hs
 have h2 := hs.length_le
 have h3 := h.tot
 have h4 := h.len
 exact ⟨h.rm, by omega, by omega, fun f hf => h.name f (hs.subset hf), h.rise.sublist hs, fun f hf => h.sure f (hs.subset hf)⟩
theorem fAllOK_of (l : List (El kFile)) : ∀ (m j : Nat), (∀ i, j ≤ i → i < j + m → fOK l i = true) → fAllOK l m j = true
 | 0, _, _ => rfl
 | m + 1, j, h => by
  simp only [fAllOK]
  rw [h j (Nat.le_refl _) (by omega), fAllOK_of l m (j + 1) fun i h1 h2 => h i (by omega) (by omega)]
  rfl
theorem DP.ok {room : Int} {l : List (El kFile)} (h : DP room l) : dOK room l = true := by
 have hk := h.dk
 unfold dOK
 rw [decide_t h.rm.1, decide_t h.rm.2, decide_t h.len, decide_t h.tot, fAllOK_of l _ 0 fun i _ hi => ?_]
 ·rfl
 ·have hi : i < l.length := by omega
  unfold fOK
  rw [rdE_at (k := kFile) hi, hk.name i hi, decide_t (hk.sure i hi).1, decide_t (hk.sure i hi).2, Bool.true_and, Bool.and_self, Bool.and_true]
  by_cases h0 : i = 0
  ·rw [decide_t h0, Bool.true_or]
  ·rw [rdE_at (k := kFile) (show i - 1 < l.length by omega)]
   have := hk.rise (i - 1) (by omega)
   simp only [show i - 1 + 1 = i by omega] at this
   rw [this, Bool.or_true]
theorem nmV_bytes (n : Nat) (h : n ≤ 99) : IsBytes [(115 : Int), 48 + (n : Int) / 10, 48 + (n : Int) % 10] := by
 intro y hy
 simp only [List.mem_cons, List.not_mem_nil, or_false] at hy
 rcases hy with rfl | rfl | rfl <;> omega
theorem segB_nm (n : Nat) (h : n ≤ 99) : segB (nmV n) = (n : Int) := by
 unfold segB nmV
 rw [bytesL_strL (nmV_bytes n h)]
 have d1 : digB (48 + (n : Int) / 10) = true := by unfold digB; rw [decide_t (by omega), decide_t (by omega)]; rfl
 have d2 : digB (48 + (n : Int) % 10) = true := by unfold digB; rw [decide_t (by omega), decide_t (by omega)]; rfl
 show cond ((115 : Int) == 115 && (digB (48 + (n : Int) / 10) && digB (48 + (n : Int) % 10))) ((48 + (n : Int) / 10 - 48) * 10 + (48 + (n : Int) % 10 - 48)) 0 = n
 rw [d1, d2, show ((115 : Int) == 115) = true from rfl, Bool.and_self, Bool.and_self, ct]
 omega
end Go.Proofs.YtaanadbpnmcbcaaGreatDoorA
namespace Go.Proofs.YtaanadbpnmcbcaaGreatDoorA
open Go
set_option linter.unusedVariables false
set_option linter.unusedSimpArgs false
def Fr1 (d : List Int) : Prop := IsBytes d ∧ 1 ≤ d.length ∧ d.length ≤ 200
theorem frL_two (d r : List Int) : (frL d ++ r).take 2 = beL d.length 2 := by
 have e : frL d ++ r = beL d.length 2 ++ (beL (crcV (beL d.length 2 ++ d)) 4 ++ (d ++ r)) := by simp only [frL, List.append_assoc]
 rw [e]
 exact List.take_left' (beL_length _ _)
theorem frL_six (d r : List Int) : (frL d ++ r).drop 6 = d ++ r := by
 have e : frL d ++ r = (beL d.length 2 ++ beL (crcV (beL d.length 2 ++ d)) 4) ++ (d ++ r) := by simp only [frL, List.append_assoc]
 rw [e]
 exact List.drop_left' (by rw [List.length_append, beL_length, beL_length])
theorem beN_two {d : List Int} (h : Fr1 d) : beN 0 (beL d.length 2) = (d.length : Int) := beN_beL _ 2 (by omega) (by have := h.2.2; omega)
theorem frAt_full {d : List Int} (h : Fr1 d) (r : List Int) : frAt (frL d ++ r) = (d, 0) := by
 obtain ⟨h0, h1, h2⟩ := h
 have hl : (frL d ++ r).length = 6 + d.length + r.length := by rw [List.length_append, frL_len]
 unfold frAt
 rw [if_neg (by omega), frL_two, beN_two ⟨h0, h1, h2⟩, if_neg (fun h => h ⟨by omega, by omega⟩), Int.toNat_natCast, if_neg (by omega), frL_six, List.take_left' rfl, List.take_left' (frL_len d), if_pos rfl]
def recs (ds : List (List Int)) : List Int := (ds.map frL).flatten
theorem recs_nil : recs [] = [] := rfl
theorem recs_cons (d : List Int) (ds : List (List Int)) : recs (d :: ds) = frL d ++ recs ds := rfl
theorem recs_append (a b : List (List Int)) : recs (a ++ b) = recs a ++ recs b := by
 unfold recs
 rw [List.map_append, List.flatten_append]
theorem recs_bytes {ds : List (List Int)} (h : ∀ d ∈ ds, Fr1 d) : IsBytes (recs ds) := by
 induction ds with
 | nil => exact IsBytes.nil
 | cons d ds ih => exact (frL_bytes (h d (by simp)).1).append (ih fun x hx => h x (by simp [hx]))
theorem recs_len {ds : List (List Int)} : ds.length ≤ (recs ds).length := by
 induction ds with
 | nil => exact Nat.le_refl _
 | cons d ds ih =>
  rw [recs_cons, List.length_append, frL_len, List.length_cons]
  omega
theorem frs_nil0 (m : Nat) : frs m [] = ([], 0, 0) := by
 cases m with
 | zero => rfl
 | succ m => rfl
theorem frs_all : ∀ (ds : List (List Int)) (m : Nat) (r : List Int), (∀ d ∈ ds, Fr1 d) → ds.length ≤ m →
  frs m (recs ds ++ r) = (ds.map strL ++ (frs (m - ds.length) r).1, (recs ds).length + (frs (m - ds.length) r).2.1, (frs (m - ds.length) r).2.2)
 | [], m, r, _, _ => by simp [recs_nil]
 | d :: ds, 0, r, _, h => by simp at h
 | d :: ds, m + 1, r, hd, h => by
  rw [List.length_cons] at h
  have e : frAt (recs (d :: ds) ++ r) = (d, 0) := by
   rw [recs_cons, List.append_assoc]
   exact frAt_full (hd d (by simp)) _
  have el : (recs (d :: ds) ++ r).length ≠ 0 := by
   rw [recs_cons, List.length_append, List.length_append, frL_len]
   omega
  have ed : (recs (d :: ds) ++ r).drop (6 + d.length) = recs ds ++ r := by
   rw [recs_cons, List.append_assoc]
   exact List.drop_left' (frL_len d)
  rw [frs, if_neg el, e]
  dsimp only
  rw [if_pos rfl, ed, frs_all ds m r (fun x hx => hd x (by simp [hx])) (by omega)]
  dsimp only
  rw [recs_cons, List.length_append, frL_len, List.length_cons, List.map_cons, List.cons_append, Nat.add_sub_add_right]
  simp only [Nat.add_assoc]
theorem frT_all {ds : List (List Int)} (h : ∀ d ∈ ds, Fr1 d) : frT (recs ds) = (ds.map strL, ((recs ds).length : Int), 0) := by
 unfold frT
 have e := frs_all ds (recs ds).length [] h recs_len
 rw [List.append_nil, frs_nil0] at e
 rw [e]
 simp
end Go.Proofs.YtaanadbpnmcbcaaGreatDoorA
namespace Go.Proofs.YtaanadbpnmcbcaaGreatDoorA
open Go
set_option linter.unusedVariables false
set_option linter.unusedSimpArgs false
def Rec1 (r : ByteArray) : Prop := 1 ≤ r.size ∧ r.size ≤ 110
def segD (F : Nat) (g : List ByteArray) : List (List Int) := beL F 4 :: g.map bytesL
def segF (n F : Nat) (g : List ByteArray) (sure : Int) : El kFile := (nmV n, (strL (recs (segD F g)), sure))
abbrev Gs := List (List ByteArray × Int)
def logF : Nat → Nat → Gs → List (El kFile)
 | _, _, [] => []
 | n, F, g :: gs => segF n F g.1 g.2 :: logF (n + 1) (F + g.1.length) gs
def allR (gs : Gs) : List ByteArray := (gs.map Prod.fst).flatten
def nms (n : Nat) : Nat → List ByteArray
 | 0 => []
 | m + 1 => nmV n :: nms (n + 1) m
def RecsOk (gs : Gs) : Prop := ∀ g ∈ gs, ∀ r ∈ g.1, Rec1 r
theorem allR_cons (g : List ByteArray × Int) (gs : Gs) : allR (g :: gs) = g.1 ++ allR gs := rfl
theorem allR_append (a b : Gs) : allR (a ++ b) = allR a ++ allR b := by
 unfold allR
 rw [List.map_append, List.flatten_append]
theorem logF_length : ∀ (gs : Gs) (n F : Nat), (logF n F gs).length = gs.length
 | [], _, _ => rfl
 | g :: gs, n, F => by simp only [logF, List.length_cons, logF_length gs]
theorem logF_append : ∀ (a b : Gs) (n F : Nat), logF n F (a ++ b) = logF n F a ++ logF (n + a.length) (F + (allR a).length) b
 | [], b, n, F => by simp [logF, allR]
 | g :: a, b, n, F => by
  rw [List.cons_append, logF, logF, logF_append a b, List.cons_append, allR_cons, List.length_append, List.length_cons, Nat.add_assoc, Nat.add_comm 1, Nat.add_assoc F]
theorem segD_ok (F : Nat) {g : List ByteArray} (h : ∀ r ∈ g, Rec1 r) : ∀ d ∈ segD F g, Fr1 d := by
 intro d hd
 rcases List.mem_cons.1 hd with rfl | hd
 ·exact ⟨beL_bytes _ _, by rw [beL_length]; decide, by rw [beL_length]; decide⟩
 ·obtain ⟨r, hr, rfl⟩ := List.mem_map.1 hd
  have := h r hr
  exact ⟨IsBytes.bytesL r, by rw [bytesL_length]; exact this.1, by rw [bytesL_length]; have := this.2; omega⟩
theorem map_strL (g : List ByteArray) : (g.map bytesL).map strL = g := by
 rw [List.map_map]
 conv => rhs; rw [← List.map_id g]
 congr 1
 funext x
 exact strL_bytesL x
theorem segD_str (F : Nat) (g : List ByteArray) : (segD F g).map strL = strL (beL F 4) :: g := by
 rw [segD, List.map_cons, map_strL]
theorem frF_recs {ds : List (List Int)} (h : ∀ d ∈ ds, Fr1 d) (nm : ByteArray) (s : Int) : frF (nm, (strL (recs ds), s)) = (ds.map strL, ((recs ds).length : Int), 0) := by
 unfold frF
 rw [bytesL_strL (recs_bytes h), frT_all h]
theorem frF_seg (n F : Nat) {g : List ByteArray} (h : ∀ r ∈ g, Rec1 r) (s : Int) : frF (segF n F g s) = (strL (beL F 4) :: g, ((recs (segD F g)).length : Int), 0) := by
 unfold segF
 rw [frF_recs (segD_ok F h), segD_str]
theorem wGo_seg {n F : Nat} {g : List ByteArray} (hg : ∀ r ∈ g, Rec1 r) (hn : n ≤ 99) (hF : F < 4294967296) (s : Int) (fs : List (El kFile)) (last F0 : Int) (R N : List ByteArray) (T : Int)
  (h : N.isEmpty = true ∨ N.isEmpty = false ∧ last + 1 = n ∧ (F : Int) = F0 + (R.length : Int)) :
  wGo (segF n F g s :: fs) last F0 R N T = wGo fs n (cond N.isEmpty (F : Int) F0) (R ++ g) (N ++ [nmV n]) 0 := by
 have hh : beN 0 (bytesL (strL (beL (F : Int) 4))) = (F : Int) := by
  rw [bytesL_strL (beL_bytes _ _)]
  exact beN_beL _ 4 (by omega) (by omega)
 have hs : ((strL (beL (F : Int) 4)).size : Int) = 4 := by rw [strL_size, beL_length]; rfl
 have hc : cW F0 R N last (segF n F g s) fs.isEmpty = 0 := by
  unfold cW
  rw [frF_seg n F hg s]
  dsimp only
  rw [show ((0 : Int) != 0) = false from rfl, Bool.false_and, cf, show segB (segF n F g s).1 = (n : Int) from segB_nm n hn, List.isEmpty_cons, List.headD_cons, hs, hh]
  rcases h with h | ⟨h, h1, h2⟩
  ·rw [h]; rfl
  ·rw [h, h1, h2]; simp
 have hf : fW F0 N (segF n F g s) = cond N.isEmpty (F : Int) F0 := by
  unfold fW
  rw [frF_seg n F hg s]
  dsimp only
  rw [List.isEmpty_cons, Bool.false_or, List.headD_cons, hh]
  cases N.isEmpty <;> rfl
 conv => lhs; rw [wGo]
 rw [hc, show ((0 : Int) != 0) = false from rfl, cf, hf, show segB (segF n F g s).1 = (n : Int) from segB_nm n hn, frF_seg n F hg s]
 dsimp only
 rw [List.tail_cons, show ByteArray.size (segF n F g s).2.1 = (recs (segD F g)).length from strL_size _, Int.sub_self]
 rfl
theorem wGo_log : ∀ (gs : Gs) (n F : Nat), RecsOk gs → n + gs.length ≤ 100 → F + (allR gs).length < 4294967296 → ∀ (fs : List (El kFile)) (last F0 : Int) (R N : List ByteArray), N.isEmpty = false → last + 1 = n → (F : Int) = F0 + (R.length : Int) →
  wGo (logF n F gs ++ fs) last F0 R N 0 = wGo fs (last + gs.length) F0 (R ++ allR gs) (N ++ nms n gs.length) 0
 | [], n, F, _, _, _, fs, last, F0, R, N, _, _, _ => by simp [logF, allR, nms]
 | g :: gs, n, F, hr, hn, hF, fs, last, F0, R, N, hN, hl, hf => by
  rw [List.length_cons] at hn
  rw [allR_cons, List.length_append] at hF
  rw [logF, List.cons_append, wGo_seg (fun r h => hr g (by simp) r h) (by omega) (by omega) g.2 _ last F0 R N 0 (.inr ⟨hN, hl, hf⟩), hN, cf,
   wGo_log gs (n + 1) (F + g.1.length) (fun x hx => hr x (by simp [hx])) (by omega) (by omega) fs n F0 (R ++ g.1) (N ++ [nmV n]) (by simp) (by omega) (by rw [List.length_append]; omega),
   allR_cons, List.append_assoc, List.append_assoc, List.length_cons, nms, List.singleton_append]
  congr 1
  omega
theorem wGo_log0 (gs : Gs) (n F : Nat) (hr : RecsOk gs) (hn : n + gs.length ≤ 100) (hF : F + (allR gs).length < 4294967296) (hg : gs ≠ []) (fs : List (El kFile)) :
  wGo (logF n F gs ++ fs) 0 0 [] [] 0 = wGo fs ((n : Int) + gs.length - 1) F (allR gs) (nms n gs.length) 0 := by
 cases gs with
 | nil => exact absurd rfl hg
 | cons g gs =>
  rw [List.length_cons] at hn
  rw [allR_cons, List.length_append] at hF
  rw [logF, List.cons_append, wGo_seg (fun r h => hr g (by simp) r h) (by omega) (by omega) g.2 _ 0 0 [] [] 0 (.inl rfl), List.isEmpty_nil, ct,
   wGo_log gs (n + 1) (F + g.1.length) (fun x hx => hr x (by simp [hx])) (by omega) (by omega) fs n F ([] ++ g.1) ([] ++ [nmV n]) (by simp) (by omega) (by simp),
   allR_cons, List.nil_append, List.length_cons, nms, List.nil_append, List.singleton_append]
  congr 1
  omega
theorem logF_mem : ∀ (gs : Gs) (n F : Nat) (f : El kFile), f ∈ logF n F gs → ∃ i F' g, n ≤ i ∧ i < n + gs.length ∧ g ∈ gs ∧ f = segF i F' g.1 g.2
 | g :: gs, n, F, f, h => by
  rw [logF] at h
  rcases List.mem_cons.1 h with rfl | h
  ·exact ⟨n, F, g, Nat.le_refl _, by rw [List.length_cons]; omega, by simp, rfl⟩
  ·obtain ⟨i, F', g', h1, h2, h3, h4⟩ := logF_mem gs (n + 1) (F + g.1.length) f h
   exact ⟨i, F', g', by omega, by rw [List.length_cons]; omega, by simp [h3], h4⟩
theorem segs_all {l : List (El kFile)} (h : ∀ f ∈ l, 0 < segB f.1) : segs l = l := by
 unfold segs
 rw [List.filter_eq_self]
 exact fun f hf => decide_eq_true (h f hf)
theorem segs_log (gs : Gs) (n F : Nat) (h0 : 1 ≤ n) (hn : n + gs.length ≤ 100) : segs (logF n F gs) = logF n F gs := by
 refine segs_all fun f hf => ?_
 obtain ⟨i, F', g, h1, h2, _, rfl⟩ := logF_mem gs n F f hf
 rw [show segB (segF i F' g.1 g.2).1 = (i : Int) from segB_nm i (by omega)]
 omega
theorem wV_log (gs : Gs) (n F : Nat) (hr : RecsOk gs) (h0 : 1 ≤ n) (hn : n + gs.length ≤ 100) (hF : F + (allR gs).length < 4294967296) (hg : gs ≠ []) : wV (logF n F gs) = ((F : Int), allR gs, nms n gs.length, 0, 0) := by
 unfold wV
 rw [segs_log gs n F h0 hn]
 have e := wGo_log0 gs n F hr hn hF hg []
 rw [List.append_nil] at e
 rw [e]
 rfl
end Go.Proofs.YtaanadbpnmcbcaaGreatDoorA
namespace Go.Proofs.YtaanadbpnmcbcaaGreatDoorA
open Go
set_option linter.unusedVariables false
set_option linter.unusedSimpArgs false
def insF (f : El kFile) : List (El kFile) → List (El kFile)
 | [] => [f]
 | g :: r => if sLt g.1 f.1 = true then g :: insF f r else f :: g :: r
theorem insF_at : ∀ {l : List (El kFile)} {f : El kFile} {p : Nat}, Pos l f.1 p → insF f l = l.take p ++ f :: l.drop p
 | [], f, p, h => by
  have := h.le
  simp at this
  subst this
  rfl
 | g :: r, f, p, h => by
  unfold insF
  cases p with
  | zero =>
   have := h.hi 0 (by simp) (Nat.le_refl _)
   rw [List.getElem_cons_zero] at this
   rw [if_neg (by rw [this]; decide)]
   rfl
  | succ p =>
   have := h.lo 0 (by simp) (by omega)
   rw [List.getElem_cons_zero] at this
   rw [if_pos this, insF_at (l := r) (p := p) ⟨by have := h.le; simp at this; exact this, fun q hq hlt => by
    have := h.lo (q + 1) (by simp; exact hq) (by omega)
    rwa [List.getElem_cons_succ] at this, fun q hq hle => by
    have := h.hi (q + 1) (by simp; exact hq) (by omega)
    rwa [List.getElem_cons_succ] at this⟩]
   rfl
theorem app_at_i {room : Int} {l : List (El kFile)} (h : DK room l) {k : Nat} (hk : k < l.length) (data : ByteArray) (hd : data.size ≤ 1000000) :
  gq104 room l l[k].1 data = some (cond (decide ((data.size : Int) > room - totF l)) (7, room, l) (0, room, l.set k (l[k].1, (l[k].2.1 ++ data, l[k].2.2)))) := by
 have hl := h.len
 have ht := h.tot
 have hr := h.rm
 have hsz := h.data (List.getElem_mem hk)
 unfold gq104 gq104.F gq104.j2 gq104.j1
 rw [file_found h hk, bs, nameB_i _ (h.fit _ (List.getElem_mem hk)), bs, h.name k hk]
 dsimp only
 rw [Bool.not_true, cf, cf, usedV_i room l (by omega) (by omega), bs, wr (by omega) (by omega)]
 cases decide ((data.size : Int) > room - totF l) with
 | true => rfl
 | false =>
  rw [cf, cf, grd_of (gIx_t (by omega) (by omega)), Int.toNat_natCast, rdE_at (k := kFile) hk, grd_of (gCat_t (by omega)), grd_of (gIx_t (by omega) (by omega))]
  rfl
theorem mem_absent {l : List (El kFile)} {name : ByteArray} (ha : ∀ f ∈ l, f.1 ≠ name) (p : Nat) : (match l[p]? with | some f => decide (f.1 = name) | none => false) = false := by
 cases hp : l[p]? with
 | none => rfl
 | some f => exact decide_f (ha f (List.mem_of_getElem? hp))
theorem app_new_i {room : Int} {l : List (El kFile)} (h : DK room l) {name : ByteArray} (hn : nameB name = true) (ha : ∀ f ∈ l, f.1 ≠ name) (data : ByteArray) (hd : data.size ≤ 1000000) :
  gq104 room l name data = some (cond ((l.length : Int) == 8 || decide ((data.size : Int) > room - totF l)) (7, room, l) (0, room, insF (name, (data, 0)) l)) := by
 have hl := h.len
 have ht := h.tot
 have hr := h.rm
 have hns := nameB_size hn
 obtain ⟨p, e0, hp⟩ := fileAt_i room l (by omega) h.Rise name
 have e : gq76 room l name = some ((p : Int), false) := e0.trans (congrArg (fun b => some ((p : Int), b)) (mem_absent ha p))
 have hpl := hp.le
 unfold gq104 gq104.F gq104.j2 gq104.j1
 rw [e, bs, nameB_i _ (by omega), bs, hn]
 dsimp only
 rw [Bool.not_true, cf, Bool.not_false, ct, ct]
 cases ((l.length : Int) == 8) with
 | true => rfl
 | false =>
  rw [cf, usedV_i room l (by omega) (by omega), bs, wr (by omega) (by omega), Bool.false_or]
  cases decide ((data.size : Int) > room - totF l) with
  | true => rfl
  | false =>
   rw [cf, cf]
   unfold gq149 gq149.F
   rw [decide_t (by omega), decide_t (by omega), decide_t (by simp), decide_t (by simp; omega), Bool.and_self, Bool.and_self, Bool.and_self, grd_t, bs, Int.toNat_natCast]
   have hlen : (l.take p ++ [(name, (ByteArray.empty, (0 : Int)))] ++ l.drop p : List (El kFile)).length = l.length + 1 := by simp; omega
   have hget : rdE kFile (l.take p ++ [(name, (ByteArray.empty, (0 : Int)))] ++ l.drop p) p = (name, (ByteArray.empty, (0 : Int))) := by
    rw [rdE_at (k := kFile) (by omega), List.getElem_append_left (by simp; omega), List.getElem_append_right (by simp; omega)]
    simp
   rw [grd_of (gIx_t (by omega) (by omega)), hget]
   dsimp only
   rw [grd_of (gCat_t (by simp; omega)), grd_of (gIx_t (by omega) (by omega)), insF_at (f := (name, (data, (0 : Int)))) hp]
   have hset : setE kFile (l.take p ++ [(name, (ByteArray.empty, (0 : Int)))] ++ l.drop p) p (name, (ByteArray.empty ++ data, (0 : Int))) = l.take p ++ (name, (data, (0 : Int))) :: l.drop p := by
    rw [setE_eq, List.append_assoc, List.set_append_right _ _ (by simp; omega), List.length_take, Nat.min_eq_left hpl, Nat.sub_self]
    rw [ByteArray.empty_append]
    rfl
   rw [hset]
   rfl
theorem do_sync {room : Int} {l : List (El kFile)} (h : DK room l) {k : Nat} (hk : k < l.length) (N : Int) (a b : ByteArray) (c : List Int) : gq55 room l 2 N l[k].1 a b c = some (0, room, l.set k (l[k].1, (l[k].2.1, (ByteArray.size l[k].2.1 : Int)))) := by
 have hl := h.len
 unfold gq55 gq55.F
 rw [show ((2 : Int) == 1) = false from rfl, cf, show ((2 : Int) == 5) = false from rfl, cf, within_eq, bs, show (decide ((2 : Int) ≤ 2) && decide ((2 : Int) ≤ 6)) = true from rfl, Bool.not_true, cf, file_found h hk, bs]
 dsimp only
 rw [Bool.not_true, cf, grd_of (gIx_t (by omega) (by omega)), show ((2 : Int) == 2) = true from rfl, ct, Int.toNat_natCast, rdE_at (k := kFile) hk]
 rfl
theorem do_app (room : Int) (l : List (El kFile)) (N : Int) (name a data : ByteArray) (c : List Int) : gq55 room l 1 N name a data c = gq104 room l name data := by
 unfold gq55 gq55.F
 rw [show ((1 : Int) == 1) = true from rfl, ct]
 cases gq104 room l name data <;> rfl
end Go.Proofs.YtaanadbpnmcbcaaGreatDoorA
namespace Go.Proofs.YtaanadbpnmcbcaaGreatDoorA
open Go
set_option linter.unusedVariables false
set_option linter.unusedSimpArgs false
theorem wGo_nms : ∀ (S : List (El kFile)) (last F : Int) (R N : List ByteArray) (T : Int), (wGo S last F R N T).2.2.2.2 = 0 →
  (wGo S last F R N T).2.2.1 = N ++ S.map (fun f => f.1) ∧ ∀ f ∈ S, (frF f).1.isEmpty = false → (ByteArray.size ((frF f).1.headD ByteArray.empty) : Int) = 4
 | [], last, F, R, N, T, _ => ⟨by simp [wGo], fun f hf => by simp at hf⟩
 | f :: S, last, F, R, N, T, h => by
  unfold wGo at h ⊢
  cases hc : cW F R N last f S.isEmpty != 0 with
  | true =>
   rw [hc, ct] at h
   have : cW F R N last f S.isEmpty ≠ 0 := by simpa using hc
   exact absurd h this
  | false =>
   rw [hc, cf] at h
   rw [cf]
   obtain ⟨h1, h2⟩ := wGo_nms S _ _ _ _ _ h
   have h0 : cW F R N last f S.isEmpty = 0 := by simpa using hc
   refine ⟨by rw [h1]; simp, fun g hg => ?_⟩
   rcases List.mem_cons.1 hg with rfl | hg
   ·exact cW_four h0
   ·exact h2 g hg
theorem mem_segs {l : List (El kFile)} {f : El kFile} (h : f ∈ segs l) : f ∈ l ∧ 0 < segB f.1 := by
 unfold segs at h
 rw [List.mem_filter, decide_eq_true_iff] at h
 exact h
end Go.Proofs.YtaanadbpnmcbcaaGreatDoorA
namespace Go.Proofs.YtaanadbpnmcbcaaGreatDoorA
open Go
set_option linter.unusedVariables false
set_option linter.unusedSimpArgs false
end Go.Proofs.YtaanadbpnmcbcaaGreatDoorA
namespace Go.Proofs.YtaanadbpnmcbcaaGreatDoorA
open Go
set_option linter.unusedVariables false
set_option linter.unusedSimpArgs false
end Go.Proofs.YtaanadbpnmcbcaaGreatDoorA
namespace Go.Proofs.YtaanadbpnmcbcaaGreatDoorA
open Go
set_option linter.unusedVariables false
set_option linter.unusedSimpArgs false
def Small (p : List ByteArray) : Prop := p.length ≤ 100000000 ∧ ∀ s ∈ p, s.size ≤ 1000000
theorem Small.head {p : List ByteArray} (h : Small p) : (p.headD ByteArray.empty).size ≤ 1000000 := by
 cases p with
 | nil => exact Nat.zero_le _
 | cons x l => exact h.2 x (by simp)
theorem Small.drop {p : List ByteArray} (h : Small p) (n : Nat) : Small (p.drop n) := ⟨by have := h.1; simp; omega, fun s hs => h.2 s (List.mem_of_mem_drop hs)⟩
end Go.Proofs.YtaanadbpnmcbcaaGreatDoorA
namespace Go.Proofs.YtaanadbpnmcbcaaGreatDoorA
open Go
set_option linter.unusedVariables false
set_option linter.unusedSimpArgs false
end Go.Proofs.YtaanadbpnmcbcaaGreatDoorA
namespace Go.Proofs.YtaanadbpnmcbcaaGreatDoorA
open Go
set_option linter.unusedVariables false
set_option linter.unusedSimpArgs false
end Go.Proofs.YtaanadbpnmcbcaaGreatDoorA
namespace Go.Proofs.YtaanadbpnmcbcaaGreatDoorA
open Go
set_option linter.unusedVariables false
set_option linter.unusedSimpArgs false
def has (l : List (El kFile)) (name : ByteArray) : Bool := l.any fun f => sEq f.1 name
def updF (name : ByteArray) (u : El kFile → El kFile) (l : List (El kFile)) : List (El kFile) := l.map fun f => cond (sEq f.1 name) (u f) f
def addU (data : ByteArray) (f : El kFile) : El kFile := (f.1, (f.2.1 ++ data, f.2.2))
def syncU (f : El kFile) : El kFile := (f.1, (f.2.1, (ByteArray.size f.2.1 : Int)))
def apV (room : Int) (l : List (El kFile)) (name data : ByteArray) : Int × List (El kFile) :=
 cond (has l name) (cond (decide ((data.size : Int) > room - totF l)) (7, l) (0, updF name (addU data) l))
  (cond ((l.length : Int) == 8 || decide ((data.size : Int) > room - totF l)) (7, l) (0, insF (name, (data, 0)) l))
def syV (l : List (El kFile)) (name : ByteArray) : List (El kFile) := updF name syncU l
theorem has_at {l : List (El kFile)} {name : ByteArray} (h : has l name = true) : ∃ (k : Nat) (hk : k < l.length), l[k].1 = name := by
 unfold has at h
 rw [List.any_eq_true] at h
 obtain ⟨f, hf, e⟩ := h
 obtain ⟨k, hk, rfl⟩ := List.getElem_of_mem hf
 exact ⟨k, hk, sEq_iff.1 e⟩
theorem has_not {l : List (El kFile)} {name : ByteArray} (h : has l name = false) : ∀ f ∈ l, f.1 ≠ name := fun f hf e => by
 unfold has at h
 rw [List.any_eq_false] at h
 exact h f hf (sEq_iff.2 e)
theorem upd_set {room : Int} {l : List (El kFile)} (h : DK room l) {k : Nat} (hk : k < l.length) (u : El kFile → El kFile) : updF l[k].1 u l = l.set k (u l[k]) := by
 unfold updF
 refine List.ext_getElem (by simp) fun i h1 h2 => ?_
 have hi : i < l.length := by simpa using h1
 rw [List.getElem_map, List.getElem_set]
 by_cases e : k = i
 ·subst e
  rw [sEq_self, ct, if_pos rfl]
 ·rw [if_neg e, sEq_dec, decide_f (fun e' => e (h.inj hk hi e'.symm)), cf]
theorem do_app_vi {room : Int} {l : List (El kFile)} (h : DK room l) {name : ByteArray} (hn : nameB name = true) (data : ByteArray) (hd : data.size ≤ 1000000) (N : Int) (b : ByteArray) (c : List Int) :
  gq55 room l 1 N name b data c = some ((apV room l name data).1, room, (apV room l name data).2) := by
 rw [do_app]
 unfold apV
 cases hh : has l name with
 | true =>
  obtain ⟨k, hk, rfl⟩ := has_at hh
  rw [app_at_i h hk data hd, ct, upd_set h hk]
  cases decide ((data.size : Int) > room - totF l) <;> rfl
 | false =>
  rw [app_new_i h hn (has_not hh) data hd, cf]
  cases ((l.length : Int) == 8 || decide ((data.size : Int) > room - totF l)) <;> rfl
theorem do_sync_vi {room : Int} {l : List (El kFile)} (h : DK room l) {name : ByteArray} (hh : has l name = true) (N : Int) (a b : ByteArray) (c : List Int) :
  gq55 room l 2 N name a b c = some (0, room, syV l name) := by
 obtain ⟨k, hk, rfl⟩ := has_at hh
 rw [do_sync h hk]
 unfold syV
 rw [upd_set h hk]
 rfl
theorem totF_upd (name : ByteArray) (u : El kFile → El kFile) (hu : ∀ f, ByteArray.size (u f).2.1 = ByteArray.size f.2.1) : ∀ (l : List (El kFile)), totF (updF name u l) = totF l
 | [] => rfl
 | f :: r => by
  show totF (cond (sEq f.1 name) (u f) f :: updF name u r) = _
  simp only [totF, totF_upd name u hu r]
  cases sEq f.1 name with
  | true => rw [ct, hu]
  | false => rw [cf]
theorem totF_set : ∀ (l : List (El kFile)) (k : Nat) (hk : k < l.length) (f : El kFile), totF (l.set k f) + ByteArray.size l[k].2.1 = totF l + ByteArray.size f.2.1
 | g :: r, 0, _, f => by
  rw [List.set_cons_zero, List.getElem_cons_zero]
  simp only [totF]
  omega
 | g :: r, k + 1, h, f => by
  have := totF_set r k (by simpa using h) f
  rw [List.set_cons_succ, List.getElem_cons_succ]
  simp only [totF]
  omega
theorem upd_names (name : ByteArray) (u : El kFile → El kFile) (hu : ∀ f, (u f).1 = f.1) (l : List (El kFile)) : (updF name u l).map (fun f => f.1) = l.map fun f => f.1 := by
 unfold updF
 rw [List.map_map]
 congr 1
 funext f
 show (cond (sEq f.1 name) (u f) f).1 = f.1
 cases sEq f.1 name with
 | true => exact hu f
 | false => rfl
theorem DP.upd {room : Int} {l : List (El kFile)} (h : DP room l) (name : ByteArray) (u : El kFile → El kFile) (hu : ∀ f, (u f).1 = f.1) (hs : ∀ f, (0 : Int) ≤ f.2.2 ∧ (f.2.2 : Int) ≤ (ByteArray.size f.2.1 : Int) → (0 : Int) ≤ (u f).2.2 ∧ ((u f).2.2 : Int) ≤ (ByteArray.size (u f).2.1 : Int)) (ht : (totF (updF name u l) : Int) ≤ room) : DP room (updF name u l) := by
 have hlen : (updF name u l).length = l.length := by unfold updF; rw [List.length_map]
 have hn := upd_names name u hu l
 refine ⟨h.rm, by rw [hlen]; exact h.len, ht, fun f hf => ?_, ?_, fun f hf => ?_⟩
 ·have : f.1 ∈ (updF name u l).map fun f => f.1 := List.mem_map.2 ⟨f, hf, rfl⟩
  rw [hn] at this
  obtain ⟨g, hg, e⟩ := List.mem_map.1 this
  rw [← e]
  exact h.name g hg
 ·have h1 := h.rise
  rw [← List.pairwise_map (f := fun f : El kFile => f.1) (R := fun a b => sLt a b = true)] at h1 ⊢
  rw [hn]
  exact h1
 ·unfold updF at hf
  obtain ⟨g, hg, rfl⟩ := List.mem_map.1 hf
  cases sEq g.1 name with
  | true => exact hs g (h.sure g hg)
  | false => exact h.sure g hg
theorem DP.sync {room : Int} {l : List (El kFile)} (h : DP room l) (name : ByteArray) : DP room (syV l name) :=
 h.upd name syncU (fun _ => rfl) (fun f _ => ⟨by show (0 : Int) ≤ (ByteArray.size f.2.1 : Int); omega, Int.le_refl _⟩) (by rw [totF_upd name syncU (fun _ => rfl)]; exact h.tot)
theorem totF_append : ∀ (a b : List (El kFile)), totF (a ++ b) = totF a + totF b
 | [], b => by simp [totF]
 | f :: a, b => by
  rw [List.cons_append]
  simp only [totF, totF_append a b]
  omega
theorem DP.ins {room : Int} {l : List (El kFile)} (h : DP room l) {f : El kFile} (hn : nameB f.1 = true) (ha : ∀ g ∈ l, g.1 ≠ f.1) (hs : (0 : Int) ≤ f.2.2 ∧ (f.2.2 : Int) ≤ (ByteArray.size f.2.1 : Int)) (hl : l.length ≠ 8) (ht : (ByteArray.size f.2.1 : Int) ≤ room - totF l) : DP room (insF f l) := by
 have h8 := h.len
 obtain ⟨p, _, hp⟩ := fileAt_i room l (by omega) h.dk.Rise f.1
 have hpl := hp.le
 rw [insF_at hp]
 have hm : ∀ g, g ∈ l.take p ++ f :: l.drop p → g = f ∨ g ∈ l := by
  intro g hg
  rcases List.mem_append.1 hg with hg | hg
  ·exact .inr (List.mem_of_mem_take hg)
  ·rcases List.mem_cons.1 hg with rfl | hg
   ·exact .inl rfl
   ·exact .inr (List.mem_of_mem_drop hg)
 refine ⟨h.rm, by simp; omega, ?_, fun g hg => ?_, ?_, fun g hg => ?_⟩
 ·have e : totF l = totF (l.take p) + totF (l.drop p) := by rw [← totF_append, List.take_append_drop]
  rw [totF_append]
  simp only [totF]
  omega
 ·rcases hm g hg with rfl | hg
  ·exact hn
  ·exact h.name g hg
 ·rw [List.pairwise_append, List.pairwise_cons]
  have hlo : ∀ a ∈ l.take p, sLt a.1 f.1 = true := fun a ha' => by
   obtain ⟨i, hi, rfl⟩ := List.getElem_of_mem ha'
   rw [List.length_take] at hi
   rw [List.getElem_take]
   exact hp.lo i (by omega) (by omega)
  have hhi : ∀ b ∈ l.drop p, sLt f.1 b.1 = true := fun b hb => by
   obtain ⟨i, hi, rfl⟩ := List.getElem_of_mem hb
   rw [List.length_drop] at hi
   rw [List.getElem_drop]
   have h1 := hp.hi (p + i) (by omega) (by omega)
   cases h2 : sLt f.1 l[p + i].1 with
   | true => rfl
   | false => exact absurd (sLt_total h1 h2) (ha _ (List.getElem_mem _))
  refine ⟨h.rise.sublist (List.take_sublist _ _), ⟨hhi, h.rise.sublist (List.drop_sublist _ _)⟩, fun a ha' b hb => ?_⟩
  rcases List.mem_cons.1 hb with rfl | hb
  ·exact hlo a ha'
  ·exact sLt_trans (hlo a ha') (hhi b hb)
 ·rcases hm g hg with rfl | hg
  ·exact hs
  ·exact h.sure g hg
theorem DP.ap {room : Int} {l : List (El kFile)} (h : DP room l) {name : ByteArray} (hn : nameB name = true) (data : ByteArray) (h0 : (apV room l name data).1 = 0) : DP room (apV room l name data).2 := by
 unfold apV at h0 ⊢
 cases hh : has l name with
 | true =>
  rw [hh, ct] at h0
  rw [ct]
  cases hc : decide ((data.size : Int) > room - totF l) with
  | true => rw [hc, ct] at h0; cases h0
  | false =>
   rw [cf]
   have hc := of_decide_eq_false hc
   refine h.upd name (addU data) (fun _ => rfl) (fun f hf => ⟨hf.1, ?_⟩) ?_
   ·refine Int.le_trans hf.2 ?_
    have h2 : ByteArray.size (addU data f).2.1 = ByteArray.size f.2.1 + data.size := ByteArray.size_append
    rw [h2]
    omega
   ·obtain ⟨k, hk, rfl⟩ := has_at hh
    rw [upd_set h.dk hk]
    have := totF_set l k hk (addU data l[k])
    have e : ByteArray.size (addU data l[k]).2.1 = ByteArray.size l[k].2.1 + data.size := ByteArray.size_append
    show (totF (l.set k (addU data l[k])) : Int) ≤ room
    omega
 | false =>
  rw [hh, cf] at h0
  rw [cf]
  cases hc : ((l.length : Int) == 8 || decide ((data.size : Int) > room - totF l)) with
  | true => rw [hc, ct] at h0; cases h0
  | false =>
   rw [cf]
   rw [Bool.or_eq_false_iff] at hc
   have h1 : ¬ (l.length : Int) = 8 := by simpa using hc.1
   have h2 := of_decide_eq_false hc.2
   exact h.ins hn (has_not hh) ⟨Int.le_refl _, by show (0 : Int) ≤ (data.size : Int); omega⟩ (by omega) (by show (data.size : Int) ≤ _; omega)
end Go.Proofs.YtaanadbpnmcbcaaGreatDoorA
namespace Go.Proofs.YtaanadbpnmcbcaaGreatDoorA
open Go
set_option linter.unusedVariables false
set_option linter.unusedSimpArgs false
def hdB (n : Int) : ByteArray := strL (frL (beL n 4))
def frB (d : ByteArray) : ByteArray := strL (frL (bytesL d))
def actA (name data : ByteArray) : El kka9e := (1, (0, (name, (ByteArray.empty, (data, [])))))
def actS (name : ByteArray) : El kka9e := (2, (0, (name, (ByteArray.empty, (ByteArray.empty, [])))))
def planL (x : Option (El kFile)) (n : Int) (data : ByteArray) : List (El kka9e) :=
 match x with
 | none => [actA (nmV 1) (hdB n ++ frB data)]
 | some f => cond ((ByteArray.size f.2.1 : Int) == 0) [actA f.1 (hdB n ++ frB data)]
  (cond (decide ((ByteArray.size f.2.1 : Int) + ((frB data).size : Int) > 160)) [actS f.1, actA (nmV (segB f.1 + 1)) (hdB n ++ frB data)] [actA f.1 (frB data)])
theorem hdB_size (n : Int) : (hdB n).size = 10 := by unfold hdB; rw [strL_size, frL_len, beL_length]
theorem frB_size (d : ByteArray) : (frB d).size = 6 + d.size := by unfold frB; rw [strL_size, frL_len, bytesL_length]
theorem frB_i (d : ByteArray) (h : d.size ≤ 1000) : gq155 d = some (frB d) := by
 have := frame_i (bytesL d) (IsBytes.bytesL d) (by rw [bytesL_length]; omega)
 rwa [strL_bytesL] at this
theorem hdB_i (n : Int) : (gq137 n 4).bind (fun r => gq155 r) = some (hdB n) := by
 rw [number4, bs, frame_i (beL n 4) (beL_bytes _ _) (by rw [beL_length]; decide)]
 rfl
theorem nm_i (n : Int) (h0 : 0 ≤ n) (h1 : n ≤ 99) : gq68 n = some (nmV n) := by
 unfold gq68 gq68.F
 rw [grd_of (gNz_t (by decide)), grd_of (gNz_t (by decide)), tdiv_pos h0, tmod_pos h0, wr (x := n / 10) (by omega) (by omega), wr (x := 48 + n / 10) (by omega) (by omega), wr (x := 48 + n % 10) (by omega) (by omega), wr8 (by omega) (by omega), wr8 (by omega) (by omega), show (⟨#[115]⟩ : ByteArray) = strL [115] from rfl, strL_append, grd_of (gCat_t (by rw [strL_size, strL_size]; simp))]
 rfl
theorem nmV_inj {a b : Int} (ha : 0 ≤ a ∧ a ≤ 99) (hb : 0 ≤ b ∧ b ≤ 99) : sEq (nmV a) (nmV b) = decide (a = b) := by
 rw [sEq_dec, decide_eq_decide]
 constructor
 ·intro h
  obtain ⟨x, rfl⟩ : ∃ x : Nat, a = x := ⟨a.toNat, by omega⟩
  obtain ⟨y, rfl⟩ : ∃ y : Nat, b = y := ⟨b.toNat, by omega⟩
  have h1 := strL_inj (nmV_bytes x (by omega)) (nmV_bytes y (by omega)) h
  simp only [List.cons.injEq, and_true, true_and] at h1
  omega
 ·rintro rfl
  rfl
theorem seg_last {l : List (El kFile)} : segs l = [] ∨ ∃ (S : List (El kFile)) (k : Nat) (hk : k < l.length), segs l = S ++ [l[k]] ∧ 0 < segB l[k].1 := by
 rcases List.eq_nil_or_concat (segs l) with h | ⟨S, f, h⟩
 ·exact .inl h
 ·rw [List.concat_eq_append] at h
  have hm : f ∈ segs l := by rw [h]; simp
  obtain ⟨h1, h2⟩ := mem_segs hm
  obtain ⟨k, hk, rfl⟩ := List.getElem_of_mem h1
  exact .inr ⟨S, k, hk, h, h2⟩
theorem last_name {room : Int} {l : List (El kFile)} (h : DK room l) (h0 : (wV l).2.2.2.2 = 0) (F : Int) (R : List ByteArray) (T : Int) : gq75 F R (wV l).2.2.1 T = some (match (segs l).getLast? with | none => ByteArray.empty | some f => f.1) := by
 have h8 := h.len
 have hs := segs_len l
 have hn : (wV l).2.2.1 = (segs l).map fun f => f.1 := (wGo_nms (segs l) 0 0 [] [] 0 h0).1
 rw [hn]
 rcases seg_last (l := l) with h1 | ⟨S, k, hk, h1, _⟩
 ·rw [h1]
  rfl
 ·have hl : S.length ≤ 8 := by rw [h1] at hs; simp at hs; omega
  rw [h1, List.map_append, List.map_cons, List.map_nil, last_i _ _ _ _ _ (by rw [List.length_map]; omega)]
  simp
theorem plan_i {room : Int} {l : List (El kFile)} (h : DK room l) (h0 : (wV l).2.2.2.2 = 0) (F : Int) (R : List ByteArray) (T : Int) (data : ByteArray) (hd : data.size ≤ 1000) (h99 : ∀ f, (segs l).getLast? = some f → segB f.1 ≠ 99) :
  i_plan room l F R (wV l).2.2.1 T data = some (planL (segs l).getLast? (IntKind.wrap .i64 (F + (R.length : Int))) data) := by
 have h8 := h.len
 unfold i_plan i_plan.F gq153 gq153.F
 rw [frB_i data hd, bs, last_name h h0, bs, bs]
 have e1 := hdB_i (IntKind.wrap .i64 (F + (R.length : Int)))
 rw [number4, bs] at e1
 rw [number4, bs, e1, bs, grd_of (gCat_t (by rw [hdB_size, frB_size]; omega))]
 rcases seg_last (l := l) with h1 | ⟨S, k, hk, h1, h2⟩
 ·rw [h1]
  show cond (sEq ByteArray.empty ByteArray.empty) _ _ = _
  rw [sEq_self, ct, nm_i 1 (by decide) (by decide), bs]
  rfl
 ·have hg : (segs l).getLast? = some l[k] := by rw [h1]; simp
  have h9 := h99 _ hg
  have hr := segB_range l[k].1
  have hns := nameB_size (h.name k hk)
  have hsz := h.data (List.getElem_mem hk)
  rw [hg]
  dsimp only
  have hne : l[k].1 ≠ ByteArray.empty := by
   intro e
   have : ByteArray.size l[k].1 = 0 := by rw [e]; rfl
   omega
  rw [sEq_dec, decide_f hne, cf, file_found h hk, bs]
  dsimp only
  rw [grd_of (gIx_t (by omega) (by omega)), Int.toNat_natCast, rdE_at (k := kFile) hk]
  unfold planL
  dsimp only
  cases ((ByteArray.size l[k].2.1 : Int) == 0) with
  | true => rfl
  | false =>
   rw [cf, cf, wr (x := (ByteArray.size l[k].2.1 : Int) + ((frB data).size : Int)) (by omega) (by rw [frB_size]; omega)]
   cases decide ((ByteArray.size l[k].2.1 : Int) + ((frB data).size : Int) > 160) with
   | true =>
    rw [ct, ct, segB_i _ (by omega), bs, wr (by omega) (by omega), nm_i _ (by omega) (by omega), bs]
    rfl
   | false => rfl
def chkV (l : List (El kFile)) (data : ByteArray) : Int :=
 cond (!(decide ((1 : Int) ≤ (data.size : Int)) && decide ((data.size : Int) ≤ 110))) 4
  (cond ((wV l).2.2.2.2 != 0) (wV l).2.2.2.2
  (cond (decide ((wV l).2.2.2.1 > 0)) 16
  (cond (decide (((wV l).2.1.length : Int) ≥ 60)) 6
  (cond (match (segs l).getLast? with | none => false | some f => segB f.1 == 99) 6 0))))
def planV (l : List (El kFile)) (data : ByteArray) : List (El kka9e) := planL (segs l).getLast? (IntKind.wrap .i64 ((wV l).1 + ((wV l).2.1.length : Int))) data
theorem c99 {room : Int} {l : List (El kFile)} (h : DK room l) : sEq (match (segs l).getLast? with | none => ByteArray.empty | some f => f.1) (nmV 99) = (match (segs l).getLast? with | none => false | some f => segB f.1 == 99) := by
 rcases seg_last (l := l) with h1 | ⟨S, k, hk, h1, h2⟩
 ·rw [h1]
  show sEq ByteArray.empty (nmV 99) = false
  rw [sEq_dec]
  refine decide_f fun e => ?_
  have e2 : ByteArray.size ByteArray.empty = (nmV 99).size := congrArg ByteArray.size e
  rw [show (nmV 99).size = 3 from strL_size _] at e2
  cases e2
 ·have hg : (segs l).getLast? = some l[k] := by rw [h1]; simp
  have hr := segB_range l[k].1
  rw [hg]
  dsimp only
  have e : sEq l[k].1 (nmV 99) = sEq (nmV (segB l[k].1)) (nmV 99) := by rw [← nm_of_seg h2]
  rw [e, nmV_inj hr (by decide)]
  rfl
theorem walPlan_i {room : Int} {l : List (El kFile)} (h : DK room l) (data : ByteArray) (hd : data.size ≤ 1000000000) : gq70 room l data = some (cond (chkV l data != 0) [] (planV l data), chkV l data) := by
 unfold gq70 gq70.F chkV
 rw [within_eq, bs]
 cases hb : (decide ((1 : Int) ≤ (data.size : Int)) && decide ((data.size : Int) ≤ 110)) with
 | false => rfl
 | true =>
  rw [Bool.and_eq_true, decide_eq_true_iff, decide_eq_true_iff] at hb
  rw [Bool.not_true, cf, cf, wal_i h, bs]
  cases hc : (wV l).2.2.2.2 != 0 with
  | true =>
   rw [ct, ct, hc]
   rfl
  | false =>
   have h0 : (wV l).2.2.2.2 = 0 := by simpa using hc
   rw [cf, cf]
   cases decide ((wV l).2.2.2.1 > 0) with
   | true => rfl
   | false =>
    rw [cf, cf]
    cases decide (((wV l).2.1.length : Int) ≥ 60) with
    | true => rfl
    | false =>
     rw [cf, cf, last_name h h0, bs, nm_i 99 (by decide) (by decide), bs, c99 h]
     cases h9 : (match (segs l).getLast? with | none => false | some f => segB f.1 == 99) with
     | true => rfl
     | false =>
      rw [cf, cf, plan_i h h0 _ _ _ data (by omega) (fun f hf => by
       rw [hf] at h9
       simpa using h9), bs]
      rfl
end Go.Proofs.YtaanadbpnmcbcaaGreatDoorA
namespace Go.Proofs.YtaanadbpnmcbcaaGreatDoorA
open Go
set_option linter.unusedVariables false
set_option linter.unusedSimpArgs false
theorem nameB_nm (n : Nat) (h : n ≤ 99) : nameB (nmV n) = true := by
 unfold nameB nmV
 rw [bytesL_strL (nmV_bytes n h)]
 unfold nameV
 simp only [okN, letB, digB, List.length_cons, List.length_nil]
 rw [decide_t (show (48 : Int) ≤ 48 + (n : Int) / 10 by omega), decide_t (show 48 + (n : Int) / 10 ≤ 57 by omega), decide_t (show (48 : Int) ≤ 48 + (n : Int) % 10 by omega), decide_t (show 48 + (n : Int) % 10 ≤ 57 by omega)]
 simp
def doV (room : Int) : List (El kFile) → List (El kka9e) → Int × List (El kFile)
 | l, [] => (0, l)
 | l, a :: r => cond (a.1 == 2) (doV room (syV l a.2.2.1) r) (cond ((apV room l a.2.2.1 a.2.2.2.2.1).1 != 0) ((apV room l a.2.2.1 a.2.2.2.2.1).1, []) (doV room (apV room l a.2.2.1 a.2.2.2.2.1).2 r))
def OkN (n d : ByteArray) : Prop := nameB n = true ∧ d.size ≤ 1000000
inductive OkA (l : List (El kFile)) : List (El kka9e) → Prop
 | one {n d} : OkN n d → OkA l [actA n d]
 | two {m n d} : has l m = true → OkN n d → OkA l [actS m, actA n d]
theorem doV_one (room : Int) (l : List (El kFile)) (n d : ByteArray) : doV room l [actA n d] = cond ((apV room l n d).1 != 0) ((apV room l n d).1, []) (0, (apV room l n d).2) := rfl
theorem doV_two (room : Int) (l : List (El kFile)) (m n d : ByteArray) : doV room l [actS m, actA n d] = doV room (syV l m) [actA n d] := rfl
theorem acts_i1 {R : Type} (kke : Int → Int → List (El kFile) → Option R) (kkr : Int → Int → Option R) {room : Int} {l : List (El kFile)} (h : DK room l) {n d : ByteArray} (ho : OkN n d) (i2 : Int) (L : List (El kka9e)) (j fu : Nat) (hj : L = L.take j ++ [actA n d]) (hjl : j + 1 = L.length) (hL : L.length ≤ 2) :
  gq71.l1 kke kkr (fu + 2) (L.length : Int) (j : Int) i2 room L l = cond ((doV room l [actA n d]).1 != 0) (kkr (doV room l [actA n d]).1 0) (kke i2 room (doV room l [actA n d]).2) := by
 have er : rdE kka9e L j = actA n d := by
  rw [rdE_at (k := kka9e) (by omega)]
  have : L[j]'(by omega) = (L.take j ++ [actA n d])[j]'(by rw [← hj]; omega) := by congr 1
  have hjj : (L.take j).length = j := by rw [List.length_take]; omega
  rw [this, List.getElem_append_right (by omega)]
  simp [hjj]
 have e1 := do_app_vi h ho.1 d ho.2 0 ByteArray.empty []
 rw [doV_one]
 simp only [gq71.l1]
 rw [decide_t (by omega), ct, grd_of (gIx_t (by omega) (by omega)), Int.toNat_natCast, er]
 show Option.bind (gq55 room l 1 0 n ByteArray.empty d []) _ = _
 rw [e1, bs]
 cases hc : (apV room l n d).1 != 0 with
 | true =>
  rw [ct, ct]
  dsimp only
  rw [hc, ct]
 | false =>
  rw [cf, cf]
  dsimp only
  rw [wr (by omega) (by omega), decide_f (by omega), cf]
  rfl
theorem walActs_i {R : Type} (kke : Int → Int → List (El kFile) → Option R) (kkr : Int → Int → Option R) {room : Int} {l : List (El kFile)} (h : DP room l) {L : List (El kka9e)} (ho : OkA l L) (i2 : Int) :
  gq71.l1 kke kkr fuel (L.length : Int) 0 i2 room L l = cond ((doV room l L).1 != 0) (kkr (doV room l L).1 0) (kke i2 room (doV room l L).2) := by
 obtain ⟨fu, hfu⟩ : ∃ q, fuel = q + 3 := ⟨fuel - 3, by rw [fuel_eq]⟩
 rw [hfu]
 cases ho with
 | one ho => exact acts_i1 kke kkr h.dk ho i2 _ 0 (fu + 1) rfl rfl (by simp)
 | @two m n d hm ho =>
  have e1 := do_sync_vi h.dk hm 0 ByteArray.empty ByteArray.empty []
  rw [doV_two]
  have e2 := acts_i1 kke kkr (h.sync m).dk ho i2 [actS m, actA n d] 1 fu rfl rfl (by simp)
  rw [gq71.l1]
  rw [decide_t (show (0 : Int) < (List.length [actS m, actA n d] : Int) by simp), ct, grd_of (gIx_t (by omega) (by simp))]
  show Option.bind (gq55 room l 2 0 m ByteArray.empty ByteArray.empty []) _ = _
  rw [e1, bs]
  exact e2
theorem doV_dp {room : Int} {l : List (El kFile)} (h : DP room l) {L : List (El kka9e)} (ho : OkA l L) (h0 : (doV room l L).1 = 0) : DP room (doV room l L).2 := by
 have one : ∀ {l : List (El kFile)} (h : DP room l) {n d : ByteArray} (ho : OkN n d) (h0 : (doV room l [actA n d]).1 = 0), DP room (doV room l [actA n d]).2 := by
  intro l h n d ho h0
  rw [doV_one] at h0 ⊢
  cases hc : (apV room l n d).1 != 0 with
  | true =>
   rw [hc, ct] at h0
   have h0 : (apV room l n d).1 = 0 := h0
   rw [h0] at hc
   cases hc
  | false =>
   rw [cf]
   exact h.ap ho.1 d (by simpa using hc)
 cases ho with
 | one ho => exact one h ho h0
 | two hm ho => exact one (h.sync _) ho h0
theorem plan_ok {room : Int} {l : List (El kFile)} (h : DK room l) {data : ByteArray} (hc : chkV l data = 0) : OkA l (planV l data) ∧ data.size ≤ 110 := by
 have hd : data.size ≤ 110 ∧ ∀ f, (segs l).getLast? = some f → segB f.1 ≠ 99 := by
  unfold chkV at hc
  cases hb : (decide ((1 : Int) ≤ (data.size : Int)) && decide ((data.size : Int) ≤ 110)) with
  | false => rw [hb] at hc; cases hc
  | true =>
   rw [hb, Bool.not_true, cf] at hc
   rw [Bool.and_eq_true, decide_eq_true_iff, decide_eq_true_iff] at hb
   refine ⟨by omega, fun f hf e => ?_⟩
   cases h1 : (wV l).2.2.2.2 != 0 with
   | true =>
    rw [h1, ct] at hc
    rw [hc] at h1
    cases h1
   | false =>
    rw [h1, cf] at hc
    cases h2 : decide ((wV l).2.2.2.1 > 0) with
    | true => rw [h2] at hc; cases hc
    | false =>
     rw [h2, cf] at hc
     cases h3 : decide (((wV l).2.1.length : Int) ≥ 60) with
     | true => rw [h3] at hc; cases hc
     | false =>
      rw [h3, cf, hf] at hc
      dsimp only at hc
      rw [e] at hc
      cases hc
 refine ⟨?_, hd.1⟩
 have hfr := frB_size data
 unfold planV
 rcases seg_last (l := l) with h1 | ⟨S, k, hk, h1, h2⟩
 ·rw [h1]
  exact .one ⟨nameB_nm 1 (by decide), by rw [ByteArray.size_append, hdB_size, hfr]; omega⟩
 ·have hg : (segs l).getLast? = some l[k] := by rw [h1]; simp
  have h9 := hd.2 _ hg
  have hr := segB_range l[k].1
  have hsz := h.data (List.getElem_mem hk)
  rw [hg]
  unfold planL
  dsimp only
  cases ((ByteArray.size l[k].2.1 : Int) == 0) with
  | true => exact .one ⟨h.name k hk, by rw [ByteArray.size_append, hdB_size, hfr]; omega⟩
  | false =>
   rw [cf]
   cases decide ((ByteArray.size l[k].2.1 : Int) + ((frB data).size : Int) > 160) with
   | true =>
    refine .two ?_ ⟨?_, by rw [ByteArray.size_append, hdB_size, hfr]; omega⟩
    ·unfold has
     rw [List.any_eq_true]
     exact ⟨l[k], List.getElem_mem hk, sEq_self _⟩
    ·have := nameB_nm ((segB l[k].1).toNat + 1) (by omega)
     rwa [show (((segB l[k].1).toNat + 1 : Nat) : Int) = segB l[k].1 + 1 by omega] at this
   | false => exact .one ⟨h.name k hk, by rw [hfr]; omega⟩
def wapV (room : Int) (l : List (El kFile)) (data : ByteArray) : Int × List (El kFile) × Int :=
 cond (chkV l data != 0) (0, [], chkV l data) (cond ((doV room l (planV l data)).1 != 0) (0, [], (doV room l (planV l data)).1) (room, (doV room l (planV l data)).2, 0))
theorem walAppend_i {room : Int} {l : List (El kFile)} (h : DP room l) (data : ByteArray) (hd : data.size ≤ 1000000000) : gq71 room l data = some (wapV room l data) := by
 have h8 := h.len
 unfold gq71 gq71.F wapV
 rw [walPlan_i h.dk data hd, bs]
 dsimp only
 cases hc : chkV l data != 0 with
 | true => rw [ct, ct]
 | false =>
  have h0 : chkV l data = 0 := by simpa using hc
  unfold gq53 gq53.F
  rw [cf, cf, cf, clone_i l (by omega), bs, bs]
  dsimp only
  rw [walActs_i _ _ h (plan_ok h.dk h0).1]
  cases (doV room l (planV l data)).1 != 0 <;> rfl
theorem wapV_dp {room : Int} {l : List (El kFile)} (h : DP room l) {data : ByteArray} (h0 : (wapV room l data).2.2 = 0) : (wapV room l data).1 = room ∧ DP room (wapV room l data).2.1 := by
 unfold wapV at h0 ⊢
 cases hc : chkV l data != 0 with
 | true =>
  rw [hc, ct] at h0
  have h0 : chkV l data = 0 := h0
  rw [h0] at hc
  cases hc
 | false =>
  have hc0 : chkV l data = 0 := by simpa using hc
  rw [hc, cf] at h0
  rw [cf]
  cases hr : (doV room l (planV l data)).1 != 0 with
  | true =>
   rw [hr, ct] at h0
   have h0 : (doV room l (planV l data)).1 = 0 := h0
   rw [h0] at hr
   cases hr
  | false =>
   rw [cf]
   exact ⟨rfl, doV_dp h (plan_ok h.dk hc0).1 (by simpa using hr)⟩
end Go.Proofs.YtaanadbpnmcbcaaGreatDoorA
namespace Go.Proofs.YtaanadbpnmcbcaaGreatDoorA
open Go
set_option linter.unusedVariables false
set_option linter.unusedSimpArgs false
end Go.Proofs.YtaanadbpnmcbcaaGreatDoorA
namespace Go.Proofs.YtaanadbpnmcbcaaGreatDoorA
open Go
set_option linter.unusedVariables false
set_option linter.unusedSimpArgs false
theorem u8_lt {a b : Int} (ha : 0 ≤ a ∧ a < 256) (hb : 0 ≤ b ∧ b < 256) : (UInt8.ofNat a.toNat < UInt8.ofNat b.toNat) ↔ a < b := by
 rw [UInt8.lt_iff_toNat_lt, UInt8.toNat_ofNat', UInt8.toNat_ofNat', Nat.mod_eq_of_lt (by omega), Nat.mod_eq_of_lt (by omega)]
 omega
theorem nm_lt {i j : Nat} (h : i < j) (hj : j ≤ 99) : sLt (nmV i) (nmV j) = true := by
 unfold sLt
 have e : ∀ n : Nat, (nmV n).toList = [UInt8.ofNat (115 : Int).toNat, UInt8.ofNat (48 + (n : Int) / 10).toNat, UInt8.ofNat (48 + (n : Int) % 10).toNat] := fun n => by
  unfold nmV
  rw [ByteArray.toList_eq]
  rfl
 rw [e, e]
 simp only [Op.bytesLess, beq_self_eq_true, Bool.true_and, Bool.or_eq_true, Bool.and_eq_true, decide_eq_true_iff, beq_iff_eq, Bool.and_false, Bool.or_false]
 rcases Nat.lt_or_ge (i / 10) (j / 10) with h1 | h1
 ·exact .inr (.inl ((u8_lt (by omega) (by omega)).2 (by omega)))
 ·have e1 : i / 10 = j / 10 := by omega
  refine .inr (.inr ⟨by congr 3; omega, ?_⟩)
  first
  | exact (u8_lt (by omega) (by omega)).2 (by omega)
  | exact .inl ((u8_lt (by omega) (by omega)).2 (by omega))
def segSize (g : List ByteArray) : Nat := 10 + (g.map fun r => 6 + r.size).sum
theorem recs_seg (F : Nat) (g : List ByteArray) : (recs (segD F g)).length = segSize g := by
 have key : ∀ g : List ByteArray, (recs (g.map bytesL)).length = (g.map fun r => 6 + r.size).sum := by
  intro g
  induction g with
  | nil => rfl
  | cons r g ih => rw [List.map_cons, recs_cons, List.length_append, frL_len, bytesL_length, ih, List.map_cons, List.sum_cons]
 unfold segD segSize
 rw [recs_cons, List.length_append, frL_len, beL_length, key]
theorem segSize_le {g : List ByteArray} (h : ∀ r ∈ g, Rec1 r) : segSize g ≤ 10 + 116 * g.length := by
 unfold segSize
 have key : ∀ g : List ByteArray, (∀ r ∈ g, Rec1 r) → (g.map fun r => 6 + r.size).sum ≤ 116 * g.length := by
  intro g
  induction g with
  | nil => intro _; simp
  | cons r g ih =>
   intro h
   have h1 := ih fun r hr => h r (by simp [hr])
   have h2 := h r (by simp)
   unfold Rec1 at h2
   rw [List.map_cons, List.sum_cons, List.length_cons]
   omega
 have := key g h
 omega
theorem segSize_snoc (g : List ByteArray) (r : ByteArray) : segSize (g ++ [r]) = segSize g + (6 + r.size) := by
 unfold segSize
 rw [List.map_append, List.sum_append]
 simp
 omega
theorem totF_log : ∀ (gs : Gs) (n F : Nat), totF (logF n F gs) = (gs.map fun g => segSize g.1).sum
 | [], _, _ => rfl
 | g :: gs, n, F => by
  rw [logF]
  simp only [totF, totF_log gs, List.map_cons, List.sum_cons]
  rw [show ByteArray.size (segF n F g.1 g.2).2.1 = segSize g.1 from (strL_size _).trans (recs_seg F g.1)]
structure LG (gs : Gs) : Prop where
 recs : RecsOk gs
 ne : ∀ g ∈ gs, g.1 ≠ []
 sure : ∀ g ∈ gs, 0 ≤ g.2 ∧ g.2 ≤ (segSize g.1 : Int)
 len : gs.length ≤ 8
 cnt : (allR gs).length ≤ 22
theorem tot_le : ∀ (gs : Gs), RecsOk gs → (∀ g ∈ gs, g.1 ≠ []) → (gs.map fun g => segSize g.1).sum ≤ 126 * (allR gs).length
 | [], _, _ => by simp
 | g :: gs, h, hn => by
  have h1 := tot_le gs (fun x hx => h x (by simp [hx])) fun x hx => hn x (by simp [hx])
  have h2 := segSize_le (h g (by simp))
  have h3 : g.1.length ≠ 0 := fun e => hn g (by simp) (List.length_eq_zero_iff.1 e)
  rw [List.map_cons, List.sum_cons, allR_cons, List.length_append]
  omega
theorem logF_rise : ∀ (gs : Gs) (n F : Nat), n + gs.length ≤ 100 → (logF n F gs).Pairwise fun a b => sLt a.1 b.1 = true
 | [], _, _, _ => List.Pairwise.nil
 | g :: gs, n, F, h => by
  rw [List.length_cons] at h
  rw [logF, List.pairwise_cons]
  refine ⟨fun f hf => ?_, logF_rise gs (n + 1) _ (by omega)⟩
  obtain ⟨i, F', g', h1, h2, _, rfl⟩ := logF_mem gs (n + 1) _ f hf
  exact nm_lt (by omega) (by omega)
theorem LG.dp {gs : Gs} (h : LG gs) (n F : Nat) (hn : n + gs.length ≤ 100) : DP 3000 (logF n F gs) := by
 refine ⟨by decide, by rw [logF_length]; exact h.len, ?_, fun f hf => ?_, logF_rise gs n F hn, fun f hf => ?_⟩
 ·have := tot_le gs h.recs h.ne
  have := h.cnt
  rw [totF_log]
  omega
 ·obtain ⟨i, F', g, h1, h2, _, rfl⟩ := logF_mem gs n F f hf
  exact nameB_nm i (by omega)
 ·obtain ⟨i, F', g, h1, h2, h3, rfl⟩ := logF_mem gs n F f hf
  have := h.sure g h3
  rw [show ByteArray.size (segF i F' g.1 g.2).2.1 = segSize g.1 from (strL_size _).trans (recs_seg F' g.1)]
  exact this
def addG (gs : Gs) (r : ByteArray) : Gs := match gs.getLast? with
 | none => [([r], 0)]
 | some g => if segSize g.1 + (6 + r.size) ≤ 160 then gs.dropLast ++ [(g.1 ++ [r], g.2)] else gs.dropLast ++ [(g.1, (segSize g.1 : Int)), ([r], 0)]
theorem addG_nil (r : ByteArray) : addG [] r = [([r], 0)] := rfl
theorem addG_snoc (gs : Gs) (g : List ByteArray × Int) (r : ByteArray) : addG (gs ++ [g]) r = if segSize g.1 + (6 + r.size) ≤ 160 then gs ++ [(g.1 ++ [r], g.2)] else gs ++ [(g.1, (segSize g.1 : Int)), ([r], 0)] := by
 unfold addG
 simp
theorem upd_append (name : ByteArray) (u : El kFile → El kFile) (a b : List (El kFile)) : updF name u (a ++ b) = updF name u a ++ updF name u b := by
 unfold updF
 rw [List.map_append]
theorem upd_none {name : ByteArray} (u : El kFile → El kFile) {l : List (El kFile)} (h : ∀ f ∈ l, f.1 ≠ name) : updF name u l = l := by
 unfold updF
 conv => rhs; rw [← List.map_id l]
 refine List.map_congr_left fun f hf => ?_
 rw [sEq_dec, decide_f (h f hf), cf]
 rfl
theorem upd_one (u : El kFile → El kFile) (f : El kFile) : updF f.1 u [f] = [u f] := by
 unfold updF
 rw [List.map_cons, sEq_self, ct]
 rfl
theorem log_names {gs : Gs} {n F : Nat} (hn : n + gs.length ≤ 100) {j : Nat} (hj : n + gs.length ≤ j) (hj9 : j ≤ 99) : ∀ f ∈ logF n F gs, f.1 ≠ nmV j := by
 intro f hf
 obtain ⟨i, F', g, h1, h2, _, rfl⟩ := logF_mem gs n F f hf
 exact sLt_ne (nm_lt (by omega) (by omega))
theorem insF_end : ∀ {l : List (El kFile)} {f : El kFile}, (∀ g ∈ l, sLt g.1 f.1 = true) → insF f l = l ++ [f]
 | [], f, _ => rfl
 | g :: r, f, h => by
  unfold insF
  rw [if_pos (h g (by simp)), insF_end fun x hx => h x (by simp [hx])]
  rfl
theorem ap_rec {n F : Nat} {gs : Gs} {g : List ByteArray} {s : Int} {r : ByteArray} (hn : n + gs.length ≤ 99) (ht : ((frB r).size : Int) ≤ 3000 - totF (logF n F (gs ++ [(g, s)]))) :
  apV 3000 (logF n F (gs ++ [(g, s)])) (nmV ((n + gs.length : Nat) : Int)) (frB r) = (0, logF n F (gs ++ [(g ++ [r], s)])) := by
 have e1 : logF n F (gs ++ [(g, s)]) = logF n F gs ++ [segF (n + gs.length) (F + (allR gs).length) g s] := logF_append gs [(g, s)] n F
 have e2 : logF n F (gs ++ [(g ++ [r], s)]) = logF n F gs ++ [segF (n + gs.length) (F + (allR gs).length) (g ++ [r]) s] := logF_append gs [(g ++ [r], s)] n F
 unfold apV
 have hh : has (logF n F (gs ++ [(g, s)])) (nmV ((n + gs.length : Nat) : Int)) = true := by
  unfold has
  rw [e1, List.any_append]
  simp [segF, sEq_self]
 rw [hh, ct, decide_f (by omega), cf, e1, e2, upd_append, upd_none _ (log_names (by omega) (Nat.le_refl _) hn)]
 have e3 := upd_one (addU (frB r)) (segF (n + gs.length) (F + (allR gs).length) g s)
 have e4 : addU (frB r) (segF (n + gs.length) (F + (allR gs).length) g s) = segF (n + gs.length) (F + (allR gs).length) (g ++ [r]) s := by
  unfold addU segF frB
  dsimp only
  rw [strL_append]
  congr 3
  unfold segD
  rw [List.map_append, ← List.cons_append, recs_append]
  simp [recs]
 rw [e4] at e3
 exact congrArg (fun x => (0, logF n F gs ++ x)) e3
theorem sy_log {n F : Nat} {gs : Gs} {g : List ByteArray} {s : Int} (hn : n + gs.length ≤ 99) :
  syV (logF n F (gs ++ [(g, s)])) (nmV ((n + gs.length : Nat) : Int)) = logF n F (gs ++ [(g, (segSize g : Int))]) := by
 have e1 : logF n F (gs ++ [(g, s)]) = logF n F gs ++ [segF (n + gs.length) (F + (allR gs).length) g s] := logF_append gs [(g, s)] n F
 have e2 : logF n F (gs ++ [(g, (segSize g : Int))]) = logF n F gs ++ [segF (n + gs.length) (F + (allR gs).length) g (segSize g)] := logF_append gs [(g, (segSize g : Int))] n F
 unfold syV
 rw [e1, e2, upd_append, upd_none _ (log_names (by omega) (Nat.le_refl _) hn)]
 have e3 := upd_one syncU (segF (n + gs.length) (F + (allR gs).length) g s)
 have e4 : syncU (segF (n + gs.length) (F + (allR gs).length) g s) = segF (n + gs.length) (F + (allR gs).length) g (segSize g) := by
  unfold syncU segF
  dsimp only
  rw [strL_size, recs_seg]
 rw [e4] at e3
 exact congrArg (fun x => logF n F gs ++ x) e3
theorem ap_new {n F : Nat} {gs : Gs} {r : ByteArray} (hn : n + gs.length ≤ 99) (h8 : gs.length < 8) (ht : ((hdB ((F + (allR gs).length : Nat) : Int) ++ frB r).size : Int) ≤ 3000 - totF (logF n F gs)) :
  apV 3000 (logF n F gs) (nmV ((n + gs.length : Nat) : Int)) (hdB ((F + (allR gs).length : Nat) : Int) ++ frB r) = (0, logF n F (gs ++ [([r], 0)])) := by
 have e2 : logF n F (gs ++ [([r], 0)]) = logF n F gs ++ [segF (n + gs.length) (F + (allR gs).length) [r] 0] := logF_append gs [([r], 0)] n F
 unfold apV
 have hh : has (logF n F gs) (nmV ((n + gs.length : Nat) : Int)) = false := by
  unfold has
  rw [List.any_eq_false]
  intro f hf e
  exact log_names (by omega) (Nat.le_refl _) hn f hf (sEq_iff.1 e)
 have h8' : ((logF n F gs).length : Int) ≠ 8 := by rw [logF_length]; omega
 rw [hh, cf, show (((logF n F gs).length : Int) == 8) = false by rw [beq_eq_false_iff_ne]; exact h8', Bool.false_or, decide_f (by omega), cf, insF_end (f := (nmV ((n + gs.length : Nat) : Int), (hdB ((F + (allR gs).length : Nat) : Int) ++ frB r, (0 : Int)))) (fun g hg => by
  obtain ⟨i, F', g', h1, h2, _, rfl⟩ := logF_mem gs n F g hg
  exact nm_lt (by omega) (by omega)), e2]
 congr 3
 unfold segF hdB frB segD
 rw [strL_append]
 congr 3
 simp [recs]
theorem ap_full {n F : Nat} {gs : Gs} {d : ByteArray} (hn : n + gs.length ≤ 99) (h8 : gs.length = 8) : (apV 3000 (logF n F gs) (nmV ((n + gs.length : Nat) : Int)) d).1 = 7 := by
 unfold apV
 have hh : has (logF n F gs) (nmV ((n + gs.length : Nat) : Int)) = false := by
  unfold has
  rw [List.any_eq_false]
  intro f hf e
  exact log_names (by omega) (Nat.le_refl _) hn f hf (sEq_iff.1 e)
 rw [hh, cf, show (((logF n F gs).length : Int) == 8) = true by rw [logF_length, h8]; rfl, Bool.true_or, ct]
end Go.Proofs.YtaanadbpnmcbcaaGreatDoorA
namespace Go.Proofs.YtaanadbpnmcbcaaGreatDoorA
open Go
set_option linter.unusedVariables false
set_option linter.unusedSimpArgs false
def eqE (a b : El kkb53) : Bool := (a.1 == b.1) && ((a.2.1 == b.2.1) && sEq a.2.2 b.2.2)
def sameN : List (El kkb53) → List (El kkb53) → Nat
 | a :: r, b :: q => cond (eqE a b) (sameN r q + 1) 0
 | _, _ => 0
theorem sameN_le : ∀ (a b : List (El kkb53)), sameN a b ≤ a.length ∧ sameN a b ≤ b.length
 | [], _ => ⟨Nat.zero_le _, Nat.zero_le _⟩
 | _ :: _, [] => ⟨Nat.zero_le _, Nat.zero_le _⟩
 | a :: r, b :: q => by
  have := sameN_le r q
  unfold sameN
  cases eqE a b with
  | true => simp only [cond_true, List.length_cons]; omega
  | false => simp only [cond_false, List.length_cons]; omega
theorem sameN_nil_r (a : List (El kkb53)) : sameN a [] = 0 := by cases a <;> rfl
theorem lt_mn2 (k x y : Int) : k < mn2 x y ↔ k < x ∧ k < y := by
 unfold mn2
 split <;> omega
theorem same_i {R : Type} (kke : Int → Option R) (a b : List (El kkb53)) (ha : a.length ≤ 1000000) (hb : b.length ≤ 1000000) : ∀ (m fu k : Nat), k + m = a.length → m < fu → gq136.l1 kke fu a b (k : Int) = kke ((k + sameN (a.drop k) (b.drop k) : Nat) : Int) := by
 intro m
 induction m with
 | zero =>
  intro fu k e hf
  obtain ⟨fu, rfl⟩ : ∃ q, fu = q + 1 := ⟨fu - 1, by omega⟩
  simp only [gq136.l1]
  rw [decide_f (by rw [lt_mn2]; omega), cf, List.drop_eq_nil_of_le (show a.length ≤ k by omega)]
  rfl
 | succ m ih =>
  intro fu k e hf
  obtain ⟨fu, rfl⟩ : ∃ q, fu = q + 1 := ⟨fu - 1, by omega⟩
  simp only [gq136.l1]
  have hk : k < a.length := by omega
  by_cases hkb : k < b.length
  ·rw [decide_t (by rw [lt_mn2]; omega), ct, grd_of (gIx_t (by omega) (by omega)), grd_of (gIx_t (by omega) (by omega)), Int.toNat_natCast, rdE_at (k := kkb53) hk, rdE_at (k := kkb53) hkb, wr (by omega) (by omega), drop_cons hk, drop_cons hkb]
   show cond (eqE a[k] b[k]) _ _ = _
   simp only [sameN]
   cases eqE a[k] b[k] with
   | true =>
    rw [ct, ct, show ((k : Int) + 1) = ((k + 1 : Nat) : Int) by omega, ih fu (k + 1) (by omega) (by omega)]
    congr 2
    omega
   | false => rfl
  ·rw [decide_f (by rw [lt_mn2]; omega), cf, List.drop_eq_nil_of_le (show b.length ≤ k by omega), sameN_nil_r]
   rfl
def tRec (t v : Int) : ByteArray := strL ([84] ++ beL t 4 ++ beL (v + 1) 1)
def cRec (k : Int) : ByteArray := strL ([67] ++ beL k 4)
def eRec (e : El kkb53) : ByteArray := strL ([69] ++ entB e.1 e.2.1 (bytesL e.2.2))
def recV (t v : Int) (l : List (El kkb53)) (t' v' : Int) (l' : List (El kkb53)) : List ByteArray :=
 cond (t != t' || v != v') [tRec t' v'] [] ++ cond (decide (sameN l l' < l.length)) [cRec (sameN l l')] [] ++ (l'.drop (sameN l l')).map eRec
theorem ents_i {R : Type} (kke : List ByteArray → Option R) (l : List (El kkb53)) (hl : l.length ≤ 1000) (hs : ∀ e ∈ l, e.2.2.size ≤ 1000) : ∀ (m fu j : Nat) (out : List ByteArray), j + m = l.length → m < fu → out.length + m ≤ 5000 →
  gq83.l4 kke fu l (l.length : Int) (j : Int) out = kke (out ++ (l.drop j).map eRec) := by
 intro m
 induction m with
 | zero =>
  intro fu j out e hf ho
  obtain ⟨fu, rfl⟩ : ∃ q, fu = q + 1 := ⟨fu - 1, by omega⟩
  simp only [gq83.l4]
  rw [decide_f (by omega), cf, List.drop_eq_nil_of_le (by omega)]
  simp
 | succ m ih =>
  intro fu j out e hf ho
  obtain ⟨fu, rfl⟩ : ∃ q, fu = q + 1 := ⟨fu - 1, by omega⟩
  have hj : j < l.length := by omega
  have hsz := hs _ (List.getElem_mem hj)
  have e1 := entBytes_i l[j].1 l[j].2.1 (bytesL l[j].2.2) (by rw [bytesL_length]; omega)
  rw [strL_bytesL] at e1
  simp only [gq83.l4]
  rw [decide_t (by omega), ct, grd_of (gIx_t (by omega) (by omega)), Int.toNat_natCast, rdE_at (k := kkb53) hj, e1, bs, show (⟨#[69]⟩ : ByteArray) = strL [69] from rfl, grd_of (gCat_t (by rw [strL_size, strL_size, entB_length, bytesL_length]; simp; omega)), grd_of (gRm_t (by simp; omega)), wr (by omega) (by omega), show ((j : Int) + 1) = ((j + 1 : Nat) : Int) by omega, strL_append, ih fu (j + 1) _ (by omega) (by omega) (by simp; omega), drop_cons hj, List.map_cons, List.append_assoc]
  rfl
theorem ents_s {R : Type} (kke : List ByteArray → Option R) (t v : Int) (l : List (El kkb53)) (hl : l.length ≤ 1000) (hs : ∀ e ∈ l, e.2.2.size ≤ 1000) : ∀ (m fu j : Nat) (out : List ByteArray), j + m = l.length → m < fu → out.length + m ≤ 5000 →
  gq80.l5 kke fu (j : Int) t v l out = kke (out ++ (l.drop j).map eRec) := by
 intro m
 induction m with
 | zero =>
  intro fu j out e hf ho
  obtain ⟨fu, rfl⟩ : ∃ q, fu = q + 1 := ⟨fu - 1, by omega⟩
  simp only [gq80.l5]
  rw [decide_f (by omega), cf, List.drop_eq_nil_of_le (by omega)]
  simp
 | succ m ih =>
  intro fu j out e hf ho
  obtain ⟨fu, rfl⟩ : ∃ q, fu = q + 1 := ⟨fu - 1, by omega⟩
  have hj : j < l.length := by omega
  have hsz := hs _ (List.getElem_mem hj)
  have e1 := entBytes_s l[j].1 l[j].2.1 (bytesL l[j].2.2) (IsBytes.bytesL _) (by rw [bytesL_length]; omega)
  rw [strL_bytesL] at e1
  simp only [gq80.l5]
  rw [decide_t (by omega), ct, grd_of (gIx_t (by omega) (by omega)), Int.toNat_natCast, rdE_at (k := kkb53) hj, e1, bs, show (⟨#[69]⟩ : ByteArray) = strL [69] from rfl, grd_of (gCat_t (by rw [strL_size, strL_size, entB_length, bytesL_length]; simp; omega)), grd_of (gRm_t (by simp; omega)), wr (by omega) (by omega), show ((j : Int) + 1) = ((j + 1 : Nat) : Int) by omega, strL_append, ih fu (j + 1) _ (by omega) (by omega) (by simp; omega), drop_cons hj, List.map_cons, List.append_assoc]
  rfl
theorem records_i (t v : Int) (l : List (El kkb53)) (t' v' : Int) (l' : List (El kkb53)) (hl : l.length ≤ 1000) (hl' : l'.length ≤ 1000) (hs : ∀ e ∈ l', e.2.2.size ≤ 1000) (hv : -1 ≤ v' ∧ v' ≤ 100) :
  gq83 t v l t' v' l' = some (recV t v l t' v' l') := by
 have hk := sameN_le l l'
 have e0 := same_i (fun k_ => some k_) l l' (by omega) (by omega) l.length fuel 0 (by omega) (fuel_big (by omega))
 rw [Int.natCast_zero, List.drop_zero, List.drop_zero, Nat.zero_add] at e0
 unfold gq83 gq83.F gq83.j2 gq83.j1 gq83.j3 gq136 gq136.F
 rw [e0, bs]
 have hsub : sub l' (sameN l l' : Int) (l'.length : Int) = l'.drop (sameN l l') := sub_drop l' _ rfl
 have hdl : (l'.drop (sameN l l')).length ≤ 1000 := by rw [List.length_drop]; omega
 have hds : ∀ e ∈ l'.drop (sameN l l'), e.2.2.size ≤ 1000 := fun e he => hs e (List.mem_of_mem_drop he)
 have fin : ∀ out : List ByteArray, out.length ≤ 10 → (grd (gSl (sameN l l' : Int) (l'.length : Int) l'.length) <| gq83.l4 (fun out2 => some out2) fuel (sub l' (sameN l l' : Int) (l'.length : Int)) ((sub l' (sameN l l' : Int) (l'.length : Int)).length : Int) (0 : Int) out) = some (out ++ (l'.drop (sameN l l')).map eRec) := by
  intro out ho
  rw [grd_of (gSl_t (by omega) (by omega) (by omega)), hsub]
  have := ents_i (fun out2 => some out2) _ hdl hds (l'.drop (sameN l l')).length fuel 0 out (by omega) (fuel_big (by omega)) (by omega)
  rw [Int.natCast_zero, List.drop_zero] at this
  exact this
 have mid : ∀ out : List ByteArray, out.length ≤ 5 → (cond (decide ((l.length : Int) > (sameN l l' : Int))) (
   (gq137 (sameN l l' : Int) (4 : Int)).bind fun r =>
   grd (gCat (⟨#[67]⟩ : ByteArray) r) <|
   grd (gRm (((List.length out) + (List.length ([(⟨#[67]⟩ : ByteArray) ++ r]))) * 16)) <|
   (grd (gSl (sameN l l' : Int) (l'.length : Int) l'.length) <| gq83.l4 (fun out2 => some out2) fuel (sub l' (sameN l l' : Int) (l'.length : Int)) ((sub l' (sameN l l' : Int) (l'.length : Int)).length : Int) (0 : Int) (out ++ ([(⟨#[67]⟩ : ByteArray) ++ r]))))
   (grd (gSl (sameN l l' : Int) (l'.length : Int) l'.length) <| gq83.l4 (fun out2 => some out2) fuel (sub l' (sameN l l' : Int) (l'.length : Int)) ((sub l' (sameN l l' : Int) (l'.length : Int)).length : Int) (0 : Int) out)) = some (out ++ cond (decide (sameN l l' < l.length)) [cRec (sameN l l')] [] ++ (l'.drop (sameN l l')).map eRec) := by
  intro out ho
  by_cases hc : sameN l l' < l.length
  ·rw [decide_t (by omega), decide_t hc, ct, ct, number4, bs, show (⟨#[67]⟩ : ByteArray) = strL [67] from rfl, grd_of (gCat_t (by rw [strL_size, strL_size, beL_length]; simp)), grd_of (gRm_t (by simp; omega)), strL_append, fin _ (by simp; omega)]
   rfl
  ·rw [decide_f (by omega), decide_f hc, cf, cf, fin _ (by omega), List.append_nil]
 unfold recV
 have hor : ∀ (x : Bool) (f : Bool → Option (List ByteArray)), cond x (f true) (f (v != v')) = f (x || (v != v')) := fun x f => by cases x <;> rfl
 have e1 := hor (t != t')
 dsimp only
 refine (e1 (fun b => cond b _ _)).trans ?_
 cases (t != t' || v != v') with
 | true =>
  rw [ct, ct, number4, bs, show (⟨#[84]⟩ : ByteArray) = strL [84] from rfl, grd_of (gCat_t (by rw [strL_size, strL_size, beL_length]; simp)), wr (by omega) (by omega), number1, bs, strL_append, grd_of (gCat_t (by rw [strL_size, strL_size, List.length_append, beL_length, beL_length]; simp)), strL_append, grd_of (gRm_t (by simp))]
  exact mid _ (by simp)
 | false =>
  rw [cf, cf]
  exact mid [] (by simp)
theorem same_s {R : Type} (kke : Int → Int → Int → List (El kkb53) → Int → Int → List (El kkb53) → List ByteArray → Option R) (t v t' v' : Int) (out : List ByteArray) (a b : List (El kkb53)) (ha : a.length ≤ 1000000) (hb : b.length ≤ 1000000) : ∀ (m fu k : Nat), k + m = a.length → m < fu → gq80.l3 kke fu (k : Int) t v a t' v' b out = kke ((k + sameN (a.drop k) (b.drop k) : Nat) : Int) t v a t' v' b out := by
 intro m
 induction m with
 | zero =>
  intro fu k e hf
  obtain ⟨fu, rfl⟩ : ∃ q, fu = q + 1 := ⟨fu - 1, by omega⟩
  simp only [gq80.l3]
  rw [decide_f (by omega), cf, List.drop_eq_nil_of_le (show a.length ≤ k by omega)]
  rfl
 | succ m ih =>
  intro fu k e hf
  obtain ⟨fu, rfl⟩ : ∃ q, fu = q + 1 := ⟨fu - 1, by omega⟩
  simp only [gq80.l3]
  have hk : k < a.length := by omega
  rw [decide_t (by omega), ct]
  by_cases hkb : k < b.length
  ·rw [decide_t (by omega), ct, grd_of (gIx_t (by omega) (by omega)), grd_of (gIx_t (by omega) (by omega)), Int.toNat_natCast, rdE_at (k := kkb53) hk, rdE_at (k := kkb53) hkb, wr (by omega) (by omega), drop_cons hk, drop_cons hkb]
   show cond (eqE a[k] b[k]) _ _ = _
   simp only [sameN]
   cases eqE a[k] b[k] with
   | true =>
    rw [ct, ct, show ((k : Int) + 1) = ((k + 1 : Nat) : Int) by omega, ih fu (k + 1) (by omega) (by omega)]
    congr 2
    omega
   | false => rfl
  ·rw [decide_f (by omega), cf, List.drop_eq_nil_of_le (show b.length ≤ k by omega), sameN_nil_r]
   rfl
theorem records_s (t v : Int) (l : List (El kkb53)) (t' v' : Int) (l' : List (El kkb53)) (hl : l.length ≤ 1000) (hl' : l'.length ≤ 1000) (hs : ∀ e ∈ l', e.2.2.size ≤ 1000) (hv : -1 ≤ v' ∧ v' ≤ 100) :
  gq80 t v l t' v' l' = some (recV t v l t' v' l') := by
 have hk := sameN_le l l'
 unfold gq80 gq80.F gq80.j2 gq80.j1
 have fin : ∀ out : List ByteArray, out.length ≤ 10 → gq80.l5 (fun out3 => some out3) fuel (sameN l l' : Int) t' v' l' out = some (out ++ (l'.drop (sameN l l')).map eRec) := by
  intro out ho
  exact ents_s (fun out2 => some out2) t' v' l' hl' hs (l'.length - sameN l l') fuel (sameN l l') out (by omega) (fuel_big (by omega)) (by omega)
 have mid : ∀ out : List ByteArray, out.length ≤ 5 → gq80.l3 (fun k_ was3 was4 was5 now3 now4 now5 out1 =>
   gq80.j4 (fun k_1 now6 now7 now8 out2 => gq80.l5 (fun out3 => some out3) fuel k_1 now6 now7 now8 out2) k_ was3 was4 was5 now3 now4 now5 out1) fuel (0 : Int) t v l t' v' l' out = some (out ++ cond (decide (sameN l l' < l.length)) [cRec (sameN l l')] [] ++ (l'.drop (sameN l l')).map eRec) := by
  intro out ho
  have e0 := same_s (fun k_ was3 was4 was5 now3 now4 now5 out1 =>
   gq80.j4 (fun k_1 now6 now7 now8 out2 => gq80.l5 (fun out3 => some out3) fuel k_1 now6 now7 now8 out2) k_ was3 was4 was5 now3 now4 now5 out1) t v t' v' out l l' (by omega) (by omega) l.length fuel 0 (by omega) (fuel_big (by omega))
  rw [Int.natCast_zero, List.drop_zero, List.drop_zero, Nat.zero_add] at e0
  rw [e0]
  unfold gq80.j4
  by_cases hc : sameN l l' < l.length
  ·rw [decide_t (by omega), decide_t hc, ct, ct, four_eq, bs, show (⟨#[67]⟩ : ByteArray) = strL [67] from rfl, grd_of (gCat_t (by rw [strL_size, strL_size, beL_length]; simp)), grd_of (gRm_t (by simp; omega)), strL_append]
   exact fin _ (by simp; omega)
  ·rw [decide_f (by omega), decide_f hc, cf, cf, List.append_nil]
   exact fin _ (by omega)
 unfold recV
 have hor : ∀ (x : Bool) (f : Bool → Option (List ByteArray)), cond x (f true) (f (v != v')) = f (x || (v != v')) := fun x f => by cases x <;> rfl
 have e1 := hor (t != t')
 dsimp only
 refine (e1 (fun b => cond b _ _)).trans ?_
 have eb : [IntKind.wrap .u8 (IntKind.wrap .i64 (v' + 1))] = beL (v' + 1) 1 := by rw [wr (by omega) (by omega), wr8m]; rfl
 cases (t != t' || v != v') with
 | true =>
  rw [ct, ct, four_eq, bs, eb, show (⟨#[84]⟩ : ByteArray) = strL [84] from rfl, grd_of (gCat_t (by rw [strL_size, strL_size, beL_length]; simp)), strL_append, grd_of (gCat_t (by rw [strL_size, strL_size, List.length_append, beL_length, beL_length]; simp)), strL_append, grd_of (gRm_t (by simp))]
  exact mid _ (by simp)
 | false =>
  rw [cf, cf]
  exact mid [] (by simp)
def syncV (l : List (El kFile)) : List (El kFile) := match (segs l).getLast? with | none => l | some f => syV l f.1
def LastAt (l : List (El kFile)) (j : Nat) (last : Int) : Prop := (last = -1 ∧ segs (l.take j) = []) ∨ ∃ (k : Nat) (hk : k < l.length), last = (k : Int) ∧ (segs (l.take j)).getLast? = some l[k]
theorem sync_loop {R : Type} (kke : Int → Int → Int → List (El kFile) → Option R) {room : Int} {l : List (El kFile)} (h : DK room l) (i2 out : Int) : ∀ (m fu j : Nat) (last : Int), j + m = l.length → m < fu → LastAt l j last →
  ∃ last', gq72.l1 kke fu last (l.length : Int) (j : Int) i2 out l = kke last' i2 out l ∧ LastAt l l.length last' := by
 have h8 := h.len
 intro m
 induction m with
 | zero =>
  intro fu j last e hf hL
  obtain ⟨fu, rfl⟩ : ∃ q, fu = q + 1 := ⟨fu - 1, by omega⟩
  obtain rfl : j = l.length := by omega
  simp only [gq72.l1]
  rw [decide_f (by omega), cf]
  exact ⟨last, rfl, hL⟩
 | succ m ih =>
  intro fu j last e hf hL
  obtain ⟨fu, rfl⟩ : ∃ q, fu = q + 1 := ⟨fu - 1, by omega⟩
  have hj : j < l.length := by omega
  have hns := nameB_size (h.name j hj)
  have et : segs (l.take (j + 1)) = segs (l.take j) ++ (if 0 < segB l[j].1 then [l[j]] else []) := by
   rw [take_snoc hj]
   unfold segs
   rw [List.filter_append, List.filter_cons]
   by_cases h0 : 0 < segB l[j].1
   ·rw [if_pos (decide_eq_true h0), if_pos h0]; rfl
   ·rw [if_neg (by simpa using h0), if_neg h0]; rfl
  simp only [gq72.l1]
  rw [decide_t (by omega), ct, grd_of (gIx_t (by omega) (by omega)), Int.toNat_natCast, rdE_at (k := kFile) hj, segB_i _ (by omega), bs, wr (by omega) (by omega), show ((j : Int) + 1) = ((j + 1 : Nat) : Int) by omega]
  by_cases h0 : 0 < segB l[j].1
  ·rw [decide_t h0, ct]
   exact ih fu (j + 1) j (by omega) (by omega) (.inr ⟨j, hj, rfl, by rw [et, if_pos h0]; simp⟩)
  ·rw [decide_f h0, cf]
   refine ih fu (j + 1) last (by omega) (by omega) ?_
   unfold LastAt at hL ⊢
   rw [et, if_neg h0, List.append_nil]
   exact hL
theorem walSync_i {room : Int} {l : List (El kFile)} (h : DK room l) : gq72 room l = some (room, syncV l) := by
 have h8 := h.len
 unfold gq72 gq72.F gq53 gq53.F
 rw [clone_i l (by omega), bs, bs]
 dsimp only
 obtain ⟨last, e1, e2⟩ := sync_loop (fun last i out l =>
  cond (decide (last ≥ (0 : Int))) (
   grd (gIx last (List.length l)) <|
   grd (gIx last (List.length l)) <|
   some (out, setE kFile l (Int.toNat last) ((rdE kFile l (Int.toNat last)).1, ((rdE kFile l (Int.toNat last)).2.1, (ByteArray.size (rdE kFile l (Int.toNat last)).2.1 : Int))))) (some (out, l))) h 0 room l.length fuel 0 (-1) (by omega) (fuel_big (by omega)) (.inl ⟨rfl, rfl⟩)
 refine Eq.trans e1 ?_
 unfold LastAt at e2
 rw [List.take_length] at e2
 unfold syncV
 rcases e2 with ⟨rfl, hs⟩ | ⟨k, hk, rfl, hs⟩
 ·rw [hs]
  rfl
 ·rw [hs, decide_t (by omega), ct, grd_of (gIx_t (by omega) (by omega)), grd_of (gIx_t (by omega) (by omega)), Int.toNat_natCast, rdE_at (k := kFile) hk]
  dsimp only
  unfold syV
  rw [upd_set h hk]
  rfl
theorem DP.syncV {room : Int} {l : List (El kFile)} (h : DP room l) : DP room (syncV l) := by
 unfold Go.Proofs.YtaanadbpnmcbcaaGreatDoorA.syncV
 cases (segs l).getLast? with
 | none => exact h
 | some f => exact h.sync f.1
def saveL (room : Int) : List (El kFile) → List ByteArray → Int × List (El kFile)
 | l, [] => (0, l)
 | l, r :: q => cond ((wapV room l r).2.2 != 0) ((wapV room l r).2.2, []) (saveL room (wapV room l r).2.1 q)
theorem saveLoop_i {R : Type} (kke : Int → Int → List (El kFile) → Option R) (kkr : Int → Int → Option R) (room : Int) (L : List ByteArray) (hL : L.length ≤ 1000) (hs : ∀ r ∈ L, r.size ≤ 65536) (i2 : Int) : ∀ (m fu j : Nat) (l : List (El kFile)), j + m = L.length → m < fu → DP room l →
  gq36.l1 kke kkr fu (L.length : Int) (j : Int) i2 room L l = cond ((saveL room l (L.drop j)).1 != 0) (kkr (saveL room l (L.drop j)).1 0) (kke i2 room (saveL room l (L.drop j)).2) := by
 intro m
 induction m with
 | zero =>
  intro fu j l e hf h
  obtain ⟨fu, rfl⟩ : ∃ q, fu = q + 1 := ⟨fu - 1, by omega⟩
  simp only [gq36.l1]
  rw [decide_f (by omega), cf, List.drop_eq_nil_of_le (by omega)]
  rfl
 | succ m ih =>
  intro fu j l e hf h
  obtain ⟨fu, rfl⟩ : ∃ q, fu = q + 1 := ⟨fu - 1, by omega⟩
  have hj : j < L.length := by omega
  have hz := hs _ (List.getElem_mem hj)
  simp only [gq36.l1]
  rw [decide_t (by omega), ct, grd_of (gIx_t (by omega) (by omega)), Int.toNat_natCast, rdE_at (k := .str) hj, walAppend_i h _ (by omega), bs, drop_cons hj]
  simp only [saveL]
  cases hc : (wapV room l L[j]).2.2 != 0 with
  | true =>
   rw [ct, ct]
   dsimp only
   rw [hc, ct]
  | false =>
   obtain ⟨h1, h2⟩ := wapV_dp h (by simpa using hc)
   rw [cf, cf, h1, wr (by omega) (by omega), show ((j : Int) + 1) = ((j + 1 : Nat) : Int) by omega]
   exact ih fu (j + 1) _ (by omega) (by omega) h2
theorem saveL_dp {room : Int} : ∀ {L : List ByteArray} {l : List (El kFile)}, DP room l → (saveL room l L).1 = 0 → DP room (saveL room l L).2
 | [], l, h, _ => h
 | r :: q, l, h, h0 => by
  simp only [saveL] at h0 ⊢
  cases hc : (wapV room l r).2.2 != 0 with
  | true =>
   rw [hc, ct] at h0
   have h0 : (wapV room l r).2.2 = 0 := h0
   rw [h0] at hc
   cases hc
  | false =>
   rw [hc, cf] at h0
   rw [cf]
   exact saveL_dp (wapV_dp h (by simpa using hc)).2 h0
end Go.Proofs.YtaanadbpnmcbcaaGreatDoorA
namespace Go.Proofs.YtaanadbpnmcbcaaGreatDoorA
open Go
set_option linter.unusedVariables false
set_option linter.unusedSimpArgs false
theorem LG.nil : LG [] := ⟨fun g h => by simp at h, fun g h => by simp at h, fun g h => by simp at h, by simp, by simp [allR]⟩
theorem allR_add (gs : Gs) (r : ByteArray) : allR (addG gs r) = allR gs ++ [r] := by
 rcases List.eq_nil_or_concat gs with rfl | ⟨a, g, rfl⟩
 ·rfl
 ·rw [List.concat_eq_append, addG_snoc]
  split
  ·rw [allR_append, allR_append]
   simp [allR]
  ·rw [allR_append, allR_append]
   simp [allR]
theorem addG_len (gs : Gs) (r : ByteArray) : (addG gs r).length ≤ gs.length + 1 ∧ gs.length ≤ (addG gs r).length := by
 rcases List.eq_nil_or_concat gs with rfl | ⟨a, g, rfl⟩
 ·exact ⟨by simp [addG_nil], by simp⟩
 ·rw [List.concat_eq_append, addG_snoc]
  split
  ·simp
  ·simp
theorem LG.add {gs : Gs} (h : LG gs) {r : ByteArray} (hr : Rec1 r) (h8 : (addG gs r).length ≤ 8) (hc : (allR gs).length ≤ 21) : LG (addG gs r) := by
 have hall : (allR (addG gs r)).length ≤ 22 := by rw [allR_add]; simp; omega
 rcases List.eq_nil_or_concat gs with rfl | ⟨a, g, rfl⟩
 ·rw [addG_nil] at *
  refine ⟨fun g hg => ?_, fun g hg => ?_, fun g hg => ?_, by simp, by simp [allR]⟩
  ·obtain rfl := List.mem_singleton.1 hg
   intro x hx
   obtain rfl := List.mem_singleton.1 hx
   exact hr
  ·obtain rfl := List.mem_singleton.1 hg
   simp
  ·obtain rfl := List.mem_singleton.1 hg
   exact ⟨Int.le_refl _, by omega⟩
 ·rw [List.concat_eq_append] at *
  have hs := h.sure g (by simp)
  have hg := h.recs g (by simp)
  have hne := h.ne g (by simp)
  rw [addG_snoc] at h8 hall ⊢
  split
  ·rename_i hz
   rw [if_pos hz] at h8 hall
   refine ⟨fun x hx => ?_, fun x hx => ?_, fun x hx => ?_, h8, hall⟩
   ·rcases List.mem_append.1 hx with hx | hx
    ·exact h.recs x (by simp [hx])
    ·obtain rfl := List.mem_singleton.1 hx
     intro y hy
     rcases List.mem_append.1 hy with hy | hy
     ·exact hg y hy
     ·obtain rfl := List.mem_singleton.1 hy
      exact hr
   ·rcases List.mem_append.1 hx with hx | hx
    ·exact h.ne x (by simp [hx])
    ·obtain rfl := List.mem_singleton.1 hx
     simp
   ·rcases List.mem_append.1 hx with hx | hx
    ·exact h.sure x (by simp [hx])
    ·obtain rfl := List.mem_singleton.1 hx
     rw [segSize_snoc]
     exact ⟨hs.1, by have := hs.2; show g.2 ≤ _; omega⟩
  ·rename_i hz
   rw [if_neg hz] at h8 hall
   refine ⟨fun x hx => ?_, fun x hx => ?_, fun x hx => ?_, h8, hall⟩
   ·rcases List.mem_append.1 hx with hx | hx
    ·exact h.recs x (by simp [hx])
    ·rcases List.mem_cons.1 hx with rfl | hx
     ·exact hg
     ·obtain rfl := List.mem_singleton.1 hx
      intro y hy
      obtain rfl := List.mem_singleton.1 hy
      exact hr
   ·rcases List.mem_append.1 hx with hx | hx
    ·exact h.ne x (by simp [hx])
    ·rcases List.mem_cons.1 hx with rfl | hx
     ·exact hne
     ·obtain rfl := List.mem_singleton.1 hx
      simp
   ·rcases List.mem_append.1 hx with hx | hx
    ·exact h.sure x (by simp [hx])
    ·rcases List.mem_cons.1 hx with rfl | hx
     ·exact ⟨by show (0 : Int) ≤ (segSize g.1 : Int); omega, Int.le_refl _⟩
     ·obtain rfl := List.mem_singleton.1 hx
      exact ⟨Int.le_refl _, by omega⟩
theorem wV_lg {gs : Gs} (h : LG gs) (n F : Nat) (h0 : 1 ≤ n) (hn : n + gs.length ≤ 100) (hF : F + 22 < 4294967296) (hg : gs ≠ []) : wV (logF n F gs) = ((F : Int), allR gs, nms n gs.length, 0, 0) :=
 wV_log gs n F h.recs h0 hn (by have := h.cnt; omega) hg
theorem chk_lg {gs : Gs} (h : LG gs) {r : ByteArray} (hr : Rec1 r) : chkV (logF 1 0 gs) r = 0 := by
 have hlen := h.len
 have hcnt := h.cnt
 unfold Rec1 at hr
 unfold chkV
 rw [decide_t (by omega), decide_t (by omega), Bool.and_self, Bool.not_true, cf]
 rcases List.eq_nil_or_concat gs with rfl | ⟨a, g, rfl⟩
 ·rfl
 ·rw [List.concat_eq_append] at *
  rw [wV_lg h 1 0 (Nat.le_refl _) (by omega) (by omega) (by simp)]
  dsimp only
  rw [show ((0 : Int) != 0) = false from rfl, cf, show decide ((0 : Int) > 0) = false from rfl, cf, decide_f (by omega), cf, segs_log _ 1 0 (Nat.le_refl _) (by omega)]
  have e1 : logF 1 0 (a ++ [g]) = logF 1 0 a ++ [segF (1 + a.length) (0 + (allR a).length) g.1 g.2] := logF_append a [g] 1 0
  rw [e1, List.getLast?_append]
  have hl : a.length + 1 ≤ 8 := by simpa using hlen
  show cond (segB (nmV ((1 + a.length : Nat) : Int)) == 99) 6 0 = 0
  rw [segB_nm _ (by omega), show (((1 + a.length : Nat) : Int) == 99) = false by rw [beq_eq_false_iff_ne]; omega, cf]
theorem wap_lg {gs : Gs} (h : LG gs) {r : ByteArray} (hr : Rec1 r) (hc : (allR gs).length ≤ 21) :
  ((addG gs r).length ≤ 8 → wapV 3000 (logF 1 0 gs) r = (3000, logF 1 0 (addG gs r), 0)) ∧ (8 < (addG gs r).length → (wapV 3000 (logF 1 0 gs) r).2.2 = 7) := by
 have hlen := h.len
 have hr' := hr
 unfold Rec1 at hr'
 have hfr := frB_size r
 have htot : totF (logF 1 0 gs) ≤ 126 * 21 := by
  rw [totF_log]
  have := tot_le gs h.recs h.ne
  omega
 unfold wapV
 rw [chk_lg h hr, show ((0 : Int) != 0) = false from rfl, cf]
 unfold planV
 rcases List.eq_nil_or_concat gs with rfl | ⟨a, g, rfl⟩
 ·refine ⟨fun _ => ?_, fun h => by rw [addG_nil] at h; simp at h⟩
  have e := ap_new (n := 1) (F := 0) (gs := []) (r := r) (by simp) (by simp) (by
   rw [ByteArray.size_append, hdB_size, hfr]
   show ((10 + (6 + r.size) : Nat) : Int) ≤ 3000 - 0
   omega)
  have e2 : doV 3000 (logF 1 0 []) (planL ((segs (logF 1 0 [])).getLast?) (IntKind.wrap .i64 ((wV (logF 1 0 [])).1 + ((wV (logF 1 0 [])).2.1.length : Int))) r) = doV 3000 (logF 1 0 []) [actA (nmV ((1 + ([] : Gs).length : Nat) : Int)) (hdB ((0 + (allR []).length : Nat) : Int) ++ frB r)] := rfl
  rw [e2, doV_one, e]
  rfl
 ·rw [List.concat_eq_append] at *
  have hl : a.length + 1 ≤ 8 := by simpa using hlen
  have e1 : logF 1 0 (a ++ [g]) = logF 1 0 a ++ [segF (1 + a.length) (0 + (allR a).length) g.1 g.2] := logF_append a [g] 1 0
  have hlast : (segs (logF 1 0 (a ++ [g]))).getLast? = some (segF (1 + a.length) (0 + (allR a).length) g.1 g.2) := by
   rw [segs_log _ 1 0 (Nat.le_refl _) (by omega), e1, List.getLast?_append]
   rfl
  rw [hlast, wV_lg h 1 0 (Nat.le_refl _) (by omega) (by omega) (by simp)]
  dsimp only
  have hsz : ByteArray.size (segF (1 + a.length) (0 + (allR a).length) g.1 g.2).2.1 = segSize g.1 := (strL_size _).trans (recs_seg _ g.1)
  have hseg : segSize g.1 = 10 + (g.1.map fun r => 6 + r.size).sum := rfl
  have hs0 : ((segSize g.1 : Nat) : Int) ≠ 0 := by omega
  have hsl := segSize_le (h.recs g (by simp))
  unfold planL
  dsimp only
  rw [hsz, show (((segSize g.1 : Nat) : Int) == 0) = false by rw [beq_eq_false_iff_ne]; exact hs0, cf]
  have hw : IntKind.wrap .i64 (((0 : Nat) : Int) + ((allR (a ++ [g])).length : Int)) = ((0 + (allR (a ++ [g])).length : Nat) : Int) := by
   rw [wr (by omega) (by omega)]
   omega
  rw [hw]
  have hseg1 : segB (segF (1 + a.length) (0 + (allR a).length) g.1 g.2).1 = ((1 + a.length : Nat) : Int) := segB_nm _ (by omega)
  rw [addG_snoc]
  by_cases hz : segSize g.1 + (6 + r.size) ≤ 160
  ·rw [if_pos hz]
   refine ⟨fun _ => ?_, fun h => by simp at h; omega⟩
   rw [hfr, decide_f (by omega), cf]
   have ht2 : totF (logF 1 0 (a ++ [(g.1, g.2)])) ≤ 126 * 21 := htot
   have e := ap_rec (n := 1) (F := 0) (gs := a) (g := g.1) (s := g.2) (r := r) (by omega) (by rw [hfr]; omega)
   have e' : apV 3000 (logF 1 0 (a ++ [g])) (segF (1 + a.length) (0 + (allR a).length) g.1 g.2).1 (frB r) = (0, logF 1 0 (a ++ [(g.1 ++ [r], g.2)])) := e
   have ed : doV 3000 (logF 1 0 (a ++ [g])) [actA (segF (1 + a.length) (0 + (allR a).length) g.1 g.2).1 (frB r)] = (0, logF 1 0 (a ++ [(g.1 ++ [r], g.2)])) := by
    rw [doV_one, e']
    rfl
   rw [ed]
   rfl
  ·rw [if_neg hz, hfr, decide_t (by omega), ct, hseg1]
   have e3 : ∀ d, doV 3000 (logF 1 0 (a ++ [g])) [actS (segF (1 + a.length) (0 + (allR a).length) g.1 g.2).1, actA (nmV (((1 + a.length : Nat) : Int) + 1)) d] = doV 3000 (logF 1 0 (a ++ [(g.1, (segSize g.1 : Int))])) [actA (nmV ((1 + (a ++ [(g.1, (segSize g.1 : Int))]).length : Nat) : Int)) d] := by
    intro d
    rw [doV_two]
    have e4 := sy_log (n := 1) (F := 0) (gs := a) (g := g.1) (s := g.2) (by omega)
    have e4' : syV (logF 1 0 (a ++ [g])) (segF (1 + a.length) (0 + (allR a).length) g.1 g.2).1 = logF 1 0 (a ++ [(g.1, (segSize g.1 : Int))]) := e4
    rw [e4']
    congr 4
    rw [List.length_append]
    simp
    omega
   rw [e3]
   have hall : allR (a ++ [(g.1, (segSize g.1 : Int))]) = allR (a ++ [g]) := by rw [allR_append, allR_append]; rfl
   have htt : totF (logF 1 0 (a ++ [(g.1, (segSize g.1 : Int))])) = totF (logF 1 0 (a ++ [g])) := by
    rw [totF_log, totF_log]
    simp
   refine ⟨fun h8 => ?_, fun h8 => ?_⟩
   ·have e5 := ap_new (n := 1) (F := 0) (gs := a ++ [(g.1, (segSize g.1 : Int))]) (r := r) (by simp; omega) (by simp at h8 ⊢; omega) (by
     rw [ByteArray.size_append, hdB_size, hfr, htt]
     omega)
    rw [hall] at e5
    have ed := doV_one 3000 (logF 1 0 (a ++ [(g.1, (segSize g.1 : Int))])) (nmV ((1 + (a ++ [(g.1, (segSize g.1 : Int))]).length : Nat) : Int)) (hdB ((0 + (allR (a ++ [g])).length : Nat) : Int) ++ frB r)
    rw [e5] at ed
    rw [ed]
    show ((3000 : Int), logF 1 0 (a ++ [(g.1, (segSize g.1 : Int))] ++ [([r], 0)]), (0 : Int)) = _
    rw [List.append_assoc]
    rfl
   ·have e5 := ap_full (n := 1) (F := 0) (gs := a ++ [(g.1, (segSize g.1 : Int))]) (d := hdB ((0 + (allR (a ++ [g])).length : Nat) : Int) ++ frB r) (by simp; omega) (by simp at h8 ⊢; omega)
    have ed := doV_one 3000 (logF 1 0 (a ++ [(g.1, (segSize g.1 : Int))])) (nmV ((1 + (a ++ [(g.1, (segSize g.1 : Int))]).length : Nat) : Int)) (hdB ((0 + (allR (a ++ [g])).length : Nat) : Int) ++ frB r)
    rw [e5, show ((7 : Int) != 0) = true from rfl, ct] at ed
    rw [ed]
    rfl
end Go.Proofs.YtaanadbpnmcbcaaGreatDoorA
namespace Go.Proofs.YtaanadbpnmcbcaaGreatDoorA
open Go
set_option linter.unusedVariables false
set_option linter.unusedSimpArgs false
theorem texts_self (a : List ByteArray) (h : a.length ≤ 1000000) : gq24 a a = some true := by
 unfold gq24 gq24.F
 rw [show ((a.length : Int) != a.length) = false by simp, cf]
 have key : ∀ (m fu i : Nat), i + m = a.length → m < fu → gq24.l1 (some true) (fun b1 => some b1) fu a a (i : Int) = some true := by
  intro m
  induction m with
  | zero =>
   intro fu i e hf
   obtain ⟨fu, rfl⟩ : ∃ q, fu = q + 1 := ⟨fu - 1, by omega⟩
   simp only [gq24.l1]
   rw [decide_f (by omega), cf]
  | succ m ih =>
   intro fu i e hf
   obtain ⟨fu, rfl⟩ : ∃ q, fu = q + 1 := ⟨fu - 1, by omega⟩
   simp only [gq24.l1]
   rw [decide_t (by omega), ct, grd_of (gIx_t (by omega) (by omega)), grd_of (gIx_t (by omega) (by omega)), sEq_self, Bool.not_true, cf, wr (by omega) (by omega), show ((i : Int) + 1) = ((i + 1 : Nat) : Int) by omega]
   exact ih fu (i + 1) (by omega) (by omega)
 have := key a.length fuel 0 (by omega) (fuel_big (by omega))
 rwa [Int.natCast_zero] at this
theorem newDisk_s : gq17 3000 = some (3000, [], 0) := by
 unfold gq17 gq17.F
 rw [l01In_eq, bs]
 rfl
end Go.Proofs.YtaanadbpnmcbcaaGreatDoorA
namespace Go.Proofs.YtaanadbpnmcbcaaGreatDoorA
open Go
set_option linter.unusedVariables false
set_option linter.unusedSimpArgs false
end Go.Proofs.YtaanadbpnmcbcaaGreatDoorA
namespace Go.Proofs.YtaanadbpnmcbcaaGreatDoorA
open Go
set_option linter.unusedVariables false
set_option linter.unusedSimpArgs false
end Go.Proofs.YtaanadbpnmcbcaaGreatDoorA
namespace Go.Proofs.YtaanadbpnmcbcaaGreatDoorA
open Go
set_option linter.unusedVariables false
set_option linter.unusedSimpArgs false
end Go.Proofs.YtaanadbpnmcbcaaGreatDoorA
namespace Go.Proofs.YtaanadbpnmcbcaaGreatDoorA
open Go
set_option linter.unusedVariables false
set_option linter.unusedSimpArgs false
theorem gs_len : ∀ (gs : Gs), (∀ g ∈ gs, g.1 ≠ []) → gs.length ≤ (allR gs).length
 | [], _ => Nat.le_refl _
 | g :: gs, h => by
  have h1 := gs_len gs fun x hx => h x (by simp [hx])
  have h3 : g.1.length ≠ 0 := fun e => h g (by simp) (List.length_eq_zero_iff.1 e)
  rw [allR_cons, List.length_append, List.length_cons]
  omega
def Syn (gs : Gs) (sy : Nat) : Prop := (gs = [] ∧ sy = 0) ∨ ∃ a g s t, gs = a ++ [(g, s)] ∧ (∀ x ∈ a, x.2 = (segSize x.1 : Int)) ∧ t ≤ g.length ∧ (t = 0 ∨ (segSize (g.take t) : Int) ≤ s) ∧ sy = (allR a).length + t
def b2 (gs : Gs) (r : ByteArray) : Bool := match gs.getLast? with
 | none => false
 | some g => decide (160 < segSize g.1 + (6 + r.size))
theorem Syn.add {gs : Gs} {sy : Nat} (h : Syn gs sy) (r : ByteArray) : Syn (addG gs r) (cond (b2 gs r) (allR gs).length sy) := by
 rcases h with ⟨rfl, rfl⟩ | ⟨a, g, s, t, rfl, h1, h2, h3, rfl⟩
 ·exact .inr ⟨[], [r], 0, 0, rfl, fun x hx => by simp at hx, Nat.zero_le _, .inl rfl, rfl⟩
 ·rw [addG_snoc]
  have hb : b2 (a ++ [(g, s)]) r = decide (160 < segSize g + (6 + r.size)) := by
   unfold b2
   simp
  rw [hb]
  by_cases hz : segSize g + (6 + r.size) ≤ 160
  ·rw [if_pos hz, decide_f (by omega), cf]
   refine .inr ⟨a, g ++ [r], s, t, rfl, h1, by simp; omega, ?_, rfl⟩
   rw [List.take_append_of_le_length h2]
   exact h3
  ·rw [if_neg hz, decide_t (by omega), ct]
   refine .inr ⟨a ++ [(g, (segSize g : Int))], [r], 0, 0, by simp, fun x hx => ?_, Nat.zero_le _, .inl rfl, ?_⟩
   ·rcases List.mem_append.1 hx with hx | hx
    ·exact h1 x hx
    ·obtain rfl := List.mem_singleton.1 hx
     rfl
   ·rw [allR_append, allR_append]
    rfl
theorem sync_lg {gs : Gs} (h : LG gs) (hne : gs ≠ []) {sy : Nat} (hs : Syn gs sy) : ∃ gs', syncV (logF 1 0 gs) = logF 1 0 gs' ∧ LG gs' ∧ allR gs' = allR gs ∧ Syn gs' (allR gs).length := by
 rcases hs with ⟨rfl, _⟩ | ⟨a, g, s, t, rfl, h1, h2, h3, rfl⟩
 ·exact absurd rfl hne
 have hlen : a.length + 1 ≤ 8 := by have := h.len; simpa using this
 have e1 : logF 1 0 (a ++ [(g, s)]) = logF 1 0 a ++ [segF (1 + a.length) (0 + (allR a).length) g s] := logF_append a [(g, s)] 1 0
 have hlast : (segs (logF 1 0 (a ++ [(g, s)]))).getLast? = some (segF (1 + a.length) (0 + (allR a).length) g s) := by
  rw [segs_log _ 1 0 (Nat.le_refl _) (by simp; omega), e1, List.getLast?_append]
  rfl
 have hall : allR (a ++ [(g, (segSize g : Int))]) = allR (a ++ [(g, s)]) := by rw [allR_append, allR_append]; rfl
 refine ⟨a ++ [(g, (segSize g : Int))], ?_, ⟨fun x hx => ?_, fun x hx => ?_, fun x hx => ?_, by simp; omega, by rw [hall]; exact h.cnt⟩, hall, .inr ⟨a, g, _, g.length, rfl, h1, Nat.le_refl _, .inr (by rw [List.take_length]; exact Int.le_refl _), ?_⟩⟩
 ·unfold syncV
  rw [hlast]
  exact sy_log (n := 1) (F := 0) (gs := a) (g := g) (s := s) (by omega)
 ·rcases List.mem_append.1 hx with hx | hx
  ·exact h.recs x (by simp [hx])
  ·obtain rfl := List.mem_singleton.1 hx
   exact h.recs (g, s) (by simp)
 ·rcases List.mem_append.1 hx with hx | hx
  ·exact h.ne x (by simp [hx])
  ·obtain rfl := List.mem_singleton.1 hx
   exact h.ne (g, s) (by simp)
 ·rcases List.mem_append.1 hx with hx | hx
  ·exact h.sure x (by simp [hx])
  ·obtain rfl := List.mem_singleton.1 hx
   exact ⟨Int.natCast_nonneg _, Int.le_refl _⟩
 ·rw [allR_append]
  simp [allR]
end Go.Proofs.YtaanadbpnmcbcaaGreatDoorA
namespace Go.Proofs.YtaanadbpnmcbcaaGreatDoorA
open Go
set_option linter.unusedVariables false
set_option linter.unusedSimpArgs false
def fStep (t v : Int) (l : List (El kkb53)) : List Int → Option (Int × Int × List (El kkb53))
 | [] => none
 | x :: m =>
  if x = 84 then (if m.length = 5 then some (beN 0 (m.take 4), beN 0 (m.drop 4) - 1, l) else none)
  else if x = 67 then (if m.length = 4 ∧ beN 0 m ≤ l.length then some (t, v, l.take (beN 0 m).toNat) else none)
  else if x = 69 then (match pEnt m with
   | some y => if (decide (y.r = []) && entOK y.t y.k y.D) = true ∧ l.length + 1 ≤ 60 then some (t, v, l ++ [(y.t, (y.k, strL y.D))]) else none
   | none => none)
  else none
theorem cut_tail (x : Int) (m : List Int) : cut (strL (x :: m)) 1 (ByteArray.size (strL (x :: m)) : Int) = strL m := by
 rw [strL_size, cut_strL, sub_drop _ _ rfl]
 rfl
theorem byteAt_head {x : Int} {m : List Int} (h : IsBytes (x :: m)) : byteAt (strL (x :: m)) 0 = x := by
 rw [byteAt_strL h (by decide) (by simp)]
 rfl
theorem sEq_cons {x : Int} {m : List Int} (h : IsBytes (x :: m)) : sEq (strL (x :: m)) ByteArray.empty = false := by
 rw [← strL_nil, sEq_strL h IsBytes.nil]
 simp
theorem beq_f {x y : Int} (h : ¬ x = y) : (x == y) = false := by simp [h]
theorem fold_i (t v : Int) (l : List (El kkb53)) (r : List Int) (hb : IsBytes r) (hr : r.length ≤ 1000) (hl : l.length ≤ 60) :
  match fStep t v l r with
  | some y => gq143 t v l (strL r) = some (true, y.1, y.2.1, y.2.2)
  | none => ∃ g1 g2 g3, gq143 t v l (strL r) = some (false, g1, g2, g3) := by
 unfold gq143 gq143.F
 match r, hb, hr with
 | [], hb, hr =>
  rw [strL_nil, sEq_self, ct]
  exact ⟨_, _, _, rfl⟩
 | x :: m, hb, hr =>
  have hm : m.length ≤ 1000 := by simp at hr; omega
  have hbm := hb.tail
  rw [sEq_cons hb, cf, grd_of (gSl_t (by decide) (by rw [strL_size]; simp; omega) (by omega)), grd_of (gIx_t (by decide) (by rw [strL_size]; simp)), byteAt_head hb, cut_tail]
  simp only [fStep, strL_size m]
  by_cases h1 : x = 84
  ·subst h1
   rw [if_pos rfl, beq_self_eq_true, ct]
   by_cases h2 : m.length = 5
   ·have e4 : IsBytes (m.take 4) := hbm.take 4
    have e5 : IsBytes (m.drop 4) := hbm.drop 4
    have hx : (m.drop 4).length = 1 := by simp [h2]
    have hb1 := beN_bounds _ 0 e5 (by decide)
    rw [hx] at hb1
    have h256 : (0 + 1 : Int) * 256 ^ 1 = 256 := by decide
    rw [h256] at hb1
    rw [if_pos h2, show ((m.length : Int) != 5) = false by simp [h2], cf, grd_of (gSl_t (by decide) (by decide) (by omega)), cut_strL, sub_take, show (4 : Int).toNat = 4 from rfl, numberOf_eq _ e4 (by simp; omega), bs, grd_of (gSl_t (by decide) (by omega) (by omega)), cut_strL, sub_drop _ _ rfl, show (4 : Int).toNat = 4 from rfl, numberOf_eq _ e5 (by omega), bs, wr (by omega) (by omega)]
   ·rw [if_neg h2, show ((m.length : Int) != 5) = true by simp; omega, ct]
    exact ⟨_, _, _, rfl⟩
  ·rw [if_neg h1, beq_f h1, cf]
   by_cases h2 : x = 67
   ·subst h2
    obtain ⟨n, hn⟩ := numberOf_total (strL m) (by rw [strL_size]; omega)
    rw [if_pos rfl, beq_self_eq_true, ct, hn, bs]
    by_cases h3 : m.length = 4
    ·have hn' : n = beN 0 m := by
      have := numberOf_eq m hbm (by omega)
      rw [hn] at this
      exact Option.some.inj this
     have hb1 := beN_bounds _ 0 hbm (by decide)
     rw [show ((m.length : Int) != 4) = false by simp [h3], cf, hn']
     by_cases h4 : beN 0 m ≤ l.length
     ·rw [if_pos ⟨h3, h4⟩, decide_f (Int.not_lt.2 h4), cf, grd_of (gSl_t (by decide) hb1.1 h4), sub_take]
     ·rw [if_neg (fun h => h4 h.2), decide_t (Int.not_le.1 h4), ct]
      exact ⟨_, _, _, rfl⟩
    ·rw [if_neg (fun h => h3 h.1), show ((m.length : Int) != 4) = true by simp; omega, ct]
     exact ⟨_, _, _, rfl⟩
   ·rw [if_neg h2, beq_f h2, cf]
    by_cases h3 : x = 69
    ·subst h3
     obtain ⟨g1, g2, g3, h4⟩ := readEnt_i m hbm (by omega)
     rw [if_pos rfl, beq_self_eq_true, ct, h4, bs, grd_of (gRm_t (by simp; omega))]
     cases hp : pEnt m with
     | none => exact ⟨_, _, _, by rw [cf]⟩
     | some y =>
      dsimp only
      cases hq : (decide (y.r = []) && entOK y.t y.k y.D) with
      | false =>
       rw [if_neg (fun h => by simp at h), cf]
       exact ⟨_, _, _, rfl⟩
      | true =>
       rw [ct]
       by_cases h5 : l.length + 1 ≤ 60
       ·rw [if_pos ⟨rfl, h5⟩, decide_t (by simp; omega)]
       ·rw [if_neg (fun h => h5 h.2), decide_f (by simp; omega)]
        exact ⟨_, _, _, rfl⟩
    ·rw [if_neg h3, beq_f h3, cf]
     exact ⟨_, _, _, rfl⟩
end Go.Proofs.YtaanadbpnmcbcaaGreatDoorA
namespace Go.Proofs.YtaanadbpnmcbcaaGreatDoorA
open Go
set_option linter.unusedVariables false
set_option linter.unusedSimpArgs false
def SOk (l : List (El kkb53)) : Prop := l.length ≤ 60 ∧ ∀ e ∈ l, e.2.2.size ≤ 1000
theorem SOk.short {l : List (El kkb53)} (h : SOk l) : Short l := ⟨by have := h.1; omega, fun e he => by have := h.2 e he; omega⟩
theorem fStep_ok {t v : Int} {l : List (El kkb53)} {r : List Int} {y : Int × Int × List (El kkb53)} (hl : SOk l) (h : fStep t v l r = some y) : SOk y.2.2 := by
 match r with
 | [] => simp [fStep] at h
 | x :: m =>
  simp only [fStep] at h
  by_cases h1 : x = 84
  ·rw [if_pos h1] at h
   by_cases h2 : m.length = 5
   ·rw [if_pos h2] at h
    obtain rfl := Option.some.inj h
    exact hl
   ·rw [if_neg h2] at h
    cases h
  ·rw [if_neg h1] at h
   by_cases h2 : x = 67
   ·rw [if_pos h2] at h
    by_cases h3 : m.length = 4 ∧ beN 0 m ≤ l.length
    ·rw [if_pos h3] at h
     obtain rfl := Option.some.inj h
     exact ⟨by have := hl.1; simp; omega, fun e he => hl.2 e (List.mem_of_mem_take he)⟩
    ·rw [if_neg h3] at h
     cases h
   ·rw [if_neg h2] at h
    by_cases h3 : x = 69
    ·rw [if_pos h3] at h
     cases hp : pEnt m with
     | none => rw [hp] at h; cases h
     | some y =>
      rw [hp] at h
      dsimp only at h
      by_cases h4 : (decide (y.r = []) && entOK y.t y.k y.D) = true ∧ l.length + 1 ≤ 60
      ·rw [if_pos h4] at h
       obtain rfl := Option.some.inj h
       obtain ⟨h5, h6⟩ := h4
       rw [Bool.and_eq_true] at h5
       have h7 := (entOK_short h5.2).1
       refine ⟨by simp; omega, fun e he => ?_⟩
       rcases List.mem_append.1 he with he | he
       ·exact hl.2 e he
       ·rw [List.mem_singleton.1 he]
        show (strL y.D).size ≤ 1000
        rw [strL_size]
        omega
      ·rw [if_neg h4] at h
       cases h
    ·rw [if_neg h3] at h
     cases h
def fAll : Int × Int × List (El kkb53) → List ByteArray → Option (Int × Int × List (El kkb53))
 | q, [] => some q
 | q, s :: rs => match fStep q.1 q.2.1 q.2.2 (bytesL s) with
  | some y => fAll y rs
  | none => none
theorem fAll_ok : ∀ {rs : List ByteArray} {q y : Int × Int × List (El kkb53)}, SOk q.2.2 → fAll q rs = some y → SOk y.2.2
 | [], q, y, h, e => by
  obtain rfl := Option.some.inj e
  exact h
 | s :: rs, q, y, h, e => by
  unfold fAll at e
  cases hs : fStep q.1 q.2.1 q.2.2 (bytesL s) with
  | none => rw [hs] at e; cases e
  | some z =>
   rw [hs] at e
   exact fAll_ok (fStep_ok h hs) e
theorem foldLoop_i {R : Type} (kke : Int → Int → Int → Int → List (El kkb53) → Option R) (kkr : Int → Int → Int → Option R) (list : List ByteArray) (hl : list.length ≤ 1000000) (hz : ∀ s ∈ list, s.size ≤ 1000) (a b : Int) :
  ∀ (m n j : Nat) (q : Int × Int × List (El kkb53)), j + m = list.length → m < n → SOk q.2.2 →
   gq87.l1 kke kkr n list list.length j a b q.1 q.2.1 q.2.2 = match fAll q (list.drop j) with | some y => kke a b y.1 y.2.1 y.2.2 | none => kkr 3 0 0
 | 0, n + 1, j, q, e, _, hq => by
  simp only [gq87.l1]
  rw [decide_f (by omega), cf, List.drop_of_length_le (by omega)]
  rfl
 | m + 1, n + 1, j, q, e, hn, hq => by
  have hj : j < list.length := by omega
  have hs := hz _ (List.getElem_mem hj)
  have hf := fold_i q.1 q.2.1 q.2.2 (bytesL list[j]) (IsBytes.bytesL _) (by rw [bytesL_length]; exact hs) hq.1
  rw [strL_bytesL] at hf
  simp only [gq87.l1]
  rw [decide_t (by omega), ct, grd_of (gIx_t (by omega) (by omega)), Int.toNat_natCast, rdE_at (k := .str) hj, wr (by omega) (by omega), drop_cons hj]
  simp only [fAll]
  cases h1 : fStep q.1 q.2.1 q.2.2 (bytesL list[j]) with
  | none =>
   rw [h1] at hf
   obtain ⟨g1, g2, g3, hg⟩ := hf
   rw [hg, bs, Bool.not_false, ct]
  | some y =>
   rw [h1] at hf
   dsimp only at hf
   rw [hf, bs, Bool.not_true, cf, show ((j : Int) + 1) = ((j + 1 : Nat) : Int) by omega]
   exact foldLoop_i kke kkr list hl hz a b m n (j + 1) y (by omega) (by omega) (fStep_ok hq h1)
theorem clone_entry (l : List (El kkb53)) (h : l.length ≤ 1000000) : gq144 l = some l := by
 cases l with
 | nil =>
  have e : gq144 [] = agree (some []) (some []) := by kernel_rfl
  rw [e, agree_self]
 | cons x l =>
  unfold gq144 gq144.F
  rw [List.isEmpty_cons, cf, grd_of (gRm_t (by simp at h ⊢; omega)), List.nil_append]
noncomputable def told (list : List ByteArray) : Int × Int × List (El kkb53) × Int :=
 open Classical in
 if list.length > 4096 then (0, 0, [], 2)
 else if list.any (fun s => decide ((s.size : Int) > 110)) then (0, 0, [], 4)
 else match fAll (0, -1, []) list with
  | some y => if StOK y.1 y.2.1 y.2.2 then (y.1, y.2.1, y.2.2, 0) else (0, 0, [], 3)
  | none => (0, 0, [], 3)
theorem sok_nil : SOk [] := ⟨by decide, fun e he => by cases he⟩
theorem foldRec_i (list : List ByteArray) (h : list.length ≤ 1000000) : gq87 list = some (open Classical in if list.any (fun s => decide ((s.size : Int) > 110)) then ((0 : Int), (0 : Int), ([] : List (El kkb53)), (4 : Int))
    else match fAll (0, -1, []) list with
     | some y => if StOK y.1 y.2.1 y.2.2 then (y.1, y.2.1, y.2.2, 0) else (0, 0, [], 3)
     | none => (0, 0, [], 3)) := by
 unfold gq87 gq87.F gq117 gq117.F gq154 gq154.F
 have hq : ∀ x ∈ list, (fun x : ByteArray => (fun t : ByteArray × Unit => (gq142 t.1).bind fun a => some (a, ())) (x, ())) x = some (decide ((x.size : Int) > 110), ()) := by
  intro x _
  simp only [gq142, gq142.F, bs]
 have := find_loop (k := .str) (L := gq154.l1 (fun t => (gq142 t.1).bind fun a => some (a, ())) (some (-1 : Int)) (fun i => some i)) (fun n s i j => rfl) (l := list) (by omega) hq list.length fuel 0 (by omega) (fuel_big (by omega))
 rw [Int.natCast_zero] at this
 rw [this, List.drop_zero, ← findIdx_any]
 cases hd : list.findIdx? fun s => decide ((s.size : Int) > 110) with
 | some d =>
  dsimp only
  rw [bs, bs, decide_t (by omega), ct, Option.isSome_some, if_pos rfl]
 | none =>
  dsimp only
  have hall : ∀ s ∈ list, s.size ≤ 1000 := fun s hs => by
   have := (List.findIdx?_eq_none_iff.1 hd) s hs
   rw [decide_eq_false_iff_not] at this
   omega
  rw [bs, bs, decide_f (by decide), cf, Option.isSome_none, if_neg (by decide)]
  have hloop := foldLoop_i (fun i i1 s s1 l => (gq47 s s1 l).bind fun r1 => cond (!r1) (some ((0 : Int), (0 : Int), ([] : List (El kkb53)), (3 : Int))) ((gq144 l).bind fun r2 => some (s, s1, r2, (0 : Int)))) (fun i2 i3 i4 => some (i3, i4, [], i2)) list (by omega) hall 0 0 list.length fuel 0 (0, -1, []) (by omega) (fuel_big (by omega)) sok_nil
  rw [Int.natCast_zero, List.drop_zero] at hloop
  rw [hloop]
  cases hf : fAll (0, -1, []) list with
  | none => rfl
  | some y =>
   have hs := fAll_ok (q := (0, -1, [])) sok_nil hf
   obtain ⟨b, h2, h3⟩ := stateOK_i y.1 y.2.1 y.2.2 hs.short
   dsimp only
   rw [h2, bs]
   cases b with
   | false => rw [Bool.not_false, ct, if_neg (fun h => by simpa using h3.2 h)]
   | true => rw [Bool.not_true, cf, if_pos (h3.1 rfl), clone_entry _ (by have := hs.1; omega), bs]
theorem foldRecords_i (list : List ByteArray) (h : list.length ≤ 1000000000) : gq45 list = some (told list) := by
 unfold gq45 gq45.F gq90 gq90.F told
 rw [bs]
 by_cases h0 : list.length > 4096
 ·rw [if_pos h0, decide_f (by omega), Bool.not_false, ct]
 ·rw [if_neg h0, decide_t (by omega), Bool.not_true, cf]
  rw [foldRec_i list (by omega), bs]
end Go.Proofs.YtaanadbpnmcbcaaGreatDoorA
namespace Go.Proofs.YtaanadbpnmcbcaaGreatDoorA
open Go
set_option linter.unusedVariables false
set_option linter.unusedSimpArgs false
theorem rising_len : ∀ (l : List Int) (a : Int), rising l = true → l.all inSeven = true → (∀ x, l.head? = some x → a ≤ x) → (l.length : Int) ≤ 7 - a ∨ l = []
 | [], a, _, _, _ => .inr rfl
 | [x], a, _, h, k => by
  left
  have h1 := k x rfl
  simp only [List.all_cons, List.all_nil, Bool.and_true, inSeven, Bool.and_eq_true, decide_eq_true_iff] at h
  simp
  omega
 | x :: y :: l, a, h, k, hk => by
  left
  have h1 := hk x rfl
  rw [rising, Bool.and_eq_true, decide_eq_true_iff] at h
  rw [List.all_cons, Bool.and_eq_true] at k
  rcases rising_len (y :: l) (a + 1) h.2 k.2 (fun z hz => by simp at hz; omega) with h2 | h2
  ·simp only [List.length_cons] at h2 ⊢
   omega
  ·cases h2
theorem memOK_len {l : List Int} (h : memOK l = true) : l.length ≤ 7 := by
 unfold memOK at h
 rw [Bool.and_eq_true, Bool.and_eq_true] at h
 rcases rising_len l 0 h.2 h.1.2 (fun x hx => by
  have := List.all_eq_true.1 h.1.2 x (List.mem_of_mem_head? hx)
  simp only [inSeven, Bool.and_eq_true, decide_eq_true_iff] at this
  exact this.1) with h2 | h2
 ·omega
 ·rw [h2]; simp
theorem entOK_len {t k : Int} {D : List Int} (h : entOK t k D = true) : D.length ≤ 100 := by
 unfold entOK at h
 rw [Bool.and_eq_true] at h
 have h := h.2
 split at h
 ·have := of_decide_eq_true h
  rw [this]; simp
 ·split at h
  ·rw [Bool.and_eq_true, decide_eq_true_iff, decide_eq_true_iff] at h
   exact h.2
  ·split at h
   ·have := memOK_len h; omega
   ·cases h
theorem pCnt_len {l D r : List Int} (hb : IsBytes l) (h : pCnt l = some (D, r)) : l.length = 1 + D.length + r.length := by
 obtain ⟨_, _, h3, _⟩ := pCnt_bytes hb h
 rw [h3]
 simp [cntB]
 omega
theorem pEnt_len {m : List Int} {y : PE} (hb : IsBytes m) (h : pEnt m = some y) : m.length = 6 + y.D.length + y.r.length := by
 unfold pEnt at h
 split at h
 ·rename_i a b c d e l
  split at h
  ·rename_i D l1 hc
   cases h
   have := pCnt_len (l := l) (fun z hz => hb z (by simp [hz])) hc
   simp only [List.length_cons]
   omega
  ·cases h
 ·cases h
theorem fStep_len {t v : Int} {l : List (El kkb53)} {r : List Int} {y : Int × Int × List (El kkb53)} (hb : IsBytes r) (h : fStep t v l r = some y) : r.length ≤ 110 := by
 unfold fStep at h
 split at h
 ·cases h
 ·rename_i x m
  split at h
  ·split at h
   ·simp; omega
   ·cases h
  ·split at h
   ·split at h
    ·rename_i hh; simp; omega
    ·cases h
   ·split at h
    ·split at h
     ·rename_i z hz
      split at h
      ·rename_i hh
       rw [Bool.and_eq_true, decide_eq_true_iff] at hh
       have h1 := pEnt_len (fun z hz => hb z (by simp [hz])) hz
       have h2 := entOK_len hh.1.2
       have h3 : z.r.length = 0 := by rw [hh.1.1]; rfl
       simp
       omega
      ·cases h
     ·cases h
    ·cases h
theorem fAll_long : ∀ {rs : List ByteArray} {q : Int × Int × List (El kkb53)}, rs.any (fun s => decide ((s.size : Int) > 110)) = true → fAll q rs = none
 | [], q, h => by simp at h
 | s :: rs, q, h => by
  unfold fAll
  cases hs : fStep q.1 q.2.1 q.2.2 (bytesL s) with
  | none => rfl
  | some y =>
   have := fStep_len (IsBytes.bytesL s) hs
   rw [bytesL_length] at this
   rw [List.any_cons, decide_f (by omega), Bool.false_or] at h
   exact fAll_long h
noncomputable def loadV (room : Int) (l : List (El kFile)) : Int × Int × List (El kkb53) × Int :=
 open Classical in
 cond ((readV room l).2.2.2.2 != 0) (0, 0, [], (readV room l).2.2.2.2) (match fAll (0, -1, []) (readV room l).2.1 with
  | some y => if StOK y.1 y.2.1 y.2.2 then (y.1, y.2.1, y.2.2, 0) else (0, 0, [], 3)
  | none => (0, 0, [], 3))
theorem readV_len (room : Int) (l : List (El kFile)) : (readV room l).2.1.length ≤ 24000 ∧ ∀ s ∈ (readV room l).2.1, s.size ≤ 200 := by
 unfold readV
 cases hd : dOK room l with
 | false => exact ⟨by simp [wErr], fun s h => by simp [wErr] at h⟩
 | true => exact wV_len (dOK_DK hd)
theorem load_i (room : Int) (l : List (El kFile)) (hl : l.length ≤ 1000000000) (h : DFit l) : gq41 room l = some (loadV room l) := by
 unfold gq41 gq41.F loadV
 have hr := readV_len room l
 rw [walRead_i room l hl h, bs]
 cases (readV room l).2.2.2.2 != 0 with
 | true => rfl
 | false =>
  rw [cf, cf, foldRec_i _ (by omega), bs]
  by_cases ha : (readV room l).2.1.any (fun s => decide ((s.size : Int) > 110)) = true
  ·rw [if_pos ha, fAll_long ha]
   rfl
  ·rw [if_neg ha]
   cases fAll (0, -1, []) (readV room l).2.1 with
   | none => rfl
   | some y =>
    dsimp only
    split <;> rfl
end Go.Proofs.YtaanadbpnmcbcaaGreatDoorA
namespace Go.Proofs.YtaanadbpnmcbcaaGreatDoorA
open Go
set_option linter.unusedVariables false
set_option linter.unusedSimpArgs false
theorem StOK.data {t v : Int} {l : List (El kkb53)} (h : StOK t v l) : l.length ≤ 60 ∧ ∀ e ∈ l, e.2.2.size ≤ 100 := by
 refine ⟨h.2.2.1, fun e he => ?_⟩
 obtain ⟨i, hi, rfl⟩ := List.getElem_of_mem he
 obtain ⟨_, h1, _⟩ := h.2.2.2 i hi
 have := entOK_len h1
 rwa [bytesL_length] at this
theorem tRec_size (t v : Int) : (tRec t v).size = 6 := by unfold tRec; rw [strL_size]; simp [beL_length]
theorem cRec_size (k : Int) : (cRec k).size = 5 := by unfold cRec; rw [strL_size]; simp [beL_length]
theorem eRec_size (e : El kkb53) : (eRec e).size = 7 + e.2.2.size := by
 unfold eRec
 rw [strL_size, List.length_append, entB_length, bytesL_length]
 simp
 omega
theorem recV_mem {t v : Int} {l : List (El kkb53)} {t' v' : Int} {l' : List (El kkb53)} (hs : ∀ e ∈ l', e.2.2.size ≤ 100) : ∀ r ∈ recV t v l t' v' l', 1 ≤ r.size ∧ r.size ≤ 110 := by
 intro r hr
 unfold recV at hr
 rcases List.mem_append.1 hr with hr | hr
 ·rcases List.mem_append.1 hr with hr | hr
  ·cases h : (t != t' || v != v') with
   | true =>
    rw [h, ct] at hr
    obtain rfl := List.mem_singleton.1 hr
    rw [tRec_size]
    omega
   | false => rw [h, cf] at hr; cases hr
  ·cases h : decide (sameN l l' < l.length) with
   | true =>
    rw [h, ct] at hr
    obtain rfl := List.mem_singleton.1 hr
    rw [cRec_size]
    omega
   | false => rw [h, cf] at hr; cases hr
 ·obtain ⟨e, he, rfl⟩ := List.mem_map.1 hr
  have := hs e (List.mem_of_mem_drop he)
  rw [eRec_size]
  omega
theorem recV_len (t v : Int) (l : List (El kkb53)) (t' v' : Int) (l' : List (El kkb53)) : (recV t v l t' v' l').length ≤ 2 + l'.length := by
 unfold recV
 cases (t != t' || v != v') <;> cases decide (sameN l l' < l.length) <;> simp <;> omega
theorem saveState_i {room : Int} {l : List (El kFile)} (h : DP room l) {t v : Int} {L : List (El kkb53)} {t' v' : Int} {L' : List (El kkb53)} (h1 : StOK t v L) (h2 : StOK t' v' L') :
  gq36 room l t v L t' v' L' = some (cond ((saveL room l (recV t v L t' v' L')).1 != 0) (0, [], (saveL room l (recV t v L t' v' L')).1) (room, syncV (saveL room l (recV t v L t' v' L')).2, 0)) := by
 obtain ⟨a1, a2⟩ := h1.data
 obtain ⟨b1, b2⟩ := h2.data
 have h8 := h.len
 obtain ⟨x, x1, x2⟩ := stateOK_i t v L ⟨by omega, fun e he => by have := a2 e he; omega⟩
 obtain ⟨y, y1, y2⟩ := stateOK_i t' v' L' ⟨by omega, fun e he => by have := b2 e he; omega⟩
 obtain rfl := x2.2 h1
 obtain rfl := y2.2 h2
 have hrm := recV_mem (t := t) (v := v) (l := L) (t' := t') (v' := v') b2
 have hrl := recV_len t v L t' v' L'
 unfold gq36 gq36.F
 rw [disk_i room l (by omega) ⟨h.dk.fit, fun f hf => by have := h.dk.data hf; omega⟩, bs, h.ok, Bool.not_true, cf, x1, bs, Bool.not_true, cf, y1, bs, Bool.not_true, cf]
 unfold gq53 gq53.F
 rw [clone_i l (by omega), bs, bs, records_i t v L t' v' L' (by omega) (by omega) (fun e he => by have := b2 e he; omega) (by have := h2.2.1; omega), bs]
 have e := saveLoop_i (fun i out l => (gq72 out l).bind fun r5 => some (r5.1, r5.2, (0 : Int))) (fun i1 i2 => some (i2, ([] : List (El kFile)), i1)) room (recV t v L t' v' L') (by omega) (fun r hr => by have := hrm r hr; omega) 0 (recV t v L t' v' L').length fuel 0 l (by omega) (fuel_big (by omega)) h
 rw [Int.natCast_zero, List.drop_zero] at e
 refine e.trans ?_
 cases hc : (saveL room l (recV t v L t' v' L')).1 != 0 with
 | true => rfl
 | false =>
  rw [cf, cf, walSync_i (saveL_dp h (by simpa using hc)).dk, bs]
end Go.Proofs.YtaanadbpnmcbcaaGreatDoorA
namespace Go.Proofs.YtaanadbpnmcbcaaGreatDoorA
open Go
set_option linter.unusedVariables false
set_option linter.unusedSimpArgs false
def tmE (e : El kkb53) : Int := e.1
def okE (e : El kkb53) : Bool := entOK e.1 e.2.1 (bytesL e.2.2)
structure LgP (T : Int) (L : List (El kkb53)) : Prop where
 ok : ∀ e ∈ L, okE e = true ∧ tmE e ≤ T
 up : L.Pairwise fun a b => tmE a ≤ tmE b
theorem LgP.nil (T : Int) : LgP T [] := ⟨fun e h => by simp at h, List.Pairwise.nil⟩
theorem LgP.sub {T : Int} {L M : List (El kkb53)} (h : LgP T M) (hs : L.Sublist M) : LgP T L := ⟨fun e he => h.ok e (hs.subset he), h.up.sublist hs⟩
theorem LgP.mono {T T' : Int} {L : List (El kkb53)} (h : LgP T L) (ht : T ≤ T') : LgP T' L := ⟨fun e he => ⟨(h.ok e he).1, Int.le_trans (h.ok e he).2 ht⟩, h.up⟩
theorem LgP.snoc {T : Int} {L : List (El kkb53)} {e : El kkb53} (h : LgP T L) (he : okE e = true) (ht : tmE e ≤ T) (hu : ∀ x ∈ L, tmE x ≤ tmE e) : LgP T (L ++ [e]) := by
 refine ⟨fun x hx => ?_, ?_⟩
 ·rcases List.mem_append.1 hx with hx | hx
  ·exact h.ok x hx
  ·obtain rfl := List.mem_singleton.1 hx
   exact ⟨he, ht⟩
 ·rw [List.pairwise_append]
  refine ⟨h.up, List.pairwise_singleton _ _, fun x hx y hy => ?_⟩
  obtain rfl := List.mem_singleton.1 hy
  exact hu x hx
theorem LgP.st {T V : Int} {L : List (El kkb53)} (h : LgP T L) (h0 : 0 ≤ T ∧ T ≤ 1000000) (hv : -1 ≤ V ∧ V ≤ 6) (hl : L.length ≤ 60) : StOK T V L := by
 refine ⟨h0, hv, hl, fun i hi => ⟨hi, (h.ok _ (List.getElem_mem hi)).1, (h.ok _ (List.getElem_mem hi)).2, fun hp => ?_⟩⟩
 exact List.pairwise_iff_getElem.1 h.up (i - 1) i (by omega) hi (by omega)
theorem entOK_term {t t' k : Int} {D : List Int} (h : entOK t k D = true) (h0 : 1 ≤ t') (h1 : t' ≤ 1000000) : entOK t' k D = true := by
 unfold entOK at h ⊢
 rw [Bool.and_eq_true] at h ⊢
 refine ⟨?_, h.2⟩
 rw [decide_t h0, decide_t h1]
 rfl
theorem mx2_one (T : Int) : mx2 1 T = if 1 ≤ T then T else 1 := by
 unfold mx2
 split <;> split <;> omega
theorem later_loop {R : Type} (kke : List Int → Int → Int → Int → Int → Int → Int → List (El kkb53) → Option R) {c : List Int} (i1 i2 V : Int) : ∀ (m fu : Nat) (a s N T : Int) (L : List (El kkb53)), m < fu → SrcOK c a s N → N + 33 * m ≤ 4611686018427387904 → 0 ≤ T → T ≤ 1000 → L.length + m ≤ 1000 → LgP T L →
  ∃ a' s' T' new, gq86.l1 kke fu (m : Int) c a s i1 i2 T V L = kke c a' s' i1 i2 T' V (L ++ new) ∧ new.length = m ∧ T ≤ T' ∧ (T' ≤ T + 1 ∧ (1 ≤ T → T' = T)) ∧ LgP T' (L ++ new) := by
 intro m
 induction m with
 | zero =>
  intro fu a s N T L hf h hN h0 h1 hl hL
  obtain ⟨fu, rfl⟩ : ∃ q, fu = q + 1 := ⟨fu - 1, by omega⟩
  simp only [gq86.l1]
  rw [decide_f (by omega), cf]
  exact ⟨a, s, T, [], by rw [List.append_nil], rfl, Int.le_refl _, ⟨by omega, fun _ => rfl⟩, by rw [List.append_nil]; exact hL⟩
 | succ m ih =>
  intro fu a s N T L hf h hN h0 h1 hl hL
  obtain ⟨fu, rfl⟩ : ∃ q, fu = q + 1 := ⟨fu - 1, by omega⟩
  simp only [gq86.l1]
  obtain ⟨t, k, D, a', s', e1, hD, hok, ht4, h2⟩ := entry_eq h (by omega)
  rw [decide_t (by omega), ct, e1, bs]
  dsimp only
  have hm1 : 1 ≤ mx2 1 T ∧ T ≤ mx2 1 T ∧ mx2 1 T ≤ 1000 ∧ (1 ≤ T → mx2 1 T = T) := by
   rw [mx2_one]
   split <;> omega
  have hm2 : mx2 T (mx2 1 T) = mx2 1 T := by
   generalize mx2 1 T = z at hm1
   unfold mx2
   split <;> omega
  have hL2 : LgP (mx2 1 T) (L ++ [(mx2 1 T, (k, strL D))]) := by
   refine (hL.mono hm1.2.1).snoc ?_ (Int.le_refl _) fun x hx => Int.le_trans (hL.ok x hx).2 hm1.2.1
   show entOK (mx2 1 T) k (bytesL (strL D)) = true
   rw [bytesL_strL hD]
   exact entOK_term hok hm1.1 (by omega)
  rw [grd_of (gRm_t (by simp; omega)), wr (by omega) (by omega), hm2, show (((m + 1 : Nat) : Int) - 1) = (m : Int) by omega]
  obtain ⟨a2, s2, T', new, e2, n1, n2, n3, n4⟩ := ih fu a' s' (N + 33) (mx2 1 T) (L ++ [(mx2 1 T, (k, strL D))]) (by omega) h2 (by omega) (by omega) hm1.2.2.1 (by simp; omega) hL2
  rw [List.append_assoc] at e2 n4
  refine ⟨a2, s2, T', [(mx2 1 T, (k, strL D))] ++ new, e2, by simp; omega, by omega, ?_, n4⟩
  have e3 := n3.2 hm1.1
  rw [e3]
  refine ⟨?_, hm1.2.2.2⟩
  rw [mx2_one]
  split <;> omega
theorem later_eq {c : List Int} {a s N : Int} (h : SrcOK c a s N) (hN : N ≤ 1000000) {xT xV : Int} {xL : List (El kkb53)} (h0 : 0 ≤ xT ∧ xT ≤ 900) (hl : xL.length ≤ 50) (hL : LgP xT xL) :
  ∃ T V k new a' s', gq86 c a s xT xV xL = some (T, V, xL.take k ++ new, c, a', s') ∧ xT ≤ T ∧ T ≤ xT + 2 ∧ (-1 ≤ V ∧ V ≤ 3) ∧ new.length ≤ 2 ∧ LgP T (xL.take k ++ new) := by
 unfold gq86 gq86.F
 obtain ⟨r, a1, s1, e1, r0, h1⟩ := next_eq h (by omega) 2 (by decide) (by decide)
 obtain ⟨v, a2, s2, e2, v0, h2⟩ := next_eq h1 (by omega) 5 (by decide) (by decide)
 rw [e1, bs]
 dsimp only
 rw [e2, bs, wr (x := (xL.length : Int) + 1) (by omega) (by omega)]
 dsimp only
 obtain ⟨d, a3, s3, e3, d0, d1, h3⟩ : ∃ d a3 s3, gq140 c a2 s2 (mn2 3 ((xL.length : Int) + 1)) = some (d, c, a3, s3) ∧ 0 ≤ d ∧ d ≤ xL.length ∧ SrcOK c a3 s3 (N + 9) := by
  have hm : mn2 3 ((xL.length : Int) + 1) = if xL.length ≤ 2 then (xL.length : Int) + 1 else 3 := by
   unfold mn2
   split <;> split <;> omega
  rw [hm]
  by_cases hx0 : xL.length = 0
  ·rw [if_pos (by omega), next_one _ (by omega)]
   exact ⟨0, a2, s2, rfl, Int.le_refl _, by omega, h2.mono (by omega) (by omega)⟩
  ·split
   ·obtain ⟨d, a3, s3, e3, d0, h3⟩ := next_eq h2 (by omega) ((xL.length : Int) + 1) (by omega) (by omega)
    exact ⟨d, a3, s3, e3, d0.1, by omega, h3.mono (by omega) (by omega)⟩
   ·obtain ⟨d, a3, s3, e3, d0, h3⟩ := next_eq h2 (by omega) 3 (by omega) (by omega)
    exact ⟨d, a3, s3, e3, d0.1, by omega, h3.mono (by omega) (by omega)⟩
 rw [e3, bs]
 dsimp only
 rw [wr (x := (xL.length : Int) - d) (by omega) (by omega), grd_of (gSl_t (by decide) (by omega) (by omega)), grd_of (gRm_t (by rw [sub_take, List.length_take, List.length_nil]; omega)), sub_take, List.nil_append]
 obtain ⟨n, a4, s4, e4, n0, h4⟩ := next_eq h3 (by omega) 3 (by decide) (by decide)
 rw [e4, bs]
 dsimp only
 rw [wr (x := xT + r) (by omega) (by omega), wr (x := v - 1) (by omega) (by omega)]
 obtain ⟨q, rfl⟩ : ∃ q : Nat, n = q := ⟨n.toNat, by omega⟩
 obtain ⟨k, hk⟩ : ∃ k : Nat, ((xL.length : Int) - d).toNat = k := ⟨_, rfl⟩
 rw [hk]
 obtain ⟨a5, s5, T', new, e5, n1, n2, n3, n4⟩ := later_loop (fun s s1 s2 i i1 out out1 l => some (out, out1, l, s, s1, s2)) 0 0 (v - 1) q fuel a4 s4 (N + 9 + 3) (xT + r) (xL.take k) (fuel_big (by omega)) h4 (by omega) (by omega) (by omega) (by rw [List.length_take]; omega) ((hL.sub (List.take_sublist _ _)).mono (by omega))
 refine ⟨T', v - 1, k, new, a5, s5, e5, by omega, by omega, by omega, by omega, n4⟩
theorem laterOf_eq (c : List Int) (hb : IsBytes c) (hl : c.length ≤ 1048576) {xT xV : Int} {xL : List (El kkb53)} (h0 : 0 ≤ xT ∧ xT ≤ 900) (hxl : xL.length ≤ 50) (hL : LgP xT xL) :
  ∃ T V k new, gq39 c xT xV xL = some (T, V, xL.take k ++ new) ∧ xT ≤ T ∧ T ≤ xT + 2 ∧ (-1 ≤ V ∧ V ≤ 3) ∧ new.length ≤ 2 ∧ LgP T (xL.take k ++ new) := by
 obtain ⟨s, e1, h1⟩ := source_eq c hb hl
 obtain ⟨T, V, k, new, a', s', e2, p1, p2, p3, p4, p5⟩ := later_eq h1 (by decide) (xV := xV) h0 hxl hL
 unfold gq39 gq39.F
 rw [e1, bs]
 dsimp only
 rw [e2, bs]
 exact ⟨T, V, k, new, rfl, p1, p2, p3, p4, p5⟩
theorem eqE_eq {a b : El kkb53} (h : eqE a b = true) : a = b := by
 unfold eqE at h
 rw [Bool.and_eq_true, Bool.and_eq_true] at h
 have h1 : a.1 = b.1 := by simpa using h.1
 have h2 : a.2.1 = b.2.1 := by simpa using h.2.1
 have h3 : a.2.2 = b.2.2 := sEq_iff.1 h.2.2
 obtain ⟨x, y, z⟩ := a
 obtain ⟨x', y', z'⟩ := b
 dsimp only at h1 h2 h3
 subst h1 h2 h3
 rfl
theorem sameN_take : ∀ (a b : List (El kkb53)), a.take (sameN a b) = b.take (sameN a b)
 | [], _ => by simp [sameN]
 | _ :: _, [] => by simp [sameN]
 | a :: r, b :: q => by
  unfold sameN
  cases h : eqE a b with
  | true =>
   rw [ct, List.take_succ_cons, List.take_succ_cons, sameN_take r q, eqE_eq h]
  | false => rw [cf, List.take_zero, List.take_zero]
theorem eqE_self (a : El kkb53) : eqE a a = true := by
 unfold eqE
 simp [sEq_self]
theorem sameN_common : ∀ (p x y : List (El kkb53)), p.length ≤ sameN (p ++ x) (p ++ y)
 | [], _, _ => Nat.zero_le _
 | a :: p, x, y => by
  have := sameN_common p x y
  rw [List.cons_append, List.cons_append]
  unfold sameN
  rw [eqE_self, ct, List.length_cons]
  omega
abbrev Q3 := Int × Int × List (El kkb53)
theorem fAll_append : ∀ (P R : List ByteArray) (q : Q3), fAll q (P ++ R) = (fAll q P).bind fun y => fAll y R
 | [], R, q => rfl
 | s :: P, R, q => by
  rw [List.cons_append]
  simp only [fAll]
  cases fStep q.1 q.2.1 q.2.2 (bytesL s) with
  | none => rfl
  | some y => exact fAll_append P R y
def GoodF (q : Q3) (L : List ByteArray) (y : Q3) : Prop := fAll q L = some y ∧ ∀ j, ∃ z, fAll q (L.take j) = some z ∧ StOK z.1 z.2.1 z.2.2
theorem GoodF.nil {q : Q3} (h : StOK q.1 q.2.1 q.2.2) : GoodF q [] q := ⟨rfl, fun j => ⟨q, by rw [List.take_nil]; rfl, h⟩⟩
theorem GoodF.append {q y z : Q3} {P R : List ByteArray} (h : GoodF q P y) (k : GoodF y R z) : GoodF q (P ++ R) z := by
 refine ⟨by rw [fAll_append, h.1]; exact k.1, fun j => ?_⟩
 rw [List.take_append]
 rcases Nat.le_total j P.length with hj | hj
 ·rw [show j - P.length = 0 by omega, List.take_zero, List.append_nil]
  exact h.2 j
 ·obtain ⟨w, k1, k2⟩ := k.2 (j - P.length)
  exact ⟨w, by rw [List.take_of_length_le hj, fAll_append, h.1]; exact k1, k2⟩
theorem GoodF.one {q y : Q3} {r : ByteArray} (hq : StOK q.1 q.2.1 q.2.2) (h : fStep q.1 q.2.1 q.2.2 (bytesL r) = some y) (hy : StOK y.1 y.2.1 y.2.2) : GoodF q [r] y := by
 have e : fAll q [r] = some y := by
  simp only [fAll]
  rw [h]
 refine ⟨e, fun j => ?_⟩
 cases j with
 | zero => exact ⟨q, rfl, hq⟩
 | succ j => exact ⟨y, by rw [List.take_succ_cons, List.take_nil]; exact e, hy⟩
theorem fStep_t {T V t v : Int} {L : List (El kkb53)} (ht : 0 ≤ t ∧ t < 4294967296) (hv : -1 ≤ v ∧ v < 255) : fStep T V L (bytesL (tRec t v)) = some (t, v, L) := by
 unfold tRec
 rw [bytesL_strL (((show IsBytes [84] by intro y hy; obtain rfl := List.mem_singleton.1 hy; decide).append (beL_bytes _ _)).append (beL_bytes _ _)), List.append_assoc]
 show fStep T V L (84 :: (beL t 4 ++ beL (v + 1) 1)) = _
 unfold fStep
 dsimp only
 rw [if_pos rfl, if_pos (by rw [List.length_append, beL_length, beL_length]), List.take_left' (beL_length _ _), List.drop_left' (beL_length _ _), beN_beL t 4 ht.1 (by omega), beN_beL (v + 1) 1 (by omega) (by omega)]
 congr 3
 omega
theorem fStep_c {T V : Int} {L : List (El kkb53)} {k : Nat} (hk : k ≤ L.length) (hL : L.length ≤ 1000) : fStep T V L (bytesL (cRec k)) = some (T, V, L.take k) := by
 unfold cRec
 rw [bytesL_strL ((show IsBytes [67] by intro y hy; obtain rfl := List.mem_singleton.1 hy; decide).append (beL_bytes _ _))]
 show fStep T V L (67 :: beL k 4) = _
 unfold fStep
 dsimp only
 rw [if_neg (by decide), if_pos rfl, beN_beL (k : Int) 4 (by omega) (by omega), if_pos ⟨beL_length _ _, by omega⟩, Int.toNat_natCast]
theorem fStep_e {T V : Int} {L : List (El kkb53)} {e : El kkb53} (h : okE e = true) (hL : L.length + 1 ≤ 60) : fStep T V L (bytesL (eRec e)) = some (T, V, L ++ [e]) := by
 unfold okE at h
 obtain ⟨h1, h2, h3⟩ := entOK_short h
 unfold eRec
 rw [bytesL_strL ((show IsBytes [69] by intro y hy; obtain rfl := List.mem_singleton.1 hy; decide).append (entB_bytes (IsBytes.bytesL _)))]
 show fStep T V L (69 :: entB e.1 e.2.1 (bytesL e.2.2)) = _
 unfold fStep
 dsimp only
 rw [if_neg (by decide), if_neg (by decide), if_pos rfl, pEnt_entB (by omega) (by omega) (by omega)]
 dsimp only
 rw [if_pos ⟨by rw [h]; simp, hL⟩, strL_bytesL]
theorem good_ents {T V : Int} (hT : 0 ≤ T ∧ T ≤ 1000000) (hV : -1 ≤ V ∧ V ≤ 6) : ∀ (E L : List (El kkb53)), LgP T (L ++ E) → (L ++ E).length ≤ 60 → GoodF (T, V, L) (E.map eRec) (T, V, L ++ E)
 | [], L, h, hl => by
  rw [List.append_nil] at h hl ⊢
  exact GoodF.nil (h.st hT hV hl)
 | e :: E, L, h, hl => by
  have ea : L ++ e :: E = (L ++ [e]) ++ E := by simp
  have h1 : LgP T (L ++ [e]) := h.sub (by rw [ea]; exact List.sublist_append_left _ _)
  have h0 : LgP T L := h.sub (List.sublist_append_left _ _)
  have hll : L.length + 1 ≤ 60 := by rw [ea, List.length_append, List.length_append] at hl; simp at hl; omega
  have ih := good_ents hT hV E (L ++ [e]) (by rw [← ea]; exact h) (by rw [← ea]; exact hl)
  rw [List.map_cons, ea]
  exact (GoodF.one (q := (T, V, L)) (y := (T, V, L ++ [e])) (h0.st hT hV (by omega)) (fStep_e (h.ok e (by simp)).1 hll) (h1.st hT hV (by simp; omega))).append ih
theorem good_recV {t v : Int} {l : List (El kkb53)} {t' v' : Int} {l' : List (El kkb53)} (hl : LgP t l) (hl' : LgP t' l') (ht : 0 ≤ t ∧ t ≤ t' ∧ t' ≤ 1000000) (hv : -1 ≤ v ∧ v ≤ 6) (hv' : -1 ≤ v' ∧ v' ≤ 6) (n1 : l.length ≤ 60) (n2 : l'.length ≤ 60) :
  GoodF (t, v, l) (recV t v l t' v' l') (t', v', l') := by
 have hk := sameN_le l l'
 have hst0 := hl.st (V := v) ⟨ht.1, by omega⟩ hv n1
 have hl2 : LgP t' l := hl.mono ht.2.1
 have hst1 := hl2.st (V := v') ⟨by omega, ht.2.2⟩ hv' n1
 have hl3 : LgP t' (l.take (sameN l l')) := hl2.sub (List.take_sublist _ _)
 have hst2 := hl3.st (V := v') ⟨by omega, ht.2.2⟩ hv' (by rw [List.length_take]; omega)
 have g1 : GoodF (t, v, l) (cond (t != t' || v != v') [tRec t' v'] []) (t', v', l) := by
  cases hc : (t != t' || v != v') with
  | true => exact GoodF.one hst0 (fStep_t ⟨by omega, by omega⟩ ⟨hv'.1, by omega⟩) hst1
  | false =>
   rw [Bool.or_eq_false_iff, bne_eq_false_iff_eq, bne_eq_false_iff_eq] at hc
   obtain ⟨rfl, rfl⟩ := hc
   exact GoodF.nil hst0
 have g2 : GoodF (t', v', l) (cond (decide (sameN l l' < l.length)) [cRec (sameN l l')] []) (t', v', l.take (sameN l l')) := by
  by_cases hc : sameN l l' < l.length
  ·rw [decide_t hc, ct]
   exact GoodF.one hst1 (fStep_c hk.1 (show l.length ≤ 1000 by omega)) hst2
  ·rw [decide_f hc, cf, List.take_of_length_le (by omega)]
   exact GoodF.nil hst1
 have e : l.take (sameN l l') ++ l'.drop (sameN l l') = l' := by rw [sameN_take, List.take_append_drop]
 have g3 := good_ents (T := t') (V := v') ⟨by omega, ht.2.2⟩ hv' (l'.drop (sameN l l')) (l.take (sameN l l')) (by rw [e]; exact hl') (by rw [e]; exact n2)
 rw [e] at g3
 unfold recV
 exact (g1.append g2).append g3
end Go.Proofs.YtaanadbpnmcbcaaGreatDoorA
namespace Go.Proofs.YtaanadbpnmcbcaaGreatDoorA
open Go
set_option linter.unusedVariables false
set_option linter.unusedSimpArgs false
theorem Syn.le {gs : Gs} {sy : Nat} (h : Syn gs sy) : sy ≤ (allR gs).length := by
 rcases h with ⟨rfl, rfl⟩ | ⟨a, g, s, t, rfl, _, h2, _, rfl⟩
 ·exact Nat.zero_le _
 ·rw [allR_append, List.length_append]
  simp [allR]
  omega
theorem save_lg : ∀ (L : List ByteArray) (gs : Gs), LG gs → (∀ r ∈ L, Rec1 r) → (allR gs).length + L.length ≤ 8 →
  ∃ gs', saveL 3000 (logF 1 0 gs) L = (0, logF 1 0 gs') ∧ LG gs' ∧ allR gs' = allR gs ++ L ∧ ∀ sy, Syn gs sy → ∃ sy', sy ≤ sy' ∧ Syn gs' sy'
 | [], gs, h, _, _ => ⟨gs, rfl, h, by simp, fun sy hs => ⟨sy, Nat.le_refl _, hs⟩⟩
 | r :: L, gs, h, hL, hc => by
  rw [List.length_cons] at hc
  have hr := hL r (by simp)
  have hgl := gs_len gs h.ne
  have hal := (addG_len gs r).1
  have w := (wap_lg h hr (by omega)).1 (by omega)
  have h2 := h.add hr (by omega) (by omega)
  have hall := allR_add gs r
  obtain ⟨gs', e1, e2, e3, e4⟩ := save_lg L (addG gs r) h2 (fun x hx => hL x (by simp [hx])) (by rw [hall]; simp; omega)
  refine ⟨gs', ?_, e2, by rw [e3, hall, List.append_assoc]; rfl, fun sy hs => ?_⟩
  ·simp only [saveL]
   rw [w]
   dsimp only
   rw [show ((0 : Int) != 0) = false from rfl, cf]
   exact e1
  ·obtain ⟨sy', p1, p2⟩ := e4 _ (hs.add r)
   have := hs.le
   refine ⟨sy', ?_, p2⟩
   cases hb : b2 gs r with
   | true => rw [hb, ct] at p1; omega
   | false => rw [hb, cf] at p1; exact p1
theorem sync_any {gs : Gs} (h : LG gs) {sy : Nat} (hs : Syn gs sy) : ∃ gs', syncV (logF 1 0 gs) = logF 1 0 gs' ∧ LG gs' ∧ allR gs' = allR gs ∧ Syn gs' (allR gs).length := by
 rcases Classical.em (gs = []) with rfl | hne
 ·exact ⟨[], rfl, h, rfl, .inl ⟨rfl, rfl⟩⟩
 ·exact sync_lg h hne hs
theorem read_lg {gs : Gs} (h : LG gs) : ∃ N, readV 3000 (logF 1 0 gs) = (0, allR gs, N, 0, 0) := by
 have hlen := h.len
 have hdp := h.dp 1 0 (by omega)
 unfold readV
 rw [hdp.ok, ct]
 rcases Classical.em (gs = []) with rfl | hne
 ·exact ⟨[], rfl⟩
 ·exact ⟨_, wV_lg h 1 0 (Nat.le_refl _) (by omega) (by omega) hne⟩
theorem entries_self (a : List (El kkb53)) (h : a.length ≤ 1000000) : gq89 a a = some true := by
 unfold gq89 gq89.F
 rw [show ((a.length : Int) != a.length) = false by simp, cf]
 have key : ∀ (m fu i : Nat), i + m = a.length → m < fu → gq89.l1 (some true) (fun b1 => some b1) fu a a (i : Int) = some true := by
  intro m
  induction m with
  | zero =>
   intro fu i e hf
   obtain ⟨fu, rfl⟩ : ∃ q, fu = q + 1 := ⟨fu - 1, by omega⟩
   simp only [gq89.l1]
   rw [decide_f (by omega), cf]
  | succ m ih =>
   intro fu i e hf
   obtain ⟨fu, rfl⟩ : ∃ q, fu = q + 1 := ⟨fu - 1, by omega⟩
   simp only [gq89.l1]
   rw [decide_t (by omega), ct, grd_of (gIx_t (by omega) (by omega)), grd_of (gIx_t (by omega) (by omega)), sEq_self, beq_self_eq_true, beq_self_eq_true, Bool.and_self, Bool.and_self, Bool.not_true, cf, wr (by omega) (by omega), show ((i : Int) + 1) = ((i + 1 : Nat) : Int) by omega]
   exact ih fu (i + 1) (by omega) (by omega)
 have := key a.length fuel 0 (by omega) (fuel_big (by omega))
 rwa [Int.natCast_zero] at this
theorem state_self (t v : Int) (a : List (El kkb53)) (h : a.length ≤ 1000000) : gq43 t v a t v a = some true := by
 unfold gq43 gq43.F
 rw [beq_self_eq_true, beq_self_eq_true, ct, ct, entries_self a h, bs]
theorem told_good {list : List ByteArray} {y : Q3} (h : GoodF (0, -1, []) list y) (hl : list.length ≤ 4096) (hs : ∀ r ∈ list, r.size ≤ 110) (hy : StOK y.1 y.2.1 y.2.2) : told list = (y.1, y.2.1, y.2.2, 0) := by
 unfold told
 rw [if_neg (by omega), if_neg (by
  rw [List.any_eq_true]
  rintro ⟨r, hr, h2⟩
  have := hs r hr
  have := of_decide_eq_true h2
  omega), h.1]
 dsimp only
 rw [if_pos hy]
theorem loadV_good {room : Int} {l : List (El kFile)} {F : Int} {R N : List ByteArray} {T : Int} (hr : readV room l = (F, R, N, T, 0)) {y : Q3} (h : fAll (0, -1, []) R = some y) (hy : StOK y.1 y.2.1 y.2.2) : loadV room l = (y.1, y.2.1, y.2.2, 0) := by
 unfold loadV
 rw [hr]
 dsimp only
 rw [show ((0 : Int) != 0) = false from rfl, cf, h]
 dsimp only
 rw [if_pos hy]
end Go.Proofs.YtaanadbpnmcbcaaGreatDoorA
namespace Go.Proofs.YtaanadbpnmcbcaaGreatDoorA
open Go
set_option linter.unusedVariables false
set_option linter.unusedSimpArgs false
theorem equal_self (a : List (El kkb53)) (h : a.length ≤ 1000000) : gq91 a a = some true := by
 unfold gq91 gq91.F
 rw [show ((a.length : Int) != a.length) = false by simp, cf]
 have key : ∀ (m fu i : Nat), i + m = a.length → m < fu → gq91.l1 (some true) (fun b1 => some b1) fu a a (a.length : Int) (i : Int) = some true := by
  intro m
  induction m with
  | zero =>
   intro fu i e hf
   obtain ⟨fu, rfl⟩ : ∃ q, fu = q + 1 := ⟨fu - 1, by omega⟩
   simp only [gq91.l1]
   rw [decide_f (by omega), cf]
  | succ m ih =>
   intro fu i e hf
   obtain ⟨fu, rfl⟩ : ∃ q, fu = q + 1 := ⟨fu - 1, by omega⟩
   simp only [gq91.l1]
   rw [decide_t (by omega), ct, grd_of (gIx_t (by omega) (by omega)), grd_of (gIx_t (by omega) (by omega)), sEq_self, beq_self_eq_true, beq_self_eq_true, Bool.and_self, Bool.and_self, Bool.not_true, cf, wr (by omega) (by omega), show ((i : Int) + 1) = ((i + 1 : Nat) : Int) by omega]
   exact ih fu (i + 1) (by omega) (by omega)
 have := key a.length fuel 0 (by omega) (fuel_big (by omega))
 rwa [Int.natCast_zero] at this
theorem stOK_it {t v : Int} {l : List (El kkb53)} (h : StOK t v l) : gq47 t v l = some true := by
 obtain ⟨a1, a2⟩ := h.data
 obtain ⟨x, x1, x2⟩ := stateOK_i t v l ⟨by omega, fun e he => by have := a2 e he; omega⟩
 rw [x1, x2.2 h]
theorem stOK_st {t v : Int} {l : List (El kkb53)} (h : StOK t v l) : gq79 t v l = some true := by
 obtain ⟨a1, a2⟩ := h.data
 obtain ⟨x, x1, x2⟩ := stateOK_s t v l ⟨by omega, fun e he => by have := a2 e he; omega⟩
 rw [x1, x2.2 h]
theorem stRec_i {t v : Int} {l : List (El kkb53)} {t' v' : Int} {l' : List (El kkb53)} (h : StOK t v l) (h' : StOK t' v' l') : gq44 t v l t' v' l' = some (recV t v l t' v' l', 0) := by
 obtain ⟨a1, a2⟩ := h.data
 obtain ⟨b1, b2⟩ := h'.data
 unfold gq44 gq44.F
 rw [stOK_it h, bs, Bool.not_true, cf, stOK_it h', bs, Bool.not_true, cf, records_i t v l t' v' l' (by omega) (by omega) (fun e he => by have := b2 e he; omega) (by have := h'.2.1; omega), bs]
theorem stRec_s {t v : Int} {l : List (El kkb53)} {t' v' : Int} {l' : List (El kkb53)} (h : StOK t v l) (h' : StOK t' v' l') : gq40 t v l t' v' l' = some (recV t v l t' v' l', 0) := by
 obtain ⟨a1, a2⟩ := h.data
 obtain ⟨b1, b2⟩ := h'.data
 unfold gq40 gq40.F
 rw [stOK_st h, bs, Bool.not_true, cf, stOK_st h', bs, Bool.not_true, cf, records_s t v l t' v' l' (by omega) (by omega) (fun e he => by have := b2 e he; omega) (by have := h'.2.1; omega), bs]
theorem states_law (code more : List Int) (hc : IsBytes code) (hm : IsBytes more) : gq9 code more = some true := by
 unfold gq9 gq9.F
 by_cases h1 : (code.length : Int) > 1048576
 ·rw [decide_t h1, ct]
 rw [decide_f h1, cf]
 by_cases h2 : (more.length : Int) > 1048576
 ·rw [decide_t h2, ct]
 rw [decide_f h2, cf]
 obtain ⟨T1, V1, k1, n1, e1, t1, t2, v1, l1, g1⟩ := laterOf_eq code hc (by omega) (xT := 0) (xV := -1) (xL := []) (by decide) (by simp) (LgP.nil 0)
 obtain ⟨L1, hL1⟩ : ∃ L, ([] : List (El kkb53)).take k1 ++ n1 = L := ⟨_, rfl⟩
 rw [hL1] at e1 g1
 have hl1 : L1.length ≤ 2 := by rw [← hL1]; simpa using l1
 obtain ⟨T2, V2, k2, n2, e2, t3, t4, v2, l2, g2⟩ := laterOf_eq more hm (by omega) (xT := T1) (xV := V1) (xL := L1) (by omega) (by omega) g1
 obtain ⟨L2, hL2⟩ : ∃ L, L1.take k2 ++ n2 = L := ⟨_, rfl⟩
 have hcom : (L1.take k2).length ≤ sameN L1 L2 := by
  have := sameN_common (L1.take k2) (L1.drop k2) n2
  rwa [List.take_append_drop, hL2] at this
 rw [hL2] at e2 g2
 have hl2 : L2.length ≤ 4 := by rw [← hL2, List.length_append, List.length_take]; omega
 have hd2 : (L2.drop (sameN L1 L2)).length ≤ 2 := by
  rw [List.length_drop]
  have : L2.length = (L1.take k2).length + n2.length := by rw [← hL2, List.length_append]
  omega
 have s0 : StOK 0 (-1) [] := (LgP.nil 0).st (by decide) (by decide) (by simp)
 have s1 : StOK T1 V1 L1 := g1.st (by omega) (by omega) (by omega)
 have s2 : StOK T2 V2 L2 := g2.st (by omega) (by omega) (by omega)
 have f1 := good_recV (v := -1) (v' := V1) (LgP.nil 0) g1 (by omega) (by decide) (by omega) (by simp) (by omega)
 have f2 := good_recV (v := V1) (v' := V2) g1 g2 (by omega) (by omega) (by omega) (by omega) (by omega)
 have f3 := f1.append f2
 have r1 : (recV 0 (-1) [] T1 V1 L1).length ≤ 3 := by
  have : (recV 0 (-1) [] T1 V1 L1).length ≤ 1 + L1.length := by
   unfold recV
   rw [show decide (sameN [] L1 < ([] : List (El kkb53)).length) = false by simp, cf, List.append_nil, List.length_append, List.length_map, List.length_drop]
   cases ((0 : Int) != T1 || (-1 : Int) != V1) <;> simp <;> omega
  omega
 have r2 : (recV T1 V1 L1 T2 V2 L2).length ≤ 4 := by
  unfold recV
  rw [List.length_append, List.length_append, List.length_map]
  cases (T1 != T2 || V1 != V2) <;> cases decide (sameN L1 L2 < L1.length) <;> simp at hd2 ⊢ <;> omega
 obtain ⟨R1, hR1⟩ : ∃ R, recV 0 (-1) [] T1 V1 L1 = R := ⟨_, rfl⟩
 obtain ⟨R2, hR2⟩ : ∃ R, recV T1 V1 L1 T2 V2 L2 = R := ⟨_, rfl⟩
 have m1 := recV_mem (t := 0) (v := -1) (l := []) (t' := T1) (v' := V1) s1.data.2
 have m2 := recV_mem (t := T1) (v := V1) (l := L1) (t' := T2) (v' := V2) s2.data.2
 have a1 := stRec_i s0 s1
 have a2 := stRec_i s1 s2
 have a3 := stRec_s s1 s2
 rw [hR1] at r1 m1 a1 f1 f3
 rw [hR2] at r2 m2 a2 a3 f2 f3
 obtain ⟨ga, b1, b2', b3, b4⟩ := save_lg R1 [] LG.nil m1 (by simp [allR]; omega)
 obtain ⟨sy, _, hsy⟩ := b4 0 (.inl ⟨rfl, rfl⟩)
 obtain ⟨gb, c1, c2, c3, c4⟩ := sync_any b2' hsy
 have hgb : allR gb = R1 := by rw [c3, b3]; simp [allR]
 obtain ⟨gc, d1, d2, d3, d4⟩ := save_lg R2 gb c2 m2 (by rw [hgb]; omega)
 obtain ⟨sy2, _, hsy2⟩ := d4 _ c4
 obtain ⟨gd, w1, w2, w3, w4⟩ := sync_any d2 hsy2
 have hgd : allR gd = R1 ++ R2 := by rw [w3, d3, hgb]
 have k1' := saveState_i (LG.nil.dp 1 0 (by simp)) s0 s1
 rw [hR1, b1] at k1'
 dsimp only at k1'
 rw [show ((0 : Int) != 0) = false from rfl, cf, c1] at k1'
 have k2' := saveState_i (c2.dp 1 0 (by have := c2.len; omega)) s1 s2
 rw [hR2, d1] at k2'
 dsimp only at k2'
 rw [show ((0 : Int) != 0) = false from rfl, cf, w1] at k2'
 obtain ⟨N, hN⟩ := read_lg w2
 rw [hgd] at hN
 have hdpd := w2.dp 1 0 (by have := w2.len; omega)
 have k3' := load_i 3000 (logF 1 0 gd) (by have := hdpd.len; omega) ⟨hdpd.dk.fit, fun f hf => by have := hdpd.dk.data hf; omega⟩
 rw [loadV_good hN f3.1 s2] at k3'
 have k4' := foldRecords_i (R1 ++ R2) (by simp; omega)
 rw [told_good f3 (by simp; omega) (fun r hr => by
  rcases List.mem_append.1 hr with hr | hr
  ·exact (m1 r hr).2
  ·exact (m2 r hr).2) s2] at k4'
 have k5' : gq46 T2 V2 L2 T2 V2 L2 = some (true, 0) := by
  unfold gq46 gq46.F
  rw [stOK_it s2, bs, Bool.not_true, cf, bs, Bool.not_true, cf, beq_self_eq_true, ct, beq_self_eq_true, ct, equal_self L2 (by omega), bs]
 have hz : ((0 : Int) != 0) = false := rfl
 have hz1 : ((0 : Int) == 0) = true := rfl
 rw [e1, bs]
 dsimp only
 rw [e2, bs, a1, bs]
 dsimp only
 rw [a2, bs, a3, bs]
 dsimp only
 rw [grd_of (gRm_t (by simp; omega)), grd_of (gRm_t (by simp; omega)), List.nil_append, k4', bs]
 dsimp only
 rw [k5', bs, hz, cf, cf, cf, cf, Bool.not_true, cf, texts_self R2 (by omega), bs, Bool.not_true, cf, state_self T2 V2 L2 (by omega), bs, Bool.not_true, cf, stOK_it s2, bs, Bool.not_true, cf, newDisk_s, bs]
 have k1'' : gq36 3000 [] 0 (-1) [] T1 V1 L1 = some (3000, logF 1 0 gb, 0) := k1'
 dsimp only
 rw [k1'', bs]
 dsimp only
 rw [k2', bs]
 dsimp only
 rw [k3', bs, hz1, ct, ct, ct]
 dsimp only
 rw [state_self T2 V2 L2 (by omega), bs]
theorem pFnStates : ∀ (x0 : El (.list (.int .u8))) (x1 : El (.list (.int .u8))), (x0.length * 1 ≤ 140737488351232 ∧ x0.length ≤ maxLen ∧ ∀ y ∈ x0, (Lit.int .u8 y).wf = true) → (x1.length * 1 ≤ 140737488351232 ∧ x1.length ≤ maxLen ∧ ∀ y ∈ x1, (Lit.int .u8 y).wf = true) → gq9 x0 x1 = some true := by
 intro x0 x1 h0 h1
 exact states_law x0 x1 (isBytes_of_wf h0.2.2) (isBytes_of_wf h1.2.2)
end Go.Proofs.YtaanadbpnmcbcaaGreatDoorA
