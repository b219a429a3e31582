import Derived.Test.YtaanadbpnmcbcaaGreatDoorAWord
import Derived.Laws.BytesArg
import Derived.Lib.Strings
import Derived.Test.YtaanadbpnmcbcaaGreatDoorXiF2
import Derived.Lib.SlTrimSet
namespace Go.Proofs.YtaanadbpnmcbcaaGreatDoorA
open Go
set_option linter.unusedVariables false
set_option linter.unusedSimpArgs false
theorem bs {A B : Type} (a : A) (f : A → Option B) : Option.bind (some a) f = f a := id rfl
theorem ct {A : Type} (a b : A) : cond true a b = a := id rfl
theorem cf {A : Type} (a b : A) : cond false a b = b := id rfl
theorem grd_t {R : Type} (x : Option R) : grd true x = x := rfl
theorem grd_of {R : Type} {g : Bool} (h : g = true) (x : Option R) : grd g x = x := by rw [h]; rfl
theorem gIx_t {i : Int} {n : Nat} (h : 0 ≤ i) (h' : i < n) : gIx i n = true := by simp [gIx, h, h']
theorem gSl_t {l h : Int} {n : Nat} (h0 : 0 ≤ l) (h1 : l ≤ h) (h2 : h ≤ n) : gSl l h n = true := by simp [gSl, h0, h1, h2]
theorem gRm_t {n : Nat} (h : n ≤ 140737488355328) : gRm n = true := by simp [gRm, h]
theorem gCat_t {x y : ByteArray} (h : x.size + y.size ≤ 9223372036854775807) : gCat x y = true := by
 unfold gCat
 rw [decide_eq_true_iff]
 omega
theorem gSh_t {y : Int} (h : 0 ≤ y) : gSh y = true := by simp [gSh, h]
theorem gNz_t {y : Int} (h : y ≠ 0) : gNz y = true := by simp [gNz, h]
theorem gMk_t {l c : Int} {b : Nat} (h0 : 0 ≤ l) (h1 : l ≤ c) (h2 : c * b ≤ 140737488355328) : gMk l c b = true := by simp [gMk, h0, h1, h2]
theorem wr {x : Int} (h : -9223372036854775808 ≤ x) (h' : x ≤ 9223372036854775807) : IntKind.wrap .i64 x = x := by
 simp only [IntKind.wrap, IntKind.signed, IntKind.bits]
 simp
 omega
theorem wr8 {x : Int} (h : 0 ≤ x) (h' : x < 256) : IntKind.wrap .u8 x = x := by
 simp only [IntKind.wrap, IntKind.signed, IntKind.bits]
 simp
 omega
theorem wr8m (x : Int) : IntKind.wrap .u8 x = x % 256 := by
 simp only [IntKind.wrap, IntKind.signed, IntKind.bits]
 simp
theorem wr32m (x : Int) : IntKind.wrap .u32 x = x % 4294967296 := by
 simp only [IntKind.wrap, IntKind.signed, IntKind.bits]
 simp
theorem shl_eq {x : Int} {n : Int} (h0 : 0 ≤ n) (h1 : n ≤ 64) : iShl .i64 x n = IntKind.wrap .i64 (x * 2 ^ n.toNat) := by
 unfold iShl
 congr 3
 simp [IntKind.bits]
 omega
theorem shr_eq {x : Int} {n : Int} (h0 : 0 ≤ n) (h1 : n ≤ 64) : iShr .i64 x n = x / 2 ^ n.toNat := by
 unfold iShr
 rw [show min n.toNat (IntKind.bits .i64) = n.toNat by simp [IntKind.bits]; omega]
 rw [Int.fdiv_eq_ediv_of_nonneg]
 exact Int.pow_nonneg (by decide)
theorem shr8 (x : Int) : iShr .i64 x 8 = x / 256 := by rw [shr_eq (by decide) (by decide)]; rfl
theorem shr16 (x : Int) : iShr .i64 x 16 = x / 65536 := by rw [shr_eq (by decide) (by decide)]; rfl
theorem shr24 (x : Int) : iShr .i64 x 24 = x / 16777216 := by rw [shr_eq (by decide) (by decide)]; rfl
theorem shl8 (x : Int) : iShl .i64 x 8 = IntKind.wrap .i64 (x * 256) := by rw [shl_eq (by decide) (by decide)]; rfl
theorem tmod_pos {x y : Int} (h : 0 ≤ x) : Int.tmod x y = x % y := Int.tmod_eq_emod_of_nonneg h
theorem tdiv_pos {x y : Int} (h : 0 ≤ x) : Int.tdiv x y = x / y := Int.tdiv_eq_ediv_of_nonneg h
def IsBytes (l : List Int) : Prop := ∀ y ∈ l, 0 ≤ y ∧ y < 256
theorem IsBytes.nil : IsBytes [] := fun y h => by simp at h
theorem IsBytes.cons {a : Int} {l : List Int} (h0 : 0 ≤ a) (h1 : a < 256) (h : IsBytes l) : IsBytes (a :: l) := fun y hy => by
 rcases List.mem_cons.1 hy with rfl | hy
 ·exact ⟨h0, h1⟩
 ·exact h y hy
theorem IsBytes.append {l m : List Int} (h : IsBytes l) (h' : IsBytes m) : IsBytes (l ++ m) := fun y hy => (List.mem_append.1 hy).elim (h y) (h' y)
theorem IsBytes.left {l m : List Int} (h : IsBytes (l ++ m)) : IsBytes l := fun y hy => h y (List.mem_append.2 (.inl hy))
theorem IsBytes.right {l m : List Int} (h : IsBytes (l ++ m)) : IsBytes m := fun y hy => h y (List.mem_append.2 (.inr hy))
theorem IsBytes.drop {l : List Int} (h : IsBytes l) (n : Nat) : IsBytes (l.drop n) := fun y hy => h y (List.mem_of_mem_drop hy)
theorem IsBytes.take {l : List Int} (h : IsBytes l) (n : Nat) : IsBytes (l.take n) := fun y hy => h y (List.mem_of_mem_take hy)
theorem IsBytes.sub {l : List Int} (h : IsBytes l) (a b : Int) : IsBytes (sub l a b) := (h.take _).drop _
theorem IsBytes.get {l : List Int} (h : IsBytes l) {i : Nat} (hi : i < l.length) : 0 ≤ l[i] ∧ l[i] < 256 := h _ (List.getElem_mem _)
theorem IsBytes.bytesL (s : ByteArray) : IsBytes (bytesL s) := fun y hy => by
 obtain ⟨b, _, rfl⟩ := List.mem_map.1 hy
 have := b.toNat_lt
 omega
theorem isBytes_of_wf {l : List Int} (h : ∀ y ∈ l, (Lit.int .u8 y).wf = true) : IsBytes l := fun y hy => by
 have := h y hy
 simp [Lit.wf, IntKind.min, IntKind.max, IntKind.signed, IntKind.bits] at this
 omega
theorem ba_ext {a b : ByteArray} (h : a.data.toList = b.data.toList) : a = b := by
 obtain ⟨⟨l⟩⟩ := a
 obtain ⟨⟨m⟩⟩ := b
 simp at h
 subst h
 rfl
theorem strL_size (l : List Int) : (strL l).size = l.length := by
 show (List.toArray _).size = _
 simp
theorem bytesL_length (s : ByteArray) : (bytesL s).length = s.size := by simp [bytesL]
theorem strL_list (l : List Int) : (strL l).data.toList = l.map fun n => UInt8.ofNat n.toNat := by simp [strL]
theorem strL_bytesL (s : ByteArray) : strL (bytesL s) = s := by
 apply ba_ext
 rw [strL_list, bytesL, List.map_map]
 conv => rhs; rw [← List.map_id s.data.toList]
 apply List.map_congr_left
 intro b _
 simp
theorem bytesL_strL {l : List Int} (h : IsBytes l) : bytesL (strL l) = l := by
 unfold bytesL
 rw [strL_list, List.map_map]
 conv => rhs; rw [← List.map_id l]
 apply List.map_congr_left
 intro b hb
 have := h b hb
 simp
 omega
theorem strL_append (l m : List Int) : strL l ++ strL m = strL (l ++ m) := by
 apply ba_ext
 rw [ByteArray.data_append, Array.toList_append, strL_list, strL_list, strL_list, List.map_append]
theorem cut_strL (l : List Int) (a b : Int) : cut (strL l) a b = strL (sub l a b) := by
 apply ba_ext
 unfold cut sub
 rw [Lib.extract_data, strL_list, strL_list, ← List.map_drop, ← List.map_take, List.drop_take]
theorem byteAt_strL {l : List Int} (h : IsBytes l) {i : Int} (h0 : 0 ≤ i) (h1 : i < l.length) : byteAt (strL l) i = l.getD i.toNat 0 := by
 have hi : i.toNat < l.length := by omega
 have hs : i.toNat < (strL l).size := by rw [strL_size]; exact hi
 unfold byteAt
 rw [dif_pos hs]
 have e : (strL l)[i.toNat]'hs = UInt8.ofNat (l[i.toNat]).toNat := by
  show (strL l).data[i.toNat]'_ = _
  simp [strL]
 rw [e, List.getD_eq_getElem?_getD, List.getElem?_eq_getElem hi]
 have := h l[i.toNat] (List.getElem_mem _)
 simp
 omega
theorem sEq_iff {a b : ByteArray} : sEq a b = true ↔ a = b := by
 unfold sEq
 rw [beq_iff_eq]
 constructor
 ·intro h
  apply ba_ext
  rwa [ByteArray.toList_eq, ByteArray.toList_eq] at h
 ·rintro rfl; rfl
theorem sEq_self (a : ByteArray) : sEq a a = true := sEq_iff.2 rfl
theorem strL_inj {l m : List Int} (hl : IsBytes l) (hm : IsBytes m) (h : strL l = strL m) : l = m := by rw [← bytesL_strL hl, ← bytesL_strL hm, h]
theorem sEq_strL {l m : List Int} (hl : IsBytes l) (hm : IsBytes m) : sEq (strL l) (strL m) = decide (l = m) := by
 rw [Bool.eq_iff_iff, sEq_iff, decide_eq_true_iff]
 exact ⟨strL_inj hl hm, fun h => by rw [h]⟩
theorem sEq_dec (a b : ByteArray) : sEq a b = decide (a = b) := by rw [Bool.eq_iff_iff, sEq_iff, decide_eq_true_iff]
theorem sub_take {α : Type} (l : List α) (n : Int) : sub l 0 n = l.take n.toNat := by simp [sub]
theorem sub_drop {α : Type} (l : List α) (n : Int) {m : Int} (h : m = l.length) : sub l n m = l.drop n.toNat := by subst h; simp [sub]
theorem sub_length {α : Type} (l : List α) {a b : Int} (h0 : 0 ≤ a) (h1 : a ≤ b) (h2 : b ≤ l.length) : ((sub l a b).length : Int) = b - a := by
 simp [sub]
 omega
theorem rdE_at {k : Kd} {l : List (El k)} {i : Nat} (h : i < l.length) : rdE k l i = l[i] := by
 unfold rdE
 rw [List.getD_eq_getElem?_getD, List.getElem?_eq_getElem h]
 rfl
theorem take_snoc {α : Type} {l : List α} {i : Nat} (h : i < l.length) : l.take (i + 1) = l.take i ++ [l[i]] := by
 rw [List.take_add_one, List.getElem?_eq_getElem h]
 rfl
theorem drop_cons {α : Type} {l : List α} {i : Nat} (h : i < l.length) : l.drop i = l[i] :: l.drop (i + 1) := List.drop_eq_getElem_cons h
theorem decide_t {p : Prop} [Decidable p] (h : p) : decide p = true := decide_eq_true h
theorem decide_f {p : Prop} [Decidable p] (h : ¬ p) : decide p = false := decide_eq_false h
end Go.Proofs.YtaanadbpnmcbcaaGreatDoorA
namespace Go.Proofs.YtaanadbpnmcbcaaGreatDoorA
open Go
set_option linter.unusedVariables false
set_option linter.unusedSimpArgs false
theorem fuel_gt {n : Nat} (h : n < 18446744073709551616) : ∃ m, fuel = n + m + 1 := ⟨fuel - n - 1, by rw [fuel_eq]; omega⟩
theorem pow256_le {a b : Nat} (h : a ≤ b) : (256 : Int) ^ a ≤ 256 ^ b := by
 have h2 : ((256 ^ a : Nat) : Int) ≤ ((256 ^ b : Nat) : Int) := Int.ofNat_le.2 (Nat.pow_le_pow_right (n := 256) (by decide) h)
 rw [Int.natCast_pow, Int.natCast_pow] at h2
 exact h2
def beL (n : Int) : Nat → List Int
 | 0 => []
 | m + 1 => beL (n / 256) m ++ [n % 256]
theorem beL_length (n : Int) (m : Nat) : (beL n m).length = m := by
 induction m generalizing n with
 | zero => rfl
 | succ m ih => simp [beL, ih]
theorem beL_bytes (n : Int) (m : Nat) : IsBytes (beL n m) := by
 induction m generalizing n with
 | zero => exact IsBytes.nil
 | succ m ih => exact (ih _).append (IsBytes.cons (by omega) (by omega) IsBytes.nil)
def beN : Int → List Int → Int
 | a, [] => a
 | a, x :: xs => beN (a * 256 + x) xs
theorem beN_append (a : Int) (l m : List Int) : beN a (l ++ m) = beN (beN a l) m := by
 induction l generalizing a with
 | nil => rfl
 | cons x l ih => exact ih _
theorem beN_beL (n : Int) (m : Nat) (h0 : 0 ≤ n) (h : n < 256 ^ m) : beN 0 (beL n m) = n := by
 induction m generalizing n with
 | zero => simp [beL, beN] at *; omega
 | succ m ih =>
  rw [beL, beN_append, ih (n / 256) (by omega) (by rw [Int.pow_succ] at h; omega)]
  simp [beN]
  omega
theorem beN_bounds : ∀ (l : List Int) (a : Int), IsBytes l → 0 ≤ a → 0 ≤ beN a l ∧ beN a l < (a + 1) * 256 ^ l.length
 | [], a, _, ha => by simp [beN]; omega
 | x :: xs, a, h, ha => by
  have hx := h x List.mem_cons_self
  have ih := beN_bounds xs (a * 256 + x) (fun y hy => h y (List.mem_cons_of_mem _ hy)) (by omega)
  refine ⟨ih.1, Int.lt_of_lt_of_le ih.2 ?_⟩
  have e : (a + 1) * 256 ^ (x :: xs).length = ((a + 1) * 256) * 256 ^ xs.length := by
   rw [List.length_cons, Int.pow_succ, Int.mul_comm (256 ^ xs.length) 256, Int.mul_assoc]
  rw [e]
  exact Int.mul_le_mul_of_nonneg_right (by omega) (Int.pow_nonneg (by decide))
theorem number_l1 {R : Type} (kk : List Int → Option R) : ∀ (j n : Nat) (x : Int) (out : List Int), j ≤ out.length → j < 1000 → j < n → gq137.l1 kk n x ((j : Int) - 1) out = kk (beL x j ++ out.drop j)
 | 0, n + 1, x, out, _, _, _ => by
  simp only [gq137.l1, decide_f (show ¬ ((0 : Nat) : Int) - 1 ≥ 0 by omega), cond_false]
  simp [beL]
 | j + 1, n + 1, x, out, h1, h2, h3 => by
  have e : (((j + 1 : Nat) : Int) - 1) = j := by omega
  rw [e]
  simp only [gq137.l1]
  rw [decide_t (by omega : (j : Int) ≥ 0), cond_true, grd_of (gIx_t (by omega) (by omega)), grd_of (gSh_t (by omega)), wr (by omega) (by omega), shr8, wr8m]
  rw [number_l1 kk j n (x / 256) _ (by simp [setE]; omega) (by omega) (by omega)]
  congr 1
  have hj : j < out.length := by omega
  simp only [setE, Int.toNat_natCast, beL, List.append_assoc]
  congr 1
  rw [List.drop_set_of_lt_drop hj]
where
 List.drop_set_of_lt_drop {out : List Int} {j : Nat} {a : Int} (hj : j < out.length) : (out.set j a).drop j = [a] ++ out.drop (j + 1) := by
  rw [List.drop_eq_getElem_cons (by simpa using hj), List.getElem_set_self, List.drop_set_of_lt (by omega)]
  rfl
theorem number_eq (x : Int) (m : Nat) (h : m < 1000) : gq137 x m = some (strL (beL x m)) := by
 obtain ⟨q, hq⟩ := fuel_gt (n := m) (by omega)
 have hl : (List.replicate (Int.toNat (m : Int)) (0 : Int)).length = m := by simp
 unfold gq137 gq137.F
 rw [grd_of (gMk_t (by omega) (by omega) (by omega)), wr (by omega) (by omega), number_l1 _ m fuel x _ (by omega) h (by omega)]
 congr 2
 rw [List.drop_of_length_le (by omega), List.append_nil]
theorem numberOf_l1 {R : Type} (kk : Int → Option R) (l : List Int) (h : IsBytes l) (hl : l.length ≤ 7) : ∀ (j n : Nat) (a : Int), j ≤ l.length → j < n → 0 ≤ a → a < 256 ^ (l.length - j) →
  gq103.l1 kk n (strL l) a l.length ((l.length - j : Nat) : Int) = kk (beN a (l.drop (l.length - j)))
 | 0, n + 1, a, _, _, _, _ => by
  simp only [gq103.l1, Nat.sub_zero, decide_f (show ¬ (l.length : Int) < l.length by omega), cond_false, List.drop_length, beN]
 | j + 1, n + 1, a, h1, h2, h3, h4 => by
  have hi : l.length - (j + 1) < l.length := by omega
  have hb := h.get hi
  have h6 : a < 256 ^ 6 := Int.lt_of_lt_of_le h4 (by
   have : (256 : Int) ^ (l.length - (j + 1)) ≤ 256 ^ 6 := pow256_le (by omega)
   exact this)
  simp only [gq103.l1]
  rw [decide_t (by omega : ((l.length - (j + 1) : Nat) : Int) < l.length), cond_true, grd_of (gSh_t (by omega)), grd_of (gIx_t (by omega) (by rw [strL_size]; omega)), byteAt_strL h (by omega) (by omega), shl8]
  have e0 : l.getD (Int.toNat ((l.length - (j + 1) : Nat) : Int)) 0 = l[l.length - (j + 1)] := by
   rw [Int.toNat_natCast, List.getD_eq_getElem?_getD, List.getElem?_eq_getElem hi]; rfl
  rw [e0]
  have e1 : IntKind.wrap .i64 (a * 256) = a * 256 := wr (by omega) (by omega)
  rw [e1, wr (x := l[l.length - (j + 1)]) (by omega) (by omega), wr (x := a * 256 + l[l.length - (j + 1)]) (by omega) (by omega), wr (by omega) (by omega)]
  have e2 : (((l.length - (j + 1) : Nat) : Int) + 1) = ((l.length - j : Nat) : Int) := by omega
  rw [e2, numberOf_l1 kk l h hl j n _ (by omega) (by omega) (by omega) ?_]
  ·rw [drop_cons hi, show l.length - (j + 1) + 1 = l.length - j by omega]
   rfl
  ·have : (256 : Int) ^ (l.length - j) = 256 ^ (l.length - (j + 1)) * 256 := by
    rw [← Int.pow_succ]; congr 1; omega
   rw [this]
   omega
theorem numberOf_eq (l : List Int) (h : IsBytes l) (hl : l.length ≤ 7) : gq103 (strL l) = some (beN 0 l) := by
 unfold gq103 gq103.F
 rw [strL_size]
 have := numberOf_l1 (fun n_ => some n_) l h hl l.length fuel 0 (Nat.le_refl _) (by rw [fuel_eq]; omega) (by omega) (by simp)
 simpa using this
theorem within_eq (n lo hi : Int) : gq67 n lo hi = some (decide (lo ≤ n) && decide (n ≤ hi)) := by
 unfold gq67 gq67.F
 by_cases h : n ≥ lo
 ·simp [h]
 ·simp [h]
theorem l01In_eq (n lo hi : Int) : gq59 n lo hi = some (decide (lo ≤ n) && decide (n ≤ hi)) := by
 unfold gq59 gq59.F
 by_cases h : n ≥ lo
 ·simp [h]
 ·simp [h]
end Go.Proofs.YtaanadbpnmcbcaaGreatDoorA
namespace Go.Proofs.YtaanadbpnmcbcaaGreatDoorA
open Go
set_option linter.unusedVariables false
set_option linter.unusedSimpArgs false
theorem bits32 (f : BitVec 32 → BitVec 32 → BitVec 32) (x y : Int) : bits .u32 f x y = ((f (BitVec.ofInt 32 x) (BitVec.ofInt 32 y)).toNat : Int) := by
 show IntKind.wrap .u32 ((f (BitVec.ofInt 32 x) (BitVec.ofInt 32 y)).toNat : Int) = _
 rw [wr32m]
 have := (f (BitVec.ofInt 32 x) (BitVec.ofInt 32 y)).isLt
 omega
theorem and32 (x y : Int) : iAnd .u32 x y = ((BitVec.ofInt 32 x &&& BitVec.ofInt 32 y).toNat : Int) := bits32 _ x y
end Go.Proofs.YtaanadbpnmcbcaaGreatDoorA
namespace Go.Proofs.YtaanadbpnmcbcaaGreatDoorA
open Go
set_option linter.unusedVariables false
set_option linter.unusedSimpArgs false
theorem fuel_big {n : Nat} (h : n < 18446744073709551616) : n < fuel := by rw [fuel_eq]; exact h
theorem setE_eq {k : Kd} (xs : List (El k)) (i : Nat) (e : El k) : setE k xs i e = xs.set i e := rfl
theorem setE_length {k : Kd} (xs : List (El k)) (i : Nat) (e : El k) : (setE k xs i e).length = xs.length := by simp [setE]
theorem rdE_setE {k : Kd} (xs : List (El k)) (i : Nat) (e : El k) (h : i < xs.length) : rdE k (setE k xs i e) i = e := by
 rw [rdE_at (by rw [setE_length]; exact h)]
 simp [setE]
theorem setE_setE {k : Kd} (xs : List (El k)) (i : Nat) (e e' : El k) : setE k (setE k xs i e) i e' = setE k xs i e' := by simp [setE]
end Go.Proofs.YtaanadbpnmcbcaaGreatDoorA
namespace Go.Proofs.YtaanadbpnmcbcaaGreatDoorA
open Go
set_option linter.unusedVariables false
set_option linter.unusedSimpArgs false
theorem snum_l1 {R : Type} (ke kr : Int → List Int → Int → Bool → Option R) (l : List Int) (hb : IsBytes l) (hl : l.length ≤ 1000000) (m : Nat) (hm : m ≤ 7) : ∀ (j n i p : Nat) (a : Int), i + j = m → j < n → p ≤ l.length → 0 ≤ a → a < 256 ^ i →
  gq98.l1 ke kr n m a i l p false = if p + j ≤ l.length then ke (beN a ((l.drop p).take j)) l ((p + j : Nat) : Int) false else kr 0 l l.length true
 | 0, n + 1, i, p, a, e, _, hp, h0, h1 => by
  simp only [gq98.l1, decide_f (show ¬ (i : Int) < m by omega), cond_false, Nat.add_zero, if_pos hp, List.take_zero, beN]
 | j + 1, n + 1, i, p, a, e, hn, hp, h0, h1 => by
  simp only [gq98.l1, decide_t (show (i : Int) < m by omega), cond_true, cond_false]
  by_cases hlt : p < l.length
  ·have hg := hb.get hlt
   have h6 : a < 256 ^ 6 := Int.lt_of_lt_of_le h1 (pow256_le (by omega))
   have e256 : (256 : Int) ^ 6 = 281474976710656 := by decide
   rw [decide_f (by omega : ¬ (p : Int) ≥ l.length), cond_false, grd_of (gIx_t (by omega) (by omega)), Int.toNat_natCast, rdE_at hlt]
   have e1 : IntKind.wrap .i64 (a * 256) = a * 256 := wr (by omega) (by omega)
   rw [e1, wr (x := l[p]) (by omega) (by omega), wr (x := a * 256 + l[p]) (by omega) (by omega), wr (x := (i : Int) + 1) (by omega) (by omega), wr (x := (p : Int) + 1) (by omega) (by omega)]
   have := snum_l1 ke kr l hb hl m hm j n (i + 1) (p + 1) (a * 256 + l[p]) (by omega) (by omega) (by omega) (by omega) (by rw [Int.pow_succ]; omega)
   rw [show ((i : Int) + 1) = ((i + 1 : Nat) : Int) by omega, show ((p : Int) + 1) = ((p + 1 : Nat) : Int) by omega, this]
   rw [show p + 1 + j = p + (j + 1) by omega, drop_cons hlt]
   rfl
  ·rw [decide_t (by omega : (p : Int) ≥ l.length), cond_true, if_neg (by omega)]
   congr 1
   omega
theorem snum_eq (l : List Int) (hb : IsBytes l) (hl : l.length ≤ 1000000) (m : Nat) (hm : m ≤ 7) (p : Nat) (hp : p ≤ l.length) :
  gq98 l p false m = if p + m ≤ l.length then some (beN 0 ((l.drop p).take m), l, ((p + m : Nat) : Int), false) else some (0, l, (l.length : Int), true) := by
 unfold gq98 gq98.F
 exact snum_l1 _ _ l hb hl m hm m fuel 0 p 0 (by omega) (by rw [fuel_eq]; omega) hp (by omega) (by simp)
end Go.Proofs.YtaanadbpnmcbcaaGreatDoorA
namespace Go.Proofs.YtaanadbpnmcbcaaGreatDoorA
open Go
set_option linter.unusedVariables false
set_option linter.unusedSimpArgs false
theorem xorN (k : IntKind) (hk : k = .u32 ∨ k = .i64) (a b : Nat) (ha : a < 4294967296) (hb : b < 4294967296) : iXor k (a : Int) (b : Int) = ((a ^^^ b : Nat) : Int) := by
 have hx : a ^^^ b < 4294967296 := Nat.xor_lt_two_pow (n := 32) ha hb
 rcases hk with rfl | rfl
 ·unfold iXor bits
  rw [BitVec.toNat_xor, BitVec.ofInt_natCast, BitVec.ofInt_natCast, BitVec.toNat_ofNat, BitVec.toNat_ofNat, Nat.mod_eq_of_lt (show a < 2 ^ IntKind.bits .u32 from ha), Nat.mod_eq_of_lt (show b < 2 ^ IntKind.bits .u32 from hb), wr32m]
  omega
 ·unfold iXor bits
  rw [BitVec.toNat_xor, BitVec.ofInt_natCast, BitVec.ofInt_natCast, BitVec.toNat_ofNat, BitVec.toNat_ofNat, Nat.mod_eq_of_lt (show a < 2 ^ IntKind.bits .i64 from by simp [IntKind.bits]; omega), Nat.mod_eq_of_lt (show b < 2 ^ IntKind.bits .i64 from by simp [IntKind.bits]; omega), wr (by omega) (by omega)]
def bitN (n : Nat) : Nat := if n % 2 = 1 then (n / 2) ^^^ 3988292384 else n / 2
theorem bitN_lt {n : Nat} (h : n < 4294967296) : bitN n < 4294967296 := by
 unfold bitN
 split
 ·exact Nat.xor_lt_two_pow (n := 32) (by omega) (by decide)
 ·omega
def bitsN : Nat → Nat → Nat
 | 0, n => n
 | m + 1, n => bitsN m (bitN n)
theorem bitsN_lt : ∀ {m n : Nat}, n < 4294967296 → bitsN m n < 4294967296
 | 0, _, h => h
 | m + 1, _, h => bitsN_lt (m := m) (bitN_lt h)
def crcF (n : Nat) : List Int → Nat
 | [] => n
 | b :: l => crcF (bitsN 8 (n ^^^ b.toNat)) l
theorem crcF_lt : ∀ {l : List Int} {n : Nat}, IsBytes l → n < 4294967296 → crcF n l < 4294967296
 | [], _, _, h => h
 | b :: l, n, hb, h => by
  have h0 := hb b (by simp)
  exact crcF_lt (l := l) (fun y hy => hb y (by simp [hy])) (bitsN_lt (Nat.xor_lt_two_pow (n := 32) h (by omega)))
def crcV (l : List Int) : Int := ((crcF 4294967295 l ^^^ 4294967295 : Nat) : Int)
theorem crcV_range {l : List Int} (h : IsBytes l) : 0 ≤ crcV l ∧ crcV l < 4294967296 := by
 have := Nat.xor_lt_two_pow (n := 32) (crcF_lt h (show 4294967295 < 4294967296 by decide)) (show (4294967295 : Nat) < 2 ^ 32 by decide)
 unfold crcV
 omega
theorem shr32_1 (n : Nat) : iShr .u32 (n : Int) 1 = ((n / 2 : Nat) : Int) := by
 unfold iShr
 rw [show min (1 : Int).toNat (IntKind.bits .u32) = 1 from rfl, Int.fdiv_eq_ediv_of_nonneg _ (by decide)]
 omega
theorem and32_1 (n : Nat) (h : n < 4294967296) : iAnd .u32 (n : Int) 1 = ((n % 2 : Nat) : Int) := by
 rw [and32, BitVec.toNat_and, BitVec.ofInt_natCast, BitVec.toNat_ofNat, Nat.mod_eq_of_lt (show n < 2 ^ 32 from h), show (BitVec.ofInt 32 1).toNat = 1 from rfl, Nat.and_one_is_mod]
theorem crcb_i {R : Type} (kk : ByteArray → Int → Int → Int → Option R) (s : ByteArray) (a b : Int) : ∀ (m fu j n : Nat), j + m = 8 → m < fu → n < 4294967296 → gq176.l1 kk fu s (n : Int) a b (j : Int) = kk s (bitsN m n : Nat) a b
 | 0, fu + 1, j, n, e, _, _ => by
  simp only [gq176.l1]
  rw [decide_f (by omega), cf]
  rfl
 | m + 1, fu + 1, j, n, e, hf, hn => by
  simp only [gq176.l1]
  rw [decide_t (by omega), ct, grd_of (gSh_t (by decide)), and32_1 n hn, shr32_1, wr (by omega) (by omega), show ((j : Int) + 1) = ((j + 1 : Nat) : Int) by omega]
  have hb := bitN_lt hn
  by_cases h : n % 2 = 1
  ·rw [show (((n % 2 : Nat) : Int) == 1) = true by rw [h]; rfl, ct, show (3988292384 : Int) = ((3988292384 : Nat) : Int) from rfl, xorN .u32 (.inl rfl) _ _ (by omega) (by decide)]
   have := crcb_i kk s a b m fu (j + 1) (bitN n) (by omega) (by omega) hb
   rw [show bitN n = (n / 2) ^^^ 3988292384 by rw [bitN, if_pos h]] at this
   rw [this, bitsN, bitN, if_pos h]
  ·rw [show (((n % 2 : Nat) : Int) == 1) = false by simp; omega, cf]
   have := crcb_i kk s a b m fu (j + 1) (bitN n) (by omega) (by omega) hb
   rw [show bitN n = n / 2 by rw [bitN, if_neg h]] at this
   rw [this, bitsN, bitN, if_neg h]
theorem crcb_s {R : Type} (kk : List Int → Int → Int → Option R) (s : List Int) (a : Int) : ∀ (m fu j n : Nat), j + m = 8 → m < fu → n < 4294967296 → gq151.l1 kk fu s (n : Int) a (j : Int) = kk s (bitsN m n : Nat) a
 | 0, fu + 1, j, n, e, _, _ => by
  simp only [gq151.l1]
  rw [decide_f (by omega), cf]
  rfl
 | m + 1, fu + 1, j, n, e, hf, hn => by
  simp only [gq151.l1]
  rw [decide_t (by omega), ct, grd_of (gNz_t (by decide)), grd_of (gNz_t (by decide)), tmod_pos (by omega), tdiv_pos (by omega), wr (x := (n : Int) / 2) (by omega) (by omega), wr (x := (j : Int) + 1) (by omega) (by omega), show ((j : Int) + 1) = ((j + 1 : Nat) : Int) by omega, show ((n : Int) / 2) = ((n / 2 : Nat) : Int) by omega]
  have hb := bitN_lt hn
  by_cases h : n % 2 = 1
  ·rw [show (((n : Int) % 2) == 1) = true by rw [show ((n : Int) % 2) = 1 by omega]; rfl, ct, show (3988292384 : Int) = ((3988292384 : Nat) : Int) from rfl, xorN .i64 (.inr rfl) _ _ (by omega) (by decide)]
   have := crcb_s kk s a m fu (j + 1) (bitN n) (by omega) (by omega) hb
   rw [show bitN n = (n / 2) ^^^ 3988292384 by rw [bitN, if_pos h]] at this
   rw [this, bitsN, bitN, if_pos h]
  ·rw [show (((n : Int) % 2) == 1) = false by simp; omega, cf, grd_of (gNz_t (by decide))]
   have := crcb_s kk s a m fu (j + 1) (bitN n) (by omega) (by omega) hb
   rw [show bitN n = n / 2 by rw [bitN, if_neg h]] at this
   rw [this, bitsN, bitN, if_neg h]
theorem crcl_i {R : Type} (kk : Int → Option R) (l : List Int) (hb : IsBytes l) (hl : l.length ≤ 1000000000000) : ∀ (m fu j n : Nat), j + m = l.length → m < fu → n < 4294967296 → gq176.l2 kk fu (strL l) (n : Int) (l.length : Int) (j : Int) = kk (crcF n (l.drop j) : Nat)
 | 0, fu + 1, j, n, e, _, _ => by
  simp only [gq176.l2]
  rw [decide_f (by omega), cf, List.drop_of_length_le (by omega)]
  rfl
 | m + 1, fu + 1, j, n, e, hf, hn => by
  have hj : j < l.length := by omega
  have hbj := hb.get hj
  simp only [gq176.l2]
  rw [decide_t (by omega), ct, grd_of (gIx_t (by omega) (by rw [strL_size]; omega)), byteAt_strL hb (by omega) (by omega), Int.toNat_natCast, List.getD_eq_getElem?_getD, List.getElem?_eq_getElem hj, Option.getD_some, wr32m, Int.emod_eq_of_lt hbj.1 (by omega),
   show l[j] = ((l[j].toNat : Nat) : Int) by omega, xorN .u32 (.inl rfl) _ _ hn (by omega), show (0 : Int) = ((0 : Nat) : Int) from rfl, crcb_i _ _ _ _ 8 fuel 0 _ (by omega) (fuel_big (by decide)) (Nat.xor_lt_two_pow (n := 32) hn (by omega)), wr (by omega) (by omega), show ((j : Int) + 1) = ((j + 1 : Nat) : Int) by omega]
  rw [crcl_i kk l hb hl m fu (j + 1) _ (by omega) (by omega) (bitsN_lt (Nat.xor_lt_two_pow (n := 32) hn (by omega))), drop_cons hj]
  rfl
theorem crcl_s {R : Type} (kk : Int → Option R) (l : List Int) (hb : IsBytes l) (hl : l.length ≤ 1000000000000) : ∀ (m fu j n : Nat), j + m = l.length → m < fu → n < 4294967296 → gq151.l2 kk fu l (n : Int) (j : Int) = kk (crcF n (l.drop j) : Nat)
 | 0, fu + 1, j, n, e, _, _ => by
  simp only [gq151.l2]
  rw [decide_f (by omega), cf, List.drop_of_length_le (by omega)]
  rfl
 | m + 1, fu + 1, j, n, e, hf, hn => by
  have hj : j < l.length := by omega
  have hbj := hb.get hj
  simp only [gq151.l2]
  rw [decide_t (by omega), ct, grd_of (gIx_t (by omega) (by omega)), Int.toNat_natCast, rdE_at (k := .int .u8) hj, wr (x := l[j]) (by omega) (by omega),
   show l[j] = ((l[j].toNat : Nat) : Int) by omega, xorN .i64 (.inr rfl) _ _ hn (by omega), show (0 : Int) = ((0 : Nat) : Int) from rfl, crcb_s _ _ _ 8 fuel 0 _ (by omega) (fuel_big (by decide)) (Nat.xor_lt_two_pow (n := 32) hn (by omega)), wr (by omega) (by omega), show ((j : Int) + 1) = ((j + 1 : Nat) : Int) by omega]
  rw [crcl_s kk l hb hl m fu (j + 1) _ (by omega) (by omega) (bitsN_lt (Nat.xor_lt_two_pow (n := 32) hn (by omega))), drop_cons hj]
  rfl
theorem check_i (l : List Int) (hb : IsBytes l) (hl : l.length ≤ 1000000000000) : gq176 (strL l) = some (crcV l) := by
 unfold gq176 gq176.F
 have hc := crcF_lt hb (show 4294967295 < 4294967296 by decide)
 rw [strL_size, show (4294967295 : Int) = ((4294967295 : Nat) : Int) from rfl, show (0 : Int) = ((0 : Nat) : Int) from rfl, crcl_i _ l hb hl l.length fuel 0 4294967295 (by omega) (fuel_big (by omega)) (by decide), List.drop_zero,
  show IntKind.max .u32 = ((4294967295 : Nat) : Int) from rfl, xorN .u32 (.inl rfl) _ _ (by decide) hc, Nat.xor_comm]
 have := crcV_range hb
 unfold crcV at this ⊢
 rw [wr (by omega) (by omega)]
theorem check_s (l : List Int) (hb : IsBytes l) (hl : l.length ≤ 1000000000000) : gq151 l = some (crcV l) := by
 unfold gq151 gq151.F
 have hc := crcF_lt hb (show 4294967295 < 4294967296 by decide)
 rw [show (4294967295 : Int) = ((4294967295 : Nat) : Int) from rfl, show (0 : Int) = ((0 : Nat) : Int) from rfl, crcl_s _ l hb hl l.length fuel 0 4294967295 (by omega) (fuel_big (by omega)) (by decide), List.drop_zero, xorN .i64 (.inr rfl) _ _ hc (by decide)]
 rfl
def frL (d : List Int) : List Int := (beL d.length 2 ++ beL (crcV (beL d.length 2 ++ d)) 4) ++ d
theorem frL_bytes {d : List Int} (h : IsBytes d) : IsBytes (frL d) := ((beL_bytes _ _).append (beL_bytes _ _)).append h
theorem frL_len (d : List Int) : (frL d).length = 6 + d.length := by simp only [frL, List.length_append, beL_length]
theorem two_s (n : Int) (h0 : 0 ≤ n) (h1 : n < 65536) : gq150 n = some (beL n 2) := by
 unfold gq150 gq150.F
 rw [grd_of (gNz_t (by decide)), tdiv_pos h0, wr (x := n / 256) (by omega) (by omega), wr8m, wr8m]
 rfl
theorem four_s (n : Int) (h0 : 0 ≤ n) (h1 : n < 4294967296) : gq133 n = some (beL n 4) := by
 unfold gq133 gq133.F
 rw [grd_of (gSh_t (by decide)), grd_of (gSh_t (by decide)), grd_of (gSh_t (by decide)), shr8, shr16, shr24, wr8m, wr8m, wr8m, wr8m]
 have e1 : n / 65536 = n / 256 / 256 := by omega
 have e2 : n / 16777216 = n / 256 / 256 / 256 := by omega
 rw [e1, e2]
 rfl
theorem frame_i (d : List Int) (h : IsBytes d) (hl : d.length < 65536) : gq155 (strL d) = some (strL (frL d)) := by
 unfold gq155 gq155.F
 rw [strL_size, show (2 : Int) = ((2 : Nat) : Int) from rfl, number_eq _ 2 (by decide), bs, grd_of (gCat_t (by rw [strL_size, strL_size, beL_length]; omega)), strL_append, check_i _ ((beL_bytes _ _).append h) (by rw [List.length_append, beL_length]; omega), bs,
  show (4 : Int) = ((4 : Nat) : Int) from rfl, number_eq _ 4 (by decide), bs, grd_of (gCat_t (by rw [strL_size, strL_size, beL_length, beL_length]; omega)), strL_append, grd_of (gCat_t (by rw [strL_size, strL_size, List.length_append, beL_length, beL_length]; omega)), strL_append]
 rfl
theorem frame_s (d : List Int) (h : IsBytes d) (hl : d.length < 65536) : gq110 d = some (frL d) := by
 unfold gq110 gq110.F
 have hc := crcV_range (l := beL d.length 2 ++ d) ((beL_bytes _ _).append h)
 rw [two_s _ (by omega) (by omega), bs, List.nil_append, grd_of (gRm_t (by simp [beL_length])), grd_of (gRm_t (by rw [beL_length]; omega)), check_s _ ((beL_bytes _ _).append h) (by rw [List.length_append, beL_length]; omega), bs, four_s _ hc.1 hc.2, bs,
  grd_of (gRm_t (by rw [beL_length, beL_length]; omega)), grd_of (gRm_t (by rw [List.length_append, beL_length, beL_length]; omega))]
 rfl
def frAt (l : List Int) : List Int × Int :=
 if l.length < 6 then ([], 16)
 else if ¬ (1 ≤ beN 0 (l.take 2) ∧ beN 0 (l.take 2) ≤ 200) then ([], 8)
 else if l.length < 6 + (beN 0 (l.take 2)).toNat then ([], 16)
 else if frL ((l.drop 6).take (beN 0 (l.take 2)).toNat) = l.take (6 + (beN 0 (l.take 2)).toNat) then ((l.drop 6).take (beN 0 (l.take 2)).toNat, 0)
 else ([], 8)
theorem sub_drop_take (l : List Int) (a n : Nat) : sub l (a : Int) ((a + n : Nat) : Int) = (l.drop a).take n := by
 unfold sub
 rw [Int.toNat_natCast, Int.toNat_natCast, List.drop_take, Nat.add_sub_cancel_left]
theorem frameAt_i (l : List Int) (h : IsBytes l) (hl : l.length ≤ 1000000000000) : gq148 (strL l) = some (strL (frAt l).1, (frAt l).2) := by
 unfold gq148 gq148.F frAt
 rw [strL_size]
 by_cases h6 : l.length < 6
 ·rw [decide_t (by omega), ct, if_pos h6]
  rfl
 ·rw [decide_f (by omega), cf, if_neg h6, grd_of (gSl_t (by decide) (by decide) (by omega)), cut_strL, show sub l 0 2 = l.take 2 by simp [sub], numberOf_eq _ (h.take 2) (by simp; omega), bs, within_eq, bs]
  obtain ⟨n, hn⟩ : ∃ n, beN 0 (l.take 2) = n := ⟨_, rfl⟩
  rw [hn]
  by_cases hr : 1 ≤ n ∧ n ≤ 200
  ·rw [decide_t hr.1, decide_t hr.2, Bool.and_self, Bool.not_true, cf, if_neg (fun h => h hr), wr (by omega) (by omega)]
   obtain ⟨q, rfl⟩ : ∃ q : Nat, n = q := ⟨n.toNat, by omega⟩
   rw [Int.toNat_natCast, show ((6 : Int) + (q : Int)) = ((6 + q : Nat) : Int) by omega]
   by_cases hs : l.length < 6 + q
   ·rw [decide_t (by omega), ct, if_pos hs]
    rfl
   ·rw [decide_f (by omega), cf, if_neg hs, grd_of (gSl_t (by decide) (by omega) (by omega)), cut_strL, show sub l 6 ((6 + q : Nat) : Int) = (l.drop 6).take q from sub_drop_take l 6 q, frame_i _ ((h.drop 6).take q) (by simp; omega), bs,
     grd_of (gSl_t (by decide) (by omega) (by omega)), cut_strL, show sub l 0 ((6 + q : Nat) : Int) = l.take (6 + q) by rw [sub_take, Int.toNat_natCast], sEq_strL (frL_bytes ((h.drop 6).take q)) (h.take _)]
    by_cases hf : frL ((l.drop 6).take q) = l.take (6 + q)
    ·rw [decide_t hf, Bool.not_true, cf, if_pos hf, grd_of (gSl_t (by decide) (by omega) (by omega))]
    ·rw [decide_f hf, Bool.not_false, ct, if_neg hf]
     rfl
  ·rw [show (decide (1 ≤ n) && decide (n ≤ 200)) = false by rw [← Bool.not_eq_true, Bool.and_eq_true, decide_eq_true_iff, decide_eq_true_iff]; exact hr, Bool.not_false, ct, if_pos hr]
   rfl
theorem frAt_code (l : List Int) : (frAt l).2 = 0 ∨ (frAt l).2 = 8 ∨ (frAt l).2 = 16 := by
 unfold frAt
 repeat' split
 all_goals simp
theorem frAt_ok {l : List Int} (hc : (frAt l).2 = 0) : 1 ≤ (frAt l).1.length ∧ (frAt l).1.length ≤ 200 ∧ 6 + (frAt l).1.length ≤ l.length := by
 unfold frAt at hc ⊢
 split at hc
 ·simp at hc
 ·rename_i h1
  rw [if_neg h1]
  split at hc
  ·simp at hc
  ·rename_i h2
   rw [if_neg h2]
   split at hc
   ·simp at hc
   ·rename_i h3
    rw [if_neg h3]
    split at hc
    ·rename_i h4
     rw [if_pos h4]
     have h2 := Classical.not_not.1 h2
     rw [List.length_take, List.length_drop]
     omega
    ·simp at hc
def frs : Nat → List Int → List ByteArray × Nat × Int
 | 0, _ => ([], 0, 0)
 | m + 1, l => if l.length = 0 then ([], 0, 0)
  else if (frAt l).2 = 0 then (strL (frAt l).1 :: (frs m (l.drop (6 + (frAt l).1.length))).1, 6 + (frAt l).1.length + (frs m (l.drop (6 + (frAt l).1.length))).2.1, (frs m (l.drop (6 + (frAt l).1.length))).2.2)
  else ([], 0, (frAt l).2)
theorem frs_code : ∀ (m : Nat) (l : List Int), (frs m l).2.2 = 0 ∨ (frs m l).2.2 = 8 ∨ (frs m l).2.2 = 16
 | 0, l => .inl rfl
 | m + 1, l => by
  unfold frs
  split
  ·exact .inl rfl
  ·split
   ·exact frs_code m _
   ·exact frAt_code l
theorem frs_size : ∀ (m : Nat) (l : List Int), (frs m l).1.length ≤ m ∧ (∀ s ∈ (frs m l).1, s.size ≤ 200) ∧ (frs m l).2.1 ≤ l.length
 | 0, l => ⟨Nat.le_refl _, (fun s h => by cases h), Nat.zero_le _⟩
 | m + 1, l => by
  unfold frs
  split
  ·exact ⟨by simp, (fun s h => by cases h), Nat.zero_le _⟩
  ·split
   ·rename_i hc
    have h0 := frAt_ok hc
    obtain ⟨h1, h2, h3⟩ := frs_size m (l.drop (6 + (frAt l).1.length))
    refine ⟨by simp; omega, fun s hs => ?_, ?_⟩
    ·rcases List.mem_cons.1 hs with rfl | hs
     ·rw [strL_size]; omega
     ·exact h2 s hs
    ·rw [List.length_drop] at h3
     show 6 + (frAt l).1.length + _ ≤ _
     omega
   ·exact ⟨by simp, (fun s h => by cases h), Nat.zero_le _⟩
def frOut {R : Type} (kke : Int → List ByteArray → Option R) (kkr : Int → Int → List ByteArray → Option R) (p : Nat) (out : List ByteArray) (r : List ByteArray × Nat × Int) : Option R :=
 if r.2.2 = 0 then kke ((p + r.2.1 : Nat) : Int) (out ++ r.1) else kkr ((p + r.2.1 : Nat) : Int) r.2.2 (out ++ r.1)
theorem frOut_step {R : Type} (kke : Int → List ByteArray → Option R) (kkr : Int → Int → List ByteArray → Option R) (p : Nat) (out : List ByteArray) (m : Nat) (l : List Int) (hl : l.length ≠ 0) (hc : (frAt l).2 = 0) :
  frOut kke kkr p out (frs (m + 1) l) = frOut kke kkr (p + (6 + (frAt l).1.length)) (out ++ [strL (frAt l).1]) (frs m (l.drop (6 + (frAt l).1.length))) := by
 unfold frOut
 rw [show frs (m + 1) l = (strL (frAt l).1 :: (frs m (l.drop (6 + (frAt l).1.length))).1, 6 + (frAt l).1.length + (frs m (l.drop (6 + (frAt l).1.length))).2.1, (frs m (l.drop (6 + (frAt l).1.length))).2.2) by rw [frs, if_neg hl, if_pos hc]]
 dsimp only
 rw [List.append_assoc, List.singleton_append, Nat.add_assoc p]
theorem frOut_stop {R : Type} (kke : Int → List ByteArray → Option R) (kkr : Int → Int → List ByteArray → Option R) (p : Nat) (out : List ByteArray) (m : Nat) (l : List Int) (hl : l.length ≠ 0) (hc : ¬ (frAt l).2 = 0) :
  frOut kke kkr p out (frs (m + 1) l) = kkr (p : Int) (frAt l).2 out := by
 unfold frOut
 rw [show frs (m + 1) l = ([], 0, (frAt l).2) by rw [frs, if_neg hl, if_neg hc]]
 dsimp only
 rw [if_neg hc, List.append_nil, Nat.add_zero]
theorem frOut_end {R : Type} (kke : Int → List ByteArray → Option R) (kkr : Int → Int → List ByteArray → Option R) (p : Nat) (out : List ByteArray) (m : Nat) (l : List Int) (hl : l.length = 0) :
  frOut kke kkr p out (frs m l) = kke (p : Int) out := by
 unfold frOut
 have : frs m l = ([], 0, 0) := by
  cases m with
  | zero => rfl
  | succ m => rw [frs, if_pos hl]
 rw [this]
 simp
theorem cut_drop (l : List Int) (p : Nat) (hp : p ≤ l.length) : cut (strL l) (p : Int) (l.length : Int) = strL (l.drop p) := by
 rw [cut_strL]
 unfold sub
 rw [Int.toNat_natCast, Int.toNat_natCast, List.take_length]
theorem frs_i {R : Type} (kke : Int → List ByteArray → Option R) (kkr : Int → Int → List ByteArray → Option R) (l : List Int) (hb : IsBytes l) (hl : l.length ≤ 1000000000) : ∀ (m fu p : Nat) (out : List ByteArray), l.length - p ≤ m → m < fu → p ≤ l.length → out.length + m ≤ 1000000000 →
  gq102.l1 kke kkr fu (strL l) (p : Int) out = frOut kke kkr p out (frs m (l.drop p))
 | m, 0, p, out, _, h, _, _ => by omega
 | 0, fu + 1, p, out, h1, h2, h3, h4 => by
  simp only [gq102.l1]
  rw [strL_size, decide_f (by omega), cf, frOut_end _ _ _ _ _ _ (by simp; omega)]
 | m + 1, fu + 1, p, out, h1, h2, h3, h4 => by
  simp only [gq102.l1]
  rw [strL_size]
  by_cases hp : p < l.length
  ·have hne : (l.drop p).length ≠ 0 := by simp; omega
   rw [decide_t (by omega), ct, grd_of (gSl_t (by omega) (by omega) (by omega)), cut_drop l p h3, frameAt_i _ (hb.drop p) (by simp; omega), bs]
   dsimp only
   by_cases hc : (frAt (l.drop p)).2 = 0
   ·have h5 := frAt_ok hc
    rw [List.length_drop] at h5
    rw [show ((frAt (l.drop p)).2 != 0) = false by rw [hc]; rfl, cf, grd_of (gRm_t (by simp; omega)), strL_size, wr (x := (p : Int) + 6) (by omega) (by omega), wr (by omega) (by omega),
     show ((p : Int) + 6 + ((frAt (l.drop p)).1.length : Int)) = ((p + (6 + (frAt (l.drop p)).1.length) : Nat) : Int) by omega, frs_i kke kkr l hb hl m fu _ _ (by omega) (by omega) (by omega) (by simp; omega), frOut_step _ _ _ _ _ _ hne hc, List.drop_drop]
   ·rw [show ((frAt (l.drop p)).2 != 0) = true by simp [hc], ct, frOut_stop _ _ _ _ _ _ hne hc]
  ·rw [decide_f (by omega), cf, frOut_end _ _ _ _ _ _ (by simp; omega)]
theorem frs_s {R : Type} (kke : Int → List ByteArray → Option R) (kkr : Int → Int → List ByteArray → Option R) (l : List Int) (hb : IsBytes l) (hl : l.length ≤ 1000000000) : ∀ (m fu p : Nat) (out : List ByteArray), l.length - p ≤ m → m < fu → p ≤ l.length → out.length + m ≤ 1000000000 →
  gq97.l1 kke kkr fu l (p : Int) out = frOut kke kkr p out (frs m (l.drop p))
 | m, 0, p, out, _, h, _, _ => by omega
 | 0, fu + 1, p, out, h1, h2, h3, h4 => by
  simp only [gq97.l1]
  rw [decide_f (by omega), cf, frOut_end _ _ _ _ _ _ (by simp; omega)]
 | m + 1, fu + 1, p, out, h1, h2, h3, h4 => by
  simp only [gq97.l1]
  by_cases hp : p < l.length
  ·have hne : (l.drop p).length ≠ 0 := by simp; omega
   have hld : (l.drop p).length = l.length - p := by simp
   rw [decide_t (by omega), ct, wr (x := (l.length : Int) - p) (by omega) (by omega)]
   by_cases h6 : l.length - p < 6
   ·have hf : frAt (l.drop p) = ([], 16) := by rw [frAt, if_pos (by omega)]
    rw [decide_t (by omega), ct, frOut_stop _ _ _ _ _ _ hne (by rw [hf]; decide), hf]
   ·rw [decide_f (by omega), cf, wr (x := (p : Int) + 1) (by omega) (by omega), grd_of (gIx_t (by omega) (by omega)), grd_of (gIx_t (by omega) (by omega)), Int.toNat_natCast, show ((p : Int) + 1).toNat = p + 1 by omega, rdE_at (k := .int .u8) (show p < List.length (α := Int) l by omega), rdE_at (k := .int .u8) (show p + 1 < List.length (α := Int) l by omega)]
    have b0 := hb.get (show p < l.length by omega)
    have b1 := hb.get (show p + 1 < l.length by omega)
    rw [wr (x := l[p]) (by omega) (by omega), wr (x := l[p + 1]) (by omega) (by omega), wr (x := l[p] * 256) (by omega) (by omega), wr (x := l[p] * 256 + l[p + 1]) (by omega) (by omega)]
    have hv : beN 0 ((l.drop p).take 2) = l[p] * 256 + l[p + 1] := by
     have e : l.drop p = l[p] :: l[p + 1] :: l.drop (p + 2) := by rw [drop_cons (show p < l.length by omega), drop_cons (show p + 1 < l.length by omega)]
     rw [e]
     show (0 * 256 + l[p]) * 256 + l[p + 1] = _
     omega
    obtain ⟨q, hq⟩ : ∃ q : Nat, l[p] * 256 + l[p + 1] = (q : Int) := ⟨(l[p] * 256 + l[p + 1]).toNat, by omega⟩
    rw [hq]
    rw [hq] at hv
    by_cases hr : 1 ≤ (q : Int) ∧ (q : Int) ≤ 200
    ·rw [show ((q : Int) == 0) = false by simp; omega, cf, decide_f (by omega), cf, wr (x := (l.length : Int) - p - 6) (by omega) (by omega)]
     by_cases hs : l.length - p < 6 + q
     ·have hf : frAt (l.drop p) = ([], 16) := by rw [frAt, if_neg (by omega), if_neg (by rw [hv]; exact fun h => h hr), if_pos (by rw [hv, Int.toNat_natCast]; omega)]
      rw [decide_t (by omega), ct, frOut_stop _ _ _ _ _ _ hne (by rw [hf]; decide), hf]
     ·rw [decide_f (by omega), cf, wr (x := (p : Int) + 6) (by omega) (by omega), wr (x := (p : Int) + 6 + q) (by omega) (by omega), grd_of (gSl_t (by omega) (by omega) (by omega)), show ((p : Int) + 6) = ((p + 6 : Nat) : Int) by omega, show (((p + 6 : Nat) : Int) + (q : Int)) = ((p + 6 + q : Nat) : Int) by omega,
       sub_drop_take, frame_s _ ((hb.drop _).take q) (by simp; omega), bs, grd_of (gSl_t (by omega) (by omega) (by omega)), show ((p + 6 + q : Nat) : Int) = ((p + (6 + q) : Nat) : Int) by omega, sub_drop_take, sEq_strL (frL_bytes ((hb.drop _).take q)) ((hb.drop p).take _)]
      have hdd : (l.drop p).drop 6 = l.drop (p + 6) := List.drop_drop ..
      by_cases hf : frL ((l.drop (p + 6)).take q) = (l.drop p).take (6 + q)
      ·have hf' : frAt (l.drop p) = ((l.drop (p + 6)).take q, 0) := by rw [frAt, if_neg (by omega), if_neg (by rw [hv]; exact fun h => h hr), if_neg (by rw [hv, Int.toNat_natCast]; omega), hv, Int.toNat_natCast, hdd, if_pos hf]
       have hln : ((l.drop (p + 6)).take q).length = q := by simp; omega
       rw [decide_t hf, Bool.not_true, cf, grd_of (gRm_t (by simp; omega)), wr (x := 6 + (q : Int)) (by omega) (by omega), wr (by omega) (by omega), show ((p : Int) + (6 + (q : Int))) = ((p + (6 + q) : Nat) : Int) by omega, frs_s kke kkr l hb hl m fu _ _ (by omega) (by omega) (by omega) (by simp; omega),
        frOut_step _ _ _ _ _ _ hne (by rw [hf']), hf', hln, List.drop_drop]
      ·have hf' : frAt (l.drop p) = ([], 8) := by rw [frAt, if_neg (by omega), if_neg (by rw [hv]; exact fun h => h hr), if_neg (by rw [hv, Int.toNat_natCast]; omega), hv, Int.toNat_natCast, hdd, if_neg hf]
       rw [decide_f hf, Bool.not_false, ct, frOut_stop _ _ _ _ _ _ hne (by rw [hf']; decide), hf']
    ·have hf : frAt (l.drop p) = ([], 8) := by rw [frAt, if_neg (by omega), if_pos (by rw [hv]; exact hr)]
     rw [frOut_stop _ _ _ _ _ _ hne (by rw [hf]; decide), hf]
     by_cases hz : q = 0
     ·subst hz
      rfl
     ·rw [show ((q : Int) == 0) = false by simp; omega, cf, decide_t (by omega), ct]
  ·rw [decide_f (by omega), cf, frOut_end _ _ _ _ _ _ (by simp; omega)]
def frT (l : List Int) : List ByteArray × Int × Int := ((frs l.length l).1, ((frs l.length l).2.1 : Int), (frs l.length l).2.2)
theorem frames_i (l : List Int) (hb : IsBytes l) (hl : l.length ≤ 1000000000) : gq102 (strL l) = some (frT l) := by
 unfold gq102 gq102.F
 have := frs_i (fun used out => some (out, used, (0 : Int))) (fun i i1 l => some (l, i, i1)) l hb hl l.length fuel 0 [] (by omega) (fuel_big (by omega)) (by omega) (by simp; omega)
 rw [Int.natCast_zero, List.drop_zero] at this
 rw [this, frOut, frT, Nat.zero_add, List.nil_append]
 split
 ·rename_i h; rw [h]
 ·rfl
theorem frames_s (l : List Int) (hb : IsBytes l) (hl : l.length ≤ 1000000000) : gq97 l = some (frT l) := by
 unfold gq97 gq97.F
 have := frs_s (fun used out => some (out, used, (0 : Int))) (fun i i1 l => some (l, i, i1)) l hb hl l.length fuel 0 [] (by omega) (fuel_big (by omega)) (by omega) (by simp; omega)
 rw [Int.natCast_zero, List.drop_zero] at this
 rw [this, frOut, frT, Nat.zero_add, List.nil_append]
 split
 ·rename_i h; rw [h]
 ·rfl
end Go.Proofs.YtaanadbpnmcbcaaGreatDoorA
namespace Go.Proofs.YtaanadbpnmcbcaaGreatDoorA
open Go
set_option linter.unusedVariables false
set_option linter.unusedSimpArgs false
theorem find_loop {k : Kd} {R : Type} {L : Nat → List (El k) → Int → Int → Option R} {f : El k → Option (Bool × Unit)} {kke : Option R} {kkr : Int → Option R}
  (hL : ∀ n s i j, L (n + 1) s i j = cond (decide (j < i)) (grd (gIx j (List.length s)) ((f (rdE k s (Int.toNat j))).bind fun r => cond r.1 (kkr j) (L n s i (IntKind.wrap .i64 (j + 1))))) kke)
  {q : El k → Bool} {l : List (El k)} (hl : l.length ≤ 9223372036854775806) (hf : ∀ x ∈ l, f x = some (q x, ())) :
  ∀ (m n j : Nat), j + m = l.length → m < n → L n l l.length j = match (l.drop j).findIdx? q with | none => kke | some d => kkr ((j + d : Nat) : Int)
 | 0, n + 1, j, e, _ => by
  rw [hL, decide_f (by omega : ¬ (j : Int) < l.length), cond_false, List.drop_of_length_le (by omega)]
  rfl
 | m + 1, n + 1, j, e, h => by
  have hj : j < l.length := by omega
  rw [hL, decide_t (by omega : (j : Int) < l.length), cond_true, grd_of (gIx_t (by omega) (by omega)), Int.toNat_natCast, rdE_at hj, hf _ (List.getElem_mem hj), Option.bind_some, drop_cons hj, List.findIdx?_cons]
  cases hq : q l[j] with
  | true => simp
  | false =>
   simp only [cond_false, Bool.false_eq_true, if_false]
   rw [wr (by omega) (by omega), show ((j : Int) + 1) = ((j + 1 : Nat) : Int) by omega, find_loop hL hl hf m n (j + 1) (by omega) (by omega)]
   cases (l.drop (j + 1)).findIdx? q with
   | none => rfl
   | some d => simp only [Option.map_some]; congr 1; omega
theorem findIdx_any {α : Type} (l : List α) (q : α → Bool) : (l.findIdx? q).isSome = l.any q := by
 induction l with
 | nil => rfl
 | cons x l ih =>
  rw [List.findIdx?_cons, List.any_cons]
  cases q x with
  | true => simp
  | false => simp [ih]
end Go.Proofs.YtaanadbpnmcbcaaGreatDoorA
namespace Go.Proofs.YtaanadbpnmcbcaaGreatDoorA
open Go
set_option linter.unusedVariables false
set_option linter.unusedSimpArgs false
end Go.Proofs.YtaanadbpnmcbcaaGreatDoorA
namespace Go.Proofs.YtaanadbpnmcbcaaGreatDoorA
open Go
set_option linter.unusedVariables false
set_option linter.unusedSimpArgs false
theorem beL4 (n : Int) : beL n 4 = [n / 16777216 % 256, n / 65536 % 256, n / 256 % 256, n % 256] := by
 show [n / 256 / 256 / 256 % 256, n / 256 / 256 % 256, n / 256 % 256, n % 256] = _
 rw [show n / 256 / 256 / 256 = n / 16777216 by omega, show n / 256 / 256 = n / 65536 by omega]
theorem number4 (x : Int) : gq137 x 4 = some (strL (beL x 4)) := number_eq x 4 (by omega)
theorem four_eq (n : Int) : gq133 n = some (beL n 4) := by
 unfold gq133 gq133.F
 rw [grd_of (gSh_t (by decide)), grd_of (gSh_t (by decide)), grd_of (gSh_t (by decide)), shr24, shr16, shr8, wr8m, wr8m, wr8m, wr8m, beL4]
theorem IsBytes.tail {a : Int} {l : List Int} (h : IsBytes (a :: l)) : IsBytes l := fun y hy => h y (List.mem_cons_of_mem _ hy)
end Go.Proofs.YtaanadbpnmcbcaaGreatDoorA
namespace Go.Proofs.YtaanadbpnmcbcaaGreatDoorA
open Go
set_option linter.unusedVariables false
set_option linter.unusedSimpArgs false
theorem and_f {p q : Prop} [Decidable p] [Decidable q] (h : ¬ (p ∧ q)) : (decide p && decide q) = false := by
 rw [← Bool.not_eq_true, Bool.and_eq_true, decide_eq_true_iff, decide_eq_true_iff]
 exact h
theorem and_t {p q : Prop} [Decidable p] [Decidable q] (h : p ∧ q) : (decide p && decide q) = true := by
 rw [Bool.and_eq_true, decide_eq_true_iff, decide_eq_true_iff]
 exact h
def letB (c : Int) : Bool := ((decide (97 ≤ c) && decide (c ≤ 122)) || (decide (65 ≤ c) && decide (c ≤ 90))) || c == 95
def digB (c : Int) : Bool := decide (48 ≤ c) && decide (c ≤ 57)
def okN : Bool → List Int → Bool
 | _, [] => true
 | true, c :: r => letB c && okN false r
 | false, c :: r => (letB c || digB c) && okN false r
def nameV (l : List Int) : Bool := (decide (1 ≤ l.length) && decide (l.length ≤ 40)) && okN true l
theorem name_j1 {R : Type} (kkn : ByteArray → Int → Int → Bool → Int → Int → Option R) (t : ByteArray) (i b i1 i2 : Int) : gq114.j1 kkn t i b i1 i2 = kkn t i b (letB b) i1 i2 := by
 unfold gq114.j1 letB
 by_cases h1 : (97 : Int) ≤ b <;> by_cases h2 : b ≤ 122 <;> by_cases h3 : (65 : Int) ≤ b <;> by_cases h4 : b ≤ 90 <;> simp [h1, h2, h3, h4]
theorem name_l2 {R : Type} (kke : ByteArray → Option R) (kkr : Bool → Option R) (l : List Int) (hb : IsBytes l) (hl : l.length ≤ 1000000000000000) : ∀ (m fu j : Nat), j + m = l.length → m < fu →
  gq114.l2 kke kkr fu (strL l) (l.length : Int) (j : Int) = if okN (decide (j = 0)) (l.drop j) = true then kke (strL l) else kkr false
 | 0, fu + 1, j, e, _ => by
  simp only [gq114.l2]
  rw [decide_f (by omega), cf, List.drop_of_length_le (by omega)]
  simp [okN]
 | m + 1, fu + 1, j, e, hf => by
  have hj : j < l.length := by omega
  simp only [gq114.l2]
  rw [decide_t (by omega), ct, grd_of (gIx_t (by omega) (by rw [strL_size]; omega)), byteAt_strL hb (by omega) (by omega), Int.toNat_natCast, List.getD_eq_getElem?_getD, List.getElem?_eq_getElem hj, Option.getD_some, name_j1, wr (by omega) (by omega), show ((j : Int) + 1) = ((j + 1 : Nat) : Int) by omega,
   name_l2 kke kkr l hb hl m fu (j + 1) (by omega) (by omega), drop_cons hj, decide_f (show ¬ j + 1 = 0 by omega)]
  have hle : ∀ x y : Int, decide (x < y) = !decide (y ≤ x) := fun x y => by
   by_cases h : x < y
   ·rw [decide_t h, decide_f (by omega)]; rfl
   ·rw [decide_f h, decide_t (by omega)]; rfl
  have hgt : ∀ x y : Int, decide (x > y) = !decide (x ≤ y) := fun x y => hle y x
  rw [hle, hgt]
  by_cases h0 : j = 0
  ·subst h0
   rw [decide_t rfl, okN]
   cases h1 : letB l[0] <;> cases h2 : okN false (l.drop (0 + 1)) <;> rfl
  ·rw [decide_f h0, okN, show ((j : Int) == 0) = false by simp; omega]
   unfold digB
   cases letB l[j] <;> cases okN false (l.drop (j + 1)) <;> cases decide (48 ≤ l[j]) <;> cases decide (l[j] ≤ 57) <;> rfl
theorem name_i (l : List Int) (hb : IsBytes l) (hl : l.length ≤ 1000000000000000) : gq114 (strL l) = some (nameV l) := by
 unfold gq114 gq114.F
 have := name_l2 (fun t_1 => (gq67 (ByteArray.size t_1 : Int) (1 : Int) (40 : Int)).bind fun r => some r) (fun b => some b) l hb hl l.length fuel 0 (by omega) (fuel_big (by omega))
 rw [Int.natCast_zero, List.drop_zero, decide_t rfl] at this
 rw [strL_size, this, nameV]
 cases okN true l with
 | false => simp
 | true =>
  rw [if_pos rfl, within_eq, bs, strL_size, Bool.and_true]
  congr 2
  ·rw [decide_eq_decide]; omega
  ·rw [decide_eq_decide]; omega
theorem letter_s (c : Int) : gq177 c = some (letB c) := by
 unfold gq177 gq177.F letB
 by_cases h1 : (97 : Int) ≤ c <;> by_cases h2 : c ≤ 122 <;> by_cases h3 : (65 : Int) ≤ c <;> by_cases h4 : c ≤ 90 <;> simp [h1, h2, h3, h4]
theorem digit_s (c : Int) : gq158 c = some (digB c) := by
 unfold gq158 gq158.F digB
 by_cases h1 : (48 : Int) ≤ c <;> simp [h1]
theorem word_l1 {R : Type} (kke : Option R) (kkr : Bool → Option R) (l : List Int) (hb : IsBytes l) (hl : l.length ≤ 1000000000000000) : ∀ (m fu j : Nat), j + m = l.length → m < fu →
  gq156.l1 kke kkr fu (strL l) (j : Int) = if okN false (l.drop j) = true then kke else kkr false
 | 0, fu + 1, j, e, _ => by
  simp only [gq156.l1]
  rw [strL_size, decide_f (by omega), cf, List.drop_of_length_le (by omega)]
  simp [okN]
 | m + 1, fu + 1, j, e, hf => by
  have hj : j < l.length := by omega
  simp only [gq156.l1]
  rw [strL_size, decide_t (by omega), ct, grd_of (gIx_t (by omega) (by omega)), byteAt_strL hb (by omega) (by omega), Int.toNat_natCast, List.getD_eq_getElem?_getD, List.getElem?_eq_getElem hj, Option.getD_some, letter_s, bs, wr (by omega) (by omega), show ((j : Int) + 1) = ((j + 1 : Nat) : Int) by omega,
   word_l1 kke kkr l hb hl m fu (j + 1) (by omega) (by omega), drop_cons hj, grd_of (gIx_t (by omega) (by omega)), digit_s, bs, okN]
  cases letB l[j] <;> cases digB l[j] <;> cases okN false (l.drop (j + 1)) <;> rfl
theorem name_s (l : List Int) (hb : IsBytes l) (hl : l.length ≤ 1000000000000000) : gq120 (strL l) = some (nameV l) := by
 unfold gq120 gq120.F gq156 gq156.F nameV
 rw [strL_size]
 by_cases h0 : l.length < 1
 ·rw [decide_t (by omega), ct, decide_f (show ¬ 1 ≤ l.length by omega)]
  rfl
 ·rw [decide_f (by omega), cf, decide_t (show 1 ≤ l.length by omega)]
  by_cases h1 : l.length > 40
  ·rw [decide_t (by omega), ct, decide_f (show ¬ l.length ≤ 40 by omega)]
   rfl
  ·have hj : 0 < l.length := by omega
   rw [decide_f (by omega), cf, decide_t (show l.length ≤ 40 by omega), grd_of (gIx_t (by omega) (by omega)), byteAt_strL hb (by omega) (by omega), show (0 : Int).toNat = 0 from rfl, List.getD_eq_getElem?_getD, List.getElem?_eq_getElem hj, Option.getD_some, letter_s, bs,
    show (1 : Int) = ((1 : Nat) : Int) from rfl, word_l1 _ _ l hb hl (l.length - 1) fuel 1 (by omega) (fuel_big (by omega))]
   obtain ⟨c, r, rfl⟩ : ∃ c r, l = c :: r := by
    cases l with
    | nil => simp at hj
    | cons c r => exact ⟨c, r, rfl⟩
   simp only [List.getElem_cons_zero, List.drop_succ_cons, List.drop_zero, okN]
   cases letB c <;> cases okN false r <;> rfl
def nameB (s : ByteArray) : Bool := nameV (bytesL s)
theorem nameB_i (s : ByteArray) (h : s.size ≤ 1000000000000000) : gq114 s = some (nameB s) := by
 have := name_i (bytesL s) (IsBytes.bytesL s) (by rw [bytesL_length]; exact h)
 rwa [strL_bytesL] at this
theorem nameB_s (s : ByteArray) (h : s.size ≤ 1000000000000000) : gq120 s = some (nameB s) := by
 have := name_s (bytesL s) (IsBytes.bytesL s) (by rw [bytesL_length]; exact h)
 rwa [strL_bytesL] at this
theorem nameB_size {s : ByteArray} (h : nameB s = true) : 1 ≤ s.size ∧ s.size ≤ 40 := by
 unfold nameB nameV at h
 rw [Bool.and_eq_true, Bool.and_eq_true, decide_eq_true_iff, decide_eq_true_iff, bytesL_length] at h
 exact h.1
theorem less_irrefl : ∀ (l : List UInt8), Op.bytesLess l l = false
 | [] => rfl
 | a :: l => by
  simp only [Op.bytesLess, less_irrefl l, Bool.and_false, Bool.or_false]
  rw [decide_eq_false_iff_not]
  exact Nat.lt_irrefl _
theorem less_trans : ∀ {a b c : List UInt8}, Op.bytesLess a b = true → Op.bytesLess b c = true → Op.bytesLess a c = true
 | _, [], _, h, _ => by cases ‹List UInt8› <;> simp [Op.bytesLess] at h
 | _, _ :: _, [], _, k => by simp [Op.bytesLess] at k
 | [], _ :: _, _ :: _, _, _ => rfl
 | x :: a, y :: b, z :: c, h, k => by
  simp only [Op.bytesLess, Bool.or_eq_true, Bool.and_eq_true, decide_eq_true_iff, beq_iff_eq] at h k ⊢
  rcases h with h | ⟨rfl, h⟩ <;> rcases k with k | ⟨rfl, k⟩
  ·exact .inl (Nat.lt_trans h k)
  ·exact .inl h
  ·exact .inl k
  ·exact .inr ⟨rfl, less_trans h k⟩
theorem sLt_irrefl (a : ByteArray) : sLt a a = false := less_irrefl _
theorem sLt_trans {a b c : ByteArray} (h : sLt a b = true) (k : sLt b c = true) : sLt a c = true := less_trans h k
theorem sLt_ne {a b : ByteArray} (h : sLt a b = true) : a ≠ b := by
 rintro rfl
 rw [sLt_irrefl] at h
 cases h
def totF : List (El kFile) → Nat
 | [] => 0
 | f :: r => ByteArray.size f.2.1 + totF r
theorem totF_mem : ∀ {l : List (El kFile)} {f : El kFile}, f ∈ l → ByteArray.size f.2.1 ≤ totF l
 | f :: r, g, h => by
  simp only [totF]
  rcases List.mem_cons.1 h with rfl | h
  ·omega
  ·have := totF_mem h; omega
theorem used_i {R : Type} (kke : Int → Option R) (l : List (El kFile)) (hl : l.length ≤ 1000000000) (ht : totF l ≤ 1000000000000000000) : ∀ (m fu j acc : Nat), j + m = l.length → m < fu → acc + totF (l.drop j) ≤ 1000000000000000000 →
  gq113.l1 kke fu (acc : Int) l (l.length : Int) (j : Int) = kke ((acc + totF (l.drop j) : Nat) : Int)
 | 0, fu + 1, j, acc, e, _, _ => by
  simp only [gq113.l1]
  rw [decide_f (by omega), cf, List.drop_of_length_le (by omega)]
  rfl
 | m + 1, fu + 1, j, acc, e, hf, ha => by
  have hj : j < l.length := by omega
  rw [drop_cons hj] at ha ⊢
  simp only [totF] at ha
  simp only [gq113.l1, totF]
  rw [decide_t (by omega), ct, grd_of (gIx_t (by omega) (by omega)), Int.toNat_natCast, rdE_at (k := kFile) hj, wr (x := (acc : Int) + _) (by omega) (by omega), wr (by omega) (by omega), show ((j : Int) + 1) = ((j + 1 : Nat) : Int) by omega,
   show ((acc : Int) + (ByteArray.size l[j].2.1 : Int)) = ((acc + ByteArray.size l[j].2.1 : Nat) : Int) by omega, used_i kke l hl ht m fu (j + 1) _ (by omega) (by omega) (by omega), Nat.add_assoc]
theorem used_s {R : Type} (kke : Int → Option R) (room : Int) (l : List (El kFile)) (hl : l.length ≤ 1000000000) (ht : totF l ≤ 1000000000000000000) : ∀ (m fu j acc : Nat), j + m = l.length → m < fu → acc + totF (l.drop j) ≤ 1000000000000000000 →
  gq121.l1 kke fu (acc : Int) (j : Int) room l = kke ((acc + totF (l.drop j) : Nat) : Int)
 | 0, fu + 1, j, acc, e, _, _ => by
  simp only [gq121.l1]
  rw [decide_f (by omega), cf, List.drop_of_length_le (by omega)]
  rfl
 | m + 1, fu + 1, j, acc, e, hf, ha => by
  have hj : j < l.length := by omega
  rw [drop_cons hj] at ha ⊢
  simp only [totF] at ha
  simp only [gq121.l1, totF]
  rw [decide_t (by omega), ct, grd_of (gIx_t (by omega) (by omega)), Int.toNat_natCast, rdE_at (k := kFile) hj, wr (x := (acc : Int) + _) (by omega) (by omega), wr (by omega) (by omega), show ((j : Int) + 1) = ((j + 1 : Nat) : Int) by omega,
   show ((acc : Int) + (ByteArray.size l[j].2.1 : Int)) = ((acc + ByteArray.size l[j].2.1 : Nat) : Int) by omega, used_s kke room l hl ht m fu (j + 1) _ (by omega) (by omega) (by omega), Nat.add_assoc]
theorem usedV_i (room : Int) (l : List (El kFile)) (hl : l.length ≤ 1000000000) (ht : totF l ≤ 1000000000000000000) : gq113 room l = some (totF l : Int) := by
 unfold gq113 gq113.F
 have := used_i (fun sum => some sum) l hl ht l.length fuel 0 0 (by omega) (fuel_big (by omega)) (by simp; exact ht)
 rw [Int.natCast_zero, List.drop_zero, Nat.zero_add] at this
 exact this
theorem usedV_s (room : Int) (l : List (El kFile)) (hl : l.length ≤ 1000000000) (ht : totF l ≤ 1000000000000000000) : gq121 room l = some (totF l : Int) := by
 unfold gq121 gq121.F
 have := used_s (fun sum => some sum) room l hl ht l.length fuel 0 0 (by omega) (fuel_big (by omega)) (by simp; exact ht)
 rw [Int.natCast_zero, List.drop_zero, Nat.zero_add] at this
 exact this
def fOK (l : List (El kFile)) (i : Nat) : Bool := nameB (rdE kFile l i).1 && ((decide (i = 0) || sLt (rdE kFile l (i - 1)).1 (rdE kFile l i).1) && (decide ((0 : Int) ≤ (rdE kFile l i).2.2) && decide ((rdE kFile l i).2.2 ≤ (ByteArray.size (rdE kFile l i).2.1 : Int))))
def fAllOK (l : List (El kFile)) : Nat → Nat → Bool
 | 0, _ => true
 | m + 1, j => fOK l j && fAllOK l m (j + 1)
def NamesFit (l : List (El kFile)) : Prop := ∀ f ∈ l, ByteArray.size f.1 ≤ 1000000000000000
theorem NamesFit.rd {l : List (El kFile)} (h : NamesFit l) {j : Nat} (hj : j < l.length) : ByteArray.size (rdE kFile l j).1 ≤ 1000000000000000 := by
 rw [rdE_at (k := kFile) hj]
 exact h _ (List.getElem_mem hj)
theorem files_i {R : Type} (kke : Option R) (kkr : Bool → Option R) (room : Int) (l : List (El kFile)) (hl : l.length ≤ 1000000000) (hn : NamesFit l) : ∀ (m fu j : Nat), j + m = l.length → m < fu →
  gq65.l1 kke kkr fu l (l.length : Int) (j : Int) room l = cond (fAllOK l m j) kke (kkr false)
 | 0, fu + 1, j, e, _ => by
  simp only [gq65.l1]
  rw [decide_f (by omega), cf]
  rfl
 | m + 1, fu + 1, j, e, hf => by
  have hj : j < l.length := by omega
  simp only [gq65.l1, fAllOK, fOK]
  rw [decide_t (by omega), ct, grd_of (gIx_t (by omega) (by omega)), Int.toNat_natCast, nameB_i _ (hn.rd hj), bs, within_eq, bs, wr (x := (j : Int) + 1) (by omega) (by omega), show ((j : Int) + 1) = ((j + 1 : Nat) : Int) by omega, files_i kke kkr room l hl hn m fu (j + 1) (by omega) (by omega)]
  by_cases h0 : j = 0
  ·subst h0
   rw [decide_f (by omega), cf, decide_t rfl, Bool.true_or]
   cases nameB (rdE kFile l 0).1 <;> cases (decide ((0 : Int) ≤ (rdE kFile l 0).2.2) && decide ((rdE kFile l 0).2.2 ≤ (ByteArray.size (rdE kFile l 0).2.1 : Int))) <;> cases fAllOK l m (0 + 1) <;> rfl
  ·rw [decide_t (show (j : Int) > 0 by omega), ct, decide_f h0, Bool.false_or, wr (x := (j : Int) - 1) (by omega) (by omega), grd_of (gIx_t (by omega) (by omega)), show ((j : Int) - 1).toNat = j - 1 by omega]
   cases nameB (rdE kFile l j).1 <;> cases sLt (rdE kFile l (j - 1)).1 (rdE kFile l j).1 <;> cases (decide ((0 : Int) ≤ (rdE kFile l j).2.2) && decide ((rdE kFile l j).2.2 ≤ (ByteArray.size (rdE kFile l j).2.1 : Int))) <;> cases fAllOK l m (j + 1) <;> rfl
def smallF (l : List (El kFile)) : Nat → Nat → Bool
 | 0, _ => true
 | m + 1, j => decide (ByteArray.size (rdE kFile l j).2.1 ≤ 3000) && smallF l m (j + 1)
theorem files_s {R : Type} (kke : Int → List (El kFile) → Option R) (kkr : Bool → Option R) (room : Int) (l : List (El kFile)) (hl : l.length ≤ 1000000000) (hn : NamesFit l) : ∀ (m fu j : Nat), j + m = l.length → m < fu →
  gq73.l1 kke kkr fu (j : Int) room l = cond (fAllOK l m j && smallF l m j) (kke room l) (kkr false)
 | 0, fu + 1, j, e, _ => by
  simp only [gq73.l1]
  rw [decide_f (by omega), cf]
  rfl
 | m + 1, fu + 1, j, e, hf => by
  have hj : j < l.length := by omega
  simp only [gq73.l1, fAllOK, fOK, smallF]
  rw [decide_t (by omega), ct, grd_of (gIx_t (by omega) (by omega)), Int.toNat_natCast, nameB_s _ (hn.rd hj), bs, l01In_eq, bs, wr (x := (j : Int) + 1) (by omega) (by omega), show ((j : Int) + 1) = ((j + 1 : Nat) : Int) by omega, files_s kke kkr room l hl hn m fu (j + 1) (by omega) (by omega)]
  rw [show decide ((ByteArray.size (rdE kFile l j).2.1 : Int) > 3000) = !decide (ByteArray.size (rdE kFile l j).2.1 ≤ 3000) by
   rw [Bool.eq_iff_iff, Bool.not_eq_true', decide_eq_true_iff, decide_eq_false_iff_not]; omega]
  by_cases h0 : j = 0
  ·subst h0
   rw [decide_f (show ¬ ((0 : Nat) : Int) > 0 by omega), cf, decide_t rfl, Bool.true_or]
   cases nameB (rdE kFile l 0).1 <;> cases (decide ((0 : Int) ≤ (rdE kFile l 0).2.2) && decide ((rdE kFile l 0).2.2 ≤ (ByteArray.size (rdE kFile l 0).2.1 : Int))) <;> cases fAllOK l m (0 + 1) <;> cases decide (ByteArray.size (rdE kFile l 0).2.1 ≤ 3000) <;> cases smallF l m (0 + 1) <;> rfl
  ·rw [decide_t (show (j : Int) > 0 by omega), ct, decide_f h0, Bool.false_or, wr (x := (j : Int) - 1) (by omega) (by omega), grd_of (gIx_t (by omega) (by omega)), show ((j : Int) - 1).toNat = j - 1 by omega]
   cases nameB (rdE kFile l j).1 <;> cases sLt (rdE kFile l (j - 1)).1 (rdE kFile l j).1 <;> cases (decide ((0 : Int) ≤ (rdE kFile l j).2.2) && decide ((rdE kFile l j).2.2 ≤ (ByteArray.size (rdE kFile l j).2.1 : Int))) <;> cases fAllOK l m (j + 1) <;> cases decide (ByteArray.size (rdE kFile l j).2.1 ≤ 3000) <;> cases smallF l m (j + 1) <;> rfl
theorem smallF_of (l : List (El kFile)) (h : ∀ f ∈ l, ByteArray.size f.2.1 ≤ 3000) : ∀ (m j : Nat), j + m ≤ l.length → smallF l m j = true
 | 0, _, _ => rfl
 | m + 1, j, e => by
  have hj : j < l.length := by omega
  simp only [smallF]
  rw [smallF_of l h m (j + 1) (by omega), Bool.and_true, rdE_at (k := kFile) hj]
  exact decide_t (h _ (List.getElem_mem hj))
def dOK (room : Int) (l : List (El kFile)) : Bool := (decide (0 ≤ room) && decide (room ≤ 3000)) && (decide (l.length ≤ 8) && (decide ((totF l : Int) ≤ room) && fAllOK l l.length 0))
def DFit (l : List (El kFile)) : Prop := NamesFit l ∧ ∀ f ∈ l, ByteArray.size f.2.1 ≤ 1000000000000000
theorem totF_fit : ∀ {l : List (El kFile)}, (∀ f ∈ l, ByteArray.size f.2.1 ≤ 1000000000000000) → totF l ≤ l.length * 1000000000000000
 | [], _ => Nat.le_refl _
 | f :: r, h => by
  have h1 := h f (by simp)
  have h2 := totF_fit (l := r) fun g hg => h g (by simp [hg])
  simp only [totF, List.length_cons]
  omega
theorem disk_i (room : Int) (l : List (El kFile)) (hl : l.length ≤ 1000000000) (h : DFit l) : gq65 room l = some (dOK room l) := by
 unfold gq65 gq65.F dOK
 rw [within_eq, bs]
 by_cases h0 : 0 ≤ room ∧ room ≤ 3000
 ·rw [and_t h0, Bool.not_true, cf, Bool.true_and]
  by_cases h1 : l.length ≤ 8
  ·have ht := totF_fit h.2
   rw [decide_f (by omega), cf, decide_t h1, Bool.true_and, usedV_i room l hl (by omega), bs]
   by_cases h2 : (totF l : Int) ≤ room
   ·rw [decide_f (by omega), cf, decide_t h2, Bool.true_and]
    have := files_i (some true) (fun b => some b) room l hl h.1 l.length fuel 0 (by omega) (fuel_big (by omega))
    rw [Int.natCast_zero] at this
    rw [this]
    cases fAllOK l l.length 0 <;> rfl
   ·rw [decide_t (by omega), ct, decide_f h2, Bool.false_and]
  ·rw [decide_t (by omega), ct, decide_f h1, Bool.false_and]
 ·rw [and_f h0, Bool.not_false, ct, Bool.false_and]
theorem disk_s (room : Int) (l : List (El kFile)) (hl : l.length ≤ 1000000000) (h : DFit l) : gq73 room l = some (dOK room l) := by
 unfold gq73 gq73.F dOK
 rw [l01In_eq, bs]
 by_cases h0 : 0 ≤ room ∧ room ≤ 3000
 ·rw [and_t h0, Bool.not_true, cf, Bool.true_and]
  by_cases h1 : l.length ≤ 8
  ·have ht := totF_fit h.2
   have := files_s (fun d d1 => (gq121 d d1).bind fun r1 => some (decide (r1 ≤ d))) (fun b => some b) room l hl h.1 l.length fuel 0 (by omega) (fuel_big (by omega))
   rw [Int.natCast_zero] at this
   rw [decide_f (by omega), cf, decide_t h1, Bool.true_and, this, usedV_s room l hl (by omega), bs]
   by_cases h2 : (totF l : Int) ≤ room
   ·rw [decide_t h2, Bool.true_and, smallF_of l (fun f hf => by have := totF_mem hf; omega) _ _ (by omega), Bool.and_true]
    cases fAllOK l l.length 0 <;> rfl
   ·rw [decide_f h2, Bool.false_and]
    cases (fAllOK l l.length 0 && smallF l l.length 0) <;> rfl
  ·rw [decide_t (by omega), ct, decide_f h1, Bool.false_and]
 ·rw [and_f h0, Bool.not_false, ct, Bool.false_and]
theorem fAllOK_at (l : List (El kFile)) : ∀ (m j : Nat), fAllOK l m j = true → ∀ i, j ≤ i → i < j + m → fOK l i = true
 | 0, j, _, i, h1, h2 => by omega
 | m + 1, j, h, i, h1, h2 => by
  simp only [fAllOK, Bool.and_eq_true] at h
  by_cases e : i = j
  ·subst e; exact h.1
  ·exact fAllOK_at l m (j + 1) h.2 i (by omega) (by omega)
structure DK (room : Int) (l : List (El kFile)) : Prop where
 rm : 0 ≤ room ∧ room ≤ 3000
 len : l.length ≤ 8
 tot : (totF l : Int) ≤ room
 name : ∀ i (h : i < l.length), nameB l[i].1 = true
 rise : ∀ i (h : i + 1 < l.length), sLt (l[i]'(by omega)).1 l[i + 1].1 = true
 sure : ∀ i (h : i < l.length), (0 : Int) ≤ l[i].2.2 ∧ (l[i].2.2 : Int) ≤ (ByteArray.size l[i].2.1 : Int)
theorem dOK_DK {room : Int} {l : List (El kFile)} (h : dOK room l = true) : DK room l := by
 unfold dOK at h
 rw [Bool.and_eq_true, Bool.and_eq_true, Bool.and_eq_true, Bool.and_eq_true, decide_eq_true_iff, decide_eq_true_iff, decide_eq_true_iff, decide_eq_true_iff] at h
 obtain ⟨h0, h1, h2, h3⟩ := h
 have at_ : ∀ i (hi : i < l.length), fOK l i = true := fun i hi => fAllOK_at l _ 0 h3 i (by omega) (by omega)
 refine ⟨h0, h1, h2, fun i hi => ?_, fun i hi => ?_, fun i hi => ?_⟩
 ·have := at_ i hi
  unfold fOK at this
  rw [Bool.and_eq_true, rdE_at (k := kFile) hi] at this
  exact this.1
 ·have := at_ (i + 1) hi
  unfold fOK at this
  rw [Bool.and_eq_true, Bool.and_eq_true, decide_f (show ¬ i + 1 = 0 by omega), Bool.false_or, Nat.add_sub_cancel, rdE_at (k := kFile) hi, rdE_at (k := kFile) (show i < l.length by omega)] at this
  exact this.2.1
 ·have := at_ i hi
  unfold fOK at this
  rw [Bool.and_eq_true, Bool.and_eq_true, Bool.and_eq_true, decide_eq_true_iff, decide_eq_true_iff, rdE_at (k := kFile) hi] at this
  exact this.2.2
theorem DK.lt {room : Int} {l : List (El kFile)} (h : DK room l) : ∀ (d i : Nat) (hi : i + d + 1 < l.length), sLt (l[i]'(by omega)).1 (l[i + d + 1]'hi).1 = true
 | 0, i, hi => h.rise i hi
 | d + 1, i, hi => sLt_trans (DK.lt h d i (by omega)) (h.rise (i + d + 1) (by omega))
theorem DK.inj {room : Int} {l : List (El kFile)} (h : DK room l) {i j : Nat} (hi : i < l.length) (hj : j < l.length) (e : l[i].1 = l[j].1) : i = j := by
 rcases Nat.lt_trichotomy i j with hlt | he | hlt
 ·obtain ⟨d, rfl⟩ : ∃ d, j = i + d + 1 := ⟨j - i - 1, by omega⟩
  exact absurd e (sLt_ne (h.lt d i hj))
 ·exact he
 ·obtain ⟨d, rfl⟩ : ∃ d, i = j + d + 1 := ⟨i - j - 1, by omega⟩
  exact absurd e.symm (sLt_ne (h.lt d j hi))
theorem DK.data {room : Int} {l : List (El kFile)} (h : DK room l) {f : El kFile} (hf : f ∈ l) : ByteArray.size f.2.1 ≤ 3000 := by
 have := totF_mem hf
 have := h.tot
 have := h.rm
 omega
end Go.Proofs.YtaanadbpnmcbcaaGreatDoorA
namespace Go.Proofs.YtaanadbpnmcbcaaGreatDoorA
open Go
set_option linter.unusedVariables false
set_option linter.unusedSimpArgs false
end Go.Proofs.YtaanadbpnmcbcaaGreatDoorA
namespace Go.Proofs.YtaanadbpnmcbcaaGreatDoorA
open Go
set_option linter.unusedVariables false
set_option linter.unusedSimpArgs false
structure SrcOK (c : List Int) (a s : Int) (N : Int) : Prop where
 hb : IsBytes c
 hl : c.length ≤ 2097152
 a0 : 0 ≤ a
 aN : a ≤ N
 NN : N ≤ 4611686018427387904
 s0 : 0 ≤ s
 s1 : s < 2147483648
theorem SrcOK.mono {c : List Int} {a s N M : Int} (h : SrcOK c a s N) (h1 : N ≤ M) (h2 : M ≤ 4611686018427387904) : SrcOK c a s M := ⟨h.hb, h.hl, h.a0, by have := h.aN; omega, h2, h.s0, h.s1⟩
theorem byte_eq {c : List Int} {a s N : Int} (h : SrcOK c a s N) (hN : N + 1 ≤ 4611686018427387904) : ∃ v a' s', gq161 c a s = some (v, c, a', s') ∧ (0 ≤ v ∧ v < 256) ∧ SrcOK c a' s' (N + 1) := by
 obtain ⟨hb, hl, a0, aN, _, s0, s1⟩ := h
 unfold gq161 gq161.F
 rw [wr (x := a + 1) (by omega) (by omega), wr (x := a + 1 - 1) (by omega) (by omega)]
 by_cases h1 : a + 1 ≤ c.length
 ·have hlt : a.toNat < c.length := by omega
  have hg := hb.get hlt
  have e : rdE (.int .u8) c (a + 1 - 1).toNat = c[a.toNat] := by
   rw [show (a + 1 - 1) = a by omega]; exact rdE_at (k := .int .u8) hlt
  rw [decide_t h1, cond_true, grd_of (gIx_t (by omega) (by omega)), grd_of (gNz_t (by decide)), grd_of (gIx_t (by omega) (by omega)), e]
  rw [wr (x := c[a.toNat]) (by omega) (by omega), wr (x := s * 31) (by omega) (by omega), wr (x := s * 31 + c[a.toNat]) (by omega) (by omega), wr (x := s * 31 + c[a.toNat] + 7) (by omega) (by omega), tmod_pos (by omega)]
  exact ⟨_, _, _, rfl, hg, hb, hl, by omega, by omega, by omega, by omega, by omega⟩
 ·rw [decide_f h1, cond_false]
  by_cases h2 : a + 1 > 3000
  ·rw [decide_t h2, cond_true]
   exact ⟨_, _, _, rfl, by decide, hb, hl, by omega, by omega, by omega, s0, s1⟩
  ·rw [decide_f h2, cond_false, grd_of (gNz_t (by decide)), grd_of (gNz_t (by decide)), grd_of (gNz_t (by decide))]
   rw [wr (x := s * 1103515245) (by omega) (by omega), wr (x := s * 1103515245 + 12345) (by omega) (by omega), tmod_pos (x := s * 1103515245 + 12345) (by omega), tdiv_pos (by omega), wr (x := (s * 1103515245 + 12345) % 2147483648 / 65536) (by omega) (by omega), tmod_pos (by omega)]
   exact ⟨_, _, _, rfl, by omega, hb, hl, by omega, by omega, by omega, by omega, by omega⟩
theorem next_eq {c : List Int} {a s N : Int} (h : SrcOK c a s N) (hN : N + 3 ≤ 4611686018427387904) (n : Int) (h1 : 1 < n) (h2 : n ≤ 16777216) : ∃ v a' s', gq140 c a s n = some (v, c, a', s') ∧ (0 ≤ v ∧ v < n) ∧ SrcOK c a' s' (N + 3) := by
 unfold gq140 gq140.F
 rw [decide_f (by omega : ¬ n ≤ 1), cond_false]
 obtain ⟨v, a1, s1, e1, hv, h3⟩ := byte_eq h (by omega)
 by_cases h4 : n ≤ 256
 ·rw [decide_t h4, cond_true, e1, Option.bind_some, grd_of (gNz_t (by omega)), tmod_pos hv.1]
  exact ⟨_, _, _, rfl, ⟨Int.emod_nonneg _ (by omega), Int.emod_lt_of_pos _ (by omega)⟩, h3.mono (by omega) (by omega)⟩
 ·obtain ⟨v2, a2, s2, e2, hv2, h5⟩ := byte_eq h3 (by omega)
  obtain ⟨v3, a3, s3, e3, hv3, h6⟩ := byte_eq h5 (by omega)
  rw [decide_f h4, cond_false, e1, Option.bind_some]
  dsimp only
  rw [e2, Option.bind_some]
  dsimp only
  rw [e3, Option.bind_some]
  dsimp only
  rw [grd_of (gNz_t (by omega)), wr (x := v * 65536) (by omega) (by omega), wr (x := v2 * 256) (by omega) (by omega), wr (x := v * 65536 + v2 * 256) (by omega) (by omega), wr (x := v * 65536 + v2 * 256 + v3) (by omega) (by omega), tmod_pos (by omega)]
  exact ⟨_, _, _, rfl, ⟨Int.emod_nonneg _ (by omega), Int.emod_lt_of_pos _ (by omega)⟩, h6.mono (by omega) (by omega)⟩
theorem source_eq2 (c : List Int) (hb : IsBytes c) (hl : c.length ≤ 2097152) : ∃ s, gq63 c = some (c, 0, s) ∧ SrcOK c 0 s 0 := by
 unfold gq63 gq63.F
 rw [grd_of (gNz_t (by decide)), tmod_pos (by omega)]
 exact ⟨_, rfl, hb, hl, by omega, by omega, by decide, by omega, by omega⟩
theorem pick_eq {c : List Int} {a s N : Int} (h : SrcOK c a s N) (hN : N + 3 ≤ 4611686018427387904) (l : List ByteArray) (h0 : 1 < l.length) (h1 : l.length ≤ 1000) : ∃ v a' s', gq112 c a s l = some (v, c, a', s') ∧ v ∈ l ∧ SrcOK c a' s' (N + 3) := by
 unfold gq112 gq112.F
 rw [show ((l.length : Int) == 0) = false from beq_eq_false_iff_ne.2 (by omega), cond_false]
 obtain ⟨v, a', s', e, hv, h2⟩ := next_eq h hN l.length (by omega) (by omega)
 rw [e, Option.bind_some]
 dsimp only
 rw [grd_of (gIx_t hv.1 hv.2), rdE_at (k := .str) (by omega)]
 exact ⟨_, _, _, rfl, List.getElem_mem _, h2⟩
end Go.Proofs.YtaanadbpnmcbcaaGreatDoorA
namespace Go.Proofs.YtaanadbpnmcbcaaGreatDoorA
open Go
set_option linter.unusedVariables false
set_option linter.unusedSimpArgs false
end Go.Proofs.YtaanadbpnmcbcaaGreatDoorA
namespace Go.Proofs.YtaanadbpnmcbcaaGreatDoorA
open Go
set_option linter.unusedVariables false
set_option linter.unusedSimpArgs false
end Go.Proofs.YtaanadbpnmcbcaaGreatDoorA
namespace Go.Proofs.YtaanadbpnmcbcaaGreatDoorA
open Go
set_option linter.unusedVariables false
set_option linter.unusedSimpArgs false
theorem numberOf_total (s : ByteArray) (h : s.size ≤ 1000000000000) : ∃ n, gq103 s = some n := by
 unfold gq103 gq103.F
 have key : ∀ (m n i : Nat) (a : Int), i + m = s.size → m < n → ∃ r, gq103.l1 (fun n_ => some n_) n s a s.size i = some r := by
  intro m
  induction m with
  | zero =>
   intro n i a e hn
   obtain ⟨n, rfl⟩ : ∃ q, n = q + 1 := ⟨n - 1, by omega⟩
   simp only [gq103.l1]
   rw [decide_f (by omega), cf]
   exact ⟨_, rfl⟩
  | succ m ih =>
   intro n i a e hn
   obtain ⟨n, rfl⟩ : ∃ q, n = q + 1 := ⟨n - 1, by omega⟩
   simp only [gq103.l1]
   rw [decide_t (by omega), ct, grd_of (gSh_t (by decide)), grd_of (gIx_t (by omega) (by omega)), wr (x := (i : Int) + 1) (by omega) (by omega), show ((i : Int) + 1) = ((i + 1 : Nat) : Int) by omega]
   exact ih n (i + 1) _ (by omega) (by omega)
 exact key s.size fuel 0 0 (by omega) (fuel_big (by omega))
end Go.Proofs.YtaanadbpnmcbcaaGreatDoorA
namespace Go.Proofs.YtaanadbpnmcbcaaGreatDoorA
open Go
set_option linter.unusedVariables false
set_option linter.unusedSimpArgs false
def segV : List Int → Int
 | [a, b, c] => cond (a == 115 && (digB b && digB c)) ((b - 48) * 10 + (c - 48)) 0
 | _ => 0
def segB (s : ByteArray) : Int := segV (bytesL s)
theorem segV_range (l : List Int) : 0 ≤ segV l ∧ segV l ≤ 99 := by
 unfold segV
 split
 ·rename_i a b c
  cases h : (a == 115 && (digB b && digB c)) with
  | false => rw [cond_false]; omega
  | true =>
   rw [Bool.and_eq_true, Bool.and_eq_true] at h
   have h1 := h.2.1
   have h2 := h.2.2
   unfold digB at h1 h2
   rw [Bool.and_eq_true, decide_eq_true_iff, decide_eq_true_iff] at h1 h2
   rw [cond_true]
   omega
 ·exact ⟨by decide, by decide⟩
theorem segB_range (s : ByteArray) : 0 ≤ segB s ∧ segB s ≤ 99 := segV_range _
def digitsD : ByteArray := ⟨#[48, 49, 50, 51, 52, 53, 54, 55, 56, 57]⟩
set_option maxRecDepth 100000 in
theorem dig_fin : ∀ n : Fin 256, ([48, 49, 50, 51, 52, 53, 54, 55, 56, 57] : List UInt8).contains (UInt8.ofNat n.1) = (decide (48 ≤ n.1) && decide (n.1 ≤ 57)) := by decide
theorem dig_contains {b : Int} (h0 : 0 ≤ b) (h1 : b < 256) : ([48, 49, 50, 51, 52, 53, 54, 55, 56, 57] : List UInt8).contains (UInt8.ofNat b.toNat) = digB b := by
 have := dig_fin ⟨b.toNat, by omega⟩
 dsimp only at this
 rw [this]
 unfold digB
 congr 1
 ·rw [decide_eq_decide]; omega
 ·rw [decide_eq_decide]; omega
theorem trim2 (b c : Int) (hb : 0 ≤ b ∧ b < 256) (hc : 0 ≤ c ∧ c < 256) : ∃ r, gq152 (strL [b, c]) digitsD = some r ∧ sEq r ByteArray.empty = (digB b && digB c) := by
 refine ⟨trimS (strL [b, c]) digitsD, ?_, ?_⟩
 ·rw [gq152_eq]
  unfold gq152.F
  rw [gTrim_eq, strL_size]
  rfl
 ·rw [trimS_eq, strL_list, show digitsD.data.toList = [48, 49, 50, 51, 52, 53, 54, 55, 56, 57] from rfl]
  have e : ∀ l : List UInt8, sEq (⟨l.toArray⟩ : ByteArray) ByteArray.empty = l.isEmpty := fun l => by
   cases l with
   | nil => exact sEq_self _
   | cons x l =>
    rw [sEq_dec]
    refine decide_eq_false fun h => ?_
    have := congrArg (fun a : ByteArray => a.data.toList) h
    simp at this
  rw [e]
  have h1 := dig_contains hb.1 hb.2
  have h2 := dig_contains hc.1 hc.2
  unfold Lib.trimS Lib.trimRightS Lib.trimLeftS
  simp only [List.map_cons, List.map_nil, List.reverse_cons, List.reverse_nil, List.nil_append, List.cons_append]
  cases hd : digB c with
  | false =>
   rw [hd] at h2
   rw [List.dropWhile_cons_of_neg (by rw [h2]; decide), Bool.and_false]
   simp only [List.reverse_cons, List.reverse_nil, List.nil_append, List.cons_append]
   cases hd1 : digB b with
   | false => rw [hd1] at h1; rw [List.dropWhile_cons_of_neg (by rw [h1]; decide)]; rfl
   | true => rw [hd1] at h1; rw [List.dropWhile_cons_of_pos h1, List.dropWhile_cons_of_neg (by rw [h2]; decide)]; rfl
  | true =>
   rw [hd] at h2
   rw [List.dropWhile_cons_of_pos h2, Bool.and_true]
   cases hd1 : digB b with
   | false =>
    rw [hd1] at h1
    rw [List.dropWhile_cons_of_neg (by rw [h1]; decide)]
    simp only [List.reverse_cons, List.reverse_nil, List.nil_append]
    rw [List.dropWhile_cons_of_neg (by rw [h1]; decide)]
    rfl
   | true =>
    rw [hd1] at h1
    rw [List.dropWhile_cons_of_pos h1]
    rfl
theorem three {l : List Int} (h : l.length = 3) : ∃ a b c, l = [a, b, c] := by
 match l, h with
 | [a, b, c], _ => exact ⟨a, b, c, rfl⟩
theorem seg_i (l : List Int) (hb : IsBytes l) (hl : l.length ≤ 1000000000000000) : gq115 (strL l) = some (segV l) := by
 unfold gq115 gq115.F
 rw [strL_size]
 by_cases h3 : l.length = 3
 ·obtain ⟨a, b, c, rfl⟩ := three h3
  have ha := hb a (by simp)
  have hb' := hb b (by simp)
  have hc := hb c (by simp)
  have g0 : byteAt (strL [a, b, c]) 0 = a := byteAt_strL hb (by decide) (by simp)
  have g1 : byteAt (strL [a, b, c]) 1 = b := byteAt_strL hb (by decide) (by simp)
  have g2 : byteAt (strL [a, b, c]) 2 = c := byteAt_strL hb (by decide) (by simp)
  rw [show ((([a, b, c] : List Int).length : Int) != 3) = false from rfl, cf, grd_of (gIx_t (by decide) (by simp)), g0, g1, g2]
  show _ = some (cond (a == 115 && (digB b && digB c)) ((b - 48) * 10 + (c - 48)) 0)
  cases h0 : a == 115 with
  | false => rw [bne, h0, Bool.not_false, ct]; rfl
  | true =>
   obtain ⟨r, hr1, hr2⟩ := trim2 b c hb' hc
   rw [bne, h0, Bool.not_true, cf, grd_of (gSl_t (by decide) (by simp) (by simp)), cut_strL, show sub [a, b, c] 1 (([a, b, c] : List Int).length : Int) = [b, c] from rfl, show (⟨#[48, 49, 50, 51, 52, 53, 54, 55, 56, 57]⟩ : ByteArray) = digitsD from rfl, hr1, bs, hr2]
   cases hd : (digB b && digB c) with
   | false => rfl
   | true =>
    rw [Bool.and_eq_true] at hd
    have h1 := hd.1
    have h2 := hd.2
    unfold digB at h1 h2
    rw [Bool.and_eq_true, decide_eq_true_iff, decide_eq_true_iff] at h1 h2
    rw [Bool.not_true, cf, grd_of (gIx_t (by decide) (by simp)), grd_of (gIx_t (by decide) (by simp)), wr8 (by omega) (by omega), wr8 (by omega) (by omega), wr (x := b - 48) (by omega) (by omega), wr (x := c - 48) (by omega) (by omega), wr (x := (b - 48) * 10) (by omega) (by omega), wr (by omega) (by omega)]
    rfl
 ·rw [show ((l.length : Int) != 3) = true by simp; omega, ct]
  unfold segV
  split
  ·exact absurd rfl h3
  ·rfl
theorem seg_s (l : List Int) (hb : IsBytes l) (hl : l.length ≤ 1000000000000000) : gq130 (strL l) = some (segV l) := by
 unfold gq130 gq130.F
 rw [strL_size]
 by_cases h3 : l.length = 3
 ·obtain ⟨a, b, c, rfl⟩ := three h3
  have ha := hb a (by simp)
  have hb' := hb b (by simp)
  have hc := hb c (by simp)
  have g0 : byteAt (strL [a, b, c]) 0 = a := byteAt_strL hb (by decide) (by simp)
  have g1 : byteAt (strL [a, b, c]) 1 = b := byteAt_strL hb (by decide) (by simp)
  have g2 : byteAt (strL [a, b, c]) 2 = c := byteAt_strL hb (by decide) (by simp)
  rw [show ((([a, b, c] : List Int).length : Int) != 3) = false from rfl, cf, grd_of (gIx_t (by decide) (by simp)), g0, g1, g2, digit_s, digit_s, bs]
  show _ = some (cond (a == 115 && (digB b && digB c)) ((b - 48) * 10 + (c - 48)) 0)
  cases h0 : a == 115 with
  | false => rw [bne, h0, Bool.not_false, ct]; rfl
  | true =>
   rw [bne, h0, Bool.not_true, cf, grd_of (gIx_t (by decide) (by simp))]
   cases h1 : digB b with
   | false => rfl
   | true =>
    rw [Bool.not_true, cf, grd_of (gIx_t (by decide) (by simp)), bs]
    cases h2 : digB c with
    | false => rfl
    | true =>
     unfold digB at h1 h2
     rw [Bool.and_eq_true, decide_eq_true_iff, decide_eq_true_iff] at h1 h2
     rw [Bool.not_true, cf, grd_of (gIx_t (by decide) (by simp)), grd_of (gIx_t (by decide) (by simp)), wr (x := b) (by omega) (by omega), wr (x := c) (by omega) (by omega), wr (x := b - 48) (by omega) (by omega), wr (x := 10 * (b - 48)) (by omega) (by omega), wr (x := 10 * (b - 48) + c) (by omega) (by omega), wr (by omega) (by omega)]
     show some _ = some ((b - 48) * 10 + (c - 48))
     congr 1
     omega
 ·rw [show ((l.length : Int) != 3) = true by simp; omega, ct]
  unfold segV
  split
  ·exact absurd rfl h3
  ·rfl
theorem segB_i (s : ByteArray) (h : s.size ≤ 1000000000000000) : gq115 s = some (segB s) := by
 have := seg_i (bytesL s) (IsBytes.bytesL s) (by rw [bytesL_length]; exact h)
 rwa [strL_bytesL] at this
theorem segB_s (s : ByteArray) (h : s.size ≤ 1000000000000000) : gq130 s = some (segB s) := by
 have := seg_s (bytesL s) (IsBytes.bytesL s) (by rw [bytesL_length]; exact h)
 rwa [strL_bytesL] at this
def nmV (n : Int) : ByteArray := strL [115, 48 + n / 10, 48 + n % 10]
theorem digits1 (d : Int) (h0 : 0 ≤ d) (h1 : d < 10) : gq147 fuel d = some (strL [48 + d]) := by
 obtain ⟨q, hq⟩ : ∃ q, fuel = q + 1 := ⟨fuel - 1, by rw [fuel_eq]⟩
 rw [hq]
 unfold gq147 gq147.F
 rw [show (d == -9223372036854775808) = false by rw [beq_eq_false_iff_ne]; omega, cf, decide_f (by omega), cf, decide_t h1, ct, wr (by omega) (by omega), wr8 (by omega) (by omega)]
theorem nm_s (n : Int) (h0 : 0 ≤ n) (h1 : n ≤ 99) : gq99 n = some (nmV n) := by
 unfold gq99 gq99.F
 rw [grd_of (gNz_t (by decide)), tdiv_pos h0, tmod_pos h0, wr (by omega) (by omega), digits1 _ (by omega) (by omega), bs, grd_of (gCat_t (by rw [strL_size, show ByteArray.size (⟨#[115]⟩ : ByteArray) = 1 from rfl]; simp)), grd_of (gNz_t (by decide)), digits1 _ (by omega) (by omega), bs, show (⟨#[115]⟩ : ByteArray) = strL [115] from rfl, strL_append, grd_of (gCat_t (by rw [strL_size, strL_size]; simp)), strL_append]
 rfl
theorem nm_of_seg {s : ByteArray} (h : 0 < segB s) : s = nmV (segB s) := by
 unfold segB at h ⊢
 have e : s = strL (bytesL s) := (strL_bytesL s).symm
 obtain ⟨l, hl⟩ : ∃ l, bytesL s = l := ⟨_, rfl⟩
 rw [hl] at h e ⊢
 rw [e]
 unfold segV at h ⊢
 split at h
 ·rename_i a b c
  cases hd : (a == 115 && (digB b && digB c)) with
  | false => rw [hd] at h; simp at h
  | true =>
   rw [Bool.and_eq_true, Bool.and_eq_true, beq_iff_eq] at hd
   obtain ⟨rfl, h1, h2⟩ := hd
   unfold digB at h1 h2
   rw [Bool.and_eq_true, decide_eq_true_iff, decide_eq_true_iff] at h1 h2
   rw [cond_true, nmV]
   congr 1
   simp only [List.cons.injEq, and_true, true_and]
   omega
 ·simp at h
theorem find_s {R : Type} (kke : Option R) (kkr : Int → Option R) (room : Int) (l : List (El kFile)) (hl : l.length ≤ 1000000000) (name : ByteArray) : ∀ (m fu j : Nat), j + m = l.length → m < fu →
  gq124.l1 kke kkr fu name (j : Int) room l = match (l.drop j).findIdx? (fun f => sEq f.1 name) with | none => kke | some d => kkr ((j + d : Nat) : Int)
 | 0, fu + 1, j, e, _ => by
  simp only [gq124.l1]
  rw [decide_f (by omega), cf, List.drop_of_length_le (by omega)]
  rfl
 | m + 1, fu + 1, j, e, hf => by
  have hj : j < l.length := by omega
  simp only [gq124.l1]
  rw [decide_t (by omega), ct, grd_of (gIx_t (by omega) (by omega)), Int.toNat_natCast, rdE_at (k := kFile) hj, wr (by omega) (by omega), show ((j : Int) + 1) = ((j + 1 : Nat) : Int) by omega, find_s kke kkr room l hl name m fu (j + 1) (by omega) (by omega), drop_cons hj, List.findIdx?_cons]
  cases sEq l[j].1 name with
  | true => rw [ct]; rfl
  | false =>
   rw [cf]
   cases (l.drop (j + 1)).findIdx? (fun f => sEq f.1 name) with
   | none => rfl
   | some d => exact congrArg kkr (by simp; omega)
theorem findV_s (room : Int) (l : List (El kFile)) (hl : l.length ≤ 1000000000) (name : ByteArray) : gq124 room l name = some (match l.findIdx? (fun f => sEq f.1 name) with | none => -1 | some d => (d : Int)) := by
 unfold gq124 gq124.F
 have := find_s (some (-1 : Int)) (fun i => some i) room l hl name l.length fuel 0 (by omega) (fuel_big (by omega))
 rw [Int.natCast_zero, List.drop_zero] at this
 rw [this]
 cases l.findIdx? (fun f => sEq f.1 name) with
 | none => rfl
 | some d => simp
theorem DK.find {room : Int} {l : List (El kFile)} (h : DK room l) {i : Nat} (hi : i < l.length) : l.findIdx? (fun f => sEq f.1 l[i].1) = some i := by
 rw [List.findIdx?_eq_some_iff_getElem]
 refine ⟨hi, sEq_self _, fun j hj => ?_⟩
 have : ¬ sEq (l[j]'(by omega)).1 l[i].1 = true := fun e => by
  have := h.inj (by omega) hi (sEq_iff.1 e)
  omega
 simpa using this
theorem data_s {room : Int} {l : List (El kFile)} (h : DK room l) {i : Nat} (hi : i < l.length) (hs : 0 < segB l[i].1) : gq96 room l (segB l[i].1) = some l[i].2.1 := by
 have hr := segB_range l[i].1
 have hlen := h.len
 unfold gq96 gq96.F
 rw [nm_s _ (by omega) (by omega), bs, ← nm_of_seg hs, findV_s room l (by omega), h.find hi, bs]
 dsimp only
 rw [grd_of (gIx_t (by omega) (by omega)), Int.toNat_natCast, rdE_at (k := kFile) hi]
def segs (l : List (El kFile)) : List (El kFile) := l.filter fun f => decide (0 < segB f.1)
theorem segs_i {R : Type} (kke : Int → Int → List (El kFile) → Option R) (l : List (El kFile)) (hl : l.length ≤ 1000000) (hn : NamesFit l) (a b : Int) : ∀ (m fu j : Nat) (acc : List (El kFile)), j + m = l.length → m < fu → acc.length + m ≤ 1000000 →
  gq66.l1 kke fu l (l.length : Int) (j : Int) a b acc = kke a b (acc ++ segs (l.drop j))
 | 0, fu + 1, j, acc, e, _, _ => by
  simp only [gq66.l1]
  rw [decide_f (by omega), cf, List.drop_of_length_le (by omega), segs, List.filter_nil, List.append_nil]
 | m + 1, fu + 1, j, acc, e, hf, ha => by
  have hj : j < l.length := by omega
  simp only [gq66.l1]
  rw [decide_t (by omega), ct, grd_of (gIx_t (by omega) (by omega)), Int.toNat_natCast, segB_i _ (hn.rd hj), bs, rdE_at (k := kFile) hj, wr (by omega) (by omega), show ((j : Int) + 1) = ((j + 1 : Nat) : Int) by omega, drop_cons hj, segs, List.filter_cons]
  by_cases h : 0 < segB l[j].1
  ·rw [decide_t h, ct, if_pos rfl, grd_of (gRm_t (by simp; omega)), segs_i kke l hl hn a b m fu (j + 1) _ (by omega) (by omega) (by simp; omega), List.append_assoc]
   rfl
  ·rw [decide_f h, cf, if_neg (by decide), segs_i kke l hl hn a b m fu (j + 1) _ (by omega) (by omega) (by omega)]
   rfl
theorem segs_s {R : Type} (kke : List Int → Option R) (l : List (El kFile)) (hl : l.length ≤ 1000000) (hn : NamesFit l) (a : Int) : ∀ (m fu j : Nat) (acc : List Int), j + m = l.length → m < fu → acc.length + m ≤ 1000000 →
  gq95.l1 kke fu (j : Int) a l acc = kke (acc ++ (segs (l.drop j)).map fun f => segB f.1)
 | 0, fu + 1, j, acc, e, _, _ => by
  simp only [gq95.l1]
  rw [decide_f (by omega), cf, List.drop_of_length_le (by omega), segs, List.filter_nil, List.map_nil, List.append_nil]
 | m + 1, fu + 1, j, acc, e, hf, ha => by
  have hj : j < l.length := by omega
  simp only [gq95.l1]
  rw [decide_t (by omega), ct, grd_of (gIx_t (by omega) (by omega)), Int.toNat_natCast, segB_s _ (hn.rd hj), bs, rdE_at (k := kFile) hj, wr (by omega) (by omega), show ((j : Int) + 1) = ((j + 1 : Nat) : Int) by omega, drop_cons hj, segs, List.filter_cons]
  by_cases h : 0 < segB l[j].1
  ·rw [decide_t h, ct, if_pos rfl, grd_of (gRm_t (by simp; omega)), segs_s kke l hl hn a m fu (j + 1) _ (by omega) (by omega) (by simp; omega), List.map_cons, List.append_assoc]
   rfl
  ·rw [decide_f h, cf, if_neg (by decide), segs_s kke l hl hn a m fu (j + 1) _ (by omega) (by omega) (by omega)]
   rfl
theorem segsV_s (room : Int) (l : List (El kFile)) (hl : l.length ≤ 100000) (hn : NamesFit l) : gq95 room l = some ((segs l).map fun f => segB f.1) := by
 unfold gq95 gq95.F
 have := segs_s (fun out => some out) l (by omega) hn room l.length fuel 0 [] (by omega) (fuel_big (by omega)) (by simp; omega)
 rw [Int.natCast_zero, List.drop_zero, List.nil_append] at this
 exact this
end Go.Proofs.YtaanadbpnmcbcaaGreatDoorA
namespace Go.Proofs.YtaanadbpnmcbcaaGreatDoorA
open Go
set_option linter.unusedVariables false
set_option linter.unusedSimpArgs false
abbrev WV := Int × List ByteArray × List ByteArray × Int × Int
def wErr (c : Int) : WV := (0, [], [], 0, c)
def frF (f : El kFile) : List ByteArray × Int × Int := frT (bytesL f.2.1)
def cW (F : Int) (R N : List ByteArray) (last : Int) (f : El kFile) (isLast : Bool) : Int :=
 cond ((frF f).2.2 != 0 && !(isLast && (frF f).2.2 == 16)) 8
  (cond (!N.isEmpty && segB f.1 != last + 1) 3
  (cond ((frF f).1.isEmpty) (cond isLast 0 3)
  (cond ((ByteArray.size ((frF f).1.headD ByteArray.empty) : Int) != 4) 3
  (cond (!N.isEmpty && beN 0 (bytesL ((frF f).1.headD ByteArray.empty)) != F + (R.length : Int)) 3 0))))
def fW (F : Int) (N : List ByteArray) (f : El kFile) : Int := cond ((frF f).1.isEmpty || !N.isEmpty) F (beN 0 (bytesL ((frF f).1.headD ByteArray.empty)))
def wGo : List (El kFile) → Int → Int → List ByteArray → List ByteArray → Int → WV
 | [], _, F, R, N, T => (F, R, N, T, 0)
 | f :: fs, last, F, R, N, T => cond (cW F R N last f fs.isEmpty != 0) (wErr (cW F R N last f fs.isEmpty))
  (wGo fs (segB f.1) (fW F N f) (R ++ (frF f).1.tail) (N ++ [f.1]) ((ByteArray.size f.2.1 : Int) - (frF f).2.1))
theorem frF_code (f : El kFile) : (frF f).2.2 = 0 ∨ (frF f).2.2 = 8 ∨ (frF f).2.2 = 16 := frs_code _ _
theorem frF_size (f : El kFile) : (frF f).1.length ≤ ByteArray.size f.2.1 ∧ (∀ s ∈ (frF f).1, s.size ≤ 200) ∧ 0 ≤ (frF f).2.1 ∧ (frF f).2.1 ≤ (ByteArray.size f.2.1 : Int) := by
 obtain ⟨h1, h2, h3⟩ := frs_size (bytesL f.2.1).length (bytesL f.2.1)
 rw [bytesL_length] at h1 h3
 unfold frF frT
 rw [bytesL_length] at *
 exact ⟨h1, h2, by show (0 : Int) ≤ (((frs _ _).2.1 : Nat) : Int); omega, by show (((frs _ _).2.1 : Nat) : Int) ≤ _; omega⟩
theorem frF_i (f : El kFile) (h : ByteArray.size f.2.1 ≤ 1000000000) : gq102 f.2.1 = some (frF f) := by
 have := frames_i (bytesL f.2.1) (IsBytes.bytesL _) (by rw [bytesL_length]; exact h)
 rwa [strL_bytesL] at this
theorem frF_s (f : El kFile) (h : ByteArray.size f.2.1 ≤ 1000000000) : gq97 (bytesL f.2.1) = some (frF f) := frames_s (bytesL f.2.1) (IsBytes.bytesL _) (by rw [bytesL_length]; exact h)
theorem num4 (s : ByteArray) (h : (s.size : Int) = 4) : gq103 s = some (beN 0 (bytesL s)) := by
 have := numberOf_eq (bytesL s) (IsBytes.bytesL s) (by rw [bytesL_length]; omega)
 rwa [strL_bytesL] at this
theorem num4_range (s : ByteArray) (h : (s.size : Int) = 4) : 0 ≤ beN 0 (bytesL s) ∧ beN 0 (bytesL s) < 4294967296 := by
 have := beN_bounds (bytesL s) 0 (IsBytes.bytesL s) (by decide)
 rw [bytesL_length, show s.size = 4 by omega] at this
 exact ⟨this.1, by have := this.2; omega⟩
theorem num4_s (s : ByteArray) (h : (s.size : Int) = 4) : gq98 (bytesL s) 0 false 4 = some (beN 0 (bytesL s), bytesL s, 4, false) := by
 have hl : (bytesL s).length = 4 := by rw [bytesL_length]; omega
 have := snum_eq (bytesL s) (IsBytes.bytesL s) (by omega) 4 (by decide) 0 (by omega)
 rw [List.drop_zero, if_pos (by omega), List.take_of_length_le (by omega)] at this
 exact this
theorem seg_step (F : Int) (R N : List ByteArray) (T last : Int) (f : El kFile) (isLast : Bool) (hF : 0 ≤ F ∧ F < 4294967296) (hR : R.length ≤ 1000000) (hN : N.length ≤ 1000) (hl : 0 ≤ last ∧ last ≤ 99) (hlN : (0 < last) ↔ N.isEmpty = false) (hn : ByteArray.size f.1 ≤ 1000000) (hd : ByteArray.size f.2.1 ≤ 1000000) :
  ∃ s, gq116 F R N T last f.1 f.2.1 f.2.2 isLast = some (cW F R N last f isLast, s) ∧ (cW F R N last f isLast = 0 → s = (fW F N f, R ++ (frF f).1.tail, N ++ [f.1], (ByteArray.size f.2.1 : Int) - (frF f).2.1, segB f.1)) := by
 unfold gq116 gq116.F gq116.j2 gq116.j1
 have hsz := frF_size f
 have hsr := segB_range f.1
 have hcode := frF_code f
 rw [frF_i f (by omega), bs, segB_i f.1 (by omega), bs]
 unfold cW fW
 obtain ⟨t, ht⟩ : ∃ t, frF f = t := ⟨_, rfl⟩
 rw [ht] at hsz hcode ⊢
 obtain ⟨fr, used, code⟩ := t
 obtain ⟨nm, dt, sr⟩ := f
 obtain ⟨sg, hsg⟩ : ∃ sg, segB nm = sg := ⟨_, rfl⟩
 dsimp only at hsz hcode hsr hn hd ⊢
 rw [hsg] at hsr ⊢
 have e1 : decide (last > 0) = !N.isEmpty := by
  rw [Bool.eq_iff_iff, decide_eq_true_iff, Bool.not_eq_true']
  exact hlN
 have e2 : (IntKind.wrap .i64 (last + 1)) = last + 1 := wr (by omega) (by omega)
 have e3 : IntKind.wrap .i64 ((ByteArray.size dt : Int) - used) = (ByteArray.size dt : Int) - used := wr (by omega) (by omega)
 have e4 : grd (gRm ((List.length N + List.length [nm]) * 16)) = fun (x : Option (Int × Int × List ByteArray × List ByteArray × Int × Int)) => x := by
  funext x
  exact grd_of (gRm_t (by simp; omega)) x
 have e5 : ((List.length (N ++ [nm]) : Int) == 1) = N.isEmpty := by
  rw [Bool.eq_iff_iff, beq_iff_eq, List.isEmpty_iff]
  constructor
  ·intro h; simp at h; exact List.eq_nil_of_length_eq_zero (by omega)
  ·rintro rfl; rfl
 have e6 : decide ((List.length (N ++ [nm]) : Int) > 1) = !N.isEmpty := by
  rw [Bool.eq_iff_iff, decide_eq_true_iff, Bool.not_eq_true']
  cases N with
  | nil => simp
  | cons x l => simp; omega
 unfold gq116.j3 gq116.j4 gq153 gq153.F
 simp only [e1, e2, e3, e4, e5, e6]
 cases fr with
 | nil =>
  simp only [List.length_nil, List.isEmpty_nil, Bool.true_or, cond_true, List.tail_nil, List.append_nil, show (((0 : Nat) : Int) == 0) = true from rfl]
  cases code != 0 <;> cases isLast <;> cases code == 16 <;> cases N.isEmpty <;> cases sg != last + 1 <;> first | exact ⟨_, rfl, fun _ => rfl⟩ | exact ⟨_, rfl, fun h => by simp at h⟩
 | cons h0 tl =>
  have hh := hsz.2.1 h0 (by simp)
  have htl : tl.length + 1 ≤ ByteArray.size dt := hsz.1
  obtain ⟨n0, hn0, hn4⟩ : ∃ n0, gq103 h0 = some n0 ∧ (((h0.size : Int) != 4) = false → n0 = beN 0 (bytesL h0)) := by
   by_cases h4 : (h0.size : Int) = 4
   ·exact ⟨_, num4 h0 h4, fun _ => rfl⟩
   ·obtain ⟨n, hn⟩ := numberOf_total h0 (by omega)
    exact ⟨n, hn, fun h => by simp [h4] at h⟩
  have e7 : ((List.length (h0 :: tl) : Int) == 0) = false := by rw [beq_eq_false_iff_ne]; simp; omega
  have e8 : (rdE (.str : Kd) (h0 :: tl) (Int.toNat 0)) = h0 := rfl
  have e9 : IntKind.wrap .i64 (F + (List.length R : Int)) = F + (List.length R : Int) := wr (by omega) (by omega)
  have e10 : sub (h0 :: tl) 1 (List.length (h0 :: tl) : Int) = tl := by
   unfold sub
   rw [Int.toNat_natCast, List.take_length]
   rfl
  simp only [e7, e8, hn0, bs, e9, e10, grd_of (gIx_t (i := 0) (n := List.length (h0 :: tl)) (by decide) (by simp only [List.length_cons]; omega)), grd_of (gSl_t (l := 1) (h := (List.length (h0 :: tl) : Int)) (n := List.length (h0 :: tl)) (by decide) (by simp only [List.length_cons]; omega) (Int.le_refl _)), grd_of (gRm_t (n := (List.length R + List.length tl) * 16) (by omega)), List.isEmpty_cons, Bool.false_or, List.headD_cons, List.tail_cons]
  cases h4 : ((h0.size : Int) != 4) with
  | true => cases code != 0 <;> cases isLast <;> cases code == 16 <;> cases N.isEmpty <;> cases sg != last + 1 <;> first | exact ⟨_, rfl, fun _ => rfl⟩ | exact ⟨_, rfl, fun h => by simp at h⟩
  | false =>
   have := hn4 h4
   subst this
   cases code != 0 <;> cases isLast <;> cases code == 16 <;> cases N.isEmpty <;> cases sg != last + 1 <;> cases beN 0 (bytesL h0) != F + (List.length R : Int) <;> first | exact ⟨_, rfl, fun _ => rfl⟩ | exact ⟨_, rfl, fun h => by simp at h⟩
theorem frs_nil : ∀ {m : Nat} {l : List Int}, (frs m l).1 = [] → (frs m l).2.1 = 0
 | 0, _, _ => rfl
 | m + 1, l, h => by
  unfold frs at h ⊢
  split
  ·rfl
  ·rename_i h0
   rw [if_neg h0] at h
   split
   ·rename_i h1; rw [if_pos h1] at h; cases h
   ·rfl
theorem frF_nil {f : El kFile} (h : (frF f).1.isEmpty = true) : (frF f).2.1 = 0 := by
 have := frs_nil (m := (bytesL f.2.1).length) (l := bytesL f.2.1) (List.isEmpty_iff.1 h)
 show (((frs _ _).2.1 : Nat) : Int) = 0
 rw [this]
 rfl
theorem cW_four {F : Int} {R N : List ByteArray} {last : Int} {f : El kFile} {b : Bool} (h : cW F R N last f b = 0) (hn : (frF f).1.isEmpty = false) : (ByteArray.size ((frF f).1.headD ByteArray.empty) : Int) = 4 := by
 unfold cW at h
 rw [hn] at h
 cases h1 : ((frF f).2.2 != 0 && !(b && (frF f).2.2 == 16)) with
 | true => rw [h1] at h; simp at h
 | false =>
  cases h2 : (!N.isEmpty && segB f.1 != last + 1) with
  | true => rw [h1, h2] at h; simp at h
  | false =>
   rw [h1, h2] at h
   cases h3 : ((ByteArray.size ((frF f).1.headD ByteArray.empty) : Int) != 4) with
   | true => rw [h3] at h; simp at h
   | false => simpa using h3
theorem fW_range {F : Int} {R N : List ByteArray} {last : Int} {f : El kFile} {b : Bool} (h : cW F R N last f b = 0) (hF : 0 ≤ F ∧ F < 4294967296) : 0 ≤ fW F N f ∧ fW F N f < 4294967296 := by
 unfold fW
 cases hn : (frF f).1.isEmpty with
 | true => exact hF
 | false =>
  cases N.isEmpty with
  | true => exact num4_range _ (cW_four h hn)
  | false => exact hF
def SegOk (S : List (El kFile)) : Prop := ∀ f ∈ S, 0 < segB f.1 ∧ ByteArray.size f.1 ≤ 40 ∧ ByteArray.size f.2.1 ≤ 3000
theorem isLast_eq {S : List (El kFile)} {j : Nat} (hj : j < S.length) (hS : S.length ≤ 1000) : ((j : Int) == IntKind.wrap .i64 ((S.length : Int) - 1)) = (S.drop (j + 1)).isEmpty := by
 rw [wr (by omega) (by omega), Bool.eq_iff_iff, beq_iff_eq, List.isEmpty_iff, List.drop_eq_nil_iff]
 omega
theorem walGo_i (S : List (El kFile)) (hS : S.length ≤ 100) (hok : SegOk S) (a b : Int) : ∀ (m fu j : Nat) (F : Int) (R N : List ByteArray) (T last : Int), j + m = S.length → m < fu → 0 ≤ F ∧ F < 4294967296 → R.length + 4000 * m ≤ 1000000 → N.length + m ≤ 1000 → 0 ≤ last ∧ last ≤ 99 → ((0 < last) ↔ N.isEmpty = false) →
  gq66.l2 (fun i2 i3 r r1 r2 l l1 => some ((r, l, l1, r1, (0 : Int)) : WV)) (fun i4 i5 i6 => some ((i5, [], [], i6, i4) : WV)) fu (S.length : Int) (j : Int) a b S F T last R N = some (wGo (S.drop j) last F R N T)
 | 0, fu + 1, j, F, R, N, T, last, e, _, _, _, _, _, _ => by
  simp only [gq66.l2]
  rw [decide_f (by omega), cf, List.drop_of_length_le (by omega), wGo]
 | m + 1, fu + 1, j, F, R, N, T, last, e, hf, hF, hR, hN, hl, hlN => by
  have hj : j < S.length := by omega
  obtain ⟨f, hfe⟩ : ∃ f, S[j] = f := ⟨_, rfl⟩
  obtain ⟨k1, k2, k3⟩ := hok S[j] (List.getElem_mem hj)
  simp only [gq66.l2]
  rw [decide_t (by omega), ct, grd_of (gIx_t (by omega) (by omega)), Int.toNat_natCast, isLast_eq hj (by omega), rdE_at (k := kFile) hj, drop_cons hj, wr (x := (j : Int) + 1) (by omega) (by omega), show ((j : Int) + 1) = ((j + 1 : Nat) : Int) by omega]
  rw [hfe] at k1 k2 k3 ⊢
  obtain ⟨s, h1, h2⟩ := seg_step F R N T last f (S.drop (j + 1)).isEmpty hF (by omega) (by omega) hl hlN (by omega) (by omega)
  rw [h1, bs, wGo]
  dsimp only
  by_cases hc : cW F R N last f (S.drop (j + 1)).isEmpty = 0
  ·rw [show (cW F R N last f (S.drop (j + 1)).isEmpty != 0) = false by rw [hc]; rfl, cf, cf, h2 hc]
   have hsz := (frF_size f).1
   have hsr := segB_range f.1
   exact walGo_i S hS hok a b m fu (j + 1) _ _ _ _ _ (by omega) (by omega) (fW_range hc hF) (by simp; omega) (by simp; omega) hsr ⟨fun _ => by simp, fun _ => k1⟩
  ·rw [show (cW F R N last f (S.drop (j + 1)).isEmpty != 0) = true by simp [hc], ct, ct]
   rfl
theorem segs_ok {room : Int} {l : List (El kFile)} (h : DK room l) : SegOk (segs l) := fun f hf => by
 have hm := (List.mem_filter.1 hf)
 obtain ⟨i, hi, rfl⟩ := List.getElem_of_mem hm.1
 exact ⟨of_decide_eq_true hm.2, (nameB_size (h.name i hi)).2, h.data hm.1⟩
theorem DK.fit {room : Int} {l : List (El kFile)} (h : DK room l) : NamesFit l := fun f hf => by
 obtain ⟨i, hi, rfl⟩ := List.getElem_of_mem hf
 have := nameB_size (h.name i hi)
 omega
def wV (l : List (El kFile)) : WV := wGo (segs l) 0 0 [] [] 0
theorem segs_len (l : List (El kFile)) : (segs l).length ≤ l.length := List.length_filter_le _ _
theorem wal_i {room : Int} {l : List (El kFile)} (h : DK room l) : gq66 room l = some (wV l) := by
 have hlen := h.len
 have hs := segs_len l
 unfold gq66 gq66.F
 have e1 := segs_i (fun i i1 segments => gq66.l2 (fun i2 i3 r r1 r2 l l1 => some ((r, l, l1, r1, (0 : Int)) : WV)) (fun i4 i5 i6 => some ((i5, [], [], i6, i4) : WV)) fuel (List.length segments : Int) (0 : Int) i i1 segments (0 : Int) (0 : Int) (0 : Int) [] []) l (by omega) h.fit 0 0 l.length fuel 0 [] (by omega) (fuel_big (by omega)) (by simp; omega)
 rw [Int.natCast_zero, List.drop_zero, List.nil_append] at e1
 rw [e1]
 have e2 := walGo_i (segs l) (by omega) (segs_ok h) 0 0 (segs l).length fuel 0 0 [] [] 0 0 (by omega) (fuel_big (by omega)) (by decide) (by simp; omega) (by simp; omega) (by decide) (by simp)
 rw [Int.natCast_zero, List.drop_zero] at e2
 exact e2
theorem walGo_s {room : Int} {l : List (El kFile)} (h : DK room l) (a b : Int) : ∀ (m fu j : Nat) (F : Int) (R N : List ByteArray) (T last : Int), j + m = (segs l).length → m < fu → 0 ≤ F ∧ F < 4294967296 → R.length + 4000 * m ≤ 1000000 → N.length + m ≤ 1000 → (j = 0 ↔ N.isEmpty = true) → (∀ (h0 : 0 < j) (h1 : j - 1 < (segs l).length), last = segB (segs l)[j - 1].1) →
  ∃ v, gq94.l4 (fun i i1 w w1 l l1 => some ((w, l, l1, w1, (0 : Int)) : WV)) (fun i2 i3 i4 l2 l3 => some ((i3, l2, l3, i4, i2) : WV)) fu (j : Int) room l a b F T ((segs l).map fun f => segB f.1) R N = some v ∧
   cond (v.2.2.2.2 != 0) (wErr v.2.2.2.2) v = wGo ((segs l).drop j) last F R N T
 | 0, fu + 1, j, F, R, N, T, last, e, _, _, _, _, _, _ => by
  simp only [gq94.l4]
  rw [List.length_map, decide_f (by omega), cf, List.drop_of_length_le (by omega), wGo]
  exact ⟨_, rfl, rfl⟩
 | m + 1, fu + 1, j, F, R, N, T, last, e, hf, hF, hR, hN, hjN, hlast => by
  have hlen := h.len
  have hsl := segs_len l
  have hj : j < (segs l).length := by omega
  obtain ⟨f, hfe⟩ : ∃ f, (segs l)[j] = f := ⟨_, rfl⟩
  obtain ⟨k1, k2, k3⟩ := segs_ok h (segs l)[j] (List.getElem_mem hj)
  have hmem : (segs l)[j] ∈ l := (List.mem_filter.1 (List.getElem_mem hj)).1
  obtain ⟨i, hi, hie⟩ := List.getElem_of_mem hmem
  have hmap : rdE (.int .i64 : Kd) ((segs l).map fun f => segB f.1) j = segB (segs l)[j].1 := by
   rw [rdE_at (k := .int .i64) (show j < List.length (α := Int) ((segs l).map fun f => segB f.1) by rw [List.length_map]; exact hj)]
   simp
  have hdat : gq96 room l (segB (segs l)[j].1) = some (segs l)[j].2.1 := by
   rw [← hie]
   exact data_s h hi (by rw [hie]; exact k1)
  have hsr := segB_range (segs l)[j].1
  have hnm : gq99 (segB (segs l)[j].1) = some (segs l)[j].1 := by
   rw [nm_s _ (by omega) (by omega), ← nm_of_seg k1]
  have hil : ((j : Int) == IntKind.wrap .i64 ((List.length (List.map (fun f : El kFile => segB f.1) (segs l)) : Int) - 1)) = ((segs l).drop (j + 1)).isEmpty := by
   rw [List.length_map]
   exact isLast_eq hj (by omega)
  simp only [gq94.l4]
  rw [hil, List.length_map, decide_t (by omega), ct, grd_of (gIx_t (by omega) (by omega)), Int.toNat_natCast, hmap, hdat, bs, frF_s _ (by omega), bs, drop_cons hj]
  unfold gq94.j1 gq94.j2 gq94.j3
  have e5 : (decide ((j : Int) > 0)) = !N.isEmpty := by
   rw [Bool.eq_iff_iff, decide_eq_true_iff, Bool.not_eq_true', ← Bool.not_eq_true, ← hjN]
   omega
  have e6 : ((j : Int) == 0) = N.isEmpty := by
   rw [Bool.eq_iff_iff, beq_iff_eq, ← hjN]
   omega
  have eg1 : ∀ (x : Option WV), grd (gIx (j : Int) (List.length (List.map (fun f : El kFile => segB f.1) (segs l)))) x = x := fun x => grd_of (gIx_t (by omega) (by rw [List.length_map]; omega)) x
  have en : ∀ (x : Option WV) (s : ByteArray), grd (gRm ((List.length N + List.length [s]) * 16)) x = x := fun x s => grd_of (gRm_t (by simp; omega)) x
  have ew : IntKind.wrap .i64 ((j : Int) + 1) = ((j + 1 : Nat) : Int) := by rw [wr (by omega) (by omega)]; omega
  have eprev : ∀ (x y : Option WV), cond (!N.isEmpty) (grd (gIx (IntKind.wrap .i64 ((j : Int) - 1)) (List.length (List.map (fun f : El kFile => segB f.1) (segs l)))) (cond (segB (segs l)[j].1 != IntKind.wrap .i64 (rdE (.int .i64 : Kd) ((segs l).map fun f => segB f.1) (Int.toNat (IntKind.wrap .i64 ((j : Int) - 1))) + 1)) x y)) y =
    cond (!N.isEmpty && segB (segs l)[j].1 != last + 1) x y := by
   intro x y
   cases hNe : N.isEmpty with
   | true => rfl
   | false =>
    have hj0 : 0 < j := by
     rcases Nat.eq_zero_or_pos j with h0 | h0
     ·have := hjN.1 h0; rw [hNe] at this; cases this
     ·exact h0
    have hl := hlast hj0 (by omega)
    have hlr := segB_range (segs l)[j - 1].1
    rw [Bool.not_false, ct, wr (by omega) (by omega), grd_of (gIx_t (by omega) (by rw [List.length_map]; omega)), show ((j : Int) - 1).toNat = j - 1 by omega,
     rdE_at (k := .int .i64) (show j - 1 < List.length (α := Int) ((segs l).map fun f => segB f.1) by rw [List.length_map]; omega), Bool.true_and]
    have hm2 : (List.map (fun f : El kFile => segB f.1) (segs l))[j - 1]'(by rw [List.length_map]; omega) = segB (segs l)[j - 1].1 := by simp
    rw [hm2, ← hl, wr (by omega) (by omega)]
  simp only [eg1, en, e5, e6, hmap, hnm, bs, ew, Int.toNat_natCast]
  rw [hfe] at k1 k2 k3 hsr eprev ⊢
  have hsz := frF_size f
  have hcode := frF_code f
  have hnil := frF_nil (f := f)
  have ih := walGo_s h a b m fu (j + 1)
  have hc4 := fun (b : Bool) (h0 : cW F R N last f b = 0) => fW_range h0 hF
  rw [wGo]
  unfold cW fW at hc4 ⊢
  obtain ⟨t, ht⟩ : ∃ t, frF f = t := ⟨_, rfl⟩
  have ht' : frF f = t := ht
  rw [ht] at hsz hcode hnil hc4 ⊢
  obtain ⟨fr, used, code⟩ := t
  dsimp only at hsz hcode hnil hc4 ⊢
  obtain ⟨il, hil2⟩ : ∃ il, ((segs l).drop (j + 1)).isEmpty = il := ⟨_, rfl⟩
  rw [hil2]
  have ecode : ∀ (x y : Option WV), cond (code == 8) x (cond (code == 16) (cond (!il) x y) y) = cond (code != 0 && !(il && code == 16)) x y := by
   intro x y
   rcases hcode with rfl | rfl | rfl <;> cases il <;> rfl
  simp only [eprev, ecode]
  cases c1 : (code != 0 && !(il && code == 16)) with
  | true => exact ⟨_, rfl, rfl⟩
  | false =>
   simp only [cf]
   cases c2 : (!N.isEmpty && segB f.1 != last + 1) with
   | true => exact ⟨_, rfl, rfl⟩
   | false =>
    simp only [cf]
    cases fr with
    | nil =>
     have hu := hnil rfl
     subst hu
     cases il with
     | false => exact ⟨_, rfl, rfl⟩
     | true =>
      refine ⟨_, rfl, ?_⟩
      rw [List.isEmpty_iff.1 hil2]
      simp [wGo]
    | cons h0 tl =>
     have hh := hsz.2.1 h0 (by simp)
     have htl : tl.length + 1 ≤ ByteArray.size f.2.1 := hsz.1
     have e7 : ((List.length (h0 :: tl) : Int) == 0) = false := by rw [beq_eq_false_iff_ne]; simp; omega
     have e8 : (rdE (.str : Kd) (h0 :: tl) (Int.toNat 0)) = h0 := rfl
     have e00 : ((0 : Int) != 0) = false := rfl
     have e9 : IntKind.wrap .i64 (F + (List.length R : Int)) = F + (List.length R : Int) := wr (by omega) (by omega)
     have e10 : sub (h0 :: tl) 1 (List.length (h0 :: tl) : Int) = tl := by
      unfold sub
      rw [Int.toNat_natCast, List.take_length]
      rfl
     have e3 : IntKind.wrap .i64 ((ByteArray.size f.2.1 : Int) - used) = (ByteArray.size f.2.1 : Int) - used := wr (by omega) (by omega)
     have g1 : ∀ x : Option WV, grd (gIx 0 (List.length (h0 :: tl))) x = x := fun x => grd_of (gIx_t (by decide) (by simp only [List.length_cons]; omega)) x
     have g2 : ∀ x : Option WV, grd (gSl 1 (List.length (h0 :: tl) : Int) (List.length (h0 :: tl))) x = x := fun x => grd_of (gSl_t (by decide) (by simp only [List.length_cons]; omega) (Int.le_refl _)) x
     have g3 : ∀ x : Option WV, grd (gRm ((List.length R + List.length tl) * 16)) x = x := fun x => grd_of (gRm_t (by omega)) x
     have fin : ∀ F', 0 ≤ F' ∧ F' < 4294967296 → ∃ v, gq94.l4 (fun i i1 w w1 l l1 => some ((w, l, l1, w1, (0 : Int)) : WV)) (fun i2 i3 i4 l2 l3 => some ((i3, l2, l3, i4, i2) : WV)) fu ((j + 1 : Nat) : Int) room l a b F' ((ByteArray.size f.2.1 : Int) - used) ((segs l).map fun f => segB f.1) (R ++ tl) (N ++ [f.1]) = some v ∧
       cond (v.2.2.2.2 != 0) (wErr v.2.2.2.2) v = wGo ((segs l).drop (j + 1)) (segB f.1) F' (R ++ tl) (N ++ [f.1]) ((ByteArray.size f.2.1 : Int) - used) := fun F' hF' =>
      ih F' (R ++ tl) (N ++ [f.1]) ((ByteArray.size f.2.1 : Int) - used) (segB f.1) (by omega) (by omega) hF' (by simp; omega) (by simp; omega) (by simp) (fun _ _ => by simp only [Nat.add_sub_cancel]; rw [hfe])
     simp only [e7, cf, e8, e9, e10, g1, g2, g3, e3, List.isEmpty_cons, Bool.false_or, List.headD_cons, List.tail_cons]
     by_cases h4 : (h0.size : Int) = 4
     ·have hr4 := num4_range h0 h4
      simp only [show ((h0.size : Int) != 4) = false by simp [h4], cf, num4_s h0 h4, bs]
      cases hNe : N.isEmpty with
      | true =>
       simp only [Bool.not_true, Bool.false_and, cf, ct, e00]
       exact fin _ hr4
      | false =>
       simp only [Bool.not_false, Bool.true_and, cf, ct]
       cases c3 : beN 0 (bytesL h0) != F + (List.length R : Int) with
       | true => exact ⟨_, rfl, rfl⟩
       | false =>
        simp only [cf, e00]
        exact fin _ hF
     ·simp only [show ((h0.size : Int) != 4) = true by simp [h4], ct]
      exact ⟨_, rfl, rfl⟩
theorem walV_s {room : Int} {l : List (El kFile)} (h : DK room l) : ∃ v, gq94 room l = some v ∧ cond (v.2.2.2.2 != 0) (wErr v.2.2.2.2) v = wV l := by
 have hlen := h.len
 have hs := segs_len l
 unfold gq94 gq94.F
 rw [segsV_s room l (by omega) h.fit, bs]
 have e2 := walGo_s h 0 0 (segs l).length fuel 0 0 [] [] 0 0 (by omega) (fuel_big (by omega)) (by decide) (by simp; omega) (by simp; omega) (by simp) (fun h0 _ => by omega)
 rw [Int.natCast_zero, List.drop_zero] at e2
 exact e2
noncomputable def readV (room : Int) (l : List (El kFile)) : WV := cond (dOK room l) (wV l) (wErr 1)
theorem walRead_i (room : Int) (l : List (El kFile)) (hl : l.length ≤ 1000000000) (h : DFit l) : gq21 room l = some (readV room l) := by
 unfold gq21 gq21.F readV
 rw [disk_i room l hl h, bs]
 cases hd : dOK room l with
 | false => rfl
 | true => rw [Bool.not_true, cf, wal_i (dOK_DK hd), bs, ct]
theorem walRead_s (room : Int) (l : List (El kFile)) (hl : l.length ≤ 1000000000) (h : DFit l) : gq49 room l = some (readV room l) := by
 unfold gq49 gq49.F readV
 rw [disk_s room l hl h, bs]
 cases hd : dOK room l with
 | false => rfl
 | true =>
  obtain ⟨v, h1, h2⟩ := walV_s (dOK_DK hd)
  rw [Bool.not_true, cf, h1, bs, ct, ← h2]
  cases hv : v.2.2.2.2 != 0 with
  | true => rfl
  | false =>
   have : v.2.2.2.2 = 0 := by simpa using hv
   obtain ⟨F, R, N, T, c⟩ := v
   dsimp only at this ⊢
   subst this
   rfl
end Go.Proofs.YtaanadbpnmcbcaaGreatDoorA
namespace Go.Proofs.YtaanadbpnmcbcaaGreatDoorA
open Go
set_option linter.unusedVariables false
set_option linter.unusedSimpArgs false
theorem cmp_less : ∀ a b : List UInt8, (Lib.compareBytes a b < 0 ↔ Op.bytesLess a b = true) ∧ (Lib.compareBytes a b = 0 ↔ a = b)
 | [], [] => by simp [Lib.compareBytes, Op.bytesLess]
 | [], _ :: _ => by simp [Lib.compareBytes, Op.bytesLess]
 | _ :: _, [] => by simp [Lib.compareBytes, Op.bytesLess]
 | x :: a, y :: b => by
  have ih := cmp_less a b
  unfold Lib.compareBytes Op.bytesLess
  by_cases h1 : x < y
  ·rw [if_pos h1]
   have hne : x ≠ y := by rintro rfl; exact absurd h1 (Nat.lt_irrefl _)
   simp [h1, hne]
  ·rw [if_neg h1]
   by_cases h2 : y < x
   ·rw [if_pos h2]
    have hne : x ≠ y := by rintro rfl; exact absurd h2 (Nat.lt_irrefl _)
    simp [h1, hne]
   ·rw [if_neg h2]
    have e : x = y := by
     apply UInt8.toNat_inj.1
     have h1 : ¬ x.toNat < y.toNat := h1
     have h2 : ¬ y.toNat < x.toNat := h2
     omega
    subst e
    simp [h1, ih.1, ih.2]
theorem cmpS_lt (a b : ByteArray) : decide (cmpS a b < 0) = sLt a b := by
 rw [cmpS_eq, Bool.eq_iff_iff, decide_eq_true_iff, (cmp_less _ _).1]
 unfold sLt
 rw [ByteArray.toList_eq, ByteArray.toList_eq]
theorem cmpS_zero (a b : ByteArray) : (cmpS a b == 0) = decide (a = b) := by
 rw [cmpS_eq, Bool.eq_iff_iff, beq_iff_eq, decide_eq_true_iff, (cmp_less _ _).2]
 exact ⟨ba_ext, fun h => by rw [h]⟩
def Rise (l : List (El kFile)) : Prop := ∀ i (h : i + 1 < l.length), sLt (l[i]'(by omega)).1 l[i + 1].1 = true
theorem half_mid (i j : Nat) (h : i < j) (hj : j ≤ 1000000000) : IntKind.wrap .i64 (iShr .u64 (IntKind.wrap .u64 (IntKind.wrap .i64 ((i : Int) + (j : Int)))) 1) = (((i + j) / 2 : Nat) : Int) := by
 rw [wr (x := (i : Int) + (j : Int)) (by omega) (by omega)]
 have e : IntKind.wrap .u64 ((i : Int) + (j : Int)) = (i : Int) + (j : Int) := by
  unfold IntKind.wrap
  simp [IntKind.signed, IntKind.bits]
  omega
 rw [e]
 unfold iShr
 rw [show min (1 : Int).toNat (IntKind.bits .u64) = 1 from rfl, Int.fdiv_eq_ediv_of_nonneg _ (by decide)]
 rw [wr (by omega) (by omega)]
 omega
noncomputable def cmpF (name : ByteArray) : ((ByteArray × ByteArray × Int × Unit) × ByteArray × Unit) → Option (Int × Unit) := fun t => (gq128 t.1.1 t.1.2.1 t.1.2.2.1 t.2.1).bind fun a => some (a, ())
theorem cmpF_eq (f : El kFile) (name : ByteArray) : (gq128 f.1 f.2.1 f.2.2 name) = some (cmpS f.1 name) := by
 unfold gq128 gq128.F
 rw [gq129_eq]
 rfl
theorem Rise.lt {l : List (El kFile)} (h : Rise l) : ∀ (d i : Nat) (hi : i + d + 1 < l.length), sLt (l[i]'(by omega)).1 (l[i + d + 1]'hi).1 = true
 | 0, i, hi => h i hi
 | d + 1, i, hi => sLt_trans (Rise.lt h d i (by omega)) (h (i + d + 1) (by omega))
structure Pos (l : List (El kFile)) (name : ByteArray) (p : Nat) : Prop where
 le : p ≤ l.length
 lo : ∀ q (h : q < l.length), q < p → sLt l[q].1 name = true
 hi : ∀ q (h : q < l.length), p ≤ q → sLt l[q].1 name = false
theorem search_i {R : Type} (kke : List (El kFile) → ByteArray → Int → Int → Option R) (l : List (El kFile)) (hl : l.length ≤ 1000000) (hr : Rise l) (name : ByteArray) (n_ : Int) : ∀ (m fu i j : Nat), j ≤ i + m → m < fu → i ≤ j → j ≤ l.length →
  (∀ q (h : q < l.length), q < i → sLt l[q].1 name = true) → (∀ q (h : q < l.length), j ≤ q → sLt l[q].1 name = false) →
  ∃ p : Nat, gq127.l1 (cmpF name) kke fu l name n_ (i : Int) (j : Int) = kke l name n_ (p : Int) ∧ Pos l name p := by
 intro m
 induction m with
 | zero =>
  intro fu i j h1 hf h2 h3 hlo hhi
  obtain ⟨fu, rfl⟩ : ∃ q, fu = q + 1 := ⟨fu - 1, by omega⟩
  obtain rfl : i = j := by omega
  simp only [gq127.l1]
  rw [decide_f (by omega), cf]
  exact ⟨i, rfl, h3, hlo, hhi⟩
 | succ m ih =>
  intro fu i j h1 hf h2 h3 hlo hhi
  obtain ⟨fu, rfl⟩ : ∃ q, fu = q + 1 := ⟨fu - 1, by omega⟩
  simp only [gq127.l1]
  by_cases h : i < j
  ·have hk : (i + j) / 2 < l.length := by omega
   rw [decide_t (by omega), ct, grd_of (gSh_t (by decide)), half_mid i j h (by omega), grd_of (gIx_t (by omega) (by omega)), Int.toNat_natCast, rdE_at (k := kFile) hk]
   have ec : cmpF name ((l[(i + j) / 2].1, l[(i + j) / 2].2.1, l[(i + j) / 2].2.2, ()), name, ()) = some (cmpS l[(i + j) / 2].1 name, ()) := by
    unfold cmpF
    dsimp only
    rw [cmpF_eq]
    rfl
   rw [ec, bs]
   dsimp only
   rw [cmpS_lt, wr (by omega) (by omega), show (((i + j) / 2 : Nat) : Int) + 1 = (((i + j) / 2 + 1 : Nat) : Int) by omega]
   cases hc : sLt l[(i + j) / 2].1 name with
   | true =>
    rw [ct]
    refine ih fu ((i + j) / 2 + 1) j (by omega) (by omega) (by omega) h3 (fun q hq hlt => ?_) hhi
    by_cases he : q = (i + j) / 2
    ·subst he; exact hc
    ·obtain ⟨d, hd⟩ : ∃ d, (i + j) / 2 = q + d + 1 := ⟨(i + j) / 2 - q - 1, by omega⟩
     have h5 := hr.lt d q (by omega)
     simp only [← hd] at h5
     exact sLt_trans h5 hc
   | false =>
    rw [cf]
    refine ih fu i ((i + j) / 2) (by omega) (by omega) (by omega) (by omega) hlo (fun q hq hle => ?_)
    by_cases he : q = (i + j) / 2
    ·subst he; exact hc
    ·obtain ⟨d, rfl⟩ : ∃ d, q = (i + j) / 2 + d + 1 := ⟨q - (i + j) / 2 - 1, by omega⟩
     have h5 := hr.lt d ((i + j) / 2) (by omega)
     rw [← Bool.not_eq_true]
     intro h6
     rw [sLt_trans h5 h6] at hc
     cases hc
  ·obtain rfl : i = j := by omega
   rw [decide_f (by omega), cf]
   exact ⟨i, rfl, h3, hlo, hhi⟩
theorem fileAt_i (room : Int) (l : List (El kFile)) (hl : l.length ≤ 1000000) (hr : Rise l) (name : ByteArray) : ∃ p : Nat, gq76 room l name = some ((p : Int), match l[p]? with | some f => decide (f.1 = name) | none => false) ∧ Pos l name p := by
 unfold gq76 gq76.F gq127 gq127.F
 obtain ⟨p, e, hp⟩ := search_i (fun x1 target1 n_ i =>
  cond (decide (i < n_)) (
   grd (gIx i (List.length x1)) <|
   (cmpF name (((rdE kFile x1 (Int.toNat i)).1, (rdE kFile x1 (Int.toNat i)).2.1, (rdE kFile x1 (Int.toNat i)).2.2, ()), target1, ())).bind fun r =>
   some (i, (r.1 == (0 : Int)))) (some (i, false))) l hl hr name (l.length : Int) l.length fuel 0 l.length (by omega) (fuel_big (by omega)) (by omega) (Nat.le_refl _) (fun q _ h => by omega) (fun q h h' => by omega)
 refine ⟨p, ?_, hp⟩
 rw [Int.natCast_zero] at e
 refine (congrArg (fun z => Option.bind z fun r => some (r.1, r.2)) (show _ = _ from e)).trans ?_
 by_cases h : p < l.length
 ·rw [decide_t (by omega), ct, grd_of (gIx_t (by omega) (by omega)), Int.toNat_natCast, rdE_at (k := kFile) h, List.getElem?_eq_getElem h]
  have ec : cmpF name ((l[p].1, l[p].2.1, l[p].2.2, ()), name, ()) = some (cmpS l[p].1 name, ()) := by
   unfold cmpF
   dsimp only
   rw [cmpF_eq]
   rfl
  rw [ec, bs]
  dsimp only
  rw [cmpS_zero]
  rfl
 ·rw [decide_f (by omega), cf, List.getElem?_eq_none (by omega)]
  rfl
theorem Pos.of_mem {l : List (El kFile)} {name : ByteArray} {p k : Nat} (hp : Pos l name p) (hr : Rise l) (hk : k < l.length) (e : l[k].1 = name) : p = k := by
 rcases Nat.lt_trichotomy p k with h | h | h
 ·obtain ⟨d, rfl⟩ : ∃ d, k = p + d + 1 := ⟨k - p - 1, by omega⟩
  have h5 := hr.lt d p hk
  rw [e, hp.hi p (by omega) (Nat.le_refl _)] at h5
  cases h5
 ·exact h
 ·have h5 := hp.lo k hk h
  rw [e, sLt_irrefl] at h5
  cases h5
end Go.Proofs.YtaanadbpnmcbcaaGreatDoorA
namespace Go.Proofs.YtaanadbpnmcbcaaGreatDoorA
open Go
set_option linter.unusedVariables false
set_option linter.unusedSimpArgs false
theorem DK.Rise {room : Int} {l : List (El kFile)} (h : DK room l) : Rise l := h.rise
theorem put2 {R : Type} {k : Nat} (kke : Bool → ByteArray → ByteArray → Int → Int → Int → List (El kFile) → Option R) (room : Int) (l : List (El kFile)) (hl : l.length ≤ 1000000) (f f1 : ByteArray) (f2 : Int) (hne : ∀ q (h : q < l.length), k < q → l[q].1 ≠ f) :
  ∀ (m fu i : Nat) (out : List (El kFile)), i + m = l.length → m < fu → k < i → out.length + m ≤ 2000000 → gq125.l2 kke fu true (i : Int) room l f f1 f2 0 room out = kke true f f1 f2 0 room (out ++ l.drop i) := by
 intro m
 induction m with
 | zero =>
  intro fu i out e hf hk ho
  obtain ⟨fu, rfl⟩ : ∃ q, fu = q + 1 := ⟨fu - 1, by omega⟩
  simp only [gq125.l2]
  rw [decide_f (by omega), cf, List.drop_of_length_le (by omega), List.append_nil]
 | succ m ih =>
  intro fu i out e hf hk ho
  obtain ⟨fu, rfl⟩ : ∃ q, fu = q + 1 := ⟨fu - 1, by omega⟩
  have hi : i < l.length := by omega
  simp only [gq125.l2, gq125.j1]
  rw [decide_t (by omega), ct, Bool.not_true, cf, grd_of (gIx_t (by omega) (by omega)), Int.toNat_natCast, rdE_at (k := kFile) hi, sEq_dec, decide_f (hne i hi hk), Bool.not_false, ct, grd_of (gIx_t (by omega) (by omega)), grd_of (gRm_t (by simp; omega)), wr (by omega) (by omega), show ((i : Int) + 1) = ((i + 1 : Nat) : Int) by omega,
   ih fu (i + 1) _ (by omega) (by omega) (by omega) (by simp; omega), drop_cons hi, List.append_assoc]
  rfl
theorem put1 {R : Type} (kke : Bool → ByteArray → ByteArray → Int → Int → Int → List (El kFile) → Option R) (room : Int) (l : List (El kFile)) (hl : l.length ≤ 1000000) (f f1 : ByteArray) (f2 : Int) (k : Nat) (hk : k < l.length) (he : l[k].1 = f) (hlo : ∀ q (h : q < l.length), q < k → sLt l[q].1 f = true) (hne : ∀ q (h : q < l.length), k < q → l[q].1 ≠ f) :
  ∀ (m fu i : Nat), i + m = k → l.length < fu + i → gq125.l2 kke fu false (i : Int) room l f f1 f2 0 room (l.take i) = kke true f f1 f2 0 room (l.take k ++ [(f, (f1, f2))] ++ l.drop (k + 1)) := by
 intro m
 induction m with
 | zero =>
  intro fu i e hf
  obtain rfl : i = k := by omega
  obtain ⟨fu, rfl⟩ : ∃ q, fu = q + 1 := ⟨fu - 1, by omega⟩
  simp only [gq125.l2, gq125.j1]
  rw [decide_t (by omega), ct, Bool.not_false, ct, grd_of (gIx_t (by omega) (by omega)), Int.toNat_natCast, rdE_at (k := kFile) hk, he, sLt_irrefl, Bool.not_false, ct, grd_of (gRm_t (by simp; omega)), grd_of (gIx_t (by omega) (by omega)), sEq_self, Bool.not_true, cf, wr (by omega) (by omega), show ((i : Int) + 1) = ((i + 1 : Nat) : Int) by omega]
  exact put2 (k := i) kke room l hl f f1 f2 hne (l.length - (i + 1)) fu (i + 1) _ (by omega) (by omega) (by omega) (by simp; omega)
 | succ m ih =>
  intro fu i e hf
  obtain ⟨fu, rfl⟩ : ∃ q, fu = q + 1 := ⟨fu - 1, by omega⟩
  have hi : i < l.length := by omega
  have h1 := hlo i hi (by omega)
  simp only [gq125.l2, gq125.j1]
  rw [decide_t (by omega), ct, Bool.not_false, ct, grd_of (gIx_t (by omega) (by omega)), Int.toNat_natCast, rdE_at (k := kFile) hi, h1, Bool.not_true, cf, grd_of (gIx_t (by omega) (by omega)), sEq_dec, decide_f (sLt_ne h1), Bool.not_false, ct, grd_of (gIx_t (by omega) (by omega)), grd_of (gRm_t (by simp; omega)), wr (by omega) (by omega), show ((i : Int) + 1) = ((i + 1 : Nat) : Int) by omega, ← take_snoc hi]
  exact ih fu (i + 1) (by omega) (by omega)
theorem put_s (room : Int) (l : List (El kFile)) (hl : l.length ≤ 1000000) (hr : Rise l) (f f1 : ByteArray) (f2 : Int) (k : Nat) (hk : k < l.length) (he : l[k].1 = f) : gq125 room l f f1 f2 = some (room, l.set k (f, (f1, f2))) := by
 unfold gq125 gq125.F
 have hlo : ∀ q (h : q < l.length), q < k → sLt l[q].1 f = true := fun q h hq => by
  obtain ⟨d, rfl⟩ : ∃ d, k = q + d + 1 := ⟨k - q - 1, by omega⟩
  have := hr.lt d q hk
  rwa [he] at this
 have hne : ∀ q (h : q < l.length), k < q → l[q].1 ≠ f := fun q h hq => by
  obtain ⟨d, rfl⟩ : ∃ d, q = k + d + 1 := ⟨q - k - 1, by omega⟩
  have := hr.lt d k h
  rw [he] at this
  exact (sLt_ne this).symm
 have := put1 (fun put f f1 f2 i out l =>
  cond (!put) (
   grd (gRm (((List.length l) + (List.length [(f, (f1, f2))])) * 40)) <|
   some (out, l ++ [(f, (f1, f2))])) (some (out, l))) room l hl f f1 f2 k hk he hlo hne k fuel 0 (by omega) (fuel_big (by omega))
 rw [List.take_zero, Int.natCast_zero] at this
 refine (show _ = _ from this).trans ?_
 rw [Bool.not_true, cf, List.set_eq_take_append_cons_drop, if_pos hk, List.append_assoc]
 rfl
end Go.Proofs.YtaanadbpnmcbcaaGreatDoorA
namespace Go.Proofs.YtaanadbpnmcbcaaGreatDoorA
open Go
set_option linter.unusedVariables false
set_option linter.unusedSimpArgs false
theorem file_found {room : Int} {l : List (El kFile)} (h : DK room l) {k : Nat} (hk : k < l.length) : gq76 room l l[k].1 = some ((k : Int), true) := by
 obtain ⟨p, e, hp⟩ := fileAt_i room l (by have := h.len; omega) h.Rise l[k].1
 obtain rfl := hp.of_mem h.Rise hk rfl
 rw [e, List.getElem?_eq_getElem hk]
 dsimp only
 rw [decide_t rfl]
theorem find_found {room : Int} {l : List (El kFile)} (h : DK room l) {k : Nat} (hk : k < l.length) : gq124 room l l[k].1 = some (k : Int) := by
 rw [findV_s room l (by have := h.len; omega), h.find hk]
theorem do_drop {room : Int} {l : List (El kFile)} (h : DK room l) {k : Nat} (hk : k < l.length) (N : Int) (a b : ByteArray) (c : List Int) : gq55 room l 4 N l[k].1 a b c = some (0, room, l.take k ++ l.drop (k + 1)) := by
 have hl := h.len
 unfold gq55 gq55.F
 rw [show ((4 : Int) == 1) = false from rfl, cf, show ((4 : Int) == 5) = false from rfl, cf, within_eq, bs, show (decide ((2 : Int) ≤ 4) && decide ((4 : Int) ≤ 6)) = true from rfl, Bool.not_true, cf, file_found h hk, bs]
 dsimp only
 rw [Bool.not_true, cf, grd_of (gIx_t (by omega) (by omega)), show ((4 : Int) == 2) = false from rfl, cf, show ((4 : Int) == 3) = false from rfl, cf, show ((4 : Int) == 4) = true from rfl, ct, wr (by omega) (by omega)]
 unfold gq107 gq107.F
 rw [decide_t (by omega), decide_t (by omega), decide_t (by omega), Bool.and_self, Bool.and_self, grd_t, bs, Int.toNat_natCast, show ((k : Int) + 1).toNat = k + 1 by omega]
theorem do_cut {room : Int} {l : List (El kFile)} (h : DK room l) {k : Nat} (hk : k < l.length) (N : Int) (h0 : 0 ≤ N) (h1 : N ≤ (ByteArray.size l[k].2.1 : Int)) (a b : ByteArray) (c : List Int) :
  gq55 room l 6 N l[k].1 a b c = some (0, room, l.set k (l[k].1, (cut l[k].2.1 0 N, mn2 l[k].2.2 N))) := by
 have hl := h.len
 unfold gq55 gq55.F
 rw [show ((6 : Int) == 1) = false from rfl, cf, show ((6 : Int) == 5) = false from rfl, cf, within_eq, bs, show (decide ((2 : Int) ≤ 6) && decide ((6 : Int) ≤ 6)) = true from rfl, Bool.not_true, cf, file_found h hk, bs]
 dsimp only
 rw [Bool.not_true, cf, grd_of (gIx_t (by omega) (by omega)), show ((6 : Int) == 2) = false from rfl, cf, show ((6 : Int) == 3) = false from rfl, cf, show ((6 : Int) == 4) = false from rfl, cf, show ((6 : Int) == 6) = true from rfl, ct, Int.toNat_natCast, rdE_at (k := kFile) hk, within_eq, bs, decide_t h0, decide_t h1, Bool.and_self, Bool.not_true, cf, grd_of (gSl_t (by decide) h0 h1), rdE_setE (k := kFile) _ _ _ hk, setE_setE]
 rfl
theorem step_drop {room : Int} {l : List (El kFile)} (h : DK room l) {k : Nat} (hk : k < l.length) (N : Int) (a b : ByteArray) (c : List Int) : gq74 room l 4 N l[k].1 a b c = some (room, l.take k ++ l.drop (k + 1), 0) := by
 have hl := h.len
 unfold gq74 gq74.F gq74.j1
 rw [show ((4 : Int) == 1) = false from rfl, cf, show ((4 : Int) == 5) = false from rfl, cf, show ((4 : Int) == 2) = false from rfl, cf, show ((4 : Int) == 3) = false from rfl, cf, show ((4 : Int) == 4) = true from rfl, ct]
 dsimp only
 rw [find_found h hk, bs, decide_f (by omega), cf, grd_of (gIx_t (by omega) (by omega)), show ((4 : Int) == 2) = false from rfl, cf, show ((4 : Int) == 4) = true from rfl, ct]
 unfold gq126 gq126.F
 have l1 := sub_length l (a := 0) (b := (k : Int)) (by decide) (by omega) (by omega)
 rw [wr (by omega) (by omega)]
 have l2 := sub_length l (a := (k : Int) + 1) (b := (l.length : Int)) (by omega) (by omega) (by omega)
 rw [grd_of (gSl_t (by decide) (by omega) (by omega)), grd_of (gRm_t (by simp only [List.length_nil]; omega)), grd_of (gSl_t (by omega) (by omega) (by omega)), grd_of (gRm_t (by rw [List.length_append]; simp only [List.length_nil]; omega)), bs, List.nil_append, sub_take, sub_drop l _ rfl, Int.toNat_natCast, show ((k : Int) + 1).toNat = k + 1 by omega]
theorem step_cut {room : Int} {l : List (El kFile)} (h : DK room l) {k : Nat} (hk : k < l.length) (N : Int) (h0 : 0 ≤ N) (h1 : N ≤ (ByteArray.size l[k].2.1 : Int)) (a b : ByteArray) (c : List Int) :
  gq74 room l 6 N l[k].1 a b c = some (room, l.set k (l[k].1, (cut l[k].2.1 0 N, mn2 l[k].2.2 N)), 0) := by
 have hl := h.len
 unfold gq74 gq74.F gq74.j1
 rw [show ((6 : Int) == 1) = false from rfl, cf, show ((6 : Int) == 5) = false from rfl, cf, show ((6 : Int) == 2) = false from rfl, cf, show ((6 : Int) == 3) = false from rfl, cf, show ((6 : Int) == 4) = false from rfl, cf, show ((6 : Int) == 6) = true from rfl, ct]
 dsimp only
 rw [find_found h hk, bs, decide_f (by omega), cf, grd_of (gIx_t (by omega) (by omega)), show ((6 : Int) == 2) = false from rfl, cf, show ((6 : Int) == 4) = false from rfl, cf, show ((6 : Int) == 6) = true from rfl, ct, Int.toNat_natCast, rdE_at (k := kFile) hk, l01In_eq, bs, decide_t h0, decide_t h1, Bool.and_self, Bool.not_true, cf, grd_of (gSl_t (by decide) h0 h1), put_s room l (by omega) h.Rise _ _ _ k hk rfl, bs]
theorem wGo_last : ∀ (S : List (El kFile)) (f0 : El kFile) (last F : Int) (R N : List ByteArray) (T : Int), (wGo (f0 :: S) last F R N T).2.2.2.2 = 0 →
  ∃ f N', f ∈ f0 :: S ∧ (wGo (f0 :: S) last F R N T).2.2.1 = N' ++ [f.1] ∧ (wGo (f0 :: S) last F R N T).2.2.2.1 = (ByteArray.size f.2.1 : Int) - (frF f).2.1
 | [], f0, last, F, R, N, T, h => by
  unfold wGo at h ⊢
  cases hc : cW F R N last f0 ([] : List (El kFile)).isEmpty != 0 with
  | true =>
   rw [hc, ct] at h
   have : cW F R N last f0 ([] : List (El kFile)).isEmpty ≠ 0 := by simpa using hc
   exact absurd h this
  | false => exact ⟨f0, N, by simp, rfl, rfl⟩
 | f1 :: S, f0, last, F, R, N, T, h => by
  unfold wGo at h ⊢
  cases hc : cW F R N last f0 (f1 :: S).isEmpty != 0 with
  | true =>
   rw [hc, ct] at h
   have : cW F R N last f0 (f1 :: S).isEmpty ≠ 0 := by simpa using hc
   exact absurd h this
  | false =>
   rw [hc, cf] at h
   rw [cf]
   obtain ⟨f, N', h1, h2, h3⟩ := wGo_last S f1 _ _ _ _ _ h
   exact ⟨f, N', List.mem_cons_of_mem _ h1, h2, h3⟩
theorem wV_last {room : Int} {l : List (El kFile)} (h : DK room l) (h0 : (wV l).2.2.2.2 = 0) : (wV l).2.2.2.1 = 0 ∨ ∃ (k : Nat) (hk : k < l.length) (N' : List ByteArray), (wV l).2.2.1 = N' ++ [l[k].1] ∧ (wV l).2.2.2.1 = (ByteArray.size l[k].2.1 : Int) - (frF l[k]).2.1 ∧ 0 < segB l[k].1 := by
 unfold wV at h0 ⊢
 cases hs : segs l with
 | nil => exact .inl rfl
 | cons f0 S =>
  rw [hs] at h0
  obtain ⟨f, N', h1, h2, h3⟩ := wGo_last S f0 _ _ _ _ _ h0
  rw [← hs] at h1
  unfold segs at h1
  rw [List.mem_filter, decide_eq_true_iff] at h1
  obtain ⟨k, hk, rfl⟩ := List.mem_iff_getElem.1 h1.1
  exact .inr ⟨k, hk, N', h2, h3, h1.2⟩
theorem clone_i (l : List (El kFile)) (hl : l.length ≤ 10000000) : gq101 l = some l := by
 unfold gq101 gq101.F
 rw [grd_of (gRm_t (by simp only [List.length_nil]; omega)), List.nil_append]
 cases l with
 | nil => rw [List.isEmpty_nil, ct, agree_self]
 | cons f r => rw [List.isEmpty_cons, cf]
theorem last_i (F : Int) (R N' : List ByteArray) (x : ByteArray) (T : Int) (hN : N'.length ≤ 1000000) : gq75 F R (N' ++ [x]) T = some x := by
 unfold gq75 gq75.F
 have e : (List.length (N' ++ [x]) : Int) = (N'.length : Int) + 1 := by simp
 rw [e, show (((N'.length : Int) + 1) == 0) = false by rw [beq_eq_false_iff_ne]; omega, cf, wr (by omega) (by omega), show ((N'.length : Int) + 1 - 1) = (N'.length : Int) by omega, grd_of (gIx_t (by omega) (by simp; omega)), Int.toNat_natCast, rdE_at (k := .str) (show N'.length < List.length (α := ByteArray) (N' ++ [x]) by simp)]
 simp
theorem last_any (F : Int) (R N : List ByteArray) (T : Int) (hN : N.length ≤ 1000000) : ∃ x, gq75 F R N T = some x := by
 rcases List.eq_nil_or_concat N with rfl | ⟨N', x, rfl⟩
 ·exact ⟨_, rfl⟩
 ·rw [List.concat_eq_append] at hN ⊢
  exact ⟨x, last_i F R N' x T (by simp at hN; omega)⟩
theorem wGo_names : ∀ (S : List (El kFile)) (last F : Int) (R N : List ByteArray) (T : Int), (wGo S last F R N T).2.2.1.length ≤ N.length + S.length
 | [], _, _, _, N, _ => by unfold wGo; simp
 | f :: S, last, F, R, N, T => by
  unfold wGo
  cases cW F R N last f S.isEmpty != 0 with
  | true => rw [ct]; simp [wErr]
  | false =>
   rw [cf]
   have := wGo_names S (segB f.1) (fW F N f) (R ++ (frF f).1.tail) (N ++ [f.1]) ((ByteArray.size f.2.1 : Int) - (frF f).2.1)
   simp only [List.length_append, List.length_cons, List.length_nil] at this ⊢
   omega
theorem repair_eq (room : Int) (l : List (El kFile)) (hl : l.length ≤ 10000000) (hf : DFit l) : ∃ r, gq30 room l = some r ∧ gq31 room l = some r ∧ r.2.1.length ≤ 100 := by
 unfold gq30 gq30.F gq31 gq31.F
 rw [walRead_i room l (by omega) hf, walRead_s room l (by omega) hf, bs, bs]
 by_cases hc : (readV room l).2.2.2.2 = 0
 ·rw [show ((readV room l).2.2.2.2 != 0) = false by rw [hc]; rfl, cf, cf]
  unfold readV at hc ⊢
  cases hd : dOK room l with
  | false =>
   rw [hd, cf] at hc
   exact absurd hc (by decide)
  | true =>
   rw [hd, ct] at hc
   rw [ct]
   have h := dOK_DK hd
   have h8 := h.len
   unfold gq53 gq53.F
   rw [clone_i l hl, bs]
   have hnm : (wV l).2.2.1.length ≤ 8 := by
    have := wGo_names (segs l) 0 0 [] [] 0
    have h2 := segs_len l
    simp only [List.length_nil] at this
    show (wGo (segs l) 0 0 [] [] 0).2.2.1.length ≤ 8
    omega
   rcases wV_last h hc with hT | ⟨k, hk, N', hN, hT, hseg⟩
   ·obtain ⟨x, hx⟩ := last_any (wV l).1 (wV l).2.1 (wV l).2.2.1 (wV l).2.2.2.1 (by omega)
    rw [hx, bs, bs, hT, decide_f (by decide), cf]
    unfold gq77 gq77.F gq50 gq50.F
    rw [show ((0 : Int) == 0) = true from rfl, ct, bs, grd_of (gRm_t (by simp only [List.length_nil]; omega)), bs, List.nil_append]
    exact ⟨_, rfl, rfl, by show l.length ≤ 100; omega⟩
   ·obtain ⟨_, _, u0, u1⟩ := frF_size l[k]
    have hsz := h.data (List.getElem_mem hk)
    have hN8 : N'.length ≤ 8 := by rw [hN] at hnm; simp at hnm; omega
    rw [hN, last_i _ _ N' l[k].1 _ (by omega), bs, bs, hT]
    unfold gq77 gq77.F
    by_cases ht : (ByteArray.size l[k].2.1 : Int) - (frF l[k]).2.1 = 0
    ·rw [ht, decide_f (by decide), cf, show ((0 : Int) == 0) = true from rfl, ct, bs]
     unfold gq50 gq50.F
     rw [grd_of (gRm_t (by simp only [List.length_nil]; omega)), bs, List.nil_append]
     exact ⟨_, rfl, rfl, by show l.length ≤ 100; omega⟩
    ·have e : (List.length (N' ++ [l[k].1]) : Int) = (N'.length : Int) + 1 := by simp
     have er : rdE (.str : Kd) (N' ++ [l[k].1]) N'.length = l[k].1 := by
      rw [rdE_at (k := .str) (show N'.length < List.length (α := ByteArray) (N' ++ [l[k].1]) by simp)]
      simp
     have hns : ByteArray.size l[k].1 ≤ 1000000000000000 := h.fit _ (List.getElem_mem hk)
     rw [decide_t (by omega), ct, file_found h hk, bs, show ((ByteArray.size l[k].2.1 : Int) - (frF l[k]).2.1 == 0) = false by simpa using ht, cf, e, wr (x := (N'.length : Int) + 1 - 1) (by omega) (by omega), show ((N'.length : Int) + 1 - 1) = (N'.length : Int) by omega, grd_of (gIx_t (i := (N'.length : Int)) (by omega) (by simp; omega)), Int.toNat_natCast N'.length, er, segB_s _ hns, bs, data_s h hk hseg, bs]
     dsimp only
     rw [grd_of (gIx_t (by omega) (by omega)), Int.toNat_natCast k, rdE_at (k := kFile) hk, wr (x := (ByteArray.size l[k].2.1 : Int) - ((ByteArray.size l[k].2.1 : Int) - (frF l[k]).2.1)) (by omega) (by omega), show (ByteArray.size l[k].2.1 : Int) - ((ByteArray.size l[k].2.1 : Int) - (frF l[k]).2.1) = (frF l[k]).2.1 by omega]
     by_cases hz : (frF l[k]).2.1 = 0
     ·rw [hz, show ((0 : Int) == 0) = true from rfl, ct, do_drop h hk, bs, show ((ByteArray.size l[k].2.1 : Int) - 0 == (ByteArray.size l[k].2.1 : Int)) = true by simp, ct, step_drop h hk, bs, bs]
      unfold gq50 gq50.F
      have hlen : (l.take k ++ l.drop (k + 1)).length ≤ 100 := by simp; omega
      dsimp only
      rw [grd_of (gRm_t (by simp only [List.length_nil]; omega)), bs, List.nil_append]
      exact ⟨_, rfl, rfl, hlen⟩
     ·rw [show ((frF l[k]).2.1 == 0) = false by simpa using hz, cf, do_cut h hk _ u0 u1, bs, show ((ByteArray.size l[k].2.1 : Int) - (frF l[k]).2.1 == (ByteArray.size l[k].2.1 : Int)) = false by rw [beq_eq_false_iff_ne]; omega, cf, step_cut h hk _ u0 u1, bs, bs]
      unfold gq50 gq50.F
      have hlen : (l.set k (l[k].1, (cut l[k].2.1 0 (frF l[k]).2.1, mn2 l[k].2.2 (frF l[k]).2.1))).length ≤ 100 := by rw [List.length_set]; omega
      dsimp only
      rw [grd_of (gRm_t (by simp only [List.length_nil]; omega)), bs, List.nil_append]
      exact ⟨_, rfl, rfl, hlen⟩
 ·rw [show ((readV room l).2.2.2.2 != 0) = true by simpa using hc, ct, ct]
  exact ⟨_, rfl, rfl, by simp⟩
end Go.Proofs.YtaanadbpnmcbcaaGreatDoorA
namespace Go.Proofs.YtaanadbpnmcbcaaGreatDoorA
open Go
set_option linter.unusedVariables false
set_option linter.unusedSimpArgs false
structure DP (room : Int) (l : List (El kFile)) : Prop where
 rm : 0 ≤ room ∧ room ≤ 3000
 len : l.length ≤ 8
 tot : (totF l : Int) ≤ room
 name : ∀ f ∈ l, nameB f.1 = true
 rise : l.Pairwise fun a b => sLt a.1 b.1 = true
 sure : ∀ f ∈ l, (0 : Int) ≤ f.2.2 ∧ (f.2.2 : Int) ≤ (ByteArray.size f.2.1 : Int)
theorem DK.dp {room : Int} {l : List (El kFile)} (h : DK room l) : DP room l := by
 refine ⟨h.rm, h.len, h.tot, fun f hf => ?_, ?_, fun f hf => ?_⟩
 ·obtain ⟨i, hi, rfl⟩ := List.getElem_of_mem hf
  exact h.name i hi
 ·rw [List.pairwise_iff_getElem]
  intro i j hi hj hij
  obtain ⟨d, rfl⟩ : ∃ d, j = i + d + 1 := ⟨j - i - 1, by omega⟩
  exact h.lt d i hj
 ·obtain ⟨i, hi, rfl⟩ := List.getElem_of_mem hf
  exact h.sure i hi
theorem DP.dk {room : Int} {l : List (El kFile)} (h : DP room l) : DK room l :=
 ⟨h.rm, h.len, h.tot, fun i hi => h.name _ (List.getElem_mem hi), fun i hi => List.pairwise_iff_getElem.1 h.rise i (i + 1) (by omega) hi (by omega), fun i hi => h.sure _ (List.getElem_mem hi)⟩
theorem totF_sub {l m : List (El kFile)} (h : l.Sublist m) : totF l ≤ totF m := by
 induction h with
 | slnil => exact Nat.le_refl _
 | cons a _ ih => simp only [totF]; omega
 | cons_cons a _ ih => simp only [totF]; omega
theorem DP.sub {room : Int} {l m : List (El kFile)} (h : DP room m) (hs : l.Sublist m) : DP room l := by
 have h1 := totF_sub hs
 have h2 := hs.length_le
 have h3 := h.tot
 have h4 := h.len
 exact ⟨h.rm, by omega, by omega, fun f hf => h.name f (hs.subset hf), h.rise.sublist hs, fun f hf => h.sure f (hs.subset hf)⟩
theorem fAllOK_of (l : List (El kFile)) : ∀ (m j : Nat), (∀ i, j ≤ i → i < j + m → fOK l i = true) → fAllOK l m j = true
 | 0, _, _ => rfl
 | m + 1, j, h => by
  simp only [fAllOK]
  rw [h j (Nat.le_refl _) (by omega), fAllOK_of l m (j + 1) fun i h1 h2 => h i (by omega) (by omega)]
  rfl
theorem DP.ok {room : Int} {l : List (El kFile)} (h : DP room l) : dOK room l = true := by
 have hk := h.dk
 unfold dOK
 rw [decide_t h.rm.1, decide_t h.rm.2, decide_t h.len, decide_t h.tot, fAllOK_of l _ 0 fun i _ hi => ?_]
 ·rfl
 ·have hi : i < l.length := by omega
  unfold fOK
  rw [rdE_at (k := kFile) hi, hk.name i hi, decide_t (hk.sure i hi).1, decide_t (hk.sure i hi).2, Bool.true_and, Bool.and_self, Bool.and_true]
  by_cases h0 : i = 0
  ·rw [decide_t h0, Bool.true_or]
  ·rw [rdE_at (k := kFile) (show i - 1 < l.length by omega)]
   have := hk.rise (i - 1) (by omega)
   simp only [show i - 1 + 1 = i by omega] at this
   rw [this, Bool.or_true]
theorem nmV_bytes (n : Nat) (h : n ≤ 99) : IsBytes [(115 : Int), 48 + (n : Int) / 10, 48 + (n : Int) % 10] := by
 intro y hy
 simp only [List.mem_cons, List.not_mem_nil, or_false] at hy
 rcases hy with rfl | rfl | rfl <;> omega
theorem segB_nm (n : Nat) (h : n ≤ 99) : segB (nmV n) = (n : Int) := by
 unfold segB nmV
 rw [bytesL_strL (nmV_bytes n h)]
 have d1 : digB (48 + (n : Int) / 10) = true := by unfold digB; rw [decide_t (by omega), decide_t (by omega)]; rfl
 have d2 : digB (48 + (n : Int) % 10) = true := by unfold digB; rw [decide_t (by omega), decide_t (by omega)]; rfl
 show cond ((115 : Int) == 115 && (digB (48 + (n : Int) / 10) && digB (48 + (n : Int) % 10))) ((48 + (n : Int) / 10 - 48) * 10 + (48 + (n : Int) % 10 - 48)) 0 = n
 rw [d1, d2, show ((115 : Int) == 115) = true from rfl, Bool.and_self, Bool.and_self, ct]
 omega
end Go.Proofs.YtaanadbpnmcbcaaGreatDoorA
namespace Go.Proofs.YtaanadbpnmcbcaaGreatDoorA
open Go
set_option linter.unusedVariables false
set_option linter.unusedSimpArgs false
def Fr1 (d : List Int) : Prop := IsBytes d ∧ 1 ≤ d.length ∧ d.length ≤ 200
theorem frL_two (d r : List Int) : (frL d ++ r).take 2 = beL d.length 2 := by
 have e : frL d ++ r = beL d.length 2 ++ (beL (crcV (beL d.length 2 ++ d)) 4 ++ (d ++ r)) := by simp only [frL, List.append_assoc]
 rw [e]
 exact List.take_left' (beL_length _ _)
theorem frL_six (d r : List Int) : (frL d ++ r).drop 6 = d ++ r := by
 have e : frL d ++ r = (beL d.length 2 ++ beL (crcV (beL d.length 2 ++ d)) 4) ++ (d ++ r) := by simp only [frL, List.append_assoc]
 rw [e]
 exact List.drop_left' (by rw [List.length_append, beL_length, beL_length])
theorem beN_two {d : List Int} (h : Fr1 d) : beN 0 (beL d.length 2) = (d.length : Int) := beN_beL _ 2 (by omega) (by have := h.2.2; omega)
theorem frAt_full {d : List Int} (h : Fr1 d) (r : List Int) : frAt (frL d ++ r) = (d, 0) := by
 obtain ⟨h0, h1, h2⟩ := h
 have hl : (frL d ++ r).length = 6 + d.length + r.length := by rw [List.length_append, frL_len]
 unfold frAt
 rw [if_neg (by omega), frL_two, beN_two ⟨h0, h1, h2⟩, if_neg (fun h => h ⟨by omega, by omega⟩), Int.toNat_natCast, if_neg (by omega), frL_six, List.take_left' rfl, List.take_left' (frL_len d), if_pos rfl]
theorem frAt_part {d : List Int} (h : Fr1 d) {p : Nat} (hp : p < (frL d).length) : frAt ((frL d).take p) = ([], 16) := by
 obtain ⟨h0, h1, h2⟩ := h
 rw [frL_len] at hp
 have hl : ((frL d).take p).length = p := by rw [List.length_take, frL_len]; omega
 unfold frAt
 by_cases h6 : p < 6
 ·rw [if_pos (by omega)]
 ·have e2 : ((frL d).take p).take 2 = beL d.length 2 := by
   rw [List.take_take, Nat.min_eq_left (by omega)]
   have := frL_two d []
   rwa [List.append_nil] at this
  rw [if_neg (by omega), e2, beN_two ⟨h0, h1, h2⟩, if_neg (fun h => h ⟨by omega, by omega⟩), Int.toNat_natCast, if_pos (by omega)]
def recs (ds : List (List Int)) : List Int := (ds.map frL).flatten
theorem recs_nil : recs [] = [] := rfl
theorem recs_cons (d : List Int) (ds : List (List Int)) : recs (d :: ds) = frL d ++ recs ds := rfl
theorem recs_append (a b : List (List Int)) : recs (a ++ b) = recs a ++ recs b := by
 unfold recs
 rw [List.map_append, List.flatten_append]
theorem recs_bytes {ds : List (List Int)} (h : ∀ d ∈ ds, Fr1 d) : IsBytes (recs ds) := by
 induction ds with
 | nil => exact IsBytes.nil
 | cons d ds ih => exact (frL_bytes (h d (by simp)).1).append (ih fun x hx => h x (by simp [hx]))
theorem recs_len {ds : List (List Int)} : ds.length ≤ (recs ds).length := by
 induction ds with
 | nil => exact Nat.le_refl _
 | cons d ds ih =>
  rw [recs_cons, List.length_append, frL_len, List.length_cons]
  omega
theorem frs_nil0 (m : Nat) : frs m [] = ([], 0, 0) := by
 cases m with
 | zero => rfl
 | succ m => rfl
theorem frs_all : ∀ (ds : List (List Int)) (m : Nat) (r : List Int), (∀ d ∈ ds, Fr1 d) → ds.length ≤ m →
  frs m (recs ds ++ r) = (ds.map strL ++ (frs (m - ds.length) r).1, (recs ds).length + (frs (m - ds.length) r).2.1, (frs (m - ds.length) r).2.2)
 | [], m, r, _, _ => by simp [recs_nil]
 | d :: ds, 0, r, _, h => by simp at h
 | d :: ds, m + 1, r, hd, h => by
  rw [List.length_cons] at h
  have e : frAt (recs (d :: ds) ++ r) = (d, 0) := by
   rw [recs_cons, List.append_assoc]
   exact frAt_full (hd d (by simp)) _
  have el : (recs (d :: ds) ++ r).length ≠ 0 := by
   rw [recs_cons, List.length_append, List.length_append, frL_len]
   omega
  have ed : (recs (d :: ds) ++ r).drop (6 + d.length) = recs ds ++ r := by
   rw [recs_cons, List.append_assoc]
   exact List.drop_left' (frL_len d)
  rw [frs, if_neg el, e]
  dsimp only
  rw [if_pos rfl, ed, frs_all ds m r (fun x hx => hd x (by simp [hx])) (by omega)]
  dsimp only
  rw [recs_cons, List.length_append, frL_len, List.length_cons, List.map_cons, List.cons_append, Nat.add_sub_add_right]
  simp only [Nat.add_assoc]
theorem frT_all {ds : List (List Int)} (h : ∀ d ∈ ds, Fr1 d) : frT (recs ds) = (ds.map strL, ((recs ds).length : Int), 0) := by
 unfold frT
 have e := frs_all ds (recs ds).length [] h recs_len
 rw [List.append_nil, frs_nil0] at e
 rw [e]
 simp
theorem frT_part {ds : List (List Int)} (h : ∀ d ∈ ds, Fr1 d) {d : List Int} (hd : Fr1 d) {p : Nat} (h0 : 0 < p) (hp : p < (frL d).length) : frT (recs ds ++ (frL d).take p) = (ds.map strL, ((recs ds).length : Int), 16) := by
 have hl : ((frL d).take p).length = p := by rw [List.length_take]; omega
 have hL : (recs ds ++ (frL d).take p).length = (recs ds).length + p := by rw [List.length_append, hl]
 have hr := recs_len (ds := ds)
 have e := frs_all ds ((recs ds).length + p) ((frL d).take p) h (by omega)
 obtain ⟨q, hq⟩ : ∃ q, (recs ds).length + p - ds.length = q + 1 := ⟨(recs ds).length + p - ds.length - 1, by omega⟩
 rw [hq, frs, if_neg (by omega), frAt_part hd hp] at e
 dsimp only at e
 rw [if_neg (by decide)] at e
 unfold frT
 rw [hL, e]
 simp
theorem recs_cut : ∀ (ds : List (List Int)) (p : Nat), p ≤ (recs ds).length →
  ∃ j, j ≤ ds.length ∧ (recs (ds.take j)).length ≤ p ∧ ((recs (ds.take j)).length = p ∧ (recs ds).take p = recs (ds.take j) ∨
   ∃ (hj : j < ds.length), (recs (ds.take j)).length < p ∧ p < (recs (ds.take (j + 1))).length ∧ p - (recs (ds.take j)).length < (frL ds[j]).length ∧ (recs ds).take p = recs (ds.take j) ++ (frL ds[j]).take (p - (recs (ds.take j)).length))
 | [], p, h => ⟨0, Nat.le_refl _, by simp [recs_nil], .inl ⟨by simp [recs_nil] at h ⊢; omega, by simp [recs_nil]⟩⟩
 | d :: ds, p, h => by
  rw [recs_cons, List.length_append] at h
  rcases Nat.lt_or_ge p (frL d).length with hlt | hge
  ·by_cases h0 : p = 0
   ·subst h0
    exact ⟨0, Nat.zero_le _, by simp [recs_nil], .inl ⟨by simp [recs_nil], by simp [recs_nil]⟩⟩
   ·refine ⟨0, Nat.zero_le _, by simp [recs_nil], .inr ⟨by simp, by simp [recs_nil]; omega, by simp [recs_cons, recs_nil]; exact hlt, by simp [recs_nil]; exact hlt, ?_⟩⟩
    simp only [List.take_zero, recs_nil, List.length_nil, Nat.sub_zero, List.nil_append, List.getElem_cons_zero, recs_cons]
    exact List.take_append_of_le_length (by omega)
  ·obtain ⟨j, h1, h2, h3⟩ := recs_cut ds (p - (frL d).length) (by omega)
   have et : ∀ i, recs ((d :: ds).take (i + 1)) = frL d ++ recs (ds.take i) := fun i => rfl
   have ep : (recs (d :: ds)).take p = frL d ++ (recs ds).take (p - (frL d).length) := by
    rw [recs_cons, List.take_append, List.take_of_length_le hge]
   refine ⟨j + 1, by rw [List.length_cons]; omega, by rw [et, List.length_append]; omega, ?_⟩
   rcases h3 with ⟨h4, h5⟩ | ⟨hj, h4, h5, h6, h7⟩
   ·exact .inl ⟨by rw [et, List.length_append]; omega, by rw [ep, h5, et]⟩
   ·refine .inr ⟨by rw [List.length_cons]; omega, by rw [et, List.length_append]; omega, by rw [et, List.length_append]; omega, ?_, ?_⟩
    ·rw [et, List.length_append, List.getElem_cons_succ]
     omega
    ·rw [ep, h7, et, List.length_append, List.getElem_cons_succ, List.append_assoc, Nat.sub_sub]
theorem recs_take_le (ds : List (List Int)) {i j : Nat} (h : i ≤ j) : (recs (ds.take i)).length ≤ (recs (ds.take j)).length := by
 have e : ds.take j = ds.take i ++ (ds.take j).drop i := by
  conv => lhs; rw [← List.take_append_drop i (ds.take j)]
  rw [List.take_take, Nat.min_eq_left h]
 rw [e, recs_append, List.length_append]
 omega
end Go.Proofs.YtaanadbpnmcbcaaGreatDoorA
namespace Go.Proofs.YtaanadbpnmcbcaaGreatDoorA
open Go
set_option linter.unusedVariables false
set_option linter.unusedSimpArgs false
def Rec1 (r : ByteArray) : Prop := 1 ≤ r.size ∧ r.size ≤ 110
def segD (F : Nat) (g : List ByteArray) : List (List Int) := beL F 4 :: g.map bytesL
def segF (n F : Nat) (g : List ByteArray) (sure : Int) : El kFile := (nmV n, (strL (recs (segD F g)), sure))
abbrev Gs := List (List ByteArray × Int)
def logF : Nat → Nat → Gs → List (El kFile)
 | _, _, [] => []
 | n, F, g :: gs => segF n F g.1 g.2 :: logF (n + 1) (F + g.1.length) gs
def allR (gs : Gs) : List ByteArray := (gs.map Prod.fst).flatten
def nms (n : Nat) : Nat → List ByteArray
 | 0 => []
 | m + 1 => nmV n :: nms (n + 1) m
def RecsOk (gs : Gs) : Prop := ∀ g ∈ gs, ∀ r ∈ g.1, Rec1 r
theorem allR_cons (g : List ByteArray × Int) (gs : Gs) : allR (g :: gs) = g.1 ++ allR gs := rfl
theorem allR_append (a b : Gs) : allR (a ++ b) = allR a ++ allR b := by
 unfold allR
 rw [List.map_append, List.flatten_append]
theorem logF_length : ∀ (gs : Gs) (n F : Nat), (logF n F gs).length = gs.length
 | [], _, _ => rfl
 | g :: gs, n, F => by simp only [logF, List.length_cons, logF_length gs]
theorem logF_append : ∀ (a b : Gs) (n F : Nat), logF n F (a ++ b) = logF n F a ++ logF (n + a.length) (F + (allR a).length) b
 | [], b, n, F => by simp [logF, allR]
 | g :: a, b, n, F => by
  rw [List.cons_append, logF, logF, logF_append a b, List.cons_append, allR_cons, List.length_append, List.length_cons, Nat.add_assoc, Nat.add_comm 1, Nat.add_assoc F]
theorem nms_length : ∀ (m n : Nat), (nms n m).length = m
 | 0, _ => rfl
 | m + 1, n => by rw [nms, List.length_cons, nms_length m]
theorem segD_ok (F : Nat) {g : List ByteArray} (h : ∀ r ∈ g, Rec1 r) : ∀ d ∈ segD F g, Fr1 d := by
 intro d hd
 rcases List.mem_cons.1 hd with rfl | hd
 ·exact ⟨beL_bytes _ _, by rw [beL_length]; decide, by rw [beL_length]; decide⟩
 ·obtain ⟨r, hr, rfl⟩ := List.mem_map.1 hd
  have := h r hr
  exact ⟨IsBytes.bytesL r, by rw [bytesL_length]; exact this.1, by rw [bytesL_length]; have := this.2; omega⟩
theorem map_strL (g : List ByteArray) : (g.map bytesL).map strL = g := by
 rw [List.map_map]
 conv => rhs; rw [← List.map_id g]
 congr 1
 funext x
 exact strL_bytesL x
theorem segD_str (F : Nat) (g : List ByteArray) : (segD F g).map strL = strL (beL F 4) :: g := by
 rw [segD, List.map_cons, map_strL]
theorem frF_recs {ds : List (List Int)} (h : ∀ d ∈ ds, Fr1 d) (nm : ByteArray) (s : Int) : frF (nm, (strL (recs ds), s)) = (ds.map strL, ((recs ds).length : Int), 0) := by
 unfold frF
 rw [bytesL_strL (recs_bytes h), frT_all h]
theorem frF_seg (n F : Nat) {g : List ByteArray} (h : ∀ r ∈ g, Rec1 r) (s : Int) : frF (segF n F g s) = (strL (beL F 4) :: g, ((recs (segD F g)).length : Int), 0) := by
 unfold segF
 rw [frF_recs (segD_ok F h), segD_str]
theorem wGo_seg {n F : Nat} {g : List ByteArray} (hg : ∀ r ∈ g, Rec1 r) (hn : n ≤ 99) (hF : F < 4294967296) (s : Int) (fs : List (El kFile)) (last F0 : Int) (R N : List ByteArray) (T : Int)
  (h : N.isEmpty = true ∨ N.isEmpty = false ∧ last + 1 = n ∧ (F : Int) = F0 + (R.length : Int)) :
  wGo (segF n F g s :: fs) last F0 R N T = wGo fs n (cond N.isEmpty (F : Int) F0) (R ++ g) (N ++ [nmV n]) 0 := by
 have hh : beN 0 (bytesL (strL (beL (F : Int) 4))) = (F : Int) := by
  rw [bytesL_strL (beL_bytes _ _)]
  exact beN_beL _ 4 (by omega) (by omega)
 have hs : ((strL (beL (F : Int) 4)).size : Int) = 4 := by rw [strL_size, beL_length]; rfl
 have hc : cW F0 R N last (segF n F g s) fs.isEmpty = 0 := by
  unfold cW
  rw [frF_seg n F hg s]
  dsimp only
  rw [show ((0 : Int) != 0) = false from rfl, Bool.false_and, cf, show segB (segF n F g s).1 = (n : Int) from segB_nm n hn, List.isEmpty_cons, List.headD_cons, hs, hh]
  rcases h with h | ⟨h, h1, h2⟩
  ·rw [h]; rfl
  ·rw [h, h1, h2]; simp
 have hf : fW F0 N (segF n F g s) = cond N.isEmpty (F : Int) F0 := by
  unfold fW
  rw [frF_seg n F hg s]
  dsimp only
  rw [List.isEmpty_cons, Bool.false_or, List.headD_cons, hh]
  cases N.isEmpty <;> rfl
 conv => lhs; rw [wGo]
 rw [hc, show ((0 : Int) != 0) = false from rfl, cf, hf, show segB (segF n F g s).1 = (n : Int) from segB_nm n hn, frF_seg n F hg s]
 dsimp only
 rw [List.tail_cons, show ByteArray.size (segF n F g s).2.1 = (recs (segD F g)).length from strL_size _, Int.sub_self]
 rfl
theorem wGo_log : ∀ (gs : Gs) (n F : Nat), RecsOk gs → n + gs.length ≤ 100 → F + (allR gs).length < 4294967296 → ∀ (fs : List (El kFile)) (last F0 : Int) (R N : List ByteArray), N.isEmpty = false → last + 1 = n → (F : Int) = F0 + (R.length : Int) →
  wGo (logF n F gs ++ fs) last F0 R N 0 = wGo fs (last + gs.length) F0 (R ++ allR gs) (N ++ nms n gs.length) 0
 | [], n, F, _, _, _, fs, last, F0, R, N, _, _, _ => by simp [logF, allR, nms]
 | g :: gs, n, F, hr, hn, hF, fs, last, F0, R, N, hN, hl, hf => by
  rw [List.length_cons] at hn
  rw [allR_cons, List.length_append] at hF
  rw [logF, List.cons_append, wGo_seg (fun r h => hr g (by simp) r h) (by omega) (by omega) g.2 _ last F0 R N 0 (.inr ⟨hN, hl, hf⟩), hN, cf,
   wGo_log gs (n + 1) (F + g.1.length) (fun x hx => hr x (by simp [hx])) (by omega) (by omega) fs n F0 (R ++ g.1) (N ++ [nmV n]) (by simp) (by omega) (by rw [List.length_append]; omega),
   allR_cons, List.append_assoc, List.append_assoc, List.length_cons, nms, List.singleton_append]
  congr 1
  omega
theorem wGo_log0 (gs : Gs) (n F : Nat) (hr : RecsOk gs) (hn : n + gs.length ≤ 100) (hF : F + (allR gs).length < 4294967296) (hg : gs ≠ []) (fs : List (El kFile)) :
  wGo (logF n F gs ++ fs) 0 0 [] [] 0 = wGo fs ((n : Int) + gs.length - 1) F (allR gs) (nms n gs.length) 0 := by
 cases gs with
 | nil => exact absurd rfl hg
 | cons g gs =>
  rw [List.length_cons] at hn
  rw [allR_cons, List.length_append] at hF
  rw [logF, List.cons_append, wGo_seg (fun r h => hr g (by simp) r h) (by omega) (by omega) g.2 _ 0 0 [] [] 0 (.inl rfl), List.isEmpty_nil, ct,
   wGo_log gs (n + 1) (F + g.1.length) (fun x hx => hr x (by simp [hx])) (by omega) (by omega) fs n F ([] ++ g.1) ([] ++ [nmV n]) (by simp) (by omega) (by simp),
   allR_cons, List.nil_append, List.length_cons, nms, List.nil_append, List.singleton_append]
  congr 1
  omega
theorem logF_mem : ∀ (gs : Gs) (n F : Nat) (f : El kFile), f ∈ logF n F gs → ∃ i F' g, n ≤ i ∧ i < n + gs.length ∧ g ∈ gs ∧ f = segF i F' g.1 g.2
 | g :: gs, n, F, f, h => by
  rw [logF] at h
  rcases List.mem_cons.1 h with rfl | h
  ·exact ⟨n, F, g, Nat.le_refl _, by rw [List.length_cons]; omega, by simp, rfl⟩
  ·obtain ⟨i, F', g', h1, h2, h3, h4⟩ := logF_mem gs (n + 1) (F + g.1.length) f h
   exact ⟨i, F', g', by omega, by rw [List.length_cons]; omega, by simp [h3], h4⟩
theorem segs_all {l : List (El kFile)} (h : ∀ f ∈ l, 0 < segB f.1) : segs l = l := by
 unfold segs
 rw [List.filter_eq_self]
 exact fun f hf => decide_eq_true (h f hf)
theorem segs_log (gs : Gs) (n F : Nat) (h0 : 1 ≤ n) (hn : n + gs.length ≤ 100) : segs (logF n F gs) = logF n F gs := by
 refine segs_all fun f hf => ?_
 obtain ⟨i, F', g, h1, h2, _, rfl⟩ := logF_mem gs n F f hf
 rw [show segB (segF i F' g.1 g.2).1 = (i : Int) from segB_nm i (by omega)]
 omega
theorem wV_log (gs : Gs) (n F : Nat) (hr : RecsOk gs) (h0 : 1 ≤ n) (hn : n + gs.length ≤ 100) (hF : F + (allR gs).length < 4294967296) (hg : gs ≠ []) : wV (logF n F gs) = ((F : Int), allR gs, nms n gs.length, 0, 0) := by
 unfold wV
 rw [segs_log gs n F h0 hn]
 have e := wGo_log0 gs n F hr hn hF hg []
 rw [List.append_nil] at e
 rw [e]
 rfl
end Go.Proofs.YtaanadbpnmcbcaaGreatDoorA
namespace Go.Proofs.YtaanadbpnmcbcaaGreatDoorA
open Go
set_option linter.unusedVariables false
set_option linter.unusedSimpArgs false
def insF (f : El kFile) : List (El kFile) → List (El kFile)
 | [] => [f]
 | g :: r => if sLt g.1 f.1 = true then g :: insF f r else f :: g :: r
theorem insF_at : ∀ {l : List (El kFile)} {f : El kFile} {p : Nat}, Pos l f.1 p → insF f l = l.take p ++ f :: l.drop p
 | [], f, p, h => by
  have := h.le
  simp at this
  subst this
  rfl
 | g :: r, f, p, h => by
  unfold insF
  cases p with
  | zero =>
   have := h.hi 0 (by simp) (Nat.le_refl _)
   rw [List.getElem_cons_zero] at this
   rw [if_neg (by rw [this]; decide)]
   rfl
  | succ p =>
   have := h.lo 0 (by simp) (by omega)
   rw [List.getElem_cons_zero] at this
   rw [if_pos this, insF_at (l := r) (p := p) ⟨by have := h.le; simp at this; exact this, fun q hq hlt => by
    have := h.lo (q + 1) (by simp; exact hq) (by omega)
    rwa [List.getElem_cons_succ] at this, fun q hq hle => by
    have := h.hi (q + 1) (by simp; exact hq) (by omega)
    rwa [List.getElem_cons_succ] at this⟩]
   rfl
theorem app_at_i {room : Int} {l : List (El kFile)} (h : DK room l) {k : Nat} (hk : k < l.length) (data : ByteArray) (hd : data.size ≤ 1000000) :
  gq104 room l l[k].1 data = some (cond (decide ((data.size : Int) > room - totF l)) (7, room, l) (0, room, l.set k (l[k].1, (l[k].2.1 ++ data, l[k].2.2)))) := by
 have hl := h.len
 have ht := h.tot
 have hr := h.rm
 have hsz := h.data (List.getElem_mem hk)
 unfold gq104 gq104.F gq104.j2 gq104.j1
 rw [file_found h hk, bs, nameB_i _ (h.fit _ (List.getElem_mem hk)), bs, h.name k hk]
 dsimp only
 rw [Bool.not_true, cf, cf, usedV_i room l (by omega) (by omega), bs, wr (by omega) (by omega)]
 cases decide ((data.size : Int) > room - totF l) with
 | true => rfl
 | false =>
  rw [cf, cf, grd_of (gIx_t (by omega) (by omega)), Int.toNat_natCast, rdE_at (k := kFile) hk, grd_of (gCat_t (by omega)), grd_of (gIx_t (by omega) (by omega))]
  rfl
theorem mem_absent {l : List (El kFile)} {name : ByteArray} (ha : ∀ f ∈ l, f.1 ≠ name) (p : Nat) : (match l[p]? with | some f => decide (f.1 = name) | none => false) = false := by
 cases hp : l[p]? with
 | none => rfl
 | some f => exact decide_f (ha f (List.mem_of_getElem? hp))
theorem app_new_i {room : Int} {l : List (El kFile)} (h : DK room l) {name : ByteArray} (hn : nameB name = true) (ha : ∀ f ∈ l, f.1 ≠ name) (data : ByteArray) (hd : data.size ≤ 1000000) :
  gq104 room l name data = some (cond ((l.length : Int) == 8 || decide ((data.size : Int) > room - totF l)) (7, room, l) (0, room, insF (name, (data, 0)) l)) := by
 have hl := h.len
 have ht := h.tot
 have hr := h.rm
 have hns := nameB_size hn
 obtain ⟨p, e0, hp⟩ := fileAt_i room l (by omega) h.Rise name
 have e : gq76 room l name = some ((p : Int), false) := e0.trans (congrArg (fun b => some ((p : Int), b)) (mem_absent ha p))
 have hpl := hp.le
 unfold gq104 gq104.F gq104.j2 gq104.j1
 rw [e, bs, nameB_i _ (by omega), bs, hn]
 dsimp only
 rw [Bool.not_true, cf, Bool.not_false, ct, ct]
 cases ((l.length : Int) == 8) with
 | true => rfl
 | false =>
  rw [cf, usedV_i room l (by omega) (by omega), bs, wr (by omega) (by omega), Bool.false_or]
  cases decide ((data.size : Int) > room - totF l) with
  | true => rfl
  | false =>
   rw [cf, cf]
   unfold gq149 gq149.F
   rw [decide_t (by omega), decide_t (by omega), decide_t (by simp), decide_t (by simp; omega), Bool.and_self, Bool.and_self, Bool.and_self, grd_t, bs, Int.toNat_natCast]
   have hlen : (l.take p ++ [(name, (ByteArray.empty, (0 : Int)))] ++ l.drop p : List (El kFile)).length = l.length + 1 := by simp; omega
   have hget : rdE kFile (l.take p ++ [(name, (ByteArray.empty, (0 : Int)))] ++ l.drop p) p = (name, (ByteArray.empty, (0 : Int))) := by
    rw [rdE_at (k := kFile) (by omega), List.getElem_append_left (by simp; omega), List.getElem_append_right (by simp; omega)]
    simp
   rw [grd_of (gIx_t (by omega) (by omega)), hget]
   dsimp only
   rw [grd_of (gCat_t (by simp; omega)), grd_of (gIx_t (by omega) (by omega)), insF_at (f := (name, (data, (0 : Int)))) hp]
   have hset : setE kFile (l.take p ++ [(name, (ByteArray.empty, (0 : Int)))] ++ l.drop p) p (name, (ByteArray.empty ++ data, (0 : Int))) = l.take p ++ (name, (data, (0 : Int))) :: l.drop p := by
    rw [setE_eq, List.append_assoc, List.set_append_right _ _ (by simp; omega), List.length_take, Nat.min_eq_left hpl, Nat.sub_self]
    rw [ByteArray.empty_append]
    rfl
   rw [hset]
   rfl
theorem do_sync {room : Int} {l : List (El kFile)} (h : DK room l) {k : Nat} (hk : k < l.length) (N : Int) (a b : ByteArray) (c : List Int) : gq55 room l 2 N l[k].1 a b c = some (0, room, l.set k (l[k].1, (l[k].2.1, (ByteArray.size l[k].2.1 : Int)))) := by
 have hl := h.len
 unfold gq55 gq55.F
 rw [show ((2 : Int) == 1) = false from rfl, cf, show ((2 : Int) == 5) = false from rfl, cf, within_eq, bs, show (decide ((2 : Int) ≤ 2) && decide ((2 : Int) ≤ 6)) = true from rfl, Bool.not_true, cf, file_found h hk, bs]
 dsimp only
 rw [Bool.not_true, cf, grd_of (gIx_t (by omega) (by omega)), show ((2 : Int) == 2) = true from rfl, ct, Int.toNat_natCast, rdE_at (k := kFile) hk]
 rfl
theorem do_app (room : Int) (l : List (El kFile)) (N : Int) (name a data : ByteArray) (c : List Int) : gq55 room l 1 N name a data c = gq104 room l name data := by
 unfold gq55 gq55.F
 rw [show ((1 : Int) == 1) = true from rfl, ct]
 cases gq104 room l name data <;> rfl
end Go.Proofs.YtaanadbpnmcbcaaGreatDoorA
namespace Go.Proofs.YtaanadbpnmcbcaaGreatDoorA
open Go
set_option linter.unusedVariables false
set_option linter.unusedSimpArgs false
theorem wGo_nms : ∀ (S : List (El kFile)) (last F : Int) (R N : List ByteArray) (T : Int), (wGo S last F R N T).2.2.2.2 = 0 →
  (wGo S last F R N T).2.2.1 = N ++ S.map (fun f => f.1) ∧ ∀ f ∈ S, (frF f).1.isEmpty = false → (ByteArray.size ((frF f).1.headD ByteArray.empty) : Int) = 4
 | [], last, F, R, N, T, _ => ⟨by simp [wGo], fun f hf => by simp at hf⟩
 | f :: S, last, F, R, N, T, h => by
  unfold wGo at h ⊢
  cases hc : cW F R N last f S.isEmpty != 0 with
  | true =>
   rw [hc, ct] at h
   have : cW F R N last f S.isEmpty ≠ 0 := by simpa using hc
   exact absurd h this
  | false =>
   rw [hc, cf] at h
   rw [cf]
   obtain ⟨h1, h2⟩ := wGo_nms S _ _ _ _ _ h
   have h0 : cW F R N last f S.isEmpty = 0 := by simpa using hc
   refine ⟨by rw [h1]; simp, fun g hg => ?_⟩
   rcases List.mem_cons.1 hg with rfl | hg
   ·exact cW_four h0
   ·exact h2 g hg
theorem mem_segs {l : List (El kFile)} {f : El kFile} (h : f ∈ segs l) : f ∈ l ∧ 0 < segB f.1 := by
 unfold segs at h
 rw [List.mem_filter, decide_eq_true_iff] at h
 exact h
end Go.Proofs.YtaanadbpnmcbcaaGreatDoorA
namespace Go.Proofs.YtaanadbpnmcbcaaGreatDoorA
open Go
set_option linter.unusedVariables false
set_option linter.unusedSimpArgs false
end Go.Proofs.YtaanadbpnmcbcaaGreatDoorA
namespace Go.Proofs.YtaanadbpnmcbcaaGreatDoorA
open Go
set_option linter.unusedVariables false
set_option linter.unusedSimpArgs false
end Go.Proofs.YtaanadbpnmcbcaaGreatDoorA
namespace Go.Proofs.YtaanadbpnmcbcaaGreatDoorA
open Go
set_option linter.unusedVariables false
set_option linter.unusedSimpArgs false
def Small (p : List ByteArray) : Prop := p.length ≤ 100000000 ∧ ∀ s ∈ p, s.size ≤ 1000000
theorem Small.drop {p : List ByteArray} (h : Small p) (n : Nat) : Small (p.drop n) := ⟨by have := h.1; simp; omega, fun s hs => h.2 s (List.mem_of_mem_drop hs)⟩
end Go.Proofs.YtaanadbpnmcbcaaGreatDoorA
namespace Go.Proofs.YtaanadbpnmcbcaaGreatDoorA
open Go
set_option linter.unusedVariables false
set_option linter.unusedSimpArgs false
theorem any_not_all {α : Type} (q : α → Bool) (l : List α) : (!(l.any fun x => !q x)) = l.all q := by
 induction l with
 | nil => rfl
 | cons x l ih => rw [List.any_cons, List.all_cons, ← ih]; cases q x <;> simp
end Go.Proofs.YtaanadbpnmcbcaaGreatDoorA
namespace Go.Proofs.YtaanadbpnmcbcaaGreatDoorA
open Go
set_option linter.unusedVariables false
set_option linter.unusedSimpArgs false
def isTx (t : ByteArray) : Bool := decide (t.size ≤ 65536)
theorem isText_eq (l : List ByteArray) (h : l.length ≤ 1000000000) : gq69 l = some (l.all isTx) := by
 unfold gq69 gq69.F gq117 gq117.F gq154 gq154.F
 have hq : ∀ x ∈ l, (fun x : ByteArray => (fun t : ByteArray × Unit => (gq118 t.1).bind fun a => some (a, ())) (x, ())) x = some (!isTx x, ()) := by
  intro x _
  have : decide ((x.size : Int) > 65536) = !isTx x := by
   rw [Bool.eq_iff_iff, decide_eq_true_iff, isTx, Bool.not_eq_true', decide_eq_false_iff_not]
   omega
  simp only [gq118, gq118.F, bs, this]
 have := find_loop (k := .str) (L := gq154.l1 (fun t => (gq118 t.1).bind fun a => some (a, ())) (some (-1 : Int)) (fun i => some i)) (fun n s i j => rfl) (l := l) (by omega) hq l.length fuel 0 (by omega) (fuel_big (by omega))
 rw [Int.natCast_zero] at this
 rw [this, List.drop_zero, ← any_not_all, ← findIdx_any]
 cases l.findIdx? fun x => !isTx x with
 | none => rfl
 | some d => simp
end Go.Proofs.YtaanadbpnmcbcaaGreatDoorA
namespace Go.Proofs.YtaanadbpnmcbcaaGreatDoorA
open Go
set_option linter.unusedVariables false
set_option linter.unusedSimpArgs false
def has (l : List (El kFile)) (name : ByteArray) : Bool := l.any fun f => sEq f.1 name
def updF (name : ByteArray) (u : El kFile → El kFile) (l : List (El kFile)) : List (El kFile) := l.map fun f => cond (sEq f.1 name) (u f) f
def addU (data : ByteArray) (f : El kFile) : El kFile := (f.1, (f.2.1 ++ data, f.2.2))
def syncU (f : El kFile) : El kFile := (f.1, (f.2.1, (ByteArray.size f.2.1 : Int)))
def apV (room : Int) (l : List (El kFile)) (name data : ByteArray) : Int × List (El kFile) :=
 cond (has l name) (cond (decide ((data.size : Int) > room - totF l)) (7, l) (0, updF name (addU data) l))
  (cond ((l.length : Int) == 8 || decide ((data.size : Int) > room - totF l)) (7, l) (0, insF (name, (data, 0)) l))
def syV (l : List (El kFile)) (name : ByteArray) : List (El kFile) := updF name syncU l
theorem has_at {l : List (El kFile)} {name : ByteArray} (h : has l name = true) : ∃ (k : Nat) (hk : k < l.length), l[k].1 = name := by
 unfold has at h
 rw [List.any_eq_true] at h
 obtain ⟨f, hf, e⟩ := h
 obtain ⟨k, hk, rfl⟩ := List.getElem_of_mem hf
 exact ⟨k, hk, sEq_iff.1 e⟩
theorem has_not {l : List (El kFile)} {name : ByteArray} (h : has l name = false) : ∀ f ∈ l, f.1 ≠ name := fun f hf e => by
 unfold has at h
 rw [List.any_eq_false] at h
 exact h f hf (sEq_iff.2 e)
theorem upd_set {room : Int} {l : List (El kFile)} (h : DK room l) {k : Nat} (hk : k < l.length) (u : El kFile → El kFile) : updF l[k].1 u l = l.set k (u l[k]) := by
 unfold updF
 refine List.ext_getElem (by simp) fun i h1 h2 => ?_
 have hi : i < l.length := by simpa using h1
 rw [List.getElem_map, List.getElem_set]
 by_cases e : k = i
 ·subst e
  rw [sEq_self, ct, if_pos rfl]
 ·rw [if_neg e, sEq_dec, decide_f (fun e' => e (h.inj hk hi e'.symm)), cf]
theorem do_app_vi {room : Int} {l : List (El kFile)} (h : DK room l) {name : ByteArray} (hn : nameB name = true) (data : ByteArray) (hd : data.size ≤ 1000000) (N : Int) (b : ByteArray) (c : List Int) :
  gq55 room l 1 N name b data c = some ((apV room l name data).1, room, (apV room l name data).2) := by
 rw [do_app]
 unfold apV
 cases hh : has l name with
 | true =>
  obtain ⟨k, hk, rfl⟩ := has_at hh
  rw [app_at_i h hk data hd, ct, upd_set h hk]
  cases decide ((data.size : Int) > room - totF l) <;> rfl
 | false =>
  rw [app_new_i h hn (has_not hh) data hd, cf]
  cases ((l.length : Int) == 8 || decide ((data.size : Int) > room - totF l)) <;> rfl
theorem do_sync_vi {room : Int} {l : List (El kFile)} (h : DK room l) {name : ByteArray} (hh : has l name = true) (N : Int) (a b : ByteArray) (c : List Int) :
  gq55 room l 2 N name a b c = some (0, room, syV l name) := by
 obtain ⟨k, hk, rfl⟩ := has_at hh
 rw [do_sync h hk]
 unfold syV
 rw [upd_set h hk]
 rfl
theorem totF_upd (name : ByteArray) (u : El kFile → El kFile) (hu : ∀ f, ByteArray.size (u f).2.1 = ByteArray.size f.2.1) : ∀ (l : List (El kFile)), totF (updF name u l) = totF l
 | [] => rfl
 | f :: r => by
  show totF (cond (sEq f.1 name) (u f) f :: updF name u r) = _
  simp only [totF, totF_upd name u hu r]
  cases sEq f.1 name with
  | true => rw [ct, hu]
  | false => rw [cf]
theorem upd_names (name : ByteArray) (u : El kFile → El kFile) (hu : ∀ f, (u f).1 = f.1) (l : List (El kFile)) : (updF name u l).map (fun f => f.1) = l.map fun f => f.1 := by
 unfold updF
 rw [List.map_map]
 congr 1
 funext f
 show (cond (sEq f.1 name) (u f) f).1 = f.1
 cases sEq f.1 name with
 | true => exact hu f
 | false => rfl
theorem DP.upd {room : Int} {l : List (El kFile)} (h : DP room l) (name : ByteArray) (u : El kFile → El kFile) (hu : ∀ f, (u f).1 = f.1) (hs : ∀ f, (0 : Int) ≤ f.2.2 ∧ (f.2.2 : Int) ≤ (ByteArray.size f.2.1 : Int) → (0 : Int) ≤ (u f).2.2 ∧ ((u f).2.2 : Int) ≤ (ByteArray.size (u f).2.1 : Int)) (ht : (totF (updF name u l) : Int) ≤ room) : DP room (updF name u l) := by
 have hlen : (updF name u l).length = l.length := by unfold updF; rw [List.length_map]
 have hn := upd_names name u hu l
 refine ⟨h.rm, by rw [hlen]; exact h.len, ht, fun f hf => ?_, ?_, fun f hf => ?_⟩
 ·have : f.1 ∈ (updF name u l).map fun f => f.1 := List.mem_map.2 ⟨f, hf, rfl⟩
  rw [hn] at this
  obtain ⟨g, hg, e⟩ := List.mem_map.1 this
  rw [← e]
  exact h.name g hg
 ·have h1 := h.rise
  rw [← List.pairwise_map (f := fun f : El kFile => f.1) (R := fun a b => sLt a b = true)] at h1 ⊢
  rw [hn]
  exact h1
 ·unfold updF at hf
  obtain ⟨g, hg, rfl⟩ := List.mem_map.1 hf
  cases sEq g.1 name with
  | true => exact hs g (h.sure g hg)
  | false => exact h.sure g hg
theorem DP.sync {room : Int} {l : List (El kFile)} (h : DP room l) (name : ByteArray) : DP room (syV l name) :=
 h.upd name syncU (fun _ => rfl) (fun f _ => ⟨by show (0 : Int) ≤ (ByteArray.size f.2.1 : Int); omega, Int.le_refl _⟩) (by rw [totF_upd name syncU (fun _ => rfl)]; exact h.tot)
theorem totF_append : ∀ (a b : List (El kFile)), totF (a ++ b) = totF a + totF b
 | [], b => by simp [totF]
 | f :: a, b => by
  rw [List.cons_append]
  simp only [totF, totF_append a b]
  omega
end Go.Proofs.YtaanadbpnmcbcaaGreatDoorA
namespace Go.Proofs.YtaanadbpnmcbcaaGreatDoorA
open Go
set_option linter.unusedVariables false
set_option linter.unusedSimpArgs false
def hdB (n : Int) : ByteArray := strL (frL (beL n 4))
def frB (d : ByteArray) : ByteArray := strL (frL (bytesL d))
def actA (name data : ByteArray) : El kka9e := (1, (0, (name, (ByteArray.empty, (data, [])))))
def actS (name : ByteArray) : El kka9e := (2, (0, (name, (ByteArray.empty, (ByteArray.empty, [])))))
def planL (x : Option (El kFile)) (n : Int) (data : ByteArray) : List (El kka9e) :=
 match x with
 | none => [actA (nmV 1) (hdB n ++ frB data)]
 | some f => cond ((ByteArray.size f.2.1 : Int) == 0) [actA f.1 (hdB n ++ frB data)]
  (cond (decide ((ByteArray.size f.2.1 : Int) + ((frB data).size : Int) > 160)) [actS f.1, actA (nmV (segB f.1 + 1)) (hdB n ++ frB data)] [actA f.1 (frB data)])
theorem hdB_size (n : Int) : (hdB n).size = 10 := by unfold hdB; rw [strL_size, frL_len, beL_length]
theorem frB_size (d : ByteArray) : (frB d).size = 6 + d.size := by unfold frB; rw [strL_size, frL_len, bytesL_length]
theorem frB_i (d : ByteArray) (h : d.size ≤ 1000) : gq155 d = some (frB d) := by
 have := frame_i (bytesL d) (IsBytes.bytesL d) (by rw [bytesL_length]; omega)
 rwa [strL_bytesL] at this
theorem hdB_i (n : Int) : (gq137 n 4).bind (fun r => gq155 r) = some (hdB n) := by
 rw [number4, bs, frame_i (beL n 4) (beL_bytes _ _) (by rw [beL_length]; decide)]
 rfl
theorem hdB_s (n : Int) : gq111 n = some (hdB n) := by
 unfold gq111 gq111.F
 rw [four_eq, bs, frame_s (beL n 4) (beL_bytes _ _) (by rw [beL_length]; decide), bs]
 rfl
theorem nm_i (n : Int) (h0 : 0 ≤ n) (h1 : n ≤ 99) : gq68 n = some (nmV n) := by
 unfold gq68 gq68.F
 rw [grd_of (gNz_t (by decide)), grd_of (gNz_t (by decide)), tdiv_pos h0, tmod_pos h0, wr (x := n / 10) (by omega) (by omega), wr (x := 48 + n / 10) (by omega) (by omega), wr (x := 48 + n % 10) (by omega) (by omega), wr8 (by omega) (by omega), wr8 (by omega) (by omega), show (⟨#[115]⟩ : ByteArray) = strL [115] from rfl, strL_append, grd_of (gCat_t (by rw [strL_size, strL_size]; simp))]
 rfl
theorem nmV_inj {a b : Int} (ha : 0 ≤ a ∧ a ≤ 99) (hb : 0 ≤ b ∧ b ≤ 99) : sEq (nmV a) (nmV b) = decide (a = b) := by
 rw [sEq_dec, decide_eq_decide]
 constructor
 ·intro h
  obtain ⟨x, rfl⟩ : ∃ x : Nat, a = x := ⟨a.toNat, by omega⟩
  obtain ⟨y, rfl⟩ : ∃ y : Nat, b = y := ⟨b.toNat, by omega⟩
  have h1 := strL_inj (nmV_bytes x (by omega)) (nmV_bytes y (by omega)) h
  simp only [List.cons.injEq, and_true, true_and] at h1
  omega
 ·rintro rfl
  rfl
theorem seg_last {l : List (El kFile)} : segs l = [] ∨ ∃ (S : List (El kFile)) (k : Nat) (hk : k < l.length), segs l = S ++ [l[k]] ∧ 0 < segB l[k].1 := by
 rcases List.eq_nil_or_concat (segs l) with h | ⟨S, f, h⟩
 ·exact .inl h
 ·rw [List.concat_eq_append] at h
  have hm : f ∈ segs l := by rw [h]; simp
  obtain ⟨h1, h2⟩ := mem_segs hm
  obtain ⟨k, hk, rfl⟩ := List.getElem_of_mem h1
  exact .inr ⟨S, k, hk, h, h2⟩
theorem last_name {room : Int} {l : List (El kFile)} (h : DK room l) (h0 : (wV l).2.2.2.2 = 0) (F : Int) (R : List ByteArray) (T : Int) : gq75 F R (wV l).2.2.1 T = some (match (segs l).getLast? with | none => ByteArray.empty | some f => f.1) := by
 have h8 := h.len
 have hs := segs_len l
 have hn : (wV l).2.2.1 = (segs l).map fun f => f.1 := (wGo_nms (segs l) 0 0 [] [] 0 h0).1
 rw [hn]
 rcases seg_last (l := l) with h1 | ⟨S, k, hk, h1, _⟩
 ·rw [h1]
  rfl
 ·have hl : S.length ≤ 8 := by rw [h1] at hs; simp at hs; omega
  rw [h1, List.map_append, List.map_cons, List.map_nil, last_i _ _ _ _ _ (by rw [List.length_map]; omega)]
  simp
theorem plan_i {room : Int} {l : List (El kFile)} (h : DK room l) (h0 : (wV l).2.2.2.2 = 0) (F : Int) (R : List ByteArray) (T : Int) (data : ByteArray) (hd : data.size ≤ 1000) (h99 : ∀ f, (segs l).getLast? = some f → segB f.1 ≠ 99) :
  i_plan room l F R (wV l).2.2.1 T data = some (planL (segs l).getLast? (IntKind.wrap .i64 (F + (R.length : Int))) data) := by
 have h8 := h.len
 unfold i_plan i_plan.F gq153 gq153.F
 rw [frB_i data hd, bs, last_name h h0, bs, bs]
 have e1 := hdB_i (IntKind.wrap .i64 (F + (R.length : Int)))
 rw [number4, bs] at e1
 rw [number4, bs, e1, bs, grd_of (gCat_t (by rw [hdB_size, frB_size]; omega))]
 rcases seg_last (l := l) with h1 | ⟨S, k, hk, h1, h2⟩
 ·rw [h1]
  show cond (sEq ByteArray.empty ByteArray.empty) _ _ = _
  rw [sEq_self, ct, nm_i 1 (by decide) (by decide), bs]
  rfl
 ·have hg : (segs l).getLast? = some l[k] := by rw [h1]; simp
  have h9 := h99 _ hg
  have hr := segB_range l[k].1
  have hns := nameB_size (h.name k hk)
  have hsz := h.data (List.getElem_mem hk)
  rw [hg]
  dsimp only
  have hne : l[k].1 ≠ ByteArray.empty := by
   intro e
   have : ByteArray.size l[k].1 = 0 := by rw [e]; rfl
   omega
  rw [sEq_dec, decide_f hne, cf, file_found h hk, bs]
  dsimp only
  rw [grd_of (gIx_t (by omega) (by omega)), Int.toNat_natCast, rdE_at (k := kFile) hk]
  unfold planL
  dsimp only
  cases ((ByteArray.size l[k].2.1 : Int) == 0) with
  | true => rfl
  | false =>
   rw [cf, cf, wr (x := (ByteArray.size l[k].2.1 : Int) + ((frB data).size : Int)) (by omega) (by rw [frB_size]; omega)]
   cases decide ((ByteArray.size l[k].2.1 : Int) + ((frB data).size : Int) > 160) with
   | true =>
    rw [ct, ct, segB_i _ (by omega), bs, wr (by omega) (by omega), nm_i _ (by omega) (by omega), bs]
    rfl
   | false => rfl
theorem plan_s {room : Int} {l : List (El kFile)} (h : DK room l) (F : Int) (R N : List ByteArray) (T : Int) (data : ByteArray) (hd : data.size ≤ 110) (h99 : ∀ f, (segs l).getLast? = some f → segB f.1 ≠ 99) (hF : segs l = [] → F = 0 ∧ R = []) :
  gq62 room l F R N T data = some (planL (segs l).getLast? (IntKind.wrap .i64 (F + (R.length : Int))) data) := by
 have h8 := h.len
 have hs := segs_len l
 unfold gq62 gq62.F gq62.j1
 rw [frame_s _ (IsBytes.bytesL data) (by rw [bytesL_length]; omega), bs, segsV_s room l (by omega) h.fit, bs, List.length_map]
 rcases seg_last (l := l) with h1 | ⟨S, k, hk, h1, h2⟩
 ·obtain ⟨rfl, rfl⟩ := hF h1
  rw [h1]
  show cond ((0 : Int) == 0) _ _ = _
  rw [show ((0 : Int) == 0) = true from rfl, ct, nm_s 1 (by decide) (by decide), bs, hdB_s, bs]
  rw [grd_of (gCat_t (by rw [hdB_size, strL_size, frL_len, bytesL_length]; omega))]
  rfl
 ·have hg : (segs l).getLast? = some l[k] := by rw [h1]; simp
  have h9 := h99 _ hg
  have hr := segB_range l[k].1
  have hns := nameB_size (h.name k hk)
  have hsz := h.data (List.getElem_mem hk)
  have hSl : S.length ≤ 8 := by rw [h1] at hs; simp at hs; omega
  have hn : (segs l).length = S.length + 1 := by rw [h1]; simp
  rw [hg, hn, show (((S.length + 1 : Nat) : Int) == 0) = false by rw [beq_eq_false_iff_ne]; omega, cf, wr (x := ((S.length + 1 : Nat) : Int) - 1) (by omega) (by omega), show ((S.length + 1 : Nat) : Int) - 1 = (S.length : Int) by omega, grd_of (gIx_t (by omega) (by omega)), Int.toNat_natCast]
  have er : rdE (.int .i64 : Kd) ((segs l).map fun f => segB f.1) S.length = segB l[k].1 := by
   rw [rdE_at (k := .int .i64) (l := (segs l).map fun f => segB f.1) (by rw [List.length_map]; omega)]
   simp [h1]
  rw [er, data_s h hk h2, bs]
  dsimp only
  unfold planL
  dsimp only
  cases hz : ((ByteArray.size l[k].2.1 : Int) == 0) with
  | true =>
   have hz' : (ByteArray.size l[k].2.1 : Int) = 0 := by simpa using hz
   rw [ct, ct, hdB_s, bs, grd_of (gCat_t (by rw [hdB_size, strL_size, frL_len, bytesL_length]; omega)), hz']
   have e1 : ((hdB (IntKind.wrap .i64 (F + (R.length : Int))) ++ strL (frL (bytesL data))).size : Int) = 16 + data.size := by
    rw [ByteArray.size_append, hdB_size, strL_size, frL_len, bytesL_length]
    omega
   rw [e1, wr (by omega) (by omega), decide_t (by omega), ct, nm_s _ hr.1 hr.2, bs, ← nm_of_seg h2]
   rfl
  | false =>
   have e1 : ((strL (frL (bytesL data))).size : Int) = ((frB data).size : Int) := rfl
   rw [cf, cf, e1, wr (x := (ByteArray.size l[k].2.1 : Int) + ((frB data).size : Int)) (by omega) (by rw [frB_size]; omega), nm_s _ hr.1 hr.2, bs, bs, ← nm_of_seg h2, wr (x := segB l[k].1 + 1) (by omega) (by omega), nm_s _ (by omega) (by omega), bs, hdB_s, bs, grd_of (gCat_t (by rw [hdB_size, strL_size, frL_len, bytesL_length]; omega))]
   by_cases hc : (ByteArray.size l[k].2.1 : Int) + ((frB data).size : Int) ≤ 160
   ·rw [decide_t hc, decide_f (by omega), ct, cf]
    rfl
   ·rw [decide_f hc, decide_t (by omega), cf, ct]
    rfl
def chkV (l : List (El kFile)) (data : ByteArray) : Int :=
 cond (!(decide ((1 : Int) ≤ (data.size : Int)) && decide ((data.size : Int) ≤ 110))) 4
  (cond ((wV l).2.2.2.2 != 0) (wV l).2.2.2.2
  (cond (decide ((wV l).2.2.2.1 > 0)) 16
  (cond (decide (((wV l).2.1.length : Int) ≥ 60)) 6
  (cond (match (segs l).getLast? with | none => false | some f => segB f.1 == 99) 6 0))))
def planV (l : List (El kFile)) (data : ByteArray) : List (El kka9e) := planL (segs l).getLast? (IntKind.wrap .i64 ((wV l).1 + ((wV l).2.1.length : Int))) data
theorem c99 {room : Int} {l : List (El kFile)} (h : DK room l) : sEq (match (segs l).getLast? with | none => ByteArray.empty | some f => f.1) (nmV 99) = (match (segs l).getLast? with | none => false | some f => segB f.1 == 99) := by
 rcases seg_last (l := l) with h1 | ⟨S, k, hk, h1, h2⟩
 ·rw [h1]
  show sEq ByteArray.empty (nmV 99) = false
  rw [sEq_dec]
  refine decide_f fun e => ?_
  have e2 : ByteArray.size ByteArray.empty = (nmV 99).size := congrArg ByteArray.size e
  rw [show (nmV 99).size = 3 from strL_size _] at e2
  cases e2
 ·have hg : (segs l).getLast? = some l[k] := by rw [h1]; simp
  have hr := segB_range l[k].1
  rw [hg]
  dsimp only
  have e : sEq l[k].1 (nmV 99) = sEq (nmV (segB l[k].1)) (nmV 99) := by rw [← nm_of_seg h2]
  rw [e, nmV_inj hr (by decide)]
  rfl
theorem walPlan_i {room : Int} {l : List (El kFile)} (h : DK room l) (data : ByteArray) (hd : data.size ≤ 1000000000) : gq70 room l data = some (cond (chkV l data != 0) [] (planV l data), chkV l data) := by
 unfold gq70 gq70.F chkV
 rw [within_eq, bs]
 cases hb : (decide ((1 : Int) ≤ (data.size : Int)) && decide ((data.size : Int) ≤ 110)) with
 | false => rfl
 | true =>
  rw [Bool.and_eq_true, decide_eq_true_iff, decide_eq_true_iff] at hb
  rw [Bool.not_true, cf, cf, wal_i h, bs]
  cases hc : (wV l).2.2.2.2 != 0 with
  | true =>
   rw [ct, ct, hc]
   rfl
  | false =>
   have h0 : (wV l).2.2.2.2 = 0 := by simpa using hc
   rw [cf, cf]
   cases decide ((wV l).2.2.2.1 > 0) with
   | true => rfl
   | false =>
    rw [cf, cf]
    cases decide (((wV l).2.1.length : Int) ≥ 60) with
    | true => rfl
    | false =>
     rw [cf, cf, last_name h h0, bs, nm_i 99 (by decide) (by decide), bs, c99 h]
     cases h9 : (match (segs l).getLast? with | none => false | some f => segB f.1 == 99) with
     | true => rfl
     | false =>
      rw [cf, cf, plan_i h h0 _ _ _ data (by omega) (fun f hf => by
       rw [hf] at h9
       simpa using h9), bs]
      rfl
end Go.Proofs.YtaanadbpnmcbcaaGreatDoorA
namespace Go.Proofs.YtaanadbpnmcbcaaGreatDoorA
open Go
set_option linter.unusedVariables false
set_option linter.unusedSimpArgs false
theorem nameB_nm (n : Nat) (h : n ≤ 99) : nameB (nmV n) = true := by
 unfold nameB nmV
 rw [bytesL_strL (nmV_bytes n h)]
 unfold nameV
 simp only [okN, letB, digB, List.length_cons, List.length_nil]
 rw [decide_t (show (48 : Int) ≤ 48 + (n : Int) / 10 by omega), decide_t (show 48 + (n : Int) / 10 ≤ 57 by omega), decide_t (show (48 : Int) ≤ 48 + (n : Int) % 10 by omega), decide_t (show 48 + (n : Int) % 10 ≤ 57 by omega)]
 simp
def doV (room : Int) : List (El kFile) → List (El kka9e) → Int × List (El kFile)
 | l, [] => (0, l)
 | l, a :: r => cond (a.1 == 2) (doV room (syV l a.2.2.1) r) (cond ((apV room l a.2.2.1 a.2.2.2.2.1).1 != 0) ((apV room l a.2.2.1 a.2.2.2.2.1).1, []) (doV room (apV room l a.2.2.1 a.2.2.2.2.1).2 r))
def OkN (n d : ByteArray) : Prop := nameB n = true ∧ d.size ≤ 1000000
inductive OkA (l : List (El kFile)) : List (El kka9e) → Prop
 | one {n d} : OkN n d → OkA l [actA n d]
 | two {m n d} : has l m = true → OkN n d → OkA l [actS m, actA n d]
theorem doV_one (room : Int) (l : List (El kFile)) (n d : ByteArray) : doV room l [actA n d] = cond ((apV room l n d).1 != 0) ((apV room l n d).1, []) (0, (apV room l n d).2) := rfl
theorem doV_two (room : Int) (l : List (El kFile)) (m n d : ByteArray) : doV room l [actS m, actA n d] = doV room (syV l m) [actA n d] := rfl
theorem acts_i1 {R : Type} (kke : Int → Int → List (El kFile) → Option R) (kkr : Int → Int → Option R) {room : Int} {l : List (El kFile)} (h : DK room l) {n d : ByteArray} (ho : OkN n d) (i2 : Int) (L : List (El kka9e)) (j fu : Nat) (hj : L = L.take j ++ [actA n d]) (hjl : j + 1 = L.length) (hL : L.length ≤ 2) :
  gq71.l1 kke kkr (fu + 2) (L.length : Int) (j : Int) i2 room L l = cond ((doV room l [actA n d]).1 != 0) (kkr (doV room l [actA n d]).1 0) (kke i2 room (doV room l [actA n d]).2) := by
 have er : rdE kka9e L j = actA n d := by
  rw [rdE_at (k := kka9e) (by omega)]
  have : L[j]'(by omega) = (L.take j ++ [actA n d])[j]'(by rw [← hj]; omega) := by congr 1
  have hjj : (L.take j).length = j := by rw [List.length_take]; omega
  rw [this, List.getElem_append_right (by omega)]
  simp [hjj]
 have e1 := do_app_vi h ho.1 d ho.2 0 ByteArray.empty []
 rw [doV_one]
 simp only [gq71.l1]
 rw [decide_t (by omega), ct, grd_of (gIx_t (by omega) (by omega)), Int.toNat_natCast, er]
 show Option.bind (gq55 room l 1 0 n ByteArray.empty d []) _ = _
 rw [e1, bs]
 cases hc : (apV room l n d).1 != 0 with
 | true =>
  rw [ct, ct]
  dsimp only
  rw [hc, ct]
 | false =>
  rw [cf, cf]
  dsimp only
  rw [wr (by omega) (by omega), decide_f (by omega), cf]
  rfl
theorem walActs_i {R : Type} (kke : Int → Int → List (El kFile) → Option R) (kkr : Int → Int → Option R) {room : Int} {l : List (El kFile)} (h : DP room l) {L : List (El kka9e)} (ho : OkA l L) (i2 : Int) :
  gq71.l1 kke kkr fuel (L.length : Int) 0 i2 room L l = cond ((doV room l L).1 != 0) (kkr (doV room l L).1 0) (kke i2 room (doV room l L).2) := by
 obtain ⟨fu, hfu⟩ : ∃ q, fuel = q + 3 := ⟨fuel - 3, by rw [fuel_eq]⟩
 rw [hfu]
 cases ho with
 | one ho => exact acts_i1 kke kkr h.dk ho i2 _ 0 (fu + 1) rfl rfl (by simp)
 | @two m n d hm ho =>
  have e1 := do_sync_vi h.dk hm 0 ByteArray.empty ByteArray.empty []
  rw [doV_two]
  have e2 := acts_i1 kke kkr (h.sync m).dk ho i2 [actS m, actA n d] 1 fu rfl rfl (by simp)
  rw [gq71.l1]
  rw [decide_t (show (0 : Int) < (List.length [actS m, actA n d] : Int) by simp), ct, grd_of (gIx_t (by omega) (by simp))]
  show Option.bind (gq55 room l 2 0 m ByteArray.empty ByteArray.empty []) _ = _
  rw [e1, bs]
  exact e2
theorem plan_ok {room : Int} {l : List (El kFile)} (h : DK room l) {data : ByteArray} (hc : chkV l data = 0) : OkA l (planV l data) ∧ data.size ≤ 110 := by
 have hd : data.size ≤ 110 ∧ ∀ f, (segs l).getLast? = some f → segB f.1 ≠ 99 := by
  unfold chkV at hc
  cases hb : (decide ((1 : Int) ≤ (data.size : Int)) && decide ((data.size : Int) ≤ 110)) with
  | false => rw [hb] at hc; cases hc
  | true =>
   rw [hb, Bool.not_true, cf] at hc
   rw [Bool.and_eq_true, decide_eq_true_iff, decide_eq_true_iff] at hb
   refine ⟨by omega, fun f hf e => ?_⟩
   cases h1 : (wV l).2.2.2.2 != 0 with
   | true =>
    rw [h1, ct] at hc
    rw [hc] at h1
    cases h1
   | false =>
    rw [h1, cf] at hc
    cases h2 : decide ((wV l).2.2.2.1 > 0) with
    | true => rw [h2] at hc; cases hc
    | false =>
     rw [h2, cf] at hc
     cases h3 : decide (((wV l).2.1.length : Int) ≥ 60) with
     | true => rw [h3] at hc; cases hc
     | false =>
      rw [h3, cf, hf] at hc
      dsimp only at hc
      rw [e] at hc
      cases hc
 refine ⟨?_, hd.1⟩
 have hfr := frB_size data
 unfold planV
 rcases seg_last (l := l) with h1 | ⟨S, k, hk, h1, h2⟩
 ·rw [h1]
  exact .one ⟨nameB_nm 1 (by decide), by rw [ByteArray.size_append, hdB_size, hfr]; omega⟩
 ·have hg : (segs l).getLast? = some l[k] := by rw [h1]; simp
  have h9 := hd.2 _ hg
  have hr := segB_range l[k].1
  have hsz := h.data (List.getElem_mem hk)
  rw [hg]
  unfold planL
  dsimp only
  cases ((ByteArray.size l[k].2.1 : Int) == 0) with
  | true => exact .one ⟨h.name k hk, by rw [ByteArray.size_append, hdB_size, hfr]; omega⟩
  | false =>
   rw [cf]
   cases decide ((ByteArray.size l[k].2.1 : Int) + ((frB data).size : Int) > 160) with
   | true =>
    refine .two ?_ ⟨?_, by rw [ByteArray.size_append, hdB_size, hfr]; omega⟩
    ·unfold has
     rw [List.any_eq_true]
     exact ⟨l[k], List.getElem_mem hk, sEq_self _⟩
    ·have := nameB_nm ((segB l[k].1).toNat + 1) (by omega)
     rwa [show (((segB l[k].1).toNat + 1 : Nat) : Int) = segB l[k].1 + 1 by omega] at this
   | false => exact .one ⟨h.name k hk, by rw [hfr]; omega⟩
def wapV (room : Int) (l : List (El kFile)) (data : ByteArray) : Int × List (El kFile) × Int :=
 cond (chkV l data != 0) (0, [], chkV l data) (cond ((doV room l (planV l data)).1 != 0) (0, [], (doV room l (planV l data)).1) (room, (doV room l (planV l data)).2, 0))
theorem walAppend_i {room : Int} {l : List (El kFile)} (h : DP room l) (data : ByteArray) (hd : data.size ≤ 1000000000) : gq71 room l data = some (wapV room l data) := by
 have h8 := h.len
 unfold gq71 gq71.F wapV
 rw [walPlan_i h.dk data hd, bs]
 dsimp only
 cases hc : chkV l data != 0 with
 | true => rw [ct, ct]
 | false =>
  have h0 : chkV l data = 0 := by simpa using hc
  unfold gq53 gq53.F
  rw [cf, cf, cf, clone_i l (by omega), bs, bs]
  dsimp only
  rw [walActs_i _ _ h (plan_ok h.dk h0).1]
  cases (doV room l (planV l data)).1 != 0 <;> rfl
theorem check_v {room : Int} {l : List (El kFile)} (h : DP room l) (data : ByteArray) (hd : data.size ≤ 65536) : ∃ F R N T, gq60 room l data = some (F, R, N, T, chkV l data) ∧ (chkV l data = 0 → F = (wV l).1 ∧ R = (wV l).2.1) := by
 have h8 := h.len
 have hs := segs_len l
 unfold gq60 gq60.F chkV
 rw [decide_f (by omega), cf, disk_s room l (by omega) ⟨h.dk.fit, fun f hf => by have := h.dk.data hf; omega⟩, bs, h.ok, Bool.not_true, cf, l01In_eq, bs]
 cases hb : (decide ((1 : Int) ≤ (data.size : Int)) && decide ((data.size : Int) ≤ 110)) with
 | false => exact ⟨_, _, _, _, rfl, fun h => by cases h⟩
 | true =>
  obtain ⟨v, e1, e2⟩ := walV_s h.dk
  rw [Bool.not_true, cf, cf, e1, bs, segsV_s room l (by omega) h.dk.fit, bs]
  cases hv : v.2.2.2.2 != 0 with
  | true =>
   rw [hv, ct] at e2
   rw [← e2]
   rw [ct]
   show ∃ F R N T, _ = some (F, R, N, T, cond (v.2.2.2.2 != 0) v.2.2.2.2 _) ∧ (cond (v.2.2.2.2 != 0) v.2.2.2.2 _ = 0 → _)
   rw [hv, ct]
   refine ⟨_, _, _, _, rfl, fun h => ?_⟩
   rw [h] at hv
   cases hv
  | false =>
   rw [hv, cf] at e2
   rw [← e2, cf]
   show ∃ F R N T, _ = some (F, R, N, T, cond (v.2.2.2.2 != 0) v.2.2.2.2 _) ∧ (cond (v.2.2.2.2 != 0) v.2.2.2.2 _ = 0 → _)
   rw [hv, cf]
   cases decide (v.2.2.2.1 > 0) with
   | true => exact ⟨_, _, _, _, rfl, fun h => by cases h⟩
   | false =>
    rw [cf, cf]
    cases decide ((v.2.1.length : Int) ≥ 60) with
    | true => exact ⟨_, _, _, _, rfl, fun h => by cases h⟩
    | false =>
     rw [cf, cf, List.length_map]
     rcases seg_last (l := l) with h1 | ⟨S, k, hk, h1, h2⟩
     ·rw [h1]
      exact ⟨_, _, _, _, rfl, fun _ => ⟨rfl, rfl⟩⟩
     ·have hg : (segs l).getLast? = some l[k] := by rw [h1]; simp
      have hn : (segs l).length = S.length + 1 := by rw [h1]; simp
      rw [hg, hn, decide_t (by omega), ct, wr (x := ((S.length + 1 : Nat) : Int) - 1) (by omega) (by omega), show ((S.length + 1 : Nat) : Int) - 1 = (S.length : Int) by omega, grd_of (gIx_t (by omega) (by omega)), Int.toNat_natCast]
      have er : rdE (.int .i64 : Kd) ((segs l).map fun f => segB f.1) S.length = segB l[k].1 := by
       rw [rdE_at (k := .int .i64) (l := (segs l).map fun f => segB f.1) (by rw [List.length_map]; omega)]
       simp [h1]
      rw [er]
      dsimp only
      cases (segB l[k].1 == 99) with
      | true => exact ⟨_, _, _, _, rfl, fun h => by cases h⟩
      | false => exact ⟨_, _, _, _, rfl, fun _ => ⟨rfl, rfl⟩⟩
end Go.Proofs.YtaanadbpnmcbcaaGreatDoorA
namespace Go.Proofs.YtaanadbpnmcbcaaGreatDoorA
open Go
set_option linter.unusedVariables false
set_option linter.unusedSimpArgs false
theorem wV_none {l : List (El kFile)} (h : segs l = []) : (wV l).1 = 0 ∧ (wV l).2.1 = [] := by
 unfold wV
 rw [h]
 exact ⟨rfl, rfl⟩
theorem planDo_s {room : Int} {l : List (El kFile)} (h : DP room l) {data : ByteArray} (hc : chkV l data = 0) (N : List ByteArray) (T : Int) :
  gq62 room l (wV l).1 (wV l).2.1 N T data = some (planV l data) := by
 have h9 : ∀ f, (segs l).getLast? = some f → segB f.1 ≠ 99 := by
  intro f hf e
  have h2 := c99 h.dk
  unfold chkV at hc
  cases hb : (decide ((1 : Int) ≤ (data.size : Int)) && decide ((data.size : Int) ≤ 110)) with
  | false => rw [hb] at hc; cases hc
  | true =>
   rw [hb, Bool.not_true, cf] at hc
   cases h1 : (wV l).2.2.2.2 != 0 with
   | true =>
    rw [h1, ct] at hc
    rw [hc] at h1
    cases h1
   | false =>
    rw [h1, cf] at hc
    cases h2 : decide ((wV l).2.2.2.1 > 0) with
    | true => rw [h2] at hc; cases hc
    | false =>
     rw [h2, cf] at hc
     cases h3 : decide (((wV l).2.1.length : Int) ≥ 60) with
     | true => rw [h3] at hc; cases hc
     | false =>
      rw [h3, cf, hf] at hc
      dsimp only at hc
      rw [e] at hc
      cases hc
 exact plan_s h.dk _ _ N T data (plan_ok h.dk hc).2 h9 fun hs => wV_none hs
def wfV (room : Int) (l : List (El kFile)) (data : ByteArray) : Int × List (El kFile) × Int :=
 cond (decide ((data.size : Int) > 65536)) (0, [], 2) (cond (!dOK room l) (0, [], 1) (wapV room l data))
theorem walFull_i (room : Int) (l : List (El kFile)) (hl : l.length ≤ 10000000) (hf : DFit l) (data : ByteArray) (hd : data.size ≤ 1000000000) : gq27 room l data = some (wfV room l data) := by
 unfold gq27 gq27.F wfV
 rw [isText_eq [data] (by simp), bs]
 by_cases h1 : (data.size : Int) > 65536
 ·rw [decide_t h1, ct, show ([data].all isTx) = false by simp [isTx]; omega]
  rfl
 ·rw [decide_f h1, cf, show ([data].all isTx) = true by simp [isTx]; omega, Bool.not_true, cf, disk_i room l (by omega) hf, bs]
  cases hd' : dOK room l with
  | false => rfl
  | true =>
   have h := (dOK_DK hd').dp
   rw [Bool.not_true, cf, cf, walAppend_i h data hd, bs]
end Go.Proofs.YtaanadbpnmcbcaaGreatDoorA
namespace Go.Proofs.YtaanadbpnmcbcaaGreatDoorA
open Go
set_option linter.unusedVariables false
set_option linter.unusedSimpArgs false
theorem u8_lt {a b : Int} (ha : 0 ≤ a ∧ a < 256) (hb : 0 ≤ b ∧ b < 256) : (UInt8.ofNat a.toNat < UInt8.ofNat b.toNat) ↔ a < b := by
 rw [UInt8.lt_iff_toNat_lt, UInt8.toNat_ofNat', UInt8.toNat_ofNat', Nat.mod_eq_of_lt (by omega), Nat.mod_eq_of_lt (by omega)]
 omega
theorem nm_lt {i j : Nat} (h : i < j) (hj : j ≤ 99) : sLt (nmV i) (nmV j) = true := by
 unfold sLt
 have e : ∀ n : Nat, (nmV n).toList = [UInt8.ofNat (115 : Int).toNat, UInt8.ofNat (48 + (n : Int) / 10).toNat, UInt8.ofNat (48 + (n : Int) % 10).toNat] := fun n => by
  unfold nmV
  rw [ByteArray.toList_eq]
  rfl
 rw [e, e]
 simp only [Op.bytesLess, beq_self_eq_true, Bool.true_and, Bool.or_eq_true, Bool.and_eq_true, decide_eq_true_iff, beq_iff_eq, Bool.and_false, Bool.or_false]
 rcases Nat.lt_or_ge (i / 10) (j / 10) with h1 | h1
 ·exact .inr (.inl ((u8_lt (by omega) (by omega)).2 (by omega)))
 ·have e1 : i / 10 = j / 10 := by omega
  refine .inr (.inr ⟨by congr 3; omega, ?_⟩)
  first
  | exact (u8_lt (by omega) (by omega)).2 (by omega)
  | exact .inl ((u8_lt (by omega) (by omega)).2 (by omega))
def segSize (g : List ByteArray) : Nat := 10 + (g.map fun r => 6 + r.size).sum
theorem recs_seg (F : Nat) (g : List ByteArray) : (recs (segD F g)).length = segSize g := by
 have key : ∀ g : List ByteArray, (recs (g.map bytesL)).length = (g.map fun r => 6 + r.size).sum := by
  intro g
  induction g with
  | nil => rfl
  | cons r g ih => rw [List.map_cons, recs_cons, List.length_append, frL_len, bytesL_length, ih, List.map_cons, List.sum_cons]
 unfold segD segSize
 rw [recs_cons, List.length_append, frL_len, beL_length, key]
theorem segSize_le {g : List ByteArray} (h : ∀ r ∈ g, Rec1 r) : segSize g ≤ 10 + 116 * g.length := by
 unfold segSize
 have key : ∀ g : List ByteArray, (∀ r ∈ g, Rec1 r) → (g.map fun r => 6 + r.size).sum ≤ 116 * g.length := by
  intro g
  induction g with
  | nil => intro _; simp
  | cons r g ih =>
   intro h
   have h1 := ih fun r hr => h r (by simp [hr])
   have h2 := h r (by simp)
   unfold Rec1 at h2
   rw [List.map_cons, List.sum_cons, List.length_cons]
   omega
 have := key g h
 omega
theorem segSize_snoc (g : List ByteArray) (r : ByteArray) : segSize (g ++ [r]) = segSize g + (6 + r.size) := by
 unfold segSize
 rw [List.map_append, List.sum_append]
 simp
 omega
theorem totF_log : ∀ (gs : Gs) (n F : Nat), totF (logF n F gs) = (gs.map fun g => segSize g.1).sum
 | [], _, _ => rfl
 | g :: gs, n, F => by
  rw [logF]
  simp only [totF, totF_log gs, List.map_cons, List.sum_cons]
  rw [show ByteArray.size (segF n F g.1 g.2).2.1 = segSize g.1 from (strL_size _).trans (recs_seg F g.1)]
structure LG (gs : Gs) : Prop where
 recs : RecsOk gs
 ne : ∀ g ∈ gs, g.1 ≠ []
 sure : ∀ g ∈ gs, 0 ≤ g.2 ∧ g.2 ≤ (segSize g.1 : Int)
 len : gs.length ≤ 8
 cnt : (allR gs).length ≤ 22
theorem tot_le : ∀ (gs : Gs), RecsOk gs → (∀ g ∈ gs, g.1 ≠ []) → (gs.map fun g => segSize g.1).sum ≤ 126 * (allR gs).length
 | [], _, _ => by simp
 | g :: gs, h, hn => by
  have h1 := tot_le gs (fun x hx => h x (by simp [hx])) fun x hx => hn x (by simp [hx])
  have h2 := segSize_le (h g (by simp))
  have h3 : g.1.length ≠ 0 := fun e => hn g (by simp) (List.length_eq_zero_iff.1 e)
  rw [List.map_cons, List.sum_cons, allR_cons, List.length_append]
  omega
theorem logF_rise : ∀ (gs : Gs) (n F : Nat), n + gs.length ≤ 100 → (logF n F gs).Pairwise fun a b => sLt a.1 b.1 = true
 | [], _, _, _ => List.Pairwise.nil
 | g :: gs, n, F, h => by
  rw [List.length_cons] at h
  rw [logF, List.pairwise_cons]
  refine ⟨fun f hf => ?_, logF_rise gs (n + 1) _ (by omega)⟩
  obtain ⟨i, F', g', h1, h2, _, rfl⟩ := logF_mem gs (n + 1) _ f hf
  exact nm_lt (by omega) (by omega)
theorem LG.dp {gs : Gs} (h : LG gs) (n F : Nat) (hn : n + gs.length ≤ 100) : DP 3000 (logF n F gs) := by
 refine ⟨by decide, by rw [logF_length]; exact h.len, ?_, fun f hf => ?_, logF_rise gs n F hn, fun f hf => ?_⟩
 ·have := tot_le gs h.recs h.ne
  have := h.cnt
  rw [totF_log]
  omega
 ·obtain ⟨i, F', g, h1, h2, _, rfl⟩ := logF_mem gs n F f hf
  exact nameB_nm i (by omega)
 ·obtain ⟨i, F', g, h1, h2, h3, rfl⟩ := logF_mem gs n F f hf
  have := h.sure g h3
  rw [show ByteArray.size (segF i F' g.1 g.2).2.1 = segSize g.1 from (strL_size _).trans (recs_seg F' g.1)]
  exact this
def addG (gs : Gs) (r : ByteArray) : Gs := match gs.getLast? with
 | none => [([r], 0)]
 | some g => if segSize g.1 + (6 + r.size) ≤ 160 then gs.dropLast ++ [(g.1 ++ [r], g.2)] else gs.dropLast ++ [(g.1, (segSize g.1 : Int)), ([r], 0)]
theorem addG_nil (r : ByteArray) : addG [] r = [([r], 0)] := rfl
theorem addG_snoc (gs : Gs) (g : List ByteArray × Int) (r : ByteArray) : addG (gs ++ [g]) r = if segSize g.1 + (6 + r.size) ≤ 160 then gs ++ [(g.1 ++ [r], g.2)] else gs ++ [(g.1, (segSize g.1 : Int)), ([r], 0)] := by
 unfold addG
 simp
theorem upd_append (name : ByteArray) (u : El kFile → El kFile) (a b : List (El kFile)) : updF name u (a ++ b) = updF name u a ++ updF name u b := by
 unfold updF
 rw [List.map_append]
theorem upd_none {name : ByteArray} (u : El kFile → El kFile) {l : List (El kFile)} (h : ∀ f ∈ l, f.1 ≠ name) : updF name u l = l := by
 unfold updF
 conv => rhs; rw [← List.map_id l]
 refine List.map_congr_left fun f hf => ?_
 rw [sEq_dec, decide_f (h f hf), cf]
 rfl
theorem upd_one (u : El kFile → El kFile) (f : El kFile) : updF f.1 u [f] = [u f] := by
 unfold updF
 rw [List.map_cons, sEq_self, ct]
 rfl
theorem log_names {gs : Gs} {n F : Nat} (hn : n + gs.length ≤ 100) {j : Nat} (hj : n + gs.length ≤ j) (hj9 : j ≤ 99) : ∀ f ∈ logF n F gs, f.1 ≠ nmV j := by
 intro f hf
 obtain ⟨i, F', g, h1, h2, _, rfl⟩ := logF_mem gs n F f hf
 exact sLt_ne (nm_lt (by omega) (by omega))
theorem insF_end : ∀ {l : List (El kFile)} {f : El kFile}, (∀ g ∈ l, sLt g.1 f.1 = true) → insF f l = l ++ [f]
 | [], f, _ => rfl
 | g :: r, f, h => by
  unfold insF
  rw [if_pos (h g (by simp)), insF_end fun x hx => h x (by simp [hx])]
  rfl
theorem ap_rec {n F : Nat} {gs : Gs} {g : List ByteArray} {s : Int} {r : ByteArray} (hn : n + gs.length ≤ 99) (ht : ((frB r).size : Int) ≤ 3000 - totF (logF n F (gs ++ [(g, s)]))) :
  apV 3000 (logF n F (gs ++ [(g, s)])) (nmV ((n + gs.length : Nat) : Int)) (frB r) = (0, logF n F (gs ++ [(g ++ [r], s)])) := by
 have e1 : logF n F (gs ++ [(g, s)]) = logF n F gs ++ [segF (n + gs.length) (F + (allR gs).length) g s] := logF_append gs [(g, s)] n F
 have e2 : logF n F (gs ++ [(g ++ [r], s)]) = logF n F gs ++ [segF (n + gs.length) (F + (allR gs).length) (g ++ [r]) s] := logF_append gs [(g ++ [r], s)] n F
 unfold apV
 have hh : has (logF n F (gs ++ [(g, s)])) (nmV ((n + gs.length : Nat) : Int)) = true := by
  unfold has
  rw [e1, List.any_append]
  simp [segF, sEq_self]
 rw [hh, ct, decide_f (by omega), cf, e1, e2, upd_append, upd_none _ (log_names (by omega) (Nat.le_refl _) hn)]
 have e3 := upd_one (addU (frB r)) (segF (n + gs.length) (F + (allR gs).length) g s)
 have e4 : addU (frB r) (segF (n + gs.length) (F + (allR gs).length) g s) = segF (n + gs.length) (F + (allR gs).length) (g ++ [r]) s := by
  unfold addU segF frB
  dsimp only
  rw [strL_append]
  congr 3
  unfold segD
  rw [List.map_append, ← List.cons_append, recs_append]
  simp [recs]
 rw [e4] at e3
 exact congrArg (fun x => (0, logF n F gs ++ x)) e3
theorem sy_log {n F : Nat} {gs : Gs} {g : List ByteArray} {s : Int} (hn : n + gs.length ≤ 99) :
  syV (logF n F (gs ++ [(g, s)])) (nmV ((n + gs.length : Nat) : Int)) = logF n F (gs ++ [(g, (segSize g : Int))]) := by
 have e1 : logF n F (gs ++ [(g, s)]) = logF n F gs ++ [segF (n + gs.length) (F + (allR gs).length) g s] := logF_append gs [(g, s)] n F
 have e2 : logF n F (gs ++ [(g, (segSize g : Int))]) = logF n F gs ++ [segF (n + gs.length) (F + (allR gs).length) g (segSize g)] := logF_append gs [(g, (segSize g : Int))] n F
 unfold syV
 rw [e1, e2, upd_append, upd_none _ (log_names (by omega) (Nat.le_refl _) hn)]
 have e3 := upd_one syncU (segF (n + gs.length) (F + (allR gs).length) g s)
 have e4 : syncU (segF (n + gs.length) (F + (allR gs).length) g s) = segF (n + gs.length) (F + (allR gs).length) g (segSize g) := by
  unfold syncU segF
  dsimp only
  rw [strL_size, recs_seg]
 rw [e4] at e3
 exact congrArg (fun x => logF n F gs ++ x) e3
theorem ap_new {n F : Nat} {gs : Gs} {r : ByteArray} (hn : n + gs.length ≤ 99) (h8 : gs.length < 8) (ht : ((hdB ((F + (allR gs).length : Nat) : Int) ++ frB r).size : Int) ≤ 3000 - totF (logF n F gs)) :
  apV 3000 (logF n F gs) (nmV ((n + gs.length : Nat) : Int)) (hdB ((F + (allR gs).length : Nat) : Int) ++ frB r) = (0, logF n F (gs ++ [([r], 0)])) := by
 have e2 : logF n F (gs ++ [([r], 0)]) = logF n F gs ++ [segF (n + gs.length) (F + (allR gs).length) [r] 0] := logF_append gs [([r], 0)] n F
 unfold apV
 have hh : has (logF n F gs) (nmV ((n + gs.length : Nat) : Int)) = false := by
  unfold has
  rw [List.any_eq_false]
  intro f hf e
  exact log_names (by omega) (Nat.le_refl _) hn f hf (sEq_iff.1 e)
 have h8' : ((logF n F gs).length : Int) ≠ 8 := by rw [logF_length]; omega
 rw [hh, cf, show (((logF n F gs).length : Int) == 8) = false by rw [beq_eq_false_iff_ne]; exact h8', Bool.false_or, decide_f (by omega), cf, insF_end (f := (nmV ((n + gs.length : Nat) : Int), (hdB ((F + (allR gs).length : Nat) : Int) ++ frB r, (0 : Int)))) (fun g hg => by
  obtain ⟨i, F', g', h1, h2, _, rfl⟩ := logF_mem gs n F g hg
  exact nm_lt (by omega) (by omega)), e2]
 congr 3
 unfold segF hdB frB segD
 rw [strL_append]
 congr 3
 simp [recs]
theorem ap_full {n F : Nat} {gs : Gs} {d : ByteArray} (hn : n + gs.length ≤ 99) (h8 : gs.length = 8) : (apV 3000 (logF n F gs) (nmV ((n + gs.length : Nat) : Int)) d).1 = 7 := by
 unfold apV
 have hh : has (logF n F gs) (nmV ((n + gs.length : Nat) : Int)) = false := by
  unfold has
  rw [List.any_eq_false]
  intro f hf e
  exact log_names (by omega) (Nat.le_refl _) hn f hf (sEq_iff.1 e)
 rw [hh, cf, show (((logF n F gs).length : Int) == 8) = true by rw [logF_length, h8]; rfl, Bool.true_or, ct]
end Go.Proofs.YtaanadbpnmcbcaaGreatDoorA
namespace Go.Proofs.YtaanadbpnmcbcaaGreatDoorA
open Go
set_option linter.unusedVariables false
set_option linter.unusedSimpArgs false
def syncV (l : List (El kFile)) : List (El kFile) := match (segs l).getLast? with | none => l | some f => syV l f.1
def LastAt (l : List (El kFile)) (j : Nat) (last : Int) : Prop := (last = -1 ∧ segs (l.take j) = []) ∨ ∃ (k : Nat) (hk : k < l.length), last = (k : Int) ∧ (segs (l.take j)).getLast? = some l[k]
theorem sync_loop {R : Type} (kke : Int → Int → Int → List (El kFile) → Option R) {room : Int} {l : List (El kFile)} (h : DK room l) (i2 out : Int) : ∀ (m fu j : Nat) (last : Int), j + m = l.length → m < fu → LastAt l j last →
  ∃ last', gq72.l1 kke fu last (l.length : Int) (j : Int) i2 out l = kke last' i2 out l ∧ LastAt l l.length last' := by
 have h8 := h.len
 intro m
 induction m with
 | zero =>
  intro fu j last e hf hL
  obtain ⟨fu, rfl⟩ : ∃ q, fu = q + 1 := ⟨fu - 1, by omega⟩
  obtain rfl : j = l.length := by omega
  simp only [gq72.l1]
  rw [decide_f (by omega), cf]
  exact ⟨last, rfl, hL⟩
 | succ m ih =>
  intro fu j last e hf hL
  obtain ⟨fu, rfl⟩ : ∃ q, fu = q + 1 := ⟨fu - 1, by omega⟩
  have hj : j < l.length := by omega
  have hns := nameB_size (h.name j hj)
  have et : segs (l.take (j + 1)) = segs (l.take j) ++ (if 0 < segB l[j].1 then [l[j]] else []) := by
   rw [take_snoc hj]
   unfold segs
   rw [List.filter_append, List.filter_cons]
   by_cases h0 : 0 < segB l[j].1
   ·rw [if_pos (decide_eq_true h0), if_pos h0]; rfl
   ·rw [if_neg (by simpa using h0), if_neg h0]; rfl
  simp only [gq72.l1]
  rw [decide_t (by omega), ct, grd_of (gIx_t (by omega) (by omega)), Int.toNat_natCast, rdE_at (k := kFile) hj, segB_i _ (by omega), bs, wr (by omega) (by omega), show ((j : Int) + 1) = ((j + 1 : Nat) : Int) by omega]
  by_cases h0 : 0 < segB l[j].1
  ·rw [decide_t h0, ct]
   exact ih fu (j + 1) j (by omega) (by omega) (.inr ⟨j, hj, rfl, by rw [et, if_pos h0]; simp⟩)
  ·rw [decide_f h0, cf]
   refine ih fu (j + 1) last (by omega) (by omega) ?_
   unfold LastAt at hL ⊢
   rw [et, if_neg h0, List.append_nil]
   exact hL
theorem walSync_i {room : Int} {l : List (El kFile)} (h : DK room l) : gq72 room l = some (room, syncV l) := by
 have h8 := h.len
 unfold gq72 gq72.F gq53 gq53.F
 rw [clone_i l (by omega), bs, bs]
 dsimp only
 obtain ⟨last, e1, e2⟩ := sync_loop (fun last i out l =>
  cond (decide (last ≥ (0 : Int))) (
   grd (gIx last (List.length l)) <|
   grd (gIx last (List.length l)) <|
   some (out, setE kFile l (Int.toNat last) ((rdE kFile l (Int.toNat last)).1, ((rdE kFile l (Int.toNat last)).2.1, (ByteArray.size (rdE kFile l (Int.toNat last)).2.1 : Int))))) (some (out, l))) h 0 room l.length fuel 0 (-1) (by omega) (fuel_big (by omega)) (.inl ⟨rfl, rfl⟩)
 refine Eq.trans e1 ?_
 unfold LastAt at e2
 rw [List.take_length] at e2
 unfold syncV
 rcases e2 with ⟨rfl, hs⟩ | ⟨k, hk, rfl, hs⟩
 ·rw [hs]
  rfl
 ·rw [hs, decide_t (by omega), ct, grd_of (gIx_t (by omega) (by omega)), grd_of (gIx_t (by omega) (by omega)), Int.toNat_natCast, rdE_at (k := kFile) hk]
  dsimp only
  unfold syV
  rw [upd_set h hk]
  rfl
theorem DP.syncV {room : Int} {l : List (El kFile)} (h : DP room l) : DP room (syncV l) := by
 unfold Go.Proofs.YtaanadbpnmcbcaaGreatDoorA.syncV
 cases (segs l).getLast? with
 | none => exact h
 | some f => exact h.sync f.1
end Go.Proofs.YtaanadbpnmcbcaaGreatDoorA
namespace Go.Proofs.YtaanadbpnmcbcaaGreatDoorA
open Go
set_option linter.unusedVariables false
set_option linter.unusedSimpArgs false
theorem LG.nil : LG [] := ⟨fun g h => by simp at h, fun g h => by simp at h, fun g h => by simp at h, by simp, by simp [allR]⟩
theorem allR_add (gs : Gs) (r : ByteArray) : allR (addG gs r) = allR gs ++ [r] := by
 rcases List.eq_nil_or_concat gs with rfl | ⟨a, g, rfl⟩
 ·rfl
 ·rw [List.concat_eq_append, addG_snoc]
  split
  ·rw [allR_append, allR_append]
   simp [allR]
  ·rw [allR_append, allR_append]
   simp [allR]
theorem addG_len (gs : Gs) (r : ByteArray) : (addG gs r).length ≤ gs.length + 1 ∧ gs.length ≤ (addG gs r).length := by
 rcases List.eq_nil_or_concat gs with rfl | ⟨a, g, rfl⟩
 ·exact ⟨by simp [addG_nil], by simp⟩
 ·rw [List.concat_eq_append, addG_snoc]
  split
  ·simp
  ·simp
theorem LG.add {gs : Gs} (h : LG gs) {r : ByteArray} (hr : Rec1 r) (h8 : (addG gs r).length ≤ 8) (hc : (allR gs).length ≤ 21) : LG (addG gs r) := by
 have hall : (allR (addG gs r)).length ≤ 22 := by rw [allR_add]; simp; omega
 rcases List.eq_nil_or_concat gs with rfl | ⟨a, g, rfl⟩
 ·rw [addG_nil] at *
  refine ⟨fun g hg => ?_, fun g hg => ?_, fun g hg => ?_, by simp, by simp [allR]⟩
  ·obtain rfl := List.mem_singleton.1 hg
   intro x hx
   obtain rfl := List.mem_singleton.1 hx
   exact hr
  ·obtain rfl := List.mem_singleton.1 hg
   simp
  ·obtain rfl := List.mem_singleton.1 hg
   exact ⟨Int.le_refl _, by omega⟩
 ·rw [List.concat_eq_append] at *
  have hs := h.sure g (by simp)
  have hg := h.recs g (by simp)
  have hne := h.ne g (by simp)
  rw [addG_snoc] at h8 hall ⊢
  split
  ·rename_i hz
   rw [if_pos hz] at h8 hall
   refine ⟨fun x hx => ?_, fun x hx => ?_, fun x hx => ?_, h8, hall⟩
   ·rcases List.mem_append.1 hx with hx | hx
    ·exact h.recs x (by simp [hx])
    ·obtain rfl := List.mem_singleton.1 hx
     intro y hy
     rcases List.mem_append.1 hy with hy | hy
     ·exact hg y hy
     ·obtain rfl := List.mem_singleton.1 hy
      exact hr
   ·rcases List.mem_append.1 hx with hx | hx
    ·exact h.ne x (by simp [hx])
    ·obtain rfl := List.mem_singleton.1 hx
     simp
   ·rcases List.mem_append.1 hx with hx | hx
    ·exact h.sure x (by simp [hx])
    ·obtain rfl := List.mem_singleton.1 hx
     rw [segSize_snoc]
     exact ⟨hs.1, by have := hs.2; show g.2 ≤ _; omega⟩
  ·rename_i hz
   rw [if_neg hz] at h8 hall
   refine ⟨fun x hx => ?_, fun x hx => ?_, fun x hx => ?_, h8, hall⟩
   ·rcases List.mem_append.1 hx with hx | hx
    ·exact h.recs x (by simp [hx])
    ·rcases List.mem_cons.1 hx with rfl | hx
     ·exact hg
     ·obtain rfl := List.mem_singleton.1 hx
      intro y hy
      obtain rfl := List.mem_singleton.1 hy
      exact hr
   ·rcases List.mem_append.1 hx with hx | hx
    ·exact h.ne x (by simp [hx])
    ·rcases List.mem_cons.1 hx with rfl | hx
     ·exact hne
     ·obtain rfl := List.mem_singleton.1 hx
      simp
   ·rcases List.mem_append.1 hx with hx | hx
    ·exact h.sure x (by simp [hx])
    ·rcases List.mem_cons.1 hx with rfl | hx
     ·exact ⟨by show (0 : Int) ≤ (segSize g.1 : Int); omega, Int.le_refl _⟩
     ·obtain rfl := List.mem_singleton.1 hx
      exact ⟨Int.le_refl _, by omega⟩
theorem wV_lg {gs : Gs} (h : LG gs) (n F : Nat) (h0 : 1 ≤ n) (hn : n + gs.length ≤ 100) (hF : F + 22 < 4294967296) (hg : gs ≠ []) : wV (logF n F gs) = ((F : Int), allR gs, nms n gs.length, 0, 0) :=
 wV_log gs n F h.recs h0 hn (by have := h.cnt; omega) hg
theorem chk_lg {gs : Gs} (h : LG gs) {r : ByteArray} (hr : Rec1 r) : chkV (logF 1 0 gs) r = 0 := by
 have hlen := h.len
 have hcnt := h.cnt
 unfold Rec1 at hr
 unfold chkV
 rw [decide_t (by omega), decide_t (by omega), Bool.and_self, Bool.not_true, cf]
 rcases List.eq_nil_or_concat gs with rfl | ⟨a, g, rfl⟩
 ·rfl
 ·rw [List.concat_eq_append] at *
  rw [wV_lg h 1 0 (Nat.le_refl _) (by omega) (by omega) (by simp)]
  dsimp only
  rw [show ((0 : Int) != 0) = false from rfl, cf, show decide ((0 : Int) > 0) = false from rfl, cf, decide_f (by omega), cf, segs_log _ 1 0 (Nat.le_refl _) (by omega)]
  have e1 : logF 1 0 (a ++ [g]) = logF 1 0 a ++ [segF (1 + a.length) (0 + (allR a).length) g.1 g.2] := logF_append a [g] 1 0
  rw [e1, List.getLast?_append]
  have hl : a.length + 1 ≤ 8 := by simpa using hlen
  show cond (segB (nmV ((1 + a.length : Nat) : Int)) == 99) 6 0 = 0
  rw [segB_nm _ (by omega), show (((1 + a.length : Nat) : Int) == 99) = false by rw [beq_eq_false_iff_ne]; omega, cf]
theorem wap_lg {gs : Gs} (h : LG gs) {r : ByteArray} (hr : Rec1 r) (hc : (allR gs).length ≤ 21) :
  ((addG gs r).length ≤ 8 → wapV 3000 (logF 1 0 gs) r = (3000, logF 1 0 (addG gs r), 0)) ∧ (8 < (addG gs r).length → (wapV 3000 (logF 1 0 gs) r).2.2 = 7) := by
 have hlen := h.len
 have hr' := hr
 unfold Rec1 at hr'
 have hfr := frB_size r
 have htot : totF (logF 1 0 gs) ≤ 126 * 21 := by
  rw [totF_log]
  have := tot_le gs h.recs h.ne
  omega
 unfold wapV
 rw [chk_lg h hr, show ((0 : Int) != 0) = false from rfl, cf]
 unfold planV
 rcases List.eq_nil_or_concat gs with rfl | ⟨a, g, rfl⟩
 ·refine ⟨fun _ => ?_, fun h => by rw [addG_nil] at h; simp at h⟩
  have e := ap_new (n := 1) (F := 0) (gs := []) (r := r) (by simp) (by simp) (by
   rw [ByteArray.size_append, hdB_size, hfr]
   show ((10 + (6 + r.size) : Nat) : Int) ≤ 3000 - 0
   omega)
  have e2 : doV 3000 (logF 1 0 []) (planL ((segs (logF 1 0 [])).getLast?) (IntKind.wrap .i64 ((wV (logF 1 0 [])).1 + ((wV (logF 1 0 [])).2.1.length : Int))) r) = doV 3000 (logF 1 0 []) [actA (nmV ((1 + ([] : Gs).length : Nat) : Int)) (hdB ((0 + (allR []).length : Nat) : Int) ++ frB r)] := rfl
  rw [e2, doV_one, e]
  rfl
 ·rw [List.concat_eq_append] at *
  have hl : a.length + 1 ≤ 8 := by simpa using hlen
  have e1 : logF 1 0 (a ++ [g]) = logF 1 0 a ++ [segF (1 + a.length) (0 + (allR a).length) g.1 g.2] := logF_append a [g] 1 0
  have hlast : (segs (logF 1 0 (a ++ [g]))).getLast? = some (segF (1 + a.length) (0 + (allR a).length) g.1 g.2) := by
   rw [segs_log _ 1 0 (Nat.le_refl _) (by omega), e1, List.getLast?_append]
   rfl
  rw [hlast, wV_lg h 1 0 (Nat.le_refl _) (by omega) (by omega) (by simp)]
  dsimp only
  have hsz : ByteArray.size (segF (1 + a.length) (0 + (allR a).length) g.1 g.2).2.1 = segSize g.1 := (strL_size _).trans (recs_seg _ g.1)
  have hseg : segSize g.1 = 10 + (g.1.map fun r => 6 + r.size).sum := rfl
  have hs0 : ((segSize g.1 : Nat) : Int) ≠ 0 := by omega
  have hsl := segSize_le (h.recs g (by simp))
  unfold planL
  dsimp only
  rw [hsz, show (((segSize g.1 : Nat) : Int) == 0) = false by rw [beq_eq_false_iff_ne]; exact hs0, cf]
  have hw : IntKind.wrap .i64 (((0 : Nat) : Int) + ((allR (a ++ [g])).length : Int)) = ((0 + (allR (a ++ [g])).length : Nat) : Int) := by
   rw [wr (by omega) (by omega)]
   omega
  rw [hw]
  have hseg1 : segB (segF (1 + a.length) (0 + (allR a).length) g.1 g.2).1 = ((1 + a.length : Nat) : Int) := segB_nm _ (by omega)
  rw [addG_snoc]
  by_cases hz : segSize g.1 + (6 + r.size) ≤ 160
  ·rw [if_pos hz]
   refine ⟨fun _ => ?_, fun h => by simp at h; omega⟩
   rw [hfr, decide_f (by omega), cf]
   have ht2 : totF (logF 1 0 (a ++ [(g.1, g.2)])) ≤ 126 * 21 := htot
   have e := ap_rec (n := 1) (F := 0) (gs := a) (g := g.1) (s := g.2) (r := r) (by omega) (by rw [hfr]; omega)
   have e' : apV 3000 (logF 1 0 (a ++ [g])) (segF (1 + a.length) (0 + (allR a).length) g.1 g.2).1 (frB r) = (0, logF 1 0 (a ++ [(g.1 ++ [r], g.2)])) := e
   have ed : doV 3000 (logF 1 0 (a ++ [g])) [actA (segF (1 + a.length) (0 + (allR a).length) g.1 g.2).1 (frB r)] = (0, logF 1 0 (a ++ [(g.1 ++ [r], g.2)])) := by
    rw [doV_one, e']
    rfl
   rw [ed]
   rfl
  ·rw [if_neg hz, hfr, decide_t (by omega), ct, hseg1]
   have e3 : ∀ d, doV 3000 (logF 1 0 (a ++ [g])) [actS (segF (1 + a.length) (0 + (allR a).length) g.1 g.2).1, actA (nmV (((1 + a.length : Nat) : Int) + 1)) d] = doV 3000 (logF 1 0 (a ++ [(g.1, (segSize g.1 : Int))])) [actA (nmV ((1 + (a ++ [(g.1, (segSize g.1 : Int))]).length : Nat) : Int)) d] := by
    intro d
    rw [doV_two]
    have e4 := sy_log (n := 1) (F := 0) (gs := a) (g := g.1) (s := g.2) (by omega)
    have e4' : syV (logF 1 0 (a ++ [g])) (segF (1 + a.length) (0 + (allR a).length) g.1 g.2).1 = logF 1 0 (a ++ [(g.1, (segSize g.1 : Int))]) := e4
    rw [e4']
    congr 4
    rw [List.length_append]
    simp
    omega
   rw [e3]
   have hall : allR (a ++ [(g.1, (segSize g.1 : Int))]) = allR (a ++ [g]) := by rw [allR_append, allR_append]; rfl
   have htt : totF (logF 1 0 (a ++ [(g.1, (segSize g.1 : Int))])) = totF (logF 1 0 (a ++ [g])) := by
    rw [totF_log, totF_log]
    simp
   refine ⟨fun h8 => ?_, fun h8 => ?_⟩
   ·have e5 := ap_new (n := 1) (F := 0) (gs := a ++ [(g.1, (segSize g.1 : Int))]) (r := r) (by simp; omega) (by simp at h8 ⊢; omega) (by
     rw [ByteArray.size_append, hdB_size, hfr, htt]
     omega)
    rw [hall] at e5
    have ed := doV_one 3000 (logF 1 0 (a ++ [(g.1, (segSize g.1 : Int))])) (nmV ((1 + (a ++ [(g.1, (segSize g.1 : Int))]).length : Nat) : Int)) (hdB ((0 + (allR (a ++ [g])).length : Nat) : Int) ++ frB r)
    rw [e5] at ed
    rw [ed]
    show ((3000 : Int), logF 1 0 (a ++ [(g.1, (segSize g.1 : Int))] ++ [([r], 0)]), (0 : Int)) = _
    rw [List.append_assoc]
    rfl
   ·have e5 := ap_full (n := 1) (F := 0) (gs := a ++ [(g.1, (segSize g.1 : Int))]) (d := hdB ((0 + (allR (a ++ [g])).length : Nat) : Int) ++ frB r) (by simp; omega) (by simp at h8 ⊢; omega)
    have ed := doV_one 3000 (logF 1 0 (a ++ [(g.1, (segSize g.1 : Int))])) (nmV ((1 + (a ++ [(g.1, (segSize g.1 : Int))]).length : Nat) : Int)) (hdB ((0 + (allR (a ++ [g])).length : Nat) : Int) ++ frB r)
    rw [e5, show ((7 : Int) != 0) = true from rfl, ct] at ed
    rw [ed]
    rfl
end Go.Proofs.YtaanadbpnmcbcaaGreatDoorA
namespace Go.Proofs.YtaanadbpnmcbcaaGreatDoorA
open Go
set_option linter.unusedVariables false
set_option linter.unusedSimpArgs false
theorem at_eq (more : List Int) (hb : IsBytes more) (hl : more.length ≤ 1048576) (i n : Int) (h0 : 0 ≤ i) (h1 : i ≤ 1000) (hn : 1 < n) (hn1 : n ≤ 1000) : ∃ v, l_at more i n = some v ∧ 0 ≤ v ∧ v < n := by
 unfold l_at l_at.F
 rw [decide_f (by omega), cf]
 by_cases hm : more.length = 0
 ·rw [show ((more.length : Int) == 0) = true by rw [beq_iff_eq]; omega, ct, grd_of (gNz_t (by omega)), wr (by omega) (by omega), tmod_pos (by omega)]
  exact ⟨_, rfl, Int.emod_nonneg _ (by omega), Int.emod_lt_of_pos _ (by omega)⟩
 ·have hp : 0 < (more.length : Int) := by omega
  have a1 := Int.emod_nonneg i (show (more.length : Int) ≠ 0 by omega)
  have a2 := Int.emod_lt_of_pos i hp
  have b1 := Int.emod_nonneg (i + 1) (show (more.length : Int) ≠ 0 by omega)
  have b2 := Int.emod_lt_of_pos (i + 1) hp
  have hx : (i % (more.length : Int)).toNat < more.length := by omega
  have hy : ((i + 1) % (more.length : Int)).toNat < more.length := by omega
  have gx := hb.get hx
  have gy := hb.get hy
  have c1 : 0 ≤ i / (more.length : Int) := Int.ediv_nonneg h0 (by omega)
  have c2 : i / (more.length : Int) ≤ i := Int.ediv_le_self _ h0
  rw [show ((more.length : Int) == 0) = false by rw [beq_eq_false_iff_ne]; omega, cf, grd_of (gNz_t (by omega)), wr (x := i + 1) (by omega) (by omega), tmod_pos h0, tmod_pos (by omega), tdiv_pos h0, grd_of (gIx_t a1 (by omega)), grd_of (gNz_t (by omega)), grd_of (gIx_t b1 (by omega)), grd_of (gNz_t (by omega)), grd_of (gNz_t (by omega)), rdE_at (k := .int .u8) hx, rdE_at (k := .int .u8) hy]
  rw [wr (x := more[(i % (more.length : Int)).toNat]) (by omega) (by omega), wr (x := more[((i + 1) % (more.length : Int)).toNat]) (by omega) (by omega), wr (x := i / (more.length : Int)) (by omega) (by omega), wr (x := more[(i % (more.length : Int)).toNat] * 31) (by omega) (by omega), wr (x := more[(i % (more.length : Int)).toNat] * 31 + more[((i + 1) % (more.length : Int)).toNat]) (by omega) (by omega), wr (by omega) (by omega), tmod_pos (by omega)]
  exact ⟨_, rfl, Int.emod_nonneg _ (by omega), Int.emod_lt_of_pos _ (by omega)⟩
theorem texts_self (a : List ByteArray) (h : a.length ≤ 1000000) : gq24 a a = some true := by
 unfold gq24 gq24.F
 rw [show ((a.length : Int) != a.length) = false by simp, cf]
 have key : ∀ (m fu i : Nat), i + m = a.length → m < fu → gq24.l1 (some true) (fun b1 => some b1) fu a a (i : Int) = some true := by
  intro m
  induction m with
  | zero =>
   intro fu i e hf
   obtain ⟨fu, rfl⟩ : ∃ q, fu = q + 1 := ⟨fu - 1, by omega⟩
   simp only [gq24.l1]
   rw [decide_f (by omega), cf]
  | succ m ih =>
   intro fu i e hf
   obtain ⟨fu, rfl⟩ : ∃ q, fu = q + 1 := ⟨fu - 1, by omega⟩
   simp only [gq24.l1]
   rw [decide_t (by omega), ct, grd_of (gIx_t (by omega) (by omega)), grd_of (gIx_t (by omega) (by omega)), sEq_self, Bool.not_true, cf, wr (by omega) (by omega), show ((i : Int) + 1) = ((i + 1 : Nat) : Int) by omega]
   exact ih fu (i + 1) (by omega) (by omega)
 have := key a.length fuel 0 (by omega) (fuel_big (by omega))
 rwa [Int.natCast_zero] at this
theorem disk_self (r : Int) (a : List (El kFile)) (h : a.length ≤ 1000000) : gq22 r a r a = some true := by
 unfold gq22 gq22.F
 rw [show (r != r) = false by simp, cf, show ((a.length : Int) != a.length) = false by simp, cf]
 have key : ∀ (m fu i : Nat), i + m = a.length → m < fu → gq22.l1 (some true) (fun b1 => some b1) fu (i : Int) r a r a = some true := by
  intro m
  induction m with
  | zero =>
   intro fu i e hf
   obtain ⟨fu, rfl⟩ : ∃ q, fu = q + 1 := ⟨fu - 1, by omega⟩
   simp only [gq22.l1]
   rw [decide_f (by omega), cf]
  | succ m ih =>
   intro fu i e hf
   obtain ⟨fu, rfl⟩ : ∃ q, fu = q + 1 := ⟨fu - 1, by omega⟩
   simp only [gq22.l1]
   rw [decide_t (by omega), ct, grd_of (gIx_t (by omega) (by omega)), grd_of (gIx_t (by omega) (by omega)), sEq_self, sEq_self, beq_self_eq_true, Bool.and_self, Bool.and_self, Bool.not_true, cf, wr (by omega) (by omega), show ((i : Int) + 1) = ((i + 1 : Nat) : Int) by omega]
   exact ih fu (i + 1) (by omega) (by omega)
 have := key a.length fuel 0 (by omega) (fuel_big (by omega))
 rwa [Int.natCast_zero] at this
theorem newDisk_s : gq17 3000 = some (3000, [], 0) := by
 unfold gq17 gq17.F
 rw [l01In_eq, bs]
 rfl
theorem recordOf_eq (c : List Int) (hb : IsBytes c) (hl : c.length ≤ 2097152) : ∃ r, gq20 c = some r ∧ Rec1 r := by
 obtain ⟨s, e1, h1⟩ := source_eq2 c hb hl
 unfold gq20 gq20.F gq64 gq64.F
 rw [e1, bs, grd_of (gMk_t (by decide) (by decide) (by decide))]
 obtain ⟨v, a', s', e2, h2, _⟩ := pick_eq h1 (by decide) [(⟨#[114]⟩ : ByteArray), (⟨#[114, 101, 99, 111, 114, 100]⟩ : ByteArray), (⟨#[97, 32, 108, 111, 110, 103, 101, 114, 32, 114, 101, 99, 111, 114, 100]⟩ : ByteArray), strL (List.replicate (Int.toNat (100 : Int)) (0 : Int)), (⟨#[120, 49]⟩ : ByteArray)] (by simp) (by simp)
 dsimp only
 rw [e2, bs, bs]
 refine ⟨v, rfl, ?_⟩
 unfold Rec1
 simp only [List.mem_cons, List.not_mem_nil, or_false] at h2
 rcases h2 with rfl | rfl | rfl | rfl | rfl
 ·exact ⟨by decide, by decide⟩
 ·exact ⟨by decide, by decide⟩
 ·exact ⟨by decide, by decide⟩
 ·rw [strL_size, List.length_replicate]
  exact ⟨by decide, by decide⟩
 ·exact ⟨by decide, by decide⟩
end Go.Proofs.YtaanadbpnmcbcaaGreatDoorA
namespace Go.Proofs.YtaanadbpnmcbcaaGreatDoorA
open Go
set_option linter.unusedVariables false
set_option linter.unusedSimpArgs false
def suF (f : El kFile) : Int := f.2.2
def szF (f : El kFile) : Nat := ByteArray.size f.2.1
def crN (keep : List Int) (i : Nat) (f : El kFile) : Int := if i < keep.length then mx2 (suF f) (mn2 (szF f : Int) (suF f + mn2 3000 (rdE (.int .i64 : Kd) keep i))) else suF f
def crF (keep : List Int) (i : Nat) (f : El kFile) : El kFile := (f.1, (cut f.2.1 0 (crN keep i f), crN keep i f))
def crL (keep : List Int) : Nat → List (El kFile) → List (El kFile)
 | _, [] => []
 | i, f :: r => crF keep i f :: crL keep (i + 1) r
theorem crn_int (s z k : Int) (h0 : 0 ≤ s) (h1 : s ≤ z) : s ≤ mx2 s (mn2 z (s + mn2 3000 k)) ∧ mx2 s (mn2 z (s + mn2 3000 k)) ≤ z := by
 unfold mx2 mn2
 repeat' split
 all_goals omega
theorem crN_range {keep : List Int} {i : Nat} {f : El kFile} (h0 : 0 ≤ suF f) (h1 : suF f ≤ (szF f : Int)) : suF f ≤ crN keep i f ∧ crN keep i f ≤ (szF f : Int) := by
 unfold crN
 split
 ·exact crn_int _ _ _ h0 h1
 ·exact ⟨Int.le_refl _, h1⟩
theorem cut_all (s : ByteArray) : cut s 0 (s.size : Int) = s := by
 have := cut_strL (bytesL s) 0 (s.size : Int)
 rw [strL_bytesL] at this
 rw [this, show sub (bytesL s) 0 (s.size : Int) = bytesL s by
  show ((bytesL s).take (s.size : Int).toNat).drop (0 : Int).toNat = bytesL s
  rw [Int.toNat_natCast, List.take_of_length_le (by rw [bytesL_length]; exact Nat.le_refl _)]
  rfl, strL_bytesL]
theorem rd_mid (A : List (El kFile)) (f : El kFile) (r : List (El kFile)) : rdE kFile (A ++ f :: r) A.length = f := by
 rw [rdE_at (k := kFile) (by simp)]
 simp
theorem set_mid (A : List (El kFile)) (f x : El kFile) (r : List (El kFile)) : setE kFile (A ++ f :: r) A.length x = A ++ x :: r := by
 rw [setE_eq, List.set_append_right _ _ (Nat.le_refl _), Nat.sub_self]
 rfl
theorem crash_loop {R : Type} (kke : Int → Int → List (El kFile) → Option R) (keep : List Int) (hk : ∀ x ∈ keep, 0 ≤ x ∧ x ≤ 1000) (hkl : keep.length ≤ 1000) (i1 out : Int) : ∀ (B : List (El kFile)) (A : List (El kFile)) (fu : Nat), (∀ f ∈ B, 0 ≤ suF f ∧ suF f ≤ (szF f : Int) ∧ szF f ≤ 3000) → A.length + B.length ≤ 1000 → B.length < fu →
  gq123.l2 kke fu keep (A.length : Int) i1 out (A ++ B) = kke i1 out (A ++ crL keep A.length B)
 | [], A, fu, _, hl, hf => by
  obtain ⟨fu, rfl⟩ : ∃ q, fu = q + 1 := ⟨fu - 1, by omega⟩
  simp only [gq123.l2]
  rw [List.append_nil, decide_f (by omega), cf]
  simp [crL]
 | f :: r, A, fu, hb, hl, hf => by
  rw [List.length_cons] at hl hf
  obtain ⟨fu, rfl⟩ : ∃ q, fu = q + 1 := ⟨fu - 1, by omega⟩
  obtain ⟨b0, b1, b2⟩ := hb f (by simp)
  have hcr := crN_range (keep := keep) (i := A.length) b0 b1
  have hlen : (A ++ f :: r).length = A.length + (r.length + 1) := by simp
  have fin : ∀ n_ : Int, n_ = crN keep A.length f → (grd (gSl (0 : Int) n_ (ByteArray.size f.2.1)) <| gq123.l2 kke fu keep (IntKind.wrap .i64 ((A.length : Int) + 1)) i1 out (A ++ (f.1, (cut f.2.1 0 n_, n_)) :: r)) = kke i1 out (A ++ crL keep A.length (f :: r)) := by
   rintro _ rfl
   rw [grd_of (show gSl 0 (crN keep A.length f) (ByteArray.size f.2.1) = true from gSl_t (by decide) (by omega) hcr.2), wr (by omega) (by omega)]
   have ih := crash_loop kke keep hk hkl i1 out r (A ++ [crF keep A.length f]) fu (fun x hx => hb x (by simp [hx])) (by simp; omega) (by omega)
   rw [List.append_assoc, List.append_assoc, List.length_append, List.length_singleton] at ih
   rw [show ((A.length : Int) + 1) = ((A.length + 1 : Nat) : Int) by omega]
   exact ih
  simp only [gq123.l2, gq123.j1]
  rw [decide_t (by omega), ct, grd_of (gIx_t (by omega) (by omega)), Int.toNat_natCast]
  by_cases hi : A.length < keep.length
  ·have hx := hk _ (List.getElem_mem hi)
   have hrd : rdE (.int .i64 : Kd) keep A.length = keep[A.length] := rdE_at (k := .int .i64) hi
   have hm : 0 ≤ mn2 3000 keep[A.length] ∧ mn2 3000 keep[A.length] ≤ 3000 := by unfold mn2; split <;> omega
   rw [decide_t (by omega), ct, grd_of (gIx_t (by omega) (by omega))]
   rw [rd_mid, set_mid, rd_mid, set_mid, hrd]
   have hw : IntKind.wrap .i64 (suF f + mn2 3000 keep[A.length]) = suF f + mn2 3000 keep[A.length] := wr (by omega) (by omega)
   refine fin _ ?_
   show mx2 (suF f) (mn2 (szF f : Int) (IntKind.wrap .i64 (suF f + mn2 3000 keep[A.length]))) = _
   rw [hw]
   unfold crN
   rw [if_pos hi, hrd]
  ·rw [decide_f (by omega), cf]
   rw [rd_mid, set_mid, rd_mid, set_mid]
   refine fin _ ?_
   unfold crN
   rw [if_neg hi]
   rfl
theorem fileStep_crash {l : List (El kFile)} (h : DP 3000 l) (keep : List Int) (hk : ∀ x ∈ keep, 0 ≤ x ∧ x ≤ 1000) (hkl : keep.length ≤ 1000) (hdp : (crL keep 0 l).length ≤ 1000) :
  gq29 3000 l 5 0 ByteArray.empty ByteArray.empty ByteArray.empty keep = some (3000, crL keep 0 l, 0) := by
 have h8 := h.len
 unfold gq29 gq29.F
 have hz : decide ((ByteArray.size ByteArray.empty : Int) > 65536) = false := rfl
 rw [hz, cf, cf, cf, decide_f (by omega), cf, disk_s 3000 l (by omega) ⟨h.dk.fit, fun f hf => by have := h.dk.data hf; omega⟩, bs, h.ok, Bool.not_true, cf]
 unfold gq74 gq74.F gq74.j1
 rw [show ((5 : Int) == 1) = false from rfl, cf, show ((5 : Int) == 5) = true from rfl, ct]
 unfold gq123 gq123.F gq50 gq50.F
 rw [grd_of (gRm_t (by simp only [List.length_nil]; omega)), bs, List.nil_append]
 have e := crash_loop (fun i out l => some (out, l)) keep hk hkl 0 3000 l [] fuel (fun f hf => ⟨(h.sure f hf).1, (h.sure f hf).2, h.dk.data hf⟩) (by simp; omega) (fuel_big (by omega))
 rw [List.length_nil, Int.natCast_zero, List.nil_append, List.nil_append] at e
 dsimp only
 rw [e, bs, bs]
 dsimp only
 rw [grd_of (gRm_t (by simp only [List.length_nil]; omega)), bs, List.nil_append]
theorem crL_full (keep : List Int) : ∀ (l : List (El kFile)) (i : Nat), (∀ f ∈ l, suF f = (szF f : Int)) → crL keep i l = l
 | [], _, _ => rfl
 | f :: r, i, h => by
  have hf := h f (by simp)
  have hr := crN_range (keep := keep) (i := i) (f := f) (by omega) (by omega)
  have e : crN keep i f = (szF f : Int) := by omega
  have e2 : crF keep i f = f := by
   unfold crF
   rw [e, show cut f.2.1 0 (szF f : Int) = f.2.1 from cut_all _, ← hf]
   rfl
  rw [crL, e2, crL_full keep r (i + 1) fun x hx => h x (by simp [hx])]
theorem crL_append (keep : List Int) : ∀ (a b : List (El kFile)) (i : Nat), crL keep i (a ++ b) = crL keep i a ++ crL keep (i + a.length) b
 | [], b, i => rfl
 | f :: a, b, i => by
  rw [List.cons_append, crL, crL, crL_append keep a b (i + 1), List.cons_append, List.length_cons, Nat.add_assoc, Nat.add_comm 1]
end Go.Proofs.YtaanadbpnmcbcaaGreatDoorA
namespace Go.Proofs.YtaanadbpnmcbcaaGreatDoorA
open Go
set_option linter.unusedVariables false
set_option linter.unusedSimpArgs false
def lastF (n : Nat) (x : List Int) (s : Int) : El kFile := (nmV (n : Int), (strL x, s))
theorem wGo_lastF {n F j : Nat} {g : List ByteArray} {x : List Int} {s : Int} (hg : ∀ r ∈ g, Rec1 r) (hn : n ≤ 99) (hF : F < 4294967296) {u c : Int} (hx : frT x = (((segD F g).take j).map strL, u, c)) (hxb : IsBytes x) (hc : c = 0 ∨ c = 16) (last : Int) (R N : List ByteArray)
  (h : N.isEmpty = true ∧ F = 0 ∨ N.isEmpty = false ∧ last + 1 = n ∧ (F : Int) = (R.length : Int)) :
  wGo [lastF n x s] last 0 R N 0 = (0, R ++ g.take (j - 1), N ++ [nmV (n : Int)], (x.length : Int) - u, 0) := by
 have hfr : frF (lastF n x s) = (((segD F g).take j).map strL, u, c) := by
  unfold frF lastF
  rw [bytesL_strL hxb, hx]
 have hh : beN 0 (bytesL (strL (beL (F : Int) 4))) = (F : Int) := by
  rw [bytesL_strL (beL_bytes _ _)]
  exact beN_beL _ 4 (by omega) (by omega)
 have hs : ((strL (beL (F : Int) 4)).size : Int) = 4 := by rw [strL_size, beL_length]; rfl
 have hb : (c != 0 && !(true && c == 16)) = false := by rcases hc with rfl | rfl <;> rfl
 have hseg : segB (lastF n x s).1 = (n : Int) := segB_nm n hn
 have hgap : (!N.isEmpty && segB (lastF n x s).1 != last + 1) = false := by
  rw [hseg]
  rcases h with ⟨h, _⟩ | ⟨h, h1, _⟩
  ·rw [h]; rfl
  ·rw [h, h1]; simp
 have key : cW 0 R N last (lastF n x s) true = 0 ∧ fW 0 N (lastF n x s) = 0 ∧ (frF (lastF n x s)).1.tail = g.take (j - 1) := by
  unfold cW fW
  rw [hfr, hgap]
  dsimp only
  rw [hb, cf, cf]
  cases j with
  | zero =>
   rw [List.take_zero]
   exact ⟨rfl, rfl, by simp⟩
  | succ j =>
   have e : ((segD F g).take (j + 1)).map strL = strL (beL F 4) :: g.take j := by
    rw [segD, List.take_succ_cons, List.map_cons, ← List.map_take, map_strL]
   rw [e, List.isEmpty_cons, cf, List.headD_cons, hs, hh, List.tail_cons, Nat.add_sub_cancel]
   refine ⟨?_, ?_, rfl⟩
   ·rcases h with ⟨h, h1⟩ | ⟨h, _, h1⟩
    ·rw [h]; rfl
    ·rw [h, h1]; simp
   ·rcases h with ⟨h, h1⟩ | ⟨h, _, h1⟩
    ·rw [h, h1]; rfl
    ·rw [h]; rfl
 unfold wGo
 rw [List.isEmpty_nil, key.1, show ((0 : Int) != 0) = false from rfl, cf, key.2.1, key.2.2]
 unfold wGo
 rw [hfr]
 show (0, R ++ g.take (j - 1), N ++ [nmV (n : Int)], ((strL x).size : Int) - u, 0) = _
 rw [strL_size]
theorem wV_lastF {a : Gs} (ha : RecsOk a) {j : Nat} {g : List ByteArray} {x : List Int} {s : Int} (hg : ∀ r ∈ g, Rec1 r) (hn : 1 + a.length ≤ 99) (hF : (allR a).length < 4294967296) {u c : Int} (hx : frT x = (((segD (allR a).length g).take j).map strL, u, c)) (hxb : IsBytes x) (hc : c = 0 ∨ c = 16) :
  wV (logF 1 0 a ++ [lastF (1 + a.length) x s]) = (0, allR a ++ g.take (j - 1), nms 1 a.length ++ [nmV ((1 + a.length : Nat) : Int)], (x.length : Int) - u, 0) := by
 have hsg : segs (logF 1 0 a ++ [lastF (1 + a.length) x s]) = logF 1 0 a ++ [lastF (1 + a.length) x s] := by
  refine segs_all fun f hf => ?_
  rcases List.mem_append.1 hf with hf | hf
  ·obtain ⟨i, F', g', h1, h2, _, rfl⟩ := logF_mem a 1 0 f hf
   rw [show segB (segF i F' g'.1 g'.2).1 = (i : Int) from segB_nm i (by omega)]
   omega
  ·obtain rfl := List.mem_singleton.1 hf
   rw [show segB (lastF (1 + a.length) x s).1 = ((1 + a.length : Nat) : Int) from segB_nm _ hn]
   omega
 unfold wV
 rw [hsg]
 cases ha0 : a with
 | nil =>
  subst ha0
  exact wGo_lastF (n := 1) (F := 0) hg (by decide) (by decide) hx hxb hc 0 [] [] (.inl ⟨rfl, rfl⟩)
 | cons y b =>
  have hne : a ≠ [] := by rw [ha0]; simp
  rw [← ha0, wGo_log0 a 1 0 ha (by omega) (by omega) hne]
  refine wGo_lastF hg hn hF hx hxb hc _ _ _ (.inr ⟨?_, by omega, rfl⟩)
  rw [ha0]
  rfl
theorem DP.last {room : Int} {l : List (El kFile)} {f f' : El kFile} (h : DP room (l ++ [f])) (h1 : f'.1 = f.1) (h2 : ByteArray.size f'.2.1 ≤ ByteArray.size f.2.1) (h3 : 0 ≤ suF f' ∧ suF f' ≤ (szF f' : Int)) : DP room (l ++ [f']) := by
 have ht := h.tot
 have e : ∀ x : El kFile, totF (l ++ [x]) = totF l + ByteArray.size x.2.1 := fun x => by
  rw [totF_append]
  simp [totF]
 rw [e] at ht
 refine ⟨h.rm, by simpa using h.len, by rw [e]; omega, fun x hx => ?_, ?_, fun x hx => ?_⟩
 ·rcases List.mem_append.1 hx with hx | hx
  ·exact h.name x (by simp [hx])
  ·obtain rfl := List.mem_singleton.1 hx
   rw [h1]
   exact h.name f (by simp)
 ·have hr := h.rise
  rw [List.pairwise_append] at hr ⊢
  refine ⟨hr.1, List.pairwise_singleton _ _, fun x hx y hy => ?_⟩
  obtain rfl := List.mem_singleton.1 hy
  rw [h1]
  exact hr.2.2 x hx f (by simp)
 ·rcases List.mem_append.1 hx with hx | hx
  ·exact h.sure x (by simp [hx])
  ·obtain rfl := List.mem_singleton.1 hx
   exact h3
theorem repair_last {room : Int} {l : List (El kFile)} (h : DK room l) {k : Nat} (hk : k < l.length) (h0 : (wV l).2.2.2.2 = 0) (hN : ∃ N', (wV l).2.2.1 = N' ++ [l[k].1] ∧ N'.length ≤ 1000) (hT : (wV l).2.2.2.1 = (ByteArray.size l[k].2.1 : Int) - (frF l[k]).2.1) :
  gq30 room l = some (room, cond (decide ((wV l).2.2.2.1 > 0)) (cond ((frF l[k]).2.1 == 0) (l.take k ++ l.drop (k + 1)) (l.set k (l[k].1, (cut l[k].2.1 0 (frF l[k]).2.1, mn2 l[k].2.2 (frF l[k]).2.1)))) l, 0) := by
 have h8 := h.len
 have hdp := h.dp
 obtain ⟨N', hN, hNl⟩ := hN
 unfold gq30 gq30.F
 have hr := walRead_i room l (by omega) ⟨h.fit, fun f hf => by have := h.data hf; omega⟩
 unfold readV at hr
 rw [hdp.ok, ct] at hr
 rw [hr, bs, h0, show ((0 : Int) != 0) = false from rfl, cf]
 unfold gq53 gq53.F
 rw [clone_i l (by omega), bs, bs, hN, last_i _ _ N' l[k].1 _ (by omega), bs]
 obtain ⟨_, _, u0, u1⟩ := frF_size l[k]
 have hsz := h.data (List.getElem_mem hk)
 by_cases ht : (wV l).2.2.2.1 > 0
 ·rw [decide_t ht, ct, ct, file_found h hk, bs]
  dsimp only
  rw [grd_of (gIx_t (by omega) (by omega)), Int.toNat_natCast k, rdE_at (k := kFile) hk, hT, wr (x := (ByteArray.size l[k].2.1 : Int) - ((ByteArray.size l[k].2.1 : Int) - (frF l[k]).2.1)) (by omega) (by omega), show (ByteArray.size l[k].2.1 : Int) - ((ByteArray.size l[k].2.1 : Int) - (frF l[k]).2.1) = (frF l[k]).2.1 by omega]
  by_cases hz : (frF l[k]).2.1 = 0
  ·rw [hz, show ((0 : Int) == 0) = true from rfl, ct, ct, do_drop h hk, bs]
  ·rw [show ((frF l[k]).2.1 == 0) = false by simpa using hz, cf, cf, do_cut h hk _ u0 u1, bs]
 ·rw [decide_f ht, cf, cf]
end Go.Proofs.YtaanadbpnmcbcaaGreatDoorA
namespace Go.Proofs.YtaanadbpnmcbcaaGreatDoorA
open Go
set_option linter.unusedVariables false
set_option linter.unusedSimpArgs false
theorem recs_segD (F : Nat) (g : List ByteArray) (t : Nat) : (recs ((segD F g).take (t + 1))).length = segSize (g.take t) := by
 rw [← recs_seg F (g.take t)]
 congr 2
 unfold segD
 rw [List.take_succ_cons, List.map_take]
theorem crash_repair {a : Gs} {g : List ByteArray} {s : Int} (h : LG (a ++ [(g, s)])) (hfull : ∀ x ∈ a, x.2 = (segSize x.1 : Int)) (keep : List Int) (hk : ∀ x ∈ keep, 0 ≤ x ∧ x ≤ 1000) (hkl : keep.length ≤ 1000) (t : Nat) (htl : t ≤ g.length) (ht : t = 0 ∨ (segSize (g.take t) : Int) ≤ s) :
  ∃ x y N F q, gq29 3000 (logF 1 0 (a ++ [(g, s)])) 5 0 ByteArray.empty ByteArray.empty ByteArray.empty keep = some (3000, x, 0) ∧ gq30 3000 x = some (3000, y, 0) ∧ DP 3000 x ∧
   DP 3000 y ∧ readV 3000 y = (F, allR a ++ g.take q, N, 0, 0) ∧ t ≤ q := by
 have hlen : a.length + 1 ≤ 8 := by have := h.len; simpa using this
 have hg : ∀ r ∈ g, Rec1 r := h.recs (g, s) (by simp)
 have hra : RecsOk a := fun x hx => h.recs x (by simp [hx])
 have hs := h.sure (g, s) (by simp)
 have hcnt := h.cnt
 rw [allR_append, List.length_append] at hcnt
 have hdp := h.dp 1 0 (by simp; omega)
 have e1 : logF 1 0 (a ++ [(g, s)]) = logF 1 0 a ++ [segF (1 + a.length) (0 + (allR a).length) g s] := logF_append a [(g, s)] 1 0
 rw [Nat.zero_add] at e1
 have hda := segD_ok (allR a).length hg
 have hzsz : szF (segF (1 + a.length) (allR a).length g s) = segSize g := (strL_size _).trans (recs_seg _ g)
 have hsu : suF (segF (1 + a.length) (allR a).length g s) = s := rfl
 have hcr := crN_range (keep := keep) (i := a.length) (f := segF (1 + a.length) (allR a).length g s) (by rw [hsu]; exact hs.1) (by rw [hsu, hzsz]; exact hs.2)
 rw [hsu, hzsz] at hcr
 obtain ⟨p, hp⟩ : ∃ p : Nat, crN keep a.length (segF (1 + a.length) (allR a).length g s) = (p : Int) := ⟨(crN keep a.length (segF (1 + a.length) (allR a).length g s)).toNat, by have := hs.1; omega⟩
 rw [hp] at hcr
 have hpl : p ≤ (recs (segD (allR a).length g)).length := by rw [recs_seg]; omega
 have hx : crL keep 0 (logF 1 0 (a ++ [(g, s)])) = logF 1 0 a ++ [lastF (1 + a.length) ((recs (segD (allR a).length g)).take p) p] := by
  rw [e1, crL_append, crL_full keep (logF 1 0 a) 0 (fun f hf => by
   obtain ⟨i, F', g', _, _, h3, rfl⟩ := logF_mem a 1 0 f hf
   rw [show szF (segF i F' g'.1 g'.2) = segSize g'.1 from (strL_size _).trans (recs_seg F' g'.1)]
   exact hfull g' h3), logF_length, Nat.zero_add]
  show logF 1 0 a ++ [crF keep a.length (segF (1 + a.length) (allR a).length g s)] = _
  unfold crF
  rw [hp]
  unfold lastF segF
  dsimp only
  rw [cut_strL, sub_take, Int.toNat_natCast]
 have hxb : IsBytes ((recs (segD (allR a).length g)).take p) := (recs_bytes hda).take p
 have hplen : ((recs (segD (allR a).length g)).take p).length = p := by rw [List.length_take]; omega
 have hstep := fileStep_crash hdp keep hk hkl (by rw [hx, List.length_append, logF_length, List.length_singleton]; omega)
 have hdx : ∀ (y : List Int) (u : Int), y.length ≤ p → 0 ≤ u → u ≤ (y.length : Int) → DP 3000 (logF 1 0 a ++ [lastF (1 + a.length) y u]) := fun y u h1 h2 h3 => by
  rw [e1] at hdp
  refine hdp.last rfl ?_ ⟨h2, by show u ≤ ((strL y).size : Int); rw [strL_size]; exact h3⟩
  show (strL y).size ≤ (strL (recs (segD (allR a).length g))).size
  rw [strL_size, strL_size]
  omega
 have hdpx := hdx ((recs (segD (allR a).length g)).take p) p (by omega) (by omega) (by omega)
 rw [hx] at hstep
 obtain ⟨j, hj, hjp, hcut⟩ := recs_cut (segD (allR a).length g) p hpl
 have hjt : t ≤ j - 1 := by
  rcases ht with h0 | h0
  ·omega
  ·rcases Nat.lt_or_ge j (t + 1) with hlt | hge
   ·rcases Nat.eq_zero_or_pos t with ht0 | ht0
    ·omega
    ·exfalso
     have hle := recs_take_le (segD (allR a).length g) (show j + 1 ≤ t + 1 by omega)
     have hsz := recs_segD (allR a).length g t
     rcases hcut with ⟨h5, h6⟩ | ⟨hj', h5, h6, _⟩
     ·-- exact: then p is the length of j frames, below t + 1 frames
      have hlt2 : (recs ((segD (allR a).length g).take j)).length < (recs ((segD (allR a).length g).take (j + 1))).length ∨ j = (segD (allR a).length g).length := by
       rcases Nat.lt_or_ge j (segD (allR a).length g).length with h7 | h7
       ·left
        rw [take_snoc h7, recs_append, List.length_append]
        have : 0 < (recs [(segD (allR a).length g)[j]]).length := by
         rw [recs_cons, List.length_append, frL_len]
         omega
        omega
       ·right; omega
      rcases hlt2 with h7 | h7
      ·omega
      ·have h9 : (segD (allR a).length g).length = g.length + 1 := by unfold segD; simp
       omega
     ·omega
   ·omega
 have hL9 : 1 + a.length ≤ 99 := by omega
 have hFl : (allR a).length < 4294967296 := by omega
 have hjtk : ∀ d ∈ (segD (allR a).length g).take j, Fr1 d := fun d hd => hda d (List.mem_of_mem_take hd)
 have hk8 : a.length < (logF 1 0 a ++ [lastF (1 + a.length) ((recs (segD (allR a).length g)).take p) (p : Int)]).length := by rw [List.length_append, logF_length, List.length_singleton]; omega
 have hget : ∀ f : El kFile, (logF 1 0 a ++ [f])[a.length]'(by rw [List.length_append, logF_length, List.length_singleton]; omega) = f := fun f => by
  rw [List.getElem_append_right (by rw [logF_length]; exact Nat.le_refl _)]
  have hone : ∀ (i : Nat) (hi : i < [f].length), [f][i] = f := fun i hi => by
   rw [List.length_singleton] at hi
   obtain rfl : i = 0 := by omega
   rfl
  exact hone _ _
 have hnms : (nms 1 a.length).length ≤ 1000 := by rw [nms_length]; omega
 have read : ∀ (y : List Int) (u : Int), DP 3000 (logF 1 0 a ++ [lastF (1 + a.length) y u]) → frT y = (((segD (allR a).length g).take j).map strL, (y.length : Int), 0) → IsBytes y → readV 3000 (logF 1 0 a ++ [lastF (1 + a.length) y u]) = (0, allR a ++ g.take (j - 1), nms 1 a.length ++ [nmV ((1 + a.length : Nat) : Int)], 0, 0) := fun y u hd hf hb => by
  unfold readV
  rw [hd.ok, ct, wV_lastF hra hg hL9 hFl hf hb (.inl rfl), Int.sub_self]
 rcases hcut with ⟨h5, h6⟩ | ⟨hj', h5, h6, h7, h8⟩
 ·-- whole frames
  have hfr := frT_all hjtk
  rw [← h6] at hfr
  rw [h6] at hplen
  have hfr' : frT ((recs (segD (allR a).length g)).take p) = (((segD (allR a).length g).take j).map strL, (((recs (segD (allR a).length g)).take p).length : Int), 0) := hfr
  have hw := wV_lastF hra (s := (p : Int)) hg hL9 hFl hfr' hxb (.inl rfl)
  have hrep := repair_last hdpx.dk hk8 (by rw [hw]) ⟨nms 1 a.length, by rw [hw, hget]; rfl, hnms⟩ (by
   rw [hw, hget]
   unfold frF lastF
   rw [bytesL_strL hxb, hfr', strL_size])
  rw [hw] at hrep
  dsimp only at hrep
  rw [Int.sub_self, show decide ((0 : Int) > 0) = false from rfl, cf] at hrep
  exact ⟨_, _, _, _, j - 1, hstep, hrep, hdpx, hdpx, read _ _ hdpx hfr' hxb, hjt⟩
 ·-- a piece of a frame behind them
  have hpos : 0 < p - (recs ((segD (allR a).length g).take j)).length := by omega
  have hfr := frT_part hjtk (hda _ (List.getElem_mem hj')) hpos h7
  rw [← h8] at hfr
  have hw := wV_lastF hra (s := (p : Int)) hg hL9 hFl hfr hxb (.inr rfl)
  have hu : (frF (lastF (1 + a.length) ((recs (segD (allR a).length g)).take p) (p : Int))).2.1 = ((recs ((segD (allR a).length g).take j)).length : Int) := by
   unfold frF lastF
   rw [bytesL_strL hxb, hfr]
  have hrep := repair_last hdpx.dk hk8 (by rw [hw]) ⟨nms 1 a.length, by rw [hw, hget]; rfl, hnms⟩ (by
   rw [hw, hget, hu]
   show _ = ((strL ((recs (segD (allR a).length g)).take p)).size : Int) - _
   rw [strL_size])
  rw [hw, hget, hu] at hrep
  dsimp only at hrep
  rw [decide_t (by omega), ct] at hrep
  by_cases hz : ((recs ((segD (allR a).length g).take j)).length : Int) = 0
  ·-- none is whole: the segment goes
   have hj0 : j = 0 := by
    have := recs_len (ds := (segD (allR a).length g).take j)
    rw [List.length_take] at this
    omega
   rw [hz, show ((0 : Int) == 0) = true from rfl, ct] at hrep
   have htk : (logF 1 0 a ++ [lastF (1 + a.length) ((recs (segD (allR a).length g)).take p) (p : Int)]).take a.length ++ (logF 1 0 a ++ [lastF (1 + a.length) ((recs (segD (allR a).length g)).take p) (p : Int)]).drop (a.length + 1) = logF 1 0 a := by
    rw [List.take_left' (logF_length a 1 0), List.drop_of_length_le (by rw [List.length_append, logF_length, List.length_singleton]; exact Nat.le_refl _), List.append_nil]
   rw [htk] at hrep
   have hda' : DP 3000 (logF 1 0 a) := hdpx.sub (List.sublist_append_left _ _)
   refine ⟨_, _, nms 1 a.length, 0, j - 1, hstep, hrep, hdpx, hda', ?_, hjt⟩
   unfold readV
   rw [hda'.ok, ct, hj0]
   cases ha0 : a with
   | nil => rfl
   | cons y b =>
    rw [← ha0, wV_log a 1 0 hra (Nat.le_refl _) (by omega) (by omega) (by rw [ha0]; simp)]
    simp
  ·rw [show (((recs ((segD (allR a).length g).take j)).length : Int) == 0) = false by simpa using hz, cf] at hrep
   have hmn : mn2 (p : Int) ((recs ((segD (allR a).length g).take j)).length : Int) = ((recs ((segD (allR a).length g).take j)).length : Int) := by
    unfold mn2
    split <;> omega
   have hcutl : cut (strL ((recs (segD (allR a).length g)).take p)) 0 ((recs ((segD (allR a).length g).take j)).length : Int) = strL (recs ((segD (allR a).length g).take j)) := by
    rw [cut_strL, sub_take, Int.toNat_natCast, h8]
    rw [List.take_left' rfl]
   have hset : (logF 1 0 a ++ [lastF (1 + a.length) ((recs (segD (allR a).length g)).take p) (p : Int)]).set a.length ((lastF (1 + a.length) ((recs (segD (allR a).length g)).take p) (p : Int)).1, (cut (lastF (1 + a.length) ((recs (segD (allR a).length g)).take p) (p : Int)).2.1 0 ((recs ((segD (allR a).length g).take j)).length : Int), mn2 (lastF (1 + a.length) ((recs (segD (allR a).length g)).take p) (p : Int)).2.2 ((recs ((segD (allR a).length g).take j)).length : Int))) = logF 1 0 a ++ [lastF (1 + a.length) (recs ((segD (allR a).length g).take j)) ((recs ((segD (allR a).length g).take j)).length : Int)] := by
    rw [List.set_append_right _ _ (by rw [logF_length]; exact Nat.le_refl _), logF_length, Nat.sub_self]
    show logF 1 0 a ++ [((lastF (1 + a.length) ((recs (segD (allR a).length g)).take p) (p : Int)).1, (cut (strL ((recs (segD (allR a).length g)).take p)) 0 ((recs ((segD (allR a).length g).take j)).length : Int), mn2 (p : Int) ((recs ((segD (allR a).length g).take j)).length : Int)))] = _
    rw [hcutl, hmn]
    rfl
   rw [hset] at hrep
   have hdy := hdx (recs ((segD (allR a).length g).take j)) ((recs ((segD (allR a).length g).take j)).length : Int) (by omega) (by omega) (Int.le_refl _)
   exact ⟨_, _, _, _, j - 1, hstep, hrep, hdpx, hdy, read _ _ hdy (frT_all hjtk) (recs_bytes hjtk), hjt⟩
end Go.Proofs.YtaanadbpnmcbcaaGreatDoorA
namespace Go.Proofs.YtaanadbpnmcbcaaGreatDoorA
open Go
set_option linter.unusedVariables false
set_option linter.unusedSimpArgs false
theorem gs_len : ∀ (gs : Gs), (∀ g ∈ gs, g.1 ≠ []) → gs.length ≤ (allR gs).length
 | [], _ => Nat.le_refl _
 | g :: gs, h => by
  have h1 := gs_len gs fun x hx => h x (by simp [hx])
  have h3 : g.1.length ≠ 0 := fun e => h g (by simp) (List.length_eq_zero_iff.1 e)
  rw [allR_cons, List.length_append, List.length_cons]
  omega
def Syn (gs : Gs) (sy : Nat) : Prop := (gs = [] ∧ sy = 0) ∨ ∃ a g s t, gs = a ++ [(g, s)] ∧ (∀ x ∈ a, x.2 = (segSize x.1 : Int)) ∧ t ≤ g.length ∧ (t = 0 ∨ (segSize (g.take t) : Int) ≤ s) ∧ sy = (allR a).length + t
def b2 (gs : Gs) (r : ByteArray) : Bool := match gs.getLast? with
 | none => false
 | some g => decide (160 < segSize g.1 + (6 + r.size))
theorem Syn.add {gs : Gs} {sy : Nat} (h : Syn gs sy) (r : ByteArray) : Syn (addG gs r) (cond (b2 gs r) (allR gs).length sy) := by
 rcases h with ⟨rfl, rfl⟩ | ⟨a, g, s, t, rfl, h1, h2, h3, rfl⟩
 ·exact .inr ⟨[], [r], 0, 0, rfl, fun x hx => by simp at hx, Nat.zero_le _, .inl rfl, rfl⟩
 ·rw [addG_snoc]
  have hb : b2 (a ++ [(g, s)]) r = decide (160 < segSize g + (6 + r.size)) := by
   unfold b2
   simp
  rw [hb]
  by_cases hz : segSize g + (6 + r.size) ≤ 160
  ·rw [if_pos hz, decide_f (by omega), cf]
   refine .inr ⟨a, g ++ [r], s, t, rfl, h1, by simp; omega, ?_, rfl⟩
   rw [List.take_append_of_le_length h2]
   exact h3
  ·rw [if_neg hz, decide_t (by omega), ct]
   refine .inr ⟨a ++ [(g, (segSize g : Int))], [r], 0, 0, by simp, fun x hx => ?_, Nat.zero_le _, .inl rfl, ?_⟩
   ·rcases List.mem_append.1 hx with hx | hx
    ·exact h1 x hx
    ·obtain rfl := List.mem_singleton.1 hx
     rfl
   ·rw [allR_append, allR_append]
    rfl
theorem sync_lg {gs : Gs} (h : LG gs) (hne : gs ≠ []) {sy : Nat} (hs : Syn gs sy) : ∃ gs', syncV (logF 1 0 gs) = logF 1 0 gs' ∧ LG gs' ∧ allR gs' = allR gs ∧ Syn gs' (allR gs).length := by
 rcases hs with ⟨rfl, _⟩ | ⟨a, g, s, t, rfl, h1, h2, h3, rfl⟩
 ·exact absurd rfl hne
 have hlen : a.length + 1 ≤ 8 := by have := h.len; simpa using this
 have e1 : logF 1 0 (a ++ [(g, s)]) = logF 1 0 a ++ [segF (1 + a.length) (0 + (allR a).length) g s] := logF_append a [(g, s)] 1 0
 have hlast : (segs (logF 1 0 (a ++ [(g, s)]))).getLast? = some (segF (1 + a.length) (0 + (allR a).length) g s) := by
  rw [segs_log _ 1 0 (Nat.le_refl _) (by simp; omega), e1, List.getLast?_append]
  rfl
 have hall : allR (a ++ [(g, (segSize g : Int))]) = allR (a ++ [(g, s)]) := by rw [allR_append, allR_append]; rfl
 refine ⟨a ++ [(g, (segSize g : Int))], ?_, ⟨fun x hx => ?_, fun x hx => ?_, fun x hx => ?_, by simp; omega, by rw [hall]; exact h.cnt⟩, hall, .inr ⟨a, g, _, g.length, rfl, h1, Nat.le_refl _, .inr (by rw [List.take_length]; exact Int.le_refl _), ?_⟩⟩
 ·unfold syncV
  rw [hlast]
  exact sy_log (n := 1) (F := 0) (gs := a) (g := g) (s := s) (by omega)
 ·rcases List.mem_append.1 hx with hx | hx
  ·exact h.recs x (by simp [hx])
  ·obtain rfl := List.mem_singleton.1 hx
   exact h.recs (g, s) (by simp)
 ·rcases List.mem_append.1 hx with hx | hx
  ·exact h.ne x (by simp [hx])
  ·obtain rfl := List.mem_singleton.1 hx
   exact h.ne (g, s) (by simp)
 ·rcases List.mem_append.1 hx with hx | hx
  ·exact h.sure x (by simp [hx])
  ·obtain rfl := List.mem_singleton.1 hx
   exact ⟨Int.natCast_nonneg _, Int.le_refl _⟩
 ·rw [allR_append]
  simp [allR]
theorem addG_ne (gs : Gs) (r : ByteArray) : addG gs r ≠ [] := fun e => by
 have := congrArg List.length (allR_add gs r)
 rw [e] at this
 simp [allR] at this
end Go.Proofs.YtaanadbpnmcbcaaGreatDoorA
namespace Go.Proofs.YtaanadbpnmcbcaaGreatDoorA
open Go
set_option linter.unusedVariables false
set_option linter.unusedSimpArgs false
theorem plan_len {gs : Gs} (h : LG gs) {r : ByteArray} (hr : Rec1 r) : (planV (logF 1 0 gs) r).length = cond (b2 gs r) 2 1 := by
 have hlen := h.len
 unfold Rec1 at hr
 unfold planV b2
 rcases List.eq_nil_or_concat gs with rfl | ⟨a, g, rfl⟩
 ·rfl
 ·rw [List.concat_eq_append] at *
  have hl : a.length + 1 ≤ 8 := by simpa using hlen
  have e1 : logF 1 0 (a ++ [g]) = logF 1 0 a ++ [segF (1 + a.length) (0 + (allR a).length) g.1 g.2] := logF_append a [g] 1 0
  have hlast : (segs (logF 1 0 (a ++ [g]))).getLast? = some (segF (1 + a.length) (0 + (allR a).length) g.1 g.2) := by
   rw [segs_log _ 1 0 (Nat.le_refl _) (by omega), e1, List.getLast?_append]
   rfl
  have hlast2 : (a ++ [g]).getLast? = some g := by simp
  have hsz : ByteArray.size (segF (1 + a.length) (0 + (allR a).length) g.1 g.2).2.1 = segSize g.1 := (strL_size _).trans (recs_seg _ g.1)
  have hseg : segSize g.1 = 10 + (g.1.map fun r => 6 + r.size).sum := rfl
  rw [hlast, hlast2]
  unfold planL
  dsimp only
  rw [hsz, show (((segSize g.1 : Nat) : Int) == 0) = false by rw [beq_eq_false_iff_ne]; omega, cf, frB_size]
  by_cases hz : 160 < segSize g.1 + (6 + r.size)
  ·rw [decide_t hz, decide_t (by omega), ct, ct]
   rfl
  ·rw [decide_f hz, decide_f (by omega), cf, cf]
   rfl
theorem wal_loop {R : Type} (kke : List Int → Int → Int → List ByteArray → List (El kFile) → Option R) (kkr : Bool → Option R) (code more : List Int) (hb : IsBytes code) (hl : code.length ≤ 1048576) (hm : IsBytes more) (hml : more.length ≤ 1048576) (N : Nat) (hN : N ≤ 7) :
  ∀ (m fu i : Nat) (gs : Gs) (sy : Nat), i + m = N → m < fu → LG gs → (allR gs).length = i → Syn gs sy →
   ∃ gs' sy', LG gs' ∧ (allR gs').length = N ∧ Syn gs' sy' ∧ gq5.l2 kke kkr fu code more (sy : Int) (N : Int) (i : Int) 3000 (allR gs) (logF 1 0 gs) = kke more (sy' : Nat) 3000 (allR gs') (logF 1 0 gs') := by
 intro m
 induction m with
 | zero =>
  intro fu i gs sy e hf h hc hs
  obtain ⟨fu, rfl⟩ : ∃ q, fu = q + 1 := ⟨fu - 1, by omega⟩
  simp only [gq5.l2]
  rw [decide_f (by omega), cf]
  exact ⟨gs, sy, h, by omega, hs, rfl⟩
 | succ m ih =>
  intro fu i gs sy e hf h hc hs
  obtain ⟨fu, rfl⟩ : ∃ q, fu = q + 1 := ⟨fu - 1, by omega⟩
  simp only [gq5.l2]
  obtain ⟨r, e1, hr⟩ := recordOf_eq ([IntKind.wrap .u8 (i : Int)] ++ code) (by
   refine IsBytes.append (fun y hy => ?_) hb
   obtain rfl := List.mem_singleton.1 hy
   rw [wr8 (by omega) (by omega)]
   omega) (by simp; omega)
  have hlen := h.len
  have hdp := h.dp 1 0 (by omega)
  have hr' := hr
  unfold Rec1 at hr'
  have hfit : DFit (logF 1 0 gs) := ⟨hdp.dk.fit, fun f hf => by have := hdp.dk.data hf; omega⟩
  have hgl := gs_len gs h.ne
  have hal := (addG_len gs r).1
  obtain ⟨w1, _⟩ := wap_lg h hr (by omega)
  have w1 := w1 (by omega)
  have hchk := chk_lg h hr
  have hi : gq25 3000 (logF 1 0 gs) r = some (planV (logF 1 0 gs) r, 0) := by
   unfold gq25 gq25.F
   rw [isText_eq [r] (by simp), bs, show ([r].all isTx) = true by simp [isTx]; omega, Bool.not_true, cf, disk_i 3000 _ (by rw [logF_length]; omega) hfit, bs, hdp.ok, Bool.not_true, cf, walPlan_i hdp.dk r (by omega), bs, hchk]
   rfl
  have hsp : gq26 3000 (logF 1 0 gs) r = some (planV (logF 1 0 gs) r, 0) := by
   obtain ⟨F, R', N', T, c1, c2⟩ := check_v hdp r (by omega)
   obtain ⟨rfl, rfl⟩ := c2 hchk
   unfold gq26 gq26.F
   rw [decide_f (by omega), cf, c1, bs, hchk]
   dsimp only
   rw [show ((0 : Int) != 0) = false from rfl, cf, planDo_s hdp hchk, bs]
  have hap : gq27 3000 (logF 1 0 gs) r = some (3000, logF 1 0 (addG gs r), 0) := by
   rw [walFull_i 3000 (logF 1 0 gs) (by rw [logF_length]; omega) hfit r (by omega)]
   unfold wfV
   rw [decide_f (by omega), cf, hdp.ok, Bool.not_true, cf, w1]
  have h2 := h.add hr (by omega) (by omega)
  have hs2 := hs.add r
  have hall := allR_add gs r
  have hplan := plan_len h hr
  rw [decide_t (by omega), ct, grd_of (gRm_t (by simp; omega)), e1, bs, hi, bs, hsp, bs, hap, bs]
  dsimp only
  rw [bne_self_eq_false, cf, bne_self_eq_false, cf, cf]
  have hj : ∀ k : Int → Option R, cond (((planV (logF 1 0 gs) r).length : Int) == 2) (k (List.length (allR gs) : Int)) (k (sy : Int)) = k ((cond (b2 gs r) (allR gs).length sy : Nat) : Int) := fun k => by
   rw [hplan]
   cases b2 gs r <;> rfl
  let K : Int → Option R := fun synced1 =>
   grd (gRm (((List.length (allR gs)) + (List.length [r])) * 16)) <|
   (l_at more (IntKind.wrap .i64 ((i : Int) + (1 : Int))) (3 : Int)).bind fun r5 =>
   cond (r5 == (0 : Int)) (
    (gq28 3000 (logF 1 0 (addG gs r))).bind fun r6 =>
    cond (r6.2.2 != (0 : Int)) (kkr false) (
     gq5.l2 kke kkr fu code more (List.length (allR gs ++ [r]) : Int) (N : Int) (IntKind.wrap .i64 ((i : Int) + (1 : Int))) r6.1 (allR gs ++ [r]) r6.2.1)) (
    gq5.l2 kke kkr fu code more synced1 (N : Int) (IntKind.wrap .i64 ((i : Int) + (1 : Int))) 3000 (allR gs ++ [r]) (logF 1 0 (addG gs r)))
  suffices hgo : ∃ gs' sy', LG gs' ∧ (allR gs').length = N ∧ Syn gs' sy' ∧ K ((cond (b2 gs r) (allR gs).length sy : Nat) : Int) = kke more ((sy' : Nat) : Int) 3000 (allR gs') (logF 1 0 gs') by
   obtain ⟨gs', sy', g1, g2, g3, g4⟩ := hgo
   exact ⟨gs', sy', g1, g2, g3, (hj K).trans g4⟩
  show ∃ gs' sy', LG gs' ∧ (allR gs').length = N ∧ Syn gs' sy' ∧ (grd (gRm (((List.length (allR gs)) + (List.length [r])) * 16)) <|
   (l_at more (IntKind.wrap .i64 ((i : Int) + (1 : Int))) (3 : Int)).bind fun r5 =>
   cond (r5 == (0 : Int)) (
    (gq28 3000 (logF 1 0 (addG gs r))).bind fun r6 =>
    cond (r6.2.2 != (0 : Int)) (kkr false) (
     gq5.l2 kke kkr fu code more (List.length (allR gs ++ [r]) : Int) (N : Int) (IntKind.wrap .i64 ((i : Int) + (1 : Int))) r6.1 (allR gs ++ [r]) r6.2.1)) (
    gq5.l2 kke kkr fu code more ((cond (b2 gs r) (allR gs).length sy : Nat) : Int) (N : Int) (IntKind.wrap .i64 ((i : Int) + (1 : Int))) 3000 (allR gs ++ [r]) (logF 1 0 (addG gs r)))) = kke more ((sy' : Nat) : Int) 3000 (allR gs') (logF 1 0 gs')
  obtain ⟨v, e5, v0, v1⟩ := at_eq more hm hml ((i : Int) + 1) 3 (by omega) (by omega) (by decide) (by decide)
  rw [grd_of (gRm_t (by simp; omega)), wr (x := (i : Int) + 1) (by omega) (by omega), e5, bs, ← hall]
  by_cases hv : v = 0
  ·subst hv
   have hdp2 := h2.dp 1 0 (by have := h2.len; omega)
   obtain ⟨gs', s1, s2, s3, s4⟩ := sync_lg h2 (addG_ne gs r) hs2
   have hsy : gq28 3000 (logF 1 0 (addG gs r)) = some (3000, logF 1 0 gs', 0) := by
    unfold gq28 gq28.F
    rw [disk_i 3000 _ (by have := hdp2.len; omega) ⟨hdp2.dk.fit, fun f hf => by have := hdp2.dk.data hf; omega⟩, bs, hdp2.ok, Bool.not_true, cf, walSync_i hdp2.dk, bs, s1]
   rw [show ((0 : Int) == 0) = true from rfl, ct, hsy, bs]
   dsimp only
   rw [show ((0 : Int) != 0) = false from rfl, cf, show ((i : Int) + 1) = ((i + 1 : Nat) : Int) by omega, ← s3]
   refine ih fu (i + 1) gs' _ (by omega) (by omega) s2 (by rw [s3, hall]; simp; omega) ?_
   rw [s3]
   exact s4
  ·rw [show (v == 0) = false by simpa using hv, cf, show ((i : Int) + 1) = ((i + 1 : Nat) : Int) by omega]
   exact ih fu (i + 1) _ _ (by omega) (by omega) h2 (by rw [hall]; simp; omega) hs2
theorem keep_loop {R : Type} (kke : Int → Int → List ByteArray → List Int → List (El kFile) → Option R) (more : List Int) (hm : IsBytes more) (hml : more.length ≤ 1048576) (sy d : Int) (list : List ByteArray) (l : List (El kFile)) : ∀ (m fu i : Nat) (keep : List Int), i + m = 8 → m < fu → keep.length = i → (∀ x ∈ keep, 0 ≤ x ∧ x ≤ 1000) →
  ∃ keep', keep'.length = 8 ∧ (∀ x ∈ keep', 0 ≤ x ∧ x ≤ 1000) ∧ gq5.l3 kke fu more sy (i : Int) d list keep l = kke sy d list keep' l := by
 intro m
 induction m with
 | zero =>
  intro fu i keep e hf hk hx
  obtain ⟨fu, rfl⟩ : ∃ q, fu = q + 1 := ⟨fu - 1, by omega⟩
  simp only [gq5.l3]
  rw [decide_f (by omega), cf]
  exact ⟨keep, by omega, hx, rfl⟩
 | succ m ih =>
  intro fu i keep e hf hk hx
  obtain ⟨fu, rfl⟩ : ∃ q, fu = q + 1 := ⟨fu - 1, by omega⟩
  simp only [gq5.l3]
  obtain ⟨v, e5, v0, v1⟩ := at_eq more hm hml (20 + (i : Int)) 60 (by omega) (by omega) (by decide) (by decide)
  rw [decide_t (by omega), ct, wr (x := 20 + (i : Int)) (by omega) (by omega), e5, bs, grd_of (gRm_t (by simp; omega)), wr (by omega) (by omega), show ((i : Int) + 1) = ((i + 1 : Nat) : Int) by omega]
  refine ih fu (i + 1) _ (by omega) (by omega) (by simp; omega) fun x hx' => ?_
  rcases List.mem_append.1 hx' with hx' | hx'
  ·exact hx x hx'
  ·obtain rfl := List.mem_singleton.1 hx'
   omega
theorem begins_self (L R : List ByteArray) (hL : L.length ≤ 1000) (h : ∃ T, L = R ++ T) : gq32 L R = some true := by
 obtain ⟨T, rfl⟩ := h
 rw [List.length_append] at hL
 unfold gq32 gq32.F
 rw [List.length_append, decide_t (by omega), ct, grd_of (gSl_t (by decide) (by omega) (by omega)), sub_take, Int.toNat_natCast, List.take_left' rfl, texts_self R (by omega), bs]
theorem wal_law (code more : List Int) (hc : IsBytes code) (hm : IsBytes more) : gq5 code more = some true := by
 unfold gq5 gq5.F
 by_cases h1 : (code.length : Int) > 1048576
 ·rw [decide_t h1, ct]
 rw [decide_f h1, cf]
 by_cases h2 : (more.length : Int) > 1048576
 ·rw [decide_t h2, ct]
 rw [decide_f h2, cf, newDisk_s, bs]
 obtain ⟨v, e1, v0, v1⟩ := at_eq more hm (by omega) 0 7 (by decide) (by decide) (by decide) (by decide)
 rw [e1, bs, wr (by omega) (by omega)]
 obtain ⟨N, hN⟩ : ∃ N : Nat, 1 + v = (N : Int) := ⟨(1 + v).toNat, by omega⟩
 rw [hN]
 dsimp only
 obtain ⟨gs, sy, h, hcnt, hs, hx⟩ := wal_loop (fun more1 synced d list l =>
    (gq21 d l).bind fun r2 =>
    cond (r2.2.2.2.2 != (0 : Int)) (some false) (
     (gq24 r2.2.1 list).bind fun r3 =>
     cond (!r3) (some false) (
      cond (r2.1 != (0 : Int)) (some false) (
       cond (r2.2.2.2.1 != (0 : Int)) (some false) (
        gq5.l3 (fun synced1 d1 list1 keep l1 =>
         (gq29 d1 l1 (5 : Int) (0 : Int) ByteArray.empty ByteArray.empty ByteArray.empty keep).bind fun r4 =>
         (gq30 r4.1 r4.2.1).bind fun r5 =>
         (gq21 r5.1 r5.2.1).bind fun r6 =>
         (gq31 r4.1 r4.2.1).bind fun r7 =>
         cond (r4.2.2 == (0 : Int)) (
          cond (r5.2.2 == (0 : Int)) (
           cond (r6.2.2.2.2 == (0 : Int)) (
            cond (r6.2.2.2.1 == (0 : Int)) (
             (gq22 r5.1 r5.2.1 r7.1 r7.2.1).bind fun r8 =>
             cond (r8) (
              (gq32 list1 r6.2.1).bind fun r9 =>
              cond (r9) (some (decide ((List.length r6.2.1 : Int) ≥ synced1))) (some false)) (some false)) (some false)) (some false)) (some false)) (some false)) fuel more1 synced (0 : Int) d list ([] : List Int) l))))) (fun b => some b) code more hc (by omega) hm (by omega) N (by omega) N fuel 0 [] 0 (by omega) (fuel_big (by omega)) LG.nil rfl (.inl ⟨rfl, rfl⟩)
 refine Eq.trans hx ?_
 have hlen := h.len
 have hdp := h.dp 1 0 (by omega)
 have hne : gs ≠ [] := by
  rintro rfl
  simp [allR] at hcnt
  omega
 have r1 := walRead_i 3000 (logF 1 0 gs) (by rw [logF_length]; omega) ⟨hdp.dk.fit, fun f hf => by have := hdp.dk.data hf; omega⟩
 have hread : readV 3000 (logF 1 0 gs) = ((0 : Int), allR gs, nms 1 gs.length, 0, 0) := by
  unfold readV
  rw [hdp.ok, ct]
  exact wV_lg h 1 0 (Nat.le_refl _) (by omega) (by omega) hne
 rw [hread] at r1
 rw [r1, bs]
 dsimp only
 rw [show ((0 : Int) != 0) = false from rfl, cf, texts_self _ (by omega), bs, Bool.not_true, cf, cf, cf]
 obtain ⟨keep, k1, k2, k3⟩ := keep_loop (fun synced1 d1 list1 keep l1 =>
         (gq29 d1 l1 (5 : Int) (0 : Int) ByteArray.empty ByteArray.empty ByteArray.empty keep).bind fun r4 =>
         (gq30 r4.1 r4.2.1).bind fun r5 =>
         (gq21 r5.1 r5.2.1).bind fun r6 =>
         (gq31 r4.1 r4.2.1).bind fun r7 =>
         cond (r4.2.2 == (0 : Int)) (
          cond (r5.2.2 == (0 : Int)) (
           cond (r6.2.2.2.2 == (0 : Int)) (
            cond (r6.2.2.2.1 == (0 : Int)) (
             (gq22 r5.1 r5.2.1 r7.1 r7.2.1).bind fun r8 =>
             cond (r8) (
              (gq32 list1 r6.2.1).bind fun r9 =>
              cond (r9) (some (decide ((List.length r6.2.1 : Int) ≥ synced1))) (some false)) (some false)) (some false)) (some false)) (some false)) (some false)) more hm (by omega) (sy : Int) 3000 (allR gs) (logF 1 0 gs) 8 fuel 0 [] rfl (fuel_big (by decide)) rfl (fun x hx => by simp at hx)
 refine Eq.trans k3 ?_
 rcases hs with ⟨rfl, _⟩ | ⟨a, g, s, t, rfl, h3, h4, h5, rfl⟩
 ·exact absurd rfl hne
 obtain ⟨x, y, N', F, q, c1, c2, c3, c4, c5, c6⟩ := crash_repair h h3 keep k2 (by omega) t h4 h5
 obtain ⟨r, rr1, rr2, _⟩ := repair_eq 3000 x (by have := c3.len; omega) ⟨c3.dk.fit, fun f hf => by have := c3.dk.data hf; omega⟩
 rw [c2] at rr1
 obtain rfl := Option.some.inj rr1
 have r2 := walRead_i 3000 y (by have := c4.len; omega) ⟨c4.dk.fit, fun f hf => by have := c4.dk.data hf; omega⟩
 rw [c5] at r2
 rw [c1, bs]
 dsimp only
 rw [c2, bs]
 dsimp only
 rw [r2, bs, rr2, bs]
 dsimp only
 have hpre : ∃ T, allR (a ++ [(g, s)]) = (allR a ++ g.take q) ++ T := ⟨g.drop q, by
  rw [allR_append, List.append_assoc, List.take_append_drop]
  simp [allR]⟩
 rw [show ((0 : Int) == 0) = true from rfl, ct, ct, ct, ct, disk_self 3000 y (by have := c4.len; omega), bs, ct, begins_self _ _ (by omega) hpre, bs, ct]
 rw [decide_t]
 rw [List.length_append, List.length_take]
 omega
theorem pFnWal : ∀ (x0 : El (.list (.int .u8))) (x1 : El (.list (.int .u8))), (x0.length * 1 ≤ 140737488351232 ∧ x0.length ≤ maxLen ∧ ∀ y ∈ x0, (Lit.int .u8 y).wf = true) → (x1.length * 1 ≤ 140737488351232 ∧ x1.length ≤ maxLen ∧ ∀ y ∈ x1, (Lit.int .u8 y).wf = true) → gq5 x0 x1 = some true := by
 intro x0 x1 h0 h1
 exact wal_law x0 x1 (isBytes_of_wf h0.2.2) (isBytes_of_wf h1.2.2)
end Go.Proofs.YtaanadbpnmcbcaaGreatDoorA
